/-Ek of the proof,laid behind one another. -/
import Derived.Test.YtlfdmhfhkgpmbaaGreatKAdjustAdds4
set_option linter.all false
set_option maxHeartbeats 64000000
set_option maxRecDepth 4000
namespace Go.Proofs.YtlfdmhfhkgpmbaaGreat
section
open Go.RowKit
attribute [local irreducible] ak VS
abbrev KP:KC:=⟨UU,λ_=>True,λt=> !(Nat.beq t 175 || (Nat.beq t 177 || Nat.beq t 34))⟩
abbrev Lv (P:Program) (w:World) (N:Nat) (ad:List Nat) (hd:ad.Nodup) (ha:jo KP ad w):Cx:=uR P w N KP (λt=>Nat.beq t 30) table (λ_ _=>trivial) ad hd ha
theorem km (w:World) (N:Nat) {ad:List Nat} {hd:ad.Nodup} {ha:jo KP ad w}:(Lv Tryz.prog w N ad hd ha).Ok:=jq
theorem Hg (w:World) (N:Nat) {ad:List Nat} {hd:ad.Nodup} {ha:jo KP ad w}:(Lv Tryz.prog w N ad hd ha).P.follows .mixedOrders=true:=by show Tryz.prog.follows .mixedOrders=true;kernel_rfl
section
variable {C:Cx} {m:Option (List FuncId)} {full:Array Oper} {K:Fr->Hp->World->Prop} {F F':Fr} {H H':Hp} {w w1:World} {N:Nat} {o:Oper} {r l l':List Oper} {Q:Exit->Act->World->Prop} {k k':List It} {v:AV} {u:Option (Nat×(TypeId×List AV))} {id:Nat} {ops:Array Oper}
theorem cxP_r {ad:List Nat} {hd:ad.Nodup} {ha:jo KP ad w1} (e:kj (Lv Tryz.prog w1 N ad hd ha) ops 80 ops.toList F H=(l',F',H')) (h:ak (Lv Tryz.prog w1 N ad hd ha) none ops l' (VS (Lv Tryz.prog w1 N ad hd ha) Q k) F' H' w):VS (Lv Tryz.prog w1 N ad hd ha) Q (.code (.region id ops false)::k) F H w:=VS.region (km _ _) (VO.run 80 e h)
theorem cxP_d {ad:List Nat} {hd:ad.Nodup} {ha:jo KP ad w1} (e:kj (Lv Tryz.prog w1 N ad hd ha) ops 80 ops.toList F H=(l',F',H')) (h:ak (Lv Tryz.prog w1 N ad hd ha) (some []) ops l' (VS (Lv Tryz.prog w1 N ad hd ha) Q k) F' H' w) (kK:jl (Lv Tryz.prog w1 N ad hd ha).SU [] ops=true:=by kernel_rfl):VS (Lv Tryz.prog w1 N ad hd ha) Q (.code (.region id ops true)::k) F H w:=VS.draw (km _ _) (Hg _ _) [] kK (VO.run 80 e h)
end
structure LedR (kk:Nat) (w:World) (g r n c:Nat) (vs:List (List Value)) (spare:List Value) (l:List bS):Prop where
 len:n=l.length
 ne:g≠r
 led:aR w g 175 #[.slice (some ⟨r,0,none⟩) n c]
 row:aR w r 177 (vs.flatten++spare).toArray
 el:fO (ni kk) w l vs
 ok:spare.all aM=true
 le:n<=c
 cm:c<=9223372036854775807
 fl:(vs.flatten++spare).length=c*6
def LedAt (kk:Nat) (w:World) (B g:Nat) (l:List bS):Prop:=
 (l=[]/\aR w g 175 #[.slice none 0 0])\/∃ r n c vs spare,B<=r/\LedR kk w g r n c vs spare l
theorem Lw (w:World):Calls Tryz.prog 34 #[] w λo w'=>∃ g,o=.returned (.pointer (some ⟨g,0,none⟩))/\w.heap.size<=g/\aR w' g 175 #[.slice none 0 0]/\au w w':=by
 refine ae (C:=aV Tryz.prog w _) (args:=[]) Tryz.func34 rfl Tryz.ntmps34 (bD rfl) ?_
 refine ab ?_
 refine VS.oP (cQ _ _) rfl (λwz β kz bz en=> ?_)
 exact⟨_,rfl,(en.own 2 _ _ rfl).new,(en.own 2 _ _ rfl).cls,bz⟩
end
section
open Go.RowKit
attribute [local irreducible] ak VS
def gm (l:List bS) (e:bS):List bS:=if cH e.exp=true then l else if e.exp.2.2.2=0 then l else l++[e]
def Left (w:World) (r:Nat):Prop:=∃ (t:TypeId) (cs:List Value),aR w r t cs.toArray/\KP.fz t=false/\cs.all aM=true
theorem gI {P Q:Prop} (h:Q) (i:Q->P:=by intro h;(repeat first|refine wN ?_|refine wP rfl ?_|refine cxP_r rfl ?_|refine cxP_d rfl ?_|refine wO rfl rfl ?_);exact h):P:=i h
theorem cTcxP {P Q X:Prop} (hb:X) (h:Q) (i:X->Q->P:=by intro hb h;refine⟨_,rfl,hb,λa b c=>wV rfl ?_⟩;refine gI ?_;revert a b c;exact h):P:=i hb h
set_option maxRecDepth 4000 in
theorem Lx (g r n c:Nat) (vs:List (List Value)) (spare:List Value) (l:List bS) (v:Value) (y m:Int) (s:Bool) (xs:List Nat) (t:Bool) (ys:List Nat) (kk:Nat) (w:World)
  (hL:LedR kk w g r n c vs spare l) (hv:bV w v s xs t ys) (hy:oc y) (hm:oc m) (Cp:xs.length<=kk) (zi:ys.length<=kk) (hk:kk<=1024) (hn64:n<=1000):
  Calls Tryz.prog 36 #[.pointer (some ⟨g,0,none⟩),.int .i64 y,.int .i64 m,v] w λo w'=>o=.returned (.int .i64 (if cH (bS.exp (y,m,s,xs,t,ys))=true then 2 else 0))/\vW [g,r] w w'/\Left w' r/\
   ∃ r' n' c' GO aD,(w.heap.size<=r'\/r'=r)/\LedR kk w' g r' n' c' GO aD (gm l (y,m,s,xs,t,ys)):=by
 obtain⟨vV,zw,hg,hr,gN,hsp,dK,eE,hlen⟩:=hL
 obtain⟨e,Ly⟩:∃ e:bS,e=(y,m,s,xs,t,ys):=⟨_,rfl⟩
 rw[<-Ly]
 have lh:=hv.in Cp zi
 have fN:=hv
 obtain⟨p,cp,q,cq,rfl,-⟩:=hv.xH
 have hE0:ni kk w [.int .i64 y,.int .i64 m,.bool s,.slice p xs.length cp,.bool t,.slice q ys.length cq] e:=by rw[Ly];exact⟨_,_,_,_,rfl,hy,hm,fN,Cp,zi⟩
 have hq:e.exp.2.2.2=rq s xs t ys:=by rw[Ly];rfl
 obtain⟨hok1,hln1⟩:=gN.ok (iB kk)
 have Dt:(vs.flatten.map AV.val++spare.map AV.val).all aC=true:=by rw[<-List.map_append];exact cM (by rw[List.all_append,hok1,hsp];rfl)
 have Ls:sL KP 51 [g,r] [(175,[.row 103 0 n c]),(177,vs.flatten.map .val++spare.map .val)] w:=by
  refine⟨rfl,by simp[zw],λj g' c' hj hc=> ?_,λc' hc=> ?_,λc' hc k hk=> ?_⟩
  ·match j,hj,hc with
   | 0,hj,hc=>cases hj;cases hc;exact hg
   | 1,hj,hc=>cases hj;cases hc;rw[<-List.map_append,aJ];exact hr
   | j+2,hj,_=>simp at hj
  ·rcases List.mem_cons.1 hc with rfl|hc
   ·exact⟨rfl,rfl⟩
   ·cases List.mem_singleton.1 hc
    exact⟨rfl,Dt⟩
  ·rcases List.mem_cons.1 hc with rfl|hc
   ·have:k=103:=by simpa [aE,AV.dU] using hk
    subst this;exact⟨by omega,by show 103<2*51+2;omega⟩
   ·cases List.mem_singleton.1 hc
    rw[<-List.map_append,ah] at hk;cases hk
 refine sM Tryz.prog w _ KP (λt=>Nat.beq t 30) table (λ_ _=>trivial) (ad:=[g,r]) (us:=[_,_,_]) Tryz.func36 rfl Tryz.ntmps36 (bD rfl) Ls (bD rfl) ?_
 refine gI ?_
 cases hw:cH e.exp with
 | true=>
   have hp:gm l e=l:=if_pos hw
   refine VO.cB rfl rfl (fk Tryz.func81) (λaP bG aZ=>eQ _ e kk aP ⟨_,rfl,hE0.kp bG⟩ aa 2 (by rw[hw];rfl)) (λaP bG aZ w1 aB cj _ bb1=>wV rfl ?_)
   refine gI ?_
   refine VO.cB rfl rfl (fk Tryz.func81) (λbh bQ bE=>eQ _ e kk bh ⟨_,rfl,hE0.kp (cj.ay bQ)⟩ aa 2 (by rw[hw];rfl)) (λbh bQ bE w2 aQ db _ bb2=>wV rfl ?_)
   refine gI ?_
   refine VS.oP (km _ _) rfl (λwz β kz oz en=> ?_)
   rw[hp]
   obtain⟨o1,o2⟩:=BQ (en.own 102 _ _ rfl) 0 g rfl rfl
   obtain⟨o3,o4⟩:=BQ (en.own 103 _ _ rfl) 1 r rfl rfl
   rw[List.map_append,aJ,aJ] at o4
   refine⟨rfl,oz.1,oz.2 r cS,r,n,c,vs,spare,.inr rfl,vV,zw,?_,o4,gN.kp (iB kk) (Kp.of (U:=UU) (au.refl _) |>.ay ?_),hsp,dK,eE,hlen⟩
   ·have:β 103=r:=o3
    rw[<-this];exact o2
   ·exact ((cj.ay db).ay kz).lJ
 | false=>
   have hn65:((n:Int) == 65536)=false:=by rw[beq_eq_false_iff_ne];omega
   refine VO.cB rfl rfl (fk Tryz.func81) (λaP bG aZ=>eQ _ e kk aP ⟨_,rfl,hE0.kp bG⟩ aa 0 (by rw[hw];rfl)) (λaP bG aZ w1 aB cj _ bb1=>wV rfl ?_)
   refine gI ?_
   refine VS.bk rfl hn65 ?_
   refine gI ?_
   by_cases zc:rq s xs t ys=0
   ·have hp:gm l e=l:=by unfold gm;rw[hw,if_neg cS,if_pos (hq.trans zc)]
    refine VO.cB rfl rfl (fk Tryz.func82) (λbh bQ bE=>lU _ (rq s xs t ys) kk bh (lh.kp (cj.ay bQ)) aa 0 (vu zc)) (λbh bQ bE w2 aQ db _ bb2=>wV rfl ?_)
    refine gI ?_
    refine VS.oP (km _ _) rfl (λwz β kz oz en=> ?_)
    rw[hp]
    obtain⟨o1,o2⟩:=BQ (en.own 102 _ _ rfl) 0 g rfl rfl
    obtain⟨o3,o4⟩:=BQ (en.own 103 _ _ rfl) 1 r rfl rfl
    rw[List.map_append,aJ,aJ] at o4
    refine⟨rfl,oz.1,oz.2 r cS,r,n,c,vs,spare,.inr rfl,vV,zw,?_,o4,gN.kp (iB kk) ((cj.ay db).ay kz).lJ,hsp,dK,eE,hlen⟩
    have:β 103=r:=o3
    rw[<-this];exact o2
   ·have hp:gm l e=l++[e]:=by unfold gm;rw[hw,if_neg cS,if_neg (λh=>zc (hq.symm.trans h))]
    obtain⟨sg,tP⟩:∃ sg,jB (rq s xs t ys) 0=sg:=⟨_,rfl⟩
    have hsg0:sg≠0:=by rw[<-tP];exact Fb zc
    refine VO.cB rfl rfl (fk Tryz.func82) (λbh bQ bE=>lU _ (rq s xs t ys) kk bh (lh.kp (cj.ay bQ)) aa sg tP) (λbh bQ bE w2 aQ db _ bb2=>wV rfl ?_)
    refine gI ?_
    refine VS.aY rfl (by simp[hsg0]) ?_
    refine gI ?_
    refine VO.gw rfl (fk Tryz.func43) (λcY β di dQ ho=>(jw _ [rq s xs t ys] kk cY (iY (ho.own 36 (.base (List.mem_singleton.2 rfl)) _ _ rfl) [] (vs:=[[.bool s,.slice p xs.length cp,.bool t,.slice q ys.length cq]]) (by rfl) rfl (dZ.cons (lh.kp ((cj.ay db).ay di)) dZ.nil) (bD rfl) ff) (by unfold bM bU;simp;omega)).mono ?_)
    rintro o w3 ⟨r3,rfl,q3,hs3,cu⟩
    rw[nj] at q3
    have vI:=q3.rd.raw
    have hrt:tc s xs t ys=true:=by have:=(iZ hw).2.2.2.2;rw[Ly] at this;exact this
    obtain⟨jF,lC,hr3,hr4⟩:=BO hrt fN.lims.1 fN.lims.2
    rw[jF,lC,hr3,hr4] at vI
    obtain⟨p4,c4,y4,d4,rfl,-⟩:=vI.xH
    refine cTcxP cu ?_
    intro fj _ bb3
    have hE3:ni kk w3 [.int .i64 y,.int .i64 m,.bool s,.slice p4 xs.length c4,.bool t,.slice y4 ys.length d4] e:=by rw[Ly];exact⟨_,_,_,_,rfl,hy,hm,vI,Cp,zi⟩
    refine VO.app (km _ _) (t:=171) (e:=177) (sz:=6) (n:=n) (c:=c) (mm:=1) (known:=vs.flatten.map .val) (spare:=spare.map .val) (del:=some 103) (news:=([.int .i64 y,.int .i64 m,.bool s,.slice p4 xs.length c4,.bool t,.slice y4 ys.length d4]:List Value).map .val) (dst:=47) rfl rfl rfl rfl rfl rfl rfl rfl (bD rfl) rfl (.inr ⟨103,rfl,rfl,rfl⟩) (.inl rfl) (by rw[List.length_map,hln1,vV]) (by rw[<-List.map_append,List.length_map];exact hlen) dK eE ⟨ah _,ah _,rfl⟩ ⟨cM hok1,cM hsp,rfl⟩ rfl aa
     (λw1 β k1 b1 ho=>⟨_,_,rfl,.inr ⟨β 46,0,rfl,eX (rest:=[]) (ho.own 46 (.base (List.mem_append_right _ (List.mem_singleton.2 rfl))) _ _ rfl) rfl⟩⟩)
     (λIm cap' aD ρ k13 b13 eM nR nV Lz hok' hlid'=>wV rfl ?_)
    refine gI ?_
    refine VS.oP (km _ _) rfl (λwz β kz oz en=> ?_)
    rw[hp]
    obtain⟨o1,o2⟩:=BQ (en.own 102 _ _ rfl) 0 g rfl rfl
    have o3:=en.own 47 _ _ rfl
    have o5:β 47≠g:=λe=>absurd (en.apart 102 47 (by intro h;cases h) (by intro h;cases h) (o1.trans e.symm)) ff
    have o6:w.heap.size<=β 47\/β 47=r:=by
     have:=gO (show gu 51 [g,r] w 47 (β 47) from o3.new)
     simpa [o5] using this
    have o7:=o3.cls
    rw[List.map_append,List.map_append,aJ,aJ] at o7
    refine⟨rfl,oz.1,oz.2 r cS,β 47,n+1,cap',vs++[[.int .i64 y,.int .i64 m,.bool s,.slice p4 xs.length c4,.bool t,.slice y4 ys.length d4]],aD.map (AV.leaf β),o6,by simp[vV],λe=>o5 e.symm,o2,?_,?_,dy hok',nR,nV,?_⟩
    ·rw[List.flatten_append];exact o7
    ·exact (gN.kp (iB kk) ((cj.ay db).ay (fj.ay (k13.ay kz))).lJ).snoc (hE3.kp (k13.ay kz).lJ)
    ·have:=Lz
     simp only[List.length_append,List.length_map,List.length_cons,List.length_nil,List.flatten_append,List.flatten_cons,List.flatten_nil,List.append_nil] at this ⊢
     omega
end
section
open Go.RowKit
attribute [local irreducible] ak VS
set_option maxRecDepth 4000 in
theorem LA (g:Nat) (v:Value) (y m:Int) (s:Bool) (xs:List Nat) (t:Bool) (ys:List Nat) (kk:Nat) (w:World)
  (hg:aR w g 175 #[.slice none 0 0]) (hv:bV w v s xs t ys) (hy:oc y) (hm:oc m) (Cp:xs.length<=kk) (zi:ys.length<=kk) (hk:kk<=1024):
  Calls Tryz.prog 36 #[.pointer (some ⟨g,0,none⟩),.int .i64 y,.int .i64 m,v] w λo w'=>o=.returned (.int .i64 (if cH (bS.exp (y,m,s,xs,t,ys))=true then 2 else 0))/\vW [g] w w'/\LedAt kk w' w.heap.size g (gm [] (y,m,s,xs,t,ys))/\(gm [] (y,m,s,xs,t,ys)=[]->aR w' g 175 #[.slice none 0 0]):=by
 obtain⟨e,Ly⟩:∃ e:bS,e=(y,m,s,xs,t,ys):=⟨_,rfl⟩
 rw[<-Ly]
 have lh:=hv.in Cp zi
 have fN:=hv
 obtain⟨p,cp,q,cq,rfl,-⟩:=hv.xH
 have hE0:ni kk w [.int .i64 y,.int .i64 m,.bool s,.slice p xs.length cp,.bool t,.slice q ys.length cq] e:=by rw[Ly];exact⟨_,_,_,_,rfl,hy,hm,fN,Cp,zi⟩
 have hq:e.exp.2.2.2=rq s xs t ys:=by rw[Ly];rfl
 have Ls:sL KP 51 [g] [(175,[.val (.slice none 0 0)])] w:=by
  refine⟨rfl,by simp,λj g' c' hj hc=> ?_,λc' hc=> ?_,λc' hc k hk=> ?_⟩
  ·match j,hj,hc with
   | 0,hj,hc=>cases hj;cases hc;exact hg
   | j+1,hj,_=>simp at hj
  ·cases List.mem_singleton.1 hc;exact⟨rfl,rfl⟩
  ·cases List.mem_singleton.1 hc;cases hk
 refine sM Tryz.prog w _ KP (λt=>Nat.beq t 30) table (λ_ _=>trivial) (ad:=[g]) (us:=[_,_,_]) Tryz.func36 rfl Tryz.ntmps36 (bD rfl) Ls (bD rfl) ?_
 refine gI ?_
 cases hw:cH e.exp with
 | true=>
   have hp:gm [] e=[]:=if_pos hw
   refine VO.cB rfl rfl (fk Tryz.func81) (λaP bG aZ=>eQ _ e kk aP ⟨_,rfl,hE0.kp bG⟩ aa 2 (by rw[hw];rfl)) (λaP bG aZ w1 aB cj _ bb1=>wV rfl ?_)
   refine gI ?_
   refine VO.cB rfl rfl (fk Tryz.func81) (λbh bQ bE=>eQ _ e kk bh ⟨_,rfl,hE0.kp (cj.ay bQ)⟩ aa 2 (by rw[hw];rfl)) (λbh bQ bE w2 aQ db _ bb2=>wV rfl ?_)
   refine gI ?_
   refine VS.oP (km _ _) rfl (λwz β kz oz en=> ?_)
   rw[hp]
   obtain⟨o1,o2⟩:=BQ (en.own 102 _ _ rfl) 0 g rfl rfl
   exact⟨rfl,oz.1,.inl ⟨rfl,o2⟩,λ_=>o2⟩
 | false=>
   refine VO.cB rfl rfl (fk Tryz.func81) (λaP bG aZ=>eQ _ e kk aP ⟨_,rfl,hE0.kp bG⟩ aa 0 (by rw[hw];rfl)) (λaP bG aZ w1 aB cj _ bb1=>wV rfl ?_)
   refine gI ?_
   by_cases zc:rq s xs t ys=0
   ·have hp:gm [] e=[]:=by unfold gm;rw[hw,if_neg cS,if_pos (hq.trans zc)]
    refine VO.cB rfl rfl (fk Tryz.func82) (λbh bQ bE=>lU _ (rq s xs t ys) kk bh (lh.kp (cj.ay bQ)) aa 0 (vu zc)) (λbh bQ bE w2 aQ db _ bb2=>wV rfl ?_)
    refine gI ?_
    refine VS.oP (km _ _) rfl (λwz β kz oz en=> ?_)
    rw[hp]
    obtain⟨o1,o2⟩:=BQ (en.own 102 _ _ rfl) 0 g rfl rfl
    exact⟨rfl,oz.1,.inl ⟨rfl,o2⟩,λ_=>o2⟩
   ·have hp:gm [] e=[e]:=by unfold gm;rw[hw,if_neg cS,if_neg (λh=>zc (hq.symm.trans h))];rfl
    obtain⟨sg,tP⟩:∃ sg,jB (rq s xs t ys) 0=sg:=⟨_,rfl⟩
    have hsg0:sg≠0:=by rw[<-tP];exact Fb zc
    refine VO.cB rfl rfl (fk Tryz.func82) (λbh bQ bE=>lU _ (rq s xs t ys) kk bh (lh.kp (cj.ay bQ)) aa sg tP) (λbh bQ bE w2 aQ db _ bb2=>wV rfl ?_)
    refine gI ?_
    refine VS.aY rfl (by simp[hsg0]) ?_
    refine gI ?_
    refine VO.gw rfl (fk Tryz.func43) (λcY β di dQ ho=>(jw _ [rq s xs t ys] kk cY (iY (ho.own 36 (.base (List.mem_singleton.2 rfl)) _ _ rfl) [] (vs:=[[.bool s,.slice p xs.length cp,.bool t,.slice q ys.length cq]]) (by rfl) rfl (dZ.cons (lh.kp ((cj.ay db).ay di)) dZ.nil) (bD rfl) ff) (by unfold bM bU;simp;omega)).mono ?_)
    rintro o w3 ⟨r3,rfl,q3,hs3,cu⟩
    rw[nj] at q3
    have vI:=q3.rd.raw
    have hrt:tc s xs t ys=true:=by have:=(iZ hw).2.2.2.2;rw[Ly] at this;exact this
    obtain⟨jF,lC,hr3,hr4⟩:=BO hrt fN.lims.1 fN.lims.2
    rw[jF,lC,hr3,hr4] at vI
    obtain⟨p4,c4,y4,d4,rfl,-⟩:=vI.xH
    refine cTcxP cu ?_
    intro fj _ bb3
    have hE3:ni kk w3 [.int .i64 y,.int .i64 m,.bool s,.slice p4 xs.length c4,.bool t,.slice y4 ys.length d4] e:=by rw[Ly];exact⟨_,_,_,_,rfl,hy,hm,vI,Cp,zi⟩
    refine VO.app (km _ _) (t:=171) (e:=177) (sz:=6) (n:=0) (c:=0) (mm:=1) (known:=[]) (spare:=[]) (del:=none) (news:=([.int .i64 y,.int .i64 m,.bool s,.slice p4 xs.length c4,.bool t,.slice y4 ys.length d4]:List Value).map .val) (dst:=47) rfl rfl rfl rfl rfl rfl rfl rfl (bD rfl) rfl (.inl ⟨rfl,rfl,rfl,rfl,rfl,rfl,by omega⟩) (.inl rfl) rfl rfl (Nat.le_refl _) aa ⟨rfl,rfl,rfl⟩ ⟨rfl,rfl,rfl⟩ rfl aa
     (λw1 β k1 b1 ho=>⟨_,_,rfl,.inr ⟨β 46,0,rfl,eX (rest:=[]) (ho.own 46 (.base (List.mem_append_right _ (List.mem_singleton.2 rfl))) _ _ rfl) rfl⟩⟩)
     (λIm cap' aD ρ k13 b13 eM nR nV Lz hok' hlid'=>wV rfl ?_)
    refine gI ?_
    refine VS.oP (km _ _) rfl (λwz β kz oz en=> ?_)
    rw[hp]
    obtain⟨o1,o2⟩:=BQ (en.own 102 _ _ rfl) 0 g rfl rfl
    have o3:=en.own 47 _ _ rfl
    have o5:β 47≠g:=λe=>absurd (en.apart 102 47 (by intro h;cases h) (by intro h;cases h) (o1.trans e.symm)) ff
    have o6:w.heap.size<=β 47:=by
     have:=gO (show gu 51 [g] w 47 (β 47) from o3.new)
     simpa [o5] using this
    have o7:=o3.cls
    rw[List.map_append,List.map_append,aJ] at o7
    refine⟨rfl,oz.1,.inr ⟨β 47,1,cap',[[.int .i64 y,.int .i64 m,.bool s,.slice p4 xs.length c4,.bool t,.slice y4 ys.length d4]],aD.map (AV.leaf β),o6,rfl,λe=>o5 e.symm,o2,?_,?_,dy hok',by omega,nV,?_⟩,λh=>by cases h⟩
    ·exact o7
    ·exact .cons (hE3.kp (k13.ay kz).lJ) .nil
    ·have:=Lz
     simp only[List.length_append,List.length_map,List.length_cons,List.length_nil,List.flatten_cons,List.flatten_nil,List.append_nil] at this ⊢
     omega
end
section
open Go.RowKit
section
variable {C:Cx} {F:Fr} {H:Hp} {w:World} {m:Option (List FuncId)} {full:Array Oper} {K:Fr->Hp->World->Prop} {o:Oper} {r:List Oper}
theorem VO.callB {d:fM} {dst:Nat} {t:TypeId} {cs:List Value} (e:stepOf C full F H o=.call d) (hd:o.dst=some dst) (h0:H dst=none) (hN:dst<C.N) (hl:1<=lvl C.SU m o) (ht:C.K.fz t=false) (hc:cs.all aM=true)
  (h:∀ w1 β,aN C.K w w1->C.Old w1->ic C β H d.ids w1->qX C.P d β w1 λe w2=>∃ g,e=.returned (.pointer (some ⟨g,0,none⟩))/\au w1 w2/\w1.heap.size<=g/\aR w2 g t cs.toArray/\
   (aN C.K w w2->aN C.K w1 w2->C.Old w2->ak C m full r K (F.bn o.dst (.box dst 0)) (H.put dst (t,cs.map .val)) w2)):ak C m full (o::r) K F H w:=by
 show one C m full o (ak C m full r K) F H w
 unfold one
 rw[e]
 refine λw1 β h1 h2 h3=>(h w1 β h1 h2 h3).mono ?_
 rintro e w2 ⟨g,rfl,hb,q1,q2,k2⟩
 let bO:Nat->Nat:=λi=>if i=dst then g else β i
 have pY:bO dst=g:=if_pos rfl
 refine⟨bO,.box dst 0,none,[(dst,(t,cs.map AV.val))],?_,λi hi=>.inl (by simpa [AV.ids] using hi),.inl hl,.inr rfl,?_,λa1 a2 a3 _ _=>k2 a1 a2 a3⟩
 ·show Ending.returned _=.returned (Value.pointer (some ⟨bO dst,0,none⟩));rw[pY]
 ·refine⟨hb.os,hb.tape,hb.output,hb.size,λk hk _ _ _=>Below.block hb k hk,λi hi=>if_neg (by simpa using hi),λi hi=>(by cases hi),λi hi=>(by cases hi),λx hx=> ?_,λx hx=> ?_,by simp,λx hx y hy _=> ?_,λx hx j hj=> ?_⟩
  ·cases List.mem_singleton.1 hx
   refine⟨by rw[pY];exact C.sa _ _ aa (by have:=C.fX _ h2;omega),ht,?_,cM hc⟩
   rw[pY,aJ];exact q2
  ·cases List.mem_singleton.1 hx
   exact .inr ⟨.inl h0,by omega,.inl (by rw[pY];exact q1)⟩
  ·cases List.mem_singleton.1 hx;cases List.mem_singleton.1 hy;rfl
  ·cases List.mem_singleton.1 hx
   rw[ah] at hj;cases hj
theorem qz (i o n c:Nat):aE [AV.row i o n c]=[i]:=rfl
theorem VO.LB {d1 d2:Nat} {v:Value} {y z:Int} {s:Bool} {xs:List Nat} {t:Bool} {ys:List Nat} (kk:Nat) {code:Int} {l':List bS} (xN:(if cH (bS.exp (y,z,s,xs,t,ys))=true then (2:Int) else 0)=code) (CD:gm [] (y,z,s,xs,t,ys)=l') (hP:C.P=Tryz.prog) (e:stepOf C full F H o=.call (.fn 36 [.box d1 0,.val (.int .i64 y),.val (.int .i64 z),.val v])) (hf:jh C.P 36)
  (h1:H d1=some (175,[.val (.slice none 0 0)])) (h2:H d2=none) (hne:d1≠d2) (hd2:d2<2*C.N) (hl:1<=lvl C.SU m o) (ht2:C.K.fz 177=false)
  (hv:∀ w1,aN C.K w w1->C.Old w1->bV w1 v s xs t ys) (hy:oc y) (hz:oc z) (Cp:xs.length<=kk) (zi:ys.length<=kk) (hk:kk<=1024)
  (k1:∀ w2,aN C.K w w2->C.Old w2->l'=[]->ak C m full r K (F.bn o.dst (.val (.int .i64 code))) (H.put d1 (175,[.val (.slice none 0 0)])) w2)
  (k2:∀ w2 n c vs spare,aN C.K w w2->C.Old w2->l'≠[]->n=l'.length->fO (ni kk) w2 l' vs->spare.all aM=true->n<=c->c<=9223372036854775807->(vs.flatten++spare).length=c*6->
   ak C m full r K (F.bn o.dst (.val (.int .i64 code))) ((H.put d1 (175,[.row d2 0 n c])).put d2 (177,vs.flatten.map .val++spare.map .val)) w2):ak C m full (o::r) K F H w:=by
 subst xN CD
 show one C m full o (ak C m full r K) F H w
 unfold one
 rw[e]
 intro w1 β a1 a2 a3
 have jF:Reach H (fM.fn 36 [.box d1 0,.val (.int .i64 y),.val (.int .i64 z),.val v]).ids d1:=.base (by simp[fM.ids,eG,AV.ids])
 have o1:=a3.own d1 jF _ _ h1
 refine⟨hf,(Calls.mono (show Calls C.P 36 #[.pointer (some ⟨β d1,0,none⟩),.int .i64 y,.int .i64 z,v] w1 _ from hP▸LA (β d1) v y z s xs t ys kk w1 o1.cls (hv w1 a1 a2) hy hz Cp zi hk) ?_)⟩
 rintro e w2 ⟨rfl,hb,LC,hcn⟩
 by_cases fK:gm [] (y,z,s,xs,t,ys)=[]
 ·have hc:=hcn fK
  refine⟨β,.val _,none,[(d1,(175,[.val (.slice none 0 0)]))],rfl,λi hi=>(by cases hi),.inl hl,.inr rfl,?_,λa b c _ _=>k1 w2 a c fK⟩
  refine⟨hb.os,hb.tape,hb.output,hb.size,λk hk hx _ _=>hb.nT k hk (by simpa using hx),λ_ _=>rfl,λi hi=>(by cases hi),λi hi=>(by cases hi),λx hx=> ?_,λx hx=> ?_,by simp,λx hx y hy _=> ?_,λx hx j hj=> ?_⟩
  ·cases List.mem_singleton.1 hx
   exact⟨o1.new,o1.ty,hc,rfl⟩
  ·cases List.mem_singleton.1 hx
   exact .inl ⟨by rw[h1];simp,by simp,jF,rfl⟩
  ·cases List.mem_singleton.1 hx;cases List.mem_singleton.1 hy;rfl
  ·cases List.mem_singleton.1 hx
   cases hj
 ·obtain⟨r',n,c,vs,spare,hB,hL⟩:=LC.resolve_left (λh=>fK h.1)
  let bO:Nat->Nat:=λi=>if i=d2 then r' else β i
  have aQ:bO d2=r':=if_pos rfl
  have aB:bO d1=β d1:=if_neg hne
  have nX:vs.flatten.map AV.val++spare.map AV.val=(vs.flatten++spare).map AV.val:=by rw[List.map_append]
  have iu:(vs.flatten.map AV.val++spare.map AV.val).all aC=true:=by rw[nX];exact cM (by rw[List.all_append,(hL.el.ok (iB kk)).1,hL.ok];rfl)
  refine⟨bO,.val _,none,[(d1,(175,[.row d2 0 n c])),(d2,(177,vs.flatten.map AV.val++spare.map AV.val))],rfl,λi hi=>(by cases hi),.inl hl,.inr rfl,?_,λa _ b _ _=>k2 w2 n c vs spare a b fK hL.len hL.el hL.ok hL.le hL.cm hL.fl⟩
  refine⟨hb.os,hb.tape,hb.output,hb.size,λk hk hx _ _=>hb.nT k hk ?_,λi hi=>if_neg ?_,λi hi=>(by cases hi),λi hi=>(by cases hi),λx hx=> ?_,λx hx=> ?_,by simpa using hne,λx hx y hy he=> ?_,λx hx j hj=> ?_⟩
  ·have:=hx (d1,(175,[.row d2 0 n c])) cS
   simpa [aB] using this
  ·intro h;exact hi (by simp[h])
  ·rcases List.mem_cons.1 hx with rfl|hx
   ·refine⟨?_,o1.ty,?_,rfl⟩
    ·show C.tz d1 (bO d1);rw[aB];exact o1.new
    ·show aR w2 (bO d1) _ (#[.slice (some ⟨bO d2,0,none⟩) n c])
     rw[aB,aQ];exact hL.led
   ·cases List.mem_singleton.1 hx
    refine⟨by rw[aQ];exact C.sa _ _ hd2 (by have:=C.fX _ a2;omega),ht2,?_,iu⟩
    rw[aQ,nX,aJ];exact hL.row
  ·rcases List.mem_cons.1 hx with rfl|hx
   ·exact .inl ⟨by rw[h1];simp,by simp,jF,aB⟩
   ·cases List.mem_singleton.1 hx
    exact .inr ⟨.inl h2,hd2,.inl (by rw[aQ];exact hB)⟩
  ·have FJ:=hL.ne
   rcases List.mem_cons.1 hx with rfl|hx <;> rcases List.mem_cons.1 hy with rfl|hy
   ·rfl
   ·cases List.mem_singleton.1 hy
    exact absurd (aB.symm.trans (he.trans aQ)) FJ
   ·cases List.mem_singleton.1 hx
    exact absurd (aB.symm.trans (he.symm.trans aQ)) FJ
   ·cases List.mem_singleton.1 hx;cases List.mem_singleton.1 hy;rfl
  ·rcases List.mem_cons.1 hx with rfl|hx
   ·rw[qz] at hj
    cases List.mem_singleton.1 hj
    exact .inl cS
   ·cases List.mem_singleton.1 hx
    rw[nX,ah] at hj;cases hj
theorem VO.LD {d1 d2 n c:Nat} {vs:List (List Value)} {spare:List Value} {l:List bS} {v:Value} {y z:Int} {s:Bool} {xs:List Nat} {t:Bool} {ys:List Nat} (kk:Nat) {code:Int} {l':List bS} (xN:(if cH (bS.exp (y,z,s,xs,t,ys))=true then (2:Int) else 0)=code) (CD:gm l (y,z,s,xs,t,ys)=l') (hP:C.P=Tryz.prog) (e:stepOf C full F H o=.call (.fn 36 [.box d1 0,.val (.int .i64 y),.val (.int .i64 z),.val v])) (hf:jh C.P 36)
  (h1:H d1=some (175,[.row d2 0 n c])) (h2:H d2=some (177,vs.flatten.map .val++spare.map .val)) (hne:d1≠d2) (hd2:d2<2*C.N) (hl:2<=lvl C.SU m o)
  (hn:n=l.length) (gN:fO (ni kk) w l vs) (hsp:spare.all aM=true) (dK:n<=c) (eE:c<=9223372036854775807) (ze:(vs.flatten++spare).length=c*6)
  (hU:∀ w1,aN C.K w w1->Kp UU w w1) (hT:∀ t,KP.fz t=false->C.K.fz t=false)
  (hv:∀ w1,aN C.K w w1->C.Old w1->bV w1 v s xs t ys) (hy:oc y) (hz:oc z) (Cp:xs.length<=kk) (zi:ys.length<=kk) (hk:kk<=1024) (hn64:n<=1000)
  (k2:∀ w2 n' c' GO aD ρ,aN C.K w w2->C.Old w2->(∀ x,aM (ρ x)=true)->n'=l'.length->fO (ni kk) w2 l' GO->aD.all aM=true->n'<=c'->c'<=9223372036854775807->(GO.flatten++aD).length=c' *6->
   ak C m full r K ((F.forget (some d2) ρ).bn o.dst (.val (.int .i64 code))) (((H.forget (some d2) ρ).put d1 (175,[.row d2 0 n' c'])).put d2 (177,GO.flatten.map .val++aD.map .val)) w2):ak C m full (o::r) K F H w:=by
 subst xN CD
 show one C m full o (ak C m full r K) F H w
 unfold one
 rw[e]
 intro w1 β a1 a2 a3
 have jF:Reach H (fM.fn 36 [.box d1 0,.val (.int .i64 y),.val (.int .i64 z),.val v]).ids d1:=.base (by simp[fM.ids,eG,AV.ids])
 have lC:Reach H (fM.fn 36 [.box d1 0,.val (.int .i64 y),.val (.int .i64 z),.val v]).ids d2:=.step jF h1 (by rw[qz];simp)
 have o1:=a3.own d1 jF _ _ h1
 have o2:=a3.own d2 lC _ _ h2
 have hmap0:∀ (vs:List (List Value)) (spare:List Value),vs.flatten.map AV.val++spare.map AV.val=(vs.flatten++spare).map AV.val:=λvs spare=>by rw[List.map_append]
 have hapart:β d1≠β d2:=λhe=>hne (a3.apart d1 d2 jF lC (by rw[h1];simp) (by rw[h2];simp) he)
 have hL0:LedR kk w1 (β d1) (β d2) n c vs spare l:=⟨hn,hapart,o1.cls,by have:=o2.cls;rw[hmap0,aJ] at this;exact this,gN.kp (iB kk) (hU w1 a1),hsp,dK,eE,ze⟩
 refine⟨hf,(Calls.mono (show Calls C.P 36 #[.pointer (some ⟨β d1,0,none⟩),.int .i64 y,.int .i64 z,v] w1 _ from hP▸Lx (β d1) (β d2) n c vs spare l v y z s xs t ys kk w1 hL0 (hv w1 a1 a2) hy hz Cp zi hk hn64) ?_)⟩
 rintro e w2 ⟨rfl,hb,wZ,r',n',c',GO,aD,hB,hL⟩
 let bO:Nat->Nat:=λi=>if i=d2 then r' else β i
 have aQ:bO d2=r':=if_pos rfl
 have aB:bO d1=β d1:=if_neg hne
 have nX:=hmap0 GO aD
 have iu:(GO.flatten.map AV.val++aD.map AV.val).all aC=true:=by rw[nX];exact cM (by rw[List.all_append,(hL.el.ok (iB kk)).1,hL.ok];rfl)
 refine⟨bO,.val _,some d2,[(d1,(175,[.row d2 0 n' c'])),(d2,(177,GO.flatten.map AV.val++aD.map AV.val))],rfl,λi hi=>(by cases hi),.inl aa,.inl hl,?_,λa _ b ρ eM=>k2 w2 n' c' GO aD ρ a b eM hL.len hL.el hL.ok hL.le hL.cm hL.fl⟩
 refine⟨hb.os,hb.tape,hb.output,hb.size,λk hk hx zi _=>hb.nT k hk ?_,λi hi=>if_neg ?_,λi hi=> ?_,λi hi=> ?_,λx hx=> ?_,λx hx=> ?_,by simpa using hne,λx hx y hy he=> ?_,λx hx j hj=> ?_⟩
 ·have e1:=hx (d1,(175,[.row d2 0 n' c'])) cS
  have e2:=zi d2 rfl
  rw[aB] at e1
  simp[e1,e2]
 ·intro h;exact hi (by simp[h])
 ·cases hi;exact⟨lC,by rw[h2];simp⟩
 ·cases hi
  obtain⟨t,cs,q1,q2,q3⟩:=wZ
  exact .inl (.inr ⟨t,cs,q1,hT t q2,q3⟩)
 ·rcases List.mem_cons.1 hx with rfl|hx
  ·refine⟨?_,o1.ty,?_,rfl⟩
   ·show C.tz d1 (bO d1);rw[aB];exact o1.new
   ·show aR w2 (bO d1) _ (#[.slice (some ⟨bO d2,0,none⟩) n' c'])
    rw[aB,aQ];exact hL.led
  ·cases List.mem_singleton.1 hx
   refine⟨?_,o2.ty,?_,iu⟩
   ·rw[aQ]
    rcases hB with hB|hB
    ·exact C.sa _ _ hd2 (by have:=C.fX _ a2;omega)
    ·rw[hB];exact o2.new
   ·rw[aQ,nX,aJ];exact hL.row
 ·rcases List.mem_cons.1 hx with rfl|hx
  ·exact .inl ⟨by rw[h1];simp,by simp[hne.symm],jF,aB⟩
  ·cases List.mem_singleton.1 hx
   refine .inr ⟨.inr rfl,hd2,?_⟩
   rcases hB with hB|hB
   ·exact .inl (by rw[aQ];exact hB)
   ·exact .inr ⟨d2,rfl,by rw[aQ];exact hB⟩
 ·have FJ:=hL.ne
  rcases List.mem_cons.1 hx with rfl|hx <;> rcases List.mem_cons.1 hy with rfl|hy
  ·rfl
  ·cases List.mem_singleton.1 hy
   exact absurd (aB.symm.trans (he.trans aQ)) FJ
  ·cases List.mem_singleton.1 hx
   exact absurd (aB.symm.trans (he.symm.trans aQ)) FJ
  ·cases List.mem_singleton.1 hx;cases List.mem_singleton.1 hy;rfl
 ·rcases List.mem_cons.1 hx with rfl|hx
  ·rw[qz] at hj
   cases List.mem_singleton.1 hj
   exact .inl cS
  ·cases List.mem_singleton.1 hx
   rw[nX,ah] at hj;cases hj
end
end
section
open Go.RowKit
attribute [local irreducible] ak VS
theorem kp_fz {t:TypeId} (h:KP.fz t=false):(KU UU).fz t=false:=by
 have h':(Nat.beq t UU || _)=false:=h
 rw[Bool.or_eq_false_iff] at h'
 show (Nat.beq t UU || false)=false
 rw[h'.1];rfl
end
section
open Go.RowKit
section
variable {C:Cx} {F:Fr} {H:Hp} {w:World} {m:Option (List FuncId)} {full:Array Oper} {K:Fr->Hp->World->Prop} {o:Oper} {r:List Oper} {Q:Exit->Act->World->Prop} {k:List It}
def rN (F:Fr) (β:Nat->Nat):List (Nat×AV)->Prop
 | []=>True
 | p::r=>(∃ u x,F p.1=some u/\u.aI β=x/\p.2=.val x)/\rN F β r
theorem rN.mem {β:Nat->Nat}:∀ {L:List (Nat×AV)} {d:Nat} {v:AV},rN F β L->(d,v)∈L->∃ u x,F d=some u/\u.aI β=x/\v=.val x
 | p::r,d,v,h,hm=>by
   rcases List.mem_cons.1 hm with rfl|hm
   ·exact h.1
   ·exact rN.mem h.2 hm
theorem VS.DX (D:World->Cx) (hP:∀ w,(D w).P=C.P) (hN:∀ w,(D w).N=C.N) (hO:∀ w,(D w).Old w)
  (h:∀ w' β,aN C.K w w'->C.Old w'->Ends C β H w'->∃ L:List (Nat×AV),rN F β L/\VS (D w') Q k (Fr.of L) (λ_=>none) w'):VS C Q k F H w:=λβ a w' hr hk=>by
 obtain⟨L,hL,hv⟩:=h w' β hk hr.old ⟨hr.own,hr.apart⟩
 have:=hv β a w' ⟨hr.defers,by rw[hN];exact hr.size,λd v hd=> ?_,λi t cs hi=>(by cases hi),λi j hi=>absurd rfl hi,λd v hd i hi=> ?_,λd v hd=> ?_,⟨λi t cs hi=>(by cases hi),λi t cs hi=>(by cases hi),λi hi=>rfl⟩,hO w'⟩ (aN.refl _ _)
 ·rw[hP] at this
  exact this
 ·obtain⟨u,x,h1,rfl,rfl⟩:=hL.mem (Fr.eO hd)
  exact hr.tmp d u h1
 ·obtain⟨u,x,h1,rfl,rfl⟩:=hL.mem (Fr.eO hd)
  cases hi
 ·obtain⟨u,x,h1,rfl,rfl⟩:=hL.mem (Fr.eO hd)
  rw[hN];exact hr.fits d u h1
theorem VO.litE (hC:C.Ok) {t e:TypeId} {n sz:Nat} {ps:Array (Nat×Operand)} {it ie:TI} {args:List AV} (us vs:List Value)
  (e0:stepOf C full F H o=.call (.op o args)) (ha:args=us.map .val) (ho:o.op=.buildSlice t n ps) (uQ:C.ti t=some it) (rA:it.elem=some (e,sz)) (xn:C.ti e=some ie)
  (gN:yn sz 0 ((ps.toList.map (·.1)).zip (us.map .val))=some (vs.map .val)) (hps:ps.size=n) (hus:us.length=n) (Jm:vs.length=n*sz) (hn:n*sz<=16777216)
  (hK:∀ w2 b,aN C.K w w2->C.Old w2->C.w0.heap.size<=b->aR w2 b e vs.toArray->ak C m full r K (F.bn o.dst (.val (.slice (some ⟨b,0,none⟩) n n))) H w2):ak C m full (o::r) K F H w:=by
 refine VO.xx e0 λw1 β h1 h2 _=> ?_
 obtain⟨hu,hsz⟩:=(hC t it uQ).isSlice e sz rA
 have jA:=(hC e ie xn).zero
 have hb:au w1 (w1.alloc (.cells vs.toArray e)):=(au.refl w1).alloc _
 refine⟨.slice (some ⟨w1.heap.size,0,none⟩) n n,w1.alloc (.cells vs.toArray e),λρ eM=>.inl ?_,_,rfl,hb,λa1 a2 a3=>hK _ w1.heap.size a1 a3 (C.fX _ h2) (aR.new w1 _ _)⟩
 rw[ho,ha,eV] at eM
 have hl:(ps.map λx=>(x.1,ρ x.2)).toList=((ps.toList.map (·.1)).zip (us.map AV.val)).map λp=>(p.1,p.2.aI (λ_=>0)):=by
  have h3:ps.toList.map (λx=>ρ x.2)=us:=by
   rw[<-eM];simp[Op.operands]
  rw[Array.toList_map,<-h3]
  generalize ps.toList=l
  induction l with
  | nil=>rfl
  | cons q r ih=>simp only[List.map_cons,List.zip_cons_cons];rw[ih];rfl
 have sf:∀ A:Array Value,A.size=n*sz->Instr.fill (λi=>some (i*sz,sz)) A (((ps.toList.map (·.1)).zip (us.map AV.val)).map λp=>(p.1,p.2.aI (λ_=>0)))=some vs.toArray:=λA hA=>by
  have:=ny (β:=λ_=>0) (sz:=sz) _ 0 [] A.toList gN cS (by rw[Array.length_toList,hA];simp[hps,hus])
  rw[aJ] at this
  simpa using this
 simp only[execOp,ho,Instr.buildSlice,Sem.run_bind,run_underlying hu,Result.andThen_ok,hsz]
 rw[if_neg aa]
 by_cases h0:n*sz=0
 ·simp only[if_pos h0,Sem.run_bind,Sem.run_pure,Result.andThen_ok]
  rw[hl,sf _ (by simpa using h0.symm)]
  simp[newRow]
 ·simp only[if_neg h0,Sem.run_bind,Sem.run_pure,Result.andThen_ok,jA]
  have HT:ie.zero.cells.size=sz:=by
   have h6:=(hC e ie xn).uA
   have h7:=hsz w1
   have h8:=(hC e ie xn).size
   cases sU:C.P.info? e with
   | none=>rw[sU] at h8;simp at h8
   | some ti=>
     rw[sU] at h8
     simp[sizeOf,typeInfo,sU] at h7 h8
     omega
  rw[hl,sf _ (by simp[Builtin.zeroCells,HT])]
  simp[newRow]
end
end
section
open Go.RowKit
attribute [local irreducible] ak VS
section
variable {F F':Fr} {H H':Hp} {w w1:World} {N:Nat} {l':List Oper} {Q:Exit->Act->World->Prop} {k:List It} {id:Nat} {ops:Array Oper}
end
def cexp (y n:Int) (q:Rat):bS:=(y,n,decide (q.num<0),limbs q.num.natAbs,decide ((q.den:Int)<0),limbs (q.den:Int).natAbs)
theorem LF (q:Rat):tc (decide (q.num<0)) (limbs q.num.natAbs) (decide ((q.den:Int)<0)) (limbs (q.den:Int).natAbs)=true:=by
 unfold tc
 rw[lF q.num,lF (q.den:Int),eI,eI]
 have h3:(0:Int)<q.den:=by have:=q.den_nz;omega
 have h4:Int.gcd q.num q.den=1:=by have:=q.reduced;simpa [Int.gcd,Nat.Coprime] using this
 rw[decide_eq_true h3,decide_eq_true h4];rfl
theorem LG (q:Rat):rq (decide (q.num<0)) (limbs q.num.natAbs) (decide ((q.den:Int)<0)) (limbs (q.den:Int).natAbs)=q:=by
 unfold rq;rw[eI,eI,xF]
theorem BR (y n:Int) (q:Rat):(cexp y n q).exp=(y,n,true,q):=by
 show (y,n,tc (decide (q.num<0)) (limbs q.num.natAbs) (decide ((q.den:Int)<0)) (limbs (q.den:Int).natAbs),rq (decide (q.num<0)) (limbs q.num.natAbs) (decide ((q.den:Int)<0)) (limbs (q.den:Int).natAbs))=_
 rw[LF,LG]
end
section
open Go.RowKit
abbrev gU:=Nat×Rat
def iP (q:Rat):Nat:=if q.den=1/\1<=q.num/\q.num<=40 then q.num.toNat else 0
theorem Fl (q:Rat):iP q<=40:=by
 unfold iP;split
 ·omega
 ·omega
def aitem (p:gU×Rat):GU:=(p.1.1,p.1.2,p.2)
def bH (cs:List gU) (xs:List Rat):List GU:=(cs.zip xs).map aitem
def mr (p:gU×Rat):Bool:=p.1.1 == 6
def qH (y:Nat) (p:gU×Rat):bS:=cexp y (iP p.1.2) p.2
def kZ (y:Nat) (l:List (gU×Rat)):List bS:=(l.filter mr).map (qH y)
def eR (cs:List gU) (xss:List (List Rat)):Nat->List bS
 | 0=>[]
 | n+1=>eR cs xss n++kZ n (cs.zip (xss.getD n []))
structure fP where
 p:Pt
 due:Rat
 Fm:Rat
 own:Rat
theorem fP.ext' {x y:fP} (h1:x.p=y.p) (h2:x.due=y.due) (h3:x.Fm=y.Fm) (h4:x.own=y.own):x=y:=by
 cases x;cases y;simp_all
def Hh (P:Pt) (due Fm:Rat):fP:=⟨⟨P.b,P.s-due,P.d,P.i⟩,due,Fm,P.s-due-P.i⟩
def fF (cs:List gU) (xss:List (List Rat)) (y:Nat):fP:=
 Hh (bl (bH cs (xss.getD y []))) (jT (eR cs xss (y+1)) y) (mi (eR cs xss (y+1)) y)
def fc (cs:List gU) (xss:List (List Rat)):List fP:=(List.range xss.length).map (fF cs xss)
def iC (e:Int) (n:Nat) (t:List (List Rat)):Bool:=decide (e>=t.length) || ((t.getD e.toNat []).length != n)
def rO (k:gU):Bool:=k.1 == 6 && iP k.2 == 0
def ld (cs:List gU) (e:Int) (ts:List (List (List Rat))):Int:=
 if ts.length>40 then 3 else if e<0 then 2 else if ts.any (iC e cs.length) then 2 else if cs.any rO then 2 else 0
theorem yY {cs:List gU} {e:Int} {ts:List (List (List Rat))} (h:ld cs e ts=0):ts.length<=40/\0<=e/\(∀ t∈ts,e.toNat<t.length/\(t.getD e.toNat []).length=cs.length)/\(∀ k∈cs,k.1=6->1<=iP k.2):=by
 unfold ld at h
 by_cases h1:ts.length>40
 ·rw[if_pos h1] at h;cases h
 rw[if_neg h1] at h
 by_cases h2:e<0
 ·rw[if_pos h2] at h;cases h
 rw[if_neg h2] at h
 by_cases h3:ts.any (iC e cs.length)=true
 ·rw[if_pos h3] at h;cases h
 rw[if_neg h3] at h
 by_cases h4:cs.any rO=true
 ·rw[if_pos h4] at h;cases h
 refine⟨by omega,by omega,λt ht=> ?_,λk hk h6=> ?_⟩
 ·have:iC e cs.length t=false:=by
   cases hx:iC e cs.length t with
   | false=>rfl
   | true=>exact absurd (List.any_eq_true.2 ⟨t,ht,hx⟩) h3
  unfold iC at this
  simp only[Bool.or_eq_false_iff,decide_eq_false_iff_not,bne_eq_false_iff_eq] at this
  exact⟨by omega,this.2⟩
 ·have:rO k=false:=by
   cases hx:rO k with
   | false=>rfl
   | true=>exact absurd (List.any_eq_true.2 ⟨k,hk,hx⟩) h4
  unfold rO at this
  rw[h6] at this
  simp at this
  omega
def jU (cs:List gU) (e:Int) (ts:List (List (List Rat))):List fP:=if ld cs e ts=0 then fc cs (ts.map λt=>t.getD e.toNat []) else []
def fP.zero:fP:=⟨Pt.zero,0,0,0⟩
def fP.add (x y:fP):fP:=⟨x.p.add y.p,x.due+y.due,x.Fm+y.Fm,x.own+y.own⟩
def rP (l:List fP):fP:=l.foldl fP.add fP.zero
theorem Hi (l:List fP) (x:fP):rP (l++[x])=(rP l).add x:=by unfold rP;rw[List.foldl_append];rfl
theorem Hj {l:List fP} {i:Nat} {x:fP} (h:l[i]? =some x):rP (l.take (i+1))=(rP (l.take i)).add x:=by rw[aX h,Hi]
theorem BS (cs:List gU) (xss:List (List Rat)):∀ n,(eR cs xss n).length<=n*cs.length
 | 0=>by simp[eR]
 | n+1=>by
   have:=BS cs xss n
   have h2:(kZ n (cs.zip (xss.getD n []))).length<=cs.length:=by
    unfold kZ;rw[List.length_map]
    exact Nat.le_trans (List.length_filter_le _ _) (by rw[List.length_zip];omega)
   show (eR cs xss n++_).length<=_
   rw[List.length_append,Nat.add_mul,Nat.one_mul];omega
theorem rQ {y:Nat} {p:gU×Rat} (hy:y<=9999) (h:1<=iP p.1.2):cH (qH y p).exp=false:=by
 have:=Fl p.1.2
 rw[qH,BR]
 unfold cH
 simp only[Bool.or_eq_false_iff,decide_eq_false_iff_not,Bool.not_true,and_true]
 omega
theorem DY {y:Nat} {l:List (gU×Rat)} {i:Nat} {p:gU×Rat} (h:l[i]? =some p):kZ y (l.take (i+1))=kZ y (l.take i)++(if mr p=true then [qH y p] else []):=by
 unfold kZ;rw[aX h,List.filter_append,List.map_append]
 by_cases hd:mr p=true
 ·rw[if_pos hd,List.filter_cons_of_pos hd];rfl
 ·rw[if_neg hd,List.filter_cons_of_neg hd];rfl
set_option maxRecDepth 4000
def ElB {α:Type} (E:World->List Value->α->Prop):Prop:=∀ {w w':World} {cs:List Value} {a:α},E w cs a->au w w'->E w' cs a
theorem fu.b {α:Type} {E:World->List Value->α->Prop} {sz:Nat} (h:fu E sz):ElB E:=λhE hb=>h.kp hE (Kp.of hb)
theorem bL.pg {α:Type} {E:World->List Value->α->Prop} {sz:Nat} {w w':World} {v:Value} {es:List α} (hE:ElB E) (h:bL E sz w v es) (hb:au w w'):bL E sz w' v es:=by
 obtain⟨p,c,hv,h1,h2,h3⟩:=h
 refine⟨p,c,hv,h1,h2,λi q hq=> ?_⟩
 obtain⟨b,off,cs,hp,hc,hr⟩:=h3 i q hq
 exact⟨b,off,cs,hp,λj u hj=>hb.cell (hc j u hj),hE hr hb⟩
def fQ (kk:Nat) (w:World) (cs:List Value) (x:gU):Prop:=∃ nm s p n c t y m d,cs=[.string nm,.int .u8 (x.1:Int),.bool s,.slice p n c,.bool t,.slice y m d]/\x.1<256/\ax w (.agg #[.bool s,.slice p n c,.bool t,.slice y m d]) x.2 kk
theorem gn (kk:Nat):fu (fQ kk) 6 where
 kp:=λh k=>by
  obtain⟨nm,s,p,n,c,t,y,m,d,hv,h1,h2⟩:=h
  exact⟨_,_,_,_,_,_,_,_,_,hv,h1,h2.kp k⟩
 len:=λh=>by
  obtain⟨nm,s,p,n,c,t,y,m,d,rfl,_⟩:=h
  rfl
 ok:=λh=>by
  obtain⟨nm,s,p,n,c,t,y,m,d,rfl,_⟩:=h
  rfl
def kn (kk:Nat) (w:World) (cs:List Value) (q:Rat):Prop:=∃ s p n c t y m d,cs=[.bool s,.slice p n c,.bool t,.slice y m d]/\ax w (.agg #[.bool s,.slice p n c,.bool t,.slice y m d]) q kk
theorem cg (kk:Nat):fu (kn kk) 4 where
 kp:=λh k=>by
  obtain⟨s,p,n,c,t,y,m,d,hv,h2⟩:=h
  exact⟨_,_,_,_,_,_,_,_,hv,h2.kp k⟩
 len:=λh=>by
  obtain⟨s,p,n,c,t,y,m,d,rfl,_⟩:=h
  rfl
 ok:=λh=>by
  obtain⟨s,p,n,c,t,y,m,d,rfl,_⟩:=h
  rfl
def jV (kk:Nat) (w:World) (cs:List Value) (r:List Rat):Prop:=∃ v,cs=[v]/\bL (kn kk) 4 w v r
def ko (kk:Nat) (w:World) (cs:List Value) (t:List (List Rat)):Prop:=∃ v,cs=[v]/\bL (jV kk) 1 w v t
theorem vJ (kk:Nat):ElB (jV kk):=λh hb=>by
 obtain⟨v,hv,h1⟩:=h
 exact⟨v,hv,h1.pg (cg kk).b hb⟩
theorem qI (kk:Nat):ElB (ko kk):=λh hb=>by
 obtain⟨v,hv,h1⟩:=h
 exact⟨v,hv,h1.pg (vJ kk) hb⟩
theorem bL.sl {α:Type} {E:World->List Value->α->Prop} {sz:Nat} {w:World} {v:Value} {es:List α} (h:bL E sz w v es):∃ p c,v=.slice p es.length c:=by
 obtain⟨p,c,hv,_⟩:=h
 exact⟨p,c,hv⟩
theorem ax.raw {w:World} {v:Value} {q:Rat} {k:Nat} (h:ax w v q k):∃ (a:Bool×Rat) (s:Bool) (p:Option Addr) (c:Nat) (t:Bool) (r:Option Addr) (d:Nat) (xs ys:List Nat),v=.agg #[.bool s,.slice p xs.length c,.bool t,.slice r ys.length d]/\BD k w [.bool s,.slice p xs.length c,.bool t,.slice r ys.length d] a/\a.2=q/\(a.1=false->q=0):=by
 obtain⟨s,xs,t,ys,hr,rfl,hx,hy⟩:=h
 obtain⟨p,c,r,d,rfl,-⟩:=hr.xH
 exact⟨(tc s xs t ys,rq s xs t ys),s,p,c,t,r,d,xs,ys,rfl,⟨s,p,c,t,r,d,xs,ys,rfl,hr,rfl,hx,hy⟩,rfl,λe=>vo e⟩
theorem BU {q:Rat} (h:q.den=1):q.floor=q.num:=by
 rw[Rat.floor_def,h];simp
attribute [local irreducible] ak VS
theorem Hk (v:Value) (X:Int) (k:Nat) (w:World) (hv:bq w v X k):
  Calls Tryz.prog 84 #[v] w λe w'=>∃ n b,e=.returned (.tuple #[.int .i64 n,.bool b])/\(b=true->n=X)/\(b=false->4294967296<=X.natAbs)/\au w w':=by
 by_cases h:X.natAbs<4294967296
 ·refine (DM v X k w hv h).mono ?_
  rintro e w' ⟨rfl,hb⟩
  exact⟨_,_,rfl,λ_=>rfl,λh=>(by cases h),hb⟩
 ·refine (DN v X k w hv).mono ?_
  rintro e w' ⟨n,b,rfl,h1,hb⟩
  exact⟨_,_,rfl,h1,λ_=>by omega,hb⟩
theorem Hl {a:Bool×Rat} {q:Rat} (h2:a.2=q) (h1:a.1=false->q=0) (h:jx a=false):iP q=0:=by
 unfold jx at h
 unfold iP
 rw[h2] at h
 cases ha:a.1 with
 | false=>rw[h1 ha];rfl
 | true=>
   rw[ha,Bool.true_and,decide_eq_false_iff_not] at h
   rw[if_neg (λe=>h e.1)]
theorem DZ {a:Bool×Rat} {q:Rat} (h2:a.2=q) (h:jx a=true):q.den=1:=by
 unfold jx at h
 rw[h2,Bool.and_eq_true,decide_eq_true_iff] at h
 exact h.2
theorem vK {q:Rat} (h:q.num<1\/40<q.num):iP q=0:=by unfold iP;rw[if_neg aa]
theorem ayrs_in {q:Rat} (hd:q.den=1) (h1:1<=q.num) (h2:q.num<=40):(iP q:Int)=q.num:=by unfold iP;rw[if_pos ⟨hd,h1,h2⟩];omega
theorem vL (cs:List Value) (x:gU) (kk:Nat) (w:World) (hv:fQ kk w cs x) (hk:kk<=1000000):
  Calls Tryz.prog 37 #[.agg cs.toArray] w λe w'=>e=.returned (.int .i64 (iP x.2:Int))/\au w w':=by
 obtain⟨nm,s0,p0,n0,c0,t0,y0,m0,d0,rfl,wF,lh⟩:=hv
 obtain⟨a,s,p,c,t,r,d,xs,ys,he,fN,ha2,ha1⟩:=lh.raw
 injection he with he
 have zf:=congrArg Array.toList he
 simp only[List.cons.injEq,Value.bool.injEq,Value.slice.injEq,and_true] at zf
 obtain⟨rfl,⟨rfl,rfl,rfl⟩,rfl,rfl,rfl,rfl⟩:=zf
 refine ae (C:=aV Tryz.prog w _) (args:=[_]) Tryz.func37 rfl Tryz.ntmps37 (bD rfl) ?_
 refine ab ?_
 refine VO.gw rfl (fk Tryz.func83) (λaP β bG aZ ho=>(wE _ [a] kk aP (nO (qm kk) (ho.own 7 (.base (List.mem_singleton.2 rfl)) _ _ rfl) [] (vs:=[[.bool s0,.slice p0 xs.length c0,.bool t0,.slice y0 ys.length d0]]) (by rfl) (.cons ((qm kk).kp fN (Kp.of (U:=UU) aZ)) .nil) rfl (Nat.le_refl _) (show (1:Nat)<=9223372036854775807 by omega)) aa).mono ?_)
 rintro e w1 ⟨rfl,aB⟩
 cases hw:jx a with
 | false=>
   rw[show [a].all jx=false by simp[hw]]
   refine aG aB ?_
   intro cj _ bb1
   refine az ?_;intro wz kz bz
   exact⟨by rw[Hl ha2 ha1 hw];rfl,bz⟩
 | true=>
   rw[show [a].all jx=true by simp[hw]]
   have hd:=DZ ha2 hw
   have ze:=BU hd
   refine aG aB ?_
   intro cj _ bb1
   refine VO.cI rfl rfl (fk Tryz.func85) (λbh bQ bE=>BC _ x.2 kk bh lh.k aa) (λbh bQ bE w2 s2 p2 n2 c2 q2 aQ db _ bb2=>wV rfl ?_)
   refine ab ?_
   rw[ze] at q2
   refine VO.call rfl rfl (fk Tryz.func84) (λcY di dQ=>(Hk _ x.2.num (bU kk) cY (q2.ki (lh.rJ.1))).mono ?_)
   rintro e w3 ⟨n,b,rfl,hn,FL,cu⟩
   cases b with
   | false=>
     refine aG cu ?_
     intro fj _ bb3
     refine az ?_;intro wz kz bz
     exact⟨by rw[vK (by have:=FL rfl;omega)];rfl,bz⟩
   | true=>
     obtain rfl:=hn rfl
     obtain⟨Y,hY⟩:∃ Y,Y=x.2.num:=⟨_,rfl⟩
     rw[<-hY]
     by_cases h1:Y<1
     ·refine aG cu ?_
      intro fj _ bb3
      refine VO.fix 23 rfl (congrArg (λb=>AV.val (.bool b)) (decide_eq_true h1)) ?_
      refine ab ?_
      refine az ?_;intro wz kz bz
      exact⟨by rw[vK aa];rfl,bz⟩
     ·by_cases h2:Y>40
      ·refine aG cu ?_
       intro fj _ bb3
       refine VO.fix 23 rfl (congrArg (λb=>AV.val (.bool b)) (decide_eq_false h1)) ?_
       refine ab ?_
       refine VS.aY rfl (decide_eq_true h2) ?_
       refine ab ?_
       refine az ?_;intro wz kz bz
       exact⟨by rw[vK aa];rfl,bz⟩
      ·refine aG cu ?_
       intro fj _ bb3
       refine VO.fix 23 rfl (congrArg (λb=>AV.val (.bool b)) (decide_eq_false h1)) ?_
       refine ab ?_
       refine VS.bk rfl (decide_eq_false h2) ?_
       refine ab ?_
       refine az ?_;intro wz kz bz
       exact⟨by rw[ayrs_in hd aa aa,hY];rfl,bz⟩
theorem Hm (v:Value) (p:Option Addr) (N c b1 b2 kk:Nat) (e:Int) (t:List (List Rat)) (w:World) (hv:bL (jV kk) 1 w v t) (h1:w.cell? ⟨b1,0,none⟩=some (.int .i64 e)) (h2:w.cell? ⟨b2,0,none⟩=some (.slice p N c)) (he:0<=e):
  Calls Tryz.prog 77 #[.agg #[v],.pointer (some ⟨b1,0,none⟩),.pointer (some ⟨b2,0,none⟩)] w λo w'=>o=.returned (.bool (iC e N t))/\au w w':=by
 obtain⟨pr,cr,rfl⟩:=hv.sl
 obtain⟨L,hL⟩:∃ L,L=t.length:=⟨_,rfl⟩
 rw[<-hL] at hv ⊢
 refine ae (C:=aV Tryz.prog w _) (args:=[_,_,_]) Tryz.func77 rfl Tryz.ntmps77 (bD rfl) ?_
 refine ab ?_
 refine VO.read rfl [.int .i64 e] rfl (fb h1) (wV rfl ?_)
 refine ab ?_
 by_cases hge:e>=(L:Int)
 ·refine VO.fix 10 rfl (congrArg (λb=>AV.val (.bool b)) (decide_eq_true hge)) ?_
  refine ab ?_
  refine az ?_;intro wz kz bz
  exact⟨by unfold iC;rw[<-hL,decide_eq_true hge];rfl,bz⟩
 ·refine VO.fix 10 rfl (congrArg (λb=>AV.val (.bool b)) (decide_eq_false hge)) ?_
  refine ab ?_
  obtain⟨xs,hx⟩:∃ xs,t[e.toNat]? =some xs:=⟨_,List.getElem?_eq_getElem aa⟩
  obtain⟨b,off,gr,rfl,hc,⟨u1,rfl,sY⟩⟩:=hv.at hx
  obtain⟨p3,c3,rfl⟩:=sY.sl
  refine VO.read rfl [.int .i64 e] rfl (fb h1) (wV rfl ?_)
  refine ab ?_
  refine VO.cond rfl eP (wV rfl ?_)
  refine VO.read rfl [.slice p3 xs.length c3] rfl (λj u hj=>by rw[Addr.add_mid];have:=hc j u hj;rwa [Nat.mul_comm] at this ⊢) (wV rfl ?_)
  refine ab ?_
  refine VO.read rfl [.slice p N c] rfl (fb h2) (wV rfl ?_)
  refine ab ?_
  refine az ?_;intro wz kz bz
  refine⟨congrArg (λb=>Ending.returned (.bool b)) ?_,bz⟩
  unfold iC
  rw[<-hL,decide_eq_false hge,Bool.false_or,List.getD_eq_getElem?_getD,hx]
  show ((xs.length:Int) != (N:Int))=(xs.length != N)
  by_cases hh:xs.length=N
  ·rw[hh];simp
  ·rw[bne_iff_ne.2 hh,bne_iff_ne.2 aa]
end
set_option maxRecDepth 4000
section
open Go.RowKit
attribute [local irreducible] ak VS
theorem Ea (g:FuncId) (c1 c2:Value) (P:List (List Rat)->Bool) (kk:Nat) (kg:jh Tryz.prog g) (v:Value) (es:List (List (List Rat))) (w:World) (hv:bL (ko kk) 1 w v es) (hg:∀ (cs:List Value) (a:List (List Rat)) (w1:World),au w w1->ko kk w1 cs a->Calls Tryz.prog g #[.agg cs.toArray,c1,c2] w1 λe w'=>e=.returned (.bool (P a))/\au w1 w'):
  Calls Tryz.prog 137 #[v,.func (.func g) #[] #[c1,c2]] w λe w'=>∃ r,e=.returned (.int .i64 r)/\decide (r>=0)=es.any P/\au w w':=by
 obtain⟨p,c,rfl,dK,eE⟩:=hv.form
 obtain⟨N,hN⟩:∃ N,N=es.length:=⟨_,rfl⟩
 rw[<-hN] at hv dK ⊢
 refine ae (C:=aV Tryz.prog w _) (args:=[_,_]) Tryz.func137 rfl Tryz.ntmps137 (bD rfl) ?_
 refine ab ?_
 refine VS.loop (J:=λmm L M w'=>∃ z:Nat,z<=N/\mm=N-z/\L=[(0,.val (.slice p N c)),(1,.val (.func (.func g) #[] #[c1,c2])),(7,.val (.int .i64 (N:Int))),(8,.val (.int .i64 (z:Int)))]/\M=[]/\(es.take z).any P=false) N ⟨_,_,?_,?_,?_,?_,⟨0,by omega,rfl,rfl,rfl,rfl⟩⟩ ?_
 ·exact dw
 ·exact dw
 ·rfl
 ·exact iK
 rintro mm L M wJ ⟨z,hz,rfl,rfl,rfl,hno⟩
 refine ab ?_
 by_cases hlt:z<N
 ·obtain⟨a,hx⟩:∃ x,es[z]? =some x:=⟨_,List.getElem?_eq_getElem aa⟩
  obtain⟨b,off,cs,rfl,hc,he⟩:=hv.at hx
  have zf:=he
  obtain⟨u,rfl,-⟩:=zf
  refine VS.aY rfl (decide_eq_true (Int.ofNat_lt.2 hlt)) ?_
  refine ab ?_
  refine VO.cond rfl eP ?_
  refine wV rfl ?_
  refine ab ?_
  refine VO.read rfl [u] rfl (λj u hj=>by rw[Addr.add_mid,Int.toNat_natCast];exact hc j u hj) (wV rfl ?_)
  refine VO.call rfl rfl kg (λaP bG aZ=>(hg _ a aP aZ (qI kk he aZ)).mono ?_)
  rintro e w1 ⟨rfl,aB⟩
  cases hP:P a with
  | true=>
    refine aG aB ?_
    intro cj _ bb1
    refine az ?_;intro wz kz bz
    refine⟨_,rfl,?_,bz⟩
    rw[List.any_eq_true.2 ⟨a,List.mem_of_getElem? hx,hP⟩,decide_eq_true aa]
  | false=>
    refine aG aB ?_
    intro cj _ bb1
    refine VS.back (N-(z+1)) aa ⟨_,_,?_,?_,?_,?_,⟨z+1,by omega,rfl,rfl,rfl,?_⟩⟩
    ·refine⟨rfl,rfl,rfl,?_,trivial⟩
     rw[<-bf aa];rfl
    ·exact dw
    ·rfl
    ·exact iK
    ·rw[aX hx,List.any_append,hno];simp[hP]
 ·refine VS.bk rfl (decide_eq_false (λe=>hlt (Int.ofNat_lt.1 e))) ?_
  obtain rfl:z=N:=by omega
  refine ab ?_
  refine az ?_;intro wz kz bz
  rw[List.take_of_length_le aa] at hno
  exact⟨_,rfl,by rw[hno];rfl,bz⟩
theorem Eb (g:FuncId) (c1 c2:Value) (P:List (List Rat)->Bool) (kk:Nat) (kg:jh Tryz.prog g) (v:Value) (es:List (List (List Rat))) (w:World) (hv:bL (ko kk) 1 w v es) (hg:∀ (cs:List Value) (a:List (List Rat)) (w1:World),au w w1->ko kk w1 cs a->Calls Tryz.prog g #[.agg cs.toArray,c1,c2] w1 λe w'=>e=.returned (.bool (P a))/\au w1 w'):
  Calls Tryz.prog 79 #[v,.func (.func g) #[] #[c1,c2]] w λe w'=>e=.returned (.bool (es.any P))/\au w w':=by
 obtain⟨p,c,rfl,dK,eE⟩:=hv.form
 refine ae (C:=aV Tryz.prog w _) (args:=[_,_]) Tryz.func79 rfl Tryz.ntmps79 (bD rfl) ?_
 refine ab ?_
 refine VO.call rfl rfl (fk Tryz.func137) (λaP bG aZ=>(Ea g c1 c2 P kk kg _ es aP (hv.pg (qI kk) aZ) (λcs a w1 h1 h2=>hg cs a w1 (aZ.ay h1) h2)).mono ?_)
 rintro e w1 ⟨r1,rfl,h1,aB⟩
 refine aG aB ?_
 intro cj _ bb1
 refine az ?_;intro wz kz bz
 exact⟨congrArg (λb=>Ending.returned (.bool b)) h1,bz⟩
theorem Ec (g:FuncId) (P:gU->Bool) (kk:Nat) (kg:jh Tryz.prog g) (v:Value) (es:List (gU)) (w:World) (hv:bL (fQ kk) 6 w v es) (hg:∀ (cs:List Value) (a:gU) (w1:World),au w w1->fQ kk w1 cs a->Calls Tryz.prog g #[.agg cs.toArray] w1 λe w'=>e=.returned (.bool (P a))/\au w1 w'):
  Calls Tryz.prog 133 #[v,.func (.func g) #[] #[]] w λe w'=>∃ r,e=.returned (.int .i64 r)/\decide (r>=0)=es.any P/\au w w':=by
 obtain⟨p,c,rfl,dK,eE⟩:=hv.form
 obtain⟨N,hN⟩:∃ N,N=es.length:=⟨_,rfl⟩
 rw[<-hN] at hv dK ⊢
 refine ae (C:=aV Tryz.prog w _) (args:=[_,_]) Tryz.func133 rfl Tryz.ntmps133 (bD rfl) ?_
 refine ab ?_
 refine VS.loop (J:=λmm L M w'=>∃ z:Nat,z<=N/\mm=N-z/\L=[(0,.val (.slice p N c)),(1,.val (.func (.func g) #[] #[])),(7,.val (.int .i64 (N:Int))),(8,.val (.int .i64 (z:Int)))]/\M=[]/\(es.take z).any P=false) N ⟨_,_,?_,?_,?_,?_,⟨0,by omega,rfl,rfl,rfl,rfl⟩⟩ ?_
 ·exact dw
 ·exact dw
 ·rfl
 ·exact iK
 rintro mm L M wJ ⟨z,hz,rfl,rfl,rfl,hno⟩
 refine ab ?_
 by_cases hlt:z<N
 ·obtain⟨a,hx⟩:∃ x,es[z]? =some x:=⟨_,List.getElem?_eq_getElem aa⟩
  obtain⟨b,off,cs,rfl,hc,he⟩:=hv.at hx
  have zf:=he
  obtain⟨nm,s0,p0,n0,c0,t0,y0,m0,d0,rfl,-⟩:=zf
  refine VS.aY rfl (decide_eq_true (Int.ofNat_lt.2 hlt)) ?_
  refine ab ?_
  refine VO.cond rfl eP ?_
  refine wV rfl ?_
  refine ab ?_
  refine VO.read rfl [.string nm,.int .u8 (a.1:Int),.bool s0,.slice p0 n0 c0,.bool t0,.slice y0 m0 d0] rfl (λj u hj=>by rw[Addr.add_mid,Int.toNat_natCast];exact hc j u hj) (wV rfl ?_)
  refine VO.call rfl rfl kg (λaP bG aZ=>(hg _ a aP aZ ((gn kk).b he aZ)).mono ?_)
  rintro e w1 ⟨rfl,aB⟩
  cases hP:P a with
  | true=>
    refine aG aB ?_
    intro cj _ bb1
    refine az ?_;intro wz kz bz
    refine⟨_,rfl,?_,bz⟩
    rw[List.any_eq_true.2 ⟨a,List.mem_of_getElem? hx,hP⟩,decide_eq_true aa]
  | false=>
    refine aG aB ?_
    intro cj _ bb1
    refine VS.back (N-(z+1)) aa ⟨_,_,?_,?_,?_,?_,⟨z+1,by omega,rfl,rfl,rfl,?_⟩⟩
    ·refine⟨rfl,rfl,rfl,?_,trivial⟩
     rw[<-bf aa];rfl
    ·exact dw
    ·rfl
    ·exact iK
    ·rw[aX hx,List.any_append,hno];simp[hP]
 ·refine VS.bk rfl (decide_eq_false (λe=>hlt (Int.ofNat_lt.1 e))) ?_
  obtain rfl:z=N:=by omega
  refine ab ?_
  refine az ?_;intro wz kz bz
  rw[List.take_of_length_le aa] at hno
  exact⟨_,rfl,by rw[hno];rfl,bz⟩
theorem Ed (g:FuncId) (P:gU->Bool) (kk:Nat) (kg:jh Tryz.prog g) (v:Value) (es:List (gU)) (w:World) (hv:bL (fQ kk) 6 w v es) (hg:∀ (cs:List Value) (a:gU) (w1:World),au w w1->fQ kk w1 cs a->Calls Tryz.prog g #[.agg cs.toArray] w1 λe w'=>e=.returned (.bool (P a))/\au w1 w'):
  Calls Tryz.prog 80 #[v,.func (.func g) #[] #[]] w λe w'=>e=.returned (.bool (es.any P))/\au w w':=by
 obtain⟨p,c,rfl,dK,eE⟩:=hv.form
 refine ae (C:=aV Tryz.prog w _) (args:=[_,_]) Tryz.func80 rfl Tryz.ntmps80 (bD rfl) ?_
 refine ab ?_
 refine VO.call rfl rfl (fk Tryz.func133) (λaP bG aZ=>(Ec g P kk kg _ es aP (hv.pg ((gn kk).b) aZ) (λcs a w1 h1 h2=>hg cs a w1 (aZ.ay h1) h2)).mono ?_)
 rintro e w1 ⟨r1,rfl,h1,aB⟩
 refine aG aB ?_
 intro cj _ bb1
 refine az ?_;intro wz kz bz
 exact⟨congrArg (λb=>Ending.returned (.bool b)) h1,bz⟩
theorem LH (cs:List Value) (x:gU) (kk:Nat) (w:World) (hv:fQ kk w cs x) (hk:kk<=1000000):
  Calls Tryz.prog 78 #[.agg cs.toArray] w λe w'=>e=.returned (.bool (rO x))/\au w w':=by
 have FQ:=hv
 obtain⟨nm,s0,p0,n0,c0,t0,y0,m0,d0,rfl,wF,lh⟩:=hv
 obtain⟨k,q⟩:=x
 replace wF:k<256:=wF
 refine ae (C:=aV Tryz.prog w _) (args:=[_]) Tryz.func78 rfl Tryz.ntmps78 (bD rfl) ?_
 refine ab ?_
 by_cases h6:k=6
 ·refine VO.fix 6 rfl (congrArg (λb=>AV.val (.bool b)) (Kt (show (k:Int)=6 by omega))) ?_
  refine ab ?_
  refine VO.cB rfl rfl (fk Tryz.func37) (λaP bG aZ=>vL _ (k,q) kk aP ((gn kk).b FQ aZ) hk) (λaP bG aZ w1 aB cj _ bb1=>wV rfl ?_)
  refine ab ?_
  refine az ?_;intro wz kz bz
  refine⟨congrArg (λb=>Ending.returned (.bool b)) ?_,bz⟩
  show (((iP q:Nat):Int) == 0)=rO (k,q)
  unfold rO
  rw[show ((k,q):gU).1=6 from h6]
  show _=(true && (iP q == 0))
  rw[Bool.true_and]
  by_cases hz:iP q=0
  ·rw[hz];rfl
  ·rw[Fc aa,beq_eq_false_iff_ne.2 hz]
 ·refine VO.fix 6 rfl (congrArg (λb=>AV.val (.bool b)) (Fc (show (k:Int)≠6 by omega))) ?_
  refine ab ?_
  refine az ?_;intro wz kz bz
  exact⟨by unfold rO;rw[show (((k,q):gU).1 == 6)=false from beq_eq_false_iff_ne.2 h6];rfl,bz⟩
theorem LI (v u:Value) (e:Int) (cs:List gU) (ts:List (List (List Rat))) (kk:Nat) (w:World) (hv:bL (fQ kk) 6 w v cs) (hu:bL (ko kk) 1 w u ts) (hk:kk<=1000000):
  Calls Tryz.prog 33 #[v,.int .i64 e,u] w λo w'=>o=.returned (.int .i64 (ld cs e ts))/\au w w':=by
 obtain⟨p,c,rfl⟩:=hv.sl
 obtain⟨p2,c2,rfl⟩:=hu.sl
 refine ae (C:=aV Tryz.prog w _) (args:=[_,_,_]) Tryz.func33 rfl Tryz.ntmps33 (bD rfl) ?_
 refine ab ?_
 by_cases hlong:(ts.length:Int)>40
 ·refine VS.aY rfl (decide_eq_true hlong) ?_
  refine ab ?_
  refine az ?_;intro wz kz bz
  exact⟨by unfold ld;rw[if_pos aa];rfl,bz⟩
 refine VS.bk rfl (decide_eq_false hlong) ?_
 refine ab ?_
 by_cases zz:e<0
 ·refine VO.fix 17 rfl (congrArg (λb=>AV.val (.bool b)) (decide_eq_true zz)) ?_
  refine ab ?_
  refine az ?_;intro wz kz bz
  exact⟨by unfold ld;rw[if_neg aa,if_pos zz];rfl,bz⟩
 refine VO.fix 17 rfl (congrArg (λb=>AV.val (.bool b)) (decide_eq_false zz)) ?_
 refine ab ?_
 refine VO.gw rfl (fk Tryz.func79) (λaP β bG aZ ho=>(Eb 77 (.pointer (some ⟨β 4,0,none⟩)) (.pointer (some ⟨β 3,0,none⟩)) (iC e cs.length) kk (fk Tryz.func77) _ ts aP (hu.pg (qI kk) aZ) (λl a w1 hb hs=>by
  obtain⟨u1,rfl,hs⟩:=hs
  exact Hm u1 p cs.length c (β 4) (β 3) kk e a w1 hs (hb.cell (kY (ho.own 4 (.base (by simp[eG,AV.ids])) _ _ rfl).cls)) (hb.cell (kY (ho.own 3 (.base (by simp[eG,AV.ids])) _ _ rfl).cls)) aa)).mono ?_)
 rintro o w1 ⟨rfl,aB⟩
 cases hA:ts.any (iC e cs.length) with
 | true=>
   refine aG aB ?_
   intro cj _ bb1
   refine az ?_;intro wz kz bz
   exact⟨by unfold ld;rw[if_neg aa,if_neg zz,if_pos hA];rfl,bz⟩
 | false=>
   refine aG aB ?_
   intro cj _ bb1
   refine VO.call rfl rfl (fk Tryz.func80) (λbh bQ bE=>(Ed 78 rO kk (fk Tryz.func78) _ cs bh (hv.bo (gn kk) bE) (λl a w1 hb hs=>LH l a kk w1 hs hk)).mono ?_)
   rintro o w2 ⟨rfl,aQ⟩
   cases hB:cs.any rO with
   | true=>
     refine aG aQ ?_
     intro db _ bb2
     refine az ?_;intro wz kz bz
     exact⟨by unfold ld;rw[if_neg aa,if_neg zz,hA,if_neg cS,if_pos hB];rfl,bz⟩
   | false=>
     refine aG aQ ?_
     intro db _ bb2
     refine az ?_;intro wz kz bz
     exact⟨by unfold ld;rw[if_neg aa,if_neg zz,hA,if_neg cS,hB,if_neg cS];rfl,bz⟩
set_option maxRecDepth 4000
def iH {α:Type} (E:World->List Value->α->Prop) (sz:Nat) (t:TypeId) (i:Nat) (X:AV) (M:List (Nat×(TypeId×List AV))) (w:World) (es:List α):Prop:=
 (es=[]/\X=.val (.slice none 0 0)/\M=[])\/∃ n c vs sp,X=.row i 0 n c/\M=[(i,(t,vs.flatten.map .val++sp))]/\dM E sz w n c vs sp es
theorem iH.kp {α:Type} {E:World->List Value->α->Prop} {sz:Nat} {t:TypeId} {i:Nat} {X:AV} {M:List (Nat×(TypeId×List AV))} {w w':World} {es:List α} (hE:fu E sz) (h:iH E sz t i X M w es) (k:Kp UU w w'):iH E sz t i X M w' es:=by
 rcases h with h|⟨n,c,vs,sp,h1,h2,h3⟩
 ·exact .inl h
 ·exact .inr ⟨n,c,vs,sp,h1,h2,h3.kp hE k⟩
def Hp.mask (l:List Nat) (H:Hp):Hp:=λi=>bif l.any (Nat.beq i) then none else H i
def xO (H:Hp):List Nat->Prop
 | []=>True
 | i::r=>H i=none/\xO H r
theorem xO.eq {H:Hp}:∀ {l:List Nat},xO H l->∀ i,l.any (Nat.beq i)=true->H i=none
 | [],_,i,h=>by cases h
 | j::r,hn,i,h=>by
   rw[List.any_cons,Bool.or_eq_true] at h
   rcases h with h|h
   ·rw[Nat.eq_of_beq_eq_true h];exact hn.1
   ·exact xO.eq hn.2 i h
theorem Hp.mask_eq {H:Hp} {l:List Nat} (h:xO H l):Hp.mask l H=H:=by
 funext i
 unfold Hp.mask
 cases hb:l.any (Nat.beq i) with
 | true=>exact (h.eq i hb).symm
 | false=>rfl
theorem VS.mask {C:Cx} {Q:Exit->Act->World->Prop} {F:Fr} {H:Hp} {w:World} {stk:List It} (l:List Nat) (h:xO H l) (k:VS C Q stk F (Hp.mask l H) w):VS C Q stk F H w:=by rw[Hp.mask_eq h] at k;exact k
theorem xP {cs:List gU} {xs:List Rat} {z:Nat} {k:gU} {x:Rat} (h1:cs[z]? =some k) (h2:xs[z]? =some x):(bH cs xs)[z]? =some (k.1,k.2,x):=by
 unfold bH
 rw[List.getElem?_map,show (cs.zip xs)[z]? =some (k,x) from List.getElem?_zip_eq_some.2 ⟨h1,h2⟩];rfl
set_option maxRecDepth 4000 in
theorem Ee (v u:Value) (cs:List gU) (xs:List Rat) (t:List (List Rat)) (e:Int) (kk:Nat) (w:World) (hu:bL (fQ kk) 6 w u cs) (hv:bL (jV kk) 1 w v t) (he:0<=e) (hx:t[e.toNat]? =some xs) (hlen:xs.length=cs.length) (hk:kk<=1000) (hn:cs.length<=1000):
  Calls Tryz.prog 35 #[.agg #[v],u,.int .i64 e] w λo w'=>∃ r,o=.returned r/\fo (qx (bU kk)) 9 101 w.heap.size w' r (bH cs xs)/\au w w':=by
 obtain⟨p,c,rfl,dK,eE⟩:=hu.form
 obtain⟨p2,c2,rfl⟩:=hv.sl
 obtain⟨N,hN⟩:∃ N,N=cs.length:=⟨_,rfl⟩
 rw[<-hN] at hu dK hlen hn ⊢
 have rA:e.toNat<t.length:=(List.getElem?_eq_some_iff.1 hx).1
 obtain⟨pb,po,pc,rfl,hpc,⟨pv,rfl,tL⟩⟩:=hv.at hx
 obtain⟨p3,c3,rfl⟩:=tL.sl
 have hE:((e.toNat:Nat):Int)=e:=by omega
 obtain⟨M0,hM0⟩:∃ M0,M0=t.length:=⟨_,rfl⟩
 rw[<-hM0] at hv rA
 rw[<-hM0]
 refine ae (C:=aV Tryz.prog w _) (args:=[_,_,_]) Tryz.func35 rfl Tryz.ntmps35 (bD rfl) ?_
 refine ab ?_
 refine VO.fix 12 rfl (congrArg (λb=>AV.val (.bool b)) (decide_eq_false (show ¬ e<0 by omega))) ?_
 refine ab ?_
 refine VO.fix 19 rfl (congrArg (λb=>AV.val (.bool b)) (decide_eq_false (show ¬ e>=(M0:Int) by omega))) ?_
 refine ab ?_
 refine VO.cond rfl eP (wV rfl ?_)
 refine VO.read rfl [.slice p3 xs.length c3] rfl (λj u hj=>by rw[Addr.add_mid];exact hpc j u hj) (wV rfl ?_)
 refine ab ?_
 refine VS.bk rfl (xJ aa) ?_
 refine ab ?_
 refine VS.loop (J:=λm L M w'=>∃ (z:Nat) (X:AV) (Mi:List (Nat×(TypeId×List AV))),z<=N/\m=N-z/\L=[(1,.val (.slice p N c)),(2,.val (.int .i64 e)),(3,.box 3 0),(7,X),(30,.val (.slice p N c)),(31,.val (.int .i64 (N:Int))),(32,.val (.int .i64 (z:Int)))]/\
  M=(3,(41,[.val (.slice (some ⟨pb,po,none⟩) M0 c2)]))::Mi/\iH (qx (bU kk)) 9 101 56 X Mi w' ((bH cs xs).take z)) N ⟨_,_,?_,?_,?_,?_,⟨0,_,[],by omega,rfl,rfl,rfl,.inl ⟨rfl,rfl,rfl⟩⟩⟩ ?_
 ·exact dw
 ·exact dw
 ·rfl
 ·exact iK
 rintro m L M wJ ⟨z,X,Mi,hz,rfl,rfl,rfl,hst⟩
 refine VS.mask [9,42,52,55] (by rcases hst with ⟨_,_,rfl⟩|⟨_,_,_,_,_,rfl,_⟩ <;> (repeat first|exact trivial|refine⟨rfl,?_⟩)) ?_
 refine ab ?_
 by_cases hlt:z<N
 ·obtain⟨k,kh⟩:∃ k,cs[z]? =some k:=⟨_,List.getElem?_eq_getElem aa⟩
  obtain⟨x,Kc⟩:∃ x,xs[z]? =some x:=⟨_,List.getElem?_eq_getElem aa⟩
  obtain⟨b,off,gr,rfl,hc,⟨nm,s0,p0,n0,c0,t0,y0,m0,d0,rfl,wF,lh⟩⟩:=hu.at kh
  obtain⟨b2,LJ,cs2,rfl,nV,⟨s1,p1,n1,c1,t1,y1,m1,d1,rfl,hin2⟩⟩:=tL.at Kc
  refine VS.aY rfl (decide_eq_true (Int.ofNat_lt.2 hlt)) ?_
  refine ab ?_
  refine VO.cond rfl eP ?_
  refine wV rfl ?_
  refine ab ?_
  refine VO.read rfl [.string nm,.int .u8 (k.1:Int),.bool s0,.slice p0 n0 c0,.bool t0,.slice y0 m0 d0] rfl (dI hc 0 _ ⟨[],rfl⟩) (wV rfl ?_)
  refine ab ?_
  refine VO.gw rfl (fk Tryz.func43) (λaP β bG aZ ho=>(jw _ [k.2] kk aP (iY (ho.own 42 (.base (List.mem_singleton.2 rfl)) _ _ rfl) [] (vs:=[[.bool s0,.slice p0 n0 c0,.bool t0,.slice y0 m0 d0]]) (by rfl) rfl (dZ.cons (lh.kp (Kp.of (U:=UU) aZ)) dZ.nil) (bD rfl) ff) (by unfold bM bU;simp;omega)).mono ?_)
  rintro o w1 ⟨r1,rfl,q1,-,aB⟩
  rw[nj] at q1
  obtain⟨s2,p4,n2,c4,t2,y2,m2,d2,rfl⟩:=q1.form
  refine aG aB ?_
  intro cj _ bb1
  refine VO.cond rfl eP (wV rfl ?_)
  refine VO.read rfl [.slice (some ⟨b2,LJ,none⟩) xs.length c3] rfl (λj u hj=>by rw[Addr.add_mid];exact hpc j u hj) (wV rfl ?_)
  refine ab ?_
  refine VO.cond rfl eP (wV rfl ?_)
  refine VO.read rfl [.bool s1,.slice p1 n1 c1,.bool t1,.slice y1 m1 d1] rfl (dI nV 0 _ ⟨[],rfl⟩) (wV rfl ?_)
  refine ab ?_
  refine VO.gw rfl (fk Tryz.func43) (λbh β bQ bE ho=>(jw _ [x] kk bh (iY (ho.own 52 (.base (List.mem_singleton.2 rfl)) _ _ rfl) [] (vs:=[[.bool s1,.slice p1 n1 c1,.bool t1,.slice y1 m1 d1]]) (by rfl) rfl (dZ.cons (hin2.kp (Kp.of (U:=UU) bE)) dZ.nil) (bD rfl) ff) (by unfold bM bU;simp;omega)).mono ?_)
  rintro o w2 ⟨r2,rfl,q2,-,aQ⟩
  rw[nj] at q2
  obtain⟨s3,p5,n3,c5,t3,y3,m3,d3,rfl⟩:=q2.form
  refine aG aQ ?_
  intro db _ bb2
  have uQ:=xP kh Kc
  have LK:qx (bU kk) w2 [.int .u8 (k.1:Int),.bool s2,.slice p4 n2 c4,.bool t2,.slice y2 m2 d2,.bool s3,.slice p5 n3 c5,.bool t3,.slice y3 m3 d3] (k.1,k.2,x):=⟨_,_,_,_,_,_,_,_,_,_,_,_,_,_,_,_,rfl,wF,q1.ki lh.rJ,q2.in hin2.rJ⟩
  rcases hst with ⟨fK,rfl,rfl⟩|⟨n',c',vs,sp,rfl,rfl,BV⟩
  ·refine VO.Bx (cQ _ _) (eu (bU kk)) (t:=99) (e:=101) (s:=55) (a:=(k.1,k.2,x)) (cs:=[.int .u8 (k.1:Int),.bool s2,.slice p4 n2 c4,.bool t2,.slice y2 m2 d2,.bool s3,.slice p5 n3 c5,.bool t3,.slice y3 m3 d3]) rfl rfl rfl rfl rfl rfl rfl rfl (bD rfl) rfl rfl rfl LK aa (λw8 cap sp k8 b8 wG=>wV rfl ?_)
   refine ab ?_
   refine VS.back (N-(z+1)) aa ⟨_,_,?_,?_,?_,?_,⟨z+1,_,_,by omega,rfl,rfl,rfl,.inr ⟨1,cap,_,sp,rfl,rfl,by rw[aX uQ,fK];exact wG⟩⟩⟩
   ·refine⟨rfl,rfl,rfl,rfl,rfl,rfl,?_,trivial⟩
    rw[<-bf (i:=z) aa];rfl
   ·exact dw
   ·rfl
   ·exact⟨.lit rfl,wG.Ff,trivial⟩
  ·have vV:=BV.len
   rw[List.length_take] at vV
   refine VO.Bz (cQ _ _) (eu (bU kk)) (t:=99) (e:=101) (s:=55) (i:=56) (n:=n') (c:=c') (vs:=vs) (sp:=sp) (es:=(bH cs xs).take z) (a:=(k.1,k.2,x)) (cs:=[.int .u8 (k.1:Int),.bool s2,.slice p4 n2 c4,.bool t2,.slice y2 m2 d2,.bool s3,.slice p5 n3 c5,.bool t3,.slice y3 m3 d3]) rfl rfl rfl rfl rfl rfl rfl rfl (bD rfl) rfl (.inr rfl) rfl (BV.kp (eu (bU kk)) bX) rfl LK aa (λw8 Ef Iq ρ k8 b8 eM wG=>wV rfl ?_)
   refine ab ?_
   refine VS.back (N-(z+1)) aa ⟨_,_,?_,?_,?_,?_,⟨z+1,_,_,by omega,rfl,rfl,rfl,.inr ⟨n' +1,Ef,_,Iq,rfl,rfl,by rw[aX uQ];exact wG⟩⟩⟩
   ·refine⟨rfl,rfl,rfl,rfl,rfl,rfl,?_,trivial⟩
    rw[<-bf (i:=z) aa];rfl
   ·exact dw
   ·rfl
   ·exact⟨.lit rfl,wG.Ff,trivial⟩
 ·refine VS.bk rfl (decide_eq_false (λe=>hlt (Int.ofNat_lt.1 e))) ?_
  obtain rfl:z=N:=by omega
  have IX:(bH cs xs).take z=bH cs xs:=List.take_of_length_le (by unfold bH;rw[List.length_map,List.length_zip];omega)
  rw[IX] at hst
  rcases hst with ⟨fK,rfl,rfl⟩|⟨n',c',vs,sp,rfl,rfl,BV⟩
  ·refine ab ?_
   refine az ?_;intro wz kz bz
   exact⟨_,rfl,.inl ⟨rfl,fK⟩,bz⟩
  ·refine ab ?_
   refine VS.oP (cQ _ _) rfl (λwz β kz bz en=> ?_)
   exact⟨_,rfl,BV.new (eu (bU kk)) (en.own 56 _ _ rfl) kz,bz⟩
theorem vM (f:bS->Rat) (h:∀ e:bS,e.exp.2.2.2=0->f e=0) (l:List bS):dm ((dN l).map f)=dm (l.map f):=by
 induction l with
 | nil=>rfl
 | cons e r ih=>
   unfold dN at ih ⊢
   by_cases h0:e.exp.2.2.2=0
   ·have hz:enz e=false:=by unfold enz;simp[h0]
    rw[List.filter_cons_of_neg (by simp[hz]),ih,List.map_cons,ja,h e h0]
    grind
   ·have hz:enz e=true:=by unfold enz;simp[h0]
    rw[List.filter_cons_of_pos hz,List.map_cons,List.map_cons,ja,ja,ih]
theorem Hn (l:List bS) (z:Int):jT (dN l) z=jT l z:=vM _ (λe h=>by
 unfold iq
 split
 ·rfl
 ·rw[h,Rat.zero_mul]) l
theorem Ho (l:List bS) (z:Int):mi (dN l) z=mi l z:=vM _ (λe h=>by
 unfold nZ
 split
 ·rfl
 ·rw[h,Rat.zero_mul]) l
def vN (kk:Nat) (i:Nat) (X:AV) (M:List (Nat×(TypeId×List AV))) (w:World) (es:List bS):Prop:=
 (es=[]/\X=.val (.slice none 0 0)/\M=[])\/∃ n c vs spare,X=.row i 0 n c/\M=[(i,(177,vs.flatten.map .val++spare.map .val))]/\n=es.length/\fO (ni kk) w es vs/\spare.all aM=true/\n<=c/\c<=9223372036854775807/\(vs.flatten++spare).length=c*6
theorem vN.kp {kk i:Nat} {X:AV} {M:List (Nat×(TypeId×List AV))} {w w':World} {es:List bS} (h:vN kk i X M w es) (k:Kp UU w w'):vN kk i X M w' es:=by
 rcases h with h|⟨n,c,vs,sp,h0,h1,h2,h3,h4⟩
 ·exact .inl h
 ·exact .inr ⟨n,c,vs,sp,h0,h1,h2,h3.kp (iB kk) k,h4⟩
section
variable {C:Cx} {β:Nat->Nat} {H:Hp} {w w1:World} {ids:List Nat} {X:AV} {M:List (Nat×(TypeId×List AV))}
theorem vN.in {kk i g:Nat} {es:List bS} (h:vN kk i X M w es) (o:ic C β H ids w1) (hg:g∈ids) (hG:H g=some (175,[X])) (hM:∀ x∈M,H x.1=some x.2) (k:Kp UU w w1):vH kk w1 (β g) es:=by
 have o1:=o.own g (.base hg) _ _ hG
 rcases h with ⟨rfl,rfl,rfl⟩|⟨n,c,vs,sp,rfl,rfl,h2,h3,h4,h5,h6,h7⟩
 ·exact⟨_,kY o1.cls,bL.nil _ _ _⟩
 ·have o2:=o.own i (.step (.base hg) hG (by rw[qz];simp)) _ _ (hM _ (List.mem_singleton.2 rfl))
  exact⟨_,kY o1.cls,nO (iB kk) o2 (sp.map .val) rfl (h3.kp (iB kk) k) h2 h5 h6⟩
theorem iH.slin {α:Type} {E:World->List Value->α->Prop} {sz i:Nat} {t:TypeId} {es:List α} (h:iH E sz t i X M w es) (hE:fu E sz) (o:ic C β H (eG [X]) w1) (hM:∀ x∈M,H x.1=some x.2) (k:Kp UU w w1):bL E sz w1 (X.aI β) es:=by
 rcases h with ⟨rfl,rfl,rfl⟩|⟨n,c,vs,sp,rfl,rfl,h3⟩
 ·exact bL.nil _ _ _
 ·exact h3.sl' hE (o.own i (.base (by simp[eG,AV.ids])) _ _ (hM _ (List.mem_singleton.2 rfl))) k
end
def Ir (kk:Nat) (w:World) (cs:List Value) (q:Rat):Prop:=∃ s p n c t y m d,cs=[.bool s,.slice p n c,.bool t,.slice y m d]/\aW w (.agg #[.bool s,.slice p n c,.bool t,.slice y m d]) q/\bW q kk
theorem dP (kk:Nat):fu (Ir kk) 4 where
 kp:=λh k=>by
  obtain⟨s,p,n,c,t,y,m,d,hv,h1,h2⟩:=h
  exact⟨_,_,_,_,_,_,_,_,hv,h1.kp k,h2⟩
 len:=λh=>by
  obtain⟨s,p,n,c,t,y,m,d,rfl,_⟩:=h
  rfl
 ok:=λh=>by
  obtain⟨s,p,n,c,t,y,m,d,rfl,_⟩:=h
  rfl
def jW (kk:Nat) (w:World) (cs:List Value) (r:fP):Prop:=∃ a b c d e f g,cs=a++(b++(c++(d++(e++(f++g)))))/\Ir kk w a r.p.b/\Ir kk w b r.p.s/\Ir kk w c r.p.d/\Ir kk w d r.p.i/\Ir kk w e r.due/\Ir kk w f r.Fm/\Ir kk w g r.own
theorem cP (kk:Nat):fu (jW kk) 28 where
 kp:=λh k=>by
  obtain⟨a,b,c,d,e,f,g,hv,h1,h2,h3,h4,h5,h6,h7⟩:=h
  exact⟨a,b,c,d,e,f,g,hv,(dP kk).kp h1 k,(dP kk).kp h2 k,(dP kk).kp h3 k,(dP kk).kp h4 k,(dP kk).kp h5 k,(dP kk).kp h6 k,(dP kk).kp h7 k⟩
 len:=λh=>by
  obtain⟨a,b,c,d,e,f,g,rfl,h1,h2,h3,h4,h5,h6,h7⟩:=h
  simp only[List.length_append]
  rw[(dP kk).len h1,(dP kk).len h2,(dP kk).len h3,(dP kk).len h4,(dP kk).len h5,(dP kk).len h6,(dP kk).len h7]
 ok:=λh=>by
  obtain⟨a,b,c,d,e,f,g,rfl,h1,h2,h3,h4,h5,h6,h7⟩:=h
  simp only[List.all_append]
  rw[(dP kk).ok h1,(dP kk).ok h2,(dP kk).ok h3,(dP kk).ok h4,(dP kk).ok h5,(dP kk).ok h6,(dP kk).ok h7];rfl
def AK:Nat:=40000
theorem Ir.mk {kk:Nat} {w:World} {s t:Bool} {p y:Option Addr} {n c m d:Nat} {q:Rat} (h:aW w (.agg #[.bool s,.slice p n c,.bool t,.slice y m d]) q) (hs:bW q kk):Ir kk w [.bool s,.slice p n c,.bool t,.slice y m d] q:=⟨_,_,_,_,_,_,_,_,rfl,h,hs⟩
theorem jy {cs:List gU} {xss:List (List Rat)} {y:Nat} (h:y<xss.length):(fc cs xss)[y]? =some (fF cs xss y):=by
 unfold fc
 rw[List.getElem?_map,List.getElem?_range h];rfl
theorem Hq {l:List bS} {y:Nat} {p:gU×Rat} (hy:y<=9999) (h:1<=iP p.1.2):gm (dN l) (qH y p)=dN (l++[qH y p]):=by
 unfold gm
 rw[if_neg (by rw[rQ hy h];simp)]
 unfold dN
 rw[List.filter_append]
 by_cases hz:(qH y p).exp.2.2.2=0
 ·rw[if_pos hz,List.filter_cons_of_neg (by unfold enz;simp[hz]),List.filter_nil,List.append_nil]
 ·rw[if_neg hz,List.filter_cons_of_pos (by unfold enz;simp[hz]),List.filter_nil]
theorem sN (l:List bS):(dN l).length<=l.length:=List.length_filter_le _ _
theorem xQ {cs:List gU} {xss:List (List Rat)} (h:∀ k∈cs,k.1=6->1<=iP k.2):∀ n,n<=9999->∀ e∈eR cs xss n,cH e.exp=false
 | 0,_,e,he=>by simp[eR] at he
 | n+1,hn,e,he=>by
   rw[show eR cs xss (n+1)=eR cs xss n++kZ n (cs.zip (xss.getD n [])) from rfl] at he
   rcases List.mem_append.1 he with he|he
   ·exact xQ h n aa e he
   ·unfold kZ at he
    obtain⟨p,hp,rfl⟩:=List.mem_map.1 he
    obtain⟨hp1,hp2⟩:=List.mem_filter.1 hp
    refine rQ aa (h p.1 (List.of_mem_zip (show (p.1,p.2)∈_ from hp1)).1 ?_)
    unfold mr at hp2
    exact eq_of_beq hp2
set_option maxRecDepth 4000
theorem VO.via {C:Cx} {m:Option (List FuncId)} {full:Array Oper} {l:List Oper} {Q:Exit->Act->World->Prop} {F:Fr} {H:Hp} {w:World} {P:Fr->Hp->World->Prop} {LL LM:List It} (h1:(∀ F' H' w',P F' H' w'->VS C Q LM F' H' w')->ak C m full l (VS C Q LL) F H w) (h2:∀ F' H' w',P F' H' w'->VS C Q LM F' H' w'):ak C m full l (VS C Q LL) F H w:=h1 h2
theorem VO.join {C:Cx} {m:Option (List FuncId)} {full:Array Oper} {l:List Oper} {Q:Exit->Act->World->Prop} {F:Fr} {H:Hp} {w:World} {P:Fr->Hp->World->Prop} {stk:List It} (h1:(∀ F' H' w',P F' H' w'->VS C Q stk F' H' w')->ak C m full l (VS C Q stk) F H w) (h2:∀ F' H' w',P F' H' w'->VS C Q stk F' H' w'):ak C m full l (VS C Q stk) F H w:=h1 h2
def mc (cs:List gU) (xss:List (List Rat)) (y z:Nat):List bS:=eR cs xss y++kZ y ((cs.zip (xss.getD y [])).take z)
theorem BW {cs:List gU} {xss:List (List Rat)} {T y z:Nat} (hy:y<T) (h:T*cs.length<=128):(mc cs xss y z).length<=128:=by
 have h1:=BS cs xss y
 have h2:(kZ y ((cs.zip (xss.getD y [])).take z)).length<=cs.length:=by
  unfold kZ;rw[List.length_map]
  exact Nat.le_trans (List.length_filter_le _ _) (by rw[List.length_take,List.length_zip];omega)
 unfold mc
 rw[List.length_append]
 have h3:(y+1)*cs.length<=T*cs.length:=Nat.mul_le_mul_right _ hy
 rw[Nat.add_mul,Nat.one_mul] at h3
 omega
theorem xR {cs:List gU} {xss:List (List Rat)} {y z:Nat} {k:gU} {x:Rat} (h1:cs[z]? =some k) (h2:(xss.getD y [])[z]? =some x):mc cs xss y (z+1)=mc cs xss y z++(if mr (k,x)=true then [qH y (k,x)] else []):=by
 unfold mc
 rw[DY (p:=(k,x)) (List.getElem?_zip_eq_some.2 ⟨h1,h2⟩),List.append_assoc]
set_option maxRecDepth 4000 in
theorem tW (v u:Value) (e:Int) (cs:List gU) (ts:List (List (List Rat))) (kk:Nat) (w:World) (hv:bL (fQ kk) 6 w v cs) (hu:bL (ko kk) 1 w u ts) (hk:kk<=64) (hn:cs.length<=64) (hd:ts.length*cs.length<=128\/40<ts.length):
  Calls Tryz.prog 10 #[v,.int .i64 e,u] w λo w'=>∃ r,o=.returned (.tuple #[r,.int .i64 (ld cs e ts)])/\fo (jW AK) 28 49 w.heap.size w' r (jU cs e ts)/\au w w':=by
 obtain⟨p,c,rfl,dK,eE⟩:=hv.form
 obtain⟨p2,c2,rfl,LN,hcm2⟩:=hu.form
 obtain⟨N,hN⟩:∃ N,N=cs.length:=⟨_,rfl⟩
 obtain⟨T,hT⟩:∃ T,T=ts.length:=⟨_,rfl⟩
 rw[<-hN] at hv dK hn hd
 rw[<-hT] at hu LN hd
 rw[<-hN,<-hT]
 refine ae (C:=aV Tryz.prog w _) (args:=[_,_,_]) Tryz.func10 rfl Tryz.ntmps10 (bD rfl) ?_
 refine ab ?_
 refine VO.call rfl rfl (fk Tryz.func33) (λaP bG aZ=>(LI _ _ e cs ts kk aP (hv.bo (gn kk) aZ) (hu.pg (qI kk) aZ) aa).mono ?_)
 rintro o w1 ⟨rfl,aB⟩
 by_cases hm:ld cs e ts≠0
 ·refine aG aB ?_
  intro cj _ bb1
  refine VS.aY rfl (Ks hm) ?_
  refine ab ?_
  refine az ?_;intro wz kz bz
  exact⟨_,rfl,.inl ⟨rfl,by unfold jU;rw[if_neg hm]⟩,bz⟩
 replace hm:ld cs e ts=0:=Decidable.byContradiction hm
 have harr:jU cs e ts=fc cs (ts.map λt=>t.getD e.toNat []):=if_pos hm
 obtain⟨hT40,he0,gN,hyr⟩:=yY hm
 rw[hm,harr]
 rw[<-hN] at gN
 rw[<-hT] at hT40
 have hTN:T*N<=128:=hd.resolve_right aa
 obtain⟨xss,hxss⟩:∃ xss:List (List Rat),xss=ts.map (λt=>t.getD e.toNat []):=⟨_,rfl⟩
 rw[<-hxss]
 have dT:xss.length=T:=by rw[hxss,List.length_map,hT]
 have hxa:∀ y t,ts[y]? =some t->xss.getD y []=t.getD e.toNat []:=λy t h=>by rw[hxss,List.getD_eq_getElem?_getD,List.getElem?_map,h];rfl
 refine aG aB ?_
 intro cj _ bb1
 refine VO.callB (t:=175) (cs:=[.slice none 0 0]) rfl rfl rfl (bD rfl) (bD rfl) rfl rfl (λbh β bQ bE ho=>⟨fk Tryz.func34,(Lw bh).mono ?_⟩)
 rintro o w2 ⟨g2,rfl,hg2,nV,aQ⟩
 refine⟨g2,rfl,aQ,hg2,nV,λdb _ bb2=>wV rfl ?_⟩
 refine ab ?_
 refine VS.loop (J:=λm L M w'=>∃ (y:Nat) (Xo Xl:AV) (Mo Ml:List (Nat×(TypeId×List AV))),y<=T/\m=T-y/\L=[(0,.val (.slice p N c)),(1,.val (.int .i64 e)),(9,Xo),(10,.box 24 0),(25,.val (.slice p2 T c2)),(26,.val (.int .i64 (T:Int))),(27,.val (.int .i64 (y:Int)))]/\
  M=(24,(175,[Xl]))::(Ml++Mo)/\iH (jW AK) 28 49 96 Xo Mo w' ((fc cs xss).take y)/\vN (bU kk) 120 Xl Ml w' (dN (eR cs xss y))) T ⟨_,_,?_,?_,?_,?_,⟨0,_,_,[],[],by omega,rfl,rfl,rfl,.inl ⟨rfl,rfl,rfl⟩,.inl ⟨rfl,rfl,rfl⟩⟩⟩ ?_
 ·exact dw
 ·exact dw
 ·rfl
 ·exact iK
 rintro m L M wJ ⟨y,Xo,Xl,Mo,Ml,hy,rfl,rfl,rfl,hO,hL⟩
 refine VS.mask [12,16,35,51,95] (by rcases hO with ⟨_,_,rfl⟩|⟨_,_,_,_,_,rfl,_⟩ <;> rcases hL with ⟨_,_,rfl⟩|⟨_,_,_,_,_,rfl,_⟩ <;> (repeat first|exact trivial|refine⟨rfl,?_⟩)) ?_
 refine ab ?_
 by_cases hlt:y<T
 ·obtain⟨t,ht⟩:∃ t,ts[y]? =some t:=⟨_,List.getElem?_eq_getElem aa⟩
  obtain⟨b,off,gr,rfl,hc,⟨tv,rfl,htv⟩⟩:=hu.at ht
  obtain⟨pt,ct,rfl⟩:=htv.sl
  obtain⟨jF,lC⟩:=gN t (List.mem_of_getElem? ht)
  have Cj:=hxa y t ht
  obtain⟨xs,tL⟩:∃ xs,t[e.toNat]? =some xs:=⟨_,List.getElem?_eq_getElem jF⟩
  have hxy':xss.getD y []=xs:=by rw[Cj,List.getD_eq_getElem?_getD,tL];rfl
  have hxn:xs.length=N:=by rw[<-lC,List.getD_eq_getElem?_getD,tL];rfl
  refine VS.aY rfl (decide_eq_true (Int.ofNat_lt.2 hlt)) ?_
  refine ab ?_
  refine VO.cond rfl eP ?_
  refine wV rfl ?_
  refine ab ?_
  refine VO.read rfl [.slice pt t.length ct] rfl (λj u hj=>by rw[Addr.add_mid,Int.toNat_natCast];exact hc j u hj) (wV rfl ?_)
  refine ab ?_
  apply VO.via (P:=Entry (λm L M w'=>∃ (z:Nat) (Xi Xl Xt:AV) (Mi Ml Mt:List (Nat×(TypeId×List AV))),z<=N/\m=N-z/\L=[(0,.val (.slice p N c)),(1,.val (.int .i64 e)),(9,Xo),(10,.box 24 0),(11,.val (.int .i64 (y:Int))),(13,Xi),(25,.val (.slice (some ⟨b,off,none⟩) T c2)),(26,.val (.int .i64 (T:Int))),(27,.val (.int .i64 (y:Int))),(35,Xt),(36,.val (.int .i64 (N:Int))),(37,.val (.int .i64 (z:Int)))]/\
   M=(24,(175,[Xl]))::(Mt++(Mi++(Ml++Mo)))/\iH (qx (bU kk)) 9 101 35 Xt Mt w' (bH cs xs)/\iH (qx (bU kk)) 9 44 51 Xi Mi w' ((bH cs xs).take z)/\iH (jW AK) 28 49 96 Xo Mo w' ((fc cs xss).take y)/\vN (bU kk) 120 Xl Ml w' (dN (mc cs xss y z))) N)
  ·intro cont
   have IX:(bH cs xs).length=N:=by unfold bH;rw[List.length_map,List.length_zip];omega
   refine VO.callX (eu (bU kk)) (dst:=35) (t:=101) (es:=bH cs xs) rfl rfl rfl (bD rfl) (bD rfl) rfl (λcY β di dQ ho=>⟨fk Tryz.func35,(Ee _ _ cs xs t e kk cY (hN▸hv.bo (gn kk) dQ) (htv.pg (vJ kk) dQ) he0 tL aa aa aa).mono ?_⟩)
   rintro o w3 ⟨r3,rfl,q3,cu⟩
   refine⟨_,rfl,cu,q3,λk3 k3' b3 fK=>wV rfl ?_,λcap3 vs3 sp3 k3 k3' b3 el3 ok3 le3 cm3 fl3=> ?_⟩
   ·have hN0:N=0:=by rw[<-IX,fK];rfl
    refine ab ?_
    refine cont _ _ _ ⟨_,_,?_,?_,?_,?_,⟨0,_,Xl,_,[],Ml,[],by omega,rfl,rfl,rfl,.inl ⟨fK,rfl,rfl⟩,.inl ⟨rfl,rfl,rfl⟩,hO.kp (cP AK) bX,?_⟩⟩
    ·refine⟨rfl,rfl,rfl,rfl,rfl,rfl,rfl,rfl,rfl,rfl,?_,rfl,trivial⟩
     rw[hN0];rfl
    ·rcases hO with ⟨_,rfl,rfl⟩|⟨_,_,_,_,rfl,rfl,_⟩ <;> rcases hL with ⟨_,rfl,rfl⟩|⟨_,_,_,_,rfl,rfl,_⟩ <;> (repeat first|exact trivial|refine⟨rfl,?_⟩|refine⟨congrArg (λl=>some (_,l)) (dX (by first|exact dM.dU (by assumption)|exact ah _|(rw[<-List.map_append];exact ah _)) _ _),?_⟩)
    ·rcases hO with ⟨_,rfl,rfl⟩|⟨_,_,_,_,rfl,rfl,_⟩ <;> rcases hL with ⟨_,rfl,rfl⟩|⟨_,_,_,_,rfl,rfl,_⟩ <;> rfl
    ·rcases hO with ⟨_,rfl,rfl⟩|⟨_,_,_,_,rfl,rfl,_⟩ <;> rcases hL with ⟨_,rfl,rfl⟩|⟨_,_,_,_,rfl,rfl,_⟩ <;> (repeat first|exact trivial|refine⟨aF.lit rfl,?_⟩|refine⟨dM.Ff (by assumption),?_⟩|refine⟨aF.append (.vals _) (.vals _),?_⟩|refine⟨aF.vals _,?_⟩)
    ·rw[show mc cs xss y 0=eR cs xss y from List.append_nil _];exact hL.kp bX
   ·rw[IX] at le3 ⊢
    refine wV rfl ?_
    refine ab ?_
    have hNt:dM (qx (bU kk)) 9 w3 N cap3 vs3 (sp3.map .val) (bH cs xs):=⟨IX.symm,el3,cM ok3,ah _,le3,cm3,by rw[<-List.map_append,List.length_map];exact fl3⟩
    refine cont _ _ _ ⟨_,_,?_,?_,?_,?_,⟨0,_,Xl,_,[],Ml,_,by omega,rfl,rfl,rfl,.inr ⟨N,cap3,vs3,sp3.map .val,rfl,rfl,hNt⟩,.inl ⟨rfl,rfl,rfl⟩,hO.kp (cP AK) bX,?_⟩⟩
    ·exact dw
    ·rcases hO with ⟨_,rfl,rfl⟩|⟨_,_,_,_,rfl,rfl,_⟩ <;> rcases hL with ⟨_,rfl,rfl⟩|⟨_,_,_,_,rfl,rfl,_⟩ <;> (repeat first|exact trivial|refine⟨rfl,?_⟩|refine⟨congrArg (λl=>some (_,l)) (dX (by first|exact dM.dU (by assumption)|exact ah _|(rw[<-List.map_append];exact ah _)) _ _),?_⟩)
    ·rcases hO with ⟨_,rfl,rfl⟩|⟨_,_,_,_,rfl,rfl,_⟩ <;> rcases hL with ⟨_,rfl,rfl⟩|⟨_,_,_,_,rfl,rfl,_⟩ <;> rfl
    ·rcases hO with ⟨_,rfl,rfl⟩|⟨_,_,_,_,rfl,rfl,_⟩ <;> rcases hL with ⟨_,rfl,rfl⟩|⟨_,_,_,_,rfl,rfl,_⟩ <;> (repeat first|exact trivial|refine⟨aF.lit rfl,?_⟩|refine⟨dM.Ff (by assumption),?_⟩|refine⟨aF.append (.vals _) (.vals _),?_⟩|refine⟨aF.vals _,?_⟩)
    ·rw[show mc cs xss y 0=eR cs xss y from List.append_nil _];exact hL.kp bX
  ·clear hO hL
   intro F0 H0 w0' hent
   refine VS.loop N hent ?_
   rintro m L M wK ⟨z,Xi,Xl,Xt,Mi,Ml,Mt,hz,rfl,rfl,rfl,Eg,hI,hO,hL⟩
   refine VS.mask [15,16,50,95] (by rcases Eg with ⟨_,rfl,rfl⟩|⟨_,_,_,_,rfl,rfl,_⟩ <;> rcases hI with ⟨_,rfl,rfl⟩|⟨_,_,_,_,rfl,rfl,_⟩ <;> rcases hO with ⟨_,rfl,rfl⟩|⟨_,_,_,_,rfl,rfl,_⟩ <;> rcases hL with ⟨_,rfl,rfl⟩|⟨_,_,_,_,rfl,rfl,_⟩ <;> (repeat first|exact trivial|refine⟨rfl,?_⟩)) ?_
   have IX:(bH cs xs).length=N:=by unfold bH;rw[List.length_map,List.length_zip];omega
   refine ab ?_
   by_cases hzt:z<N
   ·obtain⟨k,kh⟩:∃ k,cs[z]? =some k:=⟨_,List.getElem?_eq_getElem aa⟩
    obtain⟨x,Kc⟩:∃ x,xs[z]? =some x:=⟨_,List.getElem?_eq_getElem aa⟩
    have uQ:=xP kh Kc
    rcases Eg with ⟨fK,rfl,rfl⟩|⟨nt,ct2,vst,spt,rfl,rfl,hNt⟩
    ·rw[fK] at IX;exact absurd IX.symm (by simp;omega)
    have hntl:=hNt.len
    rw[IX] at hntl
    obtain⟨csI,hcs1,⟨s1,p1,n1,c1,t1,y1,m1,d1,s5,p5,n5,c5,t5,y5,m5,d5,rfl,wF,hiA,hiX⟩,hcs3,hcell⟩:=hNt.cell (eu (bU kk)) uQ
    refine VS.aY rfl (decide_eq_true (Int.ofNat_lt.2 hzt)) ?_
    refine ab ?_
    refine VO.cond rfl eP ?_
    refine wV rfl ?_
    refine ab ?_
    refine VO.iI rfl (([.int .u8 (k.1:Int),.bool s1,.slice p1 n1 c1,.bool t1,.slice y1 m1 d1,.bool s5,.slice p5 n5 c5,.bool t5,.slice y5 m5 d5]:List Value).map .val) rfl (hcell 0 _ ⟨[],rfl⟩) (wV rfl ?_)
    refine ab ?_
    apply VO.join (P:=Entry (λ_ L M w'=>∃ (Xi:AV) (Mi:List (Nat×(TypeId×List AV))),L=[(0,.val (.slice p N c)),(1,.val (.int .i64 e)),(9,Xo),(10,.box 24 0),(11,.val (.int .i64 (y:Int))),(13,Xi),(14,.val (.int .i64 (z:Int))),(15,.box 15 0),(25,.val (.slice (some ⟨b,off,none⟩) T c2)),(26,.val (.int .i64 (T:Int))),(27,.val (.int .i64 (y:Int))),(35,.row 35 0 nt ct2),(36,.val (.int .i64 (N:Int))),(37,.val (.int .i64 (z:Int)))]/\
     M=(24,(175,[Xl]))::(15,(101,([.int .u8 (k.1:Int),.bool s1,.slice p1 n1 c1,.bool t1,.slice y1 m1 d1,.bool s5,.slice p5 n5 c5,.bool t5,.slice y5 m5 d5]:List Value).map .val))::(35,(101,vst.flatten.map .val++spt))::(Mi++(Ml++Mo))/\iH (qx (bU kk)) 9 44 51 Xi Mi w' ((bH cs xs).take (z+1))/\Kp UU wK w') 0)
    ·intro cont
     have LK:qx (bU kk) wK [.int .u8 (k.1:Int),.bool s1,.slice p1 n1 c1,.bool t1,.slice y1 m1 d1,.bool s5,.slice p5 n5 c5,.bool t5,.slice y5 m5 d5] (k.1,k.2,x):=⟨_,_,_,_,_,_,_,_,_,_,_,_,_,_,_,_,rfl,wF,hiA,hiX⟩
     rcases hI with ⟨fK,rfl,rfl⟩|⟨n',c',vs,sp,rfl,rfl,BV⟩
     ·refine VO.Bx (cQ _ _) (eu (bU kk)) (t:=36) (e:=44) (s:=50) (a:=(k.1,k.2,x)) (cs:=[.int .u8 (k.1:Int),.bool s1,.slice p1 n1 c1,.bool t1,.slice y1 m1 d1,.bool s5,.slice p5 n5 c5,.bool t5,.slice y5 m5 d5]) rfl rfl rfl rfl rfl rfl rfl rfl (bD rfl) rfl (by rcases hO with ⟨_,rfl,rfl⟩|⟨_,_,_,_,rfl,rfl,_⟩ <;> rcases hL with ⟨_,rfl,rfl⟩|⟨_,_,_,_,rfl,rfl,_⟩ <;> rfl) rfl LK aa (λw8 cap sp k8 b8 wG=>wV rfl (wN ?_))
      refine cont _ _ _ ⟨_,_,?_,?_,?_,?_,⟨_,_,rfl,rfl,.inr ⟨1,cap,_,sp,rfl,rfl,by rw[aX uQ,fK];exact wG⟩,bX⟩⟩
      ·rcases hO with ⟨_,rfl,rfl⟩|⟨_,_,_,_,rfl,rfl,_⟩ <;> rcases hL with ⟨_,rfl,rfl⟩|⟨_,_,_,_,rfl,rfl,_⟩ <;> (repeat first|exact trivial|refine⟨rfl,?_⟩)
      ·rcases hO with ⟨_,rfl,rfl⟩|⟨_,_,_,_,rfl,rfl,_⟩ <;> rcases hL with ⟨_,rfl,rfl⟩|⟨_,_,_,_,rfl,rfl,_⟩ <;> (repeat first|exact trivial|refine⟨rfl,?_⟩|refine⟨congrArg (λl=>some (_,l)) (dX (by first|exact dM.dU (by assumption)|exact ah _|(rw[<-List.map_append];exact ah _)) _ _),?_⟩)
      ·rcases hO with ⟨_,rfl,rfl⟩|⟨_,_,_,_,rfl,rfl,_⟩ <;> rcases hL with ⟨_,rfl,rfl⟩|⟨_,_,_,_,rfl,rfl,_⟩ <;> rfl
      ·rcases hO with ⟨_,rfl,rfl⟩|⟨_,_,_,_,rfl,rfl,_⟩ <;> rcases hL with ⟨_,rfl,rfl⟩|⟨_,_,_,_,rfl,rfl,_⟩ <;> (repeat first|exact trivial|refine⟨aF.lit rfl,?_⟩|refine⟨dM.Ff (by assumption),?_⟩|refine⟨aF.append (.vals _) (.vals _),?_⟩|refine⟨aF.vals _,?_⟩)
     ·have vV:=BV.len
      rw[List.length_take] at vV
      refine VO.Bz (cQ _ _) (eu (bU kk)) (t:=36) (e:=44) (s:=50) (i:=51) (n:=n') (c:=c') (vs:=vs) (sp:=sp) (es:=(bH cs xs).take z) (a:=(k.1,k.2,x)) (cs:=[.int .u8 (k.1:Int),.bool s1,.slice p1 n1 c1,.bool t1,.slice y1 m1 d1,.bool s5,.slice p5 n5 c5,.bool t5,.slice y5 m5 d5]) rfl rfl rfl rfl rfl rfl rfl rfl (bD rfl) rfl (.inr rfl) rfl (BV.kp (eu (bU kk)) bX) rfl LK aa (λw8 Ef Iq ρ k8 b8 eM wG=>wV rfl (wN ?_))
      refine cont _ _ _ ⟨_,_,?_,?_,?_,?_,⟨_,_,rfl,rfl,.inr ⟨n' +1,Ef,_,Iq,rfl,rfl,by rw[aX uQ];exact wG⟩,bX⟩⟩
      ·rcases hO with ⟨_,rfl,rfl⟩|⟨_,_,_,_,rfl,rfl,_⟩ <;> rcases hL with ⟨_,rfl,rfl⟩|⟨_,_,_,_,rfl,rfl,_⟩ <;> (repeat first|exact trivial|refine⟨rfl,?_⟩)
      ·rcases hO with ⟨_,rfl,rfl⟩|⟨_,_,_,_,rfl,rfl,_⟩ <;> rcases hL with ⟨_,rfl,rfl⟩|⟨_,_,_,_,rfl,rfl,_⟩ <;> (repeat first|exact trivial|refine⟨rfl,?_⟩|refine⟨congrArg (λl=>some (_,l)) (dX (by first|exact dM.dU (by assumption)|exact ah _|(rw[<-List.map_append];exact ah _)) _ _),?_⟩)
      ·rcases hO with ⟨_,rfl,rfl⟩|⟨_,_,_,_,rfl,rfl,_⟩ <;> rcases hL with ⟨_,rfl,rfl⟩|⟨_,_,_,_,rfl,rfl,_⟩ <;> rfl
      ·rcases hO with ⟨_,rfl,rfl⟩|⟨_,_,_,_,rfl,rfl,_⟩ <;> rcases hL with ⟨_,rfl,rfl⟩|⟨_,_,_,_,rfl,rfl,_⟩ <;> (repeat first|exact trivial|refine⟨aF.lit rfl,?_⟩|refine⟨dM.Ff (by assumption),?_⟩|refine⟨aF.append (.vals _) (.vals _),?_⟩|refine⟨aF.vals _,?_⟩)
    ·clear hI
     rintro F1 H1 sV ⟨_,_,h1,h2,h3,h4,Xi',Mi',rfl,rfl,hI,hkp⟩
     refine VS.narrow _ _ h1 h2 h3 h4 ?_
     clear h1 h2 h3 h4 F1 H1
     refine ab ?_
     by_cases h6:k.1=6
     ·have hdef:mr (k,x)=true:=by unfold mr;rw[show (k,x).1.1=6 from h6];rfl
      have hyrs:1<=iP k.2:=hyr k (List.mem_of_getElem? kh) h6
      have hwell:cH (qH y (k,x)).exp=false:=rQ aa hyrs
      have LC:mc cs xss y (z+1)=mc cs xss y z++[qH y (k,x)]:=by rw[xR kh (by rw[hxy'];exact Kc),if_pos hdef]
      have hput:gm (dN (mc cs xss y z)) (qH y (k,x))=dN (mc cs xss y (z+1)):=by rw[LC];exact Hq aa hyrs
      have xN:(if cH (bS.exp (qH y (k,x)))=true then (2:Int) else 0)=0:=if_neg (by rw[hwell];simp)
      have Fo:(dN (mc cs xss y z)).length<=128:=Nat.le_trans (sN _) (BW hlt (hN▸hTN))
      have hayl:=Fl k.2
      obtain⟨bC,oC,csC,rfl,hcC,hEC⟩:=hv.at kh
      have hEC':=hEC
      obtain⟨nm,sC,pC,nC,cC,tC,yC,mC,dC,rfl,-,-⟩:=hEC'
      refine VS.aY rfl (Kt (show (k.1:Int)=6 by omega)) ?_
      (repeat (first|refine wN ?_|refine wP rfl ?_|refine Gx rfl ?_|refine wO rfl rfl ?_))
      refine VS.draw (cQ _ _) (mZ _ _) [36+1000000] (by kernel_rfl) ?_
      refine wV rfl ?_
      refine VO.cond rfl eP ?_
      refine wV rfl ?_
      refine ab ?_
      refine VO.read rfl [.string nm,.int .u8 (k.1:Int),.bool sC,.slice pC nC cC,.bool tC,.slice yC mC dC] rfl (dI hcC 0 _ ⟨[],rfl⟩) (wV rfl ?_)
      refine ab ?_
      refine VO.cB rfl rfl (fk Tryz.func37) (λfm gv iw=>vL _ k kk fm ((gn kk).b hEC iw) aa) (λfm gv iw w4 fW lj _ sZ=>wV rfl ?_)
      refine ab ?_
      refine VO.cR rfl rfl (fk Tryz.func11) (λiy jt ju=>bK 0 iy aa aa) (λiy jt ju w5 s5 p5 n5 c5 t5 y5 m5 d5 q5 jf oo _ yL=>wV rfl ?_)
      refine ab ?_
      refine VO.cR rfl rfl (fk Tryz.func13) (λoX qN tV=>cZ _ _ x ((0:Int):Rat) (bU kk) 1 oX (hiX.kp bX) (q5.ki bW.zero) (by unfold bU;omega) aa) (λoX qN tV w6 s6 p6 n6 c6 t6 y6 m6 d6 q6 tQ vY _ GH=>wV rfl ?_)
      refine ab ?_
      have q6':aW w6 (.agg #[.bool s6,.slice p6 n6 c6,.bool t6,.slice y6 m6 d6]) x:=q6.rd.cast (by rw[show ((0:Int):Rat)=0 from rfl,Rat.add_zero])
      have fN:=q6'.raw
      have hxz:=hiX.rJ
      have hxz':bW x (bU kk):=hxz.mono (by unfold bU;omega)
      rcases hL with ⟨fK,rfl,rfl⟩|⟨nl,cl,vl,spl,rfl,rfl,wi,vU,hl3,hl4,hl5,hl6⟩
      ·rw[fK] at hput
       refine VO.LB (d1:=24) (d2:=120) (y:=(y:Int)) (z:=(iP k.2:Int)) (s:=decide (x.num<0)) (xs:=limbs x.num.natAbs) (t:=decide ((x.den:Int)<0)) (ys:=limbs (x.den:Int).natAbs) (bU kk) (code:=0) (l':=dN (mc cs xss y (z+1))) xN hput rfl rfl (fk Tryz.func36) rfl (by rcases hI with ⟨_,rfl,rfl⟩|⟨_,_,_,_,rfl,rfl,_⟩ <;> rcases hO with ⟨_,rfl,rfl⟩|⟨_,_,_,_,rfl,rfl,_⟩ <;> rfl) ff (bD rfl) (bD rfl) rfl (λw1 k1 b1=>fN.k) ⟨by omega,by omega⟩ ⟨by omega,by omega⟩ hxz'.1 hxz'.2 (by unfold bU;omega) (λw7 k7 b7 hnil7=>wV rfl ?_) (λw7 n7 c7 vs7 sp7 k7 b7 h0 h1 h2 h3 h4 h5 h6=>wV rfl ?_)
       ·refine ab ?_
        refine VS.back (N-(z+1)) aa ⟨_,_,?_,?_,?_,?_,⟨z+1,Xi',.val (.slice none 0 0),.row 35 0 nt ct2,Mi',[],[(35,_)],by omega,rfl,rfl,rfl,.inr ⟨nt,ct2,vst,spt,rfl,rfl,hNt.kp (eu (bU kk)) bX⟩,hI.kp (eu (bU kk)) bX,hO.kp (cP AK) bX,.inl ⟨hnil7,rfl,rfl⟩⟩⟩
        ·rcases hI with ⟨_,rfl,rfl⟩|⟨_,_,_,_,rfl,rfl,_⟩ <;> rcases hO with ⟨_,rfl,rfl⟩|⟨_,_,_,_,rfl,rfl,_⟩ <;> (refine⟨rfl,rfl,rfl,rfl,rfl,rfl,rfl,rfl,rfl,rfl,rfl,?_,trivial⟩;rw[<-bf (i:=z) aa];rfl)
        ·rcases hI with ⟨_,rfl,rfl⟩|⟨_,_,_,_,rfl,rfl,_⟩ <;> rcases hO with ⟨_,rfl,rfl⟩|⟨_,_,_,_,rfl,rfl,_⟩ <;> (repeat first|exact trivial|refine⟨rfl,?_⟩|refine⟨congrArg (λl=>some (_,l)) (dX (by first|exact dM.dU (by assumption)|exact ah _|(rw[<-List.map_append];exact ah _)) _ _),?_⟩)
        ·rcases hI with ⟨_,rfl,rfl⟩|⟨_,_,_,_,rfl,rfl,_⟩ <;> rcases hO with ⟨_,rfl,rfl⟩|⟨_,_,_,_,rfl,rfl,_⟩ <;> rfl
        ·rcases hI with ⟨_,rfl,rfl⟩|⟨_,_,_,_,rfl,rfl,_⟩ <;> rcases hO with ⟨_,rfl,rfl⟩|⟨_,_,_,_,rfl,rfl,_⟩ <;> (repeat first|exact trivial|refine⟨aF.lit rfl,?_⟩|refine⟨dM.Ff (by assumption),?_⟩|refine⟨aF.append (.vals _) (.vals _),?_⟩|refine⟨aF.vals _,?_⟩)
       ·refine ab ?_
        refine VS.back (N-(z+1)) aa ⟨_,_,?_,?_,?_,?_,⟨z+1,Xi',.row 120 0 n7 c7,.row 35 0 nt ct2,Mi',[(120,_)],[(35,_)],by omega,rfl,rfl,rfl,.inr ⟨nt,ct2,vst,spt,rfl,rfl,hNt.kp (eu (bU kk)) bX⟩,hI.kp (eu (bU kk)) bX,hO.kp (cP AK) bX,.inr ⟨n7,c7,vs7,sp7,rfl,rfl,h1,h2,h3,h4,h5,h6⟩⟩⟩
        ·rcases hI with ⟨_,rfl,rfl⟩|⟨_,_,_,_,rfl,rfl,_⟩ <;> rcases hO with ⟨_,rfl,rfl⟩|⟨_,_,_,_,rfl,rfl,_⟩ <;> (refine⟨rfl,rfl,rfl,rfl,rfl,rfl,rfl,rfl,rfl,rfl,rfl,?_,trivial⟩;rw[<-bf (i:=z) aa];rfl)
        ·rcases hI with ⟨_,rfl,rfl⟩|⟨_,_,_,_,rfl,rfl,_⟩ <;> rcases hO with ⟨_,rfl,rfl⟩|⟨_,_,_,_,rfl,rfl,_⟩ <;> (repeat first|exact trivial|refine⟨rfl,?_⟩|refine⟨congrArg (λl=>some (_,l)) (dX (by first|exact dM.dU (by assumption)|exact ah _|(rw[<-List.map_append];exact ah _)) _ _),?_⟩)
        ·rcases hI with ⟨_,rfl,rfl⟩|⟨_,_,_,_,rfl,rfl,_⟩ <;> rcases hO with ⟨_,rfl,rfl⟩|⟨_,_,_,_,rfl,rfl,_⟩ <;> rfl
        ·rcases hI with ⟨_,rfl,rfl⟩|⟨_,_,_,_,rfl,rfl,_⟩ <;> rcases hO with ⟨_,rfl,rfl⟩|⟨_,_,_,_,rfl,rfl,_⟩ <;> (repeat first|exact trivial|refine⟨aF.lit rfl,?_⟩|refine⟨dM.Ff (by assumption),?_⟩|refine⟨aF.append (.vals _) (.vals _),?_⟩|refine⟨aF.vals _,?_⟩)
      ·refine VO.LD (d1:=24) (d2:=120) (y:=(y:Int)) (z:=(iP k.2:Int)) (s:=decide (x.num<0)) (xs:=limbs x.num.natAbs) (t:=decide ((x.den:Int)<0)) (ys:=limbs (x.den:Int).natAbs) (bU kk) (code:=0) (l':=dN (mc cs xss y (z+1))) xN hput rfl rfl (fk Tryz.func36) rfl (by rcases hI with ⟨_,rfl,rfl⟩|⟨_,_,_,_,rfl,rfl,_⟩ <;> rcases hO with ⟨_,rfl,rfl⟩|⟨_,_,_,_,rfl,rfl,_⟩ <;> rfl) ff (bD rfl) (bD rfl) wi (vU.kp (iB (bU kk)) bX) hl3 hl4 hl5 hl6 (λ_ h=>h) (λt ht=>kp_fz ht) (λw1 k1 b1=>fN.k) ⟨by omega,by omega⟩ ⟨by omega,by omega⟩ hxz'.1 hxz'.2 (by unfold bU;omega) aa (λw7 n7 c7 vs7 sp7 ρ k7 b7 eM h1 h2 h3 h4 h5 h6=>wV rfl ?_)
       refine ab ?_
       refine VS.back (N-(z+1)) aa ⟨_,_,?_,?_,?_,?_,⟨z+1,Xi',.row 120 0 n7 c7,.row 35 0 nt ct2,Mi',[(120,_)],[(35,_)],by omega,rfl,rfl,rfl,.inr ⟨nt,ct2,vst,spt,rfl,rfl,hNt.kp (eu (bU kk)) bX⟩,hI.kp (eu (bU kk)) bX,hO.kp (cP AK) bX,.inr ⟨n7,c7,vs7,sp7,rfl,rfl,h1,h2,h3,h4,h5,h6⟩⟩⟩
       ·rcases hI with ⟨_,rfl,rfl⟩|⟨_,_,_,_,rfl,rfl,_⟩ <;> rcases hO with ⟨_,rfl,rfl⟩|⟨_,_,_,_,rfl,rfl,_⟩ <;> (refine⟨rfl,rfl,rfl,rfl,rfl,rfl,rfl,rfl,rfl,rfl,rfl,?_,trivial⟩;rw[<-bf (i:=z) aa];rfl)
       ·rcases hI with ⟨_,rfl,rfl⟩|⟨_,_,_,_,rfl,rfl,_⟩ <;> rcases hO with ⟨_,rfl,rfl⟩|⟨_,_,_,_,rfl,rfl,_⟩ <;> (repeat first|exact trivial|refine⟨rfl,?_⟩|refine⟨congrArg (λl=>some (_,l)) (dX (by first|exact dM.dU (by assumption)|exact ah _|(rw[<-List.map_append];exact ah _)) _ _),?_⟩)
       ·rcases hI with ⟨_,rfl,rfl⟩|⟨_,_,_,_,rfl,rfl,_⟩ <;> rcases hO with ⟨_,rfl,rfl⟩|⟨_,_,_,_,rfl,rfl,_⟩ <;> rfl
       ·rcases hI with ⟨_,rfl,rfl⟩|⟨_,_,_,_,rfl,rfl,_⟩ <;> rcases hO with ⟨_,rfl,rfl⟩|⟨_,_,_,_,rfl,rfl,_⟩ <;> (repeat first|exact trivial|refine⟨aF.lit rfl,?_⟩|refine⟨dM.Ff (by assumption),?_⟩|refine⟨aF.append (.vals _) (.vals _),?_⟩|refine⟨aF.vals _,?_⟩)
     ·have hdef:¬ mr (k,x)=true:=by unfold mr;intro h;exact h6 (eq_of_beq h)
      have LC:mc cs xss y (z+1)=mc cs xss y z:=by rw[xR kh (by rw[hxy'];exact Kc),if_neg hdef,List.append_nil]
      refine VS.bk rfl (Fc (show (k.1:Int)≠6 by omega)) ?_
      refine ab ?_
      refine VS.back (N-(z+1)) aa ⟨_,_,?_,?_,?_,?_,⟨z+1,Xi',Xl,.row 35 0 nt ct2,Mi',Ml,[(35,_)],by omega,rfl,rfl,rfl,.inr ⟨nt,ct2,vst,spt,rfl,rfl,hNt.kp (eu (bU kk)) bX⟩,hI.kp (eu (bU kk)) bX,hO.kp (cP AK) bX,by rw[LC];exact hL.kp bX⟩⟩
      ·rcases hI with ⟨_,rfl,rfl⟩|⟨_,_,_,_,rfl,rfl,_⟩ <;> rcases hO with ⟨_,rfl,rfl⟩|⟨_,_,_,_,rfl,rfl,_⟩ <;> rcases hL with ⟨_,rfl,rfl⟩|⟨_,_,_,_,rfl,rfl,_⟩ <;> (refine⟨rfl,rfl,rfl,rfl,rfl,rfl,rfl,rfl,rfl,rfl,rfl,?_,trivial⟩;rw[<-bf (i:=z) aa];rfl)
      ·rcases hI with ⟨_,rfl,rfl⟩|⟨_,_,_,_,rfl,rfl,_⟩ <;> rcases hO with ⟨_,rfl,rfl⟩|⟨_,_,_,_,rfl,rfl,_⟩ <;> rcases hL with ⟨_,rfl,rfl⟩|⟨_,_,_,_,rfl,rfl,_⟩ <;> (repeat first|exact trivial|refine⟨rfl,?_⟩|refine⟨congrArg (λl=>some (_,l)) (dX (by first|exact dM.dU (by assumption)|exact ah _|(rw[<-List.map_append];exact ah _)) _ _),?_⟩)
      ·rcases hI with ⟨_,rfl,rfl⟩|⟨_,_,_,_,rfl,rfl,_⟩ <;> rcases hO with ⟨_,rfl,rfl⟩|⟨_,_,_,_,rfl,rfl,_⟩ <;> rcases hL with ⟨_,rfl,rfl⟩|⟨_,_,_,_,rfl,rfl,_⟩ <;> rfl
      ·rcases hI with ⟨_,rfl,rfl⟩|⟨_,_,_,_,rfl,rfl,_⟩ <;> rcases hO with ⟨_,rfl,rfl⟩|⟨_,_,_,_,rfl,rfl,_⟩ <;> rcases hL with ⟨_,rfl,rfl⟩|⟨_,_,_,_,rfl,rfl,_⟩ <;> (repeat first|exact trivial|refine⟨aF.lit rfl,?_⟩|refine⟨dM.Ff (by assumption),?_⟩|refine⟨aF.append (.vals _) (.vals _),?_⟩|refine⟨aF.vals _,?_⟩)
   ·refine VS.bk rfl (decide_eq_false (λe=>hzt (Int.ofNat_lt.1 e))) ?_
    obtain rfl:z=N:=by omega
    rw[List.take_of_length_le aa] at hI
    have hlN:mc cs xss y z=eR cs xss (y+1):=by
     unfold mc
     rw[List.take_of_length_le (by rw[List.length_zip,hxy'];omega)];rfl
    have Fo:(dN (eR cs xss (y+1))).length<=128:=hlN▸Nat.le_trans (sN _) (BW hlt (hN▸hTN))
    rw[hlN] at hL
    have hlw:∀ e∈dN (eR cs xss (y+1)),cH e.exp=false:=λe he=>xQ hyr (y+1) aa e (List.mem_filter.1 he).1
    have yy:bU kk<=64:=by unfold bU;omega
    have hu0:1<=bU kk:=by unfold bU;omega
    have hrs:gS (bU kk) (bH cs xs).length<=13000:=by
     rw[IX]
     have:z*(3*bU kk+2)<=64*(3*64+2):=Nat.mul_le_mul aa aa
     unfold gS;omega
    have zy:bM (bU (bU kk)+1) (dN (eR cs xss (y+1))).length<=9000:=by
     have h1:bU (bU (bU kk)+1)+1<=66:=by unfold bU at*;omega
     have:(dN (eR cs xss (y+1))).length*(bU (bU (bU kk)+1)+1)<=128*66:=Nat.mul_le_mul Fo h1
     unfold bM;omega
    refine ab ?_
    refine VO.gw rfl (fk Tryz.func15) (λGI β ka8 Il ho=>(Hb _ (bH cs xs) (bU kk) GI (hI.slin (eu (bU kk)) ho (by intro q hq;rcases Eg with ⟨_,rfl,rfl⟩|⟨_,_,_,_,rfl,rfl,_⟩ <;> rcases hI with ⟨_,rfl,rfl⟩|⟨_,_,_,_,rfl,rfl,_⟩ <;> first|(cases hq;done)|(cases List.mem_singleton.1 hq;rfl)) bX) hu0 aa aa).mono ?_)
    rintro o w8 ⟨r8,rfl,q8,Ew⟩
    have hPs:vA (bl (bH cs xs)) 13000:=by
     have qT:∀ x∈bH cs xs,bW x.2.1 (bU kk)/\bW x.2.2 (bU kk):=by
      rcases hI with ⟨fK,_,_⟩|⟨n',c',vs,sp,_,_,BV⟩
      ·rw[fK];intro x hx;cases hx
      ·intro x hx
       obtain⟨i,hi⟩:=List.getElem?_of_mem hx
       obtain⟨cs0,_,h2,_⟩:=BV.cell (eu (bU kk)) hi
       exact qx.sz h2 hu0
     exact (vC hu0 _ qT).mono hrs
    obtain⟨s8a,p8a,n8a,c8a,t8a,y8a,m8a,d8a,s8b,p8b,n8b,c8b,t8b,y8b,m8b,d8b,s8c,p8c,n8c,c8c,t8c,y8c,m8c,d8c,s8d,p8d,n8d,c8d,t8d,y8d,m8d,d8d,rfl,g1,g2,g3,g4⟩:=q8
    refine aG Ew ?_
    intro Cq _ bb8
    refine VO.gw rfl (fk Tryz.func38) (λKh β ka9 Ki ho=>(Lu (β 24) (dN (eR cs xss (y+1))) (bU kk) (y:Int) Kh (hL.in ho (by simp[eG,AV.ids]) rfl (by intro q hq;rcases Eg with ⟨_,rfl,rfl⟩|⟨_,_,_,_,rfl,rfl,_⟩ <;> rcases hI with ⟨_,rfl,rfl⟩|⟨_,_,_,_,rfl,rfl,_⟩ <;> rcases hL with ⟨_,rfl,rfl⟩|⟨_,_,_,_,rfl,rfl,_⟩ <;> first|(cases hq;done)|(cases List.mem_singleton.1 hq;rfl)) bX) aa ⟨by omega,by omega⟩ Fo).mono ?_)
    rintro o w9 ⟨r9,rfl,q9,z9,hb9⟩
    obtain⟨s9,p9,n9,c9,t9,y9,m9,d9,rfl⟩:=q9.form
    refine aG hb9 ?_
    intro Dv _ bb9
    refine VO.gw rfl (fk Tryz.func39) (λmn β oY vm ho=>(yX (β 24) (dN (eR cs xss (y+1))) (bU kk) (y:Int) mn (hL.in ho (by simp[eG,AV.ids]) rfl (by intro q hq;rcases Eg with ⟨_,rfl,rfl⟩|⟨_,_,_,_,rfl,rfl,_⟩ <;> rcases hI with ⟨_,rfl,rfl⟩|⟨_,_,_,_,rfl,rfl,_⟩ <;> rcases hL with ⟨_,rfl,rfl⟩|⟨_,_,_,_,rfl,rfl,_⟩ <;> first|(cases hq;done)|(cases List.mem_singleton.1 hq;rfl)) bX) hlw aa ⟨by omega,by omega⟩ Fo).mono ?_)
    rintro o w10 ⟨r10,rfl,q10,z10,ta⟩
    obtain⟨s10,p10,n10,c10,t10,y10,m10,d10,rfl⟩:=q10.form
    refine aG ta ?_
    intro gP _ Dw
    rw[Hn] at q9 z9
    rw[Ho] at q10 z10
    have zd:bW (jT (eR cs xss (y+1)) (y:Int)) 9000:=z9.mono zy
    have zb:bW (mi (eR cs xss (y+1)) (y:Int)) 9000:=z10.mono zy
    refine VO.cR rfl rfl (fk Tryz.func14) (λnW rH wC=>pd _ _ (bl (bH cs xs)).s (jT (eR cs xss (y+1)) (y:Int)) 13000 9000 nW (g2.ki hPs.s) (q9.ki zd) aa aa) (λnW rH wC w11 s11 p11 n11 c11 t11 y11 m11 d11 q11 wD kQ _ GJ=>wV rfl ?_)
    refine ab ?_
    have zs:=hPs.s.sub zd
    refine VO.cR rfl rfl (fk Tryz.func14) (λrI vn Dx=>pd _ _ ((bl (bH cs xs)).s-jT (eR cs xss (y+1)) (y:Int)) (bl (bH cs xs)).i 22001 13000 rI (q11.ki zs) (g4.ki hPs.i) aa aa) (λrI vn Dx Bi s12 p12 n12 c12 t12 y12 m12 d12 q12 yN oZ _ Kj=>wV rfl ?_)
    refine ab ?_
    have zo:=zs.sub hPs.i
    have hya:(fc cs xss)[y]? =some (Hh (bl (bH cs xs)) (jT (eR cs xss (y+1)) y) (mi (eR cs xss (y+1)) y)):=by
     rw[jy aa];unfold fF;rw[hxy']
    have rA:jW AK Bi [.bool s8a,.slice p8a n8a c8a,.bool t8a,.slice y8a m8a d8a,.bool s11,.slice p11 n11 c11,.bool t11,.slice y11 m11 d11,.bool s8c,.slice p8c n8c c8c,.bool t8c,.slice y8c m8c d8c,.bool s8d,.slice p8d n8d c8d,.bool t8d,.slice y8d m8d d8d,.bool s9,.slice p9 n9 c9,.bool t9,.slice y9 m9 d9,.bool s10,.slice p10 n10 c10,.bool t10,.slice y10 m10 d10,.bool s12,.slice p12 n12 c12,.bool t12,.slice y12 m12 d12] (Hh (bl (bH cs xs)) (jT (eR cs xss (y+1)) y) (mi (eR cs xss (y+1)) y)):=
     ⟨_,_,_,_,_,_,_,rfl,.mk g1.k (hPs.b.mono (by unfold AK;omega)),.mk q11.kr (zs.mono (by unfold AK;omega)),.mk g3.k (hPs.d.mono (by unfold AK;omega)),.mk g4.k (hPs.i.mono (by unfold AK;omega)),.mk q9.kr (zd.mono (by unfold AK;omega)),.mk q10.kr (zb.mono (by unfold AK;omega)),.mk q12.rd (zo.mono (by unfold AK;omega))⟩
    rcases hO with ⟨fK,rfl,rfl⟩|⟨n',c',vs,sp,rfl,rfl,BV⟩
    ·refine VO.Bx (cQ _ _) (cP AK) (t:=26) (e:=49) (s:=95) (a:=(Hh (bl (bH cs xs)) (jT (eR cs xss (y+1)) y) (mi (eR cs xss (y+1)) y))) (cs:=[.bool s8a,.slice p8a n8a c8a,.bool t8a,.slice y8a m8a d8a,.bool s11,.slice p11 n11 c11,.bool t11,.slice y11 m11 d11,.bool s8c,.slice p8c n8c c8c,.bool t8c,.slice y8c m8c d8c,.bool s8d,.slice p8d n8d c8d,.bool t8d,.slice y8d m8d d8d,.bool s9,.slice p9 n9 c9,.bool t9,.slice y9 m9 d9,.bool s10,.slice p10 n10 c10,.bool t10,.slice y10 m10 d10,.bool s12,.slice p12 n12 c12,.bool t12,.slice y12 m12 d12]) rfl rfl rfl rfl rfl rfl rfl rfl (bD rfl) rfl (by rcases Eg with ⟨_,rfl,rfl⟩|⟨_,_,_,_,rfl,rfl,_⟩ <;> rcases hI with ⟨_,rfl,rfl⟩|⟨_,_,_,_,rfl,rfl,_⟩ <;> rcases hL with ⟨_,rfl,rfl⟩|⟨_,_,_,_,rfl,rfl,_⟩ <;> rfl) rfl rA aa (λIm cap sp k13 b13 wG=>wV rfl ?_)
     refine ab ?_
     refine VS.back (T-(y+1)) aa ⟨_,_,?_,?_,?_,?_,⟨y+1,_,Xl,[(96,_)],Ml,by omega,rfl,rfl,rfl,.inr ⟨1,cap,_,sp,rfl,rfl,by rw[aX hya,fK];exact wG⟩,hL.kp bX⟩⟩
     ·rcases Eg with ⟨_,rfl,rfl⟩|⟨_,_,_,_,rfl,rfl,_⟩ <;> rcases hI with ⟨_,rfl,rfl⟩|⟨_,_,_,_,rfl,rfl,_⟩ <;> rcases hL with ⟨_,rfl,rfl⟩|⟨_,_,_,_,rfl,rfl,_⟩ <;> (refine⟨rfl,rfl,rfl,rfl,rfl,rfl,?_,trivial⟩;rw[<-bf (i:=y) aa];rfl)
     ·rcases Eg with ⟨_,rfl,rfl⟩|⟨_,_,_,_,rfl,rfl,_⟩ <;> rcases hI with ⟨_,rfl,rfl⟩|⟨_,_,_,_,rfl,rfl,_⟩ <;> rcases hL with ⟨_,rfl,rfl⟩|⟨_,_,_,_,rfl,rfl,_⟩ <;> (repeat first|exact trivial|refine⟨rfl,?_⟩|refine⟨congrArg (λl=>some (_,l)) (dX (by first|exact dM.dU (by assumption)|exact ah _|(rw[<-List.map_append];exact ah _)) _ _),?_⟩)
     ·rcases Eg with ⟨_,rfl,rfl⟩|⟨_,_,_,_,rfl,rfl,_⟩ <;> rcases hI with ⟨_,rfl,rfl⟩|⟨_,_,_,_,rfl,rfl,_⟩ <;> rcases hL with ⟨_,rfl,rfl⟩|⟨_,_,_,_,rfl,rfl,_⟩ <;> rfl
     ·rcases Eg with ⟨_,rfl,rfl⟩|⟨_,_,_,_,rfl,rfl,_⟩ <;> rcases hI with ⟨_,rfl,rfl⟩|⟨_,_,_,_,rfl,rfl,_⟩ <;> rcases hL with ⟨_,rfl,rfl⟩|⟨_,_,_,_,rfl,rfl,_⟩ <;> (repeat first|exact trivial|refine⟨aF.lit rfl,?_⟩|refine⟨dM.Ff (by assumption),?_⟩|refine⟨aF.append (.vals _) (.vals _),?_⟩|refine⟨aF.vals _,?_⟩)
    ·have vV:=BV.len
     rw[List.length_take] at vV
     refine VO.Bz (cQ _ _) (cP AK) (t:=26) (e:=49) (s:=95) (i:=96) (n:=n') (c:=c') (vs:=vs) (sp:=sp) (es:=(fc cs xss).take y) (a:=(Hh (bl (bH cs xs)) (jT (eR cs xss (y+1)) y) (mi (eR cs xss (y+1)) y))) (cs:=[.bool s8a,.slice p8a n8a c8a,.bool t8a,.slice y8a m8a d8a,.bool s11,.slice p11 n11 c11,.bool t11,.slice y11 m11 d11,.bool s8c,.slice p8c n8c c8c,.bool t8c,.slice y8c m8c d8c,.bool s8d,.slice p8d n8d c8d,.bool t8d,.slice y8d m8d d8d,.bool s9,.slice p9 n9 c9,.bool t9,.slice y9 m9 d9,.bool s10,.slice p10 n10 c10,.bool t10,.slice y10 m10 d10,.bool s12,.slice p12 n12 c12,.bool t12,.slice y12 m12 d12]) rfl rfl rfl rfl rfl rfl rfl rfl (bD rfl) rfl (.inr rfl) (by rcases Eg with ⟨_,rfl,rfl⟩|⟨_,_,_,_,rfl,rfl,_⟩ <;> rcases hI with ⟨_,rfl,rfl⟩|⟨_,_,_,_,rfl,rfl,_⟩ <;> rcases hL with ⟨_,rfl,rfl⟩|⟨_,_,_,_,rfl,rfl,_⟩ <;> rfl) (BV.kp (cP AK) bX) rfl rA aa (λIm Ef Iq ρ k13 b13 eM wG=>wV rfl ?_)
     refine ab ?_
     refine VS.back (T-(y+1)) aa ⟨_,_,?_,?_,?_,?_,⟨y+1,_,Xl,[(96,_)],Ml,by omega,rfl,rfl,rfl,.inr ⟨n' +1,Ef,_,Iq,rfl,rfl,by rw[aX hya];exact wG⟩,hL.kp bX⟩⟩
     ·rcases Eg with ⟨_,rfl,rfl⟩|⟨_,_,_,_,rfl,rfl,_⟩ <;> rcases hI with ⟨_,rfl,rfl⟩|⟨_,_,_,_,rfl,rfl,_⟩ <;> rcases hL with ⟨_,rfl,rfl⟩|⟨_,_,_,_,rfl,rfl,_⟩ <;> (refine⟨rfl,rfl,rfl,rfl,rfl,rfl,?_,trivial⟩;rw[<-bf (i:=y) aa];rfl)
     ·rcases Eg with ⟨_,rfl,rfl⟩|⟨_,_,_,_,rfl,rfl,_⟩ <;> rcases hI with ⟨_,rfl,rfl⟩|⟨_,_,_,_,rfl,rfl,_⟩ <;> rcases hL with ⟨_,rfl,rfl⟩|⟨_,_,_,_,rfl,rfl,_⟩ <;> (repeat first|exact trivial|refine⟨rfl,?_⟩|refine⟨congrArg (λl=>some (_,l)) (dX (by first|exact dM.dU (by assumption)|exact ah _|(rw[<-List.map_append];exact ah _)) _ _),?_⟩)
     ·rcases Eg with ⟨_,rfl,rfl⟩|⟨_,_,_,_,rfl,rfl,_⟩ <;> rcases hI with ⟨_,rfl,rfl⟩|⟨_,_,_,_,rfl,rfl,_⟩ <;> rcases hL with ⟨_,rfl,rfl⟩|⟨_,_,_,_,rfl,rfl,_⟩ <;> rfl
     ·rcases Eg with ⟨_,rfl,rfl⟩|⟨_,_,_,_,rfl,rfl,_⟩ <;> rcases hI with ⟨_,rfl,rfl⟩|⟨_,_,_,_,rfl,rfl,_⟩ <;> rcases hL with ⟨_,rfl,rfl⟩|⟨_,_,_,_,rfl,rfl,_⟩ <;> (repeat first|exact trivial|refine⟨aF.lit rfl,?_⟩|refine⟨dM.Ff (by assumption),?_⟩|refine⟨aF.append (.vals _) (.vals _),?_⟩|refine⟨aF.vals _,?_⟩)
 ·refine VS.bk rfl (decide_eq_false (λe=>hlt (Int.ofNat_lt.1 e))) ?_
  obtain rfl:y=T:=by omega
  rw[List.take_of_length_le (by unfold fc;rw[List.length_map,List.length_range];omega)] at hO
  rcases hO with ⟨fK,rfl,rfl⟩|⟨n',c',vs,sp,rfl,rfl,BV⟩
  ·refine ab ?_
   refine az ?_;intro wz kz bz
   exact⟨_,rfl,.inl ⟨rfl,fK⟩,bz⟩
  ·refine ab ?_
   refine VS.oP (cQ _ _) rfl (λwz β kz bz en=> ?_)
   exact⟨_,rfl,BV.new (cP AK) (en.own 96 _ _ (by rcases hL with ⟨_,rfl,rfl⟩|⟨_,_,_,_,rfl,rfl,_⟩ <;> rfl)) kz,bz⟩
set_option maxRecDepth 4000
abbrev Fp (P:Program) (w:World) (N:Nat):Cx:={ P:=P,w0:=w,N:=N,K:=⟨UU,λ_=>True,λt=>(Nat.beq t 34 || (Nat.beq t 81 || (Nat.beq t 38 || (Nat.beq t 49 || Nat.beq t 59))))⟩,SU:=λt=>Nat.beq t 30,ti:=table,keep:=λ_ _=>trivial }
theorem Eh (w:World) (N:Nat):(Fp Tryz.prog w N).Ok:=jq
theorem Ht (w:World) (N:Nat):(Fp Tryz.prog w N).P.follows .mixedOrders=true:=by show Tryz.prog.follows .mixedOrders=true;kernel_rfl
section
variable {F F':Fr} {H H':Hp} {w w1:World} {N:Nat} {l':List Oper} {Q:Exit->Act->World->Prop} {k:List It} {id:Nat} {ops:Array Oper}
theorem cxJ_r (e:kj (Fp Tryz.prog w1 N) ops 80 ops.toList F H=(l',F',H')) (h:ak (Fp Tryz.prog w1 N) none ops l' (VS (Fp Tryz.prog w1 N) Q k) F' H' w):VS (Fp Tryz.prog w1 N) Q (.code (.region id ops false)::k) F H w:=VS.region (Eh _ _) (VO.run 80 e h)
theorem cxJ_d (e:kj (Fp Tryz.prog w1 N) ops 80 ops.toList F H=(l',F',H')) (h:ak (Fp Tryz.prog w1 N) (some []) ops l' (VS (Fp Tryz.prog w1 N) Q k) F' H' w) (kK:jl (Fp Tryz.prog w1 N).SU [] ops=true:=by kernel_rfl):VS (Fp Tryz.prog w1 N) Q (.code (.region id ops true)::k) F H w:=VS.draw (Eh _ _) (Ht _ _) [] kK (VO.run 80 e h)
end
theorem Hu (l:List bS) (z:Int):jT l z=dm ((l.map bS.exp).map λe=>iq e z):=by unfold jT;rw[List.map_map];rfl
theorem Hv (l:List bS) (z:Int):mi l z=dm ((l.map bS.exp).map λe=>nZ e z):=by unfold mi;rw[List.map_map];rfl
def np (cs:List gU) (xss:List (List Rat)):Nat->List Fj
 | 0=>[]
 | n+1=>np cs xss n++((cs.zip (xss.getD n [])).filter mr).map λp=>((n:Int),(iP p.1.2:Int),true,p.2)
theorem BX (cs:List gU) (xss:List (List Rat)):∀ n,(eR cs xss n).map bS.exp=np cs xss n
 | 0=>rfl
 | n+1=>by
   show (eR cs xss n++kZ n _).map bS.exp=_
   rw[List.map_append,BX cs xss n]
   show _=np cs xss n++_
   congr 1
   unfold kZ
   rw[List.map_map]
   refine List.map_congr_left λp _=> ?_
   show (qH n p).exp=_
   rw[qH,BR]
theorem jb (cs:List gU) (xss:List (List Rat)) (y:Nat):fF cs xss y=Hh (bl (bH cs (xss.getD y []))) (dm ((np cs xss (y+1)).map λe=>iq e y)) (dm ((np cs xss (y+1)).map λe=>nZ e y)):=by
 unfold fF;rw[Hu,Hv,BX]
def wcs:List gU:=[(1,Rat.divInt 0 1),(6,Rat.divInt 2 1)]
def wts:List (List (List Rat)):=[[[Rat.divInt 100 1,Rat.divInt 10 1]],[[Rat.divInt 50 1,Rat.divInt 0 1]],[[Rat.divInt 0 1,Rat.divInt 6 1]]]
def wxs:List (List Rat):=[[Rat.divInt 100 1,Rat.divInt 10 1],[Rat.divInt 50 1,Rat.divInt 0 1],[Rat.divInt 0 1,Rat.divInt 6 1]]
theorem wmay:ld wcs 0 wts=0:=by decide+kernel
theorem wrows:jU wcs 0 wts=fc wcs wxs:=if_pos wmay
theorem wlen:(fc wcs wxs).length=3:=by unfold fc;rw[List.length_map,List.length_range];rfl
theorem wnum (z:Nat) (hz:z<3):∃ (a b d:Int),([[100,0,10],[45,5,5],[-5,5,6]]:List (List Int))[z]? =some [a,b,d]/\(∃ r,(fc wcs wxs)[z]? =some r/\r.p.s=Rat.divInt a 1/\r.due=Rat.divInt b 1/\r.Fm=Rat.divInt d 1)/\-100<=a/\a<=100/\-100<=b/\b<=100/\-100<=d/\d<=100:=by
 obtain rfl|rfl|rfl:z=0\/z=1\/z=2:=by omega
 ·refine⟨100,0,10,rfl,⟨_,jy ff,?_⟩,by decide⟩
  rw[jb];decide+kernel
 ·refine⟨45,5,5,rfl,⟨_,jy ff,?_⟩,by decide⟩
  rw[jb];decide+kernel
 ·refine⟨-5,5,6,rfl,⟨_,jy ff,?_⟩,by decide⟩
  rw[jb];decide+kernel
theorem fQ.mk {kk k:Nat} {w:World} {nm:ByteArray} {s t:Bool} {p y:Option Addr} {n c m d:Nat} {q:Rat} (h0:k<256) (h:ax w (.agg #[.bool s,.slice p n c,.bool t,.slice y m d]) q kk):fQ kk w [.string nm,.int .u8 (k:Int),.bool s,.slice p n c,.bool t,.slice y m d] (k,q):=⟨_,_,_,_,_,_,_,_,_,rfl,h0,h⟩
theorem kn.mk {kk:Nat} {w:World} {s t:Bool} {p y:Option Addr} {n c m d:Nat} {q:Rat} (h:ax w (.agg #[.bool s,.slice p n c,.bool t,.slice y m d]) q kk):kn kk w [.bool s,.slice p n c,.bool t,.slice y m d] q:=⟨_,_,_,_,_,_,_,_,rfl,h⟩
theorem LO (w:World):Calls Tryz.prog 30 #[] w λe w'=>∃ r,e=.returned r/\fo (fQ 2) 6 38 w.heap.size w' r wcs/\au w w':=by
 refine ae (C:=aV Tryz.prog w _) (args:=[]) Tryz.func30 rfl Tryz.ntmps30 (bD rfl) ?_
 refine ab ?_
 refine VO.cR rfl rfl (fk Tryz.func31) (λaP bG aZ=>gQ 0 1 aP aa aa aa aa) (λaP bG aZ w1 s1 p1 n1 c1 t1 y1 m1 d1 q1 aB cj _ bb1=>wV rfl ?_)
 refine ab ?_
 refine VO.cR rfl rfl (fk Tryz.func31) (λbh bQ bE=>gQ 2 1 bh aa aa aa aa) (λbh bQ bE w2 s2 p2 n2 c2 t2 y2 m2 d2 q2 aQ db _ bb2=>wV rfl ?_)
 refine ab ?_
 refine VS.oP (cQ _ _) rfl (λwz β kz bz en=> ?_)
 exact⟨_,rfl,vw (vs:=[[.string ⟨#[115,97,108,101,115]⟩,.int .u8 1,.bool s1,.slice p1 n1 c1,.bool t1,.slice y1 m1 d1],[.string ⟨#[97,100,115]⟩,.int .u8 6,.bool s2,.slice p2 n2 c2,.bool t2,.slice y2 m2 d2]]) (spare:=[]) (en.own 5 _ _ rfl) (.cons (fQ.mk (k:=1) aa (q1.ki (lV aa aa aa aa))) (.cons (fQ.mk (k:=6) aa (q2.ki (lV aa aa aa aa))) .nil)) rfl (Nat.le_refl _) ff rfl (λ_ _ h=>h),bz⟩
theorem BZ {kk:Nat} {w:World}:fu (λ_:World=>jV kk w) 1 where
 kp:=λh _=>h
 len:=λh=>by
  obtain⟨v,rfl,_⟩:=h
  rfl
 ok:=λh=>by
  obtain⟨v,rfl,h⟩:=h
  obtain⟨p,c,rfl⟩:=h.sl
  rfl
theorem tab_len {kk:Nat} {w:World}:fu (λ_:World=>ko kk w) 1 where
 kp:=λh _=>h
 len:=λh=>by
  obtain⟨v,rfl,_⟩:=h
  rfl
 ok:=λh=>by
  obtain⟨v,rfl,h⟩:=h
  obtain⟨p,c,rfl⟩:=h.sl
  rfl
def Ca (w:World) (v:Value) (B:Nat) (q r:Rat):Prop:=∃ g b s1 p1 n1 c1 t1 y1 m1 d1 s2 p2 n2 c2 t2 y2 m2 d2,v=.slice (some ⟨g,0,none⟩) 1 1/\B<=g/\B<=b/\aR w g 81 #[.slice (some ⟨b,0,none⟩) 2 2]/\aR w b 34 #[.bool s1,.slice p1 n1 c1,.bool t1,.slice y1 m1 d1,.bool s2,.slice p2 n2 c2,.bool t2,.slice y2 m2 d2]/\
 ax w (.agg #[.bool s1,.slice p1 n1 c1,.bool t1,.slice y1 m1 d1]) q 2/\ax w (.agg #[.bool s2,.slice p2 n2 c2,.bool t2,.slice y2 m2 d2]) r 2
theorem Ca.kp {T:TypeId->Bool} {w w':World} {v:Value} {B:Nat} {q r:Rat} (h:Ca w v B q r) (k:aN ⟨UU,λ_=>True,T⟩ w w') (h1:T 81=true) (h2:T 34=true):Ca w' v B q r:=by
 have f:∀ t,T t=true->(KC.fz ⟨UU,λ_=>True,T⟩ t)=true:=λt ht=>by show (Nat.beq t UU || T t)=true;rw[ht];simp
 obtain⟨g,b,s1,p1,n1,c1,t1,y1,m1,d1,s2,p2,n2,c2,t2,y2,m2,d2,rfl,e1,e2,e3,e4,e5,e6⟩:=h
 exact⟨g,b,_,_,_,_,_,_,_,_,_,_,_,_,_,_,_,_,rfl,e1,e2,k.block _ g _ (f _ h1) trivial e3,k.block _ b _ (f _ h2) trivial e4,e5.kp k,e6.kp k⟩
theorem Ca.tab {w:World} {v:Value} {B:Nat} {q r:Rat} (h:Ca w v B q r):ko 2 w [v] [[q,r]]:=by
 obtain⟨g,b,s1,p1,n1,c1,t1,y1,m1,d1,s2,p2,n2,c2,t2,y2,m2,d2,rfl,e1,e2,e3,e4,e5,e6⟩:=h
 have hr:bL (kn 2) 4 w (.slice (some ⟨b,0,none⟩) 2 2) [q,r]:=kW (cg 2) (vs:=[[.bool s1,.slice p1 n1 c1,.bool t1,.slice y1 m1 d1],[.bool s2,.slice p2 n2 c2,.bool t2,.slice y2 m2 d2]]) (spare:=[]) e4 (.cons (.mk e5) (.cons (.mk e6) .nil)) rfl (Nat.le_refl _) (show (2:Nat)<=9223372036854775807 by omega)
 have h1:jV 2 w [.slice (some ⟨b,0,none⟩) 2 2] [q,r]:=⟨_,rfl,hr⟩
 exact⟨_,rfl,(kW (E:=λ_=>jV 2 w) BZ (vs:=[[.slice (some ⟨b,0,none⟩) 2 2]]) (spare:=[]) e3 (.cons h1 .nil) rfl (Nat.le_refl _) (show (1:Nat)<=9223372036854775807 by omega)).mono (λ_ _ _ _ h=>h)⟩
theorem Ca.form {w:World} {v:Value} {B:Nat} {q r:Rat} (h:Ca w v B q r):∃ g,v=.slice (some ⟨g,0,none⟩) 1 1:=by
 obtain⟨g,b,s1,p1,n1,c1,t1,y1,m1,d1,s2,p2,n2,c2,t2,y2,m2,d2,rfl,_⟩:=h
 exact⟨g,rfl⟩
theorem rR (a b:Int) (w:World) (a0: -1000<=a) (a1:a<=1000) (b0: -1000<=b) (b1:b<=1000):Calls Tryz.prog 32 #[.int .i64 a,.int .i64 b] w λe w'=>∃ v,e=.returned (.agg #[v])/\Ca w' v w.heap.size (Rat.divInt a 1) (Rat.divInt b 1)/\au w w':=by
 refine ae (C:=aV Tryz.prog w _) (args:=[_,_]) Tryz.func32 rfl Tryz.ntmps32 (bD rfl) ?_
 refine ab ?_
 refine VO.cR rfl rfl (fk Tryz.func31) (λaP bG aZ=>gQ a 1 aP aa aa aa aa) (λaP bG aZ w1 s1 p1 n1 c1 t1 y1 m1 d1 q1 aB cj _ bb1=>wV rfl ?_)
 refine ab ?_
 refine VO.cR rfl rfl (fk Tryz.func31) (λbh bQ bE=>gQ b 1 bh aa aa aa aa) (λbh bQ bE w2 s2 p2 n2 c2 t2 y2 m2 d2 q2 aQ db _ bb2=>wV rfl ?_)
 refine ab ?_
 refine VS.oP (cQ _ _) rfl (λwz β kz bz en=> ?_)
 have o1:=en.own 9 _ _ rfl
 have o2:=en.own 10 _ _ rfl
 exact⟨_,rfl,⟨β 10,β 9,_,_,_,_,_,_,_,_,_,_,_,_,_,_,_,_,rfl,o2.new,o1.new,o2.cls,o1.cls,q1.ki (lV aa aa aa aa),q2.ki (lV aa aa aa aa)⟩,bz⟩
theorem dJ {P Q:Prop} (h:Q) (i:Q->P:=by intro h;(repeat first|refine wN ?_|refine wP rfl ?_|refine cxJ_r rfl ?_|refine cxJ_d rfl ?_|refine wO rfl rfl ?_);exact h):P:=i h
theorem Cb {P Q X:Prop} (hb:X) (h:Q) (i:X->Q->P:=by intro hb h;refine⟨_,rfl,hb,λa b c=>wV rfl ?_⟩;refine dJ ?_;revert a b c;exact h):P:=i hb h
set_option maxRecDepth 4000 in
theorem ir (w:World):Calls Tryz.prog 9 #[] w λo w'=>o=.returned (.bool true)/\au w w':=by
 refine ae (C:=Fp Tryz.prog w _) (args:=[]) Tryz.func9 rfl Tryz.ntmps9 (bD rfl) ?_
 refine dJ ?_
 refine VO.call rfl rfl (fk Tryz.func30) (λaP bG aZ=>(LO aP).mono ?_)
 rintro e w1 ⟨r1,rfl,q1,aB⟩
 obtain⟨pp,cp,rfl⟩:=q1.form
 refine Cb aB ?_
 intro cj _ bb1
 refine VO.call rfl rfl (fk Tryz.func32) (λbh bQ bE=>(rR 100 10 bh aa aa aa aa).mono ?_)
 rintro e w2 ⟨r2,rfl,q2,aQ⟩
 obtain⟨g2,rfl⟩:=q2.form
 refine Cb aQ ?_
 intro db _ bb2
 refine VO.call rfl rfl (fk Tryz.func32) (λcY di dQ=>(rR 50 0 cY aa aa aa aa).mono ?_)
 rintro e w3 ⟨r3,rfl,q3,cu⟩
 obtain⟨g3,rfl⟩:=q3.form
 refine Cb cu ?_
 intro fj _ bb3
 refine VO.call rfl rfl (fk Tryz.func32) (λfm gv iw=>(rR 0 6 fm aa aa aa aa).mono ?_)
 rintro e w4 ⟨r4,rfl,q4,fW⟩
 obtain⟨g4,rfl⟩:=q4.form
 refine Cb fW ?_
 intro lj _ sZ
 refine VO.gw rfl (fk Tryz.func10) (λiy β jt ju ho=>((tW _ _ 0 wcs wts 2 iy ((q1.kp (gn 2) bX rfl).sl (gn 2)) ((nO (E:=λ_=>ko 2 iy) tab_len (ho.own 10 (.base (by simp[eG,AV.ids])) _ _ rfl) [] (vs:=[[.slice (some ⟨g2,0,none⟩) 1 1],[.slice (some ⟨g3,0,none⟩) 1 1],[.slice (some ⟨g4,0,none⟩) 1 1]]) (by rfl) (.cons (q2.kp bX rfl rfl).tab (.cons (q3.kp bX rfl rfl).tab (.cons (q4.kp bX rfl rfl).tab .nil))) rfl (Nat.le_refl _) (show (3:Nat)<=9223372036854775807 by omega)).mono (λ_ _ _ _ h=>h)) aa ff (.inl ff)).mono (λo w2 h=>And.intro h ju.size)).mono ?_)
 rintro o w5 ⟨⟨r5,rfl,q5,jf⟩,hsz5⟩
 rw[wrows] at q5
 rw[wmay]
 obtain⟨p5,c5,rfl⟩:=q5.form
 rw[wlen] at q5 ⊢
 refine Cb jf ?_
 intro oo _ yL
 refine VS.DX (λw=>Fp Tryz.prog w 76) (λ_=>rfl) (λ_=>rfl) (λ_=>au.refl _) (λw9 β k9 b9 en=> ?_)
 have q5':=(q5.kp (cP AK) (show aN (Fp Tryz.prog w 76).K w5 w9 from bX) rfl).sl (cP AK)
 have kE:au w w9:=b9
 have o24:=(en.own 24 _ _ rfl).cls
 have o21:=(en.own 21 _ _ rfl).cls
 have o22:=(en.own 22 _ _ rfl).cls
 have o23:=(en.own 23 _ _ rfl).cls
 refine⟨[(1,.val (.slice p5 3 c5)),(3,.val (.slice (some ⟨β 24,0,none⟩) 3 3)),(4,.val (.int .i64 0))],⟨⟨_,_,rfl,rfl,rfl⟩,⟨_,_,rfl,rfl,rfl⟩,⟨_,_,rfl,rfl,rfl⟩,trivial⟩,?_⟩
 have hwant:∀ z,z<3->∀ a b d,([[100,0,10],[45,5,5],[-5,5,6]]:List (List Int))[z]? =some [a,b,d]->∃ gz,w9.cell? ⟨β 24,0+((z:Nat):Int).toNat*1,none⟩=some (.slice (some ⟨gz,0,none⟩) 3 3)/\w9.cell? ⟨gz,0,none⟩=some (.int .i64 a)/\w9.cell? ⟨gz,1,none⟩=some (.int .i64 b)/\w9.cell? ⟨gz,2,none⟩=some (.int .i64 d):=by
  intro z hz a b d h
  obtain rfl|rfl|rfl:z=0\/z=1\/z=2:=by omega
  ·simp only[List.getElem?_cons_zero,Option.some.injEq,List.cons.injEq,and_true] at h
   obtain⟨rfl,rfl,rfl⟩:=h
   exact⟨β 21,o24.cell (by rfl),o21.cell (by rfl),o21.cell (by rfl),o21.cell (by rfl)⟩
  ·simp only[List.getElem?_cons_succ,List.getElem?_cons_zero,Option.some.injEq,List.cons.injEq,and_true] at h
   obtain⟨rfl,rfl,rfl⟩:=h
   exact⟨β 22,o24.cell (by rfl),o22.cell (by rfl),o22.cell (by rfl),o22.cell (by rfl)⟩
  ·simp only[List.getElem?_cons_succ,List.getElem?_cons_zero,Option.some.injEq,List.cons.injEq,and_true] at h
   obtain⟨rfl,rfl,rfl⟩:=h
   exact⟨β 23,o24.cell (by rfl),o23.cell (by rfl),o23.cell (by rfl),o23.cell (by rfl)⟩
 refine VS.loop (J:=λm L M w'=>∃ z:Nat,z<=3/\m=3-z/\L=[(1,.val (.slice p5 3 c5)),(3,.val (.slice (some ⟨β 24,0,none⟩) 3 3)),(4,.val (.int .i64 (z:Int)))]/\M=[]) 3 ⟨_,_,?_,?_,?_,?_,⟨0,by omega,rfl,rfl,rfl⟩⟩ ?_
 ·exact dw
 ·exact dw
 ·rfl
 ·exact iK
 rintro m L M wK ⟨z,hz,rfl,rfl,rfl⟩
 refine dJ ?_
 by_cases hlt:z<3
 ·obtain⟨a,b,d,hw,⟨r,hr,e0,e1,e2⟩,a1,a2,b1,b2,d1,d2⟩:=wnum z hlt
  obtain⟨gz,hgz,hc0,nR,nV⟩:=hwant z hlt a b d hw
  obtain⟨bR,oR,csR,rfl,hcR,⟨_,_,_,_,_,_,_,rfl,⟨sA,pA,nA,cA,tA,yA,mA,dA,rfl,hA,zA⟩,⟨sB,pB,nB,cB,tB,yB,mB,dB,rfl,hB,zB⟩,⟨sC,pC,nC,cC,tC,yC,mC,dC,rfl,hC,zC⟩,⟨sD,pD,nD,cD,tD,yD,mD,dD,rfl,hD,zD⟩,⟨sE,pE,nE,cE,tE,yE,mE,dE,rfl,hE,zE⟩,⟨sF,pF,nF,cF,tF,yF,mF,dF,rfl,hF,zF⟩,⟨sG,pG,nG,cG,tG,yG,mG,dG,rfl,hG,zG⟩⟩⟩:=q5'.at hr
  refine VS.aY rfl (decide_eq_true (show (z:Int)<3 by omega)) ?_
  refine dJ ?_
  refine VO.cond rfl eP (wV rfl ?_)
  refine dJ ?_
  refine VO.read rfl [.bool sB,.slice pB nB cB,.bool tB,.slice yB mB dB] rfl (dI hcR 4 _ ⟨_,rfl⟩) (wV rfl ?_)
  refine dJ ?_
  refine VO.cond rfl eP (wV rfl ?_)
  refine dJ ?_
  refine VO.read rfl [.slice (some ⟨gz,0,none⟩) 3 3] rfl (fb hgz) (wV rfl ?_)
  refine dJ ?_
  refine VO.cond rfl eP (wV rfl ?_)
  refine dJ ?_
  refine VO.read rfl [.int .i64 a] rfl (fb hc0) (wV rfl ?_)
  refine dJ ?_
  refine VO.cR rfl rfl (fk Tryz.func31) (λmn oY vm=>gQ a 1 mn aa aa aa aa) (λmn oY vm w10 s10 p10 n10 c10 t10 y10 m10 d10 q10 ta gP _ Dw=>wV rfl ?_)
  refine dJ ?_
  refine VO.cB rfl rfl (fk Tryz.func16) (λnW rH wC=>pe _ _ _ (Rat.divInt a 1) AK 2 nW (hB.ki zB) (q10.ki (lV aa aa aa aa)) (by unfold AK;omega) aa true (decide_eq_true e0)) (λnW rH wC w11 wD kQ _ GJ=>wV rfl ?_)
  refine dJ ?_
  refine VO.cond rfl eP (wV rfl ?_)
  refine dJ ?_
  refine VO.read rfl [.bool sE,.slice pE nE cE,.bool tE,.slice yE mE dE] rfl (dI hcR 16 _ ⟨_,rfl⟩) (wV rfl ?_)
  refine dJ ?_
  refine VO.cond rfl eP (wV rfl ?_)
  refine dJ ?_
  refine VO.read rfl [.slice (some ⟨gz,0,none⟩) 3 3] rfl (fb hgz) (wV rfl ?_)
  refine dJ ?_
  refine VO.cond rfl eP (wV rfl ?_)
  refine dJ ?_
  refine VO.read rfl [.int .i64 b] rfl (fb nR) (wV rfl ?_)
  refine dJ ?_
  refine VO.cR rfl rfl (fk Tryz.func31) (λrI vn Dx=>gQ b 1 rI aa aa aa aa) (λrI vn Dx Bi s12 p12 n12 c12 t12 y12 m12 d12 q12 yN oZ _ Kj=>wV rfl ?_)
  refine dJ ?_
  refine VO.cB rfl rfl (fk Tryz.func16) (λBj Kk Kl=>pe _ _ _ (Rat.divInt b 1) AK 2 Bj (hE.ki zE) (q12.ki (lV aa aa aa aa)) (by unfold AK;omega) aa true (decide_eq_true e1)) (λBj Kk Kl Im hb13 Bk _ bb13=>wV rfl ?_)
  refine dJ ?_
  refine VO.cond rfl eP (wV rfl ?_)
  refine dJ ?_
  refine VO.read rfl [.bool sF,.slice pF nF cF,.bool tF,.slice yF mF dF] rfl (dI hcR 20 _ ⟨_,rfl⟩) (wV rfl ?_)
  refine dJ ?_
  refine VO.cond rfl eP (wV rfl ?_)
  refine dJ ?_
  refine VO.read rfl [.slice (some ⟨gz,0,none⟩) 3 3] rfl (fb hgz) (wV rfl ?_)
  refine dJ ?_
  refine VO.cond rfl eP (wV rfl ?_)
  refine dJ ?_
  refine VO.read rfl [.int .i64 d] rfl (fb nV) (wV rfl ?_)
  refine dJ ?_
  refine VO.cR rfl rfl (fk Tryz.func31) (λBl yO Dy=>gQ d 1 Bl aa aa aa aa) (λBl yO Dy w14 s14 p14 n14 c14 t14 y14 m14 d14 q14 hb14 GK _ bb14=>wV rfl ?_)
  refine dJ ?_
  refine VO.cB rfl rfl (fk Tryz.func16) (λBm yP Dz=>pe _ _ _ (Rat.divInt d 1) AK 2 Bm (hF.ki zF) (q14.ki (lV aa aa aa aa)) (by unfold AK;omega) aa true (decide_eq_true e2)) (λBm yP Dz w15 hb15 kb15 _ bb15=>wV rfl ?_)
  refine dJ ?_
  refine VS.back (3-(z+1)) aa ⟨_,_,?_,?_,?_,?_,⟨z+1,by omega,rfl,rfl,rfl⟩⟩
  ·refine⟨rfl,rfl,?_,trivial⟩
   rw[<-bf (i:=z) aa];rfl
  ·exact dw
  ·rfl
  ·exact iK
 ·refine VS.bk rfl (decide_eq_false (show ¬ (z:Int)<3 by omega)) ?_
  refine dJ ?_
  refine VS.ret (Eh _ _) rfl rfl (λwz kz bz=> ?_)
  exact⟨rfl,kE.ay bz⟩
set_option maxRecDepth 4000
def AInE (kk:Nat) (w:World) (cs:List Value) (r:fP):Prop:=∃ a b c d e f g,cs=a++(b++(c++(d++(e++(f++g)))))/\kn kk w a r.p.b/\kn kk w b r.p.s/\kn kk w c r.p.d/\kn kk w d r.p.i/\kn kk w e r.due/\kn kk w f r.Fm/\kn kk w g r.own
theorem Ei (kk:Nat):fu (AInE kk) 28 where
 kp:=λh k=>by
  obtain⟨a,b,c,d,e,f,g,hv,h1,h2,h3,h4,h5,h6,h7⟩:=h
  exact⟨a,b,c,d,e,f,g,hv,(cg kk).kp h1 k,(cg kk).kp h2 k,(cg kk).kp h3 k,(cg kk).kp h4 k,(cg kk).kp h5 k,(cg kk).kp h6 k,(cg kk).kp h7 k⟩
 len:=λh=>by
  obtain⟨a,b,c,d,e,f,g,rfl,h1,h2,h3,h4,h5,h6,h7⟩:=h
  simp only[List.length_append]
  rw[(cg kk).len h1,(cg kk).len h2,(cg kk).len h3,(cg kk).len h4,(cg kk).len h5,(cg kk).len h6,(cg kk).len h7]
 ok:=λh=>by
  obtain⟨a,b,c,d,e,f,g,rfl,h1,h2,h3,h4,h5,h6,h7⟩:=h
  simp only[List.all_append]
  rw[(cg kk).ok h1,(cg kk).ok h2,(cg kk).ok h3,(cg kk).ok h4,(cg kk).ok h5,(cg kk).ok h6,(cg kk).ok h7];rfl
theorem Ir.tot {kk:Nat} {w:World} {cs:List Value} {q:Rat} (h:Ir kk w cs q):kn kk w cs q:=by
 obtain⟨s,p,n,c,t,y,m,d,rfl,h1,h2⟩:=h
 exact .mk (h1.to h2)
theorem jW.in {kk:Nat} {w:World} {cs:List Value} {r:fP} (h:jW kk w cs r):AInE kk w cs r:=by
 obtain⟨a,b,c,d,e,f,g,hv,h1,h2,h3,h4,h5,h6,h7⟩:=h
 exact⟨a,b,c,d,e,f,g,hv,h1.tot,h2.tot,h3.tot,h4.tot,h5.tot,h6.tot,h7.tot⟩
def AVal (w:World) (v:Value) (r:fP) (k:Nat):Prop:=∃ cs:List Value,v=.agg cs.toArray/\jW k w cs r
set_option maxRecDepth 4000 in
theorem LP (v:Value) (l:List fP) (kk:Nat) (w:World) (hv:bL (AInE kk) 28 w v l) (hk:kk<=100000) (kh:1<=kk) (hn:l.length<=8):
  Calls Tryz.prog 26 #[v] w λo w'=>∃ r,o=.returned r/\AVal w' r (rP l) (cW kk l.length)/\au w w':=by
 obtain⟨p,c,rfl,dK,eE⟩:=hv.form
 obtain⟨N,hN⟩:∃ N,N=l.length:=⟨_,rfl⟩
 rw[<-hN] at hv dK hn
 rw[<-hN]
 have hS:∀ z,z<=N->cW kk z<=900000:=λz hz=>by
  have:z*(kk+1)<=8*100001:=Nat.mul_le_mul aa aa
  unfold cW;omega
 refine ae (C:=aV Tryz.prog w _) (args:=[_]) Tryz.func26 rfl Tryz.ntmps26 (bD rfl) ?_
 refine ab ?_
 refine VO.call rfl rfl (fk Tryz.func60) (λaP bG aZ=>(vF _ [] 1 aP (bL.nil _ _ _) aa aa ff).mono ?_)
 rintro e w1 ⟨r1,rfl,q1,aB⟩
 obtain⟨sA,pA,nA,cA,tA,yA,mA,dA,sB,pB,nB,cB,tB,yB,mB,dB,sC,pC,nC,cC,tC,yC,mC,dC,sD,pD,nD,cD,tD,yD,mD,dD,rfl,gA,gB,gC,gD⟩:=q1
 refine aG aB ?_
 intro cj _ bb1
 refine VO.cR rfl rfl (fk Tryz.func11) (λbh bQ bE=>bK 0 bh aa aa) (λbh bQ bE w2 s2 p2 n2 c2 t2 y2 m2 d2 q2 aQ db _ bb2=>wV rfl ?_)
 refine ab ?_
 refine VO.cR rfl rfl (fk Tryz.func11) (λcY di dQ=>bK 0 cY aa aa) (λcY di dQ w3 s3 p3 n3 c3 t3 y3 m3 d3 q3 cu fj _ bb3=>wV rfl ?_)
 refine ab ?_
 refine VO.cR rfl rfl (fk Tryz.func11) (λfm gv iw=>bK 0 fm aa aa) (λfm gv iw w4 s4 p4 n4 c4 t4 y4 m4 d4 q4 fW lj _ sZ=>wV rfl ?_)
 refine ab ?_
 have h00:((0:Int):Rat)=0:=rfl
 rw[h00] at q2 q3 q4
 have z1:∀ k,1<=k->bW (0:Rat) k:=λk hk=>bW.zero.mono hk
 refine VS.loop (J:=λm L M w'=>∃ (z:Nat) (cs:List Value),z<=N/\m=N-z/\L=[(2,.box 2 0),(3,.box 3 0),(11,.val (.slice p N c)),(12,.val (.int .i64 (N:Int))),(13,.val (.int .i64 (z:Int)))]/\
  M=[(2,(49,([.bool false,.slice none 0 0,.bool false,.slice none 0 0,.bool false,.slice none 0 0,.bool false,.slice none 0 0,.bool false,.slice none 0 0,.bool false,.slice none 0 0,.bool false,.slice none 0 0,.bool false,.slice none 0 0,.bool false,.slice none 0 0,.bool false,.slice none 0 0,.bool false,.slice none 0 0,.bool false,.slice none 0 0,.bool false,.slice none 0 0,.bool false,.slice none 0 0]:List Value).map .val)),(3,(49,cs.map .val))]/\jW (cW kk z) w' cs (rP (l.take z))) N
  ⟨_,_,?_,?_,?_,?_,⟨0,[.bool sA,.slice pA nA cA,.bool tA,.slice yA mA dA,.bool sB,.slice pB nB cB,.bool tB,.slice yB mB dB,.bool sC,.slice pC nC cC,.bool tC,.slice yC mC dC,.bool sD,.slice pD nD cD,.bool tD,.slice yD mD dD,.bool s2,.slice p2 n2 c2,.bool t2,.slice y2 m2 d2,.bool s3,.slice p3 n3 c3,.bool t3,.slice y3 m3 d3,.bool s4,.slice p4 n4 c4,.bool t4,.slice y4 m4 d4],by omega,rfl,rfl,rfl,⟨_,_,_,_,_,_,_,rfl,.mk gA.k (z1 _ (by unfold cW;omega)),.mk gB.k (z1 _ (by unfold cW;omega)),.mk gC.k (z1 _ (by unfold cW;omega)),.mk gD.k (z1 _ (by unfold cW;omega)),.mk q2.kr (z1 _ (by unfold cW;omega)),.mk q3.kr (z1 _ (by unfold cW;omega)),.mk q4.rd (z1 _ (by unfold cW;omega))⟩⟩⟩ ?_
 ·exact dw
 ·exact dw
 ·rfl
 ·exact iK
 rintro m L M wJ ⟨z,cs,hz,rfl,rfl,rfl,hcs⟩
 obtain⟨_,_,_,_,_,_,_,rfl,⟨s1,p1,n1,c1,t1,y1,m1,d1,rfl,g1⟩,⟨s2,p2,n2,c2,t2,y2,m2,d2,rfl,g2⟩,⟨s3,p3,n3,c3,t3,y3,m3,d3,rfl,g3⟩,⟨s4,p4,n4,c4,t4,y4,m4,d4,rfl,g4⟩,⟨s5,p5,n5,c5,t5,y5,m5,d5,rfl,g5⟩,⟨s6,p6,n6,c6,t6,y6,m6,d6,rfl,g6⟩,⟨s7,p7,n7,c7,t7,y7,m7,d7,rfl,g7⟩⟩:=hcs
 obtain⟨g1,z1⟩:=g1
 obtain⟨g2,z2⟩:=g2
 obtain⟨g3,z3⟩:=g3
 obtain⟨g4,z4⟩:=g4
 obtain⟨g5,z5⟩:=g5
 obtain⟨g6,z6⟩:=g6
 obtain⟨g7,z7⟩:=g7
 refine ab ?_
 by_cases hlt:z<N
 ·obtain⟨x,hx⟩:∃ x,l[z]? =some x:=⟨_,List.getElem?_eq_getElem aa⟩
  obtain⟨b,off,gr,rfl,hc,⟨_,_,_,_,_,_,_,rfl,⟨sA,pA,nA,cA,tA,yA,mA,dA,rfl,hA⟩,⟨sB,pB,nB,cB,tB,yB,mB,dB,rfl,hB⟩,⟨sC,pC,nC,cC,tC,yC,mC,dC,rfl,hC⟩,⟨sD,pD,nD,cD,tD,yD,mD,dD,rfl,hD⟩,⟨sE,pE,nE,cE,tE,yE,mE,dE,rfl,hE⟩,⟨sF,pF,nF,cF,tF,yF,mF,dF,rfl,hF⟩,⟨sG,pG,nG,cG,tG,yG,mG,dG,rfl,hG⟩⟩⟩:=hv.at hx
  have hsz:=hS (z+1) hlt
  have hsz0:=hS z aa
  have hst:cW kk (z+1)=cW kk z+kk+1:=vB _ _
  refine VS.aY rfl (decide_eq_true (Int.ofNat_lt.2 hlt)) ?_
  refine ab ?_
  refine VO.cond rfl eP ?_
  refine wV rfl ?_
  refine ab ?_
  refine VO.read rfl [.bool sA,.slice pA nA cA,.bool tA,.slice yA mA dA,.bool sB,.slice pB nB cB,.bool tB,.slice yB mB dB,.bool sC,.slice pC nC cC,.bool tC,.slice yC mC dC,.bool sD,.slice pD nD cD,.bool tD,.slice yD mD dD,.bool sE,.slice pE nE cE,.bool tE,.slice yE mE dE,.bool sF,.slice pF nF cF,.bool tF,.slice yF mF dF,.bool sG,.slice pG nG cG,.bool tG,.slice yG mG dG] rfl (dI hc 0 _ ⟨[],rfl⟩) (wV rfl ?_)
  refine ab ?_
  have hkS:kk<=cW kk (z+1):=by rw[hst];omega
  have hzS:cW kk z<=cW kk (z+1):=by rw[hst];omega
  refine VO.gw rfl (fk Tryz.func60) (λGI β ka8 Il ho=>(vF _ [(rP (l.take z)).p,x.p] (cW kk (z+1)) GI (nO (pt_ok (cW kk (z+1))) (ho.own 21 (.base (List.mem_singleton.2 rfl)) _ _ rfl) [] (vs:=[[.bool s1,.slice p1 n1 c1,.bool t1,.slice y1 m1 d1,.bool s2,.slice p2 n2 c2,.bool t2,.slice y2 m2 d2,.bool s3,.slice p3 n3 c3,.bool t3,.slice y3 m3 d3,.bool s4,.slice p4 n4 c4,.bool t4,.slice y4 m4 d4],[.bool sA,.slice pA nA cA,.bool tA,.slice yA mA dA,.bool sB,.slice pB nB cB,.bool tB,.slice yB mB dB,.bool sC,.slice pC nC cC,.bool tC,.slice yC mC dC,.bool sD,.slice pD nD cD,.bool tD,.slice yD mD dD]]) (by rfl) (.cons (qw.mk (g1.ki (z1.mono hzS)) (g2.ki (z2.mono hzS)) (g3.ki (z3.mono hzS)) (g4.ki (z4.mono hzS))) (.cons (qw.mk ((hA.kp (Kp.of (U:=UU) Il)).Bw hkS) ((hB.kp (Kp.of (U:=UU) Il)).Bw hkS) ((hC.kp (Kp.of (U:=UU) Il)).Bw hkS) ((hD.kp (Kp.of (U:=UU) Il)).Bw hkS)) .nil)) rfl (Nat.le_refl _) (show (2:Nat)<=9223372036854775807 by omega)) (by rw[hst];omega) aa (by unfold cW at*;simp only[List.length_cons,List.length_nil];omega)).mono ?_)
  rintro o w8 ⟨r8,rfl,q8,Ew⟩
  rw[BG] at q8
  obtain⟨s8a,p8a,n8a,c8a,t8a,y8a,m8a,d8a,s8b,p8b,n8b,c8b,t8b,y8b,m8b,d8b,s8c,p8c,n8c,c8c,t8c,y8c,m8c,d8c,s8d,p8d,n8d,c8d,t8d,y8d,m8d,d8d,rfl,i1,i2,i3,i4⟩:=q8
  refine aG Ew ?_
  intro Cq _ bb8
  refine VO.cR rfl rfl (fk Tryz.func13) (λKh ka9 Ki=>cZ _ _ (rP (l.take z)).due x.due (cW kk z) kk Kh (g5.ki z5) (hE.kp (Kp.of (U:=UU) Ki)) aa aa) (λKh ka9 Ki w9 s9 p9 n9 c9 t9 y9 m9 d9 q9 hb9 Dv _ bb9=>wV rfl ?_)
  refine ab ?_
  refine VO.cR rfl rfl (fk Tryz.func13) (λmn oY vm=>cZ _ _ (rP (l.take z)).Fm x.Fm (cW kk z) kk mn (g6.ki z6) (hF.kp (Kp.of (U:=UU) vm)) aa aa) (λmn oY vm w10 s10 p10 n10 c10 t10 y10 m10 d10 q10 ta gP _ Dw=>wV rfl ?_)
  refine ab ?_
  refine VO.cR rfl rfl (fk Tryz.func13) (λnW rH wC=>cZ _ _ (rP (l.take z)).own x.own (cW kk z) kk nW (g7.ki z7) (hG.kp (Kp.of (U:=UU) wC)) aa aa) (λnW rH wC w11 s11 p11 n11 c11 t11 y11 m11 d11 q11 wD kQ _ GJ=>wV rfl ?_)
  refine ab ?_
  have gN:jW (cW kk (z+1)) w11 [.bool s8a,.slice p8a n8a c8a,.bool t8a,.slice y8a m8a d8a,.bool s8b,.slice p8b n8b c8b,.bool t8b,.slice y8b m8b d8b,.bool s8c,.slice p8c n8c c8c,.bool t8c,.slice y8c m8c d8c,.bool s8d,.slice p8d n8d c8d,.bool t8d,.slice y8d m8d d8d,.bool s9,.slice p9 n9 c9,.bool t9,.slice y9 m9 d9,.bool s10,.slice p10 n10 c10,.bool t10,.slice y10 m10 d10,.bool s11,.slice p11 n11 c11,.bool t11,.slice y11 m11 d11] (rP (l.take (z+1))):=by
   rw[Hj hx,hst]
   exact⟨_,_,_,_,_,_,_,rfl,.mk i1.k (z1.add (hA.sz kh)),.mk i2.k (z2.add (hB.sz kh)),.mk i3.k (z3.add (hC.sz kh)),.mk i4.k (z4.add (hD.sz kh)),.mk q9.kr (z5.add (hE.sz kh)),.mk q10.kr (z6.add (hF.sz kh)),.mk q11.rd (z7.add (hG.sz kh))⟩
  refine VS.back (N-(z+1)) aa ⟨_,_,?_,?_,?_,?_,⟨z+1,_,by omega,rfl,rfl,rfl,gN⟩⟩
  ·refine⟨rfl,rfl,rfl,rfl,?_,trivial⟩
   rw[<-bf (i:=z) aa];rfl
  ·exact dw
  ·rfl
  ·exact iK
 ·refine VS.bk rfl (decide_eq_false (λe=>hlt (Int.ofNat_lt.1 e))) ?_
  obtain rfl:z=N:=by omega
  refine ab ?_
  refine az ?_;intro wz kz bz
  rw[List.take_of_length_le aa] at g1 g2 g3 g4 g5 g6 g7 z1 z2 z3 z4 z5 z6 z7
  exact⟨_,rfl,⟨[.bool s1,.slice p1 n1 c1,.bool t1,.slice y1 m1 d1,.bool s2,.slice p2 n2 c2,.bool t2,.slice y2 m2 d2,.bool s3,.slice p3 n3 c3,.bool t3,.slice y3 m3 d3,.bool s4,.slice p4 n4 c4,.bool t4,.slice y4 m4 d4,.bool s5,.slice p5 n5 c5,.bool t5,.slice y5 m5 d5,.bool s6,.slice p6 n6 c6,.bool t6,.slice y6 m6 d6,.bool s7,.slice p7 n7 c7,.bool t7,.slice y7 m7 d7],rfl,⟨_,_,_,_,_,_,_,rfl,.mk g1.k z1,.mk g2.k z2,.mk g3.k z3,.mk g4.k z4,.mk g5.k z5,.mk g6.k z6,.mk g7.k z7⟩⟩,bz⟩
def LQ (v:Value) (j:Nat):Prop:=∃ s p n c t r m d,v=.agg #[.bool s,.slice p n c,.bool t,.slice r m d]/\n<=j/\m<=j
theorem ax.le {w:World} {v:Value} {q:Rat} {k j:Nat} (h:ax w v q k) (hl:LQ v j):ax w v q j:=by
 obtain⟨s,xs,t,ys,hr,hq,_,_⟩:=h.inv
 obtain⟨s',p',n',c',t',r',m',d',e',h1,h2⟩:=hl
 have tp:=hr
 obtain⟨p,c,r,d,e,_⟩:=hr
 rw[e] at e'
 simp only[Value.agg.injEq,Array.mk.injEq,List.cons.injEq,Value.slice.injEq,and_true] at e'
 exact⟨s,xs,t,ys,tp,hq,by omega,by omega⟩
set_option maxRecDepth 4000
theorem sO (v:Value) (q:Rat) (k:Nat) (w:World) (hv:ax w v q k):
  Calls Tryz.prog 25 #[v] w λe w'=>∃ b,e=.returned (.bool b)/\(b=true->LQ v 4)/\au w w':=by
 obtain⟨s,xs,t,ys,hr,hq,h1,h2⟩:=hv.inv
 have tp:=hr
 obtain⟨p,c,r,d,rfl,_,_⟩:=hr
 refine ae (C:=aV Tryz.prog w _) (args:=[_]) Tryz.func25 rfl Tryz.ntmps25 (bD rfl) ?_
 refine ab ?_
 by_cases hx:xs.length<=4
 ·refine VO.fix 8 rfl (congrArg (λb=>AV.val (.bool b)) (decide_eq_true (show (xs.length:Int)<=4 by omega))) ?_
  refine ab ?_
  refine az ?_;intro wz kz bz
  refine⟨_,rfl,λhb=>⟨_,_,_,_,_,_,_,_,rfl,hx,?_⟩,bz⟩
  have:=of_decide_eq_true hb
  omega
 ·refine VO.fix 8 rfl (congrArg (λb=>AV.val (.bool b)) (decide_eq_false (show ¬ (xs.length:Int)<=4 by omega))) ?_
  refine ab ?_
  refine az ?_;intro wz kz bz
  exact⟨_,rfl,λhb=>(by cases hb),bz⟩
set_option maxRecDepth 4000 in
theorem LR (v u:Value) (x:fP) (j k:Nat) (w:World) (hv:AVal w v x j) (hu:AVal w u x k):
  Calls Tryz.prog 17 #[v,u] w λe w'=>e=.returned (.bool true)/\au w w':=by
 obtain⟨_,rfl,⟨_,_,_,_,_,_,_,rfl,⟨sA,pA,nA,cA,tA,yA,mA,dA,rfl,hA⟩,⟨sB,pB,nB,cB,tB,yB,mB,dB,rfl,hB⟩,⟨sC,pC,nC,cC,tC,yC,mC,dC,rfl,hC⟩,⟨sD,pD,nD,cD,tD,yD,mD,dD,rfl,hD⟩,⟨sE,pE,nE,cE,tE,yE,mE,dE,rfl,hE⟩,⟨sF,pF,nF,cF,tF,yF,mF,dF,rfl,hF⟩,⟨sG,pG,nG,cG,tG,yG,mG,dG,rfl,hG⟩⟩⟩:=hv
 obtain⟨_,rfl,⟨_,_,_,_,_,_,_,rfl,⟨srA,prA,nrA,crA,trA,yrA,mrA,drA,rfl,hrA⟩,⟨srB,prB,nrB,crB,trB,yrB,mrB,drB,rfl,hrB⟩,⟨srC,prC,nrC,crC,trC,yrC,mrC,drC,rfl,hrC⟩,⟨srD,prD,nrD,crD,trD,yrD,mrD,drD,rfl,hrD⟩,⟨srE,prE,nrE,crE,trE,yrE,mrE,drE,rfl,hrE⟩,⟨srF,prF,nrF,crF,trF,yrF,mrF,drF,rfl,hrF⟩,⟨srG,prG,nrG,crG,trG,yrG,mrG,drG,rfl,hrG⟩⟩⟩:=hu
 obtain⟨gA,-⟩:=hA
 obtain⟨grA,-⟩:=hrA
 obtain⟨gB,-⟩:=hB
 obtain⟨grB,-⟩:=hrB
 obtain⟨gC,-⟩:=hC
 obtain⟨grC,-⟩:=hrC
 obtain⟨gD,-⟩:=hD
 obtain⟨grD,-⟩:=hrD
 obtain⟨gE,-⟩:=hE
 obtain⟨grE,-⟩:=hrE
 obtain⟨gF,-⟩:=hF
 obtain⟨grF,-⟩:=hrF
 obtain⟨gG,-⟩:=hG
 obtain⟨grG,-⟩:=hrG
 refine ae (C:=aV Tryz.prog w _) (args:=[_,_]) Tryz.func17 rfl Tryz.ntmps17 (bD rfl) ?_
 refine ab ?_
 refine VO.cB rfl rfl (fk Tryz.func52) (λwa0 ka0 ba0=>gR x.p.b _ _ wa0 gA.k grA.k) (λwa0 ka0 ba0 w0 lg kb0 _ bb0=>wV rfl ?_)
 refine ab ?_
 refine VO.cB rfl rfl (fk Tryz.func52) (λaP bG aZ=>gR x.p.s _ _ aP gB.k grB.k) (λaP bG aZ w1 aB cj _ bb1=>wV rfl ?_)
 refine ab ?_
 refine VO.cB rfl rfl (fk Tryz.func52) (λbh bQ bE=>gR x.p.d _ _ bh gC.k grC.k) (λbh bQ bE w2 aQ db _ bb2=>wV rfl ?_)
 refine ab ?_
 refine VO.cB rfl rfl (fk Tryz.func52) (λcY di dQ=>gR x.p.i _ _ cY gD.k grD.k) (λcY di dQ w3 cu fj _ bb3=>wV rfl ?_)
 refine ab ?_
 refine VO.cB rfl rfl (fk Tryz.func52) (λfm gv iw=>gR x.due _ _ fm gE.k grE.k) (λfm gv iw w4 fW lj _ sZ=>wV rfl ?_)
 refine ab ?_
 refine VO.cB rfl rfl (fk Tryz.func52) (λiy jt ju=>gR x.Fm _ _ iy gF.k grF.k) (λiy jt ju w5 jf oo _ yL=>wV rfl ?_)
 refine ab ?_
 refine VO.cB rfl rfl (fk Tryz.func52) (λoX qN tV=>gR x.own _ _ oX gG.k grG.k) (λoX qN tV w6 tQ vY _ GH=>wV rfl ?_)
 refine ab ?_
 refine az ?_;intro wz kz bz
 exact⟨rfl,bz⟩
end
section
open Go.RowKit
abbrev sP:Nat:=9223372036854775807
section
variable {H:Type} {enc:TypeId×Value->H} {w:World} {held:Bool}
theorem u8_wf {n:Int} (h:(Lit.int .u8 n).wf=true):0<=n/\n<256:=by
 simp[Lit.wf,IntKind.min,IntKind.max,IntKind.signed,IntKind.bits] at h
 omega
theorem vO (cs:List Value) (o n m:Nat) (h:m=o+n):cs.drop o=(cs.drop o).take n++cs.drop m:=by
 subst h
 have:=(List.take_append_drop n (cs.drop o)).symm
 rw[List.drop_drop] at this
 exact this
end
section
variable {H:Type} {enc:TypeId×Value->H} {w:World} {held:Bool}
theorem Cc {fuel:Nat} {cs:List Value} {x:DataW H×List MemPlace} (h:DataW.trod enc Tryz.prog w 0 (λ_=>true) held fuel 34 cs=some x):∃ q:Rat,kn sP w cs q:=by
 obtain⟨s,p,n,c,t,r,m,d,xs,ys,rfl,h0⟩:=Kv h
 exact⟨rq s xs t ys,_,_,_,_,_,_,_,_,rfl,h0.wide⟩
set_option maxRecDepth 100000 in
theorem Ce {α:Type} {E:World->List Value->α->Prop} {sz:Nat} {t e:TypeId} (hu:Tryz.prog.underlying t=some (.slice e)) (hc:Tryz.prog.cellsOf e=sz) (qO:0<sz)
  (rA:∀ {fuel:Nat} {cs:List Value} {x:DataW H×List MemPlace},DataW.trod enc Tryz.prog w 0 (λ_=>true) held fuel e cs=some x->∃ a,E w cs a)
  {fuel:Nat} {cs:List Value} {x:DataW H×List MemPlace} (hf:DataW.trod enc Tryz.prog w 0 (λ_=>true) held fuel t cs=some x):∃ (p:Option Addr) (n c:Nat) (es:List α),cs=[.slice p n c]/\bL E sz w (.slice p n c) es:=by
 rcases DataW.trod_slice hu hf with ⟨e,_⟩|⟨a,len',cap',elems,rest,n,_,e,_,_,hl,hm,hle,rW,_⟩
 ·exact⟨none,0,0,[],e,bL.nil _ _ _⟩
 ·refine⟨some a,len',cap',?_⟩
  rw[hc] at rW
  have each:∀ i,i<len'->∃ q,∃ b off cs,some a=some ⟨b,off,none⟩/\(∀ (j:Nat) (u:Value),cs[j]? =some u->w.cell? ⟨b,off+i*sz+j,none⟩=some u)/\E w cs q:=by
   intro i hi
   obtain⟨y,hy⟩:∃ y,elems[i]? =some y:=⟨_,List.getElem?_eq_getElem aa⟩
   have hb:=rW i hi
   rw[hy,Option.bind_eq_some_iff] at hb
   obtain⟨cs,hcs,ht⟩:=hb
   obtain⟨q,hq⟩:=rA ht
   obtain⟨_,hlen,hcell⟩:=World.cells?_some hcs
   obtain⟨b,off,spot⟩:=a
   have hspot:spot=none:=by
    obtain⟨y0,Fv⟩:∃ y,elems[0]? =some y:=⟨_,List.getElem?_eq_getElem aa⟩
    have lg:=rW 0 aa
    rw[Fv,Option.bind_eq_some_iff] at lg
    obtain⟨cs0,hcs0,ht0⟩:=lg
    obtain⟨_,hlen0,DK⟩:=World.cells?_some hcs0
    have h00:=DK 0 qO
    rw[List.getElem?_eq_getElem aa] at h00
    have g0:=World.cell?_spot h00
    simpa [Addr.add] using g0
   subst hspot
   refine⟨q,b,off,cs,rfl,λj u hj=> ?_,hq⟩
   have hjl:j<sz:=by have:=(List.getElem?_eq_some_iff.1 hj).1;omega
   have:=hcell j hjl
   rw[WideShapes.add_plain,WideShapes.add_plain] at this
   rw[this]
   exact hj
  obtain⟨qs,hql,hqs⟩:=DJ len' each
  subst hql
  exact⟨qs,e,_,_,rfl,hl,hm,λi q hq=>hqs i q hq⟩
set_option maxRecDepth 100000 in
theorem LS {fuel:Nat} {cs:List Value} {x:DataW H×List MemPlace} (h:DataW.trod enc Tryz.prog w 0 (λ_=>true) held fuel 38 cs=some x):∃ e:gU,fQ sP w cs e:=by
 obtain⟨zs,n,rfl,rfl,hl,iR,hf⟩:=DataW.trod_struct Tryz.underlying38 h
 have vU:cs.length=6:=by
  have c:Tryz.prog.cellsOf 38=6:=by kernel_rfl
  rw[c] at hl;exact hl
 have hy2:zs.length=3:=iR
 obtain⟨z0,jA⟩:∃ z,zs[0]? =some z:=⟨_,List.getElem?_eq_getElem aa⟩
 obtain⟨z1,lp⟩:∃ z,zs[1]? =some z:=⟨_,List.getElem?_eq_getElem aa⟩
 obtain⟨z2,mj⟩:∃ z,zs[2]? =some z:=⟨_,List.getElem?_eq_getElem aa⟩
 have cc0:Tryz.prog.cellsOf 9=1:=by kernel_rfl
 have h0:=hf 0 _ rfl
 rw[jA] at h0
 change DataW.trod enc Tryz.prog w 0 (λ_=>true) held n 9 ((cs.drop 0).take (Tryz.prog.cellsOf 9))=some z0 at h0
 rw[cc0] at h0
 have cc1:Tryz.prog.cellsOf 5=1:=by kernel_rfl
 have h1:=hf 1 _ rfl
 rw[lp] at h1
 change DataW.trod enc Tryz.prog w 0 (λ_=>true) held n 5 ((cs.drop 1).take (Tryz.prog.cellsOf 5))=some z1 at h1
 rw[cc1] at h1
 have cc2:Tryz.prog.cellsOf 34=4:=by kernel_rfl
 have h2:=hf 2 _ rfl
 rw[mj] at h2
 change DataW.trod enc Tryz.prog w 0 (λ_=>true) held n 34 ((cs.drop 2).take (Tryz.prog.cellsOf 34))=some z2 at h2
 rw[cc2] at h2
 obtain⟨nm0,e0,_,_⟩:=DataW.trod_string Tryz.underlying9 h0
 obtain⟨k1,e1,_,kh⟩:=DataW.trod_int Tryz.underlying5 h1
 obtain⟨x2,zi⟩:=Cc h2
 have a0:cs.drop 0=(cs.drop 0).take 1++cs.drop 1:=vO cs 0 1 1 rfl
 have a1:cs.drop 1=(cs.drop 1).take 1++cs.drop 2:=vO cs 1 1 2 rfl
 have a2:cs.drop 2=(cs.drop 2).take 4:=by rw[List.take_of_length_le];rw[List.length_drop];omega
 have ecs:cs=(cs.drop 0).take 1++((cs.drop 1).take 1++((cs.drop 2).take 4)):=by
  have a:cs=cs.drop 0:=rfl
  rw[a0] at a
  rw[a1] at a
  rw[a2] at a
  exact a
 have hk':=u8_wf kh
 obtain⟨k,rfl⟩:=Int.eq_ofNat_of_zero_le hk'.1
 obtain⟨s,p,n,c,t,y,m,d,e2,h⟩:=zi
 rw[ecs,e0,e1,e2]
 exact⟨(k,x2),_,_,_,_,_,_,_,_,_,rfl,by omega,h⟩
set_option maxRecDepth 100000 in
theorem yZ {v:Value} {d:DataW H} {ps:List MemPlace} {r:_root_.Go.Reach} {b0:Nat} (hv:Value.okWide Tryz.prog w r b0 22 v) (h:DataW.Trod enc Tryz.prog w 0 (λ_=>true) held 22 v d ps):∃ es:List gU,bL (fQ sP) 6 w v es:=
 Fg Tryz.underlying22 (by kernel_rfl) aa (λh=>LS h) hv h
set_option maxRecDepth 100000 in
theorem Hw {fuel:Nat} {cs:List Value} {x:DataW H×List MemPlace} (h:DataW.trod enc Tryz.prog w 0 (λ_=>true) held fuel 81 cs=some x):∃ r:List Rat,jV sP w cs r:=by
 obtain⟨p,n,c,es,rfl,hs⟩:=Ce (E:=kn sP) (sz:=4) Tryz.underlying81 (by kernel_rfl) aa (λh=>Cc h) h
 exact⟨es,_,rfl,hs⟩
set_option maxRecDepth 100000 in
theorem LU {fuel:Nat} {cs:List Value} {x:DataW H×List MemPlace} (h:DataW.trod enc Tryz.prog w 0 (λ_=>true) held fuel 41 cs=some x):∃ e:List (List Rat),ko sP w cs e:=by
 obtain⟨zs,n,rfl,rfl,hl,iR,hf⟩:=DataW.trod_struct Tryz.underlying41 h
 have vU:cs.length=1:=by
  have c:Tryz.prog.cellsOf 41=1:=by kernel_rfl
  rw[c] at hl;exact hl
 have hy2:zs.length=1:=iR
 obtain⟨z0,jA⟩:∃ z,zs[0]? =some z:=⟨_,List.getElem?_eq_getElem aa⟩
 have cc0:Tryz.prog.cellsOf 39=1:=by kernel_rfl
 have h0:=hf 0 _ rfl
 rw[jA] at h0
 change DataW.trod enc Tryz.prog w 0 (λ_=>true) held n 39 ((cs.drop 0).take (Tryz.prog.cellsOf 39))=some z0 at h0
 rw[cc0] at h0
 obtain⟨p0,n0,d0,es0,e0,g0⟩:=Ce (E:=jV sP) (sz:=1) Tryz.underlying39 (by kernel_rfl) aa (λh=>Hw h) h0
 have a0:cs.drop 0=(cs.drop 0).take 1:=by rw[List.take_of_length_le];rw[List.length_drop];omega
 have ecs:cs=(cs.drop 0).take 1:=by
  have a:cs=cs.drop 0:=rfl
  rw[a0] at a
  exact a
 rw[ecs,e0]
 exact⟨es0,_,rfl,g0⟩
set_option maxRecDepth 100000 in
theorem wH {v:Value} {d:DataW H} {ps:List MemPlace} {r:_root_.Go.Reach} {b0:Nat} (hv:Value.okWide Tryz.prog w r b0 23 v) (h:DataW.Trod enc Tryz.prog w 0 (λ_=>true) held 23 v d ps):∃ es:List (List (List Rat)),bL (ko sP) 1 w v es:=
 Fg Tryz.underlying23 (by kernel_rfl) aa (λh=>LU h) hv h
end
end
set_option maxRecDepth 4000
section
open Go.RowKit
attribute [local irreducible] ak VS
theorem fQ.le {kk:Nat} {w:World} {nm:ByteArray} {k:Nat} {s t:Bool} {p y:Option Addr} {n c m d:Nat} {q:Rat} (h0:k<256) (h:ax w (.agg #[.bool s,.slice p n c,.bool t,.slice y m d]) q kk) (l:LQ (.agg #[.bool s,.slice p n c,.bool t,.slice y m d]) 4):fQ 4 w [.string nm,.int .u8 (k:Int),.bool s,.slice p n c,.bool t,.slice y m d] (k,q):=.mk h0 (h.le l)
theorem VS.hop {C:Cx} {Q:Exit->Act->World->Prop} {F:Fr} {H:Hp} {w:World} {P:Fr->Hp->World->Prop} {LL LM:List It} (h1:(∀ F' H' w',P F' H' w'->VS C Q LM F' H' w')->VS C Q LL F H w) (h2:∀ F' H' w',P F' H' w'->VS C Q LM F' H' w'):VS C Q LL F H w:=h1 h2
def FewA (w:World) (u v:Value) (cs:List gU) (ts:List (List (List Rat))):Prop:=bL (fQ 4) 6 w u cs/\bL (ko 4) 1 w v ts/\cs.length<=12/\(ts.length<=6\/40<ts.length/\ts.length<50)
theorem eS {w:World} {b off z:Nat} {v:Value} (hc:∀ (j:Nat) (u:Value),[v][j]? =some u->w.cell? ⟨b,off+z*1+j,none⟩=some u):∀ (j:Nat) (u:Value),[v][j]? =some u->w.cell? ((⟨b,off+((z:Nat):Int).toNat*1,none⟩:Addr).add j)=some u:=λj u hj=>by rw[Addr.add_mid,Int.toNat_natCast];exact hc j u hj
set_option maxRecDepth 4000 in
theorem Hx (u v:Value) (cs:List gU) (ts:List (List (List Rat))) (kk:Nat) (w0 w:World) (hu:bL (fQ kk) 6 w0 u cs) (hv:bL (ko kk) 1 w0 v ts) (h0:au w0 w):
  Calls Tryz.prog 8 #[u,v] w λe w'=>∃ b,e=.returned (.bool b)/\(b=true->FewA w0 u v cs ts)/\au w w':=by
 obtain⟨p,c,rfl,dK,eE⟩:=hu.form
 obtain⟨p2,c2,rfl,LN,hcm2⟩:=hv.form
 obtain⟨N,hN⟩:∃ N,N=cs.length:=⟨_,rfl⟩
 obtain⟨T,hT⟩:∃ T,T=ts.length:=⟨_,rfl⟩
 rw[<-hN] at hu dK
 rw[<-hT] at hv LN
 rw[<-hN,<-hT]
 refine ae (C:=aV Tryz.prog w _) (args:=[_,_]) Tryz.func8 rfl Tryz.ntmps8 (bD rfl) ?_
 refine ab ?_
 refine VS.loop (J:=λm L M w'=>∃ z:Nat,z<=N/\z<=13/\m=N-z/\L=[(0,.val (.slice p N c)),(1,.val (.slice p2 T c2)),(5,.val (.int .i64 (z:Int)))]/\M=[]/\mo (fQ 4) 6 w0 p cs z) N ⟨_,_,?_,?_,?_,?_,⟨0,by omega,by omega,rfl,rfl,rfl,mo.zero⟩⟩ ?_
 ·exact dw
 ·exact dw
 ·rfl
 ·exact iK
 rintro m L M wJ ⟨z,hz,hz13,rfl,rfl,rfl,hup⟩
 apply VS.hop (P:=λF' H' w'=>Entry (λm L M w'=>∃ i:Nat,i<=T/\i<=50/\m=T-i/\L=[(0,.val (.slice p N c)),(1,.val (.slice p2 T c2)),(6,.val (.int .i64 (i:Int)))]/\M=[]/\mo (ko 4) 1 w0 p2 ts i) T F' H' w'/\(N<=12->bL (fQ 4) 6 w0 (.slice p N c) cs))
 ·intro cont
  refine ab ?_
  by_cases hlt:z<N
  ·refine VO.fix 13 rfl (congrArg (λb=>AV.val (.bool b)) (decide_eq_true (Int.ofNat_lt.2 hlt))) ?_
   refine ab ?_
   by_cases h13:(z:Int)<13
   ·refine VS.aY rfl (decide_eq_true h13) ?_
    obtain⟨x,hx⟩:∃ x,cs[z]? =some x:=⟨_,List.getElem?_eq_getElem aa⟩
    obtain⟨b,off,csx,rfl,hc,⟨nm,s,pp,n,cc,t,y,mm,d,rfl,wF,hr⟩⟩:=hu.at hx
    refine ab ?_
    refine VO.cond rfl eP ?_
    refine wV rfl ?_
    refine ab ?_
    refine VO.read rfl [.bool s,.slice pp n cc,.bool t,.slice y mm d] rfl (dI (λj u hj=>h0.cell (hc j u hj)) 2 _ ⟨[],rfl⟩) (wV rfl ?_)
    refine ab ?_
    refine VO.call rfl rfl (fk Tryz.func25) (λaP bG aZ=>(sO _ x.2 kk aP (hr.kp (Kp.of (U:=UU) (h0.ay aZ)))).mono ?_)
    rintro e w1 ⟨b1,rfl,l1,aB⟩
    cases b1 with
    | false=>
      refine aG aB ?_
      intro cj _ bb1
      refine az ?_;intro wz kz bz
      exact⟨_,rfl,λh=>(by cases h),bz⟩
    | true=>
      refine aG aB ?_
      intro cj _ bb1
      refine VS.back (N-(z+1)) aa ⟨_,_,?_,?_,?_,?_,⟨z+1,by omega,by omega,rfl,rfl,rfl,hup.snoc hx hc (fQ.le wF hr (l1 rfl))⟩⟩
      ·refine⟨rfl,rfl,?_,trivial⟩
       rw[<-bf (i:=z) aa];rfl
      ·exact dw
      ·rfl
      ·exact iK
   ·refine VS.bk rfl (decide_eq_false h13) ?_
    refine ab ?_
    refine cont _ _ _ ⟨⟨_,_,?_,?_,?_,?_,⟨0,by omega,by omega,rfl,rfl,rfl,mo.zero⟩⟩,λh=>absurd h aa⟩
    ·exact dw
    ·exact dw
    ·rfl
    ·exact iK
  ·refine VO.fix 13 rfl (congrArg (λb=>AV.val (.bool b)) (decide_eq_false (λe=>hlt (Int.ofNat_lt.1 e)))) ?_
   refine ab ?_
   refine cont _ _ _ ⟨⟨_,_,?_,?_,?_,?_,⟨0,by omega,by omega,rfl,rfl,rfl,mo.zero⟩⟩,λ_=>mo.all (show mo (fQ 4) 6 w0 p cs N from (show z=N by omega)▸hup) hu⟩
   ·exact dw
   ·exact dw
   ·rfl
   ·exact iK
 rintro F1 H1 w1 ⟨hent,nU⟩
 clear hup
 refine VS.loop T hent ?_
 rintro m L M wK ⟨i,hi,hi50,rfl,rfl,rfl,hup⟩
 refine ab ?_
 by_cases hex:i<T/\i<50
 ·obtain⟨hlt,hl5⟩:=hex
  refine VO.fix 30 rfl (congrArg (λb=>AV.val (.bool b)) (decide_eq_true (Int.ofNat_lt.2 hlt))) ?_
  refine ab ?_
  refine VS.aY rfl (decide_eq_true (show (i:Int)<50 by omega)) ?_
  obtain⟨tb,ht⟩:∃ x,ts[i]? =some x:=⟨_,List.getElem?_eq_getElem aa⟩
  obtain⟨b,off,csx,rfl,hc,⟨tv,rfl,Fq⟩⟩:=hv.at ht
  obtain⟨pr,cr,rfl⟩:=Fq.sl
  obtain⟨R,hR⟩:∃ R,R=tb.length:=⟨_,rfl⟩
  rw[<-hR] at Fq hc
  refine ab ?_
  refine VS.loop (J:=λm L M w'=>∃ e:Nat,e<=R/\m=R-e/\L=[(0,.val (.slice p N c)),(1,.val (.slice (some ⟨b,off,none⟩) T c2)),(6,.val (.int .i64 (i:Int))),(7,.val (.int .i64 (e:Int)))]/\M=[]/\mo (jV 4) 1 w0 pr tb e) R ⟨_,_,?_,?_,?_,?_,⟨0,by omega,rfl,rfl,rfl,mo.zero⟩⟩ ?_
  ·exact dw
  ·exact dw
  ·rfl
  ·exact iK
  rintro m L M wL ⟨e,he,rfl,rfl,rfl,hupr⟩
  refine ab ?_
  refine VO.cond rfl eP ?_
  refine wV rfl ?_
  refine ab ?_
  refine VO.read rfl [.slice pr R cr] rfl (eS (λj u hj=>h0.cell (hc j u hj))) (wV rfl ?_)
  refine ab ?_
  by_cases hle:e<R
  ·refine VS.aY rfl (decide_eq_true (Int.ofNat_lt.2 hle)) ?_
   refine ab ?_
   by_cases h4:(e:Int)>4
   ·refine VO.fix 48 rfl (congrArg (λb=>AV.val (.bool b)) (decide_eq_true h4)) ?_
    refine ab ?_
    refine az ?_;intro wz kz bz
    exact⟨_,rfl,λh=>(by cases h),bz⟩
   refine VO.fix 48 rfl (congrArg (λb=>AV.val (.bool b)) (decide_eq_false h4)) ?_
   refine ab ?_
   obtain⟨rw0,hrw⟩:∃ x,tb[e]? =some x:=⟨_,List.getElem?_eq_getElem aa⟩
   obtain⟨br,offr,csr,rfl,hcr,⟨rv,rfl,htot⟩⟩:=Fq.at hrw
   obtain⟨pc,cc,rfl⟩:=htot.sl
   obtain⟨K,hK⟩:∃ K,K=rw0.length:=⟨_,rfl⟩
   rw[<-hK] at htot hcr
   refine VO.cond rfl eP ?_
   refine wV rfl ?_
   refine ab ?_
   refine VO.read rfl [.slice (some ⟨br,offr,none⟩) R cr] rfl (eS (λj u hj=>h0.cell (hc j u hj))) (wV rfl ?_)
   refine ab ?_
   refine VO.cond rfl eP ?_
   refine wV rfl ?_
   refine ab ?_
   refine VO.read rfl [.slice pc K cc] rfl (eS (λj u hj=>h0.cell (hcr j u hj))) (wV rfl ?_)
   refine ab ?_
   by_cases h12:(K:Int)>12
   ·refine VS.aY rfl (decide_eq_true h12) ?_
    refine ab ?_
    refine az ?_;intro wz kz bz
    exact⟨_,rfl,λh=>(by cases h),bz⟩
   refine VS.bk rfl (decide_eq_false h12) ?_
   refine ab ?_
   refine VS.loop (J:=λm L M w'=>∃ q:Nat,q<=K/\m=K-q/\L=[(0,.val (.slice p N c)),(1,.val (.slice (some ⟨b,off,none⟩) T c2)),(6,.val (.int .i64 (i:Int))),(7,.val (.int .i64 (e:Int))),(8,.val (.int .i64 (q:Int)))]/\M=[]/\mo (kn 4) 4 w0 pc rw0 q) K ⟨_,_,?_,?_,?_,?_,⟨0,by omega,rfl,rfl,rfl,mo.zero⟩⟩ ?_
   ·exact dw
   ·exact dw
   ·rfl
   ·exact iK
   rintro m L M wM ⟨q,hq,rfl,rfl,rfl,hupc⟩
   refine ab ?_
   refine VO.cond rfl eP ?_
   refine wV rfl ?_
   refine ab ?_
   refine VO.read rfl [.slice (some ⟨br,offr,none⟩) R cr] rfl (eS (λj u hj=>h0.cell (hc j u hj))) (wV rfl ?_)
   refine ab ?_
   refine VO.cond rfl eP ?_
   refine wV rfl ?_
   refine ab ?_
   refine VO.read rfl [.slice pc K cc] rfl (eS (λj u hj=>h0.cell (hcr j u hj))) (wV rfl ?_)
   refine ab ?_
   by_cases hlq:q<K
   ·refine VS.aY rfl (decide_eq_true (Int.ofNat_lt.2 hlq)) ?_
    refine ab ?_
    obtain⟨x,hx⟩:∃ x,rw0[q]? =some x:=⟨_,List.getElem?_eq_getElem aa⟩
    obtain⟨bx,offx,csx,rfl,kD,⟨s,pp,n,cx,t,y,mm,d,rfl,hrt⟩⟩:=htot.at hx
    refine VO.cond rfl eP ?_
    refine wV rfl ?_
    refine ab ?_
    refine VO.read rfl [.slice (some ⟨br,offr,none⟩) R cr] rfl (eS (λj u hj=>h0.cell (hc j u hj))) (wV rfl ?_)
    refine ab ?_
    refine VO.cond rfl eP ?_
    refine wV rfl ?_
    refine ab ?_
    refine VO.read rfl [.slice (some ⟨bx,offx,none⟩) K cc] rfl (eS (λj u hj=>h0.cell (hcr j u hj))) (wV rfl ?_)
    refine ab ?_
    refine VO.cond rfl eP ?_
    refine wV rfl ?_
    refine ab ?_
    refine VO.read rfl [.bool s,.slice pp n cx,.bool t,.slice y mm d] rfl (dI (λj u hj=>h0.cell (kD j u hj)) 0 _ ⟨[],rfl⟩) (wV rfl ?_)
    refine ab ?_
    refine VO.call rfl rfl (fk Tryz.func25) (λaP bG aZ=>(sO _ x kk aP (hrt.kp (Kp.of (U:=UU) (h0.ay aZ)))).mono ?_)
    rintro e1 w2 ⟨b1,rfl,l1,aB⟩
    cases b1 with
    | false=>
      refine aG aB ?_
      intro cj _ bb1
      refine az ?_;intro wz kz bz
      exact⟨_,rfl,λh=>(by cases h),bz⟩
    | true=>
      refine aG aB ?_
      intro cj _ bb1
      refine VS.back (K-(q+1)) aa ⟨_,_,?_,?_,?_,?_,⟨q+1,by omega,rfl,rfl,rfl,hupc.snoc hx kD (kn.mk (hrt.le (l1 rfl)))⟩⟩
      ·refine⟨rfl,rfl,rfl,rfl,?_,trivial⟩
       rw[<-bf (i:=q) aa];rfl
      ·exact dw
      ·rfl
      ·exact iK
   ·refine VS.bk rfl (decide_eq_false (λe=>hlq (Int.ofNat_lt.1 e))) ?_
    obtain rfl:q=K:=by omega
    refine ab ?_
    refine VS.back (R-(e+1)) aa ⟨_,_,?_,?_,?_,?_,⟨e+1,by omega,rfl,rfl,rfl,hupr.snoc hrw hcr ⟨_,rfl,hupc.all htot⟩⟩⟩
    ·refine⟨rfl,rfl,rfl,?_,trivial⟩
     rw[<-bf (i:=e) aa];rfl
    ·exact dw
    ·rfl
    ·exact iK
  ·refine VS.bk rfl (decide_eq_false (λe=>hle (Int.ofNat_lt.1 e))) ?_
   obtain rfl:e=R:=by omega
   refine ab ?_
   refine VS.back (T-(i+1)) aa ⟨_,_,?_,?_,?_,?_,⟨i+1,by omega,by omega,rfl,rfl,rfl,hup.snoc ht hc ⟨_,rfl,hupr.all Fq⟩⟩⟩
   ·refine⟨rfl,rfl,?_,trivial⟩
    rw[<-bf (i:=i) aa];rfl
   ·exact dw
   ·rfl
   ·exact iK
 ·apply VO.via (P:=λF' H' w'=>Entry (λ_ L M w'=>L=[(0,.val (.slice p N c)),(1,.val (.slice p2 T c2))]/\M=[]) 0 F' H' w')
  ·intro cont
   by_cases hlt:i<T
   ·refine VO.fix 30 rfl (congrArg (λb=>AV.val (.bool b)) (decide_eq_true (Int.ofNat_lt.2 hlt))) ?_
    refine ab ?_
    refine VS.bk rfl (decide_eq_false (show ¬ (i:Int)<50 by omega)) ?_
    (repeat (first|refine wN ?_|refine wP rfl ?_|refine wO rfl rfl ?_))
    refine cont _ _ _ ⟨_,_,?_,?_,?_,?_,rfl,rfl⟩
    ·exact dw
    ·exact dw
    ·rfl
    ·exact iK
   ·refine VO.fix 30 rfl (congrArg (λb=>AV.val (.bool b)) (decide_eq_false (λe=>hlt (Int.ofNat_lt.1 e)))) ?_
    (repeat (first|refine wN ?_|refine wP rfl ?_|refine wO rfl rfl ?_))
    refine cont _ _ _ ⟨_,_,?_,?_,?_,?_,rfl,rfl⟩
    ·exact dw
    ·exact dw
    ·rfl
    ·exact iK
  ·rintro F2 H2 w2 ⟨_,_,e1,e2,e3,e4,rfl,rfl⟩
   refine VS.narrow _ _ e1 e2 e3 e4 ?_
   refine ab ?_
   by_cases LV:(N:Int)<=12
   ·refine VO.fix 89 rfl (congrArg (λb=>AV.val (.bool b)) (decide_eq_true LV)) ?_
    refine ab ?_
    by_cases hT6:(T:Int)<=6
    ·refine VO.fix 93 rfl (congrArg (λb=>AV.val (.bool b)) (decide_eq_true hT6)) ?_
     refine ab ?_
     refine az ?_;intro wz kz bz
     obtain rfl:i=T:=by omega
     exact⟨_,rfl,λ_=>⟨nU aa,hup.all hv,by omega,.inl aa⟩,bz⟩
    ·refine VO.fix 93 rfl (congrArg (λb=>AV.val (.bool b)) (decide_eq_false hT6)) ?_
     refine ab ?_
     by_cases h40:(T:Int)>40
     ·refine VO.fix 97 rfl (congrArg (λb=>AV.val (.bool b)) (decide_eq_true h40)) ?_
      refine ab ?_
      refine az ?_;intro wz kz bz
      refine⟨_,rfl,λh=> ?_,bz⟩
      have h50:(T:Int)<50:=of_decide_eq_true h
      obtain rfl:i=T:=by omega
      exact⟨nU aa,hup.all hv,by omega,.inr ⟨by omega,by omega⟩⟩
     ·refine VO.fix 97 rfl (congrArg (λb=>AV.val (.bool b)) (decide_eq_false h40)) ?_
      refine ab ?_
      refine az ?_;intro wz kz bz
      exact⟨_,rfl,λh=>(by cases h),bz⟩
   ·refine VO.fix 89 rfl (congrArg (λb=>AV.val (.bool b)) (decide_eq_false LV)) ?_
    refine ab ?_
    refine az ?_;intro wz kz bz
    exact⟨_,rfl,λh=>(by cases h),bz⟩
set_option maxRecDepth 4000
theorem has_any (v:Value) (t:List (List Rat)) (xs:List Rat) (e c:Nat) (kk:Nat) (w:World) (hv:bL (jV kk) 1 w v t) (hx:t[e]? =some xs) (hc:c<xs.length):
  Calls Tryz.prog 42 #[.agg #[v],.agg #[.int .i64 (e:Int),.int .i64 (c:Int)]] w λo w'=>o=.returned (.bool true)/\au w w':=by
 obtain⟨p,cp,rfl⟩:=hv.sl
 have rA:e<t.length:=(List.getElem?_eq_some_iff.1 hx).1
 obtain⟨b,off,csx,rfl,hcc,⟨xv,rfl,tL⟩⟩:=hv.at hx
 obtain⟨p3,c3,rfl⟩:=tL.sl
 refine ae (C:=aV Tryz.prog w _) (args:=[_,_]) Tryz.func42 rfl Tryz.ntmps42 (bD rfl) ?_
 refine ab ?_
 refine VO.fix 8 rfl (congrArg (λb=>AV.val (.bool b)) (decide_eq_true (show (e:Int)>=0 by omega))) ?_
 refine ab ?_
 refine VO.fix 16 rfl (congrArg (λb=>AV.val (.bool b)) (decide_eq_true (show (e:Int)<(t.length:Int) by omega))) ?_
 refine ab ?_
 refine VO.fix 21 rfl (congrArg (λb=>AV.val (.bool b)) (decide_eq_true (show (c:Int)>=0 by omega))) ?_
 refine ab ?_
 refine VO.cond rfl eP (wV rfl ?_)
 refine ab ?_
 refine VO.read rfl [.slice p3 xs.length c3] rfl (eS hcc) (wV rfl ?_)
 refine ab ?_
 refine az ?_;intro wz kz bz
 exact⟨congrArg (λb=>Ending.returned (.bool b)) (decide_eq_true (show (c:Int)<(xs.length:Int) by omega)),bz⟩
theorem LW (v:Value) (t:List (List Rat)) (xs:List Rat) (x:Rat) (e c:Nat) (kk:Nat) (w:World) (hv:bL (jV kk) 1 w v t) (hx:t[e]? =some xs) (hc:xs[c]? =some x) (hk:kk<=1000):
  Calls Tryz.prog 12 #[.agg #[v],.int .i64 (e:Int),.int .i64 (c:Int)] w λo w'=>∃ r,o=.returned r/\aK w' w.heap.size r x/\au w w':=by
 obtain⟨p,cp,rfl⟩:=hv.sl
 have rA:e<t.length:=(List.getElem?_eq_some_iff.1 hx).1
 have nU:c<xs.length:=(List.getElem?_eq_some_iff.1 hc).1
 refine ae (C:=aV Tryz.prog w _) (args:=[_,_,_]) Tryz.func12 rfl Tryz.ntmps12 (bD rfl) ?_
 refine ab ?_
 refine VO.cB rfl rfl (fk Tryz.func42) (λaP bG aZ=>has_any _ t xs e c kk aP (hv.pg (vJ kk) aZ) hx nU) (λaP bG aZ w1 aB cj _ bb1=>wV rfl ?_)
 refine ab ?_
 obtain⟨b,off,csx,rfl,hcc,⟨xv,rfl,tL⟩⟩:=hv.at hx
 obtain⟨b2,LJ,csx2,hp3,nV,⟨s,pp,n,cx,tt,y,mm,d,rfl,hrt⟩⟩:∃ b off cs,xv=.slice (some ⟨b,off,none⟩) xs.length (match xv with | .slice _ _ c=>c|_=>0)/\(∀ (j:Nat) (u:Value),cs[j]? =some u->w.cell? ⟨b,off+c*4+j,none⟩=some u)/\kn kk w cs x:=by
  obtain⟨p3,c3,rfl⟩:=tL.sl
  obtain⟨b2,LJ,cs2,rfl,h1,h2⟩:=tL.at hc
  exact⟨b2,LJ,cs2,rfl,h1,h2⟩
 rw[hp3] at hcc
 generalize (match xv with | .slice _ _ c=>c|_=>0)=c3 at hcc hp3
 refine VO.cond rfl eP (wV rfl ?_)
 refine VO.read rfl [.slice (some ⟨b2,LJ,none⟩) xs.length c3] rfl (eS hcc) (wV rfl ?_)
 refine ab ?_
 refine VO.cond rfl eP (wV rfl ?_)
 refine VO.read rfl [.bool s,.slice pp n cx,.bool tt,.slice y mm d] rfl (dI nV 0 _ ⟨[],rfl⟩) (wV rfl ?_)
 refine ab ?_
 refine VO.gw rfl (fk Tryz.func43) (λbh β bQ bE ho=>((jw _ [x] kk bh (iY (ho.own 22 (.base (List.mem_singleton.2 rfl)) _ _ rfl) [] (vs:=[[.bool s,.slice pp n cx,.bool tt,.slice y mm d]]) (by rfl) rfl (dZ.cons (hrt.kp (Kp.of (U:=UU) bE)) dZ.nil) (bD rfl) ff) (by unfold bM bU;simp;omega)).mono (λo w2 h=>And.intro h bE.size)).mono ?_)
 rintro o w2 ⟨⟨r2,rfl,q2,-,aQ⟩,hsz2⟩
 rw[nj] at q2
 obtain⟨s2,p2,n2,c2,t2,y2,m2,d2,rfl⟩:=q2.form
 refine aG aQ ?_
 intro db _ bb2
 refine az ?_;intro wz kz bz
 exact⟨_,rfl,(q2.kp kz).mono hsz2,bz⟩
set_option maxRecDepth 4000 in
theorem Ej (cs:List Value) (x:fP) (kk:Nat) (w:World) (hv:jW kk w cs x) (hk:kk<=1000000):
  Calls Tryz.prog 18 #[.agg cs.toArray] w λe w'=>∃ ds:List Value,e=.returned (.agg ds.toArray)/\jW kk w' ds x/\au w w':=by
 obtain⟨_,_,_,_,_,_,_,rfl,⟨sA,pA,nA,cA,tA,yA,mA,dA,rfl,hA,zA⟩,⟨sB,pB,nB,cB,tB,yB,mB,dB,rfl,hB,zB⟩,⟨sC,pC,nC,cC,tC,yC,mC,dC,rfl,hC,zC⟩,⟨sD,pD,nD,cD,tD,yD,mD,dD,rfl,hD,zD⟩,⟨sE,pE,nE,cE,tE,yE,mE,dE,rfl,hE,zE⟩,⟨sF,pF,nF,cF,tF,yF,mF,dF,rfl,hF,zF⟩,⟨sG,pG,nG,cG,tG,yG,mG,dG,rfl,hG,zG⟩⟩:=hv
 refine ae (C:=aV Tryz.prog w _) (args:=[_]) Tryz.func18 rfl Tryz.ntmps18 (bD rfl) ?_
 refine ab ?_
 refine VO.call rfl rfl (fk Tryz.func53) (λwa0 ka0 ba0=>(fE _ _ _ _ _ wa0 (hA.raw.k) (Nat.le_trans zA.1 aa) (Nat.le_trans zA.2 aa)).mono ?_)
 rintro e w0 ⟨r0,rfl,qq0,lg⟩
 have qA:=qq0.own.rd
 obtain⟨srA,prA,nrA,crA,trA,yrA,mrA,drA,rfl⟩:=qA.form
 refine aG lg ?_
 intro kb0 _ bb0
 refine VO.call rfl rfl (fk Tryz.func53) (λaP bG aZ=>(fE _ _ _ _ _ aP (hB.raw.k) (Nat.le_trans zB.1 aa) (Nat.le_trans zB.2 aa)).mono ?_)
 rintro e w1 ⟨r1,rfl,qq1,aB⟩
 have qB:=qq1.own.rd
 obtain⟨srB,prB,nrB,crB,trB,yrB,mrB,drB,rfl⟩:=qB.form
 refine aG aB ?_
 intro cj _ bb1
 refine VO.call rfl rfl (fk Tryz.func53) (λbh bQ bE=>(fE _ _ _ _ _ bh (hC.raw.k) (Nat.le_trans zC.1 aa) (Nat.le_trans zC.2 aa)).mono ?_)
 rintro e w2 ⟨r2,rfl,qq2,aQ⟩
 have qC:=qq2.own.rd
 obtain⟨srC,prC,nrC,crC,trC,yrC,mrC,drC,rfl⟩:=qC.form
 refine aG aQ ?_
 intro db _ bb2
 refine VO.call rfl rfl (fk Tryz.func53) (λcY di dQ=>(fE _ _ _ _ _ cY (hD.raw.k) (Nat.le_trans zD.1 aa) (Nat.le_trans zD.2 aa)).mono ?_)
 rintro e w3 ⟨r3,rfl,qq3,cu⟩
 have qD:=qq3.own.rd
 obtain⟨srD,prD,nrD,crD,trD,yrD,mrD,drD,rfl⟩:=qD.form
 refine aG cu ?_
 intro fj _ bb3
 refine VO.call rfl rfl (fk Tryz.func53) (λfm gv iw=>(fE _ _ _ _ _ fm (hE.raw.k) (Nat.le_trans zE.1 aa) (Nat.le_trans zE.2 aa)).mono ?_)
 rintro e w4 ⟨r4,rfl,qq4,fW⟩
 have qE:=qq4.own.rd
 obtain⟨srE,prE,nrE,crE,trE,yrE,mrE,drE,rfl⟩:=qE.form
 refine aG fW ?_
 intro lj _ sZ
 refine VO.call rfl rfl (fk Tryz.func53) (λiy jt ju=>(fE _ _ _ _ _ iy (hF.raw.k) (Nat.le_trans zF.1 aa) (Nat.le_trans zF.2 aa)).mono ?_)
 rintro e w5 ⟨r5,rfl,qq5,jf⟩
 have qF:=qq5.own.rd
 obtain⟨srF,prF,nrF,crF,trF,yrF,mrF,drF,rfl⟩:=qF.form
 refine aG jf ?_
 intro oo _ yL
 refine VO.call rfl rfl (fk Tryz.func53) (λoX qN tV=>(fE _ _ _ _ _ oX (hG.raw.k) (Nat.le_trans zG.1 aa) (Nat.le_trans zG.2 aa)).mono ?_)
 rintro e w6 ⟨r6,rfl,qq6,tQ⟩
 have qG:=qq6.own.rd
 obtain⟨srG,prG,nrG,crG,trG,yrG,mrG,drG,rfl⟩:=qG.form
 refine aG tQ ?_
 intro vY _ GH
 refine az ?_;intro wz kz bz
 exact⟨[.bool srA,.slice prA nrA crA,.bool trA,.slice yrA mrA drA,.bool srB,.slice prB nrB crB,.bool trB,.slice yrB mrB drB,.bool srC,.slice prC nrC crC,.bool trC,.slice yrC mrC drC,.bool srD,.slice prD nrD crD,.bool trD,.slice yrD mrD drD,.bool srE,.slice prE nrE crE,.bool trE,.slice yrE mrE drE,.bool srF,.slice prF nrF crF,.bool trF,.slice yrF mrF drF,.bool srG,.slice prG nrG crG,.bool trG,.slice yrG mrG drG],rfl,⟨_,_,_,_,_,_,_,rfl,.mk qA.k zA,.mk qB.k zB,.mk qC.k zC,.mk qD.k zD,.mk qE.k zE,.mk qF.k zF,.mk qG.k zG⟩,bz⟩
set_option maxRecDepth 4000
abbrev zl (P:Program) (w:World) (N:Nat):Cx:={ P:=P,w0:=w,N:=N,K:=⟨UU,λ_=>True,λt=>Nat.beq t 49⟩,SU:=λt=>Nat.beq t 30,ti:=table,keep:=λ_ _=>trivial }
theorem nr (w:World) (N:Nat):(zl Tryz.prog w N).Ok:=jq
theorem Hy (w:World) (N:Nat):(zl Tryz.prog w N).P.follows .mixedOrders=true:=by show Tryz.prog.follows .mixedOrders=true;kernel_rfl
section
variable {F F':Fr} {H H':Hp} {w w1:World} {N:Nat} {l':List Oper} {Q:Exit->Act->World->Prop} {k:List It} {id:Nat} {ops:Array Oper}
theorem cxK_r (e:kj (zl Tryz.prog w1 N) ops 80 ops.toList F H=(l',F',H')) (h:ak (zl Tryz.prog w1 N) none ops l' (VS (zl Tryz.prog w1 N) Q k) F' H' w):VS (zl Tryz.prog w1 N) Q (.code (.region id ops false)::k) F H w:=VS.region (nr _ _) (VO.run 80 e h)
theorem cxK_d (e:kj (zl Tryz.prog w1 N) ops 80 ops.toList F H=(l',F',H')) (h:ak (zl Tryz.prog w1 N) (some []) ops l' (VS (zl Tryz.prog w1 N) Q k) F' H' w) (kK:jl (zl Tryz.prog w1 N).SU [] ops=true:=by kernel_rfl):VS (zl Tryz.prog w1 N) Q (.code (.region id ops true)::k) F H w:=VS.draw (nr _ _) (Hy _ _) [] kK (VO.run 80 e h)
end
end
section
open Go.RowKit
section
variable {Fe:Fence} {n:Nat} {P:Program} {o:Oper} {a:Act} {w:World} {K:Act->World->Prop} {Q:Exit->Act->World->Prop}
end
section
variable {Fe:Fence} {n:Nat} {C:Cx} {Q:Exit->Act->World->Prop} {ml:List FuncId} {full:Array Oper}
end
section
variable {Fe:Fence} {C:Cx} {Q:Exit->Act->World->Prop} {k:List It} {F F':Fr} {H H':Hp} {w:World} {id:Nat} {ops:Array Oper} {l':List Oper}
end
def Fr.vals (L:List (Nat×Value)):Fr:=Fr.of (L.map λp=>(p.1,.val p.2))
theorem vP {L:List (Nat×Value)} {d:Nat} {v:AV} (h:Fr.vals L d=some v):∃ u,v=.val u/\(d,u)∈L:=by
 have:=Fr.eO h
 obtain⟨p,hp,e⟩:=List.mem_map.1 this
 cases e
 exact⟨p.2,rfl,hp⟩
structure Knows (N:Nat) (L:List (Nat×Value)) (a:Act):Prop where
 defers:a.defers=[]
 size:a.tmps.size=N
 tmp:∀ p∈L,p.1<N/\a.tmps.getD p.1 undef=p.2
theorem Knows.rel {C:Cx} {L:List (Nat×Value)} {a:Act} {w:World} (h:Knows C.N L a) (ho:C.Old w):Rel C (λ_=>0) (Fr.vals L) (λ_=>none) a w:=
 ⟨h.defers,h.size,λd v hd=>by obtain⟨u,rfl,hm⟩:=vP hd;exact (h.tmp _ hm).2,λi t cs hi=>(by cases hi),λi j hi=>absurd rfl hi,λd v hd i hi=>(by obtain⟨u,rfl,hm⟩:=vP hd;cases hi),λd v hd=>(by obtain⟨u,rfl,hm⟩:=vP hd;exact (h.tmp _ hm).1),⟨λi t cs hi=>(by cases hi),λi t cs hi=>(by cases hi),λi hi=>rfl⟩,ho⟩
def LX (N:Nat) (J:Nat->List (Nat×Value)->World->Prop) (n:Nat) (a:Act) (w:World):Prop:=∃ L,J n L w/\Knows N L a
section
variable {C:Cx} {Q:Exit->Act->World->Prop} {k:List It} {F:Fr} {H:Hp} {w:World} {J:Nat->List (Nat×Value)->World->Prop}
end
section
variable {C:Cx} {F:Fr} {H:Hp} {w:World} {Q:Exit->Act->World->Prop} {k:List It}
end
theorem vW.bo {w w1 W:World} {ad:List Nat} (h:au w w1) (k:vW ad w1 W) (hg:∀ g∈ad,w.heap.size<=g):au w W:=
 Below.trans h ⟨k.os,k.tape,k.output,k.size,λg Cv=>k.nT g (Nat.lt_of_lt_of_le Cv h.size) λhm=>by have:=hg g hm;omega⟩
section
variable {C:Cx} {F:Fr} {H:Hp} {w:World} {m:Option (List FuncId)} {full:Array Oper} {K:Fr->Hp->World->Prop} {o:Oper} {r:List Oper} {Q:Exit->Act->World->Prop} {k:List It}
def qJ (F:Fr) (β bO:Nat->Nat) (lo hi:Nat):List (Nat×AV)->Prop
 | []=>True
 | p::r=>(∃ u,F p.1=some u/\p.2.aI bO=u.aI β/\∀ i∈p.2.ids,lo<=i/\i<hi)/\qJ F β bO lo hi r
theorem qJ.mem {β bO:Nat->Nat} {lo hi:Nat}:∀ {L:List (Nat×AV)} {d:Nat} {v:AV},qJ F β bO lo hi L->(d,v)∈L->∃ u,F d=some u/\v.aI bO=u.aI β/\∀ i∈v.ids,lo<=i/\i<hi
 | p::r,d,v,h,hm=>by
   rcases List.mem_cons.1 hm with rfl|hm
   ·exact h.1
   ·exact qJ.mem h.2 hm
theorem VS.readopt (K:KC) (SU:TypeId->Bool) (ti:TypeId->Option TI) (keep:∀ (w':World) b,b<w'.heap.size->K.S b)
  (h:∀ w' β,aN C.K w w'->C.Old w'->Ends C β H w'->∃ (ad:List Nat) (l:List (TypeId×List AV)) (hl:sL K C.N ad l w') (L:List (Nat×AV)),qJ F β (adB C.N ad) (2*C.N) (2*C.N+l.length) L/\
   VS (uR C.P w' C.N K SU ti (keep w') ad hl.nodup hl.ad) Q k (Fr.of L) (Hp.Hf (2*C.N) l) w'):VS C Q k F H w:=λβ a w' hr hk=>by
 obtain⟨ad,l,hl,L,hL,hv⟩:=h w' β hk hr.old ⟨hr.own,hr.apart⟩
 have rW:∀ i c,Hp.Hf (2*C.N) l i=some c->2*C.N<=i/\l[i-2*C.N]? =some c:=λi c hi=>by
  rw[Hp.lZ] at hi
  split at hi
  ·exact⟨by assumption,hi⟩
  ·cases hi
 have hsome:∀ i,Hp.Hf (2*C.N) l i≠none->2*C.N<=i/\i-2*C.N<l.length:=λi hi=>by
  cases hh:Hp.Hf (2*C.N) l i with
  | none=>exact absurd hh hi
  | some c=>
    obtain⟨h1,h2⟩:=rW i c hh
    exact⟨h1,(List.getElem?_eq_some_iff.1 h2).1⟩
 have hval:∀ k,k<ad.length->ad[k]? =some (ad.getD k 0):=λk hk=>by simp[List.getD_eq_getElem?_getD,hk]
 refine hv (adB C.N ad) a w' ⟨hr.defers,hr.size,λd v hd=> ?_,λi t cs hi=> ?_,λi j hi hj e=> ?_,λd v hd i hi=> ?_,λd v hd=> ?_,⟨λi t cs hi=> ?_,λi t cs hi=> ?_,λi hi=> ?_⟩,(uR C.P w' C.N K SU ti (keep w') ad hl.nodup hl.ad).nv⟩ (aN.refl _ _)
 ·obtain⟨u,h1,h2,_⟩:=hL.mem (Fr.eO hd)
  rw[h2]
  exact hr.tmp d u h1
 ·obtain⟨h1,h2⟩:=rW i _ hi
  have hlt:=(List.getElem?_eq_some_iff.1 h2).1
  obtain⟨g1,g2⟩:=hl.ok _ (List.mem_of_getElem? h2)
  have hv:=hval (i-2*C.N) (by rw[hl.len];exact hlt)
  refine⟨?_,g1,hl.cls _ _ _ hv h2,g2⟩
  show gu C.N ad w' i (adB C.N ad i)
  unfold gu
  rw[if_pos h1]
  exact hv
 ·obtain⟨h1,h2⟩:=hsome i hi
  obtain⟨h3,h4⟩:=hsome j hj
  have e1:=hval (i-2*C.N) (by rw[hl.len];exact h2)
  have e2:=hval (j-2*C.N) (by rw[hl.len];exact h4)
  have e':ad.getD (i-2*C.N) 0=ad.getD (j-2*C.N) 0:=e
  rw[<-e'] at e2
  have:=(List.getElem?_inj (by rw[hl.len];exact h2) hl.nodup).1 (e1.trans e2.symm)
  omega
 ·obtain⟨u,h1,h2,h3⟩:=hL.mem (Fr.eO hd)
  obtain⟨h4,h5⟩:=h3 i hi
  rw[Hp.lZ,if_pos h4,List.getElem?_eq_getElem aa]
  simp
 ·obtain⟨u,h1,h2,h3⟩:=hL.mem (Fr.eO hd)
  exact hr.fits d u h1
 ·obtain⟨h1,h2⟩:=rW i _ hi
  exact hl.ok _ (List.mem_of_getElem? h2)
 ·obtain⟨h1,h2⟩:=rW i _ hi
  intro j hj
  obtain⟨h3,h4⟩:=hl.ids _ (List.mem_of_getElem? h2) j hj
  rw[Hp.lZ,if_pos h3,List.getElem?_eq_getElem aa]
  simp
 ·have oI:2*C.N+ad.length<=i:=hi
  rw[Hp.lZ]
  split
  ·exact List.getElem?_eq_none (by rw[<-hl.len];omega)
  ·rfl
end
def gp (a b:List Rat):List Rat:=List.zipWith (·+ ·) a b
theorem LY {k:Nat} (h:k≠5) (t u a:Rat):qo k (t+u) a=qo k t a+qo k u a:=by
 unfold qo
 rw[if_neg (show ¬ k=5 from h),if_neg (show ¬ k=5 from h),if_neg (show ¬ k=5 from h)]
 repeat' split
 all_goals grind
theorem LZ {k:Nat} (h:k≠5) (t u a:Rat):qq k (t+u) a=(qq k t a).add (qq k u a):=by
 refine Pt.ext' ?_ (LY h t u a) ?_ ?_
 ·show qn k (t+u)=qn k t+qn k u
  unfold qn;repeat' split
  all_goals grind
 ·show yT k (t+u)=yT k t+yT k u
  unfold yT;repeat' split
  all_goals grind
 ·show yU k (t+u)=yU k t+yU k u
  unfold yU;repeat' split
  all_goals grind
theorem pj (x:GU) (l:List GU):bl (x::l)=(yV x).add (bl l):=rK _ _
theorem Hz:bl []=Pt.zero:=rfl
theorem Pt.Ma (a b c d:Pt):(a.add b).add (c.add d)=(a.add c).add (b.add d):=by
 refine Pt.ext' ?_ ?_ ?_ ?_ <;> (show _+_+(_+_)=_+_+(_+_);grind)
theorem xS:∀ {cs:List gU} {a b:List Rat},(∀ k∈cs,k.1≠5)->a.length=cs.length->b.length=cs.length->bl (bH cs (gp a b))=(bl (bH cs a)).add (bl (bH cs b))
 | [],a,b,_,_,_=>by
   show bl []=(bl []).add (bl [])
   rw[Hz,kX]
 | k::cs,x::a,y::b,h,h1,h2=>by
   show bl ((k.1,k.2,x+y)::bH cs (gp a b))=(bl ((k.1,k.2,x)::bH cs a)).add (bl ((k.1,k.2,y)::bH cs b))
   rw[pj,pj,pj,xS (λk' hk=>h k' (List.mem_cons_of_mem _ hk)) (by simpa using h1) (by simpa using h2)]
   rw[show yV (k.1,k.2,x+y)=(yV (k.1,k.2,x)).add (yV (k.1,k.2,y)) from LZ (h k (List.mem_cons_self ..)) x y k.2]
   exact Pt.Ma _ _ _ _
 | _::_,[],_,_,h1,_=>by simp at h1
 | _::_,_::_,[],_,_,h2=>by simp at h2
def Mb (f:Fj->Rat) (n:Nat) (cs:List gU) (xs:List Rat):Rat:=dm (((((cs.zip xs).filter mr).map λp=>((n:Int),(iP p.1.2:Int),true,p.2)):List Fj).map f)
theorem Cf {f:Fj->Rat} (hf:∀ (y m:Int) (t u:Rat),f (y,m,true,t+u)=f (y,m,true,t)+f (y,m,true,u)) {n:Nat}:∀ {cs:List gU} {a b:List Rat},a.length=cs.length->b.length=cs.length->Mb f n cs (gp a b)=Mb f n cs a+Mb f n cs b
 | [],a,b,_,_=>by
   show dm []=dm []+dm []
   rw[vG];grind
 | k::cs,x::a,y::b,h1,h2=>by
   have ih:=Cf (n:=n) hf (cs:=cs) (a:=a) (b:=b) (by simpa using h1) (by simpa using h2)
   unfold Mb at ih ⊢
   show dm (((((k,x+y)::cs.zip (gp a b)).filter mr).map _).map f)=dm (((((k,x)::cs.zip a).filter mr).map _).map f)+dm (((((k,y)::cs.zip b).filter mr).map _).map f)
   by_cases hd:k.1=6
   ·have h:∀ z:Rat,mr (k,z)=true:=λz=>by unfold mr;rw[show (k,z).1.1=6 from hd];rfl
    rw[List.filter_cons_of_pos (h _),List.filter_cons_of_pos (h _),List.filter_cons_of_pos (h _)]
    simp only[List.map_cons,ja]
    rw[ih,hf];grind
   ·have h:∀ z:Rat,¬ mr (k,z)=true:=λz=>by unfold mr;intro e;exact hd (eq_of_beq e)
    rw[List.filter_cons_of_neg (h _),List.filter_cons_of_neg (h _),List.filter_cons_of_neg (h _)]
    exact ih
 | _::_,[],_,h1,_=>by simp at h1
 | _::_,_::_,[],_,h2=>by simp at h2
theorem vQ {f:Fj->Rat} (hf:∀ (y m:Int) (t u:Rat),f (y,m,true,t+u)=f (y,m,true,t)+f (y,m,true,u)) {cs:List gU} {A B C:List (List Rat)}:∀ n,(∀ y,y<n->C.getD y []=gp (A.getD y []) (B.getD y [])/\(A.getD y []).length=cs.length/\(B.getD y []).length=cs.length)->
  dm ((np cs C n).map f)=dm ((np cs A n).map f)+dm ((np cs B n).map f)
 | 0,_=>by
   show dm []=dm []+dm []
   rw[vG];grind
 | n+1,h=>by
   have ih:=vQ hf (cs:=cs) (A:=A) (B:=B) (C:=C) n (λy hy=>h y aa)
   obtain⟨h1,h2,h3⟩:=h n aa
   have e:∀ D:List (List Rat),dm ((np cs D (n+1)).map f)=dm ((np cs D n).map f)+Mb f n cs (D.getD n []):=λD=>by
    show dm ((np cs D n++_).map f)=_
    rw[List.map_append,BN];rfl
   rw[e,e,e,ih,h1,Cf hf h2 h3];grind
theorem HF (z y m:Int) (t u:Rat):iq (y,m,true,t+u) z=iq (y,m,true,t) z+iq (y,m,true,u) z:=by
 unfold iq
 have e:∀ q:Rat,cH (y,m,true,q)=cH (y,m,true,(0:Rat)):=λq=>rfl
 rw[e (t+u),e t,e u]
 split
 ·grind
 ·show (t+u)*_=t*_+u*_;grind
theorem Mc (z y m:Int) (t u:Rat):nZ (y,m,true,t+u) z=nZ (y,m,true,t) z+nZ (y,m,true,u) z:=by
 unfold nZ
 have e:∀ q:Rat,lX (y,m,true,q) z=lX (y,m,true,(0:Rat)) z:=λq=>rfl
 rw[e (t+u),e t,e u]
 split
 ·grind
 ·show (t+u)*_=t*_+u*_;grind
theorem Md {cs:List gU} {A B C:List (List Rat)} (h5:∀ k∈cs,k.1≠5) (y:Nat) (h:∀ i,i<=y->C.getD i []=gp (A.getD i []) (B.getD i [])/\(A.getD i []).length=cs.length/\(B.getD i []).length=cs.length):
  fF cs C y=(fF cs A y).add (fF cs B y):=by
 rw[jb,jb,jb]
 have h1:=vQ (f:=λe=>iq e y) (λa b c d=>HF _ a b c d) (y+1) (λi hi=>h i aa)
 have h2:=vQ (f:=λe=>nZ e y) (λa b c d=>Mc _ a b c d) (y+1) (λi hi=>h i aa)
 obtain⟨g1,g2,g3⟩:=h y (Nat.le_refl _)
 rw[h1,h2,g1,xS h5 g2 g3]
 generalize bl (bH cs (A.getD y []))=P
 generalize bl (bH cs (B.getD y []))=R
 refine fP.ext' (Pt.ext' rfl ?_ rfl rfl) rfl rfl ?_
 ·show P.s+R.s-(_+_)=(P.s-_)+(R.s-_);grind
 ·show P.s+R.s-(_+_)-(P.i+R.i)=(P.s-_-P.i)+(R.s-_-R.i);grind
theorem Me (x y:fP):rP [x,y]=x.add y:=by
 show (fP.zero.add x).add y=_
 refine fP.ext' ?_ ?_ ?_ ?_
 ·show (Pt.zero.add x.p).add y.p=_;rw[kX];rfl
 ·show 0+x.due+y.due=_;rw[Rat.zero_add];rfl
 ·show 0+x.Fm+y.Fm=_;rw[Rat.zero_add];rfl
 ·show 0+x.own+y.own=_;rw[Rat.zero_add];rfl
section
variable {C:Cx} {Q:Exit->Act->World->Prop} {k:List It} {F:Fr} {H:Hp} {w:World} {J:Nat->List (Nat×Value)->World->Prop}
def Mf (F:Fr) (β:Nat->Nat) (L:List (Nat×Value)):Prop:=rN F β (L.map λp=>(p.1,AV.val p.2))
theorem Rel.Mg {β:Nat->Nat} {a:Act} {L:List (Nat×Value)} (hr:Rel C β F H a w) (hL:Mf F β L):Knows C.N L a:=
 ⟨hr.defers,hr.size,λp hp=>by
  obtain⟨u,x,h1,h2,h3⟩:=hL.mem (List.mem_map.2 ⟨p,hp,rfl⟩)
  cases h3
  exact⟨hr.fits _ u h1,by rw[hr.tmp _ u h1,h2]⟩⟩
theorem VS.loopE (D:World->Cx) (hP:∀ w,(D w).P=C.P) (hN:∀ w,(D w).N=C.N) (hO:∀ w,(D w).Old w) (n0:Nat) {body:Code} (h0:∀ w' β,aN C.K w w'->C.Old w'->Ends C β H w'->∃ L,Mf F β L/\J n0 L w')
  (round:∀ n L W,J n L W->VS (D W) Q (.code body::.back (λa w=>∃ m,m<n/\LX C.N J m a w)::k) (Fr.vals L) (λ_=>none) W):VS C Q (.code (.loop body)::k) F H w:=λβ a w' hr hk=>by
 obtain⟨L,h1,h2⟩:=h0 w' β hk hr.old ⟨hr.own,hr.apart⟩
 refine wp_loop_ghost (LX C.N J) n0 ⟨L,h2,hr.Mg h1⟩ ?_
 rintro n a1 w1 ⟨L1,hJ,qP⟩
 have hkn':Knows (D w1).N L1 a1:=by rw[hN];exact qP
 have:=round n L1 w1 hJ _ a1 w1 (hkn'.rel (hO w1)) (aN.refl _ _)
 rw[hP] at this
 exact this
theorem VS.backE {n N:Nat} (hN:C.N=N) (m:Nat) (hm:m<n) (h:∀ w' β,aN C.K w w'->C.Old w'->Ends C β H w'->∃ L,Mf F β L/\J m L w'):VS C Q (.back (λa w=>∃ m,m<n/\LX N J m a w)::k) F H w:=λβ a w' hr hk=>by
 subst hN
 obtain⟨L,h1,h2⟩:=h w' β hk hr.old ⟨hr.own,hr.apart⟩
 exact⟨m,hm,L,h2,hr.Mg h1⟩
end
end
section
open Go.RowKit
attribute [local irreducible] ak VS
abbrev KN:KC:=⟨UU,λ_=>True,λt=>(Nat.beq t 34 || Nat.beq t 81)⟩
abbrev cxN (P:Program) (w:World) (N:Nat) (ad:List Nat) (hd:ad.Nodup) (ha:jo KN ad w):Cx:=uR P w N KN (λt=>(Nat.beq t 30 || Nat.beq t 39)) table (λ_ _=>trivial) ad hd ha
theorem vR (w:World) (N:Nat) {ad:List Nat} {hd:ad.Nodup} {ha:jo KN ad w}:(cxN Tryz.prog w N ad hd ha).Ok:=jq
section
variable {F F':Fr} {H H':Hp} {w w1:World} {N:Nat} {l':List Oper} {Q:Exit->Act->World->Prop} {k:List It} {id:Nat} {ops:Array Oper}
theorem cxN_r {ad:List Nat} {hd:ad.Nodup} {ha:jo KN ad w1} (e:kj (cxN Tryz.prog w1 N ad hd ha) ops 80 ops.toList F H=(l',F',H')) (h:ak (cxN Tryz.prog w1 N ad hd ha) none ops l' (VS (cxN Tryz.prog w1 N ad hd ha) Q k) F' H' w):VS (cxN Tryz.prog w1 N ad hd ha) Q (.code (.region id ops false)::k) F H w:=VS.region (vR _ _) (VO.run 80 e h)
end
theorem iH.told {α:Type} {E:World->List Value->α->Prop} {sz i:Nat} {t:TypeId} {es:List α} {C:Cx} {β:Nat->Nat} {H:Hp} {w w1:World} {X:AV} {M:List (Nat×(TypeId×List AV))} (h:iH E sz t i X M w es) (hE:fu E sz) (en:Ends C β H w1) (hM:∀ x∈M,H x.1=some x.2) (k:Kp UU w w1) (B:Nat) (hB:C.tz i (β i)->B<=β i):fo E sz t B w1 (X.aI β) es:=by
 rcases h with ⟨rfl,rfl,rfl⟩|⟨n,c,vs,sp,rfl,rfl,h3⟩
 ·exact .inl ⟨rfl,rfl⟩
 ·have o:=en.own i _ _ (hM _ (List.mem_singleton.2 rfl))
  have hk:=o.ok
  rw[List.all_append,Bool.and_eq_true] at hk
  have hn:=h3.len
  subst hn
  refine .inr ⟨β i,c,vs,sp.map (AV.leaf β),rfl,hB o.new,?_,h3.el.kp hE k,dy hk.2,h3.le,h3.cm,by rw[<-h3.fl];simp only[List.length_append,List.length_map]⟩
  have:=o.cls
  rw[List.map_append,aJ] at this
  exact this
def GE (_:World) (cs:List Value) (g:Nat):Prop:=cs=[.slice (some ⟨g,0,none⟩) 1 1]
theorem sQ:fu GE 1 where
 kp:=λh _=>h
 len:=λh=>by rw[show _=_ from h];rfl
 ok:=λh=>by rw[show _=_ from h];rfl
def td (w:World) (g:Nat) (row:List Rat):Prop:=∃ v,aR w g 81 #[v]/\fo (kn 10) 4 34 0 w v row
theorem td.kp {T:TypeId->Bool} {w w':World} {g:Nat} {row:List Rat} (h:td w g row) (k:KpT T w w') (h1:T 81=true) (h2:T 34=true):td w' g row:=by
 have f:∀ t,T t=true->(KC.fz ⟨UU,λ_=>True,T⟩ t)=true:=λt ht=>by show (Nat.beq t UU || T t)=true;rw[ht];simp
 obtain⟨v,e1,e2⟩:=h
 exact⟨v,k.block _ g _ (f _ h1) trivial e1,e2.kp (cg 10) k h2⟩
theorem td.bo {w w':World} {g:Nat} {row:List Rat} (h:td w g row) (hb:au w w'):td w' g row:=h.kp (T:=λ_=>true) (aN.of hb) rfl rfl
theorem td.tab {w:World} {g:Nat} {row:List Rat} (h:td w g row):ko 10 w [.slice (some ⟨g,0,none⟩) 1 1] [row]:=by
 obtain⟨v,e1,e2⟩:=h
 have h1:jV 10 w [v] row:=⟨v,rfl,e2.sl (cg 10)⟩
 exact⟨_,rfl,(kW (E:=λ_=>jV 10 w) BZ (vs:=[[v]]) (spare:=[]) e1 (.cons h1 .nil) rfl (Nat.le_refl _) (show (1:Nat)<=9223372036854775807 by omega)).mono (λ_ _ _ _ h=>h)⟩
theorem HI {w:World} {v:Value} {gs:List Nat} {rows:List (List Rat)} (h:bL GE 1 w v gs) (hl:gs.length=rows.length) (hg:∀ (i g:Nat) (r:List Rat),gs[i]? =some g->rows[i]? =some r->td w g r):bL (ko 10) 1 w v (rows.map λr=>[r]):=by
 obtain⟨p,c,rfl,h1,h2,h3⟩:=h
 refine⟨p,c,by rw[List.length_map,hl],by rw[List.length_map,<-hl];exact h1,h2,λi a ha=> ?_⟩
 rw[List.getElem?_map] at ha
 obtain⟨r,hr,rfl⟩:=Option.map_eq_some_iff.1 ha
 obtain⟨g,hgi⟩:∃ g,gs[i]? =some g:=⟨_,List.getElem?_eq_getElem (by rw[hl];exact (List.getElem?_eq_some_iff.1 hr).1)⟩
 obtain⟨b,off,cs,hp,hc,hE⟩:=h3 i g hgi
 obtain rfl:cs=[.slice (some ⟨g,0,none⟩) 1 1]:=hE
 exact⟨b,off,_,hp,hc,(hg i g r hgi hr).tab⟩
theorem fQ.up {j k:Nat} {w:World} {cs:List Value} {x:gU} (h:fQ j w cs x) (hk:j<=k):fQ k w cs x:=by
 obtain⟨nm,s,p,n,c,t,y,m,d,hv,h1,h2⟩:=h
 exact⟨_,_,_,_,_,_,_,_,_,hv,h1,h2.Bw hk⟩
theorem Mh {a b:List Rat} {z:Nat} {x y:Rat} (h1:a[z]? =some x) (h2:b[z]? =some y):(gp a b)[z]? =some (x+y):=by
 unfold gp;rw[List.getElem?_zipWith,h1,h2]
theorem xT {a b:List Rat} {n:Nat} (h1:a.length=n) (h2:b.length=n):(gp a b).length=n:=by
 unfold gp;rw[List.length_zipWith];omega
theorem Mj {cs:List gU} {rows:List (List Rat)} {T:Nat} (hT:rows.length=T) (h6:T<=40) (hr:∀ r∈rows,r.length=cs.length) (hy:∀ k∈cs,k.1=6->1<=iP k.2):ld cs 0 (rows.map λr=>[r])=0/\jU cs 0 (rows.map λr=>[r])=fc cs rows:=by
 have hodd:cs.any rO=false:=by
  rw[<-Bool.not_eq_true]
  intro hh
  obtain⟨x,hx,ho⟩:=List.any_eq_true.1 hh
  unfold rO at ho
  rw[Bool.and_eq_true,beq_iff_eq,beq_iff_eq] at ho
  have:=hy x hx ho.1;omega
 have hl:(rows.map λr=>[r]).any (iC 0 cs.length)=false:=by
  rw[<-Bool.not_eq_true]
  intro hh
  obtain⟨x,hx,ho⟩:=List.any_eq_true.1 hh
  obtain⟨r,jF,rfl⟩:=List.mem_map.1 hx
  unfold iC at ho
  rw[Bool.or_eq_true,decide_eq_true_iff,bne_iff_ne] at ho
  rcases ho with ho|ho
  ·simp at ho
  ·exact ho (hr r jF)
 have hm:ld cs 0 (rows.map λr=>[r])=0:=by
  unfold ld
  rw[if_neg (by rw[List.length_map];omega),if_neg aa,hl,if_neg cS,hodd,if_neg cS]
 refine⟨hm,?_⟩
 unfold jU
 rw[if_pos hm,List.map_map]
 congr 1
 induction rows with
 | nil=>rfl
 | cons r rs _=>simp[Function.comp_def]
set_option maxRecDepth 4000
theorem dc {P Q:Prop} (h:Q) (i:Q->P:=by intro h;(repeat first|refine wN ?_|refine wP rfl ?_|refine cxK_r rfl ?_|refine cxK_d rfl ?_|refine wO rfl rfl ?_);exact h):P:=i h
theorem Cg {P Q X:Prop} (hb:X) (h:Q) (i:X->Q->P:=by intro hb h;refine⟨_,rfl,hb,λa b c=>wV rfl ?_⟩;refine dc ?_;revert a b c;exact h):P:=i hb h
theorem xU {P Q:Prop} (h:Q) (i:Q->P:=by intro h;(repeat first|refine wN ?_|refine wP rfl ?_|refine cxN_r rfl ?_|refine cxN_d rfl ?_|refine wO rfl rfl ?_);exact h):P:=i h
set_option maxRecDepth 4000 in
theorem vS (u v:Value) (a b:Int) (cs:List gU) (ts:List (List (List Rat))) (kk:Nat) (w:World) (hu:bL (fQ kk) 6 w u cs) (hv:bL (ko kk) 1 w v ts):
  Calls Tryz.prog 6 #[u,.int .i64 a,.int .i64 b,v] w λo w'=>o=.returned (.bool true)/\au w w':=by
 obtain⟨p,c,rfl,dK,eE⟩:=hu.form
 obtain⟨p2,c2,rfl,LN,hcm2⟩:=hv.form
 obtain⟨N,hN⟩:∃ N,N=cs.length:=⟨_,rfl⟩
 obtain⟨T,hT⟩:∃ T,T=ts.length:=⟨_,rfl⟩
 rw[<-hN] at hu dK
 rw[<-hT] at hv LN
 rw[<-hN,<-hT]
 refine ae (C:=zl Tryz.prog w _) (args:=[_,_,_,_]) Tryz.func6 rfl Tryz.ntmps6 (bD rfl) ?_
 refine dc ?_
 refine VO.call rfl rfl (fk Tryz.func8) (λaP bG aZ=>(Hx _ _ cs ts kk w aP hu hv aZ).mono ?_)
 rintro o w1 ⟨b1,rfl,hfew,aB⟩
 cases b1 with
 | false=>
   refine Cg aB ?_
   intro cj _ bb1
   refine VO.cB rfl rfl (fk Tryz.func9) (λbh bQ bE=>ir bh) (λbh bQ bE w2 aQ db _ bb2=>wV rfl ?_)
   refine dc ?_
   refine VS.ret (nr _ _) rfl rfl (λwz kz bz=> ?_)
   exact⟨rfl,bz⟩
 | true=>
 obtain⟨hu4,hv4,LV,hT6⟩:=hfew rfl
 rw[<-hN] at LV
 rw[<-hT] at hT6
 refine Cg aB ?_
 intro cj _ bb1
 have hd:T*N<=128\/40<T:=by
  rcases hT6 with h|h
  ·have:T*N<=6*12:=Nat.mul_le_mul h LV
   exact .inl aa
  ·exact .inr h.1
 refine VS.loop (J:=λm L M w'=>∃ z:Nat,z<=N/\m=N-z/\L=[(0,.val (.slice p N c)),(1,.val (.int .i64 a)),(2,.val (.int .i64 b)),(3,.val (.slice p2 T c2)),(9,.val (.int .i64 (z:Int)))]/\M=[]/\∀ k∈cs.take z,k.1≠5) N ⟨_,_,?_,?_,?_,?_,⟨0,by omega,rfl,rfl,rfl,λk hk=>(by simp at hk)⟩⟩ ?_
 ·exact dw
 ·exact dw
 ·rfl
 ·exact iK
 rintro m L M wJ ⟨z,hz,rfl,rfl,rfl,h5⟩
 refine dc ?_
 by_cases hlt:z<N
 ·obtain⟨k,kh⟩:∃ k,cs[z]? =some k:=⟨_,List.getElem?_eq_getElem aa⟩
  obtain⟨bC,oC,csC,rfl,hcC,⟨nm,sk,pk,nk,ck,tk,yk,mk,dk,rfl,wF,hkA⟩⟩:=hu4.at kh
  refine VS.aY rfl (decide_eq_true (Int.ofNat_lt.2 hlt)) ?_
  refine dc ?_
  refine VO.cond rfl eP ?_
  refine wV rfl ?_
  refine dc ?_
  refine VO.read rfl [.int .u8 (k.1:Int)] rfl (dI hcC 1 _ ⟨_,rfl⟩) (wV rfl ?_)
  refine dc ?_
  by_cases h55:k.1=5
  ·refine VS.aY rfl (Kt (show (k.1:Int)=5 by omega)) ?_
   refine dc ?_
   refine VO.cB rfl rfl (fk Tryz.func9) (λbh bQ bE=>ir bh) (λbh bQ bE w2 aQ db _ bb2=>wV rfl ?_)
   refine dc ?_
   refine VS.ret (nr _ _) rfl rfl (λwz kz bz=> ?_)
   exact⟨rfl,bz⟩
  ·refine VS.bk rfl (Fc (show (k.1:Int)≠5 by omega)) ?_
   refine dc ?_
   refine VS.back (N-(z+1)) aa ⟨_,_,?_,?_,?_,?_,⟨z+1,by omega,rfl,rfl,rfl,λk' hk'=>by
    rw[aX kh] at hk'
    rcases List.mem_append.1 hk' with h|h
    ·exact h5 k' h
    ·rw[List.mem_singleton.1 h];exact h55⟩⟩
   ·refine⟨rfl,rfl,rfl,rfl,?_,trivial⟩
    rw[<-bf (i:=z) aa];rfl
   ·exact dw
   ·rfl
   ·exact iK
 refine VS.bk rfl (decide_eq_false (λe=>hlt (Int.ofNat_lt.1 e))) ?_
 obtain rfl:z=N:=by omega
 rw[List.take_of_length_le aa] at h5
 refine dc ?_
 refine VO.call rfl rfl (fk Tryz.func10) (λbh bQ bE=>(tW _ _ a cs ts 4 bh (hu4.bo (gn 4) bE) (hv4.pg (qI 4) bE) aa aa (by rw[<-hT,<-hN];exact hd)).mono ?_)
 rintro o w2 ⟨r2,rfl,q2,aQ⟩
 obtain⟨pa,ca,rfl⟩:=q2.form
 refine Cg aQ ?_
 intro db _ bb2
 refine VO.call rfl rfl (fk Tryz.func10) (λcY di dQ=>(tW _ _ b cs ts 4 cY (hu4.bo (gn 4) dQ) (hv4.pg (qI 4) dQ) aa aa (by rw[<-hT,<-hN];exact hd)).mono ?_)
 rintro o w3 ⟨r3,rfl,q3,cu⟩
 obtain⟨pb,cb,rfl⟩:=q3.form
 refine Cg cu ?_
 intro fj _ bb3
 by_cases ma:ld cs a ts≠0
 ·refine VO.fix 55 rfl (congrArg (λb=>AV.val (.bool b)) (Ks ma)) ?_
  refine dc ?_
  refine VO.cB rfl rfl (fk Tryz.func9) (λfm gv iw=>ir fm) (λfm gv iw w4 fW lj _ sZ=>wV rfl ?_)
  refine dc ?_
  refine VS.ret (nr _ _) rfl rfl (λwz kz bz=> ?_)
  exact⟨rfl,bz⟩
 replace ma:ld cs a ts=0:=Decidable.byContradiction ma
 refine VO.fix 55 rfl (congrArg (λb=>AV.val (.bool b)) (xJ ma)) ?_
 refine dc ?_
 by_cases mb:ld cs b ts≠0
 ·refine VS.aY rfl (Ks mb) ?_
  refine dc ?_
  refine VO.cB rfl rfl (fk Tryz.func9) (λfm gv iw=>ir fm) (λfm gv iw w4 fW lj _ sZ=>wV rfl ?_)
  refine dc ?_
  refine VS.ret (nr _ _) rfl rfl (λwz kz bz=> ?_)
  exact⟨rfl,bz⟩
 replace mb:ld cs b ts=0:=Decidable.byContradiction mb
 refine VS.bk rfl (xJ mb) ?_
 obtain⟨hT40,hea,Fs,hyr⟩:=yY ma
 obtain⟨-,heb,Ft,-⟩:=yY mb
 obtain⟨A,rfl⟩:=Int.eq_ofNat_of_zero_le hea
 obtain⟨B,rfl⟩:=Int.eq_ofNat_of_zero_le heb
 simp only[Int.toNat_natCast] at Fs Ft
 rw[<-hN] at Fs Ft
 rw[<-hT] at hT40
 replace hT6:T<=6:=hT6.resolve_right aa
 obtain⟨xa,hxa⟩:∃ xa:List (List Rat),xa=ts.map (λt=>t.getD A []):=⟨_,rfl⟩
 obtain⟨xb,hxb⟩:∃ xb:List (List Rat),xb=ts.map (λt=>t.getD B []):=⟨_,rfl⟩
 have harA:jU cs (A:Int) ts=fc cs xa:=by rw[hxa];exact if_pos ma
 have harB:jU cs (B:Int) ts=fc cs xb:=by rw[hxb];exact if_pos mb
 have hxal:xa.length=T:=by rw[hxa,List.length_map,hT]
 have hxbl:xb.length=T:=by rw[hxb,List.length_map,hT]
 have haA:(fc cs xa).length=T:=by unfold fc;rw[List.length_map,List.length_range,hxal]
 have haB:(fc cs xb).length=T:=by unfold fc;rw[List.length_map,List.length_range,hxbl]
 have hga:∀ y t,ts[y]? =some t->xa.getD y []=t.getD A []:=λy t h=>by rw[hxa,List.getD_eq_getElem?_getD,List.getElem?_map,h];rfl
 have hgb:∀ y t,ts[y]? =some t->xb.getD y []=t.getD B []:=λy t h=>by rw[hxb,List.getD_eq_getElem?_getD,List.getElem?_map,h];rfl
 obtain⟨za,hza⟩:∃ za:List (List Rat),za=(List.range T).map (λy=>gp (xa.getD y []) (xb.getD y [])):=⟨_,rfl⟩
 have hzl:za.length=T:=by rw[hza,List.length_map,List.length_range]
 have hzg:∀ y,y<T->za[y]? =some (gp (xa.getD y []) (xb.getD y [])):=λy hy=>by rw[hza,List.getElem?_map,List.getElem?_range hy];rfl
 have hxla:∀ y,y<T->(xa.getD y []).length=cs.length:=λy hy=>by
  obtain⟨t,ht⟩:∃ t,ts[y]? =some t:=⟨_,List.getElem?_eq_getElem aa⟩
  rw[hga y t ht,(Fs t (List.mem_of_getElem? ht)).2];exact hN
 have hxlb:∀ y,y<T->(xb.getD y []).length=cs.length:=λy hy=>by
  obtain⟨t,ht⟩:∃ t,ts[y]? =some t:=⟨_,List.getElem?_eq_getElem aa⟩
  rw[hgb y t ht,(Ft t (List.mem_of_getElem? ht)).2];exact hN
 rw[harA,haA] at q2
 rw[harB,haB] at q3
 rw[harA,haA,harB,haB]
 refine VS.DX (λw=>zl Tryz.prog w 149) (λ_=>rfl) (λ_=>rfl) (λ_=>au.refl _) (λw9 β k9 b9 en=> ?_)
 have hb9:au w w9:=b9
 have hu9:=hu4.bo (gn 4) hb9
 have hv9:bL (ko 4) 1 w9 (.slice p2 T c2) ts:=hv4.pg (qI 4) hb9
 have qa9:=(q2.kp (cP AK) (show aN (zl Tryz.prog w 149).K w2 w9 from bX) rfl).sl (cP AK)
 have qb9:=(q3.kp (cP AK) (show aN (zl Tryz.prog w 149).K w3 w9 from bX) rfl).sl (cP AK)
 refine⟨[(0,.val (.slice p z c)),(1,.val (.int .i64 (A:Int))),(2,.val (.int .i64 (B:Int))),(3,.val (.slice p2 T c2)),(10,.val (.slice pa T ca)),(12,.val (.slice pb T cb))],⟨⟨_,_,rfl,rfl,rfl⟩,⟨_,_,rfl,rfl,rfl⟩,⟨_,_,rfl,rfl,rfl⟩,⟨_,_,rfl,rfl,rfl⟩,⟨_,_,rfl,rfl,rfl⟩,⟨_,_,rfl,rfl,rfl⟩,trivial⟩,?_⟩
 clear q2 q3 hu4 hv4 hu hv
 obtain⟨N,hNz⟩:∃ N,N=z:=⟨_,rfl⟩
 subst hNz
 refine dc ?_
 refine VS.loopE (J:=λm L W=>∃ (y:Nat) (bv:Value) (gs:List Nat),y<=T/\m=T-y/\L=[(0,.slice p N c),(1,.int .i64 (A:Int)),(2,.int .i64 (B:Int)),(3,.slice p2 T c2),(10,.slice pa T ca),(12,.slice pb T cb),(14,bv),(15,.int .i64 (y:Int))]/\au w9 W/\fo GE 1 41 w9.heap.size W bv gs/\gs.length=y/\∀ (i g:Nat),gs[i]? =some g->td W g (gp (xa.getD i []) (xb.getD i [])))
  (λW=>zl Tryz.prog W 149) (λ_=>rfl) (λ_=>rfl) (λ_=>au.refl _) T (λw' β k o en=>⟨[(0,.slice p N c),(1,.int .i64 (A:Int)),(2,.int .i64 (B:Int)),(3,.slice p2 T c2),(10,.slice pa T ca),(12,.slice pb T cb),(14,.slice none 0 0),(15,.int .i64 ((0:Nat):Int))],⟨⟨_,_,rfl,rfl,rfl⟩,⟨_,_,rfl,rfl,rfl⟩,⟨_,_,rfl,rfl,rfl⟩,⟨_,_,rfl,rfl,rfl⟩,⟨_,_,rfl,rfl,rfl⟩,⟨_,_,rfl,rfl,rfl⟩,⟨_,_,rfl,rfl,rfl⟩,⟨_,_,rfl,rfl,rfl⟩,trivial⟩,0,_,[],by omega,rfl,rfl,o,.inl ⟨rfl,rfl⟩,rfl,λi g hi=>(by simp at hi)⟩) ?_
 rintro m L W ⟨y,bv,gs,hy,rfl,rfl,hBW,Mk,Cv,htab⟩
 have hvW:bL (ko 4) 1 W (.slice p2 T c2) ts:=hv9.pg (qI 4) hBW
 refine dc ?_
 by_cases hyT:y<T
 ·obtain⟨t,ht⟩:∃ t,ts[y]? =some t:=⟨_,List.getElem?_eq_getElem aa⟩
  obtain⟨bT,Mm,csT,rfl,hcT,⟨tv,rfl,htv⟩⟩:=hvW.at ht
  obtain⟨ha1,ha2⟩:=Fs t (List.mem_of_getElem? ht)
  obtain⟨Ch,hb2'⟩:=Ft t (List.mem_of_getElem? ht)
  obtain⟨pt,ct,rfl⟩:=htv.sl
  obtain⟨xs,tL⟩:∃ xs,t[A]? =some xs:=⟨_,List.getElem?_eq_getElem ha1⟩
  obtain⟨ys,hys⟩:∃ ys,t[B]? =some ys:=⟨_,List.getElem?_eq_getElem Ch⟩
  have hxa':xa.getD y []=xs:=by rw[hga y t ht,List.getD_eq_getElem?_getD,tL];rfl
  have hxb':xb.getD y []=ys:=by rw[hgb y t ht,List.getD_eq_getElem?_getD,hys];rfl
  have hxn:xs.length=N:=by rw[<-ha2,List.getD_eq_getElem?_getD,tL];rfl
  have hyn:ys.length=N:=by rw[<-hb2',List.getD_eq_getElem?_getD,hys];rfl
  have hsz:∀ (e:Nat) (l:List Rat),t[e]? =some l->∀ x∈l,bW x 4:=λe l hl x hx=>by
   obtain⟨_,_,_,_,_,⟨xv,rfl,hxl2⟩⟩:=htv.at hl
   obtain⟨_,⟨_,_,_,_,_,_,_,_,rfl,hq⟩⟩:=hxl2.mem hx
   exact hq.sz aa
  refine VS.aY rfl (decide_eq_true (Int.ofNat_lt.2 hyT)) ?_
  refine dc ?_
  refine VS.loop (J:=λm L M w'=>∃ (z:Nat) (X:AV) (Mi:List (Nat×(TypeId×List AV))),z<=N/\m=N-z/\L=[(0,.val (.slice p N c)),(1,.val (.int .i64 (A:Int))),(2,.val (.int .i64 (B:Int))),(3,.val (.slice (some ⟨bT,Mm,none⟩) T c2)),(10,.val (.slice pa T ca)),(12,.val (.slice pb T cb)),(14,.val bv),(15,.val (.int .i64 (y:Int))),(16,X),(17,.val (.int .i64 (z:Int)))]/\M=Mi/\iH (kn 10) 4 34 89 X Mi w' ((gp xs ys).take z)) N ⟨_,_,?_,?_,?_,?_,⟨0,_,[],by omega,rfl,rfl,rfl,.inl ⟨rfl,rfl,rfl⟩⟩⟩ ?_
  ·exact dw
  ·exact dw
  ·rfl
  ·exact iK
  rintro m L M wI ⟨z,X,Mi,hz,rfl,rfl,rfl,hI⟩
  refine VS.now (λwX kN bN=> ?_)
  replace hI:=hI.kp (cg 10) (aN.lJ kN)
  refine VS.mask [88] (by rcases hI with ⟨_,rfl,rfl⟩|⟨_,_,_,_,rfl,rfl,_⟩ <;> (repeat first|exact trivial|refine⟨rfl,?_⟩)) ?_
  refine dc ?_
  by_cases hzt:z<N
  ·obtain⟨x,kh⟩:∃ x,xs[z]? =some x:=⟨_,List.getElem?_eq_getElem aa⟩
   obtain⟨x2,Kc⟩:∃ x,ys[z]? =some x:=⟨_,List.getElem?_eq_getElem aa⟩
   have uQ:=Mh kh Kc
   have sY:=hsz A xs tL x (List.mem_of_getElem? kh)
   have hs2:=hsz B ys hys x2 (List.mem_of_getElem? Kc)
   refine VS.aY rfl (decide_eq_true (Int.ofNat_lt.2 hzt)) ?_
   refine dc ?_
   refine VO.cond rfl eP ?_
   refine wV rfl ?_
   refine dc ?_
   refine VO.read rfl [.slice pt t.length ct] rfl (eS hcT) (wV rfl ?_)
   refine dc ?_
   refine VO.cR rfl rfl (fk Tryz.func12) (λoX qN tV=>LW _ t xs x A z 4 oX (htv.pg (vJ 4) tV) tL kh aa) (λoX qN tV w6 s6 p6 n6 c6 t6 y6 m6 d6 q6 tQ vY _ GH=>wV rfl ?_)
   refine dc ?_
   refine VO.cond rfl eP ?_
   refine wV rfl ?_
   refine dc ?_
   refine VO.read rfl [.slice pt t.length ct] rfl (eS hcT) (wV rfl ?_)
   refine dc ?_
   refine VO.cR rfl rfl (fk Tryz.func12) (λzj Bh xG=>LW _ t ys x2 B z 4 zj (htv.pg (vJ 4) xG) hys Kc aa) (λzj Bh xG w7 s7 p7 n7 c7 t7 y7 m7 d7 q7 Ij Du _ bb7=>wV rfl ?_)
   refine dc ?_
   refine VO.cR rfl rfl (fk Tryz.func13) (λGI ka8 Il=>cZ _ _ x x2 4 4 GI (q6.ki sY) (q7.ki hs2) aa aa) (λGI ka8 Il w8 s8 p8 n8 c8 t8 y8 m8 d8 q8 Ew Cq _ bb8=>wV rfl ?_)
   refine dc ?_
   have rA:kn 10 w8 [.bool s8,.slice p8 n8 c8,.bool t8,.slice y8 m8 d8] (x+x2):=.mk (q8.in ((sY.add hs2).mono aa))
   rcases hI with ⟨fK,rfl,rfl⟩|⟨n',c',vs,sp,rfl,rfl,BV⟩
   ·refine VO.Bx (nr _ _) (cg 10) (t:=81) (e:=34) (s:=88) (a:=x+x2) (cs:=[.bool s8,.slice p8 n8 c8,.bool t8,.slice y8 m8 d8]) rfl rfl rfl rfl rfl rfl rfl rfl (bD rfl) rfl rfl rfl rA aa (λw9' cap sp k9' b9' wG=>wV rfl ?_)
    refine dc ?_
    refine VS.back (N-(z+1)) aa ⟨_,_,?_,?_,?_,?_,⟨z+1,_,_,by omega,rfl,rfl,rfl,.inr ⟨1,cap,_,sp,rfl,rfl,by rw[aX uQ,fK];exact wG⟩⟩⟩
    ·refine⟨rfl,rfl,rfl,rfl,rfl,rfl,rfl,rfl,rfl,?_,trivial⟩
     rw[<-bf (i:=z) aa];rfl
    ·(repeat first|exact trivial|refine⟨rfl,?_⟩|refine⟨congrArg (λl=>some (_,l)) (dX (by first|exact dM.dU (by assumption)|exact ah _|(rw[<-List.map_append];exact ah _)) _ _),?_⟩)
    ·rfl
    ·(repeat first|exact trivial|refine⟨aF.lit rfl,?_⟩|refine⟨dM.Ff (by assumption),?_⟩|refine⟨aF.append (.vals _) (.vals _),?_⟩|refine⟨aF.vals _,?_⟩)
   ·have vV:=BV.len
    rw[List.length_take] at vV
    refine VO.Bz (nr _ _) (cg 10) (t:=81) (e:=34) (s:=88) (i:=89) (n:=n') (c:=c') (vs:=vs) (sp:=sp) (es:=(gp xs ys).take z) (a:=x+x2) (cs:=[.bool s8,.slice p8 n8 c8,.bool t8,.slice y8 m8 d8]) rfl rfl rfl rfl rfl rfl rfl rfl (bD rfl) rfl (.inr rfl) rfl (BV.kp (cg 10) (aN.lJ (show aN (zl Tryz.prog W 149).K wX w8 from bX))) rfl rA aa (λw9' Ef Iq ρ k9' b9' eM wG=>wV rfl ?_)
    refine dc ?_
    refine VS.back (N-(z+1)) aa ⟨_,_,?_,?_,?_,?_,⟨z+1,_,_,by omega,rfl,rfl,rfl,.inr ⟨n' +1,Ef,_,Iq,rfl,rfl,by rw[aX uQ];exact wG⟩⟩⟩
    ·refine⟨rfl,rfl,rfl,rfl,rfl,rfl,rfl,rfl,rfl,?_,trivial⟩
     rw[<-bf (i:=z) aa];rfl
    ·(repeat first|exact trivial|refine⟨rfl,?_⟩|refine⟨congrArg (λl=>some (_,l)) (dX (by first|exact dM.dU (by assumption)|exact ah _|(rw[<-List.map_append];exact ah _)) _ _),?_⟩)
    ·rfl
    ·(repeat first|exact trivial|refine⟨aF.lit rfl,?_⟩|refine⟨dM.Ff (by assumption),?_⟩|refine⟨aF.append (.vals _) (.vals _),?_⟩|refine⟨aF.vals _,?_⟩)
  refine VS.bk rfl (decide_eq_false (λe=>hzt (Int.ofNat_lt.1 e))) ?_
  obtain rfl:z=N:=by omega
  rw[List.take_of_length_le (by rw[xT hxn hyn];omega)] at hI
  subst Cv
  have hsz0:=hBW.size
  refine VS.readopt KN (λt=>(Nat.beq t 30 || Nat.beq t 39)) table (λ_ _ _=>trivial) (λsV β1 k1 b1' en1=> ?_)
  have Ch:au W sV:=b1'
  have hsz9:w9.heap.size<=sV.heap.size:=Nat.le_trans hsz0 Ch.size
  have gN:=hI.told (cg 10) en1 (by intro q hq;rcases hI with ⟨_,rfl,rfl⟩|⟨_,_,_,_,rfl,rfl,_⟩ <;> first|(cases hq;done)|(cases List.mem_singleton.1 hq;rfl)) k1.lJ 0 (λ_=>Nat.zero_le _)
  rcases Mk with ⟨rfl,rfl⟩|⟨g0,cB,vsB,spB,rfl,hBg,hBcls,hBel,hBok,hBle,hBcm,hBfl⟩
  ·have Ls:sL KN 149 [] [] sV:=⟨rfl,List.nodup_nil,λj g c hj=>(by simp at hj),λc hc=>(by cases hc),λc hc=>(by cases hc)⟩
   refine⟨[],[],Ls,[(0,.val (.slice p z c)),(1,.val (.int .i64 (A:Int))),(2,.val (.int .i64 (B:Int))),(3,.val (.slice (some ⟨bT,Mm,none⟩) T c2)),(10,.val (.slice pa T ca)),(12,.val (.slice pb T cb)),(14,.val (.slice none 0 0)),(15,.val (.int .i64 (([]:List Nat).length:Int))),(16,.val (X.aI β1))],⟨⟨_,rfl,rfl,λi hi=>(by cases hi)⟩,⟨_,rfl,rfl,λi hi=>(by cases hi)⟩,⟨_,rfl,rfl,λi hi=>(by cases hi)⟩,⟨_,rfl,rfl,λi hi=>(by cases hi)⟩,⟨_,rfl,rfl,λi hi=>(by cases hi)⟩,⟨_,rfl,rfl,λi hi=>(by cases hi)⟩,⟨_,rfl,rfl,λi hi=>(by cases hi)⟩,⟨_,rfl,rfl,λi hi=>(by cases hi)⟩,⟨_,rfl,rfl,λi hi=>(by cases hi)⟩,trivial⟩,?_⟩
   generalize X.aI β1=vv at gN ⊢
   obtain⟨pr,cr,rfl⟩:=gN.form
   refine xU ?_
   refine VO.litE (vR _ _) (sz:=1) [.slice pr (gp xs ys).length cr] [.slice pr (gp xs ys).length cr] rfl rfl rfl rfl rfl rfl rfl rfl rfl rfl ff (λBi g2 k12 b12 hB12 hc12=>wV rfl ?_)
   refine xU ?_
   refine VO.Bx (vR _ _) sQ (t:=23) (e:=41) (s:=94) (a:=g2) (cs:=[.slice (some ⟨g2,0,none⟩) 1 1]) rfl rfl rfl rfl rfl rfl rfl rfl (bD rfl) rfl rfl rfl rfl aa (λIm cap sp k13 b13 wG=>wV rfl ?_)
   refine xU ?_
   refine VS.backE rfl (T-(([]:List Nat).length+1)) aa (λw' bO k' o' en'=> ?_)
   have EP:aN KN Bi w':=(show aN KN Bi Im from bX).ay k'
   have hkk0:aN KN sV w':=(show aN KN sV Bi from bX).ay EP
   have hst:iH GE 1 41 95 (.row 95 0 (1) cap) [(95,(41,_))] Im ([g2]):=.inr ⟨_,cap,_,sp,rfl,rfl,wG⟩
   have JF:=hst.told sQ en' (λx hx=>by cases List.mem_singleton.1 hx;rfl) k'.lJ w9.heap.size (λh=>(gO (show gu 149 [] sV 95 (bO 95) from h)).elim (λq=>Nat.le_trans hsz9 q) (λq=>by cases q))
   refine⟨[(0,.slice p z c),(1,.int .i64 (A:Int)),(2,.int .i64 (B:Int)),(3,.slice (some ⟨bT,Mm,none⟩) T c2),(10,.slice pa T ca),(12,.slice pb T cb),(14,.slice (some ⟨bO 95,0,none⟩) (1) cap),(15,.int .i64 ((([]:List Nat).length+1:Nat):Int))],⟨⟨_,_,rfl,rfl,rfl⟩,⟨_,_,rfl,rfl,rfl⟩,⟨_,_,rfl,rfl,rfl⟩,⟨_,_,rfl,rfl,rfl⟩,⟨_,_,rfl,rfl,rfl⟩,⟨_,_,rfl,rfl,rfl⟩,⟨_,_,rfl,rfl,rfl⟩,⟨_,_,rfl,congrArg (λz=>Value.int .i64 z) (bf (i:=([]:List Nat).length) aa),rfl⟩,trivial⟩,([]:List Nat).length+1,_,[g2],by omega,rfl,rfl,vW.bo (hBW.ay Ch) o'.1 (λg hg=>by cases hg),JF,by simp,λi g hi=> ?_⟩
   match i,hi with
   | 0,hi=>
     cases hi
     rw[show ([]:List Nat).length=0 from rfl] at hxa' hxb'
     rw[hxa',hxb']
     exact td.kp ⟨_,hc12,gN.kp (cg 10) (show aN KN sV Bi from bX) rfl⟩ EP rfl rfl
   | i+1,hi=>simp at hi
  ·have Ls:sL KN 149 [g0] [(41,vsB.flatten.map .val++spB.map .val)] sV:=by
    refine⟨rfl,by simp,λj g' c' hj hc=> ?_,λc' hc=> ?_,λc' hc k hk=> ?_⟩
    ·match j,hj,hc with
     | 0,hj,hc=>cases hj;cases hc;rw[<-List.map_append,aJ];exact hBcls.bo Ch
     | j+1,hj,_=>simp at hj
    ·cases List.mem_singleton.1 hc
     exact⟨rfl,by rw[<-List.map_append];exact cM (by rw[List.all_append,(hBel.ok sQ).1,hBok];rfl)⟩
    ·cases List.mem_singleton.1 hc
     rw[<-List.map_append,ah] at hk;cases hk
   have hNB:dM GE 1 sV gs.length cB vsB (spB.map .val) gs:=⟨rfl,hBel.kp sQ (Kp.of (U:=UU) Ch),cM hBok,ah _,hBle,hBcm,by rw[<-List.map_append,List.length_map];exact hBfl⟩
   refine⟨[g0],[(41,vsB.flatten.map .val++spB.map .val)],Ls,[(0,.val (.slice p z c)),(1,.val (.int .i64 (A:Int))),(2,.val (.int .i64 (B:Int))),(3,.val (.slice (some ⟨bT,Mm,none⟩) T c2)),(10,.val (.slice pa T ca)),(12,.val (.slice pb T cb)),(14,.row 298 0 gs.length cB),(15,.val (.int .i64 (gs.length:Int))),(16,.val (X.aI β1))],⟨⟨_,rfl,rfl,λi hi=>(by cases hi)⟩,⟨_,rfl,rfl,λi hi=>(by cases hi)⟩,⟨_,rfl,rfl,λi hi=>(by cases hi)⟩,⟨_,rfl,rfl,λi hi=>(by cases hi)⟩,⟨_,rfl,rfl,λi hi=>(by cases hi)⟩,⟨_,rfl,rfl,λi hi=>(by cases hi)⟩,⟨_,rfl,rfl,λi hi=>by rw[(by simpa [AV.ids] using hi:i=298)];exact⟨(by show 298<=298;omega),(by show 298<2*149+1;omega)⟩⟩,⟨_,rfl,rfl,λi hi=>(by cases hi)⟩,⟨_,rfl,rfl,λi hi=>(by cases hi)⟩,trivial⟩,?_⟩
   generalize X.aI β1=vv at gN ⊢
   obtain⟨pr,cr,rfl⟩:=gN.form
   refine xU ?_
   refine VO.litE (vR _ _) (sz:=1) [.slice pr (gp xs ys).length cr] [.slice pr (gp xs ys).length cr] rfl rfl rfl rfl rfl rfl rfl rfl rfl rfl ff (λBi g2 k12 b12 hB12 hc12=>wV rfl ?_)
   refine xU ?_
   refine VO.Bz (vR _ _) sQ (t:=23) (e:=41) (s:=94) (i:=298) (n:=gs.length) (c:=cB) (vs:=vsB) (sp:=spB.map .val) (es:=gs) (a:=g2) (cs:=[.slice (some ⟨g2,0,none⟩) 1 1]) rfl rfl rfl rfl rfl rfl rfl rfl (bD rfl) rfl (.inl rfl) rfl (hNB.kp sQ (aN.lJ (show aN KN sV Bi from bX))) rfl rfl aa (λIm cap sp ρ k13 b13 eM wG=>wV rfl ?_)
   refine xU ?_
   refine VS.backE rfl (T-(gs.length+1)) aa (λw' bO k' o' en'=> ?_)
   have EP:aN KN Bi w':=(show aN KN Bi Im from bX).ay k'
   have hkk0:aN KN sV w':=(show aN KN sV Bi from bX).ay EP
   have hst:iH GE 1 41 95 (.row 95 0 (gs.length+1) cap) [(95,(41,_))] Im (gs++[g2]):=.inr ⟨_,cap,_,sp,rfl,rfl,wG⟩
   have JF:=hst.told sQ en' (λx hx=>by cases List.mem_singleton.1 hx;rfl) k'.lJ w9.heap.size (λh=>(gO (show gu 149 [g0] sV 95 (bO 95) from h)).elim (λq=>Nat.le_trans hsz9 q) (λq=>by rw[List.mem_singleton.1 q];exact hBg))
   refine⟨[(0,.slice p z c),(1,.int .i64 (A:Int)),(2,.int .i64 (B:Int)),(3,.slice (some ⟨bT,Mm,none⟩) T c2),(10,.slice pa T ca),(12,.slice pb T cb),(14,.slice (some ⟨bO 95,0,none⟩) (gs.length+1) cap),(15,.int .i64 ((gs.length+1:Nat):Int))],⟨⟨_,_,rfl,rfl,rfl⟩,⟨_,_,rfl,rfl,rfl⟩,⟨_,_,rfl,rfl,rfl⟩,⟨_,_,rfl,rfl,rfl⟩,⟨_,_,rfl,rfl,rfl⟩,⟨_,_,rfl,rfl,rfl⟩,⟨_,_,rfl,rfl,rfl⟩,⟨_,_,rfl,congrArg (λz=>Value.int .i64 z) (bf (i:=gs.length) aa),rfl⟩,trivial⟩,gs.length+1,_,gs++[g2],by omega,rfl,rfl,vW.bo (hBW.ay Ch) o'.1 (λg hg=>by rw[List.mem_singleton.1 hg];exact hBg),JF,by simp,λi g hi=> ?_⟩
   by_cases hil:i<gs.length
   ·rw[List.getElem?_append_left hil] at hi
    exact ((htab i g hi).bo Ch).kp hkk0 rfl rfl
   ·rw[List.getElem?_append_right aa] at hi
    obtain⟨d,hd'⟩:∃ d,i=gs.length+d:=⟨i-gs.length,by omega⟩
    subst hd'
    rw[show gs.length+d-gs.length=d by omega] at hi
    match d,hi with
    | 0,hi=>
      cases hi
      rw[Nat.add_zero,hxa',hxb']
      exact td.kp ⟨_,hc12,gN.kp (cg 10) (show aN KN sV Bi from bX) rfl⟩ EP rfl rfl
    | d+1,hi=>simp at hi
 ·refine VS.bk rfl (decide_eq_false (λe=>hyT (Int.ofNat_lt.1 e))) ?_
  obtain rfl:y=T:=by omega
  have huW:bL (fQ 10) 6 W (.slice p N c) cs:=(hu9.bo (gn 4) hBW).mono (λi a cs0 _ h=>h.up aa)
  have hbt:bL (ko 10) 1 W bv (za.map λr=>[r]):=HI (Mk.sl sQ) aa (λi g r hi hr=>by
   have hiy:i<gs.length:=(List.getElem?_eq_some_iff.1 hi).1
   rw[hzg i aa] at hr
   cases hr
   exact htab i g hi)
  have hzr:∀ r∈za,r.length=cs.length:=λr hr=>by
   rw[hza] at hr
   obtain⟨i,hi,rfl⟩:=List.mem_map.1 hr
   have oI:=List.mem_range.1 hi
   exact xT (hxla i oI) (hxlb i oI)
  obtain⟨hmz,harz⟩:=Mj (cs:=cs) hzl aa hzr hyr
  have hazl:(fc cs za).length=y:=by unfold fc;rw[List.length_map,List.length_range,hzl]
  obtain⟨pbv,cbv,rfl⟩:=Mk.form
  refine dc ?_
  refine VO.call rfl rfl (fk Tryz.func10) (λwa41 ka41 ba41=>(tW _ _ 0 cs (za.map λr=>[r]) 10 wa41 (huW.bo (gn 10) ba41) (hbt.pg (qI 10) ba41) aa aa (.inl (by rw[List.length_map,hzl];exact Nat.le_trans (Nat.mul_le_mul (show y<=6 by omega) (show cs.length<=12 by omega)) aa))).mono ?_)
  rintro o w41 ⟨r41,rfl,q41,hb41⟩
  obtain⟨pz,cz,rfl⟩:=q41.form
  rw[harz,hazl] at q41
  rw[harz,hazl,hmz]
  refine Cg hb41 ?_
  intro kb41 _ bb41
  refine VO.fix 111 rfl (congrArg (λb=>AV.val (.bool b)) (xJ rfl)) ?_
  refine dc ?_
  refine VO.fix 118 rfl (congrArg (λb=>AV.val (.bool b)) (xJ rfl)) ?_
  refine dc ?_
  refine VS.bk rfl (xJ rfl) ?_
  refine VS.DX (λw=>aV Tryz.prog w 149) (λ_=>rfl) (λ_=>rfl) (λ_=>au.refl _) (λw20 β2 k20 b20 en2=> ?_)
  have hb20:au w9 w20:=hBW.ay b20
  have qA:=qa9.bo (cP AK) hb20
  have qB:=qb9.bo (cP AK) hb20
  have qZ:=(q41.kp (cP AK) (show aN (zl Tryz.prog W 149).K w41 w20 from bX) rfl).sl (cP AK)
  refine⟨[(10,.val (.slice pa y ca)),(12,.val (.slice pb y cb)),(18,.val (.slice pz y cz))],⟨⟨_,_,rfl,rfl,rfl⟩,⟨_,_,rfl,rfl,rfl⟩,⟨_,_,rfl,rfl,rfl⟩,trivial⟩,?_⟩
  clear qa9 qb9 q41 hu9 hv9 huW hbt
  refine ab ?_
  refine VS.loop (J:=λm L M w'=>∃ z:Nat,z<=y/\m=y-z/\L=[(10,.val (.slice pa y ca)),(12,.val (.slice pb y cb)),(18,.val (.slice pz y cz)),(20,.val (.int .i64 (z:Int)))]/\M=[]) y ⟨_,_,?_,?_,?_,?_,⟨0,by omega,rfl,rfl,rfl⟩⟩ ?_
  ·exact dw
  ·exact dw
  ·rfl
  ·exact iK
  rintro m L M wL ⟨z,hz,rfl,rfl,rfl⟩
  refine ab ?_
  by_cases hzk:z<y
  ·have hrA:=jy (cs:=cs) (xss:=xa) (y:=z) aa
   have hrB:=jy (cs:=cs) (xss:=xb) (y:=z) aa
   have hrZ:=jy (cs:=cs) (xss:=za) (y:=z) aa
   have hlin:fF cs za z=(fF cs xa z).add (fF cs xb z):=Md h5 z (λi hi=>⟨by rw[List.getD_eq_getElem?_getD,hzg i aa];rfl,hxla i aa,hxlb i aa⟩)
   obtain⟨bA,offA,csA,rfl,hcA,⟨_,_,_,_,_,_,_,rfl,⟨slA,plA,nlA,clA,tlA,ylA,mlA,dlA,rfl,glA⟩,⟨slB,plB,nlB,clB,tlB,ylB,mlB,dlB,rfl,glB⟩,⟨slC,plC,nlC,clC,tlC,ylC,mlC,dlC,rfl,glC⟩,⟨slD,plD,nlD,clD,tlD,ylD,mlD,dlD,rfl,glD⟩,⟨slE,plE,nlE,clE,tlE,ylE,mlE,dlE,rfl,glE⟩,⟨slF,plF,nlF,clF,tlF,ylF,mlF,dlF,rfl,glF⟩,⟨slG,plG,nlG,clG,tlG,ylG,mlG,dlG,rfl,glG⟩⟩⟩:=qA.at hrA
   obtain⟨bB,offB,csB,rfl,hcB,⟨_,_,_,_,_,_,_,rfl,⟨sqA,pqA,nqA,cqA,tqA,yqA,mqA,dqA,rfl,gqA⟩,⟨sqB,pqB,nqB,cqB,tqB,yqB,mqB,dqB,rfl,gqB⟩,⟨sqC,pqC,nqC,cqC,tqC,yqC,mqC,dqC,rfl,gqC⟩,⟨sqD,pqD,nqD,cqD,tqD,yqD,mqD,dqD,rfl,gqD⟩,⟨sqE,pqE,nqE,cqE,tqE,yqE,mqE,dqE,rfl,gqE⟩,⟨sqF,pqF,nqF,cqF,tqF,yqF,mqF,dqF,rfl,gqF⟩,⟨sqG,pqG,nqG,cqG,tqG,yqG,mqG,dqG,rfl,gqG⟩⟩⟩:=qB.at hrB
   obtain⟨bZ,offZ,csZ,rfl,hcZ,⟨_,_,_,_,_,_,_,rfl,⟨szA,pzA,nzA,czA,tzA,yzA,mzA,dzA,rfl,gzA⟩,⟨szB,pzB,nzB,czB,tzB,yzB,mzB,dzB,rfl,gzB⟩,⟨szC,pzC,nzC,czC,tzC,yzC,mzC,dzC,rfl,gzC⟩,⟨szD,pzD,nzD,czD,tzD,yzD,mzD,dzD,rfl,gzD⟩,⟨szE,pzE,nzE,czE,tzE,yzE,mzE,dzE,rfl,gzE⟩,⟨szF,pzF,nzF,czF,tzF,yzF,mzF,dzF,rfl,gzF⟩,⟨szG,pzG,nzG,czG,tzG,yzG,mzG,dzG,rfl,gzG⟩⟩⟩:=qZ.at hrZ
   refine VS.aY rfl (decide_eq_true (Int.ofNat_lt.2 hzk)) ?_
   refine ab ?_
   refine VO.cond rfl eP ?_
   refine wV rfl ?_
   refine ab ?_
   refine VO.read rfl [.bool slA,.slice plA nlA clA,.bool tlA,.slice ylA mlA dlA,.bool slB,.slice plB nlB clB,.bool tlB,.slice ylB mlB dlB,.bool slC,.slice plC nlC clC,.bool tlC,.slice ylC mlC dlC,.bool slD,.slice plD nlD clD,.bool tlD,.slice ylD mlD dlD,.bool slE,.slice plE nlE clE,.bool tlE,.slice ylE mlE dlE,.bool slF,.slice plF nlF clF,.bool tlF,.slice ylF mlF dlF,.bool slG,.slice plG nlG clG,.bool tlG,.slice ylG mlG dlG] rfl (dI hcA 0 _ ⟨[],rfl⟩) (wV rfl ?_)
   refine ab ?_
   refine VO.cond rfl eP ?_
   refine wV rfl ?_
   refine ab ?_
   refine VO.read rfl [.bool sqA,.slice pqA nqA cqA,.bool tqA,.slice yqA mqA dqA,.bool sqB,.slice pqB nqB cqB,.bool tqB,.slice yqB mqB dqB,.bool sqC,.slice pqC nqC cqC,.bool tqC,.slice yqC mqC dqC,.bool sqD,.slice pqD nqD cqD,.bool tqD,.slice yqD mqD dqD,.bool sqE,.slice pqE nqE cqE,.bool tqE,.slice yqE mqE dqE,.bool sqF,.slice pqF nqF cqF,.bool tqF,.slice yqF mqF dqF,.bool sqG,.slice pqG nqG cqG,.bool tqG,.slice yqG mqG dqG] rfl (dI hcB 0 _ ⟨[],rfl⟩) (wV rfl ?_)
   refine ab ?_
   refine VO.gw rfl (fk Tryz.func26) (λwa50 β50 ka50 ba50 ho=>(LP _ [fF cs xa z,fF cs xb z] AK wa50 (nO (Ei AK) (ho.own 139 (.base (List.mem_singleton.2 rfl)) _ _ rfl) [] (vs:=[[.bool slA,.slice plA nlA clA,.bool tlA,.slice ylA mlA dlA,.bool slB,.slice plB nlB clB,.bool tlB,.slice ylB mlB dlB,.bool slC,.slice plC nlC clC,.bool tlC,.slice ylC mlC dlC,.bool slD,.slice plD nlD clD,.bool tlD,.slice ylD mlD dlD,.bool slE,.slice plE nlE clE,.bool tlE,.slice ylE mlE dlE,.bool slF,.slice plF nlF clF,.bool tlF,.slice ylF mlF dlF,.bool slG,.slice plG nlG clG,.bool tlG,.slice ylG mlG dlG],[.bool sqA,.slice pqA nqA cqA,.bool tqA,.slice yqA mqA dqA,.bool sqB,.slice pqB nqB cqB,.bool tqB,.slice yqB mqB dqB,.bool sqC,.slice pqC nqC cqC,.bool tqC,.slice yqC mqC dqC,.bool sqD,.slice pqD nqD cqD,.bool tqD,.slice yqD mqD dqD,.bool sqE,.slice pqE nqE cqE,.bool tqE,.slice yqE mqE dqE,.bool sqF,.slice pqF nqF cqF,.bool tqF,.slice yqF mqF dqF,.bool sqG,.slice pqG nqG cqG,.bool tqG,.slice yqG mqG dqG]]) (by rfl) (.cons ((Ei AK).b (jW.in ⟨_,_,_,_,_,_,_,rfl,.mk glA.1 glA.2,.mk glB.1 glB.2,.mk glC.1 glC.2,.mk glD.1 glD.2,.mk glE.1 glE.2,.mk glF.1 glF.2,.mk glG.1 glG.2⟩) ba50) (.cons ((Ei AK).b (jW.in ⟨_,_,_,_,_,_,_,rfl,.mk gqA.1 gqA.2,.mk gqB.1 gqB.2,.mk gqC.1 gqC.2,.mk gqD.1 gqD.2,.mk gqE.1 gqE.2,.mk gqF.1 gqF.2,.mk gqG.1 gqG.2⟩) ba50) .nil)) rfl (Nat.le_refl _) (show (2:Nat)<=9223372036854775807 by omega)) (by unfold AK;omega) (by unfold AK;omega) (show (2:Nat)<=8 by omega)).mono ?_)
   rintro o w50 ⟨r50,rfl,q50,hb50⟩
   rw[Me,<-hlin] at q50
   obtain⟨_,rfl,⟨_,_,_,_,_,_,_,rfl,⟨ssA,psA,nsA,csA,tsA,ysA,msA,dsA,rfl,gsA⟩,⟨ssB,psB,nsB,csB,tsB,ysB,msB,dsB,rfl,gsB⟩,⟨ssC,psC,nsC,csC,tsC,ysC,msC,dsC,rfl,gsC⟩,⟨ssD,psD,nsD,csD,tsD,ysD,msD,dsD,rfl,gsD⟩,⟨ssE,psE,nsE,csE,tsE,ysE,msE,dsE,rfl,gsE⟩,⟨ssF,psF,nsF,csF,tsF,ysF,msF,dsF,rfl,gsF⟩,⟨ssG,psG,nsG,csG,tsG,ysG,msG,dsG,rfl,gsG⟩⟩⟩:=q50
   refine aG hb50 ?_
   intro kb50 _ bb50
   refine VO.cond rfl eP ?_
   refine wV rfl ?_
   refine ab ?_
   refine VO.read rfl [.bool szA,.slice pzA nzA czA,.bool tzA,.slice yzA mzA dzA,.bool szB,.slice pzB nzB czB,.bool tzB,.slice yzB mzB dzB,.bool szC,.slice pzC nzC czC,.bool tzC,.slice yzC mzC dzC,.bool szD,.slice pzD nzD czD,.bool tzD,.slice yzD mzD dzD,.bool szE,.slice pzE nzE czE,.bool tzE,.slice yzE mzE dzE,.bool szF,.slice pzF nzF czF,.bool tzF,.slice yzF mzF dzF,.bool szG,.slice pzG nzG czG,.bool tzG,.slice yzG mzG dzG] rfl (dI hcZ 0 _ ⟨[],rfl⟩) (wV rfl ?_)
   refine ab ?_
   refine VO.call rfl rfl (fk Tryz.func18) (λwa51 ka51 ba51=>(Ej [.bool szA,.slice pzA nzA czA,.bool tzA,.slice yzA mzA dzA,.bool szB,.slice pzB nzB czB,.bool tzB,.slice yzB mzB dzB,.bool szC,.slice pzC nzC czC,.bool tzC,.slice yzC mzC dzC,.bool szD,.slice pzD nzD czD,.bool tzD,.slice yzD mzD dzD,.bool szE,.slice pzE nzE czE,.bool tzE,.slice yzE mzE dzE,.bool szF,.slice pzF nzF czF,.bool tzF,.slice yzF mzF dzF,.bool szG,.slice pzG nzG czG,.bool tzG,.slice yzG mzG dzG] (fF cs za z) AK wa51 ((cP AK).b ⟨_,_,_,_,_,_,_,rfl,.mk gzA.1 gzA.2,.mk gzB.1 gzB.2,.mk gzC.1 gzC.2,.mk gzD.1 gzD.2,.mk gzE.1 gzE.2,.mk gzF.1 gzF.2,.mk gzG.1 gzG.2⟩ ba51) (by unfold AK;omega)).mono ?_)
   rintro o w51 ⟨ds,rfl,q51,hb51⟩
   obtain⟨_,_,_,_,_,_,_,rfl,⟨svA,pvA,nvA,cvA,tvA,yvA,mvA,dvA,rfl,gvA⟩,⟨svB,pvB,nvB,cvB,tvB,yvB,mvB,dvB,rfl,gvB⟩,⟨svC,pvC,nvC,cvC,tvC,yvC,mvC,dvC,rfl,gvC⟩,⟨svD,pvD,nvD,cvD,tvD,yvD,mvD,dvD,rfl,gvD⟩,⟨svE,pvE,nvE,cvE,tvE,yvE,mvE,dvE,rfl,gvE⟩,⟨svF,pvF,nvF,cvF,tvF,yvF,mvF,dvF,rfl,gvF⟩,⟨svG,pvG,nvG,cvG,tvG,yvG,mvG,dvG,rfl,gvG⟩⟩:=q51
   refine aG hb51 ?_
   intro kb51 _ bb51
   refine VO.cB rfl rfl (fk Tryz.func17) (λwa52 ka52 ba52=>LR _ _ (fF cs za z) _ AK wa52 ⟨_,rfl,⟨_,_,_,_,_,_,_,rfl,.mk gsA.1.k gsA.2,.mk gsB.1.k gsB.2,.mk gsC.1.k gsC.2,.mk gsD.1.k gsD.2,.mk gsE.1.k gsE.2,.mk gsF.1.k gsF.2,.mk gsG.1.k gsG.2⟩⟩ ⟨_,rfl,⟨_,_,_,_,_,_,_,rfl,.mk gvA.1.k gvA.2,.mk gvB.1.k gvB.2,.mk gvC.1.k gvC.2,.mk gvD.1.k gvD.2,.mk gvE.1.k gvE.2,.mk gvF.1.k gvF.2,.mk gvG.1.k gvG.2⟩⟩) (λwa52 ka52 ba52 w52 hb52 kb52 _ bb52=>wV rfl ?_)
   refine ab ?_
   refine VS.back (y-(z+1)) aa ⟨_,_,?_,?_,?_,?_,⟨z+1,by omega,rfl,rfl,rfl⟩⟩
   ·refine⟨rfl,rfl,rfl,?_,trivial⟩
    rw[<-bf (i:=z) aa];rfl
   ·exact dw
   ·rfl
   ·exact iK
  ·refine VS.bk rfl (decide_eq_false (λe=>hzk (Int.ofNat_lt.1 e))) ?_
   refine ab ?_
   refine VO.cB rfl rfl (fk Tryz.func9) (λwa60 ka60 ba60=>ir wa60) (λwa60 ka60 ba60 w60 hb60 kb60 _ bb60=>wV rfl ?_)
   refine ab ?_
   refine az ?_;intro wz kz bz
   exact⟨rfl,(hb9.ay hb20).ay bz⟩
end
end Go.Proofs.YtlfdmhfhkgpmbaaGreat
