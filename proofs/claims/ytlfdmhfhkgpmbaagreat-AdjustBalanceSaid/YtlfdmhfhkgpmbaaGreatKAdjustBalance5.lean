/-Ea of the proof,laid behind one another. -/
import Derived.Test.YtlfdmhfhkgpmbaaGreatKAdjustBalance4
set_option linter.all false
set_option maxHeartbeats 64000000
set_option maxRecDepth 4000
namespace Go.Proofs.YtlfdmhfhkgpmbaaGreat
section
open Go.RowKit
attribute [local irreducible] ak VS
abbrev KP:KC:=⟨UU,λ_=>True,λt=> !(Nat.beq t 175 || (Nat.beq t 177 || Nat.beq t 34))⟩
abbrev Kg (P:Program) (w:World) (N:Nat) (ad:List Nat) (hd:ad.Nodup) (ha:kF KP ad w):Cx:=Ao P w N KP (λt=>Nat.beq t 30) table (λ_ _=>trivial) ad hd ha
theorem jX (w:World) (N:Nat) {ad:List Nat} {hd:ad.Nodup} {ha:kF KP ad w}:(Kg Tryz.prog w N ad hd ha).Ok:=kG
theorem GP (w:World) (N:Nat) {ad:List Nat} {hd:ad.Nodup} {ha:kF KP ad w}:(Kg Tryz.prog w N ad hd ha).P.follows .mixedOrders=true:=by show Tryz.prog.follows .mixedOrders=true;kernel_rfl
section
variable {C:Cx} {m:Option (List FuncId)} {full:Array Oper} {K:Fr->Hp->World->Prop} {F F':Fr} {H H':Hp} {w w1:World} {N:Nat} {o:Oper} {r l l':List Oper} {Q:Exit->Act->World->Prop} {k k':List It} {v:AV} {u:Option (Nat×(TypeId×List AV))} {id:Nat} {ops:Array Oper}
theorem cxP_r {ad:List Nat} {hd:ad.Nodup} {ha:kF KP ad w1} (e:kD (Kg Tryz.prog w1 N ad hd ha) ops 80 ops.toList F H=(l',F',H')) (h:ak (Kg Tryz.prog w1 N ad hd ha) none ops l' (VS (Kg Tryz.prog w1 N ad hd ha) Q k) F' H' w):VS (Kg Tryz.prog w1 N ad hd ha) Q (.code (.region id ops false)::k) F H w:=VS.region (jX _ _) (VO.run 80 e h)
theorem cxP_d {ad:List Nat} {hd:ad.Nodup} {ha:kF KP ad w1} (e:kD (Kg Tryz.prog w1 N ad hd ha) ops 80 ops.toList F H=(l',F',H')) (h:ak (Kg Tryz.prog w1 N ad hd ha) (some []) ops l' (VS (Kg Tryz.prog w1 N ad hd ha) Q k) F' H' w) (kA:jg (Kg Tryz.prog w1 N ad hd ha).SU [] ops=true:=by kernel_rfl):VS (Kg Tryz.prog w1 N ad hd ha) Q (.code (.region id ops true)::k) F H w:=VS.draw (jX _ _) (GP _ _) [] kA (VO.run 80 e h)
end
structure LedR (kk:Nat) (w:World) (g r n c:Nat) (vs:List (List Value)) (spare:List Value) (l:List bS):Prop where
 len:n=l.length
 ne:g≠r
 led:aW w g 175 #[.slice (some ⟨r,0,none⟩) n c]
 row:aW w r 177 (vs.flatten++spare).toArray
 el:fO (nd kk) w l vs
 ok:spare.all aL=true
 le:n<=c
 cm:c<=9223372036854775807
 fl:(vs.flatten++spare).length=c*6
def LedAt (kk:Nat) (w:World) (B g:Nat) (l:List bS):Prop:=
 (l=[]/\aW w g 175 #[.slice none 0 0])\/∃ r n c vs spare,B<=r/\LedR kk w g r n c vs spare l
theorem Kh (w:World):Calls Tryz.prog 34 #[] w λo w'=>∃ g,o=.returned (.pointer (some ⟨g,0,none⟩))/\w.heap.size<=g/\aW w' g 175 #[.slice none 0 0]/\aw w w':=by
 refine ae (C:=aX Tryz.prog w _) (args:=[]) Tryz.func34 rfl Tryz.ntmps34 (bG rfl) ?_
 refine ab ?_
 refine VS.oH (cP _ _) rfl (λwz β kz bz en=> ?_)
 exact⟨_,rfl,(en.own 2 _ _ rfl).new,(en.own 2 _ _ rfl).cls,bz⟩
end
section
open Go.RowKit
attribute [local irreducible] ak VS
def gh (l:List bS) (e:bS):List bS:=if cz e.exp=true then l else if e.exp.2.2.2=0 then l else l++[e]
def Left (w:World) (r:Nat):Prop:=∃ (t:TypeId) (cs:List Value),aW w r t cs.toArray/\KP.fz t=false/\cs.all aL=true
theorem gn {P Q:Prop} (h:Q) (i:Q->P:=by intro h;(repeat first|refine wN ?_|refine wP rfl ?_|refine cxP_r rfl ?_|refine cxP_d rfl ?_|refine wO rfl rfl ?_);exact h):P:=i h
theorem cTcxP {P Q X:Prop} (hb:X) (h:Q) (i:X->Q->P:=by intro hb h;refine⟨_,rfl,hb,λa b c=>wV rfl ?_⟩;refine gn ?_;revert a b c;exact h):P:=i hb h
set_option maxRecDepth 4000 in
theorem Ki (g r n c:Nat) (vs:List (List Value)) (spare:List Value) (l:List bS) (v:Value) (y m:Int) (s:Bool) (xs:List Nat) (t:Bool) (ys:List Nat) (kk:Nat) (w:World)
  (hL:LedR kk w g r n c vs spare l) (hv:bW w v s xs t ys) (hy:nQ y) (hm:nQ m) (BV:xs.length<=kk) (yJ:ys.length<=kk) (hk:kk<=1024) (hn64:n<=1000):
  Calls Tryz.prog 36 #[.pointer (some ⟨g,0,none⟩),.int .i64 y,.int .i64 m,v] w λo w'=>o=.returned (.int .i64 (if cz (bS.exp (y,m,s,xs,t,ys))=true then 2 else 0))/\yz [g,r] w w'/\Left w' r/\
   ∃ r' n' c' Gx aE,(w.heap.size<=r'\/r'=r)/\LedR kk w' g r' n' c' Gx aE (gh l (y,m,s,xs,t,ys)):=by
 obtain⟨vu,yS,hg,hr,kE,hsp,dW,eJ,hlen⟩:=hL
 obtain⟨e,Kj⟩:∃ e:bS,e=(y,m,s,xs,t,ys):=⟨_,rfl⟩
 rw[<-Kj]
 have kW:=hv.in BV yJ
 have fM:=hv
 obtain⟨p,cp,q,cq,rfl,-⟩:=hv.xe
 have hE0:nd kk w [.int .i64 y,.int .i64 m,.bool s,.slice p xs.length cp,.bool t,.slice q ys.length cq] e:=by rw[Kj];exact⟨_,_,_,_,rfl,hy,hm,fM,BV,yJ⟩
 have hq:e.exp.2.2.2=rq s xs t ys:=by rw[Kj];rfl
 obtain⟨hok1,hln1⟩:=kE.ok (iw kk)
 have Db:(vs.flatten.map AV.val++spare.map AV.val).all aB=true:=by rw[<-List.map_append];exact cV (by rw[List.all_append,hok1,hsp];rfl)
 have hsl:Bv KP 51 [g,r] [(175,[.row 103 0 n c]),(177,vs.flatten.map .val++spare.map .val)] w:=by
  refine⟨rfl,by simp[yS],λj g' c' hj hc=> ?_,λc' hc=> ?_,λc' hc k hk=> ?_⟩
  ·match j,hj,hc with
   | 0,hj,hc=>cases hj;cases hc;exact hg
   | 1,hj,hc=>cases hj;cases hc;rw[<-List.map_append,aN];exact hr
   | j+2,hj,_=>simp at hj
  ·rcases List.mem_cons.1 hc with rfl|hc
   ·exact⟨rfl,rfl⟩
   ·cases List.mem_singleton.1 hc
    exact⟨rfl,Db⟩
  ·rcases List.mem_cons.1 hc with rfl|hc
   ·have:k=103:=by simpa [aF,AV.dL] using hk
    subst this;exact⟨by omega,by show 103<2*51+2;omega⟩
   ·cases List.mem_singleton.1 hc
    rw[<-List.map_append,ah] at hk;cases hk
 refine sc Tryz.prog w _ KP (λt=>Nat.beq t 30) table (λ_ _=>trivial) (ad:=[g,r]) (us:=[_,_,_]) Tryz.func36 rfl Tryz.ntmps36 (bG rfl) hsl (bG rfl) ?_
 refine gn ?_
 cases hw:cz e.exp with
 | true=>
   have hp:gh l e=l:=if_pos hw
   refine VO.cB rfl rfl (fk Tryz.func81) (λaO bE ba=>eP _ e kk aO ⟨_,rfl,hE0.kp bE⟩ aa 2 (by rw[hw];rfl)) (λaO bE ba w1 aD cj _ bb1=>wV rfl ?_)
   refine gn ?_
   refine VO.cB rfl rfl (fk Tryz.func81) (λbk bX bF=>eP _ e kk bk ⟨_,rfl,hE0.kp (cj.ax bX)⟩ aa 2 (by rw[hw];rfl)) (λbk bX bF w2 aP da _ bb2=>wV rfl ?_)
   refine gn ?_
   refine VS.oH (jX _ _) rfl (λwz β kz oz en=> ?_)
   rw[hp]
   obtain⟨o1,o2⟩:=Bw (en.own 102 _ _ rfl) 0 g rfl rfl
   obtain⟨o3,o4⟩:=Bw (en.own 103 _ _ rfl) 1 r rfl rfl
   rw[List.map_append,aN,aN] at o4
   refine⟨rfl,oz.1,oz.2 r cS,r,n,c,vs,spare,.inr rfl,vu,yS,?_,o4,kE.kp (iw kk) (Kp.of (U:=UU) (aw.refl _) |>.ax ?_),hsp,dW,eJ,hlen⟩
   ·have:β 103=r:=o3
    rw[<-this];exact o2
   ·exact ((cj.ax da).ax kz).jU
 | false=>
   have hn65:((n:Int) == 65536)=false:=by rw[beq_eq_false_iff_ne];omega
   refine VO.cB rfl rfl (fk Tryz.func81) (λaO bE ba=>eP _ e kk aO ⟨_,rfl,hE0.kp bE⟩ aa 0 (by rw[hw];rfl)) (λaO bE ba w1 aD cj _ bb1=>wV rfl ?_)
   refine gn ?_
   refine VS.bo rfl hn65 ?_
   refine gn ?_
   by_cases yw:rq s xs t ys=0
   ·have hp:gh l e=l:=by unfold gh;rw[hw,if_neg cS,if_pos (hq.trans yw)]
    refine VO.cB rfl rfl (fk Tryz.func82) (λbk bX bF=>lN _ (rq s xs t ys) kk bk (kW.kp (cj.ax bX)) aa 0 (uS yw)) (λbk bX bF w2 aP da _ bb2=>wV rfl ?_)
    refine gn ?_
    refine VS.oH (jX _ _) rfl (λwz β kz oz en=> ?_)
    rw[hp]
    obtain⟨o1,o2⟩:=Bw (en.own 102 _ _ rfl) 0 g rfl rfl
    obtain⟨o3,o4⟩:=Bw (en.own 103 _ _ rfl) 1 r rfl rfl
    rw[List.map_append,aN,aN] at o4
    refine⟨rfl,oz.1,oz.2 r cS,r,n,c,vs,spare,.inr rfl,vu,yS,?_,o4,kE.kp (iw kk) ((cj.ax da).ax kz).jU,hsp,dW,eJ,hlen⟩
    have:β 103=r:=o3
    rw[<-this];exact o2
   ·have hp:gh l e=l++[e]:=by unfold gh;rw[hw,if_neg cS,if_neg (λh=>yw (hq.symm.trans h))]
    obtain⟨sg,tc⟩:∃ sg,jw (rq s xs t ys) 0=sg:=⟨_,rfl⟩
    have hsg0:sg≠0:=by rw[<-tc];exact EN yw
    refine VO.cB rfl rfl (fk Tryz.func82) (λbk bX bF=>lN _ (rq s xs t ys) kk bk (kW.kp (cj.ax bX)) aa sg tc) (λbk bX bF w2 aP da _ bb2=>wV rfl ?_)
    refine gn ?_
    refine VS.bg rfl (by simp[hsg0]) ?_
    refine gn ?_
    refine VO.ia rfl (fk Tryz.func43) (λcX β dh dS ho=>(jq _ [rq s xs t ys] kk cX (iW (ho.own 36 (.base (List.mem_singleton.2 rfl)) _ _ rfl) [] (vs:=[[.bool s,.slice p xs.length cp,.bool t,.slice q ys.length cq]]) (by rfl) rfl (ea.cons (kW.kp ((cj.ax da).ax dh)) ea.nil) (bG rfl) fq) (by unfold bJ bV;simp;omega)).mono ?_)
    rintro o w3 ⟨r3,rfl,q3,hs3,cw⟩
    rw[kP] at q3
    have uZ:=q3.rd.raw
    have hrt:sJ s xs t ys=true:=by have:=(gM hw).2.2.2.2;rw[Kj] at this;exact this
    obtain⟨jA,jR,hr3,hr4⟩:=Bt hrt fM.lims.1 fM.lims.2
    rw[jA,jR,hr3,hr4] at uZ
    obtain⟨p4,c4,y4,d4,rfl,-⟩:=uZ.xe
    refine cTcxP cw ?_
    intro fi _ bb3
    have hE3:nd kk w3 [.int .i64 y,.int .i64 m,.bool s,.slice p4 xs.length c4,.bool t,.slice y4 ys.length d4] e:=by rw[Kj];exact⟨_,_,_,_,rfl,hy,hm,uZ,BV,yJ⟩
    refine VO.app (jX _ _) (t:=171) (e:=177) (sz:=6) (n:=n) (c:=c) (mm:=1) (known:=vs.flatten.map .val) (spare:=spare.map .val) (del:=some 103) (news:=([.int .i64 y,.int .i64 m,.bool s,.slice p4 xs.length c4,.bool t,.slice y4 ys.length d4]:List Value).map .val) (dst:=47) rfl rfl rfl rfl rfl rfl rfl rfl (bG rfl) rfl (.inr ⟨103,rfl,rfl,rfl⟩) (.inl rfl) (by rw[List.length_map,hln1,vu]) (by rw[<-List.map_append,List.length_map];exact hlen) dW eJ ⟨ah _,ah _,rfl⟩ ⟨cV hok1,cV hsp,rfl⟩ rfl aa
     (λw1 β k1 b1 ho=>⟨_,_,rfl,.inr ⟨β 46,0,rfl,eX (rest:=[]) (ho.own 46 (.base (List.mem_append_right _ (List.mem_singleton.2 rfl))) _ _ rfl) rfl⟩⟩)
     (λw13 cap' aE ρ k13 b13 ff mo mV Kk hok' hlid'=>wV rfl ?_)
    refine gn ?_
    refine VS.oH (jX _ _) rfl (λwz β kz oz en=> ?_)
    rw[hp]
    obtain⟨o1,o2⟩:=Bw (en.own 102 _ _ rfl) 0 g rfl rfl
    have o3:=en.own 47 _ _ rfl
    have o5:β 47≠g:=λe=>absurd (en.apart 102 47 (by intro h;cases h) (by intro h;cases h) (o1.trans e.symm)) fq
    have o6:w.heap.size<=β 47\/β 47=r:=by
     have:=lG (show iG 51 [g,r] w 47 (β 47) from o3.new)
     simpa [o5] using this
    have o7:=o3.cls
    rw[List.map_append,List.map_append,aN,aN] at o7
    refine⟨rfl,oz.1,oz.2 r cS,β 47,n+1,cap',vs++[[.int .i64 y,.int .i64 m,.bool s,.slice p4 xs.length c4,.bool t,.slice y4 ys.length d4]],aE.map (AV.leaf β),o6,by simp[vu],λe=>o5 e.symm,o2,?_,?_,dT hok',mo,mV,?_⟩
    ·rw[List.flatten_append];exact o7
    ·exact (kE.kp (iw kk) ((cj.ax da).ax (fi.ax (k13.ax kz))).jU).snoc (hE3.kp (k13.ax kz).jU)
    ·have:=Kk
     simp only[List.length_append,List.length_map,List.length_cons,List.length_nil,List.flatten_append,List.flatten_cons,List.flatten_nil,List.append_nil] at this ⊢
     omega
end
section
open Go.RowKit
attribute [local irreducible] ak VS
set_option maxRecDepth 4000 in
theorem Kl (g:Nat) (v:Value) (y m:Int) (s:Bool) (xs:List Nat) (t:Bool) (ys:List Nat) (kk:Nat) (w:World)
  (hg:aW w g 175 #[.slice none 0 0]) (hv:bW w v s xs t ys) (hy:nQ y) (hm:nQ m) (BV:xs.length<=kk) (yJ:ys.length<=kk) (hk:kk<=1024):
  Calls Tryz.prog 36 #[.pointer (some ⟨g,0,none⟩),.int .i64 y,.int .i64 m,v] w λo w'=>o=.returned (.int .i64 (if cz (bS.exp (y,m,s,xs,t,ys))=true then 2 else 0))/\yz [g] w w'/\LedAt kk w' w.heap.size g (gh [] (y,m,s,xs,t,ys))/\(gh [] (y,m,s,xs,t,ys)=[]->aW w' g 175 #[.slice none 0 0]):=by
 obtain⟨e,Kj⟩:∃ e:bS,e=(y,m,s,xs,t,ys):=⟨_,rfl⟩
 rw[<-Kj]
 have kW:=hv.in BV yJ
 have fM:=hv
 obtain⟨p,cp,q,cq,rfl,-⟩:=hv.xe
 have hE0:nd kk w [.int .i64 y,.int .i64 m,.bool s,.slice p xs.length cp,.bool t,.slice q ys.length cq] e:=by rw[Kj];exact⟨_,_,_,_,rfl,hy,hm,fM,BV,yJ⟩
 have hq:e.exp.2.2.2=rq s xs t ys:=by rw[Kj];rfl
 have hsl:Bv KP 51 [g] [(175,[.val (.slice none 0 0)])] w:=by
  refine⟨rfl,by simp,λj g' c' hj hc=> ?_,λc' hc=> ?_,λc' hc k hk=> ?_⟩
  ·match j,hj,hc with
   | 0,hj,hc=>cases hj;cases hc;exact hg
   | j+1,hj,_=>simp at hj
  ·cases List.mem_singleton.1 hc;exact⟨rfl,rfl⟩
  ·cases List.mem_singleton.1 hc;cases hk
 refine sc Tryz.prog w _ KP (λt=>Nat.beq t 30) table (λ_ _=>trivial) (ad:=[g]) (us:=[_,_,_]) Tryz.func36 rfl Tryz.ntmps36 (bG rfl) hsl (bG rfl) ?_
 refine gn ?_
 cases hw:cz e.exp with
 | true=>
   have hp:gh [] e=[]:=if_pos hw
   refine VO.cB rfl rfl (fk Tryz.func81) (λaO bE ba=>eP _ e kk aO ⟨_,rfl,hE0.kp bE⟩ aa 2 (by rw[hw];rfl)) (λaO bE ba w1 aD cj _ bb1=>wV rfl ?_)
   refine gn ?_
   refine VO.cB rfl rfl (fk Tryz.func81) (λbk bX bF=>eP _ e kk bk ⟨_,rfl,hE0.kp (cj.ax bX)⟩ aa 2 (by rw[hw];rfl)) (λbk bX bF w2 aP da _ bb2=>wV rfl ?_)
   refine gn ?_
   refine VS.oH (jX _ _) rfl (λwz β kz oz en=> ?_)
   rw[hp]
   obtain⟨o1,o2⟩:=Bw (en.own 102 _ _ rfl) 0 g rfl rfl
   exact⟨rfl,oz.1,.inl ⟨rfl,o2⟩,λ_=>o2⟩
 | false=>
   refine VO.cB rfl rfl (fk Tryz.func81) (λaO bE ba=>eP _ e kk aO ⟨_,rfl,hE0.kp bE⟩ aa 0 (by rw[hw];rfl)) (λaO bE ba w1 aD cj _ bb1=>wV rfl ?_)
   refine gn ?_
   by_cases yw:rq s xs t ys=0
   ·have hp:gh [] e=[]:=by unfold gh;rw[hw,if_neg cS,if_pos (hq.trans yw)]
    refine VO.cB rfl rfl (fk Tryz.func82) (λbk bX bF=>lN _ (rq s xs t ys) kk bk (kW.kp (cj.ax bX)) aa 0 (uS yw)) (λbk bX bF w2 aP da _ bb2=>wV rfl ?_)
    refine gn ?_
    refine VS.oH (jX _ _) rfl (λwz β kz oz en=> ?_)
    rw[hp]
    obtain⟨o1,o2⟩:=Bw (en.own 102 _ _ rfl) 0 g rfl rfl
    exact⟨rfl,oz.1,.inl ⟨rfl,o2⟩,λ_=>o2⟩
   ·have hp:gh [] e=[e]:=by unfold gh;rw[hw,if_neg cS,if_neg (λh=>yw (hq.symm.trans h))];rfl
    obtain⟨sg,tc⟩:∃ sg,jw (rq s xs t ys) 0=sg:=⟨_,rfl⟩
    have hsg0:sg≠0:=by rw[<-tc];exact EN yw
    refine VO.cB rfl rfl (fk Tryz.func82) (λbk bX bF=>lN _ (rq s xs t ys) kk bk (kW.kp (cj.ax bX)) aa sg tc) (λbk bX bF w2 aP da _ bb2=>wV rfl ?_)
    refine gn ?_
    refine VS.bg rfl (by simp[hsg0]) ?_
    refine gn ?_
    refine VO.ia rfl (fk Tryz.func43) (λcX β dh dS ho=>(jq _ [rq s xs t ys] kk cX (iW (ho.own 36 (.base (List.mem_singleton.2 rfl)) _ _ rfl) [] (vs:=[[.bool s,.slice p xs.length cp,.bool t,.slice q ys.length cq]]) (by rfl) rfl (ea.cons (kW.kp ((cj.ax da).ax dh)) ea.nil) (bG rfl) fq) (by unfold bJ bV;simp;omega)).mono ?_)
    rintro o w3 ⟨r3,rfl,q3,hs3,cw⟩
    rw[kP] at q3
    have uZ:=q3.rd.raw
    have hrt:sJ s xs t ys=true:=by have:=(gM hw).2.2.2.2;rw[Kj] at this;exact this
    obtain⟨jA,jR,hr3,hr4⟩:=Bt hrt fM.lims.1 fM.lims.2
    rw[jA,jR,hr3,hr4] at uZ
    obtain⟨p4,c4,y4,d4,rfl,-⟩:=uZ.xe
    refine cTcxP cw ?_
    intro fi _ bb3
    have hE3:nd kk w3 [.int .i64 y,.int .i64 m,.bool s,.slice p4 xs.length c4,.bool t,.slice y4 ys.length d4] e:=by rw[Kj];exact⟨_,_,_,_,rfl,hy,hm,uZ,BV,yJ⟩
    refine VO.app (jX _ _) (t:=171) (e:=177) (sz:=6) (n:=0) (c:=0) (mm:=1) (known:=[]) (spare:=[]) (del:=none) (news:=([.int .i64 y,.int .i64 m,.bool s,.slice p4 xs.length c4,.bool t,.slice y4 ys.length d4]:List Value).map .val) (dst:=47) rfl rfl rfl rfl rfl rfl rfl rfl (bG rfl) rfl (.inl ⟨rfl,rfl,rfl,rfl,rfl,rfl,by omega⟩) (.inl rfl) rfl rfl (Nat.le_refl _) aa ⟨rfl,rfl,rfl⟩ ⟨rfl,rfl,rfl⟩ rfl aa
     (λw1 β k1 b1 ho=>⟨_,_,rfl,.inr ⟨β 46,0,rfl,eX (rest:=[]) (ho.own 46 (.base (List.mem_append_right _ (List.mem_singleton.2 rfl))) _ _ rfl) rfl⟩⟩)
     (λw13 cap' aE ρ k13 b13 ff mo mV Kk hok' hlid'=>wV rfl ?_)
    refine gn ?_
    refine VS.oH (jX _ _) rfl (λwz β kz oz en=> ?_)
    rw[hp]
    obtain⟨o1,o2⟩:=Bw (en.own 102 _ _ rfl) 0 g rfl rfl
    have o3:=en.own 47 _ _ rfl
    have o5:β 47≠g:=λe=>absurd (en.apart 102 47 (by intro h;cases h) (by intro h;cases h) (o1.trans e.symm)) fq
    have o6:w.heap.size<=β 47:=by
     have:=lG (show iG 51 [g] w 47 (β 47) from o3.new)
     simpa [o5] using this
    have o7:=o3.cls
    rw[List.map_append,List.map_append,aN] at o7
    refine⟨rfl,oz.1,.inr ⟨β 47,1,cap',[[.int .i64 y,.int .i64 m,.bool s,.slice p4 xs.length c4,.bool t,.slice y4 ys.length d4]],aE.map (AV.leaf β),o6,rfl,λe=>o5 e.symm,o2,?_,?_,dT hok',by omega,mV,?_⟩,λh=>by cases h⟩
    ·exact o7
    ·exact .cons (hE3.kp (k13.ax kz).jU) .nil
    ·have:=Kk
     simp only[List.length_append,List.length_map,List.length_cons,List.length_nil,List.flatten_cons,List.flatten_nil,List.append_nil] at this ⊢
     omega
end
section
open Go.RowKit
section
variable {C:Cx} {F:Fr} {H:Hp} {w:World} {m:Option (List FuncId)} {full:Array Oper} {K:Fr->Hp->World->Prop} {o:Oper} {r:List Oper}
theorem VO.callB {d:fK} {dst:Nat} {t:TypeId} {cs:List Value} (e:stepOf C full F H o=.call d) (hd:o.dst=some dst) (h0:H dst=none) (hN:dst<C.N) (hl:1<=lvl C.SU m o) (ht:C.K.fz t=false) (hc:cs.all aL=true)
  (h:∀ w1 β,aR C.K w w1->C.Old w1->gW C β H d.ids w1->qy C.P d β w1 λe w2=>∃ g,e=.returned (.pointer (some ⟨g,0,none⟩))/\aw w1 w2/\w1.heap.size<=g/\aW w2 g t cs.toArray/\
   (aR C.K w w2->aR C.K w1 w2->C.Old w2->ak C m full r K (F.bl o.dst (.box dst 0)) (H.put dst (t,cs.map .val)) w2)):ak C m full (o::r) K F H w:=by
 show one C m full o (ak C m full r K) F H w
 unfold one
 rw[e]
 refine λw1 β h1 h2 h3=>(h w1 β h1 h2 h3).mono ?_
 rintro e w2 ⟨g,rfl,hb,q1,q2,k2⟩
 let cf:Nat->Nat:=λi=>if i=dst then g else β i
 have pO:cf dst=g:=if_pos rfl
 refine⟨cf,.box dst 0,none,[(dst,(t,cs.map AV.val))],?_,λi hi=>.inl (by simpa [AV.ids] using hi),.inl hl,.inr rfl,?_,λa1 a2 a3 _ _=>k2 a1 a2 a3⟩
 ·show Ending.returned _=.returned (Value.pointer (some ⟨cf dst,0,none⟩));rw[pO]
 ·refine⟨hb.os,hb.tape,hb.output,hb.size,λk hk _ _ _=>Below.block hb k hk,λi hi=>if_neg (by simpa using hi),λi hi=>(by cases hi),λi hi=>(by cases hi),λx hx=> ?_,λx hx=> ?_,by simp,λx hx y hy _=> ?_,λx hx j hj=> ?_⟩
  ·cases List.mem_singleton.1 hx
   refine⟨by rw[pO];exact C.rL _ _ aa (by have:=C.gR _ h2;omega),ht,?_,cV hc⟩
   rw[pO,aN];exact q2
  ·cases List.mem_singleton.1 hx
   exact .inr ⟨.inl h0,by omega,.inl (by rw[pO];exact q1)⟩
  ·cases List.mem_singleton.1 hx;cases List.mem_singleton.1 hy;rfl
  ·cases List.mem_singleton.1 hx
   rw[ah] at hj;cases hj
theorem qf (i o n c:Nat):aF [AV.row i o n c]=[i]:=rfl
theorem VO.Km {d1 d2:Nat} {v:Value} {y z:Int} {s:Bool} {xs:List Nat} {t:Bool} {ys:List Nat} (kk:Nat) {code:Int} {l':List bS} (xn:(if cz (bS.exp (y,z,s,xs,t,ys))=true then (2:Int) else 0)=code) (Cj:gh [] (y,z,s,xs,t,ys)=l') (hP:C.P=Tryz.prog) (e:stepOf C full F H o=.call (.fn 36 [.box d1 0,.val (.int .i64 y),.val (.int .i64 z),.val v])) (hf:jc C.P 36)
  (h1:H d1=some (175,[.val (.slice none 0 0)])) (h2:H d2=none) (hne:d1≠d2) (hd2:d2<2*C.N) (hl:1<=lvl C.SU m o) (ht2:C.K.fz 177=false)
  (hv:∀ w1,aR C.K w w1->C.Old w1->bW w1 v s xs t ys) (hy:nQ y) (hz:nQ z) (BV:xs.length<=kk) (yJ:ys.length<=kk) (hk:kk<=1024)
  (k1:∀ w2,aR C.K w w2->C.Old w2->l'=[]->ak C m full r K (F.bl o.dst (.val (.int .i64 code))) (H.put d1 (175,[.val (.slice none 0 0)])) w2)
  (k2:∀ w2 n c vs spare,aR C.K w w2->C.Old w2->l'≠[]->n=l'.length->fO (nd kk) w2 l' vs->spare.all aL=true->n<=c->c<=9223372036854775807->(vs.flatten++spare).length=c*6->
   ak C m full r K (F.bl o.dst (.val (.int .i64 code))) ((H.put d1 (175,[.row d2 0 n c])).put d2 (177,vs.flatten.map .val++spare.map .val)) w2):ak C m full (o::r) K F H w:=by
 subst xn Cj
 show one C m full o (ak C m full r K) F H w
 unfold one
 rw[e]
 intro w1 β a1 a2 a3
 have jA:Reach H (fK.fn 36 [.box d1 0,.val (.int .i64 y),.val (.int .i64 z),.val v]).ids d1:=.base (by simp[fK.ids,eG,AV.ids])
 have o1:=a3.own d1 jA _ _ h1
 refine⟨hf,(Calls.mono (show Calls C.P 36 #[.pointer (some ⟨β d1,0,none⟩),.int .i64 y,.int .i64 z,v] w1 _ from hP▸Kl (β d1) v y z s xs t ys kk w1 o1.cls (hv w1 a1 a2) hy hz BV yJ hk) ?_)⟩
 rintro e w2 ⟨rfl,hb,Kn,hcn⟩
 by_cases eV:gh [] (y,z,s,xs,t,ys)=[]
 ·have hc:=hcn eV
  refine⟨β,.val _,none,[(d1,(175,[.val (.slice none 0 0)]))],rfl,λi hi=>(by cases hi),.inl hl,.inr rfl,?_,λa b c _ _=>k1 w2 a c eV⟩
  refine⟨hb.os,hb.tape,hb.output,hb.size,λk hk hx _ _=>hb.nX k hk (by simpa using hx),λ_ _=>rfl,λi hi=>(by cases hi),λi hi=>(by cases hi),λx hx=> ?_,λx hx=> ?_,by simp,λx hx y hy _=> ?_,λx hx j hj=> ?_⟩
  ·cases List.mem_singleton.1 hx
   exact⟨o1.new,o1.ty,hc,rfl⟩
  ·cases List.mem_singleton.1 hx
   exact .inl ⟨by rw[h1];simp,by simp,jA,rfl⟩
  ·cases List.mem_singleton.1 hx;cases List.mem_singleton.1 hy;rfl
  ·cases List.mem_singleton.1 hx
   cases hj
 ·obtain⟨r',n,c,vs,spare,hB,hL⟩:=Kn.resolve_left (λh=>eV h.1)
  let cf:Nat->Nat:=λi=>if i=d2 then r' else β i
  have aP:cf d2=r':=if_pos rfl
  have aD:cf d1=β d1:=if_neg hne
  have nP:vs.flatten.map AV.val++spare.map AV.val=(vs.flatten++spare).map AV.val:=by rw[List.map_append]
  have iu:(vs.flatten.map AV.val++spare.map AV.val).all aB=true:=by rw[nP];exact cV (by rw[List.all_append,(hL.el.ok (iw kk)).1,hL.ok];rfl)
  refine⟨cf,.val _,none,[(d1,(175,[.row d2 0 n c])),(d2,(177,vs.flatten.map AV.val++spare.map AV.val))],rfl,λi hi=>(by cases hi),.inl hl,.inr rfl,?_,λa _ b _ _=>k2 w2 n c vs spare a b eV hL.len hL.el hL.ok hL.le hL.cm hL.fl⟩
  refine⟨hb.os,hb.tape,hb.output,hb.size,λk hk hx _ _=>hb.nX k hk ?_,λi hi=>if_neg ?_,λi hi=>(by cases hi),λi hi=>(by cases hi),λx hx=> ?_,λx hx=> ?_,by simpa using hne,λx hx y hy he=> ?_,λx hx j hj=> ?_⟩
  ·have:=hx (d1,(175,[.row d2 0 n c])) cS
   simpa [aD] using this
  ·intro h;exact hi (by simp[h])
  ·rcases List.mem_cons.1 hx with rfl|hx
   ·refine⟨?_,o1.ty,?_,rfl⟩
    ·show C.tZ d1 (cf d1);rw[aD];exact o1.new
    ·show aW w2 (cf d1) _ (#[.slice (some ⟨cf d2,0,none⟩) n c])
     rw[aD,aP];exact hL.led
   ·cases List.mem_singleton.1 hx
    refine⟨by rw[aP];exact C.rL _ _ hd2 (by have:=C.gR _ a2;omega),ht2,?_,iu⟩
    rw[aP,nP,aN];exact hL.row
  ·rcases List.mem_cons.1 hx with rfl|hx
   ·exact .inl ⟨by rw[h1];simp,by simp,jA,aD⟩
   ·cases List.mem_singleton.1 hx
    exact .inr ⟨.inl h2,hd2,.inl (by rw[aP];exact hB)⟩
  ·have Fq:=hL.ne
   rcases List.mem_cons.1 hx with rfl|hx <;> rcases List.mem_cons.1 hy with rfl|hy
   ·rfl
   ·cases List.mem_singleton.1 hy
    exact absurd (aD.symm.trans (he.trans aP)) Fq
   ·cases List.mem_singleton.1 hx
    exact absurd (aD.symm.trans (he.symm.trans aP)) Fq
   ·cases List.mem_singleton.1 hx;cases List.mem_singleton.1 hy;rfl
  ·rcases List.mem_cons.1 hx with rfl|hx
   ·rw[qf] at hj
    cases List.mem_singleton.1 hj
    exact .inl cS
   ·cases List.mem_singleton.1 hx
    rw[nP,ah] at hj;cases hj
theorem VO.Ko {d1 d2 n c:Nat} {vs:List (List Value)} {spare:List Value} {l:List bS} {v:Value} {y z:Int} {s:Bool} {xs:List Nat} {t:Bool} {ys:List Nat} (kk:Nat) {code:Int} {l':List bS} (xn:(if cz (bS.exp (y,z,s,xs,t,ys))=true then (2:Int) else 0)=code) (Cj:gh l (y,z,s,xs,t,ys)=l') (hP:C.P=Tryz.prog) (e:stepOf C full F H o=.call (.fn 36 [.box d1 0,.val (.int .i64 y),.val (.int .i64 z),.val v])) (hf:jc C.P 36)
  (h1:H d1=some (175,[.row d2 0 n c])) (h2:H d2=some (177,vs.flatten.map .val++spare.map .val)) (hne:d1≠d2) (hd2:d2<2*C.N) (hl:2<=lvl C.SU m o)
  (hn:n=l.length) (kE:fO (nd kk) w l vs) (hsp:spare.all aL=true) (dW:n<=c) (eJ:c<=9223372036854775807) (yy:(vs.flatten++spare).length=c*6)
  (hU:∀ w1,aR C.K w w1->Kp UU w w1) (hT:∀ t,KP.fz t=false->C.K.fz t=false)
  (hv:∀ w1,aR C.K w w1->C.Old w1->bW w1 v s xs t ys) (hy:nQ y) (hz:nQ z) (BV:xs.length<=kk) (yJ:ys.length<=kk) (hk:kk<=1024) (hn64:n<=1000)
  (k2:∀ w2 n' c' Gx aE ρ,aR C.K w w2->C.Old w2->(∀ x,aL (ρ x)=true)->n'=l'.length->fO (nd kk) w2 l' Gx->aE.all aL=true->n'<=c'->c'<=9223372036854775807->(Gx.flatten++aE).length=c' *6->
   ak C m full r K ((F.forget (some d2) ρ).bl o.dst (.val (.int .i64 code))) (((H.forget (some d2) ρ).put d1 (175,[.row d2 0 n' c'])).put d2 (177,Gx.flatten.map .val++aE.map .val)) w2):ak C m full (o::r) K F H w:=by
 subst xn Cj
 show one C m full o (ak C m full r K) F H w
 unfold one
 rw[e]
 intro w1 β a1 a2 a3
 have jA:Reach H (fK.fn 36 [.box d1 0,.val (.int .i64 y),.val (.int .i64 z),.val v]).ids d1:=.base (by simp[fK.ids,eG,AV.ids])
 have jR:Reach H (fK.fn 36 [.box d1 0,.val (.int .i64 y),.val (.int .i64 z),.val v]).ids d2:=.step jA h1 (by rw[qf];simp)
 have o1:=a3.own d1 jA _ _ h1
 have o2:=a3.own d2 jR _ _ h2
 have hmap0:∀ (vs:List (List Value)) (spare:List Value),vs.flatten.map AV.val++spare.map AV.val=(vs.flatten++spare).map AV.val:=λvs spare=>by rw[List.map_append]
 have hapart:β d1≠β d2:=λhe=>hne (a3.apart d1 d2 jA jR (by rw[h1];simp) (by rw[h2];simp) he)
 have hL0:LedR kk w1 (β d1) (β d2) n c vs spare l:=⟨hn,hapart,o1.cls,by have:=o2.cls;rw[hmap0,aN] at this;exact this,kE.kp (iw kk) (hU w1 a1),hsp,dW,eJ,yy⟩
 refine⟨hf,(Calls.mono (show Calls C.P 36 #[.pointer (some ⟨β d1,0,none⟩),.int .i64 y,.int .i64 z,v] w1 _ from hP▸Ki (β d1) (β d2) n c vs spare l v y z s xs t ys kk w1 hL0 (hv w1 a1 a2) hy hz BV yJ hk hn64) ?_)⟩
 rintro e w2 ⟨rfl,hb,wi,r',n',c',Gx,aE,hB,hL⟩
 let cf:Nat->Nat:=λi=>if i=d2 then r' else β i
 have aP:cf d2=r':=if_pos rfl
 have aD:cf d1=β d1:=if_neg hne
 have nP:=hmap0 Gx aE
 have iu:(Gx.flatten.map AV.val++aE.map AV.val).all aB=true:=by rw[nP];exact cV (by rw[List.all_append,(hL.el.ok (iw kk)).1,hL.ok];rfl)
 refine⟨cf,.val _,some d2,[(d1,(175,[.row d2 0 n' c'])),(d2,(177,Gx.flatten.map AV.val++aE.map AV.val))],rfl,λi hi=>(by cases hi),.inl aa,.inl hl,?_,λa _ b ρ ff=>k2 w2 n' c' Gx aE ρ a b ff hL.len hL.el hL.ok hL.le hL.cm hL.fl⟩
 refine⟨hb.os,hb.tape,hb.output,hb.size,λk hk hx yJ _=>hb.nX k hk ?_,λi hi=>if_neg ?_,λi hi=> ?_,λi hi=> ?_,λx hx=> ?_,λx hx=> ?_,by simpa using hne,λx hx y hy he=> ?_,λx hx j hj=> ?_⟩
 ·have e1:=hx (d1,(175,[.row d2 0 n' c'])) cS
  have e2:=yJ d2 rfl
  rw[aD] at e1
  simp[e1,e2]
 ·intro h;exact hi (by simp[h])
 ·cases hi;exact⟨jR,by rw[h2];simp⟩
 ·cases hi
  obtain⟨t,cs,q1,q2,q3⟩:=wi
  exact .inl (.inr ⟨t,cs,q1,hT t q2,q3⟩)
 ·rcases List.mem_cons.1 hx with rfl|hx
  ·refine⟨?_,o1.ty,?_,rfl⟩
   ·show C.tZ d1 (cf d1);rw[aD];exact o1.new
   ·show aW w2 (cf d1) _ (#[.slice (some ⟨cf d2,0,none⟩) n' c'])
    rw[aD,aP];exact hL.led
  ·cases List.mem_singleton.1 hx
   refine⟨?_,o2.ty,?_,iu⟩
   ·rw[aP]
    rcases hB with hB|hB
    ·exact C.rL _ _ hd2 (by have:=C.gR _ a2;omega)
    ·rw[hB];exact o2.new
   ·rw[aP,nP,aN];exact hL.row
 ·rcases List.mem_cons.1 hx with rfl|hx
  ·exact .inl ⟨by rw[h1];simp,by simp[hne.symm],jA,aD⟩
  ·cases List.mem_singleton.1 hx
   refine .inr ⟨.inr rfl,hd2,?_⟩
   rcases hB with hB|hB
   ·exact .inl (by rw[aP];exact hB)
   ·exact .inr ⟨d2,rfl,by rw[aP];exact hB⟩
 ·have Fq:=hL.ne
  rcases List.mem_cons.1 hx with rfl|hx <;> rcases List.mem_cons.1 hy with rfl|hy
  ·rfl
  ·cases List.mem_singleton.1 hy
   exact absurd (aD.symm.trans (he.trans aP)) Fq
  ·cases List.mem_singleton.1 hx
   exact absurd (aD.symm.trans (he.symm.trans aP)) Fq
  ·cases List.mem_singleton.1 hx;cases List.mem_singleton.1 hy;rfl
 ·rcases List.mem_cons.1 hx with rfl|hx
  ·rw[qf] at hj
   cases List.mem_singleton.1 hj
   exact .inl cS
  ·cases List.mem_singleton.1 hx
   rw[nP,ah] at hj;cases hj
end
end
section
open Go.RowKit
attribute [local irreducible] ak VS
theorem kp_fz {t:TypeId} (h:KP.fz t=false):(KU UU).fz t=false:=by
 have h':(Nat.beq t UU || _)=false:=h
 rw[Bool.or_eq_false_iff] at h'
 show (Nat.beq t UU || false)=false
 rw[h'.1];rfl
end
section
open Go.RowKit
section
variable {C:Cx} {F:Fr} {H:Hp} {w:World} {m:Option (List FuncId)} {full:Array Oper} {K:Fr->Hp->World->Prop} {o:Oper} {r:List Oper} {Q:Exit->Act->World->Prop} {k:List It}
def vc (F:Fr) (β:Nat->Nat):List (Nat×AV)->Prop
 | []=>True
 | p::r=>(∃ u x,F p.1=some u/\u.aK β=x/\p.2=.val x)/\vc F β r
theorem vc.mem {β:Nat->Nat}:∀ {L:List (Nat×AV)} {d:Nat} {v:AV},vc F β L->(d,v)∈L->∃ u x,F d=some u/\u.aK β=x/\v=.val x
 | p::r,d,v,h,hm=>by
   rcases List.mem_cons.1 hm with rfl|hm
   ·exact h.1
   ·exact vc.mem h.2 hm
theorem VS.DC (D:World->Cx) (hP:∀ w,(D w).P=C.P) (hN:∀ w,(D w).N=C.N) (hO:∀ w,(D w).Old w)
  (h:∀ w' β,aR C.K w w'->C.Old w'->Ends C β H w'->∃ L:List (Nat×AV),vc F β L/\VS (D w') Q k (Fr.of L) (λ_=>none) w'):VS C Q k F H w:=λβ a w' hr hk=>by
 obtain⟨L,hL,hv⟩:=h w' β hk hr.old ⟨hr.own,hr.apart⟩
 have:=hv β a w' ⟨hr.defers,by rw[hN];exact hr.size,λd v hd=> ?_,λi t cs hi=>(by cases hi),λi j hi=>absurd rfl hi,λd v hd i hi=> ?_,λd v hd=> ?_,⟨λi t cs hi=>(by cases hi),λi t cs hi=>(by cases hi),λi hi=>rfl⟩,hO w'⟩ (aR.refl _ _)
 ·rw[hP] at this
  exact this
 ·obtain⟨u,x,h1,rfl,rfl⟩:=hL.mem (Fr.gH hd)
  exact hr.tmp d u h1
 ·obtain⟨u,x,h1,rfl,rfl⟩:=hL.mem (Fr.gH hd)
  cases hi
 ·obtain⟨u,x,h1,rfl,rfl⟩:=hL.mem (Fr.gH hd)
  rw[hN];exact hr.fits d u h1
end
end
section
open Go.RowKit
attribute [local irreducible] ak VS
section
variable {F F':Fr} {H H':Hp} {w w1:World} {N:Nat} {l':List Oper} {Q:Exit->Act->World->Prop} {k:List It} {id:Nat} {ops:Array Oper}
end
def cexp (y n:Int) (q:Rat):bS:=(y,n,decide (q.num<0),limbs q.num.natAbs,decide ((q.den:Int)<0),limbs (q.den:Int).natAbs)
theorem Kq (q:Rat):sJ (decide (q.num<0)) (limbs q.num.natAbs) (decide ((q.den:Int)<0)) (limbs (q.den:Int).natAbs)=true:=by
 unfold sJ
 rw[ll q.num,ll (q.den:Int),eK,eK]
 have h3:(0:Int)<q.den:=by have:=q.den_nz;omega
 have h4:Int.gcd q.num q.den=1:=by have:=q.reduced;simpa [Int.gcd,Nat.Coprime] using this
 rw[decide_eq_true h3,decide_eq_true h4];rfl
theorem Kr (q:Rat):rq (decide (q.num<0)) (limbs q.num.natAbs) (decide ((q.den:Int)<0)) (limbs (q.den:Int).natAbs)=q:=by
 unfold rq;rw[eK,eK,xc]
theorem Bx (y n:Int) (q:Rat):(cexp y n q).exp=(y,n,true,q):=by
 show (y,n,sJ (decide (q.num<0)) (limbs q.num.natAbs) (decide ((q.den:Int)<0)) (limbs (q.den:Int).natAbs),rq (decide (q.num<0)) (limbs q.num.natAbs) (decide ((q.den:Int)<0)) (limbs (q.den:Int).natAbs))=_
 rw[Kq,Kr]
end
section
open Go.RowKit
abbrev gl:=Nat×Rat
def gN (q:Rat):Nat:=if q.den=1/\1<=q.num/\q.num<=40 then q.num.toNat else 0
theorem EX (q:Rat):gN q<=40:=by
 unfold gN;split
 ·omega
 ·omega
def aitem (p:gl×Rat):Ka:=(p.1.1,p.1.2,p.2)
def aU (cs:List gl) (xs:List Rat):List Ka:=(cs.zip xs).map aitem
def jY (p:gl×Rat):Bool:=p.1.1 == 6
def qg (y:Nat) (p:gl×Rat):bS:=cexp y (gN p.1.2) p.2
def jt (y:Nat) (l:List (gl×Rat)):List bS:=(l.filter jY).map (qg y)
def cH (cs:List gl) (xss:List (List Rat)):Nat->List bS
 | 0=>[]
 | n+1=>cH cs xss n++jt n (cs.zip (xss.getD n []))
structure Bz where
 p:Pt
 due:Rat
 bal:Rat
 own:Rat
def DD (P:Pt) (due bal:Rat):Bz:=⟨⟨P.b,P.s-due,P.d,P.i⟩,due,bal,P.s-due-P.i⟩
def iy (cs:List gl) (xss:List (List Rat)) (y:Nat):Bz:=
 DD (bn (aU cs (xss.getD y []))) (eI (cH cs xss (y+1)) y) (eQ (cH cs xss (y+1)) y)
def eR (cs:List gl) (xss:List (List Rat)):List Bz:=(List.range xss.length).map (iy cs xss)
def iz (e:Int) (n:Nat) (t:List (List Rat)):Bool:=decide (e>=t.length) || ((t.getD e.toNat []).length != n)
def rp (k:gl):Bool:=k.1 == 6 && gN k.2 == 0
def me (cs:List gl) (e:Int) (ts:List (List (List Rat))):Int:=
 if ts.length>40 then 3 else if e<0 then 2 else if ts.any (iz e cs.length) then 2 else if cs.any rp then 2 else 0
theorem yp {cs:List gl} {e:Int} {ts:List (List (List Rat))} (h:me cs e ts=0):ts.length<=40/\0<=e/\(∀ t∈ts,e.toNat<t.length/\(t.getD e.toNat []).length=cs.length)/\(∀ k∈cs,k.1=6->1<=gN k.2):=by
 unfold me at h
 by_cases h1:ts.length>40
 ·rw[if_pos h1] at h;cases h
 rw[if_neg h1] at h
 by_cases h2:e<0
 ·rw[if_pos h2] at h;cases h
 rw[if_neg h2] at h
 by_cases h3:ts.any (iz e cs.length)=true
 ·rw[if_pos h3] at h;cases h
 rw[if_neg h3] at h
 by_cases h4:cs.any rp=true
 ·rw[if_pos h4] at h;cases h
 refine⟨by omega,by omega,λt ht=> ?_,λk hk h6=> ?_⟩
 ·have:iz e cs.length t=false:=by
   cases hx:iz e cs.length t with
   | false=>rfl
   | true=>exact absurd (List.any_eq_true.2 ⟨t,ht,hx⟩) h3
  unfold iz at this
  simp only[Bool.or_eq_false_iff,decide_eq_false_iff_not,bne_eq_false_iff_eq] at this
  exact⟨by omega,this.2⟩
 ·have:rp k=false:=by
   cases hx:rp k with
   | false=>rfl
   | true=>exact absurd (List.any_eq_true.2 ⟨k,hk,hx⟩) h4
  unfold rp at this
  rw[h6] at this
  simp at this
  omega
def iK (cs:List gl) (e:Int) (ts:List (List (List Rat))):List Bz:=if me cs e ts=0 then eR cs (ts.map λt=>t.getD e.toNat []) else []
theorem BA (cs:List gl) (xss:List (List Rat)):∀ n,(cH cs xss n).length<=n*cs.length
 | 0=>by simp[cH]
 | n+1=>by
   have:=BA cs xss n
   have h2:(jt n (cs.zip (xss.getD n []))).length<=cs.length:=by
    unfold jt;rw[List.length_map]
    exact Nat.le_trans (List.length_filter_le _ _) (by rw[List.length_zip];omega)
   show (cH cs xss n++_).length<=_
   rw[List.length_append,Nat.add_mul,Nat.one_mul];omega
theorem ru {y:Nat} {p:gl×Rat} (hy:y<=9999) (h:1<=gN p.1.2):cz (qg y p).exp=false:=by
 have:=EX p.1.2
 rw[qg,Bx]
 unfold cz
 simp only[Bool.or_eq_false_iff,decide_eq_false_iff_not,Bool.not_true,and_true]
 omega
theorem DF {y:Nat} {l:List (gl×Rat)} {i:Nat} {p:gl×Rat} (h:l[i]? =some p):jt y (l.take (i+1))=jt y (l.take i)++(if jY p=true then [qg y p] else []):=by
 unfold jt;rw[bm h,List.filter_append,List.map_append]
 by_cases hd:jY p=true
 ·rw[if_pos hd,List.filter_cons_of_pos hd];rfl
 ·rw[if_neg hd,List.filter_cons_of_neg hd];rfl
set_option maxRecDepth 4000
def ElB {α:Type} (E:World->List Value->α->Prop):Prop:=∀ {w w':World} {cs:List Value} {a:α},E w cs a->aw w w'->E w' cs a
theorem gj.b {α:Type} {E:World->List Value->α->Prop} {sz:Nat} (h:gj E sz):ElB E:=λhE hb=>h.kp hE (Kp.of hb)
theorem bP.ry {α:Type} {E:World->List Value->α->Prop} {sz:Nat} {w w':World} {v:Value} {es:List α} (hE:ElB E) (h:bP E sz w v es) (hb:aw w w'):bP E sz w' v es:=by
 obtain⟨p,c,hv,h1,h2,h3⟩:=h
 refine⟨p,c,hv,h1,h2,λi q hq=> ?_⟩
 obtain⟨b,off,cs,hp,hc,hr⟩:=h3 i q hq
 exact⟨b,off,cs,hp,λj u hj=>hb.cell (hc j u hj),hE hr hb⟩
def ik (kk:Nat) (w:World) (cs:List Value) (x:gl):Prop:=∃ nm s p n c t y m d,cs=[.string nm,.int .u8 (x.1:Int),.bool s,.slice p n c,.bool t,.slice y m d]/\x.1<256/\aC w (.agg #[.bool s,.slice p n c,.bool t,.slice y m d]) x.2 kk
theorem iA (kk:Nat):gj (ik kk) 6 where
 kp:=λh k=>by
  obtain⟨nm,s,p,n,c,t,y,m,d,hv,h1,h2⟩:=h
  exact⟨_,_,_,_,_,_,_,_,_,hv,h1,h2.kp k⟩
 len:=λh=>by
  obtain⟨nm,s,p,n,c,t,y,m,d,rfl,_⟩:=h
  rfl
 ok:=λh=>by
  obtain⟨nm,s,p,n,c,t,y,m,d,rfl,_⟩:=h
  rfl
def vS (kk:Nat) (w:World) (cs:List Value) (q:Rat):Prop:=∃ s p n c t y m d,cs=[.bool s,.slice p n c,.bool t,.slice y m d]/\aC w (.agg #[.bool s,.slice p n c,.bool t,.slice y m d]) q kk
theorem Ks (kk:Nat):gj (vS kk) 4 where
 kp:=λh k=>by
  obtain⟨s,p,n,c,t,y,m,d,hv,h2⟩:=h
  exact⟨_,_,_,_,_,_,_,_,hv,h2.kp k⟩
 len:=λh=>by
  obtain⟨s,p,n,c,t,y,m,d,rfl,_⟩:=h
  rfl
 ok:=λh=>by
  obtain⟨s,p,n,c,t,y,m,d,rfl,_⟩:=h
  rfl
def lX (kk:Nat) (w:World) (cs:List Value) (r:List Rat):Prop:=∃ v,cs=[v]/\bP (vS kk) 4 w v r
def ng (kk:Nat) (w:World) (cs:List Value) (t:List (List Rat)):Prop:=∃ v,cs=[v]/\bP (lX kk) 1 w v t
theorem vd (kk:Nat):ElB (lX kk):=λh hb=>by
 obtain⟨v,hv,h1⟩:=h
 exact⟨v,hv,h1.ry (Ks kk).b hb⟩
theorem ve (kk:Nat):ElB (ng kk):=λh hb=>by
 obtain⟨v,hv,h1⟩:=h
 exact⟨v,hv,h1.ry (vd kk) hb⟩
theorem bP.sl {α:Type} {E:World->List Value->α->Prop} {sz:Nat} {w:World} {v:Value} {es:List α} (h:bP E sz w v es):∃ p c,v=.slice p es.length c:=by
 obtain⟨p,c,hv,_⟩:=h
 exact⟨p,c,hv⟩
theorem aC.raw {w:World} {v:Value} {q:Rat} {k:Nat} (h:aC w v q k):∃ (a:Bool×Rat) (s:Bool) (p:Option Addr) (c:Nat) (t:Bool) (r:Option Addr) (d:Nat) (xs ys:List Nat),v=.agg #[.bool s,.slice p xs.length c,.bool t,.slice r ys.length d]/\Bg k w [.bool s,.slice p xs.length c,.bool t,.slice r ys.length d] a/\a.2=q/\(a.1=false->q=0):=by
 obtain⟨s,xs,t,ys,hr,rfl,hx,hy⟩:=h
 obtain⟨p,c,r,d,rfl,-⟩:=hr.xe
 exact⟨(sJ s xs t ys,rq s xs t ys),s,p,c,t,r,d,xs,ys,rfl,⟨s,p,c,t,r,d,xs,ys,rfl,hr,rfl,hx,hy⟩,rfl,λe=>uP e⟩
theorem BB {q:Rat} (h:q.den=1):q.floor=q.num:=by
 rw[Rat.floor_def,h];simp
attribute [local irreducible] ak VS
theorem GQ (v:Value) (X:Int) (k:Nat) (w:World) (hv:bq w v X k):
  Calls Tryz.prog 84 #[v] w λe w'=>∃ n b,e=.returned (.tuple #[.int .i64 n,.bool b])/\(b=true->n=X)/\(b=false->4294967296<=X.natAbs)/\aw w w':=by
 by_cases h:X.natAbs<4294967296
 ·refine (Dt v X k w hv h).mono ?_
  rintro e w' ⟨rfl,hb⟩
  exact⟨_,_,rfl,λ_=>rfl,λh=>(by cases h),hb⟩
 ·refine (Du v X k w hv).mono ?_
  rintro e w' ⟨n,b,rfl,h1,hb⟩
  exact⟨_,_,rfl,h1,λ_=>by omega,hb⟩
theorem GR {a:Bool×Rat} {q:Rat} (h2:a.2=q) (h1:a.1=false->q=0) (h:jr a=false):gN q=0:=by
 unfold jr at h
 unfold gN
 rw[h2] at h
 cases ha:a.1 with
 | false=>rw[h1 ha];rfl
 | true=>
   rw[ha,Bool.true_and,decide_eq_false_iff_not] at h
   rw[if_neg (λe=>h e.1)]
theorem DG {a:Bool×Rat} {q:Rat} (h2:a.2=q) (h:jr a=true):q.den=1:=by
 unfold jr at h
 rw[h2,Bool.and_eq_true,decide_eq_true_iff] at h
 exact h.2
theorem vf {q:Rat} (h:q.num<1\/40<q.num):gN q=0:=by unfold gN;rw[if_neg aa]
theorem ayrs_in {q:Rat} (hd:q.den=1) (h1:1<=q.num) (h2:q.num<=40):(gN q:Int)=q.num:=by unfold gN;rw[if_pos ⟨hd,h1,h2⟩];omega
theorem vg (cs:List Value) (x:gl) (kk:Nat) (w:World) (hv:ik kk w cs x) (hk:kk<=1000000):
  Calls Tryz.prog 37 #[.agg cs.toArray] w λe w'=>e=.returned (.int .i64 (gN x.2:Int))/\aw w w':=by
 obtain⟨nm,s0,p0,n0,c0,t0,y0,m0,d0,rfl,vh,kW⟩:=hv
 obtain⟨a,s,p,c,t,r,d,xs,ys,he,fM,ha2,ha1⟩:=kW.raw
 injection he with he
 have BR:=congrArg Array.toList he
 simp only[List.cons.injEq,Value.bool.injEq,Value.slice.injEq,and_true] at BR
 obtain⟨rfl,⟨rfl,rfl,rfl⟩,rfl,rfl,rfl,rfl⟩:=BR
 refine ae (C:=aX Tryz.prog w _) (args:=[_]) Tryz.func37 rfl Tryz.ntmps37 (bG rfl) ?_
 refine ab ?_
 refine VO.ia rfl (fk Tryz.func83) (λaO β bE ba ho=>(vP _ [a] kk aO (tp (qd kk) (ho.own 7 (.base (List.mem_singleton.2 rfl)) _ _ rfl) [] (vs:=[[.bool s0,.slice p0 xs.length c0,.bool t0,.slice y0 ys.length d0]]) (by rfl) (.cons ((qd kk).kp fM (Kp.of (U:=UU) ba)) .nil) rfl (Nat.le_refl _) (show (1:Nat)<=9223372036854775807 by omega)) aa).mono ?_)
 rintro e w1 ⟨rfl,aD⟩
 cases hw:jr a with
 | false=>
   rw[show [a].all jr=false by simp[hw]]
   refine aH aD ?_
   intro cj _ bb1
   refine az ?_;intro wz kz bz
   exact⟨by rw[GR ha2 ha1 hw];rfl,bz⟩
 | true=>
   rw[show [a].all jr=true by simp[hw]]
   have hd:=DG ha2 hw
   have yy:=BB hd
   refine aH aD ?_
   intro cj _ bb1
   refine VO.cI rfl rfl (fk Tryz.func85) (λbk bX bF=>Bf _ x.2 kk bk kW.k aa) (λbk bX bF w2 s2 p2 n2 c2 q2 aP da _ bb2=>wV rfl ?_)
   refine ab ?_
   rw[yy] at q2
   refine VO.call rfl rfl (fk Tryz.func84) (λcX dh dS=>(GQ _ x.2.num (bV kk) cX (q2.ki (kW.rk.1))).mono ?_)
   rintro e w3 ⟨n,b,rfl,hn,Ft,cw⟩
   cases b with
   | false=>
     refine aH cw ?_
     intro fi _ bb3
     refine az ?_;intro wz kz bz
     exact⟨by rw[vf (by have:=Ft rfl;omega)];rfl,bz⟩
   | true=>
     obtain rfl:=hn rfl
     obtain⟨Y,hY⟩:∃ Y,Y=x.2.num:=⟨_,rfl⟩
     rw[<-hY]
     by_cases h1:Y<1
     ·refine aH cw ?_
      intro fi _ bb3
      refine VO.fix 23 rfl (congrArg (λb=>AV.val (.bool b)) (decide_eq_true h1)) ?_
      refine ab ?_
      refine az ?_;intro wz kz bz
      exact⟨by rw[vf aa];rfl,bz⟩
     ·by_cases h2:Y>40
      ·refine aH cw ?_
       intro fi _ bb3
       refine VO.fix 23 rfl (congrArg (λb=>AV.val (.bool b)) (decide_eq_false h1)) ?_
       refine ab ?_
       refine VS.bg rfl (decide_eq_true h2) ?_
       refine ab ?_
       refine az ?_;intro wz kz bz
       exact⟨by rw[vf aa];rfl,bz⟩
      ·refine aH cw ?_
       intro fi _ bb3
       refine VO.fix 23 rfl (congrArg (λb=>AV.val (.bool b)) (decide_eq_false h1)) ?_
       refine ab ?_
       refine VS.bo rfl (decide_eq_false h2) ?_
       refine ab ?_
       refine az ?_;intro wz kz bz
       exact⟨by rw[ayrs_in hd aa aa,hY];rfl,bz⟩
theorem GS (v:Value) (p:Option Addr) (N c b1 b2 kk:Nat) (e:Int) (t:List (List Rat)) (w:World) (hv:bP (lX kk) 1 w v t) (h1:w.cell? ⟨b1,0,none⟩=some (.int .i64 e)) (h2:w.cell? ⟨b2,0,none⟩=some (.slice p N c)) (he:0<=e):
  Calls Tryz.prog 77 #[.agg #[v],.pointer (some ⟨b1,0,none⟩),.pointer (some ⟨b2,0,none⟩)] w λo w'=>o=.returned (.bool (iz e N t))/\aw w w':=by
 obtain⟨pr,cr,rfl⟩:=hv.sl
 obtain⟨L,hL⟩:∃ L,L=t.length:=⟨_,rfl⟩
 rw[<-hL] at hv ⊢
 refine ae (C:=aX Tryz.prog w _) (args:=[_,_,_]) Tryz.func77 rfl Tryz.ntmps77 (bG rfl) ?_
 refine ab ?_
 refine VO.read rfl [.int .i64 e] rfl (fb h1) (wV rfl ?_)
 refine ab ?_
 by_cases hge:e>=(L:Int)
 ·refine VO.fix 10 rfl (congrArg (λb=>AV.val (.bool b)) (decide_eq_true hge)) ?_
  refine ab ?_
  refine az ?_;intro wz kz bz
  exact⟨by unfold iz;rw[<-hL,decide_eq_true hge];rfl,bz⟩
 ·refine VO.fix 10 rfl (congrArg (λb=>AV.val (.bool b)) (decide_eq_false hge)) ?_
  refine ab ?_
  obtain⟨xs,hx⟩:∃ xs,t[e.toNat]? =some xs:=⟨_,List.getElem?_eq_getElem aa⟩
  obtain⟨b,off,gw,rfl,hc,⟨u1,rfl,vv⟩⟩:=hv.at hx
  obtain⟨p3,c3,rfl⟩:=vv.sl
  refine VO.read rfl [.int .i64 e] rfl (fb h1) (wV rfl ?_)
  refine ab ?_
  refine VO.cond rfl ew (wV rfl ?_)
  refine VO.read rfl [.slice p3 xs.length c3] rfl (λj u hj=>by rw[Addr.add_mid];have:=hc j u hj;rwa [Nat.mul_comm] at this ⊢) (wV rfl ?_)
  refine ab ?_
  refine VO.read rfl [.slice p N c] rfl (fb h2) (wV rfl ?_)
  refine ab ?_
  refine az ?_;intro wz kz bz
  refine⟨congrArg (λb=>Ending.returned (.bool b)) ?_,bz⟩
  unfold iz
  rw[<-hL,decide_eq_false hge,Bool.false_or,List.getD_eq_getElem?_getD,hx]
  show ((xs.length:Int) != (N:Int))=(xs.length != N)
  by_cases hh:xs.length=N
  ·rw[hh];simp
  ·rw[bne_iff_ne.2 hh,bne_iff_ne.2 aa]
end
set_option maxRecDepth 4000
section
open Go.RowKit
attribute [local irreducible] ak VS
theorem DI (g:FuncId) (c1 c2:Value) (P:List (List Rat)->Bool) (kk:Nat) (kg:jc Tryz.prog g) (v:Value) (es:List (List (List Rat))) (w:World) (hv:bP (ng kk) 1 w v es) (hg:∀ (cs:List Value) (a:List (List Rat)) (w1:World),aw w w1->ng kk w1 cs a->Calls Tryz.prog g #[.agg cs.toArray,c1,c2] w1 λe w'=>e=.returned (.bool (P a))/\aw w1 w'):
  Calls Tryz.prog 137 #[v,.func (.func g) #[] #[c1,c2]] w λe w'=>∃ r,e=.returned (.int .i64 r)/\decide (r>=0)=es.any P/\aw w w':=by
 obtain⟨p,c,rfl,dW,eJ⟩:=hv.form
 obtain⟨N,hN⟩:∃ N,N=es.length:=⟨_,rfl⟩
 rw[<-hN] at hv dW ⊢
 refine ae (C:=aX Tryz.prog w _) (args:=[_,_]) Tryz.func137 rfl Tryz.ntmps137 (bG rfl) ?_
 refine ab ?_
 refine VS.loop (J:=λmm L M w'=>∃ z:Nat,z<=N/\mm=N-z/\L=[(0,.val (.slice p N c)),(1,.val (.func (.func g) #[] #[c1,c2])),(7,.val (.int .i64 (N:Int))),(8,.val (.int .i64 (z:Int)))]/\M=[]/\(es.take z).any P=false) N ⟨_,_,?_,?_,?_,?_,⟨0,by omega,rfl,rfl,rfl,rfl⟩⟩ ?_
 ·exact dy
 ·exact dy
 ·rfl
 ·exact jv
 rintro mm L M wJ ⟨z,hz,rfl,rfl,rfl,hno⟩
 refine ab ?_
 by_cases hlt:z<N
 ·obtain⟨a,hx⟩:∃ x,es[z]? =some x:=⟨_,List.getElem?_eq_getElem aa⟩
  obtain⟨b,off,cs,rfl,hc,he⟩:=hv.at hx
  have BR:=he
  obtain⟨u,rfl,-⟩:=BR
  refine VS.bg rfl (decide_eq_true (Int.ofNat_lt.2 hlt)) ?_
  refine ab ?_
  refine VO.cond rfl ew ?_
  refine wV rfl ?_
  refine ab ?_
  refine VO.read rfl [u] rfl (λj u hj=>by rw[Addr.add_mid,Int.toNat_natCast];exact hc j u hj) (wV rfl ?_)
  refine VO.call rfl rfl kg (λaO bE ba=>(hg _ a aO ba (ve kk he ba)).mono ?_)
  rintro e w1 ⟨rfl,aD⟩
  cases hP:P a with
  | true=>
    refine aH aD ?_
    intro cj _ bb1
    refine az ?_;intro wz kz bz
    refine⟨_,rfl,?_,bz⟩
    rw[List.any_eq_true.2 ⟨a,List.mem_of_getElem? hx,hP⟩,decide_eq_true aa]
  | false=>
    refine aH aD ?_
    intro cj _ bb1
    refine VS.back (N-(z+1)) aa ⟨_,_,?_,?_,?_,?_,⟨z+1,by omega,rfl,rfl,rfl,?_⟩⟩
    ·refine⟨rfl,rfl,rfl,?_,trivial⟩
     rw[<-bA aa];rfl
    ·exact dy
    ·rfl
    ·exact jv
    ·rw[bm hx,List.any_append,hno];simp[hP]
 ·refine VS.bo rfl (decide_eq_false (λe=>hlt (Int.ofNat_lt.1 e))) ?_
  obtain rfl:z=N:=by omega
  refine ab ?_
  refine az ?_;intro wz kz bz
  rw[List.take_of_length_le aa] at hno
  exact⟨_,rfl,by rw[hno];rfl,bz⟩
theorem DJ (g:FuncId) (c1 c2:Value) (P:List (List Rat)->Bool) (kk:Nat) (kg:jc Tryz.prog g) (v:Value) (es:List (List (List Rat))) (w:World) (hv:bP (ng kk) 1 w v es) (hg:∀ (cs:List Value) (a:List (List Rat)) (w1:World),aw w w1->ng kk w1 cs a->Calls Tryz.prog g #[.agg cs.toArray,c1,c2] w1 λe w'=>e=.returned (.bool (P a))/\aw w1 w'):
  Calls Tryz.prog 79 #[v,.func (.func g) #[] #[c1,c2]] w λe w'=>e=.returned (.bool (es.any P))/\aw w w':=by
 obtain⟨p,c,rfl,dW,eJ⟩:=hv.form
 refine ae (C:=aX Tryz.prog w _) (args:=[_,_]) Tryz.func79 rfl Tryz.ntmps79 (bG rfl) ?_
 refine ab ?_
 refine VO.call rfl rfl (fk Tryz.func137) (λaO bE ba=>(DI g c1 c2 P kk kg _ es aO (hv.ry (ve kk) ba) (λcs a w1 h1 h2=>hg cs a w1 (ba.ax h1) h2)).mono ?_)
 rintro e w1 ⟨r1,rfl,h1,aD⟩
 refine aH aD ?_
 intro cj _ bb1
 refine az ?_;intro wz kz bz
 exact⟨congrArg (λb=>Ending.returned (.bool b)) h1,bz⟩
theorem DK (g:FuncId) (P:gl->Bool) (kk:Nat) (kg:jc Tryz.prog g) (v:Value) (es:List (gl)) (w:World) (hv:bP (ik kk) 6 w v es) (hg:∀ (cs:List Value) (a:gl) (w1:World),aw w w1->ik kk w1 cs a->Calls Tryz.prog g #[.agg cs.toArray] w1 λe w'=>e=.returned (.bool (P a))/\aw w1 w'):
  Calls Tryz.prog 133 #[v,.func (.func g) #[] #[]] w λe w'=>∃ r,e=.returned (.int .i64 r)/\decide (r>=0)=es.any P/\aw w w':=by
 obtain⟨p,c,rfl,dW,eJ⟩:=hv.form
 obtain⟨N,hN⟩:∃ N,N=es.length:=⟨_,rfl⟩
 rw[<-hN] at hv dW ⊢
 refine ae (C:=aX Tryz.prog w _) (args:=[_,_]) Tryz.func133 rfl Tryz.ntmps133 (bG rfl) ?_
 refine ab ?_
 refine VS.loop (J:=λmm L M w'=>∃ z:Nat,z<=N/\mm=N-z/\L=[(0,.val (.slice p N c)),(1,.val (.func (.func g) #[] #[])),(7,.val (.int .i64 (N:Int))),(8,.val (.int .i64 (z:Int)))]/\M=[]/\(es.take z).any P=false) N ⟨_,_,?_,?_,?_,?_,⟨0,by omega,rfl,rfl,rfl,rfl⟩⟩ ?_
 ·exact dy
 ·exact dy
 ·rfl
 ·exact jv
 rintro mm L M wJ ⟨z,hz,rfl,rfl,rfl,hno⟩
 refine ab ?_
 by_cases hlt:z<N
 ·obtain⟨a,hx⟩:∃ x,es[z]? =some x:=⟨_,List.getElem?_eq_getElem aa⟩
  obtain⟨b,off,cs,rfl,hc,he⟩:=hv.at hx
  have BR:=he
  obtain⟨nm,s0,p0,n0,c0,t0,y0,m0,d0,rfl,-⟩:=BR
  refine VS.bg rfl (decide_eq_true (Int.ofNat_lt.2 hlt)) ?_
  refine ab ?_
  refine VO.cond rfl ew ?_
  refine wV rfl ?_
  refine ab ?_
  refine VO.read rfl [.string nm,.int .u8 (a.1:Int),.bool s0,.slice p0 n0 c0,.bool t0,.slice y0 m0 d0] rfl (λj u hj=>by rw[Addr.add_mid,Int.toNat_natCast];exact hc j u hj) (wV rfl ?_)
  refine VO.call rfl rfl kg (λaO bE ba=>(hg _ a aO ba ((iA kk).b he ba)).mono ?_)
  rintro e w1 ⟨rfl,aD⟩
  cases hP:P a with
  | true=>
    refine aH aD ?_
    intro cj _ bb1
    refine az ?_;intro wz kz bz
    refine⟨_,rfl,?_,bz⟩
    rw[List.any_eq_true.2 ⟨a,List.mem_of_getElem? hx,hP⟩,decide_eq_true aa]
  | false=>
    refine aH aD ?_
    intro cj _ bb1
    refine VS.back (N-(z+1)) aa ⟨_,_,?_,?_,?_,?_,⟨z+1,by omega,rfl,rfl,rfl,?_⟩⟩
    ·refine⟨rfl,rfl,rfl,?_,trivial⟩
     rw[<-bA aa];rfl
    ·exact dy
    ·rfl
    ·exact jv
    ·rw[bm hx,List.any_append,hno];simp[hP]
 ·refine VS.bo rfl (decide_eq_false (λe=>hlt (Int.ofNat_lt.1 e))) ?_
  obtain rfl:z=N:=by omega
  refine ab ?_
  refine az ?_;intro wz kz bz
  rw[List.take_of_length_le aa] at hno
  exact⟨_,rfl,by rw[hno];rfl,bz⟩
theorem DL (g:FuncId) (P:gl->Bool) (kk:Nat) (kg:jc Tryz.prog g) (v:Value) (es:List (gl)) (w:World) (hv:bP (ik kk) 6 w v es) (hg:∀ (cs:List Value) (a:gl) (w1:World),aw w w1->ik kk w1 cs a->Calls Tryz.prog g #[.agg cs.toArray] w1 λe w'=>e=.returned (.bool (P a))/\aw w1 w'):
  Calls Tryz.prog 80 #[v,.func (.func g) #[] #[]] w λe w'=>e=.returned (.bool (es.any P))/\aw w w':=by
 obtain⟨p,c,rfl,dW,eJ⟩:=hv.form
 refine ae (C:=aX Tryz.prog w _) (args:=[_,_]) Tryz.func80 rfl Tryz.ntmps80 (bG rfl) ?_
 refine ab ?_
 refine VO.call rfl rfl (fk Tryz.func133) (λaO bE ba=>(DK g P kk kg _ es aO (hv.ry ((iA kk).b) ba) (λcs a w1 h1 h2=>hg cs a w1 (ba.ax h1) h2)).mono ?_)
 rintro e w1 ⟨r1,rfl,h1,aD⟩
 refine aH aD ?_
 intro cj _ bb1
 refine az ?_;intro wz kz bz
 exact⟨congrArg (λb=>Ending.returned (.bool b)) h1,bz⟩
theorem Kt (cs:List Value) (x:gl) (kk:Nat) (w:World) (hv:ik kk w cs x) (hk:kk<=1000000):
  Calls Tryz.prog 78 #[.agg cs.toArray] w λe w'=>e=.returned (.bool (rp x))/\aw w w':=by
 have Fy:=hv
 obtain⟨nm,s0,p0,n0,c0,t0,y0,m0,d0,rfl,vh,kW⟩:=hv
 obtain⟨k,q⟩:=x
 replace vh:k<256:=vh
 refine ae (C:=aX Tryz.prog w _) (args:=[_]) Tryz.func78 rfl Tryz.ntmps78 (bG rfl) ?_
 refine ab ?_
 by_cases h6:k=6
 ·refine VO.fix 6 rfl (congrArg (λb=>AV.val (.bool b)) (JS (show (k:Int)=6 by omega))) ?_
  refine ab ?_
  refine VO.cB rfl rfl (fk Tryz.func37) (λaO bE ba=>vg _ (k,q) kk aO ((iA kk).b Fy ba) hk) (λaO bE ba w1 aD cj _ bb1=>wV rfl ?_)
  refine ab ?_
  refine az ?_;intro wz kz bz
  refine⟨congrArg (λb=>Ending.returned (.bool b)) ?_,bz⟩
  show (((gN q:Nat):Int) == 0)=rp (k,q)
  unfold rp
  rw[show ((k,q):gl).1=6 from h6]
  show _=(true && (gN q == 0))
  rw[Bool.true_and]
  by_cases hz:gN q=0
  ·rw[hz];rfl
  ·rw[EO aa,beq_eq_false_iff_ne.2 hz]
 ·refine VO.fix 6 rfl (congrArg (λb=>AV.val (.bool b)) (EO (show (k:Int)≠6 by omega))) ?_
  refine ab ?_
  refine az ?_;intro wz kz bz
  exact⟨by unfold rp;rw[show (((k,q):gl).1 == 6)=false from beq_eq_false_iff_ne.2 h6];rfl,bz⟩
theorem Ku (v u:Value) (e:Int) (cs:List gl) (ts:List (List (List Rat))) (kk:Nat) (w:World) (hv:bP (ik kk) 6 w v cs) (hu:bP (ng kk) 1 w u ts) (hk:kk<=1000000):
  Calls Tryz.prog 33 #[v,.int .i64 e,u] w λo w'=>o=.returned (.int .i64 (me cs e ts))/\aw w w':=by
 obtain⟨p,c,rfl⟩:=hv.sl
 obtain⟨p2,c2,rfl⟩:=hu.sl
 refine ae (C:=aX Tryz.prog w _) (args:=[_,_,_]) Tryz.func33 rfl Tryz.ntmps33 (bG rfl) ?_
 refine ab ?_
 by_cases hlong:(ts.length:Int)>40
 ·refine VS.bg rfl (decide_eq_true hlong) ?_
  refine ab ?_
  refine az ?_;intro wz kz bz
  exact⟨by unfold me;rw[if_pos aa];rfl,bz⟩
 refine VS.bo rfl (decide_eq_false hlong) ?_
 refine ab ?_
 by_cases yV:e<0
 ·refine VO.fix 17 rfl (congrArg (λb=>AV.val (.bool b)) (decide_eq_true yV)) ?_
  refine ab ?_
  refine az ?_;intro wz kz bz
  exact⟨by unfold me;rw[if_neg aa,if_pos yV];rfl,bz⟩
 refine VO.fix 17 rfl (congrArg (λb=>AV.val (.bool b)) (decide_eq_false yV)) ?_
 refine ab ?_
 refine VO.ia rfl (fk Tryz.func79) (λaO β bE ba ho=>(DJ 77 (.pointer (some ⟨β 4,0,none⟩)) (.pointer (some ⟨β 3,0,none⟩)) (iz e cs.length) kk (fk Tryz.func77) _ ts aO (hu.ry (ve kk) ba) (λl a w1 hb hs=>by
  obtain⟨u1,rfl,hs⟩:=hs
  exact GS u1 p cs.length c (β 4) (β 3) kk e a w1 hs (hb.cell (kO (ho.own 4 (.base (by simp[eG,AV.ids])) _ _ rfl).cls)) (hb.cell (kO (ho.own 3 (.base (by simp[eG,AV.ids])) _ _ rfl).cls)) aa)).mono ?_)
 rintro o w1 ⟨rfl,aD⟩
 cases hA:ts.any (iz e cs.length) with
 | true=>
   refine aH aD ?_
   intro cj _ bb1
   refine az ?_;intro wz kz bz
   exact⟨by unfold me;rw[if_neg aa,if_neg yV,if_pos hA];rfl,bz⟩
 | false=>
   refine aH aD ?_
   intro cj _ bb1
   refine VO.call rfl rfl (fk Tryz.func80) (λbk bX bF=>(DL 78 rp kk (fk Tryz.func78) _ cs bk (hv.bt (iA kk) bF) (λl a w1 hb hs=>Kt l a kk w1 hs hk)).mono ?_)
   rintro o w2 ⟨rfl,aP⟩
   cases hB:cs.any rp with
   | true=>
     refine aH aP ?_
     intro da _ bb2
     refine az ?_;intro wz kz bz
     exact⟨by unfold me;rw[if_neg aa,if_neg yV,hA,if_neg cS,if_pos hB];rfl,bz⟩
   | false=>
     refine aH aP ?_
     intro da _ bb2
     refine az ?_;intro wz kz bz
     exact⟨by unfold me;rw[if_neg aa,if_neg yV,hA,if_neg cS,hB,if_neg cS];rfl,bz⟩
set_option maxRecDepth 4000
def kQ {α:Type} (E:World->List Value->α->Prop) (sz:Nat) (t:TypeId) (i:Nat) (X:AV) (M:List (Nat×(TypeId×List AV))) (w:World) (es:List α):Prop:=
 (es=[]/\X=.val (.slice none 0 0)/\M=[])\/∃ n c vs sp,X=.row i 0 n c/\M=[(i,(t,vs.flatten.map .val++sp))]/\dx E sz w n c vs sp es
theorem kQ.kp {α:Type} {E:World->List Value->α->Prop} {sz:Nat} {t:TypeId} {i:Nat} {X:AV} {M:List (Nat×(TypeId×List AV))} {w w':World} {es:List α} (hE:gj E sz) (h:kQ E sz t i X M w es) (k:Kp UU w w'):kQ E sz t i X M w' es:=by
 rcases h with h|⟨n,c,vs,sp,h1,h2,h3⟩
 ·exact .inl h
 ·exact .inr ⟨n,c,vs,sp,h1,h2,h3.kp hE k⟩
def Hp.mask (l:List Nat) (H:Hp):Hp:=λi=>bif l.any (Nat.beq i) then none else H i
def xo (H:Hp):List Nat->Prop
 | []=>True
 | i::r=>H i=none/\xo H r
theorem xo.eq {H:Hp}:∀ {l:List Nat},xo H l->∀ i,l.any (Nat.beq i)=true->H i=none
 | [],_,i,h=>by cases h
 | j::r,hn,i,h=>by
   rw[List.any_cons,Bool.or_eq_true] at h
   rcases h with h|h
   ·rw[Nat.eq_of_beq_eq_true h];exact hn.1
   ·exact xo.eq hn.2 i h
theorem Hp.mask_eq {H:Hp} {l:List Nat} (h:xo H l):Hp.mask l H=H:=by
 funext i
 unfold Hp.mask
 cases hb:l.any (Nat.beq i) with
 | true=>exact (h.eq i hb).symm
 | false=>rfl
theorem VS.mask {C:Cx} {Q:Exit->Act->World->Prop} {F:Fr} {H:Hp} {w:World} {stk:List It} (l:List Nat) (h:xo H l) (k:VS C Q stk F (Hp.mask l H) w):VS C Q stk F H w:=by rw[Hp.mask_eq h] at k;exact k
theorem rz {cs:List gl} {xs:List Rat} {z:Nat} {k:gl} {x:Rat} (h1:cs[z]? =some k) (h2:xs[z]? =some x):(aU cs xs)[z]? =some (k.1,k.2,x):=by
 unfold aU
 rw[List.getElem?_map,show (cs.zip xs)[z]? =some (k,x) from List.getElem?_zip_eq_some.2 ⟨h1,h2⟩];rfl
set_option maxRecDepth 4000 in
theorem DM (v u:Value) (cs:List gl) (xs:List Rat) (t:List (List Rat)) (e:Int) (kk:Nat) (w:World) (hu:bP (ik kk) 6 w u cs) (hv:bP (lX kk) 1 w v t) (he:0<=e) (hx:t[e.toNat]? =some xs) (hlen:xs.length=cs.length) (hk:kk<=1000) (hn:cs.length<=1000):
  Calls Tryz.prog 35 #[.agg #[v],u,.int .i64 e] w λo w'=>∃ r,o=.returned r/\gI (mc (bV kk)) 9 101 w.heap.size w' r (aU cs xs)/\aw w w':=by
 obtain⟨p,c,rfl,dW,eJ⟩:=hu.form
 obtain⟨p2,c2,rfl⟩:=hv.sl
 obtain⟨N,hN⟩:∃ N,N=cs.length:=⟨_,rfl⟩
 rw[<-hN] at hu dW hlen hn ⊢
 have sI:e.toNat<t.length:=(List.getElem?_eq_some_iff.1 hx).1
 obtain⟨pb,po,pc,rfl,hpc,⟨pv,rfl,sw⟩⟩:=hv.at hx
 obtain⟨p3,c3,rfl⟩:=sw.sl
 have hE:((e.toNat:Nat):Int)=e:=by omega
 obtain⟨M0,hM0⟩:∃ M0,M0=t.length:=⟨_,rfl⟩
 rw[<-hM0] at hv sI
 rw[<-hM0]
 refine ae (C:=aX Tryz.prog w _) (args:=[_,_,_]) Tryz.func35 rfl Tryz.ntmps35 (bG rfl) ?_
 refine ab ?_
 refine VO.fix 12 rfl (congrArg (λb=>AV.val (.bool b)) (decide_eq_false (show ¬ e<0 by omega))) ?_
 refine ab ?_
 refine VO.fix 19 rfl (congrArg (λb=>AV.val (.bool b)) (decide_eq_false (show ¬ e>=(M0:Int) by omega))) ?_
 refine ab ?_
 refine VO.cond rfl ew (wV rfl ?_)
 refine VO.read rfl [.slice p3 xs.length c3] rfl (λj u hj=>by rw[Addr.add_mid];exact hpc j u hj) (wV rfl ?_)
 refine ab ?_
 refine VS.bo rfl (JR aa) ?_
 refine ab ?_
 refine VS.loop (J:=λm L M w'=>∃ (z:Nat) (X:AV) (Mi:List (Nat×(TypeId×List AV))),z<=N/\m=N-z/\L=[(1,.val (.slice p N c)),(2,.val (.int .i64 e)),(3,.box 3 0),(7,X),(30,.val (.slice p N c)),(31,.val (.int .i64 (N:Int))),(32,.val (.int .i64 (z:Int)))]/\
  M=(3,(41,[.val (.slice (some ⟨pb,po,none⟩) M0 c2)]))::Mi/\kQ (mc (bV kk)) 9 101 56 X Mi w' ((aU cs xs).take z)) N ⟨_,_,?_,?_,?_,?_,⟨0,_,[],by omega,rfl,rfl,rfl,.inl ⟨rfl,rfl,rfl⟩⟩⟩ ?_
 ·exact dy
 ·exact dy
 ·rfl
 ·exact jv
 rintro m L M wJ ⟨z,X,Mi,hz,rfl,rfl,rfl,hst⟩
 refine VS.mask [9,42,52,55] (by rcases hst with ⟨_,_,rfl⟩|⟨_,_,_,_,_,rfl,_⟩ <;> (repeat first|exact trivial|refine⟨rfl,?_⟩)) ?_
 refine ab ?_
 by_cases hlt:z<N
 ·obtain⟨k,oW⟩:∃ k,cs[z]? =some k:=⟨_,List.getElem?_eq_getElem aa⟩
  obtain⟨x,Gl⟩:∃ x,xs[z]? =some x:=⟨_,List.getElem?_eq_getElem aa⟩
  obtain⟨b,off,gw,rfl,hc,⟨nm,s0,p0,n0,c0,t0,y0,m0,d0,rfl,vh,kW⟩⟩:=hu.at oW
  obtain⟨b2,Kv,cs2,rfl,mV,⟨s1,p1,n1,c1,t1,y1,m1,d1,rfl,hin2⟩⟩:=sw.at Gl
  refine VS.bg rfl (decide_eq_true (Int.ofNat_lt.2 hlt)) ?_
  refine ab ?_
  refine VO.cond rfl ew ?_
  refine wV rfl ?_
  refine ab ?_
  refine VO.read rfl [.string nm,.int .u8 (k.1:Int),.bool s0,.slice p0 n0 c0,.bool t0,.slice y0 m0 d0] rfl (bU hc 0 _ ⟨[],rfl⟩) (wV rfl ?_)
  refine ab ?_
  refine VO.ia rfl (fk Tryz.func43) (λaO β bE ba ho=>(jq _ [k.2] kk aO (iW (ho.own 42 (.base (List.mem_singleton.2 rfl)) _ _ rfl) [] (vs:=[[.bool s0,.slice p0 n0 c0,.bool t0,.slice y0 m0 d0]]) (by rfl) rfl (ea.cons (kW.kp (Kp.of (U:=UU) ba)) ea.nil) (bG rfl) fq) (by unfold bJ bV;simp;omega)).mono ?_)
  rintro o w1 ⟨r1,rfl,q1,-,aD⟩
  rw[kP] at q1
  obtain⟨s2,p4,n2,c4,t2,y2,m2,d2,rfl⟩:=q1.form
  refine aH aD ?_
  intro cj _ bb1
  refine VO.cond rfl ew (wV rfl ?_)
  refine VO.read rfl [.slice (some ⟨b2,Kv,none⟩) xs.length c3] rfl (λj u hj=>by rw[Addr.add_mid];exact hpc j u hj) (wV rfl ?_)
  refine ab ?_
  refine VO.cond rfl ew (wV rfl ?_)
  refine VO.read rfl [.bool s1,.slice p1 n1 c1,.bool t1,.slice y1 m1 d1] rfl (bU mV 0 _ ⟨[],rfl⟩) (wV rfl ?_)
  refine ab ?_
  refine VO.ia rfl (fk Tryz.func43) (λbk β bX bF ho=>(jq _ [x] kk bk (iW (ho.own 52 (.base (List.mem_singleton.2 rfl)) _ _ rfl) [] (vs:=[[.bool s1,.slice p1 n1 c1,.bool t1,.slice y1 m1 d1]]) (by rfl) rfl (ea.cons (hin2.kp (Kp.of (U:=UU) bF)) ea.nil) (bG rfl) fq) (by unfold bJ bV;simp;omega)).mono ?_)
  rintro o w2 ⟨r2,rfl,q2,-,aP⟩
  rw[kP] at q2
  obtain⟨s3,p5,n3,c5,t3,y3,m3,d3,rfl⟩:=q2.form
  refine aH aP ?_
  intro da _ bb2
  have vK:=rz oW Gl
  have Kw:mc (bV kk) w2 [.int .u8 (k.1:Int),.bool s2,.slice p4 n2 c4,.bool t2,.slice y2 m2 d2,.bool s3,.slice p5 n3 c5,.bool t3,.slice y3 m3 d3] (k.1,k.2,x):=⟨_,_,_,_,_,_,_,_,_,_,_,_,_,_,_,_,rfl,vh,q1.ki kW.rk,q2.in hin2.rk⟩
  rcases hst with ⟨eV,rfl,rfl⟩|⟨n',c',vs,sp,rfl,rfl,yq⟩
  ·refine VO.EP (cP _ _) (cQ (bV kk)) (t:=99) (e:=101) (s:=55) (a:=(k.1,k.2,x)) (cs:=[.int .u8 (k.1:Int),.bool s2,.slice p4 n2 c4,.bool t2,.slice y2 m2 d2,.bool s3,.slice p5 n3 c5,.bool t3,.slice y3 m3 d3]) rfl rfl rfl rfl rfl rfl rfl rfl (bG rfl) rfl rfl rfl Kw aa (λw8 cap sp k8 b8 BC=>wV rfl ?_)
   refine ab ?_
   refine VS.back (N-(z+1)) aa ⟨_,_,?_,?_,?_,?_,⟨z+1,_,_,by omega,rfl,rfl,rfl,.inr ⟨1,cap,_,sp,rfl,rfl,by rw[bm vK,eV];exact BC⟩⟩⟩
   ·refine⟨rfl,rfl,rfl,rfl,rfl,rfl,?_,trivial⟩
    rw[<-bA (i:=z) aa];rfl
   ·exact dy
   ·rfl
   ·exact⟨.lit rfl,BC.BW,trivial⟩
  ·have vu:=yq.len
   rw[List.length_take] at vu
   refine VO.ER (cP _ _) (cQ (bV kk)) (t:=99) (e:=101) (s:=55) (i:=56) (n:=n') (c:=c') (vs:=vs) (sp:=sp) (es:=(aU cs xs).take z) (a:=(k.1,k.2,x)) (cs:=[.int .u8 (k.1:Int),.bool s2,.slice p4 n2 c4,.bool t2,.slice y2 m2 d2,.bool s3,.slice p5 n3 c5,.bool t3,.slice y3 m3 d3]) rfl rfl rfl rfl rfl rfl rfl rfl (bG rfl) rfl (.inr rfl) rfl (yq.kp (cQ (bV kk)) cg) rfl Kw aa (λw8 DN Hu ρ k8 b8 ff BC=>wV rfl ?_)
   refine ab ?_
   refine VS.back (N-(z+1)) aa ⟨_,_,?_,?_,?_,?_,⟨z+1,_,_,by omega,rfl,rfl,rfl,.inr ⟨n' +1,DN,_,Hu,rfl,rfl,by rw[bm vK];exact BC⟩⟩⟩
   ·refine⟨rfl,rfl,rfl,rfl,rfl,rfl,?_,trivial⟩
    rw[<-bA (i:=z) aa];rfl
   ·exact dy
   ·rfl
   ·exact⟨.lit rfl,BC.BW,trivial⟩
 ·refine VS.bo rfl (decide_eq_false (λe=>hlt (Int.ofNat_lt.1 e))) ?_
  obtain rfl:z=N:=by omega
  have FH:(aU cs xs).take z=aU cs xs:=List.take_of_length_le (by unfold aU;rw[List.length_map,List.length_zip];omega)
  rw[FH] at hst
  rcases hst with ⟨eV,rfl,rfl⟩|⟨n',c',vs,sp,rfl,rfl,yq⟩
  ·refine ab ?_
   refine az ?_;intro wz kz bz
   exact⟨_,rfl,.inl ⟨rfl,eV⟩,bz⟩
  ·refine ab ?_
   refine VS.oH (cP _ _) rfl (λwz β kz bz en=> ?_)
   exact⟨_,rfl,yq.new (cQ (bV kk)) (en.own 56 _ _ rfl) kz,bz⟩
theorem vi (f:bS->Rat) (h:∀ e:bS,e.exp.2.2.2=0->f e=0) (l:List bS):dJ ((dP l).map f)=dJ (l.map f):=by
 induction l with
 | nil=>rfl
 | cons e r ih=>
   unfold dP at ih ⊢
   by_cases h0:e.exp.2.2.2=0
   ·have hz:enz e=false:=by unfold enz;simp[h0]
    rw[List.filter_cons_of_neg (by simp[hz]),ih,List.map_cons,fI,h e h0]
    grind
   ·have hz:enz e=true:=by unfold enz;simp[h0]
    rw[List.filter_cons_of_pos hz,List.map_cons,List.map_cons,fI,fI,ih]
theorem GU (l:List bS) (z:Int):eI (dP l) z=eI l z:=vi _ (λe h=>by
 unfold js
 split
 ·rfl
 ·rw[h,Rat.zero_mul]) l
theorem GV (l:List bS) (z:Int):eQ (dP l) z=eQ l z:=vi _ (λe h=>by
 unfold lQ
 split
 ·rfl
 ·rw[h,Rat.zero_mul]) l
def vm (kk:Nat) (i:Nat) (X:AV) (M:List (Nat×(TypeId×List AV))) (w:World) (es:List bS):Prop:=
 (es=[]/\X=.val (.slice none 0 0)/\M=[])\/∃ n c vs spare,X=.row i 0 n c/\M=[(i,(177,vs.flatten.map .val++spare.map .val))]/\n=es.length/\fO (nd kk) w es vs/\spare.all aL=true/\n<=c/\c<=9223372036854775807/\(vs.flatten++spare).length=c*6
theorem vm.kp {kk i:Nat} {X:AV} {M:List (Nat×(TypeId×List AV))} {w w':World} {es:List bS} (h:vm kk i X M w es) (k:Kp UU w w'):vm kk i X M w' es:=by
 rcases h with h|⟨n,c,vs,sp,h0,h1,h2,h3,h4⟩
 ·exact .inl h
 ·exact .inr ⟨n,c,vs,sp,h0,h1,h2,h3.kp (iw kk) k,h4⟩
section
variable {C:Cx} {β:Nat->Nat} {H:Hp} {w w1:World} {ids:List Nat} {X:AV} {M:List (Nat×(TypeId×List AV))}
theorem vm.in {kk i g:Nat} {es:List bS} (h:vm kk i X M w es) (o:gW C β H ids w1) (hg:g∈ids) (hG:H g=some (175,[X])) (hM:∀ x∈M,H x.1=some x.2) (k:Kp UU w w1):uX kk w1 (β g) es:=by
 have o1:=o.own g (.base hg) _ _ hG
 rcases h with ⟨rfl,rfl,rfl⟩|⟨n,c,vs,sp,rfl,rfl,h2,h3,h4,h5,h6,h7⟩
 ·exact⟨_,kO o1.cls,bP.nil _ _ _⟩
 ·have o2:=o.own i (.step (.base hg) hG (by rw[qf];simp)) _ _ (hM _ (List.mem_singleton.2 rfl))
  exact⟨_,kO o1.cls,tp (iw kk) o2 (sp.map .val) rfl (h3.kp (iw kk) k) h2 h5 h6⟩
theorem kQ.slin {α:Type} {E:World->List Value->α->Prop} {sz i:Nat} {t:TypeId} {es:List α} (h:kQ E sz t i X M w es) (hE:gj E sz) (o:gW C β H (eG [X]) w1) (hM:∀ x∈M,H x.1=some x.2) (k:Kp UU w w1):bP E sz w1 (X.aK β) es:=by
 rcases h with ⟨rfl,rfl,rfl⟩|⟨n,c,vs,sp,rfl,rfl,h3⟩
 ·exact bP.nil _ _ _
 ·exact h3.sl' hE (o.own i (.base (by simp[eG,AV.ids])) _ _ (hM _ (List.mem_singleton.2 rfl))) k
end
def RtQ (kk:Nat) (w:World) (cs:List Value) (q:Rat):Prop:=∃ s p n c t y m d,cs=[.bool s,.slice p n c,.bool t,.slice y m d]/\aQ w (.agg #[.bool s,.slice p n c,.bool t,.slice y m d]) q/\bK q kk
theorem dQ (kk:Nat):gj (RtQ kk) 4 where
 kp:=λh k=>by
  obtain⟨s,p,n,c,t,y,m,d,hv,h1,h2⟩:=h
  exact⟨_,_,_,_,_,_,_,_,hv,h1.kp k,h2⟩
 len:=λh=>by
  obtain⟨s,p,n,c,t,y,m,d,rfl,_⟩:=h
  rfl
 ok:=λh=>by
  obtain⟨s,p,n,c,t,y,m,d,rfl,_⟩:=h
  rfl
def se (kk:Nat) (w:World) (cs:List Value) (r:Bz):Prop:=∃ a b c d e f g,cs=a++(b++(c++(d++(e++(f++g)))))/\RtQ kk w a r.p.b/\RtQ kk w b r.p.s/\RtQ kk w c r.p.d/\RtQ kk w d r.p.i/\RtQ kk w e r.due/\RtQ kk w f r.bal/\RtQ kk w g r.own
theorem df (kk:Nat):gj (se kk) 28 where
 kp:=λh k=>by
  obtain⟨a,b,c,d,e,f,g,hv,h1,h2,h3,h4,h5,h6,h7⟩:=h
  exact⟨a,b,c,d,e,f,g,hv,(dQ kk).kp h1 k,(dQ kk).kp h2 k,(dQ kk).kp h3 k,(dQ kk).kp h4 k,(dQ kk).kp h5 k,(dQ kk).kp h6 k,(dQ kk).kp h7 k⟩
 len:=λh=>by
  obtain⟨a,b,c,d,e,f,g,rfl,h1,h2,h3,h4,h5,h6,h7⟩:=h
  simp only[List.length_append]
  rw[(dQ kk).len h1,(dQ kk).len h2,(dQ kk).len h3,(dQ kk).len h4,(dQ kk).len h5,(dQ kk).len h6,(dQ kk).len h7]
 ok:=λh=>by
  obtain⟨a,b,c,d,e,f,g,rfl,h1,h2,h3,h4,h5,h6,h7⟩:=h
  simp only[List.all_append]
  rw[(dQ kk).ok h1,(dQ kk).ok h2,(dQ kk).ok h3,(dQ kk).ok h4,(dQ kk).ok h5,(dQ kk).ok h6,(dQ kk).ok h7];rfl
def AK:Nat:=40000
theorem RtQ.mk {kk:Nat} {w:World} {s t:Bool} {p y:Option Addr} {n c m d:Nat} {q:Rat} (h:aQ w (.agg #[.bool s,.slice p n c,.bool t,.slice y m d]) q) (hs:bK q kk):RtQ kk w [.bool s,.slice p n c,.bool t,.slice y m d] q:=⟨_,_,_,_,_,_,_,_,rfl,h,hs⟩
theorem kS {cs:List gl} {xss:List (List Rat)} {y:Nat} (h:y<xss.length):(eR cs xss)[y]? =some (iy cs xss y):=by
 unfold eR
 rw[List.getElem?_map,List.getElem?_range h];rfl
theorem GW {l:List bS} {y:Nat} {p:gl×Rat} (hy:y<=9999) (h:1<=gN p.1.2):gh (dP l) (qg y p)=dP (l++[qg y p]):=by
 unfold gh
 rw[if_neg (by rw[ru hy h];simp)]
 unfold dP
 rw[List.filter_append]
 by_cases hz:(qg y p).exp.2.2.2=0
 ·rw[if_pos hz,List.filter_cons_of_neg (by unfold enz;simp[hz]),List.filter_nil,List.append_nil]
 ·rw[if_neg hz,List.filter_cons_of_pos (by unfold enz;simp[hz]),List.filter_nil]
theorem sf (l:List bS):(dP l).length<=l.length:=List.length_filter_le _ _
theorem rA {cs:List gl} {xss:List (List Rat)} (h:∀ k∈cs,k.1=6->1<=gN k.2):∀ n,n<=9999->∀ e∈cH cs xss n,cz e.exp=false
 | 0,_,e,he=>by simp[cH] at he
 | n+1,hn,e,he=>by
   rw[show cH cs xss (n+1)=cH cs xss n++jt n (cs.zip (xss.getD n [])) from rfl] at he
   rcases List.mem_append.1 he with he|he
   ·exact rA h n aa e he
   ·unfold jt at he
    obtain⟨p,hp,rfl⟩:=List.mem_map.1 he
    obtain⟨hp1,hp2⟩:=List.mem_filter.1 hp
    refine ru aa (h p.1 (List.of_mem_zip (show (p.1,p.2)∈_ from hp1)).1 ?_)
    unfold jY at hp2
    exact eq_of_beq hp2
set_option maxRecDepth 4000
theorem VO.via {C:Cx} {m:Option (List FuncId)} {full:Array Oper} {l:List Oper} {Q:Exit->Act->World->Prop} {F:Fr} {H:Hp} {w:World} {P:Fr->Hp->World->Prop} {Ky Kz:List It} (h1:(∀ F' H' w',P F' H' w'->VS C Q Kz F' H' w')->ak C m full l (VS C Q Ky) F H w) (h2:∀ F' H' w',P F' H' w'->VS C Q Kz F' H' w'):ak C m full l (VS C Q Ky) F H w:=h1 h2
theorem VO.join {C:Cx} {m:Option (List FuncId)} {full:Array Oper} {l:List Oper} {Q:Exit->Act->World->Prop} {F:Fr} {H:Hp} {w:World} {P:Fr->Hp->World->Prop} {stk:List It} (h1:(∀ F' H' w',P F' H' w'->VS C Q stk F' H' w')->ak C m full l (VS C Q stk) F H w) (h2:∀ F' H' w',P F' H' w'->VS C Q stk F' H' w'):ak C m full l (VS C Q stk) F H w:=h1 h2
def lR (cs:List gl) (xss:List (List Rat)) (y z:Nat):List bS:=cH cs xss y++jt y ((cs.zip (xss.getD y [])).take z)
theorem BD {cs:List gl} {xss:List (List Rat)} {T y z:Nat} (hy:y<T) (h:T*cs.length<=128):(lR cs xss y z).length<=128:=by
 have h1:=BA cs xss y
 have h2:(jt y ((cs.zip (xss.getD y [])).take z)).length<=cs.length:=by
  unfold jt;rw[List.length_map]
  exact Nat.le_trans (List.length_filter_le _ _) (by rw[List.length_take,List.length_zip];omega)
 unfold lR
 rw[List.length_append]
 have h3:(y+1)*cs.length<=T*cs.length:=Nat.mul_le_mul_right _ hy
 rw[Nat.add_mul,Nat.one_mul] at h3
 omega
theorem xp {cs:List gl} {xss:List (List Rat)} {y z:Nat} {k:gl} {x:Rat} (h1:cs[z]? =some k) (h2:(xss.getD y [])[z]? =some x):lR cs xss y (z+1)=lR cs xss y z++(if jY (k,x)=true then [qg y (k,x)] else []):=by
 unfold lR
 rw[DF (p:=(k,x)) (List.getElem?_zip_eq_some.2 ⟨h1,h2⟩),List.append_assoc]
set_option maxRecDepth 4000 in
theorem yr (v u:Value) (e:Int) (cs:List gl) (ts:List (List (List Rat))) (kk:Nat) (w:World) (hv:bP (ik kk) 6 w v cs) (hu:bP (ng kk) 1 w u ts) (hk:kk<=64) (hn:cs.length<=64) (hd:ts.length*cs.length<=128\/40<ts.length):
  Calls Tryz.prog 10 #[v,.int .i64 e,u] w λo w'=>∃ r,o=.returned (.tuple #[r,.int .i64 (me cs e ts)])/\gI (se AK) 28 49 w.heap.size w' r (iK cs e ts)/\aw w w':=by
 obtain⟨p,c,rfl,dW,eJ⟩:=hv.form
 obtain⟨p2,c2,rfl,KA,hcm2⟩:=hu.form
 obtain⟨N,hN⟩:∃ N,N=cs.length:=⟨_,rfl⟩
 obtain⟨T,hT⟩:∃ T,T=ts.length:=⟨_,rfl⟩
 rw[<-hN] at hv dW hn hd
 rw[<-hT] at hu KA hd
 rw[<-hN,<-hT]
 refine ae (C:=aX Tryz.prog w _) (args:=[_,_,_]) Tryz.func10 rfl Tryz.ntmps10 (bG rfl) ?_
 refine ab ?_
 refine VO.call rfl rfl (fk Tryz.func33) (λaO bE ba=>(Ku _ _ e cs ts kk aO (hv.bt (iA kk) ba) (hu.ry (ve kk) ba) aa).mono ?_)
 rintro o w1 ⟨rfl,aD⟩
 by_cases hm:me cs e ts≠0
 ·refine aH aD ?_
  intro cj _ bb1
  refine VS.bg rfl (bne_y hm) ?_
  refine ab ?_
  refine az ?_;intro wz kz bz
  exact⟨_,rfl,.inl ⟨rfl,by unfold iK;rw[if_neg hm]⟩,bz⟩
 replace hm:me cs e ts=0:=Decidable.byContradiction hm
 have harr:iK cs e ts=eR cs (ts.map λt=>t.getD e.toNat []):=if_pos hm
 obtain⟨hT40,he0,kE,hyr⟩:=yp hm
 rw[hm,harr]
 rw[<-hN] at kE
 rw[<-hT] at hT40
 have hTN:T*N<=128:=hd.resolve_right aa
 obtain⟨xss,BF⟩:∃ xss:List (List Rat),xss=ts.map (λt=>t.getD e.toNat []):=⟨_,rfl⟩
 rw[<-BF]
 have dR:xss.length=T:=by rw[BF,List.length_map,hT]
 have hxa:∀ y t,ts[y]? =some t->xss.getD y []=t.getD e.toNat []:=λy t h=>by rw[BF,List.getD_eq_getElem?_getD,List.getElem?_map,h];rfl
 refine aH aD ?_
 intro cj _ bb1
 refine VO.callB (t:=175) (cs:=[.slice none 0 0]) rfl rfl rfl (bG rfl) (bG rfl) rfl rfl (λbk β bX bF ho=>⟨fk Tryz.func34,(Kh bk).mono ?_⟩)
 rintro o w2 ⟨g2,rfl,hg2,mV,aP⟩
 refine⟨g2,rfl,aP,hg2,mV,λda _ bb2=>wV rfl ?_⟩
 refine ab ?_
 refine VS.loop (J:=λm L M w'=>∃ (y:Nat) (Xo Xl:AV) (Mo Ml:List (Nat×(TypeId×List AV))),y<=T/\m=T-y/\L=[(0,.val (.slice p N c)),(1,.val (.int .i64 e)),(9,Xo),(10,.box 24 0),(25,.val (.slice p2 T c2)),(26,.val (.int .i64 (T:Int))),(27,.val (.int .i64 (y:Int)))]/\
  M=(24,(175,[Xl]))::(Ml++Mo)/\kQ (se AK) 28 49 96 Xo Mo w' ((eR cs xss).take y)/\vm (bV kk) 120 Xl Ml w' (dP (cH cs xss y))) T ⟨_,_,?_,?_,?_,?_,⟨0,_,_,[],[],by omega,rfl,rfl,rfl,.inl ⟨rfl,rfl,rfl⟩,.inl ⟨rfl,rfl,rfl⟩⟩⟩ ?_
 ·exact dy
 ·exact dy
 ·rfl
 ·exact jv
 rintro m L M wJ ⟨y,Xo,Xl,Mo,Ml,hy,rfl,rfl,rfl,hO,hL⟩
 refine VS.mask [12,16,35,51,95] (by rcases hO with ⟨_,_,rfl⟩|⟨_,_,_,_,_,rfl,_⟩ <;> rcases hL with ⟨_,_,rfl⟩|⟨_,_,_,_,_,rfl,_⟩ <;> (repeat first|exact trivial|refine⟨rfl,?_⟩)) ?_
 refine ab ?_
 by_cases hlt:y<T
 ·obtain⟨t,ht⟩:∃ t,ts[y]? =some t:=⟨_,List.getElem?_eq_getElem aa⟩
  obtain⟨b,off,gw,rfl,hc,⟨tv,rfl,htv⟩⟩:=hu.at ht
  obtain⟨pt,ct,rfl⟩:=htv.sl
  obtain⟨jA,jR⟩:=kE t (List.mem_of_getElem? ht)
  have yx:=hxa y t ht
  obtain⟨xs,sw⟩:∃ xs,t[e.toNat]? =some xs:=⟨_,List.getElem?_eq_getElem jA⟩
  have DR:xss.getD y []=xs:=by rw[yx,List.getD_eq_getElem?_getD,sw];rfl
  have hxn:xs.length=N:=by rw[<-jR,List.getD_eq_getElem?_getD,sw];rfl
  refine VS.bg rfl (decide_eq_true (Int.ofNat_lt.2 hlt)) ?_
  refine ab ?_
  refine VO.cond rfl ew ?_
  refine wV rfl ?_
  refine ab ?_
  refine VO.read rfl [.slice pt t.length ct] rfl (λj u hj=>by rw[Addr.add_mid,Int.toNat_natCast];exact hc j u hj) (wV rfl ?_)
  refine ab ?_
  apply VO.via (P:=Entry (λm L M w'=>∃ (z:Nat) (Xi Xl Xt:AV) (Mi Ml Mt:List (Nat×(TypeId×List AV))),z<=N/\m=N-z/\L=[(0,.val (.slice p N c)),(1,.val (.int .i64 e)),(9,Xo),(10,.box 24 0),(11,.val (.int .i64 (y:Int))),(13,Xi),(25,.val (.slice (some ⟨b,off,none⟩) T c2)),(26,.val (.int .i64 (T:Int))),(27,.val (.int .i64 (y:Int))),(35,Xt),(36,.val (.int .i64 (N:Int))),(37,.val (.int .i64 (z:Int)))]/\
   M=(24,(175,[Xl]))::(Mt++(Mi++(Ml++Mo)))/\kQ (mc (bV kk)) 9 101 35 Xt Mt w' (aU cs xs)/\kQ (mc (bV kk)) 9 44 51 Xi Mi w' ((aU cs xs).take z)/\kQ (se AK) 28 49 96 Xo Mo w' ((eR cs xss).take y)/\vm (bV kk) 120 Xl Ml w' (dP (lR cs xss y z))) N)
  ·intro cont
   have FH:(aU cs xs).length=N:=by unfold aU;rw[List.length_map,List.length_zip];omega
   refine VO.callX (cQ (bV kk)) (dst:=35) (t:=101) (es:=aU cs xs) rfl rfl rfl (bG rfl) (bG rfl) rfl (λcX β dh dS ho=>⟨fk Tryz.func35,(DM _ _ cs xs t e kk cX (hN▸hv.bt (iA kk) dS) (htv.ry (vd kk) dS) he0 sw aa aa aa).mono ?_⟩)
   rintro o w3 ⟨r3,rfl,q3,cw⟩
   refine⟨_,rfl,cw,q3,λk3 k3' b3 eV=>wV rfl ?_,λcap3 vs3 sp3 k3 k3' b3 el3 ok3 le3 cm3 fl3=> ?_⟩
   ·have hN0:N=0:=by rw[<-FH,eV];rfl
    refine ab ?_
    refine cont _ _ _ ⟨_,_,?_,?_,?_,?_,⟨0,_,Xl,_,[],Ml,[],by omega,rfl,rfl,rfl,.inl ⟨eV,rfl,rfl⟩,.inl ⟨rfl,rfl,rfl⟩,hO.kp (df AK) cg,?_⟩⟩
    ·refine⟨rfl,rfl,rfl,rfl,rfl,rfl,rfl,rfl,rfl,rfl,?_,rfl,trivial⟩
     rw[hN0];rfl
    ·rcases hO with ⟨_,rfl,rfl⟩|⟨_,_,_,_,rfl,rfl,_⟩ <;> rcases hL with ⟨_,rfl,rfl⟩|⟨_,_,_,_,rfl,rfl,_⟩ <;> (repeat first|exact trivial|refine⟨rfl,?_⟩|refine⟨congrArg (λl=>some (_,l)) (dv (by first|exact dx.dL (by assumption)|exact ah _|(rw[<-List.map_append];exact ah _)) _ _),?_⟩)
    ·rcases hO with ⟨_,rfl,rfl⟩|⟨_,_,_,_,rfl,rfl,_⟩ <;> rcases hL with ⟨_,rfl,rfl⟩|⟨_,_,_,_,rfl,rfl,_⟩ <;> rfl
    ·rcases hO with ⟨_,rfl,rfl⟩|⟨_,_,_,_,rfl,rfl,_⟩ <;> rcases hL with ⟨_,rfl,rfl⟩|⟨_,_,_,_,rfl,rfl,_⟩ <;> (repeat first|exact trivial|refine⟨ay.lit rfl,?_⟩|refine⟨dx.BW (by assumption),?_⟩|refine⟨ay.append (.vals _) (.vals _),?_⟩|refine⟨ay.vals _,?_⟩)
    ·rw[show lR cs xss y 0=cH cs xss y from List.append_nil _];exact hL.kp cg
   ·rw[FH] at le3 ⊢
    refine wV rfl ?_
    refine ab ?_
    have hNt:dx (mc (bV kk)) 9 w3 N cap3 vs3 (sp3.map .val) (aU cs xs):=⟨FH.symm,el3,cV ok3,ah _,le3,cm3,by rw[<-List.map_append,List.length_map];exact fl3⟩
    refine cont _ _ _ ⟨_,_,?_,?_,?_,?_,⟨0,_,Xl,_,[],Ml,_,by omega,rfl,rfl,rfl,.inr ⟨N,cap3,vs3,sp3.map .val,rfl,rfl,hNt⟩,.inl ⟨rfl,rfl,rfl⟩,hO.kp (df AK) cg,?_⟩⟩
    ·exact dy
    ·rcases hO with ⟨_,rfl,rfl⟩|⟨_,_,_,_,rfl,rfl,_⟩ <;> rcases hL with ⟨_,rfl,rfl⟩|⟨_,_,_,_,rfl,rfl,_⟩ <;> (repeat first|exact trivial|refine⟨rfl,?_⟩|refine⟨congrArg (λl=>some (_,l)) (dv (by first|exact dx.dL (by assumption)|exact ah _|(rw[<-List.map_append];exact ah _)) _ _),?_⟩)
    ·rcases hO with ⟨_,rfl,rfl⟩|⟨_,_,_,_,rfl,rfl,_⟩ <;> rcases hL with ⟨_,rfl,rfl⟩|⟨_,_,_,_,rfl,rfl,_⟩ <;> rfl
    ·rcases hO with ⟨_,rfl,rfl⟩|⟨_,_,_,_,rfl,rfl,_⟩ <;> rcases hL with ⟨_,rfl,rfl⟩|⟨_,_,_,_,rfl,rfl,_⟩ <;> (repeat first|exact trivial|refine⟨ay.lit rfl,?_⟩|refine⟨dx.BW (by assumption),?_⟩|refine⟨ay.append (.vals _) (.vals _),?_⟩|refine⟨ay.vals _,?_⟩)
    ·rw[show lR cs xss y 0=cH cs xss y from List.append_nil _];exact hL.kp cg
  ·clear hO hL
   intro F0 H0 w0' hent
   refine VS.loop N hent ?_
   rintro m L M wK ⟨z,Xi,Xl,Xt,Mi,Ml,Mt,hz,rfl,rfl,rfl,DT,hI,hO,hL⟩
   refine VS.mask [15,16,50,95] (by rcases DT with ⟨_,rfl,rfl⟩|⟨_,_,_,_,rfl,rfl,_⟩ <;> rcases hI with ⟨_,rfl,rfl⟩|⟨_,_,_,_,rfl,rfl,_⟩ <;> rcases hO with ⟨_,rfl,rfl⟩|⟨_,_,_,_,rfl,rfl,_⟩ <;> rcases hL with ⟨_,rfl,rfl⟩|⟨_,_,_,_,rfl,rfl,_⟩ <;> (repeat first|exact trivial|refine⟨rfl,?_⟩)) ?_
   have FH:(aU cs xs).length=N:=by unfold aU;rw[List.length_map,List.length_zip];omega
   refine ab ?_
   by_cases hzt:z<N
   ·obtain⟨k,oW⟩:∃ k,cs[z]? =some k:=⟨_,List.getElem?_eq_getElem aa⟩
    obtain⟨x,Gl⟩:∃ x,xs[z]? =some x:=⟨_,List.getElem?_eq_getElem aa⟩
    have vK:=rz oW Gl
    rcases DT with ⟨eV,rfl,rfl⟩|⟨nt,ct2,vst,spt,rfl,rfl,hNt⟩
    ·rw[eV] at FH;exact absurd FH.symm (by simp;omega)
    have hntl:=hNt.len
    rw[FH] at hntl
    obtain⟨csI,hcs1,⟨s1,p1,n1,c1,t1,y1,m1,d1,s5,p5,n5,c5,t5,y5,m5,d5,rfl,vh,hiA,hiX⟩,hcs3,hcell⟩:=hNt.cell (cQ (bV kk)) vK
    refine VS.bg rfl (decide_eq_true (Int.ofNat_lt.2 hzt)) ?_
    refine ab ?_
    refine VO.cond rfl ew ?_
    refine wV rfl ?_
    refine ab ?_
    refine VO.iE rfl (([.int .u8 (k.1:Int),.bool s1,.slice p1 n1 c1,.bool t1,.slice y1 m1 d1,.bool s5,.slice p5 n5 c5,.bool t5,.slice y5 m5 d5]:List Value).map .val) rfl (hcell 0 _ ⟨[],rfl⟩) (wV rfl ?_)
    refine ab ?_
    apply VO.join (P:=Entry (λ_ L M w'=>∃ (Xi:AV) (Mi:List (Nat×(TypeId×List AV))),L=[(0,.val (.slice p N c)),(1,.val (.int .i64 e)),(9,Xo),(10,.box 24 0),(11,.val (.int .i64 (y:Int))),(13,Xi),(14,.val (.int .i64 (z:Int))),(15,.box 15 0),(25,.val (.slice (some ⟨b,off,none⟩) T c2)),(26,.val (.int .i64 (T:Int))),(27,.val (.int .i64 (y:Int))),(35,.row 35 0 nt ct2),(36,.val (.int .i64 (N:Int))),(37,.val (.int .i64 (z:Int)))]/\
     M=(24,(175,[Xl]))::(15,(101,([.int .u8 (k.1:Int),.bool s1,.slice p1 n1 c1,.bool t1,.slice y1 m1 d1,.bool s5,.slice p5 n5 c5,.bool t5,.slice y5 m5 d5]:List Value).map .val))::(35,(101,vst.flatten.map .val++spt))::(Mi++(Ml++Mo))/\kQ (mc (bV kk)) 9 44 51 Xi Mi w' ((aU cs xs).take (z+1))/\Kp UU wK w') 0)
    ·intro cont
     have Kw:mc (bV kk) wK [.int .u8 (k.1:Int),.bool s1,.slice p1 n1 c1,.bool t1,.slice y1 m1 d1,.bool s5,.slice p5 n5 c5,.bool t5,.slice y5 m5 d5] (k.1,k.2,x):=⟨_,_,_,_,_,_,_,_,_,_,_,_,_,_,_,_,rfl,vh,hiA,hiX⟩
     rcases hI with ⟨eV,rfl,rfl⟩|⟨n',c',vs,sp,rfl,rfl,yq⟩
     ·refine VO.EP (cP _ _) (cQ (bV kk)) (t:=36) (e:=44) (s:=50) (a:=(k.1,k.2,x)) (cs:=[.int .u8 (k.1:Int),.bool s1,.slice p1 n1 c1,.bool t1,.slice y1 m1 d1,.bool s5,.slice p5 n5 c5,.bool t5,.slice y5 m5 d5]) rfl rfl rfl rfl rfl rfl rfl rfl (bG rfl) rfl (by rcases hO with ⟨_,rfl,rfl⟩|⟨_,_,_,_,rfl,rfl,_⟩ <;> rcases hL with ⟨_,rfl,rfl⟩|⟨_,_,_,_,rfl,rfl,_⟩ <;> rfl) rfl Kw aa (λw8 cap sp k8 b8 BC=>wV rfl (wN ?_))
      refine cont _ _ _ ⟨_,_,?_,?_,?_,?_,⟨_,_,rfl,rfl,.inr ⟨1,cap,_,sp,rfl,rfl,by rw[bm vK,eV];exact BC⟩,cg⟩⟩
      ·rcases hO with ⟨_,rfl,rfl⟩|⟨_,_,_,_,rfl,rfl,_⟩ <;> rcases hL with ⟨_,rfl,rfl⟩|⟨_,_,_,_,rfl,rfl,_⟩ <;> (repeat first|exact trivial|refine⟨rfl,?_⟩)
      ·rcases hO with ⟨_,rfl,rfl⟩|⟨_,_,_,_,rfl,rfl,_⟩ <;> rcases hL with ⟨_,rfl,rfl⟩|⟨_,_,_,_,rfl,rfl,_⟩ <;> (repeat first|exact trivial|refine⟨rfl,?_⟩|refine⟨congrArg (λl=>some (_,l)) (dv (by first|exact dx.dL (by assumption)|exact ah _|(rw[<-List.map_append];exact ah _)) _ _),?_⟩)
      ·rcases hO with ⟨_,rfl,rfl⟩|⟨_,_,_,_,rfl,rfl,_⟩ <;> rcases hL with ⟨_,rfl,rfl⟩|⟨_,_,_,_,rfl,rfl,_⟩ <;> rfl
      ·rcases hO with ⟨_,rfl,rfl⟩|⟨_,_,_,_,rfl,rfl,_⟩ <;> rcases hL with ⟨_,rfl,rfl⟩|⟨_,_,_,_,rfl,rfl,_⟩ <;> (repeat first|exact trivial|refine⟨ay.lit rfl,?_⟩|refine⟨dx.BW (by assumption),?_⟩|refine⟨ay.append (.vals _) (.vals _),?_⟩|refine⟨ay.vals _,?_⟩)
     ·have vu:=yq.len
      rw[List.length_take] at vu
      refine VO.ER (cP _ _) (cQ (bV kk)) (t:=36) (e:=44) (s:=50) (i:=51) (n:=n') (c:=c') (vs:=vs) (sp:=sp) (es:=(aU cs xs).take z) (a:=(k.1,k.2,x)) (cs:=[.int .u8 (k.1:Int),.bool s1,.slice p1 n1 c1,.bool t1,.slice y1 m1 d1,.bool s5,.slice p5 n5 c5,.bool t5,.slice y5 m5 d5]) rfl rfl rfl rfl rfl rfl rfl rfl (bG rfl) rfl (.inr rfl) rfl (yq.kp (cQ (bV kk)) cg) rfl Kw aa (λw8 DN Hu ρ k8 b8 ff BC=>wV rfl (wN ?_))
      refine cont _ _ _ ⟨_,_,?_,?_,?_,?_,⟨_,_,rfl,rfl,.inr ⟨n' +1,DN,_,Hu,rfl,rfl,by rw[bm vK];exact BC⟩,cg⟩⟩
      ·rcases hO with ⟨_,rfl,rfl⟩|⟨_,_,_,_,rfl,rfl,_⟩ <;> rcases hL with ⟨_,rfl,rfl⟩|⟨_,_,_,_,rfl,rfl,_⟩ <;> (repeat first|exact trivial|refine⟨rfl,?_⟩)
      ·rcases hO with ⟨_,rfl,rfl⟩|⟨_,_,_,_,rfl,rfl,_⟩ <;> rcases hL with ⟨_,rfl,rfl⟩|⟨_,_,_,_,rfl,rfl,_⟩ <;> (repeat first|exact trivial|refine⟨rfl,?_⟩|refine⟨congrArg (λl=>some (_,l)) (dv (by first|exact dx.dL (by assumption)|exact ah _|(rw[<-List.map_append];exact ah _)) _ _),?_⟩)
      ·rcases hO with ⟨_,rfl,rfl⟩|⟨_,_,_,_,rfl,rfl,_⟩ <;> rcases hL with ⟨_,rfl,rfl⟩|⟨_,_,_,_,rfl,rfl,_⟩ <;> rfl
      ·rcases hO with ⟨_,rfl,rfl⟩|⟨_,_,_,_,rfl,rfl,_⟩ <;> rcases hL with ⟨_,rfl,rfl⟩|⟨_,_,_,_,rfl,rfl,_⟩ <;> (repeat first|exact trivial|refine⟨ay.lit rfl,?_⟩|refine⟨dx.BW (by assumption),?_⟩|refine⟨ay.append (.vals _) (.vals _),?_⟩|refine⟨ay.vals _,?_⟩)
    ·clear hI
     rintro F1 H1 w1' ⟨_,_,h1,h2,h3,h4,Xi',Mi',rfl,rfl,hI,hkp⟩
     refine VS.narrow _ _ h1 h2 h3 h4 ?_
     clear h1 h2 h3 h4 F1 H1
     refine ab ?_
     by_cases h6:k.1=6
     ·have DU:jY (k,x)=true:=by unfold jY;rw[show (k,x).1.1=6 from h6];rfl
      have hyrs:1<=gN k.2:=hyr k (List.mem_of_getElem? oW) h6
      have hwell:cz (qg y (k,x)).exp=false:=ru aa hyrs
      have Kn:lR cs xss y (z+1)=lR cs xss y z++[qg y (k,x)]:=by rw[xp oW (by rw[DR];exact Gl),if_pos DU]
      have yt:gh (dP (lR cs xss y z)) (qg y (k,x))=dP (lR cs xss y (z+1)):=by rw[Kn];exact GW aa hyrs
      have xn:(if cz (bS.exp (qg y (k,x)))=true then (2:Int) else 0)=0:=if_neg (by rw[hwell];simp)
      have EY:(dP (lR cs xss y z)).length<=128:=Nat.le_trans (sf _) (BD hlt (hN▸hTN))
      have hayl:=EX k.2
      obtain⟨bC,oC,csC,rfl,hcC,hEC⟩:=hv.at oW
      have hEC':=hEC
      obtain⟨nm,sC,pC,nC,cC,tC,yC,mC,dC,rfl,-,-⟩:=hEC'
      refine VS.bg rfl (JS (show (k.1:Int)=6 by omega)) ?_
      (repeat (first|refine wN ?_|refine wP rfl ?_|refine Gh rfl ?_|refine wO rfl rfl ?_))
      refine VS.draw (cP _ _) (mR _ _) [36+1000000] (by kernel_rfl) ?_
      refine wV rfl ?_
      refine VO.cond rfl ew ?_
      refine wV rfl ?_
      refine ab ?_
      refine VO.read rfl [.string nm,.int .u8 (k.1:Int),.bool sC,.slice pC nC cC,.bool tC,.slice yC mC dC] rfl (bU hcC 0 _ ⟨[],rfl⟩) (wV rfl ?_)
      refine ab ?_
      refine VO.cB rfl rfl (fk Tryz.func37) (λfN ig iV=>vg _ k kk fN ((iA kk).b hEC iV) aa) (λfN ig iV w4 gi lW _ uI=>wV rfl ?_)
      refine ab ?_
      refine VO.cR rfl rfl (fk Tryz.func11) (λim jl jm=>bO 0 im aa aa) (λim jl jm w5 s5 p5 n5 c5 t5 y5 m5 d5 q5 ja nZ _ yc=>wV rfl ?_)
      refine ab ?_
      refine VO.cR rfl rfl (fk Tryz.func13) (λoN ql tn=>dw _ _ x ((0:Int):Rat) (bV kk) 1 oN (hiX.kp cg) (q5.ki bK.zero) (by unfold bV;omega) aa) (λoN ql tn w6 s6 p6 n6 c6 t6 y6 m6 d6 q6 td vx _ Gq=>wV rfl ?_)
      refine ab ?_
      have q6':aQ w6 (.agg #[.bool s6,.slice p6 n6 c6,.bool t6,.slice y6 m6 d6]) x:=q6.rd.cast (by rw[show ((0:Int):Rat)=0 from rfl,Rat.add_zero])
      have fM:=q6'.raw
      have hxz:=hiX.rk
      have hxz':bK x (bV kk):=hxz.mono (by unfold bV;omega)
      rcases hL with ⟨eV,rfl,rfl⟩|⟨nl,cl,vl,spl,rfl,rfl,vB,vt,hl3,hl4,hl5,hl6⟩
      ·rw[eV] at yt
       refine VO.Km (d1:=24) (d2:=120) (y:=(y:Int)) (z:=(gN k.2:Int)) (s:=decide (x.num<0)) (xs:=limbs x.num.natAbs) (t:=decide ((x.den:Int)<0)) (ys:=limbs (x.den:Int).natAbs) (bV kk) (code:=0) (l':=dP (lR cs xss y (z+1))) xn yt rfl rfl (fk Tryz.func36) rfl (by rcases hI with ⟨_,rfl,rfl⟩|⟨_,_,_,_,rfl,rfl,_⟩ <;> rcases hO with ⟨_,rfl,rfl⟩|⟨_,_,_,_,rfl,rfl,_⟩ <;> rfl) fq (bG rfl) (bG rfl) rfl (λw1 k1 b1=>fM.k) ⟨by omega,by omega⟩ ⟨by omega,by omega⟩ hxz'.1 hxz'.2 (by unfold bV;omega) (λw7 k7 b7 hnil7=>wV rfl ?_) (λw7 n7 c7 vs7 sp7 k7 b7 h0 h1 h2 h3 h4 h5 h6=>wV rfl ?_)
       ·refine ab ?_
        refine VS.back (N-(z+1)) aa ⟨_,_,?_,?_,?_,?_,⟨z+1,Xi',.val (.slice none 0 0),.row 35 0 nt ct2,Mi',[],[(35,_)],by omega,rfl,rfl,rfl,.inr ⟨nt,ct2,vst,spt,rfl,rfl,hNt.kp (cQ (bV kk)) cg⟩,hI.kp (cQ (bV kk)) cg,hO.kp (df AK) cg,.inl ⟨hnil7,rfl,rfl⟩⟩⟩
        ·rcases hI with ⟨_,rfl,rfl⟩|⟨_,_,_,_,rfl,rfl,_⟩ <;> rcases hO with ⟨_,rfl,rfl⟩|⟨_,_,_,_,rfl,rfl,_⟩ <;> (refine⟨rfl,rfl,rfl,rfl,rfl,rfl,rfl,rfl,rfl,rfl,rfl,?_,trivial⟩;rw[<-bA (i:=z) aa];rfl)
        ·rcases hI with ⟨_,rfl,rfl⟩|⟨_,_,_,_,rfl,rfl,_⟩ <;> rcases hO with ⟨_,rfl,rfl⟩|⟨_,_,_,_,rfl,rfl,_⟩ <;> (repeat first|exact trivial|refine⟨rfl,?_⟩|refine⟨congrArg (λl=>some (_,l)) (dv (by first|exact dx.dL (by assumption)|exact ah _|(rw[<-List.map_append];exact ah _)) _ _),?_⟩)
        ·rcases hI with ⟨_,rfl,rfl⟩|⟨_,_,_,_,rfl,rfl,_⟩ <;> rcases hO with ⟨_,rfl,rfl⟩|⟨_,_,_,_,rfl,rfl,_⟩ <;> rfl
        ·rcases hI with ⟨_,rfl,rfl⟩|⟨_,_,_,_,rfl,rfl,_⟩ <;> rcases hO with ⟨_,rfl,rfl⟩|⟨_,_,_,_,rfl,rfl,_⟩ <;> (repeat first|exact trivial|refine⟨ay.lit rfl,?_⟩|refine⟨dx.BW (by assumption),?_⟩|refine⟨ay.append (.vals _) (.vals _),?_⟩|refine⟨ay.vals _,?_⟩)
       ·refine ab ?_
        refine VS.back (N-(z+1)) aa ⟨_,_,?_,?_,?_,?_,⟨z+1,Xi',.row 120 0 n7 c7,.row 35 0 nt ct2,Mi',[(120,_)],[(35,_)],by omega,rfl,rfl,rfl,.inr ⟨nt,ct2,vst,spt,rfl,rfl,hNt.kp (cQ (bV kk)) cg⟩,hI.kp (cQ (bV kk)) cg,hO.kp (df AK) cg,.inr ⟨n7,c7,vs7,sp7,rfl,rfl,h1,h2,h3,h4,h5,h6⟩⟩⟩
        ·rcases hI with ⟨_,rfl,rfl⟩|⟨_,_,_,_,rfl,rfl,_⟩ <;> rcases hO with ⟨_,rfl,rfl⟩|⟨_,_,_,_,rfl,rfl,_⟩ <;> (refine⟨rfl,rfl,rfl,rfl,rfl,rfl,rfl,rfl,rfl,rfl,rfl,?_,trivial⟩;rw[<-bA (i:=z) aa];rfl)
        ·rcases hI with ⟨_,rfl,rfl⟩|⟨_,_,_,_,rfl,rfl,_⟩ <;> rcases hO with ⟨_,rfl,rfl⟩|⟨_,_,_,_,rfl,rfl,_⟩ <;> (repeat first|exact trivial|refine⟨rfl,?_⟩|refine⟨congrArg (λl=>some (_,l)) (dv (by first|exact dx.dL (by assumption)|exact ah _|(rw[<-List.map_append];exact ah _)) _ _),?_⟩)
        ·rcases hI with ⟨_,rfl,rfl⟩|⟨_,_,_,_,rfl,rfl,_⟩ <;> rcases hO with ⟨_,rfl,rfl⟩|⟨_,_,_,_,rfl,rfl,_⟩ <;> rfl
        ·rcases hI with ⟨_,rfl,rfl⟩|⟨_,_,_,_,rfl,rfl,_⟩ <;> rcases hO with ⟨_,rfl,rfl⟩|⟨_,_,_,_,rfl,rfl,_⟩ <;> (repeat first|exact trivial|refine⟨ay.lit rfl,?_⟩|refine⟨dx.BW (by assumption),?_⟩|refine⟨ay.append (.vals _) (.vals _),?_⟩|refine⟨ay.vals _,?_⟩)
      ·refine VO.Ko (d1:=24) (d2:=120) (y:=(y:Int)) (z:=(gN k.2:Int)) (s:=decide (x.num<0)) (xs:=limbs x.num.natAbs) (t:=decide ((x.den:Int)<0)) (ys:=limbs (x.den:Int).natAbs) (bV kk) (code:=0) (l':=dP (lR cs xss y (z+1))) xn yt rfl rfl (fk Tryz.func36) rfl (by rcases hI with ⟨_,rfl,rfl⟩|⟨_,_,_,_,rfl,rfl,_⟩ <;> rcases hO with ⟨_,rfl,rfl⟩|⟨_,_,_,_,rfl,rfl,_⟩ <;> rfl) fq (bG rfl) (bG rfl) vB (vt.kp (iw (bV kk)) cg) hl3 hl4 hl5 hl6 (λ_ h=>h) (λt ht=>kp_fz ht) (λw1 k1 b1=>fM.k) ⟨by omega,by omega⟩ ⟨by omega,by omega⟩ hxz'.1 hxz'.2 (by unfold bV;omega) aa (λw7 n7 c7 vs7 sp7 ρ k7 b7 ff h1 h2 h3 h4 h5 h6=>wV rfl ?_)
       refine ab ?_
       refine VS.back (N-(z+1)) aa ⟨_,_,?_,?_,?_,?_,⟨z+1,Xi',.row 120 0 n7 c7,.row 35 0 nt ct2,Mi',[(120,_)],[(35,_)],by omega,rfl,rfl,rfl,.inr ⟨nt,ct2,vst,spt,rfl,rfl,hNt.kp (cQ (bV kk)) cg⟩,hI.kp (cQ (bV kk)) cg,hO.kp (df AK) cg,.inr ⟨n7,c7,vs7,sp7,rfl,rfl,h1,h2,h3,h4,h5,h6⟩⟩⟩
       ·rcases hI with ⟨_,rfl,rfl⟩|⟨_,_,_,_,rfl,rfl,_⟩ <;> rcases hO with ⟨_,rfl,rfl⟩|⟨_,_,_,_,rfl,rfl,_⟩ <;> (refine⟨rfl,rfl,rfl,rfl,rfl,rfl,rfl,rfl,rfl,rfl,rfl,?_,trivial⟩;rw[<-bA (i:=z) aa];rfl)
       ·rcases hI with ⟨_,rfl,rfl⟩|⟨_,_,_,_,rfl,rfl,_⟩ <;> rcases hO with ⟨_,rfl,rfl⟩|⟨_,_,_,_,rfl,rfl,_⟩ <;> (repeat first|exact trivial|refine⟨rfl,?_⟩|refine⟨congrArg (λl=>some (_,l)) (dv (by first|exact dx.dL (by assumption)|exact ah _|(rw[<-List.map_append];exact ah _)) _ _),?_⟩)
       ·rcases hI with ⟨_,rfl,rfl⟩|⟨_,_,_,_,rfl,rfl,_⟩ <;> rcases hO with ⟨_,rfl,rfl⟩|⟨_,_,_,_,rfl,rfl,_⟩ <;> rfl
       ·rcases hI with ⟨_,rfl,rfl⟩|⟨_,_,_,_,rfl,rfl,_⟩ <;> rcases hO with ⟨_,rfl,rfl⟩|⟨_,_,_,_,rfl,rfl,_⟩ <;> (repeat first|exact trivial|refine⟨ay.lit rfl,?_⟩|refine⟨dx.BW (by assumption),?_⟩|refine⟨ay.append (.vals _) (.vals _),?_⟩|refine⟨ay.vals _,?_⟩)
     ·have DU:¬ jY (k,x)=true:=by unfold jY;intro h;exact h6 (eq_of_beq h)
      have Kn:lR cs xss y (z+1)=lR cs xss y z:=by rw[xp oW (by rw[DR];exact Gl),if_neg DU,List.append_nil]
      refine VS.bo rfl (EO (show (k.1:Int)≠6 by omega)) ?_
      refine ab ?_
      refine VS.back (N-(z+1)) aa ⟨_,_,?_,?_,?_,?_,⟨z+1,Xi',Xl,.row 35 0 nt ct2,Mi',Ml,[(35,_)],by omega,rfl,rfl,rfl,.inr ⟨nt,ct2,vst,spt,rfl,rfl,hNt.kp (cQ (bV kk)) cg⟩,hI.kp (cQ (bV kk)) cg,hO.kp (df AK) cg,by rw[Kn];exact hL.kp cg⟩⟩
      ·rcases hI with ⟨_,rfl,rfl⟩|⟨_,_,_,_,rfl,rfl,_⟩ <;> rcases hO with ⟨_,rfl,rfl⟩|⟨_,_,_,_,rfl,rfl,_⟩ <;> rcases hL with ⟨_,rfl,rfl⟩|⟨_,_,_,_,rfl,rfl,_⟩ <;> (refine⟨rfl,rfl,rfl,rfl,rfl,rfl,rfl,rfl,rfl,rfl,rfl,?_,trivial⟩;rw[<-bA (i:=z) aa];rfl)
      ·rcases hI with ⟨_,rfl,rfl⟩|⟨_,_,_,_,rfl,rfl,_⟩ <;> rcases hO with ⟨_,rfl,rfl⟩|⟨_,_,_,_,rfl,rfl,_⟩ <;> rcases hL with ⟨_,rfl,rfl⟩|⟨_,_,_,_,rfl,rfl,_⟩ <;> (repeat first|exact trivial|refine⟨rfl,?_⟩|refine⟨congrArg (λl=>some (_,l)) (dv (by first|exact dx.dL (by assumption)|exact ah _|(rw[<-List.map_append];exact ah _)) _ _),?_⟩)
      ·rcases hI with ⟨_,rfl,rfl⟩|⟨_,_,_,_,rfl,rfl,_⟩ <;> rcases hO with ⟨_,rfl,rfl⟩|⟨_,_,_,_,rfl,rfl,_⟩ <;> rcases hL with ⟨_,rfl,rfl⟩|⟨_,_,_,_,rfl,rfl,_⟩ <;> rfl
      ·rcases hI with ⟨_,rfl,rfl⟩|⟨_,_,_,_,rfl,rfl,_⟩ <;> rcases hO with ⟨_,rfl,rfl⟩|⟨_,_,_,_,rfl,rfl,_⟩ <;> rcases hL with ⟨_,rfl,rfl⟩|⟨_,_,_,_,rfl,rfl,_⟩ <;> (repeat first|exact trivial|refine⟨ay.lit rfl,?_⟩|refine⟨dx.BW (by assumption),?_⟩|refine⟨ay.append (.vals _) (.vals _),?_⟩|refine⟨ay.vals _,?_⟩)
   ·refine VS.bo rfl (decide_eq_false (λe=>hzt (Int.ofNat_lt.1 e))) ?_
    obtain rfl:z=N:=by omega
    rw[List.take_of_length_le aa] at hI
    have hlN:lR cs xss y z=cH cs xss (y+1):=by
     unfold lR
     rw[List.take_of_length_le (by rw[List.length_zip,DR];omega)];rfl
    have EY:(dP (cH cs xss (y+1))).length<=128:=hlN▸Nat.le_trans (sf _) (BD hlt (hN▸hTN))
    rw[hlN] at hL
    have hlw:∀ e∈dP (cH cs xss (y+1)),cz e.exp=false:=λe he=>rA hyr (y+1) aa e (List.mem_filter.1 he).1
    have xV:bV kk<=64:=by unfold bV;omega
    have hu0:1<=bV kk:=by unfold bV;omega
    have hrs:fD (bV kk) (aU cs xs).length<=13000:=by
     rw[FH]
     have:z*(3*bV kk+2)<=64*(3*64+2):=Nat.mul_le_mul aa aa
     unfold fD;omega
    have yU:bJ (bV (bV kk)+1) (dP (cH cs xss (y+1))).length<=9000:=by
     have h1:bV (bV (bV kk)+1)+1<=66:=by unfold bV at*;omega
     have:(dP (cH cs xss (y+1))).length*(bV (bV (bV kk)+1)+1)<=128*66:=Nat.mul_le_mul EY h1
     unfold bJ;omega
    refine ab ?_
    refine VO.ia rfl (fk Tryz.func15) (λJH β ka8 ba8 ho=>(xl _ (aU cs xs) (bV kk) JH (hI.slin (cQ (bV kk)) ho (by intro q hq;rcases DT with ⟨_,rfl,rfl⟩|⟨_,_,_,_,rfl,rfl,_⟩ <;> rcases hI with ⟨_,rfl,rfl⟩|⟨_,_,_,_,rfl,rfl,_⟩ <;> first|(cases hq;done)|(cases List.mem_singleton.1 hq;rfl)) cg) hu0 aa aa).mono ?_)
    rintro o w8 ⟨r8,rfl,q8,Hn⟩
    have hPs:yL (bn (aU cs xs)) 13000:=by
     have og:∀ x∈aU cs xs,bK x.2.1 (bV kk)/\bK x.2.2 (bV kk):=by
      rcases hI with ⟨eV,_,_⟩|⟨n',c',vs,sp,_,_,yq⟩
      ·rw[eV];intro x hx;cases hx
      ·intro x hx
       obtain⟨i,hi⟩:=List.getElem?_of_mem hx
       obtain⟨cs0,_,h2,_⟩:=yq.cell (cQ (bV kk)) hi
       exact mc.sz h2 hu0
     exact (oQ hu0 _ og).mono hrs
    obtain⟨s8a,p8a,n8a,c8a,t8a,y8a,m8a,d8a,s8b,p8b,n8b,c8b,t8b,y8b,m8b,d8b,s8c,p8c,n8c,c8c,t8c,y8c,m8c,d8c,s8d,p8d,n8d,c8d,t8d,y8d,m8d,d8d,rfl,g1,g2,g3,g4⟩:=q8
    refine aH Hn ?_
    intro Dd _ bb8
    refine VO.ia rfl (fk Tryz.func38) (λwa9 β ka9 ba9 ho=>(Kf (β 24) (dP (cH cs xss (y+1))) (bV kk) (y:Int) wa9 (hL.in ho (by simp[eG,AV.ids]) rfl (by intro q hq;rcases DT with ⟨_,rfl,rfl⟩|⟨_,_,_,_,rfl,rfl,_⟩ <;> rcases hI with ⟨_,rfl,rfl⟩|⟨_,_,_,_,rfl,rfl,_⟩ <;> rcases hL with ⟨_,rfl,rfl⟩|⟨_,_,_,_,rfl,rfl,_⟩ <;> first|(cases hq;done)|(cases List.mem_singleton.1 hq;rfl)) cg) aa ⟨by omega,by omega⟩ EY).mono ?_)
    rintro o w9 ⟨r9,rfl,q9,z9,hb9⟩
    obtain⟨s9,p9,n9,c9,t9,y9,m9,d9,rfl⟩:=q9.form
    refine aH hb9 ?_
    intro Gr _ bb9
    refine VO.ia rfl (fk Tryz.func39) (λoO β rf AL ho=>(yo (β 24) (dP (cH cs xss (y+1))) (bV kk) (y:Int) oO (hL.in ho (by simp[eG,AV.ids]) rfl (by intro q hq;rcases DT with ⟨_,rfl,rfl⟩|⟨_,_,_,_,rfl,rfl,_⟩ <;> rcases hI with ⟨_,rfl,rfl⟩|⟨_,_,_,_,rfl,rfl,_⟩ <;> rcases hL with ⟨_,rfl,rfl⟩|⟨_,_,_,_,rfl,rfl,_⟩ <;> first|(cases hq;done)|(cases List.mem_singleton.1 hq;rfl)) cg) hlw aa ⟨by omega,by omega⟩ EY).mono ?_)
    rintro o w10 ⟨r10,rfl,q10,z10,qb⟩
    obtain⟨s10,p10,n10,c10,t10,y10,m10,d10,rfl⟩:=q10.form
    refine aH qb ?_
    intro ij _ Gs
    rw[GU] at q9 z9
    rw[GV] at q10 z10
    have zd:bK (eI (cH cs xss (y+1)) (y:Int)) 9000:=z9.mono yU
    have zb:bK (eQ (cH cs xss (y+1)) (y:Int)) 9000:=z10.mono yU
    refine VO.cR rfl rfl (fk Tryz.func14) (λrh uN De=>jn _ _ (bn (aU cs xs)).s (eI (cH cs xss (y+1)) (y:Int)) 13000 9000 rh (g2.ki hPs.s) (q9.ki zd) aa aa) (λrh uN De w11 s11 p11 n11 c11 t11 y11 m11 d11 q11 ye lL _ JI=>wV rfl ?_)
    refine ab ?_
    have zs:=hPs.s.sub zd
    refine VO.cR rfl rfl (fk Tryz.func14) (λrj uO Df=>jn _ _ ((bn (aU cs xs)).s-eI (cH cs xss (y+1)) (y:Int)) (bn (aU cs xs)).i 22001 13000 rj (q11.ki zs) (g4.ki hPs.i) aa aa) (λrj uO Df w12 s12 p12 n12 c12 t12 y12 m12 d12 q12 yf oP _ JJ=>wV rfl ?_)
    refine ab ?_
    have zo:=zs.sub hPs.i
    have hya:(eR cs xss)[y]? =some (DD (bn (aU cs xs)) (eI (cH cs xss (y+1)) y) (eQ (cH cs xss (y+1)) y)):=by
     rw[kS aa];unfold iy;rw[DR]
    have sI:se AK w12 [.bool s8a,.slice p8a n8a c8a,.bool t8a,.slice y8a m8a d8a,.bool s11,.slice p11 n11 c11,.bool t11,.slice y11 m11 d11,.bool s8c,.slice p8c n8c c8c,.bool t8c,.slice y8c m8c d8c,.bool s8d,.slice p8d n8d c8d,.bool t8d,.slice y8d m8d d8d,.bool s9,.slice p9 n9 c9,.bool t9,.slice y9 m9 d9,.bool s10,.slice p10 n10 c10,.bool t10,.slice y10 m10 d10,.bool s12,.slice p12 n12 c12,.bool t12,.slice y12 m12 d12] (DD (bn (aU cs xs)) (eI (cH cs xss (y+1)) y) (eQ (cH cs xss (y+1)) y)):=
     ⟨_,_,_,_,_,_,_,rfl,.mk g1.k (hPs.b.mono (by unfold AK;omega)),.mk q11.kr (zs.mono (by unfold AK;omega)),.mk g3.k (hPs.d.mono (by unfold AK;omega)),.mk g4.k (hPs.i.mono (by unfold AK;omega)),.mk q9.kr (zd.mono (by unfold AK;omega)),.mk q10.kr (zb.mono (by unfold AK;omega)),.mk q12.rd (zo.mono (by unfold AK;omega))⟩
    rcases hO with ⟨eV,rfl,rfl⟩|⟨n',c',vs,sp,rfl,rfl,yq⟩
    ·refine VO.EP (cP _ _) (df AK) (t:=26) (e:=49) (s:=95) (a:=(DD (bn (aU cs xs)) (eI (cH cs xss (y+1)) y) (eQ (cH cs xss (y+1)) y))) (cs:=[.bool s8a,.slice p8a n8a c8a,.bool t8a,.slice y8a m8a d8a,.bool s11,.slice p11 n11 c11,.bool t11,.slice y11 m11 d11,.bool s8c,.slice p8c n8c c8c,.bool t8c,.slice y8c m8c d8c,.bool s8d,.slice p8d n8d c8d,.bool t8d,.slice y8d m8d d8d,.bool s9,.slice p9 n9 c9,.bool t9,.slice y9 m9 d9,.bool s10,.slice p10 n10 c10,.bool t10,.slice y10 m10 d10,.bool s12,.slice p12 n12 c12,.bool t12,.slice y12 m12 d12]) rfl rfl rfl rfl rfl rfl rfl rfl (bG rfl) rfl (by rcases DT with ⟨_,rfl,rfl⟩|⟨_,_,_,_,rfl,rfl,_⟩ <;> rcases hI with ⟨_,rfl,rfl⟩|⟨_,_,_,_,rfl,rfl,_⟩ <;> rcases hL with ⟨_,rfl,rfl⟩|⟨_,_,_,_,rfl,rfl,_⟩ <;> rfl) rfl sI aa (λw13 cap sp k13 b13 BC=>wV rfl ?_)
     refine ab ?_
     refine VS.back (T-(y+1)) aa ⟨_,_,?_,?_,?_,?_,⟨y+1,_,Xl,[(96,_)],Ml,by omega,rfl,rfl,rfl,.inr ⟨1,cap,_,sp,rfl,rfl,by rw[bm hya,eV];exact BC⟩,hL.kp cg⟩⟩
     ·rcases DT with ⟨_,rfl,rfl⟩|⟨_,_,_,_,rfl,rfl,_⟩ <;> rcases hI with ⟨_,rfl,rfl⟩|⟨_,_,_,_,rfl,rfl,_⟩ <;> rcases hL with ⟨_,rfl,rfl⟩|⟨_,_,_,_,rfl,rfl,_⟩ <;> (refine⟨rfl,rfl,rfl,rfl,rfl,rfl,?_,trivial⟩;rw[<-bA (i:=y) aa];rfl)
     ·rcases DT with ⟨_,rfl,rfl⟩|⟨_,_,_,_,rfl,rfl,_⟩ <;> rcases hI with ⟨_,rfl,rfl⟩|⟨_,_,_,_,rfl,rfl,_⟩ <;> rcases hL with ⟨_,rfl,rfl⟩|⟨_,_,_,_,rfl,rfl,_⟩ <;> (repeat first|exact trivial|refine⟨rfl,?_⟩|refine⟨congrArg (λl=>some (_,l)) (dv (by first|exact dx.dL (by assumption)|exact ah _|(rw[<-List.map_append];exact ah _)) _ _),?_⟩)
     ·rcases DT with ⟨_,rfl,rfl⟩|⟨_,_,_,_,rfl,rfl,_⟩ <;> rcases hI with ⟨_,rfl,rfl⟩|⟨_,_,_,_,rfl,rfl,_⟩ <;> rcases hL with ⟨_,rfl,rfl⟩|⟨_,_,_,_,rfl,rfl,_⟩ <;> rfl
     ·rcases DT with ⟨_,rfl,rfl⟩|⟨_,_,_,_,rfl,rfl,_⟩ <;> rcases hI with ⟨_,rfl,rfl⟩|⟨_,_,_,_,rfl,rfl,_⟩ <;> rcases hL with ⟨_,rfl,rfl⟩|⟨_,_,_,_,rfl,rfl,_⟩ <;> (repeat first|exact trivial|refine⟨ay.lit rfl,?_⟩|refine⟨dx.BW (by assumption),?_⟩|refine⟨ay.append (.vals _) (.vals _),?_⟩|refine⟨ay.vals _,?_⟩)
    ·have vu:=yq.len
     rw[List.length_take] at vu
     refine VO.ER (cP _ _) (df AK) (t:=26) (e:=49) (s:=95) (i:=96) (n:=n') (c:=c') (vs:=vs) (sp:=sp) (es:=(eR cs xss).take y) (a:=(DD (bn (aU cs xs)) (eI (cH cs xss (y+1)) y) (eQ (cH cs xss (y+1)) y))) (cs:=[.bool s8a,.slice p8a n8a c8a,.bool t8a,.slice y8a m8a d8a,.bool s11,.slice p11 n11 c11,.bool t11,.slice y11 m11 d11,.bool s8c,.slice p8c n8c c8c,.bool t8c,.slice y8c m8c d8c,.bool s8d,.slice p8d n8d c8d,.bool t8d,.slice y8d m8d d8d,.bool s9,.slice p9 n9 c9,.bool t9,.slice y9 m9 d9,.bool s10,.slice p10 n10 c10,.bool t10,.slice y10 m10 d10,.bool s12,.slice p12 n12 c12,.bool t12,.slice y12 m12 d12]) rfl rfl rfl rfl rfl rfl rfl rfl (bG rfl) rfl (.inr rfl) (by rcases DT with ⟨_,rfl,rfl⟩|⟨_,_,_,_,rfl,rfl,_⟩ <;> rcases hI with ⟨_,rfl,rfl⟩|⟨_,_,_,_,rfl,rfl,_⟩ <;> rcases hL with ⟨_,rfl,rfl⟩|⟨_,_,_,_,rfl,rfl,_⟩ <;> rfl) (yq.kp (df AK) cg) rfl sI aa (λw13 DN Hu ρ k13 b13 ff BC=>wV rfl ?_)
     refine ab ?_
     refine VS.back (T-(y+1)) aa ⟨_,_,?_,?_,?_,?_,⟨y+1,_,Xl,[(96,_)],Ml,by omega,rfl,rfl,rfl,.inr ⟨n' +1,DN,_,Hu,rfl,rfl,by rw[bm hya];exact BC⟩,hL.kp cg⟩⟩
     ·rcases DT with ⟨_,rfl,rfl⟩|⟨_,_,_,_,rfl,rfl,_⟩ <;> rcases hI with ⟨_,rfl,rfl⟩|⟨_,_,_,_,rfl,rfl,_⟩ <;> rcases hL with ⟨_,rfl,rfl⟩|⟨_,_,_,_,rfl,rfl,_⟩ <;> (refine⟨rfl,rfl,rfl,rfl,rfl,rfl,?_,trivial⟩;rw[<-bA (i:=y) aa];rfl)
     ·rcases DT with ⟨_,rfl,rfl⟩|⟨_,_,_,_,rfl,rfl,_⟩ <;> rcases hI with ⟨_,rfl,rfl⟩|⟨_,_,_,_,rfl,rfl,_⟩ <;> rcases hL with ⟨_,rfl,rfl⟩|⟨_,_,_,_,rfl,rfl,_⟩ <;> (repeat first|exact trivial|refine⟨rfl,?_⟩|refine⟨congrArg (λl=>some (_,l)) (dv (by first|exact dx.dL (by assumption)|exact ah _|(rw[<-List.map_append];exact ah _)) _ _),?_⟩)
     ·rcases DT with ⟨_,rfl,rfl⟩|⟨_,_,_,_,rfl,rfl,_⟩ <;> rcases hI with ⟨_,rfl,rfl⟩|⟨_,_,_,_,rfl,rfl,_⟩ <;> rcases hL with ⟨_,rfl,rfl⟩|⟨_,_,_,_,rfl,rfl,_⟩ <;> rfl
     ·rcases DT with ⟨_,rfl,rfl⟩|⟨_,_,_,_,rfl,rfl,_⟩ <;> rcases hI with ⟨_,rfl,rfl⟩|⟨_,_,_,_,rfl,rfl,_⟩ <;> rcases hL with ⟨_,rfl,rfl⟩|⟨_,_,_,_,rfl,rfl,_⟩ <;> (repeat first|exact trivial|refine⟨ay.lit rfl,?_⟩|refine⟨dx.BW (by assumption),?_⟩|refine⟨ay.append (.vals _) (.vals _),?_⟩|refine⟨ay.vals _,?_⟩)
 ·refine VS.bo rfl (decide_eq_false (λe=>hlt (Int.ofNat_lt.1 e))) ?_
  obtain rfl:y=T:=by omega
  rw[List.take_of_length_le (by unfold eR;rw[List.length_map,List.length_range];omega)] at hO
  rcases hO with ⟨eV,rfl,rfl⟩|⟨n',c',vs,sp,rfl,rfl,yq⟩
  ·refine ab ?_
   refine az ?_;intro wz kz bz
   exact⟨_,rfl,.inl ⟨rfl,eV⟩,bz⟩
  ·refine ab ?_
   refine VS.oH (cP _ _) rfl (λwz β kz bz en=> ?_)
   exact⟨_,rfl,yq.new (df AK) (en.own 96 _ _ (by rcases hL with ⟨_,rfl,rfl⟩|⟨_,_,_,_,rfl,rfl,_⟩ <;> rfl)) kz,bz⟩
set_option maxRecDepth 4000
abbrev EZ (P:Program) (w:World) (N:Nat):Cx:={ P:=P,w0:=w,N:=N,K:=⟨UU,λ_=>True,λt=>(Nat.beq t 34 || (Nat.beq t 81 || (Nat.beq t 38 || (Nat.beq t 49 || Nat.beq t 59))))⟩,SU:=λt=>Nat.beq t 30,ti:=table,keep:=λ_ _=>trivial }
theorem DV (w:World) (N:Nat):(EZ Tryz.prog w N).Ok:=kG
theorem GX (w:World) (N:Nat):(EZ Tryz.prog w N).P.follows .mixedOrders=true:=by show Tryz.prog.follows .mixedOrders=true;kernel_rfl
section
variable {F F':Fr} {H H':Hp} {w w1:World} {N:Nat} {l':List Oper} {Q:Exit->Act->World->Prop} {k:List It} {id:Nat} {ops:Array Oper}
theorem cxJ_r (e:kD (EZ Tryz.prog w1 N) ops 80 ops.toList F H=(l',F',H')) (h:ak (EZ Tryz.prog w1 N) none ops l' (VS (EZ Tryz.prog w1 N) Q k) F' H' w):VS (EZ Tryz.prog w1 N) Q (.code (.region id ops false)::k) F H w:=VS.region (DV _ _) (VO.run 80 e h)
theorem cxJ_d (e:kD (EZ Tryz.prog w1 N) ops 80 ops.toList F H=(l',F',H')) (h:ak (EZ Tryz.prog w1 N) (some []) ops l' (VS (EZ Tryz.prog w1 N) Q k) F' H' w) (kA:jg (EZ Tryz.prog w1 N).SU [] ops=true:=by kernel_rfl):VS (EZ Tryz.prog w1 N) Q (.code (.region id ops true)::k) F H w:=VS.draw (DV _ _) (GX _ _) [] kA (VO.run 80 e h)
end
theorem xq (l:List bS) (z:Int):eI l z=dJ ((l.map bS.exp).map λe=>js e z):=by unfold eI;rw[List.map_map];rfl
theorem rB (l:List bS) (z:Int):eQ l z=dJ ((l.map bS.exp).map λe=>lQ e z):=by unfold eQ;rw[List.map_map];rfl
def il (cs:List gl) (xss:List (List Rat)):Nat->List yn
 | 0=>[]
 | n+1=>il cs xss n++((cs.zip (xss.getD n [])).filter jY).map λp=>((n:Int),(gN p.1.2:Int),true,p.2)
theorem nh (cs:List gl) (xss:List (List Rat)):∀ n,(cH cs xss n).map bS.exp=il cs xss n
 | 0=>rfl
 | n+1=>by
   show (cH cs xss n++jt n _).map bS.exp=_
   rw[List.map_append,nh cs xss n]
   show _=il cs xss n++_
   congr 1
   unfold jt
   rw[List.map_map]
   refine List.map_congr_left λp _=> ?_
   show (qg n p).exp=_
   rw[qg,Bx]
theorem rC (cs:List gl) (xss:List (List Rat)) (y:Nat):iy cs xss y=DD (bn (aU cs (xss.getD y []))) (dJ ((il cs xss (y+1)).map λe=>js e y)) (dJ ((il cs xss (y+1)).map λe=>lQ e y)):=by
 unfold iy;rw[xq,rB,nh]
def wcs:List gl:=[(1,Rat.divInt 0 1),(6,Rat.divInt 2 1)]
def wts:List (List (List Rat)):=[[[Rat.divInt 100 1,Rat.divInt 10 1]],[[Rat.divInt 50 1,Rat.divInt 0 1]],[[Rat.divInt 0 1,Rat.divInt 6 1]]]
def wxs:List (List Rat):=[[Rat.divInt 100 1,Rat.divInt 10 1],[Rat.divInt 50 1,Rat.divInt 0 1],[Rat.divInt 0 1,Rat.divInt 6 1]]
theorem wmay:me wcs 0 wts=0:=by decide+kernel
theorem wrows:iK wcs 0 wts=eR wcs wxs:=if_pos wmay
theorem wlen:(eR wcs wxs).length=3:=by unfold eR;rw[List.length_map,List.length_range];rfl
theorem wnum (z:Nat) (hz:z<3):∃ (a b d:Int),([[100,0,10],[45,5,5],[-5,5,6]]:List (List Int))[z]? =some [a,b,d]/\(∃ r,(eR wcs wxs)[z]? =some r/\r.p.s=Rat.divInt a 1/\r.due=Rat.divInt b 1/\r.bal=Rat.divInt d 1)/\-100<=a/\a<=100/\-100<=b/\b<=100/\-100<=d/\d<=100:=by
 obtain rfl|rfl|rfl:z=0\/z=1\/z=2:=by omega
 ·refine⟨100,0,10,rfl,⟨_,kS fq,?_⟩,by decide⟩
  rw[rC];decide+kernel
 ·refine⟨45,5,5,rfl,⟨_,kS fq,?_⟩,by decide⟩
  rw[rC];decide+kernel
 ·refine⟨-5,5,6,rfl,⟨_,kS fq,?_⟩,by decide⟩
  rw[rC];decide+kernel
theorem ik.mk {kk k:Nat} {w:World} {nm:ByteArray} {s t:Bool} {p y:Option Addr} {n c m d:Nat} {q:Rat} (h0:k<256) (h:aC w (.agg #[.bool s,.slice p n c,.bool t,.slice y m d]) q kk):ik kk w [.string nm,.int .u8 (k:Int),.bool s,.slice p n c,.bool t,.slice y m d] (k,q):=⟨_,_,_,_,_,_,_,_,_,rfl,h0,h⟩
theorem vS.mk {kk:Nat} {w:World} {s t:Bool} {p y:Option Addr} {n c m d:Nat} {q:Rat} (h:aC w (.agg #[.bool s,.slice p n c,.bool t,.slice y m d]) q kk):vS kk w [.bool s,.slice p n c,.bool t,.slice y m d] q:=⟨_,_,_,_,_,_,_,_,rfl,h⟩
theorem KB (w:World):Calls Tryz.prog 30 #[] w λe w'=>∃ r,e=.returned r/\gI (ik 2) 6 38 w.heap.size w' r wcs/\aw w w':=by
 refine ae (C:=aX Tryz.prog w _) (args:=[]) Tryz.func30 rfl Tryz.ntmps30 (bG rfl) ?_
 refine ab ?_
 refine VO.cR rfl rfl (fk Tryz.func31) (λaO bE ba=>gJ 0 1 aO aa aa aa aa) (λaO bE ba w1 s1 p1 n1 c1 t1 y1 m1 d1 q1 aD cj _ bb1=>wV rfl ?_)
 refine ab ?_
 refine VO.cR rfl rfl (fk Tryz.func31) (λbk bX bF=>gJ 2 1 bk aa aa aa aa) (λbk bX bF w2 s2 p2 n2 c2 t2 y2 m2 d2 q2 aP da _ bb2=>wV rfl ?_)
 refine ab ?_
 refine VS.oH (cP _ _) rfl (λwz β kz bz en=> ?_)
 exact⟨_,rfl,uT (vs:=[[.string ⟨#[115,97,108,101,115]⟩,.int .u8 1,.bool s1,.slice p1 n1 c1,.bool t1,.slice y1 m1 d1],[.string ⟨#[97,100,115]⟩,.int .u8 6,.bool s2,.slice p2 n2 c2,.bool t2,.slice y2 m2 d2]]) (spare:=[]) (en.own 5 _ _ rfl) (.cons (ik.mk (k:=1) aa (q1.ki (lO aa aa aa aa))) (.cons (ik.mk (k:=6) aa (q2.ki (lO aa aa aa aa))) .nil)) rfl (Nat.le_refl _) fq rfl (λ_ _ h=>h),bz⟩
theorem KD {kk:Nat} {w:World}:gj (λ_:World=>lX kk w) 1 where
 kp:=λh _=>h
 len:=λh=>by
  obtain⟨v,rfl,_⟩:=h
  rfl
 ok:=λh=>by
  obtain⟨v,rfl,h⟩:=h
  obtain⟨p,c,rfl⟩:=h.sl
  rfl
theorem tab_len {kk:Nat} {w:World}:gj (λ_:World=>ng kk w) 1 where
 kp:=λh _=>h
 len:=λh=>by
  obtain⟨v,rfl,_⟩:=h
  rfl
 ok:=λh=>by
  obtain⟨v,rfl,h⟩:=h
  obtain⟨p,c,rfl⟩:=h.sl
  rfl
def BG (w:World) (v:Value) (B:Nat) (q r:Rat):Prop:=∃ g b s1 p1 n1 c1 t1 y1 m1 d1 s2 p2 n2 c2 t2 y2 m2 d2,v=.slice (some ⟨g,0,none⟩) 1 1/\B<=g/\B<=b/\aW w g 81 #[.slice (some ⟨b,0,none⟩) 2 2]/\aW w b 34 #[.bool s1,.slice p1 n1 c1,.bool t1,.slice y1 m1 d1,.bool s2,.slice p2 n2 c2,.bool t2,.slice y2 m2 d2]/\
 aC w (.agg #[.bool s1,.slice p1 n1 c1,.bool t1,.slice y1 m1 d1]) q 2/\aC w (.agg #[.bool s2,.slice p2 n2 c2,.bool t2,.slice y2 m2 d2]) r 2
theorem BG.kp {T:TypeId->Bool} {w w':World} {v:Value} {B:Nat} {q r:Rat} (h:BG w v B q r) (k:aR ⟨UU,λ_=>True,T⟩ w w') (h1:T 81=true) (h2:T 34=true):BG w' v B q r:=by
 have f:∀ t,T t=true->(KC.fz ⟨UU,λ_=>True,T⟩ t)=true:=λt ht=>by show (Nat.beq t UU || T t)=true;rw[ht];simp
 obtain⟨g,b,s1,p1,n1,c1,t1,y1,m1,d1,s2,p2,n2,c2,t2,y2,m2,d2,rfl,e1,e2,e3,e4,e5,e6⟩:=h
 exact⟨g,b,_,_,_,_,_,_,_,_,_,_,_,_,_,_,_,_,rfl,e1,e2,k.block _ g _ (f _ h1) trivial e3,k.block _ b _ (f _ h2) trivial e4,e5.kp k,e6.kp k⟩
theorem BG.tab {w:World} {v:Value} {B:Nat} {q r:Rat} (h:BG w v B q r):ng 2 w [v] [[q,r]]:=by
 obtain⟨g,b,s1,p1,n1,c1,t1,y1,m1,d1,s2,p2,n2,c2,t2,y2,m2,d2,rfl,e1,e2,e3,e4,e5,e6⟩:=h
 have hr:bP (vS 2) 4 w (.slice (some ⟨b,0,none⟩) 2 2) [q,r]:=nK (Ks 2) (vs:=[[.bool s1,.slice p1 n1 c1,.bool t1,.slice y1 m1 d1],[.bool s2,.slice p2 n2 c2,.bool t2,.slice y2 m2 d2]]) (spare:=[]) e4 (.cons (.mk e5) (.cons (.mk e6) .nil)) rfl (Nat.le_refl _) (show (2:Nat)<=9223372036854775807 by omega)
 have h1:lX 2 w [.slice (some ⟨b,0,none⟩) 2 2] [q,r]:=⟨_,rfl,hr⟩
 exact⟨_,rfl,(nK (E:=λ_=>lX 2 w) KD (vs:=[[.slice (some ⟨b,0,none⟩) 2 2]]) (spare:=[]) e3 (.cons h1 .nil) rfl (Nat.le_refl _) (show (1:Nat)<=9223372036854775807 by omega)).mono (λ_ _ _ _ h=>h)⟩
theorem BG.form {w:World} {v:Value} {B:Nat} {q r:Rat} (h:BG w v B q r):∃ g,v=.slice (some ⟨g,0,none⟩) 1 1:=by
 obtain⟨g,b,s1,p1,n1,c1,t1,y1,m1,d1,s2,p2,n2,c2,t2,y2,m2,d2,rfl,_⟩:=h
 exact⟨g,rfl⟩
theorem rD (a b:Int) (w:World) (a0: -1000<=a) (a1:a<=1000) (b0: -1000<=b) (b1:b<=1000):Calls Tryz.prog 32 #[.int .i64 a,.int .i64 b] w λe w'=>∃ v,e=.returned (.agg #[v])/\BG w' v w.heap.size (Rat.divInt a 1) (Rat.divInt b 1)/\aw w w':=by
 refine ae (C:=aX Tryz.prog w _) (args:=[_,_]) Tryz.func32 rfl Tryz.ntmps32 (bG rfl) ?_
 refine ab ?_
 refine VO.cR rfl rfl (fk Tryz.func31) (λaO bE ba=>gJ a 1 aO aa aa aa aa) (λaO bE ba w1 s1 p1 n1 c1 t1 y1 m1 d1 q1 aD cj _ bb1=>wV rfl ?_)
 refine ab ?_
 refine VO.cR rfl rfl (fk Tryz.func31) (λbk bX bF=>gJ b 1 bk aa aa aa aa) (λbk bX bF w2 s2 p2 n2 c2 t2 y2 m2 d2 q2 aP da _ bb2=>wV rfl ?_)
 refine ab ?_
 refine VS.oH (cP _ _) rfl (λwz β kz bz en=> ?_)
 have o1:=en.own 9 _ _ rfl
 have o2:=en.own 10 _ _ rfl
 exact⟨_,rfl,⟨β 10,β 9,_,_,_,_,_,_,_,_,_,_,_,_,_,_,_,_,rfl,o2.new,o1.new,o2.cls,o1.cls,q1.ki (lO aa aa aa aa),q2.ki (lO aa aa aa aa)⟩,bz⟩
theorem dK {P Q:Prop} (h:Q) (i:Q->P:=by intro h;(repeat first|refine wN ?_|refine wP rfl ?_|refine cxJ_r rfl ?_|refine cxJ_d rfl ?_|refine wO rfl rfl ?_);exact h):P:=i h
theorem BH {P Q X:Prop} (hb:X) (h:Q) (i:X->Q->P:=by intro hb h;refine⟨_,rfl,hb,λa b c=>wV rfl ?_⟩;refine dK ?_;revert a b c;exact h):P:=i hb h
set_option maxRecDepth 4000 in
theorem ni (w:World):Calls Tryz.prog 9 #[] w λo w'=>o=.returned (.bool true)/\aw w w':=by
 refine ae (C:=EZ Tryz.prog w _) (args:=[]) Tryz.func9 rfl Tryz.ntmps9 (bG rfl) ?_
 refine dK ?_
 refine VO.call rfl rfl (fk Tryz.func30) (λaO bE ba=>(KB aO).mono ?_)
 rintro e w1 ⟨r1,rfl,q1,aD⟩
 obtain⟨pp,cp,rfl⟩:=q1.form
 refine BH aD ?_
 intro cj _ bb1
 refine VO.call rfl rfl (fk Tryz.func32) (λbk bX bF=>(rD 100 10 bk aa aa aa aa).mono ?_)
 rintro e w2 ⟨r2,rfl,q2,aP⟩
 obtain⟨g2,rfl⟩:=q2.form
 refine BH aP ?_
 intro da _ bb2
 refine VO.call rfl rfl (fk Tryz.func32) (λcX dh dS=>(rD 50 0 cX aa aa aa aa).mono ?_)
 rintro e w3 ⟨r3,rfl,q3,cw⟩
 obtain⟨g3,rfl⟩:=q3.form
 refine BH cw ?_
 intro fi _ bb3
 refine VO.call rfl rfl (fk Tryz.func32) (λfN ig iV=>(rD 0 6 fN aa aa aa aa).mono ?_)
 rintro e w4 ⟨r4,rfl,q4,gi⟩
 obtain⟨g4,rfl⟩:=q4.form
 refine BH gi ?_
 intro lW _ uI
 refine VO.ia rfl (fk Tryz.func10) (λim β jl jm ho=>((yr _ _ 0 wcs wts 2 im ((q1.kp (iA 2) cg rfl).sl (iA 2)) ((tp (E:=λ_=>ng 2 im) tab_len (ho.own 10 (.base (by simp[eG,AV.ids])) _ _ rfl) [] (vs:=[[.slice (some ⟨g2,0,none⟩) 1 1],[.slice (some ⟨g3,0,none⟩) 1 1],[.slice (some ⟨g4,0,none⟩) 1 1]]) (by rfl) (.cons (q2.kp cg rfl rfl).tab (.cons (q3.kp cg rfl rfl).tab (.cons (q4.kp cg rfl rfl).tab .nil))) rfl (Nat.le_refl _) (show (3:Nat)<=9223372036854775807 by omega)).mono (λ_ _ _ _ h=>h)) aa fq (.inl fq)).mono (λo w2 h=>And.intro h jm.size)).mono ?_)
 rintro o w5 ⟨⟨r5,rfl,q5,ja⟩,hsz5⟩
 rw[wrows] at q5
 rw[wmay]
 obtain⟨p5,c5,rfl⟩:=q5.form
 rw[wlen] at q5 ⊢
 refine BH ja ?_
 intro nZ _ yc
 refine VS.DC (λw=>EZ Tryz.prog w 76) (λ_=>rfl) (λ_=>rfl) (λ_=>aw.refl _) (λw9 β k9 b9 en=> ?_)
 have q5':=(q5.kp (df AK) (show aR (EZ Tryz.prog w 76).K w5 w9 from cg) rfl).sl (df AK)
 have km:aw w w9:=b9
 have o24:=(en.own 24 _ _ rfl).cls
 have o21:=(en.own 21 _ _ rfl).cls
 have o22:=(en.own 22 _ _ rfl).cls
 have o23:=(en.own 23 _ _ rfl).cls
 refine⟨[(1,.val (.slice p5 3 c5)),(3,.val (.slice (some ⟨β 24,0,none⟩) 3 3)),(4,.val (.int .i64 0))],⟨⟨_,_,rfl,rfl,rfl⟩,⟨_,_,rfl,rfl,rfl⟩,⟨_,_,rfl,rfl,rfl⟩,trivial⟩,?_⟩
 have hwant:∀ z,z<3->∀ a b d,([[100,0,10],[45,5,5],[-5,5,6]]:List (List Int))[z]? =some [a,b,d]->∃ gz,w9.cell? ⟨β 24,0+((z:Nat):Int).toNat*1,none⟩=some (.slice (some ⟨gz,0,none⟩) 3 3)/\w9.cell? ⟨gz,0,none⟩=some (.int .i64 a)/\w9.cell? ⟨gz,1,none⟩=some (.int .i64 b)/\w9.cell? ⟨gz,2,none⟩=some (.int .i64 d):=by
  intro z hz a b d h
  obtain rfl|rfl|rfl:z=0\/z=1\/z=2:=by omega
  ·simp only[List.getElem?_cons_zero,Option.some.injEq,List.cons.injEq,and_true] at h
   obtain⟨rfl,rfl,rfl⟩:=h
   exact⟨β 21,o24.cell (by rfl),o21.cell (by rfl),o21.cell (by rfl),o21.cell (by rfl)⟩
  ·simp only[List.getElem?_cons_succ,List.getElem?_cons_zero,Option.some.injEq,List.cons.injEq,and_true] at h
   obtain⟨rfl,rfl,rfl⟩:=h
   exact⟨β 22,o24.cell (by rfl),o22.cell (by rfl),o22.cell (by rfl),o22.cell (by rfl)⟩
  ·simp only[List.getElem?_cons_succ,List.getElem?_cons_zero,Option.some.injEq,List.cons.injEq,and_true] at h
   obtain⟨rfl,rfl,rfl⟩:=h
   exact⟨β 23,o24.cell (by rfl),o23.cell (by rfl),o23.cell (by rfl),o23.cell (by rfl)⟩
 refine VS.loop (J:=λm L M w'=>∃ z:Nat,z<=3/\m=3-z/\L=[(1,.val (.slice p5 3 c5)),(3,.val (.slice (some ⟨β 24,0,none⟩) 3 3)),(4,.val (.int .i64 (z:Int)))]/\M=[]) 3 ⟨_,_,?_,?_,?_,?_,⟨0,by omega,rfl,rfl,rfl⟩⟩ ?_
 ·exact dy
 ·exact dy
 ·rfl
 ·exact jv
 rintro m L M wK ⟨z,hz,rfl,rfl,rfl⟩
 refine dK ?_
 by_cases hlt:z<3
 ·obtain⟨a,b,d,hw,⟨r,hr,e0,e1,e2⟩,a1,a2,b1,b2,d1,d2⟩:=wnum z hlt
  obtain⟨gz,hgz,hc0,mo,mV⟩:=hwant z hlt a b d hw
  obtain⟨bR,oR,csR,rfl,Hv,⟨_,_,_,_,_,_,_,rfl,⟨sA,pA,nA,cA,tA,yA,mA,dA,rfl,hA,zA⟩,⟨sB,pB,nB,cB,tB,yB,mB,dB,rfl,hB,zB⟩,⟨sC,pC,nC,cC,tC,yC,mC,dC,rfl,hC,zC⟩,⟨sD,pD,nD,cD,tD,yD,mD,dD,rfl,hD,zD⟩,⟨sE,pE,nE,cE,tE,yE,mE,dE,rfl,hE,zE⟩,⟨sF,pF,nF,cF,tF,yF,mF,dF,rfl,hF,zF⟩,⟨sG,pG,nG,cG,tG,yG,mG,dG,rfl,hG,zG⟩⟩⟩:=q5'.at hr
  refine VS.bg rfl (decide_eq_true (show (z:Int)<3 by omega)) ?_
  refine dK ?_
  refine VO.cond rfl ew (wV rfl ?_)
  refine dK ?_
  refine VO.read rfl [.bool sB,.slice pB nB cB,.bool tB,.slice yB mB dB] rfl (bU Hv 4 _ ⟨_,rfl⟩) (wV rfl ?_)
  refine dK ?_
  refine VO.cond rfl ew (wV rfl ?_)
  refine dK ?_
  refine VO.read rfl [.slice (some ⟨gz,0,none⟩) 3 3] rfl (fb hgz) (wV rfl ?_)
  refine dK ?_
  refine VO.cond rfl ew (wV rfl ?_)
  refine dK ?_
  refine VO.read rfl [.int .i64 a] rfl (fb hc0) (wV rfl ?_)
  refine dK ?_
  refine VO.cR rfl rfl (fk Tryz.func31) (λoO rf AL=>gJ a 1 oO aa aa aa aa) (λoO rf AL w10 s10 p10 n10 c10 t10 y10 m10 d10 q10 qb ij _ Gs=>wV rfl ?_)
  refine dK ?_
  refine VO.cB rfl rfl (fk Tryz.func16) (λrh uN De=>fA _ _ _ (Rat.divInt a 1) AK 2 rh (hB.ki zB) (q10.ki (lO aa aa aa aa)) (by unfold AK;omega) aa true (decide_eq_true e0)) (λrh uN De w11 ye lL _ JI=>wV rfl ?_)
  refine dK ?_
  refine VO.cond rfl ew (wV rfl ?_)
  refine dK ?_
  refine VO.read rfl [.bool sE,.slice pE nE cE,.bool tE,.slice yE mE dE] rfl (bU Hv 16 _ ⟨_,rfl⟩) (wV rfl ?_)
  refine dK ?_
  refine VO.cond rfl ew (wV rfl ?_)
  refine dK ?_
  refine VO.read rfl [.slice (some ⟨gz,0,none⟩) 3 3] rfl (fb hgz) (wV rfl ?_)
  refine dK ?_
  refine VO.cond rfl ew (wV rfl ?_)
  refine dK ?_
  refine VO.read rfl [.int .i64 b] rfl (fb mo) (wV rfl ?_)
  refine dK ?_
  refine VO.cR rfl rfl (fk Tryz.func31) (λrj uO Df=>gJ b 1 rj aa aa aa aa) (λrj uO Df w12 s12 p12 n12 c12 t12 y12 m12 d12 q12 yf oP _ JJ=>wV rfl ?_)
  refine dK ?_
  refine VO.cB rfl rfl (fk Tryz.func16) (λAM JK JL=>fA _ _ _ (Rat.divInt b 1) AK 2 AM (hE.ki zE) (q12.ki (lO aa aa aa aa)) (by unfold AK;omega) aa true (decide_eq_true e1)) (λAM JK JL w13 hb13 AO _ bb13=>wV rfl ?_)
  refine dK ?_
  refine VO.cond rfl ew (wV rfl ?_)
  refine dK ?_
  refine VO.read rfl [.bool sF,.slice pF nF cF,.bool tF,.slice yF mF dF] rfl (bU Hv 20 _ ⟨_,rfl⟩) (wV rfl ?_)
  refine dK ?_
  refine VO.cond rfl ew (wV rfl ?_)
  refine dK ?_
  refine VO.read rfl [.slice (some ⟨gz,0,none⟩) 3 3] rfl (fb hgz) (wV rfl ?_)
  refine dK ?_
  refine VO.cond rfl ew (wV rfl ?_)
  refine dK ?_
  refine VO.read rfl [.int .i64 d] rfl (fb mV) (wV rfl ?_)
  refine dK ?_
  refine VO.cR rfl rfl (fk Tryz.func31) (λAP yg Dg=>gJ d 1 AP aa aa aa aa) (λAP yg Dg w14 s14 p14 n14 c14 t14 y14 m14 d14 q14 hb14 Gt _ bb14=>wV rfl ?_)
  refine dK ?_
  refine VO.cB rfl rfl (fk Tryz.func16) (λAQ yh Dh=>fA _ _ _ (Rat.divInt d 1) AK 2 AQ (hF.ki zF) (q14.ki (lO aa aa aa aa)) (by unfold AK;omega) aa true (decide_eq_true e2)) (λAQ yh Dh w15 hb15 kb15 _ bb15=>wV rfl ?_)
  refine dK ?_
  refine VS.back (3-(z+1)) aa ⟨_,_,?_,?_,?_,?_,⟨z+1,by omega,rfl,rfl,rfl⟩⟩
  ·refine⟨rfl,rfl,?_,trivial⟩
   rw[<-bA (i:=z) aa];rfl
  ·exact dy
  ·rfl
  ·exact jv
 ·refine VS.bo rfl (decide_eq_false (show ¬ (z:Int)<3 by omega)) ?_
  refine dK ?_
  refine VS.ret (DV _ _) rfl rfl (λwz kz bz=> ?_)
  exact⟨rfl,km.ax bz⟩
set_option maxRecDepth 4000
def AVal (w:World) (v:Value) (r:Bz) (k:Nat):Prop:=∃ cs:List Value,v=.agg cs.toArray/\se k w cs r
def KE (v:Value) (j:Nat):Prop:=∃ s p n c t r m d,v=.agg #[.bool s,.slice p n c,.bool t,.slice r m d]/\n<=j/\m<=j
theorem aC.le {w:World} {v:Value} {q:Rat} {k j:Nat} (h:aC w v q k) (hl:KE v j):aC w v q j:=by
 obtain⟨s,xs,t,ys,hr,hq,_,_⟩:=h.inv
 obtain⟨s',p',n',c',t',r',m',d',e',h1,h2⟩:=hl
 have sQ:=hr
 obtain⟨p,c,r,d,e,_⟩:=hr
 rw[e] at e'
 simp only[Value.agg.injEq,Array.mk.injEq,List.cons.injEq,Value.slice.injEq,and_true] at e'
 exact⟨s,xs,t,ys,sQ,hq,by omega,by omega⟩
set_option maxRecDepth 4000
theorem si (v:Value) (q:Rat) (k:Nat) (w:World) (hv:aC w v q k):
  Calls Tryz.prog 25 #[v] w λe w'=>∃ b,e=.returned (.bool b)/\(b=true->KE v 4)/\aw w w':=by
 obtain⟨s,xs,t,ys,hr,hq,h1,h2⟩:=hv.inv
 have sQ:=hr
 obtain⟨p,c,r,d,rfl,_,_⟩:=hr
 refine ae (C:=aX Tryz.prog w _) (args:=[_]) Tryz.func25 rfl Tryz.ntmps25 (bG rfl) ?_
 refine ab ?_
 by_cases hx:xs.length<=4
 ·refine VO.fix 8 rfl (congrArg (λb=>AV.val (.bool b)) (decide_eq_true (show (xs.length:Int)<=4 by omega))) ?_
  refine ab ?_
  refine az ?_;intro wz kz bz
  refine⟨_,rfl,λhb=>⟨_,_,_,_,_,_,_,_,rfl,hx,?_⟩,bz⟩
  have:=of_decide_eq_true hb
  omega
 ·refine VO.fix 8 rfl (congrArg (λb=>AV.val (.bool b)) (decide_eq_false (show ¬ (xs.length:Int)<=4 by omega))) ?_
  refine ab ?_
  refine az ?_;intro wz kz bz
  exact⟨_,rfl,λhb=>(by cases hb),bz⟩
set_option maxRecDepth 4000 in
theorem KF (v u:Value) (x:Bz) (j k:Nat) (w:World) (hv:AVal w v x j) (hu:AVal w u x k):
  Calls Tryz.prog 17 #[v,u] w λe w'=>e=.returned (.bool true)/\aw w w':=by
 obtain⟨_,rfl,⟨_,_,_,_,_,_,_,rfl,⟨sA,pA,nA,cA,tA,yA,mA,dA,rfl,hA⟩,⟨sB,pB,nB,cB,tB,yB,mB,dB,rfl,hB⟩,⟨sC,pC,nC,cC,tC,yC,mC,dC,rfl,hC⟩,⟨sD,pD,nD,cD,tD,yD,mD,dD,rfl,hD⟩,⟨sE,pE,nE,cE,tE,yE,mE,dE,rfl,hE⟩,⟨sF,pF,nF,cF,tF,yF,mF,dF,rfl,hF⟩,⟨sG,pG,nG,cG,tG,yG,mG,dG,rfl,hG⟩⟩⟩:=hv
 obtain⟨_,rfl,⟨_,_,_,_,_,_,_,rfl,⟨srA,prA,nrA,crA,trA,yrA,mrA,drA,rfl,hrA⟩,⟨srB,prB,nrB,crB,trB,yrB,mrB,drB,rfl,hrB⟩,⟨srC,prC,nrC,crC,trC,yrC,mrC,drC,rfl,hrC⟩,⟨srD,prD,nrD,crD,trD,yrD,mrD,drD,rfl,hrD⟩,⟨srE,prE,nrE,crE,trE,yrE,mrE,drE,rfl,hrE⟩,⟨srF,prF,nrF,crF,trF,yrF,mrF,drF,rfl,hrF⟩,⟨srG,prG,nrG,crG,trG,yrG,mrG,drG,rfl,hrG⟩⟩⟩:=hu
 obtain⟨gA,-⟩:=hA
 obtain⟨grA,-⟩:=hrA
 obtain⟨gB,-⟩:=hB
 obtain⟨grB,-⟩:=hrB
 obtain⟨gC,-⟩:=hC
 obtain⟨grC,-⟩:=hrC
 obtain⟨gD,-⟩:=hD
 obtain⟨grD,-⟩:=hrD
 obtain⟨gE,-⟩:=hE
 obtain⟨grE,-⟩:=hrE
 obtain⟨gF,-⟩:=hF
 obtain⟨grF,-⟩:=hrF
 obtain⟨gG,-⟩:=hG
 obtain⟨grG,-⟩:=hrG
 refine ae (C:=aX Tryz.prog w _) (args:=[_,_]) Tryz.func17 rfl Tryz.ntmps17 (bG rfl) ?_
 refine ab ?_
 refine VO.cB rfl rfl (fk Tryz.func52) (λwa0 ka0 ba0=>gK x.p.b _ _ wa0 gA.k grA.k) (λwa0 ka0 ba0 w0 kV kb0 _ bb0=>wV rfl ?_)
 refine ab ?_
 refine VO.cB rfl rfl (fk Tryz.func52) (λaO bE ba=>gK x.p.s _ _ aO gB.k grB.k) (λaO bE ba w1 aD cj _ bb1=>wV rfl ?_)
 refine ab ?_
 refine VO.cB rfl rfl (fk Tryz.func52) (λbk bX bF=>gK x.p.d _ _ bk gC.k grC.k) (λbk bX bF w2 aP da _ bb2=>wV rfl ?_)
 refine ab ?_
 refine VO.cB rfl rfl (fk Tryz.func52) (λcX dh dS=>gK x.p.i _ _ cX gD.k grD.k) (λcX dh dS w3 cw fi _ bb3=>wV rfl ?_)
 refine ab ?_
 refine VO.cB rfl rfl (fk Tryz.func52) (λfN ig iV=>gK x.due _ _ fN gE.k grE.k) (λfN ig iV w4 gi lW _ uI=>wV rfl ?_)
 refine ab ?_
 refine VO.cB rfl rfl (fk Tryz.func52) (λim jl jm=>gK x.bal _ _ im gF.k grF.k) (λim jl jm w5 ja nZ _ yc=>wV rfl ?_)
 refine ab ?_
 refine VO.cB rfl rfl (fk Tryz.func52) (λoN ql tn=>gK x.own _ _ oN gG.k grG.k) (λoN ql tn w6 td vx _ Gq=>wV rfl ?_)
 refine ab ?_
 refine az ?_;intro wz kz bz
 exact⟨rfl,bz⟩
end
section
open Go.RowKit
abbrev sj:Nat:=9223372036854775807
section
variable {H:Type} {enc:TypeId×Value->H} {w:World} {held:Bool}
theorem KG {n:Int} (h:(Lit.int .u8 n).wf=true):0<=n/\n<256:=by
 simp[Lit.wf,IntKind.min,IntKind.max,IntKind.signed,IntKind.bits] at h
 omega
theorem vn (cs:List Value) (o n m:Nat) (h:m=o+n):cs.drop o=(cs.drop o).take n++cs.drop m:=by
 subst h
 have:=(List.take_append_drop n (cs.drop o)).symm
 rw[List.drop_drop] at this
 exact this
end
section
variable {H:Type} {enc:TypeId×Value->H} {w:World} {held:Bool}
theorem BI {fuel:Nat} {cs:List Value} {x:DataW H×List MemPlace} (h:DataW.trod enc Tryz.prog w 0 (λ_=>true) held fuel 34 cs=some x):∃ q:Rat,vS sj w cs q:=by
 obtain⟨s,p,n,c,t,r,m,d,xs,ys,rfl,h0⟩:=JU h
 exact⟨rq s xs t ys,_,_,_,_,_,_,_,_,rfl,h0.wide⟩
set_option maxRecDepth 100000 in
theorem BJ {α:Type} {E:World->List Value->α->Prop} {sz:Nat} {t e:TypeId} (hu:Tryz.prog.underlying t=some (.slice e)) (hc:Tryz.prog.cellsOf e=sz) (qm:0<sz)
  (sI:∀ {fuel:Nat} {cs:List Value} {x:DataW H×List MemPlace},DataW.trod enc Tryz.prog w 0 (λ_=>true) held fuel e cs=some x->∃ a,E w cs a)
  {fuel:Nat} {cs:List Value} {x:DataW H×List MemPlace} (hf:DataW.trod enc Tryz.prog w 0 (λ_=>true) held fuel t cs=some x):∃ (p:Option Addr) (n c:Nat) (es:List α),cs=[.slice p n c]/\bP E sz w (.slice p n c) es:=by
 rcases DataW.trod_slice hu hf with ⟨e,_⟩|⟨a,len',cap',elems,rest,n,_,e,_,_,hl,hm,hle,vD,_⟩
 ·exact⟨none,0,0,[],e,bP.nil _ _ _⟩
 ·refine⟨some a,len',cap',?_⟩
  rw[hc] at vD
  have each:∀ i,i<len'->∃ q,∃ b off cs,some a=some ⟨b,off,none⟩/\(∀ (j:Nat) (u:Value),cs[j]? =some u->w.cell? ⟨b,off+i*sz+j,none⟩=some u)/\E w cs q:=by
   intro i hi
   obtain⟨y,hy⟩:∃ y,elems[i]? =some y:=⟨_,List.getElem?_eq_getElem aa⟩
   have hb:=vD i hi
   rw[hy,Option.bind_eq_some_iff] at hb
   obtain⟨cs,hcs,ht⟩:=hb
   obtain⟨q,hq⟩:=sI ht
   obtain⟨_,hlen,hcell⟩:=World.cells?_some hcs
   obtain⟨b,off,spot⟩:=a
   have hspot:spot=none:=by
    obtain⟨y0,Fc⟩:∃ y,elems[0]? =some y:=⟨_,List.getElem?_eq_getElem aa⟩
    have kV:=vD 0 aa
    rw[Fc,Option.bind_eq_some_iff] at kV
    obtain⟨cs0,hcs0,ht0⟩:=kV
    obtain⟨_,hlen0,Dr⟩:=World.cells?_some hcs0
    have h00:=Dr 0 qm
    rw[List.getElem?_eq_getElem aa] at h00
    have g0:=World.cell?_spot h00
    simpa [Addr.add] using g0
   subst hspot
   refine⟨q,b,off,cs,rfl,λj u hj=> ?_,hq⟩
   have hjl:j<sz:=by have:=(List.getElem?_eq_some_iff.1 hj).1;omega
   have:=hcell j hjl
   rw[WideShapes.add_plain,WideShapes.add_plain] at this
   rw[this]
   exact hj
  obtain⟨qs,hql,hqs⟩:=Dq len' each
  subst hql
  exact⟨qs,e,_,_,rfl,hl,hm,λi q hq=>hqs i q hq⟩
set_option maxRecDepth 100000 in
theorem KH {fuel:Nat} {cs:List Value} {x:DataW H×List MemPlace} (h:DataW.trod enc Tryz.prog w 0 (λ_=>true) held fuel 38 cs=some x):∃ e:gl,ik sj w cs e:=by
 obtain⟨zs,n,rfl,rfl,hl,iM,hf⟩:=DataW.trod_struct Tryz.underlying38 h
 have vt:cs.length=6:=by
  have c:Tryz.prog.cellsOf 38=6:=by kernel_rfl
  rw[c] at hl;exact hl
 have hy2:zs.length=3:=iM
 obtain⟨z0,jQ⟩:∃ z,zs[0]? =some z:=⟨_,List.getElem?_eq_getElem aa⟩
 obtain⟨z1,kZ⟩:∃ z,zs[1]? =some z:=⟨_,List.getElem?_eq_getElem aa⟩
 obtain⟨z2,lZ⟩:∃ z,zs[2]? =some z:=⟨_,List.getElem?_eq_getElem aa⟩
 have cc0:Tryz.prog.cellsOf 9=1:=by kernel_rfl
 have h0:=hf 0 _ rfl
 rw[jQ] at h0
 change DataW.trod enc Tryz.prog w 0 (λ_=>true) held n 9 ((cs.drop 0).take (Tryz.prog.cellsOf 9))=some z0 at h0
 rw[cc0] at h0
 have cc1:Tryz.prog.cellsOf 5=1:=by kernel_rfl
 have h1:=hf 1 _ rfl
 rw[kZ] at h1
 change DataW.trod enc Tryz.prog w 0 (λ_=>true) held n 5 ((cs.drop 1).take (Tryz.prog.cellsOf 5))=some z1 at h1
 rw[cc1] at h1
 have cc2:Tryz.prog.cellsOf 34=4:=by kernel_rfl
 have h2:=hf 2 _ rfl
 rw[lZ] at h2
 change DataW.trod enc Tryz.prog w 0 (λ_=>true) held n 34 ((cs.drop 2).take (Tryz.prog.cellsOf 34))=some z2 at h2
 rw[cc2] at h2
 obtain⟨nm0,e0,_,_⟩:=DataW.trod_string Tryz.underlying9 h0
 obtain⟨k1,e1,_,oW⟩:=DataW.trod_int Tryz.underlying5 h1
 obtain⟨x2,yJ⟩:=BI h2
 have a0:cs.drop 0=(cs.drop 0).take 1++cs.drop 1:=vn cs 0 1 1 rfl
 have a1:cs.drop 1=(cs.drop 1).take 1++cs.drop 2:=vn cs 1 1 2 rfl
 have a2:cs.drop 2=(cs.drop 2).take 4:=by rw[List.take_of_length_le];rw[List.length_drop];omega
 have ecs:cs=(cs.drop 0).take 1++((cs.drop 1).take 1++((cs.drop 2).take 4)):=by
  have a:cs=cs.drop 0:=rfl
  rw[a0] at a
  rw[a1] at a
  rw[a2] at a
  exact a
 have hk':=KG oW
 obtain⟨k,rfl⟩:=Int.eq_ofNat_of_zero_le hk'.1
 obtain⟨s,p,n,c,t,y,m,d,e2,h⟩:=yJ
 rw[ecs,e0,e1,e2]
 exact⟨(k,x2),_,_,_,_,_,_,_,_,_,rfl,by omega,h⟩
set_option maxRecDepth 100000 in
theorem yv {v:Value} {d:DataW H} {ps:List MemPlace} {r:_root_.Go.Reach} {b0:Nat} (hv:Value.okWide Tryz.prog w r b0 22 v) (h:DataW.Trod enc Tryz.prog w 0 (λ_=>true) held 22 v d ps):∃ es:List gl,bP (ik sj) 6 w v es:=
 ES Tryz.underlying22 (by kernel_rfl) aa (λh=>KH h) hv h
set_option maxRecDepth 100000 in
theorem GY {fuel:Nat} {cs:List Value} {x:DataW H×List MemPlace} (h:DataW.trod enc Tryz.prog w 0 (λ_=>true) held fuel 81 cs=some x):∃ r:List Rat,lX sj w cs r:=by
 obtain⟨p,n,c,es,rfl,hs⟩:=BJ (E:=vS sj) (sz:=4) Tryz.underlying81 (by kernel_rfl) aa (λh=>BI h) h
 exact⟨es,_,rfl,hs⟩
set_option maxRecDepth 100000 in
theorem KJ {fuel:Nat} {cs:List Value} {x:DataW H×List MemPlace} (h:DataW.trod enc Tryz.prog w 0 (λ_=>true) held fuel 41 cs=some x):∃ e:List (List Rat),ng sj w cs e:=by
 obtain⟨zs,n,rfl,rfl,hl,iM,hf⟩:=DataW.trod_struct Tryz.underlying41 h
 have vt:cs.length=1:=by
  have c:Tryz.prog.cellsOf 41=1:=by kernel_rfl
  rw[c] at hl;exact hl
 have hy2:zs.length=1:=iM
 obtain⟨z0,jQ⟩:∃ z,zs[0]? =some z:=⟨_,List.getElem?_eq_getElem aa⟩
 have cc0:Tryz.prog.cellsOf 39=1:=by kernel_rfl
 have h0:=hf 0 _ rfl
 rw[jQ] at h0
 change DataW.trod enc Tryz.prog w 0 (λ_=>true) held n 39 ((cs.drop 0).take (Tryz.prog.cellsOf 39))=some z0 at h0
 rw[cc0] at h0
 obtain⟨p0,n0,d0,es0,e0,g0⟩:=BJ (E:=lX sj) (sz:=1) Tryz.underlying39 (by kernel_rfl) aa (λh=>GY h) h0
 have a0:cs.drop 0=(cs.drop 0).take 1:=by rw[List.take_of_length_le];rw[List.length_drop];omega
 have ecs:cs=(cs.drop 0).take 1:=by
  have a:cs=cs.drop 0:=rfl
  rw[a0] at a
  exact a
 rw[ecs,e0]
 exact⟨es0,_,rfl,g0⟩
set_option maxRecDepth 100000 in
theorem vT {v:Value} {d:DataW H} {ps:List MemPlace} {r:_root_.Go.Reach} {b0:Nat} (hv:Value.okWide Tryz.prog w r b0 23 v) (h:DataW.Trod enc Tryz.prog w 0 (λ_=>true) held 23 v d ps):∃ es:List (List (List Rat)),bP (ng sj) 1 w v es:=
 ES Tryz.underlying23 (by kernel_rfl) aa (λh=>KJ h) hv h
end
end
set_option maxRecDepth 4000
section
open Go.RowKit
attribute [local irreducible] ak VS
theorem ik.le {kk:Nat} {w:World} {nm:ByteArray} {k:Nat} {s t:Bool} {p y:Option Addr} {n c m d:Nat} {q:Rat} (h0:k<256) (h:aC w (.agg #[.bool s,.slice p n c,.bool t,.slice y m d]) q kk) (l:KE (.agg #[.bool s,.slice p n c,.bool t,.slice y m d]) 4):ik 4 w [.string nm,.int .u8 (k:Int),.bool s,.slice p n c,.bool t,.slice y m d] (k,q):=.mk h0 (h.le l)
theorem VS.hop {C:Cx} {Q:Exit->Act->World->Prop} {F:Fr} {H:Hp} {w:World} {P:Fr->Hp->World->Prop} {Ky Kz:List It} (h1:(∀ F' H' w',P F' H' w'->VS C Q Kz F' H' w')->VS C Q Ky F H w) (h2:∀ F' H' w',P F' H' w'->VS C Q Kz F' H' w'):VS C Q Ky F H w:=h1 h2
def FewA (w:World) (u v:Value) (cs:List gl) (ts:List (List (List Rat))):Prop:=bP (ik 4) 6 w u cs/\bP (ng 4) 1 w v ts/\cs.length<=12/\(ts.length<=6\/40<ts.length/\ts.length<50)
theorem eS {w:World} {b off z:Nat} {v:Value} (hc:∀ (j:Nat) (u:Value),[v][j]? =some u->w.cell? ⟨b,off+z*1+j,none⟩=some u):∀ (j:Nat) (u:Value),[v][j]? =some u->w.cell? ((⟨b,off+((z:Nat):Int).toNat*1,none⟩:Addr).add j)=some u:=λj u hj=>by rw[Addr.add_mid,Int.toNat_natCast];exact hc j u hj
set_option maxRecDepth 4000 in
theorem GZ (u v:Value) (cs:List gl) (ts:List (List (List Rat))) (kk:Nat) (w0 w:World) (hu:bP (ik kk) 6 w0 u cs) (hv:bP (ng kk) 1 w0 v ts) (h0:aw w0 w):
  Calls Tryz.prog 8 #[u,v] w λe w'=>∃ b,e=.returned (.bool b)/\(b=true->FewA w0 u v cs ts)/\aw w w':=by
 obtain⟨p,c,rfl,dW,eJ⟩:=hu.form
 obtain⟨p2,c2,rfl,KA,hcm2⟩:=hv.form
 obtain⟨N,hN⟩:∃ N,N=cs.length:=⟨_,rfl⟩
 obtain⟨T,hT⟩:∃ T,T=ts.length:=⟨_,rfl⟩
 rw[<-hN] at hu dW
 rw[<-hT] at hv KA
 rw[<-hN,<-hT]
 refine ae (C:=aX Tryz.prog w _) (args:=[_,_]) Tryz.func8 rfl Tryz.ntmps8 (bG rfl) ?_
 refine ab ?_
 refine VS.loop (J:=λm L M w'=>∃ z:Nat,z<=N/\z<=13/\m=N-z/\L=[(0,.val (.slice p N c)),(1,.val (.slice p2 T c2)),(5,.val (.int .i64 (z:Int)))]/\M=[]/\ma (ik 4) 6 w0 p cs z) N ⟨_,_,?_,?_,?_,?_,⟨0,by omega,by omega,rfl,rfl,rfl,ma.zero⟩⟩ ?_
 ·exact dy
 ·exact dy
 ·rfl
 ·exact jv
 rintro m L M wJ ⟨z,hz,hz13,rfl,rfl,rfl,hup⟩
 apply VS.hop (P:=λF' H' w'=>Entry (λm L M w'=>∃ i:Nat,i<=T/\i<=50/\m=T-i/\L=[(0,.val (.slice p N c)),(1,.val (.slice p2 T c2)),(6,.val (.int .i64 (i:Int)))]/\M=[]/\ma (ng 4) 1 w0 p2 ts i) T F' H' w'/\(N<=12->bP (ik 4) 6 w0 (.slice p N c) cs))
 ·intro cont
  refine ab ?_
  by_cases hlt:z<N
  ·refine VO.fix 13 rfl (congrArg (λb=>AV.val (.bool b)) (decide_eq_true (Int.ofNat_lt.2 hlt))) ?_
   refine ab ?_
   by_cases h13:(z:Int)<13
   ·refine VS.bg rfl (decide_eq_true h13) ?_
    obtain⟨x,hx⟩:∃ x,cs[z]? =some x:=⟨_,List.getElem?_eq_getElem aa⟩
    obtain⟨b,off,csx,rfl,hc,⟨nm,s,pp,n,cc,t,y,mm,d,rfl,vh,hr⟩⟩:=hu.at hx
    refine ab ?_
    refine VO.cond rfl ew ?_
    refine wV rfl ?_
    refine ab ?_
    refine VO.read rfl [.bool s,.slice pp n cc,.bool t,.slice y mm d] rfl (bU (λj u hj=>h0.cell (hc j u hj)) 2 _ ⟨[],rfl⟩) (wV rfl ?_)
    refine ab ?_
    refine VO.call rfl rfl (fk Tryz.func25) (λaO bE ba=>(si _ x.2 kk aO (hr.kp (Kp.of (U:=UU) (h0.ax ba)))).mono ?_)
    rintro e w1 ⟨b1,rfl,l1,aD⟩
    cases b1 with
    | false=>
      refine aH aD ?_
      intro cj _ bb1
      refine az ?_;intro wz kz bz
      exact⟨_,rfl,λh=>(by cases h),bz⟩
    | true=>
      refine aH aD ?_
      intro cj _ bb1
      refine VS.back (N-(z+1)) aa ⟨_,_,?_,?_,?_,?_,⟨z+1,by omega,by omega,rfl,rfl,rfl,hup.snoc hx hc (ik.le vh hr (l1 rfl))⟩⟩
      ·refine⟨rfl,rfl,?_,trivial⟩
       rw[<-bA (i:=z) aa];rfl
      ·exact dy
      ·rfl
      ·exact jv
   ·refine VS.bo rfl (decide_eq_false h13) ?_
    refine ab ?_
    refine cont _ _ _ ⟨⟨_,_,?_,?_,?_,?_,⟨0,by omega,by omega,rfl,rfl,rfl,ma.zero⟩⟩,λh=>absurd h aa⟩
    ·exact dy
    ·exact dy
    ·rfl
    ·exact jv
  ·refine VO.fix 13 rfl (congrArg (λb=>AV.val (.bool b)) (decide_eq_false (λe=>hlt (Int.ofNat_lt.1 e)))) ?_
   refine ab ?_
   refine cont _ _ _ ⟨⟨_,_,?_,?_,?_,?_,⟨0,by omega,by omega,rfl,rfl,rfl,ma.zero⟩⟩,λ_=>ma.all (show ma (ik 4) 6 w0 p cs N from (show z=N by omega)▸hup) hu⟩
   ·exact dy
   ·exact dy
   ·rfl
   ·exact jv
 rintro F1 H1 w1 ⟨hent,nO⟩
 clear hup
 refine VS.loop T hent ?_
 rintro m L M wK ⟨i,hi,hi50,rfl,rfl,rfl,hup⟩
 refine ab ?_
 by_cases hex:i<T/\i<50
 ·obtain⟨hlt,hl5⟩:=hex
  refine VO.fix 30 rfl (congrArg (λb=>AV.val (.bool b)) (decide_eq_true (Int.ofNat_lt.2 hlt))) ?_
  refine ab ?_
  refine VS.bg rfl (decide_eq_true (show (i:Int)<50 by omega)) ?_
  obtain⟨tb,ht⟩:∃ x,ts[i]? =some x:=⟨_,List.getElem?_eq_getElem aa⟩
  obtain⟨b,off,csx,rfl,hc,⟨tv,rfl,Fa⟩⟩:=hv.at ht
  obtain⟨pr,cr,rfl⟩:=Fa.sl
  obtain⟨R,hR⟩:∃ R,R=tb.length:=⟨_,rfl⟩
  rw[<-hR] at Fa hc
  refine ab ?_
  refine VS.loop (J:=λm L M w'=>∃ e:Nat,e<=R/\m=R-e/\L=[(0,.val (.slice p N c)),(1,.val (.slice (some ⟨b,off,none⟩) T c2)),(6,.val (.int .i64 (i:Int))),(7,.val (.int .i64 (e:Int)))]/\M=[]/\ma (lX 4) 1 w0 pr tb e) R ⟨_,_,?_,?_,?_,?_,⟨0,by omega,rfl,rfl,rfl,ma.zero⟩⟩ ?_
  ·exact dy
  ·exact dy
  ·rfl
  ·exact jv
  rintro m L M wL ⟨e,he,rfl,rfl,rfl,hupr⟩
  refine ab ?_
  refine VO.cond rfl ew ?_
  refine wV rfl ?_
  refine ab ?_
  refine VO.read rfl [.slice pr R cr] rfl (eS (λj u hj=>h0.cell (hc j u hj))) (wV rfl ?_)
  refine ab ?_
  by_cases hle:e<R
  ·refine VS.bg rfl (decide_eq_true (Int.ofNat_lt.2 hle)) ?_
   refine ab ?_
   by_cases h4:(e:Int)>4
   ·refine VO.fix 48 rfl (congrArg (λb=>AV.val (.bool b)) (decide_eq_true h4)) ?_
    refine ab ?_
    refine az ?_;intro wz kz bz
    exact⟨_,rfl,λh=>(by cases h),bz⟩
   refine VO.fix 48 rfl (congrArg (λb=>AV.val (.bool b)) (decide_eq_false h4)) ?_
   refine ab ?_
   obtain⟨rw0,hrw⟩:∃ x,tb[e]? =some x:=⟨_,List.getElem?_eq_getElem aa⟩
   obtain⟨br,offr,csr,rfl,hcr,⟨rv,rfl,htot⟩⟩:=Fa.at hrw
   obtain⟨pc,cc,rfl⟩:=htot.sl
   obtain⟨K,hK⟩:∃ K,K=rw0.length:=⟨_,rfl⟩
   rw[<-hK] at htot hcr
   refine VO.cond rfl ew ?_
   refine wV rfl ?_
   refine ab ?_
   refine VO.read rfl [.slice (some ⟨br,offr,none⟩) R cr] rfl (eS (λj u hj=>h0.cell (hc j u hj))) (wV rfl ?_)
   refine ab ?_
   refine VO.cond rfl ew ?_
   refine wV rfl ?_
   refine ab ?_
   refine VO.read rfl [.slice pc K cc] rfl (eS (λj u hj=>h0.cell (hcr j u hj))) (wV rfl ?_)
   refine ab ?_
   by_cases h12:(K:Int)>12
   ·refine VS.bg rfl (decide_eq_true h12) ?_
    refine ab ?_
    refine az ?_;intro wz kz bz
    exact⟨_,rfl,λh=>(by cases h),bz⟩
   refine VS.bo rfl (decide_eq_false h12) ?_
   refine ab ?_
   refine VS.loop (J:=λm L M w'=>∃ q:Nat,q<=K/\m=K-q/\L=[(0,.val (.slice p N c)),(1,.val (.slice (some ⟨b,off,none⟩) T c2)),(6,.val (.int .i64 (i:Int))),(7,.val (.int .i64 (e:Int))),(8,.val (.int .i64 (q:Int)))]/\M=[]/\ma (vS 4) 4 w0 pc rw0 q) K ⟨_,_,?_,?_,?_,?_,⟨0,by omega,rfl,rfl,rfl,ma.zero⟩⟩ ?_
   ·exact dy
   ·exact dy
   ·rfl
   ·exact jv
   rintro m L M wM ⟨q,hq,rfl,rfl,rfl,hupc⟩
   refine ab ?_
   refine VO.cond rfl ew ?_
   refine wV rfl ?_
   refine ab ?_
   refine VO.read rfl [.slice (some ⟨br,offr,none⟩) R cr] rfl (eS (λj u hj=>h0.cell (hc j u hj))) (wV rfl ?_)
   refine ab ?_
   refine VO.cond rfl ew ?_
   refine wV rfl ?_
   refine ab ?_
   refine VO.read rfl [.slice pc K cc] rfl (eS (λj u hj=>h0.cell (hcr j u hj))) (wV rfl ?_)
   refine ab ?_
   by_cases hlq:q<K
   ·refine VS.bg rfl (decide_eq_true (Int.ofNat_lt.2 hlq)) ?_
    refine ab ?_
    obtain⟨x,hx⟩:∃ x,rw0[q]? =some x:=⟨_,List.getElem?_eq_getElem aa⟩
    obtain⟨bx,offx,csx,rfl,kj,⟨s,pp,n,cx,t,y,mm,d,rfl,hrt⟩⟩:=htot.at hx
    refine VO.cond rfl ew ?_
    refine wV rfl ?_
    refine ab ?_
    refine VO.read rfl [.slice (some ⟨br,offr,none⟩) R cr] rfl (eS (λj u hj=>h0.cell (hc j u hj))) (wV rfl ?_)
    refine ab ?_
    refine VO.cond rfl ew ?_
    refine wV rfl ?_
    refine ab ?_
    refine VO.read rfl [.slice (some ⟨bx,offx,none⟩) K cc] rfl (eS (λj u hj=>h0.cell (hcr j u hj))) (wV rfl ?_)
    refine ab ?_
    refine VO.cond rfl ew ?_
    refine wV rfl ?_
    refine ab ?_
    refine VO.read rfl [.bool s,.slice pp n cx,.bool t,.slice y mm d] rfl (bU (λj u hj=>h0.cell (kj j u hj)) 0 _ ⟨[],rfl⟩) (wV rfl ?_)
    refine ab ?_
    refine VO.call rfl rfl (fk Tryz.func25) (λaO bE ba=>(si _ x kk aO (hrt.kp (Kp.of (U:=UU) (h0.ax ba)))).mono ?_)
    rintro e1 w2 ⟨b1,rfl,l1,aD⟩
    cases b1 with
    | false=>
      refine aH aD ?_
      intro cj _ bb1
      refine az ?_;intro wz kz bz
      exact⟨_,rfl,λh=>(by cases h),bz⟩
    | true=>
      refine aH aD ?_
      intro cj _ bb1
      refine VS.back (K-(q+1)) aa ⟨_,_,?_,?_,?_,?_,⟨q+1,by omega,rfl,rfl,rfl,hupc.snoc hx kj (vS.mk (hrt.le (l1 rfl)))⟩⟩
      ·refine⟨rfl,rfl,rfl,rfl,?_,trivial⟩
       rw[<-bA (i:=q) aa];rfl
      ·exact dy
      ·rfl
      ·exact jv
   ·refine VS.bo rfl (decide_eq_false (λe=>hlq (Int.ofNat_lt.1 e))) ?_
    obtain rfl:q=K:=by omega
    refine ab ?_
    refine VS.back (R-(e+1)) aa ⟨_,_,?_,?_,?_,?_,⟨e+1,by omega,rfl,rfl,rfl,hupr.snoc hrw hcr ⟨_,rfl,hupc.all htot⟩⟩⟩
    ·refine⟨rfl,rfl,rfl,?_,trivial⟩
     rw[<-bA (i:=e) aa];rfl
    ·exact dy
    ·rfl
    ·exact jv
  ·refine VS.bo rfl (decide_eq_false (λe=>hle (Int.ofNat_lt.1 e))) ?_
   obtain rfl:e=R:=by omega
   refine ab ?_
   refine VS.back (T-(i+1)) aa ⟨_,_,?_,?_,?_,?_,⟨i+1,by omega,by omega,rfl,rfl,rfl,hup.snoc ht hc ⟨_,rfl,hupr.all Fa⟩⟩⟩
   ·refine⟨rfl,rfl,?_,trivial⟩
    rw[<-bA (i:=i) aa];rfl
   ·exact dy
   ·rfl
   ·exact jv
 ·apply VO.via (P:=λF' H' w'=>Entry (λ_ L M w'=>L=[(0,.val (.slice p N c)),(1,.val (.slice p2 T c2))]/\M=[]) 0 F' H' w')
  ·intro cont
   by_cases hlt:i<T
   ·refine VO.fix 30 rfl (congrArg (λb=>AV.val (.bool b)) (decide_eq_true (Int.ofNat_lt.2 hlt))) ?_
    refine ab ?_
    refine VS.bo rfl (decide_eq_false (show ¬ (i:Int)<50 by omega)) ?_
    (repeat (first|refine wN ?_|refine wP rfl ?_|refine wO rfl rfl ?_))
    refine cont _ _ _ ⟨_,_,?_,?_,?_,?_,rfl,rfl⟩
    ·exact dy
    ·exact dy
    ·rfl
    ·exact jv
   ·refine VO.fix 30 rfl (congrArg (λb=>AV.val (.bool b)) (decide_eq_false (λe=>hlt (Int.ofNat_lt.1 e)))) ?_
    (repeat (first|refine wN ?_|refine wP rfl ?_|refine wO rfl rfl ?_))
    refine cont _ _ _ ⟨_,_,?_,?_,?_,?_,rfl,rfl⟩
    ·exact dy
    ·exact dy
    ·rfl
    ·exact jv
  ·rintro F2 H2 w2 ⟨_,_,e1,e2,e3,e4,rfl,rfl⟩
   refine VS.narrow _ _ e1 e2 e3 e4 ?_
   refine ab ?_
   by_cases KL:(N:Int)<=12
   ·refine VO.fix 89 rfl (congrArg (λb=>AV.val (.bool b)) (decide_eq_true KL)) ?_
    refine ab ?_
    by_cases hT6:(T:Int)<=6
    ·refine VO.fix 93 rfl (congrArg (λb=>AV.val (.bool b)) (decide_eq_true hT6)) ?_
     refine ab ?_
     refine az ?_;intro wz kz bz
     obtain rfl:i=T:=by omega
     exact⟨_,rfl,λ_=>⟨nO aa,hup.all hv,by omega,.inl aa⟩,bz⟩
    ·refine VO.fix 93 rfl (congrArg (λb=>AV.val (.bool b)) (decide_eq_false hT6)) ?_
     refine ab ?_
     by_cases h40:(T:Int)>40
     ·refine VO.fix 97 rfl (congrArg (λb=>AV.val (.bool b)) (decide_eq_true h40)) ?_
      refine ab ?_
      refine az ?_;intro wz kz bz
      refine⟨_,rfl,λh=> ?_,bz⟩
      have h50:(T:Int)<50:=of_decide_eq_true h
      obtain rfl:i=T:=by omega
      exact⟨nO aa,hup.all hv,by omega,.inr ⟨by omega,by omega⟩⟩
     ·refine VO.fix 97 rfl (congrArg (λb=>AV.val (.bool b)) (decide_eq_false h40)) ?_
      refine ab ?_
      refine az ?_;intro wz kz bz
      exact⟨_,rfl,λh=>(by cases h),bz⟩
   ·refine VO.fix 89 rfl (congrArg (λb=>AV.val (.bool b)) (decide_eq_false KL)) ?_
    refine ab ?_
    refine az ?_;intro wz kz bz
    exact⟨_,rfl,λh=>(by cases h),bz⟩
end
set_option maxRecDepth 4000
section
open Go.RowKit
theorem BK {l:List yn} {z:Int} (h:∀ e∈l,z<e.1):dJ (l.map λe=>lQ e z)=0:=sK h
theorem BL {cs:List gl} {xss:List (List Rat)}:∀ n,∀ e∈il cs xss n,e.1<(n:Int)
 | 0,e,he=>by simp[il] at he
 | n+1,e,he=>by
   rw[show il cs xss (n+1)=il cs xss n++((cs.zip (xss.getD n [])).filter jY).map (λp=>((n:Int),(gN p.1.2:Int),true,p.2)) from rfl] at he
   rcases List.mem_append.1 he with he|he
   ·have:=BL n e he;omega
   ·obtain⟨p,_,rfl⟩:=List.mem_map.1 he
    show (n:Int)<_;omega
theorem DW {cs:List gl} {xss:List (List Rat)} (h:∀ k∈cs,k.1=6->1<=gN k.2) (n:Nat) (hn:n<=9999):∀ e∈il cs xss n,cz e=false:=by
 intro e he
 rw[<-nh] at he
 obtain⟨x,hx,rfl⟩:=List.mem_map.1 he
 exact rA h n hn x hx
def nR (l:List (gl×Rat)):Rat:=dJ ((l.filter jY).map (·.2))
theorem xr {l:List (gl×Rat)} {i:Nat} {p:gl×Rat} (h:l[i]? =some p):nR (l.take (i+1))=nR (l.take i)+(if jY p=true then p.2 else 0):=by
 unfold nR
 rw[bm h,List.filter_append,List.map_append,nc]
 by_cases hd:jY p=true
 ·rw[if_pos hd,List.filter_cons_of_pos hd]
  show _+dJ [p.2]=_
  rw[kP]
 ·rw[if_neg hd,List.filter_cons_of_neg hd];rfl
theorem Ha {l:List yn} {y:Int} (h:∀ e∈l,e.1<y):vQ l y=0:=by
 unfold vQ
 rw[show (l.map λe=>if e.1=y then e.2.2.2 else 0)=l.map (λ_=>(0:Rat)) from List.map_congr_left λe he=>if_neg (by have:=h e he;omega)]
 clear h
 induction l with
 | nil=>rfl
 | cons x r ih=>rw[List.map_cons,fI,ih,Rat.add_zero]
theorem KM {cs:List gl} {xss:List (List Rat)} (h:∀ k∈cs,k.1=6->1<=gN k.2) (y:Nat) (hy:y+1<=9999):
  eQ (cH cs xss (y+1)) y=eQ (cH cs xss y) ((y:Int)-1)+nR (cs.zip (xss.getD y []))-eI (cH cs xss (y+1)) y:=by
 rw[rB,rB,xq,nh,nh]
 have h1:=vR (DW (xss:=xss) h (y+1) hy) (y:Int)
 unfold kM edue at h1
 rw[h1]
 have e1:il cs xss (y+1)=il cs xss y++((cs.zip (xss.getD y [])).filter jY).map (λp=>((y:Int),(gN p.1.2:Int),true,p.2)):=rfl
 have h2:dJ ((il cs xss (y+1)).map λe=>lQ e ((y:Int)-1))=dJ ((il cs xss y).map λe=>lQ e ((y:Int)-1)):=by
  rw[e1,List.map_append,nc,BK (l:=((cs.zip (xss.getD y [])).filter jY).map _) (λe he=>by
   obtain⟨p,_,rfl⟩:=List.mem_map.1 he
   show (y:Int)-1<y;omega),Rat.add_zero]
 have h3:vQ (il cs xss (y+1)) y=nR (cs.zip (xss.getD y [])):=by
  have:vQ (il cs xss (y+1)) y=vQ (il cs xss y) y+vQ (((cs.zip (xss.getD y [])).filter jY).map (λp=>((y:Int),(gN p.1.2:Int),true,p.2))) y:=by
   unfold vQ;rw[e1,List.map_append,nc]
  rw[this,Ha (BL y),Rat.zero_add]
  unfold vQ nR
  rw[List.map_map]
  congr 1
  refine List.map_congr_left λp _=> ?_
  exact if_pos rfl
 rw[h2,h3]
theorem xt {cs:List gl} {xss:List (List Rat)} {k:Nat}:∀ n,n<=k->cH cs (xss.take k) n=cH cs xss n
 | 0,_=>rfl
 | n+1,h=>by
   show cH cs (xss.take k) n++jt n (cs.zip ((xss.take k).getD n []))=cH cs xss n++jt n (cs.zip (xss.getD n []))
   rw[xt n aa,List.getD_eq_getElem?_getD,List.getD_eq_getElem?_getD,List.getElem?_take_of_lt aa]
theorem DX {cs:List gl} {xss:List (List Rat)} {k:Nat} (hk:k<=xss.length):eR cs (xss.take k)=(eR cs xss).take k:=by
 unfold eR
 rw[<-List.map_take,List.take_range,List.length_take,Nat.min_eq_left hk]
 refine List.map_congr_left λy hy=> ?_
 have hy':=List.mem_range.1 hy
 unfold iy
 rw[xt (y+1) aa,List.getD_eq_getElem?_getD,List.getD_eq_getElem?_getD,List.getElem?_take_of_lt aa]
theorem Hb {cs:List gl} {e:Int} {ts:List (List (List Rat))} {k:Nat} (h:me cs e ts=0):me cs e (ts.take k)=0:=by
 obtain⟨h1,h2,h3,h4⟩:=yp h
 have hodd:cs.any rp=false:=by
  rw[<-Bool.not_eq_true]
  intro hh
  obtain⟨x,hx,ho⟩:=List.any_eq_true.1 hh
  unfold rp at ho
  rw[Bool.and_eq_true,beq_iff_eq,beq_iff_eq] at ho
  have:=h4 x hx ho.1;omega
 have hl:(ts.take k).any (iz e cs.length)=false:=by
  rw[<-Bool.not_eq_true]
  intro hh
  obtain⟨x,hx,ho⟩:=List.any_eq_true.1 hh
  obtain⟨g1,g2⟩:=h3 x (List.mem_of_mem_take hx)
  unfold iz at ho
  rw[Bool.or_eq_true,decide_eq_true_iff,bne_iff_ne] at ho
  rcases ho with ho|ho
  ·omega
  ·exact ho g2
 unfold me
 rw[if_neg (by rw[List.length_take];omega),if_neg aa,hl,if_neg cS,hodd,if_neg cS]
theorem bP.take {α:Type} {E:World->List Value->α->Prop} {sz:Nat} {w:World} {p:Option Addr} {n c k:Nat} {es:List α} (h:bP E sz w (.slice p n c) es) (hk:k<=es.length):bP E sz w (.slice p k c) (es.take k):=by
 obtain⟨p',c',hv,h1,h2,h3⟩:=h
 cases hv
 have hl:(es.take k).length=k:=by rw[List.length_take];omega
 refine⟨p,c,by rw[hl],by omega,h2,λi a ha=>h3 i a ?_⟩
 by_cases hi:i<k
 ·rw[List.getElem?_take_of_lt hi] at ha;exact ha
 ·rw[List.getElem?_eq_none aa] at ha;cases ha
attribute [local irreducible] ak VS
theorem has_any (v:Value) (t:List (List Rat)) (xs:List Rat) (e c:Nat) (kk:Nat) (w:World) (hv:bP (lX kk) 1 w v t) (hx:t[e]? =some xs) (hc:c<xs.length):
  Calls Tryz.prog 42 #[.agg #[v],.agg #[.int .i64 (e:Int),.int .i64 (c:Int)]] w λo w'=>o=.returned (.bool true)/\aw w w':=by
 obtain⟨p,cp,rfl⟩:=hv.sl
 have sI:e<t.length:=(List.getElem?_eq_some_iff.1 hx).1
 obtain⟨b,off,csx,rfl,hcc,⟨xv,rfl,sw⟩⟩:=hv.at hx
 obtain⟨p3,c3,rfl⟩:=sw.sl
 refine ae (C:=aX Tryz.prog w _) (args:=[_,_]) Tryz.func42 rfl Tryz.ntmps42 (bG rfl) ?_
 refine ab ?_
 refine VO.fix 8 rfl (congrArg (λb=>AV.val (.bool b)) (decide_eq_true (show (e:Int)>=0 by omega))) ?_
 refine ab ?_
 refine VO.fix 16 rfl (congrArg (λb=>AV.val (.bool b)) (decide_eq_true (show (e:Int)<(t.length:Int) by omega))) ?_
 refine ab ?_
 refine VO.fix 21 rfl (congrArg (λb=>AV.val (.bool b)) (decide_eq_true (show (c:Int)>=0 by omega))) ?_
 refine ab ?_
 refine VO.cond rfl ew (wV rfl ?_)
 refine ab ?_
 refine VO.read rfl [.slice p3 xs.length c3] rfl (eS hcc) (wV rfl ?_)
 refine ab ?_
 refine az ?_;intro wz kz bz
 exact⟨congrArg (λb=>Ending.returned (.bool b)) (decide_eq_true (show (c:Int)<(xs.length:Int) by omega)),bz⟩
theorem KN (v:Value) (t:List (List Rat)) (xs:List Rat) (x:Rat) (e c:Nat) (kk:Nat) (w:World) (hv:bP (lX kk) 1 w v t) (hx:t[e]? =some xs) (hc:xs[c]? =some x) (hk:kk<=1000):
  Calls Tryz.prog 12 #[.agg #[v],.int .i64 (e:Int),.int .i64 (c:Int)] w λo w'=>∃ r,o=.returned r/\aI w' w.heap.size r x/\aw w w':=by
 obtain⟨p,cp,rfl⟩:=hv.sl
 have sI:e<t.length:=(List.getElem?_eq_some_iff.1 hx).1
 have nO:c<xs.length:=(List.getElem?_eq_some_iff.1 hc).1
 refine ae (C:=aX Tryz.prog w _) (args:=[_,_,_]) Tryz.func12 rfl Tryz.ntmps12 (bG rfl) ?_
 refine ab ?_
 refine VO.cB rfl rfl (fk Tryz.func42) (λaO bE ba=>has_any _ t xs e c kk aO (hv.ry (vd kk) ba) hx nO) (λaO bE ba w1 aD cj _ bb1=>wV rfl ?_)
 refine ab ?_
 obtain⟨b,off,csx,rfl,hcc,⟨xv,rfl,sw⟩⟩:=hv.at hx
 obtain⟨b2,Kv,csx2,hp3,mV,⟨s,pp,n,cx,tt,y,mm,d,rfl,hrt⟩⟩:∃ b off cs,xv=.slice (some ⟨b,off,none⟩) xs.length (match xv with | .slice _ _ c=>c|_=>0)/\(∀ (j:Nat) (u:Value),cs[j]? =some u->w.cell? ⟨b,off+c*4+j,none⟩=some u)/\vS kk w cs x:=by
  obtain⟨p3,c3,rfl⟩:=sw.sl
  obtain⟨b2,Kv,cs2,rfl,h1,h2⟩:=sw.at hc
  exact⟨b2,Kv,cs2,rfl,h1,h2⟩
 rw[hp3] at hcc
 generalize (match xv with | .slice _ _ c=>c|_=>0)=c3 at hcc hp3
 refine VO.cond rfl ew (wV rfl ?_)
 refine VO.read rfl [.slice (some ⟨b2,Kv,none⟩) xs.length c3] rfl (eS hcc) (wV rfl ?_)
 refine ab ?_
 refine VO.cond rfl ew (wV rfl ?_)
 refine VO.read rfl [.bool s,.slice pp n cx,.bool tt,.slice y mm d] rfl (bU mV 0 _ ⟨[],rfl⟩) (wV rfl ?_)
 refine ab ?_
 refine VO.ia rfl (fk Tryz.func43) (λbk β bX bF ho=>((jq _ [x] kk bk (iW (ho.own 22 (.base (List.mem_singleton.2 rfl)) _ _ rfl) [] (vs:=[[.bool s,.slice pp n cx,.bool tt,.slice y mm d]]) (by rfl) rfl (ea.cons (hrt.kp (Kp.of (U:=UU) bF)) ea.nil) (bG rfl) fq) (by unfold bJ bV;simp;omega)).mono (λo w2 h=>And.intro h bF.size)).mono ?_)
 rintro o w2 ⟨⟨r2,rfl,q2,-,aP⟩,hsz2⟩
 rw[kP] at q2
 obtain⟨s2,p2,n2,c2,t2,y2,m2,d2,rfl⟩:=q2.form
 refine aH aP ?_
 intro da _ bb2
 refine az ?_;intro wz kz bz
 exact⟨_,rfl,(q2.kp kz).mono hsz2,bz⟩
set_option maxRecDepth 4000 in
theorem DY (cs:List Value) (x:Bz) (kk:Nat) (w:World) (hv:se kk w cs x) (hk:kk<=1000000):
  Calls Tryz.prog 18 #[.agg cs.toArray] w λe w'=>∃ ds:List Value,e=.returned (.agg ds.toArray)/\se kk w' ds x/\aw w w':=by
 obtain⟨_,_,_,_,_,_,_,rfl,⟨sA,pA,nA,cA,tA,yA,mA,dA,rfl,hA,zA⟩,⟨sB,pB,nB,cB,tB,yB,mB,dB,rfl,hB,zB⟩,⟨sC,pC,nC,cC,tC,yC,mC,dC,rfl,hC,zC⟩,⟨sD,pD,nD,cD,tD,yD,mD,dD,rfl,hD,zD⟩,⟨sE,pE,nE,cE,tE,yE,mE,dE,rfl,hE,zE⟩,⟨sF,pF,nF,cF,tF,yF,mF,dF,rfl,hF,zF⟩,⟨sG,pG,nG,cG,tG,yG,mG,dG,rfl,hG,zG⟩⟩:=hv
 refine ae (C:=aX Tryz.prog w _) (args:=[_]) Tryz.func18 rfl Tryz.ntmps18 (bG rfl) ?_
 refine ab ?_
 refine VO.call rfl rfl (fk Tryz.func53) (λwa0 ka0 ba0=>(fC _ _ _ _ _ wa0 (hA.raw.k) (Nat.le_trans zA.1 aa) (Nat.le_trans zA.2 aa)).mono ?_)
 rintro e w0 ⟨r0,rfl,qq0,kV⟩
 have qA:=qq0.own.rd
 obtain⟨srA,prA,nrA,crA,trA,yrA,mrA,drA,rfl⟩:=qA.form
 refine aH kV ?_
 intro kb0 _ bb0
 refine VO.call rfl rfl (fk Tryz.func53) (λaO bE ba=>(fC _ _ _ _ _ aO (hB.raw.k) (Nat.le_trans zB.1 aa) (Nat.le_trans zB.2 aa)).mono ?_)
 rintro e w1 ⟨r1,rfl,qq1,aD⟩
 have qB:=qq1.own.rd
 obtain⟨srB,prB,nrB,crB,trB,yrB,mrB,drB,rfl⟩:=qB.form
 refine aH aD ?_
 intro cj _ bb1
 refine VO.call rfl rfl (fk Tryz.func53) (λbk bX bF=>(fC _ _ _ _ _ bk (hC.raw.k) (Nat.le_trans zC.1 aa) (Nat.le_trans zC.2 aa)).mono ?_)
 rintro e w2 ⟨r2,rfl,qq2,aP⟩
 have qC:=qq2.own.rd
 obtain⟨srC,prC,nrC,crC,trC,yrC,mrC,drC,rfl⟩:=qC.form
 refine aH aP ?_
 intro da _ bb2
 refine VO.call rfl rfl (fk Tryz.func53) (λcX dh dS=>(fC _ _ _ _ _ cX (hD.raw.k) (Nat.le_trans zD.1 aa) (Nat.le_trans zD.2 aa)).mono ?_)
 rintro e w3 ⟨r3,rfl,qq3,cw⟩
 have qD:=qq3.own.rd
 obtain⟨srD,prD,nrD,crD,trD,yrD,mrD,drD,rfl⟩:=qD.form
 refine aH cw ?_
 intro fi _ bb3
 refine VO.call rfl rfl (fk Tryz.func53) (λfN ig iV=>(fC _ _ _ _ _ fN (hE.raw.k) (Nat.le_trans zE.1 aa) (Nat.le_trans zE.2 aa)).mono ?_)
 rintro e w4 ⟨r4,rfl,qq4,gi⟩
 have qE:=qq4.own.rd
 obtain⟨srE,prE,nrE,crE,trE,yrE,mrE,drE,rfl⟩:=qE.form
 refine aH gi ?_
 intro lW _ uI
 refine VO.call rfl rfl (fk Tryz.func53) (λim jl jm=>(fC _ _ _ _ _ im (hF.raw.k) (Nat.le_trans zF.1 aa) (Nat.le_trans zF.2 aa)).mono ?_)
 rintro e w5 ⟨r5,rfl,qq5,ja⟩
 have qF:=qq5.own.rd
 obtain⟨srF,prF,nrF,crF,trF,yrF,mrF,drF,rfl⟩:=qF.form
 refine aH ja ?_
 intro nZ _ yc
 refine VO.call rfl rfl (fk Tryz.func53) (λoN ql tn=>(fC _ _ _ _ _ oN (hG.raw.k) (Nat.le_trans zG.1 aa) (Nat.le_trans zG.2 aa)).mono ?_)
 rintro e w6 ⟨r6,rfl,qq6,td⟩
 have qG:=qq6.own.rd
 obtain⟨srG,prG,nrG,crG,trG,yrG,mrG,drG,rfl⟩:=qG.form
 refine aH td ?_
 intro vx _ Gq
 refine az ?_;intro wz kz bz
 exact⟨[.bool srA,.slice prA nrA crA,.bool trA,.slice yrA mrA drA,.bool srB,.slice prB nrB crB,.bool trB,.slice yrB mrB drB,.bool srC,.slice prC nrC crC,.bool trC,.slice yrC mrC drC,.bool srD,.slice prD nrD crD,.bool trD,.slice yrD mrD drD,.bool srE,.slice prE nrE crE,.bool trE,.slice yrE mrE drE,.bool srF,.slice prF nrF crF,.bool trF,.slice yrF mrF drF,.bool srG,.slice prG nrG crG,.bool trG,.slice yrG mrG drG],rfl,⟨_,_,_,_,_,_,_,rfl,.mk qA.k zA,.mk qB.k zB,.mk qC.k zC,.mk qD.k zD,.mk qE.k zE,.mk qF.k zF,.mk qG.k zG⟩,bz⟩
end
set_option maxRecDepth 4000
section
open Go.RowKit
attribute [local irreducible] ak VS
abbrev vU (P:Program) (w:World) (N:Nat):Cx:={ P:=P,w0:=w,N:=N,K:=⟨UU,λ_=>True,λt=>Nat.beq t 49⟩,SU:=λt=>Nat.beq t 30,ti:=table,keep:=λ_ _=>trivial }
theorem oT (w:World) (N:Nat):(vU Tryz.prog w N).Ok:=kG
theorem Hc (w:World) (N:Nat):(vU Tryz.prog w N).P.follows .mixedOrders=true:=by show Tryz.prog.follows .mixedOrders=true;kernel_rfl
theorem Hd (p:Option Addr) (c n sz K:Nat):(Value.slice (if c=((none:Option Int).getD 0).toNat then p else p.map (·.add (((none:Option Int).getD 0).toNat*sz))) (((some (K:Int)).getD (n:Int)).toNat-((none:Option Int).getD 0).toNat) (c-((none:Option Int).getD 0).toNat))=.slice p K c:=by
 have h:(p.map λa=>a.add (((none:Option Int).getD 0).toNat*sz))=p:=by
  cases p with
  | none=>rfl
  | some a=>
    obtain⟨b,o,s⟩:=a
    simp[Addr.add]
 rw[h]
 simp
section
variable {F F':Fr} {H H':Hp} {w w1:World} {N:Nat} {l':List Oper} {Q:Exit->Act->World->Prop} {k:List It} {id:Nat} {ops:Array Oper}
theorem cxK_r (e:kD (vU Tryz.prog w1 N) ops 80 ops.toList F H=(l',F',H')) (h:ak (vU Tryz.prog w1 N) none ops l' (VS (vU Tryz.prog w1 N) Q k) F' H' w):VS (vU Tryz.prog w1 N) Q (.code (.region id ops false)::k) F H w:=VS.region (oT _ _) (VO.run 80 e h)
theorem cxK_d (e:kD (vU Tryz.prog w1 N) ops 80 ops.toList F H=(l',F',H')) (h:ak (vU Tryz.prog w1 N) (some []) ops l' (VS (vU Tryz.prog w1 N) Q k) F' H' w) (kA:jg (vU Tryz.prog w1 N).SU [] ops=true:=by kernel_rfl):VS (vU Tryz.prog w1 N) Q (.code (.region id ops true)::k) F H w:=VS.draw (oT _ _) (Hc _ _) [] kA (VO.run 80 e h)
end
theorem aY {P Q:Prop} (h:Q) (i:Q->P:=by intro h;(repeat first|refine wN ?_|refine wP rfl ?_|refine cxK_r rfl ?_|refine cxK_d rfl ?_|refine wO rfl rfl ?_);exact h):P:=i h
theorem vo {P Q X:Prop} (hb:X) (h:Q) (i:X->Q->P:=by intro hb h;refine⟨_,rfl,hb,λa b c=>wV rfl ?_⟩;refine aY ?_;revert a b c;exact h):P:=i hb h
theorem gRn {P:Prop} (h:P:=by grind):P:=h
set_option maxRecDepth 4000 in
theorem qh (u v:Value) (e:Int) (n:Nat) (cs:List gl) (ts:List (List (List Rat))) (kk:Nat) (w:World) (hu:bP (ik kk) 6 w u cs) (hv:bP (ng kk) 1 w v ts) (hn:n<256):
  Calls Tryz.prog 3 #[u,.int .i64 e,v,.int .u8 (n:Int)] w λo w'=>o=.returned (.bool true)/\aw w w':=by
 obtain⟨p,c,rfl,dW,eJ⟩:=hu.form
 obtain⟨p2,c2,rfl,KA,hcm2⟩:=hv.form
 obtain⟨N,hN⟩:∃ N,N=cs.length:=⟨_,rfl⟩
 obtain⟨T,hT⟩:∃ T,T=ts.length:=⟨_,rfl⟩
 rw[<-hN] at hu dW
 rw[<-hT] at hv KA
 rw[<-hN,<-hT]
 refine ae (C:=vU Tryz.prog w _) (args:=[_,_,_,_]) Tryz.func3 rfl Tryz.ntmps3 (bG rfl) ?_
 refine aY ?_
 refine VO.call rfl rfl (fk Tryz.func8) (λaO bE ba=>(GZ _ _ cs ts kk w aO hu hv ba).mono ?_)
 rintro o w1 ⟨b1,rfl,hfew,aD⟩
 cases b1 with
 | false=>
   refine vo aD ?_
   intro cj _ bb1
   refine VO.cB rfl rfl (fk Tryz.func9) (λbk bX bF=>ni bk) (λbk bX bF w2 aP da _ bb2=>wV rfl ?_)
   refine aY ?_
   refine VS.ret (oT _ _) rfl rfl (λwz kz bz=> ?_)
   exact⟨rfl,bz⟩
 | true=>
 obtain⟨hu4,hv4,KL,hT6⟩:=hfew rfl
 rw[<-hN] at KL
 rw[<-hT] at hT6
 refine vo aD ?_
 intro cj _ bb1
 have hd:T*N<=128\/40<T:=by
  rcases hT6 with h|h
  ·have:T*N<=6*12:=Nat.mul_le_mul h KL
   exact .inl aa
  ·exact .inr h.1
 refine VO.call rfl rfl (fk Tryz.func10) (λbk bX bF=>(yr _ _ e cs ts 4 bk (hu4.bt (iA 4) bF) (hv4.ry (ve 4) bF) aa aa (by rw[<-hT,<-hN];exact hd)).mono ?_)
 rintro o w2 ⟨r2,rfl,q2,aP⟩
 obtain⟨pq,cq,rfl⟩:=q2.form
 by_cases hm:me cs e ts≠0
 ·have eV:iK cs e ts=[]:=by unfold iK;rw[if_neg hm]
  rw[eV,List.length_nil]
  refine vo aP ?_
  intro da _ bb2
  refine VS.bg rfl (bne_y hm) ?_
  refine aY ?_
  refine VO.cB rfl rfl (fk Tryz.func9) (λcX dh dS=>ni cX) (λcX dh dS w3 cw fi _ bb3=>wV rfl ?_)
  refine aY ?_
  refine VS.ret (oT _ _) rfl rfl (λwz kz bz=> ?_)
  exact⟨rfl,bz⟩
 replace hm:me cs e ts=0:=Decidable.byContradiction hm
 obtain⟨hT40,he0,kE,hyr⟩:=yp hm
 obtain⟨E,rfl⟩:=Int.eq_ofNat_of_zero_le he0
 simp only[Int.toNat_natCast] at kE
 rw[<-hN] at kE
 rw[<-hT] at hT40
 replace hT6:T<=6:=hT6.resolve_right aa
 obtain⟨xss,BF⟩:∃ xss:List (List Rat),xss=ts.map (λt=>t.getD E []):=⟨_,rfl⟩
 have harr:iK cs (E:Int) ts=eR cs xss:=by rw[BF];exact if_pos hm
 have dR:xss.length=T:=by rw[BF,List.length_map,hT]
 have hal0:(eR cs xss).length=T:=by unfold eR;rw[List.length_map,List.length_range,dR]
 have hxa:∀ y t,ts[y]? =some t->xss.getD y []=t.getD E []:=λy t h=>by rw[BF,List.getD_eq_getElem?_getD,List.getElem?_map,h];rfl
 rw[harr,hal0] at q2
 rw[harr,hal0,hm]
 refine vo aP ?_
 intro da _ bb2
 refine VS.bo rfl (JR rfl) ?_
 refine VS.DC (λw=>vU Tryz.prog w 207) (λ_=>rfl) (λ_=>rfl) (λ_=>aw.refl _) (λw9 β k9 b9 en=> ?_)
 have hb9:aw w w9:=b9
 have hu9:=hu4.bt (iA 4) hb9
 have hv9:bP (ng 4) 1 w9 (.slice p2 T c2) ts:=hv4.ry (ve 4) hb9
 have q9:=(q2.kp (df AK) (show aR (vU Tryz.prog w 207).K w2 w9 from cg) rfl).sl (df AK)
 refine⟨[(0,.val (.slice p N c)),(1,.val (.int .i64 (E:Int))),(2,.val (.slice p2 T c2)),(3,.val (.int .u8 (n:Int))),(9,.val (.slice pq T cq))],⟨⟨_,_,rfl,rfl,rfl⟩,⟨_,_,rfl,rfl,rfl⟩,⟨_,_,rfl,rfl,rfl⟩,⟨_,_,rfl,rfl,rfl⟩,⟨_,_,rfl,rfl,rfl⟩,trivial⟩,?_⟩
 clear q2 hu4 hv4 hu hv
 refine aY ?_
 refine VO.cR rfl rfl (fk Tryz.func11) (λcX dh dS=>bO 0 cX aa aa) (λcX dh dS w3 s3 p3 n3 c3 t3 y3 m3 d3 q3 cw fi _ bb3=>wV rfl ?_)
 refine aY ?_
 have hB0:eQ (cH cs xss 0) (((0:Nat):Int)-1)=0:=rfl
 refine VS.loop (J:=(λm L M w'=>∃ (y:Nat) (sb pb nb cb tb yb mb db:_),y<=T/\m=T-y/\L=[(0,.val (.slice p N c)),(1,.val (.int .i64 (E:Int))),(2,.val (.slice p2 T c2)),(3,.val (.int .u8 (n:Int))),(9,.val (.slice pq T cq)),(11,.box 11 0),(12,.val (.int .i64 (y:Int)))]/\M=[(11,(34,([.bool sb,.slice pb nb cb,.bool tb,.slice yb mb db]:List Value).map .val))]/\aQ w' (.agg #[.bool sb,.slice pb nb cb,.bool tb,.slice yb mb db]) (eQ (cH cs xss y) ((y:Int)-1))/\bK (eQ (cH cs xss y) ((y:Int)-1)) AK)) T ⟨_,_,?_,?_,?_,?_,⟨0,_,_,_,_,_,_,_,_,by omega,rfl,rfl,rfl,by rw[hB0];exact q3.rd,by rw[hB0];exact bK.zero.mono (by unfold AK;omega)⟩⟩ ?_
 ·exact dy
 ·exact dy
 ·rfl
 ·exact jv
 rintro m L M wJ ⟨y,sb,pb,nb,cb,tb,yb,mb,db,hy,rfl,rfl,rfl,hB,hBz⟩
 refine aY ?_
 by_cases hlt:y<T
 ·obtain⟨t,ht⟩:∃ t,ts[y]? =some t:=⟨_,List.getElem?_eq_getElem aa⟩
  obtain⟨bT,offT,csT,rfl,hcT,⟨tv,rfl,htv⟩⟩:=hv9.at ht
  obtain⟨jA,jR⟩:=kE t (List.mem_of_getElem? ht)
  obtain⟨pt,ct,rfl⟩:=htv.sl
  have yx:=hxa y t ht
  obtain⟨xs,sw⟩:∃ xs,t[E]? =some xs:=⟨_,List.getElem?_eq_getElem jA⟩
  have DR:xss.getD y []=xs:=by rw[yx,List.getD_eq_getElem?_getD,sw];rfl
  have hxn:xs.length=N:=by rw[<-jR,List.getD_eq_getElem?_getD,sw];rfl
  obtain⟨bR,offR,csR,rfl,Hv,⟨_,_,_,_,_,_,_,rfl,⟨sA,pA,nA,cA,tA,yA,mA,dA,rfl,gzA⟩,⟨sB,pB,nB,cB,tB,yB,mB,dB,rfl,gzB⟩,⟨sC,pC,nC,cC,tC,yC,mC,dC,rfl,gzC⟩,⟨sD,pD,nD,cD,tD,yD,mD,dD,rfl,gzD⟩,⟨sE,pE,nE,cE,tE,yE,mE,dE,rfl,gzE⟩,⟨sF,pF,nF,cF,tF,yF,mF,dF,rfl,gzF⟩,⟨sG,pG,nG,cG,tG,yG,mG,dG,rfl,gzG⟩⟩⟩:=q9.at (kS (cs:=cs) (xss:=xss) (y:=y) aa)
  obtain⟨gA,zA⟩:=gzA
  obtain⟨gB,zB⟩:=gzB
  obtain⟨gC,zC⟩:=gzC
  obtain⟨gD,zD⟩:=gzD
  obtain⟨gE,zE⟩:=gzE
  obtain⟨gF,zF⟩:=gzF
  obtain⟨gG,zG⟩:=gzG
  have hxsz:∀ x∈xs,bK x 4:=λx hx=>by
   obtain⟨_,_,_,_,_,⟨xv,rfl,hxl2⟩⟩:=htv.at sw
   obtain⟨_,⟨_,_,_,_,_,_,_,_,rfl,hq⟩⟩:=hxl2.mem hx
   exact hq.sz aa
  have FH:(aU cs xs).length=N:=by unfold aU;rw[List.length_map,List.length_zip];omega
  refine VS.bg rfl (decide_eq_true (Int.ofNat_lt.2 hlt)) ?_
  refine aY ?_
  refine VO.cR rfl rfl (fk Tryz.func11) (λfN ig iV=>bO 0 fN aa aa) (λfN ig iV w4 s4 p4 n4 c4 t4 y4 m4 d4 q4 gi lW _ uI=>wV rfl ?_)
  refine aY ?_
  refine VS.loop (J:=(λm L M w'=>∃ (z:Nat) (X:AV) (Mi:List (Nat×(TypeId×List AV))) (su pu nu cu tu yu mu du:_),z<=N/\m=N-z/\L=[(0,.val (.slice p N c)),(1,.val (.int .i64 (E:Int))),(2,.val (.slice (some ⟨bT,offT,none⟩) T c2)),(3,.val (.int .u8 (n:Int))),(9,.val (.slice (some ⟨bR,offR,none⟩) T cq)),(11,.box 11 0),(12,.val (.int .i64 (y:Int))),(13,X),(14,.box 14 0),(15,.val (.int .i64 (z:Int)))]/\M=(11,(34,([.bool sb,.slice pb nb cb,.bool tb,.slice yb mb db]:List Value).map .val))::(14,(34,([.bool su,.slice pu nu cu,.bool tu,.slice yu mu du]:List Value).map .val))::Mi/\kQ (mc 4) 9 44 80 X Mi w' ((aU cs xs).take z)/\aQ w' (.agg #[.bool su,.slice pu nu cu,.bool tu,.slice yu mu du]) (nR ((cs.zip xs).take z))/\bK (nR ((cs.zip xs).take z)) (1+5*z)/\aQ w' (.agg #[.bool sb,.slice pb nb cb,.bool tb,.slice yb mb db]) (eQ (cH cs xss y) ((y:Int)-1)))) N ⟨_,_,?_,?_,?_,?_,⟨0,_,[],_,_,_,_,_,_,_,_,by omega,rfl,rfl,rfl,.inl ⟨rfl,rfl,rfl⟩,q4.rd,bK.zero.mono aa,hB.k⟩⟩ ?_
  ·exact dy
  ·exact dy
  ·rfl
  ·exact jv
  rintro m L M wI ⟨z,X,Mi,su,pu,nu,cu,tu,yu,mu,du,hz,rfl,rfl,rfl,hI,hP,hPz,hB⟩
  refine VS.now (λwX kN bN=> ?_)
  replace hI:=hI.kp (cQ 4) (aR.jU kN)
  replace hP:=hP.kp (aR.jU kN)
  replace hB:=hB.kp (aR.jU kN)
  refine VS.mask [16,79] (by rcases hI with ⟨_,rfl,rfl⟩|⟨_,_,_,_,rfl,rfl,_⟩ <;> (repeat first|exact trivial|refine⟨rfl,?_⟩)) ?_
  refine aY ?_
  by_cases hzt:z<N
  ·obtain⟨k,oW⟩:∃ k,cs[z]? =some k:=⟨_,List.getElem?_eq_getElem aa⟩
   obtain⟨x,Gl⟩:∃ x,xs[z]? =some x:=⟨_,List.getElem?_eq_getElem aa⟩
   have vK:=rz oW Gl
   have hzip:(cs.zip xs)[z]? =some (k,x):=List.getElem?_zip_eq_some.2 ⟨oW,Gl⟩
   obtain⟨bC,oC,csC,rfl,hcC,⟨nm,sk,pk,nk,ck,tk,yk,mk,dk,rfl,vh,hkA⟩⟩:=hu9.at oW
   have hcC:=hcC
   refine VS.bg rfl (decide_eq_true (Int.ofNat_lt.2 hzt)) ?_
   refine aY ?_
   refine VO.cond rfl ew ?_
   refine wV rfl ?_
   refine aY ?_
   refine VO.read rfl [.int .u8 (k.1:Int)] rfl (bU hcC 1 _ ⟨_,rfl⟩) (wV rfl ?_)
   refine aY ?_
   refine VO.cond rfl ew ?_
   refine wV rfl ?_
   refine aY ?_
   refine VO.read rfl [.bool sk,.slice pk nk ck,.bool tk,.slice yk mk dk] rfl (bU hcC 2 _ ⟨[],rfl⟩) (wV rfl ?_)
   refine aY ?_
   refine VO.cond rfl ew ?_
   refine wV rfl ?_
   refine aY ?_
   refine VO.read rfl [.slice pt t.length ct] rfl (eS hcT) (wV rfl ?_)
   refine aY ?_
   refine VO.cR rfl rfl (fk Tryz.func12) (λoN ql tn=>KN _ t xs x E z 4 oN (htv.ry (vd 4) tn) sw Gl aa) (λoN ql tn w6 s6 p6 n6 c6 t6 y6 m6 d6 q6 td vx _ Gq=>wV rfl ?_)
   refine aY ?_
   have hxz:bK x 4:=hxsz x (List.mem_of_getElem? Gl)
   have sI:mc 4 w6 [.int .u8 (k.1:Int),.bool sk,.slice pk nk ck,.bool tk,.slice yk mk dk,.bool s6,.slice p6 n6 c6,.bool t6,.slice y6 m6 d6] (k.1,k.2,x):=⟨_,_,_,_,_,_,_,_,_,_,_,_,_,_,_,_,rfl,vh,(hkA.kp (Kp.of (U:=UU) bN)).k,q6.in hxz⟩
   apply VO.join (P:=Entry (λ_ L M w'=>∃ (Y:AV) (O:List (Nat×(TypeId×List AV))),L=[(0,.val (.slice (some ⟨bC,oC,none⟩) N c)),(1,.val (.int .i64 (E:Int))),(2,.val (.slice (some ⟨bT,offT,none⟩) T c2)),(3,.val (.int .u8 (n:Int))),(9,.val (.slice (some ⟨bR,offR,none⟩) T cq)),(11,.box 11 0),(12,.val (.int .i64 (y:Int))),(13,Y),(14,.box 14 0),(15,.val (.int .i64 (z:Int)))]/\M=(11,(34,([.bool sb,.slice pb nb cb,.bool tb,.slice yb mb db]:List Value).map .val))::(14,(34,([.bool su,.slice pu nu cu,.bool tu,.slice yu mu du]:List Value).map .val))::O/\kQ (mc 4) 9 44 80 Y O w' ((aU cs xs).take (z+1))/\Kp UU wX w') 0)
   ·intro cont
    rcases hI with ⟨eV,rfl,rfl⟩|⟨n',c',vs,sp,rfl,rfl,yq⟩
    ·refine VO.EP (oT _ _) (cQ 4) (t:=36) (e:=44) (s:=79) (a:=(k.1,k.2,x)) (cs:=[.int .u8 (k.1:Int),.bool sk,.slice pk nk ck,.bool tk,.slice yk mk dk,.bool s6,.slice p6 n6 c6,.bool t6,.slice y6 m6 d6]) rfl rfl rfl rfl rfl rfl rfl rfl (bG rfl) rfl rfl rfl sI aa (λw8 cap sp k8 b8 BC=>wV rfl (wN ?_))
     refine cont _ _ _ ⟨_,_,?_,?_,?_,?_,⟨_,_,rfl,rfl,.inr ⟨1,cap,_,sp,rfl,rfl,by rw[bm vK,eV];exact BC⟩,(show aR (vU Tryz.prog w9 207).K wX w8 from cg).jU⟩⟩
     ·exact dy
     ·(repeat first|exact trivial|refine⟨rfl,?_⟩|refine⟨congrArg (λl=>some (_,l)) (dv (by first|exact dx.dL (by assumption)|exact ah _|(rw[<-List.map_append];exact ah _)) _ _),?_⟩)
     ·rfl
     ·(repeat first|exact trivial|refine⟨ay.lit rfl,?_⟩|refine⟨dx.BW (by assumption),?_⟩|refine⟨ay.append (.vals _) (.vals _),?_⟩|refine⟨ay.vals _,?_⟩)
    ·have vu:=yq.len
     rw[List.length_take] at vu
     refine VO.ER (oT _ _) (cQ 4) (t:=36) (e:=44) (s:=79) (i:=80) (n:=n') (c:=c') (vs:=vs) (sp:=sp) (es:=(aU cs xs).take z) (a:=(k.1,k.2,x)) (cs:=[.int .u8 (k.1:Int),.bool sk,.slice pk nk ck,.bool tk,.slice yk mk dk,.bool s6,.slice p6 n6 c6,.bool t6,.slice y6 m6 d6]) rfl rfl rfl rfl rfl rfl rfl rfl (bG rfl) rfl (.inr rfl) rfl (yq.kp (cQ 4) (aR.jU (show aR (vU Tryz.prog w9 207).K wX w6 from cg))) rfl sI aa (λw8 DN Hu ρ k8 b8 ff BC=>wV rfl (wN ?_))
     refine cont _ _ _ ⟨_,_,?_,?_,?_,?_,⟨_,_,rfl,rfl,.inr ⟨n' +1,DN,_,Hu,rfl,rfl,by rw[bm vK];exact BC⟩,(show aR (vU Tryz.prog w9 207).K wX w8 from cg).jU⟩⟩
     ·exact dy
     ·(repeat first|exact trivial|refine⟨rfl,?_⟩|refine⟨congrArg (λl=>some (_,l)) (dv (by first|exact dx.dL (by assumption)|exact ah _|(rw[<-List.map_append];exact ah _)) _ _),?_⟩)
     ·rfl
     ·(repeat first|exact trivial|refine⟨ay.lit rfl,?_⟩|refine⟨dx.BW (by assumption),?_⟩|refine⟨ay.append (.vals _) (.vals _),?_⟩|refine⟨ay.vals _,?_⟩)
   clear hI
   rintro F1 H1 v1 ⟨_,_,e1,e2,e3,e4,X1,M1,rfl,rfl,hI,kv1⟩
   refine VS.narrow _ _ e1 e2 e3 e4 ?_
   clear e1 e2 e3 e4 F1 H1
   replace hP:=hP.kp kv1
   replace hB:=hB.kp kv1
   refine aY ?_
   refine VO.cond rfl ew ?_
   refine wV rfl ?_
   refine aY ?_
   refine VO.read rfl [.int .u8 (k.1:Int)] rfl (bU hcC 1 _ ⟨_,rfl⟩) (wV rfl ?_)
   refine aY ?_
   by_cases h6:k.1=6
   ·have DU:jY (k,x)=true:=by unfold jY;rw[show (k,x).1.1=6 from h6];rfl
    have yt:nR ((cs.zip xs).take (z+1))=nR ((cs.zip xs).take z)+x:=by rw[xr hzip,if_pos DU]
    refine VS.bg rfl (JS (show (k.1:Int)=6 by omega)) ?_
    refine aY ?_
    refine VO.cond rfl ew ?_
    refine wV rfl ?_
    refine aY ?_
    refine VO.read rfl [.slice pt t.length ct] rfl (eS hcT) (wV rfl ?_)
    refine aY ?_
    refine VO.cR rfl rfl (fk Tryz.func12) (λyK AJ xd=>KN _ t xs x E z 4 yK (htv.ry (vd 4) xd) sw Gl aa) (λyK AJ xd w7 s7 p7 n7 c7 t7 y7 m7 d7 q7 Ho Dc _ bb7=>wV rfl ?_)
    refine aY ?_
    refine VO.cR rfl rfl (fk Tryz.func13) (λJH ka8 ba8=>dw _ _ (nR ((cs.zip xs).take z)) x (1+5*z) 4 JH (hP.ki hPz) (q7.ki hxz) aa aa) (λJH ka8 ba8 w8 s8 p8 n8 c8 t8 y8 m8 d8 q8 Hn Dd _ bb8=>wV rfl ?_)
    refine aY ?_
    refine VS.back (N-(z+1)) aa ⟨_,_,?_,?_,?_,?_,⟨z+1,X1,M1,_,_,_,_,_,_,_,_,by omega,rfl,rfl,rfl,hI.kp (cQ 4) (aR.jU (show aR (vU Tryz.prog w9 207).K v1 w8 from cg)),by rw[yt];exact q8.rd,by rw[yt];exact (hPz.add hxz).mono aa,hB.k⟩⟩
    ·rcases hI with ⟨_,rfl,rfl⟩|⟨_,_,_,_,rfl,rfl,_⟩ <;> (refine⟨rfl,rfl,rfl,rfl,rfl,rfl,rfl,rfl,rfl,?_,trivial⟩;rw[<-bA (i:=z) aa];rfl)
    ·rcases hI with ⟨_,rfl,rfl⟩|⟨_,_,_,_,rfl,rfl,_⟩ <;> (repeat first|exact trivial|refine⟨rfl,?_⟩|refine⟨congrArg (λl=>some (_,l)) (dv (by first|exact dx.dL (by assumption)|exact ah _|(rw[<-List.map_append];exact ah _)) _ _),?_⟩)
    ·rcases hI with ⟨_,rfl,rfl⟩|⟨_,_,_,_,rfl,rfl,_⟩ <;> rfl
    ·rcases hI with ⟨_,rfl,rfl⟩|⟨_,_,_,_,rfl,rfl,_⟩ <;> (repeat first|exact trivial|refine⟨ay.lit rfl,?_⟩|refine⟨dx.BW (by assumption),?_⟩|refine⟨ay.append (.vals _) (.vals _),?_⟩|refine⟨ay.vals _,?_⟩)
   ·have DU:¬ jY (k,x)=true:=by unfold jY;intro h;exact h6 (eq_of_beq h)
    have yt:nR ((cs.zip xs).take (z+1))=nR ((cs.zip xs).take z):=by rw[xr hzip,if_neg DU,Rat.add_zero]
    refine VS.bo rfl (EO (show (k.1:Int)≠6 by omega)) ?_
    refine aY ?_
    refine VS.back (N-(z+1)) aa ⟨_,_,?_,?_,?_,?_,⟨z+1,X1,M1,_,_,_,_,_,_,_,_,by omega,rfl,rfl,rfl,hI,by rw[yt];exact hP,by rw[yt];exact hPz.mono aa,hB⟩⟩
    ·rcases hI with ⟨_,rfl,rfl⟩|⟨_,_,_,_,rfl,rfl,_⟩ <;> (refine⟨rfl,rfl,rfl,rfl,rfl,rfl,rfl,rfl,rfl,?_,trivial⟩;rw[<-bA (i:=z) aa];rfl)
    ·rcases hI with ⟨_,rfl,rfl⟩|⟨_,_,_,_,rfl,rfl,_⟩ <;> (repeat first|exact trivial|refine⟨rfl,?_⟩|refine⟨congrArg (λl=>some (_,l)) (dv (by first|exact dx.dL (by assumption)|exact ah _|(rw[<-List.map_append];exact ah _)) _ _),?_⟩)
    ·rcases hI with ⟨_,rfl,rfl⟩|⟨_,_,_,_,rfl,rfl,_⟩ <;> rfl
    ·rcases hI with ⟨_,rfl,rfl⟩|⟨_,_,_,_,rfl,rfl,_⟩ <;> (repeat first|exact trivial|refine⟨ay.lit rfl,?_⟩|refine⟨dx.BW (by assumption),?_⟩|refine⟨ay.append (.vals _) (.vals _),?_⟩|refine⟨ay.vals _,?_⟩)
  ·refine VS.bo rfl (decide_eq_false (λe=>hzt (Int.ofNat_lt.1 e))) ?_
   obtain rfl:z=N:=by omega
   rw[List.take_of_length_le aa] at hI
   rw[List.take_of_length_le (by rw[List.length_zip];omega)] at hP hPz
   replace hPz:bK (nR (cs.zip xs)) 61:=hPz.mono aa
   have hrs:fD 4 (aU cs xs).length<=13000:=by rw[FH];unfold fD;omega
   have og:∀ x∈aU cs xs,bK x.2.1 4/\bK x.2.2 4:=by
    rcases hI with ⟨eV,_,_⟩|⟨n',c',vs,sp,_,_,yq⟩
    ·rw[eV];intro x hx;cases hx
    ·intro x hx
     obtain⟨i,hi⟩:=List.getElem?_of_mem hx
     obtain⟨cs0,_,h2,_⟩:=yq.cell (cQ 4) hi
     exact mc.sz h2 aa
   have hPs:yL (bn (aU cs xs)) 13000:=(oQ aa _ og).mono hrs
   have DZ:iy cs xss y=DD (bn (aU cs xs)) (eI (cH cs xss (y+1)) y) (eQ (cH cs xss (y+1)) y):=by unfold iy;rw[DR]
   have hstep:=KM (xss:=xss) hyr y aa
   rw[DR] at hstep
   rw[DZ] at gA zA
   rw[DZ] at gB zB
   rw[DZ] at gC zC
   rw[DZ] at gD zD
   rw[DZ] at gE zE
   rw[DZ] at gF zF
   rw[DZ] at gG zG
   refine aY ?_
   refine VO.cR rfl rfl (fk Tryz.func13) (λwa31 ka31 ba31=>dw _ _ (eQ (cH cs xss y) ((y:Int)-1)) (nR (cs.zip xs)) AK 61 wa31 (hB.ki hBz) (hP.ki hPz) (by unfold AK;omega) aa) (λwa31 ka31 ba31 w31 s31 p31 n31 c31 t31 y31 m31 d31 q31 hb31 kb31 _ bb31=>wV rfl ?_)
   refine aY ?_
   refine VO.cond rfl ew ?_
   refine wV rfl ?_
   refine aY ?_
   refine VO.read rfl [.bool sE,.slice pE nE cE,.bool tE,.slice yE mE dE] rfl (bU Hv 16 _ ⟨_,rfl⟩) (wV rfl ?_)
   refine aY ?_
   refine VO.cR rfl rfl (fk Tryz.func14) (λwa32 ka32 ba32=>jn _ _ ((eQ (cH cs xss y) ((y:Int)-1))+nR (cs.zip xs)) (eI (cH cs xss (y+1)) y) (AK+61+1) AK wa32 (q31.ki (hBz.add hPz)) (gE.ki zE) (by unfold AK;omega) (by unfold AK;omega)) (λwa32 ka32 ba32 w32 s32 p32 n32 c32 t32 y32 m32 d32 q32 hb32 kb32 _ bb32=>wV rfl ?_)
   refine aY ?_
   rw[<-hstep] at q32
   refine VO.ia rfl (fk Tryz.func15) (λwa33 β ka33 ba33 ho=>(xl _ (aU cs xs) 4 wa33 (hI.slin (cQ 4) ho (by intro q hq;rcases hI with ⟨_,rfl,rfl⟩|⟨_,_,_,_,rfl,rfl,_⟩ <;> first|(cases hq;done)|(cases List.mem_singleton.1 hq;rfl)) (aR.jU (show aR (vU Tryz.prog w9 207).K wX wa33 from cg))) aa aa aa).mono ?_)
   rintro o w33 ⟨r33,rfl,q33,hb33⟩
   obtain⟨s9a,p9a,n9a,c9a,t9a,y9a,m9a,d9a,s9b,p9b,n9b,c9b,t9b,y9b,m9b,d9b,s9c,p9c,n9c,c9c,t9c,y9c,m9c,d9c,s9d,p9d,n9d,c9d,t9d,y9d,m9d,d9d,rfl,i1,i2,i3,i4⟩:=q33
   refine vo hb33 ?_
   intro kb33 _ bb33
   refine VO.cond rfl ew (wV rfl ?_)
   refine aY ?_
   refine VO.read rfl [.bool sF,.slice pF nF cF,.bool tF,.slice yF mF dF] rfl (bU Hv 20 _ ⟨_,rfl⟩) (wV rfl ?_)
   refine aY ?_
   refine VO.cB rfl rfl (fk Tryz.func16) (λwa34 ka34 ba34=>fA _ _ (eQ (cH cs xss (y+1)) y) (eQ (cH cs xss (y+1)) y) AK AK wa34 (q32.ki zF) (gF.ki zF) (by unfold AK;omega) (by unfold AK;omega) true (decide_eq_true rfl)) (λwa34 ka34 ba34 w34 CO kb34 _ bb34=>wV rfl ?_)
   refine aY ?_
   refine VO.cond rfl ew (wV rfl ?_)
   refine aY ?_
   refine VO.read rfl [.bool sB,.slice pB nB cB,.bool tB,.slice yB mB dB] rfl (bU Hv 4 _ ⟨_,rfl⟩) (wV rfl ?_)
   refine aY ?_
   refine VO.cond rfl ew (wV rfl ?_)
   refine aY ?_
   refine VO.read rfl [.bool sE,.slice pE nE cE,.bool tE,.slice yE mE dE] rfl (bU Hv 16 _ ⟨_,rfl⟩) (wV rfl ?_)
   refine aY ?_
   refine VO.cR rfl rfl (fk Tryz.func13) (λwa35 ka35 ba35=>dw _ _ ((bn (aU cs xs)).s-eI (cH cs xss (y+1)) y) (eI (cH cs xss (y+1)) y) AK AK wa35 (gB.ki zB) (gE.ki zE) (by unfold AK;omega) (by unfold AK;omega)) (λwa35 ka35 ba35 w35 s35 p35 n35 c35 t35 y35 m35 d35 q35 CP kb35 _ bb35=>wV rfl ?_)
   refine aY ?_
   refine VO.cB rfl rfl (fk Tryz.func16) (λwa36 ka36 ba36=>fA _ _ (bn (aU cs xs)).s ((bn (aU cs xs)).s-eI (cH cs xss (y+1)) y+eI (cH cs xss (y+1)) y) 13000 (AK+AK+1) wa36 (i2.ki hPs.s) (q35.ki (zB.add zE)) aa (by unfold AK;omega) true (decide_eq_true gRn)) (λwa36 ka36 ba36 w36 hb36 kb36 _ bb36=>wV rfl ?_)
   refine aY ?_
   refine VO.cond rfl ew (wV rfl ?_)
   refine aY ?_
   refine VO.read rfl [.bool sA,.slice pA nA cA,.bool tA,.slice yA mA dA] rfl (bU Hv 0 _ ⟨_,rfl⟩) (wV rfl ?_)
   refine aY ?_
   refine VO.cB rfl rfl (fk Tryz.func16) (λwa37 ka37 ba37=>fA _ _ (bn (aU cs xs)).b (bn (aU cs xs)).b 13000 AK wa37 (i1.ki hPs.b) (gA.ki zA) aa (by unfold AK;omega) true (decide_eq_true rfl)) (λwa37 ka37 ba37 w37 hb37 kb37 _ bb37=>wV rfl ?_)
   refine aY ?_
   refine VO.cond rfl ew (wV rfl ?_)
   refine aY ?_
   refine VO.read rfl [.bool sG,.slice pG nG cG,.bool tG,.slice yG mG dG] rfl (bU Hv 24 _ ⟨_,rfl⟩) (wV rfl ?_)
   refine aY ?_
   refine VO.cond rfl ew (wV rfl ?_)
   refine aY ?_
   refine VO.read rfl [.bool sB,.slice pB nB cB,.bool tB,.slice yB mB dB] rfl (bU Hv 4 _ ⟨_,rfl⟩) (wV rfl ?_)
   refine aY ?_
   refine VO.cond rfl ew (wV rfl ?_)
   refine aY ?_
   refine VO.read rfl [.bool sD,.slice pD nD cD,.bool tD,.slice yD mD dD] rfl (bU Hv 12 _ ⟨_,rfl⟩) (wV rfl ?_)
   refine aY ?_
   refine VO.cR rfl rfl (fk Tryz.func14) (λwa38 ka38 ba38=>jn _ _ ((bn (aU cs xs)).s-eI (cH cs xss (y+1)) y) (bn (aU cs xs)).i AK AK wa38 (gB.ki zB) (gD.ki zD) (by unfold AK;omega) (by unfold AK;omega)) (λwa38 ka38 ba38 w38 s38 p38 n38 c38 t38 y38 m38 d38 q38 hb38 kb38 _ bb38=>wV rfl ?_)
   refine aY ?_
   refine VO.cB rfl rfl (fk Tryz.func16) (λwa39 ka39 ba39=>fA _ _ ((bn (aU cs xs)).s-eI (cH cs xss (y+1)) y-(bn (aU cs xs)).i) ((bn (aU cs xs)).s-eI (cH cs xss (y+1)) y-(bn (aU cs xs)).i) AK (AK+AK+1) wa39 (gG.ki zG) (q38.ki (zB.sub zD)) (by unfold AK;omega) (by unfold AK;omega) true (decide_eq_true rfl)) (λwa39 ka39 ba39 w39 hb39 kb39 _ bb39=>wV rfl ?_)
   refine aY ?_
   have hyy:(((y+1:Nat):Int)-1)=(y:Int):=by omega
   refine VS.back (T-(y+1)) aa ⟨_,_,?_,?_,?_,?_,⟨y+1,_,_,_,_,_,_,_,_,by omega,rfl,rfl,rfl,by rw[hyy];exact q32.kr,by rw[hyy];exact zF⟩⟩
   ·refine⟨rfl,rfl,rfl,rfl,rfl,rfl,?_,trivial⟩
    rw[<-bA (i:=y) aa];rfl
   ·exact dy
   ·rfl
   ·exact jv
 ·refine VS.bo rfl (decide_eq_false (λe=>hlt (Int.ofNat_lt.1 e))) ?_
  obtain rfl:y=T:=by omega
  refine aY ?_
  apply VO.join (P:=Entry (λ_ L M w'=>L=[(0,.val (.slice p N c)),(1,.val (.int .i64 (E:Int))),(2,.val (.slice p2 y c2)),(9,.val (.slice pq y cq)),(17,.val (.int .i64 ((n%(y+1):Nat):Int)))]/\M=[]) 0)
  ·intro cont
   have h17:∀ t:Nat,t<=6->(IntKind.i64.wrap (n:Int)).tmod (IntKind.i64.wrap ((t:Int)+1))=((n%(t+1):Nat):Int):=λt ht=>by
    rw[IntWalk.i64_in _ aa,IntWalk.i64_in _ aa,Int.tmod_eq_emod_of_nonneg aa,Int.natCast_emod,Int.natCast_add];rfl
   obtain rfl|rfl|rfl|rfl|rfl|rfl|rfl:y=0\/y=1\/y=2\/y=3\/y=4\/y=5\/y=6:=by omega
   all_goals
    refine wV rfl (wN ?_)
    refine cont _ _ _ ⟨_,_,?_,?_,?_,?_,rfl,rfl⟩
    ·exact⟨rfl,rfl,rfl,rfl,congrArg (λz=>some (AV.val (.int .i64 z))) (h17 _ aa),trivial⟩
    ·exact dy
    ·rfl
    ·exact jv
  rintro F1 H1 v1 ⟨_,_,e1,e2,e3,e4,rfl,rfl⟩
  refine VS.narrow _ _ e1 e2 e3 e4 ?_
  clear e1 e2 e3 e4 F1 H1
  obtain⟨K,hK⟩:∃ K,K=n%(y+1):=⟨_,rfl⟩
  rw[<-hK]
  have hKy:K<=y:=by have:=Nat.mod_lt n (show 0<y+1 by omega);omega
  refine aY ?_
  refine VO.cond rfl ⟨by decide,by simp,by simp;omega,by omega⟩ ?_
  refine VO.fix 178 rfl (congrArg AV.val (Hd _ _ _ _ _)) ?_
  refine wV rfl ?_
  refine aY ?_
  have hmk:=Hb (k:=K) hm
  have hark:iK cs (E:Int) (ts.take K)=(eR cs xss).take K:=by
   unfold iK
   rw[if_pos hmk,<-DX aa,BF,List.map_take];rfl
  have hlk:((eR cs xss).take K).length=K:=by rw[List.length_take];omega
  refine VO.call rfl rfl (fk Tryz.func10) (λwa41 ka41 ba41=>(yr _ _ (E:Int) cs (ts.take K) 4 wa41 (hu9.bt (iA 4) ba41) ((hv9.take aa).ry (ve 4) ba41) aa aa (.inl (by rw[List.length_take];exact Nat.le_trans (Nat.mul_le_mul (show min K ts.length<=6 by omega) (show cs.length<=12 by omega)) aa))).mono ?_)
  rintro o w41 ⟨r41,rfl,q41,hb41⟩
  obtain⟨pl,cl,rfl⟩:=q41.form
  rw[hark,hlk] at q41
  rw[hark,hlk,hmk]
  refine vo hb41 ?_
  intro kb41 _ bb41
  refine VS.bo rfl (JR rfl) ?_
  refine VS.DC (λw=>vU Tryz.prog w 207) (λ_=>rfl) (λ_=>rfl) (λ_=>aw.refl _) (λw10 β2 k10 b10 en2=> ?_)
  have qb:aw w9 w10:=b10
  have qR:=q9.bt (df AK) qb
  have qL:=(q41.kp (df AK) (show aR (vU Tryz.prog w9 207).K w41 w10 from cg) rfl).sl (df AK)
  refine⟨[(9,.val (.slice pq y cq)),(17,.val (.int .i64 (K:Int))),(18,.val (.slice pl K cl))],⟨⟨_,_,rfl,rfl,rfl⟩,⟨_,_,rfl,rfl,rfl⟩,⟨_,_,rfl,rfl,rfl⟩,trivial⟩,?_⟩
  clear hu9 hv9 q9 q41
  refine aY ?_
  refine VS.loop (J:=λm L M w'=>∃ z:Nat,z<=K/\m=K-z/\L=[(9,.val (.slice pq y cq)),(17,.val (.int .i64 (K:Int))),(18,.val (.slice pl K cl)),(20,.val (.int .i64 (z:Int)))]/\M=[]) K ⟨_,_,?_,?_,?_,?_,⟨0,by omega,rfl,rfl,rfl⟩⟩ ?_
  ·exact dy
  ·exact dy
  ·rfl
  ·exact jv
  rintro m L M wL ⟨z,hz,rfl,rfl,rfl⟩
  refine aY ?_
  by_cases hzk:z<K
  ·have hrz:(eR cs xss)[z]? =some (iy cs xss z):=kS aa
   have hlz:((eR cs xss).take K)[z]? =some (iy cs xss z):=by rw[List.getElem?_take_of_lt hzk];exact hrz
   obtain⟨bL,offL,csL,rfl,hcL,⟨_,_,_,_,_,_,_,rfl,⟨slA,plA,nlA,clA,tlA,ylA,mlA,dlA,rfl,glA⟩,⟨slB,plB,nlB,clB,tlB,ylB,mlB,dlB,rfl,glB⟩,⟨slC,plC,nlC,clC,tlC,ylC,mlC,dlC,rfl,glC⟩,⟨slD,plD,nlD,clD,tlD,ylD,mlD,dlD,rfl,glD⟩,⟨slE,plE,nlE,clE,tlE,ylE,mlE,dlE,rfl,glE⟩,⟨slF,plF,nlF,clF,tlF,ylF,mlF,dlF,rfl,glF⟩,⟨slG,plG,nlG,clG,tlG,ylG,mlG,dlG,rfl,glG⟩⟩⟩:=qL.at hlz
   obtain⟨bQ,offQ,csQ,rfl,hcQ,⟨_,_,_,_,_,_,_,rfl,⟨sqA,pqA,nqA,cqA,tqA,yqA,mqA,dqA,rfl,gqA⟩,⟨sqB,pqB,nqB,cqB,tqB,yqB,mqB,dqB,rfl,gqB⟩,⟨sqC,pqC,nqC,cqC,tqC,yqC,mqC,dqC,rfl,gqC⟩,⟨sqD,pqD,nqD,cqD,tqD,yqD,mqD,dqD,rfl,gqD⟩,⟨sqE,pqE,nqE,cqE,tqE,yqE,mqE,dqE,rfl,gqE⟩,⟨sqF,pqF,nqF,cqF,tqF,yqF,mqF,dqF,rfl,gqF⟩,⟨sqG,pqG,nqG,cqG,tqG,yqG,mqG,dqG,rfl,gqG⟩⟩⟩:=qR.at hrz
   refine VS.bg rfl (decide_eq_true (Int.ofNat_lt.2 hzk)) ?_
   refine aY ?_
   refine VO.cond rfl ew ?_
   refine wV rfl ?_
   refine aY ?_
   refine VO.read rfl [.bool slA,.slice plA nlA clA,.bool tlA,.slice ylA mlA dlA,.bool slB,.slice plB nlB clB,.bool tlB,.slice ylB mlB dlB,.bool slC,.slice plC nlC clC,.bool tlC,.slice ylC mlC dlC,.bool slD,.slice plD nlD clD,.bool tlD,.slice ylD mlD dlD,.bool slE,.slice plE nlE clE,.bool tlE,.slice ylE mlE dlE,.bool slF,.slice plF nlF clF,.bool tlF,.slice ylF mlF dlF,.bool slG,.slice plG nlG clG,.bool tlG,.slice ylG mlG dlG] rfl (bU hcL 0 _ ⟨[],rfl⟩) (wV rfl ?_)
   refine aY ?_
   refine VO.cond rfl ew ?_
   refine wV rfl ?_
   refine aY ?_
   refine VO.read rfl [.bool sqA,.slice pqA nqA cqA,.bool tqA,.slice yqA mqA dqA,.bool sqB,.slice pqB nqB cqB,.bool tqB,.slice yqB mqB dqB,.bool sqC,.slice pqC nqC cqC,.bool tqC,.slice yqC mqC dqC,.bool sqD,.slice pqD nqD cqD,.bool tqD,.slice yqD mqD dqD,.bool sqE,.slice pqE nqE cqE,.bool tqE,.slice yqE mqE dqE,.bool sqF,.slice pqF nqF cqF,.bool tqF,.slice yqF mqF dqF,.bool sqG,.slice pqG nqG cqG,.bool tqG,.slice yqG mqG dqG] rfl (bU hcQ 0 _ ⟨[],rfl⟩) (wV rfl ?_)
   refine aY ?_
   refine VO.call rfl rfl (fk Tryz.func18) (λwa51 ka51 ba51=>(DY [.bool sqA,.slice pqA nqA cqA,.bool tqA,.slice yqA mqA dqA,.bool sqB,.slice pqB nqB cqB,.bool tqB,.slice yqB mqB dqB,.bool sqC,.slice pqC nqC cqC,.bool tqC,.slice yqC mqC dqC,.bool sqD,.slice pqD nqD cqD,.bool tqD,.slice yqD mqD dqD,.bool sqE,.slice pqE nqE cqE,.bool tqE,.slice yqE mqE dqE,.bool sqF,.slice pqF nqF cqF,.bool tqF,.slice yqF mqF dqF,.bool sqG,.slice pqG nqG cqG,.bool tqG,.slice yqG mqG dqG] (iy cs xss z) AK wa51 ((df AK).b ⟨_,_,_,_,_,_,_,rfl,.mk gqA.1 gqA.2,.mk gqB.1 gqB.2,.mk gqC.1 gqC.2,.mk gqD.1 gqD.2,.mk gqE.1 gqE.2,.mk gqF.1 gqF.2,.mk gqG.1 gqG.2⟩ ba51) (by unfold AK;omega)).mono ?_)
   rintro o w51 ⟨ds,rfl,q51,hb51⟩
   obtain⟨_,_,_,_,_,_,_,rfl,⟨svA,pvA,nvA,cvA,tvA,yvA,mvA,dvA,rfl,gvA⟩,⟨svB,pvB,nvB,cvB,tvB,yvB,mvB,dvB,rfl,gvB⟩,⟨svC,pvC,nvC,cvC,tvC,yvC,mvC,dvC,rfl,gvC⟩,⟨svD,pvD,nvD,cvD,tvD,yvD,mvD,dvD,rfl,gvD⟩,⟨svE,pvE,nvE,cvE,tvE,yvE,mvE,dvE,rfl,gvE⟩,⟨svF,pvF,nvF,cvF,tvF,yvF,mvF,dvF,rfl,gvF⟩,⟨svG,pvG,nvG,cvG,tvG,yvG,mvG,dvG,rfl,gvG⟩⟩:=q51
   refine vo hb51 ?_
   intro kb51 _ bb51
   refine VO.cB rfl rfl (fk Tryz.func17) (λwa52 ka52 ba52=>KF _ _ (iy cs xss z) AK AK wa52 ⟨_,rfl,(df AK).b ⟨_,_,_,_,_,_,_,rfl,.mk glA.1 glA.2,.mk glB.1 glB.2,.mk glC.1 glC.2,.mk glD.1 glD.2,.mk glE.1 glE.2,.mk glF.1 glF.2,.mk glG.1 glG.2⟩ ba52⟩ ⟨_,rfl,⟨_,_,_,_,_,_,_,rfl,.mk gvA.1.k gvA.2,.mk gvB.1.k gvB.2,.mk gvC.1.k gvC.2,.mk gvD.1.k gvD.2,.mk gvE.1.k gvE.2,.mk gvF.1.k gvF.2,.mk gvG.1.k gvG.2⟩⟩) (λwa52 ka52 ba52 w52 hb52 kb52 _ bb52=>wV rfl ?_)
   refine aY ?_
   refine VS.back (K-(z+1)) aa ⟨_,_,?_,?_,?_,?_,⟨z+1,by omega,rfl,rfl,rfl⟩⟩
   ·refine⟨rfl,rfl,rfl,?_,trivial⟩
    rw[<-bA (i:=z) aa];rfl
   ·exact dy
   ·rfl
   ·exact jv
  ·refine VS.bo rfl (decide_eq_false (λe=>hzk (Int.ofNat_lt.1 e))) ?_
   refine aY ?_
   refine VO.cB rfl rfl (fk Tryz.func9) (λwa60 ka60 ba60=>ni wa60) (λwa60 ka60 ba60 w60 hb60 kb60 _ bb60=>wV rfl ?_)
   refine aY ?_
   refine VS.ret (oT _ _) rfl rfl (λwz kz bz=> ?_)
   exact⟨rfl,(hb9.ax qb).ax bz⟩
end
end Go.Proofs.YtlfdmhfhkgpmbaaGreat
