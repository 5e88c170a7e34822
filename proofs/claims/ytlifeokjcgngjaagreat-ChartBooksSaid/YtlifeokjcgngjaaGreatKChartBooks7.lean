/-BN of the proof,laid behind one another. -/
import Derived.Test.YtlifeokjcgngjaaGreatKChartBooks6
set_option linter.all false
set_option maxHeartbeats 64000000
set_option maxRecDepth 4000
namespace Go.Proofs.YtlifeokjcgngjaaGreat
section
open Go.RowKit
attribute [local irreducible] aE VS
set_option maxRecDepth 4000 in
theorem iC (s t:Bool) (xs ys:List Nat) (v:Value) (w:World) (h:fZ w v s xs t ys) (hx:xs.length<=1073741824) (hy:ys.length<=1073741824):
  Calls Tryz.prog 91 #[v] w λe w'=>∃ r,e=.returned r/\qa w' w.heap.size r s xs t ys/\ax w w':=by
 obtain⟨p,c,r,d,rfl,h1,h2⟩:=h;refine ai (C:=aY Tryz.prog w _) (args:=[_]) nr aa Tryz.ntmps91 (cG aa) ?_
 (repeat (first|refine wN ?_|refine wP aa ?_|refine wO aa aa ?_))
 refine xS aa ?_
 (repeat (first|refine wN ?_|refine wP aa ?_|refine wO aa aa ?_))
 refine VS.LZ (bU _ _) (GM _ _) [] [(2,13),(6,10)] [(10,1,1,1),(13,1,3,1)] (by kernel_rfl) ?_;refine gg.chunk (l2:=[2,3,4,5,6,7,8,9,10,11,12,13]) [0,1] aa ?_;refine ag ?_
 refine gg.b (j:=2) aa (λn hn=>⟨_,_,1,1,_,aa,.inl aa,aa,by
  intro e he h1 h2;simp only[List.mem_cons,List.not_mem_nil,or_false] at he;rcases he with rfl|rfl <;> cases h1 <;> first|exact absurd hn cW|exact .inl cW|exact .inr cW⟩) aa ?_
 refine ag ?_;refine gg.chunk (l2:=[4,5,6,7,8,9,10,11,12,13]) [3] aa ?_;refine ag ?_;refine VO.call aa aa (fk Tryz.func151) (λcV eG db=>(ir _ _ _ cV ((h1.aA db).Om.1) ae).mono ?_);rintro o w1 ⟨r1,rfl,q1,bF⟩;obtain⟨p1,c1,rfl,-⟩:=(Rd.own q1).u32;refine dB bF ?_;intro fM _ bb1;refine gg.chunk (l2:=[6,7,8,9,10,11,12,13]) [4,5] aa ?_;refine ag ?_
 refine gg.b (j:=6) aa (λn hn=>⟨_,_,1,3,_,aa,.inl aa,aa,by
  intro e he h1 h2;simp only[List.mem_cons,List.not_mem_nil,or_false] at he;rcases he with rfl|rfl <;> cases h1 <;> first|exact absurd hn cW|exact .inl cW|exact .inr cW⟩) aa ?_
 refine ag ?_;refine gg.chunk (l2:=[8,9,10,11,12,13]) [7] aa ?_;refine ag ?_;refine VO.call aa aa (fk Tryz.func151) (λeD gO fG=>(ir _ _ _ eD ((h2.aA fG).Om.1) ae).mono ?_);rintro o w2 ⟨r2,rfl,q2,cJ⟩;obtain⟨p2,c2,rfl,-⟩:=(Rd.own q2).u32;refine dB cJ ?_;intro jH _ bb2;refine gg.chunk (l2:=[10,11,12,13]) [8,9] aa ?_;refine ag ?_;refine gg.s (j:=10) aa ⟨_,_,_,1,1,_,aa,.inl aa,aa,.head _⟩ aa ?_;refine ag ?_;refine gg.chunk (l2:=[13]) [11,12] aa ?_;refine ag ?_;refine gg.s (j:=13) aa ⟨_,_,_,1,3,_,aa,.inl aa,aa,.tail _ (.head _)⟩ aa ?_;refine ag ?_;refine ag ?_;refine ag ?_;refine ck ?_;intro wz kz bz;exact⟨_,aa,⟨_,_,_,_,aa,Own.kp (Own.mono q1 db.size) dA,Own.kp (Own.mono q2 fG.size) dA,h1.Om.2,h2.Om.2⟩,bz⟩
set_option maxRecDepth 4000
theorem AG (v:Value) (l:List Au) (kk:Nat) (w:World) (hv:bK (lI kk) 6 w v l) (hn:l.length<=1000000):
  Calls Tryz.prog 153 #[v] w λo w'=>∃ r,o=.returned r/\ay (lI kk) 6 64 w.heap.size w' r l/\ax w w':=by
 obtain⟨p,c,rfl,fV,gj⟩:=hv.form;refine ai (C:=aY Tryz.prog w _) (args:=[_]) Tryz.func153 aa Tryz.ntmps153 (cG aa) ?_;refine ag ?_;cases p with
 | none=>
   refine VS.bB aa aa ?_;refine ag ?_;refine ck ?_;intro wz kz bz;refine⟨_,aa,.inl ⟨aa,?_⟩,bz⟩;cases l with
   | nil=>rfl
   | cons a l=>
     obtain⟨b,off,cs,h,_⟩:=hv.at (i:=0) (a:=a) aa;cases h
 | some a=>
   obtain⟨vs,hr,-,hx⟩:=hv.src (lI.el kk);obtain⟨qh,tN⟩:=hr.ok (lI.el kk);refine VS.bC aa aa ?_;refine ag ?_
   refine VO.app (bU _ _) (t:=28) (e:=64) (sz:=6) (n:=0) (c:=0) (mm:=l.length) (known:=[]) (spare:=[]) (del:=some 5) (news:=vs.flatten.map .val) (dst:=7) aa aa aa aa aa aa aa aa (cG aa) aa (.inr ⟨5,aa,aa,aa⟩) (.inl aa) aa aa (aP _) ae ⟨aa,aa,ah _⟩ ⟨aa,aa,aL qh⟩ (by rw[aM,tN]) ae
    (λw1 β k1 b1 ho=>⟨_,_,rfl,hx.imp id (λ⟨b,off,h1,h2⟩=>⟨b,off,h1,λj u hj=>b1.cell (h2 j u (by rw[az] at hj;exact hj))⟩)⟩)
    (λiA cap' bt ρ vC qE fo pJ lS kL EA xH=>wV rfl ?_)
   refine ag ?_;refine VS.oU (bU _ _) aa (λwz β kz bz en=> ?_);exact⟨_,aa,dQ (es:=l) (en.own 7 _ _ aa) (hr.kp (lI.el kk) ((Kp.of qE).aG kz)) (fe _) ae lS kL,bz⟩
theorem oe {P Q X:Prop} (hb:X) (h:Q) (i:X->Q->P:=by intro hb h;refine⟨_,rfl,hb,λa b c=>wV rfl ?_⟩;refine aq ?_;revert a b c;exact h):P:=i hb h
set_option maxRecDepth 8000 in
theorem AH (b i kk:Nat) (vs:List (List Value)) (sp:List Value) (es:List Au) (x:Au) (w:World) (cZ:aQ w b 64 (vs.flatten++sp).toArray) (dS:cw (lI kk) w es vs) (eO:sp.all aO=true) (hx:es[i]? =some x) (hk:kk<=1000):
  Calls Tryz.prog 95 #[.pointer (some ⟨b,0+((i:Nat):Int).toNat*6,none⟩)] w λo w'=>o=.returned (.tuple #[])/\∃ ew,aQ w' b 64 ((vs.set i ew).flatten++sp).toArray/\cw (lI kk) w' es (vs.set i ew)/\dP [b] w w':=by
 obtain⟨cs,hcs,hE⟩:=dS.at i x hx;have kS:=dS.lens (lI.el kk);have tH:=(bd.1 hcs).1;obtain⟨s1,p1,n1,c1,t1,y1,m1,d1,rfl,qi,RM⟩:=hE;have gu:=qi.raw.2;refine ai (C:=aY Tryz.prog w _) (args:=[_]) Tryz.func95 aa Tryz.ntmps95 (cG aa) ?_
 (repeat (first|refine wN ?_|refine wP aa ?_|refine wO aa aa ?_))
 refine VS.cK dp (λt=>Nat.beq t 23) table (λ_ _ _=>trivial) (λwA nA k1 ic qF=> ?_);have aB:ax w wA:=ic
 have eh:dv dp 10 [b] [(64,vs.flatten.map .val++sp.map .val)] wA:=by
  refine⟨aa,cf,λj g' c' hj hc=> ?_,λc' hc=> ?_,λc' hc k hk=> ?_⟩
  ·match j,hj,hc with
   | 0,hj,hc=>cases hj;cases hc;rw[<-aF,az];exact cZ.aA aB
   | j+1,hj,_=>simp at hj
  ·cases ak.1 hc;exact⟨aa,by rw[<-aF];exact aL (by rw[dK,(dS.ok (lI.el kk)).1,eO];rfl)⟩
  ·cases ak.1 hc;rw[<-aF,ah] at hk;cases hk
 refine⟨[b],[(64,vs.flatten.map .val++sp.map .val)],eh,[(0,.nV 20 (0+((i:Nat):Int).toNat*6))],⟨⟨_,aa,aa,λi hi=>by rw[(by simpa [AV.ids] using hi:i=20)];exact⟨(by show 20<=20;omega),(by show 20<2*10+1;omega)⟩⟩,aj⟩,?_⟩;refine aq ?_;refine VO.fN aa (([.bool s1,.slice p1 n1 c1,.bool t1,.slice y1 m1 d1]:List Value).map .val) aa (dw kS _ hcs 2 _ ⟨[],aa⟩ _ (by rw[bh];show 0+i*6+2=i*6+2;omega)) (wV aa ?_);refine aq ?_;refine VO.call aa aa (fk nr) (λcV eG db=>(iC _ _ _ _ _ cV ((qi.kp (Kp.of (U:=UU) aB)).raw.1.kp (show aK dp wA cV from dA)) ae ae).mono ?_);rintro o u1 ⟨r1,rfl,q1,bF⟩;obtain⟨P1,C1,Y1,D1,rfl,_⟩:=q1.raw.mD;refine oe bF ?_;intro fM _ bb1;refine VO.cond aa (by rw[bg,aM,aM,bE _ 6 kS];(try rw[dV]);rw[bh];show 0+i*6+2+4<=_;have:=eQ 6 (na tH);rw[jO] at this;omega) (VO.jX 20 aa (show _=(vs.set i [.string x.1,.int .u8 (x.2.1:Int),.bool x.2.2.s,.slice P1 x.2.2.xs.length C1,.bool x.2.2.t,.slice Y1 x.2.2.ys.length D1]).flatten.map AV.val++sp.map AV.val from dJ kS hcs 2 [.bool x.2.2.s,.slice P1 x.2.2.xs.length C1,.bool x.2.2.t,.slice Y1 x.2.2.ys.length D1] (cG aa) _ _ (by rw[bh];show 0+i*6+2=i*6+2;omega) 4 aa) (wV aa ?_));refine aq ?_;have NU:lI kk u1 [.string x.1,.int .u8 (x.2.1:Int),.bool x.2.2.s,.slice P1 x.2.2.xs.length C1,.bool x.2.2.t,.slice Y1 x.2.2.ys.length D1] x:=lI.mk' (.mk q1.raw gu.1 gu.2) RM;refine VS.Ey (cM _ _) aa (λwz β kz bz en=> ?_);obtain⟨hβ,ld⟩:=qb (en.own 20 _ _ aa) 0 b aa aa;rw[<-aF,az] at ld;have ia:dP [b] w wz:=(dP.of aB).aG bz.1;exact⟨aa,_,ld,((dS.kp (lI.el kk) ((Kp.of (U:=UU) aB).aG (aK.dN (show aK dp wA u1 from dA)))).set hx NU).kp (lI.el kk) (show Kp UU u1 wz from dA),ia⟩
theorem wW (v:Value) (l:List BrR) (kk:Nat) (w:World) (hv:bK (lH kk) 8 w v l) (hn:l.length<=1000000):
  Calls Tryz.prog 152 #[v] w λo w'=>∃ r,o=.returned r/\ay (lH kk) 8 127 w.heap.size w' r l/\ax w w':=by
 obtain⟨p,c,rfl,fV,gj⟩:=hv.form;refine ai (C:=aY Tryz.prog w _) (args:=[_]) Tryz.func152 aa Tryz.ntmps152 (cG aa) ?_;refine ag ?_;cases p with
 | none=>
   refine VS.bB aa aa ?_;refine ag ?_;refine ck ?_;intro wz kz bz;refine⟨_,aa,.inl ⟨aa,?_⟩,bz⟩;cases l with
   | nil=>rfl
   | cons a l=>
     obtain⟨b,off,cs,h,_⟩:=hv.at (i:=0) (a:=a) aa;cases h
 | some a=>
   obtain⟨vs,hr,-,hx⟩:=hv.src (lH.el kk);obtain⟨qh,tN⟩:=hr.ok (lH.el kk);refine VS.bC aa aa ?_;refine ag ?_
   refine VO.app (bU _ _) (t:=22) (e:=127) (sz:=8) (n:=0) (c:=0) (mm:=l.length) (known:=[]) (spare:=[]) (del:=some 5) (news:=vs.flatten.map .val) (dst:=7) aa aa aa aa aa aa aa aa (cG aa) aa (.inr ⟨5,aa,aa,aa⟩) (.inl aa) aa aa (aP _) ae ⟨aa,aa,ah _⟩ ⟨aa,aa,aL qh⟩ (by rw[aM,tN]) ae
    (λw1 β k1 b1 ho=>⟨_,_,rfl,hx.imp id (λ⟨b,off,h1,h2⟩=>⟨b,off,h1,λj u hj=>b1.cell (h2 j u (by rw[az] at hj;exact hj))⟩)⟩)
    (λiA cap' bt ρ vC qE fo pJ lS kL EA xH=>wV rfl ?_)
   refine ag ?_;refine VS.oU (bU _ _) aa (λwz β kz bz en=> ?_);exact⟨_,aa,dQ (es:=l) (en.own 7 _ _ aa) (hr.kp (lH.el kk) ((Kp.of qE).aG kz)) (fe _) ae lS kL,bz⟩
set_option maxRecDepth 8000 in
theorem wZ (b i kk:Nat) (vs:List (List Value)) (sp:List Value) (es:List BrR) (x:BrR) (w:World) (cZ:aQ w b 127 (vs.flatten++sp).toArray) (dS:cw (lH kk) w es vs) (eO:sp.all aO=true) (hx:es[i]? =some x) (hk:kk<=1000):
  Calls Tryz.prog 93 #[.pointer (some ⟨b,0+((i:Nat):Int).toNat*8,none⟩)] w λo w'=>o=.returned (.tuple #[])/\∃ ew,aQ w' b 127 ((vs.set i ew).flatten++sp).toArray/\cw (lH kk) w' es (vs.set i ew)/\dP [b] w w':=by
 obtain⟨cs,hcs,hE⟩:=dS.at i x hx;have kS:=dS.lens (lH.el kk);have tH:=(bd.1 hcs).1;obtain⟨s1,p1,n1,c1,t1,y1,m1,d1,s2,p2,n2,c2,t2,y2,m2,d2,rfl,qi,he2⟩:=hE;have gu:=qi.raw.2;have jP:=he2.raw.2;refine ai (C:=aY Tryz.prog w _) (args:=[_]) Tryz.func93 aa Tryz.ntmps93 (cG aa) ?_
 (repeat (first|refine wN ?_|refine wP aa ?_|refine wO aa aa ?_))
 refine VS.cK dp (λt=>Nat.beq t 23) table (λ_ _ _=>trivial) (λwA nA k1 ic qF=> ?_);have aB:ax w wA:=ic
 have eh:dv dp 18 [b] [(127,vs.flatten.map .val++sp.map .val)] wA:=by
  refine⟨aa,cf,λj g' c' hj hc=> ?_,λc' hc=> ?_,λc' hc k hk=> ?_⟩
  ·match j,hj,hc with
   | 0,hj,hc=>cases hj;cases hc;rw[<-aF,az];exact cZ.aA aB
   | j+1,hj,_=>simp at hj
  ·cases ak.1 hc;exact⟨aa,by rw[<-aF];exact aL (by rw[dK,(dS.ok (lH.el kk)).1,eO];rfl)⟩
  ·cases ak.1 hc;rw[<-aF,ah] at hk;cases hk
 refine⟨[b],[(127,vs.flatten.map .val++sp.map .val)],eh,[(0,.nV 36 (0+((i:Nat):Int).toNat*8))],⟨⟨_,aa,aa,λi hi=>by rw[(by simpa [AV.ids] using hi:i=36)];exact⟨(by show 36<=36;omega),(by show 36<2*18+1;omega)⟩⟩,aj⟩,?_⟩
 (repeat (first|refine wN ?_|refine wP aa ?_|refine wO aa aa ?_))
 refine VS.LZ (cM _ _) (tL _ _) [] [(5,17),(10,14)] [(14,36,((0+((i:Nat):Int).toNat*8)+0),4),(17,36,((0+((i:Nat):Int).toNat*8)+4),4)] (by kernel_rfl) ?_;refine gg.chunk (l2:=[5,6,7,8,9,10,11,12,13,14,15,16,17]) [0,1,2,3,4] aa ?_;refine aq ?_
 refine gg.b (j:=5) aa (λn hn=>⟨_,_,36,((0+((i:Nat):Int).toNat*8)+0),_,aa,.inr aa,aa,by
  intro e he h1 h2;simp only[List.mem_cons,List.not_mem_nil,or_false] at he;rcases he with rfl|rfl <;> cases h1 <;> first|exact absurd (show false=true from hn) cW|exact .inl (show ((0+((i:Nat):Int).toNat*8)+0)+4<=((0+((i:Nat):Int).toNat*8)+4) by omega)⟩) aa ?_
 refine aq ?_;refine VO.fN aa (([.bool s1,.slice p1 n1 c1,.bool t1,.slice y1 m1 d1]:List Value).map .val) aa (dw kS _ hcs 0 _ ⟨_,aa⟩ _ (by rw[bh];show 0+i*8+0=i*8+0;omega)) (wV aa ?_);refine aq ?_;refine gg.chunk (l2:=[7,8,9,10,11,12,13,14,15,16,17]) [6] aa ?_;refine aq ?_;refine VO.call aa aa (fk nr) (λcV eG db=>(iC _ _ _ _ _ cV ((qi.kp (Kp.of (U:=UU) aB)).raw.1.kp (show aK dp wA cV from dA)) ae ae).mono ?_);rintro o u1 ⟨r1,rfl,q1,bF⟩;obtain⟨P1,C1,Y1,D1,rfl,_⟩:=q1.raw.mD;refine oe bF ?_;intro fM _ bb1;refine gg.chunk (l2:=[10,11,12,13,14,15,16,17]) [7,8,9] aa ?_;refine aq ?_
 refine gg.b (j:=10) aa (λn hn=>⟨_,_,36,((0+((i:Nat):Int).toNat*8)+4),_,aa,.inr aa,aa,by
  intro e he h1 h2;simp only[List.mem_cons,List.not_mem_nil,or_false] at he;rcases he with rfl|rfl <;> cases h1 <;> first|exact absurd (show false=true from hn) cW|exact .inr (show ((0+((i:Nat):Int).toNat*8)+0)+4<=((0+((i:Nat):Int).toNat*8)+4) by omega)⟩) aa ?_
 refine aq ?_;refine VO.fN aa (([.bool s2,.slice p2 n2 c2,.bool t2,.slice y2 m2 d2]:List Value).map .val) aa (dw kS _ hcs 4 _ ⟨[],aa⟩ _ (by rw[bh];show 0+i*8+4=i*8+4;omega)) (wV aa ?_);refine aq ?_;refine gg.chunk (l2:=[12,13,14,15,16,17]) [11] aa ?_;refine aq ?_;refine VO.call aa aa (fk nr) (λeD gO fG=>(iC _ _ _ _ _ eD ((he2.kp (Kp.of (U:=UU) aB)).raw.1.kp (show aK dp wA eD from dA)) ae ae).mono ?_);rintro o u2 ⟨r2,rfl,q2,cJ⟩;obtain⟨P2,C2,Y2,D2,rfl,_⟩:=q2.raw.mD;refine oe cJ ?_;intro jH _ bb2;refine gg.chunk (l2:=[14,15,16,17]) [12,13] aa ?_;refine aq ?_;refine gg.s (j:=14) aa ⟨_,_,_,36,((0+((i:Nat):Int).toNat*8)+0),_,aa,.inr aa,aa,.head _⟩ aa ?_;refine aq ?_;refine VO.cond aa (by rw[bg,aM,aM,bE _ 8 kS];(try rw[dV]);rw[bh];show 0+i*8+0+4<=_;have:=eQ 8 (na tH);rw[jO] at this;omega) (VO.jX 36 aa (show _=(vs.set i [.bool x.1.s,.slice P1 x.1.xs.length C1,.bool x.1.t,.slice Y1 x.1.ys.length D1,.bool s2,.slice p2 n2 c2,.bool t2,.slice y2 m2 d2]).flatten.map AV.val++sp.map AV.val from dJ kS hcs 0 [.bool x.1.s,.slice P1 x.1.xs.length C1,.bool x.1.t,.slice Y1 x.1.ys.length D1] (cG aa) _ _ (by rw[bh];show 0+i*8+0=i*8+0;omega) 4 aa) (wV aa ?_));refine aq ?_;have NV:(vs.set i [.bool x.1.s,.slice P1 x.1.xs.length C1,.bool x.1.t,.slice Y1 x.1.ys.length D1,.bool s2,.slice p2 n2 c2,.bool t2,.slice y2 m2 d2])[i]? =some [.bool x.1.s,.slice P1 x.1.xs.length C1,.bool x.1.t,.slice Y1 x.1.ys.length D1,.bool s2,.slice p2 n2 c2,.bool t2,.slice y2 m2 d2]:=by rw[ll,if_pos rfl,if_pos tH]
 have EN:∀ v∈vs.set i [.bool x.1.s,.slice P1 x.1.xs.length C1,.bool x.1.t,.slice Y1 x.1.ys.length D1,.bool s2,.slice p2 n2 c2,.bool t2,.slice y2 m2 d2],v.length=8:=λv hv=>by
  rcases mU hv with h|h
  ·exact kS v h
  ·rw[h];rfl
 refine gg.chunk (l2:=[17]) [15,16] aa ?_;refine aq ?_;refine gg.s (j:=17) aa ⟨_,_,_,36,((0+((i:Nat):Int).toNat*8)+4),_,aa,.inr aa,aa,.tail _ (.head _)⟩ aa ?_;refine aq ?_;refine VO.cond aa (by rw[bg,aM,aM,bE _ 8 EN];(try rw[dV]);rw[bh];show 0+i*8+4+4<=_;have:=eQ 8 (na tH);rw[jO] at this;omega) (VO.jX 36 aa (show _=(vs.set i [.bool x.1.s,.slice P1 x.1.xs.length C1,.bool x.1.t,.slice Y1 x.1.ys.length D1,.bool x.2.s,.slice P2 x.2.xs.length C2,.bool x.2.t,.slice Y2 x.2.ys.length D2]).flatten.map AV.val++sp.map AV.val from (dJ EN NV 4 [.bool x.2.s,.slice P2 x.2.xs.length C2,.bool x.2.t,.slice Y2 x.2.ys.length D2] (cG aa) _ _ (by rw[bh];show 0+i*8+4=i*8+4;omega) 4 aa).trans (by rw[Cf];rfl)) (wV aa ?_));refine aq ?_;have NU:lH kk u2 [.bool x.1.s,.slice P1 x.1.xs.length C1,.bool x.1.t,.slice Y1 x.1.ys.length D1,.bool x.2.s,.slice P2 x.2.xs.length C2,.bool x.2.t,.slice Y2 x.2.ys.length D2] x:=lH.mk' (.mk (q1.raw.kp (show aK dp u1 u2 from dA)) gu.1 gu.2) (.mk q2.raw jP.1 jP.2);refine VS.Ey (cM _ _) aa (λwz β kz bz en=> ?_);obtain⟨hβ,ld⟩:=qb (en.own 36 _ _ aa) 0 b aa aa;rw[<-aF,az] at ld;have ia:dP [b] w wz:=(dP.of aB).aG bz.1;exact⟨aa,_,ld,((dS.kp (lH.el kk) ((Kp.of (U:=UU) aB).aG (aK.dN (show aK dp wA u2 from dA)))).set hx NU).kp (lH.el kk) (show Kp UU u2 wz from dA),ia⟩
theorem BC (v:Value) (l:List lg) (kk:Nat) (w:World) (hv:bK (dR kk) 6 w v l) (hn:l.length<=1000000):
  Calls Tryz.prog 209 #[v] w λo w'=>∃ r,o=.returned r/\ay (dR kk) 6 218 w.heap.size w' r l/\ax w w':=by
 obtain⟨p,c,rfl,fV,gj⟩:=hv.form;refine ai (C:=aY Tryz.prog w _) (args:=[_]) Tryz.func209 aa Tryz.ntmps209 (cG aa) ?_;refine ag ?_;cases p with
 | none=>
   refine VS.bB aa aa ?_;refine ag ?_;refine ck ?_;intro wz kz bz;refine⟨_,aa,.inl ⟨aa,?_⟩,bz⟩;cases l with
   | nil=>rfl
   | cons a l=>
     obtain⟨b,off,cs,h,_⟩:=hv.at (i:=0) (a:=a) aa;cases h
 | some a=>
   obtain⟨vs,hr,-,hx⟩:=hv.src (dR.el kk);obtain⟨qh,tN⟩:=hr.ok (dR.el kk);refine VS.bC aa aa ?_;refine ag ?_
   refine VO.app (bU _ _) (t:=93) (e:=218) (sz:=6) (n:=0) (c:=0) (mm:=l.length) (known:=[]) (spare:=[]) (del:=some 5) (news:=vs.flatten.map .val) (dst:=7) aa aa aa aa aa aa aa aa (cG aa) aa (.inr ⟨5,aa,aa,aa⟩) (.inl aa) aa aa (aP _) ae ⟨aa,aa,ah _⟩ ⟨aa,aa,aL qh⟩ (by rw[aM,tN]) ae
    (λw1 β k1 b1 ho=>⟨_,_,rfl,hx.imp id (λ⟨b,off,h1,h2⟩=>⟨b,off,h1,λj u hj=>b1.cell (h2 j u (by rw[az] at hj;exact hj))⟩)⟩)
    (λiA cap' bt ρ vC qE fo pJ lS kL EA xH=>wV rfl ?_)
   refine ag ?_;refine VS.oU (bU _ _) aa (λwz β kz bz en=> ?_);exact⟨_,aa,dQ (es:=l) (en.own 7 _ _ aa) (hr.kp (dR.el kk) ((Kp.of qE).aG kz)) (fe _) ae lS kL,bz⟩
set_option maxRecDepth 8000 in
theorem BD (b i kk:Nat) (vs:List (List Value)) (sp:List Value) (es:List lg) (x:lg) (w:World) (cZ:aQ w b 218 (vs.flatten++sp).toArray) (dS:cw (dR kk) w es vs) (eO:sp.all aO=true) (hx:es[i]? =some x) (hk:kk<=1000):
  Calls Tryz.prog 156 #[.pointer (some ⟨b,0+((i:Nat):Int).toNat*6,none⟩)] w λo w'=>o=.returned (.tuple #[])/\∃ ew,aQ w' b 218 ((vs.set i ew).flatten++sp).toArray/\cw (dR kk) w' es (vs.set i ew)/\dP [b] w w':=by
 obtain⟨cs,hcs,hE⟩:=dS.at i x hx;have kS:=dS.lens (dR.el kk);have tH:=(bd.1 hcs).1;obtain⟨s1,p1,n1,c1,t1,y1,m1,d1,rfl,qi⟩:=hE;have gu:=qi.raw.2;refine ai (C:=aY Tryz.prog w _) (args:=[_]) Tryz.func156 aa Tryz.ntmps156 (cG aa) ?_
 (repeat (first|refine wN ?_|refine wP aa ?_|refine wO aa aa ?_))
 refine VS.cK dp (λt=>Nat.beq t 23) table (λ_ _ _=>trivial) (λwA nA k1 ic qF=> ?_);have aB:ax w wA:=ic
 have eh:dv dp 10 [b] [(218,vs.flatten.map .val++sp.map .val)] wA:=by
  refine⟨aa,cf,λj g' c' hj hc=> ?_,λc' hc=> ?_,λc' hc k hk=> ?_⟩
  ·match j,hj,hc with
   | 0,hj,hc=>cases hj;cases hc;rw[<-aF,az];exact cZ.aA aB
   | j+1,hj,_=>simp at hj
  ·cases ak.1 hc;exact⟨aa,by rw[<-aF];exact aL (by rw[dK,(dS.ok (dR.el kk)).1,eO];rfl)⟩
  ·cases ak.1 hc;rw[<-aF,ah] at hk;cases hk
 refine⟨[b],[(218,vs.flatten.map .val++sp.map .val)],eh,[(0,.nV 20 (0+((i:Nat):Int).toNat*6))],⟨⟨_,aa,aa,λi hi=>by rw[(by simpa [AV.ids] using hi:i=20)];exact⟨(by show 20<=20;omega),(by show 20<2*10+1;omega)⟩⟩,aj⟩,?_⟩;refine aq ?_;refine VO.fN aa (([.bool s1,.slice p1 n1 c1,.bool t1,.slice y1 m1 d1]:List Value).map .val) aa (dw kS _ hcs 2 _ ⟨[],aa⟩ _ (by rw[bh];show 0+i*6+2=i*6+2;omega)) (wV aa ?_);refine aq ?_;refine VO.call aa aa (fk nr) (λcV eG db=>(iC _ _ _ _ _ cV ((qi.kp (Kp.of (U:=UU) aB)).raw.1.kp (show aK dp wA cV from dA)) ae ae).mono ?_);rintro o u1 ⟨r1,rfl,q1,bF⟩;obtain⟨P1,C1,Y1,D1,rfl,_⟩:=q1.raw.mD;refine oe bF ?_;intro fM _ bb1;refine VO.cond aa (by rw[bg,aM,aM,bE _ 6 kS];(try rw[dV]);rw[bh];show 0+i*6+2+4<=_;have:=eQ 6 (na tH);rw[jO] at this;omega) (VO.jX 20 aa (show _=(vs.set i [.string x.1,.string x.2.1,.bool x.2.2.s,.slice P1 x.2.2.xs.length C1,.bool x.2.2.t,.slice Y1 x.2.2.ys.length D1]).flatten.map AV.val++sp.map AV.val from dJ kS hcs 2 [.bool x.2.2.s,.slice P1 x.2.2.xs.length C1,.bool x.2.2.t,.slice Y1 x.2.2.ys.length D1] (cG aa) _ _ (by rw[bh];show 0+i*6+2=i*6+2;omega) 4 aa) (wV aa ?_));refine aq ?_;have NU:dR kk u1 [.string x.1,.string x.2.1,.bool x.2.2.s,.slice P1 x.2.2.xs.length C1,.bool x.2.2.t,.slice Y1 x.2.2.ys.length D1] x:=dR.mk' (.mk q1.raw gu.1 gu.2);refine VS.Ey (cM _ _) aa (λwz β kz bz en=> ?_);obtain⟨hβ,ld⟩:=qb (en.own 20 _ _ aa) 0 b aa aa;rw[<-aF,az] at ld;have ia:dP [b] w wz:=(dP.of aB).aG bz.1;exact⟨aa,_,ld,((dS.kp (dR.el kk) ((Kp.of (U:=UU) aB).aG (aK.dN (show aK dp wA u1 from dA)))).set hx NU).kp (dR.el kk) (show Kp UU u1 wz from dA),ia⟩
theorem BF (v:Value) (l:List lg) (kk:Nat) (w:World) (hv:bK (dR kk) 6 w v l) (hn:l.length<=1000000):
  Calls Tryz.prog 210 #[v] w λo w'=>∃ r,o=.returned r/\ay (dR kk) 6 103 w.heap.size w' r l/\ax w w':=by
 obtain⟨p,c,rfl,fV,gj⟩:=hv.form;refine ai (C:=aY Tryz.prog w _) (args:=[_]) Tryz.func210 aa Tryz.ntmps210 (cG aa) ?_;refine ag ?_;cases p with
 | none=>
   refine VS.bB aa aa ?_;refine ag ?_;refine ck ?_;intro wz kz bz;refine⟨_,aa,.inl ⟨aa,?_⟩,bz⟩;cases l with
   | nil=>rfl
   | cons a l=>
     obtain⟨b,off,cs,h,_⟩:=hv.at (i:=0) (a:=a) aa;cases h
 | some a=>
   obtain⟨vs,hr,-,hx⟩:=hv.src (dR.el kk);obtain⟨qh,tN⟩:=hr.ok (dR.el kk);refine VS.bC aa aa ?_;refine ag ?_
   refine VO.app (bU _ _) (t:=94) (e:=103) (sz:=6) (n:=0) (c:=0) (mm:=l.length) (known:=[]) (spare:=[]) (del:=some 5) (news:=vs.flatten.map .val) (dst:=7) aa aa aa aa aa aa aa aa (cG aa) aa (.inr ⟨5,aa,aa,aa⟩) (.inl aa) aa aa (aP _) ae ⟨aa,aa,ah _⟩ ⟨aa,aa,aL qh⟩ (by rw[aM,tN]) ae
    (λw1 β k1 b1 ho=>⟨_,_,rfl,hx.imp id (λ⟨b,off,h1,h2⟩=>⟨b,off,h1,λj u hj=>b1.cell (h2 j u (by rw[az] at hj;exact hj))⟩)⟩)
    (λiA cap' bt ρ vC qE fo pJ lS kL EA xH=>wV rfl ?_)
   refine ag ?_;refine VS.oU (bU _ _) aa (λwz β kz bz en=> ?_);exact⟨_,aa,dQ (es:=l) (en.own 7 _ _ aa) (hr.kp (dR.el kk) ((Kp.of qE).aG kz)) (fe _) ae lS kL,bz⟩
set_option maxRecDepth 8000 in
theorem BG (b i kk:Nat) (vs:List (List Value)) (sp:List Value) (es:List lg) (x:lg) (w:World) (cZ:aQ w b 103 (vs.flatten++sp).toArray) (dS:cw (dR kk) w es vs) (eO:sp.all aO=true) (hx:es[i]? =some x) (hk:kk<=1000):
  Calls Tryz.prog 158 #[.pointer (some ⟨b,0+((i:Nat):Int).toNat*6,none⟩)] w λo w'=>o=.returned (.tuple #[])/\∃ ew,aQ w' b 103 ((vs.set i ew).flatten++sp).toArray/\cw (dR kk) w' es (vs.set i ew)/\dP [b] w w':=by
 obtain⟨cs,hcs,hE⟩:=dS.at i x hx;have kS:=dS.lens (dR.el kk);have tH:=(bd.1 hcs).1;obtain⟨s1,p1,n1,c1,t1,y1,m1,d1,rfl,qi⟩:=hE;have gu:=qi.raw.2;refine ai (C:=aY Tryz.prog w _) (args:=[_]) Tryz.func158 aa Tryz.ntmps158 (cG aa) ?_
 (repeat (first|refine wN ?_|refine wP aa ?_|refine wO aa aa ?_))
 refine VS.cK dp (λt=>Nat.beq t 23) table (λ_ _ _=>trivial) (λwA nA k1 ic qF=> ?_);have aB:ax w wA:=ic
 have eh:dv dp 10 [b] [(103,vs.flatten.map .val++sp.map .val)] wA:=by
  refine⟨aa,cf,λj g' c' hj hc=> ?_,λc' hc=> ?_,λc' hc k hk=> ?_⟩
  ·match j,hj,hc with
   | 0,hj,hc=>cases hj;cases hc;rw[<-aF,az];exact cZ.aA aB
   | j+1,hj,_=>simp at hj
  ·cases ak.1 hc;exact⟨aa,by rw[<-aF];exact aL (by rw[dK,(dS.ok (dR.el kk)).1,eO];rfl)⟩
  ·cases ak.1 hc;rw[<-aF,ah] at hk;cases hk
 refine⟨[b],[(103,vs.flatten.map .val++sp.map .val)],eh,[(0,.nV 20 (0+((i:Nat):Int).toNat*6))],⟨⟨_,aa,aa,λi hi=>by rw[(by simpa [AV.ids] using hi:i=20)];exact⟨(by show 20<=20;omega),(by show 20<2*10+1;omega)⟩⟩,aj⟩,?_⟩;refine aq ?_;refine VO.fN aa (([.bool s1,.slice p1 n1 c1,.bool t1,.slice y1 m1 d1]:List Value).map .val) aa (dw kS _ hcs 2 _ ⟨[],aa⟩ _ (by rw[bh];show 0+i*6+2=i*6+2;omega)) (wV aa ?_);refine aq ?_;refine VO.call aa aa (fk nr) (λcV eG db=>(iC _ _ _ _ _ cV ((qi.kp (Kp.of (U:=UU) aB)).raw.1.kp (show aK dp wA cV from dA)) ae ae).mono ?_);rintro o u1 ⟨r1,rfl,q1,bF⟩;obtain⟨P1,C1,Y1,D1,rfl,_⟩:=q1.raw.mD;refine oe bF ?_;intro fM _ bb1;refine VO.cond aa (by rw[bg,aM,aM,bE _ 6 kS];(try rw[dV]);rw[bh];show 0+i*6+2+4<=_;have:=eQ 6 (na tH);rw[jO] at this;omega) (VO.jX 20 aa (show _=(vs.set i [.string x.1,.string x.2.1,.bool x.2.2.s,.slice P1 x.2.2.xs.length C1,.bool x.2.2.t,.slice Y1 x.2.2.ys.length D1]).flatten.map AV.val++sp.map AV.val from dJ kS hcs 2 [.bool x.2.2.s,.slice P1 x.2.2.xs.length C1,.bool x.2.2.t,.slice Y1 x.2.2.ys.length D1] (cG aa) _ _ (by rw[bh];show 0+i*6+2=i*6+2;omega) 4 aa) (wV aa ?_));refine aq ?_;have NU:dR kk u1 [.string x.1,.string x.2.1,.bool x.2.2.s,.slice P1 x.2.2.xs.length C1,.bool x.2.2.t,.slice Y1 x.2.2.ys.length D1] x:=dR.mk' (.mk q1.raw gu.1 gu.2);refine VS.Ey (cM _ _) aa (λwz β kz bz en=> ?_);obtain⟨hβ,ld⟩:=qb (en.own 20 _ _ aa) 0 b aa aa;rw[<-aF,az] at ld;have ia:dP [b] w wz:=(dP.of aB).aG bz.1;exact⟨aa,_,ld,((dS.kp (dR.el kk) ((Kp.of (U:=UU) aB).aG (aK.dN (show aK dp wA u1 from dA)))).set hx NU).kp (dR.el kk) (show Kp UU u1 wz from dA),ia⟩
theorem BH (v:Value) (l:List QU) (kk:Nat) (w:World) (hv:bK (mH kk) 10 w v l) (hn:l.length<=1000000):
  Calls Tryz.prog 211 #[v] w λo w'=>∃ r,o=.returned r/\ay (mH kk) 10 222 w.heap.size w' r l/\ax w w':=by
 obtain⟨p,c,rfl,fV,gj⟩:=hv.form;refine ai (C:=aY Tryz.prog w _) (args:=[_]) Tryz.func211 aa Tryz.ntmps211 (cG aa) ?_;refine ag ?_;cases p with
 | none=>
   refine VS.bB aa aa ?_;refine ag ?_;refine ck ?_;intro wz kz bz;refine⟨_,aa,.inl ⟨aa,?_⟩,bz⟩;cases l with
   | nil=>rfl
   | cons a l=>
     obtain⟨b,off,cs,h,_⟩:=hv.at (i:=0) (a:=a) aa;cases h
 | some a=>
   obtain⟨vs,hr,-,hx⟩:=hv.src (mH.el kk);obtain⟨qh,tN⟩:=hr.ok (mH.el kk);refine VS.bC aa aa ?_;refine ag ?_
   refine VO.app (bU _ _) (t:=95) (e:=222) (sz:=10) (n:=0) (c:=0) (mm:=l.length) (known:=[]) (spare:=[]) (del:=some 5) (news:=vs.flatten.map .val) (dst:=7) aa aa aa aa aa aa aa aa (cG aa) aa (.inr ⟨5,aa,aa,aa⟩) (.inl aa) aa aa (aP _) ae ⟨aa,aa,ah _⟩ ⟨aa,aa,aL qh⟩ (by rw[aM,tN]) ae
    (λw1 β k1 b1 ho=>⟨_,_,rfl,hx.imp id (λ⟨b,off,h1,h2⟩=>⟨b,off,h1,λj u hj=>b1.cell (h2 j u (by rw[az] at hj;exact hj))⟩)⟩)
    (λiA cap' bt ρ vC qE fo pJ lS kL EA xH=>wV rfl ?_)
   refine ag ?_;refine VS.oU (bU _ _) aa (λwz β kz bz en=> ?_);exact⟨_,aa,dQ (es:=l) (en.own 7 _ _ aa) (hr.kp (mH.el kk) ((Kp.of qE).aG kz)) (fe _) ae lS kL,bz⟩
set_option maxRecDepth 8000 in
theorem BI (b i kk:Nat) (vs:List (List Value)) (sp:List Value) (es:List QU) (x:QU) (w:World) (cZ:aQ w b 222 (vs.flatten++sp).toArray) (dS:cw (mH kk) w es vs) (eO:sp.all aO=true) (hx:es[i]? =some x) (hk:kk<=1000):
  Calls Tryz.prog 160 #[.pointer (some ⟨b,0+((i:Nat):Int).toNat*10,none⟩)] w λo w'=>o=.returned (.tuple #[])/\∃ ew,aQ w' b 222 ((vs.set i ew).flatten++sp).toArray/\cw (mH kk) w' es (vs.set i ew)/\dP [b] w w':=by
 obtain⟨cs,hcs,hE⟩:=dS.at i x hx;have kS:=dS.lens (mH.el kk);have tH:=(bd.1 hcs).1;obtain⟨s1,p1,n1,c1,t1,y1,m1,d1,rfl,qi,RM⟩:=hE;have gu:=qi.raw.2;refine ai (C:=aY Tryz.prog w _) (args:=[_]) Tryz.func160 aa Tryz.ntmps160 (cG aa) ?_
 (repeat (first|refine wN ?_|refine wP aa ?_|refine wO aa aa ?_))
 refine VS.cK dp (λt=>Nat.beq t 23) table (λ_ _ _=>trivial) (λwA nA k1 ic qF=> ?_);have aB:ax w wA:=ic
 have eh:dv dp 10 [b] [(222,vs.flatten.map .val++sp.map .val)] wA:=by
  refine⟨aa,cf,λj g' c' hj hc=> ?_,λc' hc=> ?_,λc' hc k hk=> ?_⟩
  ·match j,hj,hc with
   | 0,hj,hc=>cases hj;cases hc;rw[<-aF,az];exact cZ.aA aB
   | j+1,hj,_=>simp at hj
  ·cases ak.1 hc;exact⟨aa,by rw[<-aF];exact aL (by rw[dK,(dS.ok (mH.el kk)).1,eO];rfl)⟩
  ·cases ak.1 hc;rw[<-aF,ah] at hk;cases hk
 refine⟨[b],[(222,vs.flatten.map .val++sp.map .val)],eh,[(0,.nV 20 (0+((i:Nat):Int).toNat*10))],⟨⟨_,aa,aa,λi hi=>by rw[(by simpa [AV.ids] using hi:i=20)];exact⟨(by show 20<=20;omega),(by show 20<2*10+1;omega)⟩⟩,aj⟩,?_⟩;refine aq ?_;refine VO.fN aa (([.bool s1,.slice p1 n1 c1,.bool t1,.slice y1 m1 d1]:List Value).map .val) aa (dw kS _ hcs 6 _ ⟨[],aa⟩ _ (by rw[bh];show 0+i*10+6=i*10+6;omega)) (wV aa ?_);refine aq ?_;refine VO.call aa aa (fk nr) (λcV eG db=>(iC _ _ _ _ _ cV ((qi.kp (Kp.of (U:=UU) aB)).raw.1.kp (show aK dp wA cV from dA)) ae ae).mono ?_);rintro o u1 ⟨r1,rfl,q1,bF⟩;obtain⟨P1,C1,Y1,D1,rfl,_⟩:=q1.raw.mD;refine oe bF ?_;intro fM _ bb1;refine VO.cond aa (by rw[bg,aM,aM,bE _ 10 kS];(try rw[dV]);rw[bh];show 0+i*10+6+4<=_;have:=eQ 10 (na tH);rw[jO] at this;omega) (VO.jX 20 aa (show _=(vs.set i [.bool x.give,.string x.id,.int .u8 (x.kind:Int),.string x.rM,.string x.rN,.string x.cls,.bool x.Dk.s,.slice P1 x.Dk.xs.length C1,.bool x.Dk.t,.slice Y1 x.Dk.ys.length D1]).flatten.map AV.val++sp.map AV.val from dJ kS hcs 6 [.bool x.Dk.s,.slice P1 x.Dk.xs.length C1,.bool x.Dk.t,.slice Y1 x.Dk.ys.length D1] (cG aa) _ _ (by rw[bh];show 0+i*10+6=i*10+6;omega) 4 aa) (wV aa ?_));refine aq ?_;have NU:mH kk u1 [.bool x.give,.string x.id,.int .u8 (x.kind:Int),.string x.rM,.string x.rN,.string x.cls,.bool x.Dk.s,.slice P1 x.Dk.xs.length C1,.bool x.Dk.t,.slice Y1 x.Dk.ys.length D1] x:=mH.mk' (.mk q1.raw gu.1 gu.2) RM;refine VS.Ey (cM _ _) aa (λwz β kz bz en=> ?_);obtain⟨hβ,ld⟩:=qb (en.own 20 _ _ aa) 0 b aa aa;rw[<-aF,az] at ld;have ia:dP [b] w wz:=(dP.of aB).aG bz.1;exact⟨aa,_,ld,((dS.kp (mH.el kk) ((Kp.of (U:=UU) aB).aG (aK.dN (show aK dp wA u1 from dA)))).set hx NU).kp (mH.el kk) (show Kp UU u1 wz from dA),ia⟩
theorem AJ (v:Value) (l:List QS) (kk:Nat) (w:World) (hv:bK (mJ kk) 9 w v l) (hn:l.length<=1000000):
  Calls Tryz.prog 212 #[v] w λo w'=>∃ r,o=.returned r/\ay (mJ kk) 9 226 w.heap.size w' r l/\ax w w':=by
 obtain⟨p,c,rfl,fV,gj⟩:=hv.form;refine ai (C:=aY Tryz.prog w _) (args:=[_]) Tryz.func212 aa Tryz.ntmps212 (cG aa) ?_;refine ag ?_;cases p with
 | none=>
   refine VS.bB aa aa ?_;refine ag ?_;refine ck ?_;intro wz kz bz;refine⟨_,aa,.inl ⟨aa,?_⟩,bz⟩;cases l with
   | nil=>rfl
   | cons a l=>
     obtain⟨b,off,cs,h,_⟩:=hv.at (i:=0) (a:=a) aa;cases h
 | some a=>
   obtain⟨vs,hr,-,hx⟩:=hv.src (mJ.el kk);obtain⟨qh,tN⟩:=hr.ok (mJ.el kk);refine VS.bC aa aa ?_;refine ag ?_
   refine VO.app (bU _ _) (t:=96) (e:=226) (sz:=9) (n:=0) (c:=0) (mm:=l.length) (known:=[]) (spare:=[]) (del:=some 5) (news:=vs.flatten.map .val) (dst:=7) aa aa aa aa aa aa aa aa (cG aa) aa (.inr ⟨5,aa,aa,aa⟩) (.inl aa) aa aa (aP _) ae ⟨aa,aa,ah _⟩ ⟨aa,aa,aL qh⟩ (by rw[aM,tN]) ae
    (λw1 β k1 b1 ho=>⟨_,_,rfl,hx.imp id (λ⟨b,off,h1,h2⟩=>⟨b,off,h1,λj u hj=>b1.cell (h2 j u (by rw[az] at hj;exact hj))⟩)⟩)
    (λiA cap' bt ρ vC qE fo pJ lS kL EA xH=>wV rfl ?_)
   refine ag ?_;refine VS.oU (bU _ _) aa (λwz β kz bz en=> ?_);exact⟨_,aa,dQ (es:=l) (en.own 7 _ _ aa) (hr.kp (mJ.el kk) ((Kp.of qE).aG kz)) (fe _) ae lS kL,bz⟩
set_option maxRecDepth 8000 in
theorem AK (b i kk:Nat) (vs:List (List Value)) (sp:List Value) (es:List QS) (x:QS) (w:World) (cZ:aQ w b 226 (vs.flatten++sp).toArray) (dS:cw (mJ kk) w es vs) (eO:sp.all aO=true) (hx:es[i]? =some x) (hk:kk<=1000):
  Calls Tryz.prog 162 #[.pointer (some ⟨b,0+((i:Nat):Int).toNat*9,none⟩)] w λo w'=>o=.returned (.tuple #[])/\∃ ew,aQ w' b 226 ((vs.set i ew).flatten++sp).toArray/\cw (mJ kk) w' es (vs.set i ew)/\dP [b] w w':=by
 obtain⟨cs,hcs,hE⟩:=dS.at i x hx;have kS:=dS.lens (mJ.el kk);have tH:=(bd.1 hcs).1;obtain⟨s1,p1,n1,c1,t1,y1,m1,d1,s2,p2,n2,c2,t2,y2,m2,d2,rfl,qi,he2⟩:=hE;have gu:=qi.raw.2;have jP:=he2.raw.2;refine ai (C:=aY Tryz.prog w _) (args:=[_]) Tryz.func162 aa Tryz.ntmps162 (cG aa) ?_
 (repeat (first|refine wN ?_|refine wP aa ?_|refine wO aa aa ?_))
 refine VS.cK dp (λt=>Nat.beq t 23) table (λ_ _ _=>trivial) (λwA nA k1 ic qF=> ?_);have aB:ax w wA:=ic
 have eh:dv dp 18 [b] [(226,vs.flatten.map .val++sp.map .val)] wA:=by
  refine⟨aa,cf,λj g' c' hj hc=> ?_,λc' hc=> ?_,λc' hc k hk=> ?_⟩
  ·match j,hj,hc with
   | 0,hj,hc=>cases hj;cases hc;rw[<-aF,az];exact cZ.aA aB
   | j+1,hj,_=>simp at hj
  ·cases ak.1 hc;exact⟨aa,by rw[<-aF];exact aL (by rw[dK,(dS.ok (mJ.el kk)).1,eO];rfl)⟩
  ·cases ak.1 hc;rw[<-aF,ah] at hk;cases hk
 refine⟨[b],[(226,vs.flatten.map .val++sp.map .val)],eh,[(0,.nV 36 (0+((i:Nat):Int).toNat*9))],⟨⟨_,aa,aa,λi hi=>by rw[(by simpa [AV.ids] using hi:i=36)];exact⟨(by show 36<=36;omega),(by show 36<2*18+1;omega)⟩⟩,aj⟩,?_⟩
 (repeat (first|refine wN ?_|refine wP aa ?_|refine wO aa aa ?_))
 refine VS.LZ (cM _ _) (tL _ _) [] [(5,17),(10,14)] [(14,36,((0+((i:Nat):Int).toNat*9)+1),4),(17,36,((0+((i:Nat):Int).toNat*9)+5),4)] (by kernel_rfl) ?_;refine gg.chunk (l2:=[5,6,7,8,9,10,11,12,13,14,15,16,17]) [0,1,2,3,4] aa ?_;refine aq ?_
 refine gg.b (j:=5) aa (λn hn=>⟨_,_,36,((0+((i:Nat):Int).toNat*9)+1),_,aa,.inr aa,aa,by
  intro e he h1 h2;simp only[List.mem_cons,List.not_mem_nil,or_false] at he;rcases he with rfl|rfl <;> cases h1 <;> first|exact absurd (show false=true from hn) cW|exact .inl (show ((0+((i:Nat):Int).toNat*9)+1)+4<=((0+((i:Nat):Int).toNat*9)+5) by omega)⟩) aa ?_
 refine aq ?_;refine VO.fN aa (([.bool s1,.slice p1 n1 c1,.bool t1,.slice y1 m1 d1]:List Value).map .val) aa (dw kS _ hcs 1 _ ⟨_,aa⟩ _ (by rw[bh];show 0+i*9+1=i*9+1;omega)) (wV aa ?_);refine aq ?_;refine gg.chunk (l2:=[7,8,9,10,11,12,13,14,15,16,17]) [6] aa ?_;refine aq ?_;refine VO.call aa aa (fk nr) (λcV eG db=>(iC _ _ _ _ _ cV ((qi.kp (Kp.of (U:=UU) aB)).raw.1.kp (show aK dp wA cV from dA)) ae ae).mono ?_);rintro o u1 ⟨r1,rfl,q1,bF⟩;obtain⟨P1,C1,Y1,D1,rfl,_⟩:=q1.raw.mD;refine oe bF ?_;intro fM _ bb1;refine gg.chunk (l2:=[10,11,12,13,14,15,16,17]) [7,8,9] aa ?_;refine aq ?_
 refine gg.b (j:=10) aa (λn hn=>⟨_,_,36,((0+((i:Nat):Int).toNat*9)+5),_,aa,.inr aa,aa,by
  intro e he h1 h2;simp only[List.mem_cons,List.not_mem_nil,or_false] at he;rcases he with rfl|rfl <;> cases h1 <;> first|exact absurd (show false=true from hn) cW|exact .inr (show ((0+((i:Nat):Int).toNat*9)+1)+4<=((0+((i:Nat):Int).toNat*9)+5) by omega)⟩) aa ?_
 refine aq ?_;refine VO.fN aa (([.bool s2,.slice p2 n2 c2,.bool t2,.slice y2 m2 d2]:List Value).map .val) aa (dw kS _ hcs 5 _ ⟨[],aa⟩ _ (by rw[bh];show 0+i*9+5=i*9+5;omega)) (wV aa ?_);refine aq ?_;refine gg.chunk (l2:=[12,13,14,15,16,17]) [11] aa ?_;refine aq ?_;refine VO.call aa aa (fk nr) (λeD gO fG=>(iC _ _ _ _ _ eD ((he2.kp (Kp.of (U:=UU) aB)).raw.1.kp (show aK dp wA eD from dA)) ae ae).mono ?_);rintro o u2 ⟨r2,rfl,q2,cJ⟩;obtain⟨P2,C2,Y2,D2,rfl,_⟩:=q2.raw.mD;refine oe cJ ?_;intro jH _ bb2;refine gg.chunk (l2:=[14,15,16,17]) [12,13] aa ?_;refine aq ?_;refine gg.s (j:=14) aa ⟨_,_,_,36,((0+((i:Nat):Int).toNat*9)+1),_,aa,.inr aa,aa,.head _⟩ aa ?_;refine aq ?_;refine VO.cond aa (by rw[bg,aM,aM,bE _ 9 kS];(try rw[dV]);rw[bh];show 0+i*9+1+4<=_;have:=eQ 9 (na tH);rw[jO] at this;omega) (VO.jX 36 aa (show _=(vs.set i [.string x.1,.bool x.2.1.s,.slice P1 x.2.1.xs.length C1,.bool x.2.1.t,.slice Y1 x.2.1.ys.length D1,.bool s2,.slice p2 n2 c2,.bool t2,.slice y2 m2 d2]).flatten.map AV.val++sp.map AV.val from dJ kS hcs 1 [.bool x.2.1.s,.slice P1 x.2.1.xs.length C1,.bool x.2.1.t,.slice Y1 x.2.1.ys.length D1] (cG aa) _ _ (by rw[bh];show 0+i*9+1=i*9+1;omega) 4 aa) (wV aa ?_));refine aq ?_;have NV:(vs.set i [.string x.1,.bool x.2.1.s,.slice P1 x.2.1.xs.length C1,.bool x.2.1.t,.slice Y1 x.2.1.ys.length D1,.bool s2,.slice p2 n2 c2,.bool t2,.slice y2 m2 d2])[i]? =some [.string x.1,.bool x.2.1.s,.slice P1 x.2.1.xs.length C1,.bool x.2.1.t,.slice Y1 x.2.1.ys.length D1,.bool s2,.slice p2 n2 c2,.bool t2,.slice y2 m2 d2]:=by rw[ll,if_pos rfl,if_pos tH]
 have EN:∀ v∈vs.set i [.string x.1,.bool x.2.1.s,.slice P1 x.2.1.xs.length C1,.bool x.2.1.t,.slice Y1 x.2.1.ys.length D1,.bool s2,.slice p2 n2 c2,.bool t2,.slice y2 m2 d2],v.length=9:=λv hv=>by
  rcases mU hv with h|h
  ·exact kS v h
  ·rw[h];rfl
 refine gg.chunk (l2:=[17]) [15,16] aa ?_;refine aq ?_;refine gg.s (j:=17) aa ⟨_,_,_,36,((0+((i:Nat):Int).toNat*9)+5),_,aa,.inr aa,aa,.tail _ (.head _)⟩ aa ?_;refine aq ?_;refine VO.cond aa (by rw[bg,aM,aM,bE _ 9 EN];(try rw[dV]);rw[bh];show 0+i*9+5+4<=_;have:=eQ 9 (na tH);rw[jO] at this;omega) (VO.jX 36 aa (show _=(vs.set i [.string x.1,.bool x.2.1.s,.slice P1 x.2.1.xs.length C1,.bool x.2.1.t,.slice Y1 x.2.1.ys.length D1,.bool x.2.2.s,.slice P2 x.2.2.xs.length C2,.bool x.2.2.t,.slice Y2 x.2.2.ys.length D2]).flatten.map AV.val++sp.map AV.val from (dJ EN NV 5 [.bool x.2.2.s,.slice P2 x.2.2.xs.length C2,.bool x.2.2.t,.slice Y2 x.2.2.ys.length D2] (cG aa) _ _ (by rw[bh];show 0+i*9+5=i*9+5;omega) 4 aa).trans (by rw[Cf];rfl)) (wV aa ?_));refine aq ?_;have NU:mJ kk u2 [.string x.1,.bool x.2.1.s,.slice P1 x.2.1.xs.length C1,.bool x.2.1.t,.slice Y1 x.2.1.ys.length D1,.bool x.2.2.s,.slice P2 x.2.2.xs.length C2,.bool x.2.2.t,.slice Y2 x.2.2.ys.length D2] x:=mJ.mk' (.mk (q1.raw.kp (show aK dp u1 u2 from dA)) gu.1 gu.2) (.mk q2.raw jP.1 jP.2);refine VS.Ey (cM _ _) aa (λwz β kz bz en=> ?_);obtain⟨hβ,ld⟩:=qb (en.own 36 _ _ aa) 0 b aa aa;rw[<-aF,az] at ld;have ia:dP [b] w wz:=(dP.of aB).aG bz.1;exact⟨aa,_,ld,((dS.kp (mJ.el kk) ((Kp.of (U:=UU) aB).aG (aK.dN (show aK dp wA u2 from dA)))).set hx NU).kp (mJ.el kk) (show Kp UU u2 wz from dA),ia⟩
theorem BJ (v:Value) (l:List QT) (kk:Nat) (w:World) (hv:bK (mK kk) 5 w v l) (hn:l.length<=1000000):
  Calls Tryz.prog 213 #[v] w λo w'=>∃ r,o=.returned r/\ay (mK kk) 5 230 w.heap.size w' r l/\ax w w':=by
 obtain⟨p,c,rfl,fV,gj⟩:=hv.form;refine ai (C:=aY Tryz.prog w _) (args:=[_]) Tryz.func213 aa Tryz.ntmps213 (cG aa) ?_;refine ag ?_;cases p with
 | none=>
   refine VS.bB aa aa ?_;refine ag ?_;refine ck ?_;intro wz kz bz;refine⟨_,aa,.inl ⟨aa,?_⟩,bz⟩;cases l with
   | nil=>rfl
   | cons a l=>
     obtain⟨b,off,cs,h,_⟩:=hv.at (i:=0) (a:=a) aa;cases h
 | some a=>
   obtain⟨vs,hr,-,hx⟩:=hv.src (mK.el kk);obtain⟨qh,tN⟩:=hr.ok (mK.el kk);refine VS.bC aa aa ?_;refine ag ?_
   refine VO.app (bU _ _) (t:=97) (e:=230) (sz:=5) (n:=0) (c:=0) (mm:=l.length) (known:=[]) (spare:=[]) (del:=some 5) (news:=vs.flatten.map .val) (dst:=7) aa aa aa aa aa aa aa aa (cG aa) aa (.inr ⟨5,aa,aa,aa⟩) (.inl aa) aa aa (aP _) ae ⟨aa,aa,ah _⟩ ⟨aa,aa,aL qh⟩ (by rw[aM,tN]) ae
    (λw1 β k1 b1 ho=>⟨_,_,rfl,hx.imp id (λ⟨b,off,h1,h2⟩=>⟨b,off,h1,λj u hj=>b1.cell (h2 j u (by rw[az] at hj;exact hj))⟩)⟩)
    (λiA cap' bt ρ vC qE fo pJ lS kL EA xH=>wV rfl ?_)
   refine ag ?_;refine VS.oU (bU _ _) aa (λwz β kz bz en=> ?_);exact⟨_,aa,dQ (es:=l) (en.own 7 _ _ aa) (hr.kp (mK.el kk) ((Kp.of qE).aG kz)) (fe _) ae lS kL,bz⟩
set_option maxRecDepth 8000 in
theorem BK (b i kk:Nat) (vs:List (List Value)) (sp:List Value) (es:List QT) (x:QT) (w:World) (cZ:aQ w b 230 (vs.flatten++sp).toArray) (dS:cw (mK kk) w es vs) (eO:sp.all aO=true) (hx:es[i]? =some x) (hk:kk<=1000):
  Calls Tryz.prog 164 #[.pointer (some ⟨b,0+((i:Nat):Int).toNat*5,none⟩)] w λo w'=>o=.returned (.tuple #[])/\∃ ew,aQ w' b 230 ((vs.set i ew).flatten++sp).toArray/\cw (mK kk) w' es (vs.set i ew)/\dP [b] w w':=by
 obtain⟨cs,hcs,hE⟩:=dS.at i x hx;have kS:=dS.lens (mK.el kk);have tH:=(bd.1 hcs).1;obtain⟨s1,p1,n1,c1,t1,y1,m1,d1,rfl,qi⟩:=hE;have gu:=qi.raw.2;refine ai (C:=aY Tryz.prog w _) (args:=[_]) Tryz.func164 aa Tryz.ntmps164 (cG aa) ?_
 (repeat (first|refine wN ?_|refine wP aa ?_|refine wO aa aa ?_))
 refine VS.cK dp (λt=>Nat.beq t 23) table (λ_ _ _=>trivial) (λwA nA k1 ic qF=> ?_);have aB:ax w wA:=ic
 have eh:dv dp 10 [b] [(230,vs.flatten.map .val++sp.map .val)] wA:=by
  refine⟨aa,cf,λj g' c' hj hc=> ?_,λc' hc=> ?_,λc' hc k hk=> ?_⟩
  ·match j,hj,hc with
   | 0,hj,hc=>cases hj;cases hc;rw[<-aF,az];exact cZ.aA aB
   | j+1,hj,_=>simp at hj
  ·cases ak.1 hc;exact⟨aa,by rw[<-aF];exact aL (by rw[dK,(dS.ok (mK.el kk)).1,eO];rfl)⟩
  ·cases ak.1 hc;rw[<-aF,ah] at hk;cases hk
 refine⟨[b],[(230,vs.flatten.map .val++sp.map .val)],eh,[(0,.nV 20 (0+((i:Nat):Int).toNat*5))],⟨⟨_,aa,aa,λi hi=>by rw[(by simpa [AV.ids] using hi:i=20)];exact⟨(by show 20<=20;omega),(by show 20<2*10+1;omega)⟩⟩,aj⟩,?_⟩;refine aq ?_;refine VO.fN aa (([.bool s1,.slice p1 n1 c1,.bool t1,.slice y1 m1 d1]:List Value).map .val) aa (dw kS _ hcs 1 _ ⟨[],aa⟩ _ (by rw[bh];show 0+i*5+1=i*5+1;omega)) (wV aa ?_);refine aq ?_;refine VO.call aa aa (fk nr) (λcV eG db=>(iC _ _ _ _ _ cV ((qi.kp (Kp.of (U:=UU) aB)).raw.1.kp (show aK dp wA cV from dA)) ae ae).mono ?_);rintro o u1 ⟨r1,rfl,q1,bF⟩;obtain⟨P1,C1,Y1,D1,rfl,_⟩:=q1.raw.mD;refine oe bF ?_;intro fM _ bb1;refine VO.cond aa (by rw[bg,aM,aM,bE _ 5 kS];(try rw[dV]);rw[bh];show 0+i*5+1+4<=_;have:=eQ 5 (na tH);rw[jO] at this;omega) (VO.jX 20 aa (show _=(vs.set i [.string x.1,.bool x.2.s,.slice P1 x.2.xs.length C1,.bool x.2.t,.slice Y1 x.2.ys.length D1]).flatten.map AV.val++sp.map AV.val from dJ kS hcs 1 [.bool x.2.s,.slice P1 x.2.xs.length C1,.bool x.2.t,.slice Y1 x.2.ys.length D1] (cG aa) _ _ (by rw[bh];show 0+i*5+1=i*5+1;omega) 4 aa) (wV aa ?_));refine aq ?_;have NU:mK kk u1 [.string x.1,.bool x.2.s,.slice P1 x.2.xs.length C1,.bool x.2.t,.slice Y1 x.2.ys.length D1] x:=mK.mk' (.mk q1.raw gu.1 gu.2);refine VS.Ey (cM _ _) aa (λwz β kz bz en=> ?_);obtain⟨hβ,ld⟩:=qb (en.own 20 _ _ aa) 0 b aa aa;rw[<-aF,az] at ld;have ia:dP [b] w wz:=(dP.of aB).aG bz.1;exact⟨aa,_,ld,((dS.kp (mK.el kk) ((Kp.of (U:=UU) aB).aG (aK.dN (show aK dp wA u1 from dA)))).set hx NU).kp (mK.el kk) (show Kp UU u1 wz from dA),ia⟩
set_option maxRecDepth 4000
abbrev sD (P:Program) (w:World) (N:Nat):Cx:={ P:=P,w0:=w,N:=N,K:=⟨UU,λ_=>True,λt=>fu t⟩,SU:=λt=>Nat.beq t 23,ti:=table,keep:=λ_ _=>trivial }
theorem EO (w:World) (N:Nat):(sD Tryz.prog w N).Ok:=gn
theorem Kz (w:World) (N:Nat):(sD Tryz.prog w N).P.follows .mixedOrders=true:=by show Tryz.prog.follows .mixedOrders=true;kernel_rfl
section
variable {F F':Fr} {H H':Hp} {w w1:World} {N:Nat} {l':List Oper} {Q:Exit->Act->World->Prop} {k:List It} {id:Nat} {ops:Array Oper}
theorem RN (e:kW (sD Tryz.prog w1 N) ops 80 ops.toList F H=(l',F',H')) (h:aE (sD Tryz.prog w1 N) none ops l' (VS (sD Tryz.prog w1 N) Q k) F' H' w):VS (sD Tryz.prog w1 N) Q (.code (.region id ops false)::k) F H w:=VS.region (EO _ _) (VO.run 80 e h)
end
variable {P Q:Prop}
theorem dy (h:Q) (i:Q->P:=by intro h;(repeat first|refine wN ?_|refine wP rfl ?_|refine RN rfl ?_|refine cxCp_d rfl ?_|refine wO rfl rfl ?_);exact h):P:=i h
theorem iP {X:Prop} (hb:X) (h:Q) (i:X->Q->P:=by intro hb h;refine⟨_,rfl,hb,λa b c=>wV rfl ?_⟩;refine dy ?_;revert a b c;exact h):P:=i hb h
set_option maxRecDepth 4000 in
theorem xV (v:Value) (es:List Au) (kk:Nat) (w:World) (hv:bK (lI kk) 6 w v es) (hn:es.length<=1000000) (hk:kk<=1000):
  Calls Tryz.prog 94 #[v,.func (.func 95) #[] #[]] w λo w'=>∃ r,o=.returned r/\ay (lI kk) 6 64 w.heap.size w' r es/\ax w w':=by
 obtain⟨p,c,rfl,fV,gj⟩:=hv.form;refine ai (C:=sD Tryz.prog w _) (args:=[_,_]) Tryz.func94 aa Tryz.ntmps94 (cG aa) ?_;refine dy ?_;refine VO.call aa aa (fk Tryz.func153) (λcV eG db=>(AG _ es kk cV (hv.aA (lI.el kk) db) hn).mono ?_);rintro e w1 ⟨r1,rfl,q1,bF⟩;obtain⟨p1,c1,rfl⟩:=q1.form;refine iP bF ?_;intro fM _ bb1;obtain⟨N,hN⟩:∃ N,N=es.length:=⟨_,aa⟩;rw[<-hN]
 refine VS.fL (J:=λm L W=>∃ (z:Nat) (rv:Value),z<=N/\m=N-z/\L=[(0,rv),(1,.func (.func 95) #[] #[]),(9,.int .i64 (N:Int)),(10,.int .i64 (z:Int))]/\ax w W/\ay (lI kk) 6 64 w.heap.size W rv es)
  (λW=>aY Tryz.prog W 20) (λ_=>rfl) (λ_=>rfl) (λ_=>ax.refl _) N (λw' β k' o' en=>⟨[(0,.slice p1 N c1),(1,.func (.func 95) #[] #[]),(9,.int .i64 (N:Int)),(10,.int .i64 ((0:Nat):Int))],⟨⟨_,_,rfl,rfl,rfl⟩,⟨_,_,rfl,rfl,rfl⟩,⟨_,_,rfl,rfl,rfl⟩,⟨_,_,rfl,rfl,rfl⟩,aj⟩,0,.slice p1 N c1,ae,rfl,rfl,o',by rw[hN];exact (q1.kp (lI.el kk) (T:=fu) (show lT fu w1 w' from dA) aa).mono db.size⟩) ?_
 rintro m L W ⟨z,rv,hz,rfl,rfl,il,bD⟩;refine ag ?_;by_cases hlt:z<N
 rotate_left
 ·refine VS.bC aa (aR (λe=>hlt (aW.1 e))) ?_;refine ag ?_;refine ck ?_;intro wz kz bz;exact⟨_,aa,bD.aA (lI.el kk) bz,il.aG bz⟩
 obtain⟨x,hx⟩:∃ x,es[z]? =some x:=⟨_,aH ae⟩;rcases bD with ⟨-,dZ⟩|⟨b,c0,vs,sp,rfl,tJ,cZ,dS,eO,hle,fc,gR⟩
 ·rw[dZ] at hx;cases hx
 rw[<-hN] at hle ⊢;refine VS.bB aa (aU (aW.2 hlt)) ?_
 (repeat (first|refine wN ?_|refine wP aa ?_|refine wO aa aa ?_))
 refine xS aa ?_
 (repeat (first|refine wN ?_|refine wP aa ?_|refine wO aa aa ?_))
 refine VS.jG (bU _ _) 4 aa aa aa (VO.run 80 aa ?_);refine VO.cond aa fb (VO.run 80 aa ?_);refine VO.nil ⟨_,_,_,λw=>aY Tryz.prog w 20,aa,aa,fk Tryz.func95,λ_=>aa,λ_=>aa,λ_=>ax.refl _,λw6 k6 b6=> ?_⟩;have od:ax W w6:=b6;refine (AH b z kk vs sp es x w6 (cZ.aA od) (dS.kp (lI.el kk) (Kp.of (U:=UU) od)) eO hx hk).mono ?_;rintro o w7 ⟨rfl,ew,tP,pw,ia⟩
 refine⟨_,[(0,.slice (some ⟨b,0,none⟩) N c0),(1,.func (.func 95) #[] #[]),(9,.int .i64 (N:Int)),(10,.int .i64 (z:Int))],aa,⟨aa,aa,aa,aa,aj⟩,(λp hp e=>by
  simp only[List.mem_cons,List.not_mem_nil,or_false] at hp;rcases hp with rfl|rfl|rfl|rfl <;> cases e),?_⟩
 have KA:ax w w7:=dP.aA (il.aG od) ia (λg hg=>by rw[ak.1 hg];exact tJ)
 have mM:ay (lI kk) 6 64 w.heap.size w7 (.slice (some ⟨b,0,none⟩) N c0) es:=.inr ⟨b,c0,_,sp,by rw[hN],tJ,tP,pw,eO,by rw[<-hN];exact hle,fc,by
  rw[bg,bE _ 6 (pw.lens (lI.el kk)),dV,<-bE _ 6 (dS.lens (lI.el kk)),<-bg];exact gR⟩
 refine ag ?_;refine VS.eK aa (N-(z+1)) ae (λw' bM k' o' kc=> ?_);exact⟨[(0,.slice (some ⟨b,0,none⟩) N c0),(1,.func (.func 95) #[] #[]),(9,.int .i64 (N:Int)),(10,.int .i64 ((z+1:Nat):Int))],⟨⟨_,_,aa,aa,aa⟩,⟨_,_,aa,aa,aa⟩,⟨_,_,aa,aa,aa⟩,⟨_,_,aa,au (λz=>Value.int .i64 z) (bl (i:=z) ae),aa⟩,aj⟩,z+1,.slice (some ⟨b,0,none⟩) N c0,ae,aa,aa,KA.aG o',mM.aA (lI.el kk) o'⟩
set_option maxRecDepth 4000 in
theorem vp (v:Value) (es:List BrR) (kk:Nat) (w:World) (hv:bK (lH kk) 8 w v es) (hn:es.length<=1000000) (hk:kk<=1000):
  Calls Tryz.prog 92 #[v,.func (.func 93) #[] #[]] w λo w'=>∃ r,o=.returned r/\ay (lH kk) 8 127 w.heap.size w' r es/\ax w w':=by
 obtain⟨p,c,rfl,fV,gj⟩:=hv.form;refine ai (C:=sD Tryz.prog w _) (args:=[_,_]) Tryz.func92 aa Tryz.ntmps92 (cG aa) ?_;refine dy ?_;refine VO.call aa aa (fk Tryz.func152) (λcV eG db=>(wW _ es kk cV (hv.aA (lH.el kk) db) hn).mono ?_);rintro e w1 ⟨r1,rfl,q1,bF⟩;obtain⟨p1,c1,rfl⟩:=q1.form;refine iP bF ?_;intro fM _ bb1;obtain⟨N,hN⟩:∃ N,N=es.length:=⟨_,aa⟩;rw[<-hN]
 refine VS.fL (J:=λm L W=>∃ (z:Nat) (rv:Value),z<=N/\m=N-z/\L=[(0,rv),(1,.func (.func 93) #[] #[]),(9,.int .i64 (N:Int)),(10,.int .i64 (z:Int))]/\ax w W/\ay (lH kk) 8 127 w.heap.size W rv es)
  (λW=>aY Tryz.prog W 20) (λ_=>rfl) (λ_=>rfl) (λ_=>ax.refl _) N (λw' β k' o' en=>⟨[(0,.slice p1 N c1),(1,.func (.func 93) #[] #[]),(9,.int .i64 (N:Int)),(10,.int .i64 ((0:Nat):Int))],⟨⟨_,_,rfl,rfl,rfl⟩,⟨_,_,rfl,rfl,rfl⟩,⟨_,_,rfl,rfl,rfl⟩,⟨_,_,rfl,rfl,rfl⟩,aj⟩,0,.slice p1 N c1,ae,rfl,rfl,o',by rw[hN];exact (q1.kp (lH.el kk) (T:=fu) (show lT fu w1 w' from dA) aa).mono db.size⟩) ?_
 rintro m L W ⟨z,rv,hz,rfl,rfl,il,bD⟩;refine ag ?_;by_cases hlt:z<N
 rotate_left
 ·refine VS.bC aa (aR (λe=>hlt (aW.1 e))) ?_;refine ag ?_;refine ck ?_;intro wz kz bz;exact⟨_,aa,bD.aA (lH.el kk) bz,il.aG bz⟩
 obtain⟨x,hx⟩:∃ x,es[z]? =some x:=⟨_,aH ae⟩;rcases bD with ⟨-,dZ⟩|⟨b,c0,vs,sp,rfl,tJ,cZ,dS,eO,hle,fc,gR⟩
 ·rw[dZ] at hx;cases hx
 rw[<-hN] at hle ⊢;refine VS.bB aa (aU (aW.2 hlt)) ?_
 (repeat (first|refine wN ?_|refine wP aa ?_|refine wO aa aa ?_))
 refine xS aa ?_
 (repeat (first|refine wN ?_|refine wP aa ?_|refine wO aa aa ?_))
 refine VS.jG (bU _ _) 4 aa aa aa (VO.run 80 aa ?_);refine VO.cond aa fb (VO.run 80 aa ?_);refine VO.nil ⟨_,_,_,λw=>aY Tryz.prog w 20,aa,aa,fk Tryz.func93,λ_=>aa,λ_=>aa,λ_=>ax.refl _,λw6 k6 b6=> ?_⟩;have od:ax W w6:=b6;refine (wZ b z kk vs sp es x w6 (cZ.aA od) (dS.kp (lH.el kk) (Kp.of (U:=UU) od)) eO hx hk).mono ?_;rintro o w7 ⟨rfl,ew,tP,pw,ia⟩
 refine⟨_,[(0,.slice (some ⟨b,0,none⟩) N c0),(1,.func (.func 93) #[] #[]),(9,.int .i64 (N:Int)),(10,.int .i64 (z:Int))],aa,⟨aa,aa,aa,aa,aj⟩,(λp hp e=>by
  simp only[List.mem_cons,List.not_mem_nil,or_false] at hp;rcases hp with rfl|rfl|rfl|rfl <;> cases e),?_⟩
 have KA:ax w w7:=dP.aA (il.aG od) ia (λg hg=>by rw[ak.1 hg];exact tJ)
 have mM:ay (lH kk) 8 127 w.heap.size w7 (.slice (some ⟨b,0,none⟩) N c0) es:=.inr ⟨b,c0,_,sp,by rw[hN],tJ,tP,pw,eO,by rw[<-hN];exact hle,fc,by
  rw[bg,bE _ 8 (pw.lens (lH.el kk)),dV,<-bE _ 8 (dS.lens (lH.el kk)),<-bg];exact gR⟩
 refine ag ?_;refine VS.eK aa (N-(z+1)) ae (λw' bM k' o' kc=> ?_);exact⟨[(0,.slice (some ⟨b,0,none⟩) N c0),(1,.func (.func 93) #[] #[]),(9,.int .i64 (N:Int)),(10,.int .i64 ((z+1:Nat):Int))],⟨⟨_,_,aa,aa,aa⟩,⟨_,_,aa,aa,aa⟩,⟨_,_,aa,aa,aa⟩,⟨_,_,aa,au (λz=>Value.int .i64 z) (bl (i:=z) ae),aa⟩,aj⟩,z+1,.slice (some ⟨b,0,none⟩) N c0,ae,aa,aa,KA.aG o',mM.aA (lH.el kk) o'⟩
set_option maxRecDepth 4000 in
theorem AL (v:Value) (es:List lg) (kk:Nat) (w:World) (hv:bK (dR kk) 6 w v es) (hn:es.length<=1000000) (hk:kk<=1000):
  Calls Tryz.prog 155 #[v,.func (.func 156) #[] #[]] w λo w'=>∃ r,o=.returned r/\ay (dR kk) 6 218 w.heap.size w' r es/\ax w w':=by
 obtain⟨p,c,rfl,fV,gj⟩:=hv.form;refine ai (C:=sD Tryz.prog w _) (args:=[_,_]) Tryz.func155 aa Tryz.ntmps155 (cG aa) ?_;refine dy ?_;refine VO.call aa aa (fk Tryz.func209) (λcV eG db=>(BC _ es kk cV (hv.aA (dR.el kk) db) hn).mono ?_);rintro e w1 ⟨r1,rfl,q1,bF⟩;obtain⟨p1,c1,rfl⟩:=q1.form;refine iP bF ?_;intro fM _ bb1;obtain⟨N,hN⟩:∃ N,N=es.length:=⟨_,aa⟩;rw[<-hN]
 refine VS.fL (J:=λm L W=>∃ (z:Nat) (rv:Value),z<=N/\m=N-z/\L=[(0,rv),(1,.func (.func 156) #[] #[]),(9,.int .i64 (N:Int)),(10,.int .i64 (z:Int))]/\ax w W/\ay (dR kk) 6 218 w.heap.size W rv es)
  (λW=>aY Tryz.prog W 20) (λ_=>rfl) (λ_=>rfl) (λ_=>ax.refl _) N (λw' β k' o' en=>⟨[(0,.slice p1 N c1),(1,.func (.func 156) #[] #[]),(9,.int .i64 (N:Int)),(10,.int .i64 ((0:Nat):Int))],⟨⟨_,_,rfl,rfl,rfl⟩,⟨_,_,rfl,rfl,rfl⟩,⟨_,_,rfl,rfl,rfl⟩,⟨_,_,rfl,rfl,rfl⟩,aj⟩,0,.slice p1 N c1,ae,rfl,rfl,o',by rw[hN];exact (q1.kp (dR.el kk) (T:=fu) (show lT fu w1 w' from dA) aa).mono db.size⟩) ?_
 rintro m L W ⟨z,rv,hz,rfl,rfl,il,bD⟩;refine ag ?_;by_cases hlt:z<N
 rotate_left
 ·refine VS.bC aa (aR (λe=>hlt (aW.1 e))) ?_;refine ag ?_;refine ck ?_;intro wz kz bz;exact⟨_,aa,bD.aA (dR.el kk) bz,il.aG bz⟩
 obtain⟨x,hx⟩:∃ x,es[z]? =some x:=⟨_,aH ae⟩;rcases bD with ⟨-,dZ⟩|⟨b,c0,vs,sp,rfl,tJ,cZ,dS,eO,hle,fc,gR⟩
 ·rw[dZ] at hx;cases hx
 rw[<-hN] at hle ⊢;refine VS.bB aa (aU (aW.2 hlt)) ?_
 (repeat (first|refine wN ?_|refine wP aa ?_|refine wO aa aa ?_))
 refine xS aa ?_
 (repeat (first|refine wN ?_|refine wP aa ?_|refine wO aa aa ?_))
 refine VS.jG (bU _ _) 4 aa aa aa (VO.run 80 aa ?_);refine VO.cond aa fb (VO.run 80 aa ?_);refine VO.nil ⟨_,_,_,λw=>aY Tryz.prog w 20,aa,aa,fk Tryz.func156,λ_=>aa,λ_=>aa,λ_=>ax.refl _,λw6 k6 b6=> ?_⟩;have od:ax W w6:=b6;refine (BD b z kk vs sp es x w6 (cZ.aA od) (dS.kp (dR.el kk) (Kp.of (U:=UU) od)) eO hx hk).mono ?_;rintro o w7 ⟨rfl,ew,tP,pw,ia⟩
 refine⟨_,[(0,.slice (some ⟨b,0,none⟩) N c0),(1,.func (.func 156) #[] #[]),(9,.int .i64 (N:Int)),(10,.int .i64 (z:Int))],aa,⟨aa,aa,aa,aa,aj⟩,(λp hp e=>by
  simp only[List.mem_cons,List.not_mem_nil,or_false] at hp;rcases hp with rfl|rfl|rfl|rfl <;> cases e),?_⟩
 have KA:ax w w7:=dP.aA (il.aG od) ia (λg hg=>by rw[ak.1 hg];exact tJ)
 have mM:ay (dR kk) 6 218 w.heap.size w7 (.slice (some ⟨b,0,none⟩) N c0) es:=.inr ⟨b,c0,_,sp,by rw[hN],tJ,tP,pw,eO,by rw[<-hN];exact hle,fc,by
  rw[bg,bE _ 6 (pw.lens (dR.el kk)),dV,<-bE _ 6 (dS.lens (dR.el kk)),<-bg];exact gR⟩
 refine ag ?_;refine VS.eK aa (N-(z+1)) ae (λw' bM k' o' kc=> ?_);exact⟨[(0,.slice (some ⟨b,0,none⟩) N c0),(1,.func (.func 156) #[] #[]),(9,.int .i64 (N:Int)),(10,.int .i64 ((z+1:Nat):Int))],⟨⟨_,_,aa,aa,aa⟩,⟨_,_,aa,aa,aa⟩,⟨_,_,aa,aa,aa⟩,⟨_,_,aa,au (λz=>Value.int .i64 z) (bl (i:=z) ae),aa⟩,aj⟩,z+1,.slice (some ⟨b,0,none⟩) N c0,ae,aa,aa,KA.aG o',mM.aA (dR.el kk) o'⟩
set_option maxRecDepth 4000 in
theorem AM (v:Value) (es:List lg) (kk:Nat) (w:World) (hv:bK (dR kk) 6 w v es) (hn:es.length<=1000000) (hk:kk<=1000):
  Calls Tryz.prog 157 #[v,.func (.func 158) #[] #[]] w λo w'=>∃ r,o=.returned r/\ay (dR kk) 6 103 w.heap.size w' r es/\ax w w':=by
 obtain⟨p,c,rfl,fV,gj⟩:=hv.form;refine ai (C:=sD Tryz.prog w _) (args:=[_,_]) Tryz.func157 aa Tryz.ntmps157 (cG aa) ?_;refine dy ?_;refine VO.call aa aa (fk Tryz.func210) (λcV eG db=>(BF _ es kk cV (hv.aA (dR.el kk) db) hn).mono ?_);rintro e w1 ⟨r1,rfl,q1,bF⟩;obtain⟨p1,c1,rfl⟩:=q1.form;refine iP bF ?_;intro fM _ bb1;obtain⟨N,hN⟩:∃ N,N=es.length:=⟨_,aa⟩;rw[<-hN]
 refine VS.fL (J:=λm L W=>∃ (z:Nat) (rv:Value),z<=N/\m=N-z/\L=[(0,rv),(1,.func (.func 158) #[] #[]),(9,.int .i64 (N:Int)),(10,.int .i64 (z:Int))]/\ax w W/\ay (dR kk) 6 103 w.heap.size W rv es)
  (λW=>aY Tryz.prog W 20) (λ_=>rfl) (λ_=>rfl) (λ_=>ax.refl _) N (λw' β k' o' en=>⟨[(0,.slice p1 N c1),(1,.func (.func 158) #[] #[]),(9,.int .i64 (N:Int)),(10,.int .i64 ((0:Nat):Int))],⟨⟨_,_,rfl,rfl,rfl⟩,⟨_,_,rfl,rfl,rfl⟩,⟨_,_,rfl,rfl,rfl⟩,⟨_,_,rfl,rfl,rfl⟩,aj⟩,0,.slice p1 N c1,ae,rfl,rfl,o',by rw[hN];exact (q1.kp (dR.el kk) (T:=fu) (show lT fu w1 w' from dA) aa).mono db.size⟩) ?_
 rintro m L W ⟨z,rv,hz,rfl,rfl,il,bD⟩;refine ag ?_;by_cases hlt:z<N
 rotate_left
 ·refine VS.bC aa (aR (λe=>hlt (aW.1 e))) ?_;refine ag ?_;refine ck ?_;intro wz kz bz;exact⟨_,aa,bD.aA (dR.el kk) bz,il.aG bz⟩
 obtain⟨x,hx⟩:∃ x,es[z]? =some x:=⟨_,aH ae⟩;rcases bD with ⟨-,dZ⟩|⟨b,c0,vs,sp,rfl,tJ,cZ,dS,eO,hle,fc,gR⟩
 ·rw[dZ] at hx;cases hx
 rw[<-hN] at hle ⊢;refine VS.bB aa (aU (aW.2 hlt)) ?_
 (repeat (first|refine wN ?_|refine wP aa ?_|refine wO aa aa ?_))
 refine xS aa ?_
 (repeat (first|refine wN ?_|refine wP aa ?_|refine wO aa aa ?_))
 refine VS.jG (bU _ _) 4 aa aa aa (VO.run 80 aa ?_);refine VO.cond aa fb (VO.run 80 aa ?_);refine VO.nil ⟨_,_,_,λw=>aY Tryz.prog w 20,aa,aa,fk Tryz.func158,λ_=>aa,λ_=>aa,λ_=>ax.refl _,λw6 k6 b6=> ?_⟩;have od:ax W w6:=b6;refine (BG b z kk vs sp es x w6 (cZ.aA od) (dS.kp (dR.el kk) (Kp.of (U:=UU) od)) eO hx hk).mono ?_;rintro o w7 ⟨rfl,ew,tP,pw,ia⟩
 refine⟨_,[(0,.slice (some ⟨b,0,none⟩) N c0),(1,.func (.func 158) #[] #[]),(9,.int .i64 (N:Int)),(10,.int .i64 (z:Int))],aa,⟨aa,aa,aa,aa,aj⟩,(λp hp e=>by
  simp only[List.mem_cons,List.not_mem_nil,or_false] at hp;rcases hp with rfl|rfl|rfl|rfl <;> cases e),?_⟩
 have KA:ax w w7:=dP.aA (il.aG od) ia (λg hg=>by rw[ak.1 hg];exact tJ)
 have mM:ay (dR kk) 6 103 w.heap.size w7 (.slice (some ⟨b,0,none⟩) N c0) es:=.inr ⟨b,c0,_,sp,by rw[hN],tJ,tP,pw,eO,by rw[<-hN];exact hle,fc,by
  rw[bg,bE _ 6 (pw.lens (dR.el kk)),dV,<-bE _ 6 (dS.lens (dR.el kk)),<-bg];exact gR⟩
 refine ag ?_;refine VS.eK aa (N-(z+1)) ae (λw' bM k' o' kc=> ?_);exact⟨[(0,.slice (some ⟨b,0,none⟩) N c0),(1,.func (.func 158) #[] #[]),(9,.int .i64 (N:Int)),(10,.int .i64 ((z+1:Nat):Int))],⟨⟨_,_,aa,aa,aa⟩,⟨_,_,aa,aa,aa⟩,⟨_,_,aa,aa,aa⟩,⟨_,_,aa,au (λz=>Value.int .i64 z) (bl (i:=z) ae),aa⟩,aj⟩,z+1,.slice (some ⟨b,0,none⟩) N c0,ae,aa,aa,KA.aG o',mM.aA (dR.el kk) o'⟩
set_option maxRecDepth 4000 in
theorem AO (v:Value) (es:List QU) (kk:Nat) (w:World) (hv:bK (mH kk) 10 w v es) (hn:es.length<=1000000) (hk:kk<=1000):
  Calls Tryz.prog 159 #[v,.func (.func 160) #[] #[]] w λo w'=>∃ r,o=.returned r/\ay (mH kk) 10 222 w.heap.size w' r es/\ax w w':=by
 obtain⟨p,c,rfl,fV,gj⟩:=hv.form;refine ai (C:=sD Tryz.prog w _) (args:=[_,_]) Tryz.func159 aa Tryz.ntmps159 (cG aa) ?_;refine dy ?_;refine VO.call aa aa (fk Tryz.func211) (λcV eG db=>(BH _ es kk cV (hv.aA (mH.el kk) db) hn).mono ?_);rintro e w1 ⟨r1,rfl,q1,bF⟩;obtain⟨p1,c1,rfl⟩:=q1.form;refine iP bF ?_;intro fM _ bb1;obtain⟨N,hN⟩:∃ N,N=es.length:=⟨_,aa⟩;rw[<-hN]
 refine VS.fL (J:=λm L W=>∃ (z:Nat) (rv:Value),z<=N/\m=N-z/\L=[(0,rv),(1,.func (.func 160) #[] #[]),(9,.int .i64 (N:Int)),(10,.int .i64 (z:Int))]/\ax w W/\ay (mH kk) 10 222 w.heap.size W rv es)
  (λW=>aY Tryz.prog W 20) (λ_=>rfl) (λ_=>rfl) (λ_=>ax.refl _) N (λw' β k' o' en=>⟨[(0,.slice p1 N c1),(1,.func (.func 160) #[] #[]),(9,.int .i64 (N:Int)),(10,.int .i64 ((0:Nat):Int))],⟨⟨_,_,rfl,rfl,rfl⟩,⟨_,_,rfl,rfl,rfl⟩,⟨_,_,rfl,rfl,rfl⟩,⟨_,_,rfl,rfl,rfl⟩,aj⟩,0,.slice p1 N c1,ae,rfl,rfl,o',by rw[hN];exact (q1.kp (mH.el kk) (T:=fu) (show lT fu w1 w' from dA) aa).mono db.size⟩) ?_
 rintro m L W ⟨z,rv,hz,rfl,rfl,il,bD⟩;refine ag ?_;by_cases hlt:z<N
 rotate_left
 ·refine VS.bC aa (aR (λe=>hlt (aW.1 e))) ?_;refine ag ?_;refine ck ?_;intro wz kz bz;exact⟨_,aa,bD.aA (mH.el kk) bz,il.aG bz⟩
 obtain⟨x,hx⟩:∃ x,es[z]? =some x:=⟨_,aH ae⟩;rcases bD with ⟨-,dZ⟩|⟨b,c0,vs,sp,rfl,tJ,cZ,dS,eO,hle,fc,gR⟩
 ·rw[dZ] at hx;cases hx
 rw[<-hN] at hle ⊢;refine VS.bB aa (aU (aW.2 hlt)) ?_
 (repeat (first|refine wN ?_|refine wP aa ?_|refine wO aa aa ?_))
 refine xS aa ?_
 (repeat (first|refine wN ?_|refine wP aa ?_|refine wO aa aa ?_))
 refine VS.jG (bU _ _) 4 aa aa aa (VO.run 80 aa ?_);refine VO.cond aa fb (VO.run 80 aa ?_);refine VO.nil ⟨_,_,_,λw=>aY Tryz.prog w 20,aa,aa,fk Tryz.func160,λ_=>aa,λ_=>aa,λ_=>ax.refl _,λw6 k6 b6=> ?_⟩;have od:ax W w6:=b6;refine (BI b z kk vs sp es x w6 (cZ.aA od) (dS.kp (mH.el kk) (Kp.of (U:=UU) od)) eO hx hk).mono ?_;rintro o w7 ⟨rfl,ew,tP,pw,ia⟩
 refine⟨_,[(0,.slice (some ⟨b,0,none⟩) N c0),(1,.func (.func 160) #[] #[]),(9,.int .i64 (N:Int)),(10,.int .i64 (z:Int))],aa,⟨aa,aa,aa,aa,aj⟩,(λp hp e=>by
  simp only[List.mem_cons,List.not_mem_nil,or_false] at hp;rcases hp with rfl|rfl|rfl|rfl <;> cases e),?_⟩
 have KA:ax w w7:=dP.aA (il.aG od) ia (λg hg=>by rw[ak.1 hg];exact tJ)
 have mM:ay (mH kk) 10 222 w.heap.size w7 (.slice (some ⟨b,0,none⟩) N c0) es:=.inr ⟨b,c0,_,sp,by rw[hN],tJ,tP,pw,eO,by rw[<-hN];exact hle,fc,by
  rw[bg,bE _ 10 (pw.lens (mH.el kk)),dV,<-bE _ 10 (dS.lens (mH.el kk)),<-bg];exact gR⟩
 refine ag ?_;refine VS.eK aa (N-(z+1)) ae (λw' bM k' o' kc=> ?_);exact⟨[(0,.slice (some ⟨b,0,none⟩) N c0),(1,.func (.func 160) #[] #[]),(9,.int .i64 (N:Int)),(10,.int .i64 ((z+1:Nat):Int))],⟨⟨_,_,aa,aa,aa⟩,⟨_,_,aa,aa,aa⟩,⟨_,_,aa,aa,aa⟩,⟨_,_,aa,au (λz=>Value.int .i64 z) (bl (i:=z) ae),aa⟩,aj⟩,z+1,.slice (some ⟨b,0,none⟩) N c0,ae,aa,aa,KA.aG o',mM.aA (mH.el kk) o'⟩
set_option maxRecDepth 4000 in
theorem xW (v:Value) (es:List QS) (kk:Nat) (w:World) (hv:bK (mJ kk) 9 w v es) (hn:es.length<=1000000) (hk:kk<=1000):
  Calls Tryz.prog 161 #[v,.func (.func 162) #[] #[]] w λo w'=>∃ r,o=.returned r/\ay (mJ kk) 9 226 w.heap.size w' r es/\ax w w':=by
 obtain⟨p,c,rfl,fV,gj⟩:=hv.form;refine ai (C:=sD Tryz.prog w _) (args:=[_,_]) Tryz.func161 aa Tryz.ntmps161 (cG aa) ?_;refine dy ?_;refine VO.call aa aa (fk Tryz.func212) (λcV eG db=>(AJ _ es kk cV (hv.aA (mJ.el kk) db) hn).mono ?_);rintro e w1 ⟨r1,rfl,q1,bF⟩;obtain⟨p1,c1,rfl⟩:=q1.form;refine iP bF ?_;intro fM _ bb1;obtain⟨N,hN⟩:∃ N,N=es.length:=⟨_,aa⟩;rw[<-hN]
 refine VS.fL (J:=λm L W=>∃ (z:Nat) (rv:Value),z<=N/\m=N-z/\L=[(0,rv),(1,.func (.func 162) #[] #[]),(9,.int .i64 (N:Int)),(10,.int .i64 (z:Int))]/\ax w W/\ay (mJ kk) 9 226 w.heap.size W rv es)
  (λW=>aY Tryz.prog W 20) (λ_=>rfl) (λ_=>rfl) (λ_=>ax.refl _) N (λw' β k' o' en=>⟨[(0,.slice p1 N c1),(1,.func (.func 162) #[] #[]),(9,.int .i64 (N:Int)),(10,.int .i64 ((0:Nat):Int))],⟨⟨_,_,rfl,rfl,rfl⟩,⟨_,_,rfl,rfl,rfl⟩,⟨_,_,rfl,rfl,rfl⟩,⟨_,_,rfl,rfl,rfl⟩,aj⟩,0,.slice p1 N c1,ae,rfl,rfl,o',by rw[hN];exact (q1.kp (mJ.el kk) (T:=fu) (show lT fu w1 w' from dA) aa).mono db.size⟩) ?_
 rintro m L W ⟨z,rv,hz,rfl,rfl,il,bD⟩;refine ag ?_;by_cases hlt:z<N
 rotate_left
 ·refine VS.bC aa (aR (λe=>hlt (aW.1 e))) ?_;refine ag ?_;refine ck ?_;intro wz kz bz;exact⟨_,aa,bD.aA (mJ.el kk) bz,il.aG bz⟩
 obtain⟨x,hx⟩:∃ x,es[z]? =some x:=⟨_,aH ae⟩;rcases bD with ⟨-,dZ⟩|⟨b,c0,vs,sp,rfl,tJ,cZ,dS,eO,hle,fc,gR⟩
 ·rw[dZ] at hx;cases hx
 rw[<-hN] at hle ⊢;refine VS.bB aa (aU (aW.2 hlt)) ?_
 (repeat (first|refine wN ?_|refine wP aa ?_|refine wO aa aa ?_))
 refine xS aa ?_
 (repeat (first|refine wN ?_|refine wP aa ?_|refine wO aa aa ?_))
 refine VS.jG (bU _ _) 4 aa aa aa (VO.run 80 aa ?_);refine VO.cond aa fb (VO.run 80 aa ?_);refine VO.nil ⟨_,_,_,λw=>aY Tryz.prog w 20,aa,aa,fk Tryz.func162,λ_=>aa,λ_=>aa,λ_=>ax.refl _,λw6 k6 b6=> ?_⟩;have od:ax W w6:=b6;refine (AK b z kk vs sp es x w6 (cZ.aA od) (dS.kp (mJ.el kk) (Kp.of (U:=UU) od)) eO hx hk).mono ?_;rintro o w7 ⟨rfl,ew,tP,pw,ia⟩
 refine⟨_,[(0,.slice (some ⟨b,0,none⟩) N c0),(1,.func (.func 162) #[] #[]),(9,.int .i64 (N:Int)),(10,.int .i64 (z:Int))],aa,⟨aa,aa,aa,aa,aj⟩,(λp hp e=>by
  simp only[List.mem_cons,List.not_mem_nil,or_false] at hp;rcases hp with rfl|rfl|rfl|rfl <;> cases e),?_⟩
 have KA:ax w w7:=dP.aA (il.aG od) ia (λg hg=>by rw[ak.1 hg];exact tJ)
 have mM:ay (mJ kk) 9 226 w.heap.size w7 (.slice (some ⟨b,0,none⟩) N c0) es:=.inr ⟨b,c0,_,sp,by rw[hN],tJ,tP,pw,eO,by rw[<-hN];exact hle,fc,by
  rw[bg,bE _ 9 (pw.lens (mJ.el kk)),dV,<-bE _ 9 (dS.lens (mJ.el kk)),<-bg];exact gR⟩
 refine ag ?_;refine VS.eK aa (N-(z+1)) ae (λw' bM k' o' kc=> ?_);exact⟨[(0,.slice (some ⟨b,0,none⟩) N c0),(1,.func (.func 162) #[] #[]),(9,.int .i64 (N:Int)),(10,.int .i64 ((z+1:Nat):Int))],⟨⟨_,_,aa,aa,aa⟩,⟨_,_,aa,aa,aa⟩,⟨_,_,aa,aa,aa⟩,⟨_,_,aa,au (λz=>Value.int .i64 z) (bl (i:=z) ae),aa⟩,aj⟩,z+1,.slice (some ⟨b,0,none⟩) N c0,ae,aa,aa,KA.aG o',mM.aA (mJ.el kk) o'⟩
set_option maxRecDepth 4000 in
theorem AP (v:Value) (es:List QT) (kk:Nat) (w:World) (hv:bK (mK kk) 5 w v es) (hn:es.length<=1000000) (hk:kk<=1000):
  Calls Tryz.prog 163 #[v,.func (.func 164) #[] #[]] w λo w'=>∃ r,o=.returned r/\ay (mK kk) 5 230 w.heap.size w' r es/\ax w w':=by
 obtain⟨p,c,rfl,fV,gj⟩:=hv.form;refine ai (C:=sD Tryz.prog w _) (args:=[_,_]) Tryz.func163 aa Tryz.ntmps163 (cG aa) ?_;refine dy ?_;refine VO.call aa aa (fk Tryz.func213) (λcV eG db=>(BJ _ es kk cV (hv.aA (mK.el kk) db) hn).mono ?_);rintro e w1 ⟨r1,rfl,q1,bF⟩;obtain⟨p1,c1,rfl⟩:=q1.form;refine iP bF ?_;intro fM _ bb1;obtain⟨N,hN⟩:∃ N,N=es.length:=⟨_,aa⟩;rw[<-hN]
 refine VS.fL (J:=λm L W=>∃ (z:Nat) (rv:Value),z<=N/\m=N-z/\L=[(0,rv),(1,.func (.func 164) #[] #[]),(9,.int .i64 (N:Int)),(10,.int .i64 (z:Int))]/\ax w W/\ay (mK kk) 5 230 w.heap.size W rv es)
  (λW=>aY Tryz.prog W 20) (λ_=>rfl) (λ_=>rfl) (λ_=>ax.refl _) N (λw' β k' o' en=>⟨[(0,.slice p1 N c1),(1,.func (.func 164) #[] #[]),(9,.int .i64 (N:Int)),(10,.int .i64 ((0:Nat):Int))],⟨⟨_,_,rfl,rfl,rfl⟩,⟨_,_,rfl,rfl,rfl⟩,⟨_,_,rfl,rfl,rfl⟩,⟨_,_,rfl,rfl,rfl⟩,aj⟩,0,.slice p1 N c1,ae,rfl,rfl,o',by rw[hN];exact (q1.kp (mK.el kk) (T:=fu) (show lT fu w1 w' from dA) aa).mono db.size⟩) ?_
 rintro m L W ⟨z,rv,hz,rfl,rfl,il,bD⟩;refine ag ?_;by_cases hlt:z<N
 rotate_left
 ·refine VS.bC aa (aR (λe=>hlt (aW.1 e))) ?_;refine ag ?_;refine ck ?_;intro wz kz bz;exact⟨_,aa,bD.aA (mK.el kk) bz,il.aG bz⟩
 obtain⟨x,hx⟩:∃ x,es[z]? =some x:=⟨_,aH ae⟩;rcases bD with ⟨-,dZ⟩|⟨b,c0,vs,sp,rfl,tJ,cZ,dS,eO,hle,fc,gR⟩
 ·rw[dZ] at hx;cases hx
 rw[<-hN] at hle ⊢;refine VS.bB aa (aU (aW.2 hlt)) ?_
 (repeat (first|refine wN ?_|refine wP aa ?_|refine wO aa aa ?_))
 refine xS aa ?_
 (repeat (first|refine wN ?_|refine wP aa ?_|refine wO aa aa ?_))
 refine VS.jG (bU _ _) 4 aa aa aa (VO.run 80 aa ?_);refine VO.cond aa fb (VO.run 80 aa ?_);refine VO.nil ⟨_,_,_,λw=>aY Tryz.prog w 20,aa,aa,fk Tryz.func164,λ_=>aa,λ_=>aa,λ_=>ax.refl _,λw6 k6 b6=> ?_⟩;have od:ax W w6:=b6;refine (BK b z kk vs sp es x w6 (cZ.aA od) (dS.kp (mK.el kk) (Kp.of (U:=UU) od)) eO hx hk).mono ?_;rintro o w7 ⟨rfl,ew,tP,pw,ia⟩
 refine⟨_,[(0,.slice (some ⟨b,0,none⟩) N c0),(1,.func (.func 164) #[] #[]),(9,.int .i64 (N:Int)),(10,.int .i64 (z:Int))],aa,⟨aa,aa,aa,aa,aj⟩,(λp hp e=>by
  simp only[List.mem_cons,List.not_mem_nil,or_false] at hp;rcases hp with rfl|rfl|rfl|rfl <;> cases e),?_⟩
 have KA:ax w w7:=dP.aA (il.aG od) ia (λg hg=>by rw[ak.1 hg];exact tJ)
 have mM:ay (mK kk) 5 230 w.heap.size w7 (.slice (some ⟨b,0,none⟩) N c0) es:=.inr ⟨b,c0,_,sp,by rw[hN],tJ,tP,pw,eO,by rw[<-hN];exact hle,fc,by
  rw[bg,bE _ 5 (pw.lens (mK.el kk)),dV,<-bE _ 5 (dS.lens (mK.el kk)),<-bg];exact gR⟩
 refine ag ?_;refine VS.eK aa (N-(z+1)) ae (λw' bM k' o' kc=> ?_);exact⟨[(0,.slice (some ⟨b,0,none⟩) N c0),(1,.func (.func 164) #[] #[]),(9,.int .i64 (N:Int)),(10,.int .i64 ((z+1:Nat):Int))],⟨⟨_,_,aa,aa,aa⟩,⟨_,_,aa,aa,aa⟩,⟨_,_,aa,aa,aa⟩,⟨_,_,aa,au (λz=>Value.int .i64 z) (bl (i:=z) ae),aa⟩,aj⟩,z+1,.slice (some ⟨b,0,none⟩) N c0,ae,aa,aa,KA.aG o',mM.aA (mK.el kk) o'⟩
set_option maxRecDepth 4000
def IG (kk B:Nat) (w:World) (cs:List Value) (y:ve):Prop:=∃ h b d s q,cs=[.int .i64 y.num,h,b,d,s,q]/\ay (dR kk) 6 218 B w h y.holds/\ay (dR kk) 6 103 B w b y.bn/\ay (mH kk) 10 222 B w d y.dE/\ay (mJ kk) 9 226 B w s y.di/\ay (mK kk) 5 230 B w q y.ft
theorem IG.f {kk B:Nat} {w:World} {cs:List Value} {y:ve} (h:IG kk B w cs y):vD kk w cs y:=by
 obtain⟨h,b,d,s,q,hv,h1,h2,h3,h4,h5⟩:=h;exact⟨_,_,_,_,_,hv,h1.sl (dR.el kk),h2.sl (dR.el kk),h3.sl (mH.el kk),h4.sl (mJ.el kk),h5.sl (mK.el kk)⟩
variable {cs:List Value} {kk B:Nat} {w:World} {y:ve}
theorem IG.kp {w':World} {T:TypeId->Bool} (h:IG kk B w cs y) (k:lT T w w') (h1:T 218=true) (h2:T 103=true) (h3:T 222=true) (h4:T 226=true) (h5:T 230=true):IG kk B w' cs y:=by
 obtain⟨h,b,d,s,q,hv,g1,g2,g3,g4,g5⟩:=h;exact⟨_,_,_,_,_,hv,g1.kp (dR.el kk) k h1,g2.kp (dR.el kk) k h2,g3.kp (mH.el kk) k h3,g4.kp (mJ.el kk) k h4,g5.kp (mK.el kk) k h5⟩
theorem IG.mono {B':Nat} (h:IG kk B w cs y) (hB:B'<=B):IG kk B' w cs y:=by
 obtain⟨h,b,d,s,q,hv,g1,g2,g3,g4,g5⟩:=h;exact⟨_,_,_,_,_,hv,g1.mono hB,g2.mono hB,g3.mono hB,g4.mono hB,g5.mono hB⟩
abbrev RO:TypeId->Bool:=λt=>(Nat.beq t 218 || (Nat.beq t 103 || (Nat.beq t 222 || (Nat.beq t 226 || Nat.beq t 230))))
abbrev KYc:KC:=⟨UU,λ_=>True,λt=>RO t⟩
abbrev RP (P:Program) (w:World) (N:Nat) (ad:List Nat) (hd:ad.Nodup) (ha:jA KYc ad w):Cx:=uM P w N KYc (λt=>Nat.beq t 23) table (λ_ _=>trivial) ad hd ha
theorem Ma (w:World) (N:Nat) {ad:List Nat} {hd:ad.Nodup} {ha:jA KYc ad w}:(RP Tryz.prog w N ad hd ha).Ok:=gn
section
variable {F F':Fr} {H H':Hp} {w w1:World} {N:Nat} {l':List Oper} {Q:Exit->Act->World->Prop} {k:List It} {id:Nat} {ops:Array Oper}
theorem cxYc_r {ad:List Nat} {hd:ad.Nodup} {ha:jA KYc ad w1} (e:kW (RP Tryz.prog w1 N ad hd ha) ops 80 ops.toList F H=(l',F',H')) (h:aE (RP Tryz.prog w1 N ad hd ha) none ops l' (VS (RP Tryz.prog w1 N ad hd ha) Q k) F' H' w):VS (RP Tryz.prog w1 N ad hd ha) Q (.code (.region id ops false)::k) F H w:=VS.region (Ma _ _) (VO.run 80 e h)
end
theorem lj {P Q:Prop} (h:Q) (i:Q->P:=by intro h;(repeat first|refine wN ?_|refine wP rfl ?_|refine cxYc_r rfl ?_|refine cxYc_d rfl ?_|refine wO rfl rfl ?_);exact h):P:=i h
theorem AQ {P Q X:Prop} (hb:X) (h:Q) (i:X->Q->P:=by intro hb h;refine⟨_,rfl,hb,λa b c=>wV rfl ?_⟩;refine lj ?_;revert a b c;exact h):P:=i hb h
set_option maxRecDepth 8000 in
theorem BL (b i kk:Nat) (vs:List (List Value)) (sp cs:List Value) (y:ve) (w0 w:World) (cZ:aQ w b 99 (vs.flatten++sp).toArray) (kS:∀ v∈vs,v.length=6) (hvo:vs.flatten.all aO=true) (eO:sp.all aO=true) (hcs:vs[i]? =some cs) (kP:ax w0 w) (hbB:w0.heap.size<=b) (hE:vD kk w0 cs y) (hk:kk<=1000) (hb:y.holds.length<=40/\y.bn.length<=40/\y.dE.length<=40/\y.di.length<=40/\y.ft.length<=40):
  Calls Tryz.prog 98 #[.pointer (some ⟨b,0+((i:Nat):Int).toNat*6,none⟩)] w λo w'=>o=.returned (.tuple #[])/\∃ ew,aQ w' b 99 ((vs.set i ew).flatten++sp).toArray/\ew.length=6/\ew.all aO=true/\IG kk w.heap.size w' ew y/\dP [b] w w':=by
 have tH:=(bd.1 hcs).1;obtain⟨hy1,uV,hy3,yf,hy5⟩:=hb;obtain⟨yh,yb,yd,ys,yq,rfl,y1,y2,y3,y4,y5⟩:=hE;obtain⟨ph,nh,ch,rfl⟩:∃ p n c,yh=.slice p n c:=by obtain⟨p,c,e⟩:=y1.sl;exact⟨_,_,_,e⟩
 obtain⟨pb,nb,cb,rfl⟩:∃ p n c,yb=.slice p n c:=by obtain⟨p,c,e⟩:=y2.sl;exact⟨_,_,_,e⟩
 obtain⟨pd,nd,cd,rfl⟩:∃ p n c,yd=.slice p n c:=by obtain⟨p,c,e⟩:=y3.sl;exact⟨_,_,_,e⟩
 obtain⟨ps,ns,cs,rfl⟩:∃ p n c,ys=.slice p n c:=by obtain⟨p,c,e⟩:=y4.sl;exact⟨_,_,_,e⟩
 obtain⟨pq,nq,cq,rfl⟩:∃ p n c,yq=.slice p n c:=by obtain⟨p,c,e⟩:=y5.sl;exact⟨_,_,_,e⟩
 refine ai (C:=aY Tryz.prog w _) (args:=[_]) Tryz.func98 aa Tryz.ntmps98 (cG aa) ?_
 (repeat (first|refine wN ?_|refine wP aa ?_|refine wO aa aa ?_))
 refine VS.cK KYc (λt=>Nat.beq t 23) table (λ_ _ _=>trivial) (λwA nA k1 ic qF=> ?_);have aB:ax w wA:=ic;have RQ:ax w0 wA:=kP.aG aB
 have eh:dv KYc 42 [b] [(99,vs.flatten.map .val++sp.map .val)] wA:=by
  refine⟨aa,cf,λj g' c' hj hc=> ?_,λc' hc=> ?_,λc' hc k hk=> ?_⟩
  ·match j,hj,hc with
   | 0,hj,hc=>cases hj;cases hc;rw[<-aF,az];exact cZ.aA aB
   | j+1,hj,_=>simp at hj
  ·cases ak.1 hc;exact⟨aa,by rw[<-aF];exact aL (by rw[dK,hvo,eO];rfl)⟩
  ·cases ak.1 hc;rw[<-aF,ah] at hk;cases hk
 refine⟨[b],[(99,vs.flatten.map .val++sp.map .val)],eh,[(0,.nV 84 (0+((i:Nat):Int).toNat*6))],⟨⟨_,aa,aa,λi hi=>by rw[(by simpa [AV.ids] using hi:i=84)];exact⟨(by show 84<=84;omega),(by show 84<2*42+1;omega)⟩⟩,aj⟩,?_⟩;refine lj ?_;refine VO.fN aa (([.slice ph nh ch]:List Value).map .val) aa (dw kS _ hcs 1 _ ⟨_,aa⟩ _ (by rw[bh];show 0+i*6+1=i*6+1;omega)) (wV aa ?_);refine lj ?_;refine VO.call aa aa (fk Tryz.func155) (λcV eG db=>(AL _ y.holds kk cV (y1.aA (dR.el kk) (dP.aA RQ db.1 (λg hg=>by rw[ak.1 hg];exact hbB))) ae hk).mono ?_);rintro o u1 ⟨r1,rfl,q1,bF⟩;obtain⟨P1,C1,rfl⟩:=q1.form;have Oh:w.heap.size<=cV.heap.size:=aV aB.size db.1.size;refine AQ bF ?_;intro fM _ bb1;refine VO.cond aa (by rw[bg,aM,aM,bE _ 6 kS];(try rw[dV]);rw[bh];show 0+i*6+1+1<=_;have:=eQ 6 (na tH);rw[jO] at this;omega) (VO.jX 84 aa (show _=(vs.set i [.int .i64 y.num,.slice P1 y.holds.length C1,.slice pb nb cb,.slice pd nd cd,.slice ps ns cs,.slice pq nq cq]).flatten.map AV.val++sp.map AV.val from dJ kS hcs 1 [.slice P1 y.holds.length C1] (cG aa) _ _ (by rw[bh];show 0+i*6+1=i*6+1;omega) 1 aa) (wV aa ?_));have NV:(vs.set i [.int .i64 y.num,.slice P1 y.holds.length C1,.slice pb nb cb,.slice pd nd cd,.slice ps ns cs,.slice pq nq cq])[i]? =some [.int .i64 y.num,.slice P1 y.holds.length C1,.slice pb nb cb,.slice pd nd cd,.slice ps ns cs,.slice pq nq cq]:=by rw[ll,if_pos rfl,if_pos tH]
 have EN:∀ v∈vs.set i [.int .i64 y.num,.slice P1 y.holds.length C1,.slice pb nb cb,.slice pd nd cd,.slice ps ns cs,.slice pq nq cq],v.length=6:=λv hv=>by
  rcases mU hv with h|h
  ·exact kS v h
  ·rw[h];rfl
 refine lj ?_;refine VO.fN aa (([.slice pb nb cb]:List Value).map .val) aa (dw EN _ NV 2 _ ⟨_,aa⟩ _ (by rw[bh];show 0+i*6+2=i*6+2;omega)) (wV aa ?_);refine lj ?_;refine VO.call aa aa (fk Tryz.func157) (λeD gO fG=>(AM _ y.bn kk eD (y2.aA (dR.el kk) (dP.aA RQ fG.1 (λg hg=>by rw[ak.1 hg];exact hbB))) ae hk).mono ?_);rintro o u2 ⟨r2,rfl,q2,cJ⟩;obtain⟨P2,C2,rfl⟩:=q2.form;have hs2:w.heap.size<=eD.heap.size:=aV aB.size fG.1.size;refine AQ cJ ?_;intro jH _ bb2;refine VO.cond aa (by rw[bg,aM,aM,bE _ 6 EN];(try rw[dV]);rw[bh];show 0+i*6+2+1<=_;have:=eQ 6 (na tH);rw[jO] at this;omega) (VO.jX 84 aa (show _=(vs.set i [.int .i64 y.num,.slice P1 y.holds.length C1,.slice P2 y.bn.length C2,.slice pd nd cd,.slice ps ns cs,.slice pq nq cq]).flatten.map AV.val++sp.map AV.val from (dJ EN NV 2 [.slice P2 y.bn.length C2] (cG aa) _ _ (by rw[bh];show 0+i*6+2=i*6+2;omega) 1 aa).trans (by rw[Cf];rfl)) (wV aa ?_));have hcs3:(vs.set i [.int .i64 y.num,.slice P1 y.holds.length C1,.slice P2 y.bn.length C2,.slice pd nd cd,.slice ps ns cs,.slice pq nq cq])[i]? =some [.int .i64 y.num,.slice P1 y.holds.length C1,.slice P2 y.bn.length C2,.slice pd nd cd,.slice ps ns cs,.slice pq nq cq]:=by rw[ll,if_pos rfl,if_pos tH]
 have hln3:∀ v∈vs.set i [.int .i64 y.num,.slice P1 y.holds.length C1,.slice P2 y.bn.length C2,.slice pd nd cd,.slice ps ns cs,.slice pq nq cq],v.length=6:=λv hv=>by
  rcases mU hv with h|h
  ·exact kS v h
  ·rw[h];rfl
 refine lj ?_;refine VO.fN aa (([.slice pd nd cd]:List Value).map .val) aa (dw hln3 _ hcs3 3 _ ⟨_,aa⟩ _ (by rw[bh];show 0+i*6+3=i*6+3;omega)) (wV aa ?_);refine lj ?_;refine VO.call aa aa (fk Tryz.func159) (λiG iK jm=>(AO _ y.dE kk iG (y3.aA (mH.el kk) (dP.aA RQ jm.1 (λg hg=>by rw[ak.1 hg];exact hbB))) ae hk).mono ?_);rintro o u3 ⟨r3,rfl,q3,ee⟩;obtain⟨P3,C3,rfl⟩:=q3.form;have hs3:w.heap.size<=iG.heap.size:=aV aB.size jm.1.size;refine AQ ee ?_;intro nH _ bb3;refine VO.cond aa (by rw[bg,aM,aM,bE _ 6 hln3];(try rw[dV]);rw[bh];show 0+i*6+3+1<=_;have:=eQ 6 (na tH);rw[jO] at this;omega) (VO.jX 84 aa (show _=(vs.set i [.int .i64 y.num,.slice P1 y.holds.length C1,.slice P2 y.bn.length C2,.slice P3 y.dE.length C3,.slice ps ns cs,.slice pq nq cq]).flatten.map AV.val++sp.map AV.val from (dJ hln3 hcs3 3 [.slice P3 y.dE.length C3] (cG aa) _ _ (by rw[bh];show 0+i*6+3=i*6+3;omega) 1 aa).trans (by rw[Cf];rfl)) (wV aa ?_));have hcs4:(vs.set i [.int .i64 y.num,.slice P1 y.holds.length C1,.slice P2 y.bn.length C2,.slice P3 y.dE.length C3,.slice ps ns cs,.slice pq nq cq])[i]? =some [.int .i64 y.num,.slice P1 y.holds.length C1,.slice P2 y.bn.length C2,.slice P3 y.dE.length C3,.slice ps ns cs,.slice pq nq cq]:=by rw[ll,if_pos rfl,if_pos tH]
 have hln4:∀ v∈vs.set i [.int .i64 y.num,.slice P1 y.holds.length C1,.slice P2 y.bn.length C2,.slice P3 y.dE.length C3,.slice ps ns cs,.slice pq nq cq],v.length=6:=λv hv=>by
  rcases mU hv with h|h
  ·exact kS v h
  ·rw[h];rfl
 refine lj ?_;refine VO.fN aa (([.slice ps ns cs]:List Value).map .val) aa (dw hln4 _ hcs4 4 _ ⟨_,aa⟩ _ (by rw[bh];show 0+i*6+4=i*6+4;omega)) (wV aa ?_);refine lj ?_;refine VO.call aa aa (fk Tryz.func161) (λmB pE pG=>(xW _ y.di kk mB (y4.aA (mJ.el kk) (dP.aA RQ pG.1 (λg hg=>by rw[ak.1 hg];exact hbB))) ae hk).mono ?_);rintro o u4 ⟨r4,rfl,q4,jJ⟩;obtain⟨P4,C4,rfl⟩:=q4.form;have hs4:w.heap.size<=mB.heap.size:=aV aB.size pG.1.size;refine AQ jJ ?_;intro sO _ Ej;refine VO.cond aa (by rw[bg,aM,aM,bE _ 6 hln4];(try rw[dV]);rw[bh];show 0+i*6+4+1<=_;have:=eQ 6 (na tH);rw[jO] at this;omega) (VO.jX 84 aa (show _=(vs.set i [.int .i64 y.num,.slice P1 y.holds.length C1,.slice P2 y.bn.length C2,.slice P3 y.dE.length C3,.slice P4 y.di.length C4,.slice pq nq cq]).flatten.map AV.val++sp.map AV.val from (dJ hln4 hcs4 4 [.slice P4 y.di.length C4] (cG aa) _ _ (by rw[bh];show 0+i*6+4=i*6+4;omega) 1 aa).trans (by rw[Cf];rfl)) (wV aa ?_));have hcs5:(vs.set i [.int .i64 y.num,.slice P1 y.holds.length C1,.slice P2 y.bn.length C2,.slice P3 y.dE.length C3,.slice P4 y.di.length C4,.slice pq nq cq])[i]? =some [.int .i64 y.num,.slice P1 y.holds.length C1,.slice P2 y.bn.length C2,.slice P3 y.dE.length C3,.slice P4 y.di.length C4,.slice pq nq cq]:=by rw[ll,if_pos rfl,if_pos tH]
 have hln5:∀ v∈vs.set i [.int .i64 y.num,.slice P1 y.holds.length C1,.slice P2 y.bn.length C2,.slice P3 y.dE.length C3,.slice P4 y.di.length C4,.slice pq nq cq],v.length=6:=λv hv=>by
  rcases mU hv with h|h
  ·exact kS v h
  ·rw[h];rfl
 refine lj ?_;refine VO.fN aa (([.slice pq nq cq]:List Value).map .val) aa (dw hln5 _ hcs5 5 _ ⟨_,aa⟩ _ (by rw[bh];show 0+i*6+5=i*6+5;omega)) (wV aa ?_);refine lj ?_;refine VO.call aa aa (fk Tryz.func163) (λmP oV og=>(AP _ y.ft kk mP (y5.aA (mK.el kk) (dP.aA RQ og.1 (λg hg=>by rw[ak.1 hg];exact hbB))) ae hk).mono ?_);rintro o u5 ⟨r5,rfl,q5,lL⟩;obtain⟨P5,C5,rfl⟩:=q5.form;have hs5:w.heap.size<=mP.heap.size:=aV aB.size og.1.size;refine AQ lL ?_;intro tw _ Ek;refine VO.cond aa (by rw[bg,aM,aM,bE _ 6 hln5];(try rw[dV]);rw[bh];show 0+i*6+5+1<=_;have:=eQ 6 (na tH);rw[jO] at this;omega) (VO.jX 84 aa (show _=(vs.set i [.int .i64 y.num,.slice P1 y.holds.length C1,.slice P2 y.bn.length C2,.slice P3 y.dE.length C3,.slice P4 y.di.length C4,.slice P5 y.ft.length C5]).flatten.map AV.val++sp.map AV.val from (dJ hln5 hcs5 5 [.slice P5 y.ft.length C5] (cG aa) _ _ (by rw[bh];show 0+i*6+5=i*6+5;omega) 1 aa).trans (by rw[Cf];rfl)) (wV aa ?_));refine lj ?_;refine VS.Ey (Ma _ _) aa (λwz β kz bz en=> ?_);obtain⟨hβ,ld⟩:=qb (en.own 84 _ _ aa) 0 b aa aa;rw[<-aF,az] at ld;exact⟨aa,[Value.int .i64 y.num,.slice P1 y.holds.length C1,.slice P2 y.bn.length C2,.slice P3 y.dE.length C3,.slice P4 y.di.length C4,.slice P5 y.ft.length C5],ld,aa,aa,⟨_,_,_,_,_,aa,(q1.kp (dR.el kk) (T:=RO) (show lT RO u1 wz from dA) aa).mono Oh,(q2.kp (dR.el kk) (T:=RO) (show lT RO u2 wz from dA) aa).mono hs2,(q3.kp (mH.el kk) (T:=RO) (show lT RO u3 wz from dA) aa).mono hs3,(q4.kp (mJ.el kk) (T:=RO) (show lT RO u4 wz from dA) aa).mono hs4,(q5.kp (mK.el kk) (T:=RO) (show lT RO u5 wz from dA) aa).mono hs5⟩,(dP.of aB).aG bz.1⟩
set_option maxRecDepth 4000
theorem BM (v:Value) (l:List ve) (kk:Nat) (w0 w:World) (hv:bK (λ_:World=>vD kk w0) 6 w v l) (hn:l.length<=1000000):
  Calls Tryz.prog 154 #[v] w λo w'=>∃ r,o=.returned r/\ay (λ_:World=>vD kk w0) 6 99 w.heap.size w' r l/\ax w w':=by
 obtain⟨p,c,rfl,fV,gj⟩:=hv.form;refine ai (C:=aY Tryz.prog w _) (args:=[_]) Tryz.func154 aa Tryz.ntmps154 (cG aa) ?_;refine ag ?_;cases p with
 | none=>
   refine VS.bB aa aa ?_;refine ag ?_;refine ck ?_;intro wz kz bz;refine⟨_,aa,.inl ⟨aa,?_⟩,bz⟩;cases l with
   | nil=>rfl
   | cons a l=>
     obtain⟨b,off,cs,h,_⟩:=hv.at (i:=0) (a:=a) aa;cases h
 | some a=>
   obtain⟨vs,hr,-,hx⟩:=hv.src (vD.at kk w0);obtain⟨qh,tN⟩:=hr.ok (vD.at kk w0);refine VS.bC aa aa ?_;refine ag ?_
   refine VO.app (bU _ _) (t:=30) (e:=99) (sz:=6) (n:=0) (c:=0) (mm:=l.length) (known:=[]) (spare:=[]) (del:=some 5) (news:=vs.flatten.map .val) (dst:=7) aa aa aa aa aa aa aa aa (cG aa) aa (.inr ⟨5,aa,aa,aa⟩) (.inl aa) aa aa (aP _) ae ⟨aa,aa,ah _⟩ ⟨aa,aa,aL qh⟩ (by rw[aM,tN]) ae
    (λw1 β k1 b1 ho=>⟨_,_,rfl,hx.imp id (λ⟨b,off,h1,h2⟩=>⟨b,off,h1,λj u hj=>b1.cell (h2 j u (by rw[az] at hj;exact hj))⟩)⟩)
    (λiA cap' bt ρ vC qE fo pJ lS kL EA xH=>wV rfl ?_)
   refine ag ?_;refine VS.oU (bU _ _) aa (λwz β kz bz en=> ?_);exact⟨_,aa,dQ (es:=l) (en.own 7 _ _ aa) (hr.kp (vD.at kk w0) ((Kp.of qE).aG kz)) (fe _) ae lS kL,bz⟩
theorem EP {n:Nat} {w:World}:∀ {vs:List (List Value)},(∀ v∈vs,v.length=n/\v.all aO=true)->cw (CE n) w vs vs
 | [],_=>.nil
 | v::r,h=>.cons ⟨rfl,h v (tW ..)⟩ (EP λu hu=>h u (qH _ hu))
theorem Mb {n:Nat} {w:World}:∀ {es vs:List (List Value)},cw (CE n) w es vs->vs=es
 | _,_,.nil=>rfl
 | _,_,.cons h t=>by rw[h.1,Mb t]
theorem RR {n:Nat} {w:World} {es vs:List (List Value)} (h:cw (CE n) w es vs):∀ v∈es,v.length=n/\v.all aO=true:=by
 have e:=Mb h;subst e;intro v hv;obtain⟨i,hi⟩:=sE hv;obtain⟨cs,h1,h2⟩:=h.at i v hi;exact h2.2
theorem row_ce {α:Type} {E:World->List Value->α->Prop} {n:Nat} {t:TypeId} {B:Nat} {w:World} {v:Value} {es:List α} (hE:gp E n) (h:ay E n t B w v es):∃ us,ay (CE n) n t B w v us/\us.length=es.length/\∀ (i:Nat) (cs:List Value) (a:α),us[i]? =some cs->es[i]? =some a->E w cs a:=by
 rcases h with ⟨rfl,rfl⟩|⟨b,c,vs,sp,rfl,hB,cZ,dS,eO,hle,gj,gR⟩
 ·exact⟨[],.inl ⟨aa,aa⟩,aa,λi cs a hi=>by simp at hi⟩
 ·refine⟨vs,.inr ⟨b,c,vs,sp,by rw[dS.len],hB,cZ,EP λv hv=>⟨dS.lens hE v hv,?_⟩,eO,by rw[dS.len];exact hle,gj,gR⟩,dS.len,λi cs a hi ha=> ?_⟩
  ·have h1:=(dS.ok hE).1;rw[bP] at h1 ⊢;exact λu hu=>h1 u (List.mem_flatten.2 ⟨v,hv,hu⟩)
  ·obtain⟨ew,h1,h2⟩:=dS.at i a ha;rw[hi] at h1;cases h1;exact h2
def YrsC (kk B:Nat) (w:World) (v:Value) (es:List ve):Prop:=∃ us,ay (CE 6) 6 99 B w v us/\us.length=es.length/\∀ (i:Nat) (cs:List Value) (y:ve),us[i]? =some cs->es[i]? =some y->IG kk B w cs y
set_option maxRecDepth 4000 in
theorem AR (v:Value) (es:List ve) (kk:Nat) (w:World) (hv:bK (vD kk) 6 w v es) (hn:es.length<=1000) (hk:kk<=1000) (hs:∀ y∈es,y.holds.length<=40/\y.bn.length<=40/\y.dE.length<=40/\y.di.length<=40/\y.ft.length<=40):
  Calls Tryz.prog 97 #[v,.func (.func 98) #[] #[]] w λo w'=>∃ r,o=.returned r/\YrsC kk w.heap.size w' r es/\ax w w':=by
 obtain⟨p,c,rfl,fV,gj⟩:=hv.form;refine ai (C:=sD Tryz.prog w _) (args:=[_,_]) Tryz.func97 aa Tryz.ntmps97 (cG aa) ?_;refine dy ?_;refine VO.call aa aa (fk Tryz.func154) (λcV eG db=>(BM _ es kk w cV (bK.aA (vD.at kk w) (bK.mono (E':=λ_:World=>vD kk w) hv (λ_ _ _ _ h=>h)) db) ae).mono ?_);rintro e w1 ⟨r1,rfl,q1,bF⟩;obtain⟨p1,c1,rfl⟩:=q1.form;refine iP bF ?_;intro fM _ bb1;obtain⟨us1,q1',hul1,huf1⟩:=row_ce (vD.at kk w) q1;obtain⟨N,hN⟩:∃ N,N=es.length:=⟨_,aa⟩;rw[<-hN] at q1' hul1 ⊢
 refine VS.fL (J:=λm L W=>∃ (z:Nat) (rv:Value) (us:List (List Value)),z<=N/\m=N-z/\L=[(0,rv),(1,.func (.func 98) #[] #[]),(9,.int .i64 (N:Int)),(10,.int .i64 (z:Int))]/\ax w W/\ay (CE 6) 6 99 w.heap.size W rv us/\us.length=N/\(∀ (i:Nat) (cs:List Value) (y:ve),z<=i->us[i]? =some cs->es[i]? =some y->vD kk w cs y)/\(∀ (i:Nat) (cs:List Value) (y:ve),i<z->us[i]? =some cs->es[i]? =some y->IG kk w.heap.size W cs y))
  (λW=>aY Tryz.prog W 20) (λ_=>rfl) (λ_=>rfl) (λ_=>ax.refl _) N (λw' β k' o' en=>⟨[(0,.slice p1 N c1),(1,.func (.func 98) #[] #[]),(9,.int .i64 (N:Int)),(10,.int .i64 ((0:Nat):Int))],⟨⟨_,_,rfl,rfl,rfl⟩,⟨_,_,rfl,rfl,rfl⟩,⟨_,_,rfl,rfl,rfl⟩,⟨_,_,rfl,rfl,rfl⟩,aj⟩,0,.slice p1 N c1,us1,ae,rfl,rfl,o',(q1'.kp (nO 6) (T:=fu) (show lT fu w1 w' from dA) rfl).mono db.size,hul1,λi cs y _ hi hy=>huf1 i cs y hi hy,λi cs y hi=>ae⟩) ?_
 rintro m L W ⟨z,rv,us,hz,rfl,rfl,il,bD,Jf,hF,hC⟩;refine ag ?_;by_cases hlt:z<N
 rotate_left
 ·refine VS.bC aa (aR (λe=>hlt (aW.1 e))) ?_;obtain rfl:N=z:=ae;refine ag ?_;refine ck ?_;intro wz kz bz;exact⟨_,aa,⟨us,bD.aA (nO 6) bz,by rw[Jf];exact hN,λi cs y hi hy=>(hC i cs y (by have:=(bd.1 hi).1;omega) hi hy).kp (T:=λ_=>true) (aK.of bz) aa aa aa aa aa⟩,il.aG bz⟩
 obtain⟨x,hx⟩:∃ x,es[z]? =some x:=⟨_,aH ae⟩;obtain⟨cs,hcs⟩:∃ x,us[z]? =some x:=⟨_,aH ae⟩;rcases bD with ⟨-,dZ⟩|⟨b,c0,vs,sp,rfl,tJ,cZ,dS,eO,hle,fc,gR⟩
 ·rw[dZ] at hcs;cases hcs
 obtain rfl:=Mb dS;have vI:=RR dS;rw[Jf] at hle ⊢;refine VS.bB aa (aU (aW.2 hlt)) ?_
 (repeat (first|refine wN ?_|refine wP aa ?_|refine wO aa aa ?_))
 refine xS aa ?_
 (repeat (first|refine wN ?_|refine wP aa ?_|refine wO aa aa ?_))
 refine VS.jG (bU _ _) 4 aa aa aa (VO.run 80 aa ?_);refine VO.cond aa fb (VO.run 80 aa ?_);refine VO.nil ⟨_,_,_,λw=>aY Tryz.prog w 20,aa,aa,fk Tryz.func98,λ_=>aa,λ_=>aa,λ_=>ax.refl _,λw6 k6 b6=> ?_⟩;have od:ax W w6:=b6;have hcl6:=cZ.aA od;have hvo:vs.flatten.all aO=true:=(dS.ok (nO 6)).1;refine (BL b z kk vs sp cs x w w6 hcl6 (λv hv=>(vI v hv).1) hvo eO hcs (il.aG od) tJ (hF z cs x (aP _) hcs hx) hk (hs x (dc hx))).mono ?_;rintro o w7 ⟨rfl,ew,tP,hl7,ho7,hY7,ia⟩
 refine⟨_,[(0,.slice (some ⟨b,0,none⟩) N c0),(1,.func (.func 98) #[] #[]),(9,.int .i64 (N:Int)),(10,.int .i64 (z:Int))],aa,⟨aa,aa,aa,aa,aj⟩,(λp hp e=>by
  simp only[List.mem_cons,List.not_mem_nil,or_false] at hp;rcases hp with rfl|rfl|rfl|rfl <;> cases e),?_⟩
 have KA:ax w w7:=dP.aA (il.aG od) ia (λg hg=>by rw[ak.1 hg];exact tJ);have kT:lT (λt=> !Nat.beq t 99) W w7:=(aK.of od).aG (dP.kp ia (λg hg=>⟨99,vs.flatten++sp,by rw[ak.1 hg];exact hcl6,aa,by rw[dK,hvo,eO];rfl⟩))
 have hall7:∀ v∈vs.set z ew,v.length=6/\v.all aO=true:=λv hv=>by
  rcases mU hv with h|h
  ·exact vI v h
  ·rw[h];exact⟨hl7,ho7⟩
 have mM:ay (CE 6) 6 99 w.heap.size w7 (.slice (some ⟨b,0,none⟩) N c0) (vs.set z ew):=.inr ⟨b,c0,_,sp,by rw[dV,Jf],tJ,tP,EP hall7,eO,by rw[dV,Jf];exact hle,fc,by
  rw[bg,bE _ 6 (λv hv=>(hall7 v hv).1),dV,<-bE _ 6 (λv hv=>(vI v hv).1),<-bg];exact gR⟩
 have hF7:∀ (i:Nat) (c:List Value) (y:ve),z+1<=i->(vs.set z ew)[i]? =some c->es[i]? =some y->vD kk w c y:=λi c y hi hc hy=>by
  rw[ll,if_neg ae] at hc;exact hF i c y ae hc hy
 have hC7:∀ (i:Nat) (c:List Value) (y:ve),i<z+1->(vs.set z ew)[i]? =some c->es[i]? =some y->IG kk w.heap.size w7 c y:=λi c y hi hc hy=>by
  rw[ll] at hc;by_cases LP:z=i
  ·subst LP;rw[if_pos rfl,if_pos ae] at hc;cases hc;rw[hx] at hy;cases hy;exact hY7.mono (il.aG od).size
  ·rw[if_neg LP] at hc;exact (hC i c y ae hc hy).kp kT aa aa aa aa aa
 refine ag ?_;refine VS.eK aa (N-(z+1)) ae (λw' bM k' o' kc=> ?_);exact⟨[(0,.slice (some ⟨b,0,none⟩) N c0),(1,.func (.func 98) #[] #[]),(9,.int .i64 (N:Int)),(10,.int .i64 ((z+1:Nat):Int))],⟨⟨_,_,aa,aa,aa⟩,⟨_,_,aa,aa,aa⟩,⟨_,_,aa,aa,aa⟩,⟨_,_,aa,au (λz=>Value.int .i64 z) (bl (i:=z) ae),aa⟩,aj⟩,z+1,.slice (some ⟨b,0,none⟩) N c0,vs.set z ew,ae,aa,aa,KA.aG o',mM.aA (nO 6) o',by rw[dV];exact Jf,hF7,λi c y hi hc hy=>(hC7 i c y hi hc hy).kp (T:=λ_=>true) (aK.of (show ax w7 w' from o')) aa aa aa aa aa⟩
set_option maxRecDepth 4000
def FilC (kk B:Nat) (w:World) (v:Value) (f:kM):Prop:=∃ pB nB cB sT pT nT cT tT yT mT dT sC pC nC cC tC yC mC dC sI pI nI cI tI yI mI dI sF pF nF cF tF yF mF dF pc Nc cc pe Ne ce py Ny cy,v=.agg #[.string f.name,.string f.parent,.slice pB nB cB,.bool sT,.slice pT nT cT,.bool tT,.slice yT mT dT,.bool sC,.slice pC nC cC,.bool tC,.slice yC mC dC,.int .i64 f.bk,.int .i64 f.fw,.bool sI,.slice pI nI cI,.bool tI,.slice yI mI dI,.bool sF,.slice pF nF cF,.bool tF,.slice yF mF dF,.int .i64 f.kp,.slice pc Nc cc,.slice pe Ne ce,.slice py Ny cy]/\ay (lH kk) 8 127 B w (.slice pB nB cB) f.Fa/\cP kk w [.bool sT,.slice pT nT cT,.bool tT,.slice yT mT dT] f.On/\cP kk w [.bool sC,.slice pC nC cC,.bool tC,.slice yC mC dC] f.cap/\cP kk w [.bool sI,.slice pI nI cI,.bool tI,.slice yI mI dI] f.Oo/\cP kk w [.bool sF,.slice pF nF cF,.bool tF,.slice yF mF dF] f.Oq/\ay (lI kk) 6 64 B w (.slice pc Nc cc) f.cls/\ay ed 1 9 B w (.slice pe Ne ce) f.dD/\∃ QV,ay (CE 6) 6 99 B w (.slice py Ny cy) QV/\QV.length=f.jn.length/\∀ (i:Nat) (cs:List Value) (y:ve),QV[i]? =some cs->f.jn[i]? =some y->IG kk B w cs y
theorem FilC.kp {kk B:Nat} {w w':World} {v:Value} {f:kM} {T:TypeId->Bool} (h:FilC kk B w v f) (k:lT T w w') (hT:∀ t,fu t=true->T t=true):FilC kk B w' v f:=by
 obtain⟨pB,nB,cB,sT,pT,nT,cT,tT,yT,mT,dT,sC,pC,nC,cC,tC,yC,mC,dC,sI,pI,nI,cI,tI,yI,mI,dI,sF,pF,nF,cF,tF,yF,mF,dF,pc,Nc,cc,pe,Ne,ce,py,Ny,cy,hv,h1,h2,h3,h4,h5,h6,h7,QV,h8,h9,h10⟩:=h;exact⟨_,_,_,_,_,_,_,_,_,_,_,_,_,_,_,_,_,_,_,_,_,_,_,_,_,_,_,_,_,_,_,_,_,_,_,_,_,_,_,_,_,_,_,_,hv,h1.kp (lH.el kk) k (hT _ aa),h2.kp k,h3.kp k,h4.kp k,h5.kp k,h6.kp (lI.el kk) k (hT _ aa),h7.kp ba k (hT _ aa),QV,h8.kp (nO 6) k (hT _ aa),h9,λi cs y hi hy=>(h10 i cs y hi hy).kp k (hT _ aa) (hT _ aa) (hT _ aa) (hT _ aa) (hT _ aa)⟩
set_option maxRecDepth 8000 in
theorem Iu (v:Value) (f:kM) (kk:Nat) (w:World) (hv:sB kk w v f) (hs:Rs f) (hk:kk<=1000):
  Calls Tryz.prog 40 #[v] w λo w'=>∃ r,o=.returned r/\FilC kk w.heap.size w' r f/\ax w w':=by
 obtain⟨pB,nB,cB,sT,pT,nT,cT,tT,yT,mT,dT,sC,pC,nC,cC,tC,yC,mC,dC,sI,pI,nI,cI,tI,yI,mI,dI,sF,pF,nF,cF,tF,yF,mF,dF,pc,Nc,cc,pe,Ne,ce,py,Ny,cy,rfl,h1,h2,h3,h4,h5,h6,h7,h8⟩:=hv;have hNe:Ne=f.dD.length:=by obtain⟨_,_,e,_⟩:=h7.form;cases e;rfl
 have hsB:=hs.Fa;have hsC:=hs.cls;have hsE:=hs.dD;have hsY:=hs.jn;have z2:=h2.raw.2;have z3:=h3.raw.2;have z4:=h4.raw.2;have z5:=h5.raw.2;refine ai (C:=sD Tryz.prog w _) (args:=[_]) Tryz.func40 aa Tryz.ntmps40 (cG aa) ?_
 (repeat (first|refine wN ?_|refine wP aa ?_|refine wO aa aa ?_))
 refine RN aa ?_
 (repeat (first|refine wN ?_|refine wP aa ?_|refine wO aa aa ?_))
 refine VS.LZ (EO _ _) (Kz _ _) [] [(1,15),(1,17),(1,19),(4,13),(4,17),(4,19),(7,13),(7,15),(7,19),(10,13),(10,15),(10,17)] [(13,1,3,4),(15,1,7,4),(17,1,13,4),(19,1,17,4)] (by kernel_rfl) ?_;refine gg.chunk (l2:=[1,2,3,4,5,6,7,8,9,10,11,12,13,14,15,16,17,18,19]) [0] aa ?_;refine dy ?_
 refine gg.b (j:=1) aa (λn hn=>⟨_,_,1,3,_,aa,.inl aa,aa,by
  intro e he h1 h2;simp only[List.mem_cons,List.not_mem_nil,or_false] at he;rcases he with rfl|rfl|rfl|rfl <;> cases h1 <;> first|exact absurd hn cW|exact .inl cW|exact .inr cW⟩) aa ?_
 refine dy ?_;refine gg.chunk (l2:=[3,4,5,6,7,8,9,10,11,12,13,14,15,16,17,18,19]) [2] aa ?_;refine dy ?_;refine VO.call aa aa (fk nr) (λcV eG db=>(iC _ _ _ _ _ cV ((h2.kp (Kp.of (U:=UU) db)).raw.1) ae ae).mono ?_);rintro o w1 ⟨r1,rfl,q1,bF⟩;obtain⟨P1,C1,Y1,D1,rfl,_⟩:=q1.raw.mD;refine iP bF ?_;intro fM _ bb1;refine gg.chunk (l2:=[4,5,6,7,8,9,10,11,12,13,14,15,16,17,18,19]) [3] aa ?_;refine dy ?_
 refine gg.b (j:=4) aa (λn hn=>⟨_,_,1,7,_,aa,.inl aa,aa,by
  intro e he h1 h2;simp only[List.mem_cons,List.not_mem_nil,or_false] at he;rcases he with rfl|rfl|rfl|rfl <;> cases h1 <;> first|exact absurd hn cW|exact .inl cW|exact .inr cW⟩) aa ?_
 refine dy ?_;refine gg.chunk (l2:=[6,7,8,9,10,11,12,13,14,15,16,17,18,19]) [5] aa ?_;refine dy ?_;refine VO.call aa aa (fk nr) (λeD gO fG=>(iC _ _ _ _ _ eD ((h3.kp (Kp.of (U:=UU) fG)).raw.1) ae ae).mono ?_);rintro o w2 ⟨r2,rfl,q2,cJ⟩;obtain⟨P2,C2,Y2,D2,rfl,_⟩:=q2.raw.mD;refine iP cJ ?_;intro jH _ bb2;refine gg.chunk (l2:=[7,8,9,10,11,12,13,14,15,16,17,18,19]) [6] aa ?_;refine dy ?_
 refine gg.b (j:=7) aa (λn hn=>⟨_,_,1,13,_,aa,.inl aa,aa,by
  intro e he h1 h2;simp only[List.mem_cons,List.not_mem_nil,or_false] at he;rcases he with rfl|rfl|rfl|rfl <;> cases h1 <;> first|exact absurd hn cW|exact .inl cW|exact .inr cW⟩) aa ?_
 refine dy ?_;refine gg.chunk (l2:=[9,10,11,12,13,14,15,16,17,18,19]) [8] aa ?_;refine dy ?_;refine VO.call aa aa (fk nr) (λiG iK jm=>(iC _ _ _ _ _ iG ((h4.kp (Kp.of (U:=UU) jm)).raw.1) ae ae).mono ?_);rintro o w3 ⟨r3,rfl,q3,ee⟩;obtain⟨P3,C3,Y3,D3,rfl,_⟩:=q3.raw.mD;refine iP ee ?_;intro nH _ bb3;refine gg.chunk (l2:=[10,11,12,13,14,15,16,17,18,19]) [9] aa ?_;refine dy ?_
 refine gg.b (j:=10) aa (λn hn=>⟨_,_,1,17,_,aa,.inl aa,aa,by
  intro e he h1 h2;simp only[List.mem_cons,List.not_mem_nil,or_false] at he;rcases he with rfl|rfl|rfl|rfl <;> cases h1 <;> first|exact absurd hn cW|exact .inl cW|exact .inr cW⟩) aa ?_
 refine dy ?_;refine gg.chunk (l2:=[12,13,14,15,16,17,18,19]) [11] aa ?_;refine dy ?_;refine VO.call aa aa (fk nr) (λmB pE pG=>(iC _ _ _ _ _ mB ((h5.kp (Kp.of (U:=UU) pG)).raw.1) ae ae).mono ?_);rintro o w4 ⟨r4,rfl,q4,jJ⟩;obtain⟨P4,C4,Y4,D4,rfl,_⟩:=q4.raw.mD;refine iP jJ ?_;intro sO _ Ej;refine gg.chunk (l2:=[13,14,15,16,17,18,19]) [12] aa ?_;refine dy ?_;refine gg.s (j:=13) aa ⟨_,_,_,1,3,_,aa,.inl aa,aa,.head _⟩ aa ?_;refine dy ?_;refine gg.chunk (l2:=[15,16,17,18,19]) [14] aa ?_;refine dy ?_;refine gg.s (j:=15) aa ⟨_,_,_,1,7,_,aa,.inl aa,aa,.tail _ (.head _)⟩ aa ?_;refine dy ?_;refine gg.chunk (l2:=[17,18,19]) [16] aa ?_;refine dy ?_;refine gg.s (j:=17) aa ⟨_,_,_,1,13,_,aa,.inl aa,aa,.tail _ (.tail _ (.head _))⟩ aa ?_;refine dy ?_;refine gg.chunk (l2:=[19]) [18] aa ?_;refine dy ?_;refine gg.s (j:=19) aa ⟨_,_,_,1,17,_,aa,.inl aa,aa,.tail _ (.tail _ (.tail _ (.head _)))⟩ aa ?_;refine dy ?_;refine VO.call aa aa (fk Tryz.func92) (λmP oV og=>(vp _ f.Fa kk mP (h1.aA (lH.el kk) og) ae hk).mono ?_);rintro o w5 ⟨r5,rfl,q5,lL⟩;obtain⟨P5,C5,rfl⟩:=q5.form;refine iP lL ?_;intro tw _ Ek;refine VO.call aa aa (fk Tryz.func94) (λzX zY Em=>(xV _ f.cls kk zX (h6.aA (lI.el kk) Em) ae hk).mono ?_);rintro o w6 ⟨r6,rfl,q6,CR⟩;obtain⟨P6,C6,rfl⟩:=q6.form;refine iP CR ?_;intro En _ bb6;refine VO.call aa aa (fk Tryz.func96) (λHe JM Bn=>(Ak pe Ne ce f.dD He (h7.aA ba Bn) hNe ae).mono ?_);rintro o w7 ⟨r7,rfl,q7,Lz⟩;obtain⟨P7,C7,rfl⟩:=q7.form;refine iP Lz ?_;intro JN _ bb7;refine VO.call aa aa (fk Tryz.func97) (λwa8 ka8 ba8=>(AR _ f.jn kk wa8 (h8.qB (vD.b kk) ba8) ae hk hs.each).mono ?_);rintro o w8 ⟨r8,rfl,q8,hb8⟩;obtain⟨us,y1,y2,y3⟩:=q8;obtain⟨P8,C8,rfl⟩:=y1.form;refine iP hb8 ?_;intro LK _ bb8;refine VS.ret (EO _ _) aa aa (λwz kz bz=> ?_);exact⟨_,aa,⟨_,_,_,_,_,_,_,_,_,_,_,_,_,_,_,_,_,_,_,_,_,_,_,_,_,_,_,_,_,_,_,_,_,_,_,_,_,_,_,_,_,_,_,_,aa,(q5.kp (lH.el kk) (T:=fu) (show lT fu w5 wz from dA) aa).mono og.size,.mk (q1.raw.kp (show Kp UU w1 wz from aK.dN (show lT fu w1 wz from dA))) h2.raw.2.1 h2.raw.2.2,.mk (q2.raw.kp (show Kp UU w2 wz from aK.dN (show lT fu w2 wz from dA))) h3.raw.2.1 h3.raw.2.2,.mk (q3.raw.kp (show Kp UU w3 wz from aK.dN (show lT fu w3 wz from dA))) h4.raw.2.1 h4.raw.2.2,.mk (q4.raw.kp (show Kp UU w4 wz from aK.dN (show lT fu w4 wz from dA))) h5.raw.2.1 h5.raw.2.2,(q6.kp (lI.el kk) (T:=fu) (show lT fu w6 wz from dA) aa).mono Em.size,(q7.kp ba (T:=fu) (show lT fu w7 wz from dA) aa).mono Bn.size,us,(y1.kp (nO 6) (T:=fu) (show lT fu w8 wz from dA) aa).mono ba8.size,y2,λi cs y hi hy=>((y3 i cs y hi hy).kp (T:=fu) (show lT fu w8 wz from dA) aa aa aa aa aa).mono ba8.size⟩,bz⟩
end
section
open Go.RowKit
def atP (names:List ByteArray) (cls:List iB) (e c:Nat) (b:sf):Rat:=if Nw names b=(e:Int)/\Nx cls b=(c:Int) then b.2.2 else 0
def rQ (names:List ByteArray) (cls:List iB) (l:List sf) (e c:Nat):Rat:=l.foldl (λa b=>a+atP names cls e c b) 0
theorem tQ {g:sf->Rat}:∀ (l:List sf) (a:Rat),l.foldl (λa b=>a+g b) a=a+l.foldl (λa b=>a+g b) 0
 | [],a=>(sH a).symm
 | b::r,a=>by
   rw[yM,yM,tQ r (a+g b),tQ r (0+g b),Rat.zero_add,Rat.add_assoc]
variable {l m:List sf} {names:List ByteArray} {e c:Nat}
theorem xK {cls:List iB}:rQ names cls (l++m) e c=rQ names cls l e c+rQ names cls m e c:=by
 unfold rQ;rw[List.foldl_append,tQ m]
theorem pz {cls:List iB} {b:sf}:rQ names cls (b::m) e c=atP names cls e c b+rQ names cls m e c:=by
 rw[show b::m=[b]++m from aa,xK];unfold rQ;rw[yM,Fp,Rat.zero_add]
def inB (names:List ByteArray) (cls:List iB) (b:sf):Prop:=0<=Nw names b/\0<=Nx cls b
theorem inB_lt {cls:List iB} {b:sf} (h:inB names cls b):Nw names b<names.length/\Nx cls b<cls.length:=⟨EK h.1,EK h.2⟩
theorem RS {cls:List iB} {f:Nat->Nat->Rat} {b:sf} (h:inB names cls b):vd names cls (some (BB names.length cls.length f)) b=some (BB names.length cls.length λe c=>f e c+atP names cls e c b):=by
 obtain⟨h1,h2⟩:=inB_lt h;obtain⟨e0,he⟩:=qG h.1;obtain⟨c0,hc⟩:=qG h.2;rw[he] at h1;rw[hc] at h2;have h1':e0<names.length:=ae;have h2':c0<cls.length:=ae;unfold vd;rw[he,hc];show (if pk (BB names.length cls.length f) (e0:Int) (c0:Int)=true then _ else none)=_;rw[if_pos (Rk h1' h2'),bh,bh,Rj h1' h2']
 congr 1
 refine pt λe c _ _=> ?_;unfold atP;rw[he,hc];by_cases hh:e=e0/\c=c0
 ·obtain⟨rfl,rfl⟩:=hh;rw[if_pos ⟨rfl,rfl⟩,if_pos ⟨rfl,rfl⟩]
 ·rw[if_neg hh,if_neg (λg=>hh ⟨by have:=g.1;omega,by have:=g.2;omega⟩),sH]
theorem ER {cls:List iB} (h:∀ b∈l,inB names cls b):jL names cls l=some (BB names.length cls.length (rQ names cls l)):=by
 have key:∀ (m:List sf) (f:Nat->Nat->Rat),(∀ b∈m,inB names cls b)->m.foldl (vd names cls) (some (BB names.length cls.length f))=some (BB names.length cls.length λe c=>f e c+rQ names cls m e c):=by
  intro m
  induction m with
  | nil=>intro f _;rw[Fp];congr 1;exact pt λe c _ _=>(sH _).symm
  | cons b r ih=>
    intro f hm;rw[yM,RS (hm b (tW ..)),ih _ λx hx=>hm x (qH _ hx)]
    congr 1
    exact pt λe c _ _=>by rw[pz,Rat.add_assoc]
 unfold jL;rw[NI,key l _ h]
 congr 1
 exact pt λe c _ _=>Rat.zero_add _
variable {t:mG}
theorem Mc {cls:List iB} (h:jL names cls l=some t):∀ b∈l,inB names cls b:=by
 intro b hb;obtain⟨i,hi⟩:=sE hb;cases hp:jL names cls (l.take (i+1)) with
 | none=>rw[Dj hp] at h;cases h
 | some u=>
   rw[wL hi] at hp;unfold vd at hp;cases ho:jL names cls (l.take i) with
   | none=>rw[ho] at hp;cases hp
   | some v=>
     rw[ho] at hp;change (if pk v (Nw names b) (Nx cls b)=true then _ else none)=some u at hp
     split at hp
     ·rename_i hh;unfold pk at hh;rw[decide_eq_true_eq] at hh;exact⟨hh.1,hh.2.2.1⟩
     ·cases hp
def Dn (p:Rat) (b:sf):List sf:=[(b.1,b.2.1,p),(b.1,b.2.1,b.2.2-p)]
def gB (l:List sf) (i:Nat) (p:Rat) (k:Nat):List sf:=match l[k]? with
 | some b=>if k=i then Dn p b else [b]
 | none=>[]
def KB (l:List sf) (i:Nat) (p:Rat):Nat->List sf
 | 0=>[]
 | d+1=>KB l i p d++gB l i p (l.length-1-d)
variable {p:Rat}
theorem RT {cls:List iB} {b:sf}:rQ names cls (Dn p b) e c=atP names cls e c b:=by
 unfold Dn;rw[pz,pz];unfold rQ atP;rw[Fp,sH];show (if Nw names b=(e:Int)/\Nx cls b=(c:Int) then p else 0)+(if Nw names b=(e:Int)/\Nx cls b=(c:Int) then b.2.2-p else 0)=_
 split
 ·grind
 ·exact sH _
variable {i:Nat}
theorem gB_sum {cls:List iB} {k:Nat} {b:sf} (h:l[k]? =some b):rQ names cls (gB l i p k) e c=atP names cls e c b:=by
 unfold gB;rw[h]
 dsimp only
 split
 ·exact RT
 ·rw[pz];unfold rQ;rw[Fp,sH]
theorem Iv {names:List ByteArray} {cls:List iB} {l:List sf} {i:Nat} {p:Rat} {e c:Nat}:∀ d,d<=l.length->rQ names cls (KB l i p d) e c=rQ names cls (l.drop (l.length-d)) e c
 | 0,_=>by rw[Nat.sub_zero,List.drop_length];rfl
 | d+1,h=>by
   obtain⟨b,hb⟩:∃ b,l[l.length-1-d]? =some b:=⟨_,aH ae⟩
   have hd:l.drop (l.length-(d+1))=b::l.drop (l.length-d):=by
    rw[show l.length-(d+1)=l.length-1-d by omega,oh ae,show l.length-1-d+1=l.length-d by omega]
    congr 1
    exact lx ((aH _).symm.trans hb)
   show rQ names cls (KB l i p d++gB l i p (l.length-1-d)) e c=_;rw[xK,Iv d ae,gB_sum hb,hd,pz,Rat.add_comm]
theorem gB_in {cls:List iB} {k:Nat} (h:∀ b∈l,inB names cls b):∀ b∈gB l i p k,inB names cls b:=by
 intro b hb;unfold gB at hb;cases hk:l[k]? with
 | none=>rw[hk] at hb;cases hb
 | some x=>
   rw[hk] at hb
   dsimp only at hb
   have hx:=h x (dc hk)
   split at hb
   ·unfold Dn at hb;simp only[List.mem_cons,List.not_mem_nil,or_false] at hb;rcases hb with rfl|rfl <;> exact hx
   ·rw[ak.1 hb];exact hx
theorem Md {names:List ByteArray} {cls:List iB} {l:List sf} {i:Nat} {p:Rat} (h:∀ b∈l,inB names cls b):∀ d,∀ b∈KB l i p d,inB names cls b
 | 0,b,hb=>by cases hb
 | d+1,b,hb=>by
   rcases lp.1 hb with hb|hb
   ·exact Md h d b hb
   ·exact gB_in h b hb
theorem RU {cls:List iB} (h:jL names cls l=some t):jL names cls (KB l i p l.length)=some t:=by
 have hi:=Mc h;rw[ER (Md hi _),<-h,ER hi]
 congr 1
 exact pt λe c _ _=>by rw[Iv _ (aP _),oy,Fo]
theorem xL {x:Rat}:∀ {l:List Rat} {c:Nat},c<l.length->eH (l.modify c (·+x))=eH l+x
 | [],_,h=>by simp at h
 | y::r,0,_=>by rw[List.modify_zero_cons,et,et];grind
 | y::r,c+1,h=>by
   rw[List.modify_succ_cons,et,et,xL (l:=r) (c:=c) (by simpa using h),Rat.add_assoc]
theorem Dp {x:Rat} {c:Nat}:∀ {t:mG} {e:Nat} {r:List Rat},t[e]? =some r->c<r.length->eH ((tK t e c x).map eH)=eH (t.map eH)+x
 | [],_,_,h,_=>by simp at h
 | y::t,0,r,h,hc=>by
   have:y=r:=by simpa using h
   subst this;unfold tK;rw[List.modify_zero_cons,mf,mf,et,et,xL hc];grind
 | y::t,e+1,r,h,hc=>by
   have ih:=Dp (x:=x) (c:=c) (t:=t) (e:=e) (r:=r) (by simpa using h) hc;unfold tK at ih ⊢;rw[List.modify_succ_cons,mf,mf,et,et,ih,Rat.add_assoc]
theorem AU:∀ (n:Nat),eH (List.replicate n 0)=0
 | 0=>rfl
 | n+1=>by rw[KP,et,AU n,sH]
theorem Iw {names:List ByteArray} {cls:List iB} {l:List sf}:∀ (z:Nat) {t:mG},z<=l.length->jL names cls (l.take z)=some t->eH (t.map eH)=eH ((l.take z).map λb=>b.2.2)
 | 0,t,_,h=>by
   rw[iD] at h ⊢;unfold jL at h;rw[Fp] at h;cases h;unfold qe;rw[List.map_replicate,AU,AU];rfl
 | z+1,t,hz,h=>by
   obtain⟨b,hb⟩:∃ b,l[z]? =some b:=⟨_,aH ae⟩;rw[wL hb] at h;cases ho:jL names cls (l.take z) with
   | none=>rw[ho] at h;cases h
   | some u=>
     rw[ho] at h;unfold vd at h;change (if pk u (Nw names b) (Nx cls b)=true then _ else none)=some t at h
     split at h
     ·rename_i hh;cases h;have ih:=Iw z ae ho;obtain⟨E,Kc,xs,y,hE,hK,hx,hy⟩:=si hh;rw[hE,hK,bh,bh,Dp hx (bd.1 hy).1,ih,fj hb,aF,rH]
      congr 1
      show b.2.2=eH [b.2.2];rw[et];exact (sH _).symm
     ·cases h
theorem tot_all {cls:List iB} (h:jL names cls l=some t):eH (t.map eH)=eH (l.map λb=>b.2.2):=by
 have:=Iw (l:=l) l.length (aP _) (by rw[BX];exact h)
 rwa [BX] at this
def gH (l:List lg) (i:Nat) (p:Rw) (k:Nat):List lg:=match l[k]? with
 | some b=>if k=i then [(b.1,b.2.1,p),(b.1,b.2.1,Rw.of (b.2.2.q-p.q))] else [b]
 | none=>[]
def vt (l:List lg) (i:Nat) (p:Rw):Nat->List lg
 | 0=>[]
 | d+1=>vt l i p d++gH l i p (l.length-1-d)
theorem rw_of_q (q:Rat):(Rw.of q).q=q:=by
 have:=Rq [[q]];unfold rtab rawT at this;simpa using this
theorem gH_map {l:List lg} {k:Nat} {p:Rw}:(gH l i p k).map lg.b=gB (l.map lg.b) i p.q k:=by
 unfold gH gB;rw[jq];cases l[k]? with
 | none=>rfl
 | some b=>
   dsimp only[Option.map]
   by_cases h:k=i
   ·rw[if_pos h,if_pos h];show [lg.b _,lg.b _]=Dn p.q (lg.b b);unfold lg.b Dn;rw[rw_of_q]
   ·rw[if_neg h,if_neg h];rfl
theorem Ix {l:List lg} {i:Nat} {p:Rw}:∀ d,(vt l i p d).map lg.b=KB (l.map lg.b) i p.q d
 | 0=>rfl
 | d+1=>by
   show (vt l i p d++gH l i p (l.length-1-d)).map lg.b=KB (l.map lg.b) i p.q d++gB (l.map lg.b) i p.q ((l.map lg.b).length-1-d);rw[aF,Ix d,gH_map,aM]
theorem tot_out {f:kM} {Y:Nat} {p:Rw} {y:ve} (hy:f.jn[Y]? =some y) (h:f.tot (Y:Int)=some t):({ f with jn:=f.jn.set Y { y with bn:=vt y.bn i p y.bn.length } }:kM).tot (Y:Int)=some t:=by
 have hY:=(bd.1 hy).1
 have e:∀ (ys:List ve) (z:ve),ys[Y]? =some z->rK f.dD (f.cls.map Au.k) (ys.map λy=>y.bn.map lg.b) (Y:Int)=jL (fq f.dD) (f.cls.map Au.k) (z.bn.map lg.b):=λys z hz=>by
  have hl:=(bd.1 hz).1;unfold rK;rw[if_neg (by rw[aM];omega),bh,lU,jq,hz];rfl
 have h1:jL (fq f.dD) (f.cls.map Au.k) (y.bn.map lg.b)=some t:=(e f.jn y hy).symm.trans h;show rK f.dD (f.cls.map Au.k) ((f.jn.set Y { y with bn:=vt y.bn i p y.bn.length }).map λy=>y.bn.map lg.b) (Y:Int)=some t;rw[e _ { y with bn:=vt y.bn i p y.bn.length } (by rw[ll,if_pos rfl,if_pos hY])];show jL _ _ ((vt y.bn i p y.bn.length).map lg.b)=some t;rw[Ix];have:=RU (i:=i) (p:=p.q) h1
 rwa [aM] at this
end
set_option maxRecDepth 4000
section
open Go.RowKit
attribute [local irreducible] aE VS
theorem Me {k n:Int} (hn:0<n):sW (binI .rem .i64 k n)=.eZ (.val (.int .i64 (k.tmod n))) none:=by
 unfold binI
 dsimp only
 rw[aR (show ¬ n=0 by omega)];rfl
def Dq (k n:Int):Int:=(IntKind.i64.wrap (k.tmod n+n)).tmod n
set_option maxRecDepth 4000 in
theorem RV (k n:Int) (w:World) (hn:0<n):
  Calls Tryz.prog 41 #[.int .i64 k,.int .i64 n] w λo w'=>o=.returned (.int .i64 (Dq k n))/\ax w w':=by
 refine ai (C:=aY Tryz.prog w _) (args:=[_,_]) Tryz.func41 aa Tryz.ntmps41 (cG aa) ?_;refine ag ?_;refine VS.bC aa (aR ae) ?_
 (repeat (first|refine wN ?_|refine wP aa ?_|refine wO aa aa ?_))
 refine VS.region (bU _ _) (VO.run 2 aa ?_);refine VO.op1 (v:=.val (.int .i64 (k.tmod n))) (u:=none) ?_ ?_
 ·exact Me (k:=k) hn
 refine VO.run 3 aa ?_;refine VO.op1 (v:=.val (.int .i64 (Dq k n))) (u:=none) ?_ ?_
 ·exact Me (k:=IntKind.i64.wrap (k.tmod n+n)) hn
 refine VO.run 80 aa ?_;refine ag ?_;refine ck ?_;intro wz kz bz;exact⟨aa,bz⟩
set_option maxRecDepth 4000
variable {j d:Nat} {w:World}
theorem cP.inK {kk:Nat} {s t:Bool} {p y:Option Addr} {n c m:Nat} {r:Rw} (h:cP kk w [.bool s,.slice p n c,.bool t,.slice y m d] r) (h1:r.xs.length<=j) (h2:r.ys.length<=j):dk w (.agg #[.bool s,.slice p n c,.bool t,.slice y m d]) r.q j:=h.raw.1.in h1 h2
variable {i:Nat}
theorem NW {vs:List (List Value)} {sz o:Nat} {x new:List Value} {sp:List AV} (h:∀ x∈vs,x.length=sz) (hi:vs[i]? =some x) (ho:o+new.length<=sz):
 (vs.flatten.map AV.val++sp).take (0+((i:Nat):Int).toNat*sz+o)++(new.map AV.val++(vs.flatten.map AV.val++sp).drop (0+((i:Nat):Int).toNat*sz+o+new.length))=(vs.set i (x.take o++(new++x.drop (o+new.length)))).flatten.map AV.val++sp:=dJ h hi o new ho sp _ (by rw[bh,fe]) _ aa
variable {l:List lg} {p:Rw}
theorem sm:vt l i p (d+1)=vt l i p d++gH l i p (l.length-1-d):=rfl
theorem RW {k:Nat} {b:lg} (h:l[k]? =some b) (e:k=i):gH l i p k=[(b.1,b.2.1,p),(b.1,b.2.1,Rw.of (b.2.2.q-p.q))]:=by unfold gH;rw[h];exact if_pos e
theorem gH_no {k:Nat} {b:lg} (h:l[k]? =some b) (e:k≠i):gH l i p k=[b]:=by unfold gH;rw[h];exact if_neg e
theorem IG.up {k B:Nat} {cs:List Value} {y:ve} (h:IG j B w cs y) (hk:j<=k):vD k w cs y:=by
 obtain⟨a,b,d,s,q,hv,h1,h2,h3,h4,h5⟩:=h.f;exact⟨_,_,_,_,_,hv,h1.mono (λ_ _ _ _ h=>h.up hk),h2.mono (λ_ _ _ _ h=>h.up hk),h3.mono (λ_ _ _ _ h=>h.up hk),h4.mono (λ_ _ _ _ h=>h.up hk),h5.mono (λ_ _ _ _ h=>h.up hk)⟩
set_option maxRecDepth 8000 in
theorem AW (v:Value) (f:kM) (year i:Int) (Bs:List Value) (x0:Rw) (kk:Nat) (w:World) (hv:sB kk w v f) (hx:cP kk w Bs x0):
  Calls Tryz.prog 6 #[v,.int .i64 year,.int .i64 i,.agg Bs.toArray] w λo w'=>o=.returned (.bool true)/\ax w w':=by
 have hv0:=hv;have pA:=hx;obtain⟨pB,nB,cB,sT,pT,nT,cT,tT,yT,mT,dT,sC,pC,nC,cC,tC,yC,mC,dC,sI,pI,nI,cI,tI,yI,mI,dI,sF,pF,nF,cF,tF,yF,mF,dF,pc,Nc,cc,pe,Ne,ce,py,Ny,cy,rfl,h1,h2,h3,h4',h5,h6,h7',h8⟩:=hv;have hNy:Ny=f.jn.length:=by obtain⟨_,_,e,_⟩:=h8.form;cases e;rfl
 clear h1 h2 h3 h4' h5 h7';obtain⟨_,px,cx,_,yx,dx,rfl,sx⟩:=hx.form
 obtain⟨rfl,rfl⟩:_=x0.s/\_=x0.t:=by
  obtain⟨_,_,_,_,hv',_⟩:=sx;simp only[Value.agg.injEq,Array.mk.injEq,List.cons.injEq,Value.bool.injEq,and_true] at hv';exact⟨hv'.1,hv'.2.2.1⟩
 refine ai (C:=aY Tryz.prog w _) (args:=[_,_,_,_]) Tryz.func6 aa Tryz.ntmps6 (cG aa) ?_
 (repeat (first|refine wN ?_|refine wP aa ?_|refine wO aa aa ?_))
 refine xS aa ?_
 (repeat (first|refine wN ?_|refine wP aa ?_|refine wO aa aa ?_))
 refine VS.jZ (λw=>Bw Tryz.prog w 195) (λ_=>aa) (λ_=>aa) (λ_=>ax.refl _) (λw0 β k0 b0 en=> ?_);have kP:ax w w0:=b0;have h4:aQ w0 (β 4) 32 #[.string f.name,.string f.parent,.slice pB nB cB,.bool sT,.slice pT nT cT,.bool tT,.slice yT mT dT,.bool sC,.slice pC nC cC,.bool tC,.slice yC mC dC,.int .i64 f.bk,.int .i64 f.fw,.bool sI,.slice pI nI cI,.bool tI,.slice yI mI dI,.bool sF,.slice pF nF cF,.bool tF,.slice yF mF dF,.int .i64 f.kp,.slice pc Nc cc,.slice pe Ne ce,.slice py Ny cy]:=(en.own 4 _ _ aa).cls;have h7:aQ w0 (β 7) 27 #[.bool x0.s,.slice px x0.xs.length cx,.bool x0.t,.slice yx x0.ys.length dx]:=(en.own 7 _ _ aa).cls;refine⟨[(1,.val (.int .i64 year)),(2,.val (.int .i64 i)),(4,.val (.pointer (some ⟨β 4,0,none⟩))),(7,.val (.pointer (some ⟨β 7,0,none⟩)))],⟨⟨_,_,aa,aa,aa⟩,⟨_,_,aa,aa,aa⟩,⟨_,_,aa,aa,aa⟩,⟨_,_,aa,aa,aa⟩,aj⟩,?_⟩;generalize β 4=g4 at h4 ⊢;generalize β 7=g7 at h7 ⊢;clear en;refine bH ?_;refine VO.read aa [.string f.name,.string f.parent,.slice pB nB cB,.bool sT,.slice pT nT cT,.bool tT,.slice yT mT dT,.bool sC,.slice pC nC cC,.bool tC,.slice yC mC dC,.int .i64 f.bk,.int .i64 f.fw,.bool sI,.slice pI nI cI,.bool tI,.slice yI mI dI,.bool sF,.slice pF nF cF,.bool tF,.slice yF mF dF,.int .i64 f.kp,.slice pc Nc cc,.slice pe Ne ce,.slice py Ny cy] aa (ij (cs:=[.string f.name,.string f.parent,.slice pB nB cB,.bool sT,.slice pT nT cT,.bool tT,.slice yT mT dT,.bool sC,.slice pC nC cC,.bool tC,.slice yC mC dC,.int .i64 f.bk,.int .i64 f.fw,.bool sI,.slice pI nI cI,.bool tI,.slice yI mI dI,.bool sF,.slice pF nF cF,.bool tF,.slice yF mF dF,.int .i64 f.kp,.slice pc Nc cc,.slice pe Ne ce,.slice py Ny cy]) h4 0 _ ⟨[],aa⟩) (wV aa ?_);refine bH ?_;refine VO.call aa aa (fk Tryz.func9) (λcV eG db=>(NQ _ f kk cV (hv0.aA (kP.aG db))).mono ?_);rintro e w1 ⟨b1,rfl,q1,bF⟩
 skip
 refine rL bF ?_;intro fM _ bb1;cases b1
 ·refine bH ?_;refine VO.cB aa aa (fk Ck) (λeD gO fG=>kO eD) (λeD gO fG w2 cJ jH _ bb2=>wV aa ?_);refine bH ?_;refine VS.ret (lf _ _) aa aa (λwz kz bz=> ?_);exact⟨aa,kP.aG bz⟩
 refine bH ?_;refine VO.read aa [.bool x0.s,.slice px x0.xs.length cx,.bool x0.t,.slice yx x0.ys.length dx] aa (ij (cs:=[.bool x0.s,.slice px x0.xs.length cx,.bool x0.t,.slice yx x0.ys.length dx]) h7 0 _ ⟨[],aa⟩) (wV aa ?_);refine bH ?_;refine VO.call aa aa (fk Tryz.func20) (λeD gO fG=>(Ih [.bool x0.s,.slice px x0.xs.length cx,.bool x0.t,.slice yx x0.ys.length dx] x0 kk eD (pA.kp (Kp.of (U:=UU) (kP.aG fG)))).mono ?_);rintro e w2 ⟨b2,rfl,q2,cJ⟩
 skip
 refine rL cJ ?_;intro jH _ bb2;cases b2
 ·refine bH ?_;refine VO.cB aa aa (fk Ck) (λiG iK jm=>kO iG) (λiG iK jm w3 ee nH _ bb3=>wV aa ?_);refine bH ?_;refine VS.ret (lf _ _) aa aa (λwz kz bz=> ?_);exact⟨aa,kP.aG bz⟩
 refine bH ?_;obtain⟨hs4,hs5⟩:=q2 aa;refine VO.read aa [.bool x0.s,.slice px x0.xs.length cx,.bool x0.t,.slice yx x0.ys.length dx] aa (ij (cs:=[.bool x0.s,.slice px x0.xs.length cx,.bool x0.t,.slice yx x0.ys.length dx]) h7 0 _ ⟨[],aa⟩) (wV aa ?_);refine bH ?_;refine VO.call aa aa (fk Tryz.func36) (λiG iK jm=>(uS _ _ _ _ _ iG (sx.kp (Kp.of (U:=UU) (kP.aG jm))) ae ae).mono ?_);rintro o w3 ⟨rfl,ee⟩;cases hR:Nl x0.s x0.xs x0.t x0.ys
 ·refine rL ee ?_;intro nH _ bb3;refine VO.cB aa aa (fk Ck) (λmB pE pG=>kO mB) (λmB pE pG w4 jJ sO _ Ej=>wV aa ?_);refine bH ?_;refine VS.ret (lf _ _) aa aa (λwz kz bz=> ?_);exact⟨aa,kP.aG bz⟩
 refine rL ee ?_;intro nH _ bb3;obtain⟨⟨hS,hsix,htxt⟩,hE20,hC20,hY6⟩:=q1 aa;have hv6:=hv0.rP hsix;have hbk:∀ y∈f.jn,y.bn.length<=40:=λy hy=>(hS.each y hy).2.1;refine VO.read aa [.string f.name,.string f.parent,.slice pB nB cB,.bool sT,.slice pT nT cT,.bool tT,.slice yT mT dT,.bool sC,.slice pC nC cC,.bool tC,.slice yC mC dC,.int .i64 f.bk,.int .i64 f.fw,.bool sI,.slice pI nI cI,.bool tI,.slice yI mI dI,.bool sF,.slice pF nF cF,.bool tF,.slice yF mF dF,.int .i64 f.kp,.slice pc Nc cc,.slice pe Ne ce,.slice py Ny cy] aa (ij (cs:=[.string f.name,.string f.parent,.slice pB nB cB,.bool sT,.slice pT nT cT,.bool tT,.slice yT mT dT,.bool sC,.slice pC nC cC,.bool tC,.slice yC mC dC,.int .i64 f.bk,.int .i64 f.fw,.bool sI,.slice pI nI cI,.bool tI,.slice yI mI dI,.bool sF,.slice pF nF cF,.bool tF,.slice yF mF dF,.int .i64 f.kp,.slice pc Nc cc,.slice pe Ne ce,.slice py Ny cy]) h4 0 _ ⟨[],aa⟩) (wV aa ?_);refine bH ?_;refine VO.call aa aa (fk Tryz.func13) (λmB pE pG=>(Aw _ f year 6 40 mB (hv6.aA (kP.aG pG)) ae ae hbk ae ae ae).mono ?_);rintro o w4 ⟨r4,rfl,q4,jJ⟩;cases hT:f.tot year with
 | none=>
   rw[hT] at q4;obtain⟨p4,c4,rfl⟩:=q4.form;refine rL jJ ?_;intro sO _ Ej;refine bH ?_;refine VO.fix 48 aa (au (λb=>AV.val (.bool b)) (LM aa)) ?_;refine bH ?_;refine VO.cB aa aa (fk Ck) (λmP oV og=>kO mP) (λmP oV og w5 lL tw _ Ek=>wV aa ?_);refine bH ?_;refine VS.ret (lf _ _) aa aa (λwz kz bz=> ?_);exact⟨aa,kP.aG bz⟩
 | some t=>
   rw[hT] at q4;obtain⟨p4,c4,rfl⟩:=q4.form;refine rL jJ ?_;intro sO _ Ej
   have hyr:¬ (year<0\/(f.jn.length:Int)<=year):=λh=>by
    unfold kM.tot rK at hT;rw[if_pos (by rw[aM];exact h)] at hT;cases hT
   refine bH ?_;refine VO.fix 53 aa (au (λb=>AV.val (.bool b)) (aR (show ¬ year<0 by omega))) ?_;refine bH ?_;refine VO.read aa [.slice py Ny cy] aa (aX (h4.cell (j:=24) aa)) (wV aa ?_);refine bH ?_;refine VS.bC aa (aR (show ¬ year>=(Ny:Int) by omega)) ?_;obtain⟨Y,rfl⟩:=qG (show 0<=year by omega);obtain⟨y,hy⟩:∃ y,f.jn[Y]? =some y:=⟨_,aH ae⟩
   have hR2:f.tot (Y:Int)=jL (fq f.dD) (f.cls.map Au.k) (y.bn.map lg.b):=by
    unfold kM.tot rK;rw[if_neg (by rw[aM];omega),bh,lU,jq,hy];rfl
   obtain⟨Bx,Bz,csy,rfl,vE,hYF⟩:=h8.at hy;obtain⟨yh,yb,yd,ys,yq,rfl,y1,ye,y3,y4,y5⟩:=hYF.rP (λx hx=>hsix x (by unfold iY;simp only[List.mem_append,List.mem_flatMap];exact .inr ⟨y,dc hy,hx⟩));obtain⟨pb,cb,rfl,EX,hbc2⟩:=ye.form;have Lb:=hbk y (dc hy);refine bH ?_;refine VO.read aa [.slice (some ⟨Bx,Bz,none⟩) Ny cy] aa (aX (h4.cell (j:=24) aa)) (wV aa ?_);refine bH ?_;refine VO.cond aa fb ?_;refine wV aa ?_;refine bH ?_;refine VO.read aa [.slice pb y.bn.length cb] aa (λj u hj=>kP.cell (bf vE 2 _ ⟨_,aa⟩ j u hj)) (wV aa ?_)
   (repeat (first|refine wN ?_|refine wP aa ?_|refine wO aa aa ?_))
   refine VS.jZ (λw=>aY Tryz.prog w 195) (λ_=>aa) (λ_=>aa) (λ_=>ax.refl _) (λwC β k1 b1 en=> ?_);have hB0C:ax w0 wC:=b1;have hBC:ax w wC:=kP.aG hB0C;have hT4:=q4.kp (show lT TQ w4 wC from dA) aa aa;have h9:aQ wC (β 9) 52 #[.slice p4 t.length c4]:=(en.own 9 _ _ aa).cls;have h4C:=h4.aA hB0C;have h7C:=h7.aA hB0C;refine⟨[(1,.val (.int .i64 (Y:Int))),(2,.val (.int .i64 i)),(4,.val (.pointer (some ⟨g4,0,none⟩))),(7,.val (.pointer (some ⟨g7,0,none⟩))),(9,.val (.pointer (some ⟨β 9,0,none⟩))),(11,.val (.slice pb y.bn.length cb))],⟨⟨_,_,aa,aa,aa⟩,⟨_,_,aa,aa,aa⟩,⟨_,_,aa,aa,aa⟩,⟨_,_,aa,aa,aa⟩,⟨_,_,aa,aa,aa⟩,⟨_,_,aa,aa,aa⟩,aj⟩,?_⟩;generalize β 9=g9 at h9 ⊢;clear en q4 sO;obtain⟨N,hN⟩:∃ N,N=y.bn.length:=⟨_,aa⟩;rw[<-hN] at ye EX Lb ⊢;refine ag ?_;refine VO.cR aa aa (fk Ci) (λzX zY Em=>jD 0 zX ae ae) (λzX zY Em w6 s6 p6 n6 c6 t6 y6 m6 d6 q6 CR En _ bb6=>wV aa ?_);refine ag ?_;refine VO.cR aa aa (fk Ci) (λHe JM Bn=>jD 0 He ae ae) (λHe JM Bn w7 s7 p7 n7 c7 t7 y7 m7 d7 q7 Lz JN _ bb7=>wV aa ?_);refine ag ?_;refine VS.loop (J:=λm L M w'=>∃ (z:Nat) (s:Bool) (p:Option Addr) (n c:Nat) (t:Bool) (yy:Option Addr) (mm d:Nat),z<=N/\m=N-z/\L=[(1,.val (.int .i64 (Y:Int))),(2,.val (.int .i64 i)),(4,.val (.pointer (some ⟨g4,0,none⟩))),(7,.val (.pointer (some ⟨g7,0,none⟩))),(9,.val (.pointer (some ⟨g9,0,none⟩))),(11,.val (.slice pb N cb)),(12,.box 12 0),(13,.box 13 0),(14,.val (.int .i64 (z:Int)))]/\M=[(12,(27,[.val (.bool s),.val (.slice p n c),.val (.bool t),.val (.slice yy mm d)])),(13,(27,[.val (.bool s7),.val (.slice p7 n7 c7),.val (.bool t7),.val (.slice y7 m7 d7)]))]/\dk w' (.agg #[.bool s,.slice p n c,.bool t,.slice yy mm d]) (eH ((y.bn.take z).map λb=>b.2.2.q)) (1+z*7)/\dk w' (.agg #[.bool s7,.slice p7 n7 c7,.bool t7,.slice y7 m7 d7]) 0 1) N ⟨_,_,?_,?_,?_,?_,⟨0,s6,p6,n6,c6,t6,y6,m6,d6,ae,aa,aa,aa,by rw[iD,uf];exact q6.ki lR.zero,q7.ki lR.zero⟩⟩ ?_
   ·exact lD
   ·exact lD
   ·rfl
   ·exact AZ
   rintro m L M wJ ⟨z,s,p,n,c,tt,yy,mm,d,hz,rfl,rfl,rfl,hs,h13⟩;refine VS.now (λwX kX bX=> ?_);replace hs:=hs.kp (aK.dN kX);replace h13:=h13.kp (aK.dN kX);refine ag ?_;by_cases hlt:z<N
   ·obtain⟨x,yu⟩:∃ x,y.bn[z]? =some x:=⟨_,aH ae⟩;obtain⟨bb,ob,csb,rfl,Bu,⟨s1,p1,n1,c1,t1,yb1,m1,d1,rfl,qi⟩⟩:=ye.at yu;have xP:=qi.in.kp (Kp.of (U:=UU) (hBC.aG bX));refine VS.bB aa (aU (aW.2 hlt)) ?_;refine ag ?_;refine VO.cond aa fb ?_;refine wV aa ?_;refine ag ?_;refine VO.read aa [.bool s1,.slice p1 n1 c1,.bool t1,.slice yb1 m1 d1] aa (λj u hj=>hBC.cell (bf Bu 2 _ ⟨[],aa⟩ j u hj)) (wV aa ?_);refine ag ?_;refine VO.cR aa aa (fk Tryz.func38) (λwa8 ka8 ba8=>tD _ _ _ _ _ _ wa8 (hs.kp (aK.dN ka8)) (xP.kp (aK.dN ka8)) ae ae) (λwa8 ka8 ba8 w8 s8 p8 n8 c8 t8 y8 m8 d8 q8 hb8 LK _ bb8=>wV aa ?_);refine ag ?_
    have Qk:eH ((y.bn.take (z+1)).map λb=>b.2.2.q)=eH ((y.bn.take z).map λb=>b.2.2.q)+x.2.2.q:=by
     rw[fj yu,aF,rH]
     congr 1
     show eH [_]=_;rw[et];exact sH _
    refine VS.back (N-(z+1)) ae ⟨_,_,?_,?_,?_,?_,⟨z+1,s8,p8,n8,c8,t8,y8,m8,d8,ae,aa,aa,aa,?_,?_⟩⟩
    ·refine⟨aa,aa,aa,aa,aa,aa,aa,aa,?_,aj⟩;rw[<-bl (i:=z) ae];rfl
    ·exact lD
    ·rfl
    ·exact AZ
    ·rw[Qk];exact q8.ki (((hs.sz ae).add (xP.sz ae)).mono ae)
    ·exact h13.kp (T:=λ_=>false) dA
   refine VS.bC aa (aR (λe=>hlt (aW.1 e))) ?_;obtain rfl:N=z:=ae;rw[cO ae] at hs;clear hlt
   have htm:t=BB (fq f.dD).length (f.cls.map Au.k).length (rQ (fq f.dD) (f.cls.map Au.k) (y.bn.map lg.b)):=by
    have h1:=hR2.symm.trans hT;exact lx (h1.symm.trans (ER (Mc h1)))
   have htl:t.length<=20:=by rw[htm,yG,pj];exact hE20
   have htr:∀ r∈t,r.length<=20:=λr hr=>by
    rw[htm] at hr;rw[(mkT_mem hr).1,aM];exact hC20
   have hTt:bK (jR 281) 1 wC (.slice p4 t.length c4) t:=ib.Nu hT4;obtain⟨M',hM'⟩:∃ M,M=t.length:=⟨_,aa⟩;have h9':=h9;rw[<-hM'] at h9' hTt htl;refine ag ?_;refine VS.loop (J:=λm L M w'=>∃ (z:Nat) (s3:Bool) (p3:Option Addr) (n3 c3:Nat) (t3:Bool) (q3:Option Addr) (m3 d3:Nat),z<=M'/\m=M' -z/\L=[(1,.val (.int .i64 (Y:Int))),(2,.val (.int .i64 i)),(4,.val (.pointer (some ⟨g4,0,none⟩))),(7,.val (.pointer (some ⟨g7,0,none⟩))),(9,.val (.pointer (some ⟨g9,0,none⟩))),(11,.val (.slice pb N cb)),(12,.box 12 0),(13,.box 13 0),(15,.val (.int .i64 (z:Int)))]/\M=[(12,(27,[.val (.bool s),.val (.slice p n c),.val (.bool tt),.val (.slice yy mm d)])),(13,(27,[.val (.bool s3),.val (.slice p3 n3 c3),.val (.bool t3),.val (.slice q3 m3 d3)]))]/\dk w' (.agg #[.bool s3,.slice p3 n3 c3,.bool t3,.slice q3 m3 d3]) (eH ((t.take z).map eH)) (1+z*6000)/\dk w' (.agg #[.bool s,.slice p n c,.bool tt,.slice yy mm d]) (eH (y.bn.map λb=>b.2.2.q)) (1+N*7)) M' ⟨_,_,?_,?_,?_,?_,⟨0,s7,p7,n7,c7,t7,y7,m7,d7,ae,aa,aa,aa,by rw[iD,uf];exact h13,hs⟩⟩ ?_
   ·exact lD
   ·exact lD
   ·rfl
   ·exact AZ
   rintro m L M wJ ⟨z,s9,p9,n9,c9,t9,y9,m9,d9,hz,rfl,rfl,rfl,hs9,Nd⟩;refine VS.now (λwX kX bX=> ?_);replace hs9:=hs9.kp (aK.dN kX);replace Nd:=Nd.kp (aK.dN kX);refine ag ?_;refine VO.read aa [.slice p4 M' c4] aa (aX (h9'.cell (j:=0) aa)) (wV aa ?_);refine ag ?_;by_cases hlt:z<M'
   ·obtain⟨x,yu⟩:∃ x,t[z]? =some x:=⟨_,aH ae⟩;obtain⟨bb,ob,csb,Iz,Bu,⟨rv,rfl,hrv⟩⟩:=hTt.at yu;subst Iz;obtain⟨pr,cr,rfl,hrc,hrc2⟩:=hrv.form;have fv:=htr x (dc yu);refine VS.bB aa (aU (aW.2 hlt)) ?_;refine ag ?_;refine VO.read aa [.slice (some ⟨bb,ob,none⟩) M' c4] aa (aX (h9'.cell (j:=0) aa)) (wV aa ?_);refine ag ?_;refine VO.cond aa fb ?_;refine wV aa ?_;refine ag ?_;refine VO.read aa [.slice pr x.length cr] aa (fK Bu) (wV aa ?_);refine ag ?_;have hst:iL 281 x.length<=5999:=aV (Da fv) cW;refine VO.call aa aa (fk Tryz.func39) (λxT zZ JO=>(tG _ x 281 xT (bK.rtot (hrv.aA (Ai 281) JO)) ae).mono ?_);rintro e w10 ⟨r10,rfl,q10,z10,Bo⟩;obtain⟨s10,p10,n10,c10,t10,y10,m10,d10,rfl⟩:=q10.form;refine dB Bo ?_;intro kY _ Qm;refine VO.cR aa aa (fk Tryz.func38) (λwu Aa Hf=>tD _ _ _ _ _ _ wu (hs9.kp (T:=λ_=>false) dA) (q10.ki z10) ae ae) (λwu Aa Hf w11 s11 p11 n11 c11 t11 y11 m11 d11 q11 Eo pZ _ Qn=>wV aa ?_);refine ag ?_
    have Qk:eH ((t.take (z+1)).map eH)=eH ((t.take z).map eH)+eH x:=by
     rw[fj yu,aF,rH]
     congr 1
     show eH [_]=_;rw[et];exact sH _
    refine VS.back (M' -(z+1)) ae ⟨_,_,?_,?_,?_,?_,⟨z+1,s11,p11,n11,c11,t11,y11,m11,d11,ae,aa,aa,aa,?_,?_⟩⟩
    ·refine⟨aa,aa,aa,aa,aa,aa,aa,aa,?_,aj⟩;rw[<-bl (i:=z) ae];rfl
    ·exact lD
    ·rfl
    ·exact AZ
    ·rw[Qk];exact q11.ki (((hs9.sz ae).add z10).mono ae)
    ·exact Nd.kp (T:=λ_=>false) dA
   refine VS.bC aa (aR (λe=>hlt (aW.1 e))) ?_;obtain rfl:M'=z:=ae;rw[cO ae] at hs9
   have Ig:eH (t.map eH)=eH (y.bn.map λb=>b.2.2.q):=by
    have:=tot_all (hR2.symm.trans hT);rw[oz] at this;exact this
   rw[Ig] at hs9;clear hlt
   (repeat (first|refine wN ?_|refine wP aa ?_|refine wO aa aa ?_))
   refine VS.jZ (λw=>sD Tryz.prog w 195) (λ_=>aa) (λ_=>aa) (λ_=>ax.refl _) (λwD β k2 b2 en=> ?_);have hCD:ax wC wD:=b2;have hBD:ax w wD:=hBC.aG hCD;have hs12:=Nd.kp (T:=λ_=>false) (show aK _ wX wD from dA);have hs13:=hs9.kp (T:=λ_=>false) (show aK _ wX wD from dA);have h12D:aQ wD (β 12) 27 #[.bool s,.slice p n c,.bool tt,.slice yy mm d]:=(en.own 12 _ _ aa).cls;have h13D:aQ wD (β 13) 27 #[.bool s9,.slice p9 n9 c9,.bool t9,.slice y9 m9 d9]:=(en.own 13 _ _ aa).cls;have h4D:=h4C.aA hCD;have h7D:=h7C.aA hCD;have h9D:=h9.aA hCD;have hTD:=hT4.aA hCD;refine⟨[(1,.val (.int .i64 (Y:Int))),(2,.val (.int .i64 i)),(4,.val (.pointer (some ⟨g4,0,none⟩))),(7,.val (.pointer (some ⟨g7,0,none⟩))),(9,.val (.pointer (some ⟨g9,0,none⟩))),(11,.val (.slice pb N cb)),(12,.val (.pointer (some ⟨β 12,0,none⟩))),(13,.val (.pointer (some ⟨β 13,0,none⟩)))],⟨⟨_,_,aa,aa,aa⟩,⟨_,_,aa,aa,aa⟩,⟨_,_,aa,aa,aa⟩,⟨_,_,aa,aa,aa⟩,⟨_,_,aa,aa,aa⟩,⟨_,_,aa,aa,aa⟩,⟨_,_,aa,aa,aa⟩,⟨_,_,aa,aa,aa⟩,aj⟩,?_⟩;generalize β 12=g12 at h12D ⊢;generalize β 13=g13 at h13D ⊢;clear en Nd hs9;refine dy ?_;refine VO.read aa [.string f.name,.string f.parent,.slice pB nB cB,.bool sT,.slice pT nT cT,.bool tT,.slice yT mT dT,.bool sC,.slice pC nC cC,.bool tC,.slice yC mC dC,.int .i64 f.bk,.int .i64 f.fw,.bool sI,.slice pI nI cI,.bool tI,.slice yI mI dI,.bool sF,.slice pF nF cF,.bool tF,.slice yF mF dF,.int .i64 f.kp,.slice pc Nc cc,.slice pe Ne ce,.slice (some ⟨Bx,Bz,none⟩) Ny cy] aa (ij (cs:=[.string f.name,.string f.parent,.slice pB nB cB,.bool sT,.slice pT nT cT,.bool tT,.slice yT mT dT,.bool sC,.slice pC nC cC,.bool tC,.slice yC mC dC,.int .i64 f.bk,.int .i64 f.fw,.bool sI,.slice pI nI cI,.bool tI,.slice yI mI dI,.bool sF,.slice pF nF cF,.bool tF,.slice yF mF dF,.int .i64 f.kp,.slice pc Nc cc,.slice pe Ne ce,.slice (some ⟨Bx,Bz,none⟩) Ny cy]) h4D 0 _ ⟨[],aa⟩) (wV aa ?_);refine dy ?_;refine VO.call aa aa (fk Tryz.func40) (λuR Bp Hg=>(Iu _ f 6 uR (hv6.aA (hBD.aG Hg)) hS ae).mono ?_);rintro o w12 ⟨r12,rfl,q12,Bq⟩;have hq12:=q12;obtain⟨pB',nB',cB',sT',pT',nT',cT',tT',yT',mT',dT',sC',pC',nC',cC',tC',yC',mC',dC',sI',pI',nI',cI',tI',yI',mI',dI',sF',pF',nF',cF',tF',yF',mF',dF',pc',Nc',cc',pe',Ne',ce',py',Ny',cy',rfl,cp1,cp2,cp3,cp4,cp5,cp6,cp7,us,yr1,yr2,yr3⟩:=hq12;refine⟨_,aa,Bq,λtz _ Qo=>wV aa ?_⟩
   (repeat (first|refine wN ?_|refine wP aa ?_|refine wO aa aa ?_))
   refine VS.jZ (λw=>aY Tryz.prog w 195) (λ_=>aa) (λ_=>aa) (λ_=>ax.refl _) (λwE β k3 b3 en=> ?_);have hDE:ax wD wE:=b3;have RX:ax w wE:=hBD.aG hDE;have kTE:lT fu w12 wE:=by exact dA
   have hCE:=q12.kp kTE (λt h=>h);have yr1E:=yr1.kp (nO 6) kTE aa;have yr3E:∀ (i:Nat) (cs:List Value) (y:ve),us[i]? =some cs->f.jn[i]? =some y->IG 6 uR.heap.size wE cs y:=λi cs y hi hy=>(yr3 i cs y hi hy).kp kTE aa aa aa aa aa;have h16:aQ wE (β 16) 32 #[.string f.name,.string f.parent,.slice pB' nB' cB',.bool sT',.slice pT' nT' cT',.bool tT',.slice yT' mT' dT',.bool sC',.slice pC' nC' cC',.bool tC',.slice yC' mC' dC',.int .i64 f.bk,.int .i64 f.fw,.bool sI',.slice pI' nI' cI',.bool tI',.slice yI' mI' dI',.bool sF',.slice pF' nF' cF',.bool tF',.slice yF' mF' dF',.int .i64 f.kp,.slice pc' Nc' cc',.slice pe' Ne' ce',.slice py' Ny' cy']:=(en.own 16 _ _ aa).cls;have hg16:wD.heap.size<=β 16:=(en.own 16 _ _ aa).new;refine⟨[(1,.val (.int .i64 (Y:Int))),(2,.val (.int .i64 i)),(4,.val (.pointer (some ⟨g4,0,none⟩))),(7,.val (.pointer (some ⟨g7,0,none⟩))),(9,.val (.pointer (some ⟨g9,0,none⟩))),(11,.val (.slice pb N cb)),(12,.val (.pointer (some ⟨g12,0,none⟩))),(13,.val (.pointer (some ⟨g13,0,none⟩))),(16,.val (.pointer (some ⟨β 16,0,none⟩)))],⟨⟨_,_,aa,aa,aa⟩,⟨_,_,aa,aa,aa⟩,⟨_,_,aa,aa,aa⟩,⟨_,_,aa,aa,aa⟩,⟨_,_,aa,aa,aa⟩,⟨_,_,aa,aa,aa⟩,⟨_,_,aa,aa,aa⟩,⟨_,_,aa,aa,aa⟩,⟨_,_,aa,aa,aa⟩,aj⟩,?_⟩;generalize β 16=g16 at h16 hg16 ⊢;clear en;have h4E:=h4D.aA hDE;have hNy':Ny'=us.length:=by obtain⟨_,_,e⟩:=yr1E.form;cases e;rfl
   refine ag ?_;refine VO.read aa [.slice py' Ny' cy'] aa (aX (h16.cell (j:=24) aa)) (wV aa ?_);refine ag ?_;refine VO.read aa [.slice (some ⟨Bx,Bz,none⟩) Ny cy] aa (aX (h4E.cell (j:=24) aa)) (wV aa ?_);refine ag ?_;refine VS.bC aa (bne_n ae) ?_;obtain⟨cs6,hcs6⟩:∃ x,us[Y]? =some x:=⟨_,aH (by have:=(bd.1 hy).1;omega)⟩;obtain⟨b8,o8,cs8,hp8,hc8,⟨rfl,hl8,-⟩⟩:=(yr1E.sl (nO 6)).at hcs6;subst hp8;have hYC:=yr3E Y cs8 y hcs6 hy;obtain⟨zh,zb,zd,zs,zq,rfl,z1,z2,z3,z4,z5⟩:=hYC;obtain⟨ph1,ch1,rfl⟩:=z1.form;obtain⟨ph2,ch2,rfl⟩:=z2.form;obtain⟨ph3,ch3,rfl⟩:=z3.form;obtain⟨ph4,ch4,rfl⟩:=z4.form;obtain⟨ph5,ch5,rfl⟩:=z5.form;refine ag ?_;refine VO.read aa [.slice (some ⟨b8,o8,none⟩) Ny' cy'] aa (aX (h16.cell (j:=24) aa)) (wV aa ?_);refine ag ?_;refine VO.cond aa fb ?_;refine wV aa ?_;refine ag ?_;refine VO.read aa [.int .i64 y.num,.slice ph1 y.holds.length ch1,.slice ph2 y.bn.length ch2,.slice ph3 y.dE.length ch3,.slice ph4 y.di.length ch4,.slice ph5 y.ft.length ch5] aa (bf hc8 0 _ ⟨[],aa⟩) (wV aa ?_);refine ag ?_
   obtain⟨I,hI⟩:∃ I:Nat,∀ k:Nat,k<N->((k:Int)=Dq i (N:Int)↔k=I):=by
    by_cases h:0<=Dq i (N:Int)
    ·exact⟨(Dq i (N:Int)).toNat,λk _=>ae⟩
    ·exact⟨N,λk _=>ae⟩
   have h7E:=h7D.aA hDE
   refine VS.fL (J:=λm L W=>∃ (d:Nat) (v:Value) (kz:Int) (g17:Nat) (es:List lg),d<=N/\m=N-d/\kz=(N:Int)-1-(d:Int)/\L=[(1,.int .i64 (Y:Int)),(2,.int .i64 i),(4,.pointer (some ⟨g4,0,none⟩)),(7,.pointer (some ⟨g7,0,none⟩)),(9,.pointer (some ⟨g9,0,none⟩)),(11,.slice pb N cb),(12,.pointer (some ⟨g12,0,none⟩)),(13,.pointer (some ⟨g13,0,none⟩)),(16,.pointer (some ⟨g16,0,none⟩)),(17,.pointer (some ⟨g17,0,none⟩)),(18,v),(19,.int .i64 kz)]/\ax wE W/\wE.heap.size<=g17/\aQ W g17 99 #[.int .i64 y.num,.slice ph1 y.holds.length ch1,.slice ph2 y.bn.length ch2,.slice ph3 y.dE.length ch3,.slice ph4 y.di.length ch4,.slice ph5 y.ft.length ch5]/\ay (dR 11) 6 103 wE.heap.size W v es/\es=vt y.bn I x0 d/\es.length<=2*d)
    (λW=>aY Tryz.prog W 195) (λ_=>rfl) (λ_=>rfl) (λ_=>ax.refl _) N (λw' bM k' o' en=>⟨[(1,.int .i64 (Y:Int)),(2,.int .i64 i),(4,.pointer (some ⟨g4,0,none⟩)),(7,.pointer (some ⟨g7,0,none⟩)),(9,.pointer (some ⟨g9,0,none⟩)),(11,.slice pb N cb),(12,.pointer (some ⟨g12,0,none⟩)),(13,.pointer (some ⟨g13,0,none⟩)),(16,.pointer (some ⟨g16,0,none⟩)),(17,.pointer (some ⟨bM 17,0,none⟩)),(18,.slice none 0 0),(19,.int .i64 ((N:Int)-1))],⟨⟨_,_,rfl,rfl,rfl⟩,⟨_,_,rfl,rfl,rfl⟩,⟨_,_,rfl,rfl,rfl⟩,⟨_,_,rfl,rfl,rfl⟩,⟨_,_,rfl,rfl,rfl⟩,⟨_,_,rfl,rfl,rfl⟩,⟨_,_,rfl,rfl,rfl⟩,⟨_,_,rfl,rfl,rfl⟩,⟨_,_,rfl,rfl,rfl⟩,⟨_,_,rfl,rfl,rfl⟩,⟨_,_,rfl,rfl,rfl⟩,⟨_,_,rfl,au (λz=>Value.int .i64 z) (bQ _ ae),rfl⟩,aj⟩,0,.slice none 0 0,_,bM 17,[],ae,rfl,ae,rfl,o',(en.own 17 _ _ rfl).new,(en.own 17 _ _ rfl).cls,.inl ⟨rfl,rfl⟩,rfl,cf⟩) ?_
   rintro m L W ⟨dz,v,kz,g17,es,hd,rfl,hkz,rfl,il,Mf,ES,bD,hes,ik⟩;refine ag ?_;by_cases hlt:dz<N
   ·obtain⟨K,rfl⟩:=qG (show 0<=kz by omega);obtain⟨x,CX⟩:∃ x,y.bn[K]? =some x:=⟨_,aH ae⟩;have hKd:K=y.bn.length-1-dz:=ae;obtain⟨bb,ob,csb,rfl,Bu,⟨s1,p1,n1,c1,t1,yb1,m1,d1,rfl,qi⟩⟩:=ye.at CX;have hBEW:=RX.aG il;have hxW:cP 11 W [.bool x0.s,.slice px x0.xs.length cx,.bool x0.t,.slice yx x0.ys.length dx] x0:=cP.mk (sx.kp (Kp.of (U:=UU) hBEW)) ae ae;have heW:cP 11 W [.bool s1,.slice p1 n1 c1,.bool t1,.slice yb1 m1 d1] x.2.2:=(qi.up ae).kp (Kp.of (U:=UU) hBEW);have hz6:=qi.raw.2;have MN:lR (x.2.2.q-x0.q) 11:=((heW.inK hz6.1 hz6.2).sz ae).sub ((hxW.inK hs4 hs5).sz ae);refine VS.bB aa (aU (show (K:Int)>=0 by omega)) ?_;refine ag ?_;refine VO.cB aa aa (fk Tryz.func41) (λAb Ac Ep=>RV i (N:Int) Ab ae) (λAb Ac Ep w14 JP Er _ Qq=>wV aa ?_);refine ag ?_;have hBW0:=il;by_cases hIK:(K:Int)=Dq i (N:Int)
    ·refine VS.bB aa (LM hIK) ?_;replace hIK:K=I:=(hI K ae).1 hIK;rcases bD with ⟨rfl,dZ⟩|⟨b0,c0,vs,sp,rfl,RY,cZ,dS,eO,hle,fc,gR⟩
     ·refine ag ?_;refine VO.cond aa fb ?_;refine wV aa ?_;refine ag ?_;refine VO.read aa [.string x.1] aa (λj u hj=>(RX.aG il).cell (bf Bu 0 _ ⟨_,aa⟩ j u hj)) (wV aa ?_);refine ag ?_;refine VO.cond aa fb ?_;refine wV aa ?_;refine ag ?_;refine VO.read aa [.string x.2.1] aa (λj u hj=>(RX.aG il).cell (bf Bu 1 _ ⟨_,aa⟩ j u hj)) (wV aa ?_);refine ag ?_;refine VO.read aa [.bool x0.s,.slice px x0.xs.length cx,.bool x0.t,.slice yx x0.ys.length dx] aa (ij (cs:=[.bool x0.s,.slice px x0.xs.length cx,.bool x0.t,.slice yx x0.ys.length dx]) (h7E.aA il) 0 _ ⟨[],aa⟩) (wV aa ?_);refine ag ?_;refine VO.Dc (bU _ _) (dR.el 11) (t:=94) (e:=103) (s:=136) (a:=(x.1,x.2.1,x0)) (cs:=[.string x.1,.string x.2.1,.bool x0.s,.slice px x0.xs.length cx,.bool x0.t,.slice yx x0.ys.length dx]) aa aa aa aa aa aa aa aa (cG aa) aa aa aa ⟨_,_,_,_,_,_,_,_,aa,(hxW.kp (show Kp UU W _ from aK.dN (show aK (aY Tryz.prog W 195).K W _ from dA)))⟩ ae (λiA cap13 sp13 vC qE hN13=>wV aa ?_);refine ag ?_;refine VO.cond aa fb ?_;refine wV aa ?_;refine ag ?_;refine VO.read aa [.string x.1] aa (λj u hj=>(RX.aG il).cell (bf Bu 0 _ ⟨_,aa⟩ j u hj)) (wV aa ?_);refine ag ?_;refine VO.cond aa fb ?_;refine wV aa ?_;refine ag ?_;refine VO.read aa [.string x.2.1] aa (λj u hj=>(RX.aG il).cell (bf Bu 1 _ ⟨_,aa⟩ j u hj)) (wV aa ?_);refine ag ?_;refine VO.cond aa fb ?_;refine wV aa ?_;refine ag ?_;refine VO.read aa [.bool s1,.slice p1 n1 c1,.bool t1,.slice yb1 m1 d1] aa (λj u hj=>(RX.aG il).cell (bf Bu 2 _ ⟨[],aa⟩ j u hj)) (wV aa ?_);refine ag ?_;refine VO.read aa [.bool x0.s,.slice px x0.xs.length cx,.bool x0.t,.slice yx x0.ys.length dx] aa (ij (cs:=[.bool x0.s,.slice px x0.xs.length cx,.bool x0.t,.slice yx x0.ys.length dx]) (h7E.aA il) 0 _ ⟨[],aa⟩) (wV aa ?_);refine ag ?_;refine VO.call aa aa (fk Tryz.func42) (λoX Ad Et=>(Ae _ _ _ _ _ _ oX ((heW.kp (show Kp UU W oX from aK.dN (show aK (aY Tryz.prog W 195).K W oX from dA))).inK hz6.1 hz6.2) ((hxW.kp (show Kp UU W oX from aK.dN (show aK (aY Tryz.prog W 195).K W oX from dA))).inK hs4 hs5) ae ae).mono ?_);rintro o w14 ⟨r14,rfl,q14,JP⟩;obtain⟨s14,p14,n14,c14,t14,y14,m14,d14,rfl⟩:=q14.form;refine dB JP ?_;intro Er _ Qq;refine VO.xF (bU _ _) (dR.el 11) (t:=94) (e:=103) (s:=157) (i:=137) (a:=(x.1,x.2.1,Rw.of (x.2.2.q-x0.q))) (cs:=[.string x.1,.string x.2.1,.bool s14,.slice p14 n14 c14,.bool t14,.slice y14 m14 d14]) aa aa aa aa aa aa aa aa (cG aa) aa (.inl aa) aa (hN13.kp (dR.el 11) (show Kp UU iA _ from aK.dN (show aK (aY Tryz.prog W 195).K iA _ from dA))) aa ⟨_,_,_,_,_,_,_,_,aa,cP.of (q14.rd.kp (show Kp UU w14 _ from aK.dN (show aK (aY Tryz.prog W 195).K w14 _ from dA))) MN⟩ ae (λLL mN KD ρ15 k15 b15 hρ15 KE=>wV aa ?_);refine ag ?_;refine VS.eK aa (N-(dz+1)) ae (λw' bM k' o' kc=> ?_);have hst:fp (dR 11) 6 103 158 (.row 158 0 (1+1) mN) [(158,(103,_))] LL ([(x.1,x.2.1,x0)]++[(x.1,x.2.1,Rw.of (x.2.2.q-x0.q))]):=.inr ⟨_,mN,_,KD,aa,aa,KE⟩;have eW:=hst.told (dR.el 11) kc (λx hx=>by cases ak.1 hx;rfl) (aK.dN (show aK (aY Tryz.prog W 195).K LL w' from k')) wE.heap.size (λh=>aV il.size h);exact⟨[(1,.int .i64 (Y:Int)),(2,.int .i64 i),(4,.pointer (some ⟨g4,0,none⟩)),(7,.pointer (some ⟨g7,0,none⟩)),(9,.pointer (some ⟨g9,0,none⟩)),(11,.slice (some ⟨bb,ob,none⟩) N cb),(12,.pointer (some ⟨g12,0,none⟩)),(13,.pointer (some ⟨g13,0,none⟩)),(16,.pointer (some ⟨g16,0,none⟩)),(17,.pointer (some ⟨g17,0,none⟩)),(18,.slice (some ⟨bM 158,0,none⟩) (1+1) mN),(19,.int .i64 ((K:Int)-1))],⟨⟨_,_,aa,aa,aa⟩,⟨_,_,aa,aa,aa⟩,⟨_,_,aa,aa,aa⟩,⟨_,_,aa,aa,aa⟩,⟨_,_,aa,aa,aa⟩,⟨_,_,aa,aa,aa⟩,⟨_,_,aa,aa,aa⟩,⟨_,_,aa,aa,aa⟩,⟨_,_,aa,aa,aa⟩,⟨_,_,aa,aa,aa⟩,⟨_,_,aa,aa,aa⟩,⟨_,_,aa,au (λz=>Value.int .i64 z) (bQ _ ae),aa⟩,aj⟩,dz+1,_,_,g17,_,ae,aa,ae,aa,il.aG (show ax W w' from o'),Mf,ES.aA (show ax W w' from o'),eW,by rw[sm,<-hKd,<-hes,RW CX hIK,dZ] <;> first|rfl|simp,by simp only[List.length_append,List.length_cons,List.length_nil];omega⟩
     ·refine VS.cK dp (λt=>Nat.beq t 23) table (λ_ _ _=>trivial) (λbI nA k1 ic qF=> ?_);have aB:ax W bI:=ic;have qg:=il.size;have ig:=aB.size;have hclb:=cZ.aA aB
      have eh:dv dp 195 [b0] [(103,vs.flatten.map .val++sp.map .val)] bI:=by
       refine⟨aa,cf,λj g' c' hj hc=> ?_,λc' hc=> ?_,λc' hc k hk=> ?_⟩
       ·match j,hj,hc with
        | 0,hj,hc=>cases hj;cases hc;rw[<-aF,az];exact hclb
        | j+1,hj,_=>simp at hj
       ·cases ak.1 hc;exact⟨aa,by rw[<-aF];exact aL (by rw[dK,(dS.ok (dR.el 11)).1,eO];rfl)⟩
       ·cases ak.1 hc;rw[<-aF,ah] at hk;cases hk
      have sA:fO (dR 11) 6 bI es.length c0 vs (sp.map .val) es:=⟨aa,dS.kp (dR.el 11) (Kp.of (U:=UU) aB),aL eO,ah _,hle,fc,by rw[<-aF,aM];exact gR⟩;have hn7:g7≠b0:=λh=>by have a:=h7E.aA il;rw[h] at a;exact absurd (bL a cZ) cW
      have hn17:g17≠b0:=λh=>by rw[h] at ES;exact absurd (bL ES cZ) cW
      have hatc:∀ {b off:Nat} {cs:List Value},(∀ (j:Nat) (u:Value),cs[j]? =some u->bI.cell? ((⟨b,off,none⟩:Addr).add j)=some u)->b≠b0->∀ (j:Nat) (u:Value),cs[j]? =some u->Cx.At (jK Tryz.prog bI 195 [b0] eh.nodup eh.ad) ((⟨b,off,none⟩:Addr).add j) u:=λh hn j u hj=>cD (by rw[Addr.add_mid];exact hn) (h j u hj)
      have gA:∀ {b off:Nat} {cs:List Value},(∀ (j:Nat) (u:Value),cs[j]? =some u->w.cell? ((⟨b,off,none⟩:Addr).add j)=some u)->∀ (j:Nat) (u:Value),cs[j]? =some u->Cx.At (jK Tryz.prog bI 195 [b0] eh.nodup eh.ad) ((⟨b,off,none⟩:Addr).add j) u:=λh j u hj=>cD (λhm=>by
       have:=gP w _ (h j u hj);have h2:=RX.size;omega) ((RX.aG (il.aG aB)).cell (h j u hj))
      refine⟨[b0],[(103,vs.flatten.map .val++sp.map .val)],eh,[(1,.val (.int .i64 (Y:Int))),(2,.val (.int .i64 i)),(4,.val (.pointer (some ⟨g4,0,none⟩))),(7,.val (.pointer (some ⟨g7,0,none⟩))),(9,.val (.pointer (some ⟨g9,0,none⟩))),(11,.val (.slice (some ⟨bb,ob,none⟩) N cb)),(12,.val (.pointer (some ⟨g12,0,none⟩))),(13,.val (.pointer (some ⟨g13,0,none⟩))),(16,.val (.pointer (some ⟨g16,0,none⟩))),(17,.val (.pointer (some ⟨g17,0,none⟩))),(18,.row 390 0 es.length c0),(19,.val (.int .i64 (K:Int)))],⟨⟨_,aa,aa,λi hi=>(by cases hi)⟩,⟨_,aa,aa,λi hi=>(by cases hi)⟩,⟨_,aa,aa,λi hi=>(by cases hi)⟩,⟨_,aa,aa,λi hi=>(by cases hi)⟩,⟨_,aa,aa,λi hi=>(by cases hi)⟩,⟨_,aa,aa,λi hi=>(by cases hi)⟩,⟨_,aa,aa,λi hi=>(by cases hi)⟩,⟨_,aa,aa,λi hi=>(by cases hi)⟩,⟨_,aa,aa,λi hi=>(by cases hi)⟩,⟨_,aa,aa,λi hi=>(by cases hi)⟩,⟨_,aa,aa,λi hi=>by rw[(by simpa [AV.ids] using hi:i=390)];exact⟨(by show 390<=390;omega),(by show 390<2*195+1;omega)⟩⟩,⟨_,aa,aa,λi hi=>(by cases hi)⟩,aj⟩,?_⟩;refine aq ?_;refine VO.cond aa fb ?_;refine wV aa ?_;refine aq ?_;refine VO.bJ aa [.string x.1] aa (gA (bf Bu 0 _ ⟨_,aa⟩)) (wV aa ?_);refine aq ?_;refine VO.cond aa fb ?_;refine wV aa ?_;refine aq ?_;refine VO.bJ aa [.string x.2.1] aa (gA (bf Bu 1 _ ⟨_,aa⟩)) (wV aa ?_);refine aq ?_;refine VO.bJ aa [.bool x0.s,.slice px x0.xs.length cx,.bool x0.t,.slice yx x0.ys.length dx] aa (hatc (ij (cs:=[.bool x0.s,.slice px x0.xs.length cx,.bool x0.t,.slice yx x0.ys.length dx]) (h7E.aA (il.aG aB)) 0 _ ⟨[],aa⟩) hn7) (wV aa ?_);refine aq ?_;refine VO.xF (cM _ _) (dR.el 11) (t:=94) (e:=103) (s:=136) (i:=390) (a:=(x.1,x.2.1,x0)) (cs:=[.string x.1,.string x.2.1,.bool x0.s,.slice px x0.xs.length cx,.bool x0.t,.slice yx x0.ys.length dx]) aa aa aa aa aa aa aa aa (cG aa) aa (.inl aa) aa (sA.kp (dR.el 11) (show Kp UU bI _ from aK.dN (show aK dp bI _ from dA))) aa ⟨_,_,_,_,_,_,_,_,aa,((hxW.kp (Kp.of (U:=UU) aB)).kp (show Kp UU bI _ from aK.dN (show aK dp bI _ from dA)))⟩ ae (λiA cap13 sp13 ρ13 vC qE hρ13 hN13=>wV aa ?_);refine aq ?_;refine VO.cond aa fb ?_;refine wV aa ?_;refine aq ?_;refine VO.bJ aa [.string x.1] aa (gA (bf Bu 0 _ ⟨_,aa⟩)) (wV aa ?_);refine aq ?_;refine VO.cond aa fb ?_;refine wV aa ?_;refine aq ?_;refine VO.bJ aa [.string x.2.1] aa (gA (bf Bu 1 _ ⟨_,aa⟩)) (wV aa ?_);refine aq ?_;refine VO.cond aa fb ?_;refine wV aa ?_;refine aq ?_;refine VO.bJ aa [.bool s1,.slice p1 n1 c1,.bool t1,.slice yb1 m1 d1] aa (gA (bf Bu 2 _ ⟨[],aa⟩)) (wV aa ?_);refine aq ?_;refine VO.bJ aa [.bool x0.s,.slice px x0.xs.length cx,.bool x0.t,.slice yx x0.ys.length dx] aa (hatc (ij (cs:=[.bool x0.s,.slice px x0.xs.length cx,.bool x0.t,.slice yx x0.ys.length dx]) (h7E.aA (il.aG aB)) 0 _ ⟨[],aa⟩) hn7) (wV aa ?_);refine aq ?_;refine VO.call aa aa (fk Tryz.func42) (λoX Ad Et=>(Ae _ _ _ _ _ _ oX (((heW.kp (Kp.of (U:=UU) aB)).kp (show Kp UU bI oX from aK.dN (show aK dp bI oX from dA))).inK hz6.1 hz6.2) (((hxW.kp (Kp.of (U:=UU) aB)).kp (show Kp UU bI oX from aK.dN (show aK dp bI oX from dA))).inK hs4 hs5) ae ae).mono ?_);rintro o w14 ⟨r14,rfl,q14,JP⟩;obtain⟨s14,p14,n14,c14,t14,y14,m14,d14,rfl⟩:=q14.form;refine oe JP ?_;intro Er _ Qq;refine VO.xF (cM _ _) (dR.el 11) (t:=94) (e:=103) (s:=157) (i:=137) (a:=(x.1,x.2.1,Rw.of (x.2.2.q-x0.q))) (cs:=[.string x.1,.string x.2.1,.bool s14,.slice p14 n14 c14,.bool t14,.slice y14 m14 d14]) aa aa aa aa aa aa aa aa (cG aa) aa (.inl aa) aa (hN13.kp (dR.el 11) (show Kp UU iA _ from aK.dN (show aK dp iA _ from dA))) aa ⟨_,_,_,_,_,_,_,_,aa,cP.of (q14.rd.kp (show Kp UU w14 _ from aK.dN (show aK dp w14 _ from dA))) MN⟩ ae (λLL mN KD ρ15 k15 b15 hρ15 KE=>wV aa ?_);refine aq ?_;refine VS.eK aa (N-(dz+1)) ae (λw' bM k' o' kc=> ?_);have hst:fp (dR 11) 6 103 158 (.row 158 0 (es.length+1+1) mN) [(158,(103,_))] LL (es++[(x.1,x.2.1,x0)]++[(x.1,x.2.1,Rw.of (x.2.2.q-x0.q))]):=.inr ⟨_,mN,_,KD,aa,aa,KE⟩;have eW:=hst.told (dR.el 11) kc (λx hx=>by cases ak.1 hx;rfl) (aK.dN (show aK dp LL w' from k')) wE.heap.size (λh=>(cH (show fF 195 [b0] bI 158 (bM 158) from h)).elim (λq=>aV qg (aV ig q)) (λq=>by rw[ak.1 q];exact RY));exact⟨[(1,.int .i64 (Y:Int)),(2,.int .i64 i),(4,.pointer (some ⟨g4,0,none⟩)),(7,.pointer (some ⟨g7,0,none⟩)),(9,.pointer (some ⟨g9,0,none⟩)),(11,.slice (some ⟨bb,ob,none⟩) N cb),(12,.pointer (some ⟨g12,0,none⟩)),(13,.pointer (some ⟨g13,0,none⟩)),(16,.pointer (some ⟨g16,0,none⟩)),(17,.pointer (some ⟨g17,0,none⟩)),(18,.slice (some ⟨bM 158,0,none⟩) (es.length+1+1) mN),(19,.int .i64 ((K:Int)-1))],⟨⟨_,_,aa,aa,aa⟩,⟨_,_,aa,aa,aa⟩,⟨_,_,aa,aa,aa⟩,⟨_,_,aa,aa,aa⟩,⟨_,_,aa,aa,aa⟩,⟨_,_,aa,aa,aa⟩,⟨_,_,aa,aa,aa⟩,⟨_,_,aa,aa,aa⟩,⟨_,_,aa,aa,aa⟩,⟨_,_,aa,aa,aa⟩,⟨_,_,aa,aa,aa⟩,⟨_,_,aa,au (λz=>Value.int .i64 z) (bQ _ ae),aa⟩,aj⟩,dz+1,_,_,g17,_,ae,aa,ae,aa,dP.aA (il.aG aB) o'.1 (λx hx=>by rw[ak.1 hx];exact RY),Mf,(ES.aA aB).but o'.1 (by simp[hn17]),eW,by rw[sm,<-hKd,<-hes,RW CX hIK] <;> first|rfl|simp,by simp only[List.length_append,List.length_cons,List.length_nil];omega⟩
    ·refine VS.bC aa (beq_n hIK) ?_;replace hIK:K≠I:=λe=>hIK ((hI K ae).2 e);rcases bD with ⟨rfl,dZ⟩|⟨b0,c0,vs,sp,rfl,RY,cZ,dS,eO,hle,fc,gR⟩
     ·refine ag ?_;refine VO.cond aa fb ?_;refine wV aa ?_;refine ag ?_;refine VO.read aa [.string x.1,.string x.2.1,.bool s1,.slice p1 n1 c1,.bool t1,.slice yb1 m1 d1] aa (λj u hj=>(RX.aG il).cell (bf Bu 0 _ ⟨[],aa⟩ j u hj)) (wV aa ?_);refine ag ?_;refine VO.Dc (bU _ _) (dR.el 11) (t:=94) (e:=103) (s:=164) (a:=x) (cs:=[.string x.1,.string x.2.1,.bool s1,.slice p1 n1 c1,.bool t1,.slice yb1 m1 d1]) aa aa aa aa aa aa aa aa (cG aa) aa aa aa ⟨_,_,_,_,_,_,_,_,aa,(heW.kp (show Kp UU W _ from aK.dN (show aK (aY Tryz.prog W 195).K W _ from dA)))⟩ ae (λLL mN KD k15 b15 KE=>wV aa ?_);refine ag ?_;refine VS.eK aa (N-(dz+1)) ae (λw' bM k' o' kc=> ?_);have hst:fp (dR 11) 6 103 165 (.row 165 0 1 mN) [(165,(103,_))] LL ([x]):=.inr ⟨_,mN,_,KD,aa,aa,KE⟩;have eW:=hst.told (dR.el 11) kc (λx hx=>by cases ak.1 hx;rfl) (aK.dN (show aK (aY Tryz.prog W 195).K LL w' from k')) wE.heap.size (λh=>aV il.size h);exact⟨[(1,.int .i64 (Y:Int)),(2,.int .i64 i),(4,.pointer (some ⟨g4,0,none⟩)),(7,.pointer (some ⟨g7,0,none⟩)),(9,.pointer (some ⟨g9,0,none⟩)),(11,.slice (some ⟨bb,ob,none⟩) N cb),(12,.pointer (some ⟨g12,0,none⟩)),(13,.pointer (some ⟨g13,0,none⟩)),(16,.pointer (some ⟨g16,0,none⟩)),(17,.pointer (some ⟨g17,0,none⟩)),(18,.slice (some ⟨bM 165,0,none⟩) 1 mN),(19,.int .i64 ((K:Int)-1))],⟨⟨_,_,aa,aa,aa⟩,⟨_,_,aa,aa,aa⟩,⟨_,_,aa,aa,aa⟩,⟨_,_,aa,aa,aa⟩,⟨_,_,aa,aa,aa⟩,⟨_,_,aa,aa,aa⟩,⟨_,_,aa,aa,aa⟩,⟨_,_,aa,aa,aa⟩,⟨_,_,aa,aa,aa⟩,⟨_,_,aa,aa,aa⟩,⟨_,_,aa,aa,aa⟩,⟨_,_,aa,au (λz=>Value.int .i64 z) (bQ _ ae),aa⟩,aj⟩,dz+1,_,_,g17,_,ae,aa,ae,aa,il.aG (show ax W w' from o'),Mf,ES.aA (show ax W w' from o'),eW,by rw[sm,<-hKd,<-hes,gH_no CX hIK,dZ] <;> first|rfl|simp,by simp only[List.length_append,List.length_cons,List.length_nil];omega⟩
     ·refine VS.cK dp (λt=>Nat.beq t 23) table (λ_ _ _=>trivial) (λbI nA k1 ic qF=> ?_);have aB:ax W bI:=ic;have qg:=il.size;have ig:=aB.size;have hclb:=cZ.aA aB
      have eh:dv dp 195 [b0] [(103,vs.flatten.map .val++sp.map .val)] bI:=by
       refine⟨aa,cf,λj g' c' hj hc=> ?_,λc' hc=> ?_,λc' hc k hk=> ?_⟩
       ·match j,hj,hc with
        | 0,hj,hc=>cases hj;cases hc;rw[<-aF,az];exact hclb
        | j+1,hj,_=>simp at hj
       ·cases ak.1 hc;exact⟨aa,by rw[<-aF];exact aL (by rw[dK,(dS.ok (dR.el 11)).1,eO];rfl)⟩
       ·cases ak.1 hc;rw[<-aF,ah] at hk;cases hk
      have sA:fO (dR 11) 6 bI es.length c0 vs (sp.map .val) es:=⟨aa,dS.kp (dR.el 11) (Kp.of (U:=UU) aB),aL eO,ah _,hle,fc,by rw[<-aF,aM];exact gR⟩;have hn7:g7≠b0:=λh=>by have a:=h7E.aA il;rw[h] at a;exact absurd (bL a cZ) cW
      have hn17:g17≠b0:=λh=>by rw[h] at ES;exact absurd (bL ES cZ) cW
      have hatc:∀ {b off:Nat} {cs:List Value},(∀ (j:Nat) (u:Value),cs[j]? =some u->bI.cell? ((⟨b,off,none⟩:Addr).add j)=some u)->b≠b0->∀ (j:Nat) (u:Value),cs[j]? =some u->Cx.At (jK Tryz.prog bI 195 [b0] eh.nodup eh.ad) ((⟨b,off,none⟩:Addr).add j) u:=λh hn j u hj=>cD (by rw[Addr.add_mid];exact hn) (h j u hj)
      have gA:∀ {b off:Nat} {cs:List Value},(∀ (j:Nat) (u:Value),cs[j]? =some u->w.cell? ((⟨b,off,none⟩:Addr).add j)=some u)->∀ (j:Nat) (u:Value),cs[j]? =some u->Cx.At (jK Tryz.prog bI 195 [b0] eh.nodup eh.ad) ((⟨b,off,none⟩:Addr).add j) u:=λh j u hj=>cD (λhm=>by
       have:=gP w _ (h j u hj);have h2:=RX.size;omega) ((RX.aG (il.aG aB)).cell (h j u hj))
      refine⟨[b0],[(103,vs.flatten.map .val++sp.map .val)],eh,[(1,.val (.int .i64 (Y:Int))),(2,.val (.int .i64 i)),(4,.val (.pointer (some ⟨g4,0,none⟩))),(7,.val (.pointer (some ⟨g7,0,none⟩))),(9,.val (.pointer (some ⟨g9,0,none⟩))),(11,.val (.slice (some ⟨bb,ob,none⟩) N cb)),(12,.val (.pointer (some ⟨g12,0,none⟩))),(13,.val (.pointer (some ⟨g13,0,none⟩))),(16,.val (.pointer (some ⟨g16,0,none⟩))),(17,.val (.pointer (some ⟨g17,0,none⟩))),(18,.row 390 0 es.length c0),(19,.val (.int .i64 (K:Int)))],⟨⟨_,aa,aa,λi hi=>(by cases hi)⟩,⟨_,aa,aa,λi hi=>(by cases hi)⟩,⟨_,aa,aa,λi hi=>(by cases hi)⟩,⟨_,aa,aa,λi hi=>(by cases hi)⟩,⟨_,aa,aa,λi hi=>(by cases hi)⟩,⟨_,aa,aa,λi hi=>(by cases hi)⟩,⟨_,aa,aa,λi hi=>(by cases hi)⟩,⟨_,aa,aa,λi hi=>(by cases hi)⟩,⟨_,aa,aa,λi hi=>(by cases hi)⟩,⟨_,aa,aa,λi hi=>(by cases hi)⟩,⟨_,aa,aa,λi hi=>by rw[(by simpa [AV.ids] using hi:i=390)];exact⟨(by show 390<=390;omega),(by show 390<2*195+1;omega)⟩⟩,⟨_,aa,aa,λi hi=>(by cases hi)⟩,aj⟩,?_⟩;refine aq ?_;refine VO.cond aa fb ?_;refine wV aa ?_;refine aq ?_;refine VO.bJ aa [.string x.1,.string x.2.1,.bool s1,.slice p1 n1 c1,.bool t1,.slice yb1 m1 d1] aa (gA (bf Bu 0 _ ⟨[],aa⟩)) (wV aa ?_);refine aq ?_;refine VO.xF (cM _ _) (dR.el 11) (t:=94) (e:=103) (s:=164) (i:=390) (a:=x) (cs:=[.string x.1,.string x.2.1,.bool s1,.slice p1 n1 c1,.bool t1,.slice yb1 m1 d1]) aa aa aa aa aa aa aa aa (cG aa) aa (.inl aa) aa (sA.kp (dR.el 11) (show Kp UU bI _ from aK.dN (show aK dp bI _ from dA))) aa ⟨_,_,_,_,_,_,_,_,aa,((heW.kp (Kp.of (U:=UU) aB)).kp (show Kp UU bI _ from aK.dN (show aK dp bI _ from dA)))⟩ ae (λLL mN KD ρ15 k15 b15 hρ15 KE=>wV aa ?_);refine aq ?_;refine VS.eK aa (N-(dz+1)) ae (λw' bM k' o' kc=> ?_);have hst:fp (dR 11) 6 103 165 (.row 165 0 (es.length+1) mN) [(165,(103,_))] LL (es++[x]):=.inr ⟨_,mN,_,KD,aa,aa,KE⟩;have eW:=hst.told (dR.el 11) kc (λx hx=>by cases ak.1 hx;rfl) (aK.dN (show aK dp LL w' from k')) wE.heap.size (λh=>(cH (show fF 195 [b0] bI 165 (bM 165) from h)).elim (λq=>aV qg (aV ig q)) (λq=>by rw[ak.1 q];exact RY));exact⟨[(1,.int .i64 (Y:Int)),(2,.int .i64 i),(4,.pointer (some ⟨g4,0,none⟩)),(7,.pointer (some ⟨g7,0,none⟩)),(9,.pointer (some ⟨g9,0,none⟩)),(11,.slice (some ⟨bb,ob,none⟩) N cb),(12,.pointer (some ⟨g12,0,none⟩)),(13,.pointer (some ⟨g13,0,none⟩)),(16,.pointer (some ⟨g16,0,none⟩)),(17,.pointer (some ⟨g17,0,none⟩)),(18,.slice (some ⟨bM 165,0,none⟩) (es.length+1) mN),(19,.int .i64 ((K:Int)-1))],⟨⟨_,_,aa,aa,aa⟩,⟨_,_,aa,aa,aa⟩,⟨_,_,aa,aa,aa⟩,⟨_,_,aa,aa,aa⟩,⟨_,_,aa,aa,aa⟩,⟨_,_,aa,aa,aa⟩,⟨_,_,aa,aa,aa⟩,⟨_,_,aa,aa,aa⟩,⟨_,_,aa,aa,aa⟩,⟨_,_,aa,aa,aa⟩,⟨_,_,aa,aa,aa⟩,⟨_,_,aa,au (λz=>Value.int .i64 z) (bQ _ ae),aa⟩,aj⟩,dz+1,_,_,g17,_,ae,aa,ae,aa,dP.aA (il.aG aB) o'.1 (λx hx=>by rw[ak.1 hx];exact RY),Mf,(ES.aA aB).but o'.1 (by simp[hn17]),eW,by rw[sm,<-hKd,<-hes,gH_no CX hIK] <;> first|rfl|simp,by simp only[List.length_append,List.length_cons,List.length_nil];omega⟩
   refine VS.bC aa (aR (show ¬ kz>=0 by omega)) ?_;obtain rfl:N=dz:=ae;clear hlt;obtain⟨pv,cv,rfl⟩:=bD.form;rcases yr1E with ⟨hno,-⟩|⟨bR,cR,Ot,spR,hvR,hgR,hclR,hreR,hsoR,hleR,hcmR,hflR⟩
   ·cases hno
   cases hvR;obtain rfl:=Mb hreR;have RZ:=RR hreR;have hvoR:Ot.flatten.all aO=true:=(hreR.ok (nO 6)).1;refine VS.cK dp (λt=>Nat.beq t 23) table (λ_ _ _=>trivial) (λbI nA kq1 ic qF=> ?_);have aB:ax W bI:=ic;have KF:ax wE bI:=il.aG aB;have c16:=h16.aA KF;have c17:=ES.aA aB;have c8:=hclR.aA KF;have n1:g16≠g17:=λh=>by rw[h] at c16;exact absurd (bL c16 c17) cW
   have n2:g16≠b8:=λh=>by rw[h] at c16;exact absurd (bL c16 c8) cW
   have n3:g17≠b8:=λh=>by have:=hclR.lt;omega
   have eh:dv dp 195 [g16,g17,b8] [(32,[.val (.string f.name),.val (.string f.parent),.val (.slice pB' nB' cB'),.val (.bool sT'),.val (.slice pT' nT' cT'),.val (.bool tT'),.val (.slice yT' mT' dT'),.val (.bool sC'),.val (.slice pC' nC' cC'),.val (.bool tC'),.val (.slice yC' mC' dC'),.val (.int .i64 f.bk),.val (.int .i64 f.fw),.val (.bool sI'),.val (.slice pI' nI' cI'),.val (.bool tI'),.val (.slice yI' mI' dI'),.val (.bool sF'),.val (.slice pF' nF' cF'),.val (.bool tF'),.val (.slice yF' mF' dF'),.val (.int .i64 f.kp),.val (.slice pc' Nc' cc'),.val (.slice pe' Ne' ce'),.row 392 0 Ot.length cy']),(99,[.val (.int .i64 y.num),.val (.slice ph1 y.holds.length ch1),.val (.slice ph2 y.bn.length ch2),.val (.slice ph3 y.dE.length ch3),.val (.slice ph4 y.di.length ch4),.val (.slice ph5 y.ft.length ch5)]),(99,Ot.flatten.map .val++spR.map .val)] bI:=by
    refine⟨aa,by simp[n1,n2,n3],λj g' c' hj hc=> ?_,λc' hc=> ?_,λc' hc k hk=> ?_⟩
    ·match j,hj,hc with
     | 0,hj,hc=>cases hj;cases hc;exact c16
     | 1,hj,hc=>cases hj;cases hc;exact c17
     | 2,hj,hc=>cases hj;cases hc;rw[<-aF,az];exact c8
     | j+3,hj,_=>simp at hj
    ·rcases dG.1 hc with rfl|hc
     ·exact⟨aa,aa⟩
     rcases dG.1 hc with rfl|hc
     ·exact⟨aa,aa⟩
     ·cases ak.1 hc;exact⟨aa,by rw[<-aF];exact aL (by rw[dK,hvoR,hsoR];rfl)⟩
    ·rcases dG.1 hc with rfl|hc
     ·have:k=392:=by simpa [bj,AV.gM] using hk
      subst this;exact⟨ae,by show 392<2*195+3;omega⟩
     rcases dG.1 hc with rfl|hc
     ·cases hk
     ·cases ak.1 hc;rw[<-aF,ah] at hk;cases hk
   refine⟨[g16,g17,b8],_,eh,[(1,.val (.int .i64 (Y:Int))),(2,.val (.int .i64 i)),(4,.val (.pointer (some ⟨g4,0,none⟩))),(7,.val (.pointer (some ⟨g7,0,none⟩))),(9,.val (.pointer (some ⟨g9,0,none⟩))),(11,.val (.slice pb N cb)),(12,.val (.pointer (some ⟨g12,0,none⟩))),(13,.val (.pointer (some ⟨g13,0,none⟩))),(16,.box 390 0),(17,.box 391 0),(18,.val (.slice pv es.length cv))],⟨⟨_,aa,aa,λi hi=>(by cases hi)⟩,⟨_,aa,aa,λi hi=>(by cases hi)⟩,⟨_,aa,aa,λi hi=>(by cases hi)⟩,⟨_,aa,aa,λi hi=>(by cases hi)⟩,⟨_,aa,aa,λi hi=>(by cases hi)⟩,⟨_,aa,aa,λi hi=>(by cases hi)⟩,⟨_,aa,aa,λi hi=>(by cases hi)⟩,⟨_,aa,aa,λi hi=>(by cases hi)⟩,⟨_,aa,aa,λi hi=>by rw[(by simpa [AV.ids] using hi:i=390)];exact⟨(by show 390<=390;omega),(by show 390<2*195+3;omega)⟩⟩,⟨_,aa,aa,λi hi=>by rw[(by simpa [AV.ids] using hi:i=391)];exact⟨(by show 390<=391;omega),(by show 391<2*195+3;omega)⟩⟩,⟨_,aa,aa,λi hi=>(by cases hi)⟩,aj⟩,?_⟩;refine aq ?_;refine VO.cond aa fb ?_;refine wV aa ?_
   (repeat (first|refine wN ?_|refine wP aa ?_|refine wO aa aa ?_))
   refine VO.cond aa (by show 0+((Y:Int)).toNat*6+0+6<=_;rw[<-aF,aM,hflR,bh];omega) (VO.jX 392 aa (NW (new:=[.int .i64 y.num,.slice ph1 y.holds.length ch1,.slice pv es.length cv,.slice ph3 y.dE.length ch3,.slice ph4 y.di.length ch4,.slice ph5 y.ft.length ch5]) (o:=0) (λv hv=>(RZ v hv).1) hcs6 (cG aa)) (wV aa ?_))
   (repeat (first|refine wN ?_|refine wP aa ?_|refine wO aa aa ?_))
   refine VS.jZ (λw=>Bw Tryz.prog w 195) (λ_=>aa) (λ_=>aa) (λ_=>ax.refl _) (λwF β k4 b4 en=> ?_);have ia:dP [g16,g17,b8] bI wF:=b4.1;obtain⟨hβ0,Oi⟩:=qb (en.own 390 _ _ aa) 0 g16 aa aa;obtain⟨hβ2,lS⟩:=qb (en.own 392 _ _ aa) 2 b8 aa aa;rw[<-aF,az] at lS;replace lS:aQ wF b8 99 ((Ot.set Y [.int .i64 y.num,.slice ph1 y.holds.length ch1,.slice pv es.length cv,.slice ph3 y.dE.length ch3,.slice ph4 y.di.length ch4,.slice ph5 y.ft.length ch5]).flatten++spR).toArray:=lS;have hDE':=hDE.size
   have hgD:∀ g∈[g16,g17,b8],wD.heap.size<=g:=λg hg=>by
    have:=(show ax wD uR from Hg).size;simp only[List.mem_cons,List.not_mem_nil,or_false] at hg;rcases hg with rfl|rfl|rfl <;> omega
   have hDF:ax wD wF:=dP.aA (hDE.aG KF) ia hgD;have hWF:ax w wF:=hBD.aG hDF
   have NX:lT (λt=> !(Nat.beq t 99 || Nat.beq t 32)) bI wF:=dP.kp ia (λx hx=>by
    simp only[List.mem_cons,List.not_mem_nil,or_false] at hx;rcases hx with rfl|rfl|rfl
    ·exact⟨32,_,c16,aa,aa⟩
    ·exact⟨99,_,c17,aa,aa⟩
    ·exact⟨99,Ot.flatten++spR,c8,aa,by rw[dK,hvoR,hsoR];rfl⟩)
   have hc16F:aQ wF g16 32 #[.string f.name,.string f.parent,.slice pB' nB' cB',.bool sT',.slice pT' nT' cT',.bool tT',.slice yT' mT' dT',.bool sC',.slice pC' nC' cC',.bool tC',.slice yC' mC' dC',.int .i64 f.bk,.int .i64 f.fw,.bool sI',.slice pI' nI' cI',.bool tI',.slice yI' mI' dI',.bool sF',.slice pF' nF' cF',.bool tF',.slice yF' mF' dF',.int .i64 f.kp,.slice pc' Nc' cc',.slice pe' Ne' ce',.slice (some ⟨b8,0,none⟩) Ot.length cy']:=by
    have h:=Oi;rw[<-hβ2];exact h
   have hes2:es=vt y.bn I x0 y.bn.length:=by rw[hes,hN]
   have hallN:∀ v∈Ot.set Y [.int .i64 y.num,.slice ph1 y.holds.length ch1,.slice pv es.length cv,.slice ph3 y.dE.length ch3,.slice ph4 y.di.length ch4,.slice ph5 y.ft.length ch5],v.length=6/\v.all aO=true:=λv hv=>by
    rcases mU hv with h|h
    ·exact RZ v h
    ·rw[h];exact⟨aa,aa⟩
   have hrowN:ay (CE 6) 6 99 w.heap.size wF (.slice (some ⟨b8,0,none⟩) Ot.length cy') (Ot.set Y [.int .i64 y.num,.slice ph1 y.holds.length ch1,.slice pv es.length cv,.slice ph3 y.dE.length ch3,.slice ph4 y.di.length ch4,.slice ph5 y.ft.length ch5]):=.inr ⟨b8,cy',_,spR,by rw[dV],aV hBD.size (hgD b8 cf),lS,EP hallN,hsoR,by rw[dV];exact hleR,hcmR,by
    rw[bg,bE _ 6 (λv hv=>(hallN v hv).1),dV,<-bE _ 6 (λv hv=>(RZ v hv).1),<-bg];exact hflR⟩
   have hFN:sB 11 wF (.agg #[.string f.name,.string f.parent,.slice pB' nB' cB',.bool sT',.slice pT' nT' cT',.bool tT',.slice yT' mT' dT',.bool sC',.slice pC' nC' cC',.bool tC',.slice yC' mC' dC',.int .i64 f.bk,.int .i64 f.fw,.bool sI',.slice pI' nI' cI',.bool tI',.slice yI' mI' dI',.bool sF',.slice pF' nF' cF',.bool tF',.slice yF' mF' dF',.int .i64 f.kp,.slice pc' Nc' cc',.slice pe' Ne' ce',.slice (some ⟨b8,0,none⟩) Ot.length cy']) { f with jn:=f.jn.set Y { y with bn:=vt y.bn I x0 y.bn.length } }:=⟨_,_,_,_,_,_,_,_,_,_,_,_,_,_,_,_,_,_,_,_,_,_,_,_,_,_,_,_,_,_,_,_,_,_,_,_,_,_,_,_,_,_,_,_,aa,
    (((((cp1.kp (lH.el 6) (T:=fu) kTE rfl).aA (lH.el 6) KF).kp (lH.el 6) NX rfl).sl (lH.el 6)).mono (λ_ _ _ _ h=>h.up ae)),((((cp2.kp kTE).kp (U:=UU) (T:=fu) (aK.of KF)).kp NX).up ae),((((cp3.kp kTE).kp (U:=UU) (T:=fu) (aK.of KF)).kp NX).up ae),((((cp4.kp kTE).kp (U:=UU) (T:=fu) (aK.of KF)).kp NX).up ae),((((cp5.kp kTE).kp (U:=UU) (T:=fu) (aK.of KF)).kp NX).up ae),(((((cp6.kp (lI.el 6) (T:=fu) kTE rfl).aA (lI.el 6) KF).kp (lI.el 6) NX rfl).sl (lI.el 6)).mono (λ_ _ _ _ h=>h.up ae)),(((cp7.kp ba (T:=fu) kTE rfl).aA ba KF).kp ba NX rfl).sl ba,
    LS (hrowN.sl (nO 6)) (by rw[dV,dV];exact yr2) (λj u a hj ha=>by
     by_cases hjY:Y=j
     ·subst hjY;rw[ll,if_pos rfl,if_pos (bd.1 hcs6).1] at hj;rw[ll,if_pos rfl,if_pos (bd.1 hy).1] at ha;cases hj;cases ha;refine⟨_,_,_,_,_,aa,((((z1.aA (dR.el 6) KF).kp (dR.el 6) NX aa).sl (dR.el 6)).mono (λ_ _ _ _ h=>h.up ae)),?_,((((z3.aA (mH.el 6) KF).kp (mH.el 6) NX aa).sl (mH.el 6)).mono (λ_ _ _ _ h=>h.up ae)),((((z4.aA (mJ.el 6) KF).kp (mJ.el 6) NX aa).sl (mJ.el 6)).mono (λ_ _ _ _ h=>h.up ae)),((((z5.aA (mK.el 6) KF).kp (mK.el 6) NX aa).sl (mK.el 6)).mono (λ_ _ _ _ h=>h.up ae))⟩;show bK _ _ _ _ (vt y.bn I x0 y.bn.length);rw[<-hes2];exact ((bD.aA (dR.el 11) aB).kp (dR.el 11) NX aa).sl (dR.el 11)
     ·rw[ll,if_neg hjY] at hj ha;exact (((yr3E j u a hj ha).kp (T:=λ_=>true) (aK.of KF) aa aa aa aa aa).kp NX aa aa aa aa aa).up ae)⟩
   have htot2:=tot_out (i:=I) (p:=x0) hy hT;refine⟨[(1,.val (.int .i64 (Y:Int))),(9,.val (.pointer (some ⟨g9,0,none⟩))),(12,.val (.pointer (some ⟨g12,0,none⟩))),(13,.val (.pointer (some ⟨g13,0,none⟩))),(16,.val (.pointer (some ⟨β 390,0,none⟩)))],⟨⟨_,_,aa,aa,aa⟩,⟨_,_,aa,aa,aa⟩,⟨_,_,aa,aa,aa⟩,⟨_,_,aa,aa,aa⟩,⟨_,_,aa,aa,aa⟩,aj⟩,?_⟩;rw[hβ0];clear en Oi;refine bH ?_;refine VO.read aa [.string f.name,.string f.parent,.slice pB' nB' cB',.bool sT',.slice pT' nT' cT',.bool tT',.slice yT' mT' dT',.bool sC',.slice pC' nC' cC',.bool tC',.slice yC' mC' dC',.int .i64 f.bk,.int .i64 f.fw,.bool sI',.slice pI' nI' cI',.bool tI',.slice yI' mI' dI',.bool sF',.slice pF' nF' cF',.bool tF',.slice yF' mF' dF',.int .i64 f.kp,.slice pc' Nc' cc',.slice pe' Ne' ce',.slice (some ⟨b8,0,none⟩) Ot.length cy'] aa (ij (cs:=[.string f.name,.string f.parent,.slice pB' nB' cB',.bool sT',.slice pT' nT' cT',.bool tT',.slice yT' mT' dT',.bool sC',.slice pC' nC' cC',.bool tC',.slice yC' mC' dC',.int .i64 f.bk,.int .i64 f.fw,.bool sI',.slice pI' nI' cI',.bool tI',.slice yI' mI' dI',.bool sF',.slice pF' nF' cF',.bool tF',.slice yF' mF' dF',.int .i64 f.kp,.slice pc' Nc' cc',.slice pe' Ne' ce',.slice (some ⟨b8,0,none⟩) Ot.length cy']) hc16F 0 _ ⟨[],aa⟩) (wV aa ?_);refine bH ?_
   refine VO.call aa aa (fk Tryz.func13) (λwa16 ka16 ba16=>(Aw _ _ (Y:Int) 11 80 wa16 (hFN.aA ba16) ae ae (λy' hy'=>by
    rcases mU hy' with h|rfl
    ·have:=hbk y' h;omega
    ·show (vt y.bn I x0 y.bn.length).length<=80;rw[<-hes2];omega) ae (show f.dD.length<=10000 by omega) (show f.cls.length<=10000 by omega)).mono ?_)
   rintro o w16 ⟨r16,rfl,q16,hb16⟩;rw[htot2] at q16 ⊢;obtain⟨p16,c16',rfl⟩:=q16.form;refine rL hb16 ?_;intro kb16 _ bb16;refine VO.read aa [.bool s,.slice p n c,.bool tt,.slice yy mm d] aa (ij (cs:=[.bool s,.slice p n c,.bool tt,.slice yy mm d]) (h12D.aA hDF) 0 _ ⟨[],aa⟩) (wV aa ?_);refine bH ?_;refine VO.read aa [.bool s9,.slice p9 n9 c9,.bool t9,.slice y9 m9 d9] aa (ij (cs:=[.bool s9,.slice p9 n9 c9,.bool t9,.slice y9 m9 d9]) (h13D.aA hDF) 0 _ ⟨[],aa⟩) (wV aa ?_);refine bH ?_;refine VO.cB aa aa (fk Tryz.func43) (λRg ka17 Rh=>Af _ _ _ _ _ _ Rg (hs12.kp (U:=UU) (T:=λ_=>false) (aK.of (hDF.aG Rh))) (hs13.kp (U:=UU) (T:=λ_=>false) (aK.of (hDF.aG Rh))) ae ae) (λRg ka17 Rh w17 hb17 kb17 _ bb17=>wV aa ?_);refine bH ?_;refine VO.fix 183 aa (au (λb=>AV.val (.bool b)) (LM (rcmp_eq aa))) ?_;refine bH ?_;refine VO.fix 187 aa (au (λb=>AV.val (.bool b)) (LM aa)) ?_;refine bH ?_;refine VO.read aa [.slice p4 t.length c4] aa (ij (cs:=[.slice p4 t.length c4]) (h9D.aA hDF) 0 _ ⟨[],aa⟩) (wV aa ?_);refine bH ?_;refine VO.cB aa aa (fk Tryz.func32) (λNG ka18 ba18=>NM _ _ t t 281 961 NG (ib.Nu (hTD.aA (hDF.aG ba18))) (ib.Nu (q16.kp (show lT TQ w16 NG from dA) aa aa)) ae ae ae ae) (λNG ka18 ba18 w18 hb18 kb18 _ bb18=>wV aa ?_);refine bH ?_;refine VO.fix 192 aa (au (λb=>AV.val (.bool b)) (aU aa)) ?_;refine bH ?_;refine VO.cB aa aa (fk Ck) (λNH ka19 ba19=>kO NH) (λNH ka19 ba19 w19 hb19 kb19 _ bb19=>wV aa ?_);refine bH ?_;refine VS.ret (lf _ _) aa aa (λwz kz bz=> ?_);exact⟨aa,hWF.aG bz⟩
end
end Go.Proofs.YtlifeokjcgngjaaGreat
