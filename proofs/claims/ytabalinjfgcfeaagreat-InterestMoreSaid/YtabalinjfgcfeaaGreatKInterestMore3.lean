/- BD of the proof,laid behind one another. -/
import Derived.Test.YtabalinjfgcfeaaGreatKInterestMore2
set_option linter.all false
namespace Go.Proofs.YtabalinjfgcfeaaGreat
open Go.RowKit
theorem ke (neg:Bool) (p:Option Addr) (n c:Nat) (w:World):
  Calls Tryz.prog 80 #[.bool neg,.slice p n c] w fun e w'=>e=.returned (.agg #[.bool (neg && decide (0 < n)),.slice p n c])∧aj w w':=by
 refine aN fun R' bt=> ?_
 go_enter Tryz.func80,Tryz.ntmps80
 cases neg
 ·go_wp2
  exact bodyPost_ret (v:=.agg #[.bool false,.slice p n c]) (by simp [results,Tryz.results80,go_sem]) rfl (bt.out _ _ ⟨rfl,(aj.refl w).alloc _⟩)
 ·go_wp2
  exact bodyPost_ret (v:=.agg #[.bool (decide (0 < n)),.slice p n c]) (by simp [results,Tryz.results80,go_sem]) rfl (bt.out _ _ ⟨rfl,(aj.refl w).alloc _⟩)
theorem fm (neg:Bool) (p:Option Addr) (n c:Nat) (w:World):
  Calls Tryz.prog 80 #[.bool neg,.slice p n c] w fun e w'=>∃ sg,e=.returned (.agg #[.bool sg,.slice p n c])∧Hid (sg=(neg && decide (0 < n)))∧aj w w':=
 (ke neg p n c w).mono fun _ _ ⟨h,hb⟩=>⟨_,h,Lib.hid rfl,hb⟩
theorem qK (neg:Bool) (xs:List Nat) (v:Value) (w:World) (h:eX w v neg xs):
  Calls Tryz.prog 102 #[v] w fun e w'=>e=.returned (.bool (dp neg xs))∧aj w w':=by
 obtain ⟨p,c,rfl,hr,hl⟩:=h
 obtain ⟨p',c',hv,fH,fy,-⟩:=hr.u32
 simp only [Value.slice.injEq,true_and] at hv
 obtain ⟨rfl,rfl⟩:=hv
 refine aN fun R' bt=> ?_
 by_cases hx:xs=[]
 ·subst hx
  simp only [List.length_nil,qx] at *
  go_enter Tryz.func102,Tryz.ntmps102
  cases neg
  ·go_wp2
   exact bt.out _ _ ⟨rfl,(aj.refl w).alloc _⟩
  ·go_wp2
   exact bt.out _ _ ⟨rfl,(aj.refl w).alloc _⟩
 ·obtain ⟨m,hm⟩:∃ m,xs.length=m + 1:=⟨xs.length - 1,by have:=List.length_pos_iff.2 hx;omega⟩
  generalize hn:xs.length=n at *
  obtain ⟨b,off,x,rfl,hb,hxm,hc⟩:=hr.cellAt (k:=m) (by omega)
  have h1:dp neg xs=decide (x≠0):=ue (by rw [hn,hm];exact hxm)
  rw [h1] at bt
  have hz:((n:Int) == 0)=false:=by rw [beq_eq_false_iff_ne];omega
  have hp:(0:Int) < (n:Int):=by omega
  have hw:IntKind.i64.wrap ((n:Int) - 1)=(m:Int):=by rw [IntWalk.i64_in _ (by omega)];omega
  have hlt:(m:Int) < (n:Int):=by omega
  have HN:=Lib.hid hn
  have hpn:0 < n:=by omega
  clear hx hm hn h1 hxm hr hl
  go_enter Tryz.func102,Tryz.ntmps102
  by_cases gB:x=0
  ·subst gB
   cases neg
   ·go_wp2
    exact bt.out _ _ ⟨rfl,(aj.refl w).alloc _⟩
   ·go_wp2
    exact bt.out _ _ ⟨rfl,(aj.refl w).alloc _⟩
  ·have CT:((x:Int) != 0)=true:=by rw [bne_iff_ne];omega
   rw [decide_eq_true gB] at bt
   clear gB
   cases neg
   ·go_wp2
    exact bt.out _ _ ⟨rfl,(aj.refl w).alloc _⟩
   ·go_wp2
    exact bt.out _ _ ⟨rfl,(aj.refl w).alloc _⟩
theorem fZ (v:Value) (X:Int) (k:Nat) (w0 w:World) (h:bS w0 v X k) (pd:aj w0 w):
  Calls Tryz.prog 79 #[v] w fun e w'=>∃ u,e=.returned u∧bQ w0 u X∧aj w w':=by
 obtain ⟨neg,xs,hn,rfl,hk⟩:=h
 refine aN fun R' bt=> ?_
 have HN:=Lib.hid hn
 obtain ⟨p,c,rfl,hr,hl⟩:=hn
 clear hr
 go_enter Tryz.func79,Tryz.ntmps79
 go_wp2_with fail
 refine (qK neg xs _ _ ((HN.out.bk pd).bk (((aj.refl w).alloc _).alloc _))).mono ?_
 rintro e w1 ⟨rfl,aU⟩
 obtain ⟨b1,b2,lO⟩:=lB w 24 137 #[.bool neg,.slice p xs.length c] #[.bool false,.slice none 0 0]
 obtain ⟨c1,c2,_,_⟩:=(b1.bk aU).two
 obtain ⟨c3,c4,f3,f4⟩:=(b2.bk aU).two
 have yU:aj w w1:=lO.aI aU
 cases uW:dp neg xs
 ·have B2:=(b2.bk aU).bA (.bool false) (.slice none 0 0)
  have ud:=yU.bA (b:=w.heap.size + 1) (by omega) (.bool false) (.slice none 0 0)
  go_wp2
  generalize (w1.setCell ⟨w.heap.size + 1,0,none⟩ (.bool false)).setCell ⟨w.heap.size + 1,1,none⟩ (.slice none 0 0)=w2 at *
  obtain ⟨d1,d2,_,_⟩:=B2.two
  refine bodyPost_ret (v:=.agg #[.bool false,.slice none 0 0]) (by simp [results,Tryz.results79,go_sem,d1,d2]) rfl (bt.out _ _ ⟨_,rfl,?_,ud⟩)
  rw [numOf,if_neg (by simp [uW])]
  exact bQ.zero _
 ·have B2:=(b2.bk aU).bA (.bool neg) (.slice p xs.length c)
  have ud:=yU.bA (b:=w.heap.size + 1) (by omega) (.bool neg) (.slice p xs.length c)
  go_wp2
  generalize (w1.setCell ⟨w.heap.size + 1,0,none⟩ (.bool neg)).setCell ⟨w.heap.size + 1,1,none⟩ (.slice p xs.length c)=w2 at *
  obtain ⟨d1,d2,_,_⟩:=B2.two
  refine bodyPost_ret (v:=.agg #[.bool neg,.slice p xs.length c]) (by simp [results,Tryz.results79,go_sem,d1,d2]) rfl (bt.out _ _ ⟨_,rfl,?_,ud⟩)
  rw [numOf,if_pos uW]
  obtain ⟨h1,h2⟩:=canon hl uW
  have:=HN.out
  show eX _ _ _ _
  rw [←h1,←h2]
  exact this
end Go.Proofs.YtabalinjfgcfeaaGreat
namespace Go.Proofs.YtabalinjfgcfeaaGreat
open Go.RowKit
theorem bQ.split {w:World} {v:Value} {X:Int} (h:bQ w v X):∃ s p c,v=.agg #[.bool s,.slice p (limbs X.natAbs).length c]∧Rd w 1 (.slice p (limbs X.natAbs).length c) (limbs X.natAbs).length (ints .u32 (limbs X.natAbs))∧X=if s=true then -(X.natAbs:Int) else (X.natAbs:Int):=by
 obtain ⟨p,c,hv,hr,_⟩:=h
 refine ⟨_,p,c,hv,hr,?_⟩
 split
 ·rename_i h;have:=of_decide_eq_true h;omega
 ·rename_i h;have:¬ X < 0:=fun h'=>h (decide_eq_true h');omega
theorem xq (v:Value) (X:Int) (w:World) (h:bQ w v X):
  Calls Tryz.prog 111 #[v] w fun e w'=>∃ u,e=.returned u∧bQ w' u (-X)∧aj w w':=by
 obtain ⟨s,p,c,rfl,hr,hX⟩:=h.split
 obtain ⟨n,hn⟩:∃ n,n=(limbs X.natAbs).length:=⟨_,rfl⟩
 have HR:=Lib.hid hr
 have HN:=Lib.hid hn
 have HX:=Lib.hid hX
 rw [←hn]
 clear hr hn hX h
 refine aN fun R' bt=> ?_
 obtain ⟨b1,b2,lO⟩:=lB w 137 137 #[.bool s,.slice p n c] #[.bool false,.slice none 0 0]
 go_enter Tryz.func111,Tryz.ntmps111
 go_wp2_with fail
 refine (ke _ _ _ _ _).mono ?_
 rintro e w1 ⟨rfl,aU⟩
 obtain ⟨c3,c4,f3,f4⟩:=(b2.bk aU).two
 have B2:=(b2.bk aU).bA (.bool (!s && decide (0 < n))) (.slice p n c)
 have ud:=(lO.aI aU).bA (b:=w.heap.size + 1) (by omega) (.bool (!s && decide (0 < n))) (.slice p n c)
 go_wp2
 generalize (w1.setCell ⟨w.heap.size + 1,0,none⟩ (.bool (!s && decide (0 < n)))).setCell ⟨w.heap.size + 1,1,none⟩ (.slice p n c)=w2 at *
 obtain ⟨d1,d2,_,_⟩:=B2.two
 refine bodyPost_ret (v:=.agg #[.bool (!s && decide (0 < n)),.slice p n c]) (by simp [results,Tryz.results111,go_sem,d1,d2]) rfl (bt.out _ _ ⟨_,rfl,?_,ud⟩)
 have ji:=HR.out.below ud
 rw [←HN.out] at ji
 refine bQ.of (m:=X.natAbs) (by rw [←HN.out];exact ji) HN.out _ ?_
 rw [HX.out]
 cases s <;> simp
set_option maxHeartbeats 1000000 in
theorem CU (v u:Value) (X Y:Int) (w:World) (hv:bQ w v X) (hu:bQ w u Y) (hx:(limbs X.natAbs).length≤1073741824) (hy:(limbs Y.natAbs).length≤1073741824):
  Calls Tryz.prog 110 #[v,u] w fun e w'=>∃ r,e=.returned r∧aE w' w.heap.size r (X + Y)∧aj w w':=by
 obtain ⟨s,p,c,rfl,ic,hX⟩:=hv.split
 obtain ⟨t,q,d,rfl,ji,hY⟩:=hu.split
 obtain ⟨n,hn⟩:∃ n,n=(limbs X.natAbs).length:=⟨_,rfl⟩
 obtain ⟨m,hm⟩:∃ m,m=(limbs Y.natAbs).length:=⟨_,rfl⟩
 rw [←hn] at ic hx ⊢
 rw [←hm] at ji hy ⊢
 clear hv hu
 refine aN fun R' bt=> ?_
 obtain ⟨b1,b2,b3,lO⟩:=mM w 137 137 24 #[.bool s,.slice p n c] #[.bool t,.slice q m d] #[.bool false,.slice none 0 0]
 have r10:=Lib.hid ic
 have r20:=Lib.hid ji
 have r1:=Lib.hid (ic.below lO)
 have r2:=Lib.hid (ji.below lO)
 have HX:=Lib.hid hX
 have HY:=Lib.hid hY
 have HN:=Lib.hid hn
 have HM:=Lib.hid hm
 clear ic ji hX hY hn hm
 go_enter Tryz.func110,Tryz.ntmps110
 by_cases hst:s=t
 ·subst hst
  go_wp2_with fail
  generalize ((w.alloc _).alloc _).alloc _=W at *
  obtain ⟨c1,c2,_,_⟩:=b1.two
  obtain ⟨c3,c4,_,_⟩:=b2.two
  obtain ⟨c5,c6,f5,f6⟩:=b3.two
  have HS:=Lib.hid (fun w' (h:aC W (w.heap.size + 1 + 1) w')=>And.intro (h.cells b1 (by omega)) (h.cells b2 (by omega)))
  go_region_held3 (fun w'=>(w'.cell? ⟨w.heap.size,0,none⟩=some (.bool s)∧w'.cell? ⟨w.heap.size,1,none⟩=some (.slice p n c))∧w'.cell? ⟨w.heap.size + 1,0,none⟩=some (.bool s)∧w'.cell? ⟨w.heap.size + 1,1,none⟩=some (.slice q m d)) ((refine HS.out _ ?_;(with_reducible (repeat (first | exact aC.refl _ _ | refine aC.drew ?_ | refine aC.drewN ?_ _ | refine aC.alloc ?_ _ | refine aC.set ?_ _ | refine aC.aI ?_ (by assumption) | refine aC.om ?_ (by first | omega | (simp;done) | (simp;omega)) _))))) (first
   | (go_at_call 130;refine (Gp _ _ n m _ _ _ r1.out.drew r2.out.drew (az _) (az _) (by omega) (by omega)).mono ?_;rintro e w1 ⟨v1,rfl,tz,aU⟩;replace aU:aj _ w1:=aU;rw [au,au] at tz;obtain ⟨p1,k1,rfl,_,_,_⟩:=Own.form tz)
   | (go_at_call 80;refine (ke _ _ _ _ _).mono ?_;rintro e w2 ⟨rfl,bn⟩;obtain ⟨c5',c6',f5',f6'⟩:=((b3.drew.bk aU).bk bn).two))
  have B3:=((b3.drew.bk aU).bk bn).bA (.bool (s && decide (0 < (limbs (X.natAbs + Y.natAbs)).length))) (.slice p1 (limbs (X.natAbs + Y.natAbs)).length k1)
  have yU:aj w w2:=lO.aI (aj.aI (aj.aI (aj.refl W).drew aU) bn)
  have JT:=yU.bA (b:=w.heap.size + 1 + 1) (by omega) (.bool (s && decide (0 < (limbs (X.natAbs + Y.natAbs)).length))) (.slice p1 (limbs (X.natAbs + Y.natAbs)).length k1)
  have Fc:=Own.below tz bn
  generalize hL:(limbs (X.natAbs + Y.natAbs)).length=L at *
  have Kv:=Lib.hid (Own.bA (b:=w.heap.size + 1 + 1) Fc (b3.drew.bk aU |>.bk bn) (by decide) (.bool (s && decide (0 < L))) (.slice p1 L k1))
  clear Fc tz yU
  go_wp2
  generalize (w2.setCell ⟨w.heap.size + 1 + 1,0,none⟩ (.bool (s && decide (0 < L)))).setCell ⟨w.heap.size + 1 + 1,1,none⟩ (.slice p1 L k1)=w3 at *
  obtain ⟨d1,d2,_,_⟩:=B3.two
  refine bodyPost_ret (v:=.agg #[.bool (s && decide (0 < L)),.slice p1 L k1]) (by simp [results,Tryz.results110,go_sem,d1,d2]) rfl (bt.out _ _ ⟨_,rfl,?_,JT⟩)
  refine aE.of (m:=X.natAbs + Y.natAbs) (by rw [hL];exact Own.mono Kv.out lO.size) hL.symm _ ?_
  rw [HX.out,HY.out]
  cases s <;> simp <;> omega
 ·have hst':(s == t)=false:=by cases s <;> cases t <;> simp_all
  go_wp2_with fail
  generalize ((w.alloc _).alloc _).alloc _=W at *
  refine (Ab _ _ n m _ _ _ r1.out r2.out (az _) (az _)).mono ?_
  rintro e w1 ⟨rfl,k1,rfl⟩
  rw [au,au]
  by_cases hlt:X.natAbs < Y.natAbs
  ·have HLT:=Lib.hid hlt
   have hc:fW X.natAbs Y.natAbs < 0:=je.2 hlt
   generalize fW X.natAbs Y.natAbs=cv at hc ⊢
   obtain ⟨c1,c2,f1,f2⟩:=(b1.drewN k1).two
   obtain ⟨c3,c4,f3,f4⟩:=(b2.drewN k1).two
   have B1:=((b1.drewN k1).bA (.bool t) (.slice q m d)).dx (b':=w.heap.size + 1) (by omega) (.bool s) (.slice p n c)
   have B2:=((b2.drewN k1).dx (b':=w.heap.size) (by omega) (.bool t) (.slice q m d)).bA (.bool s) (.slice p n c)
   have B3:=((b3.drewN k1).dx (b':=w.heap.size) (by omega) (.bool t) (.slice q m d)).dx (b':=w.heap.size + 1) (by omega) (.bool s) (.slice p n c)
   have gC:=((lO.drewN k1).bA (b:=w.heap.size) (by omega) (.bool t) (.slice q m d)).bA (b:=w.heap.size + 1) (by omega) (.bool s) (.slice p n c)
   clear lO b1 b2 b3 r1 r2 hlt
   go_wp2_with fail
   generalize ((((W.drewN k1).setCell ⟨w.heap.size,0,none⟩ (.bool t)).setCell ⟨w.heap.size,1,none⟩ (.slice q m d)).setCell ⟨w.heap.size + 1,0,none⟩ (.bool s)).setCell ⟨w.heap.size + 1,1,none⟩ (.slice p n c)=W2 at *
   clear c1 c2 c3 c4 f1 f2 f3 f4
   refine (Ai _ _ m n _ _ _ (r20.out.below gC) (r10.out.below gC) (az _) (az _) (by omega)).mono ?_
   rintro e w2 ⟨⟨h,_⟩ | ⟨_,v2,rfl,GO⟩,bn⟩
   ·rw [au,au] at h;exact absurd h (by have:=HLT.out;omega)
   replace bn:aj _ w2:=bn
   rw [au,au] at GO
   obtain ⟨p2,k2,rfl,_,_,_⟩:=Own.form GO
   obtain ⟨e1,e2,_,_⟩:=(B1.bk bn).two
   have E3:=B3.bk bn
   have hbw2:=gC.aI bn
   generalize hL:(limbs (Y.natAbs - X.natAbs)).length=L at *
   have nw:=Lib.hid (Own.mono GO gC.size)
   have HL:=Lib.hid hL
   clear GO hL B1 B2 B3 gC bn
   go_wp2_with fail
   refine (ke _ _ _ _ _).mono ?_
   rintro e w3 ⟨rfl,cI⟩
   have F3:=E3.bk cI
   obtain ⟨e5,e6,g5,g6⟩:=F3.two
   have Kv:=Lib.hid (Own.bA (b:=w.heap.size + 1 + 1) (Own.below nw.out cI) F3 (by decide) (.bool (t && decide (0 < L))) (.slice p2 L k2))
   have G3:=F3.bA (.bool (t && decide (0 < L))) (.slice p2 L k2)
   have JT:=(hbw2.aI cI).bA (b:=w.heap.size + 1 + 1) (by omega) (.bool (t && decide (0 < L))) (.slice p2 L k2)
   clear nw E3 F3
   go_wp2
   generalize (w3.setCell ⟨w.heap.size + 1 + 1,0,none⟩ (.bool (t && decide (0 < L)))).setCell ⟨w.heap.size + 1 + 1,1,none⟩ (.slice p2 L k2)=w4 at *
   obtain ⟨d1,d2,_,_⟩:=G3.two
   refine bodyPost_ret (v:=.agg #[.bool (t && decide (0 < L)),.slice p2 L k2]) (by simp [results,Tryz.results110,go_sem,d1,d2]) rfl (bt.out _ _ ⟨_,rfl,?_,JT⟩)
   refine aE.of (m:=Y.natAbs - X.natAbs) (by rw [HL.out];exact Kv.out) HL.out.symm _ ?_
   rw [HX.out,HY.out]
   have:=HLT.out
   cases s <;> cases t <;> simp at hst ⊢ <;> omega
  ·have HLT:=Lib.hid hlt
   have hc:0≤fW X.natAbs Y.natAbs:=by have:=mt (@je X.natAbs Y.natAbs).1 hlt;omega
   generalize fW X.natAbs Y.natAbs=cv at hc ⊢
   have B1:=b1.drewN k1
   have B2:=b2.drewN k1
   have B3:=b3.drewN k1
   have gC:=lO.drewN k1
   obtain ⟨c1,c2,f1,f2⟩:=B1.two
   obtain ⟨c3,c4,f3,f4⟩:=B2.two
   clear lO b1 b2 b3 r1 r2 hlt
   go_wp2_with fail
   generalize W.drewN k1=W2 at *
   clear c1 c2 c3 c4 f1 f2 f3 f4
   refine (Ai _ _ n m _ _ _ (r10.out.below gC) (r20.out.below gC) (az _) (az _) (by omega)).mono ?_
   rintro e w2 ⟨⟨h,_⟩ | ⟨_,v2,rfl,GO⟩,bn⟩
   ·rw [au,au] at h;exact absurd h (by have:=HLT.out;omega)
   replace bn:aj _ w2:=bn
   rw [au,au] at GO
   obtain ⟨p2,k2,rfl,_,_,_⟩:=Own.form GO
   obtain ⟨e1,e2,_,_⟩:=(B1.bk bn).two
   have E3:=B3.bk bn
   have hbw2:=gC.aI bn
   generalize hL:(limbs (X.natAbs - Y.natAbs)).length=L at *
   have nw:=Lib.hid (Own.mono GO gC.size)
   have HL:=Lib.hid hL
   clear GO hL B1 B2 B3 gC bn
   go_wp2_with fail
   refine (ke _ _ _ _ _).mono ?_
   rintro e w3 ⟨rfl,cI⟩
   have F3:=E3.bk cI
   obtain ⟨e5,e6,g5,g6⟩:=F3.two
   have Kv:=Lib.hid (Own.bA (b:=w.heap.size + 1 + 1) (Own.below nw.out cI) F3 (by decide) (.bool (s && decide (0 < L))) (.slice p2 L k2))
   have G3:=F3.bA (.bool (s && decide (0 < L))) (.slice p2 L k2)
   have JT:=(hbw2.aI cI).bA (b:=w.heap.size + 1 + 1) (by omega) (.bool (s && decide (0 < L))) (.slice p2 L k2)
   clear nw E3 F3
   go_wp2
   generalize (w3.setCell ⟨w.heap.size + 1 + 1,0,none⟩ (.bool (s && decide (0 < L)))).setCell ⟨w.heap.size + 1 + 1,1,none⟩ (.slice p2 L k2)=w4 at *
   obtain ⟨d1,d2,_,_⟩:=G3.two
   refine bodyPost_ret (v:=.agg #[.bool (s && decide (0 < L)),.slice p2 L k2]) (by simp [results,Tryz.results110,go_sem,d1,d2]) rfl (bt.out _ _ ⟨_,rfl,?_,JT⟩)
   refine aE.of (m:=X.natAbs - Y.natAbs) (by rw [HL.out];exact Kv.out) HL.out.symm _ ?_
   rw [HX.out,HY.out]
   have:=HLT.out
   cases s <;> cases t <;> simp at hst ⊢ <;> omega
end Go.Proofs.YtabalinjfgcfeaaGreat
namespace Go.Proofs.YtabalinjfgcfeaaGreat
open Go.RowKit
set_option maxHeartbeats 1000000 in
theorem CV (v u:Value) (X Y:Int) (j k:Nat) (w:World) (hv:bS w v X j) (hu:bS w u Y k) (hj:j≤1073741824) (hk:k≤1073741824):
  Calls Tryz.prog 84 #[v,u] w fun e w'=>∃ r,e=.returned r∧aE w' w.heap.size r (X + Y)∧aj w w':=by
 obtain ⟨s,p,n,c,rfl⟩:=hv.form
 obtain ⟨t,q,m,d,rfl⟩:=hu.form
 refine aN fun R' bt=> ?_
 obtain ⟨b1,b2,b3,lO⟩:=mM w 24 24 24 #[.bool s,.slice p n c] #[.bool t,.slice q m d] #[.bool false,.slice none 0 0]
 have sP:=hv.len
 have oc:=hu.len
 have HV:=Lib.hid hv
 have HU:=Lib.hid hu
 have hsz:w.heap.size + 3≤(((w.alloc (.cells #[.bool s,.slice p n c] 24)).alloc (.cells #[.bool t,.slice q m d] 24)).alloc (.cells #[.bool false,.slice none 0 0] 24)).heap.size:=by simp
 clear hv hu
 go_enter Tryz.func84,Tryz.ntmps84
 go_wp2_with fail
 generalize ((w.alloc _).alloc _).alloc _=W at *
 have HS:=Lib.hid (fun w' (h:aC W (w.heap.size + 1 + 1) w')=>And.intro (h.cells b1 (by omega)) (h.cells b2 (by omega)))
 obtain ⟨c1,c2,_,_⟩:=b1.two
 obtain ⟨c3,c4,_,_⟩:=b2.two
 obtain ⟨c5,c6,f5,f6⟩:=b3.two
 go_region_held3 (fun w'=>(w'.cell? ⟨w.heap.size,0,none⟩=some (.bool s)∧w'.cell? ⟨w.heap.size,1,none⟩=some (.slice p n c))∧w'.cell? ⟨w.heap.size + 1,0,none⟩=some (.bool t)∧w'.cell? ⟨w.heap.size + 1,1,none⟩=some (.slice q m d)) ((refine HS.out _ ?_;(with_reducible (repeat (first | exact aC.refl _ _ | refine aC.drew ?_ | refine aC.drewN ?_ _ | refine aC.alloc ?_ _ | refine aC.set ?_ _ | refine aC.aI ?_ (by assumption) | refine aC.om ?_ (by first | omega | (simp;done) | (simp;omega)) _))))) (first
  | (go_at_call_of 79 (Value.slice p n c);refine (fZ _ X j w _ HV.out (by (with_reducible (repeat (first | assumption | exact aj.refl _ | refine aj.drew ?_ | refine aj.drewN ?_ _ | refine aj.alloc ?_ _ | refine aj.aI ?_ (by assumption) | refine aj.setCell ?_ (by first | omega | (simp;done) | (simp;omega)) _))))).mono ?_;rintro e w1 ⟨u1,rfl,vL,aU⟩)
  | (go_at_call_of 79 (Value.slice q m d);refine (fZ _ Y k w _ HU.out (by (with_reducible (repeat (first | assumption | exact aj.refl _ | refine aj.drew ?_ | refine aj.drewN ?_ _ | refine aj.alloc ?_ _ | refine aj.aI ?_ (by assumption) | refine aj.setCell ?_ (by first | omega | (simp;done) | (simp;omega)) _))))).mono ?_;rintro e w2 ⟨u2,rfl,vM,bn⟩)
  | (go_at_call 110;refine (CU _ _ X Y _ (vL.bk (by (with_reducible (repeat (first | assumption | exact aj.refl _ | refine aj.drew ?_ | refine aj.drewN ?_ _ | refine aj.alloc ?_ _ | refine aj.aI ?_ (by assumption) | refine aj.setCell ?_ (by first | omega | (simp;done) | (simp;omega)) _))))) (vM.bk (by (with_reducible (repeat (first | assumption | exact aj.refl _ | refine aj.drew ?_ | refine aj.drewN ?_ _ | refine aj.alloc ?_ _ | refine aj.aI ?_ (by assumption) | refine aj.setCell ?_ (by first | omega | (simp;done) | (simp;omega)) _))))) (Nat.le_trans sP hj) (Nat.le_trans oc hk)).mono ?_;rintro e w3 ⟨r,rfl,aH,cI⟩;obtain ⟨sg,pp,nn,cc,rfl⟩:=aH.form;obtain ⟨e5,e6,g5,g6⟩:=(aV.bk (w':=w3) b3 (by (with_reducible (repeat (first | assumption | exact aj.refl _ | refine aj.drew ?_ | refine aj.drewN ?_ _ | refine aj.alloc ?_ _ | refine aj.aI ?_ (by assumption) | refine aj.setCell ?_ (by first | omega | (simp;done) | (simp;omega)) _))))).two)
  | fail)
 have FC:=(aV.bk (w':=w3) b3 (by (with_reducible (repeat (first | assumption | exact aj.refl _ | refine aj.drew ?_ | refine aj.drewN ?_ _ | refine aj.alloc ?_ _ | refine aj.aI ?_ (by assumption) | refine aj.setCell ?_ (by first | omega | (simp;done) | (simp;omega)) _)))))
 have FB:aj w w3:=(by (with_reducible (repeat (first | assumption | exact aj.refl _ | refine aj.drew ?_ | refine aj.drewN ?_ _ | refine aj.alloc ?_ _ | refine aj.aI ?_ (by assumption) | refine aj.setCell ?_ (by first | omega | (simp;done) | (simp;omega)) _))))
 have FZ:aj w w2:=(by (with_reducible (repeat (first | assumption | exact aj.refl _ | refine aj.drew ?_ | refine aj.drewN ?_ _ | refine aj.alloc ?_ _ | refine aj.aI ?_ (by assumption) | refine aj.setCell ?_ (by first | omega | (simp;done) | (simp;omega)) _))))
 have HO:=Lib.hid (aH.bA FC (by decide) (.bool sg) (.slice pp nn cc))
 clear aH
 have AG:=FC.bA (.bool (sg)) (.slice pp (nn) cc)
 have AH:=aj.bA FB (b:=w.heap.size + 1 + 1) (by omega) (.bool (sg)) (.slice pp (nn) cc)
 go_wp2
 generalize (w3.setCell ⟨w.heap.size + 1 + 1,0,none⟩ (.bool (sg))).setCell ⟨w.heap.size + 1 + 1,1,none⟩ (.slice pp (nn) cc)=wz at *
 obtain ⟨AJ,AK,_,_⟩:=AG.two
 refine bodyPost_ret (v:=.agg #[.bool (sg),.slice pp (nn) cc]) (by simp [results,Tryz.results84,go_sem,AJ,AK]) rfl (bt.out _ _ ?_)
 exact ⟨_,rfl,HO.out.mono FZ.size,AH⟩
set_option maxHeartbeats 1000000 in
theorem Lq (v u:Value) (X Y:Int) (j k:Nat) (w:World) (hv:bS w v X j) (hu:bS w u Y k) (hj:j≤1073741824) (hk:k≤1073741824):
  Calls Tryz.prog 78 #[v,u] w fun e w'=>∃ r,e=.returned r∧aE w' w.heap.size r (X - Y)∧aj w w':=by
 obtain ⟨s,p,n,c,rfl⟩:=hv.form
 obtain ⟨t,q,m,d,rfl⟩:=hu.form
 refine aN fun R' bt=> ?_
 obtain ⟨b1,b2,b3,lO⟩:=mM w 24 24 24 #[.bool s,.slice p n c] #[.bool t,.slice q m d] #[.bool false,.slice none 0 0]
 have sP:=hv.len
 have oc:=hu.len
 have HV:=Lib.hid hv
 have HU:=Lib.hid hu
 have hsz:w.heap.size + 3≤(((w.alloc (.cells #[.bool s,.slice p n c] 24)).alloc (.cells #[.bool t,.slice q m d] 24)).alloc (.cells #[.bool false,.slice none 0 0] 24)).heap.size:=by simp
 clear hv hu
 go_enter Tryz.func78,Tryz.ntmps78
 go_wp2_with fail
 generalize ((w.alloc _).alloc _).alloc _=W at *
 have HS:=Lib.hid (fun w' (h:aC W (w.heap.size + 1 + 1) w')=>And.intro (h.cells b1 (by omega)) (h.cells b2 (by omega)))
 obtain ⟨c1,c2,_,_⟩:=b1.two
 obtain ⟨c3,c4,_,_⟩:=b2.two
 obtain ⟨c5,c6,f5,f6⟩:=b3.two
 go_region_held3 (fun w'=>(w'.cell? ⟨w.heap.size,0,none⟩=some (.bool s)∧w'.cell? ⟨w.heap.size,1,none⟩=some (.slice p n c))∧w'.cell? ⟨w.heap.size + 1,0,none⟩=some (.bool t)∧w'.cell? ⟨w.heap.size + 1,1,none⟩=some (.slice q m d)) ((refine HS.out _ ?_;(with_reducible (repeat (first | exact aC.refl _ _ | refine aC.drew ?_ | refine aC.drewN ?_ _ | refine aC.alloc ?_ _ | refine aC.set ?_ _ | refine aC.aI ?_ (by assumption) | refine aC.om ?_ (by first | omega | (simp;done) | (simp;omega)) _))))) (first
  | (go_at_call_of 79 (Value.slice p n c);refine (fZ _ X j w _ HV.out (by (with_reducible (repeat (first | assumption | exact aj.refl _ | refine aj.drew ?_ | refine aj.drewN ?_ _ | refine aj.alloc ?_ _ | refine aj.aI ?_ (by assumption) | refine aj.setCell ?_ (by first | omega | (simp;done) | (simp;omega)) _))))).mono ?_;rintro e w1 ⟨u1,rfl,vL,aU⟩)
  | (go_at_call_of 79 (Value.slice q m d);refine (fZ _ Y k w _ HU.out (by (with_reducible (repeat (first | assumption | exact aj.refl _ | refine aj.drew ?_ | refine aj.drewN ?_ _ | refine aj.alloc ?_ _ | refine aj.aI ?_ (by assumption) | refine aj.setCell ?_ (by first | omega | (simp;done) | (simp;omega)) _))))).mono ?_;rintro e w2 ⟨u2,rfl,vM,bn⟩)
  | (go_at_call 111;refine (xq _ Y _ (vM.bk (by (with_reducible (repeat (first | assumption | exact aj.refl _ | refine aj.drew ?_ | refine aj.drewN ?_ _ | refine aj.alloc ?_ _ | refine aj.aI ?_ (by assumption) | refine aj.setCell ?_ (by first | omega | (simp;done) | (simp;omega)) _)))))).mono ?_;rintro e w4 ⟨u4,rfl,hu4,gI⟩)
  | (go_at_call 110;refine (CU _ _ X (-Y) _ (vL.bk (by (with_reducible (repeat (first | assumption | exact aj.refl _ | refine aj.drew ?_ | refine aj.drewN ?_ _ | refine aj.alloc ?_ _ | refine aj.aI ?_ (by assumption) | refine aj.setCell ?_ (by first | omega | (simp;done) | (simp;omega)) _))))) (hu4.bk (by (with_reducible (repeat (first | assumption | exact aj.refl _ | refine aj.drew ?_ | refine aj.drewN ?_ _ | refine aj.alloc ?_ _ | refine aj.aI ?_ (by assumption) | refine aj.setCell ?_ (by first | omega | (simp;done) | (simp;omega)) _))))) (Nat.le_trans sP hj) (by rw [Int.natAbs_neg];exact Nat.le_trans oc hk)).mono ?_;rintro e w3 ⟨r,rfl,aH,cI⟩;obtain ⟨sg,pp,nn,cc,rfl⟩:=aH.form;obtain ⟨e5,e6,g5,g6⟩:=(aV.bk (w':=w3) b3 (by (with_reducible (repeat (first | assumption | exact aj.refl _ | refine aj.drew ?_ | refine aj.drewN ?_ _ | refine aj.alloc ?_ _ | refine aj.aI ?_ (by assumption) | refine aj.setCell ?_ (by first | omega | (simp;done) | (simp;omega)) _))))).two)
  | fail)
 rw [←Int.sub_eq_add_neg] at aH
 have FC:=(aV.bk (w':=w3) b3 (by (with_reducible (repeat (first | assumption | exact aj.refl _ | refine aj.drew ?_ | refine aj.drewN ?_ _ | refine aj.alloc ?_ _ | refine aj.aI ?_ (by assumption) | refine aj.setCell ?_ (by first | omega | (simp;done) | (simp;omega)) _)))))
 have FB:aj w w3:=(by (with_reducible (repeat (first | assumption | exact aj.refl _ | refine aj.drew ?_ | refine aj.drewN ?_ _ | refine aj.alloc ?_ _ | refine aj.aI ?_ (by assumption) | refine aj.setCell ?_ (by first | omega | (simp;done) | (simp;omega)) _))))
 have FZ:aj w w4:=(by (with_reducible (repeat (first | assumption | exact aj.refl _ | refine aj.drew ?_ | refine aj.drewN ?_ _ | refine aj.alloc ?_ _ | refine aj.aI ?_ (by assumption) | refine aj.setCell ?_ (by first | omega | (simp;done) | (simp;omega)) _))))
 have HO:=Lib.hid (aH.bA FC (by decide) (.bool sg) (.slice pp nn cc))
 clear aH
 have AG:=FC.bA (.bool (sg)) (.slice pp (nn) cc)
 have AH:=aj.bA FB (b:=w.heap.size + 1 + 1) (by omega) (.bool (sg)) (.slice pp (nn) cc)
 go_wp2
 generalize (w3.setCell ⟨w.heap.size + 1 + 1,0,none⟩ (.bool (sg))).setCell ⟨w.heap.size + 1 + 1,1,none⟩ (.slice pp (nn) cc)=wz at *
 obtain ⟨AJ,AK,_,_⟩:=AG.two
 refine bodyPost_ret (v:=.agg #[.bool (sg),.slice pp (nn) cc]) (by simp [results,Tryz.results78,go_sem,AJ,AK]) rfl (bt.out _ _ ?_)
 exact ⟨_,rfl,HO.out.mono FZ.size,AH⟩
def GP (w W wc:World) (T:TypeId) (X Y:Int) (x y:Value):Prop:=∃ g h s1 p1 n1 k1 s2 p2 n2 k2,x=.pointer (some ⟨g,0,none⟩)∧y=.pointer (some ⟨h,0,none⟩)∧aV wc g T #[.bool s1,.slice p1 n1 k1]∧aV wc h T #[.bool s2,.slice p2 n2 k2]∧
 bQ w (.agg #[.bool s1,.slice p1 n1 k1]) X∧bQ w (.agg #[.bool s2,.slice p2 n2 k2]) Y∧aj W wc
set_option maxHeartbeats 1000000 in
theorem kf (v u:Value) (X Y:Int) (j k:Nat) (w:World) (hv:bS w v X j) (hu:bS w u Y k) (hj:j≤536870912) (hk:k≤536870912):
  Calls Tryz.prog 42 #[v,u] w fun e w'=>∃ r,e=.returned r∧aE w' w.heap.size r (X * Y)∧aj w w':=by
 obtain ⟨s,p,n,c,rfl⟩:=hv.form
 obtain ⟨t,q,m,d,rfl⟩:=hu.form
 refine aN fun R' bt=> ?_
 obtain ⟨b1,b2,b3,lO⟩:=mM w 24 24 24 #[.bool s,.slice p n c] #[.bool t,.slice q m d] #[.bool false,.slice none 0 0]
 have sP:=hv.len
 have oc:=hu.len
 have HV:=Lib.hid hv
 have HU:=Lib.hid hu
 have hsz:w.heap.size + 3≤(((w.alloc (.cells #[.bool s,.slice p n c] 24)).alloc (.cells #[.bool t,.slice q m d] 24)).alloc (.cells #[.bool false,.slice none 0 0] 24)).heap.size:=by simp
 clear hv hu
 go_enter Tryz.func42,Tryz.ntmps42
 go_wp2_with fail
 generalize ((w.alloc _).alloc _).alloc _=W at *
 have HS:=Lib.hid (fun w' (h:aC W (w.heap.size + 1 + 1) w')=>And.intro (h.cells b1 (by omega)) (h.cells b2 (by omega)))
 obtain ⟨c1,c2,_,_⟩:=b1.two
 obtain ⟨c3,c4,_,_⟩:=b2.two
 obtain ⟨c5,c6,f5,f6⟩:=b3.two
 go_cut [5,6] (fun x5 x6 wc=>GP w W wc 137 X Y x5 x6)
 case first=>
  go_region_held3 (fun w'=>(w'.cell? ⟨w.heap.size,0,none⟩=some (.bool s)∧w'.cell? ⟨w.heap.size,1,none⟩=some (.slice p n c))∧w'.cell? ⟨w.heap.size + 1,0,none⟩=some (.bool t)∧w'.cell? ⟨w.heap.size + 1,1,none⟩=some (.slice q m d)) ((refine HS.out _ ?_;(with_reducible (repeat (first | exact aC.refl _ _ | refine aC.drew ?_ | refine aC.drewN ?_ _ | refine aC.alloc ?_ _ | refine aC.set ?_ _ | refine aC.aI ?_ (by assumption) | refine aC.om ?_ (by first | omega | (simp;done) | (simp;omega)) _))))) (first
   | (go_at_call_of 79 (Value.slice p n c);refine (fZ _ X j w _ HV.out (by (with_reducible (repeat (first | assumption | exact aj.refl _ | refine aj.drew ?_ | refine aj.drewN ?_ _ | refine aj.alloc ?_ _ | refine aj.aI ?_ (by assumption) | refine aj.setCell ?_ (by first | omega | (simp;done) | (simp;omega)) _))))).mono ?_;rintro e w1 ⟨u1,rfl,vL,aU⟩;obtain ⟨s1,p1,n1,k1,rfl⟩:=vL.ij;have GL:=aU.size;(try simp at GL);(try (have q1:=aV.bk (aV.drew (aV.new _ _ #[_,_])) aU;(try simp at q1);obtain ⟨q1a,q1b,q1c,q1d⟩:=q1.two;have q1l:=q1.lt;have q1n:=Nat.ne_of_lt q1l;have q1m:=Nat.ne_of_gt q1l));(try (have q2:=aV.bk (aV.drew (aV.alloc (aV.new _ _ #[_,_]) _)) aU;(try simp at q2);obtain ⟨q2a,q2b,q2c,q2d⟩:=q2.two;have q2l:=q2.lt;have q2n:=Nat.ne_of_lt q2l;have q2m:=Nat.ne_of_gt q2l)))
   | (go_at_call_of 79 (Value.slice q m d);refine (fZ _ Y k w _ HU.out (by (with_reducible (repeat (first | assumption | exact aj.refl _ | refine aj.drew ?_ | refine aj.drewN ?_ _ | refine aj.alloc ?_ _ | refine aj.aI ?_ (by assumption) | refine aj.setCell ?_ (by first | omega | (simp;done) | (simp;omega)) _))))).mono ?_;rintro e w2 ⟨u2,rfl,vM,bn⟩;obtain ⟨s2,p2,n2,k2,rfl⟩:=vM.ij;have Ff:=bn.size;(try simp at Ff);(try (have q3:=aV.bk (aV.new _ _ #[_,_]) bn;(try simp at q3);obtain ⟨q3a,q3b,q3c,q3d⟩:=q3.two;have q3l:=q3.lt;have q3n:=Nat.ne_of_lt q3l;have q3m:=Nat.ne_of_gt q3l));(try (have q4:=aV.bk (aV.alloc (aV.new _ _ #[_,_]) _) bn;(try simp at q4);obtain ⟨q4a,q4b,q4c,q4d⟩:=q4.two;have q4l:=q4.lt;have q4n:=Nat.ne_of_lt q4l;have q4m:=Nat.ne_of_gt q4l));(try (have q5:=aV.bk q1 bn;(try simp at q5);obtain ⟨q5a,q5b,q5c,q5d⟩:=q5.two;have q5l:=q5.lt;have q5n:=Nat.ne_of_lt q5l;have q5m:=Nat.ne_of_gt q5l));(try (have q6:=aV.bk q2 bn;(try simp at q6);obtain ⟨q6a,q6b,q6c,q6d⟩:=q6.two;have q6l:=q6.lt;have q6n:=Nat.ne_of_lt q6l;have q6m:=Nat.ne_of_gt q6l));(try (have q7:=aV.bk (aV.alloc q1 _) bn;(try simp at q7);obtain ⟨q7a,q7b,q7c,q7d⟩:=q7.two;have q7l:=q7.lt;have q7n:=Nat.ne_of_lt q7l;have q7m:=Nat.ne_of_gt q7l)))
   | fail)
  all_goals
   go_wp2
   go_meet
   refine ⟨_,_,s1,p1,n1,k1,s2,p2,n2,k2,rfl,rfl,?_,?_,vL,vM,?_⟩
   ·(with_reducible (repeat (first | assumption | exact aV.newAt (by first | rfl | (simp;done)) _ _ | refine aV.alloc ?_ _ | refine aV.drew ?_ | refine aV.bA (u:=.bool false) (v:=.slice none 0 0) ?_ _ _ | refine aV.dx ?_ (by first | omega | (simp;omega)) _ _ | refine aV.bk ?_ (by assumption))))
   ·(with_reducible (repeat (first | assumption | exact aV.newAt (by first | rfl | (simp;done)) _ _ | refine aV.alloc ?_ _ | refine aV.drew ?_ | refine aV.bA (u:=.bool false) (v:=.slice none 0 0) ?_ _ _ | refine aV.dx ?_ (by first | omega | (simp;omega)) _ _ | refine aV.bk ?_ (by assumption))))
   ·(with_reducible (repeat (first | assumption | exact aj.refl _ | refine aj.drew ?_ | refine aj.drewN ?_ _ | refine aj.alloc ?_ _ | refine aj.aI ?_ (by assumption) | refine aj.setCell ?_ (by first | omega | (simp;done) | (simp;omega)) _)))
 case rest=>
  obtain ⟨g,h,s1,p1,n1,k1,s2,p2,n2,k2,rfl,rfl,B5,B6,vL,vM,hbc⟩:=hcut
  obtain ⟨sU,ic,hX⟩:=vL.parts
  obtain ⟨yC,ji,hY⟩:=vM.parts
  have B3:=b3.bk hbc
  have jP:aj w wc:=lO.aI hbc
  have HR1:=Lib.hid (ic.below jP)
  have HR2:=Lib.hid (ji.below jP)
  have HN1:=Lib.hid sU
  have HN2:=Lib.hid yC
  have HX:=Lib.hid hX
  have HY:=Lib.hid hY
  have hm1:n1≤536870912:=by omega
  have CW:n2≤536870912:=by omega
  clear c1 c2 c3 c4 c5 c6 f5 f6 b1 b2 b3 hbc lO vL vM ic ji hX hY sU yC HS
  obtain ⟨c1,c2,_,_⟩:=B5.two
  obtain ⟨c3,c4,_,_⟩:=B6.two
  obtain ⟨c5,c6,f5,f6⟩:=B3.two
  have hg:g≠w.heap.size + 1 + 1:=fun e=>by subst e;have:=(show wc.heap[_]? =_ from B5).symm.trans B3;simp at this
  have hh:h≠w.heap.size + 1 + 1:=fun e=>by subst e;have:=(show wc.heap[_]? =_ from B6).symm.trans B3;simp at this
  have HS:=Lib.hid (fun w' (hk:aC wc (w.heap.size + 1 + 1) w')=>And.intro (hk.cells B5 hg) (hk.cells B6 hh))
  go_wp2_with fail
  go_region_held3 (fun w'=>(w'.cell? ⟨g,0,none⟩=some (.bool s1)∧w'.cell? ⟨g,1,none⟩=some (.slice p1 n1 k1))∧w'.cell? ⟨h,0,none⟩=some (.bool s2)∧w'.cell? ⟨h,1,none⟩=some (.slice p2 n2 k2)) ((refine HS.out _ ?_;(with_reducible (repeat (first | exact aC.refl _ _ | refine aC.drew ?_ | refine aC.drewN ?_ _ | refine aC.alloc ?_ _ | refine aC.set ?_ _ | refine aC.aI ?_ (by assumption) | refine aC.om ?_ (by first | omega | (simp;done) | (simp;omega)) _))))) (first
   | (go_at_call 81;refine (KB _ _ n1 n2 _ _ _ (HR1.out.below (aj.refl wc).drew) (HR2.out.below (aj.refl wc).drew) (az _) (az _) hm1 CW).mono ?_;rintro e w1 ⟨v1,rfl,tz,aU⟩;replace aU:aj _ w1:=aU;rw [au,au] at tz;obtain ⟨q1,l1,rfl,_,_,_⟩:=Own.form tz)
   | (go_at_call 80;refine (fm _ _ _ _ _).mono ?_;rintro e w3 ⟨sg,rfl,kE,cI⟩;obtain ⟨e5,e6,g5,g6⟩:=(aV.bk (w':=w3) B3 (by (with_reducible (repeat (first | assumption | exact aj.refl _ | refine aj.drew ?_ | refine aj.drewN ?_ _ | refine aj.alloc ?_ _ | refine aj.aI ?_ (by assumption) | refine aj.setCell ?_ (by first | omega | (simp;done) | (simp;omega)) _))))).two)
   | fail)
  have FC:=(aV.bk (w':=w3) B3 (by (with_reducible (repeat (first | assumption | exact aj.refl _ | refine aj.drew ?_ | refine aj.drewN ?_ _ | refine aj.alloc ?_ _ | refine aj.aI ?_ (by assumption) | refine aj.setCell ?_ (by first | omega | (simp;done) | (simp;omega)) _)))))
  have FB:aj w w3:=(by (with_reducible (repeat (first | assumption | exact aj.refl _ | refine aj.drew ?_ | refine aj.drewN ?_ _ | refine aj.alloc ?_ _ | refine aj.aI ?_ (by assumption) | refine aj.setCell ?_ (by first | omega | (simp;done) | (simp;omega)) _))))
  generalize hL:(limbs (X.natAbs * Y.natAbs)).length=L at *
  have HL:=Lib.hid hL
  have HO:=Lib.hid (Own.bA (Own.below tz cI) FC (by decide) (.bool sg) (.slice q1 L l1))
  clear tz hL
  have AG:=FC.bA (.bool (sg)) (.slice q1 (L) l1)
  have AH:=aj.bA FB (b:=w.heap.size + 1 + 1) (by omega) (.bool (sg)) (.slice q1 (L) l1)
  go_wp2
  generalize (w3.setCell ⟨w.heap.size + 1 + 1,0,none⟩ (.bool (sg))).setCell ⟨w.heap.size + 1 + 1,1,none⟩ (.slice q1 (L) l1)=wz at *
  obtain ⟨AJ,AK,_,_⟩:=AG.two
  refine bodyPost_ret (v:=.agg #[.bool (sg),.slice q1 (L) l1]) (by simp [results,Tryz.results42,go_sem,AJ,AK]) rfl (bt.out _ _ ?_)
  rw [kE.out]
  refine ⟨_,rfl,aE.of (m:=X.natAbs * Y.natAbs) (by rw [HL.out];exact Own.mono HO.out jP.size) HL.out.symm _ ?_,AH⟩
  rw [HX.out,HY.out]
  cases s1 <;> cases s2 <;> simp [Int.neg_mul,Int.mul_neg]
end Go.Proofs.YtabalinjfgcfeaaGreat
namespace Go.Proofs.YtabalinjfgcfeaaGreat
open Go.RowKit
theorem tA (s:Bool) (p:Option Addr) (n c:Nat) (w:World):(Instr.field 137 (.agg #[.bool s,.slice p n c]) 0).run Tryz.prog w=.ok (.agg #[.bool s,.slice p n c]) w:=by kernel_rfl
theorem tB (s:Bool) (p:Option Addr) (n c:Nat) (w:World):(Instr.field 24 (.agg #[.bool s,.slice p n c]) 1).run Tryz.prog w=.ok (.slice p n c) w:=by kernel_rfl
set_option maxHeartbeats 1000000 in
theorem CX (v:Value) (X:Int) (j:Nat) (w:World) (hv:bS w v X j) (hj:j≤1073741824):
  Calls Tryz.prog 113 #[v] w fun e w'=>∃ r,e=.returned r∧aE w' w.heap.size r (-X)∧aj w w':=by
 obtain ⟨s,p,n,c,rfl⟩:=hv.form
 refine aN fun R' bt=> ?_
 obtain ⟨b1,b2,lO⟩:=lB w 24 24 #[.bool s,.slice p n c] #[.bool false,.slice none 0 0]
 have sP:=hv.len
 have HV:=Lib.hid hv
 have hsz:w.heap.size + 2≤((w.alloc (.cells #[.bool s,.slice p n c] 24)).alloc (.cells #[.bool false,.slice none 0 0] 24)).heap.size:=by simp
 clear hv
 go_enter Tryz.func113,Tryz.ntmps113
 go_wp2_with fail
 generalize (w.alloc _).alloc _=W at *
 refine (fZ _ X j w _ HV.out (by (with_reducible (repeat (first | assumption | exact aj.refl _ | refine aj.drew ?_ | refine aj.drewN ?_ _ | refine aj.alloc ?_ _ | refine aj.aI ?_ (by assumption) | refine aj.setCell ?_ (by first | omega | (simp;done) | (simp;omega)) _))))).mono ?_
 rintro e w1 ⟨v1,rfl,ky,aU⟩
 go_wp2_with fail
 refine (xq _ X _ (ky.bk (by (with_reducible (repeat (first | assumption | exact aj.refl _ | refine aj.drew ?_ | refine aj.drewN ?_ _ | refine aj.alloc ?_ _ | refine aj.aI ?_ (by assumption) | refine aj.setCell ?_ (by first | omega | (simp;done) | (simp;omega)) _)))))).mono ?_
 rintro e w2 ⟨v2,rfl,yA,bn⟩
 obtain ⟨s2,p2,n2,k2,rfl⟩:=yA.ij
 obtain ⟨yC,ji,_⟩:=yA.parts
 have CW:n2≤1073741824:=by rw [yC,Int.natAbs_neg];omega
 have HN2:=Lib.hid yC
 have HI2:=Lib.hid yA
 have HR2:=Lib.hid ji
 clear yA yC ji ky
 go_wp2_with fail
 have B5:=aV.new w2 137 #[.bool s2,.slice p2 n2 k2]
 have hbT:aj w2 (w2.alloc (.cells #[.bool s2,.slice p2 n2 k2] 137)):=(aj.refl w2).alloc _
 have B2:=((b2.bk aU).bk bn).bk hbT
 have hlt:=b2.lt
 have vx:=aU.size
 have hbs2:=bn.size
 have hne:w2.heap.size≠w.heap.size + 1:=by omega
 generalize w2.alloc _=T at *
 have HS:=Lib.hid (fun w' (hk:aC T (w.heap.size + 1) w')=>hk.cells B5 hne)
 obtain ⟨c1,c2,_,_⟩:=B5.two
 obtain ⟨c5,c6,f5,f6⟩:=B2.two
 go_region_held3 (fun w'=>w'.cell? ⟨w2.heap.size,0,none⟩=some (.bool s2)∧w'.cell? ⟨w2.heap.size,1,none⟩=some (.slice p2 n2 k2)) ((refine HS.out _ ?_;(with_reducible (repeat (first | exact aC.refl _ _ | refine aC.drew ?_ | refine aC.drewN ?_ _ | refine aC.alloc ?_ _ | refine aC.set ?_ _ | refine aC.aI ?_ (by assumption) | refine aC.om ?_ (by first | omega | (simp;done) | (simp;omega)) _))))) (first
  | (go_at_call 133;refine (iP _ n2 _ _ (Rd.below (HR2.out.below hbT) (aj.refl T).drew) CW).mono ?_;rintro e w3 ⟨v3,rfl,Fc,cI⟩;replace cI:aj _ w3:=cI;obtain ⟨q3,l3,rfl,_,_,_⟩:=Own.form Fc;obtain ⟨e5,e6,g5,g6⟩:=(aV.bk (w':=w3) B2 (by (with_reducible (repeat (first | assumption | exact aj.refl _ | refine aj.drew ?_ | refine aj.drewN ?_ _ | refine aj.alloc ?_ _ | refine aj.aI ?_ (by assumption) | refine aj.setCell ?_ (by first | omega | (simp;done) | (simp;omega)) _))))).two)
  | fail)
 have FC:=(aV.bk (w':=w3) B2 (by (with_reducible (repeat (first | assumption | exact aj.refl _ | refine aj.drew ?_ | refine aj.drewN ?_ _ | refine aj.alloc ?_ _ | refine aj.aI ?_ (by assumption) | refine aj.setCell ?_ (by first | omega | (simp;done) | (simp;omega)) _)))))
 have FB:aj w w3:=(by (with_reducible (repeat (first | assumption | exact aj.refl _ | refine aj.drew ?_ | refine aj.drewN ?_ _ | refine aj.alloc ?_ _ | refine aj.aI ?_ (by assumption) | refine aj.setCell ?_ (by first | omega | (simp;done) | (simp;omega)) _))))
 have FT:aj w T:=(by (with_reducible (repeat (first | assumption | exact aj.refl _ | refine aj.drew ?_ | refine aj.drewN ?_ _ | refine aj.alloc ?_ _ | refine aj.aI ?_ (by assumption) | refine aj.setCell ?_ (by first | omega | (simp;done) | (simp;omega)) _))))
 have HO:=Lib.hid (Own.bA Fc FC (by decide) (.bool s2) (.slice q3 n2 l3))
 clear Fc
 have AG:=FC.bA (.bool (s2)) (.slice q3 (n2) l3)
 have AH:=aj.bA FB (b:=w.heap.size + 1) (by omega) (.bool (s2)) (.slice q3 (n2) l3)
 go_wp2
 generalize (w3.setCell ⟨w.heap.size + 1,0,none⟩ (.bool (s2))).setCell ⟨w.heap.size + 1,1,none⟩ (.slice q3 (n2) l3)=wz at *
 obtain ⟨AJ,AK,_,_⟩:=AG.two
 refine bodyPost_ret (v:=.agg #[.bool (s2),.slice q3 (n2) l3]) (by simp [results,Tryz.results113,go_sem,AJ,AK]) rfl (bt.out _ _ ?_)
 exact ⟨_,rfl,HI2.out.own (Own.mono HO.out FT.size),AH⟩
set_option maxRecDepth 100000 in
set_option maxHeartbeats 1000000 in
theorem Lr (v:Value) (X:Int) (j:Nat) (w:World) (hv:bS w v X j) (hj:j≤1073741824):
  Calls Tryz.prog 129 #[v] w fun e w'=>∃ r,e=.returned r∧aE w' w.heap.size r (X.natAbs:Int)∧aj w w':=by
 obtain ⟨s,p,n,c,rfl⟩:=hv.form
 refine aN fun R' bt=> ?_
 obtain ⟨b1,b2,lO⟩:=lB w 24 24 #[.bool s,.slice p n c] #[.bool false,.slice none 0 0]
 have sP:=hv.len
 have HV:=Lib.hid hv
 clear hv
 go_enter Tryz.func129,Tryz.ntmps129
 go_wp2_with fail
 generalize (w.alloc _).alloc _=W at *
 refine (fZ _ X j w _ HV.out (by (with_reducible (repeat (first | assumption | exact aj.refl _ | refine aj.drew ?_ | refine aj.drewN ?_ _ | refine aj.alloc ?_ _ | refine aj.aI ?_ (by assumption) | refine aj.setCell ?_ (by first | omega | (simp;done) | (simp;omega)) _))))).mono ?_
 rintro e w1 ⟨v1,rfl,ky,aU⟩
 obtain ⟨s2,p2,n2,k2,rfl⟩:=ky.ij
 obtain ⟨yC,ji,_⟩:=ky.parts
 have CW:n2≤1073741824:=by rw [yC];omega
 have HN2:=Lib.hid yC
 have HR2:=Lib.hid ji
 have jP:aj w w1:=lO.aI aU
 have hf1:=tA s2 p2 n2 k2 w1
 have hf2:=tB s2 p2 n2 k2 w1
 clear yC ji ky
 go_wp2_with fail
 refine (iP _ n2 _ _ (HR2.out.below jP) CW).mono ?_
 rintro e w3 ⟨v3,rfl,Fc,cI⟩
 replace cI:aj _ w3:=cI
 obtain ⟨q3,l3,rfl,_,_,_⟩:=Own.form Fc
 have FC:=(aV.bk (w':=w3) b2 (by (with_reducible (repeat (first | assumption | exact aj.refl _ | refine aj.drew ?_ | refine aj.drewN ?_ _ | refine aj.alloc ?_ _ | refine aj.aI ?_ (by assumption) | refine aj.setCell ?_ (by first | omega | (simp;done) | (simp;omega)) _)))))
 have FB:aj w w3:=(by (with_reducible (repeat (first | assumption | exact aj.refl _ | refine aj.drew ?_ | refine aj.drewN ?_ _ | refine aj.alloc ?_ _ | refine aj.aI ?_ (by assumption) | refine aj.setCell ?_ (by first | omega | (simp;done) | (simp;omega)) _))))
 have HO:=Lib.hid (Own.bA Fc FC (by decide) (.bool false) (.slice q3 n2 l3))
 obtain ⟨e5,e6,g5,g6⟩:=FC.two
 clear Fc
 have AG:=FC.bA (.bool (false)) (.slice q3 (n2) l3)
 have AH:=aj.bA FB (b:=w.heap.size + 1) (by omega) (.bool (false)) (.slice q3 (n2) l3)
 go_wp2
 generalize (w3.setCell ⟨w.heap.size + 1,0,none⟩ (.bool (false))).setCell ⟨w.heap.size + 1,1,none⟩ (.slice q3 (n2) l3)=wz at *
 obtain ⟨AJ,AK,_,_⟩:=AG.two
 refine bodyPost_ret (v:=.agg #[.bool (false),.slice q3 (n2) l3]) (by simp [results,Tryz.results129,go_sem,AJ,AK]) rfl (bt.out _ _ ?_)
 exact ⟨_,rfl,aE.ofNat (Own.mono HO.out jP.size) HN2.out,AH⟩
set_option maxHeartbeats 1000000 in
theorem pz (v:Value) (X:Int) (j:Nat) (w:World) (hv:bS w v X j):
  Calls Tryz.prog 43 #[v] w fun e w'=>e=.returned (.int .i64 X.sign)∧aj w w':=by
 obtain ⟨s,p,n,c,rfl⟩:=hv.form
 refine aN fun R' bt=> ?_
 have HV:=Lib.hid hv
 have lO:=(aj.refl w).alloc (.cells #[.bool s,.slice p n c] 24)
 clear hv
 go_enter Tryz.func43,Tryz.ntmps43
 go_wp2_with fail
 generalize w.alloc _=W at *
 refine (fZ _ X j w _ HV.out (by (with_reducible (repeat (first | assumption | exact aj.refl _ | refine aj.drew ?_ | refine aj.drewN ?_ _ | refine aj.alloc ?_ _ | refine aj.aI ?_ (by assumption) | refine aj.setCell ?_ (by first | omega | (simp;done) | (simp;omega)) _))))).mono ?_
 rintro e w1 ⟨v1,rfl,ky,aU⟩
 obtain ⟨s2,p2,n2,k2,rfl⟩:=ky.ij
 obtain ⟨yC,_,hX⟩:=ky.parts
 have jP:aj w w1:=lO.aI aU
 have kE:=ky.sgn
 clear ky
 cases s2
 ·by_cases h0:X=0
  ·subst h0
   have:n2=0:=by rw [yC];simp [bB]
   subst this
   clear yC hX kE
   go_wp2
   exact bt.out _ _ ⟨rfl,jP.alloc _⟩
  ·have hp:0 < n2:=by rw [yC];exact dc (by omega)
   have hs:X.sign=1:=eZ (by simp at hX;omega)
   rw [hs] at bt
   clear yC hX kE
   have zw:(0:Int) < (n2:Int):=by omega
   go_wp2
   exact bt.out _ _ ⟨rfl,jP.alloc _⟩
 ·have hs:X.sign= -1:=sign_neg (of_decide_eq_true kE.symm)
  rw [hs] at bt
  clear yC hX kE
  go_wp2
  exact bt.out _ _ ⟨rfl,jP.alloc _⟩
theorem xr (v u:Value) (X Y:Int) (j k:Nat) (w:World) (hv:bS w v X j) (hu:bS w u Y k) (hj:j≤1073741824) (hk:k≤1073741824):
  Calls Tryz.prog 41 #[v,u] w fun e w'=>e=.returned (.int .i64 (X - Y).sign)∧aj w w':=by
 obtain ⟨s,p,n,c,rfl⟩:=hv.form
 obtain ⟨t,q,m,d,rfl⟩:=hu.form
 refine aN fun R' bt=> ?_
 obtain ⟨b1,b2,lO⟩:=lB w 24 24 #[.bool s,.slice p n c] #[.bool t,.slice q m d]
 have HV:=Lib.hid (hv.bk lO)
 have HU:=Lib.hid (hu.bk lO)
 clear hv hu
 go_enter Tryz.func41,Tryz.ntmps41
 go_wp2_with fail
 generalize (w.alloc _).alloc _=W at *
 refine (Lq _ _ X Y j k _ HV.out HU.out hj hk).mono ?_
 rintro e w1 ⟨r,rfl,ho,aU⟩
 go_wp2_with fail
 refine (pz _ (X - Y) _ _ (ho.rd.to (Nat.le_refl _))).mono ?_
 rintro e w2 ⟨rfl,bn⟩
 go_wp2
 exact bt.out _ _ ⟨rfl,(lO.aI aU).aI bn⟩
theorem u64neg {n:Int} (h0:n < 0) (h1: -9223372036854775808≤n):IntKind.u64.wrap (-(IntKind.u64.wrap n))=(n.natAbs:Int):=by
 rw [rC,rC];omega
theorem u64pos {n:Int} (h0:0≤n) (h1:n≤9223372036854775807):IntKind.u64.wrap n=(n.natAbs:Int):=by
 rw [rC];omega
theorem uy {a:Nat}:aq [a % 4294967296,a / 4294967296]=a:=by
 rw [fi,fi,dW];omega
set_option maxRecDepth 100000 in
set_option maxHeartbeats 1000000 in
theorem GQ (n:Int) (w:World) (h0: -9223372036854775808≤n) (h1:n≤9223372036854775807):
  Calls Tryz.prog 82 #[.int .i64 n] w fun e w'=>∃ r,e=.returned r∧aE w' w.heap.size r n∧aj w w':=by
 refine aN fun R' bt=> ?_
 obtain ⟨a,ha⟩:∃ a,a=n.natAbs:=⟨_,rfl⟩
 have HA:=Lib.hid ha
 have ha2:a < 18446744073709551616:=by omega
 have jh:=aV.new w 24 #[.bool false,.slice none 0 0]
 have lO:=(aj.refl w).alloc (.cells #[.bool false,.slice none 0 0] 24)
 have hRl:=Rd.lit2 (w:=w.alloc (.cells #[.bool false,.slice none 0 0] 24)) (k:=.u32) (e:=117) (x:=(a:Int) % 4294967296) (y:=(a:Int) / 4294967296) (a:=a % 4294967296) (b:=a / 4294967296) (by omega) (by omega)
 rw [World.size_alloc] at hRl
 go_enter Tryz.func82,Tryz.ntmps82
 by_cases hn:n < 0
 ·have e1:=u64neg hn h0
  rw [←ha] at e1
  have HN:=Lib.hid hn
  clear ha
  go_wp2_with fail
  refine (jg _ 2 [a % 4294967296,a / 4294967296] _ hRl (cd.cons (by omega) (cd.cons (by omega) cd.nil)) (by omega)).mono ?_
  rintro e w1 ⟨v1,rfl,tz,aU⟩
  replace aU:aj _ w1:=aU
  rw [uy] at tz
  obtain ⟨p1,k1,rfl,_,_,_⟩:=Own.form tz
  generalize hL:(limbs a).length=L at *
  have HL:=Lib.hid hL
  have FC1:=(jh.alloc (.cells #[.int .u32 ((a:Int) % 4294967296),.int .u32 ((a:Int) / 4294967296)] 117)).bk aU
  have FB1:aj w w1:=(((aj.refl w).alloc _).alloc _).aI aU
  have qZ:=Lib.hid tz
  clear tz hL aU
  go_wp2_with fail
  refine (fm _ _ _ _ _).mono ?_
  rintro e w3 ⟨sg,rfl,kE,cI⟩
  have FC:=FC1.bk cI
  have FB:=FB1.aI cI
  obtain ⟨e5,e6,g5,g6⟩:=FC.two
  have HO:=Lib.hid (Own.bA (Own.below qZ.out cI) FC (by decide) (.bool sg) (.slice p1 L k1))
  clear qZ FC1
  have AG:=FC.bA (.bool (sg)) (.slice p1 (L) k1)
  have AH:=aj.bA FB (b:=w.heap.size) (by omega) (.bool (sg)) (.slice p1 (L) k1)
  go_wp2
  generalize (w3.setCell ⟨w.heap.size,0,none⟩ (.bool (sg))).setCell ⟨w.heap.size,1,none⟩ (.slice p1 (L) k1)=wz at *
  obtain ⟨AJ,AK,_,_⟩:=AG.two
  refine bodyPost_ret (v:=.agg #[.bool (sg),.slice p1 (L) k1]) (by simp [results,Tryz.results82,go_sem,AJ,AK]) rfl (bt.out _ _ ?_)
  rw [kE.out]
  refine ⟨_,rfl,aE.of (m:=a) (by rw [HL.out];exact Own.mono HO.out (by simp;omega)) HL.out.symm _ ?_,AH⟩
  have:=HN.out
  have:=HA.out
  simp;omega
 ·have e1:=u64pos (by omega:0≤n) h1
  rw [←ha] at e1
  have HN:=Lib.hid hn
  clear ha
  go_wp2_with fail
  refine (jg _ 2 [a % 4294967296,a / 4294967296] _ hRl (cd.cons (by omega) (cd.cons (by omega) cd.nil)) (by omega)).mono ?_
  rintro e w1 ⟨v1,rfl,tz,aU⟩
  replace aU:aj _ w1:=aU
  rw [uy] at tz
  obtain ⟨p1,k1,rfl,_,_,_⟩:=Own.form tz
  generalize hL:(limbs a).length=L at *
  have HL:=Lib.hid hL
  have FC1:=(jh.alloc (.cells #[.int .u32 ((a:Int) % 4294967296),.int .u32 ((a:Int) / 4294967296)] 117)).bk aU
  have FB1:aj w w1:=(((aj.refl w).alloc _).alloc _).aI aU
  have qZ:=Lib.hid tz
  clear tz hL aU
  go_wp2_with fail
  refine (fm _ _ _ _ _).mono ?_
  rintro e w3 ⟨sg,rfl,kE,cI⟩
  have FC:=FC1.bk cI
  have FB:=FB1.aI cI
  obtain ⟨e5,e6,g5,g6⟩:=FC.two
  have HO:=Lib.hid (Own.bA (Own.below qZ.out cI) FC (by decide) (.bool sg) (.slice p1 L k1))
  clear qZ FC1
  have AG:=FC.bA (.bool (sg)) (.slice p1 (L) k1)
  have AH:=aj.bA FB (b:=w.heap.size) (by omega) (.bool (sg)) (.slice p1 (L) k1)
  go_wp2
  generalize (w3.setCell ⟨w.heap.size,0,none⟩ (.bool (sg))).setCell ⟨w.heap.size,1,none⟩ (.slice p1 (L) k1)=wz at *
  obtain ⟨AJ,AK,_,_⟩:=AG.two
  refine bodyPost_ret (v:=.agg #[.bool (sg),.slice p1 (L) k1]) (by simp [results,Tryz.results82,go_sem,AJ,AK]) rfl (bt.out _ _ ?_)
  rw [kE.out]
  refine ⟨_,rfl,aE.of (m:=a) (by rw [HL.out];exact Own.mono HO.out (by simp;omega)) HL.out.symm _ ?_,AH⟩
  have:=HN.out
  have:=HA.out
  simp;omega
end Go.Proofs.YtabalinjfgcfeaaGreat
namespace Go.Proofs.YtabalinjfgcfeaaGreat
open Go.RowKit
def qL (rows:List (List Nat)):Nat:=rows.foldl (fun a r=>Nat.gcd a (aq r)) 0
theorem IY (rows:List (List Nat)) (r:List Nat):qL (rows++[r])=Nat.gcd (qL rows) (aq r):=by simp [qL,List.foldl_append]
theorem Ls {x y:Nat}:Nat.gcd y (x % y)=Nat.gcd x y:=by rw [Nat.gcd_comm,←Nat.gcd_rec,Nat.gcd_comm]
def GcdOut (w:World) (B:Nat) (rows:List (List Nat)) (g:Nat) (av iv:Value) (wr:World):Prop:=
 ∃ k,k≤rows.length∧g=rows.length - k∧iv=.int .i64 (k:Int)∧wr.ownsRow B 117 1 av (limbs (qL (rows.take k))).length (ints .u32 (limbs (qL (rows.take k))))∧(limbs (qL (rows.take k))).length≤536870912∧Below B w wr
def GcdIn (w:World) (B G:Nat) (g:Nat) (av bv:Value) (wr:World):Prop:=
 ∃ x,Nat.gcd x g=G∧wr.ownsRow B 117 1 av (limbs x).length (ints .u32 (limbs x))∧wr.ownsRow B 117 1 bv (limbs g).length (ints .u32 (limbs g))∧(limbs x).length≤536870912∧(limbs g).length≤536870912∧Below B w wr
set_option maxRecDepth 100000 in
set_option maxHeartbeats 2000000 in
theorem Lt (va:Value) (rows:List (List Nat)) (w:World) (hr:ig w va rows) (hx:∀ xs∈rows,cd xs∧xs.length≤536870912) (hn:rows.length≤1048576):
  Calls Tryz.prog 126 #[va] w fun e w'=>∃ v',e=.returned v'∧w'.ownsRow w.heap.size 117 1 v' (limbs (qL rows)).length (ints .u32 (limbs (qL rows)))∧Below w.heap.size w w':=by
 obtain ⟨p,c,rfl,fH,fy⟩:=hr.form
 have Hr:=Lib.hid hr
 have HL:=Lib.hid hx
 obtain ⟨B,hB⟩:∃ B,B=w.heap.size:=⟨_,rfl⟩
 have HB:=Lib.hid hB
 obtain ⟨N,hN⟩:∃ N,N=rows.length:=⟨_,rfl⟩
 rw [←hN] at fH hn ⊢
 have HN:=Lib.hid hN
 rw [←hB]
 clear hx hr hB hN
 refine aN fun R' bt=> ?_
 go_enter Tryz.func126,Tryz.ntmps126
 go_wp2
 go_loopg [3,11] N (fun g av iv wr=>GcdOut w B rows g av iv wr)
 case atStart=>exact ⟨0,Nat.zero_le _,by rw [HN.out];rfl,rfl,by simp [qL,bB];exact World.ownsRow_nil _ _ _ _,by simp [qL,bB],Below.refl _ _⟩
 case round=>
  obtain ⟨k,hk,hgk,rfl,aH,hlen,hb⟩:=hrel
  have HO:=Lib.hid aH
  have gC:=Lib.hid hb
  have HGK:=Lib.hid hgk
  have HLEN:=Lib.hid hlen
  rw [←HN.out] at hk
  clear aH hb hgk hlen
  by_cases sR:k < N
  ·obtain ⟨b1,o1,u,xs,rfl,gl,qw,hru⟩:=((Hr.out.below (by have:=gC.out;rwa [HB.out] at this)).at (k:=k) (by rw [←HN.out];exact sR))
   have vz:=Lib.hid gl
   have HRU:=Lib.hid hru
   clear gl hru
   have vx:B≤wr.heap.size:=by have:=gC.out.size;have:=HB.out;omega
   obtain ⟨yv,vJ⟩:=HL.out xs (List.mem_of_getElem? vz.out)
   obtain ⟨a,ha⟩:∃ a,a=qL (rows.take k):=⟨_,rfl⟩
   obtain ⟨y,hy⟩:∃ y,y=aq xs:=⟨_,rfl⟩
   have jt:(limbs y).length≤536870912:=by rw [hy];exact Nat.le_trans (ib yv) vJ
   have HL1:=Lib.hid yv
   have HL2:=Lib.hid vJ
   have HYL:=Lib.hid jt
   have HG:Hid (Nat.gcd a y=qL (rows.take (k + 1))):=by show _=_;rw [bu vz.out,IY,ha,hy]
   have HA:=Lib.hid ha
   have HY:=Lib.hid hy
   clear ha hy yv vJ jt
   go_wp2_with fail
   refine (jg _ _ xs _ HRU.out HL1.out (by have:=HL2.out;omega)).mono ?_
   rintro e w2 ⟨v',rfl,jX,bn⟩
   rw [←HY.out] at jX
   have tz:=Own.below HO.out bn
   rw [←HA.out] at tz
   have qZ:=Lib.hid tz
   clear tz
   have nw:=Lib.hid (Own.mono jX vx)
   have ud:=Lib.hid (gC.out.trans (bn.mono vx))
   clear jX bn qw
   go_wp2_with fail
   go_loopg [3,5] y (fun g av bv wr=>GcdIn w B (Nat.gcd a y) g av bv wr)
   case atStart=>exact ⟨a,rfl,qZ.out,nw.out,by rw [HA.out];exact HLEN.out,HYL.out,ud.out⟩
   case round=>
    obtain ⟨x,Gk,hox,hoy,sP,oc,jP⟩:=hrel
    have HXY:=Lib.hid Gk
    have HOX:=Lib.hid hox
    have HOY:=Lib.hid hoy
    have HLX:=Lib.hid sP
    have HLY:=Lib.hid oc
    have HBX:=Lib.hid jP
    obtain ⟨py,cy,rfl,_,_,_⟩:=Own.form hoy
    clear Gk hox hoy sP oc jP
    by_cases Lu:gk=0
    ·subst Lu
     have zB:(limbs 0).length=0:=by rw [bB];rfl
     rw [zB]
     have hxg:x=qL (rows.take (k + 1)):=by rw [←HG.out,←HXY.out,Nat.gcd_zero_right]
     have HXG:=Lib.hid hxg
     clear hxg zB
     go_wp2_with fail
     go_roundg (N - (k + 1))
     case measure=>have:=HGK.out;have:=HN.out;omega
     case rel=>exact ⟨k + 1,by rw [←HN.out];omega,by rw [HN.out],by go_num,by rw [←HXG.out];exact HOX.out,by rw [←HXG.out];exact HLX.out,HBX.out⟩
    ·have hp:(0:Int) < ((limbs gk).length:Int):=by have:=dc Lu;omega
     have HG0:=Lib.hid Lu
     obtain ⟨L,hL⟩:∃ L,L=(limbs gk).length:=⟨_,rfl⟩
     rw [←hL] at hp ⊢
     have HL:=Lib.hid hL
     have hbx:B≤wr.heap.size:=by have:=HBX.out.size;have:=HB.out;omega
     clear Lu hL
     go_wp2_with fail
     refine (tZ _ _ _ _ _ _ _ (Rd.own HOX.out) (by rw [HL.out];exact Rd.own HOY.out) (az _) (az _) HLX.out HLY.out).mono ?_
     rintro e w3 ⟨⟨h,rfl⟩ | ⟨h,vq,vr,rfl,Cg,wv⟩,cI⟩
     ·exact absurd (by rw [au] at h;exact h) HG0.out
     rw [au,au] at wv
     have hlt:x % gk < gk:=Nat.mod_lt _ (Nat.pos_iff_ne_zero.2 HG0.out)
     have HLT:=Lib.hid hlt
     have HOR:=Lib.hid (Own.mono wv hbx)
     have HOG:=Lib.hid (Own.below HOY.out cI)
     have JT:=Lib.hid (HBX.out.trans (cI.mono hbx))
     clear Cg wv cI h hlt
     go_wp2_with fail
     go_roundg (x % gk)
     case measure=>exact HLT.out
     case rel=>exact ⟨gk,by rw [Ls];exact HXY.out,by rw [HL.out];exact HOG.out,HOR.out,HLY.out,Nat.le_trans (cw (Nat.le_of_lt HLT.out)) HLY.out,JT.out⟩
  ·obtain rfl:k=N:=by omega
   go_wp2_with fail
   refine (iP _ _ _ _ (Rd.own HO.out) (by have:=HLEN.out;omega)).mono ?_
   rintro e w2 ⟨v',rfl,jX,bn⟩
   have vx:B≤wr.heap.size:=by have:=gC.out.size;have:=HB.out;omega
   go_wp2_with fail
   refine bt.out _ _ ⟨_,rfl,?_,gC.out.trans (bn.mono vx)⟩
   have:=Own.mono jX vx
   rwa [List.take_of_length_le (by rw [HN.out];exact Nat.le_refl _)] at this
end Go.Proofs.YtabalinjfgcfeaaGreat
namespace Go.Proofs.YtabalinjfgcfeaaGreat
open Go.RowKit
theorem Lv (x y:Nat):qL [limbs x,limbs y]=Nat.gcd x y:=by simp [qL,au]
set_option maxRecDepth 100000 in
set_option maxHeartbeats 2000000 in
theorem CY (v u:Value) (X Y:Int) (j k:Nat) (w:World) (hv:bS w v X j) (hu:bS w u Y k) (hj:j≤536870912) (hk:k≤536870912):
  Calls Tryz.prog 103 #[v,u] w fun e w'=>∃ r,e=.returned r∧aE w' w.heap.size r (Int.gcd X Y:Int)∧aj w w':=by
 obtain ⟨s,p,n,c,rfl⟩:=hv.form
 obtain ⟨t,q,m,d,rfl⟩:=hu.form
 refine aN fun R' bt=> ?_
 obtain ⟨b1,b2,b3,lO⟩:=mM w 24 24 24 #[.bool s,.slice p n c] #[.bool t,.slice q m d] #[.bool false,.slice none 0 0]
 have sP:=hv.len
 have oc:=hu.len
 have HJ:=Lib.hid (Nat.le_trans sP hj)
 have HK:=Lib.hid (Nat.le_trans oc hk)
 have HV:=Lib.hid hv
 have HU:=Lib.hid hu
 have hsz:w.heap.size + 3≤(((w.alloc (.cells #[.bool s,.slice p n c] 24)).alloc (.cells #[.bool t,.slice q m d] 24)).alloc (.cells #[.bool false,.slice none 0 0] 24)).heap.size:=by simp
 clear hv hu hj hk sP oc
 go_enter Tryz.func103,Tryz.ntmps103
 go_wp2_with fail
 generalize ((w.alloc _).alloc _).alloc _=W at *
 have HS:=Lib.hid (fun w' (h:aC W (w.heap.size + 1 + 1) w')=>And.intro (h.cells b1 (by omega)) (h.cells b2 (by omega)))
 obtain ⟨c1,c2,_,_⟩:=b1.two
 obtain ⟨c3,c4,_,_⟩:=b2.two
 obtain ⟨c5,c6,f5,f6⟩:=b3.two
 go_region_held3 (fun w'=>(w'.cell? ⟨w.heap.size,0,none⟩=some (.bool s)∧w'.cell? ⟨w.heap.size,1,none⟩=some (.slice p n c))∧w'.cell? ⟨w.heap.size + 1,0,none⟩=some (.bool t)∧w'.cell? ⟨w.heap.size + 1,1,none⟩=some (.slice q m d)) ((refine HS.out _ ?_;(with_reducible (repeat (first | exact aC.refl _ _ | refine aC.drew ?_ | refine aC.drewN ?_ _ | refine aC.alloc ?_ _ | refine aC.set ?_ _ | refine aC.aI ?_ (by assumption) | refine aC.om ?_ (by first | omega | (simp;done) | (simp;omega)) _))))) (first
  | (go_at_call_of 79 (Value.slice p n c);refine (fZ _ X j w _ HV.out (by (with_reducible (repeat (first | assumption | exact aj.refl _ | refine aj.drew ?_ | refine aj.drewN ?_ _ | refine aj.alloc ?_ _ | refine aj.aI ?_ (by assumption) | refine aj.setCell ?_ (by first | omega | (simp;done) | (simp;omega)) _))))).mono ?_;rintro e w1 ⟨u1,rfl,vL,aU⟩;obtain ⟨s1,p1,n1,k1,rfl⟩:=vL.ij;have hf1:=tA s1 p1 n1 k1;have hf2:=tB s1 p1 n1 k1)
  | (go_at_call_of 79 (Value.slice q m d);refine (fZ _ Y k w _ HU.out (by (with_reducible (repeat (first | assumption | exact aj.refl _ | refine aj.drew ?_ | refine aj.drewN ?_ _ | refine aj.alloc ?_ _ | refine aj.aI ?_ (by assumption) | refine aj.setCell ?_ (by first | omega | (simp;done) | (simp;omega)) _))))).mono ?_;rintro e w2 ⟨u2,rfl,vM,bn⟩;obtain ⟨s2,p2,n2,k2,rfl⟩:=vM.ij;have hf3:=tA s2 p2 n2 k2;have hf4:=tB s2 p2 n2 k2;have HP1:=Lib.hid vL.parts;have HP2:=Lib.hid vM.parts)
  | (go_at_call 126;refine (Lt _ [limbs X.natAbs,limbs Y.natAbs] _ (ig.two (Gq rfl) (by rw [←HP1.out.1];exact HP1.out.2.1.below (by show aj _ _;(with_reducible (repeat (first | assumption | exact aj.refl _ | refine aj.drew ?_ | refine aj.drewN ?_ _ | refine aj.alloc ?_ _ | refine aj.aI ?_ (by assumption) | refine aj.setCell ?_ (by first | omega | (simp;done) | (simp;omega)) _))))) (by rw [←HP2.out.1];exact HP2.out.2.1.below (by show aj _ _;(with_reducible (repeat (first | assumption | exact aj.refl _ | refine aj.drew ?_ | refine aj.drewN ?_ _ | refine aj.alloc ?_ _ | refine aj.aI ?_ (by assumption) | refine aj.setCell ?_ (by first | omega | (simp;done) | (simp;omega)) _)))))) (fun xs hx=>by rcases List.mem_cons.1 hx with rfl | hx;exact ⟨az _,HJ.out⟩;obtain rfl:=List.mem_singleton.1 hx;exact ⟨az _,HK.out⟩) (by show 2≤1048576;omega)).mono ?_;rintro e w3 ⟨v3,rfl,Fc,cI⟩;replace cI:aj _ w3:=cI;rw [Lv] at Fc;obtain ⟨p3,k3,rfl,_,_,_⟩:=Own.form Fc)
  | (go_at_call 80;refine (fm _ _ _ _ _).mono ?_;rintro e w4 ⟨sg,rfl,kE,gI⟩;obtain ⟨e5,e6,g5,g6⟩:=(aV.bk (w':=w4) b3 (by (with_reducible (repeat (first | assumption | exact aj.refl _ | refine aj.drew ?_ | refine aj.drewN ?_ _ | refine aj.alloc ?_ _ | refine aj.aI ?_ (by assumption) | refine aj.setCell ?_ (by first | omega | (simp;done) | (simp;omega)) _))))).two)
  | fail)
 have FC:=(aV.bk (w':=w4) b3 (by (with_reducible (repeat (first | assumption | exact aj.refl _ | refine aj.drew ?_ | refine aj.drewN ?_ _ | refine aj.alloc ?_ _ | refine aj.aI ?_ (by assumption) | refine aj.setCell ?_ (by first | omega | (simp;done) | (simp;omega)) _)))))
 have FB:aj w w4:=(by (with_reducible (repeat (first | assumption | exact aj.refl _ | refine aj.drew ?_ | refine aj.drewN ?_ _ | refine aj.alloc ?_ _ | refine aj.aI ?_ (by assumption) | refine aj.setCell ?_ (by first | omega | (simp;done) | (simp;omega)) _))))
 have FZ:aj w (w2.alloc (.cells #[.slice p1 n1 k1,.slice p2 n2 k2] 22)):=(by (with_reducible (repeat (first | assumption | exact aj.refl _ | refine aj.drew ?_ | refine aj.drewN ?_ _ | refine aj.alloc ?_ _ | refine aj.aI ?_ (by assumption) | refine aj.setCell ?_ (by first | omega | (simp;done) | (simp;omega)) _))))
 generalize hL:(limbs (X.natAbs.gcd Y.natAbs)).length=L at *
 have HL:=Lib.hid hL
 have HO:=Lib.hid (Own.bA (Own.below Fc gI) FC (by decide) (.bool sg) (.slice p3 L k3))
 clear Fc hL
 have AG:=FC.bA (.bool (sg)) (.slice p3 (L) k3)
 have AH:=aj.bA FB (b:=w.heap.size + 1 + 1) (by omega) (.bool (sg)) (.slice p3 (L) k3)
 go_wp2
 generalize (w4.setCell ⟨w.heap.size + 1 + 1,0,none⟩ (.bool (sg))).setCell ⟨w.heap.size + 1 + 1,1,none⟩ (.slice p3 (L) k3)=wz at *
 obtain ⟨AJ,AK,_,_⟩:=AG.two
 refine bodyPost_ret (v:=.agg #[.bool (sg),.slice p3 (L) k3]) (by simp [results,Tryz.results103,go_sem,AJ,AK]) rfl (bt.out _ _ ?_)
 rw [kE.out]
 refine ⟨_,rfl,aE.of (m:=X.natAbs.gcd Y.natAbs) (by rw [HL.out];exact Own.mono HO.out FZ.size) HL.out.symm _ ?_,AH⟩
 simp [Int.gcd]
end Go.Proofs.YtabalinjfgcfeaaGreat
namespace Go.Proofs.YtabalinjfgcfeaaGreat
open Go.RowKit
theorem boxes4 (w:World) (t t' El t3:TypeId) (cs iH pR cs3:Array Value):aV ((((w.alloc (.cells cs t)).alloc (.cells iH t')).alloc (.cells pR El)).alloc (.cells cs3 t3)) w.heap.size t cs∧aV ((((w.alloc (.cells cs t)).alloc (.cells iH t')).alloc (.cells pR El)).alloc (.cells cs3 t3)) (w.heap.size + 1) t' iH∧
  aV ((((w.alloc (.cells cs t)).alloc (.cells iH t')).alloc (.cells pR El)).alloc (.cells cs3 t3)) (w.heap.size + 2) El pR∧aV ((((w.alloc (.cells cs t)).alloc (.cells iH t')).alloc (.cells pR El)).alloc (.cells cs3 t3)) (w.heap.size + 3) t3 cs3∧
  aj w ((((w.alloc (.cells cs t)).alloc (.cells iH t')).alloc (.cells pR El)).alloc (.cells cs3 t3)):=
 ⟨(mM w t t' El cs iH pR).1.alloc _,(mM w t t' El cs iH pR).2.1.alloc _,(mM w t t' El cs iH pR).2.2.1.alloc _,aV.newAt (by simp) _ _,(mM w t t' El cs iH pR).2.2.2.alloc _⟩
def xt (w w':World) (X Y:Int) (e:Ending):Prop:=
 (Y=0∧∃ v u,e=.returned (.tuple #[v,u,.int .i64 20])∧aE w' w.heap.size v 0∧aE w' w.heap.size u 0)∨
 (Y≠0∧∃ v u,e=.returned (.tuple #[v,u,.int .i64 0])∧aE w' w.heap.size v (X.fdiv Y)∧aE w' w.heap.size u (X.fmod Y))
def Lw (a b:Nat) (s t:Bool) (M R:Nat):Prop:=((s=t∨a % b=0)∧M=a / b∧R=a % b)∨(s≠t∧a % b≠0∧M=a / b + 1∧R=b - a % b)
theorem pA {X Y:Int} {a b M R:Nat} {s t:Bool} (hX:X=if s=true then -(a:Int) else a) (hY:Y=if t=true then -(b:Int) else b) (hb:b≠0) (h:Lw a b s t M R):
  X.fdiv Y=(if (!(s == t))=true then -(M:Int) else M)∧X.fmod Y=(if t=true then -(R:Int) else R):=by
 unfold Lw at h
 have e:=Nat.div_add_mod a b
 have hlt:=Nat.mod_lt a (Nat.pos_of_ne_zero hb)
 generalize a / b=q at *
 generalize a % b=r at *
 have e':(a:Int)=(b:Int) * (q:Int) + (r:Int):=by rw [←e];simp
 rw [e'] at hX
 have hR:R≤b:=by rcases h with ⟨_,_,rfl⟩ | ⟨_,_,_,rfl⟩ <;> omega
 cases t
 ·have hp:0 < Y:=by simp at hY;omega
  refine (Int.fdiv_fmod_unique hp).2 ?_
  rcases h with ⟨h1,rfl,rfl⟩ | ⟨h1,h2,rfl,rfl⟩
  ·cases s
   ·simp at hX hY ⊢
    subst hX;subst hY
    omega
   ·simp at h1 hX hY ⊢
    subst hX;subst hY;subst h1
    simp only [Int.mul_neg]
    omega
  ·cases s
   ·exact absurd rfl h1
   ·simp at hX hY ⊢
    subst hX;subst hY
    rw [Int.natCast_sub (by omega)]
    simp only [Int.mul_add,Int.mul_neg,Int.mul_one,Int.neg_add]
    omega
 ·have hp:Y < 0:=by simp at hY;omega
  refine (Int.fdiv_fmod_unique' hp).2 ?_
  rcases h with ⟨h1,rfl,rfl⟩ | ⟨h1,h2,rfl,rfl⟩
  ·cases s
   ·simp at h1 hX hY ⊢
    subst hX;subst hY;subst h1
    simp only [Int.neg_mul_neg]
    omega
   ·simp at hX hY ⊢
    subst hX;subst hY
    simp only [Int.neg_mul]
    omega
  ·cases s
   ·simp at hX hY ⊢
    subst hX;subst hY
    rw [Int.natCast_sub (by omega)]
    simp only [Int.mul_add,Int.neg_mul,Int.mul_neg,Int.mul_one,Int.neg_add,Int.neg_neg]
    omega
   ·exact absurd rfl h1
set_option maxRecDepth 100000 in
set_option maxHeartbeats 4000000 in
theorem kO (v u:Value) (X Y:Int) (j k:Nat) (w:World) (hv:bS w v X j) (hu:bS w u Y k) (hj:j≤536870912) (hk:k≤536870912):
  Calls Tryz.prog 114 #[v,u] w fun e w'=>xt w w' X Y e∧aj w w':=by
 obtain ⟨s,p,n,c,rfl⟩:=hv.form
 obtain ⟨t,q,m,d,rfl⟩:=hu.form
 refine aN fun R' bt=> ?_
 obtain ⟨b1,b2,b3,b4,lO⟩:=boxes4 w 24 24 24 24 #[.bool s,.slice p n c] #[.bool t,.slice q m d] #[.bool false,.slice none 0 0] #[.bool false,.slice none 0 0]
 have sP:=hv.len
 have oc:=hu.len
 have HJ:=Lib.hid (Nat.le_trans sP hj)
 have HK:=Lib.hid (Nat.le_trans oc hk)
 have HV:=Lib.hid hv
 have HU:=Lib.hid hu
 have hsz:w.heap.size + 4≤((((w.alloc (.cells #[.bool s,.slice p n c] 24)).alloc (.cells #[.bool t,.slice q m d] 24)).alloc (.cells #[.bool false,.slice none 0 0] 24)).alloc (.cells #[.bool false,.slice none 0 0] 24)).heap.size:=by simp
 clear hv hu hj hk sP oc
 go_enter Tryz.func114,Tryz.ntmps114
 go_wp2_with fail
 generalize (((w.alloc _).alloc _).alloc _).alloc _=W at *
 go_cut [7,8] (fun x5 x6 wc=>GP w W wc 137 X Y x5 x6)
 case first=>
  have HS:=Lib.hid (fun w' (h:aC W (w.heap.size + 1 + 1) w')=>And.intro (h.cells b1 (by omega)) (h.cells b2 (by omega)))
  obtain ⟨c1,c2,_,_⟩:=b1.two
  obtain ⟨c3,c4,_,_⟩:=b2.two
  go_region_held3 (fun w'=>(w'.cell? ⟨w.heap.size,0,none⟩=some (.bool s)∧w'.cell? ⟨w.heap.size,1,none⟩=some (.slice p n c))∧w'.cell? ⟨w.heap.size + 1,0,none⟩=some (.bool t)∧w'.cell? ⟨w.heap.size + 1,1,none⟩=some (.slice q m d)) ((refine HS.out _ ?_;(with_reducible (repeat (first | exact aC.refl _ _ | refine aC.drew ?_ | refine aC.drewN ?_ _ | refine aC.alloc ?_ _ | refine aC.set ?_ _ | refine aC.aI ?_ (by assumption) | refine aC.om ?_ (by first | omega | (simp;done) | (simp;omega)) _))))) (first
   | (go_at_call_of 79 (Value.slice p n c);refine (fZ _ X j w _ HV.out (by (with_reducible (repeat (first | assumption | exact aj.refl _ | refine aj.drew ?_ | refine aj.drewN ?_ _ | refine aj.alloc ?_ _ | refine aj.aI ?_ (by assumption) | refine aj.setCell ?_ (by first | omega | (simp;done) | (simp;omega)) _))))).mono ?_;rintro e w1 ⟨u1,rfl,vL,aU⟩;obtain ⟨s1,p1,n1,k1,rfl⟩:=vL.ij;have GL:=aU.size;(try simp at GL);(try (have q1:=aV.bk (aV.drew (aV.new _ _ #[_,_])) aU;(try simp at q1);obtain ⟨q1a,q1b,q1c,q1d⟩:=q1.two;have q1l:=q1.lt;have q1n:=Nat.ne_of_lt q1l;have q1m:=Nat.ne_of_gt q1l));(try (have q2:=aV.bk (aV.drew (aV.alloc (aV.new _ _ #[_,_]) _)) aU;(try simp at q2);obtain ⟨q2a,q2b,q2c,q2d⟩:=q2.two;have q2l:=q2.lt;have q2n:=Nat.ne_of_lt q2l;have q2m:=Nat.ne_of_gt q2l)))
   | (go_at_call_of 79 (Value.slice q m d);refine (fZ _ Y k w _ HU.out (by (with_reducible (repeat (first | assumption | exact aj.refl _ | refine aj.drew ?_ | refine aj.drewN ?_ _ | refine aj.alloc ?_ _ | refine aj.aI ?_ (by assumption) | refine aj.setCell ?_ (by first | omega | (simp;done) | (simp;omega)) _))))).mono ?_;rintro e w2 ⟨u2,rfl,vM,bn⟩;obtain ⟨s2,p2,n2,k2,rfl⟩:=vM.ij;have Ff:=bn.size;(try simp at Ff);(try (have q3:=aV.bk (aV.new _ _ #[_,_]) bn;(try simp at q3);obtain ⟨q3a,q3b,q3c,q3d⟩:=q3.two;have q3l:=q3.lt;have q3n:=Nat.ne_of_lt q3l;have q3m:=Nat.ne_of_gt q3l));(try (have q4:=aV.bk (aV.alloc (aV.new _ _ #[_,_]) _) bn;(try simp at q4);obtain ⟨q4a,q4b,q4c,q4d⟩:=q4.two;have q4l:=q4.lt;have q4n:=Nat.ne_of_lt q4l;have q4m:=Nat.ne_of_gt q4l));(try (have q5:=aV.bk q1 bn;(try simp at q5);obtain ⟨q5a,q5b,q5c,q5d⟩:=q5.two;have q5l:=q5.lt;have q5n:=Nat.ne_of_lt q5l;have q5m:=Nat.ne_of_gt q5l));(try (have q6:=aV.bk q2 bn;(try simp at q6);obtain ⟨q6a,q6b,q6c,q6d⟩:=q6.two;have q6l:=q6.lt;have q6n:=Nat.ne_of_lt q6l;have q6m:=Nat.ne_of_gt q6l));(try (have q7:=aV.bk (aV.alloc q1 _) bn;(try simp at q7);obtain ⟨q7a,q7b,q7c,q7d⟩:=q7.two;have q7l:=q7.lt;have q7n:=Nat.ne_of_lt q7l;have q7m:=Nat.ne_of_gt q7l)))
   | fail)
  all_goals
   go_wp2
   go_meet
   refine ⟨_,_,s1,p1,n1,k1,s2,p2,n2,k2,rfl,rfl,?_,?_,vL,vM,?_⟩
   ·(with_reducible (repeat (first | assumption | exact aV.newAt (by first | rfl | (simp;done)) _ _ | refine aV.alloc ?_ _ | refine aV.drew ?_ | refine aV.bA (u:=.bool false) (v:=.slice none 0 0) ?_ _ _ | refine aV.dx ?_ (by first | omega | (simp;omega)) _ _ | refine aV.bk ?_ (by assumption))))
   ·(with_reducible (repeat (first | assumption | exact aV.newAt (by first | rfl | (simp;done)) _ _ | refine aV.alloc ?_ _ | refine aV.drew ?_ | refine aV.bA (u:=.bool false) (v:=.slice none 0 0) ?_ _ _ | refine aV.dx ?_ (by first | omega | (simp;omega)) _ _ | refine aV.bk ?_ (by assumption))))
   ·(with_reducible (repeat (first | assumption | exact aj.refl _ | refine aj.drew ?_ | refine aj.drewN ?_ _ | refine aj.alloc ?_ _ | refine aj.aI ?_ (by assumption) | refine aj.setCell ?_ (by first | omega | (simp;done) | (simp;omega)) _)))
 case rest=>
  obtain ⟨g,h,s1,p1,n1,k1,s2,p2,n2,k2,rfl,rfl,B5,B6,vL,vM,hbc⟩:=hcut
  obtain ⟨sU,ic,hX⟩:=vL.parts
  obtain ⟨yC,ji,hY⟩:=vM.parts
  have B3:=b3.bk hbc
  have B4:=b4.bk hbc
  have jP:aj w wc:=lO.aI hbc
  have HR1:=Lib.hid (ic.below jP)
  have HR2:=Lib.hid (ji.below jP)
  have HN1:=Lib.hid sU
  have HN2:=Lib.hid yC
  have HX:=Lib.hid hX
  have HY:=Lib.hid hY
  have HM1:Hid (n1≤536870912):=by show _≤_;rw [sU];exact HJ.out
  have HM2:Hid (n2≤536870912):=by show _≤_;rw [yC];exact HK.out
  have JQ:w.heap.size + 4≤wc.heap.size:=Nat.le_trans hsz hbc.size
  clear b1 b2 b3 b4 hbc lO vL vM ic ji hX hY sU yC hsz
  obtain ⟨c1,c2,_,_⟩:=B5.two
  obtain ⟨c3,c4,_,_⟩:=B6.two
  go_wp2_with fail
  refine (tZ _ _ n1 n2 _ _ _ HR1.out HR2.out (az _) (az _) HM1.out HM2.out).mono ?_
  rw [au,au]
  rintro e w3 ⟨hd,cI⟩
  replace cI:aj _ w3:=cI
  have F5:=B5.bk cI
  have F6:=B6.bk cI
  have F3:=B3.bk cI
  have F4:=B4.bk cI
  have hbw3:=jP.aI cI
  obtain ⟨e1,e2,_,_⟩:=F5.two
  obtain ⟨e3,e4,_,_⟩:=F6.two
  obtain ⟨e5,e6,f5,f6⟩:=F3.two
  obtain ⟨e7,e8,f7,f8⟩:=F4.two
  rcases hd with ⟨h0,rfl⟩ | ⟨h0,vq,vr,rfl,Cg,wv⟩
  ·have hY0:Y=0:=by have:=HY.out;split at this <;> omega
   have G3:=(F3.bA (.bool false) (.slice none 0 0)).dx (b':=w.heap.size + 3) (by omega) (.bool false) (.slice none 0 0)
   have G4:=(F4.dx (b':=w.heap.size + 2) (by omega) (.bool false) (.slice none 0 0)).bA (.bool false) (.slice none 0 0)
   have Fg:=(hbw3.bA (b:=w.heap.size + 2) (by omega) (.bool false) (.slice none 0 0)).bA (b:=w.heap.size + 3) (by omega) (.bool false) (.slice none 0 0)
   clear HX HY HN1 HN2 h0
   go_wp2
   generalize (((w3.setCell ⟨w.heap.size + 1 + 1,0,none⟩ (.bool false)).setCell ⟨w.heap.size + 1 + 1,1,none⟩ (.slice none 0 0)).setCell ⟨w.heap.size + 1 + 1 + 1,0,none⟩ (.bool false)).setCell ⟨w.heap.size + 1 + 1 + 1,1,none⟩ (.slice none 0 0)=wz at *
   obtain ⟨d1,d2,_,_⟩:=G3.two
   obtain ⟨d3,d4,_,_⟩:=G4.two
   exact bodyPost_ret (v:=.tuple #[.agg #[.bool false,.slice none 0 0],.agg #[.bool false,.slice none 0 0],.int .i64 20]) (by simp [results,Tryz.results114,go_sem,d1,d2,d3,d4]) rfl (bt.out _ _ ⟨.inl ⟨hY0,_,_,rfl,aE.zero _ _,aE.zero _ _⟩,Fg⟩)
  ·obtain ⟨pq,kq,rfl,_,_,_⟩:=Own.form Cg
   obtain ⟨pr,kr,rfl,_,_,_⟩:=Own.form wv
   generalize hlq:(limbs (X.natAbs / Y.natAbs)).length=lq at *
   generalize Eg:(limbs (X.natAbs % Y.natAbs)).length=lr at *
   have HLQ:=Lib.hid hlq.symm
   have JS:=Lib.hid Eg.symm
   have HOQ:=Lib.hid Cg
   have HOR:=Lib.hid wv
   have H0:=Lib.hid h0
   clear Cg wv hlq Eg h0 e2 e6 e8 e5 e7 f5 f6 f7 f8 c1 c2 c3 c4
   by_cases hst:s1=s2
   ·subst hst
    clear e4
    go_wp2_with fail
    have hg3:g≠w.heap.size + 1 + 1:=aV.apart F5 F3 (by decide)
    have hg4:g≠w.heap.size + 1 + 1 + 1:=aV.apart F5 F4 (by decide)
    have hh3:h≠w.heap.size + 1 + 1:=aV.apart F6 F3 (by decide)
    have hh4:h≠w.heap.size + 1 + 1 + 1:=aV.apart F6 F4 (by decide)
    have HS:=Lib.hid (fun w' (hk:aW w3 (w.heap.size + 1 + 1) (w.heap.size + 1 + 1 + 1) w')=>And.intro ((hk.cls F5 hg3 hg4).cell (j:=0) rfl) ((hk.cls F6 hh3 hh4).cell (j:=0) rfl))
    go_region_held3 (fun w'=>w'.cell? ⟨g,0,none⟩=some (.bool s1)∧w'.cell? ⟨h,0,none⟩=some (.bool s1)) ((refine HS.out _ ?_;(with_reducible (repeat (first | exact aW.refl _ _ _ | refine aW.drew ?_ | refine aW.KQ ?_ _ | refine aW.pT ?_ _ | refine aW.aI ?_ (by assumption)))))) (first
     | (go_at_call_of 80 (Value.slice pq lq kq);refine (fm _ _ _ _ _).mono ?_;rintro e w6 ⟨sg,rfl,kE,ny⟩)
     | (go_at_call_of 80 (Value.slice pr lr kr);refine (fm _ _ _ _ _).mono ?_;rintro e w7 ⟨kg,rfl,lF,uX⟩;obtain ⟨i1,i2,i3,i4⟩:=(aV.bk (w':=w7) F3 (by (with_reducible (repeat (first | assumption | exact aj.refl _ | refine aj.drew ?_ | refine aj.drewN ?_ _ | refine aj.alloc ?_ _ | refine aj.aI ?_ (by assumption) | refine aj.setCell ?_ (by first | omega | (simp;done) | (simp;omega)) _))))).two;obtain ⟨j1,j2,j3,j4⟩:=(aV.bk (w':=w7) F4 (by (with_reducible (repeat (first | assumption | exact aj.refl _ | refine aj.drew ?_ | refine aj.drewN ?_ _ | refine aj.alloc ?_ _ | refine aj.aI ?_ (by assumption) | refine aj.setCell ?_ (by first | omega | (simp;done) | (simp;omega)) _))))).two)
     | fail)
    have E3:=(aV.bk (w':=w7) F3 (by (with_reducible (repeat (first | assumption | exact aj.refl _ | refine aj.drew ?_ | refine aj.drewN ?_ _ | refine aj.alloc ?_ _ | refine aj.aI ?_ (by assumption) | refine aj.setCell ?_ (by first | omega | (simp;done) | (simp;omega)) _)))))
    have E4:=(aV.bk (w':=w7) F4 (by (with_reducible (repeat (first | assumption | exact aj.refl _ | refine aj.drew ?_ | refine aj.drewN ?_ _ | refine aj.alloc ?_ _ | refine aj.aI ?_ (by assumption) | refine aj.setCell ?_ (by first | omega | (simp;done) | (simp;omega)) _)))))
    have FW:aj w3 w7:=(by (with_reducible (repeat (first | assumption | exact aj.refl _ | refine aj.drew ?_ | refine aj.drewN ?_ _ | refine aj.alloc ?_ _ | refine aj.aI ?_ (by assumption) | refine aj.setCell ?_ (by first | omega | (simp;done) | (simp;omega)) _))))
    have FB:aj w w7:=(by (with_reducible (repeat (first | assumption | exact aj.refl _ | refine aj.drew ?_ | refine aj.drewN ?_ _ | refine aj.alloc ?_ _ | refine aj.aI ?_ (by assumption) | refine aj.setCell ?_ (by first | omega | (simp;done) | (simp;omega)) _))))
    have Cg:=Own.below (HOQ).out FW
    have wv:=Own.below (HOR).out FW
    have CZ:=(Own.bA (Own.bA Cg E3 (by decide) (.bool sg) (.slice pq lq kq)) (E4.dx (b':=w.heap.size + 1 + 1) (by omega) (.bool sg) (.slice pq lq kq)) (by decide) (.bool kg) (.slice pr lr kr))
    have Da:=(Own.bA (Own.bA wv E3 (by decide) (.bool sg) (.slice pq lq kq)) (E4.dx (b':=w.heap.size + 1 + 1) (by omega) (.bool sg) (.slice pq lq kq)) (by decide) (.bool kg) (.slice pr lr kr))
    have G3:=(E3.bA (.bool sg) (.slice pq lq kq)).dx (b':=w.heap.size + 1 + 1 + 1) (by omega) (.bool kg) (.slice pr lr kr)
    have G4:=(E4.dx (b':=w.heap.size + 1 + 1) (by omega) (.bool sg) (.slice pq lq kq)).bA (.bool kg) (.slice pr lr kr)
    have Fg:=(FB.bA (b:=w.heap.size + 1 + 1) (by omega) (.bool sg) (.slice pq lq kq)).bA (b:=w.heap.size + 1 + 1 + 1) (by omega) (.bool kg) (.slice pr lr kr)
    have Lx:=Lib.hid CZ
    have Ly:=Lib.hid Da
    clear Cg wv CZ Da
    go_wp2
    generalize (((w7.setCell ⟨w.heap.size + 1 + 1,0,none⟩ (.bool sg)).setCell ⟨w.heap.size + 1 + 1,1,none⟩ (.slice pq lq kq)).setCell ⟨w.heap.size + 1 + 1 + 1,0,none⟩ (.bool kg)).setCell ⟨w.heap.size + 1 + 1 + 1,1,none⟩ (.slice pr lr kr)=wz at *
    obtain ⟨d1,d2,_,_⟩:=G3.two
    obtain ⟨d3,d4,_,_⟩:=G4.two
    have sT:=pA HX.out HY.out H0.out (.inl ⟨.inl rfl,rfl,rfl⟩)
    refine bodyPost_ret (v:=.tuple #[.agg #[.bool sg,.slice pq lq kq],.agg #[.bool kg,.slice pr lr kr],.int .i64 0]) (by simp [results,Tryz.results114,go_sem,d1,d2,d3,d4]) rfl (bt.out _ _ ⟨.inr ⟨by have:=H0.out;omega,_,_,rfl,?_,?_⟩,Fg⟩)
    ·rw [kE.out]
     exact aE.of (by rw [←(HLQ).out];exact Own.mono Lx.out jP.size) (HLQ).out _ (by simpa using sT.1)
    ·rw [lF.out]
     exact aE.of (by rw [←(JS).out];exact Own.mono Ly.out jP.size) (JS).out _ (by simpa using sT.2)
   ·obtain rfl:s2= !s1:=by cases s1 <;> cases s2 <;> simp_all
    by_cases wx:X.natAbs % Y.natAbs=0
    ·have zB:lr=0:=by have:=JS.out;rw [wx,bB] at this;exact this
     have HR0:=Lib.hid wx
     subst zB
     clear wx hst e4
     go_wp2_with fail
     have hg3:g≠w.heap.size + 1 + 1:=aV.apart F5 F3 (by decide)
     have hg4:g≠w.heap.size + 1 + 1 + 1:=aV.apart F5 F4 (by decide)
     have hh3:h≠w.heap.size + 1 + 1:=aV.apart F6 F3 (by decide)
     have hh4:h≠w.heap.size + 1 + 1 + 1:=aV.apart F6 F4 (by decide)
     have HS:=Lib.hid (fun w' (hk:aW w3 (w.heap.size + 1 + 1) (w.heap.size + 1 + 1 + 1) w')=>And.intro ((hk.cls F5 hg3 hg4).cell (j:=0) rfl) ((hk.cls F6 hh3 hh4).cell (j:=0) rfl))
     go_region_held3 (fun w'=>w'.cell? ⟨g,0,none⟩=some (.bool s1)∧w'.cell? ⟨h,0,none⟩=some (.bool (!s1))) ((refine HS.out _ ?_;(with_reducible (repeat (first | exact aW.refl _ _ _ | refine aW.drew ?_ | refine aW.KQ ?_ _ | refine aW.pT ?_ _ | refine aW.aI ?_ (by assumption)))))) (first
      | (go_at_call_of 80 (Value.slice pq lq kq);refine (fm _ _ _ _ _).mono ?_;rintro e w6 ⟨sg,rfl,kE,ny⟩)
      | (go_at_call_of 80 (Value.slice pr 0 kr);refine (fm _ _ _ _ _).mono ?_;rintro e w7 ⟨kg,rfl,lF,uX⟩;obtain ⟨i1,i2,i3,i4⟩:=(aV.bk (w':=w7) F3 (by (with_reducible (repeat (first | assumption | exact aj.refl _ | refine aj.drew ?_ | refine aj.drewN ?_ _ | refine aj.alloc ?_ _ | refine aj.aI ?_ (by assumption) | refine aj.setCell ?_ (by first | omega | (simp;done) | (simp;omega)) _))))).two;obtain ⟨j1,j2,j3,j4⟩:=(aV.bk (w':=w7) F4 (by (with_reducible (repeat (first | assumption | exact aj.refl _ | refine aj.drew ?_ | refine aj.drewN ?_ _ | refine aj.alloc ?_ _ | refine aj.aI ?_ (by assumption) | refine aj.setCell ?_ (by first | omega | (simp;done) | (simp;omega)) _))))).two)
      | fail)
     have E3:=(aV.bk (w':=w7) F3 (by (with_reducible (repeat (first | assumption | exact aj.refl _ | refine aj.drew ?_ | refine aj.drewN ?_ _ | refine aj.alloc ?_ _ | refine aj.aI ?_ (by assumption) | refine aj.setCell ?_ (by first | omega | (simp;done) | (simp;omega)) _)))))
     have E4:=(aV.bk (w':=w7) F4 (by (with_reducible (repeat (first | assumption | exact aj.refl _ | refine aj.drew ?_ | refine aj.drewN ?_ _ | refine aj.alloc ?_ _ | refine aj.aI ?_ (by assumption) | refine aj.setCell ?_ (by first | omega | (simp;done) | (simp;omega)) _)))))
     have FW:aj w3 w7:=(by (with_reducible (repeat (first | assumption | exact aj.refl _ | refine aj.drew ?_ | refine aj.drewN ?_ _ | refine aj.alloc ?_ _ | refine aj.aI ?_ (by assumption) | refine aj.setCell ?_ (by first | omega | (simp;done) | (simp;omega)) _))))
     have FB:aj w w7:=(by (with_reducible (repeat (first | assumption | exact aj.refl _ | refine aj.drew ?_ | refine aj.drewN ?_ _ | refine aj.alloc ?_ _ | refine aj.aI ?_ (by assumption) | refine aj.setCell ?_ (by first | omega | (simp;done) | (simp;omega)) _))))
     have Cg:=Own.below (HOQ).out FW
     have wv:=Own.below (HOR).out FW
     have CZ:=(Own.bA (Own.bA Cg E3 (by decide) (.bool sg) (.slice pq lq kq)) (E4.dx (b':=w.heap.size + 1 + 1) (by omega) (.bool sg) (.slice pq lq kq)) (by decide) (.bool kg) (.slice pr 0 kr))
     have Da:=(Own.bA (Own.bA wv E3 (by decide) (.bool sg) (.slice pq lq kq)) (E4.dx (b':=w.heap.size + 1 + 1) (by omega) (.bool sg) (.slice pq lq kq)) (by decide) (.bool kg) (.slice pr 0 kr))
     have G3:=(E3.bA (.bool sg) (.slice pq lq kq)).dx (b':=w.heap.size + 1 + 1 + 1) (by omega) (.bool kg) (.slice pr 0 kr)
     have G4:=(E4.dx (b':=w.heap.size + 1 + 1) (by omega) (.bool sg) (.slice pq lq kq)).bA (.bool kg) (.slice pr 0 kr)
     have Fg:=(FB.bA (b:=w.heap.size + 1 + 1) (by omega) (.bool sg) (.slice pq lq kq)).bA (b:=w.heap.size + 1 + 1 + 1) (by omega) (.bool kg) (.slice pr 0 kr)
     have Lx:=Lib.hid CZ
     have Ly:=Lib.hid Da
     clear Cg wv CZ Da
     go_wp2
     generalize (((w7.setCell ⟨w.heap.size + 1 + 1,0,none⟩ (.bool sg)).setCell ⟨w.heap.size + 1 + 1,1,none⟩ (.slice pq lq kq)).setCell ⟨w.heap.size + 1 + 1 + 1,0,none⟩ (.bool kg)).setCell ⟨w.heap.size + 1 + 1 + 1,1,none⟩ (.slice pr 0 kr)=wz at *
     obtain ⟨d1,d2,_,_⟩:=G3.two
     obtain ⟨d3,d4,_,_⟩:=G4.two
     have sT:=pA HX.out HY.out H0.out (.inl ⟨.inr HR0.out,rfl,rfl⟩)
     refine bodyPost_ret (v:=.tuple #[.agg #[.bool sg,.slice pq lq kq],.agg #[.bool kg,.slice pr 0 kr],.int .i64 0]) (by simp [results,Tryz.results114,go_sem,d1,d2,d3,d4]) rfl (bt.out _ _ ⟨.inr ⟨by have:=H0.out;omega,_,_,rfl,?_,?_⟩,Fg⟩)
     ·rw [kE.out]
      exact aE.of (by rw [←(HLQ).out];exact Own.mono Lx.out jP.size) (HLQ).out _ (by simpa using sT.1)
     ·rw [lF.out]
      exact aE.of (by rw [←(JS).out];exact Own.mono Ly.out jP.size) (JS).out _ (by simpa using sT.2)
    ·have hlp:0 < lr:=by have:=JS.out;have:=dc wx;omega
     have zw:(0:Int) < (lr:Int):=by omega
     have HR0:=Lib.hid wx
     have Ky:Hid (lq≤536870912):=by show _≤_;rw [HLQ.out];exact Nat.le_trans (cw (Nat.div_le_self _ _)) HJ.out
     clear wx hst
     go_wp2_with fail
     refine (Gp _ _ lq 1 _ [1] _ ((Rd.own HOQ.out).alloc _) (Rd.lit1 rfl) (az _) (cd.cons (by omega) cd.nil) (by have:=Ky.out;omega) (by omega)).mono ?_
     rintro e w4 ⟨v4,rfl,ho4,gI⟩
     replace gI:aj _ w4:=gI
     rw [au,show aq [1]=1 by rfl] at ho4
     obtain ⟨pm,cm,rfl,_,_,_⟩:=Own.form ho4
     generalize vN:(limbs (X.natAbs / Y.natAbs + 1)).length=nm at *
     have Kq:=Lib.hid vN.symm
     have IZ:aj w3 w4:=((aj.refl w3).alloc _).aI gI
     have Iy:=Lib.hid (Own.mono ho4 (show w3.heap.size≤_ by simp))
     have HOR4:=Lib.hid (Own.below HOR.out IZ)
     have HY4:=Lib.hid (HR2.out.below (cI.aI IZ))
     obtain ⟨i1,i2,_,_⟩:=(F6.bk IZ).two
     clear ho4 vN gI
     go_wp2_with fail
     refine (Ai _ _ n2 lr _ _ _ HY4.out (Rd.own HOR4.out) (az _) (az _) (by have:=HM2.out;omega)).mono ?_
     rintro e w5 ⟨⟨h,_⟩ | ⟨_,v5,rfl,ho5⟩,fY⟩
     ·rw [au,au] at h;exact absurd h (by have:=Nat.mod_lt X.natAbs (Nat.pos_of_ne_zero H0.out);omega)
     replace fY:aj _ w5:=fY
     rw [au,au] at ho5
     obtain ⟨pn,cn,rfl,_,_,_⟩:=Own.form ho5
     generalize hnn:(limbs (Y.natAbs - X.natAbs % Y.natAbs)).length=nn at *
     have HLN:=Lib.hid hnn.symm
     have Ja:aj w3 w5:=IZ.aI fY
     have HOM:=Lib.hid (Own.mono (Own.below Iy.out fY) cI.size)
     have HON:=Lib.hid (Own.mono ho5 (Nat.le_trans cI.size IZ.size))
     have T3:=F3.bk Ja
     have T4:=F4.bk Ja
     have T5:=F5.bk Ja
     have T6:=F6.bk Ja
     have hbw5:=hbw3.aI Ja
     clear ho5 hnn fY F3 F4 F5 F6 IZ Ja cI hbw3 HOQ HOR Iy HOR4 HY4 i1 i2
     obtain ⟨e1,_,_,_⟩:=T5.two
     obtain ⟨e3,_,_,_⟩:=T6.two
     go_wp2_with fail
     have hg3:g≠w.heap.size + 1 + 1:=aV.apart T5 T3 (by decide)
     have hg4:g≠w.heap.size + 1 + 1 + 1:=aV.apart T5 T4 (by decide)
     have hh3:h≠w.heap.size + 1 + 1:=aV.apart T6 T3 (by decide)
     have hh4:h≠w.heap.size + 1 + 1 + 1:=aV.apart T6 T4 (by decide)
     have HS:=Lib.hid (fun w' (hk:aW w5 (w.heap.size + 1 + 1) (w.heap.size + 1 + 1 + 1) w')=>And.intro ((hk.cls T5 hg3 hg4).cell (j:=0) rfl) ((hk.cls T6 hh3 hh4).cell (j:=0) rfl))
     go_region_held3 (fun w'=>w'.cell? ⟨g,0,none⟩=some (.bool s1)∧w'.cell? ⟨h,0,none⟩=some (.bool (!s1))) ((refine HS.out _ ?_;(with_reducible (repeat (first | exact aW.refl _ _ _ | refine aW.drew ?_ | refine aW.KQ ?_ _ | refine aW.pT ?_ _ | refine aW.aI ?_ (by assumption)))))) (first
      | (go_at_call_of 80 (Value.slice pm nm cm);refine (fm _ _ _ _ _).mono ?_;rintro e w6 ⟨sg,rfl,kE,ny⟩)
      | (go_at_call_of 80 (Value.slice pn nn cn);refine (fm _ _ _ _ _).mono ?_;rintro e w7 ⟨kg,rfl,lF,uX⟩;obtain ⟨i1,i2,i3,i4⟩:=(aV.bk (w':=w7) T3 (by (with_reducible (repeat (first | assumption | exact aj.refl _ | refine aj.drew ?_ | refine aj.drewN ?_ _ | refine aj.alloc ?_ _ | refine aj.aI ?_ (by assumption) | refine aj.setCell ?_ (by first | omega | (simp;done) | (simp;omega)) _))))).two;obtain ⟨j1,j2,j3,j4⟩:=(aV.bk (w':=w7) T4 (by (with_reducible (repeat (first | assumption | exact aj.refl _ | refine aj.drew ?_ | refine aj.drewN ?_ _ | refine aj.alloc ?_ _ | refine aj.aI ?_ (by assumption) | refine aj.setCell ?_ (by first | omega | (simp;done) | (simp;omega)) _))))).two)
      | fail)
     have E3:=(aV.bk (w':=w7) T3 (by (with_reducible (repeat (first | assumption | exact aj.refl _ | refine aj.drew ?_ | refine aj.drewN ?_ _ | refine aj.alloc ?_ _ | refine aj.aI ?_ (by assumption) | refine aj.setCell ?_ (by first | omega | (simp;done) | (simp;omega)) _)))))
     have E4:=(aV.bk (w':=w7) T4 (by (with_reducible (repeat (first | assumption | exact aj.refl _ | refine aj.drew ?_ | refine aj.drewN ?_ _ | refine aj.alloc ?_ _ | refine aj.aI ?_ (by assumption) | refine aj.setCell ?_ (by first | omega | (simp;done) | (simp;omega)) _)))))
     have FW:aj w5 w7:=(by (with_reducible (repeat (first | assumption | exact aj.refl _ | refine aj.drew ?_ | refine aj.drewN ?_ _ | refine aj.alloc ?_ _ | refine aj.aI ?_ (by assumption) | refine aj.setCell ?_ (by first | omega | (simp;done) | (simp;omega)) _))))
     have FB:aj w w7:=(by (with_reducible (repeat (first | assumption | exact aj.refl _ | refine aj.drew ?_ | refine aj.drewN ?_ _ | refine aj.alloc ?_ _ | refine aj.aI ?_ (by assumption) | refine aj.setCell ?_ (by first | omega | (simp;done) | (simp;omega)) _))))
     have Cg:=Own.below (HOM).out FW
     have wv:=Own.below (HON).out FW
     have CZ:=(Own.bA (Own.bA Cg E3 (by decide) (.bool sg) (.slice pm nm cm)) (E4.dx (b':=w.heap.size + 1 + 1) (by omega) (.bool sg) (.slice pm nm cm)) (by decide) (.bool kg) (.slice pn nn cn))
     have Da:=(Own.bA (Own.bA wv E3 (by decide) (.bool sg) (.slice pm nm cm)) (E4.dx (b':=w.heap.size + 1 + 1) (by omega) (.bool sg) (.slice pm nm cm)) (by decide) (.bool kg) (.slice pn nn cn))
     have G3:=(E3.bA (.bool sg) (.slice pm nm cm)).dx (b':=w.heap.size + 1 + 1 + 1) (by omega) (.bool kg) (.slice pn nn cn)
     have G4:=(E4.dx (b':=w.heap.size + 1 + 1) (by omega) (.bool sg) (.slice pm nm cm)).bA (.bool kg) (.slice pn nn cn)
     have Fg:=(FB.bA (b:=w.heap.size + 1 + 1) (by omega) (.bool sg) (.slice pm nm cm)).bA (b:=w.heap.size + 1 + 1 + 1) (by omega) (.bool kg) (.slice pn nn cn)
     have Lx:=Lib.hid CZ
     have Ly:=Lib.hid Da
     clear Cg wv CZ Da
     go_wp2
     generalize (((w7.setCell ⟨w.heap.size + 1 + 1,0,none⟩ (.bool sg)).setCell ⟨w.heap.size + 1 + 1,1,none⟩ (.slice pm nm cm)).setCell ⟨w.heap.size + 1 + 1 + 1,0,none⟩ (.bool kg)).setCell ⟨w.heap.size + 1 + 1 + 1,1,none⟩ (.slice pn nn cn)=wz at *
     obtain ⟨d1,d2,_,_⟩:=G3.two
     obtain ⟨d3,d4,_,_⟩:=G4.two
     have sT:=pA HX.out HY.out H0.out (.inr ⟨by cases s1 <;> simp,HR0.out,rfl,rfl⟩)
     refine bodyPost_ret (v:=.tuple #[.agg #[.bool sg,.slice pm nm cm],.agg #[.bool kg,.slice pn nn cn],.int .i64 0]) (by simp [results,Tryz.results114,go_sem,d1,d2,d3,d4]) rfl (bt.out _ _ ⟨.inr ⟨by have:=H0.out;omega,_,_,rfl,?_,?_⟩,Fg⟩)
     ·rw [kE.out]
      exact aE.of (by rw [←(Kq).out];exact Own.mono Lx.out jP.size) (Kq).out _ (by simpa using sT.1)
     ·rw [lF.out]
      exact aE.of (by rw [←(HLN).out];exact Own.mono Ly.out jP.size) (HLN).out _ (by simpa using sT.2)
end Go.Proofs.YtabalinjfgcfeaaGreat
namespace Go.Proofs.YtabalinjfgcfeaaGreat
open Go.RowKit
theorem vO:(Tryz.prog.info? 3).map (fun i=>(i.zero,i.size,i.bytes))=some (some (.int .i64 0),1,8):=by kernel_rfl
def hval (xs:List Nat):Nat:=val 65536 xs
def halves (n:Nat):List Nat:=gZ 65536 n
def gf (xs:List Nat):Prop:=dH 65536 xs
theorem bD (n:Nat):gf (halves n):=nY (by omega) n
theorem bb (n:Nat):hval (halves n)=n:=jV (by omega) n
theorem gf.at {xs:List Nat} (h:gf xs) {k x:Nat} (hk:xs[k]? =some x):x < 65536:=dH.at h hk
theorem kP:halves 0=[]:=dB _
theorem Fh {m n:Nat} (h:halves m=halves n):m=n:=wm (by omega) h
theorem jT (xs:List Nat) (x:Nat):hval (xs++[x])=hval xs + 65536 ^ xs.length * x:=lP _ xs x
theorem rU {xs:List Nat} (h:gf xs):hval xs < 65536 ^ xs.length:=nZ h
theorem cV {xs:List Nat} (h:cd xs):(halves (aq xs)).length≤2 * xs.length:=by
 apply eC (by omega)
 have:=iX h
 rwa [Nat.pow_mul]
theorem Rd.i64 {w:World} {v:Value} {n:Nat} {xs:List Nat} (h:Rd w 1 v n (ints .i64 xs)):∃ p c,v=.slice p n c∧n≤c∧c≤9223372036854775807∧xs.length=n:=by
 obtain ⟨p,c,hv,h1,h2,h3⟩:=h.form
 unfold maxLen at h2
 exact ⟨p,c,hv,h1,by omega,by simpa using h3⟩
theorem Rd.Db {w:World} {n c m:Nat} {p:Option Addr} {xs:List Nat} {k:IntKind} (h:Rd w 1 (.slice p n c) n (ints k xs)) (hm:m≤n):Rd w 1 (.slice p m c) m (ints k (xs.take m)):=by
 have:=h.take hm
 rwa [Nat.mul_one,pc] at this
theorem Own.Db {w:World} {B e n c m:Nat} {p:Option Addr} {xs:List Nat} {k:IntKind} (h:w.ownsRow B e 1 (.slice p n c) n (ints k xs)) (hm:m≤n):w.ownsRow B e 1 (.slice p m c) m (ints k (xs.take m)):=by
 have:=Own.take h hm
 rwa [Nat.mul_one,pc] at this
set_option maxRecDepth 100000 in
set_option maxHeartbeats 400000 in
theorem iu (va:Value) (n i:Nat) (xs:List Nat) (w:World) (hr:Rd w 1 va n (ints .i64 xs)):
  Calls Tryz.prog 122 #[va,.int .i64 (i:Int)] w fun e w'=>e=.returned (.int .i64 ((xs.getD i 0:Nat):Int))∧w=w':=by
 obtain ⟨p,c,rfl,fH,fy,ew⟩:=hr.i64
 have HX:=Lib.hid ew
 clear ew
 by_cases hi:i < n
 ·obtain ⟨b,off,x,rfl,_,hx,hc⟩:=hr.cellAt hi
  have e:Hid (xs.getD i 0=x):=by show _=_;rw [List.getD,hx];rfl
  clear hx
  refine aN fun R' bt=> ?_
  go_enter Tryz.func122,Tryz.ntmps122
  go_wp2
  exact bt.out _ _ ⟨lR (by rw [e.out]),rfl⟩
 ·have e:Hid (xs.getD i 0=0):=by show _=_;rw [List.getD,List.getElem?_eq_none (by rw [HX.out];omega)];rfl
  refine aN fun R' bt=> ?_
  go_enter Tryz.func122,Tryz.ntmps122
  go_wp2
  exact bt.out _ _ ⟨lR (by rw [e.out];rfl),rfl⟩
set_option maxRecDepth 100000 in
set_option maxHeartbeats 400000 in
theorem zC (p:Option Addr) (n c:Nat) (xs:List Nat) (w:World) (hr:Rd w 1 (.slice p n c) n (ints .i64 xs)) (hl:gf xs):
  Calls Tryz.prog 138 #[.slice p n c] w fun e w'=>(∃ m,m≤n∧e=.returned (.slice p m c)∧halves (hval xs)=xs.take m)∧w=w':=by
 obtain ⟨p',c',hv,fH,fy,ew⟩:=hr.i64
 simp only [Value.slice.injEq,true_and] at hv
 obtain ⟨rfl,rfl⟩:=hv
 have HX:Hid (xs.length=n):=ew
 clear ew
 refine aN fun R' bt=> ?_
 go_enter Tryz.func138,Tryz.ntmps138
 go_wp2
 go_loop [0] (fun v=>∃ m,m≤n∧v=.slice p m c∧hval (xs.take m)=hval xs) (fun v=>match v with | .slice _ m _=>m | _=>0)
 case atStart=>exact ⟨n,Nat.le_refl _,rfl,by rw [List.take_of_length_le (Nat.le_of_eq HX.out)]⟩
 case round=>
  obtain ⟨m,hm,rfl,hv⟩:=hrel
  have HV:Hid (hval (xs.take m)=hval xs):=hv
  clear hv
  by_cases h0:m=0
  ·subst h0
   go_wp2
   exact bt.out _ _ ⟨⟨0,Nat.zero_le _,rfl,jO (by omega) hl (Nat.zero_le _) HV.out (.inl rfl)⟩,rfl⟩
  ·obtain ⟨b,off,x,rfl,hb,hx,hc⟩:=hr.cellAt (k:=m - 1) (by omega)
   have Km:Hid (xs[m-1]? =some x):=hx
   clear hx
   have h0':0 < m:=by omega
   obtain ⟨j,rfl⟩:∃ j,m=j + 1:=⟨m - 1,by omega⟩
   rw [Nat.add_sub_cancel] at hc
   by_cases gB:x=0
   ·subst gB
    go_wp2
    go_round
    case rel=>exact ⟨j,by omega,rfl,(kI Km.out).symm.trans HV.out⟩
    case measure=>simp
   ·have hx0':((x:Int) == 0)=false:=by rw [beq_eq_false_iff_ne];omega
    go_wp2
    exact bt.out _ _ ⟨⟨j + 1,hm,rfl,jO (by omega) hl (by rw [HX.out];exact hm) HV.out (.inr ⟨x,Km.out,gB⟩)⟩,rfl⟩
theorem Own.cut {w:World} {B e n c m:Nat} {p:Option Addr} {xs:List Nat} (h:w.ownsRow B e 1 (.slice p n c) n (ints .i64 xs)) (hm:m≤n) (hl:halves (hval xs)=xs.take m):
  w.ownsRow B e 1 (.slice p m c) (halves (hval xs)).length (ints .i64 (halves (hval xs)))∧m=(halves (hval xs)).length:=by
 have hx:xs.length=n:=by have:=h.1;simpa using this
 have e2:(halves (hval xs)).length=m:=by rw [hl,List.length_take];omega
 have:=Own.Db h hm
 rw [←hl] at this
 rw [e2]
 exact ⟨this,rfl⟩
def GR (w:World) (B:Nat) (xs:List Nat) (ov iv:Value) (wr:World):Prop:=
 ∃ (k:Nat) (hs:List Nat),k≤xs.length∧iv=.int .i64 (k:Int)∧hs.length=2 * k∧gf hs∧hval hs=aq (xs.take k)∧
   wr.ownsRow B 3 1 ov (2 * k) (ints .i64 hs)∧Below B w wr
theorem GS {x:Nat} (h:x < 4294967296):IntKind.i64.wrap ((x:Int).tmod 65536)=((x % 65536:Nat):Int):=by
 rw [Int.tmod_eq_emod_of_nonneg (by omega),IntWalk.i64_in _ (by omega)];simp
theorem GU {x:Nat} (h:x < 4294967296):IntKind.i64.wrap (IntKind.u32.wrap ((x:Int) / 65536))=((x / 65536:Nat):Int):=by
 rw [IntKind.wrap_u32',Int.emod_eq_of_lt (by omega) (by omega),IntWalk.i64_in _ (by omega)];simp
theorem zD {k x:Nat} {xs hs:List Nat} (hx:xs[k]? =some x) (ku:x < 4294967296) (hl:hs.length=2 * k) (hh:gf hs) (hv:hval hs=aq (xs.take k)):
  gf (hs++[x % 65536,x / 65536])∧hval (hs++[x % 65536,x / 65536])=aq (xs.take (k + 1)):=by
 have hk:k < xs.length:=(List.getElem?_eq_some_iff.1 hx).1
 refine ⟨dH.append hh (dH.cons (Nat.mod_lt _ (by omega)) (dH.cons (by omega) (dH.nil _))),?_⟩
 rw [bu hx,dC,←hv,List.length_take,Nat.min_eq_left (by omega)]
 show val 65536 _=_
 rw [iJ,hl]
 show hval hs + _=_
 congr 1
 rw [Nat.pow_mul]
 show (4294967296:Nat) ^ k * (x % 65536 + 65536 * (x / 65536 + 65536 * 0))=_
 congr 1
 omega
set_option maxRecDepth 100000 in
set_option maxHeartbeats 1000000 in
theorem eQ (va:Value) (n:Nat) (xs:List Nat) (w:World) (hr:Rd w 1 va n (ints .u32 xs)) (hl:cd xs) (hn:n≤1073741824):
  Calls Tryz.prog 121 #[va] w fun e w'=>∃ v',e=.returned v'∧w'.ownsRow w.heap.size 3 1 v' (halves (aq xs)).length (ints .i64 (halves (aq xs)))∧Below w.heap.size w w':=by
 obtain ⟨p,c,rfl,fH,fy,ew⟩:=hr.u32
 obtain ⟨i0,hi,lp,lx,lT⟩:=info_parts vO
 obtain ⟨B,hB⟩:∃ B,B=w.heap.size:=⟨_,rfl⟩
 have HB:=Lib.hid hB
 have Hr:=Lib.hid hr
 have HL:=Lib.hid hl
 have HX:=Lib.hid ew
 rw [←hB]
 clear hr hl ew hB
 refine aN fun R' bt=> ?_
 go_enter Tryz.func121,Tryz.ntmps121
 go_wp2
 go_loopw [3,4] (fun ov iv wr=>GR w B xs ov iv wr) (fun _ iv _=>n - (intOf iv).toNat)
 case atStart=>exact ⟨0,[],Nat.zero_le _,rfl,rfl,dH.nil _,rfl,World.ownsRow_nil _ _ _ _,Below.refl _ _⟩
 case round=>
  obtain ⟨k,hs,hk,rfl,hhl,hhh,hhv,aH,hb⟩:=hrel
  have HK:=Lib.hid hk
  have HO:=Lib.hid aH
  have HHL:=Lib.hid hhl
  have HHH:=Lib.hid hhh
  have HHV:=Lib.hid hhv
  have gC:=Lib.hid hb
  have vx:B≤wr.heap.size:=by have:=hb.size;have:=HB.out;omega
  have hkn':k≤n:=by rw [←HX.out];exact hk
  clear hk aH hhl hhh hhv hb
  by_cases sR:k < n
  ·obtain ⟨b1,o1,x,rfl,aU,gl,hcw⟩:=Hr.out.cellAt sR
   have qw:=(gC.out.cell (p:=⟨b1,o1 + k,none⟩) (by rw [HB.out];exact aU)).trans hcw
   have hne:=Kj HO.out (b:=b1) (by rw [HB.out];exact aU)
   have vz:=Lib.hid gl
   have ku:=HL.out.at gl
   have HNE:=Lib.hid hne
   have yu:(0:Int)≤(k:Int):=by omega
   have Ay:(k:Int) < (n:Int):=by omega
   clear gl hcw hne
   go_wp2_with fail
   go_region_held3 (fun w'=>w'.cell? ⟨b1,o1 + k,none⟩=some (.int .u32 (x:Int))) (first | exact qw | go_keep | exact yR xu qw HNE.out)
    ((refine oe (by rfl) _ _ 156 (by rfl) B 3 i0 (.int .i64 0) 1 8 Tryz.underlying156 hi lp lx lT rfl (by omega) _ (2 * k) (ints .i64 hs) (by rfl) ((HO.out.alloc _).drew) _ 2 (ints .i64 [x % 65536,x / 65536]) (by rfl) (Rd.drew (Rd.lit2 (GS ku) (GU ku))) (lQ .i64 [x % 65536,x / 65536]) (by unfold maxLen;omega) (by omega) (by simp;omega) ?_;intro v1 w1 fA xu))
   have qZ:=Lib.hid fA
   have HG1:=Lib.hid xu
   clear fA xu
   go_wp2_with fail
   go_roundw
   case rel=>
    have hst:=zD vz.out ku HHL.out HHH.out HHV.out
    exact ⟨k + 1,hs++[x % 65536,x / 65536],by rw [HX.out];omega,by go_num,by simp [HHL.out];omega,hst.1,hst.2,by rw [gO];exact qZ.out,Below.behind gC.out vx HG1.out HO.out (Nat.le_refl _)⟩
   case measure=>simp [intOf];omega
  ·obtain rfl:k=n:=by omega
   obtain ⟨p1,c1,Bu,_,_,_⟩:=Own.form HO.out
   have HV1:=Lib.hid Bu
   have mI:Hid (hval hs=aq xs):=by show _=_;rw [HHV.out,bm (Nat.le_of_eq HX.out)]
   subst Bu
   go_wp2_with fail
   refine (zC p1 (2 * k) c1 hs _ (Rd.own HO.out) HHH.out).mono ?_
   rintro e w2 ⟨⟨m,hm,rfl,yr⟩,rfl⟩
   have HC:=Own.cut HO.out hm yr
   rw [mI.out] at HC
   have HC1:=Lib.hid HC.1
   have HC2:=Lib.hid HC.2
   clear HC yr
   go_wp2_with fail
   refine bt.out _ _ ⟨_,rfl,?_,gC.out⟩
   have:=HC1.out
   rw [←HC2.out] at this ⊢
   exact this
end Go.Proofs.YtabalinjfgcfeaaGreat
namespace Go.Proofs.YtabalinjfgcfeaaGreat
open Go.RowKit
def LimbInv (w:World) (B m:Nat) (hs:List Nat) (ov iv:Value) (wr:World):Prop:=
 ∃ (k:Nat) (ds:List Nat),2 * k≤m + 1∧iv=.int .i64 ((2 * k:Nat):Int)∧ds.length=k∧cd ds∧aq ds=hval (hs.take (2 * k))∧
   wr.ownsRow B 117 1 ov k (ints .u32 ds)∧Below B w wr
theorem zE {k lo hi:Nat} {ds hs:List Nat} (hl:ds.length=k) (hd:cd ds) (hv:aq ds=hval (hs.take (2 * k))) (Aa:hs.getD (2 * k) 0=lo) (hhi:hs.getD (2 * k + 1) 0=hi)
  (h1:lo < 65536) (h2:hi < 65536):cd (ds++[lo + 65536 * hi])∧aq (ds++[lo + 65536 * hi])=hval (hs.take (2 * (k + 1))):=by
 refine ⟨hd.append (cd.cons (by omega) cd.nil),?_⟩
 rw [dC,hl,hv]
 show _=val 65536 (hs.take (2 * k + 1 + 1))
 rw [bJ,bJ,Aa,hhi,Nat.pow_succ,Nat.add_assoc]
 show hval _ + _=hval _ + _
 congr 1
 rw [show (4294967296:Nat)=65536 ^ 2 by rfl,←Nat.pow_mul,Nat.mul_add,Nat.mul_assoc]
theorem Dc {k m h:Nat} {ds:List Nat} (hl:ds.length=k) (hd:cd ds) (hv:aq ds=h) (hm:(halves h).length=m) (hk:2 * k≤m + 1):limbs h=ds:=by
 subst hv
 apply BK (by omega) hd
 show ds.length≤(limbs (aq ds)).length
 rcases Nat.eq_zero_or_pos k with h0 | h0
 ·omega
 ·have hne:aq ds≠0:=fun h=>by rw [h,kP] at hm;simp at hm;omega
  have h1:65536 ^ ((halves (aq ds)).length - 1)≤aq ds:=tU (by omega) hne
  have h2:4294967296 ^ (k - 1)≤aq ds:=by
   rw [show (4294967296:Nat)=65536 ^ 2 by rfl,←Nat.pow_mul]
   exact Nat.le_trans (Nat.pow_le_pow_right (by omega) (by omega)) h1
  have:=uP h2
  omega
set_option maxRecDepth 100000 in
set_option maxHeartbeats 1000000 in
theorem oK (va:Value) (n:Nat) (ls:List Nat) (w:World) (hr:Rd w 1 va n (ints .i64 ls)) (hl:gf ls) (hn:n≤2147483656):
  Calls Tryz.prog 123 #[va] w fun e w'=>∃ v',e=.returned v'∧w'.ownsRow w.heap.size 117 1 v' (limbs (hval ls)).length (ints .u32 (limbs (hval ls)))∧Below w.heap.size w w':=by
 obtain ⟨p,c,rfl,fH,fy,ew⟩:=hr.i64
 obtain ⟨i0,hi,lp,lx,lT⟩:=info_parts iZ
 obtain ⟨B,hB⟩:∃ B,B=w.heap.size:=⟨_,rfl⟩
 obtain ⟨h,hh⟩:∃ h,h=hval ls:=⟨_,rfl⟩
 rw [←hh]
 have HB:=Lib.hid hB
 have Hr:=Lib.hid hr
 have HL:=Lib.hid hl
 have HX:=Lib.hid ew
 have HH:=Lib.hid hh
 rw [←hB]
 clear hr hl ew hB hh
 refine aN fun R' bt=> ?_
 go_enter Tryz.func123,Tryz.ntmps123
 go_wp2_with fail
 refine (zC p n c ls _ Hr.out HL.out).mono ?_
 rintro e w1 ⟨⟨m,hm,rfl,yr⟩,rfl⟩
 have qf:(halves h).length=m:=by rw [HH.out,yr,List.length_take,HX.out];omega
 have sQ:=Rd.Db Hr.out hm
 rw [←yr,←HH.out] at sQ
 have Ky:=Lib.hid qf
 have HRD:=Lib.hid sQ
 clear qf sQ yr
 go_wp2_with fail
 go_loopw [3,4] (fun ov iv wr=>LimbInv w B m (halves h) ov iv wr) (fun _ iv _=>m + 2 - (intOf iv).toNat)
 case atStart=>exact ⟨0,[],by omega,rfl,rfl,cd.nil,rfl,World.ownsRow_nil _ _ _ _,Below.refl _ _⟩
 case round=>
  obtain ⟨k,ds,hk,rfl,iE,hdd,hdv,aH,hb⟩:=hrel
  have HO:=Lib.hid aH
  have EG:=Lib.hid iE
  have HDD:=Lib.hid hdd
  have HDV:=Lib.hid hdv
  have gC:=Lib.hid hb
  have vx:B≤wr.heap.size:=by have:=hb.size;have:=HB.out;omega
  clear aH iE hdd hdv hb
  by_cases Ez:2 * k < m
  ·obtain ⟨b1,o1,lo,rfl,aU,gl,qw⟩:=(HRD.out.iK HB.out gC.out).cellAt Ez
   have Aa:=(bD h).at gl
   have HLO:Hid ((halves h).getD (2 * k) 0=lo):=by show _=_;rw [List.getD,gl];rfl
   clear gl
   by_cases hkm1:2 * k + 1 < m
   ·obtain ⟨b2,o2,sW,hp2,bn,og,Ex⟩:=(HRD.out.iK HB.out gC.out).cellAt hkm1
    have hhi:=(bD h).at og
    have HHI:Hid ((halves h).getD (2 * k + 1) 0=sW):=by show _=_;rw [List.getD,og];rfl
    simp only [Option.some.injEq,Addr.mk.injEq,and_true] at hp2
    obtain ⟨rfl,rfl⟩:=hp2
    clear og
    have hy:(lo:Int) + 65536 * (sW:Int)=((lo + 65536 * sW:Nat):Int):=by omega
    have HY:=Lib.hid hy
    clear hy
    go_wp2_with (at_builtin;go_loud (refine dm rfl _ _ 22 rfl B 117 i0 (.int .u32 0) 4 Tryz.underlying22 hi lp lx lT rfl HO.out rfl rfl HY.out (by omega) (by omega) vx ?_);intro v1 w1 fA iw)
    have qZ:=Lib.hid fA
    have Bx:=Lib.hid (iw w gC.out)
    clear fA iw
    go_wp2_with fail
    go_roundw
    case rel=>
     have hst:=zE EG.out HDD.out HDV.out HLO.out HHI.out Aa hhi
     exact ⟨k + 1,ds++[lo + 65536 * sW],by omega,by go_num,by simp [EG.out],hst.1,hst.2,qZ.out,Bx.out⟩
    case measure=>simp [intOf];omega
   ·have HHI:Hid ((halves h).getD (2 * k + 1) 0=0):=by show _=_;rw [List.getD,List.getElem?_eq_none (by rw [Ky.out];omega)];rfl
    go_wp2_with (at_builtin;go_loud (refine dm rfl _ _ 22 rfl B 117 i0 (.int .u32 0) 4 Tryz.underlying22 hi lp lx lT rfl HO.out rfl rfl rfl (by omega) (by omega) vx ?_);intro v1 w1 fA iw)
    have qZ:=Lib.hid fA
    have Bx:=Lib.hid (iw w gC.out)
    clear fA iw
    go_wp2_with fail
    go_roundw
    case rel=>
     have hst:=zE EG.out HDD.out HDV.out HLO.out HHI.out Aa (by omega)
     rw [Nat.mul_zero,Nat.add_zero] at hst
     exact ⟨k + 1,ds++[lo],by omega,by go_num,by simp [EG.out],hst.1,hst.2,qZ.out,Bx.out⟩
    case measure=>simp [intOf];omega
  ·go_wp2_with fail
   have hval:aq ds=h:=by
    rw [HDV.out]
    show val 65536 _=_
    rw [eJ (by rw [Ky.out];omega)]
    exact bb h
   have hcan:=Dc EG.out HDD.out hval Ky.out hk
   refine bt.out _ _ ⟨_,rfl,?_,gC.out⟩
   rw [hcan,EG.out];exact HO.out
set_option maxRecDepth 100000 in
set_option maxHeartbeats 400000 in
theorem Fi (va:Value) (n:Nat) (xs:List Nat) (w:World) (hr:Rd w 1 va n (ints .u32 xs)) (hl:cd xs) (hn:n≤1073741824):
  Calls Tryz.prog 118 #[va] w fun e w'=>∃ v',e=.returned v'∧w'.ownsRow w.heap.size 117 1 v' (limbs (aq xs)).length (ints .u32 (limbs (aq xs)))∧Below w.heap.size w w':=by
 obtain ⟨p,c,rfl,fH,fy,ew⟩:=hr.u32
 have Hr:=Lib.hid hr
 have HL:=Lib.hid hl
 have HX:=Lib.hid ew
 clear hr hl ew
 refine aN fun R' bt=> ?_
 go_enter Tryz.func118,Tryz.ntmps118
 go_wp2_with fail
 refine (eQ _ n xs _ Hr.out HL.out hn).mono ?_
 rintro e w1 ⟨v1,rfl,aH,hb⟩
 have hlen:=cV HL.out
 rw [HX.out] at hlen
 have HO:=Lib.hid aH
 have HB:=Lib.hid hb
 clear aH hb
 go_wp2_with fail
 refine (oK _ _ (halves (aq xs)) _ (Rd.own HO.out) (bD _) (by omega)).mono ?_
 rintro e w2 ⟨v2,rfl,aH,hb⟩
 rw [bb] at aH
 go_wp2_with fail
 exact bt.out _ _ ⟨_,rfl,Own.mono aH HB.out.size,HB.out.trans (hb.mono HB.out.size)⟩
def Lz (w:World) (B M:Nat) (us ts:List Nat) (ov cv iv:Value) (wr:World):Prop:=
 ∃ (k carry:Nat) (os:List Nat),k≤M + 1∧(k=M + 1→carry=0)∧iv=.int .i64 (k:Int)∧cv=.int .i64 (carry:Int)∧carry≤1∧os.length=k∧gf os∧
   hval os + 65536 ^ k * carry=hval (us.take k) + hval (ts.take k)∧wr.ownsRow B 3 1 ov k (ints .i64 os)∧Below B w wr
theorem Fj {k carry x y:Nat} {us ts os:List Nat} (hl:os.length=k) (hh:gf os) (hv:hval os + 65536 ^ k * carry=hval (us.take k) + hval (ts.take k)) (hx:us.getD k 0=x) (hy:ts.getD k 0=y):
  gf (os++[(x + y + carry) % 65536])∧hval (os++[(x + y + carry) % 65536]) + 65536 ^ (k + 1) * ((x + y + carry) / 65536)=hval (us.take (k + 1)) + hval (ts.take (k + 1)):=by
 refine ⟨dH.append hh (dH.cons (Nat.mod_lt _ (by omega)) (dH.nil _)),?_⟩
 rw [jT,hl,Nat.pow_succ]
 show _=val 65536 _ + val 65536 _
 rw [bJ,bJ,hx,hy]
 exact HT 65536 _ _ x y carry _ _ _ hv rfl
theorem gR {us:List Nat} {k:Nat} (h:us.length≤k):us.getD k 0=0:=by rw [List.getD,List.getElem?_eq_none h];rfl
theorem jU {us:List Nat} (h:gf us) (k:Nat):us.getD k 0 < 65536:=by
 rw [List.getD]
 cases hk:us[k]? with
 | none=>simp
 | some x=>exact h.at hk
set_option maxRecDepth 100000 in
set_option maxHeartbeats 1000000 in
theorem Jb (va vb:Value) (n m:Nat) (xs ys:List Nat) (w:World) (hr:Rd w 1 va n (ints .u32 xs)) (hs:Rd w 1 vb m (ints .u32 ys)) (hx:cd xs) (hy:cd ys) (hn:n≤1073741824) (hm:m≤1073741824):
  Calls Tryz.prog 97 #[va,vb] w fun e w'=>∃ v',e=.returned v'∧w'.ownsRow w.heap.size 117 1 v' (limbs (aq xs + aq ys)).length (ints .u32 (limbs (aq xs + aq ys)))∧Below w.heap.size w w':=by
 obtain ⟨p,c,rfl,fH,fy,ew⟩:=hr.u32
 obtain ⟨q,d,rfl,JR,Ev,jt⟩:=hs.u32
 obtain ⟨i0,hi,lp,lx,lT⟩:=info_parts vO
 obtain ⟨B,hB⟩:∃ B,B=w.heap.size:=⟨_,rfl⟩
 have HB:=Lib.hid hB
 have Hr:=Lib.hid hr
 have Hs:=Lib.hid hs
 have HL:=Lib.hid hx
 have HM:=Lib.hid hy
 have sP:=cV hx
 have oc:=cV hy
 rw [ew] at sP
 rw [jt] at oc
 obtain ⟨a,ha⟩:∃ a,a=aq xs:=⟨_,rfl⟩
 obtain ⟨b,hb⟩:∃ b,b=aq ys:=⟨_,rfl⟩
 rw [←ha] at sP ⊢
 rw [←hb] at oc ⊢
 rw [←hB]
 have HA:=Lib.hid ha
 have HBb:=Lib.hid hb
 clear hr hs hx hy ew jt ha hb hB
 refine aN fun R' bt=> ?_
 go_enter Tryz.func97,Tryz.ntmps97
 go_wp2_with fail
 refine (eQ _ n xs _ Hr.out HL.out hn).mono ?_
 rintro e w1 ⟨v1,rfl,aH,aU⟩
 rw [←HA.out,←HB.out] at aH
 rw [←HB.out] at aU
 have qZ:=Lib.hid aH
 have Bx:=Lib.hid aU
 clear aH aU
 go_wp2_with fail
 refine (eQ _ m ys _ (Hs.out.iK HB.out Bx.out) HM.out hm).mono ?_
 rintro e w2 ⟨v2,rfl,aH,bn⟩
 rw [←HBb.out] at aH
 have hB1s:B≤w1.heap.size:=by have:=Bx.out.size;have:=HB.out;omega
 have HO1b:=Lib.hid (Own.below qZ.out bn)
 have nw:=Lib.hid (Own.mono aH hB1s)
 have ud:=Lib.hid (Bx.out.trans (bn.mono hB1s))
 have hB2s:B≤w2.heap.size:=by have:=bn.size;omega
 clear aH bn qZ Bx
 obtain ⟨p1,c1,rfl,h11,zF,_⟩:=(Rd.own HO1b.out).i64
 obtain ⟨p2,c2,rfl,h21,h22,_⟩:=(Rd.own nw.out).i64
 generalize JV:(halves a).length=la at *
 generalize Eh:(halves b).length=lb at *
 have JU:=Lib.hid JV
 have JW:=Lib.hid Eh
 clear JV Eh
 obtain ⟨M,hMa,hMb,hMu,hM⟩:∃ M,la≤M∧lb≤M∧M≤2147483648∧(la < lb∧M=lb∨lb≤la∧M=la):=⟨max la lb,by omega,by omega,by omega,by omega⟩
 obtain ⟨B2,LA⟩:∃ B2,B2=w2.heap.size:=⟨_,rfl⟩
 have Fk:=Lib.hid LA
 have LB:B≤B2:=by omega
 clear LA
 rcases hM with ⟨vo,rfl⟩ | ⟨vo,rfl⟩
 all_goals
  go_wp2_with fail
  go_loopw [7,8,9] (fun ov cv iv wr=>Lz w2 B2 M (halves a) (halves b) ov cv iv wr) (fun _ cv iv _=>2 * (M - (intOf iv).toNat) + (intOf cv).toNat)
  case atStart=>exact ⟨0,0,[],by omega,fun _=>rfl,rfl,rfl,by omega,rfl,dH.nil _,rfl,World.ownsRow_nil _ _ _ _,Below.refl _ _⟩
  case round=>
   obtain ⟨k,carry,os,hk,Ay,rfl,rfl,hc,hol,hoh,hov,aH,jP⟩:=hrel
   have HO:=Lib.hid aH
   have HOL:=Lib.hid hol
   have HOH:=Lib.hid hoh
   have HOV:=Lib.hid hov
   have HK1:=Lib.hid Ay
   have gC:=Lib.hid jP
   have vx:B2≤wr.heap.size:=by have:=jP.size;have:=Fk.out;omega
   have HRA:=Lib.hid ((Rd.own HO1b.out).iK Fk.out jP)
   have HRB:=Lib.hid ((Rd.own nw.out).iK Fk.out jP)
   have hgx:=jU (bD a) k
   have hgy:=jU (bD b) k
   have hxy0:M≤k→(halves a).getD k 0=0∧(halves b).getD k 0=0:=fun h=>⟨gR (by rw [JU.out];omega),gR (by rw [JW.out];omega)⟩
   clear aH hol hoh hov Ay jP
   generalize hx:(halves a).getD k 0=x at *
   generalize hy:(halves b).getD k 0=y at *
   have HX:=Lib.hid hx
   have HY:=Lib.hid hy
   have HXY0:=Lib.hid hxy0
   clear hx hy hxy0
   have zG:k=M + 1→carry=0:=HK1.out
   by_cases hkM:k < M∨0 < carry
   ·clear zG
    have hguard:decide (k < M)=true∨decide (k < M)=false∧0 < carry:=by
     by_cases h:k < M
     ·left;simpa using h
     ·right;exact ⟨by simpa using h,by omega⟩
    have HSUM:Hid (((x:Int) + (y:Int) + (carry:Int)).tmod 65536=(((x + y + carry) % 65536:Nat):Int)):=by show _=_;rw [Int.tmod_eq_emod_of_nonneg (by omega)];omega
    rcases hguard with hg | ⟨hg,hg2⟩
    all_goals
     go_wp2_with fail
     refine (iu _ _ k (halves a) _ HRA.out).mono ?_
     rintro e w3 ⟨rfl,rfl⟩
     rw [HX.out]
     go_wp2_with fail
     refine (iu _ _ k (halves b) _ HRB.out).mono ?_
     rintro e w3 ⟨rfl,rfl⟩
     rw [HY.out]
     go_wp2_with (at_builtin;refine dm rfl _ _ 156 rfl B2 3 i0 (.int .i64 0) 8 Tryz.underlying156 hi lp lx lT rfl HO.out rfl rfl (d:=(x + y + carry) % 65536) (by omega) (by omega) (by omega) vx ?_;intro v1 w3 fA iw)
     have Iy:=Lib.hid fA
     have KL:=Lib.hid (iw w2 gC.out)
     clear fA iw
     go_wp2_with fail
     go_roundw
     case rel=>
      have hst:=Fj HOL.out HOH.out HOV.out HX.out HY.out
      exact ⟨k + 1,(x + y + carry) / 65536,os++[(x + y + carry) % 65536],by have:=HK1.out;have:=HXY0.out;omega,by have:=HK1.out;have:=HXY0.out;omega,by go_num,by go_num,by omega,by simp [HOL.out],hst.1,hst.2,Iy.out,KL.out⟩
     case measure=>simp [intOf];have:=HXY0.out;omega
   ·have hc0:carry=0:=by omega
    have hkM':M≤k:=by omega
    have HC0:=Lib.hid hc0
    have hg1:decide (k < M)=false:=by simp;omega
    have hg2:¬ (0 < (carry:Int)):=by omega
    have hks:k≤M + 1:=by omega
    clear zG
    clear hc0
    go_wp2_with fail
    refine (oK _ _ os _ (Rd.own HO.out) HOH.out (by omega)).mono ?_
    rintro e w3 ⟨v3,rfl,aH,cI⟩
    have hval:hval os=a + b:=by
     have:=HOV.out
     rw [HC0.out,Nat.mul_zero,Nat.add_zero] at this
     rw [this]
     show val 65536 _ + val 65536 _=_
     rw [eJ (by rw [JU.out];omega),eJ (by rw [JW.out];omega)]
     show hval _ + hval _=_
     rw [bb,bb]
    rw [hval] at aH
    go_wp2_with fail
    exact bt.out _ _ ⟨_,rfl,Own.mono aH (by omega),(ud.out.trans (gC.out.mono LB)).trans (cI.mono (by omega))⟩
end Go.Proofs.YtabalinjfgcfeaaGreat
namespace Go.Proofs.YtabalinjfgcfeaaGreat
open Go.RowKit
def CmpInv (w:World) (us ts:List Nat) (M:Nat) (iv:Value) (wr:World):Prop:=
 ∃ k:Nat,k≤M∧iv=.int .i64 ((k:Int) - 1)∧hval us + hval (ts.take k)=hval ts + hval (us.take k)∧w=wr
theorem jc (us:List Nat):hval (us.take 0)=0:=by simp [hval,val]
theorem Dd {us ts:List Nat} {k x:Nat} (hx:us.getD k 0=x) (hy:ts.getD k 0=x) (h:hval us + hval (ts.take (k + 1))=hval ts + hval (us.take (k + 1))):hval us + hval (ts.take k)=hval ts + hval (us.take k):=by
 have h1:hval (ts.take (k + 1))=hval (ts.take k) + 65536 ^ k * x:=by rw [←hy];exact bJ 65536 ts k
 have h2:hval (us.take (k + 1))=hval (us.take k) + 65536 ^ k * x:=by rw [←hx];exact bJ 65536 us k
 omega
theorem uz {us ts:List Nat} {k x y:Nat} (hu:gf us) (hx:us.getD k 0=x) (hy:ts.getD k 0=y) (Gk:x < y) (h:hval us + hval (ts.take (k + 1))=hval ts + hval (us.take (k + 1))):hval us < hval ts:=by
 have h1:hval (ts.take (k + 1))=hval (ts.take k) + 65536 ^ k * y:=by rw [←hy];exact bJ 65536 ts k
 have h2:hval (us.take (k + 1))=hval (us.take k) + 65536 ^ k * x:=by rw [←hx];exact bJ 65536 us k
 have h3:hval (us.take k) < 65536 ^ k:=by
  have h4:=rU (dH.take hu k)
  have h5:=Nat.pow_le_pow_right (show 0 < 65536 by omega) (show (us.take k).length≤k by rw [List.length_take];omega)
  omega
 have h4:65536 ^ k * x + 65536 ^ k≤65536 ^ k * y:=by
  have:=Nat.mul_le_mul_left (65536 ^ k) (show x + 1≤y from Gk)
  rwa [Nat.mul_add,Nat.mul_one] at this
 omega
set_option maxRecDepth 100000 in
set_option maxHeartbeats 1000000 in
theorem tC (va vb:Value) (n m:Nat) (xs ys:List Nat) (w:World) (hr:Rd w 1 va n (ints .u32 xs)) (hs:Rd w 1 vb m (ints .u32 ys)) (hx:cd xs) (hy:cd ys) (hn:n≤1073741824) (hm:m≤1073741824):
  Calls Tryz.prog 124 #[va,vb] w fun e w'=>e=.returned (.int .i64 (fW (aq xs) (aq ys)))∧Below w.heap.size w w':=by
 obtain ⟨p,c,rfl,fH,fy,ew⟩:=hr.u32
 obtain ⟨q,d,rfl,JR,Ev,jt⟩:=hs.u32
 have Hr:=Lib.hid hr
 have Hs:=Lib.hid hs
 have HL:=Lib.hid hx
 have HM:=Lib.hid hy
 have sP:=cV hx
 have oc:=cV hy
 rw [ew] at sP
 rw [jt] at oc
 obtain ⟨a,ha⟩:∃ a,a=aq xs:=⟨_,rfl⟩
 obtain ⟨b,hb⟩:∃ b,b=aq ys:=⟨_,rfl⟩
 rw [←ha] at sP ⊢
 rw [←hb] at oc ⊢
 have HA:=Lib.hid ha
 have HBb:=Lib.hid hb
 clear hr hs hx hy ew jt ha hb
 refine aN fun R' bt=> ?_
 go_enter Tryz.func124,Tryz.ntmps124
 go_wp2_with fail
 refine (eQ _ n xs _ Hr.out HL.out hn).mono ?_
 rintro e w1 ⟨v1,rfl,aH,aU⟩
 rw [←HA.out] at aH
 have qZ:=Lib.hid (Rd.own aH)
 have Bx:=Lib.hid aU
 clear aH aU
 go_wp2_with fail
 refine (eQ _ m ys _ (Hs.out.below Bx.out) HM.out hm).mono ?_
 rintro e w2 ⟨v2,rfl,aH,bn⟩
 rw [←HBb.out] at aH
 have HRA:=Lib.hid (qZ.out.below bn)
 have HRB:=Lib.hid (Rd.own aH)
 have ud:=Lib.hid (Bx.out.trans (bn.mono Bx.out.size))
 clear aH bn qZ Bx
 obtain ⟨p1,c1,rfl,h11,zF,_⟩:=HRA.out.i64
 obtain ⟨p2,c2,rfl,h21,h22,_⟩:=HRB.out.i64
 generalize JV:(halves a).length=la at *
 generalize Eh:(halves b).length=lb at *
 have JU:=Lib.hid JV
 have JW:=Lib.hid Eh
 clear JV Eh
 obtain ⟨M,hMa,hMb,hMu,hM⟩:∃ M,la≤M∧lb≤M∧M≤2147483648∧(la < lb∧M=lb∨lb≤la∧M=la):=⟨max la lb,by omega,by omega,by omega,by omega⟩
 rcases hM with ⟨vo,rfl⟩ | ⟨vo,rfl⟩
 all_goals
  go_wp2_with fail
  go_loopw [7] (fun iv wr=>CmpInv w2 (halves a) (halves b) M iv wr) (fun iv _=>(intOf iv + 1).toNat)
  case atStart=>exact ⟨M,Nat.le_refl _,rfl,by
   show val 65536 _ + val 65536 _=val 65536 _ + val 65536 _
   rw [eJ (by first | (rw [JU.out];omega) | (rw [JW.out];omega)),eJ (by first | (rw [JU.out];omega) | (rw [JW.out];omega))];omega,rfl⟩
  case round=>
   obtain ⟨k,hk,rfl,hv,rfl⟩:=hrel
   have HV:=Lib.hid hv
   clear hv
   by_cases h0:k=0
   ·subst h0
    go_wp2_with fail
    have e:a=b:=by
     have:=HV.out
     rw [jc,jc,bb,bb] at this
     omega
    exact bt.out _ _ ⟨lR (by rw [e,rj]),ud.out⟩
   ·obtain ⟨j,rfl⟩:∃ j,k=j + 1:=⟨k - 1,by omega⟩
    have hjj:((j + 1:Nat):Int) - 1=(j:Int):=by omega
    rw [hjj]
    clear h0 hjj
    generalize hx:(halves a).getD j 0=x
    generalize hy:(halves b).getD j 0=y
    have HX:=Lib.hid hx
    have HY:=Lib.hid hy
    clear hx hy
    go_wp2_with fail
    refine (iu _ _ j (halves a) _ HRA.out).mono ?_
    rintro e w3 ⟨rfl,rfl⟩
    rw [HX.out]
    go_wp2_with fail
    refine (iu _ _ j (halves b) _ HRB.out).mono ?_
    rintro e w3 ⟨rfl,rfl⟩
    rw [HY.out]
    rcases Nat.lt_trichotomy x y with hlt | heq | IM
    ·go_wp2_with fail
     have:=uz (bD a) HX.out HY.out hlt HV.out
     rw [bb,bb] at this
     exact bt.out _ _ ⟨lR (by rw [kJ this]),ud.out⟩
    ·subst heq
     go_wp2_with fail
     refine (iu _ _ j (halves a) _ HRA.out).mono ?_
     rintro e w3 ⟨rfl,rfl⟩
     rw [HX.out]
     go_wp2_with fail
     refine (iu _ _ j (halves b) _ HRB.out).mono ?_
     rintro e w3 ⟨rfl,rfl⟩
     rw [HY.out]
     go_wp2_with fail
     go_roundw
     case rel=>exact ⟨j,by omega,rfl,Dd HX.out HY.out HV.out,rfl⟩
     case measure=>simp [intOf]
    ·go_wp2_with fail
     refine (iu _ _ j (halves a) _ HRA.out).mono ?_
     rintro e w3 ⟨rfl,rfl⟩
     rw [HX.out]
     go_wp2_with fail
     refine (iu _ _ j (halves b) _ HRB.out).mono ?_
     rintro e w3 ⟨rfl,rfl⟩
     rw [HY.out]
     go_wp2_with fail
     have:=uz (bD b) HY.out HX.out IM HV.out.symm
     rw [bb,bb] at this
     exact bt.out _ _ ⟨lR (by rw [kK this]),ud.out⟩
end Go.Proofs.YtabalinjfgcfeaaGreat
namespace Go.Proofs.YtabalinjfgcfeaaGreat
open Go.RowKit
theorem uA {qs:List Nat} {k x:Nat}:(List.replicate (k + 1) 0++qs).set k x=List.replicate k 0++x::qs:=by
 rw [List.replicate_succ',List.append_assoc,List.set_append_right _ _ (by simp)]
 simp
def LC (w:World) (B M:Nat) (us ts:List Nat) (ov bv iv:Value) (wr:World):Prop:=
 ∃ (k r:Nat) (ds:List Nat),k≤M∧ds.length=k∧iv=.int .i64 (k:Int)∧bv=.int .i64 (r:Int)∧r≤1∧gf ds∧
   hval ds + hval (ts.take k)=hval (us.take k) + 65536 ^ k * r∧wr.ownsRow B 3 1 ov k (ints .i64 ds)∧Below B w wr
theorem xw {k r x y d r':Nat} {us ts ds:List Nat} (hl:ds.length=k) (hh:gf ds) (hv:hval ds + hval (ts.take k)=hval (us.take k) + 65536 ^ k * r) (hx:us.getD k 0=x) (hy:ts.getD k 0=y)
  (hd:d < 65536) (he:x + 65536 * r'=d + y + r):
  gf (ds++[d])∧hval (ds++[d]) + hval (ts.take (k + 1))=hval (us.take (k + 1)) + 65536 ^ (k + 1) * r':=by
 refine ⟨dH.append hh (dH.cons hd (dH.nil _)),?_⟩
 have h1:hval (ts.take (k + 1))=hval (ts.take k) + 65536 ^ k * y:=by rw [←hy];exact bJ 65536 ts k
 have h2:hval (us.take (k + 1))=hval (us.take k) + 65536 ^ k * x:=by rw [←hx];exact bJ 65536 us k
 rw [jT,hl,h1,h2,Nat.pow_succ]
 exact HW 65536 _ x y r d r' _ _ _ hv he
set_option maxRecDepth 100000 in
set_option maxHeartbeats 1000000 in
theorem zH (va vb:Value) (n m:Nat) (xs ys:List Nat) (w:World) (hr:Rd w 1 va n (ints .u32 xs)) (hs:Rd w 1 vb m (ints .u32 ys)) (hx:cd xs) (hy:cd ys) (hn:n≤1073741824) (hm:m≤1073741824):
  Calls Tryz.prog 98 #[va,vb] w fun e w'=>((aq xs < aq ys∧e=.returned (.tuple #[.slice none 0 0,.int .i64 2]))∨
   (aq ys≤aq xs∧∃ v',e=.returned (.tuple #[v',.int .i64 0])∧w'.ownsRow w.heap.size 117 1 v' (limbs (aq xs - aq ys)).length (ints .u32 (limbs (aq xs - aq ys)))))∧Below w.heap.size w w':=by
 obtain ⟨p,c,rfl,fH,fy,ew⟩:=hr.u32
 obtain ⟨q,d,rfl,JR,Ev,jt⟩:=hs.u32
 obtain ⟨i0,hi,lp,lx,lT⟩:=info_parts vO
 have Hr:=Lib.hid hr
 have Hs:=Lib.hid hs
 have HL:=Lib.hid hx
 have HM:=Lib.hid hy
 have sP:=cV hx
 have oc:=cV hy
 rw [ew] at sP
 rw [jt] at oc
 obtain ⟨a,ha⟩:∃ a,a=aq xs:=⟨_,rfl⟩
 obtain ⟨b,hb⟩:∃ b,b=aq ys:=⟨_,rfl⟩
 rw [←ha] at sP ⊢
 rw [←hb] at oc ⊢
 have HA:=Lib.hid ha
 have HBb:=Lib.hid hb
 clear hr hs hx hy ew jt ha hb
 refine aN fun R' bt=> ?_
 go_enter Tryz.func98,Tryz.ntmps98
 go_wp2_with fail
 refine (tC _ _ n m xs ys _ Hr.out Hs.out HL.out HM.out hn hm).mono ?_
 rintro e w0 ⟨rfl,pd⟩
 rw [←HA.out,←HBb.out]
 have HB0:=Lib.hid pd
 have hB0s:=pd.size
 clear pd
 by_cases vo:a < b
 ·have hc:fW a b < 0:=je.2 vo
  generalize fW a b=cv at hc ⊢
  go_wp2_with fail
  exact bt.out _ _ ⟨.inl ⟨vo,rfl⟩,HB0.out⟩
 ·have hc:0≤fW a b:=by have:=mt (@je a b).1 vo;omega
  generalize fW a b=cv at hc ⊢
  have hlen:(halves b).length≤(halves a).length:=cZ (by omega) (by omega)
  have HAB:=Lib.hid vo
  clear vo
  go_wp2_with fail
  refine (eQ _ n xs _ (Hr.out.below HB0.out) HL.out hn).mono ?_
  rintro e w1 ⟨v1,rfl,aH,aU⟩
  rw [←HA.out] at aH
  have qZ:=Lib.hid (Rd.own aH)
  have Bx:=Lib.hid (HB0.out.trans (aU.mono hB0s))
  have hB1s:=aU.size
  clear aH aU
  go_wp2_with fail
  refine (eQ _ m ys _ (Hs.out.below Bx.out) HM.out hm).mono ?_
  rintro e w2 ⟨v2,rfl,aH,bn⟩
  rw [←HBb.out] at aH
  have HRA0:=Lib.hid (qZ.out.below bn)
  have HRB0:=Lib.hid (Rd.own aH)
  have ud:=Lib.hid (Bx.out.trans (bn.mono Bx.out.size))
  have hB2s:=bn.size
  clear aH bn qZ Bx
  obtain ⟨p1,c1,rfl,h11,zF,_⟩:=HRA0.out.i64
  obtain ⟨p2,c2,rfl,h21,h22,_⟩:=HRB0.out.i64
  generalize JV:(halves a).length=la at *
  generalize Eh:(halves b).length=lb at *
  have JU:=Lib.hid JV
  have JW:=Lib.hid Eh
  clear JV Eh
  obtain ⟨B2,LA⟩:∃ B2,B2=w2.heap.size:=⟨_,rfl⟩
  have Fk:=Lib.hid LA
  have LB:w.heap.size≤B2:=by omega
  clear LA
  go_wp2_with fail
  go_loopw [8,9,10] (fun ov bv iv wr=>LC w2 B2 la (halves a) (halves b) ov bv iv wr) (fun _ _ iv _=>la - (intOf iv).toNat)
  case atStart=>exact ⟨0,0,[],Nat.zero_le _,rfl,rfl,rfl,by omega,dH.nil _,by rw [jc,jc];simp [hval,val],World.ownsRow_nil _ _ _ _,Below.refl _ _⟩
  case round=>
   obtain ⟨k,r,ds,hk,iE,rfl,rfl,ic,hdh,hdv,aH,jP⟩:=hrel
   have HO:=Lib.hid aH
   have EG:=Lib.hid iE
   have HDH:=Lib.hid hdh
   have HDV:=Lib.hid hdv
   have gC:=Lib.hid jP
   have vx:B2≤wr.heap.size:=by have:=jP.size;have:=Fk.out;omega
   have HRB:=Lib.hid (HRB0.out.iK Fk.out jP)
   clear aH iE hdh hdv
   by_cases Ej:k < la
   ·obtain ⟨b1,o1,x,rfl,_,gl,qw⟩:=(HRA0.out.iK Fk.out jP).cellAt Ej
    have ku:=(bD a).at gl
    have HX:Hid ((halves a).getD k 0=x):=by show _=_;rw [List.getD,gl];rfl
    have yV:=jU (bD b) k
    clear gl jP
    generalize hy:(halves b).getD k 0=y at *
    have HY:=Lib.hid hy
    clear hy
    have yu:(0:Int)≤(k:Int):=by omega
    have Ay:(k:Int) < (la:Int):=by omega
    have vA:IntKind.i64.wrap ((x:Int) - (y:Int))=(x:Int) - (y:Int):=IntWalk.i64_in _ (by omega)
    have hw2:IntKind.i64.wrap ((x:Int) - (y:Int) - (r:Int))=(x:Int) - (y:Int) - (r:Int):=IntWalk.i64_in _ (by omega)
    have yp:∀ j:Nat,Calls Tryz.prog 122 #[.slice p2 lb c2,.int .i64 (k:Int)] (wr.drewN j) fun e w'=>e=.returned (.int .i64 (y:Int))∧wr.drewN j=w':=fun j=>by
     have:=iu _ _ k (halves b) _ (Rd.drewN HRB.out j)
     rwa [HY.out] at this
    have HAT:=Lib.hid yp
    clear yp
    go_wp2_with fail
    go_quiet ((go_at_call 122;exact wu (HAT.out _) ⟨_,rfl⟩))
    clear vA hw2 yu Ay qw
    by_cases hneg:(x:Int) - (y:Int) - (r:Int) < 0
    ·go_wp2_with (at_builtin;refine dm (w:=wr.drewN nq) rfl _ _ 156 rfl B2 3 i0 (.int .i64 0) 8 Tryz.underlying156 hi lp lx lT rfl (Own.drewN HO.out nq) rfl rfl (d:=x + 65536 - y - r) (by omega) (by omega) (by omega) vx ?_;intro v1 w3 fA iw)
     have Iy:=Lib.hid fA
     have KL:=Lib.hid (iw w2 (Below.drewN gC.out nq))
     clear fA iw
     go_wp2_with fail
     go_roundw
     case rel=>
      have hst:=xw (d:=x + 65536 - y - r) (r':=1) EG.out HDH.out HDV.out HX.out HY.out (by omega) (by omega)
      exact ⟨k + 1,1,ds++[x + 65536 - y - r],by omega,by simp [EG.out],by go_num,rfl,by omega,hst.1,hst.2,Iy.out,KL.out⟩
     case measure=>simp [intOf];omega
    ·go_wp2_with (at_builtin;refine dm (w:=wr.drewN nq) rfl _ _ 156 rfl B2 3 i0 (.int .i64 0) 8 Tryz.underlying156 hi lp lx lT rfl (Own.drewN HO.out nq) rfl rfl (d:=x - y - r) (by omega) (by omega) (by omega) vx ?_;intro v1 w3 fA iw)
     have Iy:=Lib.hid fA
     have KL:=Lib.hid (iw w2 (Below.drewN gC.out nq))
     clear fA iw
     go_wp2_with fail
     go_roundw
     case rel=>
      have hst:=xw (d:=x - y - r) (r':=0) EG.out HDH.out HDV.out HX.out HY.out (by omega) (by omega)
      exact ⟨k + 1,0,ds++[x - y - r],by omega,by simp [EG.out],by go_num,rfl,by omega,hst.1,hst.2,Iy.out,KL.out⟩
     case measure=>simp [intOf];omega
   ·obtain rfl:k=la:=by omega
    clear jP
    go_wp2_with fail
    refine (oK _ k ds _ (Rd.own HO.out) HDH.out (by omega)).mono ?_
    rintro e w4 ⟨v4,rfl,aH,gI⟩
    have hval:hval ds=a - b:=by
     have h1:=HDV.out
     have e1:hval ((halves a).take k)=a:=by
      show val 65536 _=_
      rw [eJ (Nat.le_of_eq JU.out)];exact bb a
     have e2:hval ((halves b).take k)=b:=by
      show val 65536 _=_
      rw [eJ (by rw [JW.out];exact hlen)];exact bb b
     rw [e1,e2] at h1
     have h3:=rU HDH.out
     rw [EG.out] at h3
     have hba:=HAB.out
     have:r=0:=by
      rcases Nat.eq_zero_or_pos r with h | h
      ·exact h
      ·have:r=1:=by omega
       subst this
       omega
     subst this
     omega
    rw [hval] at aH
    have HOWN:=Lib.hid aH
    clear aH
    go_wp2_with fail
    refine bt.out _ _ ⟨.inr ⟨by have:=HAB.out;omega,v4,rfl,?_⟩,(ud.out.trans (gC.out.mono LB)).trans (gI.mono (by omega))⟩
    exact Own.mono HOWN.out (by omega)
end Go.Proofs.YtabalinjfgcfeaaGreat
namespace Go.Proofs.YtabalinjfgcfeaaGreat
open Go.RowKit
theorem Fl (neg:Bool) (xs:List Nat) (v:Value) (w:World) (h:eX w v neg xs):
  Calls Tryz.prog 115 #[v] w fun e w'=>e=.returned (.bool (dp neg xs))∧aj w w':=by
 obtain ⟨p,c,rfl,hr,hl⟩:=h
 obtain ⟨p',c',hv,fH,fy,-⟩:=hr.u32
 simp only [Value.slice.injEq,true_and] at hv
 obtain ⟨rfl,rfl⟩:=hv
 refine aN fun R' bt=> ?_
 by_cases hx:xs=[]
 ·subst hx
  simp only [List.length_nil,qx] at *
  go_enter Tryz.func115,Tryz.ntmps115
  cases neg
  ·go_wp2
   exact bt.out _ _ ⟨rfl,(aj.refl w).alloc _⟩
  ·go_wp2
   exact bt.out _ _ ⟨rfl,(aj.refl w).alloc _⟩
 ·obtain ⟨m,hm⟩:∃ m,xs.length=m + 1:=⟨xs.length - 1,by have:=List.length_pos_iff.2 hx;omega⟩
  generalize hn:xs.length=n at *
  obtain ⟨b,off,x,rfl,hb,hxm,hc⟩:=hr.cellAt (k:=m) (by omega)
  have h1:dp neg xs=decide (x≠0):=ue (by rw [hn,hm];exact hxm)
  rw [h1] at bt
  have hz:((n:Int) == 0)=false:=by rw [beq_eq_false_iff_ne];omega
  have hp:(0:Int) < (n:Int):=by omega
  have hw:IntKind.i64.wrap ((n:Int) - 1)=(m:Int):=by rw [IntWalk.i64_in _ (by omega)];omega
  have hlt:(m:Int) < (n:Int):=by omega
  have HN:=Lib.hid hn
  have hpn:0 < n:=by omega
  clear hx hm hn h1 hxm hr hl
  go_enter Tryz.func115,Tryz.ntmps115
  by_cases gB:x=0
  ·subst gB
   cases neg
   ·go_wp2
    exact bt.out _ _ ⟨rfl,(aj.refl w).alloc _⟩
   ·go_wp2
    exact bt.out _ _ ⟨rfl,(aj.refl w).alloc _⟩
  ·have CT:((x:Int) != 0)=true:=by rw [bne_iff_ne];omega
   rw [decide_eq_true gB] at bt
   clear gB
   cases neg
   ·go_wp2
    exact bt.out _ _ ⟨rfl,(aj.refl w).alloc _⟩
   ·go_wp2
    exact bt.out _ _ ⟨rfl,(aj.refl w).alloc _⟩
theorem qM (v:Value) (X:Int) (k:Nat) (w0 w:World) (h:bS w0 v X k) (pd:aj w0 w):
  Calls Tryz.prog 96 #[v] w fun e w'=>∃ u,e=.returned u∧bQ w0 u X∧aj w w':=by
 obtain ⟨neg,xs,hn,rfl,hk⟩:=h
 refine aN fun R' bt=> ?_
 have HN:=Lib.hid hn
 obtain ⟨p,c,rfl,hr,hl⟩:=hn
 clear hr
 go_enter Tryz.func96,Tryz.ntmps96
 go_wp2_with fail
 refine (Fl neg xs _ _ ((HN.out.bk pd).bk (((aj.refl w).alloc _).alloc _))).mono ?_
 rintro e w1 ⟨rfl,aU⟩
 obtain ⟨b1,b2,lO⟩:=lB w 53 53 #[.bool neg,.slice p xs.length c] #[.bool false,.slice none 0 0]
 obtain ⟨c1,c2,_,_⟩:=(b1.bk aU).two
 obtain ⟨c3,c4,f3,f4⟩:=(b2.bk aU).two
 have yU:aj w w1:=lO.aI aU
 cases uW:dp neg xs
 ·have B2:=(b2.bk aU).bA (.bool false) (.slice none 0 0)
  have ud:=yU.bA (b:=w.heap.size + 1) (by omega) (.bool false) (.slice none 0 0)
  go_wp2
  generalize (w1.setCell ⟨w.heap.size + 1,0,none⟩ (.bool false)).setCell ⟨w.heap.size + 1,1,none⟩ (.slice none 0 0)=w2 at *
  obtain ⟨d1,d2,_,_⟩:=B2.two
  refine bodyPost_ret (v:=.agg #[.bool false,.slice none 0 0]) (by simp [results,Tryz.results96,go_sem,d1,d2]) rfl (bt.out _ _ ⟨_,rfl,?_,ud⟩)
  rw [numOf,if_neg (by simp [uW])]
  exact bQ.zero _
 ·have B2:=(b2.bk aU).bA (.bool neg) (.slice p xs.length c)
  have ud:=yU.bA (b:=w.heap.size + 1) (by omega) (.bool neg) (.slice p xs.length c)
  go_wp2
  generalize (w1.setCell ⟨w.heap.size + 1,0,none⟩ (.bool neg)).setCell ⟨w.heap.size + 1,1,none⟩ (.slice p xs.length c)=w2 at *
  obtain ⟨d1,d2,_,_⟩:=B2.two
  refine bodyPost_ret (v:=.agg #[.bool neg,.slice p xs.length c]) (by simp [results,Tryz.results96,go_sem,d1,d2]) rfl (bt.out _ _ ⟨_,rfl,?_,ud⟩)
  rw [numOf,if_pos uW]
  obtain ⟨h1,h2⟩:=canon hl uW
  have:=HN.out
  show eX _ _ _ _
  rw [←h1,←h2]
  exact this
set_option maxHeartbeats 1000000 in
theorem jo (neg:Bool) (v:Value) (n:Nat) (xs:List Nat) (w:World) (hr:Rd w 1 v n (ints .u32 xs)) (hl:cd xs) (hn:n≤1073741824):
  Calls Tryz.prog 92 #[.bool neg,v] w fun e w'=>∃ r,e=.returned r∧aE w' w.heap.size r (if neg=true then -(aq xs:Int) else aq xs)∧aj w w':=by
 obtain ⟨p,c,rfl,_,_,_⟩:=hr.u32
 have HR:=Lib.hid hr
 have jh:=aV.new w 53 #[.bool false,.slice none 0 0]
 have lO:=(aj.refl w).alloc (.cells #[.bool false,.slice none 0 0] 53)
 clear hr
 refine aN fun R' bt=> ?_
 go_enter Tryz.func92,Tryz.ntmps92
 go_wp2_with fail
 refine (Fi _ n xs _ (HR.out.below lO) hl hn).mono ?_
 rintro e w1 ⟨v1,rfl,tz,aU⟩
 replace aU:aj _ w1:=aU
 obtain ⟨p1,k1,rfl,_,_,_⟩:=Own.form tz
 generalize hL:(limbs (aq xs)).length=L at *
 have HL:=Lib.hid hL
 have FC:=jh.bk aU
 have FB:=lO.aI aU
 obtain ⟨c1,c2,f1,f2⟩:=FC.two
 have GO:=Own.mono tz lO.size
 clear hL tz
 cases neg
 ·have HO:=Lib.hid (Own.bA GO FC (by decide) (.bool false) (.slice p1 L k1))
  clear GO
  have AG:=FC.bA (.bool (false)) (.slice p1 (L) k1)
  have AH:=aj.bA FB (b:=w.heap.size) (by omega) (.bool (false)) (.slice p1 (L) k1)
  go_wp2
  generalize (w1.setCell ⟨w.heap.size,0,none⟩ (.bool (false))).setCell ⟨w.heap.size,1,none⟩ (.slice p1 (L) k1)=wz at *
  obtain ⟨AJ,AK,_,_⟩:=AG.two
  refine bodyPost_ret (v:=.agg #[.bool (false),.slice p1 (L) k1]) (by simp [results,Tryz.results92,go_sem,AJ,AK]) rfl (bt.out _ _ ?_)
  exact ⟨_,rfl,aE.of (neg:=false) (by rw [HL.out];exact HO.out) HL.out.symm _ (by simp),AH⟩
 ·have HO:=Lib.hid (Own.bA GO FC (by decide) (.bool (decide (0 < L))) (.slice p1 L k1))
  clear GO
  have AG:=FC.bA (.bool (decide (0 < L))) (.slice p1 (L) k1)
  have AH:=aj.bA FB (b:=w.heap.size) (by omega) (.bool (decide (0 < L))) (.slice p1 (L) k1)
  go_wp2
  generalize (w1.setCell ⟨w.heap.size,0,none⟩ (.bool (decide (0 < L)))).setCell ⟨w.heap.size,1,none⟩ (.slice p1 (L) k1)=wz at *
  obtain ⟨AJ,AK,_,_⟩:=AG.two
  refine bodyPost_ret (v:=.agg #[.bool (decide (0 < L)),.slice p1 (L) k1]) (by simp [results,Tryz.results92,go_sem,AJ,AK]) rfl (bt.out _ _ ?_)
  exact ⟨_,rfl,aE.of (neg:=true) (by rw [HL.out];exact HO.out) HL.out.symm _ (by simp),AH⟩
def AL (X Y:Int):Int:=(X - Y).sign
theorem GV {X Y:Int} (h:X < Y):AL X Y= -1:=sign_neg (by omega)
theorem GW {X Y:Int} (h:Y < X):AL X Y=1:=eZ (by omega)
theorem zI (a b:Nat):AL (a:Int) b=fW a b:=by
 rcases Nat.lt_trichotomy a b with h | rfl | h
 ·rw [GV (by omega),kJ h]
 ·rw [rj];simp [AL]
 ·rw [GW (by omega),kK h]
theorem Fm (a b:Nat):AL (-(a:Int)) (-(b:Int))=fW b a:=by
 rw [←zI];unfold AL;congr 1;omega
set_option maxHeartbeats 2000000 in
theorem LD (v u:Value) (X Y:Int) (j k:Nat) (w:World) (hv:bS w v X j) (hu:bS w u Y k) (hj:j≤1073741824) (hk:k≤1073741824):
  Calls Tryz.prog 117 #[v,u] w fun e w'=>e=.returned (.int .i64 (AL X Y))∧aj w w':=by
 obtain ⟨s,p,n,c,rfl⟩:=hv.form
 obtain ⟨t,q,m,d,rfl⟩:=hu.form
 refine aN fun R' bt=> ?_
 obtain ⟨b1,b2,lO⟩:=lB w 53 53 #[.bool s,.slice p n c] #[.bool t,.slice q m d]
 have HJ:=Lib.hid (Nat.le_trans hv.len hj)
 have HK:=Lib.hid (Nat.le_trans hu.len hk)
 have HV:=Lib.hid hv
 have HU:=Lib.hid hu
 clear hv hu hj hk
 go_enter Tryz.func117,Tryz.ntmps117
 go_wp2_with fail
 generalize (w.alloc _).alloc _=W at *
 refine (qM _ X j w _ HV.out (by (with_reducible (repeat (first | assumption | exact aj.refl _ | refine aj.drew ?_ | refine aj.drewN ?_ _ | refine aj.alloc ?_ _ | refine aj.aI ?_ (by assumption) | refine aj.setCell ?_ (by first | omega | (simp;done) | (simp;omega)) _))))).mono ?_
 rintro e wa ⟨ua,rfl,hua,hba⟩
 obtain ⟨s1,p1,n1,k1,rfl⟩:=hua.ij
 obtain ⟨a1,a2,a3,a4⟩:=(b1.bk hba).two
 obtain ⟨a5,a6,a7,a8⟩:=(b2.bk hba).two
 have B1:=(b1.bk hba).bA (.bool s1) (.slice p1 n1 k1)
 have B2:=(b2.bk hba).dx (b':=w.heap.size) (by omega) (.bool s1) (.slice p1 n1 k1)
 have hZ:=aW.KQ (aW.KQ (aW.aI (aW.refl W w.heap.size (w.heap.size + 1)) hba) (j:=0) (.bool s1)) (j:=1) (.slice p1 n1 k1)
 have HB:=aj.bA (lO.aI hba) (b:=w.heap.size) (by omega) (.bool s1) (.slice p1 n1 k1)
 have HPA:=Lib.hid hua.parts
 have HSA:=Lib.hid hua.sgn
 have HUA:=Lib.hid hua
 clear hua
 go_wp2_with fail
 generalize (wa.setCell ⟨w.heap.size,0,none⟩ (.bool s1)).setCell ⟨w.heap.size,1,none⟩ (.slice p1 n1 k1)=wb at *
 clear a1 a2 a3 a4 a5 a6 a7 a8 hba
 refine (qM _ Y k w _ HU.out HB).mono ?_
 rintro e wc ⟨ub,rfl,Kz,yU⟩
 obtain ⟨s2,p2,n2,k2,rfl⟩:=Kz.ij
 obtain ⟨a1,a2,a3,a4⟩:=(B1.bk yU).two
 obtain ⟨a5,a6,a7,a8⟩:=(B2.bk yU).two
 have D1:=(B1.bk yU).dx (b':=w.heap.size + 1) (by omega) (.bool s2) (.slice p2 n2 k2)
 have D2:=(B2.bk yU).bA (.bool s2) (.slice p2 n2 k2)
 have hY:=aW.pT (aW.pT (aW.aI hZ yU) (j:=0) (.bool s2)) (j:=1) (.slice p2 n2 k2)
 have HD:=aj.bA (HB.aI yU) (b:=w.heap.size + 1) (by omega) (.bool s2) (.slice p2 n2 k2)
 have HPB:=Lib.hid Kz.parts
 have HSB:=Lib.hid Kz.sgn
 have HUB:=Lib.hid Kz
 clear Kz B1 B2 HB yU hZ
 have CT:n1≤1073741824:=by rw [HPA.out.1];exact HJ.out
 have hx2:n2≤1073741824:=by rw [HPB.out.1];exact HK.out
 have HX1:=Lib.hid CT
 have Km:=Lib.hid hx2
 clear CT hx2
 cases s1 <;> cases s2
 ·go_wp2_with fail
  generalize (wc.setCell ⟨w.heap.size + 1,0,none⟩ (.bool false)).setCell ⟨w.heap.size + 1,1,none⟩ (.slice p2 n2 k2)=wd at *
  refine (tC _ _ n1 n2 _ _ _ (HPA.out.2.1.below HD) (HPB.out.2.1.below HD) (az _) (az _) HX1.out Km.out).mono ?_
  rintro e we ⟨rfl,hbe⟩
  rw [au,au,←zI]
  have e1:(X.natAbs:Int)=X:=by have:=HPA.out.2.2;simpa using this.symm
  have e2:(Y.natAbs:Int)=Y:=by have:=HPB.out.2.2;simpa using this.symm
  rw [e1,e2]
  go_wp2_with fail
  exact bt.out _ _ ⟨rfl,HD.aI hbe⟩
 ·have h1:¬ X < 0:=of_decide_eq_false HSA.out.symm
  have h2:Y < 0:=of_decide_eq_true HSB.out.symm
  rw [GW (by omega)] at bt
  go_wp2
  exact bt.out _ _ ⟨rfl,HD⟩
 ·have h1:X < 0:=of_decide_eq_true HSA.out.symm
  have h2:¬ Y < 0:=of_decide_eq_false HSB.out.symm
  rw [GV (by omega)] at bt
  go_wp2
  exact bt.out _ _ ⟨rfl,HD⟩
 ·go_wp2_with fail
  generalize (wc.setCell ⟨w.heap.size + 1,0,none⟩ (.bool true)).setCell ⟨w.heap.size + 1,1,none⟩ (.slice p2 n2 k2)=wd at *
  refine (tC _ _ n2 n1 _ _ _ (HPB.out.2.1.below HD) (HPA.out.2.1.below HD) (az _) (az _) Km.out HX1.out).mono ?_
  rintro e we ⟨rfl,hbe⟩
  rw [au,au,←Fm]
  have e1: -(X.natAbs:Int)=X:=by have:=HPA.out.2.2;simpa using this.symm
  have e2: -(Y.natAbs:Int)=Y:=by have:=HPB.out.2.2;simpa using this.symm
  rw [e1,e2]
  go_wp2_with fail
  exact bt.out _ _ ⟨rfl,HD.aI hbe⟩
theorem cR (v:Value) (X:Int) (j:Nat) (w:World) (hv:bS w v X j) (hj:j≤1073741824):
  Calls Tryz.prog 89 #[v] w fun e w'=>e=.returned (.int .i64 X.sign)∧aj w w':=by
 obtain ⟨s,p,n,c,rfl⟩:=hv.form
 refine aN fun R' bt=> ?_
 have lO:=(aj.refl w).alloc (.cells #[.bool s,.slice p n c] 53)
 have HV:=Lib.hid (hv.bk lO)
 have e1:=Lib.hid (show AL X 0=X.sign by simp [AL])
 clear hv
 go_enter Tryz.func89,Tryz.ntmps89
 go_wp2_with fail
 generalize w.alloc _=W at *
 refine (LD _ _ X 0 j 0 _ HV.out ((bQ.zero _).to (by simp [bB])) hj (by omega)).mono ?_
 rintro e w1 ⟨rfl,aU⟩
 rw [e1.out]
 go_wp2
 exact bt.out _ _ ⟨rfl,lO.aI aU⟩
end Go.Proofs.YtabalinjfgcfeaaGreat
namespace Go.Proofs.YtabalinjfgcfeaaGreat
open Go.RowKit
theorem Rd.kp {U:TypeId} {T:TypeId→Bool} {w w':World} {v:Value} {n:Nat} {xs:List Nat} (h:Rd w 1 v n (ints .u32 xs)) (k:aF ⟨U,fun _=>True,T⟩ w w'):Rd w' 1 v n (ints .u32 xs):=by
 obtain ⟨p,c,rfl,h1,h2,h3,h4⟩:=h
 refine ⟨p,c,rfl,h1,h2,h3,fun hn=> ?_⟩
 obtain ⟨b,off,hp,hc⟩:=h4 hn
 refine ⟨b,off,hp,fun j u hj=> ?_⟩
 obtain ⟨x,hx,rfl⟩:=List.mem_map.1 (List.mem_of_getElem? hj)
 exact k.cell _ _ trivial (hc j _ hj)
theorem Own.kp {T:TypeId→Bool} {w w':World} {B sz n:Nat} {v:Value} {cs:List Value} (h:w.ownsRow B UU sz v n cs) (k:aF ⟨UU,fun _=>True,T⟩ w w'):w'.ownsRow B UU sz v n cs:=by
 refine ⟨h.1,?_⟩
 rcases h.2 with h2 | ⟨g,cap,cur,hv,hb,hg,r⟩
 ·exact .inl h2
 ·exact .inr ⟨g,cap,cur,hv,hb,k.block _ g cur rfl trivial hg,r⟩
theorem eX.kp {U:TypeId} {T:TypeId→Bool} {w w':World} {v:Value} {s:Bool} {xs:List Nat} (h:eX w v s xs) (k:aF ⟨U,fun _=>True,T⟩ w w'):eX w' v s xs:=by
 obtain ⟨p,c,hv,hr,hl⟩:=h
 exact ⟨p,c,hv,hr.kp k,hl⟩
theorem bS.kp {U:TypeId} {T:TypeId→Bool} {w w':World} {v:Value} {X:Int} {j:Nat} (h:bS w v X j) (k:aF ⟨U,fun _=>True,T⟩ w w'):bS w' v X j:=by
 obtain ⟨s,xs,hn,hx,hj⟩:=h
 exact ⟨s,xs,hn.kp k,hx,hj⟩
theorem bQ.kp {U:TypeId} {T:TypeId→Bool} {w w':World} {v:Value} {X:Int} (h:bQ w v X) (k:aF ⟨U,fun _=>True,T⟩ w w'):bQ w' v X:=eX.kp h k
theorem aE.kp {T:TypeId→Bool} {w w':World} {B:Nat} {v:Value} {X:Int} (h:aE w B v X) (k:aF ⟨UU,fun _=>True,T⟩ w w'):aE w' B v X:=by
 obtain ⟨p,c,hv,ho⟩:=h
 exact ⟨p,c,hv,Own.kp ho k⟩
theorem aE.in {w:World} {B:Nat} {v:Value} {X:Int} {j:Nat} (h:aE w B v X) (hs:Sz X j):bS w v X j:=h.rd.to hs
def Fo (X Y:Int):Rat:=if 0 < Y∧Int.gcd X Y=1 then Rat.divInt X Y else 0
theorem qN {X Y:Int} (h:0 < Y∧Int.gcd X Y=1):(Fo X Y).num=X∧((Fo X Y).den:Int)=Y:=by
 unfold Fo
 rw [if_pos h,Rat.num_divInt,Rat.den_divInt,if_neg (by omega),Int.gcd_comm,h.2]
 have:Y.sign=1:=eZ h.1
 rw [this]
 simp
 omega
theorem Fp {X Y:Int} (h:¬ (0 < Y∧Int.gcd X Y=1)):Fo X Y=0:=if_neg h
theorem zJ (q:Rat):Fo q.num q.den=q:=by
 have h:(0:Int) < q.den∧Int.gcd q.num q.den=1:=⟨by have:=q.den_nz;omega,by have:=q.reduced;simpa [Int.gcd,Nat.Coprime] using this⟩
 obtain ⟨h1,h2⟩:=qN h
 exact Rat.ext h1 (by omega)
def eR (w:World) (v:Value) (s:Bool) (xs:List Nat) (t:Bool) (ys:List Nat):Prop:=
 ∃ p c r d,v=.agg #[.bool s,.slice p xs.length c,.bool t,.slice r ys.length d]∧eX w (.agg #[.bool s,.slice p xs.length c]) s xs∧eX w (.agg #[.bool t,.slice r ys.length d]) t ys
def rq (s:Bool) (xs:List Nat) (t:Bool) (ys:List Nat):Rat:=Fo (numOf s xs) (numOf t ys)
def bO (w:World) (v:Value) (q:Rat) (k:Nat):Prop:=∃ s xs t ys,eR w v s xs t ys∧q=rq s xs t ys∧xs.length≤k∧ys.length≤k
def cP (w:World) (v:Value) (q:Rat):Prop:=∃ s p n c t r m d,v=.agg #[.bool s,.slice p n c,.bool t,.slice r m d]∧bQ w (.agg #[.bool s,.slice p n c]) q.num∧bQ w (.agg #[.bool t,.slice r m d]) (q.den:Int)
def aK (w:World) (B:Nat) (v:Value) (q:Rat):Prop:=∃ s p n c t r m d,v=.agg #[.bool s,.slice p n c,.bool t,.slice r m d]∧aE w B (.agg #[.bool s,.slice p n c]) q.num∧aE w B (.agg #[.bool t,.slice r m d]) (q.den:Int)
def fo (q:Rat) (k:Nat):Prop:=Sz q.num k∧Sz (q.den:Int) k
theorem eR.kp {U:TypeId} {T:TypeId→Bool} {w w':World} {v:Value} {s t:Bool} {xs ys:List Nat} (h:eR w v s xs t ys) (k:aF ⟨U,fun _=>True,T⟩ w w'):eR w' v s xs t ys:=by
 obtain ⟨p,c,r,d,hv,h1,h2⟩:=h
 exact ⟨p,c,r,d,hv,h1.kp k,h2.kp k⟩
theorem bO.kp {U:TypeId} {T:TypeId→Bool} {w w':World} {v:Value} {q:Rat} {j:Nat} (h:bO w v q j) (k:aF ⟨U,fun _=>True,T⟩ w w'):bO w' v q j:=by
 obtain ⟨s,xs,t,ys,h1,h2⟩:=h
 exact ⟨s,xs,t,ys,h1.kp k,h2⟩
theorem cP.kp {U:TypeId} {T:TypeId→Bool} {w w':World} {v:Value} {q:Rat} (h:cP w v q) (k:aF ⟨U,fun _=>True,T⟩ w w'):cP w' v q:=by
 obtain ⟨s,p,n,c,t,r,m,d,hv,h1,h2⟩:=h
 exact ⟨s,p,n,c,t,r,m,d,hv,h1.kp k,h2.kp k⟩
theorem aK.kp {T:TypeId→Bool} {w w':World} {B:Nat} {v:Value} {q:Rat} (h:aK w B v q) (k:aF ⟨UU,fun _=>True,T⟩ w w'):aK w' B v q:=by
 obtain ⟨s,p,n,c,t,r,m,d,hv,h1,h2⟩:=h
 exact ⟨s,p,n,c,t,r,m,d,hv,h1.kp k,h2.kp k⟩
theorem aK.mono {w:World} {B B':Nat} {v:Value} {q:Rat} (h:aK w B v q) (hB:B'≤B):aK w B' v q:=by
 obtain ⟨s,p,n,c,t,r,m,d,hv,h1,h2⟩:=h
 exact ⟨s,p,n,c,t,r,m,d,hv,h1.mono hB,h2.mono hB⟩
theorem aK.rd {w:World} {B:Nat} {v:Value} {q:Rat} (h:aK w B v q):cP w v q:=by
 obtain ⟨s,p,n,c,t,r,m,d,hv,h1,h2⟩:=h
 exact ⟨s,p,n,c,t,r,m,d,hv,h1.rd,h2.rd⟩
theorem aK.cast {w:World} {B:Nat} {v:Value} {q q':Rat} (h:aK w B v q) (e:q=q'):aK w B v q':=e▸h
theorem bQ.len4 {w:World} {s:Bool} {p:Option Addr} {n c:Nat} {X:Int} (h:bQ w (.agg #[.bool s,.slice p n c]) X):s=decide (X < 0)∧n=(limbs X.natAbs).length:=⟨h.sgn,h.parts.1⟩
theorem cP.raw {w:World} {v:Value} {q:Rat} (h:cP w v q):eR w v (decide (q.num < 0)) (limbs q.num.natAbs) (decide ((q.den:Int) < 0)) (limbs (q.den:Int).natAbs):=by
 obtain ⟨s,p,n,c,t,r,m,d,rfl,h1,h2⟩:=h
 obtain ⟨rfl,rfl⟩:=h1.len4
 obtain ⟨rfl,rfl⟩:=h2.len4
 exact ⟨p,c,r,d,rfl,h1,h2⟩
theorem cP.to {w:World} {v:Value} {q:Rat} {k:Nat} (h:cP w v q) (hs:fo q k):bO w v q k:=
 ⟨_,_,_,_,h.raw,by unfold rq;rw [fI,fI,zJ],hs.1,hs.2⟩
theorem aK.in {w:World} {B:Nat} {v:Value} {q:Rat} {k:Nat} (h:aK w B v q) (hs:fo q k):bO w v q k:=h.rd.to hs
theorem fo.mono {q:Rat} {k l:Nat} (h:fo q k) (Ej:k≤l):fo q l:=⟨h.1.mono Ej,h.2.mono Ej⟩
theorem fo.zero:fo 0 1:=⟨Sz.zero.mono (by omega),Sz.small (by decide)⟩
theorem xx {s:Bool} {xs:List Nat} {k:Nat} (hl:cd xs) (h:xs.length≤k):Sz (numOf s xs) k:=Nat.le_trans (zd hl) h
theorem bO.sz {w:World} {v:Value} {q:Rat} {k:Nat} (h:bO w v q k) (hk:1≤k):fo q k:=by
 obtain ⟨s,xs,t,ys,⟨p,c,r,d,_,⟨_,_,_,_,l1⟩,⟨_,_,_,_,l2⟩⟩,rfl,h1,h2⟩:=h
 unfold rq
 by_cases hr:0 < numOf t ys∧Int.gcd (numOf s xs) (numOf t ys)=1
 ·obtain ⟨e1,e2⟩:=qN hr
  exact ⟨by rw [e1];exact xx l1 h1,by rw [e2];exact xx l2 h2⟩
 ·rw [Fp hr];exact fo.zero.mono hk
theorem bO.form {w:World} {v:Value} {q:Rat} {k:Nat} (h:bO w v q k):∃ s p n c t r m d,v=.agg #[.bool s,.slice p n c,.bool t,.slice r m d]:=by
 obtain ⟨s,xs,t,ys,⟨p,c,r,d,hv,_⟩,_⟩:=h
 exact ⟨_,_,_,_,_,_,_,_,hv⟩
theorem cP.parts {w:World} {s t:Bool} {p r:Option Addr} {n c m d:Nat} {q:Rat} (h:cP w (.agg #[.bool s,.slice p n c,.bool t,.slice r m d]) q):bQ w (.agg #[.bool s,.slice p n c]) q.num∧bQ w (.agg #[.bool t,.slice r m d]) (q.den:Int):=by
 obtain ⟨s',p',n',c',t',r',m',d',hv,h1,h2⟩:=h
 simp only [Value.agg.injEq,Array.mk.injEq,List.cons.injEq,and_true] at hv
 obtain ⟨e1,e2,e3,e4⟩:=hv
 rw [e1,e2,e3,e4]
 exact ⟨h1,h2⟩
theorem cP.form {w:World} {v:Value} {q:Rat} (h:cP w v q):∃ s p n c t r m d,v=.agg #[.bool s,.slice p n c,.bool t,.slice r m d]:=by
 obtain ⟨s,p,n,c,t,r,m,d,hv,_⟩:=h
 exact ⟨_,_,_,_,_,_,_,_,hv⟩
theorem aK.form {w:World} {B:Nat} {v:Value} {q:Rat} (h:aK w B v q):∃ s p n c t r m d,v=.agg #[.bool s,.slice p n c,.bool t,.slice r m d]:=h.rd.form
theorem vP {X Y:Int} (hY:0 < Y):X.fdiv (Int.gcd X Y:Int)=(Rat.divInt X Y).num∧Y.fdiv (Int.gcd X Y:Int)=((Rat.divInt X Y).den:Int):=by
 have hg:(0:Int) < (Int.gcd X Y:Int):=by
  have:Int.gcd X Y≠0:=fun e=>by have:=(Int.gcd_eq_zero_iff.1 e).2;omega
  omega
 rw [Rat.num_divInt,Rat.den_divInt,if_neg (by omega),eZ hY,Int.one_mul,Int.gcd_comm Y X]
 refine ⟨Int.fdiv_eq_ediv_of_nonneg _ (by omega),?_⟩
 rw [Int.fdiv_eq_ediv_of_nonneg _ (by omega),Int.natCast_ediv]
 congr 1
 omega
theorem low_neg {X Y:Int} (hY:Y < 0):X.fdiv (-(Int.gcd X Y:Int))=(Rat.divInt X Y).num∧Y.fdiv (-(Int.gcd X Y:Int))=((Rat.divInt X Y).den:Int):=by
 have e:Rat.divInt X Y=Rat.divInt (-X) (-Y):=(Rat.neg_divInt_neg X Y).symm
 obtain ⟨h1,h2⟩:=vP (X:= -X) (Y:= -Y) (by omega)
 rw [Int.neg_gcd,Int.gcd_neg] at h1 h2
 rw [e,←h1,←h2]
 have fd:∀ a b:Int,(-a).fdiv b=a.fdiv (-b):=fun a b=>by rw [←Int.neg_fdiv_neg,Int.neg_neg]
 exact ⟨(fd _ _).symm,(fd _ _).symm⟩
end Go.Proofs.YtabalinjfgcfeaaGreat
set_option maxRecDepth 4000
namespace Go.Proofs.YtabalinjfgcfeaaGreat
open Go.RowKit
attribute [local irreducible] aA VS
theorem kQ (v:Value) (X:Int) (k:Nat) (w:World) (h:bS w v X k):
  Calls Tryz.prog 96 #[v] w fun e w'=>∃ u,e=.returned u∧bQ w' u X∧aj w w':=
 (qM v X k w w h (aj.refl w)).mono fun e w' ⟨u,he,h1,h2⟩=>⟨u,he,h1.bk h2,h2⟩
theorem bQ.row {w:World} {s:Bool} {p:Option Addr} {n c:Nat} {X:Int} (h:bQ w (.agg #[.bool s,.slice p n c]) X):Rd w 1 (.slice p n c) n (ints .u32 (limbs X.natAbs)):=h.parts.2.1
theorem bQ.n {w:World} {s:Bool} {p:Option Addr} {n c:Nat} {X:Int} (h:bQ w (.agg #[.bool s,.slice p n c]) X):n=(limbs X.natAbs).length:=h.parts.1
theorem rV {s:Bool} {X:Int} (h:s=decide (X < 0)):X=if s=true then -(X.natAbs:Int) else X.natAbs:=by
 subst h
 by_cases hx:X < 0
 ·simp [hx];omega
 ·simp [hx];omega
theorem xy (v:Value) (X:Int) (j:Nat) (w:World) (hv:bS w v X j) (hj:j≤1073741824):
  Calls Tryz.prog 93 #[v] w fun e w'=>∃ r,e=.returned r∧aE w' w.heap.size r (-X)∧aj w w':=by
 obtain ⟨s,p,n,c,rfl⟩:=hv.form
 have hl:=hv.len
 refine aw (C:=bP Tryz.prog w _) (args:=[_]) Tryz.func93 rfl Tryz.ntmps93 (Nat.le_of_ble_eq_true rfl) ?_
 (repeat first|refine wN ?_|refine wP rfl ?_|refine aa rfl ?_|refine ab rfl ?_|refine wO rfl rfl ?_)
 refine VO.call rfl rfl (fk Tryz.func96) (fun cB eu dt=>(kQ _ X j cB (hv.kp eu)).mono ?_)
 rintro e w1 ⟨r1,rfl,h1,aU⟩
 obtain ⟨s1,p1,n1,c1,rfl⟩:=h1.ij
 refine ⟨_,rfl,aU,fun fq _ bb1=>wV rfl ?_⟩
 (repeat first|refine wN ?_|refine wP rfl ?_|refine aa rfl ?_|refine ab rfl ?_|refine wO rfl rfl ?_)
 refine VO.call rfl rfl (fk Tryz.func96) (fun dR gS eW=>(kQ _ X j dR (hv.kp ((fq).aI gS))).mono ?_)
 rintro e w2 ⟨r2,rfl,h2,bn⟩
 obtain ⟨s2,p2,n2,c2,rfl⟩:=h2.ij
 refine ⟨_,rfl,bn,fun gw _ bb2=>wV rfl ?_⟩
 (repeat first|refine wN ?_|refine wP rfl ?_|refine aa rfl ?_|refine ab rfl ?_|refine wO rfl rfl ?_)
 refine VO.call rfl rfl (fk Tryz.func92) (fun gY iD jd=>(jo (!s1) _ n2 _ gY (h2.row.kp iD) (az _) (by rw [h2.n];omega)).mono ?_)
 rintro e w3 ⟨r3,rfl,h3,cI⟩
 obtain ⟨s3,p3,n3,c3,rfl⟩:=h3.form
 refine ⟨_,rfl,cI,fun kS _ bb3=>wV rfl ?_⟩
 (repeat first|refine wN ?_|refine wP rfl ?_|refine aa rfl ?_|refine ab rfl ?_|refine wO rfl rfl ?_)
 refine VS.ret (aJ _ _) rfl rfl (fun wz kz bz=> ?_)
 refine ⟨_,rfl,aE.cast ((h3.kp kz).mono jd.size) ?_,bz⟩
 rw [au]
 have:=rV h1.sgn
 cases s1 <;> simp at this ⊢ <;> omega
theorem xz (v u:Value) (X Y:Int) (j k:Nat) (w:World) (hv:bS w v X j) (hu:bS w u Y k) (hj:j≤536870912) (hk:k≤536870911):
  Calls Tryz.prog 62 #[v,u] w fun e w'=>∃ r,e=.returned r∧aE w' w.heap.size r (X + Y)∧aj w w':=by
 obtain ⟨s,p,n,c,rfl⟩:=hv.form
 obtain ⟨t,q,m,d,rfl⟩:=hu.form
 have sP:=hv.len
 have oc:=hu.len
 refine aw (C:=bP Tryz.prog w _) (args:=[_,_]) Tryz.func62 rfl Tryz.ntmps62 (Nat.le_of_ble_eq_true rfl) ?_
 (repeat first|refine wN ?_|refine wP rfl ?_|refine aa rfl ?_|refine ab rfl ?_|refine wO rfl rfl ?_)
 refine VO.call rfl rfl (fk Tryz.func96) (fun cB eu dt=>(kQ _ X j cB (hv.kp eu)).mono ?_)
 rintro e w1 ⟨r1,rfl,h1,aU⟩
 obtain ⟨s1,p1,n1,c1,rfl⟩:=h1.ij
 refine ⟨_,rfl,aU,fun fq _ bb1=>wV rfl ?_⟩
 (repeat first|refine wN ?_|refine wP rfl ?_|refine aa rfl ?_|refine ab rfl ?_|refine wO rfl rfl ?_)
 refine VO.call rfl rfl (fk Tryz.func96) (fun dR gS eW=>(kQ _ Y k dR (hu.kp ((fq).aI gS))).mono ?_)
 rintro e w2 ⟨r2,rfl,h2,bn⟩
 obtain ⟨s2,p2,n2,c2,rfl⟩:=h2.ij
 refine ⟨_,rfl,bn,fun gw _ bb2=>wV rfl ?_⟩
 (repeat first|refine wN ?_|refine wP rfl ?_|refine aa rfl ?_|refine ab rfl ?_|refine wO rfl rfl ?_)
 have e1:=rV h1.sgn
 have e2:=rV h2.sgn
 have sU:n1≤536870912:=by rw [h1.n];omega
 have yC:n2≤536870911:=by rw [h2.n];omega
 by_cases hst:s1=s2
 ·subst hst
  refine VS.bG rfl (by simp) ?_
  (repeat first|refine wN ?_|refine wP rfl ?_|refine aa rfl ?_|refine ab rfl ?_|refine wO rfl rfl ?_)
  refine VO.call rfl rfl (fk Tryz.func97) (fun gY iD jd=>(Jb _ _ n1 n2 _ _ gY (h1.row.kp (gS.aI ((Kp.of bn).aI iD))) (h2.row.kp iD) (az _) (az _) (by omega) (by omega)).mono ?_)
  rintro e w3 ⟨v3,rfl,h3,cI⟩
  obtain ⟨p3,c3,rfl,_⟩:=Own.form h3
  refine ⟨_,rfl,cI,fun kS _ bb3=>wV rfl ?_⟩
  (repeat first|refine wN ?_|refine wP rfl ?_|refine aa rfl ?_|refine ab rfl ?_|refine wO rfl rfl ?_)
  refine VO.call rfl rfl (fk Tryz.func92) (fun mW pV nI=>(jo s1 _ _ _ mW (Rd.own (Own.kp h3 pV)) (az _) (by have:=sum_len (a:=aq (limbs X.natAbs)) (b:=aq (limbs Y.natAbs)) (n:=n1) (m:=n2) (by rw [au];exact h1.n) (by rw [au];exact h2.n);omega)).mono ?_)
  rintro e w4 ⟨r4,rfl,h4,gI⟩
  obtain ⟨s4,p4,n4,c4,rfl⟩:=h4.form
  refine ⟨_,rfl,gI,fun oL _ AM=>wV rfl ?_⟩
  (repeat first|refine wN ?_|refine wP rfl ?_|refine aa rfl ?_|refine ab rfl ?_|refine wO rfl rfl ?_)
  refine VS.ret (aJ _ _) rfl rfl (fun wz kz bz=> ?_)
  refine ⟨_,rfl,aE.cast ((h4.kp kz).mono nI.size) ?_,bz⟩
  rw [au,au,au]
  cases s1 <;> simp at e1 e2 ⊢ <;> omega
 ·refine VS.bK rfl (by simpa using hst) ?_
  (repeat first|refine wN ?_|refine wP rfl ?_|refine aa rfl ?_|refine ab rfl ?_|refine wO rfl rfl ?_)
  refine VO.call rfl rfl (fk Tryz.func98) (fun gY iD jd=>(zH _ _ n1 n2 _ _ gY (h1.row.kp (gS.aI ((Kp.of bn).aI iD))) (h2.row.kp iD) (az _) (az _) (by omega) (by omega)).mono ?_)
  rintro e w3 ⟨h3,cI⟩
  rw [au,au] at h3
  rcases h3 with ⟨hlt,rfl⟩ | ⟨hle,v3,rfl,h3⟩
  ·refine ⟨_,rfl,cI,fun kS _ bb3=>wV rfl ?_⟩
   (repeat first|refine wN ?_|refine wP rfl ?_|refine aa rfl ?_|refine ab rfl ?_|refine wO rfl rfl ?_)
   refine VO.call rfl rfl (fk Tryz.func98) (fun mW pV nI=>(zH _ _ n2 n1 _ _ mW (h2.row.kp (iD.aI ((Kp.of cI).aI pV))) (h1.row.kp (gS.aI ((Kp.of bn).aI (iD.aI ((Kp.of cI).aI pV))))) (az _) (az _) (by omega) (by omega)).mono ?_)
   rintro e w4 ⟨h4,gI⟩
   rw [au,au] at h4
   rcases h4 with ⟨De,rfl⟩ | ⟨uY,v4,rfl,h4⟩
   ·omega
   ·obtain ⟨p4,c4,rfl,_⟩:=Own.form h4
    refine ⟨_,rfl,gI,fun oL _ AM=>wV rfl ?_⟩
    (repeat first|refine wN ?_|refine wP rfl ?_|refine aa rfl ?_|refine ab rfl ?_|refine wO rfl rfl ?_)
    refine VO.call rfl rfl (fk Tryz.func92) (fun jK mD jy=>(jo s2 _ _ _ jK (Rd.own (Own.kp h4 mD)) (az _) (by have:=cw (show Y.natAbs - X.natAbs≤Y.natAbs by omega);omega)).mono ?_)
    rintro e w5 ⟨r5,rfl,h5,fY⟩
    obtain ⟨s5,p5,n5,c5,rfl⟩:=h5.form
    refine ⟨_,rfl,fY,fun mX _ vQ=>wV rfl ?_⟩
    (repeat first|refine wN ?_|refine wP rfl ?_|refine aa rfl ?_|refine ab rfl ?_|refine wO rfl rfl ?_)
    refine VS.ret (aJ _ _) rfl rfl (fun wz kz bz=> ?_)
    refine ⟨_,rfl,aE.cast ((h5.kp kz).mono jy.size) ?_,bz⟩
    rw [au]
    cases s1 <;> cases s2 <;> simp at e1 e2 hst ⊢ <;> omega
  ·obtain ⟨p3,c3,rfl,_⟩:=Own.form h3
   refine ⟨_,rfl,cI,fun kS _ bb3=>wV rfl ?_⟩
   (repeat first|refine wN ?_|refine wP rfl ?_|refine aa rfl ?_|refine ab rfl ?_|refine wO rfl rfl ?_)
   refine VO.call rfl rfl (fk Tryz.func92) (fun jK mD jy=>(jo s1 _ _ _ jK (Rd.own (Own.kp h3 mD)) (az _) (by have:=cw (show X.natAbs - Y.natAbs≤X.natAbs by omega);omega)).mono ?_)
   rintro e w5 ⟨r5,rfl,h5,fY⟩
   obtain ⟨s5,p5,n5,c5,rfl⟩:=h5.form
   refine ⟨_,rfl,fY,fun mX _ vQ=>wV rfl ?_⟩
   (repeat first|refine wN ?_|refine wP rfl ?_|refine aa rfl ?_|refine ab rfl ?_|refine wO rfl rfl ?_)
   refine VS.ret (aJ _ _) rfl rfl (fun wz kz bz=> ?_)
   refine ⟨_,rfl,aE.cast ((h5.kp kz).mono jy.size) ?_,bz⟩
   rw [au]
   cases s1 <;> cases s2 <;> simp at e1 e2 hst ⊢ <;> omega
theorem Df (v u:Value) (X Y:Int) (j k:Nat) (w:World) (hv:bS w v X j) (hu:bS w u Y k) (hj:j≤536870912) (hk:k≤536870911):
  Calls Tryz.prog 120 #[v,u] w fun e w'=>∃ r,e=.returned r∧aE w' w.heap.size r (X - Y)∧aj w w':=by
 obtain ⟨s,p,n,c,rfl⟩:=hv.form
 obtain ⟨t,q,m,d,rfl⟩:=hu.form
 refine aw (C:=bP Tryz.prog w _) (args:=[_,_]) Tryz.func120 rfl Tryz.ntmps120 (Nat.le_of_ble_eq_true rfl) ?_
 (repeat first|refine wN ?_|refine wP rfl ?_|refine aa rfl ?_|refine ab rfl ?_|refine wO rfl rfl ?_)
 refine VO.call rfl rfl (fk Tryz.func93) (fun cB eu dt=>(xy _ Y k cB (hu.kp eu) (by omega)).mono ?_)
 rintro e w1 ⟨r1,rfl,h1,aU⟩
 obtain ⟨s1,p1,n1,c1,rfl⟩:=h1.form
 refine ⟨_,rfl,aU,fun fq _ bb1=>wV rfl ?_⟩
 (repeat first|refine wN ?_|refine wP rfl ?_|refine aa rfl ?_|refine ab rfl ?_|refine wO rfl rfl ?_)
 refine VO.call rfl rfl (fk Tryz.func62) (fun dR gS eW=>(xz _ _ X (-Y) j k dR (hv.kp ((fq).aI gS)) ((h1.kp gS).in (Sz.neg hu.len)) hj hk).mono ?_)
 rintro e w2 ⟨r2,rfl,h2,bn⟩
 obtain ⟨s2,p2,n2,c2,rfl⟩:=h2.form
 refine ⟨_,rfl,bn,fun gw _ bb2=>wV rfl ?_⟩
 (repeat first|refine wN ?_|refine wP rfl ?_|refine aa rfl ?_|refine ab rfl ?_|refine wO rfl rfl ?_)
 refine VS.ret (aJ _ _) rfl rfl (fun wz kz bz=> ?_)
 exact ⟨_,rfl,aE.cast ((h2.kp kz).mono eW.size) (Int.sub_eq_add_neg).symm,bz⟩
end Go.Proofs.YtabalinjfgcfeaaGreat
namespace Go.Proofs.YtabalinjfgcfeaaGreat
open Go.RowKit
attribute [local irreducible] aA VS
set_option maxRecDepth 100000 in
set_option maxHeartbeats 400000 in
theorem gT (p:Option Addr) (n c:Nat) (xs:List Nat) (w:World) (hr:Rd w 1 (.slice p n c) n (ints .i64 xs)) (hl:gf xs):
  Calls Tryz.prog 125 #[.slice p n c] w fun e w'=>(∃ m,m≤n∧e=.returned (.slice p m c)∧halves (hval xs)=xs.take m)∧w=w':=by
 obtain ⟨p',c',hv,fH,fy,ew⟩:=hr.i64
 simp only [Value.slice.injEq,true_and] at hv
 obtain ⟨rfl,rfl⟩:=hv
 have HX:Hid (xs.length=n):=ew
 clear ew
 refine aN fun R' bt=> ?_
 go_enter Tryz.func125,Tryz.ntmps125
 go_wp2
 go_loop [0] (fun v=>∃ m,m≤n∧v=.slice p m c∧hval (xs.take m)=hval xs) (fun v=>match v with | .slice _ m _=>m | _=>0)
 case atStart=>exact ⟨n,Nat.le_refl _,rfl,by rw [List.take_of_length_le (Nat.le_of_eq HX.out)]⟩
 case round=>
  obtain ⟨m,hm,rfl,hv⟩:=hrel
  have HV:Hid (hval (xs.take m)=hval xs):=hv
  clear hv
  by_cases h0:m=0
  ·subst h0
   go_wp2
   exact bt.out _ _ ⟨⟨0,Nat.zero_le _,rfl,jO (by omega) hl (Nat.zero_le _) HV.out (.inl rfl)⟩,rfl⟩
  ·obtain ⟨b,off,x,rfl,hb,hx,hc⟩:=hr.cellAt (k:=m - 1) (by omega)
   have Km:Hid (xs[m-1]? =some x):=hx
   clear hx
   have h0':0 < m:=by omega
   obtain ⟨j,rfl⟩:∃ j,m=j + 1:=⟨m - 1,by omega⟩
   rw [Nat.add_sub_cancel] at hc
   by_cases gB:x=0
   ·subst gB
    go_wp2
    go_round
    case rel=>exact ⟨j,by omega,rfl,(kI Km.out).symm.trans HV.out⟩
    case measure=>simp
   ·have hx0':((x:Int) == 0)=false:=by rw [beq_eq_false_iff_ne];omega
    go_wp2
    exact bt.out _ _ ⟨⟨j + 1,hm,rfl,jO (by omega) hl (by rw [HX.out];exact hm) HV.out (.inr ⟨x,Km.out,gB⟩)⟩,rfl⟩
set_option maxRecDepth 100000 in
set_option maxHeartbeats 1000000 in
theorem AO (va:Value) (n:Nat) (xs:List Nat) (w:World) (hr:Rd w 1 va n (ints .u32 xs)) (hl:cd xs) (hn:n≤1073741824):
  Calls Tryz.prog 101 #[va] w fun e w'=>∃ v',e=.returned v'∧w'.ownsRow w.heap.size 3 1 v' (halves (aq xs)).length (ints .i64 (halves (aq xs)))∧Below w.heap.size w w':=by
 obtain ⟨p,c,rfl,fH,fy,ew⟩:=hr.u32
 obtain ⟨i0,hi,lp,lx,lT⟩:=info_parts vO
 obtain ⟨B,hB⟩:∃ B,B=w.heap.size:=⟨_,rfl⟩
 have HB:=Lib.hid hB
 have Hr:=Lib.hid hr
 have HL:=Lib.hid hl
 have HX:=Lib.hid ew
 rw [←hB]
 clear hr hl ew hB
 refine aN fun R' bt=> ?_
 go_enter Tryz.func101,Tryz.ntmps101
 go_wp2
 go_loopw [3,4] (fun ov iv wr=>GR w B xs ov iv wr) (fun _ iv _=>n - (intOf iv).toNat)
 case atStart=>exact ⟨0,[],Nat.zero_le _,rfl,rfl,dH.nil _,rfl,World.ownsRow_nil _ _ _ _,Below.refl _ _⟩
 case round=>
  obtain ⟨k,hs,hk,rfl,hhl,hhh,hhv,aH,hb⟩:=hrel
  have HK:=Lib.hid hk
  have HO:=Lib.hid aH
  have HHL:=Lib.hid hhl
  have HHH:=Lib.hid hhh
  have HHV:=Lib.hid hhv
  have gC:=Lib.hid hb
  have vx:B≤wr.heap.size:=by have:=hb.size;have:=HB.out;omega
  have hkn':k≤n:=by rw [←HX.out];exact hk
  clear hk aH hhl hhh hhv hb
  by_cases sR:k < n
  ·obtain ⟨b1,o1,x,rfl,aU,gl,hcw⟩:=Hr.out.cellAt sR
   have qw:=(gC.out.cell (p:=⟨b1,o1 + k,none⟩) (by rw [HB.out];exact aU)).trans hcw
   have hne:=Kj HO.out (b:=b1) (by rw [HB.out];exact aU)
   have vz:=Lib.hid gl
   have ku:=HL.out.at gl
   have HNE:=Lib.hid hne
   have yu:(0:Int)≤(k:Int):=by omega
   have Ay:(k:Int) < (n:Int):=by omega
   clear gl hcw hne
   go_wp2_with fail
   go_region_held3 (fun w'=>w'.cell? ⟨b1,o1 + k,none⟩=some (.int .u32 (x:Int))) (first | exact qw | go_keep | exact yR xu qw HNE.out)
    ((refine oe (by rfl) _ _ 156 (by rfl) B 3 i0 (.int .i64 0) 1 8 Tryz.underlying156 hi lp lx lT rfl (by omega) _ (2 * k) (ints .i64 hs) (by rfl) ((HO.out.alloc _).drew) _ 2 (ints .i64 [x % 65536,x / 65536]) (by rfl) (Rd.drew (Rd.lit2 (GS ku) (GU ku))) (lQ .i64 [x % 65536,x / 65536]) (by unfold maxLen;omega) (by omega) (by simp;omega) ?_;intro v1 w1 fA xu))
   have qZ:=Lib.hid fA
   have HG1:=Lib.hid xu
   clear fA xu
   go_wp2_with fail
   go_roundw
   case rel=>
    have hst:=zD vz.out ku HHL.out HHH.out HHV.out
    exact ⟨k + 1,hs++[x % 65536,x / 65536],by rw [HX.out];omega,by go_num,by simp [HHL.out];omega,hst.1,hst.2,by rw [gO];exact qZ.out,Below.behind gC.out vx HG1.out HO.out (Nat.le_refl _)⟩
   case measure=>simp [intOf];omega
  ·obtain rfl:k=n:=by omega
   obtain ⟨p1,c1,Bu,_,_,_⟩:=Own.form HO.out
   have HV1:=Lib.hid Bu
   have mI:Hid (hval hs=aq xs):=by show _=_;rw [HHV.out,bm (Nat.le_of_eq HX.out)]
   subst Bu
   go_wp2_with fail
   refine (gT p1 (2 * k) c1 hs _ (Rd.own HO.out) HHH.out).mono ?_
   rintro e w2 ⟨⟨m,hm,rfl,yr⟩,rfl⟩
   have HC:=Own.cut HO.out hm yr
   rw [mI.out] at HC
   have HC1:=Lib.hid HC.1
   have HC2:=Lib.hid HC.2
   clear HC yr
   go_wp2_with fail
   refine bt.out _ _ ⟨_,rfl,?_,gC.out⟩
   have:=HC1.out
   rw [←HC2.out] at this ⊢
   exact this
theorem LF {n:Int} (h0: -9223372036854775808≤n) (h1:n≤9223372036854775807):tf (n.tmod 4294967296) [IntKind.i64.wrap (0 - n.tmod 4294967296)]=((n.natAbs % 4294967296:Nat):Int):=by
 have e:(n.tmod 4294967296).natAbs=n.natAbs % 4294967296:=by rw [Int.natAbs_tmod];rfl
 have hs:(0≤n→0≤n.tmod 4294967296):=fun h=>Int.tmod_nonneg _ h
 have hs':(n≤0→n.tmod 4294967296≤0):=fun h=>by have:=Int.tmod_nonneg 4294967296 (show 0≤-n by omega);rw [Int.neg_tmod] at this;omega
 rw [IntWalk.i64_in _ (by omega)]
 unfold tf tf
 split <;> omega
theorem LG {n:Int} (h0: -9223372036854775808≤n) (h1:n≤9223372036854775807):tf (IntKind.i64.wrap (n.tdiv 4294967296)) [IntKind.i64.wrap (0 - IntKind.i64.wrap (n.tdiv 4294967296))]=((n.natAbs / 4294967296:Nat):Int):=by
 have e:(n.tdiv 4294967296).natAbs=n.natAbs / 4294967296:=by rw [Int.natAbs_tdiv];rfl
 have hs:(0≤n→0≤n.tdiv 4294967296):=fun h=>Int.tdiv_nonneg h (by omega)
 have hs':(n≤0→n.tdiv 4294967296≤0):=fun h=>by have:=Int.tdiv_nonneg (show 0≤-n by omega) (show (0:Int)≤4294967296 by omega);rw [Int.neg_tdiv] at this;omega
 have hb:n.natAbs / 4294967296≤2147483648:=by omega
 rw [IntWalk.i64_in (n.tdiv 4294967296) (by omega),IntWalk.i64_in _ (by omega)]
 unfold tf tf
 split <;> omega
theorem GX {x:Nat} (h:x < 4294967296):IntKind.u32.wrap (x:Int)=(x:Int):=by rw [IntKind.wrap_u32',Int.emod_eq_of_lt (by omega) (by omega)]
theorem pC (n:Int) (w:World) (h0: -9223372036854775808≤n) (h1:n≤9223372036854775807):
  Calls Tryz.prog 59 #[.int .i64 n] w fun e w'=>∃ r,e=.returned r∧aE w' w.heap.size r n∧aj w w':=by
 have e1:=LF h0 h1
 have e2:=LG h0 h1
 have g1:=Nat.mod_lt n.natAbs (show 0 < 4294967296 by omega)
 have g2:n.natAbs / 4294967296 < 4294967296:=by omega
 refine aw (C:=bP Tryz.prog w _) (args:=[_]) Tryz.func59 rfl Tryz.ntmps59 (Nat.le_of_ble_eq_true rfl) ?_
 (repeat first|refine wN ?_|refine wP rfl ?_|refine aa rfl ?_|refine ab rfl ?_|refine wO rfl rfl ?_)
 refine VO.lit (aJ _ _) [.int .u32 (IntKind.u32.wrap (tf (n.tmod 4294967296) [IntKind.i64.wrap (0 - n.tmod 4294967296)])),.int .u32 (IntKind.u32.wrap (tf (IntKind.i64.wrap (n.tdiv 4294967296)) [IntKind.i64.wrap (0 - IntKind.i64.wrap (n.tdiv 4294967296))]))] rfl rfl rfl rfl rfl rfl rfl rfl rfl (by omega) (fun w2 b k2 b2 ho=>wV rfl ?_)
 rw [e1,e2,GX g1,GX g2] at ho
 refine VO.call rfl rfl (fk Tryz.func92) (fun gY iD jd=>(jo (decide (n < 0)) _ 2 [n.natAbs % 4294967296,n.natAbs / 4294967296] gY (Rd.own (Own.kp (cs:=ints .u32 [n.natAbs % 4294967296,n.natAbs / 4294967296]) ho iD)) (dH.cons g1 (dH.cons g2 (dH.nil _))) (by omega)).mono ?_)
 rintro e w3 ⟨r3,rfl,h3,cI⟩
 obtain ⟨s3,p3,n3,c3,rfl⟩:=h3.form
 refine ⟨_,rfl,cI,fun kS _ bb3=>wV rfl ?_⟩
 (repeat first|refine wN ?_|refine wP rfl ?_|refine aa rfl ?_|refine ab rfl ?_|refine wO rfl rfl ?_)
 refine VS.ret (aJ _ _) rfl rfl (fun wz kz bz=> ?_)
 refine ⟨_,rfl,aE.cast ((h3.kp kz).mono jd.size) ?_,bz⟩
 rw [fi,fi,dW]
 by_cases hn:n < 0
 ·simp only [hn,decide_true,if_true];omega
 ·simp only [hn,decide_false];simp;omega
end Go.Proofs.YtabalinjfgcfeaaGreat
namespace Go.Proofs.YtabalinjfgcfeaaGreat
open Go.RowKit
def lv (ls:List Nat) (k j:Nat):Nat:=(if 2 * j < k then ls.getD (2 * j) 0 else 0) + 65536 * (if 2 * j + 1 < k then ls.getD (2 * j + 1) 0 else 0)
def yq (ls:List Nat) (m k:Nat):List Nat:=(List.range m).map (lv ls k)
theorem LH (ls:List Nat) (m:Nat):yq ls m 0=List.replicate m 0:=by
 apply List.ext_getElem
 ·simp [yq]
 ·intro i h1 h2;simp [yq,lv]
theorem LI {ls:List Nat} {m j x:Nat} (hx:ls[2 * j]? =some x):(yq ls m (2 * j)).set j x=yq ls m (2 * j + 1):=by
 apply List.ext_getElem
 ·simp [yq]
 ·intro i h1 h2
  simp only [yq,List.getElem_set,List.getElem_map,List.getElem_range]
  by_cases e:j=i
  ·subst e
   rw [if_pos rfl]
   unfold lv
   rw [if_pos (by omega),if_neg (by omega),List.getD_eq_getElem?_getD,hx];rfl
  ·rw [if_neg e]
   unfold lv
   congr 1
   ·by_cases h:2 * i < 2 * j
    ·rw [if_pos h,if_pos (by omega)]
    ·rw [if_neg h,if_neg (by omega)]
   ·by_cases h:2 * i + 1 < 2 * j
    ·rw [if_pos h,if_pos (by omega)]
    ·rw [if_neg h,if_neg (by omega)]
theorem lds_odd {ls:List Nat} {m j x y:Nat} (hy:(yq ls m (2 * j + 1))[j]? =some y) (hx:ls[2 * j + 1]? =some x):(yq ls m (2 * j + 1)).set j (y + 65536 * x)=yq ls m (2 * j + 2):=by
 have hy':y=ls.getD (2 * j) 0:=by
  obtain ⟨h,rfl⟩:=List.getElem?_eq_some_iff.1 hy
  simp only [yq,List.getElem_map,List.getElem_range]
  unfold lv
  rw [if_pos (by omega),if_neg (by omega)];rfl
 apply List.ext_getElem
 ·simp [yq]
 ·intro i h1 h2
  simp only [yq,List.getElem_set,List.getElem_map,List.getElem_range]
  by_cases e:j=i
  ·subst e
   rw [if_pos rfl]
   unfold lv
   rw [if_pos (by omega),if_pos (by omega),hy']
   congr 2
   rw [List.getD_eq_getElem?_getD,hx];rfl
  ·rw [if_neg e]
   unfold lv
   congr 1
   ·by_cases h:2 * i < 2 * j + 1
    ·rw [if_pos h,if_pos (by omega)]
    ·rw [if_neg h,if_neg (by omega)]
   ·by_cases h:2 * i + 1 < 2 * j + 1
    ·rw [if_pos h,if_pos (by omega)]
    ·rw [if_neg h,if_neg (by omega)]
theorem lds_end {ls:List Nat} (h:gf ls) {m:Nat} (hm:ls.length≤2 * m):aq (yq ls m ls.length)=hval ls∧cd (yq ls m ls.length):=by
 have hb:∀ k,ls.getD k 0 < 65536:=fun k=>jU h k
 have yp:∀ j,lv ls ls.length j=ls.getD (2 * j) 0 + 65536 * ls.getD (2 * j + 1) 0:=fun j=>by
  unfold lv
  congr 1
  ·split
   ·rfl
   ·rw [gR (by omega)]
  ·split
   ·rfl
   ·rw [gR (by omega)]
 constructor
 ·have key:∀ j,j≤m→aq ((yq ls m ls.length).take j)=hval (ls.take (2 * j)):=by
   intro j
   induction j with
   | zero=>intro _;rfl
   | succ j ih=>
     intro hj
     rw [aY,ih (by omega)]
     have e:(yq ls m ls.length).getD j 0=ls.getD (2 * j) 0 + 65536 * ls.getD (2 * j + 1) 0:=by
      rw [List.getD_eq_getElem?_getD]
      simp [yq,show j < m by omega,yp]
     rw [e]
     show _=val 65536 (ls.take (2 * j + 1 + 1))
     rw [bJ,bJ,Nat.mul_add,←Nat.mul_assoc,Nat.pow_succ 65536 (2 * j),Nat.pow_mul]
     show val 65536 _ + _=_
     rw [Nat.add_assoc]
  have:=key m (Nat.le_refl _)
  rw [List.take_of_length_le (by simp [yq]),List.take_of_length_le hm] at this
  exact this
 ·intro x hx
  obtain ⟨j,_,rfl⟩:=List.mem_map.1 hx
  rw [yp]
  have:=hb (2 * j)
  have:=hb (2 * j + 1)
  omega
def Jc (w:World) (B g m:Nat) (ls:List Nat) (iv:Value) (wr:World):Prop:=
 ∃ k,k≤ls.length∧iv=.int .i64 (k:Int)∧wr.ownsRow B 117 1 (.slice (some ⟨g,0,none⟩) m m) m (ints .u32 (yq ls m k))∧Below B w wr
set_option maxRecDepth 100000 in
set_option maxHeartbeats 2000000 in
theorem Dg (va:Value) (n:Nat) (ls:List Nat) (w:World) (hr:Rd w 1 va n (ints .i64 ls)) (hl:gf ls) (hn:n≤2147483656):
  Calls Tryz.prog 99 #[va] w fun e w'=>∃ v' xs,e=.returned v'∧xs.length=(n + 1) / 2∧w'.ownsRow w.heap.size 117 1 v' ((n + 1) / 2) (ints .u32 xs)∧aq xs=hval ls∧cd xs∧Below w.heap.size w w':=by
 obtain ⟨p,c,rfl,fH,fy,ew⟩:=hr.i64
 obtain ⟨i0,hi,lp,lx,lT⟩:=info_parts iZ
 obtain ⟨B,hB⟩:∃ B,B=w.heap.size:=⟨_,rfl⟩
 have HB:=Lib.hid hB
 have Hr:=Lib.hid hr
 have HL:=Lib.hid hl
 have HX:=Lib.hid ew
 obtain ⟨m,hm⟩:∃ m,m=(n + 1) / 2:=⟨_,rfl⟩
 have HM:=Lib.hid hm
 have hmn:n≤2 * m:=by omega
 have hmb:m≤1073741828:=by omega
 have hq:((n:Int) + 1) / 2=(m:Int):=by omega
 rw [←hB,←hm]
 clear hr hl ew hB hm
 refine aN fun R' bt=> ?_
 go_enter Tryz.func99,Tryz.ntmps99
 go_wp2_with (at_make;refine wpList_make_full _ rfl _ _ 22 rfl B 117 i0 (.int .u32 0) 1 Tryz.underlying22 hi lp lx .i64 .i64 _ _ m rfl rfl hq hq (by rw [lT];omega) (by unfold maxLen;omega) (Nat.le_of_eq HB.out) ?_;intro w1 aH Ig)
 have Ey:=Lib.hid (Own.made aH)
 have Hb1:Hid (Below B w w1):=(Below.refl _ _).grown Ig (Nat.le_of_eq HB.out) (fun k hk=>by cases hk)
 clear aH Ig hq
 go_wp2_with fail
 go_loopw [4] (fun iv wr=>Jc w B w.heap.size m ls iv wr) (fun iv _=>n - (intOf iv).toNat)
 case atStart=>exact ⟨0,Nat.zero_le _,rfl,by rw [LH];have:=Ey.out;rw [List.nil_append] at this;exact this,Hb1.out⟩
 case round=>
  obtain ⟨k,hk,rfl,aH,hb⟩:=hrel
  have nw:=Lib.hid aH
  have oh:=Lib.hid hb
  have sR:k≤n:=by rw [←HX.out];exact hk
  clear aH hb hk
  by_cases hlt:k < n
  ·obtain ⟨b1,o1,x,rfl,aU,gl,hcw⟩:=Hr.out.cellAt hlt
   have qw:=(oh.out.cell (p:=⟨b1,o1 + k,none⟩) (by rw [HB.out];exact aU)).trans hcw
   have ku:=HL.out.at gl
   have vz:=Lib.hid gl
   obtain ⟨j,hj⟩:∃ j,j=k / 2:=⟨_,rfl⟩
   have hk2:(k:Int) / 2=(j:Int):=by omega
   have hjm:j < m:=by omega
   obtain ⟨z,hz,hcell,yt⟩:=Own.gr nw.out (j:=j) hjm
   have HZ:=Lib.hid hz
   have hw4:(x:Int) % 4294967296=(x:Int):=by omega
   have hj0:(0:Int)≤(j:Int):=by omega
   have hj1:(j:Int) < (m:Int):=by omega
   have yu:(0:Int)≤(k:Int):=by omega
   have Ay:(k:Int) < (n:Int):=by omega
   by_cases he:k % 2=0
   ·have hke:((k:Int) % 2 == 0)=true:=by rw [beq_iff_eq];omega
    have HK:Hid (k=2 * j):=by show _=_;omega
    clear gl hcw he hj hz
    go_wp2_with fail
    go_roundw
    case rel=>
     refine ⟨k + 1,by rw [HX.out];omega,by go_num,?_,oh.out.setCell (Own.lt nw.out).1 _⟩
     have h1:=Own.fX (j:=j) (x:=x) nw.out
     rw [HK.out,LI (by rw [←HK.out];exact vz.out)] at h1
     rw [HK.out]
     simpa using h1
    case measure=>simp [intOf];omega
   ·have hke:((k:Int) % 2 == 0)=false:=by rw [beq_eq_false_iff_ne];omega
    have HK:Hid (k=2 * j + 1):=by show _=_;omega
    have hz4:z < 65536:=by
     have:=HZ.out
     rw [HK.out] at this
     obtain ⟨h,rfl⟩:=List.getElem?_eq_some_iff.1 this
     simp only [yq,List.getElem_map,List.getElem_range]
     unfold lv
     rw [if_pos (by omega),if_neg (by omega)]
     exact jU HL.out _
    have hw5:IntKind.u32.wrap (z + IntKind.u32.wrap (65536 * (x:Int)))=((z + 65536 * x:Nat):Int):=by
     rw [IntKind.wrap_u32',IntKind.wrap_u32'];omega
    clear gl hcw he hj hz
    go_wp2
    go_region
    all_goals
     go_wp2_with fail
     go_roundw
     case rel=>
      refine ⟨k + 1,by rw [HX.out];omega,by go_num,?_,(oh.out.setCell (Own.lt nw.out).1 _).drew⟩
      have h1:=Own.fX (j:=j) (x:=z + 65536 * x) nw.out
      rw [HK.out,lds_odd (by have:=HZ.out;rw [HK.out] at this;exact this) (by rw [←HK.out];exact vz.out)] at h1
      rw [HK.out]
      have h2:(((z + 65536 * x:Nat):Int))=(z:Int) + 65536 * (x:Int):=by omega
      rw [h2] at h1
      exact h1
     case measure=>simp [intOf];omega
  ·obtain rfl:k=n:=by omega
   obtain ⟨e1,e2⟩:=lds_end HL.out (m:=m) (by rw [HX.out];exact hmn)
   rw [HX.out] at e1 e2
   have E1:=Lib.hid e1
   have E2:=Lib.hid e2
   clear e1 e2
   go_wp2_with fail
   exact bt.out _ _ ⟨_,_,rfl,by simp [yq],nw.out,E1.out,E2.out,oh.out⟩
end Go.Proofs.YtabalinjfgcfeaaGreat
namespace Go.Proofs.YtabalinjfgcfeaaGreat
open Go.RowKit
theorem val_set {B:Nat} {xs:List Nat} {j o v:Nat} (h:xs[j]? =some o):val B (xs.set j v) + B ^ j * o=val B xs + B ^ j * v:=by
 obtain ⟨hl,he⟩:=List.getElem?_eq_some_iff.1 h
 have h1:xs=xs.take j++o::xs.drop (j + 1):=by rw [←he,←List.drop_eq_getElem_cons hl,List.take_append_drop]
 have h2:xs.set j v=xs.take j++v::xs.drop (j + 1):=by
  conv=>lhs;rw [h1]
  rw [List.set_append_right _ _ (by rw [List.length_take];omega)]
  rw [List.length_take,Nat.min_eq_left (by omega),Nat.sub_self];rfl
 have e1:val B xs=val B (xs.take j) + B ^ j * (o + B * val B (xs.drop (j + 1))):=by
  conv=>lhs;rw [h1]
  rw [iJ,List.length_take,Nat.min_eq_left (by omega),gp]
 have e2:val B (xs.set j v)=val B (xs.take j) + B ^ j * (v + B * val B (xs.drop (j + 1))):=by
  rw [h2,iJ,List.length_take,Nat.min_eq_left (by omega),gp]
 rw [e1,e2,Nat.mul_add,Nat.mul_add]
 omega
theorem gf.set {xs:List Nat} (h:gf xs) {v:Nat} (hv:v < 65536) (j:Nat):gf (xs.set j v):=fun y hy=>by
 rcases List.mem_or_eq_of_mem_set hy with h1 | h1
 ·exact h y h1
 ·rw [h1];exact hv
theorem rW {os:List Nat} {i k x y o c s S Y:Nat} (ho:os[i + k]? =some o) (hs:s=x * y + o + c) (h:hval os + 65536 ^ (i + k) * c=S + 65536 ^ i * (x * Y)):
  hval (os.set (i + k) (s % 65536)) + 65536 ^ (i + (k + 1)) * (s / 65536)=S + 65536 ^ i * (x * (Y + 65536 ^ k * y)):=by
 have h1:hval (os.set (i + k) (s % 65536)) + 65536 ^ (i + k) * o=hval os + 65536 ^ (i + k) * (s % 65536):=val_set ho
 have h2:65536 ^ (i + (k + 1))=65536 ^ (i + k) * 65536:=by rw [←Nat.add_assoc,Nat.pow_succ]
 have h3:65536 ^ (i + k) * s=65536 ^ (i + k) * (s % 65536) + 65536 ^ (i + k) * 65536 * (s / 65536):=by
  rw [Nat.mul_assoc,←Nat.mul_add,Nat.mod_add_div]
 have h4:65536 ^ (i + k) * s=65536 ^ (i + k) * (x * y) + 65536 ^ (i + k) * o + 65536 ^ (i + k) * c:=by rw [hs,Nat.mul_add,Nat.mul_add]
 have h5:65536 ^ i * (x * (Y + 65536 ^ k * y))=65536 ^ i * (x * Y) + 65536 ^ (i + k) * (x * y):=by
  rw [Nat.mul_add,Nat.mul_add,Nat.pow_add]
  congr 1
  rw [Nat.mul_left_comm x,Nat.mul_assoc]
 rw [h2,h5]
 omega
def iv (xs:List Nat):List AV:=(ints .i64 xs).map .val
theorem bM (xs:List Nat):(iv xs).length=xs.length:=by simp [iv]
theorem LJ {xs:List Nat} {j x:Nat} (h:xs[j]? =some x):(iv xs)[j]? =some (.val (.int .i64 (x:Int))):=by
 unfold iv
 rw [List.getElem?_map,rn h];rfl
theorem pD (xs ys:List Nat):iv (xs++ys)=iv xs++iv ys:=by simp [iv,gO]
theorem mj (xs:List Nat):(iv xs).all aG=true:=aZ (List.all_eq_true.2 fun u hu=>by obtain ⟨_,_,rfl⟩:=List.mem_map.1 hu;rfl)
theorem GY (xs:List Nat):(ints .i64 xs).all aR=true:=List.all_eq_true.2 fun u hu=>by obtain ⟨_,_,rfl⟩:=List.mem_map.1 hu;rfl
theorem bq (xs:List Nat):ay (iv xs)=[]:=ao _
theorem xA:∀ n:Nat,jw n [.val (.int .i64 0)]=iv (List.replicate n 0)
 | 0=>rfl
 | n + 1=>by rw [jw,xA n,List.replicate_succ];rfl
theorem iv_peek {xs:List Nat} {spare:List AV} {j x o:Nat} (h:xs[j]? =some x) (ho:o=j):∀ i u,[AV.val (.int .i64 (x:Int))][i]? =some u→(iv xs++spare)[o + i]? =some u:=by
 subst ho
 intro i u hu
 cases i with
 | zero=>
   cases hu
   have hl:=(List.getElem?_eq_some_iff.1 (LJ h)).1
   rw [Nat.add_zero,List.getElem?_append_left hl,LJ h]
 | succ i=>cases hu
theorem rX {xs:List Nat} {j x o:Nat} (h:xs[j]? =some x) (ho:o=j):∀ i u,[AV.val (.int .i64 (x:Int))][i]? =some u→(iv xs)[o + i]? =some u:=by
 have:=iv_peek (spare:=[]) h ho
 simpa using this
theorem vR {xs:List Nat} {j x o:Nat} (h:j < xs.length) (ho:o=j):(iv xs).take o++([AV.val (.int .i64 (x:Int))]++(iv xs).drop (o + 1))=iv (xs.set j x):=by
 subst ho
 have:iv (xs.set o x)=(iv xs).set o (.val (.int .i64 (x:Int))):=by simp [iv,←ints_set,List.map_set]
 rw [this,List.set_eq_take_append_cons_drop,if_pos (by rw [bM];exact h)]
 rfl
theorem kV {C:Cx} {β:Nat→Nat} {w:World} {i n c:Nat} {t:TypeId} {xs:List Nat} {spare:List AV} (h:lW C β w i t (iv xs++spare)) (hn:xs.length=n) (fH:n≤c) (fy:c≤maxLen):Rd w 1 (.slice (some ⟨β i,0,none⟩) n c) n (ints .i64 xs):=by
 refine ⟨_,c,rfl,fH,fy,by simp [hn],fun _=>⟨_,_,rfl,fun j u hj=> ?_⟩⟩
 have hl:=(List.getElem?_eq_some_iff.1 hj).1
 refine h.cls.cell ?_
 rw [Nat.zero_add]
 simp only [List.map_append,List.getElem?_toArray]
 rw [List.getElem?_append_left (by simpa [iv] using hl)]
 unfold iv
 rw [ah]
 exact hj
def eD (w:World) (B:Nat) (v:Value) (n:Nat) (xs:List Nat):Prop:=
 xs.length=n∧((v=.slice none 0 0∧n=0)∨∃ b c spare,v=.slice (some ⟨b,0,none⟩) n c∧B≤b∧aV w b 3 (ints .i64 xs++spare).toArray∧n≤c∧c≤maxLen∧n + spare.length=c∧spare.all aR=true)
theorem eD.own {w:World} {B:Nat} {v:Value} {n:Nat} {xs:List Nat} (h:eD w B v n xs):w.ownsRow B 3 1 v n (ints .i64 xs):=by
 obtain ⟨hn,⟨rfl,rfl⟩ | ⟨b,c,spare,rfl,hB,hc,h1,h2,h3,_⟩⟩:=h
 ·rw [List.eq_nil_of_length_eq_zero hn];exact World.ownsRow_nil _ _ _ _
 ·refine ⟨by simp [hn],.inr ⟨b,c,_,rfl,hB,hc,h1,h2,by simp [hn,h3],?_⟩⟩
  rw [List.take_append_of_le_length (by simp [hn]),List.take_of_length_le (by simp [hn])]
theorem eD.new {C:Cx} {w:World} {B:Nat} {v:Value} {n:Nat} {xs:List Nat} (h:eD w B v n xs):Lh C 3 1 B w v n (ints .i64 xs):=by
 obtain ⟨hn,⟨rfl,rfl⟩ | ⟨b,c,spare,rfl,hB,hc,h1,h2,h3,h4⟩⟩:=h
 ·exact .inl ⟨rfl,rfl,by rw [List.eq_nil_of_length_eq_zero hn];rfl⟩
 ·exact .inr ⟨b,c,spare,rfl,hB,hc,GY xs,h4,h1,by simpa [maxLen] using h2,by simp;omega⟩
theorem eD.nil (w:World) (B:Nat):eD w B (.slice none 0 0) 0 []:=⟨rfl,.inl ⟨rfl,rfl⟩⟩
theorem oM {C:Cx} {β:Nat→Nat} {w:World} {i n m c:Nat} {xs:List Nat} {spare:List AV} (h:lW C β w i 3 (iv xs++spare)) (hn:xs.length=n) (hm:m≤n) (fH:n≤c) (fy:c≤maxLen) (hl:xs.length + spare.length=c) (hnw:∀ i g,C.ze i g→C.w0.heap.size≤g:=by exact fun _ _ h=>h):
  eD w C.w0.heap.size (.slice (some ⟨β i,0,none⟩) m c) m (xs.take m):=by
 refine ⟨by rw [List.length_take];omega,.inr ⟨β i,c,ints .i64 (xs.drop m)++spare.map (AV.leaf β),rfl,hnw _ _ h.new,?_,by omega,fy,by simp;omega,?_⟩⟩
 ·have:=h.cls
  rw [List.map_append] at this
  unfold iv at this
  rw [ah] at this
  rw [←List.append_assoc,←gO,List.take_append_drop]
  exact this
 ·have hk:=h.ok
  rw [List.all_append,Bool.and_eq_true] at hk
  rw [List.all_append,GY,cJ hk.2];rfl
theorem cK {C:Cx} {β:Nat→Nat} {w:World} {i:Nat} {t:TypeId} {cs news rest:List AV} (h:lW C β w i t cs) (e:cs=news++rest):∀ j u,(news.map (AV.leaf β))[j]? =some u→w.cell? ⟨β i,0 + j,none⟩=some u:=by
 intro j u hj
 have hl:=(List.getElem?_eq_some_iff.1 hj).1
 refine h.cls.cell ?_
 rw [e,Nat.zero_add,List.map_append]
 simp only [List.getElem?_toArray]
 rw [List.getElem?_append_left hl]
 exact hj
theorem dJ {cs:List AV} (h:ay cs=[]) (i:Nat) (ρ:AV→Value):cs.map (AV.rf i ρ)=cs:=by
 induction cs with
 | nil=>rfl
 | cons x r ih=>
   rw [ay,List.append_eq_nil_iff] at h
   rw [List.map_cons,ih h.2]
   have:x.rf i ρ=x:=by unfold AV.rf;rw [h.1];rfl
   rw [this]
theorem LK (i:Nat) (ρ:AV→Value) (xs:List Nat):(iv xs).map (AV.rf i ρ)=iv xs:=dJ (bq xs) i ρ
theorem vS {xs:List Nat} {m n:Nat} (h:halves (hval xs)=xs.take m) (hm:m≤n) (hn:xs.length=n):m=(halves (hval xs)).length:=by rw [h,List.length_take];omega
end Go.Proofs.YtabalinjfgcfeaaGreat
set_option maxRecDepth 4000
namespace Go.Proofs.YtabalinjfgcfeaaGreat
open Go.RowKit
attribute [local irreducible] aA VS
theorem kW {w:World} {b off k:Nat} {u:Value} {z:Int} (hz:z=(k:Int)) (h:w.cell? ⟨b,off + k,none⟩=some u):∀ j v,[u][j]? =some v→w.cell? ((⟨b,off + z.toNat * 1,none⟩:Addr).add j)=some v:=by
 subst hz
 intro j v hj
 rw [Addr.add_mid,Int.toNat_natCast,Nat.mul_one]
 cases j with
 | zero=>cases hj;exact h
 | succ j=>cases hj
theorem Jd {i k:Nat} {os xs ys:List Nat} {x:Nat} (hx:xs[i]? =some x) (hk:ys.length≤k) (h:hval os + 65536 ^ (i + k) * 0=hval (xs.take i) * hval ys + 65536 ^ i * (x * hval (ys.take k))):hval os=hval (xs.take (i + 1)) * hval ys:=by
 have e:hval (xs.take (i + 1))=hval (xs.take i) + 65536 ^ i * x:=by
  rw [bu hx,jT,List.length_take,Nat.min_eq_left (by have:=(List.getElem?_eq_some_iff.1 hx).1;omega)]
 rw [Nat.mul_zero,Nat.add_zero,List.take_of_length_le hk] at h
 rw [e,Nat.add_mul,h,Nat.mul_assoc]
theorem Fq {i k n m c:Nat} {os xs ys:List Nat} {x:Nat} (hxh:gf xs) (hyh:gf ys) (hx:xs[i]? =some x) (hn:xs.length=n) (hm:ys.length=m) (hk:m≤k) (hc:0 < c) (h:hval os + 65536 ^ (i + k) * c=hval (xs.take i) * hval ys + 65536 ^ i * (x * hval (ys.take k))):i + k < n + m + 1:=by
 have hi:=(List.getElem?_eq_some_iff.1 hx).1
 have e:hval (xs.take (i + 1))=hval (xs.take i) + 65536 ^ i * x:=by
  rw [bu hx,jT,List.length_take,Nat.min_eq_left (by omega)]
 have e3:ys.take k=ys:=List.take_of_length_le (by omega)
 have e2:hval os + 65536 ^ (i + k) * c=hval (xs.take (i + 1)) * hval ys:=by
  rw [e,Nat.add_mul,h,e3,Nat.mul_assoc]
 have b1:hval (xs.take (i + 1)) < 65536 ^ (i + 1):=by
  have:=rU (xs:=xs.take (i + 1)) (dH.take hxh _)
  rwa [List.length_take,Nat.min_eq_left (by omega)] at this
 have b2:hval ys < 65536 ^ m:=by have:=rU hyh;rwa [hm] at this
 have b3:hval (xs.take (i + 1)) * hval ys < 65536 ^ (i + 1 + m):=by
  rw [Nat.pow_add];exact Nat.mul_lt_mul'' b1 b2
 have b4:65536 ^ (i + k)≤65536 ^ (i + k) * c:=Nat.le_mul_of_pos_right _ hc
 have:65536 ^ (i + k) < 65536 ^ (i + 1 + m):=by omega
 have:=(Nat.pow_lt_pow_iff_right (show 1 < 65536 by omega)).1 this
 omega
theorem Fs {x y o c:Nat} (hx:x < 65536) (hy:y < 65536) (ho:o < 65536) (hc:c < 65536):x * y + o + c < 4294967296:=by
 have h1:x * y≤65535 * 65535:=Nat.mul_le_mul (by omega) (by omega)
 omega
set_option maxHeartbeats 1000000 in
theorem Dh (va vb:Value) (n m:Nat) (xs ys:List Nat) (w:World) (hr:Rd w 1 va n (ints .i64 xs)) (hs:Rd w 1 vb m (ints .i64 ys)) (hx:gf xs) (hy:gf ys) (hn:n≤2147483656) (hm:m≤2147483656):
  Calls Tryz.prog 100 #[va,vb] w fun e w'=>∃ v',e=.returned v'∧eD w' w.heap.size v' (halves (hval xs * hval ys)).length (halves (hval xs * hval ys))∧aj w w':=by
 obtain ⟨p,c,rfl,fH,fy,ew⟩:=hr.i64
 obtain ⟨q,d,rfl,JR,Ev,jt⟩:=hs.i64
 obtain ⟨N,hN⟩:∃ N,N=n + m + 1:=⟨_,rfl⟩
 have hwN:IntKind.i64.wrap (IntKind.i64.wrap ((n:Int) + (m:Int)) + 1)=(N:Int):=by
  rw [IntWalk.i64_in ((n:Int) + (m:Int)) (by omega),IntWalk.i64_in _ (by omega)];omega
 refine aw (C:=bP Tryz.prog w _) (args:=[_,_]) Tryz.func100 rfl Tryz.ntmps100 (Nat.le_of_ble_eq_true rfl) ?_
 (repeat first|refine wN ?_|refine wP rfl ?_|refine aa rfl ?_|refine ab rfl ?_|refine wO rfl rfl ?_)
 refine VO.fix 15 rfl (congrArg (fun z=>AV.val (.int .i64 z)) hwN) ?_
 refine VO.cond rfl ⟨rfl,by omega,by show (N:Int) * (24 * 1)≤_;omega⟩ (VO.fu 16 rfl (xA _) (wV rfl ?_))
 rw [Int.toNat_natCast]
 (repeat first|refine wN ?_|refine wP rfl ?_|refine aa rfl ?_|refine ab rfl ?_|refine wO rfl rfl ?_)
 refine VS.loop (J:=fun ms L M w'=>∃ (i:Nat) (os:List Nat),i≤n∧ms=n - i∧L=[(0,.val (.slice p n c)),(1,.val (.slice q m d)),(5,.row 16 0 N N),(6,.val (.int .i64 (i:Int)))]∧M=[(16,(3,iv os))]∧
  os.length=N∧gf os∧hval os=hval (xs.take i) * hval ys) n ⟨_,_,?_,?_,?_,?_,⟨0,List.replicate N 0,by omega,by omega,rfl,rfl,by simp,dH.replicate (by omega) _,by rw [List.take_zero];show val 65536 _=val 65536 [] * _;rw [gF,val_nil,Nat.zero_mul]⟩⟩ ?_
 ·(repeat first|exact trivial|refine ⟨rfl,?_⟩)
 ·(repeat first|exact trivial|refine ⟨rfl,?_⟩)
 ·rfl
 ·exact ⟨.none (bq _),trivial⟩
 rintro ms L M w' ⟨i,os,hi,rfl,rfl,rfl,hol,hoh,hov⟩
 (repeat first|refine wN ?_|refine wP rfl ?_|refine aa rfl ?_|refine ab rfl ?_|refine wO rfl rfl ?_)
 by_cases tY:i < n
 ·refine VS.bG rfl (decide_eq_true (Int.ofNat_lt.2 tY)) ?_
  (repeat first|refine wN ?_|refine wP rfl ?_|refine aa rfl ?_|refine ab rfl ?_|refine wO rfl rfl ?_)
  obtain ⟨b1,o1,x,rfl,aU,gl,qw⟩:=hr.cellAt tY
  have ku:=hx.at gl
  refine VS.loop (J:=fun ms L M w'=>∃ (k c':Nat) (os':List Nat),ms=N - (i + k)∧L=[(0,.val (.slice (some ⟨b1,o1,none⟩) n c)),(1,.val (.slice q m d)),(5,.row 16 0 N N),(6,.val (.int .i64 (i:Int))),(7,.val (.int .i64 (c':Int))),(8,.val (.int .i64 (k:Int)))]∧M=[(16,(3,iv os'))]∧
   os'.length=N∧gf os'∧c' < 65536∧k≤N∧hval os' + 65536 ^ (i + k) * c'=hval (xs.take i) * hval ys + 65536 ^ i * (x * hval (ys.take k))) (N - i) ⟨_,_,?_,?_,?_,?_,⟨0,0,os,by omega,rfl,rfl,hol,hoh,by omega,by omega,by rw [List.take_zero,Nat.mul_zero,hov];show _=_ + 65536 ^ i * (x * 0);simp⟩⟩ ?_
  ·(repeat first|exact trivial|refine ⟨rfl,?_⟩)
  ·(repeat first|exact trivial|refine ⟨rfl,?_⟩)
  ·rfl
  ·exact ⟨.none (bq _),trivial⟩
  rintro ms L M w'' ⟨k,c',os',rfl,rfl,rfl,hol',hoh',hc',hkN,hv⟩
  (repeat first|refine wN ?_|refine wP rfl ?_|refine aa rfl ?_|refine ab rfl ?_|refine wO rfl rfl ?_)
  have step:∀ (hik:i + k < N),True:=fun _=>trivial
  by_cases hgo:k < m∨0 < c'
  ·have hik:i + k < N:=by
    rcases Nat.lt_or_ge k m with e | e
    ·omega
    ·rw [hN];exact Fq hx hy gl ew jt e (by omega) hv
   obtain ⟨o,ho⟩:∃ o,os'[i + k]? =some o:=⟨_,List.getElem?_eq_getElem (by omega)⟩
   have ho4:=hoh'.at ho
   have Ip:IntKind.i64.wrap ((i:Int) + (k:Int))=((i + k:Nat):Int):=by rw [IntWalk.i64_in _ (by omega)];omega
   have hwk1:IntKind.i64.wrap ((k:Int) + 1)=((k + 1:Nat):Int):=by rw [IntWalk.i64_in _ (by omega)];omega
   have hwoc:IntKind.i64.wrap ((o:Int) + (c':Int))=((o + c':Nat):Int):=by rw [IntWalk.i64_in _ (by omega)];omega
   by_cases Ez:k < m
   ·obtain ⟨b2,o2,y,rfl,bn,og,Ex⟩:=hs.cellAt Ez
    have yV:=hy.at og
    have pg:=Fs ku yV ho4 hc'
    obtain ⟨s,hsd⟩:∃ s,s=x * y + o + c':=⟨_,rfl⟩
    have Gk:(x:Int) * (y:Int)=((x * y:Nat):Int):=by simp
    have hws:IntKind.i64.wrap (IntKind.i64.wrap ((o:Int) + (c':Int)) + IntKind.i64.wrap ((x:Int) * (y:Int)))=(s:Int):=by
     rw [hwoc,Gk,IntWalk.i64_in ((x * y:Nat):Int) (by omega),IntWalk.i64_in _ (by omega)];omega
    have hst:=rW ho hsd hv
    have hyt:hval (ys.take (k + 1))=hval (ys.take k) + 65536 ^ k * y:=by
     rw [bu og,jT,List.length_take,Nat.min_eq_left (by have:=(List.getElem?_eq_some_iff.1 og).1;omega)]
    rw [←hyt] at hst
    have hwc:IntKind.i64.wrap ((s:Int).tdiv 65536)=((s / 65536:Nat):Int):=by
     rw [Int.tdiv_eq_ediv_of_nonneg (by omega),IntWalk.i64_in _ (by omega)];simp
    have hwm:(s:Int).tmod 65536=((s % 65536:Nat):Int):=by rw [Int.tmod_eq_emod_of_nonneg (by omega)];simp
    refine VO.fix 27 rfl (congrArg (fun b=>AV.val (.bool b)) (decide_eq_true (Int.ofNat_lt.2 Ez))) ?_
    (repeat first|refine wN ?_|refine wP rfl ?_|refine aa rfl ?_|refine ab rfl ?_|refine wO rfl rfl ?_)
    refine VO.fix 36 rfl (congrArg (fun z=>AV.val (.int .i64 z)) Ip) ?_
    refine VO.cond rfl ⟨by omega,by omega⟩ (wV rfl ?_)
    refine VO.de rfl [.val (.int .i64 (o:Int))] rfl (rX ho (by rw [Int.toNat_natCast];omega)) (wV rfl ?_)
    (repeat first|refine wN ?_|refine wP rfl ?_|refine aa rfl ?_|refine ab rfl ?_|refine wO rfl rfl ?_)
    refine VS.bG rfl (decide_eq_true (Int.ofNat_lt.2 Ez)) ?_
    (repeat first|refine wN ?_|refine wP rfl ?_|refine aa rfl ?_|refine ab rfl ?_|refine wO rfl rfl ?_)
    refine VO.cond rfl ⟨by omega,by omega⟩ (wV rfl ?_)
    refine VO.read rfl [.int .i64 (x:Int)] rfl (kW rfl qw) (wV rfl ?_)
    refine VO.cond rfl ⟨by omega,by omega⟩ (wV rfl ?_)
    refine VO.read rfl [.int .i64 (y:Int)] rfl (kW rfl Ex) (wV rfl ?_)
    (repeat first|refine wN ?_|refine wP rfl ?_|refine aa rfl ?_|refine ab rfl ?_|refine wO rfl rfl ?_)
    refine VO.fix 59 rfl (congrArg (fun z=>AV.val (.int .i64 z)) Ip) ?_
    refine VO.fix 61 rfl (congrArg (fun z=>AV.val (.int .i64 z)) (by rw [hws,hwm])) ?_
    refine VO.cond rfl ⟨by omega,by omega⟩ (wV rfl ?_)
    refine VO.cond rfl (by show 0 + ((i + k:Nat):Int).toNat * 1 + 1≤_;rw [Int.toNat_natCast,bM];omega) (wV rfl ?_)
    (repeat first|refine wN ?_|refine wP rfl ?_|refine aa rfl ?_|refine ab rfl ?_|refine wO rfl rfl ?_)
    refine VS.back (N - (i + (k + 1))) (by omega) ⟨_,_,?_,?_,?_,?_,⟨k + 1,s / 65536,os'.set (i + k) (s % 65536),rfl,rfl,rfl,by simp [hol'],hoh'.set (Nat.mod_lt _ (by omega)) _,by omega,by omega,hst⟩⟩
    ·refine ⟨rfl,rfl,rfl,rfl,congrArg (fun z=>some (AV.val (.int .i64 z))) (by rw [hws,hwc]),congrArg (fun z=>some (AV.val (.int .i64 z))) hwk1,trivial⟩
    ·exact ⟨congrArg (fun l=>some (_,l)) (vR (by omega) (by rw [Int.toNat_natCast];omega)),trivial⟩
    ·rfl
    ·exact ⟨.none (bq _),trivial⟩
   ·have hc0:0 < c':=by omega
    obtain ⟨s,hsd⟩:∃ s,s=x * 0 + o + c':=⟨_,rfl⟩
    have hws:IntKind.i64.wrap ((o:Int) + (c':Int))=(s:Int):=by rw [hwoc];omega
    have hst:=rW ho hsd hv
    have hyt:hval (ys.take k) + 65536 ^ k * 0=hval (ys.take (k + 1)):=by rw [List.take_of_length_le (by omega),List.take_of_length_le (by omega)];rfl
    rw [hyt] at hst
    have hwc:IntKind.i64.wrap ((s:Int).tdiv 65536)=((s / 65536:Nat):Int):=by
     rw [Int.tdiv_eq_ediv_of_nonneg (by omega),IntWalk.i64_in _ (by omega)];simp
    have hwm:(s:Int).tmod 65536=((s % 65536:Nat):Int):=by rw [Int.tmod_eq_emod_of_nonneg (by omega)];simp
    refine VO.fix 27 rfl (congrArg (fun b=>AV.val (.bool b)) (decide_eq_false (fun e=>Ez (Int.ofNat_lt.1 e)))) ?_
    (repeat first|refine wN ?_|refine wP rfl ?_|refine aa rfl ?_|refine ab rfl ?_|refine wO rfl rfl ?_)
    refine VS.bG rfl (decide_eq_true (by omega)) ?_
    (repeat first|refine wN ?_|refine wP rfl ?_|refine aa rfl ?_|refine ab rfl ?_|refine wO rfl rfl ?_)
    refine VO.fix 36 rfl (congrArg (fun z=>AV.val (.int .i64 z)) Ip) ?_
    refine VO.cond rfl ⟨by omega,by omega⟩ (wV rfl ?_)
    refine VO.de rfl [.val (.int .i64 (o:Int))] rfl (rX ho (by rw [Int.toNat_natCast];omega)) (wV rfl ?_)
    (repeat first|refine wN ?_|refine wP rfl ?_|refine aa rfl ?_|refine ab rfl ?_|refine wO rfl rfl ?_)
    refine VS.bK rfl (decide_eq_false (fun e=>Ez (Int.ofNat_lt.1 e))) ?_
    (repeat first|refine wN ?_|refine wP rfl ?_|refine aa rfl ?_|refine ab rfl ?_|refine wO rfl rfl ?_)
    refine VO.fix 59 rfl (congrArg (fun z=>AV.val (.int .i64 z)) Ip) ?_
    refine VO.fix 61 rfl (congrArg (fun z=>AV.val (.int .i64 z)) (by rw [hws,hwm])) ?_
    refine VO.cond rfl ⟨by omega,by omega⟩ (wV rfl ?_)
    refine VO.cond rfl (by show 0 + ((i + k:Nat):Int).toNat * 1 + 1≤_;rw [Int.toNat_natCast,bM];omega) (wV rfl ?_)
    (repeat first|refine wN ?_|refine wP rfl ?_|refine aa rfl ?_|refine ab rfl ?_|refine wO rfl rfl ?_)
    refine VS.back (N - (i + (k + 1))) (by omega) ⟨_,_,?_,?_,?_,?_,⟨k + 1,s / 65536,os'.set (i + k) (s % 65536),rfl,rfl,rfl,by simp [hol'],hoh'.set (Nat.mod_lt _ (by omega)) _,by omega,by omega,hst⟩⟩
    ·refine ⟨rfl,rfl,rfl,rfl,congrArg (fun z=>some (AV.val (.int .i64 z))) (by rw [hws,hwc]),congrArg (fun z=>some (AV.val (.int .i64 z))) hwk1,trivial⟩
    ·exact ⟨congrArg (fun l=>some (_,l)) (vR (by omega) (by rw [Int.toNat_natCast];omega)),trivial⟩
    ·rfl
    ·exact ⟨.none (bq _),trivial⟩
  ·have Ez:¬ (k < m):=by omega
   have hc0:c'=0:=by omega
   subst hc0
   refine VO.fix 27 rfl (congrArg (fun b=>AV.val (.bool b)) (decide_eq_false (fun e=>Ez (Int.ofNat_lt.1 e)))) ?_
   (repeat first|refine wN ?_|refine wP rfl ?_|refine aa rfl ?_|refine ab rfl ?_|refine wO rfl rfl ?_)
   have yD:IntKind.i64.wrap ((i:Int) + 1)=((i + 1:Nat):Int):=by rw [IntWalk.i64_in _ (by omega)];omega
   refine VS.back (n - (i + 1)) (by omega) ⟨_,_,?_,?_,?_,?_,⟨i + 1,os',by omega,rfl,rfl,rfl,hol',hoh',Jd gl (by omega) hv⟩⟩
   ·exact ⟨rfl,rfl,rfl,congrArg (fun z=>some (AV.val (.int .i64 z))) yD,trivial⟩
   ·(repeat first|exact trivial|refine ⟨rfl,?_⟩)
   ·rfl
   ·exact ⟨.none (bq _),trivial⟩
 ·obtain rfl:i=n:=by omega
  refine VS.bK rfl (decide_eq_false (fun e=>tY (Int.ofNat_lt.1 e))) ?_
  (repeat first|refine wN ?_|refine wP rfl ?_|refine aa rfl ?_|refine ab rfl ?_|refine wO rfl rfl ?_)
  rw [List.take_of_length_le (by omega)] at hov
  refine VO.zy rfl (fk Tryz.func125) (fun w1 β k1 b1 ho=>(gT (some ⟨β 16,0,none⟩) N N os w1 (kV (spare:=[]) (by rw [List.append_nil];exact ho.own 16 (.base (List.mem_singleton.2 rfl)) _ _ rfl) hol (Nat.le_refl _) (by simp only [maxLen];omega)) hoh).mono ?_)
  rintro e w2 ⟨⟨mm,zb,rfl,hcut⟩,rfl⟩
  refine ⟨.row 16 0 mm N,rfl,fun i hi=>⟨hi,by cases List.mem_singleton.1 hi;exact Option.some_ne_none _⟩,aj.refl _,fun k2 _ b2=>wV rfl ?_⟩
  (repeat first|refine wN ?_|refine wP rfl ?_|refine aa rfl ?_|refine ab rfl ?_|refine wO rfl rfl ?_)
  refine VS.oJ (aJ _ _) rfl (fun wz β kz bz he=> ?_)
  have qf:=vS hcut zb hol
  rw [hov] at hcut qf
  refine ⟨_,rfl,?_,bz⟩
  have:=oM (spare:=[]) (by rw [List.append_nil];exact he.own 16 _ _ rfl) hol zb (Nat.le_refl _) (by simp only [maxLen];omega) (by simpa using hol)
  rw [←hcut] at this
  show eD wz w.heap.size (.slice (some ⟨β 16,0,none⟩) mm N) _ _
  rw [←qf]
  exact this
end Go.Proofs.YtabalinjfgcfeaaGreat
set_option maxRecDepth 4000
namespace Go.Proofs.YtabalinjfgcfeaaGreat
open Go.RowKit
attribute [local irreducible] aA VS
theorem qj {A B:Nat} (h:(halves A).length < (halves B).length):A < B:=by
 rcases Nat.lt_or_ge A B with e | e
 ·exact e
 ·have:(halves B).length≤(halves A).length:=cZ (by omega) e
  omega
theorem qk {A B k a b:Nat} (ha:(halves A)[k]? =some a) (hb:(halves B)[k]? =some b) (vo:a < b) (hh:(halves A).drop (k + 1)=(halves B).drop (k + 1)):A < B:=by
 have:=jW (B:=65536) (bD A) ha hb vo hh
 have e1:val 65536 (halves A)=A:=bb A
 have e2:val 65536 (halves B)=B:=bb B
 omega
theorem Je {xs ys:List Nat} {k x:Nat} (hx:xs[k]? =some x) (hy:ys[k]? =some x) (h:xs.drop (k + 1)=ys.drop (k + 1)):xs.drop k=ys.drop k:=by
 obtain ⟨l1,e1⟩:=List.getElem?_eq_some_iff.1 hx
 obtain ⟨l2,e2⟩:=List.getElem?_eq_some_iff.1 hy
 rw [List.drop_eq_getElem_cons l1,List.drop_eq_getElem_cons l2,e1,e2,h]
set_option maxHeartbeats 1000000 in
theorem Ft (va vb:Value) (n m A B:Nat) (w:World) (hr:Rd w 1 va n (ints .i64 (halves A))) (hs:Rd w 1 vb m (ints .i64 (halves B))):
  Calls Tryz.prog 148 #[va,vb] w fun e w'=>e=.returned (.bool (decide (A < B)))∧aj w w':=by
 obtain ⟨p,c,rfl,fH,fy,ew⟩:=hr.i64
 obtain ⟨q,d,rfl,JR,Ev,jt⟩:=hs.i64
 refine aw (C:=bP Tryz.prog w _) (args:=[_,_]) Tryz.func148 rfl Tryz.ntmps148 (Nat.le_of_ble_eq_true rfl) ?_
 (repeat first|refine wN ?_|refine wP rfl ?_|refine aa rfl ?_|refine ab rfl ?_|refine wO rfl rfl ?_)
 by_cases vN:n=m
 ·subst vN
  refine VS.bK rfl (by simp) ?_
  (repeat first|refine wN ?_|refine wP rfl ?_|refine aa rfl ?_|refine ab rfl ?_|refine wO rfl rfl ?_)
  have hw0:IntKind.i64.wrap ((n:Int) - 1)=(n:Int) - 1:=IntWalk.i64_in _ (by omega)
  refine VS.loop (J:=fun ms L M w'=>∃ (k:Nat),k≤n∧ms=k∧L=[(0,.val (.slice p n c)),(1,.val (.slice q n d)),(5,.val (.int .i64 ((k:Int) - 1)))]∧M=[]∧(halves A).drop k=(halves B).drop k) n ⟨_,_,?_,?_,?_,?_,⟨n,Nat.le_refl _,rfl,rfl,rfl,by rw [List.drop_of_length_le (by omega),List.drop_of_length_le (by omega)]⟩⟩ ?_
  ·exact ⟨rfl,rfl,congrArg (fun z=>some (AV.val (.int .i64 z))) hw0,trivial⟩
  ·(repeat first|exact trivial|refine ⟨rfl,?_⟩)
  ·rfl
  ·exact trivial
  rintro ms L M w' ⟨k,hk,hms,rfl,rfl,hd⟩
  (repeat first|refine wN ?_|refine wP rfl ?_|refine aa rfl ?_|refine ab rfl ?_|refine wO rfl rfl ?_)
  by_cases yu:k=0
  ·subst yu
   refine VS.bK rfl (decide_eq_false (by omega)) ?_
   (repeat first|refine wN ?_|refine wP rfl ?_|refine aa rfl ?_|refine ab rfl ?_|refine wO rfl rfl ?_)
   refine VS.ret (aJ _ _) rfl rfl (fun wz kz bz=> ?_)
   have:A=B:=Fh (by simpa using hd)
   exact ⟨by rw [this,decide_eq_false (Nat.lt_irrefl _)];rfl,bz⟩
  ·obtain ⟨j,rfl⟩:∃ j,k=j + 1:=⟨k - 1,by omega⟩
   have hj:((j + 1:Nat):Int) - 1=(j:Int):=by omega
   refine VS.bG rfl (decide_eq_true (by omega)) ?_
   refine VS.fix 5 rfl (congrArg (fun z=>AV.val (.int .i64 z)) hj) ?_
   (repeat first|refine wN ?_|refine wP rfl ?_|refine aa rfl ?_|refine ab rfl ?_|refine wO rfl rfl ?_)
   obtain ⟨b1,o1,x,rfl,aU,gl,qw⟩:=hr.cellAt (show j < n by omega)
   obtain ⟨b2,o2,y,rfl,bn,og,Ex⟩:=hs.cellAt (show j < n by omega)
   refine VO.cond rfl ⟨by omega,by omega⟩ (wV rfl ?_)
   refine VO.read rfl [.int .i64 (x:Int)] rfl (kW rfl qw) (wV rfl ?_)
   refine VO.cond rfl ⟨by omega,by omega⟩ (wV rfl ?_)
   refine VO.read rfl [.int .i64 (y:Int)] rfl (kW rfl Ex) (wV rfl ?_)
   (repeat first|refine wN ?_|refine wP rfl ?_|refine aa rfl ?_|refine ab rfl ?_|refine wO rfl rfl ?_)
   by_cases Gk:x=y
   ·subst Gk
    refine VS.bK rfl (by simp) ?_
    (repeat first|refine wN ?_|refine wP rfl ?_|refine aa rfl ?_|refine ab rfl ?_|refine wO rfl rfl ?_)
    have vA:IntKind.i64.wrap ((j:Int) - 1)=(j:Int) - 1:=IntWalk.i64_in _ (by omega)
    refine VS.back j (by omega) ⟨_,_,?_,?_,?_,?_,⟨j,by omega,rfl,rfl,rfl,Je gl og hd⟩⟩
    ·exact ⟨rfl,rfl,congrArg (fun z=>some (AV.val (.int .i64 z))) vA,trivial⟩
    ·(repeat first|exact trivial|refine ⟨rfl,?_⟩)
    ·rfl
    ·exact trivial
   ·refine VS.bG rfl (by rw [bne_iff_ne];omega) ?_
    (repeat first|refine wN ?_|refine wP rfl ?_|refine aa rfl ?_|refine ab rfl ?_|refine wO rfl rfl ?_)
    refine VO.cond rfl ⟨by omega,by omega⟩ (wV rfl ?_)
    refine VO.read rfl [.int .i64 (x:Int)] rfl (kW rfl qw) (wV rfl ?_)
    refine VO.cond rfl ⟨by omega,by omega⟩ (wV rfl ?_)
    refine VO.read rfl [.int .i64 (y:Int)] rfl (kW rfl Ex) (wV rfl ?_)
    (repeat first|refine wN ?_|refine wP rfl ?_|refine aa rfl ?_|refine ab rfl ?_|refine wO rfl rfl ?_)
    refine VS.ret (aJ _ _) rfl rfl (fun wz kz bz=> ?_)
    refine ⟨?_,bz⟩
    rcases Nat.lt_or_gt_of_ne Gk with e | e
    ·rw [decide_eq_true (qk gl og e hd)]
     exact congrArg (fun b=>Ending.returned (.bool b)) (decide_eq_true (Int.ofNat_lt.2 e))
    ·have:=qk og gl e hd.symm
     have hAB:decide (A < B)=false:=decide_eq_false (by omega)
     rw [hAB]
     exact congrArg (fun b=>Ending.returned (.bool b)) (decide_eq_false (by omega))
 ·refine VS.bG rfl (by rw [bne_iff_ne];omega) ?_
  (repeat first|refine wN ?_|refine wP rfl ?_|refine aa rfl ?_|refine ab rfl ?_|refine wO rfl rfl ?_)
  refine VS.ret (aJ _ _) rfl rfl (fun wz kz bz=> ?_)
  refine ⟨?_,bz⟩
  rcases Nat.lt_or_gt_of_ne vN with e | e
  ·rw [decide_eq_true (qj (by omega))]
   exact congrArg (fun b=>Ending.returned (.bool b)) (decide_eq_true (Int.ofNat_lt.2 e))
  ·have:=qj (A:=B) (B:=A) (by omega)
   have hAB:decide (A < B)=false:=decide_eq_false (by omega)
   rw [hAB]
   exact congrArg (fun b=>Ending.returned (.bool b)) (decide_eq_false (by omega))
theorem Jf {ds us bs:List Nat} {i t br a b d nQ:Nat} (hl:ds.length=i) (ha:us.getD i 0=a) (hb:bs.getD i 0=b) (hs:d + (t * b + br)=a + 65536 * nQ)
  (h:hval ds + t * hval (bs.take i)=hval (us.take i) + 65536 ^ i * br):hval (ds++[d]) + t * hval (bs.take (i + 1))=hval (us.take (i + 1)) + 65536 ^ (i + 1) * nQ:=by
 have e1:hval (us.take (i + 1))=hval (us.take i) + 65536 ^ i * a:=by rw [←ha];exact bJ _ _ _
 have e2:hval (bs.take (i + 1))=hval (bs.take i) + 65536 ^ i * b:=by rw [←hb];exact bJ _ _ _
 have e3:65536 ^ i * d + (65536 ^ i * (t * b) + 65536 ^ i * br)=65536 ^ i * a + 65536 ^ i * (65536 * nQ):=by rw [←Nat.mul_add,←Nat.mul_add,hs,Nat.mul_add]
 have e4:t * (65536 ^ i * b)=65536 ^ i * (t * b):=Nat.mul_left_comm _ _ _
 rw [jT,hl,e1,e2,Nat.mul_add t,e4,Nat.pow_succ,Nat.mul_assoc]
 omega
theorem LL {ds us bs:List Nat} {n t br:Nat} (hh:gf ds) (hl:ds.length=n) (ha:us.length=n) (hle:t * hval bs≤hval us) (hb:t=0∨bs.length≤n)
  (h:hval ds + t * hval (bs.take n)=hval (us.take n) + 65536 ^ n * br):hval ds=hval us - t * hval bs:=by
 have e1:us.take n=us:=List.take_of_length_le (by omega)
 have e2:t * hval (bs.take n)=t * hval bs:=by
  rcases hb with e | e
  ·rw [e,Nat.zero_mul,Nat.zero_mul]
  ·rw [List.take_of_length_le e]
 rw [e1,e2] at h
 have hlt:=rU hh
 rw [hl] at hlt
 have:br=0:=by
  rcases Nat.eq_zero_or_pos br with e | e
  ·exact e
  ·have:=Nat.le_mul_of_pos_right (65536 ^ n) e
   omega
 rw [this,Nat.mul_zero] at h
 omega
def RowAt (d:Nat) (xs:List Nat) (v:AV) (M:List (Nat×(TypeId×List AV))):Prop:=
 (xs=[]∧v=.val (.slice none 0 0)∧M=[])∨∃ cap spare,v=.row d 0 xs.length cap∧M=[(d,(3,iv xs++spare))]∧xs.length≤cap∧cap≤9223372036854775807∧xs.length + spare.length=cap∧spare.all aG=true∧ay spare=[]
set_option maxHeartbeats 1000000 in
theorem xB (va vb:Value) (n m t A B:Nat) (w:World) (hr:Rd w 1 va n (ints .i64 (halves A))) (hs:Rd w 1 vb m (ints .i64 (halves B))) (ht:t < 65536) (hle:t * B≤A) (hn:n≤2147483656):
  Calls Tryz.prog 137 #[va,vb,.int .i64 (t:Int)] w fun e w'=>∃ v',e=.returned v'∧eD w' w.heap.size v' (halves (A - t * B)).length (halves (A - t * B))∧aj w w':=by
 obtain ⟨p,c,rfl,fH,fy,ew⟩:=hr.i64
 obtain ⟨q,d,rfl,JR,Ev,jt⟩:=hs.i64
 refine aw (C:=bP Tryz.prog w _) (args:=[_,_,_]) Tryz.func137 rfl Tryz.ntmps137 (Nat.le_of_ble_eq_true rfl) ?_
 (repeat first|refine wN ?_|refine wP rfl ?_|refine aa rfl ?_|refine ab rfl ?_|refine wO rfl rfl ?_)
 refine VS.loop (J:=fun ms L M w'=>∃ (i br:Nat) (ds:List Nat) (v:AV),i≤n∧ms=n - i∧L=[(0,.val (.slice p n c)),(1,.val (.slice q m d)),(2,.val (.int .i64 (t:Int))),(7,v),(8,.val (.int .i64 (br:Int))),(9,.val (.int .i64 (i:Int)))]∧
  RowAt 47 ds v M∧ds.length=i∧gf ds∧br≤t∧hval ds + t * hval ((halves B).take i)=hval ((halves A).take i) + 65536 ^ i * br) n ⟨_,_,?_,?_,?_,?_,⟨0,0,[],.val (.slice none 0 0),by omega,by omega,rfl,.inl ⟨rfl,rfl,rfl⟩,rfl,dH.nil _,by omega,by simp [hval,val]⟩⟩ ?_
 ·(repeat first|exact trivial|refine ⟨rfl,?_⟩)
 ·(repeat first|exact trivial|refine ⟨rfl,?_⟩)
 ·rfl
 ·exact trivial
 rintro ms L M w' ⟨i,br,ds,v,hi,rfl,rfl,iV,iE,hdh,hbr,hv⟩
 by_cases tY:i < n
 ·obtain ⟨b1,o1,x,rfl,aU,gl,qw⟩:=hr.cellAt tY
  have ku:=(bD A).at gl
  have hxg:(halves A).getD i 0=x:=by rw [List.getD_eq_getElem?_getD,gl];rfl
  obtain ⟨y,hyg⟩:∃ y,(halves B).getD i 0=y:=⟨_,rfl⟩
  have yV:y < 65536:=hyg▸jU (bD B) i
  have hty:t * y≤65535 * 65535:=Nat.mul_le_mul (by omega) (by omega)
  obtain ⟨X,hX⟩:∃ X:Int,X=(x:Int) - br - (t * y:Nat):=⟨_,rfl⟩
  obtain ⟨nQ,mY⟩:∃ nQ:Nat,(nQ:Int)=(if X < 0 then (65535 - X) / 65536 else 0)∧nQ≤t:=by
   by_cases h0:X < 0
   ·refine ⟨((65535 - X) / 65536).toNat,by rw [if_pos h0];omega,?_⟩
    have:t * y≤t * 65535:=Nat.mul_le_mul_left _ (by omega)
    omega
   ·exact ⟨0,by rw [if_neg h0];rfl,by omega⟩
  obtain ⟨dg,JY⟩:∃ dg:Nat,(dg:Int)=X + 65536 * nQ∧dg < 65536:=by
   refine ⟨(X + 65536 * nQ).toNat,?_,?_⟩
   ·by_cases h0:X < 0
    ·rw [if_pos h0] at mY;omega
    ·omega
   ·by_cases h0:X < 0
    ·rw [if_pos h0] at mY;omega
    ·rw [if_neg h0] at mY;omega
  have hsum:dg + (t * y + br)=x + 65536 * nQ:=by omega
  have hst:=Jf iE hxg hyg hsum hv
  have vA:IntKind.i64.wrap ((x:Int) - (br:Int))=(x:Int) - br:=IntWalk.i64_in _ (by omega)
  have yD:IntKind.i64.wrap ((i:Int) + 1)=((i + 1:Nat):Int):=by rw [IntWalk.i64_in _ (by omega)];omega
  have qE:t * y≤t * 65535:=Nat.mul_le_mul_left _ (by omega)
  rcases iV with ⟨rfl,rfl,rfl⟩ | ⟨cap,spare,rfl,rfl,h1,h2,h3,h4,h5⟩
  all_goals (repeat first|refine wN ?_|refine wP rfl ?_|refine aa rfl ?_|refine ab rfl ?_|refine wO rfl rfl ?_)
  ·by_cases him:i < m
   ·obtain ⟨b2,o2,y',rfl,bn,og,Ex⟩:=hs.cellAt him
    obtain rfl:y'=y:=by rw [List.getD_eq_getElem?_getD,og] at hyg;exact hyg
    have hwX:IntKind.i64.wrap (IntKind.i64.wrap ((x:Int) - (br:Int)) - IntKind.i64.wrap ((t:Int) * (y':Int)))=X:=by
     rw [vA,show (t:Int) * (y':Int)=((t * y':Nat):Int) by simp,IntWalk.i64_in ((t * y':Nat):Int) (by omega),IntWalk.i64_in _ (by omega)];omega
    refine VS.bG rfl (decide_eq_true (Int.ofNat_lt.2 tY)) ?_
    (repeat first|refine wN ?_|refine wP rfl ?_|refine aa rfl ?_|refine ab rfl ?_|refine wO rfl rfl ?_)
    refine VO.cond rfl ⟨by omega,by omega⟩ (wV rfl ?_)
    refine VO.read rfl [.int .i64 (x:Int)] rfl (kW rfl qw) (wV rfl ?_)
    (repeat first|refine wN ?_|refine wP rfl ?_|refine aa rfl ?_|refine ab rfl ?_|refine wO rfl rfl ?_)
    refine VS.bG rfl (decide_eq_true (Int.ofNat_lt.2 him)) ?_
    (repeat first|refine wN ?_|refine wP rfl ?_|refine aa rfl ?_|refine ab rfl ?_|refine wO rfl rfl ?_)
    refine VO.cond rfl ⟨by omega,by omega⟩ (wV rfl ?_)
    refine VO.read rfl [.int .i64 (y':Int)] rfl (kW rfl Ex) (wV rfl ?_)
    refine VO.fix 10 rfl (congrArg (fun z=>AV.val (.int .i64 z)) hwX) ?_
    (repeat first|refine wN ?_|refine wP rfl ?_|refine aa rfl ?_|refine ab rfl ?_|refine wO rfl rfl ?_)
    by_cases h0:X < 0
    ·rw [if_pos h0] at mY
     have LM:IntKind.i64.wrap ((IntKind.i64.wrap (65535 - X)).tdiv 65536)=(nQ:Int):=by
      rw [IntWalk.i64_in (65535 - X) (by omega),Int.tdiv_eq_ediv_of_nonneg (by omega),IntWalk.i64_in _ (by omega),mY.1]
     have hwd:IntKind.i64.wrap (X + IntKind.i64.wrap (65536 * (nQ:Int)))=(dg:Int):=by
      rw [IntWalk.i64_in (65536 * (nQ:Int)) (by omega),IntWalk.i64_in _ (by omega),JY.1]
     refine VS.bG rfl (decide_eq_true h0) ?_
     (repeat first|refine wN ?_|refine wP rfl ?_|refine aa rfl ?_|refine ab rfl ?_|refine wO rfl rfl ?_)
     ·refine VO.fu 46 rfl (congrArg (fun z=>[AV.val (.int .i64 z)]) (show _=(dg:Int) by rw [LM,hwd])) ?_
      refine VO.app (aJ _ _) (t:=156) (e:=3) (sz:=1) (n:=0) (c:=0) (mm:=1) (known:=[]) (spare:=[]) (news:=iv [dg]) (dst:=47) (del:=none) rfl rfl rfl rfl rfl rfl rfl rfl (Nat.le_of_ble_eq_true rfl) rfl (.inl ⟨rfl,rfl,rfl,rfl,rfl,rfl,by omega⟩) (.inl rfl) rfl rfl (by omega) (by omega) ⟨rfl,rfl,bq _⟩ ⟨rfl,rfl,mj _⟩ rfl (by omega)
       (fun w1 β k1 b1 ho=>⟨_,_,rfl,.inr ⟨β 46,0,rfl,cK (rest:=[]) (ho.own 46 (.base (List.mem_append_right _ (List.mem_singleton.2 rfl))) _ _ rfl) rfl⟩⟩)
       (fun w2 cap' ak ρ k2 b2 fD jh gU hlen fF fv=>wV rfl ?_)
      (repeat first|refine wN ?_|refine wP rfl ?_|refine aa rfl ?_|refine ab rfl ?_|refine wO rfl rfl ?_)
      refine VS.back (n - (i + 1)) (by omega) ⟨_,_,?_,?_,?_,?_,⟨i + 1,nQ,[dg],.row 47 0 ([dg]).length cap',by omega,rfl,rfl,.inr ⟨cap',ak,rfl,rfl,by simp;omega,gU,?_,fF,fv⟩,by simp at iE ⊢;omega,dH.cons JY.2 (dH.nil _),mY.2,hst⟩⟩
      ·exact ⟨rfl,rfl,rfl,rfl,congrArg (fun z=>some (AV.val (.int .i64 z))) LM,congrArg (fun z=>some (AV.val (.int .i64 z))) yD,trivial⟩
      ·exact ⟨rfl,trivial⟩
      ·rfl
      ·exact ⟨.append (.none (bq _)) (.none fv),trivial⟩
      ·simpa [bM,Nat.add_assoc] using hlen
    ·rw [if_neg h0] at mY
     have pd:nQ=0:=by omega
     subst pd
     refine VS.bK rfl (decide_eq_false h0) ?_
     (repeat first|refine wN ?_|refine wP rfl ?_|refine aa rfl ?_|refine ab rfl ?_|refine wO rfl rfl ?_)
     ·refine VO.fu 46 rfl (congrArg (fun z=>[AV.val (.int .i64 z)]) (show X=(dg:Int) by omega)) ?_
      refine VO.app (aJ _ _) (t:=156) (e:=3) (sz:=1) (n:=0) (c:=0) (mm:=1) (known:=[]) (spare:=[]) (news:=iv [dg]) (dst:=47) (del:=none) rfl rfl rfl rfl rfl rfl rfl rfl (Nat.le_of_ble_eq_true rfl) rfl (.inl ⟨rfl,rfl,rfl,rfl,rfl,rfl,by omega⟩) (.inl rfl) rfl rfl (by omega) (by omega) ⟨rfl,rfl,bq _⟩ ⟨rfl,rfl,mj _⟩ rfl (by omega)
       (fun w1 β k1 b1 ho=>⟨_,_,rfl,.inr ⟨β 46,0,rfl,cK (rest:=[]) (ho.own 46 (.base (List.mem_append_right _ (List.mem_singleton.2 rfl))) _ _ rfl) rfl⟩⟩)
       (fun w2 cap' ak ρ k2 b2 fD jh gU hlen fF fv=>wV rfl ?_)
      (repeat first|refine wN ?_|refine wP rfl ?_|refine aa rfl ?_|refine ab rfl ?_|refine wO rfl rfl ?_)
      refine VS.back (n - (i + 1)) (by omega) ⟨_,_,?_,?_,?_,?_,⟨i + 1,0,[dg],.row 47 0 ([dg]).length cap',by omega,rfl,rfl,.inr ⟨cap',ak,rfl,rfl,by simp;omega,gU,?_,fF,fv⟩,by simp at iE ⊢;omega,dH.cons JY.2 (dH.nil _),Nat.zero_le _,hst⟩⟩
      ·exact ⟨rfl,rfl,rfl,rfl,rfl,congrArg (fun z=>some (AV.val (.int .i64 z))) yD,trivial⟩
      ·exact ⟨rfl,trivial⟩
      ·rfl
      ·exact ⟨.append (.none (bq _)) (.none fv),trivial⟩
      ·simpa [bM,Nat.add_assoc] using hlen
   ·have Kf:y=0:=by rw [gR (by omega)] at hyg;omega
    have hwX:IntKind.i64.wrap ((x:Int) - (br:Int))=X:=by rw [vA,hX,Kf,Nat.mul_zero];omega
    refine VS.bG rfl (decide_eq_true (Int.ofNat_lt.2 tY)) ?_
    (repeat first|refine wN ?_|refine wP rfl ?_|refine aa rfl ?_|refine ab rfl ?_|refine wO rfl rfl ?_)
    refine VO.cond rfl ⟨by omega,by omega⟩ (wV rfl ?_)
    refine VO.read rfl [.int .i64 (x:Int)] rfl (kW rfl qw) (wV rfl ?_)
    refine VO.fix 10 rfl (congrArg (fun z=>AV.val (.int .i64 z)) hwX) ?_
    (repeat first|refine wN ?_|refine wP rfl ?_|refine aa rfl ?_|refine ab rfl ?_|refine wO rfl rfl ?_)
    refine VS.bK rfl (decide_eq_false (fun e=>him (Int.ofNat_lt.1 e))) ?_
    (repeat first|refine wN ?_|refine wP rfl ?_|refine aa rfl ?_|refine ab rfl ?_|refine wO rfl rfl ?_)
    by_cases h0:X < 0
    ·rw [if_pos h0] at mY
     have LM:IntKind.i64.wrap ((IntKind.i64.wrap (65535 - X)).tdiv 65536)=(nQ:Int):=by
      rw [IntWalk.i64_in (65535 - X) (by omega),Int.tdiv_eq_ediv_of_nonneg (by omega),IntWalk.i64_in _ (by omega),mY.1]
     have hwd:IntKind.i64.wrap (X + IntKind.i64.wrap (65536 * (nQ:Int)))=(dg:Int):=by
      rw [IntWalk.i64_in (65536 * (nQ:Int)) (by omega),IntWalk.i64_in _ (by omega),JY.1]
     refine VS.bG rfl (decide_eq_true h0) ?_
     (repeat first|refine wN ?_|refine wP rfl ?_|refine aa rfl ?_|refine ab rfl ?_|refine wO rfl rfl ?_)
     ·refine VO.fu 46 rfl (congrArg (fun z=>[AV.val (.int .i64 z)]) (show _=(dg:Int) by rw [LM,hwd])) ?_
      refine VO.app (aJ _ _) (t:=156) (e:=3) (sz:=1) (n:=0) (c:=0) (mm:=1) (known:=[]) (spare:=[]) (news:=iv [dg]) (dst:=47) (del:=none) rfl rfl rfl rfl rfl rfl rfl rfl (Nat.le_of_ble_eq_true rfl) rfl (.inl ⟨rfl,rfl,rfl,rfl,rfl,rfl,by omega⟩) (.inl rfl) rfl rfl (by omega) (by omega) ⟨rfl,rfl,bq _⟩ ⟨rfl,rfl,mj _⟩ rfl (by omega)
       (fun w1 β k1 b1 ho=>⟨_,_,rfl,.inr ⟨β 46,0,rfl,cK (rest:=[]) (ho.own 46 (.base (List.mem_append_right _ (List.mem_singleton.2 rfl))) _ _ rfl) rfl⟩⟩)
       (fun w2 cap' ak ρ k2 b2 fD jh gU hlen fF fv=>wV rfl ?_)
      (repeat first|refine wN ?_|refine wP rfl ?_|refine aa rfl ?_|refine ab rfl ?_|refine wO rfl rfl ?_)
      refine VS.back (n - (i + 1)) (by omega) ⟨_,_,?_,?_,?_,?_,⟨i + 1,nQ,[dg],.row 47 0 ([dg]).length cap',by omega,rfl,rfl,.inr ⟨cap',ak,rfl,rfl,by simp;omega,gU,?_,fF,fv⟩,by simp at iE ⊢;omega,dH.cons JY.2 (dH.nil _),mY.2,hst⟩⟩
      ·exact ⟨rfl,rfl,rfl,rfl,congrArg (fun z=>some (AV.val (.int .i64 z))) LM,congrArg (fun z=>some (AV.val (.int .i64 z))) yD,trivial⟩
      ·exact ⟨rfl,trivial⟩
      ·rfl
      ·exact ⟨.append (.none (bq _)) (.none fv),trivial⟩
      ·simpa [bM,Nat.add_assoc] using hlen
    ·rw [if_neg h0] at mY
     have pd:nQ=0:=by omega
     subst pd
     refine VS.bK rfl (decide_eq_false h0) ?_
     (repeat first|refine wN ?_|refine wP rfl ?_|refine aa rfl ?_|refine ab rfl ?_|refine wO rfl rfl ?_)
     ·refine VO.fu 46 rfl (congrArg (fun z=>[AV.val (.int .i64 z)]) (show X=(dg:Int) by omega)) ?_
      refine VO.app (aJ _ _) (t:=156) (e:=3) (sz:=1) (n:=0) (c:=0) (mm:=1) (known:=[]) (spare:=[]) (news:=iv [dg]) (dst:=47) (del:=none) rfl rfl rfl rfl rfl rfl rfl rfl (Nat.le_of_ble_eq_true rfl) rfl (.inl ⟨rfl,rfl,rfl,rfl,rfl,rfl,by omega⟩) (.inl rfl) rfl rfl (by omega) (by omega) ⟨rfl,rfl,bq _⟩ ⟨rfl,rfl,mj _⟩ rfl (by omega)
       (fun w1 β k1 b1 ho=>⟨_,_,rfl,.inr ⟨β 46,0,rfl,cK (rest:=[]) (ho.own 46 (.base (List.mem_append_right _ (List.mem_singleton.2 rfl))) _ _ rfl) rfl⟩⟩)
       (fun w2 cap' ak ρ k2 b2 fD jh gU hlen fF fv=>wV rfl ?_)
      (repeat first|refine wN ?_|refine wP rfl ?_|refine aa rfl ?_|refine ab rfl ?_|refine wO rfl rfl ?_)
      refine VS.back (n - (i + 1)) (by omega) ⟨_,_,?_,?_,?_,?_,⟨i + 1,0,[dg],.row 47 0 ([dg]).length cap',by omega,rfl,rfl,.inr ⟨cap',ak,rfl,rfl,by simp;omega,gU,?_,fF,fv⟩,by simp at iE ⊢;omega,dH.cons JY.2 (dH.nil _),Nat.zero_le _,hst⟩⟩
      ·exact ⟨rfl,rfl,rfl,rfl,rfl,congrArg (fun z=>some (AV.val (.int .i64 z))) yD,trivial⟩
      ·exact ⟨rfl,trivial⟩
      ·rfl
      ·exact ⟨.append (.none (bq _)) (.none fv),trivial⟩
      ·simpa [bM,Nat.add_assoc] using hlen
  ·by_cases him:i < m
   ·obtain ⟨b2,o2,y',rfl,bn,og,Ex⟩:=hs.cellAt him
    obtain rfl:y'=y:=by rw [List.getD_eq_getElem?_getD,og] at hyg;exact hyg
    have hwX:IntKind.i64.wrap (IntKind.i64.wrap ((x:Int) - (br:Int)) - IntKind.i64.wrap ((t:Int) * (y':Int)))=X:=by
     rw [vA,show (t:Int) * (y':Int)=((t * y':Nat):Int) by simp,IntWalk.i64_in ((t * y':Nat):Int) (by omega),IntWalk.i64_in _ (by omega)];omega
    refine VS.bG rfl (decide_eq_true (Int.ofNat_lt.2 tY)) ?_
    (repeat first|refine wN ?_|refine wP rfl ?_|refine aa rfl ?_|refine ab rfl ?_|refine wO rfl rfl ?_)
    refine VO.cond rfl ⟨by omega,by omega⟩ (wV rfl ?_)
    refine VO.read rfl [.int .i64 (x:Int)] rfl (kW rfl qw) (wV rfl ?_)
    (repeat first|refine wN ?_|refine wP rfl ?_|refine aa rfl ?_|refine ab rfl ?_|refine wO rfl rfl ?_)
    refine VS.bG rfl (decide_eq_true (Int.ofNat_lt.2 him)) ?_
    (repeat first|refine wN ?_|refine wP rfl ?_|refine aa rfl ?_|refine ab rfl ?_|refine wO rfl rfl ?_)
    refine VO.cond rfl ⟨by omega,by omega⟩ (wV rfl ?_)
    refine VO.read rfl [.int .i64 (y':Int)] rfl (kW rfl Ex) (wV rfl ?_)
    refine VO.fix 10 rfl (congrArg (fun z=>AV.val (.int .i64 z)) hwX) ?_
    (repeat first|refine wN ?_|refine wP rfl ?_|refine aa rfl ?_|refine ab rfl ?_|refine wO rfl rfl ?_)
    by_cases h0:X < 0
    ·rw [if_pos h0] at mY
     have LM:IntKind.i64.wrap ((IntKind.i64.wrap (65535 - X)).tdiv 65536)=(nQ:Int):=by
      rw [IntWalk.i64_in (65535 - X) (by omega),Int.tdiv_eq_ediv_of_nonneg (by omega),IntWalk.i64_in _ (by omega),mY.1]
     have hwd:IntKind.i64.wrap (X + IntKind.i64.wrap (65536 * (nQ:Int)))=(dg:Int):=by
      rw [IntWalk.i64_in (65536 * (nQ:Int)) (by omega),IntWalk.i64_in _ (by omega),JY.1]
     refine VS.bG rfl (decide_eq_true h0) ?_
     (repeat first|refine wN ?_|refine wP rfl ?_|refine aa rfl ?_|refine ab rfl ?_|refine wO rfl rfl ?_)
     ·refine VO.fu 46 rfl (congrArg (fun z=>[AV.val (.int .i64 z)]) (show _=(dg:Int) by rw [LM,hwd])) ?_
      refine VO.app (aJ _ _) (t:=156) (e:=3) (sz:=1) (n:=ds.length) (c:=cap) (mm:=1) (known:=iv ds) (spare:=spare) (news:=iv [dg]) (dst:=47) (del:=some 47) rfl rfl rfl rfl rfl rfl rfl rfl (Nat.le_of_ble_eq_true rfl) rfl (.inr ⟨47,rfl,rfl,rfl⟩) (.inr rfl) (by rw [bM];omega) (by rw [List.length_append,bM];omega) h1 h2 ⟨bq _,h5,bq _⟩ ⟨mj _,h4,mj _⟩ rfl (by omega)
       (fun w1 β k1 b1 ho=>⟨_,_,rfl,.inr ⟨β 46,0,rfl,cK (rest:=[]) (ho.own 46 (.base (List.mem_append_right _ (List.mem_singleton.2 rfl))) _ _ rfl) rfl⟩⟩)
       (fun w2 cap' ak ρ k2 b2 fD jh gU hlen fF fv=>wV rfl ?_)
      (repeat first|refine wN ?_|refine wP rfl ?_|refine aa rfl ?_|refine ab rfl ?_|refine wO rfl rfl ?_)
      refine VS.back (n - (i + 1)) (by omega) ⟨_,_,?_,?_,?_,?_,⟨i + 1,nQ,ds++[dg],.row 47 0 (ds++[dg]).length cap',by omega,rfl,rfl,.inr ⟨cap',ak,rfl,rfl,by simp;omega,gU,?_,fF,fv⟩,by simp [iE],dH.append hdh (dH.cons JY.2 (dH.nil _)),mY.2,hst⟩⟩
      ·exact ⟨rfl,rfl,rfl,congrArg (fun z=>some (AV.row 47 0 z cap')) (by simp),congrArg (fun z=>some (AV.val (.int .i64 z))) LM,congrArg (fun z=>some (AV.val (.int .i64 z))) yD,trivial⟩
      ·exact ⟨congrArg (fun l=>some (_,l++ak)) (pD _ _).symm,trivial⟩
      ·rfl
      ·exact ⟨.append (.none (bq _)) (.none fv),trivial⟩
      ·simpa [bM,Nat.add_assoc] using hlen
    ·rw [if_neg h0] at mY
     have pd:nQ=0:=by omega
     subst pd
     refine VS.bK rfl (decide_eq_false h0) ?_
     (repeat first|refine wN ?_|refine wP rfl ?_|refine aa rfl ?_|refine ab rfl ?_|refine wO rfl rfl ?_)
     ·refine VO.fu 46 rfl (congrArg (fun z=>[AV.val (.int .i64 z)]) (show X=(dg:Int) by omega)) ?_
      refine VO.app (aJ _ _) (t:=156) (e:=3) (sz:=1) (n:=ds.length) (c:=cap) (mm:=1) (known:=iv ds) (spare:=spare) (news:=iv [dg]) (dst:=47) (del:=some 47) rfl rfl rfl rfl rfl rfl rfl rfl (Nat.le_of_ble_eq_true rfl) rfl (.inr ⟨47,rfl,rfl,rfl⟩) (.inr rfl) (by rw [bM];omega) (by rw [List.length_append,bM];omega) h1 h2 ⟨bq _,h5,bq _⟩ ⟨mj _,h4,mj _⟩ rfl (by omega)
       (fun w1 β k1 b1 ho=>⟨_,_,rfl,.inr ⟨β 46,0,rfl,cK (rest:=[]) (ho.own 46 (.base (List.mem_append_right _ (List.mem_singleton.2 rfl))) _ _ rfl) rfl⟩⟩)
       (fun w2 cap' ak ρ k2 b2 fD jh gU hlen fF fv=>wV rfl ?_)
      (repeat first|refine wN ?_|refine wP rfl ?_|refine aa rfl ?_|refine ab rfl ?_|refine wO rfl rfl ?_)
      refine VS.back (n - (i + 1)) (by omega) ⟨_,_,?_,?_,?_,?_,⟨i + 1,0,ds++[dg],.row 47 0 (ds++[dg]).length cap',by omega,rfl,rfl,.inr ⟨cap',ak,rfl,rfl,by simp;omega,gU,?_,fF,fv⟩,by simp [iE],dH.append hdh (dH.cons JY.2 (dH.nil _)),Nat.zero_le _,hst⟩⟩
      ·exact ⟨rfl,rfl,rfl,congrArg (fun z=>some (AV.row 47 0 z cap')) (by simp),rfl,congrArg (fun z=>some (AV.val (.int .i64 z))) yD,trivial⟩
      ·exact ⟨congrArg (fun l=>some (_,l++ak)) (pD _ _).symm,trivial⟩
      ·rfl
      ·exact ⟨.append (.none (bq _)) (.none fv),trivial⟩
      ·simpa [bM,Nat.add_assoc] using hlen
   ·have Kf:y=0:=by rw [gR (by omega)] at hyg;omega
    have hwX:IntKind.i64.wrap ((x:Int) - (br:Int))=X:=by rw [vA,hX,Kf,Nat.mul_zero];omega
    refine VS.bG rfl (decide_eq_true (Int.ofNat_lt.2 tY)) ?_
    (repeat first|refine wN ?_|refine wP rfl ?_|refine aa rfl ?_|refine ab rfl ?_|refine wO rfl rfl ?_)
    refine VO.cond rfl ⟨by omega,by omega⟩ (wV rfl ?_)
    refine VO.read rfl [.int .i64 (x:Int)] rfl (kW rfl qw) (wV rfl ?_)
    refine VO.fix 10 rfl (congrArg (fun z=>AV.val (.int .i64 z)) hwX) ?_
    (repeat first|refine wN ?_|refine wP rfl ?_|refine aa rfl ?_|refine ab rfl ?_|refine wO rfl rfl ?_)
    refine VS.bK rfl (decide_eq_false (fun e=>him (Int.ofNat_lt.1 e))) ?_
    (repeat first|refine wN ?_|refine wP rfl ?_|refine aa rfl ?_|refine ab rfl ?_|refine wO rfl rfl ?_)
    by_cases h0:X < 0
    ·rw [if_pos h0] at mY
     have LM:IntKind.i64.wrap ((IntKind.i64.wrap (65535 - X)).tdiv 65536)=(nQ:Int):=by
      rw [IntWalk.i64_in (65535 - X) (by omega),Int.tdiv_eq_ediv_of_nonneg (by omega),IntWalk.i64_in _ (by omega),mY.1]
     have hwd:IntKind.i64.wrap (X + IntKind.i64.wrap (65536 * (nQ:Int)))=(dg:Int):=by
      rw [IntWalk.i64_in (65536 * (nQ:Int)) (by omega),IntWalk.i64_in _ (by omega),JY.1]
     refine VS.bG rfl (decide_eq_true h0) ?_
     (repeat first|refine wN ?_|refine wP rfl ?_|refine aa rfl ?_|refine ab rfl ?_|refine wO rfl rfl ?_)
     ·refine VO.fu 46 rfl (congrArg (fun z=>[AV.val (.int .i64 z)]) (show _=(dg:Int) by rw [LM,hwd])) ?_
      refine VO.app (aJ _ _) (t:=156) (e:=3) (sz:=1) (n:=ds.length) (c:=cap) (mm:=1) (known:=iv ds) (spare:=spare) (news:=iv [dg]) (dst:=47) (del:=some 47) rfl rfl rfl rfl rfl rfl rfl rfl (Nat.le_of_ble_eq_true rfl) rfl (.inr ⟨47,rfl,rfl,rfl⟩) (.inr rfl) (by rw [bM];omega) (by rw [List.length_append,bM];omega) h1 h2 ⟨bq _,h5,bq _⟩ ⟨mj _,h4,mj _⟩ rfl (by omega)
       (fun w1 β k1 b1 ho=>⟨_,_,rfl,.inr ⟨β 46,0,rfl,cK (rest:=[]) (ho.own 46 (.base (List.mem_append_right _ (List.mem_singleton.2 rfl))) _ _ rfl) rfl⟩⟩)
       (fun w2 cap' ak ρ k2 b2 fD jh gU hlen fF fv=>wV rfl ?_)
      (repeat first|refine wN ?_|refine wP rfl ?_|refine aa rfl ?_|refine ab rfl ?_|refine wO rfl rfl ?_)
      refine VS.back (n - (i + 1)) (by omega) ⟨_,_,?_,?_,?_,?_,⟨i + 1,nQ,ds++[dg],.row 47 0 (ds++[dg]).length cap',by omega,rfl,rfl,.inr ⟨cap',ak,rfl,rfl,by simp;omega,gU,?_,fF,fv⟩,by simp [iE],dH.append hdh (dH.cons JY.2 (dH.nil _)),mY.2,hst⟩⟩
      ·exact ⟨rfl,rfl,rfl,congrArg (fun z=>some (AV.row 47 0 z cap')) (by simp),congrArg (fun z=>some (AV.val (.int .i64 z))) LM,congrArg (fun z=>some (AV.val (.int .i64 z))) yD,trivial⟩
      ·exact ⟨congrArg (fun l=>some (_,l++ak)) (pD _ _).symm,trivial⟩
      ·rfl
      ·exact ⟨.append (.none (bq _)) (.none fv),trivial⟩
      ·simpa [bM,Nat.add_assoc] using hlen
    ·rw [if_neg h0] at mY
     have pd:nQ=0:=by omega
     subst pd
     refine VS.bK rfl (decide_eq_false h0) ?_
     (repeat first|refine wN ?_|refine wP rfl ?_|refine aa rfl ?_|refine ab rfl ?_|refine wO rfl rfl ?_)
     ·refine VO.fu 46 rfl (congrArg (fun z=>[AV.val (.int .i64 z)]) (show X=(dg:Int) by omega)) ?_
      refine VO.app (aJ _ _) (t:=156) (e:=3) (sz:=1) (n:=ds.length) (c:=cap) (mm:=1) (known:=iv ds) (spare:=spare) (news:=iv [dg]) (dst:=47) (del:=some 47) rfl rfl rfl rfl rfl rfl rfl rfl (Nat.le_of_ble_eq_true rfl) rfl (.inr ⟨47,rfl,rfl,rfl⟩) (.inr rfl) (by rw [bM];omega) (by rw [List.length_append,bM];omega) h1 h2 ⟨bq _,h5,bq _⟩ ⟨mj _,h4,mj _⟩ rfl (by omega)
       (fun w1 β k1 b1 ho=>⟨_,_,rfl,.inr ⟨β 46,0,rfl,cK (rest:=[]) (ho.own 46 (.base (List.mem_append_right _ (List.mem_singleton.2 rfl))) _ _ rfl) rfl⟩⟩)
       (fun w2 cap' ak ρ k2 b2 fD jh gU hlen fF fv=>wV rfl ?_)
      (repeat first|refine wN ?_|refine wP rfl ?_|refine aa rfl ?_|refine ab rfl ?_|refine wO rfl rfl ?_)
      refine VS.back (n - (i + 1)) (by omega) ⟨_,_,?_,?_,?_,?_,⟨i + 1,0,ds++[dg],.row 47 0 (ds++[dg]).length cap',by omega,rfl,rfl,.inr ⟨cap',ak,rfl,rfl,by simp;omega,gU,?_,fF,fv⟩,by simp [iE],dH.append hdh (dH.cons JY.2 (dH.nil _)),Nat.zero_le _,hst⟩⟩
      ·exact ⟨rfl,rfl,rfl,congrArg (fun z=>some (AV.row 47 0 z cap')) (by simp),rfl,congrArg (fun z=>some (AV.val (.int .i64 z))) yD,trivial⟩
      ·exact ⟨congrArg (fun l=>some (_,l++ak)) (pD _ _).symm,trivial⟩
      ·rfl
      ·exact ⟨.append (.none (bq _)) (.none fv),trivial⟩
      ·simpa [bM,Nat.add_assoc] using hlen
 ·obtain rfl:i=n:=by omega
  have hend:=LL hdh iE ew (show t * hval (halves B)≤hval (halves A) by rw [bb,bb];exact hle) (by
   rcases Nat.eq_zero_or_pos t with e | e
   ·exact .inl e
   ·right
    rw [←ew]
    exact cZ (by omega) (Nat.le_trans (Nat.le_mul_of_pos_left B e) hle)) hv
  rw [bb,bb] at hend
  rcases iV with ⟨rfl,rfl,rfl⟩ | ⟨cap,spare,rfl,rfl,h1,h2,h3,h4,h5⟩
  all_goals
   (repeat first|refine wN ?_|refine wP rfl ?_|refine aa rfl ?_|refine ab rfl ?_|refine wO rfl rfl ?_)
   refine VS.bK rfl (decide_eq_false (fun e=>tY (Int.ofNat_lt.1 e))) ?_
   (repeat first|refine wN ?_|refine wP rfl ?_|refine aa rfl ?_|refine ab rfl ?_|refine wO rfl rfl ?_)
  ·refine VO.call rfl rfl (fk Tryz.func125) (fun cB eu dt=>(gT none 0 0 [] cB (Rd.own (World.ownsRow_nil _ 0 0 _)) (dH.nil _)).mono ?_)
   rintro e w1 ⟨⟨mm,zb,rfl,hcut⟩,rfl⟩
   obtain rfl:mm=0:=by omega
   refine ⟨_,rfl,aj.refl _,fun fq _ bb1=>wV rfl ?_⟩
   (repeat first|refine wN ?_|refine wP rfl ?_|refine aa rfl ?_|refine ab rfl ?_|refine wO rfl rfl ?_)
   refine VS.ret (aJ _ _) rfl rfl (fun wz kz bz=> ?_)
   have e0:A - t * B=0:=by rw [←hend];rfl
   exact ⟨_,rfl,by rw [e0,kP];exact eD.nil _ _,bz⟩
  ·refine VO.zy rfl (fk Tryz.func125) (fun w1 β k1 b1 ho=>(gT (some ⟨β 47,0,none⟩) ds.length cap ds w1 (kV (ho.own 47 (.base (List.mem_singleton.2 rfl)) _ _ rfl) rfl h1 (by simpa [maxLen] using h2)) hdh).mono ?_)
   rintro e w2 ⟨⟨mm,zb,rfl,hcut⟩,rfl⟩
   refine ⟨.row 47 0 mm cap,rfl,fun i hi=>⟨hi,by cases List.mem_singleton.1 hi;exact Option.some_ne_none _⟩,aj.refl _,fun k2 _ b2=>wV rfl ?_⟩
   (repeat first|refine wN ?_|refine wP rfl ?_|refine aa rfl ?_|refine ab rfl ?_|refine wO rfl rfl ?_)
   refine VS.oJ (aJ _ _) rfl (fun wz β kz bz he=> ?_)
   have qf:=vS hcut zb rfl
   rw [hend] at hcut qf
   refine ⟨_,rfl,?_,bz⟩
   have:=oM (he.own 47 _ _ rfl) rfl zb h1 (by simpa [maxLen] using h2) h3
   rw [←hcut] at this
   show eD wz w.heap.size (.slice (some ⟨β 47,0,none⟩) mm cap) _ _
   rw [←qf]
   exact this
end Go.Proofs.YtabalinjfgcfeaaGreat
set_option maxRecDepth 4000
namespace Go.Proofs.YtabalinjfgcfeaaGreat
open Go.RowKit
attribute [local irreducible] aA VS
theorem eD.jL {w w':World} {B:Nat} {v:Value} {n:Nat} {xs:List Nat} (h:eD w B v n xs) (k:aF KI w w'):eD w' B v n xs:=by
 obtain ⟨hn,e | ⟨b,c,spare,e,hb,hc,r⟩⟩:=h
 ·exact ⟨hn,.inl e⟩
 ·exact ⟨hn,.inr ⟨b,c,spare,e,hb,k.block _ b _ rfl trivial hc,r⟩⟩
theorem yG.kp {w w':World} {B n:Nat} {v:Value} {cs:List Value} (h:w.ownsRow B 3 1 v n cs) (k:aF KI w w'):w'.ownsRow B 3 1 v n cs:=by
 refine ⟨h.1,?_⟩
 rcases h.2 with h2 | ⟨g,cap,cur,hv,hb,hg,r⟩
 ·exact .inl h2
 ·exact .inr ⟨g,cap,cur,hv,hb,k.block _ g cur rfl trivial hg,r⟩
theorem eD.form {w:World} {B:Nat} {v:Value} {n:Nat} {xs:List Nat} (h:eD w B v n xs):∃ p c,v=.slice p n c:=by
 obtain ⟨hn,⟨rfl,rfl⟩ | ⟨b,c,spare,rfl,_⟩⟩:=h
 ·exact ⟨none,0,rfl⟩
 ·exact ⟨_,c,rfl⟩
theorem Di (x:Nat):hval [x]=x:=by show x + 65536 * 0=x;omega
set_option maxHeartbeats 1000000 in
theorem uB (va vb:Value) (n m A B:Nat) (w:World) (hr:Rd w 1 va n (ints .i64 (halves A))) (hs:Rd w 1 vb m (ints .i64 (halves B))) (hB:A < 65536 * B) (hm:m≤2147483656):
  Calls Tryz.prog 136 #[va,vb] w fun e w'=>e=.returned (.int .i64 ((A / B:Nat):Int))∧aj w w':=by
 obtain ⟨p,c,rfl,fH,fy,ew⟩:=hr.i64
 obtain ⟨q,d,rfl,JR,Ev,jt⟩:=hs.i64
 refine aw (C:=GN Tryz.prog w _) (args:=[_,_]) Tryz.func136 rfl Tryz.ntmps136 (Nat.le_of_ble_eq_true rfl) ?_
 (repeat first|refine wN ?_|refine wP rfl ?_|refine bH rfl ?_|refine bU rfl ?_|refine wO rfl rfl ?_)
 refine VS.loop (J:=fun ms L M w'=>∃ (lo hi:Nat),lo < hi∧hi≤65536∧ms=hi - lo∧L=[(0,.val (.slice p n c)),(1,.val (.slice q m d)),(5,.val (.int .i64 (lo:Int))),(6,.val (.int .i64 (hi:Int)))]∧M=[]∧lo * B≤A∧A < hi * B) 65536 ⟨_,_,?_,?_,?_,?_,⟨0,65536,by omega,by omega,rfl,rfl,rfl,by omega,hB⟩⟩ ?_
 ·(repeat first|exact trivial|refine ⟨rfl,?_⟩)
 ·(repeat first|exact trivial|refine ⟨rfl,?_⟩)
 ·rfl
 ·exact trivial
 rintro ms L M w' ⟨lo,hi,hlh,hh,rfl,rfl,rfl,h1,h2⟩
 have vA:IntKind.i64.wrap ((hi:Int) - (lo:Int))=(hi:Int) - lo:=IntWalk.i64_in _ (by omega)
 (repeat first|refine wN ?_|refine wP rfl ?_|refine bH rfl ?_|refine bU rfl ?_|refine wO rfl rfl ?_)
 by_cases hgo:1 < hi - lo
 ·obtain ⟨mid,iQ⟩:∃ mid,mid=(lo + hi) / 2:=⟨_,rfl⟩
  have hwm:IntKind.i64.wrap ((IntKind.i64.wrap ((lo:Int) + (hi:Int))).tdiv 2)=(mid:Int):=by
   rw [IntWalk.i64_in ((lo:Int) + (hi:Int)) (by omega),Int.tdiv_eq_ediv_of_nonneg (by omega),IntWalk.i64_in _ (by omega)];omega
  refine VS.bG rfl (decide_eq_true (by rw [vA];omega)) ?_
  (repeat first|refine wN ?_|refine wP rfl ?_|refine bH rfl ?_|refine bU rfl ?_|refine wO rfl rfl ?_)
  refine VO.lit (gm _ _) [.int .i64 (mid:Int)] rfl (by rw [hwm];rfl) rfl rfl rfl rfl rfl rfl rfl (by omega) (fun w2 b k2 b2 ho=>wV rfl ?_)
  have hmid4:mid < 65536:=by omega
  refine VO.call rfl rfl (fk Tryz.func100) (fun cB eu dt=>(Dh _ _ m 1 (halves B) [mid] cB (hs.below dt) (Rd.own (yG.kp (cs:=ints .i64 [mid]) ho eu)) (bD B) (dH.cons hmid4 (dH.nil _)) hm (by omega)).mono ?_)
  rintro e w1 ⟨v1,rfl,q1,aU⟩
  rw [bb,Di] at q1
  obtain ⟨p1,c1,rfl⟩:=q1.form
  refine ⟨_,rfl,aU,fun fq _ bb1=>wV rfl ?_⟩
  (repeat first|refine wN ?_|refine wP rfl ?_|refine bH rfl ?_|refine bU rfl ?_|refine wO rfl rfl ?_)
  refine VO.call rfl rfl (fk Tryz.func148) (fun gY iD jd=>(Ft _ _ n _ A (B * mid) gY (hr.below jd) (Rd.own (q1.jL iD).own)).mono ?_)
  rintro e w3 ⟨rfl,cI⟩
  refine ⟨_,rfl,cI,fun kS _ bb3=>wV rfl ?_⟩
  (repeat first|refine wN ?_|refine wP rfl ?_|refine bH rfl ?_|refine bU rfl ?_|refine wO rfl rfl ?_)
  by_cases hlt:A < B * mid
  ·refine VS.bG rfl (decide_eq_true hlt) ?_
   (repeat first|refine wN ?_|refine wP rfl ?_|refine bH rfl ?_|refine bU rfl ?_|refine wO rfl rfl ?_)
   refine VS.back (mid - lo) (by omega) ⟨_,_,?_,?_,?_,?_,⟨lo,mid,by omega,by omega,rfl,rfl,rfl,h1,by rw [Nat.mul_comm];exact hlt⟩⟩
   ·exact ⟨rfl,rfl,rfl,congrArg (fun z=>some (AV.val (.int .i64 z))) hwm,trivial⟩
   ·(repeat first|exact trivial|refine ⟨rfl,?_⟩)
   ·rfl
   ·exact trivial
  ·refine VS.bK rfl (decide_eq_false hlt) ?_
   (repeat first|refine wN ?_|refine wP rfl ?_|refine bH rfl ?_|refine bU rfl ?_|refine wO rfl rfl ?_)
   refine VS.back (hi - mid) (by omega) ⟨_,_,?_,?_,?_,?_,⟨mid,hi,by omega,by omega,rfl,rfl,rfl,by rw [Nat.mul_comm];omega,h2⟩⟩
   ·exact ⟨rfl,rfl,congrArg (fun z=>some (AV.val (.int .i64 z))) hwm,rfl,trivial⟩
   ·(repeat first|exact trivial|refine ⟨rfl,?_⟩)
   ·rfl
   ·exact trivial
 ·refine VS.bK rfl (decide_eq_false (by rw [vA];omega)) ?_
  (repeat first|refine wN ?_|refine wP rfl ?_|refine bH rfl ?_|refine bU rfl ?_|refine wO rfl rfl ?_)
  refine VS.ret (gm _ _) rfl rfl (fun wz kz bz=> ?_)
  refine ⟨?_,bz⟩
  have hBp:0 < B:=by
   rcases Nat.eq_zero_or_pos B with e | e
   ·rw [e] at hB;omega
   ·exact e
  have:A / B=lo:=by
   have e1:hi=lo + 1:=by omega
   rw [e1,Nat.add_mul] at h2
   exact Nat.div_eq_of_lt_le h1 (by rw [Nat.add_mul];exact h2)
  rw [this];rfl
theorem xC {A B k x R V:Nat} {qs:List Nat} (hx:(halves A)[k]? =some x) (hR:R < B) (hV:V=x + 65536 * R) (h:hval qs * B + R=hval ((halves A).drop (k + 1))):
  hval ((V / B)::qs) * B + (V - V / B * B)=hval ((halves A).drop k)∧V < 65536 * B∧V - V / B * B < B∧V / B < 65536:=by
 have ku:=(bD A).at hx
 have e1:hval ((halves A).drop k)=x + 65536 * hval ((halves A).drop (k + 1)):=qe hx
 have e2:hval ((V / B)::qs)=V / B + 65536 * hval qs:=rfl
 have e3:=Nat.div_add_mod V B
 have e4:=Nat.mod_lt V (show 0 < B by omega)
 rw [Nat.mul_comm] at e3
 have hlt:V < 65536 * B:=by
  have:65536 * R + 65536≤65536 * B:=by
   have:=Nat.mul_le_mul_left 65536 (show R + 1≤B by omega)
   rw [Nat.mul_add] at this;omega
  omega
 refine ⟨?_,hlt,by omega,Nat.div_lt_of_lt_mul (by rw [Nat.mul_comm];exact hlt)⟩
 rw [e1,←h,e2,Nat.add_mul,Nat.mul_add,Nat.mul_assoc]
 omega
set_option maxHeartbeats 2000000 in
theorem Dj (va vb:Value) (n m A B:Nat) (w:World) (hr:Rd w 1 va n (ints .i64 (halves A))) (hs:Rd w 1 vb m (ints .i64 (halves B))) (hB:0 < B) (hn:n≤1073741824) (hm:m≤1073741824):
  Calls Tryz.prog 119 #[va,vb] w fun e w'=>∃ v u,e=.returned (.tuple #[v,u])∧eD w' w.heap.size v (halves (A / B)).length (halves (A / B))∧eD w' w.heap.size u (halves (A % B)).length (halves (A % B))∧aj w w':=by
 obtain ⟨p,c,rfl,fH,fy,ew⟩:=hr.i64
 obtain ⟨q,d,rfl,JR,Ev,jt⟩:=hs.i64
 refine aw (C:=bP Tryz.prog w _) (args:=[_,_]) Tryz.func119 rfl Tryz.ntmps119 (Nat.le_of_ble_eq_true rfl) ?_
 (repeat first|refine wN ?_|refine wP rfl ?_|refine aa rfl ?_|refine ab rfl ?_|refine wO rfl rfl ?_)
 refine VO.cond rfl ⟨rfl,by omega,by show (n:Int) * (24 * 1)≤_;omega⟩ (VO.fu 12 rfl (xA _) (wV rfl ?_))
 rw [Int.toNat_natCast]
 (repeat first|refine wN ?_|refine wP rfl ?_|refine aa rfl ?_|refine ab rfl ?_|refine wO rfl rfl ?_)
 have hw0:IntKind.i64.wrap ((n:Int) - 1)=(n:Int) - 1:=IntWalk.i64_in _ (by omega)
 refine VS.loop (J:=fun ms L M w'=>∃ (k R:Nat) (qs:List Nat) (v:AV) (M1:List (Nat×(TypeId×List AV))),k≤n∧ms=k∧L=[(0,.val (.slice p n c)),(1,.val (.slice q m d)),(6,.row 12 0 n n),(7,v),(8,.val (.int .i64 ((k:Int) - 1)))]∧
  M=(12,(3,iv (List.replicate k 0++qs)))::M1∧RowAt 41 (halves R) v M1∧qs.length=n - k∧gf qs∧R < B∧hval qs * B + R=hval ((halves A).drop k)) n ⟨_,_,?_,?_,?_,?_,⟨n,0,[],.val (.slice none 0 0),[],Nat.le_refl _,rfl,rfl,rfl,.inl ⟨kP,rfl,rfl⟩,by simp,dH.nil _,hB,by rw [List.drop_of_length_le (by omega)];simp [hval,val]⟩⟩ ?_
 ·exact ⟨rfl,rfl,rfl,rfl,congrArg (fun z=>some (AV.val (.int .i64 z))) hw0,trivial⟩
 ·exact ⟨congrArg (fun l=>some (_,l)) (by rw [List.append_nil]),trivial⟩
 ·rfl
 ·exact ⟨.none (bq _),trivial⟩
 rintro ms L M w' ⟨k,R,qs,v,M1,hk,hms,rfl,rfl,iV,Al,hqh,hRB,hv⟩
 have hz:(List.replicate k 0++qs).length=n:=by simp;omega
 rcases iV with ⟨hR0,rfl,rfl⟩ | ⟨cap,spare,rfl,rfl,g1,g2,g3,g4,g5⟩
 all_goals
  by_cases yu:k=0
 ·subst yu
  (repeat first|refine wN ?_|refine wP rfl ?_|refine aa rfl ?_|refine ab rfl ?_|refine wO rfl rfl ?_)
  refine VO.zy rfl (fk Tryz.func125) (fun w1 β k1 bw ho=>(gT (some ⟨β 12,0,none⟩) n n qs w1 (kV (spare:=[]) (by rw [List.append_nil];exact ho.own 12 (.base (List.mem_singleton.2 rfl)) _ _ rfl) (by simpa using hz) (Nat.le_refl _) (by simp only [maxLen];omega)) hqh).mono ?_)
  rintro e w2 ⟨⟨mm,zb,rfl,hcut⟩,rfl⟩
  refine ⟨.row 12 0 mm n,rfl,fun i hi=>⟨hi,by cases List.mem_singleton.1 hi;exact Option.some_ne_none _⟩,aj.refl _,fun k2 _ b2=>wV rfl ?_⟩
  (repeat first|refine wN ?_|refine wP rfl ?_|refine aa rfl ?_|refine ab rfl ?_|refine wO rfl rfl ?_)
  refine VS.oJ (aJ _ _) rfl (fun wz β kz bz he=> ?_)
  have Ef:qs.length=n:=by simpa using hz
  have qf:=vS hcut zb Ef
  rw [List.drop_zero,bb] at hv
  have hA:A / B=hval qs:=by rw [←hv,Nat.add_comm,Nat.add_mul_div_right _ _ hB,Nat.div_eq_of_lt hRB,Nat.zero_add]
  have hM:A % B=R:=by rw [←hv,Nat.add_comm,Nat.add_mul_mod_self_right,Nat.mod_eq_of_lt hRB]
  rw [←hA] at hcut qf
  have e12:=oM (spare:=[]) (by rw [List.append_nil];exact he.own 12 _ _ rfl) Ef zb (Nat.le_refl _) (by simp only [maxLen];omega) (by simpa using Ef)
  rw [←hcut] at e12
  refine ⟨.slice (some ⟨β 12,0,none⟩) mm n,.slice none 0 0,rfl,by rw [←qf];exact e12,?_,bz⟩
  rw [hM,hR0];exact eD.nil _ _
 ·obtain ⟨j,rfl⟩:∃ j,k=j + 1:=⟨k - 1,by omega⟩
  have hj:((j + 1:Nat):Int) - 1=(j:Int):=by omega
  obtain ⟨b1,o1,x,rfl,aU,gl,qw⟩:=hr.cellAt (show j < n by omega)
  have ku:=(bD A).at gl
  obtain ⟨V,hV⟩:∃ V,V=x + 65536 * R:=⟨_,rfl⟩
  obtain ⟨s1,s2,s3,s4⟩:=xC gl hRB hV hv
  have hRl:(halves R).length≤m:=by rw [←jt];exact cZ (by omega) (by omega)
  have hXS:hval [x]=V:=by have hR0':R=0:=(by have:=congrArg hval hR0;rw [bb] at this;exact this);rw [hV,hR0'];exact Di x
  have hXH:gf [x]:=dH.cons ku (dH.nil _)
  have hXL:[x].length=(1 + 0):=rfl
  refine VS.fix 8 rfl (congrArg (fun z=>AV.val (.int .i64 z)) hj) ?_
  (repeat first|refine wN ?_|refine wP rfl ?_|refine aa rfl ?_|refine ab rfl ?_|refine wO rfl rfl ?_)
  refine VO.cond rfl ⟨by omega,by omega⟩ (wV rfl ?_)
  refine VO.read rfl [.int .i64 (x:Int)] rfl (kW rfl qw) (wV rfl ?_)
  (repeat first|refine wN ?_|refine wP rfl ?_|refine aa rfl ?_|refine ab rfl ?_|refine wO rfl rfl ?_)
  refine VO.app (aJ _ _) (t:=156) (e:=3) (sz:=1) (n:=1) (c:=1) (mm:=0) (known:=iv [x]) (spare:=[]) (news:=[]) (dst:=27) (del:=some 24) rfl rfl rfl rfl rfl rfl rfl rfl (Nat.le_of_ble_eq_true rfl) rfl (.inr ⟨24,rfl,rfl,rfl⟩) (.inl rfl) rfl rfl (by omega) (by omega) ⟨rfl,rfl,rfl⟩ ⟨rfl,rfl,rfl⟩ rfl (by omega)
   (fun w1 β k1 bw ho=>⟨_,_,rfl,.inl rfl⟩)
   (fun w2 cap' ak ρ k2 b2 fD jh gU hlen fF fv=>VO.fu 12 rfl (LK 24 ρ _) (wV rfl ?_))
  have lG:(iv [x]++[])++ak=iv [x]++ak:=rfl
  refine VO.zy rfl (fk Tryz.func125) (fun w1 β k1 bw ho=>(gT (some ⟨β 27,0,none⟩) (1 + 0) cap' [x] w1 (kV (ho.own 27 (.base (List.mem_singleton.2 rfl)) _ _ rfl) hXL jh (by simpa [maxLen] using gU)) hXH).mono ?_)
  rintro e w3 ⟨⟨m',Ko,rfl,hcut⟩,rfl⟩
  rw [hXS] at hcut
  have hm'l:m'=(halves V).length:=by rw [hcut,List.length_take];omega
  have sQ:∀ {C:Cx} {β:Nat→Nat} {w:World},lW C β w 27 3 (iv [x]++ak)→Rd w 1 (.slice (some ⟨β 27,0,none⟩) m' cap') m' (ints .i64 (halves V)):=fun h=>by
   have:=Rd.Db (kV h hXL jh (by simpa [maxLen] using gU)) Ko
   rwa [←hcut] at this
  refine ⟨.row 27 0 m' cap',rfl,fun i hi=>⟨hi,by cases List.mem_singleton.1 hi;exact Option.some_ne_none _⟩,aj.refl _,fun k3 _ b3=>wV rfl ?_⟩
  (repeat first|refine wN ?_|refine wP rfl ?_|refine aa rfl ?_|refine ab rfl ?_|refine wO rfl rfl ?_)
  refine VO.gi rfl (fk Tryz.func136) (fun w1 β k1 bw ho=>(uB _ _ m' m V B w1 (sQ (ho.own 27 (.base (List.mem_append_left _ (List.mem_singleton.2 rfl))) _ _ rfl)) (hs.below bw) s2 (by omega)).mono ?_)
  rintro e w4 ⟨rfl,gI⟩
  refine ⟨_,rfl,gI,fun k4 _ b4=>wV rfl ?_⟩
  refine VO.cond rfl ⟨by omega,by omega⟩ (wV rfl ?_)
  refine VO.cond rfl (by show 0 + (j:Int).toNat * 1 + 1≤_;rw [Int.toNat_natCast,bM];omega) (wV rfl ?_)
  refine wN ?_
  refine VS.narrow [(0,.val (.slice (some ⟨b1,o1,none⟩) n c)),(1,.val (.slice q m d)),(6,.row 12 0 n n),(7,.row 27 0 m' cap'),(8,.val (.int .i64 (j:Int)))] [(12,(3,iv (List.replicate j 0++(V / B)::qs))),(27,(3,iv [x]++ak))] ?_ ?_ rfl ?_ ?_
  ·(repeat first|exact trivial|refine ⟨rfl,?_⟩)
  ·exact ⟨congrArg (fun l=>some (_,l)) ((vR (j:=j) (x:=V / B) (by rw [hz];omega) (by rw [Int.toNat_natCast];omega)).trans (by rw [uA])),rfl,trivial⟩
  ·exact ⟨.none (bq _),.append (.none (bq _)) (.none fv),trivial⟩
  (repeat first|refine wN ?_|refine wP rfl ?_|refine aa rfl ?_|refine ab rfl ?_|refine wO rfl rfl ?_)
  refine VO.cond rfl ⟨by omega,by omega⟩ (wV rfl ?_)
  refine VO.de rfl [.val (.int .i64 ((V / B:Nat):Int))] rfl (rX (j:=j) (by rw [List.getElem?_append_right (by simp)];simp) (by rw [Int.toNat_natCast];omega)) (wV rfl ?_)
  have vA:IntKind.i64.wrap ((j:Int) - 1)=(j:Int) - 1:=IntWalk.i64_in _ (by omega)
  refine VO.callN (dst:=41) (n:=(halves (V - V / B * B)).length) (t:=3) (sz:=1) (xs:=ints .i64 (halves (V - V / B * B))) rfl rfl rfl (Nat.le_of_ble_eq_true rfl) (by show 1≤2;omega) rfl (fun w1 β k1 bw ho=>⟨(fk Tryz.func137),(xB _ _ m' m (V / B) V B w1 (sQ (ho.own 27 (.base (List.mem_append_left _ (List.mem_singleton.2 rfl))) _ _ rfl)) (hs.below bw) s4 (Nat.div_mul_le_self _ _) (by omega)).mono ?_⟩)
  rintro e w5 ⟨v5,rfl,Dk,fY⟩
  refine ⟨v5,rfl,fY,Dk.new,fun _ _ _ hv5=>wV rfl ?_,fun c5 sp5 _ _ _ hv5 hok5 hl5 hc5 Ew=>wV rfl ?_⟩
  ·have Ie:halves (V - V / B * B)=[]:=by
    subst hv5
    obtain ⟨e1,⟨_,e2⟩ | ⟨_,_,_,e2,_⟩⟩:=Dk
    ·exact List.eq_nil_of_length_eq_zero e2
    ·cases e2
   (repeat first|refine wN ?_|refine wP rfl ?_|refine aa rfl ?_|refine ab rfl ?_|refine wO rfl rfl ?_)
   refine VS.back j (by omega) ⟨_,_,?_,?_,?_,?_,⟨j,V - V / B * B,(V / B)::qs,.val (.slice none 0 0),[],by omega,rfl,rfl,rfl,.inl ⟨Ie,rfl,rfl⟩,by simp;omega,dH.cons s4 hqh,s3,s1⟩⟩
   ·exact ⟨rfl,rfl,rfl,rfl,congrArg (fun z=>some (AV.val (.int .i64 z))) vA,trivial⟩
   ·exact ⟨rfl,trivial⟩
   ·rfl
   ·exact ⟨.none (bq _),trivial⟩
  ·have qO:(halves (V - V / B * B)).length + sp5.length=c5:=by simpa using Ew
   (repeat first|refine wN ?_|refine wP rfl ?_|refine aa rfl ?_|refine ab rfl ?_|refine wO rfl rfl ?_)
   refine VS.back j (by omega) ⟨_,_,?_,?_,?_,?_,⟨j,V - V / B * B,(V / B)::qs,.row 41 0 _ c5,_,by omega,rfl,rfl,rfl,.inr ⟨c5,sp5.map .val,rfl,rfl,hl5,hc5,by simpa using qO,aZ hok5,ao _⟩,by simp;omega,dH.cons s4 hqh,s3,s1⟩⟩
   ·exact ⟨rfl,rfl,rfl,rfl,congrArg (fun z=>some (AV.val (.int .i64 z))) vA,trivial⟩
   ·exact ⟨rfl,congrArg (fun l=>some (_,l)) (List.map_append),trivial⟩
   ·rfl
   ·exact ⟨.none (bq _),.append (.none (bq _)) (.none (ao _)),trivial⟩
 ·subst yu
  (repeat first|refine wN ?_|refine wP rfl ?_|refine aa rfl ?_|refine ab rfl ?_|refine wO rfl rfl ?_)
  refine VO.zy rfl (fk Tryz.func125) (fun w1 β k1 bw ho=>(gT (some ⟨β 12,0,none⟩) n n qs w1 (kV (spare:=[]) (by rw [List.append_nil];exact ho.own 12 (.base (List.mem_singleton.2 rfl)) _ _ rfl) (by simpa using hz) (Nat.le_refl _) (by simp only [maxLen];omega)) hqh).mono ?_)
  rintro e w2 ⟨⟨mm,zb,rfl,hcut⟩,rfl⟩
  refine ⟨.row 12 0 mm n,rfl,fun i hi=>⟨hi,by cases List.mem_singleton.1 hi;exact Option.some_ne_none _⟩,aj.refl _,fun k2 _ b2=>wV rfl ?_⟩
  (repeat first|refine wN ?_|refine wP rfl ?_|refine aa rfl ?_|refine ab rfl ?_|refine wO rfl rfl ?_)
  refine VS.oJ (aJ _ _) rfl (fun wz β kz bz he=> ?_)
  have Ef:qs.length=n:=by simpa using hz
  have qf:=vS hcut zb Ef
  rw [List.drop_zero,bb] at hv
  have hA:A / B=hval qs:=by rw [←hv,Nat.add_comm,Nat.add_mul_div_right _ _ hB,Nat.div_eq_of_lt hRB,Nat.zero_add]
  have hM:A % B=R:=by rw [←hv,Nat.add_comm,Nat.add_mul_mod_self_right,Nat.mod_eq_of_lt hRB]
  rw [←hA] at hcut qf
  have e12:=oM (spare:=[]) (by rw [List.append_nil];exact he.own 12 _ _ rfl) Ef zb (Nat.le_refl _) (by simp only [maxLen];omega) (by simpa using Ef)
  rw [←hcut] at e12
  have e41:=oM (he.own 41 _ _ rfl) rfl (Nat.le_refl _) g1 (by simpa [maxLen] using g2) g3
  rw [List.take_length] at e41
  refine ⟨.slice (some ⟨β 12,0,none⟩) mm n,.slice (some ⟨β 41,0,none⟩) (halves R).length cap,rfl,by rw [←qf];exact e12,?_,bz⟩
  rw [hM];exact e41
 ·obtain ⟨j,rfl⟩:∃ j,k=j + 1:=⟨k - 1,by omega⟩
  have hj:((j + 1:Nat):Int) - 1=(j:Int):=by omega
  obtain ⟨b1,o1,x,rfl,aU,gl,qw⟩:=hr.cellAt (show j < n by omega)
  have ku:=(bD A).at gl
  obtain ⟨V,hV⟩:∃ V,V=x + 65536 * R:=⟨_,rfl⟩
  obtain ⟨s1,s2,s3,s4⟩:=xC gl hRB hV hv
  have hRl:(halves R).length≤m:=by rw [←jt];exact cZ (by omega) (by omega)
  have hXS:hval (x::halves R)=V:=by rw [hV];show x + 65536 * hval (halves R)=_;rw [bb]
  have hXH:gf (x::halves R):=dH.cons ku (bD R)
  have hXL:(x::halves R).length=(1 + (halves R).length):=by simp;omega
  refine VS.fix 8 rfl (congrArg (fun z=>AV.val (.int .i64 z)) hj) ?_
  (repeat first|refine wN ?_|refine wP rfl ?_|refine aa rfl ?_|refine ab rfl ?_|refine wO rfl rfl ?_)
  refine VO.cond rfl ⟨by omega,by omega⟩ (wV rfl ?_)
  refine VO.read rfl [.int .i64 (x:Int)] rfl (kW rfl qw) (wV rfl ?_)
  (repeat first|refine wN ?_|refine wP rfl ?_|refine aa rfl ?_|refine ab rfl ?_|refine wO rfl rfl ?_)
  refine VO.app (aJ _ _) (t:=156) (e:=3) (sz:=1) (n:=1) (c:=1) (mm:=(halves R).length) (known:=iv [x]) (spare:=[]) (news:=iv (halves R)) (dst:=27) (del:=some 24) rfl rfl rfl rfl rfl rfl rfl rfl (Nat.le_of_ble_eq_true rfl) rfl (.inr ⟨24,rfl,rfl,rfl⟩) (.inl rfl) rfl rfl (by omega) (by omega) ⟨rfl,rfl,bq _⟩ ⟨rfl,rfl,mj _⟩ (by rw [bM];omega) (by omega)
   (fun w1 β k1 bw ho=>⟨_,_,rfl,.inr ⟨β 41,0,rfl,cK (rest:=spare) (ho.own 41 (.base (List.mem_append_right _ (List.mem_singleton.2 rfl))) _ _ rfl) rfl⟩⟩)
   (fun w2 cap' ak ρ k2 b2 fD jh gU hlen fF fv=>VO.fu 12 rfl (LK 24 ρ _) (wV rfl ?_))
  have lG:(iv [x]++iv (halves R))++ak=iv (x::halves R)++ak:=rfl
  refine VO.zy rfl (fk Tryz.func125) (fun w1 β k1 bw ho=>(gT (some ⟨β 27,0,none⟩) (1 + (halves R).length) cap' (x::halves R) w1 (kV (ho.own 27 (.base (List.mem_singleton.2 rfl)) _ _ rfl) hXL jh (by simpa [maxLen] using gU)) hXH).mono ?_)
  rintro e w3 ⟨⟨m',Ko,rfl,hcut⟩,rfl⟩
  rw [hXS] at hcut
  have hm'l:m'=(halves V).length:=by rw [hcut,List.length_take];omega
  have sQ:∀ {C:Cx} {β:Nat→Nat} {w:World},lW C β w 27 3 (iv (x::halves R)++ak)→Rd w 1 (.slice (some ⟨β 27,0,none⟩) m' cap') m' (ints .i64 (halves V)):=fun h=>by
   have:=Rd.Db (kV h hXL jh (by simpa [maxLen] using gU)) Ko
   rwa [←hcut] at this
  refine ⟨.row 27 0 m' cap',rfl,fun i hi=>⟨hi,by cases List.mem_singleton.1 hi;exact Option.some_ne_none _⟩,aj.refl _,fun k3 _ b3=>wV rfl ?_⟩
  (repeat first|refine wN ?_|refine wP rfl ?_|refine aa rfl ?_|refine ab rfl ?_|refine wO rfl rfl ?_)
  refine VO.gi rfl (fk Tryz.func136) (fun w1 β k1 bw ho=>(uB _ _ m' m V B w1 (sQ (ho.own 27 (.base (List.mem_append_left _ (List.mem_singleton.2 rfl))) _ _ rfl)) (hs.below bw) s2 (by omega)).mono ?_)
  rintro e w4 ⟨rfl,gI⟩
  refine ⟨_,rfl,gI,fun k4 _ b4=>wV rfl ?_⟩
  refine VO.cond rfl ⟨by omega,by omega⟩ (wV rfl ?_)
  refine VO.cond rfl (by show 0 + (j:Int).toNat * 1 + 1≤_;rw [Int.toNat_natCast,bM];omega) (wV rfl ?_)
  refine wN ?_
  refine VS.narrow [(0,.val (.slice (some ⟨b1,o1,none⟩) n c)),(1,.val (.slice q m d)),(6,.row 12 0 n n),(7,.row 27 0 m' cap'),(8,.val (.int .i64 (j:Int)))] [(12,(3,iv (List.replicate j 0++(V / B)::qs))),(27,(3,iv (x::halves R)++ak))] ?_ ?_ rfl ?_ ?_
  ·(repeat first|exact trivial|refine ⟨rfl,?_⟩)
  ·exact ⟨congrArg (fun l=>some (_,l)) ((vR (j:=j) (x:=V / B) (by rw [hz];omega) (by rw [Int.toNat_natCast];omega)).trans (by rw [uA])),rfl,trivial⟩
  ·exact ⟨.none (bq _),.append (.none (bq _)) (.none fv),trivial⟩
  (repeat first|refine wN ?_|refine wP rfl ?_|refine aa rfl ?_|refine ab rfl ?_|refine wO rfl rfl ?_)
  refine VO.cond rfl ⟨by omega,by omega⟩ (wV rfl ?_)
  refine VO.de rfl [.val (.int .i64 ((V / B:Nat):Int))] rfl (rX (j:=j) (by rw [List.getElem?_append_right (by simp)];simp) (by rw [Int.toNat_natCast];omega)) (wV rfl ?_)
  have vA:IntKind.i64.wrap ((j:Int) - 1)=(j:Int) - 1:=IntWalk.i64_in _ (by omega)
  refine VO.callN (dst:=41) (n:=(halves (V - V / B * B)).length) (t:=3) (sz:=1) (xs:=ints .i64 (halves (V - V / B * B))) rfl rfl rfl (Nat.le_of_ble_eq_true rfl) (by show 1≤2;omega) rfl (fun w1 β k1 bw ho=>⟨(fk Tryz.func137),(xB _ _ m' m (V / B) V B w1 (sQ (ho.own 27 (.base (List.mem_append_left _ (List.mem_singleton.2 rfl))) _ _ rfl)) (hs.below bw) s4 (Nat.div_mul_le_self _ _) (by omega)).mono ?_⟩)
  rintro e w5 ⟨v5,rfl,Dk,fY⟩
  refine ⟨v5,rfl,fY,Dk.new,fun _ _ _ hv5=>wV rfl ?_,fun c5 sp5 _ _ _ hv5 hok5 hl5 hc5 Ew=>wV rfl ?_⟩
  ·have Ie:halves (V - V / B * B)=[]:=by
    subst hv5
    obtain ⟨e1,⟨_,e2⟩ | ⟨_,_,_,e2,_⟩⟩:=Dk
    ·exact List.eq_nil_of_length_eq_zero e2
    ·cases e2
   (repeat first|refine wN ?_|refine wP rfl ?_|refine aa rfl ?_|refine ab rfl ?_|refine wO rfl rfl ?_)
   refine VS.back j (by omega) ⟨_,_,?_,?_,?_,?_,⟨j,V - V / B * B,(V / B)::qs,.val (.slice none 0 0),[],by omega,rfl,rfl,rfl,.inl ⟨Ie,rfl,rfl⟩,by simp;omega,dH.cons s4 hqh,s3,s1⟩⟩
   ·exact ⟨rfl,rfl,rfl,rfl,congrArg (fun z=>some (AV.val (.int .i64 z))) vA,trivial⟩
   ·exact ⟨rfl,trivial⟩
   ·rfl
   ·exact ⟨.none (bq _),trivial⟩
  ·have qO:(halves (V - V / B * B)).length + sp5.length=c5:=by simpa using Ew
   (repeat first|refine wN ?_|refine wP rfl ?_|refine aa rfl ?_|refine ab rfl ?_|refine wO rfl rfl ?_)
   refine VS.back j (by omega) ⟨_,_,?_,?_,?_,?_,⟨j,V - V / B * B,(V / B)::qs,.row 41 0 _ c5,_,by omega,rfl,rfl,rfl,.inr ⟨c5,sp5.map .val,rfl,rfl,hl5,hc5,by simpa using qO,aZ hok5,ao _⟩,by simp;omega,dH.cons s4 hqh,s3,s1⟩⟩
   ·exact ⟨rfl,rfl,rfl,rfl,congrArg (fun z=>some (AV.val (.int .i64 z))) vA,trivial⟩
   ·exact ⟨rfl,congrArg (fun l=>some (_,l)) (List.map_append),trivial⟩
   ·rfl
   ·exact ⟨.none (bq _),.append (.none (bq _)) (.none (ao _)),trivial⟩
end Go.Proofs.YtabalinjfgcfeaaGreat
set_option maxRecDepth 4000
namespace Go.Proofs.YtabalinjfgcfeaaGreat
open Go.RowKit
attribute [local irreducible] aA VS
theorem bS.jL {w w':World} {v:Value} {X:Int} {j:Nat} (h:bS w v X j) (k:aF KI w w'):bS w' v X j:=h.kp (U:=UU) k.wU
theorem bQ.jL {w w':World} {v:Value} {X:Int} (h:bQ w v X) (k:aF KI w w'):bQ w' v X:=h.kp (U:=UU) k.wU
theorem aE.jL {w w':World} {B:Nat} {v:Value} {X:Int} (h:aE w B v X) (k:aF KI w w'):aE w' B v X:=h.kp k.wU
theorem Rd.jL {w w':World} {v:Value} {n:Nat} {xs:List Nat} (h:Rd w 1 v n (ints .u32 xs)) (k:aF KI w w'):Rd w' 1 v n (ints .u32 xs):=h.kp (U:=UU) k.wU
theorem OwnU.jL {w w':World} {B n:Nat} {v:Value} {cs:List Value} (h:w.ownsRow B UU 1 v n cs) (k:aF KI w w'):w'.ownsRow B UU 1 v n cs:=Own.kp h k.wU
theorem kX (a:Nat):(halves a).length≤2 * (limbs a).length:=by
 have:=cV (az a)
 rwa [au] at this
theorem kY (va:Value) (n a:Nat) (w:World) (hr:Rd w 1 va n (ints .u32 (limbs a))) (hn:n≤1073741824):
  Calls Tryz.prog 101 #[va] w fun e w'=>∃ p c,e=.returned (.slice p (halves a).length c)∧w'.ownsRow w.heap.size 3 1 (.slice p (halves a).length c) (halves a).length (ints .i64 (halves a))∧aj w w':=
 (AO va n _ w hr (az a) hn).mono fun e w' ⟨v',he,ho,hb⟩=>by
  rw [au] at ho
  obtain ⟨p,c,rfl,_⟩:=Own.form ho
  exact ⟨p,c,he,ho,hb⟩
theorem qP (va:Value) (n a:Nat) (w:World) (hr:Rd w 1 va n (ints .i64 (halves a))) (hn:n≤2147483646):
  Calls Tryz.prog 99 #[va] w fun e w'=>∃ p c xs,e=.returned (.slice p ((n + 1) / 2) c)∧w'.ownsRow w.heap.size UU 1 (.slice p ((n + 1) / 2) c) ((n + 1) / 2) (ints .u32 xs)∧aq xs=a∧cd xs∧aj w w':=
 (Dg va n _ w hr (bD a) (by omega)).mono fun e w' ⟨v',xs,he,hl,ho,hv,hx,hb⟩=>by
  obtain ⟨p,c,rfl,_⟩:=Own.form ho
  exact ⟨p,c,xs,he,ho,by rw [hv,bb],hx,hb⟩
theorem xD (va vb:Value) (n m A B:Nat) (w:World) (hr:Rd w 1 va n (ints .i64 (halves A))) (hs:Rd w 1 vb m (ints .i64 (halves B))) (hB:0 < B) (hn:n≤1073741824) (hm:m≤1073741824):
  Calls Tryz.prog 119 #[va,vb] w fun e w'=>∃ p c q d,e=.returned (.tuple #[.slice p (halves (A / B)).length c,.slice q (halves (A % B)).length d])∧w'.ownsRow w.heap.size 3 1 (.slice p (halves (A / B)).length c) (halves (A / B)).length (ints .i64 (halves (A / B)))∧w'.ownsRow w.heap.size 3 1 (.slice q (halves (A % B)).length d) (halves (A % B)).length (ints .i64 (halves (A % B)))∧aj w w':=
 (Dj va vb n m A B w hr hs hB hn hm).mono fun e w' ⟨v,u,he,h1,h2,hb⟩=>by
  obtain ⟨p,c,rfl⟩:=h1.form
  obtain ⟨q,d,rfl⟩:=h2.form
  exact ⟨p,c,q,d,he,h1.own,h2.own,hb⟩
theorem GZ {s:Bool} {n:Nat} (h:n≠0):(if s=true then -(n:Int) else n).sign=if s=true then -1 else 1:=by
 cases s
 ·exact eZ (by simp;omega)
 ·exact sign_neg (by simp;omega)
theorem div_len {a b:Nat}:(halves (a / b)).length≤(halves a).length:=cZ (by omega) (Nat.div_le_self _ _)
theorem mod_len {a b:Nat}:(halves (a % b)).length≤(halves a).length:=cZ (by omega) (Nat.mod_le _ _)
theorem Ha {xs:List Nat} {a:Nat} {s:Bool} (hl:cd xs) (hv:aq xs=a):Sz (if s=true then -((aq xs:Nat):Int) else aq xs) xs.length:=by
 unfold Sz
 have:(if s=true then -((aq xs:Nat):Int) else aq xs).natAbs=aq xs:=by cases s <;> simp
 rw [this]
 exact ib hl
set_option maxHeartbeats 2000000 in
theorem kZ (v u:Value) (X Y:Int) (j k:Nat) (w:World) (hv:bS w v X j) (hu:bS w u Y k) (hj:j≤134217728) (hk:k≤134217728):
  Calls Tryz.prog 95 #[v,u] w fun e w'=>xt w w' X Y e∧aj w w':=by
 obtain ⟨s,p,n,c,rfl⟩:=hv.form
 obtain ⟨t,q,m,d,rfl⟩:=hu.form
 have sP:=hv.len
 have oc:=hu.len
 refine aw (C:=GN Tryz.prog w _) (args:=[_,_]) Tryz.func95 rfl Tryz.ntmps95 (Nat.le_of_ble_eq_true rfl) ?_
 (repeat first|refine wN ?_|refine wP rfl ?_|refine bH rfl ?_|refine bU rfl ?_|refine wO rfl rfl ?_)
 refine VO.call rfl rfl (fk Tryz.func96) (fun cB eu dt=>(kQ _ X j cB (hv.jL eu)).mono ?_)
 rintro e w1 ⟨r1,rfl,h1,aU⟩
 obtain ⟨s1,p1,n1,c1,rfl⟩:=h1.ij
 refine ⟨_,rfl,aU,fun fq _ bb1=>wV rfl ?_⟩
 (repeat first|refine wN ?_|refine wP rfl ?_|refine bH rfl ?_|refine bU rfl ?_|refine wO rfl rfl ?_)
 refine VO.call rfl rfl (fk Tryz.func96) (fun dR gS eW=>(kQ _ Y k dR (hu.jL (fq.aI gS))).mono ?_)
 rintro e w2 ⟨r2,rfl,h2,bn⟩
 obtain ⟨s2,p2,n2,c2,rfl⟩:=h2.ij
 refine ⟨_,rfl,bn,fun gw _ bb2=>wV rfl ?_⟩
 (repeat first|refine wN ?_|refine wP rfl ?_|refine bH rfl ?_|refine bU rfl ?_|refine wO rfl rfl ?_)
 have e1:=rV h1.sgn
 have e2:=rV h2.sgn
 have l1:=kX X.natAbs
 have l2:=kX Y.natAbs
 by_cases hY:Y=0
 ·have lU:n2=0:=by rw [h2.n,hY];exact congrArg List.length bB
  refine VS.bG rfl (by rw [beq_iff_eq];omega) ?_
  (repeat first|refine wN ?_|refine wP rfl ?_|refine bH rfl ?_|refine bU rfl ?_|refine wO rfl rfl ?_)
  refine VS.ret (gm _ _) rfl rfl (fun wz kz bz=> ?_)
  exact ⟨.inl ⟨hY,_,_,rfl,aE.zero _ _,aE.zero _ _⟩,bz⟩
 ·have hY0:Y.natAbs≠0:=by omega
  have lU:n2≠0:=by rw [h2.n];intro e;exact hY0 (od e)
  refine VS.bK rfl (by rw [beq_eq_false_iff_ne];omega) ?_
  (repeat first|refine wN ?_|refine wP rfl ?_|refine bH rfl ?_|refine bU rfl ?_|refine wO rfl rfl ?_)
  refine VO.call rfl rfl (fk Tryz.func101) (fun gY iD jd=>(kY _ n1 X.natAbs gY (h1.row.jL (gS.aI ((aF.of bn).aI iD))) (by rw [h1.n];omega)).mono ?_)
  rintro e w3 ⟨p3,c3,rfl,h3,cI⟩
  skip
  refine ⟨_,rfl,cI,fun kS _ bb3=>wV rfl ?_⟩
  (repeat first|refine wN ?_|refine wP rfl ?_|refine bH rfl ?_|refine bU rfl ?_|refine wO rfl rfl ?_)
  refine VO.call rfl rfl (fk Tryz.func101) (fun mW pV nI=>(kY _ n2 Y.natAbs mW (h2.row.jL (iD.aI ((aF.of cI).aI pV))) (by rw [h2.n];omega)).mono ?_)
  rintro e w4 ⟨p4,c4,rfl,h4,gI⟩
  skip
  refine ⟨_,rfl,gI,fun oL _ AM=>wV rfl ?_⟩
  (repeat first|refine wN ?_|refine wP rfl ?_|refine bH rfl ?_|refine bU rfl ?_|refine wO rfl rfl ?_)
  refine VO.call rfl rfl (fk Tryz.func119) (fun jK mD jy=>(xD _ _ _ _ X.natAbs Y.natAbs jK (Rd.own (yG.kp h3 (pV.aI ((aF.of gI).aI mD)))) (Rd.own (yG.kp h4 mD)) (by omega) (by omega) (by omega)).mono ?_)
  rintro e w5 ⟨p5,c5,q5,d5,rfl,h5,h5',fY⟩
  skip
  refine ⟨_,rfl,fY,fun mX _ vQ=>wV rfl ?_⟩
  (repeat first|refine wN ?_|refine wP rfl ?_|refine bH rfl ?_|refine bU rfl ?_|refine wO rfl rfl ?_)
  have l5:(halves (X.natAbs / Y.natAbs)).length≤(halves X.natAbs).length:=div_len
  have l5':(halves (X.natAbs % Y.natAbs)).length≤(halves X.natAbs).length:=mod_len
  refine VO.call rfl rfl (fk Tryz.func99) (fun pW uC uZ=>(qP _ _ (X.natAbs / Y.natAbs) pW (Rd.own (yG.kp h5 uC)) (by omega)).mono ?_)
  rintro e w6 ⟨p6,c6,xs6,rfl,h6,hx6,hl6,ny⟩
  skip
  refine ⟨_,rfl,ny,fun tD _ Dl=>wV rfl ?_⟩
  (repeat first|refine wN ?_|refine wP rfl ?_|refine bH rfl ?_|refine bU rfl ?_|refine wO rfl rfl ?_)
  refine VO.call rfl rfl (fk Tryz.func92) (fun yH Em xE=>(jo (!(s1 == s2)) _ _ xs6 yH (Rd.own (OwnU.jL h6 Em)) hl6 (by omega)).mono ?_)
  rintro e w7 ⟨r7,rfl,h7,uX⟩
  obtain ⟨s7,p7,n7,c7,rfl⟩:=h7.form
  refine ⟨_,rfl,uX,fun zK _ bb7=>wV rfl ?_⟩
  (repeat first|refine wN ?_|refine wP rfl ?_|refine bH rfl ?_|refine bU rfl ?_|refine wO rfl rfl ?_)
  refine VO.call rfl rfl (fk Tryz.func99) (fun vc Fu yI=>(qP _ _ (X.natAbs % Y.natAbs) vc (Rd.own (yG.kp h5' (uC.aI ((aF.of ny).aI (Em.aI ((aF.of uX).aI Fu)))))) (by omega)).mono ?_)
  rintro e w8 ⟨p8,c8,xs8,rfl,h8,hx8,hl8,re⟩
  skip
  refine ⟨_,rfl,re,fun vT _ JZ=>wV rfl ?_⟩
  (repeat first|refine wN ?_|refine wP rfl ?_|refine bH rfl ?_|refine bU rfl ?_|refine wO rfl rfl ?_)
  refine VO.call rfl rfl (fk Tryz.func92) (fun wa9 ka9 ba9=>(jo s1 _ _ xs8 wa9 (Rd.own (OwnU.jL h8 ka9)) hl8 (by omega)).mono ?_)
  rintro e w9 ⟨r9,rfl,h9,Gv⟩
  obtain ⟨s9,p9,n9,c9,rfl⟩:=h9.form
  refine ⟨_,rfl,Gv,fun Bz _ bb9=>wV rfl ?_⟩
  (repeat first|refine wN ?_|refine wP rfl ?_|refine bH rfl ?_|refine bU rfl ?_|refine wO rfl rfl ?_)
  have z7:Sz (if (!(s1 == s2))=true then -((aq xs6:Nat):Int) else aq xs6) xs6.length:=Ha hl6 hx6
  have z9:Sz (if s1=true then -((aq xs8:Nat):Int) else aq xs8) xs8.length:=Ha hl8 hx8
  have lx6:xs6.length≤268435457:=by have:=h6.1;simp at this;omega
  have lx8:xs8.length≤268435457:=by have:=h8.1;simp at this;omega
  rw [hx6] at h7 z7
  rw [hx8] at h9 z9
  have law:=@pA X Y X.natAbs Y.natAbs
  by_cases wx:X.natAbs % Y.natAbs=0
  ·have s0:(if s1=true then -((X.natAbs % Y.natAbs:Nat):Int) else ((X.natAbs % Y.natAbs:Nat):Int))=0:=by rw [wx];cases s1 <;> rfl
   rw [s0] at h9 z9
   refine VO.call rfl rfl (fk Tryz.func89) (fun tG xF Dm=>(cR _ 0 _ tG ((h9.jL xF).in z9) (by omega)).mono ?_)
   rintro e w10 ⟨rfl,tH⟩
   skip
   refine ⟨_,rfl,tH,fun iG _ Jg=>wV rfl ?_⟩
   (repeat (first | refine wN ?_ | refine wP rfl ?_ | refine bH rfl ?_ | refine wO rfl rfl ?_))
   refine VS.CN (gm _ _) (jR _ _) 5 rfl ?_
   (repeat' (first | refine VA.go rfl ?_ | refine VA.fin rfl ?_ | refine VA.ee _ rfl rfl ?_ | refine VA.cons rfl ?_ ?_ | exact VA.nil rfl))
   all_goals
    (repeat first|refine wN ?_|refine wP rfl ?_|refine bH rfl ?_|refine bU rfl ?_|refine wO rfl rfl ?_)
    refine VS.ret (gm _ _) rfl rfl (fun wz kz bz=> ?_)
    obtain ⟨g1,g2⟩:=law e1 e2 hY0 (.inl ⟨.inr wx,rfl,rfl⟩)
    refine ⟨.inr ⟨hY,_,_,rfl,aE.cast ((h7.jL (vT.aI (Bz.aI (iG.aI kz)))).mono xE.size) g1.symm,aE.cast ((h9.jL (iG.aI kz)).mono ba9.size) ?_⟩,bz⟩
    rw [g2,wx]
    cases s2 <;> rfl
  ·have sy:=GZ (s:=s2) hY0
   rw [←e2] at sy
   have sr:=GZ (s:=s1) wx
   rcases hs12:(s1,s2) with ⟨_ | _,_ | _⟩ <;> cases hs12
   ·replace sr:(if false=true then -((X.natAbs % Y.natAbs:Nat):Int) else ((X.natAbs % Y.natAbs:Nat):Int)).sign=1:=sr
    replace sy:Y.sign=1:=sy
    refine VO.call rfl rfl (fk Tryz.func89) (fun tG xF Dm=>(cR _ _ _ tG ((h9.jL xF).in z9) (by omega)).mono ?_)
    rintro e w10 ⟨rfl,tH⟩
    rw [sr]
    refine ⟨_,rfl,tH,fun iG _ Jg=>wV rfl ?_⟩
    (repeat first|refine wN ?_|refine wP rfl ?_|refine bH rfl ?_|refine bU rfl ?_|refine wO rfl rfl ?_)
    refine VO.call rfl rfl (fk Tryz.func89) (fun xG AP Fv=>(cR _ _ _ xG ((h9.jL (iG.aI AP)).in z9) (by omega)).mono ?_)
    rintro e w11 ⟨rfl,xH⟩
    rw [sr]
    refine ⟨_,rfl,xH,fun lH _ LN=>wV rfl ?_⟩
    (repeat first|refine wN ?_|refine wP rfl ?_|refine bH rfl ?_|refine bU rfl ?_|refine wO rfl rfl ?_)
    refine VO.call rfl rfl (fk Tryz.func89) (fun xI AQ Fw=>(cR _ Y k xI ((h2.jL (kS.aI (oL.aI (mX.aI (tD.aI (zK.aI (vT.aI (Bz.aI (iG.aI (lH.aI AQ)))))))))).to oc) (by omega)).mono ?_)
    rintro e w12 ⟨rfl,xJ⟩
    rw [sy]
    refine ⟨_,rfl,xJ,fun oN _ LO=>wV rfl ?_⟩
    (repeat (first | refine wN ?_ | refine wP rfl ?_ | refine bH rfl ?_ | refine wO rfl rfl ?_))
    refine VS.CN (gm _ _) (jR _ _) 5 rfl ?_
    (repeat' (first | refine VA.go rfl ?_ | refine VA.fin rfl ?_ | refine VA.ee _ rfl rfl ?_ | refine VA.cons rfl ?_ ?_ | exact VA.nil rfl))
    all_goals
     (repeat first|refine wN ?_|refine wP rfl ?_|refine bH rfl ?_|refine bU rfl ?_|refine wO rfl rfl ?_)
     refine VS.ret (gm _ _) rfl rfl (fun wz kz bz=> ?_)
     obtain ⟨g1,g2⟩:=law e1 e2 hY0 (.inl ⟨.inl rfl,rfl,rfl⟩)
     exact ⟨.inr ⟨hY,_,_,rfl,aE.cast ((h7.jL (vT.aI (Bz.aI (iG.aI (lH.aI (oN.aI kz)))))).mono xE.size) g1.symm,aE.cast ((h9.jL (iG.aI (lH.aI (oN.aI kz)))).mono ba9.size) g2.symm⟩,bz⟩
   ·replace sr:(if false=true then -((X.natAbs % Y.natAbs:Nat):Int) else ((X.natAbs % Y.natAbs:Nat):Int)).sign=1:=sr
    replace sy:Y.sign= -1:=sy
    refine VO.call rfl rfl (fk Tryz.func89) (fun tG xF Dm=>(cR _ _ _ tG ((h9.jL xF).in z9) (by omega)).mono ?_)
    rintro e w10 ⟨rfl,tH⟩
    rw [sr]
    refine ⟨_,rfl,tH,fun iG _ Jg=>wV rfl ?_⟩
    (repeat first|refine wN ?_|refine wP rfl ?_|refine bH rfl ?_|refine bU rfl ?_|refine wO rfl rfl ?_)
    refine VO.call rfl rfl (fk Tryz.func89) (fun xG AP Fv=>(cR _ _ _ xG ((h9.jL (iG.aI AP)).in z9) (by omega)).mono ?_)
    rintro e w11 ⟨rfl,xH⟩
    rw [sr]
    refine ⟨_,rfl,xH,fun lH _ LN=>wV rfl ?_⟩
    (repeat first|refine wN ?_|refine wP rfl ?_|refine bH rfl ?_|refine bU rfl ?_|refine wO rfl rfl ?_)
    refine VO.call rfl rfl (fk Tryz.func89) (fun xI AQ Fw=>(cR _ Y k xI ((h2.jL (kS.aI (oL.aI (mX.aI (tD.aI (zK.aI (vT.aI (Bz.aI (iG.aI (lH.aI AQ)))))))))).to oc) (by omega)).mono ?_)
    rintro e w12 ⟨rfl,xJ⟩
    rw [sy]
    refine ⟨_,rfl,xJ,fun oN _ LO=>wV rfl ?_⟩
    (repeat first|refine wN ?_|refine wP rfl ?_|refine bH rfl ?_|refine bU rfl ?_|refine wO rfl rfl ?_)
    refine VO.call rfl rfl (fk Tryz.func59) (fun LP ka13 ba13=>(pC 1 LP (by omega) (by omega)).mono ?_)
    rintro e oO ⟨r13,rfl,h13,LQ⟩
    obtain ⟨s13,p13,n13,c13,rfl⟩:=h13.form
    refine ⟨_,rfl,LQ,fun yJ _ bb13=>wV rfl ?_⟩
    (repeat first|refine wN ?_|refine wP rfl ?_|refine bH rfl ?_|refine bU rfl ?_|refine wO rfl rfl ?_)
    refine VO.call rfl rfl (fk Tryz.func120) (fun LR Jh Ji=>(Df _ _ _ 1 _ 1 LR (((h7.jL (vT.aI (Bz.aI (iG.aI (lH.aI (oN.aI (yJ.aI Jh))))))).in z7)) ((h13.jL Jh).in (Sz.small (by decide))) (by omega) (by omega)).mono ?_)
    rintro e Fx ⟨r14,rfl,h14,LS⟩
    obtain ⟨s14,p14,n14,c14,rfl⟩:=h14.form
    refine ⟨_,rfl,LS,fun Jj _ bb14=>wV rfl ?_⟩
    (repeat first|refine wN ?_|refine wP rfl ?_|refine bH rfl ?_|refine bU rfl ?_|refine wO rfl rfl ?_)
    refine VO.call rfl rfl (fk Tryz.func62) (fun LU Jk ba15=>(xz _ _ _ Y _ k LU ((h9.jL (iG.aI (lH.aI (oN.aI (yJ.aI (Jj.aI Jk)))))).in z9) ((h2.jL (kS.aI (oL.aI (mX.aI (tD.aI (zK.aI (vT.aI (Bz.aI (iG.aI (lH.aI (oN.aI (yJ.aI (Jj.aI Jk))))))))))))).to oc) (by omega) (by omega)).mono ?_)
    rintro e w15 ⟨r15,rfl,h15,LV⟩
    obtain ⟨s15,p15,n15,c15,rfl⟩:=h15.form
    refine ⟨_,rfl,LV,fun kb15 _ bb15=>wV rfl ?_⟩
    (repeat (first | refine wN ?_ | refine wP rfl ?_ | refine bH rfl ?_ | refine wO rfl rfl ?_))
    refine VS.CN (gm _ _) (jR _ _) 5 rfl ?_
    (repeat' (first | refine VA.go rfl ?_ | refine VA.fin rfl ?_ | refine VA.ee _ rfl rfl ?_ | refine VA.cons rfl ?_ ?_ | exact VA.nil rfl))
    all_goals
     (repeat first|refine wN ?_|refine wP rfl ?_|refine bH rfl ?_|refine bU rfl ?_|refine wO rfl rfl ?_)
     refine VS.ret (gm _ _) rfl rfl (fun wz kz bz=> ?_)
     have hlt:=Nat.mod_lt X.natAbs (show 0 < Y.natAbs by omega)
     obtain ⟨g1,g2⟩:=law e1 e2 hY0 (.inr ⟨by simp,wx,rfl,rfl⟩)
     refine ⟨.inr ⟨hY,_,_,rfl,aE.cast ((h14.jL (kb15.aI kz)).mono Ji.size) ?_,aE.cast ((h15.jL kz).mono ba15.size) ?_⟩,bz⟩
     ·rw [g1];simp;omega
     ·rw [g2];simp at e1 e2 ⊢;omega
   ·replace sr:(if true=true then -((X.natAbs % Y.natAbs:Nat):Int) else ((X.natAbs % Y.natAbs:Nat):Int)).sign= -1:=sr
    replace sy:Y.sign=1:=sy
    refine VO.call rfl rfl (fk Tryz.func89) (fun tG xF Dm=>(cR _ _ _ tG ((h9.jL xF).in z9) (by omega)).mono ?_)
    rintro e w10 ⟨rfl,tH⟩
    rw [sr]
    refine ⟨_,rfl,tH,fun iG _ Jg=>wV rfl ?_⟩
    (repeat first|refine wN ?_|refine wP rfl ?_|refine bH rfl ?_|refine bU rfl ?_|refine wO rfl rfl ?_)
    refine VO.call rfl rfl (fk Tryz.func89) (fun xG AP Fv=>(cR _ _ _ xG ((h9.jL (iG.aI AP)).in z9) (by omega)).mono ?_)
    rintro e w11 ⟨rfl,xH⟩
    rw [sr]
    refine ⟨_,rfl,xH,fun lH _ LN=>wV rfl ?_⟩
    (repeat first|refine wN ?_|refine wP rfl ?_|refine bH rfl ?_|refine bU rfl ?_|refine wO rfl rfl ?_)
    refine VO.call rfl rfl (fk Tryz.func89) (fun xI AQ Fw=>(cR _ Y k xI ((h2.jL (kS.aI (oL.aI (mX.aI (tD.aI (zK.aI (vT.aI (Bz.aI (iG.aI (lH.aI AQ)))))))))).to oc) (by omega)).mono ?_)
    rintro e w12 ⟨rfl,xJ⟩
    rw [sy]
    refine ⟨_,rfl,xJ,fun oN _ LO=>wV rfl ?_⟩
    (repeat first|refine wN ?_|refine wP rfl ?_|refine bH rfl ?_|refine bU rfl ?_|refine wO rfl rfl ?_)
    refine VO.call rfl rfl (fk Tryz.func59) (fun LP ka13 ba13=>(pC 1 LP (by omega) (by omega)).mono ?_)
    rintro e oO ⟨r13,rfl,h13,LQ⟩
    obtain ⟨s13,p13,n13,c13,rfl⟩:=h13.form
    refine ⟨_,rfl,LQ,fun yJ _ bb13=>wV rfl ?_⟩
    (repeat first|refine wN ?_|refine wP rfl ?_|refine bH rfl ?_|refine bU rfl ?_|refine wO rfl rfl ?_)
    refine VO.call rfl rfl (fk Tryz.func120) (fun LR Jh Ji=>(Df _ _ _ 1 _ 1 LR (((h7.jL (vT.aI (Bz.aI (iG.aI (lH.aI (oN.aI (yJ.aI Jh))))))).in z7)) ((h13.jL Jh).in (Sz.small (by decide))) (by omega) (by omega)).mono ?_)
    rintro e Fx ⟨r14,rfl,h14,LS⟩
    obtain ⟨s14,p14,n14,c14,rfl⟩:=h14.form
    refine ⟨_,rfl,LS,fun Jj _ bb14=>wV rfl ?_⟩
    (repeat first|refine wN ?_|refine wP rfl ?_|refine bH rfl ?_|refine bU rfl ?_|refine wO rfl rfl ?_)
    refine VO.call rfl rfl (fk Tryz.func62) (fun LU Jk ba15=>(xz _ _ _ Y _ k LU ((h9.jL (iG.aI (lH.aI (oN.aI (yJ.aI (Jj.aI Jk)))))).in z9) ((h2.jL (kS.aI (oL.aI (mX.aI (tD.aI (zK.aI (vT.aI (Bz.aI (iG.aI (lH.aI (oN.aI (yJ.aI (Jj.aI Jk))))))))))))).to oc) (by omega) (by omega)).mono ?_)
    rintro e w15 ⟨r15,rfl,h15,LV⟩
    obtain ⟨s15,p15,n15,c15,rfl⟩:=h15.form
    refine ⟨_,rfl,LV,fun kb15 _ bb15=>wV rfl ?_⟩
    (repeat (first | refine wN ?_ | refine wP rfl ?_ | refine bH rfl ?_ | refine wO rfl rfl ?_))
    refine VS.CN (gm _ _) (jR _ _) 5 rfl ?_
    (repeat' (first | refine VA.go rfl ?_ | refine VA.fin rfl ?_ | refine VA.ee _ rfl rfl ?_ | refine VA.cons rfl ?_ ?_ | exact VA.nil rfl))
    all_goals
     (repeat first|refine wN ?_|refine wP rfl ?_|refine bH rfl ?_|refine bU rfl ?_|refine wO rfl rfl ?_)
     refine VS.ret (gm _ _) rfl rfl (fun wz kz bz=> ?_)
     have hlt:=Nat.mod_lt X.natAbs (show 0 < Y.natAbs by omega)
     obtain ⟨g1,g2⟩:=law e1 e2 hY0 (.inr ⟨by simp,wx,rfl,rfl⟩)
     refine ⟨.inr ⟨hY,_,_,rfl,aE.cast ((h14.jL (kb15.aI kz)).mono Ji.size) ?_,aE.cast ((h15.jL kz).mono ba15.size) ?_⟩,bz⟩
     ·rw [g1];simp;omega
     ·rw [g2];simp at e1 e2 ⊢;omega
   ·replace sr:(if true=true then -((X.natAbs % Y.natAbs:Nat):Int) else ((X.natAbs % Y.natAbs:Nat):Int)).sign= -1:=sr
    replace sy:Y.sign= -1:=sy
    refine VO.call rfl rfl (fk Tryz.func89) (fun tG xF Dm=>(cR _ _ _ tG ((h9.jL xF).in z9) (by omega)).mono ?_)
    rintro e w10 ⟨rfl,tH⟩
    rw [sr]
    refine ⟨_,rfl,tH,fun iG _ Jg=>wV rfl ?_⟩
    (repeat first|refine wN ?_|refine wP rfl ?_|refine bH rfl ?_|refine bU rfl ?_|refine wO rfl rfl ?_)
    refine VO.call rfl rfl (fk Tryz.func89) (fun xG AP Fv=>(cR _ _ _ xG ((h9.jL (iG.aI AP)).in z9) (by omega)).mono ?_)
    rintro e w11 ⟨rfl,xH⟩
    rw [sr]
    refine ⟨_,rfl,xH,fun lH _ LN=>wV rfl ?_⟩
    (repeat first|refine wN ?_|refine wP rfl ?_|refine bH rfl ?_|refine bU rfl ?_|refine wO rfl rfl ?_)
    refine VO.call rfl rfl (fk Tryz.func89) (fun xI AQ Fw=>(cR _ Y k xI ((h2.jL (kS.aI (oL.aI (mX.aI (tD.aI (zK.aI (vT.aI (Bz.aI (iG.aI (lH.aI AQ)))))))))).to oc) (by omega)).mono ?_)
    rintro e w12 ⟨rfl,xJ⟩
    rw [sy]
    refine ⟨_,rfl,xJ,fun oN _ LO=>wV rfl ?_⟩
    (repeat (first | refine wN ?_ | refine wP rfl ?_ | refine bH rfl ?_ | refine wO rfl rfl ?_))
    refine VS.CN (gm _ _) (jR _ _) 5 rfl ?_
    (repeat' (first | refine VA.go rfl ?_ | refine VA.fin rfl ?_ | refine VA.ee _ rfl rfl ?_ | refine VA.cons rfl ?_ ?_ | exact VA.nil rfl))
    all_goals
     (repeat first|refine wN ?_|refine wP rfl ?_|refine bH rfl ?_|refine bU rfl ?_|refine wO rfl rfl ?_)
     refine VS.ret (gm _ _) rfl rfl (fun wz kz bz=> ?_)
     obtain ⟨g1,g2⟩:=law e1 e2 hY0 (.inl ⟨.inl rfl,rfl,rfl⟩)
     exact ⟨.inr ⟨hY,_,_,rfl,aE.cast ((h7.jL (vT.aI (Bz.aI (iG.aI (lH.aI (oN.aI kz)))))).mono xE.size) g1.symm,aE.cast ((h9.jL (iG.aI (lH.aI (oN.aI kz)))).mono ba9.size) g2.symm⟩,bz⟩
end Go.Proofs.YtabalinjfgcfeaaGreat
set_option maxRecDepth 4000
namespace Go.Proofs.YtabalinjfgcfeaaGreat
open Go.RowKit
attribute [local irreducible] aA VS
theorem gcd_len {a b N:Nat} (hb:b≠0) (ha:(halves a).length≤N) (hbl:(halves b).length≤N):(halves (a % b)).length≤N:=Nat.le_trans (cZ (by omega) (Nat.le_of_lt (Nat.mod_lt a (Nat.pos_of_ne_zero hb)))) hbl
set_option maxHeartbeats 1000000 in
theorem Dn (v u:Value) (X Y:Int) (j k:Nat) (w:World) (hv:bS w v X j) (hu:bS w u Y k) (hj:j≤268435456) (hk:k≤268435456):
  Calls Tryz.prog 94 #[v,u] w fun e w'=>∃ r,e=.returned r∧aE w' w.heap.size r (Int.gcd X Y:Int)∧aj w w':=by
 obtain ⟨s,p,n,c,rfl⟩:=hv.form
 obtain ⟨t,q,m,d,rfl⟩:=hu.form
 have sP:=hv.len
 have oc:=hu.len
 have l1:=kX X.natAbs
 have l2:=kX Y.natAbs
 refine aw (C:=GN Tryz.prog w _) (args:=[_,_]) Tryz.func94 rfl Tryz.ntmps94 (Nat.le_of_ble_eq_true rfl) ?_
 (repeat first|refine wN ?_|refine wP rfl ?_|refine bH rfl ?_|refine bU rfl ?_|refine wO rfl rfl ?_)
 refine VO.call rfl rfl (fk Tryz.func96) (fun cB eu dt=>(kQ _ X j cB (hv.jL eu)).mono ?_)
 rintro e w1 ⟨r1,rfl,h1,aU⟩
 obtain ⟨s1,p1,n1,c1,rfl⟩:=h1.ij
 refine ⟨_,rfl,aU,fun fq _ bb1=>wV rfl ?_⟩
 (repeat first|refine wN ?_|refine wP rfl ?_|refine bH rfl ?_|refine bU rfl ?_|refine wO rfl rfl ?_)
 refine VO.call rfl rfl (fk Tryz.func101) (fun gY iD jd=>(kY _ n1 X.natAbs gY (h1.row.jL iD) (by rw [h1.n];omega)).mono ?_)
 rintro e w3 ⟨p3,c3,rfl,h3,cI⟩
 skip
 refine ⟨_,rfl,cI,fun kS _ bb3=>wV rfl ?_⟩
 (repeat first|refine wN ?_|refine wP rfl ?_|refine bH rfl ?_|refine bU rfl ?_|refine wO rfl rfl ?_)
 refine VO.call rfl rfl (fk Tryz.func96) (fun dR gS eW=>(kQ _ Y k dR (hu.jL (fq.aI (kS.aI gS)))).mono ?_)
 rintro e w2 ⟨r2,rfl,h2,bn⟩
 obtain ⟨s2,p2,n2,c2,rfl⟩:=h2.ij
 refine ⟨_,rfl,bn,fun gw _ bb2=>wV rfl ?_⟩
 (repeat first|refine wN ?_|refine wP rfl ?_|refine bH rfl ?_|refine bU rfl ?_|refine wO rfl rfl ?_)
 refine VO.call rfl rfl (fk Tryz.func101) (fun mW pV nI=>(kY _ n2 Y.natAbs mW (h2.row.jL pV) (by rw [h2.n];omega)).mono ?_)
 rintro e w4 ⟨p4,c4,rfl,h4,gI⟩
 skip
 refine ⟨_,rfl,gI,fun oL _ AM=>wV rfl ?_⟩
 (repeat first|refine wN ?_|refine wP rfl ?_|refine bH rfl ?_|refine bU rfl ?_|refine wO rfl rfl ?_)
 refine VS.loop (J:=fun ms L M w'=>∃ (a b:Nat) (px:Option Addr) (cx:Nat) (py:Option Addr) (cy:Nat),ms=b∧Nat.gcd a b=Int.gcd X Y∧L=[(4,.box 4 0),(5,.val (.slice px (halves a).length cx)),(6,.val (.slice py (halves b).length cy))]∧M=[(4,(53,([.bool false,.slice none 0 0]:List Value).map .val))]∧
  (halves a).length≤536870912∧(halves b).length≤536870912∧w'.ownsRow w.heap.size 3 1 (.slice px (halves a).length cx) (halves a).length (ints .i64 (halves a))∧w'.ownsRow w.heap.size 3 1 (.slice py (halves b).length cy) (halves b).length (ints .i64 (halves b))) Y.natAbs
  ⟨_,_,?_,?_,?_,?_,⟨X.natAbs,Y.natAbs,p3,c3,p4,c4,rfl,rfl,rfl,rfl,by omega,by omega,yG.kp (Own.mono h3 jd.size) (gw.aI oL),Own.mono h4 nI.size⟩⟩ ?_
 ·(repeat first|exact trivial|refine ⟨rfl,?_⟩)
 ·(repeat first|exact trivial|refine ⟨rfl,?_⟩)
 ·rfl
 ·(repeat first|exact trivial|refine ⟨ba.lit rfl,?_⟩|refine ⟨ba.vals _,?_⟩)
 rintro ms L M w' ⟨a,b,px,cx,py,cy,hms,hg,rfl,rfl,la,lb,oa,ob⟩
 (repeat first|refine wN ?_|refine wP rfl ?_|refine bH rfl ?_|refine bU rfl ?_|refine wO rfl rfl ?_)
 by_cases pd:b=0
 ·subst pd
  have zB:(halves 0).length=0:=by rw [kP];rfl
  refine VS.bK rfl (decide_eq_false (by rw [zB];omega)) ?_
  (repeat first|refine wN ?_|refine wP rfl ?_|refine bH rfl ?_|refine bU rfl ?_|refine wO rfl rfl ?_)
  refine VO.call rfl rfl (fk Tryz.func99) (fun pW uC uZ=>(qP _ _ a pW (Rd.own (yG.kp oa uC)) (by omega)).mono ?_)
  rintro e w6 ⟨p6,c6,xs6,rfl,h6,hx6,hl6,ny⟩
  skip
  refine ⟨_,rfl,ny,fun tD _ Dl=>wV rfl ?_⟩
  (repeat first|refine wN ?_|refine wP rfl ?_|refine bH rfl ?_|refine bU rfl ?_|refine wO rfl rfl ?_)
  refine VO.call rfl rfl (fk Tryz.func92) (fun yH Em xE=>(jo false _ _ xs6 yH (Rd.own (OwnU.jL h6 Em)) hl6 (by omega)).mono ?_)
  rintro e w7 ⟨r7,rfl,h7,uX⟩
  obtain ⟨s7,p7,n7,c7,rfl⟩:=h7.form
  refine ⟨_,rfl,uX,fun zK _ bb7=>wV rfl ?_⟩
  (repeat first|refine wN ?_|refine wP rfl ?_|refine bH rfl ?_|refine bU rfl ?_|refine wO rfl rfl ?_)
  refine VS.ret (gm _ _) rfl rfl (fun wz kz bz=> ?_)
  refine ⟨_,rfl,aE.cast ((h7.jL kz).mono xE.size) ?_,bz⟩
  rw [hx6,←hg,Nat.gcd_zero_right];rfl
 ·have hlp:0 < (halves b).length:=nv (by omega) pd
  refine VS.bG rfl (decide_eq_true (by omega)) ?_
  (repeat first|refine wN ?_|refine wP rfl ?_|refine bH rfl ?_|refine bU rfl ?_|refine wO rfl rfl ?_)
  refine VO.call rfl rfl (fk Tryz.func119) (fun jK mD jy=>(xD _ _ _ _ a b jK (Rd.own (yG.kp oa mD)) (Rd.own (yG.kp ob mD)) (by omega) (by omega) (by omega)).mono ?_)
  rintro e w5 ⟨p5,c5,q5,d5,rfl,h5,h5',fY⟩
  skip
  refine ⟨_,rfl,fY,fun mX _ vQ=>wV rfl ?_⟩
  (repeat first|refine wN ?_|refine wP rfl ?_|refine bH rfl ?_|refine bU rfl ?_|refine wO rfl rfl ?_)
  refine VS.back (a % b) (by rw [hms];exact Nat.mod_lt _ (by omega)) ⟨_,_,?_,?_,?_,?_,⟨b,a % b,py,cy,q5,d5,rfl,by rw [←hg,Nat.gcd_comm a b,Nat.gcd_comm b (a % b)];exact (Nat.gcd_rec b a).symm,rfl,rfl,lb,gcd_len pd la lb,yG.kp ob mX,Own.mono h5' jy.size⟩⟩
  ·(repeat first|exact trivial|refine ⟨rfl,?_⟩)
  ·(repeat first|exact trivial|refine ⟨rfl,?_⟩)
  ·rfl
  ·(repeat first|exact trivial|refine ⟨ba.lit rfl,?_⟩|refine ⟨ba.vals _,?_⟩)
end Go.Proofs.YtabalinjfgcfeaaGreat
