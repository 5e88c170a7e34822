/- Be of the proof,laid behind one another. -/
import Derived.Test.YtabalinjfgcfeaaGreatKInterestConserves2
set_option linter.all false
namespace Go.Proofs.YtabalinjfgcfeaaGreat
open Go.RowKit
theorem ke (neg:Bool) (p:Option Addr) (n c:Nat) (w:World):
  Calls Tryz.prog 80 #[.bool neg,.slice p n c] w fun e w'=>e=.returned (.agg #[.bool (neg && decide (0 < n)),.slice p n c])∧aj w w':=by
 refine aO fun R' bA=> ?_
 go_enter Tryz.func80,Tryz.ntmps80
 cases neg
 ·go_wp2
  exact bodyPost_ret (v:=.agg #[.bool false,.slice p n c]) (by simp [results,Tryz.results80,go_sem]) rfl (bA.out _ _ ⟨rfl,(aj.refl w).alloc _⟩)
 ·go_wp2
  exact bodyPost_ret (v:=.agg #[.bool (decide (0 < n)),.slice p n c]) (by simp [results,Tryz.results80,go_sem]) rfl (bA.out _ _ ⟨rfl,(aj.refl w).alloc _⟩)
theorem fo (neg:Bool) (p:Option Addr) (n c:Nat) (w:World):
  Calls Tryz.prog 80 #[.bool neg,.slice p n c] w fun e w'=>∃ sg,e=.returned (.agg #[.bool sg,.slice p n c])∧Hid (sg=(neg && decide (0 < n)))∧aj w w':=
 (ke neg p n c w).mono fun _ _ ⟨h,hb⟩=>⟨_,h,Lib.hid rfl,hb⟩
theorem qB (neg:Bool) (xs:List Nat) (v:Value) (w:World) (h:eW w v neg xs):
  Calls Tryz.prog 102 #[v] w fun e w'=>e=.returned (.bool (dw neg xs))∧aj w w':=by
 obtain ⟨p,c,rfl,hr,hl⟩:=h
 obtain ⟨p',c',hv,eT,eV,-⟩:=hr.u32
 simp only [Value.slice.injEq,true_and] at hv
 obtain ⟨rfl,rfl⟩:=hv
 refine aO fun R' bA=> ?_
 by_cases hx:xs=[]
 ·subst hx
  simp only [List.length_nil,qh] at *
  go_enter Tryz.func102,Tryz.ntmps102
  cases neg
  ·go_wp2
   exact bA.out _ _ ⟨rfl,(aj.refl w).alloc _⟩
  ·go_wp2
   exact bA.out _ _ ⟨rfl,(aj.refl w).alloc _⟩
 ·obtain ⟨m,hm⟩:∃ m,xs.length=m + 1:=⟨xs.length - 1,by have:=List.length_pos_iff.2 hx;omega⟩
  generalize hn:xs.length=n at *
  obtain ⟨b,off,x,rfl,hb,hxm,hc⟩:=hr.cellAt (k:=m) (by omega)
  have h1:dw neg xs=decide (x≠0):=tX (by rw [hn,hm];exact hxm)
  rw [h1] at bA
  have hz:((n:Int) == 0)=false:=by rw [beq_eq_false_iff_ne];omega
  have hp:(0:Int) < (n:Int):=by omega
  have hw:IntKind.i64.wrap ((n:Int) - 1)=(m:Int):=by rw [IntWalk.i64_in _ (by omega)];omega
  have hlt:(m:Int) < (n:Int):=by omega
  have HN:=Lib.hid hn
  have hpn:0 < n:=by omega
  clear hx hm hn h1 hxm hr hl
  go_enter Tryz.func102,Tryz.ntmps102
  by_cases gL:x=0
  ·subst gL
   cases neg
   ·go_wp2
    exact bA.out _ _ ⟨rfl,(aj.refl w).alloc _⟩
   ·go_wp2
    exact bA.out _ _ ⟨rfl,(aj.refl w).alloc _⟩
  ·have JJ:((x:Int) != 0)=true:=by rw [bne_iff_ne];omega
   rw [decide_eq_true gL] at bA
   clear gL
   cases neg
   ·go_wp2
    exact bA.out _ _ ⟨rfl,(aj.refl w).alloc _⟩
   ·go_wp2
    exact bA.out _ _ ⟨rfl,(aj.refl w).alloc _⟩
theorem fW (v:Value) (X:Int) (k:Nat) (w0 w:World) (h:bP w0 v X k) (oO:aj w0 w):
  Calls Tryz.prog 79 #[v] w fun e w'=>∃ u,e=.returned u∧bO w0 u X∧aj w w':=by
 obtain ⟨neg,xs,hn,rfl,hk⟩:=h
 refine aO fun R' bA=> ?_
 have HN:=Lib.hid hn
 obtain ⟨p,c,rfl,hr,hl⟩:=hn
 clear hr
 go_enter Tryz.func79,Tryz.ntmps79
 go_wp2_with fail
 refine (qB neg xs _ _ ((HN.out.bj oO).bj (((aj.refl w).alloc _).alloc _))).mono ?_
 rintro e w1 ⟨rfl,aV⟩
 obtain ⟨b1,b2,lJ⟩:=ln w 24 137 #[.bool neg,.slice p xs.length c] #[.bool false,.slice none 0 0]
 obtain ⟨c1,c2,_,_⟩:=(b1.bj aV).two
 obtain ⟨c3,c4,f3,f4⟩:=(b2.bj aV).two
 have ya:aj w w1:=lJ.aJ aV
 cases pZ:dw neg xs
 ·have B2:=(b2.bj aV).bB (.bool false) (.slice none 0 0)
  have tW:=ya.bB (b:=w.heap.size + 1) (by omega) (.bool false) (.slice none 0 0)
  go_wp2
  generalize (w1.setCell ⟨w.heap.size + 1,0,none⟩ (.bool false)).setCell ⟨w.heap.size + 1,1,none⟩ (.slice none 0 0)=w2 at *
  obtain ⟨d1,d2,_,_⟩:=B2.two
  refine bodyPost_ret (v:=.agg #[.bool false,.slice none 0 0]) (by simp [results,Tryz.results79,go_sem,d1,d2]) rfl (bA.out _ _ ⟨_,rfl,?_,tW⟩)
  rw [numOf,if_neg (by simp [pZ])]
  exact bO.zero _
 ·have B2:=(b2.bj aV).bB (.bool neg) (.slice p xs.length c)
  have tW:=ya.bB (b:=w.heap.size + 1) (by omega) (.bool neg) (.slice p xs.length c)
  go_wp2
  generalize (w1.setCell ⟨w.heap.size + 1,0,none⟩ (.bool neg)).setCell ⟨w.heap.size + 1,1,none⟩ (.slice p xs.length c)=w2 at *
  obtain ⟨d1,d2,_,_⟩:=B2.two
  refine bodyPost_ret (v:=.agg #[.bool neg,.slice p xs.length c]) (by simp [results,Tryz.results79,go_sem,d1,d2]) rfl (bA.out _ _ ⟨_,rfl,?_,tW⟩)
  rw [numOf,if_pos pZ]
  obtain ⟨h1,h2⟩:=canon hl pZ
  have:=HN.out
  show eW _ _ _ _
  rw [←h1,←h2]
  exact this
end Go.Proofs.YtabalinjfgcfeaaGreat
namespace Go.Proofs.YtabalinjfgcfeaaGreat
open Go.RowKit
theorem bO.split {w:World} {v:Value} {X:Int} (h:bO w v X):∃ s p c,v=.agg #[.bool s,.slice p (limbs X.natAbs).length c]∧Rd w 1 (.slice p (limbs X.natAbs).length c) (limbs X.natAbs).length (ints .u32 (limbs X.natAbs))∧X=if s=true then -(X.natAbs:Int) else (X.natAbs:Int):=by
 obtain ⟨p,c,hv,hr,_⟩:=h
 refine ⟨_,p,c,hv,hr,?_⟩
 split
 ·rename_i h;have:=of_decide_eq_true h;omega
 ·rename_i h;have:¬ X < 0:=fun h'=>h (decide_eq_true h');omega
theorem wW (v:Value) (X:Int) (w:World) (h:bO w v X):
  Calls Tryz.prog 111 #[v] w fun e w'=>∃ u,e=.returned u∧bO w' u (-X)∧aj w w':=by
 obtain ⟨s,p,c,rfl,hr,hX⟩:=h.split
 obtain ⟨n,hn⟩:∃ n,n=(limbs X.natAbs).length:=⟨_,rfl⟩
 have HR:=Lib.hid hr
 have HN:=Lib.hid hn
 have HX:=Lib.hid hX
 rw [←hn]
 clear hr hn hX h
 refine aO fun R' bA=> ?_
 obtain ⟨b1,b2,lJ⟩:=ln w 137 137 #[.bool s,.slice p n c] #[.bool false,.slice none 0 0]
 go_enter Tryz.func111,Tryz.ntmps111
 go_wp2_with fail
 refine (ke _ _ _ _ _).mono ?_
 rintro e w1 ⟨rfl,aV⟩
 obtain ⟨c3,c4,f3,f4⟩:=(b2.bj aV).two
 have B2:=(b2.bj aV).bB (.bool (!s && decide (0 < n))) (.slice p n c)
 have tW:=(lJ.aJ aV).bB (b:=w.heap.size + 1) (by omega) (.bool (!s && decide (0 < n))) (.slice p n c)
 go_wp2
 generalize (w1.setCell ⟨w.heap.size + 1,0,none⟩ (.bool (!s && decide (0 < n)))).setCell ⟨w.heap.size + 1,1,none⟩ (.slice p n c)=w2 at *
 obtain ⟨d1,d2,_,_⟩:=B2.two
 refine bodyPost_ret (v:=.agg #[.bool (!s && decide (0 < n)),.slice p n c]) (by simp [results,Tryz.results111,go_sem,d1,d2]) rfl (bA.out _ _ ⟨_,rfl,?_,tW⟩)
 have jw:=HR.out.below tW
 rw [←HN.out] at jw
 refine bO.of (m:=X.natAbs) (by rw [←HN.out];exact jw) HN.out _ ?_
 rw [HX.out]
 cases s <;> simp
set_option maxHeartbeats 1000000 in
theorem CA (v u:Value) (X Y:Int) (w:World) (hv:bO w v X) (hu:bO w u Y) (hx:(limbs X.natAbs).length≤1073741824) (hy:(limbs Y.natAbs).length≤1073741824):
  Calls Tryz.prog 110 #[v,u] w fun e w'=>∃ r,e=.returned r∧aC w' w.heap.size r (X + Y)∧aj w w':=by
 obtain ⟨s,p,c,rfl,iD,hX⟩:=hv.split
 obtain ⟨t,q,d,rfl,jw,hY⟩:=hu.split
 obtain ⟨n,hn⟩:∃ n,n=(limbs X.natAbs).length:=⟨_,rfl⟩
 obtain ⟨m,hm⟩:∃ m,m=(limbs Y.natAbs).length:=⟨_,rfl⟩
 rw [←hn] at iD hx ⊢
 rw [←hm] at jw hy ⊢
 clear hv hu
 refine aO fun R' bA=> ?_
 obtain ⟨b1,b2,b3,lJ⟩:=my w 137 137 24 #[.bool s,.slice p n c] #[.bool t,.slice q m d] #[.bool false,.slice none 0 0]
 have r10:=Lib.hid iD
 have r20:=Lib.hid jw
 have r1:=Lib.hid (iD.below lJ)
 have r2:=Lib.hid (jw.below lJ)
 have HX:=Lib.hid hX
 have HY:=Lib.hid hY
 have HN:=Lib.hid hn
 have HM:=Lib.hid hm
 clear iD jw hX hY hn hm
 go_enter Tryz.func110,Tryz.ntmps110
 by_cases hst:s=t
 ·subst hst
  go_wp2_with fail
  generalize ((w.alloc _).alloc _).alloc _=W at *
  obtain ⟨c1,c2,_,_⟩:=b1.two
  obtain ⟨c3,c4,_,_⟩:=b2.two
  obtain ⟨c5,c6,f5,f6⟩:=b3.two
  have HS:=Lib.hid (fun w' (h:aA W (w.heap.size + 1 + 1) w')=>And.intro (h.cells b1 (by omega)) (h.cells b2 (by omega)))
  go_region_held3 (fun w'=>(w'.cell? ⟨w.heap.size,0,none⟩=some (.bool s)∧w'.cell? ⟨w.heap.size,1,none⟩=some (.slice p n c))∧w'.cell? ⟨w.heap.size + 1,0,none⟩=some (.bool s)∧w'.cell? ⟨w.heap.size + 1,1,none⟩=some (.slice q m d)) ((refine HS.out _ ?_;(with_reducible (repeat (first | exact aA.refl _ _ | refine aA.drew ?_ | refine aA.drewN ?_ _ | refine aA.alloc ?_ _ | refine aA.set ?_ _ | refine aA.aJ ?_ (by assumption) | refine aA.nW ?_ (by first | omega | (simp;done) | (simp;omega)) _))))) (first
   | (go_at_call 130;refine (FY _ _ n m _ _ _ r1.out.drew r2.out.drew (ay _) (ay _) (by omega) (by omega)).mono ?_;rintro e w1 ⟨v1,rfl,tr,aV⟩;replace aV:aj _ w1:=aV;rw [au,au] at tr;obtain ⟨p1,k1,rfl,_,_,_⟩:=Own.form tr)
   | (go_at_call 80;refine (ke _ _ _ _ _).mono ?_;rintro e w2 ⟨rfl,bm⟩;obtain ⟨c5',c6',f5',f6'⟩:=((b3.drew.bj aV).bj bm).two))
  have B3:=((b3.drew.bj aV).bj bm).bB (.bool (s && decide (0 < (limbs (X.natAbs + Y.natAbs)).length))) (.slice p1 (limbs (X.natAbs + Y.natAbs)).length k1)
  have ya:aj w w2:=lJ.aJ (aj.aJ (aj.aJ (aj.refl W).drew aV) bm)
  have JE:=ya.bB (b:=w.heap.size + 1 + 1) (by omega) (.bool (s && decide (0 < (limbs (X.natAbs + Y.natAbs)).length))) (.slice p1 (limbs (X.natAbs + Y.natAbs)).length k1)
  have EN:=Own.below tr bm
  generalize hL:(limbs (X.natAbs + Y.natAbs)).length=L at *
  have Ki:=Lib.hid (Own.bB (b:=w.heap.size + 1 + 1) EN (b3.drew.bj aV |>.bj bm) (by decide) (.bool (s && decide (0 < L))) (.slice p1 L k1))
  clear EN tr ya
  go_wp2
  generalize (w2.setCell ⟨w.heap.size + 1 + 1,0,none⟩ (.bool (s && decide (0 < L)))).setCell ⟨w.heap.size + 1 + 1,1,none⟩ (.slice p1 L k1)=w3 at *
  obtain ⟨d1,d2,_,_⟩:=B3.two
  refine bodyPost_ret (v:=.agg #[.bool (s && decide (0 < L)),.slice p1 L k1]) (by simp [results,Tryz.results110,go_sem,d1,d2]) rfl (bA.out _ _ ⟨_,rfl,?_,JE⟩)
  refine aC.of (m:=X.natAbs + Y.natAbs) (by rw [hL];exact Own.mono Ki.out lJ.size) hL.symm _ ?_
  rw [HX.out,HY.out]
  cases s <;> simp <;> omega
 ·have hst':(s == t)=false:=by cases s <;> cases t <;> simp_all
  go_wp2_with fail
  generalize ((w.alloc _).alloc _).alloc _=W at *
  refine (zA _ _ n m _ _ _ r1.out r2.out (ay _) (ay _)).mono ?_
  rintro e w1 ⟨rfl,k1,rfl⟩
  rw [au,au]
  by_cases hlt:X.natAbs < Y.natAbs
  ·have HLT:=Lib.hid hlt
   have hc:fT X.natAbs Y.natAbs < 0:=iZ.2 hlt
   generalize fT X.natAbs Y.natAbs=cv at hc ⊢
   obtain ⟨c1,c2,f1,f2⟩:=(b1.drewN k1).two
   obtain ⟨c3,c4,f3,f4⟩:=(b2.drewN k1).two
   have B1:=((b1.drewN k1).bB (.bool t) (.slice q m d)).dz (b':=w.heap.size + 1) (by omega) (.bool s) (.slice p n c)
   have B2:=((b2.drewN k1).dz (b':=w.heap.size) (by omega) (.bool t) (.slice q m d)).bB (.bool s) (.slice p n c)
   have B3:=((b3.drewN k1).dz (b':=w.heap.size) (by omega) (.bool t) (.slice q m d)).dz (b':=w.heap.size + 1) (by omega) (.bool s) (.slice p n c)
   have gB:=((lJ.drewN k1).bB (b:=w.heap.size) (by omega) (.bool t) (.slice q m d)).bB (b:=w.heap.size + 1) (by omega) (.bool s) (.slice p n c)
   clear lJ b1 b2 b3 r1 r2 hlt
   go_wp2_with fail
   generalize ((((W.drewN k1).setCell ⟨w.heap.size,0,none⟩ (.bool t)).setCell ⟨w.heap.size,1,none⟩ (.slice q m d)).setCell ⟨w.heap.size + 1,0,none⟩ (.bool s)).setCell ⟨w.heap.size + 1,1,none⟩ (.slice p n c)=W2 at *
   clear c1 c2 c3 c4 f1 f2 f3 f4
   refine (zH _ _ m n _ _ _ (r20.out.below gB) (r10.out.below gB) (ay _) (ay _) (by omega)).mono ?_
   rintro e w2 ⟨⟨h,_⟩ | ⟨_,v2,rfl,Gw⟩,bm⟩
   ·rw [au,au] at h;exact absurd h (by have:=HLT.out;omega)
   replace bm:aj _ w2:=bm
   rw [au,au] at Gw
   obtain ⟨p2,k2,rfl,_,_,_⟩:=Own.form Gw
   obtain ⟨e1,e2,_,_⟩:=(B1.bj bm).two
   have E3:=B3.bj bm
   have hbw2:=gB.aJ bm
   generalize hL:(limbs (Y.natAbs - X.natAbs)).length=L at *
   have mV:=Lib.hid (Own.mono Gw gB.size)
   have HL:=Lib.hid hL
   clear Gw hL B1 B2 B3 gB bm
   go_wp2_with fail
   refine (ke _ _ _ _ _).mono ?_
   rintro e w3 ⟨rfl,cD⟩
   have F3:=E3.bj cD
   obtain ⟨e5,e6,g5,g6⟩:=F3.two
   have Ki:=Lib.hid (Own.bB (b:=w.heap.size + 1 + 1) (Own.below mV.out cD) F3 (by decide) (.bool (t && decide (0 < L))) (.slice p2 L k2))
   have G3:=F3.bB (.bool (t && decide (0 < L))) (.slice p2 L k2)
   have JE:=(hbw2.aJ cD).bB (b:=w.heap.size + 1 + 1) (by omega) (.bool (t && decide (0 < L))) (.slice p2 L k2)
   clear mV E3 F3
   go_wp2
   generalize (w3.setCell ⟨w.heap.size + 1 + 1,0,none⟩ (.bool (t && decide (0 < L)))).setCell ⟨w.heap.size + 1 + 1,1,none⟩ (.slice p2 L k2)=w4 at *
   obtain ⟨d1,d2,_,_⟩:=G3.two
   refine bodyPost_ret (v:=.agg #[.bool (t && decide (0 < L)),.slice p2 L k2]) (by simp [results,Tryz.results110,go_sem,d1,d2]) rfl (bA.out _ _ ⟨_,rfl,?_,JE⟩)
   refine aC.of (m:=Y.natAbs - X.natAbs) (by rw [HL.out];exact Ki.out) HL.out.symm _ ?_
   rw [HX.out,HY.out]
   have:=HLT.out
   cases s <;> cases t <;> simp at hst ⊢ <;> omega
  ·have HLT:=Lib.hid hlt
   have hc:0≤fT X.natAbs Y.natAbs:=by have:=mt (@iZ X.natAbs Y.natAbs).1 hlt;omega
   generalize fT X.natAbs Y.natAbs=cv at hc ⊢
   have B1:=b1.drewN k1
   have B2:=b2.drewN k1
   have B3:=b3.drewN k1
   have gB:=lJ.drewN k1
   obtain ⟨c1,c2,f1,f2⟩:=B1.two
   obtain ⟨c3,c4,f3,f4⟩:=B2.two
   clear lJ b1 b2 b3 r1 r2 hlt
   go_wp2_with fail
   generalize W.drewN k1=W2 at *
   clear c1 c2 c3 c4 f1 f2 f3 f4
   refine (zH _ _ n m _ _ _ (r10.out.below gB) (r20.out.below gB) (ay _) (ay _) (by omega)).mono ?_
   rintro e w2 ⟨⟨h,_⟩ | ⟨_,v2,rfl,Gw⟩,bm⟩
   ·rw [au,au] at h;exact absurd h (by have:=HLT.out;omega)
   replace bm:aj _ w2:=bm
   rw [au,au] at Gw
   obtain ⟨p2,k2,rfl,_,_,_⟩:=Own.form Gw
   obtain ⟨e1,e2,_,_⟩:=(B1.bj bm).two
   have E3:=B3.bj bm
   have hbw2:=gB.aJ bm
   generalize hL:(limbs (X.natAbs - Y.natAbs)).length=L at *
   have mV:=Lib.hid (Own.mono Gw gB.size)
   have HL:=Lib.hid hL
   clear Gw hL B1 B2 B3 gB bm
   go_wp2_with fail
   refine (ke _ _ _ _ _).mono ?_
   rintro e w3 ⟨rfl,cD⟩
   have F3:=E3.bj cD
   obtain ⟨e5,e6,g5,g6⟩:=F3.two
   have Ki:=Lib.hid (Own.bB (b:=w.heap.size + 1 + 1) (Own.below mV.out cD) F3 (by decide) (.bool (s && decide (0 < L))) (.slice p2 L k2))
   have G3:=F3.bB (.bool (s && decide (0 < L))) (.slice p2 L k2)
   have JE:=(hbw2.aJ cD).bB (b:=w.heap.size + 1 + 1) (by omega) (.bool (s && decide (0 < L))) (.slice p2 L k2)
   clear mV E3 F3
   go_wp2
   generalize (w3.setCell ⟨w.heap.size + 1 + 1,0,none⟩ (.bool (s && decide (0 < L)))).setCell ⟨w.heap.size + 1 + 1,1,none⟩ (.slice p2 L k2)=w4 at *
   obtain ⟨d1,d2,_,_⟩:=G3.two
   refine bodyPost_ret (v:=.agg #[.bool (s && decide (0 < L)),.slice p2 L k2]) (by simp [results,Tryz.results110,go_sem,d1,d2]) rfl (bA.out _ _ ⟨_,rfl,?_,JE⟩)
   refine aC.of (m:=X.natAbs - Y.natAbs) (by rw [HL.out];exact Ki.out) HL.out.symm _ ?_
   rw [HX.out,HY.out]
   have:=HLT.out
   cases s <;> cases t <;> simp at hst ⊢ <;> omega
end Go.Proofs.YtabalinjfgcfeaaGreat
namespace Go.Proofs.YtabalinjfgcfeaaGreat
open Go.RowKit
set_option maxHeartbeats 1000000 in
theorem CB (v u:Value) (X Y:Int) (j k:Nat) (w:World) (hv:bP w v X j) (hu:bP w u Y k) (hj:j≤1073741824) (hk:k≤1073741824):
  Calls Tryz.prog 84 #[v,u] w fun e w'=>∃ r,e=.returned r∧aC w' w.heap.size r (X + Y)∧aj w w':=by
 obtain ⟨s,p,n,c,rfl⟩:=hv.form
 obtain ⟨t,q,m,d,rfl⟩:=hu.form
 refine aO fun R' bA=> ?_
 obtain ⟨b1,b2,b3,lJ⟩:=my w 24 24 24 #[.bool s,.slice p n c] #[.bool t,.slice q m d] #[.bool false,.slice none 0 0]
 have sL:=hv.len
 have nL:=hu.len
 have HV:=Lib.hid hv
 have HU:=Lib.hid hu
 have hsz:w.heap.size + 3≤(((w.alloc (.cells #[.bool s,.slice p n c] 24)).alloc (.cells #[.bool t,.slice q m d] 24)).alloc (.cells #[.bool false,.slice none 0 0] 24)).heap.size:=by simp
 clear hv hu
 go_enter Tryz.func84,Tryz.ntmps84
 go_wp2_with fail
 generalize ((w.alloc _).alloc _).alloc _=W at *
 have HS:=Lib.hid (fun w' (h:aA W (w.heap.size + 1 + 1) w')=>And.intro (h.cells b1 (by omega)) (h.cells b2 (by omega)))
 obtain ⟨c1,c2,_,_⟩:=b1.two
 obtain ⟨c3,c4,_,_⟩:=b2.two
 obtain ⟨c5,c6,f5,f6⟩:=b3.two
 go_region_held3 (fun w'=>(w'.cell? ⟨w.heap.size,0,none⟩=some (.bool s)∧w'.cell? ⟨w.heap.size,1,none⟩=some (.slice p n c))∧w'.cell? ⟨w.heap.size + 1,0,none⟩=some (.bool t)∧w'.cell? ⟨w.heap.size + 1,1,none⟩=some (.slice q m d)) ((refine HS.out _ ?_;(with_reducible (repeat (first | exact aA.refl _ _ | refine aA.drew ?_ | refine aA.drewN ?_ _ | refine aA.alloc ?_ _ | refine aA.set ?_ _ | refine aA.aJ ?_ (by assumption) | refine aA.nW ?_ (by first | omega | (simp;done) | (simp;omega)) _))))) (first
  | (go_at_call_of 79 (Value.slice p n c);refine (fW _ X j w _ HV.out (by (with_reducible (repeat (first | assumption | exact aj.refl _ | refine aj.drew ?_ | refine aj.drewN ?_ _ | refine aj.alloc ?_ _ | refine aj.aJ ?_ (by assumption) | refine aj.setCell ?_ (by first | omega | (simp;done) | (simp;omega)) _))))).mono ?_;rintro e w1 ⟨u1,rfl,vA,aV⟩)
  | (go_at_call_of 79 (Value.slice q m d);refine (fW _ Y k w _ HU.out (by (with_reducible (repeat (first | assumption | exact aj.refl _ | refine aj.drew ?_ | refine aj.drewN ?_ _ | refine aj.alloc ?_ _ | refine aj.aJ ?_ (by assumption) | refine aj.setCell ?_ (by first | omega | (simp;done) | (simp;omega)) _))))).mono ?_;rintro e w2 ⟨u2,rfl,vB,bm⟩)
  | (go_at_call 110;refine (CA _ _ X Y _ (vA.bj (by (with_reducible (repeat (first | assumption | exact aj.refl _ | refine aj.drew ?_ | refine aj.drewN ?_ _ | refine aj.alloc ?_ _ | refine aj.aJ ?_ (by assumption) | refine aj.setCell ?_ (by first | omega | (simp;done) | (simp;omega)) _))))) (vB.bj (by (with_reducible (repeat (first | assumption | exact aj.refl _ | refine aj.drew ?_ | refine aj.drewN ?_ _ | refine aj.alloc ?_ _ | refine aj.aJ ?_ (by assumption) | refine aj.setCell ?_ (by first | omega | (simp;done) | (simp;omega)) _))))) (Nat.le_trans sL hj) (Nat.le_trans nL hk)).mono ?_;rintro e w3 ⟨r,rfl,aI,cD⟩;obtain ⟨sg,pp,nn,cc,rfl⟩:=aI.form;obtain ⟨e5,e6,g5,g6⟩:=(aW.bj (w':=w3) b3 (by (with_reducible (repeat (first | assumption | exact aj.refl _ | refine aj.drew ?_ | refine aj.drewN ?_ _ | refine aj.alloc ?_ _ | refine aj.aJ ?_ (by assumption) | refine aj.setCell ?_ (by first | omega | (simp;done) | (simp;omega)) _))))).two)
  | fail)
 have FC:=(aW.bj (w':=w3) b3 (by (with_reducible (repeat (first | assumption | exact aj.refl _ | refine aj.drew ?_ | refine aj.drewN ?_ _ | refine aj.alloc ?_ _ | refine aj.aJ ?_ (by assumption) | refine aj.setCell ?_ (by first | omega | (simp;done) | (simp;omega)) _)))))
 have FB:aj w w3:=(by (with_reducible (repeat (first | assumption | exact aj.refl _ | refine aj.drew ?_ | refine aj.drewN ?_ _ | refine aj.alloc ?_ _ | refine aj.aJ ?_ (by assumption) | refine aj.setCell ?_ (by first | omega | (simp;done) | (simp;omega)) _))))
 have FZ:aj w w2:=(by (with_reducible (repeat (first | assumption | exact aj.refl _ | refine aj.drew ?_ | refine aj.drewN ?_ _ | refine aj.alloc ?_ _ | refine aj.aJ ?_ (by assumption) | refine aj.setCell ?_ (by first | omega | (simp;done) | (simp;omega)) _))))
 have HO:=Lib.hid (aI.bB FC (by decide) (.bool sg) (.slice pp nn cc))
 clear aI
 have Aa:=FC.bB (.bool (sg)) (.slice pp (nn) cc)
 have Ab:=aj.bB FB (b:=w.heap.size + 1 + 1) (by omega) (.bool (sg)) (.slice pp (nn) cc)
 go_wp2
 generalize (w3.setCell ⟨w.heap.size + 1 + 1,0,none⟩ (.bool (sg))).setCell ⟨w.heap.size + 1 + 1,1,none⟩ (.slice pp (nn) cc)=wz at *
 obtain ⟨Ac,Ad,_,_⟩:=Aa.two
 refine bodyPost_ret (v:=.agg #[.bool (sg),.slice pp (nn) cc]) (by simp [results,Tryz.results84,go_sem,Ac,Ad]) rfl (bA.out _ _ ?_)
 exact ⟨_,rfl,HO.out.mono FZ.size,Ab⟩
set_option maxHeartbeats 1000000 in
theorem Li (v u:Value) (X Y:Int) (j k:Nat) (w:World) (hv:bP w v X j) (hu:bP w u Y k) (hj:j≤1073741824) (hk:k≤1073741824):
  Calls Tryz.prog 78 #[v,u] w fun e w'=>∃ r,e=.returned r∧aC w' w.heap.size r (X - Y)∧aj w w':=by
 obtain ⟨s,p,n,c,rfl⟩:=hv.form
 obtain ⟨t,q,m,d,rfl⟩:=hu.form
 refine aO fun R' bA=> ?_
 obtain ⟨b1,b2,b3,lJ⟩:=my w 24 24 24 #[.bool s,.slice p n c] #[.bool t,.slice q m d] #[.bool false,.slice none 0 0]
 have sL:=hv.len
 have nL:=hu.len
 have HV:=Lib.hid hv
 have HU:=Lib.hid hu
 have hsz:w.heap.size + 3≤(((w.alloc (.cells #[.bool s,.slice p n c] 24)).alloc (.cells #[.bool t,.slice q m d] 24)).alloc (.cells #[.bool false,.slice none 0 0] 24)).heap.size:=by simp
 clear hv hu
 go_enter Tryz.func78,Tryz.ntmps78
 go_wp2_with fail
 generalize ((w.alloc _).alloc _).alloc _=W at *
 have HS:=Lib.hid (fun w' (h:aA W (w.heap.size + 1 + 1) w')=>And.intro (h.cells b1 (by omega)) (h.cells b2 (by omega)))
 obtain ⟨c1,c2,_,_⟩:=b1.two
 obtain ⟨c3,c4,_,_⟩:=b2.two
 obtain ⟨c5,c6,f5,f6⟩:=b3.two
 go_region_held3 (fun w'=>(w'.cell? ⟨w.heap.size,0,none⟩=some (.bool s)∧w'.cell? ⟨w.heap.size,1,none⟩=some (.slice p n c))∧w'.cell? ⟨w.heap.size + 1,0,none⟩=some (.bool t)∧w'.cell? ⟨w.heap.size + 1,1,none⟩=some (.slice q m d)) ((refine HS.out _ ?_;(with_reducible (repeat (first | exact aA.refl _ _ | refine aA.drew ?_ | refine aA.drewN ?_ _ | refine aA.alloc ?_ _ | refine aA.set ?_ _ | refine aA.aJ ?_ (by assumption) | refine aA.nW ?_ (by first | omega | (simp;done) | (simp;omega)) _))))) (first
  | (go_at_call_of 79 (Value.slice p n c);refine (fW _ X j w _ HV.out (by (with_reducible (repeat (first | assumption | exact aj.refl _ | refine aj.drew ?_ | refine aj.drewN ?_ _ | refine aj.alloc ?_ _ | refine aj.aJ ?_ (by assumption) | refine aj.setCell ?_ (by first | omega | (simp;done) | (simp;omega)) _))))).mono ?_;rintro e w1 ⟨u1,rfl,vA,aV⟩)
  | (go_at_call_of 79 (Value.slice q m d);refine (fW _ Y k w _ HU.out (by (with_reducible (repeat (first | assumption | exact aj.refl _ | refine aj.drew ?_ | refine aj.drewN ?_ _ | refine aj.alloc ?_ _ | refine aj.aJ ?_ (by assumption) | refine aj.setCell ?_ (by first | omega | (simp;done) | (simp;omega)) _))))).mono ?_;rintro e w2 ⟨u2,rfl,vB,bm⟩)
  | (go_at_call 111;refine (wW _ Y _ (vB.bj (by (with_reducible (repeat (first | assumption | exact aj.refl _ | refine aj.drew ?_ | refine aj.drewN ?_ _ | refine aj.alloc ?_ _ | refine aj.aJ ?_ (by assumption) | refine aj.setCell ?_ (by first | omega | (simp;done) | (simp;omega)) _)))))).mono ?_;rintro e w4 ⟨u4,rfl,hu4,gU⟩)
  | (go_at_call 110;refine (CA _ _ X (-Y) _ (vA.bj (by (with_reducible (repeat (first | assumption | exact aj.refl _ | refine aj.drew ?_ | refine aj.drewN ?_ _ | refine aj.alloc ?_ _ | refine aj.aJ ?_ (by assumption) | refine aj.setCell ?_ (by first | omega | (simp;done) | (simp;omega)) _))))) (hu4.bj (by (with_reducible (repeat (first | assumption | exact aj.refl _ | refine aj.drew ?_ | refine aj.drewN ?_ _ | refine aj.alloc ?_ _ | refine aj.aJ ?_ (by assumption) | refine aj.setCell ?_ (by first | omega | (simp;done) | (simp;omega)) _))))) (Nat.le_trans sL hj) (by rw [Int.natAbs_neg];exact Nat.le_trans nL hk)).mono ?_;rintro e w3 ⟨r,rfl,aI,cD⟩;obtain ⟨sg,pp,nn,cc,rfl⟩:=aI.form;obtain ⟨e5,e6,g5,g6⟩:=(aW.bj (w':=w3) b3 (by (with_reducible (repeat (first | assumption | exact aj.refl _ | refine aj.drew ?_ | refine aj.drewN ?_ _ | refine aj.alloc ?_ _ | refine aj.aJ ?_ (by assumption) | refine aj.setCell ?_ (by first | omega | (simp;done) | (simp;omega)) _))))).two)
  | fail)
 rw [←Int.sub_eq_add_neg] at aI
 have FC:=(aW.bj (w':=w3) b3 (by (with_reducible (repeat (first | assumption | exact aj.refl _ | refine aj.drew ?_ | refine aj.drewN ?_ _ | refine aj.alloc ?_ _ | refine aj.aJ ?_ (by assumption) | refine aj.setCell ?_ (by first | omega | (simp;done) | (simp;omega)) _)))))
 have FB:aj w w3:=(by (with_reducible (repeat (first | assumption | exact aj.refl _ | refine aj.drew ?_ | refine aj.drewN ?_ _ | refine aj.alloc ?_ _ | refine aj.aJ ?_ (by assumption) | refine aj.setCell ?_ (by first | omega | (simp;done) | (simp;omega)) _))))
 have FZ:aj w w4:=(by (with_reducible (repeat (first | assumption | exact aj.refl _ | refine aj.drew ?_ | refine aj.drewN ?_ _ | refine aj.alloc ?_ _ | refine aj.aJ ?_ (by assumption) | refine aj.setCell ?_ (by first | omega | (simp;done) | (simp;omega)) _))))
 have HO:=Lib.hid (aI.bB FC (by decide) (.bool sg) (.slice pp nn cc))
 clear aI
 have Aa:=FC.bB (.bool (sg)) (.slice pp (nn) cc)
 have Ab:=aj.bB FB (b:=w.heap.size + 1 + 1) (by omega) (.bool (sg)) (.slice pp (nn) cc)
 go_wp2
 generalize (w3.setCell ⟨w.heap.size + 1 + 1,0,none⟩ (.bool (sg))).setCell ⟨w.heap.size + 1 + 1,1,none⟩ (.slice pp (nn) cc)=wz at *
 obtain ⟨Ac,Ad,_,_⟩:=Aa.two
 refine bodyPost_ret (v:=.agg #[.bool (sg),.slice pp (nn) cc]) (by simp [results,Tryz.results78,go_sem,Ac,Ad]) rfl (bA.out _ _ ?_)
 exact ⟨_,rfl,HO.out.mono FZ.size,Ab⟩
def Gx (w W wc:World) (T:TypeId) (X Y:Int) (x y:Value):Prop:=∃ g h s1 p1 n1 k1 s2 p2 n2 k2,x=.pointer (some ⟨g,0,none⟩)∧y=.pointer (some ⟨h,0,none⟩)∧aW wc g T #[.bool s1,.slice p1 n1 k1]∧aW wc h T #[.bool s2,.slice p2 n2 k2]∧
 bO w (.agg #[.bool s1,.slice p1 n1 k1]) X∧bO w (.agg #[.bool s2,.slice p2 n2 k2]) Y∧aj W wc
set_option maxHeartbeats 1000000 in
theorem kf (v u:Value) (X Y:Int) (j k:Nat) (w:World) (hv:bP w v X j) (hu:bP w u Y k) (hj:j≤536870912) (hk:k≤536870912):
  Calls Tryz.prog 42 #[v,u] w fun e w'=>∃ r,e=.returned r∧aC w' w.heap.size r (X * Y)∧aj w w':=by
 obtain ⟨s,p,n,c,rfl⟩:=hv.form
 obtain ⟨t,q,m,d,rfl⟩:=hu.form
 refine aO fun R' bA=> ?_
 obtain ⟨b1,b2,b3,lJ⟩:=my w 24 24 24 #[.bool s,.slice p n c] #[.bool t,.slice q m d] #[.bool false,.slice none 0 0]
 have sL:=hv.len
 have nL:=hu.len
 have HV:=Lib.hid hv
 have HU:=Lib.hid hu
 have hsz:w.heap.size + 3≤(((w.alloc (.cells #[.bool s,.slice p n c] 24)).alloc (.cells #[.bool t,.slice q m d] 24)).alloc (.cells #[.bool false,.slice none 0 0] 24)).heap.size:=by simp
 clear hv hu
 go_enter Tryz.func42,Tryz.ntmps42
 go_wp2_with fail
 generalize ((w.alloc _).alloc _).alloc _=W at *
 have HS:=Lib.hid (fun w' (h:aA W (w.heap.size + 1 + 1) w')=>And.intro (h.cells b1 (by omega)) (h.cells b2 (by omega)))
 obtain ⟨c1,c2,_,_⟩:=b1.two
 obtain ⟨c3,c4,_,_⟩:=b2.two
 obtain ⟨c5,c6,f5,f6⟩:=b3.two
 go_cut [5,6] (fun x5 x6 wc=>Gx w W wc 137 X Y x5 x6)
 case first=>
  go_region_held3 (fun w'=>(w'.cell? ⟨w.heap.size,0,none⟩=some (.bool s)∧w'.cell? ⟨w.heap.size,1,none⟩=some (.slice p n c))∧w'.cell? ⟨w.heap.size + 1,0,none⟩=some (.bool t)∧w'.cell? ⟨w.heap.size + 1,1,none⟩=some (.slice q m d)) ((refine HS.out _ ?_;(with_reducible (repeat (first | exact aA.refl _ _ | refine aA.drew ?_ | refine aA.drewN ?_ _ | refine aA.alloc ?_ _ | refine aA.set ?_ _ | refine aA.aJ ?_ (by assumption) | refine aA.nW ?_ (by first | omega | (simp;done) | (simp;omega)) _))))) (first
   | (go_at_call_of 79 (Value.slice p n c);refine (fW _ X j w _ HV.out (by (with_reducible (repeat (first | assumption | exact aj.refl _ | refine aj.drew ?_ | refine aj.drewN ?_ _ | refine aj.alloc ?_ _ | refine aj.aJ ?_ (by assumption) | refine aj.setCell ?_ (by first | omega | (simp;done) | (simp;omega)) _))))).mono ?_;rintro e w1 ⟨u1,rfl,vA,aV⟩;obtain ⟨s1,p1,n1,k1,rfl⟩:=vA.ij;have Gt:=aV.size;(try simp at Gt);(try (have q1:=aW.bj (aW.drew (aW.new _ _ #[_,_])) aV;(try simp at q1);obtain ⟨q1a,q1b,q1c,q1d⟩:=q1.two;have q1l:=q1.lt;have q1n:=Nat.ne_of_lt q1l;have q1m:=Nat.ne_of_gt q1l));(try (have q2:=aW.bj (aW.drew (aW.alloc (aW.new _ _ #[_,_]) _)) aV;(try simp at q2);obtain ⟨q2a,q2b,q2c,q2d⟩:=q2.two;have q2l:=q2.lt;have q2n:=Nat.ne_of_lt q2l;have q2m:=Nat.ne_of_gt q2l)))
   | (go_at_call_of 79 (Value.slice q m d);refine (fW _ Y k w _ HU.out (by (with_reducible (repeat (first | assumption | exact aj.refl _ | refine aj.drew ?_ | refine aj.drewN ?_ _ | refine aj.alloc ?_ _ | refine aj.aJ ?_ (by assumption) | refine aj.setCell ?_ (by first | omega | (simp;done) | (simp;omega)) _))))).mono ?_;rintro e w2 ⟨u2,rfl,vB,bm⟩;obtain ⟨s2,p2,n2,k2,rfl⟩:=vB.ij;have EO:=bm.size;(try simp at EO);(try (have q3:=aW.bj (aW.new _ _ #[_,_]) bm;(try simp at q3);obtain ⟨q3a,q3b,q3c,q3d⟩:=q3.two;have q3l:=q3.lt;have q3n:=Nat.ne_of_lt q3l;have q3m:=Nat.ne_of_gt q3l));(try (have q4:=aW.bj (aW.alloc (aW.new _ _ #[_,_]) _) bm;(try simp at q4);obtain ⟨q4a,q4b,q4c,q4d⟩:=q4.two;have q4l:=q4.lt;have q4n:=Nat.ne_of_lt q4l;have q4m:=Nat.ne_of_gt q4l));(try (have q5:=aW.bj q1 bm;(try simp at q5);obtain ⟨q5a,q5b,q5c,q5d⟩:=q5.two;have q5l:=q5.lt;have q5n:=Nat.ne_of_lt q5l;have q5m:=Nat.ne_of_gt q5l));(try (have q6:=aW.bj q2 bm;(try simp at q6);obtain ⟨q6a,q6b,q6c,q6d⟩:=q6.two;have q6l:=q6.lt;have q6n:=Nat.ne_of_lt q6l;have q6m:=Nat.ne_of_gt q6l));(try (have q7:=aW.bj (aW.alloc q1 _) bm;(try simp at q7);obtain ⟨q7a,q7b,q7c,q7d⟩:=q7.two;have q7l:=q7.lt;have q7n:=Nat.ne_of_lt q7l;have q7m:=Nat.ne_of_gt q7l)))
   | fail)
  all_goals
   go_wp2
   go_meet
   refine ⟨_,_,s1,p1,n1,k1,s2,p2,n2,k2,rfl,rfl,?_,?_,vA,vB,?_⟩
   ·(with_reducible (repeat (first | assumption | exact aW.newAt (by first | rfl | (simp;done)) _ _ | refine aW.alloc ?_ _ | refine aW.drew ?_ | refine aW.bB (u:=.bool false) (v:=.slice none 0 0) ?_ _ _ | refine aW.dz ?_ (by first | omega | (simp;omega)) _ _ | refine aW.bj ?_ (by assumption))))
   ·(with_reducible (repeat (first | assumption | exact aW.newAt (by first | rfl | (simp;done)) _ _ | refine aW.alloc ?_ _ | refine aW.drew ?_ | refine aW.bB (u:=.bool false) (v:=.slice none 0 0) ?_ _ _ | refine aW.dz ?_ (by first | omega | (simp;omega)) _ _ | refine aW.bj ?_ (by assumption))))
   ·(with_reducible (repeat (first | assumption | exact aj.refl _ | refine aj.drew ?_ | refine aj.drewN ?_ _ | refine aj.alloc ?_ _ | refine aj.aJ ?_ (by assumption) | refine aj.setCell ?_ (by first | omega | (simp;done) | (simp;omega)) _)))
 case rest=>
  obtain ⟨g,h,s1,p1,n1,k1,s2,p2,n2,k2,rfl,rfl,B5,B6,vA,vB,hbc⟩:=hcut
  obtain ⟨sP,iD,hX⟩:=vA.parts
  obtain ⟨wX,jw,hY⟩:=vB.parts
  have B3:=b3.bj hbc
  have jK:aj w wc:=lJ.aJ hbc
  have HR1:=Lib.hid (iD.below jK)
  have HR2:=Lib.hid (jw.below jK)
  have HN1:=Lib.hid sP
  have HN2:=Lib.hid wX
  have HX:=Lib.hid hX
  have HY:=Lib.hid hY
  have hm1:n1≤536870912:=by omega
  have CC:n2≤536870912:=by omega
  clear c1 c2 c3 c4 c5 c6 f5 f6 b1 b2 b3 hbc lJ vA vB iD jw hX hY sP wX HS
  obtain ⟨c1,c2,_,_⟩:=B5.two
  obtain ⟨c3,c4,_,_⟩:=B6.two
  obtain ⟨c5,c6,f5,f6⟩:=B3.two
  have hg:g≠w.heap.size + 1 + 1:=fun e=>by subst e;have:=(show wc.heap[_]? =_ from B5).symm.trans B3;simp at this
  have hh:h≠w.heap.size + 1 + 1:=fun e=>by subst e;have:=(show wc.heap[_]? =_ from B6).symm.trans B3;simp at this
  have HS:=Lib.hid (fun w' (hk:aA wc (w.heap.size + 1 + 1) w')=>And.intro (hk.cells B5 hg) (hk.cells B6 hh))
  go_wp2_with fail
  go_region_held3 (fun w'=>(w'.cell? ⟨g,0,none⟩=some (.bool s1)∧w'.cell? ⟨g,1,none⟩=some (.slice p1 n1 k1))∧w'.cell? ⟨h,0,none⟩=some (.bool s2)∧w'.cell? ⟨h,1,none⟩=some (.slice p2 n2 k2)) ((refine HS.out _ ?_;(with_reducible (repeat (first | exact aA.refl _ _ | refine aA.drew ?_ | refine aA.drewN ?_ _ | refine aA.alloc ?_ _ | refine aA.set ?_ _ | refine aA.aJ ?_ (by assumption) | refine aA.nW ?_ (by first | omega | (simp;done) | (simp;omega)) _))))) (first
   | (go_at_call 81;refine (Kn _ _ n1 n2 _ _ _ (HR1.out.below (aj.refl wc).drew) (HR2.out.below (aj.refl wc).drew) (ay _) (ay _) hm1 CC).mono ?_;rintro e w1 ⟨v1,rfl,tr,aV⟩;replace aV:aj _ w1:=aV;rw [au,au] at tr;obtain ⟨q1,l1,rfl,_,_,_⟩:=Own.form tr)
   | (go_at_call 80;refine (fo _ _ _ _ _).mono ?_;rintro e w3 ⟨sg,rfl,jn,cD⟩;obtain ⟨e5,e6,g5,g6⟩:=(aW.bj (w':=w3) B3 (by (with_reducible (repeat (first | assumption | exact aj.refl _ | refine aj.drew ?_ | refine aj.drewN ?_ _ | refine aj.alloc ?_ _ | refine aj.aJ ?_ (by assumption) | refine aj.setCell ?_ (by first | omega | (simp;done) | (simp;omega)) _))))).two)
   | fail)
  have FC:=(aW.bj (w':=w3) B3 (by (with_reducible (repeat (first | assumption | exact aj.refl _ | refine aj.drew ?_ | refine aj.drewN ?_ _ | refine aj.alloc ?_ _ | refine aj.aJ ?_ (by assumption) | refine aj.setCell ?_ (by first | omega | (simp;done) | (simp;omega)) _)))))
  have FB:aj w w3:=(by (with_reducible (repeat (first | assumption | exact aj.refl _ | refine aj.drew ?_ | refine aj.drewN ?_ _ | refine aj.alloc ?_ _ | refine aj.aJ ?_ (by assumption) | refine aj.setCell ?_ (by first | omega | (simp;done) | (simp;omega)) _))))
  generalize hL:(limbs (X.natAbs * Y.natAbs)).length=L at *
  have HL:=Lib.hid hL
  have HO:=Lib.hid (Own.bB (Own.below tr cD) FC (by decide) (.bool sg) (.slice q1 L l1))
  clear tr hL
  have Aa:=FC.bB (.bool (sg)) (.slice q1 (L) l1)
  have Ab:=aj.bB FB (b:=w.heap.size + 1 + 1) (by omega) (.bool (sg)) (.slice q1 (L) l1)
  go_wp2
  generalize (w3.setCell ⟨w.heap.size + 1 + 1,0,none⟩ (.bool (sg))).setCell ⟨w.heap.size + 1 + 1,1,none⟩ (.slice q1 (L) l1)=wz at *
  obtain ⟨Ac,Ad,_,_⟩:=Aa.two
  refine bodyPost_ret (v:=.agg #[.bool (sg),.slice q1 (L) l1]) (by simp [results,Tryz.results42,go_sem,Ac,Ad]) rfl (bA.out _ _ ?_)
  rw [jn.out]
  refine ⟨_,rfl,aC.of (m:=X.natAbs * Y.natAbs) (by rw [HL.out];exact Own.mono HO.out jK.size) HL.out.symm _ ?_,Ab⟩
  rw [HX.out,HY.out]
  cases s1 <;> cases s2 <;> simp [Int.neg_mul,Int.mul_neg]
end Go.Proofs.YtabalinjfgcfeaaGreat
namespace Go.Proofs.YtabalinjfgcfeaaGreat
open Go.RowKit
theorem tt (s:Bool) (p:Option Addr) (n c:Nat) (w:World):(Instr.field 137 (.agg #[.bool s,.slice p n c]) 0).run Tryz.prog w=.ok (.agg #[.bool s,.slice p n c]) w:=by kernel_rfl
theorem tu (s:Bool) (p:Option Addr) (n c:Nat) (w:World):(Instr.field 24 (.agg #[.bool s,.slice p n c]) 1).run Tryz.prog w=.ok (.slice p n c) w:=by kernel_rfl
set_option maxHeartbeats 1000000 in
theorem CD (v:Value) (X:Int) (j:Nat) (w:World) (hv:bP w v X j) (hj:j≤1073741824):
  Calls Tryz.prog 113 #[v] w fun e w'=>∃ r,e=.returned r∧aC w' w.heap.size r (-X)∧aj w w':=by
 obtain ⟨s,p,n,c,rfl⟩:=hv.form
 refine aO fun R' bA=> ?_
 obtain ⟨b1,b2,lJ⟩:=ln w 24 24 #[.bool s,.slice p n c] #[.bool false,.slice none 0 0]
 have sL:=hv.len
 have HV:=Lib.hid hv
 have hsz:w.heap.size + 2≤((w.alloc (.cells #[.bool s,.slice p n c] 24)).alloc (.cells #[.bool false,.slice none 0 0] 24)).heap.size:=by simp
 clear hv
 go_enter Tryz.func113,Tryz.ntmps113
 go_wp2_with fail
 generalize (w.alloc _).alloc _=W at *
 refine (fW _ X j w _ HV.out (by (with_reducible (repeat (first | assumption | exact aj.refl _ | refine aj.drew ?_ | refine aj.drewN ?_ _ | refine aj.alloc ?_ _ | refine aj.aJ ?_ (by assumption) | refine aj.setCell ?_ (by first | omega | (simp;done) | (simp;omega)) _))))).mono ?_
 rintro e w1 ⟨v1,rfl,ni,aV⟩
 go_wp2_with fail
 refine (wW _ X _ (ni.bj (by (with_reducible (repeat (first | assumption | exact aj.refl _ | refine aj.drew ?_ | refine aj.drewN ?_ _ | refine aj.alloc ?_ _ | refine aj.aJ ?_ (by assumption) | refine aj.setCell ?_ (by first | omega | (simp;done) | (simp;omega)) _)))))).mono ?_
 rintro e w2 ⟨v2,rfl,zU,bm⟩
 obtain ⟨s2,p2,n2,k2,rfl⟩:=zU.ij
 obtain ⟨wX,jw,_⟩:=zU.parts
 have CC:n2≤1073741824:=by rw [wX,Int.natAbs_neg];omega
 have HN2:=Lib.hid wX
 have HI2:=Lib.hid zU
 have HR2:=Lib.hid jw
 clear zU wX jw ni
 go_wp2_with fail
 have B5:=aW.new w2 137 #[.bool s2,.slice p2 n2 k2]
 have hbT:aj w2 (w2.alloc (.cells #[.bool s2,.slice p2 n2 k2] 137)):=(aj.refl w2).alloc _
 have B2:=((b2.bj aV).bj bm).bj hbT
 have hlt:=b2.lt
 have vf:=aV.size
 have hbs2:=bm.size
 have hne:w2.heap.size≠w.heap.size + 1:=by omega
 generalize w2.alloc _=T at *
 have HS:=Lib.hid (fun w' (hk:aA T (w.heap.size + 1) w')=>hk.cells B5 hne)
 obtain ⟨c1,c2,_,_⟩:=B5.two
 obtain ⟨c5,c6,f5,f6⟩:=B2.two
 go_region_held3 (fun w'=>w'.cell? ⟨w2.heap.size,0,none⟩=some (.bool s2)∧w'.cell? ⟨w2.heap.size,1,none⟩=some (.slice p2 n2 k2)) ((refine HS.out _ ?_;(with_reducible (repeat (first | exact aA.refl _ _ | refine aA.drew ?_ | refine aA.drewN ?_ _ | refine aA.alloc ?_ _ | refine aA.set ?_ _ | refine aA.aJ ?_ (by assumption) | refine aA.nW ?_ (by first | omega | (simp;done) | (simp;omega)) _))))) (first
  | (go_at_call 133;refine (iL _ n2 _ _ (Rd.below (HR2.out.below hbT) (aj.refl T).drew) CC).mono ?_;rintro e w3 ⟨v3,rfl,EN,cD⟩;replace cD:aj _ w3:=cD;obtain ⟨q3,l3,rfl,_,_,_⟩:=Own.form EN;obtain ⟨e5,e6,g5,g6⟩:=(aW.bj (w':=w3) B2 (by (with_reducible (repeat (first | assumption | exact aj.refl _ | refine aj.drew ?_ | refine aj.drewN ?_ _ | refine aj.alloc ?_ _ | refine aj.aJ ?_ (by assumption) | refine aj.setCell ?_ (by first | omega | (simp;done) | (simp;omega)) _))))).two)
  | fail)
 have FC:=(aW.bj (w':=w3) B2 (by (with_reducible (repeat (first | assumption | exact aj.refl _ | refine aj.drew ?_ | refine aj.drewN ?_ _ | refine aj.alloc ?_ _ | refine aj.aJ ?_ (by assumption) | refine aj.setCell ?_ (by first | omega | (simp;done) | (simp;omega)) _)))))
 have FB:aj w w3:=(by (with_reducible (repeat (first | assumption | exact aj.refl _ | refine aj.drew ?_ | refine aj.drewN ?_ _ | refine aj.alloc ?_ _ | refine aj.aJ ?_ (by assumption) | refine aj.setCell ?_ (by first | omega | (simp;done) | (simp;omega)) _))))
 have FT:aj w T:=(by (with_reducible (repeat (first | assumption | exact aj.refl _ | refine aj.drew ?_ | refine aj.drewN ?_ _ | refine aj.alloc ?_ _ | refine aj.aJ ?_ (by assumption) | refine aj.setCell ?_ (by first | omega | (simp;done) | (simp;omega)) _))))
 have HO:=Lib.hid (Own.bB EN FC (by decide) (.bool s2) (.slice q3 n2 l3))
 clear EN
 have Aa:=FC.bB (.bool (s2)) (.slice q3 (n2) l3)
 have Ab:=aj.bB FB (b:=w.heap.size + 1) (by omega) (.bool (s2)) (.slice q3 (n2) l3)
 go_wp2
 generalize (w3.setCell ⟨w.heap.size + 1,0,none⟩ (.bool (s2))).setCell ⟨w.heap.size + 1,1,none⟩ (.slice q3 (n2) l3)=wz at *
 obtain ⟨Ac,Ad,_,_⟩:=Aa.two
 refine bodyPost_ret (v:=.agg #[.bool (s2),.slice q3 (n2) l3]) (by simp [results,Tryz.results113,go_sem,Ac,Ad]) rfl (bA.out _ _ ?_)
 exact ⟨_,rfl,HI2.out.own (Own.mono HO.out FT.size),Ab⟩
set_option maxRecDepth 100000 in
set_option maxHeartbeats 1000000 in
theorem Lj (v:Value) (X:Int) (j:Nat) (w:World) (hv:bP w v X j) (hj:j≤1073741824):
  Calls Tryz.prog 129 #[v] w fun e w'=>∃ r,e=.returned r∧aC w' w.heap.size r (X.natAbs:Int)∧aj w w':=by
 obtain ⟨s,p,n,c,rfl⟩:=hv.form
 refine aO fun R' bA=> ?_
 obtain ⟨b1,b2,lJ⟩:=ln w 24 24 #[.bool s,.slice p n c] #[.bool false,.slice none 0 0]
 have sL:=hv.len
 have HV:=Lib.hid hv
 clear hv
 go_enter Tryz.func129,Tryz.ntmps129
 go_wp2_with fail
 generalize (w.alloc _).alloc _=W at *
 refine (fW _ X j w _ HV.out (by (with_reducible (repeat (first | assumption | exact aj.refl _ | refine aj.drew ?_ | refine aj.drewN ?_ _ | refine aj.alloc ?_ _ | refine aj.aJ ?_ (by assumption) | refine aj.setCell ?_ (by first | omega | (simp;done) | (simp;omega)) _))))).mono ?_
 rintro e w1 ⟨v1,rfl,ni,aV⟩
 obtain ⟨s2,p2,n2,k2,rfl⟩:=ni.ij
 obtain ⟨wX,jw,_⟩:=ni.parts
 have CC:n2≤1073741824:=by rw [wX];omega
 have HN2:=Lib.hid wX
 have HR2:=Lib.hid jw
 have jK:aj w w1:=lJ.aJ aV
 have hf1:=tt s2 p2 n2 k2 w1
 have hf2:=tu s2 p2 n2 k2 w1
 clear wX jw ni
 go_wp2_with fail
 refine (iL _ n2 _ _ (HR2.out.below jK) CC).mono ?_
 rintro e w3 ⟨v3,rfl,EN,cD⟩
 replace cD:aj _ w3:=cD
 obtain ⟨q3,l3,rfl,_,_,_⟩:=Own.form EN
 have FC:=(aW.bj (w':=w3) b2 (by (with_reducible (repeat (first | assumption | exact aj.refl _ | refine aj.drew ?_ | refine aj.drewN ?_ _ | refine aj.alloc ?_ _ | refine aj.aJ ?_ (by assumption) | refine aj.setCell ?_ (by first | omega | (simp;done) | (simp;omega)) _)))))
 have FB:aj w w3:=(by (with_reducible (repeat (first | assumption | exact aj.refl _ | refine aj.drew ?_ | refine aj.drewN ?_ _ | refine aj.alloc ?_ _ | refine aj.aJ ?_ (by assumption) | refine aj.setCell ?_ (by first | omega | (simp;done) | (simp;omega)) _))))
 have HO:=Lib.hid (Own.bB EN FC (by decide) (.bool false) (.slice q3 n2 l3))
 obtain ⟨e5,e6,g5,g6⟩:=FC.two
 clear EN
 have Aa:=FC.bB (.bool (false)) (.slice q3 (n2) l3)
 have Ab:=aj.bB FB (b:=w.heap.size + 1) (by omega) (.bool (false)) (.slice q3 (n2) l3)
 go_wp2
 generalize (w3.setCell ⟨w.heap.size + 1,0,none⟩ (.bool (false))).setCell ⟨w.heap.size + 1,1,none⟩ (.slice q3 (n2) l3)=wz at *
 obtain ⟨Ac,Ad,_,_⟩:=Aa.two
 refine bodyPost_ret (v:=.agg #[.bool (false),.slice q3 (n2) l3]) (by simp [results,Tryz.results129,go_sem,Ac,Ad]) rfl (bA.out _ _ ?_)
 exact ⟨_,rfl,aC.ofNat (Own.mono HO.out jK.size) HN2.out,Ab⟩
set_option maxHeartbeats 1000000 in
theorem oZ (v:Value) (X:Int) (j:Nat) (w:World) (hv:bP w v X j):
  Calls Tryz.prog 43 #[v] w fun e w'=>e=.returned (.int .i64 X.sign)∧aj w w':=by
 obtain ⟨s,p,n,c,rfl⟩:=hv.form
 refine aO fun R' bA=> ?_
 have HV:=Lib.hid hv
 have lJ:=(aj.refl w).alloc (.cells #[.bool s,.slice p n c] 24)
 clear hv
 go_enter Tryz.func43,Tryz.ntmps43
 go_wp2_with fail
 generalize w.alloc _=W at *
 refine (fW _ X j w _ HV.out (by (with_reducible (repeat (first | assumption | exact aj.refl _ | refine aj.drew ?_ | refine aj.drewN ?_ _ | refine aj.alloc ?_ _ | refine aj.aJ ?_ (by assumption) | refine aj.setCell ?_ (by first | omega | (simp;done) | (simp;omega)) _))))).mono ?_
 rintro e w1 ⟨v1,rfl,ni,aV⟩
 obtain ⟨s2,p2,n2,k2,rfl⟩:=ni.ij
 obtain ⟨wX,_,hX⟩:=ni.parts
 have jK:aj w w1:=lJ.aJ aV
 have jn:=ni.sgn
 clear ni
 cases s2
 ·by_cases h0:X=0
  ·subst h0
   have:n2=0:=by rw [wX];simp [bC]
   subst this
   clear wX hX jn
   go_wp2
   exact bA.out _ _ ⟨rfl,jK.alloc _⟩
  ·have hp:0 < n2:=by rw [wX];exact df (by omega)
   have hs:X.sign=1:=eX (by simp at hX;omega)
   rw [hs] at bA
   clear wX hX jn
   have Cp:(0:Int) < (n2:Int):=by omega
   go_wp2
   exact bA.out _ _ ⟨rfl,jK.alloc _⟩
 ·have hs:X.sign= -1:=sign_neg (of_decide_eq_true jn.symm)
  rw [hs] at bA
  clear wX hX jn
  go_wp2
  exact bA.out _ _ ⟨rfl,jK.alloc _⟩
theorem wY (v u:Value) (X Y:Int) (j k:Nat) (w:World) (hv:bP w v X j) (hu:bP w u Y k) (hj:j≤1073741824) (hk:k≤1073741824):
  Calls Tryz.prog 41 #[v,u] w fun e w'=>e=.returned (.int .i64 (X - Y).sign)∧aj w w':=by
 obtain ⟨s,p,n,c,rfl⟩:=hv.form
 obtain ⟨t,q,m,d,rfl⟩:=hu.form
 refine aO fun R' bA=> ?_
 obtain ⟨b1,b2,lJ⟩:=ln w 24 24 #[.bool s,.slice p n c] #[.bool t,.slice q m d]
 have HV:=Lib.hid (hv.bj lJ)
 have HU:=Lib.hid (hu.bj lJ)
 clear hv hu
 go_enter Tryz.func41,Tryz.ntmps41
 go_wp2_with fail
 generalize (w.alloc _).alloc _=W at *
 refine (Li _ _ X Y j k _ HV.out HU.out hj hk).mono ?_
 rintro e w1 ⟨r,rfl,ho,aV⟩
 go_wp2_with fail
 refine (oZ _ (X - Y) _ _ (ho.rd.to (Nat.le_refl _))).mono ?_
 rintro e w2 ⟨rfl,bm⟩
 go_wp2
 exact bA.out _ _ ⟨rfl,(lJ.aJ aV).aJ bm⟩
theorem u64neg {n:Int} (h0:n < 0) (h1: -9223372036854775808≤n):IntKind.u64.wrap (-(IntKind.u64.wrap n))=(n.natAbs:Int):=by
 rw [rz,rz];omega
theorem u64pos {n:Int} (h0:0≤n) (h1:n≤9223372036854775807):IntKind.u64.wrap n=(n.natAbs:Int):=by
 rw [rz];omega
theorem uj {a:Nat}:aq [a % 4294967296,a / 4294967296]=a:=by
 rw [fj,fj,dY];omega
set_option maxRecDepth 100000 in
set_option maxHeartbeats 1000000 in
theorem Gy (n:Int) (w:World) (h0: -9223372036854775808≤n) (h1:n≤9223372036854775807):
  Calls Tryz.prog 82 #[.int .i64 n] w fun e w'=>∃ r,e=.returned r∧aC w' w.heap.size r n∧aj w w':=by
 refine aO fun R' bA=> ?_
 obtain ⟨a,ha⟩:∃ a,a=n.natAbs:=⟨_,rfl⟩
 have HA:=Lib.hid ha
 have ha2:a < 18446744073709551616:=by omega
 have jc:=aW.new w 24 #[.bool false,.slice none 0 0]
 have lJ:=(aj.refl w).alloc (.cells #[.bool false,.slice none 0 0] 24)
 have hRl:=Rd.lit2 (w:=w.alloc (.cells #[.bool false,.slice none 0 0] 24)) (k:=.u32) (e:=117) (x:=(a:Int) % 4294967296) (y:=(a:Int) / 4294967296) (a:=a % 4294967296) (b:=a / 4294967296) (by omega) (by omega)
 rw [World.size_alloc] at hRl
 go_enter Tryz.func82,Tryz.ntmps82
 by_cases hn:n < 0
 ·have e1:=u64neg hn h0
  rw [←ha] at e1
  have HN:=Lib.hid hn
  clear ha
  go_wp2_with fail
  refine (jb _ 2 [a % 4294967296,a / 4294967296] _ hRl (bV.cons (by omega) (bV.cons (by omega) bV.nil)) (by omega)).mono ?_
  rintro e w1 ⟨v1,rfl,tr,aV⟩
  replace aV:aj _ w1:=aV
  rw [uj] at tr
  obtain ⟨p1,k1,rfl,_,_,_⟩:=Own.form tr
  generalize hL:(limbs a).length=L at *
  have HL:=Lib.hid hL
  have FC1:=(jc.alloc (.cells #[.int .u32 ((a:Int) % 4294967296),.int .u32 ((a:Int) / 4294967296)] 117)).bj aV
  have FB1:aj w w1:=(((aj.refl w).alloc _).alloc _).aJ aV
  have qT:=Lib.hid tr
  clear tr hL aV
  go_wp2_with fail
  refine (fo _ _ _ _ _).mono ?_
  rintro e w3 ⟨sg,rfl,jn,cD⟩
  have FC:=FC1.bj cD
  have FB:=FB1.aJ cD
  obtain ⟨e5,e6,g5,g6⟩:=FC.two
  have HO:=Lib.hid (Own.bB (Own.below qT.out cD) FC (by decide) (.bool sg) (.slice p1 L k1))
  clear qT FC1
  have Aa:=FC.bB (.bool (sg)) (.slice p1 (L) k1)
  have Ab:=aj.bB FB (b:=w.heap.size) (by omega) (.bool (sg)) (.slice p1 (L) k1)
  go_wp2
  generalize (w3.setCell ⟨w.heap.size,0,none⟩ (.bool (sg))).setCell ⟨w.heap.size,1,none⟩ (.slice p1 (L) k1)=wz at *
  obtain ⟨Ac,Ad,_,_⟩:=Aa.two
  refine bodyPost_ret (v:=.agg #[.bool (sg),.slice p1 (L) k1]) (by simp [results,Tryz.results82,go_sem,Ac,Ad]) rfl (bA.out _ _ ?_)
  rw [jn.out]
  refine ⟨_,rfl,aC.of (m:=a) (by rw [HL.out];exact Own.mono HO.out (by simp;omega)) HL.out.symm _ ?_,Ab⟩
  have:=HN.out
  have:=HA.out
  simp;omega
 ·have e1:=u64pos (by omega:0≤n) h1
  rw [←ha] at e1
  have HN:=Lib.hid hn
  clear ha
  go_wp2_with fail
  refine (jb _ 2 [a % 4294967296,a / 4294967296] _ hRl (bV.cons (by omega) (bV.cons (by omega) bV.nil)) (by omega)).mono ?_
  rintro e w1 ⟨v1,rfl,tr,aV⟩
  replace aV:aj _ w1:=aV
  rw [uj] at tr
  obtain ⟨p1,k1,rfl,_,_,_⟩:=Own.form tr
  generalize hL:(limbs a).length=L at *
  have HL:=Lib.hid hL
  have FC1:=(jc.alloc (.cells #[.int .u32 ((a:Int) % 4294967296),.int .u32 ((a:Int) / 4294967296)] 117)).bj aV
  have FB1:aj w w1:=(((aj.refl w).alloc _).alloc _).aJ aV
  have qT:=Lib.hid tr
  clear tr hL aV
  go_wp2_with fail
  refine (fo _ _ _ _ _).mono ?_
  rintro e w3 ⟨sg,rfl,jn,cD⟩
  have FC:=FC1.bj cD
  have FB:=FB1.aJ cD
  obtain ⟨e5,e6,g5,g6⟩:=FC.two
  have HO:=Lib.hid (Own.bB (Own.below qT.out cD) FC (by decide) (.bool sg) (.slice p1 L k1))
  clear qT FC1
  have Aa:=FC.bB (.bool (sg)) (.slice p1 (L) k1)
  have Ab:=aj.bB FB (b:=w.heap.size) (by omega) (.bool (sg)) (.slice p1 (L) k1)
  go_wp2
  generalize (w3.setCell ⟨w.heap.size,0,none⟩ (.bool (sg))).setCell ⟨w.heap.size,1,none⟩ (.slice p1 (L) k1)=wz at *
  obtain ⟨Ac,Ad,_,_⟩:=Aa.two
  refine bodyPost_ret (v:=.agg #[.bool (sg),.slice p1 (L) k1]) (by simp [results,Tryz.results82,go_sem,Ac,Ad]) rfl (bA.out _ _ ?_)
  rw [jn.out]
  refine ⟨_,rfl,aC.of (m:=a) (by rw [HL.out];exact Own.mono HO.out (by simp;omega)) HL.out.symm _ ?_,Ab⟩
  have:=HN.out
  have:=HA.out
  simp;omega
end Go.Proofs.YtabalinjfgcfeaaGreat
namespace Go.Proofs.YtabalinjfgcfeaaGreat
open Go.RowKit
def qC (rows:List (List Nat)):Nat:=rows.foldl (fun a r=>Nat.gcd a (aq r)) 0
theorem Iy (rows:List (List Nat)) (r:List Nat):qC (rows++[r])=Nat.gcd (qC rows) (aq r):=by simp [qC,List.foldl_append]
theorem Lk {x y:Nat}:Nat.gcd y (x % y)=Nat.gcd x y:=by rw [Nat.gcd_comm,←Nat.gcd_rec,Nat.gcd_comm]
def GcdOut (w:World) (B:Nat) (rows:List (List Nat)) (g:Nat) (av iv:Value) (wr:World):Prop:=
 ∃ k,k≤rows.length∧g=rows.length - k∧iv=.int .i64 (k:Int)∧wr.ownsRow B 117 1 av (limbs (qC (rows.take k))).length (ints .u32 (limbs (qC (rows.take k))))∧(limbs (qC (rows.take k))).length≤536870912∧Below B w wr
def GcdIn (w:World) (B G:Nat) (g:Nat) (av bv:Value) (wr:World):Prop:=
 ∃ x,Nat.gcd x g=G∧wr.ownsRow B 117 1 av (limbs x).length (ints .u32 (limbs x))∧wr.ownsRow B 117 1 bv (limbs g).length (ints .u32 (limbs g))∧(limbs x).length≤536870912∧(limbs g).length≤536870912∧Below B w wr
set_option maxRecDepth 100000 in
set_option maxHeartbeats 2000000 in
theorem Ll (va:Value) (rows:List (List Nat)) (w:World) (hr:ic w va rows) (hx:∀ xs∈rows,bV xs∧xs.length≤536870912) (hn:rows.length≤1048576):
  Calls Tryz.prog 126 #[va] w fun e w'=>∃ v',e=.returned v'∧w'.ownsRow w.heap.size 117 1 v' (limbs (qC rows)).length (ints .u32 (limbs (qC rows)))∧Below w.heap.size w w':=by
 obtain ⟨p,c,rfl,eT,eV⟩:=hr.form
 have Hr:=Lib.hid hr
 have HL:=Lib.hid hx
 obtain ⟨B,hB⟩:∃ B,B=w.heap.size:=⟨_,rfl⟩
 have HB:=Lib.hid hB
 obtain ⟨N,hN⟩:∃ N,N=rows.length:=⟨_,rfl⟩
 rw [←hN] at eT hn ⊢
 have HN:=Lib.hid hN
 rw [←hB]
 clear hx hr hB hN
 refine aO fun R' bA=> ?_
 go_enter Tryz.func126,Tryz.ntmps126
 go_wp2
 go_loopg [3,11] N (fun g av iv wr=>GcdOut w B rows g av iv wr)
 case atStart=>exact ⟨0,Nat.zero_le _,by rw [HN.out];rfl,rfl,by simp [qC,bC];exact World.ownsRow_nil _ _ _ _,by simp [qC,bC],Below.refl _ _⟩
 case round=>
  obtain ⟨k,hk,hgk,rfl,aI,hlen,hb⟩:=hrel
  have HO:=Lib.hid aI
  have gB:=Lib.hid hb
  have HGK:=Lib.hid hgk
  have HLEN:=Lib.hid hlen
  rw [←HN.out] at hk
  clear aI hb hgk hlen
  by_cases rh:k < N
  ·obtain ⟨b1,o1,u,xs,rfl,gh,qg,hru⟩:=((Hr.out.below (by have:=gB.out;rwa [HB.out] at this)).at (k:=k) (by rw [←HN.out];exact rh))
   have vg:=Lib.hid gh
   have HRU:=Lib.hid hru
   clear gh hru
   have vf:B≤wr.heap.size:=by have:=gB.out.size;have:=HB.out;omega
   obtain ⟨zI,xU⟩:=HL.out xs (List.mem_of_getElem? vg.out)
   obtain ⟨a,ha⟩:∃ a,a=qC (rows.take k):=⟨_,rfl⟩
   obtain ⟨y,hy⟩:∃ y,y=aq xs:=⟨_,rfl⟩
   have jJ:(limbs y).length≤536870912:=by rw [hy];exact Nat.le_trans (ib zI) xU
   have HL1:=Lib.hid zI
   have HL2:=Lib.hid xU
   have HYL:=Lib.hid jJ
   have HG:Hid (Nat.gcd a y=qC (rows.take (k + 1))):=by show _=_;rw [bt vg.out,Iy,ha,hy]
   have HA:=Lib.hid ha
   have HY:=Lib.hid hy
   clear ha hy zI xU jJ
   go_wp2_with fail
   refine (jb _ _ xs _ HRU.out HL1.out (by have:=HL2.out;omega)).mono ?_
   rintro e w2 ⟨v',rfl,jU,bm⟩
   rw [←HY.out] at jU
   have tr:=Own.below HO.out bm
   rw [←HA.out] at tr
   have qT:=Lib.hid tr
   clear tr
   have mV:=Lib.hid (Own.mono jU vf)
   have tW:=Lib.hid (gB.out.trans (bm.mono vf))
   clear jU bm qg
   go_wp2_with fail
   go_loopg [3,5] y (fun g av bv wr=>GcdIn w B (Nat.gcd a y) g av bv wr)
   case atStart=>exact ⟨a,rfl,qT.out,mV.out,by rw [HA.out];exact HLEN.out,HYL.out,tW.out⟩
   case round=>
    obtain ⟨x,FU,hox,hoy,sL,nL,jK⟩:=hrel
    have HXY:=Lib.hid FU
    have HOX:=Lib.hid hox
    have HOY:=Lib.hid hoy
    have HLX:=Lib.hid sL
    have HLY:=Lib.hid nL
    have HBX:=Lib.hid jK
    obtain ⟨py,cy,rfl,_,_,_⟩:=Own.form hoy
    clear FU hox hoy sL nL jK
    by_cases Ln:gk=0
    ·subst Ln
     have xV:(limbs 0).length=0:=by rw [bC];rfl
     rw [xV]
     have hxg:x=qC (rows.take (k + 1)):=by rw [←HG.out,←HXY.out,Nat.gcd_zero_right]
     have HXG:=Lib.hid hxg
     clear hxg xV
     go_wp2_with fail
     go_roundg (N - (k + 1))
     case measure=>have:=HGK.out;have:=HN.out;omega
     case rel=>exact ⟨k + 1,by rw [←HN.out];omega,by rw [HN.out],by go_num,by rw [←HXG.out];exact HOX.out,by rw [←HXG.out];exact HLX.out,HBX.out⟩
    ·have hp:(0:Int) < ((limbs gk).length:Int):=by have:=df Ln;omega
     have HG0:=Lib.hid Ln
     obtain ⟨L,hL⟩:∃ L,L=(limbs gk).length:=⟨_,rfl⟩
     rw [←hL] at hp ⊢
     have HL:=Lib.hid hL
     have hbx:B≤wr.heap.size:=by have:=HBX.out.size;have:=HB.out;omega
     clear Ln hL
     go_wp2_with fail
     refine (tV _ _ _ _ _ _ _ (Rd.own HOX.out) (by rw [HL.out];exact Rd.own HOY.out) (ay _) (ay _) HLX.out HLY.out).mono ?_
     rintro e w3 ⟨⟨h,rfl⟩ | ⟨h,vq,vr,rfl,BF,vU⟩,cD⟩
     ·exact absurd (by rw [au] at h;exact h) HG0.out
     rw [au,au] at vU
     have hlt:x % gk < gk:=Nat.mod_lt _ (Nat.pos_iff_ne_zero.2 HG0.out)
     have HLT:=Lib.hid hlt
     have HOR:=Lib.hid (Own.mono vU hbx)
     have HOG:=Lib.hid (Own.below HOY.out cD)
     have JE:=Lib.hid (HBX.out.trans (cD.mono hbx))
     clear BF vU cD h hlt
     go_wp2_with fail
     go_roundg (x % gk)
     case measure=>exact HLT.out
     case rel=>exact ⟨gk,by rw [Lk];exact HXY.out,by rw [HL.out];exact HOG.out,HOR.out,HLY.out,Nat.le_trans (cw (Nat.le_of_lt HLT.out)) HLY.out,JE.out⟩
  ·obtain rfl:k=N:=by omega
   go_wp2_with fail
   refine (iL _ _ _ _ (Rd.own HO.out) (by have:=HLEN.out;omega)).mono ?_
   rintro e w2 ⟨v',rfl,jU,bm⟩
   have vf:B≤wr.heap.size:=by have:=gB.out.size;have:=HB.out;omega
   go_wp2_with fail
   refine bA.out _ _ ⟨_,rfl,?_,gB.out.trans (bm.mono vf)⟩
   have:=Own.mono jU vf
   rwa [List.take_of_length_le (by rw [HN.out];exact Nat.le_refl _)] at this
end Go.Proofs.YtabalinjfgcfeaaGreat
namespace Go.Proofs.YtabalinjfgcfeaaGreat
open Go.RowKit
theorem Lp (x y:Nat):qC [limbs x,limbs y]=Nat.gcd x y:=by simp [qC,au]
set_option maxRecDepth 100000 in
set_option maxHeartbeats 2000000 in
theorem CE (v u:Value) (X Y:Int) (j k:Nat) (w:World) (hv:bP w v X j) (hu:bP w u Y k) (hj:j≤536870912) (hk:k≤536870912):
  Calls Tryz.prog 103 #[v,u] w fun e w'=>∃ r,e=.returned r∧aC w' w.heap.size r (Int.gcd X Y:Int)∧aj w w':=by
 obtain ⟨s,p,n,c,rfl⟩:=hv.form
 obtain ⟨t,q,m,d,rfl⟩:=hu.form
 refine aO fun R' bA=> ?_
 obtain ⟨b1,b2,b3,lJ⟩:=my w 24 24 24 #[.bool s,.slice p n c] #[.bool t,.slice q m d] #[.bool false,.slice none 0 0]
 have sL:=hv.len
 have nL:=hu.len
 have HJ:=Lib.hid (Nat.le_trans sL hj)
 have HK:=Lib.hid (Nat.le_trans nL hk)
 have HV:=Lib.hid hv
 have HU:=Lib.hid hu
 have hsz:w.heap.size + 3≤(((w.alloc (.cells #[.bool s,.slice p n c] 24)).alloc (.cells #[.bool t,.slice q m d] 24)).alloc (.cells #[.bool false,.slice none 0 0] 24)).heap.size:=by simp
 clear hv hu hj hk sL nL
 go_enter Tryz.func103,Tryz.ntmps103
 go_wp2_with fail
 generalize ((w.alloc _).alloc _).alloc _=W at *
 have HS:=Lib.hid (fun w' (h:aA W (w.heap.size + 1 + 1) w')=>And.intro (h.cells b1 (by omega)) (h.cells b2 (by omega)))
 obtain ⟨c1,c2,_,_⟩:=b1.two
 obtain ⟨c3,c4,_,_⟩:=b2.two
 obtain ⟨c5,c6,f5,f6⟩:=b3.two
 go_region_held3 (fun w'=>(w'.cell? ⟨w.heap.size,0,none⟩=some (.bool s)∧w'.cell? ⟨w.heap.size,1,none⟩=some (.slice p n c))∧w'.cell? ⟨w.heap.size + 1,0,none⟩=some (.bool t)∧w'.cell? ⟨w.heap.size + 1,1,none⟩=some (.slice q m d)) ((refine HS.out _ ?_;(with_reducible (repeat (first | exact aA.refl _ _ | refine aA.drew ?_ | refine aA.drewN ?_ _ | refine aA.alloc ?_ _ | refine aA.set ?_ _ | refine aA.aJ ?_ (by assumption) | refine aA.nW ?_ (by first | omega | (simp;done) | (simp;omega)) _))))) (first
  | (go_at_call_of 79 (Value.slice p n c);refine (fW _ X j w _ HV.out (by (with_reducible (repeat (first | assumption | exact aj.refl _ | refine aj.drew ?_ | refine aj.drewN ?_ _ | refine aj.alloc ?_ _ | refine aj.aJ ?_ (by assumption) | refine aj.setCell ?_ (by first | omega | (simp;done) | (simp;omega)) _))))).mono ?_;rintro e w1 ⟨u1,rfl,vA,aV⟩;obtain ⟨s1,p1,n1,k1,rfl⟩:=vA.ij;have hf1:=tt s1 p1 n1 k1;have hf2:=tu s1 p1 n1 k1)
  | (go_at_call_of 79 (Value.slice q m d);refine (fW _ Y k w _ HU.out (by (with_reducible (repeat (first | assumption | exact aj.refl _ | refine aj.drew ?_ | refine aj.drewN ?_ _ | refine aj.alloc ?_ _ | refine aj.aJ ?_ (by assumption) | refine aj.setCell ?_ (by first | omega | (simp;done) | (simp;omega)) _))))).mono ?_;rintro e w2 ⟨u2,rfl,vB,bm⟩;obtain ⟨s2,p2,n2,k2,rfl⟩:=vB.ij;have hf3:=tt s2 p2 n2 k2;have hf4:=tu s2 p2 n2 k2;have HP1:=Lib.hid vA.parts;have HP2:=Lib.hid vB.parts)
  | (go_at_call 126;refine (Ll _ [limbs X.natAbs,limbs Y.natAbs] _ (ic.two (Ga rfl) (by rw [←HP1.out.1];exact HP1.out.2.1.below (by show aj _ _;(with_reducible (repeat (first | assumption | exact aj.refl _ | refine aj.drew ?_ | refine aj.drewN ?_ _ | refine aj.alloc ?_ _ | refine aj.aJ ?_ (by assumption) | refine aj.setCell ?_ (by first | omega | (simp;done) | (simp;omega)) _))))) (by rw [←HP2.out.1];exact HP2.out.2.1.below (by show aj _ _;(with_reducible (repeat (first | assumption | exact aj.refl _ | refine aj.drew ?_ | refine aj.drewN ?_ _ | refine aj.alloc ?_ _ | refine aj.aJ ?_ (by assumption) | refine aj.setCell ?_ (by first | omega | (simp;done) | (simp;omega)) _)))))) (fun xs hx=>by rcases List.mem_cons.1 hx with rfl | hx;exact ⟨ay _,HJ.out⟩;obtain rfl:=List.mem_singleton.1 hx;exact ⟨ay _,HK.out⟩) (by show 2≤1048576;omega)).mono ?_;rintro e w3 ⟨v3,rfl,EN,cD⟩;replace cD:aj _ w3:=cD;rw [Lp] at EN;obtain ⟨p3,k3,rfl,_,_,_⟩:=Own.form EN)
  | (go_at_call 80;refine (fo _ _ _ _ _).mono ?_;rintro e w4 ⟨sg,rfl,jn,gU⟩;obtain ⟨e5,e6,g5,g6⟩:=(aW.bj (w':=w4) b3 (by (with_reducible (repeat (first | assumption | exact aj.refl _ | refine aj.drew ?_ | refine aj.drewN ?_ _ | refine aj.alloc ?_ _ | refine aj.aJ ?_ (by assumption) | refine aj.setCell ?_ (by first | omega | (simp;done) | (simp;omega)) _))))).two)
  | fail)
 have FC:=(aW.bj (w':=w4) b3 (by (with_reducible (repeat (first | assumption | exact aj.refl _ | refine aj.drew ?_ | refine aj.drewN ?_ _ | refine aj.alloc ?_ _ | refine aj.aJ ?_ (by assumption) | refine aj.setCell ?_ (by first | omega | (simp;done) | (simp;omega)) _)))))
 have FB:aj w w4:=(by (with_reducible (repeat (first | assumption | exact aj.refl _ | refine aj.drew ?_ | refine aj.drewN ?_ _ | refine aj.alloc ?_ _ | refine aj.aJ ?_ (by assumption) | refine aj.setCell ?_ (by first | omega | (simp;done) | (simp;omega)) _))))
 have FZ:aj w (w2.alloc (.cells #[.slice p1 n1 k1,.slice p2 n2 k2] 22)):=(by (with_reducible (repeat (first | assumption | exact aj.refl _ | refine aj.drew ?_ | refine aj.drewN ?_ _ | refine aj.alloc ?_ _ | refine aj.aJ ?_ (by assumption) | refine aj.setCell ?_ (by first | omega | (simp;done) | (simp;omega)) _))))
 generalize hL:(limbs (X.natAbs.gcd Y.natAbs)).length=L at *
 have HL:=Lib.hid hL
 have HO:=Lib.hid (Own.bB (Own.below EN gU) FC (by decide) (.bool sg) (.slice p3 L k3))
 clear EN hL
 have Aa:=FC.bB (.bool (sg)) (.slice p3 (L) k3)
 have Ab:=aj.bB FB (b:=w.heap.size + 1 + 1) (by omega) (.bool (sg)) (.slice p3 (L) k3)
 go_wp2
 generalize (w4.setCell ⟨w.heap.size + 1 + 1,0,none⟩ (.bool (sg))).setCell ⟨w.heap.size + 1 + 1,1,none⟩ (.slice p3 (L) k3)=wz at *
 obtain ⟨Ac,Ad,_,_⟩:=Aa.two
 refine bodyPost_ret (v:=.agg #[.bool (sg),.slice p3 (L) k3]) (by simp [results,Tryz.results103,go_sem,Ac,Ad]) rfl (bA.out _ _ ?_)
 rw [jn.out]
 refine ⟨_,rfl,aC.of (m:=X.natAbs.gcd Y.natAbs) (by rw [HL.out];exact Own.mono HO.out FZ.size) HL.out.symm _ ?_,Ab⟩
 simp [Int.gcd]
end Go.Proofs.YtabalinjfgcfeaaGreat
namespace Go.Proofs.YtabalinjfgcfeaaGreat
open Go.RowKit
theorem boxes4 (w:World) (t t' DV t3:TypeId) (cs ig pI cs3:Array Value):aW ((((w.alloc (.cells cs t)).alloc (.cells ig t')).alloc (.cells pI DV)).alloc (.cells cs3 t3)) w.heap.size t cs∧aW ((((w.alloc (.cells cs t)).alloc (.cells ig t')).alloc (.cells pI DV)).alloc (.cells cs3 t3)) (w.heap.size + 1) t' ig∧
  aW ((((w.alloc (.cells cs t)).alloc (.cells ig t')).alloc (.cells pI DV)).alloc (.cells cs3 t3)) (w.heap.size + 2) DV pI∧aW ((((w.alloc (.cells cs t)).alloc (.cells ig t')).alloc (.cells pI DV)).alloc (.cells cs3 t3)) (w.heap.size + 3) t3 cs3∧
  aj w ((((w.alloc (.cells cs t)).alloc (.cells ig t')).alloc (.cells pI DV)).alloc (.cells cs3 t3)):=
 ⟨(my w t t' DV cs ig pI).1.alloc _,(my w t t' DV cs ig pI).2.1.alloc _,(my w t t' DV cs ig pI).2.2.1.alloc _,aW.newAt (by simp) _ _,(my w t t' DV cs ig pI).2.2.2.alloc _⟩
def wZ (w w':World) (X Y:Int) (e:Ending):Prop:=
 (Y=0∧∃ v u,e=.returned (.tuple #[v,u,.int .i64 20])∧aC w' w.heap.size v 0∧aC w' w.heap.size u 0)∨
 (Y≠0∧∃ v u,e=.returned (.tuple #[v,u,.int .i64 0])∧aC w' w.heap.size v (X.fdiv Y)∧aC w' w.heap.size u (X.fmod Y))
def Lq (a b:Nat) (s t:Bool) (M R:Nat):Prop:=((s=t∨a % b=0)∧M=a / b∧R=a % b)∨(s≠t∧a % b≠0∧M=a / b + 1∧R=b - a % b)
theorem pc {X Y:Int} {a b M R:Nat} {s t:Bool} (hX:X=if s=true then -(a:Int) else a) (hY:Y=if t=true then -(b:Int) else b) (hb:b≠0) (h:Lq a b s t M R):
  X.fdiv Y=(if (!(s == t))=true then -(M:Int) else M)∧X.fmod Y=(if t=true then -(R:Int) else R):=by
 unfold Lq at h
 have e:=Nat.div_add_mod a b
 have hlt:=Nat.mod_lt a (Nat.pos_of_ne_zero hb)
 generalize a / b=q at *
 generalize a % b=r at *
 have e':(a:Int)=(b:Int) * (q:Int) + (r:Int):=by rw [←e];simp
 rw [e'] at hX
 have hR:R≤b:=by rcases h with ⟨_,_,rfl⟩ | ⟨_,_,_,rfl⟩ <;> omega
 cases t
 ·have hp:0 < Y:=by simp at hY;omega
  refine (Int.fdiv_fmod_unique hp).2 ?_
  rcases h with ⟨h1,rfl,rfl⟩ | ⟨h1,h2,rfl,rfl⟩
  ·cases s
   ·simp at hX hY ⊢
    subst hX;subst hY
    omega
   ·simp at h1 hX hY ⊢
    subst hX;subst hY;subst h1
    simp only [Int.mul_neg]
    omega
  ·cases s
   ·exact absurd rfl h1
   ·simp at hX hY ⊢
    subst hX;subst hY
    rw [Int.natCast_sub (by omega)]
    simp only [Int.mul_add,Int.mul_neg,Int.mul_one,Int.neg_add]
    omega
 ·have hp:Y < 0:=by simp at hY;omega
  refine (Int.fdiv_fmod_unique' hp).2 ?_
  rcases h with ⟨h1,rfl,rfl⟩ | ⟨h1,h2,rfl,rfl⟩
  ·cases s
   ·simp at h1 hX hY ⊢
    subst hX;subst hY;subst h1
    simp only [Int.neg_mul_neg]
    omega
   ·simp at hX hY ⊢
    subst hX;subst hY
    simp only [Int.neg_mul]
    omega
  ·cases s
   ·simp at hX hY ⊢
    subst hX;subst hY
    rw [Int.natCast_sub (by omega)]
    simp only [Int.mul_add,Int.neg_mul,Int.mul_neg,Int.mul_one,Int.neg_add,Int.neg_neg]
    omega
   ·exact absurd rfl h1
set_option maxRecDepth 100000 in
set_option maxHeartbeats 4000000 in
theorem kK (v u:Value) (X Y:Int) (j k:Nat) (w:World) (hv:bP w v X j) (hu:bP w u Y k) (hj:j≤536870912) (hk:k≤536870912):
  Calls Tryz.prog 114 #[v,u] w fun e w'=>wZ w w' X Y e∧aj w w':=by
 obtain ⟨s,p,n,c,rfl⟩:=hv.form
 obtain ⟨t,q,m,d,rfl⟩:=hu.form
 refine aO fun R' bA=> ?_
 obtain ⟨b1,b2,b3,b4,lJ⟩:=boxes4 w 24 24 24 24 #[.bool s,.slice p n c] #[.bool t,.slice q m d] #[.bool false,.slice none 0 0] #[.bool false,.slice none 0 0]
 have sL:=hv.len
 have nL:=hu.len
 have HJ:=Lib.hid (Nat.le_trans sL hj)
 have HK:=Lib.hid (Nat.le_trans nL hk)
 have HV:=Lib.hid hv
 have HU:=Lib.hid hu
 have hsz:w.heap.size + 4≤((((w.alloc (.cells #[.bool s,.slice p n c] 24)).alloc (.cells #[.bool t,.slice q m d] 24)).alloc (.cells #[.bool false,.slice none 0 0] 24)).alloc (.cells #[.bool false,.slice none 0 0] 24)).heap.size:=by simp
 clear hv hu hj hk sL nL
 go_enter Tryz.func114,Tryz.ntmps114
 go_wp2_with fail
 generalize (((w.alloc _).alloc _).alloc _).alloc _=W at *
 go_cut [7,8] (fun x5 x6 wc=>Gx w W wc 137 X Y x5 x6)
 case first=>
  have HS:=Lib.hid (fun w' (h:aA W (w.heap.size + 1 + 1) w')=>And.intro (h.cells b1 (by omega)) (h.cells b2 (by omega)))
  obtain ⟨c1,c2,_,_⟩:=b1.two
  obtain ⟨c3,c4,_,_⟩:=b2.two
  go_region_held3 (fun w'=>(w'.cell? ⟨w.heap.size,0,none⟩=some (.bool s)∧w'.cell? ⟨w.heap.size,1,none⟩=some (.slice p n c))∧w'.cell? ⟨w.heap.size + 1,0,none⟩=some (.bool t)∧w'.cell? ⟨w.heap.size + 1,1,none⟩=some (.slice q m d)) ((refine HS.out _ ?_;(with_reducible (repeat (first | exact aA.refl _ _ | refine aA.drew ?_ | refine aA.drewN ?_ _ | refine aA.alloc ?_ _ | refine aA.set ?_ _ | refine aA.aJ ?_ (by assumption) | refine aA.nW ?_ (by first | omega | (simp;done) | (simp;omega)) _))))) (first
   | (go_at_call_of 79 (Value.slice p n c);refine (fW _ X j w _ HV.out (by (with_reducible (repeat (first | assumption | exact aj.refl _ | refine aj.drew ?_ | refine aj.drewN ?_ _ | refine aj.alloc ?_ _ | refine aj.aJ ?_ (by assumption) | refine aj.setCell ?_ (by first | omega | (simp;done) | (simp;omega)) _))))).mono ?_;rintro e w1 ⟨u1,rfl,vA,aV⟩;obtain ⟨s1,p1,n1,k1,rfl⟩:=vA.ij;have Gt:=aV.size;(try simp at Gt);(try (have q1:=aW.bj (aW.drew (aW.new _ _ #[_,_])) aV;(try simp at q1);obtain ⟨q1a,q1b,q1c,q1d⟩:=q1.two;have q1l:=q1.lt;have q1n:=Nat.ne_of_lt q1l;have q1m:=Nat.ne_of_gt q1l));(try (have q2:=aW.bj (aW.drew (aW.alloc (aW.new _ _ #[_,_]) _)) aV;(try simp at q2);obtain ⟨q2a,q2b,q2c,q2d⟩:=q2.two;have q2l:=q2.lt;have q2n:=Nat.ne_of_lt q2l;have q2m:=Nat.ne_of_gt q2l)))
   | (go_at_call_of 79 (Value.slice q m d);refine (fW _ Y k w _ HU.out (by (with_reducible (repeat (first | assumption | exact aj.refl _ | refine aj.drew ?_ | refine aj.drewN ?_ _ | refine aj.alloc ?_ _ | refine aj.aJ ?_ (by assumption) | refine aj.setCell ?_ (by first | omega | (simp;done) | (simp;omega)) _))))).mono ?_;rintro e w2 ⟨u2,rfl,vB,bm⟩;obtain ⟨s2,p2,n2,k2,rfl⟩:=vB.ij;have EO:=bm.size;(try simp at EO);(try (have q3:=aW.bj (aW.new _ _ #[_,_]) bm;(try simp at q3);obtain ⟨q3a,q3b,q3c,q3d⟩:=q3.two;have q3l:=q3.lt;have q3n:=Nat.ne_of_lt q3l;have q3m:=Nat.ne_of_gt q3l));(try (have q4:=aW.bj (aW.alloc (aW.new _ _ #[_,_]) _) bm;(try simp at q4);obtain ⟨q4a,q4b,q4c,q4d⟩:=q4.two;have q4l:=q4.lt;have q4n:=Nat.ne_of_lt q4l;have q4m:=Nat.ne_of_gt q4l));(try (have q5:=aW.bj q1 bm;(try simp at q5);obtain ⟨q5a,q5b,q5c,q5d⟩:=q5.two;have q5l:=q5.lt;have q5n:=Nat.ne_of_lt q5l;have q5m:=Nat.ne_of_gt q5l));(try (have q6:=aW.bj q2 bm;(try simp at q6);obtain ⟨q6a,q6b,q6c,q6d⟩:=q6.two;have q6l:=q6.lt;have q6n:=Nat.ne_of_lt q6l;have q6m:=Nat.ne_of_gt q6l));(try (have q7:=aW.bj (aW.alloc q1 _) bm;(try simp at q7);obtain ⟨q7a,q7b,q7c,q7d⟩:=q7.two;have q7l:=q7.lt;have q7n:=Nat.ne_of_lt q7l;have q7m:=Nat.ne_of_gt q7l)))
   | fail)
  all_goals
   go_wp2
   go_meet
   refine ⟨_,_,s1,p1,n1,k1,s2,p2,n2,k2,rfl,rfl,?_,?_,vA,vB,?_⟩
   ·(with_reducible (repeat (first | assumption | exact aW.newAt (by first | rfl | (simp;done)) _ _ | refine aW.alloc ?_ _ | refine aW.drew ?_ | refine aW.bB (u:=.bool false) (v:=.slice none 0 0) ?_ _ _ | refine aW.dz ?_ (by first | omega | (simp;omega)) _ _ | refine aW.bj ?_ (by assumption))))
   ·(with_reducible (repeat (first | assumption | exact aW.newAt (by first | rfl | (simp;done)) _ _ | refine aW.alloc ?_ _ | refine aW.drew ?_ | refine aW.bB (u:=.bool false) (v:=.slice none 0 0) ?_ _ _ | refine aW.dz ?_ (by first | omega | (simp;omega)) _ _ | refine aW.bj ?_ (by assumption))))
   ·(with_reducible (repeat (first | assumption | exact aj.refl _ | refine aj.drew ?_ | refine aj.drewN ?_ _ | refine aj.alloc ?_ _ | refine aj.aJ ?_ (by assumption) | refine aj.setCell ?_ (by first | omega | (simp;done) | (simp;omega)) _)))
 case rest=>
  obtain ⟨g,h,s1,p1,n1,k1,s2,p2,n2,k2,rfl,rfl,B5,B6,vA,vB,hbc⟩:=hcut
  obtain ⟨sP,iD,hX⟩:=vA.parts
  obtain ⟨wX,jw,hY⟩:=vB.parts
  have B3:=b3.bj hbc
  have B4:=b4.bj hbc
  have jK:aj w wc:=lJ.aJ hbc
  have HR1:=Lib.hid (iD.below jK)
  have HR2:=Lib.hid (jw.below jK)
  have HN1:=Lib.hid sP
  have HN2:=Lib.hid wX
  have HX:=Lib.hid hX
  have HY:=Lib.hid hY
  have HM1:Hid (n1≤536870912):=by show _≤_;rw [sP];exact HJ.out
  have HM2:Hid (n2≤536870912):=by show _≤_;rw [wX];exact HK.out
  have JB:w.heap.size + 4≤wc.heap.size:=Nat.le_trans hsz hbc.size
  clear b1 b2 b3 b4 hbc lJ vA vB iD jw hX hY sP wX hsz
  obtain ⟨c1,c2,_,_⟩:=B5.two
  obtain ⟨c3,c4,_,_⟩:=B6.two
  go_wp2_with fail
  refine (tV _ _ n1 n2 _ _ _ HR1.out HR2.out (ay _) (ay _) HM1.out HM2.out).mono ?_
  rw [au,au]
  rintro e w3 ⟨hd,cD⟩
  replace cD:aj _ w3:=cD
  have F5:=B5.bj cD
  have F6:=B6.bj cD
  have F3:=B3.bj cD
  have F4:=B4.bj cD
  have hbw3:=jK.aJ cD
  obtain ⟨e1,e2,_,_⟩:=F5.two
  obtain ⟨e3,e4,_,_⟩:=F6.two
  obtain ⟨e5,e6,f5,f6⟩:=F3.two
  obtain ⟨e7,e8,f7,f8⟩:=F4.two
  rcases hd with ⟨h0,rfl⟩ | ⟨h0,vq,vr,rfl,BF,vU⟩
  ·have hY0:Y=0:=by have:=HY.out;split at this <;> omega
   have G3:=(F3.bB (.bool false) (.slice none 0 0)).dz (b':=w.heap.size + 3) (by omega) (.bool false) (.slice none 0 0)
   have G4:=(F4.dz (b':=w.heap.size + 2) (by omega) (.bool false) (.slice none 0 0)).bB (.bool false) (.slice none 0 0)
   have EP:=(hbw3.bB (b:=w.heap.size + 2) (by omega) (.bool false) (.slice none 0 0)).bB (b:=w.heap.size + 3) (by omega) (.bool false) (.slice none 0 0)
   clear HX HY HN1 HN2 h0
   go_wp2
   generalize (((w3.setCell ⟨w.heap.size + 1 + 1,0,none⟩ (.bool false)).setCell ⟨w.heap.size + 1 + 1,1,none⟩ (.slice none 0 0)).setCell ⟨w.heap.size + 1 + 1 + 1,0,none⟩ (.bool false)).setCell ⟨w.heap.size + 1 + 1 + 1,1,none⟩ (.slice none 0 0)=wz at *
   obtain ⟨d1,d2,_,_⟩:=G3.two
   obtain ⟨d3,d4,_,_⟩:=G4.two
   exact bodyPost_ret (v:=.tuple #[.agg #[.bool false,.slice none 0 0],.agg #[.bool false,.slice none 0 0],.int .i64 20]) (by simp [results,Tryz.results114,go_sem,d1,d2,d3,d4]) rfl (bA.out _ _ ⟨.inl ⟨hY0,_,_,rfl,aC.zero _ _,aC.zero _ _⟩,EP⟩)
  ·obtain ⟨pq,kq,rfl,_,_,_⟩:=Own.form BF
   obtain ⟨pr,kr,rfl,_,_,_⟩:=Own.form vU
   generalize hlq:(limbs (X.natAbs / Y.natAbs)).length=lq at *
   generalize DL:(limbs (X.natAbs % Y.natAbs)).length=lr at *
   have HLQ:=Lib.hid hlq.symm
   have JD:=Lib.hid DL.symm
   have HOQ:=Lib.hid BF
   have HOR:=Lib.hid vU
   have H0:=Lib.hid h0
   clear BF vU hlq DL h0 e2 e6 e8 e5 e7 f5 f6 f7 f8 c1 c2 c3 c4
   by_cases hst:s1=s2
   ·subst hst
    clear e4
    go_wp2_with fail
    have hg3:g≠w.heap.size + 1 + 1:=aW.apart F5 F3 (by decide)
    have hg4:g≠w.heap.size + 1 + 1 + 1:=aW.apart F5 F4 (by decide)
    have hh3:h≠w.heap.size + 1 + 1:=aW.apart F6 F3 (by decide)
    have hh4:h≠w.heap.size + 1 + 1 + 1:=aW.apart F6 F4 (by decide)
    have HS:=Lib.hid (fun w' (hk:aX w3 (w.heap.size + 1 + 1) (w.heap.size + 1 + 1 + 1) w')=>And.intro ((hk.cls F5 hg3 hg4).cell (j:=0) rfl) ((hk.cls F6 hh3 hh4).cell (j:=0) rfl))
    go_region_held3 (fun w'=>w'.cell? ⟨g,0,none⟩=some (.bool s1)∧w'.cell? ⟨h,0,none⟩=some (.bool s1)) ((refine HS.out _ ?_;(with_reducible (repeat (first | exact aX.refl _ _ _ | refine aX.drew ?_ | refine aX.KB ?_ _ | refine aX.pJ ?_ _ | refine aX.aJ ?_ (by assumption)))))) (first
     | (go_at_call_of 80 (Value.slice pq lq kq);refine (fo _ _ _ _ _).mono ?_;rintro e w6 ⟨sg,rfl,jn,mX⟩)
     | (go_at_call_of 80 (Value.slice pr lr kr);refine (fo _ _ _ _ _).mono ?_;rintro e w7 ⟨jD,rfl,jE,uO⟩;obtain ⟨i1,i2,i3,i4⟩:=(aW.bj (w':=w7) F3 (by (with_reducible (repeat (first | assumption | exact aj.refl _ | refine aj.drew ?_ | refine aj.drewN ?_ _ | refine aj.alloc ?_ _ | refine aj.aJ ?_ (by assumption) | refine aj.setCell ?_ (by first | omega | (simp;done) | (simp;omega)) _))))).two;obtain ⟨j1,j2,j3,j4⟩:=(aW.bj (w':=w7) F4 (by (with_reducible (repeat (first | assumption | exact aj.refl _ | refine aj.drew ?_ | refine aj.drewN ?_ _ | refine aj.alloc ?_ _ | refine aj.aJ ?_ (by assumption) | refine aj.setCell ?_ (by first | omega | (simp;done) | (simp;omega)) _))))).two)
     | fail)
    have E3:=(aW.bj (w':=w7) F3 (by (with_reducible (repeat (first | assumption | exact aj.refl _ | refine aj.drew ?_ | refine aj.drewN ?_ _ | refine aj.alloc ?_ _ | refine aj.aJ ?_ (by assumption) | refine aj.setCell ?_ (by first | omega | (simp;done) | (simp;omega)) _)))))
    have E4:=(aW.bj (w':=w7) F4 (by (with_reducible (repeat (first | assumption | exact aj.refl _ | refine aj.drew ?_ | refine aj.drewN ?_ _ | refine aj.alloc ?_ _ | refine aj.aJ ?_ (by assumption) | refine aj.setCell ?_ (by first | omega | (simp;done) | (simp;omega)) _)))))
    have FW:aj w3 w7:=(by (with_reducible (repeat (first | assumption | exact aj.refl _ | refine aj.drew ?_ | refine aj.drewN ?_ _ | refine aj.alloc ?_ _ | refine aj.aJ ?_ (by assumption) | refine aj.setCell ?_ (by first | omega | (simp;done) | (simp;omega)) _))))
    have FB:aj w w7:=(by (with_reducible (repeat (first | assumption | exact aj.refl _ | refine aj.drew ?_ | refine aj.drewN ?_ _ | refine aj.alloc ?_ _ | refine aj.aJ ?_ (by assumption) | refine aj.setCell ?_ (by first | omega | (simp;done) | (simp;omega)) _))))
    have BF:=Own.below (HOQ).out FW
    have vU:=Own.below (HOR).out FW
    have CF:=(Own.bB (Own.bB BF E3 (by decide) (.bool sg) (.slice pq lq kq)) (E4.dz (b':=w.heap.size + 1 + 1) (by omega) (.bool sg) (.slice pq lq kq)) (by decide) (.bool jD) (.slice pr lr kr))
    have CG:=(Own.bB (Own.bB vU E3 (by decide) (.bool sg) (.slice pq lq kq)) (E4.dz (b':=w.heap.size + 1 + 1) (by omega) (.bool sg) (.slice pq lq kq)) (by decide) (.bool jD) (.slice pr lr kr))
    have G3:=(E3.bB (.bool sg) (.slice pq lq kq)).dz (b':=w.heap.size + 1 + 1 + 1) (by omega) (.bool jD) (.slice pr lr kr)
    have G4:=(E4.dz (b':=w.heap.size + 1 + 1) (by omega) (.bool sg) (.slice pq lq kq)).bB (.bool jD) (.slice pr lr kr)
    have EP:=(FB.bB (b:=w.heap.size + 1 + 1) (by omega) (.bool sg) (.slice pq lq kq)).bB (b:=w.heap.size + 1 + 1 + 1) (by omega) (.bool jD) (.slice pr lr kr)
    have Lr:=Lib.hid CF
    have Ls:=Lib.hid CG
    clear BF vU CF CG
    go_wp2
    generalize (((w7.setCell ⟨w.heap.size + 1 + 1,0,none⟩ (.bool sg)).setCell ⟨w.heap.size + 1 + 1,1,none⟩ (.slice pq lq kq)).setCell ⟨w.heap.size + 1 + 1 + 1,0,none⟩ (.bool jD)).setCell ⟨w.heap.size + 1 + 1 + 1,1,none⟩ (.slice pr lr kr)=wz at *
    obtain ⟨d1,d2,_,_⟩:=G3.two
    obtain ⟨d3,d4,_,_⟩:=G4.two
    have sO:=pc HX.out HY.out H0.out (.inl ⟨.inl rfl,rfl,rfl⟩)
    refine bodyPost_ret (v:=.tuple #[.agg #[.bool sg,.slice pq lq kq],.agg #[.bool jD,.slice pr lr kr],.int .i64 0]) (by simp [results,Tryz.results114,go_sem,d1,d2,d3,d4]) rfl (bA.out _ _ ⟨.inr ⟨by have:=H0.out;omega,_,_,rfl,?_,?_⟩,EP⟩)
    ·rw [jn.out]
     exact aC.of (by rw [←(HLQ).out];exact Own.mono Lr.out jK.size) (HLQ).out _ (by simpa using sO.1)
    ·rw [jE.out]
     exact aC.of (by rw [←(JD).out];exact Own.mono Ls.out jK.size) (JD).out _ (by simpa using sO.2)
   ·obtain rfl:s2= !s1:=by cases s1 <;> cases s2 <;> simp_all
    by_cases xZ:X.natAbs % Y.natAbs=0
    ·have xV:lr=0:=by have:=JD.out;rw [xZ,bC] at this;exact this
     have HR0:=Lib.hid xZ
     subst xV
     clear xZ hst e4
     go_wp2_with fail
     have hg3:g≠w.heap.size + 1 + 1:=aW.apart F5 F3 (by decide)
     have hg4:g≠w.heap.size + 1 + 1 + 1:=aW.apart F5 F4 (by decide)
     have hh3:h≠w.heap.size + 1 + 1:=aW.apart F6 F3 (by decide)
     have hh4:h≠w.heap.size + 1 + 1 + 1:=aW.apart F6 F4 (by decide)
     have HS:=Lib.hid (fun w' (hk:aX w3 (w.heap.size + 1 + 1) (w.heap.size + 1 + 1 + 1) w')=>And.intro ((hk.cls F5 hg3 hg4).cell (j:=0) rfl) ((hk.cls F6 hh3 hh4).cell (j:=0) rfl))
     go_region_held3 (fun w'=>w'.cell? ⟨g,0,none⟩=some (.bool s1)∧w'.cell? ⟨h,0,none⟩=some (.bool (!s1))) ((refine HS.out _ ?_;(with_reducible (repeat (first | exact aX.refl _ _ _ | refine aX.drew ?_ | refine aX.KB ?_ _ | refine aX.pJ ?_ _ | refine aX.aJ ?_ (by assumption)))))) (first
      | (go_at_call_of 80 (Value.slice pq lq kq);refine (fo _ _ _ _ _).mono ?_;rintro e w6 ⟨sg,rfl,jn,mX⟩)
      | (go_at_call_of 80 (Value.slice pr 0 kr);refine (fo _ _ _ _ _).mono ?_;rintro e w7 ⟨jD,rfl,jE,uO⟩;obtain ⟨i1,i2,i3,i4⟩:=(aW.bj (w':=w7) F3 (by (with_reducible (repeat (first | assumption | exact aj.refl _ | refine aj.drew ?_ | refine aj.drewN ?_ _ | refine aj.alloc ?_ _ | refine aj.aJ ?_ (by assumption) | refine aj.setCell ?_ (by first | omega | (simp;done) | (simp;omega)) _))))).two;obtain ⟨j1,j2,j3,j4⟩:=(aW.bj (w':=w7) F4 (by (with_reducible (repeat (first | assumption | exact aj.refl _ | refine aj.drew ?_ | refine aj.drewN ?_ _ | refine aj.alloc ?_ _ | refine aj.aJ ?_ (by assumption) | refine aj.setCell ?_ (by first | omega | (simp;done) | (simp;omega)) _))))).two)
      | fail)
     have E3:=(aW.bj (w':=w7) F3 (by (with_reducible (repeat (first | assumption | exact aj.refl _ | refine aj.drew ?_ | refine aj.drewN ?_ _ | refine aj.alloc ?_ _ | refine aj.aJ ?_ (by assumption) | refine aj.setCell ?_ (by first | omega | (simp;done) | (simp;omega)) _)))))
     have E4:=(aW.bj (w':=w7) F4 (by (with_reducible (repeat (first | assumption | exact aj.refl _ | refine aj.drew ?_ | refine aj.drewN ?_ _ | refine aj.alloc ?_ _ | refine aj.aJ ?_ (by assumption) | refine aj.setCell ?_ (by first | omega | (simp;done) | (simp;omega)) _)))))
     have FW:aj w3 w7:=(by (with_reducible (repeat (first | assumption | exact aj.refl _ | refine aj.drew ?_ | refine aj.drewN ?_ _ | refine aj.alloc ?_ _ | refine aj.aJ ?_ (by assumption) | refine aj.setCell ?_ (by first | omega | (simp;done) | (simp;omega)) _))))
     have FB:aj w w7:=(by (with_reducible (repeat (first | assumption | exact aj.refl _ | refine aj.drew ?_ | refine aj.drewN ?_ _ | refine aj.alloc ?_ _ | refine aj.aJ ?_ (by assumption) | refine aj.setCell ?_ (by first | omega | (simp;done) | (simp;omega)) _))))
     have BF:=Own.below (HOQ).out FW
     have vU:=Own.below (HOR).out FW
     have CF:=(Own.bB (Own.bB BF E3 (by decide) (.bool sg) (.slice pq lq kq)) (E4.dz (b':=w.heap.size + 1 + 1) (by omega) (.bool sg) (.slice pq lq kq)) (by decide) (.bool jD) (.slice pr 0 kr))
     have CG:=(Own.bB (Own.bB vU E3 (by decide) (.bool sg) (.slice pq lq kq)) (E4.dz (b':=w.heap.size + 1 + 1) (by omega) (.bool sg) (.slice pq lq kq)) (by decide) (.bool jD) (.slice pr 0 kr))
     have G3:=(E3.bB (.bool sg) (.slice pq lq kq)).dz (b':=w.heap.size + 1 + 1 + 1) (by omega) (.bool jD) (.slice pr 0 kr)
     have G4:=(E4.dz (b':=w.heap.size + 1 + 1) (by omega) (.bool sg) (.slice pq lq kq)).bB (.bool jD) (.slice pr 0 kr)
     have EP:=(FB.bB (b:=w.heap.size + 1 + 1) (by omega) (.bool sg) (.slice pq lq kq)).bB (b:=w.heap.size + 1 + 1 + 1) (by omega) (.bool jD) (.slice pr 0 kr)
     have Lr:=Lib.hid CF
     have Ls:=Lib.hid CG
     clear BF vU CF CG
     go_wp2
     generalize (((w7.setCell ⟨w.heap.size + 1 + 1,0,none⟩ (.bool sg)).setCell ⟨w.heap.size + 1 + 1,1,none⟩ (.slice pq lq kq)).setCell ⟨w.heap.size + 1 + 1 + 1,0,none⟩ (.bool jD)).setCell ⟨w.heap.size + 1 + 1 + 1,1,none⟩ (.slice pr 0 kr)=wz at *
     obtain ⟨d1,d2,_,_⟩:=G3.two
     obtain ⟨d3,d4,_,_⟩:=G4.two
     have sO:=pc HX.out HY.out H0.out (.inl ⟨.inr HR0.out,rfl,rfl⟩)
     refine bodyPost_ret (v:=.tuple #[.agg #[.bool sg,.slice pq lq kq],.agg #[.bool jD,.slice pr 0 kr],.int .i64 0]) (by simp [results,Tryz.results114,go_sem,d1,d2,d3,d4]) rfl (bA.out _ _ ⟨.inr ⟨by have:=H0.out;omega,_,_,rfl,?_,?_⟩,EP⟩)
     ·rw [jn.out]
      exact aC.of (by rw [←(HLQ).out];exact Own.mono Lr.out jK.size) (HLQ).out _ (by simpa using sO.1)
     ·rw [jE.out]
      exact aC.of (by rw [←(JD).out];exact Own.mono Ls.out jK.size) (JD).out _ (by simpa using sO.2)
    ·have hlp:0 < lr:=by have:=JD.out;have:=df xZ;omega
     have Cp:(0:Int) < (lr:Int):=by omega
     have HR0:=Lib.hid xZ
     have Kk:Hid (lq≤536870912):=by show _≤_;rw [HLQ.out];exact Nat.le_trans (cw (Nat.div_le_self _ _)) HJ.out
     clear xZ hst
     go_wp2_with fail
     refine (FY _ _ lq 1 _ [1] _ ((Rd.own HOQ.out).alloc _) (Rd.lit1 rfl) (ay _) (bV.cons (by omega) bV.nil) (by have:=Kk.out;omega) (by omega)).mono ?_
     rintro e w4 ⟨v4,rfl,ho4,gU⟩
     replace gU:aj _ w4:=gU
     rw [au,show aq [1]=1 by rfl] at ho4
     obtain ⟨pm,cm,rfl,_,_,_⟩:=Own.form ho4
     generalize vC:(limbs (X.natAbs / Y.natAbs + 1)).length=nm at *
     have Kd:=Lib.hid vC.symm
     have IA:aj w3 w4:=((aj.refl w3).alloc _).aJ gU
     have Ia:=Lib.hid (Own.mono ho4 (show w3.heap.size≤_ by simp))
     have HOR4:=Lib.hid (Own.below HOR.out IA)
     have HY4:=Lib.hid (HR2.out.below (cD.aJ IA))
     obtain ⟨i1,i2,_,_⟩:=(F6.bj IA).two
     clear ho4 vC gU
     go_wp2_with fail
     refine (zH _ _ n2 lr _ _ _ HY4.out (Rd.own HOR4.out) (ay _) (ay _) (by have:=HM2.out;omega)).mono ?_
     rintro e w5 ⟨⟨h,_⟩ | ⟨_,v5,rfl,ho5⟩,gi⟩
     ·rw [au,au] at h;exact absurd h (by have:=Nat.mod_lt X.natAbs (Nat.pos_of_ne_zero H0.out);omega)
     replace gi:aj _ w5:=gi
     rw [au,au] at ho5
     obtain ⟨pn,cn,rfl,_,_,_⟩:=Own.form ho5
     generalize ER:(limbs (Y.natAbs - X.natAbs % Y.natAbs)).length=nn at *
     have HLN:=Lib.hid ER.symm
     have IB:aj w3 w5:=IA.aJ gi
     have HOM:=Lib.hid (Own.mono (Own.below Ia.out gi) cD.size)
     have HON:=Lib.hid (Own.mono ho5 (Nat.le_trans cD.size IA.size))
     have T3:=F3.bj IB
     have T4:=F4.bj IB
     have T5:=F5.bj IB
     have T6:=F6.bj IB
     have hbw5:=hbw3.aJ IB
     clear ho5 ER gi F3 F4 F5 F6 IA IB cD hbw3 HOQ HOR Ia HOR4 HY4 i1 i2
     obtain ⟨e1,_,_,_⟩:=T5.two
     obtain ⟨e3,_,_,_⟩:=T6.two
     go_wp2_with fail
     have hg3:g≠w.heap.size + 1 + 1:=aW.apart T5 T3 (by decide)
     have hg4:g≠w.heap.size + 1 + 1 + 1:=aW.apart T5 T4 (by decide)
     have hh3:h≠w.heap.size + 1 + 1:=aW.apart T6 T3 (by decide)
     have hh4:h≠w.heap.size + 1 + 1 + 1:=aW.apart T6 T4 (by decide)
     have HS:=Lib.hid (fun w' (hk:aX w5 (w.heap.size + 1 + 1) (w.heap.size + 1 + 1 + 1) w')=>And.intro ((hk.cls T5 hg3 hg4).cell (j:=0) rfl) ((hk.cls T6 hh3 hh4).cell (j:=0) rfl))
     go_region_held3 (fun w'=>w'.cell? ⟨g,0,none⟩=some (.bool s1)∧w'.cell? ⟨h,0,none⟩=some (.bool (!s1))) ((refine HS.out _ ?_;(with_reducible (repeat (first | exact aX.refl _ _ _ | refine aX.drew ?_ | refine aX.KB ?_ _ | refine aX.pJ ?_ _ | refine aX.aJ ?_ (by assumption)))))) (first
      | (go_at_call_of 80 (Value.slice pm nm cm);refine (fo _ _ _ _ _).mono ?_;rintro e w6 ⟨sg,rfl,jn,mX⟩)
      | (go_at_call_of 80 (Value.slice pn nn cn);refine (fo _ _ _ _ _).mono ?_;rintro e w7 ⟨jD,rfl,jE,uO⟩;obtain ⟨i1,i2,i3,i4⟩:=(aW.bj (w':=w7) T3 (by (with_reducible (repeat (first | assumption | exact aj.refl _ | refine aj.drew ?_ | refine aj.drewN ?_ _ | refine aj.alloc ?_ _ | refine aj.aJ ?_ (by assumption) | refine aj.setCell ?_ (by first | omega | (simp;done) | (simp;omega)) _))))).two;obtain ⟨j1,j2,j3,j4⟩:=(aW.bj (w':=w7) T4 (by (with_reducible (repeat (first | assumption | exact aj.refl _ | refine aj.drew ?_ | refine aj.drewN ?_ _ | refine aj.alloc ?_ _ | refine aj.aJ ?_ (by assumption) | refine aj.setCell ?_ (by first | omega | (simp;done) | (simp;omega)) _))))).two)
      | fail)
     have E3:=(aW.bj (w':=w7) T3 (by (with_reducible (repeat (first | assumption | exact aj.refl _ | refine aj.drew ?_ | refine aj.drewN ?_ _ | refine aj.alloc ?_ _ | refine aj.aJ ?_ (by assumption) | refine aj.setCell ?_ (by first | omega | (simp;done) | (simp;omega)) _)))))
     have E4:=(aW.bj (w':=w7) T4 (by (with_reducible (repeat (first | assumption | exact aj.refl _ | refine aj.drew ?_ | refine aj.drewN ?_ _ | refine aj.alloc ?_ _ | refine aj.aJ ?_ (by assumption) | refine aj.setCell ?_ (by first | omega | (simp;done) | (simp;omega)) _)))))
     have FW:aj w5 w7:=(by (with_reducible (repeat (first | assumption | exact aj.refl _ | refine aj.drew ?_ | refine aj.drewN ?_ _ | refine aj.alloc ?_ _ | refine aj.aJ ?_ (by assumption) | refine aj.setCell ?_ (by first | omega | (simp;done) | (simp;omega)) _))))
     have FB:aj w w7:=(by (with_reducible (repeat (first | assumption | exact aj.refl _ | refine aj.drew ?_ | refine aj.drewN ?_ _ | refine aj.alloc ?_ _ | refine aj.aJ ?_ (by assumption) | refine aj.setCell ?_ (by first | omega | (simp;done) | (simp;omega)) _))))
     have BF:=Own.below (HOM).out FW
     have vU:=Own.below (HON).out FW
     have CF:=(Own.bB (Own.bB BF E3 (by decide) (.bool sg) (.slice pm nm cm)) (E4.dz (b':=w.heap.size + 1 + 1) (by omega) (.bool sg) (.slice pm nm cm)) (by decide) (.bool jD) (.slice pn nn cn))
     have CG:=(Own.bB (Own.bB vU E3 (by decide) (.bool sg) (.slice pm nm cm)) (E4.dz (b':=w.heap.size + 1 + 1) (by omega) (.bool sg) (.slice pm nm cm)) (by decide) (.bool jD) (.slice pn nn cn))
     have G3:=(E3.bB (.bool sg) (.slice pm nm cm)).dz (b':=w.heap.size + 1 + 1 + 1) (by omega) (.bool jD) (.slice pn nn cn)
     have G4:=(E4.dz (b':=w.heap.size + 1 + 1) (by omega) (.bool sg) (.slice pm nm cm)).bB (.bool jD) (.slice pn nn cn)
     have EP:=(FB.bB (b:=w.heap.size + 1 + 1) (by omega) (.bool sg) (.slice pm nm cm)).bB (b:=w.heap.size + 1 + 1 + 1) (by omega) (.bool jD) (.slice pn nn cn)
     have Lr:=Lib.hid CF
     have Ls:=Lib.hid CG
     clear BF vU CF CG
     go_wp2
     generalize (((w7.setCell ⟨w.heap.size + 1 + 1,0,none⟩ (.bool sg)).setCell ⟨w.heap.size + 1 + 1,1,none⟩ (.slice pm nm cm)).setCell ⟨w.heap.size + 1 + 1 + 1,0,none⟩ (.bool jD)).setCell ⟨w.heap.size + 1 + 1 + 1,1,none⟩ (.slice pn nn cn)=wz at *
     obtain ⟨d1,d2,_,_⟩:=G3.two
     obtain ⟨d3,d4,_,_⟩:=G4.two
     have sO:=pc HX.out HY.out H0.out (.inr ⟨by cases s1 <;> simp,HR0.out,rfl,rfl⟩)
     refine bodyPost_ret (v:=.tuple #[.agg #[.bool sg,.slice pm nm cm],.agg #[.bool jD,.slice pn nn cn],.int .i64 0]) (by simp [results,Tryz.results114,go_sem,d1,d2,d3,d4]) rfl (bA.out _ _ ⟨.inr ⟨by have:=H0.out;omega,_,_,rfl,?_,?_⟩,EP⟩)
     ·rw [jn.out]
      exact aC.of (by rw [←(Kd).out];exact Own.mono Lr.out jK.size) (Kd).out _ (by simpa using sO.1)
     ·rw [jE.out]
      exact aC.of (by rw [←(HLN).out];exact Own.mono Ls.out jK.size) (HLN).out _ (by simpa using sO.2)
end Go.Proofs.YtabalinjfgcfeaaGreat
namespace Go.Proofs.YtabalinjfgcfeaaGreat
open Go.RowKit
theorem vD:(Tryz.prog.info? 3).map (fun i=>(i.zero,i.size,i.bytes))=some (some (.int .i64 0),1,8):=by kernel_rfl
def hval (xs:List Nat):Nat:=val 65536 xs
def halves (n:Nat):List Nat:=gZ 65536 n
def fX (xs:List Nat):Prop:=dP 65536 xs
theorem bH (n:Nat):fX (halves n):=nJ (by omega) n
theorem bg (n:Nat):hval (halves n)=n:=jS (by omega) n
theorem fX.at {xs:List Nat} (h:fX xs) {k x:Nat} (hk:xs[k]? =some x):x < 65536:=dP.at h hk
theorem kM:halves 0=[]:=dH _
theorem ES {m n:Nat} (h:halves m=halves n):m=n:=vR (by omega) h
theorem jO (xs:List Nat) (x:Nat):hval (xs++[x])=hval xs + 65536 ^ xs.length * x:=lK _ xs x
theorem rS {xs:List Nat} (h:fX xs):hval xs < 65536 ^ xs.length:=nK h
theorem cV {xs:List Nat} (h:bV xs):(halves (aq xs)).length≤2 * xs.length:=by
 apply eB (by omega)
 have:=iT h
 rwa [Nat.pow_mul]
theorem Rd.i64 {w:World} {v:Value} {n:Nat} {xs:List Nat} (h:Rd w 1 v n (ints .i64 xs)):∃ p c,v=.slice p n c∧n≤c∧c≤9223372036854775807∧xs.length=n:=by
 obtain ⟨p,c,hv,h1,h2,h3⟩:=h.form
 unfold maxLen at h2
 exact ⟨p,c,hv,h1,by omega,by simpa using h3⟩
theorem Rd.CH {w:World} {n c m:Nat} {p:Option Addr} {xs:List Nat} {k:IntKind} (h:Rd w 1 (.slice p n c) n (ints k xs)) (hm:m≤n):Rd w 1 (.slice p m c) m (ints k (xs.take m)):=by
 have:=h.take hm
 rwa [Nat.mul_one,oN] at this
theorem Own.CH {w:World} {B e n c m:Nat} {p:Option Addr} {xs:List Nat} {k:IntKind} (h:w.ownsRow B e 1 (.slice p n c) n (ints k xs)) (hm:m≤n):w.ownsRow B e 1 (.slice p m c) m (ints k (xs.take m)):=by
 have:=Own.take h hm
 rwa [Nat.mul_one,oN] at this
set_option maxRecDepth 100000 in
set_option maxHeartbeats 400000 in
theorem iw (va:Value) (n i:Nat) (xs:List Nat) (w:World) (hr:Rd w 1 va n (ints .i64 xs)):
  Calls Tryz.prog 122 #[va,.int .i64 (i:Int)] w fun e w'=>e=.returned (.int .i64 ((xs.getD i 0:Nat):Int))∧w=w':=by
 obtain ⟨p,c,rfl,eT,eV,ew⟩:=hr.i64
 have HX:=Lib.hid ew
 clear ew
 by_cases hi:i < n
 ·obtain ⟨b,off,x,rfl,_,hx,hc⟩:=hr.cellAt hi
  have e:Hid (xs.getD i 0=x):=by show _=_;rw [List.getD,hx];rfl
  clear hx
  refine aO fun R' bA=> ?_
  go_enter Tryz.func122,Tryz.ntmps122
  go_wp2
  exact bA.out _ _ ⟨lM (by rw [e.out]),rfl⟩
 ·have e:Hid (xs.getD i 0=0):=by show _=_;rw [List.getD,List.getElem?_eq_none (by rw [HX.out];omega)];rfl
  refine aO fun R' bA=> ?_
  go_enter Tryz.func122,Tryz.ntmps122
  go_wp2
  exact bA.out _ _ ⟨lM (by rw [e.out];rfl),rfl⟩
set_option maxRecDepth 100000 in
set_option maxHeartbeats 400000 in
theorem zc (p:Option Addr) (n c:Nat) (xs:List Nat) (w:World) (hr:Rd w 1 (.slice p n c) n (ints .i64 xs)) (hl:fX xs):
  Calls Tryz.prog 138 #[.slice p n c] w fun e w'=>(∃ m,m≤n∧e=.returned (.slice p m c)∧halves (hval xs)=xs.take m)∧w=w':=by
 obtain ⟨p',c',hv,eT,eV,ew⟩:=hr.i64
 simp only [Value.slice.injEq,true_and] at hv
 obtain ⟨rfl,rfl⟩:=hv
 have HX:Hid (xs.length=n):=ew
 clear ew
 refine aO fun R' bA=> ?_
 go_enter Tryz.func138,Tryz.ntmps138
 go_wp2
 go_loop [0] (fun v=>∃ m,m≤n∧v=.slice p m c∧hval (xs.take m)=hval xs) (fun v=>match v with | .slice _ m _=>m | _=>0)
 case atStart=>exact ⟨n,Nat.le_refl _,rfl,by rw [List.take_of_length_le (Nat.le_of_eq HX.out)]⟩
 case round=>
  obtain ⟨m,hm,rfl,hv⟩:=hrel
  have HV:Hid (hval (xs.take m)=hval xs):=hv
  clear hv
  by_cases h0:m=0
  ·subst h0
   go_wp2
   exact bA.out _ _ ⟨⟨0,Nat.zero_le _,rfl,jI (by omega) hl (Nat.zero_le _) HV.out (.inl rfl)⟩,rfl⟩
  ·obtain ⟨b,off,x,rfl,hb,hx,hc⟩:=hr.cellAt (k:=m - 1) (by omega)
   have Ka:Hid (xs[m-1]? =some x):=hx
   clear hx
   have h0':0 < m:=by omega
   obtain ⟨j,rfl⟩:∃ j,m=j + 1:=⟨m - 1,by omega⟩
   rw [Nat.add_sub_cancel] at hc
   by_cases gL:x=0
   ·subst gL
    go_wp2
    go_round
    case rel=>exact ⟨j,by omega,rfl,(kD Ka.out).symm.trans HV.out⟩
    case measure=>simp
   ·have hx0':((x:Int) == 0)=false:=by rw [beq_eq_false_iff_ne];omega
    go_wp2
    exact bA.out _ _ ⟨⟨j + 1,hm,rfl,jI (by omega) hl (by rw [HX.out];exact hm) HV.out (.inr ⟨x,Ka.out,gL⟩)⟩,rfl⟩
theorem Own.cut {w:World} {B e n c m:Nat} {p:Option Addr} {xs:List Nat} (h:w.ownsRow B e 1 (.slice p n c) n (ints .i64 xs)) (hm:m≤n) (hl:halves (hval xs)=xs.take m):
  w.ownsRow B e 1 (.slice p m c) (halves (hval xs)).length (ints .i64 (halves (hval xs)))∧m=(halves (hval xs)).length:=by
 have hx:xs.length=n:=by have:=h.1;simpa using this
 have e2:(halves (hval xs)).length=m:=by rw [hl,List.length_take];omega
 have:=Own.CH h hm
 rw [←hl] at this
 rw [e2]
 exact ⟨this,rfl⟩
def Gz (w:World) (B:Nat) (xs:List Nat) (ov iv:Value) (wr:World):Prop:=
 ∃ (k:Nat) (hs:List Nat),k≤xs.length∧iv=.int .i64 (k:Int)∧hs.length=2 * k∧fX hs∧hval hs=aq (xs.take k)∧
   wr.ownsRow B 3 1 ov (2 * k) (ints .i64 hs)∧Below B w wr
theorem GA {x:Nat} (h:x < 4294967296):IntKind.i64.wrap ((x:Int).tmod 65536)=((x % 65536:Nat):Int):=by
 rw [Int.tmod_eq_emod_of_nonneg (by omega),IntWalk.i64_in _ (by omega)];simp
theorem GB {x:Nat} (h:x < 4294967296):IntKind.i64.wrap (IntKind.u32.wrap ((x:Int) / 65536))=((x / 65536:Nat):Int):=by
 rw [IntKind.wrap_u32',Int.emod_eq_of_lt (by omega) (by omega),IntWalk.i64_in _ (by omega)];simp
theorem zd {k x:Nat} {xs hs:List Nat} (hx:xs[k]? =some x) (km:x < 4294967296) (hl:hs.length=2 * k) (hh:fX hs) (hv:hval hs=aq (xs.take k)):
  fX (hs++[x % 65536,x / 65536])∧hval (hs++[x % 65536,x / 65536])=aq (xs.take (k + 1)):=by
 have hk:k < xs.length:=(List.getElem?_eq_some_iff.1 hx).1
 refine ⟨dP.append hh (dP.cons (Nat.mod_lt _ (by omega)) (dP.cons (by omega) (dP.nil _))),?_⟩
 rw [bt hx,dI,←hv,List.length_take,Nat.min_eq_left (by omega)]
 show val 65536 _=_
 rw [iH,hl]
 show hval hs + _=_
 congr 1
 rw [Nat.pow_mul]
 show (4294967296:Nat) ^ k * (x % 65536 + 65536 * (x / 65536 + 65536 * 0))=_
 congr 1
 omega
set_option maxRecDepth 100000 in
set_option maxHeartbeats 1000000 in
theorem eQ (va:Value) (n:Nat) (xs:List Nat) (w:World) (hr:Rd w 1 va n (ints .u32 xs)) (hl:bV xs) (hn:n≤1073741824):
  Calls Tryz.prog 121 #[va] w fun e w'=>∃ v',e=.returned v'∧w'.ownsRow w.heap.size 3 1 v' (halves (aq xs)).length (ints .i64 (halves (aq xs)))∧Below w.heap.size w w':=by
 obtain ⟨p,c,rfl,eT,eV,ew⟩:=hr.u32
 obtain ⟨i0,hi,kG,lj,lO⟩:=info_parts vD
 obtain ⟨B,hB⟩:∃ B,B=w.heap.size:=⟨_,rfl⟩
 have HB:=Lib.hid hB
 have Hr:=Lib.hid hr
 have HL:=Lib.hid hl
 have HX:=Lib.hid ew
 rw [←hB]
 clear hr hl ew hB
 refine aO fun R' bA=> ?_
 go_enter Tryz.func121,Tryz.ntmps121
 go_wp2
 go_loopw [3,4] (fun ov iv wr=>Gz w B xs ov iv wr) (fun _ iv _=>n - (intOf iv).toNat)
 case atStart=>exact ⟨0,[],Nat.zero_le _,rfl,rfl,dP.nil _,rfl,World.ownsRow_nil _ _ _ _,Below.refl _ _⟩
 case round=>
  obtain ⟨k,hs,hk,rfl,hhl,hhh,hhv,aI,hb⟩:=hrel
  have HK:=Lib.hid hk
  have HO:=Lib.hid aI
  have HHL:=Lib.hid hhl
  have HHH:=Lib.hid hhh
  have HHV:=Lib.hid hhv
  have gB:=Lib.hid hb
  have vf:B≤wr.heap.size:=by have:=hb.size;have:=HB.out;omega
  have hkn':k≤n:=by rw [←HX.out];exact hk
  clear hk aI hhl hhh hhv hb
  by_cases rh:k < n
  ·obtain ⟨b1,o1,x,rfl,aV,gh,hcw⟩:=Hr.out.cellAt rh
   have qg:=(gB.out.cell (p:=⟨b1,o1 + k,none⟩) (by rw [HB.out];exact aV)).trans hcw
   have hne:=JX HO.out (b:=b1) (by rw [HB.out];exact aV)
   have vg:=Lib.hid gh
   have km:=HL.out.at gh
   have HNE:=Lib.hid hne
   have yd:(0:Int)≤(k:Int):=by omega
   have Cm:(k:Int) < (n:Int):=by omega
   clear gh hcw hne
   go_wp2_with fail
   go_region_held3 (fun w'=>w'.cell? ⟨b1,o1 + k,none⟩=some (.int .u32 (x:Int))) (first | exact qg | go_keep | exact yu xa qg HNE.out)
    ((refine nO (by rfl) _ _ 156 (by rfl) B 3 i0 (.int .i64 0) 1 8 Tryz.underlying156 hi kG lj lO rfl (by omega) _ (2 * k) (ints .i64 hs) (by rfl) ((HO.out.alloc _).drew) _ 2 (ints .i64 [x % 65536,x / 65536]) (by rfl) (Rd.drew (Rd.lit2 (GA km) (GB km))) (lL .i64 [x % 65536,x / 65536]) (by unfold maxLen;omega) (by omega) (by simp;omega) ?_;intro v1 w1 fx xa))
   have qT:=Lib.hid fx
   have HG1:=Lib.hid xa
   clear fx xa
   go_wp2_with fail
   go_roundw
   case rel=>
    have hst:=zd vg.out km HHL.out HHH.out HHV.out
    exact ⟨k + 1,hs++[x % 65536,x / 65536],by rw [HX.out];omega,by go_num,by simp [HHL.out];omega,hst.1,hst.2,by rw [gM];exact qT.out,Below.behind gB.out vf HG1.out HO.out (Nat.le_refl _)⟩
   case measure=>simp [intOf];omega
  ·obtain rfl:k=n:=by omega
   obtain ⟨p1,c1,AX,_,_,_⟩:=Own.form HO.out
   have HV1:=Lib.hid AX
   have mo:Hid (hval hs=aq xs):=by show _=_;rw [HHV.out,bn (Nat.le_of_eq HX.out)]
   subst AX
   go_wp2_with fail
   refine (zc p1 (2 * k) c1 hs _ (Rd.own HO.out) HHH.out).mono ?_
   rintro e w2 ⟨⟨m,hm,rfl,yb⟩,rfl⟩
   have HC:=Own.cut HO.out hm yb
   rw [mo.out] at HC
   have HC1:=Lib.hid HC.1
   have HC2:=Lib.hid HC.2
   clear HC yb
   go_wp2_with fail
   refine bA.out _ _ ⟨_,rfl,?_,gB.out⟩
   have:=HC1.out
   rw [←HC2.out] at this ⊢
   exact this
end Go.Proofs.YtabalinjfgcfeaaGreat
namespace Go.Proofs.YtabalinjfgcfeaaGreat
open Go.RowKit
def LimbInv (w:World) (B m:Nat) (hs:List Nat) (ov iv:Value) (wr:World):Prop:=
 ∃ (k:Nat) (ds:List Nat),2 * k≤m + 1∧iv=.int .i64 ((2 * k:Nat):Int)∧ds.length=k∧bV ds∧aq ds=hval (hs.take (2 * k))∧
   wr.ownsRow B 117 1 ov k (ints .u32 ds)∧Below B w wr
theorem ze {k lo hi:Nat} {ds hs:List Nat} (hl:ds.length=k) (hd:bV ds) (hv:aq ds=hval (hs.take (2 * k))) (Bj:hs.getD (2 * k) 0=lo) (hhi:hs.getD (2 * k + 1) 0=hi)
  (h1:lo < 65536) (h2:hi < 65536):bV (ds++[lo + 65536 * hi])∧aq (ds++[lo + 65536 * hi])=hval (hs.take (2 * (k + 1))):=by
 refine ⟨hd.append (bV.cons (by omega) bV.nil),?_⟩
 rw [dI,hl,hv]
 show _=val 65536 (hs.take (2 * k + 1 + 1))
 rw [bM,bM,Bj,hhi,Nat.pow_succ,Nat.add_assoc]
 show hval _ + _=hval _ + _
 congr 1
 rw [show (4294967296:Nat)=65536 ^ 2 by rfl,←Nat.pow_mul,Nat.mul_add,Nat.mul_assoc]
theorem CI {k m h:Nat} {ds:List Nat} (hl:ds.length=k) (hd:bV ds) (hv:aq ds=h) (hm:(halves h).length=m) (hk:2 * k≤m + 1):limbs h=ds:=by
 subst hv
 apply Bl (by omega) hd
 show ds.length≤(limbs (aq ds)).length
 rcases Nat.eq_zero_or_pos k with h0 | h0
 ·omega
 ·have hne:aq ds≠0:=fun h=>by rw [h,kM] at hm;simp at hm;omega
  have h1:65536 ^ ((halves (aq ds)).length - 1)≤aq ds:=tP (by omega) hne
  have h2:4294967296 ^ (k - 1)≤aq ds:=by
   rw [show (4294967296:Nat)=65536 ^ 2 by rfl,←Nat.pow_mul]
   exact Nat.le_trans (Nat.pow_le_pow_right (by omega) (by omega)) h1
  have:=uI h2
  omega
set_option maxRecDepth 100000 in
set_option maxHeartbeats 1000000 in
theorem oA (va:Value) (n:Nat) (ls:List Nat) (w:World) (hr:Rd w 1 va n (ints .i64 ls)) (hl:fX ls) (hn:n≤2147483656):
  Calls Tryz.prog 123 #[va] w fun e w'=>∃ v',e=.returned v'∧w'.ownsRow w.heap.size 117 1 v' (limbs (hval ls)).length (ints .u32 (limbs (hval ls)))∧Below w.heap.size w w':=by
 obtain ⟨p,c,rfl,eT,eV,ew⟩:=hr.i64
 obtain ⟨i0,hi,kG,lj,lO⟩:=info_parts iW
 obtain ⟨B,hB⟩:∃ B,B=w.heap.size:=⟨_,rfl⟩
 obtain ⟨h,hh⟩:∃ h,h=hval ls:=⟨_,rfl⟩
 rw [←hh]
 have HB:=Lib.hid hB
 have Hr:=Lib.hid hr
 have HL:=Lib.hid hl
 have HX:=Lib.hid ew
 have HH:=Lib.hid hh
 rw [←hB]
 clear hr hl ew hB hh
 refine aO fun R' bA=> ?_
 go_enter Tryz.func123,Tryz.ntmps123
 go_wp2_with fail
 refine (zc p n c ls _ Hr.out HL.out).mono ?_
 rintro e w1 ⟨⟨m,hm,rfl,yb⟩,rfl⟩
 have pU:(halves h).length=m:=by rw [HH.out,yb,List.length_take,HX.out];omega
 have sM:=Rd.CH Hr.out hm
 rw [←yb,←HH.out] at sM
 have Kk:=Lib.hid pU
 have HRD:=Lib.hid sM
 clear pU sM yb
 go_wp2_with fail
 go_loopw [3,4] (fun ov iv wr=>LimbInv w B m (halves h) ov iv wr) (fun _ iv _=>m + 2 - (intOf iv).toNat)
 case atStart=>exact ⟨0,[],by omega,rfl,rfl,bV.nil,rfl,World.ownsRow_nil _ _ _ _,Below.refl _ _⟩
 case round=>
  obtain ⟨k,ds,hk,rfl,iV,hdd,hdv,aI,hb⟩:=hrel
  have HO:=Lib.hid aI
  have Ep:=Lib.hid iV
  have HDD:=Lib.hid hdd
  have HDV:=Lib.hid hdv
  have gB:=Lib.hid hb
  have vf:B≤wr.heap.size:=by have:=hb.size;have:=HB.out;omega
  clear aI iV hdd hdv hb
  by_cases Ei:2 * k < m
  ·obtain ⟨b1,o1,lo,rfl,aV,gh,qg⟩:=(HRD.out.iI HB.out gB.out).cellAt Ei
   have Bj:=(bH h).at gh
   have HLO:Hid ((halves h).getD (2 * k) 0=lo):=by show _=_;rw [List.getD,gh];rfl
   clear gh
   by_cases hkm1:2 * k + 1 < m
   ·obtain ⟨b2,o2,sQ,hp2,bm,nP,Eg⟩:=(HRD.out.iI HB.out gB.out).cellAt hkm1
    have hhi:=(bH h).at nP
    have HHI:Hid ((halves h).getD (2 * k + 1) 0=sQ):=by show _=_;rw [List.getD,nP];rfl
    simp only [Option.some.injEq,Addr.mk.injEq,and_true] at hp2
    obtain ⟨rfl,rfl⟩:=hp2
    clear nP
    have hy:(lo:Int) + 65536 * (sQ:Int)=((lo + 65536 * sQ:Nat):Int):=by omega
    have HY:=Lib.hid hy
    clear hy
    go_wp2_with (at_builtin;go_loud (refine dt rfl _ _ 22 rfl B 117 i0 (.int .u32 0) 4 Tryz.underlying22 hi kG lj lO rfl HO.out rfl rfl HY.out (by omega) (by omega) vf ?_);intro v1 w1 fx iy)
    have qT:=Lib.hid fx
    have AY:=Lib.hid (iy w gB.out)
    clear fx iy
    go_wp2_with fail
    go_roundw
    case rel=>
     have hst:=ze Ep.out HDD.out HDV.out HLO.out HHI.out Bj hhi
     exact ⟨k + 1,ds++[lo + 65536 * sQ],by omega,by go_num,by simp [Ep.out],hst.1,hst.2,qT.out,AY.out⟩
    case measure=>simp [intOf];omega
   ·have HHI:Hid ((halves h).getD (2 * k + 1) 0=0):=by show _=_;rw [List.getD,List.getElem?_eq_none (by rw [Kk.out];omega)];rfl
    go_wp2_with (at_builtin;go_loud (refine dt rfl _ _ 22 rfl B 117 i0 (.int .u32 0) 4 Tryz.underlying22 hi kG lj lO rfl HO.out rfl rfl rfl (by omega) (by omega) vf ?_);intro v1 w1 fx iy)
    have qT:=Lib.hid fx
    have AY:=Lib.hid (iy w gB.out)
    clear fx iy
    go_wp2_with fail
    go_roundw
    case rel=>
     have hst:=ze Ep.out HDD.out HDV.out HLO.out HHI.out Bj (by omega)
     rw [Nat.mul_zero,Nat.add_zero] at hst
     exact ⟨k + 1,ds++[lo],by omega,by go_num,by simp [Ep.out],hst.1,hst.2,qT.out,AY.out⟩
    case measure=>simp [intOf];omega
  ·go_wp2_with fail
   have hval:aq ds=h:=by
    rw [HDV.out]
    show val 65536 _=_
    rw [eK (by rw [Kk.out];omega)]
    exact bg h
   have hcan:=CI Ep.out HDD.out hval Kk.out hk
   refine bA.out _ _ ⟨_,rfl,?_,gB.out⟩
   rw [hcan,Ep.out];exact HO.out
set_option maxRecDepth 100000 in
set_option maxHeartbeats 400000 in
theorem ET (va:Value) (n:Nat) (xs:List Nat) (w:World) (hr:Rd w 1 va n (ints .u32 xs)) (hl:bV xs) (hn:n≤1073741824):
  Calls Tryz.prog 118 #[va] w fun e w'=>∃ v',e=.returned v'∧w'.ownsRow w.heap.size 117 1 v' (limbs (aq xs)).length (ints .u32 (limbs (aq xs)))∧Below w.heap.size w w':=by
 obtain ⟨p,c,rfl,eT,eV,ew⟩:=hr.u32
 have Hr:=Lib.hid hr
 have HL:=Lib.hid hl
 have HX:=Lib.hid ew
 clear hr hl ew
 refine aO fun R' bA=> ?_
 go_enter Tryz.func118,Tryz.ntmps118
 go_wp2_with fail
 refine (eQ _ n xs _ Hr.out HL.out hn).mono ?_
 rintro e w1 ⟨v1,rfl,aI,hb⟩
 have hlen:=cV HL.out
 rw [HX.out] at hlen
 have HO:=Lib.hid aI
 have HB:=Lib.hid hb
 clear aI hb
 go_wp2_with fail
 refine (oA _ _ (halves (aq xs)) _ (Rd.own HO.out) (bH _) (by omega)).mono ?_
 rintro e w2 ⟨v2,rfl,aI,hb⟩
 rw [bg] at aI
 go_wp2_with fail
 exact bA.out _ _ ⟨_,rfl,Own.mono aI HB.out.size,HB.out.trans (hb.mono HB.out.size)⟩
def Lt (w:World) (B M:Nat) (us ts:List Nat) (ov cv iv:Value) (wr:World):Prop:=
 ∃ (k carry:Nat) (os:List Nat),k≤M + 1∧(k=M + 1→carry=0)∧iv=.int .i64 (k:Int)∧cv=.int .i64 (carry:Int)∧carry≤1∧os.length=k∧fX os∧
   hval os + 65536 ^ k * carry=hval (us.take k) + hval (ts.take k)∧wr.ownsRow B 3 1 ov k (ints .i64 os)∧Below B w wr
theorem EU {k carry x y:Nat} {us ts os:List Nat} (hl:os.length=k) (hh:fX os) (hv:hval os + 65536 ^ k * carry=hval (us.take k) + hval (ts.take k)) (hx:us.getD k 0=x) (hy:ts.getD k 0=y):
  fX (os++[(x + y + carry) % 65536])∧hval (os++[(x + y + carry) % 65536]) + 65536 ^ (k + 1) * ((x + y + carry) / 65536)=hval (us.take (k + 1)) + hval (ts.take (k + 1)):=by
 refine ⟨dP.append hh (dP.cons (Nat.mod_lt _ (by omega)) (dP.nil _)),?_⟩
 rw [jO,hl,Nat.pow_succ]
 show _=val 65536 _ + val 65536 _
 rw [bM,bM,hx,hy]
 exact Hh 65536 _ _ x y carry _ _ _ hv rfl
theorem gP {us:List Nat} {k:Nat} (h:us.length≤k):us.getD k 0=0:=by rw [List.getD,List.getElem?_eq_none h];rfl
theorem jP {us:List Nat} (h:fX us) (k:Nat):us.getD k 0 < 65536:=by
 rw [List.getD]
 cases hk:us[k]? with
 | none=>simp
 | some x=>exact h.at hk
set_option maxRecDepth 100000 in
set_option maxHeartbeats 1000000 in
theorem IC (va vb:Value) (n m:Nat) (xs ys:List Nat) (w:World) (hr:Rd w 1 va n (ints .u32 xs)) (hs:Rd w 1 vb m (ints .u32 ys)) (hx:bV xs) (hy:bV ys) (hn:n≤1073741824) (hm:m≤1073741824):
  Calls Tryz.prog 97 #[va,vb] w fun e w'=>∃ v',e=.returned v'∧w'.ownsRow w.heap.size 117 1 v' (limbs (aq xs + aq ys)).length (ints .u32 (limbs (aq xs + aq ys)))∧Below w.heap.size w w':=by
 obtain ⟨p,c,rfl,eT,eV,ew⟩:=hr.u32
 obtain ⟨q,d,rfl,JC,Ee,jJ⟩:=hs.u32
 obtain ⟨i0,hi,kG,lj,lO⟩:=info_parts vD
 obtain ⟨B,hB⟩:∃ B,B=w.heap.size:=⟨_,rfl⟩
 have HB:=Lib.hid hB
 have Hr:=Lib.hid hr
 have Hs:=Lib.hid hs
 have HL:=Lib.hid hx
 have HM:=Lib.hid hy
 have sL:=cV hx
 have nL:=cV hy
 rw [ew] at sL
 rw [jJ] at nL
 obtain ⟨a,ha⟩:∃ a,a=aq xs:=⟨_,rfl⟩
 obtain ⟨b,hb⟩:∃ b,b=aq ys:=⟨_,rfl⟩
 rw [←ha] at sL ⊢
 rw [←hb] at nL ⊢
 rw [←hB]
 have HA:=Lib.hid ha
 have HBb:=Lib.hid hb
 clear hr hs hx hy ew jJ ha hb hB
 refine aO fun R' bA=> ?_
 go_enter Tryz.func97,Tryz.ntmps97
 go_wp2_with fail
 refine (eQ _ n xs _ Hr.out HL.out hn).mono ?_
 rintro e w1 ⟨v1,rfl,aI,aV⟩
 rw [←HA.out,←HB.out] at aI
 rw [←HB.out] at aV
 have qT:=Lib.hid aI
 have AY:=Lib.hid aV
 clear aI aV
 go_wp2_with fail
 refine (eQ _ m ys _ (Hs.out.iI HB.out AY.out) HM.out hm).mono ?_
 rintro e w2 ⟨v2,rfl,aI,bm⟩
 rw [←HBb.out] at aI
 have hB1s:B≤w1.heap.size:=by have:=AY.out.size;have:=HB.out;omega
 have HO1b:=Lib.hid (Own.below qT.out bm)
 have mV:=Lib.hid (Own.mono aI hB1s)
 have tW:=Lib.hid (AY.out.trans (bm.mono hB1s))
 have hB2s:B≤w2.heap.size:=by have:=bm.size;omega
 clear aI bm qT AY
 obtain ⟨p1,c1,rfl,h11,Ae,_⟩:=(Rd.own HO1b.out).i64
 obtain ⟨p2,c2,rfl,h21,h22,_⟩:=(Rd.own mV.out).i64
 generalize JG:(halves a).length=la at *
 generalize DM:(halves b).length=lb at *
 have JF:=Lib.hid JG
 have JH:=Lib.hid DM
 clear JG DM
 obtain ⟨M,hMa,hMb,hMu,hM⟩:∃ M,la≤M∧lb≤M∧M≤2147483648∧(la < lb∧M=lb∨lb≤la∧M=la):=⟨max la lb,by omega,by omega,by omega,by omega⟩
 obtain ⟨B2,Lu⟩:∃ B2,B2=w2.heap.size:=⟨_,rfl⟩
 have EW:=Lib.hid Lu
 have Lv:B≤B2:=by omega
 clear Lu
 rcases hM with ⟨uY,rfl⟩ | ⟨uY,rfl⟩
 all_goals
  go_wp2_with fail
  go_loopw [7,8,9] (fun ov cv iv wr=>Lt w2 B2 M (halves a) (halves b) ov cv iv wr) (fun _ cv iv _=>2 * (M - (intOf iv).toNat) + (intOf cv).toNat)
  case atStart=>exact ⟨0,0,[],by omega,fun _=>rfl,rfl,rfl,by omega,rfl,dP.nil _,rfl,World.ownsRow_nil _ _ _ _,Below.refl _ _⟩
  case round=>
   obtain ⟨k,carry,os,hk,Cm,rfl,rfl,hc,hol,hoh,hov,aI,jK⟩:=hrel
   have HO:=Lib.hid aI
   have HOL:=Lib.hid hol
   have HOH:=Lib.hid hoh
   have HOV:=Lib.hid hov
   have HK1:=Lib.hid Cm
   have gB:=Lib.hid jK
   have vf:B2≤wr.heap.size:=by have:=jK.size;have:=EW.out;omega
   have HRA:=Lib.hid ((Rd.own HO1b.out).iI EW.out jK)
   have HRB:=Lib.hid ((Rd.own mV.out).iI EW.out jK)
   have hgx:=jP (bH a) k
   have hgy:=jP (bH b) k
   have hxy0:M≤k→(halves a).getD k 0=0∧(halves b).getD k 0=0:=fun h=>⟨gP (by rw [JF.out];omega),gP (by rw [JH.out];omega)⟩
   clear aI hol hoh hov Cm jK
   generalize hx:(halves a).getD k 0=x at *
   generalize hy:(halves b).getD k 0=y at *
   have HX:=Lib.hid hx
   have HY:=Lib.hid hy
   have HXY0:=Lib.hid hxy0
   clear hx hy hxy0
   have zf:k=M + 1→carry=0:=HK1.out
   by_cases hkM:k < M∨0 < carry
   ·clear zf
    have hguard:decide (k < M)=true∨decide (k < M)=false∧0 < carry:=by
     by_cases h:k < M
     ·left;simpa using h
     ·right;exact ⟨by simpa using h,by omega⟩
    have HSUM:Hid (((x:Int) + (y:Int) + (carry:Int)).tmod 65536=(((x + y + carry) % 65536:Nat):Int)):=by show _=_;rw [Int.tmod_eq_emod_of_nonneg (by omega)];omega
    rcases hguard with hg | ⟨hg,hg2⟩
    all_goals
     go_wp2_with fail
     refine (iw _ _ k (halves a) _ HRA.out).mono ?_
     rintro e w3 ⟨rfl,rfl⟩
     rw [HX.out]
     go_wp2_with fail
     refine (iw _ _ k (halves b) _ HRB.out).mono ?_
     rintro e w3 ⟨rfl,rfl⟩
     rw [HY.out]
     go_wp2_with (at_builtin;refine dt rfl _ _ 156 rfl B2 3 i0 (.int .i64 0) 8 Tryz.underlying156 hi kG lj lO rfl HO.out rfl rfl (d:=(x + y + carry) % 65536) (by omega) (by omega) (by omega) vf ?_;intro v1 w3 fx iy)
     have Ia:=Lib.hid fx
     have Kv:=Lib.hid (iy w2 gB.out)
     clear fx iy
     go_wp2_with fail
     go_roundw
     case rel=>
      have hst:=EU HOL.out HOH.out HOV.out HX.out HY.out
      exact ⟨k + 1,(x + y + carry) / 65536,os++[(x + y + carry) % 65536],by have:=HK1.out;have:=HXY0.out;omega,by have:=HK1.out;have:=HXY0.out;omega,by go_num,by go_num,by omega,by simp [HOL.out],hst.1,hst.2,Ia.out,Kv.out⟩
     case measure=>simp [intOf];have:=HXY0.out;omega
   ·have hc0:carry=0:=by omega
    have hkM':M≤k:=by omega
    have HC0:=Lib.hid hc0
    have hg1:decide (k < M)=false:=by simp;omega
    have hg2:¬ (0 < (carry:Int)):=by omega
    have hks:k≤M + 1:=by omega
    clear zf
    clear hc0
    go_wp2_with fail
    refine (oA _ _ os _ (Rd.own HO.out) HOH.out (by omega)).mono ?_
    rintro e w3 ⟨v3,rfl,aI,cD⟩
    have hval:hval os=a + b:=by
     have:=HOV.out
     rw [HC0.out,Nat.mul_zero,Nat.add_zero] at this
     rw [this]
     show val 65536 _ + val 65536 _=_
     rw [eK (by rw [JF.out];omega),eK (by rw [JH.out];omega)]
     show hval _ + hval _=_
     rw [bg,bg]
    rw [hval] at aI
    go_wp2_with fail
    exact bA.out _ _ ⟨_,rfl,Own.mono aI (by omega),(tW.out.trans (gB.out.mono Lv)).trans (cD.mono (by omega))⟩
end Go.Proofs.YtabalinjfgcfeaaGreat
namespace Go.Proofs.YtabalinjfgcfeaaGreat
open Go.RowKit
def CmpInv (w:World) (us ts:List Nat) (M:Nat) (iv:Value) (wr:World):Prop:=
 ∃ k:Nat,k≤M∧iv=.int .i64 ((k:Int) - 1)∧hval us + hval (ts.take k)=hval ts + hval (us.take k)∧w=wr
theorem iY (us:List Nat):hval (us.take 0)=0:=by simp [hval,val]
theorem CJ {us ts:List Nat} {k x:Nat} (hx:us.getD k 0=x) (hy:ts.getD k 0=x) (h:hval us + hval (ts.take (k + 1))=hval ts + hval (us.take (k + 1))):hval us + hval (ts.take k)=hval ts + hval (us.take k):=by
 have h1:hval (ts.take (k + 1))=hval (ts.take k) + 65536 ^ k * x:=by rw [←hy];exact bM 65536 ts k
 have h2:hval (us.take (k + 1))=hval (us.take k) + 65536 ^ k * x:=by rw [←hx];exact bM 65536 us k
 omega
theorem um {us ts:List Nat} {k x y:Nat} (hu:fX us) (hx:us.getD k 0=x) (hy:ts.getD k 0=y) (FU:x < y) (h:hval us + hval (ts.take (k + 1))=hval ts + hval (us.take (k + 1))):hval us < hval ts:=by
 have h1:hval (ts.take (k + 1))=hval (ts.take k) + 65536 ^ k * y:=by rw [←hy];exact bM 65536 ts k
 have h2:hval (us.take (k + 1))=hval (us.take k) + 65536 ^ k * x:=by rw [←hx];exact bM 65536 us k
 have h3:hval (us.take k) < 65536 ^ k:=by
  have h4:=rS (dP.take hu k)
  have h5:=Nat.pow_le_pow_right (show 0 < 65536 by omega) (show (us.take k).length≤k by rw [List.length_take];omega)
  omega
 have h4:65536 ^ k * x + 65536 ^ k≤65536 ^ k * y:=by
  have:=Nat.mul_le_mul_left (65536 ^ k) (show x + 1≤y from FU)
  rwa [Nat.mul_add,Nat.mul_one] at this
 omega
set_option maxRecDepth 100000 in
set_option maxHeartbeats 1000000 in
theorem tv (va vb:Value) (n m:Nat) (xs ys:List Nat) (w:World) (hr:Rd w 1 va n (ints .u32 xs)) (hs:Rd w 1 vb m (ints .u32 ys)) (hx:bV xs) (hy:bV ys) (hn:n≤1073741824) (hm:m≤1073741824):
  Calls Tryz.prog 124 #[va,vb] w fun e w'=>e=.returned (.int .i64 (fT (aq xs) (aq ys)))∧Below w.heap.size w w':=by
 obtain ⟨p,c,rfl,eT,eV,ew⟩:=hr.u32
 obtain ⟨q,d,rfl,JC,Ee,jJ⟩:=hs.u32
 have Hr:=Lib.hid hr
 have Hs:=Lib.hid hs
 have HL:=Lib.hid hx
 have HM:=Lib.hid hy
 have sL:=cV hx
 have nL:=cV hy
 rw [ew] at sL
 rw [jJ] at nL
 obtain ⟨a,ha⟩:∃ a,a=aq xs:=⟨_,rfl⟩
 obtain ⟨b,hb⟩:∃ b,b=aq ys:=⟨_,rfl⟩
 rw [←ha] at sL ⊢
 rw [←hb] at nL ⊢
 have HA:=Lib.hid ha
 have HBb:=Lib.hid hb
 clear hr hs hx hy ew jJ ha hb
 refine aO fun R' bA=> ?_
 go_enter Tryz.func124,Tryz.ntmps124
 go_wp2_with fail
 refine (eQ _ n xs _ Hr.out HL.out hn).mono ?_
 rintro e w1 ⟨v1,rfl,aI,aV⟩
 rw [←HA.out] at aI
 have qT:=Lib.hid (Rd.own aI)
 have AY:=Lib.hid aV
 clear aI aV
 go_wp2_with fail
 refine (eQ _ m ys _ (Hs.out.below AY.out) HM.out hm).mono ?_
 rintro e w2 ⟨v2,rfl,aI,bm⟩
 rw [←HBb.out] at aI
 have HRA:=Lib.hid (qT.out.below bm)
 have HRB:=Lib.hid (Rd.own aI)
 have tW:=Lib.hid (AY.out.trans (bm.mono AY.out.size))
 clear aI bm qT AY
 obtain ⟨p1,c1,rfl,h11,Ae,_⟩:=HRA.out.i64
 obtain ⟨p2,c2,rfl,h21,h22,_⟩:=HRB.out.i64
 generalize JG:(halves a).length=la at *
 generalize DM:(halves b).length=lb at *
 have JF:=Lib.hid JG
 have JH:=Lib.hid DM
 clear JG DM
 obtain ⟨M,hMa,hMb,hMu,hM⟩:∃ M,la≤M∧lb≤M∧M≤2147483648∧(la < lb∧M=lb∨lb≤la∧M=la):=⟨max la lb,by omega,by omega,by omega,by omega⟩
 rcases hM with ⟨uY,rfl⟩ | ⟨uY,rfl⟩
 all_goals
  go_wp2_with fail
  go_loopw [7] (fun iv wr=>CmpInv w2 (halves a) (halves b) M iv wr) (fun iv _=>(intOf iv + 1).toNat)
  case atStart=>exact ⟨M,Nat.le_refl _,rfl,by
   show val 65536 _ + val 65536 _=val 65536 _ + val 65536 _
   rw [eK (by first | (rw [JF.out];omega) | (rw [JH.out];omega)),eK (by first | (rw [JF.out];omega) | (rw [JH.out];omega))];omega,rfl⟩
  case round=>
   obtain ⟨k,hk,rfl,hv,rfl⟩:=hrel
   have HV:=Lib.hid hv
   clear hv
   by_cases h0:k=0
   ·subst h0
    go_wp2_with fail
    have e:a=b:=by
     have:=HV.out
     rw [iY,iY,bg,bg] at this
     omega
    exact bA.out _ _ ⟨lM (by rw [e,qX]),tW.out⟩
   ·obtain ⟨j,rfl⟩:∃ j,k=j + 1:=⟨k - 1,by omega⟩
    have hjj:((j + 1:Nat):Int) - 1=(j:Int):=by omega
    rw [hjj]
    clear h0 hjj
    generalize hx:(halves a).getD j 0=x
    generalize hy:(halves b).getD j 0=y
    have HX:=Lib.hid hx
    have HY:=Lib.hid hy
    clear hx hy
    go_wp2_with fail
    refine (iw _ _ j (halves a) _ HRA.out).mono ?_
    rintro e w3 ⟨rfl,rfl⟩
    rw [HX.out]
    go_wp2_with fail
    refine (iw _ _ j (halves b) _ HRB.out).mono ?_
    rintro e w3 ⟨rfl,rfl⟩
    rw [HY.out]
    rcases Nat.lt_trichotomy x y with hlt | heq | KY
    ·go_wp2_with fail
     have:=um (bH a) HX.out HY.out hlt HV.out
     rw [bg,bg] at this
     exact bA.out _ _ ⟨lM (by rw [kE this]),tW.out⟩
    ·subst heq
     go_wp2_with fail
     refine (iw _ _ j (halves a) _ HRA.out).mono ?_
     rintro e w3 ⟨rfl,rfl⟩
     rw [HX.out]
     go_wp2_with fail
     refine (iw _ _ j (halves b) _ HRB.out).mono ?_
     rintro e w3 ⟨rfl,rfl⟩
     rw [HY.out]
     go_wp2_with fail
     go_roundw
     case rel=>exact ⟨j,by omega,rfl,CJ HX.out HY.out HV.out,rfl⟩
     case measure=>simp [intOf]
    ·go_wp2_with fail
     refine (iw _ _ j (halves a) _ HRA.out).mono ?_
     rintro e w3 ⟨rfl,rfl⟩
     rw [HX.out]
     go_wp2_with fail
     refine (iw _ _ j (halves b) _ HRB.out).mono ?_
     rintro e w3 ⟨rfl,rfl⟩
     rw [HY.out]
     go_wp2_with fail
     have:=um (bH b) HY.out HX.out KY HV.out.symm
     rw [bg,bg] at this
     exact bA.out _ _ ⟨lM (by rw [kF this]),tW.out⟩
end Go.Proofs.YtabalinjfgcfeaaGreat
namespace Go.Proofs.YtabalinjfgcfeaaGreat
open Go.RowKit
theorem ur {qs:List Nat} {k x:Nat}:(List.replicate (k + 1) 0++qs).set k x=List.replicate k 0++x::qs:=by
 rw [List.replicate_succ',List.append_assoc,List.set_append_right _ _ (by simp)]
 simp
def Lw (w:World) (B M:Nat) (us ts:List Nat) (ov bv iv:Value) (wr:World):Prop:=
 ∃ (k r:Nat) (ds:List Nat),k≤M∧ds.length=k∧iv=.int .i64 (k:Int)∧bv=.int .i64 (r:Int)∧r≤1∧fX ds∧
   hval ds + hval (ts.take k)=hval (us.take k) + 65536 ^ k * r∧wr.ownsRow B 3 1 ov k (ints .i64 ds)∧Below B w wr
theorem xb {k r x y d r':Nat} {us ts ds:List Nat} (hl:ds.length=k) (hh:fX ds) (hv:hval ds + hval (ts.take k)=hval (us.take k) + 65536 ^ k * r) (hx:us.getD k 0=x) (hy:ts.getD k 0=y)
  (hd:d < 65536) (he:x + 65536 * r'=d + y + r):
  fX (ds++[d])∧hval (ds++[d]) + hval (ts.take (k + 1))=hval (us.take (k + 1)) + 65536 ^ (k + 1) * r':=by
 refine ⟨dP.append hh (dP.cons hd (dP.nil _)),?_⟩
 have h1:hval (ts.take (k + 1))=hval (ts.take k) + 65536 ^ k * y:=by rw [←hy];exact bM 65536 ts k
 have h2:hval (us.take (k + 1))=hval (us.take k) + 65536 ^ k * x:=by rw [←hx];exact bM 65536 us k
 rw [jO,hl,h1,h2,Nat.pow_succ]
 exact Hi 65536 _ x y r d r' _ _ _ hv he
set_option maxRecDepth 100000 in
set_option maxHeartbeats 1000000 in
theorem zg (va vb:Value) (n m:Nat) (xs ys:List Nat) (w:World) (hr:Rd w 1 va n (ints .u32 xs)) (hs:Rd w 1 vb m (ints .u32 ys)) (hx:bV xs) (hy:bV ys) (hn:n≤1073741824) (hm:m≤1073741824):
  Calls Tryz.prog 98 #[va,vb] w fun e w'=>((aq xs < aq ys∧e=.returned (.tuple #[.slice none 0 0,.int .i64 2]))∨
   (aq ys≤aq xs∧∃ v',e=.returned (.tuple #[v',.int .i64 0])∧w'.ownsRow w.heap.size 117 1 v' (limbs (aq xs - aq ys)).length (ints .u32 (limbs (aq xs - aq ys)))))∧Below w.heap.size w w':=by
 obtain ⟨p,c,rfl,eT,eV,ew⟩:=hr.u32
 obtain ⟨q,d,rfl,JC,Ee,jJ⟩:=hs.u32
 obtain ⟨i0,hi,kG,lj,lO⟩:=info_parts vD
 have Hr:=Lib.hid hr
 have Hs:=Lib.hid hs
 have HL:=Lib.hid hx
 have HM:=Lib.hid hy
 have sL:=cV hx
 have nL:=cV hy
 rw [ew] at sL
 rw [jJ] at nL
 obtain ⟨a,ha⟩:∃ a,a=aq xs:=⟨_,rfl⟩
 obtain ⟨b,hb⟩:∃ b,b=aq ys:=⟨_,rfl⟩
 rw [←ha] at sL ⊢
 rw [←hb] at nL ⊢
 have HA:=Lib.hid ha
 have HBb:=Lib.hid hb
 clear hr hs hx hy ew jJ ha hb
 refine aO fun R' bA=> ?_
 go_enter Tryz.func98,Tryz.ntmps98
 go_wp2_with fail
 refine (tv _ _ n m xs ys _ Hr.out Hs.out HL.out HM.out hn hm).mono ?_
 rintro e w0 ⟨rfl,oO⟩
 rw [←HA.out,←HBb.out]
 have HB0:=Lib.hid oO
 have hB0s:=oO.size
 clear oO
 by_cases uY:a < b
 ·have hc:fT a b < 0:=iZ.2 uY
  generalize fT a b=cv at hc ⊢
  go_wp2_with fail
  exact bA.out _ _ ⟨.inl ⟨uY,rfl⟩,HB0.out⟩
 ·have hc:0≤fT a b:=by have:=mt (@iZ a b).1 uY;omega
  generalize fT a b=cv at hc ⊢
  have hlen:(halves b).length≤(halves a).length:=de (by omega) (by omega)
  have HAB:=Lib.hid uY
  clear uY
  go_wp2_with fail
  refine (eQ _ n xs _ (Hr.out.below HB0.out) HL.out hn).mono ?_
  rintro e w1 ⟨v1,rfl,aI,aV⟩
  rw [←HA.out] at aI
  have qT:=Lib.hid (Rd.own aI)
  have AY:=Lib.hid (HB0.out.trans (aV.mono hB0s))
  have hB1s:=aV.size
  clear aI aV
  go_wp2_with fail
  refine (eQ _ m ys _ (Hs.out.below AY.out) HM.out hm).mono ?_
  rintro e w2 ⟨v2,rfl,aI,bm⟩
  rw [←HBb.out] at aI
  have HRA0:=Lib.hid (qT.out.below bm)
  have HRB0:=Lib.hid (Rd.own aI)
  have tW:=Lib.hid (AY.out.trans (bm.mono AY.out.size))
  have hB2s:=bm.size
  clear aI bm qT AY
  obtain ⟨p1,c1,rfl,h11,Ae,_⟩:=HRA0.out.i64
  obtain ⟨p2,c2,rfl,h21,h22,_⟩:=HRB0.out.i64
  generalize JG:(halves a).length=la at *
  generalize DM:(halves b).length=lb at *
  have JF:=Lib.hid JG
  have JH:=Lib.hid DM
  clear JG DM
  obtain ⟨B2,Lu⟩:∃ B2,B2=w2.heap.size:=⟨_,rfl⟩
  have EW:=Lib.hid Lu
  have Lv:w.heap.size≤B2:=by omega
  clear Lu
  go_wp2_with fail
  go_loopw [8,9,10] (fun ov bv iv wr=>Lw w2 B2 la (halves a) (halves b) ov bv iv wr) (fun _ _ iv _=>la - (intOf iv).toNat)
  case atStart=>exact ⟨0,0,[],Nat.zero_le _,rfl,rfl,rfl,by omega,dP.nil _,by rw [iY,iY];simp [hval,val],World.ownsRow_nil _ _ _ _,Below.refl _ _⟩
  case round=>
   obtain ⟨k,r,ds,hk,iV,rfl,rfl,iD,hdh,hdv,aI,jK⟩:=hrel
   have HO:=Lib.hid aI
   have Ep:=Lib.hid iV
   have HDH:=Lib.hid hdh
   have HDV:=Lib.hid hdv
   have gB:=Lib.hid jK
   have vf:B2≤wr.heap.size:=by have:=jK.size;have:=EW.out;omega
   have HRB:=Lib.hid (HRB0.out.iI EW.out jK)
   clear aI iV hdh hdv
   by_cases DR:k < la
   ·obtain ⟨b1,o1,x,rfl,_,gh,qg⟩:=(HRA0.out.iI EW.out jK).cellAt DR
    have km:=(bH a).at gh
    have HX:Hid ((halves a).getD k 0=x):=by show _=_;rw [List.getD,gh];rfl
    have yw:=jP (bH b) k
    clear gh jK
    generalize hy:(halves b).getD k 0=y at *
    have HY:=Lib.hid hy
    clear hy
    have yd:(0:Int)≤(k:Int):=by omega
    have Cm:(k:Int) < (la:Int):=by omega
    have vh:IntKind.i64.wrap ((x:Int) - (y:Int))=(x:Int) - (y:Int):=IntWalk.i64_in _ (by omega)
    have hw2:IntKind.i64.wrap ((x:Int) - (y:Int) - (r:Int))=(x:Int) - (y:Int) - (r:Int):=IntWalk.i64_in _ (by omega)
    have xT:∀ j:Nat,Calls Tryz.prog 122 #[.slice p2 lb c2,.int .i64 (k:Int)] (wr.drewN j) fun e w'=>e=.returned (.int .i64 (y:Int))∧wr.drewN j=w':=fun j=>by
     have:=iw _ _ k (halves b) _ (Rd.drewN HRB.out j)
     rwa [HY.out] at this
    have HAT:=Lib.hid xT
    clear xT
    go_wp2_with fail
    go_quiet ((go_at_call 122;exact vT (HAT.out _) ⟨_,rfl⟩))
    clear vh hw2 yd Cm qg
    by_cases hneg:(x:Int) - (y:Int) - (r:Int) < 0
    ·go_wp2_with (at_builtin;refine dt (w:=wr.drewN nq) rfl _ _ 156 rfl B2 3 i0 (.int .i64 0) 8 Tryz.underlying156 hi kG lj lO rfl (Own.drewN HO.out nq) rfl rfl (d:=x + 65536 - y - r) (by omega) (by omega) (by omega) vf ?_;intro v1 w3 fx iy)
     have Ia:=Lib.hid fx
     have Kv:=Lib.hid (iy w2 (Below.drewN gB.out nq))
     clear fx iy
     go_wp2_with fail
     go_roundw
     case rel=>
      have hst:=xb (d:=x + 65536 - y - r) (r':=1) Ep.out HDH.out HDV.out HX.out HY.out (by omega) (by omega)
      exact ⟨k + 1,1,ds++[x + 65536 - y - r],by omega,by simp [Ep.out],by go_num,rfl,by omega,hst.1,hst.2,Ia.out,Kv.out⟩
     case measure=>simp [intOf];omega
    ·go_wp2_with (at_builtin;refine dt (w:=wr.drewN nq) rfl _ _ 156 rfl B2 3 i0 (.int .i64 0) 8 Tryz.underlying156 hi kG lj lO rfl (Own.drewN HO.out nq) rfl rfl (d:=x - y - r) (by omega) (by omega) (by omega) vf ?_;intro v1 w3 fx iy)
     have Ia:=Lib.hid fx
     have Kv:=Lib.hid (iy w2 (Below.drewN gB.out nq))
     clear fx iy
     go_wp2_with fail
     go_roundw
     case rel=>
      have hst:=xb (d:=x - y - r) (r':=0) Ep.out HDH.out HDV.out HX.out HY.out (by omega) (by omega)
      exact ⟨k + 1,0,ds++[x - y - r],by omega,by simp [Ep.out],by go_num,rfl,by omega,hst.1,hst.2,Ia.out,Kv.out⟩
     case measure=>simp [intOf];omega
   ·obtain rfl:k=la:=by omega
    clear jK
    go_wp2_with fail
    refine (oA _ k ds _ (Rd.own HO.out) HDH.out (by omega)).mono ?_
    rintro e w4 ⟨v4,rfl,aI,gU⟩
    have hval:hval ds=a - b:=by
     have h1:=HDV.out
     have e1:hval ((halves a).take k)=a:=by
      show val 65536 _=_
      rw [eK (Nat.le_of_eq JF.out)];exact bg a
     have e2:hval ((halves b).take k)=b:=by
      show val 65536 _=_
      rw [eK (by rw [JH.out];exact hlen)];exact bg b
     rw [e1,e2] at h1
     have h3:=rS HDH.out
     rw [Ep.out] at h3
     have hba:=HAB.out
     have:r=0:=by
      rcases Nat.eq_zero_or_pos r with h | h
      ·exact h
      ·have:r=1:=by omega
       subst this
       omega
     subst this
     omega
    rw [hval] at aI
    have HOWN:=Lib.hid aI
    clear aI
    go_wp2_with fail
    refine bA.out _ _ ⟨.inr ⟨by have:=HAB.out;omega,v4,rfl,?_⟩,(tW.out.trans (gB.out.mono Lv)).trans (gU.mono (by omega))⟩
    exact Own.mono HOWN.out (by omega)
end Go.Proofs.YtabalinjfgcfeaaGreat
namespace Go.Proofs.YtabalinjfgcfeaaGreat
open Go.RowKit
theorem EX (neg:Bool) (xs:List Nat) (v:Value) (w:World) (h:eW w v neg xs):
  Calls Tryz.prog 115 #[v] w fun e w'=>e=.returned (.bool (dw neg xs))∧aj w w':=by
 obtain ⟨p,c,rfl,hr,hl⟩:=h
 obtain ⟨p',c',hv,eT,eV,-⟩:=hr.u32
 simp only [Value.slice.injEq,true_and] at hv
 obtain ⟨rfl,rfl⟩:=hv
 refine aO fun R' bA=> ?_
 by_cases hx:xs=[]
 ·subst hx
  simp only [List.length_nil,qh] at *
  go_enter Tryz.func115,Tryz.ntmps115
  cases neg
  ·go_wp2
   exact bA.out _ _ ⟨rfl,(aj.refl w).alloc _⟩
  ·go_wp2
   exact bA.out _ _ ⟨rfl,(aj.refl w).alloc _⟩
 ·obtain ⟨m,hm⟩:∃ m,xs.length=m + 1:=⟨xs.length - 1,by have:=List.length_pos_iff.2 hx;omega⟩
  generalize hn:xs.length=n at *
  obtain ⟨b,off,x,rfl,hb,hxm,hc⟩:=hr.cellAt (k:=m) (by omega)
  have h1:dw neg xs=decide (x≠0):=tX (by rw [hn,hm];exact hxm)
  rw [h1] at bA
  have hz:((n:Int) == 0)=false:=by rw [beq_eq_false_iff_ne];omega
  have hp:(0:Int) < (n:Int):=by omega
  have hw:IntKind.i64.wrap ((n:Int) - 1)=(m:Int):=by rw [IntWalk.i64_in _ (by omega)];omega
  have hlt:(m:Int) < (n:Int):=by omega
  have HN:=Lib.hid hn
  have hpn:0 < n:=by omega
  clear hx hm hn h1 hxm hr hl
  go_enter Tryz.func115,Tryz.ntmps115
  by_cases gL:x=0
  ·subst gL
   cases neg
   ·go_wp2
    exact bA.out _ _ ⟨rfl,(aj.refl w).alloc _⟩
   ·go_wp2
    exact bA.out _ _ ⟨rfl,(aj.refl w).alloc _⟩
  ·have JJ:((x:Int) != 0)=true:=by rw [bne_iff_ne];omega
   rw [decide_eq_true gL] at bA
   clear gL
   cases neg
   ·go_wp2
    exact bA.out _ _ ⟨rfl,(aj.refl w).alloc _⟩
   ·go_wp2
    exact bA.out _ _ ⟨rfl,(aj.refl w).alloc _⟩
theorem qD (v:Value) (X:Int) (k:Nat) (w0 w:World) (h:bP w0 v X k) (oO:aj w0 w):
  Calls Tryz.prog 96 #[v] w fun e w'=>∃ u,e=.returned u∧bO w0 u X∧aj w w':=by
 obtain ⟨neg,xs,hn,rfl,hk⟩:=h
 refine aO fun R' bA=> ?_
 have HN:=Lib.hid hn
 obtain ⟨p,c,rfl,hr,hl⟩:=hn
 clear hr
 go_enter Tryz.func96,Tryz.ntmps96
 go_wp2_with fail
 refine (EX neg xs _ _ ((HN.out.bj oO).bj (((aj.refl w).alloc _).alloc _))).mono ?_
 rintro e w1 ⟨rfl,aV⟩
 obtain ⟨b1,b2,lJ⟩:=ln w 53 53 #[.bool neg,.slice p xs.length c] #[.bool false,.slice none 0 0]
 obtain ⟨c1,c2,_,_⟩:=(b1.bj aV).two
 obtain ⟨c3,c4,f3,f4⟩:=(b2.bj aV).two
 have ya:aj w w1:=lJ.aJ aV
 cases pZ:dw neg xs
 ·have B2:=(b2.bj aV).bB (.bool false) (.slice none 0 0)
  have tW:=ya.bB (b:=w.heap.size + 1) (by omega) (.bool false) (.slice none 0 0)
  go_wp2
  generalize (w1.setCell ⟨w.heap.size + 1,0,none⟩ (.bool false)).setCell ⟨w.heap.size + 1,1,none⟩ (.slice none 0 0)=w2 at *
  obtain ⟨d1,d2,_,_⟩:=B2.two
  refine bodyPost_ret (v:=.agg #[.bool false,.slice none 0 0]) (by simp [results,Tryz.results96,go_sem,d1,d2]) rfl (bA.out _ _ ⟨_,rfl,?_,tW⟩)
  rw [numOf,if_neg (by simp [pZ])]
  exact bO.zero _
 ·have B2:=(b2.bj aV).bB (.bool neg) (.slice p xs.length c)
  have tW:=ya.bB (b:=w.heap.size + 1) (by omega) (.bool neg) (.slice p xs.length c)
  go_wp2
  generalize (w1.setCell ⟨w.heap.size + 1,0,none⟩ (.bool neg)).setCell ⟨w.heap.size + 1,1,none⟩ (.slice p xs.length c)=w2 at *
  obtain ⟨d1,d2,_,_⟩:=B2.two
  refine bodyPost_ret (v:=.agg #[.bool neg,.slice p xs.length c]) (by simp [results,Tryz.results96,go_sem,d1,d2]) rfl (bA.out _ _ ⟨_,rfl,?_,tW⟩)
  rw [numOf,if_pos pZ]
  obtain ⟨h1,h2⟩:=canon hl pZ
  have:=HN.out
  show eW _ _ _ _
  rw [←h1,←h2]
  exact this
set_option maxHeartbeats 1000000 in
theorem ji (neg:Bool) (v:Value) (n:Nat) (xs:List Nat) (w:World) (hr:Rd w 1 v n (ints .u32 xs)) (hl:bV xs) (hn:n≤1073741824):
  Calls Tryz.prog 92 #[.bool neg,v] w fun e w'=>∃ r,e=.returned r∧aC w' w.heap.size r (if neg=true then -(aq xs:Int) else aq xs)∧aj w w':=by
 obtain ⟨p,c,rfl,_,_,_⟩:=hr.u32
 have HR:=Lib.hid hr
 have jc:=aW.new w 53 #[.bool false,.slice none 0 0]
 have lJ:=(aj.refl w).alloc (.cells #[.bool false,.slice none 0 0] 53)
 clear hr
 refine aO fun R' bA=> ?_
 go_enter Tryz.func92,Tryz.ntmps92
 go_wp2_with fail
 refine (ET _ n xs _ (HR.out.below lJ) hl hn).mono ?_
 rintro e w1 ⟨v1,rfl,tr,aV⟩
 replace aV:aj _ w1:=aV
 obtain ⟨p1,k1,rfl,_,_,_⟩:=Own.form tr
 generalize hL:(limbs (aq xs)).length=L at *
 have HL:=Lib.hid hL
 have FC:=jc.bj aV
 have FB:=lJ.aJ aV
 obtain ⟨c1,c2,f1,f2⟩:=FC.two
 have Gw:=Own.mono tr lJ.size
 clear hL tr
 cases neg
 ·have HO:=Lib.hid (Own.bB Gw FC (by decide) (.bool false) (.slice p1 L k1))
  clear Gw
  have Aa:=FC.bB (.bool (false)) (.slice p1 (L) k1)
  have Ab:=aj.bB FB (b:=w.heap.size) (by omega) (.bool (false)) (.slice p1 (L) k1)
  go_wp2
  generalize (w1.setCell ⟨w.heap.size,0,none⟩ (.bool (false))).setCell ⟨w.heap.size,1,none⟩ (.slice p1 (L) k1)=wz at *
  obtain ⟨Ac,Ad,_,_⟩:=Aa.two
  refine bodyPost_ret (v:=.agg #[.bool (false),.slice p1 (L) k1]) (by simp [results,Tryz.results92,go_sem,Ac,Ad]) rfl (bA.out _ _ ?_)
  exact ⟨_,rfl,aC.of (neg:=false) (by rw [HL.out];exact HO.out) HL.out.symm _ (by simp),Ab⟩
 ·have HO:=Lib.hid (Own.bB Gw FC (by decide) (.bool (decide (0 < L))) (.slice p1 L k1))
  clear Gw
  have Aa:=FC.bB (.bool (decide (0 < L))) (.slice p1 (L) k1)
  have Ab:=aj.bB FB (b:=w.heap.size) (by omega) (.bool (decide (0 < L))) (.slice p1 (L) k1)
  go_wp2
  generalize (w1.setCell ⟨w.heap.size,0,none⟩ (.bool (decide (0 < L)))).setCell ⟨w.heap.size,1,none⟩ (.slice p1 (L) k1)=wz at *
  obtain ⟨Ac,Ad,_,_⟩:=Aa.two
  refine bodyPost_ret (v:=.agg #[.bool (decide (0 < L)),.slice p1 (L) k1]) (by simp [results,Tryz.results92,go_sem,Ac,Ad]) rfl (bA.out _ _ ?_)
  exact ⟨_,rfl,aC.of (neg:=true) (by rw [HL.out];exact HO.out) HL.out.symm _ (by simp),Ab⟩
def Af (X Y:Int):Int:=(X - Y).sign
theorem GC {X Y:Int} (h:X < Y):Af X Y= -1:=sign_neg (by omega)
theorem GD {X Y:Int} (h:Y < X):Af X Y=1:=eX (by omega)
theorem zh (a b:Nat):Af (a:Int) b=fT a b:=by
 rcases Nat.lt_trichotomy a b with h | rfl | h
 ·rw [GC (by omega),kE h]
 ·rw [qX];simp [Af]
 ·rw [GD (by omega),kF h]
theorem EY (a b:Nat):Af (-(a:Int)) (-(b:Int))=fT b a:=by
 rw [←zh];unfold Af;congr 1;omega
set_option maxHeartbeats 2000000 in
theorem Lx (v u:Value) (X Y:Int) (j k:Nat) (w:World) (hv:bP w v X j) (hu:bP w u Y k) (hj:j≤1073741824) (hk:k≤1073741824):
  Calls Tryz.prog 117 #[v,u] w fun e w'=>e=.returned (.int .i64 (Af X Y))∧aj w w':=by
 obtain ⟨s,p,n,c,rfl⟩:=hv.form
 obtain ⟨t,q,m,d,rfl⟩:=hu.form
 refine aO fun R' bA=> ?_
 obtain ⟨b1,b2,lJ⟩:=ln w 53 53 #[.bool s,.slice p n c] #[.bool t,.slice q m d]
 have HJ:=Lib.hid (Nat.le_trans hv.len hj)
 have HK:=Lib.hid (Nat.le_trans hu.len hk)
 have HV:=Lib.hid hv
 have HU:=Lib.hid hu
 clear hv hu hj hk
 go_enter Tryz.func117,Tryz.ntmps117
 go_wp2_with fail
 generalize (w.alloc _).alloc _=W at *
 refine (qD _ X j w _ HV.out (by (with_reducible (repeat (first | assumption | exact aj.refl _ | refine aj.drew ?_ | refine aj.drewN ?_ _ | refine aj.alloc ?_ _ | refine aj.aJ ?_ (by assumption) | refine aj.setCell ?_ (by first | omega | (simp;done) | (simp;omega)) _))))).mono ?_
 rintro e wa ⟨ua,rfl,hua,hba⟩
 obtain ⟨s1,p1,n1,k1,rfl⟩:=hua.ij
 obtain ⟨a1,a2,a3,a4⟩:=(b1.bj hba).two
 obtain ⟨a5,a6,a7,a8⟩:=(b2.bj hba).two
 have B1:=(b1.bj hba).bB (.bool s1) (.slice p1 n1 k1)
 have B2:=(b2.bj hba).dz (b':=w.heap.size) (by omega) (.bool s1) (.slice p1 n1 k1)
 have hZ:=aX.KB (aX.KB (aX.aJ (aX.refl W w.heap.size (w.heap.size + 1)) hba) (j:=0) (.bool s1)) (j:=1) (.slice p1 n1 k1)
 have HB:=aj.bB (lJ.aJ hba) (b:=w.heap.size) (by omega) (.bool s1) (.slice p1 n1 k1)
 have HPA:=Lib.hid hua.parts
 have HSA:=Lib.hid hua.sgn
 have HUA:=Lib.hid hua
 clear hua
 go_wp2_with fail
 generalize (wa.setCell ⟨w.heap.size,0,none⟩ (.bool s1)).setCell ⟨w.heap.size,1,none⟩ (.slice p1 n1 k1)=wb at *
 clear a1 a2 a3 a4 a5 a6 a7 a8 hba
 refine (qD _ Y k w _ HU.out HB).mono ?_
 rintro e wc ⟨ub,rfl,Kl,ya⟩
 obtain ⟨s2,p2,n2,k2,rfl⟩:=Kl.ij
 obtain ⟨a1,a2,a3,a4⟩:=(B1.bj ya).two
 obtain ⟨a5,a6,a7,a8⟩:=(B2.bj ya).two
 have D1:=(B1.bj ya).dz (b':=w.heap.size + 1) (by omega) (.bool s2) (.slice p2 n2 k2)
 have D2:=(B2.bj ya).bB (.bool s2) (.slice p2 n2 k2)
 have hY:=aX.pJ (aX.pJ (aX.aJ hZ ya) (j:=0) (.bool s2)) (j:=1) (.slice p2 n2 k2)
 have HD:=aj.bB (HB.aJ ya) (b:=w.heap.size + 1) (by omega) (.bool s2) (.slice p2 n2 k2)
 have HPB:=Lib.hid Kl.parts
 have HSB:=Lib.hid Kl.sgn
 have HUB:=Lib.hid Kl
 clear Kl B1 B2 HB ya hZ
 have JJ:n1≤1073741824:=by rw [HPA.out.1];exact HJ.out
 have hx2:n2≤1073741824:=by rw [HPB.out.1];exact HK.out
 have HX1:=Lib.hid JJ
 have Ka:=Lib.hid hx2
 clear JJ hx2
 cases s1 <;> cases s2
 ·go_wp2_with fail
  generalize (wc.setCell ⟨w.heap.size + 1,0,none⟩ (.bool false)).setCell ⟨w.heap.size + 1,1,none⟩ (.slice p2 n2 k2)=wd at *
  refine (tv _ _ n1 n2 _ _ _ (HPA.out.2.1.below HD) (HPB.out.2.1.below HD) (ay _) (ay _) HX1.out Ka.out).mono ?_
  rintro e we ⟨rfl,hbe⟩
  rw [au,au,←zh]
  have e1:(X.natAbs:Int)=X:=by have:=HPA.out.2.2;simpa using this.symm
  have e2:(Y.natAbs:Int)=Y:=by have:=HPB.out.2.2;simpa using this.symm
  rw [e1,e2]
  go_wp2_with fail
  exact bA.out _ _ ⟨rfl,HD.aJ hbe⟩
 ·have h1:¬ X < 0:=of_decide_eq_false HSA.out.symm
  have h2:Y < 0:=of_decide_eq_true HSB.out.symm
  rw [GD (by omega)] at bA
  go_wp2
  exact bA.out _ _ ⟨rfl,HD⟩
 ·have h1:X < 0:=of_decide_eq_true HSA.out.symm
  have h2:¬ Y < 0:=of_decide_eq_false HSB.out.symm
  rw [GC (by omega)] at bA
  go_wp2
  exact bA.out _ _ ⟨rfl,HD⟩
 ·go_wp2_with fail
  generalize (wc.setCell ⟨w.heap.size + 1,0,none⟩ (.bool true)).setCell ⟨w.heap.size + 1,1,none⟩ (.slice p2 n2 k2)=wd at *
  refine (tv _ _ n2 n1 _ _ _ (HPB.out.2.1.below HD) (HPA.out.2.1.below HD) (ay _) (ay _) Ka.out HX1.out).mono ?_
  rintro e we ⟨rfl,hbe⟩
  rw [au,au,←EY]
  have e1: -(X.natAbs:Int)=X:=by have:=HPA.out.2.2;simpa using this.symm
  have e2: -(Y.natAbs:Int)=Y:=by have:=HPB.out.2.2;simpa using this.symm
  rw [e1,e2]
  go_wp2_with fail
  exact bA.out _ _ ⟨rfl,HD.aJ hbe⟩
theorem cT (v:Value) (X:Int) (j:Nat) (w:World) (hv:bP w v X j) (hj:j≤1073741824):
  Calls Tryz.prog 89 #[v] w fun e w'=>e=.returned (.int .i64 X.sign)∧aj w w':=by
 obtain ⟨s,p,n,c,rfl⟩:=hv.form
 refine aO fun R' bA=> ?_
 have lJ:=(aj.refl w).alloc (.cells #[.bool s,.slice p n c] 53)
 have HV:=Lib.hid (hv.bj lJ)
 have e1:=Lib.hid (show Af X 0=X.sign by simp [Af])
 clear hv
 go_enter Tryz.func89,Tryz.ntmps89
 go_wp2_with fail
 generalize w.alloc _=W at *
 refine (Lx _ _ X 0 j 0 _ HV.out ((bO.zero _).to (by simp [bC])) hj (by omega)).mono ?_
 rintro e w1 ⟨rfl,aV⟩
 rw [e1.out]
 go_wp2
 exact bA.out _ _ ⟨rfl,lJ.aJ aV⟩
end Go.Proofs.YtabalinjfgcfeaaGreat
namespace Go.Proofs.YtabalinjfgcfeaaGreat
open Go.RowKit
theorem Rd.kp {U:TypeId} {T:TypeId→Bool} {w w':World} {v:Value} {n:Nat} {xs:List Nat} (h:Rd w 1 v n (ints .u32 xs)) (k:aE ⟨U,fun _=>True,T⟩ w w'):Rd w' 1 v n (ints .u32 xs):=by
 obtain ⟨p,c,rfl,h1,h2,h3,h4⟩:=h
 refine ⟨p,c,rfl,h1,h2,h3,fun hn=> ?_⟩
 obtain ⟨b,off,hp,hc⟩:=h4 hn
 refine ⟨b,off,hp,fun j u hj=> ?_⟩
 obtain ⟨x,hx,rfl⟩:=List.mem_map.1 (List.mem_of_getElem? hj)
 exact k.cell _ _ trivial (hc j _ hj)
theorem Own.kp {T:TypeId→Bool} {w w':World} {B sz n:Nat} {v:Value} {cs:List Value} (h:w.ownsRow B UU sz v n cs) (k:aE ⟨UU,fun _=>True,T⟩ w w'):w'.ownsRow B UU sz v n cs:=by
 refine ⟨h.1,?_⟩
 rcases h.2 with h2 | ⟨g,cap,cur,hv,hb,hg,r⟩
 ·exact .inl h2
 ·exact .inr ⟨g,cap,cur,hv,hb,k.block _ g cur rfl trivial hg,r⟩
theorem eW.kp {U:TypeId} {T:TypeId→Bool} {w w':World} {v:Value} {s:Bool} {xs:List Nat} (h:eW w v s xs) (k:aE ⟨U,fun _=>True,T⟩ w w'):eW w' v s xs:=by
 obtain ⟨p,c,hv,hr,hl⟩:=h
 exact ⟨p,c,hv,hr.kp k,hl⟩
theorem bP.kp {U:TypeId} {T:TypeId→Bool} {w w':World} {v:Value} {X:Int} {j:Nat} (h:bP w v X j) (k:aE ⟨U,fun _=>True,T⟩ w w'):bP w' v X j:=by
 obtain ⟨s,xs,hn,hx,hj⟩:=h
 exact ⟨s,xs,hn.kp k,hx,hj⟩
theorem bO.kp {U:TypeId} {T:TypeId→Bool} {w w':World} {v:Value} {X:Int} (h:bO w v X) (k:aE ⟨U,fun _=>True,T⟩ w w'):bO w' v X:=eW.kp h k
theorem aC.kp {T:TypeId→Bool} {w w':World} {B:Nat} {v:Value} {X:Int} (h:aC w B v X) (k:aE ⟨UU,fun _=>True,T⟩ w w'):aC w' B v X:=by
 obtain ⟨p,c,hv,ho⟩:=h
 exact ⟨p,c,hv,Own.kp ho k⟩
theorem aC.in {w:World} {B:Nat} {v:Value} {X:Int} {j:Nat} (h:aC w B v X) (hs:Sz X j):bP w v X j:=h.rd.to hs
def EZ (X Y:Int):Rat:=if 0 < Y∧Int.gcd X Y=1 then Rat.divInt X Y else 0
theorem qE {X Y:Int} (h:0 < Y∧Int.gcd X Y=1):(EZ X Y).num=X∧((EZ X Y).den:Int)=Y:=by
 unfold EZ
 rw [if_pos h,Rat.num_divInt,Rat.den_divInt,if_neg (by omega),Int.gcd_comm,h.2]
 have:Y.sign=1:=eX h.1
 rw [this]
 simp
 omega
theorem Fa {X Y:Int} (h:¬ (0 < Y∧Int.gcd X Y=1)):EZ X Y=0:=if_neg h
theorem zi (q:Rat):EZ q.num q.den=q:=by
 have h:(0:Int) < q.den∧Int.gcd q.num q.den=1:=⟨by have:=q.den_nz;omega,by have:=q.reduced;simpa [Int.gcd,Nat.Coprime] using this⟩
 obtain ⟨h1,h2⟩:=qE h
 exact Rat.ext h1 (by omega)
def eR (w:World) (v:Value) (s:Bool) (xs:List Nat) (t:Bool) (ys:List Nat):Prop:=
 ∃ p c r d,v=.agg #[.bool s,.slice p xs.length c,.bool t,.slice r ys.length d]∧eW w (.agg #[.bool s,.slice p xs.length c]) s xs∧eW w (.agg #[.bool t,.slice r ys.length d]) t ys
def rq (s:Bool) (xs:List Nat) (t:Bool) (ys:List Nat):Rat:=EZ (numOf s xs) (numOf t ys)
def bK (w:World) (v:Value) (q:Rat) (k:Nat):Prop:=∃ s xs t ys,eR w v s xs t ys∧q=rq s xs t ys∧xs.length≤k∧ys.length≤k
def cQ (w:World) (v:Value) (q:Rat):Prop:=∃ s p n c t r m d,v=.agg #[.bool s,.slice p n c,.bool t,.slice r m d]∧bO w (.agg #[.bool s,.slice p n c]) q.num∧bO w (.agg #[.bool t,.slice r m d]) (q.den:Int)
def aK (w:World) (B:Nat) (v:Value) (q:Rat):Prop:=∃ s p n c t r m d,v=.agg #[.bool s,.slice p n c,.bool t,.slice r m d]∧aC w B (.agg #[.bool s,.slice p n c]) q.num∧aC w B (.agg #[.bool t,.slice r m d]) (q.den:Int)
def dV (q:Rat) (k:Nat):Prop:=Sz q.num k∧Sz (q.den:Int) k
theorem eR.kp {U:TypeId} {T:TypeId→Bool} {w w':World} {v:Value} {s t:Bool} {xs ys:List Nat} (h:eR w v s xs t ys) (k:aE ⟨U,fun _=>True,T⟩ w w'):eR w' v s xs t ys:=by
 obtain ⟨p,c,r,d,hv,h1,h2⟩:=h
 exact ⟨p,c,r,d,hv,h1.kp k,h2.kp k⟩
theorem bK.kp {U:TypeId} {T:TypeId→Bool} {w w':World} {v:Value} {q:Rat} {j:Nat} (h:bK w v q j) (k:aE ⟨U,fun _=>True,T⟩ w w'):bK w' v q j:=by
 obtain ⟨s,xs,t,ys,h1,h2⟩:=h
 exact ⟨s,xs,t,ys,h1.kp k,h2⟩
theorem cQ.kp {U:TypeId} {T:TypeId→Bool} {w w':World} {v:Value} {q:Rat} (h:cQ w v q) (k:aE ⟨U,fun _=>True,T⟩ w w'):cQ w' v q:=by
 obtain ⟨s,p,n,c,t,r,m,d,hv,h1,h2⟩:=h
 exact ⟨s,p,n,c,t,r,m,d,hv,h1.kp k,h2.kp k⟩
theorem aK.kp {T:TypeId→Bool} {w w':World} {B:Nat} {v:Value} {q:Rat} (h:aK w B v q) (k:aE ⟨UU,fun _=>True,T⟩ w w'):aK w' B v q:=by
 obtain ⟨s,p,n,c,t,r,m,d,hv,h1,h2⟩:=h
 exact ⟨s,p,n,c,t,r,m,d,hv,h1.kp k,h2.kp k⟩
theorem aK.mono {w:World} {B B':Nat} {v:Value} {q:Rat} (h:aK w B v q) (hB:B'≤B):aK w B' v q:=by
 obtain ⟨s,p,n,c,t,r,m,d,hv,h1,h2⟩:=h
 exact ⟨s,p,n,c,t,r,m,d,hv,h1.mono hB,h2.mono hB⟩
theorem aK.rd {w:World} {B:Nat} {v:Value} {q:Rat} (h:aK w B v q):cQ w v q:=by
 obtain ⟨s,p,n,c,t,r,m,d,hv,h1,h2⟩:=h
 exact ⟨s,p,n,c,t,r,m,d,hv,h1.rd,h2.rd⟩
theorem aK.cast {w:World} {B:Nat} {v:Value} {q q':Rat} (h:aK w B v q) (e:q=q'):aK w B v q':=e▸h
theorem bO.len4 {w:World} {s:Bool} {p:Option Addr} {n c:Nat} {X:Int} (h:bO w (.agg #[.bool s,.slice p n c]) X):s=decide (X < 0)∧n=(limbs X.natAbs).length:=⟨h.sgn,h.parts.1⟩
theorem cQ.raw {w:World} {v:Value} {q:Rat} (h:cQ w v q):eR w v (decide (q.num < 0)) (limbs q.num.natAbs) (decide ((q.den:Int) < 0)) (limbs (q.den:Int).natAbs):=by
 obtain ⟨s,p,n,c,t,r,m,d,rfl,h1,h2⟩:=h
 obtain ⟨rfl,rfl⟩:=h1.len4
 obtain ⟨rfl,rfl⟩:=h2.len4
 exact ⟨p,c,r,d,rfl,h1,h2⟩
theorem cQ.to {w:World} {v:Value} {q:Rat} {k:Nat} (h:cQ w v q) (hs:dV q k):bK w v q k:=
 ⟨_,_,_,_,h.raw,by unfold rq;rw [fD,fD,zi],hs.1,hs.2⟩
theorem aK.in {w:World} {B:Nat} {v:Value} {q:Rat} {k:Nat} (h:aK w B v q) (hs:dV q k):bK w v q k:=h.rd.to hs
theorem dV.mono {q:Rat} {k l:Nat} (h:dV q k) (DR:k≤l):dV q l:=⟨h.1.mono DR,h.2.mono DR⟩
theorem dV.zero:dV 0 1:=⟨Sz.zero.mono (by omega),Sz.small (by decide)⟩
theorem xc {s:Bool} {xs:List Nat} {k:Nat} (hl:bV xs) (h:xs.length≤k):Sz (numOf s xs) k:=Nat.le_trans (yH hl) h
theorem bK.sz {w:World} {v:Value} {q:Rat} {k:Nat} (h:bK w v q k) (hk:1≤k):dV q k:=by
 obtain ⟨s,xs,t,ys,⟨p,c,r,d,_,⟨_,_,_,_,l1⟩,⟨_,_,_,_,l2⟩⟩,rfl,h1,h2⟩:=h
 unfold rq
 by_cases hr:0 < numOf t ys∧Int.gcd (numOf s xs) (numOf t ys)=1
 ·obtain ⟨e1,e2⟩:=qE hr
  exact ⟨by rw [e1];exact xc l1 h1,by rw [e2];exact xc l2 h2⟩
 ·rw [Fa hr];exact dV.zero.mono hk
theorem bK.form {w:World} {v:Value} {q:Rat} {k:Nat} (h:bK w v q k):∃ s p n c t r m d,v=.agg #[.bool s,.slice p n c,.bool t,.slice r m d]:=by
 obtain ⟨s,xs,t,ys,⟨p,c,r,d,hv,_⟩,_⟩:=h
 exact ⟨_,_,_,_,_,_,_,_,hv⟩
theorem cQ.parts {w:World} {s t:Bool} {p r:Option Addr} {n c m d:Nat} {q:Rat} (h:cQ w (.agg #[.bool s,.slice p n c,.bool t,.slice r m d]) q):bO w (.agg #[.bool s,.slice p n c]) q.num∧bO w (.agg #[.bool t,.slice r m d]) (q.den:Int):=by
 obtain ⟨s',p',n',c',t',r',m',d',hv,h1,h2⟩:=h
 simp only [Value.agg.injEq,Array.mk.injEq,List.cons.injEq,and_true] at hv
 obtain ⟨e1,e2,e3,e4⟩:=hv
 rw [e1,e2,e3,e4]
 exact ⟨h1,h2⟩
theorem cQ.form {w:World} {v:Value} {q:Rat} (h:cQ w v q):∃ s p n c t r m d,v=.agg #[.bool s,.slice p n c,.bool t,.slice r m d]:=by
 obtain ⟨s,p,n,c,t,r,m,d,hv,_⟩:=h
 exact ⟨_,_,_,_,_,_,_,_,hv⟩
theorem aK.form {w:World} {B:Nat} {v:Value} {q:Rat} (h:aK w B v q):∃ s p n c t r m d,v=.agg #[.bool s,.slice p n c,.bool t,.slice r m d]:=h.rd.form
theorem vE {X Y:Int} (hY:0 < Y):X.fdiv (Int.gcd X Y:Int)=(Rat.divInt X Y).num∧Y.fdiv (Int.gcd X Y:Int)=((Rat.divInt X Y).den:Int):=by
 have hg:(0:Int) < (Int.gcd X Y:Int):=by
  have:Int.gcd X Y≠0:=fun e=>by have:=(Int.gcd_eq_zero_iff.1 e).2;omega
  omega
 rw [Rat.num_divInt,Rat.den_divInt,if_neg (by omega),eX hY,Int.one_mul,Int.gcd_comm Y X]
 refine ⟨Int.fdiv_eq_ediv_of_nonneg _ (by omega),?_⟩
 rw [Int.fdiv_eq_ediv_of_nonneg _ (by omega),Int.natCast_ediv]
 congr 1
 omega
theorem low_neg {X Y:Int} (hY:Y < 0):X.fdiv (-(Int.gcd X Y:Int))=(Rat.divInt X Y).num∧Y.fdiv (-(Int.gcd X Y:Int))=((Rat.divInt X Y).den:Int):=by
 have e:Rat.divInt X Y=Rat.divInt (-X) (-Y):=(Rat.neg_divInt_neg X Y).symm
 obtain ⟨h1,h2⟩:=vE (X:= -X) (Y:= -Y) (by omega)
 rw [Int.neg_gcd,Int.gcd_neg] at h1 h2
 rw [e,←h1,←h2]
 have fd:∀ a b:Int,(-a).fdiv b=a.fdiv (-b):=fun a b=>by rw [←Int.neg_fdiv_neg,Int.neg_neg]
 exact ⟨(fd _ _).symm,(fd _ _).symm⟩
end Go.Proofs.YtabalinjfgcfeaaGreat
set_option maxRecDepth 4000
namespace Go.Proofs.YtabalinjfgcfeaaGreat
open Go.RowKit
attribute [local irreducible] aB VS
theorem kN (v:Value) (X:Int) (k:Nat) (w:World) (h:bP w v X k):
  Calls Tryz.prog 96 #[v] w fun e w'=>∃ u,e=.returned u∧bO w' u X∧aj w w':=
 (qD v X k w w h (aj.refl w)).mono fun e w' ⟨u,he,h1,h2⟩=>⟨u,he,h1.bj h2,h2⟩
theorem bO.row {w:World} {s:Bool} {p:Option Addr} {n c:Nat} {X:Int} (h:bO w (.agg #[.bool s,.slice p n c]) X):Rd w 1 (.slice p n c) n (ints .u32 (limbs X.natAbs)):=h.parts.2.1
theorem bO.n {w:World} {s:Bool} {p:Option Addr} {n c:Nat} {X:Int} (h:bO w (.agg #[.bool s,.slice p n c]) X):n=(limbs X.natAbs).length:=h.parts.1
theorem rT {s:Bool} {X:Int} (h:s=decide (X < 0)):X=if s=true then -(X.natAbs:Int) else X.natAbs:=by
 subst h
 by_cases hx:X < 0
 ·simp [hx];omega
 ·simp [hx];omega
theorem xd (v:Value) (X:Int) (j:Nat) (w:World) (hv:bP w v X j) (hj:j≤1073741824):
  Calls Tryz.prog 93 #[v] w fun e w'=>∃ r,e=.returned r∧aC w' w.heap.size r (-X)∧aj w w':=by
 obtain ⟨s,p,n,c,rfl⟩:=hv.form
 have hl:=hv.len
 refine aw (C:=cj Tryz.prog w _) (args:=[_]) Tryz.func93 rfl Tryz.ntmps93 (Nat.le_of_ble_eq_true rfl) ?_
 (repeat first|refine wN ?_|refine wP rfl ?_|refine aa rfl ?_|refine ab rfl ?_|refine wO rfl rfl ?_)
 refine VO.call rfl rfl (fk Tryz.func96) (fun cC er dv=>(kN _ X j cC (hv.kp er)).mono ?_)
 rintro e w1 ⟨r1,rfl,h1,aV⟩
 obtain ⟨s1,p1,n1,c1,rfl⟩:=h1.ij
 refine ⟨_,rfl,aV,fun fe _ bb1=>wV rfl ?_⟩
 (repeat first|refine wN ?_|refine wP rfl ?_|refine aa rfl ?_|refine ab rfl ?_|refine wO rfl rfl ?_)
 refine VO.call rfl rfl (fk Tryz.func96) (fun dC gu eu=>(kN _ X j dC (hv.kp ((fe).aJ gu))).mono ?_)
 rintro e w2 ⟨r2,rfl,h2,bm⟩
 obtain ⟨s2,p2,n2,c2,rfl⟩:=h2.ij
 refine ⟨_,rfl,bm,fun fZ _ bb2=>wV rfl ?_⟩
 (repeat first|refine wN ?_|refine wP rfl ?_|refine aa rfl ?_|refine ab rfl ?_|refine wO rfl rfl ?_)
 refine VO.call rfl rfl (fk Tryz.func92) (fun gv gY gV=>(ji (!s1) _ n2 _ gv (h2.row.kp gY) (ay _) (by rw [h2.n];omega)).mono ?_)
 rintro e w3 ⟨r3,rfl,h3,cD⟩
 obtain ⟨s3,p3,n3,c3,rfl⟩:=h3.form
 refine ⟨_,rfl,cD,fun kt _ bb3=>wV rfl ?_⟩
 (repeat first|refine wN ?_|refine wP rfl ?_|refine aa rfl ?_|refine ab rfl ?_|refine wO rfl rfl ?_)
 refine VS.ret (aL _ _) rfl rfl (fun wz kz bz=> ?_)
 refine ⟨_,rfl,aC.cast ((h3.kp kz).mono gV.size) ?_,bz⟩
 rw [au]
 have:=rT h1.sgn
 cases s1 <;> simp at this ⊢ <;> omega
theorem xe (v u:Value) (X Y:Int) (j k:Nat) (w:World) (hv:bP w v X j) (hu:bP w u Y k) (hj:j≤536870912) (hk:k≤536870911):
  Calls Tryz.prog 62 #[v,u] w fun e w'=>∃ r,e=.returned r∧aC w' w.heap.size r (X + Y)∧aj w w':=by
 obtain ⟨s,p,n,c,rfl⟩:=hv.form
 obtain ⟨t,q,m,d,rfl⟩:=hu.form
 have sL:=hv.len
 have nL:=hu.len
 refine aw (C:=cj Tryz.prog w _) (args:=[_,_]) Tryz.func62 rfl Tryz.ntmps62 (Nat.le_of_ble_eq_true rfl) ?_
 (repeat first|refine wN ?_|refine wP rfl ?_|refine aa rfl ?_|refine ab rfl ?_|refine wO rfl rfl ?_)
 refine VO.call rfl rfl (fk Tryz.func96) (fun cC er dv=>(kN _ X j cC (hv.kp er)).mono ?_)
 rintro e w1 ⟨r1,rfl,h1,aV⟩
 obtain ⟨s1,p1,n1,c1,rfl⟩:=h1.ij
 refine ⟨_,rfl,aV,fun fe _ bb1=>wV rfl ?_⟩
 (repeat first|refine wN ?_|refine wP rfl ?_|refine aa rfl ?_|refine ab rfl ?_|refine wO rfl rfl ?_)
 refine VO.call rfl rfl (fk Tryz.func96) (fun dC gu eu=>(kN _ Y k dC (hu.kp ((fe).aJ gu))).mono ?_)
 rintro e w2 ⟨r2,rfl,h2,bm⟩
 obtain ⟨s2,p2,n2,c2,rfl⟩:=h2.ij
 refine ⟨_,rfl,bm,fun fZ _ bb2=>wV rfl ?_⟩
 (repeat first|refine wN ?_|refine wP rfl ?_|refine aa rfl ?_|refine ab rfl ?_|refine wO rfl rfl ?_)
 have e1:=rT h1.sgn
 have e2:=rT h2.sgn
 have sP:n1≤536870912:=by rw [h1.n];omega
 have wX:n2≤536870911:=by rw [h2.n];omega
 by_cases hst:s1=s2
 ·subst hst
  refine VS.bE rfl (by simp) ?_
  (repeat first|refine wN ?_|refine wP rfl ?_|refine aa rfl ?_|refine ab rfl ?_|refine wO rfl rfl ?_)
  refine VO.call rfl rfl (fk Tryz.func97) (fun gv gY gV=>(IC _ _ n1 n2 _ _ gv (h1.row.kp (gu.aJ ((Kp.of bm).aJ gY))) (h2.row.kp gY) (ay _) (ay _) (by omega) (by omega)).mono ?_)
  rintro e w3 ⟨v3,rfl,h3,cD⟩
  obtain ⟨p3,c3,rfl,_⟩:=Own.form h3
  refine ⟨_,rfl,cD,fun kt _ bb3=>wV rfl ?_⟩
  (repeat first|refine wN ?_|refine wP rfl ?_|refine aa rfl ?_|refine ab rfl ?_|refine wO rfl rfl ?_)
  refine VO.call rfl rfl (fk Tryz.func92) (fun nj qa qF=>(ji s1 _ _ _ nj (Rd.own (Own.kp h3 qa)) (ay _) (by have:=sum_len (a:=aq (limbs X.natAbs)) (b:=aq (limbs Y.natAbs)) (n:=n1) (m:=n2) (by rw [au];exact h1.n) (by rw [au];exact h2.n);omega)).mono ?_)
  rintro e w4 ⟨r4,rfl,h4,gU⟩
  obtain ⟨s4,p4,n4,c4,rfl⟩:=h4.form
  refine ⟨_,rfl,gU,fun pd _ AZ=>wV rfl ?_⟩
  (repeat first|refine wN ?_|refine wP rfl ?_|refine aa rfl ?_|refine ab rfl ?_|refine wO rfl rfl ?_)
  refine VS.ret (aL _ _) rfl rfl (fun wz kz bz=> ?_)
  refine ⟨_,rfl,aC.cast ((h4.kp kz).mono qF.size) ?_,bz⟩
  rw [au,au,au]
  cases s1 <;> simp at e1 e2 ⊢ <;> omega
 ·refine VS.bu rfl (by simpa using hst) ?_
  (repeat first|refine wN ?_|refine wP rfl ?_|refine aa rfl ?_|refine ab rfl ?_|refine wO rfl rfl ?_)
  refine VO.call rfl rfl (fk Tryz.func98) (fun gv gY gV=>(zg _ _ n1 n2 _ _ gv (h1.row.kp (gu.aJ ((Kp.of bm).aJ gY))) (h2.row.kp gY) (ay _) (ay _) (by omega) (by omega)).mono ?_)
  rintro e w3 ⟨h3,cD⟩
  rw [au,au] at h3
  rcases h3 with ⟨hlt,rfl⟩ | ⟨hle,v3,rfl,h3⟩
  ·refine ⟨_,rfl,cD,fun kt _ bb3=>wV rfl ?_⟩
   (repeat first|refine wN ?_|refine wP rfl ?_|refine aa rfl ?_|refine ab rfl ?_|refine wO rfl rfl ?_)
   refine VO.call rfl rfl (fk Tryz.func98) (fun nj qa qF=>(zg _ _ n2 n1 _ _ nj (h2.row.kp (gY.aJ ((Kp.of cD).aJ qa))) (h1.row.kp (gu.aJ ((Kp.of bm).aJ (gY.aJ ((Kp.of cD).aJ qa))))) (ay _) (ay _) (by omega) (by omega)).mono ?_)
   rintro e w4 ⟨h4,gU⟩
   rw [au,au] at h4
   rcases h4 with ⟨CK,rfl⟩ | ⟨uP,v4,rfl,h4⟩
   ·omega
   ·obtain ⟨p4,c4,rfl,_⟩:=Own.form h4
    refine ⟨_,rfl,gU,fun pd _ AZ=>wV rfl ?_⟩
    (repeat first|refine wN ?_|refine wP rfl ?_|refine aa rfl ?_|refine ab rfl ?_|refine wO rfl rfl ?_)
    refine VO.call rfl rfl (fk Tryz.func92) (fun kg mG ku=>(ji s2 _ _ _ kg (Rd.own (Own.kp h4 mG)) (ay _) (by have:=cw (show Y.natAbs - X.natAbs≤Y.natAbs by omega);omega)).mono ?_)
    rintro e w5 ⟨r5,rfl,h5,gi⟩
    obtain ⟨s5,p5,n5,c5,rfl⟩:=h5.form
    refine ⟨_,rfl,gi,fun nk _ xf=>wV rfl ?_⟩
    (repeat first|refine wN ?_|refine wP rfl ?_|refine aa rfl ?_|refine ab rfl ?_|refine wO rfl rfl ?_)
    refine VS.ret (aL _ _) rfl rfl (fun wz kz bz=> ?_)
    refine ⟨_,rfl,aC.cast ((h5.kp kz).mono ku.size) ?_,bz⟩
    rw [au]
    cases s1 <;> cases s2 <;> simp at e1 e2 hst ⊢ <;> omega
  ·obtain ⟨p3,c3,rfl,_⟩:=Own.form h3
   refine ⟨_,rfl,cD,fun kt _ bb3=>wV rfl ?_⟩
   (repeat first|refine wN ?_|refine wP rfl ?_|refine aa rfl ?_|refine ab rfl ?_|refine wO rfl rfl ?_)
   refine VO.call rfl rfl (fk Tryz.func92) (fun kg mG ku=>(ji s1 _ _ _ kg (Rd.own (Own.kp h3 mG)) (ay _) (by have:=cw (show X.natAbs - Y.natAbs≤X.natAbs by omega);omega)).mono ?_)
   rintro e w5 ⟨r5,rfl,h5,gi⟩
   obtain ⟨s5,p5,n5,c5,rfl⟩:=h5.form
   refine ⟨_,rfl,gi,fun nk _ xf=>wV rfl ?_⟩
   (repeat first|refine wN ?_|refine wP rfl ?_|refine aa rfl ?_|refine ab rfl ?_|refine wO rfl rfl ?_)
   refine VS.ret (aL _ _) rfl rfl (fun wz kz bz=> ?_)
   refine ⟨_,rfl,aC.cast ((h5.kp kz).mono ku.size) ?_,bz⟩
   rw [au]
   cases s1 <;> cases s2 <;> simp at e1 e2 hst ⊢ <;> omega
theorem CL (v u:Value) (X Y:Int) (j k:Nat) (w:World) (hv:bP w v X j) (hu:bP w u Y k) (hj:j≤536870912) (hk:k≤536870911):
  Calls Tryz.prog 120 #[v,u] w fun e w'=>∃ r,e=.returned r∧aC w' w.heap.size r (X - Y)∧aj w w':=by
 obtain ⟨s,p,n,c,rfl⟩:=hv.form
 obtain ⟨t,q,m,d,rfl⟩:=hu.form
 refine aw (C:=cj Tryz.prog w _) (args:=[_,_]) Tryz.func120 rfl Tryz.ntmps120 (Nat.le_of_ble_eq_true rfl) ?_
 (repeat first|refine wN ?_|refine wP rfl ?_|refine aa rfl ?_|refine ab rfl ?_|refine wO rfl rfl ?_)
 refine VO.call rfl rfl (fk Tryz.func93) (fun cC er dv=>(xd _ Y k cC (hu.kp er) (by omega)).mono ?_)
 rintro e w1 ⟨r1,rfl,h1,aV⟩
 obtain ⟨s1,p1,n1,c1,rfl⟩:=h1.form
 refine ⟨_,rfl,aV,fun fe _ bb1=>wV rfl ?_⟩
 (repeat first|refine wN ?_|refine wP rfl ?_|refine aa rfl ?_|refine ab rfl ?_|refine wO rfl rfl ?_)
 refine VO.call rfl rfl (fk Tryz.func62) (fun dC gu eu=>(xe _ _ X (-Y) j k dC (hv.kp ((fe).aJ gu)) ((h1.kp gu).in (Sz.neg hu.len)) hj hk).mono ?_)
 rintro e w2 ⟨r2,rfl,h2,bm⟩
 obtain ⟨s2,p2,n2,c2,rfl⟩:=h2.form
 refine ⟨_,rfl,bm,fun fZ _ bb2=>wV rfl ?_⟩
 (repeat first|refine wN ?_|refine wP rfl ?_|refine aa rfl ?_|refine ab rfl ?_|refine wO rfl rfl ?_)
 refine VS.ret (aL _ _) rfl rfl (fun wz kz bz=> ?_)
 exact ⟨_,rfl,aC.cast ((h2.kp kz).mono eu.size) (Int.sub_eq_add_neg).symm,bz⟩
end Go.Proofs.YtabalinjfgcfeaaGreat
namespace Go.Proofs.YtabalinjfgcfeaaGreat
open Go.RowKit
attribute [local irreducible] aB VS
set_option maxRecDepth 100000 in
set_option maxHeartbeats 400000 in
theorem gQ (p:Option Addr) (n c:Nat) (xs:List Nat) (w:World) (hr:Rd w 1 (.slice p n c) n (ints .i64 xs)) (hl:fX xs):
  Calls Tryz.prog 125 #[.slice p n c] w fun e w'=>(∃ m,m≤n∧e=.returned (.slice p m c)∧halves (hval xs)=xs.take m)∧w=w':=by
 obtain ⟨p',c',hv,eT,eV,ew⟩:=hr.i64
 simp only [Value.slice.injEq,true_and] at hv
 obtain ⟨rfl,rfl⟩:=hv
 have HX:Hid (xs.length=n):=ew
 clear ew
 refine aO fun R' bA=> ?_
 go_enter Tryz.func125,Tryz.ntmps125
 go_wp2
 go_loop [0] (fun v=>∃ m,m≤n∧v=.slice p m c∧hval (xs.take m)=hval xs) (fun v=>match v with | .slice _ m _=>m | _=>0)
 case atStart=>exact ⟨n,Nat.le_refl _,rfl,by rw [List.take_of_length_le (Nat.le_of_eq HX.out)]⟩
 case round=>
  obtain ⟨m,hm,rfl,hv⟩:=hrel
  have HV:Hid (hval (xs.take m)=hval xs):=hv
  clear hv
  by_cases h0:m=0
  ·subst h0
   go_wp2
   exact bA.out _ _ ⟨⟨0,Nat.zero_le _,rfl,jI (by omega) hl (Nat.zero_le _) HV.out (.inl rfl)⟩,rfl⟩
  ·obtain ⟨b,off,x,rfl,hb,hx,hc⟩:=hr.cellAt (k:=m - 1) (by omega)
   have Ka:Hid (xs[m-1]? =some x):=hx
   clear hx
   have h0':0 < m:=by omega
   obtain ⟨j,rfl⟩:∃ j,m=j + 1:=⟨m - 1,by omega⟩
   rw [Nat.add_sub_cancel] at hc
   by_cases gL:x=0
   ·subst gL
    go_wp2
    go_round
    case rel=>exact ⟨j,by omega,rfl,(kD Ka.out).symm.trans HV.out⟩
    case measure=>simp
   ·have hx0':((x:Int) == 0)=false:=by rw [beq_eq_false_iff_ne];omega
    go_wp2
    exact bA.out _ _ ⟨⟨j + 1,hm,rfl,jI (by omega) hl (by rw [HX.out];exact hm) HV.out (.inr ⟨x,Ka.out,gL⟩)⟩,rfl⟩
set_option maxRecDepth 100000 in
set_option maxHeartbeats 1000000 in
theorem Ag (va:Value) (n:Nat) (xs:List Nat) (w:World) (hr:Rd w 1 va n (ints .u32 xs)) (hl:bV xs) (hn:n≤1073741824):
  Calls Tryz.prog 101 #[va] w fun e w'=>∃ v',e=.returned v'∧w'.ownsRow w.heap.size 3 1 v' (halves (aq xs)).length (ints .i64 (halves (aq xs)))∧Below w.heap.size w w':=by
 obtain ⟨p,c,rfl,eT,eV,ew⟩:=hr.u32
 obtain ⟨i0,hi,kG,lj,lO⟩:=info_parts vD
 obtain ⟨B,hB⟩:∃ B,B=w.heap.size:=⟨_,rfl⟩
 have HB:=Lib.hid hB
 have Hr:=Lib.hid hr
 have HL:=Lib.hid hl
 have HX:=Lib.hid ew
 rw [←hB]
 clear hr hl ew hB
 refine aO fun R' bA=> ?_
 go_enter Tryz.func101,Tryz.ntmps101
 go_wp2
 go_loopw [3,4] (fun ov iv wr=>Gz w B xs ov iv wr) (fun _ iv _=>n - (intOf iv).toNat)
 case atStart=>exact ⟨0,[],Nat.zero_le _,rfl,rfl,dP.nil _,rfl,World.ownsRow_nil _ _ _ _,Below.refl _ _⟩
 case round=>
  obtain ⟨k,hs,hk,rfl,hhl,hhh,hhv,aI,hb⟩:=hrel
  have HK:=Lib.hid hk
  have HO:=Lib.hid aI
  have HHL:=Lib.hid hhl
  have HHH:=Lib.hid hhh
  have HHV:=Lib.hid hhv
  have gB:=Lib.hid hb
  have vf:B≤wr.heap.size:=by have:=hb.size;have:=HB.out;omega
  have hkn':k≤n:=by rw [←HX.out];exact hk
  clear hk aI hhl hhh hhv hb
  by_cases rh:k < n
  ·obtain ⟨b1,o1,x,rfl,aV,gh,hcw⟩:=Hr.out.cellAt rh
   have qg:=(gB.out.cell (p:=⟨b1,o1 + k,none⟩) (by rw [HB.out];exact aV)).trans hcw
   have hne:=JX HO.out (b:=b1) (by rw [HB.out];exact aV)
   have vg:=Lib.hid gh
   have km:=HL.out.at gh
   have HNE:=Lib.hid hne
   have yd:(0:Int)≤(k:Int):=by omega
   have Cm:(k:Int) < (n:Int):=by omega
   clear gh hcw hne
   go_wp2_with fail
   go_region_held3 (fun w'=>w'.cell? ⟨b1,o1 + k,none⟩=some (.int .u32 (x:Int))) (first | exact qg | go_keep | exact yu xa qg HNE.out)
    ((refine nO (by rfl) _ _ 156 (by rfl) B 3 i0 (.int .i64 0) 1 8 Tryz.underlying156 hi kG lj lO rfl (by omega) _ (2 * k) (ints .i64 hs) (by rfl) ((HO.out.alloc _).drew) _ 2 (ints .i64 [x % 65536,x / 65536]) (by rfl) (Rd.drew (Rd.lit2 (GA km) (GB km))) (lL .i64 [x % 65536,x / 65536]) (by unfold maxLen;omega) (by omega) (by simp;omega) ?_;intro v1 w1 fx xa))
   have qT:=Lib.hid fx
   have HG1:=Lib.hid xa
   clear fx xa
   go_wp2_with fail
   go_roundw
   case rel=>
    have hst:=zd vg.out km HHL.out HHH.out HHV.out
    exact ⟨k + 1,hs++[x % 65536,x / 65536],by rw [HX.out];omega,by go_num,by simp [HHL.out];omega,hst.1,hst.2,by rw [gM];exact qT.out,Below.behind gB.out vf HG1.out HO.out (Nat.le_refl _)⟩
   case measure=>simp [intOf];omega
  ·obtain rfl:k=n:=by omega
   obtain ⟨p1,c1,AX,_,_,_⟩:=Own.form HO.out
   have HV1:=Lib.hid AX
   have mo:Hid (hval hs=aq xs):=by show _=_;rw [HHV.out,bn (Nat.le_of_eq HX.out)]
   subst AX
   go_wp2_with fail
   refine (gQ p1 (2 * k) c1 hs _ (Rd.own HO.out) HHH.out).mono ?_
   rintro e w2 ⟨⟨m,hm,rfl,yb⟩,rfl⟩
   have HC:=Own.cut HO.out hm yb
   rw [mo.out] at HC
   have HC1:=Lib.hid HC.1
   have HC2:=Lib.hid HC.2
   clear HC yb
   go_wp2_with fail
   refine bA.out _ _ ⟨_,rfl,?_,gB.out⟩
   have:=HC1.out
   rw [←HC2.out] at this ⊢
   exact this
theorem Ly {n:Int} (h0: -9223372036854775808≤n) (h1:n≤9223372036854775807):rH (n.tmod 4294967296) [IntKind.i64.wrap (0 - n.tmod 4294967296)]=((n.natAbs % 4294967296:Nat):Int):=by
 have e:(n.tmod 4294967296).natAbs=n.natAbs % 4294967296:=by rw [Int.natAbs_tmod];rfl
 have hs:(0≤n→0≤n.tmod 4294967296):=fun h=>Int.tmod_nonneg _ h
 have hs':(n≤0→n.tmod 4294967296≤0):=fun h=>by have:=Int.tmod_nonneg 4294967296 (show 0≤-n by omega);rw [Int.neg_tmod] at this;omega
 rw [IntWalk.i64_in _ (by omega)]
 unfold rH rH
 split <;> omega
theorem Lz {n:Int} (h0: -9223372036854775808≤n) (h1:n≤9223372036854775807):rH (IntKind.i64.wrap (n.tdiv 4294967296)) [IntKind.i64.wrap (0 - IntKind.i64.wrap (n.tdiv 4294967296))]=((n.natAbs / 4294967296:Nat):Int):=by
 have e:(n.tdiv 4294967296).natAbs=n.natAbs / 4294967296:=by rw [Int.natAbs_tdiv];rfl
 have hs:(0≤n→0≤n.tdiv 4294967296):=fun h=>Int.tdiv_nonneg h (by omega)
 have hs':(n≤0→n.tdiv 4294967296≤0):=fun h=>by have:=Int.tdiv_nonneg (show 0≤-n by omega) (show (0:Int)≤4294967296 by omega);rw [Int.neg_tdiv] at this;omega
 have hb:n.natAbs / 4294967296≤2147483648:=by omega
 rw [IntWalk.i64_in (n.tdiv 4294967296) (by omega),IntWalk.i64_in _ (by omega)]
 unfold rH rH
 split <;> omega
theorem GF {x:Nat} (h:x < 4294967296):IntKind.u32.wrap (x:Int)=(x:Int):=by rw [IntKind.wrap_u32',Int.emod_eq_of_lt (by omega) (by omega)]
theorem pe (n:Int) (w:World) (h0: -9223372036854775808≤n) (h1:n≤9223372036854775807):
  Calls Tryz.prog 59 #[.int .i64 n] w fun e w'=>∃ r,e=.returned r∧aC w' w.heap.size r n∧aj w w':=by
 have e1:=Ly h0 h1
 have e2:=Lz h0 h1
 have g1:=Nat.mod_lt n.natAbs (show 0 < 4294967296 by omega)
 have g2:n.natAbs / 4294967296 < 4294967296:=by omega
 refine aw (C:=cj Tryz.prog w _) (args:=[_]) Tryz.func59 rfl Tryz.ntmps59 (Nat.le_of_ble_eq_true rfl) ?_
 (repeat first|refine wN ?_|refine wP rfl ?_|refine aa rfl ?_|refine ab rfl ?_|refine wO rfl rfl ?_)
 refine VO.lit (aL _ _) [.int .u32 (IntKind.u32.wrap (rH (n.tmod 4294967296) [IntKind.i64.wrap (0 - n.tmod 4294967296)])),.int .u32 (IntKind.u32.wrap (rH (IntKind.i64.wrap (n.tdiv 4294967296)) [IntKind.i64.wrap (0 - IntKind.i64.wrap (n.tdiv 4294967296))]))] rfl rfl rfl rfl rfl rfl rfl rfl rfl (by omega) (fun w2 b k2 b2 ho=>wV rfl ?_)
 rw [e1,e2,GF g1,GF g2] at ho
 refine VO.call rfl rfl (fk Tryz.func92) (fun gv gY gV=>(ji (decide (n < 0)) _ 2 [n.natAbs % 4294967296,n.natAbs / 4294967296] gv (Rd.own (Own.kp (cs:=ints .u32 [n.natAbs % 4294967296,n.natAbs / 4294967296]) ho gY)) (dP.cons g1 (dP.cons g2 (dP.nil _))) (by omega)).mono ?_)
 rintro e w3 ⟨r3,rfl,h3,cD⟩
 obtain ⟨s3,p3,n3,c3,rfl⟩:=h3.form
 refine ⟨_,rfl,cD,fun kt _ bb3=>wV rfl ?_⟩
 (repeat first|refine wN ?_|refine wP rfl ?_|refine aa rfl ?_|refine ab rfl ?_|refine wO rfl rfl ?_)
 refine VS.ret (aL _ _) rfl rfl (fun wz kz bz=> ?_)
 refine ⟨_,rfl,aC.cast ((h3.kp kz).mono gV.size) ?_,bz⟩
 rw [fj,fj,dY]
 by_cases hn:n < 0
 ·simp only [hn,decide_true,if_true];omega
 ·simp only [hn,decide_false];simp;omega
end Go.Proofs.YtabalinjfgcfeaaGreat
namespace Go.Proofs.YtabalinjfgcfeaaGreat
open Go.RowKit
def lv (ls:List Nat) (k j:Nat):Nat:=(if 2 * j < k then ls.getD (2 * j) 0 else 0) + 65536 * (if 2 * j + 1 < k then ls.getD (2 * j + 1) 0 else 0)
def xW (ls:List Nat) (m k:Nat):List Nat:=(List.range m).map (lv ls k)
theorem LA (ls:List Nat) (m:Nat):xW ls m 0=List.replicate m 0:=by
 apply List.ext_getElem
 ·simp [xW]
 ·intro i h1 h2;simp [xW,lv]
theorem LB {ls:List Nat} {m j x:Nat} (hx:ls[2 * j]? =some x):(xW ls m (2 * j)).set j x=xW ls m (2 * j + 1):=by
 apply List.ext_getElem
 ·simp [xW]
 ·intro i h1 h2
  simp only [xW,List.getElem_set,List.getElem_map,List.getElem_range]
  by_cases e:j=i
  ·subst e
   rw [if_pos rfl]
   unfold lv
   rw [if_pos (by omega),if_neg (by omega),List.getD_eq_getElem?_getD,hx];rfl
  ·rw [if_neg e]
   unfold lv
   congr 1
   ·by_cases h:2 * i < 2 * j
    ·rw [if_pos h,if_pos (by omega)]
    ·rw [if_neg h,if_neg (by omega)]
   ·by_cases h:2 * i + 1 < 2 * j
    ·rw [if_pos h,if_pos (by omega)]
    ·rw [if_neg h,if_neg (by omega)]
theorem lds_odd {ls:List Nat} {m j x y:Nat} (hy:(xW ls m (2 * j + 1))[j]? =some y) (hx:ls[2 * j + 1]? =some x):(xW ls m (2 * j + 1)).set j (y + 65536 * x)=xW ls m (2 * j + 2):=by
 have hy':y=ls.getD (2 * j) 0:=by
  obtain ⟨h,rfl⟩:=List.getElem?_eq_some_iff.1 hy
  simp only [xW,List.getElem_map,List.getElem_range]
  unfold lv
  rw [if_pos (by omega),if_neg (by omega)];rfl
 apply List.ext_getElem
 ·simp [xW]
 ·intro i h1 h2
  simp only [xW,List.getElem_set,List.getElem_map,List.getElem_range]
  by_cases e:j=i
  ·subst e
   rw [if_pos rfl]
   unfold lv
   rw [if_pos (by omega),if_pos (by omega),hy']
   congr 2
   rw [List.getD_eq_getElem?_getD,hx];rfl
  ·rw [if_neg e]
   unfold lv
   congr 1
   ·by_cases h:2 * i < 2 * j + 1
    ·rw [if_pos h,if_pos (by omega)]
    ·rw [if_neg h,if_neg (by omega)]
   ·by_cases h:2 * i + 1 < 2 * j + 1
    ·rw [if_pos h,if_pos (by omega)]
    ·rw [if_neg h,if_neg (by omega)]
theorem lds_end {ls:List Nat} (h:fX ls) {m:Nat} (hm:ls.length≤2 * m):aq (xW ls m ls.length)=hval ls∧bV (xW ls m ls.length):=by
 have hb:∀ k,ls.getD k 0 < 65536:=fun k=>jP h k
 have xT:∀ j,lv ls ls.length j=ls.getD (2 * j) 0 + 65536 * ls.getD (2 * j + 1) 0:=fun j=>by
  unfold lv
  congr 1
  ·split
   ·rfl
   ·rw [gP (by omega)]
  ·split
   ·rfl
   ·rw [gP (by omega)]
 constructor
 ·have key:∀ j,j≤m→aq ((xW ls m ls.length).take j)=hval (ls.take (2 * j)):=by
   intro j
   induction j with
   | zero=>intro _;rfl
   | succ j ih=>
     intro hj
     rw [ba,ih (by omega)]
     have e:(xW ls m ls.length).getD j 0=ls.getD (2 * j) 0 + 65536 * ls.getD (2 * j + 1) 0:=by
      rw [List.getD_eq_getElem?_getD]
      simp [xW,show j < m by omega,xT]
     rw [e]
     show _=val 65536 (ls.take (2 * j + 1 + 1))
     rw [bM,bM,Nat.mul_add,←Nat.mul_assoc,Nat.pow_succ 65536 (2 * j),Nat.pow_mul]
     show val 65536 _ + _=_
     rw [Nat.add_assoc]
  have:=key m (Nat.le_refl _)
  rw [List.take_of_length_le (by simp [xW]),List.take_of_length_le hm] at this
  exact this
 ·intro x hx
  obtain ⟨j,_,rfl⟩:=List.mem_map.1 hx
  rw [xT]
  have:=hb (2 * j)
  have:=hb (2 * j + 1)
  omega
def ID (w:World) (B g m:Nat) (ls:List Nat) (iv:Value) (wr:World):Prop:=
 ∃ k,k≤ls.length∧iv=.int .i64 (k:Int)∧wr.ownsRow B 117 1 (.slice (some ⟨g,0,none⟩) m m) m (ints .u32 (xW ls m k))∧Below B w wr
set_option maxRecDepth 100000 in
set_option maxHeartbeats 2000000 in
theorem CM (va:Value) (n:Nat) (ls:List Nat) (w:World) (hr:Rd w 1 va n (ints .i64 ls)) (hl:fX ls) (hn:n≤2147483656):
  Calls Tryz.prog 99 #[va] w fun e w'=>∃ v' xs,e=.returned v'∧xs.length=(n + 1) / 2∧w'.ownsRow w.heap.size 117 1 v' ((n + 1) / 2) (ints .u32 xs)∧aq xs=hval ls∧bV xs∧Below w.heap.size w w':=by
 obtain ⟨p,c,rfl,eT,eV,ew⟩:=hr.i64
 obtain ⟨i0,hi,kG,lj,lO⟩:=info_parts iW
 obtain ⟨B,hB⟩:∃ B,B=w.heap.size:=⟨_,rfl⟩
 have HB:=Lib.hid hB
 have Hr:=Lib.hid hr
 have HL:=Lib.hid hl
 have HX:=Lib.hid ew
 obtain ⟨m,hm⟩:∃ m,m=(n + 1) / 2:=⟨_,rfl⟩
 have HM:=Lib.hid hm
 have hmn:n≤2 * m:=by omega
 have hmb:m≤1073741828:=by omega
 have hq:((n:Int) + 1) / 2=(m:Int):=by omega
 rw [←hB,←hm]
 clear hr hl ew hB hm
 refine aO fun R' bA=> ?_
 go_enter Tryz.func99,Tryz.ntmps99
 go_wp2_with (at_make;refine wpList_make_full _ rfl _ _ 22 rfl B 117 i0 (.int .u32 0) 1 Tryz.underlying22 hi kG lj .i64 .i64 _ _ m rfl rfl hq hq (by rw [lO];omega) (by unfold maxLen;omega) (Nat.le_of_eq HB.out) ?_;intro w1 aI Hn)
 have Eh:=Lib.hid (Own.made aI)
 have Hb1:Hid (Below B w w1):=(Below.refl _ _).grown Hn (Nat.le_of_eq HB.out) (fun k hk=>by cases hk)
 clear aI Hn hq
 go_wp2_with fail
 go_loopw [4] (fun iv wr=>ID w B w.heap.size m ls iv wr) (fun iv _=>n - (intOf iv).toNat)
 case atStart=>exact ⟨0,Nat.zero_le _,rfl,by rw [LA];have:=Eh.out;rw [List.nil_append] at this;exact this,Hb1.out⟩
 case round=>
  obtain ⟨k,hk,rfl,aI,hb⟩:=hrel
  have mV:=Lib.hid aI
  have nQ:=Lib.hid hb
  have rh:k≤n:=by rw [←HX.out];exact hk
  clear aI hb hk
  by_cases hlt:k < n
  ·obtain ⟨b1,o1,x,rfl,aV,gh,hcw⟩:=Hr.out.cellAt hlt
   have qg:=(nQ.out.cell (p:=⟨b1,o1 + k,none⟩) (by rw [HB.out];exact aV)).trans hcw
   have km:=HL.out.at gh
   have vg:=Lib.hid gh
   obtain ⟨j,hj⟩:∃ j,j=k / 2:=⟨_,rfl⟩
   have hk2:(k:Int) / 2=(j:Int):=by omega
   have hjm:j < m:=by omega
   obtain ⟨z,hz,hcell,yc⟩:=Own.gp mV.out (j:=j) hjm
   have HZ:=Lib.hid hz
   have hw4:(x:Int) % 4294967296=(x:Int):=by omega
   have hj0:(0:Int)≤(j:Int):=by omega
   have hj1:(j:Int) < (m:Int):=by omega
   have yd:(0:Int)≤(k:Int):=by omega
   have Cm:(k:Int) < (n:Int):=by omega
   by_cases he:k % 2=0
   ·have hke:((k:Int) % 2 == 0)=true:=by rw [beq_iff_eq];omega
    have HK:Hid (k=2 * j):=by show _=_;omega
    clear gh hcw he hj hz
    go_wp2_with fail
    go_roundw
    case rel=>
     refine ⟨k + 1,by rw [HX.out];omega,by go_num,?_,nQ.out.setCell (Own.lt mV.out).1 _⟩
     have h1:=Own.fV (j:=j) (x:=x) mV.out
     rw [HK.out,LB (by rw [←HK.out];exact vg.out)] at h1
     rw [HK.out]
     simpa using h1
    case measure=>simp [intOf];omega
   ·have hke:((k:Int) % 2 == 0)=false:=by rw [beq_eq_false_iff_ne];omega
    have HK:Hid (k=2 * j + 1):=by show _=_;omega
    have hz4:z < 65536:=by
     have:=HZ.out
     rw [HK.out] at this
     obtain ⟨h,rfl⟩:=List.getElem?_eq_some_iff.1 this
     simp only [xW,List.getElem_map,List.getElem_range]
     unfold lv
     rw [if_pos (by omega),if_neg (by omega)]
     exact jP HL.out _
    have hw5:IntKind.u32.wrap (z + IntKind.u32.wrap (65536 * (x:Int)))=((z + 65536 * x:Nat):Int):=by
     rw [IntKind.wrap_u32',IntKind.wrap_u32'];omega
    clear gh hcw he hj hz
    go_wp2
    go_region
    all_goals
     go_wp2_with fail
     go_roundw
     case rel=>
      refine ⟨k + 1,by rw [HX.out];omega,by go_num,?_,(nQ.out.setCell (Own.lt mV.out).1 _).drew⟩
      have h1:=Own.fV (j:=j) (x:=z + 65536 * x) mV.out
      rw [HK.out,lds_odd (by have:=HZ.out;rw [HK.out] at this;exact this) (by rw [←HK.out];exact vg.out)] at h1
      rw [HK.out]
      have h2:(((z + 65536 * x:Nat):Int))=(z:Int) + 65536 * (x:Int):=by omega
      rw [h2] at h1
      exact h1
     case measure=>simp [intOf];omega
  ·obtain rfl:k=n:=by omega
   obtain ⟨e1,e2⟩:=lds_end HL.out (m:=m) (by rw [HX.out];exact hmn)
   rw [HX.out] at e1 e2
   have E1:=Lib.hid e1
   have E2:=Lib.hid e2
   clear e1 e2
   go_wp2_with fail
   exact bA.out _ _ ⟨_,_,rfl,by simp [xW],mV.out,E1.out,E2.out,nQ.out⟩
end Go.Proofs.YtabalinjfgcfeaaGreat
namespace Go.Proofs.YtabalinjfgcfeaaGreat
open Go.RowKit
theorem val_set {B:Nat} {xs:List Nat} {j o v:Nat} (h:xs[j]? =some o):val B (xs.set j v) + B ^ j * o=val B xs + B ^ j * v:=by
 obtain ⟨hl,he⟩:=List.getElem?_eq_some_iff.1 h
 have h1:xs=xs.take j++o::xs.drop (j + 1):=by rw [←he,←List.drop_eq_getElem_cons hl,List.take_append_drop]
 have h2:xs.set j v=xs.take j++v::xs.drop (j + 1):=by
  conv=>lhs;rw [h1]
  rw [List.set_append_right _ _ (by rw [List.length_take];omega)]
  rw [List.length_take,Nat.min_eq_left (by omega),Nat.sub_self];rfl
 have e1:val B xs=val B (xs.take j) + B ^ j * (o + B * val B (xs.drop (j + 1))):=by
  conv=>lhs;rw [h1]
  rw [iH,List.length_take,Nat.min_eq_left (by omega),gn]
 have e2:val B (xs.set j v)=val B (xs.take j) + B ^ j * (v + B * val B (xs.drop (j + 1))):=by
  rw [h2,iH,List.length_take,Nat.min_eq_left (by omega),gn]
 rw [e1,e2,Nat.mul_add,Nat.mul_add]
 omega
theorem fX.set {xs:List Nat} (h:fX xs) {v:Nat} (hv:v < 65536) (j:Nat):fX (xs.set j v):=fun y hy=>by
 rcases List.mem_or_eq_of_mem_set hy with h1 | h1
 ·exact h y h1
 ·rw [h1];exact hv
theorem rU {os:List Nat} {i k x y o c s S Y:Nat} (ho:os[i + k]? =some o) (hs:s=x * y + o + c) (h:hval os + 65536 ^ (i + k) * c=S + 65536 ^ i * (x * Y)):
  hval (os.set (i + k) (s % 65536)) + 65536 ^ (i + (k + 1)) * (s / 65536)=S + 65536 ^ i * (x * (Y + 65536 ^ k * y)):=by
 have h1:hval (os.set (i + k) (s % 65536)) + 65536 ^ (i + k) * o=hval os + 65536 ^ (i + k) * (s % 65536):=val_set ho
 have h2:65536 ^ (i + (k + 1))=65536 ^ (i + k) * 65536:=by rw [←Nat.add_assoc,Nat.pow_succ]
 have h3:65536 ^ (i + k) * s=65536 ^ (i + k) * (s % 65536) + 65536 ^ (i + k) * 65536 * (s / 65536):=by
  rw [Nat.mul_assoc,←Nat.mul_add,Nat.mod_add_div]
 have h4:65536 ^ (i + k) * s=65536 ^ (i + k) * (x * y) + 65536 ^ (i + k) * o + 65536 ^ (i + k) * c:=by rw [hs,Nat.mul_add,Nat.mul_add]
 have h5:65536 ^ i * (x * (Y + 65536 ^ k * y))=65536 ^ i * (x * Y) + 65536 ^ (i + k) * (x * y):=by
  rw [Nat.mul_add,Nat.mul_add,Nat.pow_add]
  congr 1
  rw [Nat.mul_left_comm x,Nat.mul_assoc]
 rw [h2,h5]
 omega
def iv (xs:List Nat):List AV:=(ints .i64 xs).map .val
theorem bN (xs:List Nat):(iv xs).length=xs.length:=by simp [iv]
theorem LC {xs:List Nat} {j x:Nat} (h:xs[j]? =some x):(iv xs)[j]? =some (.val (.int .i64 (x:Int))):=by
 unfold iv
 rw [List.getElem?_map,qZ h];rfl
theorem pg (xs ys:List Nat):iv (xs++ys)=iv xs++iv ys:=by simp [iv,gM]
theorem lX (xs:List Nat):(iv xs).all aH=true:=bb (List.all_eq_true.2 fun u hu=>by obtain ⟨_,_,rfl⟩:=List.mem_map.1 hu;rfl)
theorem GG (xs:List Nat):(ints .i64 xs).all aU=true:=List.all_eq_true.2 fun u hu=>by obtain ⟨_,_,rfl⟩:=List.mem_map.1 hu;rfl
theorem bq (xs:List Nat):ax (iv xs)=[]:=ao _
theorem xg:∀ n:Nat,jr n [.val (.int .i64 0)]=iv (List.replicate n 0)
 | 0=>rfl
 | n + 1=>by rw [jr,xg n,List.replicate_succ];rfl
theorem iv_peek {xs:List Nat} {spare:List AV} {j x o:Nat} (h:xs[j]? =some x) (ho:o=j):∀ i u,[AV.val (.int .i64 (x:Int))][i]? =some u→(iv xs++spare)[o + i]? =some u:=by
 subst ho
 intro i u hu
 cases i with
 | zero=>
   cases hu
   have hl:=(List.getElem?_eq_some_iff.1 (LC h)).1
   rw [Nat.add_zero,List.getElem?_append_left hl,LC h]
 | succ i=>cases hu
theorem rV {xs:List Nat} {j x o:Nat} (h:xs[j]? =some x) (ho:o=j):∀ i u,[AV.val (.int .i64 (x:Int))][i]? =some u→(iv xs)[o + i]? =some u:=by
 have:=iv_peek (spare:=[]) h ho
 simpa using this
theorem vF {xs:List Nat} {j x o:Nat} (h:j < xs.length) (ho:o=j):(iv xs).take o++([AV.val (.int .i64 (x:Int))]++(iv xs).drop (o + 1))=iv (xs.set j x):=by
 subst ho
 have:iv (xs.set o x)=(iv xs).set o (.val (.int .i64 (x:Int))):=by simp [iv,←ints_set,List.map_set]
 rw [this,List.set_eq_take_append_cons_drop,if_pos (by rw [bN];exact h)]
 rfl
theorem kO {C:Cx} {β:Nat→Nat} {w:World} {i n c:Nat} {t:TypeId} {xs:List Nat} {spare:List AV} (h:lQ C β w i t (iv xs++spare)) (hn:xs.length=n) (eT:n≤c) (eV:c≤maxLen):Rd w 1 (.slice (some ⟨β i,0,none⟩) n c) n (ints .i64 xs):=by
 refine ⟨_,c,rfl,eT,eV,by simp [hn],fun _=>⟨_,_,rfl,fun j u hj=> ?_⟩⟩
 have hl:=(List.getElem?_eq_some_iff.1 hj).1
 refine h.cls.cell ?_
 rw [Nat.zero_add]
 simp only [List.map_append,List.getElem?_toArray]
 rw [List.getElem?_append_left (by simpa [iv] using hl)]
 unfold iv
 rw [ah]
 exact hj
def eD (w:World) (B:Nat) (v:Value) (n:Nat) (xs:List Nat):Prop:=
 xs.length=n∧((v=.slice none 0 0∧n=0)∨∃ b c spare,v=.slice (some ⟨b,0,none⟩) n c∧B≤b∧aW w b 3 (ints .i64 xs++spare).toArray∧n≤c∧c≤maxLen∧n + spare.length=c∧spare.all aU=true)
theorem eD.own {w:World} {B:Nat} {v:Value} {n:Nat} {xs:List Nat} (h:eD w B v n xs):w.ownsRow B 3 1 v n (ints .i64 xs):=by
 obtain ⟨hn,⟨rfl,rfl⟩ | ⟨b,c,spare,rfl,hB,hc,h1,h2,h3,_⟩⟩:=h
 ·rw [List.eq_nil_of_length_eq_zero hn];exact World.ownsRow_nil _ _ _ _
 ·refine ⟨by simp [hn],.inr ⟨b,c,_,rfl,hB,hc,h1,h2,by simp [hn,h3],?_⟩⟩
  rw [List.take_append_of_le_length (by simp [hn]),List.take_of_length_le (by simp [hn])]
theorem eD.new {C:Cx} {w:World} {B:Nat} {v:Value} {n:Nat} {xs:List Nat} (h:eD w B v n xs):La C 3 1 B w v n (ints .i64 xs):=by
 obtain ⟨hn,⟨rfl,rfl⟩ | ⟨b,c,spare,rfl,hB,hc,h1,h2,h3,h4⟩⟩:=h
 ·exact .inl ⟨rfl,rfl,by rw [List.eq_nil_of_length_eq_zero hn];rfl⟩
 ·exact .inr ⟨b,c,spare,rfl,hB,hc,GG xs,h4,h1,by simpa [maxLen] using h2,by simp;omega⟩
theorem eD.nil (w:World) (B:Nat):eD w B (.slice none 0 0) 0 []:=⟨rfl,.inl ⟨rfl,rfl⟩⟩
theorem oB {C:Cx} {β:Nat→Nat} {w:World} {i n m c:Nat} {xs:List Nat} {spare:List AV} (h:lQ C β w i 3 (iv xs++spare)) (hn:xs.length=n) (hm:m≤n) (eT:n≤c) (eV:c≤maxLen) (hl:xs.length + spare.length=c) (hnw:∀ i g,C.yI i g→C.w0.heap.size≤g:=by exact fun _ _ h=>h):
  eD w C.w0.heap.size (.slice (some ⟨β i,0,none⟩) m c) m (xs.take m):=by
 refine ⟨by rw [List.length_take];omega,.inr ⟨β i,c,ints .i64 (xs.drop m)++spare.map (AV.leaf β),rfl,hnw _ _ h.new,?_,by omega,eV,by simp;omega,?_⟩⟩
 ·have:=h.cls
  rw [List.map_append] at this
  unfold iv at this
  rw [ah] at this
  rw [←List.append_assoc,←gM,List.take_append_drop]
  exact this
 ·have hk:=h.ok
  rw [List.all_append,Bool.and_eq_true] at hk
  rw [List.all_append,GG,cJ hk.2];rfl
theorem cK {C:Cx} {β:Nat→Nat} {w:World} {i:Nat} {t:TypeId} {cs news rest:List AV} (h:lQ C β w i t cs) (e:cs=news++rest):∀ j u,(news.map (AV.leaf β))[j]? =some u→w.cell? ⟨β i,0 + j,none⟩=some u:=by
 intro j u hj
 have hl:=(List.getElem?_eq_some_iff.1 hj).1
 refine h.cls.cell ?_
 rw [e,Nat.zero_add,List.map_append]
 simp only [List.getElem?_toArray]
 rw [List.getElem?_append_left hl]
 exact hj
theorem dR {cs:List AV} (h:ax cs=[]) (i:Nat) (ρ:AV→Value):cs.map (AV.qV i ρ)=cs:=by
 induction cs with
 | nil=>rfl
 | cons x r ih=>
   rw [ax,List.append_eq_nil_iff] at h
   rw [List.map_cons,ih h.2]
   have:x.qV i ρ=x:=by unfold AV.qV;rw [h.1];rfl
   rw [this]
theorem LD (i:Nat) (ρ:AV→Value) (xs:List Nat):(iv xs).map (AV.qV i ρ)=iv xs:=dR (bq xs) i ρ
theorem vG {xs:List Nat} {m n:Nat} (h:halves (hval xs)=xs.take m) (hm:m≤n) (hn:xs.length=n):m=(halves (hval xs)).length:=by rw [h,List.length_take];omega
end Go.Proofs.YtabalinjfgcfeaaGreat
set_option maxRecDepth 4000
namespace Go.Proofs.YtabalinjfgcfeaaGreat
open Go.RowKit
attribute [local irreducible] aB VS
theorem kP {w:World} {b off k:Nat} {u:Value} {z:Int} (hz:z=(k:Int)) (h:w.cell? ⟨b,off + k,none⟩=some u):∀ j v,[u][j]? =some v→w.cell? ((⟨b,off + z.toNat * 1,none⟩:Addr).add j)=some v:=by
 subst hz
 intro j v hj
 rw [Addr.add_mid,Int.toNat_natCast,Nat.mul_one]
 cases j with
 | zero=>cases hj;exact h
 | succ j=>cases hj
theorem IE {i k:Nat} {os xs ys:List Nat} {x:Nat} (hx:xs[i]? =some x) (hk:ys.length≤k) (h:hval os + 65536 ^ (i + k) * 0=hval (xs.take i) * hval ys + 65536 ^ i * (x * hval (ys.take k))):hval os=hval (xs.take (i + 1)) * hval ys:=by
 have e:hval (xs.take (i + 1))=hval (xs.take i) + 65536 ^ i * x:=by
  rw [bt hx,jO,List.length_take,Nat.min_eq_left (by have:=(List.getElem?_eq_some_iff.1 hx).1;omega)]
 rw [Nat.mul_zero,Nat.add_zero,List.take_of_length_le hk] at h
 rw [e,Nat.add_mul,h,Nat.mul_assoc]
theorem Fb {i k n m c:Nat} {os xs ys:List Nat} {x:Nat} (hxh:fX xs) (hyh:fX ys) (hx:xs[i]? =some x) (hn:xs.length=n) (hm:ys.length=m) (hk:m≤k) (hc:0 < c) (h:hval os + 65536 ^ (i + k) * c=hval (xs.take i) * hval ys + 65536 ^ i * (x * hval (ys.take k))):i + k < n + m + 1:=by
 have hi:=(List.getElem?_eq_some_iff.1 hx).1
 have e:hval (xs.take (i + 1))=hval (xs.take i) + 65536 ^ i * x:=by
  rw [bt hx,jO,List.length_take,Nat.min_eq_left (by omega)]
 have e3:ys.take k=ys:=List.take_of_length_le (by omega)
 have e2:hval os + 65536 ^ (i + k) * c=hval (xs.take (i + 1)) * hval ys:=by
  rw [e,Nat.add_mul,h,e3,Nat.mul_assoc]
 have b1:hval (xs.take (i + 1)) < 65536 ^ (i + 1):=by
  have:=rS (xs:=xs.take (i + 1)) (dP.take hxh _)
  rwa [List.length_take,Nat.min_eq_left (by omega)] at this
 have b2:hval ys < 65536 ^ m:=by have:=rS hyh;rwa [hm] at this
 have b3:hval (xs.take (i + 1)) * hval ys < 65536 ^ (i + 1 + m):=by
  rw [Nat.pow_add];exact Nat.mul_lt_mul'' b1 b2
 have b4:65536 ^ (i + k)≤65536 ^ (i + k) * c:=Nat.le_mul_of_pos_right _ hc
 have:65536 ^ (i + k) < 65536 ^ (i + 1 + m):=by omega
 have:=(Nat.pow_lt_pow_iff_right (show 1 < 65536 by omega)).1 this
 omega
theorem Fc {x y o c:Nat} (hx:x < 65536) (hy:y < 65536) (ho:o < 65536) (hc:c < 65536):x * y + o + c < 4294967296:=by
 have h1:x * y≤65535 * 65535:=Nat.mul_le_mul (by omega) (by omega)
 omega
set_option maxHeartbeats 1000000 in
theorem CN (va vb:Value) (n m:Nat) (xs ys:List Nat) (w:World) (hr:Rd w 1 va n (ints .i64 xs)) (hs:Rd w 1 vb m (ints .i64 ys)) (hx:fX xs) (hy:fX ys) (hn:n≤2147483656) (hm:m≤2147483656):
  Calls Tryz.prog 100 #[va,vb] w fun e w'=>∃ v',e=.returned v'∧eD w' w.heap.size v' (halves (hval xs * hval ys)).length (halves (hval xs * hval ys))∧aj w w':=by
 obtain ⟨p,c,rfl,eT,eV,ew⟩:=hr.i64
 obtain ⟨q,d,rfl,JC,Ee,jJ⟩:=hs.i64
 obtain ⟨N,hN⟩:∃ N,N=n + m + 1:=⟨_,rfl⟩
 have hwN:IntKind.i64.wrap (IntKind.i64.wrap ((n:Int) + (m:Int)) + 1)=(N:Int):=by
  rw [IntWalk.i64_in ((n:Int) + (m:Int)) (by omega),IntWalk.i64_in _ (by omega)];omega
 refine aw (C:=cj Tryz.prog w _) (args:=[_,_]) Tryz.func100 rfl Tryz.ntmps100 (Nat.le_of_ble_eq_true rfl) ?_
 (repeat first|refine wN ?_|refine wP rfl ?_|refine aa rfl ?_|refine ab rfl ?_|refine wO rfl rfl ?_)
 refine VO.fix 15 rfl (congrArg (fun z=>AV.val (.int .i64 z)) hwN) ?_
 refine VO.cond rfl ⟨rfl,by omega,by show (N:Int) * (24 * 1)≤_;omega⟩ (VO.ft 16 rfl (xg _) (wV rfl ?_))
 rw [Int.toNat_natCast]
 (repeat first|refine wN ?_|refine wP rfl ?_|refine aa rfl ?_|refine ab rfl ?_|refine wO rfl rfl ?_)
 refine VS.loop (J:=fun ms L M w'=>∃ (i:Nat) (os:List Nat),i≤n∧ms=n - i∧L=[(0,.val (.slice p n c)),(1,.val (.slice q m d)),(5,.row 16 0 N N),(6,.val (.int .i64 (i:Int)))]∧M=[(16,(3,iv os))]∧
  os.length=N∧fX os∧hval os=hval (xs.take i) * hval ys) n ⟨_,_,?_,?_,?_,?_,⟨0,List.replicate N 0,by omega,by omega,rfl,rfl,by simp,dP.replicate (by omega) _,by rw [List.take_zero];show val 65536 _=val 65536 [] * _;rw [gF,val_nil,Nat.zero_mul]⟩⟩ ?_
 ·(repeat first|exact trivial|refine ⟨rfl,?_⟩)
 ·(repeat first|exact trivial|refine ⟨rfl,?_⟩)
 ·rfl
 ·exact ⟨.none (bq _),trivial⟩
 rintro ms L M w' ⟨i,os,hi,rfl,rfl,rfl,hol,hoh,hov⟩
 (repeat first|refine wN ?_|refine wP rfl ?_|refine aa rfl ?_|refine ab rfl ?_|refine wO rfl rfl ?_)
 by_cases tU:i < n
 ·refine VS.bE rfl (decide_eq_true (Int.ofNat_lt.2 tU)) ?_
  (repeat first|refine wN ?_|refine wP rfl ?_|refine aa rfl ?_|refine ab rfl ?_|refine wO rfl rfl ?_)
  obtain ⟨b1,o1,x,rfl,aV,gh,qg⟩:=hr.cellAt tU
  have km:=hx.at gh
  refine VS.loop (J:=fun ms L M w'=>∃ (k c':Nat) (os':List Nat),ms=N - (i + k)∧L=[(0,.val (.slice (some ⟨b1,o1,none⟩) n c)),(1,.val (.slice q m d)),(5,.row 16 0 N N),(6,.val (.int .i64 (i:Int))),(7,.val (.int .i64 (c':Int))),(8,.val (.int .i64 (k:Int)))]∧M=[(16,(3,iv os'))]∧
   os'.length=N∧fX os'∧c' < 65536∧k≤N∧hval os' + 65536 ^ (i + k) * c'=hval (xs.take i) * hval ys + 65536 ^ i * (x * hval (ys.take k))) (N - i) ⟨_,_,?_,?_,?_,?_,⟨0,0,os,by omega,rfl,rfl,hol,hoh,by omega,by omega,by rw [List.take_zero,Nat.mul_zero,hov];show _=_ + 65536 ^ i * (x * 0);simp⟩⟩ ?_
  ·(repeat first|exact trivial|refine ⟨rfl,?_⟩)
  ·(repeat first|exact trivial|refine ⟨rfl,?_⟩)
  ·rfl
  ·exact ⟨.none (bq _),trivial⟩
  rintro ms L M w'' ⟨k,c',os',rfl,rfl,rfl,hol',hoh',hc',hkN,hv⟩
  (repeat first|refine wN ?_|refine wP rfl ?_|refine aa rfl ?_|refine ab rfl ?_|refine wO rfl rfl ?_)
  have step:∀ (hik:i + k < N),True:=fun _=>trivial
  by_cases hgo:k < m∨0 < c'
  ·have hik:i + k < N:=by
    rcases Nat.lt_or_ge k m with e | e
    ·omega
    ·rw [hN];exact Fb hx hy gh ew jJ e (by omega) hv
   obtain ⟨o,ho⟩:∃ o,os'[i + k]? =some o:=⟨_,List.getElem?_eq_getElem (by omega)⟩
   have ho4:=hoh'.at ho
   have Hx:IntKind.i64.wrap ((i:Int) + (k:Int))=((i + k:Nat):Int):=by rw [IntWalk.i64_in _ (by omega)];omega
   have hwk1:IntKind.i64.wrap ((k:Int) + 1)=((k + 1:Nat):Int):=by rw [IntWalk.i64_in _ (by omega)];omega
   have hwoc:IntKind.i64.wrap ((o:Int) + (c':Int))=((o + c':Nat):Int):=by rw [IntWalk.i64_in _ (by omega)];omega
   by_cases Ei:k < m
   ·obtain ⟨b2,o2,y,rfl,bm,nP,Eg⟩:=hs.cellAt Ei
    have yw:=hy.at nP
    have oQ:=Fc km yw ho4 hc'
    obtain ⟨s,hsd⟩:∃ s,s=x * y + o + c':=⟨_,rfl⟩
    have FU:(x:Int) * (y:Int)=((x * y:Nat):Int):=by simp
    have hws:IntKind.i64.wrap (IntKind.i64.wrap ((o:Int) + (c':Int)) + IntKind.i64.wrap ((x:Int) * (y:Int)))=(s:Int):=by
     rw [hwoc,FU,IntWalk.i64_in ((x * y:Nat):Int) (by omega),IntWalk.i64_in _ (by omega)];omega
    have hst:=rU ho hsd hv
    have hyt:hval (ys.take (k + 1))=hval (ys.take k) + 65536 ^ k * y:=by
     rw [bt nP,jO,List.length_take,Nat.min_eq_left (by have:=(List.getElem?_eq_some_iff.1 nP).1;omega)]
    rw [←hyt] at hst
    have hwc:IntKind.i64.wrap ((s:Int).tdiv 65536)=((s / 65536:Nat):Int):=by
     rw [Int.tdiv_eq_ediv_of_nonneg (by omega),IntWalk.i64_in _ (by omega)];simp
    have hwm:(s:Int).tmod 65536=((s % 65536:Nat):Int):=by rw [Int.tmod_eq_emod_of_nonneg (by omega)];simp
    refine VO.fix 27 rfl (congrArg (fun b=>AV.val (.bool b)) (decide_eq_true (Int.ofNat_lt.2 Ei))) ?_
    (repeat first|refine wN ?_|refine wP rfl ?_|refine aa rfl ?_|refine ab rfl ?_|refine wO rfl rfl ?_)
    refine VO.fix 36 rfl (congrArg (fun z=>AV.val (.int .i64 z)) Hx) ?_
    refine VO.cond rfl ⟨by omega,by omega⟩ (wV rfl ?_)
    refine VO.dh rfl [.val (.int .i64 (o:Int))] rfl (rV ho (by rw [Int.toNat_natCast];omega)) (wV rfl ?_)
    (repeat first|refine wN ?_|refine wP rfl ?_|refine aa rfl ?_|refine ab rfl ?_|refine wO rfl rfl ?_)
    refine VS.bE rfl (decide_eq_true (Int.ofNat_lt.2 Ei)) ?_
    (repeat first|refine wN ?_|refine wP rfl ?_|refine aa rfl ?_|refine ab rfl ?_|refine wO rfl rfl ?_)
    refine VO.cond rfl ⟨by omega,by omega⟩ (wV rfl ?_)
    refine VO.read rfl [.int .i64 (x:Int)] rfl (kP rfl qg) (wV rfl ?_)
    refine VO.cond rfl ⟨by omega,by omega⟩ (wV rfl ?_)
    refine VO.read rfl [.int .i64 (y:Int)] rfl (kP rfl Eg) (wV rfl ?_)
    (repeat first|refine wN ?_|refine wP rfl ?_|refine aa rfl ?_|refine ab rfl ?_|refine wO rfl rfl ?_)
    refine VO.fix 59 rfl (congrArg (fun z=>AV.val (.int .i64 z)) Hx) ?_
    refine VO.fix 61 rfl (congrArg (fun z=>AV.val (.int .i64 z)) (by rw [hws,hwm])) ?_
    refine VO.cond rfl ⟨by omega,by omega⟩ (wV rfl ?_)
    refine VO.cond rfl (by show 0 + ((i + k:Nat):Int).toNat * 1 + 1≤_;rw [Int.toNat_natCast,bN];omega) (wV rfl ?_)
    (repeat first|refine wN ?_|refine wP rfl ?_|refine aa rfl ?_|refine ab rfl ?_|refine wO rfl rfl ?_)
    refine VS.back (N - (i + (k + 1))) (by omega) ⟨_,_,?_,?_,?_,?_,⟨k + 1,s / 65536,os'.set (i + k) (s % 65536),rfl,rfl,rfl,by simp [hol'],hoh'.set (Nat.mod_lt _ (by omega)) _,by omega,by omega,hst⟩⟩
    ·refine ⟨rfl,rfl,rfl,rfl,congrArg (fun z=>some (AV.val (.int .i64 z))) (by rw [hws,hwc]),congrArg (fun z=>some (AV.val (.int .i64 z))) hwk1,trivial⟩
    ·exact ⟨congrArg (fun l=>some (_,l)) (vF (by omega) (by rw [Int.toNat_natCast];omega)),trivial⟩
    ·rfl
    ·exact ⟨.none (bq _),trivial⟩
   ·have hc0:0 < c':=by omega
    obtain ⟨s,hsd⟩:∃ s,s=x * 0 + o + c':=⟨_,rfl⟩
    have hws:IntKind.i64.wrap ((o:Int) + (c':Int))=(s:Int):=by rw [hwoc];omega
    have hst:=rU ho hsd hv
    have hyt:hval (ys.take k) + 65536 ^ k * 0=hval (ys.take (k + 1)):=by rw [List.take_of_length_le (by omega),List.take_of_length_le (by omega)];rfl
    rw [hyt] at hst
    have hwc:IntKind.i64.wrap ((s:Int).tdiv 65536)=((s / 65536:Nat):Int):=by
     rw [Int.tdiv_eq_ediv_of_nonneg (by omega),IntWalk.i64_in _ (by omega)];simp
    have hwm:(s:Int).tmod 65536=((s % 65536:Nat):Int):=by rw [Int.tmod_eq_emod_of_nonneg (by omega)];simp
    refine VO.fix 27 rfl (congrArg (fun b=>AV.val (.bool b)) (decide_eq_false (fun e=>Ei (Int.ofNat_lt.1 e)))) ?_
    (repeat first|refine wN ?_|refine wP rfl ?_|refine aa rfl ?_|refine ab rfl ?_|refine wO rfl rfl ?_)
    refine VS.bE rfl (decide_eq_true (by omega)) ?_
    (repeat first|refine wN ?_|refine wP rfl ?_|refine aa rfl ?_|refine ab rfl ?_|refine wO rfl rfl ?_)
    refine VO.fix 36 rfl (congrArg (fun z=>AV.val (.int .i64 z)) Hx) ?_
    refine VO.cond rfl ⟨by omega,by omega⟩ (wV rfl ?_)
    refine VO.dh rfl [.val (.int .i64 (o:Int))] rfl (rV ho (by rw [Int.toNat_natCast];omega)) (wV rfl ?_)
    (repeat first|refine wN ?_|refine wP rfl ?_|refine aa rfl ?_|refine ab rfl ?_|refine wO rfl rfl ?_)
    refine VS.bu rfl (decide_eq_false (fun e=>Ei (Int.ofNat_lt.1 e))) ?_
    (repeat first|refine wN ?_|refine wP rfl ?_|refine aa rfl ?_|refine ab rfl ?_|refine wO rfl rfl ?_)
    refine VO.fix 59 rfl (congrArg (fun z=>AV.val (.int .i64 z)) Hx) ?_
    refine VO.fix 61 rfl (congrArg (fun z=>AV.val (.int .i64 z)) (by rw [hws,hwm])) ?_
    refine VO.cond rfl ⟨by omega,by omega⟩ (wV rfl ?_)
    refine VO.cond rfl (by show 0 + ((i + k:Nat):Int).toNat * 1 + 1≤_;rw [Int.toNat_natCast,bN];omega) (wV rfl ?_)
    (repeat first|refine wN ?_|refine wP rfl ?_|refine aa rfl ?_|refine ab rfl ?_|refine wO rfl rfl ?_)
    refine VS.back (N - (i + (k + 1))) (by omega) ⟨_,_,?_,?_,?_,?_,⟨k + 1,s / 65536,os'.set (i + k) (s % 65536),rfl,rfl,rfl,by simp [hol'],hoh'.set (Nat.mod_lt _ (by omega)) _,by omega,by omega,hst⟩⟩
    ·refine ⟨rfl,rfl,rfl,rfl,congrArg (fun z=>some (AV.val (.int .i64 z))) (by rw [hws,hwc]),congrArg (fun z=>some (AV.val (.int .i64 z))) hwk1,trivial⟩
    ·exact ⟨congrArg (fun l=>some (_,l)) (vF (by omega) (by rw [Int.toNat_natCast];omega)),trivial⟩
    ·rfl
    ·exact ⟨.none (bq _),trivial⟩
  ·have Ei:¬ (k < m):=by omega
   have hc0:c'=0:=by omega
   subst hc0
   refine VO.fix 27 rfl (congrArg (fun b=>AV.val (.bool b)) (decide_eq_false (fun e=>Ei (Int.ofNat_lt.1 e)))) ?_
   (repeat first|refine wN ?_|refine wP rfl ?_|refine aa rfl ?_|refine ab rfl ?_|refine wO rfl rfl ?_)
   have yl:IntKind.i64.wrap ((i:Int) + 1)=((i + 1:Nat):Int):=by rw [IntWalk.i64_in _ (by omega)];omega
   refine VS.back (n - (i + 1)) (by omega) ⟨_,_,?_,?_,?_,?_,⟨i + 1,os',by omega,rfl,rfl,rfl,hol',hoh',IE gh (by omega) hv⟩⟩
   ·exact ⟨rfl,rfl,rfl,congrArg (fun z=>some (AV.val (.int .i64 z))) yl,trivial⟩
   ·(repeat first|exact trivial|refine ⟨rfl,?_⟩)
   ·rfl
   ·exact ⟨.none (bq _),trivial⟩
 ·obtain rfl:i=n:=by omega
  refine VS.bu rfl (decide_eq_false (fun e=>tU (Int.ofNat_lt.1 e))) ?_
  (repeat first|refine wN ?_|refine wP rfl ?_|refine aa rfl ?_|refine ab rfl ?_|refine wO rfl rfl ?_)
  rw [List.take_of_length_le (by omega)] at hov
  refine VO.yZ rfl (fk Tryz.func125) (fun w1 β k1 b1 ho=>(gQ (some ⟨β 16,0,none⟩) N N os w1 (kO (spare:=[]) (by rw [List.append_nil];exact ho.own 16 (.base (List.mem_singleton.2 rfl)) _ _ rfl) hol (Nat.le_refl _) (by simp only [maxLen];omega)) hoh).mono ?_)
  rintro e w2 ⟨⟨mm,yD,rfl,hcut⟩,rfl⟩
  refine ⟨.row 16 0 mm N,rfl,fun i hi=>⟨hi,by cases List.mem_singleton.1 hi;exact Option.some_ne_none _⟩,aj.refl _,fun k2 _ b2=>wV rfl ?_⟩
  (repeat first|refine wN ?_|refine wP rfl ?_|refine aa rfl ?_|refine ab rfl ?_|refine wO rfl rfl ?_)
  refine VS.oy (aL _ _) rfl (fun wz β kz bz he=> ?_)
  have pU:=vG hcut yD hol
  rw [hov] at hcut pU
  refine ⟨_,rfl,?_,bz⟩
  have:=oB (spare:=[]) (by rw [List.append_nil];exact he.own 16 _ _ rfl) hol yD (Nat.le_refl _) (by simp only [maxLen];omega) (by simpa using hol)
  rw [←hcut] at this
  show eD wz w.heap.size (.slice (some ⟨β 16,0,none⟩) mm N) _ _
  rw [←pU]
  exact this
end Go.Proofs.YtabalinjfgcfeaaGreat
set_option maxRecDepth 4000
namespace Go.Proofs.YtabalinjfgcfeaaGreat
open Go.RowKit
attribute [local irreducible] aB VS
theorem qb {A B:Nat} (h:(halves A).length < (halves B).length):A < B:=by
 rcases Nat.lt_or_ge A B with e | e
 ·exact e
 ·have:(halves B).length≤(halves A).length:=de (by omega) e
  omega
theorem qd {A B k a b:Nat} (ha:(halves A)[k]? =some a) (hb:(halves B)[k]? =some b) (uY:a < b) (hh:(halves A).drop (k + 1)=(halves B).drop (k + 1)):A < B:=by
 have:=jT (B:=65536) (bH A) ha hb uY hh
 have e1:val 65536 (halves A)=A:=bg A
 have e2:val 65536 (halves B)=B:=bg B
 omega
theorem IG {xs ys:List Nat} {k x:Nat} (hx:xs[k]? =some x) (hy:ys[k]? =some x) (h:xs.drop (k + 1)=ys.drop (k + 1)):xs.drop k=ys.drop k:=by
 obtain ⟨l1,e1⟩:=List.getElem?_eq_some_iff.1 hx
 obtain ⟨l2,e2⟩:=List.getElem?_eq_some_iff.1 hy
 rw [List.drop_eq_getElem_cons l1,List.drop_eq_getElem_cons l2,e1,e2,h]
set_option maxHeartbeats 1000000 in
theorem Ff (va vb:Value) (n m A B:Nat) (w:World) (hr:Rd w 1 va n (ints .i64 (halves A))) (hs:Rd w 1 vb m (ints .i64 (halves B))):
  Calls Tryz.prog 148 #[va,vb] w fun e w'=>e=.returned (.bool (decide (A < B)))∧aj w w':=by
 obtain ⟨p,c,rfl,eT,eV,ew⟩:=hr.i64
 obtain ⟨q,d,rfl,JC,Ee,jJ⟩:=hs.i64
 refine aw (C:=cj Tryz.prog w _) (args:=[_,_]) Tryz.func148 rfl Tryz.ntmps148 (Nat.le_of_ble_eq_true rfl) ?_
 (repeat first|refine wN ?_|refine wP rfl ?_|refine aa rfl ?_|refine ab rfl ?_|refine wO rfl rfl ?_)
 by_cases vC:n=m
 ·subst vC
  refine VS.bu rfl (by simp) ?_
  (repeat first|refine wN ?_|refine wP rfl ?_|refine aa rfl ?_|refine ab rfl ?_|refine wO rfl rfl ?_)
  have hw0:IntKind.i64.wrap ((n:Int) - 1)=(n:Int) - 1:=IntWalk.i64_in _ (by omega)
  refine VS.loop (J:=fun ms L M w'=>∃ (k:Nat),k≤n∧ms=k∧L=[(0,.val (.slice p n c)),(1,.val (.slice q n d)),(5,.val (.int .i64 ((k:Int) - 1)))]∧M=[]∧(halves A).drop k=(halves B).drop k) n ⟨_,_,?_,?_,?_,?_,⟨n,Nat.le_refl _,rfl,rfl,rfl,by rw [List.drop_of_length_le (by omega),List.drop_of_length_le (by omega)]⟩⟩ ?_
  ·exact ⟨rfl,rfl,congrArg (fun z=>some (AV.val (.int .i64 z))) hw0,trivial⟩
  ·(repeat first|exact trivial|refine ⟨rfl,?_⟩)
  ·rfl
  ·exact trivial
  rintro ms L M w' ⟨k,hk,hms,rfl,rfl,hd⟩
  (repeat first|refine wN ?_|refine wP rfl ?_|refine aa rfl ?_|refine ab rfl ?_|refine wO rfl rfl ?_)
  by_cases yd:k=0
  ·subst yd
   refine VS.bu rfl (decide_eq_false (by omega)) ?_
   (repeat first|refine wN ?_|refine wP rfl ?_|refine aa rfl ?_|refine ab rfl ?_|refine wO rfl rfl ?_)
   refine VS.ret (aL _ _) rfl rfl (fun wz kz bz=> ?_)
   have:A=B:=ES (by simpa using hd)
   exact ⟨by rw [this,decide_eq_false (Nat.lt_irrefl _)];rfl,bz⟩
  ·obtain ⟨j,rfl⟩:∃ j,k=j + 1:=⟨k - 1,by omega⟩
   have hj:((j + 1:Nat):Int) - 1=(j:Int):=by omega
   refine VS.bE rfl (decide_eq_true (by omega)) ?_
   refine VS.fix 5 rfl (congrArg (fun z=>AV.val (.int .i64 z)) hj) ?_
   (repeat first|refine wN ?_|refine wP rfl ?_|refine aa rfl ?_|refine ab rfl ?_|refine wO rfl rfl ?_)
   obtain ⟨b1,o1,x,rfl,aV,gh,qg⟩:=hr.cellAt (show j < n by omega)
   obtain ⟨b2,o2,y,rfl,bm,nP,Eg⟩:=hs.cellAt (show j < n by omega)
   refine VO.cond rfl ⟨by omega,by omega⟩ (wV rfl ?_)
   refine VO.read rfl [.int .i64 (x:Int)] rfl (kP rfl qg) (wV rfl ?_)
   refine VO.cond rfl ⟨by omega,by omega⟩ (wV rfl ?_)
   refine VO.read rfl [.int .i64 (y:Int)] rfl (kP rfl Eg) (wV rfl ?_)
   (repeat first|refine wN ?_|refine wP rfl ?_|refine aa rfl ?_|refine ab rfl ?_|refine wO rfl rfl ?_)
   by_cases FU:x=y
   ·subst FU
    refine VS.bu rfl (by simp) ?_
    (repeat first|refine wN ?_|refine wP rfl ?_|refine aa rfl ?_|refine ab rfl ?_|refine wO rfl rfl ?_)
    have vh:IntKind.i64.wrap ((j:Int) - 1)=(j:Int) - 1:=IntWalk.i64_in _ (by omega)
    refine VS.back j (by omega) ⟨_,_,?_,?_,?_,?_,⟨j,by omega,rfl,rfl,rfl,IG gh nP hd⟩⟩
    ·exact ⟨rfl,rfl,congrArg (fun z=>some (AV.val (.int .i64 z))) vh,trivial⟩
    ·(repeat first|exact trivial|refine ⟨rfl,?_⟩)
    ·rfl
    ·exact trivial
   ·refine VS.bE rfl (by rw [bne_iff_ne];omega) ?_
    (repeat first|refine wN ?_|refine wP rfl ?_|refine aa rfl ?_|refine ab rfl ?_|refine wO rfl rfl ?_)
    refine VO.cond rfl ⟨by omega,by omega⟩ (wV rfl ?_)
    refine VO.read rfl [.int .i64 (x:Int)] rfl (kP rfl qg) (wV rfl ?_)
    refine VO.cond rfl ⟨by omega,by omega⟩ (wV rfl ?_)
    refine VO.read rfl [.int .i64 (y:Int)] rfl (kP rfl Eg) (wV rfl ?_)
    (repeat first|refine wN ?_|refine wP rfl ?_|refine aa rfl ?_|refine ab rfl ?_|refine wO rfl rfl ?_)
    refine VS.ret (aL _ _) rfl rfl (fun wz kz bz=> ?_)
    refine ⟨?_,bz⟩
    rcases Nat.lt_or_gt_of_ne FU with e | e
    ·rw [decide_eq_true (qd gh nP e hd)]
     exact congrArg (fun b=>Ending.returned (.bool b)) (decide_eq_true (Int.ofNat_lt.2 e))
    ·have:=qd nP gh e hd.symm
     have hAB:decide (A < B)=false:=decide_eq_false (by omega)
     rw [hAB]
     exact congrArg (fun b=>Ending.returned (.bool b)) (decide_eq_false (by omega))
 ·refine VS.bE rfl (by rw [bne_iff_ne];omega) ?_
  (repeat first|refine wN ?_|refine wP rfl ?_|refine aa rfl ?_|refine ab rfl ?_|refine wO rfl rfl ?_)
  refine VS.ret (aL _ _) rfl rfl (fun wz kz bz=> ?_)
  refine ⟨?_,bz⟩
  rcases Nat.lt_or_gt_of_ne vC with e | e
  ·rw [decide_eq_true (qb (by omega))]
   exact congrArg (fun b=>Ending.returned (.bool b)) (decide_eq_true (Int.ofNat_lt.2 e))
  ·have:=qb (A:=B) (B:=A) (by omega)
   have hAB:decide (A < B)=false:=decide_eq_false (by omega)
   rw [hAB]
   exact congrArg (fun b=>Ending.returned (.bool b)) (decide_eq_false (by omega))
theorem IH {ds us bs:List Nat} {i t br a b d nB:Nat} (hl:ds.length=i) (ha:us.getD i 0=a) (hb:bs.getD i 0=b) (hs:d + (t * b + br)=a + 65536 * nB)
  (h:hval ds + t * hval (bs.take i)=hval (us.take i) + 65536 ^ i * br):hval (ds++[d]) + t * hval (bs.take (i + 1))=hval (us.take (i + 1)) + 65536 ^ (i + 1) * nB:=by
 have e1:hval (us.take (i + 1))=hval (us.take i) + 65536 ^ i * a:=by rw [←ha];exact bM _ _ _
 have e2:hval (bs.take (i + 1))=hval (bs.take i) + 65536 ^ i * b:=by rw [←hb];exact bM _ _ _
 have e3:65536 ^ i * d + (65536 ^ i * (t * b) + 65536 ^ i * br)=65536 ^ i * a + 65536 ^ i * (65536 * nB):=by rw [←Nat.mul_add,←Nat.mul_add,hs,Nat.mul_add]
 have e4:t * (65536 ^ i * b)=65536 ^ i * (t * b):=Nat.mul_left_comm _ _ _
 rw [jO,hl,e1,e2,Nat.mul_add t,e4,Nat.pow_succ,Nat.mul_assoc]
 omega
theorem LF {ds us bs:List Nat} {n t br:Nat} (hh:fX ds) (hl:ds.length=n) (ha:us.length=n) (hle:t * hval bs≤hval us) (hb:t=0∨bs.length≤n)
  (h:hval ds + t * hval (bs.take n)=hval (us.take n) + 65536 ^ n * br):hval ds=hval us - t * hval bs:=by
 have e1:us.take n=us:=List.take_of_length_le (by omega)
 have e2:t * hval (bs.take n)=t * hval bs:=by
  rcases hb with e | e
  ·rw [e,Nat.zero_mul,Nat.zero_mul]
  ·rw [List.take_of_length_le e]
 rw [e1,e2] at h
 have hlt:=rS hh
 rw [hl] at hlt
 have:br=0:=by
  rcases Nat.eq_zero_or_pos br with e | e
  ·exact e
  ·have:=Nat.le_mul_of_pos_right (65536 ^ n) e
   omega
 rw [this,Nat.mul_zero] at h
 omega
def RowAt (d:Nat) (xs:List Nat) (v:AV) (M:List (Nat×(TypeId×List AV))):Prop:=
 (xs=[]∧v=.val (.slice none 0 0)∧M=[])∨∃ cap spare,v=.row d 0 xs.length cap∧M=[(d,(3,iv xs++spare))]∧xs.length≤cap∧cap≤9223372036854775807∧xs.length + spare.length=cap∧spare.all aH=true∧ax spare=[]
set_option maxHeartbeats 1000000 in
theorem xh (va vb:Value) (n m t A B:Nat) (w:World) (hr:Rd w 1 va n (ints .i64 (halves A))) (hs:Rd w 1 vb m (ints .i64 (halves B))) (ht:t < 65536) (hle:t * B≤A) (hn:n≤2147483656):
  Calls Tryz.prog 137 #[va,vb,.int .i64 (t:Int)] w fun e w'=>∃ v',e=.returned v'∧eD w' w.heap.size v' (halves (A - t * B)).length (halves (A - t * B))∧aj w w':=by
 obtain ⟨p,c,rfl,eT,eV,ew⟩:=hr.i64
 obtain ⟨q,d,rfl,JC,Ee,jJ⟩:=hs.i64
 refine aw (C:=cj Tryz.prog w _) (args:=[_,_,_]) Tryz.func137 rfl Tryz.ntmps137 (Nat.le_of_ble_eq_true rfl) ?_
 (repeat first|refine wN ?_|refine wP rfl ?_|refine aa rfl ?_|refine ab rfl ?_|refine wO rfl rfl ?_)
 refine VS.loop (J:=fun ms L M w'=>∃ (i br:Nat) (ds:List Nat) (v:AV),i≤n∧ms=n - i∧L=[(0,.val (.slice p n c)),(1,.val (.slice q m d)),(2,.val (.int .i64 (t:Int))),(7,v),(8,.val (.int .i64 (br:Int))),(9,.val (.int .i64 (i:Int)))]∧
  RowAt 47 ds v M∧ds.length=i∧fX ds∧br≤t∧hval ds + t * hval ((halves B).take i)=hval ((halves A).take i) + 65536 ^ i * br) n ⟨_,_,?_,?_,?_,?_,⟨0,0,[],.val (.slice none 0 0),by omega,by omega,rfl,.inl ⟨rfl,rfl,rfl⟩,rfl,dP.nil _,by omega,by simp [hval,val]⟩⟩ ?_
 ·(repeat first|exact trivial|refine ⟨rfl,?_⟩)
 ·(repeat first|exact trivial|refine ⟨rfl,?_⟩)
 ·rfl
 ·exact trivial
 rintro ms L M w' ⟨i,br,ds,v,hi,rfl,rfl,fb,iV,hdh,hbr,hv⟩
 by_cases tU:i < n
 ·obtain ⟨b1,o1,x,rfl,aV,gh,qg⟩:=hr.cellAt tU
  have km:=(bH A).at gh
  have hxg:(halves A).getD i 0=x:=by rw [List.getD_eq_getElem?_getD,gh];rfl
  obtain ⟨y,hyg⟩:∃ y,(halves B).getD i 0=y:=⟨_,rfl⟩
  have yw:y < 65536:=hyg▸jP (bH B) i
  have hty:t * y≤65535 * 65535:=Nat.mul_le_mul (by omega) (by omega)
  obtain ⟨X,hX⟩:∃ X:Int,X=(x:Int) - br - (t * y:Nat):=⟨_,rfl⟩
  obtain ⟨nB,mH⟩:∃ nB:Nat,(nB:Int)=(if X < 0 then (65535 - X) / 65536 else 0)∧nB≤t:=by
   by_cases h0:X < 0
   ·refine ⟨((65535 - X) / 65536).toNat,by rw [if_pos h0];omega,?_⟩
    have:t * y≤t * 65535:=Nat.mul_le_mul_left _ (by omega)
    omega
   ·exact ⟨0,by rw [if_neg h0];rfl,by omega⟩
  obtain ⟨dg,JK⟩:∃ dg:Nat,(dg:Int)=X + 65536 * nB∧dg < 65536:=by
   refine ⟨(X + 65536 * nB).toNat,?_,?_⟩
   ·by_cases h0:X < 0
    ·rw [if_pos h0] at mH;omega
    ·omega
   ·by_cases h0:X < 0
    ·rw [if_pos h0] at mH;omega
    ·rw [if_neg h0] at mH;omega
  have hsum:dg + (t * y + br)=x + 65536 * nB:=by omega
  have hst:=IH iV hxg hyg hsum hv
  have vh:IntKind.i64.wrap ((x:Int) - (br:Int))=(x:Int) - br:=IntWalk.i64_in _ (by omega)
  have yl:IntKind.i64.wrap ((i:Int) + 1)=((i + 1:Nat):Int):=by rw [IntWalk.i64_in _ (by omega)];omega
  have qo:t * y≤t * 65535:=Nat.mul_le_mul_left _ (by omega)
  rcases fb with ⟨rfl,rfl,rfl⟩ | ⟨cap,spare,rfl,rfl,h1,h2,h3,h4,h5⟩
  all_goals (repeat first|refine wN ?_|refine wP rfl ?_|refine aa rfl ?_|refine ab rfl ?_|refine wO rfl rfl ?_)
  ·by_cases him:i < m
   ·obtain ⟨b2,o2,y',rfl,bm,nP,Eg⟩:=hs.cellAt him
    obtain rfl:y'=y:=by rw [List.getD_eq_getElem?_getD,nP] at hyg;exact hyg
    have hwX:IntKind.i64.wrap (IntKind.i64.wrap ((x:Int) - (br:Int)) - IntKind.i64.wrap ((t:Int) * (y':Int)))=X:=by
     rw [vh,show (t:Int) * (y':Int)=((t * y':Nat):Int) by simp,IntWalk.i64_in ((t * y':Nat):Int) (by omega),IntWalk.i64_in _ (by omega)];omega
    refine VS.bE rfl (decide_eq_true (Int.ofNat_lt.2 tU)) ?_
    (repeat first|refine wN ?_|refine wP rfl ?_|refine aa rfl ?_|refine ab rfl ?_|refine wO rfl rfl ?_)
    refine VO.cond rfl ⟨by omega,by omega⟩ (wV rfl ?_)
    refine VO.read rfl [.int .i64 (x:Int)] rfl (kP rfl qg) (wV rfl ?_)
    (repeat first|refine wN ?_|refine wP rfl ?_|refine aa rfl ?_|refine ab rfl ?_|refine wO rfl rfl ?_)
    refine VS.bE rfl (decide_eq_true (Int.ofNat_lt.2 him)) ?_
    (repeat first|refine wN ?_|refine wP rfl ?_|refine aa rfl ?_|refine ab rfl ?_|refine wO rfl rfl ?_)
    refine VO.cond rfl ⟨by omega,by omega⟩ (wV rfl ?_)
    refine VO.read rfl [.int .i64 (y':Int)] rfl (kP rfl Eg) (wV rfl ?_)
    refine VO.fix 10 rfl (congrArg (fun z=>AV.val (.int .i64 z)) hwX) ?_
    (repeat first|refine wN ?_|refine wP rfl ?_|refine aa rfl ?_|refine ab rfl ?_|refine wO rfl rfl ?_)
    by_cases h0:X < 0
    ·rw [if_pos h0] at mH
     have LG:IntKind.i64.wrap ((IntKind.i64.wrap (65535 - X)).tdiv 65536)=(nB:Int):=by
      rw [IntWalk.i64_in (65535 - X) (by omega),Int.tdiv_eq_ediv_of_nonneg (by omega),IntWalk.i64_in _ (by omega),mH.1]
     have hwd:IntKind.i64.wrap (X + IntKind.i64.wrap (65536 * (nB:Int)))=(dg:Int):=by
      rw [IntWalk.i64_in (65536 * (nB:Int)) (by omega),IntWalk.i64_in _ (by omega),JK.1]
     refine VS.bE rfl (decide_eq_true h0) ?_
     (repeat first|refine wN ?_|refine wP rfl ?_|refine aa rfl ?_|refine ab rfl ?_|refine wO rfl rfl ?_)
     ·refine VO.ft 46 rfl (congrArg (fun z=>[AV.val (.int .i64 z)]) (show _=(dg:Int) by rw [LG,hwd])) ?_
      refine VO.app (aL _ _) (t:=156) (e:=3) (sz:=1) (n:=0) (c:=0) (mm:=1) (known:=[]) (spare:=[]) (news:=iv [dg]) (dst:=47) (del:=none) rfl rfl rfl rfl rfl rfl rfl rfl (Nat.le_of_ble_eq_true rfl) rfl (.inl ⟨rfl,rfl,rfl,rfl,rfl,rfl,by omega⟩) (.inl rfl) rfl rfl (by omega) (by omega) ⟨rfl,rfl,bq _⟩ ⟨rfl,rfl,lX _⟩ rfl (by omega)
       (fun w1 β k1 b1 ho=>⟨_,_,rfl,.inr ⟨β 46,0,rfl,cK (rest:=[]) (ho.own 46 (.base (List.mem_append_right _ (List.mem_singleton.2 rfl))) _ _ rfl) rfl⟩⟩)
       (fun w2 cap' ak ρ k2 b2 fC jc gm hlen fR fu=>wV rfl ?_)
      (repeat first|refine wN ?_|refine wP rfl ?_|refine aa rfl ?_|refine ab rfl ?_|refine wO rfl rfl ?_)
      refine VS.back (n - (i + 1)) (by omega) ⟨_,_,?_,?_,?_,?_,⟨i + 1,nB,[dg],.row 47 0 ([dg]).length cap',by omega,rfl,rfl,.inr ⟨cap',ak,rfl,rfl,by simp;omega,gm,?_,fR,fu⟩,by simp at iV ⊢;omega,dP.cons JK.2 (dP.nil _),mH.2,hst⟩⟩
      ·exact ⟨rfl,rfl,rfl,rfl,congrArg (fun z=>some (AV.val (.int .i64 z))) LG,congrArg (fun z=>some (AV.val (.int .i64 z))) yl,trivial⟩
      ·exact ⟨rfl,trivial⟩
      ·rfl
      ·exact ⟨.append (.none (bq _)) (.none fu),trivial⟩
      ·simpa [bN,Nat.add_assoc] using hlen
    ·rw [if_neg h0] at mH
     have oO:nB=0:=by omega
     subst oO
     refine VS.bu rfl (decide_eq_false h0) ?_
     (repeat first|refine wN ?_|refine wP rfl ?_|refine aa rfl ?_|refine ab rfl ?_|refine wO rfl rfl ?_)
     ·refine VO.ft 46 rfl (congrArg (fun z=>[AV.val (.int .i64 z)]) (show X=(dg:Int) by omega)) ?_
      refine VO.app (aL _ _) (t:=156) (e:=3) (sz:=1) (n:=0) (c:=0) (mm:=1) (known:=[]) (spare:=[]) (news:=iv [dg]) (dst:=47) (del:=none) rfl rfl rfl rfl rfl rfl rfl rfl (Nat.le_of_ble_eq_true rfl) rfl (.inl ⟨rfl,rfl,rfl,rfl,rfl,rfl,by omega⟩) (.inl rfl) rfl rfl (by omega) (by omega) ⟨rfl,rfl,bq _⟩ ⟨rfl,rfl,lX _⟩ rfl (by omega)
       (fun w1 β k1 b1 ho=>⟨_,_,rfl,.inr ⟨β 46,0,rfl,cK (rest:=[]) (ho.own 46 (.base (List.mem_append_right _ (List.mem_singleton.2 rfl))) _ _ rfl) rfl⟩⟩)
       (fun w2 cap' ak ρ k2 b2 fC jc gm hlen fR fu=>wV rfl ?_)
      (repeat first|refine wN ?_|refine wP rfl ?_|refine aa rfl ?_|refine ab rfl ?_|refine wO rfl rfl ?_)
      refine VS.back (n - (i + 1)) (by omega) ⟨_,_,?_,?_,?_,?_,⟨i + 1,0,[dg],.row 47 0 ([dg]).length cap',by omega,rfl,rfl,.inr ⟨cap',ak,rfl,rfl,by simp;omega,gm,?_,fR,fu⟩,by simp at iV ⊢;omega,dP.cons JK.2 (dP.nil _),Nat.zero_le _,hst⟩⟩
      ·exact ⟨rfl,rfl,rfl,rfl,rfl,congrArg (fun z=>some (AV.val (.int .i64 z))) yl,trivial⟩
      ·exact ⟨rfl,trivial⟩
      ·rfl
      ·exact ⟨.append (.none (bq _)) (.none fu),trivial⟩
      ·simpa [bN,Nat.add_assoc] using hlen
   ·have JT:y=0:=by rw [gP (by omega)] at hyg;omega
    have hwX:IntKind.i64.wrap ((x:Int) - (br:Int))=X:=by rw [vh,hX,JT,Nat.mul_zero];omega
    refine VS.bE rfl (decide_eq_true (Int.ofNat_lt.2 tU)) ?_
    (repeat first|refine wN ?_|refine wP rfl ?_|refine aa rfl ?_|refine ab rfl ?_|refine wO rfl rfl ?_)
    refine VO.cond rfl ⟨by omega,by omega⟩ (wV rfl ?_)
    refine VO.read rfl [.int .i64 (x:Int)] rfl (kP rfl qg) (wV rfl ?_)
    refine VO.fix 10 rfl (congrArg (fun z=>AV.val (.int .i64 z)) hwX) ?_
    (repeat first|refine wN ?_|refine wP rfl ?_|refine aa rfl ?_|refine ab rfl ?_|refine wO rfl rfl ?_)
    refine VS.bu rfl (decide_eq_false (fun e=>him (Int.ofNat_lt.1 e))) ?_
    (repeat first|refine wN ?_|refine wP rfl ?_|refine aa rfl ?_|refine ab rfl ?_|refine wO rfl rfl ?_)
    by_cases h0:X < 0
    ·rw [if_pos h0] at mH
     have LG:IntKind.i64.wrap ((IntKind.i64.wrap (65535 - X)).tdiv 65536)=(nB:Int):=by
      rw [IntWalk.i64_in (65535 - X) (by omega),Int.tdiv_eq_ediv_of_nonneg (by omega),IntWalk.i64_in _ (by omega),mH.1]
     have hwd:IntKind.i64.wrap (X + IntKind.i64.wrap (65536 * (nB:Int)))=(dg:Int):=by
      rw [IntWalk.i64_in (65536 * (nB:Int)) (by omega),IntWalk.i64_in _ (by omega),JK.1]
     refine VS.bE rfl (decide_eq_true h0) ?_
     (repeat first|refine wN ?_|refine wP rfl ?_|refine aa rfl ?_|refine ab rfl ?_|refine wO rfl rfl ?_)
     ·refine VO.ft 46 rfl (congrArg (fun z=>[AV.val (.int .i64 z)]) (show _=(dg:Int) by rw [LG,hwd])) ?_
      refine VO.app (aL _ _) (t:=156) (e:=3) (sz:=1) (n:=0) (c:=0) (mm:=1) (known:=[]) (spare:=[]) (news:=iv [dg]) (dst:=47) (del:=none) rfl rfl rfl rfl rfl rfl rfl rfl (Nat.le_of_ble_eq_true rfl) rfl (.inl ⟨rfl,rfl,rfl,rfl,rfl,rfl,by omega⟩) (.inl rfl) rfl rfl (by omega) (by omega) ⟨rfl,rfl,bq _⟩ ⟨rfl,rfl,lX _⟩ rfl (by omega)
       (fun w1 β k1 b1 ho=>⟨_,_,rfl,.inr ⟨β 46,0,rfl,cK (rest:=[]) (ho.own 46 (.base (List.mem_append_right _ (List.mem_singleton.2 rfl))) _ _ rfl) rfl⟩⟩)
       (fun w2 cap' ak ρ k2 b2 fC jc gm hlen fR fu=>wV rfl ?_)
      (repeat first|refine wN ?_|refine wP rfl ?_|refine aa rfl ?_|refine ab rfl ?_|refine wO rfl rfl ?_)
      refine VS.back (n - (i + 1)) (by omega) ⟨_,_,?_,?_,?_,?_,⟨i + 1,nB,[dg],.row 47 0 ([dg]).length cap',by omega,rfl,rfl,.inr ⟨cap',ak,rfl,rfl,by simp;omega,gm,?_,fR,fu⟩,by simp at iV ⊢;omega,dP.cons JK.2 (dP.nil _),mH.2,hst⟩⟩
      ·exact ⟨rfl,rfl,rfl,rfl,congrArg (fun z=>some (AV.val (.int .i64 z))) LG,congrArg (fun z=>some (AV.val (.int .i64 z))) yl,trivial⟩
      ·exact ⟨rfl,trivial⟩
      ·rfl
      ·exact ⟨.append (.none (bq _)) (.none fu),trivial⟩
      ·simpa [bN,Nat.add_assoc] using hlen
    ·rw [if_neg h0] at mH
     have oO:nB=0:=by omega
     subst oO
     refine VS.bu rfl (decide_eq_false h0) ?_
     (repeat first|refine wN ?_|refine wP rfl ?_|refine aa rfl ?_|refine ab rfl ?_|refine wO rfl rfl ?_)
     ·refine VO.ft 46 rfl (congrArg (fun z=>[AV.val (.int .i64 z)]) (show X=(dg:Int) by omega)) ?_
      refine VO.app (aL _ _) (t:=156) (e:=3) (sz:=1) (n:=0) (c:=0) (mm:=1) (known:=[]) (spare:=[]) (news:=iv [dg]) (dst:=47) (del:=none) rfl rfl rfl rfl rfl rfl rfl rfl (Nat.le_of_ble_eq_true rfl) rfl (.inl ⟨rfl,rfl,rfl,rfl,rfl,rfl,by omega⟩) (.inl rfl) rfl rfl (by omega) (by omega) ⟨rfl,rfl,bq _⟩ ⟨rfl,rfl,lX _⟩ rfl (by omega)
       (fun w1 β k1 b1 ho=>⟨_,_,rfl,.inr ⟨β 46,0,rfl,cK (rest:=[]) (ho.own 46 (.base (List.mem_append_right _ (List.mem_singleton.2 rfl))) _ _ rfl) rfl⟩⟩)
       (fun w2 cap' ak ρ k2 b2 fC jc gm hlen fR fu=>wV rfl ?_)
      (repeat first|refine wN ?_|refine wP rfl ?_|refine aa rfl ?_|refine ab rfl ?_|refine wO rfl rfl ?_)
      refine VS.back (n - (i + 1)) (by omega) ⟨_,_,?_,?_,?_,?_,⟨i + 1,0,[dg],.row 47 0 ([dg]).length cap',by omega,rfl,rfl,.inr ⟨cap',ak,rfl,rfl,by simp;omega,gm,?_,fR,fu⟩,by simp at iV ⊢;omega,dP.cons JK.2 (dP.nil _),Nat.zero_le _,hst⟩⟩
      ·exact ⟨rfl,rfl,rfl,rfl,rfl,congrArg (fun z=>some (AV.val (.int .i64 z))) yl,trivial⟩
      ·exact ⟨rfl,trivial⟩
      ·rfl
      ·exact ⟨.append (.none (bq _)) (.none fu),trivial⟩
      ·simpa [bN,Nat.add_assoc] using hlen
  ·by_cases him:i < m
   ·obtain ⟨b2,o2,y',rfl,bm,nP,Eg⟩:=hs.cellAt him
    obtain rfl:y'=y:=by rw [List.getD_eq_getElem?_getD,nP] at hyg;exact hyg
    have hwX:IntKind.i64.wrap (IntKind.i64.wrap ((x:Int) - (br:Int)) - IntKind.i64.wrap ((t:Int) * (y':Int)))=X:=by
     rw [vh,show (t:Int) * (y':Int)=((t * y':Nat):Int) by simp,IntWalk.i64_in ((t * y':Nat):Int) (by omega),IntWalk.i64_in _ (by omega)];omega
    refine VS.bE rfl (decide_eq_true (Int.ofNat_lt.2 tU)) ?_
    (repeat first|refine wN ?_|refine wP rfl ?_|refine aa rfl ?_|refine ab rfl ?_|refine wO rfl rfl ?_)
    refine VO.cond rfl ⟨by omega,by omega⟩ (wV rfl ?_)
    refine VO.read rfl [.int .i64 (x:Int)] rfl (kP rfl qg) (wV rfl ?_)
    (repeat first|refine wN ?_|refine wP rfl ?_|refine aa rfl ?_|refine ab rfl ?_|refine wO rfl rfl ?_)
    refine VS.bE rfl (decide_eq_true (Int.ofNat_lt.2 him)) ?_
    (repeat first|refine wN ?_|refine wP rfl ?_|refine aa rfl ?_|refine ab rfl ?_|refine wO rfl rfl ?_)
    refine VO.cond rfl ⟨by omega,by omega⟩ (wV rfl ?_)
    refine VO.read rfl [.int .i64 (y':Int)] rfl (kP rfl Eg) (wV rfl ?_)
    refine VO.fix 10 rfl (congrArg (fun z=>AV.val (.int .i64 z)) hwX) ?_
    (repeat first|refine wN ?_|refine wP rfl ?_|refine aa rfl ?_|refine ab rfl ?_|refine wO rfl rfl ?_)
    by_cases h0:X < 0
    ·rw [if_pos h0] at mH
     have LG:IntKind.i64.wrap ((IntKind.i64.wrap (65535 - X)).tdiv 65536)=(nB:Int):=by
      rw [IntWalk.i64_in (65535 - X) (by omega),Int.tdiv_eq_ediv_of_nonneg (by omega),IntWalk.i64_in _ (by omega),mH.1]
     have hwd:IntKind.i64.wrap (X + IntKind.i64.wrap (65536 * (nB:Int)))=(dg:Int):=by
      rw [IntWalk.i64_in (65536 * (nB:Int)) (by omega),IntWalk.i64_in _ (by omega),JK.1]
     refine VS.bE rfl (decide_eq_true h0) ?_
     (repeat first|refine wN ?_|refine wP rfl ?_|refine aa rfl ?_|refine ab rfl ?_|refine wO rfl rfl ?_)
     ·refine VO.ft 46 rfl (congrArg (fun z=>[AV.val (.int .i64 z)]) (show _=(dg:Int) by rw [LG,hwd])) ?_
      refine VO.app (aL _ _) (t:=156) (e:=3) (sz:=1) (n:=ds.length) (c:=cap) (mm:=1) (known:=iv ds) (spare:=spare) (news:=iv [dg]) (dst:=47) (del:=some 47) rfl rfl rfl rfl rfl rfl rfl rfl (Nat.le_of_ble_eq_true rfl) rfl (.inr ⟨47,rfl,rfl,rfl⟩) (.inr rfl) (by rw [bN];omega) (by rw [List.length_append,bN];omega) h1 h2 ⟨bq _,h5,bq _⟩ ⟨lX _,h4,lX _⟩ rfl (by omega)
       (fun w1 β k1 b1 ho=>⟨_,_,rfl,.inr ⟨β 46,0,rfl,cK (rest:=[]) (ho.own 46 (.base (List.mem_append_right _ (List.mem_singleton.2 rfl))) _ _ rfl) rfl⟩⟩)
       (fun w2 cap' ak ρ k2 b2 fC jc gm hlen fR fu=>wV rfl ?_)
      (repeat first|refine wN ?_|refine wP rfl ?_|refine aa rfl ?_|refine ab rfl ?_|refine wO rfl rfl ?_)
      refine VS.back (n - (i + 1)) (by omega) ⟨_,_,?_,?_,?_,?_,⟨i + 1,nB,ds++[dg],.row 47 0 (ds++[dg]).length cap',by omega,rfl,rfl,.inr ⟨cap',ak,rfl,rfl,by simp;omega,gm,?_,fR,fu⟩,by simp [iV],dP.append hdh (dP.cons JK.2 (dP.nil _)),mH.2,hst⟩⟩
      ·exact ⟨rfl,rfl,rfl,congrArg (fun z=>some (AV.row 47 0 z cap')) (by simp),congrArg (fun z=>some (AV.val (.int .i64 z))) LG,congrArg (fun z=>some (AV.val (.int .i64 z))) yl,trivial⟩
      ·exact ⟨congrArg (fun l=>some (_,l++ak)) (pg _ _).symm,trivial⟩
      ·rfl
      ·exact ⟨.append (.none (bq _)) (.none fu),trivial⟩
      ·simpa [bN,Nat.add_assoc] using hlen
    ·rw [if_neg h0] at mH
     have oO:nB=0:=by omega
     subst oO
     refine VS.bu rfl (decide_eq_false h0) ?_
     (repeat first|refine wN ?_|refine wP rfl ?_|refine aa rfl ?_|refine ab rfl ?_|refine wO rfl rfl ?_)
     ·refine VO.ft 46 rfl (congrArg (fun z=>[AV.val (.int .i64 z)]) (show X=(dg:Int) by omega)) ?_
      refine VO.app (aL _ _) (t:=156) (e:=3) (sz:=1) (n:=ds.length) (c:=cap) (mm:=1) (known:=iv ds) (spare:=spare) (news:=iv [dg]) (dst:=47) (del:=some 47) rfl rfl rfl rfl rfl rfl rfl rfl (Nat.le_of_ble_eq_true rfl) rfl (.inr ⟨47,rfl,rfl,rfl⟩) (.inr rfl) (by rw [bN];omega) (by rw [List.length_append,bN];omega) h1 h2 ⟨bq _,h5,bq _⟩ ⟨lX _,h4,lX _⟩ rfl (by omega)
       (fun w1 β k1 b1 ho=>⟨_,_,rfl,.inr ⟨β 46,0,rfl,cK (rest:=[]) (ho.own 46 (.base (List.mem_append_right _ (List.mem_singleton.2 rfl))) _ _ rfl) rfl⟩⟩)
       (fun w2 cap' ak ρ k2 b2 fC jc gm hlen fR fu=>wV rfl ?_)
      (repeat first|refine wN ?_|refine wP rfl ?_|refine aa rfl ?_|refine ab rfl ?_|refine wO rfl rfl ?_)
      refine VS.back (n - (i + 1)) (by omega) ⟨_,_,?_,?_,?_,?_,⟨i + 1,0,ds++[dg],.row 47 0 (ds++[dg]).length cap',by omega,rfl,rfl,.inr ⟨cap',ak,rfl,rfl,by simp;omega,gm,?_,fR,fu⟩,by simp [iV],dP.append hdh (dP.cons JK.2 (dP.nil _)),Nat.zero_le _,hst⟩⟩
      ·exact ⟨rfl,rfl,rfl,congrArg (fun z=>some (AV.row 47 0 z cap')) (by simp),rfl,congrArg (fun z=>some (AV.val (.int .i64 z))) yl,trivial⟩
      ·exact ⟨congrArg (fun l=>some (_,l++ak)) (pg _ _).symm,trivial⟩
      ·rfl
      ·exact ⟨.append (.none (bq _)) (.none fu),trivial⟩
      ·simpa [bN,Nat.add_assoc] using hlen
   ·have JT:y=0:=by rw [gP (by omega)] at hyg;omega
    have hwX:IntKind.i64.wrap ((x:Int) - (br:Int))=X:=by rw [vh,hX,JT,Nat.mul_zero];omega
    refine VS.bE rfl (decide_eq_true (Int.ofNat_lt.2 tU)) ?_
    (repeat first|refine wN ?_|refine wP rfl ?_|refine aa rfl ?_|refine ab rfl ?_|refine wO rfl rfl ?_)
    refine VO.cond rfl ⟨by omega,by omega⟩ (wV rfl ?_)
    refine VO.read rfl [.int .i64 (x:Int)] rfl (kP rfl qg) (wV rfl ?_)
    refine VO.fix 10 rfl (congrArg (fun z=>AV.val (.int .i64 z)) hwX) ?_
    (repeat first|refine wN ?_|refine wP rfl ?_|refine aa rfl ?_|refine ab rfl ?_|refine wO rfl rfl ?_)
    refine VS.bu rfl (decide_eq_false (fun e=>him (Int.ofNat_lt.1 e))) ?_
    (repeat first|refine wN ?_|refine wP rfl ?_|refine aa rfl ?_|refine ab rfl ?_|refine wO rfl rfl ?_)
    by_cases h0:X < 0
    ·rw [if_pos h0] at mH
     have LG:IntKind.i64.wrap ((IntKind.i64.wrap (65535 - X)).tdiv 65536)=(nB:Int):=by
      rw [IntWalk.i64_in (65535 - X) (by omega),Int.tdiv_eq_ediv_of_nonneg (by omega),IntWalk.i64_in _ (by omega),mH.1]
     have hwd:IntKind.i64.wrap (X + IntKind.i64.wrap (65536 * (nB:Int)))=(dg:Int):=by
      rw [IntWalk.i64_in (65536 * (nB:Int)) (by omega),IntWalk.i64_in _ (by omega),JK.1]
     refine VS.bE rfl (decide_eq_true h0) ?_
     (repeat first|refine wN ?_|refine wP rfl ?_|refine aa rfl ?_|refine ab rfl ?_|refine wO rfl rfl ?_)
     ·refine VO.ft 46 rfl (congrArg (fun z=>[AV.val (.int .i64 z)]) (show _=(dg:Int) by rw [LG,hwd])) ?_
      refine VO.app (aL _ _) (t:=156) (e:=3) (sz:=1) (n:=ds.length) (c:=cap) (mm:=1) (known:=iv ds) (spare:=spare) (news:=iv [dg]) (dst:=47) (del:=some 47) rfl rfl rfl rfl rfl rfl rfl rfl (Nat.le_of_ble_eq_true rfl) rfl (.inr ⟨47,rfl,rfl,rfl⟩) (.inr rfl) (by rw [bN];omega) (by rw [List.length_append,bN];omega) h1 h2 ⟨bq _,h5,bq _⟩ ⟨lX _,h4,lX _⟩ rfl (by omega)
       (fun w1 β k1 b1 ho=>⟨_,_,rfl,.inr ⟨β 46,0,rfl,cK (rest:=[]) (ho.own 46 (.base (List.mem_append_right _ (List.mem_singleton.2 rfl))) _ _ rfl) rfl⟩⟩)
       (fun w2 cap' ak ρ k2 b2 fC jc gm hlen fR fu=>wV rfl ?_)
      (repeat first|refine wN ?_|refine wP rfl ?_|refine aa rfl ?_|refine ab rfl ?_|refine wO rfl rfl ?_)
      refine VS.back (n - (i + 1)) (by omega) ⟨_,_,?_,?_,?_,?_,⟨i + 1,nB,ds++[dg],.row 47 0 (ds++[dg]).length cap',by omega,rfl,rfl,.inr ⟨cap',ak,rfl,rfl,by simp;omega,gm,?_,fR,fu⟩,by simp [iV],dP.append hdh (dP.cons JK.2 (dP.nil _)),mH.2,hst⟩⟩
      ·exact ⟨rfl,rfl,rfl,congrArg (fun z=>some (AV.row 47 0 z cap')) (by simp),congrArg (fun z=>some (AV.val (.int .i64 z))) LG,congrArg (fun z=>some (AV.val (.int .i64 z))) yl,trivial⟩
      ·exact ⟨congrArg (fun l=>some (_,l++ak)) (pg _ _).symm,trivial⟩
      ·rfl
      ·exact ⟨.append (.none (bq _)) (.none fu),trivial⟩
      ·simpa [bN,Nat.add_assoc] using hlen
    ·rw [if_neg h0] at mH
     have oO:nB=0:=by omega
     subst oO
     refine VS.bu rfl (decide_eq_false h0) ?_
     (repeat first|refine wN ?_|refine wP rfl ?_|refine aa rfl ?_|refine ab rfl ?_|refine wO rfl rfl ?_)
     ·refine VO.ft 46 rfl (congrArg (fun z=>[AV.val (.int .i64 z)]) (show X=(dg:Int) by omega)) ?_
      refine VO.app (aL _ _) (t:=156) (e:=3) (sz:=1) (n:=ds.length) (c:=cap) (mm:=1) (known:=iv ds) (spare:=spare) (news:=iv [dg]) (dst:=47) (del:=some 47) rfl rfl rfl rfl rfl rfl rfl rfl (Nat.le_of_ble_eq_true rfl) rfl (.inr ⟨47,rfl,rfl,rfl⟩) (.inr rfl) (by rw [bN];omega) (by rw [List.length_append,bN];omega) h1 h2 ⟨bq _,h5,bq _⟩ ⟨lX _,h4,lX _⟩ rfl (by omega)
       (fun w1 β k1 b1 ho=>⟨_,_,rfl,.inr ⟨β 46,0,rfl,cK (rest:=[]) (ho.own 46 (.base (List.mem_append_right _ (List.mem_singleton.2 rfl))) _ _ rfl) rfl⟩⟩)
       (fun w2 cap' ak ρ k2 b2 fC jc gm hlen fR fu=>wV rfl ?_)
      (repeat first|refine wN ?_|refine wP rfl ?_|refine aa rfl ?_|refine ab rfl ?_|refine wO rfl rfl ?_)
      refine VS.back (n - (i + 1)) (by omega) ⟨_,_,?_,?_,?_,?_,⟨i + 1,0,ds++[dg],.row 47 0 (ds++[dg]).length cap',by omega,rfl,rfl,.inr ⟨cap',ak,rfl,rfl,by simp;omega,gm,?_,fR,fu⟩,by simp [iV],dP.append hdh (dP.cons JK.2 (dP.nil _)),Nat.zero_le _,hst⟩⟩
      ·exact ⟨rfl,rfl,rfl,congrArg (fun z=>some (AV.row 47 0 z cap')) (by simp),rfl,congrArg (fun z=>some (AV.val (.int .i64 z))) yl,trivial⟩
      ·exact ⟨congrArg (fun l=>some (_,l++ak)) (pg _ _).symm,trivial⟩
      ·rfl
      ·exact ⟨.append (.none (bq _)) (.none fu),trivial⟩
      ·simpa [bN,Nat.add_assoc] using hlen
 ·obtain rfl:i=n:=by omega
  have hend:=LF hdh iV ew (show t * hval (halves B)≤hval (halves A) by rw [bg,bg];exact hle) (by
   rcases Nat.eq_zero_or_pos t with e | e
   ·exact .inl e
   ·right
    rw [←ew]
    exact de (by omega) (Nat.le_trans (Nat.le_mul_of_pos_left B e) hle)) hv
  rw [bg,bg] at hend
  rcases fb with ⟨rfl,rfl,rfl⟩ | ⟨cap,spare,rfl,rfl,h1,h2,h3,h4,h5⟩
  all_goals
   (repeat first|refine wN ?_|refine wP rfl ?_|refine aa rfl ?_|refine ab rfl ?_|refine wO rfl rfl ?_)
   refine VS.bu rfl (decide_eq_false (fun e=>tU (Int.ofNat_lt.1 e))) ?_
   (repeat first|refine wN ?_|refine wP rfl ?_|refine aa rfl ?_|refine ab rfl ?_|refine wO rfl rfl ?_)
  ·refine VO.call rfl rfl (fk Tryz.func125) (fun cC er dv=>(gQ none 0 0 [] cC (Rd.own (World.ownsRow_nil _ 0 0 _)) (dP.nil _)).mono ?_)
   rintro e w1 ⟨⟨mm,yD,rfl,hcut⟩,rfl⟩
   obtain rfl:mm=0:=by omega
   refine ⟨_,rfl,aj.refl _,fun fe _ bb1=>wV rfl ?_⟩
   (repeat first|refine wN ?_|refine wP rfl ?_|refine aa rfl ?_|refine ab rfl ?_|refine wO rfl rfl ?_)
   refine VS.ret (aL _ _) rfl rfl (fun wz kz bz=> ?_)
   have e0:A - t * B=0:=by rw [←hend];rfl
   exact ⟨_,rfl,by rw [e0,kM];exact eD.nil _ _,bz⟩
  ·refine VO.yZ rfl (fk Tryz.func125) (fun w1 β k1 b1 ho=>(gQ (some ⟨β 47,0,none⟩) ds.length cap ds w1 (kO (ho.own 47 (.base (List.mem_singleton.2 rfl)) _ _ rfl) rfl h1 (by simpa [maxLen] using h2)) hdh).mono ?_)
   rintro e w2 ⟨⟨mm,yD,rfl,hcut⟩,rfl⟩
   refine ⟨.row 47 0 mm cap,rfl,fun i hi=>⟨hi,by cases List.mem_singleton.1 hi;exact Option.some_ne_none _⟩,aj.refl _,fun k2 _ b2=>wV rfl ?_⟩
   (repeat first|refine wN ?_|refine wP rfl ?_|refine aa rfl ?_|refine ab rfl ?_|refine wO rfl rfl ?_)
   refine VS.oy (aL _ _) rfl (fun wz β kz bz he=> ?_)
   have pU:=vG hcut yD rfl
   rw [hend] at hcut pU
   refine ⟨_,rfl,?_,bz⟩
   have:=oB (he.own 47 _ _ rfl) rfl yD h1 (by simpa [maxLen] using h2) h3
   rw [←hcut] at this
   show eD wz w.heap.size (.slice (some ⟨β 47,0,none⟩) mm cap) _ _
   rw [←pU]
   exact this
end Go.Proofs.YtabalinjfgcfeaaGreat
set_option maxRecDepth 4000
namespace Go.Proofs.YtabalinjfgcfeaaGreat
open Go.RowKit
attribute [local irreducible] aB VS
theorem eD.jF {w w':World} {B:Nat} {v:Value} {n:Nat} {xs:List Nat} (h:eD w B v n xs) (k:aE KI w w'):eD w' B v n xs:=by
 obtain ⟨hn,e | ⟨b,c,spare,e,hb,hc,r⟩⟩:=h
 ·exact ⟨hn,.inl e⟩
 ·exact ⟨hn,.inr ⟨b,c,spare,e,hb,k.block _ b _ rfl trivial hc,r⟩⟩
theorem ym.kp {w w':World} {B n:Nat} {v:Value} {cs:List Value} (h:w.ownsRow B 3 1 v n cs) (k:aE KI w w'):w'.ownsRow B 3 1 v n cs:=by
 refine ⟨h.1,?_⟩
 rcases h.2 with h2 | ⟨g,cap,cur,hv,hb,hg,r⟩
 ·exact .inl h2
 ·exact .inr ⟨g,cap,cur,hv,hb,k.block _ g cur rfl trivial hg,r⟩
theorem eD.form {w:World} {B:Nat} {v:Value} {n:Nat} {xs:List Nat} (h:eD w B v n xs):∃ p c,v=.slice p n c:=by
 obtain ⟨hn,⟨rfl,rfl⟩ | ⟨b,c,spare,rfl,_⟩⟩:=h
 ·exact ⟨none,0,rfl⟩
 ·exact ⟨_,c,rfl⟩
theorem CO (x:Nat):hval [x]=x:=by show x + 65536 * 0=x;omega
set_option maxHeartbeats 1000000 in
theorem uw (va vb:Value) (n m A B:Nat) (w:World) (hr:Rd w 1 va n (ints .i64 (halves A))) (hs:Rd w 1 vb m (ints .i64 (halves B))) (hB:A < 65536 * B) (hm:m≤2147483656):
  Calls Tryz.prog 136 #[va,vb] w fun e w'=>e=.returned (.int .i64 ((A / B:Nat):Int))∧aj w w':=by
 obtain ⟨p,c,rfl,eT,eV,ew⟩:=hr.i64
 obtain ⟨q,d,rfl,JC,Ee,jJ⟩:=hs.i64
 refine aw (C:=Gv Tryz.prog w _) (args:=[_,_]) Tryz.func136 rfl Tryz.ntmps136 (Nat.le_of_ble_eq_true rfl) ?_
 (repeat first|refine wN ?_|refine wP rfl ?_|refine bJ rfl ?_|refine bR rfl ?_|refine wO rfl rfl ?_)
 refine VS.loop (J:=fun ms L M w'=>∃ (lo hi:Nat),lo < hi∧hi≤65536∧ms=hi - lo∧L=[(0,.val (.slice p n c)),(1,.val (.slice q m d)),(5,.val (.int .i64 (lo:Int))),(6,.val (.int .i64 (hi:Int)))]∧M=[]∧lo * B≤A∧A < hi * B) 65536 ⟨_,_,?_,?_,?_,?_,⟨0,65536,by omega,by omega,rfl,rfl,rfl,by omega,hB⟩⟩ ?_
 ·(repeat first|exact trivial|refine ⟨rfl,?_⟩)
 ·(repeat first|exact trivial|refine ⟨rfl,?_⟩)
 ·rfl
 ·exact trivial
 rintro ms L M w' ⟨lo,hi,hlh,hh,rfl,rfl,rfl,h1,h2⟩
 have vh:IntKind.i64.wrap ((hi:Int) - (lo:Int))=(hi:Int) - lo:=IntWalk.i64_in _ (by omega)
 (repeat first|refine wN ?_|refine wP rfl ?_|refine bJ rfl ?_|refine bR rfl ?_|refine wO rfl rfl ?_)
 by_cases hgo:1 < hi - lo
 ·obtain ⟨mid,iM⟩:∃ mid,mid=(lo + hi) / 2:=⟨_,rfl⟩
  have hwm:IntKind.i64.wrap ((IntKind.i64.wrap ((lo:Int) + (hi:Int))).tdiv 2)=(mid:Int):=by
   rw [IntWalk.i64_in ((lo:Int) + (hi:Int)) (by omega),Int.tdiv_eq_ediv_of_nonneg (by omega),IntWalk.i64_in _ (by omega)];omega
  refine VS.bE rfl (decide_eq_true (by rw [vh];omega)) ?_
  (repeat first|refine wN ?_|refine wP rfl ?_|refine bJ rfl ?_|refine bR rfl ?_|refine wO rfl rfl ?_)
  refine VO.lit (gj _ _) [.int .i64 (mid:Int)] rfl (by rw [hwm];rfl) rfl rfl rfl rfl rfl rfl rfl (by omega) (fun w2 b k2 b2 ho=>wV rfl ?_)
  have hmid4:mid < 65536:=by omega
  refine VO.call rfl rfl (fk Tryz.func100) (fun cC er dv=>(CN _ _ m 1 (halves B) [mid] cC (hs.below dv) (Rd.own (ym.kp (cs:=ints .i64 [mid]) ho er)) (bH B) (dP.cons hmid4 (dP.nil _)) hm (by omega)).mono ?_)
  rintro e w1 ⟨v1,rfl,q1,aV⟩
  rw [bg,CO] at q1
  obtain ⟨p1,c1,rfl⟩:=q1.form
  refine ⟨_,rfl,aV,fun fe _ bb1=>wV rfl ?_⟩
  (repeat first|refine wN ?_|refine wP rfl ?_|refine bJ rfl ?_|refine bR rfl ?_|refine wO rfl rfl ?_)
  refine VO.call rfl rfl (fk Tryz.func148) (fun gv gY gV=>(Ff _ _ n _ A (B * mid) gv (hr.below gV) (Rd.own (q1.jF gY).own)).mono ?_)
  rintro e w3 ⟨rfl,cD⟩
  refine ⟨_,rfl,cD,fun kt _ bb3=>wV rfl ?_⟩
  (repeat first|refine wN ?_|refine wP rfl ?_|refine bJ rfl ?_|refine bR rfl ?_|refine wO rfl rfl ?_)
  by_cases hlt:A < B * mid
  ·refine VS.bE rfl (decide_eq_true hlt) ?_
   (repeat first|refine wN ?_|refine wP rfl ?_|refine bJ rfl ?_|refine bR rfl ?_|refine wO rfl rfl ?_)
   refine VS.back (mid - lo) (by omega) ⟨_,_,?_,?_,?_,?_,⟨lo,mid,by omega,by omega,rfl,rfl,rfl,h1,by rw [Nat.mul_comm];exact hlt⟩⟩
   ·exact ⟨rfl,rfl,rfl,congrArg (fun z=>some (AV.val (.int .i64 z))) hwm,trivial⟩
   ·(repeat first|exact trivial|refine ⟨rfl,?_⟩)
   ·rfl
   ·exact trivial
  ·refine VS.bu rfl (decide_eq_false hlt) ?_
   (repeat first|refine wN ?_|refine wP rfl ?_|refine bJ rfl ?_|refine bR rfl ?_|refine wO rfl rfl ?_)
   refine VS.back (hi - mid) (by omega) ⟨_,_,?_,?_,?_,?_,⟨mid,hi,by omega,by omega,rfl,rfl,rfl,by rw [Nat.mul_comm];omega,h2⟩⟩
   ·exact ⟨rfl,rfl,congrArg (fun z=>some (AV.val (.int .i64 z))) hwm,rfl,trivial⟩
   ·(repeat first|exact trivial|refine ⟨rfl,?_⟩)
   ·rfl
   ·exact trivial
 ·refine VS.bu rfl (decide_eq_false (by rw [vh];omega)) ?_
  (repeat first|refine wN ?_|refine wP rfl ?_|refine bJ rfl ?_|refine bR rfl ?_|refine wO rfl rfl ?_)
  refine VS.ret (gj _ _) rfl rfl (fun wz kz bz=> ?_)
  refine ⟨?_,bz⟩
  have hBp:0 < B:=by
   rcases Nat.eq_zero_or_pos B with e | e
   ·rw [e] at hB;omega
   ·exact e
  have:A / B=lo:=by
   have e1:hi=lo + 1:=by omega
   rw [e1,Nat.add_mul] at h2
   exact Nat.div_eq_of_lt_le h1 (by rw [Nat.add_mul];exact h2)
  rw [this];rfl
theorem xj {A B k x R V:Nat} {qs:List Nat} (hx:(halves A)[k]? =some x) (hR:R < B) (hV:V=x + 65536 * R) (h:hval qs * B + R=hval ((halves A).drop (k + 1))):
  hval ((V / B)::qs) * B + (V - V / B * B)=hval ((halves A).drop k)∧V < 65536 * B∧V - V / B * B < B∧V / B < 65536:=by
 have km:=(bH A).at hx
 have e1:hval ((halves A).drop k)=x + 65536 * hval ((halves A).drop (k + 1)):=pT hx
 have e2:hval ((V / B)::qs)=V / B + 65536 * hval qs:=rfl
 have e3:=Nat.div_add_mod V B
 have e4:=Nat.mod_lt V (show 0 < B by omega)
 rw [Nat.mul_comm] at e3
 have hlt:V < 65536 * B:=by
  have:65536 * R + 65536≤65536 * B:=by
   have:=Nat.mul_le_mul_left 65536 (show R + 1≤B by omega)
   rw [Nat.mul_add] at this;omega
  omega
 refine ⟨?_,hlt,by omega,Nat.div_lt_of_lt_mul (by rw [Nat.mul_comm];exact hlt)⟩
 rw [e1,←h,e2,Nat.add_mul,Nat.mul_add,Nat.mul_assoc]
 omega
set_option maxHeartbeats 2000000 in
theorem CP (va vb:Value) (n m A B:Nat) (w:World) (hr:Rd w 1 va n (ints .i64 (halves A))) (hs:Rd w 1 vb m (ints .i64 (halves B))) (hB:0 < B) (hn:n≤1073741824) (hm:m≤1073741824):
  Calls Tryz.prog 119 #[va,vb] w fun e w'=>∃ v u,e=.returned (.tuple #[v,u])∧eD w' w.heap.size v (halves (A / B)).length (halves (A / B))∧eD w' w.heap.size u (halves (A % B)).length (halves (A % B))∧aj w w':=by
 obtain ⟨p,c,rfl,eT,eV,ew⟩:=hr.i64
 obtain ⟨q,d,rfl,JC,Ee,jJ⟩:=hs.i64
 refine aw (C:=cj Tryz.prog w _) (args:=[_,_]) Tryz.func119 rfl Tryz.ntmps119 (Nat.le_of_ble_eq_true rfl) ?_
 (repeat first|refine wN ?_|refine wP rfl ?_|refine aa rfl ?_|refine ab rfl ?_|refine wO rfl rfl ?_)
 refine VO.cond rfl ⟨rfl,by omega,by show (n:Int) * (24 * 1)≤_;omega⟩ (VO.ft 12 rfl (xg _) (wV rfl ?_))
 rw [Int.toNat_natCast]
 (repeat first|refine wN ?_|refine wP rfl ?_|refine aa rfl ?_|refine ab rfl ?_|refine wO rfl rfl ?_)
 have hw0:IntKind.i64.wrap ((n:Int) - 1)=(n:Int) - 1:=IntWalk.i64_in _ (by omega)
 refine VS.loop (J:=fun ms L M w'=>∃ (k R:Nat) (qs:List Nat) (v:AV) (M1:List (Nat×(TypeId×List AV))),k≤n∧ms=k∧L=[(0,.val (.slice p n c)),(1,.val (.slice q m d)),(6,.row 12 0 n n),(7,v),(8,.val (.int .i64 ((k:Int) - 1)))]∧
  M=(12,(3,iv (List.replicate k 0++qs)))::M1∧RowAt 41 (halves R) v M1∧qs.length=n - k∧fX qs∧R < B∧hval qs * B + R=hval ((halves A).drop k)) n ⟨_,_,?_,?_,?_,?_,⟨n,0,[],.val (.slice none 0 0),[],Nat.le_refl _,rfl,rfl,rfl,.inl ⟨kM,rfl,rfl⟩,by simp,dP.nil _,hB,by rw [List.drop_of_length_le (by omega)];simp [hval,val]⟩⟩ ?_
 ·exact ⟨rfl,rfl,rfl,rfl,congrArg (fun z=>some (AV.val (.int .i64 z))) hw0,trivial⟩
 ·exact ⟨congrArg (fun l=>some (_,l)) (by rw [List.append_nil]),trivial⟩
 ·rfl
 ·exact ⟨.none (bq _),trivial⟩
 rintro ms L M w' ⟨k,R,qs,v,M1,hk,hms,rfl,rfl,fb,zL,hqh,hRB,hv⟩
 have hz:(List.replicate k 0++qs).length=n:=by simp;omega
 rcases fb with ⟨hR0,rfl,rfl⟩ | ⟨cap,spare,rfl,rfl,g1,g2,g3,g4,g5⟩
 all_goals
  by_cases yd:k=0
 ·subst yd
  (repeat first|refine wN ?_|refine wP rfl ?_|refine aa rfl ?_|refine ab rfl ?_|refine wO rfl rfl ?_)
  refine VO.yZ rfl (fk Tryz.func125) (fun w1 β k1 bw ho=>(gQ (some ⟨β 12,0,none⟩) n n qs w1 (kO (spare:=[]) (by rw [List.append_nil];exact ho.own 12 (.base (List.mem_singleton.2 rfl)) _ _ rfl) (by simpa using hz) (Nat.le_refl _) (by simp only [maxLen];omega)) hqh).mono ?_)
  rintro e w2 ⟨⟨mm,yD,rfl,hcut⟩,rfl⟩
  refine ⟨.row 12 0 mm n,rfl,fun i hi=>⟨hi,by cases List.mem_singleton.1 hi;exact Option.some_ne_none _⟩,aj.refl _,fun k2 _ b2=>wV rfl ?_⟩
  (repeat first|refine wN ?_|refine wP rfl ?_|refine aa rfl ?_|refine ab rfl ?_|refine wO rfl rfl ?_)
  refine VS.oy (aL _ _) rfl (fun wz β kz bz he=> ?_)
  have DJ:qs.length=n:=by simpa using hz
  have pU:=vG hcut yD DJ
  rw [List.drop_zero,bg] at hv
  have hA:A / B=hval qs:=by rw [←hv,Nat.add_comm,Nat.add_mul_div_right _ _ hB,Nat.div_eq_of_lt hRB,Nat.zero_add]
  have hM:A % B=R:=by rw [←hv,Nat.add_comm,Nat.add_mul_mod_self_right,Nat.mod_eq_of_lt hRB]
  rw [←hA] at hcut pU
  have e12:=oB (spare:=[]) (by rw [List.append_nil];exact he.own 12 _ _ rfl) DJ yD (Nat.le_refl _) (by simp only [maxLen];omega) (by simpa using DJ)
  rw [←hcut] at e12
  refine ⟨.slice (some ⟨β 12,0,none⟩) mm n,.slice none 0 0,rfl,by rw [←pU];exact e12,?_,bz⟩
  rw [hM,hR0];exact eD.nil _ _
 ·obtain ⟨j,rfl⟩:∃ j,k=j + 1:=⟨k - 1,by omega⟩
  have hj:((j + 1:Nat):Int) - 1=(j:Int):=by omega
  obtain ⟨b1,o1,x,rfl,aV,gh,qg⟩:=hr.cellAt (show j < n by omega)
  have km:=(bH A).at gh
  obtain ⟨V,hV⟩:∃ V,V=x + 65536 * R:=⟨_,rfl⟩
  obtain ⟨s1,s2,s3,s4⟩:=xj gh hRB hV hv
  have hRl:(halves R).length≤m:=by rw [←jJ];exact de (by omega) (by omega)
  have hXS:hval [x]=V:=by have hR0':R=0:=(by have:=congrArg hval hR0;rw [bg] at this;exact this);rw [hV,hR0'];exact CO x
  have hXH:fX [x]:=dP.cons km (dP.nil _)
  have hXL:[x].length=(1 + 0):=rfl
  refine VS.fix 8 rfl (congrArg (fun z=>AV.val (.int .i64 z)) hj) ?_
  (repeat first|refine wN ?_|refine wP rfl ?_|refine aa rfl ?_|refine ab rfl ?_|refine wO rfl rfl ?_)
  refine VO.cond rfl ⟨by omega,by omega⟩ (wV rfl ?_)
  refine VO.read rfl [.int .i64 (x:Int)] rfl (kP rfl qg) (wV rfl ?_)
  (repeat first|refine wN ?_|refine wP rfl ?_|refine aa rfl ?_|refine ab rfl ?_|refine wO rfl rfl ?_)
  refine VO.app (aL _ _) (t:=156) (e:=3) (sz:=1) (n:=1) (c:=1) (mm:=0) (known:=iv [x]) (spare:=[]) (news:=[]) (dst:=27) (del:=some 24) rfl rfl rfl rfl rfl rfl rfl rfl (Nat.le_of_ble_eq_true rfl) rfl (.inr ⟨24,rfl,rfl,rfl⟩) (.inl rfl) rfl rfl (by omega) (by omega) ⟨rfl,rfl,rfl⟩ ⟨rfl,rfl,rfl⟩ rfl (by omega)
   (fun w1 β k1 bw ho=>⟨_,_,rfl,.inl rfl⟩)
   (fun w2 cap' ak ρ k2 b2 fC jc gm hlen fR fu=>VO.ft 12 rfl (LD 24 ρ _) (wV rfl ?_))
  have ly:(iv [x]++[])++ak=iv [x]++ak:=rfl
  refine VO.yZ rfl (fk Tryz.func125) (fun w1 β k1 bw ho=>(gQ (some ⟨β 27,0,none⟩) (1 + 0) cap' [x] w1 (kO (ho.own 27 (.base (List.mem_singleton.2 rfl)) _ _ rfl) hXL jc (by simpa [maxLen] using gm)) hXH).mono ?_)
  rintro e w3 ⟨⟨m',Kc,rfl,hcut⟩,rfl⟩
  rw [hXS] at hcut
  have hm'l:m'=(halves V).length:=by rw [hcut,List.length_take];omega
  have sM:∀ {C:Cx} {β:Nat→Nat} {w:World},lQ C β w 27 3 (iv [x]++ak)→Rd w 1 (.slice (some ⟨β 27,0,none⟩) m' cap') m' (ints .i64 (halves V)):=fun h=>by
   have:=Rd.CH (kO h hXL jc (by simpa [maxLen] using gm)) Kc
   rwa [←hcut] at this
  refine ⟨.row 27 0 m' cap',rfl,fun i hi=>⟨hi,by cases List.mem_singleton.1 hi;exact Option.some_ne_none _⟩,aj.refl _,fun k3 _ b3=>wV rfl ?_⟩
  (repeat first|refine wN ?_|refine wP rfl ?_|refine aa rfl ?_|refine ab rfl ?_|refine wO rfl rfl ?_)
  refine VO.fI rfl (fk Tryz.func136) (fun w1 β k1 bw ho=>(uw _ _ m' m V B w1 (sM (ho.own 27 (.base (List.mem_append_left _ (List.mem_singleton.2 rfl))) _ _ rfl)) (hs.below bw) s2 (by omega)).mono ?_)
  rintro e w4 ⟨rfl,gU⟩
  refine ⟨_,rfl,gU,fun k4 _ b4=>wV rfl ?_⟩
  refine VO.cond rfl ⟨by omega,by omega⟩ (wV rfl ?_)
  refine VO.cond rfl (by show 0 + (j:Int).toNat * 1 + 1≤_;rw [Int.toNat_natCast,bN];omega) (wV rfl ?_)
  refine wN ?_
  refine VS.narrow [(0,.val (.slice (some ⟨b1,o1,none⟩) n c)),(1,.val (.slice q m d)),(6,.row 12 0 n n),(7,.row 27 0 m' cap'),(8,.val (.int .i64 (j:Int)))] [(12,(3,iv (List.replicate j 0++(V / B)::qs))),(27,(3,iv [x]++ak))] ?_ ?_ rfl ?_ ?_
  ·(repeat first|exact trivial|refine ⟨rfl,?_⟩)
  ·exact ⟨congrArg (fun l=>some (_,l)) ((vF (j:=j) (x:=V / B) (by rw [hz];omega) (by rw [Int.toNat_natCast];omega)).trans (by rw [ur])),rfl,trivial⟩
  ·exact ⟨.none (bq _),.append (.none (bq _)) (.none fu),trivial⟩
  (repeat first|refine wN ?_|refine wP rfl ?_|refine aa rfl ?_|refine ab rfl ?_|refine wO rfl rfl ?_)
  refine VO.cond rfl ⟨by omega,by omega⟩ (wV rfl ?_)
  refine VO.dh rfl [.val (.int .i64 ((V / B:Nat):Int))] rfl (rV (j:=j) (by rw [List.getElem?_append_right (by simp)];simp) (by rw [Int.toNat_natCast];omega)) (wV rfl ?_)
  have vh:IntKind.i64.wrap ((j:Int) - 1)=(j:Int) - 1:=IntWalk.i64_in _ (by omega)
  refine VO.callN (dst:=41) (n:=(halves (V - V / B * B)).length) (t:=3) (sz:=1) (xs:=ints .i64 (halves (V - V / B * B))) rfl rfl rfl (Nat.le_of_ble_eq_true rfl) (by show 1≤2;omega) rfl (fun w1 β k1 bw ho=>⟨(fk Tryz.func137),(xh _ _ m' m (V / B) V B w1 (sM (ho.own 27 (.base (List.mem_append_left _ (List.mem_singleton.2 rfl))) _ _ rfl)) (hs.below bw) s4 (Nat.div_mul_le_self _ _) (by omega)).mono ?_⟩)
  rintro e w5 ⟨v5,rfl,CQ,gi⟩
  refine ⟨v5,rfl,gi,CQ.new,fun _ _ _ hv5=>wV rfl ?_,fun c5 sp5 _ _ _ hv5 hok5 hl5 GH Ef=>wV rfl ?_⟩
  ·have Hm:halves (V - V / B * B)=[]:=by
    subst hv5
    obtain ⟨e1,⟨_,e2⟩ | ⟨_,_,_,e2,_⟩⟩:=CQ
    ·exact List.eq_nil_of_length_eq_zero e2
    ·cases e2
   (repeat first|refine wN ?_|refine wP rfl ?_|refine aa rfl ?_|refine ab rfl ?_|refine wO rfl rfl ?_)
   refine VS.back j (by omega) ⟨_,_,?_,?_,?_,?_,⟨j,V - V / B * B,(V / B)::qs,.val (.slice none 0 0),[],by omega,rfl,rfl,rfl,.inl ⟨Hm,rfl,rfl⟩,by simp;omega,dP.cons s4 hqh,s3,s1⟩⟩
   ·exact ⟨rfl,rfl,rfl,rfl,congrArg (fun z=>some (AV.val (.int .i64 z))) vh,trivial⟩
   ·exact ⟨rfl,trivial⟩
   ·rfl
   ·exact ⟨.none (bq _),trivial⟩
  ·have qG:(halves (V - V / B * B)).length + sp5.length=c5:=by simpa using Ef
   (repeat first|refine wN ?_|refine wP rfl ?_|refine aa rfl ?_|refine ab rfl ?_|refine wO rfl rfl ?_)
   refine VS.back j (by omega) ⟨_,_,?_,?_,?_,?_,⟨j,V - V / B * B,(V / B)::qs,.row 41 0 _ c5,_,by omega,rfl,rfl,rfl,.inr ⟨c5,sp5.map .val,rfl,rfl,hl5,GH,by simpa using qG,bb hok5,ao _⟩,by simp;omega,dP.cons s4 hqh,s3,s1⟩⟩
   ·exact ⟨rfl,rfl,rfl,rfl,congrArg (fun z=>some (AV.val (.int .i64 z))) vh,trivial⟩
   ·exact ⟨rfl,congrArg (fun l=>some (_,l)) (List.map_append),trivial⟩
   ·rfl
   ·exact ⟨.none (bq _),.append (.none (bq _)) (.none (ao _)),trivial⟩
 ·subst yd
  (repeat first|refine wN ?_|refine wP rfl ?_|refine aa rfl ?_|refine ab rfl ?_|refine wO rfl rfl ?_)
  refine VO.yZ rfl (fk Tryz.func125) (fun w1 β k1 bw ho=>(gQ (some ⟨β 12,0,none⟩) n n qs w1 (kO (spare:=[]) (by rw [List.append_nil];exact ho.own 12 (.base (List.mem_singleton.2 rfl)) _ _ rfl) (by simpa using hz) (Nat.le_refl _) (by simp only [maxLen];omega)) hqh).mono ?_)
  rintro e w2 ⟨⟨mm,yD,rfl,hcut⟩,rfl⟩
  refine ⟨.row 12 0 mm n,rfl,fun i hi=>⟨hi,by cases List.mem_singleton.1 hi;exact Option.some_ne_none _⟩,aj.refl _,fun k2 _ b2=>wV rfl ?_⟩
  (repeat first|refine wN ?_|refine wP rfl ?_|refine aa rfl ?_|refine ab rfl ?_|refine wO rfl rfl ?_)
  refine VS.oy (aL _ _) rfl (fun wz β kz bz he=> ?_)
  have DJ:qs.length=n:=by simpa using hz
  have pU:=vG hcut yD DJ
  rw [List.drop_zero,bg] at hv
  have hA:A / B=hval qs:=by rw [←hv,Nat.add_comm,Nat.add_mul_div_right _ _ hB,Nat.div_eq_of_lt hRB,Nat.zero_add]
  have hM:A % B=R:=by rw [←hv,Nat.add_comm,Nat.add_mul_mod_self_right,Nat.mod_eq_of_lt hRB]
  rw [←hA] at hcut pU
  have e12:=oB (spare:=[]) (by rw [List.append_nil];exact he.own 12 _ _ rfl) DJ yD (Nat.le_refl _) (by simp only [maxLen];omega) (by simpa using DJ)
  rw [←hcut] at e12
  have e41:=oB (he.own 41 _ _ rfl) rfl (Nat.le_refl _) g1 (by simpa [maxLen] using g2) g3
  rw [List.take_length] at e41
  refine ⟨.slice (some ⟨β 12,0,none⟩) mm n,.slice (some ⟨β 41,0,none⟩) (halves R).length cap,rfl,by rw [←pU];exact e12,?_,bz⟩
  rw [hM];exact e41
 ·obtain ⟨j,rfl⟩:∃ j,k=j + 1:=⟨k - 1,by omega⟩
  have hj:((j + 1:Nat):Int) - 1=(j:Int):=by omega
  obtain ⟨b1,o1,x,rfl,aV,gh,qg⟩:=hr.cellAt (show j < n by omega)
  have km:=(bH A).at gh
  obtain ⟨V,hV⟩:∃ V,V=x + 65536 * R:=⟨_,rfl⟩
  obtain ⟨s1,s2,s3,s4⟩:=xj gh hRB hV hv
  have hRl:(halves R).length≤m:=by rw [←jJ];exact de (by omega) (by omega)
  have hXS:hval (x::halves R)=V:=by rw [hV];show x + 65536 * hval (halves R)=_;rw [bg]
  have hXH:fX (x::halves R):=dP.cons km (bH R)
  have hXL:(x::halves R).length=(1 + (halves R).length):=by simp;omega
  refine VS.fix 8 rfl (congrArg (fun z=>AV.val (.int .i64 z)) hj) ?_
  (repeat first|refine wN ?_|refine wP rfl ?_|refine aa rfl ?_|refine ab rfl ?_|refine wO rfl rfl ?_)
  refine VO.cond rfl ⟨by omega,by omega⟩ (wV rfl ?_)
  refine VO.read rfl [.int .i64 (x:Int)] rfl (kP rfl qg) (wV rfl ?_)
  (repeat first|refine wN ?_|refine wP rfl ?_|refine aa rfl ?_|refine ab rfl ?_|refine wO rfl rfl ?_)
  refine VO.app (aL _ _) (t:=156) (e:=3) (sz:=1) (n:=1) (c:=1) (mm:=(halves R).length) (known:=iv [x]) (spare:=[]) (news:=iv (halves R)) (dst:=27) (del:=some 24) rfl rfl rfl rfl rfl rfl rfl rfl (Nat.le_of_ble_eq_true rfl) rfl (.inr ⟨24,rfl,rfl,rfl⟩) (.inl rfl) rfl rfl (by omega) (by omega) ⟨rfl,rfl,bq _⟩ ⟨rfl,rfl,lX _⟩ (by rw [bN];omega) (by omega)
   (fun w1 β k1 bw ho=>⟨_,_,rfl,.inr ⟨β 41,0,rfl,cK (rest:=spare) (ho.own 41 (.base (List.mem_append_right _ (List.mem_singleton.2 rfl))) _ _ rfl) rfl⟩⟩)
   (fun w2 cap' ak ρ k2 b2 fC jc gm hlen fR fu=>VO.ft 12 rfl (LD 24 ρ _) (wV rfl ?_))
  have ly:(iv [x]++iv (halves R))++ak=iv (x::halves R)++ak:=rfl
  refine VO.yZ rfl (fk Tryz.func125) (fun w1 β k1 bw ho=>(gQ (some ⟨β 27,0,none⟩) (1 + (halves R).length) cap' (x::halves R) w1 (kO (ho.own 27 (.base (List.mem_singleton.2 rfl)) _ _ rfl) hXL jc (by simpa [maxLen] using gm)) hXH).mono ?_)
  rintro e w3 ⟨⟨m',Kc,rfl,hcut⟩,rfl⟩
  rw [hXS] at hcut
  have hm'l:m'=(halves V).length:=by rw [hcut,List.length_take];omega
  have sM:∀ {C:Cx} {β:Nat→Nat} {w:World},lQ C β w 27 3 (iv (x::halves R)++ak)→Rd w 1 (.slice (some ⟨β 27,0,none⟩) m' cap') m' (ints .i64 (halves V)):=fun h=>by
   have:=Rd.CH (kO h hXL jc (by simpa [maxLen] using gm)) Kc
   rwa [←hcut] at this
  refine ⟨.row 27 0 m' cap',rfl,fun i hi=>⟨hi,by cases List.mem_singleton.1 hi;exact Option.some_ne_none _⟩,aj.refl _,fun k3 _ b3=>wV rfl ?_⟩
  (repeat first|refine wN ?_|refine wP rfl ?_|refine aa rfl ?_|refine ab rfl ?_|refine wO rfl rfl ?_)
  refine VO.fI rfl (fk Tryz.func136) (fun w1 β k1 bw ho=>(uw _ _ m' m V B w1 (sM (ho.own 27 (.base (List.mem_append_left _ (List.mem_singleton.2 rfl))) _ _ rfl)) (hs.below bw) s2 (by omega)).mono ?_)
  rintro e w4 ⟨rfl,gU⟩
  refine ⟨_,rfl,gU,fun k4 _ b4=>wV rfl ?_⟩
  refine VO.cond rfl ⟨by omega,by omega⟩ (wV rfl ?_)
  refine VO.cond rfl (by show 0 + (j:Int).toNat * 1 + 1≤_;rw [Int.toNat_natCast,bN];omega) (wV rfl ?_)
  refine wN ?_
  refine VS.narrow [(0,.val (.slice (some ⟨b1,o1,none⟩) n c)),(1,.val (.slice q m d)),(6,.row 12 0 n n),(7,.row 27 0 m' cap'),(8,.val (.int .i64 (j:Int)))] [(12,(3,iv (List.replicate j 0++(V / B)::qs))),(27,(3,iv (x::halves R)++ak))] ?_ ?_ rfl ?_ ?_
  ·(repeat first|exact trivial|refine ⟨rfl,?_⟩)
  ·exact ⟨congrArg (fun l=>some (_,l)) ((vF (j:=j) (x:=V / B) (by rw [hz];omega) (by rw [Int.toNat_natCast];omega)).trans (by rw [ur])),rfl,trivial⟩
  ·exact ⟨.none (bq _),.append (.none (bq _)) (.none fu),trivial⟩
  (repeat first|refine wN ?_|refine wP rfl ?_|refine aa rfl ?_|refine ab rfl ?_|refine wO rfl rfl ?_)
  refine VO.cond rfl ⟨by omega,by omega⟩ (wV rfl ?_)
  refine VO.dh rfl [.val (.int .i64 ((V / B:Nat):Int))] rfl (rV (j:=j) (by rw [List.getElem?_append_right (by simp)];simp) (by rw [Int.toNat_natCast];omega)) (wV rfl ?_)
  have vh:IntKind.i64.wrap ((j:Int) - 1)=(j:Int) - 1:=IntWalk.i64_in _ (by omega)
  refine VO.callN (dst:=41) (n:=(halves (V - V / B * B)).length) (t:=3) (sz:=1) (xs:=ints .i64 (halves (V - V / B * B))) rfl rfl rfl (Nat.le_of_ble_eq_true rfl) (by show 1≤2;omega) rfl (fun w1 β k1 bw ho=>⟨(fk Tryz.func137),(xh _ _ m' m (V / B) V B w1 (sM (ho.own 27 (.base (List.mem_append_left _ (List.mem_singleton.2 rfl))) _ _ rfl)) (hs.below bw) s4 (Nat.div_mul_le_self _ _) (by omega)).mono ?_⟩)
  rintro e w5 ⟨v5,rfl,CQ,gi⟩
  refine ⟨v5,rfl,gi,CQ.new,fun _ _ _ hv5=>wV rfl ?_,fun c5 sp5 _ _ _ hv5 hok5 hl5 GH Ef=>wV rfl ?_⟩
  ·have Hm:halves (V - V / B * B)=[]:=by
    subst hv5
    obtain ⟨e1,⟨_,e2⟩ | ⟨_,_,_,e2,_⟩⟩:=CQ
    ·exact List.eq_nil_of_length_eq_zero e2
    ·cases e2
   (repeat first|refine wN ?_|refine wP rfl ?_|refine aa rfl ?_|refine ab rfl ?_|refine wO rfl rfl ?_)
   refine VS.back j (by omega) ⟨_,_,?_,?_,?_,?_,⟨j,V - V / B * B,(V / B)::qs,.val (.slice none 0 0),[],by omega,rfl,rfl,rfl,.inl ⟨Hm,rfl,rfl⟩,by simp;omega,dP.cons s4 hqh,s3,s1⟩⟩
   ·exact ⟨rfl,rfl,rfl,rfl,congrArg (fun z=>some (AV.val (.int .i64 z))) vh,trivial⟩
   ·exact ⟨rfl,trivial⟩
   ·rfl
   ·exact ⟨.none (bq _),trivial⟩
  ·have qG:(halves (V - V / B * B)).length + sp5.length=c5:=by simpa using Ef
   (repeat first|refine wN ?_|refine wP rfl ?_|refine aa rfl ?_|refine ab rfl ?_|refine wO rfl rfl ?_)
   refine VS.back j (by omega) ⟨_,_,?_,?_,?_,?_,⟨j,V - V / B * B,(V / B)::qs,.row 41 0 _ c5,_,by omega,rfl,rfl,rfl,.inr ⟨c5,sp5.map .val,rfl,rfl,hl5,GH,by simpa using qG,bb hok5,ao _⟩,by simp;omega,dP.cons s4 hqh,s3,s1⟩⟩
   ·exact ⟨rfl,rfl,rfl,rfl,congrArg (fun z=>some (AV.val (.int .i64 z))) vh,trivial⟩
   ·exact ⟨rfl,congrArg (fun l=>some (_,l)) (List.map_append),trivial⟩
   ·rfl
   ·exact ⟨.none (bq _),.append (.none (bq _)) (.none (ao _)),trivial⟩
end Go.Proofs.YtabalinjfgcfeaaGreat
set_option maxRecDepth 4000
namespace Go.Proofs.YtabalinjfgcfeaaGreat
open Go.RowKit
attribute [local irreducible] aB VS
theorem bP.jF {w w':World} {v:Value} {X:Int} {j:Nat} (h:bP w v X j) (k:aE KI w w'):bP w' v X j:=h.kp (U:=UU) k.yh
theorem bO.jF {w w':World} {v:Value} {X:Int} (h:bO w v X) (k:aE KI w w'):bO w' v X:=h.kp (U:=UU) k.yh
theorem aC.jF {w w':World} {B:Nat} {v:Value} {X:Int} (h:aC w B v X) (k:aE KI w w'):aC w' B v X:=h.kp k.yh
theorem Rd.jF {w w':World} {v:Value} {n:Nat} {xs:List Nat} (h:Rd w 1 v n (ints .u32 xs)) (k:aE KI w w'):Rd w' 1 v n (ints .u32 xs):=h.kp (U:=UU) k.yh
theorem OwnU.jF {w w':World} {B n:Nat} {v:Value} {cs:List Value} (h:w.ownsRow B UU 1 v n cs) (k:aE KI w w'):w'.ownsRow B UU 1 v n cs:=Own.kp h k.yh
theorem kQ (a:Nat):(halves a).length≤2 * (limbs a).length:=by
 have:=cV (ay a)
 rwa [au] at this
theorem kS (va:Value) (n a:Nat) (w:World) (hr:Rd w 1 va n (ints .u32 (limbs a))) (hn:n≤1073741824):
  Calls Tryz.prog 101 #[va] w fun e w'=>∃ p c,e=.returned (.slice p (halves a).length c)∧w'.ownsRow w.heap.size 3 1 (.slice p (halves a).length c) (halves a).length (ints .i64 (halves a))∧aj w w':=
 (Ag va n _ w hr (ay a) hn).mono fun e w' ⟨v',he,ho,hb⟩=>by
  rw [au] at ho
  obtain ⟨p,c,rfl,_⟩:=Own.form ho
  exact ⟨p,c,he,ho,hb⟩
theorem qH (va:Value) (n a:Nat) (w:World) (hr:Rd w 1 va n (ints .i64 (halves a))) (hn:n≤2147483646):
  Calls Tryz.prog 99 #[va] w fun e w'=>∃ p c xs,e=.returned (.slice p ((n + 1) / 2) c)∧w'.ownsRow w.heap.size UU 1 (.slice p ((n + 1) / 2) c) ((n + 1) / 2) (ints .u32 xs)∧aq xs=a∧bV xs∧aj w w':=
 (CM va n _ w hr (bH a) (by omega)).mono fun e w' ⟨v',xs,he,hl,ho,hv,hx,hb⟩=>by
  obtain ⟨p,c,rfl,_⟩:=Own.form ho
  exact ⟨p,c,xs,he,ho,by rw [hv,bg],hx,hb⟩
theorem xk (va vb:Value) (n m A B:Nat) (w:World) (hr:Rd w 1 va n (ints .i64 (halves A))) (hs:Rd w 1 vb m (ints .i64 (halves B))) (hB:0 < B) (hn:n≤1073741824) (hm:m≤1073741824):
  Calls Tryz.prog 119 #[va,vb] w fun e w'=>∃ p c q d,e=.returned (.tuple #[.slice p (halves (A / B)).length c,.slice q (halves (A % B)).length d])∧w'.ownsRow w.heap.size 3 1 (.slice p (halves (A / B)).length c) (halves (A / B)).length (ints .i64 (halves (A / B)))∧w'.ownsRow w.heap.size 3 1 (.slice q (halves (A % B)).length d) (halves (A % B)).length (ints .i64 (halves (A % B)))∧aj w w':=
 (CP va vb n m A B w hr hs hB hn hm).mono fun e w' ⟨v,u,he,h1,h2,hb⟩=>by
  obtain ⟨p,c,rfl⟩:=h1.form
  obtain ⟨q,d,rfl⟩:=h2.form
  exact ⟨p,c,q,d,he,h1.own,h2.own,hb⟩
theorem GI {s:Bool} {n:Nat} (h:n≠0):(if s=true then -(n:Int) else n).sign=if s=true then -1 else 1:=by
 cases s
 ·exact eX (by simp;omega)
 ·exact sign_neg (by simp;omega)
theorem div_len {a b:Nat}:(halves (a / b)).length≤(halves a).length:=de (by omega) (Nat.div_le_self _ _)
theorem mod_len {a b:Nat}:(halves (a % b)).length≤(halves a).length:=de (by omega) (Nat.mod_le _ _)
theorem GJ {xs:List Nat} {a:Nat} {s:Bool} (hl:bV xs) (hv:aq xs=a):Sz (if s=true then -((aq xs:Nat):Int) else aq xs) xs.length:=by
 unfold Sz
 have:(if s=true then -((aq xs:Nat):Int) else aq xs).natAbs=aq xs:=by cases s <;> simp
 rw [this]
 exact ib hl
set_option maxHeartbeats 2000000 in
theorem kV (v u:Value) (X Y:Int) (j k:Nat) (w:World) (hv:bP w v X j) (hu:bP w u Y k) (hj:j≤134217728) (hk:k≤134217728):
  Calls Tryz.prog 95 #[v,u] w fun e w'=>wZ w w' X Y e∧aj w w':=by
 obtain ⟨s,p,n,c,rfl⟩:=hv.form
 obtain ⟨t,q,m,d,rfl⟩:=hu.form
 have sL:=hv.len
 have nL:=hu.len
 refine aw (C:=Gv Tryz.prog w _) (args:=[_,_]) Tryz.func95 rfl Tryz.ntmps95 (Nat.le_of_ble_eq_true rfl) ?_
 (repeat first|refine wN ?_|refine wP rfl ?_|refine bJ rfl ?_|refine bR rfl ?_|refine wO rfl rfl ?_)
 refine VO.call rfl rfl (fk Tryz.func96) (fun cC er dv=>(kN _ X j cC (hv.jF er)).mono ?_)
 rintro e w1 ⟨r1,rfl,h1,aV⟩
 obtain ⟨s1,p1,n1,c1,rfl⟩:=h1.ij
 refine ⟨_,rfl,aV,fun fe _ bb1=>wV rfl ?_⟩
 (repeat first|refine wN ?_|refine wP rfl ?_|refine bJ rfl ?_|refine bR rfl ?_|refine wO rfl rfl ?_)
 refine VO.call rfl rfl (fk Tryz.func96) (fun dC gu eu=>(kN _ Y k dC (hu.jF (fe.aJ gu))).mono ?_)
 rintro e w2 ⟨r2,rfl,h2,bm⟩
 obtain ⟨s2,p2,n2,c2,rfl⟩:=h2.ij
 refine ⟨_,rfl,bm,fun fZ _ bb2=>wV rfl ?_⟩
 (repeat first|refine wN ?_|refine wP rfl ?_|refine bJ rfl ?_|refine bR rfl ?_|refine wO rfl rfl ?_)
 have e1:=rT h1.sgn
 have e2:=rT h2.sgn
 have l1:=kQ X.natAbs
 have l2:=kQ Y.natAbs
 by_cases hY:Y=0
 ·have lH:n2=0:=by rw [h2.n,hY];exact congrArg List.length bC
  refine VS.bE rfl (by rw [beq_iff_eq];omega) ?_
  (repeat first|refine wN ?_|refine wP rfl ?_|refine bJ rfl ?_|refine bR rfl ?_|refine wO rfl rfl ?_)
  refine VS.ret (gj _ _) rfl rfl (fun wz kz bz=> ?_)
  exact ⟨.inl ⟨hY,_,_,rfl,aC.zero _ _,aC.zero _ _⟩,bz⟩
 ·have hY0:Y.natAbs≠0:=by omega
  have lH:n2≠0:=by rw [h2.n];intro e;exact hY0 (nM e)
  refine VS.bu rfl (by rw [beq_eq_false_iff_ne];omega) ?_
  (repeat first|refine wN ?_|refine wP rfl ?_|refine bJ rfl ?_|refine bR rfl ?_|refine wO rfl rfl ?_)
  refine VO.call rfl rfl (fk Tryz.func101) (fun gv gY gV=>(kS _ n1 X.natAbs gv (h1.row.jF (gu.aJ ((aE.of bm).aJ gY))) (by rw [h1.n];omega)).mono ?_)
  rintro e w3 ⟨p3,c3,rfl,h3,cD⟩
  skip
  refine ⟨_,rfl,cD,fun kt _ bb3=>wV rfl ?_⟩
  (repeat first|refine wN ?_|refine wP rfl ?_|refine bJ rfl ?_|refine bR rfl ?_|refine wO rfl rfl ?_)
  refine VO.call rfl rfl (fk Tryz.func101) (fun nj qa qF=>(kS _ n2 Y.natAbs nj (h2.row.jF (gY.aJ ((aE.of cD).aJ qa))) (by rw [h2.n];omega)).mono ?_)
  rintro e w4 ⟨p4,c4,rfl,h4,gU⟩
  skip
  refine ⟨_,rfl,gU,fun pd _ AZ=>wV rfl ?_⟩
  (repeat first|refine wN ?_|refine wP rfl ?_|refine bJ rfl ?_|refine bR rfl ?_|refine wO rfl rfl ?_)
  refine VO.call rfl rfl (fk Tryz.func119) (fun kg mG ku=>(xk _ _ _ _ X.natAbs Y.natAbs kg (Rd.own (ym.kp h3 (qa.aJ ((aE.of gU).aJ mG)))) (Rd.own (ym.kp h4 mG)) (by omega) (by omega) (by omega)).mono ?_)
  rintro e w5 ⟨p5,c5,q5,d5,rfl,h5,h5',gi⟩
  skip
  refine ⟨_,rfl,gi,fun nk _ xf=>wV rfl ?_⟩
  (repeat first|refine wN ?_|refine wP rfl ?_|refine bJ rfl ?_|refine bR rfl ?_|refine wO rfl rfl ?_)
  have l5:(halves (X.natAbs / Y.natAbs)).length≤(halves X.natAbs).length:=div_len
  have l5':(halves (X.natAbs % Y.natAbs)).length≤(halves X.natAbs).length:=mod_len
  refine VO.call rfl rfl (fk Tryz.func99) (fun pK ux tw=>(qH _ _ (X.natAbs / Y.natAbs) pK (Rd.own (ym.kp h5 ux)) (by omega)).mono ?_)
  rintro e w6 ⟨p6,c6,xs6,rfl,h6,hx6,hl6,mX⟩
  skip
  refine ⟨_,rfl,mX,fun tx _ CR=>wV rfl ?_⟩
  (repeat first|refine wN ?_|refine wP rfl ?_|refine bJ rfl ?_|refine bR rfl ?_|refine wO rfl rfl ?_)
  refine VO.call rfl rfl (fk Tryz.func92) (fun yn DX xX=>(ji (!(s1 == s2)) _ _ xs6 yn (Rd.own (OwnU.jF h6 DX)) hl6 (by omega)).mono ?_)
  rintro e w7 ⟨r7,rfl,h7,uO⟩
  obtain ⟨s7,p7,n7,c7,rfl⟩:=h7.form
  refine ⟨_,rfl,uO,fun zj _ bb7=>wV rfl ?_⟩
  (repeat first|refine wN ?_|refine wP rfl ?_|refine bJ rfl ?_|refine bR rfl ?_|refine wO rfl rfl ?_)
  refine VO.call rfl rfl (fk Tryz.func99) (fun uQ Fg zl=>(qH _ _ (X.natAbs % Y.natAbs) uQ (Rd.own (ym.kp h5' (ux.aJ ((aE.of mX).aJ (DX.aJ ((aE.of uO).aJ Fg)))))) (by omega)).mono ?_)
  rintro e w8 ⟨p8,c8,xs8,rfl,h8,hx8,hl8,qU⟩
  skip
  refine ⟨_,rfl,qU,fun vH _ JL=>wV rfl ?_⟩
  (repeat first|refine wN ?_|refine wP rfl ?_|refine bJ rfl ?_|refine bR rfl ?_|refine wO rfl rfl ?_)
  refine VO.call rfl rfl (fk Tryz.func92) (fun wa9 ka9 ba9=>(ji s1 _ _ xs8 wa9 (Rd.own (OwnU.jF h8 ka9)) hl8 (by omega)).mono ?_)
  rintro e w9 ⟨r9,rfl,h9,Gf⟩
  obtain ⟨s9,p9,n9,c9,rfl⟩:=h9.form
  refine ⟨_,rfl,Gf,fun Ba _ bb9=>wV rfl ?_⟩
  (repeat first|refine wN ?_|refine wP rfl ?_|refine bJ rfl ?_|refine bR rfl ?_|refine wO rfl rfl ?_)
  have z7:Sz (if (!(s1 == s2))=true then -((aq xs6:Nat):Int) else aq xs6) xs6.length:=GJ hl6 hx6
  have z9:Sz (if s1=true then -((aq xs8:Nat):Int) else aq xs8) xs8.length:=GJ hl8 hx8
  have lx6:xs6.length≤268435457:=by have:=h6.1;simp at this;omega
  have lx8:xs8.length≤268435457:=by have:=h8.1;simp at this;omega
  rw [hx6] at h7 z7
  rw [hx8] at h9 z9
  have law:=@pc X Y X.natAbs Y.natAbs
  by_cases xZ:X.natAbs % Y.natAbs=0
  ·have s0:(if s1=true then -((X.natAbs % Y.natAbs:Nat):Int) else ((X.natAbs % Y.natAbs:Nat):Int))=0:=by rw [xZ];cases s1 <;> rfl
   rw [s0] at h9 z9
   refine VO.call rfl rfl (fk Tryz.func89) (fun tz xl Fh=>(cT _ 0 _ tz ((h9.jF xl).in z9) (by omega)).mono ?_)
   rintro e w10 ⟨rfl,tA⟩
   skip
   refine ⟨_,rfl,tA,fun iE _ II=>wV rfl ?_⟩
   (repeat (first | refine wN ?_ | refine wP rfl ?_ | refine bJ rfl ?_ | refine wO rfl rfl ?_))
   refine VS.Ct (gj _ _) (jM _ _) 5 rfl ?_
   (repeat' (first | refine VA.go rfl ?_ | refine VA.fin rfl ?_ | refine VA.eh _ rfl rfl ?_ | refine VA.cons rfl ?_ ?_ | exact VA.nil rfl))
   all_goals
    (repeat first|refine wN ?_|refine wP rfl ?_|refine bJ rfl ?_|refine bR rfl ?_|refine wO rfl rfl ?_)
    refine VS.ret (gj _ _) rfl rfl (fun wz kz bz=> ?_)
    obtain ⟨g1,g2⟩:=law e1 e2 hY0 (.inl ⟨.inr xZ,rfl,rfl⟩)
    refine ⟨.inr ⟨hY,_,_,rfl,aC.cast ((h7.jF (vH.aJ (Ba.aJ (iE.aJ kz)))).mono xX.size) g1.symm,aC.cast ((h9.jF (iE.aJ kz)).mono ba9.size) ?_⟩,bz⟩
    rw [g2,xZ]
    cases s2 <;> rfl
  ·have sy:=GI (s:=s2) hY0
   rw [←e2] at sy
   have sr:=GI (s:=s1) xZ
   rcases hs12:(s1,s2) with ⟨_ | _,_ | _⟩ <;> cases hs12
   ·replace sr:(if false=true then -((X.natAbs % Y.natAbs:Nat):Int) else ((X.natAbs % Y.natAbs:Nat):Int)).sign=1:=sr
    replace sy:Y.sign=1:=sy
    refine VO.call rfl rfl (fk Tryz.func89) (fun tz xl Fh=>(cT _ _ _ tz ((h9.jF xl).in z9) (by omega)).mono ?_)
    rintro e w10 ⟨rfl,tA⟩
    rw [sr]
    refine ⟨_,rfl,tA,fun iE _ II=>wV rfl ?_⟩
    (repeat first|refine wN ?_|refine wP rfl ?_|refine bJ rfl ?_|refine bR rfl ?_|refine wO rfl rfl ?_)
    refine VO.call rfl rfl (fk Tryz.func89) (fun xm Ah IJ=>(cT _ _ _ xm ((h9.jF (iE.aJ Ah)).in z9) (by omega)).mono ?_)
    rintro e w11 ⟨rfl,xn⟩
    rw [sr]
    refine ⟨_,rfl,xn,fun lz _ LH=>wV rfl ?_⟩
    (repeat first|refine wN ?_|refine wP rfl ?_|refine bJ rfl ?_|refine bR rfl ?_|refine wO rfl rfl ?_)
    refine VO.call rfl rfl (fk Tryz.func89) (fun xo Ai IK=>(cT _ Y k xo ((h2.jF (kt.aJ (pd.aJ (nk.aJ (tx.aJ (zj.aJ (vH.aJ (Ba.aJ (iE.aJ (lz.aJ Ai)))))))))).to nL) (by omega)).mono ?_)
    rintro e w12 ⟨rfl,xp⟩
    rw [sy]
    refine ⟨_,rfl,xp,fun oC _ LI=>wV rfl ?_⟩
    (repeat (first | refine wN ?_ | refine wP rfl ?_ | refine bJ rfl ?_ | refine wO rfl rfl ?_))
    refine VS.Ct (gj _ _) (jM _ _) 5 rfl ?_
    (repeat' (first | refine VA.go rfl ?_ | refine VA.fin rfl ?_ | refine VA.eh _ rfl rfl ?_ | refine VA.cons rfl ?_ ?_ | exact VA.nil rfl))
    all_goals
     (repeat first|refine wN ?_|refine wP rfl ?_|refine bJ rfl ?_|refine bR rfl ?_|refine wO rfl rfl ?_)
     refine VS.ret (gj _ _) rfl rfl (fun wz kz bz=> ?_)
     obtain ⟨g1,g2⟩:=law e1 e2 hY0 (.inl ⟨.inl rfl,rfl,rfl⟩)
     exact ⟨.inr ⟨hY,_,_,rfl,aC.cast ((h7.jF (vH.aJ (Ba.aJ (iE.aJ (lz.aJ (oC.aJ kz)))))).mono xX.size) g1.symm,aC.cast ((h9.jF (iE.aJ (lz.aJ (oC.aJ kz)))).mono ba9.size) g2.symm⟩,bz⟩
   ·replace sr:(if false=true then -((X.natAbs % Y.natAbs:Nat):Int) else ((X.natAbs % Y.natAbs:Nat):Int)).sign=1:=sr
    replace sy:Y.sign= -1:=sy
    refine VO.call rfl rfl (fk Tryz.func89) (fun tz xl Fh=>(cT _ _ _ tz ((h9.jF xl).in z9) (by omega)).mono ?_)
    rintro e w10 ⟨rfl,tA⟩
    rw [sr]
    refine ⟨_,rfl,tA,fun iE _ II=>wV rfl ?_⟩
    (repeat first|refine wN ?_|refine wP rfl ?_|refine bJ rfl ?_|refine bR rfl ?_|refine wO rfl rfl ?_)
    refine VO.call rfl rfl (fk Tryz.func89) (fun xm Ah IJ=>(cT _ _ _ xm ((h9.jF (iE.aJ Ah)).in z9) (by omega)).mono ?_)
    rintro e w11 ⟨rfl,xn⟩
    rw [sr]
    refine ⟨_,rfl,xn,fun lz _ LH=>wV rfl ?_⟩
    (repeat first|refine wN ?_|refine wP rfl ?_|refine bJ rfl ?_|refine bR rfl ?_|refine wO rfl rfl ?_)
    refine VO.call rfl rfl (fk Tryz.func89) (fun xo Ai IK=>(cT _ Y k xo ((h2.jF (kt.aJ (pd.aJ (nk.aJ (tx.aJ (zj.aJ (vH.aJ (Ba.aJ (iE.aJ (lz.aJ Ai)))))))))).to nL) (by omega)).mono ?_)
    rintro e w12 ⟨rfl,xp⟩
    rw [sy]
    refine ⟨_,rfl,xp,fun oC _ LI=>wV rfl ?_⟩
    (repeat first|refine wN ?_|refine wP rfl ?_|refine bJ rfl ?_|refine bR rfl ?_|refine wO rfl rfl ?_)
    refine VO.call rfl rfl (fk Tryz.func59) (fun Fi ka13 IL=>(pe 1 Fi (by omega) (by omega)).mono ?_)
    rintro e nD ⟨r13,rfl,h13,Fj⟩
    obtain ⟨s13,p13,n13,c13,rfl⟩:=h13.form
    refine ⟨_,rfl,Fj,fun xq _ bb13=>wV rfl ?_⟩
    (repeat first|refine wN ?_|refine wP rfl ?_|refine bJ rfl ?_|refine bR rfl ?_|refine wO rfl rfl ?_)
    refine VO.call rfl rfl (fk Tryz.func120) (fun LJ IM ba14=>(CL _ _ _ 1 _ 1 LJ (((h7.jF (vH.aJ (Ba.aJ (iE.aJ (lz.aJ (oC.aJ (xq.aJ IM))))))).in z7)) ((h13.jF IM).in (Sz.small (by decide))) (by omega) (by omega)).mono ?_)
    rintro e Fk ⟨r14,rfl,h14,LK⟩
    obtain ⟨s14,p14,n14,c14,rfl⟩:=h14.form
    refine ⟨_,rfl,LK,fun IP _ bb14=>wV rfl ?_⟩
    (repeat first|refine wN ?_|refine wP rfl ?_|refine bJ rfl ?_|refine bR rfl ?_|refine wO rfl rfl ?_)
    refine VO.call rfl rfl (fk Tryz.func62) (fun LL IQ IU=>(xe _ _ _ Y _ k LL ((h9.jF (iE.aJ (lz.aJ (oC.aJ (xq.aJ (IP.aJ IQ)))))).in z9) ((h2.jF (kt.aJ (pd.aJ (nk.aJ (tx.aJ (zj.aJ (vH.aJ (Ba.aJ (iE.aJ (lz.aJ (oC.aJ (xq.aJ (IP.aJ IQ))))))))))))).to nL) (by omega) (by omega)).mono ?_)
    rintro e w15 ⟨r15,rfl,h15,LM⟩
    obtain ⟨s15,p15,n15,c15,rfl⟩:=h15.form
    refine ⟨_,rfl,LM,fun kb15 _ bb15=>wV rfl ?_⟩
    (repeat (first | refine wN ?_ | refine wP rfl ?_ | refine bJ rfl ?_ | refine wO rfl rfl ?_))
    refine VS.Ct (gj _ _) (jM _ _) 5 rfl ?_
    (repeat' (first | refine VA.go rfl ?_ | refine VA.fin rfl ?_ | refine VA.eh _ rfl rfl ?_ | refine VA.cons rfl ?_ ?_ | exact VA.nil rfl))
    all_goals
     (repeat first|refine wN ?_|refine wP rfl ?_|refine bJ rfl ?_|refine bR rfl ?_|refine wO rfl rfl ?_)
     refine VS.ret (gj _ _) rfl rfl (fun wz kz bz=> ?_)
     have hlt:=Nat.mod_lt X.natAbs (show 0 < Y.natAbs by omega)
     obtain ⟨g1,g2⟩:=law e1 e2 hY0 (.inr ⟨by simp,xZ,rfl,rfl⟩)
     refine ⟨.inr ⟨hY,_,_,rfl,aC.cast ((h14.jF (kb15.aJ kz)).mono ba14.size) ?_,aC.cast ((h15.jF kz).mono IU.size) ?_⟩,bz⟩
     ·rw [g1];simp;omega
     ·rw [g2];simp at e1 e2 ⊢;omega
   ·replace sr:(if true=true then -((X.natAbs % Y.natAbs:Nat):Int) else ((X.natAbs % Y.natAbs:Nat):Int)).sign= -1:=sr
    replace sy:Y.sign=1:=sy
    refine VO.call rfl rfl (fk Tryz.func89) (fun tz xl Fh=>(cT _ _ _ tz ((h9.jF xl).in z9) (by omega)).mono ?_)
    rintro e w10 ⟨rfl,tA⟩
    rw [sr]
    refine ⟨_,rfl,tA,fun iE _ II=>wV rfl ?_⟩
    (repeat first|refine wN ?_|refine wP rfl ?_|refine bJ rfl ?_|refine bR rfl ?_|refine wO rfl rfl ?_)
    refine VO.call rfl rfl (fk Tryz.func89) (fun xm Ah IJ=>(cT _ _ _ xm ((h9.jF (iE.aJ Ah)).in z9) (by omega)).mono ?_)
    rintro e w11 ⟨rfl,xn⟩
    rw [sr]
    refine ⟨_,rfl,xn,fun lz _ LH=>wV rfl ?_⟩
    (repeat first|refine wN ?_|refine wP rfl ?_|refine bJ rfl ?_|refine bR rfl ?_|refine wO rfl rfl ?_)
    refine VO.call rfl rfl (fk Tryz.func89) (fun xo Ai IK=>(cT _ Y k xo ((h2.jF (kt.aJ (pd.aJ (nk.aJ (tx.aJ (zj.aJ (vH.aJ (Ba.aJ (iE.aJ (lz.aJ Ai)))))))))).to nL) (by omega)).mono ?_)
    rintro e w12 ⟨rfl,xp⟩
    rw [sy]
    refine ⟨_,rfl,xp,fun oC _ LI=>wV rfl ?_⟩
    (repeat first|refine wN ?_|refine wP rfl ?_|refine bJ rfl ?_|refine bR rfl ?_|refine wO rfl rfl ?_)
    refine VO.call rfl rfl (fk Tryz.func59) (fun Fi ka13 IL=>(pe 1 Fi (by omega) (by omega)).mono ?_)
    rintro e nD ⟨r13,rfl,h13,Fj⟩
    obtain ⟨s13,p13,n13,c13,rfl⟩:=h13.form
    refine ⟨_,rfl,Fj,fun xq _ bb13=>wV rfl ?_⟩
    (repeat first|refine wN ?_|refine wP rfl ?_|refine bJ rfl ?_|refine bR rfl ?_|refine wO rfl rfl ?_)
    refine VO.call rfl rfl (fk Tryz.func120) (fun LJ IM ba14=>(CL _ _ _ 1 _ 1 LJ (((h7.jF (vH.aJ (Ba.aJ (iE.aJ (lz.aJ (oC.aJ (xq.aJ IM))))))).in z7)) ((h13.jF IM).in (Sz.small (by decide))) (by omega) (by omega)).mono ?_)
    rintro e Fk ⟨r14,rfl,h14,LK⟩
    obtain ⟨s14,p14,n14,c14,rfl⟩:=h14.form
    refine ⟨_,rfl,LK,fun IP _ bb14=>wV rfl ?_⟩
    (repeat first|refine wN ?_|refine wP rfl ?_|refine bJ rfl ?_|refine bR rfl ?_|refine wO rfl rfl ?_)
    refine VO.call rfl rfl (fk Tryz.func62) (fun LL IQ IU=>(xe _ _ _ Y _ k LL ((h9.jF (iE.aJ (lz.aJ (oC.aJ (xq.aJ (IP.aJ IQ)))))).in z9) ((h2.jF (kt.aJ (pd.aJ (nk.aJ (tx.aJ (zj.aJ (vH.aJ (Ba.aJ (iE.aJ (lz.aJ (oC.aJ (xq.aJ (IP.aJ IQ))))))))))))).to nL) (by omega) (by omega)).mono ?_)
    rintro e w15 ⟨r15,rfl,h15,LM⟩
    obtain ⟨s15,p15,n15,c15,rfl⟩:=h15.form
    refine ⟨_,rfl,LM,fun kb15 _ bb15=>wV rfl ?_⟩
    (repeat (first | refine wN ?_ | refine wP rfl ?_ | refine bJ rfl ?_ | refine wO rfl rfl ?_))
    refine VS.Ct (gj _ _) (jM _ _) 5 rfl ?_
    (repeat' (first | refine VA.go rfl ?_ | refine VA.fin rfl ?_ | refine VA.eh _ rfl rfl ?_ | refine VA.cons rfl ?_ ?_ | exact VA.nil rfl))
    all_goals
     (repeat first|refine wN ?_|refine wP rfl ?_|refine bJ rfl ?_|refine bR rfl ?_|refine wO rfl rfl ?_)
     refine VS.ret (gj _ _) rfl rfl (fun wz kz bz=> ?_)
     have hlt:=Nat.mod_lt X.natAbs (show 0 < Y.natAbs by omega)
     obtain ⟨g1,g2⟩:=law e1 e2 hY0 (.inr ⟨by simp,xZ,rfl,rfl⟩)
     refine ⟨.inr ⟨hY,_,_,rfl,aC.cast ((h14.jF (kb15.aJ kz)).mono ba14.size) ?_,aC.cast ((h15.jF kz).mono IU.size) ?_⟩,bz⟩
     ·rw [g1];simp;omega
     ·rw [g2];simp at e1 e2 ⊢;omega
   ·replace sr:(if true=true then -((X.natAbs % Y.natAbs:Nat):Int) else ((X.natAbs % Y.natAbs:Nat):Int)).sign= -1:=sr
    replace sy:Y.sign= -1:=sy
    refine VO.call rfl rfl (fk Tryz.func89) (fun tz xl Fh=>(cT _ _ _ tz ((h9.jF xl).in z9) (by omega)).mono ?_)
    rintro e w10 ⟨rfl,tA⟩
    rw [sr]
    refine ⟨_,rfl,tA,fun iE _ II=>wV rfl ?_⟩
    (repeat first|refine wN ?_|refine wP rfl ?_|refine bJ rfl ?_|refine bR rfl ?_|refine wO rfl rfl ?_)
    refine VO.call rfl rfl (fk Tryz.func89) (fun xm Ah IJ=>(cT _ _ _ xm ((h9.jF (iE.aJ Ah)).in z9) (by omega)).mono ?_)
    rintro e w11 ⟨rfl,xn⟩
    rw [sr]
    refine ⟨_,rfl,xn,fun lz _ LH=>wV rfl ?_⟩
    (repeat first|refine wN ?_|refine wP rfl ?_|refine bJ rfl ?_|refine bR rfl ?_|refine wO rfl rfl ?_)
    refine VO.call rfl rfl (fk Tryz.func89) (fun xo Ai IK=>(cT _ Y k xo ((h2.jF (kt.aJ (pd.aJ (nk.aJ (tx.aJ (zj.aJ (vH.aJ (Ba.aJ (iE.aJ (lz.aJ Ai)))))))))).to nL) (by omega)).mono ?_)
    rintro e w12 ⟨rfl,xp⟩
    rw [sy]
    refine ⟨_,rfl,xp,fun oC _ LI=>wV rfl ?_⟩
    (repeat (first | refine wN ?_ | refine wP rfl ?_ | refine bJ rfl ?_ | refine wO rfl rfl ?_))
    refine VS.Ct (gj _ _) (jM _ _) 5 rfl ?_
    (repeat' (first | refine VA.go rfl ?_ | refine VA.fin rfl ?_ | refine VA.eh _ rfl rfl ?_ | refine VA.cons rfl ?_ ?_ | exact VA.nil rfl))
    all_goals
     (repeat first|refine wN ?_|refine wP rfl ?_|refine bJ rfl ?_|refine bR rfl ?_|refine wO rfl rfl ?_)
     refine VS.ret (gj _ _) rfl rfl (fun wz kz bz=> ?_)
     obtain ⟨g1,g2⟩:=law e1 e2 hY0 (.inl ⟨.inl rfl,rfl,rfl⟩)
     exact ⟨.inr ⟨hY,_,_,rfl,aC.cast ((h7.jF (vH.aJ (Ba.aJ (iE.aJ (lz.aJ (oC.aJ kz)))))).mono xX.size) g1.symm,aC.cast ((h9.jF (iE.aJ (lz.aJ (oC.aJ kz)))).mono ba9.size) g2.symm⟩,bz⟩
end Go.Proofs.YtabalinjfgcfeaaGreat
set_option maxRecDepth 4000
namespace Go.Proofs.YtabalinjfgcfeaaGreat
open Go.RowKit
attribute [local irreducible] aB VS
theorem gcd_len {a b N:Nat} (hb:b≠0) (ha:(halves a).length≤N) (hbl:(halves b).length≤N):(halves (a % b)).length≤N:=Nat.le_trans (de (by omega) (Nat.le_of_lt (Nat.mod_lt a (Nat.pos_of_ne_zero hb)))) hbl
set_option maxHeartbeats 1000000 in
theorem CS (v u:Value) (X Y:Int) (j k:Nat) (w:World) (hv:bP w v X j) (hu:bP w u Y k) (hj:j≤268435456) (hk:k≤268435456):
  Calls Tryz.prog 94 #[v,u] w fun e w'=>∃ r,e=.returned r∧aC w' w.heap.size r (Int.gcd X Y:Int)∧aj w w':=by
 obtain ⟨s,p,n,c,rfl⟩:=hv.form
 obtain ⟨t,q,m,d,rfl⟩:=hu.form
 have sL:=hv.len
 have nL:=hu.len
 have l1:=kQ X.natAbs
 have l2:=kQ Y.natAbs
 refine aw (C:=Gv Tryz.prog w _) (args:=[_,_]) Tryz.func94 rfl Tryz.ntmps94 (Nat.le_of_ble_eq_true rfl) ?_
 (repeat first|refine wN ?_|refine wP rfl ?_|refine bJ rfl ?_|refine bR rfl ?_|refine wO rfl rfl ?_)
 refine VO.call rfl rfl (fk Tryz.func96) (fun cC er dv=>(kN _ X j cC (hv.jF er)).mono ?_)
 rintro e w1 ⟨r1,rfl,h1,aV⟩
 obtain ⟨s1,p1,n1,c1,rfl⟩:=h1.ij
 refine ⟨_,rfl,aV,fun fe _ bb1=>wV rfl ?_⟩
 (repeat first|refine wN ?_|refine wP rfl ?_|refine bJ rfl ?_|refine bR rfl ?_|refine wO rfl rfl ?_)
 refine VO.call rfl rfl (fk Tryz.func101) (fun gv gY gV=>(kS _ n1 X.natAbs gv (h1.row.jF gY) (by rw [h1.n];omega)).mono ?_)
 rintro e w3 ⟨p3,c3,rfl,h3,cD⟩
 skip
 refine ⟨_,rfl,cD,fun kt _ bb3=>wV rfl ?_⟩
 (repeat first|refine wN ?_|refine wP rfl ?_|refine bJ rfl ?_|refine bR rfl ?_|refine wO rfl rfl ?_)
 refine VO.call rfl rfl (fk Tryz.func96) (fun dC gu eu=>(kN _ Y k dC (hu.jF (fe.aJ (kt.aJ gu)))).mono ?_)
 rintro e w2 ⟨r2,rfl,h2,bm⟩
 obtain ⟨s2,p2,n2,c2,rfl⟩:=h2.ij
 refine ⟨_,rfl,bm,fun fZ _ bb2=>wV rfl ?_⟩
 (repeat first|refine wN ?_|refine wP rfl ?_|refine bJ rfl ?_|refine bR rfl ?_|refine wO rfl rfl ?_)
 refine VO.call rfl rfl (fk Tryz.func101) (fun nj qa qF=>(kS _ n2 Y.natAbs nj (h2.row.jF qa) (by rw [h2.n];omega)).mono ?_)
 rintro e w4 ⟨p4,c4,rfl,h4,gU⟩
 skip
 refine ⟨_,rfl,gU,fun pd _ AZ=>wV rfl ?_⟩
 (repeat first|refine wN ?_|refine wP rfl ?_|refine bJ rfl ?_|refine bR rfl ?_|refine wO rfl rfl ?_)
 refine VS.loop (J:=fun ms L M w'=>∃ (a b:Nat) (px:Option Addr) (cx:Nat) (py:Option Addr) (cy:Nat),ms=b∧Nat.gcd a b=Int.gcd X Y∧L=[(4,.box 4 0),(5,.val (.slice px (halves a).length cx)),(6,.val (.slice py (halves b).length cy))]∧M=[(4,(53,([.bool false,.slice none 0 0]:List Value).map .val))]∧
  (halves a).length≤536870912∧(halves b).length≤536870912∧w'.ownsRow w.heap.size 3 1 (.slice px (halves a).length cx) (halves a).length (ints .i64 (halves a))∧w'.ownsRow w.heap.size 3 1 (.slice py (halves b).length cy) (halves b).length (ints .i64 (halves b))) Y.natAbs
  ⟨_,_,?_,?_,?_,?_,⟨X.natAbs,Y.natAbs,p3,c3,p4,c4,rfl,rfl,rfl,rfl,by omega,by omega,ym.kp (Own.mono h3 gV.size) (fZ.aJ pd),Own.mono h4 qF.size⟩⟩ ?_
 ·(repeat first|exact trivial|refine ⟨rfl,?_⟩)
 ·(repeat first|exact trivial|refine ⟨rfl,?_⟩)
 ·rfl
 ·(repeat first|exact trivial|refine ⟨aF.lit rfl,?_⟩|refine ⟨aF.vals _,?_⟩)
 rintro ms L M w' ⟨a,b,px,cx,py,cy,hms,hg,rfl,rfl,la,lb,oa,ob⟩
 (repeat first|refine wN ?_|refine wP rfl ?_|refine bJ rfl ?_|refine bR rfl ?_|refine wO rfl rfl ?_)
 by_cases oO:b=0
 ·subst oO
  have xV:(halves 0).length=0:=by rw [kM];rfl
  refine VS.bu rfl (decide_eq_false (by rw [xV];omega)) ?_
  (repeat first|refine wN ?_|refine wP rfl ?_|refine bJ rfl ?_|refine bR rfl ?_|refine wO rfl rfl ?_)
  refine VO.call rfl rfl (fk Tryz.func99) (fun pK ux tw=>(qH _ _ a pK (Rd.own (ym.kp oa ux)) (by omega)).mono ?_)
  rintro e w6 ⟨p6,c6,xs6,rfl,h6,hx6,hl6,mX⟩
  skip
  refine ⟨_,rfl,mX,fun tx _ CR=>wV rfl ?_⟩
  (repeat first|refine wN ?_|refine wP rfl ?_|refine bJ rfl ?_|refine bR rfl ?_|refine wO rfl rfl ?_)
  refine VO.call rfl rfl (fk Tryz.func92) (fun yn DX xX=>(ji false _ _ xs6 yn (Rd.own (OwnU.jF h6 DX)) hl6 (by omega)).mono ?_)
  rintro e w7 ⟨r7,rfl,h7,uO⟩
  obtain ⟨s7,p7,n7,c7,rfl⟩:=h7.form
  refine ⟨_,rfl,uO,fun zj _ bb7=>wV rfl ?_⟩
  (repeat first|refine wN ?_|refine wP rfl ?_|refine bJ rfl ?_|refine bR rfl ?_|refine wO rfl rfl ?_)
  refine VS.ret (gj _ _) rfl rfl (fun wz kz bz=> ?_)
  refine ⟨_,rfl,aC.cast ((h7.jF kz).mono xX.size) ?_,bz⟩
  rw [hx6,←hg,Nat.gcd_zero_right];rfl
 ·have hlp:0 < (halves b).length:=mU (by omega) oO
  refine VS.bE rfl (decide_eq_true (by omega)) ?_
  (repeat first|refine wN ?_|refine wP rfl ?_|refine bJ rfl ?_|refine bR rfl ?_|refine wO rfl rfl ?_)
  refine VO.call rfl rfl (fk Tryz.func119) (fun kg mG ku=>(xk _ _ _ _ a b kg (Rd.own (ym.kp oa mG)) (Rd.own (ym.kp ob mG)) (by omega) (by omega) (by omega)).mono ?_)
  rintro e w5 ⟨p5,c5,q5,d5,rfl,h5,h5',gi⟩
  skip
  refine ⟨_,rfl,gi,fun nk _ xf=>wV rfl ?_⟩
  (repeat first|refine wN ?_|refine wP rfl ?_|refine bJ rfl ?_|refine bR rfl ?_|refine wO rfl rfl ?_)
  refine VS.back (a % b) (by rw [hms];exact Nat.mod_lt _ (by omega)) ⟨_,_,?_,?_,?_,?_,⟨b,a % b,py,cy,q5,d5,rfl,by rw [←hg,Nat.gcd_comm a b,Nat.gcd_comm b (a % b)];exact (Nat.gcd_rec b a).symm,rfl,rfl,lb,gcd_len oO la lb,ym.kp ob nk,Own.mono h5' ku.size⟩⟩
  ·(repeat first|exact trivial|refine ⟨rfl,?_⟩)
  ·(repeat first|exact trivial|refine ⟨rfl,?_⟩)
  ·rfl
  ·(repeat first|exact trivial|refine ⟨aF.lit rfl,?_⟩|refine ⟨aF.vals _,?_⟩)
end Go.Proofs.YtabalinjfgcfeaaGreat
