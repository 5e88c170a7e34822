/- Be of the proof,laid behind one another. -/
import Derived.Test.YtabalinjfgcfeaaGreatKInterestConserves4
set_option linter.all false
set_option maxRecDepth 4000
namespace Go.Proofs.YtabalinjfgcfeaaGreat
open Go.RowKit
attribute [local irreducible] aB VS
theorem Ml {v off n c:Nat} {a y:AV} (h:aH a=true) (hy:aH y=true):[.row v off n c,a,y].all aH=true:=by
 rw [List.all_cons,List.all_cons,List.all_cons,h,hy];rfl
theorem xE {v off n c j:Nat} {a y:AV} (h:j∈ax [.row v off n c,a,y]):j=v∨j∈ax [a]∨j∈y.cL:=by
 obtain ⟨z,hz,hj⟩:=aQ.1 h
 simp only [List.mem_cons,List.not_mem_nil,or_false] at hz
 rcases hz with rfl | rfl | rfl
 ·exact .inl (by simpa [AV.cL] using hj)
 ·exact .inr (.inl (aQ.2 ⟨_,by simp,hj⟩))
 ·exact .inr (.inr hj)
theorem Az {C:Cx} {β bG:Nat→Nat} {H:Hp} {ids:List Nat} {del:Option Nat} {ups:List (Nat×(TypeId×List AV))} {ad:List Nat} {w w':World} (hb:qA ad w w') (had:∀ b∈ad,(∃ x∈ups,bG x.1=b)∨∃ i,del=some i∧β i=b) (Gk:∀ i,i∉ups.map (·.1)→bG i=β i) (gone:∀ i,del=some i→Reach H ids i∧H i≠none)
  (left:∀ i,del=some i→∃ t cs,aW w' (β i) t (List.toArray cs)∧C.K.fz t=false∧cs.all aU=true) (own:∀ x∈ups,lQ C bG w' x.1 x.2.1 x.2.2)
  (Ih:∀ x∈ups,(H x.1≠none∧del≠some x.1∧Reach H ids x.1∧bG x.1=β x.1)∨((H x.1=none∨del=some x.1)∧x.1 < 2 * C.N∧(w.heap.size≤bG x.1∨∃ i,del=some i∧bG x.1=β i)))
  (once:(ups.map (·.1)).Nodup) (tys:(ups.map (·.2.1)).Nodup) (closed:∀ x∈ups,∀ j∈ax x.2.2,j∈ups.map (·.1)∨(H j≠none∧del≠some j)):wE C β bG H ids del ups w w':=by
 refine ⟨hb.os,hb.tape,hb.output,hb.size,fun k hk hx iV _=>hb.nh k hk fun hm=> ?_,Gk,gone,fun i hi=>.inl (.inr (left i hi)),own,Ih,once,fun x hx y hy he=> ?_,closed⟩
 ·rcases had k hm with ⟨x,hx',e⟩ | ⟨i,hi,e⟩
  ·exact hx x hx' e.symm
  ·exact iV i hi e.symm
 ·have ht:x.2.1=y.2.1:=bo (own x hx).cls (he▸(own y hy).cls)
  obtain ⟨i,hi⟩:=List.mem_iff_getElem?.1 hx
  obtain ⟨j,hj⟩:=List.mem_iff_getElem?.1 hy
  have e1:(ups.map (·.2.1))[i]? =some x.2.1:=by rw [List.getElem?_map,hi];rfl
  have e2:(ups.map (·.2.1))[j]? =some x.2.1:=by rw [List.getElem?_map,hj,ht];rfl
  have:=(List.getElem?_inj (by rw [List.length_map];exact (List.getElem?_eq_some_iff.1 hi).1) tys).1 (e1.trans e2.symm)
  subst this
  rw [hi] at hj
  cases hj;rfl
theorem Ji (g y kk:Nat) (r u v:Value) (m:Rat) (w:World) (hg:aW w g Runner #[.slice none 0 0,r,u]) (hv:cQ w v m):
  Calls Tryz.prog 73 #[.pointer (some ⟨g,0,none⟩),.int .i64 (y:Int),v] w fun o w'=>∃ x,o=.returned x∧aK w' w.heap.size x 0∧aj w w':=by
 obtain ⟨s0,p0,n0,c0,t0,y0,m0,d0,rfl⟩:=hv.form
 refine aw (C:=cj Tryz.prog w _) (args:=[_,_,_]) Tryz.func73 rfl Tryz.ntmps73 (Nat.le_of_ble_eq_true rfl) ?_
 (repeat first|refine wN ?_|refine wP rfl ?_|refine aa rfl ?_|refine ab rfl ?_|refine wO rfl rfl ?_)
 refine VO.call rfl rfl (fk Tryz.func44) (fun cC er dv=>((bF 0 cC (by omega) (by omega)).mono (fun o w2 h=>And.intro h dv.size)).mono ?_)
 rintro o w1 ⟨⟨r9,rfl,q9,Gf⟩,Fx⟩
 obtain ⟨s9,p9,n9,c9,t9,y9,m9,d9,rfl⟩:=q9.form
 refine ⟨_,rfl,Gf,fun Ba _ bb9=>wV rfl ?_⟩
 (repeat first|refine wN ?_|refine wP rfl ?_|refine aa rfl ?_|refine ab rfl ?_|refine wO rfl rfl ?_)
 have q9':aK w1 w.heap.size (.agg #[.bool s9,.slice p9 n9 c9,.bool t9,.slice y9 m9 d9]) 0:=q9.mono Fx
 refine VO.call rfl rfl (fk Tryz.func75) (fun dC gu eu=>(uC g 0 none r u dC (hg.bj eu)).mono ?_)
 rintro e w2 ⟨rfl,bm⟩
 skip
 refine ⟨_,rfl,bm,fun fZ _ bb2=>wV rfl ?_⟩
 (repeat first|refine wN ?_|refine wP rfl ?_|refine aa rfl ?_|refine ab rfl ?_|refine wO rfl rfl ?_)
 refine VS.loop (J:=fun m L M w'=>L=[(1,.val (.int .i64 (y:Int))),(5,.box 5 0),(6,.box 6 0),(7,.box 7 0),(8,.val (.pointer none))]∧M=[(5,(26,([.bool s0,.slice p0 n0 c0,.bool t0,.slice y0 m0 d0]:List Value).map .val)),(6,(26,([.bool false,.slice none 0 0,.bool false,.slice none 0 0]:List Value).map .val)),(7,(26,([.bool s9,.slice p9 n9 c9,.bool t9,.slice y9 m9 d9]:List Value).map .val))]∧aK w' w.heap.size (.agg #[.bool s9,.slice p9 n9 c9,.bool t9,.slice y9 m9 d9]) 0) 0 ⟨_,_,?_,?_,?_,?_,⟨rfl,rfl,q9'.k⟩⟩ ?_
 ·(repeat first|exact trivial|refine ⟨rfl,?_⟩)
 ·(repeat first|exact trivial|refine ⟨rfl,?_⟩)
 ·rfl
 ·(repeat first|exact trivial|refine ⟨aF.lit rfl,?_⟩|refine ⟨aF.vals _,?_⟩)
 rintro m' L M w3 ⟨rfl,rfl,hr3⟩
 (repeat first|refine wN ?_|refine wP rfl ?_|refine aa rfl ?_|refine ab rfl ?_|refine wO rfl rfl ?_)
 refine VS.ret (aL _ _) rfl rfl (fun wz kz bz=> ?_)
 exact ⟨_,rfl,hr3.k,bz⟩
end Go.Proofs.YtabalinjfgcfeaaGreat
namespace Go.Proofs.YtabalinjfgcfeaaGreat
open Go.RowKit
section
variable {C:Cx} {F:Fr} {H:Hp} {w:World} {m:Option (List FuncId)} {full:Array Oper} {K:Fr→Hp→World→Prop} {o:Oper} {r:List Oper}
theorem VO.sm {B i y:Nat} {a u:AV} {val:Value} {mm:Rat} (kk:Nat) (hP:C.P=Tryz.prog) (e:stepOf C full F H o=.call (.fn 73 [.box i 0,.val (.int .i64 (y:Int)),.val val])) (hf:od C.P 73) (h1:H i=some (Runner,[.val (.slice none 0 0),a,u])) (hv:∀ w1,aE C.K w w1→C.Old w1→cQ w1 val mm) (hB:B≤C.w0.heap.size)
  (k:∀ w2 x,aE C.K w w2→C.Old w2→aK w2 B x 0→aB C m full r K (F.bD o.dst (.val x)) H w2):aB C m full (o::r) K F H w:=by
 refine VO.fI e hf fun w1 β a1 a2 a3=> ?_
 have o1:=a3.own i (.base (by simp [fy,AV.ids])) _ _ h1
 refine Calls.mono (show Calls C.P _ #[.pointer (some ⟨β i,0,none⟩),.int .i64 (y:Int),val] w1 _ from hP▸Ji (β i) y kk _ _ val mm w1 o1.cls (hv w1 a1 a2)) ?_
 rintro e w2 ⟨x,rfl,hx,hb⟩
 exact ⟨_,rfl,hb,fun b1 b2 b3=>k w2 x b1 b3 (hx.mono (Nat.le_trans hB (C.ey _ a2)))⟩
theorem VO.Di {B D i v d2 off n c y:Nat} {M mm:Rat} {a:AV} {pre spare:List Value} {vs:List (List Value)} {q:List Vq} {val:Value} (kk:Nat) (hP:C.P=Tryz.prog) (hK:C.K=KU UU)
  (e:stepOf C full F H o=.call (.fn 73 [.box i 0,.val (.int .i64 (y:Int)),.val val])) (hf:od C.P 73) (h1:H i=some (Runner,[.row v off n c,a,.val (.slice none 0 0)])) (h2:H v=some (cO,(pre++(vs.flatten++spare)).map .val)) (h3:H d2=none) (hd2:d2 < 2 * C.N) (hiv:i≠v) (haok:aH a=true) (Mn:∀ β:Nat→Nat,aU (a.leaf β)=true)
  (gr:∀ j∈ax [a],H j≠none) (hl:1≤lvl C.SU m o) (hO:∀ w1,aE C.K w w1→C.Old w1→cY (cH B) 5 w1 n off c pre vs spare q) (hv:∀ w1,aE C.K w w1→C.Old w1→cQ w1 val mm) (hmI:Iz D mm) (yp:0≤mm) (hmM:mm≤M) (hq:∀ p∈q,Iz D p.2∧0≤p.2∧p.2≤M)
  (hKs:∀ x,Iz D x→0≤x→x≤M→dV x kk) (hk:kk≤100000) (jv:q.length≤1000) (hB:B≤C.w0.heap.size)
  (k1:∀ w2 x aR n' c' bL gE ak,aE C.K w w2→C.Old w2→aK w2 B x (qW q mm)→nH y q mm=[]→cY (cH B) 5 w2 n' aR c' bL gE ak (kW q mm)→
   aB C m full r K (F.bD o.dst (.val x)) ((H.put i (Runner,[.row v aR n' c',a,.val (.slice none 0 0)])).put v (cO,(bL++(gE.flatten++ak)).map .val)) w2)
  (k2:∀ w2 x aR n' c' bL gE ak un uc oI qL,aE C.K w w2→C.Old w2→aK w2 B x (qW q mm)→cY (cH B) 5 w2 n' aR c' bL gE ak (kW q mm)→cY (np B) 6 w2 un 0 uc [] oI qL (nH y q mm)→
   aB C m full r K (F.bD o.dst (.val x)) (((H.put i (Runner,[.row v aR n' c',a,.row d2 0 un uc])).put v (cO,(bL++(gE.flatten++ak)).map .val)).put d2 (et,(oI.flatten++qL).map .val)) w2):aB C m full (o::r) K F H w:=by
 show one C m full o (aB C m full r K) F H w
 unfold one
 rw [e]
 intro w1 β a1 a2 a3
 have iD:Reach H (eg.fn 73 [.box i 0,.val (.int .i64 (y:Int)),.val val]).ids i:=.base (by simp [eg.ids,fy,AV.ids])
 have jw:Reach H (eg.fn 73 [.box i 0,.val (.int .i64 (y:Int)),.val val]).ids v:=.step iD h1 (by simp [ax,AV.cL])
 have o1:=a3.own i iD _ _ h1
 have o2:=a3.own v jw _ _ h2
 have gm:aW w1 (β v) cO (pre++(vs.flatten++spare)).toArray:=by have:=o2.cls;rw [ah] at this;exact this
 have hBw:B≤w1.heap.size:=Nat.le_trans hB (C.ey _ a2)
 have hne:∀ j,H j≠none→j≠d2:=fun j hj e=>hj (e▸h3)
 have hid:i≠d2:=hne i (by rw [h1];simp)
 have GO:v≠d2:=hne v (by rw [h2];simp)
 refine ⟨hf,Calls.mono (show Calls C.P _ #[.pointer (some ⟨β i,0,none⟩),.int .i64 (y:Int),val] w1 _ from hP▸Me B (β i) (β v) off n c y D kk M mm pre vs spare q (a.leaf β) val w1 o1.cls gm (hO w1 a1 a2) (Mn β) (hv w1 a1 a2) hmI yp hmM hq hKs hk jv hBw) ?_⟩
 rintro e w2 ⟨x,rfl,hx,hb,aR,n',c',bL,gE,ak,uv,JN,xR,gI,⟨rfl,Hm⟩ | ⟨b',un,uc,oI,qL,hbn,rfl,hu',tG⟩⟩
 ·refine ⟨β,.val x,none,[(i,(Runner,[.row v aR n' c',a,.val (.slice none 0 0)])),(v,(cO,(bL++(gE.flatten++ak)).map .val))],rfl,fun i hi=>(by cases hi),.inl hl,.inr rfl,?_,fun p1 _ p3 _ _=>k1 w2 x aR n' c' bL gE ak p1 p3 (hx.mono hBw) Hm gI⟩
  refine Az hb (fun b xR=> ?_) (fun _ _=>rfl) (fun i hi=>(by cases hi)) (fun i hi=>(by cases hi)) (fun x hx=> ?_) (fun x hx=> ?_) (by simpa using hiv) (by show [Runner,cO].Nodup;decide) (fun x hx j hj=> ?_)
  ·simp only [List.mem_cons,List.not_mem_nil,or_false] at xR
   rcases xR with rfl | rfl
   ·exact .inl ⟨_,List.mem_cons_self,rfl⟩
   ·exact .inl ⟨_,List.mem_cons_of_mem _ List.mem_cons_self,rfl⟩
  ·simp only [List.mem_cons,List.not_mem_nil,or_false] at hx
   rcases hx with rfl | rfl
   ·exact ⟨o1.new,o1.ty,JN,Ml haok rfl⟩
   ·exact ⟨o2.new,o2.ty,by rw [ah];exact xR,bb (gI.all (aM B))⟩
  ·simp only [List.mem_cons,List.not_mem_nil,or_false] at hx
   rcases hx with rfl | rfl
   ·exact .inl ⟨by rw [h1];simp,by simp,iD,rfl⟩
   ·exact .inl ⟨by rw [h2];simp,by simp,jw,rfl⟩
  ·simp only [List.mem_cons,List.not_mem_nil,or_false] at hx
   rcases hx with rfl | rfl
   ·rcases xE hj with h | h | h
    ·exact .inl (by simp [h])
    ·exact .inr ⟨gr j h,by simp⟩
    ·cases h
   ·rw [ao] at hj;cases hj
 ·let bG:Nat→Nat:=fun j=>if j=d2 then b' else β j
  have e2:bG d2=b':=if_pos rfl
  have e1:∀ j,j≠d2→bG j=β j:=fun j hj=>if_neg hj
  have hag:a.leaf bG=a.leaf β:=AV.mA fun j hj=>e1 j (hne j (gr j (aQ.2 ⟨a,by simp,hj⟩)))
  refine ⟨bG,.val x,none,[(i,(Runner,[.row v aR n' c',a,.row d2 0 un uc])),(v,(cO,(bL++(gE.flatten++ak)).map .val)),(d2,(et,(oI.flatten++qL).map .val))],rfl,fun i hi=>(by cases hi),.inl (by omega),.inr rfl,?_,fun p1 _ p3 ρ _=>k2 w2 x aR n' c' bL gE ak un uc oI qL p1 p3 (hx.mono hBw) gI tG⟩
  refine Az hb (fun b xR=> ?_) (fun j hj=>e1 j (fun h=>hj (by simp [h]))) (fun i hi=>(by cases hi)) (fun i hi=>(by cases hi)) (fun x hx=> ?_) (fun x hx=> ?_) (by simp [hiv,hid,GO]) (by show [Runner,cO,et].Nodup;decide) (fun x hx j hj=> ?_)
  ·simp only [List.mem_cons,List.not_mem_nil,or_false] at xR
   rcases xR with rfl | rfl
   ·exact .inl ⟨_,List.mem_cons_self,e1 i hid⟩
   ·exact .inl ⟨_,List.mem_cons_of_mem _ List.mem_cons_self,e1 v GO⟩
  ·simp only [List.mem_cons,List.not_mem_nil,or_false] at hx
   rcases hx with rfl | rfl | rfl
   ·refine ⟨by rw [e1 i hid];exact o1.new,o1.ty,?_,Ml haok rfl⟩
    rw [e1 i hid]
    show aW w2 (β i) Runner #[.slice (some ⟨bG v,aR,none⟩) n' c',a.leaf bG,.slice (some ⟨bG d2,0,none⟩) un uc]
    rw [e1 v GO,e2,hag]
    exact JN
   ·exact ⟨by rw [e1 v GO];exact o2.new,o2.ty,by rw [e1 v GO,ah];exact xR,bb (gI.all (aM B))⟩
   ·refine ⟨?_,by rw [hK];rfl,by rw [e2,ah];exact hu',bb (by have:=tG.all (dm B);exact this)⟩
    rw [e2]
    exact C.rE _ _ (by omega) (by have:=C.ey _ a2;omega)
  ·simp only [List.mem_cons,List.not_mem_nil,or_false] at hx
   rcases hx with rfl | rfl | rfl
   ·exact .inl ⟨by rw [h1];simp,by simp,iD,e1 i hid⟩
   ·exact .inl ⟨by rw [h2];simp,by simp,jw,e1 v GO⟩
   ·exact .inr ⟨.inl h3,hd2,.inl (by rw [e2];exact hbn)⟩
  ·simp only [List.mem_cons,List.not_mem_nil,or_false] at hx
   rcases hx with rfl | rfl | rfl
   ·rcases xE hj with h | h | h
    ·exact .inl (by simp [h])
    ·exact .inr ⟨gr j h,by simp⟩
    ·exact .inl (by have:j=d2:=by simpa [AV.cL] using h
                    simp [this])
   ·rw [ao] at hj;cases hj
   ·rw [ao] at hj;cases hj
theorem VO.Dj {B D i v d2 off n c y:Nat} {M mm:Rat} {a:AV} {pre spare:List Value} {vs:List (List Value)} {q:List Vq} {val:Value} {u yq Ax:Nat} {me:List (List Value)} {nt:List Value} {us0:List Uq} (kk:Nat) (hP:C.P=Tryz.prog) (hK:C.K=KU UU)
  (e:stepOf C full F H o=.call (.fn 73 [.box i 0,.val (.int .i64 (y:Int)),.val val])) (hf:od C.P 73) (h1:H i=some (Runner,[.row v off n c,a,.row u 0 yq Ax])) (h2:H v=some (cO,(pre++(vs.flatten++spare)).map .val)) (h4:H u=some (et,(me.flatten++nt).map .val)) (JO:∀ w1,aE C.K w w1→C.Old w1→cY (np B) 6 w1 yq 0 Ax [] me nt us0) (Ay:us0.length≤1000) (hiu:i≠u) (hvu:v≠u) (h3:H d2=none) (hd2:d2 < 2 * C.N) (hiv:i≠v) (haok:aH a=true) (Mn:∀ β:Nat→Nat,aU (a.leaf β)=true)
  (gr:∀ j∈ax [a],H j≠none∧j≠u) (hl:lvl C.SU m o=2) (hO:∀ w1,aE C.K w w1→C.Old w1→cY (cH B) 5 w1 n off c pre vs spare q) (hv:∀ w1,aE C.K w w1→C.Old w1→cQ w1 val mm) (hmI:Iz D mm) (yp:0≤mm) (hmM:mm≤M) (hq:∀ p∈q,Iz D p.2∧0≤p.2∧p.2≤M)
  (hKs:∀ x,Iz D x→0≤x→x≤M→dV x kk) (hk:kk≤100000) (jv:q.length≤1000) (hB:B≤C.w0.heap.size)
  (k2:∀ w2 x aR n' c' bL gE ak un uc oI qL ρ,aE C.K w w2→C.Old w2→aK w2 B x (qW q mm)→cY (cH B) 5 w2 n' aR c' bL gE ak (kW q mm)→cY (np B) 6 w2 un 0 uc [] oI qL (us0++nH y q mm)→
   aB C m full r K ((F.forget (some u) ρ).bD o.dst (.val x)) ((((H.forget (some u) ρ).put i (Runner,[.row v aR n' c',a,.row d2 0 un uc])).put v (cO,(bL++(gE.flatten++ak)).map .val)).put d2 (et,(oI.flatten++qL).map .val)) w2):aB C m full (o::r) K F H w:=by
 show one C m full o (aB C m full r K) F H w
 unfold one
 rw [e]
 intro w1 β a1 a2 a3
 have iD:Reach H (eg.fn 73 [.box i 0,.val (.int .i64 (y:Int)),.val val]).ids i:=.base (by simp [eg.ids,fy,AV.ids])
 have jw:Reach H (eg.fn 73 [.box i 0,.val (.int .i64 (y:Int)),.val val]).ids v:=.step iD h1 (by simp [ax,AV.cL])
 have o1:=a3.own i iD _ _ h1
 have o2:=a3.own v jw _ _ h2
 have gm:aW w1 (β v) cO (pre++(vs.flatten++spare)).toArray:=by have:=o2.cls;rw [ah] at this;exact this
 have hBw:B≤w1.heap.size:=Nat.le_trans hB (C.ey _ a2)
 have hne:∀ j,H j≠none→j≠d2:=fun j hj e=>hj (e▸h3)
 have hid:i≠d2:=hne i (by rw [h1];simp)
 have GO:v≠d2:=hne v (by rw [h2];simp)
 have hr4:Reach H (eg.fn 73 [.box i 0,.val (.int .i64 (y:Int)),.val val]).ids u:=.step iD h1 (by simp [ax,AV.cL])
 have o4:=a3.own u hr4 _ _ h4
 have uM:aW w1 (β u) et (me.flatten++nt).toArray:=by have:=o4.cls;rw [ah] at this;exact this
 have hud:u≠d2:=hne u (by rw [h4];simp)
 refine ⟨hf,Calls.mono (show Calls C.P _ #[.pointer (some ⟨β i,0,none⟩),.int .i64 (y:Int),val] w1 _ from hP▸Mk B (β i) (β v) off n c y D kk M mm pre vs spare q (a.leaf β) val (β u) yq Ax me nt us0 w1 o1.cls uM (JO w1 a1 a2) Ay gm (hO w1 a1 a2) (Mn β) (hv w1 a1 a2) hmI yp hmM hq hKs hk jv hBw) ?_⟩
 rintro e w2 ⟨x,rfl,hx,hb,⟨tl,cl,l1,l2,l3⟩,aR,n',c',bL,gE,ak,uv,JN,xR,gI,b',un,uc,oI,qL,hbn,rfl,hu',tG⟩
 ·let bG:Nat→Nat:=fun j=>if j=d2 then b' else β j
  have e2:bG d2=b':=if_pos rfl
  have e1:∀ j,j≠d2→bG j=β j:=fun j hj=>if_neg hj
  have hag:a.leaf bG=a.leaf β:=AV.mA fun j hj=>e1 j (hne j ((gr j (aQ.2 ⟨a,by simp,hj⟩)).1))
  refine ⟨bG,.val x,some u,[(i,(Runner,[.row v aR n' c',a,.row d2 0 un uc])),(v,(cO,(bL++(gE.flatten++ak)).map .val)),(d2,(et,(oI.flatten++qL).map .val))],rfl,fun i hi=>(by cases hi),.inl (by omega),.inl (by omega),?_,fun p1 _ p3 ρ _=>k2 w2 x aR n' c' bL gE ak un uc oI qL ρ p1 p3 (hx.mono hBw) gI tG⟩
  refine Az hb (fun b xR=> ?_) (fun j hj=>e1 j (fun h=>hj (by simp [h]))) (fun j hj=>by cases hj;exact ⟨hr4,by rw [h4];simp⟩) (fun j hj=>by cases hj;exact ⟨tl,cl,l1,by rw [hK];exact l2,l3⟩) (fun x hx=> ?_) (fun x hx=> ?_) (by simp [hiv,hid,GO]) (by show [Runner,cO,et].Nodup;decide) (fun x hx j hj=> ?_)
  ·simp only [List.mem_cons,List.not_mem_nil,or_false] at xR
   rcases xR with rfl | rfl | rfl
   ·exact .inl ⟨_,List.mem_cons_self,e1 i hid⟩
   ·exact .inl ⟨_,List.mem_cons_of_mem _ List.mem_cons_self,e1 v GO⟩
   ·exact .inr ⟨u,rfl,rfl⟩
  ·simp only [List.mem_cons,List.not_mem_nil,or_false] at hx
   rcases hx with rfl | rfl | rfl
   ·refine ⟨by rw [e1 i hid];exact o1.new,o1.ty,?_,Ml haok rfl⟩
    rw [e1 i hid]
    show aW w2 (β i) Runner #[.slice (some ⟨bG v,aR,none⟩) n' c',a.leaf bG,.slice (some ⟨bG d2,0,none⟩) un uc]
    rw [e1 v GO,e2,hag]
    exact JN
   ·exact ⟨by rw [e1 v GO];exact o2.new,o2.ty,by rw [e1 v GO,ah];exact xR,bb (gI.all (aM B))⟩
   ·refine ⟨?_,by rw [hK];rfl,by rw [e2,ah];exact hu',bb (by have:=tG.all (dm B);exact this)⟩
    rw [e2]
    rcases hbn with h | h
    ·exact C.rE _ _ (by omega) (by have:=C.ey _ a2;omega)
    ·rw [h];exact C.BK u d2 _ o4.new (by omega)
  ·simp only [List.mem_cons,List.not_mem_nil,or_false] at hx
   rcases hx with rfl | rfl | rfl
   ·exact .inl ⟨by rw [h1];simp,by simpa using fun h=>hiu h.symm,iD,e1 i hid⟩
   ·exact .inl ⟨by rw [h2];simp,by simpa using fun h=>hvu h.symm,jw,e1 v GO⟩
   ·exact .inr ⟨.inl h3,hd2,hbn.imp (fun h=>by rw [e2];exact h) (fun h=>⟨u,rfl,by rw [e2];exact h⟩)⟩
  ·simp only [List.mem_cons,List.not_mem_nil,or_false] at hx
   rcases hx with rfl | rfl | rfl
   ·rcases xE hj with h | h | h
    ·exact .inl (by simp [h])
    ·exact .inr ⟨(gr j h).1,by simpa using fun h2=>(gr j h).2 h2.symm⟩
    ·exact .inl (by have:j=d2:=by simpa [AV.cL] using h
                    simp [this])
   ·rw [ao] at hj;cases hj
   ·rw [ao] at hj;cases hj
end
end Go.Proofs.YtabalinjfgcfeaaGreat
set_option maxRecDepth 4000
namespace Go.Proofs.YtabalinjfgcfeaaGreat
open Go.RowKit
attribute [local irreducible] aB VS
theorem tH {D:Nat}:∀ {q:List Vq} {m:Rat},(∀ p∈q,Iz D p.2∧0≤p.2)→Iz D m→0≤m→Iz D (qW q m)∧0≤qW q m∧qW q m≤m
 | [],m,_,_,hm=>⟨Iz.zero,Rat.le_refl,hm⟩
 | p::q,m,h,hI,hm=>by
   obtain ⟨p1,p2⟩:=h p (by simp)
   have hq:∀ x∈q,Iz D x.2∧0≤x.2:=fun x hx=>h x (by simp [hx])
   have pZ:=cR p.2 m
   have lH:0≤ai p.2 m:=by rcases pZ with ⟨e,_⟩ | ⟨e,_⟩ <;> rw [e] <;> assumption
   have pw:Iz D (ai p.2 m):=by rcases pZ with ⟨e,_⟩ | ⟨e,_⟩ <;> rw [e] <;> assumption
   have vC:=cd p.2 m
   by_cases h0:0 < m
   ·by_cases hz:p.2 - ai p.2 m=0
    ·obtain ⟨_,_,e3⟩:=fN (y:=0) (p:=p) (q:=q) h0 hz
     obtain ⟨i1,i2,i3⟩:=tH (m:=m - ai p.2 m) hq (hI.sub pw) (by grind)
     rw [e3]
     exact ⟨pw.add i1,by grind,by grind⟩
    ·obtain ⟨_,_,_,e3⟩:=fM (y:=0) (p:=p) (q:=q) h0 hz
     rw [e3]
     exact ⟨pw,lH,vC⟩
   ·rw [gz _ h0]
    exact ⟨Iz.zero,Rat.le_refl,hm⟩
theorem Mo {D:Nat} {M:Rat}:∀ {q:List Vq} {m:Rat},(∀ p∈q,Iz D p.2∧0≤p.2∧p.2≤M)→Iz D m→0≤m→∀ p∈kW q m,Iz D p.2∧0≤p.2∧p.2≤M∧∃ p'∈q,p'.1=p.1
 | [],m,_,_,_,p,hp=>by cases hp
 | x::q,m,h,hI,hm,p,hp=>by
   obtain ⟨p1,p2,p3⟩:=h x (by simp)
   have hq:∀ x∈q,Iz D x.2∧0≤x.2∧x.2≤M:=fun x hx=>h x (by simp [hx])
   have pZ:=cR x.2 m
   have lH:0≤ai x.2 m:=by rcases pZ with ⟨e,_⟩ | ⟨e,_⟩ <;> rw [e] <;> assumption
   have pw:Iz D (ai x.2 m):=by rcases pZ with ⟨e,_⟩ | ⟨e,_⟩ <;> rw [e] <;> assumption
   have vC:=cd x.2 m
   have za:=di x.2 m
   by_cases h0:0 < m
   ·by_cases hz:x.2 - ai x.2 m=0
    ·obtain ⟨_,e2,_⟩:=fN (y:=0) (p:=x) (q:=q) h0 hz
     rw [e2] at hp
     obtain ⟨i1,i2,i3,p',i4,i5⟩:=Mo (m:=m - ai x.2 m) hq (hI.sub pw) (by grind) p hp
     exact ⟨i1,i2,i3,p',by simp [i4],i5⟩
    ·obtain ⟨_,_,e2,_⟩:=fM (y:=0) (p:=x) (q:=q) h0 hz
     rw [e2] at hp
     rcases List.mem_cons.1 hp with rfl | hp
     ·exact ⟨p1.sub pw,by show 0≤x.2 - ai x.2 m;grind,by show x.2 - ai x.2 m≤M;grind,x,by simp,rfl⟩
     ·obtain ⟨a,b,c⟩:=hq p hp
      exact ⟨a,b,c,p,by simp [hp],rfl⟩
   ·rw [fK _ h0] at hp
    obtain ⟨a,b,c⟩:=h p hp
    exact ⟨a,b,c,p,hp,rfl⟩
theorem xF (y:Nat):∀ (q:List Vq) (m:Rat),(nH y q m).length + (kW q m).length≤q.length + 1∧(kW q m).length≤q.length
 | [],_=>⟨Nat.zero_le _,Nat.le_refl _⟩
 | p::q,m=>by
   by_cases h0:0 < m
   ·by_cases hz:p.2 - ai p.2 m=0
    ·obtain ⟨e1,e2,_⟩:=fN (y:=y) (p:=p) (q:=q) h0 hz
     have:=xF y q (m - ai p.2 m)
     rw [e1,e2,List.length_cons,List.length_cons];omega
    ·obtain ⟨_,e1,e2,_⟩:=fM (y:=y) (p:=p) (q:=q) h0 hz
     rw [e1,e2];simp;omega
   ·rw [gw y _ h0,fK _ h0];simp
structure xG (D:Nat) (M:Rat) (s:Dd):Prop where
 el:∀ p∈s.q,Iz D p.2∧0≤p.2∧p.2≤M + M∧p.1 < s.rows.length
 len:s.uses.length + s.q.length≤2 * s.rows.length
theorem exp_len (keep n:Nat) (s:Dd):(rZ keep n s).rows.length=s.rows.length∧(rZ keep n s).uses=s.uses∧(rZ keep n s).q.length≤s.q.length∧∀ p∈(rZ keep n s).q,p∈s.q:=by
 unfold rZ
 split
 ·rename_i p q hq
  split
  ·exact ⟨List.length_modify ..,rfl,by rw [hq];simp,fun x hx=>by rw [hq];exact List.mem_cons_of_mem _ hx⟩
  ·exact ⟨rfl,rfl,Nat.le_refl _,fun x hx=>hx⟩
 ·exact ⟨rfl,rfl,Nat.le_refl _,fun x hx=>hx⟩
theorem sn {D:Nat} {M L x:Rat} (hL:Iz D L) (hL0:0≤L) (DZ:L≤M) (hx:Iz D x) (gL: -M≤x) (Ea:x≤M):
  Iz D (ai x L)∧-M≤ai x L∧ai x L≤M∧Iz D (x - ai x L)∧0≤x - ai x L∧x - ai x L≤M + M∧Iz D (L - ai x L)∧0≤L - ai x L∧L - ai x L≤M + M:=by
 rcases cR x L with ⟨e,h⟩ | ⟨e,h⟩ <;> rw [e]
 ·exact ⟨hx,gL,Ea,hx.sub hx,by grind,by grind,hL.sub hx,by grind,by grind⟩
 ·exact ⟨hL,by grind,DZ,hx.sub hL,by grind,by grind,hL.sub hL,by grind,by grind⟩
theorem GP {D:Nat} {M S F:Rat} {keep:Nat} {s:Dd} {e:Rat×Rat} (h:xG D M s) (hL:Iz D (aD S F e.2)) (DZ:aD S F e.2≤M) (hx:Iz D e.1) (gL: -M≤e.1) (Ea:e.1≤M):xG D M (dk S F keep s.rows.length s e)∧(dk S F keep s.rows.length s e).rows.length=s.rows.length + 1:=by
 obtain ⟨g1,g2,g3,g4,g5,g6,g7,g8,g9⟩:=sn hL (mK S F e.2) DZ hx gL Ea
 unfold dk
 obtain ⟨e1,e2,e3,e4⟩:=exp_len keep s.rows.length ⟨kA s.rows.length (dD S F s.q e).bl (kW s.q (aD S F e.2 - ai e.1 (aD S F e.2))),s.rows++[dD S F s.q e],s.uses++nH s.rows.length s.q (aD S F e.2 - ai e.1 (aD S F e.2))⟩
 obtain ⟨u1,u2⟩:=xF s.rows.length s.q (aD S F e.2 - ai e.1 (aD S F e.2))
 have hl:(s.rows++[dD S F s.q e]).length=s.rows.length + 1:=by rw [List.length_append];rfl
 have hput:(kA s.rows.length (dD S F s.q e).bl (kW s.q (aD S F e.2 - ai e.1 (aD S F e.2)))).length≤(kW s.q (aD S F e.2 - ai e.1 (aD S F e.2))).length + 1:=by
  unfold kA;split
  ·rw [List.length_append];exact Nat.le_refl _
  ·omega
 refine ⟨⟨fun p hp=> ?_,?_⟩,by rw [e1];exact hl⟩
 ·rw [e1,hl]
  have hp':=e4 p hp
  have key:p∈kW s.q (aD S F e.2 - ai e.1 (aD S F e.2))∨p=(s.rows.length,e.1 - ai e.1 (aD S F e.2)):=by
   unfold kA at hp'
   dsimp only at hp'
   split at hp'
   ·rcases List.mem_append.1 hp' with h | h
    ·exact .inl h
    ·exact .inr (List.mem_singleton.1 h)
   ·exact .inl hp'
  rcases key with hk | rfl
  ·obtain ⟨a,b,c,p',d1,d2⟩:=Mo (fun p hp=>⟨(h.el p hp).1,(h.el p hp).2.1,(h.el p hp).2.2.1⟩) g7 g8 p hk
   have:=(h.el p' d1).2.2.2
   exact ⟨a,b,c,by omega⟩
  ·exact ⟨g4,g5,g6,Nat.lt_succ_self _⟩
 ·rw [e1,e2,hl]
  dsimp only at e3 ⊢
  rw [List.length_append]
  have:=h.len
  omega
def dG (B:Nat) (w:World) (cs:List Value) (r:aN):Prop:=
 ∃ a b c d e f g,cs=a++(b++(c++(d++(e++(f++g)))))∧R4 B w a r.eJ∧R4 B w b r.allowed∧R4 B w c r.bl∧R4 B w d r.used∧R4 B w e r.bU∧R4 B w f r.aZ∧R4 B w g r.closing
theorem R4.len {B:Nat} {w:World} {cs:List Value} {q:Rat} (h:R4 B w cs q):cs.length=4:=by obtain ⟨s,p,n,c,t,r,m,d,rfl,_⟩:=h;rfl
theorem R4.ok {B:Nat} {w:World} {cs:List Value} {q:Rat} (h:R4 B w cs q):cs.all aU=true:=by obtain ⟨s,p,n,c,t,r,m,d,rfl,_⟩:=h;rfl
theorem az (B:Nat):lB (dG B) 28 where
 kp:=fun h k=>by
  obtain ⟨a,b,c,d,e,f,g,h0,h1,h2,h3,h4,h5,h6,h7⟩:=h
  exact ⟨a,b,c,d,e,f,g,h0,h1.kp k,h2.kp k,h3.kp k,h4.kp k,h5.kp k,h6.kp k,h7.kp k⟩
 len:=fun h=>by
  obtain ⟨a,b,c,d,e,f,g,rfl,h1,h2,h3,h4,h5,h6,h7⟩:=h
  simp [h1.len,h2.len,h3.len,h4.len,h5.len,h6.len,h7.len]
 ok:=fun h=>by
  obtain ⟨a,b,c,d,e,f,g,rfl,h1,h2,h3,h4,h5,h6,h7⟩:=h
  simp only [List.all_append,h1.ok,h2.ok,h3.ok,h4.ok,h5.ok,h6.ok,h7.ok,Bool.and_self]
structure nv {α:Type} (E:World→List Value→α→Prop) (sz:Nat) (w:World) (n c:Nat) (vs:List (List Value)) (sp:List AV) (es:List α):Prop where
 len:n=es.length
 el:cM E w es vs
 so:sp.all aH=true
 sl:ax sp=[]
 le:n≤c
 cm:c≤9223372036854775807
 fl:(vs.flatten.map AV.val++sp).length=c * sz
theorem nv.kp {α:Type} {E:World→List Value→α→Prop} {sz n c:Nat} (hE:lB E sz) {w w':World} {vs:List (List Value)} {sp:List AV} {es:List α} (h:nv E sz w n c vs sp es) (k:Kp UU w w'):nv E sz w' n c vs sp es:=⟨h.len,h.el.kp hE k,h.so,h.sl,h.le,h.cm,h.fl⟩
theorem nv.o {α:Type} {E:World→List Value→α→Prop} {sz n c:Nat} {w:World} {vs:List (List Value)} {sp:List AV} {es:List α} (h:nv E sz w n c vs sp es) (β:Nat→Nat):cY E sz w n 0 c [] vs (sp.map (AV.leaf β)) es:=
 ⟨h.len,.inl rfl,rfl,h.el,cJ h.so,h.le,h.cm,by have:=h.fl;rw [List.length_append,List.length_map] at this;rw [List.length_append,List.length_map];exact this⟩
theorem cY.a {α:Type} {E:World→List Value→α→Prop} {sz n c:Nat} {w:World} {vs:List (List Value)} {sp:List Value} {es:List α} (h:cY E sz w n 0 c [] vs sp es):nv E sz w n c vs (sp.map .val) es:=
 ⟨h.len,h.el,bb h.so,ao _,h.le,h.cm,by rw [←List.map_append,List.length_map];exact h.fl⟩
theorem cW {vs:List (List Value)} {sz:Nat} (h:∀ x∈vs,x.length=sz):vs.flatten.length=vs.length * sz:=by
 induction vs with
 | nil=>simp
 | cons x vs ih=>rw [List.flatten_cons,List.length_append,h x (by simp),ih (fun y hy=>h y (by simp [hy])),List.length_cons,Nat.add_mul];omega
theorem Jj {vs:List (List Value)} {sz i o:Nat} {x new:List Value} {sp:List AV} (h:∀ x∈vs,x.length=sz) (hi:vs[i]? =some x) (ho:o + new.length≤sz):
  (vs.flatten.map AV.val++sp).take (i * sz + o)++(new.map AV.val++(vs.flatten.map AV.val++sp).drop (i * sz + o + new.length))=(vs.set i (x.take o++(new++x.drop (o + new.length)))).flatten.map AV.val++sp:=by
 obtain ⟨hlt,hx⟩:=List.getElem?_eq_some_iff.1 hi
 have yo:vs=vs.take i++x::vs.drop (i + 1):=by rw [←hx,←List.drop_eq_getElem_cons hlt,List.take_append_drop]
 have ew:x.length=sz:=h x (List.mem_of_getElem? hi)
 have hal:(vs.take i).flatten.length=i * sz:=by
  rw [cW (fun y hy=>h y (List.mem_of_mem_take hy)),List.length_take,Nat.min_eq_left (by omega)]
 have hset:vs.set i (x.take o++(new++x.drop (o + new.length)))=vs.take i++(x.take o++(new++x.drop (o + new.length)))::vs.drop (i + 1):=by rw [List.set_eq_take_append_cons_drop,if_pos hlt]
 rw [hset]
 conv=>lhs;rw [yo]
 generalize (vs.take i)=A at *
 generalize (vs.drop (i + 1))=C at *
 have e1:((A++x::C).flatten.map AV.val++sp)=(A.flatten.map AV.val)++((x.map AV.val)++(C.flatten.map AV.val++sp)):=by simp
 have hA:(A.flatten.map AV.val).length=i * sz:=by rw [List.length_map];exact hal
 rw [e1,←hA,Nat.add_assoc,List.take_length_add_append,List.drop_length_add_append,List.take_append_of_le_length (by rw [List.length_map];omega),List.drop_append_of_le_length (by rw [List.length_map];omega)]
 simp
theorem cM.set {α:Type} {E:World→List Value→α→Prop} {w:World}:∀ {es:List α} {vs:List (List Value)} {i:Nat} {a:α} {cs:List Value},cM E w es vs→E w cs a→cM E w (es.set i a) (vs.set i cs)
 | _,_,i,_,_,.nil,_=>.nil
 | _,_,0,_,_,.cons _ h2,h=>.cons h h2
 | _,_,i + 1,_,_,.cons h1 h2,h=>.cons h1 (cM.set h2 h)
theorem gJ {l:List aN} {i:Nat} {r:aN} {f:aN→aN} (h:l[i]? =some r):l.modify i f=l.set i (f r):=by
 apply List.ext_getElem?
 intro j
 by_cases e:i=j
 ·subst e
  rw [xx rfl,List.getElem?_set,if_pos rfl,if_pos (List.getElem?_eq_some_iff.1 h).1,h];rfl
 ·rw [sf e,List.getElem?_set,if_neg e]
def SlE {α:Type} (E:World→List Value→α→Prop) (sz:Nat) (t:TypeId) (w:World) (b:Nat) (v:Value) (es:List α):Prop:=
 ∃ off n c pre vs spare,v=.slice (some ⟨b,off,none⟩) n c∧aW w b t (pre++(vs.flatten++spare)).toArray∧cY E sz w n off c pre vs spare es
def SlZ {α:Type} (E:World→List Value→α→Prop) (sz:Nat) (t:TypeId) (w:World) (b:Nat) (v:Value) (es:List α):Prop:=
 ∃ n c vs spare,v=.slice (some ⟨b,0,none⟩) n c∧aW w b t (vs.flatten++spare).toArray∧cY E sz w n 0 c [] vs spare es
def mY (B:Nat) (w:World) (g:Nat) (ad:List Nat) (s:Dd):Prop:=(∀ b∈ad,B≤b)∧∃ v r u,aW w g Runner #[v,r,u]∧
 ((ad=[g]∧v=.slice none 0 0∧r=.slice none 0 0∧u=.slice none 0 0∧s.q=[]∧s.rows=[]∧s.uses=[])∨
  (∃ rb,ad=[g,rb]∧v=.slice none 0 0∧u=.slice none 0 0∧s.q=[]∧s.uses=[]∧SlZ (dG B) 28 dT w rb r s.rows)∨
  (∃ vb rb,ad=[g,vb,rb]∧u=.slice none 0 0∧s.uses=[]∧SlE (cH B) 5 cO w vb v s.q∧SlZ (dG B) 28 dT w rb r s.rows)∨
  (∃ vb rb ub,ad=[g,vb,rb,ub]∧SlE (cH B) 5 cO w vb v s.q∧SlZ (dG B) 28 dT w rb r s.rows∧SlZ (np B) 6 et w ub u s.uses))
def FA (w:World) (v:Value) (S F:Rat) (keep:Int) (ks:Nat):Prop:=∃ s p n c t y m d s' p' n' c' t' y' m' d',v=.agg #[.bool s,.slice p n c,.bool t,.slice y m d,.bool s',.slice p' n' c',.bool t',.slice y' m' d',.int .i64 keep]∧
 bK w (.agg #[.bool s,.slice p n c,.bool t,.slice y m d]) S ks∧bK w (.agg #[.bool s',.slice p' n' c',.bool t',.slice y' m' d']) F ks
def YrV (w:World) (v:Value) (e:Rat×Rat) (ks:Nat):Prop:=∃ s p n c t y m d s' p' n' c' t' y' m' d',v=.agg #[.bool s,.slice p n c,.bool t,.slice y m d,.bool s',.slice p' n' c',.bool t',.slice y' m' d']∧
 bK w (.agg #[.bool s,.slice p n c,.bool t,.slice y m d]) e.1 ks∧bK w (.agg #[.bool s',.slice p' n' c',.bool t',.slice y' m' d']) e.2 ks
theorem bK.up {w:World} {v:Value} {q:Rat} {j k:Nat} (h:bK w v q j) (hk:j≤k):bK w v q k:=by
 obtain ⟨s,xs,t,ys,h1,h2,h3,h4⟩:=h
 exact ⟨s,xs,t,ys,h1,h2,Nat.le_trans h3 hk,Nat.le_trans h4 hk⟩
set_option maxRecDepth 4000 in
theorem mP (v u:Value) (S F:Rat) (keep:Int) (e:Rat×Rat) (ks:Nat) (w:World) (hv:FA w v S F keep ks) (hu:YrV w u e ks) (Cm:1≤ks) (hk:ks≤100000):
  Calls Tryz.prog 70 #[v,u] w fun o w'=>∃ x,o=.returned x∧aK w' w.heap.size x (aD S F e.2)∧aj w w':=by
 obtain ⟨sS,pS,nS,cS,tS,yS,mS,dS,sF,pF,nF,cF,tF,yF,mF,dF,rfl,hS,hF⟩:=hv
 obtain ⟨sN,pN,nN,cN,tN,yN,mN,dN,sE,pE,nE,cE,tE,yE,mE,dE,rfl,hN,hE⟩:=hu
 refine aw (C:=cj Tryz.prog w _) (args:=[_,_]) Tryz.func70 rfl Tryz.ntmps70 (Nat.le_of_ble_eq_true rfl) ?_
 (repeat first|refine wN ?_|refine wP rfl ?_|refine aa rfl ?_|refine ab rfl ?_|refine wO rfl rfl ?_)
 refine VO.call rfl rfl (fk Tryz.func105) (fun cC er dv=>(Fp _ _ S e.2 ks ks cC (hS.k) (hE.k) (by omega) (by omega)).mono ?_)
 rintro e w1 ⟨r1,rfl,q1,aV⟩
 obtain ⟨s1,p1,n1,c1,t1,y1,m1,d1,rfl⟩:=q1.form
 refine ⟨_,rfl,aV,fun fe _ bb1=>wV rfl ?_⟩
 (repeat first|refine wN ?_|refine wP rfl ?_|refine aa rfl ?_|refine ab rfl ?_|refine wO rfl rfl ?_)
 have z1:=(hS.sz Cm).mul (hE.sz Cm)
 refine VO.call rfl rfl (fk Tryz.func44) (fun dC gu eu=>(bF 0 dC (by omega) (by omega)).mono ?_)
 rintro e w2 ⟨r2,rfl,q2,bm⟩
 obtain ⟨s2,p2,n2,c2,t2,y2,m2,d2,rfl⟩:=q2.form
 refine ⟨_,rfl,bm,fun fZ _ bb2=>wV rfl ?_⟩
 (repeat first|refine wN ?_|refine wP rfl ?_|refine aa rfl ?_|refine ab rfl ?_|refine wO rfl rfl ?_)
 refine VO.fI rfl (fk Tryz.func104) (fun gv β gY gV ho=>((Fs _ _ F [S * e.2,0] (ks + ks) gv ((hF.k).up (by omega)) (dW (ho.own 13 (.base (List.mem_singleton.2 rfl)) _ _ rfl) [] (vs:=[[.bool s1,.slice p1 n1 c1,.bool t1,.slice y1 m1 d1],[.bool s2,.slice p2 n2 c2,.bool t2,.slice y2 m2 d2]]) (by rfl) rfl (bZ.cons (q1.ki z1) (bZ.cons (q2.ki (dV.zero.mono (show 1≤ks + ks by omega))) bZ.nil)) (Nat.le_of_ble_eq_true rfl) (by decide)) (by omega) (Nat.le_of_ble_eq_true rfl)).mono (fun o w2 h=>And.intro h gV.size)).mono ?_)
 rintro o w3 ⟨⟨r3,rfl,q3,z3,cD⟩,xH⟩
 obtain ⟨s3,p3,n3,c3,t3,y3,m3,d3,rfl⟩:=q3.form
 refine ⟨_,rfl,cD,fun kt _ bb3=>wV rfl ?_⟩
 (repeat first|refine wN ?_|refine wP rfl ?_|refine aa rfl ?_|refine ab rfl ?_|refine wO rfl rfl ?_)
 refine VS.ret (aL _ _) rfl rfl (fun wz kz bz=> ?_)
 exact ⟨_,rfl,(q3.mono xH).k,bz⟩
end Go.Proofs.YtabalinjfgcfeaaGreat
set_option maxRecDepth 4000
namespace Go.Proofs.YtabalinjfgcfeaaGreat
open Go.RowKit
attribute [local irreducible] aB VS
theorem fh {B N i g:Nat} {ad:List Nat} {w:World} (hB:B≤w.heap.size) (had:∀ b∈ad,B≤b) (h:cB N ad w i g):B≤g:=by
 rcases eO h with h | h
 ·omega
 ·exact had g h
theorem kh {vs:List (List Value)} {sz i o:Nat} {x new:List Value} {sp:List AV} (h:∀ x∈vs,x.length=sz) (hi:vs[i]? =some x) (ho:o + new.length≤sz):
  (vs.flatten.map AV.val++sp).take (0 + ((i:Nat):Int).toNat * sz + o)++(new.map AV.val++(vs.flatten.map AV.val++sp).drop (0 + ((i:Nat):Int).toNat * sz + o + new.length))=(vs.set i (x.take o++(new++x.drop (o + new.length)))).flatten.map AV.val++sp:=by
 rw [Int.toNat_natCast,Nat.zero_add]
 exact Jj h hi ho
theorem oK {B:Nat} {w:World} {cs new:List Value} {r:aN} {x:Rat} (h:dG B w cs r) (hx:R4 B w new x):dG B w (cs.take 20++(new++cs.drop (20 + new.length))) { r with aZ:=x }:=by
 obtain ⟨a,b,c,d,e,f,g,rfl,h1,h2,h3,h4,h5,h6,h7⟩:=h
 refine ⟨a,b,c,d,e,new,g,?_,h1,h2,h3,h4,h5,hx,h7⟩
 have l1:=h1.len
 have l2:=h2.len
 have l3:=h3.len
 have l4:=h4.len
 have l5:=h5.len
 have l6:=h6.len
 rw [hx.len]
 have e1:a++(b++(c++(d++(e++(f++g)))))=(a++b++c++d++e)++(f++g):=by simp
 have e2:(a++b++c++d++e).length=20:=by simp [l1,l2,l3,l4,l5]
 have e3:a++(b++(c++(d++(e++(f++g)))))=(a++b++c++d++e++f)++g:=by simp
 have e4:(a++b++c++d++e++f).length=24:=by simp [l1,l2,l3,l4,l5,l6]
 have t1:(a++(b++(c++(d++(e++(f++g)))))).take 20=a++b++c++d++e:=by rw [e1,←e2,List.take_left'];rfl
 have t2:(a++(b++(c++(d++(e++(f++g)))))).drop 24=g:=by rw [e3,←e4,List.drop_left'];rfl
 rw [t1,t2]
 simp
theorem sq {cs new:List Value} (h:cs.length=28) (hn:new.length=4):(cs.take 20++(new++cs.drop (20 + new.length))).length=28:=by
 rw [List.length_append,List.length_append,List.length_take,List.length_drop,h,hn];rfl
theorem kj {vs:List (List Value)} {sz i:Nat} {x:List Value} (h:∀ y∈vs,y.length=sz) (hx:x.length=sz):∀ y∈vs.set i x,y.length=sz:=fun y hy=>by
 rcases List.mem_or_eq_of_mem_set hy with e | e
 ·exact h y e
 ·rw [e];exact hx
set_option maxRecDepth 4000 in
set_option maxHeartbeats 16000000 in
theorem iYear_A {B g keep D kk ks:Nat} {M S F:Rat} {e:Rat×Rat} {q:List Vq} {rows:List aN} {uses:List Uq} {v u:Value} {w:World} (hg:aW w g Runner #[.slice none 0 0,.slice none 0 0,.slice none 0 0])
  (uS:FA w v S F keep ks) (JP:YrV w u e ks) (ss:1≤ks) (yr:ks≤kk) (zf:kk≤100000) (vK:Iz D (aD S F e.2)) (DZ:aD S F e.2≤M) (JQ:Iz D e.1) (gL: -M≤e.1) (Ea:e.1≤M) (hK:∀ x,Iz D x→-(M + M)≤x→x≤M + M→dV x kk)
  (vL:xG D M ⟨[],[],[]⟩) (uE:([]:List aN).length≤64) (uF:keep≤40) (hB:B≤w.heap.size) (dU:∀ b∈[g],B≤b):
  Calls Tryz.prog 39 #[.pointer (some ⟨g,0,none⟩),v,.int .i64 (([]:List aN).length:Int),u] w fun o w'=>o=.returned (iC [])∧qA [g] w w'∧∃ Mp,mY B w' g Mp (dk S F keep ([]:List aN).length ⟨[],[],[]⟩ e):=by
 have hL0:=mK S F e.2
 have hM0:0≤M:=by grind
 obtain ⟨g1,g2,g3,g4,g5,g6,g7,g8,g9⟩:=sn vK hL0 DZ JQ gL Ea
 have zn:B≤g:=dU g (by simp)
 have hlen:=vL.len
 obtain ⟨sS,pS,nS,cS,tS,yS,mS,dS,sF,pF,nF,cF,tF,yF,mF,dF,rfl,hS,hF⟩:=uS
 obtain ⟨sN,pN,nN,cN,tN,yN,mN,dN,sE,pE,nE,cE,tE,yE,mE,dE,rfl,hN,hE⟩:=JP
 have pM:iG (KU UU) 99 [g] [(Runner,[.val (.slice none 0 0),.val (.slice none 0 0),.val (.slice none 0 0)])] w:=by
  refine ⟨rfl,by simp,fun j g' c' hj hc=> ?_,fun c' hc=> ?_,fun c' hc k hk=> ?_⟩
  ·match j,hj,hc with
   | 0,hj,hc=>cases hj;cases hc;exact hg
   | j + 1,hj,_=>simp at hj
  ·simp only [List.mem_cons,List.not_mem_nil,or_false] at hc
   subst hc
   exact ⟨rfl,rfl⟩
  ·simp only [List.mem_cons,List.not_mem_nil,or_false] at hc
   subst hc
   cases hk
 refine ea Tryz.prog w _ (KU UU) (fun t=>Nat.beq t 22) table (fun _ _=>trivial) (ad:=[g]) (us:=[_,_,_]) Tryz.func39 rfl Tryz.ntmps39 (Nat.le_of_ble_eq_true rfl) pM (Nat.le_of_ble_eq_true rfl) ?_
 (repeat first|refine wN ?_|refine wP rfl ?_|refine af rfl ?_|refine ag rfl ?_|refine wO rfl rfl ?_)
 refine VO.call rfl rfl (fk Tryz.func70) (fun cC er dv=>((mP _ _ S F keep e ks cC ⟨_,_,_,_,_,_,_,_,_,_,_,_,_,_,_,_,rfl,hS.k,hF.k⟩ ⟨_,_,_,_,_,_,_,_,_,_,_,_,_,_,_,_,rfl,hN.k,hE.k⟩ ss (by omega)).mono (fun o w2 h=>And.intro h dv.1.size)).mono ?_)
 rintro o w1 ⟨⟨r1,rfl,q1,aV⟩,FD⟩
 obtain ⟨s1,p1,n1,c1,t1,y1,m1,d1,rfl⟩:=q1.form
 refine ⟨_,rfl,aV,fun fe _ bb1=>wV rfl ?_⟩
 replace q1:=q1.mono (Nat.le_trans hB FD)
 (repeat first|refine wN ?_|refine wP rfl ?_|refine af rfl ?_|refine ag rfl ?_|refine wO rfl rfl ?_)
 refine VO.call rfl rfl (fk Tryz.func44) (fun dC gu eu=>((bF 0 dC (by omega) (by omega)).mono (fun o w2 h=>And.intro h eu.1.size)).mono ?_)
 rintro o w2 ⟨⟨r2,rfl,q2,bm⟩,qN⟩
 obtain ⟨s2,p2,n2,c2,t2,y2,m2,d2,rfl⟩:=q2.form
 refine ⟨_,rfl,bm,fun fZ _ bb2=>wV rfl ?_⟩
 replace q2:=q2.mono (Nat.le_trans hB qN)
 (repeat first|refine wN ?_|refine wP rfl ?_|refine af rfl ?_|refine ag rfl ?_|refine wO rfl rfl ?_)
 refine VO.call rfl rfl (fk Tryz.func44) (fun gv gY gV=>((bF 0 gv (by omega) (by omega)).mono (fun o w2 h=>And.intro h gV.1.size)).mono ?_)
 rintro o w3 ⟨⟨r3,rfl,q3,cD⟩,xH⟩
 obtain ⟨s3,p3,n3,c3,t3,y3,m3,d3,rfl⟩:=q3.form
 refine ⟨_,rfl,cD,fun kt _ bb3=>wV rfl ?_⟩
 replace q3:=q3.mono (Nat.le_trans hB xH)
 (repeat first|refine wN ?_|refine wP rfl ?_|refine af rfl ?_|refine ag rfl ?_|refine wO rfl rfl ?_)
 refine VO.fI rfl (fk Tryz.func71) (fun nj β qa qF ho=>((fJ _ _ e.1 [aD S F e.2] kk nj ((hN.k).up (by omega)) (dW (ho.own 20 (.base (List.mem_singleton.2 rfl)) _ _ rfl) [] (vs:=[[.bool s1,.slice p1 n1 c1,.bool t1,.slice y1 m1 d1]]) (by rfl) rfl (bZ.cons (q1.ki (hK _ vK (by grind) (by grind))) bZ.nil) (Nat.le_of_ble_eq_true rfl) (by decide)) (by omega) (Nat.le_of_ble_eq_true rfl)).mono (fun o w2 h=>And.intro h qF.1.size)).mono ?_)
 rintro o w4 ⟨⟨r4,rfl,q4,z4,gU⟩,FE⟩
 rw [gR] at q4
 obtain ⟨s4,p4,n4,c4,t4,y4,m4,d4,rfl⟩:=q4.form
 refine ⟨_,rfl,gU,fun pd _ AZ=>wV rfl ?_⟩
 replace q4:=q4.mono (Nat.le_trans hB FE)
 (repeat first|refine wN ?_|refine wP rfl ?_|refine af rfl ?_|refine ag rfl ?_|refine wO rfl rfl ?_)
 refine VO.call rfl rfl (fk Tryz.func72) (fun kg mG ku=>((bW _ _ e.1 (ai e.1 (aD S F e.2)) kk kk kg ((hN.k).up (by omega)) (q4.ki (hK _ g1 (by grind) (by grind))) (by omega) (by omega)).mono (fun o w2 h=>And.intro h ku.1.size)).mono ?_)
 rintro o w5 ⟨⟨r5,rfl,q5,gi⟩,qO⟩
 obtain ⟨s5,p5,n5,c5,t5,y5,m5,d5,rfl⟩:=q5.form
 refine ⟨_,rfl,gi,fun nk _ xf=>wV rfl ?_⟩
 replace q5:=q5.mono (Nat.le_trans hB qO)
 (repeat first|refine wN ?_|refine wP rfl ?_|refine af rfl ?_|refine ag rfl ?_|refine wO rfl rfl ?_)
 refine VO.call rfl rfl (fk Tryz.func72) (fun pK ux tw=>((bW _ _ (aD S F e.2) (ai e.1 (aD S F e.2)) kk kk pK (q1.ki (hK _ vK (by grind) (by grind))) (q4.ki (hK _ g1 (by grind) (by grind))) (by omega) (by omega)).mono (fun o w2 h=>And.intro h tw.1.size)).mono ?_)
 rintro o w6 ⟨⟨r6,rfl,q6,mX⟩,FF⟩
 obtain ⟨s6,p6,n6,c6,t6,y6,m6,d6,rfl⟩:=q6.form
 refine ⟨_,rfl,mX,fun tx _ CR=>wV rfl ?_⟩
 replace q6:=q6.mono (Nat.le_trans hB FF)
 (repeat first|refine wN ?_|refine wP rfl ?_|refine af rfl ?_|refine ag rfl ?_|refine wO rfl rfl ?_)
 have mf:dk S F keep ([]:List aN).length ⟨[],[],[]⟩ e=rZ keep ([]:List aN).length ⟨kA ([]:List aN).length (e.1 - ai e.1 (aD S F e.2)) (kW [] (aD S F e.2 - ai e.1 (aD S F e.2))),[]++[dD S F [] e],[]++nH ([]:List aN).length [] (aD S F e.2 - ai e.1 (aD S F e.2))⟩:=rfl
 refine VO.sm (B:=B) (mm:=aD S F e.2 - ai e.1 (aD S F e.2)) kk rfl rfl (fk Tryz.func73) rfl (fun ug FG GQ=>q6.kr) hB (fun w7 r7 k7 b7 q7=> ?_)
 obtain ⟨s7,p7,n7,c7,t7,y7,m7,d7,rfl⟩:=q7.form
 refine wV rfl ?_
 (repeat first|refine wN ?_|refine wP rfl ?_|refine af rfl ?_|refine ag rfl ?_|refine wO rfl rfl ?_)
 have nw:([]:List Uq)++nH ([]:List aN).length [] (aD S F e.2 - ai e.1 (aD S F e.2))=[]:=rfl
 obtain ⟨u1,u2,u3⟩:=tH (q:=[]) (m:=aD S F e.2 - ai e.1 (aD S F e.2)) (fun p hp=>(by cases hp)) g7 g8
 refine VO.call rfl rfl (fk Tryz.func16) (fun uQ Fg zl=>((dx _ _ (ai e.1 (aD S F e.2)) ((0:Rat)) kk kk uQ (q4.ki (hK _ g1 (by grind) (by grind))) (q7.ki (hK _ u1 (by grind) (by grind))) (by omega) (by omega)).mono (fun o w2 h=>And.intro h zl.1.size)).mono ?_)
 rintro o w8 ⟨⟨r8,rfl,q8,qU⟩,yt⟩
 obtain ⟨s8,p8,n8,c8,t8,y8,m8,d8,rfl⟩:=q8.form
 refine ⟨_,rfl,qU,fun vH _ JL=>wV rfl ?_⟩
 replace q8:=q8.mono (Nat.le_trans hB yt)
 (repeat first|refine wN ?_|refine wP rfl ?_|refine af rfl ?_|refine ag rfl ?_|refine wO rfl rfl ?_)
 have LV:((0:Int):Rat)=0:=rfl
 have AA:dG B w8 [.bool s1,.slice p1 n1 c1,.bool t1,.slice y1 m1 d1,.bool s4,.slice p4 n4 c4,.bool t4,.slice y4 m4 d4,.bool s5,.slice p5 n5 c5,.bool t5,.slice y5 m5 d5,.bool s7,.slice p7 n7 c7,.bool t7,.slice y7 m7 d7,.bool s8,.slice p8 n8 c8,.bool t8,.slice y8 m8 d8,.bool s2,.slice p2 n2 c2,.bool t2,.slice y2 m2 d2,.bool s3,.slice p3 n3 c3,.bool t3,.slice y3 m3 d3] (dD S F [] e):=⟨[.bool s1,.slice p1 n1 c1,.bool t1,.slice y1 m1 d1],[.bool s4,.slice p4 n4 c4,.bool t4,.slice y4 m4 d4],[.bool s5,.slice p5 n5 c5,.bool t5,.slice y5 m5 d5],[.bool s7,.slice p7 n7 c7,.bool t7,.slice y7 m7 d7],[.bool s8,.slice p8 n8 c8,.bool t8,.slice y8 m8 d8],[.bool s2,.slice p2 n2 c2,.bool t2,.slice y2 m2 d2],[.bool s3,.slice p3 n3 c3,.bool t3,.slice y3 m3 d3],rfl,⟨_,_,_,_,_,_,_,_,rfl,q1.k⟩,⟨_,_,_,_,_,_,_,_,rfl,q4.k⟩,⟨_,_,_,_,_,_,_,_,rfl,q5.k⟩,⟨_,_,_,_,_,_,_,_,rfl,q7.k⟩,⟨_,_,_,_,_,_,_,_,rfl,q8.k⟩,⟨_,_,_,_,_,_,_,_,rfl,q2.k⟩,⟨_,_,_,_,_,_,_,_,rfl,q3.k⟩⟩
 refine VO.app (bk _ _) (t:=33) (e:=dT) (sz:=28) (n:=0) (c:=0) (mm:=1) (known:=[]) (spare:=[]) (del:=none) (news:=([.bool s1,.slice p1 n1 c1,.bool t1,.slice y1 m1 d1,.bool s4,.slice p4 n4 c4,.bool t4,.slice y4 m4 d4,.bool s5,.slice p5 n5 c5,.bool t5,.slice y5 m5 d5,.bool s7,.slice p7 n7 c7,.bool t7,.slice y7 m7 d7,.bool s8,.slice p8 n8 c8,.bool t8,.slice y8 m8 d8,.bool s2,.slice p2 n2 c2,.bool t2,.slice y2 m2 d2,.bool s3,.slice p3 n3 c3,.bool t3,.slice y3 m3 d3]:List Value).map .val) (dst:=52) rfl rfl rfl rfl rfl rfl rfl rfl (Nat.le_of_ble_eq_true rfl) rfl (.inl ⟨rfl,rfl,rfl,rfl,rfl,rfl,by omega⟩) (.inl rfl) rfl rfl (Nat.le_refl _) (by omega) ⟨rfl,rfl,rfl⟩ ⟨rfl,rfl,rfl⟩ rfl (by omega)
  (fun w1 β k1 b1 ho=>⟨_,_,rfl,.inr ⟨β 51,0,rfl,cK (rest:=[]) (ho.own 51 (.base (List.mem_append_right _ (List.mem_singleton.2 rfl))) _ _ rfl) rfl⟩⟩)
  (fun nD lD uT ρ GM GN fC jc gm ed AB iB=>wV rfl ?_)
 (repeat (first | refine wN ?_ | refine wP rfl ?_ | refine af rfl ?_ | refine wO rfl rfl ?_))
 obtain ⟨nI,sw⟩:∃ nI,nI=0 + 1:=⟨_,rfl⟩
 obtain ⟨qQ,sx⟩:∃ qQ,qQ=([[.bool s1,.slice p1 n1 c1,.bool t1,.slice y1 m1 d1,.bool s4,.slice p4 n4 c4,.bool t4,.slice y4 m4 d4,.bool s5,.slice p5 n5 c5,.bool t5,.slice y5 m5 d5,.bool s7,.slice p7 n7 c7,.bool t7,.slice y7 m7 d7,.bool s8,.slice p8 n8 c8,.bool t8,.slice y8 m8 d8,.bool s2,.slice p2 n2 c2,.bool t2,.slice y2 m2 d2,.bool s3,.slice p3 n3 c3,.bool t3,.slice y3 m3 d3]]:List (List Value)):=⟨_,rfl⟩
 have fq:nv (dG B) 28 nD nI lD qQ uT ([]++[dD S F [] e]):=by rw [sw,sx];exact ⟨rfl,.cons ((az B).kp AA (by (with_reducible (repeat (first | assumption | exact kU _ | exact kR _ | exact Kp.of (U:=UU) (by assumption) | exact aE.of (by assumption) | refine kT ?_ (by assumption)))))) .nil,AB,iB,jc,gm,by simpa using ed⟩
 refine VS.narrow [(0,.box 198 0),(2,.val (.int .i64 (([]:List aN).length:Int))),(5,.box 5 0),(8,.box 8 0)] [(198,(Runner,[.val (.slice none 0 0),.row 52 0 nI lD,.val (.slice none 0 0)])),(52,(dT,qQ.flatten.map AV.val++uT)),(5,(28,([.bool sS,.slice pS nS cS,.bool tS,.slice yS mS dS,.bool sF,.slice pF nF cF,.bool tF,.slice yF mF dF,.int .i64 (keep:Int)]:List Value).map AV.val)),(8,(dT,([.bool s1,.slice p1 n1 c1,.bool t1,.slice y1 m1 d1,.bool s4,.slice p4 n4 c4,.bool t4,.slice y4 m4 d4,.bool s5,.slice p5 n5 c5,.bool t5,.slice y5 m5 d5,.bool s7,.slice p7 n7 c7,.bool t7,.slice y7 m7 d7,.bool s8,.slice p8 n8 c8,.bool t8,.slice y8 m8 d8,.bool s2,.slice p2 n2 c2,.bool t2,.slice y2 m2 d2,.bool s3,.slice p3 n3 c3,.bool t3,.slice y3 m3 d3]:List Value).map AV.val))] ⟨rfl,rfl,rfl,rfl,trivial⟩ ⟨by rw [sw];rfl,by rw [sx];rfl,rfl,rfl,trivial⟩ rfl ⟨.lit rfl,.append (.vals _) (.none iB),.vals _,.vals _,trivial⟩ ?_
 refine VS.draw (bk _ _) (jN _ _) [74] (by kernel_rfl) (VO.run 80 rfl ?_)
 refine VO.Dh (B:=B) (d2:=62) (d:=e.1 - ai e.1 (aD S F e.2)) kk rfl rfl rfl (fk Tryz.func74) rfl rfl (by show 62 < 2 * 99;omega) (fun j hj=> ?_) (Nat.le_of_ble_eq_true rfl) (fun ug FG GQ=>q5.kr) (hK _ g4 (by grind) (by grind)) zf hB (fun Bb k19 b19 DI=>wV rfl ?_) (fun Bb nC GR GS k19 b19 DI fA=>wV rfl ?_)
 ·have:j=52:=by simpa [ax,AV.cL] using hj
  subst this;intro h;cases h
 ·have vi:kA ([]:List aN).length (e.1 - ai e.1 (aD S F e.2)) (kW [] (aD S F e.2 - ai e.1 (aD S F e.2)))=[]:=if_neg DI
  (repeat first|refine wN ?_|refine wP rfl ?_|refine af rfl ?_|refine ag rfl ?_|refine wO rfl rfl ?_)
  refine VO.cZ (x:=.val (.slice none 0 0)) (p:=fun _=>none) (c:=0) rfl (fun β=>.inr ⟨none,rfl⟩) rfl (fk Tryz.func75) rfl (fun Dk Mq Mr=>wV rfl ?_)
  (repeat first|refine wN ?_|refine wP rfl ?_|refine af rfl ?_|refine ag rfl ?_|refine wO rfl rfl ?_)
  have pO:dk S F keep ([]:List aN).length ⟨[],[],[]⟩ e=⟨[],[]++[dD S F [] e],[]⟩:=by rw [mf,vi,nw];rfl
  (repeat first|refine wN ?_|refine wP rfl ?_|refine af rfl ?_|refine ag rfl ?_|refine wO rfl rfl ?_)
  refine VS.ky (bk _ _) rfl (fun wz β kz oz en=> ?_)
  obtain ⟨o1,o2⟩:=eb (en.own 198 _ _ rfl) 0 g rfl rfl
  have oR:=(en.own 52 _ _ rfl).cls
  rw [List.map_append,ah] at oR
  have nR:=fh hB dU (show cB 99 [g] w 52 (β 52) from (en.own 52 _ _ rfl).new)
  rw [pO]
  refine ⟨rfl,oz.1,[g,β 52],⟨fun b hb=> ?_,_,_,_,o2,?_⟩⟩
  ·simp only [List.mem_cons,List.not_mem_nil,or_false] at hb
   rcases hb with rfl | rfl
   ·exact zn
   ·exact nR
  ·exact .inr (.inl ⟨β 52,rfl,rfl,rfl,rfl,rfl,⟨_,_,_,_,rfl,oR,(fq.kp (az B) (by (with_reducible (repeat (first | assumption | exact kU _ | exact kR _ | exact Kp.of (U:=UU) (by assumption) | exact aE.of (by assumption) | refine kT ?_ (by assumption)))))).o β⟩⟩)
 ·obtain ⟨q2,sA⟩:∃ q2:List Vq,q2=[(([]:List aN).length,e.1 - ai e.1 (aD S F e.2))]:=⟨_,rfl⟩
  rw [←sA] at fA
  have vi:kA ([]:List aN).length (e.1 - ai e.1 (aD S F e.2)) (kW [] (aD S F e.2 - ai e.1 (aD S F e.2)))=q2:=by rw [sA];exact if_pos DI
  obtain ⟨nz,Ms⟩:∃ nz,nz=1:=⟨_,rfl⟩
  obtain ⟨fw,Dl⟩:∃ fw,fw=0:=⟨_,rfl⟩
  obtain ⟨kC,Dm⟩:∃ kC:List Value,kC=[]:=⟨_,rfl⟩
  have fA:cY (cH B) 5 Bb nz fw nC kC GR GS q2:=by rw [Ms,Dl,Dm];exact fA
  refine VO.nil ?_
  refine VS.narrow [(0,.box 198 0),(2,.val (.int .i64 (([]:List aN).length:Int))),(5,.box 5 0),(8,.box 8 0)] [(198,(Runner,[.row 62 fw nz nC,.row 52 0 nI lD,.val (.slice none 0 0)])),(52,(dT,qQ.flatten.map AV.val++uT)),(5,(28,([.bool sS,.slice pS nS cS,.bool tS,.slice yS mS dS,.bool sF,.slice pF nF cF,.bool tF,.slice yF mF dF,.int .i64 (keep:Int)]:List Value).map AV.val)),(8,(dT,([.bool s1,.slice p1 n1 c1,.bool t1,.slice y1 m1 d1,.bool s4,.slice p4 n4 c4,.bool t4,.slice y4 m4 d4,.bool s5,.slice p5 n5 c5,.bool t5,.slice y5 m5 d5,.bool s7,.slice p7 n7 c7,.bool t7,.slice y7 m7 d7,.bool s8,.slice p8 n8 c8,.bool t8,.slice y8 m8 d8,.bool s2,.slice p2 n2 c2,.bool t2,.slice y2 m2 d2,.bool s3,.slice p3 n3 c3,.bool t3,.slice y3 m3 d3]:List Value).map AV.val)),(62,(cO,(kC++(GR.flatten++GS)).map AV.val))] ⟨rfl,rfl,rfl,rfl,trivial⟩ ⟨by rw [Dl,Ms];rfl,rfl,rfl,rfl,by rw [Dm];rfl,trivial⟩ rfl ⟨.lit rfl,.append (.vals _) (.none iB),.vals _,.vals _,.vals _,trivial⟩ ?_
  (repeat first|refine wN ?_|refine wP rfl ?_|refine af rfl ?_|refine ag rfl ?_|refine wO rfl rfl ?_)
  by_cases lI:nz=0
  ·refine VO.cZ (x:=.row 62 fw nz nC) (p:=fun _=>none) (c:=nC) rfl (fun β=>.inr ⟨_,congrArg (fun n=>Value.slice (some ⟨β 62,fw,none⟩) n nC) lI⟩) rfl (fk Tryz.func75) rfl (fun Dk Mq Mr=>wV rfl ?_)
   (repeat first|refine wN ?_|refine wP rfl ?_|refine af rfl ?_|refine ag rfl ?_|refine wO rfl rfl ?_)
   have AD:q2=[]:=List.eq_nil_of_length_eq_zero (by rw [←fA.len];exact lI)
   have pO:dk S F keep ([]:List aN).length ⟨[],[],[]⟩ e=⟨q2,[]++[dD S F [] e],[]⟩:=by rw [mf,vi,nw,AD];rfl
   (repeat first|refine wN ?_|refine wP rfl ?_|refine af rfl ?_|refine ag rfl ?_|refine wO rfl rfl ?_)
   refine VS.ky (bk _ _) rfl (fun wz β kz oz en=> ?_)
   obtain ⟨o1,o2⟩:=eb (en.own 198 _ _ rfl) 0 g rfl rfl
   have oR:=(en.own 52 _ _ rfl).cls
   rw [List.map_append,ah] at oR
   have nR:=fh hB dU (show cB 99 [g] w 52 (β 52) from (en.own 52 _ _ rfl).new)
   have oV:=(en.own 62 _ _ rfl).cls
   rw [ah] at oV
   have nV:=fh hB dU (show cB 99 [g] w 62 (β 62) from (en.own 62 _ _ rfl).new)
   rw [pO]
   refine ⟨rfl,oz.1,[g,β 62,β 52],⟨fun b hb=> ?_,_,_,_,o2,?_⟩⟩
   ·simp only [List.mem_cons,List.not_mem_nil,or_false] at hb
    rcases hb with rfl | rfl | rfl
    ·exact zn
    ·exact nV
    ·exact nR
   ·exact .inr (.inr (.inl ⟨β 62,β 52,rfl,rfl,rfl,⟨_,_,_,_,_,_,rfl,oV,fA.kp (aM B) (by (with_reducible (repeat (first | assumption | exact kU _ | exact kR _ | exact Kp.of (U:=UU) (by assumption) | exact aE.of (by assumption) | refine kT ?_ (by assumption)))))⟩,⟨_,_,_,_,rfl,oR,(fq.kp (az B) (by (with_reducible (repeat (first | assumption | exact kU _ | exact kR _ | exact Kp.of (U:=UU) (by assumption) | exact aE.of (by assumption) | refine kT ?_ (by assumption)))))).o β⟩⟩))
  obtain ⟨pp,qt,KZ⟩:∃ pp qt,q2=pp::qt:=by
   cases q2 with
   | nil=>exact absurd fA.len lI
   | cons pp qt=>exact ⟨pp,qt,rfl⟩
  subst KZ
  obtain ⟨AE,vM,rfl,hE4,sB⟩:∃ AE vM,GR=AE::vM∧cH B Bb AE pp∧cM (cH B) Bb qt vM:=by
   have:=fA.el
   cases this with
   | cons h1 h2=>exact ⟨_,_,rfl,h1,h2⟩
  obtain ⟨s9,p9,n9,c9,t9,y9,m9,d9,rfl,Jk⟩:=hE4
  have AG:=fA.le
  have AH:=fA.len
  have AJ:=fA.cm
  have jH:kC.length=fw:=fA.pl.resolve_right (by omega)
  refine VO.cI rfl rfl (fk Tryz.func75) rfl lI (by intro h;cases h) (fun Dk Mq Mr=>wV rfl ?_)
  (repeat first|refine wN ?_|refine wP rfl ?_|refine af rfl ?_|refine ag rfl ?_|refine wO rfl rfl ?_)
  refine VO.dh rfl (([.int .i64 (pp.1:Int)]:List Value).map .val) rfl (bh jH 0 _ ⟨_,rfl⟩) (wV rfl ?_)
  (repeat first|refine wN ?_|refine wP rfl ?_|refine af rfl ?_|refine ag rfl ?_|refine wO rfl rfl ?_)
  have GU:IntKind.i64.wrap ((([]:List aN).length:Int) - (keep:Int))=(([]:List aN).length:Int) - (keep:Int):=IntWalk.i64_in _ (by omega)
  by_cases hx:pp.1 + keep=([]:List aN).length
  ·refine VS.bE rfl (by rw [GU,beq_iff_eq];omega) ?_
   (repeat first|refine wN ?_|refine wP rfl ?_|refine af rfl ?_|refine ag rfl ?_|refine wO rfl rfl ?_)
   refine VO.dh rfl (([.int .i64 (pp.1:Int)]:List Value).map .val) rfl (bh jH 0 _ ⟨_,rfl⟩) (wV rfl ?_)
   (repeat first|refine wN ?_|refine wP rfl ?_|refine af rfl ?_|refine ag rfl ?_|refine wO rfl rfl ?_)
   refine VO.dh rfl (([.bool s9,.slice p9 n9 c9,.bool t9,.slice y9 m9 d9]:List Value).map .val) rfl (bh jH 1 _ ⟨[],rfl⟩) (wV rfl ?_)
   (repeat first|refine wN ?_|refine wP rfl ?_|refine af rfl ?_|refine ag rfl ?_|refine wO rfl rfl ?_)
   have fi:=fq.len
   have Cp:pp.1 < nI:=by rw [fi,List.length_append,List.length_singleton];omega
   refine VO.cond rfl ⟨by omega,by omega⟩ (wV rfl ?_)
   obtain ⟨rq,zo⟩:∃ rq,([]++[dD S F [] e])[pp.1]? =some rq:=⟨_,List.getElem?_eq_getElem (by rw [←fi];exact Cp)⟩
   obtain ⟨zp,tI,zt⟩:=fq.el.at pp.1 rq zo
   have gG:=fq.fl
   have Jl:=fq.le
   refine VO.cond rfl (by show 0 + ((pp.1:Int)).toNat * 28 + 20 + 4≤_;rw [gG,Int.toNat_natCast];omega) (VO.ft 52 rfl (kh (new:=[.bool s9,.slice p9 n9 c9,.bool t9,.slice y9 m9 d9]) (o:=20) (fq.el.lens (az B)) tI (Nat.le_of_ble_eq_true rfl)) (wV rfl ?_))
   (repeat first|refine wN ?_|refine wP rfl ?_|refine af rfl ?_|refine ag rfl ?_|refine wO rfl rfl ?_)
   have hR3:nv (dG B) 28 Dk nI lD (qQ.set pp.1 (zp.take 20++([.bool s9,.slice p9 n9 c9,.bool t9,.slice y9 m9 d9]++zp.drop (20 + ([.bool s9,.slice p9 n9 c9,.bool t9,.slice y9 m9 d9]:List Value).length)))) uT (([]++[dD S F [] e]).modify pp.1 (fun r=>{ r with aZ:=pp.2 })):=
    ⟨by rw [List.length_modify];exact fi,by rw [gJ zo];exact (fq.el.kp (az B) (by (with_reducible (repeat (first | assumption | exact kU _ | exact kR _ | exact Kp.of (U:=UU) (by assumption) | exact aE.of (by assumption) | refine kT ?_ (by assumption)))))).set (oK ((az B).kp zt (by (with_reducible (repeat (first | assumption | exact kU _ | exact kR _ | exact Kp.of (U:=UU) (by assumption) | exact aE.of (by assumption) | refine kT ?_ (by assumption)))))) ⟨_,_,_,_,_,_,_,_,rfl,Jk.kp (by (with_reducible (repeat (first | assumption | exact kU _ | exact kR _ | exact Kp.of (U:=UU) (by assumption) | exact aE.of (by assumption) | refine kT ?_ (by assumption)))))⟩),fq.so,fq.sl,fq.le,fq.cm,by
     rw [List.length_append,List.length_map,cW (kj (fq.el.lens (az B)) (sq ((az B).len zt) rfl)),List.length_set]
     rw [List.length_append,List.length_map,cW (fq.el.lens (az B))] at gG
     exact gG⟩
   refine VO.iA rfl rfl (fk Tryz.func76) rfl (by omega) AG AJ (fun j hj=> ?_) (Nat.le_of_ble_eq_true rfl) (fun w21 k21 b21=>wV rfl ?_)
   ·simp only [ax,AV.cL,List.flatMap_cons,List.flatMap_nil,List.mem_append,List.mem_cons,List.not_mem_nil,or_false,List.append_nil] at hj
    rcases hj with rfl | rfl <;> (intro h;cases h)
   (repeat first|refine wN ?_|refine wP rfl ?_|refine af rfl ?_|refine ag rfl ?_|refine wO rfl rfl ?_)
   have hV4:cY (cH B) 5 w21 (nz - 1) (if nC=1 then fw else fw + 5) (nC - 1) (kC++[.int .i64 (pp.1:Int),.bool s9,.slice p9 n9 c9,.bool t9,.slice y9 m9 d9]) vM GS qt:=⟨by rw [AH];rfl,mM jH,by rw [List.all_append,fA.po];rfl,sB.kp (aM B) (by (with_reducible (repeat (first | assumption | exact kU _ | exact kR _ | exact Kp.of (U:=UU) (by assumption) | exact aE.of (by assumption) | refine kT ?_ (by assumption))))),fA.so,by omega,by omega,mO fA.fl⟩
   have pO:dk S F keep ([]:List aN).length ⟨[],[],[]⟩ e=⟨qt,([]++[dD S F [] e]).modify pp.1 (fun r=>{ r with aZ:=pp.2 }),[]⟩:=by
    rw [mf,vi,nw]
    exact if_pos hx
   (repeat first|refine wN ?_|refine wP rfl ?_|refine af rfl ?_|refine ag rfl ?_|refine wO rfl rfl ?_)
   refine VS.ky (bk _ _) rfl (fun wz β kz oz en=> ?_)
   obtain ⟨o1,o2⟩:=eb (en.own 198 _ _ rfl) 0 g rfl rfl
   have oR:=(en.own 52 _ _ rfl).cls
   rw [List.map_append,ah] at oR
   have nR:=fh hB dU (show cB 99 [g] w 52 (β 52) from (en.own 52 _ _ rfl).new)
   have oV:=(en.own 62 _ _ rfl).cls
   rw [dM,ah] at oV
   have nV:=fh hB dU (show cB 99 [g] w 62 (β 62) from (en.own 62 _ _ rfl).new)
   rw [pO]
   refine ⟨rfl,oz.1,[g,β 62,β 52],⟨fun b hb=> ?_,_,_,_,o2,?_⟩⟩
   ·simp only [List.mem_cons,List.not_mem_nil,or_false] at hb
    rcases hb with rfl | rfl | rfl
    ·exact zn
    ·exact nV
    ·exact nR
   ·exact .inr (.inr (.inl ⟨β 62,β 52,rfl,rfl,rfl,⟨_,_,_,_,_,_,rfl,oV,hV4.kp (aM B) (by (with_reducible (repeat (first | assumption | exact kU _ | exact kR _ | exact Kp.of (U:=UU) (by assumption) | exact aE.of (by assumption) | refine kT ?_ (by assumption)))))⟩,⟨_,_,_,_,rfl,oR,(hR3.kp (az B) (by (with_reducible (repeat (first | assumption | exact kU _ | exact kR _ | exact Kp.of (U:=UU) (by assumption) | exact aE.of (by assumption) | refine kT ?_ (by assumption)))))).o β⟩⟩))
  ·refine VS.bu rfl (by rw [GU,beq_eq_false_iff_ne];omega) ?_
   have pO:dk S F keep ([]:List aN).length ⟨[],[],[]⟩ e=⟨pp::qt,[]++[dD S F [] e],[]⟩:=by
    rw [mf,vi,nw]
    exact if_neg hx
   (repeat first|refine wN ?_|refine wP rfl ?_|refine af rfl ?_|refine ag rfl ?_|refine wO rfl rfl ?_)
   refine VS.ky (bk _ _) rfl (fun wz β kz oz en=> ?_)
   obtain ⟨o1,o2⟩:=eb (en.own 198 _ _ rfl) 0 g rfl rfl
   have oR:=(en.own 52 _ _ rfl).cls
   rw [List.map_append,ah] at oR
   have nR:=fh hB dU (show cB 99 [g] w 52 (β 52) from (en.own 52 _ _ rfl).new)
   have oV:=(en.own 62 _ _ rfl).cls
   rw [ah] at oV
   have nV:=fh hB dU (show cB 99 [g] w 62 (β 62) from (en.own 62 _ _ rfl).new)
   rw [pO]
   refine ⟨rfl,oz.1,[g,β 62,β 52],⟨fun b hb=> ?_,_,_,_,o2,?_⟩⟩
   ·simp only [List.mem_cons,List.not_mem_nil,or_false] at hb
    rcases hb with rfl | rfl | rfl
    ·exact zn
    ·exact nV
    ·exact nR
   ·exact .inr (.inr (.inl ⟨β 62,β 52,rfl,rfl,rfl,⟨_,_,_,_,_,_,rfl,oV,fA.kp (aM B) (by (with_reducible (repeat (first | assumption | exact kU _ | exact kR _ | exact Kp.of (U:=UU) (by assumption) | exact aE.of (by assumption) | refine kT ?_ (by assumption)))))⟩,⟨_,_,_,_,rfl,oR,(fq.kp (az B) (by (with_reducible (repeat (first | assumption | exact kU _ | exact kR _ | exact Kp.of (U:=UU) (by assumption) | exact aE.of (by assumption) | refine kT ?_ (by assumption)))))).o β⟩⟩))
end Go.Proofs.YtabalinjfgcfeaaGreat
set_option maxRecDepth 4000
namespace Go.Proofs.YtabalinjfgcfeaaGreat
open Go.RowKit
attribute [local irreducible] aB VS
set_option maxRecDepth 4000 in
set_option maxHeartbeats 16000000 in
theorem iYear_B {B g keep D kk ks:Nat} {M S F:Rat} {e:Rat×Rat} {rb nr cr:Nat} {sT:List (List Value)} {uG:List Value} {q:List Vq} {rows:List aN} {uses:List Uq} {v u:Value} {w:World} (hg:aW w g Runner #[.slice none 0 0,.slice (some ⟨rb,0,none⟩) nr cr,.slice none 0 0]) (zu:aW w rb dT (sT.flatten++uG).toArray) (hR:cY (dG B) 28 w nr 0 cr [] sT uG rows)
  (uS:FA w v S F keep ks) (JP:YrV w u e ks) (ss:1≤ks) (yr:ks≤kk) (zf:kk≤100000) (vK:Iz D (aD S F e.2)) (DZ:aD S F e.2≤M) (JQ:Iz D e.1) (gL: -M≤e.1) (Ea:e.1≤M) (hK:∀ x,Iz D x→-(M + M)≤x→x≤M + M→dV x kk)
  (vL:xG D M ⟨[],rows,[]⟩) (uE:(rows:List aN).length≤64) (uF:keep≤40) (hB:B≤w.heap.size) (dU:∀ b∈[g,rb],B≤b):
  Calls Tryz.prog 39 #[.pointer (some ⟨g,0,none⟩),v,.int .i64 ((rows:List aN).length:Int),u] w fun o w'=>o=.returned (iC [])∧qA [g,rb] w w'∧∃ Mp,mY B w' g Mp (dk S F keep (rows:List aN).length ⟨[],rows,[]⟩ e):=by
 have hL0:=mK S F e.2
 have hM0:0≤M:=by grind
 obtain ⟨g1,g2,g3,g4,g5,g6,g7,g8,g9⟩:=sn vK hL0 DZ JQ gL Ea
 have zn:B≤g:=dU g (by simp)
 have hlen:=vL.len
 obtain ⟨sS,pS,nS,cS,tS,yS,mS,dS,sF,pF,nF,cF,tF,yF,mF,dF,rfl,hS,hF⟩:=uS
 obtain ⟨sN,pN,nN,cN,tN,yN,mN,dN,sE,pE,nE,cE,tE,yE,mE,dE,rfl,hN,hE⟩:=JP
 have pM:iG (KU UU) 99 [g,rb] [(Runner,[.val (.slice none 0 0),.row 199 0 nr cr,.val (.slice none 0 0)]),(dT,(sT.flatten++uG).map .val)] w:=by
  have Jm:g≠rb:=fun e=>by subst e;exact absurd (bo hg zu) (by decide)
  refine ⟨rfl,by simp [Jm],fun j g' c' hj hc=> ?_,fun c' hc=> ?_,fun c' hc k hk=> ?_⟩
  ·match j,hj,hc with
   | 0,hj,hc=>cases hj;cases hc;exact hg
   | 1,hj,hc=>cases hj;cases hc;rw [ah];exact zu
   | j + 2,hj,_=>simp at hj
  ·simp only [List.mem_cons,List.not_mem_nil,or_false] at hc
   rcases hc with rfl | rfl
   ·exact ⟨rfl,rfl⟩
   ·exact ⟨rfl,bb (hR.all (az B))⟩
  ·simp only [List.mem_cons,List.not_mem_nil,or_false] at hc
   rcases hc with rfl | rfl
   ·have:k=199:=by simpa [ax,AV.cL] using hk
    subst this;exact ⟨by omega,by show 199 < 2 * 99 + 2;omega⟩
   ·rw [ao] at hk;cases hk
 refine ea Tryz.prog w _ (KU UU) (fun t=>Nat.beq t 22) table (fun _ _=>trivial) (ad:=[g,rb]) (us:=[_,_,_]) Tryz.func39 rfl Tryz.ntmps39 (Nat.le_of_ble_eq_true rfl) pM (Nat.le_of_ble_eq_true rfl) ?_
 (repeat first|refine wN ?_|refine wP rfl ?_|refine af rfl ?_|refine ag rfl ?_|refine wO rfl rfl ?_)
 refine VO.call rfl rfl (fk Tryz.func70) (fun cC er dv=>((mP _ _ S F keep e ks cC ⟨_,_,_,_,_,_,_,_,_,_,_,_,_,_,_,_,rfl,hS.k,hF.k⟩ ⟨_,_,_,_,_,_,_,_,_,_,_,_,_,_,_,_,rfl,hN.k,hE.k⟩ ss (by omega)).mono (fun o w2 h=>And.intro h dv.1.size)).mono ?_)
 rintro o w1 ⟨⟨r1,rfl,q1,aV⟩,FD⟩
 obtain ⟨s1,p1,n1,c1,t1,y1,m1,d1,rfl⟩:=q1.form
 refine ⟨_,rfl,aV,fun fe _ bb1=>wV rfl ?_⟩
 replace q1:=q1.mono (Nat.le_trans hB FD)
 (repeat first|refine wN ?_|refine wP rfl ?_|refine af rfl ?_|refine ag rfl ?_|refine wO rfl rfl ?_)
 refine VO.call rfl rfl (fk Tryz.func44) (fun dC gu eu=>((bF 0 dC (by omega) (by omega)).mono (fun o w2 h=>And.intro h eu.1.size)).mono ?_)
 rintro o w2 ⟨⟨r2,rfl,q2,bm⟩,qN⟩
 obtain ⟨s2,p2,n2,c2,t2,y2,m2,d2,rfl⟩:=q2.form
 refine ⟨_,rfl,bm,fun fZ _ bb2=>wV rfl ?_⟩
 replace q2:=q2.mono (Nat.le_trans hB qN)
 (repeat first|refine wN ?_|refine wP rfl ?_|refine af rfl ?_|refine ag rfl ?_|refine wO rfl rfl ?_)
 refine VO.call rfl rfl (fk Tryz.func44) (fun gv gY gV=>((bF 0 gv (by omega) (by omega)).mono (fun o w2 h=>And.intro h gV.1.size)).mono ?_)
 rintro o w3 ⟨⟨r3,rfl,q3,cD⟩,xH⟩
 obtain ⟨s3,p3,n3,c3,t3,y3,m3,d3,rfl⟩:=q3.form
 refine ⟨_,rfl,cD,fun kt _ bb3=>wV rfl ?_⟩
 replace q3:=q3.mono (Nat.le_trans hB xH)
 (repeat first|refine wN ?_|refine wP rfl ?_|refine af rfl ?_|refine ag rfl ?_|refine wO rfl rfl ?_)
 refine VO.fI rfl (fk Tryz.func71) (fun nj β qa qF ho=>((fJ _ _ e.1 [aD S F e.2] kk nj ((hN.k).up (by omega)) (dW (ho.own 20 (.base (List.mem_singleton.2 rfl)) _ _ rfl) [] (vs:=[[.bool s1,.slice p1 n1 c1,.bool t1,.slice y1 m1 d1]]) (by rfl) rfl (bZ.cons (q1.ki (hK _ vK (by grind) (by grind))) bZ.nil) (Nat.le_of_ble_eq_true rfl) (by decide)) (by omega) (Nat.le_of_ble_eq_true rfl)).mono (fun o w2 h=>And.intro h qF.1.size)).mono ?_)
 rintro o w4 ⟨⟨r4,rfl,q4,z4,gU⟩,FE⟩
 rw [gR] at q4
 obtain ⟨s4,p4,n4,c4,t4,y4,m4,d4,rfl⟩:=q4.form
 refine ⟨_,rfl,gU,fun pd _ AZ=>wV rfl ?_⟩
 replace q4:=q4.mono (Nat.le_trans hB FE)
 (repeat first|refine wN ?_|refine wP rfl ?_|refine af rfl ?_|refine ag rfl ?_|refine wO rfl rfl ?_)
 refine VO.call rfl rfl (fk Tryz.func72) (fun kg mG ku=>((bW _ _ e.1 (ai e.1 (aD S F e.2)) kk kk kg ((hN.k).up (by omega)) (q4.ki (hK _ g1 (by grind) (by grind))) (by omega) (by omega)).mono (fun o w2 h=>And.intro h ku.1.size)).mono ?_)
 rintro o w5 ⟨⟨r5,rfl,q5,gi⟩,qO⟩
 obtain ⟨s5,p5,n5,c5,t5,y5,m5,d5,rfl⟩:=q5.form
 refine ⟨_,rfl,gi,fun nk _ xf=>wV rfl ?_⟩
 replace q5:=q5.mono (Nat.le_trans hB qO)
 (repeat first|refine wN ?_|refine wP rfl ?_|refine af rfl ?_|refine ag rfl ?_|refine wO rfl rfl ?_)
 refine VO.call rfl rfl (fk Tryz.func72) (fun pK ux tw=>((bW _ _ (aD S F e.2) (ai e.1 (aD S F e.2)) kk kk pK (q1.ki (hK _ vK (by grind) (by grind))) (q4.ki (hK _ g1 (by grind) (by grind))) (by omega) (by omega)).mono (fun o w2 h=>And.intro h tw.1.size)).mono ?_)
 rintro o w6 ⟨⟨r6,rfl,q6,mX⟩,FF⟩
 obtain ⟨s6,p6,n6,c6,t6,y6,m6,d6,rfl⟩:=q6.form
 refine ⟨_,rfl,mX,fun tx _ CR=>wV rfl ?_⟩
 replace q6:=q6.mono (Nat.le_trans hB FF)
 (repeat first|refine wN ?_|refine wP rfl ?_|refine af rfl ?_|refine ag rfl ?_|refine wO rfl rfl ?_)
 have mf:dk S F keep (rows:List aN).length ⟨[],rows,[]⟩ e=rZ keep (rows:List aN).length ⟨kA (rows:List aN).length (e.1 - ai e.1 (aD S F e.2)) (kW [] (aD S F e.2 - ai e.1 (aD S F e.2))),rows++[dD S F [] e],[]++nH (rows:List aN).length [] (aD S F e.2 - ai e.1 (aD S F e.2))⟩:=rfl
 refine VO.sm (B:=B) (mm:=aD S F e.2 - ai e.1 (aD S F e.2)) kk rfl rfl (fk Tryz.func73) rfl (fun ug FG GQ=>q6.kr) hB (fun w7 r7 k7 b7 q7=> ?_)
 obtain ⟨s7,p7,n7,c7,t7,y7,m7,d7,rfl⟩:=q7.form
 refine wV rfl ?_
 (repeat first|refine wN ?_|refine wP rfl ?_|refine af rfl ?_|refine ag rfl ?_|refine wO rfl rfl ?_)
 have nw:([]:List Uq)++nH (rows:List aN).length [] (aD S F e.2 - ai e.1 (aD S F e.2))=[]:=rfl
 obtain ⟨u1,u2,u3⟩:=tH (q:=[]) (m:=aD S F e.2 - ai e.1 (aD S F e.2)) (fun p hp=>(by cases hp)) g7 g8
 refine VO.call rfl rfl (fk Tryz.func16) (fun uQ Fg zl=>((dx _ _ (ai e.1 (aD S F e.2)) ((0:Rat)) kk kk uQ (q4.ki (hK _ g1 (by grind) (by grind))) (q7.ki (hK _ u1 (by grind) (by grind))) (by omega) (by omega)).mono (fun o w2 h=>And.intro h zl.1.size)).mono ?_)
 rintro o w8 ⟨⟨r8,rfl,q8,qU⟩,yt⟩
 obtain ⟨s8,p8,n8,c8,t8,y8,m8,d8,rfl⟩:=q8.form
 refine ⟨_,rfl,qU,fun vH _ JL=>wV rfl ?_⟩
 replace q8:=q8.mono (Nat.le_trans hB yt)
 (repeat first|refine wN ?_|refine wP rfl ?_|refine af rfl ?_|refine ag rfl ?_|refine wO rfl rfl ?_)
 have LV:((0:Int):Rat)=0:=rfl
 have AA:dG B w8 [.bool s1,.slice p1 n1 c1,.bool t1,.slice y1 m1 d1,.bool s4,.slice p4 n4 c4,.bool t4,.slice y4 m4 d4,.bool s5,.slice p5 n5 c5,.bool t5,.slice y5 m5 d5,.bool s7,.slice p7 n7 c7,.bool t7,.slice y7 m7 d7,.bool s8,.slice p8 n8 c8,.bool t8,.slice y8 m8 d8,.bool s2,.slice p2 n2 c2,.bool t2,.slice y2 m2 d2,.bool s3,.slice p3 n3 c3,.bool t3,.slice y3 m3 d3] (dD S F [] e):=⟨[.bool s1,.slice p1 n1 c1,.bool t1,.slice y1 m1 d1],[.bool s4,.slice p4 n4 c4,.bool t4,.slice y4 m4 d4],[.bool s5,.slice p5 n5 c5,.bool t5,.slice y5 m5 d5],[.bool s7,.slice p7 n7 c7,.bool t7,.slice y7 m7 d7],[.bool s8,.slice p8 n8 c8,.bool t8,.slice y8 m8 d8],[.bool s2,.slice p2 n2 c2,.bool t2,.slice y2 m2 d2],[.bool s3,.slice p3 n3 c3,.bool t3,.slice y3 m3 d3],rfl,⟨_,_,_,_,_,_,_,_,rfl,q1.k⟩,⟨_,_,_,_,_,_,_,_,rfl,q4.k⟩,⟨_,_,_,_,_,_,_,_,rfl,q5.k⟩,⟨_,_,_,_,_,_,_,_,rfl,q7.k⟩,⟨_,_,_,_,_,_,_,_,rfl,q8.k⟩,⟨_,_,_,_,_,_,_,_,rfl,q2.k⟩,⟨_,_,_,_,_,_,_,_,rfl,q3.k⟩⟩
 obtain ⟨iD,jw⟩:=hR.el.ok (az B)
 have rn:=hR.len
 refine VO.app (bk _ _) (t:=33) (e:=dT) (sz:=28) (n:=nr) (c:=cr) (mm:=1) (known:=sT.flatten.map .val) (spare:=uG.map .val) (del:=some 199) (news:=([.bool s1,.slice p1 n1 c1,.bool t1,.slice y1 m1 d1,.bool s4,.slice p4 n4 c4,.bool t4,.slice y4 m4 d4,.bool s5,.slice p5 n5 c5,.bool t5,.slice y5 m5 d5,.bool s7,.slice p7 n7 c7,.bool t7,.slice y7 m7 d7,.bool s8,.slice p8 n8 c8,.bool t8,.slice y8 m8 d8,.bool s2,.slice p2 n2 c2,.bool t2,.slice y2 m2 d2,.bool s3,.slice p3 n3 c3,.bool t3,.slice y3 m3 d3]:List Value).map .val) (dst:=52) rfl rfl rfl rfl rfl rfl rfl rfl (Nat.le_of_ble_eq_true rfl) rfl (.inr ⟨199,rfl,congrArg (fun l=>some (dT,l)) (List.map_append ..),rfl⟩) (.inl rfl) (by rw [List.length_map,jw,rn]) (by rw [←List.map_append,List.length_map];exact hR.fl) hR.le hR.cm ⟨ao _,ao _,rfl⟩ ⟨bb iD,bb hR.so,rfl⟩ rfl (by omega)
  (fun w1 β k1 b1 ho=>⟨_,_,rfl,.inr ⟨β 51,0,rfl,cK (rest:=[]) (ho.own 51 (.base (List.mem_append_right _ (List.mem_singleton.2 rfl))) _ _ rfl) rfl⟩⟩)
  (fun nD lD uT ρ GM GN fC jc gm ed AB iB=>wV rfl ?_)
 (repeat (first | refine wN ?_ | refine wP rfl ?_ | refine af rfl ?_ | refine wO rfl rfl ?_))
 obtain ⟨nI,sw⟩:∃ nI,nI=nr + 1:=⟨_,rfl⟩
 obtain ⟨qQ,sx⟩:∃ qQ,qQ=(sT++[[.bool s1,.slice p1 n1 c1,.bool t1,.slice y1 m1 d1,.bool s4,.slice p4 n4 c4,.bool t4,.slice y4 m4 d4,.bool s5,.slice p5 n5 c5,.bool t5,.slice y5 m5 d5,.bool s7,.slice p7 n7 c7,.bool t7,.slice y7 m7 d7,.bool s8,.slice p8 n8 c8,.bool t8,.slice y8 m8 d8,.bool s2,.slice p2 n2 c2,.bool t2,.slice y2 m2 d2,.bool s3,.slice p3 n3 c3,.bool t3,.slice y3 m3 d3]]:List (List Value)):=⟨_,rfl⟩
 have fq:nv (dG B) 28 nD nI lD qQ uT (rows++[dD S F [] e]):=by rw [sw,sx];exact ⟨by rw [rn,List.length_append];rfl,(hR.el.kp (az B) (by (with_reducible (repeat (first | assumption | exact kU _ | exact kR _ | exact Kp.of (U:=UU) (by assumption) | exact aE.of (by assumption) | refine kT ?_ (by assumption)))))).snoc ((az B).kp AA (by (with_reducible (repeat (first | assumption | exact kU _ | exact kR _ | exact Kp.of (U:=UU) (by assumption) | exact aE.of (by assumption) | refine kT ?_ (by assumption)))))),AB,iB,jc,gm,by simpa using ed⟩
 refine VS.narrow [(0,.box 198 0),(2,.val (.int .i64 ((rows:List aN).length:Int))),(5,.box 5 0),(8,.box 8 0)] [(198,(Runner,[.val (.slice none 0 0),.row 52 0 nI lD,.val (.slice none 0 0)])),(52,(dT,qQ.flatten.map AV.val++uT)),(5,(28,([.bool sS,.slice pS nS cS,.bool tS,.slice yS mS dS,.bool sF,.slice pF nF cF,.bool tF,.slice yF mF dF,.int .i64 (keep:Int)]:List Value).map AV.val)),(8,(dT,([.bool s1,.slice p1 n1 c1,.bool t1,.slice y1 m1 d1,.bool s4,.slice p4 n4 c4,.bool t4,.slice y4 m4 d4,.bool s5,.slice p5 n5 c5,.bool t5,.slice y5 m5 d5,.bool s7,.slice p7 n7 c7,.bool t7,.slice y7 m7 d7,.bool s8,.slice p8 n8 c8,.bool t8,.slice y8 m8 d8,.bool s2,.slice p2 n2 c2,.bool t2,.slice y2 m2 d2,.bool s3,.slice p3 n3 c3,.bool t3,.slice y3 m3 d3]:List Value).map AV.val))] ⟨rfl,rfl,rfl,rfl,trivial⟩ ⟨by rw [sw];rfl,by rw [sx];exact congrArg (fun l=>some (dT,l++uT)) (by simp),rfl,rfl,trivial⟩ rfl ⟨.lit rfl,.append (.vals _) (.none iB),.vals _,.vals _,trivial⟩ ?_
 refine VS.draw (bk _ _) (jN _ _) [74] (by kernel_rfl) (VO.run 80 rfl ?_)
 refine VO.Dh (B:=B) (d2:=62) (d:=e.1 - ai e.1 (aD S F e.2)) kk rfl rfl rfl (fk Tryz.func74) rfl rfl (by show 62 < 2 * 99;omega) (fun j hj=> ?_) (Nat.le_of_ble_eq_true rfl) (fun ug FG GQ=>q5.kr) (hK _ g4 (by grind) (by grind)) zf hB (fun Bb k19 b19 DI=>wV rfl ?_) (fun Bb nC GR GS k19 b19 DI fA=>wV rfl ?_)
 ·have:j=52:=by simpa [ax,AV.cL] using hj
  subst this;intro h;cases h
 ·have vi:kA (rows:List aN).length (e.1 - ai e.1 (aD S F e.2)) (kW [] (aD S F e.2 - ai e.1 (aD S F e.2)))=[]:=if_neg DI
  (repeat first|refine wN ?_|refine wP rfl ?_|refine af rfl ?_|refine ag rfl ?_|refine wO rfl rfl ?_)
  refine VO.cZ (x:=.val (.slice none 0 0)) (p:=fun _=>none) (c:=0) rfl (fun β=>.inr ⟨none,rfl⟩) rfl (fk Tryz.func75) rfl (fun Dk Mq Mr=>wV rfl ?_)
  (repeat first|refine wN ?_|refine wP rfl ?_|refine af rfl ?_|refine ag rfl ?_|refine wO rfl rfl ?_)
  have pO:dk S F keep (rows:List aN).length ⟨[],rows,[]⟩ e=⟨[],rows++[dD S F [] e],[]⟩:=by rw [mf,vi,nw];rfl
  (repeat first|refine wN ?_|refine wP rfl ?_|refine af rfl ?_|refine ag rfl ?_|refine wO rfl rfl ?_)
  refine VS.ky (bk _ _) rfl (fun wz β kz oz en=> ?_)
  obtain ⟨o1,o2⟩:=eb (en.own 198 _ _ rfl) 0 g rfl rfl
  have oR:=(en.own 52 _ _ rfl).cls
  rw [List.map_append,ah] at oR
  have nR:=fh hB dU (show cB 99 [g,rb] w 52 (β 52) from (en.own 52 _ _ rfl).new)
  rw [pO]
  refine ⟨rfl,oz.1,[g,β 52],⟨fun b hb=> ?_,_,_,_,o2,?_⟩⟩
  ·simp only [List.mem_cons,List.not_mem_nil,or_false] at hb
   rcases hb with rfl | rfl
   ·exact zn
   ·exact nR
  ·exact .inr (.inl ⟨β 52,rfl,rfl,rfl,rfl,rfl,⟨_,_,_,_,rfl,oR,(fq.kp (az B) (by (with_reducible (repeat (first | assumption | exact kU _ | exact kR _ | exact Kp.of (U:=UU) (by assumption) | exact aE.of (by assumption) | refine kT ?_ (by assumption)))))).o β⟩⟩)
 ·obtain ⟨q2,sA⟩:∃ q2:List Vq,q2=[((rows:List aN).length,e.1 - ai e.1 (aD S F e.2))]:=⟨_,rfl⟩
  rw [←sA] at fA
  have vi:kA (rows:List aN).length (e.1 - ai e.1 (aD S F e.2)) (kW [] (aD S F e.2 - ai e.1 (aD S F e.2)))=q2:=by rw [sA];exact if_pos DI
  obtain ⟨nz,Ms⟩:∃ nz,nz=1:=⟨_,rfl⟩
  obtain ⟨fw,Dl⟩:∃ fw,fw=0:=⟨_,rfl⟩
  obtain ⟨kC,Dm⟩:∃ kC:List Value,kC=[]:=⟨_,rfl⟩
  have fA:cY (cH B) 5 Bb nz fw nC kC GR GS q2:=by rw [Ms,Dl,Dm];exact fA
  refine VO.nil ?_
  refine VS.narrow [(0,.box 198 0),(2,.val (.int .i64 ((rows:List aN).length:Int))),(5,.box 5 0),(8,.box 8 0)] [(198,(Runner,[.row 62 fw nz nC,.row 52 0 nI lD,.val (.slice none 0 0)])),(52,(dT,qQ.flatten.map AV.val++uT)),(5,(28,([.bool sS,.slice pS nS cS,.bool tS,.slice yS mS dS,.bool sF,.slice pF nF cF,.bool tF,.slice yF mF dF,.int .i64 (keep:Int)]:List Value).map AV.val)),(8,(dT,([.bool s1,.slice p1 n1 c1,.bool t1,.slice y1 m1 d1,.bool s4,.slice p4 n4 c4,.bool t4,.slice y4 m4 d4,.bool s5,.slice p5 n5 c5,.bool t5,.slice y5 m5 d5,.bool s7,.slice p7 n7 c7,.bool t7,.slice y7 m7 d7,.bool s8,.slice p8 n8 c8,.bool t8,.slice y8 m8 d8,.bool s2,.slice p2 n2 c2,.bool t2,.slice y2 m2 d2,.bool s3,.slice p3 n3 c3,.bool t3,.slice y3 m3 d3]:List Value).map AV.val)),(62,(cO,(kC++(GR.flatten++GS)).map AV.val))] ⟨rfl,rfl,rfl,rfl,trivial⟩ ⟨by rw [Dl,Ms];rfl,rfl,rfl,rfl,by rw [Dm];rfl,trivial⟩ rfl ⟨.lit rfl,.append (.vals _) (.none iB),.vals _,.vals _,.vals _,trivial⟩ ?_
  (repeat first|refine wN ?_|refine wP rfl ?_|refine af rfl ?_|refine ag rfl ?_|refine wO rfl rfl ?_)
  by_cases lI:nz=0
  ·refine VO.cZ (x:=.row 62 fw nz nC) (p:=fun _=>none) (c:=nC) rfl (fun β=>.inr ⟨_,congrArg (fun n=>Value.slice (some ⟨β 62,fw,none⟩) n nC) lI⟩) rfl (fk Tryz.func75) rfl (fun Dk Mq Mr=>wV rfl ?_)
   (repeat first|refine wN ?_|refine wP rfl ?_|refine af rfl ?_|refine ag rfl ?_|refine wO rfl rfl ?_)
   have AD:q2=[]:=List.eq_nil_of_length_eq_zero (by rw [←fA.len];exact lI)
   have pO:dk S F keep (rows:List aN).length ⟨[],rows,[]⟩ e=⟨q2,rows++[dD S F [] e],[]⟩:=by rw [mf,vi,nw,AD];rfl
   (repeat first|refine wN ?_|refine wP rfl ?_|refine af rfl ?_|refine ag rfl ?_|refine wO rfl rfl ?_)
   refine VS.ky (bk _ _) rfl (fun wz β kz oz en=> ?_)
   obtain ⟨o1,o2⟩:=eb (en.own 198 _ _ rfl) 0 g rfl rfl
   have oR:=(en.own 52 _ _ rfl).cls
   rw [List.map_append,ah] at oR
   have nR:=fh hB dU (show cB 99 [g,rb] w 52 (β 52) from (en.own 52 _ _ rfl).new)
   have oV:=(en.own 62 _ _ rfl).cls
   rw [ah] at oV
   have nV:=fh hB dU (show cB 99 [g,rb] w 62 (β 62) from (en.own 62 _ _ rfl).new)
   rw [pO]
   refine ⟨rfl,oz.1,[g,β 62,β 52],⟨fun b hb=> ?_,_,_,_,o2,?_⟩⟩
   ·simp only [List.mem_cons,List.not_mem_nil,or_false] at hb
    rcases hb with rfl | rfl | rfl
    ·exact zn
    ·exact nV
    ·exact nR
   ·exact .inr (.inr (.inl ⟨β 62,β 52,rfl,rfl,rfl,⟨_,_,_,_,_,_,rfl,oV,fA.kp (aM B) (by (with_reducible (repeat (first | assumption | exact kU _ | exact kR _ | exact Kp.of (U:=UU) (by assumption) | exact aE.of (by assumption) | refine kT ?_ (by assumption)))))⟩,⟨_,_,_,_,rfl,oR,(fq.kp (az B) (by (with_reducible (repeat (first | assumption | exact kU _ | exact kR _ | exact Kp.of (U:=UU) (by assumption) | exact aE.of (by assumption) | refine kT ?_ (by assumption)))))).o β⟩⟩))
  obtain ⟨pp,qt,KZ⟩:∃ pp qt,q2=pp::qt:=by
   cases q2 with
   | nil=>exact absurd fA.len lI
   | cons pp qt=>exact ⟨pp,qt,rfl⟩
  subst KZ
  obtain ⟨AE,vM,rfl,hE4,sB⟩:∃ AE vM,GR=AE::vM∧cH B Bb AE pp∧cM (cH B) Bb qt vM:=by
   have:=fA.el
   cases this with
   | cons h1 h2=>exact ⟨_,_,rfl,h1,h2⟩
  obtain ⟨s9,p9,n9,c9,t9,y9,m9,d9,rfl,Jk⟩:=hE4
  have AG:=fA.le
  have AH:=fA.len
  have AJ:=fA.cm
  have jH:kC.length=fw:=fA.pl.resolve_right (by omega)
  refine VO.cI rfl rfl (fk Tryz.func75) rfl lI (by intro h;cases h) (fun Dk Mq Mr=>wV rfl ?_)
  (repeat first|refine wN ?_|refine wP rfl ?_|refine af rfl ?_|refine ag rfl ?_|refine wO rfl rfl ?_)
  refine VO.dh rfl (([.int .i64 (pp.1:Int)]:List Value).map .val) rfl (bh jH 0 _ ⟨_,rfl⟩) (wV rfl ?_)
  (repeat first|refine wN ?_|refine wP rfl ?_|refine af rfl ?_|refine ag rfl ?_|refine wO rfl rfl ?_)
  have GU:IntKind.i64.wrap (((rows:List aN).length:Int) - (keep:Int))=((rows:List aN).length:Int) - (keep:Int):=IntWalk.i64_in _ (by omega)
  by_cases hx:pp.1 + keep=(rows:List aN).length
  ·refine VS.bE rfl (by rw [GU,beq_iff_eq];omega) ?_
   (repeat first|refine wN ?_|refine wP rfl ?_|refine af rfl ?_|refine ag rfl ?_|refine wO rfl rfl ?_)
   refine VO.dh rfl (([.int .i64 (pp.1:Int)]:List Value).map .val) rfl (bh jH 0 _ ⟨_,rfl⟩) (wV rfl ?_)
   (repeat first|refine wN ?_|refine wP rfl ?_|refine af rfl ?_|refine ag rfl ?_|refine wO rfl rfl ?_)
   refine VO.dh rfl (([.bool s9,.slice p9 n9 c9,.bool t9,.slice y9 m9 d9]:List Value).map .val) rfl (bh jH 1 _ ⟨[],rfl⟩) (wV rfl ?_)
   (repeat first|refine wN ?_|refine wP rfl ?_|refine af rfl ?_|refine ag rfl ?_|refine wO rfl rfl ?_)
   have fi:=fq.len
   have Cp:pp.1 < nI:=by rw [fi,List.length_append,List.length_singleton];omega
   refine VO.cond rfl ⟨by omega,by omega⟩ (wV rfl ?_)
   obtain ⟨rq,zo⟩:∃ rq,(rows++[dD S F [] e])[pp.1]? =some rq:=⟨_,List.getElem?_eq_getElem (by rw [←fi];exact Cp)⟩
   obtain ⟨zp,tI,zt⟩:=fq.el.at pp.1 rq zo
   have gG:=fq.fl
   have Jl:=fq.le
   refine VO.cond rfl (by show 0 + ((pp.1:Int)).toNat * 28 + 20 + 4≤_;rw [gG,Int.toNat_natCast];omega) (VO.ft 52 rfl (kh (new:=[.bool s9,.slice p9 n9 c9,.bool t9,.slice y9 m9 d9]) (o:=20) (fq.el.lens (az B)) tI (Nat.le_of_ble_eq_true rfl)) (wV rfl ?_))
   (repeat first|refine wN ?_|refine wP rfl ?_|refine af rfl ?_|refine ag rfl ?_|refine wO rfl rfl ?_)
   have hR3:nv (dG B) 28 Dk nI lD (qQ.set pp.1 (zp.take 20++([.bool s9,.slice p9 n9 c9,.bool t9,.slice y9 m9 d9]++zp.drop (20 + ([.bool s9,.slice p9 n9 c9,.bool t9,.slice y9 m9 d9]:List Value).length)))) uT ((rows++[dD S F [] e]).modify pp.1 (fun r=>{ r with aZ:=pp.2 })):=
    ⟨by rw [List.length_modify];exact fi,by rw [gJ zo];exact (fq.el.kp (az B) (by (with_reducible (repeat (first | assumption | exact kU _ | exact kR _ | exact Kp.of (U:=UU) (by assumption) | exact aE.of (by assumption) | refine kT ?_ (by assumption)))))).set (oK ((az B).kp zt (by (with_reducible (repeat (first | assumption | exact kU _ | exact kR _ | exact Kp.of (U:=UU) (by assumption) | exact aE.of (by assumption) | refine kT ?_ (by assumption)))))) ⟨_,_,_,_,_,_,_,_,rfl,Jk.kp (by (with_reducible (repeat (first | assumption | exact kU _ | exact kR _ | exact Kp.of (U:=UU) (by assumption) | exact aE.of (by assumption) | refine kT ?_ (by assumption)))))⟩),fq.so,fq.sl,fq.le,fq.cm,by
     rw [List.length_append,List.length_map,cW (kj (fq.el.lens (az B)) (sq ((az B).len zt) rfl)),List.length_set]
     rw [List.length_append,List.length_map,cW (fq.el.lens (az B))] at gG
     exact gG⟩
   refine VO.iA rfl rfl (fk Tryz.func76) rfl (by omega) AG AJ (fun j hj=> ?_) (Nat.le_of_ble_eq_true rfl) (fun w21 k21 b21=>wV rfl ?_)
   ·simp only [ax,AV.cL,List.flatMap_cons,List.flatMap_nil,List.mem_append,List.mem_cons,List.not_mem_nil,or_false,List.append_nil] at hj
    rcases hj with rfl | rfl <;> (intro h;cases h)
   (repeat first|refine wN ?_|refine wP rfl ?_|refine af rfl ?_|refine ag rfl ?_|refine wO rfl rfl ?_)
   have hV4:cY (cH B) 5 w21 (nz - 1) (if nC=1 then fw else fw + 5) (nC - 1) (kC++[.int .i64 (pp.1:Int),.bool s9,.slice p9 n9 c9,.bool t9,.slice y9 m9 d9]) vM GS qt:=⟨by rw [AH];rfl,mM jH,by rw [List.all_append,fA.po];rfl,sB.kp (aM B) (by (with_reducible (repeat (first | assumption | exact kU _ | exact kR _ | exact Kp.of (U:=UU) (by assumption) | exact aE.of (by assumption) | refine kT ?_ (by assumption))))),fA.so,by omega,by omega,mO fA.fl⟩
   have pO:dk S F keep (rows:List aN).length ⟨[],rows,[]⟩ e=⟨qt,(rows++[dD S F [] e]).modify pp.1 (fun r=>{ r with aZ:=pp.2 }),[]⟩:=by
    rw [mf,vi,nw]
    exact if_pos hx
   (repeat first|refine wN ?_|refine wP rfl ?_|refine af rfl ?_|refine ag rfl ?_|refine wO rfl rfl ?_)
   refine VS.ky (bk _ _) rfl (fun wz β kz oz en=> ?_)
   obtain ⟨o1,o2⟩:=eb (en.own 198 _ _ rfl) 0 g rfl rfl
   have oR:=(en.own 52 _ _ rfl).cls
   rw [List.map_append,ah] at oR
   have nR:=fh hB dU (show cB 99 [g,rb] w 52 (β 52) from (en.own 52 _ _ rfl).new)
   have oV:=(en.own 62 _ _ rfl).cls
   rw [dM,ah] at oV
   have nV:=fh hB dU (show cB 99 [g,rb] w 62 (β 62) from (en.own 62 _ _ rfl).new)
   rw [pO]
   refine ⟨rfl,oz.1,[g,β 62,β 52],⟨fun b hb=> ?_,_,_,_,o2,?_⟩⟩
   ·simp only [List.mem_cons,List.not_mem_nil,or_false] at hb
    rcases hb with rfl | rfl | rfl
    ·exact zn
    ·exact nV
    ·exact nR
   ·exact .inr (.inr (.inl ⟨β 62,β 52,rfl,rfl,rfl,⟨_,_,_,_,_,_,rfl,oV,hV4.kp (aM B) (by (with_reducible (repeat (first | assumption | exact kU _ | exact kR _ | exact Kp.of (U:=UU) (by assumption) | exact aE.of (by assumption) | refine kT ?_ (by assumption)))))⟩,⟨_,_,_,_,rfl,oR,(hR3.kp (az B) (by (with_reducible (repeat (first | assumption | exact kU _ | exact kR _ | exact Kp.of (U:=UU) (by assumption) | exact aE.of (by assumption) | refine kT ?_ (by assumption)))))).o β⟩⟩))
  ·refine VS.bu rfl (by rw [GU,beq_eq_false_iff_ne];omega) ?_
   have pO:dk S F keep (rows:List aN).length ⟨[],rows,[]⟩ e=⟨pp::qt,rows++[dD S F [] e],[]⟩:=by
    rw [mf,vi,nw]
    exact if_neg hx
   (repeat first|refine wN ?_|refine wP rfl ?_|refine af rfl ?_|refine ag rfl ?_|refine wO rfl rfl ?_)
   refine VS.ky (bk _ _) rfl (fun wz β kz oz en=> ?_)
   obtain ⟨o1,o2⟩:=eb (en.own 198 _ _ rfl) 0 g rfl rfl
   have oR:=(en.own 52 _ _ rfl).cls
   rw [List.map_append,ah] at oR
   have nR:=fh hB dU (show cB 99 [g,rb] w 52 (β 52) from (en.own 52 _ _ rfl).new)
   have oV:=(en.own 62 _ _ rfl).cls
   rw [ah] at oV
   have nV:=fh hB dU (show cB 99 [g,rb] w 62 (β 62) from (en.own 62 _ _ rfl).new)
   rw [pO]
   refine ⟨rfl,oz.1,[g,β 62,β 52],⟨fun b hb=> ?_,_,_,_,o2,?_⟩⟩
   ·simp only [List.mem_cons,List.not_mem_nil,or_false] at hb
    rcases hb with rfl | rfl | rfl
    ·exact zn
    ·exact nV
    ·exact nR
   ·exact .inr (.inr (.inl ⟨β 62,β 52,rfl,rfl,rfl,⟨_,_,_,_,_,_,rfl,oV,fA.kp (aM B) (by (with_reducible (repeat (first | assumption | exact kU _ | exact kR _ | exact Kp.of (U:=UU) (by assumption) | exact aE.of (by assumption) | refine kT ?_ (by assumption)))))⟩,⟨_,_,_,_,rfl,oR,(fq.kp (az B) (by (with_reducible (repeat (first | assumption | exact kU _ | exact kR _ | exact Kp.of (U:=UU) (by assumption) | exact aE.of (by assumption) | refine kT ?_ (by assumption)))))).o β⟩⟩))
end Go.Proofs.YtabalinjfgcfeaaGreat
set_option maxRecDepth 4000
namespace Go.Proofs.YtabalinjfgcfeaaGreat
open Go.RowKit
attribute [local irreducible] aB VS
set_option maxRecDepth 4000 in
set_option maxHeartbeats 16000000 in
theorem iYear_C {B g keep D kk ks:Nat} {M S F:Rat} {e:Rat×Rat} {vb off nq cq:Nat} {pre Mt:List Value} {Mu:List (List Value)} {rb nr cr:Nat} {sT:List (List Value)} {uG:List Value} {q:List Vq} {rows:List aN} {uses:List Uq} {v u:Value} {w:World} (hg:aW w g Runner #[.slice (some ⟨vb,off,none⟩) nq cq,.slice (some ⟨rb,0,none⟩) nr cr,.slice none 0 0]) (Bc:aW w vb cO (pre++(Mu.flatten++Mt)).toArray) (hV:cY (cH B) 5 w nq off cq pre Mu Mt q) (zu:aW w rb dT (sT.flatten++uG).toArray) (hR:cY (dG B) 28 w nr 0 cr [] sT uG rows)
  (uS:FA w v S F keep ks) (JP:YrV w u e ks) (ss:1≤ks) (yr:ks≤kk) (zf:kk≤100000) (vK:Iz D (aD S F e.2)) (DZ:aD S F e.2≤M) (JQ:Iz D e.1) (gL: -M≤e.1) (Ea:e.1≤M) (hK:∀ x,Iz D x→-(M + M)≤x→x≤M + M→dV x kk)
  (vL:xG D M ⟨q,rows,[]⟩) (uE:(rows:List aN).length≤64) (uF:keep≤40) (hB:B≤w.heap.size) (dU:∀ b∈[g,vb,rb],B≤b):
  Calls Tryz.prog 39 #[.pointer (some ⟨g,0,none⟩),v,.int .i64 ((rows:List aN).length:Int),u] w fun o w'=>o=.returned (iC [])∧qA [g,vb,rb] w w'∧∃ Mp,mY B w' g Mp (dk S F keep (rows:List aN).length ⟨q,rows,[]⟩ e):=by
 have hL0:=mK S F e.2
 have hM0:0≤M:=by grind
 obtain ⟨g1,g2,g3,g4,g5,g6,g7,g8,g9⟩:=sn vK hL0 DZ JQ gL Ea
 have zn:B≤g:=dU g (by simp)
 have hlen:=vL.len
 obtain ⟨sS,pS,nS,cS,tS,yS,mS,dS,sF,pF,nF,cF,tF,yF,mF,dF,rfl,hS,hF⟩:=uS
 obtain ⟨sN,pN,nN,cN,tN,yN,mN,dN,sE,pE,nE,cE,tE,yE,mE,dE,rfl,hN,hE⟩:=JP
 have jv:q.length≤1000:=by dsimp only at hlen;omega
 have pM:iG (KU UU) 99 [g,vb,rb] [(Runner,[.row 199 off nq cq,.row 200 0 nr cr,.val (.slice none 0 0)]),(cO,(pre++(Mu.flatten++Mt)).map .val),(dT,(sT.flatten++uG).map .val)] w:=by
  have Jm:g≠vb:=fun e=>by subst e;exact absurd (bo hg Bc) (by decide)
  have h02:g≠rb:=fun e=>by subst e;exact absurd (bo hg zu) (by decide)
  have Ae:vb≠rb:=fun e=>by subst e;exact absurd (bo Bc zu) (by decide)
  refine ⟨rfl,by simp [Jm,h02,Ae],fun j g' c' hj hc=> ?_,fun c' hc=> ?_,fun c' hc k hk=> ?_⟩
  ·match j,hj,hc with
   | 0,hj,hc=>cases hj;cases hc;exact hg
   | 1,hj,hc=>cases hj;cases hc;rw [ah];exact Bc
   | 2,hj,hc=>cases hj;cases hc;rw [ah];exact zu
   | j + 3,hj,_=>simp at hj
  ·simp only [List.mem_cons,List.not_mem_nil,or_false] at hc
   rcases hc with rfl | rfl | rfl
   ·exact ⟨rfl,rfl⟩
   ·exact ⟨rfl,bb (hV.all (aM B))⟩
   ·exact ⟨rfl,bb (hR.all (az B))⟩
  ·simp only [List.mem_cons,List.not_mem_nil,or_false] at hc
   rcases hc with rfl | rfl | rfl
   ·have:k=199∨k=200:=by simpa [ax,AV.cL] using hk
    rcases this with rfl | rfl
    ·exact ⟨by omega,by show 199 < 2 * 99 + 3;omega⟩
    ·exact ⟨by omega,by show 200 < 2 * 99 + 3;omega⟩
   ·rw [ao] at hk;cases hk
   ·rw [ao] at hk;cases hk
 refine ea Tryz.prog w _ (KU UU) (fun t=>Nat.beq t 22) table (fun _ _=>trivial) (ad:=[g,vb,rb]) (us:=[_,_,_]) Tryz.func39 rfl Tryz.ntmps39 (Nat.le_of_ble_eq_true rfl) pM (Nat.le_of_ble_eq_true rfl) ?_
 (repeat first|refine wN ?_|refine wP rfl ?_|refine af rfl ?_|refine ag rfl ?_|refine wO rfl rfl ?_)
 refine VO.call rfl rfl (fk Tryz.func70) (fun cC er dv=>((mP _ _ S F keep e ks cC ⟨_,_,_,_,_,_,_,_,_,_,_,_,_,_,_,_,rfl,hS.k,hF.k⟩ ⟨_,_,_,_,_,_,_,_,_,_,_,_,_,_,_,_,rfl,hN.k,hE.k⟩ ss (by omega)).mono (fun o w2 h=>And.intro h dv.1.size)).mono ?_)
 rintro o w1 ⟨⟨r1,rfl,q1,aV⟩,FD⟩
 obtain ⟨s1,p1,n1,c1,t1,y1,m1,d1,rfl⟩:=q1.form
 refine ⟨_,rfl,aV,fun fe _ bb1=>wV rfl ?_⟩
 replace q1:=q1.mono (Nat.le_trans hB FD)
 (repeat first|refine wN ?_|refine wP rfl ?_|refine af rfl ?_|refine ag rfl ?_|refine wO rfl rfl ?_)
 refine VO.call rfl rfl (fk Tryz.func44) (fun dC gu eu=>((bF 0 dC (by omega) (by omega)).mono (fun o w2 h=>And.intro h eu.1.size)).mono ?_)
 rintro o w2 ⟨⟨r2,rfl,q2,bm⟩,qN⟩
 obtain ⟨s2,p2,n2,c2,t2,y2,m2,d2,rfl⟩:=q2.form
 refine ⟨_,rfl,bm,fun fZ _ bb2=>wV rfl ?_⟩
 replace q2:=q2.mono (Nat.le_trans hB qN)
 (repeat first|refine wN ?_|refine wP rfl ?_|refine af rfl ?_|refine ag rfl ?_|refine wO rfl rfl ?_)
 refine VO.call rfl rfl (fk Tryz.func44) (fun gv gY gV=>((bF 0 gv (by omega) (by omega)).mono (fun o w2 h=>And.intro h gV.1.size)).mono ?_)
 rintro o w3 ⟨⟨r3,rfl,q3,cD⟩,xH⟩
 obtain ⟨s3,p3,n3,c3,t3,y3,m3,d3,rfl⟩:=q3.form
 refine ⟨_,rfl,cD,fun kt _ bb3=>wV rfl ?_⟩
 replace q3:=q3.mono (Nat.le_trans hB xH)
 (repeat first|refine wN ?_|refine wP rfl ?_|refine af rfl ?_|refine ag rfl ?_|refine wO rfl rfl ?_)
 refine VO.fI rfl (fk Tryz.func71) (fun nj β qa qF ho=>((fJ _ _ e.1 [aD S F e.2] kk nj ((hN.k).up (by omega)) (dW (ho.own 20 (.base (List.mem_singleton.2 rfl)) _ _ rfl) [] (vs:=[[.bool s1,.slice p1 n1 c1,.bool t1,.slice y1 m1 d1]]) (by rfl) rfl (bZ.cons (q1.ki (hK _ vK (by grind) (by grind))) bZ.nil) (Nat.le_of_ble_eq_true rfl) (by decide)) (by omega) (Nat.le_of_ble_eq_true rfl)).mono (fun o w2 h=>And.intro h qF.1.size)).mono ?_)
 rintro o w4 ⟨⟨r4,rfl,q4,z4,gU⟩,FE⟩
 rw [gR] at q4
 obtain ⟨s4,p4,n4,c4,t4,y4,m4,d4,rfl⟩:=q4.form
 refine ⟨_,rfl,gU,fun pd _ AZ=>wV rfl ?_⟩
 replace q4:=q4.mono (Nat.le_trans hB FE)
 (repeat first|refine wN ?_|refine wP rfl ?_|refine af rfl ?_|refine ag rfl ?_|refine wO rfl rfl ?_)
 refine VO.call rfl rfl (fk Tryz.func72) (fun kg mG ku=>((bW _ _ e.1 (ai e.1 (aD S F e.2)) kk kk kg ((hN.k).up (by omega)) (q4.ki (hK _ g1 (by grind) (by grind))) (by omega) (by omega)).mono (fun o w2 h=>And.intro h ku.1.size)).mono ?_)
 rintro o w5 ⟨⟨r5,rfl,q5,gi⟩,qO⟩
 obtain ⟨s5,p5,n5,c5,t5,y5,m5,d5,rfl⟩:=q5.form
 refine ⟨_,rfl,gi,fun nk _ xf=>wV rfl ?_⟩
 replace q5:=q5.mono (Nat.le_trans hB qO)
 (repeat first|refine wN ?_|refine wP rfl ?_|refine af rfl ?_|refine ag rfl ?_|refine wO rfl rfl ?_)
 refine VO.call rfl rfl (fk Tryz.func72) (fun pK ux tw=>((bW _ _ (aD S F e.2) (ai e.1 (aD S F e.2)) kk kk pK (q1.ki (hK _ vK (by grind) (by grind))) (q4.ki (hK _ g1 (by grind) (by grind))) (by omega) (by omega)).mono (fun o w2 h=>And.intro h tw.1.size)).mono ?_)
 rintro o w6 ⟨⟨r6,rfl,q6,mX⟩,FF⟩
 obtain ⟨s6,p6,n6,c6,t6,y6,m6,d6,rfl⟩:=q6.form
 refine ⟨_,rfl,mX,fun tx _ CR=>wV rfl ?_⟩
 replace q6:=q6.mono (Nat.le_trans hB FF)
 (repeat first|refine wN ?_|refine wP rfl ?_|refine af rfl ?_|refine ag rfl ?_|refine wO rfl rfl ?_)
 have mf:dk S F keep (rows:List aN).length ⟨q,rows,[]⟩ e=rZ keep (rows:List aN).length ⟨kA (rows:List aN).length (e.1 - ai e.1 (aD S F e.2)) (kW q (aD S F e.2 - ai e.1 (aD S F e.2))),rows++[dD S F q e],[]++nH (rows:List aN).length q (aD S F e.2 - ai e.1 (aD S F e.2))⟩:=rfl
 refine VO.Di (B:=B) (D:=D) (v:=199) (d2:=36) (M:=M + M) (mm:=aD S F e.2 - ai e.1 (aD S F e.2)) (q:=q) kk rfl rfl rfl (fk Tryz.func73) rfl rfl rfl (by show 36 < 2 * 99;omega) (by decide) rfl (fun _=>rfl) (fun j hj=> ?_) (Nat.le_of_ble_eq_true rfl) (fun ug FG GQ=>hV.kp (aM B) (by (with_reducible (repeat (first | assumption | exact kU _ | exact kR _ | exact Kp.of (U:=UU) (by assumption) | exact aE.of (by assumption) | refine kT ?_ (by assumption)))))) (fun ug FG GQ=>q6.kr) g7 g8 g9 (fun p hp=>⟨(vL.el p hp).1,(vL.el p hp).2.1,(vL.el p hp).2.2.1⟩) (fun x h1 h2 h3=>hK x h1 (by grind) h3) zf jv hB (fun w7 r7 Mv nq1 cq1 Mw Mx My k7 b7 q7 hun hV1=> ?_) (fun w7 r7 Mv nq1 cq1 Mw Mx My un uc vsu1 spu1 k7 b7 q7 hV1 hU1=> ?_)
 ·have:j=200:=by simpa [ax,AV.cL] using hj
  subst this;intro h;cases h
 ·obtain ⟨s7,p7,n7,c7,t7,y7,m7,d7,rfl⟩:=q7.form
  refine wV rfl ?_
  (repeat first|refine wN ?_|refine wP rfl ?_|refine af rfl ?_|refine ag rfl ?_|refine wO rfl rfl ?_)
  have nw:([]:List Uq)++nH rows.length q (aD S F e.2 - ai e.1 (aD S F e.2))=[]:=hun
  obtain ⟨u1,u2,u3⟩:=tH (q:=q) (m:=aD S F e.2 - ai e.1 (aD S F e.2)) (fun p hp=>⟨(vL.el p hp).1,(vL.el p hp).2.1⟩) g7 g8
  refine VO.call rfl rfl (fk Tryz.func16) (fun uQ Fg zl=>((dx _ _ (ai e.1 (aD S F e.2)) (qW q (aD S F e.2 - ai e.1 (aD S F e.2))) kk kk uQ (q4.ki (hK _ g1 (by grind) (by grind))) (q7.ki (hK _ u1 (by grind) (by grind))) (by omega) (by omega)).mono (fun o w2 h=>And.intro h zl.1.size)).mono ?_)
  rintro o w8 ⟨⟨r8,rfl,q8,qU⟩,yt⟩
  obtain ⟨s8,p8,n8,c8,t8,y8,m8,d8,rfl⟩:=q8.form
  refine ⟨_,rfl,qU,fun vH _ JL=>wV rfl ?_⟩
  replace q8:=q8.mono (Nat.le_trans hB yt)
  (repeat first|refine wN ?_|refine wP rfl ?_|refine af rfl ?_|refine ag rfl ?_|refine wO rfl rfl ?_)
  have LV:((0:Int):Rat)=0:=rfl
  have AA:dG B w8 [.bool s1,.slice p1 n1 c1,.bool t1,.slice y1 m1 d1,.bool s4,.slice p4 n4 c4,.bool t4,.slice y4 m4 d4,.bool s5,.slice p5 n5 c5,.bool t5,.slice y5 m5 d5,.bool s7,.slice p7 n7 c7,.bool t7,.slice y7 m7 d7,.bool s8,.slice p8 n8 c8,.bool t8,.slice y8 m8 d8,.bool s2,.slice p2 n2 c2,.bool t2,.slice y2 m2 d2,.bool s3,.slice p3 n3 c3,.bool t3,.slice y3 m3 d3] (dD S F q e):=⟨[.bool s1,.slice p1 n1 c1,.bool t1,.slice y1 m1 d1],[.bool s4,.slice p4 n4 c4,.bool t4,.slice y4 m4 d4],[.bool s5,.slice p5 n5 c5,.bool t5,.slice y5 m5 d5],[.bool s7,.slice p7 n7 c7,.bool t7,.slice y7 m7 d7],[.bool s8,.slice p8 n8 c8,.bool t8,.slice y8 m8 d8],[.bool s2,.slice p2 n2 c2,.bool t2,.slice y2 m2 d2],[.bool s3,.slice p3 n3 c3,.bool t3,.slice y3 m3 d3],rfl,⟨_,_,_,_,_,_,_,_,rfl,q1.k⟩,⟨_,_,_,_,_,_,_,_,rfl,q4.k⟩,⟨_,_,_,_,_,_,_,_,rfl,q5.k⟩,⟨_,_,_,_,_,_,_,_,rfl,q7.k⟩,⟨_,_,_,_,_,_,_,_,rfl,q8.k⟩,⟨_,_,_,_,_,_,_,_,rfl,q2.k⟩,⟨_,_,_,_,_,_,_,_,rfl,q3.k⟩⟩
  obtain ⟨iD,jw⟩:=hR.el.ok (az B)
  have rn:=hR.len
  refine VO.app (bk _ _) (t:=33) (e:=dT) (sz:=28) (n:=nr) (c:=cr) (mm:=1) (known:=sT.flatten.map .val) (spare:=uG.map .val) (del:=some 200) (news:=([.bool s1,.slice p1 n1 c1,.bool t1,.slice y1 m1 d1,.bool s4,.slice p4 n4 c4,.bool t4,.slice y4 m4 d4,.bool s5,.slice p5 n5 c5,.bool t5,.slice y5 m5 d5,.bool s7,.slice p7 n7 c7,.bool t7,.slice y7 m7 d7,.bool s8,.slice p8 n8 c8,.bool t8,.slice y8 m8 d8,.bool s2,.slice p2 n2 c2,.bool t2,.slice y2 m2 d2,.bool s3,.slice p3 n3 c3,.bool t3,.slice y3 m3 d3]:List Value).map .val) (dst:=52) rfl rfl rfl rfl rfl rfl rfl rfl (Nat.le_of_ble_eq_true rfl) rfl (.inr ⟨200,rfl,congrArg (fun l=>some (dT,l)) (List.map_append ..),rfl⟩) (.inl rfl) (by rw [List.length_map,jw,rn]) (by rw [←List.map_append,List.length_map];exact hR.fl) hR.le hR.cm ⟨ao _,ao _,rfl⟩ ⟨bb iD,bb hR.so,rfl⟩ rfl (by omega)
   (fun w1 β k1 b1 ho=>⟨_,_,rfl,.inr ⟨β 51,0,rfl,cK (rest:=[]) (ho.own 51 (.base (List.mem_append_right _ (List.mem_singleton.2 rfl))) _ _ rfl) rfl⟩⟩)
   (fun nD lD uT ρ GM GN fC jc gm ed AB iB=>VO.ft 199 rfl (dR (ao _) _ _) (wV rfl ?_))
  (repeat (first | refine wN ?_ | refine wP rfl ?_ | refine af rfl ?_ | refine wO rfl rfl ?_))
  obtain ⟨nI,sw⟩:∃ nI,nI=nr + 1:=⟨_,rfl⟩
  obtain ⟨qQ,sx⟩:∃ qQ,qQ=(sT++[[.bool s1,.slice p1 n1 c1,.bool t1,.slice y1 m1 d1,.bool s4,.slice p4 n4 c4,.bool t4,.slice y4 m4 d4,.bool s5,.slice p5 n5 c5,.bool t5,.slice y5 m5 d5,.bool s7,.slice p7 n7 c7,.bool t7,.slice y7 m7 d7,.bool s8,.slice p8 n8 c8,.bool t8,.slice y8 m8 d8,.bool s2,.slice p2 n2 c2,.bool t2,.slice y2 m2 d2,.bool s3,.slice p3 n3 c3,.bool t3,.slice y3 m3 d3]]:List (List Value)):=⟨_,rfl⟩
  have fq:nv (dG B) 28 nD nI lD qQ uT (rows++[dD S F q e]):=by rw [sw,sx];exact ⟨by rw [rn,List.length_append];rfl,(hR.el.kp (az B) (by (with_reducible (repeat (first | assumption | exact kU _ | exact kR _ | exact Kp.of (U:=UU) (by assumption) | exact aE.of (by assumption) | refine kT ?_ (by assumption)))))).snoc ((az B).kp AA (by (with_reducible (repeat (first | assumption | exact kU _ | exact kR _ | exact Kp.of (U:=UU) (by assumption) | exact aE.of (by assumption) | refine kT ?_ (by assumption)))))),AB,iB,jc,gm,by simpa using ed⟩
  refine VS.narrow [(0,.box 198 0),(2,.val (.int .i64 ((rows:List aN).length:Int))),(5,.box 5 0),(8,.box 8 0)] [(198,(Runner,[.row 199 Mv nq1 cq1,.row 52 0 nI lD,.val (.slice none 0 0)])),(52,(dT,qQ.flatten.map AV.val++uT)),(5,(28,([.bool sS,.slice pS nS cS,.bool tS,.slice yS mS dS,.bool sF,.slice pF nF cF,.bool tF,.slice yF mF dF,.int .i64 (keep:Int)]:List Value).map AV.val)),(8,(dT,([.bool s1,.slice p1 n1 c1,.bool t1,.slice y1 m1 d1,.bool s4,.slice p4 n4 c4,.bool t4,.slice y4 m4 d4,.bool s5,.slice p5 n5 c5,.bool t5,.slice y5 m5 d5,.bool s7,.slice p7 n7 c7,.bool t7,.slice y7 m7 d7,.bool s8,.slice p8 n8 c8,.bool t8,.slice y8 m8 d8,.bool s2,.slice p2 n2 c2,.bool t2,.slice y2 m2 d2,.bool s3,.slice p3 n3 c3,.bool t3,.slice y3 m3 d3]:List Value).map AV.val)),(199,(cO,(Mw++(Mx.flatten++My)).map AV.val))] ⟨rfl,rfl,rfl,rfl,trivial⟩ ⟨by rw [sw];rfl,by rw [sx];exact congrArg (fun l=>some (dT,l++uT)) (by simp),rfl,rfl,rfl,trivial⟩ rfl ⟨.lit rfl,.append (.vals _) (.none iB),.vals _,.vals _,.vals _,trivial⟩ ?_
  refine VS.draw (bk _ _) (jN _ _) [1000000 + 74] (by kernel_rfl) (VO.run 80 rfl ?_)
  have Mz:nq1≤1000:=by rw [hV1.len];have:=(xF rows.length q (aD S F e.2 - ai e.1 (aD S F e.2))).2;omega
  refine VO.xz (B:=B) (v:=199) (d2:=62) (d:=e.1 - ai e.1 (aD S F e.2)) (q:=kW q (aD S F e.2 - ai e.1 (aD S F e.2))) kk rfl rfl rfl (fk Tryz.func74) rfl rfl rfl (by show 62 < 2 * 99;omega) (by decide) (fun j hj=> ?_) rfl (fun ug FG GQ=>hV1.kp (aM B) (by (with_reducible (repeat (first | assumption | exact kU _ | exact kR _ | exact Kp.of (U:=UU) (by assumption) | exact aE.of (by assumption) | refine kT ?_ (by assumption)))))) (fun ug FG GQ=>q5.kr) (hK _ g4 (by grind) (by grind)) zf Mz hB (fun Bb fw nz nC kC GR GS ρ19 k19 b19 fA=> ?_)
  ·have:j=52:=by simpa [ax,AV.cL] using hj
   subst this;exact ⟨(by intro h;cases h),by decide⟩
  obtain ⟨q2,sA⟩:∃ q2:List Vq,q2=kA rows.length (e.1 - ai e.1 (aD S F e.2)) (kW q (aD S F e.2 - ai e.1 (aD S F e.2))):=⟨_,rfl⟩
  rw [←sA] at fA
  have vi:=sA.symm
  refine VO.ft 52 rfl (dR (by rw [cA,ao,iB];rfl) _ _) (wV rfl ?_)
  (repeat first|refine wN ?_|refine wP rfl ?_|refine af rfl ?_|refine ag rfl ?_|refine wO rfl rfl ?_)
  by_cases lI:nz=0
  ·refine VO.cZ (x:=.row 62 fw nz nC) (p:=fun _=>none) (c:=nC) rfl (fun β=>.inr ⟨_,congrArg (fun n=>Value.slice (some ⟨β 62,fw,none⟩) n nC) lI⟩) rfl (fk Tryz.func75) rfl (fun Dk Mq Mr=>wV rfl ?_)
   (repeat first|refine wN ?_|refine wP rfl ?_|refine af rfl ?_|refine ag rfl ?_|refine wO rfl rfl ?_)
   have AD:q2=[]:=List.eq_nil_of_length_eq_zero (by rw [←fA.len];exact lI)
   have pO:dk S F keep (rows:List aN).length ⟨q,rows,[]⟩ e=⟨q2,rows++[dD S F q e],[]⟩:=by rw [mf,vi,nw,AD];rfl
   (repeat first|refine wN ?_|refine wP rfl ?_|refine af rfl ?_|refine ag rfl ?_|refine wO rfl rfl ?_)
   refine VS.ky (bk _ _) rfl (fun wz β kz oz en=> ?_)
   obtain ⟨o1,o2⟩:=eb (en.own 198 _ _ rfl) 0 g rfl rfl
   have oR:=(en.own 52 _ _ rfl).cls
   rw [List.map_append,ah] at oR
   have nR:=fh hB dU (show cB 99 [g,vb,rb] w 52 (β 52) from (en.own 52 _ _ rfl).new)
   have oV:=(en.own 62 _ _ rfl).cls
   rw [ah] at oV
   have nV:=fh hB dU (show cB 99 [g,vb,rb] w 62 (β 62) from (en.own 62 _ _ rfl).new)
   rw [pO]
   refine ⟨rfl,oz.1,[g,β 62,β 52],⟨fun b hb=> ?_,_,_,_,o2,?_⟩⟩
   ·simp only [List.mem_cons,List.not_mem_nil,or_false] at hb
    rcases hb with rfl | rfl | rfl
    ·exact zn
    ·exact nV
    ·exact nR
   ·exact .inr (.inr (.inl ⟨β 62,β 52,rfl,rfl,rfl,⟨_,_,_,_,_,_,rfl,oV,fA.kp (aM B) (by (with_reducible (repeat (first | assumption | exact kU _ | exact kR _ | exact Kp.of (U:=UU) (by assumption) | exact aE.of (by assumption) | refine kT ?_ (by assumption)))))⟩,⟨_,_,_,_,rfl,oR,(fq.kp (az B) (by (with_reducible (repeat (first | assumption | exact kU _ | exact kR _ | exact Kp.of (U:=UU) (by assumption) | exact aE.of (by assumption) | refine kT ?_ (by assumption)))))).o β⟩⟩))
  obtain ⟨pp,qt,KZ⟩:∃ pp qt,q2=pp::qt:=by
   cases q2 with
   | nil=>exact absurd fA.len lI
   | cons pp qt=>exact ⟨pp,qt,rfl⟩
  subst KZ
  obtain ⟨AE,vM,rfl,hE4,sB⟩:∃ AE vM,GR=AE::vM∧cH B Bb AE pp∧cM (cH B) Bb qt vM:=by
   have:=fA.el
   cases this with
   | cons h1 h2=>exact ⟨_,_,rfl,h1,h2⟩
  obtain ⟨s9,p9,n9,c9,t9,y9,m9,d9,rfl,Jk⟩:=hE4
  have AG:=fA.le
  have AH:=fA.len
  have AJ:=fA.cm
  have jH:kC.length=fw:=fA.pl.resolve_right (by omega)
  refine VO.cI rfl rfl (fk Tryz.func75) rfl lI (by intro h;cases h) (fun Dk Mq Mr=>wV rfl ?_)
  (repeat first|refine wN ?_|refine wP rfl ?_|refine af rfl ?_|refine ag rfl ?_|refine wO rfl rfl ?_)
  refine VO.dh rfl (([.int .i64 (pp.1:Int)]:List Value).map .val) rfl (bh jH 0 _ ⟨_,rfl⟩) (wV rfl ?_)
  (repeat first|refine wN ?_|refine wP rfl ?_|refine af rfl ?_|refine ag rfl ?_|refine wO rfl rfl ?_)
  have GU:IntKind.i64.wrap (((rows:List aN).length:Int) - (keep:Int))=((rows:List aN).length:Int) - (keep:Int):=IntWalk.i64_in _ (by omega)
  by_cases hx:pp.1 + keep=(rows:List aN).length
  ·refine VS.bE rfl (by rw [GU,beq_iff_eq];omega) ?_
   (repeat first|refine wN ?_|refine wP rfl ?_|refine af rfl ?_|refine ag rfl ?_|refine wO rfl rfl ?_)
   refine VO.dh rfl (([.int .i64 (pp.1:Int)]:List Value).map .val) rfl (bh jH 0 _ ⟨_,rfl⟩) (wV rfl ?_)
   (repeat first|refine wN ?_|refine wP rfl ?_|refine af rfl ?_|refine ag rfl ?_|refine wO rfl rfl ?_)
   refine VO.dh rfl (([.bool s9,.slice p9 n9 c9,.bool t9,.slice y9 m9 d9]:List Value).map .val) rfl (bh jH 1 _ ⟨[],rfl⟩) (wV rfl ?_)
   (repeat first|refine wN ?_|refine wP rfl ?_|refine af rfl ?_|refine ag rfl ?_|refine wO rfl rfl ?_)
   have fi:=fq.len
   have Cp:pp.1 < nI:=by rw [fi,List.length_append,List.length_singleton];omega
   refine VO.cond rfl ⟨by omega,by omega⟩ (wV rfl ?_)
   obtain ⟨rq,zo⟩:∃ rq,(rows++[dD S F q e])[pp.1]? =some rq:=⟨_,List.getElem?_eq_getElem (by rw [←fi];exact Cp)⟩
   obtain ⟨zp,tI,zt⟩:=fq.el.at pp.1 rq zo
   have gG:=fq.fl
   have Jl:=fq.le
   refine VO.cond rfl (by show 0 + ((pp.1:Int)).toNat * 28 + 20 + 4≤_;rw [gG,Int.toNat_natCast];omega) (VO.ft 52 rfl (kh (new:=[.bool s9,.slice p9 n9 c9,.bool t9,.slice y9 m9 d9]) (o:=20) (fq.el.lens (az B)) tI (Nat.le_of_ble_eq_true rfl)) (wV rfl ?_))
   (repeat first|refine wN ?_|refine wP rfl ?_|refine af rfl ?_|refine ag rfl ?_|refine wO rfl rfl ?_)
   have hR3:nv (dG B) 28 Dk nI lD (qQ.set pp.1 (zp.take 20++([.bool s9,.slice p9 n9 c9,.bool t9,.slice y9 m9 d9]++zp.drop (20 + ([.bool s9,.slice p9 n9 c9,.bool t9,.slice y9 m9 d9]:List Value).length)))) uT ((rows++[dD S F q e]).modify pp.1 (fun r=>{ r with aZ:=pp.2 })):=
    ⟨by rw [List.length_modify];exact fi,by rw [gJ zo];exact (fq.el.kp (az B) (by (with_reducible (repeat (first | assumption | exact kU _ | exact kR _ | exact Kp.of (U:=UU) (by assumption) | exact aE.of (by assumption) | refine kT ?_ (by assumption)))))).set (oK ((az B).kp zt (by (with_reducible (repeat (first | assumption | exact kU _ | exact kR _ | exact Kp.of (U:=UU) (by assumption) | exact aE.of (by assumption) | refine kT ?_ (by assumption)))))) ⟨_,_,_,_,_,_,_,_,rfl,Jk.kp (by (with_reducible (repeat (first | assumption | exact kU _ | exact kR _ | exact Kp.of (U:=UU) (by assumption) | exact aE.of (by assumption) | refine kT ?_ (by assumption)))))⟩),fq.so,fq.sl,fq.le,fq.cm,by
     rw [List.length_append,List.length_map,cW (kj (fq.el.lens (az B)) (sq ((az B).len zt) rfl)),List.length_set]
     rw [List.length_append,List.length_map,cW (fq.el.lens (az B))] at gG
     exact gG⟩
   refine VO.iA rfl rfl (fk Tryz.func76) rfl (by omega) AG AJ (fun j hj=> ?_) (Nat.le_of_ble_eq_true rfl) (fun w21 k21 b21=>wV rfl ?_)
   ·simp only [ax,AV.cL,List.flatMap_cons,List.flatMap_nil,List.mem_append,List.mem_cons,List.not_mem_nil,or_false,List.append_nil] at hj
    rcases hj with rfl | rfl <;> (intro h;cases h)
   (repeat first|refine wN ?_|refine wP rfl ?_|refine af rfl ?_|refine ag rfl ?_|refine wO rfl rfl ?_)
   have hV4:cY (cH B) 5 w21 (nz - 1) (if nC=1 then fw else fw + 5) (nC - 1) (kC++[.int .i64 (pp.1:Int),.bool s9,.slice p9 n9 c9,.bool t9,.slice y9 m9 d9]) vM GS qt:=⟨by rw [AH];rfl,mM jH,by rw [List.all_append,fA.po];rfl,sB.kp (aM B) (by (with_reducible (repeat (first | assumption | exact kU _ | exact kR _ | exact Kp.of (U:=UU) (by assumption) | exact aE.of (by assumption) | refine kT ?_ (by assumption))))),fA.so,by omega,by omega,mO fA.fl⟩
   have pO:dk S F keep (rows:List aN).length ⟨q,rows,[]⟩ e=⟨qt,(rows++[dD S F q e]).modify pp.1 (fun r=>{ r with aZ:=pp.2 }),[]⟩:=by
    rw [mf,vi,nw]
    exact if_pos hx
   (repeat first|refine wN ?_|refine wP rfl ?_|refine af rfl ?_|refine ag rfl ?_|refine wO rfl rfl ?_)
   refine VS.ky (bk _ _) rfl (fun wz β kz oz en=> ?_)
   obtain ⟨o1,o2⟩:=eb (en.own 198 _ _ rfl) 0 g rfl rfl
   have oR:=(en.own 52 _ _ rfl).cls
   rw [List.map_append,ah] at oR
   have nR:=fh hB dU (show cB 99 [g,vb,rb] w 52 (β 52) from (en.own 52 _ _ rfl).new)
   have oV:=(en.own 62 _ _ rfl).cls
   rw [dM,ah] at oV
   have nV:=fh hB dU (show cB 99 [g,vb,rb] w 62 (β 62) from (en.own 62 _ _ rfl).new)
   rw [pO]
   refine ⟨rfl,oz.1,[g,β 62,β 52],⟨fun b hb=> ?_,_,_,_,o2,?_⟩⟩
   ·simp only [List.mem_cons,List.not_mem_nil,or_false] at hb
    rcases hb with rfl | rfl | rfl
    ·exact zn
    ·exact nV
    ·exact nR
   ·exact .inr (.inr (.inl ⟨β 62,β 52,rfl,rfl,rfl,⟨_,_,_,_,_,_,rfl,oV,hV4.kp (aM B) (by (with_reducible (repeat (first | assumption | exact kU _ | exact kR _ | exact Kp.of (U:=UU) (by assumption) | exact aE.of (by assumption) | refine kT ?_ (by assumption)))))⟩,⟨_,_,_,_,rfl,oR,(hR3.kp (az B) (by (with_reducible (repeat (first | assumption | exact kU _ | exact kR _ | exact Kp.of (U:=UU) (by assumption) | exact aE.of (by assumption) | refine kT ?_ (by assumption)))))).o β⟩⟩))
  ·refine VS.bu rfl (by rw [GU,beq_eq_false_iff_ne];omega) ?_
   have pO:dk S F keep (rows:List aN).length ⟨q,rows,[]⟩ e=⟨pp::qt,rows++[dD S F q e],[]⟩:=by
    rw [mf,vi,nw]
    exact if_neg hx
   (repeat first|refine wN ?_|refine wP rfl ?_|refine af rfl ?_|refine ag rfl ?_|refine wO rfl rfl ?_)
   refine VS.ky (bk _ _) rfl (fun wz β kz oz en=> ?_)
   obtain ⟨o1,o2⟩:=eb (en.own 198 _ _ rfl) 0 g rfl rfl
   have oR:=(en.own 52 _ _ rfl).cls
   rw [List.map_append,ah] at oR
   have nR:=fh hB dU (show cB 99 [g,vb,rb] w 52 (β 52) from (en.own 52 _ _ rfl).new)
   have oV:=(en.own 62 _ _ rfl).cls
   rw [ah] at oV
   have nV:=fh hB dU (show cB 99 [g,vb,rb] w 62 (β 62) from (en.own 62 _ _ rfl).new)
   rw [pO]
   refine ⟨rfl,oz.1,[g,β 62,β 52],⟨fun b hb=> ?_,_,_,_,o2,?_⟩⟩
   ·simp only [List.mem_cons,List.not_mem_nil,or_false] at hb
    rcases hb with rfl | rfl | rfl
    ·exact zn
    ·exact nV
    ·exact nR
   ·exact .inr (.inr (.inl ⟨β 62,β 52,rfl,rfl,rfl,⟨_,_,_,_,_,_,rfl,oV,fA.kp (aM B) (by (with_reducible (repeat (first | assumption | exact kU _ | exact kR _ | exact Kp.of (U:=UU) (by assumption) | exact aE.of (by assumption) | refine kT ?_ (by assumption)))))⟩,⟨_,_,_,_,rfl,oR,(fq.kp (az B) (by (with_reducible (repeat (first | assumption | exact kU _ | exact kR _ | exact Kp.of (U:=UU) (by assumption) | exact aE.of (by assumption) | refine kT ?_ (by assumption)))))).o β⟩⟩))
 ·obtain ⟨s7,p7,n7,c7,t7,y7,m7,d7,rfl⟩:=q7.form
  refine wV rfl ?_
  (repeat first|refine wN ?_|refine wP rfl ?_|refine af rfl ?_|refine ag rfl ?_|refine wO rfl rfl ?_)
  obtain ⟨JR,BH⟩:∃ JR,JR=nH rows.length q (aD S F e.2 - ai e.1 (aD S F e.2)):=⟨_,rfl⟩
  rw [←BH] at hU1
  have nw:([]:List Uq)++nH rows.length q (aD S F e.2 - ai e.1 (aD S F e.2))=JR:=BH.symm
  have xS:=hU1
  obtain ⟨u1,u2,u3⟩:=tH (q:=q) (m:=aD S F e.2 - ai e.1 (aD S F e.2)) (fun p hp=>⟨(vL.el p hp).1,(vL.el p hp).2.1⟩) g7 g8
  refine VO.call rfl rfl (fk Tryz.func16) (fun uQ Fg zl=>((dx _ _ (ai e.1 (aD S F e.2)) (qW q (aD S F e.2 - ai e.1 (aD S F e.2))) kk kk uQ (q4.ki (hK _ g1 (by grind) (by grind))) (q7.ki (hK _ u1 (by grind) (by grind))) (by omega) (by omega)).mono (fun o w2 h=>And.intro h zl.1.size)).mono ?_)
  rintro o w8 ⟨⟨r8,rfl,q8,qU⟩,yt⟩
  obtain ⟨s8,p8,n8,c8,t8,y8,m8,d8,rfl⟩:=q8.form
  refine ⟨_,rfl,qU,fun vH _ JL=>wV rfl ?_⟩
  replace q8:=q8.mono (Nat.le_trans hB yt)
  (repeat first|refine wN ?_|refine wP rfl ?_|refine af rfl ?_|refine ag rfl ?_|refine wO rfl rfl ?_)
  have LV:((0:Int):Rat)=0:=rfl
  have AA:dG B w8 [.bool s1,.slice p1 n1 c1,.bool t1,.slice y1 m1 d1,.bool s4,.slice p4 n4 c4,.bool t4,.slice y4 m4 d4,.bool s5,.slice p5 n5 c5,.bool t5,.slice y5 m5 d5,.bool s7,.slice p7 n7 c7,.bool t7,.slice y7 m7 d7,.bool s8,.slice p8 n8 c8,.bool t8,.slice y8 m8 d8,.bool s2,.slice p2 n2 c2,.bool t2,.slice y2 m2 d2,.bool s3,.slice p3 n3 c3,.bool t3,.slice y3 m3 d3] (dD S F q e):=⟨[.bool s1,.slice p1 n1 c1,.bool t1,.slice y1 m1 d1],[.bool s4,.slice p4 n4 c4,.bool t4,.slice y4 m4 d4],[.bool s5,.slice p5 n5 c5,.bool t5,.slice y5 m5 d5],[.bool s7,.slice p7 n7 c7,.bool t7,.slice y7 m7 d7],[.bool s8,.slice p8 n8 c8,.bool t8,.slice y8 m8 d8],[.bool s2,.slice p2 n2 c2,.bool t2,.slice y2 m2 d2],[.bool s3,.slice p3 n3 c3,.bool t3,.slice y3 m3 d3],rfl,⟨_,_,_,_,_,_,_,_,rfl,q1.k⟩,⟨_,_,_,_,_,_,_,_,rfl,q4.k⟩,⟨_,_,_,_,_,_,_,_,rfl,q5.k⟩,⟨_,_,_,_,_,_,_,_,rfl,q7.k⟩,⟨_,_,_,_,_,_,_,_,rfl,q8.k⟩,⟨_,_,_,_,_,_,_,_,rfl,q2.k⟩,⟨_,_,_,_,_,_,_,_,rfl,q3.k⟩⟩
  obtain ⟨iD,jw⟩:=hR.el.ok (az B)
  have rn:=hR.len
  refine VO.app (bk _ _) (t:=33) (e:=dT) (sz:=28) (n:=nr) (c:=cr) (mm:=1) (known:=sT.flatten.map .val) (spare:=uG.map .val) (del:=some 200) (news:=([.bool s1,.slice p1 n1 c1,.bool t1,.slice y1 m1 d1,.bool s4,.slice p4 n4 c4,.bool t4,.slice y4 m4 d4,.bool s5,.slice p5 n5 c5,.bool t5,.slice y5 m5 d5,.bool s7,.slice p7 n7 c7,.bool t7,.slice y7 m7 d7,.bool s8,.slice p8 n8 c8,.bool t8,.slice y8 m8 d8,.bool s2,.slice p2 n2 c2,.bool t2,.slice y2 m2 d2,.bool s3,.slice p3 n3 c3,.bool t3,.slice y3 m3 d3]:List Value).map .val) (dst:=52) rfl rfl rfl rfl rfl rfl rfl rfl (Nat.le_of_ble_eq_true rfl) rfl (.inr ⟨200,rfl,congrArg (fun l=>some (dT,l)) (List.map_append ..),rfl⟩) (.inl rfl) (by rw [List.length_map,jw,rn]) (by rw [←List.map_append,List.length_map];exact hR.fl) hR.le hR.cm ⟨ao _,ao _,rfl⟩ ⟨bb iD,bb hR.so,rfl⟩ rfl (by omega)
   (fun w1 β k1 b1 ho=>⟨_,_,rfl,.inr ⟨β 51,0,rfl,cK (rest:=[]) (ho.own 51 (.base (List.mem_append_right _ (List.mem_singleton.2 rfl))) _ _ rfl) rfl⟩⟩)
   (fun nD lD uT ρ GM GN fC jc gm ed AB iB=>VO.ft 199 rfl (dR (ao _) _ _) (VO.ft 36 rfl (dR (ao _) _ _) (wV rfl ?_)))
  (repeat (first | refine wN ?_ | refine wP rfl ?_ | refine af rfl ?_ | refine wO rfl rfl ?_))
  obtain ⟨nI,sw⟩:∃ nI,nI=nr + 1:=⟨_,rfl⟩
  obtain ⟨qQ,sx⟩:∃ qQ,qQ=(sT++[[.bool s1,.slice p1 n1 c1,.bool t1,.slice y1 m1 d1,.bool s4,.slice p4 n4 c4,.bool t4,.slice y4 m4 d4,.bool s5,.slice p5 n5 c5,.bool t5,.slice y5 m5 d5,.bool s7,.slice p7 n7 c7,.bool t7,.slice y7 m7 d7,.bool s8,.slice p8 n8 c8,.bool t8,.slice y8 m8 d8,.bool s2,.slice p2 n2 c2,.bool t2,.slice y2 m2 d2,.bool s3,.slice p3 n3 c3,.bool t3,.slice y3 m3 d3]]:List (List Value)):=⟨_,rfl⟩
  have fq:nv (dG B) 28 nD nI lD qQ uT (rows++[dD S F q e]):=by rw [sw,sx];exact ⟨by rw [rn,List.length_append];rfl,(hR.el.kp (az B) (by (with_reducible (repeat (first | assumption | exact kU _ | exact kR _ | exact Kp.of (U:=UU) (by assumption) | exact aE.of (by assumption) | refine kT ?_ (by assumption)))))).snoc ((az B).kp AA (by (with_reducible (repeat (first | assumption | exact kU _ | exact kR _ | exact Kp.of (U:=UU) (by assumption) | exact aE.of (by assumption) | refine kT ?_ (by assumption)))))),AB,iB,jc,gm,by simpa using ed⟩
  refine VS.narrow [(0,.box 198 0),(2,.val (.int .i64 ((rows:List aN).length:Int))),(5,.box 5 0),(8,.box 8 0)] [(198,(Runner,[.row 199 Mv nq1 cq1,.row 52 0 nI lD,.row 36 0 un uc])),(52,(dT,qQ.flatten.map AV.val++uT)),(5,(28,([.bool sS,.slice pS nS cS,.bool tS,.slice yS mS dS,.bool sF,.slice pF nF cF,.bool tF,.slice yF mF dF,.int .i64 (keep:Int)]:List Value).map AV.val)),(8,(dT,([.bool s1,.slice p1 n1 c1,.bool t1,.slice y1 m1 d1,.bool s4,.slice p4 n4 c4,.bool t4,.slice y4 m4 d4,.bool s5,.slice p5 n5 c5,.bool t5,.slice y5 m5 d5,.bool s7,.slice p7 n7 c7,.bool t7,.slice y7 m7 d7,.bool s8,.slice p8 n8 c8,.bool t8,.slice y8 m8 d8,.bool s2,.slice p2 n2 c2,.bool t2,.slice y2 m2 d2,.bool s3,.slice p3 n3 c3,.bool t3,.slice y3 m3 d3]:List Value).map AV.val)),(199,(cO,(Mw++(Mx.flatten++My)).map AV.val)),(36,(et,(vsu1.flatten++spu1).map AV.val))] ⟨rfl,rfl,rfl,rfl,trivial⟩ ⟨by rw [sw];rfl,by rw [sx];exact congrArg (fun l=>some (dT,l++uT)) (by simp),rfl,rfl,rfl,rfl,trivial⟩ rfl ⟨.lit rfl,.append (.vals _) (.none iB),.vals _,.vals _,.vals _,.vals _,trivial⟩ ?_
  refine VS.draw (bk _ _) (jN _ _) [1000000 + 74] (by kernel_rfl) (VO.run 80 rfl ?_)
  have Mz:nq1≤1000:=by rw [hV1.len];have:=(xF rows.length q (aD S F e.2 - ai e.1 (aD S F e.2))).2;omega
  refine VO.xz (B:=B) (v:=199) (d2:=62) (d:=e.1 - ai e.1 (aD S F e.2)) (q:=kW q (aD S F e.2 - ai e.1 (aD S F e.2))) kk rfl rfl rfl (fk Tryz.func74) rfl rfl rfl (by show 62 < 2 * 99;omega) (by decide) (fun j hj=> ?_) rfl (fun ug FG GQ=>hV1.kp (aM B) (by (with_reducible (repeat (first | assumption | exact kU _ | exact kR _ | exact Kp.of (U:=UU) (by assumption) | exact aE.of (by assumption) | refine kT ?_ (by assumption)))))) (fun ug FG GQ=>q5.kr) (hK _ g4 (by grind) (by grind)) zf Mz hB (fun Bb fw nz nC kC GR GS ρ19 k19 b19 fA=> ?_)
  ·have:j=52∨j=36:=by simpa [ax,AV.cL] using hj
   rcases this with rfl | rfl <;> exact ⟨(by intro h;cases h),by decide⟩
  obtain ⟨q2,sA⟩:∃ q2:List Vq,q2=kA rows.length (e.1 - ai e.1 (aD S F e.2)) (kW q (aD S F e.2 - ai e.1 (aD S F e.2))):=⟨_,rfl⟩
  rw [←sA] at fA
  have vi:=sA.symm
  refine VO.ft 52 rfl (dR (by rw [cA,ao,iB];rfl) _ _) (VO.ft 36 rfl (dR (ao _) _ _) (wV rfl ?_))
  (repeat first|refine wN ?_|refine wP rfl ?_|refine af rfl ?_|refine ag rfl ?_|refine wO rfl rfl ?_)
  by_cases lI:nz=0
  ·refine VO.cZ (x:=.row 62 fw nz nC) (p:=fun _=>none) (c:=nC) rfl (fun β=>.inr ⟨_,congrArg (fun n=>Value.slice (some ⟨β 62,fw,none⟩) n nC) lI⟩) rfl (fk Tryz.func75) rfl (fun Dk Mq Mr=>wV rfl ?_)
   (repeat first|refine wN ?_|refine wP rfl ?_|refine af rfl ?_|refine ag rfl ?_|refine wO rfl rfl ?_)
   have AD:q2=[]:=List.eq_nil_of_length_eq_zero (by rw [←fA.len];exact lI)
   have pO:dk S F keep (rows:List aN).length ⟨q,rows,[]⟩ e=⟨q2,rows++[dD S F q e],JR⟩:=by rw [mf,vi,nw,AD];rfl
   (repeat first|refine wN ?_|refine wP rfl ?_|refine af rfl ?_|refine ag rfl ?_|refine wO rfl rfl ?_)
   refine VS.ky (bk _ _) rfl (fun wz β kz oz en=> ?_)
   obtain ⟨o1,o2⟩:=eb (en.own 198 _ _ rfl) 0 g rfl rfl
   have oR:=(en.own 52 _ _ rfl).cls
   rw [List.map_append,ah] at oR
   have nR:=fh hB dU (show cB 99 [g,vb,rb] w 52 (β 52) from (en.own 52 _ _ rfl).new)
   have oV:=(en.own 62 _ _ rfl).cls
   rw [ah] at oV
   have nV:=fh hB dU (show cB 99 [g,vb,rb] w 62 (β 62) from (en.own 62 _ _ rfl).new)
   have oU:=(en.own 36 _ _ rfl).cls
   rw [ah] at oU
   have nU:=fh hB dU (show cB 99 [g,vb,rb] w 36 (β 36) from (en.own 36 _ _ rfl).new)
   rw [pO]
   refine ⟨rfl,oz.1,[g,β 62,β 52,β 36],⟨fun b hb=> ?_,_,_,_,o2,?_⟩⟩
   ·simp only [List.mem_cons,List.not_mem_nil,or_false] at hb
    rcases hb with rfl | rfl | rfl | rfl
    ·exact zn
    ·exact nV
    ·exact nR
    ·exact nU
   ·exact .inr (.inr (.inr ⟨β 62,β 52,β 36,rfl,⟨_,_,_,_,_,_,rfl,oV,fA.kp (aM B) (by (with_reducible (repeat (first | assumption | exact kU _ | exact kR _ | exact Kp.of (U:=UU) (by assumption) | exact aE.of (by assumption) | refine kT ?_ (by assumption)))))⟩,⟨_,_,_,_,rfl,oR,(fq.kp (az B) (by (with_reducible (repeat (first | assumption | exact kU _ | exact kR _ | exact Kp.of (U:=UU) (by assumption) | exact aE.of (by assumption) | refine kT ?_ (by assumption)))))).o β⟩,⟨_,_,_,_,rfl,oU,xS.kp (dm B) (by (with_reducible (repeat (first | assumption | exact kU _ | exact kR _ | exact Kp.of (U:=UU) (by assumption) | exact aE.of (by assumption) | refine kT ?_ (by assumption)))))⟩⟩))
  obtain ⟨pp,qt,KZ⟩:∃ pp qt,q2=pp::qt:=by
   cases q2 with
   | nil=>exact absurd fA.len lI
   | cons pp qt=>exact ⟨pp,qt,rfl⟩
  subst KZ
  obtain ⟨AE,vM,rfl,hE4,sB⟩:∃ AE vM,GR=AE::vM∧cH B Bb AE pp∧cM (cH B) Bb qt vM:=by
   have:=fA.el
   cases this with
   | cons h1 h2=>exact ⟨_,_,rfl,h1,h2⟩
  obtain ⟨s9,p9,n9,c9,t9,y9,m9,d9,rfl,Jk⟩:=hE4
  have AG:=fA.le
  have AH:=fA.len
  have AJ:=fA.cm
  have jH:kC.length=fw:=fA.pl.resolve_right (by omega)
  refine VO.cI rfl rfl (fk Tryz.func75) rfl lI (by intro h;cases h) (fun Dk Mq Mr=>wV rfl ?_)
  (repeat first|refine wN ?_|refine wP rfl ?_|refine af rfl ?_|refine ag rfl ?_|refine wO rfl rfl ?_)
  refine VO.dh rfl (([.int .i64 (pp.1:Int)]:List Value).map .val) rfl (bh jH 0 _ ⟨_,rfl⟩) (wV rfl ?_)
  (repeat first|refine wN ?_|refine wP rfl ?_|refine af rfl ?_|refine ag rfl ?_|refine wO rfl rfl ?_)
  have GU:IntKind.i64.wrap (((rows:List aN).length:Int) - (keep:Int))=((rows:List aN).length:Int) - (keep:Int):=IntWalk.i64_in _ (by omega)
  by_cases hx:pp.1 + keep=(rows:List aN).length
  ·refine VS.bE rfl (by rw [GU,beq_iff_eq];omega) ?_
   (repeat first|refine wN ?_|refine wP rfl ?_|refine af rfl ?_|refine ag rfl ?_|refine wO rfl rfl ?_)
   refine VO.dh rfl (([.int .i64 (pp.1:Int)]:List Value).map .val) rfl (bh jH 0 _ ⟨_,rfl⟩) (wV rfl ?_)
   (repeat first|refine wN ?_|refine wP rfl ?_|refine af rfl ?_|refine ag rfl ?_|refine wO rfl rfl ?_)
   refine VO.dh rfl (([.bool s9,.slice p9 n9 c9,.bool t9,.slice y9 m9 d9]:List Value).map .val) rfl (bh jH 1 _ ⟨[],rfl⟩) (wV rfl ?_)
   (repeat first|refine wN ?_|refine wP rfl ?_|refine af rfl ?_|refine ag rfl ?_|refine wO rfl rfl ?_)
   have fi:=fq.len
   have Cp:pp.1 < nI:=by rw [fi,List.length_append,List.length_singleton];omega
   refine VO.cond rfl ⟨by omega,by omega⟩ (wV rfl ?_)
   obtain ⟨rq,zo⟩:∃ rq,(rows++[dD S F q e])[pp.1]? =some rq:=⟨_,List.getElem?_eq_getElem (by rw [←fi];exact Cp)⟩
   obtain ⟨zp,tI,zt⟩:=fq.el.at pp.1 rq zo
   have gG:=fq.fl
   have Jl:=fq.le
   refine VO.cond rfl (by show 0 + ((pp.1:Int)).toNat * 28 + 20 + 4≤_;rw [gG,Int.toNat_natCast];omega) (VO.ft 52 rfl (kh (new:=[.bool s9,.slice p9 n9 c9,.bool t9,.slice y9 m9 d9]) (o:=20) (fq.el.lens (az B)) tI (Nat.le_of_ble_eq_true rfl)) (wV rfl ?_))
   (repeat first|refine wN ?_|refine wP rfl ?_|refine af rfl ?_|refine ag rfl ?_|refine wO rfl rfl ?_)
   have hR3:nv (dG B) 28 Dk nI lD (qQ.set pp.1 (zp.take 20++([.bool s9,.slice p9 n9 c9,.bool t9,.slice y9 m9 d9]++zp.drop (20 + ([.bool s9,.slice p9 n9 c9,.bool t9,.slice y9 m9 d9]:List Value).length)))) uT ((rows++[dD S F q e]).modify pp.1 (fun r=>{ r with aZ:=pp.2 })):=
    ⟨by rw [List.length_modify];exact fi,by rw [gJ zo];exact (fq.el.kp (az B) (by (with_reducible (repeat (first | assumption | exact kU _ | exact kR _ | exact Kp.of (U:=UU) (by assumption) | exact aE.of (by assumption) | refine kT ?_ (by assumption)))))).set (oK ((az B).kp zt (by (with_reducible (repeat (first | assumption | exact kU _ | exact kR _ | exact Kp.of (U:=UU) (by assumption) | exact aE.of (by assumption) | refine kT ?_ (by assumption)))))) ⟨_,_,_,_,_,_,_,_,rfl,Jk.kp (by (with_reducible (repeat (first | assumption | exact kU _ | exact kR _ | exact Kp.of (U:=UU) (by assumption) | exact aE.of (by assumption) | refine kT ?_ (by assumption)))))⟩),fq.so,fq.sl,fq.le,fq.cm,by
     rw [List.length_append,List.length_map,cW (kj (fq.el.lens (az B)) (sq ((az B).len zt) rfl)),List.length_set]
     rw [List.length_append,List.length_map,cW (fq.el.lens (az B))] at gG
     exact gG⟩
   refine VO.iA rfl rfl (fk Tryz.func76) rfl (by omega) AG AJ (fun j hj=> ?_) (Nat.le_of_ble_eq_true rfl) (fun w21 k21 b21=>wV rfl ?_)
   ·simp only [ax,AV.cL,List.flatMap_cons,List.flatMap_nil,List.mem_append,List.mem_cons,List.not_mem_nil,or_false,List.append_nil] at hj
    rcases hj with rfl | rfl | rfl <;> (intro h;cases h)
   (repeat first|refine wN ?_|refine wP rfl ?_|refine af rfl ?_|refine ag rfl ?_|refine wO rfl rfl ?_)
   have hV4:cY (cH B) 5 w21 (nz - 1) (if nC=1 then fw else fw + 5) (nC - 1) (kC++[.int .i64 (pp.1:Int),.bool s9,.slice p9 n9 c9,.bool t9,.slice y9 m9 d9]) vM GS qt:=⟨by rw [AH];rfl,mM jH,by rw [List.all_append,fA.po];rfl,sB.kp (aM B) (by (with_reducible (repeat (first | assumption | exact kU _ | exact kR _ | exact Kp.of (U:=UU) (by assumption) | exact aE.of (by assumption) | refine kT ?_ (by assumption))))),fA.so,by omega,by omega,mO fA.fl⟩
   have pO:dk S F keep (rows:List aN).length ⟨q,rows,[]⟩ e=⟨qt,(rows++[dD S F q e]).modify pp.1 (fun r=>{ r with aZ:=pp.2 }),JR⟩:=by
    rw [mf,vi,nw]
    exact if_pos hx
   (repeat first|refine wN ?_|refine wP rfl ?_|refine af rfl ?_|refine ag rfl ?_|refine wO rfl rfl ?_)
   refine VS.ky (bk _ _) rfl (fun wz β kz oz en=> ?_)
   obtain ⟨o1,o2⟩:=eb (en.own 198 _ _ rfl) 0 g rfl rfl
   have oR:=(en.own 52 _ _ rfl).cls
   rw [List.map_append,ah] at oR
   have nR:=fh hB dU (show cB 99 [g,vb,rb] w 52 (β 52) from (en.own 52 _ _ rfl).new)
   have oV:=(en.own 62 _ _ rfl).cls
   rw [dM,ah] at oV
   have nV:=fh hB dU (show cB 99 [g,vb,rb] w 62 (β 62) from (en.own 62 _ _ rfl).new)
   have oU:=(en.own 36 _ _ rfl).cls
   rw [ah] at oU
   have nU:=fh hB dU (show cB 99 [g,vb,rb] w 36 (β 36) from (en.own 36 _ _ rfl).new)
   rw [pO]
   refine ⟨rfl,oz.1,[g,β 62,β 52,β 36],⟨fun b hb=> ?_,_,_,_,o2,?_⟩⟩
   ·simp only [List.mem_cons,List.not_mem_nil,or_false] at hb
    rcases hb with rfl | rfl | rfl | rfl
    ·exact zn
    ·exact nV
    ·exact nR
    ·exact nU
   ·exact .inr (.inr (.inr ⟨β 62,β 52,β 36,rfl,⟨_,_,_,_,_,_,rfl,oV,hV4.kp (aM B) (by (with_reducible (repeat (first | assumption | exact kU _ | exact kR _ | exact Kp.of (U:=UU) (by assumption) | exact aE.of (by assumption) | refine kT ?_ (by assumption)))))⟩,⟨_,_,_,_,rfl,oR,(hR3.kp (az B) (by (with_reducible (repeat (first | assumption | exact kU _ | exact kR _ | exact Kp.of (U:=UU) (by assumption) | exact aE.of (by assumption) | refine kT ?_ (by assumption)))))).o β⟩,⟨_,_,_,_,rfl,oU,xS.kp (dm B) (by (with_reducible (repeat (first | assumption | exact kU _ | exact kR _ | exact Kp.of (U:=UU) (by assumption) | exact aE.of (by assumption) | refine kT ?_ (by assumption)))))⟩⟩))
  ·refine VS.bu rfl (by rw [GU,beq_eq_false_iff_ne];omega) ?_
   have pO:dk S F keep (rows:List aN).length ⟨q,rows,[]⟩ e=⟨pp::qt,rows++[dD S F q e],JR⟩:=by
    rw [mf,vi,nw]
    exact if_neg hx
   (repeat first|refine wN ?_|refine wP rfl ?_|refine af rfl ?_|refine ag rfl ?_|refine wO rfl rfl ?_)
   refine VS.ky (bk _ _) rfl (fun wz β kz oz en=> ?_)
   obtain ⟨o1,o2⟩:=eb (en.own 198 _ _ rfl) 0 g rfl rfl
   have oR:=(en.own 52 _ _ rfl).cls
   rw [List.map_append,ah] at oR
   have nR:=fh hB dU (show cB 99 [g,vb,rb] w 52 (β 52) from (en.own 52 _ _ rfl).new)
   have oV:=(en.own 62 _ _ rfl).cls
   rw [ah] at oV
   have nV:=fh hB dU (show cB 99 [g,vb,rb] w 62 (β 62) from (en.own 62 _ _ rfl).new)
   have oU:=(en.own 36 _ _ rfl).cls
   rw [ah] at oU
   have nU:=fh hB dU (show cB 99 [g,vb,rb] w 36 (β 36) from (en.own 36 _ _ rfl).new)
   rw [pO]
   refine ⟨rfl,oz.1,[g,β 62,β 52,β 36],⟨fun b hb=> ?_,_,_,_,o2,?_⟩⟩
   ·simp only [List.mem_cons,List.not_mem_nil,or_false] at hb
    rcases hb with rfl | rfl | rfl | rfl
    ·exact zn
    ·exact nV
    ·exact nR
    ·exact nU
   ·exact .inr (.inr (.inr ⟨β 62,β 52,β 36,rfl,⟨_,_,_,_,_,_,rfl,oV,fA.kp (aM B) (by (with_reducible (repeat (first | assumption | exact kU _ | exact kR _ | exact Kp.of (U:=UU) (by assumption) | exact aE.of (by assumption) | refine kT ?_ (by assumption)))))⟩,⟨_,_,_,_,rfl,oR,(fq.kp (az B) (by (with_reducible (repeat (first | assumption | exact kU _ | exact kR _ | exact Kp.of (U:=UU) (by assumption) | exact aE.of (by assumption) | refine kT ?_ (by assumption)))))).o β⟩,⟨_,_,_,_,rfl,oU,xS.kp (dm B) (by (with_reducible (repeat (first | assumption | exact kU _ | exact kR _ | exact Kp.of (U:=UU) (by assumption) | exact aE.of (by assumption) | refine kT ?_ (by assumption)))))⟩⟩))
end Go.Proofs.YtabalinjfgcfeaaGreat
set_option maxRecDepth 4000
namespace Go.Proofs.YtabalinjfgcfeaaGreat
open Go.RowKit
attribute [local irreducible] aB VS
set_option maxRecDepth 4000 in
set_option maxHeartbeats 16000000 in
theorem iYear_D {B g keep D kk ks:Nat} {M S F:Rat} {e:Rat×Rat} {vb off nq cq:Nat} {pre Mt:List Value} {Mu:List (List Value)} {rb nr cr:Nat} {sT:List (List Value)} {uG:List Value} {ub nu cu:Nat} {vsu:List (List Value)} {spu:List Value} {q:List Vq} {rows:List aN} {uses:List Uq} {v u:Value} {w:World} (hg:aW w g Runner #[.slice (some ⟨vb,off,none⟩) nq cq,.slice (some ⟨rb,0,none⟩) nr cr,.slice (some ⟨ub,0,none⟩) nu cu]) (Bc:aW w vb cO (pre++(Mu.flatten++Mt)).toArray) (hV:cY (cH B) 5 w nq off cq pre Mu Mt q) (zu:aW w rb dT (sT.flatten++uG).toArray) (hR:cY (dG B) 28 w nr 0 cr [] sT uG rows) (hcU:aW w ub et (vsu.flatten++spu).toArray) (hU:cY (np B) 6 w nu 0 cu [] vsu spu uses)
  (uS:FA w v S F keep ks) (JP:YrV w u e ks) (ss:1≤ks) (yr:ks≤kk) (zf:kk≤100000) (vK:Iz D (aD S F e.2)) (DZ:aD S F e.2≤M) (JQ:Iz D e.1) (gL: -M≤e.1) (Ea:e.1≤M) (hK:∀ x,Iz D x→-(M + M)≤x→x≤M + M→dV x kk)
  (vL:xG D M ⟨q,rows,uses⟩) (uE:(rows:List aN).length≤64) (uF:keep≤40) (hB:B≤w.heap.size) (dU:∀ b∈[g,vb,rb,ub],B≤b):
  Calls Tryz.prog 39 #[.pointer (some ⟨g,0,none⟩),v,.int .i64 ((rows:List aN).length:Int),u] w fun o w'=>o=.returned (iC [])∧qA [g,vb,rb,ub] w w'∧∃ Mp,mY B w' g Mp (dk S F keep (rows:List aN).length ⟨q,rows,uses⟩ e):=by
 have hL0:=mK S F e.2
 have hM0:0≤M:=by grind
 obtain ⟨g1,g2,g3,g4,g5,g6,g7,g8,g9⟩:=sn vK hL0 DZ JQ gL Ea
 have zn:B≤g:=dU g (by simp)
 have hlen:=vL.len
 obtain ⟨sS,pS,nS,cS,tS,yS,mS,dS,sF,pF,nF,cF,tF,yF,mF,dF,rfl,hS,hF⟩:=uS
 obtain ⟨sN,pN,nN,cN,tN,yN,mN,dN,sE,pE,nE,cE,tE,yE,mE,dE,rfl,hN,hE⟩:=JP
 have jv:q.length≤1000:=by dsimp only at hlen;omega
 have Ay:uses.length≤1000:=by dsimp only at hlen;omega
 have pM:iG (KU UU) 99 [g,vb,rb,ub] [(Runner,[.row 199 off nq cq,.row 200 0 nr cr,.row 201 0 nu cu]),(cO,(pre++(Mu.flatten++Mt)).map .val),(dT,(sT.flatten++uG).map .val),(et,(vsu.flatten++spu).map .val)] w:=by
  have Jm:g≠vb:=fun e=>by subst e;exact absurd (bo hg Bc) (by decide)
  have h02:g≠rb:=fun e=>by subst e;exact absurd (bo hg zu) (by decide)
  have h03:g≠ub:=fun e=>by subst e;exact absurd (bo hg hcU) (by decide)
  have Ae:vb≠rb:=fun e=>by subst e;exact absurd (bo Bc zu) (by decide)
  have h13:vb≠ub:=fun e=>by subst e;exact absurd (bo Bc hcU) (by decide)
  have h23:rb≠ub:=fun e=>by subst e;exact absurd (bo zu hcU) (by decide)
  refine ⟨rfl,by simp [Jm,h02,h03,Ae,h13,h23],fun j g' c' hj hc=> ?_,fun c' hc=> ?_,fun c' hc k hk=> ?_⟩
  ·match j,hj,hc with
   | 0,hj,hc=>cases hj;cases hc;exact hg
   | 1,hj,hc=>cases hj;cases hc;rw [ah];exact Bc
   | 2,hj,hc=>cases hj;cases hc;rw [ah];exact zu
   | 3,hj,hc=>cases hj;cases hc;rw [ah];exact hcU
   | j + 4,hj,_=>simp at hj
  ·simp only [List.mem_cons,List.not_mem_nil,or_false] at hc
   rcases hc with rfl | rfl | rfl | rfl
   ·exact ⟨rfl,rfl⟩
   ·exact ⟨rfl,bb (hV.all (aM B))⟩
   ·exact ⟨rfl,bb (hR.all (az B))⟩
   ·exact ⟨rfl,bb (hU.all (dm B))⟩
  ·simp only [List.mem_cons,List.not_mem_nil,or_false] at hc
   rcases hc with rfl | rfl | rfl | rfl
   ·have:k=199∨k=200∨k=201:=by simpa [ax,AV.cL] using hk
    rcases this with rfl | rfl | rfl
    ·exact ⟨by omega,by show 199 < 2 * 99 + 4;omega⟩
    ·exact ⟨by omega,by show 200 < 2 * 99 + 4;omega⟩
    ·exact ⟨by omega,by show 201 < 2 * 99 + 4;omega⟩
   ·rw [ao] at hk;cases hk
   ·rw [ao] at hk;cases hk
   ·rw [ao] at hk;cases hk
 refine ea Tryz.prog w _ (KU UU) (fun t=>Nat.beq t 22) table (fun _ _=>trivial) (ad:=[g,vb,rb,ub]) (us:=[_,_,_]) Tryz.func39 rfl Tryz.ntmps39 (Nat.le_of_ble_eq_true rfl) pM (Nat.le_of_ble_eq_true rfl) ?_
 (repeat first|refine wN ?_|refine wP rfl ?_|refine af rfl ?_|refine ag rfl ?_|refine wO rfl rfl ?_)
 refine VO.call rfl rfl (fk Tryz.func70) (fun cC er dv=>((mP _ _ S F keep e ks cC ⟨_,_,_,_,_,_,_,_,_,_,_,_,_,_,_,_,rfl,hS.k,hF.k⟩ ⟨_,_,_,_,_,_,_,_,_,_,_,_,_,_,_,_,rfl,hN.k,hE.k⟩ ss (by omega)).mono (fun o w2 h=>And.intro h dv.1.size)).mono ?_)
 rintro o w1 ⟨⟨r1,rfl,q1,aV⟩,FD⟩
 obtain ⟨s1,p1,n1,c1,t1,y1,m1,d1,rfl⟩:=q1.form
 refine ⟨_,rfl,aV,fun fe _ bb1=>wV rfl ?_⟩
 replace q1:=q1.mono (Nat.le_trans hB FD)
 (repeat first|refine wN ?_|refine wP rfl ?_|refine af rfl ?_|refine ag rfl ?_|refine wO rfl rfl ?_)
 refine VO.call rfl rfl (fk Tryz.func44) (fun dC gu eu=>((bF 0 dC (by omega) (by omega)).mono (fun o w2 h=>And.intro h eu.1.size)).mono ?_)
 rintro o w2 ⟨⟨r2,rfl,q2,bm⟩,qN⟩
 obtain ⟨s2,p2,n2,c2,t2,y2,m2,d2,rfl⟩:=q2.form
 refine ⟨_,rfl,bm,fun fZ _ bb2=>wV rfl ?_⟩
 replace q2:=q2.mono (Nat.le_trans hB qN)
 (repeat first|refine wN ?_|refine wP rfl ?_|refine af rfl ?_|refine ag rfl ?_|refine wO rfl rfl ?_)
 refine VO.call rfl rfl (fk Tryz.func44) (fun gv gY gV=>((bF 0 gv (by omega) (by omega)).mono (fun o w2 h=>And.intro h gV.1.size)).mono ?_)
 rintro o w3 ⟨⟨r3,rfl,q3,cD⟩,xH⟩
 obtain ⟨s3,p3,n3,c3,t3,y3,m3,d3,rfl⟩:=q3.form
 refine ⟨_,rfl,cD,fun kt _ bb3=>wV rfl ?_⟩
 replace q3:=q3.mono (Nat.le_trans hB xH)
 (repeat first|refine wN ?_|refine wP rfl ?_|refine af rfl ?_|refine ag rfl ?_|refine wO rfl rfl ?_)
 refine VO.fI rfl (fk Tryz.func71) (fun nj β qa qF ho=>((fJ _ _ e.1 [aD S F e.2] kk nj ((hN.k).up (by omega)) (dW (ho.own 20 (.base (List.mem_singleton.2 rfl)) _ _ rfl) [] (vs:=[[.bool s1,.slice p1 n1 c1,.bool t1,.slice y1 m1 d1]]) (by rfl) rfl (bZ.cons (q1.ki (hK _ vK (by grind) (by grind))) bZ.nil) (Nat.le_of_ble_eq_true rfl) (by decide)) (by omega) (Nat.le_of_ble_eq_true rfl)).mono (fun o w2 h=>And.intro h qF.1.size)).mono ?_)
 rintro o w4 ⟨⟨r4,rfl,q4,z4,gU⟩,FE⟩
 rw [gR] at q4
 obtain ⟨s4,p4,n4,c4,t4,y4,m4,d4,rfl⟩:=q4.form
 refine ⟨_,rfl,gU,fun pd _ AZ=>wV rfl ?_⟩
 replace q4:=q4.mono (Nat.le_trans hB FE)
 (repeat first|refine wN ?_|refine wP rfl ?_|refine af rfl ?_|refine ag rfl ?_|refine wO rfl rfl ?_)
 refine VO.call rfl rfl (fk Tryz.func72) (fun kg mG ku=>((bW _ _ e.1 (ai e.1 (aD S F e.2)) kk kk kg ((hN.k).up (by omega)) (q4.ki (hK _ g1 (by grind) (by grind))) (by omega) (by omega)).mono (fun o w2 h=>And.intro h ku.1.size)).mono ?_)
 rintro o w5 ⟨⟨r5,rfl,q5,gi⟩,qO⟩
 obtain ⟨s5,p5,n5,c5,t5,y5,m5,d5,rfl⟩:=q5.form
 refine ⟨_,rfl,gi,fun nk _ xf=>wV rfl ?_⟩
 replace q5:=q5.mono (Nat.le_trans hB qO)
 (repeat first|refine wN ?_|refine wP rfl ?_|refine af rfl ?_|refine ag rfl ?_|refine wO rfl rfl ?_)
 refine VO.call rfl rfl (fk Tryz.func72) (fun pK ux tw=>((bW _ _ (aD S F e.2) (ai e.1 (aD S F e.2)) kk kk pK (q1.ki (hK _ vK (by grind) (by grind))) (q4.ki (hK _ g1 (by grind) (by grind))) (by omega) (by omega)).mono (fun o w2 h=>And.intro h tw.1.size)).mono ?_)
 rintro o w6 ⟨⟨r6,rfl,q6,mX⟩,FF⟩
 obtain ⟨s6,p6,n6,c6,t6,y6,m6,d6,rfl⟩:=q6.form
 refine ⟨_,rfl,mX,fun tx _ CR=>wV rfl ?_⟩
 replace q6:=q6.mono (Nat.le_trans hB FF)
 (repeat first|refine wN ?_|refine wP rfl ?_|refine af rfl ?_|refine ag rfl ?_|refine wO rfl rfl ?_)
 have mf:dk S F keep (rows:List aN).length ⟨q,rows,uses⟩ e=rZ keep (rows:List aN).length ⟨kA (rows:List aN).length (e.1 - ai e.1 (aD S F e.2)) (kW q (aD S F e.2 - ai e.1 (aD S F e.2))),rows++[dD S F q e],uses++nH (rows:List aN).length q (aD S F e.2 - ai e.1 (aD S F e.2))⟩:=rfl
 refine VO.Dj (u:=201) (us0:=uses) (B:=B) (D:=D) (v:=199) (d2:=36) (M:=M + M) (mm:=aD S F e.2 - ai e.1 (aD S F e.2)) (q:=q) kk rfl rfl rfl (fk Tryz.func73) rfl rfl rfl (fun ug FG GQ=>hU.kp (dm B) (by (with_reducible (repeat (first | assumption | exact kU _ | exact kR _ | exact Kp.of (U:=UU) (by assumption) | exact aE.of (by assumption) | refine kT ?_ (by assumption)))))) Ay (by decide) (by decide) rfl (by show 36 < 2 * 99;omega) (by decide) rfl (fun _=>rfl) (fun j hj=> ?_) rfl (fun ug FG GQ=>hV.kp (aM B) (by (with_reducible (repeat (first | assumption | exact kU _ | exact kR _ | exact Kp.of (U:=UU) (by assumption) | exact aE.of (by assumption) | refine kT ?_ (by assumption)))))) (fun ug FG GQ=>q6.kr) g7 g8 g9 (fun p hp=>⟨(vL.el p hp).1,(vL.el p hp).2.1,(vL.el p hp).2.2.1⟩) (fun x h1 h2 h3=>hK x h1 (by grind) h3) zf jv hB (fun w7 r7 Mv nq1 cq1 Mw Mx My un uc vsu1 spu1 ρ7 k7 b7 q7 hV1 hU1=> ?_)
 ·have:j=200:=by simpa [ax,AV.cL] using hj
  subst this;exact ⟨(by intro h;cases h),by decide⟩
 obtain ⟨s7,p7,n7,c7,t7,y7,m7,d7,rfl⟩:=q7.form
 refine VO.ft 200 rfl (dR (ao _) _ _) (wV rfl ?_)
 (repeat first|refine wN ?_|refine wP rfl ?_|refine af rfl ?_|refine ag rfl ?_|refine wO rfl rfl ?_)
 obtain ⟨JR,BH⟩:∃ JR,JR=uses++nH rows.length q (aD S F e.2 - ai e.1 (aD S F e.2)):=⟨_,rfl⟩
 rw [←BH] at hU1
 have nw:=BH.symm
 have xS:=hU1
 obtain ⟨u1,u2,u3⟩:=tH (q:=q) (m:=aD S F e.2 - ai e.1 (aD S F e.2)) (fun p hp=>⟨(vL.el p hp).1,(vL.el p hp).2.1⟩) g7 g8
 refine VO.call rfl rfl (fk Tryz.func16) (fun uQ Fg zl=>((dx _ _ (ai e.1 (aD S F e.2)) (qW q (aD S F e.2 - ai e.1 (aD S F e.2))) kk kk uQ (q4.ki (hK _ g1 (by grind) (by grind))) (q7.ki (hK _ u1 (by grind) (by grind))) (by omega) (by omega)).mono (fun o w2 h=>And.intro h zl.1.size)).mono ?_)
 rintro o w8 ⟨⟨r8,rfl,q8,qU⟩,yt⟩
 obtain ⟨s8,p8,n8,c8,t8,y8,m8,d8,rfl⟩:=q8.form
 refine ⟨_,rfl,qU,fun vH _ JL=>wV rfl ?_⟩
 replace q8:=q8.mono (Nat.le_trans hB yt)
 (repeat first|refine wN ?_|refine wP rfl ?_|refine af rfl ?_|refine ag rfl ?_|refine wO rfl rfl ?_)
 have LV:((0:Int):Rat)=0:=rfl
 have AA:dG B w8 [.bool s1,.slice p1 n1 c1,.bool t1,.slice y1 m1 d1,.bool s4,.slice p4 n4 c4,.bool t4,.slice y4 m4 d4,.bool s5,.slice p5 n5 c5,.bool t5,.slice y5 m5 d5,.bool s7,.slice p7 n7 c7,.bool t7,.slice y7 m7 d7,.bool s8,.slice p8 n8 c8,.bool t8,.slice y8 m8 d8,.bool s2,.slice p2 n2 c2,.bool t2,.slice y2 m2 d2,.bool s3,.slice p3 n3 c3,.bool t3,.slice y3 m3 d3] (dD S F q e):=⟨[.bool s1,.slice p1 n1 c1,.bool t1,.slice y1 m1 d1],[.bool s4,.slice p4 n4 c4,.bool t4,.slice y4 m4 d4],[.bool s5,.slice p5 n5 c5,.bool t5,.slice y5 m5 d5],[.bool s7,.slice p7 n7 c7,.bool t7,.slice y7 m7 d7],[.bool s8,.slice p8 n8 c8,.bool t8,.slice y8 m8 d8],[.bool s2,.slice p2 n2 c2,.bool t2,.slice y2 m2 d2],[.bool s3,.slice p3 n3 c3,.bool t3,.slice y3 m3 d3],rfl,⟨_,_,_,_,_,_,_,_,rfl,q1.k⟩,⟨_,_,_,_,_,_,_,_,rfl,q4.k⟩,⟨_,_,_,_,_,_,_,_,rfl,q5.k⟩,⟨_,_,_,_,_,_,_,_,rfl,q7.k⟩,⟨_,_,_,_,_,_,_,_,rfl,q8.k⟩,⟨_,_,_,_,_,_,_,_,rfl,q2.k⟩,⟨_,_,_,_,_,_,_,_,rfl,q3.k⟩⟩
 obtain ⟨iD,jw⟩:=hR.el.ok (az B)
 have rn:=hR.len
 refine VO.app (bk _ _) (t:=33) (e:=dT) (sz:=28) (n:=nr) (c:=cr) (mm:=1) (known:=sT.flatten.map .val) (spare:=uG.map .val) (del:=some 200) (news:=([.bool s1,.slice p1 n1 c1,.bool t1,.slice y1 m1 d1,.bool s4,.slice p4 n4 c4,.bool t4,.slice y4 m4 d4,.bool s5,.slice p5 n5 c5,.bool t5,.slice y5 m5 d5,.bool s7,.slice p7 n7 c7,.bool t7,.slice y7 m7 d7,.bool s8,.slice p8 n8 c8,.bool t8,.slice y8 m8 d8,.bool s2,.slice p2 n2 c2,.bool t2,.slice y2 m2 d2,.bool s3,.slice p3 n3 c3,.bool t3,.slice y3 m3 d3]:List Value).map .val) (dst:=52) rfl rfl rfl rfl rfl rfl rfl rfl (Nat.le_of_ble_eq_true rfl) rfl (.inr ⟨200,rfl,congrArg (fun l=>some (dT,l)) (List.map_append ..),rfl⟩) (.inl rfl) (by rw [List.length_map,jw,rn]) (by rw [←List.map_append,List.length_map];exact hR.fl) hR.le hR.cm ⟨ao _,ao _,rfl⟩ ⟨bb iD,bb hR.so,rfl⟩ rfl (by omega)
  (fun w1 β k1 b1 ho=>⟨_,_,rfl,.inr ⟨β 51,0,rfl,cK (rest:=[]) (ho.own 51 (.base (List.mem_append_right _ (List.mem_singleton.2 rfl))) _ _ rfl) rfl⟩⟩)
  (fun nD lD uT ρ GM GN fC jc gm ed AB iB=>VO.ft 199 rfl (dR (ao _) _ _) (VO.ft 36 rfl (dR (ao _) _ _) (wV rfl ?_)))
 (repeat (first | refine wN ?_ | refine wP rfl ?_ | refine af rfl ?_ | refine wO rfl rfl ?_))
 obtain ⟨nI,sw⟩:∃ nI,nI=nr + 1:=⟨_,rfl⟩
 obtain ⟨qQ,sx⟩:∃ qQ,qQ=(sT++[[.bool s1,.slice p1 n1 c1,.bool t1,.slice y1 m1 d1,.bool s4,.slice p4 n4 c4,.bool t4,.slice y4 m4 d4,.bool s5,.slice p5 n5 c5,.bool t5,.slice y5 m5 d5,.bool s7,.slice p7 n7 c7,.bool t7,.slice y7 m7 d7,.bool s8,.slice p8 n8 c8,.bool t8,.slice y8 m8 d8,.bool s2,.slice p2 n2 c2,.bool t2,.slice y2 m2 d2,.bool s3,.slice p3 n3 c3,.bool t3,.slice y3 m3 d3]]:List (List Value)):=⟨_,rfl⟩
 have fq:nv (dG B) 28 nD nI lD qQ uT (rows++[dD S F q e]):=by rw [sw,sx];exact ⟨by rw [rn,List.length_append];rfl,(hR.el.kp (az B) (by (with_reducible (repeat (first | assumption | exact kU _ | exact kR _ | exact Kp.of (U:=UU) (by assumption) | exact aE.of (by assumption) | refine kT ?_ (by assumption)))))).snoc ((az B).kp AA (by (with_reducible (repeat (first | assumption | exact kU _ | exact kR _ | exact Kp.of (U:=UU) (by assumption) | exact aE.of (by assumption) | refine kT ?_ (by assumption)))))),AB,iB,jc,gm,by simpa using ed⟩
 refine VS.narrow [(0,.box 198 0),(2,.val (.int .i64 ((rows:List aN).length:Int))),(5,.box 5 0),(8,.box 8 0)] [(198,(Runner,[.row 199 Mv nq1 cq1,.row 52 0 nI lD,.row 36 0 un uc])),(52,(dT,qQ.flatten.map AV.val++uT)),(5,(28,([.bool sS,.slice pS nS cS,.bool tS,.slice yS mS dS,.bool sF,.slice pF nF cF,.bool tF,.slice yF mF dF,.int .i64 (keep:Int)]:List Value).map AV.val)),(8,(dT,([.bool s1,.slice p1 n1 c1,.bool t1,.slice y1 m1 d1,.bool s4,.slice p4 n4 c4,.bool t4,.slice y4 m4 d4,.bool s5,.slice p5 n5 c5,.bool t5,.slice y5 m5 d5,.bool s7,.slice p7 n7 c7,.bool t7,.slice y7 m7 d7,.bool s8,.slice p8 n8 c8,.bool t8,.slice y8 m8 d8,.bool s2,.slice p2 n2 c2,.bool t2,.slice y2 m2 d2,.bool s3,.slice p3 n3 c3,.bool t3,.slice y3 m3 d3]:List Value).map AV.val)),(199,(cO,(Mw++(Mx.flatten++My)).map AV.val)),(36,(et,(vsu1.flatten++spu1).map AV.val))] ⟨rfl,rfl,rfl,rfl,trivial⟩ ⟨by rw [sw];rfl,by rw [sx];exact congrArg (fun l=>some (dT,l++uT)) (by simp),rfl,rfl,rfl,rfl,trivial⟩ rfl ⟨.lit rfl,.append (.vals _) (.none iB),.vals _,.vals _,.vals _,.vals _,trivial⟩ ?_
 refine VS.draw (bk _ _) (jN _ _) [1000000 + 74] (by kernel_rfl) (VO.run 80 rfl ?_)
 have Mz:nq1≤1000:=by rw [hV1.len];have:=(xF rows.length q (aD S F e.2 - ai e.1 (aD S F e.2))).2;omega
 refine VO.xz (B:=B) (v:=199) (d2:=62) (d:=e.1 - ai e.1 (aD S F e.2)) (q:=kW q (aD S F e.2 - ai e.1 (aD S F e.2))) kk rfl rfl rfl (fk Tryz.func74) rfl rfl rfl (by show 62 < 2 * 99;omega) (by decide) (fun j hj=> ?_) rfl (fun ug FG GQ=>hV1.kp (aM B) (by (with_reducible (repeat (first | assumption | exact kU _ | exact kR _ | exact Kp.of (U:=UU) (by assumption) | exact aE.of (by assumption) | refine kT ?_ (by assumption)))))) (fun ug FG GQ=>q5.kr) (hK _ g4 (by grind) (by grind)) zf Mz hB (fun Bb fw nz nC kC GR GS ρ19 k19 b19 fA=> ?_)
 ·have:j=52∨j=36:=by simpa [ax,AV.cL] using hj
  rcases this with rfl | rfl <;> exact ⟨(by intro h;cases h),by decide⟩
 obtain ⟨q2,sA⟩:∃ q2:List Vq,q2=kA rows.length (e.1 - ai e.1 (aD S F e.2)) (kW q (aD S F e.2 - ai e.1 (aD S F e.2))):=⟨_,rfl⟩
 rw [←sA] at fA
 have vi:=sA.symm
 refine VO.ft 52 rfl (dR (by rw [cA,ao,iB];rfl) _ _) (VO.ft 36 rfl (dR (ao _) _ _) (wV rfl ?_))
 (repeat first|refine wN ?_|refine wP rfl ?_|refine af rfl ?_|refine ag rfl ?_|refine wO rfl rfl ?_)
 by_cases lI:nz=0
 ·refine VO.cZ (x:=.row 62 fw nz nC) (p:=fun _=>none) (c:=nC) rfl (fun β=>.inr ⟨_,congrArg (fun n=>Value.slice (some ⟨β 62,fw,none⟩) n nC) lI⟩) rfl (fk Tryz.func75) rfl (fun Dk Mq Mr=>wV rfl ?_)
  (repeat first|refine wN ?_|refine wP rfl ?_|refine af rfl ?_|refine ag rfl ?_|refine wO rfl rfl ?_)
  have AD:q2=[]:=List.eq_nil_of_length_eq_zero (by rw [←fA.len];exact lI)
  have pO:dk S F keep (rows:List aN).length ⟨q,rows,uses⟩ e=⟨q2,rows++[dD S F q e],JR⟩:=by rw [mf,vi,nw,AD];rfl
  (repeat first|refine wN ?_|refine wP rfl ?_|refine af rfl ?_|refine ag rfl ?_|refine wO rfl rfl ?_)
  refine VS.ky (bk _ _) rfl (fun wz β kz oz en=> ?_)
  obtain ⟨o1,o2⟩:=eb (en.own 198 _ _ rfl) 0 g rfl rfl
  have oR:=(en.own 52 _ _ rfl).cls
  rw [List.map_append,ah] at oR
  have nR:=fh hB dU (show cB 99 [g,vb,rb,ub] w 52 (β 52) from (en.own 52 _ _ rfl).new)
  have oV:=(en.own 62 _ _ rfl).cls
  rw [ah] at oV
  have nV:=fh hB dU (show cB 99 [g,vb,rb,ub] w 62 (β 62) from (en.own 62 _ _ rfl).new)
  have oU:=(en.own 36 _ _ rfl).cls
  rw [ah] at oU
  have nU:=fh hB dU (show cB 99 [g,vb,rb,ub] w 36 (β 36) from (en.own 36 _ _ rfl).new)
  rw [pO]
  refine ⟨rfl,oz.1,[g,β 62,β 52,β 36],⟨fun b hb=> ?_,_,_,_,o2,?_⟩⟩
  ·simp only [List.mem_cons,List.not_mem_nil,or_false] at hb
   rcases hb with rfl | rfl | rfl | rfl
   ·exact zn
   ·exact nV
   ·exact nR
   ·exact nU
  ·exact .inr (.inr (.inr ⟨β 62,β 52,β 36,rfl,⟨_,_,_,_,_,_,rfl,oV,fA.kp (aM B) (by (with_reducible (repeat (first | assumption | exact kU _ | exact kR _ | exact Kp.of (U:=UU) (by assumption) | exact aE.of (by assumption) | refine kT ?_ (by assumption)))))⟩,⟨_,_,_,_,rfl,oR,(fq.kp (az B) (by (with_reducible (repeat (first | assumption | exact kU _ | exact kR _ | exact Kp.of (U:=UU) (by assumption) | exact aE.of (by assumption) | refine kT ?_ (by assumption)))))).o β⟩,⟨_,_,_,_,rfl,oU,xS.kp (dm B) (by (with_reducible (repeat (first | assumption | exact kU _ | exact kR _ | exact Kp.of (U:=UU) (by assumption) | exact aE.of (by assumption) | refine kT ?_ (by assumption)))))⟩⟩))
 obtain ⟨pp,qt,KZ⟩:∃ pp qt,q2=pp::qt:=by
  cases q2 with
  | nil=>exact absurd fA.len lI
  | cons pp qt=>exact ⟨pp,qt,rfl⟩
 subst KZ
 obtain ⟨AE,vM,rfl,hE4,sB⟩:∃ AE vM,GR=AE::vM∧cH B Bb AE pp∧cM (cH B) Bb qt vM:=by
  have:=fA.el
  cases this with
  | cons h1 h2=>exact ⟨_,_,rfl,h1,h2⟩
 obtain ⟨s9,p9,n9,c9,t9,y9,m9,d9,rfl,Jk⟩:=hE4
 have AG:=fA.le
 have AH:=fA.len
 have AJ:=fA.cm
 have jH:kC.length=fw:=fA.pl.resolve_right (by omega)
 refine VO.cI rfl rfl (fk Tryz.func75) rfl lI (by intro h;cases h) (fun Dk Mq Mr=>wV rfl ?_)
 (repeat first|refine wN ?_|refine wP rfl ?_|refine af rfl ?_|refine ag rfl ?_|refine wO rfl rfl ?_)
 refine VO.dh rfl (([.int .i64 (pp.1:Int)]:List Value).map .val) rfl (bh jH 0 _ ⟨_,rfl⟩) (wV rfl ?_)
 (repeat first|refine wN ?_|refine wP rfl ?_|refine af rfl ?_|refine ag rfl ?_|refine wO rfl rfl ?_)
 have GU:IntKind.i64.wrap (((rows:List aN).length:Int) - (keep:Int))=((rows:List aN).length:Int) - (keep:Int):=IntWalk.i64_in _ (by omega)
 by_cases hx:pp.1 + keep=(rows:List aN).length
 ·refine VS.bE rfl (by rw [GU,beq_iff_eq];omega) ?_
  (repeat first|refine wN ?_|refine wP rfl ?_|refine af rfl ?_|refine ag rfl ?_|refine wO rfl rfl ?_)
  refine VO.dh rfl (([.int .i64 (pp.1:Int)]:List Value).map .val) rfl (bh jH 0 _ ⟨_,rfl⟩) (wV rfl ?_)
  (repeat first|refine wN ?_|refine wP rfl ?_|refine af rfl ?_|refine ag rfl ?_|refine wO rfl rfl ?_)
  refine VO.dh rfl (([.bool s9,.slice p9 n9 c9,.bool t9,.slice y9 m9 d9]:List Value).map .val) rfl (bh jH 1 _ ⟨[],rfl⟩) (wV rfl ?_)
  (repeat first|refine wN ?_|refine wP rfl ?_|refine af rfl ?_|refine ag rfl ?_|refine wO rfl rfl ?_)
  have fi:=fq.len
  have Cp:pp.1 < nI:=by rw [fi,List.length_append,List.length_singleton];omega
  refine VO.cond rfl ⟨by omega,by omega⟩ (wV rfl ?_)
  obtain ⟨rq,zo⟩:∃ rq,(rows++[dD S F q e])[pp.1]? =some rq:=⟨_,List.getElem?_eq_getElem (by rw [←fi];exact Cp)⟩
  obtain ⟨zp,tI,zt⟩:=fq.el.at pp.1 rq zo
  have gG:=fq.fl
  have Jl:=fq.le
  refine VO.cond rfl (by show 0 + ((pp.1:Int)).toNat * 28 + 20 + 4≤_;rw [gG,Int.toNat_natCast];omega) (VO.ft 52 rfl (kh (new:=[.bool s9,.slice p9 n9 c9,.bool t9,.slice y9 m9 d9]) (o:=20) (fq.el.lens (az B)) tI (Nat.le_of_ble_eq_true rfl)) (wV rfl ?_))
  (repeat first|refine wN ?_|refine wP rfl ?_|refine af rfl ?_|refine ag rfl ?_|refine wO rfl rfl ?_)
  have hR3:nv (dG B) 28 Dk nI lD (qQ.set pp.1 (zp.take 20++([.bool s9,.slice p9 n9 c9,.bool t9,.slice y9 m9 d9]++zp.drop (20 + ([.bool s9,.slice p9 n9 c9,.bool t9,.slice y9 m9 d9]:List Value).length)))) uT ((rows++[dD S F q e]).modify pp.1 (fun r=>{ r with aZ:=pp.2 })):=
   ⟨by rw [List.length_modify];exact fi,by rw [gJ zo];exact (fq.el.kp (az B) (by (with_reducible (repeat (first | assumption | exact kU _ | exact kR _ | exact Kp.of (U:=UU) (by assumption) | exact aE.of (by assumption) | refine kT ?_ (by assumption)))))).set (oK ((az B).kp zt (by (with_reducible (repeat (first | assumption | exact kU _ | exact kR _ | exact Kp.of (U:=UU) (by assumption) | exact aE.of (by assumption) | refine kT ?_ (by assumption)))))) ⟨_,_,_,_,_,_,_,_,rfl,Jk.kp (by (with_reducible (repeat (first | assumption | exact kU _ | exact kR _ | exact Kp.of (U:=UU) (by assumption) | exact aE.of (by assumption) | refine kT ?_ (by assumption)))))⟩),fq.so,fq.sl,fq.le,fq.cm,by
    rw [List.length_append,List.length_map,cW (kj (fq.el.lens (az B)) (sq ((az B).len zt) rfl)),List.length_set]
    rw [List.length_append,List.length_map,cW (fq.el.lens (az B))] at gG
    exact gG⟩
  refine VO.iA rfl rfl (fk Tryz.func76) rfl (by omega) AG AJ (fun j hj=> ?_) (Nat.le_of_ble_eq_true rfl) (fun w21 k21 b21=>wV rfl ?_)
  ·simp only [ax,AV.cL,List.flatMap_cons,List.flatMap_nil,List.mem_append,List.mem_cons,List.not_mem_nil,or_false,List.append_nil] at hj
   rcases hj with rfl | rfl | rfl <;> (intro h;cases h)
  (repeat first|refine wN ?_|refine wP rfl ?_|refine af rfl ?_|refine ag rfl ?_|refine wO rfl rfl ?_)
  have hV4:cY (cH B) 5 w21 (nz - 1) (if nC=1 then fw else fw + 5) (nC - 1) (kC++[.int .i64 (pp.1:Int),.bool s9,.slice p9 n9 c9,.bool t9,.slice y9 m9 d9]) vM GS qt:=⟨by rw [AH];rfl,mM jH,by rw [List.all_append,fA.po];rfl,sB.kp (aM B) (by (with_reducible (repeat (first | assumption | exact kU _ | exact kR _ | exact Kp.of (U:=UU) (by assumption) | exact aE.of (by assumption) | refine kT ?_ (by assumption))))),fA.so,by omega,by omega,mO fA.fl⟩
  have pO:dk S F keep (rows:List aN).length ⟨q,rows,uses⟩ e=⟨qt,(rows++[dD S F q e]).modify pp.1 (fun r=>{ r with aZ:=pp.2 }),JR⟩:=by
   rw [mf,vi,nw]
   exact if_pos hx
  (repeat first|refine wN ?_|refine wP rfl ?_|refine af rfl ?_|refine ag rfl ?_|refine wO rfl rfl ?_)
  refine VS.ky (bk _ _) rfl (fun wz β kz oz en=> ?_)
  obtain ⟨o1,o2⟩:=eb (en.own 198 _ _ rfl) 0 g rfl rfl
  have oR:=(en.own 52 _ _ rfl).cls
  rw [List.map_append,ah] at oR
  have nR:=fh hB dU (show cB 99 [g,vb,rb,ub] w 52 (β 52) from (en.own 52 _ _ rfl).new)
  have oV:=(en.own 62 _ _ rfl).cls
  rw [dM,ah] at oV
  have nV:=fh hB dU (show cB 99 [g,vb,rb,ub] w 62 (β 62) from (en.own 62 _ _ rfl).new)
  have oU:=(en.own 36 _ _ rfl).cls
  rw [ah] at oU
  have nU:=fh hB dU (show cB 99 [g,vb,rb,ub] w 36 (β 36) from (en.own 36 _ _ rfl).new)
  rw [pO]
  refine ⟨rfl,oz.1,[g,β 62,β 52,β 36],⟨fun b hb=> ?_,_,_,_,o2,?_⟩⟩
  ·simp only [List.mem_cons,List.not_mem_nil,or_false] at hb
   rcases hb with rfl | rfl | rfl | rfl
   ·exact zn
   ·exact nV
   ·exact nR
   ·exact nU
  ·exact .inr (.inr (.inr ⟨β 62,β 52,β 36,rfl,⟨_,_,_,_,_,_,rfl,oV,hV4.kp (aM B) (by (with_reducible (repeat (first | assumption | exact kU _ | exact kR _ | exact Kp.of (U:=UU) (by assumption) | exact aE.of (by assumption) | refine kT ?_ (by assumption)))))⟩,⟨_,_,_,_,rfl,oR,(hR3.kp (az B) (by (with_reducible (repeat (first | assumption | exact kU _ | exact kR _ | exact Kp.of (U:=UU) (by assumption) | exact aE.of (by assumption) | refine kT ?_ (by assumption)))))).o β⟩,⟨_,_,_,_,rfl,oU,xS.kp (dm B) (by (with_reducible (repeat (first | assumption | exact kU _ | exact kR _ | exact Kp.of (U:=UU) (by assumption) | exact aE.of (by assumption) | refine kT ?_ (by assumption)))))⟩⟩))
 ·refine VS.bu rfl (by rw [GU,beq_eq_false_iff_ne];omega) ?_
  have pO:dk S F keep (rows:List aN).length ⟨q,rows,uses⟩ e=⟨pp::qt,rows++[dD S F q e],JR⟩:=by
   rw [mf,vi,nw]
   exact if_neg hx
  (repeat first|refine wN ?_|refine wP rfl ?_|refine af rfl ?_|refine ag rfl ?_|refine wO rfl rfl ?_)
  refine VS.ky (bk _ _) rfl (fun wz β kz oz en=> ?_)
  obtain ⟨o1,o2⟩:=eb (en.own 198 _ _ rfl) 0 g rfl rfl
  have oR:=(en.own 52 _ _ rfl).cls
  rw [List.map_append,ah] at oR
  have nR:=fh hB dU (show cB 99 [g,vb,rb,ub] w 52 (β 52) from (en.own 52 _ _ rfl).new)
  have oV:=(en.own 62 _ _ rfl).cls
  rw [ah] at oV
  have nV:=fh hB dU (show cB 99 [g,vb,rb,ub] w 62 (β 62) from (en.own 62 _ _ rfl).new)
  have oU:=(en.own 36 _ _ rfl).cls
  rw [ah] at oU
  have nU:=fh hB dU (show cB 99 [g,vb,rb,ub] w 36 (β 36) from (en.own 36 _ _ rfl).new)
  rw [pO]
  refine ⟨rfl,oz.1,[g,β 62,β 52,β 36],⟨fun b hb=> ?_,_,_,_,o2,?_⟩⟩
  ·simp only [List.mem_cons,List.not_mem_nil,or_false] at hb
   rcases hb with rfl | rfl | rfl | rfl
   ·exact zn
   ·exact nV
   ·exact nR
   ·exact nU
  ·exact .inr (.inr (.inr ⟨β 62,β 52,β 36,rfl,⟨_,_,_,_,_,_,rfl,oV,fA.kp (aM B) (by (with_reducible (repeat (first | assumption | exact kU _ | exact kR _ | exact Kp.of (U:=UU) (by assumption) | exact aE.of (by assumption) | refine kT ?_ (by assumption)))))⟩,⟨_,_,_,_,rfl,oR,(fq.kp (az B) (by (with_reducible (repeat (first | assumption | exact kU _ | exact kR _ | exact Kp.of (U:=UU) (by assumption) | exact aE.of (by assumption) | refine kT ?_ (by assumption)))))).o β⟩,⟨_,_,_,_,rfl,oU,xS.kp (dm B) (by (with_reducible (repeat (first | assumption | exact kU _ | exact kR _ | exact Kp.of (U:=UU) (by assumption) | exact aE.of (by assumption) | refine kT ?_ (by assumption)))))⟩⟩))
end Go.Proofs.YtabalinjfgcfeaaGreat
set_option maxRecDepth 4000
namespace Go.Proofs.YtabalinjfgcfeaaGreat
open Go.RowKit
attribute [local irreducible] aB VS
theorem Jn {B g keep D kk ks:Nat} {M S F:Rat} {e:Rat×Rat} {ad:List Nat} {s:Dd} {v u:Value} {w:World} (hs:mY B w g ad s)
  (uS:FA w v S F keep ks) (JP:YrV w u e ks) (ss:1≤ks) (yr:ks≤kk) (zf:kk≤100000) (vK:Iz D (aD S F e.2)) (DZ:aD S F e.2≤M) (JQ:Iz D e.1) (gL: -M≤e.1) (Ea:e.1≤M) (hK:∀ x,Iz D x→-(M + M)≤x→x≤M + M→dV x kk)
  (vL:xG D M s) (uE:s.rows.length≤64) (uF:keep≤40) (hB:B≤w.heap.size):
  Calls Tryz.prog 39 #[.pointer (some ⟨g,0,none⟩),v,.int .i64 (s.rows.length:Int),u] w fun o w'=>o=.returned (iC [])∧qA ad w w'∧∃ Mp,mY B w' g Mp (dk S F keep s.rows.length s e):=by
 obtain ⟨q,rows,uses⟩:=s
 obtain ⟨had,vv,r,uu,hg,h⟩:=hs
 rcases h with ⟨rfl,rfl,rfl,rfl,rfl,rfl,rfl⟩ | ⟨rb,rfl,rfl,rfl,rfl,rfl,n,c,vs,sp,rfl,h1,h2⟩ | ⟨vb,rb,rfl,rfl,rfl,⟨off,nq,cq,pre,Mu,Mt,rfl,h3,h4⟩,n,c,vs,sp,rfl,h1,h2⟩ | ⟨vb,rb,ub,rfl,⟨off,nq,cq,pre,Mu,Mt,rfl,h3,h4⟩,⟨n,c,vs,sp,rfl,h1,h2⟩,n',c',gE,sp',rfl,h5,h6⟩
 ·exact iYear_A (q:=[]) (rows:=[]) (uses:=[]) hg uS JP ss yr zf vK DZ JQ gL Ea hK vL uE uF hB had
 ·exact iYear_B (q:=[]) (uses:=[]) hg h1 h2 uS JP ss yr zf vK DZ JQ gL Ea hK vL uE uF hB had
 ·exact iYear_C (uses:=[]) hg h3 h4 h1 h2 uS JP ss yr zf vK DZ JQ gL Ea hK vL uE uF hB had
 ·exact iYear_D hg h3 h4 h1 h2 h5 h6 uS JP ss yr zf vK DZ JQ gL Ea hK vL uE uF hB had
abbrev RR:=Bool×List Nat×Bool×List Nat
def RR.q (x:RR):Rat:=rq x.1 x.2.1 x.2.2.1 x.2.2.2
def RR.ok (x:RR):Bool:=Fl x.1 x.2.1 x.2.2.1 x.2.2.2
def tJ (w:World) (cs:List Value) (x:RR):Prop:=∃ p c r d,cs=[.bool x.1,.slice p x.2.1.length c,.bool x.2.2.1,.slice r x.2.2.2.length d]∧eR w (.agg #[.bool x.1,.slice p x.2.1.length c,.bool x.2.2.1,.slice r x.2.2.2.length d]) x.1 x.2.1 x.2.2.1 x.2.2.2
theorem tJ.kp {T:TypeId→Bool} {w w':World} {cs:List Value} {x:RR} (h:tJ w cs x) (k:aE ⟨UU,fun _=>True,T⟩ w w'):tJ w' cs x:=by
 obtain ⟨p,c,r,d,h1,h2⟩:=h
 exact ⟨p,c,r,d,h1,h2.kp k⟩
def RR.mW (x:RR) (k:Nat):Prop:=x.2.1.length≤k∧x.2.2.2.length≤k
def xY (kk:Nat) (w:World) (cs:List Value) (e:RR×RR):Prop:=∃ a b,cs=a++b∧tJ w a e.1∧tJ w b e.2∧e.1.mW kk∧e.2.mW kk
theorem tJ.len {w:World} {cs:List Value} {x:RR} (h:tJ w cs x):cs.length=4:=by obtain ⟨p,c,r,d,rfl,_⟩:=h;rfl
theorem tJ.ok {w:World} {cs:List Value} {x:RR} (h:tJ w cs x):cs.all aU=true:=by obtain ⟨p,c,r,d,rfl,_⟩:=h;rfl
theorem fP (kk:Nat):lB (xY kk) 8 where
 kp:=fun h k=>by
  obtain ⟨a,b,h0,h1,h2,h3⟩:=h
  exact ⟨a,b,h0,h1.kp k,h2.kp k,h3⟩
 len:=fun h=>by obtain ⟨a,b,rfl,h1,h2,h3⟩:=h;rw [List.length_append,h1.len,h2.len]
 ok:=fun h=>by obtain ⟨a,b,rfl,h1,h2,h3⟩:=h;rw [List.all_append,h1.ok,h2.ok];rfl
def jl (w:World) (v:Value) (a b:RR) (keep:Int):Prop:=∃ p c r d p' c' r' d',v=.agg #[.bool a.1,.slice p a.2.1.length c,.bool a.2.2.1,.slice r a.2.2.2.length d,.bool b.1,.slice p' b.2.1.length c',.bool b.2.2.1,.slice r' b.2.2.2.length d',.int .i64 keep]∧
 eR w (.agg #[.bool a.1,.slice p a.2.1.length c,.bool a.2.2.1,.slice r a.2.2.2.length d]) a.1 a.2.1 a.2.2.1 a.2.2.2∧eR w (.agg #[.bool b.1,.slice p' b.2.1.length c',.bool b.2.2.1,.slice r' b.2.2.2.length d']) b.1 b.2.1 b.2.2.1 b.2.2.2
theorem eR.pz {w:World} {v:Value} {x:RR} {k:Nat} (h:eR w v x.1 x.2.1 x.2.2.1 x.2.2.2) (hk:x.mW k):bK w v x.q k:=⟨_,_,_,_,h,rfl,hk.1,hk.2⟩
theorem jl.v {w:World} {v:Value} {a b:RR} {keep:Int} {ks:Nat} (h:jl w v a b keep) (ha:a.mW ks) (hb:b.mW ks):FA w v a.q b.q keep ks:=by
 obtain ⟨p,c,r,d,p',c',r',d',rfl,h1,h2⟩:=h
 exact ⟨_,_,_,_,_,_,_,_,_,_,_,_,_,_,_,_,rfl,h1.pz ha,h2.pz hb⟩
theorem jl.kp {T:TypeId→Bool} {w w':World} {v:Value} {a b:RR} {keep:Int} (h:jl w v a b keep) (k:aE ⟨UU,fun _=>True,T⟩ w w'):jl w' v a b keep:=by
 obtain ⟨p,c,r,d,p',c',r',d',h0,h1,h2⟩:=h
 exact ⟨p,c,r,d,p',c',r',d',h0,h1.kp k,h2.kp k⟩
theorem fQ (x:RR) (b:Bool) (hb:x.ok=b) (v:Value) (w:World) (h:eR w v x.1 x.2.1 x.2.2.1 x.2.2.2) {k:Nat} (hx:x.mW k) (hk:k≤100000):
 Calls Tryz.prog 68 #[v] w fun e w'=>e=.returned (.bool b)∧aj w w':=hb▸rW _ _ _ _ v w h (Nat.le_trans hx.1 (by omega)) (Nat.le_trans hx.2 (by omega))
def jm (a b:RR) (keep:Int):Bool:=a.ok && (b.ok && (decide (dK a.q 0≥0) && (decide (dK a.q 1≤0) && (decide (keep≥0) && decide (keep≤40)))))
set_option maxRecDepth 4000 in
theorem FH (v:Value) (a b:RR) (keep:Int) (k:Nat) (w:World) (h:jl w v a b keep) (ha:a.mW k) (hb:b.mW k) (hk:k≤100000):
  Calls Tryz.prog 35 #[v] w fun o w'=>o=.returned (.bool (jm a b keep))∧aj w w':=by
 obtain ⟨p,c,r,d,p',c',r',d',rfl,h1,h2⟩:=h
 refine aw (C:=cj Tryz.prog w _) (args:=[_]) Tryz.func35 rfl Tryz.ntmps35 (Nat.le_of_ble_eq_true rfl) ?_
 (repeat first|refine wN ?_|refine wP rfl ?_|refine aa rfl ?_|refine ab rfl ?_|refine wO rfl rfl ?_)
 cases e1:a.ok with
 | false=>
   refine VO.call rfl rfl (fk Tryz.func68) (fun cC er dv=>(fQ a false e1 _ cC (h1.kp (Kp.of (U:=UU) dv)) ha hk).mono ?_)
   rintro e w1 ⟨rfl,aV⟩
   skip
   refine ⟨_,rfl,aV,fun fe _ bb1=>wV rfl ?_⟩
   (repeat first|refine wN ?_|refine wP rfl ?_|refine aa rfl ?_|refine ab rfl ?_|refine wO rfl rfl ?_)
   refine VS.ret (aL _ _) rfl rfl (fun wz kz bz=> ?_)
   exact ⟨by unfold jm;rw [e1];rfl,bz⟩
 | true=>
 refine VO.call rfl rfl (fk Tryz.func68) (fun cC er dv=>(fQ a true e1 _ cC (h1.kp (Kp.of (U:=UU) dv)) ha hk).mono ?_)
 rintro e w1 ⟨rfl,aV⟩
 skip
 refine ⟨_,rfl,aV,fun fe _ bb1=>wV rfl ?_⟩
 (repeat first|refine wN ?_|refine wP rfl ?_|refine aa rfl ?_|refine ab rfl ?_|refine wO rfl rfl ?_)
 cases e2:b.ok with
 | false=>
   refine VO.call rfl rfl (fk Tryz.func68) (fun dC gu eu=>(fQ b false e2 _ dC (h2.kp (Kp.of (U:=UU) eu)) hb hk).mono ?_)
   rintro e w2 ⟨rfl,bm⟩
   skip
   refine ⟨_,rfl,bm,fun fZ _ bb2=>wV rfl ?_⟩
   (repeat first|refine wN ?_|refine wP rfl ?_|refine aa rfl ?_|refine ab rfl ?_|refine wO rfl rfl ?_)
   refine VS.ret (aL _ _) rfl rfl (fun wz kz bz=> ?_)
   exact ⟨by unfold jm;rw [e1,e2];rfl,bz⟩
 | true=>
 refine VO.call rfl rfl (fk Tryz.func68) (fun dC gu eu=>(fQ b true e2 _ dC (h2.kp (Kp.of (U:=UU) eu)) hb hk).mono ?_)
 rintro e w2 ⟨rfl,bm⟩
 skip
 refine ⟨_,rfl,bm,fun fZ _ bb2=>wV rfl ?_⟩
 (repeat first|refine wN ?_|refine wP rfl ?_|refine aa rfl ?_|refine ab rfl ?_|refine wO rfl rfl ?_)
 obtain ⟨sg,jn⟩:∃ sg,dK a.q 0=sg:=⟨_,rfl⟩
 have hrul:jm a b keep=(decide (sg≥0) && (decide (dK a.q 1≤0) && (decide (keep≥0) && decide (keep≤40)))):=by unfold jm;rw [e1,e2,jn];rfl
 rw [hrul]
 refine VO.call rfl rfl (fk Tryz.func13) (fun gv gY gV=>(bS _ a.q k gv ((h1.pz ha).kp (Kp.of (U:=UU) gV)) (by omega) sg jn).mono ?_)
 rintro e w3 ⟨rfl,cD⟩
 skip
 refine ⟨_,rfl,cD,fun kt _ bb3=>wV rfl ?_⟩
 (repeat first|refine wN ?_|refine wP rfl ?_|refine aa rfl ?_|refine ab rfl ?_|refine wO rfl rfl ?_)
 by_cases e3':sg < 0
 ·have e3:¬ sg≥0:=by omega
  rw [decide_eq_false e3]
  (repeat first|refine wN ?_|refine wP rfl ?_|refine aa rfl ?_|refine ab rfl ?_|refine wO rfl rfl ?_)
  refine VS.ret (aL _ _) rfl rfl (fun wz kz bz=> ?_)
  exact ⟨rfl,bz⟩
 have e3:sg≥0:=by omega
 rw [decide_eq_true e3]
 (repeat first|refine wN ?_|refine wP rfl ?_|refine aa rfl ?_|refine ab rfl ?_|refine wO rfl rfl ?_)
 refine VO.call rfl rfl (fk Tryz.func44) (fun nj qa qF=>(bF 1 nj (by omega) (by omega)).mono ?_)
 rintro e w4 ⟨r4,rfl,q4,gU⟩
 obtain ⟨s4,p4,n4,c4,t4,y4,m4,d4,rfl⟩:=q4.form
 refine ⟨_,rfl,gU,fun pd _ AZ=>wV rfl ?_⟩
 (repeat first|refine wN ?_|refine wP rfl ?_|refine aa rfl ?_|refine ab rfl ?_|refine wO rfl rfl ?_)
 have h11:((1:Int):Rat)=1:=rfl
 rw [h11] at q4
 obtain ⟨cm,eV⟩:∃ cm,dK a.q 1=cm:=⟨_,rfl⟩
 rw [eV]
 refine VO.call rfl rfl (fk Tryz.func12) (fun kg mG ku=>(dL _ _ a.q 1 k 1 kg ((h1.pz ha).kp (Kp.of (U:=UU) ku)) (q4.ki ⟨Sz.small (by decide),Sz.small (by decide)⟩) (by omega) (by omega) cm eV).mono ?_)
 rintro e w5 ⟨rfl,gi⟩
 skip
 refine ⟨_,rfl,gi,fun nk _ xf=>wV rfl ?_⟩
 (repeat first|refine wN ?_|refine wP rfl ?_|refine aa rfl ?_|refine ab rfl ?_|refine wO rfl rfl ?_)
 by_cases e4':0 < cm
 ·have e4:¬ cm≤0:=by omega
  rw [decide_eq_false e4]
  (repeat first|refine wN ?_|refine wP rfl ?_|refine aa rfl ?_|refine ab rfl ?_|refine wO rfl rfl ?_)
  refine VS.ret (aL _ _) rfl rfl (fun wz kz bz=> ?_)
  exact ⟨rfl,bz⟩
 have e4:cm≤0:=by omega
 rw [decide_eq_true e4]
 (repeat first|refine wN ?_|refine wP rfl ?_|refine aa rfl ?_|refine ab rfl ?_|refine wO rfl rfl ?_)
 by_cases e5':keep < 0
 ·have e5:¬ keep≥0:=by omega
  rw [decide_eq_false e5]
  (repeat first|refine wN ?_|refine wP rfl ?_|refine aa rfl ?_|refine ab rfl ?_|refine wO rfl rfl ?_)
  refine VS.ret (aL _ _) rfl rfl (fun wz kz bz=> ?_)
  exact ⟨rfl,bz⟩
 have e5:keep≥0:=by omega
 rw [decide_eq_true e5]
 (repeat first|refine wN ?_|refine wP rfl ?_|refine aa rfl ?_|refine ab rfl ?_|refine wO rfl rfl ?_)
 refine VS.ret (aL _ _) rfl rfl (fun wz kz bz=> ?_)
 exact ⟨rfl,bz⟩
theorem Dn (v:Value) (cs:List Value) (e:RR×RR) (k:Nat) (w:World) (hv:v=.agg cs.toArray) (h:xY k w cs e) (hk:k≤100000):
  Calls Tryz.prog 38 #[v] w fun o w'=>o=.returned (.bool (e.1.ok && e.2.ok))∧aj w w':=by
 obtain ⟨_,_,rfl,⟨p,c,r,d,rfl,h1⟩,⟨p',c',r',d',rfl,h2⟩,ha,hb⟩:=h
 subst hv
 refine aw (C:=cj Tryz.prog w _) (args:=[_]) Tryz.func38 rfl Tryz.ntmps38 (Nat.le_of_ble_eq_true rfl) ?_
 (repeat first|refine wN ?_|refine wP rfl ?_|refine aa rfl ?_|refine ab rfl ?_|refine wO rfl rfl ?_)
 cases e1:e.1.ok with
 | false=>
   refine VO.call rfl rfl (fk Tryz.func68) (fun cC er dv=>(fQ e.1 false e1 _ cC (h1.kp (Kp.of (U:=UU) dv)) ha hk).mono ?_)
   rintro e w1 ⟨rfl,aV⟩
   skip
   refine ⟨_,rfl,aV,fun fe _ bb1=>wV rfl ?_⟩
   (repeat first|refine wN ?_|refine wP rfl ?_|refine aa rfl ?_|refine ab rfl ?_|refine wO rfl rfl ?_)
   refine VS.ret (aL _ _) rfl rfl (fun wz kz bz=> ?_)
   exact ⟨rfl,bz⟩
 | true=>
 refine VO.call rfl rfl (fk Tryz.func68) (fun cC er dv=>(fQ e.1 true e1 _ cC (h1.kp (Kp.of (U:=UU) dv)) ha hk).mono ?_)
 rintro e w1 ⟨rfl,aV⟩
 skip
 refine ⟨_,rfl,aV,fun fe _ bb1=>wV rfl ?_⟩
 (repeat first|refine wN ?_|refine wP rfl ?_|refine aa rfl ?_|refine ab rfl ?_|refine wO rfl rfl ?_)
 obtain ⟨b2,bm⟩:∃ b2,e.2.ok=b2:=⟨_,rfl⟩
 rw [bm]
 refine VO.call rfl rfl (fk Tryz.func68) (fun dC gu eu=>(fQ e.2 b2 bm _ dC (h2.kp (Kp.of (U:=UU) eu)) hb hk).mono ?_)
 rintro e w2 ⟨rfl,bm⟩
 skip
 refine ⟨_,rfl,bm,fun fZ _ bb2=>wV rfl ?_⟩
 (repeat first|refine wN ?_|refine wP rfl ?_|refine aa rfl ?_|refine ab rfl ?_|refine wO rfl rfl ?_)
 refine VS.ret (aL _ _) rfl rfl (fun wz kz bz=> ?_)
 exact ⟨rfl,bz⟩
def pP (e:RR×RR):Bool:=e.1.ok && e.2.ok
theorem FI (v:Value) (cs:List Value) (e:RR×RR) (k:Nat) (w:World) (hv:v=.agg cs.toArray) (h:xY k w cs e) (hk:k≤100000) (b:Bool) (hb:pP e=b):
 Calls Tryz.prog 38 #[v] w fun o w'=>o=.returned (.bool b)∧aj w w':=hb▸Dn v cs e k w hv h hk
theorem zv (v:Value) (cs:List Value) (e:RR×RR) (k:Nat) (w:World) (hv:v=.agg cs.toArray) (h:xY k w cs e) (hk:k≤100000) (b:Bool) (hb:pP e=b):
  Calls Tryz.prog 37 #[v] w fun o w'=>o=.returned (.bool !b)∧aj w w':=by
 have h0:=h
 obtain ⟨_,_,rfl,⟨p,c,r,d,rfl,h1⟩,⟨p',c',r',d',rfl,h2⟩,ha,ya⟩:=h
 subst hv
 refine aw (C:=cj Tryz.prog w _) (args:=[_]) Tryz.func37 rfl Tryz.ntmps37 (Nat.le_of_ble_eq_true rfl) ?_
 (repeat first|refine wN ?_|refine wP rfl ?_|refine aa rfl ?_|refine ab rfl ?_|refine wO rfl rfl ?_)
 refine VO.call rfl rfl (fk Tryz.func38) (fun cC er dv=>(FI _ _ e k cC rfl ((fP k).kp h0 (Kp.of (U:=UU) dv)) hk b hb).mono ?_)
 rintro e w1 ⟨rfl,aV⟩
 skip
 refine ⟨_,rfl,aV,fun fe _ bb1=>wV rfl ?_⟩
 (repeat first|refine wN ?_|refine wP rfl ?_|refine aa rfl ?_|refine ab rfl ?_|refine wO rfl rfl ?_)
 refine VS.ret (aL _ _) rfl rfl (fun wz kz bz=> ?_)
 exact ⟨rfl,bz⟩
end Go.Proofs.YtabalinjfgcfeaaGreat
namespace Go.Proofs.YtabalinjfgcfeaaGreat
open Go.RowKit
section
variable {C:Cx} {F:Fr} {H:Hp} {w:World} {m:Option (List FuncId)} {full:Array Oper} {K:Fr→Hp→World→Prop} {o:Oper} {r:List Oper} {Q:Exit→Act→World→Prop} {k:List It}
def sC (F:Fr) (β bG:Nat→Nat) (lo hi:Nat):List (Nat×AV)→Prop
 | []=>True
 | p::r=>(∃ u,F p.1=some u∧p.2.aY bG=u.aY β∧∀ i∈p.2.ids,lo≤i∧i < hi)∧sC F β bG lo hi r
theorem sC.mem {β bG:Nat→Nat} {lo hi:Nat}:∀ {L:List (Nat×AV)} {d:Nat} {v:AV},sC F β bG lo hi L→(d,v)∈L→∃ u,F d=some u∧v.aY bG=u.aY β∧∀ i∈v.ids,lo≤i∧i < hi
 | p::r,d,v,h,hm=>by
   rcases List.mem_cons.1 hm with rfl | hm
   ·exact h.1
   ·exact sC.mem h.2 hm
theorem VS.sD (K:KC) (SU:TypeId→Bool) (ti:TypeId→Option TI) (keep:∀ (w':World) b,b < w'.heap.size→K.S b)
  (h:∀ w' β,aE C.K w w'→C.Old w'→Ends C β H w'→∃ (ad:List Nat) (l:List (TypeId×List AV)) (hl:iG K C.N ad l w') (L:List (Nat×AV)),sC F β (adB C.N ad) (2 * C.N) (2 * C.N + l.length) L∧
   VS (Ix C.P w' C.N K SU ti (keep w') ad hl.nodup hl.ad) Q k (Fr.of L) (Hp.Jb (2 * C.N) l) w'):VS C Q k F H w:=fun β a w' hr hk=>by
 obtain ⟨ad,l,hl,L,hL,hv⟩:=h w' β hk hr.old ⟨hr.own,hr.apart⟩
 have xT:∀ i c,Hp.Jb (2 * C.N) l i=some c→2 * C.N≤i∧l[i - 2 * C.N]? =some c:=fun i c hi=>by
  rw [Hp.mJ] at hi
  split at hi
  ·exact ⟨by assumption,hi⟩
  ·cases hi
 have hsome:∀ i,Hp.Jb (2 * C.N) l i≠none→2 * C.N≤i∧i - 2 * C.N < l.length:=fun i hi=>by
  cases hh:Hp.Jb (2 * C.N) l i with
  | none=>exact absurd hh hi
  | some c=>
    obtain ⟨h1,h2⟩:=xT i c hh
    exact ⟨h1,(List.getElem?_eq_some_iff.1 h2).1⟩
 have hval:∀ k,k < ad.length→ad[k]? =some (ad.getD k 0):=fun k hk=>by simp [List.getD_eq_getElem?_getD,hk]
 refine hv (adB C.N ad) a w' ⟨hr.defers,hr.size,fun d v hd=> ?_,fun i t cs hi=> ?_,fun i j hi hj e=> ?_,fun d v hd i hi=> ?_,fun d v hd=> ?_,⟨fun i t cs hi=> ?_,fun i t cs hi=> ?_,fun i hi=> ?_⟩,(Ix C.P w' C.N K SU ti (keep w') ad hl.nodup hl.ad).oP⟩ (aE.refl _ _)
 ·obtain ⟨u,h1,h2,_⟩:=hL.mem (Fr.fH hd)
  rw [h2]
  exact hr.tmp d u h1
 ·obtain ⟨h1,h2⟩:=xT i _ hi
  have hlt:=(List.getElem?_eq_some_iff.1 h2).1
  obtain ⟨g1,g2⟩:=hl.ok _ (List.mem_of_getElem? h2)
  have hv:=hval (i - 2 * C.N) (by rw [hl.len];exact hlt)
  refine ⟨?_,g1,hl.cls _ _ _ hv h2,g2⟩
  show cB C.N ad w' i (adB C.N ad i)
  unfold cB
  rw [if_pos h1]
  exact hv
 ·obtain ⟨h1,h2⟩:=hsome i hi
  obtain ⟨h3,h4⟩:=hsome j hj
  have e1:=hval (i - 2 * C.N) (by rw [hl.len];exact h2)
  have e2:=hval (j - 2 * C.N) (by rw [hl.len];exact h4)
  have e':ad.getD (i - 2 * C.N) 0=ad.getD (j - 2 * C.N) 0:=e
  rw [←e'] at e2
  have:=(List.getElem?_inj (by rw [hl.len];exact h2) hl.nodup).1 (e1.trans e2.symm)
  omega
 ·obtain ⟨u,h1,h2,h3⟩:=hL.mem (Fr.fH hd)
  obtain ⟨h4,h5⟩:=h3 i hi
  rw [Hp.mJ,if_pos h4,List.getElem?_eq_getElem (by omega)]
  simp
 ·obtain ⟨u,h1,h2,h3⟩:=hL.mem (Fr.fH hd)
  exact hr.fits d u h1
 ·obtain ⟨h1,h2⟩:=xT i _ hi
  exact hl.ok _ (List.mem_of_getElem? h2)
 ·obtain ⟨h1,h2⟩:=xT i _ hi
  intro j hj
  obtain ⟨h3,h4⟩:=hl.ids _ (List.mem_of_getElem? h2) j hj
  rw [Hp.mJ,if_pos h3,List.getElem?_eq_getElem (by omega)]
  simp
 ·have sQ:2 * C.N + ad.length≤i:=hi
  rw [Hp.mJ]
  split
  ·exact List.getElem?_eq_none (by rw [←hl.len];omega)
  ·rfl
def MK (C:Cx) (Q:Exit→Act→World→Prop) (k:List It) (full:Array Oper) (o:Oper) (F:Fr) (H:Hp) (w:World):Prop:=
 ∃ (g:FuncId) (args:List AV) (vs:List Value) (D:World→Cx),stepOf C full F H o=.call (.fn g args)∧ik args=some vs∧od C.P g∧(∀ w,(D w).P=C.P)∧(∀ w,(D w).N=C.N)∧(∀ w,Cx.Old (D w) w)∧
   ∀ w1,aE C.K w w1→C.Old w1→Calls C.P g vs.toArray w1 fun e w2=>∃ v L,e=.returned v∧Dc F L∧(∀ p∈L,o.dst≠some p.1)∧VS (D w2) Q k (Fr.vals L) (fun _=>none) w2
theorem VS.regionM (hC:C.Ok) {id:Nat} {ops:Array Oper} (j:Nat) {o:Oper} (hj:ops.toList.drop j=[o]) (hd:ops.toList.all mc=true) (ho:mc o=true)
  (h:aB C none ops (ops.toList.take j) (MK C Q k ops o) F H w):VS C Q (.code (.region id ops false)::k) F H w:=fun β a w' hr hk=>by
 refine (wpIn_wide (n:=0)).1 (wpIn_region_list ?_)
 rw [←List.take_append_drop j ops.toList,hj]
 refine uB iz.wide hC (tl:=[o]) (fun β F H w a w' h hr hk=> ?_) (ops.toList.take j) (List.all_eq_true.2 fun o ho=>List.all_eq_true.1 hd o (List.mem_of_mem_take ho)) β F H w a w' h hr hk
 obtain ⟨g,args,vs,D,e,hv,hf,hP,hN,hO,js⟩:=h
 refine wpListIn_step fun K hK=> ?_
 have hb:stepOf C ops F H o≠.bad:=fun e'=>by rw [e] at e';cases e'
 obtain ⟨iQ,⟨hw,hs⟩ | ⟨hw,hs⟩⟩:=jY hb
 ·rw [hs] at e;cases e
 ·rw [oh hr hw,if_pos rfl]
  refine iz.wide.op ho (Gq hr (hs.symm.trans e) ?_)
  refine ⟨hf,?_⟩
  rw [jd hv,gO]
  refine (js w' hk hr.old).mono ?_
  rintro e w2 ⟨v,L,rfl,hL,hLd,hcont⟩
  refine ⟨v,rfl,hK _ _ ?_⟩
  show post C.P Q k .normal _ w2
  have yd:=hr.knows hL
  have rh:Knows (D w2).N L (a.put o.dst v):=by
   rw [hN]
   cases hod:o.dst with
   | none=>exact yd
   | some d=>
     refine ⟨yd.defers,by simp [Act.put];exact yd.size,fun p hp=>⟨(yd.tmp p hp).1,?_⟩⟩
     have hne:d≠p.1:=fun e=>hLd p hp (by rw [hod,e])
     have:=(yd.tmp p hp).2
     simp [Act.put,Array.getD_eq_getD_getElem?,Array.getElem?_setIfInBounds,hne] at this ⊢
     exact this
  have:=hcont _ _ w2 (rh.rel (hO w2)) (aE.refl _ _)
  rw [hP] at this
  exact this
end
end Go.Proofs.YtabalinjfgcfeaaGreat
set_option maxRecDepth 4000
namespace Go.Proofs.YtabalinjfgcfeaaGreat
open Go.RowKit
attribute [local irreducible] aB VS
theorem AK {w:World} {b off i sz:Nat} {cs:List Value} (hc:∀ (j:Nat) (u:Value),cs[j]? =some u→w.cell? ⟨b,off + i * sz + j,none⟩=some u):∀ (j:Nat) (u:Value),cs[j]? =some u→w.cell? ((⟨b,off + ((i:Nat):Int).toNat * sz,none⟩:Addr).add j)=some u:=by
 intro j u hj
 rw [Addr.add_mid,Int.toNat_natCast]
 exact hc j u hj
theorem cls_at {w:World} {b:Nat} {t:TypeId} {cs:List Value} (h:aW w b t cs.toArray):∀ (j:Nat) (u:Value),cs[j]? =some u→w.cell? ((⟨b,0,none⟩:Addr).add j)=some u:=by
 intro j u hj
 rw [Addr.add_mid,Nat.zero_add]
 exact h.cell (by simpa using hj)
theorem FJ (v:Value) (l:List (RR×RR)) (k:Nat) (w:World) (hl:eE (xY k) 8 w v l) (hk:k≤100000) (hlen:l.length≤100000):
  Calls Tryz.prog 69 #[v,.func (.func 37) #[] #[]] w fun o w'=>∃ i:Int,o=.returned (.int .i64 i)∧decide (i≥0)= !(l.all pP)∧aj w w':=by
 obtain ⟨p,c,rfl,eT,eV⟩:=hl.form
 obtain ⟨N,hN⟩:∃ N,N=l.length:=⟨_,rfl⟩
 rw [←hN] at hl eT hlen
 rw [←hN]
 refine aw (C:=cj Tryz.prog w _) (args:=[_,_]) Tryz.func69 rfl Tryz.ntmps69 (Nat.le_of_ble_eq_true rfl) ?_
 (repeat first|refine wN ?_|refine wP rfl ?_|refine aa rfl ?_|refine ab rfl ?_|refine wO rfl rfl ?_)
 refine VS.loop (J:=fun m L M w'=>∃ z:Nat,z≤N∧m=N - z∧(l.take z).all pP=true∧L=[(0,.val (.slice p N c)),(1,.val (.func (.func 37) #[] #[])),(7,.val (.int .i64 (N:Int))),(8,.val (.int .i64 (z:Int)))]∧M=[]) N ⟨_,_,?_,?_,?_,?_,⟨0,by omega,rfl,rfl,rfl,rfl⟩⟩ ?_
 ·(repeat first|exact trivial|refine ⟨rfl,?_⟩)
 ·(repeat first|exact trivial|refine ⟨rfl,?_⟩)
 ·rfl
 ·(repeat first|exact trivial|refine ⟨aF.lit rfl,?_⟩|refine ⟨aF.vals _,?_⟩)
 rintro m L M w1 ⟨z,hz,rfl,mo,rfl,rfl⟩
 (repeat first|refine wN ?_|refine wP rfl ?_|refine aa rfl ?_|refine ab rfl ?_|refine wO rfl rfl ?_)
 by_cases hlt:z < N
 ·refine VS.bE rfl (decide_eq_true (Int.ofNat_lt.2 hlt)) ?_
  obtain ⟨x,hx⟩:∃ x,l[z]? =some x:=⟨_,List.getElem?_eq_getElem (by omega)⟩
  obtain ⟨b,off,cs,mj,hcs,hE⟩:=hl.at hx
  subst mj
  obtain ⟨c1,c2,rfl,⟨p1,k1,r1,d1,rfl,e1⟩,⟨p2,k2,r2,d2,rfl,e2⟩,hf1,hf2⟩:=id hE
  (repeat first|refine wN ?_|refine wP rfl ?_|refine aa rfl ?_|refine ab rfl ?_|refine wO rfl rfl ?_)
  refine VO.cond rfl ⟨by omega,by omega⟩ ?_
  refine wV rfl ?_
  (repeat first|refine wN ?_|refine wP rfl ?_|refine aa rfl ?_|refine ab rfl ?_|refine wO rfl rfl ?_)
  refine VO.read rfl [.bool x.1.1,.slice p1 x.1.2.1.length k1,.bool x.1.2.2.1,.slice r1 x.1.2.2.2.length d1,.bool x.2.1,.slice p2 x.2.2.1.length k2,.bool x.2.2.2.1,.slice r2 x.2.2.2.2.length d2] rfl (AK hcs) (wV rfl ?_)
  (repeat first|refine wN ?_|refine wP rfl ?_|refine aa rfl ?_|refine ab rfl ?_|refine wO rfl rfl ?_)
  cases hxo:pP x with
  | false=>
    refine VO.call rfl rfl (fk Tryz.func37) (fun cC er dv=>(zv _ _ x k cC rfl ((fP k).kp hE (Kp.of (U:=UU) dv)) hk false hxo).mono ?_)
    rintro e w1 ⟨rfl,aV⟩
    skip
    refine ⟨_,rfl,aV,fun fe _ bb1=>wV rfl ?_⟩
    (repeat first|refine wN ?_|refine wP rfl ?_|refine aa rfl ?_|refine ab rfl ?_|refine wO rfl rfl ?_)
    refine VS.ret (aL _ _) rfl rfl (fun wz kz bz=> ?_)
    refine ⟨_,rfl,?_,bz⟩
    have:l.all pP=false:=by
     rw [List.all_eq_false]
     exact ⟨x,List.mem_of_getElem? hx,by rw [hxo];simp⟩
    rw [this]
    exact decide_eq_true (by omega)
  | true=>
    refine VO.call rfl rfl (fk Tryz.func37) (fun cC er dv=>(zv _ _ x k cC rfl ((fP k).kp hE (Kp.of (U:=UU) dv)) hk true hxo).mono ?_)
    rintro e w1 ⟨rfl,aV⟩
    skip
    refine ⟨_,rfl,aV,fun fe _ bb1=>wV rfl ?_⟩
    (repeat first|refine wN ?_|refine wP rfl ?_|refine aa rfl ?_|refine ab rfl ?_|refine wO rfl rfl ?_)
    refine VS.back (N - (z + 1)) (by omega) ⟨_,_,?_,?_,?_,?_,⟨z + 1,by omega,rfl,?_,rfl,rfl⟩⟩
    ·refine ⟨rfl,rfl,rfl,?_,trivial⟩
     rw [←bX (i:=z) (by omega)];rfl
    ·(repeat first|exact trivial|refine ⟨rfl,?_⟩)
    ·rfl
    ·(repeat first|exact trivial|refine ⟨aF.lit rfl,?_⟩|refine ⟨aF.vals _,?_⟩)
    ·rw [fY hx,List.all_append,mo]
     show (true && (pP x && true))=true
     rw [hxo];rfl
 ·refine VS.bu rfl (decide_eq_false (fun e=>hlt (Int.ofNat_lt.1 e))) ?_
  (repeat first|refine wN ?_|refine wP rfl ?_|refine aa rfl ?_|refine ab rfl ?_|refine wO rfl rfl ?_)
  refine VS.ret (aL _ _) rfl rfl (fun wz kz bz=> ?_)
  refine ⟨_,rfl,?_,bz⟩
  have:l.take z=l:=List.take_of_length_le (by omega)
  rw [this] at mo
  rw [mo];rfl
theorem mQ (v:Value) (l:List (RR×RR)) (k:Nat) (w:World) (hl:eE (xY k) 8 w v l) (hk:k≤100000) (hlen:l.length≤100000) (b:Bool) (hb:l.all pP=b):
  Calls Tryz.prog 36 #[v,.func (.func 37) #[] #[]] w fun o w'=>o=.returned (.bool !b)∧aj w w':=by
 obtain ⟨p,c,rfl,eT,eV⟩:=hl.form
 refine aw (C:=cj Tryz.prog w _) (args:=[_,_]) Tryz.func36 rfl Tryz.ntmps36 (Nat.le_of_ble_eq_true rfl) ?_
 (repeat first|refine wN ?_|refine wP rfl ?_|refine aa rfl ?_|refine ab rfl ?_|refine wO rfl rfl ?_)
 refine VO.call rfl rfl (fk Tryz.func69) (fun cC er dv=>(FJ _ l k cC (hl.bj (fP k) dv) hk hlen).mono ?_)
 rintro e w1 ⟨i,rfl,hi,aV⟩
 skip
 refine ⟨_,rfl,aV,fun fe _ bb1=>wV rfl ?_⟩
 (repeat first|refine wN ?_|refine wP rfl ?_|refine aa rfl ?_|refine ab rfl ?_|refine wO rfl rfl ?_)
 refine VS.ret (aL _ _) rfl rfl (fun wz kz bz=> ?_)
 refine ⟨?_,bz⟩
 rw [←hb,←hi];rfl
theorem pA (v:Value) (a b:RR) (keep:Int) (k:Nat) (w:World) (h:jl w v a b keep) (ha:a.mW k) (hb:b.mW k) (hk:k≤100000) (x:Bool) (hx:jm a b keep=x):
 Calls Tryz.prog 35 #[v] w fun o w'=>o=.returned (.bool x)∧aj w w':=hx▸FH v a b keep k w h ha hb hk
theorem MA (v u:Value) (a b:RR) (keep:Int) (l:List (RR×RR)) (k:Nat) (w:World) (hR:jl w v a b keep) (ha:a.mW k) (hb:b.mW k) (hl:eE (xY k) 8 w u l) (hk:k≤100000) (hlen:l.length≤100000) (hno:(jm a b keep && l.all pP)=false):
  Calls Tryz.prog 11 #[v,u] w fun o w'=>o=.returned (.tuple #[.agg #[.slice none 0 0,.slice none 0 0],.int .i64 2])∧aj w w':=by
 obtain ⟨pa,ca,ra,da,pb,cb,rb',db,rfl,ha1,aV⟩:=hR
 obtain ⟨pu,cu,rfl,eT,eV⟩:=hl.form
 have hR:jl w (.agg #[.bool a.1,.slice pa a.2.1.length ca,.bool a.2.2.1,.slice ra a.2.2.2.length da,.bool b.1,.slice pb b.2.1.length cb,.bool b.2.2.1,.slice rb' b.2.2.2.length db,.int .i64 keep]) a b keep:=⟨_,_,_,_,_,_,_,_,rfl,ha1,aV⟩
 refine aw (C:=cj Tryz.prog w _) (args:=[_,_]) Tryz.func11 rfl Tryz.ntmps11 (Nat.le_of_ble_eq_true rfl) ?_
 (repeat first|refine wN ?_|refine wP rfl ?_|refine aa rfl ?_|refine ab rfl ?_|refine wO rfl rfl ?_)
 cases hr:jm a b keep with
 | false=>
   refine VO.call rfl rfl (fk Tryz.func35) (fun cC er dv=>(pA _ a b keep k cC (hR.kp (Kp.of (U:=UU) dv)) ha hb hk false hr).mono ?_)
   rintro e w1 ⟨rfl,aV⟩
   skip
   refine ⟨_,rfl,aV,fun fe _ bb1=>wV rfl ?_⟩
   (repeat first|refine wN ?_|refine wP rfl ?_|refine aa rfl ?_|refine ab rfl ?_|refine wO rfl rfl ?_)
   refine VS.ret (aL _ _) rfl rfl (fun wz kz bz=> ?_)
   exact ⟨rfl,bz⟩
 | true=>
   rw [hr] at hno
   refine VO.call rfl rfl (fk Tryz.func35) (fun cC er dv=>(pA _ a b keep k cC (hR.kp (Kp.of (U:=UU) dv)) ha hb hk true hr).mono ?_)
   rintro e w1 ⟨rfl,aV⟩
   skip
   refine ⟨_,rfl,aV,fun fe _ bb1=>wV rfl ?_⟩
   (repeat first|refine wN ?_|refine wP rfl ?_|refine aa rfl ?_|refine ab rfl ?_|refine wO rfl rfl ?_)
   refine VO.call rfl rfl (fk Tryz.func36) (fun dC gu eu=>(mQ _ l k dC (hl.bj (fP k) eu) hk hlen false hno).mono ?_)
   rintro e w2 ⟨rfl,bm⟩
   skip
   refine ⟨_,rfl,bm,fun fZ _ bb2=>wV rfl ?_⟩
   (repeat first|refine wN ?_|refine wP rfl ?_|refine aa rfl ?_|refine ab rfl ?_|refine wO rfl rfl ?_)
   refine VS.ret (aL _ _) rfl rfl (fun wz kz bz=> ?_)
   exact ⟨rfl,bz⟩
theorem Jo (v u:Value) (a b:RR) (keep:Int) (l:List (RR×RR)) (k:Nat) (w:World) (hR:jl w v a b keep) (ha:a.mW k) (hb:b.mW k) (hl:eE (xY k) 8 w u l) (hk:k≤100000) (hlen:l.length≤100000) (hr:jm a b keep=true) (hy:l.all pP=true) (h40:l.length > 40):
  Calls Tryz.prog 11 #[v,u] w fun o w'=>o=.returned (.tuple #[.agg #[.slice none 0 0,.slice none 0 0],.int .i64 3])∧aj w w':=by
 obtain ⟨pa,ca,ra,da,pb,cb,rb',db,rfl,ha1,aV⟩:=hR
 obtain ⟨pu,cu,rfl,eT,eV⟩:=hl.form
 have hR:jl w (.agg #[.bool a.1,.slice pa a.2.1.length ca,.bool a.2.2.1,.slice ra a.2.2.2.length da,.bool b.1,.slice pb b.2.1.length cb,.bool b.2.2.1,.slice rb' b.2.2.2.length db,.int .i64 keep]) a b keep:=⟨_,_,_,_,_,_,_,_,rfl,ha1,aV⟩
 refine aw (C:=cj Tryz.prog w _) (args:=[_,_]) Tryz.func11 rfl Tryz.ntmps11 (Nat.le_of_ble_eq_true rfl) ?_
 (repeat first|refine wN ?_|refine wP rfl ?_|refine aa rfl ?_|refine ab rfl ?_|refine wO rfl rfl ?_)
 refine VO.call rfl rfl (fk Tryz.func35) (fun cC er dv=>(pA _ a b keep k cC (hR.kp (Kp.of (U:=UU) dv)) ha hb hk true hr).mono ?_)
 rintro e w1 ⟨rfl,aV⟩
 skip
 refine ⟨_,rfl,aV,fun fe _ bb1=>wV rfl ?_⟩
 (repeat first|refine wN ?_|refine wP rfl ?_|refine aa rfl ?_|refine ab rfl ?_|refine wO rfl rfl ?_)
 refine VO.call rfl rfl (fk Tryz.func36) (fun dC gu eu=>(mQ _ l k dC (hl.bj (fP k) eu) hk hlen true hy).mono ?_)
 rintro e w2 ⟨rfl,bm⟩
 skip
 refine ⟨_,rfl,bm,fun fZ _ bb2=>wV rfl ?_⟩
 (repeat first|refine wN ?_|refine wP rfl ?_|refine aa rfl ?_|refine ab rfl ?_|refine wO rfl rfl ?_)
 refine VS.bE rfl (decide_eq_true (show (l.length:Int) > 40 by omega)) ?_
 (repeat first|refine wN ?_|refine wP rfl ?_|refine aa rfl ?_|refine ab rfl ?_|refine wO rfl rfl ?_)
 refine VS.ret (aL _ _) rfl rfl (fun wz kz bz=> ?_)
 exact ⟨rfl,bz⟩
theorem SlZ.bj {α:Type} {E:World→List Value→α→Prop} {sz:Nat} (hE:lB E sz) {t:TypeId} {w w':World} {b:Nat} {v:Value} {es:List α} (h:SlZ E sz t w b v es) (hb:aj w w'):SlZ E sz t w' b v es:=by
 obtain ⟨n,c,vs,sp,h1,h2,h3⟩:=h
 exact ⟨n,c,vs,sp,h1,h2.bj hb,h3.kp hE (Kp.of (U:=UU) hb)⟩
theorem SlE.bj {α:Type} {E:World→List Value→α→Prop} {sz:Nat} (hE:lB E sz) {t:TypeId} {w w':World} {b:Nat} {v:Value} {es:List α} (h:SlE E sz t w b v es) (hb:aj w w'):SlE E sz t w' b v es:=by
 obtain ⟨off,n,c,pre,vs,sp,h1,h2,h3⟩:=h
 exact ⟨off,n,c,pre,vs,sp,h1,h2.bj hb,h3.kp hE (Kp.of (U:=UU) hb)⟩
theorem mY.bj {B g:Nat} {w w':World} {ad:List Nat} {s:Dd} (h:mY B w g ad s) (hb:aj w w'):mY B w' g ad s:=by
 obtain ⟨had,v,r,u,hg,h⟩:=h
 refine ⟨had,v,r,u,hg.bj hb,?_⟩
 rcases h with h | ⟨rb,h1,h2,h3,h4,h5,h6⟩ | ⟨vb,rb,h1,h2,h3,h4,h5⟩ | ⟨vb,rb,ub,h1,h2,h3,h4⟩
 ·exact .inl h
 ·exact .inr (.inl ⟨rb,h1,h2,h3,h4,h5,h6.bj (az B) hb⟩)
 ·exact .inr (.inr (.inl ⟨vb,rb,h1,h2,h3,h4.bj (aM B) hb,h5.bj (az B) hb⟩))
 ·exact .inr (.inr (.inr ⟨vb,rb,ub,h1,h2.bj (aM B) hb,h3.bj (az B) hb,h4.bj (dm B) hb⟩))
theorem tK (S F:Rat) (keep:Nat) (l:List (Rat×Rat)) (y:Rat×Rat):gl S F keep (l++[y])=dk S F keep (gl S F keep l).rows.length (gl S F keep l) y:=by
 unfold gl
 rw [List.foldl_append];rfl
def ee (l:List (RR×RR)):List (Rat×Rat):=l.map fun e=>(e.1.q,e.2.q)
theorem tL {l:List (RR×RR)} {z:Nat} {x:RR×RR} (hx:l[z]? =some x):ee (l.take (z + 1))=ee (l.take z)++[(x.1.q,x.2.q)]:=by
 unfold ee
 rw [fY hx,List.map_append];rfl
theorem Dp {B:Nat} {w:World} {cs new:List Value} {r:aN} {x:Rat} (h:dG B w cs r) (hx:R4 B w new x):dG B w (cs.take 24++(new++cs.drop (24 + new.length))) { r with closing:=x }:=by
 obtain ⟨a,b,c,d,e,f,g,rfl,h1,h2,h3,h4,h5,h6,h7⟩:=h
 refine ⟨a,b,c,d,e,f,new,?_,h1,h2,h3,h4,h5,h6,hx⟩
 have l1:=h1.len
 have l2:=h2.len
 have l3:=h3.len
 have l4:=h4.len
 have l5:=h5.len
 have l6:=h6.len
 have l7:=h7.len
 rw [hx.len]
 have e3:a++(b++(c++(d++(e++(f++g)))))=(a++b++c++d++e++f)++g:=by simp
 have e4:(a++b++c++d++e++f).length=24:=by simp [l1,l2,l3,l4,l5,l6]
 have t1:(a++(b++(c++(d++(e++(f++g)))))).take 24=a++b++c++d++e++f:=by rw [e3,←e4,List.take_left'];rfl
 have t2:(a++(b++(c++(d++(e++(f++g)))))).drop 28=[]:=List.drop_of_length_le (by simp [l1,l2,l3,l4,l5,l6,l7])
 rw [t1,t2]
 simp
abbrev nx:TypeId:=36
abbrev Jp:TypeId:=28
theorem mY.ty {B g:Nat} {w:World} {ad:List Nat} {s:Dd} (h:mY B w g ad s):∀ b∈ad,∃ t cs,aW w b t cs∧t≠Jp∧t≠nx:=by
 obtain ⟨had,v,r,u,hg,h⟩:=h
 have key:∀ {t:TypeId} {b:Nat} {cs:Array Value},aW w b t cs→(t=Runner∨t=cO∨t=dT∨t=et)→∃ t cs,aW w b t cs∧t≠Jp∧t≠nx:=fun {t b cs} hc ht=>⟨t,cs,hc,by rcases ht with rfl | rfl | rfl | rfl <;> decide,by rcases ht with rfl | rfl | rfl | rfl <;> decide⟩
 intro b hb
 rcases h with ⟨rfl,_⟩ | ⟨rb,rfl,_,_,_,_,_,_,_,_,_,h2,_⟩ | ⟨vb,rb,rfl,_,_,⟨_,_,_,_,_,_,_,h3,_⟩,_,_,_,_,_,h2,_⟩ | ⟨vb,rb,ub,rfl,⟨_,_,_,_,_,_,_,h3,_⟩,⟨_,_,_,_,_,h2,_⟩,_,_,_,_,_,h4,_⟩
 ·rw [List.mem_singleton.1 hb];exact key hg (.inl rfl)
 ·simp only [List.mem_cons,List.not_mem_nil,or_false] at hb
  rcases hb with rfl | rfl
  ·exact key hg (.inl rfl)
  ·exact key h2 (.inr (.inr (.inl rfl)))
 ·simp only [List.mem_cons,List.not_mem_nil,or_false] at hb
  rcases hb with rfl | rfl | rfl
  ·exact key hg (.inl rfl)
  ·exact key h3 (.inr (.inl rfl))
  ·exact key h2 (.inr (.inr (.inl rfl)))
 ·simp only [List.mem_cons,List.not_mem_nil,or_false] at hb
  rcases hb with rfl | rfl | rfl | rfl
  ·exact key hg (.inl rfl)
  ·exact key h3 (.inr (.inl rfl))
  ·exact key h2 (.inr (.inr (.inl rfl)))
  ·exact key h4 (.inr (.inr (.inr rfl)))
theorem MB {B:Nat} {w:World} {vb off n c z:Nat} {pre spare:List Value} {vs:List (List Value)} {q:List Vq} {p:Vq} (hc:aW w vb cO (pre++(vs.flatten++spare)).toArray) (h:cY (cH B) 5 w n off c pre vs spare q) (hp:q[z]? =some p):
  ∃ cs,(∀ (j:Nat) (u:Value),cs[j]? =some u→w.cell? ⟨vb,off + z * 5 + j,none⟩=some u)∧cH B w cs p:=by
 obtain ⟨cs,hcs,hE⟩:=h.el.at z p hp
 refine ⟨cs,fun j u hj=>hc.cell ?_,hE⟩
 have hzl:=(List.getElem?_eq_some_iff.1 hp).1
 have Ef:=h.len
 have hle:=h.le
 have iP:pre.length=off:=h.pl.resolve_right (by omega)
 have js:cs.length=5:=(aM B).len hE
 have hjl:=(List.getElem?_eq_some_iff.1 hj).1
 obtain ⟨hlt,hx⟩:=List.getElem?_eq_some_iff.1 hcs
 have yo:vs=vs.take z++cs::vs.drop (z + 1):=by rw [←hx,←List.drop_eq_getElem_cons hlt,List.take_append_drop]
 have hal:(vs.take z).flatten.length=z * 5:=by
  rw [cW (fun y hy=>h.el.lens (aM B) y (List.mem_of_mem_take hy)),List.length_take,Nat.min_eq_left (by omega)]
 rw [List.getElem?_toArray,List.getElem?_append_right (by omega),iP,yo,List.flatten_append,List.append_assoc,List.getElem?_append_right (by omega),hal,List.flatten_cons,List.append_assoc,show off + z * 5 + j - off - z * 5=j by omega,List.getElem?_append_left hjl]
 exact hj
theorem mZ {w:World} {N:Nat} {ad:List Nat} {hd:ad.Nodup} {ha:rQ (KU UU) ad w} {b off:Nat} {cs:List Value} (hb:b < w.heap.size) (hn:b∉ad) (hc:∀ (j:Nat) (u:Value),cs[j]? =some u→w.cell? ((⟨b,off,none⟩:Addr).add j)=some u):∀ (j:Nat) (u:Value),cs[j]? =some u→(JI Tryz.prog w N ad hd ha).At ((⟨b,off,none⟩:Addr).add j) u:=by
 intro j u hj w1 vh
 have h:=hc j u hj
 rw [Addr.add_mid] at h ⊢
 rw [World.cell?_of_block (w:=w) (a:=⟨b,off + j,none⟩) (vh.1.nh b hb hn)]
 exact h
theorem Dq {cs new:List Value} (h:cs.length=28) (hn:new.length=4):(cs.take 24++(new++cs.drop (24 + new.length))).length=28:=by
 rw [List.length_append,List.length_append,List.length_take,List.length_drop,h,hn];rfl
structure xI (D:Nat) (M S F:Rat) (kk:Nat) (l:List (Rat×Rat)):Prop where
 el:∀ e∈l,Iz D (aD S F e.2)∧aD S F e.2≤M∧Iz D e.1∧-M≤e.1∧e.1≤M
 sz:∀ x,Iz D x→-(M + M)≤x→x≤M + M→dV x kk
def sG (B:Nat) (w:World) (r u:Value) (x:List aN×List Uq):Prop:=
 ((r=.slice none 0 0∧x.1=[])∨∃ rb,B≤rb∧SlZ (dG B) 28 dT w rb r x.1)∧((u=.slice none 0 0∧x.2=[])∨∃ ub,B≤ub∧SlZ (np B) 6 et w ub u x.2)
def RunJ (w:World) (B D:Nat) (M:Rat) (a b:RR) (kn:Nat) (l:List (RR×RR)) (N cu:Nat) (pu:Option Addr) (rul:List Value) (g b2 b4:Nat) (n:Nat) (L:List (Nat×Value)) (W:World):Prop:=
 ∃ (z:Nat) (ad:List Nat),z≤N∧n=N - z∧L=[(2,.pointer (some ⟨b2,0,none⟩)),(4,.pointer (some ⟨b4,0,none⟩)),(6,.pointer (some ⟨g,0,none⟩)),(27,.slice pu N cu),(28,.int .i64 (N:Int)),(29,.int .i64 (z:Int))]∧
   mY B W g ad (gl a.q b.q kn (ee (l.take z)))∧xG D M (gl a.q b.q kn (ee (l.take z)))∧(gl a.q b.q kn (ee (l.take z))).rows.length=z∧aW W b2 Jp rul.toArray∧aW W b4 nx #[.slice none 0 0,.slice none 0 0]∧aj w W
set_option maxRecDepth 4000 in
set_option maxHeartbeats 8000000 in
theorem GV (v u:Value) (a b:RR) (kn:Nat) (l:List (RR×RR)) (ks kk D:Nat) (M:Rat) (w:World) (hR:jl w v a b (kn:Int)) (ha:a.mW ks) (hb:b.mW ks) (hl:eE (xY ks) 8 w u l) (ss:1≤ks) (yr:ks≤kk) (zf:kk≤100000) (hr:jm a b (kn:Int)=true) (hy:l.all pP=true) (h40:l.length≤40) (rh:kn≤40) (hM:xI D M a.q b.q kk (ee l)):
  Calls Tryz.prog 11 #[v,u] w fun o w'=>∃ r u',o=.returned (.tuple #[.agg #[r,u'],.int .i64 0])∧sG w.heap.size w' r u' (pL a.q b.q kn (ee l))∧aj w w':=by
 obtain ⟨pa,ca,ra,da,pb,cb,rb',db,rfl,ha1,aV⟩:=hR
 obtain ⟨pu,cu,rfl,eT,eV⟩:=hl.form
 have hR:jl w (.agg #[.bool a.1,.slice pa a.2.1.length ca,.bool a.2.2.1,.slice ra a.2.2.2.length da,.bool b.1,.slice pb b.2.1.length cb,.bool b.2.2.1,.slice rb' b.2.2.2.length db,.int .i64 (kn:Int)]) a b (kn:Int):=⟨_,_,_,_,_,_,_,_,rfl,ha1,aV⟩
 have hk:ks≤100000:=by omega
 obtain ⟨N,hN⟩:∃ N,N=l.length:=⟨_,rfl⟩
 rw [←hN] at hl eT h40
 rw [←hN]
 refine aw (C:=cj Tryz.prog w _) (args:=[_,_]) Tryz.func11 rfl Tryz.ntmps11 (Nat.le_of_ble_eq_true rfl) ?_
 (repeat first|refine wN ?_|refine wP rfl ?_|refine aa rfl ?_|refine ab rfl ?_|refine wO rfl rfl ?_)
 refine VO.call rfl rfl (fk Tryz.func35) (fun cC er dv=>(pA _ a b (kn:Int) ks cC (hR.kp (Kp.of (U:=UU) dv)) ha hb hk true hr).mono ?_)
 rintro e w1 ⟨rfl,aV⟩
 skip
 refine ⟨_,rfl,aV,fun fe _ bb1=>wV rfl ?_⟩
 (repeat first|refine wN ?_|refine wP rfl ?_|refine aa rfl ?_|refine ab rfl ?_|refine wO rfl rfl ?_)
 refine VO.call rfl rfl (fk Tryz.func36) (fun dC gu eu=>(mQ _ l ks dC (hl.bj (fP ks) eu) hk (by omega) true hy).mono ?_)
 rintro e w2 ⟨rfl,bm⟩
 skip
 refine ⟨_,rfl,bm,fun fZ _ bb2=>wV rfl ?_⟩
 (repeat first|refine wN ?_|refine wP rfl ?_|refine aa rfl ?_|refine ab rfl ?_|refine wO rfl rfl ?_)
 refine VS.bu rfl (decide_eq_false (show ¬ (N:Int) > 40 by omega)) ?_
 (repeat first|refine wN ?_|refine wP rfl ?_|refine aa rfl ?_|refine ab rfl ?_|refine wO rfl rfl ?_)
 refine VS.LW (fun w=>cj Tryz.prog w 66) (fun _=>rfl) (fun _=>rfl) (fun _=>aj.refl _) (fun w9 β k9 b9 en=> ?_)
 have c2:=(en.own 2 _ _ rfl).cls
 have c4:=(en.own 4 _ _ rfl).cls
 have cg:=(en.own 26 _ _ rfl).cls
 have n2:w.heap.size≤β 2:=(en.own 2 _ _ rfl).new
 have n4:w.heap.size≤β 4:=(en.own 4 _ _ rfl).new
 have ng:w.heap.size≤β 26:=(en.own 26 _ _ rfl).new
 refine ⟨[(2,.val (.pointer (some ⟨β 2,0,none⟩))),(4,.val (.pointer (some ⟨β 4,0,none⟩))),(6,.val (.pointer (some ⟨β 26,0,none⟩))),(27,.val (.slice pu N cu)),(28,.val (.int .i64 (N:Int))),(29,.val (.int .i64 0))],⟨⟨_,_,rfl,rfl,rfl⟩,⟨_,_,rfl,rfl,rfl⟩,⟨_,_,rfl,rfl,rfl⟩,⟨_,_,rfl,rfl,rfl⟩,⟨_,_,rfl,rfl,rfl⟩,⟨_,_,rfl,rfl,rfl⟩,trivial⟩,?_⟩
 clear en
 generalize β 2=b2 at *
 generalize β 4=b4 at *
 generalize β 26=g at *
 refine VS.loopR (J:=RunJ w w.heap.size D M a b kn l N cu pu [.bool a.1,.slice pa a.2.1.length ca,.bool a.2.2.1,.slice ra a.2.2.2.length da,.bool b.1,.slice pb b.2.1.length cb,.bool b.2.2.1,.slice rb' b.2.2.2.length db,.int .i64 (kn:Int)] g b2 b4) (fun w=>cj Tryz.prog w 66) (fun _=>rfl) (fun _=>rfl) (fun _=>aj.refl _) N (fun w' k' o'=>⟨[(2,.pointer (some ⟨b2,0,none⟩)),(4,.pointer (some ⟨b4,0,none⟩)),(6,.pointer (some ⟨g,0,none⟩)),(27,.slice pu N cu),(28,.int .i64 (N:Int)),(29,.int .i64 0)],⟨rfl,rfl,rfl,rfl,rfl,rfl,trivial⟩,0,[g],by omega,rfl,rfl,⟨fun x hx=>by rw [List.mem_singleton.1 hx];exact ng,_,_,_,cg.bj o',.inl ⟨rfl,rfl,rfl,rfl,rfl,rfl,rfl⟩⟩,⟨fun p hp=>(by cases hp),Nat.le_refl _⟩,rfl,c2.bj o',c4.bj o',b9.aJ o'⟩) ?_
 rintro n L W ⟨z,ad,hz,rfl,rfl,hrun,hst,rn,gm,uM,jK⟩
 (repeat first|refine wN ?_|refine wP rfl ?_|refine aa rfl ?_|refine ab rfl ?_|refine wO rfl rfl ?_)
 have hlW:=hl.bj (fP ks) jK
 by_cases hlt:z < N
 ·refine VS.bE rfl (decide_eq_true (Int.ofNat_lt.2 hlt)) ?_
  obtain ⟨x,hx⟩:∃ x,l[z]? =some x:=⟨_,List.getElem?_eq_getElem (by omega)⟩
  obtain ⟨bx,off,cs,mj,hcs,hE⟩:=hlW.at hx
  subst mj
  obtain ⟨c1,c2',rfl,⟨p1,k1,r1,d1,rfl,e1⟩,⟨p2,k2,r2,d2,rfl,e2⟩,hf1,hf2⟩:=id hE
  obtain ⟨m1,m2,m3,m4,m5⟩:=hM.el (x.1.q,x.2.q) (List.mem_map.2 ⟨x,List.mem_of_getElem? hx,rfl⟩)
  (repeat first|refine wN ?_|refine wP rfl ?_|refine aa rfl ?_|refine ab rfl ?_|refine wO rfl rfl ?_)
  refine VO.cond rfl ⟨by omega,by omega⟩ (wV rfl ?_)
  refine VO.read rfl [.bool x.1.1,.slice p1 x.1.2.1.length k1,.bool x.1.2.2.1,.slice r1 x.1.2.2.2.length d1,.bool x.2.1,.slice p2 x.2.2.1.length k2,.bool x.2.2.2.1,.slice r2 x.2.2.2.2.length d2] rfl (AK hcs) (wV rfl ?_)
  (repeat (first | refine wN ?_ | refine wP rfl ?_ | refine wO rfl rfl ?_))
  refine VS.regionM (aL _ _) 4 rfl rfl rfl (VO.run 80 rfl ?_)
  refine VO.read rfl [.bool a.1,.slice pa a.2.1.length ca,.bool a.2.2.1,.slice ra a.2.2.2.length da,.bool b.1,.slice pb b.2.1.length cb,.bool b.2.2.1,.slice rb' b.2.2.2.length db,.int .i64 (kn:Int)] rfl (cls_at gm) (wV rfl ?_)
  refine VO.nil ⟨_,_,_,fun w=>cj Tryz.prog w 66,rfl,rfl,fk Tryz.func39,fun _=>rfl,fun _=>rfl,fun _=>aj.refl _,fun w1 FG b1=> ?_⟩
  have aV:aj W w1:=b1
  have hY:=Jn (kk:=kk) (ks:=ks) (D:=D) (M:=M) (hrun.bj aV) ((hR.kp (Kp.of (U:=UU) (jK.aJ aV))).v ha hb) (e:=(x.1.q,x.2.q)) (u:=.agg #[.bool x.1.1,.slice p1 x.1.2.1.length k1,.bool x.1.2.2.1,.slice r1 x.1.2.2.2.length d1,.bool x.2.1,.slice p2 x.2.2.1.length k2,.bool x.2.2.2.1,.slice r2 x.2.2.2.2.length d2]) ⟨_,_,_,_,_,_,_,_,_,_,_,_,_,_,_,_,rfl,(e1.kp (Kp.of (U:=UU) aV)).pz hf1,(e2.kp (Kp.of (U:=UU) aV)).pz hf2⟩ ss yr zf m1 m2 m3 m4 m5 hM.sz hst (by omega) rh (jK.aJ aV).size
  rw [rn] at hY
  refine hY.mono ?_
  rintro o w2 ⟨rfl,hbut,Mp,hrun2⟩
  have hnb:=(hrun.bj aV).ty
  have hB2:aW w2 b2 Jp [.bool a.1,.slice pa a.2.1.length ca,.bool a.2.2.1,.slice ra a.2.2.2.length da,.bool b.1,.slice pb b.2.1.length cb,.bool b.2.2.1,.slice rb' b.2.2.2.length db,.int .i64 (kn:Int)].toArray:=(hbut.nh b2 (gm.bj aV).lt (fun hm=>by obtain ⟨t,cs,h1,h2,_⟩:=hnb b2 hm;exact h2 (bo h1 (gm.bj aV)))).trans (gm.bj aV)
  have hB4:aW w2 b4 nx #[.slice none 0 0,.slice none 0 0]:=(hbut.nh b4 (uM.bj aV).lt (fun hm=>by obtain ⟨t,cs,h1,_,h2⟩:=hnb b4 hm;exact h2 (bo h1 (uM.bj aV)))).trans (uM.bj aV)
  refine ⟨_,[(2,.pointer (some ⟨b2,0,none⟩)),(4,.pointer (some ⟨b4,0,none⟩)),(6,.pointer (some ⟨g,0,none⟩)),(27,.slice (some ⟨bx,off,none⟩) N cu),(28,.int .i64 (N:Int)),(29,.int .i64 (z:Int))],rfl,⟨rfl,rfl,rfl,rfl,rfl,rfl,trivial⟩,fun p hp e=> ?_,?_⟩
  ·simp only [List.mem_cons,List.not_mem_nil,or_false] at hp
   rcases hp with rfl | rfl | rfl | rfl | rfl | rfl <;> cases e
  (repeat first|refine wN ?_|refine wP rfl ?_|refine aa rfl ?_|refine ab rfl ?_|refine wO rfl rfl ?_)
  refine VS.backR rfl (N - (z + 1)) (by omega) [(2,.pointer (some ⟨b2,0,none⟩)),(4,.pointer (some ⟨b4,0,none⟩)),(6,.pointer (some ⟨g,0,none⟩)),(27,.slice (some ⟨bx,off,none⟩) N cu),(28,.int .i64 (N:Int)),(29,.int .i64 ((z + 1:Nat):Int))] ⟨rfl,rfl,rfl,rfl,rfl,?_,trivial⟩ (fun w3 k3 b3=> ?_)
  ·rw [←bX (i:=z) (by omega)];rfl
  have cD:aj w2 w3:=b3
  obtain ⟨y1,y2⟩:=GP (keep:=kn) hst m1 m2 m3 m4 m5
  rw [rn] at y1 y2
  refine ⟨z + 1,Mp,by omega,rfl,rfl,?_,?_,?_,hB2.bj cD,hB4.bj cD,(qA.bj (jK.aJ aV) hbut (hrun.bj aV).1).aJ cD⟩
  ·rw [tL hx,tK,rn];exact hrun2.bj cD
  ·rw [tL hx,tK,rn];exact y1
  ·rw [tL hx,tK,rn];exact y2
 refine VS.bu rfl (decide_eq_false (fun e=>hlt (Int.ofNat_lt.1 e))) ?_
 have hzN:z=N:=by omega
 have htk:l.take z=l:=List.take_of_length_le (by omega)
 rw [htk] at hrun hst rn
 (repeat first|refine wN ?_|refine wP rfl ?_|refine aa rfl ?_|refine ab rfl ?_|refine wO rfl rfl ?_)
 obtain ⟨had,vv,rr,uu,hg,hcase⟩:=hrun
 have nG:w.heap.size≤g:=ng
 rcases hcase with ⟨rfl,rfl,rfl,rfl,MC,uD,BW⟩ | ⟨rb,rfl,rfl,rfl,MC,BW,nr,cr,sT,uG,rfl,zu,hRr⟩ | ⟨vb,rb,rfl,rfl,BW,⟨off,nq,cq,pre,Mu,Mt,rfl,Bc,hVr⟩,nr,cr,sT,uG,rfl,zu,hRr⟩ | ⟨vb,rb,ub,rfl,⟨off,nq,cq,pre,Mu,Mt,rfl,Bc,hVr⟩,⟨nr,cr,sT,uG,rfl,zu,hRr⟩,nu,cu',vsu,spu,rfl,hcU,hUr⟩
 ·refine VO.read rfl [.slice none 0 0] rfl (fun j u hj=> ?_) (wV rfl ?_)
  ·match j,hj with
   | 0,hj=>cases hj;exact hg.cell rfl
   | j + 1,hj=>cases hj
  (repeat first|refine wN ?_|refine wP rfl ?_|refine aa rfl ?_|refine ab rfl ?_|refine wO rfl rfl ?_)
  refine VS.sD (KU UU) (fun t=>Nat.beq t 22) table (fun _ _ _=>trivial) (fun w5 β5 k5 b5 en5=> ?_)
  have DU:=hg.bj b5
  have sH:=uM.bj b5
  have Jm:b4≠g:=fun e=>by subst e;exact absurd (bo sH DU) (by decide)
  have pM:iG (KU UU) 66 [b4,g] [(nx,[.val (.slice none 0 0),.val (.slice none 0 0)]),(Runner,[.val (.slice none 0 0),.val (.slice none 0 0),.val (.slice none 0 0)])] w5:=by
   refine ⟨rfl,by simp [Jm],fun j g' c' hj hc=> ?_,fun c' hc=> ?_,fun c' hc k hk=> ?_⟩
   ·match j,hj,hc with
    | 0,hj,hc=>cases hj;cases hc;exact sH
    | 1,hj,hc=>cases hj;cases hc;exact DU
    | j + 2,hj,_=>simp at hj
   ·simp only [List.mem_cons,List.not_mem_nil,or_false] at hc
    rcases hc with rfl | rfl
    ·exact ⟨rfl,rfl⟩
    ·exact ⟨rfl,rfl⟩
   ·simp only [List.mem_cons,List.not_mem_nil,or_false] at hc
    rcases hc with rfl | rfl
    ·cases hk
    ·cases hk
  refine ⟨[b4,g],_,pM,[(4,.box 132 0),(6,.box 133 0),(44,.val (.slice none 0 0)),(45,.val (.int .i64 ((0:Nat):Int))),(46,.val (.int .i64 0))],⟨?_,?_,⟨_,rfl,rfl,fun i hi=>by cases hi⟩,⟨_,rfl,rfl,fun i hi=>by cases hi⟩,⟨_,rfl,rfl,fun i hi=>by cases hi⟩,trivial⟩,?_⟩
  ·refine ⟨_,rfl,rfl,fun i hi=> ?_⟩
   have:i=132:=by simpa [AV.ids] using hi
   subst this;exact ⟨by show 132≤132;omega,by show 132 < 2 * 66 + 2;omega⟩
  ·refine ⟨_,rfl,rfl,fun i hi=> ?_⟩
   have:i=133:=by simpa [AV.ids] using hi
   subst this;exact ⟨by show 132≤133;omega,by show 133 < 2 * 66 + 2;omega⟩
  refine VS.loop (J:=fun m L M w'=>L=[(4,.box 132 0),(6,.box 133 0),(44,.val (.slice none 0 0)),(45,.val (.int .i64 ((0:Nat):Int))),(46,.val (.int .i64 0))]∧M=[(132,(nx,[.val (.slice none 0 0),.val (.slice none 0 0)])),(133,(Runner,[.val (.slice none 0 0),.val (.slice none 0 0),.val (.slice none 0 0)]))]) 0 ⟨_,_,?_,?_,?_,?_,⟨rfl,rfl⟩⟩ ?_
  ·(repeat first|exact trivial|refine ⟨rfl,?_⟩)
  ·(repeat first|exact trivial|refine ⟨rfl,?_⟩)
  ·rfl
  ·exact ⟨.lit rfl,.lit rfl,trivial⟩
  rintro m L M w6 ⟨rfl,rfl⟩
  (repeat first|refine wN ?_|refine wP rfl ?_|refine af rfl ?_|refine ag rfl ?_|refine wO rfl rfl ?_)
  refine VS.oy (bk _ _) rfl (fun wz βz kz oz enz=> ?_)
  have EP:aj w wz:=qA.bj (jK.aJ b5) oz.1 (fun x hx=>by simp only [List.mem_cons,List.not_mem_nil,or_false] at hx;rcases hx with rfl | rfl <;> assumption)
  refine ⟨_,_,rfl,?_,EP⟩
  show sG w.heap.size wz _ _ (eF (gl a.q b.q kn (ee l)).q (gl a.q b.q kn (ee l)).rows,(gl a.q b.q kn (ee l)).uses)
  rw [MC,uD,BW]
  exact ⟨.inl ⟨rfl,rfl⟩,.inl ⟨rfl,rfl⟩⟩
 ·obtain ⟨rows,uD⟩:∃ rows,(gl a.q b.q kn (ee l)).rows=rows:=⟨_,rfl⟩
  rw [uD] at hRr
  have nRb:w.heap.size≤rb:=had rb (by simp)
  refine VO.read rfl [.slice none 0 0] rfl (fun j u hj=> ?_) (wV rfl ?_)
  ·match j,hj with
   | 0,hj=>cases hj;exact hg.cell rfl
   | j + 1,hj=>cases hj
  (repeat first|refine wN ?_|refine wP rfl ?_|refine aa rfl ?_|refine ab rfl ?_|refine wO rfl rfl ?_)
  refine VS.sD (KU UU) (fun t=>Nat.beq t 22) table (fun _ _ _=>trivial) (fun w5 β5 k5 b5 en5=> ?_)
  have DU:=hg.bj b5
  have sH:=uM.bj b5
  have xJ:=zu.bj b5
  have hR5:=hRr.kp (az w.heap.size) (Kp.of (U:=UU) b5)
  have Jm:b4≠g:=fun e=>by subst e;exact absurd (bo sH DU) (by decide)
  have h02:b4≠rb:=fun e=>by subst e;exact absurd (bo sH xJ) (by decide)
  have Ae:g≠rb:=fun e=>by subst e;exact absurd (bo DU xJ) (by decide)
  have pM:iG (KU UU) 66 [b4,g,rb] [(nx,[.val (.slice none 0 0),.val (.slice none 0 0)]),(Runner,[.val (.slice none 0 0),.row 134 0 nr cr,.val (.slice none 0 0)]),(dT,sT.flatten.map .val++uG.map .val)] w5:=by
   refine ⟨rfl,by simp [Jm,h02,Ae],fun j g' c' hj hc=> ?_,fun c' hc=> ?_,fun c' hc k hk=> ?_⟩
   ·match j,hj,hc with
    | 0,hj,hc=>cases hj;cases hc;exact sH
    | 1,hj,hc=>cases hj;cases hc;exact DU
    | 2,hj,hc=>cases hj;cases hc;rw [←List.map_append,ah];exact xJ
    | j + 3,hj,_=>simp at hj
   ·simp only [List.mem_cons,List.not_mem_nil,or_false] at hc
    rcases hc with rfl | rfl | rfl
    ·exact ⟨rfl,rfl⟩
    ·exact ⟨rfl,rfl⟩
    ·exact ⟨rfl,by rw [←List.map_append];exact bb (hR5.all (az _))⟩
   ·simp only [List.mem_cons,List.not_mem_nil,or_false] at hc
    rcases hc with rfl | rfl | rfl
    ·cases hk
    ·have:k=134:=by simpa [ax,AV.cL] using hk
     subst this;exact ⟨by omega,by show 134 < 2 * 66 + 3;omega⟩
    ·rw [←List.map_append,ao] at hk;cases hk
  refine ⟨[b4,g,rb],_,pM,[(4,.box 132 0),(6,.box 133 0),(44,.val (.slice none 0 0)),(45,.val (.int .i64 ((0:Nat):Int))),(46,.val (.int .i64 0))],⟨?_,?_,⟨_,rfl,rfl,fun i hi=>by cases hi⟩,⟨_,rfl,rfl,fun i hi=>by cases hi⟩,⟨_,rfl,rfl,fun i hi=>by cases hi⟩,trivial⟩,?_⟩
  ·refine ⟨_,rfl,rfl,fun i hi=> ?_⟩
   have:i=132:=by simpa [AV.ids] using hi
   subst this;exact ⟨by show 132≤132;omega,by show 132 < 2 * 66 + 3;omega⟩
  ·refine ⟨_,rfl,rfl,fun i hi=> ?_⟩
   have:i=133:=by simpa [AV.ids] using hi
   subst this;exact ⟨by show 132≤133;omega,by show 133 < 2 * 66 + 3;omega⟩
  refine VS.loop (J:=fun m L M w'=>L=[(4,.box 132 0),(6,.box 133 0),(44,.val (.slice none 0 0)),(45,.val (.int .i64 ((0:Nat):Int))),(46,.val (.int .i64 0))]∧M=[(132,(nx,[.val (.slice none 0 0),.val (.slice none 0 0)])),(133,(Runner,[.val (.slice none 0 0),.row 134 0 nr cr,.val (.slice none 0 0)])),(134,(dT,sT.flatten.map .val++uG.map .val))]∧aE (KU UU) w5 w') 0 ⟨_,_,?_,?_,?_,?_,⟨rfl,rfl,kR _⟩⟩ ?_
  ·(repeat first|exact trivial|refine ⟨rfl,?_⟩)
  ·(repeat first|exact trivial|refine ⟨rfl,?_⟩)
  ·rfl
  ·exact ⟨.lit rfl,.lit rfl,.append (.vals _) (.vals _),trivial⟩
  rintro m L M w6 ⟨rfl,rfl,kw6⟩
  (repeat first|refine wN ?_|refine wP rfl ?_|refine af rfl ?_|refine ag rfl ?_|refine wO rfl rfl ?_)
  refine VS.oy (bk _ _) rfl (fun wz βz kz oz enz=> ?_)
  have EP:aj w wz:=qA.bj (jK.aJ b5) oz.1 (fun x hx=>by simp only [List.mem_cons,List.not_mem_nil,or_false] at hx;rcases hx with rfl | rfl | rfl <;> assumption)
  obtain ⟨o5,o6⟩:=eb (enz.own 134 _ _ rfl) 2 rb rfl rfl
  replace o5:βz 134=rb:=o5
  rw [List.map_append,ah] at o6
  refine ⟨_,_,rfl,?_,EP⟩
  show sG w.heap.size wz _ _ (eF (gl a.q b.q kn (ee l)).q (gl a.q b.q kn (ee l)).rows,(gl a.q b.q kn (ee l)).uses)
  rw [MC,uD,BW]
  exact ⟨.inr ⟨rb,nRb,_,_,_,_,congrArg (fun g=>Value.slice (some ⟨g,0,none⟩) nr cr) o5,o6,(hR5.a.kp (az _) (by (with_reducible (repeat (first | assumption | exact kU _ | exact kR _ | exact Kp.of (U:=UU) (by assumption) | exact aE.of (by assumption) | refine kT ?_ (by assumption)))))).o βz⟩,.inl ⟨rfl,rfl⟩⟩
 ·obtain ⟨q,MC⟩:∃ q,(gl a.q b.q kn (ee l)).q=q:=⟨_,rfl⟩
  obtain ⟨rows,uD⟩:∃ rows,(gl a.q b.q kn (ee l)).rows=rows:=⟨_,rfl⟩
  rw [uD] at hRr
  rw [MC] at hVr
  have nRb:w.heap.size≤rb:=had rb (by simp)
  have hv4:vb≠b4:=fun e=>by subst e;exact absurd (bo Bc uM) (by decide)
  have hvg:vb≠g:=fun e=>by subst e;exact absurd (bo Bc hg) (by decide)
  have hvr:vb≠rb:=fun e=>by subst e;exact absurd (bo Bc zu) (by decide)
  refine VO.read rfl [.slice (some ⟨vb,off,none⟩) nq cq] rfl (fun j u hj=> ?_) (wV rfl ?_)
  ·match j,hj with
   | 0,hj=>cases hj;exact hg.cell rfl
   | j + 1,hj=>cases hj
  (repeat first|refine wN ?_|refine wP rfl ?_|refine aa rfl ?_|refine ab rfl ?_|refine wO rfl rfl ?_)
  refine VS.sD (KU UU) (fun t=>Nat.beq t 22) table (fun _ _ _=>trivial) (fun w5 β5 k5 b5 en5=> ?_)
  have DU:=hg.bj b5
  have sH:=uM.bj b5
  have xJ:=zu.bj b5
  have hR5:=hRr.kp (az w.heap.size) (Kp.of (U:=UU) b5)
  have MD:=Bc.bj b5
  have ME:=hVr.kp (aM w.heap.size) (Kp.of (U:=UU) b5)
  have Jm:b4≠g:=fun e=>by subst e;exact absurd (bo sH DU) (by decide)
  have h02:b4≠rb:=fun e=>by subst e;exact absurd (bo sH xJ) (by decide)
  have Ae:g≠rb:=fun e=>by subst e;exact absurd (bo DU xJ) (by decide)
  have pM:iG (KU UU) 66 [b4,g,rb] [(nx,[.val (.slice none 0 0),.val (.slice none 0 0)]),(Runner,[.val (.slice (some ⟨vb,off,none⟩) nq cq),.row 134 0 nr cr,.val (.slice none 0 0)]),(dT,sT.flatten.map .val++uG.map .val)] w5:=by
   refine ⟨rfl,by simp [Jm,h02,Ae],fun j g' c' hj hc=> ?_,fun c' hc=> ?_,fun c' hc k hk=> ?_⟩
   ·match j,hj,hc with
    | 0,hj,hc=>cases hj;cases hc;exact sH
    | 1,hj,hc=>cases hj;cases hc;exact DU
    | 2,hj,hc=>cases hj;cases hc;rw [←List.map_append,ah];exact xJ
    | j + 3,hj,_=>simp at hj
   ·simp only [List.mem_cons,List.not_mem_nil,or_false] at hc
    rcases hc with rfl | rfl | rfl
    ·exact ⟨rfl,rfl⟩
    ·exact ⟨rfl,rfl⟩
    ·exact ⟨rfl,by rw [←List.map_append];exact bb (hR5.all (az _))⟩
   ·simp only [List.mem_cons,List.not_mem_nil,or_false] at hc
    rcases hc with rfl | rfl | rfl
    ·cases hk
    ·have:k=134:=by simpa [ax,AV.cL] using hk
     subst this;exact ⟨by omega,by show 134 < 2 * 66 + 3;omega⟩
    ·rw [←List.map_append,ao] at hk;cases hk
  refine ⟨[b4,g,rb],_,pM,[(4,.box 132 0),(6,.box 133 0),(44,.val (.slice (some ⟨vb,off,none⟩) nq cq)),(45,.val (.int .i64 ((nq:Nat):Int))),(46,.val (.int .i64 0))],⟨?_,?_,⟨_,rfl,rfl,fun i hi=>by cases hi⟩,⟨_,rfl,rfl,fun i hi=>by cases hi⟩,⟨_,rfl,rfl,fun i hi=>by cases hi⟩,trivial⟩,?_⟩
  ·refine ⟨_,rfl,rfl,fun i hi=> ?_⟩
   have:i=132:=by simpa [AV.ids] using hi
   subst this;exact ⟨by show 132≤132;omega,by show 132 < 2 * 66 + 3;omega⟩
  ·refine ⟨_,rfl,rfl,fun i hi=> ?_⟩
   have:i=133:=by simpa [AV.ids] using hi
   subst this;exact ⟨by show 132≤133;omega,by show 133 < 2 * 66 + 3;omega⟩
  refine VS.loop (J:=fun m L M w'=>∃ (z:Nat) (vs:List (List Value)) (mg:List aN),z≤nq∧m=nq - z∧L=[(4,.box 132 0),(6,.box 133 0),(44,.val (.slice (some ⟨vb,off,none⟩) nq cq)),(45,.val (.int .i64 ((nq:Nat):Int))),(46,.val (.int .i64 (z:Int)))]∧M=[(132,(nx,[.val (.slice none 0 0),.val (.slice none 0 0)])),(133,(Runner,[.val (.slice (some ⟨vb,off,none⟩) nq cq),.row 134 0 nr cr,.val (.slice none 0 0)])),(134,(dT,vs.flatten.map .val++uG.map .val))]∧nv (dG w.heap.size) 28 w' nr cr vs (uG.map .val) mg∧eF (q.drop z) mg=eF q rows∧aE (KU UU) w5 w') nq ⟨_,_,?_,?_,?_,?_,⟨0,sT,rows,Nat.zero_le _,rfl,rfl,rfl,hR5.a,rfl,kR _⟩⟩ ?_
  ·(repeat first|exact trivial|refine ⟨rfl,?_⟩)
  ·(repeat first|exact trivial|refine ⟨rfl,?_⟩)
  ·rfl
  ·exact ⟨.lit rfl,.lit rfl,.append (.vals _) (.vals _),trivial⟩
  rintro m L M w6 ⟨z',vs,mg,DN,rfl,rfl,rfl,tM,js,kw6⟩
  (repeat first|refine wN ?_|refine wP rfl ?_|refine af rfl ?_|refine ag rfl ?_|refine wO rfl rfl ?_)
  by_cases CK:z' < nq
  ·refine VS.bE rfl (decide_eq_true (Int.ofNat_lt.2 CK)) ?_
   obtain ⟨pp,mj⟩:∃ pp,q[z']? =some pp:=⟨_,List.getElem?_eq_getElem (by rw [←ME.len];exact CK)⟩
   obtain ⟨cs,hcs,hE5⟩:=MB MD ME mj
   obtain ⟨s9,p9,n9,c9,t9,y9,m9,d9,rfl,Jk⟩:=hE5
   (repeat first|refine wN ?_|refine wP rfl ?_|refine af rfl ?_|refine ag rfl ?_|refine wO rfl rfl ?_)
   refine VO.cond rfl ⟨by omega,by omega⟩ (wV rfl ?_)
   refine VO.jt rfl [.int .i64 (pp.1:Int),.bool s9,.slice p9 n9 c9,.bool t9,.slice y9 m9 d9] rfl (mZ MD.lt (by simp [hv4,hvg,hvr]) (AK hcs)) (wV rfl ?_)
   (repeat first|refine wN ?_|refine wP rfl ?_|refine af rfl ?_|refine ag rfl ?_|refine wO rfl rfl ?_)
   have Cp:pp.1 < nr:=by
    rw [hRr.len]
    exact (hst.el pp (by rw [MC];exact List.mem_of_getElem? mj)).2.2.2 |> fun h=>by rw [uD] at h;exact h
   refine VO.cond rfl ⟨by omega,by omega⟩ (wV rfl ?_)
   have fi:=tM.len
   obtain ⟨rq,zo⟩:∃ rq,mg[pp.1]? =some rq:=⟨_,List.getElem?_eq_getElem (by rw [←fi];exact Cp)⟩
   obtain ⟨zp,tI,zt⟩:=tM.el.at pp.1 rq zo
   have gG:=tM.fl
   have Jl:=tM.le
   refine VO.cond rfl (by show 0 + ((pp.1:Int)).toNat * 28 + 24 + 4≤_;rw [gG,Int.toNat_natCast];omega) (VO.ft 134 rfl (kh (new:=[.bool s9,.slice p9 n9 c9,.bool t9,.slice y9 m9 d9]) (o:=24) (tM.el.lens (az _)) tI (Nat.le_of_ble_eq_true rfl)) (wV rfl ?_))
   (repeat first|refine wN ?_|refine wP rfl ?_|refine af rfl ?_|refine ag rfl ?_|refine wO rfl rfl ?_)
   refine VS.back (nq - (z' + 1)) (by omega) ⟨_,_,?_,?_,?_,?_,⟨z' + 1,vs.set pp.1 (zp.take 24++(([.bool s9,.slice p9 n9 c9,.bool t9,.slice y9 m9 d9]:List Value)++zp.drop (24 + ([.bool s9,.slice p9 n9 c9,.bool t9,.slice y9 m9 d9]:List Value).length))),mg.modify pp.1 (fun r=>{ r with closing:=pp.2 }),by omega,rfl,rfl,rfl,?_,?_,kw6⟩⟩
   ·refine ⟨rfl,rfl,rfl,rfl,?_,trivial⟩
    rw [←bX (i:=z') (by have:=ME.cm;have:=ME.le;omega)];rfl
   ·(repeat first|exact trivial|refine ⟨rfl,?_⟩)
   ·rfl
   ·exact ⟨.lit rfl,.lit rfl,.append (.vals _) (.vals _),trivial⟩
   ·refine ⟨by rw [List.length_modify];exact fi,by rw [gJ zo];exact tM.el.set (Dp zt ⟨_,_,_,_,_,_,_,_,rfl,Jk.kp kw6⟩),tM.so,tM.sl,tM.le,tM.cm,?_⟩
    rw [List.length_append,List.length_map,cW (kj (tM.el.lens (az _)) (Dq ((az _).len zt) rfl)),List.length_set]
    rw [List.length_append,List.length_map,cW (tM.el.lens (az _))] at gG
    exact gG
   ·rw [←js]
    obtain ⟨hlq,hqe⟩:=List.getElem?_eq_some_iff.1 mj
    rw [List.drop_eq_getElem_cons hlq,hqe];rfl
  refine VS.bu rfl (decide_eq_false (fun e=>CK (Int.ofNat_lt.1 e))) ?_
  have hzn:z'=nq:=by omega
  have hdn:q.drop z'=[]:=List.drop_of_length_le (by rw [←ME.len];omega)
  rw [hdn] at js
  replace js:mg=eF q rows:=js
  (repeat first|refine wN ?_|refine wP rfl ?_|refine af rfl ?_|refine ag rfl ?_|refine wO rfl rfl ?_)
  refine VS.oy (bk _ _) rfl (fun wz βz kz oz enz=> ?_)
  have EP:aj w wz:=qA.bj (jK.aJ b5) oz.1 (fun x hx=>by simp only [List.mem_cons,List.not_mem_nil,or_false] at hx;rcases hx with rfl | rfl | rfl <;> assumption)
  obtain ⟨o5,o6⟩:=eb (enz.own 134 _ _ rfl) 2 rb rfl rfl
  replace o5:βz 134=rb:=o5
  rw [List.map_append,ah] at o6
  refine ⟨_,_,rfl,?_,EP⟩
  show sG w.heap.size wz _ _ (eF (gl a.q b.q kn (ee l)).q (gl a.q b.q kn (ee l)).rows,(gl a.q b.q kn (ee l)).uses)
  rw [MC,uD,BW]
  exact ⟨.inr ⟨rb,nRb,_,_,_,_,congrArg (fun g=>Value.slice (some ⟨g,0,none⟩) nr cr) o5,o6,((js▸tM).kp (az _) (by (with_reducible (repeat (first | assumption | exact kU _ | exact kR _ | exact Kp.of (U:=UU) (by assumption) | exact aE.of (by assumption) | refine kT ?_ (by assumption)))))).o βz⟩,.inl ⟨rfl,rfl⟩⟩
 ·obtain ⟨q,MC⟩:∃ q,(gl a.q b.q kn (ee l)).q=q:=⟨_,rfl⟩
  obtain ⟨rows,uD⟩:∃ rows,(gl a.q b.q kn (ee l)).rows=rows:=⟨_,rfl⟩
  obtain ⟨us,BW⟩:∃ us,(gl a.q b.q kn (ee l)).uses=us:=⟨_,rfl⟩
  rw [uD] at hRr
  rw [MC] at hVr
  rw [BW] at hUr
  have nRb:w.heap.size≤rb:=had rb (by simp)
  have nUb:w.heap.size≤ub:=had ub (by simp)
  have hv4:vb≠b4:=fun e=>by subst e;exact absurd (bo Bc uM) (by decide)
  have hvg:vb≠g:=fun e=>by subst e;exact absurd (bo Bc hg) (by decide)
  have hvr:vb≠rb:=fun e=>by subst e;exact absurd (bo Bc zu) (by decide)
  have hu4:ub≠b4:=fun e=>by subst e;exact absurd (bo hcU uM) (by decide)
  have hug:ub≠g:=fun e=>by subst e;exact absurd (bo hcU hg) (by decide)
  have hur:ub≠rb:=fun e=>by subst e;exact absurd (bo hcU zu) (by decide)
  refine VO.read rfl [.slice (some ⟨vb,off,none⟩) nq cq] rfl (fun j u hj=> ?_) (wV rfl ?_)
  ·match j,hj with
   | 0,hj=>cases hj;exact hg.cell rfl
   | j + 1,hj=>cases hj
  (repeat first|refine wN ?_|refine wP rfl ?_|refine aa rfl ?_|refine ab rfl ?_|refine wO rfl rfl ?_)
  refine VS.sD (KU UU) (fun t=>Nat.beq t 22) table (fun _ _ _=>trivial) (fun w5 β5 k5 b5 en5=> ?_)
  have DU:=hg.bj b5
  have sH:=uM.bj b5
  have xJ:=zu.bj b5
  have hR5:=hRr.kp (az w.heap.size) (Kp.of (U:=UU) b5)
  have MD:=Bc.bj b5
  have ME:=hVr.kp (aM w.heap.size) (Kp.of (U:=UU) b5)
  have hcU5:=hcU.bj b5
  have hU5:=hUr.kp (dm w.heap.size) (Kp.of (U:=UU) b5)
  have Jm:b4≠g:=fun e=>by subst e;exact absurd (bo sH DU) (by decide)
  have h02:b4≠rb:=fun e=>by subst e;exact absurd (bo sH xJ) (by decide)
  have Ae:g≠rb:=fun e=>by subst e;exact absurd (bo DU xJ) (by decide)
  have pM:iG (KU UU) 66 [b4,g,rb] [(nx,[.val (.slice none 0 0),.val (.slice none 0 0)]),(Runner,[.val (.slice (some ⟨vb,off,none⟩) nq cq),.row 134 0 nr cr,.val (.slice (some ⟨ub,0,none⟩) nu cu')]),(dT,sT.flatten.map .val++uG.map .val)] w5:=by
   refine ⟨rfl,by simp [Jm,h02,Ae],fun j g' c' hj hc=> ?_,fun c' hc=> ?_,fun c' hc k hk=> ?_⟩
   ·match j,hj,hc with
    | 0,hj,hc=>cases hj;cases hc;exact sH
    | 1,hj,hc=>cases hj;cases hc;exact DU
    | 2,hj,hc=>cases hj;cases hc;rw [←List.map_append,ah];exact xJ
    | j + 3,hj,_=>simp at hj
   ·simp only [List.mem_cons,List.not_mem_nil,or_false] at hc
    rcases hc with rfl | rfl | rfl
    ·exact ⟨rfl,rfl⟩
    ·exact ⟨rfl,rfl⟩
    ·exact ⟨rfl,by rw [←List.map_append];exact bb (hR5.all (az _))⟩
   ·simp only [List.mem_cons,List.not_mem_nil,or_false] at hc
    rcases hc with rfl | rfl | rfl
    ·cases hk
    ·have:k=134:=by simpa [ax,AV.cL] using hk
     subst this;exact ⟨by omega,by show 134 < 2 * 66 + 3;omega⟩
    ·rw [←List.map_append,ao] at hk;cases hk
  refine ⟨[b4,g,rb],_,pM,[(4,.box 132 0),(6,.box 133 0),(44,.val (.slice (some ⟨vb,off,none⟩) nq cq)),(45,.val (.int .i64 ((nq:Nat):Int))),(46,.val (.int .i64 0))],⟨?_,?_,⟨_,rfl,rfl,fun i hi=>by cases hi⟩,⟨_,rfl,rfl,fun i hi=>by cases hi⟩,⟨_,rfl,rfl,fun i hi=>by cases hi⟩,trivial⟩,?_⟩
  ·refine ⟨_,rfl,rfl,fun i hi=> ?_⟩
   have:i=132:=by simpa [AV.ids] using hi
   subst this;exact ⟨by show 132≤132;omega,by show 132 < 2 * 66 + 3;omega⟩
  ·refine ⟨_,rfl,rfl,fun i hi=> ?_⟩
   have:i=133:=by simpa [AV.ids] using hi
   subst this;exact ⟨by show 132≤133;omega,by show 133 < 2 * 66 + 3;omega⟩
  refine VS.loop (J:=fun m L M w'=>∃ (z:Nat) (vs:List (List Value)) (mg:List aN),z≤nq∧m=nq - z∧L=[(4,.box 132 0),(6,.box 133 0),(44,.val (.slice (some ⟨vb,off,none⟩) nq cq)),(45,.val (.int .i64 ((nq:Nat):Int))),(46,.val (.int .i64 (z:Int)))]∧M=[(132,(nx,[.val (.slice none 0 0),.val (.slice none 0 0)])),(133,(Runner,[.val (.slice (some ⟨vb,off,none⟩) nq cq),.row 134 0 nr cr,.val (.slice (some ⟨ub,0,none⟩) nu cu')])),(134,(dT,vs.flatten.map .val++uG.map .val))]∧nv (dG w.heap.size) 28 w' nr cr vs (uG.map .val) mg∧eF (q.drop z) mg=eF q rows∧aE (KU UU) w5 w') nq ⟨_,_,?_,?_,?_,?_,⟨0,sT,rows,Nat.zero_le _,rfl,rfl,rfl,hR5.a,rfl,kR _⟩⟩ ?_
  ·(repeat first|exact trivial|refine ⟨rfl,?_⟩)
  ·(repeat first|exact trivial|refine ⟨rfl,?_⟩)
  ·rfl
  ·exact ⟨.lit rfl,.lit rfl,.append (.vals _) (.vals _),trivial⟩
  rintro m L M w6 ⟨z',vs,mg,DN,rfl,rfl,rfl,tM,js,kw6⟩
  (repeat first|refine wN ?_|refine wP rfl ?_|refine af rfl ?_|refine ag rfl ?_|refine wO rfl rfl ?_)
  by_cases CK:z' < nq
  ·refine VS.bE rfl (decide_eq_true (Int.ofNat_lt.2 CK)) ?_
   obtain ⟨pp,mj⟩:∃ pp,q[z']? =some pp:=⟨_,List.getElem?_eq_getElem (by rw [←ME.len];exact CK)⟩
   obtain ⟨cs,hcs,hE5⟩:=MB MD ME mj
   obtain ⟨s9,p9,n9,c9,t9,y9,m9,d9,rfl,Jk⟩:=hE5
   (repeat first|refine wN ?_|refine wP rfl ?_|refine af rfl ?_|refine ag rfl ?_|refine wO rfl rfl ?_)
   refine VO.cond rfl ⟨by omega,by omega⟩ (wV rfl ?_)
   refine VO.jt rfl [.int .i64 (pp.1:Int),.bool s9,.slice p9 n9 c9,.bool t9,.slice y9 m9 d9] rfl (mZ MD.lt (by simp [hv4,hvg,hvr]) (AK hcs)) (wV rfl ?_)
   (repeat first|refine wN ?_|refine wP rfl ?_|refine af rfl ?_|refine ag rfl ?_|refine wO rfl rfl ?_)
   have Cp:pp.1 < nr:=by
    rw [hRr.len]
    exact (hst.el pp (by rw [MC];exact List.mem_of_getElem? mj)).2.2.2 |> fun h=>by rw [uD] at h;exact h
   refine VO.cond rfl ⟨by omega,by omega⟩ (wV rfl ?_)
   have fi:=tM.len
   obtain ⟨rq,zo⟩:∃ rq,mg[pp.1]? =some rq:=⟨_,List.getElem?_eq_getElem (by rw [←fi];exact Cp)⟩
   obtain ⟨zp,tI,zt⟩:=tM.el.at pp.1 rq zo
   have gG:=tM.fl
   have Jl:=tM.le
   refine VO.cond rfl (by show 0 + ((pp.1:Int)).toNat * 28 + 24 + 4≤_;rw [gG,Int.toNat_natCast];omega) (VO.ft 134 rfl (kh (new:=[.bool s9,.slice p9 n9 c9,.bool t9,.slice y9 m9 d9]) (o:=24) (tM.el.lens (az _)) tI (Nat.le_of_ble_eq_true rfl)) (wV rfl ?_))
   (repeat first|refine wN ?_|refine wP rfl ?_|refine af rfl ?_|refine ag rfl ?_|refine wO rfl rfl ?_)
   refine VS.back (nq - (z' + 1)) (by omega) ⟨_,_,?_,?_,?_,?_,⟨z' + 1,vs.set pp.1 (zp.take 24++(([.bool s9,.slice p9 n9 c9,.bool t9,.slice y9 m9 d9]:List Value)++zp.drop (24 + ([.bool s9,.slice p9 n9 c9,.bool t9,.slice y9 m9 d9]:List Value).length))),mg.modify pp.1 (fun r=>{ r with closing:=pp.2 }),by omega,rfl,rfl,rfl,?_,?_,kw6⟩⟩
   ·refine ⟨rfl,rfl,rfl,rfl,?_,trivial⟩
    rw [←bX (i:=z') (by have:=ME.cm;have:=ME.le;omega)];rfl
   ·(repeat first|exact trivial|refine ⟨rfl,?_⟩)
   ·rfl
   ·exact ⟨.lit rfl,.lit rfl,.append (.vals _) (.vals _),trivial⟩
   ·refine ⟨by rw [List.length_modify];exact fi,by rw [gJ zo];exact tM.el.set (Dp zt ⟨_,_,_,_,_,_,_,_,rfl,Jk.kp kw6⟩),tM.so,tM.sl,tM.le,tM.cm,?_⟩
    rw [List.length_append,List.length_map,cW (kj (tM.el.lens (az _)) (Dq ((az _).len zt) rfl)),List.length_set]
    rw [List.length_append,List.length_map,cW (tM.el.lens (az _))] at gG
    exact gG
   ·rw [←js]
    obtain ⟨hlq,hqe⟩:=List.getElem?_eq_some_iff.1 mj
    rw [List.drop_eq_getElem_cons hlq,hqe];rfl
  refine VS.bu rfl (decide_eq_false (fun e=>CK (Int.ofNat_lt.1 e))) ?_
  have hzn:z'=nq:=by omega
  have hdn:q.drop z'=[]:=List.drop_of_length_le (by rw [←ME.len];omega)
  rw [hdn] at js
  replace js:mg=eF q rows:=js
  (repeat first|refine wN ?_|refine wP rfl ?_|refine af rfl ?_|refine ag rfl ?_|refine wO rfl rfl ?_)
  refine VS.oy (bk _ _) rfl (fun wz βz kz oz enz=> ?_)
  have EP:aj w wz:=qA.bj (jK.aJ b5) oz.1 (fun x hx=>by simp only [List.mem_cons,List.not_mem_nil,or_false] at hx;rcases hx with rfl | rfl | rfl <;> assumption)
  obtain ⟨o5,o6⟩:=eb (enz.own 134 _ _ rfl) 2 rb rfl rfl
  replace o5:βz 134=rb:=o5
  rw [List.map_append,ah] at o6
  refine ⟨_,_,rfl,?_,EP⟩
  show sG w.heap.size wz _ _ (eF (gl a.q b.q kn (ee l)).q (gl a.q b.q kn (ee l)).rows,(gl a.q b.q kn (ee l)).uses)
  rw [MC,uD,BW]
  exact ⟨.inr ⟨rb,nRb,_,_,_,_,congrArg (fun g=>Value.slice (some ⟨g,0,none⟩) nr cr) o5,o6,((js▸tM).kp (az _) (by (with_reducible (repeat (first | assumption | exact kU _ | exact kR _ | exact Kp.of (U:=UU) (by assumption) | exact aE.of (by assumption) | refine kT ?_ (by assumption)))))).o βz⟩,.inr ⟨ub,nUb,_,_,_,_,rfl,(oz.1.nh ub hcU5.lt (by simp [hu4,hug,hur])).trans hcU5,hU5.kp (dm _) (by (with_reducible (repeat (first | assumption | exact kU _ | exact kR _ | exact Kp.of (U:=UU) (by assumption) | exact aE.of (by assumption) | refine kT ?_ (by assumption)))))⟩⟩
end Go.Proofs.YtabalinjfgcfeaaGreat
namespace Go.Proofs.YtabalinjfgcfeaaGreat
open Go.RowKit
theorem GW (x:Rat):x * (((x.den:Nat):Int):Rat)=((x.num:Int):Rat):=by
 have h:((((x.den:Nat):Int):Int):Rat)≠0:=fun e=>by
  have:((x.den:Int):Rat)=((0:Int):Rat):=e
  have:=Rat.intCast_inj.1 this
  have:=x.den_nz;omega
 conv=>lhs;lhs;rw [←Rat.num_divInt_den x,Rat.divInt_eq_div]
 exact Rat.div_mul_cancel h
theorem Iz.AL {D:Nat} {x:Rat} (h:x.den∣D):Iz D x:=by
 obtain ⟨k,rfl⟩:=h
 refine ⟨x.num * (k:Int),?_⟩
 rw [Int.natCast_mul,Rat.intCast_mul,Rat.intCast_mul,←GW x];grind
theorem Iz.up {D E:Nat} {x:Rat} (h:Iz D x):Iz (D * E) x:=by
 obtain ⟨n,hn⟩:=h
 exact ⟨n * (E:Int),by rw [Int.natCast_mul,Rat.intCast_mul,Rat.intCast_mul,←hn];grind⟩
theorem rsz_of {D M kk:Nat} {x:Rat} (hD:0 < D) (hI:Iz D x) (h1: -((M:Int):Rat)≤x) (h2:x≤((M:Int):Rat)) (hk:M * D < 4294967296 ^ kk) (hk2:D < 4294967296 ^ kk):dV x kk:=by
 obtain ⟨n,hn⟩:=hI
 have hD':(0:Rat) < ((D:Int):Rat):=by
  have:((0:Int):Rat) < ((D:Int):Rat):=Rat.intCast_lt_intCast.2 (by omega)
  exact this
 have hDn:((D:Int):Rat)≠0:=by grind
 have hx:x=Rat.divInt n (D:Int):=by
  rw [Rat.divInt_eq_div,←hn,Rat.div_def,Rat.mul_assoc,Rat.mul_inv_cancel _ hDn,Rat.mul_one]
 have b1:n≤(M:Int) * (D:Int):=by
  have:=Rat.mul_le_mul_of_nonneg_right h2 (Rat.le_of_lt hD')
  rw [hn,←Rat.intCast_mul] at this
  exact Rat.intCast_le_intCast.1 this
 have b2: -((M:Int) * (D:Int))≤n:=by
  have:=Rat.mul_le_mul_of_nonneg_right h1 (Rat.le_of_lt hD')
  rw [hn,←Rat.intCast_neg,←Rat.intCast_mul] at this
  have:=Rat.intCast_le_intCast.1 this
  rw [Int.neg_mul] at this
  exact this
 rw [hx]
 refine lZ (Sz.of_lt ?_) (Sz.of_lt (by simpa using hk2)) (by omega)
 have:n.natAbs≤M * D:=by
  have e:((M * D:Nat):Int)=(M:Int) * (D:Int):=Int.natCast_mul ..
  omega
 omega
def uU:List (Rat×Rat)→Nat
 | []=>1
 | e::l=>e.1.den * e.2.den * uU l
theorem Dr:∀ l:List (Rat×Rat),0 < uU l
 | []=>by decide
 | e::l=>Nat.mul_pos (Nat.mul_pos e.1.den_pos e.2.den_pos) (Dr l)
theorem Ds:∀ {l:List (Rat×Rat)} {e:Rat×Rat},e∈l→(e.1.den * e.2.den)∣uU l
 | x::l,e,h=>by
   rcases List.mem_cons.1 h with rfl | h
   ·exact Nat.dvd_mul_right ..
   ·exact Nat.dvd_mul_left_of_dvd (Ds h) _
theorem Iz.mul {a b:Nat} {x y:Rat} (h:Iz a x) (k:Iz b y):Iz (a * b) (x * y):=by
 obtain ⟨n,hn⟩:=h;obtain ⟨m,hm⟩:=k
 exact ⟨n * m,by rw [Int.natCast_mul,Rat.intCast_mul,Rat.intCast_mul,←hn,←hm];grind⟩
theorem Iz.dvd {D E:Nat} {x:Rat} (h:Iz D x) (k:D∣E):Iz E x:=by
 obtain ⟨c,rfl⟩:=k
 exact h.up
theorem xK (S F e:Rat):aD S F e=F∨aD S F e=S * e∨aD S F e=0:=by
 rw [show aD S F e=(if jz 0 (if jz (S * e) F=true then S * e else F)=true then 0 else (if jz (S * e) F=true then S * e else F)) from rfl]
 by_cases h:jz (S * e) F=true
 ·simp only [if_pos h]
  split <;> simp
 ·simp only [if_neg h]
  split <;> simp
theorem FK {x:Rat} {k:Nat} (h:x.num.natAbs≤4294967296 ^ k): -(((4294967296 ^ k:Nat):Int):Rat)≤x∧x≤(((4294967296 ^ k:Nat):Int):Rat):=by
 have hd:(1:Rat)≤((x.den:Int):Rat):=by
  have:((1:Int):Rat)≤((x.den:Int):Rat):=Rat.intCast_le_intCast.2 (by have:=x.den_pos;omega)
  exact this
 have hm:=GW x
 have hN0:(0:Rat)≤(((4294967296 ^ k:Nat):Int):Rat):=by
  have:((0:Int):Rat)≤(((4294967296 ^ k:Nat):Int):Rat):=Rat.intCast_le_intCast.2 (by omega)
  exact this
 have h1:((x.num:Int):Rat)≤(((4294967296 ^ k:Nat):Int):Rat):=Rat.intCast_le_intCast.2 (by omega)
 have h2: -(((4294967296 ^ k:Nat):Int):Rat)≤((x.num:Int):Rat):=by
  rw [←Rat.intCast_neg];exact Rat.intCast_le_intCast.2 (by omega)
 generalize (((4294967296 ^ k:Nat):Int):Rat)=N at *
 generalize ((x.num:Int):Rat)=n at *
 generalize ((((x.den:Nat):Int):Int):Rat)=d at *
 have h3:N≤N * d:=by
  have:=Rat.mul_le_mul_of_nonneg_left hd hN0
  rw [Rat.mul_one] at this;exact this
 constructor
 ·refine Rat.not_lt.1 fun hlt=> ?_
  have:=Rat.mul_lt_mul_of_pos_right hlt (show 0 < d by grind)
  grind
 ·refine Rat.not_lt.1 fun hlt=> ?_
  have:=Rat.mul_lt_mul_of_pos_right hlt (show 0 < d by grind)
  grind
def Lm (k:Nat) (x:Rat):Prop:=x.num.natAbs≤4294967296 ^ k∧x.den≤4294967296 ^ k
theorem GX {k:Nat}:∀ {l:List (Rat×Rat)},(∀ e∈l,Lm k e.1∧Lm k e.2)→uU l≤4294967296 ^ (2 * k * l.length)
 | [],_=>by simp [uU]
 | e::l,h=>by
   obtain ⟨h1,h2⟩:=h e (by simp)
   have h3:=GX (l:=l) fun x hx=>h x (by simp [hx])
   have e1:4294967296 ^ (2 * k * (e::l).length)=(4294967296 ^ k * 4294967296 ^ k) * 4294967296 ^ (2 * k * l.length):=by
    rw [←Nat.pow_add,←Nat.pow_add];congr 1;rw [List.length_cons];grind
   rw [e1]
   exact Nat.mul_le_mul (Nat.mul_le_mul h1.2 h2.2) h3
theorem MF {k n:Nat} {S F:Rat} {l:List (Rat×Rat)} (hS:Lm k S) (hF:Lm k F) (h0:0≤S) (h1:S≤1) (hl:∀ e∈l,Lm k e.1∧Lm k e.2) (hn:l.length≤n) (hk:1≤k):
  xI (S.den * F.den * uU l) (((4294967296 ^ k:Nat):Int):Rat) S F (2 * k * n + 3 * k + 1) l:=by
 obtain ⟨N,hN⟩:∃ N,N=4294967296 ^ k:=⟨_,rfl⟩
 have hNk:4294967296≤N:=by rw [hN];exact Nat.le_self_pow (by omega) _
 have hN0:(0:Rat)≤((N:Int):Rat):=by
  have:((0:Int):Rat)≤((N:Int):Rat):=Rat.intCast_le_intCast.2 (by omega)
  exact this
 refine ⟨fun e he=> ?_,fun x hI gL JJ=> ?_⟩
 ·rw [←hN]
  obtain ⟨he1,he2⟩:=hl e he
  have b1:=FK he1.1
  have b2:=FK he2.1
  have b3:=FK hF.1
  rw [←hN] at b1 b2 b3
  have hd:=Ds he
  have hSe:S * e.2≤((N:Int):Rat):=by
   by_cases h:0≤e.2
   ·have:=Rat.mul_le_mul_of_nonneg_right h1 h
    rw [Rat.one_mul] at this
    exact Rat.le_trans this b2.2
   ·have h':0≤-e.2:=by grind
    have:=Rat.mul_nonneg h0 h'
    rw [Rat.mul_neg] at this
    grind
  have hIe:Iz (S.den * F.den * uU l) (S * e.2):=((Iz.AL (Nat.dvd_refl S.den)).mul (Iz.AL (Nat.dvd_refl e.2.den))).dvd (by
   obtain ⟨c,hc⟩:=hd
   rw [hc]
   exact ⟨F.den * e.1.den * c,by grind⟩)
  refine ⟨?_,?_,Iz.AL ?_,b1.1,b1.2⟩
  ·rcases xK S F e.2 with h | h | h <;> rw [h]
   ·exact Iz.AL ⟨S.den * uU l,by grind⟩
   ·exact hIe
   ·exact Iz.zero
  ·rcases xK S F e.2 with h | h | h <;> rw [h]
   ·exact b3.2
   ·exact hSe
   ·exact hN0
  ·obtain ⟨c,hc⟩:=hd
   rw [hc]
   exact ⟨S.den * F.den * e.2.den * c,by grind⟩
 ·rw [←hN] at gL JJ
  have iV:=GX hl
  have hpow:4294967296 ^ (2 * k * l.length)≤4294967296 ^ (2 * k * n):=Nat.pow_le_pow_right (by omega) (Nat.mul_le_mul_left _ hn)
  have hD:S.den * F.den * uU l≤N * N * 4294967296 ^ (2 * k * n):=Nat.mul_le_mul (Nat.mul_le_mul (by rw [hN];exact hS.2) (by rw [hN];exact hF.2)) (Nat.le_trans iV hpow)
  have e1:4294967296 ^ (2 * k * n + 3 * k + 1)=(N * N * 4294967296 ^ (2 * k * n)) * (N * 4294967296):=by
   rw [hN,show 2 * k * n + 3 * k + 1=k + k + 2 * k * n + (k + 1) by omega,Nat.pow_add,Nat.pow_add,Nat.pow_add,Nat.pow_succ]
  have hP:0 < N * N * 4294967296 ^ (2 * k * n):=Nat.mul_pos (Nat.mul_pos (by omega) (by omega)) (Nat.pow_pos (by omega))
  have e2:(((N + N:Nat):Int):Rat)=((N:Int):Rat) + ((N:Int):Rat):=by rw [←Rat.intCast_add];rfl
  refine rsz_of (M:=N + N) (Nat.mul_pos (Nat.mul_pos S.den_pos F.den_pos) (Dr l)) hI (by rw [e2];exact gL) (by rw [e2];exact JJ) ?_ ?_
  ·rw [e1]
   calc (N + N) * (S.den * F.den * uU l)≤(N + N) * (N * N * 4294967296 ^ (2 * k * n)):=Nat.mul_le_mul_left _ hD
    _ < (N * 4294967296) * (N * N * 4294967296 ^ (2 * k * n)):=Nat.mul_lt_mul_of_pos_right (by omega) hP
    _=_:=Nat.mul_comm _ _
  ·rw [e1]
   calc S.den * F.den * uU l≤(N * N * 4294967296 ^ (2 * k * n)) * 1:=by rw [Nat.mul_one];exact hD
    _ < _:=Nat.mul_lt_mul_of_pos_left (by omega) hP
end Go.Proofs.YtabalinjfgcfeaaGreat
set_option maxRecDepth 4000
namespace Go.Proofs.YtabalinjfgcfeaaGreat
open Go.RowKit
attribute [local irreducible] aB VS
abbrev Jq (P:Program) (w:World) (N:Nat):Cx:={ P:=P,w0:=w,N:=N,K:=⟨UU,fun _=>True,fun t=>(Nat.beq t dT || (Nat.beq t et || (Nat.beq t 108 || (Nat.beq t 106 || Nat.beq t 100))))⟩,SU:=fun t=>Nat.beq t 22,ti:=table,keep:=fun _ _=>trivial }
theorem FL (w:World) (N:Nat):(Jq Tryz.prog w N).Ok:=rR
section
variable {F F':Fr} {H H':Hp} {w w1:World} {N:Nat} {l':List Oper} {Q:Exit→Act→World→Prop} {k:List It} {id:Nat} {ops:Array Oper}
theorem gf (e:qz (Jq Tryz.prog w1 N) ops 80 ops.toList F H=(l',F',H')) (h:aB (Jq Tryz.prog w1 N) none ops l' (VS (Jq Tryz.prog w1 N) Q k) F' H' w):VS (Jq Tryz.prog w1 N) Q (.code (.region id ops false)::k) F H w:=VS.region (FL _ _) (VO.run 80 e h)
end
structure FzL (K:KC):Prop where
 u:K.U=UU
 s:∀ b,K.S b
 r:K.fz dT=true
 w:K.fz et=true
theorem sG.kpF {K:KC} {B:Nat} {w w':World} {r u:Value} {x:List aN×List Uq} (h:sG B w r u x) (hK:FzL K) (k:aE K w w') (kw:Kp UU w w'):sG B w' r u x:=by
 refine ⟨h.1.imp id fun ⟨rb,h0,n,c,vs,sp,h1,h2,h3⟩=>⟨rb,h0,n,c,vs,sp,h1,k.block _ rb _ hK.r (hK.s _) h2,h3.kp (az B) kw⟩,h.2.imp id fun ⟨rb,h0,n,c,vs,sp,h1,h2,h3⟩=>⟨rb,h0,n,c,vs,sp,h1,k.block _ rb _ hK.w (hK.s _) h2,h3.kp (dm B) kw⟩⟩
instance {k:Nat} {x:Rat}:Decidable (Lm k x):=by unfold Lm;infer_instance
theorem kL {w0 w w':World} {N:Nat} (h:aE (Jq Tryz.prog w0 N).K w w':=by (with_reducible (repeat (first | assumption | exact kU _ | exact kR _ | exact Kp.of (U:=UU) (by assumption) | exact aE.of (by assumption) | refine kT ?_ (by assumption))))):Kp UU w w':=h.yh
theorem AM (w:World) (N:Nat):FzL (Jq Tryz.prog w N).K:=⟨rfl,fun _=>trivial,rfl,rfl⟩
theorem sG.form {B:Nat} {w:World} {r u:Value} {x:List aN×List Uq} (h:sG B w r u x):∃ p c p' c',r=.slice p x.1.length c∧u=.slice p' x.2.length c':=by
 have h1:∃ p c,r=.slice p x.1.length c:=by
  rcases h.1 with ⟨rfl,e⟩ | ⟨rb,_,n,c,vs,sp,rfl,_,h3⟩
  ·exact ⟨none,0,by rw [e];rfl⟩
  ·exact ⟨_,c,by rw [h3.len]⟩
 have h2:∃ p c,u=.slice p x.2.length c:=by
  rcases h.2 with ⟨rfl,e⟩ | ⟨rb,_,n,c,vs,sp,rfl,_,h3⟩
  ·exact ⟨none,0,by rw [e];rfl⟩
  ·exact ⟨_,c,by rw [h3.len]⟩
 obtain ⟨p,c,e1⟩:=h1
 obtain ⟨p',c',e2⟩:=h2
 exact ⟨p,c,p',c',e1,e2⟩
def na (q:Rat):RR:=(decide (q.num < 0),limbs q.num.natAbs,decide ((q.den:Int) < 0),limbs (q.den:Int).natAbs)
theorem MG (q:Rat):Fl (decide (q.num < 0)) (limbs q.num.natAbs) (decide ((q.den:Int) < 0)) (limbs (q.den:Int).natAbs)=true:=by
 unfold Fl
 rw [mw q.num,mw (q.den:Int),fD,fD]
 have h3:(0:Int) < q.den:=by have:=q.den_nz;omega
 have h4:Int.gcd q.num q.den=1:=by have:=q.reduced;simpa [Int.gcd,Nat.Coprime] using this
 rw [decide_eq_true h3,decide_eq_true h4];rfl
theorem MH (q:Rat):rq (decide (q.num < 0)) (limbs q.num.natAbs) (decide ((q.den:Int) < 0)) (limbs (q.den:Int).natAbs)=q:=by
 unfold rq;rw [fD,fD,zi]
theorem nb (q:Rat):(na q).q=q:=MH q
theorem AO (q:Rat):(na q).ok=true:=MG q
theorem pB {q:Rat} {k:Nat} (h:dV q k):(na q).mW k:=⟨h.1,h.2⟩
theorem cQ.Jr {w:World} {s t:Bool} {p u:Option Addr} {a c b d:Nat} {q:Rat} (h:cQ w (.agg #[.bool s,.slice p a c,.bool t,.slice u b d]) q):tJ w [.bool s,.slice p a c,.bool t,.slice u b d] (na q):=by
 have hr:=h.raw
 obtain ⟨_,_,_,_,hv,h1,h2⟩:=hr
 simp only [Value.agg.injEq,Array.mk.injEq,List.cons.injEq,Value.bool.injEq,Value.slice.injEq,and_true] at hv
 obtain ⟨rfl,⟨rfl,rfl,rfl⟩,rfl,rfl,rfl,rfl⟩:=hv
 exact ⟨_,_,_,_,rfl,_,_,_,_,rfl,h1,h2⟩
theorem ny (n:Int) (h0: -9223372036854775808≤n) (h1:n≤9223372036854775807):dV (Rat.divInt n 1) 2:=Am h0 h1 (by decide) (by decide)
theorem gK (n e:Int) (w:World) (h0: -9223372036854775808≤n) (h1:n≤9223372036854775807) (g0: -9223372036854775808≤e) (g1:e≤9223372036854775807):
  Calls Tryz.prog 32 #[.int .i64 n,.int .i64 e] w fun o w'=>∃ v,o=.returned v∧(∃ s p a c t y m d s' p' a' c' t' y' m' d',v=.agg #[.bool s,.slice p a c,.bool t,.slice y m d,.bool s',.slice p' a' c',.bool t',.slice y' m' d']∧xY 2 w' [.bool s,.slice p a c,.bool t,.slice y m d,.bool s',.slice p' a' c',.bool t',.slice y' m' d'] (na (Rat.divInt n 1),na (Rat.divInt e 1)))∧aj w w':=by
 refine aw (C:=cj Tryz.prog w _) (args:=[_,_]) Tryz.func32 rfl Tryz.ntmps32 (Nat.le_of_ble_eq_true rfl) ?_
 (repeat first|refine wN ?_|refine wP rfl ?_|refine aa rfl ?_|refine ab rfl ?_|refine wO rfl rfl ?_)
 refine VO.call rfl rfl (fk Tryz.func31) (fun cC er dv=>(dX n 1 cC h0 h1 (by omega) (by omega)).mono ?_)
 rintro e w1 ⟨r1,rfl,q1,aV⟩
 obtain ⟨s1,p1,n1,c1,t1,y1,m1,d1,rfl⟩:=q1.form
 refine ⟨_,rfl,aV,fun fe _ bb1=>wV rfl ?_⟩
 (repeat first|refine wN ?_|refine wP rfl ?_|refine aa rfl ?_|refine ab rfl ?_|refine wO rfl rfl ?_)
 refine VO.call rfl rfl (fk Tryz.func31) (fun dC gu eu=>(dX e 1 dC g0 g1 (by omega) (by omega)).mono ?_)
 rintro e w2 ⟨r2,rfl,q2,bm⟩
 obtain ⟨s2,p2,n2,c2,t2,y2,m2,d2,rfl⟩:=q2.form
 refine ⟨_,rfl,bm,fun fZ _ bb2=>wV rfl ?_⟩
 (repeat first|refine wN ?_|refine wP rfl ?_|refine aa rfl ?_|refine ab rfl ?_|refine wO rfl rfl ?_)
 refine VS.ret (aL _ _) rfl rfl (fun wz kz bz=> ?_)
 exact ⟨_,rfl,⟨_,_,_,_,_,_,_,_,_,_,_,_,_,_,_,_,rfl,[.bool s1,.slice p1 n1 c1,.bool t1,.slice y1 m1 d1],[.bool s2,.slice p2 n2 c2,.bool t2,.slice y2 m2 d2],rfl,(q1.kr).Jr,(q2.kr).Jr,pB (ny n h0 h1),pB (ny e g0 g1)⟩,bz⟩
abbrev exS:Rat:=(Rat.divInt 3 10)
abbrev exF:Rat:=(Rat.divInt 50 1)
theorem lE (w:World):Calls Tryz.prog 33 #[] w fun o w'=>∃ v,o=.returned v∧jl w' v (na exS) (na exF) 2∧aj w w':=by
 refine aw (C:=cj Tryz.prog w _) (args:=[]) Tryz.func33 rfl Tryz.ntmps33 (Nat.le_of_ble_eq_true rfl) ?_
 (repeat first|refine wN ?_|refine wP rfl ?_|refine aa rfl ?_|refine ab rfl ?_|refine wO rfl rfl ?_)
 refine VO.call rfl rfl (fk Tryz.func31) (fun cC er dv=>(dX 3 10 cC (by omega) (by omega) (by omega) (by omega)).mono ?_)
 rintro e w1 ⟨r1,rfl,q1,aV⟩
 obtain ⟨s1,p1,n1,c1,t1,y1,m1,d1,rfl⟩:=q1.form
 refine ⟨_,rfl,aV,fun fe _ bb1=>wV rfl ?_⟩
 (repeat first|refine wN ?_|refine wP rfl ?_|refine aa rfl ?_|refine ab rfl ?_|refine wO rfl rfl ?_)
 refine VO.call rfl rfl (fk Tryz.func31) (fun dC gu eu=>(dX 50 1 dC (by omega) (by omega) (by omega) (by omega)).mono ?_)
 rintro e w2 ⟨r2,rfl,q2,bm⟩
 obtain ⟨s2,p2,n2,c2,t2,y2,m2,d2,rfl⟩:=q2.form
 refine ⟨_,rfl,bm,fun fZ _ bb2=>wV rfl ?_⟩
 (repeat first|refine wN ?_|refine wP rfl ?_|refine aa rfl ?_|refine ab rfl ?_|refine wO rfl rfl ?_)
 refine VS.ret (aL _ _) rfl rfl (fun wz kz bz=> ?_)
 obtain ⟨a1,a2,a3,a4,a5,a6⟩:=(q1.kr (w':=wz)).Jr
 obtain ⟨b1,b2,b3,b4,b5,b6⟩:=(q2.kr (w':=wz)).Jr
 refine ⟨_,rfl,⟨a1,a2,a3,a4,b1,b2,b3,b4,?_,a6,b6⟩,bz⟩
 simp only [List.cons.injEq,and_true] at a5 b5
 obtain ⟨x1,x2,x3,x4⟩:=a5
 obtain ⟨z1,z2,z3,z4⟩:=b5
 rw [x1,x2,x3,x4,z1,z2,z3,z4];rfl
theorem Dt (l:List (Rat×Rat)):ee (l.map fun e=>(na e.1,na e.2))=l:=by
 unfold ee
 rw [List.map_map]
 conv=>rhs;rw [←List.map_id l]
 refine List.map_congr_left fun x _=> ?_
 show ((na x.1).q,(na x.2).q)=x
 rw [nb,nb]
theorem all_crr (l:List (Rat×Rat)):(l.map fun e=>(na e.1,na e.2)).all pP=true:=by
 rw [List.all_eq_true]
 intro x hx
 obtain ⟨e,_,rfl⟩:=List.mem_map.1 hx
 show ((na e.1).ok && (na e.2).ok)=true
 rw [AO,AO];rfl
theorem rul_crr {S F:Rat} {keep:Int} (h0:0≤S) (h1:S≤1) (yd:0≤keep) (Cm:keep≤40):jm (na S) (na F) keep=true:=by
 unfold jm
 rw [AO,AO,nb,decide_eq_true (rX.2 h0),decide_eq_true (jG.2 h1),decide_eq_true yd,decide_eq_true Cm];rfl
theorem xL (v u:Value) (S F:Rat) (kn n:Nat) (l:List (Rat×Rat)) (w:World) (hR:jl w v (na S) (na F) (kn:Int)) (hl:eE (xY 2) 8 w u (l.map fun e=>(na e.1,na e.2))) (hsS:dV S 2) (hsF:dV F 2) (h0:0≤S) (h1:S≤1) (hk:kn≤40) (hn:n≤40) (hlen:l.length≤n) (hS:Lm 3 S) (hF:Lm 3 F) (hL:∀ e∈l,Lm 3 e.1∧Lm 3 e.2) (x:List aN×List Uq) (hx:pL S F kn l=x):
  Calls Tryz.prog 11 #[v,u] w fun o w'=>∃ r u',o=.returned (.tuple #[.agg #[r,u'],.int .i64 0])∧sG w.heap.size w' r u' x∧aj w w':=by
 have hM:=MF hS hF h0 h1 hL hlen (k:=3) (by decide)
 have:=GV v u (na S) (na F) kn (l.map fun e=>(na e.1,na e.2)) 2 (2 * 3 * n + 3 * 3 + 1) _ _ w hR (pB hsS) (pB hsF) hl (by decide) (by omega) (by omega) (rul_crr h0 h1 (by omega) (by omega)) (all_crr l) (by rw [List.length_map];omega) hk (by rw [Dt,nb,nb];exact hM)
 rw [Dt,nb,nb,hx] at this
 exact this
theorem led_x:pL exS exF 2 [((Rat.divInt 200 1),(Rat.divInt 400 1))]=([⟨(Rat.divInt 120 1),(Rat.divInt 120 1),(Rat.divInt 80 1),(Rat.divInt 0 1),(Rat.divInt 120 1),(Rat.divInt 0 1),(Rat.divInt 80 1)⟩],[]):=by decide +kernel
theorem led_y:pL exS exF 2 [((Rat.divInt 200 1),(Rat.divInt 400 1)),((Rat.divInt 20 1),(Rat.divInt 300 1)),((Rat.divInt (-10) 1),(Rat.divInt 0 1))]=([⟨(Rat.divInt 120 1),(Rat.divInt 120 1),(Rat.divInt 80 1),(Rat.divInt 0 1),(Rat.divInt 120 1),(Rat.divInt 0 1),(Rat.divInt 0 1)⟩,⟨(Rat.divInt 90 1),(Rat.divInt 20 1),(Rat.divInt 0 1),(Rat.divInt 70 1),(Rat.divInt 90 1),(Rat.divInt 0 1),(Rat.divInt 0 1)⟩,⟨(Rat.divInt 50 1),(Rat.divInt (-10) 1),(Rat.divInt 0 1),(Rat.divInt 10 1),(Rat.divInt 0 1),(Rat.divInt 0 1),(Rat.divInt 0 1)⟩],[(0,1,(Rat.divInt 70 1)),(0,2,(Rat.divInt 10 1))]):=by decide +kernel
theorem led_z:pL exS exF 2 [((Rat.divInt 200 1),(Rat.divInt 400 1)),((Rat.divInt 100 1),(Rat.divInt 0 1)),((Rat.divInt 300 1),(Rat.divInt 100 1))]=([⟨(Rat.divInt 120 1),(Rat.divInt 120 1),(Rat.divInt 80 1),(Rat.divInt 0 1),(Rat.divInt 120 1),(Rat.divInt 80 1),(Rat.divInt 0 1)⟩,⟨(Rat.divInt 50 1),(Rat.divInt 50 1),(Rat.divInt 50 1),(Rat.divInt 0 1),(Rat.divInt 50 1),(Rat.divInt 0 1),(Rat.divInt 50 1)⟩,⟨(Rat.divInt 50 1),(Rat.divInt 50 1),(Rat.divInt 250 1),(Rat.divInt 0 1),(Rat.divInt 50 1),(Rat.divInt 0 1),(Rat.divInt 250 1)⟩],[]):=by decide +kernel
def aN.gX (r:aN):Nat→Rat
 | 0=>r.eJ
 | 1=>r.allowed
 | 2=>r.bl
 | 3=>r.used
 | 4=>r.bU
 | 5=>r.aZ
 | _=>r.closing
theorem MI {B:Nat} {w:World} {cs:List Value} {r:aN} (h:dG B w cs r) (f:Nat) (hf:f≤6):∃ a pre post,cs=pre++(a++post)∧pre.length=4 * f∧R4 B w a (r.gX f):=by
 obtain ⟨a,b,c,d,e,g,i,rfl,h1,h2,h3,h4,h5,h6,h7⟩:=h
 have l1:=h1.len
 have l2:=h2.len
 have l3:=h3.len
 have l4:=h4.len
 have l5:=h5.len
 have l6:=h6.len
 match f,hf with
 | 0,_=>exact ⟨a,[],_,rfl,rfl,h1⟩
 | 1,_=>exact ⟨b,a,_,rfl,l1,h2⟩
 | 2,_=>exact ⟨c,a++b,_,by rw [List.append_assoc],by simp [l1,l2],h3⟩
 | 3,_=>exact ⟨d,a++(b++c),e++(g++i),by simp only [List.append_assoc],by simp [l1,l2,l3],h4⟩
 | 4,_=>exact ⟨e,a++(b++(c++d)),g++i,by simp only [List.append_assoc],by simp [l1,l2,l3,l4],h5⟩
 | 5,_=>exact ⟨g,a++(b++(c++(d++e))),i,by simp only [List.append_assoc],by simp [l1,l2,l3,l4,l5],h6⟩
 | 6,_=>exact ⟨i,a++(b++(c++(d++(e++g)))),[],by simp only [List.append_assoc,List.append_nil],by simp [l1,l2,l3,l4,l5,l6],h7⟩
theorem Du {α:Type} {E:World→List Value→α→Prop} {sz:Nat} (hE:lB E sz) {t:TypeId} {w:World} {b n c i:Nat} {vs:List (List Value)} {sp:List Value} {es:List α} {x:α} (hc:aW w b t (vs.flatten++sp).toArray) (h:cY E sz w n 0 c [] vs sp es) (hx:es[i]? =some x):
  ∃ cs,E w cs x∧∀ (pre a post:List Value),cs=pre++(a++post)→∀ off,off=i * sz + pre.length→∀ (j:Nat) (u:Value),a[j]? =some u→w.cell? ((⟨b,off,none⟩:Addr).add j)=some u:=by
 obtain ⟨cs,hcs,hEx⟩:=h.el.at i x hx
 refine ⟨cs,hEx,fun pre a post hsp off hoff j u hj=> ?_⟩
 rw [Addr.add_mid]
 refine hc.cell ?_
 have js:cs.length=sz:=hE.len hEx
 have hjl:=(List.getElem?_eq_some_iff.1 hj).1
 obtain ⟨hlt,hxx⟩:=List.getElem?_eq_some_iff.1 hcs
 have yo:vs=vs.take i++cs::vs.drop (i + 1):=by rw [←hxx,←List.drop_eq_getElem_cons hlt,List.take_append_drop]
 have hal:(vs.take i).flatten.length=i * sz:=by
  rw [cW (fun y hy=>h.el.lens hE y (List.mem_of_mem_take hy)),List.length_take,Nat.min_eq_left (by omega)]
 rw [List.getElem?_toArray,yo,List.flatten_append,List.append_assoc,List.getElem?_append_right (by omega),hal,List.flatten_cons,List.append_assoc,hsp,hoff,show i * sz + pre.length + j - i * sz=pre.length + j by omega,List.append_assoc,List.getElem?_append_right (by omega),Nat.add_sub_cancel_left,List.append_assoc,List.getElem?_append_left hjl]
 exact hj
theorem pC {B:Nat} {w:World} {b n c i:Nat} {vs:List (List Value)} {sp:List Value} {es:List aN} {x:aN} (f:Nat) (hf:f≤6) (hc:aW w b dT (vs.flatten++sp).toArray) (h:cY (dG B) 28 w n 0 c [] vs sp es) (hx:es[i]? =some x):
  ∃ s p a k t y m d,aK w B (.agg #[.bool s,.slice p a k,.bool t,.slice y m d]) (x.gX f)∧∀ off,off=i * 28 + 4 * f→∀ (j:Nat) (u:Value),([.bool s,.slice p a k,.bool t,.slice y m d]:List Value)[j]? =some u→w.cell? ((⟨b,off,none⟩:Addr).add j)=some u:=by
 obtain ⟨cs,hE,hcs⟩:=Du (az B) hc h hx
 obtain ⟨a,pre,post,e,hl,s,p,n',c',t,y,m,d,rfl,hq⟩:=MI hE f hf
 exact ⟨s,p,n',c',t,y,m,d,hq,fun off ho=>hcs pre _ post e off (by rw [hl];exact ho)⟩
theorem GY {B:Nat} {w:World} {b n c i:Nat} {vs:List (List Value)} {sp:List Value} {es:List Uq} {x:Uq} (hc:aW w b et (vs.flatten++sp).toArray) (h:cY (np B) 6 w n 0 c [] vs sp es) (hx:es[i]? =some x):
  ∃ s p a k t y m d,aK w B (.agg #[.bool s,.slice p a k,.bool t,.slice y m d]) x.2.2∧(∀ off,off=i * 6 + 2→∀ (j:Nat) (u:Value),([.bool s,.slice p a k,.bool t,.slice y m d]:List Value)[j]? =some u→w.cell? ((⟨b,off,none⟩:Addr).add j)=some u)∧
    (∀ off,off=i * 6 + 1→∀ (j:Nat) (u:Value),([.int .i64 (x.2.1:Int)]:List Value)[j]? =some u→w.cell? ((⟨b,off,none⟩:Addr).add j)=some u)∧(∀ off,off=i * 6→∀ (j:Nat) (u:Value),([.int .i64 (x.1:Int)]:List Value)[j]? =some u→w.cell? ((⟨b,off,none⟩:Addr).add j)=some u)∧
    (∀ off,off=i * 6→∀ (j:Nat) (u:Value),([.int .i64 (x.1:Int),.int .i64 (x.2.1:Int),.bool s,.slice p a k,.bool t,.slice y m d]:List Value)[j]? =some u→w.cell? ((⟨b,off,none⟩:Addr).add j)=some u):=by
 obtain ⟨cs,hE,hcs⟩:=Du (dm B) hc h hx
 obtain ⟨s,p,n',c',t,y,m,d,rfl,hq⟩:=hE
 exact ⟨s,p,n',c',t,y,m,d,hq,fun off ho=>hcs [.int .i64 (x.1:Int),.int .i64 (x.2.1:Int)] _ [] rfl off ho,fun off ho=>hcs [.int .i64 (x.1:Int)] [.int .i64 (x.2.1:Int)] [.bool s,.slice p n' c',.bool t,.slice y m d] rfl off ho,fun off ho=>hcs [] [.int .i64 (x.1:Int)] [.int .i64 (x.2.1:Int),.bool s,.slice p n' c',.bool t,.slice y m d] rfl off ho,fun off ho=>hcs [] _ [] rfl off ho⟩
end Go.Proofs.YtabalinjfgcfeaaGreat
set_option maxRecDepth 4000
namespace Go.Proofs.YtabalinjfgcfeaaGreat
open Go.RowKit
attribute [local irreducible] aB VS
set_option maxRecDepth 4000 in
set_option maxHeartbeats 8000000 in
theorem oL (w:World):Calls Tryz.prog 9 #[] w fun o w'=>o=.returned (.bool true)∧aj w w':=by
 have hsS:dV exS 2:=Am (by decide) (by decide) (by decide) (by decide)
 have hsF:dV exF 2:=Am (by decide) (by decide) (by decide) (by decide)
 have hS3:Lm 3 exS:=by unfold Lm;decide +kernel
 have hF3:Lm 3 exF:=by unfold Lm;decide +kernel
 refine aw (C:=Jq Tryz.prog w _) (args:=[]) Tryz.func9 rfl Tryz.ntmps9 (Nat.le_of_ble_eq_true rfl) ?_
 (repeat first|refine wN ?_|refine wP rfl ?_|refine gf rfl ?_|refine gA rfl ?_|refine wO rfl rfl ?_)
 refine VO.call rfl rfl (fk Tryz.func33) (fun cC er dv=>(lE cC).mono ?_)
 rintro e w1 ⟨r1,rfl,q1,aV⟩
 skip
 refine ⟨_,rfl,aV,fun fe _ bb1=>wV rfl ?_⟩
 (repeat first|refine wN ?_|refine wP rfl ?_|refine gf rfl ?_|refine gA rfl ?_|refine wO rfl rfl ?_)
 refine VO.call rfl rfl (fk Tryz.func32) (fun dC gu eu=>(gK 200 400 dC (by omega) (by omega) (by omega) (by omega)).mono ?_)
 rintro e w2 ⟨r2,rfl,⟨s2,p2,n2,c2,t2,y2,m2,d2,e2,f2,g2,h2,i2,j2,k2,l2,rfl,q2⟩,bm⟩
 skip
 refine ⟨_,rfl,bm,fun fZ _ bb2=>wV rfl ?_⟩
 (repeat first|refine wN ?_|refine wP rfl ?_|refine gf rfl ?_|refine gA rfl ?_|refine wO rfl rfl ?_)
 refine VO.fI rfl (fk Tryz.func11) (fun gv β gY gV ho=>((xL _ _ exS exF 2 1 [((Rat.divInt 200 1),(Rat.divInt 400 1))] gv (q1.kp kL) (mI (fP 2) (ho.own 11 (.base (List.mem_singleton.2 rfl)) _ _ rfl) [] (vs:=[[.bool s2,.slice p2 n2 c2,.bool t2,.slice y2 m2 d2,.bool e2,.slice f2 g2 h2,.bool i2,.slice j2 k2 l2]]) (by rfl) (cM.cons ((fP 2).kp q2 kL) (cM.nil)) rfl (Nat.le_of_ble_eq_true rfl) (by decide)) hsS hsF (by decide +kernel) (by decide +kernel) (by decide) (by decide) (by decide) hS3 hF3 (by decide +kernel) _ led_x).mono (fun o w2 h=>And.intro h gV.size)).mono ?_)
 rintro o w3 ⟨⟨r3,u3,rfl,l3,cD⟩,xH⟩
 obtain ⟨pr3,cr3,pu3,cu3,rfl,rfl⟩:=l3.form
 refine ⟨_,rfl,cD,fun kt _ bb3=>wV rfl ?_⟩
 (repeat first|refine wN ?_|refine wP rfl ?_|refine gf rfl ?_|refine gA rfl ?_|refine wO rfl rfl ?_)
 refine VO.call rfl rfl (fk Tryz.func33) (fun nj qa qF=>(lE nj).mono ?_)
 rintro e w4 ⟨r4,rfl,q4,gU⟩
 skip
 refine ⟨_,rfl,gU,fun pd _ AZ=>wV rfl ?_⟩
 (repeat first|refine wN ?_|refine wP rfl ?_|refine gf rfl ?_|refine gA rfl ?_|refine wO rfl rfl ?_)
 refine VO.call rfl rfl (fk Tryz.func32) (fun kg mG ku=>(gK 200 400 kg (by omega) (by omega) (by omega) (by omega)).mono ?_)
 rintro e w5 ⟨r5,rfl,⟨s5,p5,n5,c5,t5,y5,m5,d5,e5,f5,g5,h5,i5,j5,k5,l5,rfl,q5⟩,gi⟩
 skip
 refine ⟨_,rfl,gi,fun nk _ xf=>wV rfl ?_⟩
 (repeat first|refine wN ?_|refine wP rfl ?_|refine gf rfl ?_|refine gA rfl ?_|refine wO rfl rfl ?_)
 refine VO.call rfl rfl (fk Tryz.func32) (fun pK ux tw=>(gK 20 300 pK (by omega) (by omega) (by omega) (by omega)).mono ?_)
 rintro e w6 ⟨r6,rfl,⟨s6,p6,n6,c6,t6,y6,m6,d6,e6,f6,g6,h6,i6,j6,k6,l6,rfl,q6⟩,mX⟩
 skip
 refine ⟨_,rfl,mX,fun tx _ CR=>wV rfl ?_⟩
 (repeat first|refine wN ?_|refine wP rfl ?_|refine gf rfl ?_|refine gA rfl ?_|refine wO rfl rfl ?_)
 refine VO.call rfl rfl (fk Tryz.func32) (fun yn DX xX=>(gK (-10) 0 yn (by omega) (by omega) (by omega) (by omega)).mono ?_)
 rintro e w7 ⟨r7,rfl,⟨s7,p7,n7,c7,t7,y7,m7,d7,e7,f7,g7,h7,i7,j7,k7,l7,rfl,q7⟩,uO⟩
 skip
 refine ⟨_,rfl,uO,fun zj _ bb7=>wV rfl ?_⟩
 (repeat first|refine wN ?_|refine wP rfl ?_|refine gf rfl ?_|refine gA rfl ?_|refine wO rfl rfl ?_)
 refine VO.fI rfl (fk Tryz.func11) (fun uQ β Fg zl ho=>((xL _ _ exS exF 2 3 [((Rat.divInt 200 1),(Rat.divInt 400 1)),((Rat.divInt 20 1),(Rat.divInt 300 1)),((Rat.divInt (-10) 1),(Rat.divInt 0 1))] uQ (q4.kp kL) (mI (fP 2) (ho.own 20 (.base (List.mem_singleton.2 rfl)) _ _ rfl) [] (vs:=[[.bool s5,.slice p5 n5 c5,.bool t5,.slice y5 m5 d5,.bool e5,.slice f5 g5 h5,.bool i5,.slice j5 k5 l5],[.bool s6,.slice p6 n6 c6,.bool t6,.slice y6 m6 d6,.bool e6,.slice f6 g6 h6,.bool i6,.slice j6 k6 l6],[.bool s7,.slice p7 n7 c7,.bool t7,.slice y7 m7 d7,.bool e7,.slice f7 g7 h7,.bool i7,.slice j7 k7 l7]]) (by rfl) (cM.cons ((fP 2).kp q5 kL) (cM.cons ((fP 2).kp q6 kL) (cM.cons ((fP 2).kp q7 kL) (cM.nil)))) rfl (Nat.le_of_ble_eq_true rfl) (by decide)) hsS hsF (by decide +kernel) (by decide +kernel) (by decide) (by decide) (by decide) hS3 hF3 (by decide +kernel) _ led_y).mono (fun o w2 h=>And.intro h zl.size)).mono ?_)
 rintro o w8 ⟨⟨r8,u8,rfl,l8,qU⟩,yt⟩
 obtain ⟨pr8,cr8,pu8,cu8,rfl,rfl⟩:=l8.form
 refine ⟨_,rfl,qU,fun vH _ JL=>wV rfl ?_⟩
 (repeat first|refine wN ?_|refine wP rfl ?_|refine gf rfl ?_|refine gA rfl ?_|refine wO rfl rfl ?_)
 refine VO.call rfl rfl (fk Tryz.func33) (fun wa9 ka9 ba9=>(lE wa9).mono ?_)
 rintro e w9 ⟨r9,rfl,q9,Gf⟩
 skip
 refine ⟨_,rfl,Gf,fun Ba _ bb9=>wV rfl ?_⟩
 (repeat first|refine wN ?_|refine wP rfl ?_|refine gf rfl ?_|refine gA rfl ?_|refine wO rfl rfl ?_)
 refine VO.call rfl rfl (fk Tryz.func32) (fun tz xl Fh=>(gK 200 400 tz (by omega) (by omega) (by omega) (by omega)).mono ?_)
 rintro e w10 ⟨r10,rfl,⟨s10,p10,n10,c10,t10,y10,m10,d10,e10,f10,g10,h10,i10,j10,Jh,l10,rfl,q10⟩,tA⟩
 skip
 refine ⟨_,rfl,tA,fun iE _ II=>wV rfl ?_⟩
 (repeat first|refine wN ?_|refine wP rfl ?_|refine gf rfl ?_|refine gA rfl ?_|refine wO rfl rfl ?_)
 refine VO.call rfl rfl (fk Tryz.func32) (fun xm Ah IJ=>(gK 100 0 xm (by omega) (by omega) (by omega) (by omega)).mono ?_)
 rintro e w11 ⟨r11,rfl,⟨s11,p11,n11,c11,t11,y11,m11,d11,e11,f11,g11,h11,i11,j11,k11,l11,rfl,q11⟩,xn⟩
 skip
 refine ⟨_,rfl,xn,fun lz _ LH=>wV rfl ?_⟩
 (repeat first|refine wN ?_|refine wP rfl ?_|refine gf rfl ?_|refine gA rfl ?_|refine wO rfl rfl ?_)
 refine VO.call rfl rfl (fk Tryz.func32) (fun xo Ai IK=>(gK 300 100 xo (by omega) (by omega) (by omega) (by omega)).mono ?_)
 rintro e w12 ⟨r12,rfl,⟨s12,p12,n12,c12,t12,y12,m12,d12,e12,f12,g12,Ae,i12,j12,k12,l12,rfl,q12⟩,xp⟩
 skip
 refine ⟨_,rfl,xp,fun oC _ LI=>wV rfl ?_⟩
 (repeat first|refine wN ?_|refine wP rfl ?_|refine gf rfl ?_|refine gA rfl ?_|refine wO rfl rfl ?_)
 refine VO.fI rfl (fk Tryz.func11) (fun Fi β ka13 IL ho=>((xL _ _ exS exF 2 3 [((Rat.divInt 200 1),(Rat.divInt 400 1)),((Rat.divInt 100 1),(Rat.divInt 0 1)),((Rat.divInt 300 1),(Rat.divInt 100 1))] Fi (q9.kp kL) (mI (fP 2) (ho.own 29 (.base (List.mem_singleton.2 rfl)) _ _ rfl) [] (vs:=[[.bool s10,.slice p10 n10 c10,.bool t10,.slice y10 m10 d10,.bool e10,.slice f10 g10 h10,.bool i10,.slice j10 Jh l10],[.bool s11,.slice p11 n11 c11,.bool t11,.slice y11 m11 d11,.bool e11,.slice f11 g11 h11,.bool i11,.slice j11 k11 l11],[.bool s12,.slice p12 n12 c12,.bool t12,.slice y12 m12 d12,.bool e12,.slice f12 g12 Ae,.bool i12,.slice j12 k12 l12]]) (by rfl) (cM.cons ((fP 2).kp q10 kL) (cM.cons ((fP 2).kp q11 kL) (cM.cons ((fP 2).kp q12 kL) (cM.nil)))) rfl (Nat.le_of_ble_eq_true rfl) (by decide)) hsS hsF (by decide +kernel) (by decide +kernel) (by decide) (by decide) (by decide) hS3 hF3 (by decide +kernel) _ led_z).mono (fun o w2 h=>And.intro h IL.size)).mono ?_)
 rintro o nD ⟨⟨r13,u13,rfl,l13,Fj⟩,hsz13⟩
 obtain ⟨pr13,cr13,pu13,cu13,rfl,rfl⟩:=l13.form
 refine ⟨_,rfl,Fj,fun xq _ bb13=>wV rfl ?_⟩
 (repeat (first | refine wN ?_ | refine wP rfl ?_ | refine wO rfl rfl ?_))
 refine VS.sD (KU UU) (fun t=>Nat.beq t 22) table (fun _ _ _=>trivial) (fun Fk β k14 b14 en=> ?_)
 have o1:=en.own 1 _ _ rfl
 have o3:=en.own 3 _ _ rfl
 have o5:=en.own 5 _ _ rfl
 have h13:β 1≠β 3:=fun e=>absurd (en.apart 1 3 (by intro h;cases h) (by intro h;cases h) e) (by decide)
 have h15:β 1≠β 5:=fun e=>absurd (en.apart 1 5 (by intro h;cases h) (by intro h;cases h) e) (by decide)
 have h35:β 3≠β 5:=fun e=>absurd (en.apart 3 5 (by intro h;cases h) (by intro h;cases h) e) (by decide)
 have kk3:aE (Jq Tryz.prog w 161).K w3 Fk:=((((((((((pd).aJ nk).aJ tx).aJ zj).aJ vH).aJ Ba).aJ iE).aJ lz).aJ oC).aJ xq).aJ k14
 have l3':=l3.kpF (AM w 161) kk3 kk3.yh
 have kk8:aE (Jq Tryz.prog w 161).K w8 Fk:=(((((Ba).aJ iE).aJ lz).aJ oC).aJ xq).aJ k14
 have l8':=l8.kpF (AM w 161) kk8 kk8.yh
 have kk13:aE (Jq Tryz.prog w 161).K nD Fk:=k14
 have l13':=l13.kpF (AM w 161) kk13 kk13.yh
 have pM:iG (KU UU) 161 [β 1,β 3,β 5] [(nx,[.val (.slice pr3 1 cr3),.val (.slice pu3 0 cu3)]),(nx,[.val (.slice pr8 3 cr8),.val (.slice pu8 2 cu8)]),(nx,[.val (.slice pr13 3 cr13),.val (.slice pu13 0 cu13)])] Fk:=by
  refine ⟨rfl,by simp [h13,h15,h35],fun j g' c' hj hc=> ?_,fun c' hc=> ?_,fun c' hc k hk=> ?_⟩
  ·match j,hj,hc with
   | 0,hj,hc=>cases hj;cases hc;exact o1.cls
   | 1,hj,hc=>cases hj;cases hc;exact o3.cls
   | 2,hj,hc=>cases hj;cases hc;exact o5.cls
   | j + 3,hj,_=>simp at hj
  ·simp only [List.mem_cons,List.not_mem_nil,or_false] at hc
   rcases hc with rfl | rfl | rfl <;> exact ⟨rfl,rfl⟩
  ·simp only [List.mem_cons,List.not_mem_nil,or_false] at hc
   rcases hc with rfl | rfl | rfl <;> cases hk
 have g1:=o1.cls
 have g3:=o3.cls
 have g5:=o5.cls
 refine ⟨[β 1,β 3,β 5],_,pM,[(0,.val (.bool false)),(1,.box 322 0),(2,.val (.int .i64 0)),(3,.box 323 0),(4,.val (.int .i64 0)),(5,.box 324 0),(6,.val (.int .i64 0))],⟨⟨_,rfl,rfl,fun i hi=>(by cases hi)⟩,⟨_,rfl,rfl,fun i hi=>by rw [(by simpa [AV.ids] using hi:i=322)];exact ⟨(by show 322≤322;omega),(by show 322 < 2 * 161 + 3;omega)⟩⟩,⟨_,rfl,rfl,fun i hi=>(by cases hi)⟩,⟨_,rfl,rfl,fun i hi=>by rw [(by simpa [AV.ids] using hi:i=323)];exact ⟨(by show 322≤323;omega),(by show 323 < 2 * 161 + 3;omega)⟩⟩,⟨_,rfl,rfl,fun i hi=>(by cases hi)⟩,⟨_,rfl,rfl,fun i hi=>by rw [(by simpa [AV.ids] using hi:i=324)];exact ⟨(by show 322≤324;omega),(by show 324 < 2 * 161 + 3;omega)⟩⟩,⟨_,rfl,rfl,fun i hi=>(by cases hi)⟩,trivial⟩,?_⟩
 obtain ⟨rb3,hB3,nn3,cc3,GR,GS,e3',uV,hor3⟩:=l3'.1.resolve_left (fun h=>by cases h.2)
 simp only [Value.slice.injEq] at e3'
 obtain ⟨rfl,rfl,rfl⟩:=e3'
 obtain ⟨rb13,hB13,nn13,cc13,vs13,sp13,e13',nc,MJ⟩:=l13'.1.resolve_left (fun h=>by cases h.2)
 simp only [Value.slice.injEq] at e13'
 obtain ⟨rfl,rfl,rfl⟩:=e13'
 obtain ⟨rb8,hB8,nn8,cc8,vs8,sp8,e8',uW,hor8⟩:=l8'.2.resolve_left (fun h=>by cases h.2)
 simp only [Value.slice.injEq] at e8'
 obtain ⟨rfl,rfl,rfl⟩:=e8'
 have hn3:rb3∉[β 1,β 3,β 5]:=fun hm=>by
  simp only [List.mem_cons,List.not_mem_nil,or_false] at hm
  rcases hm with h | h | h
  ·rw [h] at uV;exact absurd (bo uV g1) (by decide)
  ·rw [h] at uV;exact absurd (bo uV g3) (by decide)
  ·rw [h] at uV;exact absurd (bo uV g5) (by decide)
 have hn8:rb8∉[β 1,β 3,β 5]:=fun hm=>by
  simp only [List.mem_cons,List.not_mem_nil,or_false] at hm
  rcases hm with h | h | h
  ·rw [h] at uW;exact absurd (bo uW g1) (by decide)
  ·rw [h] at uW;exact absurd (bo uW g3) (by decide)
  ·rw [h] at uW;exact absurd (bo uW g5) (by decide)
 have hn13:rb13∉[β 1,β 3,β 5]:=fun hm=>by
  simp only [List.mem_cons,List.not_mem_nil,or_false] at hm
  rcases hm with h | h | h
  ·rw [h] at nc;exact absurd (bo nc g1) (by decide)
  ·rw [h] at nc;exact absurd (bo nc g3) (by decide)
  ·rw [h] at nc;exact absurd (bo nc g5) (by decide)
 obtain ⟨s20,p20,n20,c20,t20,y20,m20,d20,hq20,hc20⟩:=pC 0 (by decide) uV hor3 (i:=0) rfl
 obtain ⟨s21,p21,n21,c21,t21,y21,m21,d21,hq21,hc21⟩:=pC 2 (by decide) uV hor3 (i:=0) rfl
 obtain ⟨s22,p22,n22,c22,t22,y22,m22,d22,hq22,hc22⟩:=pC 6 (by decide) uV hor3 (i:=0) rfl
 obtain ⟨s25,p25,n25,c25,t25,y25,m25,d25,hq25,hc25⟩:=pC 5 (by decide) nc MJ (i:=0) rfl
 obtain ⟨s26,p26,n26,c26,t26,y26,m26,d26,hq26,hc26⟩:=pC 6 (by decide) nc MJ (i:=1) rfl
 obtain ⟨s27,p27,n27,c27,t27,y27,m27,d27,hq27,hc27⟩:=pC 6 (by decide) nc MJ (i:=2) rfl
 obtain ⟨s23,p23,n23,c23,t23,y23,m23,d23,hq23,hc23,hy23,-⟩:=GY uW hor8 (i:=0) rfl
 obtain ⟨s24,p24,n24,c24,t24,y24,m24,d24,hq24,hc24,hy24,-⟩:=GY uW hor8 (i:=1) rfl
 (repeat first|refine wN ?_|refine wP rfl ?_|refine af rfl ?_|refine ag rfl ?_|refine wO rfl rfl ?_)
 refine VO.cond rfl ⟨by decide,by decide⟩ (wV rfl ?_)
 (repeat first|refine wN ?_|refine wP rfl ?_|refine af rfl ?_|refine ag rfl ?_|refine wO rfl rfl ?_)
 refine VO.jt rfl [.bool s20,.slice p20 n20 c20,.bool t20,.slice y20 m20 d20] rfl (mZ uV.lt hn3 (hc20 _ rfl)) (wV rfl ?_)
 (repeat first|refine wN ?_|refine wP rfl ?_|refine af rfl ?_|refine ag rfl ?_|refine wO rfl rfl ?_)
 refine VO.call rfl rfl (fk Tryz.func31) (fun wa40 ka40 ba40=>(dX 120 1 wa40 (by omega) (by omega) (by omega) (by omega)).mono ?_)
 rintro e w40 ⟨r40,rfl,q40,hb40⟩
 obtain ⟨s40,p40,n40,c40,t40,y40,m40,d40,rfl⟩:=q40.form
 refine ⟨_,rfl,hb40,fun kb40 _ bb40=>wV rfl ?_⟩
 (repeat first|refine wN ?_|refine wP rfl ?_|refine af rfl ?_|refine ag rfl ?_|refine wO rfl rfl ?_)
 refine VO.call rfl rfl (fk Tryz.func12) (fun wa41 ka41 ba41=>(dL _ _ (Rat.divInt 120 1) (Rat.divInt 120 1) 2 2 wa41 ((show aK Fk _ _ (Rat.divInt 120 1) from hq20).ki (ny 120 (by omega) (by omega))) (q40.ki (ny 120 (by omega) (by omega))) (by omega) (by omega) 0 (gD rfl)).mono ?_)
 rintro e w41 ⟨rfl,hb41⟩
 refine ⟨_,rfl,hb41,fun kb41 _ bb41=>wV rfl ?_⟩
 (repeat first|refine wN ?_|refine wP rfl ?_|refine af rfl ?_|refine ag rfl ?_|refine wO rfl rfl ?_)
 refine VO.cond rfl ⟨by decide,by decide⟩ (wV rfl ?_)
 (repeat first|refine wN ?_|refine wP rfl ?_|refine af rfl ?_|refine ag rfl ?_|refine wO rfl rfl ?_)
 refine VO.jt rfl [.bool s21,.slice p21 n21 c21,.bool t21,.slice y21 m21 d21] rfl (mZ uV.lt hn3 (hc21 _ rfl)) (wV rfl ?_)
 (repeat first|refine wN ?_|refine wP rfl ?_|refine af rfl ?_|refine ag rfl ?_|refine wO rfl rfl ?_)
 refine VO.call rfl rfl (fk Tryz.func31) (fun wa42 ka42 ba42=>(dX 80 1 wa42 (by omega) (by omega) (by omega) (by omega)).mono ?_)
 rintro e w42 ⟨r42,rfl,q42,hb42⟩
 obtain ⟨s42,p42,n42,c42,t42,y42,m42,d42,rfl⟩:=q42.form
 refine ⟨_,rfl,hb42,fun kb42 _ bb42=>wV rfl ?_⟩
 (repeat first|refine wN ?_|refine wP rfl ?_|refine af rfl ?_|refine ag rfl ?_|refine wO rfl rfl ?_)
 refine VO.call rfl rfl (fk Tryz.func12) (fun wa43 ka43 ba43=>(dL _ _ (Rat.divInt 80 1) (Rat.divInt 80 1) 2 2 wa43 ((show aK Fk _ _ (Rat.divInt 80 1) from hq21).ki (ny 80 (by omega) (by omega))) (q42.ki (ny 80 (by omega) (by omega))) (by omega) (by omega) 0 (gD rfl)).mono ?_)
 rintro e w43 ⟨rfl,hb43⟩
 refine ⟨_,rfl,hb43,fun kb43 _ bb43=>wV rfl ?_⟩
 (repeat first|refine wN ?_|refine wP rfl ?_|refine af rfl ?_|refine ag rfl ?_|refine wO rfl rfl ?_)
 refine VO.cond rfl ⟨by decide,by decide⟩ (wV rfl ?_)
 (repeat first|refine wN ?_|refine wP rfl ?_|refine af rfl ?_|refine ag rfl ?_|refine wO rfl rfl ?_)
 refine VO.jt rfl [.bool s22,.slice p22 n22 c22,.bool t22,.slice y22 m22 d22] rfl (mZ uV.lt hn3 (hc22 _ rfl)) (wV rfl ?_)
 (repeat first|refine wN ?_|refine wP rfl ?_|refine af rfl ?_|refine ag rfl ?_|refine wO rfl rfl ?_)
 refine VO.call rfl rfl (fk Tryz.func31) (fun wa44 ka44 ba44=>(dX 80 1 wa44 (by omega) (by omega) (by omega) (by omega)).mono ?_)
 rintro e w44 ⟨r44,rfl,q44,hb44⟩
 obtain ⟨s44,p44,n44,c44,t44,y44,m44,d44,rfl⟩:=q44.form
 refine ⟨_,rfl,hb44,fun kb44 _ bb44=>wV rfl ?_⟩
 (repeat first|refine wN ?_|refine wP rfl ?_|refine af rfl ?_|refine ag rfl ?_|refine wO rfl rfl ?_)
 refine VO.call rfl rfl (fk Tryz.func12) (fun wa45 ka45 ba45=>(dL _ _ (Rat.divInt 80 1) (Rat.divInt 80 1) 2 2 wa45 ((show aK Fk _ _ (Rat.divInt 80 1) from hq22).ki (ny 80 (by omega) (by omega))) (q44.ki (ny 80 (by omega) (by omega))) (by omega) (by omega) 0 (gD rfl)).mono ?_)
 rintro e w45 ⟨rfl,hb45⟩
 refine ⟨_,rfl,hb45,fun kb45 _ bb45=>wV rfl ?_⟩
 (repeat first|refine wN ?_|refine wP rfl ?_|refine af rfl ?_|refine ag rfl ?_|refine wO rfl rfl ?_)
 refine VO.cond rfl ⟨by decide,by decide⟩ (wV rfl ?_)
 (repeat first|refine wN ?_|refine wP rfl ?_|refine af rfl ?_|refine ag rfl ?_|refine wO rfl rfl ?_)
 refine VO.jt rfl [.bool s23,.slice p23 n23 c23,.bool t23,.slice y23 m23 d23] rfl (mZ uW.lt hn8 (hc23 _ rfl)) (wV rfl ?_)
 (repeat first|refine wN ?_|refine wP rfl ?_|refine af rfl ?_|refine ag rfl ?_|refine wO rfl rfl ?_)
 refine VO.call rfl rfl (fk Tryz.func31) (fun wa46 ka46 ba46=>(dX 70 1 wa46 (by omega) (by omega) (by omega) (by omega)).mono ?_)
 rintro e w46 ⟨r46,rfl,q46,hb46⟩
 obtain ⟨s46,p46,n46,c46,t46,y46,m46,d46,rfl⟩:=q46.form
 refine ⟨_,rfl,hb46,fun kb46 _ bb46=>wV rfl ?_⟩
 (repeat first|refine wN ?_|refine wP rfl ?_|refine af rfl ?_|refine ag rfl ?_|refine wO rfl rfl ?_)
 refine VO.call rfl rfl (fk Tryz.func12) (fun wa47 ka47 ba47=>(dL _ _ (Rat.divInt 70 1) (Rat.divInt 70 1) 2 2 wa47 ((show aK Fk _ _ (Rat.divInt 70 1) from hq23).ki (ny 70 (by omega) (by omega))) (q46.ki (ny 70 (by omega) (by omega))) (by omega) (by omega) 0 (gD rfl)).mono ?_)
 rintro e w47 ⟨rfl,hb47⟩
 refine ⟨_,rfl,hb47,fun kb47 _ bb47=>wV rfl ?_⟩
 (repeat first|refine wN ?_|refine wP rfl ?_|refine af rfl ?_|refine ag rfl ?_|refine wO rfl rfl ?_)
 refine VO.cond rfl ⟨by decide,by decide⟩ (wV rfl ?_)
 (repeat first|refine wN ?_|refine wP rfl ?_|refine af rfl ?_|refine ag rfl ?_|refine wO rfl rfl ?_)
 refine VO.jt rfl [.int .i64 ((1:Nat):Int)] rfl (mZ uW.lt hn8 (hy23 _ rfl)) (wV rfl ?_)
 (repeat first|refine wN ?_|refine wP rfl ?_|refine af rfl ?_|refine ag rfl ?_|refine wO rfl rfl ?_)
 refine VO.cond rfl ⟨by decide,by decide⟩ (wV rfl ?_)
 (repeat first|refine wN ?_|refine wP rfl ?_|refine af rfl ?_|refine ag rfl ?_|refine wO rfl rfl ?_)
 refine VO.jt rfl [.bool s24,.slice p24 n24 c24,.bool t24,.slice y24 m24 d24] rfl (mZ uW.lt hn8 (hc24 _ rfl)) (wV rfl ?_)
 (repeat first|refine wN ?_|refine wP rfl ?_|refine af rfl ?_|refine ag rfl ?_|refine wO rfl rfl ?_)
 refine VO.call rfl rfl (fk Tryz.func31) (fun wa48 ka48 ba48=>(dX 10 1 wa48 (by omega) (by omega) (by omega) (by omega)).mono ?_)
 rintro e w48 ⟨r48,rfl,q48,hb48⟩
 obtain ⟨s48,p48,n48,c48,t48,y48,m48,d48,rfl⟩:=q48.form
 refine ⟨_,rfl,hb48,fun kb48 _ bb48=>wV rfl ?_⟩
 (repeat first|refine wN ?_|refine wP rfl ?_|refine af rfl ?_|refine ag rfl ?_|refine wO rfl rfl ?_)
 refine VO.call rfl rfl (fk Tryz.func12) (fun wa49 ka49 ba49=>(dL _ _ (Rat.divInt 10 1) (Rat.divInt 10 1) 2 2 wa49 ((show aK Fk _ _ (Rat.divInt 10 1) from hq24).ki (ny 10 (by omega) (by omega))) (q48.ki (ny 10 (by omega) (by omega))) (by omega) (by omega) 0 (gD rfl)).mono ?_)
 rintro e w49 ⟨rfl,hb49⟩
 refine ⟨_,rfl,hb49,fun kb49 _ bb49=>wV rfl ?_⟩
 (repeat first|refine wN ?_|refine wP rfl ?_|refine af rfl ?_|refine ag rfl ?_|refine wO rfl rfl ?_)
 refine VO.cond rfl ⟨by decide,by decide⟩ (wV rfl ?_)
 (repeat first|refine wN ?_|refine wP rfl ?_|refine af rfl ?_|refine ag rfl ?_|refine wO rfl rfl ?_)
 refine VO.jt rfl [.int .i64 ((2:Nat):Int)] rfl (mZ uW.lt hn8 (hy24 _ rfl)) (wV rfl ?_)
 (repeat first|refine wN ?_|refine wP rfl ?_|refine af rfl ?_|refine ag rfl ?_|refine wO rfl rfl ?_)
 refine VO.cond rfl ⟨by decide,by decide⟩ (wV rfl ?_)
 (repeat first|refine wN ?_|refine wP rfl ?_|refine af rfl ?_|refine ag rfl ?_|refine wO rfl rfl ?_)
 refine VO.jt rfl [.bool s25,.slice p25 n25 c25,.bool t25,.slice y25 m25 d25] rfl (mZ nc.lt hn13 (hc25 _ rfl)) (wV rfl ?_)
 (repeat first|refine wN ?_|refine wP rfl ?_|refine af rfl ?_|refine ag rfl ?_|refine wO rfl rfl ?_)
 refine VO.call rfl rfl (fk Tryz.func31) (fun wa50 ka50 ba50=>(dX 80 1 wa50 (by omega) (by omega) (by omega) (by omega)).mono ?_)
 rintro e w50 ⟨r50,rfl,q50,hb50⟩
 obtain ⟨s50,p50,n50,c50,t50,y50,m50,d50,rfl⟩:=q50.form
 refine ⟨_,rfl,hb50,fun kb50 _ bb50=>wV rfl ?_⟩
 (repeat first|refine wN ?_|refine wP rfl ?_|refine af rfl ?_|refine ag rfl ?_|refine wO rfl rfl ?_)
 refine VO.call rfl rfl (fk Tryz.func12) (fun wa51 ka51 ba51=>(dL _ _ (Rat.divInt 80 1) (Rat.divInt 80 1) 2 2 wa51 ((show aK Fk _ _ (Rat.divInt 80 1) from hq25).ki (ny 80 (by omega) (by omega))) (q50.ki (ny 80 (by omega) (by omega))) (by omega) (by omega) 0 (gD rfl)).mono ?_)
 rintro e w51 ⟨rfl,hb51⟩
 refine ⟨_,rfl,hb51,fun kb51 _ bb51=>wV rfl ?_⟩
 (repeat first|refine wN ?_|refine wP rfl ?_|refine af rfl ?_|refine ag rfl ?_|refine wO rfl rfl ?_)
 refine VO.cond rfl ⟨by decide,by decide⟩ (wV rfl ?_)
 (repeat first|refine wN ?_|refine wP rfl ?_|refine af rfl ?_|refine ag rfl ?_|refine wO rfl rfl ?_)
 refine VO.jt rfl [.bool s26,.slice p26 n26 c26,.bool t26,.slice y26 m26 d26] rfl (mZ nc.lt hn13 (hc26 _ rfl)) (wV rfl ?_)
 (repeat first|refine wN ?_|refine wP rfl ?_|refine af rfl ?_|refine ag rfl ?_|refine wO rfl rfl ?_)
 refine VO.call rfl rfl (fk Tryz.func31) (fun wa52 ka52 ba52=>(dX 50 1 wa52 (by omega) (by omega) (by omega) (by omega)).mono ?_)
 rintro e w52 ⟨r52,rfl,q52,hb52⟩
 obtain ⟨s52,p52,n52,c52,t52,y52,m52,d52,rfl⟩:=q52.form
 refine ⟨_,rfl,hb52,fun kb52 _ bb52=>wV rfl ?_⟩
 (repeat first|refine wN ?_|refine wP rfl ?_|refine af rfl ?_|refine ag rfl ?_|refine wO rfl rfl ?_)
 refine VO.call rfl rfl (fk Tryz.func12) (fun wa53 ka53 ba53=>(dL _ _ (Rat.divInt 50 1) (Rat.divInt 50 1) 2 2 wa53 ((show aK Fk _ _ (Rat.divInt 50 1) from hq26).ki (ny 50 (by omega) (by omega))) (q52.ki (ny 50 (by omega) (by omega))) (by omega) (by omega) 0 (gD rfl)).mono ?_)
 rintro e w53 ⟨rfl,hb53⟩
 refine ⟨_,rfl,hb53,fun kb53 _ bb53=>wV rfl ?_⟩
 (repeat first|refine wN ?_|refine wP rfl ?_|refine af rfl ?_|refine ag rfl ?_|refine wO rfl rfl ?_)
 refine VO.cond rfl ⟨by decide,by decide⟩ (wV rfl ?_)
 (repeat first|refine wN ?_|refine wP rfl ?_|refine af rfl ?_|refine ag rfl ?_|refine wO rfl rfl ?_)
 refine VO.jt rfl [.bool s27,.slice p27 n27 c27,.bool t27,.slice y27 m27 d27] rfl (mZ nc.lt hn13 (hc27 _ rfl)) (wV rfl ?_)
 (repeat first|refine wN ?_|refine wP rfl ?_|refine af rfl ?_|refine ag rfl ?_|refine wO rfl rfl ?_)
 refine VO.call rfl rfl (fk Tryz.func31) (fun wa54 ka54 ba54=>(dX 250 1 wa54 (by omega) (by omega) (by omega) (by omega)).mono ?_)
 rintro e w54 ⟨r54,rfl,q54,hb54⟩
 obtain ⟨s54,p54,n54,c54,t54,y54,m54,d54,rfl⟩:=q54.form
 refine ⟨_,rfl,hb54,fun kb54 _ bb54=>wV rfl ?_⟩
 (repeat first|refine wN ?_|refine wP rfl ?_|refine af rfl ?_|refine ag rfl ?_|refine wO rfl rfl ?_)
 refine VO.call rfl rfl (fk Tryz.func12) (fun wa55 ka55 ba55=>(dL _ _ (Rat.divInt 250 1) (Rat.divInt 250 1) 2 2 wa55 ((show aK Fk _ _ (Rat.divInt 250 1) from hq27).ki (ny 250 (by omega) (by omega))) (q54.ki (ny 250 (by omega) (by omega))) (by omega) (by omega) 0 (gD rfl)).mono ?_)
 rintro e w55 ⟨rfl,hb55⟩
 refine ⟨_,rfl,hb55,fun kb55 _ bb55=>wV rfl ?_⟩
 (repeat first|refine wN ?_|refine wP rfl ?_|refine af rfl ?_|refine ag rfl ?_|refine wO rfl rfl ?_)
 refine VS.oy (bk _ _) rfl (fun wz βz kz oz enz=> ?_)
 refine ⟨rfl,qA.bj b14 oz.1 (fun x hx=> ?_)⟩
 simp only [List.mem_cons,List.not_mem_nil,or_false] at hx
 rcases hx with rfl | rfl | rfl
 ·exact o1.new
 ·exact o3.new
 ·exact o5.new
end Go.Proofs.YtabalinjfgcfeaaGreat
