/- AP of the proof,laid behind one another. -/
import Derived.Test.YtabalinjfgcfeaaGreatKInterestConserves5
set_option linter.all false
namespace Go.Proofs.YtabalinjfgcfeaaGreat
open Go.RowKit
section
variable {C:Cx} {F:Fr} {H:Hp} {w:World} {m:Option (List FuncId)} {full:Array Oper} {K:Fr→Hp→World→Prop} {o:Oper} {r:List Oper} {Q:Exit→Act→World→Prop} {k:List It}
def sm (F:Fr) (β bF:Nat→Nat) (lo hi:Nat):List (Nat×AV)→Prop
 | []=>True
 | p::r=>(∃ u,F p.1=some u∧p.2.aY bF=u.aY β∧∀ i∈p.2.ids,lo≤i∧i < hi)∧sm F β bF lo hi r
theorem sm.mem {β bF:Nat→Nat} {lo hi:Nat}:∀ {L:List (Nat×AV)} {d:Nat} {v:AV},sm F β bF lo hi L→(d,v)∈L→∃ u,F d=some u∧v.aY bF=u.aY β∧∀ i∈v.ids,lo≤i∧i < hi
 | p::r,d,v,h,hm=>by
  rcases List.mem_cons.1 hm with rfl | hm
  ·exact h.1
  ·exact sm.mem h.2 hm
theorem VS.sn (K:KC) (SU:TypeId→Bool) (ti:TypeId→Option TI) (keep:∀ (w':World) b,b < w'.heap.size→K.S b)
  (h:∀ w' β,aF C.K w w'→C.Old w'→Ends C β H w'→∃ (ad:List Nat) (l:List (TypeId×List AV)) (hl:iE K C.N ad l w') (L:List (Nat×AV)),sm F β (adB C.N ad) (2 * C.N) (2 * C.N + l.length) L∧
   VS (GP C.P w' C.N K SU ti (keep w') ad hl.nodup hl.ad) Q k (Fr.of L) (Hp.Hf (2 * C.N) l) w'):VS C Q k F H w:=fun β a w' hr hk=>by
 obtain ⟨ad,l,hl,L,hL,hv⟩:=h w' β hk hr.old ⟨hr.own,hr.apart⟩
 have xL:∀ i c,Hp.Hf (2 * C.N) l i=some c→2 * C.N≤i∧l[i - 2 * C.N]? =some c:=fun i c hi=>by
  rw [Hp.mA] at hi
  split at hi
  ·exact ⟨by assumption,hi⟩
  ·cases hi
 have hsome:∀ i,Hp.Hf (2 * C.N) l i≠none→2 * C.N≤i∧i - 2 * C.N < l.length:=fun i hi=>by
  cases hh:Hp.Hf (2 * C.N) l i with
  | none=>exact absurd hh hi
  | some c=>
   obtain ⟨h1,h2⟩:=xL i c hh
   exact ⟨h1,(List.getElem?_eq_some_iff.1 h2).1⟩
 have hval:∀ k,k < ad.length→ad[k]? =some (ad.getD k 0):=fun k hk=>by simp [List.getD_eq_getElem?_getD,hk]
 refine hv (adB C.N ad) a w' ⟨hr.defers,hr.size,fun d v hd=> ?_,fun i t cs hi=> ?_,fun i j hi hj e=> ?_,fun d v hd i hi=> ?_,fun d v hd=> ?_,⟨fun i t cs hi=> ?_,fun i t cs hi=> ?_,fun i hi=> ?_⟩,(GP C.P w' C.N K SU ti (keep w') ad hl.nodup hl.ad).oI⟩ (aF.refl _ _)
 ·obtain ⟨u,h1,h2,_⟩:=hL.mem (Fr.fF hd)
  rw [h2]
  exact hr.tmp d u h1
 ·obtain ⟨h1,h2⟩:=xL i _ hi
  have hlt:=(List.getElem?_eq_some_iff.1 h2).1
  obtain ⟨g1,g2⟩:=hl.ok _ (List.mem_of_getElem? h2)
  have hv:=hval (i - 2 * C.N) (by rw [hl.len];exact hlt)
  refine ⟨?_,g1,hl.cls _ _ _ hv h2,g2⟩
  show cA C.N ad w' i (adB C.N ad i)
  unfold cA
  rw [if_pos h1]
  exact hv
 ·obtain ⟨h1,h2⟩:=hsome i hi
  obtain ⟨h3,h4⟩:=hsome j hj
  have e1:=hval (i - 2 * C.N) (by rw [hl.len];exact h2)
  have e2:=hval (j - 2 * C.N) (by rw [hl.len];exact h4)
  have e':ad.getD (i - 2 * C.N) 0=ad.getD (j - 2 * C.N) 0:=e
  rw [←e'] at e2
  have:=(List.getElem?_inj (by rw [hl.len];exact h2) hl.nodup).1 (e1.trans e2.symm)
  omega
 ·obtain ⟨u,h1,h2,h3⟩:=hL.mem (Fr.fF hd)
  obtain ⟨h4,h5⟩:=h3 i hi
  rw [Hp.mA,if_pos h4,List.getElem?_eq_getElem (by omega)]
  simp
 ·obtain ⟨u,h1,h2,h3⟩:=hL.mem (Fr.fF hd)
  exact hr.fits d u h1
 ·obtain ⟨h1,h2⟩:=xL i _ hi
  exact hl.ok _ (List.mem_of_getElem? h2)
 ·obtain ⟨h1,h2⟩:=xL i _ hi
  intro j hj
  obtain ⟨h3,h4⟩:=hl.ids _ (List.mem_of_getElem? h2) j hj
  rw [Hp.mA,if_pos h3,List.getElem?_eq_getElem (by omega)]
  simp
 ·have sI:2 * C.N + ad.length≤i:=hi
  rw [Hp.mA]
  split
  ·exact List.getElem?_eq_none (by rw [←hl.len];omega)
  ·rfl
def MK (C:Cx) (Q:Exit→Act→World→Prop) (k:List It) (full:Array Oper) (o:Oper) (F:Fr) (H:Hp) (w:World):Prop:=
 ∃ (g:FuncId) (args:List AV) (vs:List Value) (D:World→Cx),stepOf C full F H o=.call (.fn g args)∧ij args=some vs∧nQ C.P g∧(∀ w,(D w).P=C.P)∧(∀ w,(D w).N=C.N)∧(∀ w,Cx.Old (D w) w)∧
  ∀ w1,aF C.K w w1→C.Old w1→Calls C.P g vs.toArray w1 fun e w2=>∃ v L,e=.returned v∧CB F L∧(∀ p∈L,o.dst≠some p.1)∧VS (D w2) Q k (Fr.vals L) (fun _=>none) w2
theorem VS.regionM (hC:C.Ok) {id:Nat} {ops:Array Oper} (j:Nat) {o:Oper} (hj:ops.toList.drop j=[o]) (hd:ops.toList.all lU=true) (ho:lU o=true)
  (h:aB C none ops (ops.toList.take j) (MK C Q k ops o) F H w):VS C Q (.code (.region id ops false)::k) F H w:=fun β a w' hr hk=>by
 refine (wpIn_wide (n:=0)).1 (wpIn_region_list ?_)
 rw [←List.take_append_drop j ops.toList,hj]
 refine ur iy.wide hC (tl:=[o]) (fun β F H w a w' h hr hk=> ?_) (ops.toList.take j) (List.all_eq_true.2 fun o ho=>List.all_eq_true.1 hd o (List.mem_of_mem_take ho)) β F H w a w' h hr hk
 obtain ⟨g,args,vs,D,e,hv,hf,hP,hN,hO,jq⟩:=h
 refine wpListIn_step fun K hK=> ?_
 have hb:stepOf C ops F H o≠.bad:=fun e'=>by rw [e] at e';cases e'
 obtain ⟨iP,⟨hw,hs⟩ | ⟨hw,hs⟩⟩:=jX hb
 ·rw [hs] at e;cases e
 ·rw [nX hr hw,if_pos rfl]
  refine iy.wide.op ho (Fi hr (hs.symm.trans e) ?_)
  refine ⟨hf,?_⟩
  rw [jc hv,gN]
  refine (jq w' hk hr.old).mono ?_
  rintro e w2 ⟨v,L,rfl,hL,hLd,hcont⟩
  refine ⟨v,rfl,hK _ _ ?_⟩
  show post C.P Q k .normal _ w2
  have xV:=hr.knows hL
  have qU:Knows (D w2).N L (a.put o.dst v):=by
   rw [hN]
   cases hod:o.dst with
   | none=>exact xV
   | some d=>
    refine ⟨xV.defers,by simp [Act.put];exact xV.size,fun p hp=>⟨(xV.tmp p hp).1,?_⟩⟩
    have hne:d≠p.1:=fun e=>hLd p hp (by rw [hod,e])
    have:=(xV.tmp p hp).2
    simp [Act.put,Array.getD_eq_getD_getElem?,Array.getElem?_setIfInBounds,hne] at this ⊢
    exact this
  have:=hcont _ _ w2 (qU.rel (hO w2)) (aF.refl _ _)
  rw [hP] at this
  exact this
end
end Go.Proofs.YtabalinjfgcfeaaGreat
set_option maxRecDepth 4000
namespace Go.Proofs.YtabalinjfgcfeaaGreat
open Go.RowKit
attribute [local irreducible] aB VS
theorem Av {w:World} {b off i sz:Nat} {cs:List Value} (hc:∀ (j:Nat) (u:Value),cs[j]? =some u→w.cell? ⟨b,off + i * sz + j,none⟩=some u):∀ (j:Nat) (u:Value),cs[j]? =some u→w.cell? ((⟨b,off + ((i:Nat):Int).toNat * sz,none⟩:Addr).add j)=some u:=by
 intro j u hj
 rw [Addr.add_mid,Int.toNat_natCast]
 exact hc j u hj
theorem cls_at {w:World} {b:Nat} {t:TypeId} {cs:List Value} (h:aW w b t cs.toArray):∀ (j:Nat) (u:Value),cs[j]? =some u→w.cell? ((⟨b,0,none⟩:Addr).add j)=some u:=by
 intro j u hj
 rw [Addr.add_mid,Nat.zero_add]
 exact h.cell (by simpa using hj)
theorem EI (v:Value) (l:List (RR×RR)) (k:Nat) (w:World) (hl:eD (xQ k) 8 w v l) (hk:k≤100000) (hlen:l.length≤100000):
  Calls Tryz.prog 69 #[v,.func (.func 37) #[] #[]] w fun o w'=>∃ i:Int,o=.returned (.int .i64 i)∧decide (i≥0)= !(l.all pG)∧aj w w':=by
 obtain ⟨p,c,rfl,eR,eT⟩:=hl.form
 obtain ⟨N,hN⟩:∃ N,N=l.length:=⟨_,rfl⟩
 rw [←hN] at hl eR hlen
 rw [←hN]
 refine aw (C:=cf Tryz.prog w _) (args:=[_,_]) Tryz.func69 rfl Tryz.ntmps69 (Nat.le_of_ble_eq_true rfl) ?_
 (repeat first|refine wN ?_|refine wP rfl ?_|refine aa rfl ?_|refine ab rfl ?_|refine wO rfl rfl ?_)
 refine VS.loop (J:=fun m L M w'=>∃ z:Nat,z≤N∧m=N - z∧(l.take z).all pG=true∧L=[(0,.val (.slice p N c)),(1,.val (.func (.func 37) #[] #[])),(7,.val (.int .i64 (N:Int))),(8,.val (.int .i64 (z:Int)))]∧M=[]) N ⟨_,_,?_,?_,?_,?_,⟨0,by omega,rfl,rfl,rfl,rfl⟩⟩ ?_
 ·(repeat first|exact trivial|refine ⟨rfl,?_⟩)
 ·(repeat first|exact trivial|refine ⟨rfl,?_⟩)
 ·rfl
 ·(repeat first|exact trivial|refine ⟨aG.lit rfl,?_⟩|refine ⟨aG.vals _,?_⟩)
 rintro m L M w1 ⟨z,hz,rfl,me,rfl,rfl⟩
 (repeat first|refine wN ?_|refine wP rfl ?_|refine aa rfl ?_|refine ab rfl ?_|refine wO rfl rfl ?_)
 by_cases hlt:z < N
 ·refine VS.bD rfl (decide_eq_true (Int.ofNat_lt.2 hlt)) ?_
  obtain ⟨x,hx⟩:∃ x,l[z]? =some x:=⟨_,List.getElem?_eq_getElem (by omega)⟩
  obtain ⟨b,off,cs,ma,hcs,hE⟩:=hl.at hx
  subst ma
  obtain ⟨c1,c2,rfl,⟨p1,k1,r1,d1,rfl,e1⟩,⟨p2,k2,r2,d2,rfl,e2⟩,hf1,hf2⟩:=id hE
  (repeat first|refine wN ?_|refine wP rfl ?_|refine aa rfl ?_|refine ab rfl ?_|refine wO rfl rfl ?_)
  refine VO.cond rfl ⟨by omega,by omega⟩ ?_
  refine wV rfl ?_
  (repeat first|refine wN ?_|refine wP rfl ?_|refine aa rfl ?_|refine ab rfl ?_|refine wO rfl rfl ?_)
  refine VO.read rfl [.bool x.1.1,.slice p1 x.1.2.1.length k1,.bool x.1.2.2.1,.slice r1 x.1.2.2.2.length d1,.bool x.2.1,.slice p2 x.2.2.1.length k2,.bool x.2.2.2.1,.slice r2 x.2.2.2.2.length d2] rfl (Av hcs) (wV rfl ?_)
  (repeat first|refine wN ?_|refine wP rfl ?_|refine aa rfl ?_|refine ab rfl ?_|refine wO rfl rfl ?_)
  cases hxo:pG x with
  | false=>
   refine VO.call rfl rfl (fk Tryz.func37) (fun cB ek du=>(zh _ _ x k cB rfl ((fN k).kp hE (Kp.of (U:=UU) du)) hk false hxo).mono ?_)
   rintro e w1 ⟨rfl,aV⟩
   skip
   refine ⟨_,rfl,aV,fun e9 _ bb1=>wV rfl ?_⟩
   (repeat first|refine wN ?_|refine wP rfl ?_|refine aa rfl ?_|refine ab rfl ?_|refine wO rfl rfl ?_)
   refine VS.ret (aL _ _) rfl rfl (fun wz kz bz=> ?_)
   refine ⟨_,rfl,?_,bz⟩
   have:l.all pG=false:=by
    rw [List.all_eq_false]
    exact ⟨x,List.mem_of_getElem? hx,by rw [hxo];simp⟩
   rw [this]
   exact decide_eq_true (by omega)
  | true=>
   refine VO.call rfl rfl (fk Tryz.func37) (fun cB ek du=>(zh _ _ x k cB rfl ((fN k).kp hE (Kp.of (U:=UU) du)) hk true hxo).mono ?_)
   rintro e w1 ⟨rfl,aV⟩
   skip
   refine ⟨_,rfl,aV,fun e9 _ bb1=>wV rfl ?_⟩
   (repeat first|refine wN ?_|refine wP rfl ?_|refine aa rfl ?_|refine ab rfl ?_|refine wO rfl rfl ?_)
   refine VS.back (N - (z + 1)) (by omega) ⟨_,_,?_,?_,?_,?_,⟨z + 1,by omega,rfl,?_,rfl,rfl⟩⟩
   ·refine ⟨rfl,rfl,rfl,?_,trivial⟩
    rw [←bW (i:=z) (by omega)];rfl
   ·(repeat first|exact trivial|refine ⟨rfl,?_⟩)
   ·rfl
   ·(repeat first|exact trivial|refine ⟨aG.lit rfl,?_⟩|refine ⟨aG.vals _,?_⟩)
   ·rw [fW hx,List.all_append,me]
    show (true && (pG x && true))=true
    rw [hxo];rfl
 ·refine VS.bt rfl (decide_eq_false (fun e=>hlt (Int.ofNat_lt.1 e))) ?_
  (repeat first|refine wN ?_|refine wP rfl ?_|refine aa rfl ?_|refine ab rfl ?_|refine wO rfl rfl ?_)
  refine VS.ret (aL _ _) rfl rfl (fun wz kz bz=> ?_)
  refine ⟨_,rfl,?_,bz⟩
  have:l.take z=l:=List.take_of_length_le (by omega)
  rw [this] at me
  rw [me];rfl
theorem mI (v:Value) (l:List (RR×RR)) (k:Nat) (w:World) (hl:eD (xQ k) 8 w v l) (hk:k≤100000) (hlen:l.length≤100000) (b:Bool) (hb:l.all pG=b):
  Calls Tryz.prog 36 #[v,.func (.func 37) #[] #[]] w fun o w'=>o=.returned (.bool !b)∧aj w w':=by
 obtain ⟨p,c,rfl,eR,eT⟩:=hl.form
 refine aw (C:=cf Tryz.prog w _) (args:=[_,_]) Tryz.func36 rfl Tryz.ntmps36 (Nat.le_of_ble_eq_true rfl) ?_
 (repeat first|refine wN ?_|refine wP rfl ?_|refine aa rfl ?_|refine ab rfl ?_|refine wO rfl rfl ?_)
 refine VO.call rfl rfl (fk Tryz.func69) (fun cB ek du=>(EI _ l k cB (hl.bh (fN k) du) hk hlen).mono ?_)
 rintro e w1 ⟨i,rfl,hi,aV⟩
 skip
 refine ⟨_,rfl,aV,fun e9 _ bb1=>wV rfl ?_⟩
 (repeat first|refine wN ?_|refine wP rfl ?_|refine aa rfl ?_|refine ab rfl ?_|refine wO rfl rfl ?_)
 refine VS.ret (aL _ _) rfl rfl (fun wz kz bz=> ?_)
 refine ⟨?_,bz⟩
 rw [←hb,←hi];rfl
theorem pc (v:Value) (a b:RR) (keep:Int) (k:Nat) (w:World) (h:jk w v a b keep) (ha:a.mM k) (hb:b.mM k) (hk:k≤100000) (x:Bool) (hx:jl a b keep=x):
 Calls Tryz.prog 35 #[v] w fun o w'=>o=.returned (.bool x)∧aj w w':=hx▸EG v a b keep k w h ha hb hk
theorem KM (v u:Value) (a b:RR) (keep:Int) (l:List (RR×RR)) (k:Nat) (w:World) (hR:jk w v a b keep) (ha:a.mM k) (hb:b.mM k) (hl:eD (xQ k) 8 w u l) (hk:k≤100000) (hlen:l.length≤100000) (hno:(jl a b keep && l.all pG)=false):
  Calls Tryz.prog 11 #[v,u] w fun o w'=>o=.returned (.tuple #[.agg #[.slice none 0 0,.slice none 0 0],.int .i64 2])∧aj w w':=by
 obtain ⟨pa,ca,ra,da,pb,cb,rb',db,rfl,ha1,aV⟩:=hR
 obtain ⟨pu,cu,rfl,eR,eT⟩:=hl.form
 have hR:jk w (.agg #[.bool a.1,.slice pa a.2.1.length ca,.bool a.2.2.1,.slice ra a.2.2.2.length da,.bool b.1,.slice pb b.2.1.length cb,.bool b.2.2.1,.slice rb' b.2.2.2.length db,.int .i64 keep]) a b keep:=⟨_,_,_,_,_,_,_,_,rfl,ha1,aV⟩
 refine aw (C:=cf Tryz.prog w _) (args:=[_,_]) Tryz.func11 rfl Tryz.ntmps11 (Nat.le_of_ble_eq_true rfl) ?_
 (repeat first|refine wN ?_|refine wP rfl ?_|refine aa rfl ?_|refine ab rfl ?_|refine wO rfl rfl ?_)
 cases hr:jl a b keep with
 | false=>
  refine VO.call rfl rfl (fk Tryz.func35) (fun cB ek du=>(pc _ a b keep k cB (hR.kp (Kp.of (U:=UU) du)) ha hb hk false hr).mono ?_)
  rintro e w1 ⟨rfl,aV⟩
  skip
  refine ⟨_,rfl,aV,fun e9 _ bb1=>wV rfl ?_⟩
  (repeat first|refine wN ?_|refine wP rfl ?_|refine aa rfl ?_|refine ab rfl ?_|refine wO rfl rfl ?_)
  refine VS.ret (aL _ _) rfl rfl (fun wz kz bz=> ?_)
  exact ⟨rfl,bz⟩
 | true=>
  rw [hr] at hno
  refine VO.call rfl rfl (fk Tryz.func35) (fun cB ek du=>(pc _ a b keep k cB (hR.kp (Kp.of (U:=UU) du)) ha hb hk true hr).mono ?_)
  rintro e w1 ⟨rfl,aV⟩
  skip
  refine ⟨_,rfl,aV,fun e9 _ bb1=>wV rfl ?_⟩
  (repeat first|refine wN ?_|refine wP rfl ?_|refine aa rfl ?_|refine ab rfl ?_|refine wO rfl rfl ?_)
  refine VO.call rfl rfl (fk Tryz.func36) (fun dB gp et=>(mI _ l k dB (hl.bh (fN k) et) hk hlen false hno).mono ?_)
  rintro e w2 ⟨rfl,bl⟩
  skip
  refine ⟨_,rfl,bl,fun fX _ bb2=>wV rfl ?_⟩
  (repeat first|refine wN ?_|refine wP rfl ?_|refine aa rfl ?_|refine ab rfl ?_|refine wO rfl rfl ?_)
  refine VS.ret (aL _ _) rfl rfl (fun wz kz bz=> ?_)
  exact ⟨rfl,bz⟩
theorem Hv (v u:Value) (a b:RR) (keep:Int) (l:List (RR×RR)) (k:Nat) (w:World) (hR:jk w v a b keep) (ha:a.mM k) (hb:b.mM k) (hl:eD (xQ k) 8 w u l) (hk:k≤100000) (hlen:l.length≤100000) (hr:jl a b keep=true) (hy:l.all pG=true) (h40:l.length > 40):
  Calls Tryz.prog 11 #[v,u] w fun o w'=>o=.returned (.tuple #[.agg #[.slice none 0 0,.slice none 0 0],.int .i64 3])∧aj w w':=by
 obtain ⟨pa,ca,ra,da,pb,cb,rb',db,rfl,ha1,aV⟩:=hR
 obtain ⟨pu,cu,rfl,eR,eT⟩:=hl.form
 have hR:jk w (.agg #[.bool a.1,.slice pa a.2.1.length ca,.bool a.2.2.1,.slice ra a.2.2.2.length da,.bool b.1,.slice pb b.2.1.length cb,.bool b.2.2.1,.slice rb' b.2.2.2.length db,.int .i64 keep]) a b keep:=⟨_,_,_,_,_,_,_,_,rfl,ha1,aV⟩
 refine aw (C:=cf Tryz.prog w _) (args:=[_,_]) Tryz.func11 rfl Tryz.ntmps11 (Nat.le_of_ble_eq_true rfl) ?_
 (repeat first|refine wN ?_|refine wP rfl ?_|refine aa rfl ?_|refine ab rfl ?_|refine wO rfl rfl ?_)
 refine VO.call rfl rfl (fk Tryz.func35) (fun cB ek du=>(pc _ a b keep k cB (hR.kp (Kp.of (U:=UU) du)) ha hb hk true hr).mono ?_)
 rintro e w1 ⟨rfl,aV⟩
 skip
 refine ⟨_,rfl,aV,fun e9 _ bb1=>wV rfl ?_⟩
 (repeat first|refine wN ?_|refine wP rfl ?_|refine aa rfl ?_|refine ab rfl ?_|refine wO rfl rfl ?_)
 refine VO.call rfl rfl (fk Tryz.func36) (fun dB gp et=>(mI _ l k dB (hl.bh (fN k) et) hk hlen true hy).mono ?_)
 rintro e w2 ⟨rfl,bl⟩
 skip
 refine ⟨_,rfl,bl,fun fX _ bb2=>wV rfl ?_⟩
 (repeat first|refine wN ?_|refine wP rfl ?_|refine aa rfl ?_|refine ab rfl ?_|refine wO rfl rfl ?_)
 refine VS.bD rfl (decide_eq_true (show (l.length:Int) > 40 by omega)) ?_
 (repeat first|refine wN ?_|refine wP rfl ?_|refine aa rfl ?_|refine ab rfl ?_|refine wO rfl rfl ?_)
 refine VS.ret (aL _ _) rfl rfl (fun wz kz bz=> ?_)
 exact ⟨rfl,bz⟩
theorem SlZ.bh {α:Type} {E:World→List Value→α→Prop} {sz:Nat} (hE:ln E sz) {t:TypeId} {w w':World} {b:Nat} {v:Value} {es:List α} (h:SlZ E sz t w b v es) (hb:aj w w'):SlZ E sz t w' b v es:=by
 obtain ⟨n,c,vs,sp,h1,h2,h3⟩:=h
 exact ⟨n,c,vs,sp,h1,h2.bh hb,h3.kp hE (Kp.of (U:=UU) hb)⟩
theorem SlE.bh {α:Type} {E:World→List Value→α→Prop} {sz:Nat} (hE:ln E sz) {t:TypeId} {w w':World} {b:Nat} {v:Value} {es:List α} (h:SlE E sz t w b v es) (hb:aj w w'):SlE E sz t w' b v es:=by
 obtain ⟨off,n,c,pre,vs,sp,h1,h2,h3⟩:=h
 exact ⟨off,n,c,pre,vs,sp,h1,h2.bh hb,h3.kp hE (Kp.of (U:=UU) hb)⟩
theorem mP.bh {B g:Nat} {w w':World} {ad:List Nat} {s:CC} (h:mP B w g ad s) (hb:aj w w'):mP B w' g ad s:=by
 obtain ⟨had,v,r,u,hg,h⟩:=h
 refine ⟨had,v,r,u,hg.bh hb,?_⟩
 rcases h with h | ⟨rb,h1,h2,h3,h4,h5,h6⟩ | ⟨vb,rb,h1,h2,h3,h4,h5⟩ | ⟨vb,rb,ub,h1,h2,h3,h4⟩
 ·exact .inl h
 ·exact .inr (.inl ⟨rb,h1,h2,h3,h4,h5,h6.bh (az B) hb⟩)
 ·exact .inr (.inr (.inl ⟨vb,rb,h1,h2,h3,h4.bh (aM B) hb,h5.bh (az B) hb⟩))
 ·exact .inr (.inr (.inr ⟨vb,rb,ub,h1,h2.bh (aM B) hb,h3.bh (az B) hb,h4.bh (dk B) hb⟩))
theorem tB (S F:Rat) (keep:Nat) (l:List (Rat×Rat)) (y:Rat×Rat):gi S F keep (l++[y])=di S F keep (gi S F keep l).rows.length (gi S F keep l) y:=by
 unfold gi
 rw [List.foldl_append];rfl
def ed (l:List (RR×RR)):List (Rat×Rat):=l.map fun e=>(e.1.q,e.2.q)
theorem tC {l:List (RR×RR)} {z:Nat} {x:RR×RR} (hx:l[z]? =some x):ed (l.take (z + 1))=ed (l.take z)++[(x.1.q,x.2.q)]:=by
 unfold ed
 rw [fW hx,List.map_append];rfl
theorem CN {B:Nat} {w:World} {cs new:List Value} {r:aN} {x:Rat} (h:dD B w cs r) (hx:R4 B w new x):dD B w (cs.take 24++(new++cs.drop (24 + new.length))) { r with closing:=x }:=by
 obtain ⟨a,b,c,d,e,f,g,rfl,h1,h2,h3,h4,h5,h6,h7⟩:=h
 refine ⟨a,b,c,d,e,f,new,?_,h1,h2,h3,h4,h5,h6,hx⟩
 have l1:=h1.len
 have l2:=h2.len
 have l3:=h3.len
 have l4:=h4.len
 have l5:=h5.len
 have l6:=h6.len
 have l7:=h7.len
 rw [hx.len]
 have e3:a++(b++(c++(d++(e++(f++g)))))=(a++b++c++d++e++f)++g:=by simp
 have e4:(a++b++c++d++e++f).length=24:=by simp [l1,l2,l3,l4,l5,l6]
 have t1:(a++(b++(c++(d++(e++(f++g)))))).take 24=a++b++c++d++e++f:=by rw [e3,←e4,List.take_left'];rfl
 have t2:(a++(b++(c++(d++(e++(f++g)))))).drop 28=[]:=List.drop_of_length_le (by simp [l1,l2,l3,l4,l5,l6,l7])
 rw [t1,t2]
 simp
abbrev ni:TypeId:=36
abbrev Hw:TypeId:=28
theorem mP.ty {B g:Nat} {w:World} {ad:List Nat} {s:CC} (h:mP B w g ad s):∀ b∈ad,∃ t cs,aW w b t cs∧t≠Hw∧t≠ni:=by
 obtain ⟨had,v,r,u,hg,h⟩:=h
 have key:∀ {t:TypeId} {b:Nat} {cs:Array Value},aW w b t cs→(t=Runner∨t=cM∨t=dT∨t=er)→∃ t cs,aW w b t cs∧t≠Hw∧t≠ni:=fun {t b cs} hc ht=>⟨t,cs,hc,by rcases ht with rfl | rfl | rfl | rfl <;> decide,by rcases ht with rfl | rfl | rfl | rfl <;> decide⟩
 intro b hb
 rcases h with ⟨rfl,_⟩ | ⟨rb,rfl,_,_,_,_,_,_,_,_,_,h2,_⟩ | ⟨vb,rb,rfl,_,_,⟨_,_,_,_,_,_,_,h3,_⟩,_,_,_,_,_,h2,_⟩ | ⟨vb,rb,ub,rfl,⟨_,_,_,_,_,_,_,h3,_⟩,⟨_,_,_,_,_,h2,_⟩,_,_,_,_,_,h4,_⟩
 ·rw [List.mem_singleton.1 hb];exact key hg (.inl rfl)
 ·simp only [List.mem_cons,List.not_mem_nil,or_false] at hb
  rcases hb with rfl | rfl
  ·exact key hg (.inl rfl)
  ·exact key h2 (.inr (.inr (.inl rfl)))
 ·simp only [List.mem_cons,List.not_mem_nil,or_false] at hb
  rcases hb with rfl | rfl | rfl
  ·exact key hg (.inl rfl)
  ·exact key h3 (.inr (.inl rfl))
  ·exact key h2 (.inr (.inr (.inl rfl)))
 ·simp only [List.mem_cons,List.not_mem_nil,or_false] at hb
  rcases hb with rfl | rfl | rfl | rfl
  ·exact key hg (.inl rfl)
  ·exact key h3 (.inr (.inl rfl))
  ·exact key h2 (.inr (.inr (.inl rfl)))
  ·exact key h4 (.inr (.inr (.inr rfl)))
theorem KN {B:Nat} {w:World} {vb off n c z:Nat} {pre spare:List Value} {vs:List (List Value)} {q:List Vq} {p:Vq} (hc:aW w vb cM (pre++(vs.flatten++spare)).toArray) (h:cX (cG B) 5 w n off c pre vs spare q) (hp:q[z]? =some p):
  ∃ cs,(∀ (j:Nat) (u:Value),cs[j]? =some u→w.cell? ⟨vb,off + z * 5 + j,none⟩=some u)∧cG B w cs p:=by
 obtain ⟨cs,hcs,hE⟩:=h.el.at z p hp
 refine ⟨cs,fun j u hj=>hc.cell ?_,hE⟩
 have hzl:=(List.getElem?_eq_some_iff.1 hp).1
 have Dn:=h.len
 have hle:=h.le
 have iM:pre.length=off:=h.pl.resolve_right (by omega)
 have jq:cs.length=5:=(aM B).len hE
 have hjl:=(List.getElem?_eq_some_iff.1 hj).1
 obtain ⟨hlt,hx⟩:=List.getElem?_eq_some_iff.1 hcs
 have ye:vs=vs.take z++cs::vs.drop (z + 1):=by rw [←hx,←List.drop_eq_getElem_cons hlt,List.take_append_drop]
 have hal:(vs.take z).flatten.length=z * 5:=by
  rw [cV (fun y hy=>h.el.lens (aM B) y (List.mem_of_mem_take hy)),List.length_take,Nat.min_eq_left (by omega)]
 rw [List.getElem?_toArray,List.getElem?_append_right (by omega),iM,ye,List.flatten_append,List.append_assoc,List.getElem?_append_right (by omega),hal,List.flatten_cons,List.append_assoc,show off + z * 5 + j - off - z * 5=j by omega,List.getElem?_append_left hjl]
 exact hj
theorem mQ {w:World} {N:Nat} {ad:List Nat} {hd:ad.Nodup} {ha:rI (KU UU) ad w} {b off:Nat} {cs:List Value} (hb:b < w.heap.size) (hn:b∉ad) (hc:∀ (j:Nat) (u:Value),cs[j]? =some u→w.cell? ((⟨b,off,none⟩:Addr).add j)=some u):∀ (j:Nat) (u:Value),cs[j]? =some u→(Ie Tryz.prog w N ad hd ha).At ((⟨b,off,none⟩:Addr).add j) u:=by
 intro j u hj w1 uY
 have h:=hc j u hj
 rw [Addr.add_mid] at h ⊢
 rw [World.cell?_of_block (w:=w) (a:=⟨b,off + j,none⟩) (uY.1.mX b hb hn)]
 exact h
theorem CO {cs new:List Value} (h:cs.length=28) (hn:new.length=4):(cs.take 24++(new++cs.drop (24 + new.length))).length=28:=by
 rw [List.length_append,List.length_append,List.length_take,List.length_drop,h,hn];rfl
structure xA (D:Nat) (M S F:Rat) (kk:Nat) (l:List (Rat×Rat)):Prop where
 el:∀ e∈l,Iz D (aD S F e.2)∧aD S F e.2≤M∧Iz D e.1∧-M≤e.1∧e.1≤M
 sz:∀ x,Iz D x→-(M + M)≤x→x≤M + M→dQ x kk
def sq (B:Nat) (w:World) (r u:Value) (x:List aN×List Uq):Prop:=
 ((r=.slice none 0 0∧x.1=[])∨∃ rb,B≤rb∧SlZ (dD B) 28 dT w rb r x.1)∧((u=.slice none 0 0∧x.2=[])∨∃ ub,B≤ub∧SlZ (nb B) 6 er w ub u x.2)
def RunJ (w:World) (B D:Nat) (M:Rat) (a b:RR) (kn:Nat) (l:List (RR×RR)) (N cu:Nat) (pu:Option Addr) (rul:List Value) (g b2 b4:Nat) (n:Nat) (L:List (Nat×Value)) (W:World):Prop:=
 ∃ (z:Nat) (ad:List Nat),z≤N∧n=N - z∧L=[(2,.pointer (some ⟨b2,0,none⟩)),(4,.pointer (some ⟨b4,0,none⟩)),(6,.pointer (some ⟨g,0,none⟩)),(27,.slice pu N cu),(28,.int .i64 (N:Int)),(29,.int .i64 (z:Int))]∧
  mP B W g ad (gi a.q b.q kn (ed (l.take z)))∧xy D M (gi a.q b.q kn (ed (l.take z)))∧(gi a.q b.q kn (ed (l.take z))).rows.length=z∧aW W b2 Hw rul.toArray∧aW W b4 ni #[.slice none 0 0,.slice none 0 0]∧aj w W
set_option maxRecDepth 4000 in
set_option maxHeartbeats 8000000 in
theorem FP (v u:Value) (a b:RR) (kn:Nat) (l:List (RR×RR)) (ks kk D:Nat) (M:Rat) (w:World) (hR:jk w v a b (kn:Int)) (ha:a.mM ks) (hb:b.mM ks) (hl:eD (xQ ks) 8 w u l) (se:1≤ks) (yh:ks≤kk) (yV:kk≤100000) (hr:jl a b (kn:Int)=true) (hy:l.all pG=true) (h40:l.length≤40) (qU:kn≤40) (hM:xA D M a.q b.q kk (ed l)):
  Calls Tryz.prog 11 #[v,u] w fun o w'=>∃ r u',o=.returned (.tuple #[.agg #[r,u'],.int .i64 0])∧sq w.heap.size w' r u' (pA a.q b.q kn (ed l))∧aj w w':=by
 obtain ⟨pa,ca,ra,da,pb,cb,rb',db,rfl,ha1,aV⟩:=hR
 obtain ⟨pu,cu,rfl,eR,eT⟩:=hl.form
 have hR:jk w (.agg #[.bool a.1,.slice pa a.2.1.length ca,.bool a.2.2.1,.slice ra a.2.2.2.length da,.bool b.1,.slice pb b.2.1.length cb,.bool b.2.2.1,.slice rb' b.2.2.2.length db,.int .i64 (kn:Int)]) a b (kn:Int):=⟨_,_,_,_,_,_,_,_,rfl,ha1,aV⟩
 have hk:ks≤100000:=by omega
 obtain ⟨N,hN⟩:∃ N,N=l.length:=⟨_,rfl⟩
 rw [←hN] at hl eR h40
 rw [←hN]
 refine aw (C:=cf Tryz.prog w _) (args:=[_,_]) Tryz.func11 rfl Tryz.ntmps11 (Nat.le_of_ble_eq_true rfl) ?_
 (repeat first|refine wN ?_|refine wP rfl ?_|refine aa rfl ?_|refine ab rfl ?_|refine wO rfl rfl ?_)
 refine VO.call rfl rfl (fk Tryz.func35) (fun cB ek du=>(pc _ a b (kn:Int) ks cB (hR.kp (Kp.of (U:=UU) du)) ha hb hk true hr).mono ?_)
 rintro e w1 ⟨rfl,aV⟩
 skip
 refine ⟨_,rfl,aV,fun e9 _ bb1=>wV rfl ?_⟩
 (repeat first|refine wN ?_|refine wP rfl ?_|refine aa rfl ?_|refine ab rfl ?_|refine wO rfl rfl ?_)
 refine VO.call rfl rfl (fk Tryz.func36) (fun dB gp et=>(mI _ l ks dB (hl.bh (fN ks) et) hk (by omega) true hy).mono ?_)
 rintro e w2 ⟨rfl,bl⟩
 skip
 refine ⟨_,rfl,bl,fun fX _ bb2=>wV rfl ?_⟩
 (repeat first|refine wN ?_|refine wP rfl ?_|refine aa rfl ?_|refine ab rfl ?_|refine wO rfl rfl ?_)
 refine VS.bt rfl (decide_eq_false (show ¬ (N:Int) > 40 by omega)) ?_
 (repeat first|refine wN ?_|refine wP rfl ?_|refine aa rfl ?_|refine ab rfl ?_|refine wO rfl rfl ?_)
 refine VS.Ke (fun w=>cf Tryz.prog w 66) (fun _=>rfl) (fun _=>rfl) (fun _=>aj.refl _) (fun w9 β k9 b9 en=> ?_)
 have c2:=(en.own 2 _ _ rfl).cls
 have c4:=(en.own 4 _ _ rfl).cls
 have cg:=(en.own 26 _ _ rfl).cls
 have n2:w.heap.size≤β 2:=(en.own 2 _ _ rfl).new
 have n4:w.heap.size≤β 4:=(en.own 4 _ _ rfl).new
 have ng:w.heap.size≤β 26:=(en.own 26 _ _ rfl).new
 refine ⟨[(2,.val (.pointer (some ⟨β 2,0,none⟩))),(4,.val (.pointer (some ⟨β 4,0,none⟩))),(6,.val (.pointer (some ⟨β 26,0,none⟩))),(27,.val (.slice pu N cu)),(28,.val (.int .i64 (N:Int))),(29,.val (.int .i64 0))],⟨⟨_,_,rfl,rfl,rfl⟩,⟨_,_,rfl,rfl,rfl⟩,⟨_,_,rfl,rfl,rfl⟩,⟨_,_,rfl,rfl,rfl⟩,⟨_,_,rfl,rfl,rfl⟩,⟨_,_,rfl,rfl,rfl⟩,trivial⟩,?_⟩
 clear en
 generalize β 2=b2 at *
 generalize β 4=b4 at *
 generalize β 26=g at *
 refine VS.loopR (J:=RunJ w w.heap.size D M a b kn l N cu pu [.bool a.1,.slice pa a.2.1.length ca,.bool a.2.2.1,.slice ra a.2.2.2.length da,.bool b.1,.slice pb b.2.1.length cb,.bool b.2.2.1,.slice rb' b.2.2.2.length db,.int .i64 (kn:Int)] g b2 b4) (fun w=>cf Tryz.prog w 66) (fun _=>rfl) (fun _=>rfl) (fun _=>aj.refl _) N (fun w' k' o'=>⟨[(2,.pointer (some ⟨b2,0,none⟩)),(4,.pointer (some ⟨b4,0,none⟩)),(6,.pointer (some ⟨g,0,none⟩)),(27,.slice pu N cu),(28,.int .i64 (N:Int)),(29,.int .i64 0)],⟨rfl,rfl,rfl,rfl,rfl,rfl,trivial⟩,0,[g],by omega,rfl,rfl,⟨fun x hx=>by rw [List.mem_singleton.1 hx];exact ng,_,_,_,cg.bh o',.inl ⟨rfl,rfl,rfl,rfl,rfl,rfl,rfl⟩⟩,⟨fun p hp=>(by cases hp),Nat.le_refl _⟩,rfl,c2.bh o',c4.bh o',b9.aJ o'⟩) ?_
 rintro n L W ⟨z,ad,hz,rfl,rfl,hrun,hst,qX,gj,uG,jI⟩
 (repeat first|refine wN ?_|refine wP rfl ?_|refine aa rfl ?_|refine ab rfl ?_|refine wO rfl rfl ?_)
 have hlW:=hl.bh (fN ks) jI
 by_cases hlt:z < N
 ·refine VS.bD rfl (decide_eq_true (Int.ofNat_lt.2 hlt)) ?_
  obtain ⟨x,hx⟩:∃ x,l[z]? =some x:=⟨_,List.getElem?_eq_getElem (by omega)⟩
  obtain ⟨bx,off,cs,ma,hcs,hE⟩:=hlW.at hx
  subst ma
  obtain ⟨c1,c2',rfl,⟨p1,k1,r1,d1,rfl,e1⟩,⟨p2,k2,r2,d2,rfl,e2⟩,hf1,hf2⟩:=id hE
  obtain ⟨m1,m2,m3,m4,m5⟩:=hM.el (x.1.q,x.2.q) (List.mem_map.2 ⟨x,List.mem_of_getElem? hx,rfl⟩)
  (repeat first|refine wN ?_|refine wP rfl ?_|refine aa rfl ?_|refine ab rfl ?_|refine wO rfl rfl ?_)
  refine VO.cond rfl ⟨by omega,by omega⟩ (wV rfl ?_)
  refine VO.read rfl [.bool x.1.1,.slice p1 x.1.2.1.length k1,.bool x.1.2.2.1,.slice r1 x.1.2.2.2.length d1,.bool x.2.1,.slice p2 x.2.2.1.length k2,.bool x.2.2.2.1,.slice r2 x.2.2.2.2.length d2] rfl (Av hcs) (wV rfl ?_)
  (repeat (first | refine wN ?_ | refine wP rfl ?_ | refine wO rfl rfl ?_))
  refine VS.regionM (aL _ _) 4 rfl rfl rfl (VO.run 80 rfl ?_)
  refine VO.read rfl [.bool a.1,.slice pa a.2.1.length ca,.bool a.2.2.1,.slice ra a.2.2.2.length da,.bool b.1,.slice pb b.2.1.length cb,.bool b.2.2.1,.slice rb' b.2.2.2.length db,.int .i64 (kn:Int)] rfl (cls_at gj) (wV rfl ?_)
  refine VO.nil ⟨_,_,_,fun w=>cf Tryz.prog w 66,rfl,rfl,fk Tryz.func39,fun _=>rfl,fun _=>rfl,fun _=>aj.refl _,fun w1 EF b1=> ?_⟩
  have aV:aj W w1:=b1
  have hY:=Hu (kk:=kk) (ks:=ks) (D:=D) (M:=M) (hrun.bh aV) ((hR.kp (Kp.of (U:=UU) (jI.aJ aV))).v ha hb) (e:=(x.1.q,x.2.q)) (u:=.agg #[.bool x.1.1,.slice p1 x.1.2.1.length k1,.bool x.1.2.2.1,.slice r1 x.1.2.2.2.length d1,.bool x.2.1,.slice p2 x.2.2.1.length k2,.bool x.2.2.2.1,.slice r2 x.2.2.2.2.length d2]) ⟨_,_,_,_,_,_,_,_,_,_,_,_,_,_,_,_,rfl,(e1.kp (Kp.of (U:=UU) aV)).o9 hf1,(e2.kp (Kp.of (U:=UU) aV)).o9 hf2⟩ se yh yV m1 m2 m3 m4 m5 hM.sz hst (by omega) qU (jI.aJ aV).size
  rw [qX] at hY
  refine hY.mono ?_
  rintro o w2 ⟨rfl,hbut,Ky,hrun2⟩
  have hnb:=(hrun.bh aV).ty
  have hB2:aW w2 b2 Hw [.bool a.1,.slice pa a.2.1.length ca,.bool a.2.2.1,.slice ra a.2.2.2.length da,.bool b.1,.slice pb b.2.1.length cb,.bool b.2.2.1,.slice rb' b.2.2.2.length db,.int .i64 (kn:Int)].toArray:=(hbut.mX b2 (gj.bh aV).lt (fun hm=>by obtain ⟨t,cs,h1,h2,_⟩:=hnb b2 hm;exact h2 (bn h1 (gj.bh aV)))).trans (gj.bh aV)
  have hB4:aW w2 b4 ni #[.slice none 0 0,.slice none 0 0]:=(hbut.mX b4 (uG.bh aV).lt (fun hm=>by obtain ⟨t,cs,h1,_,h2⟩:=hnb b4 hm;exact h2 (bn h1 (uG.bh aV)))).trans (uG.bh aV)
  refine ⟨_,[(2,.pointer (some ⟨b2,0,none⟩)),(4,.pointer (some ⟨b4,0,none⟩)),(6,.pointer (some ⟨g,0,none⟩)),(27,.slice (some ⟨bx,off,none⟩) N cu),(28,.int .i64 (N:Int)),(29,.int .i64 (z:Int))],rfl,⟨rfl,rfl,rfl,rfl,rfl,rfl,trivial⟩,fun p hp e=> ?_,?_⟩
  ·simp only [List.mem_cons,List.not_mem_nil,or_false] at hp
   rcases hp with rfl | rfl | rfl | rfl | rfl | rfl <;> cases e
  (repeat first|refine wN ?_|refine wP rfl ?_|refine aa rfl ?_|refine ab rfl ?_|refine wO rfl rfl ?_)
  refine VS.backR rfl (N - (z + 1)) (by omega) [(2,.pointer (some ⟨b2,0,none⟩)),(4,.pointer (some ⟨b4,0,none⟩)),(6,.pointer (some ⟨g,0,none⟩)),(27,.slice (some ⟨bx,off,none⟩) N cu),(28,.int .i64 (N:Int)),(29,.int .i64 ((z + 1:Nat):Int))] ⟨rfl,rfl,rfl,rfl,rfl,?_,trivial⟩ (fun w3 k3 b3=> ?_)
  ·rw [←bW (i:=z) (by omega)];rfl
  have cC:aj w2 w3:=b3
  obtain ⟨y1,y2⟩:=FK (keep:=kn) hst m1 m2 m3 m4 m5
  rw [qX] at y1 y2
  refine ⟨z + 1,Ky,by omega,rfl,rfl,?_,?_,?_,hB2.bh cC,hB4.bh cC,(qn.bh (jI.aJ aV) hbut (hrun.bh aV).1).aJ cC⟩
  ·rw [tC hx,tB,qX];exact hrun2.bh cC
  ·rw [tC hx,tB,qX];exact y1
  ·rw [tC hx,tB,qX];exact y2
 refine VS.bt rfl (decide_eq_false (fun e=>hlt (Int.ofNat_lt.1 e))) ?_
 have hzN:z=N:=by omega
 have htk:l.take z=l:=List.take_of_length_le (by omega)
 rw [htk] at hrun hst qX
 (repeat first|refine wN ?_|refine wP rfl ?_|refine aa rfl ?_|refine ab rfl ?_|refine wO rfl rfl ?_)
 obtain ⟨had,vv,rr,uu,hg,hcase⟩:=hrun
 have nG:w.heap.size≤g:=ng
 rcases hcase with ⟨rfl,rfl,rfl,rfl,KO,ux,Bw⟩ | ⟨rb,rfl,rfl,rfl,KO,Bw,nr,cr,sK,uA,rfl,zg,hRr⟩ | ⟨vb,rb,rfl,rfl,Bw,⟨off,nq,cq,pre,KE,KD,rfl,AM,hVr⟩,nr,cr,sK,uA,rfl,zg,hRr⟩ | ⟨vb,rb,ub,rfl,⟨off,nq,cq,pre,KE,KD,rfl,AM,hVr⟩,⟨nr,cr,sK,uA,rfl,zg,hRr⟩,nu,cu',vsu,spu,rfl,hcU,hUr⟩
 ·refine VO.read rfl [.slice none 0 0] rfl (fun j u hj=> ?_) (wV rfl ?_)
  ·match j,hj with
   | 0,hj=>cases hj;exact hg.cell rfl
   | j + 1,hj=>cases hj
  (repeat first|refine wN ?_|refine wP rfl ?_|refine aa rfl ?_|refine ab rfl ?_|refine wO rfl rfl ?_)
  refine VS.sn (KU UU) (fun t=>Nat.beq t 22) table (fun _ _ _=>trivial) (fun w5 β5 k5 b5 en5=> ?_)
  have Dc:=hg.bh b5
  have ss:=uG.bh b5
  have Ht:b4≠g:=fun e=>by subst e;exact absurd (bn ss Dc) (by decide)
  have pC:iE (KU UU) 66 [b4,g] [(ni,[.val (.slice none 0 0),.val (.slice none 0 0)]),(Runner,[.val (.slice none 0 0),.val (.slice none 0 0),.val (.slice none 0 0)])] w5:=by
   refine ⟨rfl,by simp [Ht],fun j g' c' hj hc=> ?_,fun c' hc=> ?_,fun c' hc k hk=> ?_⟩
   ·match j,hj,hc with
    | 0,hj,hc=>cases hj;cases hc;exact ss
    | 1,hj,hc=>cases hj;cases hc;exact Dc
    | j + 2,hj,_=>simp at hj
   ·simp only [List.mem_cons,List.not_mem_nil,or_false] at hc
    rcases hc with rfl | rfl
    ·exact ⟨rfl,rfl⟩
    ·exact ⟨rfl,rfl⟩
   ·simp only [List.mem_cons,List.not_mem_nil,or_false] at hc
    rcases hc with rfl | rfl
    ·cases hk
    ·cases hk
  refine ⟨[b4,g],_,pC,[(4,.box 132 0),(6,.box 133 0),(44,.val (.slice none 0 0)),(45,.val (.int .i64 ((0:Nat):Int))),(46,.val (.int .i64 0))],⟨?_,?_,⟨_,rfl,rfl,fun i hi=>by cases hi⟩,⟨_,rfl,rfl,fun i hi=>by cases hi⟩,⟨_,rfl,rfl,fun i hi=>by cases hi⟩,trivial⟩,?_⟩
  ·refine ⟨_,rfl,rfl,fun i hi=> ?_⟩
   have:i=132:=by simpa [AV.ids] using hi
   subst this;exact ⟨by show 132≤132;omega,by show 132 < 2 * 66 + 2;omega⟩
  ·refine ⟨_,rfl,rfl,fun i hi=> ?_⟩
   have:i=133:=by simpa [AV.ids] using hi
   subst this;exact ⟨by show 132≤133;omega,by show 133 < 2 * 66 + 2;omega⟩
  refine VS.loop (J:=fun m L M w'=>L=[(4,.box 132 0),(6,.box 133 0),(44,.val (.slice none 0 0)),(45,.val (.int .i64 ((0:Nat):Int))),(46,.val (.int .i64 0))]∧M=[(132,(ni,[.val (.slice none 0 0),.val (.slice none 0 0)])),(133,(Runner,[.val (.slice none 0 0),.val (.slice none 0 0),.val (.slice none 0 0)]))]) 0 ⟨_,_,?_,?_,?_,?_,⟨rfl,rfl⟩⟩ ?_
  ·(repeat first|exact trivial|refine ⟨rfl,?_⟩)
  ·(repeat first|exact trivial|refine ⟨rfl,?_⟩)
  ·rfl
  ·exact ⟨.lit rfl,.lit rfl,trivial⟩
  rintro m L M w6 ⟨rfl,rfl⟩
  (repeat first|refine wN ?_|refine wP rfl ?_|refine af rfl ?_|refine ag rfl ?_|refine wO rfl rfl ?_)
  refine VS.om (bj _ _) rfl (fun wz βz kz oz enz=> ?_)
  have D5:aj w wz:=qn.bh (jI.aJ b5) oz.1 (fun x hx=>by simp only [List.mem_cons,List.not_mem_nil,or_false] at hx;rcases hx with rfl | rfl <;> assumption)
  refine ⟨_,_,rfl,?_,D5⟩
  show sq w.heap.size wz _ _ (eE (gi a.q b.q kn (ed l)).q (gi a.q b.q kn (ed l)).rows,(gi a.q b.q kn (ed l)).uses)
  rw [KO,ux,Bw]
  exact ⟨.inl ⟨rfl,rfl⟩,.inl ⟨rfl,rfl⟩⟩
 ·obtain ⟨rows,ux⟩:∃ rows,(gi a.q b.q kn (ed l)).rows=rows:=⟨_,rfl⟩
  rw [ux] at hRr
  have nRb:w.heap.size≤rb:=had rb (by simp)
  refine VO.read rfl [.slice none 0 0] rfl (fun j u hj=> ?_) (wV rfl ?_)
  ·match j,hj with
   | 0,hj=>cases hj;exact hg.cell rfl
   | j + 1,hj=>cases hj
  (repeat first|refine wN ?_|refine wP rfl ?_|refine aa rfl ?_|refine ab rfl ?_|refine wO rfl rfl ?_)
  refine VS.sn (KU UU) (fun t=>Nat.beq t 22) table (fun _ _ _=>trivial) (fun w5 β5 k5 b5 en5=> ?_)
  have Dc:=hg.bh b5
  have ss:=uG.bh b5
  have xB:=zg.bh b5
  have hR5:=hRr.kp (az w.heap.size) (Kp.of (U:=UU) b5)
  have Ht:b4≠g:=fun e=>by subst e;exact absurd (bn ss Dc) (by decide)
  have h02:b4≠rb:=fun e=>by subst e;exact absurd (bn ss xB) (by decide)
  have zU:g≠rb:=fun e=>by subst e;exact absurd (bn Dc xB) (by decide)
  have pC:iE (KU UU) 66 [b4,g,rb] [(ni,[.val (.slice none 0 0),.val (.slice none 0 0)]),(Runner,[.val (.slice none 0 0),.row 134 0 nr cr,.val (.slice none 0 0)]),(dT,sK.flatten.map .val++uA.map .val)] w5:=by
   refine ⟨rfl,by simp [Ht,h02,zU],fun j g' c' hj hc=> ?_,fun c' hc=> ?_,fun c' hc k hk=> ?_⟩
   ·match j,hj,hc with
    | 0,hj,hc=>cases hj;cases hc;exact ss
    | 1,hj,hc=>cases hj;cases hc;exact Dc
    | 2,hj,hc=>cases hj;cases hc;rw [←List.map_append,ah];exact xB
    | j + 3,hj,_=>simp at hj
   ·simp only [List.mem_cons,List.not_mem_nil,or_false] at hc
    rcases hc with rfl | rfl | rfl
    ·exact ⟨rfl,rfl⟩
    ·exact ⟨rfl,rfl⟩
    ·exact ⟨rfl,by rw [←List.map_append];exact ba (hR5.all (az _))⟩
   ·simp only [List.mem_cons,List.not_mem_nil,or_false] at hc
    rcases hc with rfl | rfl | rfl
    ·cases hk
    ·have:k=134:=by simpa [ax,AV.cK] using hk
     subst this;exact ⟨by omega,by show 134 < 2 * 66 + 3;omega⟩
    ·rw [←List.map_append,ao] at hk;cases hk
  refine ⟨[b4,g,rb],_,pC,[(4,.box 132 0),(6,.box 133 0),(44,.val (.slice none 0 0)),(45,.val (.int .i64 ((0:Nat):Int))),(46,.val (.int .i64 0))],⟨?_,?_,⟨_,rfl,rfl,fun i hi=>by cases hi⟩,⟨_,rfl,rfl,fun i hi=>by cases hi⟩,⟨_,rfl,rfl,fun i hi=>by cases hi⟩,trivial⟩,?_⟩
  ·refine ⟨_,rfl,rfl,fun i hi=> ?_⟩
   have:i=132:=by simpa [AV.ids] using hi
   subst this;exact ⟨by show 132≤132;omega,by show 132 < 2 * 66 + 3;omega⟩
  ·refine ⟨_,rfl,rfl,fun i hi=> ?_⟩
   have:i=133:=by simpa [AV.ids] using hi
   subst this;exact ⟨by show 132≤133;omega,by show 133 < 2 * 66 + 3;omega⟩
  refine VS.loop (J:=fun m L M w'=>L=[(4,.box 132 0),(6,.box 133 0),(44,.val (.slice none 0 0)),(45,.val (.int .i64 ((0:Nat):Int))),(46,.val (.int .i64 0))]∧M=[(132,(ni,[.val (.slice none 0 0),.val (.slice none 0 0)])),(133,(Runner,[.val (.slice none 0 0),.row 134 0 nr cr,.val (.slice none 0 0)])),(134,(dT,sK.flatten.map .val++uA.map .val))]∧aF (KU UU) w5 w') 0 ⟨_,_,?_,?_,?_,?_,⟨rfl,rfl,kR _⟩⟩ ?_
  ·(repeat first|exact trivial|refine ⟨rfl,?_⟩)
  ·(repeat first|exact trivial|refine ⟨rfl,?_⟩)
  ·rfl
  ·exact ⟨.lit rfl,.lit rfl,.append (.vals _) (.vals _),trivial⟩
  rintro m L M w6 ⟨rfl,rfl,kw6⟩
  (repeat first|refine wN ?_|refine wP rfl ?_|refine af rfl ?_|refine ag rfl ?_|refine wO rfl rfl ?_)
  refine VS.om (bj _ _) rfl (fun wz βz kz oz enz=> ?_)
  have D5:aj w wz:=qn.bh (jI.aJ b5) oz.1 (fun x hx=>by simp only [List.mem_cons,List.not_mem_nil,or_false] at hx;rcases hx with rfl | rfl | rfl <;> assumption)
  obtain ⟨o5,o6⟩:=ea (enz.own 134 _ _ rfl) 2 rb rfl rfl
  replace o5:βz 134=rb:=o5
  rw [List.map_append,ah] at o6
  refine ⟨_,_,rfl,?_,D5⟩
  show sq w.heap.size wz _ _ (eE (gi a.q b.q kn (ed l)).q (gi a.q b.q kn (ed l)).rows,(gi a.q b.q kn (ed l)).uses)
  rw [KO,ux,Bw]
  exact ⟨.inr ⟨rb,nRb,_,_,_,_,congrArg (fun g=>Value.slice (some ⟨g,0,none⟩) nr cr) o5,o6,(hR5.a.kp (az _) (by (with_reducible (repeat (first | assumption | exact kU _ | exact kR _ | exact Kp.of (U:=UU) (by assumption) | exact aF.of (by assumption) | refine kT ?_ (by assumption)))))).o βz⟩,.inl ⟨rfl,rfl⟩⟩
 ·obtain ⟨q,KO⟩:∃ q,(gi a.q b.q kn (ed l)).q=q:=⟨_,rfl⟩
  obtain ⟨rows,ux⟩:∃ rows,(gi a.q b.q kn (ed l)).rows=rows:=⟨_,rfl⟩
  rw [ux] at hRr
  rw [KO] at hVr
  have nRb:w.heap.size≤rb:=had rb (by simp)
  have hv4:vb≠b4:=fun e=>by subst e;exact absurd (bn AM uG) (by decide)
  have hvg:vb≠g:=fun e=>by subst e;exact absurd (bn AM hg) (by decide)
  have hvr:vb≠rb:=fun e=>by subst e;exact absurd (bn AM zg) (by decide)
  refine VO.read rfl [.slice (some ⟨vb,off,none⟩) nq cq] rfl (fun j u hj=> ?_) (wV rfl ?_)
  ·match j,hj with
   | 0,hj=>cases hj;exact hg.cell rfl
   | j + 1,hj=>cases hj
  (repeat first|refine wN ?_|refine wP rfl ?_|refine aa rfl ?_|refine ab rfl ?_|refine wO rfl rfl ?_)
  refine VS.sn (KU UU) (fun t=>Nat.beq t 22) table (fun _ _ _=>trivial) (fun w5 β5 k5 b5 en5=> ?_)
  have Dc:=hg.bh b5
  have ss:=uG.bh b5
  have xB:=zg.bh b5
  have hR5:=hRr.kp (az w.heap.size) (Kp.of (U:=UU) b5)
  have KP:=AM.bh b5
  have KQ:=hVr.kp (aM w.heap.size) (Kp.of (U:=UU) b5)
  have Ht:b4≠g:=fun e=>by subst e;exact absurd (bn ss Dc) (by decide)
  have h02:b4≠rb:=fun e=>by subst e;exact absurd (bn ss xB) (by decide)
  have zU:g≠rb:=fun e=>by subst e;exact absurd (bn Dc xB) (by decide)
  have pC:iE (KU UU) 66 [b4,g,rb] [(ni,[.val (.slice none 0 0),.val (.slice none 0 0)]),(Runner,[.val (.slice (some ⟨vb,off,none⟩) nq cq),.row 134 0 nr cr,.val (.slice none 0 0)]),(dT,sK.flatten.map .val++uA.map .val)] w5:=by
   refine ⟨rfl,by simp [Ht,h02,zU],fun j g' c' hj hc=> ?_,fun c' hc=> ?_,fun c' hc k hk=> ?_⟩
   ·match j,hj,hc with
    | 0,hj,hc=>cases hj;cases hc;exact ss
    | 1,hj,hc=>cases hj;cases hc;exact Dc
    | 2,hj,hc=>cases hj;cases hc;rw [←List.map_append,ah];exact xB
    | j + 3,hj,_=>simp at hj
   ·simp only [List.mem_cons,List.not_mem_nil,or_false] at hc
    rcases hc with rfl | rfl | rfl
    ·exact ⟨rfl,rfl⟩
    ·exact ⟨rfl,rfl⟩
    ·exact ⟨rfl,by rw [←List.map_append];exact ba (hR5.all (az _))⟩
   ·simp only [List.mem_cons,List.not_mem_nil,or_false] at hc
    rcases hc with rfl | rfl | rfl
    ·cases hk
    ·have:k=134:=by simpa [ax,AV.cK] using hk
     subst this;exact ⟨by omega,by show 134 < 2 * 66 + 3;omega⟩
    ·rw [←List.map_append,ao] at hk;cases hk
  refine ⟨[b4,g,rb],_,pC,[(4,.box 132 0),(6,.box 133 0),(44,.val (.slice (some ⟨vb,off,none⟩) nq cq)),(45,.val (.int .i64 ((nq:Nat):Int))),(46,.val (.int .i64 0))],⟨?_,?_,⟨_,rfl,rfl,fun i hi=>by cases hi⟩,⟨_,rfl,rfl,fun i hi=>by cases hi⟩,⟨_,rfl,rfl,fun i hi=>by cases hi⟩,trivial⟩,?_⟩
  ·refine ⟨_,rfl,rfl,fun i hi=> ?_⟩
   have:i=132:=by simpa [AV.ids] using hi
   subst this;exact ⟨by show 132≤132;omega,by show 132 < 2 * 66 + 3;omega⟩
  ·refine ⟨_,rfl,rfl,fun i hi=> ?_⟩
   have:i=133:=by simpa [AV.ids] using hi
   subst this;exact ⟨by show 132≤133;omega,by show 133 < 2 * 66 + 3;omega⟩
  refine VS.loop (J:=fun m L M w'=>∃ (z:Nat) (vs:List (List Value)) (lX:List aN),z≤nq∧m=nq - z∧L=[(4,.box 132 0),(6,.box 133 0),(44,.val (.slice (some ⟨vb,off,none⟩) nq cq)),(45,.val (.int .i64 ((nq:Nat):Int))),(46,.val (.int .i64 (z:Int)))]∧M=[(132,(ni,[.val (.slice none 0 0),.val (.slice none 0 0)])),(133,(Runner,[.val (.slice (some ⟨vb,off,none⟩) nq cq),.row 134 0 nr cr,.val (.slice none 0 0)])),(134,(dT,vs.flatten.map .val++uA.map .val))]∧nd (dD w.heap.size) 28 w' nr cr vs (uA.map .val) lX∧eE (q.drop z) lX=eE q rows∧aF (KU UU) w5 w') nq ⟨_,_,?_,?_,?_,?_,⟨0,sK,rows,Nat.zero_le _,rfl,rfl,rfl,hR5.a,rfl,kR _⟩⟩ ?_
  ·(repeat first|exact trivial|refine ⟨rfl,?_⟩)
  ·(repeat first|exact trivial|refine ⟨rfl,?_⟩)
  ·rfl
  ·exact ⟨.lit rfl,.lit rfl,.append (.vals _) (.vals _),trivial⟩
  rintro m L M w6 ⟨z',vs,lX,C9,rfl,rfl,rfl,tD,jq,kw6⟩
  (repeat first|refine wN ?_|refine wP rfl ?_|refine af rfl ?_|refine ag rfl ?_|refine wO rfl rfl ?_)
  by_cases Ci:z' < nq
  ·refine VS.bD rfl (decide_eq_true (Int.ofNat_lt.2 Ci)) ?_
   obtain ⟨pp,ma⟩:∃ pp,q[z']? =some pp:=⟨_,List.getElem?_eq_getElem (by rw [←KQ.len];exact Ci)⟩
   obtain ⟨cs,hcs,hE5⟩:=KN KP KQ ma
   obtain ⟨s9,p9,n9,c9,t9,y9,m9,d9,rfl,Ho⟩:=hE5
   (repeat first|refine wN ?_|refine wP rfl ?_|refine af rfl ?_|refine ag rfl ?_|refine wO rfl rfl ?_)
   refine VO.cond rfl ⟨by omega,by omega⟩ (wV rfl ?_)
   refine VO.jr rfl [.int .i64 (pp.1:Int),.bool s9,.slice p9 n9 c9,.bool t9,.slice y9 m9 d9] rfl (mQ KP.lt (by simp [hv4,hvg,hvr]) (Av hcs)) (wV rfl ?_)
   (repeat first|refine wN ?_|refine wP rfl ?_|refine af rfl ?_|refine ag rfl ?_|refine wO rfl rfl ?_)
   have BP:pp.1 < nr:=by
    rw [hRr.len]
    exact (hst.el pp (by rw [KO];exact List.mem_of_getElem? ma)).2.2.2 |> fun h=>by rw [ux] at h;exact h
   refine VO.cond rfl ⟨by omega,by omega⟩ (wV rfl ?_)
   have ff:=tD.len
   obtain ⟨rq,zd⟩:∃ rq,lX[pp.1]? =some rq:=⟨_,List.getElem?_eq_getElem (by rw [←ff];exact BP)⟩
   obtain ⟨ze,tz,zf⟩:=tD.el.at pp.1 rq zd
   have gF:=tD.fl
   have Hq:=tD.le
   refine VO.cond rfl (by show 0 + ((pp.1:Int)).toNat * 28 + 24 + 4≤_;rw [gF,Int.toNat_natCast];omega) (VO.fo 134 rfl (kc (new:=[.bool s9,.slice p9 n9 c9,.bool t9,.slice y9 m9 d9]) (o:=24) (tD.el.lens (az _)) tz (Nat.le_of_ble_eq_true rfl)) (wV rfl ?_))
   (repeat first|refine wN ?_|refine wP rfl ?_|refine af rfl ?_|refine ag rfl ?_|refine wO rfl rfl ?_)
   refine VS.back (nq - (z' + 1)) (by omega) ⟨_,_,?_,?_,?_,?_,⟨z' + 1,vs.set pp.1 (ze.take 24++(([.bool s9,.slice p9 n9 c9,.bool t9,.slice y9 m9 d9]:List Value)++ze.drop (24 + ([.bool s9,.slice p9 n9 c9,.bool t9,.slice y9 m9 d9]:List Value).length))),lX.modify pp.1 (fun r=>{ r with closing:=pp.2 }),by omega,rfl,rfl,rfl,?_,?_,kw6⟩⟩
   ·refine ⟨rfl,rfl,rfl,rfl,?_,trivial⟩
    rw [←bW (i:=z') (by have:=KQ.cm;have:=KQ.le;omega)];rfl
   ·(repeat first|exact trivial|refine ⟨rfl,?_⟩)
   ·rfl
   ·exact ⟨.lit rfl,.lit rfl,.append (.vals _) (.vals _),trivial⟩
   ·refine ⟨by rw [List.length_modify];exact ff,by rw [gI zd];exact tD.el.set (CN zf ⟨_,_,_,_,_,_,_,_,rfl,Ho.kp kw6⟩),tD.so,tD.sl,tD.le,tD.cm,?_⟩
    rw [List.length_append,List.length_map,cV (ke (tD.el.lens (az _)) (CO ((az _).len zf) rfl)),List.length_set]
    rw [List.length_append,List.length_map,cV (tD.el.lens (az _))] at gF
    exact gF
   ·rw [←jq]
    obtain ⟨hlq,hqe⟩:=List.getElem?_eq_some_iff.1 ma
    rw [List.drop_eq_getElem_cons hlq,hqe];rfl
  refine VS.bt rfl (decide_eq_false (fun e=>Ci (Int.ofNat_lt.1 e))) ?_
  have hzn:z'=nq:=by omega
  have hdn:q.drop z'=[]:=List.drop_of_length_le (by rw [←KQ.len];omega)
  rw [hdn] at jq
  replace jq:lX=eE q rows:=jq
  (repeat first|refine wN ?_|refine wP rfl ?_|refine af rfl ?_|refine ag rfl ?_|refine wO rfl rfl ?_)
  refine VS.om (bj _ _) rfl (fun wz βz kz oz enz=> ?_)
  have D5:aj w wz:=qn.bh (jI.aJ b5) oz.1 (fun x hx=>by simp only [List.mem_cons,List.not_mem_nil,or_false] at hx;rcases hx with rfl | rfl | rfl <;> assumption)
  obtain ⟨o5,o6⟩:=ea (enz.own 134 _ _ rfl) 2 rb rfl rfl
  replace o5:βz 134=rb:=o5
  rw [List.map_append,ah] at o6
  refine ⟨_,_,rfl,?_,D5⟩
  show sq w.heap.size wz _ _ (eE (gi a.q b.q kn (ed l)).q (gi a.q b.q kn (ed l)).rows,(gi a.q b.q kn (ed l)).uses)
  rw [KO,ux,Bw]
  exact ⟨.inr ⟨rb,nRb,_,_,_,_,congrArg (fun g=>Value.slice (some ⟨g,0,none⟩) nr cr) o5,o6,((jq▸tD).kp (az _) (by (with_reducible (repeat (first | assumption | exact kU _ | exact kR _ | exact Kp.of (U:=UU) (by assumption) | exact aF.of (by assumption) | refine kT ?_ (by assumption)))))).o βz⟩,.inl ⟨rfl,rfl⟩⟩
 ·obtain ⟨q,KO⟩:∃ q,(gi a.q b.q kn (ed l)).q=q:=⟨_,rfl⟩
  obtain ⟨rows,ux⟩:∃ rows,(gi a.q b.q kn (ed l)).rows=rows:=⟨_,rfl⟩
  obtain ⟨us,Bw⟩:∃ us,(gi a.q b.q kn (ed l)).uses=us:=⟨_,rfl⟩
  rw [ux] at hRr
  rw [KO] at hVr
  rw [Bw] at hUr
  have nRb:w.heap.size≤rb:=had rb (by simp)
  have nUb:w.heap.size≤ub:=had ub (by simp)
  have hv4:vb≠b4:=fun e=>by subst e;exact absurd (bn AM uG) (by decide)
  have hvg:vb≠g:=fun e=>by subst e;exact absurd (bn AM hg) (by decide)
  have hvr:vb≠rb:=fun e=>by subst e;exact absurd (bn AM zg) (by decide)
  have hu4:ub≠b4:=fun e=>by subst e;exact absurd (bn hcU uG) (by decide)
  have hug:ub≠g:=fun e=>by subst e;exact absurd (bn hcU hg) (by decide)
  have hur:ub≠rb:=fun e=>by subst e;exact absurd (bn hcU zg) (by decide)
  refine VO.read rfl [.slice (some ⟨vb,off,none⟩) nq cq] rfl (fun j u hj=> ?_) (wV rfl ?_)
  ·match j,hj with
   | 0,hj=>cases hj;exact hg.cell rfl
   | j + 1,hj=>cases hj
  (repeat first|refine wN ?_|refine wP rfl ?_|refine aa rfl ?_|refine ab rfl ?_|refine wO rfl rfl ?_)
  refine VS.sn (KU UU) (fun t=>Nat.beq t 22) table (fun _ _ _=>trivial) (fun w5 β5 k5 b5 en5=> ?_)
  have Dc:=hg.bh b5
  have ss:=uG.bh b5
  have xB:=zg.bh b5
  have hR5:=hRr.kp (az w.heap.size) (Kp.of (U:=UU) b5)
  have KP:=AM.bh b5
  have KQ:=hVr.kp (aM w.heap.size) (Kp.of (U:=UU) b5)
  have hcU5:=hcU.bh b5
  have hU5:=hUr.kp (dk w.heap.size) (Kp.of (U:=UU) b5)
  have Ht:b4≠g:=fun e=>by subst e;exact absurd (bn ss Dc) (by decide)
  have h02:b4≠rb:=fun e=>by subst e;exact absurd (bn ss xB) (by decide)
  have zU:g≠rb:=fun e=>by subst e;exact absurd (bn Dc xB) (by decide)
  have pC:iE (KU UU) 66 [b4,g,rb] [(ni,[.val (.slice none 0 0),.val (.slice none 0 0)]),(Runner,[.val (.slice (some ⟨vb,off,none⟩) nq cq),.row 134 0 nr cr,.val (.slice (some ⟨ub,0,none⟩) nu cu')]),(dT,sK.flatten.map .val++uA.map .val)] w5:=by
   refine ⟨rfl,by simp [Ht,h02,zU],fun j g' c' hj hc=> ?_,fun c' hc=> ?_,fun c' hc k hk=> ?_⟩
   ·match j,hj,hc with
    | 0,hj,hc=>cases hj;cases hc;exact ss
    | 1,hj,hc=>cases hj;cases hc;exact Dc
    | 2,hj,hc=>cases hj;cases hc;rw [←List.map_append,ah];exact xB
    | j + 3,hj,_=>simp at hj
   ·simp only [List.mem_cons,List.not_mem_nil,or_false] at hc
    rcases hc with rfl | rfl | rfl
    ·exact ⟨rfl,rfl⟩
    ·exact ⟨rfl,rfl⟩
    ·exact ⟨rfl,by rw [←List.map_append];exact ba (hR5.all (az _))⟩
   ·simp only [List.mem_cons,List.not_mem_nil,or_false] at hc
    rcases hc with rfl | rfl | rfl
    ·cases hk
    ·have:k=134:=by simpa [ax,AV.cK] using hk
     subst this;exact ⟨by omega,by show 134 < 2 * 66 + 3;omega⟩
    ·rw [←List.map_append,ao] at hk;cases hk
  refine ⟨[b4,g,rb],_,pC,[(4,.box 132 0),(6,.box 133 0),(44,.val (.slice (some ⟨vb,off,none⟩) nq cq)),(45,.val (.int .i64 ((nq:Nat):Int))),(46,.val (.int .i64 0))],⟨?_,?_,⟨_,rfl,rfl,fun i hi=>by cases hi⟩,⟨_,rfl,rfl,fun i hi=>by cases hi⟩,⟨_,rfl,rfl,fun i hi=>by cases hi⟩,trivial⟩,?_⟩
  ·refine ⟨_,rfl,rfl,fun i hi=> ?_⟩
   have:i=132:=by simpa [AV.ids] using hi
   subst this;exact ⟨by show 132≤132;omega,by show 132 < 2 * 66 + 3;omega⟩
  ·refine ⟨_,rfl,rfl,fun i hi=> ?_⟩
   have:i=133:=by simpa [AV.ids] using hi
   subst this;exact ⟨by show 132≤133;omega,by show 133 < 2 * 66 + 3;omega⟩
  refine VS.loop (J:=fun m L M w'=>∃ (z:Nat) (vs:List (List Value)) (lX:List aN),z≤nq∧m=nq - z∧L=[(4,.box 132 0),(6,.box 133 0),(44,.val (.slice (some ⟨vb,off,none⟩) nq cq)),(45,.val (.int .i64 ((nq:Nat):Int))),(46,.val (.int .i64 (z:Int)))]∧M=[(132,(ni,[.val (.slice none 0 0),.val (.slice none 0 0)])),(133,(Runner,[.val (.slice (some ⟨vb,off,none⟩) nq cq),.row 134 0 nr cr,.val (.slice (some ⟨ub,0,none⟩) nu cu')])),(134,(dT,vs.flatten.map .val++uA.map .val))]∧nd (dD w.heap.size) 28 w' nr cr vs (uA.map .val) lX∧eE (q.drop z) lX=eE q rows∧aF (KU UU) w5 w') nq ⟨_,_,?_,?_,?_,?_,⟨0,sK,rows,Nat.zero_le _,rfl,rfl,rfl,hR5.a,rfl,kR _⟩⟩ ?_
  ·(repeat first|exact trivial|refine ⟨rfl,?_⟩)
  ·(repeat first|exact trivial|refine ⟨rfl,?_⟩)
  ·rfl
  ·exact ⟨.lit rfl,.lit rfl,.append (.vals _) (.vals _),trivial⟩
  rintro m L M w6 ⟨z',vs,lX,C9,rfl,rfl,rfl,tD,jq,kw6⟩
  (repeat first|refine wN ?_|refine wP rfl ?_|refine af rfl ?_|refine ag rfl ?_|refine wO rfl rfl ?_)
  by_cases Ci:z' < nq
  ·refine VS.bD rfl (decide_eq_true (Int.ofNat_lt.2 Ci)) ?_
   obtain ⟨pp,ma⟩:∃ pp,q[z']? =some pp:=⟨_,List.getElem?_eq_getElem (by rw [←KQ.len];exact Ci)⟩
   obtain ⟨cs,hcs,hE5⟩:=KN KP KQ ma
   obtain ⟨s9,p9,n9,c9,t9,y9,m9,d9,rfl,Ho⟩:=hE5
   (repeat first|refine wN ?_|refine wP rfl ?_|refine af rfl ?_|refine ag rfl ?_|refine wO rfl rfl ?_)
   refine VO.cond rfl ⟨by omega,by omega⟩ (wV rfl ?_)
   refine VO.jr rfl [.int .i64 (pp.1:Int),.bool s9,.slice p9 n9 c9,.bool t9,.slice y9 m9 d9] rfl (mQ KP.lt (by simp [hv4,hvg,hvr]) (Av hcs)) (wV rfl ?_)
   (repeat first|refine wN ?_|refine wP rfl ?_|refine af rfl ?_|refine ag rfl ?_|refine wO rfl rfl ?_)
   have BP:pp.1 < nr:=by
    rw [hRr.len]
    exact (hst.el pp (by rw [KO];exact List.mem_of_getElem? ma)).2.2.2 |> fun h=>by rw [ux] at h;exact h
   refine VO.cond rfl ⟨by omega,by omega⟩ (wV rfl ?_)
   have ff:=tD.len
   obtain ⟨rq,zd⟩:∃ rq,lX[pp.1]? =some rq:=⟨_,List.getElem?_eq_getElem (by rw [←ff];exact BP)⟩
   obtain ⟨ze,tz,zf⟩:=tD.el.at pp.1 rq zd
   have gF:=tD.fl
   have Hq:=tD.le
   refine VO.cond rfl (by show 0 + ((pp.1:Int)).toNat * 28 + 24 + 4≤_;rw [gF,Int.toNat_natCast];omega) (VO.fo 134 rfl (kc (new:=[.bool s9,.slice p9 n9 c9,.bool t9,.slice y9 m9 d9]) (o:=24) (tD.el.lens (az _)) tz (Nat.le_of_ble_eq_true rfl)) (wV rfl ?_))
   (repeat first|refine wN ?_|refine wP rfl ?_|refine af rfl ?_|refine ag rfl ?_|refine wO rfl rfl ?_)
   refine VS.back (nq - (z' + 1)) (by omega) ⟨_,_,?_,?_,?_,?_,⟨z' + 1,vs.set pp.1 (ze.take 24++(([.bool s9,.slice p9 n9 c9,.bool t9,.slice y9 m9 d9]:List Value)++ze.drop (24 + ([.bool s9,.slice p9 n9 c9,.bool t9,.slice y9 m9 d9]:List Value).length))),lX.modify pp.1 (fun r=>{ r with closing:=pp.2 }),by omega,rfl,rfl,rfl,?_,?_,kw6⟩⟩
   ·refine ⟨rfl,rfl,rfl,rfl,?_,trivial⟩
    rw [←bW (i:=z') (by have:=KQ.cm;have:=KQ.le;omega)];rfl
   ·(repeat first|exact trivial|refine ⟨rfl,?_⟩)
   ·rfl
   ·exact ⟨.lit rfl,.lit rfl,.append (.vals _) (.vals _),trivial⟩
   ·refine ⟨by rw [List.length_modify];exact ff,by rw [gI zd];exact tD.el.set (CN zf ⟨_,_,_,_,_,_,_,_,rfl,Ho.kp kw6⟩),tD.so,tD.sl,tD.le,tD.cm,?_⟩
    rw [List.length_append,List.length_map,cV (ke (tD.el.lens (az _)) (CO ((az _).len zf) rfl)),List.length_set]
    rw [List.length_append,List.length_map,cV (tD.el.lens (az _))] at gF
    exact gF
   ·rw [←jq]
    obtain ⟨hlq,hqe⟩:=List.getElem?_eq_some_iff.1 ma
    rw [List.drop_eq_getElem_cons hlq,hqe];rfl
  refine VS.bt rfl (decide_eq_false (fun e=>Ci (Int.ofNat_lt.1 e))) ?_
  have hzn:z'=nq:=by omega
  have hdn:q.drop z'=[]:=List.drop_of_length_le (by rw [←KQ.len];omega)
  rw [hdn] at jq
  replace jq:lX=eE q rows:=jq
  (repeat first|refine wN ?_|refine wP rfl ?_|refine af rfl ?_|refine ag rfl ?_|refine wO rfl rfl ?_)
  refine VS.om (bj _ _) rfl (fun wz βz kz oz enz=> ?_)
  have D5:aj w wz:=qn.bh (jI.aJ b5) oz.1 (fun x hx=>by simp only [List.mem_cons,List.not_mem_nil,or_false] at hx;rcases hx with rfl | rfl | rfl <;> assumption)
  obtain ⟨o5,o6⟩:=ea (enz.own 134 _ _ rfl) 2 rb rfl rfl
  replace o5:βz 134=rb:=o5
  rw [List.map_append,ah] at o6
  refine ⟨_,_,rfl,?_,D5⟩
  show sq w.heap.size wz _ _ (eE (gi a.q b.q kn (ed l)).q (gi a.q b.q kn (ed l)).rows,(gi a.q b.q kn (ed l)).uses)
  rw [KO,ux,Bw]
  exact ⟨.inr ⟨rb,nRb,_,_,_,_,congrArg (fun g=>Value.slice (some ⟨g,0,none⟩) nr cr) o5,o6,((jq▸tD).kp (az _) (by (with_reducible (repeat (first | assumption | exact kU _ | exact kR _ | exact Kp.of (U:=UU) (by assumption) | exact aF.of (by assumption) | refine kT ?_ (by assumption)))))).o βz⟩,.inr ⟨ub,nUb,_,_,_,_,rfl,(oz.1.mX ub hcU5.lt (by simp [hu4,hug,hur])).trans hcU5,hU5.kp (dk _) (by (with_reducible (repeat (first | assumption | exact kU _ | exact kR _ | exact Kp.of (U:=UU) (by assumption) | exact aF.of (by assumption) | refine kT ?_ (by assumption)))))⟩⟩
end Go.Proofs.YtabalinjfgcfeaaGreat
namespace Go.Proofs.YtabalinjfgcfeaaGreat
open Go.RowKit
theorem FQ (x:Rat):x * (((x.den:Nat):Int):Rat)=((x.num:Int):Rat):=by
 have h:((((x.den:Nat):Int):Int):Rat)≠0:=fun e=>by
  have:((x.den:Int):Rat)=((0:Int):Rat):=e
  have:=Rat.intCast_inj.1 this
  have:=x.den_nz;omega
 conv=>lhs;lhs;rw [←Rat.num_divInt_den x,Rat.divInt_eq_div]
 exact Rat.div_mul_cancel h
theorem Iz.Aw {D:Nat} {x:Rat} (h:x.den∣D):Iz D x:=by
 obtain ⟨k,rfl⟩:=h
 refine ⟨x.num * (k:Int),?_⟩
 rw [Int.natCast_mul,Rat.intCast_mul,Rat.intCast_mul,←FQ x];grind
theorem Iz.up {D E:Nat} {x:Rat} (h:Iz D x):Iz (D * E) x:=by
 obtain ⟨n,hn⟩:=h
 exact ⟨n * (E:Int),by rw [Int.natCast_mul,Rat.intCast_mul,Rat.intCast_mul,←hn];grind⟩
theorem rsz_of {D M kk:Nat} {x:Rat} (hD:0 < D) (hI:Iz D x) (h1: -((M:Int):Rat)≤x) (h2:x≤((M:Int):Rat)) (hk:M * D < 4294967296 ^ kk) (hk2:D < 4294967296 ^ kk):dQ x kk:=by
 obtain ⟨n,hn⟩:=hI
 have hD':(0:Rat) < ((D:Int):Rat):=by
  have:((0:Int):Rat) < ((D:Int):Rat):=Rat.intCast_lt_intCast.2 (by omega)
  exact this
 have hDn:((D:Int):Rat)≠0:=by grind
 have hx:x=Rat.divInt n (D:Int):=by
  rw [Rat.divInt_eq_div,←hn,Rat.div_def,Rat.mul_assoc,Rat.mul_inv_cancel _ hDn,Rat.mul_one]
 have b1:n≤(M:Int) * (D:Int):=by
  have:=Rat.mul_le_mul_of_nonneg_right h2 (Rat.le_of_lt hD')
  rw [hn,←Rat.intCast_mul] at this
  exact Rat.intCast_le_intCast.1 this
 have b2: -((M:Int) * (D:Int))≤n:=by
  have:=Rat.mul_le_mul_of_nonneg_right h1 (Rat.le_of_lt hD')
  rw [hn,←Rat.intCast_neg,←Rat.intCast_mul] at this
  have:=Rat.intCast_le_intCast.1 this
  rw [Int.neg_mul] at this
  exact this
 rw [hx]
 refine jO (Sz.of_lt ?_) (Sz.of_lt (by simpa using hk2)) (by omega)
 have:n.natAbs≤M * D:=by
  have e:((M * D:Nat):Int)=(M:Int) * (D:Int):=Int.natCast_mul ..
  omega
 omega
def sw:List (Rat×Rat)→Nat
 | []=>1
 | e::l=>e.1.den * e.2.den * sw l
theorem CP:∀ l:List (Rat×Rat),0 < sw l
 | []=>by decide
 | e::l=>Nat.mul_pos (Nat.mul_pos e.1.den_pos e.2.den_pos) (CP l)
theorem CQ:∀ {l:List (Rat×Rat)} {e:Rat×Rat},e∈l→(e.1.den * e.2.den)∣sw l
 | x::l,e,h=>by
  rcases List.mem_cons.1 h with rfl | h
  ·exact Nat.dvd_mul_right ..
  ·exact Nat.dvd_mul_left_of_dvd (CQ h) _
theorem dens_lt {k:Nat}:∀ {l:List (Rat×Rat)},(∀ e∈l,e.1.den < 4294967296 ^ k∧e.2.den < 4294967296 ^ k)→sw l≤4294967296 ^ (2 * k * l.length)
 | [],_=>by simp [sw]
 | e::l,h=>by
  obtain ⟨h1,h2⟩:=h e (by simp)
  have h3:=dens_lt (l:=l) fun x hx=>h x (by simp [hx])
  have e1:4294967296 ^ (2 * k * (e::l).length)=(4294967296 ^ k * 4294967296 ^ k) * 4294967296 ^ (2 * k * l.length):=by
   rw [←Nat.pow_add,←Nat.pow_add];congr 1;rw [List.length_cons];grind
  rw [e1]
  exact Nat.mul_le_mul (Nat.mul_le_mul (Nat.le_of_lt h1) (Nat.le_of_lt h2)) h3
theorem Iz.mul {a b:Nat} {x y:Rat} (h:Iz a x) (k:Iz b y):Iz (a * b) (x * y):=by
 obtain ⟨n,hn⟩:=h;obtain ⟨m,hm⟩:=k
 exact ⟨n * m,by rw [Int.natCast_mul,Rat.intCast_mul,Rat.intCast_mul,←hn,←hm];grind⟩
theorem Iz.dvd {D E:Nat} {x:Rat} (h:Iz D x) (k:D∣E):Iz E x:=by
 obtain ⟨c,rfl⟩:=k
 exact h.up
theorem xC (S F e:Rat):aD S F e=F∨aD S F e=S * e∨aD S F e=0:=by
 rw [show aD S F e=(if jx 0 (if jx (S * e) F=true then S * e else F)=true then 0 else (if jx (S * e) F=true then S * e else F)) from rfl]
 by_cases h:jx (S * e) F=true
 ·simp only [if_pos h]
  split <;> simp
 ·simp only [if_neg h]
  split <;> simp
theorem EJ {x:Rat} {k:Nat} (h:x.num.natAbs≤4294967296 ^ k): -(((4294967296 ^ k:Nat):Int):Rat)≤x∧x≤(((4294967296 ^ k:Nat):Int):Rat):=by
 have hd:(1:Rat)≤((x.den:Int):Rat):=by
  have:((1:Int):Rat)≤((x.den:Int):Rat):=Rat.intCast_le_intCast.2 (by have:=x.den_pos;omega)
  exact this
 have hm:=FQ x
 have hN0:(0:Rat)≤(((4294967296 ^ k:Nat):Int):Rat):=by
  have:((0:Int):Rat)≤(((4294967296 ^ k:Nat):Int):Rat):=Rat.intCast_le_intCast.2 (by omega)
  exact this
 have h1:((x.num:Int):Rat)≤(((4294967296 ^ k:Nat):Int):Rat):=Rat.intCast_le_intCast.2 (by omega)
 have h2: -(((4294967296 ^ k:Nat):Int):Rat)≤((x.num:Int):Rat):=by
  rw [←Rat.intCast_neg];exact Rat.intCast_le_intCast.2 (by omega)
 generalize (((4294967296 ^ k:Nat):Int):Rat)=N at *
 generalize ((x.num:Int):Rat)=n at *
 generalize ((((x.den:Nat):Int):Int):Rat)=d at *
 have h3:N≤N * d:=by
  have:=Rat.mul_le_mul_of_nonneg_left hd hN0
  rw [Rat.mul_one] at this;exact this
 constructor
 ·refine Rat.not_lt.1 fun hlt=> ?_
  have:=Rat.mul_lt_mul_of_pos_right hlt (show 0 < d by grind)
  grind
 ·refine Rat.not_lt.1 fun hlt=> ?_
  have:=Rat.mul_lt_mul_of_pos_right hlt (show 0 < d by grind)
  grind
def Lm (k:Nat) (x:Rat):Prop:=x.num.natAbs≤4294967296 ^ k∧x.den≤4294967296 ^ k
theorem FR {k:Nat}:∀ {l:List (Rat×Rat)},(∀ e∈l,Lm k e.1∧Lm k e.2)→sw l≤4294967296 ^ (2 * k * l.length)
 | [],_=>by simp [sw]
 | e::l,h=>by
  obtain ⟨h1,h2⟩:=h e (by simp)
  have h3:=FR (l:=l) fun x hx=>h x (by simp [hx])
  have e1:4294967296 ^ (2 * k * (e::l).length)=(4294967296 ^ k * 4294967296 ^ k) * 4294967296 ^ (2 * k * l.length):=by
   rw [←Nat.pow_add,←Nat.pow_add];congr 1;rw [List.length_cons];grind
  rw [e1]
  exact Nat.mul_le_mul (Nat.mul_le_mul h1.2 h2.2) h3
theorem KR {k n:Nat} {S F:Rat} {l:List (Rat×Rat)} (hS:Lm k S) (hF:Lm k F) (h0:0≤S) (h1:S≤1) (hl:∀ e∈l,Lm k e.1∧Lm k e.2) (hn:l.length≤n) (hk:1≤k):
  xA (S.den * F.den * sw l) (((4294967296 ^ k:Nat):Int):Rat) S F (2 * k * n + 3 * k + 1) l:=by
 obtain ⟨N,hN⟩:∃ N,N=4294967296 ^ k:=⟨_,rfl⟩
 have hNk:4294967296≤N:=by rw [hN];exact Nat.le_self_pow (by omega) _
 have hN0:(0:Rat)≤((N:Int):Rat):=by
  have:((0:Int):Rat)≤((N:Int):Rat):=Rat.intCast_le_intCast.2 (by omega)
  exact this
 refine ⟨fun e he=> ?_,fun x hI gK Ig=> ?_⟩
 ·rw [←hN]
  obtain ⟨he1,he2⟩:=hl e he
  have b1:=EJ he1.1
  have b2:=EJ he2.1
  have b3:=EJ hF.1
  rw [←hN] at b1 b2 b3
  have hd:=CQ he
  have hSe:S * e.2≤((N:Int):Rat):=by
   by_cases h:0≤e.2
   ·have:=Rat.mul_le_mul_of_nonneg_right h1 h
    rw [Rat.one_mul] at this
    exact Rat.le_trans this b2.2
   ·have h':0≤-e.2:=by grind
    have:=Rat.mul_nonneg h0 h'
    rw [Rat.mul_neg] at this
    grind
  have hIe:Iz (S.den * F.den * sw l) (S * e.2):=((Iz.Aw (Nat.dvd_refl S.den)).mul (Iz.Aw (Nat.dvd_refl e.2.den))).dvd (by
   obtain ⟨c,hc⟩:=hd
   rw [hc]
   exact ⟨F.den * e.1.den * c,by grind⟩)
  refine ⟨?_,?_,Iz.Aw ?_,b1.1,b1.2⟩
  ·rcases xC S F e.2 with h | h | h <;> rw [h]
   ·exact Iz.Aw ⟨S.den * sw l,by grind⟩
   ·exact hIe
   ·exact Iz.zero
  ·rcases xC S F e.2 with h | h | h <;> rw [h]
   ·exact b3.2
   ·exact hSe
   ·exact hN0
  ·obtain ⟨c,hc⟩:=hd
   rw [hc]
   exact ⟨S.den * F.den * e.2.den * c,by grind⟩
 ·rw [←hN] at gK Ig
  have iU:=FR hl
  have hpow:4294967296 ^ (2 * k * l.length)≤4294967296 ^ (2 * k * n):=Nat.pow_le_pow_right (by omega) (Nat.mul_le_mul_left _ hn)
  have hD:S.den * F.den * sw l≤N * N * 4294967296 ^ (2 * k * n):=Nat.mul_le_mul (Nat.mul_le_mul (by rw [hN];exact hS.2) (by rw [hN];exact hF.2)) (Nat.le_trans iU hpow)
  have e1:4294967296 ^ (2 * k * n + 3 * k + 1)=(N * N * 4294967296 ^ (2 * k * n)) * (N * 4294967296):=by
   rw [hN,show 2 * k * n + 3 * k + 1=k + k + 2 * k * n + (k + 1) by omega,Nat.pow_add,Nat.pow_add,Nat.pow_add,Nat.pow_succ]
  have hP:0 < N * N * 4294967296 ^ (2 * k * n):=Nat.mul_pos (Nat.mul_pos (by omega) (by omega)) (Nat.pow_pos (by omega))
  have e2:(((N + N:Nat):Int):Rat)=((N:Int):Rat) + ((N:Int):Rat):=by rw [←Rat.intCast_add];rfl
  refine rsz_of (M:=N + N) (Nat.mul_pos (Nat.mul_pos S.den_pos F.den_pos) (CP l)) hI (by rw [e2];exact gK) (by rw [e2];exact Ig) ?_ ?_
  ·rw [e1]
   calc (N + N) * (S.den * F.den * sw l)≤(N + N) * (N * N * 4294967296 ^ (2 * k * n)):=Nat.mul_le_mul_left _ hD
    _ < (N * 4294967296) * (N * N * 4294967296 ^ (2 * k * n)):=Nat.mul_lt_mul_of_pos_right (by omega) hP
    _=_:=Nat.mul_comm _ _
  ·rw [e1]
   calc S.den * F.den * sw l≤(N * N * 4294967296 ^ (2 * k * n)) * 1:=by rw [Nat.mul_one];exact hD
    _ < _:=Nat.mul_lt_mul_of_pos_left (by omega) hP
end Go.Proofs.YtabalinjfgcfeaaGreat
set_option maxRecDepth 4000
namespace Go.Proofs.YtabalinjfgcfeaaGreat
open Go.RowKit
attribute [local irreducible] aB VS
abbrev Hx (P:Program) (w:World) (N:Nat):Cx:={ P:=P,w0:=w,N:=N,K:=⟨UU,fun _=>True,fun t=>(Nat.beq t dT || (Nat.beq t er || (Nat.beq t 108 || (Nat.beq t 106 || Nat.beq t 100))))⟩,SU:=fun t=>Nat.beq t 22,ti:=table,keep:=fun _ _=>trivial }
theorem EK (w:World) (N:Nat):(Hx Tryz.prog w N).Ok:=rJ
section
variable {F F':Fr} {H H':Hp} {w w1:World} {N:Nat} {l':List Oper} {Q:Exit→Act→World→Prop} {k:List It} {id:Nat} {ops:Array Oper}
theorem fY (e:qm (Hx Tryz.prog w1 N) ops 80 ops.toList F H=(l',F',H')) (h:aB (Hx Tryz.prog w1 N) none ops l' (VS (Hx Tryz.prog w1 N) Q k) F' H' w):VS (Hx Tryz.prog w1 N) Q (.code (.region id ops false)::k) F H w:=VS.region (EK _ _) (VO.run 80 e h)
end
structure FzL (K:KC):Prop where
 u:K.U=UU
 s:∀ b,K.S b
 r:K.fz dT=true
 w:K.fz er=true
theorem sq.kpF {K:KC} {B:Nat} {w w':World} {r u:Value} {x:List aN×List Uq} (h:sq B w r u x) (hK:FzL K) (k:aF K w w') (kw:Kp UU w w'):sq B w' r u x:=by
 refine ⟨h.1.imp id fun ⟨rb,h0,n,c,vs,sp,h1,h2,h3⟩=>⟨rb,h0,n,c,vs,sp,h1,k.block _ rb _ hK.r (hK.s _) h2,h3.kp (az B) kw⟩,h.2.imp id fun ⟨rb,h0,n,c,vs,sp,h1,h2,h3⟩=>⟨rb,h0,n,c,vs,sp,h1,k.block _ rb _ hK.w (hK.s _) h2,h3.kp (dk B) kw⟩⟩
instance {k:Nat} {x:Rat}:Decidable (Lm k x):=by unfold Lm;infer_instance
theorem kL {w0 w w':World} {N:Nat} (h:aF (Hx Tryz.prog w0 N).K w w':=by (with_reducible (repeat (first | assumption | exact kU _ | exact kR _ | exact Kp.of (U:=UU) (by assumption) | exact aF.of (by assumption) | refine kT ?_ (by assumption))))):Kp UU w w':=h.xZ
theorem Ax (w:World) (N:Nat):FzL (Hx Tryz.prog w N).K:=⟨rfl,fun _=>trivial,rfl,rfl⟩
theorem sq.form {B:Nat} {w:World} {r u:Value} {x:List aN×List Uq} (h:sq B w r u x):∃ p c p' c',r=.slice p x.1.length c∧u=.slice p' x.2.length c':=by
 have h1:∃ p c,r=.slice p x.1.length c:=by
  rcases h.1 with ⟨rfl,e⟩ | ⟨rb,_,n,c,vs,sp,rfl,_,h3⟩
  ·exact ⟨none,0,by rw [e];rfl⟩
  ·exact ⟨_,c,by rw [h3.len]⟩
 have h2:∃ p c,u=.slice p x.2.length c:=by
  rcases h.2 with ⟨rfl,e⟩ | ⟨rb,_,n,c,vs,sp,rfl,_,h3⟩
  ·exact ⟨none,0,by rw [e];rfl⟩
  ·exact ⟨_,c,by rw [h3.len]⟩
 obtain ⟨p,c,e1⟩:=h1
 obtain ⟨p',c',e2⟩:=h2
 exact ⟨p,c,p',c',e1,e2⟩
def mR (q:Rat):RR:=(decide (q.num < 0),limbs q.num.natAbs,decide ((q.den:Int) < 0),limbs (q.den:Int).natAbs)
theorem KS (q:Rat):En (decide (q.num < 0)) (limbs q.num.natAbs) (decide ((q.den:Int) < 0)) (limbs (q.den:Int).natAbs)=true:=by
 unfold En
 rw [mh q.num,mh (q.den:Int),fA,fA]
 have h3:(0:Int) < q.den:=by have:=q.den_nz;omega
 have h4:Int.gcd q.num q.den=1:=by have:=q.reduced;simpa [Int.gcd,Nat.Coprime] using this
 rw [decide_eq_true h3,decide_eq_true h4];rfl
theorem KT (q:Rat):rq (decide (q.num < 0)) (limbs q.num.natAbs) (decide ((q.den:Int) < 0)) (limbs (q.den:Int).natAbs)=q:=by
 unfold rq;rw [fA,fA,yY]
theorem mU (q:Rat):(mR q).q=q:=KT q
theorem Ay (q:Rat):(mR q).ok=true:=KS q
theorem pd {q:Rat} {k:Nat} (h:dQ q k):(mR q).mM k:=⟨h.1,h.2⟩
theorem cP.Hy {w:World} {s t:Bool} {p u:Option Addr} {a c b d:Nat} {q:Rat} (h:cP w (.agg #[.bool s,.slice p a c,.bool t,.slice u b d]) q):tA w [.bool s,.slice p a c,.bool t,.slice u b d] (mR q):=by
 have hr:=h.raw
 obtain ⟨_,_,_,_,hv,h1,h2⟩:=hr
 simp only [Value.agg.injEq,Array.mk.injEq,List.cons.injEq,Value.bool.injEq,Value.slice.injEq,and_true] at hv
 obtain ⟨rfl,⟨rfl,rfl,rfl⟩,rfl,rfl,rfl,rfl⟩:=hv
 exact ⟨_,_,_,_,rfl,_,_,_,_,rfl,h1,h2⟩
theorem nj (n:Int) (h0: -9223372036854775808≤n) (h1:n≤9223372036854775807):dQ (Rat.divInt n 1) 2:=Aa h0 h1 (by decide) (by decide)
theorem gJ (n e:Int) (w:World) (h0: -9223372036854775808≤n) (h1:n≤9223372036854775807) (g0: -9223372036854775808≤e) (g1:e≤9223372036854775807):
  Calls Tryz.prog 32 #[.int .i64 n,.int .i64 e] w fun o w'=>∃ v,o=.returned v∧(∃ s p a c t y m d s' p' a' c' t' y' m' d',v=.agg #[.bool s,.slice p a c,.bool t,.slice y m d,.bool s',.slice p' a' c',.bool t',.slice y' m' d']∧xQ 2 w' [.bool s,.slice p a c,.bool t,.slice y m d,.bool s',.slice p' a' c',.bool t',.slice y' m' d'] (mR (Rat.divInt n 1),mR (Rat.divInt e 1)))∧aj w w':=by
 refine aw (C:=cf Tryz.prog w _) (args:=[_,_]) Tryz.func32 rfl Tryz.ntmps32 (Nat.le_of_ble_eq_true rfl) ?_
 (repeat first|refine wN ?_|refine wP rfl ?_|refine aa rfl ?_|refine ab rfl ?_|refine wO rfl rfl ?_)
 refine VO.call rfl rfl (fk Tryz.func31) (fun cB ek du=>(dW n 1 cB h0 h1 (by omega) (by omega)).mono ?_)
 rintro e w1 ⟨r1,rfl,q1,aV⟩
 obtain ⟨s1,p1,n1,c1,t1,y1,m1,d1,rfl⟩:=q1.form
 refine ⟨_,rfl,aV,fun e9 _ bb1=>wV rfl ?_⟩
 (repeat first|refine wN ?_|refine wP rfl ?_|refine aa rfl ?_|refine ab rfl ?_|refine wO rfl rfl ?_)
 refine VO.call rfl rfl (fk Tryz.func31) (fun dB gp et=>(dW e 1 dB g0 g1 (by omega) (by omega)).mono ?_)
 rintro e w2 ⟨r2,rfl,q2,bl⟩
 obtain ⟨s2,p2,n2,c2,t2,y2,m2,d2,rfl⟩:=q2.form
 refine ⟨_,rfl,bl,fun fX _ bb2=>wV rfl ?_⟩
 (repeat first|refine wN ?_|refine wP rfl ?_|refine aa rfl ?_|refine ab rfl ?_|refine wO rfl rfl ?_)
 refine VS.ret (aL _ _) rfl rfl (fun wz kz bz=> ?_)
 exact ⟨_,rfl,⟨_,_,_,_,_,_,_,_,_,_,_,_,_,_,_,_,rfl,[.bool s1,.slice p1 n1 c1,.bool t1,.slice y1 m1 d1],[.bool s2,.slice p2 n2 c2,.bool t2,.slice y2 m2 d2],rfl,(q1.kr).Hy,(q2.kr).Hy,pd (nj n h0 h1),pd (nj e g0 g1)⟩,bz⟩
abbrev exS:Rat:=(Rat.divInt 3 10)
abbrev exF:Rat:=(Rat.divInt 50 1)
theorem ly (w:World):Calls Tryz.prog 33 #[] w fun o w'=>∃ v,o=.returned v∧jk w' v (mR exS) (mR exF) 2∧aj w w':=by
 refine aw (C:=cf Tryz.prog w _) (args:=[]) Tryz.func33 rfl Tryz.ntmps33 (Nat.le_of_ble_eq_true rfl) ?_
 (repeat first|refine wN ?_|refine wP rfl ?_|refine aa rfl ?_|refine ab rfl ?_|refine wO rfl rfl ?_)
 refine VO.call rfl rfl (fk Tryz.func31) (fun cB ek du=>(dW 3 10 cB (by omega) (by omega) (by omega) (by omega)).mono ?_)
 rintro e w1 ⟨r1,rfl,q1,aV⟩
 obtain ⟨s1,p1,n1,c1,t1,y1,m1,d1,rfl⟩:=q1.form
 refine ⟨_,rfl,aV,fun e9 _ bb1=>wV rfl ?_⟩
 (repeat first|refine wN ?_|refine wP rfl ?_|refine aa rfl ?_|refine ab rfl ?_|refine wO rfl rfl ?_)
 refine VO.call rfl rfl (fk Tryz.func31) (fun dB gp et=>(dW 50 1 dB (by omega) (by omega) (by omega) (by omega)).mono ?_)
 rintro e w2 ⟨r2,rfl,q2,bl⟩
 obtain ⟨s2,p2,n2,c2,t2,y2,m2,d2,rfl⟩:=q2.form
 refine ⟨_,rfl,bl,fun fX _ bb2=>wV rfl ?_⟩
 (repeat first|refine wN ?_|refine wP rfl ?_|refine aa rfl ?_|refine ab rfl ?_|refine wO rfl rfl ?_)
 refine VS.ret (aL _ _) rfl rfl (fun wz kz bz=> ?_)
 obtain ⟨a1,a2,a3,a4,a5,a6⟩:=(q1.kr (w':=wz)).Hy
 obtain ⟨b1,b2,b3,b4,b5,b6⟩:=(q2.kr (w':=wz)).Hy
 refine ⟨_,rfl,⟨a1,a2,a3,a4,b1,b2,b3,b4,?_,a6,b6⟩,bz⟩
 simp only [List.cons.injEq,and_true] at a5 b5
 obtain ⟨x1,x2,x3,x4⟩:=a5
 obtain ⟨z1,z2,z3,z4⟩:=b5
 rw [x1,x2,x3,x4,z1,z2,z3,z4];rfl
theorem CR (l:List (Rat×Rat)):ed (l.map fun e=>(mR e.1,mR e.2))=l:=by
 unfold ed
 rw [List.map_map]
 conv=>rhs;rw [←List.map_id l]
 refine List.map_congr_left fun x _=> ?_
 show ((mR x.1).q,(mR x.2).q)=x
 rw [mU,mU]
theorem all_crr (l:List (Rat×Rat)):(l.map fun e=>(mR e.1,mR e.2)).all pG=true:=by
 rw [List.all_eq_true]
 intro x hx
 obtain ⟨e,_,rfl⟩:=List.mem_map.1 hx
 show ((mR e.1).ok && (mR e.2).ok)=true
 rw [Ay,Ay];rfl
theorem rul_crr {S F:Rat} {keep:Int} (h0:0≤S) (h1:S≤1) (xV:0≤keep) (BM:keep≤40):jl (mR S) (mR F) keep=true:=by
 unfold jl
 rw [Ay,Ay,mU,decide_eq_true (rP.2 h0),decide_eq_true (jE.2 h1),decide_eq_true xV,decide_eq_true BM];rfl
theorem xD (v u:Value) (S F:Rat) (kn n:Nat) (l:List (Rat×Rat)) (w:World) (hR:jk w v (mR S) (mR F) (kn:Int)) (hl:eD (xQ 2) 8 w u (l.map fun e=>(mR e.1,mR e.2))) (hsS:dQ S 2) (hsF:dQ F 2) (h0:0≤S) (h1:S≤1) (hk:kn≤40) (hn:n≤40) (hlen:l.length≤n) (hS:Lm 3 S) (hF:Lm 3 F) (hL:∀ e∈l,Lm 3 e.1∧Lm 3 e.2) (x:List aN×List Uq) (hx:pA S F kn l=x):
  Calls Tryz.prog 11 #[v,u] w fun o w'=>∃ r u',o=.returned (.tuple #[.agg #[r,u'],.int .i64 0])∧sq w.heap.size w' r u' x∧aj w w':=by
 have hM:=KR hS hF h0 h1 hL hlen (k:=3) (by decide)
 have:=FP v u (mR S) (mR F) kn (l.map fun e=>(mR e.1,mR e.2)) 2 (2 * 3 * n + 3 * 3 + 1) _ _ w hR (pd hsS) (pd hsF) hl (by decide) (by omega) (by omega) (rul_crr h0 h1 (by omega) (by omega)) (all_crr l) (by rw [List.length_map];omega) hk (by rw [CR,mU,mU];exact hM)
 rw [CR,mU,mU,hx] at this
 exact this
theorem led_x:pA exS exF 2 [((Rat.divInt 200 1),(Rat.divInt 400 1))]=([⟨(Rat.divInt 120 1),(Rat.divInt 120 1),(Rat.divInt 80 1),(Rat.divInt 0 1),(Rat.divInt 120 1),(Rat.divInt 0 1),(Rat.divInt 80 1)⟩],[]):=by decide +kernel
theorem led_y:pA exS exF 2 [((Rat.divInt 200 1),(Rat.divInt 400 1)),((Rat.divInt 20 1),(Rat.divInt 300 1)),((Rat.divInt (-10) 1),(Rat.divInt 0 1))]=([⟨(Rat.divInt 120 1),(Rat.divInt 120 1),(Rat.divInt 80 1),(Rat.divInt 0 1),(Rat.divInt 120 1),(Rat.divInt 0 1),(Rat.divInt 0 1)⟩,⟨(Rat.divInt 90 1),(Rat.divInt 20 1),(Rat.divInt 0 1),(Rat.divInt 70 1),(Rat.divInt 90 1),(Rat.divInt 0 1),(Rat.divInt 0 1)⟩,⟨(Rat.divInt 50 1),(Rat.divInt (-10) 1),(Rat.divInt 0 1),(Rat.divInt 10 1),(Rat.divInt 0 1),(Rat.divInt 0 1),(Rat.divInt 0 1)⟩],[(0,1,(Rat.divInt 70 1)),(0,2,(Rat.divInt 10 1))]):=by decide +kernel
theorem led_z:pA exS exF 2 [((Rat.divInt 200 1),(Rat.divInt 400 1)),((Rat.divInt 100 1),(Rat.divInt 0 1)),((Rat.divInt 300 1),(Rat.divInt 100 1))]=([⟨(Rat.divInt 120 1),(Rat.divInt 120 1),(Rat.divInt 80 1),(Rat.divInt 0 1),(Rat.divInt 120 1),(Rat.divInt 80 1),(Rat.divInt 0 1)⟩,⟨(Rat.divInt 50 1),(Rat.divInt 50 1),(Rat.divInt 50 1),(Rat.divInt 0 1),(Rat.divInt 50 1),(Rat.divInt 0 1),(Rat.divInt 50 1)⟩,⟨(Rat.divInt 50 1),(Rat.divInt 50 1),(Rat.divInt 250 1),(Rat.divInt 0 1),(Rat.divInt 50 1),(Rat.divInt 0 1),(Rat.divInt 250 1)⟩],[]):=by decide +kernel
def aN.gW (r:aN):Nat→Rat
 | 0=>r.eI
 | 1=>r.allowed
 | 2=>r.bk
 | 3=>r.used
 | 4=>r.bT
 | 5=>r.aZ
 | _=>r.closing
theorem KV {B:Nat} {w:World} {cs:List Value} {r:aN} (h:dD B w cs r) (f:Nat) (hf:f≤6):∃ a pre post,cs=pre++(a++post)∧pre.length=4 * f∧R4 B w a (r.gW f):=by
 obtain ⟨a,b,c,d,e,g,i,rfl,h1,h2,h3,h4,h5,h6,h7⟩:=h
 have l1:=h1.len
 have l2:=h2.len
 have l3:=h3.len
 have l4:=h4.len
 have l5:=h5.len
 have l6:=h6.len
 match f,hf with
 | 0,_=>exact ⟨a,[],_,rfl,rfl,h1⟩
 | 1,_=>exact ⟨b,a,_,rfl,l1,h2⟩
 | 2,_=>exact ⟨c,a++b,_,by rw [List.append_assoc],by simp [l1,l2],h3⟩
 | 3,_=>exact ⟨d,a++(b++c),e++(g++i),by simp only [List.append_assoc],by simp [l1,l2,l3],h4⟩
 | 4,_=>exact ⟨e,a++(b++(c++d)),g++i,by simp only [List.append_assoc],by simp [l1,l2,l3,l4],h5⟩
 | 5,_=>exact ⟨g,a++(b++(c++(d++e))),i,by simp only [List.append_assoc],by simp [l1,l2,l3,l4,l5],h6⟩
 | 6,_=>exact ⟨i,a++(b++(c++(d++(e++g)))),[],by simp only [List.append_assoc,List.append_nil],by simp [l1,l2,l3,l4,l5,l6],h7⟩
theorem CS {α:Type} {E:World→List Value→α→Prop} {sz:Nat} (hE:ln E sz) {t:TypeId} {w:World} {b n c i:Nat} {vs:List (List Value)} {sp:List Value} {es:List α} {x:α} (hc:aW w b t (vs.flatten++sp).toArray) (h:cX E sz w n 0 c [] vs sp es) (hx:es[i]? =some x):
  ∃ cs,E w cs x∧∀ (pre a post:List Value),cs=pre++(a++post)→∀ off,off=i * sz + pre.length→∀ (j:Nat) (u:Value),a[j]? =some u→w.cell? ((⟨b,off,none⟩:Addr).add j)=some u:=by
 obtain ⟨cs,hcs,hEx⟩:=h.el.at i x hx
 refine ⟨cs,hEx,fun pre a post hsp off hoff j u hj=> ?_⟩
 rw [Addr.add_mid]
 refine hc.cell ?_
 have jq:cs.length=sz:=hE.len hEx
 have hjl:=(List.getElem?_eq_some_iff.1 hj).1
 obtain ⟨hlt,hxx⟩:=List.getElem?_eq_some_iff.1 hcs
 have ye:vs=vs.take i++cs::vs.drop (i + 1):=by rw [←hxx,←List.drop_eq_getElem_cons hlt,List.take_append_drop]
 have hal:(vs.take i).flatten.length=i * sz:=by
  rw [cV (fun y hy=>h.el.lens hE y (List.mem_of_mem_take hy)),List.length_take,Nat.min_eq_left (by omega)]
 rw [List.getElem?_toArray,ye,List.flatten_append,List.append_assoc,List.getElem?_append_right (by omega),hal,List.flatten_cons,List.append_assoc,hsp,hoff,show i * sz + pre.length + j - i * sz=pre.length + j by omega,List.append_assoc,List.getElem?_append_right (by omega),Nat.add_sub_cancel_left,List.append_assoc,List.getElem?_append_left hjl]
 exact hj
theorem pe {B:Nat} {w:World} {b n c i:Nat} {vs:List (List Value)} {sp:List Value} {es:List aN} {x:aN} (f:Nat) (hf:f≤6) (hc:aW w b dT (vs.flatten++sp).toArray) (h:cX (dD B) 28 w n 0 c [] vs sp es) (hx:es[i]? =some x):
  ∃ s p a k t y m d,aK w B (.agg #[.bool s,.slice p a k,.bool t,.slice y m d]) (x.gW f)∧∀ off,off=i * 28 + 4 * f→∀ (j:Nat) (u:Value),([.bool s,.slice p a k,.bool t,.slice y m d]:List Value)[j]? =some u→w.cell? ((⟨b,off,none⟩:Addr).add j)=some u:=by
 obtain ⟨cs,hE,hcs⟩:=CS (az B) hc h hx
 obtain ⟨a,pre,post,e,hl,s,p,n',c',t,y,m,d,rfl,hq⟩:=KV hE f hf
 exact ⟨s,p,n',c',t,y,m,d,hq,fun off ho=>hcs pre _ post e off (by rw [hl];exact ho)⟩
theorem FU {B:Nat} {w:World} {b n c i:Nat} {vs:List (List Value)} {sp:List Value} {es:List Uq} {x:Uq} (hc:aW w b er (vs.flatten++sp).toArray) (h:cX (nb B) 6 w n 0 c [] vs sp es) (hx:es[i]? =some x):
  ∃ s p a k t y m d,aK w B (.agg #[.bool s,.slice p a k,.bool t,.slice y m d]) x.2.2∧(∀ off,off=i * 6 + 2→∀ (j:Nat) (u:Value),([.bool s,.slice p a k,.bool t,.slice y m d]:List Value)[j]? =some u→w.cell? ((⟨b,off,none⟩:Addr).add j)=some u)∧
   (∀ off,off=i * 6 + 1→∀ (j:Nat) (u:Value),([.int .i64 (x.2.1:Int)]:List Value)[j]? =some u→w.cell? ((⟨b,off,none⟩:Addr).add j)=some u)∧(∀ off,off=i * 6→∀ (j:Nat) (u:Value),([.int .i64 (x.1:Int)]:List Value)[j]? =some u→w.cell? ((⟨b,off,none⟩:Addr).add j)=some u)∧
   (∀ off,off=i * 6→∀ (j:Nat) (u:Value),([.int .i64 (x.1:Int),.int .i64 (x.2.1:Int),.bool s,.slice p a k,.bool t,.slice y m d]:List Value)[j]? =some u→w.cell? ((⟨b,off,none⟩:Addr).add j)=some u):=by
 obtain ⟨cs,hE,hcs⟩:=CS (dk B) hc h hx
 obtain ⟨s,p,n',c',t,y,m,d,rfl,hq⟩:=hE
 exact ⟨s,p,n',c',t,y,m,d,hq,fun off ho=>hcs [.int .i64 (x.1:Int),.int .i64 (x.2.1:Int)] _ [] rfl off ho,fun off ho=>hcs [.int .i64 (x.1:Int)] [.int .i64 (x.2.1:Int)] [.bool s,.slice p n' c',.bool t,.slice y m d] rfl off ho,fun off ho=>hcs [] [.int .i64 (x.1:Int)] [.int .i64 (x.2.1:Int),.bool s,.slice p n' c',.bool t,.slice y m d] rfl off ho,fun off ho=>hcs [] _ [] rfl off ho⟩
end Go.Proofs.YtabalinjfgcfeaaGreat
set_option maxRecDepth 4000
namespace Go.Proofs.YtabalinjfgcfeaaGreat
open Go.RowKit
attribute [local irreducible] aB VS
set_option maxRecDepth 4000 in
set_option maxHeartbeats 8000000 in
theorem oC (w:World):Calls Tryz.prog 9 #[] w fun o w'=>o=.returned (.bool true)∧aj w w':=by
 have hsS:dQ exS 2:=Aa (by decide) (by decide) (by decide) (by decide)
 have hsF:dQ exF 2:=Aa (by decide) (by decide) (by decide) (by decide)
 have hS3:Lm 3 exS:=by unfold Lm;decide +kernel
 have hF3:Lm 3 exF:=by unfold Lm;decide +kernel
 refine aw (C:=Hx Tryz.prog w _) (args:=[]) Tryz.func9 rfl Tryz.ntmps9 (Nat.le_of_ble_eq_true rfl) ?_
 (repeat first|refine wN ?_|refine wP rfl ?_|refine fY rfl ?_|refine gw rfl ?_|refine wO rfl rfl ?_)
 refine VO.call rfl rfl (fk Tryz.func33) (fun cB ek du=>(ly cB).mono ?_)
 rintro e w1 ⟨r1,rfl,q1,aV⟩
 skip
 refine ⟨_,rfl,aV,fun e9 _ bb1=>wV rfl ?_⟩
 (repeat first|refine wN ?_|refine wP rfl ?_|refine fY rfl ?_|refine gw rfl ?_|refine wO rfl rfl ?_)
 refine VO.call rfl rfl (fk Tryz.func32) (fun dB gp et=>(gJ 200 400 dB (by omega) (by omega) (by omega) (by omega)).mono ?_)
 rintro e w2 ⟨r2,rfl,⟨s2,p2,n2,c2,t2,y2,m2,d2,e2,f2,g2,h2,i2,j2,k2,l2,rfl,q2⟩,bl⟩
 skip
 refine ⟨_,rfl,bl,fun fX _ bb2=>wV rfl ?_⟩
 (repeat first|refine wN ?_|refine wP rfl ?_|refine fY rfl ?_|refine gw rfl ?_|refine wO rfl rfl ?_)
 refine VO.fG rfl (fk Tryz.func11) (fun gr β gX gU ho=>((xD _ _ exS exF 2 1 [((Rat.divInt 200 1),(Rat.divInt 400 1))] gr (q1.kp kL) (mz (fN 2) (ho.own 11 (.base (List.mem_singleton.2 rfl)) _ _ rfl) [] (vs:=[[.bool s2,.slice p2 n2 c2,.bool t2,.slice y2 m2 d2,.bool e2,.slice f2 g2 h2,.bool i2,.slice j2 k2 l2]]) (by rfl) (cL.cons ((fN 2).kp q2 kL) (cL.nil)) rfl (Nat.le_of_ble_eq_true rfl) (by decide)) hsS hsF (by decide +kernel) (by decide +kernel) (by decide) (by decide) (by decide) hS3 hF3 (by decide +kernel) _ led_x).mono (fun o w2 h=>And.intro h gU.size)).mono ?_)
 rintro o w3 ⟨⟨r3,u3,rfl,l3,cC⟩,xz⟩
 obtain ⟨pr3,cr3,pu3,cu3,rfl,rfl⟩:=l3.form
 refine ⟨_,rfl,cC,fun kh _ bb3=>wV rfl ?_⟩
 (repeat first|refine wN ?_|refine wP rfl ?_|refine fY rfl ?_|refine gw rfl ?_|refine wO rfl rfl ?_)
 refine VO.call rfl rfl (fk Tryz.func33) (fun mZ pR qx=>(ly mZ).mono ?_)
 rintro e w4 ⟨r4,rfl,q4,gT⟩
 skip
 refine ⟨_,rfl,gT,fun oQ _ AJ=>wV rfl ?_⟩
 (repeat first|refine wN ?_|refine wP rfl ?_|refine fY rfl ?_|refine gw rfl ?_|refine wO rfl rfl ?_)
 refine VO.call rfl rfl (fk Tryz.func32) (fun j9 mw kj=>(gJ 200 400 j9 (by omega) (by omega) (by omega) (by omega)).mono ?_)
 rintro e w5 ⟨r5,rfl,⟨s5,p5,n5,c5,t5,y5,m5,d5,e5,f5,g5,h5,i5,j5,k5,l5,rfl,q5⟩,gg⟩
 skip
 refine ⟨_,rfl,gg,fun na _ wX=>wV rfl ?_⟩
 (repeat first|refine wN ?_|refine wP rfl ?_|refine fY rfl ?_|refine gw rfl ?_|refine wO rfl rfl ?_)
 refine VO.call rfl rfl (fk Tryz.func32) (fun pz uh tn=>(gJ 20 300 pz (by omega) (by omega) (by omega) (by omega)).mono ?_)
 rintro e w6 ⟨r6,rfl,⟨s6,p6,n6,c6,t6,y6,m6,d6,e6,f6,g6,h6,i6,j6,k6,l6,rfl,q6⟩,mO⟩
 skip
 refine ⟨_,rfl,mO,fun tp _ Cp=>wV rfl ?_⟩
 (repeat first|refine wN ?_|refine wP rfl ?_|refine fY rfl ?_|refine gw rfl ?_|refine wO rfl rfl ?_)
 refine VO.call rfl rfl (fk Tryz.func32) (fun yd Df xP=>(gJ (-10) 0 yd (by omega) (by omega) (by omega) (by omega)).mono ?_)
 rintro e w7 ⟨r7,rfl,⟨s7,p7,n7,c7,t7,y7,m7,d7,e7,f7,g7,h7,i7,j7,k7,l7,rfl,q7⟩,uI⟩
 skip
 refine ⟨_,rfl,uI,fun yZ _ bb7=>wV rfl ?_⟩
 (repeat first|refine wN ?_|refine wP rfl ?_|refine fY rfl ?_|refine gw rfl ?_|refine wO rfl rfl ?_)
 refine VO.fG rfl (fk Tryz.func11) (fun uK β Ei za ho=>((xD _ _ exS exF 2 3 [((Rat.divInt 200 1),(Rat.divInt 400 1)),((Rat.divInt 20 1),(Rat.divInt 300 1)),((Rat.divInt (-10) 1),(Rat.divInt 0 1))] uK (q4.kp kL) (mz (fN 2) (ho.own 20 (.base (List.mem_singleton.2 rfl)) _ _ rfl) [] (vs:=[[.bool s5,.slice p5 n5 c5,.bool t5,.slice y5 m5 d5,.bool e5,.slice f5 g5 h5,.bool i5,.slice j5 k5 l5],[.bool s6,.slice p6 n6 c6,.bool t6,.slice y6 m6 d6,.bool e6,.slice f6 g6 h6,.bool i6,.slice j6 k6 l6],[.bool s7,.slice p7 n7 c7,.bool t7,.slice y7 m7 d7,.bool e7,.slice f7 g7 h7,.bool i7,.slice j7 k7 l7]]) (by rfl) (cL.cons ((fN 2).kp q5 kL) (cL.cons ((fN 2).kp q6 kL) (cL.cons ((fN 2).kp q7 kL) (cL.nil)))) rfl (Nat.le_of_ble_eq_true rfl) (by decide)) hsS hsF (by decide +kernel) (by decide +kernel) (by decide) (by decide) (by decide) hS3 hF3 (by decide +kernel) _ led_y).mono (fun o w2 h=>And.intro h za.size)).mono ?_)
 rintro o w8 ⟨⟨r8,u8,rfl,l8,qM⟩,yi⟩
 obtain ⟨pr8,cr8,pu8,cu8,rfl,rfl⟩:=l8.form
 refine ⟨_,rfl,qM,fun vz _ Ii=>wV rfl ?_⟩
 (repeat first|refine wN ?_|refine wP rfl ?_|refine fY rfl ?_|refine gw rfl ?_|refine wO rfl rfl ?_)
 refine VO.call rfl rfl (fk Tryz.func33) (fun wa9 ka9 ba9=>(ly wa9).mono ?_)
 rintro e w9 ⟨r9,rfl,q9,E6⟩
 skip
 refine ⟨_,rfl,E6,fun AK _ bb9=>wV rfl ?_⟩
 (repeat first|refine wN ?_|refine wP rfl ?_|refine fY rfl ?_|refine gw rfl ?_|refine wO rfl rfl ?_)
 refine VO.call rfl rfl (fk Tryz.func32) (fun tq xc Ej=>(gJ 200 400 tq (by omega) (by omega) (by omega) (by omega)).mono ?_)
 rintro e w10 ⟨r10,rfl,⟨s10,p10,n10,c10,t10,y10,m10,d10,e10,f10,g10,h10,i10,j10,Hl,l10,rfl,q10⟩,tr⟩
 skip
 refine ⟨_,rfl,tr,fun iD _ GZ=>wV rfl ?_⟩
 (repeat first|refine wN ?_|refine wP rfl ?_|refine fY rfl ?_|refine gw rfl ?_|refine wO rfl rfl ?_)
 refine VO.call rfl rfl (fk Tryz.func32) (fun xd zX G0=>(gJ 100 0 xd (by omega) (by omega) (by omega) (by omega)).mono ?_)
 rintro e w11 ⟨r11,rfl,⟨s11,p11,n11,c11,t11,y11,m11,d11,e11,f11,g11,h11,i11,j11,k11,l11,rfl,q11⟩,xe⟩
 skip
 refine ⟨_,rfl,xe,fun ll _ JW=>wV rfl ?_⟩
 (repeat first|refine wN ?_|refine wP rfl ?_|refine fY rfl ?_|refine gw rfl ?_|refine wO rfl rfl ?_)
 refine VO.call rfl rfl (fk Tryz.func32) (fun xf zY G1=>(gJ 300 100 xf (by omega) (by omega) (by omega) (by omega)).mono ?_)
 rintro e w12 ⟨r12,rfl,⟨s12,p12,n12,c12,t12,y12,m12,d12,e12,f12,g12,zU,i12,j12,k12,l12,rfl,q12⟩,xg⟩
 skip
 refine ⟨_,rfl,xg,fun ot _ JX=>wV rfl ?_⟩
 (repeat first|refine wN ?_|refine wP rfl ?_|refine fY rfl ?_|refine gw rfl ?_|refine wO rfl rfl ?_)
 refine VO.fG rfl (fk Tryz.func11) (fun Ek β ka13 G2 ho=>((xD _ _ exS exF 2 3 [((Rat.divInt 200 1),(Rat.divInt 400 1)),((Rat.divInt 100 1),(Rat.divInt 0 1)),((Rat.divInt 300 1),(Rat.divInt 100 1))] Ek (q9.kp kL) (mz (fN 2) (ho.own 29 (.base (List.mem_singleton.2 rfl)) _ _ rfl) [] (vs:=[[.bool s10,.slice p10 n10 c10,.bool t10,.slice y10 m10 d10,.bool e10,.slice f10 g10 h10,.bool i10,.slice j10 Hl l10],[.bool s11,.slice p11 n11 c11,.bool t11,.slice y11 m11 d11,.bool e11,.slice f11 g11 h11,.bool i11,.slice j11 k11 l11],[.bool s12,.slice p12 n12 c12,.bool t12,.slice y12 m12 d12,.bool e12,.slice f12 g12 zU,.bool i12,.slice j12 k12 l12]]) (by rfl) (cL.cons ((fN 2).kp q10 kL) (cL.cons ((fN 2).kp q11 kL) (cL.cons ((fN 2).kp q12 kL) (cL.nil)))) rfl (Nat.le_of_ble_eq_true rfl) (by decide)) hsS hsF (by decide +kernel) (by decide +kernel) (by decide) (by decide) (by decide) hS3 hF3 (by decide +kernel) _ led_z).mono (fun o w2 h=>And.intro h G2.size)).mono ?_)
 rintro o nv ⟨⟨r13,u13,rfl,l13,El⟩,hsz13⟩
 obtain ⟨pr13,cr13,pu13,cu13,rfl,rfl⟩:=l13.form
 refine ⟨_,rfl,El,fun xh _ bb13=>wV rfl ?_⟩
 (repeat (first | refine wN ?_ | refine wP rfl ?_ | refine wO rfl rfl ?_))
 refine VS.sn (KU UU) (fun t=>Nat.beq t 22) table (fun _ _ _=>trivial) (fun Em β k14 b14 en=> ?_)
 have o1:=en.own 1 _ _ rfl
 have o3:=en.own 3 _ _ rfl
 have o5:=en.own 5 _ _ rfl
 have h13:β 1≠β 3:=fun e=>absurd (en.apart 1 3 (by intro h;cases h) (by intro h;cases h) e) (by decide)
 have h15:β 1≠β 5:=fun e=>absurd (en.apart 1 5 (by intro h;cases h) (by intro h;cases h) e) (by decide)
 have h35:β 3≠β 5:=fun e=>absurd (en.apart 3 5 (by intro h;cases h) (by intro h;cases h) e) (by decide)
 have kk3:aF (Hx Tryz.prog w 161).K w3 Em:=((((((((((oQ).aJ na).aJ tp).aJ yZ).aJ vz).aJ AK).aJ iD).aJ ll).aJ ot).aJ xh).aJ k14
 have l3':=l3.kpF (Ax w 161) kk3 kk3.xZ
 have kk8:aF (Hx Tryz.prog w 161).K w8 Em:=(((((AK).aJ iD).aJ ll).aJ ot).aJ xh).aJ k14
 have l8':=l8.kpF (Ax w 161) kk8 kk8.xZ
 have kk13:aF (Hx Tryz.prog w 161).K nv Em:=k14
 have l13':=l13.kpF (Ax w 161) kk13 kk13.xZ
 have pC:iE (KU UU) 161 [β 1,β 3,β 5] [(ni,[.val (.slice pr3 1 cr3),.val (.slice pu3 0 cu3)]),(ni,[.val (.slice pr8 3 cr8),.val (.slice pu8 2 cu8)]),(ni,[.val (.slice pr13 3 cr13),.val (.slice pu13 0 cu13)])] Em:=by
  refine ⟨rfl,by simp [h13,h15,h35],fun j g' c' hj hc=> ?_,fun c' hc=> ?_,fun c' hc k hk=> ?_⟩
  ·match j,hj,hc with
   | 0,hj,hc=>cases hj;cases hc;exact o1.cls
   | 1,hj,hc=>cases hj;cases hc;exact o3.cls
   | 2,hj,hc=>cases hj;cases hc;exact o5.cls
   | j + 3,hj,_=>simp at hj
  ·simp only [List.mem_cons,List.not_mem_nil,or_false] at hc
   rcases hc with rfl | rfl | rfl <;> exact ⟨rfl,rfl⟩
  ·simp only [List.mem_cons,List.not_mem_nil,or_false] at hc
   rcases hc with rfl | rfl | rfl <;> cases hk
 have g1:=o1.cls
 have g3:=o3.cls
 have g5:=o5.cls
 refine ⟨[β 1,β 3,β 5],_,pC,[(0,.val (.bool false)),(1,.box 322 0),(2,.val (.int .i64 0)),(3,.box 323 0),(4,.val (.int .i64 0)),(5,.box 324 0),(6,.val (.int .i64 0))],⟨⟨_,rfl,rfl,fun i hi=>(by cases hi)⟩,⟨_,rfl,rfl,fun i hi=>by rw [(by simpa [AV.ids] using hi:i=322)];exact ⟨(by show 322≤322;omega),(by show 322 < 2 * 161 + 3;omega)⟩⟩,⟨_,rfl,rfl,fun i hi=>(by cases hi)⟩,⟨_,rfl,rfl,fun i hi=>by rw [(by simpa [AV.ids] using hi:i=323)];exact ⟨(by show 322≤323;omega),(by show 323 < 2 * 161 + 3;omega)⟩⟩,⟨_,rfl,rfl,fun i hi=>(by cases hi)⟩,⟨_,rfl,rfl,fun i hi=>by rw [(by simpa [AV.ids] using hi:i=324)];exact ⟨(by show 322≤324;omega),(by show 324 < 2 * 161 + 3;omega)⟩⟩,⟨_,rfl,rfl,fun i hi=>(by cases hi)⟩,trivial⟩,?_⟩
 obtain ⟨rb3,hB3,nn3,cc3,FM,FN,e3',uO,hor3⟩:=l3'.1.resolve_left (fun h=>by cases h.2)
 simp only [Value.slice.injEq] at e3'
 obtain ⟨rfl,rfl,rfl⟩:=e3'
 obtain ⟨rb13,hB13,nn13,cc13,vs13,sp13,e13',mV,KW⟩:=l13'.1.resolve_left (fun h=>by cases h.2)
 simp only [Value.slice.injEq] at e13'
 obtain ⟨rfl,rfl,rfl⟩:=e13'
 obtain ⟨rb8,hB8,nn8,cc8,vs8,sp8,e8',uP,hor8⟩:=l8'.2.resolve_left (fun h=>by cases h.2)
 simp only [Value.slice.injEq] at e8'
 obtain ⟨rfl,rfl,rfl⟩:=e8'
 have hn3:rb3∉[β 1,β 3,β 5]:=fun hm=>by
  simp only [List.mem_cons,List.not_mem_nil,or_false] at hm
  rcases hm with h | h | h
  ·rw [h] at uO;exact absurd (bn uO g1) (by decide)
  ·rw [h] at uO;exact absurd (bn uO g3) (by decide)
  ·rw [h] at uO;exact absurd (bn uO g5) (by decide)
 have hn8:rb8∉[β 1,β 3,β 5]:=fun hm=>by
  simp only [List.mem_cons,List.not_mem_nil,or_false] at hm
  rcases hm with h | h | h
  ·rw [h] at uP;exact absurd (bn uP g1) (by decide)
  ·rw [h] at uP;exact absurd (bn uP g3) (by decide)
  ·rw [h] at uP;exact absurd (bn uP g5) (by decide)
 have hn13:rb13∉[β 1,β 3,β 5]:=fun hm=>by
  simp only [List.mem_cons,List.not_mem_nil,or_false] at hm
  rcases hm with h | h | h
  ·rw [h] at mV;exact absurd (bn mV g1) (by decide)
  ·rw [h] at mV;exact absurd (bn mV g3) (by decide)
  ·rw [h] at mV;exact absurd (bn mV g5) (by decide)
 obtain ⟨s20,p20,n20,c20,t20,y20,m20,d20,hq20,hc20⟩:=pe 0 (by decide) uO hor3 (i:=0) rfl
 obtain ⟨s21,p21,n21,c21,t21,y21,m21,d21,hq21,hc21⟩:=pe 2 (by decide) uO hor3 (i:=0) rfl
 obtain ⟨s22,p22,n22,c22,t22,y22,m22,d22,hq22,hc22⟩:=pe 6 (by decide) uO hor3 (i:=0) rfl
 obtain ⟨s25,p25,n25,c25,t25,y25,m25,d25,hq25,hc25⟩:=pe 5 (by decide) mV KW (i:=0) rfl
 obtain ⟨s26,p26,n26,c26,t26,y26,m26,d26,hq26,hc26⟩:=pe 6 (by decide) mV KW (i:=1) rfl
 obtain ⟨s27,p27,n27,c27,t27,y27,m27,d27,hq27,hc27⟩:=pe 6 (by decide) mV KW (i:=2) rfl
 obtain ⟨s23,p23,n23,c23,t23,y23,m23,d23,hq23,hc23,hy23,-⟩:=FU uP hor8 (i:=0) rfl
 obtain ⟨s24,p24,n24,c24,t24,y24,m24,d24,hq24,hc24,hy24,-⟩:=FU uP hor8 (i:=1) rfl
 (repeat first|refine wN ?_|refine wP rfl ?_|refine af rfl ?_|refine ag rfl ?_|refine wO rfl rfl ?_)
 refine VO.cond rfl ⟨by decide,by decide⟩ (wV rfl ?_)
 (repeat first|refine wN ?_|refine wP rfl ?_|refine af rfl ?_|refine ag rfl ?_|refine wO rfl rfl ?_)
 refine VO.jr rfl [.bool s20,.slice p20 n20 c20,.bool t20,.slice y20 m20 d20] rfl (mQ uO.lt hn3 (hc20 _ rfl)) (wV rfl ?_)
 (repeat first|refine wN ?_|refine wP rfl ?_|refine af rfl ?_|refine ag rfl ?_|refine wO rfl rfl ?_)
 refine VO.call rfl rfl (fk Tryz.func31) (fun wa40 ka40 ba40=>(dW 120 1 wa40 (by omega) (by omega) (by omega) (by omega)).mono ?_)
 rintro e w40 ⟨r40,rfl,q40,hb40⟩
 obtain ⟨s40,p40,n40,c40,t40,y40,m40,d40,rfl⟩:=q40.form
 refine ⟨_,rfl,hb40,fun kb40 _ bb40=>wV rfl ?_⟩
 (repeat first|refine wN ?_|refine wP rfl ?_|refine af rfl ?_|refine ag rfl ?_|refine wO rfl rfl ?_)
 refine VO.call rfl rfl (fk Tryz.func12) (fun wa41 ka41 ba41=>(dK _ _ (Rat.divInt 120 1) (Rat.divInt 120 1) 2 2 wa41 ((show aK Em _ _ (Rat.divInt 120 1) from hq20).ki (nj 120 (by omega) (by omega))) (q40.ki (nj 120 (by omega) (by omega))) (by omega) (by omega) 0 (gC rfl)).mono ?_)
 rintro e w41 ⟨rfl,hb41⟩
 refine ⟨_,rfl,hb41,fun kb41 _ bb41=>wV rfl ?_⟩
 (repeat first|refine wN ?_|refine wP rfl ?_|refine af rfl ?_|refine ag rfl ?_|refine wO rfl rfl ?_)
 refine VO.cond rfl ⟨by decide,by decide⟩ (wV rfl ?_)
 (repeat first|refine wN ?_|refine wP rfl ?_|refine af rfl ?_|refine ag rfl ?_|refine wO rfl rfl ?_)
 refine VO.jr rfl [.bool s21,.slice p21 n21 c21,.bool t21,.slice y21 m21 d21] rfl (mQ uO.lt hn3 (hc21 _ rfl)) (wV rfl ?_)
 (repeat first|refine wN ?_|refine wP rfl ?_|refine af rfl ?_|refine ag rfl ?_|refine wO rfl rfl ?_)
 refine VO.call rfl rfl (fk Tryz.func31) (fun wa42 ka42 ba42=>(dW 80 1 wa42 (by omega) (by omega) (by omega) (by omega)).mono ?_)
 rintro e w42 ⟨r42,rfl,q42,hb42⟩
 obtain ⟨s42,p42,n42,c42,t42,y42,m42,d42,rfl⟩:=q42.form
 refine ⟨_,rfl,hb42,fun kb42 _ bb42=>wV rfl ?_⟩
 (repeat first|refine wN ?_|refine wP rfl ?_|refine af rfl ?_|refine ag rfl ?_|refine wO rfl rfl ?_)
 refine VO.call rfl rfl (fk Tryz.func12) (fun wa43 ka43 ba43=>(dK _ _ (Rat.divInt 80 1) (Rat.divInt 80 1) 2 2 wa43 ((show aK Em _ _ (Rat.divInt 80 1) from hq21).ki (nj 80 (by omega) (by omega))) (q42.ki (nj 80 (by omega) (by omega))) (by omega) (by omega) 0 (gC rfl)).mono ?_)
 rintro e w43 ⟨rfl,hb43⟩
 refine ⟨_,rfl,hb43,fun kb43 _ bb43=>wV rfl ?_⟩
 (repeat first|refine wN ?_|refine wP rfl ?_|refine af rfl ?_|refine ag rfl ?_|refine wO rfl rfl ?_)
 refine VO.cond rfl ⟨by decide,by decide⟩ (wV rfl ?_)
 (repeat first|refine wN ?_|refine wP rfl ?_|refine af rfl ?_|refine ag rfl ?_|refine wO rfl rfl ?_)
 refine VO.jr rfl [.bool s22,.slice p22 n22 c22,.bool t22,.slice y22 m22 d22] rfl (mQ uO.lt hn3 (hc22 _ rfl)) (wV rfl ?_)
 (repeat first|refine wN ?_|refine wP rfl ?_|refine af rfl ?_|refine ag rfl ?_|refine wO rfl rfl ?_)
 refine VO.call rfl rfl (fk Tryz.func31) (fun wa44 ka44 ba44=>(dW 80 1 wa44 (by omega) (by omega) (by omega) (by omega)).mono ?_)
 rintro e w44 ⟨r44,rfl,q44,hb44⟩
 obtain ⟨s44,p44,n44,c44,t44,y44,m44,d44,rfl⟩:=q44.form
 refine ⟨_,rfl,hb44,fun kb44 _ bb44=>wV rfl ?_⟩
 (repeat first|refine wN ?_|refine wP rfl ?_|refine af rfl ?_|refine ag rfl ?_|refine wO rfl rfl ?_)
 refine VO.call rfl rfl (fk Tryz.func12) (fun wa45 ka45 ba45=>(dK _ _ (Rat.divInt 80 1) (Rat.divInt 80 1) 2 2 wa45 ((show aK Em _ _ (Rat.divInt 80 1) from hq22).ki (nj 80 (by omega) (by omega))) (q44.ki (nj 80 (by omega) (by omega))) (by omega) (by omega) 0 (gC rfl)).mono ?_)
 rintro e w45 ⟨rfl,hb45⟩
 refine ⟨_,rfl,hb45,fun kb45 _ bb45=>wV rfl ?_⟩
 (repeat first|refine wN ?_|refine wP rfl ?_|refine af rfl ?_|refine ag rfl ?_|refine wO rfl rfl ?_)
 refine VO.cond rfl ⟨by decide,by decide⟩ (wV rfl ?_)
 (repeat first|refine wN ?_|refine wP rfl ?_|refine af rfl ?_|refine ag rfl ?_|refine wO rfl rfl ?_)
 refine VO.jr rfl [.bool s23,.slice p23 n23 c23,.bool t23,.slice y23 m23 d23] rfl (mQ uP.lt hn8 (hc23 _ rfl)) (wV rfl ?_)
 (repeat first|refine wN ?_|refine wP rfl ?_|refine af rfl ?_|refine ag rfl ?_|refine wO rfl rfl ?_)
 refine VO.call rfl rfl (fk Tryz.func31) (fun wa46 ka46 ba46=>(dW 70 1 wa46 (by omega) (by omega) (by omega) (by omega)).mono ?_)
 rintro e w46 ⟨r46,rfl,q46,hb46⟩
 obtain ⟨s46,p46,n46,c46,t46,y46,m46,d46,rfl⟩:=q46.form
 refine ⟨_,rfl,hb46,fun kb46 _ bb46=>wV rfl ?_⟩
 (repeat first|refine wN ?_|refine wP rfl ?_|refine af rfl ?_|refine ag rfl ?_|refine wO rfl rfl ?_)
 refine VO.call rfl rfl (fk Tryz.func12) (fun wa47 ka47 ba47=>(dK _ _ (Rat.divInt 70 1) (Rat.divInt 70 1) 2 2 wa47 ((show aK Em _ _ (Rat.divInt 70 1) from hq23).ki (nj 70 (by omega) (by omega))) (q46.ki (nj 70 (by omega) (by omega))) (by omega) (by omega) 0 (gC rfl)).mono ?_)
 rintro e w47 ⟨rfl,hb47⟩
 refine ⟨_,rfl,hb47,fun kb47 _ bb47=>wV rfl ?_⟩
 (repeat first|refine wN ?_|refine wP rfl ?_|refine af rfl ?_|refine ag rfl ?_|refine wO rfl rfl ?_)
 refine VO.cond rfl ⟨by decide,by decide⟩ (wV rfl ?_)
 (repeat first|refine wN ?_|refine wP rfl ?_|refine af rfl ?_|refine ag rfl ?_|refine wO rfl rfl ?_)
 refine VO.jr rfl [.int .i64 ((1:Nat):Int)] rfl (mQ uP.lt hn8 (hy23 _ rfl)) (wV rfl ?_)
 (repeat first|refine wN ?_|refine wP rfl ?_|refine af rfl ?_|refine ag rfl ?_|refine wO rfl rfl ?_)
 refine VO.cond rfl ⟨by decide,by decide⟩ (wV rfl ?_)
 (repeat first|refine wN ?_|refine wP rfl ?_|refine af rfl ?_|refine ag rfl ?_|refine wO rfl rfl ?_)
 refine VO.jr rfl [.bool s24,.slice p24 n24 c24,.bool t24,.slice y24 m24 d24] rfl (mQ uP.lt hn8 (hc24 _ rfl)) (wV rfl ?_)
 (repeat first|refine wN ?_|refine wP rfl ?_|refine af rfl ?_|refine ag rfl ?_|refine wO rfl rfl ?_)
 refine VO.call rfl rfl (fk Tryz.func31) (fun wa48 ka48 ba48=>(dW 10 1 wa48 (by omega) (by omega) (by omega) (by omega)).mono ?_)
 rintro e w48 ⟨r48,rfl,q48,hb48⟩
 obtain ⟨s48,p48,n48,c48,t48,y48,m48,d48,rfl⟩:=q48.form
 refine ⟨_,rfl,hb48,fun kb48 _ bb48=>wV rfl ?_⟩
 (repeat first|refine wN ?_|refine wP rfl ?_|refine af rfl ?_|refine ag rfl ?_|refine wO rfl rfl ?_)
 refine VO.call rfl rfl (fk Tryz.func12) (fun wa49 ka49 ba49=>(dK _ _ (Rat.divInt 10 1) (Rat.divInt 10 1) 2 2 wa49 ((show aK Em _ _ (Rat.divInt 10 1) from hq24).ki (nj 10 (by omega) (by omega))) (q48.ki (nj 10 (by omega) (by omega))) (by omega) (by omega) 0 (gC rfl)).mono ?_)
 rintro e w49 ⟨rfl,hb49⟩
 refine ⟨_,rfl,hb49,fun kb49 _ bb49=>wV rfl ?_⟩
 (repeat first|refine wN ?_|refine wP rfl ?_|refine af rfl ?_|refine ag rfl ?_|refine wO rfl rfl ?_)
 refine VO.cond rfl ⟨by decide,by decide⟩ (wV rfl ?_)
 (repeat first|refine wN ?_|refine wP rfl ?_|refine af rfl ?_|refine ag rfl ?_|refine wO rfl rfl ?_)
 refine VO.jr rfl [.int .i64 ((2:Nat):Int)] rfl (mQ uP.lt hn8 (hy24 _ rfl)) (wV rfl ?_)
 (repeat first|refine wN ?_|refine wP rfl ?_|refine af rfl ?_|refine ag rfl ?_|refine wO rfl rfl ?_)
 refine VO.cond rfl ⟨by decide,by decide⟩ (wV rfl ?_)
 (repeat first|refine wN ?_|refine wP rfl ?_|refine af rfl ?_|refine ag rfl ?_|refine wO rfl rfl ?_)
 refine VO.jr rfl [.bool s25,.slice p25 n25 c25,.bool t25,.slice y25 m25 d25] rfl (mQ mV.lt hn13 (hc25 _ rfl)) (wV rfl ?_)
 (repeat first|refine wN ?_|refine wP rfl ?_|refine af rfl ?_|refine ag rfl ?_|refine wO rfl rfl ?_)
 refine VO.call rfl rfl (fk Tryz.func31) (fun wa50 ka50 ba50=>(dW 80 1 wa50 (by omega) (by omega) (by omega) (by omega)).mono ?_)
 rintro e w50 ⟨r50,rfl,q50,hb50⟩
 obtain ⟨s50,p50,n50,c50,t50,y50,m50,d50,rfl⟩:=q50.form
 refine ⟨_,rfl,hb50,fun kb50 _ bb50=>wV rfl ?_⟩
 (repeat first|refine wN ?_|refine wP rfl ?_|refine af rfl ?_|refine ag rfl ?_|refine wO rfl rfl ?_)
 refine VO.call rfl rfl (fk Tryz.func12) (fun wa51 ka51 ba51=>(dK _ _ (Rat.divInt 80 1) (Rat.divInt 80 1) 2 2 wa51 ((show aK Em _ _ (Rat.divInt 80 1) from hq25).ki (nj 80 (by omega) (by omega))) (q50.ki (nj 80 (by omega) (by omega))) (by omega) (by omega) 0 (gC rfl)).mono ?_)
 rintro e w51 ⟨rfl,hb51⟩
 refine ⟨_,rfl,hb51,fun kb51 _ bb51=>wV rfl ?_⟩
 (repeat first|refine wN ?_|refine wP rfl ?_|refine af rfl ?_|refine ag rfl ?_|refine wO rfl rfl ?_)
 refine VO.cond rfl ⟨by decide,by decide⟩ (wV rfl ?_)
 (repeat first|refine wN ?_|refine wP rfl ?_|refine af rfl ?_|refine ag rfl ?_|refine wO rfl rfl ?_)
 refine VO.jr rfl [.bool s26,.slice p26 n26 c26,.bool t26,.slice y26 m26 d26] rfl (mQ mV.lt hn13 (hc26 _ rfl)) (wV rfl ?_)
 (repeat first|refine wN ?_|refine wP rfl ?_|refine af rfl ?_|refine ag rfl ?_|refine wO rfl rfl ?_)
 refine VO.call rfl rfl (fk Tryz.func31) (fun wa52 ka52 ba52=>(dW 50 1 wa52 (by omega) (by omega) (by omega) (by omega)).mono ?_)
 rintro e w52 ⟨r52,rfl,q52,hb52⟩
 obtain ⟨s52,p52,n52,c52,t52,y52,m52,d52,rfl⟩:=q52.form
 refine ⟨_,rfl,hb52,fun kb52 _ bb52=>wV rfl ?_⟩
 (repeat first|refine wN ?_|refine wP rfl ?_|refine af rfl ?_|refine ag rfl ?_|refine wO rfl rfl ?_)
 refine VO.call rfl rfl (fk Tryz.func12) (fun wa53 ka53 ba53=>(dK _ _ (Rat.divInt 50 1) (Rat.divInt 50 1) 2 2 wa53 ((show aK Em _ _ (Rat.divInt 50 1) from hq26).ki (nj 50 (by omega) (by omega))) (q52.ki (nj 50 (by omega) (by omega))) (by omega) (by omega) 0 (gC rfl)).mono ?_)
 rintro e w53 ⟨rfl,hb53⟩
 refine ⟨_,rfl,hb53,fun kb53 _ bb53=>wV rfl ?_⟩
 (repeat first|refine wN ?_|refine wP rfl ?_|refine af rfl ?_|refine ag rfl ?_|refine wO rfl rfl ?_)
 refine VO.cond rfl ⟨by decide,by decide⟩ (wV rfl ?_)
 (repeat first|refine wN ?_|refine wP rfl ?_|refine af rfl ?_|refine ag rfl ?_|refine wO rfl rfl ?_)
 refine VO.jr rfl [.bool s27,.slice p27 n27 c27,.bool t27,.slice y27 m27 d27] rfl (mQ mV.lt hn13 (hc27 _ rfl)) (wV rfl ?_)
 (repeat first|refine wN ?_|refine wP rfl ?_|refine af rfl ?_|refine ag rfl ?_|refine wO rfl rfl ?_)
 refine VO.call rfl rfl (fk Tryz.func31) (fun wa54 ka54 ba54=>(dW 250 1 wa54 (by omega) (by omega) (by omega) (by omega)).mono ?_)
 rintro e w54 ⟨r54,rfl,q54,hb54⟩
 obtain ⟨s54,p54,n54,c54,t54,y54,m54,d54,rfl⟩:=q54.form
 refine ⟨_,rfl,hb54,fun kb54 _ bb54=>wV rfl ?_⟩
 (repeat first|refine wN ?_|refine wP rfl ?_|refine af rfl ?_|refine ag rfl ?_|refine wO rfl rfl ?_)
 refine VO.call rfl rfl (fk Tryz.func12) (fun wa55 ka55 ba55=>(dK _ _ (Rat.divInt 250 1) (Rat.divInt 250 1) 2 2 wa55 ((show aK Em _ _ (Rat.divInt 250 1) from hq27).ki (nj 250 (by omega) (by omega))) (q54.ki (nj 250 (by omega) (by omega))) (by omega) (by omega) 0 (gC rfl)).mono ?_)
 rintro e w55 ⟨rfl,hb55⟩
 refine ⟨_,rfl,hb55,fun kb55 _ bb55=>wV rfl ?_⟩
 (repeat first|refine wN ?_|refine wP rfl ?_|refine af rfl ?_|refine ag rfl ?_|refine wO rfl rfl ?_)
 refine VS.om (bj _ _) rfl (fun wz βz kz oz enz=> ?_)
 refine ⟨rfl,qn.bh b14 oz.1 (fun x hx=> ?_)⟩
 simp only [List.mem_cons,List.not_mem_nil,or_false] at hx
 rcases hx with rfl | rfl | rfl
 ·exact o1.new
 ·exact o3.new
 ·exact o5.new
end Go.Proofs.YtabalinjfgcfeaaGreat
set_option maxRecDepth 4000
namespace Go.Proofs.YtabalinjfgcfeaaGreat
open Go.RowKit
attribute [local irreducible] aB VS
def RrE (_:World) (cs:List Value) (e:RR):Prop:=∃ p c r d,cs=[.bool e.1,.slice p e.2.1.length c,.bool e.2.2.1,.slice r e.2.2.2.length d]
theorem jz:ln RrE 4 where
 kp:=fun h _=>h
 len:=fun h=>by obtain ⟨p,c,r,d,rfl⟩:=h;rfl
 ok:=fun h=>by obtain ⟨p,c,r,d,rfl⟩:=h;rfl
def fl (l:List (RR×RR)):List RR:=l.flatMap fun e=>[e.1,e.2]
theorem oD (l:List (RR×RR)):(fl l).length=2 * l.length:=by
 induction l with
 | nil=>rfl
 | cons e r ih=>show (e.1::e.2::fl r).length=_;simp [ih];omega
theorem vF {l:List (RR×RR)} {z:Nat} {e:RR×RR} (h:l[z]? =some e):fl (l.take (z + 1))=fl (l.take z)++[e.1,e.2]:=by
 rw [fW h]
 unfold fl
 rw [List.flatMap_append]
 rfl
def AO (x:RR):Bool:=decide (x.2.1.length≤3) && decide (x.2.2.2.length≤3)
theorem FV {X:List RR} {z:Nat} {e:RR} (he:X[z]? =some e) (h:AO e=false):X.all AO=false:=by
 cases h':X.all AO with
 | false=>rfl
 | true=>rw [List.all_eq_true.1 h' e (List.mem_of_getElem? he)] at h;cases h
theorem KX {l:List RR} {z:Nat} {e:RR} (he:l[z]? =some e) (h:(l.take z).all AO=true) (hw:AO e=true):(l.take (z + 1)).all AO=true:=by
 rw [fW he,List.all_append,h];simp [hw]
theorem ck {w:World} {b off i sz:Nat} {cs:List Value} (hc:∀ (j:Nat) (u:Value),cs[j]? =some u→w.cell? ⟨b,off + i * sz + j,none⟩=some u) (k:Nat) (ds:List Value) (hd:ds <+:cs.drop k):∀ (j:Nat) (u:Value),ds[j]? =some u→w.cell? ((⟨b,off + ((i:Nat):Int).toNat * sz + k,none⟩:Addr).add j)=some u:=by
 intro j u hj
 obtain ⟨t,ht⟩:=hd
 rw [Addr.add_mid,Int.toNat_natCast,Nat.add_assoc]
 refine hc (k + j) u ?_
 rw [←List.getElem?_drop,←ht,List.getElem?_append_left (List.getElem?_eq_some_iff.1 hj).1]
 exact hj
set_option maxRecDepth 4000 in
set_option maxHeartbeats 4000000 in
theorem Hz (v:Value) (xs:List RR) (w:World) (hx:eD RrE 4 w v xs):
  Calls Tryz.prog 26 #[v] w fun o w'=>o=.returned (.bool (xs.all AO))∧aj w w':=by
 obtain ⟨q,c,rfl,eR,eT⟩:=hx.form
 obtain ⟨n,hn⟩:∃ n,n=xs.length:=⟨_,rfl⟩
 rw [←hn] at hx eR
 rw [←hn]
 refine aw (C:=cf Tryz.prog w _) (args:=[_]) Tryz.func26 rfl Tryz.ntmps26 (Nat.le_of_ble_eq_true rfl) ?_
 (repeat first|refine wN ?_|refine wP rfl ?_|refine aa rfl ?_|refine ab rfl ?_|refine wO rfl rfl ?_)
 refine VS.loop (J:=fun m L M w'=>∃ z:Nat,z≤n∧m=n - z∧L=[(0,.val (.slice q n c)),(3,.val (.int .i64 (z:Int)))]∧M=[]∧(xs.take z).all AO=true) n ⟨_,_,?_,?_,?_,?_,⟨0,by omega,rfl,rfl,rfl,rfl⟩⟩ ?_
 ·exact ⟨rfl,rfl,trivial⟩
 ·(repeat first|exact trivial|refine ⟨rfl,?_⟩)
 ·rfl
 ·(repeat first|exact trivial|refine ⟨aG.lit rfl,?_⟩|refine ⟨aG.vals _,?_⟩)
 rintro m L M w9 ⟨z,hz,rfl,rfl,rfl,me⟩
 (repeat first|refine wN ?_|refine wP rfl ?_|refine aa rfl ?_|refine ab rfl ?_|refine wO rfl rfl ?_)
 by_cases IY:z < n
 ·obtain ⟨e,he⟩:∃ e,xs[z]? =some e:=⟨_,List.getElem?_eq_getElem (by omega)⟩
  obtain ⟨b,off,ic,ma,hc,⟨ap,ac,ar,ad,rfl⟩⟩:=hx.at he
  subst ma
  refine VS.bD rfl (decide_eq_true (Int.ofNat_lt.2 IY)) ?_
  (repeat first|refine wN ?_|refine wP rfl ?_|refine aa rfl ?_|refine ab rfl ?_|refine wO rfl rfl ?_)
  refine VO.cond rfl ⟨by omega,by omega⟩ ?_
  refine wV rfl ?_
  (repeat first|refine wN ?_|refine wP rfl ?_|refine aa rfl ?_|refine ab rfl ?_|refine wO rfl rfl ?_)
  refine VO.read rfl [.slice ap e.2.1.length ac] rfl (ck hc 1 _ ⟨_,rfl⟩) (wV rfl ?_)
  (repeat first|refine wN ?_|refine wP rfl ?_|refine aa rfl ?_|refine ab rfl ?_|refine wO rfl rfl ?_)
  by_cases h1:e.2.1.length≤3
  ·refine VO.fix 18 rfl (congrArg (fun b=>AV.val (.bool b)) (decide_eq_false (show ¬ (e.2.1.length:Int) > 3 by omega))) ?_
   (repeat first|refine wN ?_|refine wP rfl ?_|refine aa rfl ?_|refine ab rfl ?_|refine wO rfl rfl ?_)
   refine VO.cond rfl ⟨by omega,by omega⟩ ?_
   refine wV rfl ?_
   (repeat first|refine wN ?_|refine wP rfl ?_|refine aa rfl ?_|refine ab rfl ?_|refine wO rfl rfl ?_)
   refine VO.read rfl [.slice ar e.2.2.2.length ad] rfl (ck hc 3 _ ⟨[],rfl⟩) (wV rfl ?_)
   (repeat first|refine wN ?_|refine wP rfl ?_|refine aa rfl ?_|refine ab rfl ?_|refine wO rfl rfl ?_)
   by_cases h2:e.2.2.2.length≤3
   ·have hs:AO e=true:=by unfold AO;rw [decide_eq_true h1,decide_eq_true h2];rfl
    refine VS.bt rfl (decide_eq_false (show ¬ (e.2.2.2.length:Int) > 3 by omega)) ?_
    (repeat first|refine wN ?_|refine wP rfl ?_|refine aa rfl ?_|refine ab rfl ?_|refine wO rfl rfl ?_)
    refine VS.back (n - (z + 1)) (by omega) ⟨_,_,?_,?_,?_,?_,⟨z + 1,by omega,rfl,rfl,rfl,KX he me hs⟩⟩
    ·refine ⟨rfl,?_,trivial⟩
     rw [←bW (i:=z) (by omega)];rfl
    ·(repeat first|exact trivial|refine ⟨rfl,?_⟩)
    ·rfl
    ·(repeat first|exact trivial|refine ⟨aG.lit rfl,?_⟩|refine ⟨aG.vals _,?_⟩)
   ·have hs:AO e=false:=by unfold AO;rw [decide_eq_false h2,Bool.and_false]
    refine VS.bD rfl (decide_eq_true (show (e.2.2.2.length:Int) > 3 by omega)) ?_
    (repeat first|refine wN ?_|refine wP rfl ?_|refine aa rfl ?_|refine ab rfl ?_|refine wO rfl rfl ?_)
    refine VS.ret (aL _ _) rfl rfl (fun wz kz bz=> ?_)
    exact ⟨by rw [FV he hs];rfl,bz⟩
  ·have hs:AO e=false:=by unfold AO;rw [decide_eq_false h1,Bool.false_and]
   refine VO.fix 18 rfl (congrArg (fun b=>AV.val (.bool b)) (decide_eq_true (show (e.2.1.length:Int) > 3 by omega))) ?_
   (repeat first|refine wN ?_|refine wP rfl ?_|refine aa rfl ?_|refine ab rfl ?_|refine wO rfl rfl ?_)
   refine VS.ret (aL _ _) rfl rfl (fun wz kz bz=> ?_)
   exact ⟨by rw [FV he hs];rfl,bz⟩
 ·refine VS.bt rfl (decide_eq_false (fun e=>IY (Int.ofNat_lt.1 e))) ?_
  (repeat first|refine wN ?_|refine wP rfl ?_|refine aa rfl ?_|refine ab rfl ?_|refine wO rfl rfl ?_)
  refine VS.ret (aL _ _) rfl rfl (fun wz kz bz=> ?_)
  rw [List.take_of_length_le (by omega)] at me
  exact ⟨by rw [me];rfl,bz⟩
theorem sx (v:Value) (xs:List RR) (w:World) (hx:eD RrE 4 w v xs) (b:Bool) (hb:xs.all AO=b):
 Calls Tryz.prog 26 #[v] w fun o w'=>o=.returned (.bool b)∧aj w w':=hb▸Hz v xs w hx
def uB (n:Nat):Bool:=decide (n≤12) || (decide (40 < n) && decide (n≤60))
def kV (S F:RR) (l:List (RR×RR)):Bool:=uB l.length && (S::F::fl l).all AO
set_option maxRecDepth 4000 in
set_option maxHeartbeats 8000000 in
theorem HF (v u:Value) (S F:RR) (keep:Int) (l:List (RR×RR)) (kk:Nat) (w:World) (hR:jk w v S F keep) (hv:eD (xQ kk) 8 w u l):
  Calls Tryz.prog 8 #[v,u] w fun o w'=>o=.returned (.bool (kV S F l))∧aj w w':=by
 obtain ⟨q,c,rfl,eR,eT⟩:=hv.form
 obtain ⟨sp,sc,sr,sd,fp,fc,fr,fd,rfl,-,-⟩:=hR
 obtain ⟨N,hN⟩:∃ N,N=l.length:=⟨_,rfl⟩
 rw [←hN] at hv eR
 rw [←hN]
 obtain ⟨bs,hb⟩:∃ b,(S::F::fl l).all AO=b:=⟨_,rfl⟩
 refine aw (C:=cf Tryz.prog w _) (args:=[_,_]) Tryz.func8 rfl Tryz.ntmps8 (Nat.le_of_ble_eq_true rfl) ?_
 (repeat first|refine wN ?_|refine wP rfl ?_|refine aa rfl ?_|refine ab rfl ?_|refine wO rfl rfl ?_)
 by_cases zU:N≤12
 ·have hlen:uB l.length=true:=by unfold uB;rw [←hN,decide_eq_true zU];rfl
  refine VO.fix 10 rfl (congrArg (fun b=>AV.val (.bool b)) (decide_eq_false (show ¬ (N:Int) > 12 by omega))) ?_
  (repeat first|refine wN ?_|refine wP rfl ?_|refine aa rfl ?_|refine ab rfl ?_|refine wO rfl rfl ?_)
  refine VS.bt rfl (decide_eq_false (show ¬ (N:Int) > 60 by omega)) ?_
  (repeat first|refine wN ?_|refine wP rfl ?_|refine aa rfl ?_|refine ab rfl ?_|refine wO rfl rfl ?_)
  refine VS.loop (J:=fun m L M w'=>∃ z:Nat,z≤N∧m=N - z∧∃ d vs spare cap,(d=24∨d=43)∧L=[(1,.val (.slice q N c)),(5,.row d 0 (2 + 2 * z) cap),(6,.val (.int .i64 (z:Int)))]∧M=[(d,(26,vs.flatten.map .val++spare))]∧
   cL RrE w' (S::F::fl (l.take z)) vs∧(vs.flatten.map AV.val++spare).length=cap * 4∧2 + 2 * z≤cap∧cap≤9223372036854775807∧spare.all aH=true∧ax spare=[]) N ⟨_,_,?_,?_,?_,?_,⟨0,by omega,rfl,24,[[.bool S.1,.slice sp S.2.1.length sc,.bool S.2.2.1,.slice sr S.2.2.2.length sd],[.bool F.1,.slice fp F.2.1.length fc,.bool F.2.2.1,.slice fr F.2.2.2.length fd]],[],2,.inl rfl,rfl,rfl,.cons ⟨_,_,_,_,rfl⟩ (.cons ⟨_,_,_,_,rfl⟩ .nil),rfl,by omega,by omega,rfl,rfl⟩⟩ ?_
  ·(repeat first|exact trivial|refine ⟨rfl,?_⟩)
  ·(repeat first|exact trivial|refine ⟨rfl,?_⟩)
  ·rfl
  ·exact ⟨.append (.vals _) (.none rfl),trivial⟩
  rintro m L M wJ ⟨z,hz,rfl,d,vs,spare,cap,rfl | rfl,rfl,rfl,eZ,CT,hzc,hcc,KY,pC⟩
  ·(repeat first|refine wN ?_|refine wP rfl ?_|refine aa rfl ?_|refine ab rfl ?_|refine wO rfl rfl ?_)
   by_cases hlt:z < N
   ·obtain ⟨e,he⟩:∃ e,l[z]? =some e:=⟨_,List.getElem?_eq_getElem (by omega)⟩
    obtain ⟨b,off,ic,ma,hc,hE⟩:=hv.at he
    subst ma
    obtain ⟨_,_,rfl,⟨ap,ac,ar,ad,rfl,-⟩,⟨bp,bc,br,bd,rfl,-⟩,-,-⟩:=hE
    obtain ⟨Ag,Ah⟩:=eZ.ok jz
    have Ij:(S::F::fl (l.take z)).length=2 + 2 * z:=by rw [List.length_cons,List.length_cons,oD,List.length_take];omega
    refine VS.bD rfl (decide_eq_true (Int.ofNat_lt.2 hlt)) ?_
    (repeat first|refine wN ?_|refine wP rfl ?_|refine aa rfl ?_|refine ab rfl ?_|refine wO rfl rfl ?_)
    refine VO.cond rfl ⟨by omega,by omega⟩ ?_
    refine wV rfl ?_
    (repeat first|refine wN ?_|refine wP rfl ?_|refine aa rfl ?_|refine ab rfl ?_|refine wO rfl rfl ?_)
    refine VO.read rfl [.bool e.1.1,.slice ap e.1.2.1.length ac,.bool e.1.2.2.1,.slice ar e.1.2.2.2.length ad] rfl (ck hc 0 _ ⟨_,rfl⟩) (wV rfl ?_)
    (repeat first|refine wN ?_|refine wP rfl ?_|refine aa rfl ?_|refine ab rfl ?_|refine wO rfl rfl ?_)
    refine VO.cond rfl ⟨by omega,by omega⟩ ?_
    refine wV rfl ?_
    (repeat first|refine wN ?_|refine wP rfl ?_|refine aa rfl ?_|refine ab rfl ?_|refine wO rfl rfl ?_)
    refine VO.read rfl [.bool e.2.1,.slice bp e.2.2.1.length bc,.bool e.2.2.2.1,.slice br e.2.2.2.2.length bd] rfl (ck hc 4 _ ⟨[],rfl⟩) (wV rfl ?_)
    (repeat first|refine wN ?_|refine wP rfl ?_|refine aa rfl ?_|refine ab rfl ?_|refine wO rfl rfl ?_)
    refine VO.Jt (aL _ _) (t:=73) (e:=26) (sz:=4) (n:=2 + 2 * z) (c:=cap) (mm:=2) (known:=vs.flatten.map .val) (spare:=spare) (del:=some 24) (news:=([.bool e.1.1,.slice ap e.1.2.1.length ac,.bool e.1.2.2.1,.slice ar e.1.2.2.2.length ad,.bool e.2.1,.slice bp e.2.2.1.length bc,.bool e.2.2.2.1,.slice br e.2.2.2.2.length bd]:List Value).map .val) (dst:=43) rfl rfl rfl rfl rfl rfl rfl rfl (Nat.le_of_ble_eq_true rfl) rfl (.inl (.inr ⟨24,rfl,rfl,rfl⟩)) (.inl rfl) (by rw [List.length_map,Ah,Ij]) CT hzc hcc ⟨ao _,pC,rfl⟩ ⟨ba Ag,KY,rfl⟩ rfl (by omega)
     (fun w1 β k1 b1 ho=>⟨_,_,rfl,.inr ⟨β 42,0,rfl,cJ (rest:=[]) (ho.own 42 (.base (List.mem_append_right _ (List.mem_singleton.2 rfl))) _ _ rfl) rfl⟩⟩)
     (fun nv cap' ak ρ FH FI fy jb gj eb mC dx=>wV rfl ?_)
    (repeat first|refine wN ?_|refine wP rfl ?_|refine aa rfl ?_|refine ab rfl ?_|refine wO rfl rfl ?_)
    have xE:cL RrE nv (S::F::fl (l.take (z + 1))) (vs++[[.bool e.1.1,.slice ap e.1.2.1.length ac,.bool e.1.2.2.1,.slice ar e.1.2.2.2.length ad],[.bool e.2.1,.slice bp e.2.2.1.length bc,.bool e.2.2.2.1,.slice br e.2.2.2.2.length bd]]):=by
     rw [vF he,←List.cons_append,←List.cons_append]
     exact (eZ.kp jz (by (with_reducible (repeat (first | assumption | exact kU _ | exact kR _ | exact Kp.of (U:=UU) (by assumption) | exact aF.of (by assumption) | refine kT ?_ (by assumption)))))).append (.cons ⟨_,_,_,_,rfl⟩ (.cons ⟨_,_,_,_,rfl⟩ .nil))
    refine VS.back (N - (z + 1)) (by omega) ⟨_,_,?_,?_,?_,?_,⟨z + 1,by omega,rfl,43,vs++[[.bool e.1.1,.slice ap e.1.2.1.length ac,.bool e.1.2.2.1,.slice ar e.1.2.2.2.length ad],[.bool e.2.1,.slice bp e.2.2.1.length bc,.bool e.2.2.2.1,.slice br e.2.2.2.2.length bd]],ak,cap',.inr rfl,rfl,rfl,xE,by simpa using eb,by omega,gj,mC,dx⟩⟩
    ·refine ⟨rfl,rfl,?_,trivial⟩
     rw [←bW (i:=z) (by omega)];rfl
    ·exact ⟨congrArg (fun l=>some (_,l++ak)) (by simp),trivial⟩
    ·rfl
    ·exact ⟨.append (.vals _) (.none dx),trivial⟩
   ·refine VS.bt rfl (decide_eq_false (fun e=>hlt (Int.ofNat_lt.1 e))) ?_
    have hzN:z=N:=by omega
    rw [List.take_of_length_le (by omega)] at eZ
    (repeat first|refine wN ?_|refine wP rfl ?_|refine aa rfl ?_|refine ab rfl ?_|refine wO rfl rfl ?_)
    refine VO.fG rfl (fk Tryz.func26) (fun cB β ek du ho=>(sx _ (S::F::fl l) cB (mz jz (ho.own 24 (.base (List.mem_singleton.2 rfl)) _ _ rfl) spare rfl (eZ.kp jz (by (with_reducible (repeat (first | assumption | exact kU _ | exact kR _ | exact Kp.of (U:=UU) (by assumption) | exact aF.of (by assumption) | refine kT ?_ (by assumption)))))) (by rw [List.length_cons,List.length_cons,oD];omega) hzc hcc) _ hb).mono ?_)
    rintro o w1 ⟨rfl,aV⟩
    refine ⟨_,rfl,aV,fun e9 _ bb1=>wV rfl ?_⟩
    (repeat first|refine wN ?_|refine wP rfl ?_|refine aa rfl ?_|refine ab rfl ?_|refine wO rfl rfl ?_)
    refine VS.ret (aL _ _) rfl rfl (fun wz kz bz=> ?_)
    exact ⟨by unfold kV;rw [hlen,hb];rfl,bz⟩
  ·(repeat first|refine wN ?_|refine wP rfl ?_|refine aa rfl ?_|refine ab rfl ?_|refine wO rfl rfl ?_)
   by_cases hlt:z < N
   ·obtain ⟨e,he⟩:∃ e,l[z]? =some e:=⟨_,List.getElem?_eq_getElem (by omega)⟩
    obtain ⟨b,off,ic,ma,hc,hE⟩:=hv.at he
    subst ma
    obtain ⟨_,_,rfl,⟨ap,ac,ar,ad,rfl,-⟩,⟨bp,bc,br,bd,rfl,-⟩,-,-⟩:=hE
    obtain ⟨Ag,Ah⟩:=eZ.ok jz
    have Ij:(S::F::fl (l.take z)).length=2 + 2 * z:=by rw [List.length_cons,List.length_cons,oD,List.length_take];omega
    refine VS.bD rfl (decide_eq_true (Int.ofNat_lt.2 hlt)) ?_
    (repeat first|refine wN ?_|refine wP rfl ?_|refine aa rfl ?_|refine ab rfl ?_|refine wO rfl rfl ?_)
    refine VO.cond rfl ⟨by omega,by omega⟩ ?_
    refine wV rfl ?_
    (repeat first|refine wN ?_|refine wP rfl ?_|refine aa rfl ?_|refine ab rfl ?_|refine wO rfl rfl ?_)
    refine VO.read rfl [.bool e.1.1,.slice ap e.1.2.1.length ac,.bool e.1.2.2.1,.slice ar e.1.2.2.2.length ad] rfl (ck hc 0 _ ⟨_,rfl⟩) (wV rfl ?_)
    (repeat first|refine wN ?_|refine wP rfl ?_|refine aa rfl ?_|refine ab rfl ?_|refine wO rfl rfl ?_)
    refine VO.cond rfl ⟨by omega,by omega⟩ ?_
    refine wV rfl ?_
    (repeat first|refine wN ?_|refine wP rfl ?_|refine aa rfl ?_|refine ab rfl ?_|refine wO rfl rfl ?_)
    refine VO.read rfl [.bool e.2.1,.slice bp e.2.2.1.length bc,.bool e.2.2.2.1,.slice br e.2.2.2.2.length bd] rfl (ck hc 4 _ ⟨[],rfl⟩) (wV rfl ?_)
    (repeat first|refine wN ?_|refine wP rfl ?_|refine aa rfl ?_|refine ab rfl ?_|refine wO rfl rfl ?_)
    refine VO.Jt (aL _ _) (t:=73) (e:=26) (sz:=4) (n:=2 + 2 * z) (c:=cap) (mm:=2) (known:=vs.flatten.map .val) (spare:=spare) (del:=some 43) (news:=([.bool e.1.1,.slice ap e.1.2.1.length ac,.bool e.1.2.2.1,.slice ar e.1.2.2.2.length ad,.bool e.2.1,.slice bp e.2.2.1.length bc,.bool e.2.2.2.1,.slice br e.2.2.2.2.length bd]:List Value).map .val) (dst:=43) rfl rfl rfl rfl rfl rfl rfl rfl (Nat.le_of_ble_eq_true rfl) rfl (.inl (.inr ⟨43,rfl,rfl,rfl⟩)) (.inr rfl) (by rw [List.length_map,Ah,Ij]) CT hzc hcc ⟨ao _,pC,rfl⟩ ⟨ba Ag,KY,rfl⟩ rfl (by omega)
     (fun w1 β k1 b1 ho=>⟨_,_,rfl,.inr ⟨β 42,0,rfl,cJ (rest:=[]) (ho.own 42 (.base (List.mem_append_right _ (List.mem_singleton.2 rfl))) _ _ rfl) rfl⟩⟩)
     (fun nv cap' ak ρ FH FI fy jb gj eb mC dx=>wV rfl ?_)
    (repeat first|refine wN ?_|refine wP rfl ?_|refine aa rfl ?_|refine ab rfl ?_|refine wO rfl rfl ?_)
    have xE:cL RrE nv (S::F::fl (l.take (z + 1))) (vs++[[.bool e.1.1,.slice ap e.1.2.1.length ac,.bool e.1.2.2.1,.slice ar e.1.2.2.2.length ad],[.bool e.2.1,.slice bp e.2.2.1.length bc,.bool e.2.2.2.1,.slice br e.2.2.2.2.length bd]]):=by
     rw [vF he,←List.cons_append,←List.cons_append]
     exact (eZ.kp jz (by (with_reducible (repeat (first | assumption | exact kU _ | exact kR _ | exact Kp.of (U:=UU) (by assumption) | exact aF.of (by assumption) | refine kT ?_ (by assumption)))))).append (.cons ⟨_,_,_,_,rfl⟩ (.cons ⟨_,_,_,_,rfl⟩ .nil))
    refine VS.back (N - (z + 1)) (by omega) ⟨_,_,?_,?_,?_,?_,⟨z + 1,by omega,rfl,43,vs++[[.bool e.1.1,.slice ap e.1.2.1.length ac,.bool e.1.2.2.1,.slice ar e.1.2.2.2.length ad],[.bool e.2.1,.slice bp e.2.2.1.length bc,.bool e.2.2.2.1,.slice br e.2.2.2.2.length bd]],ak,cap',.inr rfl,rfl,rfl,xE,by simpa using eb,by omega,gj,mC,dx⟩⟩
    ·refine ⟨rfl,rfl,?_,trivial⟩
     rw [←bW (i:=z) (by omega)];rfl
    ·exact ⟨congrArg (fun l=>some (_,l++ak)) (by simp),trivial⟩
    ·rfl
    ·exact ⟨.append (.vals _) (.none dx),trivial⟩
   ·refine VS.bt rfl (decide_eq_false (fun e=>hlt (Int.ofNat_lt.1 e))) ?_
    have hzN:z=N:=by omega
    rw [List.take_of_length_le (by omega)] at eZ
    (repeat first|refine wN ?_|refine wP rfl ?_|refine aa rfl ?_|refine ab rfl ?_|refine wO rfl rfl ?_)
    refine VO.fG rfl (fk Tryz.func26) (fun cB β ek du ho=>(sx _ (S::F::fl l) cB (mz jz (ho.own 43 (.base (List.mem_singleton.2 rfl)) _ _ rfl) spare rfl (eZ.kp jz (by (with_reducible (repeat (first | assumption | exact kU _ | exact kR _ | exact Kp.of (U:=UU) (by assumption) | exact aF.of (by assumption) | refine kT ?_ (by assumption)))))) (by rw [List.length_cons,List.length_cons,oD];omega) hzc hcc) _ hb).mono ?_)
    rintro o w1 ⟨rfl,aV⟩
    refine ⟨_,rfl,aV,fun e9 _ bb1=>wV rfl ?_⟩
    (repeat first|refine wN ?_|refine wP rfl ?_|refine aa rfl ?_|refine ab rfl ?_|refine wO rfl rfl ?_)
    refine VS.ret (aL _ _) rfl rfl (fun wz kz bz=> ?_)
    exact ⟨by unfold kV;rw [hlen,hb];rfl,bz⟩
 ·refine VO.fix 10 rfl (congrArg (fun b=>AV.val (.bool b)) (decide_eq_true (show (N:Int) > 12 by omega))) ?_
  (repeat first|refine wN ?_|refine wP rfl ?_|refine aa rfl ?_|refine ab rfl ?_|refine wO rfl rfl ?_)
  by_cases h40:N≤40
  ·refine VO.fix 15 rfl (congrArg (fun b=>AV.val (.bool b)) (decide_eq_true (show (N:Int)≤40 by omega))) ?_
   (repeat first|refine wN ?_|refine wP rfl ?_|refine aa rfl ?_|refine ab rfl ?_|refine wO rfl rfl ?_)
   refine VS.ret (aL _ _) rfl rfl (fun wz kz bz=> ?_)
   exact ⟨by unfold kV uB;rw [←hN,decide_eq_false zU,decide_eq_false (show ¬ 40 < N by omega)];rfl,bz⟩
  ·refine VO.fix 15 rfl (congrArg (fun b=>AV.val (.bool b)) (decide_eq_false (show ¬ (N:Int)≤40 by omega))) ?_
   (repeat first|refine wN ?_|refine wP rfl ?_|refine aa rfl ?_|refine ab rfl ?_|refine wO rfl rfl ?_)
   by_cases h60:N≤60
   ·have hlen:uB l.length=true:=by unfold uB;rw [←hN,decide_eq_false zU,decide_eq_true (show 40 < N by omega),decide_eq_true h60];rfl
    refine VS.bt rfl (decide_eq_false (show ¬ (N:Int) > 60 by omega)) ?_
    (repeat first|refine wN ?_|refine wP rfl ?_|refine aa rfl ?_|refine ab rfl ?_|refine wO rfl rfl ?_)
    refine VS.loop (J:=fun m L M w'=>∃ z:Nat,z≤N∧m=N - z∧∃ d vs spare cap,(d=24∨d=43)∧L=[(1,.val (.slice q N c)),(5,.row d 0 (2 + 2 * z) cap),(6,.val (.int .i64 (z:Int)))]∧M=[(d,(26,vs.flatten.map .val++spare))]∧
     cL RrE w' (S::F::fl (l.take z)) vs∧(vs.flatten.map AV.val++spare).length=cap * 4∧2 + 2 * z≤cap∧cap≤9223372036854775807∧spare.all aH=true∧ax spare=[]) N ⟨_,_,?_,?_,?_,?_,⟨0,by omega,rfl,24,[[.bool S.1,.slice sp S.2.1.length sc,.bool S.2.2.1,.slice sr S.2.2.2.length sd],[.bool F.1,.slice fp F.2.1.length fc,.bool F.2.2.1,.slice fr F.2.2.2.length fd]],[],2,.inl rfl,rfl,rfl,.cons ⟨_,_,_,_,rfl⟩ (.cons ⟨_,_,_,_,rfl⟩ .nil),rfl,by omega,by omega,rfl,rfl⟩⟩ ?_
    ·(repeat first|exact trivial|refine ⟨rfl,?_⟩)
    ·(repeat first|exact trivial|refine ⟨rfl,?_⟩)
    ·rfl
    ·exact ⟨.append (.vals _) (.none rfl),trivial⟩
    rintro m L M wJ ⟨z,hz,rfl,d,vs,spare,cap,rfl | rfl,rfl,rfl,eZ,CT,hzc,hcc,KY,pC⟩
    ·(repeat first|refine wN ?_|refine wP rfl ?_|refine aa rfl ?_|refine ab rfl ?_|refine wO rfl rfl ?_)
     by_cases hlt:z < N
     ·obtain ⟨e,he⟩:∃ e,l[z]? =some e:=⟨_,List.getElem?_eq_getElem (by omega)⟩
      obtain ⟨b,off,ic,ma,hc,hE⟩:=hv.at he
      subst ma
      obtain ⟨_,_,rfl,⟨ap,ac,ar,ad,rfl,-⟩,⟨bp,bc,br,bd,rfl,-⟩,-,-⟩:=hE
      obtain ⟨Ag,Ah⟩:=eZ.ok jz
      have Ij:(S::F::fl (l.take z)).length=2 + 2 * z:=by rw [List.length_cons,List.length_cons,oD,List.length_take];omega
      refine VS.bD rfl (decide_eq_true (Int.ofNat_lt.2 hlt)) ?_
      (repeat first|refine wN ?_|refine wP rfl ?_|refine aa rfl ?_|refine ab rfl ?_|refine wO rfl rfl ?_)
      refine VO.cond rfl ⟨by omega,by omega⟩ ?_
      refine wV rfl ?_
      (repeat first|refine wN ?_|refine wP rfl ?_|refine aa rfl ?_|refine ab rfl ?_|refine wO rfl rfl ?_)
      refine VO.read rfl [.bool e.1.1,.slice ap e.1.2.1.length ac,.bool e.1.2.2.1,.slice ar e.1.2.2.2.length ad] rfl (ck hc 0 _ ⟨_,rfl⟩) (wV rfl ?_)
      (repeat first|refine wN ?_|refine wP rfl ?_|refine aa rfl ?_|refine ab rfl ?_|refine wO rfl rfl ?_)
      refine VO.cond rfl ⟨by omega,by omega⟩ ?_
      refine wV rfl ?_
      (repeat first|refine wN ?_|refine wP rfl ?_|refine aa rfl ?_|refine ab rfl ?_|refine wO rfl rfl ?_)
      refine VO.read rfl [.bool e.2.1,.slice bp e.2.2.1.length bc,.bool e.2.2.2.1,.slice br e.2.2.2.2.length bd] rfl (ck hc 4 _ ⟨[],rfl⟩) (wV rfl ?_)
      (repeat first|refine wN ?_|refine wP rfl ?_|refine aa rfl ?_|refine ab rfl ?_|refine wO rfl rfl ?_)
      refine VO.Jt (aL _ _) (t:=73) (e:=26) (sz:=4) (n:=2 + 2 * z) (c:=cap) (mm:=2) (known:=vs.flatten.map .val) (spare:=spare) (del:=some 24) (news:=([.bool e.1.1,.slice ap e.1.2.1.length ac,.bool e.1.2.2.1,.slice ar e.1.2.2.2.length ad,.bool e.2.1,.slice bp e.2.2.1.length bc,.bool e.2.2.2.1,.slice br e.2.2.2.2.length bd]:List Value).map .val) (dst:=43) rfl rfl rfl rfl rfl rfl rfl rfl (Nat.le_of_ble_eq_true rfl) rfl (.inl (.inr ⟨24,rfl,rfl,rfl⟩)) (.inl rfl) (by rw [List.length_map,Ah,Ij]) CT hzc hcc ⟨ao _,pC,rfl⟩ ⟨ba Ag,KY,rfl⟩ rfl (by omega)
       (fun w1 β k1 b1 ho=>⟨_,_,rfl,.inr ⟨β 42,0,rfl,cJ (rest:=[]) (ho.own 42 (.base (List.mem_append_right _ (List.mem_singleton.2 rfl))) _ _ rfl) rfl⟩⟩)
       (fun nv cap' ak ρ FH FI fy jb gj eb mC dx=>wV rfl ?_)
      (repeat first|refine wN ?_|refine wP rfl ?_|refine aa rfl ?_|refine ab rfl ?_|refine wO rfl rfl ?_)
      have xE:cL RrE nv (S::F::fl (l.take (z + 1))) (vs++[[.bool e.1.1,.slice ap e.1.2.1.length ac,.bool e.1.2.2.1,.slice ar e.1.2.2.2.length ad],[.bool e.2.1,.slice bp e.2.2.1.length bc,.bool e.2.2.2.1,.slice br e.2.2.2.2.length bd]]):=by
       rw [vF he,←List.cons_append,←List.cons_append]
       exact (eZ.kp jz (by (with_reducible (repeat (first | assumption | exact kU _ | exact kR _ | exact Kp.of (U:=UU) (by assumption) | exact aF.of (by assumption) | refine kT ?_ (by assumption)))))).append (.cons ⟨_,_,_,_,rfl⟩ (.cons ⟨_,_,_,_,rfl⟩ .nil))
      refine VS.back (N - (z + 1)) (by omega) ⟨_,_,?_,?_,?_,?_,⟨z + 1,by omega,rfl,43,vs++[[.bool e.1.1,.slice ap e.1.2.1.length ac,.bool e.1.2.2.1,.slice ar e.1.2.2.2.length ad],[.bool e.2.1,.slice bp e.2.2.1.length bc,.bool e.2.2.2.1,.slice br e.2.2.2.2.length bd]],ak,cap',.inr rfl,rfl,rfl,xE,by simpa using eb,by omega,gj,mC,dx⟩⟩
      ·refine ⟨rfl,rfl,?_,trivial⟩
       rw [←bW (i:=z) (by omega)];rfl
      ·exact ⟨congrArg (fun l=>some (_,l++ak)) (by simp),trivial⟩
      ·rfl
      ·exact ⟨.append (.vals _) (.none dx),trivial⟩
     ·refine VS.bt rfl (decide_eq_false (fun e=>hlt (Int.ofNat_lt.1 e))) ?_
      have hzN:z=N:=by omega
      rw [List.take_of_length_le (by omega)] at eZ
      (repeat first|refine wN ?_|refine wP rfl ?_|refine aa rfl ?_|refine ab rfl ?_|refine wO rfl rfl ?_)
      refine VO.fG rfl (fk Tryz.func26) (fun cB β ek du ho=>(sx _ (S::F::fl l) cB (mz jz (ho.own 24 (.base (List.mem_singleton.2 rfl)) _ _ rfl) spare rfl (eZ.kp jz (by (with_reducible (repeat (first | assumption | exact kU _ | exact kR _ | exact Kp.of (U:=UU) (by assumption) | exact aF.of (by assumption) | refine kT ?_ (by assumption)))))) (by rw [List.length_cons,List.length_cons,oD];omega) hzc hcc) _ hb).mono ?_)
      rintro o w1 ⟨rfl,aV⟩
      refine ⟨_,rfl,aV,fun e9 _ bb1=>wV rfl ?_⟩
      (repeat first|refine wN ?_|refine wP rfl ?_|refine aa rfl ?_|refine ab rfl ?_|refine wO rfl rfl ?_)
      refine VS.ret (aL _ _) rfl rfl (fun wz kz bz=> ?_)
      exact ⟨by unfold kV;rw [hlen,hb];rfl,bz⟩
    ·(repeat first|refine wN ?_|refine wP rfl ?_|refine aa rfl ?_|refine ab rfl ?_|refine wO rfl rfl ?_)
     by_cases hlt:z < N
     ·obtain ⟨e,he⟩:∃ e,l[z]? =some e:=⟨_,List.getElem?_eq_getElem (by omega)⟩
      obtain ⟨b,off,ic,ma,hc,hE⟩:=hv.at he
      subst ma
      obtain ⟨_,_,rfl,⟨ap,ac,ar,ad,rfl,-⟩,⟨bp,bc,br,bd,rfl,-⟩,-,-⟩:=hE
      obtain ⟨Ag,Ah⟩:=eZ.ok jz
      have Ij:(S::F::fl (l.take z)).length=2 + 2 * z:=by rw [List.length_cons,List.length_cons,oD,List.length_take];omega
      refine VS.bD rfl (decide_eq_true (Int.ofNat_lt.2 hlt)) ?_
      (repeat first|refine wN ?_|refine wP rfl ?_|refine aa rfl ?_|refine ab rfl ?_|refine wO rfl rfl ?_)
      refine VO.cond rfl ⟨by omega,by omega⟩ ?_
      refine wV rfl ?_
      (repeat first|refine wN ?_|refine wP rfl ?_|refine aa rfl ?_|refine ab rfl ?_|refine wO rfl rfl ?_)
      refine VO.read rfl [.bool e.1.1,.slice ap e.1.2.1.length ac,.bool e.1.2.2.1,.slice ar e.1.2.2.2.length ad] rfl (ck hc 0 _ ⟨_,rfl⟩) (wV rfl ?_)
      (repeat first|refine wN ?_|refine wP rfl ?_|refine aa rfl ?_|refine ab rfl ?_|refine wO rfl rfl ?_)
      refine VO.cond rfl ⟨by omega,by omega⟩ ?_
      refine wV rfl ?_
      (repeat first|refine wN ?_|refine wP rfl ?_|refine aa rfl ?_|refine ab rfl ?_|refine wO rfl rfl ?_)
      refine VO.read rfl [.bool e.2.1,.slice bp e.2.2.1.length bc,.bool e.2.2.2.1,.slice br e.2.2.2.2.length bd] rfl (ck hc 4 _ ⟨[],rfl⟩) (wV rfl ?_)
      (repeat first|refine wN ?_|refine wP rfl ?_|refine aa rfl ?_|refine ab rfl ?_|refine wO rfl rfl ?_)
      refine VO.Jt (aL _ _) (t:=73) (e:=26) (sz:=4) (n:=2 + 2 * z) (c:=cap) (mm:=2) (known:=vs.flatten.map .val) (spare:=spare) (del:=some 43) (news:=([.bool e.1.1,.slice ap e.1.2.1.length ac,.bool e.1.2.2.1,.slice ar e.1.2.2.2.length ad,.bool e.2.1,.slice bp e.2.2.1.length bc,.bool e.2.2.2.1,.slice br e.2.2.2.2.length bd]:List Value).map .val) (dst:=43) rfl rfl rfl rfl rfl rfl rfl rfl (Nat.le_of_ble_eq_true rfl) rfl (.inl (.inr ⟨43,rfl,rfl,rfl⟩)) (.inr rfl) (by rw [List.length_map,Ah,Ij]) CT hzc hcc ⟨ao _,pC,rfl⟩ ⟨ba Ag,KY,rfl⟩ rfl (by omega)
       (fun w1 β k1 b1 ho=>⟨_,_,rfl,.inr ⟨β 42,0,rfl,cJ (rest:=[]) (ho.own 42 (.base (List.mem_append_right _ (List.mem_singleton.2 rfl))) _ _ rfl) rfl⟩⟩)
       (fun nv cap' ak ρ FH FI fy jb gj eb mC dx=>wV rfl ?_)
      (repeat first|refine wN ?_|refine wP rfl ?_|refine aa rfl ?_|refine ab rfl ?_|refine wO rfl rfl ?_)
      have xE:cL RrE nv (S::F::fl (l.take (z + 1))) (vs++[[.bool e.1.1,.slice ap e.1.2.1.length ac,.bool e.1.2.2.1,.slice ar e.1.2.2.2.length ad],[.bool e.2.1,.slice bp e.2.2.1.length bc,.bool e.2.2.2.1,.slice br e.2.2.2.2.length bd]]):=by
       rw [vF he,←List.cons_append,←List.cons_append]
       exact (eZ.kp jz (by (with_reducible (repeat (first | assumption | exact kU _ | exact kR _ | exact Kp.of (U:=UU) (by assumption) | exact aF.of (by assumption) | refine kT ?_ (by assumption)))))).append (.cons ⟨_,_,_,_,rfl⟩ (.cons ⟨_,_,_,_,rfl⟩ .nil))
      refine VS.back (N - (z + 1)) (by omega) ⟨_,_,?_,?_,?_,?_,⟨z + 1,by omega,rfl,43,vs++[[.bool e.1.1,.slice ap e.1.2.1.length ac,.bool e.1.2.2.1,.slice ar e.1.2.2.2.length ad],[.bool e.2.1,.slice bp e.2.2.1.length bc,.bool e.2.2.2.1,.slice br e.2.2.2.2.length bd]],ak,cap',.inr rfl,rfl,rfl,xE,by simpa using eb,by omega,gj,mC,dx⟩⟩
      ·refine ⟨rfl,rfl,?_,trivial⟩
       rw [←bW (i:=z) (by omega)];rfl
      ·exact ⟨congrArg (fun l=>some (_,l++ak)) (by simp),trivial⟩
      ·rfl
      ·exact ⟨.append (.vals _) (.none dx),trivial⟩
     ·refine VS.bt rfl (decide_eq_false (fun e=>hlt (Int.ofNat_lt.1 e))) ?_
      have hzN:z=N:=by omega
      rw [List.take_of_length_le (by omega)] at eZ
      (repeat first|refine wN ?_|refine wP rfl ?_|refine aa rfl ?_|refine ab rfl ?_|refine wO rfl rfl ?_)
      refine VO.fG rfl (fk Tryz.func26) (fun cB β ek du ho=>(sx _ (S::F::fl l) cB (mz jz (ho.own 43 (.base (List.mem_singleton.2 rfl)) _ _ rfl) spare rfl (eZ.kp jz (by (with_reducible (repeat (first | assumption | exact kU _ | exact kR _ | exact Kp.of (U:=UU) (by assumption) | exact aF.of (by assumption) | refine kT ?_ (by assumption)))))) (by rw [List.length_cons,List.length_cons,oD];omega) hzc hcc) _ hb).mono ?_)
      rintro o w1 ⟨rfl,aV⟩
      refine ⟨_,rfl,aV,fun e9 _ bb1=>wV rfl ?_⟩
      (repeat first|refine wN ?_|refine wP rfl ?_|refine aa rfl ?_|refine ab rfl ?_|refine wO rfl rfl ?_)
      refine VS.ret (aL _ _) rfl rfl (fun wz kz bz=> ?_)
      exact ⟨by unfold kV;rw [hlen,hb];rfl,bz⟩
   ·refine VS.bD rfl (decide_eq_true (show (N:Int) > 60 by omega)) ?_
    (repeat first|refine wN ?_|refine wP rfl ?_|refine aa rfl ?_|refine ab rfl ?_|refine wO rfl rfl ?_)
    refine VS.ret (aL _ _) rfl rfl (fun wz kz bz=> ?_)
    exact ⟨by unfold kV uB;rw [←hN,decide_eq_false zU,decide_eq_false h60,Bool.and_false];rfl,bz⟩
theorem CU (v u:Value) (S F:RR) (keep:Int) (l:List (RR×RR)) (kk:Nat) (w:World) (hR:jk w v S F keep) (hv:eD (xQ kk) 8 w u l) (b:Bool) (hb:kV S F l=b):
 Calls Tryz.prog 8 #[v,u] w fun o w'=>o=.returned (.bool b)∧aj w w':=hb▸HF v u S F keep l kk w hR hv
theorem HI {S F:RR} {l:List (RR×RR)} (h:kV S F l=true):l.length≤12∨(40 < l.length∧l.length≤60):=by
 unfold kV uB at h
 rw [Bool.and_eq_true,Bool.or_eq_true,Bool.and_eq_true,decide_eq_true_iff,decide_eq_true_iff,decide_eq_true_iff] at h
 exact h.1
theorem zi {S F:RR} {l:List (RR×RR)} (h:kV S F l=true):S.mM 3∧F.mM 3∧∀ e∈l,e.1.mM 3∧e.2.mM 3:=by
 unfold kV at h
 rw [Bool.and_eq_true] at h
 have h2:∀ x∈(S::F::fl l),x.mM 3:=fun x hx=>by
  have:=List.all_eq_true.1 h.2 x hx
  unfold AO at this
  rwa [Bool.and_eq_true,decide_eq_true_iff,decide_eq_true_iff] at this
 refine ⟨h2 S (by simp),h2 F (by simp),fun e he=>⟨h2 _ ?_,h2 _ ?_⟩⟩
 ·exact List.mem_cons_of_mem _ (List.mem_cons_of_mem _ (List.mem_flatMap.2 ⟨e,he,by simp⟩))
 ·exact List.mem_cons_of_mem _ (List.mem_cons_of_mem _ (List.mem_flatMap.2 ⟨e,he,by simp⟩))
theorem KZ {S F:RR} {l:List (RR×RR)} {kk:Nat} {w:World} {v:Value} (h:kV S F l=true) (hv:eD (xQ kk) 8 w v l):eD (xQ 3) 8 w v l:=by
 have h3:=(zi h).2.2
 refine hv.mono fun i a cs ha he=> ?_
 have hm:=h3 a (List.mem_of_getElem? ha)
 obtain ⟨x,y,e,f1,f2,-⟩:=he
 exact ⟨x,y,e,f1,f2,hm.1,hm.2⟩
end Go.Proofs.YtabalinjfgcfeaaGreat
set_option maxRecDepth 4000
namespace Go.Proofs.YtabalinjfgcfeaaGreat
open Go.RowKit
attribute [local irreducible] aB VS
structure nk where
 eI:RR
 allowed:RR
 bk:RR
 used:RR
 bT:RR
 aZ:RR
 closing:RR
def nk.q (r:nk):aN:=⟨r.eI.q,r.allowed.q,r.bk.q,r.used.q,r.bT.q,r.aZ.q,r.closing.q⟩
def nk.gW (r:nk):Nat→RR
 | 0=>r.eI
 | 1=>r.allowed
 | 2=>r.bk
 | 3=>r.used
 | 4=>r.bT
 | 5=>r.aZ
 | _=>r.closing
abbrev mJ:=Int×Int×RR
def Rw (kk:Nat) (w:World) (cs:List Value) (x:RR):Prop:=tA w cs x∧x.mM kk
theorem Rw.kp {T:TypeId→Bool} {kk:Nat} {w w':World} {cs:List Value} {x:RR} (h:Rw kk w cs x) (k:aF ⟨UU,fun _=>True,T⟩ w w'):Rw kk w' cs x:=⟨h.1.kp k,h.2⟩
def RowI (kk:Nat) (w:World) (cs:List Value) (r:nk):Prop:=
 ∃ a b c d e f g:List Value,cs=a++(b++(c++(d++(e++(f++g)))))∧Rw kk w a r.eI∧Rw kk w b r.allowed∧Rw kk w c r.bk∧Rw kk w d r.used∧Rw kk w e r.bT∧Rw kk w f r.aZ∧Rw kk w g r.closing
def UseI (kk:Nat) (w:World) (cs:List Value) (e:mJ):Prop:=∃ a,cs=[.int .i64 e.1,.int .i64 e.2.1]++a∧Rw kk w a e.2.2
theorem rowI_ok (kk:Nat):ln (RowI kk) 28 where
 kp:=fun h k=>by
  obtain ⟨a,b,c,d,e,f,g,h0,h1,h2,h3,h4,h5,h6,h7⟩:=h
  exact ⟨a,b,c,d,e,f,g,h0,h1.kp k,h2.kp k,h3.kp k,h4.kp k,h5.kp k,h6.kp k,h7.kp k⟩
 len:=fun h=>by
  obtain ⟨a,b,c,d,e,f,g,rfl,h1,h2,h3,h4,h5,h6,h7⟩:=h
  simp only [List.length_append,h1.1.len,h2.1.len,h3.1.len,h4.1.len,h5.1.len,h6.1.len,h7.1.len]
 ok:=fun h=>by
  obtain ⟨a,b,c,d,e,f,g,rfl,h1,h2,h3,h4,h5,h6,h7⟩:=h
  simp only [List.all_append,h1.1.ok,h2.1.ok,h3.1.ok,h4.1.ok,h5.1.ok,h6.1.ok,h7.1.ok,Bool.and_self]
theorem useI_ok (kk:Nat):ln (UseI kk) 6 where
 kp:=fun h k=>by
  obtain ⟨a,h0,h1⟩:=h
  exact ⟨a,h0,h1.kp k⟩
 len:=fun h=>by obtain ⟨a,rfl,h1⟩:=h;rw [List.length_append,h1.1.len];rfl
 ok:=fun h=>by obtain ⟨a,rfl,h1⟩:=h;rw [List.all_append,h1.1.ok];rfl
theorem K0 {kk:Nat} {w:World} {cs:List Value} {r:nk} (h:RowI kk w cs r) (f:Nat) (hf:f≤6):∃ a,a <+:cs.drop (4 * f)∧Rw kk w a (r.gW f):=by
 obtain ⟨a,b,c,d,e,g,i,rfl,h1,h2,h3,h4,h5,h6,h7⟩:=h
 have l1:=h1.1.len
 have l2:=h2.1.len
 have l3:=h3.1.len
 have l4:=h4.1.len
 have l5:=h5.1.len
 have l6:=h6.1.len
 have key:∀ (pre x post:List Value),pre.length=4 * f→x <+:(pre++(x++post)).drop (4 * f):=fun pre x post hp=>by
  rw [←hp,List.drop_left];exact List.prefix_append _ _
 match f,hf with
 | 0,_=>exact ⟨a,key [] a _ rfl,h1⟩
 | 1,_=>exact ⟨b,key a b _ l1,h2⟩
 | 2,_=>exact ⟨c,by rw [←List.append_assoc];exact key (a++b) c _ (by simp [l1,l2]),h3⟩
 | 3,_=>exact ⟨d,by rw [show a++(b++(c++(d++(e++(g++i)))))=(a++(b++c))++(d++(e++(g++i))) by simp];exact key (a++(b++c)) d _ (by simp [l1,l2,l3]),h4⟩
 | 4,_=>exact ⟨e,by rw [show a++(b++(c++(d++(e++(g++i)))))=(a++(b++(c++d)))++(e++(g++i)) by simp];exact key (a++(b++(c++d))) e _ (by simp [l1,l2,l3,l4]),h5⟩
 | 5,_=>exact ⟨g,by rw [show a++(b++(c++(d++(e++(g++i)))))=(a++(b++(c++(d++e))))++(g++i) by simp];exact key (a++(b++(c++(d++e)))) g _ (by simp [l1,l2,l3,l4,l5]),h6⟩
 | 6,_=>exact ⟨i,by rw [show a++(b++(c++(d++(e++(g++i)))))=(a++(b++(c++(d++(e++g)))))++(i++[]) by simp];exact key (a++(b++(c++(d++(e++g))))) i _ (by simp [l1,l2,l3,l4,l5,l6]),h7⟩
def Az (kk:Nat) (w:World) (r u:Value) (X:List nk×List mJ):Prop:=eD (RowI kk) 28 w r X.1∧eD (UseI kk) 6 w u X.2
theorem Az.bh {kk:Nat} {w w':World} {r u:Value} {X:List nk×List mJ} (h:Az kk w r u X) (b:aj w w'):Az kk w' r u X:=⟨h.1.bh (rowI_ok kk) b,h.2.bh (useI_ok kk) b⟩
def CV (r:aN):nk:=⟨mR r.eI,mR r.allowed,mR r.bk,mR r.used,mR r.bT,mR r.aZ,mR r.closing⟩
def CW (e:Uq):mJ:=((e.1:Int),(e.2.1:Int),mR e.2.2)
def pH (x:List aN×List Uq):List nk×List mJ:=(x.1.map CV,x.2.map CW)
theorem crow_q (r:aN):(CV r).q=r:=by unfold CV nk.q;simp only [mU]
def RowSz (kk:Nat) (r:aN):Prop:=dQ r.eI kk∧dQ r.allowed kk∧dQ r.bk kk∧dQ r.used kk∧dQ r.bT kk∧dQ r.aZ kk∧dQ r.closing kk
def LedSz (kk:Nat) (x:List aN×List Uq):Prop:=(∀ r∈x.1,RowSz kk r)∧∀ e∈x.2,dQ e.2.2 kk
theorem R4.rw {B kk:Nat} {w:World} {cs:List Value} {q:Rat} (h:R4 B w cs q) (hs:dQ q kk):Rw kk w cs (mR q):=by
 obtain ⟨s,p,n,c,t,r,m,d,rfl,h1⟩:=h
 exact ⟨h1.rd.Hy,pd hs⟩
theorem row7_in {B kk:Nat} {w:World} {cs:List Value} {r:aN} (h:dD B w cs r) (hs:RowSz kk r):RowI kk w cs (CV r):=by
 obtain ⟨a,b,c,d,e,f,g,h0,h1,h2,h3,h4,h5,h6,h7⟩:=h
 obtain ⟨s1,s2,s3,s4,s5,s6,s7⟩:=hs
 exact ⟨a,b,c,d,e,f,g,h0,h1.rw s1,h2.rw s2,h3.rw s3,h4.rw s4,h5.rw s5,h6.rw s6,h7.rw s7⟩
theorem use_in {B kk:Nat} {w:World} {cs:List Value} {e:Uq} (h:nb B w cs e) (hs:dQ e.2.2 kk):UseI kk w cs (CW e):=by
 obtain ⟨s,p,n,c,t,r,m,d,rfl,h1⟩:=h
 exact ⟨_,rfl,h1.rd.Hy,pd hs⟩
theorem K1 {α α':Type} {E:World→List Value→α→Prop} {E':World→List Value→α'→Prop} {sz:Nat} (hE:ln E sz) {t:TypeId} {w:World} {b:Nat} {v:Value} {es:List α} (f:α→α') (h:SlZ E sz t w b v es) (hf:∀ cs,∀ e∈es,E w cs e→E' w cs (f e)):eD E' sz w v (es.map f):=by
 obtain ⟨n,c,vs,sp,rfl,hc,ho⟩:=h
 have hn:n=es.length:=ho.len
 subst hn
 refine ⟨_,_,by rw [List.length_map],by rw [List.length_map];exact ho.le,by simpa [maxLen] using ho.cm,fun i a ha=> ?_⟩
 rw [List.getElem?_map] at ha
 obtain ⟨e,he,rfl⟩:=Option.map_eq_some_iff.1 ha
 obtain ⟨cs,hcs,hEx⟩:=ho.el.at i e he
 refine ⟨b,0,cs,rfl,fun j u hj=> ?_,hf _ _ (List.mem_of_getElem? he) hEx⟩
 refine hc.cell ?_
 have jq:cs.length=sz:=hE.len hEx
 have hjl:=(List.getElem?_eq_some_iff.1 hj).1
 obtain ⟨hlt,hxx⟩:=List.getElem?_eq_some_iff.1 hcs
 have ye:vs=vs.take i++cs::vs.drop (i + 1):=by rw [←hxx,←List.drop_eq_getElem_cons hlt,List.take_append_drop]
 have hal:(vs.take i).flatten.length=i * sz:=by
  rw [cV (fun y hy=>ho.el.lens hE y (List.mem_of_mem_take hy)),List.length_take,Nat.min_eq_left (by omega)]
 rw [List.getElem?_toArray,ye,List.flatten_append,List.append_assoc,List.getElem?_append_right (by omega),hal,List.flatten_cons,List.append_assoc,show 0 + i * sz + j - i * sz=j by omega,List.getElem?_append_left hjl]
 exact hj
theorem sq.inI {B kk:Nat} {w:World} {r u:Value} {x:List aN×List Uq} (h:sq B w r u x) (hs:LedSz kk x):Az kk w r u (pH x):=by
 refine ⟨?_,?_⟩
 ·rcases h.1 with ⟨rfl,e⟩ | ⟨rb,_,h3⟩
  ·unfold pH;rw [e];exact eD.nil _ _ _
  ·exact K1 (az B) CV h3 fun cs e he hE=>row7_in hE (hs.1 e he)
 ·rcases h.2 with ⟨rfl,e⟩ | ⟨rb,_,h3⟩
  ·unfold pH;rw [e];exact eD.nil _ _ _
  ·exact K1 (dk B) CW h3 fun cs e he hE=>use_in hE (hs.2 e he)
def pq (c:Bool) (x:RR):Rat:=if c then x.q else 0
def Ir (v:Int) (us:List mJ):Rat:=gV (us.map fun e=>pq (decide (e.1=v)) e.2.2)
def EL (v y:Int) (us:List mJ):Rat:=gV (us.map fun e=>pq (decide (e.1=v) && decide (e.2.1 < y)) e.2.2)
theorem lz {us:List mJ} (f:mJ→Rat) {z:Nat} {e:mJ} (h:us[z]? =some e):gV ((us.take (z + 1)).map f)=gV ((us.take z).map f) + f e:=by
 rw [List.map_take,List.map_take]
 exact tt (by rw [List.getElem?_map,h];rfl)
theorem RR.sz {x:RR} {w:World} {cs:List Value} {kk:Nat} (h:Rw kk w cs x):dQ x.q (jP kk):=by
 obtain ⟨p,c,r,d,rfl,h1⟩:=h.1
 exact (h1.o9 h.2).z6
theorem EM {us:List mJ} {kk:Nat} {w:World} {f:mJ→Bool} {z:Nat} (h:∀ e∈us,∃ cs,Rw kk w cs e.2.2) (hz:z≤us.length):dQ (gV ((us.take z).map fun e=>pq (f e) e.2.2)) (cW kk z):=by
 induction z with
 | zero=>exact dQ.zero.mono (by unfold cW;omega)
 | succ z ih=>
  obtain ⟨e,he⟩:∃ e,us[z]? =some e:=⟨_,List.getElem?_eq_getElem (by omega)⟩
  rw [lz _ he,ui]
  refine (ih (by omega)).add ?_
  obtain ⟨cs,hcs⟩:=h e (List.mem_of_getElem? he)
  unfold pq
  split
  ·exact RR.sz hcs
  ·exact dQ.zero.mono (by unfold jP;omega)
theorem eD.rws {us:List mJ} {kk:Nat} {w:World} {v:Value} (h:eD (UseI kk) 6 w v us):∀ e∈us,∃ cs,Rw kk w cs e.2.2:=fun e he=>by
 obtain ⟨i,hi,hx⟩:=List.mem_iff_getElem.1 he
 obtain ⟨p,c,rfl,_,_⟩:=h.form
 obtain ⟨_,_,cs,_,_,a,_,ha⟩:=h.at (i:=i) (a:=e) (by rw [List.getElem?_eq_getElem hi,hx])
 exact ⟨a,ha⟩
set_option maxRecDepth 4000 in
set_option maxHeartbeats 4000000 in
theorem iOf_any (r u:Value) (X:List nk×List mJ) (v:Int) (kk:Nat) (w:World) (h:Az kk w r u X) (hk:kk≤10000) (hn:X.2.length≤1000):
  Calls Tryz.prog 15 #[.agg #[r,u],.int .i64 v] w fun o w'=>∃ x,o=.returned x∧aK w' w.heap.size x (Ir v X.2)∧aj w w':=by
 obtain ⟨us,nh⟩:∃ us,X.2=us:=⟨_,rfl⟩
 obtain ⟨hr,h2⟩:=h
 obtain ⟨rp,rc,rfl,-,-⟩:=hr.form
 rw [nh] at hn h2 ⊢
 obtain ⟨q,c,rfl,eR,eT⟩:=h2.form
 obtain ⟨n,D6⟩:∃ n,n=us.length:=⟨_,rfl⟩
 rw [←D6] at h2 eR hn
 rw [←D6]
 have hsz:∀ z,z≤us.length→dQ (Ir v (us.take z)) (cW kk z):=fun z hz=>EM (f:=fun e=>decide (e.1=v)) (h2.rws) hz
 refine aw (C:=cf Tryz.prog w _) (args:=[_,_]) Tryz.func15 rfl Tryz.ntmps15 (Nat.le_of_ble_eq_true rfl) ?_
 (repeat first|refine wN ?_|refine wP rfl ?_|refine aa rfl ?_|refine ab rfl ?_|refine wO rfl rfl ?_)
 refine VO.call rfl rfl (fk Tryz.func44) (fun cB ek du=>(bE 0 cB (by omega) (by omega)).mono ?_)
 rintro e w1 ⟨r1,rfl,q1,aV⟩
 obtain ⟨s1,p1,n1,c1,t1,y1,m1,d1,rfl⟩:=q1.form
 refine ⟨_,rfl,aV,fun e9 _ bb1=>wV rfl ?_⟩
 (repeat first|refine wN ?_|refine wP rfl ?_|refine aa rfl ?_|refine ab rfl ?_|refine wO rfl rfl ?_)
 refine VS.loop (J:=fun m L M w'=>∃ (z:Nat) (s:Bool) (p':Option Addr) (n' c':Nat) (t:Bool) (y:Option Addr) (m' d:Nat),z≤n∧m=n - z∧L=[(1,.val (.int .i64 v)),(4,.box 4 0),(5,.box 5 0),(10,.val (.slice q n c)),(11,.val (.int .i64 (n:Int))),(12,.val (.int .i64 (z:Int)))]∧
   M=[(4,(26,([.bool false,.slice none 0 0,.bool false,.slice none 0 0]:List Value).map .val)),(5,(26,([.bool s,.slice p' n' c',.bool t,.slice y m' d]:List Value).map .val))]∧aK w' w.heap.size (.agg #[.bool s,.slice p' n' c',.bool t,.slice y m' d]) (Ir v (us.take z))) n
  ⟨_,_,?_,?_,?_,?_,⟨0,_,_,_,_,_,_,_,_,by omega,rfl,rfl,rfl,(q1.k).mono du.size⟩⟩ ?_
 ·(repeat first|exact trivial|refine ⟨rfl,?_⟩)
 ·(repeat first|exact trivial|refine ⟨rfl,?_⟩)
 ·rfl
 ·(repeat first|exact trivial|refine ⟨aG.lit rfl,?_⟩|refine ⟨aG.vals _,?_⟩)
 rintro m L M w9 ⟨z,s,p',n',c',t,y,m',d,hz,rfl,rfl,rfl,ho⟩
 (repeat first|refine wN ?_|refine wP rfl ?_|refine aa rfl ?_|refine ab rfl ?_|refine wO rfl rfl ?_)
 by_cases hlt:z < n
 ·obtain ⟨e,he⟩:∃ e,us[z]? =some e:=⟨_,List.getElem?_eq_getElem (by omega)⟩
  obtain ⟨b,off,ic,ma,hc,⟨_,rfl,⟨ap,ac,ar,ad,rfl,oe⟩,uQ⟩⟩:=h2.at he
  subst ma
  refine VS.bD rfl (decide_eq_true (Int.ofNat_lt.2 hlt)) ?_
  (repeat first|refine wN ?_|refine wP rfl ?_|refine aa rfl ?_|refine ab rfl ?_|refine wO rfl rfl ?_)
  refine VO.cond rfl ⟨by omega,by omega⟩ ?_
  refine wV rfl ?_
  (repeat first|refine wN ?_|refine wP rfl ?_|refine aa rfl ?_|refine ab rfl ?_|refine wO rfl rfl ?_)
  refine VO.read rfl [.int .i64 e.1,.int .i64 e.2.1,.bool e.2.2.1,.slice ap e.2.2.2.1.length ac,.bool e.2.2.2.2.1,.slice ar e.2.2.2.2.2.length ad] rfl (ck hc 0 _ ⟨[],rfl⟩) (wV rfl ?_)
  (repeat first|refine wN ?_|refine wP rfl ?_|refine aa rfl ?_|refine ab rfl ?_|refine wO rfl rfl ?_)
  have z8:Ir v (us.take (z + 1))=Ir v (us.take z) + pq (decide (e.1=v)) e.2.2:=lz _ he
  by_cases hv:e.1=v
  ·refine VS.bD rfl (decide_eq_true hv) ?_
   rw [decide_eq_true hv] at z8
   have hzz:cW kk z≤67108864:=by
    have hzl:z≤1000:=by omega
    have h1:=oX (k:=kk) hzl
    have h3:jP kk≤10001:=by unfold jP;omega
    have h4:cW kk 1000=1 + 1000 * (jP kk + 1):=rfl
    omega
   (repeat first|refine wN ?_|refine wP rfl ?_|refine aa rfl ?_|refine ab rfl ?_|refine wO rfl rfl ?_)
   refine VO.call rfl rfl (fk Tryz.func16) (fun dB gp et=>(dw _ _ (Ir v (us.take z)) e.2.2.q (cW kk z) kk dB (ho.ki (hsz z (by omega))) ((oe.kp (Kp.of (U:=UU) et)).o9 uQ) hzz (by omega)).mono ?_)
   rintro e w2 ⟨r2,rfl,q2,bl⟩
   obtain ⟨s2,p2,n2,c2,t2,y2,m2,d2,rfl⟩:=q2.form
   refine ⟨_,rfl,bl,fun fX _ bb2=>wV rfl ?_⟩
   (repeat first|refine wN ?_|refine wP rfl ?_|refine aa rfl ?_|refine ab rfl ?_|refine wO rfl rfl ?_)
   refine VS.back (n - (z + 1)) (by omega) ⟨_,_,?_,?_,?_,?_,⟨z + 1,_,_,_,_,_,_,_,_,by omega,rfl,rfl,rfl,z8▸(q2.k).mono et.size⟩⟩
   ·refine ⟨rfl,rfl,rfl,rfl,rfl,?_,trivial⟩
    rw [←bW (i:=z) (by omega)];rfl
   ·(repeat first|exact trivial|refine ⟨rfl,?_⟩)
   ·rfl
   ·(repeat first|exact trivial|refine ⟨aG.lit rfl,?_⟩|refine ⟨aG.vals _,?_⟩)
  ·refine VS.bt rfl (decide_eq_false hv) ?_
   rw [decide_eq_false hv,show pq false e.2.2=0 from rfl,Rat.add_zero] at z8
   (repeat first|refine wN ?_|refine wP rfl ?_|refine aa rfl ?_|refine ab rfl ?_|refine wO rfl rfl ?_)
   refine VS.back (n - (z + 1)) (by omega) ⟨_,_,?_,?_,?_,?_,⟨z + 1,_,_,_,_,_,_,_,_,by omega,rfl,rfl,rfl,z8▸ho.k⟩⟩
   ·refine ⟨rfl,rfl,rfl,rfl,rfl,?_,trivial⟩
    rw [←bW (i:=z) (by omega)];rfl
   ·(repeat first|exact trivial|refine ⟨rfl,?_⟩)
   ·rfl
   ·(repeat first|exact trivial|refine ⟨aG.lit rfl,?_⟩|refine ⟨aG.vals _,?_⟩)
 ·refine VS.bt rfl (decide_eq_false (fun e=>hlt (Int.ofNat_lt.1 e))) ?_
  (repeat first|refine wN ?_|refine wP rfl ?_|refine aa rfl ?_|refine ab rfl ?_|refine wO rfl rfl ?_)
  refine VS.ret (aL _ _) rfl rfl (fun wz kz bz=> ?_)
  rw [List.take_of_length_le (by omega)] at ho
  exact ⟨_,rfl,ho.kp kz,bz⟩
theorem kk_le {kk z:Nat} (hk:kk≤10000) (hz:z≤1000):jP kk + cW kk z + 1≤30000000:=by
 have h1:=oX (k:=kk) hz
 have h3:jP kk≤10001:=by unfold jP;omega
 have h4:cW kk 1000=1 + 1000 * (jP kk + 1):=rfl
 omega
set_option maxRecDepth 4000 in
set_option maxHeartbeats 4000000 in
theorem HQ (r u:Value) (X:List nk×List mJ) (v:Nat) (yy:Int) (R:nk) (kk:Nat) (w:World) (h:Az kk w r u X) (hR:X.1[v]? =some R) (hk:kk≤10000) (hn:X.2.length≤1000):
  Calls Tryz.prog 46 #[.agg #[r,u],.int .i64 (v:Int),.int .i64 yy] w fun o w'=>∃ x,o=.returned x∧bJ w' x (R.bk.q - EL (v:Int) yy X.2) 30000000∧aj w w':=by
 obtain ⟨us,nh⟩:∃ us,X.2=us:=⟨_,rfl⟩
 obtain ⟨rs,hrs⟩:∃ rs,X.1=rs:=⟨_,rfl⟩
 obtain ⟨hr,h2⟩:=h
 rw [nh] at hn h2 ⊢
 rw [hrs] at hr hR
 obtain ⟨rp,rc,rfl,hrc,hrm⟩:=hr.form
 obtain ⟨q,c,rfl,eR,eT⟩:=h2.form
 obtain ⟨n,D6⟩:∃ n,n=us.length:=⟨_,rfl⟩
 obtain ⟨nr,pQ⟩:∃ n,n=rs.length:=⟨_,rfl⟩
 rw [←D6] at h2 eR hn
 rw [←D6,←pQ]
 rw [←pQ] at hr hrc
 have hvn:v < nr:=by rw [pQ];exact (List.getElem?_eq_some_iff.1 hR).1
 have hsz:∀ z,z≤us.length→dQ (EL (v:Int) yy (us.take z)) (cW kk z):=fun z hz=>EM (f:=fun e=>decide (e.1=(v:Int)) && decide (e.2.1 < yy)) (h2.rws) hz
 obtain ⟨rb,ro,rcs,hrp,hrcc,hRI⟩:=hr.at hR
 subst hrp
 obtain ⟨_,pk,⟨dp,dc,dr,dd,rfl,hdraw⟩,hdfew⟩:=K0 hRI 2 (by decide)
 refine aw (C:=cf Tryz.prog w _) (args:=[_,_,_]) Tryz.func46 rfl Tryz.ntmps46 (Nat.le_of_ble_eq_true rfl) ?_
 (repeat first|refine wN ?_|refine wP rfl ?_|refine aa rfl ?_|refine ab rfl ?_|refine wO rfl rfl ?_)
 refine VO.cond rfl ⟨by omega,by omega⟩ ?_
 refine wV rfl ?_
 (repeat first|refine wN ?_|refine wP rfl ?_|refine aa rfl ?_|refine ab rfl ?_|refine wO rfl rfl ?_)
 refine VO.read rfl [.bool (R.gW 2).1,.slice dp (R.gW 2).2.1.length dc,.bool (R.gW 2).2.2.1,.slice dr (R.gW 2).2.2.2.length dd] rfl (ck hrcc 8 _ pk) (wV rfl ?_)
 (repeat first|refine wN ?_|refine wP rfl ?_|refine aa rfl ?_|refine ab rfl ?_|refine wO rfl rfl ?_)
 have C4:bJ w (.agg #[.bool (R.gW 2).1,.slice dp (R.gW 2).2.1.length dc,.bool (R.gW 2).2.2.1,.slice dr (R.gW 2).2.2.2.length dd]) (R.bk.q - EL (v:Int) yy (us.take 0)) 30000000:=by
  have h0:R.bk.q - EL (v:Int) yy (us.take 0)=R.bk.q:=by show R.bk.q - 0=R.bk.q;grind
  rw [h0]
  exact (hdraw.o9 hdfew).up (by omega)
 refine VS.loop (J:=fun m L M w'=>∃ (z:Nat) (s:Bool) (p':Option Addr) (n' c':Nat) (t:Bool) (y:Option Addr) (m' d:Nat),z≤n∧m=n - z∧L=[(1,.val (.int .i64 (v:Int))),(2,.val (.int .i64 yy)),(3,.box 3 0),(6,.box 6 0),(7,.box 7 0),(8,.val (.int .i64 (z:Int)))]∧
   M=[(3,(ni,([.slice (some ⟨rb,ro,none⟩) nr rc,.slice q n c]:List Value).map .val)),(6,(26,([.bool false,.slice none 0 0,.bool false,.slice none 0 0]:List Value).map .val)),(7,(26,([.bool s,.slice p' n' c',.bool t,.slice y m' d]:List Value).map .val))]∧bJ w' (.agg #[.bool s,.slice p' n' c',.bool t,.slice y m' d]) (R.bk.q - EL (v:Int) yy (us.take z)) 30000000) n
  ⟨_,_,?_,?_,?_,?_,⟨0,_,_,_,_,_,_,_,_,by omega,rfl,rfl,rfl,C4.k⟩⟩ ?_
 ·(repeat first|exact trivial|refine ⟨rfl,?_⟩)
 ·(repeat first|exact trivial|refine ⟨rfl,?_⟩)
 ·rfl
 ·(repeat first|exact trivial|refine ⟨aG.lit rfl,?_⟩|refine ⟨aG.vals _,?_⟩)
 rintro m L M w9 ⟨z,s,p',n',c',t,y,m',d,hz,rfl,rfl,rfl,ho⟩
 (repeat first|refine wN ?_|refine wP rfl ?_|refine aa rfl ?_|refine ab rfl ?_|refine wO rfl rfl ?_)
 by_cases hlt:z < n
 ·obtain ⟨e,he⟩:∃ e,us[z]? =some e:=⟨_,List.getElem?_eq_getElem (by omega)⟩
  obtain ⟨b,off,ic,ma,hc,⟨_,rfl,⟨ap,ac,ar,ad,rfl,oe⟩,uQ⟩⟩:=h2.at he
  subst ma
  refine VS.bD rfl (decide_eq_true (Int.ofNat_lt.2 hlt)) ?_
  (repeat first|refine wN ?_|refine wP rfl ?_|refine aa rfl ?_|refine ab rfl ?_|refine wO rfl rfl ?_)
  refine VO.cond rfl ⟨by omega,by omega⟩ ?_
  refine wV rfl ?_
  (repeat first|refine wN ?_|refine wP rfl ?_|refine aa rfl ?_|refine ab rfl ?_|refine wO rfl rfl ?_)
  refine VO.read rfl [.int .i64 e.1] rfl (ck hc 0 _ ⟨_,rfl⟩) (wV rfl ?_)
  (repeat first|refine wN ?_|refine wP rfl ?_|refine aa rfl ?_|refine ab rfl ?_|refine wO rfl rfl ?_)
  have z8:EL (v:Int) yy (us.take (z + 1))=EL (v:Int) yy (us.take z) + pq (decide (e.1=(v:Int)) && decide (e.2.1 < yy)) e.2.2:=lz _ he
  by_cases hv:e.1=(v:Int)
  ·rw [decide_eq_true hv] at z8
   refine VO.fix 30 rfl (congrArg (fun b=>AV.val (.bool b)) (decide_eq_true hv)) ?_
   (repeat first|refine wN ?_|refine wP rfl ?_|refine aa rfl ?_|refine ab rfl ?_|refine wO rfl rfl ?_)
   refine VO.cond rfl ⟨by omega,by omega⟩ ?_
   refine wV rfl ?_
   (repeat first|refine wN ?_|refine wP rfl ?_|refine aa rfl ?_|refine ab rfl ?_|refine wO rfl rfl ?_)
   refine VO.read rfl [.int .i64 e.2.1] rfl (ck hc 1 _ ⟨_,rfl⟩) (wV rfl ?_)
   (repeat first|refine wN ?_|refine wP rfl ?_|refine aa rfl ?_|refine ab rfl ?_|refine wO rfl rfl ?_)
   by_cases hy:e.2.1 < yy
   ·rw [decide_eq_true hy] at z8
    refine VS.bD rfl (decide_eq_true hy) ?_
    (repeat first|refine wN ?_|refine wP rfl ?_|refine aa rfl ?_|refine ab rfl ?_|refine wO rfl rfl ?_)
    refine VO.cond rfl ⟨by omega,by omega⟩ ?_
    refine wV rfl ?_
    (repeat first|refine wN ?_|refine wP rfl ?_|refine aa rfl ?_|refine ab rfl ?_|refine wO rfl rfl ?_)
    refine VO.read rfl [.bool e.2.2.1,.slice ap e.2.2.2.1.length ac,.bool e.2.2.2.2.1,.slice ar e.2.2.2.2.2.length ad] rfl (ck hc 2 _ ⟨[],rfl⟩) (wV rfl ?_)
    (repeat first|refine wN ?_|refine wP rfl ?_|refine aa rfl ?_|refine ab rfl ?_|refine wO rfl rfl ?_)
    refine VO.call rfl rfl (fk Tryz.func72) (fun dB gp et=>(bV _ _ (R.bk.q - EL (v:Int) yy (us.take z)) e.2.2.q 30000000 kk dB ho.k ((oe.kp (Kp.of (U:=UU) et)).o9 uQ) (by omega) (by omega)).mono ?_)
    rintro e w2 ⟨r2,rfl,q2,bl⟩
    obtain ⟨s2,p2,n2,c2,t2,y2,m2,d2,rfl⟩:=q2.form
    refine ⟨_,rfl,bl,fun fX _ bb2=>wV rfl ?_⟩
    (repeat first|refine wN ?_|refine wP rfl ?_|refine aa rfl ?_|refine ab rfl ?_|refine wO rfl rfl ?_)
    have BX:R.bk.q - EL (v:Int) yy (us.take z) - e.2.2.q=R.bk.q - EL (v:Int) yy (us.take (z + 1)):=by
     rw [z8,show pq (true && true) e.2.2=e.2.2.q from rfl];grind
    have hkz:jP kk + cW kk (z + 1) + 1≤30000000:=kk_le hk (by omega)
    have hrs:dQ (R.bk.q - EL (v:Int) yy (us.take (z + 1))) 30000000:=((hdraw.o9 hdfew).z6.sub (hsz (z + 1) (by omega))).mono hkz
    refine VS.back (n - (z + 1)) (by omega) ⟨_,_,?_,?_,?_,?_,⟨z + 1,_,_,_,_,_,_,_,_,by omega,rfl,rfl,rfl,(q2.cast BX).ki hrs⟩⟩
    ·refine ⟨rfl,rfl,rfl,rfl,rfl,?_,trivial⟩
     rw [←bW (i:=z) (by omega)];rfl
    ·(repeat first|exact trivial|refine ⟨rfl,?_⟩)
    ·rfl
    ·(repeat first|exact trivial|refine ⟨aG.lit rfl,?_⟩|refine ⟨aG.vals _,?_⟩)
   ·refine VS.bt rfl (decide_eq_false hy) ?_
    rw [decide_eq_false hy,show pq (true && false) e.2.2=0 from rfl,Rat.add_zero] at z8
    (repeat first|refine wN ?_|refine wP rfl ?_|refine aa rfl ?_|refine ab rfl ?_|refine wO rfl rfl ?_)
    refine VS.back (n - (z + 1)) (by omega) ⟨_,_,?_,?_,?_,?_,⟨z + 1,_,_,_,_,_,_,_,_,by omega,rfl,rfl,rfl,z8▸ho.k⟩⟩
    ·refine ⟨rfl,rfl,rfl,rfl,rfl,?_,trivial⟩
     rw [←bW (i:=z) (by omega)];rfl
    ·(repeat first|exact trivial|refine ⟨rfl,?_⟩)
    ·rfl
    ·(repeat first|exact trivial|refine ⟨aG.lit rfl,?_⟩|refine ⟨aG.vals _,?_⟩)
  ·rw [decide_eq_false hv,show ∀ b,pq (false && b) e.2.2=0 from fun _=>rfl,Rat.add_zero] at z8
   refine VO.fix 30 rfl (congrArg (fun b=>AV.val (.bool b)) (decide_eq_false hv)) ?_
   (repeat first|refine wN ?_|refine wP rfl ?_|refine aa rfl ?_|refine ab rfl ?_|refine wO rfl rfl ?_)
   refine VS.back (n - (z + 1)) (by omega) ⟨_,_,?_,?_,?_,?_,⟨z + 1,_,_,_,_,_,_,_,_,by omega,rfl,rfl,rfl,z8▸ho.k⟩⟩
   ·refine ⟨rfl,rfl,rfl,rfl,rfl,?_,trivial⟩
    rw [←bW (i:=z) (by omega)];rfl
   ·(repeat first|exact trivial|refine ⟨rfl,?_⟩)
   ·rfl
   ·(repeat first|exact trivial|refine ⟨aG.lit rfl,?_⟩|refine ⟨aG.vals _,?_⟩)
 ·refine VS.bt rfl (decide_eq_false (fun e=>hlt (Int.ofNat_lt.1 e))) ?_
  (repeat first|refine wN ?_|refine wP rfl ?_|refine aa rfl ?_|refine ab rfl ?_|refine wO rfl rfl ?_)
  refine VS.ret (aL _ _) rfl rfl (fun wz kz bz=> ?_)
  rw [List.take_of_length_le (by omega)] at ho
  exact ⟨_,rfl,ho.kp kz,bz⟩
def AA (kn:Nat) (X:List nk×List mJ):Prop:=∀ e∈X.2,∃ a b:Nat,e.1=(a:Int)∧e.2.1=(b:Int)∧a≤X.1.length∧b≤100∧∀ (v:Nat) (R:nk),b - kn≤v→v < a→X.1[v]? =some R→¬ dJ (R.bk.q - EL (v:Int) ((b:Int) + 1) X.2) 0 > 0
set_option maxRecDepth 4000 in
set_option maxHeartbeats 4000000 in
theorem EN (vr r u:Value) (S F:RR) (kn:Nat) (X:List nk×List mJ) (kk:Nat) (w:World) (hS:jk w vr S F (kn:Int)) (h:Az kk w r u X) (hk:kk≤10000) (hn:X.2.length≤1000) (qU:kn≤40) (hO:AA kn X):
  Calls Tryz.prog 17 #[vr,.agg #[r,u]] w fun o w'=>o=.returned (.bool true)∧aj w w':=by
 have hled:=h
 obtain ⟨us,nh⟩:∃ us,X.2=us:=⟨_,rfl⟩
 obtain ⟨hr,h2⟩:=h
 unfold AA at hO
 rw [nh] at h2 hO
 obtain ⟨rp,rc,rfl,hrc,hrm⟩:=hr.form
 obtain ⟨q,c,rfl,eR,eT⟩:=h2.form
 obtain ⟨n,D6⟩:∃ n,n=us.length:=⟨_,rfl⟩
 obtain ⟨nr,pQ⟩:∃ n,n=X.1.length:=⟨_,rfl⟩
 rw [←D6] at h2 eR hled
 rw [←D6,←pQ]
 rw [←pQ] at hr hrc hled
 obtain ⟨sp,sc,sr,sd,fp,fc,fr,fd,rfl,-,-⟩:=hS
 refine aw (C:=cf Tryz.prog w _) (args:=[_,_]) Tryz.func17 rfl Tryz.ntmps17 (Nat.le_of_ble_eq_true rfl) ?_
 (repeat first|refine wN ?_|refine wP rfl ?_|refine aa rfl ?_|refine ab rfl ?_|refine wO rfl rfl ?_)
 refine VS.loop (J:=fun m L M w'=>∃ (z:Nat),z≤n∧m=n - z∧L=[(2,.box 2 0),(3,.box 3 0),(5,.val (.int .i64 (z:Int)))]∧
   M=[(2,(Hw,([.bool S.1,.slice sp S.2.1.length sc,.bool S.2.2.1,.slice sr S.2.2.2.length sd,.bool F.1,.slice fp F.2.1.length fc,.bool F.2.2.1,.slice fr F.2.2.2.length fd,.int .i64 (kn:Int)]:List Value).map .val)),(3,(ni,([.slice rp nr rc,.slice q n c]:List Value).map .val))]) n
  ⟨_,_,?_,?_,?_,?_,⟨0,by omega,rfl,rfl,rfl⟩⟩ ?_
 ·(repeat first|exact trivial|refine ⟨rfl,?_⟩)
 ·(repeat first|exact trivial|refine ⟨rfl,?_⟩)
 ·rfl
 ·(repeat first|exact trivial|refine ⟨aG.lit rfl,?_⟩|refine ⟨aG.vals _,?_⟩)
 rintro m L M w9 ⟨z,hz,rfl,rfl,rfl⟩
 (repeat first|refine wN ?_|refine wP rfl ?_|refine aa rfl ?_|refine ab rfl ?_|refine wO rfl rfl ?_)
 by_cases hlt:z < n
 ·obtain ⟨e,he⟩:∃ e,us[z]? =some e:=⟨_,List.getElem?_eq_getElem (by omega)⟩
  obtain ⟨a',b',hea,heb,hal,hbl,hOe⟩:=hO e (List.mem_of_getElem? he)
  obtain ⟨b,off,ic,ma,hc,⟨_,rfl,⟨ap,ac,ar,ad,rfl,oe⟩,uQ⟩⟩:=h2.at he
  subst ma
  rw [hea,heb] at hc
  refine VS.bD rfl (decide_eq_true (Int.ofNat_lt.2 hlt)) ?_
  (repeat first|refine wN ?_|refine wP rfl ?_|refine aa rfl ?_|refine ab rfl ?_|refine wO rfl rfl ?_)
  refine VO.cond rfl ⟨by omega,by omega⟩ ?_
  refine wV rfl ?_
  (repeat first|refine wN ?_|refine wP rfl ?_|refine aa rfl ?_|refine ab rfl ?_|refine wO rfl rfl ?_)
  refine VO.read rfl [.int .i64 (a':Int),.int .i64 (b':Int),.bool e.2.2.1,.slice ap e.2.2.2.1.length ac,.bool e.2.2.2.2.1,.slice ar e.2.2.2.2.2.length ad] rfl (ck hc 0 _ ⟨[],rfl⟩) (wV rfl ?_)
  (repeat first|refine wN ?_|refine wP rfl ?_|refine aa rfl ?_|refine ab rfl ?_|refine wO rfl rfl ?_)
  have hmx:rz 0 [IntKind.i64.wrap ((b':Int) - (kn:Int))]=((b' - kn:Nat):Int):=by
   rw [IntKind.wrap_i64]
   show (if _ > (0:Int) then _ else (0:Int))=_
   split <;> omega
  refine VS.fix 7 rfl (congrArg (fun z=>AV.val (.int .i64 z)) hmx) ?_
  refine VS.loop (J:=fun m L M w'=>∃ (v:Nat),b' - kn≤v∧m=a' - v∧L=[(2,.box 2 0),(3,.box 3 0),(5,.val (.int .i64 (z:Int))),(6,.box 6 0),(7,.val (.int .i64 (v:Int)))]∧
    M=[(2,(Hw,([.bool S.1,.slice sp S.2.1.length sc,.bool S.2.2.1,.slice sr S.2.2.2.length sd,.bool F.1,.slice fp F.2.1.length fc,.bool F.2.2.1,.slice fr F.2.2.2.length fd,.int .i64 (kn:Int)]:List Value).map .val)),(3,(ni,([.slice rp nr rc,.slice (some ⟨b,off,none⟩) n c]:List Value).map .val)),(6,(er,([.int .i64 (a':Int),.int .i64 (b':Int),.bool e.2.2.1,.slice ap e.2.2.2.1.length ac,.bool e.2.2.2.2.1,.slice ar e.2.2.2.2.2.length ad]:List Value).map .val))]) (a' - (b' - kn))
   ⟨_,_,?_,?_,?_,?_,⟨b' - kn,Nat.le_refl _,rfl,rfl,rfl⟩⟩ ?_
  ·(repeat first|exact trivial|refine ⟨rfl,?_⟩)
  ·(repeat first|exact trivial|refine ⟨rfl,?_⟩)
  ·rfl
  ·(repeat first|exact trivial|refine ⟨aG.lit rfl,?_⟩|refine ⟨aG.vals _,?_⟩)
  rintro m L M w8 ⟨v,hv,rfl,rfl,rfl⟩
  (repeat first|refine wN ?_|refine wP rfl ?_|refine aa rfl ?_|refine ab rfl ?_|refine wO rfl rfl ?_)
  by_cases hva:v < a'
  ·obtain ⟨R,hR⟩:∃ R,X.1[v]? =some R:=⟨_,List.getElem?_eq_getElem (by omega)⟩
   obtain ⟨sg,jm⟩:∃ sg,dJ (R.bk.q - EL (v:Int) ((b':Int) + 1) X.2) 0=sg:=⟨_,rfl⟩
   have hno:=hOe v R hv hva hR
   rw [nh] at jm
   rw [jm] at hno
   refine VS.bD rfl (decide_eq_true (Int.ofNat_lt.2 hva)) ?_
   (repeat first|refine wN ?_|refine wP rfl ?_|refine aa rfl ?_|refine ab rfl ?_|refine wO rfl rfl ?_)
   refine VO.fix 36 rfl (congrArg (fun z=>AV.val (.int .i64 z)) (show IntKind.i64.wrap ((b':Int) + 1)=(b':Int) + 1 by rw [IntKind.wrap_i64];omega)) ?_
   refine VO.call rfl rfl (fk Tryz.func46) (fun dB gp et=>(HQ _ _ X v ((b':Int) + 1) R kk dB (hled.bh et) hR hk hn).mono ?_)
   rintro e w2 ⟨r2,rfl,q2,bl⟩
   obtain ⟨s2,p2,n2,c2,t2,y2,m2,d2,rfl⟩:=q2.form
   refine ⟨_,rfl,bl,fun fX _ bb2=>wV rfl ?_⟩
   (repeat first|refine wN ?_|refine wP rfl ?_|refine aa rfl ?_|refine ab rfl ?_|refine wO rfl rfl ?_)
   rw [nh] at q2
   refine VO.call rfl rfl (fk Tryz.func13) (fun gr gX gU=>(bR _ _ 30000000 gr q2.k (by omega) sg jm).mono ?_)
   rintro e w3 ⟨rfl,cC⟩
   skip
   refine ⟨_,rfl,cC,fun kh _ bb3=>wV rfl ?_⟩
   (repeat first|refine wN ?_|refine wP rfl ?_|refine aa rfl ?_|refine ab rfl ?_|refine wO rfl rfl ?_)
   refine VS.bt rfl (decide_eq_false hno) ?_
   (repeat first|refine wN ?_|refine wP rfl ?_|refine aa rfl ?_|refine ab rfl ?_|refine wO rfl rfl ?_)
   refine VS.back (a' - (v + 1)) (by omega) ⟨_,_,?_,?_,?_,?_,⟨v + 1,by omega,rfl,rfl,rfl⟩⟩
   ·refine ⟨rfl,rfl,rfl,rfl,?_,trivial⟩
    rw [←bW (i:=v) (by omega)];rfl
   ·(repeat first|exact trivial|refine ⟨rfl,?_⟩)
   ·rfl
   ·(repeat first|exact trivial|refine ⟨aG.lit rfl,?_⟩|refine ⟨aG.vals _,?_⟩)
  ·refine VS.bt rfl (decide_eq_false (fun e=>hva (Int.ofNat_lt.1 e))) ?_
   (repeat first|refine wN ?_|refine wP rfl ?_|refine aa rfl ?_|refine ab rfl ?_|refine wO rfl rfl ?_)
   refine VS.back (n - (z + 1)) (by omega) ⟨_,_,?_,?_,?_,?_,⟨z + 1,by omega,rfl,rfl,rfl⟩⟩
   ·refine ⟨rfl,rfl,?_,trivial⟩
    rw [←bW (i:=z) (by omega)];rfl
   ·(repeat first|exact trivial|refine ⟨rfl,?_⟩)
   ·rfl
   ·(repeat first|exact trivial|refine ⟨aG.lit rfl,?_⟩|refine ⟨aG.vals _,?_⟩)
 ·refine VS.bt rfl (decide_eq_false (fun e=>hlt (Int.ofNat_lt.1 e))) ?_
  (repeat first|refine wN ?_|refine wP rfl ?_|refine aa rfl ?_|refine ab rfl ?_|refine wO rfl rfl ?_)
  refine VS.ret (aL _ _) rfl rfl (fun wz kz bz=> ?_)
  exact ⟨rfl,bz⟩
end Go.Proofs.YtabalinjfgcfeaaGreat
namespace Go.Proofs.YtabalinjfgcfeaaGreat
open Go.RowKit
theorem jQ (x:Rat) (l:List Rat):gV (x::l)=x + gV l:=by
 unfold gV
 rw [List.foldl_cons]
 have:∀ (l:List Rat) (a b:Rat),l.foldl (·+ ·) (a + b)=a + l.foldl (·+ ·) b:=by
  intro l
  induction l with
  | nil=>intro a b;rfl
  | cons y r ih=>intro a b;rw [List.foldl_cons,List.foldl_cons,Rat.add_assoc,ih]
 rw [show (0:Rat) + x=x + 0 by grind,this]
theorem CX (l m:List Rat):gV (l++m)=gV l + gV m:=by
 induction l with
 | nil=>show gV m=0 + gV m;grind
 | cons x l ih=>rw [List.cons_append,jQ,jQ,ih];grind
def gs (f:Uq→Rat) (us:List Uq):Rat:=gV (us.map f)
theorem K2 (f:Uq→Rat):gs f []=0:=rfl
theorem pg (f:Uq→Rat) (e:Uq) (us:List Uq):gs f (e::us)=f e + gs f us:=by unfold gs;rw [List.map_cons,jQ]
theorem lZ (f:Uq→Rat) (a b:List Uq):gs f (a++b)=gs f a + gs f b:=by unfold gs;rw [List.map_append,CX]
theorem pj {f:Uq→Rat}:∀ {us:List Uq},(∀ e∈us,f e=0)→gs f us=0
 | [],_=>rfl
 | e::us,h=>by rw [pg,h e (by simp),pj (fun x hx=>h x (by simp [hx]))];grind
theorem CY {f g:Uq→Rat}:∀ {us:List Uq},(∀ e∈us,f e=g e)→gs f us=gs g us
 | [],_=>rfl
 | e::us,h=>by rw [pg,pg,h e (by simp),CY (fun x hx=>h x (by simp [hx]))]
theorem FX {f:Uq→Rat}:∀ {us:List Uq},(∀ e∈us,0≤f e)→0≤gs f us
 | [],_=>Rat.le_refl
 | e::us,h=>by rw [pg];have:=h e (by simp);have:=FX (f:=f) (us:=us) (fun x hx=>h x (by simp [hx]));grind
def vn (v:Nat) (e:Uq):Rat:=if e.1=v then e.2.2 else 0
def bf (v y:Nat) (e:Uq):Rat:=if e.1=v∧e.2.1 < y then e.2.2 else 0
def Lex (a b:Uq):Prop:=a.2.1 < b.2.1∨(a.2.1=b.2.1∧a.1 < b.1)
theorem vG (y:Nat):∀ {k:Nat} {l:List Rat} {m:Rat} {e:Uq},e∈tu y (cj k l) m→e.2.1=y∧0 < e.2.2∧k≤e.1∧e.1 < k + l.length
 | k,[],m,e,h=>by cases h
 | k,x::l,m,e,h=>by
  have h':e∈(if 0 < ai x m then [(k,y,ai x m)] else [])++tu y (cj (k + 1) l) (m - ai x m):=h
  rcases List.mem_append.1 h' with h1 | h1
  ·by_cases hp:0 < ai x m
   ·rw [if_pos hp,List.mem_singleton] at h1
    subst h1
    exact ⟨rfl,hp,Nat.le_refl _,by show k < k + (x::l).length;simp⟩
   ·rw [if_neg hp] at h1;cases h1
  ·obtain ⟨a,b,c,d⟩:=vG y h1
   exact ⟨a,b,by omega,by rw [List.length_cons];omega⟩
theorem AB {a b:Rat} (h:0≤a) (k:0≤b):0≤ai a b:=by rcases cQ a b with ⟨e,_⟩ | ⟨e,_⟩ <;> rw [e] <;> assumption
theorem tb_head {y k v:Nat} {r:Rat} (hr:0≤r):gs (vn v) (if 0 < r then [((k,y,r):Uq)] else [])=if k=v then r else 0:=by
 by_cases hp:0 < r
 ·rw [if_pos hp,pg,K2]
  show (if k=v then r else 0) + 0=_
  grind
 ·rw [if_neg hp,K2]
  have:r=0:=by grind
  rw [this];simp
theorem K3 (y:Nat):∀ {k:Nat} {l:List Rat} {m:Rat} {i:Nat} {x:Rat},(∀ z∈l,0≤z)→0≤m→((sJ (cj k l) m).map (·.2))[i]? =some x→∃ z,l[i]? =some z∧x=z - gs (vn (k + i)) (tu y (cj k l) m)
 | k,[],m,i,x,_,_,h=>by cases h
 | k,z::l,m,i,x,hn,hm,h=>by
  have hz:=hn z (by simp)
  have hr:=AB hz hm
  have Dg:=bZ z m
  have e1:tu y (cj k (z::l)) m=(if 0 < ai z m then [((k,y,ai z m):Uq)] else [])++tu y (cj (k + 1) l) (m - ai z m):=rfl
  have e2:(sJ (cj k (z::l)) m).map (·.2)=(z - ai z m)::(sJ (cj (k + 1) l) (m - ai z m)).map (·.2):=rfl
  rw [e2] at h
  rw [e1,lZ,tb_head hr]
  cases i with
  | zero=>
   rw [List.getElem?_cons_zero] at h
   cases h
   refine ⟨z,rfl,?_⟩
   have:gs (vn (k + 0)) (tu y (cj (k + 1) l) (m - ai z m))=0:=pj fun e he=>by
    have:=vG y he
    unfold vn
    rw [if_neg (by omega)]
   rw [this,if_pos (Nat.add_zero k).symm];grind
  | succ i=>
   rw [List.getElem?_cons_succ] at h
   obtain ⟨z',C9,e⟩:=K3 y (fun z hz=>hn z (by simp [hz])) (by grind) h
   refine ⟨z',by rw [List.getElem?_cons_succ];exact C9,?_⟩
   rw [e,if_neg (by omega),show k + 1 + i=k + (i + 1) by omega];grind
theorem FY (y:Nat):∀ {k:Nat} {l:List Rat} {m:Rat},(tu y (cj k l) m).Pairwise Lex
 | k,[],m=>List.Pairwise.nil
 | k,z::l,m=>by
  have e1:tu y (cj k (z::l)) m=(if 0 < ai z m then [((k,y,ai z m):Uq)] else [])++tu y (cj (k + 1) l) (m - ai z m):=rfl
  rw [e1,List.pairwise_append]
  refine ⟨?_,FY y,fun a ha b hb=> ?_⟩
  ·split
   ·exact List.pairwise_singleton _ _
   ·exact List.Pairwise.nil
  ·obtain ⟨b1,_,b2,_⟩:=vG y hb
   split at ha
   ·rw [List.mem_singleton] at ha
    subst ha
    exact .inr ⟨b1.symm,by show k < b.1;omega⟩
   ·cases ha
theorem K4:∀ {t:List Vq} {m:Rat},(∀ p∈t,0≤p.2)→0≤m→0≤Ac t m∧Ac t m≤m
 | [],m,_,hm=>⟨Rat.le_refl,hm⟩
 | p::t,m,h,hm=>by
  have hr:=AB (h p (by simp)) hm
  have Dg:=bZ p.2 m
  obtain ⟨a,b⟩:=K4 (t:=t) (m:=m - ai p.2 m) (fun x hx=>h x (by simp [hx])) (by grind)
  rw [ox]
  exact ⟨by grind,by grind⟩
theorem K5 (y:Nat):∀ {k:Nat} {l:List Rat} {m:Rat} {e:Uq} {i:Nat} {x:Rat},(∀ z∈l,0≤z)→0≤m→e∈tu y (cj k l) m→k + i < e.1→((sJ (cj k l) m).map (·.2))[i]? =some x→x=0
 | k,[],m,e,i,x,_,_,he,_,_=>by cases he
 | k,z::l,m,e,i,x,hn,hm,he,hi,hx=>by
  have hz:=hn z (by simp)
  have hr:=AB hz hm
  have Dg:=bZ z m
  have e2:(sJ (cj k (z::l)) m).map (·.2)=(z - ai z m)::(sJ (cj (k + 1) l) (m - ai z m)).map (·.2):=rfl
  have De:e∈(if 0 < ai z m then [((k,y,ai z m):Uq)] else [])++tu y (cj (k + 1) l) (m - ai z m):=he
  rw [e2] at hx
  have zI:e∈tu y (cj (k + 1) l) (m - ai z m):=by
   rcases List.mem_append.1 De with h1 | h1
   ·split at h1
    ·rw [List.mem_singleton] at h1;subst h1;exact absurd hi (by show ¬ k + i < k;omega)
    ·cases h1
   ·exact h1
  cases i with
  | zero=>
   rw [List.getElem?_cons_zero] at hx
   cases hx
   rcases cQ z m with ⟨e,_⟩ | ⟨e,_⟩
   ·rw [e];grind
   ·rw [e,show m - m=(0:Rat) by grind,(vA y (t:=cj (k + 1) l) (fun p hp=>hn _ (by simp [(ji hp).2.2]))).1] at zI
    cases zI
  | succ i=>
   rw [List.getElem?_cons_succ] at hx
   exact K5 y (fun z hz=>hn z (by simp [hz])) (by grind) zI (by omega) hx
structure RowOk (S F:Rat) (e:Rat×Rat) (r:aN):Prop where
 lim:r.eI=aD S F e.2
 alw:r.allowed=ai e.1 r.eI
 den:r.bk=e.1 - r.allowed
 us0:0≤r.used
 us1:r.used≤r.eI - r.allowed
 ded:r.bT=r.allowed + r.used
 ex0:0≤r.aZ
structure EO (S F:Rat) (kn d:Nat) (l:List (Rat×Rat)) (s:CD):Prop where
 len:s.left.length=s.rows.length
 rln:s.rows.length=l.length
 cons:∀ (v:Nat) (x:Rat),s.left[v]? =some x→∃ r,s.rows[v]? =some r∧x=r.bk - r.aZ - gs (vn v) s.uses
 nn:∀ x∈s.left,0≤x
 row:∀ (i:Nat) (r:aN),s.rows[i]? =some r→∃ e,l[i]? =some e∧RowOk S F e r
 exp:∀ (i:Nat) (r:aN),s.rows.length≤i + kn + d→s.rows[i]? =some r→r.aZ=0
 use:∀ u∈s.uses,0 < u.2.2∧u.1 < u.2.1∧u.2.1≤u.1 + kn∧u.2.1 < s.rows.length
 sort:s.uses.Pairwise Lex
 old:∀ u∈s.uses,∀ (v:Nat) (r:aN),u.2.1≤v + kn→v < u.1→s.rows[v]? =some r→r.bk - gs (bf v (u.2.1 + 1)) s.uses≤0
theorem ti_exp {S F:Rat} {kn n:Nat} {l:List (Rat×Rat)} {s:CD} (h:EO S F kn 1 l s) (hn:s.rows.length=n + 1):EO S F kn 0 l (Kg kn n s):=by
 unfold Kg
 by_cases hk:kn≤n
 ·rw [if_pos hk]
  obtain ⟨j,hj⟩:∃ j,j=n - kn:=⟨_,rfl⟩
  rw [←hj]
  have hlj:j < s.left.length:=by rw [h.len];omega
  obtain ⟨x,hx⟩:∃ x,s.left[j]? =some x:=⟨_,List.getElem?_eq_getElem hlj⟩
  have Ix:s.left.getD j 0=x:=by rw [List.getD_eq_getElem?_getD,hx];rfl
  rw [Ix]
  have gK:=h.nn x (List.mem_of_getElem? hx)
  refine ⟨?_,?_,fun v z hv=> ?_,fun z hz=> ?_,fun i r hr=> ?_,fun i r hi hr=> ?_,fun u hu=> ?_,h.sort,fun u hu v r h1 h2 hr=> ?_⟩
  ·show (s.left.set j 0).length=(s.rows.modify j _).length
   rw [List.length_set,List.length_modify];exact h.len
  ·show (s.rows.modify j _).length=_
   rw [List.length_modify];exact h.rln
  ·dsimp only at hv ⊢
   by_cases e:j=v
   ·subst e
    rw [List.getElem?_set_self hlj] at hv
    cases hv
    obtain ⟨r,hr,he⟩:=h.cons j x hx
    refine ⟨{ r with aZ:=x },by rw [xn rfl,hr];rfl,?_⟩
    have:=h.exp j r (by omega) hr
    show (0:Rat)=r.bk - x - _
    grind
   ·rw [List.getElem?_set_ne e] at hv
    obtain ⟨r,hr,he⟩:=h.cons v z hv
    exact ⟨r,by rw [rV e];exact hr,he⟩
  ·rcases List.mem_or_eq_of_mem_set hz with h' | h'
   ·exact h.nn z h'
   ·rw [h'];exact Rat.le_refl
  ·dsimp only at hr
   by_cases e:j=i
   ·rw [xn e] at hr
    obtain ⟨r',mW,rfl⟩:=Option.map_eq_some_iff.1 hr
    obtain ⟨y,hy,a⟩:=h.row i r' mW
    exact ⟨y,hy,a.lim,a.alw,a.den,a.us0,a.us1,a.ded,gK⟩
   ·rw [rV e] at hr
    exact h.row i r hr
  ·dsimp only at hr hi
   rw [List.length_modify] at hi
   rw [rV (by omega)] at hr
   exact h.exp i r (by omega) hr
  ·have:=h.use u hu
   show _∧_∧_∧_ < (s.rows.modify j _).length
   rw [List.length_modify];exact this
  ·dsimp only at hr ⊢
   by_cases e:j=v
   ·rw [xn e] at hr
    obtain ⟨r',mW,rfl⟩:=Option.map_eq_some_iff.1 hr
    exact h.old u hu v r' h1 h2 mW
   ·rw [rV e] at hr
    exact h.old u hu v r h1 h2 hr
 ·rw [if_neg hk]
  exact ⟨h.len,h.rln,h.cons,h.nn,h.row,fun i r hi hr=>h.exp i r (by omega) hr,h.use,h.sort,h.old⟩
theorem ti_year {S F:Rat} {kn:Nat} {l:List (Rat×Rat)} {s:CD} (h:EO S F kn 0 l s) (y:Rat×Rat):EO S F kn 0 (l++[y]) (rU S F kn s.rows.length s y):=by
 unfold rU
 obtain ⟨n,hn⟩:∃ n,n=s.rows.length:=⟨_,rfl⟩
 rw [←hn]
 obtain ⟨lo,AW⟩:∃ lo,lo=n - kn:=⟨_,rfl⟩
 obtain ⟨L,hL⟩:∃ L,L=aD S F y.2:=⟨_,rfl⟩
 obtain ⟨m,hm⟩:∃ m,m=L - ai y.1 L:=⟨_,rfl⟩
 have yf:0≤m:=by have:=bZ y.1 L;grind
 have hlen:=h.len
 have qX:=h.rln
 obtain ⟨dl,iU⟩:∃ dl,dl=s.left.drop lo:=⟨_,rfl⟩
 have hdn:∀ z∈dl,0≤z:=fun z hz=>by rw [iU] at hz;exact h.nn _ (List.mem_of_mem_drop hz)
 have hdll:dl.length=n - lo:=by rw [iU,List.length_drop,hlen,hn]
 obtain ⟨t,ht⟩:∃ t,t=cj lo dl:=⟨_,rfl⟩
 have htn:∀ p∈t,0≤p.2:=fun p hp=>by rw [ht] at hp;exact hdn _ (ji hp).2.2
 have oJ:=K4 htn yf
 rw [←AW,←iU,←ht,←hL,←hm]
 obtain ⟨nu,hnu⟩:∃ nu,nu=tu n t m:=⟨_,rfl⟩
 have vp:∀ e∈nu,e.2.1=n∧0 < e.2.2∧lo≤e.1∧e.1 < n:=fun e he=>by
  rw [hnu,ht] at he
  obtain ⟨a,b,c,d⟩:=vG n he
  exact ⟨a,b,c,by rw [hdll] at d;omega⟩
 refine ti_exp (n:=n) ?_ (by show (s.rows++[_]).length=_;rw [List.length_append,←hn];rfl)
 obtain ⟨L1,hL1⟩:∃ L1,L1=s.left.take lo++(sJ t m).map (·.2):=⟨_,rfl⟩
 have hL1l:L1.length=n:=by rw [hL1,List.length_append,List.length_take,List.length_map,Ad,ht,xm,hdll,hlen,←hn];omega
 have hR:Ae S F t y=⟨L,ai y.1 L,y.1 - ai y.1 L,Ac t m,ai y.1 L + Ac t m,0,0⟩:=by unfold Ae;rw [←hL,←hm]
 rw [←hnu,←hL1,hR]
 have hget:∀ (v:Nat) (x:Rat),L1[v]? =some x→∃ z,s.left[v]? =some z∧x=z - gs (vn v) nu∧(∀ e∈nu,n≤v + kn→v < e.1→x=0):=by
  intro v x hv
  rw [hL1] at hv
  have Ij:(s.left.take lo).length=lo:=by rw [List.length_take,hlen,←hn];omega
  by_cases hvl:v < lo
  ·rw [List.getElem?_append_left (by omega),List.getElem?_take_of_lt hvl] at hv
   refine ⟨x,hv,?_,fun e he h1 h2=>by omega⟩
   rw [pj (fun e he=>by have:=vp e he;unfold vn;rw [if_neg (by omega)])];grind
  ·rw [List.getElem?_append_right (by omega),Ij] at hv
   obtain ⟨z,hz,e⟩:=K3 n (by exact hdn) yf (by rw [←ht];exact hv)
   refine ⟨z,?_,?_,fun e' De h1 h2=> ?_⟩
   ·rw [iU,List.getElem?_drop,show lo + (v - lo)=v by omega] at hz;exact hz
   ·rw [hnu,ht]
    rw [show lo + (v - lo)=v by omega] at e
    exact e
   ·rw [hnu,ht] at De
    exact K5 n (i:=v - lo) hdn yf De (by omega) (by rw [←ht];exact hv)
 have hnn1:∀ x∈L1,0≤x:=fun x hx=>by
  rw [hL1] at hx
  rcases List.mem_append.1 hx with h' | h'
  ·exact h.nn x (List.mem_of_mem_take h')
  ·obtain ⟨p,hp,rfl⟩:=List.mem_map.1 h'
   exact Ew p hp
 have hold:∀ (v:Nat) (r:aN),v < n→(s.rows++[(⟨L,ai y.1 L,y.1 - ai y.1 L,Ac t m,ai y.1 L + Ac t m,0,0⟩:aN)])[v]? =some r→s.rows[v]? =some r:=fun v r hv hr=>by
  rwa [List.getElem?_append_left (by omega)] at hr
 have BX:∀ (v:Nat) (r:aN),n≤v→(s.rows++[(⟨L,ai y.1 L,y.1 - ai y.1 L,Ac t m,ai y.1 L + Ac t m,0,0⟩:aN)])[v]? =some r→v=n∧r=⟨L,ai y.1 L,y.1 - ai y.1 L,Ac t m,ai y.1 L + Ac t m,0,0⟩:=fun v r hv hr=>by
  have hlt:=(List.getElem?_eq_some_iff.1 hr).1
  rw [List.length_append,List.length_singleton,←hn] at hlt
  have hvn:v=n:=by omega
  subst hvn
  rw [List.getElem?_append_right (by omega),←hn,Nat.sub_self] at hr
  exact ⟨rfl,(Option.some.inj hr).symm⟩
 refine ⟨?_,?_,fun v x hv=> ?_,fun x hx=> ?_,fun i r hr=> ?_,fun i r hi hr=> ?_,fun u hu=> ?_,?_,fun u hu v r h1 h2 hr=> ?_⟩
 ·show (L1++[_]).length=(s.rows++[_]).length
  rw [List.length_append,List.length_append,hL1l,hn];rfl
 ·show (s.rows++[_]).length=(l++[y]).length
  rw [List.length_append,List.length_append,qX];rfl
 ·dsimp only at hv ⊢
  by_cases hvn:v < n
  ·rw [List.getElem?_append_left (by omega)] at hv
   obtain ⟨z,hz,e,_⟩:=hget v x hv
   obtain ⟨r,hr,e'⟩:=h.cons v z hz
   refine ⟨r,by rw [List.getElem?_append_left (by omega)];exact hr,?_⟩
   rw [lZ];grind
  ·have hlt:=(List.getElem?_eq_some_iff.1 hv).1
   rw [List.length_append,List.length_singleton,hL1l] at hlt
   have hvn:v=n:=by omega
   subst hvn
   rw [List.getElem?_append_right (by omega),hL1l,Nat.sub_self] at hv
   cases hv
   refine ⟨_,by rw [List.getElem?_append_right (by omega),←hn,Nat.sub_self];rfl,?_⟩
   rw [lZ,pj (us:=s.uses) (fun e he=>by have:=h.use e he;unfold vn;rw [if_neg (by omega)]),pj (us:=nu) (fun e he=>by have:=vp e he;unfold vn;rw [if_neg (by omega)])]
   show _=y.1 - ai y.1 L - 0 - _
   grind
 ·rcases List.mem_append.1 hx with h' | h'
  ·exact hnn1 x h'
  ·rw [List.mem_singleton.1 h']
   have:=dh y.1 L
   grind
 ·dsimp only at hr
  by_cases tL:i < n
  ·obtain ⟨e,he,a⟩:=h.row i r (hold i r tL hr)
   exact ⟨e,by rw [List.getElem?_append_left (by omega)];exact he,a⟩
  ·obtain ⟨rfl,rfl⟩:=BX i r (by omega) hr
   refine ⟨y,by rw [List.getElem?_append_right (by omega),←qX,←hn,Nat.sub_self];rfl,hL,rfl,rfl,oJ.1,by show Ac t m≤L - ai y.1 L;rw [←hm];exact oJ.2,rfl,Rat.le_refl⟩
 ·dsimp only at hr hi
  rw [List.length_append,List.length_singleton,←hn] at hi
  by_cases tL:i < n
  ·exact h.exp i r (by omega) (hold i r tL hr)
  ·obtain ⟨rfl,rfl⟩:=BX i r (by omega) hr
   rfl
 ·show _∧_∧_∧_ < (s.rows++[_]).length
  rw [List.length_append,List.length_singleton,←hn]
  rcases List.mem_append.1 hu with h' | h'
  ·have:=h.use u h'
   exact ⟨this.1,this.2.1,this.2.2.1,by omega⟩
  ·have:=vp u h'
   exact ⟨this.2.1,by omega,by omega,by omega⟩
 ·show (s.uses++nu).Pairwise Lex
  rw [List.pairwise_append]
  refine ⟨h.sort,by rw [hnu,ht];exact FY n,fun a ha b hb=>.inl ?_⟩
  have:=h.use a ha
  have:=vp b hb
  omega
 ·dsimp only at hr hu ⊢
  rcases List.mem_append.1 hu with h' | h'
  ·have hun:=h.use u h'
   rw [lZ,pj (us:=nu) (fun e he=>by have:=vp e he;unfold bf;rw [if_neg (by omega)])]
   have:=h.old u h' v r h1 h2 (hold v r (by omega) hr)
   grind
  ·have hun:=vp u h'
   have hvn:v < n:=by omega
   obtain ⟨x,hx⟩:∃ x,L1[v]? =some x:=⟨_,List.getElem?_eq_getElem (by omega)⟩
   obtain ⟨z,hz,e,h0⟩:=hget v x hx
   have gK:=h0 u h' (by omega) h2
   obtain ⟨r',mW,e'⟩:=h.cons v z hz
   have ju:=hold v r hvn hr
   rw [mW] at ju
   cases ju
   have hex:=h.exp v _ (by omega) mW
   have hbv:gs (bf v (u.2.1 + 1)) (s.uses++nu)=gs (vn v) (s.uses++nu):=CY fun e he=>by
    have:e.2.1 < u.2.1 + 1:=by
     rcases List.mem_append.1 he with h'' | h''
     ·have:=h.use e h'';omega
     ·have:=vp e h'';omega
    unfold bf vn
    by_cases hev:e.1=v
    ·rw [if_pos ⟨hev,this⟩,if_pos hev]
    ·rw [if_neg (fun x=>hev x.1),if_neg hev]
   rw [hbv,lZ]
   grind
theorem K6 (S F:Rat) (kn:Nat) (l:List (Rat×Rat)):EO S F kn 0 l (runT S F kn l):=by
 have key:∀ (l p:List (Rat×Rat)) (s:CD),EO S F kn 0 p s→EO S F kn 0 (p++l) (l.foldl (fun s y=>rU S F kn s.rows.length s y) s):=by
  intro l
  induction l with
  | nil=>intro p s h;rw [List.append_nil];exact h
  | cons y l ih=>
   intro p s h
   have:=ih (p++[y]) _ (ti_year h y)
   rwa [List.append_assoc] at this
 have:=key l [] ⟨[],[],[]⟩ ⟨rfl,rfl,fun v x hx=>(by cases hx),fun x hx=>(by cases hx),fun i r hr=>(by cases hr),fun i r _ hr=>(by cases hr),fun u hu=>(by cases hu),List.Pairwise.nil,fun u hu=>(by cases hu)⟩
 exact this
theorem clo_at {left:List Rat} {rows:List aN} (i:Nat):(eE (cj 0 left) rows)[i]? =match left[i]? with
  | some x=>(rows[i]?).map (fun r=>{ r with closing:=x })
  | none=>rows[i]? :=by
 rw [oZ _ _ (xo 0 left)]
 cases hl:left[i]? with
 | none=>
  have:(cj 0 left).find? (fun p=>p.1 == i)=none:=by
   rw [List.find?_eq_none]
   intro p hp e
   obtain ⟨j,hj⟩:=List.mem_iff_getElem?.1 hp
   rw [oY] at hj
   obtain ⟨x,hx,rfl⟩:=Option.map_eq_some_iff.1 hj
   have:0 + j=i:=by simpa using e
   rw [show j=i by omega,hl] at hx
   cases hx
  rw [this]
 | some x=>
  have hm:(i,x)∈cj 0 left:=by
   apply List.mem_of_getElem? (i:=i)
   rw [oY,hl];simp
  cases hf:(cj 0 left).find? (fun p=>p.1 == i) with
  | none=>exact absurd (by simp) (List.find?_eq_none.1 hf _ hm)
  | some p=>
   have hp:=List.find?_some hf
   obtain ⟨j,hj⟩:=List.mem_iff_getElem?.1 (List.mem_of_find?_eq_some hf)
   rw [oY] at hj
   obtain ⟨x',hx,rfl⟩:=Option.map_eq_some_iff.1 hj
   have:0 + j=i:=by simpa using hp
   rw [show j=i by omega,hl] at hx
   cases hx
   rfl
theorem qJ:∀ (q:List Vq) (r:List aN),(eE q r).length=r.length
 | [],_=>rfl
 | p::q,r=>by show (eE q _).length=_;rw [qJ q,List.length_modify]
structure xF (S F:Rat) (kn:Nat) (l:List (Rat×Rat)) (x:List aN×List Uq):Prop where
 rln:x.1.length=l.length
 row:∀ (i:Nat) (r:aN),x.1[i]? =some r→∃ e,l[i]? =some e∧RowOk S F e r∧0≤r.closing∧gs (vn i) x.2 + r.aZ + r.closing=r.bk
 use:∀ u∈x.2,0 < u.2.2∧u.1 < u.2.1∧u.2.1≤u.1 + kn∧u.2.1 < l.length
 sort:x.2.Pairwise Lex
 old:∀ u∈x.2,∀ (v:Nat) (r:aN),u.2.1≤v + kn→v < u.1→x.1[v]? =some r→r.bk - gs (bf v (u.2.1 + 1)) x.2≤0
theorem AD {left:List Rat} {rows:List aN} {i:Nat} {r:aN} (hl:left.length=rows.length) (h:(eE (cj 0 left) rows)[i]? =some r):∃ r' x,rows[i]? =some r'∧left[i]? =some x∧r={ r' with closing:=x }:=by
 have hlt:=(List.getElem?_eq_some_iff.1 h).1
 rw [qJ] at hlt
 obtain ⟨x,hx⟩:∃ x,left[i]? =some x:=⟨_,List.getElem?_eq_getElem (by omega)⟩
 rw [clo_at,hx] at h
 obtain ⟨r',mW,rfl⟩:=Option.map_eq_some_iff.1 h
 exact ⟨r',x,mW,hx,rfl⟩
theorem F2 (S F:Rat) (kn:Nat) (l:List (Rat×Rat)):xF S F kn l (pA S F kn l):=by
 rw [Ex]
 have h:=K6 S F kn l
 unfold ledT
 generalize runT S F kn l=s at h
 refine ⟨by show (eE _ _).length=_;rw [qJ];exact h.rln,fun i r hr=> ?_,fun u hu=> ?_,h.sort,fun u hu v r h1 h2 hr=> ?_⟩
 ·obtain ⟨r',x,mW,hx,rfl⟩:=AD h.len hr
  obtain ⟨e,he,a⟩:=h.row i r' mW
  obtain ⟨r2,ju,e2⟩:=h.cons i x hx
  rw [mW] at ju
  cases ju
  refine ⟨e,he,⟨a.lim,a.alw,a.den,a.us0,a.us1,a.ded,a.ex0⟩,h.nn x (List.mem_of_getElem? hx),?_⟩
  show gs (vn i) s.uses + r'.aZ + x=r'.bk
  rw [e2];grind
 ·have:=h.use u hu
  rw [h.rln] at this
  exact this
 ·obtain ⟨r',x,mW,hx,rfl⟩:=AD h.len hr
  exact h.old u hu v r' h1 h2 mW
end Go.Proofs.YtabalinjfgcfeaaGreat
namespace Go.Proofs.YtabalinjfgcfeaaGreat
open Go.RowKit
theorem Iz.ai {D:Nat} {a b:Rat} (h:Iz D a) (k:Iz D b):Iz D (ai a b):=by rcases cQ a b with ⟨e,_⟩ | ⟨e,_⟩ <;> rw [e] <;> assumption
theorem tb_iz {D:Nat} (y:Nat):∀ {t:List Vq} {m:Rat},(∀ p∈t,Iz D p.2)→Iz D m→(∀ p∈sJ t m,Iz D p.2)∧(∀ u∈tu y t m,Iz D u.2.2)∧Iz D (Ac t m)
 | [],m,_,_=>⟨fun p hp=>(by cases hp),fun u hu=>(by cases hu),Iz.zero⟩
 | p::t,m,h,hm=>by
  have hp:=h p (by simp)
  have hr:=hp.ai hm
  obtain ⟨a,b,c⟩:=tb_iz y (t:=t) (m:=m - ai p.2 m) (fun x hx=>h x (by simp [hx])) (hm.sub hr)
  refine ⟨fun q hq=> ?_,fun u hu=> ?_,hr.add c⟩
  ·rcases List.mem_cons.1 hq with rfl | hq
   ·exact hp.sub hr
   ·exact a q hq
  ·rcases List.mem_append.1 (show u∈(if 0 < ai p.2 m then [((p.1,y,ai p.2 m):Uq)] else [])++tu y t (m - ai p.2 m) from hu) with h1 | h1
   ·split at h1
    ·rw [List.mem_singleton.1 h1];exact hr
    ·cases h1
   ·exact b u h1
structure RowZ (D:Nat) (r:aN):Prop where
 lim:Iz D r.eI
 alw:Iz D r.allowed
 den:Iz D r.bk
 us:Iz D r.used
 ded:Iz D r.bT
 ex:Iz D r.aZ
 clo:Iz D r.closing
structure HT (D:Nat) (s:CD):Prop where
 left:∀ x∈s.left,Iz D x
 use:∀ u∈s.uses,Iz D u.2.2
 row:∀ r∈s.rows,RowZ D r
theorem mem_modify {l:List aN} {i:Nat} {f:aN→aN} {r:aN} (h:r∈l.modify i f):r∈l∨∃ r'∈l,r=f r':=by
 obtain ⟨j,hj⟩:=List.mem_iff_getElem?.1 h
 by_cases e:i=j
 ·rw [xn e] at hj
  obtain ⟨r',mW,rfl⟩:=Option.map_eq_some_iff.1 hj
  exact .inr ⟨r',List.mem_of_getElem? mW,rfl⟩
 ·rw [rV e] at hj
  exact .inl (List.mem_of_getElem? hj)
theorem HW {D:Nat} {S F:Rat} {kn:Nat} {s:CD} (h:HT D s) {y:Rat×Rat} (hL:Iz D (aD S F y.2)) (hy:Iz D y.1) (n:Nat):HT D (rU S F kn n s y):=by
 unfold rU
 have hr:=hy.ai hL
 have hm:=hL.sub hr
 obtain ⟨t,ht⟩:∃ t,t=cj (n - kn) (s.left.drop (n - kn)):=⟨_,rfl⟩
 rw [←ht]
 obtain ⟨a,b,c⟩:=tb_iz n (t:=t) (m:=aD S F y.2 - ai y.1 (aD S F y.2)) (fun p hp=>by rw [ht] at hp;exact h.left _ (List.mem_of_mem_drop (ji hp).2.2)) hm
 have iL:HT D ⟨(s.left.take (n - kn)++(sJ t (aD S F y.2 - ai y.1 (aD S F y.2))).map (·.2))++[y.1 - ai y.1 (aD S F y.2)],s.rows++[Ae S F t y],s.uses++tu n t (aD S F y.2 - ai y.1 (aD S F y.2))⟩:=by
  refine ⟨fun x hx=> ?_,fun u hu=> ?_,fun r mW=> ?_⟩
  ·rcases List.mem_append.1 hx with h1 | h1
   ·rcases List.mem_append.1 h1 with h2 | h2
    ·exact h.left x (List.mem_of_mem_take h2)
    ·obtain ⟨p,hp,rfl⟩:=List.mem_map.1 h2
     exact a p hp
   ·rw [List.mem_singleton.1 h1];exact hy.sub hr
  ·rcases List.mem_append.1 hu with h1 | h1
   ·exact h.use u h1
   ·exact b u h1
  ·rcases List.mem_append.1 mW with h1 | h1
   ·exact h.row r h1
   ·rw [List.mem_singleton.1 h1]
    exact ⟨hL,hr,hy.sub hr,c,hr.add c,Iz.zero,Iz.zero⟩
 generalize (⟨(s.left.take (n - kn)++(sJ t (aD S F y.2 - ai y.1 (aD S F y.2))).map (·.2))++[y.1 - ai y.1 (aD S F y.2)],s.rows++[Ae S F t y],s.uses++tu n t (aD S F y.2 - ai y.1 (aD S F y.2))⟩:CD)=s1 at iL ⊢
 unfold Kg
 split
 ·have hg:Iz D (s1.left.getD (n - kn) 0):=by
   rw [List.getD_eq_getElem?_getD]
   cases hx:s1.left[n - kn]? with
   | none=>exact Iz.zero
   | some x=>exact iL.left x (List.mem_of_getElem? hx)
  refine ⟨fun x hx=> ?_,iL.use,fun r mW=> ?_⟩
  ·rcases List.mem_or_eq_of_mem_set hx with h1 | h1
   ·exact iL.left x h1
   ·rw [h1];exact Iz.zero
  ·rcases mem_modify mW with h1 | ⟨r',h1,rfl⟩
   ·exact iL.row r h1
   ·have q:=iL.row r' h1
    exact ⟨q.lim,q.alw,q.den,q.us,q.ded,hg,q.clo⟩
 ·exact iL
theorem K7 {D:Nat} {S F:Rat} {kn:Nat} {l:List (Rat×Rat)} (hl:∀ e∈l,Iz D (aD S F e.2)∧Iz D e.1):HT D (runT S F kn l):=by
 have key:∀ (l:List (Rat×Rat)) (s:CD),(∀ e∈l,Iz D (aD S F e.2)∧Iz D e.1)→HT D s→HT D (l.foldl (fun s y=>rU S F kn s.rows.length s y) s):=by
  intro l
  induction l with
  | nil=>intro s _ h;exact h
  | cons y l ih=>intro s hl h;exact ih _ (fun e he=>hl e (by simp [he])) (HW h (hl y (by simp)).1 (hl y (by simp)).2 _)
 exact key l _ hl ⟨fun x hx=>(by cases hx),fun x hx=>(by cases hx),fun x hx=>(by cases hx)⟩
theorem K8 {v:Nat} {u:Uq}:∀ {us:List Uq},(∀ e∈us,0 < e.2.2)→u∈us→u.1=v→u.2.2≤gs (vn v) us
 | e::us,h,hu,hv=>by
  rw [pg]
  have h0:∀ x∈us,0≤vn v x:=fun x hx=>by
   have:=h x (by simp [hx])
   unfold vn;split <;> grind
  have:=FX h0
  rcases List.mem_cons.1 hu with rfl | hu
  ·have:vn v u=u.2.2:=by unfold vn;rw [if_pos hv]
   grind
  ·have h1:=K8 (fun x hx=>h x (by simp [hx])) hu hv
   have h2:0≤vn v e:=by
    have:=h e (by simp)
    unfold vn;split <;> grind
   grind
theorem led_sz {D kk:Nat} {M S F:Rat} {kn:Nat} {l:List (Rat×Rat)} (hM:xA D M S F kk l):LedSz kk (pA S F kn l):=by
 have sA:=F2 S F kn l
 have hz:=K7 (kn:=kn) (fun e he=>⟨(hM.el e he).1,(hM.el e he).2.2.1⟩)
 have qg:=K6 S F kn l
 have hrz:∀ r∈(pA S F kn l).1,RowZ D r:=fun r hr=>by
  rw [Ex] at hr
  obtain ⟨i,hi⟩:=List.mem_iff_getElem?.1 hr
  obtain ⟨r',x,mW,hx,rfl⟩:=AD qg.len hi
  have q:=hz.row r' (List.mem_of_getElem? mW)
  exact ⟨q.lim,q.alw,q.den,q.us,q.ded,q.ex,hz.left x (List.mem_of_getElem? hx)⟩
 have hgn:∀ v,0≤gs (vn v) (pA S F kn l).2:=fun v=>FX fun x hx=>by
  have:=(sA.use x hx).1
  unfold vn;split <;> grind
 have oJ:∀ r∈(pA S F kn l).1,(0≤r.eI∧r.eI≤M)∧(-M≤r.allowed∧r.allowed≤M)∧(0≤r.bk∧r.bk≤M)∧(0≤r.used∧r.used≤M + M)∧(-M≤r.bT∧r.bT≤M)∧(0≤r.aZ∧r.aZ≤M)∧(0≤r.closing∧r.closing≤M):=fun r hr=>by
  obtain ⟨i,hi⟩:=List.mem_iff_getElem?.1 hr
  obtain ⟨e,he,a,hc,hs⟩:=sA.row i r hi
  obtain ⟨b1,b2,b3,b4,b5⟩:=hM.el e (List.mem_of_getElem? he)
  have xN:=mB S F e.2
  have h1:=a.lim
  have h2:=a.alw
  have h3:=a.den
  have h4:=a.us0
  have h5:=a.us1
  have h6:=a.ded
  have h7:=a.ex0
  have hg:=hgn i
  rw [←h1] at xN b2
  rcases cQ e.1 r.eI with ⟨e',_⟩ | ⟨e',_⟩ <;> rw [e'] at h2 <;> refine ⟨⟨?_,?_⟩,⟨?_,?_⟩,⟨?_,?_⟩,⟨?_,?_⟩,⟨?_,?_⟩,⟨?_,?_⟩,?_,?_⟩ <;> grind
 have hM0:∀ r∈(pA S F kn l).1,0≤M:=fun r hr=>by have:=(oJ r hr).1;grind
 have hof:∀ x,0≤M→Iz D x→-M≤x→x≤M + M→dQ x kk:=fun x h0 h h1 h2=>hM.sz x h (by grind) h2
 refine ⟨fun r hr=> ?_,fun u hu=> ?_⟩
 ·obtain ⟨b1,b2,b3,b4,b5,b6,b7⟩:=oJ r hr
  have q:=hrz r hr
  have h0:=hM0 r hr
  exact ⟨hof _ h0 q.lim (by grind) (by grind),hof _ h0 q.alw (by grind) (by grind),hof _ h0 q.den (by grind) (by grind),hof _ h0 q.us (by grind) (by grind),hof _ h0 q.ded (by grind) (by grind),hof _ h0 q.ex (by grind) (by grind),hof _ h0 q.clo (by grind) (by grind)⟩
 ·obtain ⟨c1,c2,c3,c4⟩:=sA.use u hu
  obtain ⟨r,hr⟩:∃ r,(pA S F kn l).1[u.1]? =some r:=⟨_,List.getElem?_eq_getElem (by rw [sA.rln];omega)⟩
  have h1:=K8 (fun x hx=>(sA.use x hx).1) hu rfl
  obtain ⟨e,he,a,hc,hs⟩:=sA.row u.1 r hr
  have b:=oJ r (List.mem_of_getElem? hr)
  have h7:=a.ex0
  have h0:=hM0 r (List.mem_of_getElem? hr)
  have lJ:Iz D u.2.2:=by rw [Ex] at hu;exact hz.use u hu
  exact hof _ h0 lJ (by grind) (by grind)
theorem kW {a b:Rat} {c:Int} (h:dJ a b=c):(a≤b→¬ c > 0)∧(b≤a→¬ c < 0)∧(a < b→c < 0)∧(b < a→c > 0)∧(a=b→c=0):=by
 subst h
 refine ⟨fun h=> ?_,fun h=> ?_,fun h=> ?_,fun h=> ?_,fun h=>gC h⟩
 ·have:=jE.2 h;omega
 ·have:=rP.2 h;omega
 ·by_cases h':dJ a b≥0
  ·have:=rP.1 h';grind
  ·omega
 ·by_cases h':dJ a b≤0
  ·have:=jE.1 h';grind
  ·omega
theorem K9 (v:Nat) (us:List Uq):Ir (v:Int) (us.map CW)=gs (vn v) us:=by
 unfold Ir gs
 rw [List.map_map]
 congr 1
 refine List.map_congr_left fun e _=> ?_
 show pq (decide ((e.1:Int)=(v:Int))) (mR e.2.2)=vn v e
 unfold pq vn
 by_cases h:e.1=v
 ·rw [if_pos h,decide_eq_true (by omega),if_pos rfl,mU]
 ·rw [if_neg h,decide_eq_false (by omega),if_neg (by decide)]
theorem La (v y:Nat) (us:List Uq):EL (v:Int) (y:Int) (us.map CW)=gs (bf v y) us:=by
 unfold EL gs
 rw [List.map_map]
 congr 1
 refine List.map_congr_left fun e _=> ?_
 show pq (decide ((e.1:Int)=(v:Int)) && decide ((e.2.1:Int) < (y:Int))) (mR e.2.2)=bf v y e
 unfold pq bf
 by_cases h:e.1=v∧e.2.1 < y
 ·rw [if_pos h,decide_eq_true (by omega),decide_eq_true (by omega),Bool.and_self,if_pos rfl,mU]
 ·rw [if_neg h]
  by_cases h1:e.1=v
  ·rw [decide_eq_false (show ¬ ((e.2.1:Int) < (y:Int)) by omega),Bool.and_false,if_neg (by decide)]
  ·rw [decide_eq_false (by omega),Bool.false_and,if_neg (by decide)]
theorem H3 {S F:Rat} {kn:Nat} {l:List (Rat×Rat)} {x:List aN×List Uq} (h:xF S F kn l x) (hl:l.length≤100):AA kn (pH x):=by
 intro e he
 obtain ⟨u,hu,rfl⟩:=List.mem_map.1 he
 obtain ⟨c1,c2,c3,c4⟩:=h.use u hu
 refine ⟨u.1,u.2.1,rfl,rfl,by show u.1≤(x.1.map CV).length;rw [List.length_map,h.rln];omega,by omega,fun v R h1 h2 hR=> ?_⟩
 rw [show (pH x).1=x.1.map CV from rfl,List.getElem?_map] at hR
 obtain ⟨r,hr,rfl⟩:=Option.map_eq_some_iff.1 hR
 have:=h.old u hu v r (by omega) h2 hr
 refine (kW rfl).1 ?_
 rw [show (pH x).2=x.2.map CW from rfl,show ((u.2.1:Int) + 1)=((u.2.1 + 1:Nat):Int) by omega,La]
 show (mR r.bk).q - _≤0
 rw [mU]
 exact this
end Go.Proofs.YtabalinjfgcfeaaGreat
namespace Go.Proofs.YtabalinjfgcfeaaGreat
open Go.RowKit
attribute [local irreducible] aB VS
def CZ (S F:RR) (keep:Int) (l:List (RR×RR)):Bool:=jl S F keep && l.all pG && decide (l.length≤40)
def sB (S F:RR) (keep:Int) (l:List (RR×RR)):Int:=if jl S F keep && l.all pG then 3 else 2
theorem EP (S F:RR) (keep:Int) (l:List (RR×RR)):sB S F keep l≠0:=by unfold sB;split <;> decide
theorem iRun_no (v u:Value) (a b:RR) (keep:Int) (l:List (RR×RR)) (w:World) (hR:jk w v a b keep) (ha:a.mM 3) (hb:b.mM 3) (hl:eD (xQ 3) 8 w u l) (hlen:l.length≤100000) (hno:CZ a b keep l=false) (c:Int) (hc:sB a b keep l=c):
  Calls Tryz.prog 11 #[v,u] w fun o w'=>o=.returned (.tuple #[.agg #[.slice none 0 0,.slice none 0 0],.int .i64 c])∧aj w w':=by
 subst hc
 unfold sB
 cases h:(jl a b keep && l.all pG) with
 | false=>exact KM v u a b keep l 3 w hR ha hb hl (by decide) hlen h
 | true=>
  unfold CZ at hno
  rw [h] at hno
  rw [Bool.and_eq_true] at h
  exact Hv v u a b keep l 3 w hR ha hb hl (by decide) hlen h.1 h.2 (by simpa using hno)
structure xG (S F:RR) (keep:Int) (l:List (RR×RR)):Prop where
 k0:0≤keep
 k1:keep≤40
 s0:0≤S.q
 s1:S.q≤1
 rul:jl S F keep=true
 yrs:l.all pG=true
 len:l.length≤40
theorem C0 {S F:RR} {keep:Int} {l:List (RR×RR)} (h:CZ S F keep l=true):xG S F keep l:=by
 unfold CZ at h
 rw [Bool.and_eq_true,Bool.and_eq_true] at h
 obtain ⟨⟨h1,h2⟩,h3⟩:=h
 have hr:=h1
 unfold jl at hr
 simp only [Bool.and_eq_true,decide_eq_true_iff] at hr
 obtain ⟨r1,r2,r3,r4,r5,r6⟩:=hr
 exact ⟨r5,r6,rP.1 r3,jE.1 r4,h1,h2,of_decide_eq_true h3⟩
theorem Lm.ofSz {q:Rat} {k:Nat} (h:dQ q k):Lm k q:=by
 obtain ⟨h1,h2⟩:=h
 have h1:=h1.lt
 have h2:=h2.lt
 exact ⟨by omega,by omega⟩
theorem jk.sz {w:World} {v:Value} {S F:RR} {keep:Int} {k:Nat} (h:jk w v S F keep) (hS:S.mM k) (hF:F.mM k) (hk:1≤k):dQ S.q k∧dQ F.q k:=by
 obtain ⟨p,c,r,d,p',c',r',d',rfl,h1,h2⟩:=h
 exact ⟨(h1.o9 hS).sz hk,(h2.o9 hF).sz hk⟩
theorem yrs_sz {w:World} {v:Value} {l:List (RR×RR)} {k:Nat} (h:eD (xQ k) 8 w v l) (hk:1≤k):∀ e∈l,dQ e.1.q k∧dQ e.2.q k:=fun e he=>by
 obtain ⟨i,hi,hx⟩:=List.mem_iff_getElem.1 he
 obtain ⟨p,c,rfl,_,_⟩:=h.form
 obtain ⟨_,_,cs,_,_,x,y,_,⟨_,_,_,_,_,h1⟩,⟨_,_,_,_,_,h2⟩,f1,f2⟩:=h.at (i:=i) (a:=e) (by rw [List.getElem?_eq_getElem hi,hx])
 exact ⟨(h1.o9 f1).sz hk,(h2.o9 f2).sz hk⟩
theorem C1 {w:World} {v u:Value} {S F:RR} {keep:Int} {l:List (RR×RR)} (hR:jk w v S F keep) (hS:S.mM 3) (hF:F.mM 3) (hl:eD (xQ 3) 8 w u l) (fP:xG S F keep l) (hlen:l.length≤12):
  xA (S.q.den * F.q.den * sw (ed l)) (((4294967296 ^ 3:Nat):Int):Rat) S.q F.q 82 (ed l):=by
 obtain ⟨h1,h2⟩:=hR.sz hS hF (by decide)
 refine KR (k:=3) (n:=12) (Lm.ofSz h1) (Lm.ofSz h2) fP.s0 fP.s1 (fun e he=> ?_) (by unfold ed;rw [List.length_map];exact hlen) (by decide)
 obtain ⟨x,hx,rfl⟩:=List.mem_map.1 he
 obtain ⟨a,b⟩:=yrs_sz hl (by decide) x hx
 exact ⟨Lm.ofSz a,Lm.ofSz b⟩
theorem Lb (v u:Value) (S F:RR) (keep:Int) (kn:Nat) (l:List (RR×RR)) (w:World) (hR:jk w v S F keep) (hS:S.mM 3) (hF:F.mM 3) (hl:eD (xQ 3) 8 w u l) (fP:xG S F keep l) (hlen:l.length≤12) (qU:keep=(kn:Int)):
  Calls Tryz.prog 11 #[v,u] w fun o w'=>∃ r u',o=.returned (.tuple #[.agg #[r,u'],.int .i64 0])∧sq w.heap.size w' r u' (pA S.q F.q kn (ed l))∧aj w w':=by
 have hM:=C1 hR hS hF hl fP hlen
 subst qU
 have:=fP.k1
 exact FP v u S F kn l 3 82 _ _ w hR hS hF hl (by decide) (by decide) (by decide) fP.rul fP.yrs fP.len (by omega) hM
theorem lB {w:World} {b:Nat} {t:TypeId} {cs:List Value} (h:aW w b t cs.toArray) (k:Nat) (ds:List Value) (hd:ds <+:cs.drop k):∀ (j:Nat) (u:Value),ds[j]? =some u→w.cell? ((⟨b,0 + k,none⟩:Addr).add j)=some u:=by
 intro j u hj
 obtain ⟨t',ht⟩:=hd
 rw [Addr.add_mid,Nat.zero_add]
 refine h.cell ?_
 rw [List.getElem?_toArray,←List.getElem?_drop,←ht,List.getElem?_append_left (List.getElem?_eq_some_iff.1 hj).1]
 exact hj
end Go.Proofs.YtabalinjfgcfeaaGreat
set_option maxRecDepth 4000
namespace Go.Proofs.YtabalinjfgcfeaaGreat
open Go.RowKit
attribute [local irreducible] aB VS
theorem bne_y {a b:Int} (h:a≠b):(a != b)=true:=by simpa using h
theorem bne_n {a b:Int} (h:a=b):(a != b)=false:=by simpa using h
theorem con_use {S F:Rat} {kn:Nat} {l:List (Rat×Rat)} {x:List aN×List Uq} (h:xF S F kn l x) {e:mJ} (he:e∈(pH x).2):
  ∃ (a b:Nat) (y:Rat),e.1=(a:Int)∧e.2.1=(b:Int)∧e.2.2.q=y∧0 < y∧a < b∧b≤a + kn∧b < l.length:=by
 obtain ⟨u,hu,rfl⟩:=List.mem_map.1 he
 obtain ⟨c1,c2,c3,c4⟩:=h.use u hu
 exact ⟨u.1,u.2.1,_,rfl,rfl,mU _,c1,c2,c3,c4⟩
theorem Lc {S F:Rat} {kn:Nat} {l:List (Rat×Rat)} {x:List aN×List Uq} (h:xF S F kn l x) {z:Nat} {e f:mJ} {a b a' b':Nat} (he:(pH x).2[z]? =some e) (hf:(pH x).2[z + 1]? =some f) (h1:e.1=(a:Int)) (h2:e.2.1=(b:Int)) (h3:f.1=(a':Int)) (h4:f.2.1=(b':Int)):b < b'∨(b=b'∧a < a'):=by
 rw [show (pH x).2=x.2.map CW from rfl,List.getElem?_map] at he hf
 obtain ⟨u,hu,rfl⟩:=Option.map_eq_some_iff.1 he
 obtain ⟨v,hv,rfl⟩:=Option.map_eq_some_iff.1 hf
 obtain ⟨hi,rfl⟩:=List.getElem?_eq_some_iff.1 hu
 obtain ⟨hj,rfl⟩:=List.getElem?_eq_some_iff.1 hv
 have:=List.pairwise_iff_getElem.1 h.sort z (z + 1) hi hj (by omega)
 unfold Lex at this
 have e1:((x.2[z].1:Nat):Int)=(a:Int):=h1
 have e2:((x.2[z].2.1:Nat):Int)=(b:Int):=h2
 have e3:((x.2[z + 1].1:Nat):Int)=(a':Int):=h3
 have e4:((x.2[z + 1].2.1:Nat):Int)=(b':Int):=h4
 omega
theorem C2 {D kk:Nat} {M S F:Rat} {kn:Nat} {l:List (Rat×Rat)} (hM:xA D M S F kk l):xy D M (gi S F kn l)∧(gi S F kn l).rows.length=l.length:=by
 have key:∀ (l p:List (Rat×Rat)) (s:CC),(∀ e∈l,Iz D (aD S F e.2)∧aD S F e.2≤M∧Iz D e.1∧-M≤e.1∧e.1≤M)→xy D M s→s.rows.length=p.length→xy D M (l.foldl (fun s y=>di S F kn s.rows.length s y) s)∧(l.foldl (fun s y=>di S F kn s.rows.length s y) s).rows.length=(p++l).length:=by
  intro l
  induction l with
  | nil=>intro p s _ h hp;rw [List.append_nil];exact ⟨h,hp⟩
  | cons y l ih=>
   intro p s hl h hp
   obtain ⟨a1,a2,a3,a4,a5⟩:=hl y (by simp)
   obtain ⟨b1,b2⟩:=FK (keep:=kn) h a1 a2 a3 a4 a5
   have:=ih (p++[y]) _ (fun e he=>hl e (by simp [he])) b1 (by rw [b2,hp,List.length_append];rfl)
   rwa [List.append_assoc] at this
 exact key l [] ⟨[],[],[]⟩ hM.el ⟨fun p hp=>(by cases hp),by show 0 + 0≤2 * 0;omega⟩ rfl
structure ConRow (e:Rat) (of:Rat) (r:aN):Prop where
 sum:gV [of,r.aZ,r.closing]=r.bk
 d0:0≤r.bk
 e0:0≤r.aZ
 c0:0≤r.closing
 l0:0≤r.eI
 u0:0≤r.used
 net:r.allowed + r.bk=e
 ded:r.allowed + r.used=r.bT
 lim:r.bT≤r.eI
theorem con_row {S F:Rat} {kn:Nat} {l:List (RR×RR)} {x:List aN×List Uq} (h:xF S F kn (ed l) x) {z:Nat} {R:nk} (hR:(pH x).1[z]? =some R):
  ∃ e,l[z]? =some e∧ConRow e.1.q (Ir (z:Int) (pH x).2) R.q:=by
 rw [show (pH x).1=x.1.map CV from rfl,List.getElem?_map] at hR
 obtain ⟨r,hr,rfl⟩:=Option.map_eq_some_iff.1 hR
 obtain ⟨e,he,a,hc,hs⟩:=h.row z r hr
 rw [show ed l=l.map (fun e=>(e.1.q,e.2.q)) from rfl,List.getElem?_map] at he
 obtain ⟨e',De,rfl⟩:=Option.map_eq_some_iff.1 he
 refine ⟨e',De,?_⟩
 rw [crow_q,show (pH x).2=x.2.map CW from rfl,K9]
 have hg:0≤gs (vn z) x.2:=FX fun u hu=>by
  have:=(h.use u hu).1
  unfold vn;split <;> grind
 have h1:=a.lim
 have h2:=a.alw
 have h3:=a.den
 have h4:=a.us0
 have h5:=a.us1
 have h6:=a.ded
 have h7:=a.ex0
 have xN:=mB S F e'.2.q
 have hle:=dh e'.1.q r.eI
 exact ⟨by rw [jQ,jQ,jQ];show _ + (_ + (_ + gV []))=_;rw [show gV []=0 from rfl];grind,by grind,h7,hc,by rw [h1];exact xN,h4,by grind,h6.symm,by grind⟩
set_option maxRecDepth 4000 in
set_option maxHeartbeats 16000000 in
theorem H4 (v u:Value) (S F:RR) (keep:Int) (l:List (RR×RR)) (kk:Nat) (w:World) (hR:jk w v S F keep) (hl:eD (xQ kk) 8 w u l):
  Calls Tryz.prog 4 #[v,u] w fun o w'=>o=.returned (.bool true)∧aj w w':=by
 obtain ⟨uq,uc,rfl,huc,hum⟩:=hl.form
 obtain ⟨sp,sc,sr,sd,fp,fc,fr,fd,rfl,hsraw,hfraw⟩:=hR
 have hR:jk w (.agg #[.bool S.1,.slice sp S.2.1.length sc,.bool S.2.2.1,.slice sr S.2.2.2.length sd,.bool F.1,.slice fp F.2.1.length fc,.bool F.2.2.1,.slice fr F.2.2.2.length fd,.int .i64 keep]) S F keep:=⟨_,_,_,_,_,_,_,_,rfl,hsraw,hfraw⟩
 obtain ⟨N,hN⟩:∃ N,N=l.length:=⟨_,rfl⟩
 rw [←hN] at hl huc
 rw [←hN]
 refine aw (C:=Hx Tryz.prog w _) (args:=[_,_]) Tryz.func4 rfl Tryz.ntmps4 (Nat.le_of_ble_eq_true rfl) ?_
 (repeat first|refine wN ?_|refine wP rfl ?_|refine fY rfl ?_|refine gw rfl ?_|refine wO rfl rfl ?_)
 cases uQ:kV S F l with
 | false=>
  refine VO.call rfl rfl (fk Tryz.func8) (fun cB ek du=>(CU _ _ S F keep l kk cB (hR.kp (Kp.of (U:=UU) du)) (hl.bh (fN kk) du) false uQ).mono ?_)
  rintro e w1 ⟨rfl,aV⟩
  skip
  refine ⟨_,rfl,aV,fun e9 _ bb1=>wV rfl ?_⟩
  (repeat first|refine wN ?_|refine wP rfl ?_|refine fY rfl ?_|refine gw rfl ?_|refine wO rfl rfl ?_)
  refine VO.call rfl rfl (fk Tryz.func9) (fun dB gp et=>(oC dB).mono ?_)
  rintro e w2 ⟨rfl,bl⟩
  skip
  refine ⟨_,rfl,bl,fun fX _ bb2=>wV rfl ?_⟩
  (repeat first|refine wN ?_|refine wP rfl ?_|refine fY rfl ?_|refine gw rfl ?_|refine wO rfl rfl ?_)
  refine VS.ret (EK _ _) rfl rfl (fun wz kz bz=> ?_)
  exact ⟨rfl,bz⟩
 | true=>
 have hl3:=KZ uQ hl
 have hlen:=HI uQ
 obtain ⟨hS3,hF3,-⟩:=zi uQ
 refine VO.call rfl rfl (fk Tryz.func8) (fun cB ek du=>(CU _ _ S F keep l kk cB (hR.kp (Kp.of (U:=UU) du)) (hl.bh (fN kk) du) true uQ).mono ?_)
 rintro e w1 ⟨rfl,aV⟩
 skip
 refine ⟨_,rfl,aV,fun e9 _ bb1=>wV rfl ?_⟩
 (repeat first|refine wN ?_|refine wP rfl ?_|refine fY rfl ?_|refine gw rfl ?_|refine wO rfl rfl ?_)
 cases fP:CZ S F keep l with
 | false=>
  obtain ⟨c,hc⟩:∃ c,sB S F keep l=c:=⟨_,rfl⟩
  have hcn:c≠0:=hc▸EP S F keep l
  refine VO.call rfl rfl (fk Tryz.func11) (fun gr gX gU=>(iRun_no _ _ S F keep l gr (hR.kp (Kp.of (U:=UU) gU)) hS3 hF3 (hl3.bh (fN 3) gU) (by omega) fP c hc).mono ?_)
  rintro e w3 ⟨rfl,cC⟩
  skip
  refine ⟨_,rfl,cC,fun kh _ bb3=>wV rfl ?_⟩
  (repeat first|refine wN ?_|refine wP rfl ?_|refine fY rfl ?_|refine gw rfl ?_|refine wO rfl rfl ?_)
  refine VS.bD rfl (bne_y hcn) ?_
  (repeat first|refine wN ?_|refine wP rfl ?_|refine fY rfl ?_|refine gw rfl ?_|refine wO rfl rfl ?_)
  refine VO.call rfl rfl (fk Tryz.func9) (fun mZ pR qx=>(oC mZ).mono ?_)
  rintro e w4 ⟨rfl,gT⟩
  skip
  refine ⟨_,rfl,gT,fun oQ _ AJ=>wV rfl ?_⟩
  (repeat first|refine wN ?_|refine wP rfl ?_|refine fY rfl ?_|refine gw rfl ?_|refine wO rfl rfl ?_)
  refine VS.ret (EK _ _) rfl rfl (fun wz kz bz=> ?_)
  exact ⟨rfl,bz⟩
 | true=>
 have hf:=C0 fP
 have xV:=hf.k0
 have BM:=hf.k1
 have hN12:N≤12:=by have:=hf.len;omega
 obtain ⟨kn,rfl⟩:∃ kn:Nat,keep=(kn:Int):=⟨keep.toNat,by omega⟩
 have hM:=C1 hR hS3 hF3 hl3 hf (by omega)
 have hul24:=(C2 (kn:=kn) hM).1.len
 have sA:=F2 S.q F.q kn (ed l)
 have hsz:=led_sz (kn:=kn) hM
 refine VO.call rfl rfl (fk Tryz.func11) (fun gr gX gU=>((Lb _ _ S F (kn:Int) kn l gr (hR.kp (Kp.of (U:=UU) gU)) hS3 hF3 (hl3.bh (fN 3) gU) hf (by omega) rfl).mono (fun o w2 h=>And.intro h gU.size)).mono ?_)
 rintro e w3 ⟨⟨r3,u3,rfl,l3,cC⟩,xz⟩
 obtain ⟨pr,cr,pu,cu,rfl,rfl⟩:=l3.form
 refine ⟨_,rfl,cC,fun kh _ bb3=>wV rfl ?_⟩
 (repeat first|refine wN ?_|refine wP rfl ?_|refine fY rfl ?_|refine gw rfl ?_|refine wO rfl rfl ?_)
 obtain ⟨x,hx⟩:∃ x,pA S.q F.q kn (ed l)=x:=⟨_,rfl⟩
 rw [hx] at l3 sA hsz ⊢
 refine VS.bt rfl (bne_n (by rw [sA.rln,hN];unfold ed;simp)) ?_
 (repeat first|refine wN ?_|refine wP rfl ?_|refine fY rfl ?_|refine gw rfl ?_|refine wO rfl rfl ?_)
 refine VS.Ke (fun w=>cf Tryz.prog w 217) (fun _=>rfl) (fun _=>rfl) (fun _=>aj.refl _) (fun W β k4 b4 en=> ?_)
 have kk3:aF (Hx Tryz.prog w 217).K w3 W:=k4
 have vC:=(l3.kpF (Ax w 217) kk3 kk3.xZ).inI hsz
 have gj:=(en.own 2 _ _ rfl).cls
 have FA:=(en.own 5 _ _ rfl).cls
 obtain ⟨b2,hb2'⟩:∃ b,b=β 2:=⟨_,rfl⟩
 obtain ⟨b5,hb5'⟩:∃ b,b=β 5:=⟨_,rfl⟩
 refine ⟨[(1,.val (.slice uq N uc)),(2,.val (.pointer (some ⟨β 2,0,none⟩))),(5,.val (.pointer (some ⟨β 5,0,none⟩))),(7,.val (.int .i64 0))],⟨⟨_,_,rfl,rfl,rfl⟩,⟨_,_,rfl,rfl,rfl⟩,⟨_,_,rfl,rfl,rfl⟩,⟨_,_,rfl,rfl,rfl⟩,trivial⟩,?_⟩
 rw [←hb2'] at gj ⊢
 rw [←hb5'] at FA ⊢
 obtain ⟨us,nh⟩:∃ us,(pH x).2=us:=⟨_,rfl⟩
 obtain ⟨rs,hrs⟩:∃ rs,(pH x).1=rs:=⟨_,rfl⟩
 have eu:x.1.length=N:=by rw [sA.rln,hN];unfold ed;simp
 obtain ⟨n,hn⟩:∃ n,n=x.2.length:=⟨_,rfl⟩
 rw [eu,←hn] at vC FA
 have Db:us.length=n:=by rw [←nh,hn];exact List.length_map _
 have qX:rs.length=N:=by rw [←hrs,←eu];exact List.length_map _
 have hLU:=vC.2
 have hLR:=vC.1
 rw [nh] at hLU
 rw [hrs] at hLR
 have hn24:n≤24:=by
  rw [hn,←hx]
  show (gi S.q F.q kn (ed l)).uses.length≤24
  have h2:=(C2 (kn:=kn) hM).2
  have h3:(ed l).length=N:=by rw [hN];unfold ed;simp
  omega
 have hOld:AA kn (rs,us):=by rw [←nh,←hrs];exact H3 sA (by unfold ed;rw [List.length_map];omega)
 have hl3:=hl3.bh (fN 3) b4
 have yP:(ed l).length=N:=by rw [hN];unfold ed;simp
 have hhu:∀ e∈us,∃ (a b:Nat) (y:Rat),e.1=(a:Int)∧e.2.1=(b:Int)∧e.2.2.q=y∧0 < y∧a < b∧b≤a + kn∧b < N:=fun e he=>by rw [←nh] at he;have:=con_use sA he;rwa [yP] at this
 refine VS.loop (J:=fun m L M w'=>∃ (z:Nat),z≤n∧m=n - z∧L=[(1,.val (.slice uq N uc)),(2,.val (.pointer (some ⟨b2,0,none⟩))),(5,.val (.pointer (some ⟨b5,0,none⟩))),(7,.val (.int .i64 (z:Int)))]∧M=[]) n ⟨_,_,?_,?_,?_,?_,⟨0,by omega,rfl,rfl,rfl⟩⟩ ?_
 ·(repeat first|exact trivial|refine ⟨rfl,?_⟩)
 ·(repeat first|exact trivial|refine ⟨rfl,?_⟩)
 ·rfl
 ·(repeat first|exact trivial|refine ⟨aG.lit rfl,?_⟩|refine ⟨aG.vals _,?_⟩)
 rintro m L M w9 ⟨z,hz,rfl,rfl,rfl⟩
 (repeat first|refine wN ?_|refine wP rfl ?_|refine aa rfl ?_|refine ab rfl ?_|refine wO rfl rfl ?_)
 refine VO.read rfl [.slice pu n cu] rfl (lB FA 1 _ ⟨[],rfl⟩) (wV rfl ?_)
 (repeat first|refine wN ?_|refine wP rfl ?_|refine aa rfl ?_|refine ab rfl ?_|refine wO rfl rfl ?_)
 by_cases hlt:z < n
 ·obtain ⟨e,he⟩:∃ e,us[z]? =some e:=⟨_,List.getElem?_eq_getElem (by omega)⟩
  obtain ⟨a',b',y',hea,heb,hec,u1,u2,u3,u4⟩:=hhu e (List.mem_of_getElem? he)
  obtain ⟨b,off,ic,ma,hc,⟨_,rfl,⟨ap,ac,ar,ad,rfl,oe⟩,uQ⟩⟩:=hLU.at he
  have hpp':=ma
  subst ma
  rw [hea,heb] at hc
  obtain ⟨sg,jm⟩:∃ sg,dJ e.2.2.q 0=sg:=⟨_,rfl⟩
  have hsp:¬ sg≤0:=by
   have:=(kW jm).2.2.2.1 (by rw [hec];exact u1)
   omega
  refine VS.bD rfl (decide_eq_true (Int.ofNat_lt.2 hlt)) ?_
  (repeat first|refine wN ?_|refine wP rfl ?_|refine aa rfl ?_|refine ab rfl ?_|refine wO rfl rfl ?_)
  refine VO.read rfl [.slice (some ⟨b,off,none⟩) n cu] rfl (lB FA 1 _ ⟨[],rfl⟩) (wV rfl ?_)
  (repeat first|refine wN ?_|refine wP rfl ?_|refine aa rfl ?_|refine ab rfl ?_|refine wO rfl rfl ?_)
  refine VO.cond rfl ⟨by omega,by omega⟩ ?_
  refine wV rfl ?_
  (repeat first|refine wN ?_|refine wP rfl ?_|refine aa rfl ?_|refine ab rfl ?_|refine wO rfl rfl ?_)
  refine VO.read rfl [.int .i64 (a':Int),.int .i64 (b':Int),.bool e.2.2.1,.slice ap e.2.2.2.1.length ac,.bool e.2.2.2.2.1,.slice ar e.2.2.2.2.2.length ad] rfl (ck hc 0 _ ⟨[],rfl⟩) (wV rfl ?_)
  (repeat first|refine wN ?_|refine wP rfl ?_|refine aa rfl ?_|refine ab rfl ?_|refine wO rfl rfl ?_)
  refine VO.call rfl rfl (fk Tryz.func13) (fun dB gp et=>(bR _ e.2.2.q 82 dB ((oe.kp (Kp.of (U:=UU) et)).o9 uQ) (by omega) sg jm).mono ?_)
  rintro e w2 ⟨rfl,bl⟩
  skip
  refine ⟨_,rfl,bl,fun fX _ bb2=>wV rfl ?_⟩
  (repeat first|refine wN ?_|refine wP rfl ?_|refine aa rfl ?_|refine ab rfl ?_|refine wO rfl rfl ?_)
  refine VO.fix 59 rfl (congrArg (fun b=>AV.val (.bool b)) (decide_eq_false hsp)) ?_
  (repeat first|refine wN ?_|refine wP rfl ?_|refine aa rfl ?_|refine ab rfl ?_|refine wO rfl rfl ?_)
  refine VO.fix 64 rfl (congrArg (fun b=>AV.val (.bool b)) (decide_eq_false (show ¬ (a':Int) < 0 by omega))) ?_
  (repeat first|refine wN ?_|refine wP rfl ?_|refine aa rfl ?_|refine ab rfl ?_|refine wO rfl rfl ?_)
  refine VO.fix 71 rfl (congrArg (fun b=>AV.val (.bool b)) (decide_eq_false (show ¬ (b':Int)≤(a':Int) by omega))) ?_
  (repeat first|refine wN ?_|refine wP rfl ?_|refine aa rfl ?_|refine ab rfl ?_|refine wO rfl rfl ?_)
  refine VO.fix 76 rfl (congrArg (fun z=>AV.val (.int .i64 z)) (show IntKind.i64.wrap ((b':Int) - (a':Int))=((b' - a':Nat):Int) by rw [IntKind.wrap_i64];omega)) ?_
  (repeat first|refine wN ?_|refine wP rfl ?_|refine aa rfl ?_|refine ab rfl ?_|refine wO rfl rfl ?_)
  refine VO.read rfl [.int .i64 (kn:Int)] rfl (lB gj 8 _ ⟨[],rfl⟩) (wV rfl ?_)
  (repeat first|refine wN ?_|refine wP rfl ?_|refine aa rfl ?_|refine ab rfl ?_|refine wO rfl rfl ?_)
  refine VO.fix 81 rfl (congrArg (fun b=>AV.val (.bool b)) (decide_eq_false (show ¬ ((b' - a':Nat):Int) > (kn:Int) by omega))) ?_
  (repeat first|refine wN ?_|refine wP rfl ?_|refine aa rfl ?_|refine ab rfl ?_|refine wO rfl rfl ?_)
  refine VS.bt rfl (decide_eq_false (show ¬ (b':Int)≥(N:Int) by omega)) ?_
  (repeat first|refine wN ?_|refine wP rfl ?_|refine aa rfl ?_|refine ab rfl ?_|refine wO rfl rfl ?_)
  by_cases kC:z=0
  ·refine VO.fix 90 rfl (congrArg (fun b=>AV.val (.bool b)) (decide_eq_false (show ¬ (z:Int) > 0 by omega))) ?_
   (repeat first|refine wN ?_|refine wP rfl ?_|refine aa rfl ?_|refine ab rfl ?_|refine wO rfl rfl ?_)
   refine VS.back (n - (z + 1)) (by omega) ⟨_,_,?_,?_,?_,?_,⟨z + 1,by omega,rfl,rfl,rfl⟩⟩
   ·refine ⟨rfl,rfl,rfl,?_,trivial⟩
    rw [←bW (i:=z) (by omega)];rfl
   ·(repeat first|exact trivial|refine ⟨rfl,?_⟩)
   ·rfl
   ·(repeat first|exact trivial|refine ⟨aG.lit rfl,?_⟩|refine ⟨aG.vals _,?_⟩)
  ·refine VO.fix 90 rfl (congrArg (fun b=>AV.val (.bool b)) (decide_eq_true (show (z:Int) > 0 by omega))) ?_
   (repeat first|refine wN ?_|refine wP rfl ?_|refine aa rfl ?_|refine ab rfl ?_|refine wO rfl rfl ?_)
   obtain ⟨e0,he0⟩:∃ e,us[z - 1]? =some e:=⟨_,List.getElem?_eq_getElem (by omega)⟩
   obtain ⟨a0,b0,y0,hea0,heb0,-⟩:=hhu e0 (List.mem_of_getElem? he0)
   obtain ⟨bb0,off0,cs0,hpp0,hc0,⟨_,rfl,⟨ap0,ac0,ar0,ad0,rfl,hraw0⟩,hfew0⟩⟩:=hLU.at he0
   cases hpp0
   rw [hea0,heb0] at hc0
   have hsrt:b0 < b'∨(b0=b'∧a0 < a'):=Lc sA (z:=z - 1) (by rw [nh];exact he0) (by rw [nh,show z - 1 + 1=z by omega];exact he) hea0 heb0 hea heb
   refine VO.read rfl [.slice (some ⟨b,off,none⟩) n cu] rfl (lB FA 1 _ ⟨[],rfl⟩) (wV rfl ?_)
   (repeat first|refine wN ?_|refine wP rfl ?_|refine aa rfl ?_|refine ab rfl ?_|refine wO rfl rfl ?_)
   refine VO.fix 94 rfl (congrArg (fun z=>AV.val (.int .i64 z)) (show IntKind.i64.wrap ((z:Int) - 1)=((z - 1:Nat):Int) by rw [IntKind.wrap_i64];omega)) ?_
   (repeat first|refine wN ?_|refine wP rfl ?_|refine aa rfl ?_|refine ab rfl ?_|refine wO rfl rfl ?_)
   refine VO.cond rfl ⟨by omega,by omega⟩ ?_
   refine wV rfl ?_
   (repeat first|refine wN ?_|refine wP rfl ?_|refine aa rfl ?_|refine ab rfl ?_|refine wO rfl rfl ?_)
   refine VO.read rfl [.int .i64 (b0:Int)] rfl (ck hc0 1 _ ⟨_,rfl⟩) (wV rfl ?_)
   (repeat first|refine wN ?_|refine wP rfl ?_|refine aa rfl ?_|refine ab rfl ?_|refine wO rfl rfl ?_)
   refine VO.fix 101 rfl (congrArg (fun b=>AV.val (.bool b)) (decide_eq_false (show ¬ (b0:Int) > (b':Int) by omega))) ?_
   (repeat first|refine wN ?_|refine wP rfl ?_|refine aa rfl ?_|refine ab rfl ?_|refine wO rfl rfl ?_)
   refine VO.read rfl [.slice (some ⟨b,off,none⟩) n cu] rfl (lB FA 1 _ ⟨[],rfl⟩) (wV rfl ?_)
   (repeat first|refine wN ?_|refine wP rfl ?_|refine aa rfl ?_|refine ab rfl ?_|refine wO rfl rfl ?_)
   refine VO.fix 105 rfl (congrArg (fun z=>AV.val (.int .i64 z)) (show IntKind.i64.wrap ((z:Int) - 1)=((z - 1:Nat):Int) by rw [IntKind.wrap_i64];omega)) ?_
   (repeat first|refine wN ?_|refine wP rfl ?_|refine aa rfl ?_|refine ab rfl ?_|refine wO rfl rfl ?_)
   refine VO.cond rfl ⟨by omega,by omega⟩ ?_
   refine wV rfl ?_
   (repeat first|refine wN ?_|refine wP rfl ?_|refine aa rfl ?_|refine ab rfl ?_|refine wO rfl rfl ?_)
   refine VO.read rfl [.int .i64 (b0:Int)] rfl (ck hc0 1 _ ⟨_,rfl⟩) (wV rfl ?_)
   (repeat first|refine wN ?_|refine wP rfl ?_|refine aa rfl ?_|refine ab rfl ?_|refine wO rfl rfl ?_)
   by_cases xS:b0=b'
   ·refine VO.fix 112 rfl (congrArg (fun b=>AV.val (.bool b)) (decide_eq_true (show (b0:Int)=(b':Int) by omega))) ?_
    (repeat first|refine wN ?_|refine wP rfl ?_|refine aa rfl ?_|refine ab rfl ?_|refine wO rfl rfl ?_)
    refine VO.read rfl [.slice (some ⟨b,off,none⟩) n cu] rfl (lB FA 1 _ ⟨[],rfl⟩) (wV rfl ?_)
    (repeat first|refine wN ?_|refine wP rfl ?_|refine aa rfl ?_|refine ab rfl ?_|refine wO rfl rfl ?_)
    refine VO.fix 116 rfl (congrArg (fun z=>AV.val (.int .i64 z)) (show IntKind.i64.wrap ((z:Int) - 1)=((z - 1:Nat):Int) by rw [IntKind.wrap_i64];omega)) ?_
    (repeat first|refine wN ?_|refine wP rfl ?_|refine aa rfl ?_|refine ab rfl ?_|refine wO rfl rfl ?_)
    refine VO.cond rfl ⟨by omega,by omega⟩ ?_
    refine wV rfl ?_
    (repeat first|refine wN ?_|refine wP rfl ?_|refine aa rfl ?_|refine ab rfl ?_|refine wO rfl rfl ?_)
    refine VO.read rfl [.int .i64 (a0:Int)] rfl (ck hc0 0 _ ⟨_,rfl⟩) (wV rfl ?_)
    (repeat first|refine wN ?_|refine wP rfl ?_|refine aa rfl ?_|refine ab rfl ?_|refine wO rfl rfl ?_)
    refine VS.bt rfl (decide_eq_false (show ¬ (a0:Int)≥(a':Int) by omega)) ?_
    (repeat first|refine wN ?_|refine wP rfl ?_|refine aa rfl ?_|refine ab rfl ?_|refine wO rfl rfl ?_)
    refine VS.back (n - (z + 1)) (by omega) ⟨_,_,?_,?_,?_,?_,⟨z + 1,by omega,rfl,rfl,rfl⟩⟩
    ·refine ⟨rfl,rfl,rfl,?_,trivial⟩
     rw [←bW (i:=z) (by omega)];rfl
    ·(repeat first|exact trivial|refine ⟨rfl,?_⟩)
    ·rfl
    ·(repeat first|exact trivial|refine ⟨aG.lit rfl,?_⟩|refine ⟨aG.vals _,?_⟩)
   ·refine VO.fix 112 rfl (congrArg (fun b=>AV.val (.bool b)) (decide_eq_false (show ¬ (b0:Int)=(b':Int) by omega))) ?_
    (repeat first|refine wN ?_|refine wP rfl ?_|refine aa rfl ?_|refine ab rfl ?_|refine wO rfl rfl ?_)
    refine VS.back (n - (z + 1)) (by omega) ⟨_,_,?_,?_,?_,?_,⟨z + 1,by omega,rfl,rfl,rfl⟩⟩
    ·refine ⟨rfl,rfl,rfl,?_,trivial⟩
     rw [←bW (i:=z) (by omega)];rfl
    ·(repeat first|exact trivial|refine ⟨rfl,?_⟩)
    ·rfl
    ·(repeat first|exact trivial|refine ⟨aG.lit rfl,?_⟩|refine ⟨aG.vals _,?_⟩)
 ·refine VS.bt rfl (decide_eq_false (fun e=>hlt (Int.ofNat_lt.1 e))) ?_
  (repeat first|refine wN ?_|refine wP rfl ?_|refine aa rfl ?_|refine ab rfl ?_|refine wO rfl rfl ?_)
  refine VS.loop (J:=fun m L M w'=>∃ (z:Nat),z≤N∧m=N - z∧L=[(1,.val (.slice uq N uc)),(2,.val (.pointer (some ⟨b2,0,none⟩))),(5,.val (.pointer (some ⟨b5,0,none⟩))),(9,.val (.int .i64 (z:Int)))]∧M=[]) N ⟨_,_,?_,?_,?_,?_,⟨0,by omega,rfl,rfl,rfl⟩⟩ ?_
  ·(repeat first|exact trivial|refine ⟨rfl,?_⟩)
  ·(repeat first|exact trivial|refine ⟨rfl,?_⟩)
  ·rfl
  ·(repeat first|exact trivial|refine ⟨aG.lit rfl,?_⟩|refine ⟨aG.vals _,?_⟩)
  rintro m L M w8 ⟨z,hz,rfl,rfl,rfl⟩
  (repeat first|refine wN ?_|refine wP rfl ?_|refine aa rfl ?_|refine ab rfl ?_|refine wO rfl rfl ?_)
  by_cases hlt:z < N
  ·obtain ⟨R,hRz⟩:∃ R,rs[z]? =some R:=⟨_,List.getElem?_eq_getElem (by omega)⟩
   obtain ⟨y,hy,eZ⟩:=con_row sA (z:=z) (R:=R) (by rw [hrs];exact hRz)
   rw [nh] at eZ
   obtain ⟨rb,ro,rcs,hrp,hrc,⟨_,_,_,_,_,_,_,rfl,⟨⟨z0p,z0c,z0r,z0d,rfl,g0⟩,f0⟩,⟨⟨z1p,z1c,z1r,z1d,rfl,g1⟩,f1⟩,⟨⟨z2p,z2c,z2r,z2d,rfl,g2⟩,f2⟩,⟨⟨z3p,z3c,z3r,z3d,rfl,g3⟩,f3⟩,⟨⟨z4p,z4c,z4r,z4d,rfl,g4⟩,f4⟩,⟨⟨z5p,z5c,z5r,z5d,rfl,g5⟩,f5⟩,⟨⟨z6p,z6c,z6r,z6d,rfl,g6⟩,f6⟩⟩⟩:=hLR.at hRz
   obtain ⟨lb,lo,lcs,hlp,hlc,_,_,rfl,⟨y1p,y1c,y1r,y1d,rfl,hy1⟩,⟨y2p,y2c,y2r,y2d,rfl,hy2⟩,hyf1,hyf2⟩:=hl3.at hy
   subst hrp
   subst hlp
   obtain ⟨jB,jC⟩:∃ sg,dJ R.bk.q 0=sg:=⟨_,rfl⟩
   obtain ⟨sg5,hsg5⟩:∃ sg,dJ R.aZ.q 0=sg:=⟨_,rfl⟩
   obtain ⟨sg6,hsg6⟩:∃ sg,dJ R.closing.q 0=sg:=⟨_,rfl⟩
   obtain ⟨sg0,jj⟩:∃ sg,dJ R.eI.q 0=sg:=⟨_,rfl⟩
   obtain ⟨sg3,hsg3⟩:∃ sg,dJ R.used.q 0=sg:=⟨_,rfl⟩
   obtain ⟨cm,eT⟩:∃ cm,dJ R.bT.q R.eI.q=cm:=⟨_,rfl⟩
   have wL:=(kW jC).2.1 eZ.d0
   have hn5:=(kW hsg5).2.1 eZ.e0
   have hn6:=(kW hsg6).2.1 eZ.c0
   have lC:=(kW jj).2.1 eZ.l0
   have hn3:=(kW hsg3).2.1 eZ.u0
   have hncm:=(kW eT).1 eZ.lim
   refine VS.bD rfl (decide_eq_true (Int.ofNat_lt.2 hlt)) ?_
   (repeat first|refine wN ?_|refine wP rfl ?_|refine aa rfl ?_|refine ab rfl ?_|refine wO rfl rfl ?_)
   refine VO.read rfl [.slice (some ⟨rb,ro,none⟩) N cr] rfl (lB FA 0 _ ⟨_,rfl⟩) (wV rfl ?_)
   (repeat first|refine wN ?_|refine wP rfl ?_|refine aa rfl ?_|refine ab rfl ?_|refine wO rfl rfl ?_)
   refine VO.cond rfl ⟨by omega,by omega⟩ ?_
   refine wV rfl ?_
   (repeat first|refine wN ?_|refine wP rfl ?_|refine aa rfl ?_|refine ab rfl ?_|refine wO rfl rfl ?_)
   refine VO.read rfl [.bool R.eI.1,.slice z0p R.eI.2.1.length z0c,.bool R.eI.2.2.1,.slice z0r R.eI.2.2.2.length z0d,.bool R.allowed.1,.slice z1p R.allowed.2.1.length z1c,.bool R.allowed.2.2.1,.slice z1r R.allowed.2.2.2.length z1d,.bool R.bk.1,.slice z2p R.bk.2.1.length z2c,.bool R.bk.2.2.1,.slice z2r R.bk.2.2.2.length z2d,.bool R.used.1,.slice z3p R.used.2.1.length z3c,.bool R.used.2.2.1,.slice z3r R.used.2.2.2.length z3d,.bool R.bT.1,.slice z4p R.bT.2.1.length z4c,.bool R.bT.2.2.1,.slice z4r R.bT.2.2.2.length z4d,.bool R.aZ.1,.slice z5p R.aZ.2.1.length z5c,.bool R.aZ.2.2.1,.slice z5r R.aZ.2.2.2.length z5d,.bool R.closing.1,.slice z6p R.closing.2.1.length z6c,.bool R.closing.2.2.1,.slice z6r R.closing.2.2.2.length z6d] rfl (ck hrc 0 _ ⟨[],rfl⟩) (wV rfl ?_)
   (repeat first|refine wN ?_|refine wP rfl ?_|refine aa rfl ?_|refine ab rfl ?_|refine wO rfl rfl ?_)
   refine VO.read rfl [.slice (some ⟨rb,ro,none⟩) N cr,.slice pu n cu] rfl (lB FA 0 _ ⟨_,rfl⟩) (wV rfl ?_)
   (repeat first|refine wN ?_|refine wP rfl ?_|refine aa rfl ?_|refine ab rfl ?_|refine wO rfl rfl ?_)
   refine VO.call rfl rfl (fk Tryz.func15) (fun j9 mw kj=>(iOf_any _ _ (rs,us) (z:Int) 82 j9 (Az.bh (X:=(rs,us)) ⟨hLR,hLU⟩ kj) (by omega) (by show us.length≤1000;omega)).mono ?_)
   rintro e w5 ⟨r5,rfl,q5,gg⟩
   obtain ⟨s5,p5,n5,c5,t5,y5,m5,d5,rfl⟩:=q5.form
   refine ⟨_,rfl,gg,fun na _ wX=>wV rfl ?_⟩
   (repeat first|refine wN ?_|refine wP rfl ?_|refine aa rfl ?_|refine ab rfl ?_|refine wO rfl rfl ?_)
   have hof:dQ (Ir (z:Int) us) 10000:=by
    have h1:=EM (f:=fun e=>decide (e.1=(z:Int))) (z:=us.length) hLU.rws (Nat.le_refl _)
    rw [List.take_length,Db] at h1
    refine h1.mono (Nat.le_trans (oX hn24) (by decide))
   refine VO.fG rfl (fk Tryz.func14) (fun pz β uh tn ho=>(qC _ [Ir (z:Int) us,R.aZ.q,R.closing.q] 10000 pz (dV (ho.own 144 (.base (List.mem_singleton.2 rfl)) _ _ rfl) [] (vs:=[[.bool s5,.slice p5 n5 c5,.bool t5,.slice y5 m5 d5],[.bool R.aZ.1,.slice z5p R.aZ.2.1.length z5c,.bool R.aZ.2.2.1,.slice z5r R.aZ.2.2.2.length z5d],[.bool R.closing.1,.slice z6p R.closing.2.1.length z6c,.bool R.closing.2.2.1,.slice z6r R.closing.2.2.2.length z6d]]) (by rfl) rfl (bX.cons (q5.ki hof (by (with_reducible (repeat (first | assumption | exact kU _ | exact kR _ | exact Kp.of (U:=UU) (by assumption) | exact aF.of (by assumption) | refine kT ?_ (by assumption)))))) (bX.cons (((g5.kp (Kp.of (U:=UU) tn)).o9 f5).up (by omega)) (bX.cons (((g6.kp (Kp.of (U:=UU) tn)).o9 f6).up (by omega)) bX.nil))) (Nat.le_of_ble_eq_true rfl) (by decide)) (by unfold cW jP;simp)).mono ?_)
   rintro o w6 ⟨r6,rfl,q6,hs6,mO⟩
   rw [show gV [Ir (z:Int) us,R.aZ.q,R.closing.q]=R.bk.q from eZ.sum] at q6 hs6
   obtain ⟨s6,p6,n6,c6,t6,y6,m6,d6,rfl⟩:=q6.form
   refine ⟨_,rfl,mO,fun tp _ Cp=>wV rfl ?_⟩
   (repeat first|refine wN ?_|refine wP rfl ?_|refine aa rfl ?_|refine ab rfl ?_|refine wO rfl rfl ?_)
   refine VO.call rfl rfl (fk Tryz.func12) (fun yd Df xP=>(dK _ _ R.bk.q R.bk.q (cW 10000 3) 82 yd (q6.ki hs6) ((g2.kp (Kp.of (U:=UU) xP)).o9 f2) (by decide) (by omega) 0 (gC rfl)).mono ?_)
   rintro e w7 ⟨rfl,uI⟩
   skip
   refine ⟨_,rfl,uI,fun yZ _ bb7=>wV rfl ?_⟩
   (repeat first|refine wN ?_|refine wP rfl ?_|refine aa rfl ?_|refine ab rfl ?_|refine wO rfl rfl ?_)
   refine VO.call rfl rfl (fk Tryz.func13) (fun uK Ei za=>(bR _ R.bk.q 82 uK ((g2.kp (Kp.of (U:=UU) za)).o9 f2) (by omega) jB jC).mono ?_)
   rintro e w8 ⟨rfl,qM⟩
   skip
   refine ⟨_,rfl,qM,fun vz _ Ii=>wV rfl ?_⟩
   (repeat first|refine wN ?_|refine wP rfl ?_|refine aa rfl ?_|refine ab rfl ?_|refine wO rfl rfl ?_)
   refine VO.fix 156 rfl (congrArg (fun b=>AV.val (.bool b)) (decide_eq_false wL)) ?_
   (repeat first|refine wN ?_|refine wP rfl ?_|refine aa rfl ?_|refine ab rfl ?_|refine wO rfl rfl ?_)
   refine VO.call rfl rfl (fk Tryz.func13) (fun wa9 ka9 ba9=>(bR _ R.aZ.q 82 wa9 ((g5.kp (Kp.of (U:=UU) ba9)).o9 f5) (by omega) sg5 hsg5).mono ?_)
   rintro e w9 ⟨rfl,E6⟩
   skip
   refine ⟨_,rfl,E6,fun AK _ bb9=>wV rfl ?_⟩
   (repeat first|refine wN ?_|refine wP rfl ?_|refine aa rfl ?_|refine ab rfl ?_|refine wO rfl rfl ?_)
   refine VO.fix 162 rfl (congrArg (fun b=>AV.val (.bool b)) (decide_eq_false hn5)) ?_
   (repeat first|refine wN ?_|refine wP rfl ?_|refine aa rfl ?_|refine ab rfl ?_|refine wO rfl rfl ?_)
   refine VO.call rfl rfl (fk Tryz.func13) (fun tq xc Ej=>(bR _ R.closing.q 82 tq ((g6.kp (Kp.of (U:=UU) Ej)).o9 f6) (by omega) sg6 hsg6).mono ?_)
   rintro e w10 ⟨rfl,tr⟩
   skip
   refine ⟨_,rfl,tr,fun iD _ GZ=>wV rfl ?_⟩
   (repeat first|refine wN ?_|refine wP rfl ?_|refine aa rfl ?_|refine ab rfl ?_|refine wO rfl rfl ?_)
   refine VO.fix 168 rfl (congrArg (fun b=>AV.val (.bool b)) (decide_eq_false hn6)) ?_
   (repeat first|refine wN ?_|refine wP rfl ?_|refine aa rfl ?_|refine ab rfl ?_|refine wO rfl rfl ?_)
   refine VO.call rfl rfl (fk Tryz.func13) (fun xd zX G0=>(bR _ R.eI.q 82 xd ((g0.kp (Kp.of (U:=UU) G0)).o9 f0) (by omega) sg0 jj).mono ?_)
   rintro e w11 ⟨rfl,xe⟩
   skip
   refine ⟨_,rfl,xe,fun ll _ JW=>wV rfl ?_⟩
   (repeat first|refine wN ?_|refine wP rfl ?_|refine aa rfl ?_|refine ab rfl ?_|refine wO rfl rfl ?_)
   refine VO.fix 174 rfl (congrArg (fun b=>AV.val (.bool b)) (decide_eq_false lC)) ?_
   (repeat first|refine wN ?_|refine wP rfl ?_|refine aa rfl ?_|refine ab rfl ?_|refine wO rfl rfl ?_)
   refine VO.call rfl rfl (fk Tryz.func13) (fun xf zY G1=>(bR _ R.used.q 82 xf ((g3.kp (Kp.of (U:=UU) G1)).o9 f3) (by omega) sg3 hsg3).mono ?_)
   rintro e w12 ⟨rfl,xg⟩
   skip
   refine ⟨_,rfl,xg,fun ot _ JX=>wV rfl ?_⟩
   (repeat first|refine wN ?_|refine wP rfl ?_|refine aa rfl ?_|refine ab rfl ?_|refine wO rfl rfl ?_)
   refine VS.bt rfl (decide_eq_false hn3) ?_
   (repeat first|refine wN ?_|refine wP rfl ?_|refine aa rfl ?_|refine ab rfl ?_|refine wO rfl rfl ?_)
   refine VO.call rfl rfl (fk Tryz.func16) (fun Ek ka13 G2=>(dw _ _ R.allowed.q R.bk.q 82 82 Ek ((g1.kp (Kp.of (U:=UU) G2)).o9 f1) ((g2.kp (Kp.of (U:=UU) G2)).o9 f2) (by omega) (by omega)).mono ?_)
   rintro e nv ⟨r13,rfl,q13,El⟩
   obtain ⟨s13,p13,n13,c13,t13,y13,m13,d13,rfl⟩:=q13.form
   refine ⟨_,rfl,El,fun xh _ bb13=>wV rfl ?_⟩
   (repeat first|refine wN ?_|refine wP rfl ?_|refine aa rfl ?_|refine ab rfl ?_|refine wO rfl rfl ?_)
   rw [show R.allowed.q + R.bk.q=y.1.q from eZ.net] at q13
   refine VO.cond rfl ⟨by omega,by omega⟩ ?_
   refine wV rfl ?_
   (repeat first|refine wN ?_|refine wP rfl ?_|refine aa rfl ?_|refine ab rfl ?_|refine wO rfl rfl ?_)
   refine VO.read rfl [.bool y.1.1,.slice y1p y.1.2.1.length y1c,.bool y.1.2.2.1,.slice y1r y.1.2.2.2.length y1d] rfl (ck hlc 0 _ ⟨_,rfl⟩) (wV rfl ?_)
   (repeat first|refine wN ?_|refine wP rfl ?_|refine aa rfl ?_|refine ab rfl ?_|refine wO rfl rfl ?_)
   have hys:dQ y.1.q 3:=(hy1.o9 hyf1).sz (by decide)
   refine VO.call rfl rfl (fk Tryz.func12) (fun JY G5 ba14=>(dK _ _ y.1.q y.1.q 3 3 JY (q13.ki hys) ((hy1.kp (by (with_reducible (repeat (first | assumption | exact kU _ | exact kR _ | exact Kp.of (U:=UU) (by assumption) | exact aF.of (by assumption) | refine kT ?_ (by assumption)))))).o9 hyf1) (by omega) (by omega) 0 (gC rfl)).mono ?_)
   rintro e Em ⟨rfl,JZ⟩
   skip
   refine ⟨_,rfl,JZ,fun G6 _ bb14=>wV rfl ?_⟩
   (repeat first|refine wN ?_|refine wP rfl ?_|refine aa rfl ?_|refine ab rfl ?_|refine wO rfl rfl ?_)
   refine VO.call rfl rfl (fk Tryz.func16) (fun J4 G7 G8=>(dw _ _ R.allowed.q R.used.q 82 82 J4 ((g1.kp (Kp.of (U:=UU) G8)).o9 f1) ((g3.kp (Kp.of (U:=UU) G8)).o9 f3) (by omega) (by omega)).mono ?_)
   rintro e w15 ⟨r15,rfl,q15,J5⟩
   obtain ⟨s15,p15,n15,c15,t15,y15,m15,d15,rfl⟩:=q15.form
   refine ⟨_,rfl,J5,fun kb15 _ bb15=>wV rfl ?_⟩
   (repeat first|refine wN ?_|refine wP rfl ?_|refine aa rfl ?_|refine ab rfl ?_|refine wO rfl rfl ?_)
   rw [show R.allowed.q + R.used.q=R.bT.q from eZ.ded] at q15
   have C6:dQ R.bT.q 82:=(g4.o9 f4).sz (by decide)
   refine VO.call rfl rfl (fk Tryz.func12) (fun wa16 ka16 ba16=>(dK _ _ R.bT.q R.bT.q 82 82 wa16 (q15.ki C6) ((g4.kp (Kp.of (U:=UU) ba16)).o9 f4) (by omega) (by omega) 0 (gC rfl)).mono ?_)
   rintro e w16 ⟨rfl,hb16⟩
   skip
   refine ⟨_,rfl,hb16,fun kb16 _ bb16=>wV rfl ?_⟩
   (repeat first|refine wN ?_|refine wP rfl ?_|refine aa rfl ?_|refine ab rfl ?_|refine wO rfl rfl ?_)
   refine VO.call rfl rfl (fk Tryz.func12) (fun wa17 ka17 ba17=>(dK _ _ R.bT.q R.eI.q 82 82 wa17 ((g4.kp (Kp.of (U:=UU) ba17)).o9 f4) ((g0.kp (Kp.of (U:=UU) ba17)).o9 f0) (by omega) (by omega) cm eT).mono ?_)
   rintro e w17 ⟨rfl,hb17⟩
   skip
   refine ⟨_,rfl,hb17,fun kb17 _ bb17=>wV rfl ?_⟩
   (repeat first|refine wN ?_|refine wP rfl ?_|refine aa rfl ?_|refine ab rfl ?_|refine wO rfl rfl ?_)
   refine VS.bt rfl (decide_eq_false hncm) ?_
   (repeat first|refine wN ?_|refine wP rfl ?_|refine aa rfl ?_|refine ab rfl ?_|refine wO rfl rfl ?_)
   refine VS.back (N - (z + 1)) (by omega) ⟨_,_,?_,?_,?_,?_,⟨z + 1,by omega,rfl,rfl,rfl⟩⟩
   ·refine ⟨rfl,rfl,rfl,?_,trivial⟩
    rw [←bW (i:=z) (by omega)];rfl
   ·(repeat first|exact trivial|refine ⟨rfl,?_⟩)
   ·rfl
   ·(repeat first|exact trivial|refine ⟨aG.lit rfl,?_⟩|refine ⟨aG.vals _,?_⟩)
  ·refine VS.bt rfl (decide_eq_false (fun e=>hlt (Int.ofNat_lt.1 e))) ?_
   (repeat first|refine wN ?_|refine wP rfl ?_|refine aa rfl ?_|refine ab rfl ?_|refine wO rfl rfl ?_)
   refine VO.read rfl [.bool S.1,.slice sp S.2.1.length sc,.bool S.2.2.1,.slice sr S.2.2.2.length sd,.bool F.1,.slice fp F.2.1.length fc,.bool F.2.2.1,.slice fr F.2.2.2.length fd,.int .i64 (kn:Int)] rfl (lB gj 0 _ ⟨_,rfl⟩) (wV rfl ?_)
   (repeat first|refine wN ?_|refine wP rfl ?_|refine aa rfl ?_|refine ab rfl ?_|refine wO rfl rfl ?_)
   refine VO.read rfl [.slice pr N cr,.slice pu n cu] rfl (lB FA 0 _ ⟨_,rfl⟩) (wV rfl ?_)
   (repeat first|refine wN ?_|refine wP rfl ?_|refine aa rfl ?_|refine ab rfl ?_|refine wO rfl rfl ?_)
   refine VO.call rfl rfl (fk Tryz.func17) (fun wa20 ka20 ba20=>(EN _ _ _ S F kn (rs,us) 82 wa20 (hR.kp (Kp.of (U:=UU) (aj.aJ b4 ba20))) (Az.bh (X:=(rs,us)) ⟨hLR,hLU⟩ ba20) (by omega) (by show us.length≤1000;omega) (by omega) hOld).mono ?_)
   rintro e CJ ⟨rfl,hb20⟩
   skip
   refine ⟨_,rfl,hb20,fun kb20 _ bb20=>wV rfl ?_⟩
   (repeat first|refine wN ?_|refine wP rfl ?_|refine aa rfl ?_|refine ab rfl ?_|refine wO rfl rfl ?_)
   refine VO.call rfl rfl (fk Tryz.func9) (fun wa21 ka21 ba21=>(oC wa21).mono ?_)
   rintro e w21 ⟨rfl,hb21⟩
   skip
   refine ⟨_,rfl,hb21,fun kb21 _ bb21=>wV rfl ?_⟩
   (repeat first|refine wN ?_|refine wP rfl ?_|refine aa rfl ?_|refine ab rfl ?_|refine wO rfl rfl ?_)
   refine VS.ret (aL _ _) rfl rfl (fun wz kz bz=> ?_)
   exact ⟨rfl,aj.aJ b4 bz⟩
end Go.Proofs.YtabalinjfgcfeaaGreat
namespace Go.Proofs.YtabalinjfgcfeaaGreat
open Go.RowKit
abbrev xH:Nat:=9223372036854775807
section
variable {H:Type} {enc:TypeId×Value→H} {w:World} {held:Bool}
theorem qK (cs:List Value) (o n m:Nat) (h:m=o + n):cs.drop o=(cs.drop o).take n++cs.drop m:=by
 subst h
 have:=(List.take_append_drop n (cs.drop o)).symm
 rw [List.drop_drop] at this
 exact this
theorem Ld {s t:Bool} {p r:Option Addr} {n c m d:Nat} {xs ys:List Nat} (h:eQ w (.agg #[.bool s,.slice p n c,.bool t,.slice r m d]) s xs t ys):n=xs.length∧m=ys.length∧xs.length≤xH∧ys.length≤xH:=by
 obtain ⟨p',c',r',d',hv,h1,h2⟩:=h
 simp only [Value.agg.injEq,Array.mk.injEq,List.cons.injEq,and_true,Value.slice.injEq,Value.bool.injEq] at hv
 obtain ⟨_,⟨rfl,rfl,rfl⟩,_,rfl,rfl,rfl⟩:=hv
 obtain ⟨_,_,_,iC,_⟩:=h1
 obtain ⟨_,_,_,ju,_⟩:=h2
 obtain ⟨_,_,_,a1,a2,_⟩:=iC.u32
 obtain ⟨_,_,_,b1,b2,_⟩:=ju.u32
 exact ⟨rfl,rfl,by unfold xH;omega,by unfold xH;omega⟩
theorem vH {fuel:Nat} {cs:List Value} {x:DataW H×List MemPlace} (h:DataW.trod enc Tryz.prog w 0 (fun _=>true) held fuel 26 cs=some x):∃ a:RR,Rw xH w cs a:=by
 obtain ⟨s,p,n,c,t,r,m,d,xs,ys,rfl,h0⟩:=Kb h
 obtain ⟨rfl,rfl,h1,h2⟩:=Ld h0
 exact ⟨(s,xs,t,ys),⟨p,c,r,d,rfl,h0⟩,h1,h2⟩
set_option maxRecDepth 100000 in
theorem H5 {fuel:Nat} {cs:List Value} {x:DataW H×List MemPlace} (h:DataW.trod enc Tryz.prog w 0 (fun _=>true) held fuel 51 cs=some x):∃ e:RR×RR,xQ xH w cs e:=by
 obtain ⟨zs,n,rfl,rfl,hl,jH,hf⟩:=DataW.trod_struct Tryz.underlying51 h
 have xM:cs.length=8:=by
  have c:Tryz.prog.cellsOf 51=8:=by kernel_rfl
  rw [c] at hl;exact hl
 have hy2:zs.length=2:=jH
 obtain ⟨z0,kC⟩:∃ z,zs[0]? =some z:=⟨_,List.getElem?_eq_getElem (by omega)⟩
 obtain ⟨z1,kZ⟩:∃ z,zs[1]? =some z:=⟨_,List.getElem?_eq_getElem (by omega)⟩
 have C3:Tryz.prog.cellsOf 26=4:=by kernel_rfl
 have h0:=hf 0 _ rfl
 rw [kC] at h0
 change DataW.trod enc Tryz.prog w 0 (fun _=>true) held n 26 ((cs.drop 0).take (Tryz.prog.cellsOf 26))=some z0 at h0
 rw [C3] at h0
 have h1:=hf 1 _ rfl
 rw [kZ] at h1
 change DataW.trod enc Tryz.prog w 0 (fun _=>true) held n 26 ((cs.drop 4).take (Tryz.prog.cellsOf 26))=some z1 at h1
 rw [C3] at h1
 obtain ⟨x0,gK⟩:=vH h0
 obtain ⟨x1,Ig⟩:=vH h1
 have a0:cs.drop 0=(cs.drop 0).take 4++cs.drop 4:=qK cs 0 4 4 rfl
 have a1:cs.drop 4=(cs.drop 4).take 4:=by rw [List.take_of_length_le];rw [List.length_drop];omega
 have ecs:cs=(cs.drop 0).take 4++((cs.drop 4).take 4):=by
  have a:cs=cs.drop 0:=rfl
  rw [a0] at a
  rw [a1] at a
  exact a
 rw [ecs]
 exact ⟨(x0,x1),_,_,rfl,gK.1,Ig.1,gK.2,Ig.2⟩
set_option maxRecDepth 100000 in
theorem xI {v:Value} {d:DataW H} {ps:List MemPlace} {r:_root_.Go.Reach} {b0:Nat} (hv:Value.okWide Tryz.prog w r b0 29 v) (h:DataW.Trod enc Tryz.prog w 0 (fun _=>true) held 29 v d ps):∃ es:List (RR×RR),eD (xQ xH) 8 w v es:=
 open_sl Tryz.underlying29 (by kernel_rfl) (by omega) (fun h=>H5 h) hv h
def RulC (w:World) (cs:List Value) (a b:RR) (keep:Int):Prop:=∃ x y,cs=x++(y++[.int .i64 keep])∧tA w x a∧tA w y b
set_option maxRecDepth 100000 in
theorem Le {fuel:Nat} {cs:List Value} {x:DataW H×List MemPlace} (h:DataW.trod enc Tryz.prog w 0 (fun _=>true) held fuel 28 cs=some x):∃ (a b:RR) (keep:Int),RulC w cs a b keep∧(Lit.int .i64 keep).wf=true:=by
 obtain ⟨zs,n,rfl,rfl,hl,jH,hf⟩:=DataW.trod_struct Tryz.underlying28 h
 have xM:cs.length=9:=by
  have c:Tryz.prog.cellsOf 28=9:=by kernel_rfl
  rw [c] at hl;exact hl
 have hy2:zs.length=3:=jH
 obtain ⟨z0,kC⟩:∃ z,zs[0]? =some z:=⟨_,List.getElem?_eq_getElem (by omega)⟩
 obtain ⟨z1,kZ⟩:∃ z,zs[1]? =some z:=⟨_,List.getElem?_eq_getElem (by omega)⟩
 obtain ⟨z2,lJ⟩:∃ z,zs[2]? =some z:=⟨_,List.getElem?_eq_getElem (by omega)⟩
 have c_int:Tryz.prog.cellsOf 3=1:=by kernel_rfl
 have C3:Tryz.prog.cellsOf 26=4:=by kernel_rfl
 have h0:=hf 0 _ rfl
 rw [kC] at h0
 change DataW.trod enc Tryz.prog w 0 (fun _=>true) held n 26 ((cs.drop 0).take (Tryz.prog.cellsOf 26))=some z0 at h0
 rw [C3] at h0
 have h1:=hf 1 _ rfl
 rw [kZ] at h1
 change DataW.trod enc Tryz.prog w 0 (fun _=>true) held n 26 ((cs.drop 4).take (Tryz.prog.cellsOf 26))=some z1 at h1
 rw [C3] at h1
 have h2:=hf 2 _ rfl
 rw [lJ] at h2
 change DataW.trod enc Tryz.prog w 0 (fun _=>true) held n 3 ((cs.drop 8).take (Tryz.prog.cellsOf 3))=some z2 at h2
 rw [c_int] at h2
 obtain ⟨x0,gK⟩:=vH h0
 obtain ⟨x1,Ig⟩:=vH h1
 obtain ⟨k2,e2,_,hk2⟩:=DataW.trod_int Tryz.underlying3 h2
 have a0:cs.drop 0=(cs.drop 0).take 4++cs.drop 4:=qK cs 0 4 4 rfl
 have a1:cs.drop 4=(cs.drop 4).take 4++cs.drop 8:=qK cs 4 4 8 rfl
 have a2:cs.drop 8=(cs.drop 8).take 1:=by rw [List.take_of_length_le];rw [List.length_drop];omega
 have ecs:cs=(cs.drop 0).take 4++((cs.drop 4).take 4++((cs.drop 8).take 1)):=by
  have a:cs=cs.drop 0:=rfl
  rw [a0] at a
  rw [a1] at a
  rw [a2] at a
  exact a
 rw [ecs]
 exact ⟨x0,x1,k2,⟨_,_,by rw [e2],gK.1,Ig.1⟩,hk2⟩
set_option maxRecDepth 100000 in
theorem AE {v:Value} {d:DataW H} {ps:List MemPlace} {r:_root_.Go.Reach} {b0:Nat} (hv:Value.okWide Tryz.prog w r b0 28 v) (h:DataW.Trod enc Tryz.prog w 0 (fun _=>true) held 28 v d ps):∃ (a b:RR) (keep:Int),jk w v a b keep:=by
 obtain ⟨cs,rfl,_⟩:=WideShapes.okWide_struct Tryz.underlying28 hv
 obtain ⟨fuel,hf⟩:=h
 obtain ⟨a,b,keep,⟨_,_,he,⟨p,c,r,d,rfl,h1⟩,⟨p',c',r',d',rfl,h2⟩⟩,_⟩:=Le hf
 have De:cs.toList=[.bool a.1,.slice p a.2.1.length c,.bool a.2.2.1,.slice r a.2.2.2.length d,.bool b.1,.slice p' b.2.1.length c',.bool b.2.2.1,.slice r' b.2.2.2.length d',.int .i64 keep]:=by simpa [Value.cells] using he
 have hc:cs=#[.bool a.1,.slice p a.2.1.length c,.bool a.2.2.1,.slice r a.2.2.2.length d,.bool b.1,.slice p' b.2.1.length c',.bool b.2.2.1,.slice r' b.2.2.2.length d',.int .i64 keep]:=by rw [←Array.toArray_toList (xs:=cs),De]
 exact ⟨a,b,keep,p,c,r,d,p',c',r',d',by rw [hc],h1,h2⟩
end
end Go.Proofs.YtabalinjfgcfeaaGreat
