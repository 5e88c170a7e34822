/- BD of the proof,laid behind one another. -/
import Derived.Test.YtabalinjfgcfeaaGreatKInterestMore5
set_option linter.all false
set_option maxRecDepth 4000
namespace Go.Proofs.YtabalinjfgcfeaaGreat
open Go.RowKit
attribute [local irreducible] aA VS
theorem Bn {w:World} {b off i sz:Nat} {cs:List Value} (hc:∀ (j:Nat) (u:Value),cs[j]? =some u→w.cell? ⟨b,off + i * sz + j,none⟩=some u):∀ (j:Nat) (u:Value),cs[j]? =some u→w.cell? ((⟨b,off + ((i:Nat):Int).toNat * sz,none⟩:Addr).add j)=some u:=by
 intro j u hj
 rw [Addr.add_mid,Int.toNat_natCast]
 exact hc j u hj
theorem cls_at {w:World} {b:Nat} {t:TypeId} {cs:List Value} (h:aV w b t cs.toArray):∀ (j:Nat) (u:Value),cs[j]? =some u→w.cell? ((⟨b,0,none⟩:Addr).add j)=some u:=by
 intro j u hj
 rw [Addr.add_mid,Nat.zero_add]
 exact h.cell (by simpa using hj)
theorem FY (v:Value) (l:List (RR×RR)) (k:Nat) (w:World) (hl:er (ya k) 8 w v l) (hk:k≤100000) (hlen:l.length≤100000):
  Calls Tryz.prog 69 #[v,.func (.func 37) #[] #[]] w fun o w'=>∃ i:Int,o=.returned (.int .i64 i)∧decide (i≥0)= !(l.all qa)∧aj w w':=by
 obtain ⟨p,c,rfl,fH,fy⟩:=hl.form
 obtain ⟨N,hN⟩:∃ N,N=l.length:=⟨_,rfl⟩
 rw [←hN] at hl fH hlen
 rw [←hN]
 refine aw (C:=bP Tryz.prog w _) (args:=[_,_]) Tryz.func69 rfl Tryz.ntmps69 (Nat.le_of_ble_eq_true rfl) ?_
 (repeat first|refine wN ?_|refine wP rfl ?_|refine aa rfl ?_|refine ab rfl ?_|refine wO rfl rfl ?_)
 refine VS.loop (J:=fun m L M w'=>∃ z:Nat,z≤N∧m=N - z∧(l.take z).all qa=true∧L=[(0,.val (.slice p N c)),(1,.val (.func (.func 37) #[] #[])),(7,.val (.int .i64 (N:Int))),(8,.val (.int .i64 (z:Int)))]∧M=[]) N ⟨_,_,?_,?_,?_,?_,⟨0,by omega,rfl,rfl,rfl,rfl⟩⟩ ?_
 ·(repeat first|exact trivial|refine ⟨rfl,?_⟩)
 ·(repeat first|exact trivial|refine ⟨rfl,?_⟩)
 ·rfl
 ·(repeat first|exact trivial|refine ⟨ba.lit rfl,?_⟩|refine ⟨ba.vals _,?_⟩)
 rintro m L M w1 ⟨z,hz,rfl,mI,rfl,rfl⟩
 (repeat first|refine wN ?_|refine wP rfl ?_|refine aa rfl ?_|refine ab rfl ?_|refine wO rfl rfl ?_)
 by_cases hlt:z < N
 ·refine VS.bG rfl (decide_eq_true (Int.ofNat_lt.2 hlt)) ?_
  obtain ⟨x,hx⟩:∃ x,l[z]? =some x:=⟨_,List.getElem?_eq_getElem (by omega)⟩
  obtain ⟨b,off,cs,nx,hcs,hE⟩:=hl.at hx
  subst nx
  obtain ⟨c1,c2,rfl,⟨p1,k1,r1,d1,rfl,e1⟩,⟨p2,k2,r2,d2,rfl,e2⟩,hf1,hf2⟩:=id hE
  (repeat first|refine wN ?_|refine wP rfl ?_|refine aa rfl ?_|refine ab rfl ?_|refine wO rfl rfl ?_)
  refine VO.cond rfl ⟨by omega,by omega⟩ ?_
  refine wV rfl ?_
  (repeat first|refine wN ?_|refine wP rfl ?_|refine aa rfl ?_|refine ab rfl ?_|refine wO rfl rfl ?_)
  refine VO.read rfl [.bool x.1.1,.slice p1 x.1.2.1.length k1,.bool x.1.2.2.1,.slice r1 x.1.2.2.2.length d1,.bool x.2.1,.slice p2 x.2.2.1.length k2,.bool x.2.2.2.1,.slice r2 x.2.2.2.2.length d2] rfl (Bn hcs) (wV rfl ?_)
  (repeat first|refine wN ?_|refine wP rfl ?_|refine aa rfl ?_|refine ab rfl ?_|refine wO rfl rfl ?_)
  cases hxo:qa x with
  | false=>
    refine VO.call rfl rfl (fk Tryz.func37) (fun cB eu dt=>(zT _ _ x k cB rfl ((fE k).kp hE (Kp.of (U:=UU) dt)) hk false hxo).mono ?_)
    rintro e w1 ⟨rfl,aU⟩
    skip
    refine ⟨_,rfl,aU,fun fq _ bb1=>wV rfl ?_⟩
    (repeat first|refine wN ?_|refine wP rfl ?_|refine aa rfl ?_|refine ab rfl ?_|refine wO rfl rfl ?_)
    refine VS.ret (aJ _ _) rfl rfl (fun wz kz bz=> ?_)
    refine ⟨_,rfl,?_,bz⟩
    have:l.all qa=false:=by
     rw [List.all_eq_false]
     exact ⟨x,List.mem_of_getElem? hx,by rw [hxo];simp⟩
    rw [this]
    exact decide_eq_true (by omega)
  | true=>
    refine VO.call rfl rfl (fk Tryz.func37) (fun cB eu dt=>(zT _ _ x k cB rfl ((fE k).kp hE (Kp.of (U:=UU) dt)) hk true hxo).mono ?_)
    rintro e w1 ⟨rfl,aU⟩
    skip
    refine ⟨_,rfl,aU,fun fq _ bb1=>wV rfl ?_⟩
    (repeat first|refine wN ?_|refine wP rfl ?_|refine aa rfl ?_|refine ab rfl ?_|refine wO rfl rfl ?_)
    refine VS.back (N - (z + 1)) (by omega) ⟨_,_,?_,?_,?_,?_,⟨z + 1,by omega,rfl,?_,rfl,rfl⟩⟩
    ·refine ⟨rfl,rfl,rfl,?_,trivial⟩
     rw [←dK (i:=z) (by omega)];rfl
    ·(repeat first|exact trivial|refine ⟨rfl,?_⟩)
    ·rfl
    ·(repeat first|exact trivial|refine ⟨ba.lit rfl,?_⟩|refine ⟨ba.vals _,?_⟩)
    ·rw [gg hx,List.all_append,mI]
     show (true && (qa x && true))=true
     rw [hxo];rfl
 ·refine VS.bK rfl (decide_eq_false (fun e=>hlt (Int.ofNat_lt.1 e))) ?_
  (repeat first|refine wN ?_|refine wP rfl ?_|refine aa rfl ?_|refine ab rfl ?_|refine wO rfl rfl ?_)
  refine VS.ret (aJ _ _) rfl rfl (fun wz kz bz=> ?_)
  refine ⟨_,rfl,?_,bz⟩
  have:l.take z=l:=List.take_of_length_le (by omega)
  rw [this] at mI
  rw [mI];rfl
theorem nt (v:Value) (l:List (RR×RR)) (k:Nat) (w:World) (hl:er (ya k) 8 w v l) (hk:k≤100000) (hlen:l.length≤100000) (b:Bool) (hb:l.all qa=b):
  Calls Tryz.prog 36 #[v,.func (.func 37) #[] #[]] w fun o w'=>o=.returned (.bool !b)∧aj w w':=by
 obtain ⟨p,c,rfl,fH,fy⟩:=hl.form
 refine aw (C:=bP Tryz.prog w _) (args:=[_,_]) Tryz.func36 rfl Tryz.ntmps36 (Nat.le_of_ble_eq_true rfl) ?_
 (repeat first|refine wN ?_|refine wP rfl ?_|refine aa rfl ?_|refine ab rfl ?_|refine wO rfl rfl ?_)
 refine VO.call rfl rfl (fk Tryz.func69) (fun cB eu dt=>(FY _ l k cB (hl.bk (fE k) dt) hk hlen).mono ?_)
 rintro e w1 ⟨i,rfl,hi,aU⟩
 skip
 refine ⟨_,rfl,aU,fun fq _ bb1=>wV rfl ?_⟩
 (repeat first|refine wN ?_|refine wP rfl ?_|refine aa rfl ?_|refine ab rfl ?_|refine wO rfl rfl ?_)
 refine VS.ret (aJ _ _) rfl rfl (fun wz kz bz=> ?_)
 refine ⟨?_,bz⟩
 rw [←hb,←hi];rfl
theorem pK (v:Value) (a b:RR) (keep:Int) (k:Nat) (w:World) (h:jr w v a b keep) (ha:a.mC k) (hb:b.mC k) (hk:k≤100000) (x:Bool) (hx:js a b keep=x):
 Calls Tryz.prog 35 #[v] w fun o w'=>o=.returned (.bool x)∧aj w w':=hx▸FV v a b keep k w h ha hb hk
theorem ML (v u:Value) (a b:RR) (keep:Int) (l:List (RR×RR)) (k:Nat) (w:World) (hR:jr w v a b keep) (ha:a.mC k) (hb:b.mC k) (hl:er (ya k) 8 w u l) (hk:k≤100000) (hlen:l.length≤100000) (hno:(js a b keep && l.all qa)=false):
  Calls Tryz.prog 11 #[v,u] w fun o w'=>o=.returned (.tuple #[.agg #[.slice none 0 0,.slice none 0 0],.int .i64 2])∧aj w w':=by
 obtain ⟨pa,ca,ra,da,pb,cb,rb',db,rfl,ha1,aU⟩:=hR
 obtain ⟨pu,cu,rfl,fH,fy⟩:=hl.form
 have hR:jr w (.agg #[.bool a.1,.slice pa a.2.1.length ca,.bool a.2.2.1,.slice ra a.2.2.2.length da,.bool b.1,.slice pb b.2.1.length cb,.bool b.2.2.1,.slice rb' b.2.2.2.length db,.int .i64 keep]) a b keep:=⟨_,_,_,_,_,_,_,_,rfl,ha1,aU⟩
 refine aw (C:=bP Tryz.prog w _) (args:=[_,_]) Tryz.func11 rfl Tryz.ntmps11 (Nat.le_of_ble_eq_true rfl) ?_
 (repeat first|refine wN ?_|refine wP rfl ?_|refine aa rfl ?_|refine ab rfl ?_|refine wO rfl rfl ?_)
 cases hr:js a b keep with
 | false=>
   refine VO.call rfl rfl (fk Tryz.func35) (fun cB eu dt=>(pK _ a b keep k cB (hR.kp (Kp.of (U:=UU) dt)) ha hb hk false hr).mono ?_)
   rintro e w1 ⟨rfl,aU⟩
   skip
   refine ⟨_,rfl,aU,fun fq _ bb1=>wV rfl ?_⟩
   (repeat first|refine wN ?_|refine wP rfl ?_|refine aa rfl ?_|refine ab rfl ?_|refine wO rfl rfl ?_)
   refine VS.ret (aJ _ _) rfl rfl (fun wz kz bz=> ?_)
   exact ⟨rfl,bz⟩
 | true=>
   rw [hr] at hno
   refine VO.call rfl rfl (fk Tryz.func35) (fun cB eu dt=>(pK _ a b keep k cB (hR.kp (Kp.of (U:=UU) dt)) ha hb hk true hr).mono ?_)
   rintro e w1 ⟨rfl,aU⟩
   skip
   refine ⟨_,rfl,aU,fun fq _ bb1=>wV rfl ?_⟩
   (repeat first|refine wN ?_|refine wP rfl ?_|refine aa rfl ?_|refine ab rfl ?_|refine wO rfl rfl ?_)
   refine VO.call rfl rfl (fk Tryz.func36) (fun dR gS eW=>(nt _ l k dR (hl.bk (fE k) eW) hk hlen false hno).mono ?_)
   rintro e w2 ⟨rfl,bn⟩
   skip
   refine ⟨_,rfl,bn,fun gw _ bb2=>wV rfl ?_⟩
   (repeat first|refine wN ?_|refine wP rfl ?_|refine aa rfl ?_|refine ab rfl ?_|refine wO rfl rfl ?_)
   refine VS.ret (aJ _ _) rfl rfl (fun wz kz bz=> ?_)
   exact ⟨rfl,bz⟩
theorem JH (v u:Value) (a b:RR) (keep:Int) (l:List (RR×RR)) (k:Nat) (w:World) (hR:jr w v a b keep) (ha:a.mC k) (hb:b.mC k) (hl:er (ya k) 8 w u l) (hk:k≤100000) (hlen:l.length≤100000) (hr:js a b keep=true) (hy:l.all qa=true) (h40:l.length > 40):
  Calls Tryz.prog 11 #[v,u] w fun o w'=>o=.returned (.tuple #[.agg #[.slice none 0 0,.slice none 0 0],.int .i64 3])∧aj w w':=by
 obtain ⟨pa,ca,ra,da,pb,cb,rb',db,rfl,ha1,aU⟩:=hR
 obtain ⟨pu,cu,rfl,fH,fy⟩:=hl.form
 have hR:jr w (.agg #[.bool a.1,.slice pa a.2.1.length ca,.bool a.2.2.1,.slice ra a.2.2.2.length da,.bool b.1,.slice pb b.2.1.length cb,.bool b.2.2.1,.slice rb' b.2.2.2.length db,.int .i64 keep]) a b keep:=⟨_,_,_,_,_,_,_,_,rfl,ha1,aU⟩
 refine aw (C:=bP Tryz.prog w _) (args:=[_,_]) Tryz.func11 rfl Tryz.ntmps11 (Nat.le_of_ble_eq_true rfl) ?_
 (repeat first|refine wN ?_|refine wP rfl ?_|refine aa rfl ?_|refine ab rfl ?_|refine wO rfl rfl ?_)
 refine VO.call rfl rfl (fk Tryz.func35) (fun cB eu dt=>(pK _ a b keep k cB (hR.kp (Kp.of (U:=UU) dt)) ha hb hk true hr).mono ?_)
 rintro e w1 ⟨rfl,aU⟩
 skip
 refine ⟨_,rfl,aU,fun fq _ bb1=>wV rfl ?_⟩
 (repeat first|refine wN ?_|refine wP rfl ?_|refine aa rfl ?_|refine ab rfl ?_|refine wO rfl rfl ?_)
 refine VO.call rfl rfl (fk Tryz.func36) (fun dR gS eW=>(nt _ l k dR (hl.bk (fE k) eW) hk hlen true hy).mono ?_)
 rintro e w2 ⟨rfl,bn⟩
 skip
 refine ⟨_,rfl,bn,fun gw _ bb2=>wV rfl ?_⟩
 (repeat first|refine wN ?_|refine wP rfl ?_|refine aa rfl ?_|refine ab rfl ?_|refine wO rfl rfl ?_)
 refine VS.bG rfl (decide_eq_true (show (l.length:Int) > 40 by omega)) ?_
 (repeat first|refine wN ?_|refine wP rfl ?_|refine aa rfl ?_|refine ab rfl ?_|refine wO rfl rfl ?_)
 refine VS.ret (aJ _ _) rfl rfl (fun wz kz bz=> ?_)
 exact ⟨rfl,bz⟩
theorem SlZ.bk {α:Type} {E:World→List Value→α→Prop} {sz:Nat} (hE:mZ E sz) {t:TypeId} {w w':World} {b:Nat} {v:Value} {es:List α} (h:SlZ E sz t w b v es) (hb:aj w w'):SlZ E sz t w' b v es:=by
 obtain ⟨n,c,vs,sp,h1,h2,h3⟩:=h
 exact ⟨n,c,vs,sp,h1,h2.bk hb,h3.kp hE (Kp.of (U:=UU) hb)⟩
theorem SlE.bk {α:Type} {E:World→List Value→α→Prop} {sz:Nat} (hE:mZ E sz) {t:TypeId} {w w':World} {b:Nat} {v:Value} {es:List α} (h:SlE E sz t w b v es) (hb:aj w w'):SlE E sz t w' b v es:=by
 obtain ⟨off,n,c,pre,vs,sp,h1,h2,h3⟩:=h
 exact ⟨off,n,c,pre,vs,sp,h1,h2.bk hb,h3.kp hE (Kp.of (U:=UU) hb)⟩
theorem nA.bk {B g:Nat} {w w':World} {ad:List Nat} {s:DC} (h:nA B w g ad s) (hb:aj w w'):nA B w' g ad s:=by
 obtain ⟨had,v,r,u,hg,h⟩:=h
 refine ⟨had,v,r,u,hg.bk hb,?_⟩
 rcases h with h | ⟨rb,h1,h2,h3,h4,h5,h6⟩ | ⟨vb,rb,h1,h2,h3,h4,h5⟩ | ⟨vb,rb,ub,h1,h2,h3,h4⟩
 ·exact .inl h
 ·exact .inr (.inl ⟨rb,h1,h2,h3,h4,h5,h6.bk (aB B) hb⟩)
 ·exact .inr (.inr (.inl ⟨vb,rb,h1,h2,h3,h4.bk (aL B) hb,h5.bk (aB B) hb⟩))
 ·exact .inr (.inr (.inr ⟨vb,rb,ub,h1,h2.bk (aL B) hb,h3.bk (aB B) hb,h4.bk (dk B) hb⟩))
theorem tP (S F:Rat) (keep:Nat) (l:List (Rat×Rat)) (y:Rat×Rat):gn S F keep (l++[y])=di S F keep (gn S F keep l).rows.length (gn S F keep l) y:=by
 unfold gn
 rw [List.foldl_append];rfl
def dU (l:List (RR×RR)):List (Rat×Rat):=l.map fun e=>(e.1.q,e.2.q)
theorem tQ {l:List (RR×RR)} {z:Nat} {x:RR×RR} (hx:l[z]? =some x):dU (l.take (z + 1))=dU (l.take z)++[(x.1.q,x.2.q)]:=by
 unfold dU
 rw [gg hx,List.map_append];rfl
theorem DR {B:Nat} {w:World} {cs new:List Value} {r:aM} {x:Rat} (h:dA B w cs r) (hx:R4 B w new x):dA B w (cs.take 24++(new++cs.drop (24 + new.length))) { r with closing:=x }:=by
 obtain ⟨a,b,c,d,e,f,g,rfl,h1,h2,h3,h4,h5,h6,h7⟩:=h
 refine ⟨a,b,c,d,e,f,new,?_,h1,h2,h3,h4,h5,h6,hx⟩
 have l1:=h1.len
 have l2:=h2.len
 have l3:=h3.len
 have l4:=h4.len
 have l5:=h5.len
 have l6:=h6.len
 have l7:=h7.len
 rw [hx.len]
 have e3:a++(b++(c++(d++(e++(f++g)))))=(a++b++c++d++e++f)++g:=by simp
 have e4:(a++b++c++d++e++f).length=24:=by simp [l1,l2,l3,l4,l5,l6]
 have t1:(a++(b++(c++(d++(e++(f++g)))))).take 24=a++b++c++d++e++f:=by rw [e3,←e4,List.take_left'];rfl
 have t2:(a++(b++(c++(d++(e++(f++g)))))).drop 28=[]:=List.drop_of_length_le (by simp [l1,l2,l3,l4,l5,l6,l7])
 rw [t1,t2]
 simp
abbrev qW:TypeId:=36
abbrev RulT:TypeId:=28
theorem nA.ty {B g:Nat} {w:World} {ad:List Nat} {s:DC} (h:nA B w g ad s):∀ b∈ad,∃ t cs,aV w b t cs∧t≠RulT∧t≠qW:=by
 obtain ⟨had,v,r,u,hg,h⟩:=h
 have key:∀ {t:TypeId} {b:Nat} {cs:Array Value},aV w b t cs→(t=Runner∨t=cO∨t=dM∨t=ey)→∃ t cs,aV w b t cs∧t≠RulT∧t≠qW:=fun {t b cs} hc ht=>⟨t,cs,hc,by rcases ht with rfl | rfl | rfl | rfl <;> decide,by rcases ht with rfl | rfl | rfl | rfl <;> decide⟩
 intro b hb
 rcases h with ⟨rfl,_⟩ | ⟨rb,rfl,_,_,_,_,_,_,_,_,_,h2,_⟩ | ⟨vb,rb,rfl,_,_,⟨_,_,_,_,_,_,_,h3,_⟩,_,_,_,_,_,h2,_⟩ | ⟨vb,rb,ub,rfl,⟨_,_,_,_,_,_,_,h3,_⟩,⟨_,_,_,_,_,h2,_⟩,_,_,_,_,_,h4,_⟩
 ·rw [List.mem_singleton.1 hb];exact key hg (.inl rfl)
 ·simp only [List.mem_cons,List.not_mem_nil,or_false] at hb
  rcases hb with rfl | rfl
  ·exact key hg (.inl rfl)
  ·exact key h2 (.inr (.inr (.inl rfl)))
 ·simp only [List.mem_cons,List.not_mem_nil,or_false] at hb
  rcases hb with rfl | rfl | rfl
  ·exact key hg (.inl rfl)
  ·exact key h3 (.inr (.inl rfl))
  ·exact key h2 (.inr (.inr (.inl rfl)))
 ·simp only [List.mem_cons,List.not_mem_nil,or_false] at hb
  rcases hb with rfl | rfl | rfl | rfl
  ·exact key hg (.inl rfl)
  ·exact key h3 (.inr (.inl rfl))
  ·exact key h2 (.inr (.inr (.inl rfl)))
  ·exact key h4 (.inr (.inr (.inr rfl)))
theorem MM {B:Nat} {w:World} {vb off n c z:Nat} {pre spare:List Value} {vs:List (List Value)} {q:List Vq} {p:Vq} (hc:aV w vb cO (pre++(vs.flatten++spare)).toArray) (h:cX (cG B) 5 w n off c pre vs spare q) (hp:q[z]? =some p):
  ∃ cs,(∀ (j:Nat) (u:Value),cs[j]? =some u→w.cell? ⟨vb,off + z * 5 + j,none⟩=some u)∧cG B w cs p:=by
 obtain ⟨cs,hcs,hE⟩:=h.el.at z p hp
 refine ⟨cs,fun j u hj=>hc.cell ?_,hE⟩
 have hzl:=(List.getElem?_eq_some_iff.1 hp).1
 have Ew:=h.len
 have hle:=h.le
 have iB:pre.length=off:=h.pl.resolve_right (by omega)
 have jl:cs.length=5:=(aL B).len hE
 have hjl:=(List.getElem?_eq_some_iff.1 hj).1
 obtain ⟨hlt,hx⟩:=List.getElem?_eq_some_iff.1 hcs
 have yK:vs=vs.take z++cs::vs.drop (z + 1):=by rw [←hx,←List.drop_eq_getElem_cons hlt,List.take_append_drop]
 have hal:(vs.take z).flatten.length=z * 5:=by
  rw [cW (fun y hy=>h.el.lens (aL B) y (List.mem_of_mem_take hy)),List.length_take,Nat.min_eq_left (by omega)]
 rw [List.getElem?_toArray,List.getElem?_append_right (by omega),iB,yK,List.flatten_append,List.append_assoc,List.getElem?_append_right (by omega),hal,List.flatten_cons,List.append_assoc,show off + z * 5 + j - off - z * 5=j by omega,List.getElem?_append_left hjl]
 exact hj
theorem nB {w:World} {N:Nat} {ad:List Nat} {hd:ad.Nodup} {ha:rS (KU UU) ad w} {b off:Nat} {cs:List Value} (hb:b < w.heap.size) (hn:b∉ad) (hc:∀ (j:Nat) (u:Value),cs[j]? =some u→w.cell? ((⟨b,off,none⟩:Addr).add j)=some u):∀ (j:Nat) (u:Value),cs[j]? =some u→(JX Tryz.prog w N ad hd ha).At ((⟨b,off,none⟩:Addr).add j) u:=by
 intro j u hj w1 vA
 have h:=hc j u hj
 rw [Addr.add_mid] at h ⊢
 rw [World.cell?_of_block (w:=w) (a:=⟨b,off + j,none⟩) (vA.1.nH b hb hn)]
 exact h
theorem DT {cs new:List Value} (h:cs.length=28) (hn:new.length=4):(cs.take 24++(new++cs.drop (24 + new.length))).length=28:=by
 rw [List.length_append,List.length_append,List.length_take,List.length_drop,h,hn];rfl
structure yb (D:Nat) (M S F:Rat) (kk:Nat) (l:List (Rat×Rat)):Prop where
 el:∀ e∈l,Iz D (aD S F e.2)∧aD S F e.2≤M∧Iz D e.1∧-M≤e.1∧e.1≤M
 sz:∀ x,Iz D x→-(M + M)≤x→x≤M + M→fo x kk
def sK (B:Nat) (w:World) (r u:Value) (x:List aM×List Uq):Prop:=
 ((r=.slice none 0 0∧x.1=[])∨∃ rb,B≤rb∧SlZ (dA B) 28 dM w rb r x.1)∧((u=.slice none 0 0∧x.2=[])∨∃ ub,B≤ub∧SlZ (nK B) 6 ey w ub u x.2)
def RunJ (w:World) (B D:Nat) (M:Rat) (a b:RR) (kn:Nat) (l:List (RR×RR)) (N cu:Nat) (pu:Option Addr) (rul:List Value) (g b2 b4:Nat) (n:Nat) (L:List (Nat×Value)) (W:World):Prop:=
 ∃ (z:Nat) (ad:List Nat),z≤N∧n=N - z∧L=[(2,.pointer (some ⟨b2,0,none⟩)),(4,.pointer (some ⟨b4,0,none⟩)),(6,.pointer (some ⟨g,0,none⟩)),(27,.slice pu N cu),(28,.int .i64 (N:Int)),(29,.int .i64 (z:Int))]∧
   nA B W g ad (gn a.q b.q kn (dU (l.take z)))∧xZ D M (gn a.q b.q kn (dU (l.take z)))∧(gn a.q b.q kn (dU (l.take z))).rows.length=z∧aV W b2 RulT rul.toArray∧aV W b4 qW #[.slice none 0 0,.slice none 0 0]∧aj w W
set_option maxRecDepth 4000 in
set_option maxHeartbeats 8000000 in
theorem Ho (v u:Value) (a b:RR) (kn:Nat) (l:List (RR×RR)) (ks kk D:Nat) (M:Rat) (w:World) (hR:jr w v a b (kn:Int)) (ha:a.mC ks) (hb:b.mC ks) (hl:er (ya ks) 8 w u l) (sB:1≤ks) (yP:ks≤kk) (zG:kk≤100000) (hr:js a b (kn:Int)=true) (hy:l.all qa=true) (h40:l.length≤40) (sR:kn≤40) (hM:yb D M a.q b.q kk (dU l)):
  Calls Tryz.prog 11 #[v,u] w fun o w'=>∃ r u',o=.returned (.tuple #[.agg #[r,u'],.int .i64 0])∧sK w.heap.size w' r u' (nh a.q b.q kn (dU l))∧aj w w':=by
 obtain ⟨pa,ca,ra,da,pb,cb,rb',db,rfl,ha1,aU⟩:=hR
 obtain ⟨pu,cu,rfl,fH,fy⟩:=hl.form
 have hR:jr w (.agg #[.bool a.1,.slice pa a.2.1.length ca,.bool a.2.2.1,.slice ra a.2.2.2.length da,.bool b.1,.slice pb b.2.1.length cb,.bool b.2.2.1,.slice rb' b.2.2.2.length db,.int .i64 (kn:Int)]) a b (kn:Int):=⟨_,_,_,_,_,_,_,_,rfl,ha1,aU⟩
 have hk:ks≤100000:=by omega
 obtain ⟨N,hN⟩:∃ N,N=l.length:=⟨_,rfl⟩
 rw [←hN] at hl fH h40
 rw [←hN]
 refine aw (C:=bP Tryz.prog w _) (args:=[_,_]) Tryz.func11 rfl Tryz.ntmps11 (Nat.le_of_ble_eq_true rfl) ?_
 (repeat first|refine wN ?_|refine wP rfl ?_|refine aa rfl ?_|refine ab rfl ?_|refine wO rfl rfl ?_)
 refine VO.call rfl rfl (fk Tryz.func35) (fun cB eu dt=>(pK _ a b (kn:Int) ks cB (hR.kp (Kp.of (U:=UU) dt)) ha hb hk true hr).mono ?_)
 rintro e w1 ⟨rfl,aU⟩
 skip
 refine ⟨_,rfl,aU,fun fq _ bb1=>wV rfl ?_⟩
 (repeat first|refine wN ?_|refine wP rfl ?_|refine aa rfl ?_|refine ab rfl ?_|refine wO rfl rfl ?_)
 refine VO.call rfl rfl (fk Tryz.func36) (fun dR gS eW=>(nt _ l ks dR (hl.bk (fE ks) eW) hk (by omega) true hy).mono ?_)
 rintro e w2 ⟨rfl,bn⟩
 skip
 refine ⟨_,rfl,bn,fun gw _ bb2=>wV rfl ?_⟩
 (repeat first|refine wN ?_|refine wP rfl ?_|refine aa rfl ?_|refine ab rfl ?_|refine wO rfl rfl ?_)
 refine VS.bK rfl (decide_eq_false (show ¬ (N:Int) > 40 by omega)) ?_
 (repeat first|refine wN ?_|refine wP rfl ?_|refine aa rfl ?_|refine ab rfl ?_|refine wO rfl rfl ?_)
 refine VS.Mf (fun w=>bP Tryz.prog w 66) (fun _=>rfl) (fun _=>rfl) (fun _=>aj.refl _) (fun w9 β k9 b9 en=> ?_)
 have c2:=(en.own 2 _ _ rfl).cls
 have c4:=(en.own 4 _ _ rfl).cls
 have cg:=(en.own 26 _ _ rfl).cls
 have n2:w.heap.size≤β 2:=(en.own 2 _ _ rfl).new
 have n4:w.heap.size≤β 4:=(en.own 4 _ _ rfl).new
 have ng:w.heap.size≤β 26:=(en.own 26 _ _ rfl).new
 refine ⟨[(2,.val (.pointer (some ⟨β 2,0,none⟩))),(4,.val (.pointer (some ⟨β 4,0,none⟩))),(6,.val (.pointer (some ⟨β 26,0,none⟩))),(27,.val (.slice pu N cu)),(28,.val (.int .i64 (N:Int))),(29,.val (.int .i64 0))],⟨⟨_,_,rfl,rfl,rfl⟩,⟨_,_,rfl,rfl,rfl⟩,⟨_,_,rfl,rfl,rfl⟩,⟨_,_,rfl,rfl,rfl⟩,⟨_,_,rfl,rfl,rfl⟩,⟨_,_,rfl,rfl,rfl⟩,trivial⟩,?_⟩
 clear en
 generalize β 2=b2 at *
 generalize β 4=b4 at *
 generalize β 26=g at *
 refine VS.loopR (J:=RunJ w w.heap.size D M a b kn l N cu pu [.bool a.1,.slice pa a.2.1.length ca,.bool a.2.2.1,.slice ra a.2.2.2.length da,.bool b.1,.slice pb b.2.1.length cb,.bool b.2.2.1,.slice rb' b.2.2.2.length db,.int .i64 (kn:Int)] g b2 b4) (fun w=>bP Tryz.prog w 66) (fun _=>rfl) (fun _=>rfl) (fun _=>aj.refl _) N (fun w' k' o'=>⟨[(2,.pointer (some ⟨b2,0,none⟩)),(4,.pointer (some ⟨b4,0,none⟩)),(6,.pointer (some ⟨g,0,none⟩)),(27,.slice pu N cu),(28,.int .i64 (N:Int)),(29,.int .i64 0)],⟨rfl,rfl,rfl,rfl,rfl,rfl,trivial⟩,0,[g],by omega,rfl,rfl,⟨fun x hx=>by rw [List.mem_singleton.1 hx];exact ng,_,_,_,cg.bk o',.inl ⟨rfl,rfl,rfl,rfl,rfl,rfl,rfl⟩⟩,⟨fun p hp=>(by cases hp),Nat.le_refl _⟩,rfl,c2.bk o',c4.bk o',b9.aI o'⟩) ?_
 rintro n L W ⟨z,ad,hz,rfl,rfl,hrun,hst,sV,gU,uT,jP⟩
 (repeat first|refine wN ?_|refine wP rfl ?_|refine aa rfl ?_|refine ab rfl ?_|refine wO rfl rfl ?_)
 have hlW:=hl.bk (fE ks) jP
 by_cases hlt:z < N
 ·refine VS.bG rfl (decide_eq_true (Int.ofNat_lt.2 hlt)) ?_
  obtain ⟨x,hx⟩:∃ x,l[z]? =some x:=⟨_,List.getElem?_eq_getElem (by omega)⟩
  obtain ⟨bx,off,cs,nx,hcs,hE⟩:=hlW.at hx
  subst nx
  obtain ⟨c1,c2',rfl,⟨p1,k1,r1,d1,rfl,e1⟩,⟨p2,k2,r2,d2,rfl,e2⟩,hf1,hf2⟩:=id hE
  obtain ⟨m1,m2,m3,m4,m5⟩:=hM.el (x.1.q,x.2.q) (List.mem_map.2 ⟨x,List.mem_of_getElem? hx,rfl⟩)
  (repeat first|refine wN ?_|refine wP rfl ?_|refine aa rfl ?_|refine ab rfl ?_|refine wO rfl rfl ?_)
  refine VO.cond rfl ⟨by omega,by omega⟩ (wV rfl ?_)
  refine VO.read rfl [.bool x.1.1,.slice p1 x.1.2.1.length k1,.bool x.1.2.2.1,.slice r1 x.1.2.2.2.length d1,.bool x.2.1,.slice p2 x.2.2.1.length k2,.bool x.2.2.2.1,.slice r2 x.2.2.2.2.length d2] rfl (Bn hcs) (wV rfl ?_)
  (repeat (first | refine wN ?_ | refine wP rfl ?_ | refine wO rfl rfl ?_))
  refine VS.regionM (aJ _ _) 4 rfl rfl rfl (VO.run 80 rfl ?_)
  refine VO.read rfl [.bool a.1,.slice pa a.2.1.length ca,.bool a.2.2.1,.slice ra a.2.2.2.length da,.bool b.1,.slice pb b.2.1.length cb,.bool b.2.2.1,.slice rb' b.2.2.2.length db,.int .i64 (kn:Int)] rfl (cls_at gU) (wV rfl ?_)
  refine VO.nil ⟨_,_,_,fun w=>bP Tryz.prog w 66,rfl,rfl,fk Tryz.func39,fun _=>rfl,fun _=>rfl,fun _=>aj.refl _,fun w1 FU b1=> ?_⟩
  have aU:aj W w1:=b1
  have hY:=JG (kk:=kk) (ks:=ks) (D:=D) (M:=M) (hrun.bk aU) ((hR.kp (Kp.of (U:=UU) (jP.aI aU))).v ha hb) (e:=(x.1.q,x.2.q)) (u:=.agg #[.bool x.1.1,.slice p1 x.1.2.1.length k1,.bool x.1.2.2.1,.slice r1 x.1.2.2.2.length d1,.bool x.2.1,.slice p2 x.2.2.1.length k2,.bool x.2.2.2.1,.slice r2 x.2.2.2.2.length d2]) ⟨_,_,_,_,_,_,_,_,_,_,_,_,_,_,_,_,rfl,(e1.kp (Kp.of (U:=UU) aU)).vZ hf1,(e2.kp (Kp.of (U:=UU) aU)).vZ hf2⟩ sB yP zG m1 m2 m3 m4 m5 hM.sz hst (by omega) sR (jP.aI aU).size
  rw [sV] at hY
  refine hY.mono ?_
  rintro o w2 ⟨rfl,hbut,Mz,hrun2⟩
  have hnb:=(hrun.bk aU).ty
  have hB2:aV w2 b2 RulT [.bool a.1,.slice pa a.2.1.length ca,.bool a.2.2.1,.slice ra a.2.2.2.length da,.bool b.1,.slice pb b.2.1.length cb,.bool b.2.2.1,.slice rb' b.2.2.2.length db,.int .i64 (kn:Int)].toArray:=(hbut.nH b2 (gU.bk aU).lt (fun hm=>by obtain ⟨t,cs,h1,h2,_⟩:=hnb b2 hm;exact h2 (bo h1 (gU.bk aU)))).trans (gU.bk aU)
  have hB4:aV w2 b4 qW #[.slice none 0 0,.slice none 0 0]:=(hbut.nH b4 (uT.bk aU).lt (fun hm=>by obtain ⟨t,cs,h1,_,h2⟩:=hnb b4 hm;exact h2 (bo h1 (uT.bk aU)))).trans (uT.bk aU)
  refine ⟨_,[(2,.pointer (some ⟨b2,0,none⟩)),(4,.pointer (some ⟨b4,0,none⟩)),(6,.pointer (some ⟨g,0,none⟩)),(27,.slice (some ⟨bx,off,none⟩) N cu),(28,.int .i64 (N:Int)),(29,.int .i64 (z:Int))],rfl,⟨rfl,rfl,rfl,rfl,rfl,rfl,trivial⟩,fun p hp e=> ?_,?_⟩
  ·simp only [List.mem_cons,List.not_mem_nil,or_false] at hp
   rcases hp with rfl | rfl | rfl | rfl | rfl | rfl <;> cases e
  (repeat first|refine wN ?_|refine wP rfl ?_|refine aa rfl ?_|refine ab rfl ?_|refine wO rfl rfl ?_)
  refine VS.backR rfl (N - (z + 1)) (by omega) [(2,.pointer (some ⟨b2,0,none⟩)),(4,.pointer (some ⟨b4,0,none⟩)),(6,.pointer (some ⟨g,0,none⟩)),(27,.slice (some ⟨bx,off,none⟩) N cu),(28,.int .i64 (N:Int)),(29,.int .i64 ((z + 1:Nat):Int))] ⟨rfl,rfl,rfl,rfl,rfl,?_,trivial⟩ (fun w3 k3 b3=> ?_)
  ·rw [←dK (i:=z) (by omega)];rfl
  have cI:aj w2 w3:=b3
  obtain ⟨y1,y2⟩:=Hj (keep:=kn) hst m1 m2 m3 m4 m5
  rw [sV] at y1 y2
  refine ⟨z + 1,Mz,by omega,rfl,rfl,?_,?_,?_,hB2.bk cI,hB4.bk cI,(qJ.bk (jP.aI aU) hbut (hrun.bk aU).1).aI cI⟩
  ·rw [tQ hx,tP,sV];exact hrun2.bk cI
  ·rw [tQ hx,tP,sV];exact y1
  ·rw [tQ hx,tP,sV];exact y2
 refine VS.bK rfl (decide_eq_false (fun e=>hlt (Int.ofNat_lt.1 e))) ?_
 have hzN:z=N:=by omega
 have htk:l.take z=l:=List.take_of_length_le (by omega)
 rw [htk] at hrun hst sV
 (repeat first|refine wN ?_|refine wP rfl ?_|refine aa rfl ?_|refine ab rfl ?_|refine wO rfl rfl ?_)
 obtain ⟨had,vv,rr,uu,hg,hcase⟩:=hrun
 have nG:w.heap.size≤g:=ng
 rcases hcase with ⟨rfl,rfl,rfl,rfl,MN,uJ,Cw⟩ | ⟨rb,rfl,rfl,rfl,MN,Cw,nr,cr,sY,uM,rfl,zS,hRr⟩ | ⟨vb,rb,rfl,rfl,Cw,⟨off,nq,cq,pre,ME,MD,rfl,BB,hVr⟩,nr,cr,sY,uM,rfl,zS,hRr⟩ | ⟨vb,rb,ub,rfl,⟨off,nq,cq,pre,ME,MD,rfl,BB,hVr⟩,⟨nr,cr,sY,uM,rfl,zS,hRr⟩,nu,cu',vsu,spu,rfl,hcU,hUr⟩
 ·refine VO.read rfl [.slice none 0 0] rfl (fun j u hj=> ?_) (wV rfl ?_)
  ·match j,hj with
   | 0,hj=>cases hj;exact hg.cell rfl
   | j + 1,hj=>cases hj
  (repeat first|refine wN ?_|refine wP rfl ?_|refine aa rfl ?_|refine ab rfl ?_|refine wO rfl rfl ?_)
  refine VS.sJ (KU UU) (fun t=>Nat.beq t 22) table (fun _ _ _=>trivial) (fun w5 β5 k5 b5 en5=> ?_)
  have Ek:=hg.bk b5
  have sL:=uT.bk b5
  have JF:b4≠g:=fun e=>by subst e;exact absurd (bo sL Ek) (by decide)
  have pX:iI (KU UU) 66 [b4,g] [(qW,[.val (.slice none 0 0),.val (.slice none 0 0)]),(Runner,[.val (.slice none 0 0),.val (.slice none 0 0),.val (.slice none 0 0)])] w5:=by
   refine ⟨rfl,by simp [JF],fun j g' c' hj hc=> ?_,fun c' hc=> ?_,fun c' hc k hk=> ?_⟩
   ·match j,hj,hc with
    | 0,hj,hc=>cases hj;cases hc;exact sL
    | 1,hj,hc=>cases hj;cases hc;exact Ek
    | j + 2,hj,_=>simp at hj
   ·simp only [List.mem_cons,List.not_mem_nil,or_false] at hc
    rcases hc with rfl | rfl
    ·exact ⟨rfl,rfl⟩
    ·exact ⟨rfl,rfl⟩
   ·simp only [List.mem_cons,List.not_mem_nil,or_false] at hc
    rcases hc with rfl | rfl
    ·cases hk
    ·cases hk
  refine ⟨[b4,g],_,pX,[(4,.box 132 0),(6,.box 133 0),(44,.val (.slice none 0 0)),(45,.val (.int .i64 ((0:Nat):Int))),(46,.val (.int .i64 0))],⟨?_,?_,⟨_,rfl,rfl,fun i hi=>by cases hi⟩,⟨_,rfl,rfl,fun i hi=>by cases hi⟩,⟨_,rfl,rfl,fun i hi=>by cases hi⟩,trivial⟩,?_⟩
  ·refine ⟨_,rfl,rfl,fun i hi=> ?_⟩
   have:i=132:=by simpa [AV.ids] using hi
   subst this;exact ⟨by show 132≤132;omega,by show 132 < 2 * 66 + 2;omega⟩
  ·refine ⟨_,rfl,rfl,fun i hi=> ?_⟩
   have:i=133:=by simpa [AV.ids] using hi
   subst this;exact ⟨by show 132≤133;omega,by show 133 < 2 * 66 + 2;omega⟩
  refine VS.loop (J:=fun m L M w'=>L=[(4,.box 132 0),(6,.box 133 0),(44,.val (.slice none 0 0)),(45,.val (.int .i64 ((0:Nat):Int))),(46,.val (.int .i64 0))]∧M=[(132,(qW,[.val (.slice none 0 0),.val (.slice none 0 0)])),(133,(Runner,[.val (.slice none 0 0),.val (.slice none 0 0),.val (.slice none 0 0)]))]) 0 ⟨_,_,?_,?_,?_,?_,⟨rfl,rfl⟩⟩ ?_
  ·(repeat first|exact trivial|refine ⟨rfl,?_⟩)
  ·(repeat first|exact trivial|refine ⟨rfl,?_⟩)
  ·rfl
  ·exact ⟨.lit rfl,.lit rfl,trivial⟩
  rintro m L M w6 ⟨rfl,rfl⟩
  (repeat first|refine wN ?_|refine wP rfl ?_|refine af rfl ?_|refine ag rfl ?_|refine wO rfl rfl ?_)
  refine VS.oJ (bj _ _) rfl (fun wz βz kz oz enz=> ?_)
  have Fg:aj w wz:=qJ.bk (jP.aI b5) oz.1 (fun x hx=>by simp only [List.mem_cons,List.not_mem_nil,or_false] at hx;rcases hx with rfl | rfl <;> assumption)
  refine ⟨_,_,rfl,?_,Fg⟩
  show sK w.heap.size wz _ _ (et (gn a.q b.q kn (dU l)).q (gn a.q b.q kn (dU l)).rows,(gn a.q b.q kn (dU l)).uses)
  rw [MN,uJ,Cw]
  exact ⟨.inl ⟨rfl,rfl⟩,.inl ⟨rfl,rfl⟩⟩
 ·obtain ⟨rows,uJ⟩:∃ rows,(gn a.q b.q kn (dU l)).rows=rows:=⟨_,rfl⟩
  rw [uJ] at hRr
  have nRb:w.heap.size≤rb:=had rb (by simp)
  refine VO.read rfl [.slice none 0 0] rfl (fun j u hj=> ?_) (wV rfl ?_)
  ·match j,hj with
   | 0,hj=>cases hj;exact hg.cell rfl
   | j + 1,hj=>cases hj
  (repeat first|refine wN ?_|refine wP rfl ?_|refine aa rfl ?_|refine ab rfl ?_|refine wO rfl rfl ?_)
  refine VS.sJ (KU UU) (fun t=>Nat.beq t 22) table (fun _ _ _=>trivial) (fun w5 β5 k5 b5 en5=> ?_)
  have Ek:=hg.bk b5
  have sL:=uT.bk b5
  have yc:=zS.bk b5
  have hR5:=hRr.kp (aB w.heap.size) (Kp.of (U:=UU) b5)
  have JF:b4≠g:=fun e=>by subst e;exact absurd (bo sL Ek) (by decide)
  have h02:b4≠rb:=fun e=>by subst e;exact absurd (bo sL yc) (by decide)
  have zF:g≠rb:=fun e=>by subst e;exact absurd (bo Ek yc) (by decide)
  have pX:iI (KU UU) 66 [b4,g,rb] [(qW,[.val (.slice none 0 0),.val (.slice none 0 0)]),(Runner,[.val (.slice none 0 0),.row 134 0 nr cr,.val (.slice none 0 0)]),(dM,sY.flatten.map .val++uM.map .val)] w5:=by
   refine ⟨rfl,by simp [JF,h02,zF],fun j g' c' hj hc=> ?_,fun c' hc=> ?_,fun c' hc k hk=> ?_⟩
   ·match j,hj,hc with
    | 0,hj,hc=>cases hj;cases hc;exact sL
    | 1,hj,hc=>cases hj;cases hc;exact Ek
    | 2,hj,hc=>cases hj;cases hc;rw [←List.map_append,ah];exact yc
    | j + 3,hj,_=>simp at hj
   ·simp only [List.mem_cons,List.not_mem_nil,or_false] at hc
    rcases hc with rfl | rfl | rfl
    ·exact ⟨rfl,rfl⟩
    ·exact ⟨rfl,rfl⟩
    ·exact ⟨rfl,by rw [←List.map_append];exact aZ (hR5.all (aB _))⟩
   ·simp only [List.mem_cons,List.not_mem_nil,or_false] at hc
    rcases hc with rfl | rfl | rfl
    ·cases hk
    ·have:k=134:=by simpa [ay,AV.cL] using hk
     subst this;exact ⟨by omega,by show 134 < 2 * 66 + 3;omega⟩
    ·rw [←List.map_append,ao] at hk;cases hk
  refine ⟨[b4,g,rb],_,pX,[(4,.box 132 0),(6,.box 133 0),(44,.val (.slice none 0 0)),(45,.val (.int .i64 ((0:Nat):Int))),(46,.val (.int .i64 0))],⟨?_,?_,⟨_,rfl,rfl,fun i hi=>by cases hi⟩,⟨_,rfl,rfl,fun i hi=>by cases hi⟩,⟨_,rfl,rfl,fun i hi=>by cases hi⟩,trivial⟩,?_⟩
  ·refine ⟨_,rfl,rfl,fun i hi=> ?_⟩
   have:i=132:=by simpa [AV.ids] using hi
   subst this;exact ⟨by show 132≤132;omega,by show 132 < 2 * 66 + 3;omega⟩
  ·refine ⟨_,rfl,rfl,fun i hi=> ?_⟩
   have:i=133:=by simpa [AV.ids] using hi
   subst this;exact ⟨by show 132≤133;omega,by show 133 < 2 * 66 + 3;omega⟩
  refine VS.loop (J:=fun m L M w'=>L=[(4,.box 132 0),(6,.box 133 0),(44,.val (.slice none 0 0)),(45,.val (.int .i64 ((0:Nat):Int))),(46,.val (.int .i64 0))]∧M=[(132,(qW,[.val (.slice none 0 0),.val (.slice none 0 0)])),(133,(Runner,[.val (.slice none 0 0),.row 134 0 nr cr,.val (.slice none 0 0)])),(134,(dM,sY.flatten.map .val++uM.map .val))]∧aF (KU UU) w5 w') 0 ⟨_,_,?_,?_,?_,?_,⟨rfl,rfl,kR _⟩⟩ ?_
  ·(repeat first|exact trivial|refine ⟨rfl,?_⟩)
  ·(repeat first|exact trivial|refine ⟨rfl,?_⟩)
  ·rfl
  ·exact ⟨.lit rfl,.lit rfl,.append (.vals _) (.vals _),trivial⟩
  rintro m L M w6 ⟨rfl,rfl,kw6⟩
  (repeat first|refine wN ?_|refine wP rfl ?_|refine af rfl ?_|refine ag rfl ?_|refine wO rfl rfl ?_)
  refine VS.oJ (bj _ _) rfl (fun wz βz kz oz enz=> ?_)
  have Fg:aj w wz:=qJ.bk (jP.aI b5) oz.1 (fun x hx=>by simp only [List.mem_cons,List.not_mem_nil,or_false] at hx;rcases hx with rfl | rfl | rfl <;> assumption)
  obtain ⟨o5,o6⟩:=ea (enz.own 134 _ _ rfl) 2 rb rfl rfl
  replace o5:βz 134=rb:=o5
  rw [List.map_append,ah] at o6
  refine ⟨_,_,rfl,?_,Fg⟩
  show sK w.heap.size wz _ _ (et (gn a.q b.q kn (dU l)).q (gn a.q b.q kn (dU l)).rows,(gn a.q b.q kn (dU l)).uses)
  rw [MN,uJ,Cw]
  exact ⟨.inr ⟨rb,nRb,_,_,_,_,congrArg (fun g=>Value.slice (some ⟨g,0,none⟩) nr cr) o5,o6,(hR5.a.kp (aB _) (by (with_reducible (repeat (first | assumption | exact kU _ | exact kR _ | exact Kp.of (U:=UU) (by assumption) | exact aF.of (by assumption) | refine kT ?_ (by assumption)))))).o βz⟩,.inl ⟨rfl,rfl⟩⟩
 ·obtain ⟨q,MN⟩:∃ q,(gn a.q b.q kn (dU l)).q=q:=⟨_,rfl⟩
  obtain ⟨rows,uJ⟩:∃ rows,(gn a.q b.q kn (dU l)).rows=rows:=⟨_,rfl⟩
  rw [uJ] at hRr
  rw [MN] at hVr
  have nRb:w.heap.size≤rb:=had rb (by simp)
  have hv4:vb≠b4:=fun e=>by subst e;exact absurd (bo BB uT) (by decide)
  have hvg:vb≠g:=fun e=>by subst e;exact absurd (bo BB hg) (by decide)
  have hvr:vb≠rb:=fun e=>by subst e;exact absurd (bo BB zS) (by decide)
  refine VO.read rfl [.slice (some ⟨vb,off,none⟩) nq cq] rfl (fun j u hj=> ?_) (wV rfl ?_)
  ·match j,hj with
   | 0,hj=>cases hj;exact hg.cell rfl
   | j + 1,hj=>cases hj
  (repeat first|refine wN ?_|refine wP rfl ?_|refine aa rfl ?_|refine ab rfl ?_|refine wO rfl rfl ?_)
  refine VS.sJ (KU UU) (fun t=>Nat.beq t 22) table (fun _ _ _=>trivial) (fun w5 β5 k5 b5 en5=> ?_)
  have Ek:=hg.bk b5
  have sL:=uT.bk b5
  have yc:=zS.bk b5
  have hR5:=hRr.kp (aB w.heap.size) (Kp.of (U:=UU) b5)
  have MO:=BB.bk b5
  have MP:=hVr.kp (aL w.heap.size) (Kp.of (U:=UU) b5)
  have JF:b4≠g:=fun e=>by subst e;exact absurd (bo sL Ek) (by decide)
  have h02:b4≠rb:=fun e=>by subst e;exact absurd (bo sL yc) (by decide)
  have zF:g≠rb:=fun e=>by subst e;exact absurd (bo Ek yc) (by decide)
  have pX:iI (KU UU) 66 [b4,g,rb] [(qW,[.val (.slice none 0 0),.val (.slice none 0 0)]),(Runner,[.val (.slice (some ⟨vb,off,none⟩) nq cq),.row 134 0 nr cr,.val (.slice none 0 0)]),(dM,sY.flatten.map .val++uM.map .val)] w5:=by
   refine ⟨rfl,by simp [JF,h02,zF],fun j g' c' hj hc=> ?_,fun c' hc=> ?_,fun c' hc k hk=> ?_⟩
   ·match j,hj,hc with
    | 0,hj,hc=>cases hj;cases hc;exact sL
    | 1,hj,hc=>cases hj;cases hc;exact Ek
    | 2,hj,hc=>cases hj;cases hc;rw [←List.map_append,ah];exact yc
    | j + 3,hj,_=>simp at hj
   ·simp only [List.mem_cons,List.not_mem_nil,or_false] at hc
    rcases hc with rfl | rfl | rfl
    ·exact ⟨rfl,rfl⟩
    ·exact ⟨rfl,rfl⟩
    ·exact ⟨rfl,by rw [←List.map_append];exact aZ (hR5.all (aB _))⟩
   ·simp only [List.mem_cons,List.not_mem_nil,or_false] at hc
    rcases hc with rfl | rfl | rfl
    ·cases hk
    ·have:k=134:=by simpa [ay,AV.cL] using hk
     subst this;exact ⟨by omega,by show 134 < 2 * 66 + 3;omega⟩
    ·rw [←List.map_append,ao] at hk;cases hk
  refine ⟨[b4,g,rb],_,pX,[(4,.box 132 0),(6,.box 133 0),(44,.val (.slice (some ⟨vb,off,none⟩) nq cq)),(45,.val (.int .i64 ((nq:Nat):Int))),(46,.val (.int .i64 0))],⟨?_,?_,⟨_,rfl,rfl,fun i hi=>by cases hi⟩,⟨_,rfl,rfl,fun i hi=>by cases hi⟩,⟨_,rfl,rfl,fun i hi=>by cases hi⟩,trivial⟩,?_⟩
  ·refine ⟨_,rfl,rfl,fun i hi=> ?_⟩
   have:i=132:=by simpa [AV.ids] using hi
   subst this;exact ⟨by show 132≤132;omega,by show 132 < 2 * 66 + 3;omega⟩
  ·refine ⟨_,rfl,rfl,fun i hi=> ?_⟩
   have:i=133:=by simpa [AV.ids] using hi
   subst this;exact ⟨by show 132≤133;omega,by show 133 < 2 * 66 + 3;omega⟩
  refine VS.loop (J:=fun m L M w'=>∃ (z:Nat) (vs:List (List Value)) (mz:List aM),z≤nq∧m=nq - z∧L=[(4,.box 132 0),(6,.box 133 0),(44,.val (.slice (some ⟨vb,off,none⟩) nq cq)),(45,.val (.int .i64 ((nq:Nat):Int))),(46,.val (.int .i64 (z:Int)))]∧M=[(132,(qW,[.val (.slice none 0 0),.val (.slice none 0 0)])),(133,(Runner,[.val (.slice (some ⟨vb,off,none⟩) nq cq),.row 134 0 nr cr,.val (.slice none 0 0)])),(134,(dM,vs.flatten.map .val++uM.map .val))]∧nM (dA w.heap.size) 28 w' nr cr vs (uM.map .val) mz∧et (q.drop z) mz=et q rows∧aF (KU UU) w5 w') nq ⟨_,_,?_,?_,?_,?_,⟨0,sY,rows,Nat.zero_le _,rfl,rfl,rfl,hR5.a,rfl,kR _⟩⟩ ?_
  ·(repeat first|exact trivial|refine ⟨rfl,?_⟩)
  ·(repeat first|exact trivial|refine ⟨rfl,?_⟩)
  ·rfl
  ·exact ⟨.lit rfl,.lit rfl,.append (.vals _) (.vals _),trivial⟩
  rintro m L M w6 ⟨z',vs,mz,Ei,rfl,rfl,rfl,tR,jl,kw6⟩
  (repeat first|refine wN ?_|refine wP rfl ?_|refine af rfl ?_|refine ag rfl ?_|refine wO rfl rfl ?_)
  by_cases De:z' < nq
  ·refine VS.bG rfl (decide_eq_true (Int.ofNat_lt.2 De)) ?_
   obtain ⟨pp,nx⟩:∃ pp,q[z']? =some pp:=⟨_,List.getElem?_eq_getElem (by rw [←MP.len];exact De)⟩
   obtain ⟨cs,hcs,hE5⟩:=MM MO MP nx
   obtain ⟨s9,p9,n9,c9,t9,y9,m9,d9,rfl,JD⟩:=hE5
   (repeat first|refine wN ?_|refine wP rfl ?_|refine af rfl ?_|refine ag rfl ?_|refine wO rfl rfl ?_)
   refine VO.cond rfl ⟨by omega,by omega⟩ (wV rfl ?_)
   refine VO.jx rfl [.int .i64 (pp.1:Int),.bool s9,.slice p9 n9 c9,.bool t9,.slice y9 m9 d9] rfl (nB MO.lt (by simp [hv4,hvg,hvr]) (Bn hcs)) (wV rfl ?_)
   (repeat first|refine wN ?_|refine wP rfl ?_|refine af rfl ?_|refine ag rfl ?_|refine wO rfl rfl ?_)
   have zw:pp.1 < nr:=by
    rw [hRr.len]
    exact (hst.el pp (by rw [MN];exact List.mem_of_getElem? nx)).2.2.2 |> fun h=>by rw [uJ] at h;exact h
   refine VO.cond rfl ⟨by omega,by omega⟩ (wV rfl ?_)
   have fh:=tR.len
   obtain ⟨rq,zP⟩:∃ rq,mz[pp.1]? =some rq:=⟨_,List.getElem?_eq_getElem (by rw [←fh];exact zw)⟩
   obtain ⟨zQ,tL,zR⟩:=tR.el.at pp.1 rq zP
   have gG:=tR.fl
   have JE:=tR.le
   refine VO.cond rfl (by show 0 + ((pp.1:Int)).toNat * 28 + 24 + 4≤_;rw [gG,Int.toNat_natCast];omega) (VO.fu 134 rfl (km (new:=[.bool s9,.slice p9 n9 c9,.bool t9,.slice y9 m9 d9]) (o:=24) (tR.el.lens (aB _)) tL (Nat.le_of_ble_eq_true rfl)) (wV rfl ?_))
   (repeat first|refine wN ?_|refine wP rfl ?_|refine af rfl ?_|refine ag rfl ?_|refine wO rfl rfl ?_)
   refine VS.back (nq - (z' + 1)) (by omega) ⟨_,_,?_,?_,?_,?_,⟨z' + 1,vs.set pp.1 (zQ.take 24++(([.bool s9,.slice p9 n9 c9,.bool t9,.slice y9 m9 d9]:List Value)++zQ.drop (24 + ([.bool s9,.slice p9 n9 c9,.bool t9,.slice y9 m9 d9]:List Value).length))),mz.modify pp.1 (fun r=>{ r with closing:=pp.2 }),by omega,rfl,rfl,rfl,?_,?_,kw6⟩⟩
   ·refine ⟨rfl,rfl,rfl,rfl,?_,trivial⟩
    rw [←dK (i:=z') (by have:=MP.cm;have:=MP.le;omega)];rfl
   ·(repeat first|exact trivial|refine ⟨rfl,?_⟩)
   ·rfl
   ·exact ⟨.lit rfl,.lit rfl,.append (.vals _) (.vals _),trivial⟩
   ·refine ⟨by rw [List.length_modify];exact fh,by rw [gM zP];exact tR.el.set (DR zR ⟨_,_,_,_,_,_,_,_,rfl,JD.kp kw6⟩),tR.so,tR.sl,tR.le,tR.cm,?_⟩
    rw [List.length_append,List.length_map,cW (ko (tR.el.lens (aB _)) (DT ((aB _).len zR) rfl)),List.length_set]
    rw [List.length_append,List.length_map,cW (tR.el.lens (aB _))] at gG
    exact gG
   ·rw [←jl]
    obtain ⟨hlq,hqe⟩:=List.getElem?_eq_some_iff.1 nx
    rw [List.drop_eq_getElem_cons hlq,hqe];rfl
  refine VS.bK rfl (decide_eq_false (fun e=>De (Int.ofNat_lt.1 e))) ?_
  have hzn:z'=nq:=by omega
  have hdn:q.drop z'=[]:=List.drop_of_length_le (by rw [←MP.len];omega)
  rw [hdn] at jl
  replace jl:mz=et q rows:=jl
  (repeat first|refine wN ?_|refine wP rfl ?_|refine af rfl ?_|refine ag rfl ?_|refine wO rfl rfl ?_)
  refine VS.oJ (bj _ _) rfl (fun wz βz kz oz enz=> ?_)
  have Fg:aj w wz:=qJ.bk (jP.aI b5) oz.1 (fun x hx=>by simp only [List.mem_cons,List.not_mem_nil,or_false] at hx;rcases hx with rfl | rfl | rfl <;> assumption)
  obtain ⟨o5,o6⟩:=ea (enz.own 134 _ _ rfl) 2 rb rfl rfl
  replace o5:βz 134=rb:=o5
  rw [List.map_append,ah] at o6
  refine ⟨_,_,rfl,?_,Fg⟩
  show sK w.heap.size wz _ _ (et (gn a.q b.q kn (dU l)).q (gn a.q b.q kn (dU l)).rows,(gn a.q b.q kn (dU l)).uses)
  rw [MN,uJ,Cw]
  exact ⟨.inr ⟨rb,nRb,_,_,_,_,congrArg (fun g=>Value.slice (some ⟨g,0,none⟩) nr cr) o5,o6,((jl▸tR).kp (aB _) (by (with_reducible (repeat (first | assumption | exact kU _ | exact kR _ | exact Kp.of (U:=UU) (by assumption) | exact aF.of (by assumption) | refine kT ?_ (by assumption)))))).o βz⟩,.inl ⟨rfl,rfl⟩⟩
 ·obtain ⟨q,MN⟩:∃ q,(gn a.q b.q kn (dU l)).q=q:=⟨_,rfl⟩
  obtain ⟨rows,uJ⟩:∃ rows,(gn a.q b.q kn (dU l)).rows=rows:=⟨_,rfl⟩
  obtain ⟨us,Cw⟩:∃ us,(gn a.q b.q kn (dU l)).uses=us:=⟨_,rfl⟩
  rw [uJ] at hRr
  rw [MN] at hVr
  rw [Cw] at hUr
  have nRb:w.heap.size≤rb:=had rb (by simp)
  have nUb:w.heap.size≤ub:=had ub (by simp)
  have hv4:vb≠b4:=fun e=>by subst e;exact absurd (bo BB uT) (by decide)
  have hvg:vb≠g:=fun e=>by subst e;exact absurd (bo BB hg) (by decide)
  have hvr:vb≠rb:=fun e=>by subst e;exact absurd (bo BB zS) (by decide)
  have hu4:ub≠b4:=fun e=>by subst e;exact absurd (bo hcU uT) (by decide)
  have hug:ub≠g:=fun e=>by subst e;exact absurd (bo hcU hg) (by decide)
  have hur:ub≠rb:=fun e=>by subst e;exact absurd (bo hcU zS) (by decide)
  refine VO.read rfl [.slice (some ⟨vb,off,none⟩) nq cq] rfl (fun j u hj=> ?_) (wV rfl ?_)
  ·match j,hj with
   | 0,hj=>cases hj;exact hg.cell rfl
   | j + 1,hj=>cases hj
  (repeat first|refine wN ?_|refine wP rfl ?_|refine aa rfl ?_|refine ab rfl ?_|refine wO rfl rfl ?_)
  refine VS.sJ (KU UU) (fun t=>Nat.beq t 22) table (fun _ _ _=>trivial) (fun w5 β5 k5 b5 en5=> ?_)
  have Ek:=hg.bk b5
  have sL:=uT.bk b5
  have yc:=zS.bk b5
  have hR5:=hRr.kp (aB w.heap.size) (Kp.of (U:=UU) b5)
  have MO:=BB.bk b5
  have MP:=hVr.kp (aL w.heap.size) (Kp.of (U:=UU) b5)
  have hcU5:=hcU.bk b5
  have hU5:=hUr.kp (dk w.heap.size) (Kp.of (U:=UU) b5)
  have JF:b4≠g:=fun e=>by subst e;exact absurd (bo sL Ek) (by decide)
  have h02:b4≠rb:=fun e=>by subst e;exact absurd (bo sL yc) (by decide)
  have zF:g≠rb:=fun e=>by subst e;exact absurd (bo Ek yc) (by decide)
  have pX:iI (KU UU) 66 [b4,g,rb] [(qW,[.val (.slice none 0 0),.val (.slice none 0 0)]),(Runner,[.val (.slice (some ⟨vb,off,none⟩) nq cq),.row 134 0 nr cr,.val (.slice (some ⟨ub,0,none⟩) nu cu')]),(dM,sY.flatten.map .val++uM.map .val)] w5:=by
   refine ⟨rfl,by simp [JF,h02,zF],fun j g' c' hj hc=> ?_,fun c' hc=> ?_,fun c' hc k hk=> ?_⟩
   ·match j,hj,hc with
    | 0,hj,hc=>cases hj;cases hc;exact sL
    | 1,hj,hc=>cases hj;cases hc;exact Ek
    | 2,hj,hc=>cases hj;cases hc;rw [←List.map_append,ah];exact yc
    | j + 3,hj,_=>simp at hj
   ·simp only [List.mem_cons,List.not_mem_nil,or_false] at hc
    rcases hc with rfl | rfl | rfl
    ·exact ⟨rfl,rfl⟩
    ·exact ⟨rfl,rfl⟩
    ·exact ⟨rfl,by rw [←List.map_append];exact aZ (hR5.all (aB _))⟩
   ·simp only [List.mem_cons,List.not_mem_nil,or_false] at hc
    rcases hc with rfl | rfl | rfl
    ·cases hk
    ·have:k=134:=by simpa [ay,AV.cL] using hk
     subst this;exact ⟨by omega,by show 134 < 2 * 66 + 3;omega⟩
    ·rw [←List.map_append,ao] at hk;cases hk
  refine ⟨[b4,g,rb],_,pX,[(4,.box 132 0),(6,.box 133 0),(44,.val (.slice (some ⟨vb,off,none⟩) nq cq)),(45,.val (.int .i64 ((nq:Nat):Int))),(46,.val (.int .i64 0))],⟨?_,?_,⟨_,rfl,rfl,fun i hi=>by cases hi⟩,⟨_,rfl,rfl,fun i hi=>by cases hi⟩,⟨_,rfl,rfl,fun i hi=>by cases hi⟩,trivial⟩,?_⟩
  ·refine ⟨_,rfl,rfl,fun i hi=> ?_⟩
   have:i=132:=by simpa [AV.ids] using hi
   subst this;exact ⟨by show 132≤132;omega,by show 132 < 2 * 66 + 3;omega⟩
  ·refine ⟨_,rfl,rfl,fun i hi=> ?_⟩
   have:i=133:=by simpa [AV.ids] using hi
   subst this;exact ⟨by show 132≤133;omega,by show 133 < 2 * 66 + 3;omega⟩
  refine VS.loop (J:=fun m L M w'=>∃ (z:Nat) (vs:List (List Value)) (mz:List aM),z≤nq∧m=nq - z∧L=[(4,.box 132 0),(6,.box 133 0),(44,.val (.slice (some ⟨vb,off,none⟩) nq cq)),(45,.val (.int .i64 ((nq:Nat):Int))),(46,.val (.int .i64 (z:Int)))]∧M=[(132,(qW,[.val (.slice none 0 0),.val (.slice none 0 0)])),(133,(Runner,[.val (.slice (some ⟨vb,off,none⟩) nq cq),.row 134 0 nr cr,.val (.slice (some ⟨ub,0,none⟩) nu cu')])),(134,(dM,vs.flatten.map .val++uM.map .val))]∧nM (dA w.heap.size) 28 w' nr cr vs (uM.map .val) mz∧et (q.drop z) mz=et q rows∧aF (KU UU) w5 w') nq ⟨_,_,?_,?_,?_,?_,⟨0,sY,rows,Nat.zero_le _,rfl,rfl,rfl,hR5.a,rfl,kR _⟩⟩ ?_
  ·(repeat first|exact trivial|refine ⟨rfl,?_⟩)
  ·(repeat first|exact trivial|refine ⟨rfl,?_⟩)
  ·rfl
  ·exact ⟨.lit rfl,.lit rfl,.append (.vals _) (.vals _),trivial⟩
  rintro m L M w6 ⟨z',vs,mz,Ei,rfl,rfl,rfl,tR,jl,kw6⟩
  (repeat first|refine wN ?_|refine wP rfl ?_|refine af rfl ?_|refine ag rfl ?_|refine wO rfl rfl ?_)
  by_cases De:z' < nq
  ·refine VS.bG rfl (decide_eq_true (Int.ofNat_lt.2 De)) ?_
   obtain ⟨pp,nx⟩:∃ pp,q[z']? =some pp:=⟨_,List.getElem?_eq_getElem (by rw [←MP.len];exact De)⟩
   obtain ⟨cs,hcs,hE5⟩:=MM MO MP nx
   obtain ⟨s9,p9,n9,c9,t9,y9,m9,d9,rfl,JD⟩:=hE5
   (repeat first|refine wN ?_|refine wP rfl ?_|refine af rfl ?_|refine ag rfl ?_|refine wO rfl rfl ?_)
   refine VO.cond rfl ⟨by omega,by omega⟩ (wV rfl ?_)
   refine VO.jx rfl [.int .i64 (pp.1:Int),.bool s9,.slice p9 n9 c9,.bool t9,.slice y9 m9 d9] rfl (nB MO.lt (by simp [hv4,hvg,hvr]) (Bn hcs)) (wV rfl ?_)
   (repeat first|refine wN ?_|refine wP rfl ?_|refine af rfl ?_|refine ag rfl ?_|refine wO rfl rfl ?_)
   have zw:pp.1 < nr:=by
    rw [hRr.len]
    exact (hst.el pp (by rw [MN];exact List.mem_of_getElem? nx)).2.2.2 |> fun h=>by rw [uJ] at h;exact h
   refine VO.cond rfl ⟨by omega,by omega⟩ (wV rfl ?_)
   have fh:=tR.len
   obtain ⟨rq,zP⟩:∃ rq,mz[pp.1]? =some rq:=⟨_,List.getElem?_eq_getElem (by rw [←fh];exact zw)⟩
   obtain ⟨zQ,tL,zR⟩:=tR.el.at pp.1 rq zP
   have gG:=tR.fl
   have JE:=tR.le
   refine VO.cond rfl (by show 0 + ((pp.1:Int)).toNat * 28 + 24 + 4≤_;rw [gG,Int.toNat_natCast];omega) (VO.fu 134 rfl (km (new:=[.bool s9,.slice p9 n9 c9,.bool t9,.slice y9 m9 d9]) (o:=24) (tR.el.lens (aB _)) tL (Nat.le_of_ble_eq_true rfl)) (wV rfl ?_))
   (repeat first|refine wN ?_|refine wP rfl ?_|refine af rfl ?_|refine ag rfl ?_|refine wO rfl rfl ?_)
   refine VS.back (nq - (z' + 1)) (by omega) ⟨_,_,?_,?_,?_,?_,⟨z' + 1,vs.set pp.1 (zQ.take 24++(([.bool s9,.slice p9 n9 c9,.bool t9,.slice y9 m9 d9]:List Value)++zQ.drop (24 + ([.bool s9,.slice p9 n9 c9,.bool t9,.slice y9 m9 d9]:List Value).length))),mz.modify pp.1 (fun r=>{ r with closing:=pp.2 }),by omega,rfl,rfl,rfl,?_,?_,kw6⟩⟩
   ·refine ⟨rfl,rfl,rfl,rfl,?_,trivial⟩
    rw [←dK (i:=z') (by have:=MP.cm;have:=MP.le;omega)];rfl
   ·(repeat first|exact trivial|refine ⟨rfl,?_⟩)
   ·rfl
   ·exact ⟨.lit rfl,.lit rfl,.append (.vals _) (.vals _),trivial⟩
   ·refine ⟨by rw [List.length_modify];exact fh,by rw [gM zP];exact tR.el.set (DR zR ⟨_,_,_,_,_,_,_,_,rfl,JD.kp kw6⟩),tR.so,tR.sl,tR.le,tR.cm,?_⟩
    rw [List.length_append,List.length_map,cW (ko (tR.el.lens (aB _)) (DT ((aB _).len zR) rfl)),List.length_set]
    rw [List.length_append,List.length_map,cW (tR.el.lens (aB _))] at gG
    exact gG
   ·rw [←jl]
    obtain ⟨hlq,hqe⟩:=List.getElem?_eq_some_iff.1 nx
    rw [List.drop_eq_getElem_cons hlq,hqe];rfl
  refine VS.bK rfl (decide_eq_false (fun e=>De (Int.ofNat_lt.1 e))) ?_
  have hzn:z'=nq:=by omega
  have hdn:q.drop z'=[]:=List.drop_of_length_le (by rw [←MP.len];omega)
  rw [hdn] at jl
  replace jl:mz=et q rows:=jl
  (repeat first|refine wN ?_|refine wP rfl ?_|refine af rfl ?_|refine ag rfl ?_|refine wO rfl rfl ?_)
  refine VS.oJ (bj _ _) rfl (fun wz βz kz oz enz=> ?_)
  have Fg:aj w wz:=qJ.bk (jP.aI b5) oz.1 (fun x hx=>by simp only [List.mem_cons,List.not_mem_nil,or_false] at hx;rcases hx with rfl | rfl | rfl <;> assumption)
  obtain ⟨o5,o6⟩:=ea (enz.own 134 _ _ rfl) 2 rb rfl rfl
  replace o5:βz 134=rb:=o5
  rw [List.map_append,ah] at o6
  refine ⟨_,_,rfl,?_,Fg⟩
  show sK w.heap.size wz _ _ (et (gn a.q b.q kn (dU l)).q (gn a.q b.q kn (dU l)).rows,(gn a.q b.q kn (dU l)).uses)
  rw [MN,uJ,Cw]
  exact ⟨.inr ⟨rb,nRb,_,_,_,_,congrArg (fun g=>Value.slice (some ⟨g,0,none⟩) nr cr) o5,o6,((jl▸tR).kp (aB _) (by (with_reducible (repeat (first | assumption | exact kU _ | exact kR _ | exact Kp.of (U:=UU) (by assumption) | exact aF.of (by assumption) | refine kT ?_ (by assumption)))))).o βz⟩,.inr ⟨ub,nUb,_,_,_,_,rfl,(oz.1.nH ub hcU5.lt (by simp [hu4,hug,hur])).trans hcU5,hU5.kp (dk _) (by (with_reducible (repeat (first | assumption | exact kU _ | exact kR _ | exact Kp.of (U:=UU) (by assumption) | exact aF.of (by assumption) | refine kT ?_ (by assumption)))))⟩⟩
end Go.Proofs.YtabalinjfgcfeaaGreat
namespace Go.Proofs.YtabalinjfgcfeaaGreat
open Go.RowKit
theorem Hq (x:Rat):x * (((x.den:Nat):Int):Rat)=((x.num:Int):Rat):=by
 have h:((((x.den:Nat):Int):Int):Rat)≠0:=fun e=>by
  have:((x.den:Int):Rat)=((0:Int):Rat):=e
  have:=Rat.intCast_inj.1 this
  have:=x.den_nz;omega
 conv=>lhs;lhs;rw [←Rat.num_divInt_den x,Rat.divInt_eq_div]
 exact Rat.div_mul_cancel h
theorem Iz.Bo {D:Nat} {x:Rat} (h:x.den∣D):Iz D x:=by
 obtain ⟨k,rfl⟩:=h
 refine ⟨x.num * (k:Int),?_⟩
 rw [Int.natCast_mul,Rat.intCast_mul,Rat.intCast_mul,←Hq x];grind
theorem Iz.up {D E:Nat} {x:Rat} (h:Iz D x):Iz (D * E) x:=by
 obtain ⟨n,hn⟩:=h
 exact ⟨n * (E:Int),by rw [Int.natCast_mul,Rat.intCast_mul,Rat.intCast_mul,←hn];grind⟩
theorem rsz_of {D M kk:Nat} {x:Rat} (hD:0 < D) (hI:Iz D x) (h1: -((M:Int):Rat)≤x) (h2:x≤((M:Int):Rat)) (hk:M * D < 4294967296 ^ kk) (hk2:D < 4294967296 ^ kk):fo x kk:=by
 obtain ⟨n,hn⟩:=hI
 have hD':(0:Rat) < ((D:Int):Rat):=by
  have:((0:Int):Rat) < ((D:Int):Rat):=Rat.intCast_lt_intCast.2 (by omega)
  exact this
 have hDn:((D:Int):Rat)≠0:=by grind
 have hx:x=Rat.divInt n (D:Int):=by
  rw [Rat.divInt_eq_div,←hn,Rat.div_def,Rat.mul_assoc,Rat.mul_inv_cancel _ hDn,Rat.mul_one]
 have b1:n≤(M:Int) * (D:Int):=by
  have:=Rat.mul_le_mul_of_nonneg_right h2 (Rat.le_of_lt hD')
  rw [hn,←Rat.intCast_mul] at this
  exact Rat.intCast_le_intCast.1 this
 have b2: -((M:Int) * (D:Int))≤n:=by
  have:=Rat.mul_le_mul_of_nonneg_right h1 (Rat.le_of_lt hD')
  rw [hn,←Rat.intCast_neg,←Rat.intCast_mul] at this
  have:=Rat.intCast_le_intCast.1 this
  rw [Int.neg_mul] at this
  exact this
 rw [hx]
 refine mn (Sz.of_lt ?_) (Sz.of_lt (by simpa using hk2)) (by omega)
 have:n.natAbs≤M * D:=by
  have e:((M * D:Nat):Int)=(M:Int) * (D:Int):=Int.natCast_mul ..
  omega
 omega
def vh:List (Rat×Rat)→Nat
 | []=>1
 | e::l=>e.1.den * e.2.den * vh l
theorem DU:∀ l:List (Rat×Rat),0 < vh l
 | []=>by decide
 | e::l=>Nat.mul_pos (Nat.mul_pos e.1.den_pos e.2.den_pos) (DU l)
theorem DV:∀ {l:List (Rat×Rat)} {e:Rat×Rat},e∈l→(e.1.den * e.2.den)∣vh l
 | x::l,e,h=>by
   rcases List.mem_cons.1 h with rfl | h
   ·exact Nat.dvd_mul_right ..
   ·exact Nat.dvd_mul_left_of_dvd (DV h) _
theorem Iz.mul {a b:Nat} {x y:Rat} (h:Iz a x) (k:Iz b y):Iz (a * b) (x * y):=by
 obtain ⟨n,hn⟩:=h;obtain ⟨m,hm⟩:=k
 exact ⟨n * m,by rw [Int.natCast_mul,Rat.intCast_mul,Rat.intCast_mul,←hn,←hm];grind⟩
theorem Iz.dvd {D E:Nat} {x:Rat} (h:Iz D x) (k:D∣E):Iz E x:=by
 obtain ⟨c,rfl⟩:=k
 exact h.up
theorem yd (S F e:Rat):aD S F e=F∨aD S F e=S * e∨aD S F e=0:=by
 rw [show aD S F e=(if jF 0 (if jF (S * e) F=true then S * e else F)=true then 0 else (if jF (S * e) F=true then S * e else F)) from rfl]
 by_cases h:jF (S * e) F=true
 ·simp only [if_pos h]
  split <;> simp
 ·simp only [if_neg h]
  split <;> simp
theorem Ga {x:Rat} {k:Nat} (h:x.num.natAbs≤4294967296 ^ k): -(((4294967296 ^ k:Nat):Int):Rat)≤x∧x≤(((4294967296 ^ k:Nat):Int):Rat):=by
 have hd:(1:Rat)≤((x.den:Int):Rat):=by
  have:((1:Int):Rat)≤((x.den:Int):Rat):=Rat.intCast_le_intCast.2 (by have:=x.den_pos;omega)
  exact this
 have hm:=Hq x
 have hN0:(0:Rat)≤(((4294967296 ^ k:Nat):Int):Rat):=by
  have:((0:Int):Rat)≤(((4294967296 ^ k:Nat):Int):Rat):=Rat.intCast_le_intCast.2 (by omega)
  exact this
 have h1:((x.num:Int):Rat)≤(((4294967296 ^ k:Nat):Int):Rat):=Rat.intCast_le_intCast.2 (by omega)
 have h2: -(((4294967296 ^ k:Nat):Int):Rat)≤((x.num:Int):Rat):=by
  rw [←Rat.intCast_neg];exact Rat.intCast_le_intCast.2 (by omega)
 generalize (((4294967296 ^ k:Nat):Int):Rat)=N at *
 generalize ((x.num:Int):Rat)=n at *
 generalize ((((x.den:Nat):Int):Int):Rat)=d at *
 have h3:N≤N * d:=by
  have:=Rat.mul_le_mul_of_nonneg_left hd hN0
  rw [Rat.mul_one] at this;exact this
 constructor
 ·refine Rat.not_lt.1 fun hlt=> ?_
  have:=Rat.mul_lt_mul_of_pos_right hlt (show 0 < d by grind)
  grind
 ·refine Rat.not_lt.1 fun hlt=> ?_
  have:=Rat.mul_lt_mul_of_pos_right hlt (show 0 < d by grind)
  grind
def Lm (k:Nat) (x:Rat):Prop:=x.num.natAbs≤4294967296 ^ k∧x.den≤4294967296 ^ k
theorem Ht {k:Nat}:∀ {l:List (Rat×Rat)},(∀ e∈l,Lm k e.1∧Lm k e.2)→vh l≤4294967296 ^ (2 * k * l.length)
 | [],_=>by simp [vh]
 | e::l,h=>by
   obtain ⟨h1,h2⟩:=h e (by simp)
   have h3:=Ht (l:=l) fun x hx=>h x (by simp [hx])
   have e1:4294967296 ^ (2 * k * (e::l).length)=(4294967296 ^ k * 4294967296 ^ k) * 4294967296 ^ (2 * k * l.length):=by
    rw [←Nat.pow_add,←Nat.pow_add];congr 1;rw [List.length_cons];grind
   rw [e1]
   exact Nat.mul_le_mul (Nat.mul_le_mul h1.2 h2.2) h3
theorem MQ {k n:Nat} {S F:Rat} {l:List (Rat×Rat)} (hS:Lm k S) (hF:Lm k F) (h0:0≤S) (h1:S≤1) (hl:∀ e∈l,Lm k e.1∧Lm k e.2) (hn:l.length≤n) (hk:1≤k):
  yb (S.den * F.den * vh l) (((4294967296 ^ k:Nat):Int):Rat) S F (2 * k * n + 3 * k + 1) l:=by
 obtain ⟨N,hN⟩:∃ N,N=4294967296 ^ k:=⟨_,rfl⟩
 have hNk:4294967296≤N:=by rw [hN];exact Nat.le_self_pow (by omega) _
 have hN0:(0:Rat)≤((N:Int):Rat):=by
  have:((0:Int):Rat)≤((N:Int):Rat):=Rat.intCast_le_intCast.2 (by omega)
  exact this
 refine ⟨fun e he=> ?_,fun x hI gB CT=> ?_⟩
 ·rw [←hN]
  obtain ⟨he1,he2⟩:=hl e he
  have b1:=Ga he1.1
  have b2:=Ga he2.1
  have b3:=Ga hF.1
  rw [←hN] at b1 b2 b3
  have hd:=DV he
  have hSe:S * e.2≤((N:Int):Rat):=by
   by_cases h:0≤e.2
   ·have:=Rat.mul_le_mul_of_nonneg_right h1 h
    rw [Rat.one_mul] at this
    exact Rat.le_trans this b2.2
   ·have h':0≤-e.2:=by grind
    have:=Rat.mul_nonneg h0 h'
    rw [Rat.mul_neg] at this
    grind
  have hIe:Iz (S.den * F.den * vh l) (S * e.2):=((Iz.Bo (Nat.dvd_refl S.den)).mul (Iz.Bo (Nat.dvd_refl e.2.den))).dvd (by
   obtain ⟨c,hc⟩:=hd
   rw [hc]
   exact ⟨F.den * e.1.den * c,by grind⟩)
  refine ⟨?_,?_,Iz.Bo ?_,b1.1,b1.2⟩
  ·rcases yd S F e.2 with h | h | h <;> rw [h]
   ·exact Iz.Bo ⟨S.den * vh l,by grind⟩
   ·exact hIe
   ·exact Iz.zero
  ·rcases yd S F e.2 with h | h | h <;> rw [h]
   ·exact b3.2
   ·exact hSe
   ·exact hN0
  ·obtain ⟨c,hc⟩:=hd
   rw [hc]
   exact ⟨S.den * F.den * e.2.den * c,by grind⟩
 ·rw [←hN] at gB CT
  have iE:=Ht hl
  have hpow:4294967296 ^ (2 * k * l.length)≤4294967296 ^ (2 * k * n):=Nat.pow_le_pow_right (by omega) (Nat.mul_le_mul_left _ hn)
  have hD:S.den * F.den * vh l≤N * N * 4294967296 ^ (2 * k * n):=Nat.mul_le_mul (Nat.mul_le_mul (by rw [hN];exact hS.2) (by rw [hN];exact hF.2)) (Nat.le_trans iE hpow)
  have e1:4294967296 ^ (2 * k * n + 3 * k + 1)=(N * N * 4294967296 ^ (2 * k * n)) * (N * 4294967296):=by
   rw [hN,show 2 * k * n + 3 * k + 1=k + k + 2 * k * n + (k + 1) by omega,Nat.pow_add,Nat.pow_add,Nat.pow_add,Nat.pow_succ]
  have hP:0 < N * N * 4294967296 ^ (2 * k * n):=Nat.mul_pos (Nat.mul_pos (by omega) (by omega)) (Nat.pow_pos (by omega))
  have e2:(((N + N:Nat):Int):Rat)=((N:Int):Rat) + ((N:Int):Rat):=by rw [←Rat.intCast_add];rfl
  refine rsz_of (M:=N + N) (Nat.mul_pos (Nat.mul_pos S.den_pos F.den_pos) (DU l)) hI (by rw [e2];exact gB) (by rw [e2];exact CT) ?_ ?_
  ·rw [e1]
   calc (N + N) * (S.den * F.den * vh l)≤(N + N) * (N * N * 4294967296 ^ (2 * k * n)):=Nat.mul_le_mul_left _ hD
    _ < (N * 4294967296) * (N * N * 4294967296 ^ (2 * k * n)):=Nat.mul_lt_mul_of_pos_right (by omega) hP
    _=_:=Nat.mul_comm _ _
  ·rw [e1]
   calc S.den * F.den * vh l≤(N * N * 4294967296 ^ (2 * k * n)) * 1:=by rw [Nat.mul_one];exact hD
    _ < _:=Nat.mul_lt_mul_of_pos_left (by omega) hP
end Go.Proofs.YtabalinjfgcfeaaGreat
set_option maxRecDepth 4000
namespace Go.Proofs.YtabalinjfgcfeaaGreat
open Go.RowKit
attribute [local irreducible] aA VS
abbrev zU (P:Program) (w:World) (N:Nat):Cx:={ P:=P,w0:=w,N:=N,K:=⟨UU,fun _=>True,fun t=>(Nat.beq t dM || (Nat.beq t ey || (Nat.beq t 108 || (Nat.beq t 106 || Nat.beq t 100))))⟩,SU:=fun t=>Nat.beq t 22,ti:=table,keep:=fun _ _=>trivial }
theorem ye (w:World) (N:Nat):(zU Tryz.prog w N).Ok:=rT
theorem JI (w:World) (N:Nat):(zU Tryz.prog w N).P.follows .mixedOrders=true:=by show Tryz.prog.follows .mixedOrders=true;kernel_rfl
section
variable {F F':Fr} {H H':Hp} {w w1:World} {N:Nat} {l':List Oper} {Q:Exit→Act→World→Prop} {k:List It} {id:Nat} {ops:Array Oper}
theorem dP (e:pU (zU Tryz.prog w1 N) ops 80 ops.toList F H=(l',F',H')) (h:aA (zU Tryz.prog w1 N) none ops l' (VS (zU Tryz.prog w1 N) Q k) F' H' w):VS (zU Tryz.prog w1 N) Q (.code (.region id ops false)::k) F H w:=VS.region (ye _ _) (VO.run 80 e h)
theorem dQ (e:pU (zU Tryz.prog w1 N) ops 80 ops.toList F H=(l',F',H')) (h:aA (zU Tryz.prog w1 N) (some []) ops l' (VS (zU Tryz.prog w1 N) Q k) F' H' w) (kD:mR (zU Tryz.prog w1 N).SU [] ops=true:=by kernel_rfl):VS (zU Tryz.prog w1 N) Q (.code (.region id ops true)::k) F H w:=VS.draw (ye _ _) (JI _ _) [] kD (VO.run 80 e h)
end
structure FzL (K:KC):Prop where
 u:K.U=UU
 s:∀ b,K.S b
 r:K.fz dM=true
 w:K.fz ey=true
theorem sK.kpF {K:KC} {B:Nat} {w w':World} {r u:Value} {x:List aM×List Uq} (h:sK B w r u x) (hK:FzL K) (k:aF K w w') (kw:Kp UU w w'):sK B w' r u x:=by
 refine ⟨h.1.imp id fun ⟨rb,h0,n,c,vs,sp,h1,h2,h3⟩=>⟨rb,h0,n,c,vs,sp,h1,k.block _ rb _ hK.r (hK.s _) h2,h3.kp (aB B) kw⟩,h.2.imp id fun ⟨rb,h0,n,c,vs,sp,h1,h2,h3⟩=>⟨rb,h0,n,c,vs,sp,h1,k.block _ rb _ hK.w (hK.s _) h2,h3.kp (dk B) kw⟩⟩
instance {k:Nat} {x:Rat}:Decidable (Lm k x):=by unfold Lm;infer_instance
theorem kL {w0 w w':World} {N:Nat} (h:aF (zU Tryz.prog w0 N).K w w':=by (with_reducible (repeat (first | assumption | exact kU _ | exact kR _ | exact Kp.of (U:=UU) (by assumption) | exact aF.of (by assumption) | refine kT ?_ (by assumption))))):Kp UU w w':=h.wU
theorem yf (w:World) (N:Nat):FzL (zU Tryz.prog w N).K:=⟨rfl,fun _=>trivial,rfl,rfl⟩
theorem sK.form {B:Nat} {w:World} {r u:Value} {x:List aM×List Uq} (h:sK B w r u x):∃ p c p' c',r=.slice p x.1.length c∧u=.slice p' x.2.length c':=by
 have h1:∃ p c,r=.slice p x.1.length c:=by
  rcases h.1 with ⟨rfl,e⟩ | ⟨rb,_,n,c,vs,sp,rfl,_,h3⟩
  ·exact ⟨none,0,by rw [e];rfl⟩
  ·exact ⟨_,c,by rw [h3.len]⟩
 have h2:∃ p c,u=.slice p x.2.length c:=by
  rcases h.2 with ⟨rfl,e⟩ | ⟨rb,_,n,c,vs,sp,rfl,_,h3⟩
  ·exact ⟨none,0,by rw [e];rfl⟩
  ·exact ⟨_,c,by rw [h3.len]⟩
 obtain ⟨p,c,e1⟩:=h1
 obtain ⟨p',c',e2⟩:=h2
 exact ⟨p,c,p',c',e1,e2⟩
def kt (q:Rat):RR:=(decide (q.num < 0),limbs q.num.natAbs,decide ((q.den:Int) < 0),limbs (q.den:Int).natAbs)
theorem MR (q:Rat):Fy (decide (q.num < 0)) (limbs q.num.natAbs) (decide ((q.den:Int) < 0)) (limbs (q.den:Int).natAbs)=true:=by
 unfold Fy
 rw [mL q.num,mL (q.den:Int),fI,fI]
 have h3:(0:Int) < q.den:=by have:=q.den_nz;omega
 have h4:Int.gcd q.num q.den=1:=by have:=q.reduced;simpa [Int.gcd,Nat.Coprime] using this
 rw [decide_eq_true h3,decide_eq_true h4];rfl
theorem MS (q:Rat):rq (decide (q.num < 0)) (limbs q.num.natAbs) (decide ((q.den:Int) < 0)) (limbs (q.den:Int).natAbs)=q:=by
 unfold rq;rw [fI,fI,zJ]
theorem uN (q:Rat):(kt q).q=q:=MS q
theorem Bp (q:Rat):(kt q).ok=true:=MR q
theorem pL {q:Rat} {k:Nat} (h:fo q k):(kt q).mC k:=⟨h.1,h.2⟩
theorem cP.JJ {w:World} {s t:Bool} {p u:Option Addr} {a c b d:Nat} {q:Rat} (h:cP w (.agg #[.bool s,.slice p a c,.bool t,.slice u b d]) q):tM w [.bool s,.slice p a c,.bool t,.slice u b d] (kt q):=by
 have hr:=h.raw
 obtain ⟨_,_,_,_,hv,h1,h2⟩:=hr
 simp only [Value.agg.injEq,Array.mk.injEq,List.cons.injEq,Value.bool.injEq,Value.slice.injEq,and_true] at hv
 obtain ⟨rfl,⟨rfl,rfl,rfl⟩,rfl,rfl,rfl,rfl⟩:=hv
 exact ⟨_,_,_,_,rfl,_,_,_,_,rfl,h1,h2⟩
theorem nO (n:Int) (h0: -9223372036854775808≤n) (h1:n≤9223372036854775807):fo (Rat.divInt n 1) 2:=AU h0 h1 (by decide) (by decide)
theorem gN (n e:Int) (w:World) (h0: -9223372036854775808≤n) (h1:n≤9223372036854775807) (g0: -9223372036854775808≤e) (g1:e≤9223372036854775807):
  Calls Tryz.prog 32 #[.int .i64 n,.int .i64 e] w fun o w'=>∃ v,o=.returned v∧(∃ s p a c t y m d s' p' a' c' t' y' m' d',v=.agg #[.bool s,.slice p a c,.bool t,.slice y m d,.bool s',.slice p' a' c',.bool t',.slice y' m' d']∧ya 2 w' [.bool s,.slice p a c,.bool t,.slice y m d,.bool s',.slice p' a' c',.bool t',.slice y' m' d'] (kt (Rat.divInt n 1),kt (Rat.divInt e 1)))∧aj w w':=by
 refine aw (C:=bP Tryz.prog w _) (args:=[_,_]) Tryz.func32 rfl Tryz.ntmps32 (Nat.le_of_ble_eq_true rfl) ?_
 (repeat first|refine wN ?_|refine wP rfl ?_|refine aa rfl ?_|refine ab rfl ?_|refine wO rfl rfl ?_)
 refine VO.call rfl rfl (fk Tryz.func31) (fun cB eu dt=>(dV n 1 cB h0 h1 (by omega) (by omega)).mono ?_)
 rintro e w1 ⟨r1,rfl,q1,aU⟩
 obtain ⟨s1,p1,n1,c1,t1,y1,m1,d1,rfl⟩:=q1.form
 refine ⟨_,rfl,aU,fun fq _ bb1=>wV rfl ?_⟩
 (repeat first|refine wN ?_|refine wP rfl ?_|refine aa rfl ?_|refine ab rfl ?_|refine wO rfl rfl ?_)
 refine VO.call rfl rfl (fk Tryz.func31) (fun dR gS eW=>(dV e 1 dR g0 g1 (by omega) (by omega)).mono ?_)
 rintro e w2 ⟨r2,rfl,q2,bn⟩
 obtain ⟨s2,p2,n2,c2,t2,y2,m2,d2,rfl⟩:=q2.form
 refine ⟨_,rfl,bn,fun gw _ bb2=>wV rfl ?_⟩
 (repeat first|refine wN ?_|refine wP rfl ?_|refine aa rfl ?_|refine ab rfl ?_|refine wO rfl rfl ?_)
 refine VS.ret (aJ _ _) rfl rfl (fun wz kz bz=> ?_)
 exact ⟨_,rfl,⟨_,_,_,_,_,_,_,_,_,_,_,_,_,_,_,_,rfl,[.bool s1,.slice p1 n1 c1,.bool t1,.slice y1 m1 d1],[.bool s2,.slice p2 n2 c2,.bool t2,.slice y2 m2 d2],rfl,(q1.kr).JJ,(q2.kr).JJ,pL (nO n h0 h1),pL (nO e g0 g1)⟩,bz⟩
abbrev exS:Rat:=(Rat.divInt 3 10)
abbrev exF:Rat:=(Rat.divInt 50 1)
theorem lL (w:World):Calls Tryz.prog 33 #[] w fun o w'=>∃ v,o=.returned v∧jr w' v (kt exS) (kt exF) 2∧aj w w':=by
 refine aw (C:=bP Tryz.prog w _) (args:=[]) Tryz.func33 rfl Tryz.ntmps33 (Nat.le_of_ble_eq_true rfl) ?_
 (repeat first|refine wN ?_|refine wP rfl ?_|refine aa rfl ?_|refine ab rfl ?_|refine wO rfl rfl ?_)
 refine VO.call rfl rfl (fk Tryz.func31) (fun cB eu dt=>(dV 3 10 cB (by omega) (by omega) (by omega) (by omega)).mono ?_)
 rintro e w1 ⟨r1,rfl,q1,aU⟩
 obtain ⟨s1,p1,n1,c1,t1,y1,m1,d1,rfl⟩:=q1.form
 refine ⟨_,rfl,aU,fun fq _ bb1=>wV rfl ?_⟩
 (repeat first|refine wN ?_|refine wP rfl ?_|refine aa rfl ?_|refine ab rfl ?_|refine wO rfl rfl ?_)
 refine VO.call rfl rfl (fk Tryz.func31) (fun dR gS eW=>(dV 50 1 dR (by omega) (by omega) (by omega) (by omega)).mono ?_)
 rintro e w2 ⟨r2,rfl,q2,bn⟩
 obtain ⟨s2,p2,n2,c2,t2,y2,m2,d2,rfl⟩:=q2.form
 refine ⟨_,rfl,bn,fun gw _ bb2=>wV rfl ?_⟩
 (repeat first|refine wN ?_|refine wP rfl ?_|refine aa rfl ?_|refine ab rfl ?_|refine wO rfl rfl ?_)
 refine VS.ret (aJ _ _) rfl rfl (fun wz kz bz=> ?_)
 obtain ⟨a1,a2,a3,a4,a5,a6⟩:=(q1.kr (w':=wz)).JJ
 obtain ⟨b1,b2,b3,b4,b5,b6⟩:=(q2.kr (w':=wz)).JJ
 refine ⟨_,rfl,⟨a1,a2,a3,a4,b1,b2,b3,b4,?_,a6,b6⟩,bz⟩
 simp only [List.cons.injEq,and_true] at a5 b5
 obtain ⟨x1,x2,x3,x4⟩:=a5
 obtain ⟨z1,z2,z3,z4⟩:=b5
 rw [x1,x2,x3,x4,z1,z2,z3,z4];rfl
theorem DW (l:List (Rat×Rat)):dU (l.map fun e=>(kt e.1,kt e.2))=l:=by
 unfold dU
 rw [List.map_map]
 conv=>rhs;rw [←List.map_id l]
 refine List.map_congr_left fun x _=> ?_
 show ((kt x.1).q,(kt x.2).q)=x
 rw [uN,uN]
theorem all_crr (l:List (Rat×Rat)):(l.map fun e=>(kt e.1,kt e.2)).all qa=true:=by
 rw [List.all_eq_true]
 intro x hx
 obtain ⟨e,_,rfl⟩:=List.mem_map.1 hx
 show ((kt e.1).ok && (kt e.2).ok)=true
 rw [Bp,Bp];rfl
theorem rul_crr {S F:Rat} {keep:Int} (h0:0≤S) (h1:S≤1) (yu:0≤keep) (Ay:keep≤40):js (kt S) (kt F) keep=true:=by
 unfold js
 rw [Bp,Bp,uN,decide_eq_true (rZ.2 h0),decide_eq_true (jM.2 h1),decide_eq_true yu,decide_eq_true Ay];rfl
theorem yg (v u:Value) (S F:Rat) (kn n:Nat) (l:List (Rat×Rat)) (w:World) (hR:jr w v (kt S) (kt F) (kn:Int)) (hl:er (ya 2) 8 w u (l.map fun e=>(kt e.1,kt e.2))) (hsS:fo S 2) (hsF:fo F 2) (h0:0≤S) (h1:S≤1) (hk:kn≤40) (hn:n≤40) (hlen:l.length≤n) (hS:Lm 3 S) (hF:Lm 3 F) (hL:∀ e∈l,Lm 3 e.1∧Lm 3 e.2) (x:List aM×List Uq) (hx:nh S F kn l=x):
  Calls Tryz.prog 11 #[v,u] w fun o w'=>∃ r u',o=.returned (.tuple #[.agg #[r,u'],.int .i64 0])∧sK w.heap.size w' r u' x∧aj w w':=by
 have hM:=MQ hS hF h0 h1 hL hlen (k:=3) (by decide)
 have:=Ho v u (kt S) (kt F) kn (l.map fun e=>(kt e.1,kt e.2)) 2 (2 * 3 * n + 3 * 3 + 1) _ _ w hR (pL hsS) (pL hsF) hl (by decide) (by omega) (by omega) (rul_crr h0 h1 (by omega) (by omega)) (all_crr l) (by rw [List.length_map];omega) hk (by rw [DW,uN,uN];exact hM)
 rw [DW,uN,uN,hx] at this
 exact this
theorem led_x:nh exS exF 2 [((Rat.divInt 200 1),(Rat.divInt 400 1))]=([⟨(Rat.divInt 120 1),(Rat.divInt 120 1),(Rat.divInt 80 1),(Rat.divInt 0 1),(Rat.divInt 120 1),(Rat.divInt 0 1),(Rat.divInt 80 1)⟩],[]):=by decide +kernel
theorem led_y:nh exS exF 2 [((Rat.divInt 200 1),(Rat.divInt 400 1)),((Rat.divInt 20 1),(Rat.divInt 300 1)),((Rat.divInt (-10) 1),(Rat.divInt 0 1))]=([⟨(Rat.divInt 120 1),(Rat.divInt 120 1),(Rat.divInt 80 1),(Rat.divInt 0 1),(Rat.divInt 120 1),(Rat.divInt 0 1),(Rat.divInt 0 1)⟩,⟨(Rat.divInt 90 1),(Rat.divInt 20 1),(Rat.divInt 0 1),(Rat.divInt 70 1),(Rat.divInt 90 1),(Rat.divInt 0 1),(Rat.divInt 0 1)⟩,⟨(Rat.divInt 50 1),(Rat.divInt (-10) 1),(Rat.divInt 0 1),(Rat.divInt 10 1),(Rat.divInt 0 1),(Rat.divInt 0 1),(Rat.divInt 0 1)⟩],[(0,1,(Rat.divInt 70 1)),(0,2,(Rat.divInt 10 1))]):=by decide +kernel
theorem led_z:nh exS exF 2 [((Rat.divInt 200 1),(Rat.divInt 400 1)),((Rat.divInt 100 1),(Rat.divInt 0 1)),((Rat.divInt 300 1),(Rat.divInt 100 1))]=([⟨(Rat.divInt 120 1),(Rat.divInt 120 1),(Rat.divInt 80 1),(Rat.divInt 0 1),(Rat.divInt 120 1),(Rat.divInt 80 1),(Rat.divInt 0 1)⟩,⟨(Rat.divInt 50 1),(Rat.divInt 50 1),(Rat.divInt 50 1),(Rat.divInt 0 1),(Rat.divInt 50 1),(Rat.divInt 0 1),(Rat.divInt 50 1)⟩,⟨(Rat.divInt 50 1),(Rat.divInt 50 1),(Rat.divInt 250 1),(Rat.divInt 0 1),(Rat.divInt 50 1),(Rat.divInt 0 1),(Rat.divInt 250 1)⟩],[]):=by decide +kernel
def aM.jC (r:aM):Nat→Rat
 | 0=>r.eb
 | 1=>r.allowed
 | 2=>r.bW
 | 3=>r.used
 | 4=>r.bL
 | 5=>r.bl
 | _=>r.closing
theorem MT {B:Nat} {w:World} {cs:List Value} {r:aM} (h:dA B w cs r) (f:Nat) (hf:f≤6):∃ a pre post,cs=pre++(a++post)∧pre.length=4 * f∧R4 B w a (r.jC f):=by
 obtain ⟨a,b,c,d,e,g,i,rfl,h1,h2,h3,h4,h5,h6,h7⟩:=h
 have l1:=h1.len
 have l2:=h2.len
 have l3:=h3.len
 have l4:=h4.len
 have l5:=h5.len
 have l6:=h6.len
 match f,hf with
 | 0,_=>exact ⟨a,[],_,rfl,rfl,h1⟩
 | 1,_=>exact ⟨b,a,_,rfl,l1,h2⟩
 | 2,_=>exact ⟨c,a++b,_,by rw [List.append_assoc],by simp [l1,l2],h3⟩
 | 3,_=>exact ⟨d,a++(b++c),e++(g++i),by simp only [List.append_assoc],by simp [l1,l2,l3],h4⟩
 | 4,_=>exact ⟨e,a++(b++(c++d)),g++i,by simp only [List.append_assoc],by simp [l1,l2,l3,l4],h5⟩
 | 5,_=>exact ⟨g,a++(b++(c++(d++e))),i,by simp only [List.append_assoc],by simp [l1,l2,l3,l4,l5],h6⟩
 | 6,_=>exact ⟨i,a++(b++(c++(d++(e++g)))),[],by simp only [List.append_assoc,List.append_nil],by simp [l1,l2,l3,l4,l5,l6],h7⟩
theorem DX {α:Type} {E:World→List Value→α→Prop} {sz:Nat} (hE:mZ E sz) {t:TypeId} {w:World} {b n c i:Nat} {vs:List (List Value)} {sp:List Value} {es:List α} {x:α} (hc:aV w b t (vs.flatten++sp).toArray) (h:cX E sz w n 0 c [] vs sp es) (hx:es[i]? =some x):
  ∃ cs,E w cs x∧∀ (pre a post:List Value),cs=pre++(a++post)→∀ off,off=i * sz + pre.length→∀ (j:Nat) (u:Value),a[j]? =some u→w.cell? ((⟨b,off,none⟩:Addr).add j)=some u:=by
 obtain ⟨cs,hcs,hEx⟩:=h.el.at i x hx
 refine ⟨cs,hEx,fun pre a post hsp off hoff j u hj=> ?_⟩
 rw [Addr.add_mid]
 refine hc.cell ?_
 have jl:cs.length=sz:=hE.len hEx
 have hjl:=(List.getElem?_eq_some_iff.1 hj).1
 obtain ⟨hlt,hxx⟩:=List.getElem?_eq_some_iff.1 hcs
 have yK:vs=vs.take i++cs::vs.drop (i + 1):=by rw [←hxx,←List.drop_eq_getElem_cons hlt,List.take_append_drop]
 have hal:(vs.take i).flatten.length=i * sz:=by
  rw [cW (fun y hy=>h.el.lens hE y (List.mem_of_mem_take hy)),List.length_take,Nat.min_eq_left (by omega)]
 rw [List.getElem?_toArray,yK,List.flatten_append,List.append_assoc,List.getElem?_append_right (by omega),hal,List.flatten_cons,List.append_assoc,hsp,hoff,show i * sz + pre.length + j - i * sz=pre.length + j by omega,List.append_assoc,List.getElem?_append_right (by omega),Nat.add_sub_cancel_left,List.append_assoc,List.getElem?_append_left hjl]
 exact hj
theorem pM {B:Nat} {w:World} {b n c i:Nat} {vs:List (List Value)} {sp:List Value} {es:List aM} {x:aM} (f:Nat) (hf:f≤6) (hc:aV w b dM (vs.flatten++sp).toArray) (h:cX (dA B) 28 w n 0 c [] vs sp es) (hx:es[i]? =some x):
  ∃ s p a k t y m d,aK w B (.agg #[.bool s,.slice p a k,.bool t,.slice y m d]) (x.jC f)∧∀ off,off=i * 28 + 4 * f→∀ (j:Nat) (u:Value),([.bool s,.slice p a k,.bool t,.slice y m d]:List Value)[j]? =some u→w.cell? ((⟨b,off,none⟩:Addr).add j)=some u:=by
 obtain ⟨cs,hE,hcs⟩:=DX (aB B) hc h hx
 obtain ⟨a,pre,post,e,hl,s,p,n',c',t,y,m,d,rfl,hq⟩:=MT hE f hf
 exact ⟨s,p,n',c',t,y,m,d,hq,fun off ho=>hcs pre _ post e off (by rw [hl];exact ho)⟩
theorem Hu {B:Nat} {w:World} {b n c i:Nat} {vs:List (List Value)} {sp:List Value} {es:List Uq} {x:Uq} (hc:aV w b ey (vs.flatten++sp).toArray) (h:cX (nK B) 6 w n 0 c [] vs sp es) (hx:es[i]? =some x):
  ∃ s p a k t y m d,aK w B (.agg #[.bool s,.slice p a k,.bool t,.slice y m d]) x.2.2∧(∀ off,off=i * 6 + 2→∀ (j:Nat) (u:Value),([.bool s,.slice p a k,.bool t,.slice y m d]:List Value)[j]? =some u→w.cell? ((⟨b,off,none⟩:Addr).add j)=some u)∧
    (∀ off,off=i * 6 + 1→∀ (j:Nat) (u:Value),([.int .i64 (x.2.1:Int)]:List Value)[j]? =some u→w.cell? ((⟨b,off,none⟩:Addr).add j)=some u)∧(∀ off,off=i * 6→∀ (j:Nat) (u:Value),([.int .i64 (x.1:Int)]:List Value)[j]? =some u→w.cell? ((⟨b,off,none⟩:Addr).add j)=some u)∧
    (∀ off,off=i * 6→∀ (j:Nat) (u:Value),([.int .i64 (x.1:Int),.int .i64 (x.2.1:Int),.bool s,.slice p a k,.bool t,.slice y m d]:List Value)[j]? =some u→w.cell? ((⟨b,off,none⟩:Addr).add j)=some u):=by
 obtain ⟨cs,hE,hcs⟩:=DX (dk B) hc h hx
 obtain ⟨s,p,n',c',t,y,m,d,rfl,hq⟩:=hE
 exact ⟨s,p,n',c',t,y,m,d,hq,fun off ho=>hcs [.int .i64 (x.1:Int),.int .i64 (x.2.1:Int)] _ [] rfl off ho,fun off ho=>hcs [.int .i64 (x.1:Int)] [.int .i64 (x.2.1:Int)] [.bool s,.slice p n' c',.bool t,.slice y m d] rfl off ho,fun off ho=>hcs [] [.int .i64 (x.1:Int)] [.int .i64 (x.2.1:Int),.bool s,.slice p n' c',.bool t,.slice y m d] rfl off ho,fun off ho=>hcs [] _ [] rfl off ho⟩
end Go.Proofs.YtabalinjfgcfeaaGreat
set_option maxRecDepth 4000
namespace Go.Proofs.YtabalinjfgcfeaaGreat
open Go.RowKit
attribute [local irreducible] aA VS
set_option maxRecDepth 4000 in
set_option maxHeartbeats 8000000 in
theorem lj (w:World):Calls Tryz.prog 9 #[] w fun o w'=>o=.returned (.bool true)∧aj w w':=by
 have hsS:fo exS 2:=AU (by decide) (by decide) (by decide) (by decide)
 have hsF:fo exF 2:=AU (by decide) (by decide) (by decide) (by decide)
 have hS3:Lm 3 exS:=by unfold Lm;decide +kernel
 have hF3:Lm 3 exF:=by unfold Lm;decide +kernel
 refine aw (C:=zU Tryz.prog w _) (args:=[]) Tryz.func9 rfl Tryz.ntmps9 (Nat.le_of_ble_eq_true rfl) ?_
 (repeat first|refine wN ?_|refine wP rfl ?_|refine dP rfl ?_|refine dQ rfl ?_|refine wO rfl rfl ?_)
 refine VO.call rfl rfl (fk Tryz.func33) (fun cB eu dt=>(lL cB).mono ?_)
 rintro e w1 ⟨r1,rfl,q1,aU⟩
 skip
 refine ⟨_,rfl,aU,fun fq _ bb1=>wV rfl ?_⟩
 (repeat first|refine wN ?_|refine wP rfl ?_|refine dP rfl ?_|refine dQ rfl ?_|refine wO rfl rfl ?_)
 refine VO.call rfl rfl (fk Tryz.func32) (fun dR gS eW=>(gN 200 400 dR (by omega) (by omega) (by omega) (by omega)).mono ?_)
 rintro e w2 ⟨r2,rfl,⟨s2,p2,n2,c2,t2,y2,m2,d2,e2,f2,g2,h2,i2,j2,k2,l2,rfl,q2⟩,bn⟩
 skip
 refine ⟨_,rfl,bn,fun gw _ bb2=>wV rfl ?_⟩
 (repeat first|refine wN ?_|refine wP rfl ?_|refine dP rfl ?_|refine dQ rfl ?_|refine wO rfl rfl ?_)
 refine VO.gi rfl (fk Tryz.func11) (fun gY β iD jd ho=>((yg _ _ exS exF 2 1 [((Rat.divInt 200 1),(Rat.divInt 400 1))] gY (q1.kp kL) (na (fE 2) (ho.own 11 (.base (List.mem_singleton.2 rfl)) _ _ rfl) [] (vs:=[[.bool s2,.slice p2 n2 c2,.bool t2,.slice y2 m2 d2,.bool e2,.slice f2 g2 h2,.bool i2,.slice j2 k2 l2]]) (by rfl) (cM.cons ((fE 2).kp q2 kL) (cM.nil)) rfl (Nat.le_of_ble_eq_true rfl) (by decide)) hsS hsF (by decide +kernel) (by decide +kernel) (by decide) (by decide) (by decide) hS3 hF3 (by decide +kernel) _ led_x).mono (fun o w2 h=>And.intro h jd.size)).mono ?_)
 rintro o w3 ⟨⟨r3,u3,rfl,l3,cI⟩,yO⟩
 obtain ⟨pr3,cr3,pu3,cu3,rfl,rfl⟩:=l3.form
 refine ⟨_,rfl,cI,fun kS _ bb3=>wV rfl ?_⟩
 (repeat first|refine wN ?_|refine wP rfl ?_|refine dP rfl ?_|refine dQ rfl ?_|refine wO rfl rfl ?_)
 refine VO.call rfl rfl (fk Tryz.func33) (fun mW pV nI=>(lL mW).mono ?_)
 rintro e w4 ⟨r4,rfl,q4,gI⟩
 skip
 refine ⟨_,rfl,gI,fun oL _ AM=>wV rfl ?_⟩
 (repeat first|refine wN ?_|refine wP rfl ?_|refine dP rfl ?_|refine dQ rfl ?_|refine wO rfl rfl ?_)
 refine VO.call rfl rfl (fk Tryz.func32) (fun jK mD jy=>(gN 200 400 jK (by omega) (by omega) (by omega) (by omega)).mono ?_)
 rintro e w5 ⟨r5,rfl,⟨s5,p5,n5,c5,t5,y5,m5,d5,e5,f5,g5,h5,i5,j5,k5,l5,rfl,q5⟩,fY⟩
 skip
 refine ⟨_,rfl,fY,fun mX _ vQ=>wV rfl ?_⟩
 (repeat first|refine wN ?_|refine wP rfl ?_|refine dP rfl ?_|refine dQ rfl ?_|refine wO rfl rfl ?_)
 refine VO.call rfl rfl (fk Tryz.func32) (fun pW uC uZ=>(gN 20 300 pW (by omega) (by omega) (by omega) (by omega)).mono ?_)
 rintro e w6 ⟨r6,rfl,⟨s6,p6,n6,c6,t6,y6,m6,d6,e6,f6,g6,h6,i6,j6,k6,l6,rfl,q6⟩,ny⟩
 skip
 refine ⟨_,rfl,ny,fun tD _ Dl=>wV rfl ?_⟩
 (repeat first|refine wN ?_|refine wP rfl ?_|refine dP rfl ?_|refine dQ rfl ?_|refine wO rfl rfl ?_)
 refine VO.call rfl rfl (fk Tryz.func32) (fun yH Em xE=>(gN (-10) 0 yH (by omega) (by omega) (by omega) (by omega)).mono ?_)
 rintro e w7 ⟨r7,rfl,⟨s7,p7,n7,c7,t7,y7,m7,d7,e7,f7,g7,h7,i7,j7,k7,l7,rfl,q7⟩,uX⟩
 skip
 refine ⟨_,rfl,uX,fun zK _ bb7=>wV rfl ?_⟩
 (repeat first|refine wN ?_|refine wP rfl ?_|refine dP rfl ?_|refine dQ rfl ?_|refine wO rfl rfl ?_)
 refine VO.gi rfl (fk Tryz.func11) (fun vc β Fu yI ho=>((yg _ _ exS exF 2 3 [((Rat.divInt 200 1),(Rat.divInt 400 1)),((Rat.divInt 20 1),(Rat.divInt 300 1)),((Rat.divInt (-10) 1),(Rat.divInt 0 1))] vc (q4.kp kL) (na (fE 2) (ho.own 20 (.base (List.mem_singleton.2 rfl)) _ _ rfl) [] (vs:=[[.bool s5,.slice p5 n5 c5,.bool t5,.slice y5 m5 d5,.bool e5,.slice f5 g5 h5,.bool i5,.slice j5 k5 l5],[.bool s6,.slice p6 n6 c6,.bool t6,.slice y6 m6 d6,.bool e6,.slice f6 g6 h6,.bool i6,.slice j6 k6 l6],[.bool s7,.slice p7 n7 c7,.bool t7,.slice y7 m7 d7,.bool e7,.slice f7 g7 h7,.bool i7,.slice j7 k7 l7]]) (by rfl) (cM.cons ((fE 2).kp q5 kL) (cM.cons ((fE 2).kp q6 kL) (cM.cons ((fE 2).kp q7 kL) (cM.nil)))) rfl (Nat.le_of_ble_eq_true rfl) (by decide)) hsS hsF (by decide +kernel) (by decide +kernel) (by decide) (by decide) (by decide) hS3 hF3 (by decide +kernel) _ led_y).mono (fun o w2 h=>And.intro h yI.size)).mono ?_)
 rintro o w8 ⟨⟨r8,u8,rfl,l8,re⟩,yQ⟩
 obtain ⟨pr8,cr8,pu8,cu8,rfl,rfl⟩:=l8.form
 refine ⟨_,rfl,re,fun vT _ JZ=>wV rfl ?_⟩
 (repeat first|refine wN ?_|refine wP rfl ?_|refine dP rfl ?_|refine dQ rfl ?_|refine wO rfl rfl ?_)
 refine VO.call rfl rfl (fk Tryz.func33) (fun wa9 ka9 ba9=>(lL wa9).mono ?_)
 rintro e w9 ⟨r9,rfl,q9,Gv⟩
 skip
 refine ⟨_,rfl,Gv,fun Bz _ bb9=>wV rfl ?_⟩
 (repeat first|refine wN ?_|refine wP rfl ?_|refine dP rfl ?_|refine dQ rfl ?_|refine wO rfl rfl ?_)
 refine VO.call rfl rfl (fk Tryz.func32) (fun tG xF Dm=>(gN 200 400 tG (by omega) (by omega) (by omega) (by omega)).mono ?_)
 rintro e w10 ⟨r10,rfl,⟨s10,p10,n10,c10,t10,y10,m10,d10,e10,f10,g10,h10,i10,j10,JA,l10,rfl,q10⟩,tH⟩
 skip
 refine ⟨_,rfl,tH,fun iG _ Jg=>wV rfl ?_⟩
 (repeat first|refine wN ?_|refine wP rfl ?_|refine dP rfl ?_|refine dQ rfl ?_|refine wO rfl rfl ?_)
 refine VO.call rfl rfl (fk Tryz.func32) (fun xG AP Fv=>(gN 100 0 xG (by omega) (by omega) (by omega) (by omega)).mono ?_)
 rintro e w11 ⟨r11,rfl,⟨s11,p11,n11,c11,t11,y11,m11,d11,e11,f11,g11,h11,i11,j11,k11,l11,rfl,q11⟩,xH⟩
 skip
 refine ⟨_,rfl,xH,fun lH _ LN=>wV rfl ?_⟩
 (repeat first|refine wN ?_|refine wP rfl ?_|refine dP rfl ?_|refine dQ rfl ?_|refine wO rfl rfl ?_)
 refine VO.call rfl rfl (fk Tryz.func32) (fun xI AQ Fw=>(gN 300 100 xI (by omega) (by omega) (by omega) (by omega)).mono ?_)
 rintro e w12 ⟨r12,rfl,⟨s12,p12,n12,c12,t12,y12,m12,d12,e12,f12,g12,zF,i12,j12,k12,l12,rfl,q12⟩,xJ⟩
 skip
 refine ⟨_,rfl,xJ,fun oN _ LO=>wV rfl ?_⟩
 (repeat first|refine wN ?_|refine wP rfl ?_|refine dP rfl ?_|refine dQ rfl ?_|refine wO rfl rfl ?_)
 refine VO.gi rfl (fk Tryz.func11) (fun LP β ka13 ba13 ho=>((yg _ _ exS exF 2 3 [((Rat.divInt 200 1),(Rat.divInt 400 1)),((Rat.divInt 100 1),(Rat.divInt 0 1)),((Rat.divInt 300 1),(Rat.divInt 100 1))] LP (q9.kp kL) (na (fE 2) (ho.own 29 (.base (List.mem_singleton.2 rfl)) _ _ rfl) [] (vs:=[[.bool s10,.slice p10 n10 c10,.bool t10,.slice y10 m10 d10,.bool e10,.slice f10 g10 h10,.bool i10,.slice j10 JA l10],[.bool s11,.slice p11 n11 c11,.bool t11,.slice y11 m11 d11,.bool e11,.slice f11 g11 h11,.bool i11,.slice j11 k11 l11],[.bool s12,.slice p12 n12 c12,.bool t12,.slice y12 m12 d12,.bool e12,.slice f12 g12 zF,.bool i12,.slice j12 k12 l12]]) (by rfl) (cM.cons ((fE 2).kp q10 kL) (cM.cons ((fE 2).kp q11 kL) (cM.cons ((fE 2).kp q12 kL) (cM.nil)))) rfl (Nat.le_of_ble_eq_true rfl) (by decide)) hsS hsF (by decide +kernel) (by decide +kernel) (by decide) (by decide) (by decide) hS3 hF3 (by decide +kernel) _ led_z).mono (fun o w2 h=>And.intro h ba13.size)).mono ?_)
 rintro o oO ⟨⟨r13,u13,rfl,l13,LQ⟩,hsz13⟩
 obtain ⟨pr13,cr13,pu13,cu13,rfl,rfl⟩:=l13.form
 refine ⟨_,rfl,LQ,fun yJ _ bb13=>wV rfl ?_⟩
 (repeat (first | refine wN ?_ | refine wP rfl ?_ | refine wO rfl rfl ?_))
 refine VS.sJ (KU UU) (fun t=>Nat.beq t 22) table (fun _ _ _=>trivial) (fun Fx β k14 b14 en=> ?_)
 have o1:=en.own 1 _ _ rfl
 have o3:=en.own 3 _ _ rfl
 have o5:=en.own 5 _ _ rfl
 have h13:β 1≠β 3:=fun e=>absurd (en.apart 1 3 (by intro h;cases h) (by intro h;cases h) e) (by decide)
 have h15:β 1≠β 5:=fun e=>absurd (en.apart 1 5 (by intro h;cases h) (by intro h;cases h) e) (by decide)
 have h35:β 3≠β 5:=fun e=>absurd (en.apart 3 5 (by intro h;cases h) (by intro h;cases h) e) (by decide)
 have kk3:aF (zU Tryz.prog w 161).K w3 Fx:=((((((((((oL).aI mX).aI tD).aI zK).aI vT).aI Bz).aI iG).aI lH).aI oN).aI yJ).aI k14
 have l3':=l3.kpF (yf w 161) kk3 kk3.wU
 have kk8:aF (zU Tryz.prog w 161).K w8 Fx:=(((((Bz).aI iG).aI lH).aI oN).aI yJ).aI k14
 have l8':=l8.kpF (yf w 161) kk8 kk8.wU
 have kk13:aF (zU Tryz.prog w 161).K oO Fx:=k14
 have l13':=l13.kpF (yf w 161) kk13 kk13.wU
 have pX:iI (KU UU) 161 [β 1,β 3,β 5] [(qW,[.val (.slice pr3 1 cr3),.val (.slice pu3 0 cu3)]),(qW,[.val (.slice pr8 3 cr8),.val (.slice pu8 2 cu8)]),(qW,[.val (.slice pr13 3 cr13),.val (.slice pu13 0 cu13)])] Fx:=by
  refine ⟨rfl,by simp [h13,h15,h35],fun j g' c' hj hc=> ?_,fun c' hc=> ?_,fun c' hc k hk=> ?_⟩
  ·match j,hj,hc with
   | 0,hj,hc=>cases hj;cases hc;exact o1.cls
   | 1,hj,hc=>cases hj;cases hc;exact o3.cls
   | 2,hj,hc=>cases hj;cases hc;exact o5.cls
   | j + 3,hj,_=>simp at hj
  ·simp only [List.mem_cons,List.not_mem_nil,or_false] at hc
   rcases hc with rfl | rfl | rfl <;> exact ⟨rfl,rfl⟩
  ·simp only [List.mem_cons,List.not_mem_nil,or_false] at hc
   rcases hc with rfl | rfl | rfl <;> cases hk
 have g1:=o1.cls
 have g3:=o3.cls
 have g5:=o5.cls
 refine ⟨[β 1,β 3,β 5],_,pX,[(0,.val (.bool false)),(1,.box 322 0),(2,.val (.int .i64 0)),(3,.box 323 0),(4,.val (.int .i64 0)),(5,.box 324 0),(6,.val (.int .i64 0))],⟨⟨_,rfl,rfl,fun i hi=>(by cases hi)⟩,⟨_,rfl,rfl,fun i hi=>by rw [(by simpa [AV.ids] using hi:i=322)];exact ⟨(by show 322≤322;omega),(by show 322 < 2 * 161 + 3;omega)⟩⟩,⟨_,rfl,rfl,fun i hi=>(by cases hi)⟩,⟨_,rfl,rfl,fun i hi=>by rw [(by simpa [AV.ids] using hi:i=323)];exact ⟨(by show 322≤323;omega),(by show 323 < 2 * 161 + 3;omega)⟩⟩,⟨_,rfl,rfl,fun i hi=>(by cases hi)⟩,⟨_,rfl,rfl,fun i hi=>by rw [(by simpa [AV.ids] using hi:i=324)];exact ⟨(by show 322≤324;omega),(by show 324 < 2 * 161 + 3;omega)⟩⟩,⟨_,rfl,rfl,fun i hi=>(by cases hi)⟩,trivial⟩,?_⟩
 obtain ⟨rb3,hB3,nn3,cc3,Hl,Hm,e3',vi,hor3⟩:=l3'.1.resolve_left (fun h=>by cases h.2)
 simp only [Value.slice.injEq] at e3'
 obtain ⟨rfl,rfl,rfl⟩:=e3'
 obtain ⟨rb13,hB13,nn13,cc13,vs13,sp13,e13',nC,MU⟩:=l13'.1.resolve_left (fun h=>by cases h.2)
 simp only [Value.slice.injEq] at e13'
 obtain ⟨rfl,rfl,rfl⟩:=e13'
 obtain ⟨rb8,hB8,nn8,cc8,vs8,sp8,e8',vm,hor8⟩:=l8'.2.resolve_left (fun h=>by cases h.2)
 simp only [Value.slice.injEq] at e8'
 obtain ⟨rfl,rfl,rfl⟩:=e8'
 have hn3:rb3∉[β 1,β 3,β 5]:=fun hm=>by
  simp only [List.mem_cons,List.not_mem_nil,or_false] at hm
  rcases hm with h | h | h
  ·rw [h] at vi;exact absurd (bo vi g1) (by decide)
  ·rw [h] at vi;exact absurd (bo vi g3) (by decide)
  ·rw [h] at vi;exact absurd (bo vi g5) (by decide)
 have hn8:rb8∉[β 1,β 3,β 5]:=fun hm=>by
  simp only [List.mem_cons,List.not_mem_nil,or_false] at hm
  rcases hm with h | h | h
  ·rw [h] at vm;exact absurd (bo vm g1) (by decide)
  ·rw [h] at vm;exact absurd (bo vm g3) (by decide)
  ·rw [h] at vm;exact absurd (bo vm g5) (by decide)
 have hn13:rb13∉[β 1,β 3,β 5]:=fun hm=>by
  simp only [List.mem_cons,List.not_mem_nil,or_false] at hm
  rcases hm with h | h | h
  ·rw [h] at nC;exact absurd (bo nC g1) (by decide)
  ·rw [h] at nC;exact absurd (bo nC g3) (by decide)
  ·rw [h] at nC;exact absurd (bo nC g5) (by decide)
 obtain ⟨s20,p20,n20,c20,t20,y20,m20,d20,hq20,hc20⟩:=pM 0 (by decide) vi hor3 (i:=0) rfl
 obtain ⟨s21,p21,n21,c21,t21,y21,m21,d21,hq21,hc21⟩:=pM 2 (by decide) vi hor3 (i:=0) rfl
 obtain ⟨s22,p22,n22,c22,t22,y22,m22,d22,hq22,hc22⟩:=pM 6 (by decide) vi hor3 (i:=0) rfl
 obtain ⟨s25,p25,n25,c25,t25,y25,m25,d25,hq25,hc25⟩:=pM 5 (by decide) nC MU (i:=0) rfl
 obtain ⟨s26,p26,n26,c26,t26,y26,m26,d26,hq26,hc26⟩:=pM 6 (by decide) nC MU (i:=1) rfl
 obtain ⟨s27,p27,n27,c27,t27,y27,m27,d27,hq27,hc27⟩:=pM 6 (by decide) nC MU (i:=2) rfl
 obtain ⟨s23,p23,n23,c23,t23,y23,m23,d23,hq23,hc23,hy23,-⟩:=Hu vm hor8 (i:=0) rfl
 obtain ⟨s24,p24,n24,c24,t24,y24,m24,d24,hq24,hc24,hy24,-⟩:=Hu vm hor8 (i:=1) rfl
 (repeat first|refine wN ?_|refine wP rfl ?_|refine af rfl ?_|refine ag rfl ?_|refine wO rfl rfl ?_)
 refine VO.cond rfl ⟨by decide,by decide⟩ (wV rfl ?_)
 (repeat first|refine wN ?_|refine wP rfl ?_|refine af rfl ?_|refine ag rfl ?_|refine wO rfl rfl ?_)
 refine VO.jx rfl [.bool s20,.slice p20 n20 c20,.bool t20,.slice y20 m20 d20] rfl (nB vi.lt hn3 (hc20 _ rfl)) (wV rfl ?_)
 (repeat first|refine wN ?_|refine wP rfl ?_|refine af rfl ?_|refine ag rfl ?_|refine wO rfl rfl ?_)
 refine VO.call rfl rfl (fk Tryz.func31) (fun wa40 ka40 ba40=>(dV 120 1 wa40 (by omega) (by omega) (by omega) (by omega)).mono ?_)
 rintro e w40 ⟨r40,rfl,q40,hb40⟩
 obtain ⟨s40,p40,n40,c40,t40,y40,m40,d40,rfl⟩:=q40.form
 refine ⟨_,rfl,hb40,fun kb40 _ bb40=>wV rfl ?_⟩
 (repeat first|refine wN ?_|refine wP rfl ?_|refine af rfl ?_|refine ag rfl ?_|refine wO rfl rfl ?_)
 refine VO.call rfl rfl (fk Tryz.func12) (fun wa41 ka41 ba41=>(cT _ _ (Rat.divInt 120 1) (Rat.divInt 120 1) 2 2 wa41 ((show aK Fx _ _ (Rat.divInt 120 1) from hq20).ki (nO 120 (by omega) (by omega))) (q40.ki (nO 120 (by omega) (by omega))) (by omega) (by omega) 0 (eV rfl)).mono ?_)
 rintro e w41 ⟨rfl,hb41⟩
 refine ⟨_,rfl,hb41,fun kb41 _ bb41=>wV rfl ?_⟩
 (repeat first|refine wN ?_|refine wP rfl ?_|refine af rfl ?_|refine ag rfl ?_|refine wO rfl rfl ?_)
 refine VO.cond rfl ⟨by decide,by decide⟩ (wV rfl ?_)
 (repeat first|refine wN ?_|refine wP rfl ?_|refine af rfl ?_|refine ag rfl ?_|refine wO rfl rfl ?_)
 refine VO.jx rfl [.bool s21,.slice p21 n21 c21,.bool t21,.slice y21 m21 d21] rfl (nB vi.lt hn3 (hc21 _ rfl)) (wV rfl ?_)
 (repeat first|refine wN ?_|refine wP rfl ?_|refine af rfl ?_|refine ag rfl ?_|refine wO rfl rfl ?_)
 refine VO.call rfl rfl (fk Tryz.func31) (fun wa42 ka42 ba42=>(dV 80 1 wa42 (by omega) (by omega) (by omega) (by omega)).mono ?_)
 rintro e w42 ⟨r42,rfl,q42,hb42⟩
 obtain ⟨s42,p42,n42,c42,t42,y42,m42,d42,rfl⟩:=q42.form
 refine ⟨_,rfl,hb42,fun kb42 _ bb42=>wV rfl ?_⟩
 (repeat first|refine wN ?_|refine wP rfl ?_|refine af rfl ?_|refine ag rfl ?_|refine wO rfl rfl ?_)
 refine VO.call rfl rfl (fk Tryz.func12) (fun wa43 ka43 ba43=>(cT _ _ (Rat.divInt 80 1) (Rat.divInt 80 1) 2 2 wa43 ((show aK Fx _ _ (Rat.divInt 80 1) from hq21).ki (nO 80 (by omega) (by omega))) (q42.ki (nO 80 (by omega) (by omega))) (by omega) (by omega) 0 (eV rfl)).mono ?_)
 rintro e w43 ⟨rfl,hb43⟩
 refine ⟨_,rfl,hb43,fun kb43 _ bb43=>wV rfl ?_⟩
 (repeat first|refine wN ?_|refine wP rfl ?_|refine af rfl ?_|refine ag rfl ?_|refine wO rfl rfl ?_)
 refine VO.cond rfl ⟨by decide,by decide⟩ (wV rfl ?_)
 (repeat first|refine wN ?_|refine wP rfl ?_|refine af rfl ?_|refine ag rfl ?_|refine wO rfl rfl ?_)
 refine VO.jx rfl [.bool s22,.slice p22 n22 c22,.bool t22,.slice y22 m22 d22] rfl (nB vi.lt hn3 (hc22 _ rfl)) (wV rfl ?_)
 (repeat first|refine wN ?_|refine wP rfl ?_|refine af rfl ?_|refine ag rfl ?_|refine wO rfl rfl ?_)
 refine VO.call rfl rfl (fk Tryz.func31) (fun wa44 ka44 ba44=>(dV 80 1 wa44 (by omega) (by omega) (by omega) (by omega)).mono ?_)
 rintro e w44 ⟨r44,rfl,q44,hb44⟩
 obtain ⟨s44,p44,n44,c44,t44,y44,m44,d44,rfl⟩:=q44.form
 refine ⟨_,rfl,hb44,fun kb44 _ bb44=>wV rfl ?_⟩
 (repeat first|refine wN ?_|refine wP rfl ?_|refine af rfl ?_|refine ag rfl ?_|refine wO rfl rfl ?_)
 refine VO.call rfl rfl (fk Tryz.func12) (fun wa45 ka45 ba45=>(cT _ _ (Rat.divInt 80 1) (Rat.divInt 80 1) 2 2 wa45 ((show aK Fx _ _ (Rat.divInt 80 1) from hq22).ki (nO 80 (by omega) (by omega))) (q44.ki (nO 80 (by omega) (by omega))) (by omega) (by omega) 0 (eV rfl)).mono ?_)
 rintro e w45 ⟨rfl,hb45⟩
 refine ⟨_,rfl,hb45,fun kb45 _ bb45=>wV rfl ?_⟩
 (repeat first|refine wN ?_|refine wP rfl ?_|refine af rfl ?_|refine ag rfl ?_|refine wO rfl rfl ?_)
 refine VO.cond rfl ⟨by decide,by decide⟩ (wV rfl ?_)
 (repeat first|refine wN ?_|refine wP rfl ?_|refine af rfl ?_|refine ag rfl ?_|refine wO rfl rfl ?_)
 refine VO.jx rfl [.bool s23,.slice p23 n23 c23,.bool t23,.slice y23 m23 d23] rfl (nB vm.lt hn8 (hc23 _ rfl)) (wV rfl ?_)
 (repeat first|refine wN ?_|refine wP rfl ?_|refine af rfl ?_|refine ag rfl ?_|refine wO rfl rfl ?_)
 refine VO.call rfl rfl (fk Tryz.func31) (fun wa46 ka46 ba46=>(dV 70 1 wa46 (by omega) (by omega) (by omega) (by omega)).mono ?_)
 rintro e w46 ⟨r46,rfl,q46,hb46⟩
 obtain ⟨s46,p46,n46,c46,t46,y46,m46,d46,rfl⟩:=q46.form
 refine ⟨_,rfl,hb46,fun kb46 _ bb46=>wV rfl ?_⟩
 (repeat first|refine wN ?_|refine wP rfl ?_|refine af rfl ?_|refine ag rfl ?_|refine wO rfl rfl ?_)
 refine VO.call rfl rfl (fk Tryz.func12) (fun wa47 ka47 ba47=>(cT _ _ (Rat.divInt 70 1) (Rat.divInt 70 1) 2 2 wa47 ((show aK Fx _ _ (Rat.divInt 70 1) from hq23).ki (nO 70 (by omega) (by omega))) (q46.ki (nO 70 (by omega) (by omega))) (by omega) (by omega) 0 (eV rfl)).mono ?_)
 rintro e w47 ⟨rfl,hb47⟩
 refine ⟨_,rfl,hb47,fun kb47 _ bb47=>wV rfl ?_⟩
 (repeat first|refine wN ?_|refine wP rfl ?_|refine af rfl ?_|refine ag rfl ?_|refine wO rfl rfl ?_)
 refine VO.cond rfl ⟨by decide,by decide⟩ (wV rfl ?_)
 (repeat first|refine wN ?_|refine wP rfl ?_|refine af rfl ?_|refine ag rfl ?_|refine wO rfl rfl ?_)
 refine VO.jx rfl [.int .i64 ((1:Nat):Int)] rfl (nB vm.lt hn8 (hy23 _ rfl)) (wV rfl ?_)
 (repeat first|refine wN ?_|refine wP rfl ?_|refine af rfl ?_|refine ag rfl ?_|refine wO rfl rfl ?_)
 refine VO.cond rfl ⟨by decide,by decide⟩ (wV rfl ?_)
 (repeat first|refine wN ?_|refine wP rfl ?_|refine af rfl ?_|refine ag rfl ?_|refine wO rfl rfl ?_)
 refine VO.jx rfl [.bool s24,.slice p24 n24 c24,.bool t24,.slice y24 m24 d24] rfl (nB vm.lt hn8 (hc24 _ rfl)) (wV rfl ?_)
 (repeat first|refine wN ?_|refine wP rfl ?_|refine af rfl ?_|refine ag rfl ?_|refine wO rfl rfl ?_)
 refine VO.call rfl rfl (fk Tryz.func31) (fun wa48 ka48 ba48=>(dV 10 1 wa48 (by omega) (by omega) (by omega) (by omega)).mono ?_)
 rintro e w48 ⟨r48,rfl,q48,hb48⟩
 obtain ⟨s48,p48,n48,c48,t48,y48,m48,d48,rfl⟩:=q48.form
 refine ⟨_,rfl,hb48,fun kb48 _ bb48=>wV rfl ?_⟩
 (repeat first|refine wN ?_|refine wP rfl ?_|refine af rfl ?_|refine ag rfl ?_|refine wO rfl rfl ?_)
 refine VO.call rfl rfl (fk Tryz.func12) (fun wa49 ka49 ba49=>(cT _ _ (Rat.divInt 10 1) (Rat.divInt 10 1) 2 2 wa49 ((show aK Fx _ _ (Rat.divInt 10 1) from hq24).ki (nO 10 (by omega) (by omega))) (q48.ki (nO 10 (by omega) (by omega))) (by omega) (by omega) 0 (eV rfl)).mono ?_)
 rintro e w49 ⟨rfl,hb49⟩
 refine ⟨_,rfl,hb49,fun kb49 _ bb49=>wV rfl ?_⟩
 (repeat first|refine wN ?_|refine wP rfl ?_|refine af rfl ?_|refine ag rfl ?_|refine wO rfl rfl ?_)
 refine VO.cond rfl ⟨by decide,by decide⟩ (wV rfl ?_)
 (repeat first|refine wN ?_|refine wP rfl ?_|refine af rfl ?_|refine ag rfl ?_|refine wO rfl rfl ?_)
 refine VO.jx rfl [.int .i64 ((2:Nat):Int)] rfl (nB vm.lt hn8 (hy24 _ rfl)) (wV rfl ?_)
 (repeat first|refine wN ?_|refine wP rfl ?_|refine af rfl ?_|refine ag rfl ?_|refine wO rfl rfl ?_)
 refine VO.cond rfl ⟨by decide,by decide⟩ (wV rfl ?_)
 (repeat first|refine wN ?_|refine wP rfl ?_|refine af rfl ?_|refine ag rfl ?_|refine wO rfl rfl ?_)
 refine VO.jx rfl [.bool s25,.slice p25 n25 c25,.bool t25,.slice y25 m25 d25] rfl (nB nC.lt hn13 (hc25 _ rfl)) (wV rfl ?_)
 (repeat first|refine wN ?_|refine wP rfl ?_|refine af rfl ?_|refine ag rfl ?_|refine wO rfl rfl ?_)
 refine VO.call rfl rfl (fk Tryz.func31) (fun wa50 ka50 ba50=>(dV 80 1 wa50 (by omega) (by omega) (by omega) (by omega)).mono ?_)
 rintro e w50 ⟨r50,rfl,q50,hb50⟩
 obtain ⟨s50,p50,n50,c50,t50,y50,m50,d50,rfl⟩:=q50.form
 refine ⟨_,rfl,hb50,fun kb50 _ bb50=>wV rfl ?_⟩
 (repeat first|refine wN ?_|refine wP rfl ?_|refine af rfl ?_|refine ag rfl ?_|refine wO rfl rfl ?_)
 refine VO.call rfl rfl (fk Tryz.func12) (fun wa51 ka51 ba51=>(cT _ _ (Rat.divInt 80 1) (Rat.divInt 80 1) 2 2 wa51 ((show aK Fx _ _ (Rat.divInt 80 1) from hq25).ki (nO 80 (by omega) (by omega))) (q50.ki (nO 80 (by omega) (by omega))) (by omega) (by omega) 0 (eV rfl)).mono ?_)
 rintro e w51 ⟨rfl,hb51⟩
 refine ⟨_,rfl,hb51,fun kb51 _ bb51=>wV rfl ?_⟩
 (repeat first|refine wN ?_|refine wP rfl ?_|refine af rfl ?_|refine ag rfl ?_|refine wO rfl rfl ?_)
 refine VO.cond rfl ⟨by decide,by decide⟩ (wV rfl ?_)
 (repeat first|refine wN ?_|refine wP rfl ?_|refine af rfl ?_|refine ag rfl ?_|refine wO rfl rfl ?_)
 refine VO.jx rfl [.bool s26,.slice p26 n26 c26,.bool t26,.slice y26 m26 d26] rfl (nB nC.lt hn13 (hc26 _ rfl)) (wV rfl ?_)
 (repeat first|refine wN ?_|refine wP rfl ?_|refine af rfl ?_|refine ag rfl ?_|refine wO rfl rfl ?_)
 refine VO.call rfl rfl (fk Tryz.func31) (fun wa52 ka52 ba52=>(dV 50 1 wa52 (by omega) (by omega) (by omega) (by omega)).mono ?_)
 rintro e w52 ⟨r52,rfl,q52,hb52⟩
 obtain ⟨s52,p52,n52,c52,t52,y52,m52,d52,rfl⟩:=q52.form
 refine ⟨_,rfl,hb52,fun kb52 _ bb52=>wV rfl ?_⟩
 (repeat first|refine wN ?_|refine wP rfl ?_|refine af rfl ?_|refine ag rfl ?_|refine wO rfl rfl ?_)
 refine VO.call rfl rfl (fk Tryz.func12) (fun wa53 ka53 ba53=>(cT _ _ (Rat.divInt 50 1) (Rat.divInt 50 1) 2 2 wa53 ((show aK Fx _ _ (Rat.divInt 50 1) from hq26).ki (nO 50 (by omega) (by omega))) (q52.ki (nO 50 (by omega) (by omega))) (by omega) (by omega) 0 (eV rfl)).mono ?_)
 rintro e w53 ⟨rfl,hb53⟩
 refine ⟨_,rfl,hb53,fun kb53 _ bb53=>wV rfl ?_⟩
 (repeat first|refine wN ?_|refine wP rfl ?_|refine af rfl ?_|refine ag rfl ?_|refine wO rfl rfl ?_)
 refine VO.cond rfl ⟨by decide,by decide⟩ (wV rfl ?_)
 (repeat first|refine wN ?_|refine wP rfl ?_|refine af rfl ?_|refine ag rfl ?_|refine wO rfl rfl ?_)
 refine VO.jx rfl [.bool s27,.slice p27 n27 c27,.bool t27,.slice y27 m27 d27] rfl (nB nC.lt hn13 (hc27 _ rfl)) (wV rfl ?_)
 (repeat first|refine wN ?_|refine wP rfl ?_|refine af rfl ?_|refine ag rfl ?_|refine wO rfl rfl ?_)
 refine VO.call rfl rfl (fk Tryz.func31) (fun wa54 ka54 ba54=>(dV 250 1 wa54 (by omega) (by omega) (by omega) (by omega)).mono ?_)
 rintro e w54 ⟨r54,rfl,q54,hb54⟩
 obtain ⟨s54,p54,n54,c54,t54,y54,m54,d54,rfl⟩:=q54.form
 refine ⟨_,rfl,hb54,fun kb54 _ bb54=>wV rfl ?_⟩
 (repeat first|refine wN ?_|refine wP rfl ?_|refine af rfl ?_|refine ag rfl ?_|refine wO rfl rfl ?_)
 refine VO.call rfl rfl (fk Tryz.func12) (fun wa55 ka55 ba55=>(cT _ _ (Rat.divInt 250 1) (Rat.divInt 250 1) 2 2 wa55 ((show aK Fx _ _ (Rat.divInt 250 1) from hq27).ki (nO 250 (by omega) (by omega))) (q54.ki (nO 250 (by omega) (by omega))) (by omega) (by omega) 0 (eV rfl)).mono ?_)
 rintro e w55 ⟨rfl,hb55⟩
 refine ⟨_,rfl,hb55,fun kb55 _ bb55=>wV rfl ?_⟩
 (repeat first|refine wN ?_|refine wP rfl ?_|refine af rfl ?_|refine ag rfl ?_|refine wO rfl rfl ?_)
 refine VS.oJ (bj _ _) rfl (fun wz βz kz oz enz=> ?_)
 refine ⟨rfl,qJ.bk b14 oz.1 (fun x hx=> ?_)⟩
 simp only [List.mem_cons,List.not_mem_nil,or_false] at hx
 rcases hx with rfl | rfl | rfl
 ·exact o1.new
 ·exact o3.new
 ·exact o5.new
end Go.Proofs.YtabalinjfgcfeaaGreat
set_option maxRecDepth 4000
namespace Go.Proofs.YtabalinjfgcfeaaGreat
open Go.RowKit
attribute [local irreducible] aA VS
def RrE (_:World) (cs:List Value) (e:RR):Prop:=∃ p c r d,cs=[.bool e.1,.slice p e.2.1.length c,.bool e.2.2.1,.slice r e.2.2.2.length d]
theorem jH:mZ RrE 4 where
 kp:=fun h _=>h
 len:=fun h=>by obtain ⟨p,c,r,d,rfl⟩:=h;rfl
 ok:=fun h=>by obtain ⟨p,c,r,d,rfl⟩:=h;rfl
def fl (l:List (RR×RR)):List RR:=l.flatMap fun e=>[e.1,e.2]
theorem oZ (l:List (RR×RR)):(fl l).length=2 * l.length:=by
 induction l with
 | nil=>rfl
 | cons e r ih=>show (e.1::e.2::fl r).length=_;simp [ih];omega
theorem wh {l:List (RR×RR)} {z:Nat} {e:RR×RR} (h:l[z]? =some e):fl (l.take (z + 1))=fl (l.take z)++[e.1,e.2]:=by
 rw [gg h]
 unfold fl
 rw [List.flatMap_append]
 rfl
def BC (x:RR):Bool:=decide (x.2.1.length≤3) && decide (x.2.2.2.length≤3)
theorem Hv {X:List RR} {z:Nat} {e:RR} (he:X[z]? =some e) (h:BC e=false):X.all BC=false:=by
 cases h':X.all BC with
 | false=>rfl
 | true=>rw [List.all_eq_true.1 h' e (List.mem_of_getElem? he)] at h;cases h
theorem MV {l:List RR} {z:Nat} {e:RR} (he:l[z]? =some e) (h:(l.take z).all BC=true) (hw:BC e=true):(l.take (z + 1)).all BC=true:=by
 rw [gg he,List.all_append,h];simp [hw]
theorem dw {w:World} {b off i sz:Nat} {cs:List Value} (hc:∀ (j:Nat) (u:Value),cs[j]? =some u→w.cell? ⟨b,off + i * sz + j,none⟩=some u) (k:Nat) (ds:List Value) (hd:ds <+:cs.drop k):∀ (j:Nat) (u:Value),ds[j]? =some u→w.cell? ((⟨b,off + ((i:Nat):Int).toNat * sz + k,none⟩:Addr).add j)=some u:=by
 intro j u hj
 obtain ⟨t,ht⟩:=hd
 rw [Addr.add_mid,Int.toNat_natCast,Nat.add_assoc]
 refine hc (k + j) u ?_
 rw [←List.getElem?_drop,←ht,List.getElem?_append_left (List.getElem?_eq_some_iff.1 hj).1]
 exact hj
set_option maxRecDepth 4000 in
set_option maxHeartbeats 4000000 in
theorem JK (v:Value) (xs:List RR) (w:World) (hx:er RrE 4 w v xs):
  Calls Tryz.prog 26 #[v] w fun o w'=>o=.returned (.bool (xs.all BC))∧aj w w':=by
 obtain ⟨q,c,rfl,fH,fy⟩:=hx.form
 obtain ⟨n,hn⟩:∃ n,n=xs.length:=⟨_,rfl⟩
 rw [←hn] at hx fH
 rw [←hn]
 refine aw (C:=bP Tryz.prog w _) (args:=[_]) Tryz.func26 rfl Tryz.ntmps26 (Nat.le_of_ble_eq_true rfl) ?_
 (repeat first|refine wN ?_|refine wP rfl ?_|refine aa rfl ?_|refine ab rfl ?_|refine wO rfl rfl ?_)
 refine VS.loop (J:=fun m L M w'=>∃ z:Nat,z≤n∧m=n - z∧L=[(0,.val (.slice q n c)),(3,.val (.int .i64 (z:Int)))]∧M=[]∧(xs.take z).all BC=true) n ⟨_,_,?_,?_,?_,?_,⟨0,by omega,rfl,rfl,rfl,rfl⟩⟩ ?_
 ·exact ⟨rfl,rfl,trivial⟩
 ·(repeat first|exact trivial|refine ⟨rfl,?_⟩)
 ·rfl
 ·(repeat first|exact trivial|refine ⟨ba.lit rfl,?_⟩|refine ⟨ba.vals _,?_⟩)
 rintro m L M w9 ⟨z,hz,rfl,rfl,rfl,mI⟩
 (repeat first|refine wN ?_|refine wP rfl ?_|refine aa rfl ?_|refine ab rfl ?_|refine wO rfl rfl ?_)
 by_cases KF:z < n
 ·obtain ⟨e,he⟩:∃ e,xs[z]? =some e:=⟨_,List.getElem?_eq_getElem (by omega)⟩
  obtain ⟨b,off,iH,nx,hc,⟨ap,ac,ar,ad,rfl⟩⟩:=hx.at he
  subst nx
  refine VS.bG rfl (decide_eq_true (Int.ofNat_lt.2 KF)) ?_
  (repeat first|refine wN ?_|refine wP rfl ?_|refine aa rfl ?_|refine ab rfl ?_|refine wO rfl rfl ?_)
  refine VO.cond rfl ⟨by omega,by omega⟩ ?_
  refine wV rfl ?_
  (repeat first|refine wN ?_|refine wP rfl ?_|refine aa rfl ?_|refine ab rfl ?_|refine wO rfl rfl ?_)
  refine VO.read rfl [.slice ap e.2.1.length ac] rfl (dw hc 1 _ ⟨_,rfl⟩) (wV rfl ?_)
  (repeat first|refine wN ?_|refine wP rfl ?_|refine aa rfl ?_|refine ab rfl ?_|refine wO rfl rfl ?_)
  by_cases h1:e.2.1.length≤3
  ·refine VO.fix 18 rfl (congrArg (fun b=>AV.val (.bool b)) (decide_eq_false (show ¬ (e.2.1.length:Int) > 3 by omega))) ?_
   (repeat first|refine wN ?_|refine wP rfl ?_|refine aa rfl ?_|refine ab rfl ?_|refine wO rfl rfl ?_)
   refine VO.cond rfl ⟨by omega,by omega⟩ ?_
   refine wV rfl ?_
   (repeat first|refine wN ?_|refine wP rfl ?_|refine aa rfl ?_|refine ab rfl ?_|refine wO rfl rfl ?_)
   refine VO.read rfl [.slice ar e.2.2.2.length ad] rfl (dw hc 3 _ ⟨[],rfl⟩) (wV rfl ?_)
   (repeat first|refine wN ?_|refine wP rfl ?_|refine aa rfl ?_|refine ab rfl ?_|refine wO rfl rfl ?_)
   by_cases h2:e.2.2.2.length≤3
   ·have hs:BC e=true:=by unfold BC;rw [decide_eq_true h1,decide_eq_true h2];rfl
    refine VS.bK rfl (decide_eq_false (show ¬ (e.2.2.2.length:Int) > 3 by omega)) ?_
    (repeat first|refine wN ?_|refine wP rfl ?_|refine aa rfl ?_|refine ab rfl ?_|refine wO rfl rfl ?_)
    refine VS.back (n - (z + 1)) (by omega) ⟨_,_,?_,?_,?_,?_,⟨z + 1,by omega,rfl,rfl,rfl,MV he mI hs⟩⟩
    ·refine ⟨rfl,?_,trivial⟩
     rw [←dK (i:=z) (by omega)];rfl
    ·(repeat first|exact trivial|refine ⟨rfl,?_⟩)
    ·rfl
    ·(repeat first|exact trivial|refine ⟨ba.lit rfl,?_⟩|refine ⟨ba.vals _,?_⟩)
   ·have hs:BC e=false:=by unfold BC;rw [decide_eq_false h2,Bool.and_false]
    refine VS.bG rfl (decide_eq_true (show (e.2.2.2.length:Int) > 3 by omega)) ?_
    (repeat first|refine wN ?_|refine wP rfl ?_|refine aa rfl ?_|refine ab rfl ?_|refine wO rfl rfl ?_)
    refine VS.ret (aJ _ _) rfl rfl (fun wz kz bz=> ?_)
    exact ⟨by rw [Hv he hs];rfl,bz⟩
  ·have hs:BC e=false:=by unfold BC;rw [decide_eq_false h1,Bool.false_and]
   refine VO.fix 18 rfl (congrArg (fun b=>AV.val (.bool b)) (decide_eq_true (show (e.2.1.length:Int) > 3 by omega))) ?_
   (repeat first|refine wN ?_|refine wP rfl ?_|refine aa rfl ?_|refine ab rfl ?_|refine wO rfl rfl ?_)
   refine VS.ret (aJ _ _) rfl rfl (fun wz kz bz=> ?_)
   exact ⟨by rw [Hv he hs];rfl,bz⟩
 ·refine VS.bK rfl (decide_eq_false (fun e=>KF (Int.ofNat_lt.1 e))) ?_
  (repeat first|refine wN ?_|refine wP rfl ?_|refine aa rfl ?_|refine ab rfl ?_|refine wO rfl rfl ?_)
  refine VS.ret (aJ _ _) rfl rfl (fun wz kz bz=> ?_)
  rw [List.take_of_length_le (by omega)] at mI
  exact ⟨by rw [mI];rfl,bz⟩
theorem sM (v:Value) (xs:List RR) (w:World) (hx:er RrE 4 w v xs) (b:Bool) (hb:xs.all BC=b):
 Calls Tryz.prog 26 #[v] w fun o w'=>o=.returned (.bool b)∧aj w w':=hb▸JK v xs w hx
def yh (n:Nat):Bool:=decide (n≤12) || (decide (40 < n) && decide (n≤60))
def nD (S F:RR) (l:List (RR×RR)):Bool:=yh l.length && (S::F::fl l).all BC
set_option maxRecDepth 4000 in
set_option maxHeartbeats 8000000 in
theorem JL (v u:Value) (S F:RR) (keep:Int) (l:List (RR×RR)) (kk:Nat) (w:World) (hR:jr w v S F keep) (hv:er (ya kk) 8 w u l):
  Calls Tryz.prog 8 #[v,u] w fun o w'=>o=.returned (.bool (nD S F l))∧aj w w':=by
 obtain ⟨q,c,rfl,fH,fy⟩:=hv.form
 obtain ⟨sp,sc,sr,sd,fp,fc,fr,fd,rfl,-,-⟩:=hR
 obtain ⟨N,hN⟩:∃ N,N=l.length:=⟨_,rfl⟩
 rw [←hN] at hv fH
 rw [←hN]
 obtain ⟨bs,hb⟩:∃ b,(S::F::fl l).all BC=b:=⟨_,rfl⟩
 refine aw (C:=bP Tryz.prog w _) (args:=[_,_]) Tryz.func8 rfl Tryz.ntmps8 (Nat.le_of_ble_eq_true rfl) ?_
 (repeat first|refine wN ?_|refine wP rfl ?_|refine aa rfl ?_|refine ab rfl ?_|refine wO rfl rfl ?_)
 by_cases zF:N≤12
 ·have hlen:yh l.length=true:=by unfold yh;rw [←hN,decide_eq_true zF];rfl
  refine VO.fix 10 rfl (congrArg (fun b=>AV.val (.bool b)) (decide_eq_false (show ¬ (N:Int) > 12 by omega))) ?_
  (repeat first|refine wN ?_|refine wP rfl ?_|refine aa rfl ?_|refine ab rfl ?_|refine wO rfl rfl ?_)
  refine VS.bK rfl (decide_eq_false (show ¬ (N:Int) > 60 by omega)) ?_
  (repeat first|refine wN ?_|refine wP rfl ?_|refine aa rfl ?_|refine ab rfl ?_|refine wO rfl rfl ?_)
  refine VS.loop (J:=fun m L M w'=>∃ z:Nat,z≤N∧m=N - z∧∃ d vs spare cap,(d=24∨d=43)∧L=[(1,.val (.slice q N c)),(5,.row d 0 (2 + 2 * z) cap),(6,.val (.int .i64 (z:Int)))]∧M=[(d,(26,vs.flatten.map .val++spare))]∧
   cM RrE w' (S::F::fl (l.take z)) vs∧(vs.flatten.map AV.val++spare).length=cap * 4∧2 + 2 * z≤cap∧cap≤9223372036854775807∧spare.all aG=true∧ay spare=[]) N ⟨_,_,?_,?_,?_,?_,⟨0,by omega,rfl,24,[[.bool S.1,.slice sp S.2.1.length sc,.bool S.2.2.1,.slice sr S.2.2.2.length sd],[.bool F.1,.slice fp F.2.1.length fc,.bool F.2.2.1,.slice fr F.2.2.2.length fd]],[],2,.inl rfl,rfl,rfl,.cons ⟨_,_,_,_,rfl⟩ (.cons ⟨_,_,_,_,rfl⟩ .nil),rfl,by omega,by omega,rfl,rfl⟩⟩ ?_
  ·(repeat first|exact trivial|refine ⟨rfl,?_⟩)
  ·(repeat first|exact trivial|refine ⟨rfl,?_⟩)
  ·rfl
  ·exact ⟨.append (.vals _) (.none rfl),trivial⟩
  rintro m L M wJ ⟨z,hz,rfl,d,vs,spare,cap,rfl | rfl,rfl,rfl,iV,DY,hzc,hcc,MW,pX⟩
  ·(repeat first|refine wN ?_|refine wP rfl ?_|refine aa rfl ?_|refine ab rfl ?_|refine wO rfl rfl ?_)
   by_cases hlt:z < N
   ·obtain ⟨e,he⟩:∃ e,l[z]? =some e:=⟨_,List.getElem?_eq_getElem (by omega)⟩
    obtain ⟨b,off,iH,nx,hc,hE⟩:=hv.at he
    subst nx
    obtain ⟨_,_,rfl,⟨ap,ac,ar,ad,rfl,-⟩,⟨bp,bc,br,bd,rfl,-⟩,-,-⟩:=hE
    obtain ⟨Bb,Bc⟩:=iV.ok jH
    have FL:(S::F::fl (l.take z)).length=2 + 2 * z:=by rw [List.length_cons,List.length_cons,oZ,List.length_take];omega
    refine VS.bG rfl (decide_eq_true (Int.ofNat_lt.2 hlt)) ?_
    (repeat first|refine wN ?_|refine wP rfl ?_|refine aa rfl ?_|refine ab rfl ?_|refine wO rfl rfl ?_)
    refine VO.cond rfl ⟨by omega,by omega⟩ ?_
    refine wV rfl ?_
    (repeat first|refine wN ?_|refine wP rfl ?_|refine aa rfl ?_|refine ab rfl ?_|refine wO rfl rfl ?_)
    refine VO.read rfl [.bool e.1.1,.slice ap e.1.2.1.length ac,.bool e.1.2.2.1,.slice ar e.1.2.2.2.length ad] rfl (dw hc 0 _ ⟨_,rfl⟩) (wV rfl ?_)
    (repeat first|refine wN ?_|refine wP rfl ?_|refine aa rfl ?_|refine ab rfl ?_|refine wO rfl rfl ?_)
    refine VO.cond rfl ⟨by omega,by omega⟩ ?_
    refine wV rfl ?_
    (repeat first|refine wN ?_|refine wP rfl ?_|refine aa rfl ?_|refine ab rfl ?_|refine wO rfl rfl ?_)
    refine VO.read rfl [.bool e.2.1,.slice bp e.2.2.1.length bc,.bool e.2.2.2.1,.slice br e.2.2.2.2.length bd] rfl (dw hc 4 _ ⟨[],rfl⟩) (wV rfl ?_)
    (repeat first|refine wN ?_|refine wP rfl ?_|refine aa rfl ?_|refine ab rfl ?_|refine wO rfl rfl ?_)
    refine VO.Li (aJ _ _) (t:=73) (e:=26) (sz:=4) (n:=2 + 2 * z) (c:=cap) (mm:=2) (known:=vs.flatten.map .val) (spare:=spare) (del:=some 24) (news:=([.bool e.1.1,.slice ap e.1.2.1.length ac,.bool e.1.2.2.1,.slice ar e.1.2.2.2.length ad,.bool e.2.1,.slice bp e.2.2.1.length bc,.bool e.2.2.2.1,.slice br e.2.2.2.2.length bd]:List Value).map .val) (dst:=43) rfl rfl rfl rfl rfl rfl rfl rfl (Nat.le_of_ble_eq_true rfl) rfl (.inl (.inr ⟨24,rfl,rfl,rfl⟩)) (.inl rfl) (by rw [List.length_map,Bc,FL]) DY hzc hcc ⟨ao _,pX,rfl⟩ ⟨aZ Bb,MW,rfl⟩ rfl (by omega)
     (fun w1 β k1 b1 ho=>⟨_,_,rfl,.inr ⟨β 42,0,rfl,cK (rest:=[]) (ho.own 42 (.base (List.mem_append_right _ (List.mem_singleton.2 rfl))) _ _ rfl) rfl⟩⟩)
     (fun oO cap' ak ρ Hf Hg fD jh gU ed ni dv=>wV rfl ?_)
    (repeat first|refine wN ?_|refine wP rfl ?_|refine aa rfl ?_|refine ab rfl ?_|refine wO rfl rfl ?_)
    have yi:cM RrE oO (S::F::fl (l.take (z + 1))) (vs++[[.bool e.1.1,.slice ap e.1.2.1.length ac,.bool e.1.2.2.1,.slice ar e.1.2.2.2.length ad],[.bool e.2.1,.slice bp e.2.2.1.length bc,.bool e.2.2.2.1,.slice br e.2.2.2.2.length bd]]):=by
     rw [wh he,←List.cons_append,←List.cons_append]
     exact (iV.kp jH (by (with_reducible (repeat (first | assumption | exact kU _ | exact kR _ | exact Kp.of (U:=UU) (by assumption) | exact aF.of (by assumption) | refine kT ?_ (by assumption)))))).append (.cons ⟨_,_,_,_,rfl⟩ (.cons ⟨_,_,_,_,rfl⟩ .nil))
    refine VS.back (N - (z + 1)) (by omega) ⟨_,_,?_,?_,?_,?_,⟨z + 1,by omega,rfl,43,vs++[[.bool e.1.1,.slice ap e.1.2.1.length ac,.bool e.1.2.2.1,.slice ar e.1.2.2.2.length ad],[.bool e.2.1,.slice bp e.2.2.1.length bc,.bool e.2.2.2.1,.slice br e.2.2.2.2.length bd]],ak,cap',.inr rfl,rfl,rfl,yi,by simpa using ed,by omega,gU,ni,dv⟩⟩
    ·refine ⟨rfl,rfl,?_,trivial⟩
     rw [←dK (i:=z) (by omega)];rfl
    ·exact ⟨congrArg (fun l=>some (_,l++ak)) (by simp),trivial⟩
    ·rfl
    ·exact ⟨.append (.vals _) (.none dv),trivial⟩
   ·refine VS.bK rfl (decide_eq_false (fun e=>hlt (Int.ofNat_lt.1 e))) ?_
    have hzN:z=N:=by omega
    rw [List.take_of_length_le (by omega)] at iV
    (repeat first|refine wN ?_|refine wP rfl ?_|refine aa rfl ?_|refine ab rfl ?_|refine wO rfl rfl ?_)
    refine VO.gi rfl (fk Tryz.func26) (fun cB β eu dt ho=>(sM _ (S::F::fl l) cB (na jH (ho.own 24 (.base (List.mem_singleton.2 rfl)) _ _ rfl) spare rfl (iV.kp jH (by (with_reducible (repeat (first | assumption | exact kU _ | exact kR _ | exact Kp.of (U:=UU) (by assumption) | exact aF.of (by assumption) | refine kT ?_ (by assumption)))))) (by rw [List.length_cons,List.length_cons,oZ];omega) hzc hcc) _ hb).mono ?_)
    rintro o w1 ⟨rfl,aU⟩
    refine ⟨_,rfl,aU,fun fq _ bb1=>wV rfl ?_⟩
    (repeat first|refine wN ?_|refine wP rfl ?_|refine aa rfl ?_|refine ab rfl ?_|refine wO rfl rfl ?_)
    refine VS.ret (aJ _ _) rfl rfl (fun wz kz bz=> ?_)
    exact ⟨by unfold nD;rw [hlen,hb];rfl,bz⟩
  ·(repeat first|refine wN ?_|refine wP rfl ?_|refine aa rfl ?_|refine ab rfl ?_|refine wO rfl rfl ?_)
   by_cases hlt:z < N
   ·obtain ⟨e,he⟩:∃ e,l[z]? =some e:=⟨_,List.getElem?_eq_getElem (by omega)⟩
    obtain ⟨b,off,iH,nx,hc,hE⟩:=hv.at he
    subst nx
    obtain ⟨_,_,rfl,⟨ap,ac,ar,ad,rfl,-⟩,⟨bp,bc,br,bd,rfl,-⟩,-,-⟩:=hE
    obtain ⟨Bb,Bc⟩:=iV.ok jH
    have FL:(S::F::fl (l.take z)).length=2 + 2 * z:=by rw [List.length_cons,List.length_cons,oZ,List.length_take];omega
    refine VS.bG rfl (decide_eq_true (Int.ofNat_lt.2 hlt)) ?_
    (repeat first|refine wN ?_|refine wP rfl ?_|refine aa rfl ?_|refine ab rfl ?_|refine wO rfl rfl ?_)
    refine VO.cond rfl ⟨by omega,by omega⟩ ?_
    refine wV rfl ?_
    (repeat first|refine wN ?_|refine wP rfl ?_|refine aa rfl ?_|refine ab rfl ?_|refine wO rfl rfl ?_)
    refine VO.read rfl [.bool e.1.1,.slice ap e.1.2.1.length ac,.bool e.1.2.2.1,.slice ar e.1.2.2.2.length ad] rfl (dw hc 0 _ ⟨_,rfl⟩) (wV rfl ?_)
    (repeat first|refine wN ?_|refine wP rfl ?_|refine aa rfl ?_|refine ab rfl ?_|refine wO rfl rfl ?_)
    refine VO.cond rfl ⟨by omega,by omega⟩ ?_
    refine wV rfl ?_
    (repeat first|refine wN ?_|refine wP rfl ?_|refine aa rfl ?_|refine ab rfl ?_|refine wO rfl rfl ?_)
    refine VO.read rfl [.bool e.2.1,.slice bp e.2.2.1.length bc,.bool e.2.2.2.1,.slice br e.2.2.2.2.length bd] rfl (dw hc 4 _ ⟨[],rfl⟩) (wV rfl ?_)
    (repeat first|refine wN ?_|refine wP rfl ?_|refine aa rfl ?_|refine ab rfl ?_|refine wO rfl rfl ?_)
    refine VO.Li (aJ _ _) (t:=73) (e:=26) (sz:=4) (n:=2 + 2 * z) (c:=cap) (mm:=2) (known:=vs.flatten.map .val) (spare:=spare) (del:=some 43) (news:=([.bool e.1.1,.slice ap e.1.2.1.length ac,.bool e.1.2.2.1,.slice ar e.1.2.2.2.length ad,.bool e.2.1,.slice bp e.2.2.1.length bc,.bool e.2.2.2.1,.slice br e.2.2.2.2.length bd]:List Value).map .val) (dst:=43) rfl rfl rfl rfl rfl rfl rfl rfl (Nat.le_of_ble_eq_true rfl) rfl (.inl (.inr ⟨43,rfl,rfl,rfl⟩)) (.inr rfl) (by rw [List.length_map,Bc,FL]) DY hzc hcc ⟨ao _,pX,rfl⟩ ⟨aZ Bb,MW,rfl⟩ rfl (by omega)
     (fun w1 β k1 b1 ho=>⟨_,_,rfl,.inr ⟨β 42,0,rfl,cK (rest:=[]) (ho.own 42 (.base (List.mem_append_right _ (List.mem_singleton.2 rfl))) _ _ rfl) rfl⟩⟩)
     (fun oO cap' ak ρ Hf Hg fD jh gU ed ni dv=>wV rfl ?_)
    (repeat first|refine wN ?_|refine wP rfl ?_|refine aa rfl ?_|refine ab rfl ?_|refine wO rfl rfl ?_)
    have yi:cM RrE oO (S::F::fl (l.take (z + 1))) (vs++[[.bool e.1.1,.slice ap e.1.2.1.length ac,.bool e.1.2.2.1,.slice ar e.1.2.2.2.length ad],[.bool e.2.1,.slice bp e.2.2.1.length bc,.bool e.2.2.2.1,.slice br e.2.2.2.2.length bd]]):=by
     rw [wh he,←List.cons_append,←List.cons_append]
     exact (iV.kp jH (by (with_reducible (repeat (first | assumption | exact kU _ | exact kR _ | exact Kp.of (U:=UU) (by assumption) | exact aF.of (by assumption) | refine kT ?_ (by assumption)))))).append (.cons ⟨_,_,_,_,rfl⟩ (.cons ⟨_,_,_,_,rfl⟩ .nil))
    refine VS.back (N - (z + 1)) (by omega) ⟨_,_,?_,?_,?_,?_,⟨z + 1,by omega,rfl,43,vs++[[.bool e.1.1,.slice ap e.1.2.1.length ac,.bool e.1.2.2.1,.slice ar e.1.2.2.2.length ad],[.bool e.2.1,.slice bp e.2.2.1.length bc,.bool e.2.2.2.1,.slice br e.2.2.2.2.length bd]],ak,cap',.inr rfl,rfl,rfl,yi,by simpa using ed,by omega,gU,ni,dv⟩⟩
    ·refine ⟨rfl,rfl,?_,trivial⟩
     rw [←dK (i:=z) (by omega)];rfl
    ·exact ⟨congrArg (fun l=>some (_,l++ak)) (by simp),trivial⟩
    ·rfl
    ·exact ⟨.append (.vals _) (.none dv),trivial⟩
   ·refine VS.bK rfl (decide_eq_false (fun e=>hlt (Int.ofNat_lt.1 e))) ?_
    have hzN:z=N:=by omega
    rw [List.take_of_length_le (by omega)] at iV
    (repeat first|refine wN ?_|refine wP rfl ?_|refine aa rfl ?_|refine ab rfl ?_|refine wO rfl rfl ?_)
    refine VO.gi rfl (fk Tryz.func26) (fun cB β eu dt ho=>(sM _ (S::F::fl l) cB (na jH (ho.own 43 (.base (List.mem_singleton.2 rfl)) _ _ rfl) spare rfl (iV.kp jH (by (with_reducible (repeat (first | assumption | exact kU _ | exact kR _ | exact Kp.of (U:=UU) (by assumption) | exact aF.of (by assumption) | refine kT ?_ (by assumption)))))) (by rw [List.length_cons,List.length_cons,oZ];omega) hzc hcc) _ hb).mono ?_)
    rintro o w1 ⟨rfl,aU⟩
    refine ⟨_,rfl,aU,fun fq _ bb1=>wV rfl ?_⟩
    (repeat first|refine wN ?_|refine wP rfl ?_|refine aa rfl ?_|refine ab rfl ?_|refine wO rfl rfl ?_)
    refine VS.ret (aJ _ _) rfl rfl (fun wz kz bz=> ?_)
    exact ⟨by unfold nD;rw [hlen,hb];rfl,bz⟩
 ·refine VO.fix 10 rfl (congrArg (fun b=>AV.val (.bool b)) (decide_eq_true (show (N:Int) > 12 by omega))) ?_
  (repeat first|refine wN ?_|refine wP rfl ?_|refine aa rfl ?_|refine ab rfl ?_|refine wO rfl rfl ?_)
  by_cases h40:N≤40
  ·refine VO.fix 15 rfl (congrArg (fun b=>AV.val (.bool b)) (decide_eq_true (show (N:Int)≤40 by omega))) ?_
   (repeat first|refine wN ?_|refine wP rfl ?_|refine aa rfl ?_|refine ab rfl ?_|refine wO rfl rfl ?_)
   refine VS.ret (aJ _ _) rfl rfl (fun wz kz bz=> ?_)
   exact ⟨by unfold nD yh;rw [←hN,decide_eq_false zF,decide_eq_false (show ¬ 40 < N by omega)];rfl,bz⟩
  ·refine VO.fix 15 rfl (congrArg (fun b=>AV.val (.bool b)) (decide_eq_false (show ¬ (N:Int)≤40 by omega))) ?_
   (repeat first|refine wN ?_|refine wP rfl ?_|refine aa rfl ?_|refine ab rfl ?_|refine wO rfl rfl ?_)
   by_cases h60:N≤60
   ·have hlen:yh l.length=true:=by unfold yh;rw [←hN,decide_eq_false zF,decide_eq_true (show 40 < N by omega),decide_eq_true h60];rfl
    refine VS.bK rfl (decide_eq_false (show ¬ (N:Int) > 60 by omega)) ?_
    (repeat first|refine wN ?_|refine wP rfl ?_|refine aa rfl ?_|refine ab rfl ?_|refine wO rfl rfl ?_)
    refine VS.loop (J:=fun m L M w'=>∃ z:Nat,z≤N∧m=N - z∧∃ d vs spare cap,(d=24∨d=43)∧L=[(1,.val (.slice q N c)),(5,.row d 0 (2 + 2 * z) cap),(6,.val (.int .i64 (z:Int)))]∧M=[(d,(26,vs.flatten.map .val++spare))]∧
     cM RrE w' (S::F::fl (l.take z)) vs∧(vs.flatten.map AV.val++spare).length=cap * 4∧2 + 2 * z≤cap∧cap≤9223372036854775807∧spare.all aG=true∧ay spare=[]) N ⟨_,_,?_,?_,?_,?_,⟨0,by omega,rfl,24,[[.bool S.1,.slice sp S.2.1.length sc,.bool S.2.2.1,.slice sr S.2.2.2.length sd],[.bool F.1,.slice fp F.2.1.length fc,.bool F.2.2.1,.slice fr F.2.2.2.length fd]],[],2,.inl rfl,rfl,rfl,.cons ⟨_,_,_,_,rfl⟩ (.cons ⟨_,_,_,_,rfl⟩ .nil),rfl,by omega,by omega,rfl,rfl⟩⟩ ?_
    ·(repeat first|exact trivial|refine ⟨rfl,?_⟩)
    ·(repeat first|exact trivial|refine ⟨rfl,?_⟩)
    ·rfl
    ·exact ⟨.append (.vals _) (.none rfl),trivial⟩
    rintro m L M wJ ⟨z,hz,rfl,d,vs,spare,cap,rfl | rfl,rfl,rfl,iV,DY,hzc,hcc,MW,pX⟩
    ·(repeat first|refine wN ?_|refine wP rfl ?_|refine aa rfl ?_|refine ab rfl ?_|refine wO rfl rfl ?_)
     by_cases hlt:z < N
     ·obtain ⟨e,he⟩:∃ e,l[z]? =some e:=⟨_,List.getElem?_eq_getElem (by omega)⟩
      obtain ⟨b,off,iH,nx,hc,hE⟩:=hv.at he
      subst nx
      obtain ⟨_,_,rfl,⟨ap,ac,ar,ad,rfl,-⟩,⟨bp,bc,br,bd,rfl,-⟩,-,-⟩:=hE
      obtain ⟨Bb,Bc⟩:=iV.ok jH
      have FL:(S::F::fl (l.take z)).length=2 + 2 * z:=by rw [List.length_cons,List.length_cons,oZ,List.length_take];omega
      refine VS.bG rfl (decide_eq_true (Int.ofNat_lt.2 hlt)) ?_
      (repeat first|refine wN ?_|refine wP rfl ?_|refine aa rfl ?_|refine ab rfl ?_|refine wO rfl rfl ?_)
      refine VO.cond rfl ⟨by omega,by omega⟩ ?_
      refine wV rfl ?_
      (repeat first|refine wN ?_|refine wP rfl ?_|refine aa rfl ?_|refine ab rfl ?_|refine wO rfl rfl ?_)
      refine VO.read rfl [.bool e.1.1,.slice ap e.1.2.1.length ac,.bool e.1.2.2.1,.slice ar e.1.2.2.2.length ad] rfl (dw hc 0 _ ⟨_,rfl⟩) (wV rfl ?_)
      (repeat first|refine wN ?_|refine wP rfl ?_|refine aa rfl ?_|refine ab rfl ?_|refine wO rfl rfl ?_)
      refine VO.cond rfl ⟨by omega,by omega⟩ ?_
      refine wV rfl ?_
      (repeat first|refine wN ?_|refine wP rfl ?_|refine aa rfl ?_|refine ab rfl ?_|refine wO rfl rfl ?_)
      refine VO.read rfl [.bool e.2.1,.slice bp e.2.2.1.length bc,.bool e.2.2.2.1,.slice br e.2.2.2.2.length bd] rfl (dw hc 4 _ ⟨[],rfl⟩) (wV rfl ?_)
      (repeat first|refine wN ?_|refine wP rfl ?_|refine aa rfl ?_|refine ab rfl ?_|refine wO rfl rfl ?_)
      refine VO.Li (aJ _ _) (t:=73) (e:=26) (sz:=4) (n:=2 + 2 * z) (c:=cap) (mm:=2) (known:=vs.flatten.map .val) (spare:=spare) (del:=some 24) (news:=([.bool e.1.1,.slice ap e.1.2.1.length ac,.bool e.1.2.2.1,.slice ar e.1.2.2.2.length ad,.bool e.2.1,.slice bp e.2.2.1.length bc,.bool e.2.2.2.1,.slice br e.2.2.2.2.length bd]:List Value).map .val) (dst:=43) rfl rfl rfl rfl rfl rfl rfl rfl (Nat.le_of_ble_eq_true rfl) rfl (.inl (.inr ⟨24,rfl,rfl,rfl⟩)) (.inl rfl) (by rw [List.length_map,Bc,FL]) DY hzc hcc ⟨ao _,pX,rfl⟩ ⟨aZ Bb,MW,rfl⟩ rfl (by omega)
       (fun w1 β k1 b1 ho=>⟨_,_,rfl,.inr ⟨β 42,0,rfl,cK (rest:=[]) (ho.own 42 (.base (List.mem_append_right _ (List.mem_singleton.2 rfl))) _ _ rfl) rfl⟩⟩)
       (fun oO cap' ak ρ Hf Hg fD jh gU ed ni dv=>wV rfl ?_)
      (repeat first|refine wN ?_|refine wP rfl ?_|refine aa rfl ?_|refine ab rfl ?_|refine wO rfl rfl ?_)
      have yi:cM RrE oO (S::F::fl (l.take (z + 1))) (vs++[[.bool e.1.1,.slice ap e.1.2.1.length ac,.bool e.1.2.2.1,.slice ar e.1.2.2.2.length ad],[.bool e.2.1,.slice bp e.2.2.1.length bc,.bool e.2.2.2.1,.slice br e.2.2.2.2.length bd]]):=by
       rw [wh he,←List.cons_append,←List.cons_append]
       exact (iV.kp jH (by (with_reducible (repeat (first | assumption | exact kU _ | exact kR _ | exact Kp.of (U:=UU) (by assumption) | exact aF.of (by assumption) | refine kT ?_ (by assumption)))))).append (.cons ⟨_,_,_,_,rfl⟩ (.cons ⟨_,_,_,_,rfl⟩ .nil))
      refine VS.back (N - (z + 1)) (by omega) ⟨_,_,?_,?_,?_,?_,⟨z + 1,by omega,rfl,43,vs++[[.bool e.1.1,.slice ap e.1.2.1.length ac,.bool e.1.2.2.1,.slice ar e.1.2.2.2.length ad],[.bool e.2.1,.slice bp e.2.2.1.length bc,.bool e.2.2.2.1,.slice br e.2.2.2.2.length bd]],ak,cap',.inr rfl,rfl,rfl,yi,by simpa using ed,by omega,gU,ni,dv⟩⟩
      ·refine ⟨rfl,rfl,?_,trivial⟩
       rw [←dK (i:=z) (by omega)];rfl
      ·exact ⟨congrArg (fun l=>some (_,l++ak)) (by simp),trivial⟩
      ·rfl
      ·exact ⟨.append (.vals _) (.none dv),trivial⟩
     ·refine VS.bK rfl (decide_eq_false (fun e=>hlt (Int.ofNat_lt.1 e))) ?_
      have hzN:z=N:=by omega
      rw [List.take_of_length_le (by omega)] at iV
      (repeat first|refine wN ?_|refine wP rfl ?_|refine aa rfl ?_|refine ab rfl ?_|refine wO rfl rfl ?_)
      refine VO.gi rfl (fk Tryz.func26) (fun cB β eu dt ho=>(sM _ (S::F::fl l) cB (na jH (ho.own 24 (.base (List.mem_singleton.2 rfl)) _ _ rfl) spare rfl (iV.kp jH (by (with_reducible (repeat (first | assumption | exact kU _ | exact kR _ | exact Kp.of (U:=UU) (by assumption) | exact aF.of (by assumption) | refine kT ?_ (by assumption)))))) (by rw [List.length_cons,List.length_cons,oZ];omega) hzc hcc) _ hb).mono ?_)
      rintro o w1 ⟨rfl,aU⟩
      refine ⟨_,rfl,aU,fun fq _ bb1=>wV rfl ?_⟩
      (repeat first|refine wN ?_|refine wP rfl ?_|refine aa rfl ?_|refine ab rfl ?_|refine wO rfl rfl ?_)
      refine VS.ret (aJ _ _) rfl rfl (fun wz kz bz=> ?_)
      exact ⟨by unfold nD;rw [hlen,hb];rfl,bz⟩
    ·(repeat first|refine wN ?_|refine wP rfl ?_|refine aa rfl ?_|refine ab rfl ?_|refine wO rfl rfl ?_)
     by_cases hlt:z < N
     ·obtain ⟨e,he⟩:∃ e,l[z]? =some e:=⟨_,List.getElem?_eq_getElem (by omega)⟩
      obtain ⟨b,off,iH,nx,hc,hE⟩:=hv.at he
      subst nx
      obtain ⟨_,_,rfl,⟨ap,ac,ar,ad,rfl,-⟩,⟨bp,bc,br,bd,rfl,-⟩,-,-⟩:=hE
      obtain ⟨Bb,Bc⟩:=iV.ok jH
      have FL:(S::F::fl (l.take z)).length=2 + 2 * z:=by rw [List.length_cons,List.length_cons,oZ,List.length_take];omega
      refine VS.bG rfl (decide_eq_true (Int.ofNat_lt.2 hlt)) ?_
      (repeat first|refine wN ?_|refine wP rfl ?_|refine aa rfl ?_|refine ab rfl ?_|refine wO rfl rfl ?_)
      refine VO.cond rfl ⟨by omega,by omega⟩ ?_
      refine wV rfl ?_
      (repeat first|refine wN ?_|refine wP rfl ?_|refine aa rfl ?_|refine ab rfl ?_|refine wO rfl rfl ?_)
      refine VO.read rfl [.bool e.1.1,.slice ap e.1.2.1.length ac,.bool e.1.2.2.1,.slice ar e.1.2.2.2.length ad] rfl (dw hc 0 _ ⟨_,rfl⟩) (wV rfl ?_)
      (repeat first|refine wN ?_|refine wP rfl ?_|refine aa rfl ?_|refine ab rfl ?_|refine wO rfl rfl ?_)
      refine VO.cond rfl ⟨by omega,by omega⟩ ?_
      refine wV rfl ?_
      (repeat first|refine wN ?_|refine wP rfl ?_|refine aa rfl ?_|refine ab rfl ?_|refine wO rfl rfl ?_)
      refine VO.read rfl [.bool e.2.1,.slice bp e.2.2.1.length bc,.bool e.2.2.2.1,.slice br e.2.2.2.2.length bd] rfl (dw hc 4 _ ⟨[],rfl⟩) (wV rfl ?_)
      (repeat first|refine wN ?_|refine wP rfl ?_|refine aa rfl ?_|refine ab rfl ?_|refine wO rfl rfl ?_)
      refine VO.Li (aJ _ _) (t:=73) (e:=26) (sz:=4) (n:=2 + 2 * z) (c:=cap) (mm:=2) (known:=vs.flatten.map .val) (spare:=spare) (del:=some 43) (news:=([.bool e.1.1,.slice ap e.1.2.1.length ac,.bool e.1.2.2.1,.slice ar e.1.2.2.2.length ad,.bool e.2.1,.slice bp e.2.2.1.length bc,.bool e.2.2.2.1,.slice br e.2.2.2.2.length bd]:List Value).map .val) (dst:=43) rfl rfl rfl rfl rfl rfl rfl rfl (Nat.le_of_ble_eq_true rfl) rfl (.inl (.inr ⟨43,rfl,rfl,rfl⟩)) (.inr rfl) (by rw [List.length_map,Bc,FL]) DY hzc hcc ⟨ao _,pX,rfl⟩ ⟨aZ Bb,MW,rfl⟩ rfl (by omega)
       (fun w1 β k1 b1 ho=>⟨_,_,rfl,.inr ⟨β 42,0,rfl,cK (rest:=[]) (ho.own 42 (.base (List.mem_append_right _ (List.mem_singleton.2 rfl))) _ _ rfl) rfl⟩⟩)
       (fun oO cap' ak ρ Hf Hg fD jh gU ed ni dv=>wV rfl ?_)
      (repeat first|refine wN ?_|refine wP rfl ?_|refine aa rfl ?_|refine ab rfl ?_|refine wO rfl rfl ?_)
      have yi:cM RrE oO (S::F::fl (l.take (z + 1))) (vs++[[.bool e.1.1,.slice ap e.1.2.1.length ac,.bool e.1.2.2.1,.slice ar e.1.2.2.2.length ad],[.bool e.2.1,.slice bp e.2.2.1.length bc,.bool e.2.2.2.1,.slice br e.2.2.2.2.length bd]]):=by
       rw [wh he,←List.cons_append,←List.cons_append]
       exact (iV.kp jH (by (with_reducible (repeat (first | assumption | exact kU _ | exact kR _ | exact Kp.of (U:=UU) (by assumption) | exact aF.of (by assumption) | refine kT ?_ (by assumption)))))).append (.cons ⟨_,_,_,_,rfl⟩ (.cons ⟨_,_,_,_,rfl⟩ .nil))
      refine VS.back (N - (z + 1)) (by omega) ⟨_,_,?_,?_,?_,?_,⟨z + 1,by omega,rfl,43,vs++[[.bool e.1.1,.slice ap e.1.2.1.length ac,.bool e.1.2.2.1,.slice ar e.1.2.2.2.length ad],[.bool e.2.1,.slice bp e.2.2.1.length bc,.bool e.2.2.2.1,.slice br e.2.2.2.2.length bd]],ak,cap',.inr rfl,rfl,rfl,yi,by simpa using ed,by omega,gU,ni,dv⟩⟩
      ·refine ⟨rfl,rfl,?_,trivial⟩
       rw [←dK (i:=z) (by omega)];rfl
      ·exact ⟨congrArg (fun l=>some (_,l++ak)) (by simp),trivial⟩
      ·rfl
      ·exact ⟨.append (.vals _) (.none dv),trivial⟩
     ·refine VS.bK rfl (decide_eq_false (fun e=>hlt (Int.ofNat_lt.1 e))) ?_
      have hzN:z=N:=by omega
      rw [List.take_of_length_le (by omega)] at iV
      (repeat first|refine wN ?_|refine wP rfl ?_|refine aa rfl ?_|refine ab rfl ?_|refine wO rfl rfl ?_)
      refine VO.gi rfl (fk Tryz.func26) (fun cB β eu dt ho=>(sM _ (S::F::fl l) cB (na jH (ho.own 43 (.base (List.mem_singleton.2 rfl)) _ _ rfl) spare rfl (iV.kp jH (by (with_reducible (repeat (first | assumption | exact kU _ | exact kR _ | exact Kp.of (U:=UU) (by assumption) | exact aF.of (by assumption) | refine kT ?_ (by assumption)))))) (by rw [List.length_cons,List.length_cons,oZ];omega) hzc hcc) _ hb).mono ?_)
      rintro o w1 ⟨rfl,aU⟩
      refine ⟨_,rfl,aU,fun fq _ bb1=>wV rfl ?_⟩
      (repeat first|refine wN ?_|refine wP rfl ?_|refine aa rfl ?_|refine ab rfl ?_|refine wO rfl rfl ?_)
      refine VS.ret (aJ _ _) rfl rfl (fun wz kz bz=> ?_)
      exact ⟨by unfold nD;rw [hlen,hb];rfl,bz⟩
   ·refine VS.bG rfl (decide_eq_true (show (N:Int) > 60 by omega)) ?_
    (repeat first|refine wN ?_|refine wP rfl ?_|refine aa rfl ?_|refine ab rfl ?_|refine wO rfl rfl ?_)
    refine VS.ret (aJ _ _) rfl rfl (fun wz kz bz=> ?_)
    exact ⟨by unfold nD yh;rw [←hN,decide_eq_false zF,decide_eq_false h60,Bool.and_false];rfl,bz⟩
theorem DZ (v u:Value) (S F:RR) (keep:Int) (l:List (RR×RR)) (kk:Nat) (w:World) (hR:jr w v S F keep) (hv:er (ya kk) 8 w u l) (b:Bool) (hb:nD S F l=b):
 Calls Tryz.prog 8 #[v,u] w fun o w'=>o=.returned (.bool b)∧aj w w':=hb▸JL v u S F keep l kk w hR hv
theorem zV {S F:RR} {l:List (RR×RR)} (h:nD S F l=true):S.mC 3∧F.mC 3∧∀ e∈l,e.1.mC 3∧e.2.mC 3:=by
 unfold nD at h
 rw [Bool.and_eq_true] at h
 have h2:∀ x∈(S::F::fl l),x.mC 3:=fun x hx=>by
  have:=List.all_eq_true.1 h.2 x hx
  unfold BC at this
  rwa [Bool.and_eq_true,decide_eq_true_iff,decide_eq_true_iff] at this
 refine ⟨h2 S (by simp),h2 F (by simp),fun e he=>⟨h2 _ ?_,h2 _ ?_⟩⟩
 ·exact List.mem_cons_of_mem _ (List.mem_cons_of_mem _ (List.mem_flatMap.2 ⟨e,he,by simp⟩))
 ·exact List.mem_cons_of_mem _ (List.mem_cons_of_mem _ (List.mem_flatMap.2 ⟨e,he,by simp⟩))
theorem MX {S F:RR} {l:List (RR×RR)} {kk:Nat} {w:World} {v:Value} (h:nD S F l=true) (hv:er (ya kk) 8 w v l):er (ya 3) 8 w v l:=by
 have h3:=(zV h).2.2
 refine hv.mono fun i a cs ha he=> ?_
 have hm:=h3 a (List.mem_of_getElem? ha)
 obtain ⟨x,y,e,f1,f2,-⟩:=he
 exact ⟨x,y,e,f1,f2,hm.1,hm.2⟩
end Go.Proofs.YtabalinjfgcfeaaGreat
set_option maxRecDepth 4000
namespace Go.Proofs.YtabalinjfgcfeaaGreat
open Go.RowKit
attribute [local irreducible] aA VS
structure MY where
 eb:RR
 allowed:RR
 bW:RR
 used:RR
 bL:RR
 bl:RR
 closing:RR
abbrev MZ:=Int×Int×RR
def Rw (kk:Nat) (w:World) (cs:List Value) (x:RR):Prop:=tM w cs x∧x.mC kk
def RowI (kk:Nat) (w:World) (cs:List Value) (r:MY):Prop:=
 ∃ a b c d e f g:List Value,cs=a++(b++(c++(d++(e++(f++g)))))∧Rw kk w a r.eb∧Rw kk w b r.allowed∧Rw kk w c r.bW∧Rw kk w d r.used∧Rw kk w e r.bL∧Rw kk w f r.bl∧Rw kk w g r.closing
def UseI (kk:Nat) (w:World) (cs:List Value) (e:MZ):Prop:=∃ a,cs=[.int .i64 e.1,.int .i64 e.2.1]++a∧Rw kk w a e.2.2
def LedI (kk:Nat) (w:World) (r u:Value) (X:List MY×List MZ):Prop:=er (RowI kk) 28 w r X.1∧er (UseI kk) 6 w u X.2
def Na (r:aM):MY:=⟨kt r.eb,kt r.allowed,kt r.bW,kt r.used,kt r.bL,kt r.bl,kt r.closing⟩
def Nb (e:Uq):MZ:=((e.1:Int),(e.2.1:Int),kt e.2.2)
def nP (x:List aM×List Uq):List MY×List MZ:=(x.1.map Na,x.2.map Nb)
def RowSz (kk:Nat) (r:aM):Prop:=fo r.eb kk∧fo r.allowed kk∧fo r.bW kk∧fo r.used kk∧fo r.bL kk∧fo r.bl kk∧fo r.closing kk
def LedSz (kk:Nat) (x:List aM×List Uq):Prop:=(∀ r∈x.1,RowSz kk r)∧∀ e∈x.2,fo e.2.2 kk
theorem R4.rw {B kk:Nat} {w:World} {cs:List Value} {q:Rat} (h:R4 B w cs q) (hs:fo q kk):Rw kk w cs (kt q):=by
 obtain ⟨s,p,n,c,t,r,m,d,rfl,h1⟩:=h
 exact ⟨h1.rd.JJ,pL hs⟩
theorem row7_in {B kk:Nat} {w:World} {cs:List Value} {r:aM} (h:dA B w cs r) (hs:RowSz kk r):RowI kk w cs (Na r):=by
 obtain ⟨a,b,c,d,e,f,g,h0,h1,h2,h3,h4,h5,h6,h7⟩:=h
 obtain ⟨s1,s2,s3,s4,s5,s6,s7⟩:=hs
 exact ⟨a,b,c,d,e,f,g,h0,h1.rw s1,h2.rw s2,h3.rw s3,h4.rw s4,h5.rw s5,h6.rw s6,h7.rw s7⟩
theorem use_in {B kk:Nat} {w:World} {cs:List Value} {e:Uq} (h:nK B w cs e) (hs:fo e.2.2 kk):UseI kk w cs (Nb e):=by
 obtain ⟨s,p,n,c,t,r,m,d,rfl,h1⟩:=h
 exact ⟨_,rfl,h1.rd.JJ,pL hs⟩
theorem Nc {α α':Type} {E:World→List Value→α→Prop} {E':World→List Value→α'→Prop} {sz:Nat} (hE:mZ E sz) {t:TypeId} {w:World} {b:Nat} {v:Value} {es:List α} (f:α→α') (h:SlZ E sz t w b v es) (hf:∀ cs,∀ e∈es,E w cs e→E' w cs (f e)):er E' sz w v (es.map f):=by
 obtain ⟨n,c,vs,sp,rfl,hc,ho⟩:=h
 have hn:n=es.length:=ho.len
 subst hn
 refine ⟨_,_,by rw [List.length_map],by rw [List.length_map];exact ho.le,by simpa [maxLen] using ho.cm,fun i a ha=> ?_⟩
 rw [List.getElem?_map] at ha
 obtain ⟨e,he,rfl⟩:=Option.map_eq_some_iff.1 ha
 obtain ⟨cs,hcs,hEx⟩:=ho.el.at i e he
 refine ⟨b,0,cs,rfl,fun j u hj=> ?_,hf _ _ (List.mem_of_getElem? he) hEx⟩
 refine hc.cell ?_
 have jl:cs.length=sz:=hE.len hEx
 have hjl:=(List.getElem?_eq_some_iff.1 hj).1
 obtain ⟨hlt,hxx⟩:=List.getElem?_eq_some_iff.1 hcs
 have yK:vs=vs.take i++cs::vs.drop (i + 1):=by rw [←hxx,←List.drop_eq_getElem_cons hlt,List.take_append_drop]
 have hal:(vs.take i).flatten.length=i * sz:=by
  rw [cW (fun y hy=>ho.el.lens hE y (List.mem_of_mem_take hy)),List.length_take,Nat.min_eq_left (by omega)]
 rw [List.getElem?_toArray,yK,List.flatten_append,List.append_assoc,List.getElem?_append_right (by omega),hal,List.flatten_cons,List.append_assoc,show 0 + i * sz + j - i * sz=j by omega,List.getElem?_append_left hjl]
 exact hj
theorem sK.inI {B kk:Nat} {w:World} {r u:Value} {x:List aM×List Uq} (h:sK B w r u x) (hs:LedSz kk x):LedI kk w r u (nP x):=by
 refine ⟨?_,?_⟩
 ·rcases h.1 with ⟨rfl,e⟩ | ⟨rb,_,h3⟩
  ·unfold nP;rw [e];exact er.nil _ _ _
  ·exact Nc (aB B) Na h3 fun cs e he hE=>row7_in hE (hs.1 e he)
 ·rcases h.2 with ⟨rfl,e⟩ | ⟨rb,_,h3⟩
  ·unfold nP;rw [e];exact er.nil _ _ _
  ·exact Nc (dk B) Nb h3 fun cs e he hE=>use_in hE (hs.2 e he)
end Go.Proofs.YtabalinjfgcfeaaGreat
namespace Go.Proofs.YtabalinjfgcfeaaGreat
open Go.RowKit
theorem tT (x:Rat) (l:List Rat):lI (x::l)=x + lI l:=by
 unfold lI
 rw [List.foldl_cons]
 have:∀ (l:List Rat) (a b:Rat),l.foldl (·+ ·) (a + b)=a + l.foldl (·+ ·) b:=by
  intro l
  induction l with
  | nil=>intro a b;rfl
  | cons y r ih=>intro a b;rw [List.foldl_cons,List.foldl_cons,Rat.add_assoc,ih]
 rw [show (0:Rat) + x=x + 0 by grind,this]
theorem Ea (l m:List Rat):lI (l++m)=lI l + lI m:=by
 induction l with
 | nil=>show lI m=0 + lI m;grind
 | cons x l ih=>rw [List.cons_append,tT,tT,ih];grind
def gs (f:Uq→Rat) (us:List Uq):Rat:=lI (us.map f)
theorem Nd (f:Uq→Rat):gs f []=0:=rfl
theorem pO (f:Uq→Rat) (e:Uq) (us:List Uq):gs f (e::us)=f e + gs f us:=by unfold gs;rw [List.map_cons,tT]
theorem mA (f:Uq→Rat) (a b:List Uq):gs f (a++b)=gs f a + gs f b:=by unfold gs;rw [List.map_append,Ea]
theorem pP {f:Uq→Rat}:∀ {us:List Uq},(∀ e∈us,f e=0)→gs f us=0
 | [],_=>rfl
 | e::us,h=>by rw [pO,h e (by simp),pP (fun x hx=>h x (by simp [hx]))];grind
theorem Eb {f g:Uq→Rat}:∀ {us:List Uq},(∀ e∈us,f e=g e)→gs f us=gs g us
 | [],_=>rfl
 | e::us,h=>by rw [pO,pO,h e (by simp),Eb (fun x hx=>h x (by simp [hx]))]
theorem Hw {f:Uq→Rat}:∀ {us:List Uq},(∀ e∈us,0≤f e)→0≤gs f us
 | [],_=>Rat.le_refl
 | e::us,h=>by rw [pO];have:=h e (by simp);have:=Hw (f:=f) (us:=us) (fun x hx=>h x (by simp [hx]));grind
def vn (v:Nat) (e:Uq):Rat:=if e.1=v then e.2.2 else 0
def bf (v y:Nat) (e:Uq):Rat:=if e.1=v∧e.2.1 < y then e.2.2 else 0
def Lex (a b:Uq):Prop:=a.2.1 < b.2.1∨(a.2.1=b.2.1∧a.1 < b.1)
theorem pQ (y:Nat):∀ {k:Nat} {l:List Rat} {m:Rat} {e:Uq},e∈sf y (bZ k l) m→e.2.1=y∧0 < e.2.2∧k≤e.1∧e.1 < k + l.length
 | k,[],m,e,h=>by cases h
 | k,x::l,m,e,h=>by
   have h':e∈(if 0 < ai x m then [(k,y,ai x m)] else [])++sf y (bZ (k + 1) l) (m - ai x m):=h
   rcases List.mem_append.1 h' with h1 | h1
   ·by_cases hp:0 < ai x m
    ·rw [if_pos hp,List.mem_singleton] at h1
     subst h1
     exact ⟨rfl,hp,Nat.le_refl _,by show k < k + (x::l).length;simp⟩
    ·rw [if_neg hp] at h1;cases h1
   ·obtain ⟨a,b,c,d⟩:=pQ y h1
    exact ⟨a,b,by omega,by rw [List.length_cons];omega⟩
theorem Bq {a b:Rat} (h:0≤a) (k:0≤b):0≤ai a b:=by rcases cQ a b with ⟨e,_⟩ | ⟨e,_⟩ <;> rw [e] <;> assumption
theorem tb_head {y k v:Nat} {r:Rat} (hr:0≤r):gs (vn v) (if 0 < r then [((k,y,r):Uq)] else [])=if k=v then r else 0:=by
 by_cases hp:0 < r
 ·rw [if_pos hp,pO,Nd]
  show (if k=v then r else 0) + 0=_
  grind
 ·rw [if_neg hp,Nd]
  have:r=0:=by grind
  rw [this];simp
theorem Gb (y:Nat):∀ {k:Nat} {l:List Rat} {m:Rat} {i:Nat} {x:Rat},(∀ z∈l,0≤z)→0≤m→((si (bZ k l) m).map (·.2))[i]? =some x→∃ z,l[i]? =some z∧x=z - gs (vn (k + i)) (sf y (bZ k l) m)
 | k,[],m,i,x,_,_,h=>by cases h
 | k,z::l,m,i,x,hn,hm,h=>by
   have hz:=hn z (by simp)
   have hr:=Bq hz hm
   have En:=bR z m
   have e1:sf y (bZ k (z::l)) m=(if 0 < ai z m then [((k,y,ai z m):Uq)] else [])++sf y (bZ (k + 1) l) (m - ai z m):=rfl
   have e2:(si (bZ k (z::l)) m).map (·.2)=(z - ai z m)::(si (bZ (k + 1) l) (m - ai z m)).map (·.2):=rfl
   rw [e2] at h
   rw [e1,mA,tb_head hr]
   cases i with
   | zero=>
     rw [List.getElem?_cons_zero] at h
     cases h
     refine ⟨z,rfl,?_⟩
     have:gs (vn (k + 0)) (sf y (bZ (k + 1) l) (m - ai z m))=0:=pP fun e he=>by
      have:=pQ y he
      unfold vn
      rw [if_neg (by omega)]
     rw [this,if_pos (Nat.add_zero k).symm];grind
   | succ i=>
     rw [List.getElem?_cons_succ] at h
     obtain ⟨z',Ei,e⟩:=Gb y (fun z hz=>hn z (by simp [hz])) (by grind) h
     refine ⟨z',by rw [List.getElem?_cons_succ];exact Ei,?_⟩
     rw [e,if_neg (by omega),show k + 1 + i=k + (i + 1) by omega];grind
theorem Hx (y:Nat):∀ {k:Nat} {l:List Rat} {m:Rat},(sf y (bZ k l) m).Pairwise Lex
 | k,[],m=>List.Pairwise.nil
 | k,z::l,m=>by
   have e1:sf y (bZ k (z::l)) m=(if 0 < ai z m then [((k,y,ai z m):Uq)] else [])++sf y (bZ (k + 1) l) (m - ai z m):=rfl
   rw [e1,List.pairwise_append]
   refine ⟨?_,Hx y,fun a ha b hb=> ?_⟩
   ·split
    ·exact List.pairwise_singleton _ _
    ·exact List.Pairwise.nil
   ·obtain ⟨b1,_,b2,_⟩:=pQ y hb
    split at ha
    ·rw [List.mem_singleton] at ha
     subst ha
     exact .inr ⟨b1.symm,by show k < b.1;omega⟩
    ·cases ha
theorem Nf:∀ {t:List Vq} {m:Rat},(∀ p∈t,0≤p.2)→0≤m→0≤AX t m∧AX t m≤m
 | [],m,_,hm=>⟨Rat.le_refl,hm⟩
 | p::t,m,h,hm=>by
   have hr:=Bq (h p (by simp)) hm
   have En:=bR p.2 m
   obtain ⟨a,b⟩:=Nf (t:=t) (m:=m - ai p.2 m) (fun x hx=>h x (by simp [hx])) (by grind)
   rw [oT]
   exact ⟨by grind,by grind⟩
theorem Ng (y:Nat):∀ {k:Nat} {l:List Rat} {m:Rat} {e:Uq} {i:Nat} {x:Rat},(∀ z∈l,0≤z)→0≤m→e∈sf y (bZ k l) m→k + i < e.1→((si (bZ k l) m).map (·.2))[i]? =some x→x=0
 | k,[],m,e,i,x,_,_,he,_,_=>by cases he
 | k,z::l,m,e,i,x,hn,hm,he,hi,hx=>by
   have hz:=hn z (by simp)
   have hr:=Bq hz hm
   have En:=bR z m
   have e2:(si (bZ k (z::l)) m).map (·.2)=(z - ai z m)::(si (bZ (k + 1) l) (m - ai z m)).map (·.2):=rfl
   have GD:e∈(if 0 < ai z m then [((k,y,ai z m):Uq)] else [])++sf y (bZ (k + 1) l) (m - ai z m):=he
   rw [e2] at hx
   have Aw:e∈sf y (bZ (k + 1) l) (m - ai z m):=by
    rcases List.mem_append.1 GD with h1 | h1
    ·split at h1
     ·rw [List.mem_singleton] at h1;subst h1;exact absurd hi (by show ¬ k + i < k;omega)
     ·cases h1
    ·exact h1
   cases i with
   | zero=>
     rw [List.getElem?_cons_zero] at hx
     cases hx
     rcases cQ z m with ⟨e,_⟩ | ⟨e,_⟩
     ·rw [e];grind
     ·rw [e,show m - m=(0:Rat) by grind,(vU y (t:=bZ (k + 1) l) (fun p hp=>hn _ (by simp [(jq hp).2.2]))).1] at Aw
      cases Aw
   | succ i=>
     rw [List.getElem?_cons_succ] at hx
     exact Ng y (fun z hz=>hn z (by simp [hz])) (by grind) Aw (by omega) hx
structure RowOk (S F:Rat) (e:Rat×Rat) (r:aM):Prop where
 lim:r.eb=aD S F e.2
 alw:r.allowed=ai e.1 r.eb
 den:r.bW=e.1 - r.allowed
 us0:0≤r.used
 us1:r.used≤r.eb - r.allowed
 ded:r.bL=r.allowed + r.used
 ex0:0≤r.bl
structure Gc (S F:Rat) (kn d:Nat) (l:List (Rat×Rat)) (s:yL):Prop where
 len:s.left.length=s.rows.length
 Nh:s.rows.length=l.length
 cons:∀ (v:Nat) (x:Rat),s.left[v]? =some x→∃ r,s.rows[v]? =some r∧x=r.bW - r.bl - gs (vn v) s.uses
 nn:∀ x∈s.left,0≤x
 row:∀ (i:Nat) (r:aM),s.rows[i]? =some r→∃ e,l[i]? =some e∧RowOk S F e r
 exp:∀ (i:Nat) (r:aM),s.rows.length≤i + kn + d→s.rows[i]? =some r→r.bl=0
 use:∀ u∈s.uses,0 < u.2.2∧u.1 < u.2.1∧u.2.1≤u.1 + kn∧u.2.1 < s.rows.length
 sort:s.uses.Pairwise Lex
 old:∀ u∈s.uses,∀ (v:Nat) (r:aM),u.2.1≤v + kn→v < u.1→s.rows[v]? =some r→r.bW - gs (bf v (u.2.1 + 1)) s.uses≤0
theorem ti_exp {S F:Rat} {kn n:Nat} {l:List (Rat×Rat)} {s:yL} (h:Gc S F kn 1 l s) (hn:s.rows.length=n + 1):Gc S F kn 0 l (FK kn n s):=by
 unfold FK
 by_cases hk:kn≤n
 ·rw [if_pos hk]
  obtain ⟨j,hj⟩:∃ j,j=n - kn:=⟨_,rfl⟩
  rw [←hj]
  have hlj:j < s.left.length:=by rw [h.len];omega
  obtain ⟨x,hx⟩:∃ x,s.left[j]? =some x:=⟨_,List.getElem?_eq_getElem hlj⟩
  have Ki:s.left.getD j 0=x:=by rw [List.getD_eq_getElem?_getD,hx];rfl
  rw [Ki]
  have gB:=h.nn x (List.mem_of_getElem? hx)
  refine ⟨?_,?_,fun v z hv=> ?_,fun z hz=> ?_,fun i r hr=> ?_,fun i r hi hr=> ?_,fun u hu=> ?_,h.sort,fun u hu v r h1 h2 hr=> ?_⟩
  ·show (s.left.set j 0).length=(s.rows.modify j _).length
   rw [List.length_set,List.length_modify];exact h.len
  ·show (s.rows.modify j _).length=_
   rw [List.length_modify];exact h.Nh
  ·dsimp only at hv ⊢
   by_cases e:j=v
   ·subst e
    rw [List.getElem?_set_self hlj] at hv
    cases hv
    obtain ⟨r,hr,he⟩:=h.cons j x hx
    refine ⟨{ r with bl:=x },by rw [uH rfl,hr];rfl,?_⟩
    have:=h.exp j r (by omega) hr
    show (0:Rat)=r.bW - x - _
    grind
   ·rw [List.getElem?_set_ne e] at hv
    obtain ⟨r,hr,he⟩:=h.cons v z hv
    exact ⟨r,by rw [qm e];exact hr,he⟩
  ·rcases List.mem_or_eq_of_mem_set hz with h' | h'
   ·exact h.nn z h'
   ·rw [h'];exact Rat.le_refl
  ·dsimp only at hr
   by_cases e:j=i
   ·rw [uH e] at hr
    obtain ⟨r',kA,rfl⟩:=Option.map_eq_some_iff.1 hr
    obtain ⟨y,hy,a⟩:=h.row i r' kA
    exact ⟨y,hy,a.lim,a.alw,a.den,a.us0,a.us1,a.ded,gB⟩
   ·rw [qm e] at hr
    exact h.row i r hr
  ·dsimp only at hr hi
   rw [List.length_modify] at hi
   rw [qm (by omega)] at hr
   exact h.exp i r (by omega) hr
  ·have:=h.use u hu
   show _∧_∧_∧_ < (s.rows.modify j _).length
   rw [List.length_modify];exact this
  ·dsimp only at hr ⊢
   by_cases e:j=v
   ·rw [uH e] at hr
    obtain ⟨r',kA,rfl⟩:=Option.map_eq_some_iff.1 hr
    exact h.old u hu v r' h1 h2 kA
   ·rw [qm e] at hr
    exact h.old u hu v r h1 h2 hr
 ·rw [if_neg hk]
  exact ⟨h.len,h.Nh,h.cons,h.nn,h.row,fun i r hi hr=>h.exp i r (by omega) hr,h.use,h.sort,h.old⟩
theorem ti_year {S F:Rat} {kn:Nat} {l:List (Rat×Rat)} {s:yL} (h:Gc S F kn 0 l s) (y:Rat×Rat):Gc S F kn 0 (l++[y]) (mv S F kn s.rows.length s y):=by
 unfold mv
 obtain ⟨n,hn⟩:∃ n,n=s.rows.length:=⟨_,rfl⟩
 rw [←hn]
 obtain ⟨lo,Aa⟩:∃ lo,lo=n - kn:=⟨_,rfl⟩
 obtain ⟨L,hL⟩:∃ L,L=aD S F y.2:=⟨_,rfl⟩
 obtain ⟨m,hm⟩:∃ m,m=L - ai y.1 L:=⟨_,rfl⟩
 have xP:0≤m:=by have:=bR y.1 L;grind
 have hlen:=h.len
 have sV:=h.Nh
 obtain ⟨dl,iE⟩:∃ dl,dl=s.left.drop lo:=⟨_,rfl⟩
 have hdn:∀ z∈dl,0≤z:=fun z hz=>by rw [iE] at hz;exact h.nn _ (List.mem_of_mem_drop hz)
 have hdll:dl.length=n - lo:=by rw [iE,List.length_drop,hlen,hn]
 obtain ⟨t,ht⟩:∃ t,t=bZ lo dl:=⟨_,rfl⟩
 have htn:∀ p∈t,0≤p.2:=fun p hp=>by rw [ht] at hp;exact hdn _ (jq hp).2.2
 have pg:=Nf htn xP
 rw [←Aa,←iE,←ht,←hL,←hm]
 obtain ⟨nu,hnu⟩:∃ nu,nu=sf n t m:=⟨_,rfl⟩
 have vN:∀ e∈nu,e.2.1=n∧0 < e.2.2∧lo≤e.1∧e.1 < n:=fun e he=>by
  rw [hnu,ht] at he
  obtain ⟨a,b,c,d⟩:=pQ n he
  exact ⟨a,b,c,by rw [hdll] at d;omega⟩
 refine ti_exp (n:=n) ?_ (by show (s.rows++[_]).length=_;rw [List.length_append,←hn];rfl)
 obtain ⟨L1,hL1⟩:∃ L1,L1=s.left.take lo++(si t m).map (·.2):=⟨_,rfl⟩
 have Ni:L1.length=n:=by rw [hL1,List.length_append,List.length_take,List.length_map,vV,ht,sm,hdll,hlen,←hn];omega
 have hR:AZ S F t y=⟨L,ai y.1 L,y.1 - ai y.1 L,AX t m,ai y.1 L + AX t m,0,0⟩:=by unfold AZ;rw [←hL,←hm]
 rw [←hnu,←hL1,hR]
 have hget:∀ (v:Nat) (x:Rat),L1[v]? =some x→∃ z,s.left[v]? =some z∧x=z - gs (vn v) nu∧(∀ e∈nu,n≤v + kn→v < e.1→x=0):=by
  intro v x hv
  rw [hL1] at hv
  have FL:(s.left.take lo).length=lo:=by rw [List.length_take,hlen,←hn];omega
  by_cases hvl:v < lo
  ·rw [List.getElem?_append_left (by omega),List.getElem?_take_of_lt hvl] at hv
   refine ⟨x,hv,?_,fun e he h1 h2=>by omega⟩
   rw [pP (fun e he=>by have:=vN e he;unfold vn;rw [if_neg (by omega)])];grind
  ·rw [List.getElem?_append_right (by omega),FL] at hv
   obtain ⟨z,hz,e⟩:=Gb n (by exact hdn) xP (by rw [←ht];exact hv)
   refine ⟨z,?_,?_,fun e' GD h1 h2=> ?_⟩
   ·rw [iE,List.getElem?_drop,show lo + (v - lo)=v by omega] at hz;exact hz
   ·rw [hnu,ht]
    rw [show lo + (v - lo)=v by omega] at e
    exact e
   ·rw [hnu,ht] at GD
    exact Ng n (i:=v - lo) hdn xP GD (by omega) (by rw [←ht];exact hv)
 have hnn1:∀ x∈L1,0≤x:=fun x hx=>by
  rw [hL1] at hx
  rcases List.mem_append.1 hx with h' | h'
  ·exact h.nn x (List.mem_of_mem_take h')
  ·obtain ⟨p,hp,rfl⟩:=List.mem_map.1 h'
   exact AY p hp
 have hold:∀ (v:Nat) (r:aM),v < n→(s.rows++[(⟨L,ai y.1 L,y.1 - ai y.1 L,AX t m,ai y.1 L + AX t m,0,0⟩:aM)])[v]? =some r→s.rows[v]? =some r:=fun v r hv hr=>by
  rwa [List.getElem?_append_left (by omega)] at hr
 have IQ:∀ (v:Nat) (r:aM),n≤v→(s.rows++[(⟨L,ai y.1 L,y.1 - ai y.1 L,AX t m,ai y.1 L + AX t m,0,0⟩:aM)])[v]? =some r→v=n∧r=⟨L,ai y.1 L,y.1 - ai y.1 L,AX t m,ai y.1 L + AX t m,0,0⟩:=fun v r hv hr=>by
  have hlt:=(List.getElem?_eq_some_iff.1 hr).1
  rw [List.length_append,List.length_singleton,←hn] at hlt
  have hvn:v=n:=by omega
  subst hvn
  rw [List.getElem?_append_right (by omega),←hn,Nat.sub_self] at hr
  exact ⟨rfl,(Option.some.inj hr).symm⟩
 refine ⟨?_,?_,fun v x hv=> ?_,fun x hx=> ?_,fun i r hr=> ?_,fun i r hi hr=> ?_,fun u hu=> ?_,?_,fun u hu v r h1 h2 hr=> ?_⟩
 ·show (L1++[_]).length=(s.rows++[_]).length
  rw [List.length_append,List.length_append,Ni,hn];rfl
 ·show (s.rows++[_]).length=(l++[y]).length
  rw [List.length_append,List.length_append,sV];rfl
 ·dsimp only at hv ⊢
  by_cases hvn:v < n
  ·rw [List.getElem?_append_left (by omega)] at hv
   obtain ⟨z,hz,e,_⟩:=hget v x hv
   obtain ⟨r,hr,e'⟩:=h.cons v z hz
   refine ⟨r,by rw [List.getElem?_append_left (by omega)];exact hr,?_⟩
   rw [mA];grind
  ·have hlt:=(List.getElem?_eq_some_iff.1 hv).1
   rw [List.length_append,List.length_singleton,Ni] at hlt
   have hvn:v=n:=by omega
   subst hvn
   rw [List.getElem?_append_right (by omega),Ni,Nat.sub_self] at hv
   cases hv
   refine ⟨_,by rw [List.getElem?_append_right (by omega),←hn,Nat.sub_self];rfl,?_⟩
   rw [mA,pP (us:=s.uses) (fun e he=>by have:=h.use e he;unfold vn;rw [if_neg (by omega)]),pP (us:=nu) (fun e he=>by have:=vN e he;unfold vn;rw [if_neg (by omega)])]
   show _=y.1 - ai y.1 L - 0 - _
   grind
 ·rcases List.mem_append.1 hx with h' | h'
  ·exact hnn1 x h'
  ·rw [List.mem_singleton.1 h']
   have:=dh y.1 L
   grind
 ·dsimp only at hr
  by_cases tY:i < n
  ·obtain ⟨e,he,a⟩:=h.row i r (hold i r tY hr)
   exact ⟨e,by rw [List.getElem?_append_left (by omega)];exact he,a⟩
  ·obtain ⟨rfl,rfl⟩:=IQ i r (by omega) hr
   refine ⟨y,by rw [List.getElem?_append_right (by omega),←sV,←hn,Nat.sub_self];rfl,hL,rfl,rfl,pg.1,by show AX t m≤L - ai y.1 L;rw [←hm];exact pg.2,rfl,Rat.le_refl⟩
 ·dsimp only at hr hi
  rw [List.length_append,List.length_singleton,←hn] at hi
  by_cases tY:i < n
  ·exact h.exp i r (by omega) (hold i r tY hr)
  ·obtain ⟨rfl,rfl⟩:=IQ i r (by omega) hr
   rfl
 ·show _∧_∧_∧_ < (s.rows++[_]).length
  rw [List.length_append,List.length_singleton,←hn]
  rcases List.mem_append.1 hu with h' | h'
  ·have:=h.use u h'
   exact ⟨this.1,this.2.1,this.2.2.1,by omega⟩
  ·have:=vN u h'
   exact ⟨this.2.1,by omega,by omega,by omega⟩
 ·show (s.uses++nu).Pairwise Lex
  rw [List.pairwise_append]
  refine ⟨h.sort,by rw [hnu,ht];exact Hx n,fun a ha b hb=>.inl ?_⟩
  have:=h.use a ha
  have:=vN b hb
  omega
 ·dsimp only at hr hu ⊢
  rcases List.mem_append.1 hu with h' | h'
  ·have hun:=h.use u h'
   rw [mA,pP (us:=nu) (fun e he=>by have:=vN e he;unfold bf;rw [if_neg (by omega)])]
   have:=h.old u h' v r h1 h2 (hold v r (by omega) hr)
   grind
  ·have hun:=vN u h'
   have hvn:v < n:=by omega
   obtain ⟨x,hx⟩:∃ x,L1[v]? =some x:=⟨_,List.getElem?_eq_getElem (by omega)⟩
   obtain ⟨z,hz,e,h0⟩:=hget v x hx
   have gB:=h0 u h' (by omega) h2
   obtain ⟨r',kA,e'⟩:=h.cons v z hz
   have ji:=hold v r hvn hr
   rw [kA] at ji
   cases ji
   have hex:=h.exp v _ (by omega) kA
   have hbv:gs (bf v (u.2.1 + 1)) (s.uses++nu)=gs (vn v) (s.uses++nu):=Eb fun e he=>by
    have:e.2.1 < u.2.1 + 1:=by
     rcases List.mem_append.1 he with h'' | h''
     ·have:=h.use e h'';omega
     ·have:=vN e h'';omega
    unfold bf vn
    by_cases hev:e.1=v
    ·rw [if_pos ⟨hev,this⟩,if_pos hev]
    ·rw [if_neg (fun x=>hev x.1),if_neg hev]
   rw [hbv,mA]
   grind
theorem Gd (S F:Rat) (kn:Nat) (l:List (Rat×Rat)):Gc S F kn 0 l (runT S F kn l):=by
 have key:∀ (l p:List (Rat×Rat)) (s:yL),Gc S F kn 0 p s→Gc S F kn 0 (p++l) (l.foldl (fun s y=>mv S F kn s.rows.length s y) s):=by
  intro l
  induction l with
  | nil=>intro p s h;rw [List.append_nil];exact h
  | cons y l ih=>
    intro p s h
    have:=ih (p++[y]) _ (ti_year h y)
    rwa [List.append_assoc] at this
 have:=key l [] ⟨[],[],[]⟩ ⟨rfl,rfl,fun v x hx=>(by cases hx),fun x hx=>(by cases hx),fun i r hr=>(by cases hr),fun i r _ hr=>(by cases hr),fun u hu=>(by cases hu),List.Pairwise.nil,fun u hu=>(by cases hu)⟩
 exact this
theorem Nj {left:List Rat} {rows:List aM} (i:Nat):(et (bZ 0 left) rows)[i]? =match left[i]? with
  | some x=>(rows[i]?).map (fun r=>{ r with closing:=x })
  | none=>rows[i]? :=by
 rw [pI _ _ (xQ 0 left)]
 cases hl:left[i]? with
 | none=>
   have:(bZ 0 left).find? (fun p=>p.1 == i)=none:=by
    rw [List.find?_eq_none]
    intro p hp e
    obtain ⟨j,hj⟩:=List.mem_iff_getElem?.1 hp
    rw [pG] at hj
    obtain ⟨x,hx,rfl⟩:=Option.map_eq_some_iff.1 hj
    have:0 + j=i:=by simpa using e
    rw [show j=i by omega,hl] at hx
    cases hx
   rw [this]
 | some x=>
   have hm:(i,x)∈bZ 0 left:=by
    apply List.mem_of_getElem? (i:=i)
    rw [pG,hl];simp
   cases hf:(bZ 0 left).find? (fun p=>p.1 == i) with
   | none=>exact absurd (by simp) (List.find?_eq_none.1 hf _ hm)
   | some p=>
     have hp:=List.find?_some hf
     obtain ⟨j,hj⟩:=List.mem_iff_getElem?.1 (List.mem_of_find?_eq_some hf)
     rw [pG] at hj
     obtain ⟨x',hx,rfl⟩:=Option.map_eq_some_iff.1 hj
     have:0 + j=i:=by simpa using hp
     rw [show j=i by omega,hl] at hx
     cases hx
     rfl
theorem qX:∀ (q:List Vq) (r:List aM),(et q r).length=r.length
 | [],_=>rfl
 | p::q,r=>by show (et q _).length=_;rw [qX q,List.length_modify]
structure LedLaw (S F:Rat) (kn:Nat) (l:List (Rat×Rat)) (x:List aM×List Uq):Prop where
 Nh:x.1.length=l.length
 row:∀ (i:Nat) (r:aM),x.1[i]? =some r→∃ e,l[i]? =some e∧RowOk S F e r∧0≤r.closing∧gs (vn i) x.2 + r.bl + r.closing=r.bW
 use:∀ u∈x.2,0 < u.2.2∧u.1 < u.2.1∧u.2.1≤u.1 + kn∧u.2.1 < l.length
 sort:x.2.Pairwise Lex
 old:∀ u∈x.2,∀ (v:Nat) (r:aM),u.2.1≤v + kn→v < u.1→x.1[v]? =some r→r.bW - gs (bf v (u.2.1 + 1)) x.2≤0
theorem wi {left:List Rat} {rows:List aM} {i:Nat} {r:aM} (hl:left.length=rows.length) (h:(et (bZ 0 left) rows)[i]? =some r):∃ r' x,rows[i]? =some r'∧left[i]? =some x∧r={ r' with closing:=x }:=by
 have hlt:=(List.getElem?_eq_some_iff.1 h).1
 rw [qX] at hlt
 obtain ⟨x,hx⟩:∃ x,left[i]? =some x:=⟨_,List.getElem?_eq_getElem (by omega)⟩
 rw [Nj,hx] at h
 obtain ⟨r',kA,rfl⟩:=Option.map_eq_some_iff.1 h
 exact ⟨r',x,kA,hx,rfl⟩
theorem Br (S F:Rat) (kn:Nat) (l:List (Rat×Rat)):LedLaw S F kn l (nh S F kn l):=by
 rw [xR]
 have h:=Gd S F kn l
 unfold ledT
 generalize runT S F kn l=s at h
 refine ⟨by show (et _ _).length=_;rw [qX];exact h.Nh,fun i r hr=> ?_,fun u hu=> ?_,h.sort,fun u hu v r h1 h2 hr=> ?_⟩
 ·obtain ⟨r',x,kA,hx,rfl⟩:=wi h.len hr
  obtain ⟨e,he,a⟩:=h.row i r' kA
  obtain ⟨r2,ji,e2⟩:=h.cons i x hx
  rw [kA] at ji
  cases ji
  refine ⟨e,he,⟨a.lim,a.alw,a.den,a.us0,a.us1,a.ded,a.ex0⟩,h.nn x (List.mem_of_getElem? hx),?_⟩
  show gs (vn i) s.uses + r'.bl + x=r'.bW
  rw [e2];grind
 ·have:=h.use u hu
  rw [h.Nh] at this
  exact this
 ·obtain ⟨r',x,kA,hx,rfl⟩:=wi h.len hr
  exact h.old u hu v r' h1 h2 kA
end Go.Proofs.YtabalinjfgcfeaaGreat
namespace Go.Proofs.YtabalinjfgcfeaaGreat
open Go.RowKit
theorem Iz.ai {D:Nat} {a b:Rat} (h:Iz D a) (k:Iz D b):Iz D (ai a b):=by rcases cQ a b with ⟨e,_⟩ | ⟨e,_⟩ <;> rw [e] <;> assumption
theorem tb_iz {D:Nat} (y:Nat):∀ {t:List Vq} {m:Rat},(∀ p∈t,Iz D p.2)→Iz D m→(∀ p∈si t m,Iz D p.2)∧(∀ u∈sf y t m,Iz D u.2.2)∧Iz D (AX t m)
 | [],m,_,_=>⟨fun p hp=>(by cases hp),fun u hu=>(by cases hu),Iz.zero⟩
 | p::t,m,h,hm=>by
   have hp:=h p (by simp)
   have hr:=hp.ai hm
   obtain ⟨a,b,c⟩:=tb_iz y (t:=t) (m:=m - ai p.2 m) (fun x hx=>h x (by simp [hx])) (hm.sub hr)
   refine ⟨fun q hq=> ?_,fun u hu=> ?_,hr.add c⟩
   ·rcases List.mem_cons.1 hq with rfl | hq
    ·exact hp.sub hr
    ·exact a q hq
   ·rcases List.mem_append.1 (show u∈(if 0 < ai p.2 m then [((p.1,y,ai p.2 m):Uq)] else [])++sf y t (m - ai p.2 m) from hu) with h1 | h1
    ·split at h1
     ·rw [List.mem_singleton.1 h1];exact hr
     ·cases h1
    ·exact b u h1
structure RowZ (D:Nat) (r:aM):Prop where
 lim:Iz D r.eb
 alw:Iz D r.allowed
 den:Iz D r.bW
 us:Iz D r.used
 ded:Iz D r.bL
 ex:Iz D r.bl
 clo:Iz D r.closing
structure JM (D:Nat) (s:yL):Prop where
 left:∀ x∈s.left,Iz D x
 use:∀ u∈s.uses,Iz D u.2.2
 row:∀ r∈s.rows,RowZ D r
theorem mem_modify {l:List aM} {i:Nat} {f:aM→aM} {r:aM} (h:r∈l.modify i f):r∈l∨∃ r'∈l,r=f r':=by
 obtain ⟨j,hj⟩:=List.mem_iff_getElem?.1 h
 by_cases e:i=j
 ·rw [uH e] at hj
  obtain ⟨r',kA,rfl⟩:=Option.map_eq_some_iff.1 hj
  exact .inr ⟨r',List.mem_of_getElem? kA,rfl⟩
 ·rw [qm e] at hj
  exact .inl (List.mem_of_getElem? hj)
theorem JN {D:Nat} {S F:Rat} {kn:Nat} {s:yL} (h:JM D s) {y:Rat×Rat} (hL:Iz D (aD S F y.2)) (hy:Iz D y.1) (n:Nat):JM D (mv S F kn n s y):=by
 unfold mv
 have hr:=hy.ai hL
 have hm:=hL.sub hr
 obtain ⟨t,ht⟩:∃ t,t=bZ (n - kn) (s.left.drop (n - kn)):=⟨_,rfl⟩
 rw [←ht]
 obtain ⟨a,b,c⟩:=tb_iz n (t:=t) (m:=aD S F y.2 - ai y.1 (aD S F y.2)) (fun p hp=>by rw [ht] at hp;exact h.left _ (List.mem_of_mem_drop (jq hp).2.2)) hm
 have iQ:JM D ⟨(s.left.take (n - kn)++(si t (aD S F y.2 - ai y.1 (aD S F y.2))).map (·.2))++[y.1 - ai y.1 (aD S F y.2)],s.rows++[AZ S F t y],s.uses++sf n t (aD S F y.2 - ai y.1 (aD S F y.2))⟩:=by
  refine ⟨fun x hx=> ?_,fun u hu=> ?_,fun r kA=> ?_⟩
  ·rcases List.mem_append.1 hx with h1 | h1
   ·rcases List.mem_append.1 h1 with h2 | h2
    ·exact h.left x (List.mem_of_mem_take h2)
    ·obtain ⟨p,hp,rfl⟩:=List.mem_map.1 h2
     exact a p hp
   ·rw [List.mem_singleton.1 h1];exact hy.sub hr
  ·rcases List.mem_append.1 hu with h1 | h1
   ·exact h.use u h1
   ·exact b u h1
  ·rcases List.mem_append.1 kA with h1 | h1
   ·exact h.row r h1
   ·rw [List.mem_singleton.1 h1]
    exact ⟨hL,hr,hy.sub hr,c,hr.add c,Iz.zero,Iz.zero⟩
 generalize (⟨(s.left.take (n - kn)++(si t (aD S F y.2 - ai y.1 (aD S F y.2))).map (·.2))++[y.1 - ai y.1 (aD S F y.2)],s.rows++[AZ S F t y],s.uses++sf n t (aD S F y.2 - ai y.1 (aD S F y.2))⟩:yL)=s1 at iQ ⊢
 unfold FK
 split
 ·have hg:Iz D (s1.left.getD (n - kn) 0):=by
   rw [List.getD_eq_getElem?_getD]
   cases hx:s1.left[n - kn]? with
   | none=>exact Iz.zero
   | some x=>exact iQ.left x (List.mem_of_getElem? hx)
  refine ⟨fun x hx=> ?_,iQ.use,fun r kA=> ?_⟩
  ·rcases List.mem_or_eq_of_mem_set hx with h1 | h1
   ·exact iQ.left x h1
   ·rw [h1];exact Iz.zero
  ·rcases mem_modify kA with h1 | ⟨r',h1,rfl⟩
   ·exact iQ.row r h1
   ·have q:=iQ.row r' h1
    exact ⟨q.lim,q.alw,q.den,q.us,q.ded,hg,q.clo⟩
 ·exact iQ
theorem Nk {D:Nat} {S F:Rat} {kn:Nat} {l:List (Rat×Rat)} (hl:∀ e∈l,Iz D (aD S F e.2)∧Iz D e.1):JM D (runT S F kn l):=by
 have key:∀ (l:List (Rat×Rat)) (s:yL),(∀ e∈l,Iz D (aD S F e.2)∧Iz D e.1)→JM D s→JM D (l.foldl (fun s y=>mv S F kn s.rows.length s y) s):=by
  intro l
  induction l with
  | nil=>intro s _ h;exact h
  | cons y l ih=>intro s hl h;exact ih _ (fun e he=>hl e (by simp [he])) (JN h (hl y (by simp)).1 (hl y (by simp)).2 _)
 exact key l _ hl ⟨fun x hx=>(by cases hx),fun x hx=>(by cases hx),fun x hx=>(by cases hx)⟩
theorem Nl {v:Nat} {u:Uq}:∀ {us:List Uq},(∀ e∈us,0 < e.2.2)→u∈us→u.1=v→u.2.2≤gs (vn v) us
 | e::us,h,hu,hv=>by
   rw [pO]
   have h0:∀ x∈us,0≤vn v x:=fun x hx=>by
    have:=h x (by simp [hx])
    unfold vn;split <;> grind
   have:=Hw h0
   rcases List.mem_cons.1 hu with rfl | hu
   ·have:vn v u=u.2.2:=by unfold vn;rw [if_pos hv]
    grind
   ·have h1:=Nl (fun x hx=>h x (by simp [hx])) hu hv
    have h2:0≤vn v e:=by
     have:=h e (by simp)
     unfold vn;split <;> grind
    grind
theorem Nm {D kk:Nat} {M S F:Rat} {kn:Nat} {l:List (Rat×Rat)} (hM:yb D M S F kk l):LedSz kk (nh S F kn l):=by
 have Ec:=Br S F kn l
 have hz:=Nk (kn:=kn) (fun e he=>⟨(hM.el e he).1,(hM.el e he).2.2.1⟩)
 have qE:=Gd S F kn l
 have hrz:∀ r∈(nh S F kn l).1,RowZ D r:=fun r hr=>by
  rw [xR] at hr
  obtain ⟨i,hi⟩:=List.mem_iff_getElem?.1 hr
  obtain ⟨r',x,kA,hx,rfl⟩:=wi qE.len hi
  have q:=hz.row r' (List.mem_of_getElem? kA)
  exact ⟨q.lim,q.alw,q.den,q.us,q.ded,q.ex,hz.left x (List.mem_of_getElem? hx)⟩
 have hgn:∀ v,0≤gs (vn v) (nh S F kn l).2:=fun v=>Hw fun x hx=>by
  have:=(Ec.use x hx).1
  unfold vn;split <;> grind
 have pg:∀ r∈(nh S F kn l).1,(0≤r.eb∧r.eb≤M)∧(-M≤r.allowed∧r.allowed≤M)∧(0≤r.bW∧r.bW≤M)∧(0≤r.used∧r.used≤M + M)∧(-M≤r.bL∧r.bL≤M)∧(0≤r.bl∧r.bl≤M)∧(0≤r.closing∧r.closing≤M):=fun r hr=>by
  obtain ⟨i,hi⟩:=List.mem_iff_getElem?.1 hr
  obtain ⟨e,he,a,hc,hs⟩:=Ec.row i r hi
  obtain ⟨b1,b2,b3,b4,b5⟩:=hM.el e (List.mem_of_getElem? he)
  have zB:=pH S F e.2
  have h1:=a.lim
  have h2:=a.alw
  have h3:=a.den
  have h4:=a.us0
  have h5:=a.us1
  have h6:=a.ded
  have h7:=a.ex0
  have hg:=hgn i
  rw [←h1] at zB b2
  rcases cQ e.1 r.eb with ⟨e',_⟩ | ⟨e',_⟩ <;> rw [e'] at h2 <;> refine ⟨⟨?_,?_⟩,⟨?_,?_⟩,⟨?_,?_⟩,⟨?_,?_⟩,⟨?_,?_⟩,⟨?_,?_⟩,?_,?_⟩ <;> grind
 have hM0:∀ r∈(nh S F kn l).1,0≤M:=fun r hr=>by have:=(pg r hr).1;grind
 have hof:∀ x,0≤M→Iz D x→-M≤x→x≤M + M→fo x kk:=fun x h0 h h1 h2=>hM.sz x h (by grind) h2
 refine ⟨fun r hr=> ?_,fun u hu=> ?_⟩
 ·obtain ⟨b1,b2,b3,b4,b5,b6,b7⟩:=pg r hr
  have q:=hrz r hr
  have h0:=hM0 r hr
  exact ⟨hof _ h0 q.lim (by grind) (by grind),hof _ h0 q.alw (by grind) (by grind),hof _ h0 q.den (by grind) (by grind),hof _ h0 q.us (by grind) (by grind),hof _ h0 q.ded (by grind) (by grind),hof _ h0 q.ex (by grind) (by grind),hof _ h0 q.clo (by grind) (by grind)⟩
 ·obtain ⟨c1,c2,c3,c4⟩:=Ec.use u hu
  obtain ⟨r,hr⟩:∃ r,(nh S F kn l).1[u.1]? =some r:=⟨_,List.getElem?_eq_getElem (by rw [Ec.Nh];omega)⟩
  have h1:=Nl (fun x hx=>(Ec.use x hx).1) hu rfl
  obtain ⟨e,he,a,hc,hs⟩:=Ec.row u.1 r hr
  have b:=pg r (List.mem_of_getElem? hr)
  have h7:=a.ex0
  have h0:=hM0 r (List.mem_of_getElem? hr)
  have lT:Iz D u.2.2:=by rw [xR] at hu;exact hz.use u hu
  exact hof _ h0 lT (by grind) (by grind)
theorem rcmp_bd {a b:Rat} {c:Int} (h:eG a b=c):(a≤b→¬ c > 0)∧(b≤a→¬ c < 0)∧(a < b→c < 0)∧(b < a→c > 0)∧(a=b→c=0):=by
 subst h
 refine ⟨fun h=> ?_,fun h=> ?_,fun h=> ?_,fun h=> ?_,fun h=>eV h⟩
 ·have:=jM.2 h;omega
 ·have:=rZ.2 h;omega
 ·by_cases h':eG a b≥0
  ·have:=rZ.1 h';grind
  ·omega
 ·by_cases h':eG a b≤0
  ·have:=jM.1 h';grind
  ·omega
end Go.Proofs.YtabalinjfgcfeaaGreat
namespace Go.Proofs.YtabalinjfgcfeaaGreat
open Go.RowKit
attribute [local irreducible] aA VS
def zW (S F:RR) (keep:Int) (l:List (RR×RR)):Bool:=js S F keep && l.all qa && decide (l.length≤40)
def sO (S F:RR) (keep:Int) (l:List (RR×RR)):Int:=if js S F keep && l.all qa then 3 else 2
theorem Ge (S F:RR) (keep:Int) (l:List (RR×RR)):sO S F keep l≠0:=by unfold sO;split <;> decide
theorem Hy (v u:Value) (a b:RR) (keep:Int) (l:List (RR×RR)) (w:World) (hR:jr w v a b keep) (ha:a.mC 3) (hb:b.mC 3) (hl:er (ya 3) 8 w u l) (hlen:l.length≤100000) (hno:zW a b keep l=false) (c:Int) (hc:sO a b keep l=c):
  Calls Tryz.prog 11 #[v,u] w fun o w'=>o=.returned (.tuple #[.agg #[.slice none 0 0,.slice none 0 0],.int .i64 c])∧aj w w':=by
 subst hc
 unfold sO
 cases h:(js a b keep && l.all qa) with
 | false=>exact ML v u a b keep l 3 w hR ha hb hl (by decide) hlen h
 | true=>
   unfold zW at hno
   rw [h] at hno
   rw [Bool.and_eq_true] at h
   exact JH v u a b keep l 3 w hR ha hb hl (by decide) hlen h.1 h.2 (by simpa using hno)
structure mB (S F:RR) (keep:Int) (l:List (RR×RR)):Prop where
 k0:0≤keep
 k1:keep≤40
 s0:0≤S.q
 s1:S.q≤1
 rul:js S F keep=true
 yrs:l.all qa=true
 len:l.length≤40
theorem uO {S F:RR} {keep:Int} {l:List (RR×RR)} (h:zW S F keep l=true):mB S F keep l:=by
 unfold zW at h
 rw [Bool.and_eq_true,Bool.and_eq_true] at h
 obtain ⟨⟨h1,h2⟩,h3⟩:=h
 have hr:=h1
 unfold js at hr
 simp only [Bool.and_eq_true,decide_eq_true_iff] at hr
 obtain ⟨r1,r2,r3,r4,r5,r6⟩:=hr
 exact ⟨r5,r6,rZ.1 r3,jM.1 r4,h1,h2,of_decide_eq_true h3⟩
theorem Lm.ofSz {q:Rat} {k:Nat} (h:fo q k):Lm k q:=by
 obtain ⟨h1,h2⟩:=h
 have h1:=h1.lt
 have h2:=h2.lt
 exact ⟨by omega,by omega⟩
theorem jr.sz {w:World} {v:Value} {S F:RR} {keep:Int} {k:Nat} (h:jr w v S F keep) (hS:S.mC k) (hF:F.mC k) (hk:1≤k):fo S.q k∧fo F.q k:=by
 obtain ⟨p,c,r,d,p',c',r',d',rfl,h1,h2⟩:=h
 exact ⟨(h1.vZ hS).sz hk,(h2.vZ hF).sz hk⟩
theorem yrs_sz {w:World} {v:Value} {l:List (RR×RR)} {k:Nat} (h:er (ya k) 8 w v l) (hk:1≤k):∀ e∈l,fo e.1.q k∧fo e.2.q k:=fun e he=>by
 obtain ⟨i,hi,hx⟩:=List.mem_iff_getElem.1 he
 obtain ⟨p,c,rfl,_,_⟩:=h.form
 obtain ⟨_,_,cs,_,_,x,y,_,⟨_,_,_,_,_,h1⟩,⟨_,_,_,_,_,h2⟩,f1,f2⟩:=h.at (i:=i) (a:=e) (by rw [List.getElem?_eq_getElem hi,hx])
 exact ⟨(h1.vZ f1).sz hk,(h2.vZ f2).sz hk⟩
theorem yj {w:World} {v u:Value} {S F:RR} {keep:Int} {l:List (RR×RR)} (hR:jr w v S F keep) (hS:S.mC 3) (hF:F.mC 3) (hl:er (ya 3) 8 w u l) (fF:mB S F keep l) (hlen:l.length≤12):
  yb (S.q.den * F.q.den * vh (dU l)) (((4294967296 ^ 3:Nat):Int):Rat) S.q F.q 82 (dU l):=by
 obtain ⟨h1,h2⟩:=hR.sz hS hF (by decide)
 refine MQ (k:=3) (n:=12) (Lm.ofSz h1) (Lm.ofSz h2) fF.s0 fF.s1 (fun e he=> ?_) (by unfold dU;rw [List.length_map];exact hlen) (by decide)
 obtain ⟨x,hx,rfl⟩:=List.mem_map.1 he
 obtain ⟨a,b⟩:=yrs_sz hl (by decide) x hx
 exact ⟨Lm.ofSz a,Lm.ofSz b⟩
theorem yk (v u:Value) (S F:RR) (keep:Int) (kn:Nat) (l:List (RR×RR)) (w:World) (hR:jr w v S F keep) (hS:S.mC 3) (hF:F.mC 3) (hl:er (ya 3) 8 w u l) (fF:mB S F keep l) (hlen:l.length≤12) (sR:keep=(kn:Int)):
  Calls Tryz.prog 11 #[v,u] w fun o w'=>∃ r u',o=.returned (.tuple #[.agg #[r,u'],.int .i64 0])∧sK w.heap.size w' r u' (nh S.q F.q kn (dU l))∧aj w w':=by
 have hM:=yj hR hS hF hl fF hlen
 subst sR
 have:=fF.k1
 exact Ho v u S F kn l 3 82 _ _ w hR hS hF hl (by decide) (by decide) (by decide) fF.rul fF.yrs fF.len (by omega) hM
theorem lM {w:World} {b:Nat} {t:TypeId} {cs:List Value} (h:aV w b t cs.toArray) (k:Nat) (ds:List Value) (hd:ds <+:cs.drop k):∀ (j:Nat) (u:Value),ds[j]? =some u→w.cell? ((⟨b,0 + k,none⟩:Addr).add j)=some u:=by
 intro j u hj
 obtain ⟨t',ht⟩:=hd
 rw [Addr.add_mid,Nat.zero_add]
 refine h.cell ?_
 rw [List.getElem?_toArray,←List.getElem?_drop,←ht,List.getElem?_append_left (List.getElem?_eq_some_iff.1 hj).1]
 exact hj
end Go.Proofs.YtabalinjfgcfeaaGreat
set_option maxRecDepth 4000
namespace Go.Proofs.YtabalinjfgcfeaaGreat
open Go.RowKit
attribute [local irreducible] aA VS
theorem Ed {D kk:Nat} {M S F:Rat} {kn:Nat} {l:List (Rat×Rat)} (hM:yb D M S F kk l):xZ D M (gn S F kn l)∧(gn S F kn l).rows.length=l.length:=by
 have key:∀ (l p:List (Rat×Rat)) (s:DC),(∀ e∈l,Iz D (aD S F e.2)∧aD S F e.2≤M∧Iz D e.1∧-M≤e.1∧e.1≤M)→xZ D M s→s.rows.length=p.length→xZ D M (l.foldl (fun s y=>di S F kn s.rows.length s y) s)∧(l.foldl (fun s y=>di S F kn s.rows.length s y) s).rows.length=(p++l).length:=by
  intro l
  induction l with
  | nil=>intro p s _ h hp;rw [List.append_nil];exact ⟨h,hp⟩
  | cons y l ih=>
    intro p s hl h hp
    obtain ⟨a1,a2,a3,a4,a5⟩:=hl y (by simp)
    obtain ⟨b1,b2⟩:=Hj (keep:=kn) h a1 a2 a3 a4 a5
    have:=ih (p++[y]) _ (fun e he=>hl e (by simp [he])) b1 (by rw [b2,hp,List.length_append];rfl)
    rwa [List.append_assoc] at this
 exact key l [] ⟨[],[],[]⟩ hM.el ⟨fun p hp=>(by cases hp),by show 0 + 0≤2 * 0;omega⟩ rfl
end Go.Proofs.YtabalinjfgcfeaaGreat
namespace Go.Proofs.YtabalinjfgcfeaaGreat
open Go.RowKit
def Same5 (a b:aM):Prop:=a.eb=b.eb∧a.allowed=b.allowed∧a.bW=b.bW∧a.used=b.used∧a.bL=b.bL
structure Ext (k:Nat) (s0 s:yL):Prop where
 len:s.left.length=s.rows.length
 nn:∀ x∈s.left,0≤x
 le:k≤s.rows.length
 uses:∃ us,s.uses=s0.uses++us∧∀ u∈us,k≤u.2.1
 rows:∀ (i:Nat) (r0:aM),s0.rows[i]? =some r0→∃ r,s.rows[i]? =some r∧Same5 r r0
 left:∀ (i:Nat) (x0:Rat),s0.left[i]? =some x0→∃ x,s.left[i]? =some x∧x≤x0
theorem ext_exp {k n kn:Nat} {s0 s:yL} (h:Ext k s0 s):Ext k s0 (FK kn n s):=by
 unfold FK
 split
 ·refine ⟨?_,fun x hx=> ?_,?_,h.uses,fun i r0 hr=> ?_,fun i x0 hx=> ?_⟩
  ·show (s.left.set _ 0).length=(s.rows.modify _ _).length
   rw [List.length_set,List.length_modify];exact h.len
  ·rcases List.mem_or_eq_of_mem_set hx with h' | h'
   ·exact h.nn x h'
   ·rw [h'];exact Rat.le_refl
  ·show k≤(s.rows.modify _ _).length
   rw [List.length_modify];exact h.le
  ·obtain ⟨r,kA,hs⟩:=h.rows i r0 hr
   dsimp only
   by_cases e:n - kn=i
   ·refine ⟨{ r with bl:=s.left.getD (n - kn) 0 },?_,hs⟩
    rw [uH e,kA];rfl
   ·exact ⟨r,by rw [qm e];exact kA,hs⟩
  ·obtain ⟨x,GH,hl⟩:=h.left i x0 hx
   dsimp only
   by_cases e:n - kn=i
   ·have h0:=h.nn x (List.mem_of_getElem? GH)
    refine ⟨0,?_,by grind⟩
    rw [e,List.getElem?_set_self (List.getElem?_eq_some_iff.1 GH).1]
   ·exact ⟨x,by rw [List.getElem?_set_ne e];exact GH,hl⟩
 ·exact h
theorem Nn {S F:Rat} {kn k:Nat} {s0 s:yL} (h:Ext k s0 s) (y:Rat×Rat):Ext k s0 (mv S F kn s.rows.length s y):=by
 unfold mv
 obtain ⟨n,hn⟩:∃ n,n=s.rows.length:=⟨_,rfl⟩
 rw [←hn]
 obtain ⟨lo,Aa⟩:∃ lo,lo=n - kn:=⟨_,rfl⟩
 obtain ⟨m,hm⟩:∃ m,m=aD S F y.2 - ai y.1 (aD S F y.2):=⟨_,rfl⟩
 have xP:0≤m:=by have:=bR y.1 (aD S F y.2);grind
 have hlen:=h.len
 have hle:=h.le
 have hdn:∀ z∈s.left.drop lo,0≤z:=fun z hz=>h.nn _ (List.mem_of_mem_drop hz)
 rw [←Aa,←hm]
 obtain ⟨L1,hL1⟩:∃ L1,L1=s.left.take lo++(si (bZ lo (s.left.drop lo)) m).map (·.2):=⟨_,rfl⟩
 have FL:(s.left.take lo).length=lo:=by rw [List.length_take,hlen,←hn];omega
 have Ni:L1.length=n:=by rw [hL1,List.length_append,FL,List.length_map,vV,sm,List.length_drop,hlen,←hn];omega
 rw [←hL1]
 have hget:∀ (v:Nat) (x:Rat),L1[v]? =some x→∃ z,s.left[v]? =some z∧x≤z:=fun v x hv=>by
  rw [hL1] at hv
  by_cases hvl:v < lo
  ·rw [List.getElem?_append_left (by omega),List.getElem?_take_of_lt hvl] at hv
   exact ⟨x,hv,Rat.le_refl⟩
  ·rw [List.getElem?_append_right (by omega),FL] at hv
   obtain ⟨z,hz,e⟩:=Gb n hdn xP hv
   rw [List.getElem?_drop,show lo + (v - lo)=v by omega] at hz
   have hg:0≤gs (vn (lo + (v - lo))) (sf n (bZ lo (s.left.drop lo)) m):=Hw fun u hu=>by
    have:=(pQ n hu).2.1
    unfold vn;split <;> grind
   exact ⟨z,hz,by grind⟩
 refine ext_exp ⟨?_,fun x hx=> ?_,?_,?_,fun i r0 hr=> ?_,fun i x0 hx=> ?_⟩
 ·show (L1++[_]).length=(s.rows++[_]).length
  rw [List.length_append,List.length_append,Ni,hn];rfl
 ·rcases List.mem_append.1 hx with h' | h'
  ·rw [hL1] at h'
   rcases List.mem_append.1 h' with h'' | h''
   ·exact h.nn x (List.mem_of_mem_take h'')
   ·obtain ⟨p,hp,rfl⟩:=List.mem_map.1 h''
    exact AY p hp
  ·rw [List.mem_singleton.1 h']
   have:=dh y.1 (aD S F y.2)
   grind
 ·show k≤(s.rows++[_]).length
  rw [List.length_append];omega
 ·obtain ⟨us,hu,hk⟩:=h.uses
  refine ⟨us++sf n (bZ lo (s.left.drop lo)) m,by show s.uses++_=_;rw [hu,List.append_assoc],fun u hu'=> ?_⟩
  rcases List.mem_append.1 hu' with h' | h'
  ·exact hk u h'
  ·have:=(pQ n h').1;omega
 ·obtain ⟨r,kA,hs⟩:=h.rows i r0 hr
  exact ⟨r,by show (s.rows++[_])[i]? =_;rw [List.getElem?_append_left (List.getElem?_eq_some_iff.1 kA).1];exact kA,hs⟩
 ·obtain ⟨x,GH,hl⟩:=h.left i x0 hx
  have hlt:=(List.getElem?_eq_some_iff.1 GH).1
  obtain ⟨x1,CT⟩:∃ x1,L1[i]? =some x1:=⟨_,List.getElem?_eq_getElem (by omega)⟩
  obtain ⟨z,hz,e⟩:=hget i x1 CT
  rw [GH] at hz
  cases hz
  exact ⟨x1,by show (L1++[_])[i]? =_;rw [List.getElem?_append_left (by omega)];exact CT,by grind⟩
structure Gf (k:Nat) (x y:List aM×List Uq):Prop where
 uses:∃ us,x.2=y.2++us∧(∀ u∈us,k≤u.2.1)∧∀ u∈y.2,u.2.1 < k
 rows:∀ (i:Nat) (r':aM),y.1[i]? =some r'→∃ r,x.1[i]? =some r∧Same5 r r'∧r.closing≤r'.closing
theorem led_pre (S F:Rat) (kn:Nat) (l:List (Rat×Rat)) (k:Nat) (hk:k≤l.length):Gf k (nh S F kn l) (nh S F kn (l.take k)):=by
 rw [xR,xR]
 have h0:=Gd S F kn (l.take k)
 have hlk:(l.take k).length=k:=by rw [List.length_take];omega
 have hE0:Ext k (runT S F kn (l.take k)) (runT S F kn (l.take k)):=⟨h0.len,h0.nn,by rw [h0.Nh,hlk];exact Nat.le_refl _,⟨[],by rw [List.append_nil],fun u hu=>(by cases hu)⟩,fun i r hr=>⟨r,hr,rfl,rfl,rfl,rfl,rfl⟩,fun i x hx=>⟨x,hx,Rat.le_refl⟩⟩
 have key:∀ (m:List (Rat×Rat)) (s:yL),Ext k (runT S F kn (l.take k)) s→Ext k (runT S F kn (l.take k)) (m.foldl (fun s y=>mv S F kn s.rows.length s y) s):=by
  intro m
  induction m with
  | nil=>intro s h;exact h
  | cons y m ih=>intro s h;exact ih _ (Nn h y)
 have hE:=key (l.drop k) _ hE0
 have hfull:(l.drop k).foldl (fun s y=>mv S F kn s.rows.length s y) (runT S F kn (l.take k))=runT S F kn l:=by
  unfold runT
  rw [←List.foldl_append,List.take_append_drop]
 rw [hfull] at hE
 obtain ⟨us,hu,hku⟩:=hE.uses
 refine ⟨⟨us,hu,hku,fun u hu'=> ?_⟩,fun i r' hr=> ?_⟩
 ·have:=(h0.use u hu').2.2.2
  rw [h0.Nh,hlk] at this
  exact this
 ·obtain ⟨r0,x0,wx,gB,rfl⟩:=wi h0.len hr
  obtain ⟨r,ic,hs⟩:=hE.rows i r0 wx
  obtain ⟨x,CT,hl⟩:=hE.left i x0 gB
  refine ⟨{ r with closing:=x },?_,hs,hl⟩
  show (et (bZ 0 _) _)[i]? =_
  rw [Nj,CT,ic];rfl
end Go.Proofs.YtabalinjfgcfeaaGreat
set_option maxRecDepth 4000
namespace Go.Proofs.YtabalinjfgcfeaaGreat
open Go.RowKit
attribute [local irreducible] aA VS
theorem gh (i n:Int) (hn:0 < n) (h2:n≤100):∀ k,k=(IntKind.i64.wrap (i.tmod n + n)).tmod n→0≤k∧k < n:=by
 intro k hk
 have b1:=Int.tmod_lt_of_pos i hn
 have b2: -n < i.tmod n:=by
  have:=Int.tmod_lt_of_pos (-i) hn
  rw [Int.neg_tmod] at this
  omega
 rw [IntWalk.i64_in (i.tmod n + n) (by omega)] at hk
 have b3:=Int.tmod_lt_of_pos (i.tmod n + n) hn
 have b4:0≤(i.tmod n + n).tmod n:=Int.tmod_nonneg _ (by omega)
 omega
theorem Gg (i:Int) (n:Nat) (w:World) (lU:1≤n) (hn:n≤13):Calls Tryz.prog 10 #[.int .i64 i,.int .i64 (n:Int)] w fun o w'=>(∃ k:Nat,o=.returned (.int .i64 (k:Int))∧k < n)∧aj w w':=by
 rcases (by omega:n=1∨n=2∨n=3∨n=4∨n=5∨n=6∨n=7∨n=8∨n=9∨n=10∨n=11∨n=12∨n=13) with rfl | rfl | rfl | rfl | rfl | rfl | rfl | rfl | rfl | rfl | rfl | rfl | rfl
 ·refine aw (C:=bP Tryz.prog w _) (args:=[_,_]) Tryz.func10 rfl Tryz.ntmps10 (Nat.le_of_ble_eq_true rfl) ?_
  (repeat first|refine wN ?_|refine wP rfl ?_|refine aa rfl ?_|refine ab rfl ?_|refine wO rfl rfl ?_)
  refine VS.ret (aJ _ _) rfl rfl (fun wz kz bz=> ?_)
  obtain ⟨h1,h2⟩:=gh i 1 (by decide) (by decide) _ rfl
  exact ⟨⟨_,congrArg (fun z=>Ending.returned (.int .i64 z)) (Int.toNat_of_nonneg h1).symm,by omega⟩,bz⟩
 ·refine aw (C:=bP Tryz.prog w _) (args:=[_,_]) Tryz.func10 rfl Tryz.ntmps10 (Nat.le_of_ble_eq_true rfl) ?_
  (repeat first|refine wN ?_|refine wP rfl ?_|refine aa rfl ?_|refine ab rfl ?_|refine wO rfl rfl ?_)
  refine VS.ret (aJ _ _) rfl rfl (fun wz kz bz=> ?_)
  obtain ⟨h1,h2⟩:=gh i 2 (by decide) (by decide) _ rfl
  exact ⟨⟨_,congrArg (fun z=>Ending.returned (.int .i64 z)) (Int.toNat_of_nonneg h1).symm,by omega⟩,bz⟩
 ·refine aw (C:=bP Tryz.prog w _) (args:=[_,_]) Tryz.func10 rfl Tryz.ntmps10 (Nat.le_of_ble_eq_true rfl) ?_
  (repeat first|refine wN ?_|refine wP rfl ?_|refine aa rfl ?_|refine ab rfl ?_|refine wO rfl rfl ?_)
  refine VS.ret (aJ _ _) rfl rfl (fun wz kz bz=> ?_)
  obtain ⟨h1,h2⟩:=gh i 3 (by decide) (by decide) _ rfl
  exact ⟨⟨_,congrArg (fun z=>Ending.returned (.int .i64 z)) (Int.toNat_of_nonneg h1).symm,by omega⟩,bz⟩
 ·refine aw (C:=bP Tryz.prog w _) (args:=[_,_]) Tryz.func10 rfl Tryz.ntmps10 (Nat.le_of_ble_eq_true rfl) ?_
  (repeat first|refine wN ?_|refine wP rfl ?_|refine aa rfl ?_|refine ab rfl ?_|refine wO rfl rfl ?_)
  refine VS.ret (aJ _ _) rfl rfl (fun wz kz bz=> ?_)
  obtain ⟨h1,h2⟩:=gh i 4 (by decide) (by decide) _ rfl
  exact ⟨⟨_,congrArg (fun z=>Ending.returned (.int .i64 z)) (Int.toNat_of_nonneg h1).symm,by omega⟩,bz⟩
 ·refine aw (C:=bP Tryz.prog w _) (args:=[_,_]) Tryz.func10 rfl Tryz.ntmps10 (Nat.le_of_ble_eq_true rfl) ?_
  (repeat first|refine wN ?_|refine wP rfl ?_|refine aa rfl ?_|refine ab rfl ?_|refine wO rfl rfl ?_)
  refine VS.ret (aJ _ _) rfl rfl (fun wz kz bz=> ?_)
  obtain ⟨h1,h2⟩:=gh i 5 (by decide) (by decide) _ rfl
  exact ⟨⟨_,congrArg (fun z=>Ending.returned (.int .i64 z)) (Int.toNat_of_nonneg h1).symm,by omega⟩,bz⟩
 ·refine aw (C:=bP Tryz.prog w _) (args:=[_,_]) Tryz.func10 rfl Tryz.ntmps10 (Nat.le_of_ble_eq_true rfl) ?_
  (repeat first|refine wN ?_|refine wP rfl ?_|refine aa rfl ?_|refine ab rfl ?_|refine wO rfl rfl ?_)
  refine VS.ret (aJ _ _) rfl rfl (fun wz kz bz=> ?_)
  obtain ⟨h1,h2⟩:=gh i 6 (by decide) (by decide) _ rfl
  exact ⟨⟨_,congrArg (fun z=>Ending.returned (.int .i64 z)) (Int.toNat_of_nonneg h1).symm,by omega⟩,bz⟩
 ·refine aw (C:=bP Tryz.prog w _) (args:=[_,_]) Tryz.func10 rfl Tryz.ntmps10 (Nat.le_of_ble_eq_true rfl) ?_
  (repeat first|refine wN ?_|refine wP rfl ?_|refine aa rfl ?_|refine ab rfl ?_|refine wO rfl rfl ?_)
  refine VS.ret (aJ _ _) rfl rfl (fun wz kz bz=> ?_)
  obtain ⟨h1,h2⟩:=gh i 7 (by decide) (by decide) _ rfl
  exact ⟨⟨_,congrArg (fun z=>Ending.returned (.int .i64 z)) (Int.toNat_of_nonneg h1).symm,by omega⟩,bz⟩
 ·refine aw (C:=bP Tryz.prog w _) (args:=[_,_]) Tryz.func10 rfl Tryz.ntmps10 (Nat.le_of_ble_eq_true rfl) ?_
  (repeat first|refine wN ?_|refine wP rfl ?_|refine aa rfl ?_|refine ab rfl ?_|refine wO rfl rfl ?_)
  refine VS.ret (aJ _ _) rfl rfl (fun wz kz bz=> ?_)
  obtain ⟨h1,h2⟩:=gh i 8 (by decide) (by decide) _ rfl
  exact ⟨⟨_,congrArg (fun z=>Ending.returned (.int .i64 z)) (Int.toNat_of_nonneg h1).symm,by omega⟩,bz⟩
 ·refine aw (C:=bP Tryz.prog w _) (args:=[_,_]) Tryz.func10 rfl Tryz.ntmps10 (Nat.le_of_ble_eq_true rfl) ?_
  (repeat first|refine wN ?_|refine wP rfl ?_|refine aa rfl ?_|refine ab rfl ?_|refine wO rfl rfl ?_)
  refine VS.ret (aJ _ _) rfl rfl (fun wz kz bz=> ?_)
  obtain ⟨h1,h2⟩:=gh i 9 (by decide) (by decide) _ rfl
  exact ⟨⟨_,congrArg (fun z=>Ending.returned (.int .i64 z)) (Int.toNat_of_nonneg h1).symm,by omega⟩,bz⟩
 ·refine aw (C:=bP Tryz.prog w _) (args:=[_,_]) Tryz.func10 rfl Tryz.ntmps10 (Nat.le_of_ble_eq_true rfl) ?_
  (repeat first|refine wN ?_|refine wP rfl ?_|refine aa rfl ?_|refine ab rfl ?_|refine wO rfl rfl ?_)
  refine VS.ret (aJ _ _) rfl rfl (fun wz kz bz=> ?_)
  obtain ⟨h1,h2⟩:=gh i 10 (by decide) (by decide) _ rfl
  exact ⟨⟨_,congrArg (fun z=>Ending.returned (.int .i64 z)) (Int.toNat_of_nonneg h1).symm,by omega⟩,bz⟩
 ·refine aw (C:=bP Tryz.prog w _) (args:=[_,_]) Tryz.func10 rfl Tryz.ntmps10 (Nat.le_of_ble_eq_true rfl) ?_
  (repeat first|refine wN ?_|refine wP rfl ?_|refine aa rfl ?_|refine ab rfl ?_|refine wO rfl rfl ?_)
  refine VS.ret (aJ _ _) rfl rfl (fun wz kz bz=> ?_)
  obtain ⟨h1,h2⟩:=gh i 11 (by decide) (by decide) _ rfl
  exact ⟨⟨_,congrArg (fun z=>Ending.returned (.int .i64 z)) (Int.toNat_of_nonneg h1).symm,by omega⟩,bz⟩
 ·refine aw (C:=bP Tryz.prog w _) (args:=[_,_]) Tryz.func10 rfl Tryz.ntmps10 (Nat.le_of_ble_eq_true rfl) ?_
  (repeat first|refine wN ?_|refine wP rfl ?_|refine aa rfl ?_|refine ab rfl ?_|refine wO rfl rfl ?_)
  refine VS.ret (aJ _ _) rfl rfl (fun wz kz bz=> ?_)
  obtain ⟨h1,h2⟩:=gh i 12 (by decide) (by decide) _ rfl
  exact ⟨⟨_,congrArg (fun z=>Ending.returned (.int .i64 z)) (Int.toNat_of_nonneg h1).symm,by omega⟩,bz⟩
 ·refine aw (C:=bP Tryz.prog w _) (args:=[_,_]) Tryz.func10 rfl Tryz.ntmps10 (Nat.le_of_ble_eq_true rfl) ?_
  (repeat first|refine wN ?_|refine wP rfl ?_|refine aa rfl ?_|refine ab rfl ?_|refine wO rfl rfl ?_)
  refine VS.ret (aJ _ _) rfl rfl (fun wz kz bz=> ?_)
  obtain ⟨h1,h2⟩:=gh i 13 (by decide) (by decide) _ rfl
  exact ⟨⟨_,congrArg (fun z=>Ending.returned (.int .i64 z)) (Int.toNat_of_nonneg h1).symm,by omega⟩,bz⟩
theorem er.takeK {α:Type} {E:World→List Value→α→Prop} {sz:Nat} {w:World} {p:Option Addr} {n c k:Nat} {es:List α} (h:er E sz w (.slice p n c) es) (hk:k≤n):er E sz w (.slice p k c) (es.take k):=by
 obtain ⟨p',d,e,h1,h2,h3⟩:=h
 cases e
 have hl:(es.take k).length=k:=by rw [List.length_take];omega
 refine ⟨p,c,by rw [hl],by omega,h2,fun i q hq=> ?_⟩
 rw [List.getElem?_take] at hq
 split at hq
 ·exact h3 i q hq
 ·cases hq
theorem Hz {p:Option Addr} {n k c:Nat}:Value.slice (if c=((none:Option Int).getD 0).toNat then p else p.map (·.add (((none:Option Int).getD 0).toNat * 8))) (((some (k:Int)).getD (n:Int)).toNat - ((none:Option Int).getD 0).toNat) (c - ((none:Option Int).getD 0).toNat)=.slice p k c:=by
 cases p <;> simp [Addr.add]
theorem JO (v u:Value) (S F:RR) (keep:Int) (l:List (RR×RR)) (w:World) (hR:jr w v S F keep) (hS:S.mC 3) (hF:F.mC 3) (hl:er (ya 3) 8 w u l) (hlen:l.length≤12):
  Calls Tryz.prog 11 #[v,u] w fun o w'=>∃ (p:Option Addr) (n c:Nat) (p':Option Addr) (n' c':Nat) (e:Int),o=.returned (.tuple #[.agg #[.slice p n c,.slice p' n' c'],.int .i64 e])∧aj w w':=by
 cases fF:zW S F keep l with
 | false=>
   refine (Hy v u S F keep l w hR hS hF hl (by omega) fF _ rfl).mono ?_
   rintro o w' ⟨rfl,hb⟩
   exact ⟨_,_,_,_,_,_,_,rfl,hb⟩
 | true=>
   have hf:=uO fF
   have:=hf.k0
   refine (yk v u S F keep keep.toNat l w hR hS hF hl hf hlen (by omega)).mono ?_
   rintro o w' ⟨r,u',rfl,hL,hb⟩
   obtain ⟨p,c,p',c',rfl,rfl⟩:=hL.form
   exact ⟨_,_,_,_,_,_,_,rfl,hb⟩
theorem mB.take {S F:RR} {keep:Int} {l:List (RR×RR)} (h:mB S F keep l) (k:Nat):mB S F keep (l.take k):=by
 refine ⟨h.k0,h.k1,h.s0,h.s1,h.rul,?_,by rw [List.length_take];have:=h.len;omega⟩
 rw [List.all_eq_true]
 exact fun x hx=>List.all_eq_true.1 h.yrs x (List.mem_of_mem_take hx)
theorem Np {k:Nat} {x y:List aM×List Uq} (h:Gf k x y) {z:Nat} {R R':MY} (hR:(nP x).1[z]? =some R) (bt:(nP y).1[z]? =some R'):
  R.eb.q=R'.eb.q∧R.allowed.q=R'.allowed.q∧R.bW.q=R'.bW.q∧R.used.q=R'.used.q∧R.bL.q=R'.bL.q∧R.closing.q≤R'.closing.q:=by
 rw [show (nP x).1=x.1.map Na from rfl,List.getElem?_map] at hR
 rw [show (nP y).1=y.1.map Na from rfl,List.getElem?_map] at bt
 obtain ⟨r,hr,rfl⟩:=Option.map_eq_some_iff.1 hR
 obtain ⟨r',kA,rfl⟩:=Option.map_eq_some_iff.1 bt
 obtain ⟨r2,ji,⟨a1,a2,a3,a4,a5⟩,a6⟩:=h.rows z r' kA
 rw [hr] at ji
 cases ji
 show (kt r.eb).q=(kt r'.eb).q∧(kt r.allowed).q=(kt r'.allowed).q∧(kt r.bW).q=(kt r'.bW).q∧(kt r.used).q=(kt r'.used).q∧(kt r.bL).q=(kt r'.bL).q∧(kt r.closing).q≤(kt r'.closing).q
 simp only [uN]
 exact ⟨a1,a2,a3,a4,a5,a6⟩
theorem Nq {k:Nat} {x y:List aM×List Uq} (h:Gf k x y) {z:Nat} {e:MZ} (he:(nP x).2[z]? =some e):
  ∃ a b:Nat,e.1=(a:Int)∧e.2.1=(b:Int)∧(b < k↔z < y.2.length)∧(z < y.2.length→(nP y).2[z]? =some e):=by
 rw [show (nP x).2=x.2.map Nb from rfl,List.getElem?_map] at he
 obtain ⟨u,hu,rfl⟩:=Option.map_eq_some_iff.1 he
 obtain ⟨us,vf,h1,h2⟩:=h.uses
 rw [vf] at hu
 refine ⟨u.1,u.2.1,rfl,rfl,?_,fun hz=> ?_⟩
 ·by_cases hz:z < y.2.length
  ·rw [List.getElem?_append_left hz] at hu
   have:=h2 u (List.mem_of_getElem? hu)
   omega
  ·rw [List.getElem?_append_right (by omega)] at hu
   have:=h1 u (List.mem_of_getElem? hu)
   omega
 ·rw [List.getElem?_append_left hz] at hu
  rw [show (nP y).2=y.2.map Nb from rfl,List.getElem?_map,hu];rfl
set_option maxRecDepth 4000 in
set_option maxHeartbeats 16000000 in
theorem Gh (v u:Value) (S F:RR) (keep:Int) (l:List (RR×RR)) (nn:Int) (kk:Nat) (w:World) (hR:jr w v S F keep) (hl:er (ya kk) 8 w u l):
  Calls Tryz.prog 3 #[v,u,.int .i64 nn] w fun o w'=>o=.returned (.bool true)∧aj w w':=by
 obtain ⟨uq,uc,rfl,huc,hum⟩:=hl.form
 obtain ⟨sp,sc,sr,sd,fp,fc,fr,fd,rfl,hsraw,hfraw⟩:=hR
 have hR:jr w (.agg #[.bool S.1,.slice sp S.2.1.length sc,.bool S.2.2.1,.slice sr S.2.2.2.length sd,.bool F.1,.slice fp F.2.1.length fc,.bool F.2.2.1,.slice fr F.2.2.2.length fd,.int .i64 keep]) S F keep:=⟨_,_,_,_,_,_,_,_,rfl,hsraw,hfraw⟩
 obtain ⟨N,hN⟩:∃ N,N=l.length:=⟨_,rfl⟩
 rw [←hN] at hl huc
 rw [←hN]
 refine aw (C:=zU Tryz.prog w _) (args:=[_,_,_]) Tryz.func3 rfl Tryz.ntmps3 (Nat.le_of_ble_eq_true rfl) ?_
 (repeat first|refine wN ?_|refine wP rfl ?_|refine dP rfl ?_|refine dQ rfl ?_|refine wO rfl rfl ?_)
 cases hfew:nD S F l with
 | false=>
   refine VO.call rfl rfl (fk Tryz.func8) (fun cB eu dt=>(DZ _ _ S F keep l kk cB (hR.kp (Kp.of (U:=UU) dt)) (hl.bk (fE kk) dt) false hfew).mono ?_)
   rintro e w1 ⟨rfl,aU⟩
   skip
   refine ⟨_,rfl,aU,fun fq _ bb1=>wV rfl ?_⟩
   (repeat first|refine wN ?_|refine wP rfl ?_|refine dP rfl ?_|refine dQ rfl ?_|refine wO rfl rfl ?_)
   refine VO.call rfl rfl (fk Tryz.func9) (fun dR gS eW=>(lj dR).mono ?_)
   rintro e w2 ⟨rfl,bn⟩
   skip
   refine ⟨_,rfl,bn,fun gw _ bb2=>wV rfl ?_⟩
   (repeat first|refine wN ?_|refine wP rfl ?_|refine dP rfl ?_|refine dQ rfl ?_|refine wO rfl rfl ?_)
   refine VS.ret (ye _ _) rfl rfl (fun wz kz bz=> ?_)
   exact ⟨rfl,bz⟩
 | true=>
 have hl3:=MX hfew hl
 obtain ⟨hS3,hF3,-⟩:=zV hfew
 refine VO.call rfl rfl (fk Tryz.func8) (fun cB eu dt=>(DZ _ _ S F keep l kk cB (hR.kp (Kp.of (U:=UU) dt)) (hl.bk (fE kk) dt) true hfew).mono ?_)
 rintro e w1 ⟨rfl,aU⟩
 skip
 refine ⟨_,rfl,aU,fun fq _ bb1=>wV rfl ?_⟩
 (repeat first|refine wN ?_|refine wP rfl ?_|refine dP rfl ?_|refine dQ rfl ?_|refine wO rfl rfl ?_)
 by_cases zF:N≤12
 ·refine VS.bK rfl (decide_eq_false (show ¬ (N:Int) > 12 by omega)) ?_
  (repeat first|refine wN ?_|refine wP rfl ?_|refine dP rfl ?_|refine dQ rfl ?_|refine wO rfl rfl ?_)
  refine VO.fix 30 rfl (congrArg (fun z=>AV.val (.int .i64 z)) (show IntKind.i64.wrap ((N:Int) + 1)=((N + 1:Nat):Int) by rw [IntKind.wrap_i64];omega)) ?_
  refine VO.call rfl rfl (fk Tryz.func10) (fun gY iD jd=>(Gg nn (N + 1) gY (by omega) (by omega)).mono ?_)
  rintro e w3 ⟨⟨k,rfl,hk⟩,cI⟩
  skip
  refine ⟨_,rfl,cI,fun kS _ bb3=>wV rfl ?_⟩
  (repeat first|refine wN ?_|refine wP rfl ?_|refine dP rfl ?_|refine dQ rfl ?_|refine wO rfl rfl ?_)
  have hlk:(l.take k).length=k:=by rw [List.length_take];omega
  have hlT:=hl3.takeK (show k≤N by omega)
  cases fF:zW S F keep l with
  | false=>
    obtain ⟨c,hc⟩:∃ c,sO S F keep l=c:=⟨_,rfl⟩
    have hcn:c≠0:=hc▸Ge S F keep l
    refine VO.call rfl rfl (fk Tryz.func11) (fun mW pV nI=>(Hy _ _ S F keep l mW (hR.kp (Kp.of (U:=UU) nI)) hS3 hF3 (hl3.bk (fE 3) nI) (by omega) fF c hc).mono ?_)
    rintro e w4 ⟨rfl,gI⟩
    skip
    refine ⟨_,rfl,gI,fun oL _ AM=>wV rfl ?_⟩
    (repeat first|refine wN ?_|refine wP rfl ?_|refine dP rfl ?_|refine dQ rfl ?_|refine wO rfl rfl ?_)
    refine VO.cond rfl ⟨Int.le_refl _,show (0:Int)≤(k:Int) by omega,show (k:Int)≤(uc:Int) by omega,show (uc:Int)≤9223372036854775807 by omega⟩ (wV rfl ?_)
    refine VO.fix 42 rfl (congrArg AV.val Hz) ?_
    (repeat first|refine wN ?_|refine wP rfl ?_|refine dP rfl ?_|refine dQ rfl ?_|refine wO rfl rfl ?_)
    refine VO.call rfl rfl (fk Tryz.func11) (fun jK mD jy=>(JO _ _ S F keep (l.take k) jK (hR.kp (Kp.of (U:=UU) jy)) hS3 hF3 (hlT.bk (fE 3) jy) (by omega)).mono ?_)
    rintro e w5 ⟨p5,n5,c5,p5',n5',c5',e5,rfl,fY⟩
    skip
    refine ⟨_,rfl,fY,fun mX _ vQ=>wV rfl ?_⟩
    (repeat first|refine wN ?_|refine wP rfl ?_|refine dP rfl ?_|refine dQ rfl ?_|refine wO rfl rfl ?_)
    refine VS.bG rfl (bne_y hcn) ?_
    (repeat first|refine wN ?_|refine wP rfl ?_|refine dP rfl ?_|refine dQ rfl ?_|refine wO rfl rfl ?_)
    refine VO.call rfl rfl (fk Tryz.func9) (fun pW uC uZ=>(lj pW).mono ?_)
    rintro e w6 ⟨rfl,ny⟩
    skip
    refine ⟨_,rfl,ny,fun tD _ Dl=>wV rfl ?_⟩
    (repeat first|refine wN ?_|refine wP rfl ?_|refine dP rfl ?_|refine dQ rfl ?_|refine wO rfl rfl ?_)
    refine VS.ret (ye _ _) rfl rfl (fun wz kz bz=> ?_)
    exact ⟨rfl,bz⟩
  | true=>
  have hf:=uO fF
  have yu:=hf.k0
  have Ay:=hf.k1
  obtain ⟨kn,rfl⟩:∃ kn:Nat,keep=(kn:Int):=⟨keep.toNat,by omega⟩
  have hM:=yj hR hS3 hF3 hl3 hf (by omega)
  have hMk:=yj hR hS3 hF3 hlT (hf.take k) (by omega)
  have hsz:=Nm (kn:=kn) hM
  have hszk:=Nm (kn:=kn) hMk
  have Ec:=Br S.q F.q kn (dU l)
  have hlawk:=Br S.q F.q kn (dU (l.take k))
  have zz:(dU l).length=N:=by rw [hN];unfold dU;simp
  have hnk:(dU (l.take k)).length=k:=by unfold dU;rw [List.length_map,hlk]
  have lz:=led_pre S.q F.q kn (dU l) k (by omega)
  rw [show (dU l).take k=dU (l.take k) by unfold dU;rw [List.map_take]] at lz
  obtain ⟨x,hx⟩:∃ x,nh S.q F.q kn (dU l)=x:=⟨_,rfl⟩
  obtain ⟨y,hy⟩:∃ y,nh S.q F.q kn (dU (l.take k))=y:=⟨_,rfl⟩
  have ew:x.1.length=N:=by rw [←hx,Ec.Nh,zz]
  have jt:y.1.length=k:=by rw [←hy,hlawk.Nh,hnk]
  refine VO.call rfl rfl (fk Tryz.func11) (fun mW pV nI=>((yk _ _ S F (kn:Int) kn l mW (hR.kp (Kp.of (U:=UU) nI)) hS3 hF3 (hl3.bk (fE 3) nI) hf (by omega) rfl).mono (fun o w2 h=>And.intro h nI.size)).mono ?_)
  rintro e w4 ⟨⟨r4,u4,rfl,l4,gI⟩,DK⟩
  obtain ⟨pr,cr,pu,cu,rfl,rfl⟩:=l4.form
  rw [hx] at l4 lz hsz ⊢
  refine ⟨_,rfl,gI,fun oL _ AM=>wV rfl ?_⟩
  (repeat first|refine wN ?_|refine wP rfl ?_|refine dP rfl ?_|refine dQ rfl ?_|refine wO rfl rfl ?_)
  refine VO.cond rfl ⟨Int.le_refl _,show (0:Int)≤(k:Int) by omega,show (k:Int)≤(uc:Int) by omega,show (uc:Int)≤9223372036854775807 by omega⟩ (wV rfl ?_)
  refine VO.fix 42 rfl (congrArg AV.val Hz) ?_
  (repeat first|refine wN ?_|refine wP rfl ?_|refine dP rfl ?_|refine dQ rfl ?_|refine wO rfl rfl ?_)
  refine VO.call rfl rfl (fk Tryz.func11) (fun jK mD jy=>((yk _ _ S F (kn:Int) kn (l.take k) jK (hR.kp (Kp.of (U:=UU) jy)) hS3 hF3 (hlT.bk (fE 3) jy) (hf.take k) (by omega) rfl).mono (fun o w2 h=>And.intro h jy.size)).mono ?_)
  rintro e w5 ⟨⟨r5,u5,rfl,l5,fY⟩,pY⟩
  obtain ⟨ps,cs,pt,ct,rfl,rfl⟩:=l5.form
  rw [hy] at l5 lz hszk ⊢
  refine ⟨_,rfl,fY,fun mX _ vQ=>wV rfl ?_⟩
  (repeat first|refine wN ?_|refine wP rfl ?_|refine dP rfl ?_|refine dQ rfl ?_|refine wO rfl rfl ?_)
  have EM:y.2.length≤x.2.length:=by
   obtain ⟨us,vf,-⟩:=lz.uses
   rw [vf,List.length_append];omega
  obtain ⟨n,hn⟩:∃ n,n=x.2.length:=⟨_,rfl⟩
  obtain ⟨m,hm⟩:∃ m,m=y.2.length:=⟨_,rfl⟩
  have hn24:n≤24:=by
   have h1:=(Ed (kn:=kn) hM).1.len
   have h2:=(Ed (kn:=kn) hM).2
   rw [hn,←hx]
   show (gn S.q F.q kn (dU l)).uses.length≤24
   omega
  rw [jt]
  refine VO.fix 58 rfl (congrArg (fun b=>AV.val (.bool b)) (Ma rfl)) ?_
  (repeat first|refine wN ?_|refine wP rfl ?_|refine dP rfl ?_|refine dQ rfl ?_|refine wO rfl rfl ?_)
  refine VS.bK rfl (decide_eq_false (by omega)) ?_
  (repeat first|refine wN ?_|refine wP rfl ?_|refine dP rfl ?_|refine dQ rfl ?_|refine wO rfl rfl ?_)
  refine VS.Mf (fun w=>bP Tryz.prog w 192) (fun _=>rfl) (fun _=>rfl) (fun _=>aj.refl _) (fun W β k6 b6 en=> ?_)
  have kk4:aF (zU Tryz.prog w 192).K w4 W:=mX.aI k6
  have kk5:aF (zU Tryz.prog w 192).K w5 W:=k6
  have hLX:=(l4.kpF (yf w 192) kk4 kk4.wU).inI hsz
  have hLY:=(l5.kpF (yf w 192) kk5 kk5.wU).inI hszk
  have hc8:=(en.own 8 _ _ rfl).cls
  have Bs:=(en.own 10 _ _ rfl).cls
  obtain ⟨b8,hb8'⟩:∃ b,b=β 8:=⟨_,rfl⟩
  obtain ⟨Hi,hb10'⟩:∃ b,b=β 10:=⟨_,rfl⟩
  refine ⟨[(7,.val (.int .i64 (k:Int))),(8,.val (.pointer (some ⟨β 8,0,none⟩))),(10,.val (.pointer (some ⟨β 10,0,none⟩))),(12,.val (.int .i64 0))],⟨⟨_,_,rfl,rfl,rfl⟩,⟨_,_,rfl,rfl,rfl⟩,⟨_,_,rfl,rfl,rfl⟩,⟨_,_,rfl,rfl,rfl⟩,trivial⟩,?_⟩
  rw [←hb8'] at hc8 ⊢
  rw [←hb10'] at Bs ⊢
  rw [ew,←hn] at hLX hc8
  rw [jt,←hm] at hLY
  rw [←hm] at Bs
  have hxl':(nP x).1.length=N:=by rw [←ew];exact List.length_map _
  have hyl':(nP y).1.length=k:=by rw [←jt];exact List.length_map _
  have hxu':(nP x).2.length=n:=by rw [hn];exact List.length_map _
  have hyu':(nP y).2.length=m:=by rw [hm];exact List.length_map _
  refine VS.loop (J:=fun m L M w'=>∃ (z:Nat),z≤k∧m=k - z∧L=[(7,.val (.int .i64 (k:Int))),(8,.val (.pointer (some ⟨b8,0,none⟩))),(10,.val (.pointer (some ⟨Hi,0,none⟩))),(12,.val (.int .i64 (z:Int)))]∧M=[]) k ⟨_,_,?_,?_,?_,?_,⟨0,by omega,rfl,rfl,rfl⟩⟩ ?_
  ·(repeat first|exact trivial|refine ⟨rfl,?_⟩)
  ·(repeat first|exact trivial|refine ⟨rfl,?_⟩)
  ·rfl
  ·(repeat first|exact trivial|refine ⟨ba.lit rfl,?_⟩|refine ⟨ba.vals _,?_⟩)
  rintro m L M w9 ⟨z,hz,rfl,rfl,rfl⟩
  (repeat first|refine wN ?_|refine wP rfl ?_|refine aa rfl ?_|refine ab rfl ?_|refine wO rfl rfl ?_)
  by_cases hlt:z < k
  ·obtain ⟨R,hRz⟩:∃ R,(nP x).1[z]? =some R:=⟨_,List.getElem?_eq_getElem (by rw [hxl'];omega)⟩
   obtain ⟨Q,hQz⟩:∃ R,(nP y).1[z]? =some R:=⟨_,List.getElem?_eq_getElem (by rw [hyl'];omega)⟩
   obtain ⟨e1,e2,e3,e4,e5,e6⟩:=Np lz hRz hQz
   obtain ⟨rb,ro,rcs,hrp,hrc,⟨_,_,_,_,_,_,_,rfl,⟨⟨z0p,z0c,z0r,z0d,rfl,g0⟩,f0⟩,⟨⟨z1p,z1c,z1r,z1d,rfl,g1⟩,f1⟩,⟨⟨z2p,z2c,z2r,z2d,rfl,g2⟩,f2⟩,⟨⟨z3p,z3c,z3r,z3d,rfl,g3⟩,f3⟩,⟨⟨z4p,z4c,z4r,z4d,rfl,g4⟩,f4⟩,⟨⟨z5p,z5c,z5r,z5d,rfl,g5⟩,f5⟩,⟨⟨z6p,z6c,z6r,z6d,rfl,g6⟩,f6⟩⟩⟩:=hLX.1.at hRz
   obtain ⟨qb,qo,qcs,hqp,hqc,⟨_,_,_,_,_,_,_,rfl,⟨⟨q0p,q0c,q0r,q0d,rfl,gq0⟩,fq0⟩,⟨⟨q1p,q1c,q1r,q1d,rfl,gq1⟩,fq1⟩,⟨⟨q2p,q2c,q2r,q2d,rfl,gq2⟩,fq2⟩,⟨⟨q3p,q3c,q3r,q3d,rfl,gq3⟩,fq3⟩,⟨⟨q4p,q4c,q4r,q4d,rfl,gq4⟩,fq4⟩,⟨⟨q5p,q5c,q5r,q5d,rfl,gq5⟩,fq5⟩,⟨⟨q6p,q6c,q6r,q6d,rfl,gq6⟩,fq6⟩⟩⟩:=hLY.1.at hQz
   subst hrp
   subst hqp
   obtain ⟨cm,fy⟩:∃ cm,eG R.closing.q Q.closing.q=cm:=⟨_,rfl⟩
   have hncm:=(rcmp_bd fy).1 e6
   refine VS.bG rfl (decide_eq_true (Int.ofNat_lt.2 hlt)) ?_
   (repeat (first | refine wN ?_ | refine wP rfl ?_ | refine wO rfl rfl ?_))
   refine VS.drawL (aJ _ _) (CS _ _) [] [1,4,6,9] [12,13] [13,14] (by kernel_rfl) ?_
   refine nd.chunk (l2:=[1,2,3,4,5,6,7,8,9,10,11,12,13]) [0] rfl ?_
   (repeat first|refine wN ?_|refine wP rfl ?_|refine aa rfl ?_|refine ab rfl ?_|refine wO rfl rfl ?_)
   refine nd.b (j:=1) rfl rfl rfl rfl ?_
   refine VO.read rfl [.slice (some ⟨rb,ro,none⟩) N cr] rfl (lM hc8 0 _ ⟨_,rfl⟩) (wV rfl ?_)
   (repeat first|refine wN ?_|refine wP rfl ?_|refine aa rfl ?_|refine ab rfl ?_|refine wO rfl rfl ?_)
   refine nd.chunk (l2:=[4,5,6,7,8,9,10,11,12,13]) [2,3] rfl ?_
   (repeat first|refine wN ?_|refine wP rfl ?_|refine aa rfl ?_|refine ab rfl ?_|refine wO rfl rfl ?_)
   refine VO.cond rfl ⟨by omega,by omega⟩ ?_
   refine wV rfl ?_
   (repeat first|refine wN ?_|refine wP rfl ?_|refine aa rfl ?_|refine ab rfl ?_|refine wO rfl rfl ?_)
   refine nd.b (j:=4) rfl rfl rfl rfl ?_
   refine VO.read rfl [.bool R.eb.1,.slice z0p R.eb.2.1.length z0c,.bool R.eb.2.2.1,.slice z0r R.eb.2.2.2.length z0d,.bool R.allowed.1,.slice z1p R.allowed.2.1.length z1c,.bool R.allowed.2.2.1,.slice z1r R.allowed.2.2.2.length z1d,.bool R.bW.1,.slice z2p R.bW.2.1.length z2c,.bool R.bW.2.2.1,.slice z2r R.bW.2.2.2.length z2d,.bool R.used.1,.slice z3p R.used.2.1.length z3c,.bool R.used.2.2.1,.slice z3r R.used.2.2.2.length z3d,.bool R.bL.1,.slice z4p R.bL.2.1.length z4c,.bool R.bL.2.2.1,.slice z4r R.bL.2.2.2.length z4d,.bool R.bl.1,.slice z5p R.bl.2.1.length z5c,.bool R.bl.2.2.1,.slice z5r R.bl.2.2.2.length z5d,.bool R.closing.1,.slice z6p R.closing.2.1.length z6c,.bool R.closing.2.2.1,.slice z6r R.closing.2.2.2.length z6d] rfl (dw hrc 0 _ ⟨[],rfl⟩) (wV rfl ?_)
   (repeat first|refine wN ?_|refine wP rfl ?_|refine aa rfl ?_|refine ab rfl ?_|refine wO rfl rfl ?_)
   refine nd.chunk (l2:=[6,7,8,9,10,11,12,13]) [5] rfl ?_
   (repeat first|refine wN ?_|refine wP rfl ?_|refine aa rfl ?_|refine ab rfl ?_|refine wO rfl rfl ?_)
   refine nd.b (j:=6) rfl rfl rfl rfl ?_
   refine VO.read rfl [.slice (some ⟨qb,qo,none⟩) k cs] rfl (lM Bs 0 _ ⟨_,rfl⟩) (wV rfl ?_)
   (repeat first|refine wN ?_|refine wP rfl ?_|refine aa rfl ?_|refine ab rfl ?_|refine wO rfl rfl ?_)
   refine nd.chunk (l2:=[9,10,11,12,13]) [7,8] rfl ?_
   (repeat first|refine wN ?_|refine wP rfl ?_|refine aa rfl ?_|refine ab rfl ?_|refine wO rfl rfl ?_)
   refine VO.cond rfl ⟨by omega,by omega⟩ ?_
   refine wV rfl ?_
   (repeat first|refine wN ?_|refine wP rfl ?_|refine aa rfl ?_|refine ab rfl ?_|refine wO rfl rfl ?_)
   refine nd.b (j:=9) rfl rfl rfl rfl ?_
   refine VO.read rfl [.bool Q.eb.1,.slice q0p Q.eb.2.1.length q0c,.bool Q.eb.2.2.1,.slice q0r Q.eb.2.2.2.length q0d,.bool Q.allowed.1,.slice q1p Q.allowed.2.1.length q1c,.bool Q.allowed.2.2.1,.slice q1r Q.allowed.2.2.2.length q1d,.bool Q.bW.1,.slice q2p Q.bW.2.1.length q2c,.bool Q.bW.2.2.1,.slice q2r Q.bW.2.2.2.length q2d,.bool Q.used.1,.slice q3p Q.used.2.1.length q3c,.bool Q.used.2.2.1,.slice q3r Q.used.2.2.2.length q3d,.bool Q.bL.1,.slice q4p Q.bL.2.1.length q4c,.bool Q.bL.2.2.1,.slice q4r Q.bL.2.2.2.length q4d,.bool Q.bl.1,.slice q5p Q.bl.2.1.length q5c,.bool Q.bl.2.2.1,.slice q5r Q.bl.2.2.2.length q5d,.bool Q.closing.1,.slice q6p Q.closing.2.1.length q6c,.bool Q.closing.2.2.1,.slice q6r Q.closing.2.2.2.length q6d] rfl (dw hqc 0 _ ⟨[],rfl⟩) (wV rfl ?_)
   (repeat first|refine wN ?_|refine wP rfl ?_|refine aa rfl ?_|refine ab rfl ?_|refine wO rfl rfl ?_)
   refine nd.chunk (l2:=[12,13]) [10,11] rfl ?_
   (repeat first|refine wN ?_|refine wP rfl ?_|refine aa rfl ?_|refine ab rfl ?_|refine wO rfl rfl ?_)
   refine nd.s (j:=12) rfl ⟨_,_,_,13,0,rfl,rfl,by simp⟩ rfl ?_
   (repeat first|refine wN ?_|refine wP rfl ?_|refine aa rfl ?_|refine ab rfl ?_|refine wO rfl rfl ?_)
   refine nd.s (j:=13) rfl ⟨_,_,_,14,0,rfl,rfl,by simp⟩ rfl ?_
   (repeat first|refine wN ?_|refine wP rfl ?_|refine aa rfl ?_|refine ab rfl ?_|refine wO rfl rfl ?_)
   refine VO.call rfl rfl (fk Tryz.func12) (fun yH Em xE=>(cT _ _ R.eb.q Q.eb.q 82 82 yH ((g0.kp (Kp.of (U:=UU) xE)).vZ f0) ((gq0.kp (Kp.of (U:=UU) xE)).vZ fq0) (by omega) (by omega) 0 (eV e1)).mono ?_)
   rintro e w7 ⟨rfl,uX⟩
   skip
   refine ⟨_,rfl,uX,fun zK _ bb7=>wV rfl ?_⟩
   (repeat first|refine wN ?_|refine wP rfl ?_|refine aa rfl ?_|refine ab rfl ?_|refine wO rfl rfl ?_)
   refine VO.call rfl rfl (fk Tryz.func12) (fun vc Fu yI=>(cT _ _ R.allowed.q Q.allowed.q 82 82 vc ((g1.kp (Kp.of (U:=UU) yI)).vZ f1) ((gq1.kp (Kp.of (U:=UU) yI)).vZ fq1) (by omega) (by omega) 0 (eV e2)).mono ?_)
   rintro e w8 ⟨rfl,re⟩
   skip
   refine ⟨_,rfl,re,fun vT _ JZ=>wV rfl ?_⟩
   (repeat first|refine wN ?_|refine wP rfl ?_|refine aa rfl ?_|refine ab rfl ?_|refine wO rfl rfl ?_)
   refine VO.call rfl rfl (fk Tryz.func12) (fun wa9 ka9 ba9=>(cT _ _ R.bW.q Q.bW.q 82 82 wa9 ((g2.kp (Kp.of (U:=UU) ba9)).vZ f2) ((gq2.kp (Kp.of (U:=UU) ba9)).vZ fq2) (by omega) (by omega) 0 (eV e3)).mono ?_)
   rintro e w9 ⟨rfl,Gv⟩
   skip
   refine ⟨_,rfl,Gv,fun Bz _ bb9=>wV rfl ?_⟩
   (repeat first|refine wN ?_|refine wP rfl ?_|refine aa rfl ?_|refine ab rfl ?_|refine wO rfl rfl ?_)
   refine VO.call rfl rfl (fk Tryz.func12) (fun tG xF Dm=>(cT _ _ R.used.q Q.used.q 82 82 tG ((g3.kp (Kp.of (U:=UU) Dm)).vZ f3) ((gq3.kp (Kp.of (U:=UU) Dm)).vZ fq3) (by omega) (by omega) 0 (eV e4)).mono ?_)
   rintro e w10 ⟨rfl,tH⟩
   skip
   refine ⟨_,rfl,tH,fun iG _ Jg=>wV rfl ?_⟩
   (repeat first|refine wN ?_|refine wP rfl ?_|refine aa rfl ?_|refine ab rfl ?_|refine wO rfl rfl ?_)
   refine VO.call rfl rfl (fk Tryz.func12) (fun xG AP Fv=>(cT _ _ R.bL.q Q.bL.q 82 82 xG ((g4.kp (Kp.of (U:=UU) Fv)).vZ f4) ((gq4.kp (Kp.of (U:=UU) Fv)).vZ fq4) (by omega) (by omega) 0 (eV e5)).mono ?_)
   rintro e w11 ⟨rfl,xH⟩
   skip
   refine ⟨_,rfl,xH,fun lH _ LN=>wV rfl ?_⟩
   (repeat first|refine wN ?_|refine wP rfl ?_|refine aa rfl ?_|refine ab rfl ?_|refine wO rfl rfl ?_)
   refine VO.call rfl rfl (fk Tryz.func12) (fun xI AQ Fw=>(cT _ _ R.closing.q Q.closing.q 82 82 xI ((g6.kp (Kp.of (U:=UU) Fw)).vZ f6) ((gq6.kp (Kp.of (U:=UU) Fw)).vZ fq6) (by omega) (by omega) cm fy).mono ?_)
   rintro e w12 ⟨rfl,xJ⟩
   skip
   refine ⟨_,rfl,xJ,fun oN _ LO=>wV rfl ?_⟩
   (repeat first|refine wN ?_|refine wP rfl ?_|refine aa rfl ?_|refine ab rfl ?_|refine wO rfl rfl ?_)
   refine VS.bK rfl (decide_eq_false hncm) ?_
   (repeat first|refine wN ?_|refine wP rfl ?_|refine aa rfl ?_|refine ab rfl ?_|refine wO rfl rfl ?_)
   refine VS.back (k - (z + 1)) (by omega) ⟨_,_,?_,?_,?_,?_,⟨z + 1,by omega,rfl,rfl,rfl⟩⟩
   ·refine ⟨rfl,rfl,rfl,?_,trivial⟩
    rw [←dK (i:=z) (by omega)];rfl
   ·(repeat first|exact trivial|refine ⟨rfl,?_⟩)
   ·rfl
   ·(repeat first|exact trivial|refine ⟨ba.lit rfl,?_⟩|refine ⟨ba.vals _,?_⟩)
  ·refine VS.bK rfl (decide_eq_false (fun e=>hlt (Int.ofNat_lt.1 e))) ?_
   (repeat first|refine wN ?_|refine wP rfl ?_|refine aa rfl ?_|refine ab rfl ?_|refine wO rfl rfl ?_)
   refine VS.loop (J:=fun m' L M w'=>∃ (z:Nat),z≤n∧m'=n - z∧L=[(7,.val (.int .i64 (k:Int))),(8,.val (.pointer (some ⟨b8,0,none⟩))),(10,.val (.pointer (some ⟨Hi,0,none⟩))),(15,.val (.int .i64 (z:Int)))]∧M=[]) n ⟨_,_,?_,?_,?_,?_,⟨0,by omega,rfl,rfl,rfl⟩⟩ ?_
   ·(repeat first|exact trivial|refine ⟨rfl,?_⟩)
   ·(repeat first|exact trivial|refine ⟨rfl,?_⟩)
   ·rfl
   ·(repeat first|exact trivial|refine ⟨ba.lit rfl,?_⟩|refine ⟨ba.vals _,?_⟩)
   rintro m' L M w7 ⟨z,hz,rfl,rfl,rfl⟩
   (repeat first|refine wN ?_|refine wP rfl ?_|refine aa rfl ?_|refine ab rfl ?_|refine wO rfl rfl ?_)
   refine VO.read rfl [.slice pu n cu] rfl (lM hc8 1 _ ⟨[],rfl⟩) (wV rfl ?_)
   (repeat first|refine wN ?_|refine wP rfl ?_|refine aa rfl ?_|refine ab rfl ?_|refine wO rfl rfl ?_)
   by_cases hlt:z < n
   ·obtain ⟨e,he⟩:∃ e,(nP x).2[z]? =some e:=⟨_,List.getElem?_eq_getElem (by rw [hxu'];exact hlt)⟩
    obtain ⟨a',b',hea,heb,hiff,Hc⟩:=Nq lz he
    rw [←hm] at hiff Hc
    obtain ⟨b,off,iH,nx,hc,⟨_,rfl,⟨ap,ac,ar,ad,rfl,uU⟩,hfew'⟩⟩:=hLX.2.at he
    subst nx
    rw [hea,heb] at hc
    refine VS.bG rfl (decide_eq_true (Int.ofNat_lt.2 hlt)) ?_
    (repeat first|refine wN ?_|refine wP rfl ?_|refine aa rfl ?_|refine ab rfl ?_|refine wO rfl rfl ?_)
    refine VO.read rfl [.slice (some ⟨b,off,none⟩) n cu] rfl (lM hc8 1 _ ⟨[],rfl⟩) (wV rfl ?_)
    (repeat first|refine wN ?_|refine wP rfl ?_|refine aa rfl ?_|refine ab rfl ?_|refine wO rfl rfl ?_)
    refine VO.cond rfl ⟨by omega,by omega⟩ ?_
    refine wV rfl ?_
    (repeat first|refine wN ?_|refine wP rfl ?_|refine aa rfl ?_|refine ab rfl ?_|refine wO rfl rfl ?_)
    refine VO.read rfl [.int .i64 (a':Int),.int .i64 (b':Int),.bool e.2.2.1,.slice ap e.2.2.2.1.length ac,.bool e.2.2.2.2.1,.slice ar e.2.2.2.2.2.length ad] rfl (dw hc 0 _ ⟨[],rfl⟩) (wV rfl ?_)
    (repeat first|refine wN ?_|refine wP rfl ?_|refine aa rfl ?_|refine ab rfl ?_|refine wO rfl rfl ?_)
    refine VO.read rfl [.slice pt m ct] rfl (lM Bs 1 _ ⟨[],rfl⟩) (wV rfl ?_)
    (repeat first|refine wN ?_|refine wP rfl ?_|refine aa rfl ?_|refine ab rfl ?_|refine wO rfl rfl ?_)
    by_cases hzm:z < m
    ·have hbk:b' < k:=hiff.2 hzm
     refine VO.fix 150 rfl (congrArg (fun b=>AV.val (.bool b)) (show (decide ((b':Int) < (k:Int)) != decide ((z:Int) < (m:Int)))=false by rw [decide_eq_true (show (b':Int) < (k:Int) by omega),decide_eq_true (show (z:Int) < (m:Int) by omega)];rfl)) ?_
     (repeat first|refine wN ?_|refine wP rfl ?_|refine aa rfl ?_|refine ab rfl ?_|refine wO rfl rfl ?_)
     refine VO.read rfl [.slice pt m ct] rfl (lM Bs 1 _ ⟨[],rfl⟩) (wV rfl ?_)
     (repeat first|refine wN ?_|refine wP rfl ?_|refine aa rfl ?_|refine ab rfl ?_|refine wO rfl rfl ?_)
     refine VO.fix 156 rfl (congrArg (fun b=>AV.val (.bool b)) (decide_eq_true (show (z:Int) < (m:Int) by omega))) ?_
     (repeat first|refine wN ?_|refine wP rfl ?_|refine aa rfl ?_|refine ab rfl ?_|refine wO rfl rfl ?_)
     obtain ⟨tb,to',tcs,htp,htc,⟨_,rfl,⟨bp,bc,br,bd,rfl,traw⟩,tfew⟩⟩:=hLY.2.at (Hc hzm)
     subst htp
     rw [hea,heb] at htc
     refine VO.read rfl [.slice (some ⟨tb,to',none⟩) m ct] rfl (lM Bs 1 _ ⟨[],rfl⟩) (wV rfl ?_)
     (repeat first|refine wN ?_|refine wP rfl ?_|refine aa rfl ?_|refine ab rfl ?_|refine wO rfl rfl ?_)
     refine VO.cond rfl ⟨by omega,by omega⟩ ?_
     refine wV rfl ?_
     (repeat first|refine wN ?_|refine wP rfl ?_|refine aa rfl ?_|refine ab rfl ?_|refine wO rfl rfl ?_)
     refine VO.read rfl [.int .i64 (a':Int)] rfl (dw htc 0 _ ⟨_,rfl⟩) (wV rfl ?_)
     (repeat first|refine wN ?_|refine wP rfl ?_|refine aa rfl ?_|refine ab rfl ?_|refine wO rfl rfl ?_)
     refine VO.fix 166 rfl (congrArg (fun b=>AV.val (.bool b)) (Ma rfl)) ?_
     (repeat first|refine wN ?_|refine wP rfl ?_|refine aa rfl ?_|refine ab rfl ?_|refine wO rfl rfl ?_)
     refine VO.read rfl [.slice (some ⟨tb,to',none⟩) m ct] rfl (lM Bs 1 _ ⟨[],rfl⟩) (wV rfl ?_)
     (repeat first|refine wN ?_|refine wP rfl ?_|refine aa rfl ?_|refine ab rfl ?_|refine wO rfl rfl ?_)
     refine VO.cond rfl ⟨by omega,by omega⟩ ?_
     refine wV rfl ?_
     (repeat first|refine wN ?_|refine wP rfl ?_|refine aa rfl ?_|refine ab rfl ?_|refine wO rfl rfl ?_)
     refine VO.read rfl [.int .i64 (b':Int)] rfl (dw htc 1 _ ⟨_,rfl⟩) (wV rfl ?_)
     (repeat first|refine wN ?_|refine wP rfl ?_|refine aa rfl ?_|refine ab rfl ?_|refine wO rfl rfl ?_)
     refine VO.fix 177 rfl (congrArg (fun b=>AV.val (.bool b)) (Ma rfl)) ?_
     (repeat first|refine wN ?_|refine wP rfl ?_|refine aa rfl ?_|refine ab rfl ?_|refine wO rfl rfl ?_)
     refine VO.read rfl [.slice (some ⟨tb,to',none⟩) m ct] rfl (lM Bs 1 _ ⟨[],rfl⟩) (wV rfl ?_)
     (repeat first|refine wN ?_|refine wP rfl ?_|refine aa rfl ?_|refine ab rfl ?_|refine wO rfl rfl ?_)
     refine VO.cond rfl ⟨by omega,by omega⟩ ?_
     refine wV rfl ?_
     (repeat first|refine wN ?_|refine wP rfl ?_|refine aa rfl ?_|refine ab rfl ?_|refine wO rfl rfl ?_)
     refine VO.read rfl [.bool e.2.2.1,.slice bp e.2.2.2.1.length bc,.bool e.2.2.2.2.1,.slice br e.2.2.2.2.2.length bd] rfl (dw htc 2 _ ⟨[],rfl⟩) (wV rfl ?_)
     (repeat first|refine wN ?_|refine wP rfl ?_|refine aa rfl ?_|refine ab rfl ?_|refine wO rfl rfl ?_)
     refine VO.call rfl rfl (fk Tryz.func12) (fun LR Jh Ji=>(cT _ _ e.2.2.q e.2.2.q 82 82 LR ((traw.kp (Kp.of (U:=UU) Ji)).vZ tfew) ((uU.kp (Kp.of (U:=UU) Ji)).vZ hfew') (by omega) (by omega) 0 (eV rfl)).mono ?_)
     rintro e Fx ⟨rfl,LS⟩
     skip
     refine ⟨_,rfl,LS,fun Jj _ bb14=>wV rfl ?_⟩
     (repeat first|refine wN ?_|refine wP rfl ?_|refine aa rfl ?_|refine ab rfl ?_|refine wO rfl rfl ?_)
     refine VS.back (n - (z + 1)) (by omega) ⟨_,_,?_,?_,?_,?_,⟨z + 1,by omega,rfl,rfl,rfl⟩⟩
     ·refine ⟨rfl,rfl,rfl,?_,trivial⟩
      rw [←dK (i:=z) (by omega)];rfl
     ·(repeat first|exact trivial|refine ⟨rfl,?_⟩)
     ·rfl
     ·(repeat first|exact trivial|refine ⟨ba.lit rfl,?_⟩|refine ⟨ba.vals _,?_⟩)
    ·have hbk:¬ b' < k:=fun h=>hzm (hiff.1 h)
     refine VO.fix 150 rfl (congrArg (fun b=>AV.val (.bool b)) (show (decide ((b':Int) < (k:Int)) != decide ((z:Int) < (m:Int)))=false by rw [decide_eq_false (show ¬ (b':Int) < (k:Int) by omega),decide_eq_false (show ¬ (z:Int) < (m:Int) by omega)];rfl)) ?_
     (repeat first|refine wN ?_|refine wP rfl ?_|refine aa rfl ?_|refine ab rfl ?_|refine wO rfl rfl ?_)
     refine VO.read rfl [.slice pt m ct] rfl (lM Bs 1 _ ⟨[],rfl⟩) (wV rfl ?_)
     (repeat first|refine wN ?_|refine wP rfl ?_|refine aa rfl ?_|refine ab rfl ?_|refine wO rfl rfl ?_)
     refine VO.fix 156 rfl (congrArg (fun b=>AV.val (.bool b)) (decide_eq_false (show ¬ (z:Int) < (m:Int) by omega))) ?_
     (repeat first|refine wN ?_|refine wP rfl ?_|refine aa rfl ?_|refine ab rfl ?_|refine wO rfl rfl ?_)
     refine VS.back (n - (z + 1)) (by omega) ⟨_,_,?_,?_,?_,?_,⟨z + 1,by omega,rfl,rfl,rfl⟩⟩
     ·refine ⟨rfl,rfl,rfl,?_,trivial⟩
      rw [←dK (i:=z) (by omega)];rfl
     ·(repeat first|exact trivial|refine ⟨rfl,?_⟩)
     ·rfl
     ·(repeat first|exact trivial|refine ⟨ba.lit rfl,?_⟩|refine ⟨ba.vals _,?_⟩)
   ·refine VS.bK rfl (decide_eq_false (fun e=>hlt (Int.ofNat_lt.1 e))) ?_
    (repeat first|refine wN ?_|refine wP rfl ?_|refine aa rfl ?_|refine ab rfl ?_|refine wO rfl rfl ?_)
    refine VO.call rfl rfl (fk Tryz.func9) (fun LU Jk ba15=>(lj LU).mono ?_)
    rintro e w15 ⟨rfl,LV⟩
    skip
    refine ⟨_,rfl,LV,fun kb15 _ bb15=>wV rfl ?_⟩
    (repeat first|refine wN ?_|refine wP rfl ?_|refine aa rfl ?_|refine ab rfl ?_|refine wO rfl rfl ?_)
    refine VS.ret (aJ _ _) rfl rfl (fun wz kz bz=> ?_)
    exact ⟨rfl,aj.aI b6 bz⟩
 ·refine VS.bG rfl (decide_eq_true (show (N:Int) > 12 by omega)) ?_
  (repeat first|refine wN ?_|refine wP rfl ?_|refine dP rfl ?_|refine dQ rfl ?_|refine wO rfl rfl ?_)
  refine VO.call rfl rfl (fk Tryz.func9) (fun dR gS eW=>(lj dR).mono ?_)
  rintro e w2 ⟨rfl,bn⟩
  skip
  refine ⟨_,rfl,bn,fun gw _ bb2=>wV rfl ?_⟩
  (repeat first|refine wN ?_|refine wP rfl ?_|refine dP rfl ?_|refine dQ rfl ?_|refine wO rfl rfl ?_)
  refine VS.ret (ye _ _) rfl rfl (fun wz kz bz=> ?_)
  exact ⟨rfl,bz⟩
end Go.Proofs.YtabalinjfgcfeaaGreat
namespace Go.Proofs.YtabalinjfgcfeaaGreat
open Go.RowKit
abbrev yl:Nat:=9223372036854775807
section
variable {H:Type} {enc:TypeId×Value→H} {w:World} {held:Bool}
theorem qY (cs:List Value) (o n m:Nat) (h:m=o + n):cs.drop o=(cs.drop o).take n++cs.drop m:=by
 subst h
 have:=(List.take_append_drop n (cs.drop o)).symm
 rw [List.drop_drop] at this
 exact this
theorem Nr {s t:Bool} {p r:Option Addr} {n c m d:Nat} {xs ys:List Nat} (h:eR w (.agg #[.bool s,.slice p n c,.bool t,.slice r m d]) s xs t ys):n=xs.length∧m=ys.length∧xs.length≤yl∧ys.length≤yl:=by
 obtain ⟨p',c',r',d',hv,h1,h2⟩:=h
 simp only [Value.agg.injEq,Array.mk.injEq,List.cons.injEq,and_true,Value.slice.injEq,Value.bool.injEq] at hv
 obtain ⟨_,⟨rfl,rfl,rfl⟩,_,rfl,rfl,rfl⟩:=hv
 obtain ⟨_,_,_,ic,_⟩:=h1
 obtain ⟨_,_,_,ji,_⟩:=h2
 obtain ⟨_,_,_,a1,a2,_⟩:=ic.u32
 obtain ⟨_,_,_,b1,b2,_⟩:=ji.u32
 exact ⟨rfl,rfl,by unfold yl;omega,by unfold yl;omega⟩
theorem wj {fuel:Nat} {cs:List Value} {x:DataW H×List MemPlace} (h:DataW.trod enc Tryz.prog w 0 (fun _=>true) held fuel 26 cs=some x):∃ a:RR,Rw yl w cs a:=by
 obtain ⟨s,p,n,c,t,r,m,d,xs,ys,rfl,h0⟩:=Mc h
 obtain ⟨rfl,rfl,h1,h2⟩:=Nr h0
 exact ⟨(s,xs,t,ys),⟨p,c,r,d,rfl,h0⟩,h1,h2⟩
set_option maxRecDepth 100000 in
theorem JP {fuel:Nat} {cs:List Value} {x:DataW H×List MemPlace} (h:DataW.trod enc Tryz.prog w 0 (fun _=>true) held fuel 51 cs=some x):∃ e:RR×RR,ya yl w cs e:=by
 obtain ⟨zs,n,rfl,rfl,hl,jt,hf⟩:=DataW.trod_struct Tryz.underlying51 h
 have vJ:cs.length=8:=by
  have c:Tryz.prog.cellsOf 51=8:=by kernel_rfl
  rw [c] at hl;exact hl
 have hy2:zs.length=2:=jt
 obtain ⟨z0,lp⟩:∃ z,zs[0]? =some z:=⟨_,List.getElem?_eq_getElem (by omega)⟩
 obtain ⟨z1,lx⟩:∃ z,zs[1]? =some z:=⟨_,List.getElem?_eq_getElem (by omega)⟩
 have Ee:Tryz.prog.cellsOf 26=4:=by kernel_rfl
 have h0:=hf 0 _ rfl
 rw [lp] at h0
 change DataW.trod enc Tryz.prog w 0 (fun _=>true) held n 26 ((cs.drop 0).take (Tryz.prog.cellsOf 26))=some z0 at h0
 rw [Ee] at h0
 have h1:=hf 1 _ rfl
 rw [lx] at h1
 change DataW.trod enc Tryz.prog w 0 (fun _=>true) held n 26 ((cs.drop 4).take (Tryz.prog.cellsOf 26))=some z1 at h1
 rw [Ee] at h1
 obtain ⟨x0,gB⟩:=wj h0
 obtain ⟨x1,CT⟩:=wj h1
 have a0:cs.drop 0=(cs.drop 0).take 4++cs.drop 4:=qY cs 0 4 4 rfl
 have a1:cs.drop 4=(cs.drop 4).take 4:=by rw [List.take_of_length_le];rw [List.length_drop];omega
 have ecs:cs=(cs.drop 0).take 4++((cs.drop 4).take 4):=by
  have a:cs=cs.drop 0:=rfl
  rw [a0] at a
  rw [a1] at a
  exact a
 rw [ecs]
 exact ⟨(x0,x1),_,_,rfl,gB.1,CT.1,gB.2,CT.2⟩
set_option maxRecDepth 100000 in
theorem ym {v:Value} {d:DataW H} {ps:List MemPlace} {r:_root_.Go.Reach} {b0:Nat} (hv:Value.okWide Tryz.prog w r b0 29 v) (h:DataW.Trod enc Tryz.prog w 0 (fun _=>true) held 29 v d ps):∃ es:List (RR×RR),er (ya yl) 8 w v es:=
 open_sl Tryz.underlying29 (by kernel_rfl) (by omega) (fun h=>JP h) hv h
def RulC (w:World) (cs:List Value) (a b:RR) (keep:Int):Prop:=∃ x y,cs=x++(y++[.int .i64 keep])∧tM w x a∧tM w y b
set_option maxRecDepth 100000 in
theorem Ns {fuel:Nat} {cs:List Value} {x:DataW H×List MemPlace} (h:DataW.trod enc Tryz.prog w 0 (fun _=>true) held fuel 28 cs=some x):∃ (a b:RR) (keep:Int),RulC w cs a b keep∧(Lit.int .i64 keep).wf=true:=by
 obtain ⟨zs,n,rfl,rfl,hl,jt,hf⟩:=DataW.trod_struct Tryz.underlying28 h
 have vJ:cs.length=9:=by
  have c:Tryz.prog.cellsOf 28=9:=by kernel_rfl
  rw [c] at hl;exact hl
 have hy2:zs.length=3:=jt
 obtain ⟨z0,lp⟩:∃ z,zs[0]? =some z:=⟨_,List.getElem?_eq_getElem (by omega)⟩
 obtain ⟨z1,lx⟩:∃ z,zs[1]? =some z:=⟨_,List.getElem?_eq_getElem (by omega)⟩
 obtain ⟨z2,lT⟩:∃ z,zs[2]? =some z:=⟨_,List.getElem?_eq_getElem (by omega)⟩
 have c_int:Tryz.prog.cellsOf 3=1:=by kernel_rfl
 have Ee:Tryz.prog.cellsOf 26=4:=by kernel_rfl
 have h0:=hf 0 _ rfl
 rw [lp] at h0
 change DataW.trod enc Tryz.prog w 0 (fun _=>true) held n 26 ((cs.drop 0).take (Tryz.prog.cellsOf 26))=some z0 at h0
 rw [Ee] at h0
 have h1:=hf 1 _ rfl
 rw [lx] at h1
 change DataW.trod enc Tryz.prog w 0 (fun _=>true) held n 26 ((cs.drop 4).take (Tryz.prog.cellsOf 26))=some z1 at h1
 rw [Ee] at h1
 have h2:=hf 2 _ rfl
 rw [lT] at h2
 change DataW.trod enc Tryz.prog w 0 (fun _=>true) held n 3 ((cs.drop 8).take (Tryz.prog.cellsOf 3))=some z2 at h2
 rw [c_int] at h2
 obtain ⟨x0,gB⟩:=wj h0
 obtain ⟨x1,CT⟩:=wj h1
 obtain ⟨k2,e2,_,hk2⟩:=DataW.trod_int Tryz.underlying3 h2
 have a0:cs.drop 0=(cs.drop 0).take 4++cs.drop 4:=qY cs 0 4 4 rfl
 have a1:cs.drop 4=(cs.drop 4).take 4++cs.drop 8:=qY cs 4 4 8 rfl
 have a2:cs.drop 8=(cs.drop 8).take 1:=by rw [List.take_of_length_le];rw [List.length_drop];omega
 have ecs:cs=(cs.drop 0).take 4++((cs.drop 4).take 4++((cs.drop 8).take 1)):=by
  have a:cs=cs.drop 0:=rfl
  rw [a0] at a
  rw [a1] at a
  rw [a2] at a
  exact a
 rw [ecs]
 exact ⟨x0,x1,k2,⟨_,_,by rw [e2],gB.1,CT.1⟩,hk2⟩
set_option maxRecDepth 100000 in
theorem Bt {v:Value} {d:DataW H} {ps:List MemPlace} {r:_root_.Go.Reach} {b0:Nat} (hv:Value.okWide Tryz.prog w r b0 28 v) (h:DataW.Trod enc Tryz.prog w 0 (fun _=>true) held 28 v d ps):∃ (a b:RR) (keep:Int),jr w v a b keep:=by
 obtain ⟨cs,rfl,_⟩:=WideShapes.okWide_struct Tryz.underlying28 hv
 obtain ⟨fuel,hf⟩:=h
 obtain ⟨a,b,keep,⟨_,_,he,⟨p,c,r,d,rfl,h1⟩,⟨p',c',r',d',rfl,h2⟩⟩,_⟩:=Ns hf
 have GD:cs.toList=[.bool a.1,.slice p a.2.1.length c,.bool a.2.2.1,.slice r a.2.2.2.length d,.bool b.1,.slice p' b.2.1.length c',.bool b.2.2.1,.slice r' b.2.2.2.length d',.int .i64 keep]:=by simpa [Value.cells] using he
 have hc:cs=#[.bool a.1,.slice p a.2.1.length c,.bool a.2.2.1,.slice r a.2.2.2.length d,.bool b.1,.slice p' b.2.1.length c',.bool b.2.2.1,.slice r' b.2.2.2.length d',.int .i64 keep]:=by rw [←Array.toArray_toList (xs:=cs),GD]
 exact ⟨a,b,keep,p,c,r,d,p',c',r',d',by rw [hc],h1,h2⟩
end
end Go.Proofs.YtabalinjfgcfeaaGreat
