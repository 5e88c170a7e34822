/- Be of the proof,laid behind one another. -/
import Derived.Test.YtabalinjfgcfeaaGreatKInterestConserves5
set_option linter.all false
set_option maxRecDepth 4000
namespace Go.Proofs.YtabalinjfgcfeaaGreat
open Go.RowKit
attribute [local irreducible] aB VS
def RrE (_:World) (cs:List Value) (e:RR):Prop:=∃ p c r d,cs=[.bool e.1,.slice p e.2.1.length c,.bool e.2.2.1,.slice r e.2.2.2.length d]
theorem jB:lB RrE 4 where
 kp:=fun h _=>h
 len:=fun h=>by obtain ⟨p,c,r,d,rfl⟩:=h;rfl
 ok:=fun h=>by obtain ⟨p,c,r,d,rfl⟩:=h;rfl
def fl (l:List (RR×RR)):List RR:=l.flatMap fun e=>[e.1,e.2]
theorem oM (l:List (RR×RR)):(fl l).length=2 * l.length:=by
 induction l with
 | nil=>rfl
 | cons e r ih=>show (e.1::e.2::fl r).length=_;simp [ih];omega
theorem vN {l:List (RR×RR)} {z:Nat} {e:RR×RR} (h:l[z]? =some e):fl (l.take (z + 1))=fl (l.take z)++[e.1,e.2]:=by
 rw [fY h]
 unfold fl
 rw [List.flatMap_append]
 rfl
def Bd (x:RR):Bool:=decide (x.2.1.length≤3) && decide (x.2.2.2.length≤3)
theorem GZ {X:List RR} {z:Nat} {e:RR} (he:X[z]? =some e) (h:Bd e=false):X.all Bd=false:=by
 cases h':X.all Bd with
 | false=>rfl
 | true=>rw [List.all_eq_true.1 h' e (List.mem_of_getElem? he)] at h;cases h
theorem ML {l:List RR} {z:Nat} {e:RR} (he:l[z]? =some e) (h:(l.take z).all Bd=true) (hw:Bd e=true):(l.take (z + 1)).all Bd=true:=by
 rw [fY he,List.all_append,h];simp [hw]
theorem ct {w:World} {b off i sz:Nat} {cs:List Value} (hc:∀ (j:Nat) (u:Value),cs[j]? =some u→w.cell? ⟨b,off + i * sz + j,none⟩=some u) (k:Nat) (ds:List Value) (hd:ds <+:cs.drop k):∀ (j:Nat) (u:Value),ds[j]? =some u→w.cell? ((⟨b,off + ((i:Nat):Int).toNat * sz + k,none⟩:Addr).add j)=some u:=by
 intro j u hj
 obtain ⟨t,ht⟩:=hd
 rw [Addr.add_mid,Int.toNat_natCast,Nat.add_assoc]
 refine hc (k + j) u ?_
 rw [←List.getElem?_drop,←ht,List.getElem?_append_left (List.getElem?_eq_some_iff.1 hj).1]
 exact hj
set_option maxRecDepth 4000 in
set_option maxHeartbeats 4000000 in
theorem Js (v:Value) (xs:List RR) (w:World) (hx:eE RrE 4 w v xs):
  Calls Tryz.prog 26 #[v] w fun o w'=>o=.returned (.bool (xs.all Bd))∧aj w w':=by
 obtain ⟨q,c,rfl,eT,eV⟩:=hx.form
 obtain ⟨n,hn⟩:∃ n,n=xs.length:=⟨_,rfl⟩
 rw [←hn] at hx eT
 rw [←hn]
 refine aw (C:=cj Tryz.prog w _) (args:=[_]) Tryz.func26 rfl Tryz.ntmps26 (Nat.le_of_ble_eq_true rfl) ?_
 (repeat first|refine wN ?_|refine wP rfl ?_|refine aa rfl ?_|refine ab rfl ?_|refine wO rfl rfl ?_)
 refine VS.loop (J:=fun m L M w'=>∃ z:Nat,z≤n∧m=n - z∧L=[(0,.val (.slice q n c)),(3,.val (.int .i64 (z:Int)))]∧M=[]∧(xs.take z).all Bd=true) n ⟨_,_,?_,?_,?_,?_,⟨0,by omega,rfl,rfl,rfl,rfl⟩⟩ ?_
 ·exact ⟨rfl,rfl,trivial⟩
 ·(repeat first|exact trivial|refine ⟨rfl,?_⟩)
 ·rfl
 ·(repeat first|exact trivial|refine ⟨aF.lit rfl,?_⟩|refine ⟨aF.vals _,?_⟩)
 rintro m L M w9 ⟨z,hz,rfl,rfl,rfl,mo⟩
 (repeat first|refine wN ?_|refine wP rfl ?_|refine aa rfl ?_|refine ab rfl ?_|refine wO rfl rfl ?_)
 by_cases Kr:z < n
 ·obtain ⟨e,he⟩:∃ e,xs[z]? =some e:=⟨_,List.getElem?_eq_getElem (by omega)⟩
  obtain ⟨b,off,ig,mj,hc,⟨ap,ac,ar,ad,rfl⟩⟩:=hx.at he
  subst mj
  refine VS.bE rfl (decide_eq_true (Int.ofNat_lt.2 Kr)) ?_
  (repeat first|refine wN ?_|refine wP rfl ?_|refine aa rfl ?_|refine ab rfl ?_|refine wO rfl rfl ?_)
  refine VO.cond rfl ⟨by omega,by omega⟩ ?_
  refine wV rfl ?_
  (repeat first|refine wN ?_|refine wP rfl ?_|refine aa rfl ?_|refine ab rfl ?_|refine wO rfl rfl ?_)
  refine VO.read rfl [.slice ap e.2.1.length ac] rfl (ct hc 1 _ ⟨_,rfl⟩) (wV rfl ?_)
  (repeat first|refine wN ?_|refine wP rfl ?_|refine aa rfl ?_|refine ab rfl ?_|refine wO rfl rfl ?_)
  by_cases h1:e.2.1.length≤3
  ·refine VO.fix 18 rfl (congrArg (fun b=>AV.val (.bool b)) (decide_eq_false (show ¬ (e.2.1.length:Int) > 3 by omega))) ?_
   (repeat first|refine wN ?_|refine wP rfl ?_|refine aa rfl ?_|refine ab rfl ?_|refine wO rfl rfl ?_)
   refine VO.cond rfl ⟨by omega,by omega⟩ ?_
   refine wV rfl ?_
   (repeat first|refine wN ?_|refine wP rfl ?_|refine aa rfl ?_|refine ab rfl ?_|refine wO rfl rfl ?_)
   refine VO.read rfl [.slice ar e.2.2.2.length ad] rfl (ct hc 3 _ ⟨[],rfl⟩) (wV rfl ?_)
   (repeat first|refine wN ?_|refine wP rfl ?_|refine aa rfl ?_|refine ab rfl ?_|refine wO rfl rfl ?_)
   by_cases h2:e.2.2.2.length≤3
   ·have hs:Bd e=true:=by unfold Bd;rw [decide_eq_true h1,decide_eq_true h2];rfl
    refine VS.bu rfl (decide_eq_false (show ¬ (e.2.2.2.length:Int) > 3 by omega)) ?_
    (repeat first|refine wN ?_|refine wP rfl ?_|refine aa rfl ?_|refine ab rfl ?_|refine wO rfl rfl ?_)
    refine VS.back (n - (z + 1)) (by omega) ⟨_,_,?_,?_,?_,?_,⟨z + 1,by omega,rfl,rfl,rfl,ML he mo hs⟩⟩
    ·refine ⟨rfl,?_,trivial⟩
     rw [←bX (i:=z) (by omega)];rfl
    ·(repeat first|exact trivial|refine ⟨rfl,?_⟩)
    ·rfl
    ·(repeat first|exact trivial|refine ⟨aF.lit rfl,?_⟩|refine ⟨aF.vals _,?_⟩)
   ·have hs:Bd e=false:=by unfold Bd;rw [decide_eq_false h2,Bool.and_false]
    refine VS.bE rfl (decide_eq_true (show (e.2.2.2.length:Int) > 3 by omega)) ?_
    (repeat first|refine wN ?_|refine wP rfl ?_|refine aa rfl ?_|refine ab rfl ?_|refine wO rfl rfl ?_)
    refine VS.ret (aL _ _) rfl rfl (fun wz kz bz=> ?_)
    exact ⟨by rw [GZ he hs];rfl,bz⟩
  ·have hs:Bd e=false:=by unfold Bd;rw [decide_eq_false h1,Bool.false_and]
   refine VO.fix 18 rfl (congrArg (fun b=>AV.val (.bool b)) (decide_eq_true (show (e.2.1.length:Int) > 3 by omega))) ?_
   (repeat first|refine wN ?_|refine wP rfl ?_|refine aa rfl ?_|refine ab rfl ?_|refine wO rfl rfl ?_)
   refine VS.ret (aL _ _) rfl rfl (fun wz kz bz=> ?_)
   exact ⟨by rw [GZ he hs];rfl,bz⟩
 ·refine VS.bu rfl (decide_eq_false (fun e=>Kr (Int.ofNat_lt.1 e))) ?_
  (repeat first|refine wN ?_|refine wP rfl ?_|refine aa rfl ?_|refine ab rfl ?_|refine wO rfl rfl ?_)
  refine VS.ret (aL _ _) rfl rfl (fun wz kz bz=> ?_)
  rw [List.take_of_length_le (by omega)] at mo
  exact ⟨by rw [mo];rfl,bz⟩
theorem sI (v:Value) (xs:List RR) (w:World) (hx:eE RrE 4 w v xs) (b:Bool) (hb:xs.all Bd=b):
 Calls Tryz.prog 26 #[v] w fun o w'=>o=.returned (.bool b)∧aj w w':=hb▸Js v xs w hx
def uH (n:Nat):Bool:=decide (n≤12) || (decide (40 < n) && decide (n≤60))
def kZ (S F:RR) (l:List (RR×RR)):Bool:=uH l.length && (S::F::fl l).all Bd
set_option maxRecDepth 4000 in
set_option maxHeartbeats 8000000 in
theorem Jt (v u:Value) (S F:RR) (keep:Int) (l:List (RR×RR)) (kk:Nat) (w:World) (hR:jl w v S F keep) (hv:eE (xY kk) 8 w u l):
  Calls Tryz.prog 8 #[v,u] w fun o w'=>o=.returned (.bool (kZ S F l))∧aj w w':=by
 obtain ⟨q,c,rfl,eT,eV⟩:=hv.form
 obtain ⟨sp,sc,sr,sd,fp,fc,fr,fd,rfl,-,-⟩:=hR
 obtain ⟨N,hN⟩:∃ N,N=l.length:=⟨_,rfl⟩
 rw [←hN] at hv eT
 rw [←hN]
 obtain ⟨bs,hb⟩:∃ b,(S::F::fl l).all Bd=b:=⟨_,rfl⟩
 refine aw (C:=cj Tryz.prog w _) (args:=[_,_]) Tryz.func8 rfl Tryz.ntmps8 (Nat.le_of_ble_eq_true rfl) ?_
 (repeat first|refine wN ?_|refine wP rfl ?_|refine aa rfl ?_|refine ab rfl ?_|refine wO rfl rfl ?_)
 by_cases Ae:N≤12
 ·have hlen:uH l.length=true:=by unfold uH;rw [←hN,decide_eq_true Ae];rfl
  refine VO.fix 10 rfl (congrArg (fun b=>AV.val (.bool b)) (decide_eq_false (show ¬ (N:Int) > 12 by omega))) ?_
  (repeat first|refine wN ?_|refine wP rfl ?_|refine aa rfl ?_|refine ab rfl ?_|refine wO rfl rfl ?_)
  refine VS.bu rfl (decide_eq_false (show ¬ (N:Int) > 60 by omega)) ?_
  (repeat first|refine wN ?_|refine wP rfl ?_|refine aa rfl ?_|refine ab rfl ?_|refine wO rfl rfl ?_)
  refine VS.loop (J:=fun m L M w'=>∃ z:Nat,z≤N∧m=N - z∧∃ d vs spare cap,(d=24∨d=43)∧L=[(1,.val (.slice q N c)),(5,.row d 0 (2 + 2 * z) cap),(6,.val (.int .i64 (z:Int)))]∧M=[(d,(26,vs.flatten.map .val++spare))]∧
   cM RrE w' (S::F::fl (l.take z)) vs∧(vs.flatten.map AV.val++spare).length=cap * 4∧2 + 2 * z≤cap∧cap≤9223372036854775807∧spare.all aH=true∧ax spare=[]) N ⟨_,_,?_,?_,?_,?_,⟨0,by omega,rfl,24,[[.bool S.1,.slice sp S.2.1.length sc,.bool S.2.2.1,.slice sr S.2.2.2.length sd],[.bool F.1,.slice fp F.2.1.length fc,.bool F.2.2.1,.slice fr F.2.2.2.length fd]],[],2,.inl rfl,rfl,rfl,.cons ⟨_,_,_,_,rfl⟩ (.cons ⟨_,_,_,_,rfl⟩ .nil),rfl,by omega,by omega,rfl,rfl⟩⟩ ?_
  ·(repeat first|exact trivial|refine ⟨rfl,?_⟩)
  ·(repeat first|exact trivial|refine ⟨rfl,?_⟩)
  ·rfl
  ·exact ⟨.append (.vals _) (.none rfl),trivial⟩
  rintro m L M wJ ⟨z,hz,rfl,d,vs,spare,cap,rfl | rfl,rfl,rfl,fb,Dv,hzc,hcc,MM,pM⟩
  ·(repeat first|refine wN ?_|refine wP rfl ?_|refine aa rfl ?_|refine ab rfl ?_|refine wO rfl rfl ?_)
   by_cases hlt:z < N
   ·obtain ⟨e,he⟩:∃ e,l[z]? =some e:=⟨_,List.getElem?_eq_getElem (by omega)⟩
    obtain ⟨b,off,ig,mj,hc,hE⟩:=hv.at he
    subst mj
    obtain ⟨_,_,rfl,⟨ap,ac,ar,ad,rfl,-⟩,⟨bp,bc,br,bd,rfl,-⟩,-,-⟩:=hE
    obtain ⟨Av,Aw⟩:=fb.ok jB
    have JM:(S::F::fl (l.take z)).length=2 + 2 * z:=by rw [List.length_cons,List.length_cons,oM,List.length_take];omega
    refine VS.bE rfl (decide_eq_true (Int.ofNat_lt.2 hlt)) ?_
    (repeat first|refine wN ?_|refine wP rfl ?_|refine aa rfl ?_|refine ab rfl ?_|refine wO rfl rfl ?_)
    refine VO.cond rfl ⟨by omega,by omega⟩ ?_
    refine wV rfl ?_
    (repeat first|refine wN ?_|refine wP rfl ?_|refine aa rfl ?_|refine ab rfl ?_|refine wO rfl rfl ?_)
    refine VO.read rfl [.bool e.1.1,.slice ap e.1.2.1.length ac,.bool e.1.2.2.1,.slice ar e.1.2.2.2.length ad] rfl (ct hc 0 _ ⟨_,rfl⟩) (wV rfl ?_)
    (repeat first|refine wN ?_|refine wP rfl ?_|refine aa rfl ?_|refine ab rfl ?_|refine wO rfl rfl ?_)
    refine VO.cond rfl ⟨by omega,by omega⟩ ?_
    refine wV rfl ?_
    (repeat first|refine wN ?_|refine wP rfl ?_|refine aa rfl ?_|refine ab rfl ?_|refine wO rfl rfl ?_)
    refine VO.read rfl [.bool e.2.1,.slice bp e.2.2.1.length bc,.bool e.2.2.2.1,.slice br e.2.2.2.2.length bd] rfl (ct hc 4 _ ⟨[],rfl⟩) (wV rfl ?_)
    (repeat first|refine wN ?_|refine wP rfl ?_|refine aa rfl ?_|refine ab rfl ?_|refine wO rfl rfl ?_)
    refine VO.Lb (aL _ _) (t:=73) (e:=26) (sz:=4) (n:=2 + 2 * z) (c:=cap) (mm:=2) (known:=vs.flatten.map .val) (spare:=spare) (del:=some 24) (news:=([.bool e.1.1,.slice ap e.1.2.1.length ac,.bool e.1.2.2.1,.slice ar e.1.2.2.2.length ad,.bool e.2.1,.slice bp e.2.2.1.length bc,.bool e.2.2.2.1,.slice br e.2.2.2.2.length bd]:List Value).map .val) (dst:=43) rfl rfl rfl rfl rfl rfl rfl rfl (Nat.le_of_ble_eq_true rfl) rfl (.inl (.inr ⟨24,rfl,rfl,rfl⟩)) (.inl rfl) (by rw [List.length_map,Aw,JM]) Dv hzc hcc ⟨ao _,pM,rfl⟩ ⟨bb Av,MM,rfl⟩ rfl (by omega)
     (fun w1 β k1 b1 ho=>⟨_,_,rfl,.inr ⟨β 42,0,rfl,cK (rest:=[]) (ho.own 42 (.base (List.mem_append_right _ (List.mem_singleton.2 rfl))) _ _ rfl) rfl⟩⟩)
     (fun nD cap' ak ρ GM GN fC jc gm ed mL dy=>wV rfl ?_)
    (repeat first|refine wN ?_|refine wP rfl ?_|refine aa rfl ?_|refine ab rfl ?_|refine wO rfl rfl ?_)
    have xM:cM RrE nD (S::F::fl (l.take (z + 1))) (vs++[[.bool e.1.1,.slice ap e.1.2.1.length ac,.bool e.1.2.2.1,.slice ar e.1.2.2.2.length ad],[.bool e.2.1,.slice bp e.2.2.1.length bc,.bool e.2.2.2.1,.slice br e.2.2.2.2.length bd]]):=by
     rw [vN he,←List.cons_append,←List.cons_append]
     exact (fb.kp jB (by (with_reducible (repeat (first | assumption | exact kU _ | exact kR _ | exact Kp.of (U:=UU) (by assumption) | exact aE.of (by assumption) | refine kT ?_ (by assumption)))))).append (.cons ⟨_,_,_,_,rfl⟩ (.cons ⟨_,_,_,_,rfl⟩ .nil))
    refine VS.back (N - (z + 1)) (by omega) ⟨_,_,?_,?_,?_,?_,⟨z + 1,by omega,rfl,43,vs++[[.bool e.1.1,.slice ap e.1.2.1.length ac,.bool e.1.2.2.1,.slice ar e.1.2.2.2.length ad],[.bool e.2.1,.slice bp e.2.2.1.length bc,.bool e.2.2.2.1,.slice br e.2.2.2.2.length bd]],ak,cap',.inr rfl,rfl,rfl,xM,by simpa using ed,by omega,gm,mL,dy⟩⟩
    ·refine ⟨rfl,rfl,?_,trivial⟩
     rw [←bX (i:=z) (by omega)];rfl
    ·exact ⟨congrArg (fun l=>some (_,l++ak)) (by simp),trivial⟩
    ·rfl
    ·exact ⟨.append (.vals _) (.none dy),trivial⟩
   ·refine VS.bu rfl (decide_eq_false (fun e=>hlt (Int.ofNat_lt.1 e))) ?_
    have hzN:z=N:=by omega
    rw [List.take_of_length_le (by omega)] at fb
    (repeat first|refine wN ?_|refine wP rfl ?_|refine aa rfl ?_|refine ab rfl ?_|refine wO rfl rfl ?_)
    refine VO.fI rfl (fk Tryz.func26) (fun cC β er dv ho=>(sI _ (S::F::fl l) cC (mI jB (ho.own 24 (.base (List.mem_singleton.2 rfl)) _ _ rfl) spare rfl (fb.kp jB (by (with_reducible (repeat (first | assumption | exact kU _ | exact kR _ | exact Kp.of (U:=UU) (by assumption) | exact aE.of (by assumption) | refine kT ?_ (by assumption)))))) (by rw [List.length_cons,List.length_cons,oM];omega) hzc hcc) _ hb).mono ?_)
    rintro o w1 ⟨rfl,aV⟩
    refine ⟨_,rfl,aV,fun fe _ bb1=>wV rfl ?_⟩
    (repeat first|refine wN ?_|refine wP rfl ?_|refine aa rfl ?_|refine ab rfl ?_|refine wO rfl rfl ?_)
    refine VS.ret (aL _ _) rfl rfl (fun wz kz bz=> ?_)
    exact ⟨by unfold kZ;rw [hlen,hb];rfl,bz⟩
  ·(repeat first|refine wN ?_|refine wP rfl ?_|refine aa rfl ?_|refine ab rfl ?_|refine wO rfl rfl ?_)
   by_cases hlt:z < N
   ·obtain ⟨e,he⟩:∃ e,l[z]? =some e:=⟨_,List.getElem?_eq_getElem (by omega)⟩
    obtain ⟨b,off,ig,mj,hc,hE⟩:=hv.at he
    subst mj
    obtain ⟨_,_,rfl,⟨ap,ac,ar,ad,rfl,-⟩,⟨bp,bc,br,bd,rfl,-⟩,-,-⟩:=hE
    obtain ⟨Av,Aw⟩:=fb.ok jB
    have JM:(S::F::fl (l.take z)).length=2 + 2 * z:=by rw [List.length_cons,List.length_cons,oM,List.length_take];omega
    refine VS.bE rfl (decide_eq_true (Int.ofNat_lt.2 hlt)) ?_
    (repeat first|refine wN ?_|refine wP rfl ?_|refine aa rfl ?_|refine ab rfl ?_|refine wO rfl rfl ?_)
    refine VO.cond rfl ⟨by omega,by omega⟩ ?_
    refine wV rfl ?_
    (repeat first|refine wN ?_|refine wP rfl ?_|refine aa rfl ?_|refine ab rfl ?_|refine wO rfl rfl ?_)
    refine VO.read rfl [.bool e.1.1,.slice ap e.1.2.1.length ac,.bool e.1.2.2.1,.slice ar e.1.2.2.2.length ad] rfl (ct hc 0 _ ⟨_,rfl⟩) (wV rfl ?_)
    (repeat first|refine wN ?_|refine wP rfl ?_|refine aa rfl ?_|refine ab rfl ?_|refine wO rfl rfl ?_)
    refine VO.cond rfl ⟨by omega,by omega⟩ ?_
    refine wV rfl ?_
    (repeat first|refine wN ?_|refine wP rfl ?_|refine aa rfl ?_|refine ab rfl ?_|refine wO rfl rfl ?_)
    refine VO.read rfl [.bool e.2.1,.slice bp e.2.2.1.length bc,.bool e.2.2.2.1,.slice br e.2.2.2.2.length bd] rfl (ct hc 4 _ ⟨[],rfl⟩) (wV rfl ?_)
    (repeat first|refine wN ?_|refine wP rfl ?_|refine aa rfl ?_|refine ab rfl ?_|refine wO rfl rfl ?_)
    refine VO.Lb (aL _ _) (t:=73) (e:=26) (sz:=4) (n:=2 + 2 * z) (c:=cap) (mm:=2) (known:=vs.flatten.map .val) (spare:=spare) (del:=some 43) (news:=([.bool e.1.1,.slice ap e.1.2.1.length ac,.bool e.1.2.2.1,.slice ar e.1.2.2.2.length ad,.bool e.2.1,.slice bp e.2.2.1.length bc,.bool e.2.2.2.1,.slice br e.2.2.2.2.length bd]:List Value).map .val) (dst:=43) rfl rfl rfl rfl rfl rfl rfl rfl (Nat.le_of_ble_eq_true rfl) rfl (.inl (.inr ⟨43,rfl,rfl,rfl⟩)) (.inr rfl) (by rw [List.length_map,Aw,JM]) Dv hzc hcc ⟨ao _,pM,rfl⟩ ⟨bb Av,MM,rfl⟩ rfl (by omega)
     (fun w1 β k1 b1 ho=>⟨_,_,rfl,.inr ⟨β 42,0,rfl,cK (rest:=[]) (ho.own 42 (.base (List.mem_append_right _ (List.mem_singleton.2 rfl))) _ _ rfl) rfl⟩⟩)
     (fun nD cap' ak ρ GM GN fC jc gm ed mL dy=>wV rfl ?_)
    (repeat first|refine wN ?_|refine wP rfl ?_|refine aa rfl ?_|refine ab rfl ?_|refine wO rfl rfl ?_)
    have xM:cM RrE nD (S::F::fl (l.take (z + 1))) (vs++[[.bool e.1.1,.slice ap e.1.2.1.length ac,.bool e.1.2.2.1,.slice ar e.1.2.2.2.length ad],[.bool e.2.1,.slice bp e.2.2.1.length bc,.bool e.2.2.2.1,.slice br e.2.2.2.2.length bd]]):=by
     rw [vN he,←List.cons_append,←List.cons_append]
     exact (fb.kp jB (by (with_reducible (repeat (first | assumption | exact kU _ | exact kR _ | exact Kp.of (U:=UU) (by assumption) | exact aE.of (by assumption) | refine kT ?_ (by assumption)))))).append (.cons ⟨_,_,_,_,rfl⟩ (.cons ⟨_,_,_,_,rfl⟩ .nil))
    refine VS.back (N - (z + 1)) (by omega) ⟨_,_,?_,?_,?_,?_,⟨z + 1,by omega,rfl,43,vs++[[.bool e.1.1,.slice ap e.1.2.1.length ac,.bool e.1.2.2.1,.slice ar e.1.2.2.2.length ad],[.bool e.2.1,.slice bp e.2.2.1.length bc,.bool e.2.2.2.1,.slice br e.2.2.2.2.length bd]],ak,cap',.inr rfl,rfl,rfl,xM,by simpa using ed,by omega,gm,mL,dy⟩⟩
    ·refine ⟨rfl,rfl,?_,trivial⟩
     rw [←bX (i:=z) (by omega)];rfl
    ·exact ⟨congrArg (fun l=>some (_,l++ak)) (by simp),trivial⟩
    ·rfl
    ·exact ⟨.append (.vals _) (.none dy),trivial⟩
   ·refine VS.bu rfl (decide_eq_false (fun e=>hlt (Int.ofNat_lt.1 e))) ?_
    have hzN:z=N:=by omega
    rw [List.take_of_length_le (by omega)] at fb
    (repeat first|refine wN ?_|refine wP rfl ?_|refine aa rfl ?_|refine ab rfl ?_|refine wO rfl rfl ?_)
    refine VO.fI rfl (fk Tryz.func26) (fun cC β er dv ho=>(sI _ (S::F::fl l) cC (mI jB (ho.own 43 (.base (List.mem_singleton.2 rfl)) _ _ rfl) spare rfl (fb.kp jB (by (with_reducible (repeat (first | assumption | exact kU _ | exact kR _ | exact Kp.of (U:=UU) (by assumption) | exact aE.of (by assumption) | refine kT ?_ (by assumption)))))) (by rw [List.length_cons,List.length_cons,oM];omega) hzc hcc) _ hb).mono ?_)
    rintro o w1 ⟨rfl,aV⟩
    refine ⟨_,rfl,aV,fun fe _ bb1=>wV rfl ?_⟩
    (repeat first|refine wN ?_|refine wP rfl ?_|refine aa rfl ?_|refine ab rfl ?_|refine wO rfl rfl ?_)
    refine VS.ret (aL _ _) rfl rfl (fun wz kz bz=> ?_)
    exact ⟨by unfold kZ;rw [hlen,hb];rfl,bz⟩
 ·refine VO.fix 10 rfl (congrArg (fun b=>AV.val (.bool b)) (decide_eq_true (show (N:Int) > 12 by omega))) ?_
  (repeat first|refine wN ?_|refine wP rfl ?_|refine aa rfl ?_|refine ab rfl ?_|refine wO rfl rfl ?_)
  by_cases h40:N≤40
  ·refine VO.fix 15 rfl (congrArg (fun b=>AV.val (.bool b)) (decide_eq_true (show (N:Int)≤40 by omega))) ?_
   (repeat first|refine wN ?_|refine wP rfl ?_|refine aa rfl ?_|refine ab rfl ?_|refine wO rfl rfl ?_)
   refine VS.ret (aL _ _) rfl rfl (fun wz kz bz=> ?_)
   exact ⟨by unfold kZ uH;rw [←hN,decide_eq_false Ae,decide_eq_false (show ¬ 40 < N by omega)];rfl,bz⟩
  ·refine VO.fix 15 rfl (congrArg (fun b=>AV.val (.bool b)) (decide_eq_false (show ¬ (N:Int)≤40 by omega))) ?_
   (repeat first|refine wN ?_|refine wP rfl ?_|refine aa rfl ?_|refine ab rfl ?_|refine wO rfl rfl ?_)
   by_cases h60:N≤60
   ·have hlen:uH l.length=true:=by unfold uH;rw [←hN,decide_eq_false Ae,decide_eq_true (show 40 < N by omega),decide_eq_true h60];rfl
    refine VS.bu rfl (decide_eq_false (show ¬ (N:Int) > 60 by omega)) ?_
    (repeat first|refine wN ?_|refine wP rfl ?_|refine aa rfl ?_|refine ab rfl ?_|refine wO rfl rfl ?_)
    refine VS.loop (J:=fun m L M w'=>∃ z:Nat,z≤N∧m=N - z∧∃ d vs spare cap,(d=24∨d=43)∧L=[(1,.val (.slice q N c)),(5,.row d 0 (2 + 2 * z) cap),(6,.val (.int .i64 (z:Int)))]∧M=[(d,(26,vs.flatten.map .val++spare))]∧
     cM RrE w' (S::F::fl (l.take z)) vs∧(vs.flatten.map AV.val++spare).length=cap * 4∧2 + 2 * z≤cap∧cap≤9223372036854775807∧spare.all aH=true∧ax spare=[]) N ⟨_,_,?_,?_,?_,?_,⟨0,by omega,rfl,24,[[.bool S.1,.slice sp S.2.1.length sc,.bool S.2.2.1,.slice sr S.2.2.2.length sd],[.bool F.1,.slice fp F.2.1.length fc,.bool F.2.2.1,.slice fr F.2.2.2.length fd]],[],2,.inl rfl,rfl,rfl,.cons ⟨_,_,_,_,rfl⟩ (.cons ⟨_,_,_,_,rfl⟩ .nil),rfl,by omega,by omega,rfl,rfl⟩⟩ ?_
    ·(repeat first|exact trivial|refine ⟨rfl,?_⟩)
    ·(repeat first|exact trivial|refine ⟨rfl,?_⟩)
    ·rfl
    ·exact ⟨.append (.vals _) (.none rfl),trivial⟩
    rintro m L M wJ ⟨z,hz,rfl,d,vs,spare,cap,rfl | rfl,rfl,rfl,fb,Dv,hzc,hcc,MM,pM⟩
    ·(repeat first|refine wN ?_|refine wP rfl ?_|refine aa rfl ?_|refine ab rfl ?_|refine wO rfl rfl ?_)
     by_cases hlt:z < N
     ·obtain ⟨e,he⟩:∃ e,l[z]? =some e:=⟨_,List.getElem?_eq_getElem (by omega)⟩
      obtain ⟨b,off,ig,mj,hc,hE⟩:=hv.at he
      subst mj
      obtain ⟨_,_,rfl,⟨ap,ac,ar,ad,rfl,-⟩,⟨bp,bc,br,bd,rfl,-⟩,-,-⟩:=hE
      obtain ⟨Av,Aw⟩:=fb.ok jB
      have JM:(S::F::fl (l.take z)).length=2 + 2 * z:=by rw [List.length_cons,List.length_cons,oM,List.length_take];omega
      refine VS.bE rfl (decide_eq_true (Int.ofNat_lt.2 hlt)) ?_
      (repeat first|refine wN ?_|refine wP rfl ?_|refine aa rfl ?_|refine ab rfl ?_|refine wO rfl rfl ?_)
      refine VO.cond rfl ⟨by omega,by omega⟩ ?_
      refine wV rfl ?_
      (repeat first|refine wN ?_|refine wP rfl ?_|refine aa rfl ?_|refine ab rfl ?_|refine wO rfl rfl ?_)
      refine VO.read rfl [.bool e.1.1,.slice ap e.1.2.1.length ac,.bool e.1.2.2.1,.slice ar e.1.2.2.2.length ad] rfl (ct hc 0 _ ⟨_,rfl⟩) (wV rfl ?_)
      (repeat first|refine wN ?_|refine wP rfl ?_|refine aa rfl ?_|refine ab rfl ?_|refine wO rfl rfl ?_)
      refine VO.cond rfl ⟨by omega,by omega⟩ ?_
      refine wV rfl ?_
      (repeat first|refine wN ?_|refine wP rfl ?_|refine aa rfl ?_|refine ab rfl ?_|refine wO rfl rfl ?_)
      refine VO.read rfl [.bool e.2.1,.slice bp e.2.2.1.length bc,.bool e.2.2.2.1,.slice br e.2.2.2.2.length bd] rfl (ct hc 4 _ ⟨[],rfl⟩) (wV rfl ?_)
      (repeat first|refine wN ?_|refine wP rfl ?_|refine aa rfl ?_|refine ab rfl ?_|refine wO rfl rfl ?_)
      refine VO.Lb (aL _ _) (t:=73) (e:=26) (sz:=4) (n:=2 + 2 * z) (c:=cap) (mm:=2) (known:=vs.flatten.map .val) (spare:=spare) (del:=some 24) (news:=([.bool e.1.1,.slice ap e.1.2.1.length ac,.bool e.1.2.2.1,.slice ar e.1.2.2.2.length ad,.bool e.2.1,.slice bp e.2.2.1.length bc,.bool e.2.2.2.1,.slice br e.2.2.2.2.length bd]:List Value).map .val) (dst:=43) rfl rfl rfl rfl rfl rfl rfl rfl (Nat.le_of_ble_eq_true rfl) rfl (.inl (.inr ⟨24,rfl,rfl,rfl⟩)) (.inl rfl) (by rw [List.length_map,Aw,JM]) Dv hzc hcc ⟨ao _,pM,rfl⟩ ⟨bb Av,MM,rfl⟩ rfl (by omega)
       (fun w1 β k1 b1 ho=>⟨_,_,rfl,.inr ⟨β 42,0,rfl,cK (rest:=[]) (ho.own 42 (.base (List.mem_append_right _ (List.mem_singleton.2 rfl))) _ _ rfl) rfl⟩⟩)
       (fun nD cap' ak ρ GM GN fC jc gm ed mL dy=>wV rfl ?_)
      (repeat first|refine wN ?_|refine wP rfl ?_|refine aa rfl ?_|refine ab rfl ?_|refine wO rfl rfl ?_)
      have xM:cM RrE nD (S::F::fl (l.take (z + 1))) (vs++[[.bool e.1.1,.slice ap e.1.2.1.length ac,.bool e.1.2.2.1,.slice ar e.1.2.2.2.length ad],[.bool e.2.1,.slice bp e.2.2.1.length bc,.bool e.2.2.2.1,.slice br e.2.2.2.2.length bd]]):=by
       rw [vN he,←List.cons_append,←List.cons_append]
       exact (fb.kp jB (by (with_reducible (repeat (first | assumption | exact kU _ | exact kR _ | exact Kp.of (U:=UU) (by assumption) | exact aE.of (by assumption) | refine kT ?_ (by assumption)))))).append (.cons ⟨_,_,_,_,rfl⟩ (.cons ⟨_,_,_,_,rfl⟩ .nil))
      refine VS.back (N - (z + 1)) (by omega) ⟨_,_,?_,?_,?_,?_,⟨z + 1,by omega,rfl,43,vs++[[.bool e.1.1,.slice ap e.1.2.1.length ac,.bool e.1.2.2.1,.slice ar e.1.2.2.2.length ad],[.bool e.2.1,.slice bp e.2.2.1.length bc,.bool e.2.2.2.1,.slice br e.2.2.2.2.length bd]],ak,cap',.inr rfl,rfl,rfl,xM,by simpa using ed,by omega,gm,mL,dy⟩⟩
      ·refine ⟨rfl,rfl,?_,trivial⟩
       rw [←bX (i:=z) (by omega)];rfl
      ·exact ⟨congrArg (fun l=>some (_,l++ak)) (by simp),trivial⟩
      ·rfl
      ·exact ⟨.append (.vals _) (.none dy),trivial⟩
     ·refine VS.bu rfl (decide_eq_false (fun e=>hlt (Int.ofNat_lt.1 e))) ?_
      have hzN:z=N:=by omega
      rw [List.take_of_length_le (by omega)] at fb
      (repeat first|refine wN ?_|refine wP rfl ?_|refine aa rfl ?_|refine ab rfl ?_|refine wO rfl rfl ?_)
      refine VO.fI rfl (fk Tryz.func26) (fun cC β er dv ho=>(sI _ (S::F::fl l) cC (mI jB (ho.own 24 (.base (List.mem_singleton.2 rfl)) _ _ rfl) spare rfl (fb.kp jB (by (with_reducible (repeat (first | assumption | exact kU _ | exact kR _ | exact Kp.of (U:=UU) (by assumption) | exact aE.of (by assumption) | refine kT ?_ (by assumption)))))) (by rw [List.length_cons,List.length_cons,oM];omega) hzc hcc) _ hb).mono ?_)
      rintro o w1 ⟨rfl,aV⟩
      refine ⟨_,rfl,aV,fun fe _ bb1=>wV rfl ?_⟩
      (repeat first|refine wN ?_|refine wP rfl ?_|refine aa rfl ?_|refine ab rfl ?_|refine wO rfl rfl ?_)
      refine VS.ret (aL _ _) rfl rfl (fun wz kz bz=> ?_)
      exact ⟨by unfold kZ;rw [hlen,hb];rfl,bz⟩
    ·(repeat first|refine wN ?_|refine wP rfl ?_|refine aa rfl ?_|refine ab rfl ?_|refine wO rfl rfl ?_)
     by_cases hlt:z < N
     ·obtain ⟨e,he⟩:∃ e,l[z]? =some e:=⟨_,List.getElem?_eq_getElem (by omega)⟩
      obtain ⟨b,off,ig,mj,hc,hE⟩:=hv.at he
      subst mj
      obtain ⟨_,_,rfl,⟨ap,ac,ar,ad,rfl,-⟩,⟨bp,bc,br,bd,rfl,-⟩,-,-⟩:=hE
      obtain ⟨Av,Aw⟩:=fb.ok jB
      have JM:(S::F::fl (l.take z)).length=2 + 2 * z:=by rw [List.length_cons,List.length_cons,oM,List.length_take];omega
      refine VS.bE rfl (decide_eq_true (Int.ofNat_lt.2 hlt)) ?_
      (repeat first|refine wN ?_|refine wP rfl ?_|refine aa rfl ?_|refine ab rfl ?_|refine wO rfl rfl ?_)
      refine VO.cond rfl ⟨by omega,by omega⟩ ?_
      refine wV rfl ?_
      (repeat first|refine wN ?_|refine wP rfl ?_|refine aa rfl ?_|refine ab rfl ?_|refine wO rfl rfl ?_)
      refine VO.read rfl [.bool e.1.1,.slice ap e.1.2.1.length ac,.bool e.1.2.2.1,.slice ar e.1.2.2.2.length ad] rfl (ct hc 0 _ ⟨_,rfl⟩) (wV rfl ?_)
      (repeat first|refine wN ?_|refine wP rfl ?_|refine aa rfl ?_|refine ab rfl ?_|refine wO rfl rfl ?_)
      refine VO.cond rfl ⟨by omega,by omega⟩ ?_
      refine wV rfl ?_
      (repeat first|refine wN ?_|refine wP rfl ?_|refine aa rfl ?_|refine ab rfl ?_|refine wO rfl rfl ?_)
      refine VO.read rfl [.bool e.2.1,.slice bp e.2.2.1.length bc,.bool e.2.2.2.1,.slice br e.2.2.2.2.length bd] rfl (ct hc 4 _ ⟨[],rfl⟩) (wV rfl ?_)
      (repeat first|refine wN ?_|refine wP rfl ?_|refine aa rfl ?_|refine ab rfl ?_|refine wO rfl rfl ?_)
      refine VO.Lb (aL _ _) (t:=73) (e:=26) (sz:=4) (n:=2 + 2 * z) (c:=cap) (mm:=2) (known:=vs.flatten.map .val) (spare:=spare) (del:=some 43) (news:=([.bool e.1.1,.slice ap e.1.2.1.length ac,.bool e.1.2.2.1,.slice ar e.1.2.2.2.length ad,.bool e.2.1,.slice bp e.2.2.1.length bc,.bool e.2.2.2.1,.slice br e.2.2.2.2.length bd]:List Value).map .val) (dst:=43) rfl rfl rfl rfl rfl rfl rfl rfl (Nat.le_of_ble_eq_true rfl) rfl (.inl (.inr ⟨43,rfl,rfl,rfl⟩)) (.inr rfl) (by rw [List.length_map,Aw,JM]) Dv hzc hcc ⟨ao _,pM,rfl⟩ ⟨bb Av,MM,rfl⟩ rfl (by omega)
       (fun w1 β k1 b1 ho=>⟨_,_,rfl,.inr ⟨β 42,0,rfl,cK (rest:=[]) (ho.own 42 (.base (List.mem_append_right _ (List.mem_singleton.2 rfl))) _ _ rfl) rfl⟩⟩)
       (fun nD cap' ak ρ GM GN fC jc gm ed mL dy=>wV rfl ?_)
      (repeat first|refine wN ?_|refine wP rfl ?_|refine aa rfl ?_|refine ab rfl ?_|refine wO rfl rfl ?_)
      have xM:cM RrE nD (S::F::fl (l.take (z + 1))) (vs++[[.bool e.1.1,.slice ap e.1.2.1.length ac,.bool e.1.2.2.1,.slice ar e.1.2.2.2.length ad],[.bool e.2.1,.slice bp e.2.2.1.length bc,.bool e.2.2.2.1,.slice br e.2.2.2.2.length bd]]):=by
       rw [vN he,←List.cons_append,←List.cons_append]
       exact (fb.kp jB (by (with_reducible (repeat (first | assumption | exact kU _ | exact kR _ | exact Kp.of (U:=UU) (by assumption) | exact aE.of (by assumption) | refine kT ?_ (by assumption)))))).append (.cons ⟨_,_,_,_,rfl⟩ (.cons ⟨_,_,_,_,rfl⟩ .nil))
      refine VS.back (N - (z + 1)) (by omega) ⟨_,_,?_,?_,?_,?_,⟨z + 1,by omega,rfl,43,vs++[[.bool e.1.1,.slice ap e.1.2.1.length ac,.bool e.1.2.2.1,.slice ar e.1.2.2.2.length ad],[.bool e.2.1,.slice bp e.2.2.1.length bc,.bool e.2.2.2.1,.slice br e.2.2.2.2.length bd]],ak,cap',.inr rfl,rfl,rfl,xM,by simpa using ed,by omega,gm,mL,dy⟩⟩
      ·refine ⟨rfl,rfl,?_,trivial⟩
       rw [←bX (i:=z) (by omega)];rfl
      ·exact ⟨congrArg (fun l=>some (_,l++ak)) (by simp),trivial⟩
      ·rfl
      ·exact ⟨.append (.vals _) (.none dy),trivial⟩
     ·refine VS.bu rfl (decide_eq_false (fun e=>hlt (Int.ofNat_lt.1 e))) ?_
      have hzN:z=N:=by omega
      rw [List.take_of_length_le (by omega)] at fb
      (repeat first|refine wN ?_|refine wP rfl ?_|refine aa rfl ?_|refine ab rfl ?_|refine wO rfl rfl ?_)
      refine VO.fI rfl (fk Tryz.func26) (fun cC β er dv ho=>(sI _ (S::F::fl l) cC (mI jB (ho.own 43 (.base (List.mem_singleton.2 rfl)) _ _ rfl) spare rfl (fb.kp jB (by (with_reducible (repeat (first | assumption | exact kU _ | exact kR _ | exact Kp.of (U:=UU) (by assumption) | exact aE.of (by assumption) | refine kT ?_ (by assumption)))))) (by rw [List.length_cons,List.length_cons,oM];omega) hzc hcc) _ hb).mono ?_)
      rintro o w1 ⟨rfl,aV⟩
      refine ⟨_,rfl,aV,fun fe _ bb1=>wV rfl ?_⟩
      (repeat first|refine wN ?_|refine wP rfl ?_|refine aa rfl ?_|refine ab rfl ?_|refine wO rfl rfl ?_)
      refine VS.ret (aL _ _) rfl rfl (fun wz kz bz=> ?_)
      exact ⟨by unfold kZ;rw [hlen,hb];rfl,bz⟩
   ·refine VS.bE rfl (decide_eq_true (show (N:Int) > 60 by omega)) ?_
    (repeat first|refine wN ?_|refine wP rfl ?_|refine aa rfl ?_|refine ab rfl ?_|refine wO rfl rfl ?_)
    refine VS.ret (aL _ _) rfl rfl (fun wz kz bz=> ?_)
    exact ⟨by unfold kZ uH;rw [←hN,decide_eq_false Ae,decide_eq_false h60,Bool.and_false];rfl,bz⟩
theorem Dw (v u:Value) (S F:RR) (keep:Int) (l:List (RR×RR)) (kk:Nat) (w:World) (hR:jl w v S F keep) (hv:eE (xY kk) 8 w u l) (b:Bool) (hb:kZ S F l=b):
 Calls Tryz.prog 8 #[v,u] w fun o w'=>o=.returned (.bool b)∧aj w w':=hb▸Jt v u S F keep l kk w hR hv
theorem Ju {S F:RR} {l:List (RR×RR)} (h:kZ S F l=true):l.length≤12∨(40 < l.length∧l.length≤60):=by
 unfold kZ uH at h
 rw [Bool.and_eq_true,Bool.or_eq_true,Bool.and_eq_true,decide_eq_true_iff,decide_eq_true_iff,decide_eq_true_iff] at h
 exact h.1
theorem zw {S F:RR} {l:List (RR×RR)} (h:kZ S F l=true):S.mW 3∧F.mW 3∧∀ e∈l,e.1.mW 3∧e.2.mW 3:=by
 unfold kZ at h
 rw [Bool.and_eq_true] at h
 have h2:∀ x∈(S::F::fl l),x.mW 3:=fun x hx=>by
  have:=List.all_eq_true.1 h.2 x hx
  unfold Bd at this
  rwa [Bool.and_eq_true,decide_eq_true_iff,decide_eq_true_iff] at this
 refine ⟨h2 S (by simp),h2 F (by simp),fun e he=>⟨h2 _ ?_,h2 _ ?_⟩⟩
 ·exact List.mem_cons_of_mem _ (List.mem_cons_of_mem _ (List.mem_flatMap.2 ⟨e,he,by simp⟩))
 ·exact List.mem_cons_of_mem _ (List.mem_cons_of_mem _ (List.mem_flatMap.2 ⟨e,he,by simp⟩))
theorem MN {S F:RR} {l:List (RR×RR)} {kk:Nat} {w:World} {v:Value} (h:kZ S F l=true) (hv:eE (xY kk) 8 w v l):eE (xY 3) 8 w v l:=by
 have h3:=(zw h).2.2
 refine hv.mono fun i a cs ha he=> ?_
 have hm:=h3 a (List.mem_of_getElem? ha)
 obtain ⟨x,y,e,f1,f2,-⟩:=he
 exact ⟨x,y,e,f1,f2,hm.1,hm.2⟩
end Go.Proofs.YtabalinjfgcfeaaGreat
set_option maxRecDepth 4000
namespace Go.Proofs.YtabalinjfgcfeaaGreat
open Go.RowKit
attribute [local irreducible] aB VS
structure nA where
 eJ:RR
 allowed:RR
 bl:RR
 used:RR
 bU:RR
 aZ:RR
 closing:RR
def nA.q (r:nA):aN:=⟨r.eJ.q,r.allowed.q,r.bl.q,r.used.q,r.bU.q,r.aZ.q,r.closing.q⟩
def nA.gX (r:nA):Nat→RR
 | 0=>r.eJ
 | 1=>r.allowed
 | 2=>r.bl
 | 3=>r.used
 | 4=>r.bU
 | 5=>r.aZ
 | _=>r.closing
abbrev mR:=Int×Int×RR
def Rw (kk:Nat) (w:World) (cs:List Value) (x:RR):Prop:=tJ w cs x∧x.mW kk
theorem Rw.kp {T:TypeId→Bool} {kk:Nat} {w w':World} {cs:List Value} {x:RR} (h:Rw kk w cs x) (k:aE ⟨UU,fun _=>True,T⟩ w w'):Rw kk w' cs x:=⟨h.1.kp k,h.2⟩
def RowI (kk:Nat) (w:World) (cs:List Value) (r:nA):Prop:=
 ∃ a b c d e f g:List Value,cs=a++(b++(c++(d++(e++(f++g)))))∧Rw kk w a r.eJ∧Rw kk w b r.allowed∧Rw kk w c r.bl∧Rw kk w d r.used∧Rw kk w e r.bU∧Rw kk w f r.aZ∧Rw kk w g r.closing
def UseI (kk:Nat) (w:World) (cs:List Value) (e:mR):Prop:=∃ a,cs=[.int .i64 e.1,.int .i64 e.2.1]++a∧Rw kk w a e.2.2
theorem rowI_ok (kk:Nat):lB (RowI kk) 28 where
 kp:=fun h k=>by
  obtain ⟨a,b,c,d,e,f,g,h0,h1,h2,h3,h4,h5,h6,h7⟩:=h
  exact ⟨a,b,c,d,e,f,g,h0,h1.kp k,h2.kp k,h3.kp k,h4.kp k,h5.kp k,h6.kp k,h7.kp k⟩
 len:=fun h=>by
  obtain ⟨a,b,c,d,e,f,g,rfl,h1,h2,h3,h4,h5,h6,h7⟩:=h
  simp only [List.length_append,h1.1.len,h2.1.len,h3.1.len,h4.1.len,h5.1.len,h6.1.len,h7.1.len]
 ok:=fun h=>by
  obtain ⟨a,b,c,d,e,f,g,rfl,h1,h2,h3,h4,h5,h6,h7⟩:=h
  simp only [List.all_append,h1.1.ok,h2.1.ok,h3.1.ok,h4.1.ok,h5.1.ok,h6.1.ok,h7.1.ok,Bool.and_self]
theorem useI_ok (kk:Nat):lB (UseI kk) 6 where
 kp:=fun h k=>by
  obtain ⟨a,h0,h1⟩:=h
  exact ⟨a,h0,h1.kp k⟩
 len:=fun h=>by obtain ⟨a,rfl,h1⟩:=h;rw [List.length_append,h1.1.len];rfl
 ok:=fun h=>by obtain ⟨a,rfl,h1⟩:=h;rw [List.all_append,h1.1.ok];rfl
theorem MO {kk:Nat} {w:World} {cs:List Value} {r:nA} (h:RowI kk w cs r) (f:Nat) (hf:f≤6):∃ a,a <+:cs.drop (4 * f)∧Rw kk w a (r.gX f):=by
 obtain ⟨a,b,c,d,e,g,i,rfl,h1,h2,h3,h4,h5,h6,h7⟩:=h
 have l1:=h1.1.len
 have l2:=h2.1.len
 have l3:=h3.1.len
 have l4:=h4.1.len
 have l5:=h5.1.len
 have l6:=h6.1.len
 have key:∀ (pre x post:List Value),pre.length=4 * f→x <+:(pre++(x++post)).drop (4 * f):=fun pre x post hp=>by
  rw [←hp,List.drop_left];exact List.prefix_append _ _
 match f,hf with
 | 0,_=>exact ⟨a,key [] a _ rfl,h1⟩
 | 1,_=>exact ⟨b,key a b _ l1,h2⟩
 | 2,_=>exact ⟨c,by rw [←List.append_assoc];exact key (a++b) c _ (by simp [l1,l2]),h3⟩
 | 3,_=>exact ⟨d,by rw [show a++(b++(c++(d++(e++(g++i)))))=(a++(b++c))++(d++(e++(g++i))) by simp];exact key (a++(b++c)) d _ (by simp [l1,l2,l3]),h4⟩
 | 4,_=>exact ⟨e,by rw [show a++(b++(c++(d++(e++(g++i)))))=(a++(b++(c++d)))++(e++(g++i)) by simp];exact key (a++(b++(c++d))) e _ (by simp [l1,l2,l3,l4]),h5⟩
 | 5,_=>exact ⟨g,by rw [show a++(b++(c++(d++(e++(g++i)))))=(a++(b++(c++(d++e))))++(g++i) by simp];exact key (a++(b++(c++(d++e)))) g _ (by simp [l1,l2,l3,l4,l5]),h6⟩
 | 6,_=>exact ⟨i,by rw [show a++(b++(c++(d++(e++(g++i)))))=(a++(b++(c++(d++(e++g)))))++(i++[]) by simp];exact key (a++(b++(c++(d++(e++g))))) i _ (by simp [l1,l2,l3,l4,l5,l6]),h7⟩
def AP (kk:Nat) (w:World) (r u:Value) (X:List nA×List mR):Prop:=eE (RowI kk) 28 w r X.1∧eE (UseI kk) 6 w u X.2
theorem AP.bj {kk:Nat} {w w':World} {r u:Value} {X:List nA×List mR} (h:AP kk w r u X) (b:aj w w'):AP kk w' r u X:=⟨h.1.bj (rowI_ok kk) b,h.2.bj (useI_ok kk) b⟩
def Dx (r:aN):nA:=⟨na r.eJ,na r.allowed,na r.bl,na r.used,na r.bU,na r.aZ,na r.closing⟩
def Dy (e:Uq):mR:=((e.1:Int),(e.2.1:Int),na e.2.2)
def pQ (x:List aN×List Uq):List nA×List mR:=(x.1.map Dx,x.2.map Dy)
theorem crow_q (r:aN):(Dx r).q=r:=by unfold Dx nA.q;simp only [nb]
def RowSz (kk:Nat) (r:aN):Prop:=dV r.eJ kk∧dV r.allowed kk∧dV r.bl kk∧dV r.used kk∧dV r.bU kk∧dV r.aZ kk∧dV r.closing kk
def LedSz (kk:Nat) (x:List aN×List Uq):Prop:=(∀ r∈x.1,RowSz kk r)∧∀ e∈x.2,dV e.2.2 kk
theorem R4.rw {B kk:Nat} {w:World} {cs:List Value} {q:Rat} (h:R4 B w cs q) (hs:dV q kk):Rw kk w cs (na q):=by
 obtain ⟨s,p,n,c,t,r,m,d,rfl,h1⟩:=h
 exact ⟨h1.rd.Jr,pB hs⟩
theorem row7_in {B kk:Nat} {w:World} {cs:List Value} {r:aN} (h:dG B w cs r) (hs:RowSz kk r):RowI kk w cs (Dx r):=by
 obtain ⟨a,b,c,d,e,f,g,h0,h1,h2,h3,h4,h5,h6,h7⟩:=h
 obtain ⟨s1,s2,s3,s4,s5,s6,s7⟩:=hs
 exact ⟨a,b,c,d,e,f,g,h0,h1.rw s1,h2.rw s2,h3.rw s3,h4.rw s4,h5.rw s5,h6.rw s6,h7.rw s7⟩
theorem use_in {B kk:Nat} {w:World} {cs:List Value} {e:Uq} (h:np B w cs e) (hs:dV e.2.2 kk):UseI kk w cs (Dy e):=by
 obtain ⟨s,p,n,c,t,r,m,d,rfl,h1⟩:=h
 exact ⟨_,rfl,h1.rd.Jr,pB hs⟩
theorem MP {α α':Type} {E:World→List Value→α→Prop} {E':World→List Value→α'→Prop} {sz:Nat} (hE:lB E sz) {t:TypeId} {w:World} {b:Nat} {v:Value} {es:List α} (f:α→α') (h:SlZ E sz t w b v es) (hf:∀ cs,∀ e∈es,E w cs e→E' w cs (f e)):eE E' sz w v (es.map f):=by
 obtain ⟨n,c,vs,sp,rfl,hc,ho⟩:=h
 have hn:n=es.length:=ho.len
 subst hn
 refine ⟨_,_,by rw [List.length_map],by rw [List.length_map];exact ho.le,by simpa [maxLen] using ho.cm,fun i a ha=> ?_⟩
 rw [List.getElem?_map] at ha
 obtain ⟨e,he,rfl⟩:=Option.map_eq_some_iff.1 ha
 obtain ⟨cs,hcs,hEx⟩:=ho.el.at i e he
 refine ⟨b,0,cs,rfl,fun j u hj=> ?_,hf _ _ (List.mem_of_getElem? he) hEx⟩
 refine hc.cell ?_
 have js:cs.length=sz:=hE.len hEx
 have hjl:=(List.getElem?_eq_some_iff.1 hj).1
 obtain ⟨hlt,hxx⟩:=List.getElem?_eq_some_iff.1 hcs
 have yo:vs=vs.take i++cs::vs.drop (i + 1):=by rw [←hxx,←List.drop_eq_getElem_cons hlt,List.take_append_drop]
 have hal:(vs.take i).flatten.length=i * sz:=by
  rw [cW (fun y hy=>ho.el.lens hE y (List.mem_of_mem_take hy)),List.length_take,Nat.min_eq_left (by omega)]
 rw [List.getElem?_toArray,yo,List.flatten_append,List.append_assoc,List.getElem?_append_right (by omega),hal,List.flatten_cons,List.append_assoc,show 0 + i * sz + j - i * sz=j by omega,List.getElem?_append_left hjl]
 exact hj
theorem sG.inI {B kk:Nat} {w:World} {r u:Value} {x:List aN×List Uq} (h:sG B w r u x) (hs:LedSz kk x):AP kk w r u (pQ x):=by
 refine ⟨?_,?_⟩
 ·rcases h.1 with ⟨rfl,e⟩ | ⟨rb,_,h3⟩
  ·unfold pQ;rw [e];exact eE.nil _ _ _
  ·exact MP (az B) Dx h3 fun cs e he hE=>row7_in hE (hs.1 e he)
 ·rcases h.2 with ⟨rfl,e⟩ | ⟨rb,_,h3⟩
  ·unfold pQ;rw [e];exact eE.nil _ _ _
  ·exact MP (dm B) Dy h3 fun cs e he hE=>use_in hE (hs.2 e he)
def pq (c:Bool) (x:RR):Rat:=if c then x.q else 0
def JS (v:Int) (us:List mR):Rat:=gW (us.map fun e=>pq (decide (e.1=v)) e.2.2)
def FM (v y:Int) (us:List mR):Rat:=gW (us.map fun e=>pq (decide (e.1=v) && decide (e.2.1 < y)) e.2.2)
theorem lF {us:List mR} (f:mR→Rat) {z:Nat} {e:mR} (h:us[z]? =some e):gW ((us.take (z + 1)).map f)=gW ((us.take z).map f) + f e:=by
 rw [List.map_take,List.map_take]
 exact tB (by rw [List.getElem?_map,h];rfl)
theorem RR.sz {x:RR} {w:World} {cs:List Value} {kk:Nat} (h:Rw kk w cs x):dV x.q (jQ kk):=by
 obtain ⟨p,c,r,d,rfl,h1⟩:=h.1
 exact (h1.pz h.2).Ak
theorem FN {us:List mR} {kk:Nat} {w:World} {f:mR→Bool} {z:Nat} (h:∀ e∈us,∃ cs,Rw kk w cs e.2.2) (hz:z≤us.length):dV (gW ((us.take z).map fun e=>pq (f e) e.2.2)) (cX kk z):=by
 induction z with
 | zero=>exact dV.zero.mono (by unfold cX;omega)
 | succ z ih=>
   obtain ⟨e,he⟩:∃ e,us[z]? =some e:=⟨_,List.getElem?_eq_getElem (by omega)⟩
   rw [lF _ he,uy]
   refine (ih (by omega)).add ?_
   obtain ⟨cs,hcs⟩:=h e (List.mem_of_getElem? he)
   unfold pq
   split
   ·exact RR.sz hcs
   ·exact dV.zero.mono (by unfold jQ;omega)
theorem eE.rws {us:List mR} {kk:Nat} {w:World} {v:Value} (h:eE (UseI kk) 6 w v us):∀ e∈us,∃ cs,Rw kk w cs e.2.2:=fun e he=>by
 obtain ⟨i,hi,hx⟩:=List.mem_iff_getElem.1 he
 obtain ⟨p,c,rfl,_,_⟩:=h.form
 obtain ⟨_,_,cs,_,_,a,_,ha⟩:=h.at (i:=i) (a:=e) (by rw [List.getElem?_eq_getElem hi,hx])
 exact ⟨a,ha⟩
set_option maxRecDepth 4000 in
set_option maxHeartbeats 4000000 in
theorem iOf_any (r u:Value) (X:List nA×List mR) (v:Int) (kk:Nat) (w:World) (h:AP kk w r u X) (hk:kk≤10000) (hn:X.2.length≤1000):
  Calls Tryz.prog 15 #[.agg #[r,u],.int .i64 v] w fun o w'=>∃ x,o=.returned x∧aK w' w.heap.size x (JS v X.2)∧aj w w':=by
 obtain ⟨us,nw⟩:∃ us,X.2=us:=⟨_,rfl⟩
 obtain ⟨hr,h2⟩:=h
 obtain ⟨rp,rc,rfl,-,-⟩:=hr.form
 rw [nw] at hn h2 ⊢
 obtain ⟨q,c,rfl,eT,eV⟩:=h2.form
 obtain ⟨n,ER⟩:∃ n,n=us.length:=⟨_,rfl⟩
 rw [←ER] at h2 eT hn
 rw [←ER]
 have hsz:∀ z,z≤us.length→dV (JS v (us.take z)) (cX kk z):=fun z hz=>FN (f:=fun e=>decide (e.1=v)) (h2.rws) hz
 refine aw (C:=cj Tryz.prog w _) (args:=[_,_]) Tryz.func15 rfl Tryz.ntmps15 (Nat.le_of_ble_eq_true rfl) ?_
 (repeat first|refine wN ?_|refine wP rfl ?_|refine aa rfl ?_|refine ab rfl ?_|refine wO rfl rfl ?_)
 refine VO.call rfl rfl (fk Tryz.func44) (fun cC er dv=>(bF 0 cC (by omega) (by omega)).mono ?_)
 rintro e w1 ⟨r1,rfl,q1,aV⟩
 obtain ⟨s1,p1,n1,c1,t1,y1,m1,d1,rfl⟩:=q1.form
 refine ⟨_,rfl,aV,fun fe _ bb1=>wV rfl ?_⟩
 (repeat first|refine wN ?_|refine wP rfl ?_|refine aa rfl ?_|refine ab rfl ?_|refine wO rfl rfl ?_)
 refine VS.loop (J:=fun m L M w'=>∃ (z:Nat) (s:Bool) (p':Option Addr) (n' c':Nat) (t:Bool) (y:Option Addr) (m' d:Nat),z≤n∧m=n - z∧L=[(1,.val (.int .i64 v)),(4,.box 4 0),(5,.box 5 0),(10,.val (.slice q n c)),(11,.val (.int .i64 (n:Int))),(12,.val (.int .i64 (z:Int)))]∧
   M=[(4,(26,([.bool false,.slice none 0 0,.bool false,.slice none 0 0]:List Value).map .val)),(5,(26,([.bool s,.slice p' n' c',.bool t,.slice y m' d]:List Value).map .val))]∧aK w' w.heap.size (.agg #[.bool s,.slice p' n' c',.bool t,.slice y m' d]) (JS v (us.take z))) n
  ⟨_,_,?_,?_,?_,?_,⟨0,_,_,_,_,_,_,_,_,by omega,rfl,rfl,rfl,(q1.k).mono dv.size⟩⟩ ?_
 ·(repeat first|exact trivial|refine ⟨rfl,?_⟩)
 ·(repeat first|exact trivial|refine ⟨rfl,?_⟩)
 ·rfl
 ·(repeat first|exact trivial|refine ⟨aF.lit rfl,?_⟩|refine ⟨aF.vals _,?_⟩)
 rintro m L M w9 ⟨z,s,p',n',c',t,y,m',d,hz,rfl,rfl,rfl,ho⟩
 (repeat first|refine wN ?_|refine wP rfl ?_|refine aa rfl ?_|refine ab rfl ?_|refine wO rfl rfl ?_)
 by_cases hlt:z < n
 ·obtain ⟨e,he⟩:∃ e,us[z]? =some e:=⟨_,List.getElem?_eq_getElem (by omega)⟩
  obtain ⟨b,off,ig,mj,hc,⟨_,rfl,⟨ap,ac,ar,ad,rfl,ot⟩,uX⟩⟩:=h2.at he
  subst mj
  refine VS.bE rfl (decide_eq_true (Int.ofNat_lt.2 hlt)) ?_
  (repeat first|refine wN ?_|refine wP rfl ?_|refine aa rfl ?_|refine ab rfl ?_|refine wO rfl rfl ?_)
  refine VO.cond rfl ⟨by omega,by omega⟩ ?_
  refine wV rfl ?_
  (repeat first|refine wN ?_|refine wP rfl ?_|refine aa rfl ?_|refine ab rfl ?_|refine wO rfl rfl ?_)
  refine VO.read rfl [.int .i64 e.1,.int .i64 e.2.1,.bool e.2.2.1,.slice ap e.2.2.2.1.length ac,.bool e.2.2.2.2.1,.slice ar e.2.2.2.2.2.length ad] rfl (ct hc 0 _ ⟨[],rfl⟩) (wV rfl ?_)
  (repeat first|refine wN ?_|refine wP rfl ?_|refine aa rfl ?_|refine ab rfl ?_|refine wO rfl rfl ?_)
  have Al:JS v (us.take (z + 1))=JS v (us.take z) + pq (decide (e.1=v)) e.2.2:=lF _ he
  by_cases hv:e.1=v
  ·refine VS.bE rfl (decide_eq_true hv) ?_
   rw [decide_eq_true hv] at Al
   have hzz:cX kk z≤67108864:=by
    have hzl:z≤1000:=by omega
    have h1:=pj (k:=kk) hzl
    have h3:jQ kk≤10001:=by unfold jQ;omega
    have h4:cX kk 1000=1 + 1000 * (jQ kk + 1):=rfl
    omega
   (repeat first|refine wN ?_|refine wP rfl ?_|refine aa rfl ?_|refine ab rfl ?_|refine wO rfl rfl ?_)
   refine VO.call rfl rfl (fk Tryz.func16) (fun dC gu eu=>(dx _ _ (JS v (us.take z)) e.2.2.q (cX kk z) kk dC (ho.ki (hsz z (by omega))) ((ot.kp (Kp.of (U:=UU) eu)).pz uX) hzz (by omega)).mono ?_)
   rintro e w2 ⟨r2,rfl,q2,bm⟩
   obtain ⟨s2,p2,n2,c2,t2,y2,m2,d2,rfl⟩:=q2.form
   refine ⟨_,rfl,bm,fun fZ _ bb2=>wV rfl ?_⟩
   (repeat first|refine wN ?_|refine wP rfl ?_|refine aa rfl ?_|refine ab rfl ?_|refine wO rfl rfl ?_)
   refine VS.back (n - (z + 1)) (by omega) ⟨_,_,?_,?_,?_,?_,⟨z + 1,_,_,_,_,_,_,_,_,by omega,rfl,rfl,rfl,Al▸(q2.k).mono eu.size⟩⟩
   ·refine ⟨rfl,rfl,rfl,rfl,rfl,?_,trivial⟩
    rw [←bX (i:=z) (by omega)];rfl
   ·(repeat first|exact trivial|refine ⟨rfl,?_⟩)
   ·rfl
   ·(repeat first|exact trivial|refine ⟨aF.lit rfl,?_⟩|refine ⟨aF.vals _,?_⟩)
  ·refine VS.bu rfl (decide_eq_false hv) ?_
   rw [decide_eq_false hv,show pq false e.2.2=0 from rfl,Rat.add_zero] at Al
   (repeat first|refine wN ?_|refine wP rfl ?_|refine aa rfl ?_|refine ab rfl ?_|refine wO rfl rfl ?_)
   refine VS.back (n - (z + 1)) (by omega) ⟨_,_,?_,?_,?_,?_,⟨z + 1,_,_,_,_,_,_,_,_,by omega,rfl,rfl,rfl,Al▸ho.k⟩⟩
   ·refine ⟨rfl,rfl,rfl,rfl,rfl,?_,trivial⟩
    rw [←bX (i:=z) (by omega)];rfl
   ·(repeat first|exact trivial|refine ⟨rfl,?_⟩)
   ·rfl
   ·(repeat first|exact trivial|refine ⟨aF.lit rfl,?_⟩|refine ⟨aF.vals _,?_⟩)
 ·refine VS.bu rfl (decide_eq_false (fun e=>hlt (Int.ofNat_lt.1 e))) ?_
  (repeat first|refine wN ?_|refine wP rfl ?_|refine aa rfl ?_|refine ab rfl ?_|refine wO rfl rfl ?_)
  refine VS.ret (aL _ _) rfl rfl (fun wz kz bz=> ?_)
  rw [List.take_of_length_le (by omega)] at ho
  exact ⟨_,rfl,ho.kp kz,bz⟩
theorem kk_le {kk z:Nat} (hk:kk≤10000) (hz:z≤1000):jQ kk + cX kk z + 1≤30000000:=by
 have h1:=pj (k:=kk) hz
 have h3:jQ kk≤10001:=by unfold jQ;omega
 have h4:cX kk 1000=1 + 1000 * (jQ kk + 1):=rfl
 omega
set_option maxRecDepth 4000 in
set_option maxHeartbeats 4000000 in
theorem Jv (r u:Value) (X:List nA×List mR) (v:Nat) (yy:Int) (R:nA) (kk:Nat) (w:World) (h:AP kk w r u X) (hR:X.1[v]? =some R) (hk:kk≤10000) (hn:X.2.length≤1000):
  Calls Tryz.prog 46 #[.agg #[r,u],.int .i64 (v:Int),.int .i64 yy] w fun o w'=>∃ x,o=.returned x∧bK w' x (R.bl.q - FM (v:Int) yy X.2) 30000000∧aj w w':=by
 obtain ⟨us,nw⟩:∃ us,X.2=us:=⟨_,rfl⟩
 obtain ⟨rs,hrs⟩:∃ rs,X.1=rs:=⟨_,rfl⟩
 obtain ⟨hr,h2⟩:=h
 rw [nw] at hn h2 ⊢
 rw [hrs] at hr hR
 obtain ⟨rp,rc,rfl,hrc,hrm⟩:=hr.form
 obtain ⟨q,c,rfl,eT,eV⟩:=h2.form
 obtain ⟨n,ER⟩:∃ n,n=us.length:=⟨_,rfl⟩
 obtain ⟨nr,pZ⟩:∃ n,n=rs.length:=⟨_,rfl⟩
 rw [←ER] at h2 eT hn
 rw [←ER,←pZ]
 rw [←pZ] at hr hrc
 have hvn:v < nr:=by rw [pZ];exact (List.getElem?_eq_some_iff.1 hR).1
 have hsz:∀ z,z≤us.length→dV (FM (v:Int) yy (us.take z)) (cX kk z):=fun z hz=>FN (f:=fun e=>decide (e.1=(v:Int)) && decide (e.2.1 < yy)) (h2.rws) hz
 obtain ⟨rb,ro,rcs,hrp,hrcc,hRI⟩:=hr.at hR
 subst hrp
 obtain ⟨_,pH,⟨dp,dc,dr,dd,rfl,hdraw⟩,hdfew⟩:=MO hRI 2 (by decide)
 refine aw (C:=cj Tryz.prog w _) (args:=[_,_,_]) Tryz.func46 rfl Tryz.ntmps46 (Nat.le_of_ble_eq_true rfl) ?_
 (repeat first|refine wN ?_|refine wP rfl ?_|refine aa rfl ?_|refine ab rfl ?_|refine wO rfl rfl ?_)
 refine VO.cond rfl ⟨by omega,by omega⟩ ?_
 refine wV rfl ?_
 (repeat first|refine wN ?_|refine wP rfl ?_|refine aa rfl ?_|refine ab rfl ?_|refine wO rfl rfl ?_)
 refine VO.read rfl [.bool (R.gX 2).1,.slice dp (R.gX 2).2.1.length dc,.bool (R.gX 2).2.2.1,.slice dr (R.gX 2).2.2.2.length dd] rfl (ct hrcc 8 _ pH) (wV rfl ?_)
 (repeat first|refine wN ?_|refine wP rfl ?_|refine aa rfl ?_|refine ab rfl ?_|refine wO rfl rfl ?_)
 have DI:bK w (.agg #[.bool (R.gX 2).1,.slice dp (R.gX 2).2.1.length dc,.bool (R.gX 2).2.2.1,.slice dr (R.gX 2).2.2.2.length dd]) (R.bl.q - FM (v:Int) yy (us.take 0)) 30000000:=by
  have h0:R.bl.q - FM (v:Int) yy (us.take 0)=R.bl.q:=by show R.bl.q - 0=R.bl.q;grind
  rw [h0]
  exact (hdraw.pz hdfew).up (by omega)
 refine VS.loop (J:=fun m L M w'=>∃ (z:Nat) (s:Bool) (p':Option Addr) (n' c':Nat) (t:Bool) (y:Option Addr) (m' d:Nat),z≤n∧m=n - z∧L=[(1,.val (.int .i64 (v:Int))),(2,.val (.int .i64 yy)),(3,.box 3 0),(6,.box 6 0),(7,.box 7 0),(8,.val (.int .i64 (z:Int)))]∧
   M=[(3,(nx,([.slice (some ⟨rb,ro,none⟩) nr rc,.slice q n c]:List Value).map .val)),(6,(26,([.bool false,.slice none 0 0,.bool false,.slice none 0 0]:List Value).map .val)),(7,(26,([.bool s,.slice p' n' c',.bool t,.slice y m' d]:List Value).map .val))]∧bK w' (.agg #[.bool s,.slice p' n' c',.bool t,.slice y m' d]) (R.bl.q - FM (v:Int) yy (us.take z)) 30000000) n
  ⟨_,_,?_,?_,?_,?_,⟨0,_,_,_,_,_,_,_,_,by omega,rfl,rfl,rfl,DI.k⟩⟩ ?_
 ·(repeat first|exact trivial|refine ⟨rfl,?_⟩)
 ·(repeat first|exact trivial|refine ⟨rfl,?_⟩)
 ·rfl
 ·(repeat first|exact trivial|refine ⟨aF.lit rfl,?_⟩|refine ⟨aF.vals _,?_⟩)
 rintro m L M w9 ⟨z,s,p',n',c',t,y,m',d,hz,rfl,rfl,rfl,ho⟩
 (repeat first|refine wN ?_|refine wP rfl ?_|refine aa rfl ?_|refine ab rfl ?_|refine wO rfl rfl ?_)
 by_cases hlt:z < n
 ·obtain ⟨e,he⟩:∃ e,us[z]? =some e:=⟨_,List.getElem?_eq_getElem (by omega)⟩
  obtain ⟨b,off,ig,mj,hc,⟨_,rfl,⟨ap,ac,ar,ad,rfl,ot⟩,uX⟩⟩:=h2.at he
  subst mj
  refine VS.bE rfl (decide_eq_true (Int.ofNat_lt.2 hlt)) ?_
  (repeat first|refine wN ?_|refine wP rfl ?_|refine aa rfl ?_|refine ab rfl ?_|refine wO rfl rfl ?_)
  refine VO.cond rfl ⟨by omega,by omega⟩ ?_
  refine wV rfl ?_
  (repeat first|refine wN ?_|refine wP rfl ?_|refine aa rfl ?_|refine ab rfl ?_|refine wO rfl rfl ?_)
  refine VO.read rfl [.int .i64 e.1] rfl (ct hc 0 _ ⟨_,rfl⟩) (wV rfl ?_)
  (repeat first|refine wN ?_|refine wP rfl ?_|refine aa rfl ?_|refine ab rfl ?_|refine wO rfl rfl ?_)
  have Al:FM (v:Int) yy (us.take (z + 1))=FM (v:Int) yy (us.take z) + pq (decide (e.1=(v:Int)) && decide (e.2.1 < yy)) e.2.2:=lF _ he
  by_cases hv:e.1=(v:Int)
  ·rw [decide_eq_true hv] at Al
   refine VO.fix 30 rfl (congrArg (fun b=>AV.val (.bool b)) (decide_eq_true hv)) ?_
   (repeat first|refine wN ?_|refine wP rfl ?_|refine aa rfl ?_|refine ab rfl ?_|refine wO rfl rfl ?_)
   refine VO.cond rfl ⟨by omega,by omega⟩ ?_
   refine wV rfl ?_
   (repeat first|refine wN ?_|refine wP rfl ?_|refine aa rfl ?_|refine ab rfl ?_|refine wO rfl rfl ?_)
   refine VO.read rfl [.int .i64 e.2.1] rfl (ct hc 1 _ ⟨_,rfl⟩) (wV rfl ?_)
   (repeat first|refine wN ?_|refine wP rfl ?_|refine aa rfl ?_|refine ab rfl ?_|refine wO rfl rfl ?_)
   by_cases hy:e.2.1 < yy
   ·rw [decide_eq_true hy] at Al
    refine VS.bE rfl (decide_eq_true hy) ?_
    (repeat first|refine wN ?_|refine wP rfl ?_|refine aa rfl ?_|refine ab rfl ?_|refine wO rfl rfl ?_)
    refine VO.cond rfl ⟨by omega,by omega⟩ ?_
    refine wV rfl ?_
    (repeat first|refine wN ?_|refine wP rfl ?_|refine aa rfl ?_|refine ab rfl ?_|refine wO rfl rfl ?_)
    refine VO.read rfl [.bool e.2.2.1,.slice ap e.2.2.2.1.length ac,.bool e.2.2.2.2.1,.slice ar e.2.2.2.2.2.length ad] rfl (ct hc 2 _ ⟨[],rfl⟩) (wV rfl ?_)
    (repeat first|refine wN ?_|refine wP rfl ?_|refine aa rfl ?_|refine ab rfl ?_|refine wO rfl rfl ?_)
    refine VO.call rfl rfl (fk Tryz.func72) (fun dC gu eu=>(bW _ _ (R.bl.q - FM (v:Int) yy (us.take z)) e.2.2.q 30000000 kk dC ho.k ((ot.kp (Kp.of (U:=UU) eu)).pz uX) (by omega) (by omega)).mono ?_)
    rintro e w2 ⟨r2,rfl,q2,bm⟩
    obtain ⟨s2,p2,n2,c2,t2,y2,m2,d2,rfl⟩:=q2.form
    refine ⟨_,rfl,bm,fun fZ _ bb2=>wV rfl ?_⟩
    (repeat first|refine wN ?_|refine wP rfl ?_|refine aa rfl ?_|refine ab rfl ?_|refine wO rfl rfl ?_)
    have Cw:R.bl.q - FM (v:Int) yy (us.take z) - e.2.2.q=R.bl.q - FM (v:Int) yy (us.take (z + 1)):=by
     rw [Al,show pq (true && true) e.2.2=e.2.2.q from rfl];grind
    have hkz:jQ kk + cX kk (z + 1) + 1≤30000000:=kk_le hk (by omega)
    have hrs:dV (R.bl.q - FM (v:Int) yy (us.take (z + 1))) 30000000:=((hdraw.pz hdfew).Ak.sub (hsz (z + 1) (by omega))).mono hkz
    refine VS.back (n - (z + 1)) (by omega) ⟨_,_,?_,?_,?_,?_,⟨z + 1,_,_,_,_,_,_,_,_,by omega,rfl,rfl,rfl,(q2.cast Cw).ki hrs⟩⟩
    ·refine ⟨rfl,rfl,rfl,rfl,rfl,?_,trivial⟩
     rw [←bX (i:=z) (by omega)];rfl
    ·(repeat first|exact trivial|refine ⟨rfl,?_⟩)
    ·rfl
    ·(repeat first|exact trivial|refine ⟨aF.lit rfl,?_⟩|refine ⟨aF.vals _,?_⟩)
   ·refine VS.bu rfl (decide_eq_false hy) ?_
    rw [decide_eq_false hy,show pq (true && false) e.2.2=0 from rfl,Rat.add_zero] at Al
    (repeat first|refine wN ?_|refine wP rfl ?_|refine aa rfl ?_|refine ab rfl ?_|refine wO rfl rfl ?_)
    refine VS.back (n - (z + 1)) (by omega) ⟨_,_,?_,?_,?_,?_,⟨z + 1,_,_,_,_,_,_,_,_,by omega,rfl,rfl,rfl,Al▸ho.k⟩⟩
    ·refine ⟨rfl,rfl,rfl,rfl,rfl,?_,trivial⟩
     rw [←bX (i:=z) (by omega)];rfl
    ·(repeat first|exact trivial|refine ⟨rfl,?_⟩)
    ·rfl
    ·(repeat first|exact trivial|refine ⟨aF.lit rfl,?_⟩|refine ⟨aF.vals _,?_⟩)
  ·rw [decide_eq_false hv,show ∀ b,pq (false && b) e.2.2=0 from fun _=>rfl,Rat.add_zero] at Al
   refine VO.fix 30 rfl (congrArg (fun b=>AV.val (.bool b)) (decide_eq_false hv)) ?_
   (repeat first|refine wN ?_|refine wP rfl ?_|refine aa rfl ?_|refine ab rfl ?_|refine wO rfl rfl ?_)
   refine VS.back (n - (z + 1)) (by omega) ⟨_,_,?_,?_,?_,?_,⟨z + 1,_,_,_,_,_,_,_,_,by omega,rfl,rfl,rfl,Al▸ho.k⟩⟩
   ·refine ⟨rfl,rfl,rfl,rfl,rfl,?_,trivial⟩
    rw [←bX (i:=z) (by omega)];rfl
   ·(repeat first|exact trivial|refine ⟨rfl,?_⟩)
   ·rfl
   ·(repeat first|exact trivial|refine ⟨aF.lit rfl,?_⟩|refine ⟨aF.vals _,?_⟩)
 ·refine VS.bu rfl (decide_eq_false (fun e=>hlt (Int.ofNat_lt.1 e))) ?_
  (repeat first|refine wN ?_|refine wP rfl ?_|refine aa rfl ?_|refine ab rfl ?_|refine wO rfl rfl ?_)
  refine VS.ret (aL _ _) rfl rfl (fun wz kz bz=> ?_)
  rw [List.take_of_length_le (by omega)] at ho
  exact ⟨_,rfl,ho.kp kz,bz⟩
def AQ (kn:Nat) (X:List nA×List mR):Prop:=∀ e∈X.2,∃ a b:Nat,e.1=(a:Int)∧e.2.1=(b:Int)∧a≤X.1.length∧b≤100∧∀ (v:Nat) (R:nA),b - kn≤v→v < a→X.1[v]? =some R→¬ dK (R.bl.q - FM (v:Int) ((b:Int) + 1) X.2) 0 > 0
set_option maxRecDepth 4000 in
set_option maxHeartbeats 4000000 in
theorem FO (vr r u:Value) (S F:RR) (kn:Nat) (X:List nA×List mR) (kk:Nat) (w:World) (hS:jl w vr S F (kn:Int)) (h:AP kk w r u X) (hk:kk≤10000) (hn:X.2.length≤1000) (rh:kn≤40) (hO:AQ kn X):
  Calls Tryz.prog 17 #[vr,.agg #[r,u]] w fun o w'=>o=.returned (.bool true)∧aj w w':=by
 have hled:=h
 obtain ⟨us,nw⟩:∃ us,X.2=us:=⟨_,rfl⟩
 obtain ⟨hr,h2⟩:=h
 unfold AQ at hO
 rw [nw] at h2 hO
 obtain ⟨rp,rc,rfl,hrc,hrm⟩:=hr.form
 obtain ⟨q,c,rfl,eT,eV⟩:=h2.form
 obtain ⟨n,ER⟩:∃ n,n=us.length:=⟨_,rfl⟩
 obtain ⟨nr,pZ⟩:∃ n,n=X.1.length:=⟨_,rfl⟩
 rw [←ER] at h2 eT hled
 rw [←ER,←pZ]
 rw [←pZ] at hr hrc hled
 obtain ⟨sp,sc,sr,sd,fp,fc,fr,fd,rfl,-,-⟩:=hS
 refine aw (C:=cj Tryz.prog w _) (args:=[_,_]) Tryz.func17 rfl Tryz.ntmps17 (Nat.le_of_ble_eq_true rfl) ?_
 (repeat first|refine wN ?_|refine wP rfl ?_|refine aa rfl ?_|refine ab rfl ?_|refine wO rfl rfl ?_)
 refine VS.loop (J:=fun m L M w'=>∃ (z:Nat),z≤n∧m=n - z∧L=[(2,.box 2 0),(3,.box 3 0),(5,.val (.int .i64 (z:Int)))]∧
   M=[(2,(Jp,([.bool S.1,.slice sp S.2.1.length sc,.bool S.2.2.1,.slice sr S.2.2.2.length sd,.bool F.1,.slice fp F.2.1.length fc,.bool F.2.2.1,.slice fr F.2.2.2.length fd,.int .i64 (kn:Int)]:List Value).map .val)),(3,(nx,([.slice rp nr rc,.slice q n c]:List Value).map .val))]) n
  ⟨_,_,?_,?_,?_,?_,⟨0,by omega,rfl,rfl,rfl⟩⟩ ?_
 ·(repeat first|exact trivial|refine ⟨rfl,?_⟩)
 ·(repeat first|exact trivial|refine ⟨rfl,?_⟩)
 ·rfl
 ·(repeat first|exact trivial|refine ⟨aF.lit rfl,?_⟩|refine ⟨aF.vals _,?_⟩)
 rintro m L M w9 ⟨z,hz,rfl,rfl,rfl⟩
 (repeat first|refine wN ?_|refine wP rfl ?_|refine aa rfl ?_|refine ab rfl ?_|refine wO rfl rfl ?_)
 by_cases hlt:z < n
 ·obtain ⟨e,he⟩:∃ e,us[z]? =some e:=⟨_,List.getElem?_eq_getElem (by omega)⟩
  obtain ⟨a',b',hea,heb,hal,hbl,hOe⟩:=hO e (List.mem_of_getElem? he)
  obtain ⟨b,off,ig,mj,hc,⟨_,rfl,⟨ap,ac,ar,ad,rfl,ot⟩,uX⟩⟩:=h2.at he
  subst mj
  rw [hea,heb] at hc
  refine VS.bE rfl (decide_eq_true (Int.ofNat_lt.2 hlt)) ?_
  (repeat first|refine wN ?_|refine wP rfl ?_|refine aa rfl ?_|refine ab rfl ?_|refine wO rfl rfl ?_)
  refine VO.cond rfl ⟨by omega,by omega⟩ ?_
  refine wV rfl ?_
  (repeat first|refine wN ?_|refine wP rfl ?_|refine aa rfl ?_|refine ab rfl ?_|refine wO rfl rfl ?_)
  refine VO.read rfl [.int .i64 (a':Int),.int .i64 (b':Int),.bool e.2.2.1,.slice ap e.2.2.2.1.length ac,.bool e.2.2.2.2.1,.slice ar e.2.2.2.2.2.length ad] rfl (ct hc 0 _ ⟨[],rfl⟩) (wV rfl ?_)
  (repeat first|refine wN ?_|refine wP rfl ?_|refine aa rfl ?_|refine ab rfl ?_|refine wO rfl rfl ?_)
  have hmx:rH 0 [IntKind.i64.wrap ((b':Int) - (kn:Int))]=((b' - kn:Nat):Int):=by
   rw [IntKind.wrap_i64]
   show (if _ > (0:Int) then _ else (0:Int))=_
   split <;> omega
  refine VS.fix 7 rfl (congrArg (fun z=>AV.val (.int .i64 z)) hmx) ?_
  refine VS.loop (J:=fun m L M w'=>∃ (v:Nat),b' - kn≤v∧m=a' - v∧L=[(2,.box 2 0),(3,.box 3 0),(5,.val (.int .i64 (z:Int))),(6,.box 6 0),(7,.val (.int .i64 (v:Int)))]∧
    M=[(2,(Jp,([.bool S.1,.slice sp S.2.1.length sc,.bool S.2.2.1,.slice sr S.2.2.2.length sd,.bool F.1,.slice fp F.2.1.length fc,.bool F.2.2.1,.slice fr F.2.2.2.length fd,.int .i64 (kn:Int)]:List Value).map .val)),(3,(nx,([.slice rp nr rc,.slice (some ⟨b,off,none⟩) n c]:List Value).map .val)),(6,(et,([.int .i64 (a':Int),.int .i64 (b':Int),.bool e.2.2.1,.slice ap e.2.2.2.1.length ac,.bool e.2.2.2.2.1,.slice ar e.2.2.2.2.2.length ad]:List Value).map .val))]) (a' - (b' - kn))
   ⟨_,_,?_,?_,?_,?_,⟨b' - kn,Nat.le_refl _,rfl,rfl,rfl⟩⟩ ?_
  ·(repeat first|exact trivial|refine ⟨rfl,?_⟩)
  ·(repeat first|exact trivial|refine ⟨rfl,?_⟩)
  ·rfl
  ·(repeat first|exact trivial|refine ⟨aF.lit rfl,?_⟩|refine ⟨aF.vals _,?_⟩)
  rintro m L M w8 ⟨v,hv,rfl,rfl,rfl⟩
  (repeat first|refine wN ?_|refine wP rfl ?_|refine aa rfl ?_|refine ab rfl ?_|refine wO rfl rfl ?_)
  by_cases hva:v < a'
  ·obtain ⟨R,hR⟩:∃ R,X.1[v]? =some R:=⟨_,List.getElem?_eq_getElem (by omega)⟩
   obtain ⟨sg,jn⟩:∃ sg,dK (R.bl.q - FM (v:Int) ((b':Int) + 1) X.2) 0=sg:=⟨_,rfl⟩
   have hno:=hOe v R hv hva hR
   rw [nw] at jn
   rw [jn] at hno
   refine VS.bE rfl (decide_eq_true (Int.ofNat_lt.2 hva)) ?_
   (repeat first|refine wN ?_|refine wP rfl ?_|refine aa rfl ?_|refine ab rfl ?_|refine wO rfl rfl ?_)
   refine VO.fix 36 rfl (congrArg (fun z=>AV.val (.int .i64 z)) (show IntKind.i64.wrap ((b':Int) + 1)=(b':Int) + 1 by rw [IntKind.wrap_i64];omega)) ?_
   refine VO.call rfl rfl (fk Tryz.func46) (fun dC gu eu=>(Jv _ _ X v ((b':Int) + 1) R kk dC (hled.bj eu) hR hk hn).mono ?_)
   rintro e w2 ⟨r2,rfl,q2,bm⟩
   obtain ⟨s2,p2,n2,c2,t2,y2,m2,d2,rfl⟩:=q2.form
   refine ⟨_,rfl,bm,fun fZ _ bb2=>wV rfl ?_⟩
   (repeat first|refine wN ?_|refine wP rfl ?_|refine aa rfl ?_|refine ab rfl ?_|refine wO rfl rfl ?_)
   rw [nw] at q2
   refine VO.call rfl rfl (fk Tryz.func13) (fun gv gY gV=>(bS _ _ 30000000 gv q2.k (by omega) sg jn).mono ?_)
   rintro e w3 ⟨rfl,cD⟩
   skip
   refine ⟨_,rfl,cD,fun kt _ bb3=>wV rfl ?_⟩
   (repeat first|refine wN ?_|refine wP rfl ?_|refine aa rfl ?_|refine ab rfl ?_|refine wO rfl rfl ?_)
   refine VS.bu rfl (decide_eq_false hno) ?_
   (repeat first|refine wN ?_|refine wP rfl ?_|refine aa rfl ?_|refine ab rfl ?_|refine wO rfl rfl ?_)
   refine VS.back (a' - (v + 1)) (by omega) ⟨_,_,?_,?_,?_,?_,⟨v + 1,by omega,rfl,rfl,rfl⟩⟩
   ·refine ⟨rfl,rfl,rfl,rfl,?_,trivial⟩
    rw [←bX (i:=v) (by omega)];rfl
   ·(repeat first|exact trivial|refine ⟨rfl,?_⟩)
   ·rfl
   ·(repeat first|exact trivial|refine ⟨aF.lit rfl,?_⟩|refine ⟨aF.vals _,?_⟩)
  ·refine VS.bu rfl (decide_eq_false (fun e=>hva (Int.ofNat_lt.1 e))) ?_
   (repeat first|refine wN ?_|refine wP rfl ?_|refine aa rfl ?_|refine ab rfl ?_|refine wO rfl rfl ?_)
   refine VS.back (n - (z + 1)) (by omega) ⟨_,_,?_,?_,?_,?_,⟨z + 1,by omega,rfl,rfl,rfl⟩⟩
   ·refine ⟨rfl,rfl,?_,trivial⟩
    rw [←bX (i:=z) (by omega)];rfl
   ·(repeat first|exact trivial|refine ⟨rfl,?_⟩)
   ·rfl
   ·(repeat first|exact trivial|refine ⟨aF.lit rfl,?_⟩|refine ⟨aF.vals _,?_⟩)
 ·refine VS.bu rfl (decide_eq_false (fun e=>hlt (Int.ofNat_lt.1 e))) ?_
  (repeat first|refine wN ?_|refine wP rfl ?_|refine aa rfl ?_|refine ab rfl ?_|refine wO rfl rfl ?_)
  refine VS.ret (aL _ _) rfl rfl (fun wz kz bz=> ?_)
  exact ⟨rfl,bz⟩
end Go.Proofs.YtabalinjfgcfeaaGreat
namespace Go.Proofs.YtabalinjfgcfeaaGreat
open Go.RowKit
theorem jR (x:Rat) (l:List Rat):gW (x::l)=x + gW l:=by
 unfold gW
 rw [List.foldl_cons]
 have:∀ (l:List Rat) (a b:Rat),l.foldl (·+ ·) (a + b)=a + l.foldl (·+ ·) b:=by
  intro l
  induction l with
  | nil=>intro a b;rfl
  | cons y r ih=>intro a b;rw [List.foldl_cons,List.foldl_cons,Rat.add_assoc,ih]
 rw [show (0:Rat) + x=x + 0 by grind,this]
theorem Dz (l m:List Rat):gW (l++m)=gW l + gW m:=by
 induction l with
 | nil=>show gW m=0 + gW m;grind
 | cons x l ih=>rw [List.cons_append,jR,jR,ih];grind
def gs (f:Uq→Rat) (us:List Uq):Rat:=gW (us.map f)
theorem MQ (f:Uq→Rat):gs f []=0:=rfl
theorem pD (f:Uq→Rat) (e:Uq) (us:List Uq):gs f (e::us)=f e + gs f us:=by unfold gs;rw [List.map_cons,jR]
theorem mh (f:Uq→Rat) (a b:List Uq):gs f (a++b)=gs f a + gs f b:=by unfold gs;rw [List.map_append,Dz]
theorem pG {f:Uq→Rat}:∀ {us:List Uq},(∀ e∈us,f e=0)→gs f us=0
 | [],_=>rfl
 | e::us,h=>by rw [pD,h e (by simp),pG (fun x hx=>h x (by simp [hx]))];grind
theorem DA {f g:Uq→Rat}:∀ {us:List Uq},(∀ e∈us,f e=g e)→gs f us=gs g us
 | [],_=>rfl
 | e::us,h=>by rw [pD,pD,h e (by simp),DA (fun x hx=>h x (by simp [hx]))]
theorem Ha {f:Uq→Rat}:∀ {us:List Uq},(∀ e∈us,0≤f e)→0≤gs f us
 | [],_=>Rat.le_refl
 | e::us,h=>by rw [pD];have:=h e (by simp);have:=Ha (f:=f) (us:=us) (fun x hx=>h x (by simp [hx]));grind
def vn (v:Nat) (e:Uq):Rat:=if e.1=v then e.2.2 else 0
def bf (v y:Nat) (e:Uq):Rat:=if e.1=v∧e.2.1 < y then e.2.2 else 0
def Lex (a b:Uq):Prop:=a.2.1 < b.2.1∨(a.2.1=b.2.1∧a.1 < b.1)
theorem vO (y:Nat):∀ {k:Nat} {l:List Rat} {m:Rat} {e:Uq},e∈tC y (ck k l) m→e.2.1=y∧0 < e.2.2∧k≤e.1∧e.1 < k + l.length
 | k,[],m,e,h=>by cases h
 | k,x::l,m,e,h=>by
   have h':e∈(if 0 < ai x m then [(k,y,ai x m)] else [])++tC y (ck (k + 1) l) (m - ai x m):=h
   rcases List.mem_append.1 h' with h1 | h1
   ·by_cases hp:0 < ai x m
    ·rw [if_pos hp,List.mem_singleton] at h1
     subst h1
     exact ⟨rfl,hp,Nat.le_refl _,by show k < k + (x::l).length;simp⟩
    ·rw [if_neg hp] at h1;cases h1
   ·obtain ⟨a,b,c,d⟩:=vO y h1
    exact ⟨a,b,by omega,by rw [List.length_cons];omega⟩
theorem AR {a b:Rat} (h:0≤a) (k:0≤b):0≤ai a b:=by rcases cR a b with ⟨e,_⟩ | ⟨e,_⟩ <;> rw [e] <;> assumption
theorem tb_head {y k v:Nat} {r:Rat} (hr:0≤r):gs (vn v) (if 0 < r then [((k,y,r):Uq)] else [])=if k=v then r else 0:=by
 by_cases hp:0 < r
 ·rw [if_pos hp,pD,MQ]
  show (if k=v then r else 0) + 0=_
  grind
 ·rw [if_neg hp,MQ]
  have:r=0:=by grind
  rw [this];simp
theorem MR (y:Nat):∀ {k:Nat} {l:List Rat} {m:Rat} {i:Nat} {x:Rat},(∀ z∈l,0≤z)→0≤m→((sR (ck k l) m).map (·.2))[i]? =some x→∃ z,l[i]? =some z∧x=z - gs (vn (k + i)) (tC y (ck k l) m)
 | k,[],m,i,x,_,_,h=>by cases h
 | k,z::l,m,i,x,hn,hm,h=>by
   have hz:=hn z (by simp)
   have hr:=AR hz hm
   have DY:=cd z m
   have e1:tC y (ck k (z::l)) m=(if 0 < ai z m then [((k,y,ai z m):Uq)] else [])++tC y (ck (k + 1) l) (m - ai z m):=rfl
   have e2:(sR (ck k (z::l)) m).map (·.2)=(z - ai z m)::(sR (ck (k + 1) l) (m - ai z m)).map (·.2):=rfl
   rw [e2] at h
   rw [e1,mh,tb_head hr]
   cases i with
   | zero=>
     rw [List.getElem?_cons_zero] at h
     cases h
     refine ⟨z,rfl,?_⟩
     have:gs (vn (k + 0)) (tC y (ck (k + 1) l) (m - ai z m))=0:=pG fun e he=>by
      have:=vO y he
      unfold vn
      rw [if_neg (by omega)]
     rw [this,if_pos (Nat.add_zero k).symm];grind
   | succ i=>
     rw [List.getElem?_cons_succ] at h
     obtain ⟨z',DN,e⟩:=MR y (fun z hz=>hn z (by simp [hz])) (by grind) h
     refine ⟨z',by rw [List.getElem?_cons_succ];exact DN,?_⟩
     rw [e,if_neg (by omega),show k + 1 + i=k + (i + 1) by omega];grind
theorem Hb (y:Nat):∀ {k:Nat} {l:List Rat} {m:Rat},(tC y (ck k l) m).Pairwise Lex
 | k,[],m=>List.Pairwise.nil
 | k,z::l,m=>by
   have e1:tC y (ck k (z::l)) m=(if 0 < ai z m then [((k,y,ai z m):Uq)] else [])++tC y (ck (k + 1) l) (m - ai z m):=rfl
   rw [e1,List.pairwise_append]
   refine ⟨?_,Hb y,fun a ha b hb=> ?_⟩
   ·split
    ·exact List.pairwise_singleton _ _
    ·exact List.Pairwise.nil
   ·obtain ⟨b1,_,b2,_⟩:=vO y hb
    split at ha
    ·rw [List.mem_singleton] at ha
     subst ha
     exact .inr ⟨b1.symm,by show k < b.1;omega⟩
    ·cases ha
theorem MS:∀ {t:List Vq} {m:Rat},(∀ p∈t,0≤p.2)→0≤m→0≤Ap t m∧Ap t m≤m
 | [],m,_,hm=>⟨Rat.le_refl,hm⟩
 | p::t,m,h,hm=>by
   have hr:=AR (h p (by simp)) hm
   have DY:=cd p.2 m
   obtain ⟨a,b⟩:=MS (t:=t) (m:=m - ai p.2 m) (fun x hx=>h x (by simp [hx])) (by grind)
   rw [oH]
   exact ⟨by grind,by grind⟩
theorem MT (y:Nat):∀ {k:Nat} {l:List Rat} {m:Rat} {e:Uq} {i:Nat} {x:Rat},(∀ z∈l,0≤z)→0≤m→e∈tC y (ck k l) m→k + i < e.1→((sR (ck k l) m).map (·.2))[i]? =some x→x=0
 | k,[],m,e,i,x,_,_,he,_,_=>by cases he
 | k,z::l,m,e,i,x,hn,hm,he,hi,hx=>by
   have hz:=hn z (by simp)
   have hr:=AR hz hm
   have DY:=cd z m
   have e2:(sR (ck k (z::l)) m).map (·.2)=(z - ai z m)::(sR (ck (k + 1) l) (m - ai z m)).map (·.2):=rfl
   have DW:e∈(if 0 < ai z m then [((k,y,ai z m):Uq)] else [])++tC y (ck (k + 1) l) (m - ai z m):=he
   rw [e2] at hx
   have zS:e∈tC y (ck (k + 1) l) (m - ai z m):=by
    rcases List.mem_append.1 DW with h1 | h1
    ·split at h1
     ·rw [List.mem_singleton] at h1;subst h1;exact absurd hi (by show ¬ k + i < k;omega)
     ·cases h1
    ·exact h1
   cases i with
   | zero=>
     rw [List.getElem?_cons_zero] at hx
     cases hx
     rcases cR z m with ⟨e,_⟩ | ⟨e,_⟩
     ·rw [e];grind
     ·rw [e,show m - m=(0:Rat) by grind,(vI y (t:=ck (k + 1) l) (fun p hp=>hn _ (by simp [(jj hp).2.2]))).1] at zS
      cases zS
   | succ i=>
     rw [List.getElem?_cons_succ] at hx
     exact MT y (fun z hz=>hn z (by simp [hz])) (by grind) zS (by omega) hx
structure RowOk (S F:Rat) (e:Rat×Rat) (r:aN):Prop where
 lim:r.eJ=aD S F e.2
 alw:r.allowed=ai e.1 r.eJ
 den:r.bl=e.1 - r.allowed
 us0:0≤r.used
 us1:r.used≤r.eJ - r.allowed
 ded:r.bU=r.allowed + r.used
 ex0:0≤r.aZ
structure FP (S F:Rat) (kn d:Nat) (l:List (Rat×Rat)) (s:De):Prop where
 len:s.left.length=s.rows.length
 rln:s.rows.length=l.length
 cons:∀ (v:Nat) (x:Rat),s.left[v]? =some x→∃ r,s.rows[v]? =some r∧x=r.bl - r.aZ - gs (vn v) s.uses
 nn:∀ x∈s.left,0≤x
 row:∀ (i:Nat) (r:aN),s.rows[i]? =some r→∃ e,l[i]? =some e∧RowOk S F e r
 exp:∀ (i:Nat) (r:aN),s.rows.length≤i + kn + d→s.rows[i]? =some r→r.aZ=0
 use:∀ u∈s.uses,0 < u.2.2∧u.1 < u.2.1∧u.2.1≤u.1 + kn∧u.2.1 < s.rows.length
 sort:s.uses.Pairwise Lex
 old:∀ u∈s.uses,∀ (v:Nat) (r:aN),u.2.1≤v + kn→v < u.1→s.rows[v]? =some r→r.bl - gs (bf v (u.2.1 + 1)) s.uses≤0
theorem ti_exp {S F:Rat} {kn n:Nat} {l:List (Rat×Rat)} {s:De} (h:FP S F kn 1 l s) (hn:s.rows.length=n + 1):FP S F kn 0 l (LY kn n s):=by
 unfold LY
 by_cases hk:kn≤n
 ·rw [if_pos hk]
  obtain ⟨j,hj⟩:∃ j,j=n - kn:=⟨_,rfl⟩
  rw [←hj]
  have hlj:j < s.left.length:=by rw [h.len];omega
  obtain ⟨x,hx⟩:∃ x,s.left[j]? =some x:=⟨_,List.getElem?_eq_getElem hlj⟩
  have JW:s.left.getD j 0=x:=by rw [List.getD_eq_getElem?_getD,hx];rfl
  rw [JW]
  have gL:=h.nn x (List.mem_of_getElem? hx)
  refine ⟨?_,?_,fun v z hv=> ?_,fun z hz=> ?_,fun i r hr=> ?_,fun i r hi hr=> ?_,fun u hu=> ?_,h.sort,fun u hu v r h1 h2 hr=> ?_⟩
  ·show (s.left.set j 0).length=(s.rows.modify j _).length
   rw [List.length_set,List.length_modify];exact h.len
  ·show (s.rows.modify j _).length=_
   rw [List.length_modify];exact h.rln
  ·dsimp only at hv ⊢
   by_cases e:j=v
   ·subst e
    rw [List.getElem?_set_self hlj] at hv
    cases hv
    obtain ⟨r,hr,he⟩:=h.cons j x hx
    refine ⟨{ r with aZ:=x },by rw [xx rfl,hr];rfl,?_⟩
    have:=h.exp j r (by omega) hr
    show (0:Rat)=r.bl - x - _
    grind
   ·rw [List.getElem?_set_ne e] at hv
    obtain ⟨r,hr,he⟩:=h.cons v z hv
    exact ⟨r,by rw [sf e];exact hr,he⟩
  ·rcases List.mem_or_eq_of_mem_set hz with h' | h'
   ·exact h.nn z h'
   ·rw [h'];exact Rat.le_refl
  ·dsimp only at hr
   by_cases e:j=i
   ·rw [xx e] at hr
    obtain ⟨r',nd,rfl⟩:=Option.map_eq_some_iff.1 hr
    obtain ⟨y,hy,a⟩:=h.row i r' nd
    exact ⟨y,hy,a.lim,a.alw,a.den,a.us0,a.us1,a.ded,gL⟩
   ·rw [sf e] at hr
    exact h.row i r hr
  ·dsimp only at hr hi
   rw [List.length_modify] at hi
   rw [sf (by omega)] at hr
   exact h.exp i r (by omega) hr
  ·have:=h.use u hu
   show _∧_∧_∧_ < (s.rows.modify j _).length
   rw [List.length_modify];exact this
  ·dsimp only at hr ⊢
   by_cases e:j=v
   ·rw [xx e] at hr
    obtain ⟨r',nd,rfl⟩:=Option.map_eq_some_iff.1 hr
    exact h.old u hu v r' h1 h2 nd
   ·rw [sf e] at hr
    exact h.old u hu v r h1 h2 hr
 ·rw [if_neg hk]
  exact ⟨h.len,h.rln,h.cons,h.nn,h.row,fun i r hi hr=>h.exp i r (by omega) hr,h.use,h.sort,h.old⟩
theorem ti_year {S F:Rat} {kn:Nat} {l:List (Rat×Rat)} {s:De} (h:FP S F kn 0 l s) (y:Rat×Rat):FP S F kn 0 (l++[y]) (se S F kn s.rows.length s y):=by
 unfold se
 obtain ⟨n,hn⟩:∃ n,n=s.rows.length:=⟨_,rfl⟩
 rw [←hn]
 obtain ⟨lo,Bj⟩:∃ lo,lo=n - kn:=⟨_,rfl⟩
 obtain ⟨L,hL⟩:∃ L,L=aD S F y.2:=⟨_,rfl⟩
 obtain ⟨m,hm⟩:∃ m,m=L - ai y.1 L:=⟨_,rfl⟩
 have yp:0≤m:=by have:=cd y.1 L;grind
 have hlen:=h.len
 have rn:=h.rln
 obtain ⟨dl,iV⟩:∃ dl,dl=s.left.drop lo:=⟨_,rfl⟩
 have hdn:∀ z∈dl,0≤z:=fun z hz=>by rw [iV] at hz;exact h.nn _ (List.mem_of_mem_drop hz)
 have hdll:dl.length=n - lo:=by rw [iV,List.length_drop,hlen,hn]
 obtain ⟨t,ht⟩:∃ t,t=ck lo dl:=⟨_,rfl⟩
 have htn:∀ p∈t,0≤p.2:=fun p hp=>by rw [ht] at hp;exact hdn _ (jj hp).2.2
 have oQ:=MS htn yp
 rw [←Bj,←iV,←ht,←hL,←hm]
 obtain ⟨nu,hnu⟩:∃ nu,nu=tC n t m:=⟨_,rfl⟩
 have vC:∀ e∈nu,e.2.1=n∧0 < e.2.2∧lo≤e.1∧e.1 < n:=fun e he=>by
  rw [hnu,ht] at he
  obtain ⟨a,b,c,d⟩:=vO n he
  exact ⟨a,b,c,by rw [hdll] at d;omega⟩
 refine ti_exp (n:=n) ?_ (by show (s.rows++[_]).length=_;rw [List.length_append,←hn];rfl)
 obtain ⟨L1,hL1⟩:∃ L1,L1=s.left.take lo++(sR t m).map (·.2):=⟨_,rfl⟩
 have hL1l:L1.length=n:=by rw [hL1,List.length_append,List.length_take,List.length_map,Aq,ht,xw,hdll,hlen,←hn];omega
 have hR:Ar S F t y=⟨L,ai y.1 L,y.1 - ai y.1 L,Ap t m,ai y.1 L + Ap t m,0,0⟩:=by unfold Ar;rw [←hL,←hm]
 rw [←hnu,←hL1,hR]
 have hget:∀ (v:Nat) (x:Rat),L1[v]? =some x→∃ z,s.left[v]? =some z∧x=z - gs (vn v) nu∧(∀ e∈nu,n≤v + kn→v < e.1→x=0):=by
  intro v x hv
  rw [hL1] at hv
  have JM:(s.left.take lo).length=lo:=by rw [List.length_take,hlen,←hn];omega
  by_cases hvl:v < lo
  ·rw [List.getElem?_append_left (by omega),List.getElem?_take_of_lt hvl] at hv
   refine ⟨x,hv,?_,fun e he h1 h2=>by omega⟩
   rw [pG (fun e he=>by have:=vC e he;unfold vn;rw [if_neg (by omega)])];grind
  ·rw [List.getElem?_append_right (by omega),JM] at hv
   obtain ⟨z,hz,e⟩:=MR n (by exact hdn) yp (by rw [←ht];exact hv)
   refine ⟨z,?_,?_,fun e' DW h1 h2=> ?_⟩
   ·rw [iV,List.getElem?_drop,show lo + (v - lo)=v by omega] at hz;exact hz
   ·rw [hnu,ht]
    rw [show lo + (v - lo)=v by omega] at e
    exact e
   ·rw [hnu,ht] at DW
    exact MT n (i:=v - lo) hdn yp DW (by omega) (by rw [←ht];exact hv)
 have hnn1:∀ x∈L1,0≤x:=fun x hx=>by
  rw [hL1] at hx
  rcases List.mem_append.1 hx with h' | h'
  ·exact h.nn x (List.mem_of_mem_take h')
  ·obtain ⟨p,hp,rfl⟩:=List.mem_map.1 h'
   exact Fv p hp
 have hold:∀ (v:Nat) (r:aN),v < n→(s.rows++[(⟨L,ai y.1 L,y.1 - ai y.1 L,Ap t m,ai y.1 L + Ap t m,0,0⟩:aN)])[v]? =some r→s.rows[v]? =some r:=fun v r hv hr=>by
  rwa [List.getElem?_append_left (by omega)] at hr
 have Cw:∀ (v:Nat) (r:aN),n≤v→(s.rows++[(⟨L,ai y.1 L,y.1 - ai y.1 L,Ap t m,ai y.1 L + Ap t m,0,0⟩:aN)])[v]? =some r→v=n∧r=⟨L,ai y.1 L,y.1 - ai y.1 L,Ap t m,ai y.1 L + Ap t m,0,0⟩:=fun v r hv hr=>by
  have hlt:=(List.getElem?_eq_some_iff.1 hr).1
  rw [List.length_append,List.length_singleton,←hn] at hlt
  have hvn:v=n:=by omega
  subst hvn
  rw [List.getElem?_append_right (by omega),←hn,Nat.sub_self] at hr
  exact ⟨rfl,(Option.some.inj hr).symm⟩
 refine ⟨?_,?_,fun v x hv=> ?_,fun x hx=> ?_,fun i r hr=> ?_,fun i r hi hr=> ?_,fun u hu=> ?_,?_,fun u hu v r h1 h2 hr=> ?_⟩
 ·show (L1++[_]).length=(s.rows++[_]).length
  rw [List.length_append,List.length_append,hL1l,hn];rfl
 ·show (s.rows++[_]).length=(l++[y]).length
  rw [List.length_append,List.length_append,rn];rfl
 ·dsimp only at hv ⊢
  by_cases hvn:v < n
  ·rw [List.getElem?_append_left (by omega)] at hv
   obtain ⟨z,hz,e,_⟩:=hget v x hv
   obtain ⟨r,hr,e'⟩:=h.cons v z hz
   refine ⟨r,by rw [List.getElem?_append_left (by omega)];exact hr,?_⟩
   rw [mh];grind
  ·have hlt:=(List.getElem?_eq_some_iff.1 hv).1
   rw [List.length_append,List.length_singleton,hL1l] at hlt
   have hvn:v=n:=by omega
   subst hvn
   rw [List.getElem?_append_right (by omega),hL1l,Nat.sub_self] at hv
   cases hv
   refine ⟨_,by rw [List.getElem?_append_right (by omega),←hn,Nat.sub_self];rfl,?_⟩
   rw [mh,pG (us:=s.uses) (fun e he=>by have:=h.use e he;unfold vn;rw [if_neg (by omega)]),pG (us:=nu) (fun e he=>by have:=vC e he;unfold vn;rw [if_neg (by omega)])]
   show _=y.1 - ai y.1 L - 0 - _
   grind
 ·rcases List.mem_append.1 hx with h' | h'
  ·exact hnn1 x h'
  ·rw [List.mem_singleton.1 h']
   have:=di y.1 L
   grind
 ·dsimp only at hr
  by_cases tU:i < n
  ·obtain ⟨e,he,a⟩:=h.row i r (hold i r tU hr)
   exact ⟨e,by rw [List.getElem?_append_left (by omega)];exact he,a⟩
  ·obtain ⟨rfl,rfl⟩:=Cw i r (by omega) hr
   refine ⟨y,by rw [List.getElem?_append_right (by omega),←rn,←hn,Nat.sub_self];rfl,hL,rfl,rfl,oQ.1,by show Ap t m≤L - ai y.1 L;rw [←hm];exact oQ.2,rfl,Rat.le_refl⟩
 ·dsimp only at hr hi
  rw [List.length_append,List.length_singleton,←hn] at hi
  by_cases tU:i < n
  ·exact h.exp i r (by omega) (hold i r tU hr)
  ·obtain ⟨rfl,rfl⟩:=Cw i r (by omega) hr
   rfl
 ·show _∧_∧_∧_ < (s.rows++[_]).length
  rw [List.length_append,List.length_singleton,←hn]
  rcases List.mem_append.1 hu with h' | h'
  ·have:=h.use u h'
   exact ⟨this.1,this.2.1,this.2.2.1,by omega⟩
  ·have:=vC u h'
   exact ⟨this.2.1,by omega,by omega,by omega⟩
 ·show (s.uses++nu).Pairwise Lex
  rw [List.pairwise_append]
  refine ⟨h.sort,by rw [hnu,ht];exact Hb n,fun a ha b hb=>.inl ?_⟩
  have:=h.use a ha
  have:=vC b hb
  omega
 ·dsimp only at hr hu ⊢
  rcases List.mem_append.1 hu with h' | h'
  ·have hun:=h.use u h'
   rw [mh,pG (us:=nu) (fun e he=>by have:=vC e he;unfold bf;rw [if_neg (by omega)])]
   have:=h.old u h' v r h1 h2 (hold v r (by omega) hr)
   grind
  ·have hun:=vC u h'
   have hvn:v < n:=by omega
   obtain ⟨x,hx⟩:∃ x,L1[v]? =some x:=⟨_,List.getElem?_eq_getElem (by omega)⟩
   obtain ⟨z,hz,e,h0⟩:=hget v x hx
   have gL:=h0 u h' (by omega) h2
   obtain ⟨r',nd,e'⟩:=h.cons v z hz
   have jw:=hold v r hvn hr
   rw [nd] at jw
   cases jw
   have hex:=h.exp v _ (by omega) nd
   have hbv:gs (bf v (u.2.1 + 1)) (s.uses++nu)=gs (vn v) (s.uses++nu):=DA fun e he=>by
    have:e.2.1 < u.2.1 + 1:=by
     rcases List.mem_append.1 he with h'' | h''
     ·have:=h.use e h'';omega
     ·have:=vC e h'';omega
    unfold bf vn
    by_cases hev:e.1=v
    ·rw [if_pos ⟨hev,this⟩,if_pos hev]
    ·rw [if_neg (fun x=>hev x.1),if_neg hev]
   rw [hbv,mh]
   grind
theorem MU (S F:Rat) (kn:Nat) (l:List (Rat×Rat)):FP S F kn 0 l (runT S F kn l):=by
 have key:∀ (l p:List (Rat×Rat)) (s:De),FP S F kn 0 p s→FP S F kn 0 (p++l) (l.foldl (fun s y=>se S F kn s.rows.length s y) s):=by
  intro l
  induction l with
  | nil=>intro p s h;rw [List.append_nil];exact h
  | cons y l ih=>
    intro p s h
    have:=ih (p++[y]) _ (ti_year h y)
    rwa [List.append_assoc] at this
 have:=key l [] ⟨[],[],[]⟩ ⟨rfl,rfl,fun v x hx=>(by cases hx),fun x hx=>(by cases hx),fun i r hr=>(by cases hr),fun i r _ hr=>(by cases hr),fun u hu=>(by cases hu),List.Pairwise.nil,fun u hu=>(by cases hu)⟩
 exact this
theorem clo_at {left:List Rat} {rows:List aN} (i:Nat):(eF (ck 0 left) rows)[i]? =match left[i]? with
  | some x=>(rows[i]?).map (fun r=>{ r with closing:=x })
  | none=>rows[i]? :=by
 rw [pt _ _ (xy 0 left)]
 cases hl:left[i]? with
 | none=>
   have:(ck 0 left).find? (fun p=>p.1 == i)=none:=by
    rw [List.find?_eq_none]
    intro p hp e
    obtain ⟨j,hj⟩:=List.mem_iff_getElem?.1 hp
    rw [pk] at hj
    obtain ⟨x,hx,rfl⟩:=Option.map_eq_some_iff.1 hj
    have:0 + j=i:=by simpa using e
    rw [show j=i by omega,hl] at hx
    cases hx
   rw [this]
 | some x=>
   have hm:(i,x)∈ck 0 left:=by
    apply List.mem_of_getElem? (i:=i)
    rw [pk,hl];simp
   cases hf:(ck 0 left).find? (fun p=>p.1 == i) with
   | none=>exact absurd (by simp) (List.find?_eq_none.1 hf _ hm)
   | some p=>
     have hp:=List.find?_some hf
     obtain ⟨j,hj⟩:=List.mem_iff_getElem?.1 (List.mem_of_find?_eq_some hf)
     rw [pk] at hj
     obtain ⟨x',hx,rfl⟩:=Option.map_eq_some_iff.1 hj
     have:0 + j=i:=by simpa using hp
     rw [show j=i by omega,hl] at hx
     cases hx
     rfl
theorem qR:∀ (q:List Vq) (r:List aN),(eF q r).length=r.length
 | [],_=>rfl
 | p::q,r=>by show (eF q _).length=_;rw [qR q,List.length_modify]
structure xN (S F:Rat) (kn:Nat) (l:List (Rat×Rat)) (x:List aN×List Uq):Prop where
 rln:x.1.length=l.length
 row:∀ (i:Nat) (r:aN),x.1[i]? =some r→∃ e,l[i]? =some e∧RowOk S F e r∧0≤r.closing∧gs (vn i) x.2 + r.aZ + r.closing=r.bl
 use:∀ u∈x.2,0 < u.2.2∧u.1 < u.2.1∧u.2.1≤u.1 + kn∧u.2.1 < l.length
 sort:x.2.Pairwise Lex
 old:∀ u∈x.2,∀ (v:Nat) (r:aN),u.2.1≤v + kn→v < u.1→x.1[v]? =some r→r.bl - gs (bf v (u.2.1 + 1)) x.2≤0
theorem AU {left:List Rat} {rows:List aN} {i:Nat} {r:aN} (hl:left.length=rows.length) (h:(eF (ck 0 left) rows)[i]? =some r):∃ r' x,rows[i]? =some r'∧left[i]? =some x∧r={ r' with closing:=x }:=by
 have hlt:=(List.getElem?_eq_some_iff.1 h).1
 rw [qR] at hlt
 obtain ⟨x,hx⟩:∃ x,left[i]? =some x:=⟨_,List.getElem?_eq_getElem (by omega)⟩
 rw [clo_at,hx] at h
 obtain ⟨r',nd,rfl⟩:=Option.map_eq_some_iff.1 h
 exact ⟨r',x,nd,hx,rfl⟩
theorem Hc (S F:Rat) (kn:Nat) (l:List (Rat×Rat)):xN S F kn l (pL S F kn l):=by
 rw [Fw]
 have h:=MU S F kn l
 unfold ledT
 generalize runT S F kn l=s at h
 refine ⟨by show (eF _ _).length=_;rw [qR];exact h.rln,fun i r hr=> ?_,fun u hu=> ?_,h.sort,fun u hu v r h1 h2 hr=> ?_⟩
 ·obtain ⟨r',x,nd,hx,rfl⟩:=AU h.len hr
  obtain ⟨e,he,a⟩:=h.row i r' nd
  obtain ⟨r2,jw,e2⟩:=h.cons i x hx
  rw [nd] at jw
  cases jw
  refine ⟨e,he,⟨a.lim,a.alw,a.den,a.us0,a.us1,a.ded,a.ex0⟩,h.nn x (List.mem_of_getElem? hx),?_⟩
  show gs (vn i) s.uses + r'.aZ + x=r'.bl
  rw [e2];grind
 ·have:=h.use u hu
  rw [h.rln] at this
  exact this
 ·obtain ⟨r',x,nd,hx,rfl⟩:=AU h.len hr
  exact h.old u hu v r' h1 h2 nd
end Go.Proofs.YtabalinjfgcfeaaGreat
namespace Go.Proofs.YtabalinjfgcfeaaGreat
open Go.RowKit
theorem Iz.ai {D:Nat} {a b:Rat} (h:Iz D a) (k:Iz D b):Iz D (ai a b):=by rcases cR a b with ⟨e,_⟩ | ⟨e,_⟩ <;> rw [e] <;> assumption
theorem tb_iz {D:Nat} (y:Nat):∀ {t:List Vq} {m:Rat},(∀ p∈t,Iz D p.2)→Iz D m→(∀ p∈sR t m,Iz D p.2)∧(∀ u∈tC y t m,Iz D u.2.2)∧Iz D (Ap t m)
 | [],m,_,_=>⟨fun p hp=>(by cases hp),fun u hu=>(by cases hu),Iz.zero⟩
 | p::t,m,h,hm=>by
   have hp:=h p (by simp)
   have hr:=hp.ai hm
   obtain ⟨a,b,c⟩:=tb_iz y (t:=t) (m:=m - ai p.2 m) (fun x hx=>h x (by simp [hx])) (hm.sub hr)
   refine ⟨fun q hq=> ?_,fun u hu=> ?_,hr.add c⟩
   ·rcases List.mem_cons.1 hq with rfl | hq
    ·exact hp.sub hr
    ·exact a q hq
   ·rcases List.mem_append.1 (show u∈(if 0 < ai p.2 m then [((p.1,y,ai p.2 m):Uq)] else [])++tC y t (m - ai p.2 m) from hu) with h1 | h1
    ·split at h1
     ·rw [List.mem_singleton.1 h1];exact hr
     ·cases h1
    ·exact b u h1
structure RowZ (D:Nat) (r:aN):Prop where
 lim:Iz D r.eJ
 alw:Iz D r.allowed
 den:Iz D r.bl
 us:Iz D r.used
 ded:Iz D r.bU
 ex:Iz D r.aZ
 clo:Iz D r.closing
structure Jw (D:Nat) (s:De):Prop where
 left:∀ x∈s.left,Iz D x
 use:∀ u∈s.uses,Iz D u.2.2
 row:∀ r∈s.rows,RowZ D r
theorem mem_modify {l:List aN} {i:Nat} {f:aN→aN} {r:aN} (h:r∈l.modify i f):r∈l∨∃ r'∈l,r=f r':=by
 obtain ⟨j,hj⟩:=List.mem_iff_getElem?.1 h
 by_cases e:i=j
 ·rw [xx e] at hj
  obtain ⟨r',nd,rfl⟩:=Option.map_eq_some_iff.1 hj
  exact .inr ⟨r',List.mem_of_getElem? nd,rfl⟩
 ·rw [sf e] at hj
  exact .inl (List.mem_of_getElem? hj)
theorem Jx {D:Nat} {S F:Rat} {kn:Nat} {s:De} (h:Jw D s) {y:Rat×Rat} (hL:Iz D (aD S F y.2)) (hy:Iz D y.1) (n:Nat):Jw D (se S F kn n s y):=by
 unfold se
 have hr:=hy.ai hL
 have hm:=hL.sub hr
 obtain ⟨t,ht⟩:∃ t,t=ck (n - kn) (s.left.drop (n - kn)):=⟨_,rfl⟩
 rw [←ht]
 obtain ⟨a,b,c⟩:=tb_iz n (t:=t) (m:=aD S F y.2 - ai y.1 (aD S F y.2)) (fun p hp=>by rw [ht] at hp;exact h.left _ (List.mem_of_mem_drop (jj hp).2.2)) hm
 have iM:Jw D ⟨(s.left.take (n - kn)++(sR t (aD S F y.2 - ai y.1 (aD S F y.2))).map (·.2))++[y.1 - ai y.1 (aD S F y.2)],s.rows++[Ar S F t y],s.uses++tC n t (aD S F y.2 - ai y.1 (aD S F y.2))⟩:=by
  refine ⟨fun x hx=> ?_,fun u hu=> ?_,fun r nd=> ?_⟩
  ·rcases List.mem_append.1 hx with h1 | h1
   ·rcases List.mem_append.1 h1 with h2 | h2
    ·exact h.left x (List.mem_of_mem_take h2)
    ·obtain ⟨p,hp,rfl⟩:=List.mem_map.1 h2
     exact a p hp
   ·rw [List.mem_singleton.1 h1];exact hy.sub hr
  ·rcases List.mem_append.1 hu with h1 | h1
   ·exact h.use u h1
   ·exact b u h1
  ·rcases List.mem_append.1 nd with h1 | h1
   ·exact h.row r h1
   ·rw [List.mem_singleton.1 h1]
    exact ⟨hL,hr,hy.sub hr,c,hr.add c,Iz.zero,Iz.zero⟩
 generalize (⟨(s.left.take (n - kn)++(sR t (aD S F y.2 - ai y.1 (aD S F y.2))).map (·.2))++[y.1 - ai y.1 (aD S F y.2)],s.rows++[Ar S F t y],s.uses++tC n t (aD S F y.2 - ai y.1 (aD S F y.2))⟩:De)=s1 at iM ⊢
 unfold LY
 split
 ·have hg:Iz D (s1.left.getD (n - kn) 0):=by
   rw [List.getD_eq_getElem?_getD]
   cases hx:s1.left[n - kn]? with
   | none=>exact Iz.zero
   | some x=>exact iM.left x (List.mem_of_getElem? hx)
  refine ⟨fun x hx=> ?_,iM.use,fun r nd=> ?_⟩
  ·rcases List.mem_or_eq_of_mem_set hx with h1 | h1
   ·exact iM.left x h1
   ·rw [h1];exact Iz.zero
  ·rcases mem_modify nd with h1 | ⟨r',h1,rfl⟩
   ·exact iM.row r h1
   ·have q:=iM.row r' h1
    exact ⟨q.lim,q.alw,q.den,q.us,q.ded,hg,q.clo⟩
 ·exact iM
theorem MV {D:Nat} {S F:Rat} {kn:Nat} {l:List (Rat×Rat)} (hl:∀ e∈l,Iz D (aD S F e.2)∧Iz D e.1):Jw D (runT S F kn l):=by
 have key:∀ (l:List (Rat×Rat)) (s:De),(∀ e∈l,Iz D (aD S F e.2)∧Iz D e.1)→Jw D s→Jw D (l.foldl (fun s y=>se S F kn s.rows.length s y) s):=by
  intro l
  induction l with
  | nil=>intro s _ h;exact h
  | cons y l ih=>intro s hl h;exact ih _ (fun e he=>hl e (by simp [he])) (Jx h (hl y (by simp)).1 (hl y (by simp)).2 _)
 exact key l _ hl ⟨fun x hx=>(by cases hx),fun x hx=>(by cases hx),fun x hx=>(by cases hx)⟩
theorem MW {v:Nat} {u:Uq}:∀ {us:List Uq},(∀ e∈us,0 < e.2.2)→u∈us→u.1=v→u.2.2≤gs (vn v) us
 | e::us,h,hu,hv=>by
   rw [pD]
   have h0:∀ x∈us,0≤vn v x:=fun x hx=>by
    have:=h x (by simp [hx])
    unfold vn;split <;> grind
   have:=Ha h0
   rcases List.mem_cons.1 hu with rfl | hu
   ·have:vn v u=u.2.2:=by unfold vn;rw [if_pos hv]
    grind
   ·have h1:=MW (fun x hx=>h x (by simp [hx])) hu hv
    have h2:0≤vn v e:=by
     have:=h e (by simp)
     unfold vn;split <;> grind
    grind
theorem led_sz {D kk:Nat} {M S F:Rat} {kn:Nat} {l:List (Rat×Rat)} (hM:xI D M S F kk l):LedSz kk (pL S F kn l):=by
 have sJ:=Hc S F kn l
 have hz:=MV (kn:=kn) (fun e he=>⟨(hM.el e he).1,(hM.el e he).2.2.1⟩)
 have qo:=MU S F kn l
 have hrz:∀ r∈(pL S F kn l).1,RowZ D r:=fun r hr=>by
  rw [Fw] at hr
  obtain ⟨i,hi⟩:=List.mem_iff_getElem?.1 hr
  obtain ⟨r',x,nd,hx,rfl⟩:=AU qo.len hi
  have q:=hz.row r' (List.mem_of_getElem? nd)
  exact ⟨q.lim,q.alw,q.den,q.us,q.ded,q.ex,hz.left x (List.mem_of_getElem? hx)⟩
 have hgn:∀ v,0≤gs (vn v) (pL S F kn l).2:=fun v=>Ha fun x hx=>by
  have:=(sJ.use x hx).1
  unfold vn;split <;> grind
 have oQ:∀ r∈(pL S F kn l).1,(0≤r.eJ∧r.eJ≤M)∧(-M≤r.allowed∧r.allowed≤M)∧(0≤r.bl∧r.bl≤M)∧(0≤r.used∧r.used≤M + M)∧(-M≤r.bU∧r.bU≤M)∧(0≤r.aZ∧r.aZ≤M)∧(0≤r.closing∧r.closing≤M):=fun r hr=>by
  obtain ⟨i,hi⟩:=List.mem_iff_getElem?.1 hr
  obtain ⟨e,he,a,hc,hs⟩:=sJ.row i r hi
  obtain ⟨b1,b2,b3,b4,b5⟩:=hM.el e (List.mem_of_getElem? he)
  have xV:=mK S F e.2
  have h1:=a.lim
  have h2:=a.alw
  have h3:=a.den
  have h4:=a.us0
  have h5:=a.us1
  have h6:=a.ded
  have h7:=a.ex0
  have hg:=hgn i
  rw [←h1] at xV b2
  rcases cR e.1 r.eJ with ⟨e',_⟩ | ⟨e',_⟩ <;> rw [e'] at h2 <;> refine ⟨⟨?_,?_⟩,⟨?_,?_⟩,⟨?_,?_⟩,⟨?_,?_⟩,⟨?_,?_⟩,⟨?_,?_⟩,?_,?_⟩ <;> grind
 have hM0:∀ r∈(pL S F kn l).1,0≤M:=fun r hr=>by have:=(oQ r hr).1;grind
 have hof:∀ x,0≤M→Iz D x→-M≤x→x≤M + M→dV x kk:=fun x h0 h h1 h2=>hM.sz x h (by grind) h2
 refine ⟨fun r hr=> ?_,fun u hu=> ?_⟩
 ·obtain ⟨b1,b2,b3,b4,b5,b6,b7⟩:=oQ r hr
  have q:=hrz r hr
  have h0:=hM0 r hr
  exact ⟨hof _ h0 q.lim (by grind) (by grind),hof _ h0 q.alw (by grind) (by grind),hof _ h0 q.den (by grind) (by grind),hof _ h0 q.us (by grind) (by grind),hof _ h0 q.ded (by grind) (by grind),hof _ h0 q.ex (by grind) (by grind),hof _ h0 q.clo (by grind) (by grind)⟩
 ·obtain ⟨c1,c2,c3,c4⟩:=sJ.use u hu
  obtain ⟨r,hr⟩:∃ r,(pL S F kn l).1[u.1]? =some r:=⟨_,List.getElem?_eq_getElem (by rw [sJ.rln];omega)⟩
  have h1:=MW (fun x hx=>(sJ.use x hx).1) hu rfl
  obtain ⟨e,he,a,hc,hs⟩:=sJ.row u.1 r hr
  have b:=oQ r (List.mem_of_getElem? hr)
  have h7:=a.ex0
  have h0:=hM0 r (List.mem_of_getElem? hr)
  have lO:Iz D u.2.2:=by rw [Fw] at hu;exact hz.use u hu
  exact hof _ h0 lO (by grind) (by grind)
theorem ld {a b:Rat} {c:Int} (h:dK a b=c):(a≤b→¬ c > 0)∧(b≤a→¬ c < 0)∧(a < b→c < 0)∧(b < a→c > 0)∧(a=b→c=0):=by
 subst h
 refine ⟨fun h=> ?_,fun h=> ?_,fun h=> ?_,fun h=> ?_,fun h=>gD h⟩
 ·have:=jG.2 h;omega
 ·have:=rX.2 h;omega
 ·by_cases h':dK a b≥0
  ·have:=rX.1 h';grind
  ·omega
 ·by_cases h':dK a b≤0
  ·have:=jG.1 h';grind
  ·omega
theorem MX (v:Nat) (us:List Uq):JS (v:Int) (us.map Dy)=gs (vn v) us:=by
 unfold JS gs
 rw [List.map_map]
 congr 1
 refine List.map_congr_left fun e _=> ?_
 show pq (decide ((e.1:Int)=(v:Int))) (na e.2.2)=vn v e
 unfold pq vn
 by_cases h:e.1=v
 ·rw [if_pos h,decide_eq_true (by omega),if_pos rfl,nb]
 ·rw [if_neg h,decide_eq_false (by omega),if_neg (by decide)]
theorem MY (v y:Nat) (us:List Uq):FM (v:Int) (y:Int) (us.map Dy)=gs (bf v y) us:=by
 unfold FM gs
 rw [List.map_map]
 congr 1
 refine List.map_congr_left fun e _=> ?_
 show pq (decide ((e.1:Int)=(v:Int)) && decide ((e.2.1:Int) < (y:Int))) (na e.2.2)=bf v y e
 unfold pq bf
 by_cases h:e.1=v∧e.2.1 < y
 ·rw [if_pos h,decide_eq_true (by omega),decide_eq_true (by omega),Bool.and_self,if_pos rfl,nb]
 ·rw [if_neg h]
  by_cases h1:e.1=v
  ·rw [decide_eq_false (show ¬ ((e.2.1:Int) < (y:Int)) by omega),Bool.and_false,if_neg (by decide)]
  ·rw [decide_eq_false (by omega),Bool.false_and,if_neg (by decide)]
theorem Jy {S F:Rat} {kn:Nat} {l:List (Rat×Rat)} {x:List aN×List Uq} (h:xN S F kn l x) (hl:l.length≤100):AQ kn (pQ x):=by
 intro e he
 obtain ⟨u,hu,rfl⟩:=List.mem_map.1 he
 obtain ⟨c1,c2,c3,c4⟩:=h.use u hu
 refine ⟨u.1,u.2.1,rfl,rfl,by show u.1≤(x.1.map Dx).length;rw [List.length_map,h.rln];omega,by omega,fun v R h1 h2 hR=> ?_⟩
 rw [show (pQ x).1=x.1.map Dx from rfl,List.getElem?_map] at hR
 obtain ⟨r,hr,rfl⟩:=Option.map_eq_some_iff.1 hR
 have:=h.old u hu v r (by omega) h2 hr
 refine (ld rfl).1 ?_
 rw [show (pQ x).2=x.2.map Dy from rfl,show ((u.2.1:Int) + 1)=((u.2.1 + 1:Nat):Int) by omega,MY]
 show (na r.bl).q - _≤0
 rw [nb]
 exact this
end Go.Proofs.YtabalinjfgcfeaaGreat
namespace Go.Proofs.YtabalinjfgcfeaaGreat
open Go.RowKit
attribute [local irreducible] aB VS
def DB (S F:RR) (keep:Int) (l:List (RR×RR)):Bool:=jm S F keep && l.all pP && decide (l.length≤40)
def sK (S F:RR) (keep:Int) (l:List (RR×RR)):Int:=if jm S F keep && l.all pP then 3 else 2
theorem FQ (S F:RR) (keep:Int) (l:List (RR×RR)):sK S F keep l≠0:=by unfold sK;split <;> decide
theorem iRun_no (v u:Value) (a b:RR) (keep:Int) (l:List (RR×RR)) (w:World) (hR:jl w v a b keep) (ha:a.mW 3) (hb:b.mW 3) (hl:eE (xY 3) 8 w u l) (hlen:l.length≤100000) (hno:DB a b keep l=false) (c:Int) (hc:sK a b keep l=c):
  Calls Tryz.prog 11 #[v,u] w fun o w'=>o=.returned (.tuple #[.agg #[.slice none 0 0,.slice none 0 0],.int .i64 c])∧aj w w':=by
 subst hc
 unfold sK
 cases h:(jm a b keep && l.all pP) with
 | false=>exact MA v u a b keep l 3 w hR ha hb hl (by decide) hlen h
 | true=>
   unfold DB at hno
   rw [h] at hno
   rw [Bool.and_eq_true] at h
   exact Jo v u a b keep l 3 w hR ha hb hl (by decide) hlen h.1 h.2 (by simpa using hno)
structure xO (S F:RR) (keep:Int) (l:List (RR×RR)):Prop where
 k0:0≤keep
 k1:keep≤40
 s0:0≤S.q
 s1:S.q≤1
 rul:jm S F keep=true
 yrs:l.all pP=true
 len:l.length≤40
theorem DC {S F:RR} {keep:Int} {l:List (RR×RR)} (h:DB S F keep l=true):xO S F keep l:=by
 unfold DB at h
 rw [Bool.and_eq_true,Bool.and_eq_true] at h
 obtain ⟨⟨h1,h2⟩,h3⟩:=h
 have hr:=h1
 unfold jm at hr
 simp only [Bool.and_eq_true,decide_eq_true_iff] at hr
 obtain ⟨r1,r2,r3,r4,r5,r6⟩:=hr
 exact ⟨r5,r6,rX.1 r3,jG.1 r4,h1,h2,of_decide_eq_true h3⟩
theorem Lm.ofSz {q:Rat} {k:Nat} (h:dV q k):Lm k q:=by
 obtain ⟨h1,h2⟩:=h
 have h1:=h1.lt
 have h2:=h2.lt
 exact ⟨by omega,by omega⟩
theorem jl.sz {w:World} {v:Value} {S F:RR} {keep:Int} {k:Nat} (h:jl w v S F keep) (hS:S.mW k) (hF:F.mW k) (hk:1≤k):dV S.q k∧dV F.q k:=by
 obtain ⟨p,c,r,d,p',c',r',d',rfl,h1,h2⟩:=h
 exact ⟨(h1.pz hS).sz hk,(h2.pz hF).sz hk⟩
theorem yrs_sz {w:World} {v:Value} {l:List (RR×RR)} {k:Nat} (h:eE (xY k) 8 w v l) (hk:1≤k):∀ e∈l,dV e.1.q k∧dV e.2.q k:=fun e he=>by
 obtain ⟨i,hi,hx⟩:=List.mem_iff_getElem.1 he
 obtain ⟨p,c,rfl,_,_⟩:=h.form
 obtain ⟨_,_,cs,_,_,x,y,_,⟨_,_,_,_,_,h1⟩,⟨_,_,_,_,_,h2⟩,f1,f2⟩:=h.at (i:=i) (a:=e) (by rw [List.getElem?_eq_getElem hi,hx])
 exact ⟨(h1.pz f1).sz hk,(h2.pz f2).sz hk⟩
theorem DD {w:World} {v u:Value} {S F:RR} {keep:Int} {l:List (RR×RR)} (hR:jl w v S F keep) (hS:S.mW 3) (hF:F.mW 3) (hl:eE (xY 3) 8 w u l) (fR:xO S F keep l) (hlen:l.length≤12):
  xI (S.q.den * F.q.den * uU (ee l)) (((4294967296 ^ 3:Nat):Int):Rat) S.q F.q 82 (ee l):=by
 obtain ⟨h1,h2⟩:=hR.sz hS hF (by decide)
 refine MF (k:=3) (n:=12) (Lm.ofSz h1) (Lm.ofSz h2) fR.s0 fR.s1 (fun e he=> ?_) (by unfold ee;rw [List.length_map];exact hlen) (by decide)
 obtain ⟨x,hx,rfl⟩:=List.mem_map.1 he
 obtain ⟨a,b⟩:=yrs_sz hl (by decide) x hx
 exact ⟨Lm.ofSz a,Lm.ofSz b⟩
theorem MZ (v u:Value) (S F:RR) (keep:Int) (kn:Nat) (l:List (RR×RR)) (w:World) (hR:jl w v S F keep) (hS:S.mW 3) (hF:F.mW 3) (hl:eE (xY 3) 8 w u l) (fR:xO S F keep l) (hlen:l.length≤12) (rh:keep=(kn:Int)):
  Calls Tryz.prog 11 #[v,u] w fun o w'=>∃ r u',o=.returned (.tuple #[.agg #[r,u'],.int .i64 0])∧sG w.heap.size w' r u' (pL S.q F.q kn (ee l))∧aj w w':=by
 have hM:=DD hR hS hF hl fR hlen
 subst rh
 have:=fR.k1
 exact GV v u S F kn l 3 82 _ _ w hR hS hF hl (by decide) (by decide) (by decide) fR.rul fR.yrs fR.len (by omega) hM
theorem lG {w:World} {b:Nat} {t:TypeId} {cs:List Value} (h:aW w b t cs.toArray) (k:Nat) (ds:List Value) (hd:ds <+:cs.drop k):∀ (j:Nat) (u:Value),ds[j]? =some u→w.cell? ((⟨b,0 + k,none⟩:Addr).add j)=some u:=by
 intro j u hj
 obtain ⟨t',ht⟩:=hd
 rw [Addr.add_mid,Nat.zero_add]
 refine h.cell ?_
 rw [List.getElem?_toArray,←List.getElem?_drop,←ht,List.getElem?_append_left (List.getElem?_eq_some_iff.1 hj).1]
 exact hj
end Go.Proofs.YtabalinjfgcfeaaGreat
set_option maxRecDepth 4000
namespace Go.Proofs.YtabalinjfgcfeaaGreat
open Go.RowKit
attribute [local irreducible] aB VS
theorem bne_y {a b:Int} (h:a≠b):(a != b)=true:=by simpa using h
theorem bne_n {a b:Int} (h:a=b):(a != b)=false:=by simpa using h
theorem con_use {S F:Rat} {kn:Nat} {l:List (Rat×Rat)} {x:List aN×List Uq} (h:xN S F kn l x) {e:mR} (he:e∈(pQ x).2):
  ∃ (a b:Nat) (y:Rat),e.1=(a:Int)∧e.2.1=(b:Int)∧e.2.2.q=y∧0 < y∧a < b∧b≤a + kn∧b < l.length:=by
 obtain ⟨u,hu,rfl⟩:=List.mem_map.1 he
 obtain ⟨c1,c2,c3,c4⟩:=h.use u hu
 exact ⟨u.1,u.2.1,_,rfl,rfl,nb _,c1,c2,c3,c4⟩
theorem Na {S F:Rat} {kn:Nat} {l:List (Rat×Rat)} {x:List aN×List Uq} (h:xN S F kn l x) {z:Nat} {e f:mR} {a b a' b':Nat} (he:(pQ x).2[z]? =some e) (hf:(pQ x).2[z + 1]? =some f) (h1:e.1=(a:Int)) (h2:e.2.1=(b:Int)) (h3:f.1=(a':Int)) (h4:f.2.1=(b':Int)):b < b'∨(b=b'∧a < a'):=by
 rw [show (pQ x).2=x.2.map Dy from rfl,List.getElem?_map] at he hf
 obtain ⟨u,hu,rfl⟩:=Option.map_eq_some_iff.1 he
 obtain ⟨v,hv,rfl⟩:=Option.map_eq_some_iff.1 hf
 obtain ⟨hi,rfl⟩:=List.getElem?_eq_some_iff.1 hu
 obtain ⟨hj,rfl⟩:=List.getElem?_eq_some_iff.1 hv
 have:=List.pairwise_iff_getElem.1 h.sort z (z + 1) hi hj (by omega)
 unfold Lex at this
 have e1:((x.2[z].1:Nat):Int)=(a:Int):=h1
 have e2:((x.2[z].2.1:Nat):Int)=(b:Int):=h2
 have e3:((x.2[z + 1].1:Nat):Int)=(a':Int):=h3
 have e4:((x.2[z + 1].2.1:Nat):Int)=(b':Int):=h4
 omega
theorem DF {D kk:Nat} {M S F:Rat} {kn:Nat} {l:List (Rat×Rat)} (hM:xI D M S F kk l):xG D M (gl S F kn l)∧(gl S F kn l).rows.length=l.length:=by
 have key:∀ (l p:List (Rat×Rat)) (s:Dd),(∀ e∈l,Iz D (aD S F e.2)∧aD S F e.2≤M∧Iz D e.1∧-M≤e.1∧e.1≤M)→xG D M s→s.rows.length=p.length→xG D M (l.foldl (fun s y=>dk S F kn s.rows.length s y) s)∧(l.foldl (fun s y=>dk S F kn s.rows.length s y) s).rows.length=(p++l).length:=by
  intro l
  induction l with
  | nil=>intro p s _ h hp;rw [List.append_nil];exact ⟨h,hp⟩
  | cons y l ih=>
    intro p s hl h hp
    obtain ⟨a1,a2,a3,a4,a5⟩:=hl y (by simp)
    obtain ⟨b1,b2⟩:=GP (keep:=kn) h a1 a2 a3 a4 a5
    have:=ih (p++[y]) _ (fun e he=>hl e (by simp [he])) b1 (by rw [b2,hp,List.length_append];rfl)
    rwa [List.append_assoc] at this
 exact key l [] ⟨[],[],[]⟩ hM.el ⟨fun p hp=>(by cases hp),by show 0 + 0≤2 * 0;omega⟩ rfl
structure ConRow (e:Rat) (of:Rat) (r:aN):Prop where
 sum:gW [of,r.aZ,r.closing]=r.bl
 d0:0≤r.bl
 e0:0≤r.aZ
 c0:0≤r.closing
 l0:0≤r.eJ
 u0:0≤r.used
 net:r.allowed + r.bl=e
 ded:r.allowed + r.used=r.bU
 lim:r.bU≤r.eJ
theorem con_row {S F:Rat} {kn:Nat} {l:List (RR×RR)} {x:List aN×List Uq} (h:xN S F kn (ee l) x) {z:Nat} {R:nA} (hR:(pQ x).1[z]? =some R):
  ∃ e,l[z]? =some e∧ConRow e.1.q (JS (z:Int) (pQ x).2) R.q:=by
 rw [show (pQ x).1=x.1.map Dx from rfl,List.getElem?_map] at hR
 obtain ⟨r,hr,rfl⟩:=Option.map_eq_some_iff.1 hR
 obtain ⟨e,he,a,hc,hs⟩:=h.row z r hr
 rw [show ee l=l.map (fun e=>(e.1.q,e.2.q)) from rfl,List.getElem?_map] at he
 obtain ⟨e',DW,rfl⟩:=Option.map_eq_some_iff.1 he
 refine ⟨e',DW,?_⟩
 rw [crow_q,show (pQ x).2=x.2.map Dy from rfl,MX]
 have hg:0≤gs (vn z) x.2:=Ha fun u hu=>by
  have:=(h.use u hu).1
  unfold vn;split <;> grind
 have h1:=a.lim
 have h2:=a.alw
 have h3:=a.den
 have h4:=a.us0
 have h5:=a.us1
 have h6:=a.ded
 have h7:=a.ex0
 have xV:=mK S F e'.2.q
 have hle:=di e'.1.q r.eJ
 exact ⟨by rw [jR,jR,jR];show _ + (_ + (_ + gW []))=_;rw [show gW []=0 from rfl];grind,by grind,h7,hc,by rw [h1];exact xV,h4,by grind,h6.symm,by grind⟩
set_option maxRecDepth 4000 in
set_option maxHeartbeats 16000000 in
theorem Jz (v u:Value) (S F:RR) (keep:Int) (l:List (RR×RR)) (kk:Nat) (w:World) (hR:jl w v S F keep) (hl:eE (xY kk) 8 w u l):
  Calls Tryz.prog 4 #[v,u] w fun o w'=>o=.returned (.bool true)∧aj w w':=by
 obtain ⟨uq,uc,rfl,huc,hum⟩:=hl.form
 obtain ⟨sp,sc,sr,sd,fp,fc,fr,fd,rfl,hsraw,hfraw⟩:=hR
 have hR:jl w (.agg #[.bool S.1,.slice sp S.2.1.length sc,.bool S.2.2.1,.slice sr S.2.2.2.length sd,.bool F.1,.slice fp F.2.1.length fc,.bool F.2.2.1,.slice fr F.2.2.2.length fd,.int .i64 keep]) S F keep:=⟨_,_,_,_,_,_,_,_,rfl,hsraw,hfraw⟩
 obtain ⟨N,hN⟩:∃ N,N=l.length:=⟨_,rfl⟩
 rw [←hN] at hl huc
 rw [←hN]
 refine aw (C:=Jq Tryz.prog w _) (args:=[_,_]) Tryz.func4 rfl Tryz.ntmps4 (Nat.le_of_ble_eq_true rfl) ?_
 (repeat first|refine wN ?_|refine wP rfl ?_|refine gf rfl ?_|refine gA rfl ?_|refine wO rfl rfl ?_)
 cases uX:kZ S F l with
 | false=>
   refine VO.call rfl rfl (fk Tryz.func8) (fun cC er dv=>(Dw _ _ S F keep l kk cC (hR.kp (Kp.of (U:=UU) dv)) (hl.bj (fP kk) dv) false uX).mono ?_)
   rintro e w1 ⟨rfl,aV⟩
   skip
   refine ⟨_,rfl,aV,fun fe _ bb1=>wV rfl ?_⟩
   (repeat first|refine wN ?_|refine wP rfl ?_|refine gf rfl ?_|refine gA rfl ?_|refine wO rfl rfl ?_)
   refine VO.call rfl rfl (fk Tryz.func9) (fun dC gu eu=>(oL dC).mono ?_)
   rintro e w2 ⟨rfl,bm⟩
   skip
   refine ⟨_,rfl,bm,fun fZ _ bb2=>wV rfl ?_⟩
   (repeat first|refine wN ?_|refine wP rfl ?_|refine gf rfl ?_|refine gA rfl ?_|refine wO rfl rfl ?_)
   refine VS.ret (FL _ _) rfl rfl (fun wz kz bz=> ?_)
   exact ⟨rfl,bz⟩
 | true=>
 have hl3:=MN uX hl
 have hlen:=Ju uX
 obtain ⟨hS3,hF3,-⟩:=zw uX
 refine VO.call rfl rfl (fk Tryz.func8) (fun cC er dv=>(Dw _ _ S F keep l kk cC (hR.kp (Kp.of (U:=UU) dv)) (hl.bj (fP kk) dv) true uX).mono ?_)
 rintro e w1 ⟨rfl,aV⟩
 skip
 refine ⟨_,rfl,aV,fun fe _ bb1=>wV rfl ?_⟩
 (repeat first|refine wN ?_|refine wP rfl ?_|refine gf rfl ?_|refine gA rfl ?_|refine wO rfl rfl ?_)
 cases fR:DB S F keep l with
 | false=>
   obtain ⟨c,hc⟩:∃ c,sK S F keep l=c:=⟨_,rfl⟩
   have hcn:c≠0:=hc▸FQ S F keep l
   refine VO.call rfl rfl (fk Tryz.func11) (fun gv gY gV=>(iRun_no _ _ S F keep l gv (hR.kp (Kp.of (U:=UU) gV)) hS3 hF3 (hl3.bj (fP 3) gV) (by omega) fR c hc).mono ?_)
   rintro e w3 ⟨rfl,cD⟩
   skip
   refine ⟨_,rfl,cD,fun kt _ bb3=>wV rfl ?_⟩
   (repeat first|refine wN ?_|refine wP rfl ?_|refine gf rfl ?_|refine gA rfl ?_|refine wO rfl rfl ?_)
   refine VS.bE rfl (bne_y hcn) ?_
   (repeat first|refine wN ?_|refine wP rfl ?_|refine gf rfl ?_|refine gA rfl ?_|refine wO rfl rfl ?_)
   refine VO.call rfl rfl (fk Tryz.func9) (fun nj qa qF=>(oL nj).mono ?_)
   rintro e w4 ⟨rfl,gU⟩
   skip
   refine ⟨_,rfl,gU,fun pd _ AZ=>wV rfl ?_⟩
   (repeat first|refine wN ?_|refine wP rfl ?_|refine gf rfl ?_|refine gA rfl ?_|refine wO rfl rfl ?_)
   refine VS.ret (FL _ _) rfl rfl (fun wz kz bz=> ?_)
   exact ⟨rfl,bz⟩
 | true=>
 have hf:=DC fR
 have yd:=hf.k0
 have Cm:=hf.k1
 have hN12:N≤12:=by have:=hf.len;omega
 obtain ⟨kn,rfl⟩:∃ kn:Nat,keep=(kn:Int):=⟨keep.toNat,by omega⟩
 have hM:=DD hR hS3 hF3 hl3 hf (by omega)
 have hul24:=(DF (kn:=kn) hM).1.len
 have sJ:=Hc S.q F.q kn (ee l)
 have hsz:=led_sz (kn:=kn) hM
 refine VO.call rfl rfl (fk Tryz.func11) (fun gv gY gV=>((MZ _ _ S F (kn:Int) kn l gv (hR.kp (Kp.of (U:=UU) gV)) hS3 hF3 (hl3.bj (fP 3) gV) hf (by omega) rfl).mono (fun o w2 h=>And.intro h gV.size)).mono ?_)
 rintro e w3 ⟨⟨r3,u3,rfl,l3,cD⟩,xH⟩
 obtain ⟨pr,cr,pu,cu,rfl,rfl⟩:=l3.form
 refine ⟨_,rfl,cD,fun kt _ bb3=>wV rfl ?_⟩
 (repeat first|refine wN ?_|refine wP rfl ?_|refine gf rfl ?_|refine gA rfl ?_|refine wO rfl rfl ?_)
 obtain ⟨x,hx⟩:∃ x,pL S.q F.q kn (ee l)=x:=⟨_,rfl⟩
 rw [hx] at l3 sJ hsz ⊢
 refine VS.bu rfl (bne_n (by rw [sJ.rln,hN];unfold ee;simp)) ?_
 (repeat first|refine wN ?_|refine wP rfl ?_|refine gf rfl ?_|refine gA rfl ?_|refine wO rfl rfl ?_)
 refine VS.LW (fun w=>cj Tryz.prog w 217) (fun _=>rfl) (fun _=>rfl) (fun _=>aj.refl _) (fun W β k4 b4 en=> ?_)
 have kk3:aE (Jq Tryz.prog w 217).K w3 W:=k4
 have vK:=(l3.kpF (AM w 217) kk3 kk3.yh).inI hsz
 have gm:=(en.own 2 _ _ rfl).cls
 have GH:=(en.own 5 _ _ rfl).cls
 obtain ⟨b2,hb2'⟩:∃ b,b=β 2:=⟨_,rfl⟩
 obtain ⟨b5,hb5'⟩:∃ b,b=β 5:=⟨_,rfl⟩
 refine ⟨[(1,.val (.slice uq N uc)),(2,.val (.pointer (some ⟨β 2,0,none⟩))),(5,.val (.pointer (some ⟨β 5,0,none⟩))),(7,.val (.int .i64 0))],⟨⟨_,_,rfl,rfl,rfl⟩,⟨_,_,rfl,rfl,rfl⟩,⟨_,_,rfl,rfl,rfl⟩,⟨_,_,rfl,rfl,rfl⟩,trivial⟩,?_⟩
 rw [←hb2'] at gm ⊢
 rw [←hb5'] at GH ⊢
 obtain ⟨us,nw⟩:∃ us,(pQ x).2=us:=⟨_,rfl⟩
 obtain ⟨rs,hrs⟩:∃ rs,(pQ x).1=rs:=⟨_,rfl⟩
 have ew:x.1.length=N:=by rw [sJ.rln,hN];unfold ee;simp
 obtain ⟨n,hn⟩:∃ n,n=x.2.length:=⟨_,rfl⟩
 rw [ew,←hn] at vK GH
 have DT:us.length=n:=by rw [←nw,hn];exact List.length_map _
 have rn:rs.length=N:=by rw [←hrs,←ew];exact List.length_map _
 have hLU:=vK.2
 have hLR:=vK.1
 rw [nw] at hLU
 rw [hrs] at hLR
 have hn24:n≤24:=by
  rw [hn,←hx]
  show (gl S.q F.q kn (ee l)).uses.length≤24
  have h2:=(DF (kn:=kn) hM).2
  have h3:(ee l).length=N:=by rw [hN];unfold ee;simp
  omega
 have hOld:AQ kn (rs,us):=by rw [←nw,←hrs];exact Jy sJ (by unfold ee;rw [List.length_map];omega)
 have hl3:=hl3.bj (fP 3) b4
 have za:(ee l).length=N:=by rw [hN];unfold ee;simp
 have hhu:∀ e∈us,∃ (a b:Nat) (y:Rat),e.1=(a:Int)∧e.2.1=(b:Int)∧e.2.2.q=y∧0 < y∧a < b∧b≤a + kn∧b < N:=fun e he=>by rw [←nw] at he;have:=con_use sJ he;rwa [za] at this
 refine VS.loop (J:=fun m L M w'=>∃ (z:Nat),z≤n∧m=n - z∧L=[(1,.val (.slice uq N uc)),(2,.val (.pointer (some ⟨b2,0,none⟩))),(5,.val (.pointer (some ⟨b5,0,none⟩))),(7,.val (.int .i64 (z:Int)))]∧M=[]) n ⟨_,_,?_,?_,?_,?_,⟨0,by omega,rfl,rfl,rfl⟩⟩ ?_
 ·(repeat first|exact trivial|refine ⟨rfl,?_⟩)
 ·(repeat first|exact trivial|refine ⟨rfl,?_⟩)
 ·rfl
 ·(repeat first|exact trivial|refine ⟨aF.lit rfl,?_⟩|refine ⟨aF.vals _,?_⟩)
 rintro m L M w9 ⟨z,hz,rfl,rfl,rfl⟩
 (repeat first|refine wN ?_|refine wP rfl ?_|refine aa rfl ?_|refine ab rfl ?_|refine wO rfl rfl ?_)
 refine VO.read rfl [.slice pu n cu] rfl (lG GH 1 _ ⟨[],rfl⟩) (wV rfl ?_)
 (repeat first|refine wN ?_|refine wP rfl ?_|refine aa rfl ?_|refine ab rfl ?_|refine wO rfl rfl ?_)
 by_cases hlt:z < n
 ·obtain ⟨e,he⟩:∃ e,us[z]? =some e:=⟨_,List.getElem?_eq_getElem (by omega)⟩
  obtain ⟨a',b',y',hea,heb,hec,u1,u2,u3,u4⟩:=hhu e (List.mem_of_getElem? he)
  obtain ⟨b,off,ig,mj,hc,⟨_,rfl,⟨ap,ac,ar,ad,rfl,ot⟩,uX⟩⟩:=hLU.at he
  have hpp':=mj
  subst mj
  rw [hea,heb] at hc
  obtain ⟨sg,jn⟩:∃ sg,dK e.2.2.q 0=sg:=⟨_,rfl⟩
  have hsp:¬ sg≤0:=by
   have:=(ld jn).2.2.2.1 (by rw [hec];exact u1)
   omega
  refine VS.bE rfl (decide_eq_true (Int.ofNat_lt.2 hlt)) ?_
  (repeat first|refine wN ?_|refine wP rfl ?_|refine aa rfl ?_|refine ab rfl ?_|refine wO rfl rfl ?_)
  refine VO.read rfl [.slice (some ⟨b,off,none⟩) n cu] rfl (lG GH 1 _ ⟨[],rfl⟩) (wV rfl ?_)
  (repeat first|refine wN ?_|refine wP rfl ?_|refine aa rfl ?_|refine ab rfl ?_|refine wO rfl rfl ?_)
  refine VO.cond rfl ⟨by omega,by omega⟩ ?_
  refine wV rfl ?_
  (repeat first|refine wN ?_|refine wP rfl ?_|refine aa rfl ?_|refine ab rfl ?_|refine wO rfl rfl ?_)
  refine VO.read rfl [.int .i64 (a':Int),.int .i64 (b':Int),.bool e.2.2.1,.slice ap e.2.2.2.1.length ac,.bool e.2.2.2.2.1,.slice ar e.2.2.2.2.2.length ad] rfl (ct hc 0 _ ⟨[],rfl⟩) (wV rfl ?_)
  (repeat first|refine wN ?_|refine wP rfl ?_|refine aa rfl ?_|refine ab rfl ?_|refine wO rfl rfl ?_)
  refine VO.call rfl rfl (fk Tryz.func13) (fun dC gu eu=>(bS _ e.2.2.q 82 dC ((ot.kp (Kp.of (U:=UU) eu)).pz uX) (by omega) sg jn).mono ?_)
  rintro e w2 ⟨rfl,bm⟩
  skip
  refine ⟨_,rfl,bm,fun fZ _ bb2=>wV rfl ?_⟩
  (repeat first|refine wN ?_|refine wP rfl ?_|refine aa rfl ?_|refine ab rfl ?_|refine wO rfl rfl ?_)
  refine VO.fix 59 rfl (congrArg (fun b=>AV.val (.bool b)) (decide_eq_false hsp)) ?_
  (repeat first|refine wN ?_|refine wP rfl ?_|refine aa rfl ?_|refine ab rfl ?_|refine wO rfl rfl ?_)
  refine VO.fix 64 rfl (congrArg (fun b=>AV.val (.bool b)) (decide_eq_false (show ¬ (a':Int) < 0 by omega))) ?_
  (repeat first|refine wN ?_|refine wP rfl ?_|refine aa rfl ?_|refine ab rfl ?_|refine wO rfl rfl ?_)
  refine VO.fix 71 rfl (congrArg (fun b=>AV.val (.bool b)) (decide_eq_false (show ¬ (b':Int)≤(a':Int) by omega))) ?_
  (repeat first|refine wN ?_|refine wP rfl ?_|refine aa rfl ?_|refine ab rfl ?_|refine wO rfl rfl ?_)
  refine VO.fix 76 rfl (congrArg (fun z=>AV.val (.int .i64 z)) (show IntKind.i64.wrap ((b':Int) - (a':Int))=((b' - a':Nat):Int) by rw [IntKind.wrap_i64];omega)) ?_
  (repeat first|refine wN ?_|refine wP rfl ?_|refine aa rfl ?_|refine ab rfl ?_|refine wO rfl rfl ?_)
  refine VO.read rfl [.int .i64 (kn:Int)] rfl (lG gm 8 _ ⟨[],rfl⟩) (wV rfl ?_)
  (repeat first|refine wN ?_|refine wP rfl ?_|refine aa rfl ?_|refine ab rfl ?_|refine wO rfl rfl ?_)
  refine VO.fix 81 rfl (congrArg (fun b=>AV.val (.bool b)) (decide_eq_false (show ¬ ((b' - a':Nat):Int) > (kn:Int) by omega))) ?_
  (repeat first|refine wN ?_|refine wP rfl ?_|refine aa rfl ?_|refine ab rfl ?_|refine wO rfl rfl ?_)
  refine VS.bu rfl (decide_eq_false (show ¬ (b':Int)≥(N:Int) by omega)) ?_
  (repeat first|refine wN ?_|refine wP rfl ?_|refine aa rfl ?_|refine ab rfl ?_|refine wO rfl rfl ?_)
  by_cases kG:z=0
  ·refine VO.fix 90 rfl (congrArg (fun b=>AV.val (.bool b)) (decide_eq_false (show ¬ (z:Int) > 0 by omega))) ?_
   (repeat first|refine wN ?_|refine wP rfl ?_|refine aa rfl ?_|refine ab rfl ?_|refine wO rfl rfl ?_)
   refine VS.back (n - (z + 1)) (by omega) ⟨_,_,?_,?_,?_,?_,⟨z + 1,by omega,rfl,rfl,rfl⟩⟩
   ·refine ⟨rfl,rfl,rfl,?_,trivial⟩
    rw [←bX (i:=z) (by omega)];rfl
   ·(repeat first|exact trivial|refine ⟨rfl,?_⟩)
   ·rfl
   ·(repeat first|exact trivial|refine ⟨aF.lit rfl,?_⟩|refine ⟨aF.vals _,?_⟩)
  ·refine VO.fix 90 rfl (congrArg (fun b=>AV.val (.bool b)) (decide_eq_true (show (z:Int) > 0 by omega))) ?_
   (repeat first|refine wN ?_|refine wP rfl ?_|refine aa rfl ?_|refine ab rfl ?_|refine wO rfl rfl ?_)
   obtain ⟨e0,he0⟩:∃ e,us[z - 1]? =some e:=⟨_,List.getElem?_eq_getElem (by omega)⟩
   obtain ⟨a0,b0,y0,hea0,heb0,-⟩:=hhu e0 (List.mem_of_getElem? he0)
   obtain ⟨bb0,off0,cs0,hpp0,hc0,⟨_,rfl,⟨ap0,ac0,ar0,ad0,rfl,hraw0⟩,hfew0⟩⟩:=hLU.at he0
   cases hpp0
   rw [hea0,heb0] at hc0
   have hsrt:b0 < b'∨(b0=b'∧a0 < a'):=Na sJ (z:=z - 1) (by rw [nw];exact he0) (by rw [nw,show z - 1 + 1=z by omega];exact he) hea0 heb0 hea heb
   refine VO.read rfl [.slice (some ⟨b,off,none⟩) n cu] rfl (lG GH 1 _ ⟨[],rfl⟩) (wV rfl ?_)
   (repeat first|refine wN ?_|refine wP rfl ?_|refine aa rfl ?_|refine ab rfl ?_|refine wO rfl rfl ?_)
   refine VO.fix 94 rfl (congrArg (fun z=>AV.val (.int .i64 z)) (show IntKind.i64.wrap ((z:Int) - 1)=((z - 1:Nat):Int) by rw [IntKind.wrap_i64];omega)) ?_
   (repeat first|refine wN ?_|refine wP rfl ?_|refine aa rfl ?_|refine ab rfl ?_|refine wO rfl rfl ?_)
   refine VO.cond rfl ⟨by omega,by omega⟩ ?_
   refine wV rfl ?_
   (repeat first|refine wN ?_|refine wP rfl ?_|refine aa rfl ?_|refine ab rfl ?_|refine wO rfl rfl ?_)
   refine VO.read rfl [.int .i64 (b0:Int)] rfl (ct hc0 1 _ ⟨_,rfl⟩) (wV rfl ?_)
   (repeat first|refine wN ?_|refine wP rfl ?_|refine aa rfl ?_|refine ab rfl ?_|refine wO rfl rfl ?_)
   refine VO.fix 101 rfl (congrArg (fun b=>AV.val (.bool b)) (decide_eq_false (show ¬ (b0:Int) > (b':Int) by omega))) ?_
   (repeat first|refine wN ?_|refine wP rfl ?_|refine aa rfl ?_|refine ab rfl ?_|refine wO rfl rfl ?_)
   refine VO.read rfl [.slice (some ⟨b,off,none⟩) n cu] rfl (lG GH 1 _ ⟨[],rfl⟩) (wV rfl ?_)
   (repeat first|refine wN ?_|refine wP rfl ?_|refine aa rfl ?_|refine ab rfl ?_|refine wO rfl rfl ?_)
   refine VO.fix 105 rfl (congrArg (fun z=>AV.val (.int .i64 z)) (show IntKind.i64.wrap ((z:Int) - 1)=((z - 1:Nat):Int) by rw [IntKind.wrap_i64];omega)) ?_
   (repeat first|refine wN ?_|refine wP rfl ?_|refine aa rfl ?_|refine ab rfl ?_|refine wO rfl rfl ?_)
   refine VO.cond rfl ⟨by omega,by omega⟩ ?_
   refine wV rfl ?_
   (repeat first|refine wN ?_|refine wP rfl ?_|refine aa rfl ?_|refine ab rfl ?_|refine wO rfl rfl ?_)
   refine VO.read rfl [.int .i64 (b0:Int)] rfl (ct hc0 1 _ ⟨_,rfl⟩) (wV rfl ?_)
   (repeat first|refine wN ?_|refine wP rfl ?_|refine aa rfl ?_|refine ab rfl ?_|refine wO rfl rfl ?_)
   by_cases ya:b0=b'
   ·refine VO.fix 112 rfl (congrArg (fun b=>AV.val (.bool b)) (decide_eq_true (show (b0:Int)=(b':Int) by omega))) ?_
    (repeat first|refine wN ?_|refine wP rfl ?_|refine aa rfl ?_|refine ab rfl ?_|refine wO rfl rfl ?_)
    refine VO.read rfl [.slice (some ⟨b,off,none⟩) n cu] rfl (lG GH 1 _ ⟨[],rfl⟩) (wV rfl ?_)
    (repeat first|refine wN ?_|refine wP rfl ?_|refine aa rfl ?_|refine ab rfl ?_|refine wO rfl rfl ?_)
    refine VO.fix 116 rfl (congrArg (fun z=>AV.val (.int .i64 z)) (show IntKind.i64.wrap ((z:Int) - 1)=((z - 1:Nat):Int) by rw [IntKind.wrap_i64];omega)) ?_
    (repeat first|refine wN ?_|refine wP rfl ?_|refine aa rfl ?_|refine ab rfl ?_|refine wO rfl rfl ?_)
    refine VO.cond rfl ⟨by omega,by omega⟩ ?_
    refine wV rfl ?_
    (repeat first|refine wN ?_|refine wP rfl ?_|refine aa rfl ?_|refine ab rfl ?_|refine wO rfl rfl ?_)
    refine VO.read rfl [.int .i64 (a0:Int)] rfl (ct hc0 0 _ ⟨_,rfl⟩) (wV rfl ?_)
    (repeat first|refine wN ?_|refine wP rfl ?_|refine aa rfl ?_|refine ab rfl ?_|refine wO rfl rfl ?_)
    refine VS.bu rfl (decide_eq_false (show ¬ (a0:Int)≥(a':Int) by omega)) ?_
    (repeat first|refine wN ?_|refine wP rfl ?_|refine aa rfl ?_|refine ab rfl ?_|refine wO rfl rfl ?_)
    refine VS.back (n - (z + 1)) (by omega) ⟨_,_,?_,?_,?_,?_,⟨z + 1,by omega,rfl,rfl,rfl⟩⟩
    ·refine ⟨rfl,rfl,rfl,?_,trivial⟩
     rw [←bX (i:=z) (by omega)];rfl
    ·(repeat first|exact trivial|refine ⟨rfl,?_⟩)
    ·rfl
    ·(repeat first|exact trivial|refine ⟨aF.lit rfl,?_⟩|refine ⟨aF.vals _,?_⟩)
   ·refine VO.fix 112 rfl (congrArg (fun b=>AV.val (.bool b)) (decide_eq_false (show ¬ (b0:Int)=(b':Int) by omega))) ?_
    (repeat first|refine wN ?_|refine wP rfl ?_|refine aa rfl ?_|refine ab rfl ?_|refine wO rfl rfl ?_)
    refine VS.back (n - (z + 1)) (by omega) ⟨_,_,?_,?_,?_,?_,⟨z + 1,by omega,rfl,rfl,rfl⟩⟩
    ·refine ⟨rfl,rfl,rfl,?_,trivial⟩
     rw [←bX (i:=z) (by omega)];rfl
    ·(repeat first|exact trivial|refine ⟨rfl,?_⟩)
    ·rfl
    ·(repeat first|exact trivial|refine ⟨aF.lit rfl,?_⟩|refine ⟨aF.vals _,?_⟩)
 ·refine VS.bu rfl (decide_eq_false (fun e=>hlt (Int.ofNat_lt.1 e))) ?_
  (repeat first|refine wN ?_|refine wP rfl ?_|refine aa rfl ?_|refine ab rfl ?_|refine wO rfl rfl ?_)
  refine VS.loop (J:=fun m L M w'=>∃ (z:Nat),z≤N∧m=N - z∧L=[(1,.val (.slice uq N uc)),(2,.val (.pointer (some ⟨b2,0,none⟩))),(5,.val (.pointer (some ⟨b5,0,none⟩))),(9,.val (.int .i64 (z:Int)))]∧M=[]) N ⟨_,_,?_,?_,?_,?_,⟨0,by omega,rfl,rfl,rfl⟩⟩ ?_
  ·(repeat first|exact trivial|refine ⟨rfl,?_⟩)
  ·(repeat first|exact trivial|refine ⟨rfl,?_⟩)
  ·rfl
  ·(repeat first|exact trivial|refine ⟨aF.lit rfl,?_⟩|refine ⟨aF.vals _,?_⟩)
  rintro m L M w8 ⟨z,hz,rfl,rfl,rfl⟩
  (repeat first|refine wN ?_|refine wP rfl ?_|refine aa rfl ?_|refine ab rfl ?_|refine wO rfl rfl ?_)
  by_cases hlt:z < N
  ·obtain ⟨R,hRz⟩:∃ R,rs[z]? =some R:=⟨_,List.getElem?_eq_getElem (by omega)⟩
   obtain ⟨y,hy,fb⟩:=con_row sJ (z:=z) (R:=R) (by rw [hrs];exact hRz)
   rw [nw] at fb
   obtain ⟨rb,ro,rcs,hrp,hrc,⟨_,_,_,_,_,_,_,rfl,⟨⟨z0p,z0c,z0r,z0d,rfl,g0⟩,f0⟩,⟨⟨z1p,z1c,z1r,z1d,rfl,g1⟩,f1⟩,⟨⟨z2p,z2c,z2r,z2d,rfl,g2⟩,f2⟩,⟨⟨z3p,z3c,z3r,z3d,rfl,g3⟩,f3⟩,⟨⟨z4p,z4c,z4r,z4d,rfl,g4⟩,f4⟩,⟨⟨z5p,z5c,z5r,z5d,rfl,g5⟩,f5⟩,⟨⟨z6p,z6c,z6r,z6d,rfl,g6⟩,f6⟩⟩⟩:=hLR.at hRz
   obtain ⟨lb,lo,lcs,hlp,hlc,_,_,rfl,⟨y1p,y1c,y1r,y1d,rfl,hy1⟩,⟨y2p,y2c,y2r,y2d,rfl,hy2⟩,hyf1,hyf2⟩:=hl3.at hy
   subst hrp
   subst hlp
   obtain ⟨jD,jE⟩:∃ sg,dK R.bl.q 0=sg:=⟨_,rfl⟩
   obtain ⟨sg5,hsg5⟩:∃ sg,dK R.aZ.q 0=sg:=⟨_,rfl⟩
   obtain ⟨sg6,hsg6⟩:∃ sg,dK R.closing.q 0=sg:=⟨_,rfl⟩
   obtain ⟨sg0,jk⟩:∃ sg,dK R.eJ.q 0=sg:=⟨_,rfl⟩
   obtain ⟨sg3,hsg3⟩:∃ sg,dK R.used.q 0=sg:=⟨_,rfl⟩
   obtain ⟨cm,eV⟩:∃ cm,dK R.bU.q R.eJ.q=cm:=⟨_,rfl⟩
   have wX:=(ld jE).2.1 fb.d0
   have hn5:=(ld hsg5).2.1 fb.e0
   have hn6:=(ld hsg6).2.1 fb.c0
   have lH:=(ld jk).2.1 fb.l0
   have hn3:=(ld hsg3).2.1 fb.u0
   have hncm:=(ld eV).1 fb.lim
   refine VS.bE rfl (decide_eq_true (Int.ofNat_lt.2 hlt)) ?_
   (repeat first|refine wN ?_|refine wP rfl ?_|refine aa rfl ?_|refine ab rfl ?_|refine wO rfl rfl ?_)
   refine VO.read rfl [.slice (some ⟨rb,ro,none⟩) N cr] rfl (lG GH 0 _ ⟨_,rfl⟩) (wV rfl ?_)
   (repeat first|refine wN ?_|refine wP rfl ?_|refine aa rfl ?_|refine ab rfl ?_|refine wO rfl rfl ?_)
   refine VO.cond rfl ⟨by omega,by omega⟩ ?_
   refine wV rfl ?_
   (repeat first|refine wN ?_|refine wP rfl ?_|refine aa rfl ?_|refine ab rfl ?_|refine wO rfl rfl ?_)
   refine VO.read rfl [.bool R.eJ.1,.slice z0p R.eJ.2.1.length z0c,.bool R.eJ.2.2.1,.slice z0r R.eJ.2.2.2.length z0d,.bool R.allowed.1,.slice z1p R.allowed.2.1.length z1c,.bool R.allowed.2.2.1,.slice z1r R.allowed.2.2.2.length z1d,.bool R.bl.1,.slice z2p R.bl.2.1.length z2c,.bool R.bl.2.2.1,.slice z2r R.bl.2.2.2.length z2d,.bool R.used.1,.slice z3p R.used.2.1.length z3c,.bool R.used.2.2.1,.slice z3r R.used.2.2.2.length z3d,.bool R.bU.1,.slice z4p R.bU.2.1.length z4c,.bool R.bU.2.2.1,.slice z4r R.bU.2.2.2.length z4d,.bool R.aZ.1,.slice z5p R.aZ.2.1.length z5c,.bool R.aZ.2.2.1,.slice z5r R.aZ.2.2.2.length z5d,.bool R.closing.1,.slice z6p R.closing.2.1.length z6c,.bool R.closing.2.2.1,.slice z6r R.closing.2.2.2.length z6d] rfl (ct hrc 0 _ ⟨[],rfl⟩) (wV rfl ?_)
   (repeat first|refine wN ?_|refine wP rfl ?_|refine aa rfl ?_|refine ab rfl ?_|refine wO rfl rfl ?_)
   refine VO.read rfl [.slice (some ⟨rb,ro,none⟩) N cr,.slice pu n cu] rfl (lG GH 0 _ ⟨_,rfl⟩) (wV rfl ?_)
   (repeat first|refine wN ?_|refine wP rfl ?_|refine aa rfl ?_|refine ab rfl ?_|refine wO rfl rfl ?_)
   refine VO.call rfl rfl (fk Tryz.func15) (fun kg mG ku=>(iOf_any _ _ (rs,us) (z:Int) 82 kg (AP.bj (X:=(rs,us)) ⟨hLR,hLU⟩ ku) (by omega) (by show us.length≤1000;omega)).mono ?_)
   rintro e w5 ⟨r5,rfl,q5,gi⟩
   obtain ⟨s5,p5,n5,c5,t5,y5,m5,d5,rfl⟩:=q5.form
   refine ⟨_,rfl,gi,fun nk _ xf=>wV rfl ?_⟩
   (repeat first|refine wN ?_|refine wP rfl ?_|refine aa rfl ?_|refine ab rfl ?_|refine wO rfl rfl ?_)
   have hof:dV (JS (z:Int) us) 10000:=by
    have h1:=FN (f:=fun e=>decide (e.1=(z:Int))) (z:=us.length) hLU.rws (Nat.le_refl _)
    rw [List.take_length,DT] at h1
    refine h1.mono (Nat.le_trans (pj hn24) (by decide))
   refine VO.fI rfl (fk Tryz.func14) (fun pK β ux tw ho=>(qK _ [JS (z:Int) us,R.aZ.q,R.closing.q] 10000 pK (dW (ho.own 144 (.base (List.mem_singleton.2 rfl)) _ _ rfl) [] (vs:=[[.bool s5,.slice p5 n5 c5,.bool t5,.slice y5 m5 d5],[.bool R.aZ.1,.slice z5p R.aZ.2.1.length z5c,.bool R.aZ.2.2.1,.slice z5r R.aZ.2.2.2.length z5d],[.bool R.closing.1,.slice z6p R.closing.2.1.length z6c,.bool R.closing.2.2.1,.slice z6r R.closing.2.2.2.length z6d]]) (by rfl) rfl (bZ.cons (q5.ki hof (by (with_reducible (repeat (first | assumption | exact kU _ | exact kR _ | exact Kp.of (U:=UU) (by assumption) | exact aE.of (by assumption) | refine kT ?_ (by assumption)))))) (bZ.cons (((g5.kp (Kp.of (U:=UU) tw)).pz f5).up (by omega)) (bZ.cons (((g6.kp (Kp.of (U:=UU) tw)).pz f6).up (by omega)) bZ.nil))) (Nat.le_of_ble_eq_true rfl) (by decide)) (by unfold cX jQ;simp)).mono ?_)
   rintro o w6 ⟨r6,rfl,q6,hs6,mX⟩
   rw [show gW [JS (z:Int) us,R.aZ.q,R.closing.q]=R.bl.q from fb.sum] at q6 hs6
   obtain ⟨s6,p6,n6,c6,t6,y6,m6,d6,rfl⟩:=q6.form
   refine ⟨_,rfl,mX,fun tx _ CR=>wV rfl ?_⟩
   (repeat first|refine wN ?_|refine wP rfl ?_|refine aa rfl ?_|refine ab rfl ?_|refine wO rfl rfl ?_)
   refine VO.call rfl rfl (fk Tryz.func12) (fun yn DX xX=>(dL _ _ R.bl.q R.bl.q (cX 10000 3) 82 yn (q6.ki hs6) ((g2.kp (Kp.of (U:=UU) xX)).pz f2) (by decide) (by omega) 0 (gD rfl)).mono ?_)
   rintro e w7 ⟨rfl,uO⟩
   skip
   refine ⟨_,rfl,uO,fun zj _ bb7=>wV rfl ?_⟩
   (repeat first|refine wN ?_|refine wP rfl ?_|refine aa rfl ?_|refine ab rfl ?_|refine wO rfl rfl ?_)
   refine VO.call rfl rfl (fk Tryz.func13) (fun uQ Fg zl=>(bS _ R.bl.q 82 uQ ((g2.kp (Kp.of (U:=UU) zl)).pz f2) (by omega) jD jE).mono ?_)
   rintro e w8 ⟨rfl,qU⟩
   skip
   refine ⟨_,rfl,qU,fun vH _ JL=>wV rfl ?_⟩
   (repeat first|refine wN ?_|refine wP rfl ?_|refine aa rfl ?_|refine ab rfl ?_|refine wO rfl rfl ?_)
   refine VO.fix 156 rfl (congrArg (fun b=>AV.val (.bool b)) (decide_eq_false wX)) ?_
   (repeat first|refine wN ?_|refine wP rfl ?_|refine aa rfl ?_|refine ab rfl ?_|refine wO rfl rfl ?_)
   refine VO.call rfl rfl (fk Tryz.func13) (fun wa9 ka9 ba9=>(bS _ R.aZ.q 82 wa9 ((g5.kp (Kp.of (U:=UU) ba9)).pz f5) (by omega) sg5 hsg5).mono ?_)
   rintro e w9 ⟨rfl,Gf⟩
   skip
   refine ⟨_,rfl,Gf,fun Ba _ bb9=>wV rfl ?_⟩
   (repeat first|refine wN ?_|refine wP rfl ?_|refine aa rfl ?_|refine ab rfl ?_|refine wO rfl rfl ?_)
   refine VO.fix 162 rfl (congrArg (fun b=>AV.val (.bool b)) (decide_eq_false hn5)) ?_
   (repeat first|refine wN ?_|refine wP rfl ?_|refine aa rfl ?_|refine ab rfl ?_|refine wO rfl rfl ?_)
   refine VO.call rfl rfl (fk Tryz.func13) (fun tz xl Fh=>(bS _ R.closing.q 82 tz ((g6.kp (Kp.of (U:=UU) Fh)).pz f6) (by omega) sg6 hsg6).mono ?_)
   rintro e w10 ⟨rfl,tA⟩
   skip
   refine ⟨_,rfl,tA,fun iE _ II=>wV rfl ?_⟩
   (repeat first|refine wN ?_|refine wP rfl ?_|refine aa rfl ?_|refine ab rfl ?_|refine wO rfl rfl ?_)
   refine VO.fix 168 rfl (congrArg (fun b=>AV.val (.bool b)) (decide_eq_false hn6)) ?_
   (repeat first|refine wN ?_|refine wP rfl ?_|refine aa rfl ?_|refine ab rfl ?_|refine wO rfl rfl ?_)
   refine VO.call rfl rfl (fk Tryz.func13) (fun xm Ah IJ=>(bS _ R.eJ.q 82 xm ((g0.kp (Kp.of (U:=UU) IJ)).pz f0) (by omega) sg0 jk).mono ?_)
   rintro e w11 ⟨rfl,xn⟩
   skip
   refine ⟨_,rfl,xn,fun lz _ LH=>wV rfl ?_⟩
   (repeat first|refine wN ?_|refine wP rfl ?_|refine aa rfl ?_|refine ab rfl ?_|refine wO rfl rfl ?_)
   refine VO.fix 174 rfl (congrArg (fun b=>AV.val (.bool b)) (decide_eq_false lH)) ?_
   (repeat first|refine wN ?_|refine wP rfl ?_|refine aa rfl ?_|refine ab rfl ?_|refine wO rfl rfl ?_)
   refine VO.call rfl rfl (fk Tryz.func13) (fun xo Ai IK=>(bS _ R.used.q 82 xo ((g3.kp (Kp.of (U:=UU) IK)).pz f3) (by omega) sg3 hsg3).mono ?_)
   rintro e w12 ⟨rfl,xp⟩
   skip
   refine ⟨_,rfl,xp,fun oC _ LI=>wV rfl ?_⟩
   (repeat first|refine wN ?_|refine wP rfl ?_|refine aa rfl ?_|refine ab rfl ?_|refine wO rfl rfl ?_)
   refine VS.bu rfl (decide_eq_false hn3) ?_
   (repeat first|refine wN ?_|refine wP rfl ?_|refine aa rfl ?_|refine ab rfl ?_|refine wO rfl rfl ?_)
   refine VO.call rfl rfl (fk Tryz.func16) (fun Fi ka13 IL=>(dx _ _ R.allowed.q R.bl.q 82 82 Fi ((g1.kp (Kp.of (U:=UU) IL)).pz f1) ((g2.kp (Kp.of (U:=UU) IL)).pz f2) (by omega) (by omega)).mono ?_)
   rintro e nD ⟨r13,rfl,q13,Fj⟩
   obtain ⟨s13,p13,n13,c13,t13,y13,m13,d13,rfl⟩:=q13.form
   refine ⟨_,rfl,Fj,fun xq _ bb13=>wV rfl ?_⟩
   (repeat first|refine wN ?_|refine wP rfl ?_|refine aa rfl ?_|refine ab rfl ?_|refine wO rfl rfl ?_)
   rw [show R.allowed.q + R.bl.q=y.1.q from fb.net] at q13
   refine VO.cond rfl ⟨by omega,by omega⟩ ?_
   refine wV rfl ?_
   (repeat first|refine wN ?_|refine wP rfl ?_|refine aa rfl ?_|refine ab rfl ?_|refine wO rfl rfl ?_)
   refine VO.read rfl [.bool y.1.1,.slice y1p y.1.2.1.length y1c,.bool y.1.2.2.1,.slice y1r y.1.2.2.2.length y1d] rfl (ct hlc 0 _ ⟨_,rfl⟩) (wV rfl ?_)
   (repeat first|refine wN ?_|refine wP rfl ?_|refine aa rfl ?_|refine ab rfl ?_|refine wO rfl rfl ?_)
   have hys:dV y.1.q 3:=(hy1.pz hyf1).sz (by decide)
   refine VO.call rfl rfl (fk Tryz.func12) (fun LJ IM ba14=>(dL _ _ y.1.q y.1.q 3 3 LJ (q13.ki hys) ((hy1.kp (by (with_reducible (repeat (first | assumption | exact kU _ | exact kR _ | exact Kp.of (U:=UU) (by assumption) | exact aE.of (by assumption) | refine kT ?_ (by assumption)))))).pz hyf1) (by omega) (by omega) 0 (gD rfl)).mono ?_)
   rintro e Fk ⟨rfl,LK⟩
   skip
   refine ⟨_,rfl,LK,fun IP _ bb14=>wV rfl ?_⟩
   (repeat first|refine wN ?_|refine wP rfl ?_|refine aa rfl ?_|refine ab rfl ?_|refine wO rfl rfl ?_)
   refine VO.call rfl rfl (fk Tryz.func16) (fun LL IQ IU=>(dx _ _ R.allowed.q R.used.q 82 82 LL ((g1.kp (Kp.of (U:=UU) IU)).pz f1) ((g3.kp (Kp.of (U:=UU) IU)).pz f3) (by omega) (by omega)).mono ?_)
   rintro e w15 ⟨r15,rfl,q15,LM⟩
   obtain ⟨s15,p15,n15,c15,t15,y15,m15,d15,rfl⟩:=q15.form
   refine ⟨_,rfl,LM,fun kb15 _ bb15=>wV rfl ?_⟩
   (repeat first|refine wN ?_|refine wP rfl ?_|refine aa rfl ?_|refine ab rfl ?_|refine wO rfl rfl ?_)
   rw [show R.allowed.q + R.used.q=R.bU.q from fb.ded] at q15
   have DK:dV R.bU.q 82:=(g4.pz f4).sz (by decide)
   refine VO.call rfl rfl (fk Tryz.func12) (fun wa16 ka16 ba16=>(dL _ _ R.bU.q R.bU.q 82 82 wa16 (q15.ki DK) ((g4.kp (Kp.of (U:=UU) ba16)).pz f4) (by omega) (by omega) 0 (gD rfl)).mono ?_)
   rintro e w16 ⟨rfl,hb16⟩
   skip
   refine ⟨_,rfl,hb16,fun kb16 _ bb16=>wV rfl ?_⟩
   (repeat first|refine wN ?_|refine wP rfl ?_|refine aa rfl ?_|refine ab rfl ?_|refine wO rfl rfl ?_)
   refine VO.call rfl rfl (fk Tryz.func12) (fun wa17 ka17 ba17=>(dL _ _ R.bU.q R.eJ.q 82 82 wa17 ((g4.kp (Kp.of (U:=UU) ba17)).pz f4) ((g0.kp (Kp.of (U:=UU) ba17)).pz f0) (by omega) (by omega) cm eV).mono ?_)
   rintro e w17 ⟨rfl,hb17⟩
   skip
   refine ⟨_,rfl,hb17,fun kb17 _ bb17=>wV rfl ?_⟩
   (repeat first|refine wN ?_|refine wP rfl ?_|refine aa rfl ?_|refine ab rfl ?_|refine wO rfl rfl ?_)
   refine VS.bu rfl (decide_eq_false hncm) ?_
   (repeat first|refine wN ?_|refine wP rfl ?_|refine aa rfl ?_|refine ab rfl ?_|refine wO rfl rfl ?_)
   refine VS.back (N - (z + 1)) (by omega) ⟨_,_,?_,?_,?_,?_,⟨z + 1,by omega,rfl,rfl,rfl⟩⟩
   ·refine ⟨rfl,rfl,rfl,?_,trivial⟩
    rw [←bX (i:=z) (by omega)];rfl
   ·(repeat first|exact trivial|refine ⟨rfl,?_⟩)
   ·rfl
   ·(repeat first|exact trivial|refine ⟨aF.lit rfl,?_⟩|refine ⟨aF.vals _,?_⟩)
  ·refine VS.bu rfl (decide_eq_false (fun e=>hlt (Int.ofNat_lt.1 e))) ?_
   (repeat first|refine wN ?_|refine wP rfl ?_|refine aa rfl ?_|refine ab rfl ?_|refine wO rfl rfl ?_)
   refine VO.read rfl [.bool S.1,.slice sp S.2.1.length sc,.bool S.2.2.1,.slice sr S.2.2.2.length sd,.bool F.1,.slice fp F.2.1.length fc,.bool F.2.2.1,.slice fr F.2.2.2.length fd,.int .i64 (kn:Int)] rfl (lG gm 0 _ ⟨_,rfl⟩) (wV rfl ?_)
   (repeat first|refine wN ?_|refine wP rfl ?_|refine aa rfl ?_|refine ab rfl ?_|refine wO rfl rfl ?_)
   refine VO.read rfl [.slice pr N cr,.slice pu n cu] rfl (lG GH 0 _ ⟨_,rfl⟩) (wV rfl ?_)
   (repeat first|refine wN ?_|refine wP rfl ?_|refine aa rfl ?_|refine ab rfl ?_|refine wO rfl rfl ?_)
   refine VO.call rfl rfl (fk Tryz.func17) (fun wa20 ka20 ba20=>(FO _ _ _ S F kn (rs,us) 82 wa20 (hR.kp (Kp.of (U:=UU) (aj.aJ b4 ba20))) (AP.bj (X:=(rs,us)) ⟨hLR,hLU⟩ ba20) (by omega) (by show us.length≤1000;omega) (by omega) hOld).mono ?_)
   rintro e Dk ⟨rfl,hb20⟩
   skip
   refine ⟨_,rfl,hb20,fun kb20 _ bb20=>wV rfl ?_⟩
   (repeat first|refine wN ?_|refine wP rfl ?_|refine aa rfl ?_|refine ab rfl ?_|refine wO rfl rfl ?_)
   refine VO.call rfl rfl (fk Tryz.func9) (fun wa21 ka21 ba21=>(oL wa21).mono ?_)
   rintro e w21 ⟨rfl,hb21⟩
   skip
   refine ⟨_,rfl,hb21,fun kb21 _ bb21=>wV rfl ?_⟩
   (repeat first|refine wN ?_|refine wP rfl ?_|refine aa rfl ?_|refine ab rfl ?_|refine wO rfl rfl ?_)
   refine VS.ret (aL _ _) rfl rfl (fun wz kz bz=> ?_)
   exact ⟨rfl,aj.aJ b4 bz⟩
end Go.Proofs.YtabalinjfgcfeaaGreat
namespace Go.Proofs.YtabalinjfgcfeaaGreat
open Go.RowKit
abbrev xP:Nat:=9223372036854775807
section
variable {H:Type} {enc:TypeId×Value→H} {w:World} {held:Bool}
theorem qS (cs:List Value) (o n m:Nat) (h:m=o + n):cs.drop o=(cs.drop o).take n++cs.drop m:=by
 subst h
 have:=(List.take_append_drop n (cs.drop o)).symm
 rw [List.drop_drop] at this
 exact this
theorem Nb {s t:Bool} {p r:Option Addr} {n c m d:Nat} {xs ys:List Nat} (h:eR w (.agg #[.bool s,.slice p n c,.bool t,.slice r m d]) s xs t ys):n=xs.length∧m=ys.length∧xs.length≤xP∧ys.length≤xP:=by
 obtain ⟨p',c',r',d',hv,h1,h2⟩:=h
 simp only [Value.agg.injEq,Array.mk.injEq,List.cons.injEq,and_true,Value.slice.injEq,Value.bool.injEq] at hv
 obtain ⟨_,⟨rfl,rfl,rfl⟩,_,rfl,rfl,rfl⟩:=hv
 obtain ⟨_,_,_,iD,_⟩:=h1
 obtain ⟨_,_,_,jw,_⟩:=h2
 obtain ⟨_,_,_,a1,a2,_⟩:=iD.u32
 obtain ⟨_,_,_,b1,b2,_⟩:=jw.u32
 exact ⟨rfl,rfl,by unfold xP;omega,by unfold xP;omega⟩
theorem vP {fuel:Nat} {cs:List Value} {x:DataW H×List MemPlace} (h:DataW.trod enc Tryz.prog w 0 (fun _=>true) held fuel 26 cs=some x):∃ a:RR,Rw xP w cs a:=by
 obtain ⟨s,p,n,c,t,r,m,d,xs,ys,rfl,h0⟩:=LS h
 obtain ⟨rfl,rfl,h1,h2⟩:=Nb h0
 exact ⟨(s,xs,t,ys),⟨p,c,r,d,rfl,h0⟩,h1,h2⟩
set_option maxRecDepth 100000 in
theorem JA {fuel:Nat} {cs:List Value} {x:DataW H×List MemPlace} (h:DataW.trod enc Tryz.prog w 0 (fun _=>true) held fuel 51 cs=some x):∃ e:RR×RR,xY xP w cs e:=by
 obtain ⟨zs,n,rfl,rfl,hl,jJ,hf⟩:=DataW.trod_struct Tryz.underlying51 h
 have xU:cs.length=8:=by
  have c:Tryz.prog.cellsOf 51=8:=by kernel_rfl
  rw [c] at hl;exact hl
 have hy2:zs.length=2:=jJ
 obtain ⟨z0,kG⟩:∃ z,zs[0]? =some z:=⟨_,List.getElem?_eq_getElem (by omega)⟩
 obtain ⟨z1,lj⟩:∃ z,zs[1]? =some z:=⟨_,List.getElem?_eq_getElem (by omega)⟩
 have DG:Tryz.prog.cellsOf 26=4:=by kernel_rfl
 have h0:=hf 0 _ rfl
 rw [kG] at h0
 change DataW.trod enc Tryz.prog w 0 (fun _=>true) held n 26 ((cs.drop 0).take (Tryz.prog.cellsOf 26))=some z0 at h0
 rw [DG] at h0
 have h1:=hf 1 _ rfl
 rw [lj] at h1
 change DataW.trod enc Tryz.prog w 0 (fun _=>true) held n 26 ((cs.drop 4).take (Tryz.prog.cellsOf 26))=some z1 at h1
 rw [DG] at h1
 obtain ⟨x0,gL⟩:=vP h0
 obtain ⟨x1,JJ⟩:=vP h1
 have a0:cs.drop 0=(cs.drop 0).take 4++cs.drop 4:=qS cs 0 4 4 rfl
 have a1:cs.drop 4=(cs.drop 4).take 4:=by rw [List.take_of_length_le];rw [List.length_drop];omega
 have ecs:cs=(cs.drop 0).take 4++((cs.drop 4).take 4):=by
  have a:cs=cs.drop 0:=rfl
  rw [a0] at a
  rw [a1] at a
  exact a
 rw [ecs]
 exact ⟨(x0,x1),_,_,rfl,gL.1,JJ.1,gL.2,JJ.2⟩
set_option maxRecDepth 100000 in
theorem xQ {v:Value} {d:DataW H} {ps:List MemPlace} {r:_root_.Go.Reach} {b0:Nat} (hv:Value.okWide Tryz.prog w r b0 29 v) (h:DataW.Trod enc Tryz.prog w 0 (fun _=>true) held 29 v d ps):∃ es:List (RR×RR),eE (xY xP) 8 w v es:=
 open_sl Tryz.underlying29 (by kernel_rfl) (by omega) (fun h=>JA h) hv h
def RulC (w:World) (cs:List Value) (a b:RR) (keep:Int):Prop:=∃ x y,cs=x++(y++[.int .i64 keep])∧tJ w x a∧tJ w y b
set_option maxRecDepth 100000 in
theorem Nc {fuel:Nat} {cs:List Value} {x:DataW H×List MemPlace} (h:DataW.trod enc Tryz.prog w 0 (fun _=>true) held fuel 28 cs=some x):∃ (a b:RR) (keep:Int),RulC w cs a b keep∧(Lit.int .i64 keep).wf=true:=by
 obtain ⟨zs,n,rfl,rfl,hl,jJ,hf⟩:=DataW.trod_struct Tryz.underlying28 h
 have xU:cs.length=9:=by
  have c:Tryz.prog.cellsOf 28=9:=by kernel_rfl
  rw [c] at hl;exact hl
 have hy2:zs.length=3:=jJ
 obtain ⟨z0,kG⟩:∃ z,zs[0]? =some z:=⟨_,List.getElem?_eq_getElem (by omega)⟩
 obtain ⟨z1,lj⟩:∃ z,zs[1]? =some z:=⟨_,List.getElem?_eq_getElem (by omega)⟩
 obtain ⟨z2,lO⟩:∃ z,zs[2]? =some z:=⟨_,List.getElem?_eq_getElem (by omega)⟩
 have c_int:Tryz.prog.cellsOf 3=1:=by kernel_rfl
 have DG:Tryz.prog.cellsOf 26=4:=by kernel_rfl
 have h0:=hf 0 _ rfl
 rw [kG] at h0
 change DataW.trod enc Tryz.prog w 0 (fun _=>true) held n 26 ((cs.drop 0).take (Tryz.prog.cellsOf 26))=some z0 at h0
 rw [DG] at h0
 have h1:=hf 1 _ rfl
 rw [lj] at h1
 change DataW.trod enc Tryz.prog w 0 (fun _=>true) held n 26 ((cs.drop 4).take (Tryz.prog.cellsOf 26))=some z1 at h1
 rw [DG] at h1
 have h2:=hf 2 _ rfl
 rw [lO] at h2
 change DataW.trod enc Tryz.prog w 0 (fun _=>true) held n 3 ((cs.drop 8).take (Tryz.prog.cellsOf 3))=some z2 at h2
 rw [c_int] at h2
 obtain ⟨x0,gL⟩:=vP h0
 obtain ⟨x1,JJ⟩:=vP h1
 obtain ⟨k2,e2,_,hk2⟩:=DataW.trod_int Tryz.underlying3 h2
 have a0:cs.drop 0=(cs.drop 0).take 4++cs.drop 4:=qS cs 0 4 4 rfl
 have a1:cs.drop 4=(cs.drop 4).take 4++cs.drop 8:=qS cs 4 4 8 rfl
 have a2:cs.drop 8=(cs.drop 8).take 1:=by rw [List.take_of_length_le];rw [List.length_drop];omega
 have ecs:cs=(cs.drop 0).take 4++((cs.drop 4).take 4++((cs.drop 8).take 1)):=by
  have a:cs=cs.drop 0:=rfl
  rw [a0] at a
  rw [a1] at a
  rw [a2] at a
  exact a
 rw [ecs]
 exact ⟨x0,x1,k2,⟨_,_,by rw [e2],gL.1,JJ.1⟩,hk2⟩
set_option maxRecDepth 100000 in
theorem AW {v:Value} {d:DataW H} {ps:List MemPlace} {r:_root_.Go.Reach} {b0:Nat} (hv:Value.okWide Tryz.prog w r b0 28 v) (h:DataW.Trod enc Tryz.prog w 0 (fun _=>true) held 28 v d ps):∃ (a b:RR) (keep:Int),jl w v a b keep:=by
 obtain ⟨cs,rfl,_⟩:=WideShapes.okWide_struct Tryz.underlying28 hv
 obtain ⟨fuel,hf⟩:=h
 obtain ⟨a,b,keep,⟨_,_,he,⟨p,c,r,d,rfl,h1⟩,⟨p',c',r',d',rfl,h2⟩⟩,_⟩:=Nc hf
 have DW:cs.toList=[.bool a.1,.slice p a.2.1.length c,.bool a.2.2.1,.slice r a.2.2.2.length d,.bool b.1,.slice p' b.2.1.length c',.bool b.2.2.1,.slice r' b.2.2.2.length d',.int .i64 keep]:=by simpa [Value.cells] using he
 have hc:cs=#[.bool a.1,.slice p a.2.1.length c,.bool a.2.2.1,.slice r a.2.2.2.length d,.bool b.1,.slice p' b.2.1.length c',.bool b.2.2.1,.slice r' b.2.2.2.length d',.int .i64 keep]:=by rw [←Array.toArray_toList (xs:=cs),DW]
 exact ⟨a,b,keep,p,c,r,d,p',c',r',d',by rw [hc],h1,h2⟩
end
end Go.Proofs.YtabalinjfgcfeaaGreat
