/-Ea of the proof,laid behind one another. -/
import Derived.Test.YtlfdmhfhkgpmbaaGreatKAdjustBalance2
set_option linter.all false
set_option maxHeartbeats 64000000
namespace Go.Proofs.YtlfdmhfhkgpmbaaGreat
section
open Go.RowKit Go.MapKept
structure yz (ad:List Nat) (w w':World):Prop where
 os:w'.os=w.os
 tape:w'.tape=w.tape
 output:w'.output=w.output
 size:w.heap.size<=w'.heap.size
 nX:∀ g,g<w.heap.size->g∉ad->w'.heap[g]? =w.heap[g]?
theorem yz.of {ad:List Nat} {w w':World} (h:aw w w'):yz ad w w':=⟨h.os,h.tape,h.output,h.size,λg hg _=>Below.block h g hg⟩
theorem yz.ax {ad:List Nat} {a b c:World} (h:yz ad a b) (k:yz ad b c):yz ad a c:=
 ⟨k.os.trans h.os,k.tape.trans h.tape,k.output.trans h.output,Nat.le_trans h.size k.size,λg hg hn=>(k.nX g (Nat.lt_of_lt_of_le hg h.size) hn).trans (h.nX g hg hn)⟩
def kF (K:KC) (ad:List Nat) (w:World):Prop:=∀ g∈ad,∃ t cs,aW w g t (List.toArray cs)/\K.fz t=false/\cs.all aL=true
theorem yz.kp {K:KC} {ad:List Nat} {w w':World} (h:yz ad w w') (ha:kF K ad w):aR K w w':=by
 have no:∀ g,g∈ad->∀ o,w.heap[g]? =some o->∃ t cs,o=Obj.cells (List.toArray cs) t/\K.fz t=false/\cs.all aL=true:=λg hg o ho=>by
  obtain⟨t,cs,h1,h2,h3⟩:=ha g hg
  have:=(show w.heap[g]? =_ from h1).symm.trans ho
  cases this
  exact⟨t,cs,rfl,h2,h3⟩
 refine⟨h.size,λa x _ hx=> ?_,λt g cur hf _ hg=> ?_,λg es c hg=> ?_⟩
 ·have hlt:=World.block_lt_of_cell? w a hx
  by_cases hm:a.block∈ad
  ·obtain⟨t,cs,h1,h2,h3⟩:=ha _ hm
   exfalso
   have hx':=hx
   simp only[World.cell?,show w.heap[a.block]? =_ from h1] at hx'
   simp at hx'
   have:=List.all_eq_true.1 h3 _ (List.mem_of_getElem? hx'.2)
   cases this
  ·rw[World.cell?_of_block (w:=w) (h.nX _ hlt hm)];exact hx
 ·refine (h.nX g (Array.getElem?_eq_some_iff.1 hg).1 λhm=> ?_).trans hg
  obtain⟨t',cs,e,h2,_⟩:=no g hm _ hg
  cases e
  rw[h2] at hf;cases hf
 ·refine (h.nX g (Array.getElem?_eq_some_iff.1 hg).1 λhm=> ?_).trans hg
  obtain⟨t',cs,e,_⟩:=no g hm _ hg
  cases e
def iG (N:Nat) (ad:List Nat) (w0:World) (i g:Nat):Prop:=if 2*N<=i then ad[i-2*N]? =some g else (w0.heap.size<=g\/g∈ad)
def vL (K:KC) (ad:List Nat) (w0 w:World):Prop:=yz ad w0 w/\kF K ad w
theorem kF.lt {K:KC} {ad:List Nat} {w:World} (h:kF K ad w) {g:Nat} (hg:g∈ad):g<w.heap.size:=by
 obtain⟨t,cs,h1,_⟩:=h g hg
 exact h1.lt
theorem newA_ad {N:Nat} {ad:List Nat} {w0:World} {g:Nat} (h:g∈ad):∃ i,iG N ad w0 i g:=by
 obtain⟨j,hj⟩:=List.mem_iff_getElem?.1 h
 exact⟨2*N+j,by unfold iG;rw[if_pos aa,Nat.add_sub_cancel_left];exact hj⟩
theorem lG {N:Nat} {ad:List Nat} {w0:World} {i g:Nat} (h:iG N ad w0 i g):w0.heap.size<=g\/g∈ad:=by
 unfold iG at h
 split at h
 ·exact .inr (List.mem_of_getElem? h)
 ·exact h
theorem Gb {K:KC} {N:Nat} {ad:List Nat} {w0 w w':World} (h0:kF K ad w0) (h:vL K ad w0 w) (keep:∀ b,b<w0.heap.size->K.S b) (s:Stp K (iG N ad w0) w w'):vL K ad w0 w':=by
 obtain⟨h1,h2⟩:=h
 refine⟨⟨s.os.trans h1.os,s.tape.trans h1.tape,s.output.trans h1.output,Nat.le_trans h1.size s.size,λg hg hn=> ?_⟩,λg hg=> ?_⟩
 ·rcases s.nX g (Nat.lt_of_lt_of_le hg h1.size) with e|⟨⟨i,hi⟩,_⟩|e
  ·exact e.trans (h1.nX g hg hn)
  ·rcases lG hi with e|e
   ·omega
   ·exact absurd e hn
  ·exact absurd (keep g hg) e
 ·rcases s.nX g (h2.lt hg) with e|⟨_,t,cs,g1,g2,g3⟩|e
  ·obtain⟨t,cs,g1,g2,g3⟩:=h2 g hg
   exact⟨t,cs,e.trans g1,g2,g3⟩
  ·exact⟨t,cs,g1,g2,g3⟩
  ·exact absurd (keep g (h0.lt hg)) e
theorem Gc {K:KC} {N:Nat} {ad:List Nat} {w0 w:World} {a:Addr} {u:Value} (h:vL K ad w0 w) (hn:∀ i,¬ iG N ad w0 i a.block) (hc:w0.cell? a=some u):w.cell? a=some u:=by
 rw[World.cell?_of_block (w:=w0) (h.1.nX _ (World.block_lt_of_cell? w0 a hc) λhm=>by
  obtain⟨i,hi⟩:=newA_ad (N:=N) (w0:=w0) hm
  exact hn i hi)]
 exact hc
theorem Eu {N:Nat} {ad:List Nat} {w0:World} {i g:Nat} (hi:i<2*N) (hg:w0.heap.size<=g):iG N ad w0 i g:=by
 unfold iG;rw[if_neg aa];exact .inl hg
theorem newA_mv {N:Nat} {ad:List Nat} {w0:World} {i j g:Nat} (h:iG N ad w0 i g) (hj:j<2*N):iG N ad w0 j g:=by
 have:=lG h
 unfold iG;rw[if_neg aa];exact this
def lp (w:World) (g:Nat) (o:Obj):World:={ w with heap:=w.heap.setIfInBounds g o }
theorem Ev {w:World} {g:Nat} (o:Obj) (h:g<w.heap.size):(lp w g o).heap[g]? =some o:=by simp[lp,h]
theorem xT {w:World} {g q:Nat} (o:Obj) (h:q≠g):(lp w g o).heap[q]? =w.heap[q]? :=by
 simp[lp,Ne.symm h]
theorem Gd (w:World) (g:Nat) (o:Obj):(lp w g o).heap.size=w.heap.size:=by simp[lp]
theorem Al {ad:List Nat} {w:World} {g:Nat} (o:Obj) (h:g∈ad):yz ad w (lp w g o):=
 ⟨rfl,rfl,rfl,Nat.le_of_eq (Gd w g o).symm,λq _ hq=>xT o λe=>hq (e▸h)⟩
def CJ (H:Hp) (β:Nat->Nat) (N:Nat):Nat->List Nat->World->World
 | _,[],w=>w
 | k,g::r,w=>CJ H β N (k+1) r (match H (2*N+k) with|some (t,cs)=>lp w g (.cells (cs.map (AV.leaf β)).toArray t)|none=>w)
theorem Am {K:KC} {ad:List Nat} {w0:World} {H:Hp} {β:Nat->Nat} {N:Nat} (hH:∀ i t cs,H i=some (t,cs)->K.fz t=false/\cs.all aB=true):∀ (l:List Nat) (k:Nat) (w:World),vL K ad w0 w->(∀ g∈l,g∈ad)->l.Nodup->
  aR K w (CJ H β N k l w)/\vL K ad w0 (CJ H β N k l w)/\(∀ g,g∉l->(CJ H β N k l w).heap[g]? =w.heap[g]?)/\∀ j g t cs,l[j]? =some g->H (2*N+(k+j))=some (t,cs)->aW (CJ H β N k l w) g t (cs.map (AV.leaf β)).toArray
 | [],k,w,h,_,_=>⟨aR.refl _ _,h,λ_ _=>rfl,λj g t cs hj=>by simp at hj⟩
 | g::r,k,w,h,hs,hn=>by
   have hg:g∈ad:=hs g (List.mem_cons_self ..)
   obtain⟨n1,n2⟩:=List.nodup_cons.1 hn
   have step:∃ w1,(match H (2*N+k) with|some (t,cs)=>lp w g (.cells (cs.map (AV.leaf β)).toArray t)|none=>w)=w1/\aR K w w1/\vL K ad w0 w1/\(∀ q,q≠g->w1.heap[q]? =w.heap[q]?)/\∀ t cs,H (2*N+k)=some (t,cs)->aW w1 g t (cs.map (AV.leaf β)).toArray:=by
    cases hh:H (2*N+k) with
    | none=>exact⟨w,rfl,aR.refl _ _,h,λ_ _=>rfl,λt cs e=>by cases e⟩
    | some c=>
      obtain⟨t,cs⟩:=c
      obtain⟨q1,q2⟩:=hH _ t cs hh
      have hlt:=h.2.lt hg
      have nO:aW (lp w g (.cells (cs.map (AV.leaf β)).toArray t)) g t (cs.map (AV.leaf β)).toArray:=Ev _ hlt
      have hb:=Al (w:=w) (.cells (cs.map (AV.leaf β)).toArray t) hg
      refine⟨_,rfl,hb.kp h.2,⟨h.1.ax hb,λq hq=> ?_⟩,λq hq=>xT _ hq,λt' gw e=>by cases e;exact nO⟩
      by_cases e:q=g
      ·subst e;exact⟨t,_,nO,q1,dT q2⟩
      ·obtain⟨t',gw,g1,g2,g3⟩:=h.2 q hq
       exact⟨t',gw,(xT _ e).trans g1,g2,g3⟩
   obtain⟨w1,e1,s1,s2,s3,s4⟩:=step
   unfold CJ
   rw[e1]
   obtain⟨k1,k2,k3,k4⟩:=Am hH r (k+1) w1 s2 (λq hq=>hs q (List.mem_cons_of_mem _ hq)) n2
   refine⟨s1.ax k1,k2,λq hq=>(k3 q λe=>hq (List.mem_cons_of_mem _ e)).trans (s3 q λe=>hq (by rw[e];exact List.mem_cons_self ..)),λj q t cs hj hh=> ?_⟩
   cases j with
   | zero=>
     simp at hj
     subst hj
     exact (k3 g n1).trans (s4 t cs hh)
   | succ j=>
     refine k4 j q t cs (by simpa using hj) ?_
     rw[<-hh]
     congr 1
     omega
theorem CK {K:KC} {ad:List Nat} {N:Nat} {w0 w1:World} (hd:ad.Nodup) (h:vL K ad w0 w1) (H:Hp) (hH:∀ i t cs,H i=some (t,cs)->K.fz t=false/\cs.all aB=true) (hf:∀ i,2*N+ad.length<=i->H i=none):
  ∃ β w2,aR K w1 w2/\vL K ad w0 w2/\(∀ i t cs,H i=some (t,cs)->iG N ad w0 i (β i)/\aW w2 (β i) t (cs.map (AV.leaf β)).toArray)/\∀ i j,H i≠none->H j≠none->β i=β j->i=j:=by
 let β:Nat->Nat:=λi=>if 2*N<=i then ad.getD (i-2*N) 0 else w1.heap.size+i
 have Ji:∀ i,i<2*N->β i=w1.heap.size+i:=λi hi=>if_neg aa
 have hβ2:∀ i,2*N<=i->β i=ad.getD (i-2*N) 0:=λi hi=>if_pos hi
 have mb:=sU H β w1 (2*N)
 have ha':vL K ad w0 (mkW H β (2*N) w1):=⟨h.1.ax (yz.of mb),λg hg=>by
  obtain⟨t,cs,g1,g2,g3⟩:=h.2 g hg
  exact⟨t,cs,g1.bt mb,g2,g3⟩⟩
 obtain⟨k1,k2,k3,k4⟩:=Am (β:=β) (N:=N) hH ad 0 _ ha' (λ_ h=>h) hd
 have hlt:∀ i,2*N<=i->H i≠none->∃ g,ad[i-2*N]? =some g/\β i=g:=λi hi hn=>by
  have:i-2*N<ad.length:=by
   apply Classical.byContradiction
   intro e
   exact hn (hf i aa)
  refine⟨ad[i-2*N],List.getElem?_eq_getElem this,?_⟩
  rw[hβ2 i hi]
  simp[List.getD_eq_getElem?_getD,this]
 refine⟨β,CJ H β N 0 ad (mkW H β (2*N) w1),(aR.of mb).ax k1,k2,λi t cs hi=> ?_,λi j hi hj e=> ?_⟩
 ·by_cases c:2*N<=i
  ·obtain⟨g,g1,g2⟩:=hlt i c (by rw[hi];simp)
   rw[g2]
   refine⟨by unfold iG;rw[if_pos c];exact g1,k4 (i-2*N) g t cs g1 ?_⟩
   rw[<-hi]
   congr 1
   omega
  ·rw[Ji i aa]
   have hs:=Nat.le_trans h.1.size (Nat.le_add_right w1.heap.size i)
   refine⟨Eu aa hs,?_⟩
   refine (k3 _ λhm=> ?_).trans (Ct H β w1 hi _ aa)
   have:=h.2.lt hm
   omega
 ·by_cases c:2*N<=i <;> by_cases d:2*N<=j
  ·obtain⟨g,g1,g2⟩:=hlt i c hi
   obtain⟨g',g3,g4⟩:=hlt j d hj
   rw[g2,g4] at e
   subst e
   have:=(List.getElem?_inj (List.getElem?_eq_some_iff.1 g1).1 hd).1 (g1.trans g3.symm)
   omega
  ·obtain⟨g,g1,g2⟩:=hlt i c hi
   rw[g2,Ji j aa] at e
   have:=h.2.lt (List.mem_of_getElem? g1)
   omega
  ·obtain⟨g,g1,g2⟩:=hlt j d hj
   rw[g2,Ji i aa] at e
   have:=h.2.lt (List.mem_of_getElem? g1)
   omega
  ·rw[Ji i aa,Ji j aa] at e
   omega
abbrev Ao (P:Program) (w:World) (N:Nat) (K:KC) (SU:TypeId->Bool) (ti:TypeId->Option TI) (keep:∀ b,b<w.heap.size->K.S b) (ad:List Nat) (hd:ad.Nodup) (ha:kF K ad w):Cx where
 P:=P
 w0:=w
 N:=N
 K:=K
 SU:=SU
 ti:=ti
 keep:=keep
 tZ:=iG N ad w
 Old:=vL K ad w
 top:=2*N+ad.length
 topN:=Nat.le_add_right _ _
 rL:=λ_ _ h1 h2=>Eu h1 h2
 newMv:=λ_ _ _ h1 h2=>newA_mv h1 h2
 gR:=λ_ h=>h.1.size
 pL:=⟨yz.of (aw.refl _),ha⟩
 sV:=λ_ _ h k _ s=>Gb ha h k s
 En:=λ_ _ _ h hn hc=>Gc h hn hc
 lay:=λ_ H h hH hf=>CK hd h H hH hf
def Fr.Ge:Nat->List AV->Fr
 | _,[]=>λ_=>none
 | k,v::r=>λn=>bif Nat.beq n k then some v else Fr.Ge (k+1) r n
theorem Fr.ta:∀ (l:List AV) (k n:Nat) (v:AV),Fr.Ge k l n=some v->k<=n/\l[n-k]? =some v
 | [],k,n,v,h=>by cases h
 | x::r,k,n,v,h=>by
   unfold Fr.Ge at h
   cases hb:Nat.beq n k with
   | true=>
     rw[hb] at h
     cases h
     have e:=Nat.eq_of_beq_eq_true hb
     exact⟨by omega,by rw[e];simp⟩
   | false=>
     rw[hb] at h
     obtain⟨h2,h3⟩:=Fr.ta r (k+1) n v h
     refine⟨by omega,?_⟩
     rw[show n-k=(n-(k+1))+1 by omega]
     simpa using h3
section
variable {C:Cx} {F:Fr} {H:Hp} {w:World} {m:Option (List FuncId)} {full:Array Oper} {K:Fr->Hp->World->Prop} {o:Oper} {r:List Oper}
theorem rT {f:FuncId} {fn:Func} {c:Code} {args:List AV} {R:Ending->World->Prop} {β:Nat->Nat} (hf:C.P.funcs[f]? =some fn) (hb:fn.body=some c) (hN:fn.ntmps=C.N) (ha:args.length<=C.N)
  (au:∀ i t cs,H i=some (t,cs)->jd C β C.w0 i t cs) (hap:∀ i j,H i≠none->H j≠none->β i=β j->i=j) (hp:xM C H) (nO:∀ v∈args,∀ i∈v.ids,H i≠none)
  (h:VS C (bodyPost C.P fn R) [.code c] (Fr.Ge 0 args) H C.w0):Calls C.P f (args.map (AV.aK β)).toArray C.w0 R:=by
 refine calls_of_wp hf hb ?_
 refine h β _ C.w0 ⟨rfl,?_,λd v hd=> ?_,au,hap,λd v hd i hi=> ?_,λd v hd=> ?_,hp,C.pL⟩ (aR.refl _ _)
 ·simp[hN];omega
 ·obtain⟨_,h2⟩:=Fr.ta args 0 d v hd
  rw[Nat.sub_zero] at h2
  show ((args.map (AV.aK β)).toArray++_).getD d undef=v.aK β
  have hlt:=(List.getElem?_eq_some_iff.1 h2).1
  rw[Array.getD_eq_getD_getElem?,Array.getElem?_append_left (by simpa using hlt)]
  simp[h2]
 ·obtain⟨_,h2⟩:=Fr.ta args 0 d v hd
  exact nO v (List.mem_of_getElem? h2) i hi
 ·obtain⟨_,h2⟩:=Fr.ta args 0 d _ hd
  rw[Nat.sub_zero] at h2
  have:=(List.getElem?_eq_some_iff.1 h2).1
  omega
theorem VO.callM {g:FuncId} {args:List AV} {i:Nat} {t:TypeId} {cs:List AV} (e:stepOf C full F H o=.call (.fn g args)) (hH:H i=some (t,cs)) (hi:i∈eG args) (hf:jc C.P g) (hl:1<=lvl C.SU m o)
  (h:∀ w1 β,aR C.K w w1->C.Old w1->gW C β H (eG args) w1->Calls C.P g (args.map (AV.aK β)).toArray w1 λe w2=>∃ v ds,e=.returned v/\yz [β i] w1 w2/\aW w2 (β i) t (List.toArray ds)/\ds.all aL=true/\
   (aR C.K w w2->aR C.K w1 w2->C.Old w2->ak C m full r K (F.bl o.dst (.val v)) (H.put i (t,ds.map .val)) w2)):ak C m full (o::r) K F H w:=by
 show one C m full o (ak C m full r K) F H w
 unfold one
 rw[e]
 refine λw1 β h1 h2 h3=>⟨hf,(h w1 β h1 h2 h3).mono ?_⟩
 rintro e w2 ⟨v,ds,rfl,hb,hc,hk,hv⟩
 have ho:=h3.own i (.base hi) t cs hH
 refine⟨β,.val v,none,[(i,(t,ds.map .val))],rfl,λi hi=>(by cases hi),.inl hl,.inr rfl,?_,λa b c _ _=>hv a b c⟩
 refine⟨hb.os,hb.tape,hb.output,hb.size,λk hk hx _ _=>hb.nX k hk (by simpa using hx),λ_ _=>rfl,λi hi=>(by cases hi),λi hi=>(by cases hi),λx hx=> ?_,λx hx=> ?_,by simp,λx hx y hy _=> ?_,λx hx j hj=> ?_⟩
 ·cases List.mem_singleton.1 hx
  exact⟨ho.new,ho.ty,by rw[aN];exact hc,cV hk⟩
 ·cases List.mem_singleton.1 hx
  exact .inl ⟨by rw[hH];simp,by simp,.base hi,rfl⟩
 ·cases List.mem_singleton.1 hx;cases List.mem_singleton.1 hy;rfl
 ·cases List.mem_singleton.1 hx
  rw[ah] at hj;cases hj
def Ew (z:Value) (ok:Bool):Option (Nat×Value)->Value
 | some (_,v)=>if ok=true then .tuple #[v,.bool true] else v
 | none=>if ok=true then .tuple #[z,.bool false] else z
theorem ux {P:Program} {w:World} {t kt et:TypeId} {d:TypeDesc} {rr:Nat} {es:Array MapEntry} {c:Nat} {k z:Value} {res:Option (Nat×Value)} (ok:Bool) (ht:P.underlying t=some (.map kt et)) (hd:P.underlying kt=some d) (hk:IsKey d k)
  (hz:(zeroValue et).run P w=.ok z w) (hm:w.heap[rr]? =some (.map es c)) (hr:Instr.findNow d k es.toList 0=some res):(Instr.lookup t (.map (some rr)) k ok).run P w=.ok (Ew z ok res) w:=by
 have hc:=run_checkKey (w:=w) hd hk es.isEmpty 9999
 cases res with
 | none=>cases ok <;> simp[Instr.lookup,run_underlying ht,MapKept.run_getObj_map hm,hc,run_findKey hd hr,hz,Result.andThen,Ew]
 | some p=>cases ok <;> simp[Instr.lookup,run_underlying ht,MapKept.run_getObj_map hm,hc,run_findKey hd hr,Result.andThen,Ew]
theorem VO.look {t kt et:TypeId} {d:TypeDesc} {x y:Operand} {ok:Bool} {rr:Nat} {es:Array MapEntry} {c:Nat} {k z:Value} {res:Option (Nat×Value)}
  (e:stepOf C full F H o=.call (.op o [.val (.map (some rr)),.val k])) (ho:o.op=.lookup t x y ok) (ht:C.P.underlying t=some (.map kt et)) (hd:C.P.underlying kt=some d) (hk:IsKey d k) (hz:∀ w,(zeroValue et).run C.P w=.ok z w)
  (hm:∀ w1,aR C.K w w1->C.Old w1->w1.heap[rr]? =some (.map es c)) (hr:Instr.findNow d k es.toList 0=some res)
  (h:∀ w2,aR C.K w w2->C.Old w2->ak C m full r K (F.bl o.dst (.val (Ew z ok res))) H w2):ak C m full (o::r) K F H w:=
 VO.Ak e λw1 β h1 h2 _=>⟨_,w1,λρ ff=>.inl (by
   rw[ho] at ff
   simp[Op.operands] at ff
   obtain⟨q1,q2⟩:=ff
   unfold execOp
   simp only[ho,q1,q2,AV.aK]
   simp[ux ok ht hd hk (hz w1) (hm w1 h1 h2) hr,Result.andThen]),_,rfl,aw.refl _,λa1 _ a3=>h w1 a1 a3⟩
end
def Hp.one (i:Nat) (t:TypeId) (cs:List Value):Hp:=λn=>bif Nat.beq n i then some (t,cs.map .val) else none
theorem Hp.qX (i n:Nat) (t:TypeId) (cs:List Value):Hp.one i t cs n=if n=i then some (t,cs.map .val) else none:=by
 unfold Hp.one
 by_cases h:n=i
 ·subst h;simp
 ·have:Nat.beq n i=false:=by rw[<-Bool.not_eq_true,Nat.beq_eq];exact h
  simp[this,h]
theorem ad1 {K:KC} {w:World} {g:Nat} {t:TypeId} {cs:List Value} (hc:aW w g t cs.toArray) (ht:K.fz t=false) (hk:cs.all aL=true):kF K [g] w:=λq hq=>by
 cases List.mem_singleton.1 hq
 exact⟨t,cs,hc,ht,hk⟩
theorem qY (g:Nat):[g].Nodup:=by simp
theorem Ap (P:Program) (w:World) (N:Nat) (K:KC) (SU:TypeId->Bool) (ti:TypeId->Option TI) (keep:∀ b,b<w.heap.size->K.S b) {g:Nat} {t:TypeId} {cs us:List Value} {f:FuncId} {fn:Func} {c:Code} {R:Ending->World->Prop} (hf:P.funcs[f]? =some fn) (hb:fn.body=some c) (hN:fn.ntmps=N) (ha:us.length+1<=N)
  (hc:aW w g t cs.toArray) (ht:K.fz t=false) (hk:cs.all aL=true)
  (h:VS (Ao P w N K SU ti keep [g] (qY g) (ad1 hc ht hk)) (bodyPost P fn R) [.code c] (Fr.Ge 0 (.box (2*N) 0::us.map .val)) (Hp.one (2*N) t cs) w):Calls P f (Value.pointer (some ⟨g,0,none⟩)::us).toArray w R:=by
 have:=rT (C:=Ao P w N K SU ti keep [g] (qY g) (ad1 hc ht hk)) (R:=R) (args:=.box (2*N) 0::us.map .val) (β:=λ_=>g) (H:=Hp.one (2*N) t cs) hf hb hN (by simpa using ha) (λi t' gw hi=> ?_) (λi j hi hj _=> ?_) ⟨λi t' gw hi=> ?_,λi t' gw hi=> ?_,λi hi=> ?_⟩ (λv hv i hi=> ?_) h
 ·have e:(AV.box (2*N) 0::us.map AV.val).map (AV.aK λ_=>g)=Value.pointer (some ⟨g,0,none⟩)::us:=by
   rw[List.map_cons,fF];rfl
  rw[e] at this
  exact this
 ·rw[Hp.qX] at hi
  split at hi
  ·rename_i e
   cases hi
   refine⟨?_,ht,by rw[aN];exact hc,cV hk⟩
   show iG N [g] w i g
   unfold iG
   rw[if_pos aa,e,Nat.sub_self]
   rfl
  ·cases hi
 ·rw[Hp.qX] at hi hj
  split at hi
  ·split at hj
   ·omega
   ·exact absurd rfl hj
  ·exact absurd rfl hi
 ·rw[Hp.qX] at hi
  split at hi
  ·cases hi;exact⟨ht,cV hk⟩
  ·cases hi
 ·rw[Hp.qX] at hi
  split at hi
  ·cases hi
   intro j hj
   rw[ah] at hj;cases hj
  ·cases hi
 ·rw[Hp.qX,if_neg]
  intro e
  have:(2*N+[g].length)<=i:=hi
  simp at this
  omega
 ·rcases List.mem_cons.1 hv with rfl|hv
  ·have:i=2*N:=by simpa [AV.ids] using hi
   rw[Hp.qX,if_pos this];simp
  ·obtain⟨u,_,rfl⟩:=List.mem_map.1 hv
   cases hi
theorem own1 {P:Program} {w w':World} {N:Nat} {K:KC} {SU:TypeId->Bool} {ti:TypeId->Option TI} {keep:∀ b,b<w.heap.size->K.S b} {g:Nat} {ha:kF K [g] w} {β:Nat->Nat} {i:Nat} {t:TypeId} {cs:List AV} (h:jd (Ao P w N K SU ti keep [g] (qY g) ha) β w' i t cs) (hi:i=2*N):aW w' g t (cs.map (AV.leaf β)).toArray:=by
 have h1:iG N [g] w i (β i):=h.new
 unfold iG at h1
 rw[if_pos aa,hi,Nat.sub_self] at h1
 have h2:g=β (2*N):=by simpa using h1
 have h3:=h.cls
 rw[hi,<-h2] at h3
 exact h3
def mQ:Nat->List (Value×FuncId)->List MapEntry
 | _,[]=>[]
 | n,(k,g)::r=>⟨k,.func (.func g) #[] #[],n⟩::mQ (n+1) r
def Ex (d:TypeDesc):List MapEntry->List (Value×FuncId)->Prop
 | _,[]=>True
 | es,(k,g)::r=>IsKey d k/\Instr.findNow d k es 0=some none/\Ex d (es++[⟨k,.func (.func g) #[] #[],es.length⟩]) r
def xU (t:TypeId) (d:Nat):List (Value×FuncId)->List Oper->Prop
 | [],[]=>True
 | (k,g)::q,o::r=>o.guard=none/\o.op=.insert t (.tmp d) (.const k) (.func g)/\o.dst=none/\xU t d q r
 | _,_=>False
theorem pW {P:Program} {w:World} {t kt et:TypeId} {d:TypeDesc} {rr:Nat} {es:Array MapEntry} {c:Nat} {k v:Value} (ht:P.underlying t=some (.map kt et)) (hd:P.underlying kt=some d) (hk:IsKey d k)
  (hm:w.heap[rr]? =some (.map es c)) (hr:Instr.findNow d k es.toList 0=some none):(Instr.mapUpdate t (.map (some rr)) k v).run P w=.ok () (lp w rr (.map (es.push ⟨k,v,c⟩) (c+1))):=by
 have hc:=run_checkKey (w:=w) hd hk false 9999
 simp[Instr.mapUpdate,run_underlying ht,MapKept.run_getObj_map hm,hc,run_findKey hd hr,Result.andThen,MapKept.run_setObj_map _ hm,lp]
theorem uy {P:Program} {full:Array Oper} {Q:Exit->Act->World->Prop} {t kt et:TypeId} {d:TypeDesc} {dd b:Nat} (ht:P.underlying t=some (.map kt et)) (hd:P.underlying kt=some d) {tl:List Oper} {a:Act} (ha:a.eval (.tmp dd)=.map (some b)):
  ∀ (ins:List Oper) (BU:List (Value×FuncId)) (es:List MapEntry) (w:World),xU t dd BU ins->Ex d es BU->w.heap[b]? =some (.map es.toArray es.length)->
    (∀ w2,yz [b] w w2->w2.heap[b]? =some (.map (es++mQ es.length BU).toArray (es.length+BU.length))->wpList P full Q tl a w2)->wpList P full Q (ins++tl) a w
 | [],[],es,w,hm,hf,hw,h=>h w (yz.of (aw.refl _)) (by simpa [mQ] using hw)
 | [],_::_,es,w,hm,hf,hw,h=>(show False from hm).elim
 | o::r,[],es,w,hm,hf,hw,h=>(show False from hm).elim
 | o::r,(k,g)::q,es,w,hm,hf,hw,h=>by
   obtain⟨h1,h2,h3,h4⟩:=hm
   obtain⟨f1,f2,f3⟩:=hf
   refine wpList_plain h1 λK hK=> ?_
   have hrun:=pW (P:=P) (w:=w) (v:=.func (.func g) #[] #[]) ht hd f1 hw f2
   have hlt:b<w.heap.size:=(Array.getElem?_eq_some_iff.1 hw).1
   refine Oper.wp_skip (w':=lp w b (.map (es.toArray.push ⟨k,.func (.func g) #[] #[],es.length⟩) (es.length+1))) ?_ (hK _ _ ?_)
   ·simp only[execOp,h2,ha]
    show (do Instr.mapUpdate t (.map (some b)) (a.eval (.const k)) (a.eval (.func g));pure Next.skip:Sem Next).run P w=_
    have e1:a.eval (.const k)=k:=rfl
    have e2:a.eval (.func g)=.func (.func g) #[] #[]:=rfl
    rw[e1,e2]
    simp[hrun,Result.andThen]
   ·rw[h3]
    show wpList P full Q (r++tl) a _
    refine uy ht hd ha r q (es++[⟨k,.func (.func g) #[] #[],es.length⟩]) _ h4 f3 ?_ λw2 b2 g2=>h w2 ((Al _ (List.mem_singleton.2 rfl)).ax b2) ?_
    ·rw[Ev _ hlt];simp
    ·rw[g2];simp[mQ];omega
theorem VS.mapLit {C:Cx} {Q:Exit->Act->World->Prop} {F:Fr} {H:Hp} {w:World} {st:List It} (hC:C.Ok) {id:Nat} {ops:Array Oper} {mk:Oper} {ins tl:List Oper} {t kt et:TypeId} {d:TypeDesc} {dd:Nat} (BU:List (Value×FuncId)) (hops:ops.toList=mk::(ins++tl))
  (hg:mk.guard=none) (hmk:mk.op=.makeMap t none) (fx:mk.dst=some dd) (hdN:dd<C.N) (ht:C.P.underlying t=some (.map kt et)) (hd:C.P.underlying kt=some d) (hins:xU t dd BU ins) (hf:Ex d [] BU)
  (h:∀ w2 b,aR C.K w w2->C.Old w2->w2.heap[b]? =some (.map (mQ 0 BU).toArray BU.length)->ak C none ops tl (VS C Q st) (F.put dd (.val (.map (some b)))) H w2):VS C Q (.code (.region id ops false)::st) F H w:=λβ a w' hr hk=>by
 refine wp_region_list ?_
 rw[hops]
 refine wpList_plain hg λK hK=> ?_
 refine Oper.ky (v:=.map (some w'.heap.size)) (w':=w'.alloc (.map #[] 0)) ?_ (hK _ _ ?_)
 ·simp[execOp,hmk,Instr.makeMap,Result.andThen]
 rw[fx]
 have hsz:dd<a.tmps.size:=by rw[hr.size];exact hdN
 have hev:(a.put (some dd) (.map (some w'.heap.size))).eval (.tmp dd)=.map (some w'.heap.size):=by
  show (a.tmps.setIfInBounds dd _).getD dd undef=_
  simp[Array.getD_eq_getD_getElem?,hsz]
 refine uy ht hd hev ins BU [] _ hins hf (MapKept.heap_alloc w' _).1 λw2 b2 g2=> ?_
 have hb:aw w' w2:=⟨b2.os,b2.tape,b2.output,Nat.le_trans cS b2.size,λg hg=>(b2.nX g (by simp;omega) (by simp;omega)).trans ((MapKept.heap_alloc w' _).2 g hg)⟩
 have jR:Rel C β F H a w2:=hr.changed (ids:=[]) (del:=none) (ups:=[]) (vH.none hb)
 have hr3:=jR.put (dst:=some dd) (by simpa [iD,Nat.blt_eq] using hdN) (v:=.val (.map (some w'.heap.size))) (λ_ hi=>by cases hi)
 exact oy hC (λβ F H w a w' h hr hk=>h β a w' hr hk) tl β _ H w2 _ w2 (h w2 w'.heap.size (hk.ax (aR.of hb)) jR.old (by simpa using g2)) hr3 (aR.refl _ _)
theorem CL {α:Type} {l:List α} {x:α} (h:l.head? =some x) (n:Nat):l=x::((l.drop 1).take n++l.drop (n+1)):=by
 cases l with
 | nil=>simp at h
 | cons y r=>simp at h;subst h;simp
theorem VS.mapLitN {C:Cx} {Q:Exit->Act->World->Prop} {F:Fr} {H:Hp} {w:World} {st:List It} (hC:C.Ok) {id:Nat} {ops:Array Oper} {mk:Oper} {t kt et:TypeId} {d:TypeDesc} {dd:Nat} (n:Nat) (BU:List (Value×FuncId)) (hops:ops.toList.head? =some mk)
  (hg:mk.guard=none) (hmk:mk.op=.makeMap t none) (fx:mk.dst=some dd) (hdN:dd<C.N) (ht:C.P.underlying t=some (.map kt et)) (hd:C.P.underlying kt=some d) (hins:xU t dd BU ((ops.toList.drop 1).take n)) (hf:Ex d [] BU)
  (h:∀ w2 b,aR C.K w w2->C.Old w2->w2.heap[b]? =some (.map (mQ 0 BU).toArray BU.length)->ak C none ops (ops.toList.drop (n+1)) (VS C Q st) (F.put dd (.val (.map (some b)))) H w2):VS C Q (.code (.region id ops false)::st) F H w:=
 VS.mapLit hC BU (CL hops n) hg hmk fx hdN ht hd hins hf h
theorem VS.fin {C:Cx} {F:Fr} {H:Hp} {w:World} (hC:C.Ok) {fn:Func} {R:Ending->World->Prop} {vs:List AV} (h:mP C F H fn.results.toList=some vs) (hR:∀ w' β,aR C.K w w'->C.Old w'->Ends C β H w'->R (.returned (jB (vs.map (AV.aK β)))) w'):VS C (bodyPost C.P fn R) [] F H w:=
 λβ a w' hr hk=>uv hC h hR β a w' hr hk
end
section
open Go.RowKit
theorem bld_of {P:Program} {t:TypeId} {zero:Value} {places:Array (Nat×Nat)} {fs:Array Field} (hz:∀ w,(zeroValue t).run P w=.ok zero w) (hu:P.underlying t=some (.struct fs))
  (hp:∀ w,(fs.mapM (λf=>do pure (f.offset,<-sizeOf f.type)):Sem (Array (Nat×Nat))).run P w=.ok places w) (ps:Array (Nat×Value)) (w:World) (cs:Array Value)
  (h:Instr.fill (places[·]?) zero.cells ps.toList=some cs):(Instr.build t ps).run P w=.ok (.agg cs) w:=by
 unfold Instr.build
 simp only[Sem.run_bind,hz,Result.andThen_ok,run_underlying hu,hp]
 rw[h]
 rfl
theorem fld_agg {P:Program} {t:TypeId} {k:Nat} {fs:Array Field} {f:Field} (o n:Nat) (hu:P.underlying t=some (.struct fs)) (hf:fs[k]? =some f) (ho:f.offset=o) (hb:∀ w,(isAgg f.type).run P w=.ok true w) (hs:∀ w,(sizeOf f.type).run P w=.ok n w)
  {cs:Array Value} {w:World} {v:Value} (h:some (Value.agg (cs.extract o (o+n)))=some v):(Instr.field t (.agg cs) k).run P w=.ok v w:=by
 cases h
 subst ho
 unfold Instr.field
 simp[run_underlying hu,hf,asAgg,part,hb,hs]
theorem fld_one {P:Program} {t:TypeId} {k:Nat} {fs:Array Field} {f:Field} (o:Nat) (hu:P.underlying t=some (.struct fs)) (hf:fs[k]? =some f) (ho:f.offset=o) (hb:∀ w,(isAgg f.type).run P w=.ok false w)
  {cs:Array Value} {w:World} {v:Value} (h:cs[o]? =some v):(Instr.field t (.agg cs) k).run P w=.ok v w:=by
 subst ho
 unfold Instr.field
 simp[run_underlying hu,hf,asAgg,part,hb,h]
inductive Gf (P:Program) (t:TypeId):Nat->List Field->List (Nat×Nat)->List Bool->Prop
 | nil {j:Nat}:Gf P t j [] [] []
 | cons {j:Nat} {f:Field} {fs:List Field} {p:Nat×Nat} {ps:List (Nat×Nat)} {a:Bool} {gs:List Bool} (h1:∀ b o w,(Instr.fieldAt t (.pointer (some ⟨b,o,none⟩)) j).run P w=.ok (.pointer (some ⟨b,o+p.1,none⟩)) w) (h2:f.offset=p.1) (h3:∀ w,(isAgg f.type).run P w=.ok a w) (h4:a=true->∀ w,(sizeOf f.type).run P w=.ok p.2 w) (h:Gf P t (j+1) fs ps gs):Gf P t j (f::fs) (p::ps) (a::gs)
theorem Gf.get {P:Program} {t:TypeId} {j:Nat} {fs:List Field} {ps:List (Nat×Nat)} {gs:List Bool} (h:Gf P t j fs ps gs):∀ (k:Nat) (p:Nat×Nat),ps[k]? =some p->(∀ b o w,(Instr.fieldAt t (.pointer (some ⟨b,o,none⟩)) (j+k)).run P w=.ok (.pointer (some ⟨b,o+p.1,none⟩)) w)/\∃ f a,fs[k]? =some f/\gs[k]? =some a/\f.offset=p.1/\(∀ w,(isAgg f.type).run P w=.ok a w)/\(a=true->∀ w,(sizeOf f.type).run P w=.ok p.2 w):=by
 induction h with
 | nil=>intro k p e;simp at e
 | cons h1 h2 h3 h4 _ ih=>
   intro k p e
   cases k with
   | zero=>simp at e;cases e;exact⟨h1,_,_,rfl,rfl,h2,h3,h4⟩
   | succ k=>
     have:=ih k p (by simpa using e)
     rw[show ∀ j:Nat,j+1+k=j+(k+1) from λj=>by omega] at this
     simpa using this
@[reducible] def tF (z:Value) (b:Bool) (e:Option (TypeId×Nat)) (k:Option IntKind) (p:Bool):TI:={ size:=1,agg:=false,zero:=z,places:=#[],FK:=#[],bool:=b,elem:=e,kind:=k,ptr:=p }
@[reducible] def tA (n:Nat) (z:Array Value) (p:Array (Nat×Nat)) (a:Array Bool):TI:={ size:=n,agg:=true,zero:=.agg z,places:=p,FK:=a,bool:=false,elem:=none,kind:=none }
theorem okF {P:Program} {t:TypeId} {z:Value} {b:Bool} {e:Option (TypeId×Nat)} {k:Option IntKind} {p:Bool} {d:TypeDesc} (hu:P.underlying t=some d) (hb:b=true->P.underlying t=some .bool:=by intro h;cases h;try kernel_rfl) (hs:∀ c n,e=some (c,n)->P.underlying t=some (.slice c)/\∀ w,(sizeOf c).run P w=.ok n w:=by intro c n h;cases h;try (constructor;kernel_rfl;intro w;kernel_rfl)) (hi:∀ q,k=some q->P.underlying t=some (.int q):=by intro q h;cases h;try kernel_rfl) (hp:p=true->P.underlying t=some (.pointer (P.pointee t)):=by intro h;cases h;try kernel_rfl)
  (hr:d.isRow=false:=by rfl) (h1:(P.info? t).map (·.size)=some 1:=by kernel_rfl) (h2:z.cells.size=1:=by rfl) (h3:(P.info? t).map (·.zero)=some (some z):=by kernel_rfl) (h4:(P.info? t).map (λq=>Nat.ble q.bytes (24*1))=some true:=by kernel_rfl) (h5:∀ w,(zeroValue t).run P w=.ok z w:=by intro w;kernel_rfl):TI.Ok P t (tF z b e k p) where
 row:=⟨_,hu,hr⟩
 isBool:=hb
 isSlice:=hs
 isInt:=hi
 Em:=hp
 wu:=h2
 zy:=h3
 bytes:=h4
 pos:=Nat.le_refl 1
 lone:=λ_=>rfl
 size:=h1
 zero:=h5
 ID:=λk p hp b o w=>by simp at hp
 fld:=λk p hp cs w v hv=>by simp at hp
 bld:=λh=>by cases h
theorem oI {P:Program} {t:TypeId} {n:Nat} {z:Array Value} {p:Array (Nat×Nat)} {a:Array Bool} {fs:Array Field} (hu:P.underlying t=some (.struct fs)) (hf:Gf P t 0 fs.toList p.toList a.toList:=by repeat first|exact .nil|refine .cons (λb o w=>by kernel_rfl) rfl (λw=>by kernel_rfl) (by intro h;cases h;try (intro w;kernel_rfl)) ?_)
  (h1:(P.info? t).map (·.size)=some n:=by kernel_rfl) (h2:z.size=n:=by rfl) (h3:(P.info? t).map (·.zero)=some (some (.agg z)):=by kernel_rfl) (h4:(P.info? t).map (λq=>Nat.ble q.bytes (24*n))=some true:=by kernel_rfl) (h5:∀ w,(zeroValue t).run P w=.ok (.agg z) w:=by intro w;kernel_rfl) (h6:0<n:=by exact bG rfl) (h7:∀ w,(fs.mapM (λf=>do pure (f.offset,<-sizeOf f.type)):Sem (Array (Nat×Nat))).run P w=.ok p w:=by intro w;kernel_rfl):TI.Ok P t (tA n z p a) where
 row:=⟨_,hu,rfl⟩
 isBool:=λh=>by cases h
 isSlice:=λe n h=>by cases h
 isInt:=λk h=>by cases h
 wu:=h2
 zy:=h3
 bytes:=h4
 pos:=h6
 lone:=λh=>by cases h
 size:=h1
 zero:=h5
 ID:=λk q hq b o w=>by
  have:=(hf.get k q (by simpa using hq)).1 b o w
  rwa [Nat.zero_add] at this
 fld:=λk q hq cs w v hv=>by
  obtain⟨_,f,x,e1,e2,e3,e4,e5⟩:=hf.get k q (by simpa using hq)
  rw[Array.getElem?_toList] at e1 e2
  rw[e2] at hv
  cases x
  ·exact fld_one q.1 hu e1 e3 e4 hv
  ·exact fld_agg q.1 q.2 hu e1 e3 e4 (e5 rfl) hv
 bld:=λ_=>bld_of h5 hu h7
theorem tb {P:Program} {t u:TypeId} {i x:TI} {r:Option TI} (hk:TI.Ok P u i) (hr:r=some x->TI.Ok P t x) (h:(bif Nat.beq t u then some i else r)=some x):TI.Ok P t x:=by
 cases hb:Nat.beq t u
 ·rw[hb] at h;exact hr h
 ·rw[hb] at h;cases h;rw[Nat.eq_of_beq_eq_true hb];exact hk
def ti0:TI:=tF (.int .i64 0) false none (some .i64) false
theorem ok0:TI.Ok Tryz.prog 2 ti0:=okF Tryz.underlying2
def ti1:TI:=tF (.int .i64 0) false none (some .i64) false
theorem ok1:TI.Ok Tryz.prog 3 ti1:=okF Tryz.underlying3
def ti2:TI:=tF (.bool false) true none none false
theorem ok2:TI.Ok Tryz.prog 4 ti2:=okF Tryz.underlying4
def ti3:TI:=tF (.int .u8 0) false none (some .u8) false
theorem ok3:TI.Ok Tryz.prog 5 ti3:=okF Tryz.underlying5
def ti4:TI:=tF (.string ⟨#[]⟩) false none none false
theorem ok4:TI.Ok Tryz.prog 9 ti4:=okF Tryz.underlying9
def ti5:TI:=tF (.int .u64 0) false none (some .u64) false
theorem ok5:TI.Ok Tryz.prog 12 ti5:=okF Tryz.underlying12
def ti6:TI:=tF (.slice none 0 0) false (some (38,6)) none false
theorem ok6:TI.Ok Tryz.prog 22 ti6:=okF Tryz.underlying22
def ti7:TI:=tF (.slice none 0 0) false (some (41,1)) none false
theorem ok7:TI.Ok Tryz.prog 23 ti7:=okF Tryz.underlying23
def ti8:TI:=tF (.slice none 0 0) false (some (49,28)) none false
theorem ok8:TI.Ok Tryz.prog 26 ti8:=okF Tryz.underlying26
def ti9:TI:=tF (.int .i64 0) false none (some .i64) false
theorem ok9:TI.Ok Tryz.prog 27 ti9:=okF Tryz.underlying27
def ti10:TI:=tF (.slice none 0 0) false (some (191,1)) none false
theorem ok10:TI.Ok Tryz.prog 30 ti10:=okF Tryz.underlying30
def ti11:TI:=tA 2 #[.bool false,.slice none 0 0] #[(0,1),(1,1)] #[false,false]
theorem ok11:TI.Ok Tryz.prog 32 ti11:=oI Tryz.underlying32
def ti12:TI:=tA 4 #[.bool false,.slice none 0 0,.bool false,.slice none 0 0] #[(0,2),(2,2)] #[true,true]
theorem ok12:TI.Ok Tryz.prog 34 ti12:=oI Tryz.underlying34
def ti13:TI:=tF (.slice none 0 0) false (some (44,9)) none false
theorem ok13:TI.Ok Tryz.prog 36 ti13:=okF Tryz.underlying36
def ti14:TI:=tA 6 #[.string ⟨#[]⟩,.int .u8 0,.bool false,.slice none 0 0,.bool false,.slice none 0 0] #[(0,1),(1,1),(2,4)] #[false,false,true]
theorem ok14:TI.Ok Tryz.prog 38 ti14:=oI Tryz.underlying38
def ti15:TI:=tF (.slice none 0 0) false (some (81,1)) none false
theorem ok15:TI.Ok Tryz.prog 39 ti15:=okF Tryz.underlying39
def ti16:TI:=tA 1 #[.slice none 0 0] #[(0,1)] #[false]
theorem ok16:TI.Ok Tryz.prog 41 ti16:=oI Tryz.underlying41
def ti17:TI:=tA 9 #[.int .u8 0,.bool false,.slice none 0 0,.bool false,.slice none 0 0,.bool false,.slice none 0 0,.bool false,.slice none 0 0] #[(0,1),(1,4),(5,4)] #[false,true,true]
theorem ok17:TI.Ok Tryz.prog 44 ti17:=oI Tryz.underlying44
def ti18:TI:=tA 16 #[.bool false,.slice none 0 0,.bool false,.slice none 0 0,.bool false,.slice none 0 0,.bool false,.slice none 0 0,.bool false,.slice none 0 0,.bool false,.slice none 0 0,.bool false,.slice none 0 0,.bool false,.slice none 0 0] #[(0,4),(4,4),(8,4),(12,4)] #[true,true,true,true]
theorem ok18:TI.Ok Tryz.prog 47 ti18:=oI Tryz.underlying47
def ti19:TI:=tA 28 #[.bool false,.slice none 0 0,.bool false,.slice none 0 0,.bool false,.slice none 0 0,.bool false,.slice none 0 0,.bool false,.slice none 0 0,.bool false,.slice none 0 0,.bool false,.slice none 0 0,.bool false,.slice none 0 0,.bool false,.slice none 0 0,.bool false,.slice none 0 0,.bool false,.slice none 0 0,.bool false,.slice none 0 0,.bool false,.slice none 0 0,.bool false,.slice none 0 0] #[(0,16),(16,4),(20,4),(24,4)] #[true,true,true,true]
theorem ok19:TI.Ok Tryz.prog 49 ti19:=oI Tryz.underlying49
def ti20:TI:=tA 2 #[.bool false,.slice none 0 0] #[(0,1),(1,1)] #[false,false]
theorem ok20:TI.Ok Tryz.prog 53 ti20:=oI Tryz.underlying53
def ti21:TI:=tA 4 #[.bool false,.slice none 0 0,.bool false,.slice none 0 0] #[(0,2),(2,2)] #[true,true]
theorem ok21:TI.Ok Tryz.prog 55 ti21:=oI Tryz.underlying55
def ti22:TI:=tA 16 #[.bool false,.slice none 0 0,.bool false,.slice none 0 0,.bool false,.slice none 0 0,.bool false,.slice none 0 0,.bool false,.slice none 0 0,.bool false,.slice none 0 0,.bool false,.slice none 0 0,.bool false,.slice none 0 0] #[(0,4),(4,4),(8,4),(12,4)] #[true,true,true,true]
theorem ok22:TI.Ok Tryz.prog 57 ti22:=oI Tryz.underlying57
def ti23:TI:=tA 28 #[.bool false,.slice none 0 0,.bool false,.slice none 0 0,.bool false,.slice none 0 0,.bool false,.slice none 0 0,.bool false,.slice none 0 0,.bool false,.slice none 0 0,.bool false,.slice none 0 0,.bool false,.slice none 0 0,.bool false,.slice none 0 0,.bool false,.slice none 0 0,.bool false,.slice none 0 0,.bool false,.slice none 0 0,.bool false,.slice none 0 0,.bool false,.slice none 0 0] #[(0,16),(16,4),(20,4),(24,4)] #[true,true,true,true]
theorem ok23:TI.Ok Tryz.prog 59 ti23:=oI Tryz.underlying59
def ti24:TI:=tF (.slice none 0 0) false (some (127,6)) none false
theorem ok24:TI.Ok Tryz.prog 62 ti24:=okF Tryz.underlying62
def ti25:TI:=tF (.slice none 0 0) false (some (130,1)) none false
theorem ok25:TI.Ok Tryz.prog 64 ti25:=okF Tryz.underlying64
def ti26:TI:=tF (.slice none 0 0) false (some (59,28)) none false
theorem ok26:TI.Ok Tryz.prog 66 ti26:=okF Tryz.underlying66
def ti27:TI:=tF (.slice none 0 0) false (some (26,1)) none false
theorem ok27:TI.Ok Tryz.prog 69 ti27:=okF Tryz.underlying69
def ti28:TI:=tF (.slice none 0 0) false (some (66,1)) none false
theorem ok28:TI.Ok Tryz.prog 72 ti28:=okF Tryz.underlying72
def ti29:TI:=tF (.slice none 0 0) false (some (34,4)) none false
theorem ok29:TI.Ok Tryz.prog 81 ti29:=okF Tryz.underlying81
def ti30:TI:=tF (.slice none 0 0) false (some (148,8)) none false
theorem ok30:TI.Ok Tryz.prog 83 ti30:=okF Tryz.underlying83
def ti31:TI:=tF (.slice none 0 0) false (some (9,1)) none false
theorem ok31:TI.Ok Tryz.prog 84 ti31:=okF Tryz.underlying84
def ti32:TI:=tF (.slice none 0 0) false (some (155,6)) none false
theorem ok32:TI.Ok Tryz.prog 85 ti32:=okF Tryz.underlying85
def ti33:TI:=tA 25 #[.string ⟨#[]⟩,.string ⟨#[]⟩,.slice none 0 0,.bool false,.slice none 0 0,.bool false,.slice none 0 0,.bool false,.slice none 0 0,.bool false,.slice none 0 0,.int .i64 0,.int .i64 0,.bool false,.slice none 0 0,.bool false,.slice none 0 0,.bool false,.slice none 0 0,.bool false,.slice none 0 0,.int .i64 0,.slice none 0 0,.slice none 0 0,.slice none 0 0] #[(0,1),(1,1),(2,1),(3,4),(7,4),(11,1),(12,1),(13,4),(17,4),(21,1),(22,1),(23,1),(24,1)] #[false,false,false,true,true,false,false,true,true,false,false,false,false]
theorem ok33:TI.Ok Tryz.prog 87 ti33:=oI Tryz.underlying87
def ti34:TI:=tF (.slice none 0 0) false (some (2,1)) none false
theorem ok34:TI.Ok Tryz.prog 94 ti34:=okF Tryz.underlying94
def ti35:TI:=tF (.slice none 0 0) false (some (94,1)) none false
theorem ok35:TI.Ok Tryz.prog 95 ti35:=okF Tryz.underlying95
def ti36:TI:=tF (.pointer none) false none none true
theorem ok36:TI.Ok Tryz.prog 97 ti36:=okF Tryz.underlying97
def ti37:TI:=tF (.slice none 0 0) false (some (101,9)) none false
theorem ok37:TI.Ok Tryz.prog 99 ti37:=okF Tryz.underlying99
def ti38:TI:=tA 9 #[.int .u8 0,.bool false,.slice none 0 0,.bool false,.slice none 0 0,.bool false,.slice none 0 0,.bool false,.slice none 0 0] #[(0,1),(1,4),(5,4)] #[false,true,true]
theorem ok38:TI.Ok Tryz.prog 101 ti38:=oI Tryz.underlying101
def ti39:TI:=tA 2 #[.int .i64 0,.int .i64 0] #[(0,1),(1,1)] #[false,false]
theorem ok39:TI.Ok Tryz.prog 108 ti39:=oI Tryz.underlying108
def ti40:TI:=tF (.pointer none) false none none true
theorem ok40:TI.Ok Tryz.prog 112 ti40:=okF Tryz.underlying112
def ti41:TI:=tA 16 #[.bool false,.slice none 0 0,.bool false,.slice none 0 0,.bool false,.slice none 0 0,.bool false,.slice none 0 0,.bool false,.slice none 0 0,.bool false,.slice none 0 0,.bool false,.slice none 0 0,.bool false,.slice none 0 0] #[(0,16)] #[true]
theorem ok41:TI.Ok Tryz.prog 115 ti41:=oI Tryz.underlying115
def ti42:TI:=tF (.map none) false none none false
theorem ok42:TI.Ok Tryz.prog 116 ti42:=okF Tryz.underlying116
def ti43:TI:=tA 6 #[.string ⟨#[]⟩,.int .u8 0,.bool false,.slice none 0 0,.bool false,.slice none 0 0] #[(0,1),(1,1),(2,4)] #[false,false,true]
theorem ok43:TI.Ok Tryz.prog 127 ti43:=oI Tryz.underlying127
def ti44:TI:=tF (.slice none 0 0) false (some (131,1)) none false
theorem ok44:TI.Ok Tryz.prog 128 ti44:=okF Tryz.underlying128
def ti45:TI:=tA 1 #[.slice none 0 0] #[(0,1)] #[false]
theorem ok45:TI.Ok Tryz.prog 130 ti45:=oI Tryz.underlying130
def ti46:TI:=tF (.slice none 0 0) false (some (55,4)) none false
theorem ok46:TI.Ok Tryz.prog 131 ti46:=okF Tryz.underlying131
def ti47:TI:=tF (.slice none 0 0) false (some (136,6)) none false
theorem ok47:TI.Ok Tryz.prog 133 ti47:=okF Tryz.underlying133
def ti48:TI:=tA 6 #[.int .i64 0,.int .i64 0,.bool false,.slice none 0 0,.bool false,.slice none 0 0] #[(0,1),(1,1),(2,4)] #[false,false,true]
theorem ok48:TI.Ok Tryz.prog 136 ti48:=oI Tryz.underlying136
def ti49:TI:=tF (.slice none 0 0) false (some (139,9)) none false
theorem ok49:TI.Ok Tryz.prog 137 ti49:=okF Tryz.underlying137
def ti50:TI:=tA 9 #[.int .u8 0,.bool false,.slice none 0 0,.bool false,.slice none 0 0,.bool false,.slice none 0 0,.bool false,.slice none 0 0] #[(0,1),(1,4),(5,4)] #[false,true,true]
theorem ok50:TI.Ok Tryz.prog 139 ti50:=oI Tryz.underlying139
def ti51:TI:=tF (.slice none 0 0) false (some (57,16)) none false
theorem ok51:TI.Ok Tryz.prog 144 ti51:=okF Tryz.underlying144
def ti52:TI:=tA 8 #[.bool false,.slice none 0 0,.bool false,.slice none 0 0,.bool false,.slice none 0 0,.bool false,.slice none 0 0] #[(0,4),(4,4)] #[true,true]
theorem ok52:TI.Ok Tryz.prog 148 ti52:=oI Tryz.underlying148
def ti53:TI:=tF (.slice none 0 0) false (some (208,6)) none false
theorem ok53:TI.Ok Tryz.prog 149 ti53:=okF Tryz.underlying149
def ti54:TI:=tF (.slice none 0 0) false (some (160,6)) none false
theorem ok54:TI.Ok Tryz.prog 150 ti54:=okF Tryz.underlying150
def ti55:TI:=tF (.slice none 0 0) false (some (248,10)) none false
theorem ok55:TI.Ok Tryz.prog 151 ti55:=okF Tryz.underlying151
def ti56:TI:=tF (.slice none 0 0) false (some (211,9)) none false
theorem ok56:TI.Ok Tryz.prog 152 ti56:=okF Tryz.underlying152
def ti57:TI:=tF (.slice none 0 0) false (some (213,5)) none false
theorem ok57:TI.Ok Tryz.prog 153 ti57:=okF Tryz.underlying153
def ti58:TI:=tA 6 #[.int .i64 0,.slice none 0 0,.slice none 0 0,.slice none 0 0,.slice none 0 0,.slice none 0 0] #[(0,1),(1,1),(2,1),(3,1),(4,1),(5,1)] #[false,false,false,false,false,false]
theorem ok58:TI.Ok Tryz.prog 155 ti58:=oI Tryz.underlying155
def ti59:TI:=tA 6 #[.string ⟨#[]⟩,.string ⟨#[]⟩,.bool false,.slice none 0 0,.bool false,.slice none 0 0] #[(0,1),(1,1),(2,4)] #[false,false,true]
theorem ok59:TI.Ok Tryz.prog 160 ti59:=oI Tryz.underlying160
def ti60:TI:=tF (.slice none 0 0) false (some (177,6)) none false
theorem ok60:TI.Ok Tryz.prog 171 ti60:=okF Tryz.underlying171
def ti61:TI:=tA 1 #[.slice none 0 0] #[(0,1)] #[false]
theorem ok61:TI.Ok Tryz.prog 173 ti61:=oI Tryz.underlying173
def ti62:TI:=tA 1 #[.slice none 0 0] #[(0,1)] #[true]
theorem ok62:TI.Ok Tryz.prog 175 ti62:=oI Tryz.underlying175
def ti63:TI:=tA 6 #[.int .i64 0,.int .i64 0,.bool false,.slice none 0 0,.bool false,.slice none 0 0] #[(0,1),(1,1),(2,4)] #[false,false,true]
theorem ok63:TI.Ok Tryz.prog 177 ti63:=oI Tryz.underlying177
def ti64:TI:=tF (.int .u64 0) false none (some .u64) false
theorem ok64:TI.Ok Tryz.prog 188 ti64:=okF Tryz.underlying188
def ti65:TI:=tF (.int .u32 0) false none (some .u32) false
theorem ok65:TI.Ok Tryz.prog 191 ti65:=okF Tryz.underlying191
def ti66:TI:=tF (.int .u64 0) false none (some .u64) false
theorem ok66:TI.Ok Tryz.prog 192 ti66:=okF Tryz.underlying192
def ti67:TI:=tF (.slice none 0 0) false (some (47,16)) none false
theorem ok67:TI.Ok Tryz.prog 206 ti67:=okF Tryz.underlying206
def ti68:TI:=tA 6 #[.string ⟨#[]⟩,.string ⟨#[]⟩,.bool false,.slice none 0 0,.bool false,.slice none 0 0] #[(0,1),(1,1),(2,4)] #[false,false,true]
theorem ok68:TI.Ok Tryz.prog 208 ti68:=oI Tryz.underlying208
def ti69:TI:=tA 9 #[.string ⟨#[]⟩,.bool false,.slice none 0 0,.bool false,.slice none 0 0,.bool false,.slice none 0 0,.bool false,.slice none 0 0] #[(0,1),(1,4),(5,4)] #[false,true,true]
theorem ok69:TI.Ok Tryz.prog 211 ti69:=oI Tryz.underlying211
def ti70:TI:=tA 5 #[.string ⟨#[]⟩,.bool false,.slice none 0 0,.bool false,.slice none 0 0] #[(0,1),(1,4)] #[false,true]
theorem ok70:TI.Ok Tryz.prog 213 ti70:=oI Tryz.underlying213
def ti71:TI:=tA 2 #[.bool false,.slice none 0 0] #[(0,2)] #[true]
theorem ok71:TI.Ok Tryz.prog 222 ti71:=oI Tryz.underlying222
def ti72:TI:=tF (.pointer none) false none none true
theorem ok72:TI.Ok Tryz.prog 226 ti72:=okF Tryz.underlying226
def ti73:TI:=tA 4 #[.bool false,.slice none 0 0,.bool false,.slice none 0 0] #[(0,4)] #[true]
theorem ok73:TI.Ok Tryz.prog 237 ti73:=oI Tryz.underlying237
def ti74:TI:=tF (.slice none 0 0) false (some (5,1)) none false
theorem ok74:TI.Ok Tryz.prog 243 ti74:=okF Tryz.underlying243
def ti75:TI:=tA 10 #[.bool false,.string ⟨#[]⟩,.int .u8 0,.string ⟨#[]⟩,.string ⟨#[]⟩,.string ⟨#[]⟩,.bool false,.slice none 0 0,.bool false,.slice none 0 0] #[(0,1),(1,1),(2,1),(3,1),(4,1),(5,1),(6,4)] #[false,false,false,false,false,false,true]
theorem ok75:TI.Ok Tryz.prog 248 ti75:=oI Tryz.underlying248
def ti76:TI:=tF (.slice none 0 0) false (some (3,1)) none false
theorem ok76:TI.Ok Tryz.prog 272 ti76:=okF Tryz.underlying272
def ti77:TI:=tF (.slice none 0 0) false (some (30,1)) none false
theorem ok77:TI.Ok Tryz.prog 289 ti77:=okF Tryz.underlying289
def ti78:TI:=tF (.pointer none) false none none true
theorem ok78:TI.Ok Tryz.prog 305 ti78:=okF Tryz.underlying305
def ti79:TI:=tF (.pointer none) false none none true
theorem ok79:TI.Ok Tryz.prog 313 ti79:=okF Tryz.underlying313
def ti80:TI:=tF (.pointer none) false none none true
theorem ok80:TI.Ok Tryz.prog 332 ti80:=okF Tryz.underlying332
def ti81:TI:=tF (.slice none 0 0) false (some (4,1)) none false
theorem ok81:TI.Ok Tryz.prog 345 ti81:=okF Tryz.underlying345
def table (t:TypeId):Option TI:=
 bif Nat.beq t 2 then some ti0 else
 bif Nat.beq t 3 then some ti1 else
 bif Nat.beq t 4 then some ti2 else
 bif Nat.beq t 5 then some ti3 else
 bif Nat.beq t 9 then some ti4 else
 bif Nat.beq t 12 then some ti5 else
 bif Nat.beq t 22 then some ti6 else
 bif Nat.beq t 23 then some ti7 else
 bif Nat.beq t 26 then some ti8 else
 bif Nat.beq t 27 then some ti9 else
 bif Nat.beq t 30 then some ti10 else
 bif Nat.beq t 32 then some ti11 else
 bif Nat.beq t 34 then some ti12 else
 bif Nat.beq t 36 then some ti13 else
 bif Nat.beq t 38 then some ti14 else
 bif Nat.beq t 39 then some ti15 else
 bif Nat.beq t 41 then some ti16 else
 bif Nat.beq t 44 then some ti17 else
 bif Nat.beq t 47 then some ti18 else
 bif Nat.beq t 49 then some ti19 else
 bif Nat.beq t 53 then some ti20 else
 bif Nat.beq t 55 then some ti21 else
 bif Nat.beq t 57 then some ti22 else
 bif Nat.beq t 59 then some ti23 else
 bif Nat.beq t 62 then some ti24 else
 bif Nat.beq t 64 then some ti25 else
 bif Nat.beq t 66 then some ti26 else
 bif Nat.beq t 69 then some ti27 else
 bif Nat.beq t 72 then some ti28 else
 bif Nat.beq t 81 then some ti29 else
 bif Nat.beq t 83 then some ti30 else
 bif Nat.beq t 84 then some ti31 else
 bif Nat.beq t 85 then some ti32 else
 bif Nat.beq t 87 then some ti33 else
 bif Nat.beq t 94 then some ti34 else
 bif Nat.beq t 95 then some ti35 else
 bif Nat.beq t 97 then some ti36 else
 bif Nat.beq t 99 then some ti37 else
 bif Nat.beq t 101 then some ti38 else
 bif Nat.beq t 108 then some ti39 else
 bif Nat.beq t 112 then some ti40 else
 bif Nat.beq t 115 then some ti41 else
 bif Nat.beq t 116 then some ti42 else
 bif Nat.beq t 127 then some ti43 else
 bif Nat.beq t 128 then some ti44 else
 bif Nat.beq t 130 then some ti45 else
 bif Nat.beq t 131 then some ti46 else
 bif Nat.beq t 133 then some ti47 else
 bif Nat.beq t 136 then some ti48 else
 bif Nat.beq t 137 then some ti49 else
 bif Nat.beq t 139 then some ti50 else
 bif Nat.beq t 144 then some ti51 else
 bif Nat.beq t 148 then some ti52 else
 bif Nat.beq t 149 then some ti53 else
 bif Nat.beq t 150 then some ti54 else
 bif Nat.beq t 151 then some ti55 else
 bif Nat.beq t 152 then some ti56 else
 bif Nat.beq t 153 then some ti57 else
 bif Nat.beq t 155 then some ti58 else
 bif Nat.beq t 160 then some ti59 else
 bif Nat.beq t 171 then some ti60 else
 bif Nat.beq t 173 then some ti61 else
 bif Nat.beq t 175 then some ti62 else
 bif Nat.beq t 177 then some ti63 else
 bif Nat.beq t 188 then some ti64 else
 bif Nat.beq t 191 then some ti65 else
 bif Nat.beq t 192 then some ti66 else
 bif Nat.beq t 206 then some ti67 else
 bif Nat.beq t 208 then some ti68 else
 bif Nat.beq t 211 then some ti69 else
 bif Nat.beq t 213 then some ti70 else
 bif Nat.beq t 222 then some ti71 else
 bif Nat.beq t 226 then some ti72 else
 bif Nat.beq t 237 then some ti73 else
 bif Nat.beq t 243 then some ti74 else
 bif Nat.beq t 248 then some ti75 else
 bif Nat.beq t 272 then some ti76 else
 bif Nat.beq t 289 then some ti77 else
 bif Nat.beq t 305 then some ti78 else
 bif Nat.beq t 313 then some ti79 else
 bif Nat.beq t 332 then some ti80 else
 bif Nat.beq t 345 then some ti81 else none
theorem kG:∀ t i,table t=some i->TI.Ok Tryz.prog t i:=λt i=>tb ok0 (tb ok1 (tb ok2 (tb ok3 (tb ok4 (tb ok5 (tb ok6 (tb ok7 (tb ok8 (tb ok9 (tb ok10 (tb ok11 (tb ok12 (tb ok13 (tb ok14 (tb ok15 (tb ok16 (tb ok17 (tb ok18 (tb ok19 (tb ok20 (tb ok21 (tb ok22 (tb ok23 (tb ok24 (tb ok25 (tb ok26 (tb ok27 (tb ok28 (tb ok29 (tb ok30 (tb ok31 (tb ok32 (tb ok33 (tb ok34 (tb ok35 (tb ok36 (tb ok37 (tb ok38 (tb ok39 (tb ok40 (tb ok41 (tb ok42 (tb ok43 (tb ok44 (tb ok45 (tb ok46 (tb ok47 (tb ok48 (tb ok49 (tb ok50 (tb ok51 (tb ok52 (tb ok53 (tb ok54 (tb ok55 (tb ok56 (tb ok57 (tb ok58 (tb ok59 (tb ok60 (tb ok61 (tb ok62 (tb ok63 (tb ok64 (tb ok65 (tb ok66 (tb ok67 (tb ok68 (tb ok69 (tb ok70 (tb ok71 (tb ok72 (tb ok73 (tb ok74 (tb ok75 (tb ok76 (tb ok77 (tb ok78 (tb ok79 (tb ok80 (tb ok81 (λh=>by cases h))))))))))))))))))))))))))))))))))))))))))))))))))))))))))))))))))))))))))))))))))
abbrev UU:TypeId:=191
abbrev aX (P:Program) (w:World) (N:Nat):Cx:={ P:=P,w0:=w,N:=N,K:=KU UU,SU:=λt=>Nat.beq t 30,ti:=table,keep:=λ_ _=>trivial }
abbrev KI:KC:=⟨UU,λ_=>True,λt=>Nat.beq t 3⟩
abbrev Ey (P:Program) (w:World) (N:Nat):Cx:={ P:=P,w0:=w,N:=N,K:=KI,SU:=λt=>Nat.beq t 30 || Nat.beq t 272,ti:=table,keep:=λ_ _=>trivial }
theorem lH (w:World) (N:Nat):(Ey Tryz.prog w N).Ok:=kG
theorem iQ (w:World) (N:Nat):(Ey Tryz.prog w N).P.follows .mixedOrders=true:=by show Tryz.prog.follows .mixedOrders=true;kernel_rfl
abbrev Jj (P:Program) (w:World) (N:Nat) (ad:List Nat) (hd:ad.Nodup) (ha:kF (KU UU) ad w):Cx:=Ao P w N (KU UU) (λt=>Nat.beq t 30) table (λ_ _=>trivial) ad hd ha
theorem CM (w:World) (N:Nat) {ad:List Nat} {hd:ad.Nodup} {ha:kF (KU UU) ad w}:(Jj Tryz.prog w N ad hd ha).Ok:=kG
theorem Gg (w:World) (N:Nat) {ad:List Nat} {hd:ad.Nodup} {ha:kF (KU UU) ad w}:(Jj Tryz.prog w N ad hd ha).P.follows .mixedOrders=true:=by show Tryz.prog.follows .mixedOrders=true;kernel_rfl
theorem cP (w:World) (N:Nat):(aX Tryz.prog w N).Ok:=kG
theorem mR (w:World) (N:Nat):(aX Tryz.prog w N).P.follows .mixedOrders=true:=by show Tryz.prog.follows .mixedOrders=true;kernel_rfl
section
variable {C:Cx} {m:Option (List FuncId)} {full:Array Oper} {K:Fr->Hp->World->Prop} {F F':Fr} {H H':Hp} {w w1:World} {N:Nat} {o:Oper} {r l l':List Oper} {Q:Exit->Act->World->Prop} {k k':List It} {v:AV} {u:Option (Nat×(TypeId×List AV))} {id:Nat} {ops:Array Oper}
theorem wN (h:K F H w):ak C m full [] K F H w:=VO.nil h
theorem wV (e:kD C full 80 l F H=(l',F',H')) (h:ak C m full l' K F' H' w):ak C m full l K F H w:=VO.run 80 e h
theorem wO (e:stepOf C full F H o=.dH v u) (e':kD C full 80 r (F.bl o.dst v) (H.upd u)=(l',F',H')) (h:ak C m full l' K F' H' w):ak C m full (o::r) K F H w:=VO.op1 e (VO.run 80 e' h)
theorem wQ {x y:Code} (h:VS C Q (.code x::.code y::k) F H w):VS C Q (.code (.seq x y)::k) F H w:=VS.seq h
theorem Gh (e:kD (aX Tryz.prog w1 N) ops 80 ops.toList F H=(l',F',H')) (h:ak (aX Tryz.prog w1 N) none ops l' (VS (aX Tryz.prog w1 N) Q k) F' H' w):VS (aX Tryz.prog w1 N) Q (.code (.region id ops false)::k) F H w:=VS.region (cP _ _) (VO.run 80 e h)
theorem cx_d (e:kD (aX Tryz.prog w1 N) ops 80 ops.toList F H=(l',F',H')) (h:ak (aX Tryz.prog w1 N) (some []) ops l' (VS (aX Tryz.prog w1 N) Q k) F' H' w) (kA:jg (aX Tryz.prog w1 N).SU [] ops=true:=by kernel_rfl):VS (aX Tryz.prog w1 N) Q (.code (.region id ops true)::k) F H w:=VS.draw (cP _ _) (mR _ _) [] kA (VO.run 80 e h)
theorem wU (e:kD (Ey Tryz.prog w1 N) ops 80 ops.toList F H=(l',F',H')) (h:ak (Ey Tryz.prog w1 N) none ops l' (VS (Ey Tryz.prog w1 N) Q k) F' H' w):VS (Ey Tryz.prog w1 N) Q (.code (.region id ops false)::k) F H w:=VS.region (lH _ _) (VO.run 80 e h)
theorem cxI_d (e:kD (Ey Tryz.prog w1 N) ops 80 ops.toList F H=(l',F',H')) (h:ak (Ey Tryz.prog w1 N) (some []) ops l' (VS (Ey Tryz.prog w1 N) Q k) F' H' w) (kA:jg (Ey Tryz.prog w1 N).SU [] ops=true:=by kernel_rfl):VS (Ey Tryz.prog w1 N) Q (.code (.region id ops true)::k) F H w:=VS.draw (lH _ _) (iQ _ _) [] kA (VO.run 80 e h)
theorem cxA_r {ad:List Nat} {hd:ad.Nodup} {ha:kF (KU UU) ad w1} (e:kD (Jj Tryz.prog w1 N ad hd ha) ops 80 ops.toList F H=(l',F',H')) (h:ak (Jj Tryz.prog w1 N ad hd ha) none ops l' (VS (Jj Tryz.prog w1 N ad hd ha) Q k) F' H' w):VS (Jj Tryz.prog w1 N ad hd ha) Q (.code (.region id ops false)::k) F H w:=VS.region (CM _ _) (VO.run 80 e h)
theorem cxA_d {ad:List Nat} {hd:ad.Nodup} {ha:kF (KU UU) ad w1} (e:kD (Jj Tryz.prog w1 N ad hd ha) ops 80 ops.toList F H=(l',F',H')) (h:ak (Jj Tryz.prog w1 N ad hd ha) (some []) ops l' (VS (Jj Tryz.prog w1 N ad hd ha) Q k) F' H' w) (kA:jg (Jj Tryz.prog w1 N ad hd ha).SU [] ops=true:=by kernel_rfl):VS (Jj Tryz.prog w1 N ad hd ha) Q (.code (.region id ops true)::k) F H w:=VS.draw (CM _ _) (Gg _ _) [] kA (VO.run 80 e h)
def peel (F:Fr):List It->Option (List It)
 | .code (.seq x y)::k=>some (.code x::.code y::k)
 | .code (.block id c)::k=>some (.code c::.nX id::k)
 | .nX _::k=>some k
 | .code .skip::k=>some k
 | .code (.exit id)::k=>pop id k
 | .code (.cond c x y)::k=>(match iC F c with
   | some (.bool true)=>some (.code x::k)
   | some (.bool false)=>some (.code y::k)
   | _=>none)
 | _=>none
theorem wP (e:peel F k=some k') (h:VS C Q k' F H w):VS C Q k F H w:=by
 unfold peel at e
 split at e
 ·cases e;exact VS.seq h
 ·cases e;exact VS.block h
 ·cases e;exact VS.nX h
 ·cases e;exact VS.skip h
 ·exact VS.exit e h
 ·split at e
  ·rename_i hc;cases e;exact VS.condT hc h
  ·rename_i hc;cases e;exact VS.condF hc h
  ·cases e
 ·cases e
theorem fk {P:Program} {g:FuncId} {fn:Func} (h:P.funcs[g]? =some fn) (h1:(fn.name == "runtime.NumGoroutine")=false:=by kernel_rfl) (h2:fn.body.isNone=false:=by kernel_rfl):jc P g:=⟨fn,h,h1,h2⟩
theorem kU (w:World):aR (KU UU) w w:=aR.refl _ _
theorem kT {k:KC} {a b c:World} (h:aR k a b) (h':aR k b c):aR k a c:=h.ax h'
end
end
section
open Go.RowKit
theorem jj (neg:Bool) (p:Option Addr) (n c:Nat) (w:World):
  Calls Tryz.prog 92 #[.bool neg,.slice p n c] w λe w'=>e=.returned (.agg #[.bool (neg && decide (0<n)),.slice p n c])/\aw w w':=by
 refine aA λR' bf=> ?_
 go_enter Tryz.func92,Tryz.ntmps92
 cases neg
 ·go_wp2
  exact bodyPost_ret (v:=.agg #[.bool false,.slice p n c]) (by simp[results,Tryz.results92,go_sem]) rfl (bf.out _ _ ⟨rfl,(aw.refl w).alloc _⟩)
 ·go_wp2
  exact bodyPost_ret (v:=.agg #[.bool (decide (0<n)),.slice p n c]) (by simp[results,Tryz.results92,go_sem]) rfl (bf.out _ _ ⟨rfl,(aw.refl w).alloc _⟩)
theorem eE (neg:Bool) (p:Option Addr) (n c:Nat) (w:World):
  Calls Tryz.prog 92 #[.bool neg,.slice p n c] w λe w'=>∃ sg,e=.returned (.agg #[.bool sg,.slice p n c])/\Hid (sg=(neg && decide (0<n)))/\aw w w':=
 (jj neg p n c w).mono λ_ _ ⟨h,hb⟩=>⟨_,h,Lib.hid rfl,hb⟩
theorem oJ (neg:Bool) (xs:List Nat) (v:Value) (w:World) (h:ez w v neg xs):
  Calls Tryz.prog 150 #[v] w λe w'=>e=.returned (.bool (cY neg xs))/\aw w w':=by
 obtain⟨p,c,rfl,hr,hl⟩:=h
 obtain⟨p',c',hv,dW,eJ,-⟩:=hr.u32
 simp only[Value.slice.injEq,true_and] at hv
 obtain⟨rfl,rfl⟩:=hv
 refine aA λR' bf=> ?_
 by_cases hx:xs=[]
 ·subst hx
  simp only[List.length_nil,oi] at*
  go_enter Tryz.func150,Tryz.ntmps150
  cases neg
  ·go_wp2
   exact bf.out _ _ ⟨rfl,(aw.refl w).alloc _⟩
  ·go_wp2
   exact bf.out _ _ ⟨rfl,(aw.refl w).alloc _⟩
 ·obtain⟨m,hm⟩:∃ m,xs.length=m+1:=⟨xs.length-1,by have:=List.length_pos_iff.2 hx;omega⟩
  generalize hn:xs.length=n at*
  obtain⟨b,off,x,rfl,hb,hxm,hc⟩:=hr.cellAt (k:=m) aa
  have h1:cY neg xs=decide (x≠0):=rK (by rw[hn,hm];exact hxm)
  rw[h1] at bf
  have hz:((n:Int) == 0)=false:=by rw[beq_eq_false_iff_ne];omega
  have hp:(0:Int)<(n:Int):=by omega
  have hw:IntKind.i64.wrap ((n:Int)-1)=(m:Int):=by rw[IntWalk.i64_in _ aa];omega
  have hlt:(m:Int)<(n:Int):=by omega
  have HN:=Lib.hid hn
  have hpn:0<n:=by omega
  clear hx hm hn h1 hxm hr hl
  go_enter Tryz.func150,Tryz.ntmps150
  by_cases nM:x=0
  ·subst nM
   cases neg
   ·go_wp2
    exact bf.out _ _ ⟨rfl,(aw.refl w).alloc _⟩
   ·go_wp2
    exact bf.out _ _ ⟨rfl,(aw.refl w).alloc _⟩
  ·have BV:((x:Int) != 0)=true:=by rw[bne_iff_ne];omega
   rw[decide_eq_true nM] at bf
   clear nM
   cases neg
   ·go_wp2
    exact bf.out _ _ ⟨rfl,(aw.refl w).alloc _⟩
   ·go_wp2
    exact bf.out _ _ ⟨rfl,(aw.refl w).alloc _⟩
theorem eh (v:Value) (X:Int) (k:Nat) (w0 w:World) (h:bq w0 v X k) (kV:aw w0 w):
  Calls Tryz.prog 140 #[v] w λe w'=>∃ u,e=.returned u/\bd w0 u X/\aw w w':=by
 obtain⟨neg,xs,hn,rfl,hk⟩:=h
 refine aA λR' bf=> ?_
 have HN:=Lib.hid hn
 obtain⟨p,c,rfl,hr,hl⟩:=hn
 clear hr
 go_enter Tryz.func140,Tryz.ntmps140
 go_wp2_with fail
 refine (oJ neg xs _ _ ((HN.out.bt kV).bt (((aw.refl w).alloc _).alloc _))).mono ?_
 rintro e w1 ⟨rfl,aD⟩
 obtain⟨b1,b2,jZ⟩:=jT w 32 222 #[.bool neg,.slice p xs.length c] #[.bool false,.slice none 0 0]
 obtain⟨c1,c2,_,_⟩:=(b1.bt aD).two
 obtain⟨c3,c4,f3,f4⟩:=(b2.bt aD).two
 have xy:aw w w1:=jZ.ax aD
 cases hnr:cY neg xs
 ·have B2:=(b2.bt aD).bh (.bool false) (.slice none 0 0)
  have rJ:=xy.bh (b:=w.heap.size+1) aa (.bool false) (.slice none 0 0)
  go_wp2
  generalize (w1.setCell ⟨w.heap.size+1,0,none⟩ (.bool false)).setCell ⟨w.heap.size+1,1,none⟩ (.slice none 0 0)=w2 at*
  obtain⟨d1,d2,_,_⟩:=B2.two
  refine bodyPost_ret (v:=.agg #[.bool false,.slice none 0 0]) (by simp[results,Tryz.results140,go_sem,d1,d2]) rfl (bf.out _ _ ⟨_,rfl,?_,rJ⟩)
  rw[numOf,if_neg (by simp[hnr])]
  exact bd.zero _
 ·have B2:=(b2.bt aD).bh (.bool neg) (.slice p xs.length c)
  have rJ:=xy.bh (b:=w.heap.size+1) aa (.bool neg) (.slice p xs.length c)
  go_wp2
  generalize (w1.setCell ⟨w.heap.size+1,0,none⟩ (.bool neg)).setCell ⟨w.heap.size+1,1,none⟩ (.slice p xs.length c)=w2 at*
  obtain⟨d1,d2,_,_⟩:=B2.two
  refine bodyPost_ret (v:=.agg #[.bool neg,.slice p xs.length c]) (by simp[results,Tryz.results140,go_sem,d1,d2]) rfl (bf.out _ _ ⟨_,rfl,?_,rJ⟩)
  rw[numOf,if_pos hnr]
  obtain⟨h1,h2⟩:=canon hl hnr
  have:=HN.out
  show ez _ _ _ _
  rw[<-h1,<-h2]
  exact this
end
section
open Go.RowKit
theorem bd.split {w:World} {v:Value} {X:Int} (h:bd w v X):∃ s p c,v=.agg #[.bool s,.slice p (limbs X.natAbs).length c]/\Rd w 1 (.slice p (limbs X.natAbs).length c) (limbs X.natAbs).length (ints .u32 (limbs X.natAbs))/\X=if s=true then-(X.natAbs:Int) else (X.natAbs:Int):=by
 obtain⟨p,c,hv,hr,_⟩:=h
 refine⟨_,p,c,hv,hr,?_⟩
 split
 ·rename_i h;have:=of_decide_eq_true h;omega
 ·rename_i h;have:¬ X<0:=λh'=>h (decide_eq_true h');omega
theorem uz (v:Value) (X:Int) (w:World) (h:bd w v X):
  Calls Tryz.prog 151 #[v] w λe w'=>∃ u,e=.returned u/\bd w' u (-X)/\aw w w':=by
 obtain⟨s,p,c,rfl,hr,hX⟩:=h.split
 obtain⟨n,hn⟩:∃ n,n=(limbs X.natAbs).length:=⟨_,rfl⟩
 have HR:=Lib.hid hr
 have HN:=Lib.hid hn
 have HX:=Lib.hid hX
 rw[<-hn]
 clear hr hn hX h
 refine aA λR' bf=> ?_
 obtain⟨b1,b2,jZ⟩:=jT w 222 222 #[.bool s,.slice p n c] #[.bool false,.slice none 0 0]
 go_enter Tryz.func151,Tryz.ntmps151
 go_wp2_with fail
 refine (jj _ _ _ _ _).mono ?_
 rintro e w1 ⟨rfl,aD⟩
 obtain⟨c3,c4,f3,f4⟩:=(b2.bt aD).two
 have B2:=(b2.bt aD).bh (.bool (!s && decide (0<n))) (.slice p n c)
 have rJ:=(jZ.ax aD).bh (b:=w.heap.size+1) aa (.bool (!s && decide (0<n))) (.slice p n c)
 go_wp2
 generalize (w1.setCell ⟨w.heap.size+1,0,none⟩ (.bool (!s && decide (0<n)))).setCell ⟨w.heap.size+1,1,none⟩ (.slice p n c)=w2 at*
 obtain⟨d1,d2,_,_⟩:=B2.two
 refine bodyPost_ret (v:=.agg #[.bool (!s && decide (0<n)),.slice p n c]) (by simp[results,Tryz.results151,go_sem,d1,d2]) rfl (bf.out _ _ ⟨_,rfl,?_,rJ⟩)
 have jR:=HR.out.below rJ
 rw[<-HN.out] at jR
 refine bd.of (m:=X.natAbs) (by rw[<-HN.out];exact jR) HN.out _ ?_
 rw[HX.out]
 cases s <;> simp
theorem Aq (v u:Value) (X Y:Int) (w:World) (hv:bd w v X) (hu:bd w u Y) (hx:(limbs X.natAbs).length<=1073741824) (hy:(limbs Y.natAbs).length<=1073741824):
  Calls Tryz.prog 148 #[v,u] w λe w'=>∃ r,e=.returned r/\aj w' w.heap.size r (X+Y)/\aw w w':=by
 obtain⟨s,p,c,rfl,jA,hX⟩:=hv.split
 obtain⟨t,q,d,rfl,jR,hY⟩:=hu.split
 obtain⟨n,hn⟩:∃ n,n=(limbs X.natAbs).length:=⟨_,rfl⟩
 obtain⟨m,hm⟩:∃ m,m=(limbs Y.natAbs).length:=⟨_,rfl⟩
 rw[<-hn] at jA hx ⊢
 rw[<-hm] at jR hy ⊢
 clear hv hu
 refine aA λR' bf=> ?_
 obtain⟨b1,b2,b3,jZ⟩:=ln w 222 222 32 #[.bool s,.slice p n c] #[.bool t,.slice q m d] #[.bool false,.slice none 0 0]
 have r10:=Lib.hid jA
 have r20:=Lib.hid jR
 have r1:=Lib.hid (jA.below jZ)
 have r2:=Lib.hid (jR.below jZ)
 have HX:=Lib.hid hX
 have HY:=Lib.hid hY
 have HN:=Lib.hid hn
 have HM:=Lib.hid hm
 clear jA jR hX hY hn hm
 go_enter Tryz.func148,Tryz.ntmps148
 by_cases hst:s=t
 ·subst hst
  go_wp2_with fail
  generalize ((w.alloc _).alloc _).alloc _=W at*
  obtain⟨c1,c2,_,_⟩:=b1.two
  obtain⟨c3,c4,_,_⟩:=b2.two
  obtain⟨c5,c6,f5,f6⟩:=b3.two
  have HS:=Lib.hid (λw' (h:ao W (w.heap.size+1+1) w')=>And.intro (h.cells b1 aa) (h.cells b2 aa))
  go_region_held3 (λw'=>(w'.cell? ⟨w.heap.size,0,none⟩=some (.bool s)/\w'.cell? ⟨w.heap.size,1,none⟩=some (.slice p n c))/\w'.cell? ⟨w.heap.size+1,0,none⟩=some (.bool s)/\w'.cell? ⟨w.heap.size+1,1,none⟩=some (.slice q m d)) ((refine HS.out _ ?_;(with_reducible (repeat (first|exact ao.refl _ _|refine ao.drew ?_|refine ao.drewN ?_ _|refine ao.alloc ?_ _|refine ao.set ?_ _|refine ao.ax ?_ (by assumption)|refine ao.mw ?_ (by first|omega|(simp;done)|(simp;omega)) _))))) (first
   | (go_at_call 177;refine (Ee _ _ n m _ _ _ r1.out.drew r2.out.drew (ai _) (ai _) aa aa).mono ?_;rintro e w1 ⟨v1,rfl,qZ,aD⟩;replace aD:aw _ w1:=aD;rw[ag,ag] at qZ;obtain⟨p1,k1,rfl,_,_,_⟩:=Own.form qZ)
   | (go_at_call 92;refine (jj _ _ _ _ _).mono ?_;rintro e w2 ⟨rfl,aP⟩;obtain⟨c5',c6',f5',f6'⟩:=((b3.drew.bt aD).bt aP).two))
  have B3:=((b3.drew.bt aD).bt aP).bh (.bool (s && decide (0<(limbs (X.natAbs+Y.natAbs)).length))) (.slice p1 (limbs (X.natAbs+Y.natAbs)).length k1)
  have xy:aw w w2:=jZ.ax (aw.ax (aw.ax (aw.refl W).drew aD) aP)
  have Hh:=xy.bh (b:=w.heap.size+1+1) aa (.bool (s && decide (0<(limbs (X.natAbs+Y.natAbs)).length))) (.slice p1 (limbs (X.natAbs+Y.natAbs)).length k1)
  have CN:=Own.below qZ aP
  generalize hL:(limbs (X.natAbs+Y.natAbs)).length=L at*
  have Ih:=Lib.hid (Own.bh (b:=w.heap.size+1+1) CN (b3.drew.bt aD |>.bt aP) fq (.bool (s && decide (0<L))) (.slice p1 L k1))
  clear CN qZ xy
  go_wp2
  generalize (w2.setCell ⟨w.heap.size+1+1,0,none⟩ (.bool (s && decide (0<L)))).setCell ⟨w.heap.size+1+1,1,none⟩ (.slice p1 L k1)=w3 at*
  obtain⟨d1,d2,_,_⟩:=B3.two
  refine bodyPost_ret (v:=.agg #[.bool (s && decide (0<L)),.slice p1 L k1]) (by simp[results,Tryz.results148,go_sem,d1,d2]) rfl (bf.out _ _ ⟨_,rfl,?_,Hh⟩)
  refine aj.of (m:=X.natAbs+Y.natAbs) (by rw[hL];exact Own.mono Ih.out jZ.size) hL.symm _ ?_
  rw[HX.out,HY.out]
  cases s <;> simp <;> omega
 ·have hst':(s == t)=false:=by cases s <;> cases t <;> simp_all
  go_wp2_with fail
  generalize ((w.alloc _).alloc _).alloc _=W at*
  refine (xz _ _ n m _ _ _ r1.out r2.out (ai _) (ai _)).mono ?_
  rintro e w1 ⟨rfl,k1,rfl⟩
  rw[ag,ag]
  by_cases hlt:X.natAbs<Y.natAbs
  ·have HLT:=Lib.hid hlt
   have hc:eT X.natAbs Y.natAbs<0:=gT.2 hlt
   generalize eT X.natAbs Y.natAbs=cv at hc ⊢
   obtain⟨c1,c2,f1,f2⟩:=(b1.drewN k1).two
   obtain⟨c3,c4,f3,f4⟩:=(b2.drewN k1).two
   have B1:=((b1.drewN k1).bh (.bool t) (.slice q m d)).dc (b':=w.heap.size+1) aa (.bool s) (.slice p n c)
   have B2:=((b2.drewN k1).dc (b':=w.heap.size) aa (.bool t) (.slice q m d)).bh (.bool s) (.slice p n c)
   have B3:=((b3.drewN k1).dc (b':=w.heap.size) aa (.bool t) (.slice q m d)).dc (b':=w.heap.size+1) aa (.bool s) (.slice p n c)
   have ft:=((jZ.drewN k1).bh (b:=w.heap.size) aa (.bool t) (.slice q m d)).bh (b:=w.heap.size+1) aa (.bool s) (.slice p n c)
   clear jZ b1 b2 b3 r1 r2 hlt
   go_wp2_with fail
   generalize ((((W.drewN k1).setCell ⟨w.heap.size,0,none⟩ (.bool t)).setCell ⟨w.heap.size,1,none⟩ (.slice q m d)).setCell ⟨w.heap.size+1,0,none⟩ (.bool s)).setCell ⟨w.heap.size+1,1,none⟩ (.slice p n c)=W2 at*
   clear c1 c2 c3 c4 f1 f2 f3 f4
   refine (xG _ _ m n _ _ _ (r20.out.below ft) (r10.out.below ft) (ai _) (ai _) aa).mono ?_
   rintro e w2 ⟨⟨h,_⟩|⟨_,v2,rfl,Ez⟩,aP⟩
   ·rw[ag,ag] at h;exact absurd h (by have:=HLT.out;omega)
   replace aP:aw _ w2:=aP
   rw[ag,ag] at Ez
   obtain⟨p2,k2,rfl,_,_,_⟩:=Own.form Ez
   obtain⟨e1,e2,_,_⟩:=(B1.bt aP).two
   have E3:=B3.bt aP
   have hbw2:=ft.ax aP
   generalize hL:(limbs (Y.natAbs-X.natAbs)).length=L at*
   have lV:=Lib.hid (Own.mono Ez ft.size)
   have HL:=Lib.hid hL
   clear Ez hL B1 B2 B3 ft aP
   go_wp2_with fail
   refine (jj _ _ _ _ _).mono ?_
   rintro e w3 ⟨rfl,cw⟩
   have F3:=E3.bt cw
   obtain⟨e5,e6,g5,g6⟩:=F3.two
   have Ih:=Lib.hid (Own.bh (b:=w.heap.size+1+1) (Own.below lV.out cw) F3 fq (.bool (t && decide (0<L))) (.slice p2 L k2))
   have G3:=F3.bh (.bool (t && decide (0<L))) (.slice p2 L k2)
   have Hh:=(hbw2.ax cw).bh (b:=w.heap.size+1+1) aa (.bool (t && decide (0<L))) (.slice p2 L k2)
   clear lV E3 F3
   go_wp2
   generalize (w3.setCell ⟨w.heap.size+1+1,0,none⟩ (.bool (t && decide (0<L)))).setCell ⟨w.heap.size+1+1,1,none⟩ (.slice p2 L k2)=w4 at*
   obtain⟨d1,d2,_,_⟩:=G3.two
   refine bodyPost_ret (v:=.agg #[.bool (t && decide (0<L)),.slice p2 L k2]) (by simp[results,Tryz.results148,go_sem,d1,d2]) rfl (bf.out _ _ ⟨_,rfl,?_,Hh⟩)
   refine aj.of (m:=Y.natAbs-X.natAbs) (by rw[HL.out];exact Ih.out) HL.out.symm _ ?_
   rw[HX.out,HY.out]
   have:=HLT.out
   cases s <;> cases t <;> simp at hst ⊢ <;> omega
  ·have HLT:=Lib.hid hlt
   have hc:0<=eT X.natAbs Y.natAbs:=by have:=mt (@gT X.natAbs Y.natAbs).1 hlt;omega
   generalize eT X.natAbs Y.natAbs=cv at hc ⊢
   have B1:=b1.drewN k1
   have B2:=b2.drewN k1
   have B3:=b3.drewN k1
   have ft:=jZ.drewN k1
   obtain⟨c1,c2,f1,f2⟩:=B1.two
   obtain⟨c3,c4,f3,f4⟩:=B2.two
   clear jZ b1 b2 b3 r1 r2 hlt
   go_wp2_with fail
   generalize W.drewN k1=W2 at*
   clear c1 c2 c3 c4 f1 f2 f3 f4
   refine (xG _ _ n m _ _ _ (r10.out.below ft) (r20.out.below ft) (ai _) (ai _) aa).mono ?_
   rintro e w2 ⟨⟨h,_⟩|⟨_,v2,rfl,Ez⟩,aP⟩
   ·rw[ag,ag] at h;exact absurd h (by have:=HLT.out;omega)
   replace aP:aw _ w2:=aP
   rw[ag,ag] at Ez
   obtain⟨p2,k2,rfl,_,_,_⟩:=Own.form Ez
   obtain⟨e1,e2,_,_⟩:=(B1.bt aP).two
   have E3:=B3.bt aP
   have hbw2:=ft.ax aP
   generalize hL:(limbs (X.natAbs-Y.natAbs)).length=L at*
   have lV:=Lib.hid (Own.mono Ez ft.size)
   have HL:=Lib.hid hL
   clear Ez hL B1 B2 B3 ft aP
   go_wp2_with fail
   refine (jj _ _ _ _ _).mono ?_
   rintro e w3 ⟨rfl,cw⟩
   have F3:=E3.bt cw
   obtain⟨e5,e6,g5,g6⟩:=F3.two
   have Ih:=Lib.hid (Own.bh (b:=w.heap.size+1+1) (Own.below lV.out cw) F3 fq (.bool (s && decide (0<L))) (.slice p2 L k2))
   have G3:=F3.bh (.bool (s && decide (0<L))) (.slice p2 L k2)
   have Hh:=(hbw2.ax cw).bh (b:=w.heap.size+1+1) aa (.bool (s && decide (0<L))) (.slice p2 L k2)
   clear lV E3 F3
   go_wp2
   generalize (w3.setCell ⟨w.heap.size+1+1,0,none⟩ (.bool (s && decide (0<L)))).setCell ⟨w.heap.size+1+1,1,none⟩ (.slice p2 L k2)=w4 at*
   obtain⟨d1,d2,_,_⟩:=G3.two
   refine bodyPost_ret (v:=.agg #[.bool (s && decide (0<L)),.slice p2 L k2]) (by simp[results,Tryz.results148,go_sem,d1,d2]) rfl (bf.out _ _ ⟨_,rfl,?_,Hh⟩)
   refine aj.of (m:=X.natAbs-Y.natAbs) (by rw[HL.out];exact Ih.out) HL.out.symm _ ?_
   rw[HX.out,HY.out]
   have:=HLT.out
   cases s <;> cases t <;> simp at hst ⊢ <;> omega
end
section
open Go.RowKit
theorem fy {w w':World} (h:aw w w':=by (with_reducible (repeat (first|assumption|exact aw.refl _|refine aw.drew ?_|refine aw.drewN ?_ _|refine aw.alloc ?_ _|refine aw.ax ?_ (by assumption)|refine aw.setCell ?_ (by first|omega|(simp;done)|(simp;omega)) _)))):aw w w':=h
theorem uA (v u:Value) (X Y:Int) (j k:Nat) (w:World) (hv:bq w v X j) (hu:bq w u Y k) (hj:j<=1073741824) (hk:k<=1073741824):
  Calls Tryz.prog 95 #[v,u] w λe w'=>∃ r,e=.returned r/\aj w' w.heap.size r (X+Y)/\aw w w':=by
 obtain⟨s,p,n,c,rfl⟩:=hv.form
 obtain⟨t,q,m,d,rfl⟩:=hu.form
 refine aA λR' bf=> ?_
 obtain⟨b1,b2,b3,jZ⟩:=ln w 32 32 32 #[.bool s,.slice p n c] #[.bool t,.slice q m d] #[.bool false,.slice none 0 0]
 have qi:=hv.len
 have mi:=hu.len
 have HV:=Lib.hid hv
 have HU:=Lib.hid hu
 have hsz:w.heap.size+3<=(((w.alloc (.cells #[.bool s,.slice p n c] 32)).alloc (.cells #[.bool t,.slice q m d] 32)).alloc (.cells #[.bool false,.slice none 0 0] 32)).heap.size:=by simp
 clear hv hu
 go_enter Tryz.func95,Tryz.ntmps95
 go_wp2_with fail
 generalize ((w.alloc _).alloc _).alloc _=W at*
 have HS:=Lib.hid (λw' (h:ao W (w.heap.size+1+1) w')=>And.intro (h.cells b1 aa) (h.cells b2 aa))
 obtain⟨c1,c2,_,_⟩:=b1.two
 obtain⟨c3,c4,_,_⟩:=b2.two
 obtain⟨c5,c6,f5,f6⟩:=b3.two
 go_region_held3 (λw'=>(w'.cell? ⟨w.heap.size,0,none⟩=some (.bool s)/\w'.cell? ⟨w.heap.size,1,none⟩=some (.slice p n c))/\w'.cell? ⟨w.heap.size+1,0,none⟩=some (.bool t)/\w'.cell? ⟨w.heap.size+1,1,none⟩=some (.slice q m d)) ((refine HS.out _ ?_;(with_reducible (repeat (first|exact ao.refl _ _|refine ao.drew ?_|refine ao.drewN ?_ _|refine ao.alloc ?_ _|refine ao.set ?_ _|refine ao.ax ?_ (by assumption)|refine ao.mw ?_ (by first|omega|(simp;done)|(simp;omega)) _))))) (first
  | (go_at_call_of 140 (Value.slice p n c);refine (eh _ X j w _ HV.out fy).mono ?_;rintro e w1 ⟨u1,rfl,xV,aD⟩)
  | (go_at_call_of 140 (Value.slice q m d);refine (eh _ Y k w _ HU.out fy).mono ?_;rintro e w2 ⟨u2,rfl,yH,aP⟩)
  | (go_at_call 148;refine (Aq _ _ X Y _ (xV.bt fy) (yH.bt fy) (Nat.le_trans qi hj) (Nat.le_trans mi hk)).mono ?_;rintro e w3 ⟨r,rfl,au,cw⟩;obtain⟨sg,pp,nn,cc,rfl⟩:=au.form;obtain⟨e5,e6,g5,g6⟩:=(aW.bt (w':=w3) b3 fy).two)
  | fail)
 have FC:=(aW.bt (w':=w3) b3 fy)
 have FB:aw w w3:=fy
 have FZ:aw w w2:=fy
 have HO:=Lib.hid (au.bh FC fq (.bool sg) (.slice pp nn cc))
 clear au
 have xW:=FC.bh (.bool (sg)) (.slice pp (nn) cc)
 have xX:=aw.bh FB (b:=w.heap.size+1+1) aa (.bool (sg)) (.slice pp (nn) cc)
 go_wp2
 generalize (w3.setCell ⟨w.heap.size+1+1,0,none⟩ (.bool (sg))).setCell ⟨w.heap.size+1+1,1,none⟩ (.slice pp (nn) cc)=wz at*
 obtain⟨xY,xZ,_,_⟩:=xW.two
 refine bodyPost_ret (v:=.agg #[.bool (sg),.slice pp (nn) cc]) (by simp[results,Tryz.results95,go_sem,xY,xZ]) rfl (bf.out _ _ ?_)
 exact⟨_,rfl,HO.out.mono FZ.size,xX⟩
theorem Jk (v u:Value) (X Y:Int) (j k:Nat) (w:World) (hv:bq w v X j) (hu:bq w u Y k) (hj:j<=1073741824) (hk:k<=1073741824):
  Calls Tryz.prog 113 #[v,u] w λe w'=>∃ r,e=.returned r/\aj w' w.heap.size r (X-Y)/\aw w w':=by
 obtain⟨s,p,n,c,rfl⟩:=hv.form
 obtain⟨t,q,m,d,rfl⟩:=hu.form
 refine aA λR' bf=> ?_
 obtain⟨b1,b2,b3,jZ⟩:=ln w 32 32 32 #[.bool s,.slice p n c] #[.bool t,.slice q m d] #[.bool false,.slice none 0 0]
 have qi:=hv.len
 have mi:=hu.len
 have HV:=Lib.hid hv
 have HU:=Lib.hid hu
 have hsz:w.heap.size+3<=(((w.alloc (.cells #[.bool s,.slice p n c] 32)).alloc (.cells #[.bool t,.slice q m d] 32)).alloc (.cells #[.bool false,.slice none 0 0] 32)).heap.size:=by simp
 clear hv hu
 go_enter Tryz.func113,Tryz.ntmps113
 go_wp2_with fail
 generalize ((w.alloc _).alloc _).alloc _=W at*
 have HS:=Lib.hid (λw' (h:ao W (w.heap.size+1+1) w')=>And.intro (h.cells b1 aa) (h.cells b2 aa))
 obtain⟨c1,c2,_,_⟩:=b1.two
 obtain⟨c3,c4,_,_⟩:=b2.two
 obtain⟨c5,c6,f5,f6⟩:=b3.two
 go_region_held3 (λw'=>(w'.cell? ⟨w.heap.size,0,none⟩=some (.bool s)/\w'.cell? ⟨w.heap.size,1,none⟩=some (.slice p n c))/\w'.cell? ⟨w.heap.size+1,0,none⟩=some (.bool t)/\w'.cell? ⟨w.heap.size+1,1,none⟩=some (.slice q m d)) ((refine HS.out _ ?_;(with_reducible (repeat (first|exact ao.refl _ _|refine ao.drew ?_|refine ao.drewN ?_ _|refine ao.alloc ?_ _|refine ao.set ?_ _|refine ao.ax ?_ (by assumption)|refine ao.mw ?_ (by first|omega|(simp;done)|(simp;omega)) _))))) (first
  | (go_at_call_of 140 (Value.slice p n c);refine (eh _ X j w _ HV.out fy).mono ?_;rintro e w1 ⟨u1,rfl,xV,aD⟩)
  | (go_at_call_of 140 (Value.slice q m d);refine (eh _ Y k w _ HU.out fy).mono ?_;rintro e w2 ⟨u2,rfl,yH,aP⟩)
  | (go_at_call 151;refine (uz _ Y _ (yH.bt fy)).mono ?_;rintro e w4 ⟨u4,rfl,hu4,gi⟩)
  | (go_at_call 148;refine (Aq _ _ X (-Y) _ (xV.bt fy) (hu4.bt fy) (Nat.le_trans qi hj) (by rw[Int.natAbs_neg];exact Nat.le_trans mi hk)).mono ?_;rintro e w3 ⟨r,rfl,au,cw⟩;obtain⟨sg,pp,nn,cc,rfl⟩:=au.form;obtain⟨e5,e6,g5,g6⟩:=(aW.bt (w':=w3) b3 fy).two)
  | fail)
 rw[<-Int.sub_eq_add_neg] at au
 have FC:=(aW.bt (w':=w3) b3 fy)
 have FB:aw w w3:=fy
 have FZ:aw w w4:=fy
 have HO:=Lib.hid (au.bh FC fq (.bool sg) (.slice pp nn cc))
 clear au
 have xW:=FC.bh (.bool (sg)) (.slice pp (nn) cc)
 have xX:=aw.bh FB (b:=w.heap.size+1+1) aa (.bool (sg)) (.slice pp (nn) cc)
 go_wp2
 generalize (w3.setCell ⟨w.heap.size+1+1,0,none⟩ (.bool (sg))).setCell ⟨w.heap.size+1+1,1,none⟩ (.slice pp (nn) cc)=wz at*
 obtain⟨xY,xZ,_,_⟩:=xW.two
 refine bodyPost_ret (v:=.agg #[.bool (sg),.slice pp (nn) cc]) (by simp[results,Tryz.results113,go_sem,xY,xZ]) rfl (bf.out _ _ ?_)
 exact⟨_,rfl,HO.out.mono FZ.size,xX⟩
def EA (w W wc:World) (T:TypeId) (X Y:Int) (x y:Value):Prop:=∃ g h s1 p1 n1 k1 s2 p2 n2 k2,x=.pointer (some ⟨g,0,none⟩)/\y=.pointer (some ⟨h,0,none⟩)/\aW wc g T #[.bool s1,.slice p1 n1 k1]/\aW wc h T #[.bool s2,.slice p2 n2 k2]/\
 bd w (.agg #[.bool s1,.slice p1 n1 k1]) X/\bd w (.agg #[.bool s2,.slice p2 n2 k2]) Y/\aw W wc
theorem jk (v u:Value) (X Y:Int) (j k:Nat) (w:World) (hv:bq w v X j) (hu:bq w u Y k) (hj:j<=536870912) (hk:k<=536870912):
  Calls Tryz.prog 96 #[v,u] w λe w'=>∃ r,e=.returned r/\aj w' w.heap.size r (X*Y)/\aw w w':=by
 obtain⟨s,p,n,c,rfl⟩:=hv.form
 obtain⟨t,q,m,d,rfl⟩:=hu.form
 refine aA λR' bf=> ?_
 obtain⟨b1,b2,b3,jZ⟩:=ln w 32 32 32 #[.bool s,.slice p n c] #[.bool t,.slice q m d] #[.bool false,.slice none 0 0]
 have qi:=hv.len
 have mi:=hu.len
 have HV:=Lib.hid hv
 have HU:=Lib.hid hu
 have hsz:w.heap.size+3<=(((w.alloc (.cells #[.bool s,.slice p n c] 32)).alloc (.cells #[.bool t,.slice q m d] 32)).alloc (.cells #[.bool false,.slice none 0 0] 32)).heap.size:=by simp
 clear hv hu
 go_enter Tryz.func96,Tryz.ntmps96
 go_wp2_with fail
 generalize ((w.alloc _).alloc _).alloc _=W at*
 have HS:=Lib.hid (λw' (h:ao W (w.heap.size+1+1) w')=>And.intro (h.cells b1 aa) (h.cells b2 aa))
 obtain⟨c1,c2,_,_⟩:=b1.two
 obtain⟨c3,c4,_,_⟩:=b2.two
 obtain⟨c5,c6,f5,f6⟩:=b3.two
 go_cut [5,6] (λx5 x6 wc=>EA w W wc 222 X Y x5 x6)
 case first=>
  go_region_held3 (λw'=>(w'.cell? ⟨w.heap.size,0,none⟩=some (.bool s)/\w'.cell? ⟨w.heap.size,1,none⟩=some (.slice p n c))/\w'.cell? ⟨w.heap.size+1,0,none⟩=some (.bool t)/\w'.cell? ⟨w.heap.size+1,1,none⟩=some (.slice q m d)) ((refine HS.out _ ?_;(with_reducible (repeat (first|exact ao.refl _ _|refine ao.drew ?_|refine ao.drewN ?_ _|refine ao.alloc ?_ _|refine ao.set ?_ _|refine ao.ax ?_ (by assumption)|refine ao.mw ?_ (by first|omega|(simp;done)|(simp;omega)) _))))) (first
   | (go_at_call_of 140 (Value.slice p n c);refine (eh _ X j w _ HV.out fy).mono ?_;rintro e w1 ⟨u1,rfl,xV,aD⟩;obtain⟨s1,p1,n1,k1,rfl⟩:=xV.fo;have vv:=aD.size;(try simp at vv);(try (have q1:=aW.bt (aW.drew (aW.new _ _ #[_,_])) aD;(try simp at q1);obtain⟨q1a,q1b,q1c,q1d⟩:=q1.two;have q1l:=q1.lt;have q1n:=Nat.ne_of_lt q1l;have q1m:=Nat.ne_of_gt q1l));(try (have q2:=aW.bt (aW.drew (aW.alloc (aW.new _ _ #[_,_]) _)) aD;(try simp at q2);obtain⟨q2a,q2b,q2c,q2d⟩:=q2.two;have q2l:=q2.lt;have q2n:=Nat.ne_of_lt q2l;have q2m:=Nat.ne_of_gt q2l)))
   | (go_at_call_of 140 (Value.slice q m d);refine (eh _ Y k w _ HU.out fy).mono ?_;rintro e w2 ⟨u2,rfl,yH,aP⟩;obtain⟨s2,p2,n2,k2,rfl⟩:=yH.fo;have hs2:=aP.size;(try simp at hs2);(try (have q3:=aW.bt (aW.new _ _ #[_,_]) aP;(try simp at q3);obtain⟨q3a,q3b,q3c,q3d⟩:=q3.two;have q3l:=q3.lt;have q3n:=Nat.ne_of_lt q3l;have q3m:=Nat.ne_of_gt q3l));(try (have q4:=aW.bt (aW.alloc (aW.new _ _ #[_,_]) _) aP;(try simp at q4);obtain⟨q4a,q4b,q4c,q4d⟩:=q4.two;have q4l:=q4.lt;have q4n:=Nat.ne_of_lt q4l;have q4m:=Nat.ne_of_gt q4l));(try (have q5:=aW.bt q1 aP;(try simp at q5);obtain⟨q5a,q5b,q5c,q5d⟩:=q5.two;have q5l:=q5.lt;have q5n:=Nat.ne_of_lt q5l;have q5m:=Nat.ne_of_gt q5l));(try (have q6:=aW.bt q2 aP;(try simp at q6);obtain⟨q6a,q6b,q6c,q6d⟩:=q6.two;have q6l:=q6.lt;have q6n:=Nat.ne_of_lt q6l;have q6m:=Nat.ne_of_gt q6l));(try (have q7:=aW.bt (aW.alloc q1 _) aP;(try simp at q7);obtain⟨q7a,q7b,q7c,q7d⟩:=q7.two;have q7l:=q7.lt;have q7n:=Nat.ne_of_lt q7l;have q7m:=Nat.ne_of_gt q7l)))
   | fail)
  all_goals
   go_wp2
   go_meet
   refine⟨_,_,s1,p1,n1,k1,s2,p2,n2,k2,rfl,rfl,?_,?_,xV,yH,?_⟩
   ·(with_reducible (repeat (first|assumption|exact aW.newAt (by first|rfl|(simp;done)) _ _|refine aW.alloc ?_ _|refine aW.drew ?_|refine aW.bh (u:=.bool false) (v:=.slice none 0 0) ?_ _ _|refine aW.dc ?_ (by first|omega|(simp;omega)) _ _|refine aW.bt ?_ (by assumption))))
   ·(with_reducible (repeat (first|assumption|exact aW.newAt (by first|rfl|(simp;done)) _ _|refine aW.alloc ?_ _|refine aW.drew ?_|refine aW.bh (u:=.bool false) (v:=.slice none 0 0) ?_ _ _|refine aW.dc ?_ (by first|omega|(simp;omega)) _ _|refine aW.bt ?_ (by assumption))))
   ·exact fy
 case rest=>
  obtain⟨g,h,s1,p1,n1,k1,s2,p2,n2,k2,rfl,rfl,B5,B6,xV,yH,hbc⟩:=hcut
  obtain⟨Ij,jA,hX⟩:=xV.parts
  obtain⟨vM,jR,hY⟩:=yH.parts
  have B3:=b3.bt hbc
  have km:aw w wc:=jZ.ax hbc
  have HR1:=Lib.hid (jA.below km)
  have HR2:=Lib.hid (jR.below km)
  have HN1:=Lib.hid Ij
  have HN2:=Lib.hid vM
  have HX:=Lib.hid hX
  have HY:=Lib.hid hY
  have hm1:n1<=536870912:=by omega
  have hm2:n2<=536870912:=by omega
  clear c1 c2 c3 c4 c5 c6 f5 f6 b1 b2 b3 hbc jZ xV yH jA jR hX hY Ij vM HS
  obtain⟨c1,c2,_,_⟩:=B5.two
  obtain⟨c3,c4,_,_⟩:=B6.two
  obtain⟨c5,c6,f5,f6⟩:=B3.two
  have hg:g≠w.heap.size+1+1:=λe=>by subst e;have:=(show wc.heap[_]? =_ from B5).symm.trans B3;simp at this
  have hh:h≠w.heap.size+1+1:=λe=>by subst e;have:=(show wc.heap[_]? =_ from B6).symm.trans B3;simp at this
  have HS:=Lib.hid (λw' (hk:ao wc (w.heap.size+1+1) w')=>And.intro (hk.cells B5 hg) (hk.cells B6 hh))
  go_wp2_with fail
  go_region_held3 (λw'=>(w'.cell? ⟨g,0,none⟩=some (.bool s1)/\w'.cell? ⟨g,1,none⟩=some (.slice p1 n1 k1))/\w'.cell? ⟨h,0,none⟩=some (.bool s2)/\w'.cell? ⟨h,1,none⟩=some (.slice p2 n2 k2)) ((refine HS.out _ ?_;(with_reducible (repeat (first|exact ao.refl _ _|refine ao.drew ?_|refine ao.drewN ?_ _|refine ao.alloc ?_ _|refine ao.set ?_ _|refine ao.ax ?_ (by assumption)|refine ao.mw ?_ (by first|omega|(simp;done)|(simp;omega)) _))))) (first
   | (go_at_call 149;refine (Im _ _ n1 n2 _ _ _ (HR1.out.below (aw.refl wc).drew) (HR2.out.below (aw.refl wc).drew) (ai _) (ai _) hm1 hm2).mono ?_;rintro e w1 ⟨v1,rfl,qZ,aD⟩;replace aD:aw _ w1:=aD;rw[ag,ag] at qZ;obtain⟨q1,l1,rfl,_,_,_⟩:=Own.form qZ)
   | (go_at_call 92;refine (eE _ _ _ _ _).mono ?_;rintro e w3 ⟨sg,rfl,tc,cw⟩;obtain⟨e5,e6,g5,g6⟩:=(aW.bt (w':=w3) B3 fy).two)
   | fail)
  have FC:=(aW.bt (w':=w3) B3 fy)
  have FB:aw w w3:=fy
  generalize hL:(limbs (X.natAbs*Y.natAbs)).length=L at*
  have HL:=Lib.hid hL
  have HO:=Lib.hid (Own.bh (Own.below qZ cw) FC fq (.bool sg) (.slice q1 L l1))
  clear qZ hL
  have xW:=FC.bh (.bool (sg)) (.slice q1 (L) l1)
  have xX:=aw.bh FB (b:=w.heap.size+1+1) aa (.bool (sg)) (.slice q1 (L) l1)
  go_wp2
  generalize (w3.setCell ⟨w.heap.size+1+1,0,none⟩ (.bool (sg))).setCell ⟨w.heap.size+1+1,1,none⟩ (.slice q1 (L) l1)=wz at*
  obtain⟨xY,xZ,_,_⟩:=xW.two
  refine bodyPost_ret (v:=.agg #[.bool (sg),.slice q1 (L) l1]) (by simp[results,Tryz.results96,go_sem,xY,xZ]) rfl (bf.out _ _ ?_)
  rw[tc.out]
  refine⟨_,rfl,aj.of (m:=X.natAbs*Y.natAbs) (by rw[HL.out];exact Own.mono HO.out km.size) HL.out.symm _ ?_,xX⟩
  rw[HX.out,HY.out]
  cases s1 <;> cases s2 <;> simp[Int.neg_mul,Int.mul_neg]
end
section
open Go.RowKit
theorem ra (s:Bool) (p:Option Addr) (n c:Nat) (w:World):(Instr.field 222 (.agg #[.bool s,.slice p n c]) 0).run Tryz.prog w=.ok (.agg #[.bool s,.slice p n c]) w:=by kernel_rfl
theorem rb (s:Bool) (p:Option Addr) (n c:Nat) (w:World):(Instr.field 32 (.agg #[.bool s,.slice p n c]) 1).run Tryz.prog w=.ok (.slice p n c) w:=by kernel_rfl
theorem Ar (v:Value) (X:Int) (j:Nat) (w:World) (hv:bq w v X j) (hj:j<=1073741824):
  Calls Tryz.prog 98 #[v] w λe w'=>∃ r,e=.returned r/\aj w' w.heap.size r (-X)/\aw w w':=by
 obtain⟨s,p,n,c,rfl⟩:=hv.form
 refine aA λR' bf=> ?_
 obtain⟨b1,b2,jZ⟩:=jT w 32 32 #[.bool s,.slice p n c] #[.bool false,.slice none 0 0]
 have qi:=hv.len
 have HV:=Lib.hid hv
 have hsz:w.heap.size+2<=((w.alloc (.cells #[.bool s,.slice p n c] 32)).alloc (.cells #[.bool false,.slice none 0 0] 32)).heap.size:=by simp
 clear hv
 go_enter Tryz.func98,Tryz.ntmps98
 go_wp2_with fail
 generalize (w.alloc _).alloc _=W at*
 refine (eh _ X j w _ HV.out fy).mono ?_
 rintro e w1 ⟨v1,rfl,vJ,aD⟩
 go_wp2_with fail
 refine (uz _ X _ (vJ.bt fy)).mono ?_
 rintro e w2 ⟨v2,rfl,hi2,aP⟩
 obtain⟨s2,p2,n2,k2,rfl⟩:=hi2.fo
 obtain⟨vM,jR,_⟩:=hi2.parts
 have hm2:n2<=1073741824:=by rw[vM,Int.natAbs_neg];omega
 have HN2:=Lib.hid vM
 have HI2:=Lib.hid hi2
 have HR2:=Lib.hid jR
 clear hi2 vM jR vJ
 go_wp2_with fail
 have B5:=aW.new w2 222 #[.bool s2,.slice p2 n2 k2]
 have hbT:aw w2 (w2.alloc (.cells #[.bool s2,.slice p2 n2 k2] 222)):=(aw.refl w2).alloc _
 have B2:=((b2.bt aD).bt aP).bt hbT
 have hlt:=b2.lt
 have sR:=aD.size
 have hbs2:=aP.size
 have hne:w2.heap.size≠w.heap.size+1:=by omega
 generalize w2.alloc _=T at*
 have HS:=Lib.hid (λw' (hk:ao T (w.heap.size+1) w')=>hk.cells B5 hne)
 obtain⟨c1,c2,_,_⟩:=B5.two
 obtain⟨c5,c6,f5,f6⟩:=B2.two
 go_region_held3 (λw'=>w'.cell? ⟨w2.heap.size,0,none⟩=some (.bool s2)/\w'.cell? ⟨w2.heap.size,1,none⟩=some (.slice p2 n2 k2)) ((refine HS.out _ ?_;(with_reducible (repeat (first|exact ao.refl _ _|refine ao.drew ?_|refine ao.drewN ?_ _|refine ao.alloc ?_ _|refine ao.set ?_ _|refine ao.ax ?_ (by assumption)|refine ao.mw ?_ (by first|omega|(simp;done)|(simp;omega)) _))))) (first
  | (go_at_call 144;refine (gv _ n2 _ _ (Rd.below (HR2.out.below hbT) (aw.refl T).drew) hm2).mono ?_;rintro e w3 ⟨v3,rfl,CN,cw⟩;replace cw:aw _ w3:=cw;obtain⟨q3,l3,rfl,_,_,_⟩:=Own.form CN;obtain⟨e5,e6,g5,g6⟩:=(aW.bt (w':=w3) B2 fy).two)
  | fail)
 have FC:=(aW.bt (w':=w3) B2 fy)
 have FB:aw w w3:=fy
 have FT:aw w T:=fy
 have HO:=Lib.hid (Own.bh CN FC fq (.bool s2) (.slice q3 n2 l3))
 clear CN
 have xW:=FC.bh (.bool (s2)) (.slice q3 (n2) l3)
 have xX:=aw.bh FB (b:=w.heap.size+1) aa (.bool (s2)) (.slice q3 (n2) l3)
 go_wp2
 generalize (w3.setCell ⟨w.heap.size+1,0,none⟩ (.bool (s2))).setCell ⟨w.heap.size+1,1,none⟩ (.slice q3 (n2) l3)=wz at*
 obtain⟨xY,xZ,_,_⟩:=xW.two
 refine bodyPost_ret (v:=.agg #[.bool (s2),.slice q3 (n2) l3]) (by simp[results,Tryz.results98,go_sem,xY,xZ]) rfl (bf.out _ _ ?_)
 exact⟨_,rfl,HI2.out.own (Own.mono HO.out FT.size),xX⟩
set_option maxRecDepth 100000 in
theorem Jl (v:Value) (X:Int) (j:Nat) (w:World) (hv:bq w v X j) (hj:j<=1073741824):
  Calls Tryz.prog 99 #[v] w λe w'=>∃ r,e=.returned r/\aj w' w.heap.size r (X.natAbs:Int)/\aw w w':=by
 obtain⟨s,p,n,c,rfl⟩:=hv.form
 refine aA λR' bf=> ?_
 obtain⟨b1,b2,jZ⟩:=jT w 32 32 #[.bool s,.slice p n c] #[.bool false,.slice none 0 0]
 have qi:=hv.len
 have HV:=Lib.hid hv
 clear hv
 go_enter Tryz.func99,Tryz.ntmps99
 go_wp2_with fail
 generalize (w.alloc _).alloc _=W at*
 refine (eh _ X j w _ HV.out fy).mono ?_
 rintro e w1 ⟨v1,rfl,vJ,aD⟩
 obtain⟨s2,p2,n2,k2,rfl⟩:=vJ.fo
 obtain⟨vM,jR,_⟩:=vJ.parts
 have hm2:n2<=1073741824:=by rw[vM];omega
 have HN2:=Lib.hid vM
 have HR2:=Lib.hid jR
 have km:aw w w1:=jZ.ax aD
 have hf1:=ra s2 p2 n2 k2 w1
 have hf2:=rb s2 p2 n2 k2 w1
 clear vM jR vJ
 go_wp2_with fail
 refine (gv _ n2 _ _ (HR2.out.below km) hm2).mono ?_
 rintro e w3 ⟨v3,rfl,CN,cw⟩
 replace cw:aw _ w3:=cw
 obtain⟨q3,l3,rfl,_,_,_⟩:=Own.form CN
 have FC:=(aW.bt (w':=w3) b2 fy)
 have FB:aw w w3:=fy
 have HO:=Lib.hid (Own.bh CN FC fq (.bool false) (.slice q3 n2 l3))
 obtain⟨e5,e6,g5,g6⟩:=FC.two
 clear CN
 have xW:=FC.bh (.bool (false)) (.slice q3 (n2) l3)
 have xX:=aw.bh FB (b:=w.heap.size+1) aa (.bool (false)) (.slice q3 (n2) l3)
 go_wp2
 generalize (w3.setCell ⟨w.heap.size+1,0,none⟩ (.bool (false))).setCell ⟨w.heap.size+1,1,none⟩ (.slice q3 (n2) l3)=wz at*
 obtain⟨xY,xZ,_,_⟩:=xW.two
 refine bodyPost_ret (v:=.agg #[.bool (false),.slice q3 (n2) l3]) (by simp[results,Tryz.results99,go_sem,xY,xZ]) rfl (bf.out _ _ ?_)
 exact⟨_,rfl,aj.ofNat (Own.mono HO.out km.size) HN2.out,xX⟩
theorem iR (v:Value) (X:Int) (j:Nat) (w:World) (hv:bq w v X j):
  Calls Tryz.prog 112 #[v] w λe w'=>e=.returned (.int .i64 X.sign)/\aw w w':=by
 obtain⟨s,p,n,c,rfl⟩:=hv.form
 refine aA λR' bf=> ?_
 have HV:=Lib.hid hv
 have jZ:=(aw.refl w).alloc (.cells #[.bool s,.slice p n c] 32)
 clear hv
 go_enter Tryz.func112,Tryz.ntmps112
 go_wp2_with fail
 generalize w.alloc _=W at*
 refine (eh _ X j w _ HV.out fy).mono ?_
 rintro e w1 ⟨v1,rfl,vJ,aD⟩
 obtain⟨s2,p2,n2,k2,rfl⟩:=vJ.fo
 obtain⟨vM,_,hX⟩:=vJ.parts
 have km:aw w w1:=jZ.ax aD
 have tc:=vJ.IB
 clear vJ
 cases s2
 ·by_cases h0:X=0
  ·subst h0
   have:n2=0:=by rw[vM];simp[bc]
   subst this
   clear vM hX tc
   go_wp2
   exact bf.out _ _ ⟨rfl,km.alloc _⟩
  ·have hp:0<n2:=by rw[vM];exact cO aa
   have hs:X.sign=1:=dp (by simp at hX;omega)
   rw[hs] at bf
   clear vM hX tc
   have hpi:(0:Int)<(n2:Int):=by omega
   go_wp2
   exact bf.out _ _ ⟨rfl,km.alloc _⟩
 ·have hs:X.sign= -1:=sign_neg (of_decide_eq_true tc.symm)
  rw[hs] at bf
  clear vM hX tc
  go_wp2
  exact bf.out _ _ ⟨rfl,km.alloc _⟩
theorem kH (v u:Value) (X Y:Int) (j k:Nat) (w:World) (hv:bq w v X j) (hu:bq w u Y k) (hj:j<=1073741824) (hk:k<=1073741824):
  Calls Tryz.prog 51 #[v,u] w λe w'=>e=.returned (.int .i64 (X-Y).sign)/\aw w w':=by
 obtain⟨s,p,n,c,rfl⟩:=hv.form
 obtain⟨t,q,m,d,rfl⟩:=hu.form
 refine aA λR' bf=> ?_
 obtain⟨b1,b2,jZ⟩:=jT w 32 32 #[.bool s,.slice p n c] #[.bool t,.slice q m d]
 have HV:=Lib.hid (hv.bt jZ)
 have HU:=Lib.hid (hu.bt jZ)
 clear hv hu
 go_enter Tryz.func51,Tryz.ntmps51
 go_wp2_with fail
 generalize (w.alloc _).alloc _=W at*
 refine (Jk _ _ X Y j k _ HV.out HU.out hj hk).mono ?_
 rintro e w1 ⟨r,rfl,ho,aD⟩
 go_wp2_with fail
 refine (iR _ (X-Y) _ _ (ho.rd.to (Nat.le_refl _))).mono ?_
 rintro e w2 ⟨rfl,aP⟩
 go_wp2
 exact bf.out _ _ ⟨rfl,(jZ.ax aD).ax aP⟩
theorem u64neg {n:Int} (h0:n<0) (h1: -9223372036854775808<=n):IntKind.u64.wrap (-(IntKind.u64.wrap n))=(n.natAbs:Int):=by
 rw[pz,pz];omega
theorem u64pos {n:Int} (h0:0<=n) (h1:n<=9223372036854775807):IntKind.u64.wrap n=(n.natAbs:Int):=by
 rw[pz];omega
theorem rU {a:Nat}:af [a%4294967296,a/4294967296]=a:=by
 rw[dV,dV,cZ];omega
set_option maxRecDepth 100000 in
theorem lI (n:Int) (w:World) (h0: -9223372036854775808<=n) (h1:n<=9223372036854775807):
  Calls Tryz.prog 40 #[.int .i64 n] w λe w'=>∃ r,e=.returned r/\aj w' w.heap.size r n/\aw w w':=by
 refine aA λR' bf=> ?_
 obtain⟨a,ha⟩:∃ a,a=n.natAbs:=⟨_,rfl⟩
 have HA:=Lib.hid ha
 have ha2:a<18446744073709551616:=by omega
 have mo:=aW.new w 32 #[.bool false,.slice none 0 0]
 have jZ:=(aw.refl w).alloc (.cells #[.bool false,.slice none 0 0] 32)
 have hRl:=Rd.lit2 (w:=w.alloc (.cells #[.bool false,.slice none 0 0] 32)) (k:=.u32) (e:=191) (x:=(a:Int)%4294967296) (y:=(a:Int)/4294967296) (a:=a%4294967296) (b:=a/4294967296) aa aa
 rw[World.size_alloc] at hRl
 go_enter Tryz.func40,Tryz.ntmps40
 by_cases hn:n<0
 ·have e1:=u64neg hn h0
  rw[<-ha] at e1
  have HN:=Lib.hid hn
  clear ha
  go_wp2_with fail
  refine (gU _ 2 [a%4294967296,a/4294967296] _ hRl (bH.cons aa (bH.cons aa bH.nil)) aa).mono ?_
  rintro e w1 ⟨v1,rfl,qZ,aD⟩
  replace aD:aw _ w1:=aD
  rw[rU] at qZ
  obtain⟨p1,k1,rfl,_,_,_⟩:=Own.form qZ
  generalize hL:(limbs a).length=L at*
  have HL:=Lib.hid hL
  have FC1:=(mo.alloc (.cells #[.int .u32 ((a:Int)%4294967296),.int .u32 ((a:Int)/4294967296)] 191)).bt aD
  have FB1:aw w w1:=(((aw.refl w).alloc _).alloc _).ax aD
  have oU:=Lib.hid qZ
  clear qZ hL aD
  go_wp2_with fail
  refine (eE _ _ _ _ _).mono ?_
  rintro e w3 ⟨sg,rfl,tc,cw⟩
  have FC:=FC1.bt cw
  have FB:=FB1.ax cw
  obtain⟨e5,e6,g5,g6⟩:=FC.two
  have HO:=Lib.hid (Own.bh (Own.below oU.out cw) FC fq (.bool sg) (.slice p1 L k1))
  clear oU FC1
  have xW:=FC.bh (.bool (sg)) (.slice p1 (L) k1)
  have xX:=aw.bh FB (b:=w.heap.size) aa (.bool (sg)) (.slice p1 (L) k1)
  go_wp2
  generalize (w3.setCell ⟨w.heap.size,0,none⟩ (.bool (sg))).setCell ⟨w.heap.size,1,none⟩ (.slice p1 (L) k1)=wz at*
  obtain⟨xY,xZ,_,_⟩:=xW.two
  refine bodyPost_ret (v:=.agg #[.bool (sg),.slice p1 (L) k1]) (by simp[results,Tryz.results40,go_sem,xY,xZ]) rfl (bf.out _ _ ?_)
  rw[tc.out]
  refine⟨_,rfl,aj.of (m:=a) (by rw[HL.out];exact Own.mono HO.out (by simp;omega)) HL.out.symm _ ?_,xX⟩
  have:=HN.out
  have:=HA.out
  simp;omega
 ·have e1:=u64pos (by omega:0<=n) h1
  rw[<-ha] at e1
  have HN:=Lib.hid hn
  clear ha
  go_wp2_with fail
  refine (gU _ 2 [a%4294967296,a/4294967296] _ hRl (bH.cons aa (bH.cons aa bH.nil)) aa).mono ?_
  rintro e w1 ⟨v1,rfl,qZ,aD⟩
  replace aD:aw _ w1:=aD
  rw[rU] at qZ
  obtain⟨p1,k1,rfl,_,_,_⟩:=Own.form qZ
  generalize hL:(limbs a).length=L at*
  have HL:=Lib.hid hL
  have FC1:=(mo.alloc (.cells #[.int .u32 ((a:Int)%4294967296),.int .u32 ((a:Int)/4294967296)] 191)).bt aD
  have FB1:aw w w1:=(((aw.refl w).alloc _).alloc _).ax aD
  have oU:=Lib.hid qZ
  clear qZ hL aD
  go_wp2_with fail
  refine (eE _ _ _ _ _).mono ?_
  rintro e w3 ⟨sg,rfl,tc,cw⟩
  have FC:=FC1.bt cw
  have FB:=FB1.ax cw
  obtain⟨e5,e6,g5,g6⟩:=FC.two
  have HO:=Lib.hid (Own.bh (Own.below oU.out cw) FC fq (.bool sg) (.slice p1 L k1))
  clear oU FC1
  have xW:=FC.bh (.bool (sg)) (.slice p1 (L) k1)
  have xX:=aw.bh FB (b:=w.heap.size) aa (.bool (sg)) (.slice p1 (L) k1)
  go_wp2
  generalize (w3.setCell ⟨w.heap.size,0,none⟩ (.bool (sg))).setCell ⟨w.heap.size,1,none⟩ (.slice p1 (L) k1)=wz at*
  obtain⟨xY,xZ,_,_⟩:=xW.two
  refine bodyPost_ret (v:=.agg #[.bool (sg),.slice p1 (L) k1]) (by simp[results,Tryz.results40,go_sem,xY,xZ]) rfl (bf.out _ _ ?_)
  rw[tc.out]
  refine⟨_,rfl,aj.of (m:=a) (by rw[HL.out];exact Own.mono HO.out (by simp;omega)) HL.out.symm _ ?_,xX⟩
  have:=HN.out
  have:=HA.out
  simp;omega
end
section
open Go.RowKit
def oK (rows:List (List Nat)):Nat:=rows.foldl (λa r=>Nat.gcd a (af r)) 0
theorem Gi (rows:List (List Nat)) (r:List Nat):oK (rows++[r])=Nat.gcd (oK rows) (af r):=by simp[oK,List.foldl_append]
theorem Jm {x y:Nat}:Nat.gcd y (x%y)=Nat.gcd x y:=by rw[Nat.gcd_comm,<-Nat.gcd_rec,Nat.gcd_comm]
def GcdOut (w:World) (B:Nat) (rows:List (List Nat)) (g:Nat) (av iv:Value) (wr:World):Prop:=
 ∃ k,k<=rows.length/\g=rows.length-k/\iv=.int .i64 (k:Int)/\wr.ownsRow B 191 1 av (limbs (oK (rows.take k))).length (ints .u32 (limbs (oK (rows.take k))))/\(limbs (oK (rows.take k))).length<=536870912/\Below B w wr
def GcdIn (w:World) (B G:Nat) (g:Nat) (av bv:Value) (wr:World):Prop:=
 ∃ x,Nat.gcd x g=G/\wr.ownsRow B 191 1 av (limbs x).length (ints .u32 (limbs x))/\wr.ownsRow B 191 1 bv (limbs g).length (ints .u32 (limbs g))/\(limbs x).length<=536870912/\(limbs g).length<=536870912/\Below B w wr
set_option maxRecDepth 100000 in
theorem Jn (va:Value) (rows:List (List Nat)) (w:World) (hr:fT w va rows) (hx:∀ xs∈rows,bH xs/\xs.length<=536870912) (hn:rows.length<=1048576):
  Calls Tryz.prog 175 #[va] w λe w'=>∃ v',e=.returned v'/\w'.ownsRow w.heap.size 191 1 v' (limbs (oK rows)).length (ints .u32 (limbs (oK rows)))/\Below w.heap.size w w':=by
 obtain⟨p,c,rfl,dW,eJ⟩:=hr.form
 have Hr:=Lib.hid hr
 have HL:=Lib.hid hx
 obtain⟨B,hB⟩:∃ B,B=w.heap.size:=⟨_,rfl⟩
 have HB:=Lib.hid hB
 obtain⟨N,hN⟩:∃ N,N=rows.length:=⟨_,rfl⟩
 rw[<-hN] at dW hn ⊢
 have HN:=Lib.hid hN
 rw[<-hB]
 clear hx hr hB hN
 refine aA λR' bf=> ?_
 go_enter Tryz.func175,Tryz.ntmps175
 go_wp2
 go_loopg [3,11] N (λg av iv wr=>GcdOut w B rows g av iv wr)
 case atStart=>exact⟨0,Nat.zero_le _,by rw[HN.out];rfl,rfl,by simp[oK,bc];exact World.ownsRow_nil _ _ _ _,by simp[oK,bc],Below.refl _ _⟩
 case round=>
  obtain⟨k,hk,hgk,rfl,au,hlen,hb⟩:=hrel
  have HO:=Lib.hid au
  have ft:=Lib.hid hb
  have HGK:=Lib.hid hgk
  have HLEN:=Lib.hid hlen
  rw[<-HN.out] at hk
  clear au hb hgk hlen
  by_cases ss:k<N
  ·obtain⟨b1,o1,u,xs,rfl,ey,kj,hru⟩:=((Hr.out.below (by have:=ft.out;rwa [HB.out] at this)).at (k:=k) (by rw[<-HN.out];exact ss))
   have sS:=Lib.hid ey
   have HRU:=Lib.hid hru
   clear ey hru
   have sR:B<=wr.heap.size:=by have:=ft.out.size;have:=HB.out;omega
   obtain⟨vB,vt⟩:=HL.out xs (List.mem_of_getElem? sS.out)
   obtain⟨a,ha⟩:∃ a,a=oK (rows.take k):=⟨_,rfl⟩
   obtain⟨y,hy⟩:∃ y,y=af xs:=⟨_,rfl⟩
   have iM:(limbs y).length<=536870912:=by rw[hy];exact Nat.le_trans (fR vB) vt
   have HL1:=Lib.hid vB
   have HL2:=Lib.hid vt
   have HYL:=Lib.hid iM
   have HG:Hid (Nat.gcd a y=oK (rows.take (k+1))):=by show _=_;rw[bb sS.out,Gi,ha,hy]
   have HA:=Lib.hid ha
   have HY:=Lib.hid hy
   clear ha hy vB vt iM
   go_wp2_with fail
   refine (gU _ _ xs _ HRU.out HL1.out (by have:=HL2.out;omega)).mono ?_
   rintro e w2 ⟨v',rfl,iZ,aP⟩
   rw[<-HY.out] at iZ
   have qZ:=Own.below HO.out aP
   rw[<-HA.out] at qZ
   have oU:=Lib.hid qZ
   clear qZ
   have lV:=Lib.hid (Own.mono iZ sR)
   have rJ:=Lib.hid (ft.out.trans (aP.mono sR))
   clear iZ aP kj
   go_wp2_with fail
   go_loopg [3,5] y (λg av bv wr=>GcdIn w B (Nat.gcd a y) g av bv wr)
   case atStart=>exact⟨a,rfl,oU.out,lV.out,by rw[HA.out];exact HLEN.out,HYL.out,rJ.out⟩
   case round=>
    obtain⟨x,yx,hox,hoy,qi,mi,km⟩:=hrel
    have HXY:=Lib.hid yx
    have HOX:=Lib.hid hox
    have HOY:=Lib.hid hoy
    have HLX:=Lib.hid qi
    have HLY:=Lib.hid mi
    have HBX:=Lib.hid km
    obtain⟨py,cy,rfl,_,_,_⟩:=Own.form hoy
    clear yx hox hoy qi mi km
    by_cases Jo:gk=0
    ·subst Jo
     have hl0:(limbs 0).length=0:=by rw[bc];rfl
     rw[hl0]
     have hxg:x=oK (rows.take (k+1)):=by rw[<-HG.out,<-HXY.out,Nat.gcd_zero_right]
     have HXG:=Lib.hid hxg
     clear hxg hl0
     go_wp2_with fail
     go_roundg (N-(k+1))
     case measure=>have:=HGK.out;have:=HN.out;omega
     case rel=>exact⟨k+1,by rw[<-HN.out];omega,by rw[HN.out],by go_num,by rw[<-HXG.out];exact HOX.out,by rw[<-HXG.out];exact HLX.out,HBX.out⟩
    ·have hp:(0:Int)<((limbs gk).length:Int):=by have:=cO Jo;omega
     have HG0:=Lib.hid Jo
     obtain⟨L,hL⟩:∃ L,L=(limbs gk).length:=⟨_,rfl⟩
     rw[<-hL] at hp ⊢
     have HL:=Lib.hid hL
     have hbx:B<=wr.heap.size:=by have:=HBX.out.size;have:=HB.out;omega
     clear Jo hL
     go_wp2_with fail
     refine (rI _ _ _ _ _ _ _ (Rd.own HOX.out) (by rw[HL.out];exact Rd.own HOY.out) (ai _) (ai _) HLX.out HLY.out).mono ?_
     rintro e w3 ⟨⟨h,rfl⟩|⟨h,vq,vr,rfl,zv,tH⟩,cw⟩
     ·exact absurd (by rw[ag] at h;exact h) HG0.out
     rw[ag,ag] at tH
     have hlt:x%gk<gk:=Nat.mod_lt _ (Nat.pos_iff_ne_zero.2 HG0.out)
     have HLT:=Lib.hid hlt
     have HOR:=Lib.hid (Own.mono tH hbx)
     have HOG:=Lib.hid (Own.below HOY.out cw)
     have Hh:=Lib.hid (HBX.out.trans (cw.mono hbx))
     clear zv tH cw h hlt
     go_wp2_with fail
     go_roundg (x%gk)
     case measure=>exact HLT.out
     case rel=>exact⟨gk,by rw[Jm];exact HXY.out,by rw[HL.out];exact HOG.out,HOR.out,HLY.out,Nat.le_trans (bZ (Nat.le_of_lt HLT.out)) HLY.out,Hh.out⟩
  ·obtain rfl:k=N:=by omega
   go_wp2_with fail
   refine (gv _ _ _ _ (Rd.own HO.out) (by have:=HLEN.out;omega)).mono ?_
   rintro e w2 ⟨v',rfl,iZ,aP⟩
   have sR:B<=wr.heap.size:=by have:=ft.out.size;have:=HB.out;omega
   go_wp2_with fail
   refine bf.out _ _ ⟨_,rfl,?_,ft.out.trans (aP.mono sR)⟩
   have:=Own.mono iZ sR
   rwa [List.take_of_length_le (by rw[HN.out];exact Nat.le_refl _)] at this
end
section
open Go.RowKit
theorem Jp (x y:Nat):oK [limbs x,limbs y]=Nat.gcd x y:=by simp[oK,ag]
set_option maxRecDepth 100000 in
theorem Au (v u:Value) (X Y:Int) (j k:Nat) (w:World) (hv:bq w v X j) (hu:bq w u Y k) (hj:j<=536870912) (hk:k<=536870912):
  Calls Tryz.prog 146 #[v,u] w λe w'=>∃ r,e=.returned r/\aj w' w.heap.size r (Int.gcd X Y:Int)/\aw w w':=by
 obtain⟨s,p,n,c,rfl⟩:=hv.form
 obtain⟨t,q,m,d,rfl⟩:=hu.form
 refine aA λR' bf=> ?_
 obtain⟨b1,b2,b3,jZ⟩:=ln w 32 32 32 #[.bool s,.slice p n c] #[.bool t,.slice q m d] #[.bool false,.slice none 0 0]
 have qi:=hv.len
 have mi:=hu.len
 have HJ:=Lib.hid (Nat.le_trans qi hj)
 have HK:=Lib.hid (Nat.le_trans mi hk)
 have HV:=Lib.hid hv
 have HU:=Lib.hid hu
 have hsz:w.heap.size+3<=(((w.alloc (.cells #[.bool s,.slice p n c] 32)).alloc (.cells #[.bool t,.slice q m d] 32)).alloc (.cells #[.bool false,.slice none 0 0] 32)).heap.size:=by simp
 clear hv hu hj hk qi mi
 go_enter Tryz.func146,Tryz.ntmps146
 go_wp2_with fail
 generalize ((w.alloc _).alloc _).alloc _=W at*
 have HS:=Lib.hid (λw' (h:ao W (w.heap.size+1+1) w')=>And.intro (h.cells b1 aa) (h.cells b2 aa))
 obtain⟨c1,c2,_,_⟩:=b1.two
 obtain⟨c3,c4,_,_⟩:=b2.two
 obtain⟨c5,c6,f5,f6⟩:=b3.two
 go_region_held3 (λw'=>(w'.cell? ⟨w.heap.size,0,none⟩=some (.bool s)/\w'.cell? ⟨w.heap.size,1,none⟩=some (.slice p n c))/\w'.cell? ⟨w.heap.size+1,0,none⟩=some (.bool t)/\w'.cell? ⟨w.heap.size+1,1,none⟩=some (.slice q m d)) ((refine HS.out _ ?_;(with_reducible (repeat (first|exact ao.refl _ _|refine ao.drew ?_|refine ao.drewN ?_ _|refine ao.alloc ?_ _|refine ao.set ?_ _|refine ao.ax ?_ (by assumption)|refine ao.mw ?_ (by first|omega|(simp;done)|(simp;omega)) _))))) (first
  | (go_at_call_of 140 (Value.slice p n c);refine (eh _ X j w _ HV.out fy).mono ?_;rintro e w1 ⟨u1,rfl,xV,aD⟩;obtain⟨s1,p1,n1,k1,rfl⟩:=xV.fo;have hf1:=ra s1 p1 n1 k1;have hf2:=rb s1 p1 n1 k1)
  | (go_at_call_of 140 (Value.slice q m d);refine (eh _ Y k w _ HU.out fy).mono ?_;rintro e w2 ⟨u2,rfl,yH,aP⟩;obtain⟨s2,p2,n2,k2,rfl⟩:=yH.fo;have hf3:=ra s2 p2 n2 k2;have hf4:=rb s2 p2 n2 k2;have HP1:=Lib.hid xV.parts;have HP2:=Lib.hid yH.parts)
  | (go_at_call 175;refine (Jn _ [limbs X.natAbs,limbs Y.natAbs] _ (fT.two (Ef rfl) (by rw[<-HP1.out.1];exact HP1.out.2.1.below (by show aw _ _;exact fy)) (by rw[<-HP2.out.1];exact HP2.out.2.1.below (by show aw _ _;exact fy))) (λxs hx=>by rcases List.mem_cons.1 hx with rfl|hx;exact⟨ai _,HJ.out⟩;obtain rfl:=List.mem_singleton.1 hx;exact⟨ai _,HK.out⟩) (by show 2<=1048576;omega)).mono ?_;rintro e w3 ⟨v3,rfl,CN,cw⟩;replace cw:aw _ w3:=cw;rw[Jp] at CN;obtain⟨p3,k3,rfl,_,_,_⟩:=Own.form CN)
  | (go_at_call 92;refine (eE _ _ _ _ _).mono ?_;rintro e w4 ⟨sg,rfl,tc,gi⟩;obtain⟨e5,e6,g5,g6⟩:=(aW.bt (w':=w4) b3 fy).two)
  | fail)
 have FC:=(aW.bt (w':=w4) b3 fy)
 have FB:aw w w4:=fy
 have FZ:aw w (w2.alloc (.cells #[.slice p1 n1 k1,.slice p2 n2 k2] 30)):=fy
 generalize hL:(limbs (X.natAbs.gcd Y.natAbs)).length=L at*
 have HL:=Lib.hid hL
 have HO:=Lib.hid (Own.bh (Own.below CN gi) FC fq (.bool sg) (.slice p3 L k3))
 clear CN hL
 have xW:=FC.bh (.bool (sg)) (.slice p3 (L) k3)
 have xX:=aw.bh FB (b:=w.heap.size+1+1) aa (.bool (sg)) (.slice p3 (L) k3)
 go_wp2
 generalize (w4.setCell ⟨w.heap.size+1+1,0,none⟩ (.bool (sg))).setCell ⟨w.heap.size+1+1,1,none⟩ (.slice p3 (L) k3)=wz at*
 obtain⟨xY,xZ,_,_⟩:=xW.two
 refine bodyPost_ret (v:=.agg #[.bool (sg),.slice p3 (L) k3]) (by simp[results,Tryz.results146,go_sem,xY,xZ]) rfl (bf.out _ _ ?_)
 rw[tc.out]
 refine⟨_,rfl,aj.of (m:=X.natAbs.gcd Y.natAbs) (by rw[HL.out];exact Own.mono HO.out FZ.size) HL.out.symm _ ?_,xX⟩
 simp[Int.gcd]
end
section
open Go.RowKit
theorem boxes4 (w:World) (t t' BQ t3:TypeId) (cs gw nN cs3:Array Value):aW ((((w.alloc (.cells cs t)).alloc (.cells gw t')).alloc (.cells nN BQ)).alloc (.cells cs3 t3)) w.heap.size t cs/\aW ((((w.alloc (.cells cs t)).alloc (.cells gw t')).alloc (.cells nN BQ)).alloc (.cells cs3 t3)) (w.heap.size+1) t' gw/\
  aW ((((w.alloc (.cells cs t)).alloc (.cells gw t')).alloc (.cells nN BQ)).alloc (.cells cs3 t3)) (w.heap.size+2) BQ nN/\aW ((((w.alloc (.cells cs t)).alloc (.cells gw t')).alloc (.cells nN BQ)).alloc (.cells cs3 t3)) (w.heap.size+3) t3 cs3/\
  aw w ((((w.alloc (.cells cs t)).alloc (.cells gw t')).alloc (.cells nN BQ)).alloc (.cells cs3 t3)):=
 ⟨(ln w t t' BQ cs gw nN).1.alloc _,(ln w t t' BQ cs gw nN).2.1.alloc _,(ln w t t' BQ cs gw nN).2.2.1.alloc _,aW.newAt cS _ _,(ln w t t' BQ cs gw nN).2.2.2.alloc _⟩
def uB (w w':World) (X Y:Int) (e:Ending):Prop:=
 (Y=0/\∃ v u,e=.returned (.tuple #[v,u,.int .i64 20])/\aj w' w.heap.size v 0/\aj w' w.heap.size u 0)\/
 (Y≠0/\∃ v u,e=.returned (.tuple #[v,u,.int .i64 0])/\aj w' w.heap.size v (X.fdiv Y)/\aj w' w.heap.size u (X.fmod Y))
def Jq (a b:Nat) (s t:Bool) (M R:Nat):Prop:=((s=t\/a%b=0)/\M=a/b/\R=a%b)\/(s≠t/\a%b≠0/\M=a/b+1/\R=b-a%b)
theorem nx {X Y:Int} {a b M R:Nat} {s t:Bool} (hX:X=if s=true then-(a:Int) else a) (hY:Y=if t=true then-(b:Int) else b) (hb:b≠0) (h:Jq a b s t M R):
  X.fdiv Y=(if (!(s == t))=true then-(M:Int) else M)/\X.fmod Y=(if t=true then-(R:Int) else R):=by
 unfold Jq at h
 have e:=Nat.div_add_mod a b
 have hlt:=Nat.mod_lt a (Nat.pos_of_ne_zero hb)
 generalize a/b=q at*
 generalize a%b=r at*
 have e':(a:Int)=(b:Int)*(q:Int)+(r:Int):=by rw[<-e];simp
 rw[e'] at hX
 have hR:R<=b:=by rcases h with ⟨_,_,rfl⟩|⟨_,_,_,rfl⟩ <;> omega
 cases t
 ·have hp:0<Y:=by simp at hY;omega
  refine (Int.fdiv_fmod_unique hp).2 ?_
  rcases h with ⟨h1,rfl,rfl⟩|⟨h1,h2,rfl,rfl⟩
  ·cases s
   ·simp at hX hY ⊢
    subst hX;subst hY
    omega
   ·simp at h1 hX hY ⊢
    subst hX;subst hY;subst h1
    simp only[Int.mul_neg]
    omega
  ·cases s
   ·exact absurd rfl h1
   ·simp at hX hY ⊢
    subst hX;subst hY
    rw[Int.natCast_sub aa]
    simp only[Int.mul_add,Int.mul_neg,Int.mul_one,Int.neg_add]
    omega
 ·have hp:Y<0:=by simp at hY;omega
  refine (Int.fdiv_fmod_unique' hp).2 ?_
  rcases h with ⟨h1,rfl,rfl⟩|⟨h1,h2,rfl,rfl⟩
  ·cases s
   ·simp at h1 hX hY ⊢
    subst hX;subst hY;subst h1
    simp only[Int.neg_mul_neg]
    omega
   ·simp at hX hY ⊢
    subst hX;subst hY
    simp only[Int.neg_mul]
    omega
  ·cases s
   ·simp at hX hY ⊢
    subst hX;subst hY
    rw[Int.natCast_sub aa]
    simp only[Int.mul_add,Int.neg_mul,Int.mul_neg,Int.mul_one,Int.neg_add,Int.neg_neg]
    omega
   ·exact absurd rfl h1
set_option maxRecDepth 100000 in
theorem ib (v u:Value) (X Y:Int) (j k:Nat) (w:World) (hv:bq w v X j) (hu:bq w u Y k) (hj:j<=536870912) (hk:k<=536870912):
  Calls Tryz.prog 147 #[v,u] w λe w'=>uB w w' X Y e/\aw w w':=by
 obtain⟨s,p,n,c,rfl⟩:=hv.form
 obtain⟨t,q,m,d,rfl⟩:=hu.form
 refine aA λR' bf=> ?_
 obtain⟨b1,b2,b3,b4,jZ⟩:=boxes4 w 32 32 32 32 #[.bool s,.slice p n c] #[.bool t,.slice q m d] #[.bool false,.slice none 0 0] #[.bool false,.slice none 0 0]
 have qi:=hv.len
 have mi:=hu.len
 have HJ:=Lib.hid (Nat.le_trans qi hj)
 have HK:=Lib.hid (Nat.le_trans mi hk)
 have HV:=Lib.hid hv
 have HU:=Lib.hid hu
 have hsz:w.heap.size+4<=((((w.alloc (.cells #[.bool s,.slice p n c] 32)).alloc (.cells #[.bool t,.slice q m d] 32)).alloc (.cells #[.bool false,.slice none 0 0] 32)).alloc (.cells #[.bool false,.slice none 0 0] 32)).heap.size:=by simp
 clear hv hu hj hk qi mi
 go_enter Tryz.func147,Tryz.ntmps147
 go_wp2_with fail
 generalize (((w.alloc _).alloc _).alloc _).alloc _=W at*
 go_cut [7,8] (λx5 x6 wc=>EA w W wc 222 X Y x5 x6)
 case first=>
  have HS:=Lib.hid (λw' (h:ao W (w.heap.size+1+1) w')=>And.intro (h.cells b1 aa) (h.cells b2 aa))
  obtain⟨c1,c2,_,_⟩:=b1.two
  obtain⟨c3,c4,_,_⟩:=b2.two
  go_region_held3 (λw'=>(w'.cell? ⟨w.heap.size,0,none⟩=some (.bool s)/\w'.cell? ⟨w.heap.size,1,none⟩=some (.slice p n c))/\w'.cell? ⟨w.heap.size+1,0,none⟩=some (.bool t)/\w'.cell? ⟨w.heap.size+1,1,none⟩=some (.slice q m d)) ((refine HS.out _ ?_;(with_reducible (repeat (first|exact ao.refl _ _|refine ao.drew ?_|refine ao.drewN ?_ _|refine ao.alloc ?_ _|refine ao.set ?_ _|refine ao.ax ?_ (by assumption)|refine ao.mw ?_ (by first|omega|(simp;done)|(simp;omega)) _))))) (first
   | (go_at_call_of 140 (Value.slice p n c);refine (eh _ X j w _ HV.out fy).mono ?_;rintro e w1 ⟨u1,rfl,xV,aD⟩;obtain⟨s1,p1,n1,k1,rfl⟩:=xV.fo;have vv:=aD.size;(try simp at vv);(try (have q1:=aW.bt (aW.drew (aW.new _ _ #[_,_])) aD;(try simp at q1);obtain⟨q1a,q1b,q1c,q1d⟩:=q1.two;have q1l:=q1.lt;have q1n:=Nat.ne_of_lt q1l;have q1m:=Nat.ne_of_gt q1l));(try (have q2:=aW.bt (aW.drew (aW.alloc (aW.new _ _ #[_,_]) _)) aD;(try simp at q2);obtain⟨q2a,q2b,q2c,q2d⟩:=q2.two;have q2l:=q2.lt;have q2n:=Nat.ne_of_lt q2l;have q2m:=Nat.ne_of_gt q2l)))
   | (go_at_call_of 140 (Value.slice q m d);refine (eh _ Y k w _ HU.out fy).mono ?_;rintro e w2 ⟨u2,rfl,yH,aP⟩;obtain⟨s2,p2,n2,k2,rfl⟩:=yH.fo;have hs2:=aP.size;(try simp at hs2);(try (have q3:=aW.bt (aW.new _ _ #[_,_]) aP;(try simp at q3);obtain⟨q3a,q3b,q3c,q3d⟩:=q3.two;have q3l:=q3.lt;have q3n:=Nat.ne_of_lt q3l;have q3m:=Nat.ne_of_gt q3l));(try (have q4:=aW.bt (aW.alloc (aW.new _ _ #[_,_]) _) aP;(try simp at q4);obtain⟨q4a,q4b,q4c,q4d⟩:=q4.two;have q4l:=q4.lt;have q4n:=Nat.ne_of_lt q4l;have q4m:=Nat.ne_of_gt q4l));(try (have q5:=aW.bt q1 aP;(try simp at q5);obtain⟨q5a,q5b,q5c,q5d⟩:=q5.two;have q5l:=q5.lt;have q5n:=Nat.ne_of_lt q5l;have q5m:=Nat.ne_of_gt q5l));(try (have q6:=aW.bt q2 aP;(try simp at q6);obtain⟨q6a,q6b,q6c,q6d⟩:=q6.two;have q6l:=q6.lt;have q6n:=Nat.ne_of_lt q6l;have q6m:=Nat.ne_of_gt q6l));(try (have q7:=aW.bt (aW.alloc q1 _) aP;(try simp at q7);obtain⟨q7a,q7b,q7c,q7d⟩:=q7.two;have q7l:=q7.lt;have q7n:=Nat.ne_of_lt q7l;have q7m:=Nat.ne_of_gt q7l)))
   | fail)
  all_goals
   go_wp2
   go_meet
   refine⟨_,_,s1,p1,n1,k1,s2,p2,n2,k2,rfl,rfl,?_,?_,xV,yH,?_⟩
   ·(with_reducible (repeat (first|assumption|exact aW.newAt (by first|rfl|(simp;done)) _ _|refine aW.alloc ?_ _|refine aW.drew ?_|refine aW.bh (u:=.bool false) (v:=.slice none 0 0) ?_ _ _|refine aW.dc ?_ (by first|omega|(simp;omega)) _ _|refine aW.bt ?_ (by assumption))))
   ·(with_reducible (repeat (first|assumption|exact aW.newAt (by first|rfl|(simp;done)) _ _|refine aW.alloc ?_ _|refine aW.drew ?_|refine aW.bh (u:=.bool false) (v:=.slice none 0 0) ?_ _ _|refine aW.dc ?_ (by first|omega|(simp;omega)) _ _|refine aW.bt ?_ (by assumption))))
   ·exact fy
 case rest=>
  obtain⟨g,h,s1,p1,n1,k1,s2,p2,n2,k2,rfl,rfl,B5,B6,xV,yH,hbc⟩:=hcut
  obtain⟨Ij,jA,hX⟩:=xV.parts
  obtain⟨vM,jR,hY⟩:=yH.parts
  have B3:=b3.bt hbc
  have B4:=b4.bt hbc
  have km:aw w wc:=jZ.ax hbc
  have HR1:=Lib.hid (jA.below km)
  have HR2:=Lib.hid (jR.below km)
  have HN1:=Lib.hid Ij
  have HN2:=Lib.hid vM
  have HX:=Lib.hid hX
  have HY:=Lib.hid hY
  have HM1:Hid (n1<=536870912):=by show _<=_;rw[Ij];exact HJ.out
  have HM2:Hid (n2<=536870912):=by show _<=_;rw[vM];exact HK.out
  have hzs:w.heap.size+4<=wc.heap.size:=Nat.le_trans hsz hbc.size
  clear b1 b2 b3 b4 hbc jZ xV yH jA jR hX hY Ij vM hsz
  obtain⟨c1,c2,_,_⟩:=B5.two
  obtain⟨c3,c4,_,_⟩:=B6.two
  go_wp2_with fail
  refine (rI _ _ n1 n2 _ _ _ HR1.out HR2.out (ai _) (ai _) HM1.out HM2.out).mono ?_
  rw[ag,ag]
  rintro e w3 ⟨hd,cw⟩
  replace cw:aw _ w3:=cw
  have F5:=B5.bt cw
  have F6:=B6.bt cw
  have F3:=B3.bt cw
  have F4:=B4.bt cw
  have hbw3:=km.ax cw
  obtain⟨e1,e2,_,_⟩:=F5.two
  obtain⟨e3,e4,_,_⟩:=F6.two
  obtain⟨e5,e6,f5,f6⟩:=F3.two
  obtain⟨e7,e8,f7,f8⟩:=F4.two
  rcases hd with ⟨h0,rfl⟩|⟨h0,vq,vr,rfl,zv,tH⟩
  ·have hY0:Y=0:=by have:=HY.out;split at this <;> omega
   have G3:=(F3.bh (.bool false) (.slice none 0 0)).dc (b':=w.heap.size+3) aa (.bool false) (.slice none 0 0)
   have G4:=(F4.dc (b':=w.heap.size+2) aa (.bool false) (.slice none 0 0)).bh (.bool false) (.slice none 0 0)
   have hbz:=(hbw3.bh (b:=w.heap.size+2) aa (.bool false) (.slice none 0 0)).bh (b:=w.heap.size+3) aa (.bool false) (.slice none 0 0)
   clear HX HY HN1 HN2 h0
   go_wp2
   generalize (((w3.setCell ⟨w.heap.size+1+1,0,none⟩ (.bool false)).setCell ⟨w.heap.size+1+1,1,none⟩ (.slice none 0 0)).setCell ⟨w.heap.size+1+1+1,0,none⟩ (.bool false)).setCell ⟨w.heap.size+1+1+1,1,none⟩ (.slice none 0 0)=wz at*
   obtain⟨d1,d2,_,_⟩:=G3.two
   obtain⟨d3,d4,_,_⟩:=G4.two
   exact bodyPost_ret (v:=.tuple #[.agg #[.bool false,.slice none 0 0],.agg #[.bool false,.slice none 0 0],.int .i64 20]) (by simp[results,Tryz.results147,go_sem,d1,d2,d3,d4]) rfl (bf.out _ _ ⟨.inl ⟨hY0,_,_,rfl,aj.zero _ _,aj.zero _ _⟩,hbz⟩)
  ·obtain⟨pq,kq,rfl,_,_,_⟩:=Own.form zv
   obtain⟨pr,kr,rfl,_,_,_⟩:=Own.form tH
   generalize hlq:(limbs (X.natAbs/Y.natAbs)).length=lq at*
   generalize BN:(limbs (X.natAbs%Y.natAbs)).length=lr at*
   have HLQ:=Lib.hid hlq.symm
   have Hf:=Lib.hid BN.symm
   have HOQ:=Lib.hid zv
   have HOR:=Lib.hid tH
   have H0:=Lib.hid h0
   clear zv tH hlq BN h0 e2 e6 e8 e5 e7 f5 f6 f7 f8 c1 c2 c3 c4
   by_cases hst:s1=s2
   ·subst hst
    clear e4
    go_wp2_with fail
    have hg3:g≠w.heap.size+1+1:=aW.apart F5 F3 fq
    have hg4:g≠w.heap.size+1+1+1:=aW.apart F5 F4 fq
    have hh3:h≠w.heap.size+1+1:=aW.apart F6 F3 fq
    have hh4:h≠w.heap.size+1+1+1:=aW.apart F6 F4 fq
    have HS:=Lib.hid (λw' (hk:aG w3 (w.heap.size+1+1) (w.heap.size+1+1+1) w')=>And.intro ((hk.cls F5 hg3 hg4).cell (j:=0) rfl) ((hk.cls F6 hh3 hh4).cell (j:=0) rfl))
    go_region_held3 (λw'=>w'.cell? ⟨g,0,none⟩=some (.bool s1)/\w'.cell? ⟨h,0,none⟩=some (.bool s1)) ((refine HS.out _ ?_;(with_reducible (repeat (first|exact aG.refl _ _ _|refine aG.drew ?_|refine aG.IC ?_ _|refine aG.lp ?_ _|refine aG.ax ?_ (by assumption)))))) (first
     | (go_at_call_of 92 (Value.slice pq lq kq);refine (eE _ _ _ _ _).mono ?_;rintro e w6 ⟨sg,rfl,tc,td⟩)
     | (go_at_call_of 92 (Value.slice pr lr kr);refine (eE _ _ _ _ _).mono ?_;rintro e w7 ⟨uC,rfl,Jr,Ho⟩;obtain⟨i1,i2,i3,i4⟩:=(aW.bt (w':=w7) F3 fy).two;obtain⟨j1,j2,j3,j4⟩:=(aW.bt (w':=w7) F4 fy).two)
     | fail)
    have E3:=(aW.bt (w':=w7) F3 fy)
    have E4:=(aW.bt (w':=w7) F4 fy)
    have FW:aw w3 w7:=fy
    have FB:aw w w7:=fy
    have zv:=Own.below (HOQ).out FW
    have tH:=Own.below (HOR).out FW
    have Av:=(Own.bh (Own.bh zv E3 fq (.bool sg) (.slice pq lq kq)) (E4.dc (b':=w.heap.size+1+1) aa (.bool sg) (.slice pq lq kq)) fq (.bool uC) (.slice pr lr kr))
    have Aw:=(Own.bh (Own.bh tH E3 fq (.bool sg) (.slice pq lq kq)) (E4.dc (b':=w.heap.size+1+1) aa (.bool sg) (.slice pq lq kq)) fq (.bool uC) (.slice pr lr kr))
    have G3:=(E3.bh (.bool sg) (.slice pq lq kq)).dc (b':=w.heap.size+1+1+1) aa (.bool uC) (.slice pr lr kr)
    have G4:=(E4.dc (b':=w.heap.size+1+1) aa (.bool sg) (.slice pq lq kq)).bh (.bool uC) (.slice pr lr kr)
    have hbz:=(FB.bh (b:=w.heap.size+1+1) aa (.bool sg) (.slice pq lq kq)).bh (b:=w.heap.size+1+1+1) aa (.bool uC) (.slice pr lr kr)
    have Js:=Lib.hid Av
    have Jt:=Lib.hid Aw
    clear zv tH Av Aw
    go_wp2
    generalize (((w7.setCell ⟨w.heap.size+1+1,0,none⟩ (.bool sg)).setCell ⟨w.heap.size+1+1,1,none⟩ (.slice pq lq kq)).setCell ⟨w.heap.size+1+1+1,0,none⟩ (.bool uC)).setCell ⟨w.heap.size+1+1+1,1,none⟩ (.slice pr lr kr)=wz at*
    obtain⟨d1,d2,_,_⟩:=G3.two
    obtain⟨d3,d4,_,_⟩:=G4.two
    have yy:=nx HX.out HY.out H0.out (.inl ⟨.inl rfl,rfl,rfl⟩)
    refine bodyPost_ret (v:=.tuple #[.agg #[.bool sg,.slice pq lq kq],.agg #[.bool uC,.slice pr lr kr],.int .i64 0]) (by simp[results,Tryz.results147,go_sem,d1,d2,d3,d4]) rfl (bf.out _ _ ⟨.inr ⟨by have:=H0.out;omega,_,_,rfl,?_,?_⟩,hbz⟩)
    ·rw[tc.out]
     exact aj.of (by rw[<-(HLQ).out];exact Own.mono Js.out km.size) (HLQ).out _ (by simpa using yy.1)
    ·rw[Jr.out]
     exact aj.of (by rw[<-(Hf).out];exact Own.mono Jt.out km.size) (Hf).out _ (by simpa using yy.2)
   ·obtain rfl:s2= !s1:=by cases s1 <;> cases s2 <;> simp_all
    by_cases sQ:X.natAbs%Y.natAbs=0
    ·have hl0:lr=0:=by have:=Hf.out;rw[sQ,bc] at this;exact this
     have HR0:=Lib.hid sQ
     subst hl0
     clear sQ hst e4
     go_wp2_with fail
     have hg3:g≠w.heap.size+1+1:=aW.apart F5 F3 fq
     have hg4:g≠w.heap.size+1+1+1:=aW.apart F5 F4 fq
     have hh3:h≠w.heap.size+1+1:=aW.apart F6 F3 fq
     have hh4:h≠w.heap.size+1+1+1:=aW.apart F6 F4 fq
     have HS:=Lib.hid (λw' (hk:aG w3 (w.heap.size+1+1) (w.heap.size+1+1+1) w')=>And.intro ((hk.cls F5 hg3 hg4).cell (j:=0) rfl) ((hk.cls F6 hh3 hh4).cell (j:=0) rfl))
     go_region_held3 (λw'=>w'.cell? ⟨g,0,none⟩=some (.bool s1)/\w'.cell? ⟨h,0,none⟩=some (.bool (!s1))) ((refine HS.out _ ?_;(with_reducible (repeat (first|exact aG.refl _ _ _|refine aG.drew ?_|refine aG.IC ?_ _|refine aG.lp ?_ _|refine aG.ax ?_ (by assumption)))))) (first
      | (go_at_call_of 92 (Value.slice pq lq kq);refine (eE _ _ _ _ _).mono ?_;rintro e w6 ⟨sg,rfl,tc,td⟩)
      | (go_at_call_of 92 (Value.slice pr 0 kr);refine (eE _ _ _ _ _).mono ?_;rintro e w7 ⟨uC,rfl,Jr,Ho⟩;obtain⟨i1,i2,i3,i4⟩:=(aW.bt (w':=w7) F3 fy).two;obtain⟨j1,j2,j3,j4⟩:=(aW.bt (w':=w7) F4 fy).two)
      | fail)
     have E3:=(aW.bt (w':=w7) F3 fy)
     have E4:=(aW.bt (w':=w7) F4 fy)
     have FW:aw w3 w7:=fy
     have FB:aw w w7:=fy
     have zv:=Own.below (HOQ).out FW
     have tH:=Own.below (HOR).out FW
     have Av:=(Own.bh (Own.bh zv E3 fq (.bool sg) (.slice pq lq kq)) (E4.dc (b':=w.heap.size+1+1) aa (.bool sg) (.slice pq lq kq)) fq (.bool uC) (.slice pr 0 kr))
     have Aw:=(Own.bh (Own.bh tH E3 fq (.bool sg) (.slice pq lq kq)) (E4.dc (b':=w.heap.size+1+1) aa (.bool sg) (.slice pq lq kq)) fq (.bool uC) (.slice pr 0 kr))
     have G3:=(E3.bh (.bool sg) (.slice pq lq kq)).dc (b':=w.heap.size+1+1+1) aa (.bool uC) (.slice pr 0 kr)
     have G4:=(E4.dc (b':=w.heap.size+1+1) aa (.bool sg) (.slice pq lq kq)).bh (.bool uC) (.slice pr 0 kr)
     have hbz:=(FB.bh (b:=w.heap.size+1+1) aa (.bool sg) (.slice pq lq kq)).bh (b:=w.heap.size+1+1+1) aa (.bool uC) (.slice pr 0 kr)
     have Js:=Lib.hid Av
     have Jt:=Lib.hid Aw
     clear zv tH Av Aw
     go_wp2
     generalize (((w7.setCell ⟨w.heap.size+1+1,0,none⟩ (.bool sg)).setCell ⟨w.heap.size+1+1,1,none⟩ (.slice pq lq kq)).setCell ⟨w.heap.size+1+1+1,0,none⟩ (.bool uC)).setCell ⟨w.heap.size+1+1+1,1,none⟩ (.slice pr 0 kr)=wz at*
     obtain⟨d1,d2,_,_⟩:=G3.two
     obtain⟨d3,d4,_,_⟩:=G4.two
     have yy:=nx HX.out HY.out H0.out (.inl ⟨.inr HR0.out,rfl,rfl⟩)
     refine bodyPost_ret (v:=.tuple #[.agg #[.bool sg,.slice pq lq kq],.agg #[.bool uC,.slice pr 0 kr],.int .i64 0]) (by simp[results,Tryz.results147,go_sem,d1,d2,d3,d4]) rfl (bf.out _ _ ⟨.inr ⟨by have:=H0.out;omega,_,_,rfl,?_,?_⟩,hbz⟩)
     ·rw[tc.out]
      exact aj.of (by rw[<-(HLQ).out];exact Own.mono Js.out km.size) (HLQ).out _ (by simpa using yy.1)
     ·rw[Jr.out]
      exact aj.of (by rw[<-(Hf).out];exact Own.mono Jt.out km.size) (Hf).out _ (by simpa using yy.2)
    ·have hlp:0<lr:=by have:=Hf.out;have:=cO sQ;omega
     have hpi:(0:Int)<(lr:Int):=by omega
     have HR0:=Lib.hid sQ
     have Ik:Hid (lq<=536870912):=by show _<=_;rw[HLQ.out];exact Nat.le_trans (bZ (Nat.div_le_self _ _)) HJ.out
     clear sQ hst
     go_wp2_with fail
     refine (Ee _ _ lq 1 _ [1] _ ((Rd.own HOQ.out).alloc _) (Rd.lit1 rfl) (ai _) (bH.cons aa bH.nil) (by have:=Ik.out;omega) aa).mono ?_
     rintro e w4 ⟨v4,rfl,ho4,gi⟩
     replace gi:aw _ w4:=gi
     rw[ag,show af [1]=1 by rfl] at ho4
     obtain⟨pm,cm,rfl,_,_,_⟩:=Own.form ho4
     generalize hnm:(limbs (X.natAbs/Y.natAbs+1)).length=nm at*
     have HW:=Lib.hid hnm.symm
     have CO:aw w3 w4:=((aw.refl w3).alloc _).ax gi
     have FI:=Lib.hid (Own.mono ho4 (show w3.heap.size<=_ by simp))
     have HOR4:=Lib.hid (Own.below HOR.out CO)
     have HY4:=Lib.hid (HR2.out.below (cw.ax CO))
     obtain⟨i1,i2,_,_⟩:=(F6.bt CO).two
     clear ho4 hnm gi
     go_wp2_with fail
     refine (xG _ _ n2 lr _ _ _ HY4.out (Rd.own HOR4.out) (ai _) (ai _) (by have:=HM2.out;omega)).mono ?_
     rintro e w5 ⟨⟨h,_⟩|⟨_,v5,rfl,ho5⟩,ja⟩
     ·rw[ag,ag] at h;exact absurd h (by have:=Nat.mod_lt X.natAbs (Nat.pos_of_ne_zero H0.out);omega)
     replace ja:aw _ w5:=ja
     rw[ag,ag] at ho5
     obtain⟨pn,cn,rfl,_,_,_⟩:=Own.form ho5
     generalize hnn:(limbs (Y.natAbs-X.natAbs%Y.natAbs)).length=nn at*
     have HLN:=Lib.hid hnn.symm
     have CP:aw w3 w5:=CO.ax ja
     have HOM:=Lib.hid (Own.mono (Own.below FI.out ja) cw.size)
     have HON:=Lib.hid (Own.mono ho5 (Nat.le_trans cw.size CO.size))
     have T3:=F3.bt CP
     have T4:=F4.bt CP
     have T5:=F5.bt CP
     have T6:=F6.bt CP
     have hbw5:=hbw3.ax CP
     clear ho5 hnn ja F3 F4 F5 F6 CO CP cw hbw3 HOQ HOR FI HOR4 HY4 i1 i2
     obtain⟨e1,_,_,_⟩:=T5.two
     obtain⟨e3,_,_,_⟩:=T6.two
     go_wp2_with fail
     have hg3:g≠w.heap.size+1+1:=aW.apart T5 T3 fq
     have hg4:g≠w.heap.size+1+1+1:=aW.apart T5 T4 fq
     have hh3:h≠w.heap.size+1+1:=aW.apart T6 T3 fq
     have hh4:h≠w.heap.size+1+1+1:=aW.apart T6 T4 fq
     have HS:=Lib.hid (λw' (hk:aG w5 (w.heap.size+1+1) (w.heap.size+1+1+1) w')=>And.intro ((hk.cls T5 hg3 hg4).cell (j:=0) rfl) ((hk.cls T6 hh3 hh4).cell (j:=0) rfl))
     go_region_held3 (λw'=>w'.cell? ⟨g,0,none⟩=some (.bool s1)/\w'.cell? ⟨h,0,none⟩=some (.bool (!s1))) ((refine HS.out _ ?_;(with_reducible (repeat (first|exact aG.refl _ _ _|refine aG.drew ?_|refine aG.IC ?_ _|refine aG.lp ?_ _|refine aG.ax ?_ (by assumption)))))) (first
      | (go_at_call_of 92 (Value.slice pm nm cm);refine (eE _ _ _ _ _).mono ?_;rintro e w6 ⟨sg,rfl,tc,td⟩)
      | (go_at_call_of 92 (Value.slice pn nn cn);refine (eE _ _ _ _ _).mono ?_;rintro e w7 ⟨uC,rfl,Jr,Ho⟩;obtain⟨i1,i2,i3,i4⟩:=(aW.bt (w':=w7) T3 fy).two;obtain⟨j1,j2,j3,j4⟩:=(aW.bt (w':=w7) T4 fy).two)
      | fail)
     have E3:=(aW.bt (w':=w7) T3 fy)
     have E4:=(aW.bt (w':=w7) T4 fy)
     have FW:aw w5 w7:=fy
     have FB:aw w w7:=fy
     have zv:=Own.below (HOM).out FW
     have tH:=Own.below (HON).out FW
     have Av:=(Own.bh (Own.bh zv E3 fq (.bool sg) (.slice pm nm cm)) (E4.dc (b':=w.heap.size+1+1) aa (.bool sg) (.slice pm nm cm)) fq (.bool uC) (.slice pn nn cn))
     have Aw:=(Own.bh (Own.bh tH E3 fq (.bool sg) (.slice pm nm cm)) (E4.dc (b':=w.heap.size+1+1) aa (.bool sg) (.slice pm nm cm)) fq (.bool uC) (.slice pn nn cn))
     have G3:=(E3.bh (.bool sg) (.slice pm nm cm)).dc (b':=w.heap.size+1+1+1) aa (.bool uC) (.slice pn nn cn)
     have G4:=(E4.dc (b':=w.heap.size+1+1) aa (.bool sg) (.slice pm nm cm)).bh (.bool uC) (.slice pn nn cn)
     have hbz:=(FB.bh (b:=w.heap.size+1+1) aa (.bool sg) (.slice pm nm cm)).bh (b:=w.heap.size+1+1+1) aa (.bool uC) (.slice pn nn cn)
     have Js:=Lib.hid Av
     have Jt:=Lib.hid Aw
     clear zv tH Av Aw
     go_wp2
     generalize (((w7.setCell ⟨w.heap.size+1+1,0,none⟩ (.bool sg)).setCell ⟨w.heap.size+1+1,1,none⟩ (.slice pm nm cm)).setCell ⟨w.heap.size+1+1+1,0,none⟩ (.bool uC)).setCell ⟨w.heap.size+1+1+1,1,none⟩ (.slice pn nn cn)=wz at*
     obtain⟨d1,d2,_,_⟩:=G3.two
     obtain⟨d3,d4,_,_⟩:=G4.two
     have yy:=nx HX.out HY.out H0.out (.inr ⟨by cases s1 <;> simp,HR0.out,rfl,rfl⟩)
     refine bodyPost_ret (v:=.tuple #[.agg #[.bool sg,.slice pm nm cm],.agg #[.bool uC,.slice pn nn cn],.int .i64 0]) (by simp[results,Tryz.results147,go_sem,d1,d2,d3,d4]) rfl (bf.out _ _ ⟨.inr ⟨by have:=H0.out;omega,_,_,rfl,?_,?_⟩,hbz⟩)
     ·rw[tc.out]
      exact aj.of (by rw[<-(HW).out];exact Own.mono Js.out km.size) (HW).out _ (by simpa using yy.1)
     ·rw[Jr.out]
      exact aj.of (by rw[<-(HLN).out];exact Own.mono Jt.out km.size) (HLN).out _ (by simpa using yy.2)
end
section
open Go.RowKit
theorem tf:(Tryz.prog.info? 3).map (λi=>(i.zero,i.size,i.bytes))=some (some (.int .i64 0),1,8):=by kernel_rfl
def hval (xs:List Nat):Nat:=val 65536 xs
def halves (n:Nat):List Nat:=fP 65536 n
def eW (xs:List Nat):Prop:=dm 65536 xs
theorem bu (n:Nat):eW (halves n):=mg aa n
theorem aM (n:Nat):hval (halves n)=n:=iX aa n
theorem eW.at {xs:List Nat} (h:eW xs) {k x:Nat} (hk:xs[k]? =some x):x<65536:=dm.at h hk
theorem jG:halves 0=[]:=di _
theorem CQ {m n:Nat} (h:halves m=halves n):m=n:=tr aa h
theorem iT (xs:List Nat) (x:Nat):hval (xs++[x])=hval xs+65536^xs.length*x:=kc _ xs x
theorem pX {xs:List Nat} (h:eW xs):hval xs<65536^xs.length:=mh h
theorem cM {xs:List Nat} (h:bH xs):(halves (af xs)).length<=2*xs.length:=by
 apply dU aa
 have:=fp h
 rwa [Nat.pow_mul]
theorem Rd.i64 {w:World} {v:Value} {n:Nat} {xs:List Nat} (h:Rd w 1 v n (ints .i64 xs)):∃ p c,v=.slice p n c/\n<=c/\c<=9223372036854775807/\xs.length=n:=by
 obtain⟨p,c,hv,h1,h2,h3⟩:=h.form
 unfold maxLen at h2
 exact⟨p,c,hv,h1,by omega,by simpa using h3⟩
theorem Rd.Ax {w:World} {n c m:Nat} {p:Option Addr} {xs:List Nat} {k:IntKind} (h:Rd w 1 (.slice p n c) n (ints k xs)) (hm:m<=n):Rd w 1 (.slice p m c) m (ints k (xs.take m)):=by
 have:=h.take hm
 rwa [Nat.mul_one,nj] at this
theorem Own.Ax {w:World} {B e n c m:Nat} {p:Option Addr} {xs:List Nat} {k:IntKind} (h:w.ownsRow B e 1 (.slice p n c) n (ints k xs)) (hm:m<=n):w.ownsRow B e 1 (.slice p m c) m (ints k (xs.take m)):=by
 have:=Own.take h hm
 rwa [Nat.mul_one,nj] at this
set_option maxRecDepth 100000 in
theorem fY (va:Value) (n i:Nat) (xs:List Nat) (w:World) (hr:Rd w 1 va n (ints .i64 xs)):
  Calls Tryz.prog 217 #[va,.int .i64 (i:Int)] w λe w'=>e=.returned (.int .i64 ((xs.getD i 0:Nat):Int))/\w=w':=by
 obtain⟨p,c,rfl,dW,eJ,dR⟩:=hr.i64
 have HX:=Lib.hid dR
 clear dR
 by_cases hi:i<n
 ·obtain⟨b,off,x,rfl,_,hx,hc⟩:=hr.cellAt hi
  have e:Hid (xs.getD i 0=x):=by show _=_;rw[List.getD,hx];rfl
  clear hx
  refine aA λR' bf=> ?_
  go_enter Tryz.func217,Tryz.ntmps217
  go_wp2
  exact bf.out _ _ ⟨kf (by rw[e.out]),rfl⟩
 ·have e:Hid (xs.getD i 0=0):=by show _=_;rw[List.getD,List.getElem?_eq_none (by rw[HX.out];omega)];rfl
  refine aA λR' bf=> ?_
  go_enter Tryz.func217,Tryz.ntmps217
  go_wp2
  exact bf.out _ _ ⟨kf (by rw[e.out];rfl),rfl⟩
set_option maxRecDepth 100000 in
theorem wW (p:Option Addr) (n c:Nat) (xs:List Nat) (w:World) (hr:Rd w 1 (.slice p n c) n (ints .i64 xs)) (hl:eW xs):
  Calls Tryz.prog 235 #[.slice p n c] w λe w'=>(∃ m,m<=n/\e=.returned (.slice p m c)/\halves (hval xs)=xs.take m)/\w=w':=by
 obtain⟨p',c',hv,dW,eJ,dR⟩:=hr.i64
 simp only[Value.slice.injEq,true_and] at hv
 obtain⟨rfl,rfl⟩:=hv
 have HX:Hid (xs.length=n):=dR
 clear dR
 refine aA λR' bf=> ?_
 go_enter Tryz.func235,Tryz.ntmps235
 go_wp2
 go_loop [0] (λv=>∃ m,m<=n/\v=.slice p m c/\hval (xs.take m)=hval xs) (λv=>match v with | .slice _ m _=>m|_=>0)
 case atStart=>exact⟨n,Nat.le_refl _,rfl,by rw[List.take_of_length_le (Nat.le_of_eq HX.out)]⟩
 case round=>
  obtain⟨m,hm,rfl,hv⟩:=hrel
  have HV:Hid (hval (xs.take m)=hval xs):=hv
  clear hv
  by_cases h0:m=0
  ·subst h0
   go_wp2
   exact bf.out _ _ ⟨⟨0,Nat.zero_le _,rfl,iL aa hl (Nat.zero_le _) HV.out (.inl rfl)⟩,rfl⟩
  ·obtain⟨b,off,x,rfl,hb,hx,hc⟩:=hr.cellAt (k:=m-1) aa
   have HI:Hid (xs[m-1]? =some x):=hx
   clear hx
   have h0':0<m:=by omega
   obtain⟨j,rfl⟩:∃ j,m=j+1:=⟨m-1,by omega⟩
   rw[Nat.add_sub_cancel] at hc
   by_cases nM:x=0
   ·subst nM
    go_wp2
    go_round
    case rel=>exact⟨j,by omega,rfl,(jx HI.out).symm.trans HV.out⟩
    case measure=>simp
   ·have hx0':((x:Int) == 0)=false:=by rw[beq_eq_false_iff_ne];omega
    go_wp2
    exact bf.out _ _ ⟨⟨j+1,hm,rfl,iL aa hl (by rw[HX.out];exact hm) HV.out (.inr ⟨x,HI.out,nM⟩)⟩,rfl⟩
theorem Own.cut {w:World} {B e n c m:Nat} {p:Option Addr} {xs:List Nat} (h:w.ownsRow B e 1 (.slice p n c) n (ints .i64 xs)) (hm:m<=n) (hl:halves (hval xs)=xs.take m):
  w.ownsRow B e 1 (.slice p m c) (halves (hval xs)).length (ints .i64 (halves (hval xs)))/\m=(halves (hval xs)).length:=by
 have hx:xs.length=n:=by have:=h.1;simpa using this
 have e2:(halves (hval xs)).length=m:=by rw[hl,List.length_take];omega
 have:=Own.Ax h hm
 rw[<-hl] at this
 rw[e2]
 exact⟨this,rfl⟩
def EB (w:World) (B:Nat) (xs:List Nat) (ov iv:Value) (wr:World):Prop:=
 ∃ (k:Nat) (hs:List Nat),k<=xs.length/\iv=.int .i64 (k:Int)/\hs.length=2*k/\eW hs/\hval hs=af (xs.take k)/\
   wr.ownsRow B 3 1 ov (2*k) (ints .i64 hs)/\Below B w wr
theorem EC {x:Nat} (h:x<4294967296):IntKind.i64.wrap ((x:Int).tmod 65536)=((x%65536:Nat):Int):=by
 rw[Int.tmod_eq_emod_of_nonneg aa,IntWalk.i64_in _ aa];simp
theorem ED {x:Nat} (h:x<4294967296):IntKind.i64.wrap (IntKind.u32.wrap ((x:Int)/65536))=((x/65536:Nat):Int):=by
 rw[IntKind.wrap_u32',Int.emod_eq_of_lt aa aa,IntWalk.i64_in _ aa];simp
theorem wY {k x:Nat} {xs hs:List Nat} (hx:xs[k]? =some x) (ju:x<4294967296) (hl:hs.length=2*k) (hh:eW hs) (hv:hval hs=af (xs.take k)):
  eW (hs++[x%65536,x/65536])/\hval (hs++[x%65536,x/65536])=af (xs.take (k+1)):=by
 have hk:k<xs.length:=(List.getElem?_eq_some_iff.1 hx).1
 refine⟨dm.append hh (dm.cons (Nat.mod_lt _ aa) (dm.cons aa (dm.nil _))),?_⟩
 rw[bb hx,cT,<-hv,List.length_take,Nat.min_eq_left aa]
 show val 65536 _=_
 rw[gp,hl]
 show hval hs+_=_
 congr 1
 rw[Nat.pow_mul]
 show (4294967296:Nat)^k*(x%65536+65536*(x/65536+65536*0))=_
 congr 1
 omega
set_option maxRecDepth 100000 in
theorem ek (va:Value) (n:Nat) (xs:List Nat) (w:World) (hr:Rd w 1 va n (ints .u32 xs)) (hl:bH xs) (hn:n<=1073741824):
  Calls Tryz.prog 216 #[va] w λe w'=>∃ v',e=.returned v'/\w'.ownsRow w.heap.size 3 1 v' (halves (af xs)).length (ints .i64 (halves (af xs)))/\Below w.heap.size w w':=by
 obtain⟨p,c,rfl,dW,eJ,dR⟩:=hr.u32
 obtain⟨i0,hi,jQ,kZ,lZ⟩:=info_parts tf
 obtain⟨B,hB⟩:∃ B,B=w.heap.size:=⟨_,rfl⟩
 have HB:=Lib.hid hB
 have Hr:=Lib.hid hr
 have HL:=Lib.hid hl
 have HX:=Lib.hid dR
 rw[<-hB]
 clear hr hl dR hB
 refine aA λR' bf=> ?_
 go_enter Tryz.func216,Tryz.ntmps216
 go_wp2
 go_loopw [3,4] (λov iv wr=>EB w B xs ov iv wr) (λ_ iv _=>n-(intOf iv).toNat)
 case atStart=>exact⟨0,[],Nat.zero_le _,rfl,rfl,dm.nil _,rfl,World.ownsRow_nil _ _ _ _,Below.refl _ _⟩
 case round=>
  obtain⟨k,hs,hk,rfl,hhl,hhh,hhv,au,hb⟩:=hrel
  have HK:=Lib.hid hk
  have HO:=Lib.hid au
  have HHL:=Lib.hid hhl
  have HHH:=Lib.hid hhh
  have HHV:=Lib.hid hhv
  have ft:=Lib.hid hb
  have sR:B<=wr.heap.size:=by have:=hb.size;have:=HB.out;omega
  have hkn':k<=n:=by rw[<-HX.out];exact hk
  clear hk au hhl hhh hhv hb
  by_cases ss:k<n
  ·obtain⟨b1,o1,x,rfl,aD,ey,hcw⟩:=Hr.out.cellAt ss
   have kj:=(ft.out.cell (p:=⟨b1,o1+k,none⟩) (by rw[HB.out];exact aD)).trans hcw
   have hne:=Hy HO.out (b:=b1) (by rw[HB.out];exact aD)
   have sS:=Lib.hid ey
   have ju:=HL.out.at ey
   have HNE:=Lib.hid hne
   have Hi:(0:Int)<=(k:Int):=by omega
   have oW:(k:Int)<(n:Int):=by omega
   clear ey hcw hne
   go_wp2_with fail
   go_region_held3 (λw'=>w'.cell? ⟨b1,o1+k,none⟩=some (.int .u32 (x:Int))) (first|exact kj|go_keep|exact vV uD kj HNE.out)
    ((refine mn (by rfl) _ _ 272 (by rfl) B 3 i0 (.int .i64 0) 1 8 Tryz.underlying272 hi jQ kZ lZ rfl aa _ (2*k) (ints .i64 hs) (by rfl) ((HO.out.alloc _).drew) _ 2 (ints .i64 [x%65536,x/65536]) (by rfl) (Rd.drew (Rd.lit2 (EC ju) (ED ju))) (ke .i64 [x%65536,x/65536]) (by unfold maxLen;omega) aa (by simp;omega) ?_;intro v1 w1 eF uD))
   have oU:=Lib.hid eF
   have HG1:=Lib.hid uD
   clear eF uD
   go_wp2_with fail
   go_roundw
   case rel=>
    have hst:=wY sS.out ju HHL.out HHH.out HHV.out
    exact⟨k+1,hs++[x%65536,x/65536],by rw[HX.out];omega,by go_num,by simp[HHL.out];omega,hst.1,hst.2,by rw[fE];exact oU.out,Below.behind ft.out sR HG1.out HO.out (Nat.le_refl _)⟩
   case measure=>simp[intOf];omega
  ·obtain rfl:k=n:=by omega
   obtain⟨p1,c1,BO,_,_,_⟩:=Own.form HO.out
   have HV1:=Lib.hid BO
   have og:Hid (hval hs=af xs):=by show _=_;rw[HHV.out,aV (Nat.le_of_eq HX.out)]
   subst BO
   go_wp2_with fail
   refine (wW p1 (2*k) c1 hs _ (Rd.own HO.out) HHH.out).mono ?_
   rintro e w2 ⟨⟨m,hm,rfl,vz⟩,rfl⟩
   have HC:=Own.cut HO.out hm vz
   rw[og.out] at HC
   have HC1:=Lib.hid HC.1
   have HC2:=Lib.hid HC.2
   clear HC vz
   go_wp2_with fail
   refine bf.out _ _ ⟨_,rfl,?_,ft.out⟩
   have:=HC1.out
   rw[<-HC2.out] at this ⊢
   exact this
def LimbInv (w:World) (B m:Nat) (hs:List Nat) (ov iv:Value) (wr:World):Prop:=
 ∃ (k:Nat) (ds:List Nat),2*k<=m+1/\iv=.int .i64 ((2*k:Nat):Int)/\ds.length=k/\bH ds/\af ds=hval (hs.take (2*k))/\
   wr.ownsRow B 191 1 ov k (ints .u32 ds)/\Below B w wr
theorem wZ {k lo hi:Nat} {ds hs:List Nat} (hl:ds.length=k) (hd:bH ds) (hv:af ds=hval (hs.take (2*k))) (He:hs.getD (2*k) 0=lo) (hhi:hs.getD (2*k+1) 0=hi)
  (h1:lo<65536) (h2:hi<65536):bH (ds++[lo+65536*hi])/\af (ds++[lo+65536*hi])=hval (hs.take (2*(k+1))):=by
 refine⟨hd.append (bH.cons aa bH.nil),?_⟩
 rw[cT,hl,hv]
 show _=val 65536 (hs.take (2*k+1+1))
 rw[bB,bB,He,hhi,Nat.pow_succ,Nat.add_assoc]
 show hval _+_=hval _+_
 congr 1
 rw[show (4294967296:Nat)=65536^2 by rfl,<-Nat.pow_mul,Nat.mul_add,Nat.mul_assoc]
theorem Ay {k m h:Nat} {ds:List Nat} (hl:ds.length=k) (hd:bH ds) (hv:af ds=h) (hm:(halves h).length=m) (hk:2*k<=m+1):limbs h=ds:=by
 subst hv
 apply yR aa hd
 show ds.length<=(limbs (af ds)).length
 rcases Nat.eq_zero_or_pos k with h0|h0
 ·omega
 ·have hne:af ds≠0:=λh=>by rw[h,jG] at hm;simp at hm;omega
  have h1:65536^((halves (af ds)).length-1)<=af ds:=rE aa hne
  have h2:4294967296^(k-1)<=af ds:=by
   rw[show (4294967296:Nat)=65536^2 by rfl,<-Nat.pow_mul]
   exact Nat.le_trans (Nat.pow_le_pow_right aa aa) h1
  have:=sm h2
  omega
set_option maxRecDepth 100000 in
theorem mS (va:Value) (n:Nat) (ls:List Nat) (w:World) (hr:Rd w 1 va n (ints .i64 ls)) (hl:eW ls) (hn:n<=2147483656):
  Calls Tryz.prog 218 #[va] w λe w'=>∃ v',e=.returned v'/\w'.ownsRow w.heap.size 191 1 v' (limbs (hval ls)).length (ints .u32 (limbs (hval ls)))/\Below w.heap.size w w':=by
 obtain⟨p,c,rfl,dW,eJ,dR⟩:=hr.i64
 obtain⟨i0,hi,jQ,kZ,lZ⟩:=info_parts gQ
 obtain⟨B,hB⟩:∃ B,B=w.heap.size:=⟨_,rfl⟩
 obtain⟨h,hh⟩:∃ h,h=hval ls:=⟨_,rfl⟩
 rw[<-hh]
 have HB:=Lib.hid hB
 have Hr:=Lib.hid hr
 have HL:=Lib.hid hl
 have HX:=Lib.hid dR
 have HH:=Lib.hid hh
 rw[<-hB]
 clear hr hl dR hB hh
 refine aA λR' bf=> ?_
 go_enter Tryz.func218,Tryz.ntmps218
 go_wp2_with fail
 refine (wW p n c ls _ Hr.out HL.out).mono ?_
 rintro e w1 ⟨⟨m,hm,rfl,vz⟩,rfl⟩
 have qk:(halves h).length=m:=by rw[HH.out,vz,List.length_take,HX.out];omega
 have qj:=Rd.Ax Hr.out hm
 rw[<-vz,<-HH.out] at qj
 have Ik:=Lib.hid qk
 have HRD:=Lib.hid qj
 clear qk qj vz
 go_wp2_with fail
 go_loopw [3,4] (λov iv wr=>LimbInv w B m (halves h) ov iv wr) (λ_ iv _=>m+2-(intOf iv).toNat)
 case atStart=>exact⟨0,[],by omega,rfl,rfl,bH.nil,rfl,World.ownsRow_nil _ _ _ _,Below.refl _ _⟩
 case round=>
  obtain⟨k,ds,hk,rfl,sq,hdd,hdv,au,hb⟩:=hrel
  have HO:=Lib.hid au
  have Cl:=Lib.hid sq
  have HDD:=Lib.hid hdd
  have HDV:=Lib.hid hdv
  have ft:=Lib.hid hb
  have sR:B<=wr.heap.size:=by have:=hb.size;have:=HB.out;omega
  clear au sq hdd hdv hb
  by_cases Cb:2*k<m
  ·obtain⟨b1,o1,lo,rfl,aD,ey,kj⟩:=(HRD.out.gr HB.out ft.out).cellAt Cb
   have He:=(bu h).at ey
   have HLO:Hid ((halves h).getD (2*k) 0=lo):=by show _=_;rw[List.getD,ey];rfl
   clear ey
   by_cases hkm1:2*k+1<m
   ·obtain⟨b2,o2,qM,hp2,aP,lU,yT⟩:=(HRD.out.gr HB.out ft.out).cellAt hkm1
    have hhi:=(bu h).at lU
    have HHI:Hid ((halves h).getD (2*k+1) 0=qM):=by show _=_;rw[List.getD,lU];rfl
    simp only[Option.some.injEq,Addr.mk.injEq,and_true] at hp2
    obtain⟨rfl,rfl⟩:=hp2
    clear lU
    have hy:(lo:Int)+65536*(qM:Int)=((lo+65536*qM:Nat):Int):=by omega
    have HY:=Lib.hid hy
    clear hy
    go_wp2_with (at_builtin;go_loud (refine cU rfl _ _ 30 rfl B 191 i0 (.int .u32 0) 4 Tryz.underlying30 hi jQ kZ lZ rfl HO.out rfl rfl HY.out aa aa sR ?_);intro v1 w1 eF fZ)
    have oU:=Lib.hid eF
    have yI:=Lib.hid (fZ w ft.out)
    clear eF fZ
    go_wp2_with fail
    go_roundw
    case rel=>
     have hst:=wZ Cl.out HDD.out HDV.out HLO.out HHI.out He hhi
     exact⟨k+1,ds++[lo+65536*qM],by omega,by go_num,by simp[Cl.out],hst.1,hst.2,oU.out,yI.out⟩
    case measure=>simp[intOf];omega
   ·have HHI:Hid ((halves h).getD (2*k+1) 0=0):=by show _=_;rw[List.getD,List.getElem?_eq_none (by rw[Ik.out];omega)];rfl
    go_wp2_with (at_builtin;go_loud (refine cU rfl _ _ 30 rfl B 191 i0 (.int .u32 0) 4 Tryz.underlying30 hi jQ kZ lZ rfl HO.out rfl rfl rfl aa aa sR ?_);intro v1 w1 eF fZ)
    have oU:=Lib.hid eF
    have yI:=Lib.hid (fZ w ft.out)
    clear eF fZ
    go_wp2_with fail
    go_roundw
    case rel=>
     have hst:=wZ Cl.out HDD.out HDV.out HLO.out HHI.out He aa
     rw[Nat.mul_zero,Nat.add_zero] at hst
     exact⟨k+1,ds++[lo],by omega,by go_num,by simp[Cl.out],hst.1,hst.2,oU.out,yI.out⟩
    case measure=>simp[intOf];omega
  ·go_wp2_with fail
   have hval:af ds=h:=by
    rw[HDV.out]
    show val 65536 _=_
    rw[ee (by rw[Ik.out];omega)]
    exact aM h
   have hcan:=Ay Cl.out HDD.out hval Ik.out hk
   refine bf.out _ _ ⟨_,rfl,?_,ft.out⟩
   rw[hcan,Cl.out];exact HO.out
set_option maxRecDepth 100000 in
theorem CR (va:Value) (n:Nat) (xs:List Nat) (w:World) (hr:Rd w 1 va n (ints .u32 xs)) (hl:bH xs) (hn:n<=1073741824):
  Calls Tryz.prog 206 #[va] w λe w'=>∃ v',e=.returned v'/\w'.ownsRow w.heap.size 191 1 v' (limbs (af xs)).length (ints .u32 (limbs (af xs)))/\Below w.heap.size w w':=by
 obtain⟨p,c,rfl,dW,eJ,dR⟩:=hr.u32
 have Hr:=Lib.hid hr
 have HL:=Lib.hid hl
 have HX:=Lib.hid dR
 clear hr hl dR
 refine aA λR' bf=> ?_
 go_enter Tryz.func206,Tryz.ntmps206
 go_wp2_with fail
 refine (ek _ n xs _ Hr.out HL.out hn).mono ?_
 rintro e w1 ⟨v1,rfl,au,hb⟩
 have hlen:=cM HL.out
 rw[HX.out] at hlen
 have HO:=Lib.hid au
 have HB:=Lib.hid hb
 clear au hb
 go_wp2_with fail
 refine (mS _ _ (halves (af xs)) _ (Rd.own HO.out) (bu _) aa).mono ?_
 rintro e w2 ⟨v2,rfl,au,hb⟩
 rw[aM] at au
 go_wp2_with fail
 exact bf.out _ _ ⟨_,rfl,Own.mono au HB.out.size,HB.out.trans (hb.mono HB.out.size)⟩
def Ju (w:World) (B M:Nat) (us ts:List Nat) (ov cv iv:Value) (wr:World):Prop:=
 ∃ (k carry:Nat) (os:List Nat),k<=M+1/\(k=M+1->carry=0)/\iv=.int .i64 (k:Int)/\cv=.int .i64 (carry:Int)/\carry<=1/\os.length=k/\eW os/\
   hval os+65536^k*carry=hval (us.take k)+hval (ts.take k)/\wr.ownsRow B 3 1 ov k (ints .i64 os)/\Below B w wr
theorem CS {k carry x y:Nat} {us ts os:List Nat} (hl:os.length=k) (hh:eW os) (hv:hval os+65536^k*carry=hval (us.take k)+hval (ts.take k)) (hx:us.getD k 0=x) (hy:ts.getD k 0=y):
  eW (os++[(x+y+carry)%65536])/\hval (os++[(x+y+carry)%65536])+65536^(k+1)*((x+y+carry)/65536)=hval (us.take (k+1))+hval (ts.take (k+1)):=by
 refine⟨dm.append hh (dm.cons (Nat.mod_lt _ aa) (dm.nil _)),?_⟩
 rw[iT,hl,Nat.pow_succ]
 show _=val 65536 _+val 65536 _
 rw[bB,bB,hx,hy]
 exact Fg 65536 _ _ x y carry _ _ _ hv rfl
theorem fG {us:List Nat} {k:Nat} (h:us.length<=k):us.getD k 0=0:=by rw[List.getD,List.getElem?_eq_none h];rfl
theorem iU {us:List Nat} (h:eW us) (k:Nat):us.getD k 0<65536:=by
 rw[List.getD]
 cases hk:us[k]? with
 | none=>simp
 | some x=>exact h.at hk
set_option maxRecDepth 100000 in
theorem Gj (va vb:Value) (n m:Nat) (xs ys:List Nat) (w:World) (hr:Rd w 1 va n (ints .u32 xs)) (hs:Rd w 1 vb m (ints .u32 ys)) (hx:bH xs) (hy:bH ys) (hn:n<=1073741824) (hm:m<=1073741824):
  Calls Tryz.prog 187 #[va,vb] w λe w'=>∃ v',e=.returned v'/\w'.ownsRow w.heap.size 191 1 v' (limbs (af xs+af ys)).length (ints .u32 (limbs (af xs+af ys)))/\Below w.heap.size w w':=by
 obtain⟨p,c,rfl,dW,eJ,dR⟩:=hr.u32
 obtain⟨q,d,rfl,Fo,BM,iM⟩:=hs.u32
 obtain⟨i0,hi,jQ,kZ,lZ⟩:=info_parts tf
 obtain⟨B,hB⟩:∃ B,B=w.heap.size:=⟨_,rfl⟩
 have HB:=Lib.hid hB
 have Hr:=Lib.hid hr
 have Hs:=Lib.hid hs
 have HL:=Lib.hid hx
 have HM:=Lib.hid hy
 have qi:=cM hx
 have mi:=cM hy
 rw[dR] at qi
 rw[iM] at mi
 obtain⟨a,ha⟩:∃ a,a=af xs:=⟨_,rfl⟩
 obtain⟨b,hb⟩:∃ b,b=af ys:=⟨_,rfl⟩
 rw[<-ha] at qi ⊢
 rw[<-hb] at mi ⊢
 rw[<-hB]
 have HA:=Lib.hid ha
 have HBb:=Lib.hid hb
 clear hr hs hx hy dR iM ha hb hB
 refine aA λR' bf=> ?_
 go_enter Tryz.func187,Tryz.ntmps187
 go_wp2_with fail
 refine (ek _ n xs _ Hr.out HL.out hn).mono ?_
 rintro e w1 ⟨v1,rfl,au,aD⟩
 rw[<-HA.out,<-HB.out] at au
 rw[<-HB.out] at aD
 have oU:=Lib.hid au
 have yI:=Lib.hid aD
 clear au aD
 go_wp2_with fail
 refine (ek _ m ys _ (Hs.out.gr HB.out yI.out) HM.out hm).mono ?_
 rintro e w2 ⟨v2,rfl,au,aP⟩
 rw[<-HBb.out] at au
 have hB1s:B<=w1.heap.size:=by have:=yI.out.size;have:=HB.out;omega
 have HO1b:=Lib.hid (Own.below oU.out aP)
 have lV:=Lib.hid (Own.mono au hB1s)
 have rJ:=Lib.hid (yI.out.trans (aP.mono hB1s))
 have hB2s:B<=w2.heap.size:=by have:=aP.size;omega
 clear au aP oU yI
 obtain⟨p1,c1,rfl,h11,h12,_⟩:=(Rd.own HO1b.out).i64
 obtain⟨p2,c2,rfl,h21,h22,_⟩:=(Rd.own lV.out).i64
 generalize Hl:(halves a).length=la at*
 generalize BP:(halves b).length=lb at*
 have Hk:=Lib.hid Hl
 have Hm:=Lib.hid BP
 clear Hl BP
 obtain⟨M,hMa,hMb,hMu,hM⟩:∃ M,la<=M/\lb<=M/\M<=2147483648/\(la<lb/\M=lb\/lb<=la/\M=la):=⟨max la lb,by omega,by omega,by omega,by omega⟩
 obtain⟨B2,Jv⟩:∃ B2,B2=w2.heap.size:=⟨_,rfl⟩
 have CT:=Lib.hid Jv
 have Jw:B<=B2:=by omega
 clear Jv
 rcases hM with ⟨sL,rfl⟩|⟨sL,rfl⟩
 all_goals
  go_wp2_with fail
  go_loopw [7,8,9] (λov cv iv wr=>Ju w2 B2 M (halves a) (halves b) ov cv iv wr) (λ_ cv iv _=>2*(M-(intOf iv).toNat)+(intOf cv).toNat)
  case atStart=>exact⟨0,0,[],by omega,λ_=>rfl,rfl,rfl,by omega,rfl,dm.nil _,rfl,World.ownsRow_nil _ _ _ _,Below.refl _ _⟩
  case round=>
   obtain⟨k,carry,os,hk,oW,rfl,rfl,hc,hol,hoh,hov,au,km⟩:=hrel
   have HO:=Lib.hid au
   have HOL:=Lib.hid hol
   have HOH:=Lib.hid hoh
   have HOV:=Lib.hid hov
   have HK1:=Lib.hid oW
   have ft:=Lib.hid km
   have sR:B2<=wr.heap.size:=by have:=km.size;have:=CT.out;omega
   have HRA:=Lib.hid ((Rd.own HO1b.out).gr CT.out km)
   have HRB:=Lib.hid ((Rd.own lV.out).gr CT.out km)
   have hgx:=iU (bu a) k
   have hgy:=iU (bu b) k
   have hxy0:M<=k->(halves a).getD k 0=0/\(halves b).getD k 0=0:=λh=>⟨fG (by rw[Hk.out];omega),fG (by rw[Hm.out];omega)⟩
   clear au hol hoh hov oW km
   generalize hx:(halves a).getD k 0=x at*
   generalize hy:(halves b).getD k 0=y at*
   have HX:=Lib.hid hx
   have HY:=Lib.hid hy
   have HXY0:=Lib.hid hxy0
   clear hx hy hxy0
   have hkk:k=M+1->carry=0:=HK1.out
   by_cases hkM:k<M\/0<carry
   ·clear hkk
    have hguard:decide (k<M)=true\/decide (k<M)=false/\0<carry:=by
     by_cases h:k<M
     ·left;simpa using h
     ·right;exact⟨by simpa using h,by omega⟩
    have HSUM:Hid (((x:Int)+(y:Int)+(carry:Int)).tmod 65536=(((x+y+carry)%65536:Nat):Int)):=by show _=_;rw[Int.tmod_eq_emod_of_nonneg aa];omega
    rcases hguard with hg|⟨hg,hg2⟩
    all_goals
     go_wp2_with fail
     refine (fY _ _ k (halves a) _ HRA.out).mono ?_
     rintro e w3 ⟨rfl,rfl⟩
     rw[HX.out]
     go_wp2_with fail
     refine (fY _ _ k (halves b) _ HRB.out).mono ?_
     rintro e w3 ⟨rfl,rfl⟩
     rw[HY.out]
     go_wp2_with (at_builtin;refine cU rfl _ _ 272 rfl B2 3 i0 (.int .i64 0) 8 Tryz.underlying272 hi jQ kZ lZ rfl HO.out rfl rfl (d:=(x+y+carry)%65536) aa aa aa sR ?_;intro v1 w3 eF fZ)
     have FI:=Lib.hid eF
     have Iw:=Lib.hid (fZ w2 ft.out)
     clear eF fZ
     go_wp2_with fail
     go_roundw
     case rel=>
      have hst:=CS HOL.out HOH.out HOV.out HX.out HY.out
      exact⟨k+1,(x+y+carry)/65536,os++[(x+y+carry)%65536],by have:=HK1.out;have:=HXY0.out;omega,by have:=HK1.out;have:=HXY0.out;omega,by go_num,by go_num,by omega,by simp[HOL.out],hst.1,hst.2,FI.out,Iw.out⟩
     case measure=>simp[intOf];have:=HXY0.out;omega
   ·have hc0:carry=0:=by omega
    have hkM':M<=k:=by omega
    have HC0:=Lib.hid hc0
    have hg1:decide (k<M)=false:=by simp;omega
    have hg2:¬ (0<(carry:Int)):=by omega
    have hks:k<=M+1:=by omega
    clear hkk
    clear hc0
    go_wp2_with fail
    refine (mS _ _ os _ (Rd.own HO.out) HOH.out aa).mono ?_
    rintro e w3 ⟨v3,rfl,au,cw⟩
    have hval:hval os=a+b:=by
     have:=HOV.out
     rw[HC0.out,Nat.mul_zero,Nat.add_zero] at this
     rw[this]
     show val 65536 _+val 65536 _=_
     rw[ee (by rw[Hk.out];omega),ee (by rw[Hm.out];omega)]
     show hval _+hval _=_
     rw[aM,aM]
    rw[hval] at au
    go_wp2_with fail
    exact bf.out _ _ ⟨_,rfl,Own.mono au aa,(rJ.out.trans (ft.out.mono Jw)).trans (cw.mono aa)⟩
def CmpInv (w:World) (us ts:List Nat) (M:Nat) (iv:Value) (wr:World):Prop:=
 ∃ k:Nat,k<=M/\iv=.int .i64 ((k:Int)-1)/\hval us+hval (ts.take k)=hval ts+hval (us.take k)/\w=wr
theorem gS (us:List Nat):hval (us.take 0)=0:=by simp[hval,val]
theorem Az {us ts:List Nat} {k x:Nat} (hx:us.getD k 0=x) (hy:ts.getD k 0=x) (h:hval us+hval (ts.take (k+1))=hval ts+hval (us.take (k+1))):hval us+hval (ts.take k)=hval ts+hval (us.take k):=by
 have h1:hval (ts.take (k+1))=hval (ts.take k)+65536^k*x:=by rw[<-hy];exact bB 65536 ts k
 have h2:hval (us.take (k+1))=hval (us.take k)+65536^k*x:=by rw[<-hx];exact bB 65536 us k
 omega
theorem rV {us ts:List Nat} {k x y:Nat} (hu:eW us) (hx:us.getD k 0=x) (hy:ts.getD k 0=y) (yx:x<y) (h:hval us+hval (ts.take (k+1))=hval ts+hval (us.take (k+1))):hval us<hval ts:=by
 have h1:hval (ts.take (k+1))=hval (ts.take k)+65536^k*y:=by rw[<-hy];exact bB 65536 ts k
 have h2:hval (us.take (k+1))=hval (us.take k)+65536^k*x:=by rw[<-hx];exact bB 65536 us k
 have h3:hval (us.take k)<65536^k:=by
  have h4:=pX (dm.take hu k)
  have h5:=Nat.pow_le_pow_right (show 0<65536 by omega) (show (us.take k).length<=k by rw[List.length_take];omega)
  omega
 have h4:65536^k*x+65536^k<=65536^k*y:=by
  have:=Nat.mul_le_mul_left (65536^k) (show x+1<=y from yx)
  rwa [Nat.mul_add,Nat.mul_one] at this
 omega
set_option maxRecDepth 100000 in
theorem re (va vb:Value) (n m:Nat) (xs ys:List Nat) (w:World) (hr:Rd w 1 va n (ints .u32 xs)) (hs:Rd w 1 vb m (ints .u32 ys)) (hx:bH xs) (hy:bH ys) (hn:n<=1073741824) (hm:m<=1073741824):
  Calls Tryz.prog 219 #[va,vb] w λe w'=>e=.returned (.int .i64 (eT (af xs) (af ys)))/\Below w.heap.size w w':=by
 obtain⟨p,c,rfl,dW,eJ,dR⟩:=hr.u32
 obtain⟨q,d,rfl,Fo,BM,iM⟩:=hs.u32
 have Hr:=Lib.hid hr
 have Hs:=Lib.hid hs
 have HL:=Lib.hid hx
 have HM:=Lib.hid hy
 have qi:=cM hx
 have mi:=cM hy
 rw[dR] at qi
 rw[iM] at mi
 obtain⟨a,ha⟩:∃ a,a=af xs:=⟨_,rfl⟩
 obtain⟨b,hb⟩:∃ b,b=af ys:=⟨_,rfl⟩
 rw[<-ha] at qi ⊢
 rw[<-hb] at mi ⊢
 have HA:=Lib.hid ha
 have HBb:=Lib.hid hb
 clear hr hs hx hy dR iM ha hb
 refine aA λR' bf=> ?_
 go_enter Tryz.func219,Tryz.ntmps219
 go_wp2_with fail
 refine (ek _ n xs _ Hr.out HL.out hn).mono ?_
 rintro e w1 ⟨v1,rfl,au,aD⟩
 rw[<-HA.out] at au
 have oU:=Lib.hid (Rd.own au)
 have yI:=Lib.hid aD
 clear au aD
 go_wp2_with fail
 refine (ek _ m ys _ (Hs.out.below yI.out) HM.out hm).mono ?_
 rintro e w2 ⟨v2,rfl,au,aP⟩
 rw[<-HBb.out] at au
 have HRA:=Lib.hid (oU.out.below aP)
 have HRB:=Lib.hid (Rd.own au)
 have rJ:=Lib.hid (yI.out.trans (aP.mono yI.out.size))
 clear au aP oU yI
 obtain⟨p1,c1,rfl,h11,h12,_⟩:=HRA.out.i64
 obtain⟨p2,c2,rfl,h21,h22,_⟩:=HRB.out.i64
 generalize Hl:(halves a).length=la at*
 generalize BP:(halves b).length=lb at*
 have Hk:=Lib.hid Hl
 have Hm:=Lib.hid BP
 clear Hl BP
 obtain⟨M,hMa,hMb,hMu,hM⟩:∃ M,la<=M/\lb<=M/\M<=2147483648/\(la<lb/\M=lb\/lb<=la/\M=la):=⟨max la lb,by omega,by omega,by omega,by omega⟩
 rcases hM with ⟨sL,rfl⟩|⟨sL,rfl⟩
 all_goals
  go_wp2_with fail
  go_loopw [7] (λiv wr=>CmpInv w2 (halves a) (halves b) M iv wr) (λiv _=>(intOf iv+1).toNat)
  case atStart=>exact⟨M,Nat.le_refl _,rfl,by
   show val 65536 _+val 65536 _=val 65536 _+val 65536 _
   rw[ee (by first|(rw[Hk.out];omega)|(rw[Hm.out];omega)),ee (by first|(rw[Hk.out];omega)|(rw[Hm.out];omega))];omega,rfl⟩
  case round=>
   obtain⟨k,hk,rfl,hv,rfl⟩:=hrel
   have HV:=Lib.hid hv
   clear hv
   by_cases h0:k=0
   ·subst h0
    go_wp2_with fail
    have e:a=b:=by
     have:=HV.out
     rw[gS,gS,aM,aM] at this
     omega
    exact bf.out _ _ ⟨kf (by rw[e,oX]),rJ.out⟩
   ·obtain⟨j,rfl⟩:∃ j,k=j+1:=⟨k-1,by omega⟩
    have hjj:((j+1:Nat):Int)-1=(j:Int):=by omega
    rw[hjj]
    clear h0 hjj
    generalize hx:(halves a).getD j 0=x
    generalize hy:(halves b).getD j 0=y
    have HX:=Lib.hid hx
    have HY:=Lib.hid hy
    clear hx hy
    go_wp2_with fail
    refine (fY _ _ j (halves a) _ HRA.out).mono ?_
    rintro e w3 ⟨rfl,rfl⟩
    rw[HX.out]
    go_wp2_with fail
    refine (fY _ _ j (halves b) _ HRB.out).mono ?_
    rintro e w3 ⟨rfl,rfl⟩
    rw[HY.out]
    rcases Nat.lt_trichotomy x y with hlt|heq|hgt
    ·go_wp2_with fail
     have:=rV (bu a) HX.out HY.out hlt HV.out
     rw[aM,aM] at this
     exact bf.out _ _ ⟨kf (by rw[jy this]),rJ.out⟩
    ·subst heq
     go_wp2_with fail
     refine (fY _ _ j (halves a) _ HRA.out).mono ?_
     rintro e w3 ⟨rfl,rfl⟩
     rw[HX.out]
     go_wp2_with fail
     refine (fY _ _ j (halves b) _ HRB.out).mono ?_
     rintro e w3 ⟨rfl,rfl⟩
     rw[HY.out]
     go_wp2_with fail
     go_roundw
     case rel=>exact⟨j,by omega,rfl,Az HX.out HY.out HV.out,rfl⟩
     case measure=>simp[intOf]
    ·go_wp2_with fail
     refine (fY _ _ j (halves a) _ HRA.out).mono ?_
     rintro e w3 ⟨rfl,rfl⟩
     rw[HX.out]
     go_wp2_with fail
     refine (fY _ _ j (halves b) _ HRB.out).mono ?_
     rintro e w3 ⟨rfl,rfl⟩
     rw[HY.out]
     go_wp2_with fail
     have:=rV (bu b) HY.out HX.out hgt HV.out.symm
     rw[aM,aM] at this
     exact bf.out _ _ ⟨kf (by rw[jz this]),rJ.out⟩
theorem rW {qs:List Nat} {k x:Nat}:(List.replicate (k+1) 0++qs).set k x=List.replicate k 0++x::qs:=by
 rw[List.replicate_succ',List.append_assoc,List.set_append_right _ _ cS]
 simp
def Jx (w:World) (B M:Nat) (us ts:List Nat) (ov bv iv:Value) (wr:World):Prop:=
 ∃ (k r:Nat) (ds:List Nat),k<=M/\ds.length=k/\iv=.int .i64 (k:Int)/\bv=.int .i64 (r:Int)/\r<=1/\eW ds/\
   hval ds+hval (ts.take k)=hval (us.take k)+65536^k*r/\wr.ownsRow B 3 1 ov k (ints .i64 ds)/\Below B w wr
theorem uE {k r x y d r':Nat} {us ts ds:List Nat} (hl:ds.length=k) (hh:eW ds) (hv:hval ds+hval (ts.take k)=hval (us.take k)+65536^k*r) (hx:us.getD k 0=x) (hy:ts.getD k 0=y)
  (hd:d<65536) (he:x+65536*r'=d+y+r):
  eW (ds++[d])/\hval (ds++[d])+hval (ts.take (k+1))=hval (us.take (k+1))+65536^(k+1)*r':=by
 refine⟨dm.append hh (dm.cons hd (dm.nil _)),?_⟩
 have h1:hval (ts.take (k+1))=hval (ts.take k)+65536^k*y:=by rw[<-hy];exact bB 65536 ts k
 have h2:hval (us.take (k+1))=hval (us.take k)+65536^k*x:=by rw[<-hx];exact bB 65536 us k
 rw[iT,hl,h1,h2,Nat.pow_succ]
 exact Fh 65536 _ x y r d r' _ _ _ hv he
set_option maxRecDepth 100000 in
theorem xa (va vb:Value) (n m:Nat) (xs ys:List Nat) (w:World) (hr:Rd w 1 va n (ints .u32 xs)) (hs:Rd w 1 vb m (ints .u32 ys)) (hx:bH xs) (hy:bH ys) (hn:n<=1073741824) (hm:m<=1073741824):
  Calls Tryz.prog 188 #[va,vb] w λe w'=>((af xs<af ys/\e=.returned (.tuple #[.slice none 0 0,.int .i64 2]))\/
   (af ys<=af xs/\∃ v',e=.returned (.tuple #[v',.int .i64 0])/\w'.ownsRow w.heap.size 191 1 v' (limbs (af xs-af ys)).length (ints .u32 (limbs (af xs-af ys)))))/\Below w.heap.size w w':=by
 obtain⟨p,c,rfl,dW,eJ,dR⟩:=hr.u32
 obtain⟨q,d,rfl,Fo,BM,iM⟩:=hs.u32
 obtain⟨i0,hi,jQ,kZ,lZ⟩:=info_parts tf
 have Hr:=Lib.hid hr
 have Hs:=Lib.hid hs
 have HL:=Lib.hid hx
 have HM:=Lib.hid hy
 have qi:=cM hx
 have mi:=cM hy
 rw[dR] at qi
 rw[iM] at mi
 obtain⟨a,ha⟩:∃ a,a=af xs:=⟨_,rfl⟩
 obtain⟨b,hb⟩:∃ b,b=af ys:=⟨_,rfl⟩
 rw[<-ha] at qi ⊢
 rw[<-hb] at mi ⊢
 have HA:=Lib.hid ha
 have HBb:=Lib.hid hb
 clear hr hs hx hy dR iM ha hb
 refine aA λR' bf=> ?_
 go_enter Tryz.func188,Tryz.ntmps188
 go_wp2_with fail
 refine (re _ _ n m xs ys _ Hr.out Hs.out HL.out HM.out hn hm).mono ?_
 rintro e w0 ⟨rfl,kV⟩
 rw[<-HA.out,<-HBb.out]
 have HB0:=Lib.hid kV
 have hB0s:=kV.size
 clear kV
 by_cases sL:a<b
 ·have hc:eT a b<0:=gT.2 sL
  generalize eT a b=cv at hc ⊢
  go_wp2_with fail
  exact bf.out _ _ ⟨.inl ⟨sL,rfl⟩,HB0.out⟩
 ·have hc:0<=eT a b:=by have:=mt (@gT a b).1 sL;omega
  generalize eT a b=cv at hc ⊢
  have hlen:(halves b).length<=(halves a).length:=cN aa aa
  have HAB:=Lib.hid sL
  clear sL
  go_wp2_with fail
  refine (ek _ n xs _ (Hr.out.below HB0.out) HL.out hn).mono ?_
  rintro e w1 ⟨v1,rfl,au,aD⟩
  rw[<-HA.out] at au
  have oU:=Lib.hid (Rd.own au)
  have yI:=Lib.hid (HB0.out.trans (aD.mono hB0s))
  have hB1s:=aD.size
  clear au aD
  go_wp2_with fail
  refine (ek _ m ys _ (Hs.out.below yI.out) HM.out hm).mono ?_
  rintro e w2 ⟨v2,rfl,au,aP⟩
  rw[<-HBb.out] at au
  have HRA0:=Lib.hid (oU.out.below aP)
  have HRB0:=Lib.hid (Rd.own au)
  have rJ:=Lib.hid (yI.out.trans (aP.mono yI.out.size))
  have hB2s:=aP.size
  clear au aP oU yI
  obtain⟨p1,c1,rfl,h11,h12,_⟩:=HRA0.out.i64
  obtain⟨p2,c2,rfl,h21,h22,_⟩:=HRB0.out.i64
  generalize Hl:(halves a).length=la at*
  generalize BP:(halves b).length=lb at*
  have Hk:=Lib.hid Hl
  have Hm:=Lib.hid BP
  clear Hl BP
  obtain⟨B2,Jv⟩:∃ B2,B2=w2.heap.size:=⟨_,rfl⟩
  have CT:=Lib.hid Jv
  have Jw:w.heap.size<=B2:=by omega
  clear Jv
  go_wp2_with fail
  go_loopw [8,9,10] (λov bv iv wr=>Jx w2 B2 la (halves a) (halves b) ov bv iv wr) (λ_ _ iv _=>la-(intOf iv).toNat)
  case atStart=>exact⟨0,0,[],Nat.zero_le _,rfl,rfl,rfl,by omega,dm.nil _,by rw[gS,gS];simp[hval,val],World.ownsRow_nil _ _ _ _,Below.refl _ _⟩
  case round=>
   obtain⟨k,r,ds,hk,sq,rfl,rfl,jA,hdh,hdv,au,km⟩:=hrel
   have HO:=Lib.hid au
   have Cl:=Lib.hid sq
   have HDH:=Lib.hid hdh
   have HDV:=Lib.hid hdv
   have ft:=Lib.hid km
   have sR:B2<=wr.heap.size:=by have:=km.size;have:=CT.out;omega
   have HRB:=Lib.hid (HRB0.out.gr CT.out km)
   clear au sq hdh hdv
   by_cases Eh:k<la
   ·obtain⟨b1,o1,x,rfl,_,ey,kj⟩:=(HRA0.out.gr CT.out km).cellAt Eh
    have ju:=(bu a).at ey
    have HX:Hid ((halves a).getD k 0=x):=by show _=_;rw[List.getD,ey];rfl
    have vX:=iU (bu b) k
    clear ey km
    generalize hy:(halves b).getD k 0=y at*
    have HY:=Lib.hid hy
    clear hy
    have Hi:(0:Int)<=(k:Int):=by omega
    have oW:(k:Int)<(la:Int):=by omega
    have vp:IntKind.i64.wrap ((x:Int)-(y:Int))=(x:Int)-(y:Int):=IntWalk.i64_in _ aa
    have hw2:IntKind.i64.wrap ((x:Int)-(y:Int)-(r:Int))=(x:Int)-(y:Int)-(r:Int):=IntWalk.i64_in _ aa
    have vD:∀ j:Nat,Calls Tryz.prog 217 #[.slice p2 lb c2,.int .i64 (k:Int)] (wr.drewN j) λe w'=>e=.returned (.int .i64 (y:Int))/\wr.drewN j=w':=λj=>by
     have:=fY _ _ k (halves b) _ (Rd.drewN HRB.out j)
     rwa [HY.out] at this
    have HAT:=Lib.hid vD
    clear vD
    go_wp2_with fail
    go_quiet ((go_at_call 217;exact tz (HAT.out _) ⟨_,rfl⟩))
    clear vp hw2 Hi oW kj
    by_cases yV:(x:Int)-(y:Int)-(r:Int)<0
    ·go_wp2_with (at_builtin;refine cU (w:=wr.drewN nq) rfl _ _ 272 rfl B2 3 i0 (.int .i64 0) 8 Tryz.underlying272 hi jQ kZ lZ rfl (Own.drewN HO.out nq) rfl rfl (d:=x+65536-y-r) aa aa aa sR ?_;intro v1 w3 eF fZ)
     have FI:=Lib.hid eF
     have Iw:=Lib.hid (fZ w2 (Below.drewN ft.out nq))
     clear eF fZ
     go_wp2_with fail
     go_roundw
     case rel=>
      have hst:=uE (d:=x+65536-y-r) (r':=1) Cl.out HDH.out HDV.out HX.out HY.out aa aa
      exact⟨k+1,1,ds++[x+65536-y-r],by omega,by simp[Cl.out],by go_num,rfl,by omega,hst.1,hst.2,FI.out,Iw.out⟩
     case measure=>simp[intOf];omega
    ·go_wp2_with (at_builtin;refine cU (w:=wr.drewN nq) rfl _ _ 272 rfl B2 3 i0 (.int .i64 0) 8 Tryz.underlying272 hi jQ kZ lZ rfl (Own.drewN HO.out nq) rfl rfl (d:=x-y-r) aa aa aa sR ?_;intro v1 w3 eF fZ)
     have FI:=Lib.hid eF
     have Iw:=Lib.hid (fZ w2 (Below.drewN ft.out nq))
     clear eF fZ
     go_wp2_with fail
     go_roundw
     case rel=>
      have hst:=uE (d:=x-y-r) (r':=0) Cl.out HDH.out HDV.out HX.out HY.out aa aa
      exact⟨k+1,0,ds++[x-y-r],by omega,by simp[Cl.out],by go_num,rfl,by omega,hst.1,hst.2,FI.out,Iw.out⟩
     case measure=>simp[intOf];omega
   ·obtain rfl:k=la:=by omega
    clear km
    go_wp2_with fail
    refine (mS _ k ds _ (Rd.own HO.out) HDH.out aa).mono ?_
    rintro e w4 ⟨v4,rfl,au,gi⟩
    have hval:hval ds=a-b:=by
     have h1:=HDV.out
     have e1:hval ((halves a).take k)=a:=by
      show val 65536 _=_
      rw[ee (Nat.le_of_eq Hk.out)];exact aM a
     have e2:hval ((halves b).take k)=b:=by
      show val 65536 _=_
      rw[ee (by rw[Hm.out];exact hlen)];exact aM b
     rw[e1,e2] at h1
     have h3:=pX HDH.out
     rw[Cl.out] at h3
     have hba:=HAB.out
     have:r=0:=by
      rcases Nat.eq_zero_or_pos r with h|h
      ·exact h
      ·have:r=1:=by omega
       subst this
       omega
     subst this
     omega
    rw[hval] at au
    have HOWN:=Lib.hid au
    clear au
    go_wp2_with fail
    refine bf.out _ _ ⟨.inr ⟨by have:=HAB.out;omega,v4,rfl,?_⟩,(rJ.out.trans (ft.out.mono Jw)).trans (gi.mono aa)⟩
    exact Own.mono HOWN.out aa
theorem CU (neg:Bool) (xs:List Nat) (v:Value) (w:World) (h:ez w v neg xs):
  Calls Tryz.prog 181 #[v] w λe w'=>e=.returned (.bool (cY neg xs))/\aw w w':=by
 obtain⟨p,c,rfl,hr,hl⟩:=h
 obtain⟨p',c',hv,dW,eJ,-⟩:=hr.u32
 simp only[Value.slice.injEq,true_and] at hv
 obtain⟨rfl,rfl⟩:=hv
 refine aA λR' bf=> ?_
 by_cases hx:xs=[]
 ·subst hx
  simp only[List.length_nil,oi] at*
  go_enter Tryz.func181,Tryz.ntmps181
  cases neg
  ·go_wp2
   exact bf.out _ _ ⟨rfl,(aw.refl w).alloc _⟩
  ·go_wp2
   exact bf.out _ _ ⟨rfl,(aw.refl w).alloc _⟩
 ·obtain⟨m,hm⟩:∃ m,xs.length=m+1:=⟨xs.length-1,by have:=List.length_pos_iff.2 hx;omega⟩
  generalize hn:xs.length=n at*
  obtain⟨b,off,x,rfl,hb,hxm,hc⟩:=hr.cellAt (k:=m) aa
  have h1:cY neg xs=decide (x≠0):=rK (by rw[hn,hm];exact hxm)
  rw[h1] at bf
  have hz:((n:Int) == 0)=false:=by rw[beq_eq_false_iff_ne];omega
  have hp:(0:Int)<(n:Int):=by omega
  have hw:IntKind.i64.wrap ((n:Int)-1)=(m:Int):=by rw[IntWalk.i64_in _ aa];omega
  have hlt:(m:Int)<(n:Int):=by omega
  have HN:=Lib.hid hn
  have hpn:0<n:=by omega
  clear hx hm hn h1 hxm hr hl
  go_enter Tryz.func181,Tryz.ntmps181
  by_cases nM:x=0
  ·subst nM
   cases neg
   ·go_wp2
    exact bf.out _ _ ⟨rfl,(aw.refl w).alloc _⟩
   ·go_wp2
    exact bf.out _ _ ⟨rfl,(aw.refl w).alloc _⟩
  ·have BV:((x:Int) != 0)=true:=by rw[bne_iff_ne];omega
   rw[decide_eq_true nM] at bf
   clear nM
   cases neg
   ·go_wp2
    exact bf.out _ _ ⟨rfl,(aw.refl w).alloc _⟩
   ·go_wp2
    exact bf.out _ _ ⟨rfl,(aw.refl w).alloc _⟩
theorem oL (v:Value) (X:Int) (k:Nat) (w0 w:World) (h:bq w0 v X k) (kV:aw w0 w):
  Calls Tryz.prog 186 #[v] w λe w'=>∃ u,e=.returned u/\bd w0 u X/\aw w w':=by
 obtain⟨neg,xs,hn,rfl,hk⟩:=h
 refine aA λR' bf=> ?_
 have HN:=Lib.hid hn
 obtain⟨p,c,rfl,hr,hl⟩:=hn
 clear hr
 go_enter Tryz.func186,Tryz.ntmps186
 go_wp2_with fail
 refine (CU neg xs _ _ ((HN.out.bt kV).bt (((aw.refl w).alloc _).alloc _))).mono ?_
 rintro e w1 ⟨rfl,aD⟩
 obtain⟨b1,b2,jZ⟩:=jT w 53 53 #[.bool neg,.slice p xs.length c] #[.bool false,.slice none 0 0]
 obtain⟨c1,c2,_,_⟩:=(b1.bt aD).two
 obtain⟨c3,c4,f3,f4⟩:=(b2.bt aD).two
 have xy:aw w w1:=jZ.ax aD
 cases hnr:cY neg xs
 ·have B2:=(b2.bt aD).bh (.bool false) (.slice none 0 0)
  have rJ:=xy.bh (b:=w.heap.size+1) aa (.bool false) (.slice none 0 0)
  go_wp2
  generalize (w1.setCell ⟨w.heap.size+1,0,none⟩ (.bool false)).setCell ⟨w.heap.size+1,1,none⟩ (.slice none 0 0)=w2 at*
  obtain⟨d1,d2,_,_⟩:=B2.two
  refine bodyPost_ret (v:=.agg #[.bool false,.slice none 0 0]) (by simp[results,Tryz.results186,go_sem,d1,d2]) rfl (bf.out _ _ ⟨_,rfl,?_,rJ⟩)
  rw[numOf,if_neg (by simp[hnr])]
  exact bd.zero _
 ·have B2:=(b2.bt aD).bh (.bool neg) (.slice p xs.length c)
  have rJ:=xy.bh (b:=w.heap.size+1) aa (.bool neg) (.slice p xs.length c)
  go_wp2
  generalize (w1.setCell ⟨w.heap.size+1,0,none⟩ (.bool neg)).setCell ⟨w.heap.size+1,1,none⟩ (.slice p xs.length c)=w2 at*
  obtain⟨d1,d2,_,_⟩:=B2.two
  refine bodyPost_ret (v:=.agg #[.bool neg,.slice p xs.length c]) (by simp[results,Tryz.results186,go_sem,d1,d2]) rfl (bf.out _ _ ⟨_,rfl,?_,rJ⟩)
  rw[numOf,if_pos hnr]
  obtain⟨h1,h2⟩:=canon hl hnr
  have:=HN.out
  show ez _ _ _ _
  rw[<-h1,<-h2]
  exact this
theorem ic (neg:Bool) (v:Value) (n:Nat) (xs:List Nat) (w:World) (hr:Rd w 1 v n (ints .u32 xs)) (hl:bH xs) (hn:n<=1073741824):
  Calls Tryz.prog 171 #[.bool neg,v] w λe w'=>∃ r,e=.returned r/\aj w' w.heap.size r (if neg=true then-(af xs:Int) else af xs)/\aw w w':=by
 obtain⟨p,c,rfl,_,_,_⟩:=hr.u32
 have HR:=Lib.hid hr
 have mo:=aW.new w 53 #[.bool false,.slice none 0 0]
 have jZ:=(aw.refl w).alloc (.cells #[.bool false,.slice none 0 0] 53)
 clear hr
 refine aA λR' bf=> ?_
 go_enter Tryz.func171,Tryz.ntmps171
 go_wp2_with fail
 refine (CR _ n xs _ (HR.out.below jZ) hl hn).mono ?_
 rintro e w1 ⟨v1,rfl,qZ,aD⟩
 replace aD:aw _ w1:=aD
 obtain⟨p1,k1,rfl,_,_,_⟩:=Own.form qZ
 generalize hL:(limbs (af xs)).length=L at*
 have HL:=Lib.hid hL
 have FC:=mo.bt aD
 have FB:=jZ.ax aD
 obtain⟨c1,c2,f1,f2⟩:=FC.two
 have Ez:=Own.mono qZ jZ.size
 clear hL qZ
 cases neg
 ·have HO:=Lib.hid (Own.bh Ez FC fq (.bool false) (.slice p1 L k1))
  clear Ez
  have xW:=FC.bh (.bool (false)) (.slice p1 (L) k1)
  have xX:=aw.bh FB (b:=w.heap.size) aa (.bool (false)) (.slice p1 (L) k1)
  go_wp2
  generalize (w1.setCell ⟨w.heap.size,0,none⟩ (.bool (false))).setCell ⟨w.heap.size,1,none⟩ (.slice p1 (L) k1)=wz at*
  obtain⟨xY,xZ,_,_⟩:=xW.two
  refine bodyPost_ret (v:=.agg #[.bool (false),.slice p1 (L) k1]) (by simp[results,Tryz.results171,go_sem,xY,xZ]) rfl (bf.out _ _ ?_)
  exact⟨_,rfl,aj.of (neg:=false) (by rw[HL.out];exact HO.out) HL.out.symm _ cS,xX⟩
 ·have HO:=Lib.hid (Own.bh Ez FC fq (.bool (decide (0<L))) (.slice p1 L k1))
  clear Ez
  have xW:=FC.bh (.bool (decide (0<L))) (.slice p1 (L) k1)
  have xX:=aw.bh FB (b:=w.heap.size) aa (.bool (decide (0<L))) (.slice p1 (L) k1)
  go_wp2
  generalize (w1.setCell ⟨w.heap.size,0,none⟩ (.bool (decide (0<L)))).setCell ⟨w.heap.size,1,none⟩ (.slice p1 (L) k1)=wz at*
  obtain⟨xY,xZ,_,_⟩:=xW.two
  refine bodyPost_ret (v:=.agg #[.bool (decide (0<L)),.slice p1 (L) k1]) (by simp[results,Tryz.results171,go_sem,xY,xZ]) rfl (bf.out _ _ ?_)
  exact⟨_,rfl,aj.of (neg:=true) (by rw[HL.out];exact HO.out) HL.out.symm _ cS,xX⟩
def ya (X Y:Int):Int:=(X-Y).sign
theorem EE {X Y:Int} (h:X<Y):ya X Y= -1:=sign_neg aa
theorem EF {X Y:Int} (h:Y<X):ya X Y=1:=dp aa
theorem xb (a b:Nat):ya (a:Int) b=eT a b:=by
 rcases Nat.lt_trichotomy a b with h|rfl|h
 ·rw[EE aa,jy h]
 ·rw[oX];simp[ya]
 ·rw[EF aa,jz h]
theorem CV (a b:Nat):ya (-(a:Int)) (-(b:Int))=eT b a:=by
 rw[<-xb];unfold ya;congr 1;omega
theorem Jy (v u:Value) (X Y:Int) (j k:Nat) (w:World) (hv:bq w v X j) (hu:bq w u Y k) (hj:j<=1073741824) (hk:k<=1073741824):
  Calls Tryz.prog 203 #[v,u] w λe w'=>e=.returned (.int .i64 (ya X Y))/\aw w w':=by
 obtain⟨s,p,n,c,rfl⟩:=hv.form
 obtain⟨t,q,m,d,rfl⟩:=hu.form
 refine aA λR' bf=> ?_
 obtain⟨b1,b2,jZ⟩:=jT w 53 53 #[.bool s,.slice p n c] #[.bool t,.slice q m d]
 have HJ:=Lib.hid (Nat.le_trans hv.len hj)
 have HK:=Lib.hid (Nat.le_trans hu.len hk)
 have HV:=Lib.hid hv
 have HU:=Lib.hid hu
 clear hv hu hj hk
 go_enter Tryz.func203,Tryz.ntmps203
 go_wp2_with fail
 generalize (w.alloc _).alloc _=W at*
 refine (oL _ X j w _ HV.out fy).mono ?_
 rintro e wa ⟨ua,rfl,hua,hba⟩
 obtain⟨s1,p1,n1,k1,rfl⟩:=hua.fo
 obtain⟨a1,a2,a3,a4⟩:=(b1.bt hba).two
 obtain⟨a5,a6,a7,a8⟩:=(b2.bt hba).two
 have B1:=(b1.bt hba).bh (.bool s1) (.slice p1 n1 k1)
 have B2:=(b2.bt hba).dc (b':=w.heap.size) aa (.bool s1) (.slice p1 n1 k1)
 have hZ:=aG.IC (aG.IC (aG.ax (aG.refl W w.heap.size (w.heap.size+1)) hba) (j:=0) (.bool s1)) (j:=1) (.slice p1 n1 k1)
 have HB:=aw.bh (jZ.ax hba) (b:=w.heap.size) aa (.bool s1) (.slice p1 n1 k1)
 have HPA:=Lib.hid hua.parts
 have HSA:=Lib.hid hua.IB
 have HUA:=Lib.hid hua
 clear hua
 go_wp2_with fail
 generalize (wa.setCell ⟨w.heap.size,0,none⟩ (.bool s1)).setCell ⟨w.heap.size,1,none⟩ (.slice p1 n1 k1)=wb at*
 clear a1 a2 a3 a4 a5 a6 a7 a8 hba
 refine (oL _ Y k w _ HU.out HB).mono ?_
 rintro e wc ⟨ub,rfl,hub,xy⟩
 obtain⟨s2,p2,n2,k2,rfl⟩:=hub.fo
 obtain⟨a1,a2,a3,a4⟩:=(B1.bt xy).two
 obtain⟨a5,a6,a7,a8⟩:=(B2.bt xy).two
 have D1:=(B1.bt xy).dc (b':=w.heap.size+1) aa (.bool s2) (.slice p2 n2 k2)
 have D2:=(B2.bt xy).bh (.bool s2) (.slice p2 n2 k2)
 have hY:=aG.lp (aG.lp (aG.ax hZ xy) (j:=0) (.bool s2)) (j:=1) (.slice p2 n2 k2)
 have HD:=aw.bh (HB.ax xy) (b:=w.heap.size+1) aa (.bool s2) (.slice p2 n2 k2)
 have HPB:=Lib.hid hub.parts
 have HSB:=Lib.hid hub.IB
 have HUB:=Lib.hid hub
 clear hub B1 B2 HB xy hZ
 have BV:n1<=1073741824:=by rw[HPA.out.1];exact HJ.out
 have yJ:n2<=1073741824:=by rw[HPB.out.1];exact HK.out
 have HX1:=Lib.hid BV
 have HI:=Lib.hid yJ
 clear BV yJ
 cases s1 <;> cases s2
 ·go_wp2_with fail
  generalize (wc.setCell ⟨w.heap.size+1,0,none⟩ (.bool false)).setCell ⟨w.heap.size+1,1,none⟩ (.slice p2 n2 k2)=wd at*
  refine (re _ _ n1 n2 _ _ _ (HPA.out.2.1.below HD) (HPB.out.2.1.below HD) (ai _) (ai _) HX1.out HI.out).mono ?_
  rintro e we ⟨rfl,hbe⟩
  rw[ag,ag,<-xb]
  have e1:(X.natAbs:Int)=X:=by have:=HPA.out.2.2;simpa using this.symm
  have e2:(Y.natAbs:Int)=Y:=by have:=HPB.out.2.2;simpa using this.symm
  rw[e1,e2]
  go_wp2_with fail
  exact bf.out _ _ ⟨rfl,HD.ax hbe⟩
 ·have h1:¬ X<0:=of_decide_eq_false HSA.out.symm
  have h2:Y<0:=of_decide_eq_true HSB.out.symm
  rw[EF aa] at bf
  go_wp2
  exact bf.out _ _ ⟨rfl,HD⟩
 ·have h1:X<0:=of_decide_eq_true HSA.out.symm
  have h2:¬ Y<0:=of_decide_eq_false HSB.out.symm
  rw[EE aa] at bf
  go_wp2
  exact bf.out _ _ ⟨rfl,HD⟩
 ·go_wp2_with fail
  generalize (wc.setCell ⟨w.heap.size+1,0,none⟩ (.bool true)).setCell ⟨w.heap.size+1,1,none⟩ (.slice p2 n2 k2)=wd at*
  refine (re _ _ n2 n1 _ _ _ (HPB.out.2.1.below HD) (HPA.out.2.1.below HD) (ai _) (ai _) HI.out HX1.out).mono ?_
  rintro e we ⟨rfl,hbe⟩
  rw[ag,ag,<-CV]
  have e1: -(X.natAbs:Int)=X:=by have:=HPA.out.2.2;simpa using this.symm
  have e2: -(Y.natAbs:Int)=Y:=by have:=HPB.out.2.2;simpa using this.symm
  rw[e1,e2]
  go_wp2_with fail
  exact bf.out _ _ ⟨rfl,HD.ax hbe⟩
theorem cK (v:Value) (X:Int) (j:Nat) (w:World) (hv:bq w v X j) (hj:j<=1073741824):
  Calls Tryz.prog 168 #[v] w λe w'=>e=.returned (.int .i64 X.sign)/\aw w w':=by
 obtain⟨s,p,n,c,rfl⟩:=hv.form
 refine aA λR' bf=> ?_
 have jZ:=(aw.refl w).alloc (.cells #[.bool s,.slice p n c] 53)
 have HV:=Lib.hid (hv.bt jZ)
 have e1:=Lib.hid (show ya X 0=X.sign by simp[ya])
 clear hv
 go_enter Tryz.func168,Tryz.ntmps168
 go_wp2_with fail
 generalize w.alloc _=W at*
 refine (Jy _ _ X 0 j 0 _ HV.out ((bd.zero _).to (by simp[bc])) hj aa).mono ?_
 rintro e w1 ⟨rfl,aD⟩
 rw[e1.out]
 go_wp2
 exact bf.out _ _ ⟨rfl,jZ.ax aD⟩
theorem Rd.kp {U:TypeId} {T:TypeId->Bool} {w w':World} {v:Value} {n:Nat} {xs:List Nat} (h:Rd w 1 v n (ints .u32 xs)) (k:aR ⟨U,λ_=>True,T⟩ w w'):Rd w' 1 v n (ints .u32 xs):=by
 obtain⟨p,c,rfl,h1,h2,h3,h4⟩:=h
 refine⟨p,c,rfl,h1,h2,h3,λhn=> ?_⟩
 obtain⟨b,off,hp,hc⟩:=h4 hn
 refine⟨b,off,hp,λj u hj=> ?_⟩
 obtain⟨x,hx,rfl⟩:=List.mem_map.1 (List.mem_of_getElem? hj)
 exact k.cell _ _ trivial (hc j _ hj)
theorem Own.kp {T:TypeId->Bool} {w w':World} {B sz n:Nat} {v:Value} {cs:List Value} (h:w.ownsRow B UU sz v n cs) (k:aR ⟨UU,λ_=>True,T⟩ w w'):w'.ownsRow B UU sz v n cs:=by
 refine⟨h.1,?_⟩
 rcases h.2 with h2|⟨g,cap,cur,hv,hb,hg,r⟩
 ·exact .inl h2
 ·exact .inr ⟨g,cap,cur,hv,hb,k.block _ g cur rfl trivial hg,r⟩
theorem ez.kp {U:TypeId} {T:TypeId->Bool} {w w':World} {v:Value} {s:Bool} {xs:List Nat} (h:ez w v s xs) (k:aR ⟨U,λ_=>True,T⟩ w w'):ez w' v s xs:=by
 obtain⟨p,c,hv,hr,hl⟩:=h
 exact⟨p,c,hv,hr.kp k,hl⟩
theorem bq.kp {U:TypeId} {T:TypeId->Bool} {w w':World} {v:Value} {X:Int} {j:Nat} (h:bq w v X j) (k:aR ⟨U,λ_=>True,T⟩ w w'):bq w' v X j:=by
 obtain⟨s,xs,hn,hx,hj⟩:=h
 exact⟨s,xs,hn.kp k,hx,hj⟩
theorem bd.kp {U:TypeId} {T:TypeId->Bool} {w w':World} {v:Value} {X:Int} (h:bd w v X) (k:aR ⟨U,λ_=>True,T⟩ w w'):bd w' v X:=ez.kp h k
theorem aj.kp {T:TypeId->Bool} {w w':World} {B:Nat} {v:Value} {X:Int} (h:aj w B v X) (k:aR ⟨UU,λ_=>True,T⟩ w w'):aj w' B v X:=by
 obtain⟨p,c,hv,ho⟩:=h
 exact⟨p,c,hv,Own.kp ho k⟩
theorem aj.in {w:World} {B:Nat} {v:Value} {X:Int} {j:Nat} (h:aj w B v X) (hs:Sz X j):bq w v X j:=h.rd.to hs
def CW (X Y:Int):Rat:=if 0<Y/\Int.gcd X Y=1 then Rat.divInt X Y else 0
theorem lJ {X Y:Int} (h:0<Y/\Int.gcd X Y=1):(CW X Y).num=X/\((CW X Y).den:Int)=Y:=by
 unfold CW
 rw[if_pos h,Rat.num_divInt,Rat.den_divInt,if_neg aa,Int.gcd_comm,h.2]
 have:Y.sign=1:=dp h.1
 rw[this]
 simp
 omega
theorem CX {X Y:Int} (h:¬ (0<Y/\Int.gcd X Y=1)):CW X Y=0:=if_neg h
theorem xc (q:Rat):CW q.num q.den=q:=by
 have h:(0:Int)<q.den/\Int.gcd q.num q.den=1:=⟨by have:=q.den_nz;omega,by have:=q.reduced;simpa [Int.gcd,Nat.Coprime] using this⟩
 obtain⟨h1,h2⟩:=lJ h
 exact Rat.ext h1 aa
def bW (w:World) (v:Value) (s:Bool) (xs:List Nat) (t:Bool) (ys:List Nat):Prop:=
 ∃ p c r d,v=.agg #[.bool s,.slice p xs.length c,.bool t,.slice r ys.length d]/\ez w (.agg #[.bool s,.slice p xs.length c]) s xs/\ez w (.agg #[.bool t,.slice r ys.length d]) t ys
def rq (s:Bool) (xs:List Nat) (t:Bool) (ys:List Nat):Rat:=CW (numOf s xs) (numOf t ys)
def aC (w:World) (v:Value) (q:Rat) (k:Nat):Prop:=∃ s xs t ys,bW w v s xs t ys/\q=rq s xs t ys/\xs.length<=k/\ys.length<=k
def aQ (w:World) (v:Value) (q:Rat):Prop:=∃ s p n c t r m d,v=.agg #[.bool s,.slice p n c,.bool t,.slice r m d]/\bd w (.agg #[.bool s,.slice p n c]) q.num/\bd w (.agg #[.bool t,.slice r m d]) (q.den:Int)
def aI (w:World) (B:Nat) (v:Value) (q:Rat):Prop:=∃ s p n c t r m d,v=.agg #[.bool s,.slice p n c,.bool t,.slice r m d]/\aj w B (.agg #[.bool s,.slice p n c]) q.num/\aj w B (.agg #[.bool t,.slice r m d]) (q.den:Int)
def bK (q:Rat) (k:Nat):Prop:=Sz q.num k/\Sz (q.den:Int) k
theorem bW.kp {U:TypeId} {T:TypeId->Bool} {w w':World} {v:Value} {s t:Bool} {xs ys:List Nat} (h:bW w v s xs t ys) (k:aR ⟨U,λ_=>True,T⟩ w w'):bW w' v s xs t ys:=by
 obtain⟨p,c,r,d,hv,h1,h2⟩:=h
 exact⟨p,c,r,d,hv,h1.kp k,h2.kp k⟩
theorem aC.kp {U:TypeId} {T:TypeId->Bool} {w w':World} {v:Value} {q:Rat} {j:Nat} (h:aC w v q j) (k:aR ⟨U,λ_=>True,T⟩ w w'):aC w' v q j:=by
 obtain⟨s,xs,t,ys,h1,h2⟩:=h
 exact⟨s,xs,t,ys,h1.kp k,h2⟩
theorem aQ.kp {U:TypeId} {T:TypeId->Bool} {w w':World} {v:Value} {q:Rat} (h:aQ w v q) (k:aR ⟨U,λ_=>True,T⟩ w w'):aQ w' v q:=by
 obtain⟨s,p,n,c,t,r,m,d,hv,h1,h2⟩:=h
 exact⟨s,p,n,c,t,r,m,d,hv,h1.kp k,h2.kp k⟩
theorem aI.kp {T:TypeId->Bool} {w w':World} {B:Nat} {v:Value} {q:Rat} (h:aI w B v q) (k:aR ⟨UU,λ_=>True,T⟩ w w'):aI w' B v q:=by
 obtain⟨s,p,n,c,t,r,m,d,hv,h1,h2⟩:=h
 exact⟨s,p,n,c,t,r,m,d,hv,h1.kp k,h2.kp k⟩
theorem aI.mono {w:World} {B B':Nat} {v:Value} {q:Rat} (h:aI w B v q) (hB:B'<=B):aI w B' v q:=by
 obtain⟨s,p,n,c,t,r,m,d,hv,h1,h2⟩:=h
 exact⟨s,p,n,c,t,r,m,d,hv,h1.mono hB,h2.mono hB⟩
theorem aI.rd {w:World} {B:Nat} {v:Value} {q:Rat} (h:aI w B v q):aQ w v q:=by
 obtain⟨s,p,n,c,t,r,m,d,hv,h1,h2⟩:=h
 exact⟨s,p,n,c,t,r,m,d,hv,h1.rd,h2.rd⟩
theorem aI.cast {w:World} {B:Nat} {v:Value} {q q':Rat} (h:aI w B v q) (e:q=q'):aI w B v q':=e▸h
theorem bd.len4 {w:World} {s:Bool} {p:Option Addr} {n c:Nat} {X:Int} (h:bd w (.agg #[.bool s,.slice p n c]) X):s=decide (X<0)/\n=(limbs X.natAbs).length:=⟨h.IB,h.parts.1⟩
theorem aQ.raw {w:World} {v:Value} {q:Rat} (h:aQ w v q):bW w v (decide (q.num<0)) (limbs q.num.natAbs) (decide ((q.den:Int)<0)) (limbs (q.den:Int).natAbs):=by
 obtain⟨s,p,n,c,t,r,m,d,rfl,h1,h2⟩:=h
 obtain⟨rfl,rfl⟩:=h1.len4
 obtain⟨rfl,rfl⟩:=h2.len4
 exact⟨p,c,r,d,rfl,h1,h2⟩
theorem aQ.to {w:World} {v:Value} {q:Rat} {k:Nat} (h:aQ w v q) (hs:bK q k):aC w v q k:=
 ⟨_,_,_,_,h.raw,by unfold rq;rw[eK,eK,xc],hs.1,hs.2⟩
theorem aI.in {w:World} {B:Nat} {v:Value} {q:Rat} {k:Nat} (h:aI w B v q) (hs:bK q k):aC w v q k:=h.rd.to hs
theorem bK.mono {q:Rat} {k l:Nat} (h:bK q k) (Eh:k<=l):bK q l:=⟨h.1.mono Eh,h.2.mono Eh⟩
theorem bK.zero:bK 0 1:=⟨Sz.zero.mono aa,Sz.small fq⟩
theorem bK.one:bK 1 1:=⟨Sz.small fq,Sz.small fq⟩
theorem uF {s:Bool} {xs:List Nat} {k:Nat} (hl:bH xs) (h:xs.length<=k):Sz (numOf s xs) k:=Nat.le_trans (wq hl) h
theorem aC.sz {w:World} {v:Value} {q:Rat} {k:Nat} (h:aC w v q k) (hk:1<=k):bK q k:=by
 obtain⟨s,xs,t,ys,⟨p,c,r,d,_,⟨_,_,_,_,l1⟩,⟨_,_,_,_,l2⟩⟩,rfl,h1,h2⟩:=h
 unfold rq
 by_cases hr:0<numOf t ys/\Int.gcd (numOf s xs) (numOf t ys)=1
 ·obtain⟨e1,e2⟩:=lJ hr
  exact⟨by rw[e1];exact uF l1 h1,by rw[e2];exact uF l2 h2⟩
 ·rw[CX hr];exact bK.zero.mono hk
theorem aC.form {w:World} {v:Value} {q:Rat} {k:Nat} (h:aC w v q k):∃ s p n c t r m d,v=.agg #[.bool s,.slice p n c,.bool t,.slice r m d]:=by
 obtain⟨s,xs,t,ys,⟨p,c,r,d,hv,_⟩,_⟩:=h
 exact⟨_,_,_,_,_,_,_,_,hv⟩
theorem aQ.parts {w:World} {s t:Bool} {p r:Option Addr} {n c m d:Nat} {q:Rat} (h:aQ w (.agg #[.bool s,.slice p n c,.bool t,.slice r m d]) q):bd w (.agg #[.bool s,.slice p n c]) q.num/\bd w (.agg #[.bool t,.slice r m d]) (q.den:Int):=by
 obtain⟨s',p',n',c',t',r',m',d',hv,h1,h2⟩:=h
 simp only[Value.agg.injEq,Array.mk.injEq,List.cons.injEq,and_true] at hv
 obtain⟨e1,e2,e3,e4⟩:=hv
 rw[e1,e2,e3,e4]
 exact⟨h1,h2⟩
theorem aQ.form {w:World} {v:Value} {q:Rat} (h:aQ w v q):∃ s p n c t r m d,v=.agg #[.bool s,.slice p n c,.bool t,.slice r m d]:=by
 obtain⟨s,p,n,c,t,r,m,d,hv,_⟩:=h
 exact⟨_,_,_,_,_,_,_,_,hv⟩
theorem aI.form {w:World} {B:Nat} {v:Value} {q:Rat} (h:aI w B v q):∃ s p n c t r m d,v=.agg #[.bool s,.slice p n c,.bool t,.slice r m d]:=h.rd.form
theorem tg {X Y:Int} (hY:0<Y):X.fdiv (Int.gcd X Y:Int)=(Rat.divInt X Y).num/\Y.fdiv (Int.gcd X Y:Int)=((Rat.divInt X Y).den:Int):=by
 have hg:(0:Int)<(Int.gcd X Y:Int):=by
  have:Int.gcd X Y≠0:=λe=>by have:=(Int.gcd_eq_zero_iff.1 e).2;omega
  omega
 rw[Rat.num_divInt,Rat.den_divInt,if_neg aa,dp hY,Int.one_mul,Int.gcd_comm Y X]
 refine⟨Int.fdiv_eq_ediv_of_nonneg _ aa,?_⟩
 rw[Int.fdiv_eq_ediv_of_nonneg _ aa,Int.natCast_ediv]
 congr 1
 omega
theorem low_neg {X Y:Int} (hY:Y<0):X.fdiv (-(Int.gcd X Y:Int))=(Rat.divInt X Y).num/\Y.fdiv (-(Int.gcd X Y:Int))=((Rat.divInt X Y).den:Int):=by
 have e:Rat.divInt X Y=Rat.divInt (-X) (-Y):=(Rat.neg_divInt_neg X Y).symm
 obtain⟨h1,h2⟩:=tg (X:= -X) (Y:= -Y) aa
 rw[Int.neg_gcd,Int.gcd_neg] at h1 h2
 rw[e,<-h1,<-h2]
 have fd:∀ a b:Int,(-a).fdiv b=a.fdiv (-b):=λa b=>by rw[<-Int.neg_fdiv_neg,Int.neg_neg]
 exact⟨(fd _ _).symm,(fd _ _).symm⟩
end
set_option maxRecDepth 4000
section
open Go.RowKit
attribute [local irreducible] ak VS
theorem jH (v:Value) (X:Int) (k:Nat) (w:World) (h:bq w v X k):
  Calls Tryz.prog 186 #[v] w λe w'=>∃ u,e=.returned u/\bd w' u X/\aw w w':=
 (oL v X k w w h (aw.refl w)).mono λe w' ⟨u,he,h1,h2⟩=>⟨u,he,h1.bt h2,h2⟩
theorem bd.row {w:World} {s:Bool} {p:Option Addr} {n c:Nat} {X:Int} (h:bd w (.agg #[.bool s,.slice p n c]) X):Rd w 1 (.slice p n c) n (ints .u32 (limbs X.natAbs)):=h.parts.2.1
theorem bd.n {w:World} {s:Bool} {p:Option Addr} {n c:Nat} {X:Int} (h:bd w (.agg #[.bool s,.slice p n c]) X):n=(limbs X.natAbs).length:=h.parts.1
theorem pY {s:Bool} {X:Int} (h:s=decide (X<0)):X=if s=true then-(X.natAbs:Int) else X.natAbs:=by
 subst h
 by_cases hx:X<0
 ·simp[hx];omega
 ·simp[hx];omega
theorem VO.cB {C:Cx} {F:Fr} {H:Hp} {w:World} {m:Option (List FuncId)} {full:Array Oper} {K:Fr->Hp->World->Prop} {o:Oper} {r:List Oper} {g:FuncId} {args:List AV} {vs:List Value} {v:Value} (e:stepOf C full F H o=.call (.fn g args)) (hv:fe args=some vs) (hf:jc C.P g) (con:∀ w1,aR C.K w w1->C.Old w1->Calls C.P g vs.toArray w1 λe w2=>e=.returned v/\aw w1 w2) (h:∀ w1,aR C.K w w1->C.Old w1->∀ w2,aw w1 w2->aR C.K w w2->aR C.K w1 w2->C.Old w2->ak C m full r K (F.bl o.dst (.val v)) H w2):ak C m full (o::r) K F H w:=
 VO.call e hv hf λw1 a b=>(con w1 a b).mono λ_ w2 x=>⟨v,x.1,x.2,h w1 a b w2 x.2⟩
theorem VO.cR {C:Cx} {F:Fr} {H:Hp} {w:World} {m:Option (List FuncId)} {full:Array Oper} {K:Fr->Hp->World->Prop} {o:Oper} {r:List Oper} {g:FuncId} {args:List AV} {vs:List Value} {Φ:World->World->Value->Prop} (e:stepOf C full F H o=.call (.fn g args)) (hv:fe args=some vs) (hf:jc C.P g) (con:∀ w1,aR C.K w w1->C.Old w1->Calls C.P g vs.toArray w1 λe w2=>∃ r,e=.returned r/\Φ w1 w2 r/\aw w1 w2) (h:∀ w1,aR C.K w w1->C.Old w1->∀ w2 (s:Bool) (p:Option Addr) (n c:Nat) (t:Bool) (y:Option Addr) (i j:Nat),Φ w1 w2 (.agg #[.bool s,.slice p n c,.bool t,.slice y i j])->aw w1 w2->aR C.K w w2->aR C.K w1 w2->C.Old w2->ak C m full r K (F.bl o.dst (.val (.agg #[.bool s,.slice p n c,.bool t,.slice y i j]))) H w2) (hΦ:∀ w1 w2 r,Φ w1 w2 r->∃ s p n c t y i j,r=.agg #[.bool s,.slice p n c,.bool t,.slice y i j]:=by exact λ_ _ _ h=>h.form):ak C m full (o::r) K F H w:=
 VO.call e hv hf λw1 a b=>(con w1 a b).mono λ_ w2 ⟨r,x1,x2,x3⟩=>by
   obtain⟨s,p,n,c,t,y,i,j,rfl⟩:=hΦ _ _ _ x2
   exact⟨_,x1,x3,h w1 a b w2 s p n c t y i j x2 x3⟩
theorem VO.cI {C:Cx} {F:Fr} {H:Hp} {w:World} {m:Option (List FuncId)} {full:Array Oper} {K:Fr->Hp->World->Prop} {o:Oper} {r:List Oper} {g:FuncId} {args:List AV} {vs:List Value} {Φ:World->World->Value->Prop} (e:stepOf C full F H o=.call (.fn g args)) (hv:fe args=some vs) (hf:jc C.P g) (con:∀ w1,aR C.K w w1->C.Old w1->Calls C.P g vs.toArray w1 λe w2=>∃ r,e=.returned r/\Φ w1 w2 r/\aw w1 w2) (h:∀ w1,aR C.K w w1->C.Old w1->∀ w2 (s:Bool) (p:Option Addr) (n c:Nat),Φ w1 w2 (.agg #[.bool s,.slice p n c])->aw w1 w2->aR C.K w w2->aR C.K w1 w2->C.Old w2->ak C m full r K (F.bl o.dst (.val (.agg #[.bool s,.slice p n c]))) H w2) (hΦ:∀ w1 w2 r,Φ w1 w2 r->∃ s p n c,r=.agg #[.bool s,.slice p n c]:=by exact λ_ _ _ h=>h.form):ak C m full (o::r) K F H w:=
 VO.call e hv hf λw1 a b=>(con w1 a b).mono λ_ w2 ⟨r,x1,x2,x3⟩=>by
   obtain⟨s,p,n,c,rfl⟩:=hΦ _ _ _ x2
   exact⟨_,x1,x3,h w1 a b w2 s p n c x2 x3⟩
theorem ab {P Q:Prop} (h:Q) (i:Q->P:=by intro h;(repeat first|refine wN ?_|refine wP rfl ?_|refine Gh rfl ?_|refine cx_d rfl ?_|refine wO rfl rfl ?_);exact h):P:=i h
theorem aH {P Q X:Prop} (hb:X) (h:Q) (i:X->Q->P:=by intro hb h;refine⟨_,rfl,hb,λa b c=>wV rfl ?_⟩;refine ab ?_;revert a b c;exact h):P:=i hb h
theorem az {P Q:Prop} (h:Q) (i:Q->P:=by intro h;exact VS.ret (cP _ _) rfl rfl h):P:=i h
theorem uG (v:Value) (X:Int) (j:Nat) (w:World) (hv:bq w v X j) (hj:j<=1073741824):
  Calls Tryz.prog 165 #[v] w λe w'=>∃ r,e=.returned r/\aj w' w.heap.size r (-X)/\aw w w':=by
 obtain⟨s,p,n,c,rfl⟩:=hv.form
 have hl:=hv.len
 refine ae (C:=aX Tryz.prog w _) (args:=[_]) Tryz.func165 rfl Tryz.ntmps165 (bG rfl) ?_
 refine ab ?_
 refine VO.call rfl rfl (fk Tryz.func186) (λaO bE ba=>(jH _ X j aO (hv.kp bE)).mono ?_)
 rintro e w1 ⟨r1,rfl,h1,aD⟩
 obtain⟨s1,p1,n1,c1,rfl⟩:=h1.fo
 refine aH aD ?_
 intro cj _ bb1
 refine VO.call rfl rfl (fk Tryz.func186) (λbk bX bF=>(jH _ X j bk (hv.kp ((cj).ax bX))).mono ?_)
 rintro e w2 ⟨r2,rfl,h2,aP⟩
 obtain⟨s2,p2,n2,c2,rfl⟩:=h2.fo
 refine aH aP ?_
 intro da _ bb2
 refine VO.cI rfl rfl (fk Tryz.func171) (λcX dh dS=>ic (!s1) _ n2 _ cX (h2.row.kp dh) (ai _) (by rw[h2.n];omega)) (λcX dh dS w3 s3 p3 n3 c3 h3 cw fi _ bb3=>wV rfl ?_)
 refine ab ?_
 refine az ?_;intro wz kz bz
 refine⟨_,rfl,aj.cast ((h3.kp kz).mono dS.size) ?_,bz⟩
 rw[ag]
 have:=pY h1.IB
 cases s1 <;> simp at this ⊢ <;> omega
theorem uH (v u:Value) (X Y:Int) (j k:Nat) (w:World) (hv:bq w v X j) (hu:bq w u Y k) (hj:j<=536870912) (hk:k<=536870911):
  Calls Tryz.prog 159 #[v,u] w λe w'=>∃ r,e=.returned r/\aj w' w.heap.size r (X+Y)/\aw w w':=by
 obtain⟨s,p,n,c,rfl⟩:=hv.form
 obtain⟨t,q,m,d,rfl⟩:=hu.form
 have qi:=hv.len
 have mi:=hu.len
 refine ae (C:=aX Tryz.prog w _) (args:=[_,_]) Tryz.func159 rfl Tryz.ntmps159 (bG rfl) ?_
 refine ab ?_
 refine VO.call rfl rfl (fk Tryz.func186) (λaO bE ba=>(jH _ X j aO (hv.kp bE)).mono ?_)
 rintro e w1 ⟨r1,rfl,h1,aD⟩
 obtain⟨s1,p1,n1,c1,rfl⟩:=h1.fo
 refine aH aD ?_
 intro cj _ bb1
 refine VO.call rfl rfl (fk Tryz.func186) (λbk bX bF=>(jH _ Y k bk (hu.kp ((cj).ax bX))).mono ?_)
 rintro e w2 ⟨r2,rfl,h2,aP⟩
 obtain⟨s2,p2,n2,c2,rfl⟩:=h2.fo
 refine aH aP ?_
 intro da _ bb2
 have e1:=pY h1.IB
 have e2:=pY h2.IB
 have Ij:n1<=536870912:=by rw[h1.n];omega
 have vM:n2<=536870911:=by rw[h2.n];omega
 by_cases hst:s1=s2
 ·subst hst
  refine VS.bg rfl cS ?_
  refine ab ?_
  refine VO.call rfl rfl (fk Tryz.func187) (λcX dh dS=>(Gj _ _ n1 n2 _ _ cX (h1.row.kp (bX.ax ((Kp.of aP).ax dh))) (h2.row.kp dh) (ai _) (ai _) aa aa).mono ?_)
  rintro e w3 ⟨v3,rfl,h3,cw⟩
  obtain⟨p3,c3,rfl,_⟩:=Own.form h3
  refine aH cw ?_
  intro fi _ bb3
  refine VO.cI rfl rfl (fk Tryz.func171) (λfN ig iV=>ic s1 _ _ _ fN (Rd.own (Own.kp h3 ig)) (ai _) (by have:=sum_len (a:=af (limbs X.natAbs)) (b:=af (limbs Y.natAbs)) (n:=n1) (m:=n2) (by rw[ag];exact h1.n) (by rw[ag];exact h2.n);omega)) (λfN ig iV w4 s4 p4 n4 c4 h4 gi lW _ uI=>wV rfl ?_)
  refine ab ?_
  refine az ?_;intro wz kz bz
  refine⟨_,rfl,aj.cast ((h4.kp kz).mono iV.size) ?_,bz⟩
  rw[ag,ag,ag]
  cases s1 <;> simp at e1 e2 ⊢ <;> omega
 ·refine VS.bo rfl (by simpa using hst) ?_
  refine ab ?_
  refine VO.call rfl rfl (fk Tryz.func188) (λcX dh dS=>(xa _ _ n1 n2 _ _ cX (h1.row.kp (bX.ax ((Kp.of aP).ax dh))) (h2.row.kp dh) (ai _) (ai _) aa aa).mono ?_)
  rintro e w3 ⟨h3,cw⟩
  rw[ag,ag] at h3
  rcases h3 with ⟨hlt,rfl⟩|⟨hle,v3,rfl,h3⟩
  ·refine aH cw ?_
   intro fi _ bb3
   refine VO.call rfl rfl (fk Tryz.func188) (λfN ig iV=>(xa _ _ n2 n1 _ _ fN (h2.row.kp (dh.ax ((Kp.of cw).ax ig))) (h1.row.kp (bX.ax ((Kp.of aP).ax (dh.ax ((Kp.of cw).ax ig))))) (ai _) (ai _) aa aa).mono ?_)
   rintro e w4 ⟨h4,gi⟩
   rw[ag,ag] at h4
   rcases h4 with ⟨hlt',rfl⟩|⟨hle',v4,rfl,h4⟩
   ·omega
   ·obtain⟨p4,c4,rfl,_⟩:=Own.form h4
    refine aH gi ?_
    intro lW _ uI
    refine VO.cI rfl rfl (fk Tryz.func171) (λim jl jm=>ic s2 _ _ _ im (Rd.own (Own.kp h4 jl)) (ai _) (by have:=bZ (show Y.natAbs-X.natAbs<=Y.natAbs by omega);omega)) (λim jl jm w5 s5 p5 n5 c5 h5 ja nZ _ yc=>wV rfl ?_)
    refine ab ?_
    refine az ?_;intro wz kz bz
    refine⟨_,rfl,aj.cast ((h5.kp kz).mono jm.size) ?_,bz⟩
    rw[ag]
    cases s1 <;> cases s2 <;> simp at e1 e2 hst ⊢ <;> omega
  ·obtain⟨p3,c3,rfl,_⟩:=Own.form h3
   refine aH cw ?_
   intro fi _ bb3
   refine VO.cI rfl rfl (fk Tryz.func171) (λim jl jm=>ic s1 _ _ _ im (Rd.own (Own.kp h3 jl)) (ai _) (by have:=bZ (show X.natAbs-Y.natAbs<=X.natAbs by omega);omega)) (λim jl jm w5 s5 p5 n5 c5 h5 ja nZ _ yc=>wV rfl ?_)
   refine ab ?_
   refine az ?_;intro wz kz bz
   refine⟨_,rfl,aj.cast ((h5.kp kz).mono jm.size) ?_,bz⟩
   rw[ag]
   cases s1 <;> cases s2 <;> simp at e1 e2 hst ⊢ <;> omega
theorem AA (v u:Value) (X Y:Int) (j k:Nat) (w:World) (hv:bq w v X j) (hu:bq w u Y k) (hj:j<=536870912) (hk:k<=536870911):
  Calls Tryz.prog 205 #[v,u] w λe w'=>∃ r,e=.returned r/\aj w' w.heap.size r (X-Y)/\aw w w':=by
 obtain⟨s,p,n,c,rfl⟩:=hv.form
 obtain⟨t,q,m,d,rfl⟩:=hu.form
 refine ae (C:=aX Tryz.prog w _) (args:=[_,_]) Tryz.func205 rfl Tryz.ntmps205 (bG rfl) ?_
 refine ab ?_
 refine VO.cI rfl rfl (fk Tryz.func165) (λaO bE ba=>uG _ Y k aO (hu.kp bE) aa) (λaO bE ba w1 s1 p1 n1 c1 h1 aD cj _ bb1=>wV rfl ?_)
 refine ab ?_
 refine VO.cI rfl rfl (fk Tryz.func159) (λbk bX bF=>uH _ _ X (-Y) j k bk (hv.kp ((cj).ax bX)) ((h1.kp bX).in (Sz.neg hu.len)) hj hk) (λbk bX bF w2 s2 p2 n2 c2 h2 aP da _ bb2=>wV rfl ?_)
 refine ab ?_
 refine az ?_;intro wz kz bz
 exact⟨_,rfl,aj.cast ((h2.kp kz).mono bF.size) (Int.sub_eq_add_neg).symm,bz⟩
end
section
open Go.RowKit
attribute [local irreducible] ak VS
set_option maxRecDepth 100000 in
theorem fH (p:Option Addr) (n c:Nat) (xs:List Nat) (w:World) (hr:Rd w 1 (.slice p n c) n (ints .i64 xs)) (hl:eW xs):
  Calls Tryz.prog 220 #[.slice p n c] w λe w'=>(∃ m,m<=n/\e=.returned (.slice p m c)/\halves (hval xs)=xs.take m)/\w=w':=by
 obtain⟨p',c',hv,dW,eJ,dR⟩:=hr.i64
 simp only[Value.slice.injEq,true_and] at hv
 obtain⟨rfl,rfl⟩:=hv
 have HX:Hid (xs.length=n):=dR
 clear dR
 refine aA λR' bf=> ?_
 go_enter Tryz.func220,Tryz.ntmps220
 go_wp2
 go_loop [0] (λv=>∃ m,m<=n/\v=.slice p m c/\hval (xs.take m)=hval xs) (λv=>match v with | .slice _ m _=>m|_=>0)
 case atStart=>exact⟨n,Nat.le_refl _,rfl,by rw[List.take_of_length_le (Nat.le_of_eq HX.out)]⟩
 case round=>
  obtain⟨m,hm,rfl,hv⟩:=hrel
  have HV:Hid (hval (xs.take m)=hval xs):=hv
  clear hv
  by_cases h0:m=0
  ·subst h0
   go_wp2
   exact bf.out _ _ ⟨⟨0,Nat.zero_le _,rfl,iL aa hl (Nat.zero_le _) HV.out (.inl rfl)⟩,rfl⟩
  ·obtain⟨b,off,x,rfl,hb,hx,hc⟩:=hr.cellAt (k:=m-1) aa
   have HI:Hid (xs[m-1]? =some x):=hx
   clear hx
   have h0':0<m:=by omega
   obtain⟨j,rfl⟩:∃ j,m=j+1:=⟨m-1,by omega⟩
   rw[Nat.add_sub_cancel] at hc
   by_cases nM:x=0
   ·subst nM
    go_wp2
    go_round
    case rel=>exact⟨j,by omega,rfl,(jx HI.out).symm.trans HV.out⟩
    case measure=>simp
   ·have hx0':((x:Int) == 0)=false:=by rw[beq_eq_false_iff_ne];omega
    go_wp2
    exact bf.out _ _ ⟨⟨j+1,hm,rfl,iL aa hl (by rw[HX.out];exact hm) HV.out (.inr ⟨x,HI.out,nM⟩)⟩,rfl⟩
set_option maxRecDepth 100000 in
theorem yd (va:Value) (n:Nat) (xs:List Nat) (w:World) (hr:Rd w 1 va n (ints .u32 xs)) (hl:bH xs) (hn:n<=1073741824):
  Calls Tryz.prog 191 #[va] w λe w'=>∃ v',e=.returned v'/\w'.ownsRow w.heap.size 3 1 v' (halves (af xs)).length (ints .i64 (halves (af xs)))/\Below w.heap.size w w':=by
 obtain⟨p,c,rfl,dW,eJ,dR⟩:=hr.u32
 obtain⟨i0,hi,jQ,kZ,lZ⟩:=info_parts tf
 obtain⟨B,hB⟩:∃ B,B=w.heap.size:=⟨_,rfl⟩
 have HB:=Lib.hid hB
 have Hr:=Lib.hid hr
 have HL:=Lib.hid hl
 have HX:=Lib.hid dR
 rw[<-hB]
 clear hr hl dR hB
 refine aA λR' bf=> ?_
 go_enter Tryz.func191,Tryz.ntmps191
 go_wp2
 go_loopw [3,4] (λov iv wr=>EB w B xs ov iv wr) (λ_ iv _=>n-(intOf iv).toNat)
 case atStart=>exact⟨0,[],Nat.zero_le _,rfl,rfl,dm.nil _,rfl,World.ownsRow_nil _ _ _ _,Below.refl _ _⟩
 case round=>
  obtain⟨k,hs,hk,rfl,hhl,hhh,hhv,au,hb⟩:=hrel
  have HK:=Lib.hid hk
  have HO:=Lib.hid au
  have HHL:=Lib.hid hhl
  have HHH:=Lib.hid hhh
  have HHV:=Lib.hid hhv
  have ft:=Lib.hid hb
  have sR:B<=wr.heap.size:=by have:=hb.size;have:=HB.out;omega
  have hkn':k<=n:=by rw[<-HX.out];exact hk
  clear hk au hhl hhh hhv hb
  by_cases ss:k<n
  ·obtain⟨b1,o1,x,rfl,aD,ey,hcw⟩:=Hr.out.cellAt ss
   have kj:=(ft.out.cell (p:=⟨b1,o1+k,none⟩) (by rw[HB.out];exact aD)).trans hcw
   have hne:=Hy HO.out (b:=b1) (by rw[HB.out];exact aD)
   have sS:=Lib.hid ey
   have ju:=HL.out.at ey
   have HNE:=Lib.hid hne
   have Hi:(0:Int)<=(k:Int):=by omega
   have oW:(k:Int)<(n:Int):=by omega
   clear ey hcw hne
   go_wp2_with fail
   go_region_held3 (λw'=>w'.cell? ⟨b1,o1+k,none⟩=some (.int .u32 (x:Int))) (first|exact kj|go_keep|exact vV uD kj HNE.out)
    ((refine mn (by rfl) _ _ 272 (by rfl) B 3 i0 (.int .i64 0) 1 8 Tryz.underlying272 hi jQ kZ lZ rfl aa _ (2*k) (ints .i64 hs) (by rfl) ((HO.out.alloc _).drew) _ 2 (ints .i64 [x%65536,x/65536]) (by rfl) (Rd.drew (Rd.lit2 (EC ju) (ED ju))) (ke .i64 [x%65536,x/65536]) (by unfold maxLen;omega) aa (by simp;omega) ?_;intro v1 w1 eF uD))
   have oU:=Lib.hid eF
   have HG1:=Lib.hid uD
   clear eF uD
   go_wp2_with fail
   go_roundw
   case rel=>
    have hst:=wY sS.out ju HHL.out HHH.out HHV.out
    exact⟨k+1,hs++[x%65536,x/65536],by rw[HX.out];omega,by go_num,by simp[HHL.out];omega,hst.1,hst.2,by rw[fE];exact oU.out,Below.behind ft.out sR HG1.out HO.out (Nat.le_refl _)⟩
   case measure=>simp[intOf];omega
  ·obtain rfl:k=n:=by omega
   obtain⟨p1,c1,BO,_,_,_⟩:=Own.form HO.out
   have HV1:=Lib.hid BO
   have og:Hid (hval hs=af xs):=by show _=_;rw[HHV.out,aV (Nat.le_of_eq HX.out)]
   subst BO
   go_wp2_with fail
   refine (fH p1 (2*k) c1 hs _ (Rd.own HO.out) HHH.out).mono ?_
   rintro e w2 ⟨⟨m,hm,rfl,vz⟩,rfl⟩
   have HC:=Own.cut HO.out hm vz
   rw[og.out] at HC
   have HC1:=Lib.hid HC.1
   have HC2:=Lib.hid HC.2
   clear HC vz
   go_wp2_with fail
   refine bf.out _ _ ⟨_,rfl,?_,ft.out⟩
   have:=HC1.out
   rw[<-HC2.out] at this ⊢
   exact this
theorem Jz {n:Int} (h0: -9223372036854775808<=n) (h1:n<=9223372036854775807):qx (n.tmod 4294967296) [IntKind.i64.wrap (0-n.tmod 4294967296)]=((n.natAbs%4294967296:Nat):Int):=by
 have e:(n.tmod 4294967296).natAbs=n.natAbs%4294967296:=by rw[Int.natAbs_tmod];rfl
 have hs:(0<=n->0<=n.tmod 4294967296):=λh=>Int.tmod_nonneg _ h
 have hs':(n<=0->n.tmod 4294967296<=0):=λh=>by have:=Int.tmod_nonneg 4294967296 (show 0<=-n by omega);rw[Int.neg_tmod] at this;omega
 rw[IntWalk.i64_in _ aa]
 unfold qx qx
 split <;> omega
theorem JA {n:Int} (h0: -9223372036854775808<=n) (h1:n<=9223372036854775807):qx (IntKind.i64.wrap (n.tdiv 4294967296)) [IntKind.i64.wrap (0-IntKind.i64.wrap (n.tdiv 4294967296))]=((n.natAbs/4294967296:Nat):Int):=by
 have e:(n.tdiv 4294967296).natAbs=n.natAbs/4294967296:=by rw[Int.natAbs_tdiv];rfl
 have hs:(0<=n->0<=n.tdiv 4294967296):=λh=>Int.tdiv_nonneg h aa
 have hs':(n<=0->n.tdiv 4294967296<=0):=λh=>by have:=Int.tdiv_nonneg (show 0<=-n by omega) (show (0:Int)<=4294967296 by omega);rw[Int.neg_tdiv] at this;omega
 have hb:n.natAbs/4294967296<=2147483648:=by omega
 rw[IntWalk.i64_in (n.tdiv 4294967296) aa,IntWalk.i64_in _ aa]
 unfold qx qx
 split <;> omega
theorem EG {x:Nat} (h:x<4294967296):IntKind.u32.wrap (x:Int)=(x:Int):=by rw[IntKind.wrap_u32',Int.emod_eq_of_lt aa aa]
theorem ny (n:Int) (w:World) (h0: -9223372036854775808<=n) (h1:n<=9223372036854775807):
  Calls Tryz.prog 136 #[.int .i64 n] w λe w'=>∃ r,e=.returned r/\aj w' w.heap.size r n/\aw w w':=by
 have e1:=Jz h0 h1
 have e2:=JA h0 h1
 have g1:=Nat.mod_lt n.natAbs (show 0<4294967296 by omega)
 have g2:n.natAbs/4294967296<4294967296:=by omega
 refine ae (C:=aX Tryz.prog w _) (args:=[_]) Tryz.func136 rfl Tryz.ntmps136 (bG rfl) ?_
 refine ab ?_
 refine VO.lit (cP _ _) [.int .u32 (IntKind.u32.wrap (qx (n.tmod 4294967296) [IntKind.i64.wrap (0-n.tmod 4294967296)])),.int .u32 (IntKind.u32.wrap (qx (IntKind.i64.wrap (n.tdiv 4294967296)) [IntKind.i64.wrap (0-IntKind.i64.wrap (n.tdiv 4294967296))]))] rfl rfl rfl rfl rfl rfl rfl rfl rfl aa (λw2 b k2 b2 ho=>wV rfl ?_)
 rw[e1,e2,EG g1,EG g2] at ho
 refine VO.cI rfl rfl (fk Tryz.func171) (λcX dh dS=>ic (decide (n<0)) _ 2 [n.natAbs%4294967296,n.natAbs/4294967296] cX (Rd.own (Own.kp (cs:=ints .u32 [n.natAbs%4294967296,n.natAbs/4294967296]) ho dh)) (dm.cons g1 (dm.cons g2 (dm.nil _))) aa) (λcX dh dS w3 s3 p3 n3 c3 h3 cw fi _ bb3=>wV rfl ?_)
 refine ab ?_
 refine az ?_;intro wz kz bz
 refine⟨_,rfl,aj.cast ((h3.kp kz).mono dS.size) ?_,bz⟩
 rw[dV,dV,cZ]
 by_cases hn:n<0
 ·simp only[hn,decide_true,if_true];omega
 ·simp only[hn,decide_false];simp;omega
end
section
open Go.RowKit
def lv (ls:List Nat) (k j:Nat):Nat:=(if 2*j<k then ls.getD (2*j) 0 else 0)+65536*(if 2*j+1<k then ls.getD (2*j+1) 0 else 0)
def vw (ls:List Nat) (m k:Nat):List Nat:=(List.range m).map (lv ls k)
theorem JB (ls:List Nat) (m:Nat):vw ls m 0=List.replicate m 0:=by
 apply List.ext_getElem
 ·simp[vw]
 ·intro i h1 h2;simp[vw,lv]
theorem JC {ls:List Nat} {m j x:Nat} (hx:ls[2*j]? =some x):(vw ls m (2*j)).set j x=vw ls m (2*j+1):=by
 apply List.ext_getElem
 ·simp[vw]
 ·intro i h1 h2
  simp only[vw,List.getElem_set,List.getElem_map,List.getElem_range]
  by_cases e:j=i
  ·subst e
   rw[if_pos rfl]
   unfold lv
   rw[if_pos aa,if_neg aa,List.getD_eq_getElem?_getD,hx];rfl
  ·rw[if_neg e]
   unfold lv
   congr 1
   ·by_cases h:2*i<2*j
    ·rw[if_pos h,if_pos aa]
    ·rw[if_neg h,if_neg aa]
   ·by_cases h:2*i+1<2*j
    ·rw[if_pos h,if_pos aa]
    ·rw[if_neg h,if_neg aa]
theorem lds_odd {ls:List Nat} {m j x y:Nat} (hy:(vw ls m (2*j+1))[j]? =some y) (hx:ls[2*j+1]? =some x):(vw ls m (2*j+1)).set j (y+65536*x)=vw ls m (2*j+2):=by
 have hy':y=ls.getD (2*j) 0:=by
  obtain⟨h,rfl⟩:=List.getElem?_eq_some_iff.1 hy
  simp only[vw,List.getElem_map,List.getElem_range]
  unfold lv
  rw[if_pos aa,if_neg aa];rfl
 apply List.ext_getElem
 ·simp[vw]
 ·intro i h1 h2
  simp only[vw,List.getElem_set,List.getElem_map,List.getElem_range]
  by_cases e:j=i
  ·subst e
   rw[if_pos rfl]
   unfold lv
   rw[if_pos aa,if_pos aa,hy']
   congr 2
   rw[List.getD_eq_getElem?_getD,hx];rfl
  ·rw[if_neg e]
   unfold lv
   congr 1
   ·by_cases h:2*i<2*j+1
    ·rw[if_pos h,if_pos aa]
    ·rw[if_neg h,if_neg aa]
   ·by_cases h:2*i+1<2*j+1
    ·rw[if_pos h,if_pos aa]
    ·rw[if_neg h,if_neg aa]
theorem lds_end {ls:List Nat} (h:eW ls) {m:Nat} (hm:ls.length<=2*m):af (vw ls m ls.length)=hval ls/\bH (vw ls m ls.length):=by
 have hb:∀ k,ls.getD k 0<65536:=λk=>iU h k
 have vD:∀ j,lv ls ls.length j=ls.getD (2*j) 0+65536*ls.getD (2*j+1) 0:=λj=>by
  unfold lv
  congr 1
  ·split
   ·rfl
   ·rw[fG aa]
  ·split
   ·rfl
   ·rw[fG aa]
 constructor
 ·have key:∀ j,j<=m->af ((vw ls m ls.length).take j)=hval (ls.take (2*j)):=by
   intro j
   induction j with
   | zero=>intro _;rfl
   | succ j ih=>
     intro hj
     rw[aJ,ih aa]
     have e:(vw ls m ls.length).getD j 0=ls.getD (2*j) 0+65536*ls.getD (2*j+1) 0:=by
      rw[List.getD_eq_getElem?_getD]
      simp[vw,show j<m by omega,vD]
     rw[e]
     show _=val 65536 (ls.take (2*j+1+1))
     rw[bB,bB,Nat.mul_add,<-Nat.mul_assoc,Nat.pow_succ 65536 (2*j),Nat.pow_mul]
     show val 65536 _+_=_
     rw[Nat.add_assoc]
  have:=key m (Nat.le_refl _)
  rw[List.take_of_length_le (by simp[vw]),List.take_of_length_le hm] at this
  exact this
 ·intro x hx
  obtain⟨j,_,rfl⟩:=List.mem_map.1 hx
  rw[vD]
  have:=hb (2*j)
  have:=hb (2*j+1)
  omega
def Gk (w:World) (B g m:Nat) (ls:List Nat) (iv:Value) (wr:World):Prop:=
 ∃ k,k<=ls.length/\iv=.int .i64 (k:Int)/\wr.ownsRow B 191 1 (.slice (some ⟨g,0,none⟩) m m) m (ints .u32 (vw ls m k))/\Below B w wr
set_option maxRecDepth 100000 in
theorem AB (va:Value) (n:Nat) (ls:List Nat) (w:World) (hr:Rd w 1 va n (ints .i64 ls)) (hl:eW ls) (hn:n<=2147483656):
  Calls Tryz.prog 189 #[va] w λe w'=>∃ v' xs,e=.returned v'/\xs.length=(n+1)/2/\w'.ownsRow w.heap.size 191 1 v' ((n+1)/2) (ints .u32 xs)/\af xs=hval ls/\bH xs/\Below w.heap.size w w':=by
 obtain⟨p,c,rfl,dW,eJ,dR⟩:=hr.i64
 obtain⟨i0,hi,jQ,kZ,lZ⟩:=info_parts gQ
 obtain⟨B,hB⟩:∃ B,B=w.heap.size:=⟨_,rfl⟩
 have HB:=Lib.hid hB
 have Hr:=Lib.hid hr
 have HL:=Lib.hid hl
 have HX:=Lib.hid dR
 obtain⟨m,hm⟩:∃ m,m=(n+1)/2:=⟨_,rfl⟩
 have HM:=Lib.hid hm
 have hmn:n<=2*m:=by omega
 have hmb:m<=1073741828:=by omega
 have hq:((n:Int)+1)/2=(m:Int):=by omega
 rw[<-hB,<-hm]
 clear hr hl dR hB hm
 refine aA λR' bf=> ?_
 go_enter Tryz.func189,Tryz.ntmps189
 go_wp2_with (at_make;refine wpList_make_full _ rfl _ _ 30 rfl B 191 i0 (.int .u32 0) 1 Tryz.underlying30 hi jQ kZ .i64 .i64 _ _ m rfl rfl hq hq (by rw[lZ];omega) (by unfold maxLen;omega) (Nat.le_of_eq HB.out) ?_;intro w1 au yS)
 have Ca:=Lib.hid (Own.made au)
 have Hb1:Hid (Below B w w1):=(Below.refl _ _).grown yS (Nat.le_of_eq HB.out) (λk hk=>by cases hk)
 clear au yS hq
 go_wp2_with fail
 go_loopw [4] (λiv wr=>Gk w B w.heap.size m ls iv wr) (λiv _=>n-(intOf iv).toNat)
 case atStart=>exact⟨0,Nat.zero_le _,rfl,by rw[JB];have:=Ca.out;rw[List.nil_append] at this;exact this,Hb1.out⟩
 case round=>
  obtain⟨k,hk,rfl,au,hb⟩:=hrel
  have lV:=Lib.hid au
  have mr:=Lib.hid hb
  have ss:k<=n:=by rw[<-HX.out];exact hk
  clear au hb hk
  by_cases hlt:k<n
  ·obtain⟨b1,o1,x,rfl,aD,ey,hcw⟩:=Hr.out.cellAt hlt
   have kj:=(mr.out.cell (p:=⟨b1,o1+k,none⟩) (by rw[HB.out];exact aD)).trans hcw
   have ju:=HL.out.at ey
   have sS:=Lib.hid ey
   obtain⟨j,hj⟩:∃ j,j=k/2:=⟨_,rfl⟩
   have Gl:(k:Int)/2=(j:Int):=by omega
   have hjm:j<m:=by omega
   obtain⟨z,hz,hcell,vA⟩:=Own.fm lV.out (j:=j) hjm
   have HZ:=Lib.hid hz
   have hw4:(x:Int)%4294967296=(x:Int):=by omega
   have hj0:(0:Int)<=(j:Int):=by omega
   have hj1:(j:Int)<(m:Int):=by omega
   have Hi:(0:Int)<=(k:Int):=by omega
   have oW:(k:Int)<(n:Int):=by omega
   by_cases he:k%2=0
   ·have hke:((k:Int)%2 == 0)=true:=by rw[beq_iff_eq];omega
    have HK:Hid (k=2*j):=by show _=_;omega
    clear ey hcw he hj hz
    go_wp2_with fail
    go_roundw
    case rel=>
     refine⟨k+1,by rw[HX.out];omega,by go_num,?_,mr.out.setCell (Own.lt lV.out).1 _⟩
     have h1:=Own.eU (j:=j) (x:=x) lV.out
     rw[HK.out,JC (by rw[<-HK.out];exact sS.out)] at h1
     rw[HK.out]
     simpa using h1
    case measure=>simp[intOf];omega
   ·have hke:((k:Int)%2 == 0)=false:=by rw[beq_eq_false_iff_ne];omega
    have HK:Hid (k=2*j+1):=by show _=_;omega
    have hz4:z<65536:=by
     have:=HZ.out
     rw[HK.out] at this
     obtain⟨h,rfl⟩:=List.getElem?_eq_some_iff.1 this
     simp only[vw,List.getElem_map,List.getElem_range]
     unfold lv
     rw[if_pos aa,if_neg aa]
     exact iU HL.out _
    have hw5:IntKind.u32.wrap (z+IntKind.u32.wrap (65536*(x:Int)))=((z+65536*x:Nat):Int):=by
     rw[IntKind.wrap_u32',IntKind.wrap_u32'];omega
    clear ey hcw he hj hz
    go_wp2
    go_region
    all_goals
     go_wp2_with fail
     go_roundw
     case rel=>
      refine⟨k+1,by rw[HX.out];omega,by go_num,?_,(mr.out.setCell (Own.lt lV.out).1 _).drew⟩
      have h1:=Own.eU (j:=j) (x:=z+65536*x) lV.out
      rw[HK.out,lds_odd (by have:=HZ.out;rw[HK.out] at this;exact this) (by rw[<-HK.out];exact sS.out)] at h1
      rw[HK.out]
      have h2:(((z+65536*x:Nat):Int))=(z:Int)+65536*(x:Int):=by omega
      rw[h2] at h1
      exact h1
     case measure=>simp[intOf];omega
  ·obtain rfl:k=n:=by omega
   obtain⟨e1,e2⟩:=lds_end HL.out (m:=m) (by rw[HX.out];exact hmn)
   rw[HX.out] at e1 e2
   have E1:=Lib.hid e1
   have E2:=Lib.hid e2
   clear e1 e2
   go_wp2_with fail
   exact bf.out _ _ ⟨_,_,rfl,by simp[vw],lV.out,E1.out,E2.out,mr.out⟩
end
section
open Go.RowKit
theorem val_set {B:Nat} {xs:List Nat} {j o v:Nat} (h:xs[j]? =some o):val B (xs.set j v)+B^j*o=val B xs+B^j*v:=by
 obtain⟨hl,he⟩:=List.getElem?_eq_some_iff.1 h
 have h1:xs=xs.take j++o::xs.drop (j+1):=by rw[<-he,<-List.drop_eq_getElem_cons hl,List.take_append_drop]
 have h2:xs.set j v=xs.take j++v::xs.drop (j+1):=by
  conv=>lhs;rw[h1]
  rw[List.set_append_right _ _ (by rw[List.length_take];omega)]
  rw[List.length_take,Nat.min_eq_left aa,Nat.sub_self];rfl
 have e1:val B xs=val B (xs.take j)+B^j*(o+B*val B (xs.drop (j+1))):=by
  conv=>lhs;rw[h1]
  rw[gp,List.length_take,Nat.min_eq_left aa,fj]
 have e2:val B (xs.set j v)=val B (xs.take j)+B^j*(v+B*val B (xs.drop (j+1))):=by
  rw[h2,gp,List.length_take,Nat.min_eq_left aa,fj]
 rw[e1,e2,Nat.mul_add,Nat.mul_add]
 omega
theorem eW.set {xs:List Nat} (h:eW xs) {v:Nat} (hv:v<65536) (j:Nat):eW (xs.set j v):=λy hy=>by
 rcases List.mem_or_eq_of_mem_set hy with h1|h1
 ·exact h y h1
 ·rw[h1];exact hv
theorem pZ {os:List Nat} {i k x y o c s S Y:Nat} (ho:os[i+k]? =some o) (hs:s=x*y+o+c) (h:hval os+65536^(i+k)*c=S+65536^i*(x*Y)):
  hval (os.set (i+k) (s%65536))+65536^(i+(k+1))*(s/65536)=S+65536^i*(x*(Y+65536^k*y)):=by
 have h1:hval (os.set (i+k) (s%65536))+65536^(i+k)*o=hval os+65536^(i+k)*(s%65536):=val_set ho
 have h2:65536^(i+(k+1))=65536^(i+k)*65536:=by rw[<-Nat.add_assoc,Nat.pow_succ]
 have h3:65536^(i+k)*s=65536^(i+k)*(s%65536)+65536^(i+k)*65536*(s/65536):=by
  rw[Nat.mul_assoc,<-Nat.mul_add,Nat.mod_add_div]
 have h4:65536^(i+k)*s=65536^(i+k)*(x*y)+65536^(i+k)*o+65536^(i+k)*c:=by rw[hs,Nat.mul_add,Nat.mul_add]
 have h5:65536^i*(x*(Y+65536^k*y))=65536^i*(x*Y)+65536^(i+k)*(x*y):=by
  rw[Nat.mul_add,Nat.mul_add,Nat.pow_add]
  congr 1
  rw[Nat.mul_left_comm x,Nat.mul_assoc]
 rw[h2,h5]
 omega
def iv (xs:List Nat):List AV:=(ints .i64 xs).map .val
theorem bD (xs:List Nat):(iv xs).length=xs.length:=by simp[iv]
theorem JD {xs:List Nat} {j x:Nat} (h:xs[j]? =some x):(iv xs)[j]? =some (.val (.int .i64 (x:Int))):=by
 unfold iv
 rw[List.getElem?_map,oZ h];rfl
theorem nz (xs ys:List Nat):iv (xs++ys)=iv xs++iv ys:=by simp[iv,fE]
theorem kI (xs:List Nat):(iv xs).all aB=true:=cV (List.all_eq_true.2 λu hu=>by obtain⟨_,_,rfl⟩:=List.mem_map.1 hu;rfl)
theorem EH (xs:List Nat):(ints .i64 xs).all aL=true:=List.all_eq_true.2 λu hu=>by obtain⟨_,_,rfl⟩:=List.mem_map.1 hu;rfl
theorem aZ (xs:List Nat):aF (iv xs)=[]:=ah _
theorem uJ:∀ n:Nat,ir n [.val (.int .i64 0)]=iv (List.replicate n 0)
 | 0=>rfl
 | n+1=>by rw[ir,uJ n,List.replicate_succ];rfl
theorem iv_peek {xs:List Nat} {spare:List AV} {j x o:Nat} (h:xs[j]? =some x) (ho:o=j):∀ i u,[AV.val (.int .i64 (x:Int))][i]? =some u->(iv xs++spare)[o+i]? =some u:=by
 subst ho
 intro i u hu
 cases i with
 | zero=>
   cases hu
   have hl:=(List.getElem?_eq_some_iff.1 (JD h)).1
   rw[Nat.add_zero,List.getElem?_append_left hl,JD h]
 | succ i=>cases hu
theorem qa {xs:List Nat} {j x o:Nat} (h:xs[j]? =some x) (ho:o=j):∀ i u,[AV.val (.int .i64 (x:Int))][i]? =some u->(iv xs)[o+i]? =some u:=by
 have:=iv_peek (spare:=[]) h ho
 simpa using this
theorem th {xs:List Nat} {j x o:Nat} (h:j<xs.length) (ho:o=j):(iv xs).take o++([AV.val (.int .i64 (x:Int))]++(iv xs).drop (o+1))=iv (xs.set j x):=by
 subst ho
 have:iv (xs.set o x)=(iv xs).set o (.val (.int .i64 (x:Int))):=by simp[iv,<-ints_set,List.map_set]
 rw[this,List.set_eq_take_append_cons_drop,if_pos (by rw[bD];exact h)]
 rfl
theorem jI {C:Cx} {β:Nat->Nat} {w:World} {i n c:Nat} {t:TypeId} {xs:List Nat} {spare:List AV} (h:jd C β w i t (iv xs++spare)) (hn:xs.length=n) (dW:n<=c) (eJ:c<=maxLen):Rd w 1 (.slice (some ⟨β i,0,none⟩) n c) n (ints .i64 xs):=by
 refine⟨_,c,rfl,dW,eJ,by simp[hn],λ_=>⟨_,_,rfl,λj u hj=> ?_⟩⟩
 have hl:=(List.getElem?_eq_some_iff.1 hj).1
 refine h.cls.cell ?_
 rw[Nat.zero_add]
 simp only[List.map_append,List.getElem?_toArray]
 rw[List.getElem?_append_left (by simpa [iv] using hl)]
 unfold iv
 rw[aN]
 exact hj
def dY (w:World) (B:Nat) (v:Value) (n:Nat) (xs:List Nat):Prop:=
 xs.length=n/\((v=.slice none 0 0/\n=0)\/∃ b c spare,v=.slice (some ⟨b,0,none⟩) n c/\B<=b/\aW w b 3 (ints .i64 xs++spare).toArray/\n<=c/\c<=maxLen/\n+spare.length=c/\spare.all aL=true)
theorem dY.own {w:World} {B:Nat} {v:Value} {n:Nat} {xs:List Nat} (h:dY w B v n xs):w.ownsRow B 3 1 v n (ints .i64 xs):=by
 obtain⟨hn,⟨rfl,rfl⟩|⟨b,c,spare,rfl,hB,hc,h1,h2,h3,_⟩⟩:=h
 ·rw[List.eq_nil_of_length_eq_zero hn];exact World.ownsRow_nil _ _ _ _
 ·refine⟨by simp[hn],.inr ⟨b,c,_,rfl,hB,hc,h1,h2,by simp[hn,h3],?_⟩⟩
  rw[List.take_append_of_le_length (by simp[hn]),List.take_of_length_le (by simp[hn])]
theorem dY.new {C:Cx} {w:World} {B:Nat} {v:Value} {n:Nat} {xs:List Nat} (h:dY w B v n xs):Je C 3 1 B w v n (ints .i64 xs):=by
 obtain⟨hn,⟨rfl,rfl⟩|⟨b,c,spare,rfl,hB,hc,h1,h2,h3,h4⟩⟩:=h
 ·exact .inl ⟨rfl,rfl,by rw[List.eq_nil_of_length_eq_zero hn];rfl⟩
 ·exact .inr ⟨b,c,spare,rfl,hB,hc,EH xs,h4,h1,by simpa [maxLen] using h2,by simp;omega⟩
theorem dY.nil (w:World) (B:Nat):dY w B (.slice none 0 0) 0 []:=⟨rfl,.inl ⟨rfl,rfl⟩⟩
theorem mU {C:Cx} {β:Nat->Nat} {w:World} {i n m c:Nat} {xs:List Nat} {spare:List AV} (h:jd C β w i 3 (iv xs++spare)) (hn:xs.length=n) (hm:m<=n) (dW:n<=c) (eJ:c<=maxLen) (hl:xs.length+spare.length=c) (hnw:∀ i g,C.tZ i g->C.w0.heap.size<=g:=by exact λ_ _ h=>h):
  dY w C.w0.heap.size (.slice (some ⟨β i,0,none⟩) m c) m (xs.take m):=by
 refine⟨by rw[List.length_take];omega,.inr ⟨β i,c,ints .i64 (xs.drop m)++spare.map (AV.leaf β),rfl,hnw _ _ h.new,?_,by omega,eJ,by simp;omega,?_⟩⟩
 ·have:=h.cls
  rw[List.map_append] at this
  unfold iv at this
  rw[aN] at this
  rw[<-List.append_assoc,<-fE,List.take_append_drop]
  exact this
 ·have hk:=h.ok
  rw[List.all_append,Bool.and_eq_true] at hk
  rw[List.all_append,EH,dT hk.2];rfl
theorem eX {C:Cx} {β:Nat->Nat} {w:World} {i:Nat} {t:TypeId} {cs news rest:List AV} (h:jd C β w i t cs) (e:cs=news++rest):∀ j u,(news.map (AV.leaf β))[j]? =some u->w.cell? ⟨β i,0+j,none⟩=some u:=by
 intro j u hj
 have hl:=(List.getElem?_eq_some_iff.1 hj).1
 refine h.cls.cell ?_
 rw[e,Nat.zero_add,List.map_append]
 simp only[List.getElem?_toArray]
 rw[List.getElem?_append_left hl]
 exact hj
theorem dv {cs:List AV} (h:aF cs=[]) (i:Nat) (ρ:AV->Value):cs.map (AV.oV i ρ)=cs:=by
 induction cs with
 | nil=>rfl
 | cons x r ih=>
   rw[aF,List.append_eq_nil_iff] at h
   rw[List.map_cons,ih h.2]
   have:x.oV i ρ=x:=by unfold AV.oV;rw[h.1];rfl
   rw[this]
theorem JE (i:Nat) (ρ:AV->Value) (xs:List Nat):(iv xs).map (AV.oV i ρ)=iv xs:=dv (aZ xs) i ρ
theorem tj {xs:List Nat} {m n:Nat} (h:halves (hval xs)=xs.take m) (hm:m<=n) (hn:xs.length=n):m=(halves (hval xs)).length:=by rw[h,List.length_take];omega
end
end Go.Proofs.YtlfdmhfhkgpmbaaGreat
