/-Dz of the proof,laid behind one another. -/
import Derived.Test.YtlfdmhfhkgpmbaaGreatKAdjustSums2
set_option linter.all false
set_option maxHeartbeats 64000000
namespace Go.Proofs.YtlfdmhfhkgpmbaaGreat
section
open Go.RowKit Go.MapKept
structure yI (ad:List Nat) (w w':World):Prop where
 os:w'.os=w.os
 tape:w'.tape=w.tape
 output:w'.output=w.output
 size:w.heap.size<=w'.heap.size
 nS:∀ g,g<w.heap.size->g∉ad->w'.heap[g]? =w.heap[g]?
theorem yI.of {ad:List Nat} {w w':World} (h:ax w w'):yI ad w w':=⟨h.os,h.tape,h.output,h.size,λg hg _=>Below.block h g hg⟩
theorem yI.aA {ad:List Nat} {a b c:World} (h:yI ad a b) (k:yI ad b c):yI ad a c:=
 ⟨k.os.trans h.os,k.tape.trans h.tape,k.output.trans h.output,Nat.le_trans h.size k.size,λg hg hn=>(k.nS g (Nat.lt_of_lt_of_le hg h.size) hn).trans (h.nS g hg hn)⟩
def jZ (K:KC) (ad:List Nat) (w:World):Prop:=∀ g∈ad,∃ t cs,aW w g t (List.toArray cs)/\K.fz t=false/\cs.all aN=true
theorem yI.kp {K:KC} {ad:List Nat} {w w':World} (h:yI ad w w') (ha:jZ K ad w):aY K w w':=by
 have no:∀ g,g∈ad->∀ o,w.heap[g]? =some o->∃ t cs,o=Obj.cells (List.toArray cs) t/\K.fz t=false/\cs.all aN=true:=λg hg o ho=>by
  obtain⟨t,cs,h1,h2,h3⟩:=ha g hg
  have:=(show w.heap[g]? =_ from h1).symm.trans ho
  cases this
  exact⟨t,cs,rfl,h2,h3⟩
 refine⟨h.size,λa x _ hx=> ?_,λt g cur hf _ hg=> ?_,λg es c hg=> ?_⟩
 ·have hlt:=World.block_lt_of_cell? w a hx
  by_cases hm:a.block∈ad
  ·obtain⟨t,cs,h1,h2,h3⟩:=ha _ hm
   exfalso
   have hx':=hx
   simp only[World.cell?,show w.heap[a.block]? =_ from h1] at hx'
   simp at hx'
   have:=List.all_eq_true.1 h3 _ (List.mem_of_getElem? hx'.2)
   cases this
  ·rw[World.cell?_of_block (w:=w) (h.nS _ hlt hm)];exact hx
 ·refine (h.nS g (Array.getElem?_eq_some_iff.1 hg).1 λhm=> ?_).trans hg
  obtain⟨t',cs,e,h2,_⟩:=no g hm _ hg
  cases e
  rw[h2] at hf;cases hf
 ·refine (h.nS g (Array.getElem?_eq_some_iff.1 hg).1 λhm=> ?_).trans hg
  obtain⟨t',cs,e,_⟩:=no g hm _ hg
  cases e
def iy (N:Nat) (ad:List Nat) (w0:World) (i g:Nat):Prop:=if 2*N<=i then ad[i-2*N]? =some g else (w0.heap.size<=g\/g∈ad)
def vV (K:KC) (ad:List Nat) (w0 w:World):Prop:=yI ad w0 w/\jZ K ad w
theorem jZ.lt {K:KC} {ad:List Nat} {w:World} (h:jZ K ad w) {g:Nat} (hg:g∈ad):g<w.heap.size:=by
 obtain⟨t,cs,h1,_⟩:=h g hg
 exact h1.lt
theorem newA_ad {N:Nat} {ad:List Nat} {w0:World} {g:Nat} (h:g∈ad):∃ i,iy N ad w0 i g:=by
 obtain⟨j,hj⟩:=List.mem_iff_getElem?.1 h
 exact⟨2*N+j,by unfold iy;rw[if_pos aa,Nat.add_sub_cancel_left];exact hj⟩
theorem kX {N:Nat} {ad:List Nat} {w0:World} {i g:Nat} (h:iy N ad w0 i g):w0.heap.size<=g\/g∈ad:=by
 unfold iy at h
 split at h
 ·exact .inr (List.mem_of_getElem? h)
 ·exact h
theorem Fz {K:KC} {N:Nat} {ad:List Nat} {w0 w w':World} (h0:jZ K ad w0) (h:vV K ad w0 w) (keep:∀ b,b<w0.heap.size->K.S b) (s:Stp K (iy N ad w0) w w'):vV K ad w0 w':=by
 obtain⟨h1,h2⟩:=h
 refine⟨⟨s.os.trans h1.os,s.tape.trans h1.tape,s.output.trans h1.output,Nat.le_trans h1.size s.size,λg hg hn=> ?_⟩,λg hg=> ?_⟩
 ·rcases s.nS g (Nat.lt_of_lt_of_le hg h1.size) with e|⟨⟨i,hi⟩,_⟩|e
  ·exact e.trans (h1.nS g hg hn)
  ·rcases kX hi with e|e
   ·omega
   ·exact absurd e hn
  ·exact absurd (keep g hg) e
 ·rcases s.nS g (h2.lt hg) with e|⟨_,t,cs,g1,g2,g3⟩|e
  ·obtain⟨t,cs,g1,g2,g3⟩:=h2 g hg
   exact⟨t,cs,e.trans g1,g2,g3⟩
  ·exact⟨t,cs,g1,g2,g3⟩
  ·exact absurd (keep g (h0.lt hg)) e
theorem FA {K:KC} {N:Nat} {ad:List Nat} {w0 w:World} {a:Addr} {u:Value} (h:vV K ad w0 w) (hn:∀ i,¬ iy N ad w0 i a.block) (hc:w0.cell? a=some u):w.cell? a=some u:=by
 rw[World.cell?_of_block (w:=w0) (h.1.nS _ (World.block_lt_of_cell? w0 a hc) λhm=>by
  obtain⟨i,hi⟩:=newA_ad (N:=N) (w0:=w0) hm
  exact hn i hi)]
 exact hc
theorem DZ {N:Nat} {ad:List Nat} {w0:World} {i g:Nat} (hi:i<2*N) (hg:w0.heap.size<=g):iy N ad w0 i g:=by
 unfold iy;rw[if_neg aa];exact .inl hg
theorem newA_mv {N:Nat} {ad:List Nat} {w0:World} {i j g:Nat} (h:iy N ad w0 i g) (hj:j<2*N):iy N ad w0 j g:=by
 have:=kX h
 unfold iy;rw[if_neg aa];exact this
def kM (w:World) (g:Nat) (o:Obj):World:={ w with heap:=w.heap.setIfInBounds g o }
theorem Ea {w:World} {g:Nat} (o:Obj) (h:g<w.heap.size):(kM w g o).heap[g]? =some o:=by simp[kM,h]
theorem ye {w:World} {g q:Nat} (o:Obj) (h:q≠g):(kM w g o).heap[q]? =w.heap[q]? :=by
 simp[kM,Ne.symm h]
theorem FD (w:World) (g:Nat) (o:Obj):(kM w g o).heap.size=w.heap.size:=by simp[kM]
theorem Am {ad:List Nat} {w:World} {g:Nat} (o:Obj) (h:g∈ad):yI ad w (kM w g o):=
 ⟨rfl,rfl,rfl,Nat.le_of_eq (FD w g o).symm,λq _ hq=>ye o λe=>hq (e▸h)⟩
def CB (H:Hp) (β:Nat->Nat) (N:Nat):Nat->List Nat->World->World
 | _,[],w=>w
 | k,g::r,w=>CB H β N (k+1) r (match H (2*N+k) with|some (t,cs)=>kM w g (.cells (cs.map (AV.leaf β)).toArray t)|none=>w)
theorem Ao {K:KC} {ad:List Nat} {w0:World} {H:Hp} {β:Nat->Nat} {N:Nat} (hH:∀ i t cs,H i=some (t,cs)->K.fz t=false/\cs.all aE=true):∀ (l:List Nat) (k:Nat) (w:World),vV K ad w0 w->(∀ g∈l,g∈ad)->l.Nodup->
  aY K w (CB H β N k l w)/\vV K ad w0 (CB H β N k l w)/\(∀ g,g∉l->(CB H β N k l w).heap[g]? =w.heap[g]?)/\∀ j g t cs,l[j]? =some g->H (2*N+(k+j))=some (t,cs)->aW (CB H β N k l w) g t (cs.map (AV.leaf β)).toArray
 | [],k,w,h,_,_=>⟨aY.refl _ _,h,λ_ _=>rfl,λj g t cs hj=>by simp at hj⟩
 | g::r,k,w,h,hs,hn=>by
   have hg:g∈ad:=hs g (List.mem_cons_self ..)
   obtain⟨n1,n2⟩:=List.nodup_cons.1 hn
   have step:∃ w1,(match H (2*N+k) with|some (t,cs)=>kM w g (.cells (cs.map (AV.leaf β)).toArray t)|none=>w)=w1/\aY K w w1/\vV K ad w0 w1/\(∀ q,q≠g->w1.heap[q]? =w.heap[q]?)/\∀ t cs,H (2*N+k)=some (t,cs)->aW w1 g t (cs.map (AV.leaf β)).toArray:=by
    cases hh:H (2*N+k) with
    | none=>exact⟨w,rfl,aY.refl _ _,h,λ_ _=>rfl,λt cs e=>by cases e⟩
    | some c=>
      obtain⟨t,cs⟩:=c
      obtain⟨q1,q2⟩:=hH _ t cs hh
      have hlt:=h.2.lt hg
      have qI:aW (kM w g (.cells (cs.map (AV.leaf β)).toArray t)) g t (cs.map (AV.leaf β)).toArray:=Ea _ hlt
      have hb:=Am (w:=w) (.cells (cs.map (AV.leaf β)).toArray t) hg
      refine⟨_,rfl,hb.kp h.2,⟨h.1.aA hb,λq hq=> ?_⟩,λq hq=>ye _ hq,λt' fM e=>by cases e;exact qI⟩
      by_cases e:q=g
      ·subst e;exact⟨t,_,qI,q1,dH q2⟩
      ·obtain⟨t',fM,g1,g2,g3⟩:=h.2 q hq
       exact⟨t',fM,(ye _ e).trans g1,g2,g3⟩
   obtain⟨w1,e1,s1,s2,s3,s4⟩:=step
   unfold CB
   rw[e1]
   obtain⟨k1,k2,k3,k4⟩:=Ao hH r (k+1) w1 s2 (λq hq=>hs q (List.mem_cons_of_mem _ hq)) n2
   refine⟨s1.aA k1,k2,λq hq=>(k3 q λe=>hq (List.mem_cons_of_mem _ e)).trans (s3 q λe=>hq (by rw[e];exact List.mem_cons_self ..)),λj q t cs hj hh=> ?_⟩
   cases j with
   | zero=>
     simp at hj
     subst hj
     exact (k3 g n1).trans (s4 t cs hh)
   | succ j=>
     refine k4 j q t cs (by simpa using hj) ?_
     rw[<-hh]
     congr 1
     omega
theorem CC {K:KC} {ad:List Nat} {N:Nat} {w0 w1:World} (hd:ad.Nodup) (h:vV K ad w0 w1) (H:Hp) (hH:∀ i t cs,H i=some (t,cs)->K.fz t=false/\cs.all aE=true) (hf:∀ i,2*N+ad.length<=i->H i=none):
  ∃ β w2,aY K w1 w2/\vV K ad w0 w2/\(∀ i t cs,H i=some (t,cs)->iy N ad w0 i (β i)/\aW w2 (β i) t (cs.map (AV.leaf β)).toArray)/\∀ i j,H i≠none->H j≠none->β i=β j->i=j:=by
 let β:Nat->Nat:=λi=>if 2*N<=i then ad.getD (i-2*N) 0 else w1.heap.size+i
 have Jr:∀ i,i<2*N->β i=w1.heap.size+i:=λi hi=>if_neg aa
 have hβ2:∀ i,2*N<=i->β i=ad.getD (i-2*N) 0:=λi hi=>if_pos hi
 have mb:=td H β w1 (2*N)
 have ha':vV K ad w0 (mkW H β (2*N) w1):=⟨h.1.aA (yI.of mb),λg hg=>by
  obtain⟨t,cs,g1,g2,g3⟩:=h.2 g hg
  exact⟨t,cs,g1.bq mb,g2,g3⟩⟩
 obtain⟨k1,k2,k3,k4⟩:=Ao (β:=β) (N:=N) hH ad 0 _ ha' (λ_ h=>h) hd
 have hlt:∀ i,2*N<=i->H i≠none->∃ g,ad[i-2*N]? =some g/\β i=g:=λi hi hn=>by
  have:i-2*N<ad.length:=by
   apply Classical.byContradiction
   intro e
   exact hn (hf i aa)
  refine⟨ad[i-2*N],List.getElem?_eq_getElem this,?_⟩
  rw[hβ2 i hi]
  simp[List.getD_eq_getElem?_getD,this]
 refine⟨β,CB H β N 0 ad (mkW H β (2*N) w1),(aY.of mb).aA k1,k2,λi t cs hi=> ?_,λi j hi hj e=> ?_⟩
 ·by_cases c:2*N<=i
  ·obtain⟨g,g1,g2⟩:=hlt i c (by rw[hi];simp)
   rw[g2]
   refine⟨by unfold iy;rw[if_pos c];exact g1,k4 (i-2*N) g t cs g1 ?_⟩
   rw[<-hi]
   congr 1
   omega
  ·rw[Jr i aa]
   have hs:=Nat.le_trans h.1.size (Nat.le_add_right w1.heap.size i)
   refine⟨DZ aa hs,?_⟩
   refine (k3 _ λhm=> ?_).trans (Cl H β w1 hi _ aa)
   have:=h.2.lt hm
   omega
 ·by_cases c:2*N<=i <;> by_cases d:2*N<=j
  ·obtain⟨g,g1,g2⟩:=hlt i c hi
   obtain⟨g',g3,g4⟩:=hlt j d hj
   rw[g2,g4] at e
   subst e
   have:=(List.getElem?_inj (List.getElem?_eq_some_iff.1 g1).1 hd).1 (g1.trans g3.symm)
   omega
  ·obtain⟨g,g1,g2⟩:=hlt i c hi
   rw[g2,Jr j aa] at e
   have:=h.2.lt (List.mem_of_getElem? g1)
   omega
  ·obtain⟨g,g1,g2⟩:=hlt j d hj
   rw[g2,Jr i aa] at e
   have:=h.2.lt (List.mem_of_getElem? g1)
   omega
  ·rw[Jr i aa,Jr j aa] at e
   omega
abbrev Ap (P:Program) (w:World) (N:Nat) (K:KC) (SU:TypeId->Bool) (ti:TypeId->Option TI) (keep:∀ b,b<w.heap.size->K.S b) (ad:List Nat) (hd:ad.Nodup) (ha:jZ K ad w):Cx where
 P:=P
 w0:=w
 N:=N
 K:=K
 SU:=SU
 ti:=ti
 keep:=keep
 uh:=iy N ad w
 Old:=vV K ad w
 top:=2*N+ad.length
 topN:=Nat.le_add_right _ _
 rU:=λ_ _ h1 h2=>DZ h1 h2
 newMv:=λ_ _ _ h1 h2=>newA_mv h1 h2
 gR:=λ_ h=>h.1.size
 pN:=⟨yI.of (ax.refl _),ha⟩
 tf:=λ_ _ h k _ s=>Fz ha h k s
 DR:=λ_ _ _ h hn hc=>FA h hn hc
 lay:=λ_ H h hH hf=>CC hd h H hH hf
def Fr.FE:Nat->List AV->Fr
 | _,[]=>λ_=>none
 | k,v::r=>λn=>bif Nat.beq n k then some v else Fr.FE (k+1) r n
theorem Fr.tn:∀ (l:List AV) (k n:Nat) (v:AV),Fr.FE k l n=some v->k<=n/\l[n-k]? =some v
 | [],k,n,v,h=>by cases h
 | x::r,k,n,v,h=>by
   unfold Fr.FE at h
   cases hb:Nat.beq n k with
   | true=>
     rw[hb] at h
     cases h
     have e:=Nat.eq_of_beq_eq_true hb
     exact⟨by omega,by rw[e];simp⟩
   | false=>
     rw[hb] at h
     obtain⟨h2,h3⟩:=Fr.tn r (k+1) n v h
     refine⟨by omega,?_⟩
     rw[show n-k=(n-(k+1))+1 by omega]
     simpa using h3
section
variable {C:Cx} {F:Fr} {H:Hp} {w:World} {m:Option (List FuncId)} {full:Array Oper} {K:Fr->Hp->World->Prop} {o:Oper} {r:List Oper}
theorem sc {f:FuncId} {fn:Func} {c:Code} {args:List AV} {R:Ending->World->Prop} {β:Nat->Nat} (hf:C.P.funcs[f]? =some fn) (hb:fn.body=some c) (hN:fn.ntmps=C.N) (ha:args.length<=C.N)
  (aw:∀ i t cs,H i=some (t,cs)->iV C β C.w0 i t cs) (hap:∀ i j,H i≠none->H j≠none->β i=β j->i=j) (hp:xX C H) (qI:∀ v∈args,∀ i∈v.ids,H i≠none)
  (h:VS C (bodyPost C.P fn R) [.code c] (Fr.FE 0 args) H C.w0):Calls C.P f (args.map (AV.aP β)).toArray C.w0 R:=by
 refine calls_of_wp hf hb ?_
 refine h β _ C.w0 ⟨rfl,?_,λd v hd=> ?_,aw,hap,λd v hd i hi=> ?_,λd v hd=> ?_,hp,C.pN⟩ (aY.refl _ _)
 ·simp[hN];omega
 ·obtain⟨_,h2⟩:=Fr.tn args 0 d v hd
  rw[Nat.sub_zero] at h2
  show ((args.map (AV.aP β)).toArray++_).getD d undef=v.aP β
  have hlt:=(List.getElem?_eq_some_iff.1 h2).1
  rw[Array.getD_eq_getD_getElem?,Array.getElem?_append_left (by simpa using hlt)]
  simp[h2]
 ·obtain⟨_,h2⟩:=Fr.tn args 0 d v hd
  exact qI v (List.mem_of_getElem? h2) i hi
 ·obtain⟨_,h2⟩:=Fr.tn args 0 d _ hd
  rw[Nat.sub_zero] at h2
  have:=(List.getElem?_eq_some_iff.1 h2).1
  omega
theorem VO.callM {g:FuncId} {args:List AV} {i:Nat} {t:TypeId} {cs:List AV} (e:stepOf C full F H o=.call (.fn g args)) (hH:H i=some (t,cs)) (hi:i∈eB args) (hf:iU C.P g) (hl:1<=lvl C.SU m o)
  (h:∀ w1 β,aY C.K w w1->C.Old w1->gY C β H (eB args) w1->Calls C.P g (args.map (AV.aP β)).toArray w1 λe w2=>∃ v ds,e=.returned v/\yI [β i] w1 w2/\aW w2 (β i) t (List.toArray ds)/\ds.all aN=true/\
   (aY C.K w w2->aY C.K w1 w2->C.Old w2->ao C m full r K (F.bm o.dst (.val v)) (H.put i (t,ds.map .val)) w2)):ao C m full (o::r) K F H w:=by
 show one C m full o (ao C m full r K) F H w
 unfold one
 rw[e]
 refine λw1 β h1 h2 h3=>⟨hf,(h w1 β h1 h2 h3).mono ?_⟩
 rintro e w2 ⟨v,ds,rfl,hb,hc,hk,hv⟩
 have ho:=h3.own i (.base hi) t cs hH
 refine⟨β,.val v,none,[(i,(t,ds.map .val))],rfl,λi hi=>(by cases hi),.inl hl,.inr rfl,?_,λa b c _ _=>hv a b c⟩
 refine⟨hb.os,hb.tape,hb.output,hb.size,λk hk hx _ _=>hb.nS k hk (by simpa using hx),λ_ _=>rfl,λi hi=>(by cases hi),λi hi=>(by cases hi),λx hx=> ?_,λx hx=> ?_,by simp,λx hx y hy _=> ?_,λx hx j hj=> ?_⟩
 ·cases List.mem_singleton.1 hx
  exact⟨ho.new,ho.ty,by rw[aO];exact hc,cQ hk⟩
 ·cases List.mem_singleton.1 hx
  exact .inl ⟨by rw[hH];simp,by simp,.base hi,rfl⟩
 ·cases List.mem_singleton.1 hx;cases List.mem_singleton.1 hy;rfl
 ·cases List.mem_singleton.1 hx
  rw[af] at hj;cases hj
def Eb (z:Value) (ok:Bool):Option (Nat×Value)->Value
 | some (_,v)=>if ok=true then .tuple #[v,.bool true] else v
 | none=>if ok=true then .tuple #[z,.bool false] else z
theorem uD {P:Program} {w:World} {t kt et:TypeId} {d:TypeDesc} {rr:Nat} {es:Array MapEntry} {c:Nat} {k z:Value} {res:Option (Nat×Value)} (ok:Bool) (ht:P.underlying t=some (.map kt et)) (hd:P.underlying kt=some d) (hk:IsKey d k)
  (hz:(zeroValue et).run P w=.ok z w) (hm:w.heap[rr]? =some (.map es c)) (hr:Instr.findNow d k es.toList 0=some res):(Instr.lookup t (.map (some rr)) k ok).run P w=.ok (Eb z ok res) w:=by
 have hc:=run_checkKey (w:=w) hd hk es.isEmpty 9999
 cases res with
 | none=>cases ok <;> simp[Instr.lookup,run_underlying ht,MapKept.run_getObj_map hm,hc,run_findKey hd hr,hz,Result.andThen,Eb]
 | some p=>cases ok <;> simp[Instr.lookup,run_underlying ht,MapKept.run_getObj_map hm,hc,run_findKey hd hr,Result.andThen,Eb]
theorem VO.look {t kt et:TypeId} {d:TypeDesc} {x y:Operand} {ok:Bool} {rr:Nat} {es:Array MapEntry} {c:Nat} {k z:Value} {res:Option (Nat×Value)}
  (e:stepOf C full F H o=.call (.op o [.val (.map (some rr)),.val k])) (ho:o.op=.lookup t x y ok) (ht:C.P.underlying t=some (.map kt et)) (hd:C.P.underlying kt=some d) (hk:IsKey d k) (hz:∀ w,(zeroValue et).run C.P w=.ok z w)
  (hm:∀ w1,aY C.K w w1->C.Old w1->w1.heap[rr]? =some (.map es c)) (hr:Instr.findNow d k es.toList 0=some res)
  (h:∀ w2,aY C.K w w2->C.Old w2->ao C m full r K (F.bm o.dst (.val (Eb z ok res))) H w2):ao C m full (o::r) K F H w:=
 VO.Al e λw1 β h1 h2 _=>⟨_,w1,λρ eH=>.inl (by
   rw[ho] at eH
   simp[Op.operands] at eH
   obtain⟨q1,q2⟩:=eH
   unfold execOp
   simp only[ho,q1,q2,AV.aP]
   simp[uD ok ht hd hk (hz w1) (hm w1 h1 h2) hr,Result.andThen]),_,rfl,ax.refl _,λa1 _ a3=>h w1 a1 a3⟩
end
def Hp.one (i:Nat) (t:TypeId) (cs:List Value):Hp:=λn=>bif Nat.beq n i then some (t,cs.map .val) else none
theorem Hp.rp (i n:Nat) (t:TypeId) (cs:List Value):Hp.one i t cs n=if n=i then some (t,cs.map .val) else none:=by
 unfold Hp.one
 by_cases h:n=i
 ·subst h;simp
 ·have:Nat.beq n i=false:=by rw[<-Bool.not_eq_true,Nat.beq_eq];exact h
  simp[this,h]
theorem ad1 {K:KC} {w:World} {g:Nat} {t:TypeId} {cs:List Value} (hc:aW w g t cs.toArray) (ht:K.fz t=false) (hk:cs.all aN=true):jZ K [g] w:=λq hq=>by
 cases List.mem_singleton.1 hq
 exact⟨t,cs,hc,ht,hk⟩
theorem ru (g:Nat):[g].Nodup:=by simp
theorem Aq (P:Program) (w:World) (N:Nat) (K:KC) (SU:TypeId->Bool) (ti:TypeId->Option TI) (keep:∀ b,b<w.heap.size->K.S b) {g:Nat} {t:TypeId} {cs us:List Value} {f:FuncId} {fn:Func} {c:Code} {R:Ending->World->Prop} (hf:P.funcs[f]? =some fn) (hb:fn.body=some c) (hN:fn.ntmps=N) (ha:us.length+1<=N)
  (hc:aW w g t cs.toArray) (ht:K.fz t=false) (hk:cs.all aN=true)
  (h:VS (Ap P w N K SU ti keep [g] (ru g) (ad1 hc ht hk)) (bodyPost P fn R) [.code c] (Fr.FE 0 (.box (2*N) 0::us.map .val)) (Hp.one (2*N) t cs) w):Calls P f (Value.pointer (some ⟨g,0,none⟩)::us).toArray w R:=by
 have:=sc (C:=Ap P w N K SU ti keep [g] (ru g) (ad1 hc ht hk)) (R:=R) (args:=.box (2*N) 0::us.map .val) (β:=λ_=>g) (H:=Hp.one (2*N) t cs) hf hb hN (by simpa using ha) (λi t' fM hi=> ?_) (λi j hi hj _=> ?_) ⟨λi t' fM hi=> ?_,λi t' fM hi=> ?_,λi hi=> ?_⟩ (λv hv i hi=> ?_) h
 ·have e:(AV.box (2*N) 0::us.map AV.val).map (AV.aP λ_=>g)=Value.pointer (some ⟨g,0,none⟩)::us:=by
   rw[List.map_cons,fA];rfl
  rw[e] at this
  exact this
 ·rw[Hp.rp] at hi
  split at hi
  ·rename_i e
   cases hi
   refine⟨?_,ht,by rw[aO];exact hc,cQ hk⟩
   show iy N [g] w i g
   unfold iy
   rw[if_pos aa,e,Nat.sub_self]
   rfl
  ·cases hi
 ·rw[Hp.rp] at hi hj
  split at hi
  ·split at hj
   ·omega
   ·exact absurd rfl hj
  ·exact absurd rfl hi
 ·rw[Hp.rp] at hi
  split at hi
  ·cases hi;exact⟨ht,cQ hk⟩
  ·cases hi
 ·rw[Hp.rp] at hi
  split at hi
  ·cases hi
   intro j hj
   rw[af] at hj;cases hj
  ·cases hi
 ·rw[Hp.rp,if_neg]
  intro e
  have:(2*N+[g].length)<=i:=hi
  simp at this
  omega
 ·rcases List.mem_cons.1 hv with rfl|hv
  ·have:i=2*N:=by simpa [AV.ids] using hi
   rw[Hp.rp,if_pos this];simp
  ·obtain⟨u,_,rfl⟩:=List.mem_map.1 hv
   cases hi
theorem own1 {P:Program} {w w':World} {N:Nat} {K:KC} {SU:TypeId->Bool} {ti:TypeId->Option TI} {keep:∀ b,b<w.heap.size->K.S b} {g:Nat} {ha:jZ K [g] w} {β:Nat->Nat} {i:Nat} {t:TypeId} {cs:List AV} (h:iV (Ap P w N K SU ti keep [g] (ru g) ha) β w' i t cs) (hi:i=2*N):aW w' g t (cs.map (AV.leaf β)).toArray:=by
 have h1:iy N [g] w i (β i):=h.new
 unfold iy at h1
 rw[if_pos aa,hi,Nat.sub_self] at h1
 have h2:g=β (2*N):=by simpa using h1
 have h3:=h.cls
 rw[hi,<-h2] at h3
 exact h3
def mM:Nat->List (Value×FuncId)->List MapEntry
 | _,[]=>[]
 | n,(k,g)::r=>⟨k,.func (.func g) #[] #[],n⟩::mM (n+1) r
def Ec (d:TypeDesc):List MapEntry->List (Value×FuncId)->Prop
 | _,[]=>True
 | es,(k,g)::r=>IsKey d k/\Instr.findNow d k es 0=some none/\Ec d (es++[⟨k,.func (.func g) #[] #[],es.length⟩]) r
def yf (t:TypeId) (d:Nat):List (Value×FuncId)->List Oper->Prop
 | [],[]=>True
 | (k,g)::q,o::r=>o.guard=none/\o.op=.insert t (.tmp d) (.const k) (.func g)/\o.dst=none/\yf t d q r
 | _,_=>False
theorem pY {P:Program} {w:World} {t kt et:TypeId} {d:TypeDesc} {rr:Nat} {es:Array MapEntry} {c:Nat} {k v:Value} (ht:P.underlying t=some (.map kt et)) (hd:P.underlying kt=some d) (hk:IsKey d k)
  (hm:w.heap[rr]? =some (.map es c)) (hr:Instr.findNow d k es.toList 0=some none):(Instr.mapUpdate t (.map (some rr)) k v).run P w=.ok () (kM w rr (.map (es.push ⟨k,v,c⟩) (c+1))):=by
 have hc:=run_checkKey (w:=w) hd hk false 9999
 simp[Instr.mapUpdate,run_underlying ht,MapKept.run_getObj_map hm,hc,run_findKey hd hr,Result.andThen,MapKept.run_setObj_map _ hm,kM]
theorem uE {P:Program} {full:Array Oper} {Q:Exit->Act->World->Prop} {t kt et:TypeId} {d:TypeDesc} {dd b:Nat} (ht:P.underlying t=some (.map kt et)) (hd:P.underlying kt=some d) {tl:List Oper} {a:Act} (ha:a.eval (.tmp dd)=.map (some b)):
  ∀ (ins:List Oper) (BK:List (Value×FuncId)) (es:List MapEntry) (w:World),yf t dd BK ins->Ec d es BK->w.heap[b]? =some (.map es.toArray es.length)->
    (∀ w2,yI [b] w w2->w2.heap[b]? =some (.map (es++mM es.length BK).toArray (es.length+BK.length))->wpList P full Q tl a w2)->wpList P full Q (ins++tl) a w
 | [],[],es,w,hm,hf,hw,h=>h w (yI.of (ax.refl _)) (by simpa [mM] using hw)
 | [],_::_,es,w,hm,hf,hw,h=>(show False from hm).elim
 | o::r,[],es,w,hm,hf,hw,h=>(show False from hm).elim
 | o::r,(k,g)::q,es,w,hm,hf,hw,h=>by
   obtain⟨h1,h2,h3,h4⟩:=hm
   obtain⟨f1,f2,f3⟩:=hf
   refine wpList_plain h1 λK hK=> ?_
   have hrun:=pY (P:=P) (w:=w) (v:=.func (.func g) #[] #[]) ht hd f1 hw f2
   have hlt:b<w.heap.size:=(Array.getElem?_eq_some_iff.1 hw).1
   refine Oper.wp_skip (w':=kM w b (.map (es.toArray.push ⟨k,.func (.func g) #[] #[],es.length⟩) (es.length+1))) ?_ (hK _ _ ?_)
   ·simp only[execOp,h2,ha]
    show (do Instr.mapUpdate t (.map (some b)) (a.eval (.const k)) (a.eval (.func g));pure Next.skip:Sem Next).run P w=_
    have e1:a.eval (.const k)=k:=rfl
    have e2:a.eval (.func g)=.func (.func g) #[] #[]:=rfl
    rw[e1,e2]
    simp[hrun,Result.andThen]
   ·rw[h3]
    show wpList P full Q (r++tl) a _
    refine uE ht hd ha r q (es++[⟨k,.func (.func g) #[] #[],es.length⟩]) _ h4 f3 ?_ λw2 b2 g2=>h w2 ((Am _ (List.mem_singleton.2 rfl)).aA b2) ?_
    ·rw[Ea _ hlt];simp
    ·rw[g2];simp[mM];omega
theorem VS.mapLit {C:Cx} {Q:Exit->Act->World->Prop} {F:Fr} {H:Hp} {w:World} {st:List It} (hC:C.Ok) {id:Nat} {ops:Array Oper} {mk:Oper} {ins tl:List Oper} {t kt et:TypeId} {d:TypeDesc} {dd:Nat} (BK:List (Value×FuncId)) (hops:ops.toList=mk::(ins++tl))
  (hg:mk.guard=none) (hmk:mk.op=.makeMap t none) (ft:mk.dst=some dd) (hdN:dd<C.N) (ht:C.P.underlying t=some (.map kt et)) (hd:C.P.underlying kt=some d) (hins:yf t dd BK ins) (hf:Ec d [] BK)
  (h:∀ w2 b,aY C.K w w2->C.Old w2->w2.heap[b]? =some (.map (mM 0 BK).toArray BK.length)->ao C none ops tl (VS C Q st) (F.put dd (.val (.map (some b)))) H w2):VS C Q (.code (.region id ops false)::st) F H w:=λβ a w' hr hk=>by
 refine wp_region_list ?_
 rw[hops]
 refine wpList_plain hg λK hK=> ?_
 refine Oper.jX (v:=.map (some w'.heap.size)) (w':=w'.alloc (.map #[] 0)) ?_ (hK _ _ ?_)
 ·simp[execOp,hmk,Instr.makeMap,Result.andThen]
 rw[ft]
 have hsz:dd<a.tmps.size:=by rw[hr.size];exact hdN
 have hev:(a.put (some dd) (.map (some w'.heap.size))).eval (.tmp dd)=.map (some w'.heap.size):=by
  show (a.tmps.setIfInBounds dd _).getD dd undef=_
  simp[Array.getD_eq_getD_getElem?,hsz]
 refine uE ht hd hev ins BK [] _ hins hf (MapKept.heap_alloc w' _).1 λw2 b2 g2=> ?_
 have hb:ax w' w2:=⟨b2.os,b2.tape,b2.output,Nat.le_trans cU b2.size,λg hg=>(b2.nS g (by simp;omega) (by simp;omega)).trans ((MapKept.heap_alloc w' _).2 g hg)⟩
 have kG:Rel C β F H a w2:=hr.changed (ids:=[]) (del:=none) (ups:=[]) (vS.none hb)
 have hr3:=kG.put (dst:=some dd) (by simpa [ir,Nat.blt_eq] using hdN) (v:=.val (.map (some w'.heap.size))) (λ_ hi=>by cases hi)
 exact oq hC (λβ F H w a w' h hr hk=>h β a w' hr hk) tl β _ H w2 _ w2 (h w2 w'.heap.size (hk.aA (aY.of hb)) kG.old (by simpa using g2)) hr3 (aY.refl _ _)
theorem CD {α:Type} {l:List α} {x:α} (h:l.head? =some x) (n:Nat):l=x::((l.drop 1).take n++l.drop (n+1)):=by
 cases l with
 | nil=>simp at h
 | cons y r=>simp at h;subst h;simp
theorem VS.mapLitN {C:Cx} {Q:Exit->Act->World->Prop} {F:Fr} {H:Hp} {w:World} {st:List It} (hC:C.Ok) {id:Nat} {ops:Array Oper} {mk:Oper} {t kt et:TypeId} {d:TypeDesc} {dd:Nat} (n:Nat) (BK:List (Value×FuncId)) (hops:ops.toList.head? =some mk)
  (hg:mk.guard=none) (hmk:mk.op=.makeMap t none) (ft:mk.dst=some dd) (hdN:dd<C.N) (ht:C.P.underlying t=some (.map kt et)) (hd:C.P.underlying kt=some d) (hins:yf t dd BK ((ops.toList.drop 1).take n)) (hf:Ec d [] BK)
  (h:∀ w2 b,aY C.K w w2->C.Old w2->w2.heap[b]? =some (.map (mM 0 BK).toArray BK.length)->ao C none ops (ops.toList.drop (n+1)) (VS C Q st) (F.put dd (.val (.map (some b)))) H w2):VS C Q (.code (.region id ops false)::st) F H w:=
 VS.mapLit hC BK (CD hops n) hg hmk ft hdN ht hd hins hf h
theorem VS.fin {C:Cx} {F:Fr} {H:Hp} {w:World} (hC:C.Ok) {fn:Func} {R:Ending->World->Prop} {vs:List AV} (h:mL C F H fn.results.toList=some vs) (hR:∀ w' β,aY C.K w w'->C.Old w'->Ends C β H w'->R (.returned (iu (vs.map (AV.aP β)))) w'):VS C (bodyPost C.P fn R) [] F H w:=
 λβ a w' hr hk=>uB hC h hR β a w' hr hk
end
section
open Go.RowKit
theorem bld_of {P:Program} {t:TypeId} {zero:Value} {places:Array (Nat×Nat)} {fs:Array Field} (hz:∀ w,(zeroValue t).run P w=.ok zero w) (hu:P.underlying t=some (.struct fs))
  (hp:∀ w,(fs.mapM (λf=>do pure (f.offset,<-sizeOf f.type)):Sem (Array (Nat×Nat))).run P w=.ok places w) (ps:Array (Nat×Value)) (w:World) (cs:Array Value)
  (h:Instr.fill (places[·]?) zero.cells ps.toList=some cs):(Instr.build t ps).run P w=.ok (.agg cs) w:=by
 unfold Instr.build
 simp only[Sem.run_bind,hz,Result.andThen_ok,run_underlying hu,hp]
 rw[h]
 rfl
theorem fld_agg {P:Program} {t:TypeId} {k:Nat} {fs:Array Field} {f:Field} (o n:Nat) (hu:P.underlying t=some (.struct fs)) (hf:fs[k]? =some f) (ho:f.offset=o) (hb:∀ w,(isAgg f.type).run P w=.ok true w) (hs:∀ w,(sizeOf f.type).run P w=.ok n w)
  {cs:Array Value} {w:World} {v:Value} (h:some (Value.agg (cs.extract o (o+n)))=some v):(Instr.field t (.agg cs) k).run P w=.ok v w:=by
 cases h
 subst ho
 unfold Instr.field
 simp[run_underlying hu,hf,asAgg,part,hb,hs]
theorem fld_one {P:Program} {t:TypeId} {k:Nat} {fs:Array Field} {f:Field} (o:Nat) (hu:P.underlying t=some (.struct fs)) (hf:fs[k]? =some f) (ho:f.offset=o) (hb:∀ w,(isAgg f.type).run P w=.ok false w)
  {cs:Array Value} {w:World} {v:Value} (h:cs[o]? =some v):(Instr.field t (.agg cs) k).run P w=.ok v w:=by
 subst ho
 unfold Instr.field
 simp[run_underlying hu,hf,asAgg,part,hb,h]
inductive FF (P:Program) (t:TypeId):Nat->List Field->List (Nat×Nat)->List Bool->Prop
 | nil {j:Nat}:FF P t j [] [] []
 | cons {j:Nat} {f:Field} {fs:List Field} {p:Nat×Nat} {ps:List (Nat×Nat)} {a:Bool} {gs:List Bool} (h1:∀ b o w,(Instr.fieldAt t (.pointer (some ⟨b,o,none⟩)) j).run P w=.ok (.pointer (some ⟨b,o+p.1,none⟩)) w) (h2:f.offset=p.1) (h3:∀ w,(isAgg f.type).run P w=.ok a w) (h4:a=true->∀ w,(sizeOf f.type).run P w=.ok p.2 w) (h:FF P t (j+1) fs ps gs):FF P t j (f::fs) (p::ps) (a::gs)
theorem FF.get {P:Program} {t:TypeId} {j:Nat} {fs:List Field} {ps:List (Nat×Nat)} {gs:List Bool} (h:FF P t j fs ps gs):∀ (k:Nat) (p:Nat×Nat),ps[k]? =some p->(∀ b o w,(Instr.fieldAt t (.pointer (some ⟨b,o,none⟩)) (j+k)).run P w=.ok (.pointer (some ⟨b,o+p.1,none⟩)) w)/\∃ f a,fs[k]? =some f/\gs[k]? =some a/\f.offset=p.1/\(∀ w,(isAgg f.type).run P w=.ok a w)/\(a=true->∀ w,(sizeOf f.type).run P w=.ok p.2 w):=by
 induction h with
 | nil=>intro k p e;simp at e
 | cons h1 h2 h3 h4 _ ih=>
   intro k p e
   cases k with
   | zero=>simp at e;cases e;exact⟨h1,_,_,rfl,rfl,h2,h3,h4⟩
   | succ k=>
     have:=ih k p (by simpa using e)
     rw[show ∀ j:Nat,j+1+k=j+(k+1) from λj=>by omega] at this
     simpa using this
@[reducible] def tF (z:Value) (b:Bool) (e:Option (TypeId×Nat)) (k:Option IntKind) (p:Bool):TI:={ size:=1,agg:=false,zero:=z,places:=#[],Fk:=#[],bool:=b,elem:=e,kind:=k,ptr:=p }
@[reducible] def tA (n:Nat) (z:Array Value) (p:Array (Nat×Nat)) (a:Array Bool):TI:={ size:=n,agg:=true,zero:=.agg z,places:=p,Fk:=a,bool:=false,elem:=none,kind:=none }
theorem okF {P:Program} {t:TypeId} {z:Value} {b:Bool} {e:Option (TypeId×Nat)} {k:Option IntKind} {p:Bool} {d:TypeDesc} (hu:P.underlying t=some d) (hb:b=true->P.underlying t=some .bool:=by intro h;cases h;try kernel_rfl) (hs:∀ c n,e=some (c,n)->P.underlying t=some (.slice c)/\∀ w,(sizeOf c).run P w=.ok n w:=by intro c n h;cases h;try (constructor;kernel_rfl;intro w;kernel_rfl)) (hi:∀ q,k=some q->P.underlying t=some (.int q):=by intro q h;cases h;try kernel_rfl) (hp:p=true->P.underlying t=some (.pointer (P.pointee t)):=by intro h;cases h;try kernel_rfl)
  (hr:d.isRow=false:=by rfl) (h1:(P.info? t).map (·.size)=some 1:=by kernel_rfl) (h2:z.cells.size=1:=by rfl) (h3:(P.info? t).map (·.zero)=some (some z):=by kernel_rfl) (h4:(P.info? t).map (λq=>Nat.ble q.bytes (24*1))=some true:=by kernel_rfl) (h5:∀ w,(zeroValue t).run P w=.ok z w:=by intro w;kernel_rfl):TI.Ok P t (tF z b e k p) where
 row:=⟨_,hu,hr⟩
 isBool:=hb
 isSlice:=hs
 isInt:=hi
 DN:=hp
 wR:=h2
 zz:=h3
 bytes:=h4
 pos:=Nat.le_refl 1
 lone:=λ_=>rfl
 size:=h1
 zero:=h5
 IP:=λk p hp b o w=>by simp at hp
 fld:=λk p hp cs w v hv=>by simp at hp
 bld:=λh=>by cases h
theorem oA {P:Program} {t:TypeId} {n:Nat} {z:Array Value} {p:Array (Nat×Nat)} {a:Array Bool} {fs:Array Field} (hu:P.underlying t=some (.struct fs)) (hf:FF P t 0 fs.toList p.toList a.toList:=by repeat first|exact .nil|refine .cons (λb o w=>by kernel_rfl) rfl (λw=>by kernel_rfl) (by intro h;cases h;try (intro w;kernel_rfl)) ?_)
  (h1:(P.info? t).map (·.size)=some n:=by kernel_rfl) (h2:z.size=n:=by rfl) (h3:(P.info? t).map (·.zero)=some (some (.agg z)):=by kernel_rfl) (h4:(P.info? t).map (λq=>Nat.ble q.bytes (24*n))=some true:=by kernel_rfl) (h5:∀ w,(zeroValue t).run P w=.ok (.agg z) w:=by intro w;kernel_rfl) (h6:0<n:=by exact bt rfl) (h7:∀ w,(fs.mapM (λf=>do pure (f.offset,<-sizeOf f.type)):Sem (Array (Nat×Nat))).run P w=.ok p w:=by intro w;kernel_rfl):TI.Ok P t (tA n z p a) where
 row:=⟨_,hu,rfl⟩
 isBool:=λh=>by cases h
 isSlice:=λe n h=>by cases h
 isInt:=λk h=>by cases h
 wR:=h2
 zz:=h3
 bytes:=h4
 pos:=h6
 lone:=λh=>by cases h
 size:=h1
 zero:=h5
 IP:=λk q hq b o w=>by
  have:=(hf.get k q (by simpa using hq)).1 b o w
  rwa [Nat.zero_add] at this
 fld:=λk q hq cs w v hv=>by
  obtain⟨_,f,x,e1,e2,e3,e4,e5⟩:=hf.get k q (by simpa using hq)
  rw[Array.getElem?_toList] at e1 e2
  rw[e2] at hv
  cases x
  ·exact fld_one q.1 hu e1 e3 e4 hv
  ·exact fld_agg q.1 q.2 hu e1 e3 e4 (e5 rfl) hv
 bld:=λ_=>bld_of h5 hu h7
theorem tb {P:Program} {t u:TypeId} {i x:TI} {r:Option TI} (hk:TI.Ok P u i) (hr:r=some x->TI.Ok P t x) (h:(bif Nat.beq t u then some i else r)=some x):TI.Ok P t x:=by
 cases hb:Nat.beq t u
 ·rw[hb] at h;exact hr h
 ·rw[hb] at h;cases h;rw[Nat.eq_of_beq_eq_true hb];exact hk
def ti0:TI:=tF (.int .i64 0) false none (some .i64) false
theorem ok0:TI.Ok Tryz.prog 2 ti0:=okF Tryz.underlying2
def ti1:TI:=tF (.int .i64 0) false none (some .i64) false
theorem ok1:TI.Ok Tryz.prog 3 ti1:=okF Tryz.underlying3
def ti2:TI:=tF (.bool false) true none none false
theorem ok2:TI.Ok Tryz.prog 4 ti2:=okF Tryz.underlying4
def ti3:TI:=tF (.int .u8 0) false none (some .u8) false
theorem ok3:TI.Ok Tryz.prog 5 ti3:=okF Tryz.underlying5
def ti4:TI:=tF (.string ⟨#[]⟩) false none none false
theorem ok4:TI.Ok Tryz.prog 9 ti4:=okF Tryz.underlying9
def ti5:TI:=tF (.int .u64 0) false none (some .u64) false
theorem ok5:TI.Ok Tryz.prog 12 ti5:=okF Tryz.underlying12
def ti6:TI:=tF (.slice none 0 0) false (some (38,6)) none false
theorem ok6:TI.Ok Tryz.prog 22 ti6:=okF Tryz.underlying22
def ti7:TI:=tF (.slice none 0 0) false (some (41,1)) none false
theorem ok7:TI.Ok Tryz.prog 23 ti7:=okF Tryz.underlying23
def ti8:TI:=tF (.slice none 0 0) false (some (49,28)) none false
theorem ok8:TI.Ok Tryz.prog 26 ti8:=okF Tryz.underlying26
def ti9:TI:=tF (.int .i64 0) false none (some .i64) false
theorem ok9:TI.Ok Tryz.prog 27 ti9:=okF Tryz.underlying27
def ti10:TI:=tF (.slice none 0 0) false (some (191,1)) none false
theorem ok10:TI.Ok Tryz.prog 30 ti10:=okF Tryz.underlying30
def ti11:TI:=tA 2 #[.bool false,.slice none 0 0] #[(0,1),(1,1)] #[false,false]
theorem ok11:TI.Ok Tryz.prog 32 ti11:=oA Tryz.underlying32
def ti12:TI:=tA 4 #[.bool false,.slice none 0 0,.bool false,.slice none 0 0] #[(0,2),(2,2)] #[true,true]
theorem ok12:TI.Ok Tryz.prog 34 ti12:=oA Tryz.underlying34
def ti13:TI:=tF (.slice none 0 0) false (some (44,9)) none false
theorem ok13:TI.Ok Tryz.prog 36 ti13:=okF Tryz.underlying36
def ti14:TI:=tA 6 #[.string ⟨#[]⟩,.int .u8 0,.bool false,.slice none 0 0,.bool false,.slice none 0 0] #[(0,1),(1,1),(2,4)] #[false,false,true]
theorem ok14:TI.Ok Tryz.prog 38 ti14:=oA Tryz.underlying38
def ti15:TI:=tF (.slice none 0 0) false (some (81,1)) none false
theorem ok15:TI.Ok Tryz.prog 39 ti15:=okF Tryz.underlying39
def ti16:TI:=tA 1 #[.slice none 0 0] #[(0,1)] #[false]
theorem ok16:TI.Ok Tryz.prog 41 ti16:=oA Tryz.underlying41
def ti17:TI:=tA 9 #[.int .u8 0,.bool false,.slice none 0 0,.bool false,.slice none 0 0,.bool false,.slice none 0 0,.bool false,.slice none 0 0] #[(0,1),(1,4),(5,4)] #[false,true,true]
theorem ok17:TI.Ok Tryz.prog 44 ti17:=oA Tryz.underlying44
def ti18:TI:=tA 16 #[.bool false,.slice none 0 0,.bool false,.slice none 0 0,.bool false,.slice none 0 0,.bool false,.slice none 0 0,.bool false,.slice none 0 0,.bool false,.slice none 0 0,.bool false,.slice none 0 0,.bool false,.slice none 0 0] #[(0,4),(4,4),(8,4),(12,4)] #[true,true,true,true]
theorem ok18:TI.Ok Tryz.prog 47 ti18:=oA Tryz.underlying47
def ti19:TI:=tA 28 #[.bool false,.slice none 0 0,.bool false,.slice none 0 0,.bool false,.slice none 0 0,.bool false,.slice none 0 0,.bool false,.slice none 0 0,.bool false,.slice none 0 0,.bool false,.slice none 0 0,.bool false,.slice none 0 0,.bool false,.slice none 0 0,.bool false,.slice none 0 0,.bool false,.slice none 0 0,.bool false,.slice none 0 0,.bool false,.slice none 0 0,.bool false,.slice none 0 0] #[(0,16),(16,4),(20,4),(24,4)] #[true,true,true,true]
theorem ok19:TI.Ok Tryz.prog 49 ti19:=oA Tryz.underlying49
def ti20:TI:=tA 2 #[.bool false,.slice none 0 0] #[(0,1),(1,1)] #[false,false]
theorem ok20:TI.Ok Tryz.prog 53 ti20:=oA Tryz.underlying53
def ti21:TI:=tA 4 #[.bool false,.slice none 0 0,.bool false,.slice none 0 0] #[(0,2),(2,2)] #[true,true]
theorem ok21:TI.Ok Tryz.prog 55 ti21:=oA Tryz.underlying55
def ti22:TI:=tA 16 #[.bool false,.slice none 0 0,.bool false,.slice none 0 0,.bool false,.slice none 0 0,.bool false,.slice none 0 0,.bool false,.slice none 0 0,.bool false,.slice none 0 0,.bool false,.slice none 0 0,.bool false,.slice none 0 0] #[(0,4),(4,4),(8,4),(12,4)] #[true,true,true,true]
theorem ok22:TI.Ok Tryz.prog 57 ti22:=oA Tryz.underlying57
def ti23:TI:=tA 28 #[.bool false,.slice none 0 0,.bool false,.slice none 0 0,.bool false,.slice none 0 0,.bool false,.slice none 0 0,.bool false,.slice none 0 0,.bool false,.slice none 0 0,.bool false,.slice none 0 0,.bool false,.slice none 0 0,.bool false,.slice none 0 0,.bool false,.slice none 0 0,.bool false,.slice none 0 0,.bool false,.slice none 0 0,.bool false,.slice none 0 0,.bool false,.slice none 0 0] #[(0,16),(16,4),(20,4),(24,4)] #[true,true,true,true]
theorem ok23:TI.Ok Tryz.prog 59 ti23:=oA Tryz.underlying59
def ti24:TI:=tF (.slice none 0 0) false (some (127,6)) none false
theorem ok24:TI.Ok Tryz.prog 62 ti24:=okF Tryz.underlying62
def ti25:TI:=tF (.slice none 0 0) false (some (130,1)) none false
theorem ok25:TI.Ok Tryz.prog 64 ti25:=okF Tryz.underlying64
def ti26:TI:=tF (.slice none 0 0) false (some (59,28)) none false
theorem ok26:TI.Ok Tryz.prog 66 ti26:=okF Tryz.underlying66
def ti27:TI:=tF (.slice none 0 0) false (some (26,1)) none false
theorem ok27:TI.Ok Tryz.prog 69 ti27:=okF Tryz.underlying69
def ti28:TI:=tF (.slice none 0 0) false (some (66,1)) none false
theorem ok28:TI.Ok Tryz.prog 72 ti28:=okF Tryz.underlying72
def ti29:TI:=tF (.slice none 0 0) false (some (34,4)) none false
theorem ok29:TI.Ok Tryz.prog 81 ti29:=okF Tryz.underlying81
def ti30:TI:=tF (.slice none 0 0) false (some (148,8)) none false
theorem ok30:TI.Ok Tryz.prog 83 ti30:=okF Tryz.underlying83
def ti31:TI:=tF (.slice none 0 0) false (some (9,1)) none false
theorem ok31:TI.Ok Tryz.prog 84 ti31:=okF Tryz.underlying84
def ti32:TI:=tF (.slice none 0 0) false (some (155,6)) none false
theorem ok32:TI.Ok Tryz.prog 85 ti32:=okF Tryz.underlying85
def ti33:TI:=tA 25 #[.string ⟨#[]⟩,.string ⟨#[]⟩,.slice none 0 0,.bool false,.slice none 0 0,.bool false,.slice none 0 0,.bool false,.slice none 0 0,.bool false,.slice none 0 0,.int .i64 0,.int .i64 0,.bool false,.slice none 0 0,.bool false,.slice none 0 0,.bool false,.slice none 0 0,.bool false,.slice none 0 0,.int .i64 0,.slice none 0 0,.slice none 0 0,.slice none 0 0] #[(0,1),(1,1),(2,1),(3,4),(7,4),(11,1),(12,1),(13,4),(17,4),(21,1),(22,1),(23,1),(24,1)] #[false,false,false,true,true,false,false,true,true,false,false,false,false]
theorem ok33:TI.Ok Tryz.prog 87 ti33:=oA Tryz.underlying87
def ti34:TI:=tF (.slice none 0 0) false (some (2,1)) none false
theorem ok34:TI.Ok Tryz.prog 94 ti34:=okF Tryz.underlying94
def ti35:TI:=tF (.slice none 0 0) false (some (94,1)) none false
theorem ok35:TI.Ok Tryz.prog 95 ti35:=okF Tryz.underlying95
def ti36:TI:=tF (.pointer none) false none none true
theorem ok36:TI.Ok Tryz.prog 97 ti36:=okF Tryz.underlying97
def ti37:TI:=tF (.slice none 0 0) false (some (101,9)) none false
theorem ok37:TI.Ok Tryz.prog 99 ti37:=okF Tryz.underlying99
def ti38:TI:=tA 9 #[.int .u8 0,.bool false,.slice none 0 0,.bool false,.slice none 0 0,.bool false,.slice none 0 0,.bool false,.slice none 0 0] #[(0,1),(1,4),(5,4)] #[false,true,true]
theorem ok38:TI.Ok Tryz.prog 101 ti38:=oA Tryz.underlying101
def ti39:TI:=tA 2 #[.int .i64 0,.int .i64 0] #[(0,1),(1,1)] #[false,false]
theorem ok39:TI.Ok Tryz.prog 108 ti39:=oA Tryz.underlying108
def ti40:TI:=tF (.pointer none) false none none true
theorem ok40:TI.Ok Tryz.prog 112 ti40:=okF Tryz.underlying112
def ti41:TI:=tA 16 #[.bool false,.slice none 0 0,.bool false,.slice none 0 0,.bool false,.slice none 0 0,.bool false,.slice none 0 0,.bool false,.slice none 0 0,.bool false,.slice none 0 0,.bool false,.slice none 0 0,.bool false,.slice none 0 0] #[(0,16)] #[true]
theorem ok41:TI.Ok Tryz.prog 115 ti41:=oA Tryz.underlying115
def ti42:TI:=tF (.map none) false none none false
theorem ok42:TI.Ok Tryz.prog 116 ti42:=okF Tryz.underlying116
def ti43:TI:=tA 6 #[.string ⟨#[]⟩,.int .u8 0,.bool false,.slice none 0 0,.bool false,.slice none 0 0] #[(0,1),(1,1),(2,4)] #[false,false,true]
theorem ok43:TI.Ok Tryz.prog 127 ti43:=oA Tryz.underlying127
def ti44:TI:=tF (.slice none 0 0) false (some (131,1)) none false
theorem ok44:TI.Ok Tryz.prog 128 ti44:=okF Tryz.underlying128
def ti45:TI:=tA 1 #[.slice none 0 0] #[(0,1)] #[false]
theorem ok45:TI.Ok Tryz.prog 130 ti45:=oA Tryz.underlying130
def ti46:TI:=tF (.slice none 0 0) false (some (55,4)) none false
theorem ok46:TI.Ok Tryz.prog 131 ti46:=okF Tryz.underlying131
def ti47:TI:=tF (.slice none 0 0) false (some (136,6)) none false
theorem ok47:TI.Ok Tryz.prog 133 ti47:=okF Tryz.underlying133
def ti48:TI:=tA 6 #[.int .i64 0,.int .i64 0,.bool false,.slice none 0 0,.bool false,.slice none 0 0] #[(0,1),(1,1),(2,4)] #[false,false,true]
theorem ok48:TI.Ok Tryz.prog 136 ti48:=oA Tryz.underlying136
def ti49:TI:=tF (.slice none 0 0) false (some (139,9)) none false
theorem ok49:TI.Ok Tryz.prog 137 ti49:=okF Tryz.underlying137
def ti50:TI:=tA 9 #[.int .u8 0,.bool false,.slice none 0 0,.bool false,.slice none 0 0,.bool false,.slice none 0 0,.bool false,.slice none 0 0] #[(0,1),(1,4),(5,4)] #[false,true,true]
theorem ok50:TI.Ok Tryz.prog 139 ti50:=oA Tryz.underlying139
def ti51:TI:=tF (.slice none 0 0) false (some (57,16)) none false
theorem ok51:TI.Ok Tryz.prog 144 ti51:=okF Tryz.underlying144
def ti52:TI:=tA 8 #[.bool false,.slice none 0 0,.bool false,.slice none 0 0,.bool false,.slice none 0 0,.bool false,.slice none 0 0] #[(0,4),(4,4)] #[true,true]
theorem ok52:TI.Ok Tryz.prog 148 ti52:=oA Tryz.underlying148
def ti53:TI:=tF (.slice none 0 0) false (some (208,6)) none false
theorem ok53:TI.Ok Tryz.prog 149 ti53:=okF Tryz.underlying149
def ti54:TI:=tF (.slice none 0 0) false (some (160,6)) none false
theorem ok54:TI.Ok Tryz.prog 150 ti54:=okF Tryz.underlying150
def ti55:TI:=tF (.slice none 0 0) false (some (248,10)) none false
theorem ok55:TI.Ok Tryz.prog 151 ti55:=okF Tryz.underlying151
def ti56:TI:=tF (.slice none 0 0) false (some (211,9)) none false
theorem ok56:TI.Ok Tryz.prog 152 ti56:=okF Tryz.underlying152
def ti57:TI:=tF (.slice none 0 0) false (some (213,5)) none false
theorem ok57:TI.Ok Tryz.prog 153 ti57:=okF Tryz.underlying153
def ti58:TI:=tA 6 #[.int .i64 0,.slice none 0 0,.slice none 0 0,.slice none 0 0,.slice none 0 0,.slice none 0 0] #[(0,1),(1,1),(2,1),(3,1),(4,1),(5,1)] #[false,false,false,false,false,false]
theorem ok58:TI.Ok Tryz.prog 155 ti58:=oA Tryz.underlying155
def ti59:TI:=tA 6 #[.string ⟨#[]⟩,.string ⟨#[]⟩,.bool false,.slice none 0 0,.bool false,.slice none 0 0] #[(0,1),(1,1),(2,4)] #[false,false,true]
theorem ok59:TI.Ok Tryz.prog 160 ti59:=oA Tryz.underlying160
def ti60:TI:=tF (.slice none 0 0) false (some (177,6)) none false
theorem ok60:TI.Ok Tryz.prog 171 ti60:=okF Tryz.underlying171
def ti61:TI:=tA 1 #[.slice none 0 0] #[(0,1)] #[false]
theorem ok61:TI.Ok Tryz.prog 173 ti61:=oA Tryz.underlying173
def ti62:TI:=tA 1 #[.slice none 0 0] #[(0,1)] #[true]
theorem ok62:TI.Ok Tryz.prog 175 ti62:=oA Tryz.underlying175
def ti63:TI:=tA 6 #[.int .i64 0,.int .i64 0,.bool false,.slice none 0 0,.bool false,.slice none 0 0] #[(0,1),(1,1),(2,4)] #[false,false,true]
theorem ok63:TI.Ok Tryz.prog 177 ti63:=oA Tryz.underlying177
def ti64:TI:=tF (.int .u64 0) false none (some .u64) false
theorem ok64:TI.Ok Tryz.prog 188 ti64:=okF Tryz.underlying188
def ti65:TI:=tF (.int .u32 0) false none (some .u32) false
theorem ok65:TI.Ok Tryz.prog 191 ti65:=okF Tryz.underlying191
def ti66:TI:=tF (.int .u64 0) false none (some .u64) false
theorem ok66:TI.Ok Tryz.prog 192 ti66:=okF Tryz.underlying192
def ti67:TI:=tF (.slice none 0 0) false (some (47,16)) none false
theorem ok67:TI.Ok Tryz.prog 206 ti67:=okF Tryz.underlying206
def ti68:TI:=tA 6 #[.string ⟨#[]⟩,.string ⟨#[]⟩,.bool false,.slice none 0 0,.bool false,.slice none 0 0] #[(0,1),(1,1),(2,4)] #[false,false,true]
theorem ok68:TI.Ok Tryz.prog 208 ti68:=oA Tryz.underlying208
def ti69:TI:=tA 9 #[.string ⟨#[]⟩,.bool false,.slice none 0 0,.bool false,.slice none 0 0,.bool false,.slice none 0 0,.bool false,.slice none 0 0] #[(0,1),(1,4),(5,4)] #[false,true,true]
theorem ok69:TI.Ok Tryz.prog 211 ti69:=oA Tryz.underlying211
def ti70:TI:=tA 5 #[.string ⟨#[]⟩,.bool false,.slice none 0 0,.bool false,.slice none 0 0] #[(0,1),(1,4)] #[false,true]
theorem ok70:TI.Ok Tryz.prog 213 ti70:=oA Tryz.underlying213
def ti71:TI:=tA 2 #[.bool false,.slice none 0 0] #[(0,2)] #[true]
theorem ok71:TI.Ok Tryz.prog 222 ti71:=oA Tryz.underlying222
def ti72:TI:=tF (.pointer none) false none none true
theorem ok72:TI.Ok Tryz.prog 226 ti72:=okF Tryz.underlying226
def ti73:TI:=tA 4 #[.bool false,.slice none 0 0,.bool false,.slice none 0 0] #[(0,4)] #[true]
theorem ok73:TI.Ok Tryz.prog 237 ti73:=oA Tryz.underlying237
def ti74:TI:=tF (.slice none 0 0) false (some (5,1)) none false
theorem ok74:TI.Ok Tryz.prog 243 ti74:=okF Tryz.underlying243
def ti75:TI:=tA 10 #[.bool false,.string ⟨#[]⟩,.int .u8 0,.string ⟨#[]⟩,.string ⟨#[]⟩,.string ⟨#[]⟩,.bool false,.slice none 0 0,.bool false,.slice none 0 0] #[(0,1),(1,1),(2,1),(3,1),(4,1),(5,1),(6,4)] #[false,false,false,false,false,false,true]
theorem ok75:TI.Ok Tryz.prog 248 ti75:=oA Tryz.underlying248
def ti76:TI:=tF (.slice none 0 0) false (some (3,1)) none false
theorem ok76:TI.Ok Tryz.prog 272 ti76:=okF Tryz.underlying272
def ti77:TI:=tF (.slice none 0 0) false (some (30,1)) none false
theorem ok77:TI.Ok Tryz.prog 289 ti77:=okF Tryz.underlying289
def ti78:TI:=tF (.pointer none) false none none true
theorem ok78:TI.Ok Tryz.prog 305 ti78:=okF Tryz.underlying305
def ti79:TI:=tF (.pointer none) false none none true
theorem ok79:TI.Ok Tryz.prog 313 ti79:=okF Tryz.underlying313
def ti80:TI:=tF (.pointer none) false none none true
theorem ok80:TI.Ok Tryz.prog 332 ti80:=okF Tryz.underlying332
def ti81:TI:=tF (.slice none 0 0) false (some (4,1)) none false
theorem ok81:TI.Ok Tryz.prog 345 ti81:=okF Tryz.underlying345
def table (t:TypeId):Option TI:=
 bif Nat.beq t 2 then some ti0 else
 bif Nat.beq t 3 then some ti1 else
 bif Nat.beq t 4 then some ti2 else
 bif Nat.beq t 5 then some ti3 else
 bif Nat.beq t 9 then some ti4 else
 bif Nat.beq t 12 then some ti5 else
 bif Nat.beq t 22 then some ti6 else
 bif Nat.beq t 23 then some ti7 else
 bif Nat.beq t 26 then some ti8 else
 bif Nat.beq t 27 then some ti9 else
 bif Nat.beq t 30 then some ti10 else
 bif Nat.beq t 32 then some ti11 else
 bif Nat.beq t 34 then some ti12 else
 bif Nat.beq t 36 then some ti13 else
 bif Nat.beq t 38 then some ti14 else
 bif Nat.beq t 39 then some ti15 else
 bif Nat.beq t 41 then some ti16 else
 bif Nat.beq t 44 then some ti17 else
 bif Nat.beq t 47 then some ti18 else
 bif Nat.beq t 49 then some ti19 else
 bif Nat.beq t 53 then some ti20 else
 bif Nat.beq t 55 then some ti21 else
 bif Nat.beq t 57 then some ti22 else
 bif Nat.beq t 59 then some ti23 else
 bif Nat.beq t 62 then some ti24 else
 bif Nat.beq t 64 then some ti25 else
 bif Nat.beq t 66 then some ti26 else
 bif Nat.beq t 69 then some ti27 else
 bif Nat.beq t 72 then some ti28 else
 bif Nat.beq t 81 then some ti29 else
 bif Nat.beq t 83 then some ti30 else
 bif Nat.beq t 84 then some ti31 else
 bif Nat.beq t 85 then some ti32 else
 bif Nat.beq t 87 then some ti33 else
 bif Nat.beq t 94 then some ti34 else
 bif Nat.beq t 95 then some ti35 else
 bif Nat.beq t 97 then some ti36 else
 bif Nat.beq t 99 then some ti37 else
 bif Nat.beq t 101 then some ti38 else
 bif Nat.beq t 108 then some ti39 else
 bif Nat.beq t 112 then some ti40 else
 bif Nat.beq t 115 then some ti41 else
 bif Nat.beq t 116 then some ti42 else
 bif Nat.beq t 127 then some ti43 else
 bif Nat.beq t 128 then some ti44 else
 bif Nat.beq t 130 then some ti45 else
 bif Nat.beq t 131 then some ti46 else
 bif Nat.beq t 133 then some ti47 else
 bif Nat.beq t 136 then some ti48 else
 bif Nat.beq t 137 then some ti49 else
 bif Nat.beq t 139 then some ti50 else
 bif Nat.beq t 144 then some ti51 else
 bif Nat.beq t 148 then some ti52 else
 bif Nat.beq t 149 then some ti53 else
 bif Nat.beq t 150 then some ti54 else
 bif Nat.beq t 151 then some ti55 else
 bif Nat.beq t 152 then some ti56 else
 bif Nat.beq t 153 then some ti57 else
 bif Nat.beq t 155 then some ti58 else
 bif Nat.beq t 160 then some ti59 else
 bif Nat.beq t 171 then some ti60 else
 bif Nat.beq t 173 then some ti61 else
 bif Nat.beq t 175 then some ti62 else
 bif Nat.beq t 177 then some ti63 else
 bif Nat.beq t 188 then some ti64 else
 bif Nat.beq t 191 then some ti65 else
 bif Nat.beq t 192 then some ti66 else
 bif Nat.beq t 206 then some ti67 else
 bif Nat.beq t 208 then some ti68 else
 bif Nat.beq t 211 then some ti69 else
 bif Nat.beq t 213 then some ti70 else
 bif Nat.beq t 222 then some ti71 else
 bif Nat.beq t 226 then some ti72 else
 bif Nat.beq t 237 then some ti73 else
 bif Nat.beq t 243 then some ti74 else
 bif Nat.beq t 248 then some ti75 else
 bif Nat.beq t 272 then some ti76 else
 bif Nat.beq t 289 then some ti77 else
 bif Nat.beq t 305 then some ti78 else
 bif Nat.beq t 313 then some ti79 else
 bif Nat.beq t 332 then some ti80 else
 bif Nat.beq t 345 then some ti81 else none
theorem mN:∀ t i,table t=some i->TI.Ok Tryz.prog t i:=λt i=>tb ok0 (tb ok1 (tb ok2 (tb ok3 (tb ok4 (tb ok5 (tb ok6 (tb ok7 (tb ok8 (tb ok9 (tb ok10 (tb ok11 (tb ok12 (tb ok13 (tb ok14 (tb ok15 (tb ok16 (tb ok17 (tb ok18 (tb ok19 (tb ok20 (tb ok21 (tb ok22 (tb ok23 (tb ok24 (tb ok25 (tb ok26 (tb ok27 (tb ok28 (tb ok29 (tb ok30 (tb ok31 (tb ok32 (tb ok33 (tb ok34 (tb ok35 (tb ok36 (tb ok37 (tb ok38 (tb ok39 (tb ok40 (tb ok41 (tb ok42 (tb ok43 (tb ok44 (tb ok45 (tb ok46 (tb ok47 (tb ok48 (tb ok49 (tb ok50 (tb ok51 (tb ok52 (tb ok53 (tb ok54 (tb ok55 (tb ok56 (tb ok57 (tb ok58 (tb ok59 (tb ok60 (tb ok61 (tb ok62 (tb ok63 (tb ok64 (tb ok65 (tb ok66 (tb ok67 (tb ok68 (tb ok69 (tb ok70 (tb ok71 (tb ok72 (tb ok73 (tb ok74 (tb ok75 (tb ok76 (tb ok77 (tb ok78 (tb ok79 (tb ok80 (tb ok81 (λh=>by cases h))))))))))))))))))))))))))))))))))))))))))))))))))))))))))))))))))))))))))))))))))
abbrev UU:TypeId:=191
abbrev aR (P:Program) (w:World) (N:Nat):Cx:={ P:=P,w0:=w,N:=N,K:=KU UU,SU:=λt=>Nat.beq t 30,ti:=table,keep:=λ_ _=>trivial }
abbrev KI:KC:=⟨UU,λ_=>True,λt=>Nat.beq t 3⟩
abbrev CE (P:Program) (w:World) (N:Nat):Cx:={ P:=P,w0:=w,N:=N,K:=KI,SU:=λt=>Nat.beq t 30 || Nat.beq t 272,ti:=table,keep:=λ_ _=>trivial }
theorem kY (w:World) (N:Nat):(CE Tryz.prog w N).Ok:=mN
theorem iG (w:World) (N:Nat):(CE Tryz.prog w N).P.follows .mixedOrders=true:=by show Tryz.prog.follows .mixedOrders=true;kernel_rfl
abbrev Js (P:Program) (w:World) (N:Nat) (ad:List Nat) (hd:ad.Nodup) (ha:jZ (KU UU) ad w):Cx:=Ap P w N (KU UU) (λt=>Nat.beq t 30) table (λ_ _=>trivial) ad hd ha
theorem CF (w:World) (N:Nat) {ad:List Nat} {hd:ad.Nodup} {ha:jZ (KU UU) ad w}:(Js Tryz.prog w N ad hd ha).Ok:=mN
theorem FG (w:World) (N:Nat) {ad:List Nat} {hd:ad.Nodup} {ha:jZ (KU UU) ad w}:(Js Tryz.prog w N ad hd ha).P.follows .mixedOrders=true:=by show Tryz.prog.follows .mixedOrders=true;kernel_rfl
theorem bQ (w:World) (N:Nat):(aR Tryz.prog w N).Ok:=mN
theorem mO (w:World) (N:Nat):(aR Tryz.prog w N).P.follows .mixedOrders=true:=by show Tryz.prog.follows .mixedOrders=true;kernel_rfl
section
variable {C:Cx} {m:Option (List FuncId)} {full:Array Oper} {K:Fr->Hp->World->Prop} {F F':Fr} {H H':Hp} {w w1:World} {N:Nat} {o:Oper} {r l l':List Oper} {Q:Exit->Act->World->Prop} {k k':List It} {v:AV} {u:Option (Nat×(TypeId×List AV))} {id:Nat} {ops:Array Oper}
theorem wN (h:K F H w):ao C m full [] K F H w:=VO.nil h
theorem wV (e:lW C full 80 l F H=(l',F',H')) (h:ao C m full l' K F' H' w):ao C m full l K F H w:=VO.run 80 e h
theorem wO (e:stepOf C full F H o=.dp v u) (e':lW C full 80 r (F.bm o.dst v) (H.upd u)=(l',F',H')) (h:ao C m full l' K F' H' w):ao C m full (o::r) K F H w:=VO.op1 e (VO.run 80 e' h)
theorem wQ {x y:Code} (h:VS C Q (.code x::.code y::k) F H w):VS C Q (.code (.seq x y)::k) F H w:=VS.seq h
theorem FH (e:lW (aR Tryz.prog w1 N) ops 80 ops.toList F H=(l',F',H')) (h:ao (aR Tryz.prog w1 N) none ops l' (VS (aR Tryz.prog w1 N) Q k) F' H' w):VS (aR Tryz.prog w1 N) Q (.code (.region id ops false)::k) F H w:=VS.region (bQ _ _) (VO.run 80 e h)
theorem cx_d (e:lW (aR Tryz.prog w1 N) ops 80 ops.toList F H=(l',F',H')) (h:ao (aR Tryz.prog w1 N) (some []) ops l' (VS (aR Tryz.prog w1 N) Q k) F' H' w) (lV:jE (aR Tryz.prog w1 N).SU [] ops=true:=by kernel_rfl):VS (aR Tryz.prog w1 N) Q (.code (.region id ops true)::k) F H w:=VS.draw (bQ _ _) (mO _ _) [] lV (VO.run 80 e h)
theorem xh (e:lW (CE Tryz.prog w1 N) ops 80 ops.toList F H=(l',F',H')) (h:ao (CE Tryz.prog w1 N) none ops l' (VS (CE Tryz.prog w1 N) Q k) F' H' w):VS (CE Tryz.prog w1 N) Q (.code (.region id ops false)::k) F H w:=VS.region (kY _ _) (VO.run 80 e h)
theorem cxI_d (e:lW (CE Tryz.prog w1 N) ops 80 ops.toList F H=(l',F',H')) (h:ao (CE Tryz.prog w1 N) (some []) ops l' (VS (CE Tryz.prog w1 N) Q k) F' H' w) (lV:jE (CE Tryz.prog w1 N).SU [] ops=true:=by kernel_rfl):VS (CE Tryz.prog w1 N) Q (.code (.region id ops true)::k) F H w:=VS.draw (kY _ _) (iG _ _) [] lV (VO.run 80 e h)
theorem cxA_r {ad:List Nat} {hd:ad.Nodup} {ha:jZ (KU UU) ad w1} (e:lW (Js Tryz.prog w1 N ad hd ha) ops 80 ops.toList F H=(l',F',H')) (h:ao (Js Tryz.prog w1 N ad hd ha) none ops l' (VS (Js Tryz.prog w1 N ad hd ha) Q k) F' H' w):VS (Js Tryz.prog w1 N ad hd ha) Q (.code (.region id ops false)::k) F H w:=VS.region (CF _ _) (VO.run 80 e h)
theorem cxA_d {ad:List Nat} {hd:ad.Nodup} {ha:jZ (KU UU) ad w1} (e:lW (Js Tryz.prog w1 N ad hd ha) ops 80 ops.toList F H=(l',F',H')) (h:ao (Js Tryz.prog w1 N ad hd ha) (some []) ops l' (VS (Js Tryz.prog w1 N ad hd ha) Q k) F' H' w) (lV:jE (Js Tryz.prog w1 N ad hd ha).SU [] ops=true:=by kernel_rfl):VS (Js Tryz.prog w1 N ad hd ha) Q (.code (.region id ops true)::k) F H w:=VS.draw (CF _ _) (FG _ _) [] lV (VO.run 80 e h)
def peel (F:Fr):List It->Option (List It)
 | .code (.seq x y)::k=>some (.code x::.code y::k)
 | .code (.block id c)::k=>some (.code c::.nS id::k)
 | .nS _::k=>some k
 | .code .skip::k=>some k
 | .code (.exit id)::k=>pop id k
 | .code (.cond c x y)::k=>(match iq F c with
   | some (.bool true)=>some (.code x::k)
   | some (.bool false)=>some (.code y::k)
   | _=>none)
 | _=>none
theorem wP (e:peel F k=some k') (h:VS C Q k' F H w):VS C Q k F H w:=by
 unfold peel at e
 split at e
 ·cases e;exact VS.seq h
 ·cases e;exact VS.block h
 ·cases e;exact VS.nS h
 ·cases e;exact VS.skip h
 ·exact VS.exit e h
 ·split at e
  ·rename_i hc;cases e;exact VS.condT hc h
  ·rename_i hc;cases e;exact VS.condF hc h
  ·cases e
 ·cases e
theorem fk {P:Program} {g:FuncId} {fn:Func} (h:P.funcs[g]? =some fn) (h1:(fn.name == "runtime.NumGoroutine")=false:=by kernel_rfl) (h2:fn.body.isNone=false:=by kernel_rfl):iU P g:=⟨fn,h,h1,h2⟩
theorem kU (w:World):aY (KU UU) w w:=aY.refl _ _
theorem kT {k:KC} {a b c:World} (h:aY k a b) (h':aY k b c):aY k a c:=h.aA h'
end
end
section
open Go.RowKit
theorem ja (neg:Bool) (p:Option Addr) (n c:Nat) (w:World):
  Calls Tryz.prog 92 #[.bool neg,.slice p n c] w λe w'=>e=.returned (.agg #[.bool (neg && decide (0<n)),.slice p n c])/\ax w w':=by
 refine aD λR' bg=> ?_
 go_enter Tryz.func92,Tryz.ntmps92
 cases neg
 ·go_wp2
  exact bodyPost_ret (v:=.agg #[.bool false,.slice p n c]) (by simp[results,Tryz.results92,go_sem]) rfl (bg.out _ _ ⟨rfl,(ax.refl w).alloc _⟩)
 ·go_wp2
  exact bodyPost_ret (v:=.agg #[.bool (decide (0<n)),.slice p n c]) (by simp[results,Tryz.results92,go_sem]) rfl (bg.out _ _ ⟨rfl,(ax.refl w).alloc _⟩)
theorem ew (neg:Bool) (p:Option Addr) (n c:Nat) (w:World):
  Calls Tryz.prog 92 #[.bool neg,.slice p n c] w λe w'=>∃ sg,e=.returned (.agg #[.bool sg,.slice p n c])/\Hid (sg=(neg && decide (0<n)))/\ax w w':=
 (ja neg p n c w).mono λ_ _ ⟨h,hb⟩=>⟨_,h,Lib.hid rfl,hb⟩
theorem oB (neg:Bool) (xs:List Nat) (v:Value) (w:World) (h:eb w v neg xs):
  Calls Tryz.prog 150 #[v] w λe w'=>e=.returned (.bool (cK neg xs))/\ax w w':=by
 obtain⟨p,c,rfl,hr,hl⟩:=h
 obtain⟨p',c',hv,dk,dY,-⟩:=hr.u32
 simp only[Value.slice.injEq,true_and] at hv
 obtain⟨rfl,rfl⟩:=hv
 refine aD λR' bg=> ?_
 by_cases hx:xs=[]
 ·subst hx
  simp only[List.length_nil,oc] at*
  go_enter Tryz.func150,Tryz.ntmps150
  cases neg
  ·go_wp2
   exact bg.out _ _ ⟨rfl,(ax.refl w).alloc _⟩
  ·go_wp2
   exact bg.out _ _ ⟨rfl,(ax.refl w).alloc _⟩
 ·obtain⟨m,hm⟩:∃ m,xs.length=m+1:=⟨xs.length-1,by have:=List.length_pos_iff.2 hx;omega⟩
  generalize hn:xs.length=n at*
  obtain⟨b,off,x,rfl,hb,hxm,hc⟩:=hr.cellAt (k:=m) aa
  have h1:cK neg xs=decide (x≠0):=rT (by rw[hn,hm];exact hxm)
  rw[h1] at bg
  have hz:((n:Int) == 0)=false:=by rw[beq_eq_false_iff_ne];omega
  have hp:(0:Int)<(n:Int):=by omega
  have hw:IntKind.i64.wrap ((n:Int)-1)=(m:Int):=by rw[IntWalk.i64_in _ aa];omega
  have hlt:(m:Int)<(n:Int):=by omega
  have HN:=Lib.hid hn
  have hpn:0<n:=by omega
  clear hx hm hn h1 hxm hr hl
  go_enter Tryz.func150,Tryz.ntmps150
  by_cases lL:x=0
  ·subst lL
   cases neg
   ·go_wp2
    exact bg.out _ _ ⟨rfl,(ax.refl w).alloc _⟩
   ·go_wp2
    exact bg.out _ _ ⟨rfl,(ax.refl w).alloc _⟩
  ·have vW:((x:Int) != 0)=true:=by rw[bne_iff_ne];omega
   rw[decide_eq_true lL] at bg
   clear lL
   cases neg
   ·go_wp2
    exact bg.out _ _ ⟨rfl,(ax.refl w).alloc _⟩
   ·go_wp2
    exact bg.out _ _ ⟨rfl,(ax.refl w).alloc _⟩
theorem dS (v:Value) (X:Int) (k:Nat) (w0 w:World) (h:bk w0 v X k) (jR:ax w0 w):
  Calls Tryz.prog 140 #[v] w λe w'=>∃ u,e=.returned u/\bf w0 u X/\ax w w':=by
 obtain⟨neg,xs,hn,rfl,hk⟩:=h
 refine aD λR' bg=> ?_
 have HN:=Lib.hid hn
 obtain⟨p,c,rfl,hr,hl⟩:=hn
 clear hr
 go_enter Tryz.func140,Tryz.ntmps140
 go_wp2_with fail
 refine (oB neg xs _ _ ((HN.out.bq jR).bq (((ax.refl w).alloc _).alloc _))).mono ?_
 rintro e w1 ⟨rfl,aC⟩
 obtain⟨b1,b2,jL⟩:=jB w 32 222 #[.bool neg,.slice p xs.length c] #[.bool false,.slice none 0 0]
 obtain⟨c1,c2,_,_⟩:=(b1.bq aC).two
 obtain⟨c3,c4,f3,f4⟩:=(b2.bq aC).two
 have xJ:ax w w1:=jL.aA aC
 cases hnr:cK neg xs
 ·have B2:=(b2.bq aC).bj (.bool false) (.slice none 0 0)
  have rS:=xJ.bj (b:=w.heap.size+1) aa (.bool false) (.slice none 0 0)
  go_wp2
  generalize (w1.setCell ⟨w.heap.size+1,0,none⟩ (.bool false)).setCell ⟨w.heap.size+1,1,none⟩ (.slice none 0 0)=w2 at*
  obtain⟨d1,d2,_,_⟩:=B2.two
  refine bodyPost_ret (v:=.agg #[.bool false,.slice none 0 0]) (by simp[results,Tryz.results140,go_sem,d1,d2]) rfl (bg.out _ _ ⟨_,rfl,?_,rS⟩)
  rw[numOf,if_neg (by simp[hnr])]
  exact bf.zero _
 ·have B2:=(b2.bq aC).bj (.bool neg) (.slice p xs.length c)
  have rS:=xJ.bj (b:=w.heap.size+1) aa (.bool neg) (.slice p xs.length c)
  go_wp2
  generalize (w1.setCell ⟨w.heap.size+1,0,none⟩ (.bool neg)).setCell ⟨w.heap.size+1,1,none⟩ (.slice p xs.length c)=w2 at*
  obtain⟨d1,d2,_,_⟩:=B2.two
  refine bodyPost_ret (v:=.agg #[.bool neg,.slice p xs.length c]) (by simp[results,Tryz.results140,go_sem,d1,d2]) rfl (bg.out _ _ ⟨_,rfl,?_,rS⟩)
  rw[numOf,if_pos hnr]
  obtain⟨h1,h2⟩:=canon hl hnr
  have:=HN.out
  show eb _ _ _ _
  rw[<-h1,<-h2]
  exact this
end
section
open Go.RowKit
theorem bf.split {w:World} {v:Value} {X:Int} (h:bf w v X):∃ s p c,v=.agg #[.bool s,.slice p (limbs X.natAbs).length c]/\Rd w 1 (.slice p (limbs X.natAbs).length c) (limbs X.natAbs).length (ints .u32 (limbs X.natAbs))/\X=if s=true then-(X.natAbs:Int) else (X.natAbs:Int):=by
 obtain⟨p,c,hv,hr,_⟩:=h
 refine⟨_,p,c,hv,hr,?_⟩
 split
 ·rename_i h;have:=of_decide_eq_true h;omega
 ·rename_i h;have:¬ X<0:=λh'=>h (decide_eq_true h');omega
theorem uF (v:Value) (X:Int) (w:World) (h:bf w v X):
  Calls Tryz.prog 151 #[v] w λe w'=>∃ u,e=.returned u/\bf w' u (-X)/\ax w w':=by
 obtain⟨s,p,c,rfl,hr,hX⟩:=h.split
 obtain⟨n,hn⟩:∃ n,n=(limbs X.natAbs).length:=⟨_,rfl⟩
 have HR:=Lib.hid hr
 have HN:=Lib.hid hn
 have HX:=Lib.hid hX
 rw[<-hn]
 clear hr hn hX h
 refine aD λR' bg=> ?_
 obtain⟨b1,b2,jL⟩:=jB w 222 222 #[.bool s,.slice p n c] #[.bool false,.slice none 0 0]
 go_enter Tryz.func151,Tryz.ntmps151
 go_wp2_with fail
 refine (ja _ _ _ _ _).mono ?_
 rintro e w1 ⟨rfl,aC⟩
 obtain⟨c3,c4,f3,f4⟩:=(b2.bq aC).two
 have B2:=(b2.bq aC).bj (.bool (!s && decide (0<n))) (.slice p n c)
 have rS:=(jL.aA aC).bj (b:=w.heap.size+1) aa (.bool (!s && decide (0<n))) (.slice p n c)
 go_wp2
 generalize (w1.setCell ⟨w.heap.size+1,0,none⟩ (.bool (!s && decide (0<n)))).setCell ⟨w.heap.size+1,1,none⟩ (.slice p n c)=w2 at*
 obtain⟨d1,d2,_,_⟩:=B2.two
 refine bodyPost_ret (v:=.agg #[.bool (!s && decide (0<n)),.slice p n c]) (by simp[results,Tryz.results151,go_sem,d1,d2]) rfl (bg.out _ _ ⟨_,rfl,?_,rS⟩)
 have kG:=HR.out.below rS
 rw[<-HN.out] at kG
 refine bf.of (m:=X.natAbs) (by rw[<-HN.out];exact kG) HN.out _ ?_
 rw[HX.out]
 cases s <;> simp
theorem Ar (v u:Value) (X Y:Int) (w:World) (hv:bf w v X) (hu:bf w u Y) (hx:(limbs X.natAbs).length<=1073741824) (hy:(limbs Y.natAbs).length<=1073741824):
  Calls Tryz.prog 148 #[v,u] w λe w'=>∃ r,e=.returned r/\aj w' w.heap.size r (X+Y)/\ax w w':=by
 obtain⟨s,p,c,rfl,jK,hX⟩:=hv.split
 obtain⟨t,q,d,rfl,kG,hY⟩:=hu.split
 obtain⟨n,hn⟩:∃ n,n=(limbs X.natAbs).length:=⟨_,rfl⟩
 obtain⟨m,hm⟩:∃ m,m=(limbs Y.natAbs).length:=⟨_,rfl⟩
 rw[<-hn] at jK hx ⊢
 rw[<-hm] at kG hy ⊢
 clear hv hu
 refine aD λR' bg=> ?_
 obtain⟨b1,b2,b3,jL⟩:=kK w 222 222 32 #[.bool s,.slice p n c] #[.bool t,.slice q m d] #[.bool false,.slice none 0 0]
 have r10:=Lib.hid jK
 have r20:=Lib.hid kG
 have r1:=Lib.hid (jK.below jL)
 have r2:=Lib.hid (kG.below jL)
 have HX:=Lib.hid hX
 have HY:=Lib.hid hY
 have HN:=Lib.hid hn
 have HM:=Lib.hid hm
 clear jK kG hX hY hn hm
 go_enter Tryz.func148,Tryz.ntmps148
 by_cases hst:s=t
 ·subst hst
  go_wp2_with fail
  generalize ((w.alloc _).alloc _).alloc _=W at*
  obtain⟨c1,c2,_,_⟩:=b1.two
  obtain⟨c3,c4,_,_⟩:=b2.two
  obtain⟨c5,c6,f5,f6⟩:=b3.two
  have HS:=Lib.hid (λw' (h:ak W (w.heap.size+1+1) w')=>And.intro (h.cells b1 aa) (h.cells b2 aa))
  go_region_held3 (λw'=>(w'.cell? ⟨w.heap.size,0,none⟩=some (.bool s)/\w'.cell? ⟨w.heap.size,1,none⟩=some (.slice p n c))/\w'.cell? ⟨w.heap.size+1,0,none⟩=some (.bool s)/\w'.cell? ⟨w.heap.size+1,1,none⟩=some (.slice q m d)) ((refine HS.out _ ?_;(with_reducible (repeat (first|exact ak.refl _ _|refine ak.drew ?_|refine ak.drewN ?_ _|refine ak.alloc ?_ _|refine ak.set ?_ _|refine ak.aA ?_ (by assumption)|refine ak.mn ?_ (by first|omega|(simp;done)|(simp;omega)) _))))) (first
   | (go_at_call 177;refine (DD _ _ n m _ _ _ r1.out.drew r2.out.drew (ai _) (ai _) aa aa).mono ?_;rintro e w1 ⟨v1,rfl,ry,aC⟩;replace aC:ax _ w1:=aC;rw[ah,ah] at ry;obtain⟨p1,k1,rfl,_,_,_⟩:=Own.form ry)
   | (go_at_call 92;refine (ja _ _ _ _ _).mono ?_;rintro e w2 ⟨rfl,aQ⟩;obtain⟨c5',c6',f5',f6'⟩:=((b3.drew.bq aC).bq aQ).two))
  have B3:=((b3.drew.bq aC).bq aQ).bj (.bool (s && decide (0<(limbs (X.natAbs+Y.natAbs)).length))) (.slice p1 (limbs (X.natAbs+Y.natAbs)).length k1)
  have xJ:ax w w2:=jL.aA (ax.aA (ax.aA (ax.refl W).drew aC) aQ)
  have Hu:=xJ.bj (b:=w.heap.size+1+1) aa (.bool (s && decide (0<(limbs (X.natAbs+Y.natAbs)).length))) (.slice p1 (limbs (X.natAbs+Y.natAbs)).length k1)
  have CG:=Own.below ry aQ
  generalize hL:(limbs (X.natAbs+Y.natAbs)).length=L at*
  have Iu:=Lib.hid (Own.bj (b:=w.heap.size+1+1) CG (b3.drew.bq aC |>.bq aQ) ff (.bool (s && decide (0<L))) (.slice p1 L k1))
  clear CG ry xJ
  go_wp2
  generalize (w2.setCell ⟨w.heap.size+1+1,0,none⟩ (.bool (s && decide (0<L)))).setCell ⟨w.heap.size+1+1,1,none⟩ (.slice p1 L k1)=w3 at*
  obtain⟨d1,d2,_,_⟩:=B3.two
  refine bodyPost_ret (v:=.agg #[.bool (s && decide (0<L)),.slice p1 L k1]) (by simp[results,Tryz.results148,go_sem,d1,d2]) rfl (bg.out _ _ ⟨_,rfl,?_,Hu⟩)
  refine aj.of (m:=X.natAbs+Y.natAbs) (by rw[hL];exact Own.mono Iu.out jL.size) hL.symm _ ?_
  rw[HX.out,HY.out]
  cases s <;> simp <;> omega
 ·have hst':(s == t)=false:=by cases s <;> cases t <;> simp_all
  go_wp2_with fail
  generalize ((w.alloc _).alloc _).alloc _=W at*
  refine (xK _ _ n m _ _ _ r1.out r2.out (ai _) (ai _)).mono ?_
  rintro e w1 ⟨rfl,k1,rfl⟩
  rw[ah,ah]
  by_cases hlt:X.natAbs<Y.natAbs
  ·have HLT:=Lib.hid hlt
   have hc:eN X.natAbs Y.natAbs<0:=gU.2 hlt
   generalize eN X.natAbs Y.natAbs=cv at hc ⊢
   obtain⟨c1,c2,f1,f2⟩:=(b1.drewN k1).two
   obtain⟨c3,c4,f3,f4⟩:=(b2.drewN k1).two
   have B1:=((b1.drewN k1).bj (.bool t) (.slice q m d)).cY (b':=w.heap.size+1) aa (.bool s) (.slice p n c)
   have B2:=((b2.drewN k1).cY (b':=w.heap.size) aa (.bool t) (.slice q m d)).bj (.bool s) (.slice p n c)
   have B3:=((b3.drewN k1).cY (b':=w.heap.size) aa (.bool t) (.slice q m d)).cY (b':=w.heap.size+1) aa (.bool s) (.slice p n c)
   have fj:=((jL.drewN k1).bj (b:=w.heap.size) aa (.bool t) (.slice q m d)).bj (b:=w.heap.size+1) aa (.bool s) (.slice p n c)
   clear jL b1 b2 b3 r1 r2 hlt
   go_wp2_with fail
   generalize ((((W.drewN k1).setCell ⟨w.heap.size,0,none⟩ (.bool t)).setCell ⟨w.heap.size,1,none⟩ (.slice q m d)).setCell ⟨w.heap.size+1,0,none⟩ (.bool s)).setCell ⟨w.heap.size+1,1,none⟩ (.slice p n c)=W2 at*
   clear c1 c2 c3 c4 f1 f2 f3 f4
   refine (xR _ _ m n _ _ _ (r20.out.below fj) (r10.out.below fj) (ai _) (ai _) aa).mono ?_
   rintro e w2 ⟨⟨h,_⟩|⟨_,v2,rfl,Ed⟩,aQ⟩
   ·rw[ah,ah] at h;exact absurd h (by have:=HLT.out;omega)
   replace aQ:ax _ w2:=aQ
   rw[ah,ah] at Ed
   obtain⟨p2,k2,rfl,_,_,_⟩:=Own.form Ed
   obtain⟨e1,e2,_,_⟩:=(B1.bq aQ).two
   have E3:=B3.bq aQ
   have hbw2:=fj.aA aQ
   generalize hL:(limbs (Y.natAbs-X.natAbs)).length=L at*
   have lQ:=Lib.hid (Own.mono Ed fj.size)
   have HL:=Lib.hid hL
   clear Ed hL B1 B2 B3 fj aQ
   go_wp2_with fail
   refine (ja _ _ _ _ _).mono ?_
   rintro e w3 ⟨rfl,bM⟩
   have F3:=E3.bq bM
   obtain⟨e5,e6,g5,g6⟩:=F3.two
   have Iu:=Lib.hid (Own.bj (b:=w.heap.size+1+1) (Own.below lQ.out bM) F3 ff (.bool (t && decide (0<L))) (.slice p2 L k2))
   have G3:=F3.bj (.bool (t && decide (0<L))) (.slice p2 L k2)
   have Hu:=(hbw2.aA bM).bj (b:=w.heap.size+1+1) aa (.bool (t && decide (0<L))) (.slice p2 L k2)
   clear lQ E3 F3
   go_wp2
   generalize (w3.setCell ⟨w.heap.size+1+1,0,none⟩ (.bool (t && decide (0<L)))).setCell ⟨w.heap.size+1+1,1,none⟩ (.slice p2 L k2)=w4 at*
   obtain⟨d1,d2,_,_⟩:=G3.two
   refine bodyPost_ret (v:=.agg #[.bool (t && decide (0<L)),.slice p2 L k2]) (by simp[results,Tryz.results148,go_sem,d1,d2]) rfl (bg.out _ _ ⟨_,rfl,?_,Hu⟩)
   refine aj.of (m:=Y.natAbs-X.natAbs) (by rw[HL.out];exact Iu.out) HL.out.symm _ ?_
   rw[HX.out,HY.out]
   have:=HLT.out
   cases s <;> cases t <;> simp at hst ⊢ <;> omega
  ·have HLT:=Lib.hid hlt
   have hc:0<=eN X.natAbs Y.natAbs:=by have:=mt (@gU X.natAbs Y.natAbs).1 hlt;omega
   generalize eN X.natAbs Y.natAbs=cv at hc ⊢
   have B1:=b1.drewN k1
   have B2:=b2.drewN k1
   have B3:=b3.drewN k1
   have fj:=jL.drewN k1
   obtain⟨c1,c2,f1,f2⟩:=B1.two
   obtain⟨c3,c4,f3,f4⟩:=B2.two
   clear jL b1 b2 b3 r1 r2 hlt
   go_wp2_with fail
   generalize W.drewN k1=W2 at*
   clear c1 c2 c3 c4 f1 f2 f3 f4
   refine (xR _ _ n m _ _ _ (r10.out.below fj) (r20.out.below fj) (ai _) (ai _) aa).mono ?_
   rintro e w2 ⟨⟨h,_⟩|⟨_,v2,rfl,Ed⟩,aQ⟩
   ·rw[ah,ah] at h;exact absurd h (by have:=HLT.out;omega)
   replace aQ:ax _ w2:=aQ
   rw[ah,ah] at Ed
   obtain⟨p2,k2,rfl,_,_,_⟩:=Own.form Ed
   obtain⟨e1,e2,_,_⟩:=(B1.bq aQ).two
   have E3:=B3.bq aQ
   have hbw2:=fj.aA aQ
   generalize hL:(limbs (X.natAbs-Y.natAbs)).length=L at*
   have lQ:=Lib.hid (Own.mono Ed fj.size)
   have HL:=Lib.hid hL
   clear Ed hL B1 B2 B3 fj aQ
   go_wp2_with fail
   refine (ja _ _ _ _ _).mono ?_
   rintro e w3 ⟨rfl,bM⟩
   have F3:=E3.bq bM
   obtain⟨e5,e6,g5,g6⟩:=F3.two
   have Iu:=Lib.hid (Own.bj (b:=w.heap.size+1+1) (Own.below lQ.out bM) F3 ff (.bool (s && decide (0<L))) (.slice p2 L k2))
   have G3:=F3.bj (.bool (s && decide (0<L))) (.slice p2 L k2)
   have Hu:=(hbw2.aA bM).bj (b:=w.heap.size+1+1) aa (.bool (s && decide (0<L))) (.slice p2 L k2)
   clear lQ E3 F3
   go_wp2
   generalize (w3.setCell ⟨w.heap.size+1+1,0,none⟩ (.bool (s && decide (0<L)))).setCell ⟨w.heap.size+1+1,1,none⟩ (.slice p2 L k2)=w4 at*
   obtain⟨d1,d2,_,_⟩:=G3.two
   refine bodyPost_ret (v:=.agg #[.bool (s && decide (0<L)),.slice p2 L k2]) (by simp[results,Tryz.results148,go_sem,d1,d2]) rfl (bg.out _ _ ⟨_,rfl,?_,Hu⟩)
   refine aj.of (m:=X.natAbs-Y.natAbs) (by rw[HL.out];exact Iu.out) HL.out.symm _ ?_
   rw[HX.out,HY.out]
   have:=HLT.out
   cases s <;> cases t <;> simp at hst ⊢ <;> omega
end
section
open Go.RowKit
theorem fu {w w':World} (h:ax w w':=by (with_reducible (repeat (first|assumption|exact ax.refl _|refine ax.drew ?_|refine ax.drewN ?_ _|refine ax.alloc ?_ _|refine ax.aA ?_ (by assumption)|refine ax.setCell ?_ (by first|omega|(simp;done)|(simp;omega)) _)))):ax w w':=h
theorem uG (v u:Value) (X Y:Int) (j k:Nat) (w:World) (hv:bk w v X j) (hu:bk w u Y k) (hj:j<=1073741824) (hk:k<=1073741824):
  Calls Tryz.prog 95 #[v,u] w λe w'=>∃ r,e=.returned r/\aj w' w.heap.size r (X+Y)/\ax w w':=by
 obtain⟨s,p,n,c,rfl⟩:=hv.form
 obtain⟨t,q,m,d,rfl⟩:=hu.form
 refine aD λR' bg=> ?_
 obtain⟨b1,b2,b3,jL⟩:=kK w 32 32 32 #[.bool s,.slice p n c] #[.bool t,.slice q m d] #[.bool false,.slice none 0 0]
 have oU:=hv.len
 have lU:=hu.len
 have HV:=Lib.hid hv
 have HU:=Lib.hid hu
 have hsz:w.heap.size+3<=(((w.alloc (.cells #[.bool s,.slice p n c] 32)).alloc (.cells #[.bool t,.slice q m d] 32)).alloc (.cells #[.bool false,.slice none 0 0] 32)).heap.size:=by simp
 clear hv hu
 go_enter Tryz.func95,Tryz.ntmps95
 go_wp2_with fail
 generalize ((w.alloc _).alloc _).alloc _=W at*
 have HS:=Lib.hid (λw' (h:ak W (w.heap.size+1+1) w')=>And.intro (h.cells b1 aa) (h.cells b2 aa))
 obtain⟨c1,c2,_,_⟩:=b1.two
 obtain⟨c3,c4,_,_⟩:=b2.two
 obtain⟨c5,c6,f5,f6⟩:=b3.two
 go_region_held3 (λw'=>(w'.cell? ⟨w.heap.size,0,none⟩=some (.bool s)/\w'.cell? ⟨w.heap.size,1,none⟩=some (.slice p n c))/\w'.cell? ⟨w.heap.size+1,0,none⟩=some (.bool t)/\w'.cell? ⟨w.heap.size+1,1,none⟩=some (.slice q m d)) ((refine HS.out _ ?_;(with_reducible (repeat (first|exact ak.refl _ _|refine ak.drew ?_|refine ak.drewN ?_ _|refine ak.alloc ?_ _|refine ak.set ?_ _|refine ak.aA ?_ (by assumption)|refine ak.mn ?_ (by first|omega|(simp;done)|(simp;omega)) _))))) (first
  | (go_at_call_of 140 (Value.slice p n c);refine (dS _ X j w _ HV.out fu).mono ?_;rintro e w1 ⟨u1,rfl,yg,aC⟩)
  | (go_at_call_of 140 (Value.slice q m d);refine (dS _ Y k w _ HU.out fu).mono ?_;rintro e w2 ⟨u2,rfl,yJ,aQ⟩)
  | (go_at_call 148;refine (Ar _ _ X Y _ (yg.bq fu) (yJ.bq fu) (Nat.le_trans oU hj) (Nat.le_trans lU hk)).mono ?_;rintro e w3 ⟨r,rfl,aw,bM⟩;obtain⟨sg,pp,nn,cc,rfl⟩:=aw.form;obtain⟨e5,e6,g5,g6⟩:=(aW.bq (w':=w3) b3 fu).two)
  | fail)
 have FC:=(aW.bq (w':=w3) b3 fu)
 have FB:ax w w3:=fu
 have FZ:ax w w2:=fu
 have HO:=Lib.hid (aw.bj FC ff (.bool sg) (.slice pp nn cc))
 clear aw
 have yh:=FC.bj (.bool (sg)) (.slice pp (nn) cc)
 have yi:=ax.bj FB (b:=w.heap.size+1+1) aa (.bool (sg)) (.slice pp (nn) cc)
 go_wp2
 generalize (w3.setCell ⟨w.heap.size+1+1,0,none⟩ (.bool (sg))).setCell ⟨w.heap.size+1+1,1,none⟩ (.slice pp (nn) cc)=wz at*
 obtain⟨yj,yk,_,_⟩:=yh.two
 refine bodyPost_ret (v:=.agg #[.bool (sg),.slice pp (nn) cc]) (by simp[results,Tryz.results95,go_sem,yj,yk]) rfl (bg.out _ _ ?_)
 exact⟨_,rfl,HO.out.mono FZ.size,yi⟩
theorem Jt (v u:Value) (X Y:Int) (j k:Nat) (w:World) (hv:bk w v X j) (hu:bk w u Y k) (hj:j<=1073741824) (hk:k<=1073741824):
  Calls Tryz.prog 113 #[v,u] w λe w'=>∃ r,e=.returned r/\aj w' w.heap.size r (X-Y)/\ax w w':=by
 obtain⟨s,p,n,c,rfl⟩:=hv.form
 obtain⟨t,q,m,d,rfl⟩:=hu.form
 refine aD λR' bg=> ?_
 obtain⟨b1,b2,b3,jL⟩:=kK w 32 32 32 #[.bool s,.slice p n c] #[.bool t,.slice q m d] #[.bool false,.slice none 0 0]
 have oU:=hv.len
 have lU:=hu.len
 have HV:=Lib.hid hv
 have HU:=Lib.hid hu
 have hsz:w.heap.size+3<=(((w.alloc (.cells #[.bool s,.slice p n c] 32)).alloc (.cells #[.bool t,.slice q m d] 32)).alloc (.cells #[.bool false,.slice none 0 0] 32)).heap.size:=by simp
 clear hv hu
 go_enter Tryz.func113,Tryz.ntmps113
 go_wp2_with fail
 generalize ((w.alloc _).alloc _).alloc _=W at*
 have HS:=Lib.hid (λw' (h:ak W (w.heap.size+1+1) w')=>And.intro (h.cells b1 aa) (h.cells b2 aa))
 obtain⟨c1,c2,_,_⟩:=b1.two
 obtain⟨c3,c4,_,_⟩:=b2.two
 obtain⟨c5,c6,f5,f6⟩:=b3.two
 go_region_held3 (λw'=>(w'.cell? ⟨w.heap.size,0,none⟩=some (.bool s)/\w'.cell? ⟨w.heap.size,1,none⟩=some (.slice p n c))/\w'.cell? ⟨w.heap.size+1,0,none⟩=some (.bool t)/\w'.cell? ⟨w.heap.size+1,1,none⟩=some (.slice q m d)) ((refine HS.out _ ?_;(with_reducible (repeat (first|exact ak.refl _ _|refine ak.drew ?_|refine ak.drewN ?_ _|refine ak.alloc ?_ _|refine ak.set ?_ _|refine ak.aA ?_ (by assumption)|refine ak.mn ?_ (by first|omega|(simp;done)|(simp;omega)) _))))) (first
  | (go_at_call_of 140 (Value.slice p n c);refine (dS _ X j w _ HV.out fu).mono ?_;rintro e w1 ⟨u1,rfl,yg,aC⟩)
  | (go_at_call_of 140 (Value.slice q m d);refine (dS _ Y k w _ HU.out fu).mono ?_;rintro e w2 ⟨u2,rfl,yJ,aQ⟩)
  | (go_at_call 151;refine (uF _ Y _ (yJ.bq fu)).mono ?_;rintro e w4 ⟨u4,rfl,hu4,fb⟩)
  | (go_at_call 148;refine (Ar _ _ X (-Y) _ (yg.bq fu) (hu4.bq fu) (Nat.le_trans oU hj) (by rw[Int.natAbs_neg];exact Nat.le_trans lU hk)).mono ?_;rintro e w3 ⟨r,rfl,aw,bM⟩;obtain⟨sg,pp,nn,cc,rfl⟩:=aw.form;obtain⟨e5,e6,g5,g6⟩:=(aW.bq (w':=w3) b3 fu).two)
  | fail)
 rw[<-Int.sub_eq_add_neg] at aw
 have FC:=(aW.bq (w':=w3) b3 fu)
 have FB:ax w w3:=fu
 have FZ:ax w w4:=fu
 have HO:=Lib.hid (aw.bj FC ff (.bool sg) (.slice pp nn cc))
 clear aw
 have yh:=FC.bj (.bool (sg)) (.slice pp (nn) cc)
 have yi:=ax.bj FB (b:=w.heap.size+1+1) aa (.bool (sg)) (.slice pp (nn) cc)
 go_wp2
 generalize (w3.setCell ⟨w.heap.size+1+1,0,none⟩ (.bool (sg))).setCell ⟨w.heap.size+1+1,1,none⟩ (.slice pp (nn) cc)=wz at*
 obtain⟨yj,yk,_,_⟩:=yh.two
 refine bodyPost_ret (v:=.agg #[.bool (sg),.slice pp (nn) cc]) (by simp[results,Tryz.results113,go_sem,yj,yk]) rfl (bg.out _ _ ?_)
 exact⟨_,rfl,HO.out.mono FZ.size,yi⟩
def Ee (w W wc:World) (T:TypeId) (X Y:Int) (x y:Value):Prop:=∃ g h s1 p1 n1 k1 s2 p2 n2 k2,x=.pointer (some ⟨g,0,none⟩)/\y=.pointer (some ⟨h,0,none⟩)/\aW wc g T #[.bool s1,.slice p1 n1 k1]/\aW wc h T #[.bool s2,.slice p2 n2 k2]/\
 bf w (.agg #[.bool s1,.slice p1 n1 k1]) X/\bf w (.agg #[.bool s2,.slice p2 n2 k2]) Y/\ax W wc
theorem jb (v u:Value) (X Y:Int) (j k:Nat) (w:World) (hv:bk w v X j) (hu:bk w u Y k) (hj:j<=536870912) (hk:k<=536870912):
  Calls Tryz.prog 96 #[v,u] w λe w'=>∃ r,e=.returned r/\aj w' w.heap.size r (X*Y)/\ax w w':=by
 obtain⟨s,p,n,c,rfl⟩:=hv.form
 obtain⟨t,q,m,d,rfl⟩:=hu.form
 refine aD λR' bg=> ?_
 obtain⟨b1,b2,b3,jL⟩:=kK w 32 32 32 #[.bool s,.slice p n c] #[.bool t,.slice q m d] #[.bool false,.slice none 0 0]
 have oU:=hv.len
 have lU:=hu.len
 have HV:=Lib.hid hv
 have HU:=Lib.hid hu
 have hsz:w.heap.size+3<=(((w.alloc (.cells #[.bool s,.slice p n c] 32)).alloc (.cells #[.bool t,.slice q m d] 32)).alloc (.cells #[.bool false,.slice none 0 0] 32)).heap.size:=by simp
 clear hv hu
 go_enter Tryz.func96,Tryz.ntmps96
 go_wp2_with fail
 generalize ((w.alloc _).alloc _).alloc _=W at*
 have HS:=Lib.hid (λw' (h:ak W (w.heap.size+1+1) w')=>And.intro (h.cells b1 aa) (h.cells b2 aa))
 obtain⟨c1,c2,_,_⟩:=b1.two
 obtain⟨c3,c4,_,_⟩:=b2.two
 obtain⟨c5,c6,f5,f6⟩:=b3.two
 go_cut [5,6] (λx5 x6 wc=>Ee w W wc 222 X Y x5 x6)
 case first=>
  go_region_held3 (λw'=>(w'.cell? ⟨w.heap.size,0,none⟩=some (.bool s)/\w'.cell? ⟨w.heap.size,1,none⟩=some (.slice p n c))/\w'.cell? ⟨w.heap.size+1,0,none⟩=some (.bool t)/\w'.cell? ⟨w.heap.size+1,1,none⟩=some (.slice q m d)) ((refine HS.out _ ?_;(with_reducible (repeat (first|exact ak.refl _ _|refine ak.drew ?_|refine ak.drewN ?_ _|refine ak.alloc ?_ _|refine ak.set ?_ _|refine ak.aA ?_ (by assumption)|refine ak.mn ?_ (by first|omega|(simp;done)|(simp;omega)) _))))) (first
   | (go_at_call_of 140 (Value.slice p n c);refine (dS _ X j w _ HV.out fu).mono ?_;rintro e w1 ⟨u1,rfl,yg,aC⟩;obtain⟨s1,p1,n1,k1,rfl⟩:=yg.eD;have vI:=aC.size;(try simp at vI);(try (have q1:=aW.bq (aW.drew (aW.new _ _ #[_,_])) aC;(try simp at q1);obtain⟨q1a,q1b,q1c,q1d⟩:=q1.two;have q1l:=q1.lt;have q1n:=Nat.ne_of_lt q1l;have q1m:=Nat.ne_of_gt q1l));(try (have q2:=aW.bq (aW.drew (aW.alloc (aW.new _ _ #[_,_]) _)) aC;(try simp at q2);obtain⟨q2a,q2b,q2c,q2d⟩:=q2.two;have q2l:=q2.lt;have q2n:=Nat.ne_of_lt q2l;have q2m:=Nat.ne_of_gt q2l)))
   | (go_at_call_of 140 (Value.slice q m d);refine (dS _ Y k w _ HU.out fu).mono ?_;rintro e w2 ⟨u2,rfl,yJ,aQ⟩;obtain⟨s2,p2,n2,k2,rfl⟩:=yJ.eD;have hs2:=aQ.size;(try simp at hs2);(try (have q3:=aW.bq (aW.new _ _ #[_,_]) aQ;(try simp at q3);obtain⟨q3a,q3b,q3c,q3d⟩:=q3.two;have q3l:=q3.lt;have q3n:=Nat.ne_of_lt q3l;have q3m:=Nat.ne_of_gt q3l));(try (have q4:=aW.bq (aW.alloc (aW.new _ _ #[_,_]) _) aQ;(try simp at q4);obtain⟨q4a,q4b,q4c,q4d⟩:=q4.two;have q4l:=q4.lt;have q4n:=Nat.ne_of_lt q4l;have q4m:=Nat.ne_of_gt q4l));(try (have q5:=aW.bq q1 aQ;(try simp at q5);obtain⟨q5a,q5b,q5c,q5d⟩:=q5.two;have q5l:=q5.lt;have q5n:=Nat.ne_of_lt q5l;have q5m:=Nat.ne_of_gt q5l));(try (have q6:=aW.bq q2 aQ;(try simp at q6);obtain⟨q6a,q6b,q6c,q6d⟩:=q6.two;have q6l:=q6.lt;have q6n:=Nat.ne_of_lt q6l;have q6m:=Nat.ne_of_gt q6l));(try (have q7:=aW.bq (aW.alloc q1 _) aQ;(try simp at q7);obtain⟨q7a,q7b,q7c,q7d⟩:=q7.two;have q7l:=q7.lt;have q7n:=Nat.ne_of_lt q7l;have q7m:=Nat.ne_of_gt q7l)))
   | fail)
  all_goals
   go_wp2
   go_meet
   refine⟨_,_,s1,p1,n1,k1,s2,p2,n2,k2,rfl,rfl,?_,?_,yg,yJ,?_⟩
   ·(with_reducible (repeat (first|assumption|exact aW.newAt (by first|rfl|(simp;done)) _ _|refine aW.alloc ?_ _|refine aW.drew ?_|refine aW.bj (u:=.bool false) (v:=.slice none 0 0) ?_ _ _|refine aW.cY ?_ (by first|omega|(simp;omega)) _ _|refine aW.bq ?_ (by assumption))))
   ·(with_reducible (repeat (first|assumption|exact aW.newAt (by first|rfl|(simp;done)) _ _|refine aW.alloc ?_ _|refine aW.drew ?_|refine aW.bj (u:=.bool false) (v:=.slice none 0 0) ?_ _ _|refine aW.cY ?_ (by first|omega|(simp;omega)) _ _|refine aW.bq ?_ (by assumption))))
   ·exact fu
 case rest=>
  obtain⟨g,h,s1,p1,n1,k1,s2,p2,n2,k2,rfl,rfl,B5,B6,yg,yJ,hbc⟩:=hcut
  obtain⟨Iw,jK,hX⟩:=yg.parts
  obtain⟨vX,kG,hY⟩:=yJ.parts
  have B3:=b3.bq hbc
  have jS:ax w wc:=jL.aA hbc
  have HR1:=Lib.hid (jK.below jS)
  have HR2:=Lib.hid (kG.below jS)
  have HN1:=Lib.hid Iw
  have HN2:=Lib.hid vX
  have HX:=Lib.hid hX
  have HY:=Lib.hid hY
  have hm1:n1<=536870912:=by omega
  have hm2:n2<=536870912:=by omega
  clear c1 c2 c3 c4 c5 c6 f5 f6 b1 b2 b3 hbc jL yg yJ jK kG hX hY Iw vX HS
  obtain⟨c1,c2,_,_⟩:=B5.two
  obtain⟨c3,c4,_,_⟩:=B6.two
  obtain⟨c5,c6,f5,f6⟩:=B3.two
  have hg:g≠w.heap.size+1+1:=λe=>by subst e;have:=(show wc.heap[_]? =_ from B5).symm.trans B3;simp at this
  have hh:h≠w.heap.size+1+1:=λe=>by subst e;have:=(show wc.heap[_]? =_ from B6).symm.trans B3;simp at this
  have HS:=Lib.hid (λw' (hk:ak wc (w.heap.size+1+1) w')=>And.intro (hk.cells B5 hg) (hk.cells B6 hh))
  go_wp2_with fail
  go_region_held3 (λw'=>(w'.cell? ⟨g,0,none⟩=some (.bool s1)/\w'.cell? ⟨g,1,none⟩=some (.slice p1 n1 k1))/\w'.cell? ⟨h,0,none⟩=some (.bool s2)/\w'.cell? ⟨h,1,none⟩=some (.slice p2 n2 k2)) ((refine HS.out _ ?_;(with_reducible (repeat (first|exact ak.refl _ _|refine ak.drew ?_|refine ak.drewN ?_ _|refine ak.alloc ?_ _|refine ak.set ?_ _|refine ak.aA ?_ (by assumption)|refine ak.mn ?_ (by first|omega|(simp;done)|(simp;omega)) _))))) (first
   | (go_at_call 149;refine (Iz _ _ n1 n2 _ _ _ (HR1.out.below (ax.refl wc).drew) (HR2.out.below (ax.refl wc).drew) (ai _) (ai _) hm1 hm2).mono ?_;rintro e w1 ⟨v1,rfl,ry,aC⟩;replace aC:ax _ w1:=aC;rw[ah,ah] at ry;obtain⟨q1,l1,rfl,_,_,_⟩:=Own.form ry)
   | (go_at_call 92;refine (ew _ _ _ _ _).mono ?_;rintro e w3 ⟨sg,rfl,tp,bM⟩;obtain⟨e5,e6,g5,g6⟩:=(aW.bq (w':=w3) B3 fu).two)
   | fail)
  have FC:=(aW.bq (w':=w3) B3 fu)
  have FB:ax w w3:=fu
  generalize hL:(limbs (X.natAbs*Y.natAbs)).length=L at*
  have HL:=Lib.hid hL
  have HO:=Lib.hid (Own.bj (Own.below ry bM) FC ff (.bool sg) (.slice q1 L l1))
  clear ry hL
  have yh:=FC.bj (.bool (sg)) (.slice q1 (L) l1)
  have yi:=ax.bj FB (b:=w.heap.size+1+1) aa (.bool (sg)) (.slice q1 (L) l1)
  go_wp2
  generalize (w3.setCell ⟨w.heap.size+1+1,0,none⟩ (.bool (sg))).setCell ⟨w.heap.size+1+1,1,none⟩ (.slice q1 (L) l1)=wz at*
  obtain⟨yj,yk,_,_⟩:=yh.two
  refine bodyPost_ret (v:=.agg #[.bool (sg),.slice q1 (L) l1]) (by simp[results,Tryz.results96,go_sem,yj,yk]) rfl (bg.out _ _ ?_)
  rw[tp.out]
  refine⟨_,rfl,aj.of (m:=X.natAbs*Y.natAbs) (by rw[HL.out];exact Own.mono HO.out jS.size) HL.out.symm _ ?_,yi⟩
  rw[HX.out,HY.out]
  cases s1 <;> cases s2 <;> simp[Int.neg_mul,Int.mul_neg]
end
section
open Go.RowKit
theorem rz (s:Bool) (p:Option Addr) (n c:Nat) (w:World):(Instr.field 222 (.agg #[.bool s,.slice p n c]) 0).run Tryz.prog w=.ok (.agg #[.bool s,.slice p n c]) w:=by kernel_rfl
theorem rA (s:Bool) (p:Option Addr) (n c:Nat) (w:World):(Instr.field 32 (.agg #[.bool s,.slice p n c]) 1).run Tryz.prog w=.ok (.slice p n c) w:=by kernel_rfl
theorem Au (v:Value) (X:Int) (j:Nat) (w:World) (hv:bk w v X j) (hj:j<=1073741824):
  Calls Tryz.prog 98 #[v] w λe w'=>∃ r,e=.returned r/\aj w' w.heap.size r (-X)/\ax w w':=by
 obtain⟨s,p,n,c,rfl⟩:=hv.form
 refine aD λR' bg=> ?_
 obtain⟨b1,b2,jL⟩:=jB w 32 32 #[.bool s,.slice p n c] #[.bool false,.slice none 0 0]
 have oU:=hv.len
 have HV:=Lib.hid hv
 have hsz:w.heap.size+2<=((w.alloc (.cells #[.bool s,.slice p n c] 32)).alloc (.cells #[.bool false,.slice none 0 0] 32)).heap.size:=by simp
 clear hv
 go_enter Tryz.func98,Tryz.ntmps98
 go_wp2_with fail
 generalize (w.alloc _).alloc _=W at*
 refine (dS _ X j w _ HV.out fu).mono ?_
 rintro e w1 ⟨v1,rfl,vU,aC⟩
 go_wp2_with fail
 refine (uF _ X _ (vU.bq fu)).mono ?_
 rintro e w2 ⟨v2,rfl,hi2,aQ⟩
 obtain⟨s2,p2,n2,k2,rfl⟩:=hi2.eD
 obtain⟨vX,kG,_⟩:=hi2.parts
 have hm2:n2<=1073741824:=by rw[vX,Int.natAbs_neg];omega
 have HN2:=Lib.hid vX
 have HI2:=Lib.hid hi2
 have HR2:=Lib.hid kG
 clear hi2 vX kG vU
 go_wp2_with fail
 have B5:=aW.new w2 222 #[.bool s2,.slice p2 n2 k2]
 have hbT:ax w2 (w2.alloc (.cells #[.bool s2,.slice p2 n2 k2] 222)):=(ax.refl w2).alloc _
 have B2:=((b2.bq aC).bq aQ).bq hbT
 have hlt:=b2.lt
 have sZ:=aC.size
 have hbs2:=aQ.size
 have hne:w2.heap.size≠w.heap.size+1:=by omega
 generalize w2.alloc _=T at*
 have HS:=Lib.hid (λw' (hk:ak T (w.heap.size+1) w')=>hk.cells B5 hne)
 obtain⟨c1,c2,_,_⟩:=B5.two
 obtain⟨c5,c6,f5,f6⟩:=B2.two
 go_region_held3 (λw'=>w'.cell? ⟨w2.heap.size,0,none⟩=some (.bool s2)/\w'.cell? ⟨w2.heap.size,1,none⟩=some (.slice p2 n2 k2)) ((refine HS.out _ ?_;(with_reducible (repeat (first|exact ak.refl _ _|refine ak.drew ?_|refine ak.drewN ?_ _|refine ak.alloc ?_ _|refine ak.set ?_ _|refine ak.aA ?_ (by assumption)|refine ak.mn ?_ (by first|omega|(simp;done)|(simp;omega)) _))))) (first
  | (go_at_call 144;refine (gr _ n2 _ _ (Rd.below (HR2.out.below hbT) (ax.refl T).drew) hm2).mono ?_;rintro e w3 ⟨v3,rfl,CG,bM⟩;replace bM:ax _ w3:=bM;obtain⟨q3,l3,rfl,_,_,_⟩:=Own.form CG;obtain⟨e5,e6,g5,g6⟩:=(aW.bq (w':=w3) B2 fu).two)
  | fail)
 have FC:=(aW.bq (w':=w3) B2 fu)
 have FB:ax w w3:=fu
 have FT:ax w T:=fu
 have HO:=Lib.hid (Own.bj CG FC ff (.bool s2) (.slice q3 n2 l3))
 clear CG
 have yh:=FC.bj (.bool (s2)) (.slice q3 (n2) l3)
 have yi:=ax.bj FB (b:=w.heap.size+1) aa (.bool (s2)) (.slice q3 (n2) l3)
 go_wp2
 generalize (w3.setCell ⟨w.heap.size+1,0,none⟩ (.bool (s2))).setCell ⟨w.heap.size+1,1,none⟩ (.slice q3 (n2) l3)=wz at*
 obtain⟨yj,yk,_,_⟩:=yh.two
 refine bodyPost_ret (v:=.agg #[.bool (s2),.slice q3 (n2) l3]) (by simp[results,Tryz.results98,go_sem,yj,yk]) rfl (bg.out _ _ ?_)
 exact⟨_,rfl,HI2.out.own (Own.mono HO.out FT.size),yi⟩
set_option maxRecDepth 100000 in
theorem Ju (v:Value) (X:Int) (j:Nat) (w:World) (hv:bk w v X j) (hj:j<=1073741824):
  Calls Tryz.prog 99 #[v] w λe w'=>∃ r,e=.returned r/\aj w' w.heap.size r (X.natAbs:Int)/\ax w w':=by
 obtain⟨s,p,n,c,rfl⟩:=hv.form
 refine aD λR' bg=> ?_
 obtain⟨b1,b2,jL⟩:=jB w 32 32 #[.bool s,.slice p n c] #[.bool false,.slice none 0 0]
 have oU:=hv.len
 have HV:=Lib.hid hv
 clear hv
 go_enter Tryz.func99,Tryz.ntmps99
 go_wp2_with fail
 generalize (w.alloc _).alloc _=W at*
 refine (dS _ X j w _ HV.out fu).mono ?_
 rintro e w1 ⟨v1,rfl,vU,aC⟩
 obtain⟨s2,p2,n2,k2,rfl⟩:=vU.eD
 obtain⟨vX,kG,_⟩:=vU.parts
 have hm2:n2<=1073741824:=by rw[vX];omega
 have HN2:=Lib.hid vX
 have HR2:=Lib.hid kG
 have jS:ax w w1:=jL.aA aC
 have hf1:=rz s2 p2 n2 k2 w1
 have hf2:=rA s2 p2 n2 k2 w1
 clear vX kG vU
 go_wp2_with fail
 refine (gr _ n2 _ _ (HR2.out.below jS) hm2).mono ?_
 rintro e w3 ⟨v3,rfl,CG,bM⟩
 replace bM:ax _ w3:=bM
 obtain⟨q3,l3,rfl,_,_,_⟩:=Own.form CG
 have FC:=(aW.bq (w':=w3) b2 fu)
 have FB:ax w w3:=fu
 have HO:=Lib.hid (Own.bj CG FC ff (.bool false) (.slice q3 n2 l3))
 obtain⟨e5,e6,g5,g6⟩:=FC.two
 clear CG
 have yh:=FC.bj (.bool (false)) (.slice q3 (n2) l3)
 have yi:=ax.bj FB (b:=w.heap.size+1) aa (.bool (false)) (.slice q3 (n2) l3)
 go_wp2
 generalize (w3.setCell ⟨w.heap.size+1,0,none⟩ (.bool (false))).setCell ⟨w.heap.size+1,1,none⟩ (.slice q3 (n2) l3)=wz at*
 obtain⟨yj,yk,_,_⟩:=yh.two
 refine bodyPost_ret (v:=.agg #[.bool (false),.slice q3 (n2) l3]) (by simp[results,Tryz.results99,go_sem,yj,yk]) rfl (bg.out _ _ ?_)
 exact⟨_,rfl,aj.ofNat (Own.mono HO.out jS.size) HN2.out,yi⟩
theorem iH (v:Value) (X:Int) (j:Nat) (w:World) (hv:bk w v X j):
  Calls Tryz.prog 112 #[v] w λe w'=>e=.returned (.int .i64 X.sign)/\ax w w':=by
 obtain⟨s,p,n,c,rfl⟩:=hv.form
 refine aD λR' bg=> ?_
 have HV:=Lib.hid hv
 have jL:=(ax.refl w).alloc (.cells #[.bool s,.slice p n c] 32)
 clear hv
 go_enter Tryz.func112,Tryz.ntmps112
 go_wp2_with fail
 generalize w.alloc _=W at*
 refine (dS _ X j w _ HV.out fu).mono ?_
 rintro e w1 ⟨v1,rfl,vU,aC⟩
 obtain⟨s2,p2,n2,k2,rfl⟩:=vU.eD
 obtain⟨vX,_,hX⟩:=vU.parts
 have jS:ax w w1:=jL.aA aC
 have tp:=vU.Fj
 clear vU
 cases s2
 ·by_cases h0:X=0
  ·subst h0
   have:n2=0:=by rw[vX];simp[bd]
   subst this
   clear vX hX tp
   go_wp2
   exact bg.out _ _ ⟨rfl,jS.alloc _⟩
  ·have hp:0<n2:=by rw[vX];exact cN aa
   have hs:X.sign=1:=cW (by simp at hX;omega)
   rw[hs] at bg
   clear vX hX tp
   have hpi:(0:Int)<(n2:Int):=by omega
   go_wp2
   exact bg.out _ _ ⟨rfl,jS.alloc _⟩
 ·have hs:X.sign= -1:=sign_neg (of_decide_eq_true tp.symm)
  rw[hs] at bg
  clear vX hX tp
  go_wp2
  exact bg.out _ _ ⟨rfl,jS.alloc _⟩
theorem kc (v u:Value) (X Y:Int) (j k:Nat) (w:World) (hv:bk w v X j) (hu:bk w u Y k) (hj:j<=1073741824) (hk:k<=1073741824):
  Calls Tryz.prog 51 #[v,u] w λe w'=>e=.returned (.int .i64 (X-Y).sign)/\ax w w':=by
 obtain⟨s,p,n,c,rfl⟩:=hv.form
 obtain⟨t,q,m,d,rfl⟩:=hu.form
 refine aD λR' bg=> ?_
 obtain⟨b1,b2,jL⟩:=jB w 32 32 #[.bool s,.slice p n c] #[.bool t,.slice q m d]
 have HV:=Lib.hid (hv.bq jL)
 have HU:=Lib.hid (hu.bq jL)
 clear hv hu
 go_enter Tryz.func51,Tryz.ntmps51
 go_wp2_with fail
 generalize (w.alloc _).alloc _=W at*
 refine (Jt _ _ X Y j k _ HV.out HU.out hj hk).mono ?_
 rintro e w1 ⟨r,rfl,ho,aC⟩
 go_wp2_with fail
 refine (iH _ (X-Y) _ _ (ho.rd.to (Nat.le_refl _))).mono ?_
 rintro e w2 ⟨rfl,aQ⟩
 go_wp2
 exact bg.out _ _ ⟨rfl,(jL.aA aC).aA aQ⟩
theorem u64neg {n:Int} (h0:n<0) (h1: -9223372036854775808<=n):IntKind.u64.wrap (-(IntKind.u64.wrap n))=(n.natAbs:Int):=by
 rw[pI,pI];omega
theorem u64pos {n:Int} (h0:0<=n) (h1:n<=9223372036854775807):IntKind.u64.wrap n=(n.natAbs:Int):=by
 rw[pI];omega
theorem se {a:Nat}:ag [a%4294967296,a/4294967296]=a:=by
 rw[dJ,dJ,cV];omega
set_option maxRecDepth 100000 in
theorem kZ (n:Int) (w:World) (h0: -9223372036854775808<=n) (h1:n<=9223372036854775807):
  Calls Tryz.prog 40 #[.int .i64 n] w λe w'=>∃ r,e=.returned r/\aj w' w.heap.size r n/\ax w w':=by
 refine aD λR' bg=> ?_
 obtain⟨a,ha⟩:∃ a,a=n.natAbs:=⟨_,rfl⟩
 have HA:=Lib.hid ha
 have ha2:a<18446744073709551616:=by omega
 have nw:=aW.new w 32 #[.bool false,.slice none 0 0]
 have jL:=(ax.refl w).alloc (.cells #[.bool false,.slice none 0 0] 32)
 have hRl:=Rd.lit2 (w:=w.alloc (.cells #[.bool false,.slice none 0 0] 32)) (k:=.u32) (e:=191) (x:=(a:Int)%4294967296) (y:=(a:Int)/4294967296) (a:=a%4294967296) (b:=a/4294967296) aa aa
 rw[World.size_alloc] at hRl
 go_enter Tryz.func40,Tryz.ntmps40
 by_cases hn:n<0
 ·have e1:=u64neg hn h0
  rw[<-ha] at e1
  have HN:=Lib.hid hn
  clear ha
  go_wp2_with fail
  refine (gV _ 2 [a%4294967296,a/4294967296] _ hRl (bH.cons aa (bH.cons aa bH.nil)) aa).mono ?_
  rintro e w1 ⟨v1,rfl,ry,aC⟩
  replace aC:ax _ w1:=aC
  rw[se] at ry
  obtain⟨p1,k1,rfl,_,_,_⟩:=Own.form ry
  generalize hL:(limbs a).length=L at*
  have HL:=Lib.hid hL
  have FC1:=(nw.alloc (.cells #[.int .u32 ((a:Int)%4294967296),.int .u32 ((a:Int)/4294967296)] 191)).bq aC
  have FB1:ax w w1:=(((ax.refl w).alloc _).alloc _).aA aC
  have oV:=Lib.hid ry
  clear ry hL aC
  go_wp2_with fail
  refine (ew _ _ _ _ _).mono ?_
  rintro e w3 ⟨sg,rfl,tp,bM⟩
  have FC:=FC1.bq bM
  have FB:=FB1.aA bM
  obtain⟨e5,e6,g5,g6⟩:=FC.two
  have HO:=Lib.hid (Own.bj (Own.below oV.out bM) FC ff (.bool sg) (.slice p1 L k1))
  clear oV FC1
  have yh:=FC.bj (.bool (sg)) (.slice p1 (L) k1)
  have yi:=ax.bj FB (b:=w.heap.size) aa (.bool (sg)) (.slice p1 (L) k1)
  go_wp2
  generalize (w3.setCell ⟨w.heap.size,0,none⟩ (.bool (sg))).setCell ⟨w.heap.size,1,none⟩ (.slice p1 (L) k1)=wz at*
  obtain⟨yj,yk,_,_⟩:=yh.two
  refine bodyPost_ret (v:=.agg #[.bool (sg),.slice p1 (L) k1]) (by simp[results,Tryz.results40,go_sem,yj,yk]) rfl (bg.out _ _ ?_)
  rw[tp.out]
  refine⟨_,rfl,aj.of (m:=a) (by rw[HL.out];exact Own.mono HO.out (by simp;omega)) HL.out.symm _ ?_,yi⟩
  have:=HN.out
  have:=HA.out
  simp;omega
 ·have e1:=u64pos (by omega:0<=n) h1
  rw[<-ha] at e1
  have HN:=Lib.hid hn
  clear ha
  go_wp2_with fail
  refine (gV _ 2 [a%4294967296,a/4294967296] _ hRl (bH.cons aa (bH.cons aa bH.nil)) aa).mono ?_
  rintro e w1 ⟨v1,rfl,ry,aC⟩
  replace aC:ax _ w1:=aC
  rw[se] at ry
  obtain⟨p1,k1,rfl,_,_,_⟩:=Own.form ry
  generalize hL:(limbs a).length=L at*
  have HL:=Lib.hid hL
  have FC1:=(nw.alloc (.cells #[.int .u32 ((a:Int)%4294967296),.int .u32 ((a:Int)/4294967296)] 191)).bq aC
  have FB1:ax w w1:=(((ax.refl w).alloc _).alloc _).aA aC
  have oV:=Lib.hid ry
  clear ry hL aC
  go_wp2_with fail
  refine (ew _ _ _ _ _).mono ?_
  rintro e w3 ⟨sg,rfl,tp,bM⟩
  have FC:=FC1.bq bM
  have FB:=FB1.aA bM
  obtain⟨e5,e6,g5,g6⟩:=FC.two
  have HO:=Lib.hid (Own.bj (Own.below oV.out bM) FC ff (.bool sg) (.slice p1 L k1))
  clear oV FC1
  have yh:=FC.bj (.bool (sg)) (.slice p1 (L) k1)
  have yi:=ax.bj FB (b:=w.heap.size) aa (.bool (sg)) (.slice p1 (L) k1)
  go_wp2
  generalize (w3.setCell ⟨w.heap.size,0,none⟩ (.bool (sg))).setCell ⟨w.heap.size,1,none⟩ (.slice p1 (L) k1)=wz at*
  obtain⟨yj,yk,_,_⟩:=yh.two
  refine bodyPost_ret (v:=.agg #[.bool (sg),.slice p1 (L) k1]) (by simp[results,Tryz.results40,go_sem,yj,yk]) rfl (bg.out _ _ ?_)
  rw[tp.out]
  refine⟨_,rfl,aj.of (m:=a) (by rw[HL.out];exact Own.mono HO.out (by simp;omega)) HL.out.symm _ ?_,yi⟩
  have:=HN.out
  have:=HA.out
  simp;omega
end
section
open Go.RowKit
def oD (rows:List (List Nat)):Nat:=rows.foldl (λa r=>Nat.gcd a (ag r)) 0
theorem FI (rows:List (List Nat)) (r:List Nat):oD (rows++[r])=Nat.gcd (oD rows) (ag r):=by simp[oD,List.foldl_append]
theorem Jv {x y:Nat}:Nat.gcd y (x%y)=Nat.gcd x y:=by rw[Nat.gcd_comm,<-Nat.gcd_rec,Nat.gcd_comm]
def GcdOut (w:World) (B:Nat) (rows:List (List Nat)) (g:Nat) (av iv:Value) (wr:World):Prop:=
 ∃ k,k<=rows.length/\g=rows.length-k/\iv=.int .i64 (k:Int)/\wr.ownsRow B 191 1 av (limbs (oD (rows.take k))).length (ints .u32 (limbs (oD (rows.take k))))/\(limbs (oD (rows.take k))).length<=536870912/\Below B w wr
def GcdIn (w:World) (B G:Nat) (g:Nat) (av bv:Value) (wr:World):Prop:=
 ∃ x,Nat.gcd x g=G/\wr.ownsRow B 191 1 av (limbs x).length (ints .u32 (limbs x))/\wr.ownsRow B 191 1 bv (limbs g).length (ints .u32 (limbs g))/\(limbs x).length<=536870912/\(limbs g).length<=536870912/\Below B w wr
set_option maxRecDepth 100000 in
theorem Jw (va:Value) (rows:List (List Nat)) (w:World) (hr:fR w va rows) (hx:∀ xs∈rows,bH xs/\xs.length<=536870912) (hn:rows.length<=1048576):
  Calls Tryz.prog 175 #[va] w λe w'=>∃ v',e=.returned v'/\w'.ownsRow w.heap.size 191 1 v' (limbs (oD rows)).length (ints .u32 (limbs (oD rows)))/\Below w.heap.size w w':=by
 obtain⟨p,c,rfl,dk,dY⟩:=hr.form
 have Hr:=Lib.hid hr
 have HL:=Lib.hid hx
 obtain⟨B,hB⟩:∃ B,B=w.heap.size:=⟨_,rfl⟩
 have HB:=Lib.hid hB
 obtain⟨N,hN⟩:∃ N,N=rows.length:=⟨_,rfl⟩
 rw[<-hN] at dk hn ⊢
 have HN:=Lib.hid hN
 rw[<-hB]
 clear hx hr hB hN
 refine aD λR' bg=> ?_
 go_enter Tryz.func175,Tryz.ntmps175
 go_wp2
 go_loopg [3,11] N (λg av iv wr=>GcdOut w B rows g av iv wr)
 case atStart=>exact⟨0,Nat.zero_le _,by rw[HN.out];rfl,rfl,by simp[oD,bd];exact World.ownsRow_nil _ _ _ _,by simp[oD,bd],Below.refl _ _⟩
 case round=>
  obtain⟨k,hk,hgk,rfl,aw,hlen,hb⟩:=hrel
  have HO:=Lib.hid aw
  have fj:=Lib.hid hb
  have HGK:=Lib.hid hgk
  have HLEN:=Lib.hid hlen
  rw[<-HN.out] at hk
  clear aw hb hgk hlen
  by_cases sM:k<N
  ·obtain⟨b1,o1,u,xs,rfl,ea,lO,hru⟩:=((Hr.out.below (by have:=fj.out;rwa [HB.out] at this)).at (k:=k) (by rw[<-HN.out];exact sM))
   have ta:=Lib.hid ea
   have HRU:=Lib.hid hru
   clear ea hru
   have sZ:B<=wr.heap.size:=by have:=fj.out.size;have:=HB.out;omega
   obtain⟨vN,vH⟩:=HL.out xs (List.mem_of_getElem? ta.out)
   obtain⟨a,ha⟩:∃ a,a=oD (rows.take k):=⟨_,rfl⟩
   obtain⟨y,hy⟩:∃ y,y=ag xs:=⟨_,rfl⟩
   have iD:(limbs y).length<=536870912:=by rw[hy];exact Nat.le_trans (fP vN) vH
   have HL1:=Lib.hid vN
   have HL2:=Lib.hid vH
   have HYL:=Lib.hid iD
   have HG:Hid (Nat.gcd a y=oD (rows.take (k+1))):=by show _=_;rw[bc ta.out,FI,ha,hy]
   have HA:=Lib.hid ha
   have HY:=Lib.hid hy
   clear ha hy vN vH iD
   go_wp2_with fail
   refine (gV _ _ xs _ HRU.out HL1.out (by have:=HL2.out;omega)).mono ?_
   rintro e w2 ⟨v',rfl,iR,aQ⟩
   rw[<-HY.out] at iR
   have ry:=Own.below HO.out aQ
   rw[<-HA.out] at ry
   have oV:=Lib.hid ry
   clear ry
   have lQ:=Lib.hid (Own.mono iR sZ)
   have rS:=Lib.hid (fj.out.trans (aQ.mono sZ))
   clear iR aQ lO
   go_wp2_with fail
   go_loopg [3,5] y (λg av bv wr=>GcdIn w B (Nat.gcd a y) g av bv wr)
   case atStart=>exact⟨a,rfl,oV.out,lQ.out,by rw[HA.out];exact HLEN.out,HYL.out,rS.out⟩
   case round=>
    obtain⟨x,BD,hox,hoy,oU,lU,jS⟩:=hrel
    have HXY:=Lib.hid BD
    have HOX:=Lib.hid hox
    have HOY:=Lib.hid hoy
    have HLX:=Lib.hid oU
    have HLY:=Lib.hid lU
    have HBX:=Lib.hid jS
    obtain⟨py,cy,rfl,_,_,_⟩:=Own.form hoy
    clear BD hox hoy oU lU jS
    by_cases Jx:gk=0
    ·subst Jx
     have hl0:(limbs 0).length=0:=by rw[bd];rfl
     rw[hl0]
     have hxg:x=oD (rows.take (k+1)):=by rw[<-HG.out,<-HXY.out,Nat.gcd_zero_right]
     have HXG:=Lib.hid hxg
     clear hxg hl0
     go_wp2_with fail
     go_roundg (N-(k+1))
     case measure=>have:=HGK.out;have:=HN.out;omega
     case rel=>exact⟨k+1,by rw[<-HN.out];omega,by rw[HN.out],by go_num,by rw[<-HXG.out];exact HOX.out,by rw[<-HXG.out];exact HLX.out,HBX.out⟩
    ·have hp:(0:Int)<((limbs gk).length:Int):=by have:=cN Jx;omega
     have HG0:=Lib.hid Jx
     obtain⟨L,hL⟩:∃ L,L=(limbs gk).length:=⟨_,rfl⟩
     rw[<-hL] at hp ⊢
     have HL:=Lib.hid hL
     have hbx:B<=wr.heap.size:=by have:=HBX.out.size;have:=HB.out;omega
     clear Jx hL
     go_wp2_with fail
     refine (rR _ _ _ _ _ _ _ (Rd.own HOX.out) (by rw[HL.out];exact Rd.own HOY.out) (ai _) (ai _) HLX.out HLY.out).mono ?_
     rintro e w3 ⟨⟨h,rfl⟩|⟨h,vq,vr,rfl,zw,tN⟩,bM⟩
     ·exact absurd (by rw[ah] at h;exact h) HG0.out
     rw[ah,ah] at tN
     have hlt:x%gk<gk:=Nat.mod_lt _ (Nat.pos_iff_ne_zero.2 HG0.out)
     have HLT:=Lib.hid hlt
     have HOR:=Lib.hid (Own.mono tN hbx)
     have HOG:=Lib.hid (Own.below HOY.out bM)
     have Hu:=Lib.hid (HBX.out.trans (bM.mono hbx))
     clear zw tN bM h hlt
     go_wp2_with fail
     go_roundg (x%gk)
     case measure=>exact HLT.out
     case rel=>exact⟨gk,by rw[Jv];exact HXY.out,by rw[HL.out];exact HOG.out,HOR.out,HLY.out,Nat.le_trans (bV (Nat.le_of_lt HLT.out)) HLY.out,Hu.out⟩
  ·obtain rfl:k=N:=by omega
   go_wp2_with fail
   refine (gr _ _ _ _ (Rd.own HO.out) (by have:=HLEN.out;omega)).mono ?_
   rintro e w2 ⟨v',rfl,iR,aQ⟩
   have sZ:B<=wr.heap.size:=by have:=fj.out.size;have:=HB.out;omega
   go_wp2_with fail
   refine bg.out _ _ ⟨_,rfl,?_,fj.out.trans (aQ.mono sZ)⟩
   have:=Own.mono iR sZ
   rwa [List.take_of_length_le (by rw[HN.out];exact Nat.le_refl _)] at this
end
section
open Go.RowKit
theorem Jy (x y:Nat):oD [limbs x,limbs y]=Nat.gcd x y:=by simp[oD,ah]
set_option maxRecDepth 100000 in
theorem Av (v u:Value) (X Y:Int) (j k:Nat) (w:World) (hv:bk w v X j) (hu:bk w u Y k) (hj:j<=536870912) (hk:k<=536870912):
  Calls Tryz.prog 146 #[v,u] w λe w'=>∃ r,e=.returned r/\aj w' w.heap.size r (Int.gcd X Y:Int)/\ax w w':=by
 obtain⟨s,p,n,c,rfl⟩:=hv.form
 obtain⟨t,q,m,d,rfl⟩:=hu.form
 refine aD λR' bg=> ?_
 obtain⟨b1,b2,b3,jL⟩:=kK w 32 32 32 #[.bool s,.slice p n c] #[.bool t,.slice q m d] #[.bool false,.slice none 0 0]
 have oU:=hv.len
 have lU:=hu.len
 have HJ:=Lib.hid (Nat.le_trans oU hj)
 have HK:=Lib.hid (Nat.le_trans lU hk)
 have HV:=Lib.hid hv
 have HU:=Lib.hid hu
 have hsz:w.heap.size+3<=(((w.alloc (.cells #[.bool s,.slice p n c] 32)).alloc (.cells #[.bool t,.slice q m d] 32)).alloc (.cells #[.bool false,.slice none 0 0] 32)).heap.size:=by simp
 clear hv hu hj hk oU lU
 go_enter Tryz.func146,Tryz.ntmps146
 go_wp2_with fail
 generalize ((w.alloc _).alloc _).alloc _=W at*
 have HS:=Lib.hid (λw' (h:ak W (w.heap.size+1+1) w')=>And.intro (h.cells b1 aa) (h.cells b2 aa))
 obtain⟨c1,c2,_,_⟩:=b1.two
 obtain⟨c3,c4,_,_⟩:=b2.two
 obtain⟨c5,c6,f5,f6⟩:=b3.two
 go_region_held3 (λw'=>(w'.cell? ⟨w.heap.size,0,none⟩=some (.bool s)/\w'.cell? ⟨w.heap.size,1,none⟩=some (.slice p n c))/\w'.cell? ⟨w.heap.size+1,0,none⟩=some (.bool t)/\w'.cell? ⟨w.heap.size+1,1,none⟩=some (.slice q m d)) ((refine HS.out _ ?_;(with_reducible (repeat (first|exact ak.refl _ _|refine ak.drew ?_|refine ak.drewN ?_ _|refine ak.alloc ?_ _|refine ak.set ?_ _|refine ak.aA ?_ (by assumption)|refine ak.mn ?_ (by first|omega|(simp;done)|(simp;omega)) _))))) (first
  | (go_at_call_of 140 (Value.slice p n c);refine (dS _ X j w _ HV.out fu).mono ?_;rintro e w1 ⟨u1,rfl,yg,aC⟩;obtain⟨s1,p1,n1,k1,rfl⟩:=yg.eD;have hf1:=rz s1 p1 n1 k1;have hf2:=rA s1 p1 n1 k1)
  | (go_at_call_of 140 (Value.slice q m d);refine (dS _ Y k w _ HU.out fu).mono ?_;rintro e w2 ⟨u2,rfl,yJ,aQ⟩;obtain⟨s2,p2,n2,k2,rfl⟩:=yJ.eD;have hf3:=rz s2 p2 n2 k2;have hf4:=rA s2 p2 n2 k2;have HP1:=Lib.hid yg.parts;have HP2:=Lib.hid yJ.parts)
  | (go_at_call 175;refine (Jw _ [limbs X.natAbs,limbs Y.natAbs] _ (fR.two (DF rfl) (by rw[<-HP1.out.1];exact HP1.out.2.1.below (by show ax _ _;exact fu)) (by rw[<-HP2.out.1];exact HP2.out.2.1.below (by show ax _ _;exact fu))) (λxs hx=>by rcases List.mem_cons.1 hx with rfl|hx;exact⟨ai _,HJ.out⟩;obtain rfl:=List.mem_singleton.1 hx;exact⟨ai _,HK.out⟩) (by show 2<=1048576;omega)).mono ?_;rintro e w3 ⟨v3,rfl,CG,bM⟩;replace bM:ax _ w3:=bM;rw[Jy] at CG;obtain⟨p3,k3,rfl,_,_,_⟩:=Own.form CG)
  | (go_at_call 92;refine (ew _ _ _ _ _).mono ?_;rintro e w4 ⟨sg,rfl,tp,fb⟩;obtain⟨e5,e6,g5,g6⟩:=(aW.bq (w':=w4) b3 fu).two)
  | fail)
 have FC:=(aW.bq (w':=w4) b3 fu)
 have FB:ax w w4:=fu
 have FZ:ax w (w2.alloc (.cells #[.slice p1 n1 k1,.slice p2 n2 k2] 30)):=fu
 generalize hL:(limbs (X.natAbs.gcd Y.natAbs)).length=L at*
 have HL:=Lib.hid hL
 have HO:=Lib.hid (Own.bj (Own.below CG fb) FC ff (.bool sg) (.slice p3 L k3))
 clear CG hL
 have yh:=FC.bj (.bool (sg)) (.slice p3 (L) k3)
 have yi:=ax.bj FB (b:=w.heap.size+1+1) aa (.bool (sg)) (.slice p3 (L) k3)
 go_wp2
 generalize (w4.setCell ⟨w.heap.size+1+1,0,none⟩ (.bool (sg))).setCell ⟨w.heap.size+1+1,1,none⟩ (.slice p3 (L) k3)=wz at*
 obtain⟨yj,yk,_,_⟩:=yh.two
 refine bodyPost_ret (v:=.agg #[.bool (sg),.slice p3 (L) k3]) (by simp[results,Tryz.results146,go_sem,yj,yk]) rfl (bg.out _ _ ?_)
 rw[tp.out]
 refine⟨_,rfl,aj.of (m:=X.natAbs.gcd Y.natAbs) (by rw[HL.out];exact Own.mono HO.out FZ.size) HL.out.symm _ ?_,yi⟩
 simp[Int.gcd]
end
section
open Go.RowKit
theorem boxes4 (w:World) (t t' BI t3:TypeId) (cs fM nx cs3:Array Value):aW ((((w.alloc (.cells cs t)).alloc (.cells fM t')).alloc (.cells nx BI)).alloc (.cells cs3 t3)) w.heap.size t cs/\aW ((((w.alloc (.cells cs t)).alloc (.cells fM t')).alloc (.cells nx BI)).alloc (.cells cs3 t3)) (w.heap.size+1) t' fM/\
  aW ((((w.alloc (.cells cs t)).alloc (.cells fM t')).alloc (.cells nx BI)).alloc (.cells cs3 t3)) (w.heap.size+2) BI nx/\aW ((((w.alloc (.cells cs t)).alloc (.cells fM t')).alloc (.cells nx BI)).alloc (.cells cs3 t3)) (w.heap.size+3) t3 cs3/\
  ax w ((((w.alloc (.cells cs t)).alloc (.cells fM t')).alloc (.cells nx BI)).alloc (.cells cs3 t3)):=
 ⟨(kK w t t' BI cs fM nx).1.alloc _,(kK w t t' BI cs fM nx).2.1.alloc _,(kK w t t' BI cs fM nx).2.2.1.alloc _,aW.newAt cU _ _,(kK w t t' BI cs fM nx).2.2.2.alloc _⟩
def uH (w w':World) (X Y:Int) (e:Ending):Prop:=
 (Y=0/\∃ v u,e=.returned (.tuple #[v,u,.int .i64 20])/\aj w' w.heap.size v 0/\aj w' w.heap.size u 0)\/
 (Y≠0/\∃ v u,e=.returned (.tuple #[v,u,.int .i64 0])/\aj w' w.heap.size v (X.fdiv Y)/\aj w' w.heap.size u (X.fmod Y))
def Jz (a b:Nat) (s t:Bool) (M R:Nat):Prop:=((s=t\/a%b=0)/\M=a/b/\R=a%b)\/(s≠t/\a%b≠0/\M=a/b+1/\R=b-a%b)
theorem ni {X Y:Int} {a b M R:Nat} {s t:Bool} (hX:X=if s=true then-(a:Int) else a) (hY:Y=if t=true then-(b:Int) else b) (hb:b≠0) (h:Jz a b s t M R):
  X.fdiv Y=(if (!(s == t))=true then-(M:Int) else M)/\X.fmod Y=(if t=true then-(R:Int) else R):=by
 unfold Jz at h
 have e:=Nat.div_add_mod a b
 have hlt:=Nat.mod_lt a (Nat.pos_of_ne_zero hb)
 generalize a/b=q at*
 generalize a%b=r at*
 have e':(a:Int)=(b:Int)*(q:Int)+(r:Int):=by rw[<-e];simp
 rw[e'] at hX
 have hR:R<=b:=by rcases h with ⟨_,_,rfl⟩|⟨_,_,_,rfl⟩ <;> omega
 cases t
 ·have hp:0<Y:=by simp at hY;omega
  refine (Int.fdiv_fmod_unique hp).2 ?_
  rcases h with ⟨h1,rfl,rfl⟩|⟨h1,h2,rfl,rfl⟩
  ·cases s
   ·simp at hX hY ⊢
    subst hX;subst hY
    omega
   ·simp at h1 hX hY ⊢
    subst hX;subst hY;subst h1
    simp only[Int.mul_neg]
    omega
  ·cases s
   ·exact absurd rfl h1
   ·simp at hX hY ⊢
    subst hX;subst hY
    rw[Int.natCast_sub aa]
    simp only[Int.mul_add,Int.mul_neg,Int.mul_one,Int.neg_add]
    omega
 ·have hp:Y<0:=by simp at hY;omega
  refine (Int.fdiv_fmod_unique' hp).2 ?_
  rcases h with ⟨h1,rfl,rfl⟩|⟨h1,h2,rfl,rfl⟩
  ·cases s
   ·simp at h1 hX hY ⊢
    subst hX;subst hY;subst h1
    simp only[Int.neg_mul_neg]
    omega
   ·simp at hX hY ⊢
    subst hX;subst hY
    simp only[Int.neg_mul]
    omega
  ·cases s
   ·simp at hX hY ⊢
    subst hX;subst hY
    rw[Int.natCast_sub aa]
    simp only[Int.mul_add,Int.neg_mul,Int.mul_neg,Int.mul_one,Int.neg_add,Int.neg_neg]
    omega
   ·exact absurd rfl h1
set_option maxRecDepth 100000 in
theorem ic (v u:Value) (X Y:Int) (j k:Nat) (w:World) (hv:bk w v X j) (hu:bk w u Y k) (hj:j<=536870912) (hk:k<=536870912):
  Calls Tryz.prog 147 #[v,u] w λe w'=>uH w w' X Y e/\ax w w':=by
 obtain⟨s,p,n,c,rfl⟩:=hv.form
 obtain⟨t,q,m,d,rfl⟩:=hu.form
 refine aD λR' bg=> ?_
 obtain⟨b1,b2,b3,b4,jL⟩:=boxes4 w 32 32 32 32 #[.bool s,.slice p n c] #[.bool t,.slice q m d] #[.bool false,.slice none 0 0] #[.bool false,.slice none 0 0]
 have oU:=hv.len
 have lU:=hu.len
 have HJ:=Lib.hid (Nat.le_trans oU hj)
 have HK:=Lib.hid (Nat.le_trans lU hk)
 have HV:=Lib.hid hv
 have HU:=Lib.hid hu
 have hsz:w.heap.size+4<=((((w.alloc (.cells #[.bool s,.slice p n c] 32)).alloc (.cells #[.bool t,.slice q m d] 32)).alloc (.cells #[.bool false,.slice none 0 0] 32)).alloc (.cells #[.bool false,.slice none 0 0] 32)).heap.size:=by simp
 clear hv hu hj hk oU lU
 go_enter Tryz.func147,Tryz.ntmps147
 go_wp2_with fail
 generalize (((w.alloc _).alloc _).alloc _).alloc _=W at*
 go_cut [7,8] (λx5 x6 wc=>Ee w W wc 222 X Y x5 x6)
 case first=>
  have HS:=Lib.hid (λw' (h:ak W (w.heap.size+1+1) w')=>And.intro (h.cells b1 aa) (h.cells b2 aa))
  obtain⟨c1,c2,_,_⟩:=b1.two
  obtain⟨c3,c4,_,_⟩:=b2.two
  go_region_held3 (λw'=>(w'.cell? ⟨w.heap.size,0,none⟩=some (.bool s)/\w'.cell? ⟨w.heap.size,1,none⟩=some (.slice p n c))/\w'.cell? ⟨w.heap.size+1,0,none⟩=some (.bool t)/\w'.cell? ⟨w.heap.size+1,1,none⟩=some (.slice q m d)) ((refine HS.out _ ?_;(with_reducible (repeat (first|exact ak.refl _ _|refine ak.drew ?_|refine ak.drewN ?_ _|refine ak.alloc ?_ _|refine ak.set ?_ _|refine ak.aA ?_ (by assumption)|refine ak.mn ?_ (by first|omega|(simp;done)|(simp;omega)) _))))) (first
   | (go_at_call_of 140 (Value.slice p n c);refine (dS _ X j w _ HV.out fu).mono ?_;rintro e w1 ⟨u1,rfl,yg,aC⟩;obtain⟨s1,p1,n1,k1,rfl⟩:=yg.eD;have vI:=aC.size;(try simp at vI);(try (have q1:=aW.bq (aW.drew (aW.new _ _ #[_,_])) aC;(try simp at q1);obtain⟨q1a,q1b,q1c,q1d⟩:=q1.two;have q1l:=q1.lt;have q1n:=Nat.ne_of_lt q1l;have q1m:=Nat.ne_of_gt q1l));(try (have q2:=aW.bq (aW.drew (aW.alloc (aW.new _ _ #[_,_]) _)) aC;(try simp at q2);obtain⟨q2a,q2b,q2c,q2d⟩:=q2.two;have q2l:=q2.lt;have q2n:=Nat.ne_of_lt q2l;have q2m:=Nat.ne_of_gt q2l)))
   | (go_at_call_of 140 (Value.slice q m d);refine (dS _ Y k w _ HU.out fu).mono ?_;rintro e w2 ⟨u2,rfl,yJ,aQ⟩;obtain⟨s2,p2,n2,k2,rfl⟩:=yJ.eD;have hs2:=aQ.size;(try simp at hs2);(try (have q3:=aW.bq (aW.new _ _ #[_,_]) aQ;(try simp at q3);obtain⟨q3a,q3b,q3c,q3d⟩:=q3.two;have q3l:=q3.lt;have q3n:=Nat.ne_of_lt q3l;have q3m:=Nat.ne_of_gt q3l));(try (have q4:=aW.bq (aW.alloc (aW.new _ _ #[_,_]) _) aQ;(try simp at q4);obtain⟨q4a,q4b,q4c,q4d⟩:=q4.two;have q4l:=q4.lt;have q4n:=Nat.ne_of_lt q4l;have q4m:=Nat.ne_of_gt q4l));(try (have q5:=aW.bq q1 aQ;(try simp at q5);obtain⟨q5a,q5b,q5c,q5d⟩:=q5.two;have q5l:=q5.lt;have q5n:=Nat.ne_of_lt q5l;have q5m:=Nat.ne_of_gt q5l));(try (have q6:=aW.bq q2 aQ;(try simp at q6);obtain⟨q6a,q6b,q6c,q6d⟩:=q6.two;have q6l:=q6.lt;have q6n:=Nat.ne_of_lt q6l;have q6m:=Nat.ne_of_gt q6l));(try (have q7:=aW.bq (aW.alloc q1 _) aQ;(try simp at q7);obtain⟨q7a,q7b,q7c,q7d⟩:=q7.two;have q7l:=q7.lt;have q7n:=Nat.ne_of_lt q7l;have q7m:=Nat.ne_of_gt q7l)))
   | fail)
  all_goals
   go_wp2
   go_meet
   refine⟨_,_,s1,p1,n1,k1,s2,p2,n2,k2,rfl,rfl,?_,?_,yg,yJ,?_⟩
   ·(with_reducible (repeat (first|assumption|exact aW.newAt (by first|rfl|(simp;done)) _ _|refine aW.alloc ?_ _|refine aW.drew ?_|refine aW.bj (u:=.bool false) (v:=.slice none 0 0) ?_ _ _|refine aW.cY ?_ (by first|omega|(simp;omega)) _ _|refine aW.bq ?_ (by assumption))))
   ·(with_reducible (repeat (first|assumption|exact aW.newAt (by first|rfl|(simp;done)) _ _|refine aW.alloc ?_ _|refine aW.drew ?_|refine aW.bj (u:=.bool false) (v:=.slice none 0 0) ?_ _ _|refine aW.cY ?_ (by first|omega|(simp;omega)) _ _|refine aW.bq ?_ (by assumption))))
   ·exact fu
 case rest=>
  obtain⟨g,h,s1,p1,n1,k1,s2,p2,n2,k2,rfl,rfl,B5,B6,yg,yJ,hbc⟩:=hcut
  obtain⟨Iw,jK,hX⟩:=yg.parts
  obtain⟨vX,kG,hY⟩:=yJ.parts
  have B3:=b3.bq hbc
  have B4:=b4.bq hbc
  have jS:ax w wc:=jL.aA hbc
  have HR1:=Lib.hid (jK.below jS)
  have HR2:=Lib.hid (kG.below jS)
  have HN1:=Lib.hid Iw
  have HN2:=Lib.hid vX
  have HX:=Lib.hid hX
  have HY:=Lib.hid hY
  have HM1:Hid (n1<=536870912):=by show _<=_;rw[Iw];exact HJ.out
  have HM2:Hid (n2<=536870912):=by show _<=_;rw[vX];exact HK.out
  have hzs:w.heap.size+4<=wc.heap.size:=Nat.le_trans hsz hbc.size
  clear b1 b2 b3 b4 hbc jL yg yJ jK kG hX hY Iw vX hsz
  obtain⟨c1,c2,_,_⟩:=B5.two
  obtain⟨c3,c4,_,_⟩:=B6.two
  go_wp2_with fail
  refine (rR _ _ n1 n2 _ _ _ HR1.out HR2.out (ai _) (ai _) HM1.out HM2.out).mono ?_
  rw[ah,ah]
  rintro e w3 ⟨hd,bM⟩
  replace bM:ax _ w3:=bM
  have F5:=B5.bq bM
  have F6:=B6.bq bM
  have F3:=B3.bq bM
  have F4:=B4.bq bM
  have hbw3:=jS.aA bM
  obtain⟨e1,e2,_,_⟩:=F5.two
  obtain⟨e3,e4,_,_⟩:=F6.two
  obtain⟨e5,e6,f5,f6⟩:=F3.two
  obtain⟨e7,e8,f7,f8⟩:=F4.two
  rcases hd with ⟨h0,rfl⟩|⟨h0,vq,vr,rfl,zw,tN⟩
  ·have hY0:Y=0:=by have:=HY.out;split at this <;> omega
   have G3:=(F3.bj (.bool false) (.slice none 0 0)).cY (b':=w.heap.size+3) aa (.bool false) (.slice none 0 0)
   have G4:=(F4.cY (b':=w.heap.size+2) aa (.bool false) (.slice none 0 0)).bj (.bool false) (.slice none 0 0)
   have hbz:=(hbw3.bj (b:=w.heap.size+2) aa (.bool false) (.slice none 0 0)).bj (b:=w.heap.size+3) aa (.bool false) (.slice none 0 0)
   clear HX HY HN1 HN2 h0
   go_wp2
   generalize (((w3.setCell ⟨w.heap.size+1+1,0,none⟩ (.bool false)).setCell ⟨w.heap.size+1+1,1,none⟩ (.slice none 0 0)).setCell ⟨w.heap.size+1+1+1,0,none⟩ (.bool false)).setCell ⟨w.heap.size+1+1+1,1,none⟩ (.slice none 0 0)=wz at*
   obtain⟨d1,d2,_,_⟩:=G3.two
   obtain⟨d3,d4,_,_⟩:=G4.two
   exact bodyPost_ret (v:=.tuple #[.agg #[.bool false,.slice none 0 0],.agg #[.bool false,.slice none 0 0],.int .i64 20]) (by simp[results,Tryz.results147,go_sem,d1,d2,d3,d4]) rfl (bg.out _ _ ⟨.inl ⟨hY0,_,_,rfl,aj.zero _ _,aj.zero _ _⟩,hbz⟩)
  ·obtain⟨pq,kq,rfl,_,_,_⟩:=Own.form zw
   obtain⟨pr,kr,rfl,_,_,_⟩:=Own.form tN
   generalize hlq:(limbs (X.natAbs/Y.natAbs)).length=lq at*
   generalize BF:(limbs (X.natAbs%Y.natAbs)).length=lr at*
   have HLQ:=Lib.hid hlq.symm
   have Hq:=Lib.hid BF.symm
   have HOQ:=Lib.hid zw
   have HOR:=Lib.hid tN
   have H0:=Lib.hid h0
   clear zw tN hlq BF h0 e2 e6 e8 e5 e7 f5 f6 f7 f8 c1 c2 c3 c4
   by_cases hst:s1=s2
   ·subst hst
    clear e4
    go_wp2_with fail
    have hg3:g≠w.heap.size+1+1:=aW.apart F5 F3 ff
    have hg4:g≠w.heap.size+1+1+1:=aW.apart F5 F4 ff
    have hh3:h≠w.heap.size+1+1:=aW.apart F6 F3 ff
    have hh4:h≠w.heap.size+1+1+1:=aW.apart F6 F4 ff
    have HS:=Lib.hid (λw' (hk:aJ w3 (w.heap.size+1+1) (w.heap.size+1+1+1) w')=>And.intro ((hk.cls F5 hg3 hg4).cell (j:=0) rfl) ((hk.cls F6 hh3 hh4).cell (j:=0) rfl))
    go_region_held3 (λw'=>w'.cell? ⟨g,0,none⟩=some (.bool s1)/\w'.cell? ⟨h,0,none⟩=some (.bool s1)) ((refine HS.out _ ?_;(with_reducible (repeat (first|exact aJ.refl _ _ _|refine aJ.drew ?_|refine aJ.IM ?_ _|refine aJ.kM ?_ _|refine aJ.aA ?_ (by assumption)))))) (first
     | (go_at_call_of 92 (Value.slice pq lq kq);refine (ew _ _ _ _ _).mono ?_;rintro e w6 ⟨sg,rfl,tp,oG⟩)
     | (go_at_call_of 92 (Value.slice pr lr kr);refine (ew _ _ _ _ _).mono ?_;rintro e w7 ⟨uI,rfl,JA,Ef⟩;obtain⟨i1,i2,i3,i4⟩:=(aW.bq (w':=w7) F3 fu).two;obtain⟨j1,j2,j3,j4⟩:=(aW.bq (w':=w7) F4 fu).two)
     | fail)
    have E3:=(aW.bq (w':=w7) F3 fu)
    have E4:=(aW.bq (w':=w7) F4 fu)
    have FW:ax w3 w7:=fu
    have FB:ax w w7:=fu
    have zw:=Own.below (HOQ).out FW
    have tN:=Own.below (HOR).out FW
    have Aw:=(Own.bj (Own.bj zw E3 ff (.bool sg) (.slice pq lq kq)) (E4.cY (b':=w.heap.size+1+1) aa (.bool sg) (.slice pq lq kq)) ff (.bool uI) (.slice pr lr kr))
    have Ax:=(Own.bj (Own.bj tN E3 ff (.bool sg) (.slice pq lq kq)) (E4.cY (b':=w.heap.size+1+1) aa (.bool sg) (.slice pq lq kq)) ff (.bool uI) (.slice pr lr kr))
    have G3:=(E3.bj (.bool sg) (.slice pq lq kq)).cY (b':=w.heap.size+1+1+1) aa (.bool uI) (.slice pr lr kr)
    have G4:=(E4.cY (b':=w.heap.size+1+1) aa (.bool sg) (.slice pq lq kq)).bj (.bool uI) (.slice pr lr kr)
    have hbz:=(FB.bj (b:=w.heap.size+1+1) aa (.bool sg) (.slice pq lq kq)).bj (b:=w.heap.size+1+1+1) aa (.bool uI) (.slice pr lr kr)
    have JB:=Lib.hid Aw
    have JC:=Lib.hid Ax
    clear zw tN Aw Ax
    go_wp2
    generalize (((w7.setCell ⟨w.heap.size+1+1,0,none⟩ (.bool sg)).setCell ⟨w.heap.size+1+1,1,none⟩ (.slice pq lq kq)).setCell ⟨w.heap.size+1+1+1,0,none⟩ (.bool uI)).setCell ⟨w.heap.size+1+1+1,1,none⟩ (.slice pr lr kr)=wz at*
    obtain⟨d1,d2,_,_⟩:=G3.two
    obtain⟨d3,d4,_,_⟩:=G4.two
    have yy:=ni HX.out HY.out H0.out (.inl ⟨.inl rfl,rfl,rfl⟩)
    refine bodyPost_ret (v:=.tuple #[.agg #[.bool sg,.slice pq lq kq],.agg #[.bool uI,.slice pr lr kr],.int .i64 0]) (by simp[results,Tryz.results147,go_sem,d1,d2,d3,d4]) rfl (bg.out _ _ ⟨.inr ⟨by have:=H0.out;omega,_,_,rfl,?_,?_⟩,hbz⟩)
    ·rw[tp.out]
     exact aj.of (by rw[<-(HLQ).out];exact Own.mono JB.out jS.size) (HLQ).out _ (by simpa using yy.1)
    ·rw[JA.out]
     exact aj.of (by rw[<-(Hq).out];exact Own.mono JC.out jS.size) (Hq).out _ (by simpa using yy.2)
   ·obtain rfl:s2= !s1:=by cases s1 <;> cases s2 <;> simp_all
    by_cases sY:X.natAbs%Y.natAbs=0
    ·have hl0:lr=0:=by have:=Hq.out;rw[sY,bd] at this;exact this
     have HR0:=Lib.hid sY
     subst hl0
     clear sY hst e4
     go_wp2_with fail
     have hg3:g≠w.heap.size+1+1:=aW.apart F5 F3 ff
     have hg4:g≠w.heap.size+1+1+1:=aW.apart F5 F4 ff
     have hh3:h≠w.heap.size+1+1:=aW.apart F6 F3 ff
     have hh4:h≠w.heap.size+1+1+1:=aW.apart F6 F4 ff
     have HS:=Lib.hid (λw' (hk:aJ w3 (w.heap.size+1+1) (w.heap.size+1+1+1) w')=>And.intro ((hk.cls F5 hg3 hg4).cell (j:=0) rfl) ((hk.cls F6 hh3 hh4).cell (j:=0) rfl))
     go_region_held3 (λw'=>w'.cell? ⟨g,0,none⟩=some (.bool s1)/\w'.cell? ⟨h,0,none⟩=some (.bool (!s1))) ((refine HS.out _ ?_;(with_reducible (repeat (first|exact aJ.refl _ _ _|refine aJ.drew ?_|refine aJ.IM ?_ _|refine aJ.kM ?_ _|refine aJ.aA ?_ (by assumption)))))) (first
      | (go_at_call_of 92 (Value.slice pq lq kq);refine (ew _ _ _ _ _).mono ?_;rintro e w6 ⟨sg,rfl,tp,oG⟩)
      | (go_at_call_of 92 (Value.slice pr 0 kr);refine (ew _ _ _ _ _).mono ?_;rintro e w7 ⟨uI,rfl,JA,Ef⟩;obtain⟨i1,i2,i3,i4⟩:=(aW.bq (w':=w7) F3 fu).two;obtain⟨j1,j2,j3,j4⟩:=(aW.bq (w':=w7) F4 fu).two)
      | fail)
     have E3:=(aW.bq (w':=w7) F3 fu)
     have E4:=(aW.bq (w':=w7) F4 fu)
     have FW:ax w3 w7:=fu
     have FB:ax w w7:=fu
     have zw:=Own.below (HOQ).out FW
     have tN:=Own.below (HOR).out FW
     have Aw:=(Own.bj (Own.bj zw E3 ff (.bool sg) (.slice pq lq kq)) (E4.cY (b':=w.heap.size+1+1) aa (.bool sg) (.slice pq lq kq)) ff (.bool uI) (.slice pr 0 kr))
     have Ax:=(Own.bj (Own.bj tN E3 ff (.bool sg) (.slice pq lq kq)) (E4.cY (b':=w.heap.size+1+1) aa (.bool sg) (.slice pq lq kq)) ff (.bool uI) (.slice pr 0 kr))
     have G3:=(E3.bj (.bool sg) (.slice pq lq kq)).cY (b':=w.heap.size+1+1+1) aa (.bool uI) (.slice pr 0 kr)
     have G4:=(E4.cY (b':=w.heap.size+1+1) aa (.bool sg) (.slice pq lq kq)).bj (.bool uI) (.slice pr 0 kr)
     have hbz:=(FB.bj (b:=w.heap.size+1+1) aa (.bool sg) (.slice pq lq kq)).bj (b:=w.heap.size+1+1+1) aa (.bool uI) (.slice pr 0 kr)
     have JB:=Lib.hid Aw
     have JC:=Lib.hid Ax
     clear zw tN Aw Ax
     go_wp2
     generalize (((w7.setCell ⟨w.heap.size+1+1,0,none⟩ (.bool sg)).setCell ⟨w.heap.size+1+1,1,none⟩ (.slice pq lq kq)).setCell ⟨w.heap.size+1+1+1,0,none⟩ (.bool uI)).setCell ⟨w.heap.size+1+1+1,1,none⟩ (.slice pr 0 kr)=wz at*
     obtain⟨d1,d2,_,_⟩:=G3.two
     obtain⟨d3,d4,_,_⟩:=G4.two
     have yy:=ni HX.out HY.out H0.out (.inl ⟨.inr HR0.out,rfl,rfl⟩)
     refine bodyPost_ret (v:=.tuple #[.agg #[.bool sg,.slice pq lq kq],.agg #[.bool uI,.slice pr 0 kr],.int .i64 0]) (by simp[results,Tryz.results147,go_sem,d1,d2,d3,d4]) rfl (bg.out _ _ ⟨.inr ⟨by have:=H0.out;omega,_,_,rfl,?_,?_⟩,hbz⟩)
     ·rw[tp.out]
      exact aj.of (by rw[<-(HLQ).out];exact Own.mono JB.out jS.size) (HLQ).out _ (by simpa using yy.1)
     ·rw[JA.out]
      exact aj.of (by rw[<-(Hq).out];exact Own.mono JC.out jS.size) (Hq).out _ (by simpa using yy.2)
    ·have hlp:0<lr:=by have:=Hq.out;have:=cN sY;omega
     have hpi:(0:Int)<(lr:Int):=by omega
     have HR0:=Lib.hid sY
     have Ix:Hid (lq<=536870912):=by show _<=_;rw[HLQ.out];exact Nat.le_trans (bV (Nat.div_le_self _ _)) HJ.out
     clear sY hst
     go_wp2_with fail
     refine (DD _ _ lq 1 _ [1] _ ((Rd.own HOQ.out).alloc _) (Rd.lit1 rfl) (ai _) (bH.cons aa bH.nil) (by have:=Ix.out;omega) aa).mono ?_
     rintro e w4 ⟨v4,rfl,ho4,fb⟩
     replace fb:ax _ w4:=fb
     rw[ah,show ag [1]=1 by rfl] at ho4
     obtain⟨pm,cm,rfl,_,_,_⟩:=Own.form ho4
     generalize hnm:(limbs (X.natAbs/Y.natAbs+1)).length=nm at*
     have Ik:=Lib.hid hnm.symm
     have FJ:ax w3 w4:=((ax.refl w3).alloc _).aA fb
     have Fh:=Lib.hid (Own.mono ho4 (show w3.heap.size<=_ by simp))
     have HOR4:=Lib.hid (Own.below HOR.out FJ)
     have HY4:=Lib.hid (HR2.out.below (bM.aA FJ))
     obtain⟨i1,i2,_,_⟩:=(F6.bq FJ).two
     clear ho4 hnm fb
     go_wp2_with fail
     refine (xR _ _ n2 lr _ _ _ HY4.out (Rd.own HOR4.out) (ai _) (ai _) (by have:=HM2.out;omega)).mono ?_
     rintro e w5 ⟨⟨h,_⟩|⟨_,v5,rfl,ho5⟩,gW⟩
     ·rw[ah,ah] at h;exact absurd h (by have:=Nat.mod_lt X.natAbs (Nat.pos_of_ne_zero H0.out);omega)
     replace gW:ax _ w5:=gW
     rw[ah,ah] at ho5
     obtain⟨pn,cn,rfl,_,_,_⟩:=Own.form ho5
     generalize hnn:(limbs (Y.natAbs-X.natAbs%Y.natAbs)).length=nn at*
     have HLN:=Lib.hid hnn.symm
     have FK:ax w3 w5:=FJ.aA gW
     have HOM:=Lib.hid (Own.mono (Own.below Fh.out gW) bM.size)
     have HON:=Lib.hid (Own.mono ho5 (Nat.le_trans bM.size FJ.size))
     have T3:=F3.bq FK
     have T4:=F4.bq FK
     have T5:=F5.bq FK
     have T6:=F6.bq FK
     have hbw5:=hbw3.aA FK
     clear ho5 hnn gW F3 F4 F5 F6 FJ FK bM hbw3 HOQ HOR Fh HOR4 HY4 i1 i2
     obtain⟨e1,_,_,_⟩:=T5.two
     obtain⟨e3,_,_,_⟩:=T6.two
     go_wp2_with fail
     have hg3:g≠w.heap.size+1+1:=aW.apart T5 T3 ff
     have hg4:g≠w.heap.size+1+1+1:=aW.apart T5 T4 ff
     have hh3:h≠w.heap.size+1+1:=aW.apart T6 T3 ff
     have hh4:h≠w.heap.size+1+1+1:=aW.apart T6 T4 ff
     have HS:=Lib.hid (λw' (hk:aJ w5 (w.heap.size+1+1) (w.heap.size+1+1+1) w')=>And.intro ((hk.cls T5 hg3 hg4).cell (j:=0) rfl) ((hk.cls T6 hh3 hh4).cell (j:=0) rfl))
     go_region_held3 (λw'=>w'.cell? ⟨g,0,none⟩=some (.bool s1)/\w'.cell? ⟨h,0,none⟩=some (.bool (!s1))) ((refine HS.out _ ?_;(with_reducible (repeat (first|exact aJ.refl _ _ _|refine aJ.drew ?_|refine aJ.IM ?_ _|refine aJ.kM ?_ _|refine aJ.aA ?_ (by assumption)))))) (first
      | (go_at_call_of 92 (Value.slice pm nm cm);refine (ew _ _ _ _ _).mono ?_;rintro e w6 ⟨sg,rfl,tp,oG⟩)
      | (go_at_call_of 92 (Value.slice pn nn cn);refine (ew _ _ _ _ _).mono ?_;rintro e w7 ⟨uI,rfl,JA,Ef⟩;obtain⟨i1,i2,i3,i4⟩:=(aW.bq (w':=w7) T3 fu).two;obtain⟨j1,j2,j3,j4⟩:=(aW.bq (w':=w7) T4 fu).two)
      | fail)
     have E3:=(aW.bq (w':=w7) T3 fu)
     have E4:=(aW.bq (w':=w7) T4 fu)
     have FW:ax w5 w7:=fu
     have FB:ax w w7:=fu
     have zw:=Own.below (HOM).out FW
     have tN:=Own.below (HON).out FW
     have Aw:=(Own.bj (Own.bj zw E3 ff (.bool sg) (.slice pm nm cm)) (E4.cY (b':=w.heap.size+1+1) aa (.bool sg) (.slice pm nm cm)) ff (.bool uI) (.slice pn nn cn))
     have Ax:=(Own.bj (Own.bj tN E3 ff (.bool sg) (.slice pm nm cm)) (E4.cY (b':=w.heap.size+1+1) aa (.bool sg) (.slice pm nm cm)) ff (.bool uI) (.slice pn nn cn))
     have G3:=(E3.bj (.bool sg) (.slice pm nm cm)).cY (b':=w.heap.size+1+1+1) aa (.bool uI) (.slice pn nn cn)
     have G4:=(E4.cY (b':=w.heap.size+1+1) aa (.bool sg) (.slice pm nm cm)).bj (.bool uI) (.slice pn nn cn)
     have hbz:=(FB.bj (b:=w.heap.size+1+1) aa (.bool sg) (.slice pm nm cm)).bj (b:=w.heap.size+1+1+1) aa (.bool uI) (.slice pn nn cn)
     have JB:=Lib.hid Aw
     have JC:=Lib.hid Ax
     clear zw tN Aw Ax
     go_wp2
     generalize (((w7.setCell ⟨w.heap.size+1+1,0,none⟩ (.bool sg)).setCell ⟨w.heap.size+1+1,1,none⟩ (.slice pm nm cm)).setCell ⟨w.heap.size+1+1+1,0,none⟩ (.bool uI)).setCell ⟨w.heap.size+1+1+1,1,none⟩ (.slice pn nn cn)=wz at*
     obtain⟨d1,d2,_,_⟩:=G3.two
     obtain⟨d3,d4,_,_⟩:=G4.two
     have yy:=ni HX.out HY.out H0.out (.inr ⟨by cases s1 <;> simp,HR0.out,rfl,rfl⟩)
     refine bodyPost_ret (v:=.tuple #[.agg #[.bool sg,.slice pm nm cm],.agg #[.bool uI,.slice pn nn cn],.int .i64 0]) (by simp[results,Tryz.results147,go_sem,d1,d2,d3,d4]) rfl (bg.out _ _ ⟨.inr ⟨by have:=H0.out;omega,_,_,rfl,?_,?_⟩,hbz⟩)
     ·rw[tp.out]
      exact aj.of (by rw[<-(Ik).out];exact Own.mono JB.out jS.size) (Ik).out _ (by simpa using yy.1)
     ·rw[JA.out]
      exact aj.of (by rw[<-(HLN).out];exact Own.mono JC.out jS.size) (HLN).out _ (by simpa using yy.2)
end
section
open Go.RowKit
theorem tq:(Tryz.prog.info? 3).map (λi=>(i.zero,i.size,i.bytes))=some (some (.int .i64 0),1,8):=by kernel_rfl
def hval (xs:List Nat):Nat:=val 65536 xs
def halves (n:Nat):List Nat:=fN 65536 n
def eP (xs:List Nat):Prop:=dc 65536 xs
theorem bh (n:Nat):eP (halves n):=me aa n
theorem aL (n:Nat):hval (halves n)=n:=iP aa n
theorem eP.at {xs:List Nat} (h:eP xs) {k x:Nat} (hk:xs[k]? =some x):x<65536:=dc.at h hk
theorem jr:halves 0=[]:=db _
theorem CH {m n:Nat} (h:halves m=halves n):m=n:=tJ aa h
theorem iI (xs:List Nat) (x:Nat):hval (xs++[x])=hval xs+65536^xs.length*x:=jM _ xs x
theorem pZ {xs:List Nat} (h:eP xs):hval xs<65536^xs.length:=mf h
theorem cw {xs:List Nat} (h:bH xs):(halves (ag xs)).length<=2*xs.length:=by
 apply dI aa
 have:=fi h
 rwa [Nat.pow_mul]
theorem Rd.i64 {w:World} {v:Value} {n:Nat} {xs:List Nat} (h:Rd w 1 v n (ints .i64 xs)):∃ p c,v=.slice p n c/\n<=c/\c<=9223372036854775807/\xs.length=n:=by
 obtain⟨p,c,hv,h1,h2,h3⟩:=h.form
 unfold maxLen at h2
 exact⟨p,c,hv,h1,by omega,by simpa using h3⟩
theorem Rd.Ay {w:World} {n c m:Nat} {p:Option Addr} {xs:List Nat} {k:IntKind} (h:Rd w 1 (.slice p n c) n (ints k xs)) (hm:m<=n):Rd w 1 (.slice p m c) m (ints k (xs.take m)):=by
 have:=h.take hm
 rwa [Nat.mul_one,nb] at this
theorem Own.Ay {w:World} {B e n c m:Nat} {p:Option Addr} {xs:List Nat} {k:IntKind} (h:w.ownsRow B e 1 (.slice p n c) n (ints k xs)) (hm:m<=n):w.ownsRow B e 1 (.slice p m c) m (ints k (xs.take m)):=by
 have:=Own.take h hm
 rwa [Nat.mul_one,nb] at this
set_option maxRecDepth 100000 in
theorem fW (va:Value) (n i:Nat) (xs:List Nat) (w:World) (hr:Rd w 1 va n (ints .i64 xs)):
  Calls Tryz.prog 217 #[va,.int .i64 (i:Int)] w λe w'=>e=.returned (.int .i64 ((xs.getD i 0:Nat):Int))/\w=w':=by
 obtain⟨p,c,rfl,dk,dY,dK⟩:=hr.i64
 have HX:=Lib.hid dK
 clear dK
 by_cases hi:i<n
 ·obtain⟨b,off,x,rfl,_,hx,hc⟩:=hr.cellAt hi
  have e:Hid (xs.getD i 0=x):=by show _=_;rw[List.getD,hx];rfl
  clear hx
  refine aD λR' bg=> ?_
  go_enter Tryz.func217,Tryz.ntmps217
  go_wp2
  exact bg.out _ _ ⟨jO (by rw[e.out]),rfl⟩
 ·have e:Hid (xs.getD i 0=0):=by show _=_;rw[List.getD,List.getElem?_eq_none (by rw[HX.out];omega)];rfl
  refine aD λR' bg=> ?_
  go_enter Tryz.func217,Tryz.ntmps217
  go_wp2
  exact bg.out _ _ ⟨jO (by rw[e.out];rfl),rfl⟩
set_option maxRecDepth 100000 in
theorem xj (p:Option Addr) (n c:Nat) (xs:List Nat) (w:World) (hr:Rd w 1 (.slice p n c) n (ints .i64 xs)) (hl:eP xs):
  Calls Tryz.prog 235 #[.slice p n c] w λe w'=>(∃ m,m<=n/\e=.returned (.slice p m c)/\halves (hval xs)=xs.take m)/\w=w':=by
 obtain⟨p',c',hv,dk,dY,dK⟩:=hr.i64
 simp only[Value.slice.injEq,true_and] at hv
 obtain⟨rfl,rfl⟩:=hv
 have HX:Hid (xs.length=n):=dK
 clear dK
 refine aD λR' bg=> ?_
 go_enter Tryz.func235,Tryz.ntmps235
 go_wp2
 go_loop [0] (λv=>∃ m,m<=n/\v=.slice p m c/\hval (xs.take m)=hval xs) (λv=>match v with | .slice _ m _=>m|_=>0)
 case atStart=>exact⟨n,Nat.le_refl _,rfl,by rw[List.take_of_length_le (Nat.le_of_eq HX.out)]⟩
 case round=>
  obtain⟨m,hm,rfl,hv⟩:=hrel
  have HV:Hid (hval (xs.take m)=hval xs):=hv
  clear hv
  by_cases h0:m=0
  ·subst h0
   go_wp2
   exact bg.out _ _ ⟨⟨0,Nat.zero_le _,rfl,iC aa hl (Nat.zero_le _) HV.out (.inl rfl)⟩,rfl⟩
  ·obtain⟨b,off,x,rfl,hb,hx,hc⟩:=hr.cellAt (k:=m-1) aa
   have Ih:Hid (xs[m-1]? =some x):=hx
   clear hx
   have h0':0<m:=by omega
   obtain⟨j,rfl⟩:∃ j,m=j+1:=⟨m-1,by omega⟩
   rw[Nat.add_sub_cancel] at hc
   by_cases lL:x=0
   ·subst lL
    go_wp2
    go_round
    case rel=>exact⟨j,by omega,rfl,(jj Ih.out).symm.trans HV.out⟩
    case measure=>simp
   ·have hx0':((x:Int) == 0)=false:=by rw[beq_eq_false_iff_ne];omega
    go_wp2
    exact bg.out _ _ ⟨⟨j+1,hm,rfl,iC aa hl (by rw[HX.out];exact hm) HV.out (.inr ⟨x,Ih.out,lL⟩)⟩,rfl⟩
theorem Own.cut {w:World} {B e n c m:Nat} {p:Option Addr} {xs:List Nat} (h:w.ownsRow B e 1 (.slice p n c) n (ints .i64 xs)) (hm:m<=n) (hl:halves (hval xs)=xs.take m):
  w.ownsRow B e 1 (.slice p m c) (halves (hval xs)).length (ints .i64 (halves (hval xs)))/\m=(halves (hval xs)).length:=by
 have hx:xs.length=n:=by have:=h.1;simpa using this
 have e2:(halves (hval xs)).length=m:=by rw[hl,List.length_take];omega
 have:=Own.Ay h hm
 rw[<-hl] at this
 rw[e2]
 exact⟨this,rfl⟩
def Eg (w:World) (B:Nat) (xs:List Nat) (ov iv:Value) (wr:World):Prop:=
 ∃ (k:Nat) (hs:List Nat),k<=xs.length/\iv=.int .i64 (k:Int)/\hs.length=2*k/\eP hs/\hval hs=ag (xs.take k)/\
   wr.ownsRow B 3 1 ov (2*k) (ints .i64 hs)/\Below B w wr
theorem Eh {x:Nat} (h:x<4294967296):IntKind.i64.wrap ((x:Int).tmod 65536)=((x%65536:Nat):Int):=by
 rw[Int.tmod_eq_emod_of_nonneg aa,IntWalk.i64_in _ aa];simp
theorem Ei {x:Nat} (h:x<4294967296):IntKind.i64.wrap (IntKind.u32.wrap ((x:Int)/65536))=((x/65536:Nat):Int):=by
 rw[IntKind.wrap_u32',Int.emod_eq_of_lt aa aa,IntWalk.i64_in _ aa];simp
theorem xk {k x:Nat} {xs hs:List Nat} (hx:xs[k]? =some x) (jf:x<4294967296) (hl:hs.length=2*k) (hh:eP hs) (hv:hval hs=ag (xs.take k)):
  eP (hs++[x%65536,x/65536])/\hval (hs++[x%65536,x/65536])=ag (xs.take (k+1)):=by
 have hk:k<xs.length:=(List.getElem?_eq_some_iff.1 hx).1
 refine⟨dc.append hh (dc.cons (Nat.mod_lt _ aa) (dc.cons aa (dc.nil _))),?_⟩
 rw[bc hx,cO,<-hv,List.length_take,Nat.min_eq_left aa]
 show val 65536 _=_
 rw[gm,hl]
 show hval hs+_=_
 congr 1
 rw[Nat.pow_mul]
 show (4294967296:Nat)^k*(x%65536+65536*(x/65536+65536*0))=_
 congr 1
 omega
set_option maxRecDepth 100000 in
theorem dT (va:Value) (n:Nat) (xs:List Nat) (w:World) (hr:Rd w 1 va n (ints .u32 xs)) (hl:bH xs) (hn:n<=1073741824):
  Calls Tryz.prog 216 #[va] w λe w'=>∃ v',e=.returned v'/\w'.ownsRow w.heap.size 3 1 v' (halves (ag xs)).length (ints .i64 (halves (ag xs)))/\Below w.heap.size w w':=by
 obtain⟨p,c,rfl,dk,dY,dK⟩:=hr.u32
 obtain⟨i0,hi,jz,jQ,kD⟩:=info_parts tq
 obtain⟨B,hB⟩:∃ B,B=w.heap.size:=⟨_,rfl⟩
 have HB:=Lib.hid hB
 have Hr:=Lib.hid hr
 have HL:=Lib.hid hl
 have HX:=Lib.hid dK
 rw[<-hB]
 clear hr hl dK hB
 refine aD λR' bg=> ?_
 go_enter Tryz.func216,Tryz.ntmps216
 go_wp2
 go_loopw [3,4] (λov iv wr=>Eg w B xs ov iv wr) (λ_ iv _=>n-(intOf iv).toNat)
 case atStart=>exact⟨0,[],Nat.zero_le _,rfl,rfl,dc.nil _,rfl,World.ownsRow_nil _ _ _ _,Below.refl _ _⟩
 case round=>
  obtain⟨k,hs,hk,rfl,hhl,hhh,hhv,aw,hb⟩:=hrel
  have HK:=Lib.hid hk
  have HO:=Lib.hid aw
  have HHL:=Lib.hid hhl
  have HHH:=Lib.hid hhh
  have HHV:=Lib.hid hhv
  have fj:=Lib.hid hb
  have sZ:B<=wr.heap.size:=by have:=hb.size;have:=HB.out;omega
  have hkn':k<=n:=by rw[<-HX.out];exact hk
  clear hk aw hhl hhh hhv hb
  by_cases sM:k<n
  ·obtain⟨b1,o1,x,rfl,aC,ea,hcw⟩:=Hr.out.cellAt sM
   have lO:=(fj.out.cell (p:=⟨b1,o1+k,none⟩) (by rw[HB.out];exact aC)).trans hcw
   have hne:=Ic HO.out (b:=b1) (by rw[HB.out];exact aC)
   have ta:=Lib.hid ea
   have jf:=HL.out.at ea
   have HNE:=Lib.hid hne
   have Hv:(0:Int)<=(k:Int):=by omega
   have jF:(k:Int)<(n:Int):=by omega
   clear ea hcw hne
   go_wp2_with fail
   go_region_held3 (λw'=>w'.cell? ⟨b1,o1+k,none⟩=some (.int .u32 (x:Int))) (first|exact lO|go_keep|exact wy uJ lO HNE.out)
    ((refine mh (by rfl) _ _ 272 (by rfl) B 3 i0 (.int .i64 0) 1 8 Tryz.underlying272 hi jz jQ kD rfl aa _ (2*k) (ints .i64 hs) (by rfl) ((HO.out.alloc _).drew) _ 2 (ints .i64 [x%65536,x/65536]) (by rfl) (Rd.drew (Rd.lit2 (Eh jf) (Ei jf))) (jN .i64 [x%65536,x/65536]) (by unfold maxLen;omega) aa (by simp;omega) ?_;intro v1 w1 ez uJ))
   have oV:=Lib.hid ez
   have HG1:=Lib.hid uJ
   clear ez uJ
   go_wp2_with fail
   go_roundw
   case rel=>
    have hst:=xk ta.out jf HHL.out HHH.out HHV.out
    exact⟨k+1,hs++[x%65536,x/65536],by rw[HX.out];omega,by go_num,by simp[HHL.out];omega,hst.1,hst.2,by rw[fy];exact oV.out,Below.behind fj.out sZ HG1.out HO.out (Nat.le_refl _)⟩
   case measure=>simp[intOf];omega
  ·obtain rfl:k=n:=by omega
   obtain⟨p1,c1,BG,_,_,_⟩:=Own.form HO.out
   have HV1:=Lib.hid BG
   have nY:Hid (hval hs=ag xs):=by show _=_;rw[HHV.out,aV (Nat.le_of_eq HX.out)]
   subst BG
   go_wp2_with fail
   refine (xj p1 (2*k) c1 hs _ (Rd.own HO.out) HHH.out).mono ?_
   rintro e w2 ⟨⟨m,hm,rfl,vL⟩,rfl⟩
   have HC:=Own.cut HO.out hm vL
   rw[nY.out] at HC
   have HC1:=Lib.hid HC.1
   have HC2:=Lib.hid HC.2
   clear HC vL
   go_wp2_with fail
   refine bg.out _ _ ⟨_,rfl,?_,fj.out⟩
   have:=HC1.out
   rw[<-HC2.out] at this ⊢
   exact this
def LimbInv (w:World) (B m:Nat) (hs:List Nat) (ov iv:Value) (wr:World):Prop:=
 ∃ (k:Nat) (ds:List Nat),2*k<=m+1/\iv=.int .i64 ((2*k:Nat):Int)/\ds.length=k/\bH ds/\ag ds=hval (hs.take (2*k))/\
   wr.ownsRow B 191 1 ov k (ints .u32 ds)/\Below B w wr
theorem xl {k lo hi:Nat} {ds hs:List Nat} (hl:ds.length=k) (hd:bH ds) (hv:ag ds=hval (hs.take (2*k))) (Ho:hs.getD (2*k) 0=lo) (hhi:hs.getD (2*k+1) 0=hi)
  (h1:lo<65536) (h2:hi<65536):bH (ds++[lo+65536*hi])/\ag (ds++[lo+65536*hi])=hval (hs.take (2*(k+1))):=by
 refine⟨hd.append (bH.cons aa bH.nil),?_⟩
 rw[cO,hl,hv]
 show _=val 65536 (hs.take (2*k+1+1))
 rw[bx,bx,Ho,hhi,Nat.pow_succ,Nat.add_assoc]
 show hval _+_=hval _+_
 congr 1
 rw[show (4294967296:Nat)=65536^2 by rfl,<-Nat.pow_mul,Nat.mul_add,Nat.mul_assoc]
theorem Az {k m h:Nat} {ds:List Nat} (hl:ds.length=k) (hd:bH ds) (hv:ag ds=h) (hm:(halves h).length=m) (hk:2*k<=m+1):limbs h=ds:=by
 subst hv
 apply yR aa hd
 show ds.length<=(limbs (ag ds)).length
 rcases Nat.eq_zero_or_pos k with h0|h0
 ·omega
 ·have hne:ag ds≠0:=λh=>by rw[h,jr] at hm;simp at hm;omega
  have h1:65536^((halves (ag ds)).length-1)<=ag ds:=rN aa hne
  have h2:4294967296^(k-1)<=ag ds:=by
   rw[show (4294967296:Nat)=65536^2 by rfl,<-Nat.pow_mul]
   exact Nat.le_trans (Nat.pow_le_pow_right aa aa) h1
  have:=sJ h2
  omega
set_option maxRecDepth 100000 in
theorem mP (va:Value) (n:Nat) (ls:List Nat) (w:World) (hr:Rd w 1 va n (ints .i64 ls)) (hl:eP ls) (hn:n<=2147483656):
  Calls Tryz.prog 218 #[va] w λe w'=>∃ v',e=.returned v'/\w'.ownsRow w.heap.size 191 1 v' (limbs (hval ls)).length (ints .u32 (limbs (hval ls)))/\Below w.heap.size w w':=by
 obtain⟨p,c,rfl,dk,dY,dK⟩:=hr.i64
 obtain⟨i0,hi,jz,jQ,kD⟩:=info_parts gQ
 obtain⟨B,hB⟩:∃ B,B=w.heap.size:=⟨_,rfl⟩
 obtain⟨h,hh⟩:∃ h,h=hval ls:=⟨_,rfl⟩
 rw[<-hh]
 have HB:=Lib.hid hB
 have Hr:=Lib.hid hr
 have HL:=Lib.hid hl
 have HX:=Lib.hid dK
 have HH:=Lib.hid hh
 rw[<-hB]
 clear hr hl dK hB hh
 refine aD λR' bg=> ?_
 go_enter Tryz.func218,Tryz.ntmps218
 go_wp2_with fail
 refine (xj p n c ls _ Hr.out HL.out).mono ?_
 rintro e w1 ⟨⟨m,hm,rfl,vL⟩,rfl⟩
 have qH:(halves h).length=m:=by rw[HH.out,vL,List.length_take,HX.out];omega
 have qz:=Rd.Ay Hr.out hm
 rw[<-vL,<-HH.out] at qz
 have Ix:=Lib.hid qH
 have HRD:=Lib.hid qz
 clear qH qz vL
 go_wp2_with fail
 go_loopw [3,4] (λov iv wr=>LimbInv w B m (halves h) ov iv wr) (λ_ iv _=>m+2-(intOf iv).toNat)
 case atStart=>exact⟨0,[],by omega,rfl,rfl,bH.nil,rfl,World.ownsRow_nil _ _ _ _,Below.refl _ _⟩
 case round=>
  obtain⟨k,ds,hk,rfl,sL,hdd,hdv,aw,hb⟩:=hrel
  have HO:=Lib.hid aw
  have Cb:=Lib.hid sL
  have HDD:=Lib.hid hdd
  have HDV:=Lib.hid hdv
  have fj:=Lib.hid hb
  have sZ:B<=wr.heap.size:=by have:=hb.size;have:=HB.out;omega
  clear aw sL hdd hdv hb
  by_cases BQ:2*k<m
  ·obtain⟨b1,o1,lo,rfl,aC,ea,lO⟩:=(HRD.out.gn HB.out fj.out).cellAt BQ
   have Ho:=(bh h).at ea
   have HLO:Hid ((halves h).getD (2*k) 0=lo):=by show _=_;rw[List.getD,ea];rfl
   clear ea
   by_cases hkm1:2*k+1<m
   ·obtain⟨b2,o2,qY,hp2,aQ,lP,yT⟩:=(HRD.out.gn HB.out fj.out).cellAt hkm1
    have hhi:=(bh h).at lP
    have HHI:Hid ((halves h).getD (2*k+1) 0=qY):=by show _=_;rw[List.getD,lP];rfl
    simp only[Option.some.injEq,Addr.mk.injEq,and_true] at hp2
    obtain⟨rfl,rfl⟩:=hp2
    clear lP
    have hy:(lo:Int)+65536*(qY:Int)=((lo+65536*qY:Nat):Int):=by omega
    have HY:=Lib.hid hy
    clear hy
    go_wp2_with (at_builtin;go_loud (refine cP rfl _ _ 30 rfl B 191 i0 (.int .u32 0) 4 Tryz.underlying30 hi jz jQ kD rfl HO.out rfl rfl HY.out aa aa sZ ?_);intro v1 w1 ez fX)
    have oV:=Lib.hid ez
    have yK:=Lib.hid (fX w fj.out)
    clear ez fX
    go_wp2_with fail
    go_roundw
    case rel=>
     have hst:=xl Cb.out HDD.out HDV.out HLO.out HHI.out Ho hhi
     exact⟨k+1,ds++[lo+65536*qY],by omega,by go_num,by simp[Cb.out],hst.1,hst.2,oV.out,yK.out⟩
    case measure=>simp[intOf];omega
   ·have HHI:Hid ((halves h).getD (2*k+1) 0=0):=by show _=_;rw[List.getD,List.getElem?_eq_none (by rw[Ix.out];omega)];rfl
    go_wp2_with (at_builtin;go_loud (refine cP rfl _ _ 30 rfl B 191 i0 (.int .u32 0) 4 Tryz.underlying30 hi jz jQ kD rfl HO.out rfl rfl rfl aa aa sZ ?_);intro v1 w1 ez fX)
    have oV:=Lib.hid ez
    have yK:=Lib.hid (fX w fj.out)
    clear ez fX
    go_wp2_with fail
    go_roundw
    case rel=>
     have hst:=xl Cb.out HDD.out HDV.out HLO.out HHI.out Ho aa
     rw[Nat.mul_zero,Nat.add_zero] at hst
     exact⟨k+1,ds++[lo],by omega,by go_num,by simp[Cb.out],hst.1,hst.2,oV.out,yK.out⟩
    case measure=>simp[intOf];omega
  ·go_wp2_with fail
   have hval:ag ds=h:=by
    rw[HDV.out]
    show val 65536 _=_
    rw[dQ (by rw[Ix.out];omega)]
    exact aL h
   have hcan:=Az Cb.out HDD.out hval Ix.out hk
   refine bg.out _ _ ⟨_,rfl,?_,fj.out⟩
   rw[hcan,Cb.out];exact HO.out
set_option maxRecDepth 100000 in
theorem CI (va:Value) (n:Nat) (xs:List Nat) (w:World) (hr:Rd w 1 va n (ints .u32 xs)) (hl:bH xs) (hn:n<=1073741824):
  Calls Tryz.prog 206 #[va] w λe w'=>∃ v',e=.returned v'/\w'.ownsRow w.heap.size 191 1 v' (limbs (ag xs)).length (ints .u32 (limbs (ag xs)))/\Below w.heap.size w w':=by
 obtain⟨p,c,rfl,dk,dY,dK⟩:=hr.u32
 have Hr:=Lib.hid hr
 have HL:=Lib.hid hl
 have HX:=Lib.hid dK
 clear hr hl dK
 refine aD λR' bg=> ?_
 go_enter Tryz.func206,Tryz.ntmps206
 go_wp2_with fail
 refine (dT _ n xs _ Hr.out HL.out hn).mono ?_
 rintro e w1 ⟨v1,rfl,aw,hb⟩
 have hlen:=cw HL.out
 rw[HX.out] at hlen
 have HO:=Lib.hid aw
 have HB:=Lib.hid hb
 clear aw hb
 go_wp2_with fail
 refine (mP _ _ (halves (ag xs)) _ (Rd.own HO.out) (bh _) aa).mono ?_
 rintro e w2 ⟨v2,rfl,aw,hb⟩
 rw[aL] at aw
 go_wp2_with fail
 exact bg.out _ _ ⟨_,rfl,Own.mono aw HB.out.size,HB.out.trans (hb.mono HB.out.size)⟩
def JD (w:World) (B M:Nat) (us ts:List Nat) (ov cv iv:Value) (wr:World):Prop:=
 ∃ (k carry:Nat) (os:List Nat),k<=M+1/\(k=M+1->carry=0)/\iv=.int .i64 (k:Int)/\cv=.int .i64 (carry:Int)/\carry<=1/\os.length=k/\eP os/\
   hval os+65536^k*carry=hval (us.take k)+hval (ts.take k)/\wr.ownsRow B 3 1 ov k (ints .i64 os)/\Below B w wr
theorem CJ {k carry x y:Nat} {us ts os:List Nat} (hl:os.length=k) (hh:eP os) (hv:hval os+65536^k*carry=hval (us.take k)+hval (ts.take k)) (hx:us.getD k 0=x) (hy:ts.getD k 0=y):
  eP (os++[(x+y+carry)%65536])/\hval (os++[(x+y+carry)%65536])+65536^(k+1)*((x+y+carry)/65536)=hval (us.take (k+1))+hval (ts.take (k+1)):=by
 refine⟨dc.append hh (dc.cons (Nat.mod_lt _ aa) (dc.nil _)),?_⟩
 rw[iI,hl,Nat.pow_succ]
 show _=val 65536 _+val 65536 _
 rw[bx,bx,hx,hy]
 exact EH 65536 _ _ x y carry _ _ _ hv rfl
theorem fC {us:List Nat} {k:Nat} (h:us.length<=k):us.getD k 0=0:=by rw[List.getD,List.getElem?_eq_none h];rfl
theorem iJ {us:List Nat} (h:eP us) (k:Nat):us.getD k 0<65536:=by
 rw[List.getD]
 cases hk:us[k]? with
 | none=>simp
 | some x=>exact h.at hk
set_option maxRecDepth 100000 in
theorem FL (va vb:Value) (n m:Nat) (xs ys:List Nat) (w:World) (hr:Rd w 1 va n (ints .u32 xs)) (hs:Rd w 1 vb m (ints .u32 ys)) (hx:bH xs) (hy:bH ys) (hn:n<=1073741824) (hm:m<=1073741824):
  Calls Tryz.prog 187 #[va,vb] w λe w'=>∃ v',e=.returned v'/\w'.ownsRow w.heap.size 191 1 v' (limbs (ag xs+ag ys)).length (ints .u32 (limbs (ag xs+ag ys)))/\Below w.heap.size w w':=by
 obtain⟨p,c,rfl,dk,dY,dK⟩:=hr.u32
 obtain⟨q,d,rfl,EO,BC,iD⟩:=hs.u32
 obtain⟨i0,hi,jz,jQ,kD⟩:=info_parts tq
 obtain⟨B,hB⟩:∃ B,B=w.heap.size:=⟨_,rfl⟩
 have HB:=Lib.hid hB
 have Hr:=Lib.hid hr
 have Hs:=Lib.hid hs
 have HL:=Lib.hid hx
 have HM:=Lib.hid hy
 have oU:=cw hx
 have lU:=cw hy
 rw[dK] at oU
 rw[iD] at lU
 obtain⟨a,ha⟩:∃ a,a=ag xs:=⟨_,rfl⟩
 obtain⟨b,hb⟩:∃ b,b=ag ys:=⟨_,rfl⟩
 rw[<-ha] at oU ⊢
 rw[<-hb] at lU ⊢
 rw[<-hB]
 have HA:=Lib.hid ha
 have HBb:=Lib.hid hb
 clear hr hs hx hy dK iD ha hb hB
 refine aD λR' bg=> ?_
 go_enter Tryz.func187,Tryz.ntmps187
 go_wp2_with fail
 refine (dT _ n xs _ Hr.out HL.out hn).mono ?_
 rintro e w1 ⟨v1,rfl,aw,aC⟩
 rw[<-HA.out,<-HB.out] at aw
 rw[<-HB.out] at aC
 have oV:=Lib.hid aw
 have yK:=Lib.hid aC
 clear aw aC
 go_wp2_with fail
 refine (dT _ m ys _ (Hs.out.gn HB.out yK.out) HM.out hm).mono ?_
 rintro e w2 ⟨v2,rfl,aw,aQ⟩
 rw[<-HBb.out] at aw
 have hB1s:B<=w1.heap.size:=by have:=yK.out.size;have:=HB.out;omega
 have HO1b:=Lib.hid (Own.below oV.out aQ)
 have lQ:=Lib.hid (Own.mono aw hB1s)
 have rS:=Lib.hid (yK.out.trans (aQ.mono hB1s))
 have hB2s:B<=w2.heap.size:=by have:=aQ.size;omega
 clear aw aQ oV yK
 obtain⟨p1,c1,rfl,h11,h12,_⟩:=(Rd.own HO1b.out).i64
 obtain⟨p2,c2,rfl,h21,h22,_⟩:=(Rd.own lQ.out).i64
 generalize Hy:(halves a).length=la at*
 generalize BH:(halves b).length=lb at*
 have Hx:=Lib.hid Hy
 have Hz:=Lib.hid BH
 clear Hy BH
 obtain⟨M,hMa,hMb,hMu,hM⟩:∃ M,la<=M/\lb<=M/\M<=2147483648/\(la<lb/\M=lb\/lb<=la/\M=la):=⟨max la lb,by omega,by omega,by omega,by omega⟩
 obtain⟨B2,JE⟩:∃ B2,B2=w2.heap.size:=⟨_,rfl⟩
 have CK:=Lib.hid JE
 have JF:B<=B2:=by omega
 clear JE
 rcases hM with ⟨sT,rfl⟩|⟨sT,rfl⟩
 all_goals
  go_wp2_with fail
  go_loopw [7,8,9] (λov cv iv wr=>JD w2 B2 M (halves a) (halves b) ov cv iv wr) (λ_ cv iv _=>2*(M-(intOf iv).toNat)+(intOf cv).toNat)
  case atStart=>exact⟨0,0,[],by omega,λ_=>rfl,rfl,rfl,by omega,rfl,dc.nil _,rfl,World.ownsRow_nil _ _ _ _,Below.refl _ _⟩
  case round=>
   obtain⟨k,carry,os,hk,jF,rfl,rfl,hc,hol,hoh,hov,aw,jS⟩:=hrel
   have HO:=Lib.hid aw
   have HOL:=Lib.hid hol
   have HOH:=Lib.hid hoh
   have HOV:=Lib.hid hov
   have HK1:=Lib.hid jF
   have fj:=Lib.hid jS
   have sZ:B2<=wr.heap.size:=by have:=jS.size;have:=CK.out;omega
   have HRA:=Lib.hid ((Rd.own HO1b.out).gn CK.out jS)
   have HRB:=Lib.hid ((Rd.own lQ.out).gn CK.out jS)
   have hgx:=iJ (bh a) k
   have hgy:=iJ (bh b) k
   have hxy0:M<=k->(halves a).getD k 0=0/\(halves b).getD k 0=0:=λh=>⟨fC (by rw[Hx.out];omega),fC (by rw[Hz.out];omega)⟩
   clear aw hol hoh hov jF jS
   generalize hx:(halves a).getD k 0=x at*
   generalize hy:(halves b).getD k 0=y at*
   have HX:=Lib.hid hx
   have HY:=Lib.hid hy
   have HXY0:=Lib.hid hxy0
   clear hx hy hxy0
   have hkk:k=M+1->carry=0:=HK1.out
   by_cases hkM:k<M\/0<carry
   ·clear hkk
    have hguard:decide (k<M)=true\/decide (k<M)=false/\0<carry:=by
     by_cases h:k<M
     ·left;simpa using h
     ·right;exact⟨by simpa using h,by omega⟩
    have HSUM:Hid (((x:Int)+(y:Int)+(carry:Int)).tmod 65536=(((x+y+carry)%65536:Nat):Int)):=by show _=_;rw[Int.tmod_eq_emod_of_nonneg aa];omega
    rcases hguard with hg|⟨hg,hg2⟩
    all_goals
     go_wp2_with fail
     refine (fW _ _ k (halves a) _ HRA.out).mono ?_
     rintro e w3 ⟨rfl,rfl⟩
     rw[HX.out]
     go_wp2_with fail
     refine (fW _ _ k (halves b) _ HRB.out).mono ?_
     rintro e w3 ⟨rfl,rfl⟩
     rw[HY.out]
     go_wp2_with (at_builtin;refine cP rfl _ _ 272 rfl B2 3 i0 (.int .i64 0) 8 Tryz.underlying272 hi jz jQ kD rfl HO.out rfl rfl (d:=(x+y+carry)%65536) aa aa aa sZ ?_;intro v1 w3 ez fX)
     have Fh:=Lib.hid ez
     have IH:=Lib.hid (fX w2 fj.out)
     clear ez fX
     go_wp2_with fail
     go_roundw
     case rel=>
      have hst:=CJ HOL.out HOH.out HOV.out HX.out HY.out
      exact⟨k+1,(x+y+carry)/65536,os++[(x+y+carry)%65536],by have:=HK1.out;have:=HXY0.out;omega,by have:=HK1.out;have:=HXY0.out;omega,by go_num,by go_num,by omega,by simp[HOL.out],hst.1,hst.2,Fh.out,IH.out⟩
     case measure=>simp[intOf];have:=HXY0.out;omega
   ·have hc0:carry=0:=by omega
    have hkM':M<=k:=by omega
    have HC0:=Lib.hid hc0
    have hg1:decide (k<M)=false:=by simp;omega
    have hg2:¬ (0<(carry:Int)):=by omega
    have hks:k<=M+1:=by omega
    clear hkk
    clear hc0
    go_wp2_with fail
    refine (mP _ _ os _ (Rd.own HO.out) HOH.out aa).mono ?_
    rintro e w3 ⟨v3,rfl,aw,bM⟩
    have hval:hval os=a+b:=by
     have:=HOV.out
     rw[HC0.out,Nat.mul_zero,Nat.add_zero] at this
     rw[this]
     show val 65536 _+val 65536 _=_
     rw[dQ (by rw[Hx.out];omega),dQ (by rw[Hz.out];omega)]
     show hval _+hval _=_
     rw[aL,aL]
    rw[hval] at aw
    go_wp2_with fail
    exact bg.out _ _ ⟨_,rfl,Own.mono aw aa,(rS.out.trans (fj.out.mono JF)).trans (bM.mono aa)⟩
def CmpInv (w:World) (us ts:List Nat) (M:Nat) (iv:Value) (wr:World):Prop:=
 ∃ k:Nat,k<=M/\iv=.int .i64 ((k:Int)-1)/\hval us+hval (ts.take k)=hval ts+hval (us.take k)/\w=wr
theorem gS (us:List Nat):hval (us.take 0)=0:=by simp[hval,val]
theorem AA {us ts:List Nat} {k x:Nat} (hx:us.getD k 0=x) (hy:ts.getD k 0=x) (h:hval us+hval (ts.take (k+1))=hval ts+hval (us.take (k+1))):hval us+hval (ts.take k)=hval ts+hval (us.take k):=by
 have h1:hval (ts.take (k+1))=hval (ts.take k)+65536^k*x:=by rw[<-hy];exact bx 65536 ts k
 have h2:hval (us.take (k+1))=hval (us.take k)+65536^k*x:=by rw[<-hx];exact bx 65536 us k
 omega
theorem sf {us ts:List Nat} {k x y:Nat} (hu:eP us) (hx:us.getD k 0=x) (hy:ts.getD k 0=y) (BD:x<y) (h:hval us+hval (ts.take (k+1))=hval ts+hval (us.take (k+1))):hval us<hval ts:=by
 have h1:hval (ts.take (k+1))=hval (ts.take k)+65536^k*y:=by rw[<-hy];exact bx 65536 ts k
 have h2:hval (us.take (k+1))=hval (us.take k)+65536^k*x:=by rw[<-hx];exact bx 65536 us k
 have h3:hval (us.take k)<65536^k:=by
  have h4:=pZ (dc.take hu k)
  have h5:=Nat.pow_le_pow_right (show 0<65536 by omega) (show (us.take k).length<=k by rw[List.length_take];omega)
  omega
 have h4:65536^k*x+65536^k<=65536^k*y:=by
  have:=Nat.mul_le_mul_left (65536^k) (show x+1<=y from BD)
  rwa [Nat.mul_add,Nat.mul_one] at this
 omega
set_option maxRecDepth 100000 in
theorem rB (va vb:Value) (n m:Nat) (xs ys:List Nat) (w:World) (hr:Rd w 1 va n (ints .u32 xs)) (hs:Rd w 1 vb m (ints .u32 ys)) (hx:bH xs) (hy:bH ys) (hn:n<=1073741824) (hm:m<=1073741824):
  Calls Tryz.prog 219 #[va,vb] w λe w'=>e=.returned (.int .i64 (eN (ag xs) (ag ys)))/\Below w.heap.size w w':=by
 obtain⟨p,c,rfl,dk,dY,dK⟩:=hr.u32
 obtain⟨q,d,rfl,EO,BC,iD⟩:=hs.u32
 have Hr:=Lib.hid hr
 have Hs:=Lib.hid hs
 have HL:=Lib.hid hx
 have HM:=Lib.hid hy
 have oU:=cw hx
 have lU:=cw hy
 rw[dK] at oU
 rw[iD] at lU
 obtain⟨a,ha⟩:∃ a,a=ag xs:=⟨_,rfl⟩
 obtain⟨b,hb⟩:∃ b,b=ag ys:=⟨_,rfl⟩
 rw[<-ha] at oU ⊢
 rw[<-hb] at lU ⊢
 have HA:=Lib.hid ha
 have HBb:=Lib.hid hb
 clear hr hs hx hy dK iD ha hb
 refine aD λR' bg=> ?_
 go_enter Tryz.func219,Tryz.ntmps219
 go_wp2_with fail
 refine (dT _ n xs _ Hr.out HL.out hn).mono ?_
 rintro e w1 ⟨v1,rfl,aw,aC⟩
 rw[<-HA.out] at aw
 have oV:=Lib.hid (Rd.own aw)
 have yK:=Lib.hid aC
 clear aw aC
 go_wp2_with fail
 refine (dT _ m ys _ (Hs.out.below yK.out) HM.out hm).mono ?_
 rintro e w2 ⟨v2,rfl,aw,aQ⟩
 rw[<-HBb.out] at aw
 have HRA:=Lib.hid (oV.out.below aQ)
 have HRB:=Lib.hid (Rd.own aw)
 have rS:=Lib.hid (yK.out.trans (aQ.mono yK.out.size))
 clear aw aQ oV yK
 obtain⟨p1,c1,rfl,h11,h12,_⟩:=HRA.out.i64
 obtain⟨p2,c2,rfl,h21,h22,_⟩:=HRB.out.i64
 generalize Hy:(halves a).length=la at*
 generalize BH:(halves b).length=lb at*
 have Hx:=Lib.hid Hy
 have Hz:=Lib.hid BH
 clear Hy BH
 obtain⟨M,hMa,hMb,hMu,hM⟩:∃ M,la<=M/\lb<=M/\M<=2147483648/\(la<lb/\M=lb\/lb<=la/\M=la):=⟨max la lb,by omega,by omega,by omega,by omega⟩
 rcases hM with ⟨sT,rfl⟩|⟨sT,rfl⟩
 all_goals
  go_wp2_with fail
  go_loopw [7] (λiv wr=>CmpInv w2 (halves a) (halves b) M iv wr) (λiv _=>(intOf iv+1).toNat)
  case atStart=>exact⟨M,Nat.le_refl _,rfl,by
   show val 65536 _+val 65536 _=val 65536 _+val 65536 _
   rw[dQ (by first|(rw[Hx.out];omega)|(rw[Hz.out];omega)),dQ (by first|(rw[Hx.out];omega)|(rw[Hz.out];omega))];omega,rfl⟩
  case round=>
   obtain⟨k,hk,rfl,hv,rfl⟩:=hrel
   have HV:=Lib.hid hv
   clear hv
   by_cases h0:k=0
   ·subst h0
    go_wp2_with fail
    have e:a=b:=by
     have:=HV.out
     rw[gS,gS,aL,aL] at this
     omega
    exact bg.out _ _ ⟨jO (by rw[e,pa]),rS.out⟩
   ·obtain⟨j,rfl⟩:∃ j,k=j+1:=⟨k-1,by omega⟩
    have hjj:((j+1:Nat):Int)-1=(j:Int):=by omega
    rw[hjj]
    clear h0 hjj
    generalize hx:(halves a).getD j 0=x
    generalize hy:(halves b).getD j 0=y
    have HX:=Lib.hid hx
    have HY:=Lib.hid hy
    clear hx hy
    go_wp2_with fail
    refine (fW _ _ j (halves a) _ HRA.out).mono ?_
    rintro e w3 ⟨rfl,rfl⟩
    rw[HX.out]
    go_wp2_with fail
    refine (fW _ _ j (halves b) _ HRB.out).mono ?_
    rintro e w3 ⟨rfl,rfl⟩
    rw[HY.out]
    rcases Nat.lt_trichotomy x y with hlt|heq|hgt
    ·go_wp2_with fail
     have:=sf (bh a) HX.out HY.out hlt HV.out
     rw[aL,aL] at this
     exact bg.out _ _ ⟨jO (by rw[jk this]),rS.out⟩
    ·subst heq
     go_wp2_with fail
     refine (fW _ _ j (halves a) _ HRA.out).mono ?_
     rintro e w3 ⟨rfl,rfl⟩
     rw[HX.out]
     go_wp2_with fail
     refine (fW _ _ j (halves b) _ HRB.out).mono ?_
     rintro e w3 ⟨rfl,rfl⟩
     rw[HY.out]
     go_wp2_with fail
     go_roundw
     case rel=>exact⟨j,by omega,rfl,AA HX.out HY.out HV.out,rfl⟩
     case measure=>simp[intOf]
    ·go_wp2_with fail
     refine (fW _ _ j (halves a) _ HRA.out).mono ?_
     rintro e w3 ⟨rfl,rfl⟩
     rw[HX.out]
     go_wp2_with fail
     refine (fW _ _ j (halves b) _ HRB.out).mono ?_
     rintro e w3 ⟨rfl,rfl⟩
     rw[HY.out]
     go_wp2_with fail
     have:=sf (bh b) HY.out HX.out hgt HV.out.symm
     rw[aL,aL] at this
     exact bg.out _ _ ⟨jO (by rw[jl this]),rS.out⟩
theorem si {qs:List Nat} {k x:Nat}:(List.replicate (k+1) 0++qs).set k x=List.replicate k 0++x::qs:=by
 rw[List.replicate_succ',List.append_assoc,List.set_append_right _ _ cU]
 simp
def JG (w:World) (B M:Nat) (us ts:List Nat) (ov bv iv:Value) (wr:World):Prop:=
 ∃ (k r:Nat) (ds:List Nat),k<=M/\ds.length=k/\iv=.int .i64 (k:Int)/\bv=.int .i64 (r:Int)/\r<=1/\eP ds/\
   hval ds+hval (ts.take k)=hval (us.take k)+65536^k*r/\wr.ownsRow B 3 1 ov k (ints .i64 ds)/\Below B w wr
theorem uK {k r x y d r':Nat} {us ts ds:List Nat} (hl:ds.length=k) (hh:eP ds) (hv:hval ds+hval (ts.take k)=hval (us.take k)+65536^k*r) (hx:us.getD k 0=x) (hy:ts.getD k 0=y)
  (hd:d<65536) (he:x+65536*r'=d+y+r):
  eP (ds++[d])/\hval (ds++[d])+hval (ts.take (k+1))=hval (us.take (k+1))+65536^(k+1)*r':=by
 refine⟨dc.append hh (dc.cons hd (dc.nil _)),?_⟩
 have h1:hval (ts.take (k+1))=hval (ts.take k)+65536^k*y:=by rw[<-hy];exact bx 65536 ts k
 have h2:hval (us.take (k+1))=hval (us.take k)+65536^k*x:=by rw[<-hx];exact bx 65536 us k
 rw[iI,hl,h1,h2,Nat.pow_succ]
 exact EI 65536 _ x y r d r' _ _ _ hv he
set_option maxRecDepth 100000 in
theorem xm (va vb:Value) (n m:Nat) (xs ys:List Nat) (w:World) (hr:Rd w 1 va n (ints .u32 xs)) (hs:Rd w 1 vb m (ints .u32 ys)) (hx:bH xs) (hy:bH ys) (hn:n<=1073741824) (hm:m<=1073741824):
  Calls Tryz.prog 188 #[va,vb] w λe w'=>((ag xs<ag ys/\e=.returned (.tuple #[.slice none 0 0,.int .i64 2]))\/
   (ag ys<=ag xs/\∃ v',e=.returned (.tuple #[v',.int .i64 0])/\w'.ownsRow w.heap.size 191 1 v' (limbs (ag xs-ag ys)).length (ints .u32 (limbs (ag xs-ag ys)))))/\Below w.heap.size w w':=by
 obtain⟨p,c,rfl,dk,dY,dK⟩:=hr.u32
 obtain⟨q,d,rfl,EO,BC,iD⟩:=hs.u32
 obtain⟨i0,hi,jz,jQ,kD⟩:=info_parts tq
 have Hr:=Lib.hid hr
 have Hs:=Lib.hid hs
 have HL:=Lib.hid hx
 have HM:=Lib.hid hy
 have oU:=cw hx
 have lU:=cw hy
 rw[dK] at oU
 rw[iD] at lU
 obtain⟨a,ha⟩:∃ a,a=ag xs:=⟨_,rfl⟩
 obtain⟨b,hb⟩:∃ b,b=ag ys:=⟨_,rfl⟩
 rw[<-ha] at oU ⊢
 rw[<-hb] at lU ⊢
 have HA:=Lib.hid ha
 have HBb:=Lib.hid hb
 clear hr hs hx hy dK iD ha hb
 refine aD λR' bg=> ?_
 go_enter Tryz.func188,Tryz.ntmps188
 go_wp2_with fail
 refine (rB _ _ n m xs ys _ Hr.out Hs.out HL.out HM.out hn hm).mono ?_
 rintro e w0 ⟨rfl,jR⟩
 rw[<-HA.out,<-HBb.out]
 have HB0:=Lib.hid jR
 have hB0s:=jR.size
 clear jR
 by_cases sT:a<b
 ·have hc:eN a b<0:=gU.2 sT
  generalize eN a b=cv at hc ⊢
  go_wp2_with fail
  exact bg.out _ _ ⟨.inl ⟨sT,rfl⟩,HB0.out⟩
 ·have hc:0<=eN a b:=by have:=mt (@gU a b).1 sT;omega
  generalize eN a b=cv at hc ⊢
  have hlen:(halves b).length<=(halves a).length:=cM aa aa
  have HAB:=Lib.hid sT
  clear sT
  go_wp2_with fail
  refine (dT _ n xs _ (Hr.out.below HB0.out) HL.out hn).mono ?_
  rintro e w1 ⟨v1,rfl,aw,aC⟩
  rw[<-HA.out] at aw
  have oV:=Lib.hid (Rd.own aw)
  have yK:=Lib.hid (HB0.out.trans (aC.mono hB0s))
  have hB1s:=aC.size
  clear aw aC
  go_wp2_with fail
  refine (dT _ m ys _ (Hs.out.below yK.out) HM.out hm).mono ?_
  rintro e w2 ⟨v2,rfl,aw,aQ⟩
  rw[<-HBb.out] at aw
  have HRA0:=Lib.hid (oV.out.below aQ)
  have HRB0:=Lib.hid (Rd.own aw)
  have rS:=Lib.hid (yK.out.trans (aQ.mono yK.out.size))
  have hB2s:=aQ.size
  clear aw aQ oV yK
  obtain⟨p1,c1,rfl,h11,h12,_⟩:=HRA0.out.i64
  obtain⟨p2,c2,rfl,h21,h22,_⟩:=HRB0.out.i64
  generalize Hy:(halves a).length=la at*
  generalize BH:(halves b).length=lb at*
  have Hx:=Lib.hid Hy
  have Hz:=Lib.hid BH
  clear Hy BH
  obtain⟨B2,JE⟩:∃ B2,B2=w2.heap.size:=⟨_,rfl⟩
  have CK:=Lib.hid JE
  have JF:w.heap.size<=B2:=by omega
  clear JE
  go_wp2_with fail
  go_loopw [8,9,10] (λov bv iv wr=>JG w2 B2 la (halves a) (halves b) ov bv iv wr) (λ_ _ iv _=>la-(intOf iv).toNat)
  case atStart=>exact⟨0,0,[],Nat.zero_le _,rfl,rfl,rfl,by omega,dc.nil _,by rw[gS,gS];simp[hval,val],World.ownsRow_nil _ _ _ _,Below.refl _ _⟩
  case round=>
   obtain⟨k,r,ds,hk,sL,rfl,rfl,jK,hdh,hdv,aw,jS⟩:=hrel
   have HO:=Lib.hid aw
   have Cb:=Lib.hid sL
   have HDH:=Lib.hid hdh
   have HDV:=Lib.hid hdv
   have fj:=Lib.hid jS
   have sZ:B2<=wr.heap.size:=by have:=jS.size;have:=CK.out;omega
   have HRB:=Lib.hid (HRB0.out.gn CK.out jS)
   clear aw sL hdh hdv
   by_cases DI:k<la
   ·obtain⟨b1,o1,x,rfl,_,ea,lO⟩:=(HRA0.out.gn CK.out jS).cellAt DI
    have jf:=(bh a).at ea
    have HX:Hid ((halves a).getD k 0=x):=by show _=_;rw[List.getD,ea];rfl
    have wB:=iJ (bh b) k
    clear ea jS
    generalize hy:(halves b).getD k 0=y at*
    have HY:=Lib.hid hy
    clear hy
    have Hv:(0:Int)<=(k:Int):=by omega
    have jF:(k:Int)<(la:Int):=by omega
    have vG:IntKind.i64.wrap ((x:Int)-(y:Int))=(x:Int)-(y:Int):=IntWalk.i64_in _ aa
    have hw2:IntKind.i64.wrap ((x:Int)-(y:Int)-(r:Int))=(x:Int)-(y:Int)-(r:Int):=IntWalk.i64_in _ aa
    have zp:∀ j:Nat,Calls Tryz.prog 217 #[.slice p2 lb c2,.int .i64 (k:Int)] (wr.drewN j) λe w'=>e=.returned (.int .i64 (y:Int))/\wr.drewN j=w':=λj=>by
     have:=fW _ _ k (halves b) _ (Rd.drewN HRB.out j)
     rwa [HY.out] at this
    have HAT:=Lib.hid zp
    clear zp
    go_wp2_with fail
    go_quiet ((go_at_call 217;exact tM (HAT.out _) ⟨_,rfl⟩))
    clear vG hw2 Hv jF lO
    by_cases yV:(x:Int)-(y:Int)-(r:Int)<0
    ·go_wp2_with (at_builtin;refine cP (w:=wr.drewN nq) rfl _ _ 272 rfl B2 3 i0 (.int .i64 0) 8 Tryz.underlying272 hi jz jQ kD rfl (Own.drewN HO.out nq) rfl rfl (d:=x+65536-y-r) aa aa aa sZ ?_;intro v1 w3 ez fX)
     have Fh:=Lib.hid ez
     have IH:=Lib.hid (fX w2 (Below.drewN fj.out nq))
     clear ez fX
     go_wp2_with fail
     go_roundw
     case rel=>
      have hst:=uK (d:=x+65536-y-r) (r':=1) Cb.out HDH.out HDV.out HX.out HY.out aa aa
      exact⟨k+1,1,ds++[x+65536-y-r],by omega,by simp[Cb.out],by go_num,rfl,by omega,hst.1,hst.2,Fh.out,IH.out⟩
     case measure=>simp[intOf];omega
    ·go_wp2_with (at_builtin;refine cP (w:=wr.drewN nq) rfl _ _ 272 rfl B2 3 i0 (.int .i64 0) 8 Tryz.underlying272 hi jz jQ kD rfl (Own.drewN HO.out nq) rfl rfl (d:=x-y-r) aa aa aa sZ ?_;intro v1 w3 ez fX)
     have Fh:=Lib.hid ez
     have IH:=Lib.hid (fX w2 (Below.drewN fj.out nq))
     clear ez fX
     go_wp2_with fail
     go_roundw
     case rel=>
      have hst:=uK (d:=x-y-r) (r':=0) Cb.out HDH.out HDV.out HX.out HY.out aa aa
      exact⟨k+1,0,ds++[x-y-r],by omega,by simp[Cb.out],by go_num,rfl,by omega,hst.1,hst.2,Fh.out,IH.out⟩
     case measure=>simp[intOf];omega
   ·obtain rfl:k=la:=by omega
    clear jS
    go_wp2_with fail
    refine (mP _ k ds _ (Rd.own HO.out) HDH.out aa).mono ?_
    rintro e w4 ⟨v4,rfl,aw,fb⟩
    have hval:hval ds=a-b:=by
     have h1:=HDV.out
     have e1:hval ((halves a).take k)=a:=by
      show val 65536 _=_
      rw[dQ (Nat.le_of_eq Hx.out)];exact aL a
     have e2:hval ((halves b).take k)=b:=by
      show val 65536 _=_
      rw[dQ (by rw[Hz.out];exact hlen)];exact aL b
     rw[e1,e2] at h1
     have h3:=pZ HDH.out
     rw[Cb.out] at h3
     have hba:=HAB.out
     have:r=0:=by
      rcases Nat.eq_zero_or_pos r with h|h
      ·exact h
      ·have:r=1:=by omega
       subst this
       omega
     subst this
     omega
    rw[hval] at aw
    have HOWN:=Lib.hid aw
    clear aw
    go_wp2_with fail
    refine bg.out _ _ ⟨.inr ⟨by have:=HAB.out;omega,v4,rfl,?_⟩,(rS.out.trans (fj.out.mono JF)).trans (fb.mono aa)⟩
    exact Own.mono HOWN.out aa
theorem oH (neg:Bool) (xs:List Nat) (v:Value) (w:World) (h:eb w v neg xs):
  Calls Tryz.prog 181 #[v] w λe w'=>e=.returned (.bool (cK neg xs))/\ax w w':=by
 obtain⟨p,c,rfl,hr,hl⟩:=h
 obtain⟨p',c',hv,dk,dY,-⟩:=hr.u32
 simp only[Value.slice.injEq,true_and] at hv
 obtain⟨rfl,rfl⟩:=hv
 refine aD λR' bg=> ?_
 by_cases hx:xs=[]
 ·subst hx
  simp only[List.length_nil,oc] at*
  go_enter Tryz.func181,Tryz.ntmps181
  cases neg
  ·go_wp2
   exact bg.out _ _ ⟨rfl,(ax.refl w).alloc _⟩
  ·go_wp2
   exact bg.out _ _ ⟨rfl,(ax.refl w).alloc _⟩
 ·obtain⟨m,hm⟩:∃ m,xs.length=m+1:=⟨xs.length-1,by have:=List.length_pos_iff.2 hx;omega⟩
  generalize hn:xs.length=n at*
  obtain⟨b,off,x,rfl,hb,hxm,hc⟩:=hr.cellAt (k:=m) aa
  have h1:cK neg xs=decide (x≠0):=rT (by rw[hn,hm];exact hxm)
  rw[h1] at bg
  have hz:((n:Int) == 0)=false:=by rw[beq_eq_false_iff_ne];omega
  have hp:(0:Int)<(n:Int):=by omega
  have hw:IntKind.i64.wrap ((n:Int)-1)=(m:Int):=by rw[IntWalk.i64_in _ aa];omega
  have hlt:(m:Int)<(n:Int):=by omega
  have HN:=Lib.hid hn
  have hpn:0<n:=by omega
  clear hx hm hn h1 hxm hr hl
  go_enter Tryz.func181,Tryz.ntmps181
  by_cases lL:x=0
  ·subst lL
   cases neg
   ·go_wp2
    exact bg.out _ _ ⟨rfl,(ax.refl w).alloc _⟩
   ·go_wp2
    exact bg.out _ _ ⟨rfl,(ax.refl w).alloc _⟩
  ·have vW:((x:Int) != 0)=true:=by rw[bne_iff_ne];omega
   rw[decide_eq_true lL] at bg
   clear lL
   cases neg
   ·go_wp2
    exact bg.out _ _ ⟨rfl,(ax.refl w).alloc _⟩
   ·go_wp2
    exact bg.out _ _ ⟨rfl,(ax.refl w).alloc _⟩
theorem oI (v:Value) (X:Int) (k:Nat) (w0 w:World) (h:bk w0 v X k) (jR:ax w0 w):
  Calls Tryz.prog 186 #[v] w λe w'=>∃ u,e=.returned u/\bf w0 u X/\ax w w':=by
 obtain⟨neg,xs,hn,rfl,hk⟩:=h
 refine aD λR' bg=> ?_
 have HN:=Lib.hid hn
 obtain⟨p,c,rfl,hr,hl⟩:=hn
 clear hr
 go_enter Tryz.func186,Tryz.ntmps186
 go_wp2_with fail
 refine (oH neg xs _ _ ((HN.out.bq jR).bq (((ax.refl w).alloc _).alloc _))).mono ?_
 rintro e w1 ⟨rfl,aC⟩
 obtain⟨b1,b2,jL⟩:=jB w 53 53 #[.bool neg,.slice p xs.length c] #[.bool false,.slice none 0 0]
 obtain⟨c1,c2,_,_⟩:=(b1.bq aC).two
 obtain⟨c3,c4,f3,f4⟩:=(b2.bq aC).two
 have xJ:ax w w1:=jL.aA aC
 cases hnr:cK neg xs
 ·have B2:=(b2.bq aC).bj (.bool false) (.slice none 0 0)
  have rS:=xJ.bj (b:=w.heap.size+1) aa (.bool false) (.slice none 0 0)
  go_wp2
  generalize (w1.setCell ⟨w.heap.size+1,0,none⟩ (.bool false)).setCell ⟨w.heap.size+1,1,none⟩ (.slice none 0 0)=w2 at*
  obtain⟨d1,d2,_,_⟩:=B2.two
  refine bodyPost_ret (v:=.agg #[.bool false,.slice none 0 0]) (by simp[results,Tryz.results186,go_sem,d1,d2]) rfl (bg.out _ _ ⟨_,rfl,?_,rS⟩)
  rw[numOf,if_neg (by simp[hnr])]
  exact bf.zero _
 ·have B2:=(b2.bq aC).bj (.bool neg) (.slice p xs.length c)
  have rS:=xJ.bj (b:=w.heap.size+1) aa (.bool neg) (.slice p xs.length c)
  go_wp2
  generalize (w1.setCell ⟨w.heap.size+1,0,none⟩ (.bool neg)).setCell ⟨w.heap.size+1,1,none⟩ (.slice p xs.length c)=w2 at*
  obtain⟨d1,d2,_,_⟩:=B2.two
  refine bodyPost_ret (v:=.agg #[.bool neg,.slice p xs.length c]) (by simp[results,Tryz.results186,go_sem,d1,d2]) rfl (bg.out _ _ ⟨_,rfl,?_,rS⟩)
  rw[numOf,if_pos hnr]
  obtain⟨h1,h2⟩:=canon hl hnr
  have:=HN.out
  show eb _ _ _ _
  rw[<-h1,<-h2]
  exact this
theorem fY (neg:Bool) (v:Value) (n:Nat) (xs:List Nat) (w:World) (hr:Rd w 1 v n (ints .u32 xs)) (hl:bH xs) (hn:n<=1073741824):
  Calls Tryz.prog 171 #[.bool neg,v] w λe w'=>∃ r,e=.returned r/\aj w' w.heap.size r (if neg=true then-(ag xs:Int) else ag xs)/\ax w w':=by
 obtain⟨p,c,rfl,_,_,_⟩:=hr.u32
 have HR:=Lib.hid hr
 have nw:=aW.new w 53 #[.bool false,.slice none 0 0]
 have jL:=(ax.refl w).alloc (.cells #[.bool false,.slice none 0 0] 53)
 clear hr
 refine aD λR' bg=> ?_
 go_enter Tryz.func171,Tryz.ntmps171
 go_wp2_with fail
 refine (CI _ n xs _ (HR.out.below jL) hl hn).mono ?_
 rintro e w1 ⟨v1,rfl,ry,aC⟩
 replace aC:ax _ w1:=aC
 obtain⟨p1,k1,rfl,_,_,_⟩:=Own.form ry
 generalize hL:(limbs (ag xs)).length=L at*
 have HL:=Lib.hid hL
 have FC:=nw.bq aC
 have FB:=jL.aA aC
 obtain⟨c1,c2,f1,f2⟩:=FC.two
 have Ed:=Own.mono ry jL.size
 clear hL ry
 cases neg
 ·have HO:=Lib.hid (Own.bj Ed FC ff (.bool false) (.slice p1 L k1))
  clear Ed
  have yh:=FC.bj (.bool (false)) (.slice p1 (L) k1)
  have yi:=ax.bj FB (b:=w.heap.size) aa (.bool (false)) (.slice p1 (L) k1)
  go_wp2
  generalize (w1.setCell ⟨w.heap.size,0,none⟩ (.bool (false))).setCell ⟨w.heap.size,1,none⟩ (.slice p1 (L) k1)=wz at*
  obtain⟨yj,yk,_,_⟩:=yh.two
  refine bodyPost_ret (v:=.agg #[.bool (false),.slice p1 (L) k1]) (by simp[results,Tryz.results171,go_sem,yj,yk]) rfl (bg.out _ _ ?_)
  exact⟨_,rfl,aj.of (neg:=false) (by rw[HL.out];exact HO.out) HL.out.symm _ cU,yi⟩
 ·have HO:=Lib.hid (Own.bj Ed FC ff (.bool (decide (0<L))) (.slice p1 L k1))
  clear Ed
  have yh:=FC.bj (.bool (decide (0<L))) (.slice p1 (L) k1)
  have yi:=ax.bj FB (b:=w.heap.size) aa (.bool (decide (0<L))) (.slice p1 (L) k1)
  go_wp2
  generalize (w1.setCell ⟨w.heap.size,0,none⟩ (.bool (decide (0<L)))).setCell ⟨w.heap.size,1,none⟩ (.slice p1 (L) k1)=wz at*
  obtain⟨yj,yk,_,_⟩:=yh.two
  refine bodyPost_ret (v:=.agg #[.bool (decide (0<L)),.slice p1 (L) k1]) (by simp[results,Tryz.results171,go_sem,yj,yk]) rfl (bg.out _ _ ?_)
  exact⟨_,rfl,aj.of (neg:=true) (by rw[HL.out];exact HO.out) HL.out.symm _ cU,yi⟩
def uL (X Y:Int):Int:=(X-Y).sign
theorem Ej {X Y:Int} (h:X<Y):uL X Y= -1:=sign_neg aa
theorem Ek {X Y:Int} (h:Y<X):uL X Y=1:=cW aa
theorem xn (a b:Nat):uL (a:Int) b=eN a b:=by
 rcases Nat.lt_trichotomy a b with h|rfl|h
 ·rw[Ej aa,jk h]
 ·rw[pa];simp[uL]
 ·rw[Ek aa,jl h]
theorem CL (a b:Nat):uL (-(a:Int)) (-(b:Int))=eN b a:=by
 rw[<-xn];unfold uL;congr 1;omega
theorem AB (v u:Value) (X Y:Int) (j k:Nat) (w:World) (hv:bk w v X j) (hu:bk w u Y k) (hj:j<=1073741824) (hk:k<=1073741824):
  Calls Tryz.prog 203 #[v,u] w λe w'=>e=.returned (.int .i64 (uL X Y))/\ax w w':=by
 obtain⟨s,p,n,c,rfl⟩:=hv.form
 obtain⟨t,q,m,d,rfl⟩:=hu.form
 refine aD λR' bg=> ?_
 obtain⟨b1,b2,jL⟩:=jB w 53 53 #[.bool s,.slice p n c] #[.bool t,.slice q m d]
 have HJ:=Lib.hid (Nat.le_trans hv.len hj)
 have HK:=Lib.hid (Nat.le_trans hu.len hk)
 have HV:=Lib.hid hv
 have HU:=Lib.hid hu
 clear hv hu hj hk
 go_enter Tryz.func203,Tryz.ntmps203
 go_wp2_with fail
 generalize (w.alloc _).alloc _=W at*
 refine (oI _ X j w _ HV.out fu).mono ?_
 rintro e wa ⟨ua,rfl,hua,hba⟩
 obtain⟨s1,p1,n1,k1,rfl⟩:=hua.eD
 obtain⟨a1,a2,a3,a4⟩:=(b1.bq hba).two
 obtain⟨a5,a6,a7,a8⟩:=(b2.bq hba).two
 have B1:=(b1.bq hba).bj (.bool s1) (.slice p1 n1 k1)
 have B2:=(b2.bq hba).cY (b':=w.heap.size) aa (.bool s1) (.slice p1 n1 k1)
 have hZ:=aJ.IM (aJ.IM (aJ.aA (aJ.refl W w.heap.size (w.heap.size+1)) hba) (j:=0) (.bool s1)) (j:=1) (.slice p1 n1 k1)
 have HB:=ax.bj (jL.aA hba) (b:=w.heap.size) aa (.bool s1) (.slice p1 n1 k1)
 have HPA:=Lib.hid hua.parts
 have HSA:=Lib.hid hua.Fj
 have HUA:=Lib.hid hua
 clear hua
 go_wp2_with fail
 generalize (wa.setCell ⟨w.heap.size,0,none⟩ (.bool s1)).setCell ⟨w.heap.size,1,none⟩ (.slice p1 n1 k1)=wb at*
 clear a1 a2 a3 a4 a5 a6 a7 a8 hba
 refine (oI _ Y k w _ HU.out HB).mono ?_
 rintro e wc ⟨ub,rfl,hub,xJ⟩
 obtain⟨s2,p2,n2,k2,rfl⟩:=hub.eD
 obtain⟨a1,a2,a3,a4⟩:=(B1.bq xJ).two
 obtain⟨a5,a6,a7,a8⟩:=(B2.bq xJ).two
 have D1:=(B1.bq xJ).cY (b':=w.heap.size+1) aa (.bool s2) (.slice p2 n2 k2)
 have D2:=(B2.bq xJ).bj (.bool s2) (.slice p2 n2 k2)
 have hY:=aJ.kM (aJ.kM (aJ.aA hZ xJ) (j:=0) (.bool s2)) (j:=1) (.slice p2 n2 k2)
 have HD:=ax.bj (HB.aA xJ) (b:=w.heap.size+1) aa (.bool s2) (.slice p2 n2 k2)
 have HPB:=Lib.hid hub.parts
 have HSB:=Lib.hid hub.Fj
 have HUB:=Lib.hid hub
 clear hub B1 B2 HB xJ hZ
 have vW:n1<=1073741824:=by rw[HPA.out.1];exact HJ.out
 have vY:n2<=1073741824:=by rw[HPB.out.1];exact HK.out
 have HX1:=Lib.hid vW
 have Ih:=Lib.hid vY
 clear vW vY
 cases s1 <;> cases s2
 ·go_wp2_with fail
  generalize (wc.setCell ⟨w.heap.size+1,0,none⟩ (.bool false)).setCell ⟨w.heap.size+1,1,none⟩ (.slice p2 n2 k2)=wd at*
  refine (rB _ _ n1 n2 _ _ _ (HPA.out.2.1.below HD) (HPB.out.2.1.below HD) (ai _) (ai _) HX1.out Ih.out).mono ?_
  rintro e we ⟨rfl,hbe⟩
  rw[ah,ah,<-xn]
  have e1:(X.natAbs:Int)=X:=by have:=HPA.out.2.2;simpa using this.symm
  have e2:(Y.natAbs:Int)=Y:=by have:=HPB.out.2.2;simpa using this.symm
  rw[e1,e2]
  go_wp2_with fail
  exact bg.out _ _ ⟨rfl,HD.aA hbe⟩
 ·have h1:¬ X<0:=of_decide_eq_false HSA.out.symm
  have h2:Y<0:=of_decide_eq_true HSB.out.symm
  rw[Ek aa] at bg
  go_wp2
  exact bg.out _ _ ⟨rfl,HD⟩
 ·have h1:X<0:=of_decide_eq_true HSA.out.symm
  have h2:¬ Y<0:=of_decide_eq_false HSB.out.symm
  rw[Ej aa] at bg
  go_wp2
  exact bg.out _ _ ⟨rfl,HD⟩
 ·go_wp2_with fail
  generalize (wc.setCell ⟨w.heap.size+1,0,none⟩ (.bool true)).setCell ⟨w.heap.size+1,1,none⟩ (.slice p2 n2 k2)=wd at*
  refine (rB _ _ n2 n1 _ _ _ (HPB.out.2.1.below HD) (HPA.out.2.1.below HD) (ai _) (ai _) Ih.out HX1.out).mono ?_
  rintro e we ⟨rfl,hbe⟩
  rw[ah,ah,<-CL]
  have e1: -(X.natAbs:Int)=X:=by have:=HPA.out.2.2;simpa using this.symm
  have e2: -(Y.natAbs:Int)=Y:=by have:=HPB.out.2.2;simpa using this.symm
  rw[e1,e2]
  go_wp2_with fail
  exact bg.out _ _ ⟨rfl,HD.aA hbe⟩
theorem cd (v:Value) (X:Int) (j:Nat) (w:World) (hv:bk w v X j) (hj:j<=1073741824):
  Calls Tryz.prog 168 #[v] w λe w'=>e=.returned (.int .i64 X.sign)/\ax w w':=by
 obtain⟨s,p,n,c,rfl⟩:=hv.form
 refine aD λR' bg=> ?_
 have jL:=(ax.refl w).alloc (.cells #[.bool s,.slice p n c] 53)
 have HV:=Lib.hid (hv.bq jL)
 have e1:=Lib.hid (show uL X 0=X.sign by simp[uL])
 clear hv
 go_enter Tryz.func168,Tryz.ntmps168
 go_wp2_with fail
 generalize w.alloc _=W at*
 refine (AB _ _ X 0 j 0 _ HV.out ((bf.zero _).to (by simp[bd])) hj aa).mono ?_
 rintro e w1 ⟨rfl,aC⟩
 rw[e1.out]
 go_wp2
 exact bg.out _ _ ⟨rfl,jL.aA aC⟩
theorem Rd.kp {U:TypeId} {T:TypeId->Bool} {w w':World} {v:Value} {n:Nat} {xs:List Nat} (h:Rd w 1 v n (ints .u32 xs)) (k:aY ⟨U,λ_=>True,T⟩ w w'):Rd w' 1 v n (ints .u32 xs):=by
 obtain⟨p,c,rfl,h1,h2,h3,h4⟩:=h
 refine⟨p,c,rfl,h1,h2,h3,λhn=> ?_⟩
 obtain⟨b,off,hp,hc⟩:=h4 hn
 refine⟨b,off,hp,λj u hj=> ?_⟩
 obtain⟨x,hx,rfl⟩:=List.mem_map.1 (List.mem_of_getElem? hj)
 exact k.cell _ _ trivial (hc j _ hj)
theorem Own.kp {T:TypeId->Bool} {w w':World} {B sz n:Nat} {v:Value} {cs:List Value} (h:w.ownsRow B UU sz v n cs) (k:aY ⟨UU,λ_=>True,T⟩ w w'):w'.ownsRow B UU sz v n cs:=by
 refine⟨h.1,?_⟩
 rcases h.2 with h2|⟨g,cap,cur,hv,hb,hg,r⟩
 ·exact .inl h2
 ·exact .inr ⟨g,cap,cur,hv,hb,k.block _ g cur rfl trivial hg,r⟩
theorem eb.kp {U:TypeId} {T:TypeId->Bool} {w w':World} {v:Value} {s:Bool} {xs:List Nat} (h:eb w v s xs) (k:aY ⟨U,λ_=>True,T⟩ w w'):eb w' v s xs:=by
 obtain⟨p,c,hv,hr,hl⟩:=h
 exact⟨p,c,hv,hr.kp k,hl⟩
theorem bk.kp {U:TypeId} {T:TypeId->Bool} {w w':World} {v:Value} {X:Int} {j:Nat} (h:bk w v X j) (k:aY ⟨U,λ_=>True,T⟩ w w'):bk w' v X j:=by
 obtain⟨s,xs,hn,hx,hj⟩:=h
 exact⟨s,xs,hn.kp k,hx,hj⟩
theorem bf.kp {U:TypeId} {T:TypeId->Bool} {w w':World} {v:Value} {X:Int} (h:bf w v X) (k:aY ⟨U,λ_=>True,T⟩ w w'):bf w' v X:=eb.kp h k
theorem aj.kp {T:TypeId->Bool} {w w':World} {B:Nat} {v:Value} {X:Int} (h:aj w B v X) (k:aY ⟨UU,λ_=>True,T⟩ w w'):aj w' B v X:=by
 obtain⟨p,c,hv,ho⟩:=h
 exact⟨p,c,hv,Own.kp ho k⟩
theorem aj.in {w:World} {B:Nat} {v:Value} {X:Int} {j:Nat} (h:aj w B v X) (hs:Sz X j):bk w v X j:=h.rd.to hs
def CM (X Y:Int):Rat:=if 0<Y/\Int.gcd X Y=1 then Rat.divInt X Y else 0
theorem ld {X Y:Int} (h:0<Y/\Int.gcd X Y=1):(CM X Y).num=X/\((CM X Y).den:Int)=Y:=by
 unfold CM
 rw[if_pos h,Rat.num_divInt,Rat.den_divInt,if_neg aa,Int.gcd_comm,h.2]
 have:Y.sign=1:=cW h.1
 rw[this]
 simp
 omega
theorem CN {X Y:Int} (h:¬ (0<Y/\Int.gcd X Y=1)):CM X Y=0:=if_neg h
theorem xo (q:Rat):CM q.num q.den=q:=by
 have h:(0:Int)<q.den/\Int.gcd q.num q.den=1:=⟨by have:=q.den_nz;omega,by have:=q.reduced;simpa [Int.gcd,Nat.Coprime] using this⟩
 obtain⟨h1,h2⟩:=ld h
 exact Rat.ext h1 aa
def bP (w:World) (v:Value) (s:Bool) (xs:List Nat) (t:Bool) (ys:List Nat):Prop:=
 ∃ p c r d,v=.agg #[.bool s,.slice p xs.length c,.bool t,.slice r ys.length d]/\eb w (.agg #[.bool s,.slice p xs.length c]) s xs/\eb w (.agg #[.bool t,.slice r ys.length d]) t ys
def rq (s:Bool) (xs:List Nat) (t:Bool) (ys:List Nat):Rat:=CM (numOf s xs) (numOf t ys)
def ay (w:World) (v:Value) (q:Rat) (k:Nat):Prop:=∃ s xs t ys,bP w v s xs t ys/\q=rq s xs t ys/\xs.length<=k/\ys.length<=k
def aX (w:World) (v:Value) (q:Rat):Prop:=∃ s p n c t r m d,v=.agg #[.bool s,.slice p n c,.bool t,.slice r m d]/\bf w (.agg #[.bool s,.slice p n c]) q.num/\bf w (.agg #[.bool t,.slice r m d]) (q.den:Int)
def aH (w:World) (B:Nat) (v:Value) (q:Rat):Prop:=∃ s p n c t r m d,v=.agg #[.bool s,.slice p n c,.bool t,.slice r m d]/\aj w B (.agg #[.bool s,.slice p n c]) q.num/\aj w B (.agg #[.bool t,.slice r m d]) (q.den:Int)
def bS (q:Rat) (k:Nat):Prop:=Sz q.num k/\Sz (q.den:Int) k
theorem bP.kp {U:TypeId} {T:TypeId->Bool} {w w':World} {v:Value} {s t:Bool} {xs ys:List Nat} (h:bP w v s xs t ys) (k:aY ⟨U,λ_=>True,T⟩ w w'):bP w' v s xs t ys:=by
 obtain⟨p,c,r,d,hv,h1,h2⟩:=h
 exact⟨p,c,r,d,hv,h1.kp k,h2.kp k⟩
theorem ay.kp {U:TypeId} {T:TypeId->Bool} {w w':World} {v:Value} {q:Rat} {j:Nat} (h:ay w v q j) (k:aY ⟨U,λ_=>True,T⟩ w w'):ay w' v q j:=by
 obtain⟨s,xs,t,ys,h1,h2⟩:=h
 exact⟨s,xs,t,ys,h1.kp k,h2⟩
theorem aX.kp {U:TypeId} {T:TypeId->Bool} {w w':World} {v:Value} {q:Rat} (h:aX w v q) (k:aY ⟨U,λ_=>True,T⟩ w w'):aX w' v q:=by
 obtain⟨s,p,n,c,t,r,m,d,hv,h1,h2⟩:=h
 exact⟨s,p,n,c,t,r,m,d,hv,h1.kp k,h2.kp k⟩
theorem aH.kp {T:TypeId->Bool} {w w':World} {B:Nat} {v:Value} {q:Rat} (h:aH w B v q) (k:aY ⟨UU,λ_=>True,T⟩ w w'):aH w' B v q:=by
 obtain⟨s,p,n,c,t,r,m,d,hv,h1,h2⟩:=h
 exact⟨s,p,n,c,t,r,m,d,hv,h1.kp k,h2.kp k⟩
theorem aH.mono {w:World} {B B':Nat} {v:Value} {q:Rat} (h:aH w B v q) (hB:B'<=B):aH w B' v q:=by
 obtain⟨s,p,n,c,t,r,m,d,hv,h1,h2⟩:=h
 exact⟨s,p,n,c,t,r,m,d,hv,h1.mono hB,h2.mono hB⟩
theorem aH.rd {w:World} {B:Nat} {v:Value} {q:Rat} (h:aH w B v q):aX w v q:=by
 obtain⟨s,p,n,c,t,r,m,d,hv,h1,h2⟩:=h
 exact⟨s,p,n,c,t,r,m,d,hv,h1.rd,h2.rd⟩
theorem aH.cast {w:World} {B:Nat} {v:Value} {q q':Rat} (h:aH w B v q) (e:q=q'):aH w B v q':=e▸h
theorem bf.len4 {w:World} {s:Bool} {p:Option Addr} {n c:Nat} {X:Int} (h:bf w (.agg #[.bool s,.slice p n c]) X):s=decide (X<0)/\n=(limbs X.natAbs).length:=⟨h.Fj,h.parts.1⟩
theorem aX.raw {w:World} {v:Value} {q:Rat} (h:aX w v q):bP w v (decide (q.num<0)) (limbs q.num.natAbs) (decide ((q.den:Int)<0)) (limbs (q.den:Int).natAbs):=by
 obtain⟨s,p,n,c,t,r,m,d,rfl,h1,h2⟩:=h
 obtain⟨rfl,rfl⟩:=h1.len4
 obtain⟨rfl,rfl⟩:=h2.len4
 exact⟨p,c,r,d,rfl,h1,h2⟩
theorem aX.to {w:World} {v:Value} {q:Rat} {k:Nat} (h:aX w v q) (hs:bS q k):ay w v q k:=
 ⟨_,_,_,_,h.raw,by unfold rq;rw[eC,eC,xo],hs.1,hs.2⟩
theorem aH.in {w:World} {B:Nat} {v:Value} {q:Rat} {k:Nat} (h:aH w B v q) (hs:bS q k):ay w v q k:=h.rd.to hs
theorem bS.mono {q:Rat} {k l:Nat} (h:bS q k) (DI:k<=l):bS q l:=⟨h.1.mono DI,h.2.mono DI⟩
theorem bS.zero:bS 0 1:=⟨Sz.zero.mono aa,Sz.small ff⟩
theorem bS.one:bS 1 1:=⟨Sz.small ff,Sz.small ff⟩
theorem qa {s:Bool} {xs:List Nat} {k:Nat} (hl:bH xs) (h:xs.length<=k):Sz (numOf s xs) k:=Nat.le_trans (wM hl) h
theorem ay.sz {w:World} {v:Value} {q:Rat} {k:Nat} (h:ay w v q k) (hk:1<=k):bS q k:=by
 obtain⟨s,xs,t,ys,⟨p,c,r,d,_,⟨_,_,_,_,l1⟩,⟨_,_,_,_,l2⟩⟩,rfl,h1,h2⟩:=h
 unfold rq
 by_cases hr:0<numOf t ys/\Int.gcd (numOf s xs) (numOf t ys)=1
 ·obtain⟨e1,e2⟩:=ld hr
  exact⟨by rw[e1];exact qa l1 h1,by rw[e2];exact qa l2 h2⟩
 ·rw[CN hr];exact bS.zero.mono hk
theorem ay.form {w:World} {v:Value} {q:Rat} {k:Nat} (h:ay w v q k):∃ s p n c t r m d,v=.agg #[.bool s,.slice p n c,.bool t,.slice r m d]:=by
 obtain⟨s,xs,t,ys,⟨p,c,r,d,hv,_⟩,_⟩:=h
 exact⟨_,_,_,_,_,_,_,_,hv⟩
theorem aX.parts {w:World} {s t:Bool} {p r:Option Addr} {n c m d:Nat} {q:Rat} (h:aX w (.agg #[.bool s,.slice p n c,.bool t,.slice r m d]) q):bf w (.agg #[.bool s,.slice p n c]) q.num/\bf w (.agg #[.bool t,.slice r m d]) (q.den:Int):=by
 obtain⟨s',p',n',c',t',r',m',d',hv,h1,h2⟩:=h
 simp only[Value.agg.injEq,Array.mk.injEq,List.cons.injEq,and_true] at hv
 obtain⟨e1,e2,e3,e4⟩:=hv
 rw[e1,e2,e3,e4]
 exact⟨h1,h2⟩
theorem aX.form {w:World} {v:Value} {q:Rat} (h:aX w v q):∃ s p n c t r m d,v=.agg #[.bool s,.slice p n c,.bool t,.slice r m d]:=by
 obtain⟨s,p,n,c,t,r,m,d,hv,_⟩:=h
 exact⟨_,_,_,_,_,_,_,_,hv⟩
theorem aH.form {w:World} {B:Nat} {v:Value} {q:Rat} (h:aH w B v q):∃ s p n c t r m d,v=.agg #[.bool s,.slice p n c,.bool t,.slice r m d]:=h.rd.form
theorem tr {X Y:Int} (hY:0<Y):X.fdiv (Int.gcd X Y:Int)=(Rat.divInt X Y).num/\Y.fdiv (Int.gcd X Y:Int)=((Rat.divInt X Y).den:Int):=by
 have hg:(0:Int)<(Int.gcd X Y:Int):=by
  have:Int.gcd X Y≠0:=λe=>by have:=(Int.gcd_eq_zero_iff.1 e).2;omega
  omega
 rw[Rat.num_divInt,Rat.den_divInt,if_neg aa,cW hY,Int.one_mul,Int.gcd_comm Y X]
 refine⟨Int.fdiv_eq_ediv_of_nonneg _ aa,?_⟩
 rw[Int.fdiv_eq_ediv_of_nonneg _ aa,Int.natCast_ediv]
 congr 1
 omega
theorem low_neg {X Y:Int} (hY:Y<0):X.fdiv (-(Int.gcd X Y:Int))=(Rat.divInt X Y).num/\Y.fdiv (-(Int.gcd X Y:Int))=((Rat.divInt X Y).den:Int):=by
 have e:Rat.divInt X Y=Rat.divInt (-X) (-Y):=(Rat.neg_divInt_neg X Y).symm
 obtain⟨h1,h2⟩:=tr (X:= -X) (Y:= -Y) aa
 rw[Int.neg_gcd,Int.gcd_neg] at h1 h2
 rw[e,<-h1,<-h2]
 have fd:∀ a b:Int,(-a).fdiv b=a.fdiv (-b):=λa b=>by rw[<-Int.neg_fdiv_neg,Int.neg_neg]
 exact⟨(fd _ _).symm,(fd _ _).symm⟩
end
set_option maxRecDepth 4000
section
open Go.RowKit
attribute [local irreducible] ao VS
theorem gT (v:Value) (X:Int) (k:Nat) (w:World) (h:bk w v X k):
  Calls Tryz.prog 186 #[v] w λe w'=>∃ u,e=.returned u/\bf w' u X/\ax w w':=
 (oI v X k w w h (ax.refl w)).mono λe w' ⟨u,he,h1,h2⟩=>⟨u,he,h1.bq h2,h2⟩
theorem bf.row {w:World} {s:Bool} {p:Option Addr} {n c:Nat} {X:Int} (h:bf w (.agg #[.bool s,.slice p n c]) X):Rd w 1 (.slice p n c) n (ints .u32 (limbs X.natAbs)):=h.parts.2.1
theorem bf.n {w:World} {s:Bool} {p:Option Addr} {n c:Nat} {X:Int} (h:bf w (.agg #[.bool s,.slice p n c]) X):n=(limbs X.natAbs).length:=h.parts.1
theorem lg {s:Bool} {X:Int} (h:s=decide (X<0)):X=if s=true then-(X.natAbs:Int) else X.natAbs:=by
 subst h
 by_cases hx:X<0
 ·simp[hx];omega
 ·simp[hx];omega
theorem VO.cB {C:Cx} {F:Fr} {H:Hp} {w:World} {m:Option (List FuncId)} {full:Array Oper} {K:Fr->Hp->World->Prop} {o:Oper} {r:List Oper} {g:FuncId} {args:List AV} {vs:List Value} {v:Value} (e:stepOf C full F H o=.call (.fn g args)) (hv:eV args=some vs) (hf:iU C.P g) (con:∀ w1,aY C.K w w1->C.Old w1->Calls C.P g vs.toArray w1 λe w2=>e=.returned v/\ax w1 w2) (h:∀ w1,aY C.K w w1->C.Old w1->∀ w2,ax w1 w2->aY C.K w w2->aY C.K w1 w2->C.Old w2->ao C m full r K (F.bm o.dst (.val v)) H w2):ao C m full (o::r) K F H w:=
 VO.call e hv hf λw1 a b=>(con w1 a b).mono λ_ w2 x=>⟨v,x.1,x.2,h w1 a b w2 x.2⟩
theorem VO.cR {C:Cx} {F:Fr} {H:Hp} {w:World} {m:Option (List FuncId)} {full:Array Oper} {K:Fr->Hp->World->Prop} {o:Oper} {r:List Oper} {g:FuncId} {args:List AV} {vs:List Value} {Φ:World->World->Value->Prop} (e:stepOf C full F H o=.call (.fn g args)) (hv:eV args=some vs) (hf:iU C.P g) (con:∀ w1,aY C.K w w1->C.Old w1->Calls C.P g vs.toArray w1 λe w2=>∃ r,e=.returned r/\Φ w1 w2 r/\ax w1 w2) (h:∀ w1,aY C.K w w1->C.Old w1->∀ w2 (s:Bool) (p:Option Addr) (n c:Nat) (t:Bool) (y:Option Addr) (i j:Nat),Φ w1 w2 (.agg #[.bool s,.slice p n c,.bool t,.slice y i j])->ax w1 w2->aY C.K w w2->aY C.K w1 w2->C.Old w2->ao C m full r K (F.bm o.dst (.val (.agg #[.bool s,.slice p n c,.bool t,.slice y i j]))) H w2) (hΦ:∀ w1 w2 r,Φ w1 w2 r->∃ s p n c t y i j,r=.agg #[.bool s,.slice p n c,.bool t,.slice y i j]:=by exact λ_ _ _ h=>h.form):ao C m full (o::r) K F H w:=
 VO.call e hv hf λw1 a b=>(con w1 a b).mono λ_ w2 ⟨r,x1,x2,x3⟩=>by
   obtain⟨s,p,n,c,t,y,i,j,rfl⟩:=hΦ _ _ _ x2
   exact⟨_,x1,x3,h w1 a b w2 s p n c t y i j x2 x3⟩
theorem VO.cI {C:Cx} {F:Fr} {H:Hp} {w:World} {m:Option (List FuncId)} {full:Array Oper} {K:Fr->Hp->World->Prop} {o:Oper} {r:List Oper} {g:FuncId} {args:List AV} {vs:List Value} {Φ:World->World->Value->Prop} (e:stepOf C full F H o=.call (.fn g args)) (hv:eV args=some vs) (hf:iU C.P g) (con:∀ w1,aY C.K w w1->C.Old w1->Calls C.P g vs.toArray w1 λe w2=>∃ r,e=.returned r/\Φ w1 w2 r/\ax w1 w2) (h:∀ w1,aY C.K w w1->C.Old w1->∀ w2 (s:Bool) (p:Option Addr) (n c:Nat),Φ w1 w2 (.agg #[.bool s,.slice p n c])->ax w1 w2->aY C.K w w2->aY C.K w1 w2->C.Old w2->ao C m full r K (F.bm o.dst (.val (.agg #[.bool s,.slice p n c]))) H w2) (hΦ:∀ w1 w2 r,Φ w1 w2 r->∃ s p n c,r=.agg #[.bool s,.slice p n c]:=by exact λ_ _ _ h=>h.form):ao C m full (o::r) K F H w:=
 VO.call e hv hf λw1 a b=>(con w1 a b).mono λ_ w2 ⟨r,x1,x2,x3⟩=>by
   obtain⟨s,p,n,c,rfl⟩:=hΦ _ _ _ x2
   exact⟨_,x1,x3,h w1 a b w2 s p n c x2 x3⟩
theorem ab {P Q:Prop} (h:Q) (i:Q->P:=by intro h;(repeat first|refine wN ?_|refine wP rfl ?_|refine FH rfl ?_|refine cx_d rfl ?_|refine wO rfl rfl ?_);exact h):P:=i h
theorem aB {P Q X:Prop} (hb:X) (h:Q) (i:X->Q->P:=by intro hb h;refine⟨_,rfl,hb,λa b c=>wV rfl ?_⟩;refine ab ?_;revert a b c;exact h):P:=i hb h
theorem az {P Q:Prop} (h:Q) (i:Q->P:=by intro h;exact VS.ret (bQ _ _) rfl rfl h):P:=i h
theorem uM (v:Value) (X:Int) (j:Nat) (w:World) (hv:bk w v X j) (hj:j<=1073741824):
  Calls Tryz.prog 165 #[v] w λe w'=>∃ r,e=.returned r/\aj w' w.heap.size r (-X)/\ax w w':=by
 obtain⟨s,p,n,c,rfl⟩:=hv.form
 have hl:=hv.len
 refine ae (C:=aR Tryz.prog w _) (args:=[_]) Tryz.func165 rfl Tryz.ntmps165 (bt rfl) ?_
 refine ab ?_
 refine VO.call rfl rfl (fk Tryz.func186) (λaK bn aU=>(gT _ X j aK (hv.kp bn)).mono ?_)
 rintro e w1 ⟨r1,rfl,h1,aC⟩
 obtain⟨s1,p1,n1,c1,rfl⟩:=h1.eD
 refine aB aC ?_
 intro bL _ bb1
 refine VO.call rfl rfl (fk Tryz.func186) (λaZ bI bu=>(gT _ X j aZ (hv.kp ((bL).aA bI))).mono ?_)
 rintro e w2 ⟨r2,rfl,h2,aQ⟩
 obtain⟨s2,p2,n2,c2,rfl⟩:=h2.eD
 refine aB aQ ?_
 intro cH _ bb2
 refine VO.cI rfl rfl (fk Tryz.func171) (λck cJ da=>fY (!s1) _ n2 _ ck (h2.row.kp cJ) (ai _) (by rw[h2.n];omega)) (λck cJ da w3 s3 p3 n3 c3 h3 bM dP _ bb3=>wV rfl ?_)
 refine ab ?_
 refine az ?_;intro wz kz bz
 refine⟨_,rfl,aj.cast ((h3.kp kz).mono da.size) ?_,bz⟩
 rw[ah]
 have:=lg h1.Fj
 cases s1 <;> simp at this ⊢ <;> omega
theorem qb (v u:Value) (X Y:Int) (j k:Nat) (w:World) (hv:bk w v X j) (hu:bk w u Y k) (hj:j<=536870912) (hk:k<=536870911):
  Calls Tryz.prog 159 #[v,u] w λe w'=>∃ r,e=.returned r/\aj w' w.heap.size r (X+Y)/\ax w w':=by
 obtain⟨s,p,n,c,rfl⟩:=hv.form
 obtain⟨t,q,m,d,rfl⟩:=hu.form
 have oU:=hv.len
 have lU:=hu.len
 refine ae (C:=aR Tryz.prog w _) (args:=[_,_]) Tryz.func159 rfl Tryz.ntmps159 (bt rfl) ?_
 refine ab ?_
 refine VO.call rfl rfl (fk Tryz.func186) (λaK bn aU=>(gT _ X j aK (hv.kp bn)).mono ?_)
 rintro e w1 ⟨r1,rfl,h1,aC⟩
 obtain⟨s1,p1,n1,c1,rfl⟩:=h1.eD
 refine aB aC ?_
 intro bL _ bb1
 refine VO.call rfl rfl (fk Tryz.func186) (λaZ bI bu=>(gT _ Y k aZ (hu.kp ((bL).aA bI))).mono ?_)
 rintro e w2 ⟨r2,rfl,h2,aQ⟩
 obtain⟨s2,p2,n2,c2,rfl⟩:=h2.eD
 refine aB aQ ?_
 intro cH _ bb2
 have e1:=lg h1.Fj
 have e2:=lg h2.Fj
 have Iw:n1<=536870912:=by rw[h1.n];omega
 have vX:n2<=536870911:=by rw[h2.n];omega
 by_cases hst:s1=s2
 ·subst hst
  refine VS.bo rfl cU ?_
  refine ab ?_
  refine VO.call rfl rfl (fk Tryz.func187) (λck cJ da=>(FL _ _ n1 n2 _ _ ck (h1.row.kp (bI.aA ((Kp.of aQ).aA cJ))) (h2.row.kp cJ) (ai _) (ai _) aa aa).mono ?_)
  rintro e w3 ⟨v3,rfl,h3,bM⟩
  obtain⟨p3,c3,rfl,_⟩:=Own.form h3
  refine aB bM ?_
  intro dP _ bb3
  refine VO.cI rfl rfl (fk Tryz.func171) (λdW eT fD=>fY s1 _ _ _ dW (Rd.own (Own.kp h3 eT)) (ai _) (by have:=sum_len (a:=ag (limbs X.natAbs)) (b:=ag (limbs Y.natAbs)) (n:=n1) (m:=n2) (by rw[ah];exact h1.n) (by rw[ah];exact h2.n);omega)) (λdW eT fD w4 s4 p4 n4 c4 h4 fb iK _ oY=>wV rfl ?_)
  refine ab ?_
  refine az ?_;intro wz kz bz
  refine⟨_,rfl,aj.cast ((h4.kp kz).mono fD.size) ?_,bz⟩
  rw[ah,ah,ah]
  cases s1 <;> simp at e1 e2 ⊢ <;> omega
 ·refine VS.bB rfl (by simpa using hst) ?_
  refine ab ?_
  refine VO.call rfl rfl (fk Tryz.func188) (λck cJ da=>(xm _ _ n1 n2 _ _ ck (h1.row.kp (bI.aA ((Kp.of aQ).aA cJ))) (h2.row.kp cJ) (ai _) (ai _) aa aa).mono ?_)
  rintro e w3 ⟨h3,bM⟩
  rw[ah,ah] at h3
  rcases h3 with ⟨hlt,rfl⟩|⟨hle,v3,rfl,h3⟩
  ·refine aB bM ?_
   intro dP _ bb3
   refine VO.call rfl rfl (fk Tryz.func188) (λdW eT fD=>(xm _ _ n2 n1 _ _ dW (h2.row.kp (cJ.aA ((Kp.of bM).aA eT))) (h1.row.kp (bI.aA ((Kp.of aQ).aA (cJ.aA ((Kp.of bM).aA eT))))) (ai _) (ai _) aa aa).mono ?_)
   rintro e w4 ⟨h4,fb⟩
   rw[ah,ah] at h4
   rcases h4 with ⟨hlt',rfl⟩|⟨hle',v4,rfl,h4⟩
   ·omega
   ·obtain⟨p4,c4,rfl,_⟩:=Own.form h4
    refine aB fb ?_
    intro iK _ oY
    refine VO.cI rfl rfl (fk Tryz.func171) (λfv gh gv=>fY s2 _ _ _ fv (Rd.own (Own.kp h4 gh)) (ai _) (by have:=bV (show Y.natAbs-X.natAbs<=Y.natAbs by omega);omega)) (λfv gh gv w5 s5 p5 n5 c5 h5 gW ky _ tt=>wV rfl ?_)
    refine ab ?_
    refine az ?_;intro wz kz bz
    refine⟨_,rfl,aj.cast ((h5.kp kz).mono gv.size) ?_,bz⟩
    rw[ah]
    cases s1 <;> cases s2 <;> simp at e1 e2 hst ⊢ <;> omega
  ·obtain⟨p3,c3,rfl,_⟩:=Own.form h3
   refine aB bM ?_
   intro dP _ bb3
   refine VO.cI rfl rfl (fk Tryz.func171) (λfv gh gv=>fY s1 _ _ _ fv (Rd.own (Own.kp h3 gh)) (ai _) (by have:=bV (show X.natAbs-Y.natAbs<=X.natAbs by omega);omega)) (λfv gh gv w5 s5 p5 n5 c5 h5 gW ky _ tt=>wV rfl ?_)
   refine ab ?_
   refine az ?_;intro wz kz bz
   refine⟨_,rfl,aj.cast ((h5.kp kz).mono gv.size) ?_,bz⟩
   rw[ah]
   cases s1 <;> cases s2 <;> simp at e1 e2 hst ⊢ <;> omega
theorem AD (v u:Value) (X Y:Int) (j k:Nat) (w:World) (hv:bk w v X j) (hu:bk w u Y k) (hj:j<=536870912) (hk:k<=536870911):
  Calls Tryz.prog 205 #[v,u] w λe w'=>∃ r,e=.returned r/\aj w' w.heap.size r (X-Y)/\ax w w':=by
 obtain⟨s,p,n,c,rfl⟩:=hv.form
 obtain⟨t,q,m,d,rfl⟩:=hu.form
 refine ae (C:=aR Tryz.prog w _) (args:=[_,_]) Tryz.func205 rfl Tryz.ntmps205 (bt rfl) ?_
 refine ab ?_
 refine VO.cI rfl rfl (fk Tryz.func165) (λaK bn aU=>uM _ Y k aK (hu.kp bn) aa) (λaK bn aU w1 s1 p1 n1 c1 h1 aC bL _ bb1=>wV rfl ?_)
 refine ab ?_
 refine VO.cI rfl rfl (fk Tryz.func159) (λaZ bI bu=>qb _ _ X (-Y) j k aZ (hv.kp ((bL).aA bI)) ((h1.kp bI).in (Sz.neg hu.len)) hj hk) (λaZ bI bu w2 s2 p2 n2 c2 h2 aQ cH _ bb2=>wV rfl ?_)
 refine ab ?_
 refine az ?_;intro wz kz bz
 exact⟨_,rfl,aj.cast ((h2.kp kz).mono bu.size) (Int.sub_eq_add_neg).symm,bz⟩
end
section
open Go.RowKit
attribute [local irreducible] ao VS
set_option maxRecDepth 100000 in
theorem fE (p:Option Addr) (n c:Nat) (xs:List Nat) (w:World) (hr:Rd w 1 (.slice p n c) n (ints .i64 xs)) (hl:eP xs):
  Calls Tryz.prog 220 #[.slice p n c] w λe w'=>(∃ m,m<=n/\e=.returned (.slice p m c)/\halves (hval xs)=xs.take m)/\w=w':=by
 obtain⟨p',c',hv,dk,dY,dK⟩:=hr.i64
 simp only[Value.slice.injEq,true_and] at hv
 obtain⟨rfl,rfl⟩:=hv
 have HX:Hid (xs.length=n):=dK
 clear dK
 refine aD λR' bg=> ?_
 go_enter Tryz.func220,Tryz.ntmps220
 go_wp2
 go_loop [0] (λv=>∃ m,m<=n/\v=.slice p m c/\hval (xs.take m)=hval xs) (λv=>match v with | .slice _ m _=>m|_=>0)
 case atStart=>exact⟨n,Nat.le_refl _,rfl,by rw[List.take_of_length_le (Nat.le_of_eq HX.out)]⟩
 case round=>
  obtain⟨m,hm,rfl,hv⟩:=hrel
  have HV:Hid (hval (xs.take m)=hval xs):=hv
  clear hv
  by_cases h0:m=0
  ·subst h0
   go_wp2
   exact bg.out _ _ ⟨⟨0,Nat.zero_le _,rfl,iC aa hl (Nat.zero_le _) HV.out (.inl rfl)⟩,rfl⟩
  ·obtain⟨b,off,x,rfl,hb,hx,hc⟩:=hr.cellAt (k:=m-1) aa
   have Ih:Hid (xs[m-1]? =some x):=hx
   clear hx
   have h0':0<m:=by omega
   obtain⟨j,rfl⟩:∃ j,m=j+1:=⟨m-1,by omega⟩
   rw[Nat.add_sub_cancel] at hc
   by_cases lL:x=0
   ·subst lL
    go_wp2
    go_round
    case rel=>exact⟨j,by omega,rfl,(jj Ih.out).symm.trans HV.out⟩
    case measure=>simp
   ·have hx0':((x:Int) == 0)=false:=by rw[beq_eq_false_iff_ne];omega
    go_wp2
    exact bg.out _ _ ⟨⟨j+1,hm,rfl,iC aa hl (by rw[HX.out];exact hm) HV.out (.inr ⟨x,Ih.out,lL⟩)⟩,rfl⟩
set_option maxRecDepth 100000 in
theorem yl (va:Value) (n:Nat) (xs:List Nat) (w:World) (hr:Rd w 1 va n (ints .u32 xs)) (hl:bH xs) (hn:n<=1073741824):
  Calls Tryz.prog 191 #[va] w λe w'=>∃ v',e=.returned v'/\w'.ownsRow w.heap.size 3 1 v' (halves (ag xs)).length (ints .i64 (halves (ag xs)))/\Below w.heap.size w w':=by
 obtain⟨p,c,rfl,dk,dY,dK⟩:=hr.u32
 obtain⟨i0,hi,jz,jQ,kD⟩:=info_parts tq
 obtain⟨B,hB⟩:∃ B,B=w.heap.size:=⟨_,rfl⟩
 have HB:=Lib.hid hB
 have Hr:=Lib.hid hr
 have HL:=Lib.hid hl
 have HX:=Lib.hid dK
 rw[<-hB]
 clear hr hl dK hB
 refine aD λR' bg=> ?_
 go_enter Tryz.func191,Tryz.ntmps191
 go_wp2
 go_loopw [3,4] (λov iv wr=>Eg w B xs ov iv wr) (λ_ iv _=>n-(intOf iv).toNat)
 case atStart=>exact⟨0,[],Nat.zero_le _,rfl,rfl,dc.nil _,rfl,World.ownsRow_nil _ _ _ _,Below.refl _ _⟩
 case round=>
  obtain⟨k,hs,hk,rfl,hhl,hhh,hhv,aw,hb⟩:=hrel
  have HK:=Lib.hid hk
  have HO:=Lib.hid aw
  have HHL:=Lib.hid hhl
  have HHH:=Lib.hid hhh
  have HHV:=Lib.hid hhv
  have fj:=Lib.hid hb
  have sZ:B<=wr.heap.size:=by have:=hb.size;have:=HB.out;omega
  have hkn':k<=n:=by rw[<-HX.out];exact hk
  clear hk aw hhl hhh hhv hb
  by_cases sM:k<n
  ·obtain⟨b1,o1,x,rfl,aC,ea,hcw⟩:=Hr.out.cellAt sM
   have lO:=(fj.out.cell (p:=⟨b1,o1+k,none⟩) (by rw[HB.out];exact aC)).trans hcw
   have hne:=Ic HO.out (b:=b1) (by rw[HB.out];exact aC)
   have ta:=Lib.hid ea
   have jf:=HL.out.at ea
   have HNE:=Lib.hid hne
   have Hv:(0:Int)<=(k:Int):=by omega
   have jF:(k:Int)<(n:Int):=by omega
   clear ea hcw hne
   go_wp2_with fail
   go_region_held3 (λw'=>w'.cell? ⟨b1,o1+k,none⟩=some (.int .u32 (x:Int))) (first|exact lO|go_keep|exact wy uJ lO HNE.out)
    ((refine mh (by rfl) _ _ 272 (by rfl) B 3 i0 (.int .i64 0) 1 8 Tryz.underlying272 hi jz jQ kD rfl aa _ (2*k) (ints .i64 hs) (by rfl) ((HO.out.alloc _).drew) _ 2 (ints .i64 [x%65536,x/65536]) (by rfl) (Rd.drew (Rd.lit2 (Eh jf) (Ei jf))) (jN .i64 [x%65536,x/65536]) (by unfold maxLen;omega) aa (by simp;omega) ?_;intro v1 w1 ez uJ))
   have oV:=Lib.hid ez
   have HG1:=Lib.hid uJ
   clear ez uJ
   go_wp2_with fail
   go_roundw
   case rel=>
    have hst:=xk ta.out jf HHL.out HHH.out HHV.out
    exact⟨k+1,hs++[x%65536,x/65536],by rw[HX.out];omega,by go_num,by simp[HHL.out];omega,hst.1,hst.2,by rw[fy];exact oV.out,Below.behind fj.out sZ HG1.out HO.out (Nat.le_refl _)⟩
   case measure=>simp[intOf];omega
  ·obtain rfl:k=n:=by omega
   obtain⟨p1,c1,BG,_,_,_⟩:=Own.form HO.out
   have HV1:=Lib.hid BG
   have nY:Hid (hval hs=ag xs):=by show _=_;rw[HHV.out,aV (Nat.le_of_eq HX.out)]
   subst BG
   go_wp2_with fail
   refine (fE p1 (2*k) c1 hs _ (Rd.own HO.out) HHH.out).mono ?_
   rintro e w2 ⟨⟨m,hm,rfl,vL⟩,rfl⟩
   have HC:=Own.cut HO.out hm vL
   rw[nY.out] at HC
   have HC1:=Lib.hid HC.1
   have HC2:=Lib.hid HC.2
   clear HC vL
   go_wp2_with fail
   refine bg.out _ _ ⟨_,rfl,?_,fj.out⟩
   have:=HC1.out
   rw[<-HC2.out] at this ⊢
   exact this
theorem JH {n:Int} (h0: -9223372036854775808<=n) (h1:n<=9223372036854775807):qR (n.tmod 4294967296) [IntKind.i64.wrap (0-n.tmod 4294967296)]=((n.natAbs%4294967296:Nat):Int):=by
 have e:(n.tmod 4294967296).natAbs=n.natAbs%4294967296:=by rw[Int.natAbs_tmod];rfl
 have hs:(0<=n->0<=n.tmod 4294967296):=λh=>Int.tmod_nonneg _ h
 have hs':(n<=0->n.tmod 4294967296<=0):=λh=>by have:=Int.tmod_nonneg 4294967296 (show 0<=-n by omega);rw[Int.neg_tmod] at this;omega
 rw[IntWalk.i64_in _ aa]
 unfold qR qR
 split <;> omega
theorem JI {n:Int} (h0: -9223372036854775808<=n) (h1:n<=9223372036854775807):qR (IntKind.i64.wrap (n.tdiv 4294967296)) [IntKind.i64.wrap (0-IntKind.i64.wrap (n.tdiv 4294967296))]=((n.natAbs/4294967296:Nat):Int):=by
 have e:(n.tdiv 4294967296).natAbs=n.natAbs/4294967296:=by rw[Int.natAbs_tdiv];rfl
 have hs:(0<=n->0<=n.tdiv 4294967296):=λh=>Int.tdiv_nonneg h aa
 have hs':(n<=0->n.tdiv 4294967296<=0):=λh=>by have:=Int.tdiv_nonneg (show 0<=-n by omega) (show (0:Int)<=4294967296 by omega);rw[Int.neg_tdiv] at this;omega
 have hb:n.natAbs/4294967296<=2147483648:=by omega
 rw[IntWalk.i64_in (n.tdiv 4294967296) aa,IntWalk.i64_in _ aa]
 unfold qR qR
 split <;> omega
theorem El {x:Nat} (h:x<4294967296):IntKind.u32.wrap (x:Int)=(x:Int):=by rw[IntKind.wrap_u32',Int.emod_eq_of_lt aa aa]
theorem iz (n:Int) (w:World) (h0: -9223372036854775808<=n) (h1:n<=9223372036854775807):
  Calls Tryz.prog 136 #[.int .i64 n] w λe w'=>∃ r,e=.returned r/\aj w' w.heap.size r n/\ax w w':=by
 have e1:=JH h0 h1
 have e2:=JI h0 h1
 have g1:=Nat.mod_lt n.natAbs (show 0<4294967296 by omega)
 have g2:n.natAbs/4294967296<4294967296:=by omega
 refine ae (C:=aR Tryz.prog w _) (args:=[_]) Tryz.func136 rfl Tryz.ntmps136 (bt rfl) ?_
 refine ab ?_
 refine VO.lit (bQ _ _) [.int .u32 (IntKind.u32.wrap (qR (n.tmod 4294967296) [IntKind.i64.wrap (0-n.tmod 4294967296)])),.int .u32 (IntKind.u32.wrap (qR (IntKind.i64.wrap (n.tdiv 4294967296)) [IntKind.i64.wrap (0-IntKind.i64.wrap (n.tdiv 4294967296))]))] rfl rfl rfl rfl rfl rfl rfl rfl rfl aa (λw2 b k2 b2 ho=>wV rfl ?_)
 rw[e1,e2,El g1,El g2] at ho
 refine VO.cI rfl rfl (fk Tryz.func171) (λck cJ da=>fY (decide (n<0)) _ 2 [n.natAbs%4294967296,n.natAbs/4294967296] ck (Rd.own (Own.kp (cs:=ints .u32 [n.natAbs%4294967296,n.natAbs/4294967296]) ho cJ)) (dc.cons g1 (dc.cons g2 (dc.nil _))) aa) (λck cJ da w3 s3 p3 n3 c3 h3 bM dP _ bb3=>wV rfl ?_)
 refine ab ?_
 refine az ?_;intro wz kz bz
 refine⟨_,rfl,aj.cast ((h3.kp kz).mono da.size) ?_,bz⟩
 rw[dJ,dJ,cV]
 by_cases hn:n<0
 ·simp only[hn,decide_true,if_true];omega
 ·simp only[hn,decide_false];simp;omega
end
section
open Go.RowKit
def lv (ls:List Nat) (k j:Nat):Nat:=(if 2*j<k then ls.getD (2*j) 0 else 0)+65536*(if 2*j+1<k then ls.getD (2*j+1) 0 else 0)
def vJ (ls:List Nat) (m k:Nat):List Nat:=(List.range m).map (lv ls k)
theorem JJ (ls:List Nat) (m:Nat):vJ ls m 0=List.replicate m 0:=by
 apply List.ext_getElem
 ·simp[vJ]
 ·intro i h1 h2;simp[vJ,lv]
theorem JK {ls:List Nat} {m j x:Nat} (hx:ls[2*j]? =some x):(vJ ls m (2*j)).set j x=vJ ls m (2*j+1):=by
 apply List.ext_getElem
 ·simp[vJ]
 ·intro i h1 h2
  simp only[vJ,List.getElem_set,List.getElem_map,List.getElem_range]
  by_cases e:j=i
  ·subst e
   rw[if_pos rfl]
   unfold lv
   rw[if_pos aa,if_neg aa,List.getD_eq_getElem?_getD,hx];rfl
  ·rw[if_neg e]
   unfold lv
   congr 1
   ·by_cases h:2*i<2*j
    ·rw[if_pos h,if_pos aa]
    ·rw[if_neg h,if_neg aa]
   ·by_cases h:2*i+1<2*j
    ·rw[if_pos h,if_pos aa]
    ·rw[if_neg h,if_neg aa]
theorem lds_odd {ls:List Nat} {m j x y:Nat} (hy:(vJ ls m (2*j+1))[j]? =some y) (hx:ls[2*j+1]? =some x):(vJ ls m (2*j+1)).set j (y+65536*x)=vJ ls m (2*j+2):=by
 have hy':y=ls.getD (2*j) 0:=by
  obtain⟨h,rfl⟩:=List.getElem?_eq_some_iff.1 hy
  simp only[vJ,List.getElem_map,List.getElem_range]
  unfold lv
  rw[if_pos aa,if_neg aa];rfl
 apply List.ext_getElem
 ·simp[vJ]
 ·intro i h1 h2
  simp only[vJ,List.getElem_set,List.getElem_map,List.getElem_range]
  by_cases e:j=i
  ·subst e
   rw[if_pos rfl]
   unfold lv
   rw[if_pos aa,if_pos aa,hy']
   congr 2
   rw[List.getD_eq_getElem?_getD,hx];rfl
  ·rw[if_neg e]
   unfold lv
   congr 1
   ·by_cases h:2*i<2*j+1
    ·rw[if_pos h,if_pos aa]
    ·rw[if_neg h,if_neg aa]
   ·by_cases h:2*i+1<2*j+1
    ·rw[if_pos h,if_pos aa]
    ·rw[if_neg h,if_neg aa]
theorem lds_end {ls:List Nat} (h:eP ls) {m:Nat} (hm:ls.length<=2*m):ag (vJ ls m ls.length)=hval ls/\bH (vJ ls m ls.length):=by
 have hb:∀ k,ls.getD k 0<65536:=λk=>iJ h k
 have zp:∀ j,lv ls ls.length j=ls.getD (2*j) 0+65536*ls.getD (2*j+1) 0:=λj=>by
  unfold lv
  congr 1
  ·split
   ·rfl
   ·rw[fC aa]
  ·split
   ·rfl
   ·rw[fC aa]
 constructor
 ·have key:∀ j,j<=m->ag ((vJ ls m ls.length).take j)=hval (ls.take (2*j)):=by
   intro j
   induction j with
   | zero=>intro _;rfl
   | succ j ih=>
     intro hj
     rw[aM,ih aa]
     have e:(vJ ls m ls.length).getD j 0=ls.getD (2*j) 0+65536*ls.getD (2*j+1) 0:=by
      rw[List.getD_eq_getElem?_getD]
      simp[vJ,show j<m by omega,zp]
     rw[e]
     show _=val 65536 (ls.take (2*j+1+1))
     rw[bx,bx,Nat.mul_add,<-Nat.mul_assoc,Nat.pow_succ 65536 (2*j),Nat.pow_mul]
     show val 65536 _+_=_
     rw[Nat.add_assoc]
  have:=key m (Nat.le_refl _)
  rw[List.take_of_length_le (by simp[vJ]),List.take_of_length_le hm] at this
  exact this
 ·intro x hx
  obtain⟨j,_,rfl⟩:=List.mem_map.1 hx
  rw[zp]
  have:=hb (2*j)
  have:=hb (2*j+1)
  omega
def FM (w:World) (B g m:Nat) (ls:List Nat) (iv:Value) (wr:World):Prop:=
 ∃ k,k<=ls.length/\iv=.int .i64 (k:Int)/\wr.ownsRow B 191 1 (.slice (some ⟨g,0,none⟩) m m) m (ints .u32 (vJ ls m k))/\Below B w wr
set_option maxRecDepth 100000 in
theorem AE (va:Value) (n:Nat) (ls:List Nat) (w:World) (hr:Rd w 1 va n (ints .i64 ls)) (hl:eP ls) (hn:n<=2147483656):
  Calls Tryz.prog 189 #[va] w λe w'=>∃ v' xs,e=.returned v'/\xs.length=(n+1)/2/\w'.ownsRow w.heap.size 191 1 v' ((n+1)/2) (ints .u32 xs)/\ag xs=hval ls/\bH xs/\Below w.heap.size w w':=by
 obtain⟨p,c,rfl,dk,dY,dK⟩:=hr.i64
 obtain⟨i0,hi,jz,jQ,kD⟩:=info_parts gQ
 obtain⟨B,hB⟩:∃ B,B=w.heap.size:=⟨_,rfl⟩
 have HB:=Lib.hid hB
 have Hr:=Lib.hid hr
 have HL:=Lib.hid hl
 have HX:=Lib.hid dK
 obtain⟨m,hm⟩:∃ m,m=(n+1)/2:=⟨_,rfl⟩
 have HM:=Lib.hid hm
 have hmn:n<=2*m:=by omega
 have hmb:m<=1073741828:=by omega
 have hq:((n:Int)+1)/2=(m:Int):=by omega
 rw[<-hB,<-hm]
 clear hr hl dK hB hm
 refine aD λR' bg=> ?_
 go_enter Tryz.func189,Tryz.ntmps189
 go_wp2_with (at_make;refine wpList_make_full _ rfl _ _ 30 rfl B 191 i0 (.int .u32 0) 1 Tryz.underlying30 hi jz jQ .i64 .i64 _ _ m rfl rfl hq hq (by rw[kD];omega) (by unfold maxLen;omega) (Nat.le_of_eq HB.out) ?_;intro w1 aw yS)
 have BP:=Lib.hid (Own.made aw)
 have Hb1:Hid (Below B w w1):=(Below.refl _ _).grown yS (Nat.le_of_eq HB.out) (λk hk=>by cases hk)
 clear aw yS hq
 go_wp2_with fail
 go_loopw [4] (λiv wr=>FM w B w.heap.size m ls iv wr) (λiv _=>n-(intOf iv).toNat)
 case atStart=>exact⟨0,Nat.zero_le _,rfl,by rw[JJ];have:=BP.out;rw[List.nil_append] at this;exact this,Hb1.out⟩
 case round=>
  obtain⟨k,hk,rfl,aw,hb⟩:=hrel
  have lQ:=Lib.hid aw
  have mi:=Lib.hid hb
  have sM:k<=n:=by rw[<-HX.out];exact hk
  clear aw hb hk
  by_cases hlt:k<n
  ·obtain⟨b1,o1,x,rfl,aC,ea,hcw⟩:=Hr.out.cellAt hlt
   have lO:=(mi.out.cell (p:=⟨b1,o1+k,none⟩) (by rw[HB.out];exact aC)).trans hcw
   have jf:=HL.out.at ea
   have ta:=Lib.hid ea
   obtain⟨j,hj⟩:∃ j,j=k/2:=⟨_,rfl⟩
   have hk2:(k:Int)/2=(j:Int):=by omega
   have hjm:j<m:=by omega
   obtain⟨z,hz,hcell,vM⟩:=Own.fe lQ.out (j:=j) hjm
   have HZ:=Lib.hid hz
   have hw4:(x:Int)%4294967296=(x:Int):=by omega
   have hj0:(0:Int)<=(j:Int):=by omega
   have hj1:(j:Int)<(m:Int):=by omega
   have Hv:(0:Int)<=(k:Int):=by omega
   have jF:(k:Int)<(n:Int):=by omega
   by_cases he:k%2=0
   ·have hke:((k:Int)%2 == 0)=true:=by rw[beq_iff_eq];omega
    have HK:Hid (k=2*j):=by show _=_;omega
    clear ea hcw he hj hz
    go_wp2_with fail
    go_roundw
    case rel=>
     refine⟨k+1,by rw[HX.out];omega,by go_num,?_,mi.out.setCell (Own.lt lQ.out).1 _⟩
     have h1:=Own.eO (j:=j) (x:=x) lQ.out
     rw[HK.out,JK (by rw[<-HK.out];exact ta.out)] at h1
     rw[HK.out]
     simpa using h1
    case measure=>simp[intOf];omega
   ·have hke:((k:Int)%2 == 0)=false:=by rw[beq_eq_false_iff_ne];omega
    have HK:Hid (k=2*j+1):=by show _=_;omega
    have hz4:z<65536:=by
     have:=HZ.out
     rw[HK.out] at this
     obtain⟨h,rfl⟩:=List.getElem?_eq_some_iff.1 this
     simp only[vJ,List.getElem_map,List.getElem_range]
     unfold lv
     rw[if_pos aa,if_neg aa]
     exact iJ HL.out _
    have hw5:IntKind.u32.wrap (z+IntKind.u32.wrap (65536*(x:Int)))=((z+65536*x:Nat):Int):=by
     rw[IntKind.wrap_u32',IntKind.wrap_u32'];omega
    clear ea hcw he hj hz
    go_wp2
    go_region
    all_goals
     go_wp2_with fail
     go_roundw
     case rel=>
      refine⟨k+1,by rw[HX.out];omega,by go_num,?_,(mi.out.setCell (Own.lt lQ.out).1 _).drew⟩
      have h1:=Own.eO (j:=j) (x:=z+65536*x) lQ.out
      rw[HK.out,lds_odd (by have:=HZ.out;rw[HK.out] at this;exact this) (by rw[<-HK.out];exact ta.out)] at h1
      rw[HK.out]
      have h2:(((z+65536*x:Nat):Int))=(z:Int)+65536*(x:Int):=by omega
      rw[h2] at h1
      exact h1
     case measure=>simp[intOf];omega
  ·obtain rfl:k=n:=by omega
   obtain⟨e1,e2⟩:=lds_end HL.out (m:=m) (by rw[HX.out];exact hmn)
   rw[HX.out] at e1 e2
   have E1:=Lib.hid e1
   have E2:=Lib.hid e2
   clear e1 e2
   go_wp2_with fail
   exact bg.out _ _ ⟨_,_,rfl,by simp[vJ],lQ.out,E1.out,E2.out,mi.out⟩
end
section
open Go.RowKit
theorem val_set {B:Nat} {xs:List Nat} {j o v:Nat} (h:xs[j]? =some o):val B (xs.set j v)+B^j*o=val B xs+B^j*v:=by
 obtain⟨hl,he⟩:=List.getElem?_eq_some_iff.1 h
 have h1:xs=xs.take j++o::xs.drop (j+1):=by rw[<-he,<-List.drop_eq_getElem_cons hl,List.take_append_drop]
 have h2:xs.set j v=xs.take j++v::xs.drop (j+1):=by
  conv=>lhs;rw[h1]
  rw[List.set_append_right _ _ (by rw[List.length_take];omega)]
  rw[List.length_take,Nat.min_eq_left aa,Nat.sub_self];rfl
 have e1:val B xs=val B (xs.take j)+B^j*(o+B*val B (xs.drop (j+1))):=by
  conv=>lhs;rw[h1]
  rw[gm,List.length_take,Nat.min_eq_left aa,fc]
 have e2:val B (xs.set j v)=val B (xs.take j)+B^j*(v+B*val B (xs.drop (j+1))):=by
  rw[h2,gm,List.length_take,Nat.min_eq_left aa,fc]
 rw[e1,e2,Nat.mul_add,Nat.mul_add]
 omega
theorem eP.set {xs:List Nat} (h:eP xs) {v:Nat} (hv:v<65536) (j:Nat):eP (xs.set j v):=λy hy=>by
 rcases List.mem_or_eq_of_mem_set hy with h1|h1
 ·exact h y h1
 ·rw[h1];exact hv
theorem qd {os:List Nat} {i k x y o c s S Y:Nat} (ho:os[i+k]? =some o) (hs:s=x*y+o+c) (h:hval os+65536^(i+k)*c=S+65536^i*(x*Y)):
  hval (os.set (i+k) (s%65536))+65536^(i+(k+1))*(s/65536)=S+65536^i*(x*(Y+65536^k*y)):=by
 have h1:hval (os.set (i+k) (s%65536))+65536^(i+k)*o=hval os+65536^(i+k)*(s%65536):=val_set ho
 have h2:65536^(i+(k+1))=65536^(i+k)*65536:=by rw[<-Nat.add_assoc,Nat.pow_succ]
 have h3:65536^(i+k)*s=65536^(i+k)*(s%65536)+65536^(i+k)*65536*(s/65536):=by
  rw[Nat.mul_assoc,<-Nat.mul_add,Nat.mod_add_div]
 have h4:65536^(i+k)*s=65536^(i+k)*(x*y)+65536^(i+k)*o+65536^(i+k)*c:=by rw[hs,Nat.mul_add,Nat.mul_add]
 have h5:65536^i*(x*(Y+65536^k*y))=65536^i*(x*Y)+65536^(i+k)*(x*y):=by
  rw[Nat.mul_add,Nat.mul_add,Nat.pow_add]
  congr 1
  rw[Nat.mul_left_comm x,Nat.mul_assoc]
 rw[h2,h5]
 omega
def iv (xs:List Nat):List AV:=(ints .i64 xs).map .val
theorem bE (xs:List Nat):(iv xs).length=xs.length:=by simp[iv]
theorem JL {xs:List Nat} {j x:Nat} (h:xs[j]? =some x):(iv xs)[j]? =some (.val (.int .i64 (x:Int))):=by
 unfold iv
 rw[List.getElem?_map,pe h];rfl
theorem nj (xs ys:List Nat):iv (xs++ys)=iv xs++iv ys:=by simp[iv,fy]
theorem ke (xs:List Nat):(iv xs).all aE=true:=cQ (List.all_eq_true.2 λu hu=>by obtain⟨_,_,rfl⟩:=List.mem_map.1 hu;rfl)
theorem Em (xs:List Nat):(ints .i64 xs).all aN=true:=List.all_eq_true.2 λu hu=>by obtain⟨_,_,rfl⟩:=List.mem_map.1 hu;rfl
theorem bb (xs:List Nat):aI (iv xs)=[]:=af _
theorem uN:∀ n:Nat,ik n [.val (.int .i64 0)]=iv (List.replicate n 0)
 | 0=>rfl
 | n+1=>by rw[ik,uN n,List.replicate_succ];rfl
theorem iv_peek {xs:List Nat} {spare:List AV} {j x o:Nat} (h:xs[j]? =some x) (ho:o=j):∀ i u,[AV.val (.int .i64 (x:Int))][i]? =some u->(iv xs++spare)[o+i]? =some u:=by
 subst ho
 intro i u hu
 cases i with
 | zero=>
   cases hu
   have hl:=(List.getElem?_eq_some_iff.1 (JL h)).1
   rw[Nat.add_zero,List.getElem?_append_left hl,JL h]
 | succ i=>cases hu
theorem qe {xs:List Nat} {j x o:Nat} (h:xs[j]? =some x) (ho:o=j):∀ i u,[AV.val (.int .i64 (x:Int))][i]? =some u->(iv xs)[o+i]? =some u:=by
 have:=iv_peek (spare:=[]) h ho
 simpa using this
theorem tu {xs:List Nat} {j x o:Nat} (h:j<xs.length) (ho:o=j):(iv xs).take o++([AV.val (.int .i64 (x:Int))]++(iv xs).drop (o+1))=iv (xs.set j x):=by
 subst ho
 have:iv (xs.set o x)=(iv xs).set o (.val (.int .i64 (x:Int))):=by simp[iv,<-ints_set,List.map_set]
 rw[this,List.set_eq_take_append_cons_drop,if_pos (by rw[bE];exact h)]
 rfl
theorem js {C:Cx} {β:Nat->Nat} {w:World} {i n c:Nat} {t:TypeId} {xs:List Nat} {spare:List AV} (h:iV C β w i t (iv xs++spare)) (hn:xs.length=n) (dk:n<=c) (dY:c<=maxLen):Rd w 1 (.slice (some ⟨β i,0,none⟩) n c) n (ints .i64 xs):=by
 refine⟨_,c,rfl,dk,dY,by simp[hn],λ_=>⟨_,_,rfl,λj u hj=> ?_⟩⟩
 have hl:=(List.getElem?_eq_some_iff.1 hj).1
 refine h.cls.cell ?_
 rw[Nat.zero_add]
 simp only[List.map_append,List.getElem?_toArray]
 rw[List.getElem?_append_left (by simpa [iv] using hl)]
 unfold iv
 rw[aO]
 exact hj
def dM (w:World) (B:Nat) (v:Value) (n:Nat) (xs:List Nat):Prop:=
 xs.length=n/\((v=.slice none 0 0/\n=0)\/∃ b c spare,v=.slice (some ⟨b,0,none⟩) n c/\B<=b/\aW w b 3 (ints .i64 xs++spare).toArray/\n<=c/\c<=maxLen/\n+spare.length=c/\spare.all aN=true)
theorem dM.own {w:World} {B:Nat} {v:Value} {n:Nat} {xs:List Nat} (h:dM w B v n xs):w.ownsRow B 3 1 v n (ints .i64 xs):=by
 obtain⟨hn,⟨rfl,rfl⟩|⟨b,c,spare,rfl,hB,hc,h1,h2,h3,_⟩⟩:=h
 ·rw[List.eq_nil_of_length_eq_zero hn];exact World.ownsRow_nil _ _ _ _
 ·refine⟨by simp[hn],.inr ⟨b,c,_,rfl,hB,hc,h1,h2,by simp[hn,h3],?_⟩⟩
  rw[List.take_append_of_le_length (by simp[hn]),List.take_of_length_le (by simp[hn])]
theorem dM.new {C:Cx} {w:World} {B:Nat} {v:Value} {n:Nat} {xs:List Nat} (h:dM w B v n xs):Jn C 3 1 B w v n (ints .i64 xs):=by
 obtain⟨hn,⟨rfl,rfl⟩|⟨b,c,spare,rfl,hB,hc,h1,h2,h3,h4⟩⟩:=h
 ·exact .inl ⟨rfl,rfl,by rw[List.eq_nil_of_length_eq_zero hn];rfl⟩
 ·exact .inr ⟨b,c,spare,rfl,hB,hc,Em xs,h4,h1,by simpa [maxLen] using h2,by simp;omega⟩
theorem dM.nil (w:World) (B:Nat):dM w B (.slice none 0 0) 0 []:=⟨rfl,.inl ⟨rfl,rfl⟩⟩
theorem mQ {C:Cx} {β:Nat->Nat} {w:World} {i n m c:Nat} {xs:List Nat} {spare:List AV} (h:iV C β w i 3 (iv xs++spare)) (hn:xs.length=n) (hm:m<=n) (dk:n<=c) (dY:c<=maxLen) (hl:xs.length+spare.length=c) (hnw:∀ i g,C.uh i g->C.w0.heap.size<=g:=by exact λ_ _ h=>h):
  dM w C.w0.heap.size (.slice (some ⟨β i,0,none⟩) m c) m (xs.take m):=by
 refine⟨by rw[List.length_take];omega,.inr ⟨β i,c,ints .i64 (xs.drop m)++spare.map (AV.leaf β),rfl,hnw _ _ h.new,?_,by omega,dY,by simp;omega,?_⟩⟩
 ·have:=h.cls
  rw[List.map_append] at this
  unfold iv at this
  rw[aO] at this
  rw[<-List.append_assoc,<-fy,List.take_append_drop]
  exact this
 ·have hk:=h.ok
  rw[List.all_append,Bool.and_eq_true] at hk
  rw[List.all_append,Em,dH hk.2];rfl
theorem eQ {C:Cx} {β:Nat->Nat} {w:World} {i:Nat} {t:TypeId} {cs news rest:List AV} (h:iV C β w i t cs) (e:cs=news++rest):∀ j u,(news.map (AV.leaf β))[j]? =some u->w.cell? ⟨β i,0+j,none⟩=some u:=by
 intro j u hj
 have hl:=(List.getElem?_eq_some_iff.1 hj).1
 refine h.cls.cell ?_
 rw[e,Nat.zero_add,List.map_append]
 simp only[List.getElem?_toArray]
 rw[List.getElem?_append_left hl]
 exact hj
theorem bT {cs:List AV} (h:aI cs=[]) (i:Nat) (ρ:AV->Value):cs.map (AV.oW i ρ)=cs:=by
 induction cs with
 | nil=>rfl
 | cons x r ih=>
   rw[aI,List.append_eq_nil_iff] at h
   rw[List.map_cons,ih h.2]
   have:x.oW i ρ=x:=by unfold AV.oW;rw[h.1];rfl
   rw[this]
theorem JM (i:Nat) (ρ:AV->Value) (xs:List Nat):(iv xs).map (AV.oW i ρ)=iv xs:=bT (bb xs) i ρ
theorem tw {xs:List Nat} {m n:Nat} (h:halves (hval xs)=xs.take m) (hm:m<=n) (hn:xs.length=n):m=(halves (hval xs)).length:=by rw[h,List.length_take];omega
end
end Go.Proofs.YtlfdmhfhkgpmbaaGreat
