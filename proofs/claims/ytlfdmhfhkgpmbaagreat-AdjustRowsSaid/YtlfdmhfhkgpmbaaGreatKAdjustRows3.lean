/-AP of the proof,laid behind one another. -/
import Derived.Test.YtlfdmhfhkgpmbaaGreatKAdjustRows2
set_option linter.all false
set_option maxHeartbeats 64000000
namespace Go.Proofs.YtlfdmhfhkgpmbaaGreat
section
open Go.RowKit Go.MapKept
structure uA (ad:List Nat) (w w':World):Prop where
 os:w'.os=w.os
 tape:w'.tape=w.tape
 output:w'.output=w.output
 size:w.heap.size<=w'.heap.size
 oO:∀ g,g<w.heap.size->g∉ad->w'.heap[g]? =w.heap[g]?
theorem uA.of {ad:List Nat} {w w':World} (h:aw w w'):uA ad w w':=⟨h.os,h.tape,h.output,h.size,λg hg _=>Below.block h g hg⟩
theorem uA.aA {ad:List Nat} {a b c:World} (h:uA ad a b) (k:uA ad b c):uA ad a c:=
 ⟨k.os.trans h.os,k.tape.trans h.tape,k.output.trans h.output,Nat.le_trans h.size k.size,λg hg hn=>(k.oO g (Nat.lt_of_lt_of_le hg h.size) hn).trans (h.oO g hg hn)⟩
def ja (K:KC) (ad:List Nat) (w:World):Prop:=∀ g∈ad,∃ t cs,bj w g t (List.toArray cs)/\K.fz t=false/\cs.all bc=true
theorem uA.kp {K:KC} {ad:List Nat} {w w':World} (h:uA ad w w') (ha:ja K ad w):aV K w w':=by
 have no:∀ g,g∈ad->∀ o,w.heap[g]? =some o->∃ t cs,o=Obj.cells (List.toArray cs) t/\K.fz t=false/\cs.all bc=true:=λg hg o ho=>by
  obtain⟨t,cs,h1,h2,h3⟩:=ha g hg
  have:=(show w.heap[g]? =_ from h1).symm.trans ho
  cases this
  exact⟨t,cs,rfl,h2,h3⟩
 refine⟨h.size,λa x _ hx=> ?_,λt g cur hf _ hg=> ?_,λg es c hg=> ?_⟩
 ·have hlt:=World.block_lt_of_cell? w a hx
  by_cases hm:a.block∈ad
  ·obtain⟨t,cs,h1,h2,h3⟩:=ha _ hm
   exfalso
   have hx':=hx
   simp only[World.cell?,show w.heap[a.block]? =_ from h1] at hx'
   simp at hx'
   have:=List.all_eq_true.1 h3 _ (List.mem_of_getElem? hx'.2)
   cases this
  ·rw[World.cell?_of_block (w:=w) (h.oO _ hlt hm)];exact hx
 ·refine (h.oO g (Array.getElem?_eq_some_iff.1 hg).1 λhm=> ?_).trans hg
  obtain⟨t',cs,e,h2,_⟩:=no g hm _ hg
  cases e
  rw[h2] at hf;cases hf
 ·refine (h.oO g (Array.getElem?_eq_some_iff.1 hg).1 λhm=> ?_).trans hg
  obtain⟨t',cs,e,_⟩:=no g hm _ hg
  cases e
def gK (N:Nat) (ad:List Nat) (w0:World) (i g:Nat):Prop:=if 2*N<=i then ad[i-2*N]? =some g else (w0.heap.size<=g\/g∈ad)
def xE (K:KC) (ad:List Nat) (w0 w:World):Prop:=uA ad w0 w/\ja K ad w
theorem ja.lt {K:KC} {ad:List Nat} {w:World} (h:ja K ad w) {g:Nat} (hg:g∈ad):g<w.heap.size:=by
 obtain⟨t,cs,h1,_⟩:=h g hg
 exact h1.lt
theorem newA_ad {N:Nat} {ad:List Nat} {w0:World} {g:Nat} (h:g∈ad):∃ i,gK N ad w0 i g:=by
 obtain⟨j,hj⟩:=List.mem_iff_getElem?.1 h
 exact⟨2*N+j,by unfold gK;rw[if_pos ab,Nat.add_sub_cancel_left];exact hj⟩
theorem ft {N:Nat} {ad:List Nat} {w0:World} {i g:Nat} (h:gK N ad w0 i g):w0.heap.size<=g\/g∈ad:=by
 unfold gK at h
 split at h
 ·exact .inr (List.mem_of_getElem? h)
 ·exact h
theorem Iy {K:KC} {N:Nat} {ad:List Nat} {w0 w w':World} (h0:ja K ad w0) (h:xE K ad w0 w) (keep:∀ b,b<w0.heap.size->K.S b) (s:Stp K (gK N ad w0) w w'):xE K ad w0 w':=by
 obtain⟨h1,h2⟩:=h
 refine⟨⟨s.os.trans h1.os,s.tape.trans h1.tape,s.output.trans h1.output,Nat.le_trans h1.size s.size,λg hg hn=> ?_⟩,λg hg=> ?_⟩
 ·rcases s.oO g (Nat.lt_of_lt_of_le hg h1.size) with e|⟨⟨i,hi⟩,_⟩|e
  ·exact e.trans (h1.oO g hg hn)
  ·rcases ft hi with e|e
   ·omega
   ·exact absurd e hn
  ·exact absurd (keep g hg) e
 ·rcases s.oO g (h2.lt hg) with e|⟨_,t,cs,g1,g2,g3⟩|e
  ·obtain⟨t,cs,g1,g2,g3⟩:=h2 g hg
   exact⟨t,cs,e.trans g1,g2,g3⟩
  ·exact⟨t,cs,g1,g2,g3⟩
  ·exact absurd (keep g (h0.lt hg)) e
theorem Iz {K:KC} {N:Nat} {ad:List Nat} {w0 w:World} {a:Addr} {u:Value} (h:xE K ad w0 w) (hn:∀ i,¬ gK N ad w0 i a.block) (hc:w0.cell? a=some u):w.cell? a=some u:=by
 rw[World.cell?_of_block (w:=w0) (h.1.oO _ (World.block_lt_of_cell? w0 a hc) λhm=>by
  obtain⟨i,hi⟩:=newA_ad (N:=N) (w0:=w0) hm
  exact hn i hi)]
 exact hc
theorem Gm {N:Nat} {ad:List Nat} {w0:World} {i g:Nat} (hi:i<2*N) (hg:w0.heap.size<=g):gK N ad w0 i g:=by
 unfold gK;rw[if_neg ab];exact .inl hg
theorem newA_mv {N:Nat} {ad:List Nat} {w0:World} {i j g:Nat} (h:gK N ad w0 i g) (hj:j<2*N):gK N ad w0 j g:=by
 have:=ft h
 unfold gK;rw[if_neg ab];exact this
def lX (w:World) (g:Nat) (o:Obj):World:={ w with heap:=w.heap.setIfInBounds g o }
theorem Gn {w:World} {g:Nat} (o:Obj) (h:g<w.heap.size):(lX w g o).heap[g]? =some o:=by simp[lX,h]
theorem Ac {w:World} {g q:Nat} (o:Obj) (h:q≠g):(lX w g o).heap[q]? =w.heap[q]? :=by
 simp[lX,Ne.symm h]
theorem IA (w:World) (g:Nat) (o:Obj):(lX w g o).heap.size=w.heap.size:=by simp[lX]
theorem Ch {ad:List Nat} {w:World} {g:Nat} (o:Obj) (h:g∈ad):uA ad w (lX w g o):=
 ⟨rfl,rfl,rfl,Nat.le_of_eq (IA w g o).symm,λq _ hq=>Ac o λe=>hq (e▸h)⟩
def Ew (H:Hp) (β:Nat->Nat) (N:Nat):Nat->List Nat->World->World
 | _,[],w=>w
 | k,g::r,w=>Ew H β N (k+1) r (match H (2*N+k) with|some (t,cs)=>lX w g (.cells (cs.map (AV.leaf β)).toArray t)|none=>w)
theorem Ci {K:KC} {ad:List Nat} {w0:World} {H:Hp} {β:Nat->Nat} {N:Nat} (hH:∀ i t cs,H i=some (t,cs)->K.fz t=false/\cs.all aL=true):∀ (l:List Nat) (k:Nat) (w:World),xE K ad w0 w->(∀ g∈l,g∈ad)->l.Nodup->
  aV K w (Ew H β N k l w)/\xE K ad w0 (Ew H β N k l w)/\(∀ g,g∉l->(Ew H β N k l w).heap[g]? =w.heap[g]?)/\∀ j g t cs,l[j]? =some g->H (2*N+(k+j))=some (t,cs)->bj (Ew H β N k l w) g t (cs.map (AV.leaf β)).toArray
 | [],k,w,h,_,_=>⟨aV.refl _ _,h,λ_ _=>rfl,λj g t cs hj=>by simp at hj⟩
 | g::r,k,w,h,hs,hn=>by
   have hg:g∈ad:=hs g (List.mem_cons_self ..)
   obtain⟨n1,n2⟩:=List.nodup_cons.1 hn
   have step:∃ w1,(match H (2*N+k) with|some (t,cs)=>lX w g (.cells (cs.map (AV.leaf β)).toArray t)|none=>w)=w1/\aV K w w1/\xE K ad w0 w1/\(∀ q,q≠g->w1.heap[q]? =w.heap[q]?)/\∀ t cs,H (2*N+k)=some (t,cs)->bj w1 g t (cs.map (AV.leaf β)).toArray:=by
    cases hh:H (2*N+k) with
    | none=>exact⟨w,rfl,aV.refl _ _,h,λ_ _=>rfl,λt cs e=>by cases e⟩
    | some c=>
      obtain⟨t,cs⟩:=c
      obtain⟨q1,q2⟩:=hH _ t cs hh
      have hlt:=h.2.lt hg
      have nr:bj (lX w g (.cells (cs.map (AV.leaf β)).toArray t)) g t (cs.map (AV.leaf β)).toArray:=Gn _ hlt
      have hb:=Ch (w:=w) (.cells (cs.map (AV.leaf β)).toArray t) hg
      refine⟨_,rfl,hb.kp h.2,⟨h.1.aA hb,λq hq=> ?_⟩,λq hq=>Ac _ hq,λt' gM e=>by cases e;exact nr⟩
      by_cases e:q=g
      ·subst e;exact⟨t,_,nr,q1,dX q2⟩
      ·obtain⟨t',gM,g1,g2,g3⟩:=h.2 q hq
       exact⟨t',gM,(Ac _ e).trans g1,g2,g3⟩
   obtain⟨w1,e1,s1,s2,s3,s4⟩:=step
   unfold Ew
   rw[e1]
   obtain⟨k1,k2,k3,k4⟩:=Ci hH r (k+1) w1 s2 (λq hq=>hs q (List.mem_cons_of_mem _ hq)) n2
   refine⟨s1.aA k1,k2,λq hq=>(k3 q λe=>hq (List.mem_cons_of_mem _ e)).trans (s3 q λe=>hq (by rw[e];exact List.mem_cons_self ..)),λj q t cs hj hh=> ?_⟩
   cases j with
   | zero=>
     simp at hj
     subst hj
     exact (k3 g n1).trans (s4 t cs hh)
   | succ j=>
     refine k4 j q t cs (by simpa using hj) ?_
     rw[<-hh]
     congr 1
     omega
theorem Ex {K:KC} {ad:List Nat} {N:Nat} {w0 w1:World} (hd:ad.Nodup) (h:xE K ad w0 w1) (H:Hp) (hH:∀ i t cs,H i=some (t,cs)->K.fz t=false/\cs.all aL=true) (hf:∀ i,2*N+ad.length<=i->H i=none):
  ∃ β w2,aV K w1 w2/\xE K ad w0 w2/\(∀ i t cs,H i=some (t,cs)->gK N ad w0 i (β i)/\bj w2 (β i) t (cs.map (AV.leaf β)).toArray)/\∀ i j,H i≠none->H j≠none->β i=β j->i=j:=by
 let β:Nat->Nat:=λi=>if 2*N<=i then ad.getD (i-2*N) 0 else w1.heap.size+i
 have Lq:∀ i,i<2*N->β i=w1.heap.size+i:=λi hi=>if_neg ab
 have hβ2:∀ i,2*N<=i->β i=ad.getD (i-2*N) 0:=λi hi=>if_pos hi
 have mb:=ur H β w1 (2*N)
 have ha':xE K ad w0 (mkW H β (2*N) w1):=⟨h.1.aA (uA.of mb),λg hg=>by
  obtain⟨t,cs,g1,g2,g3⟩:=h.2 g hg
  exact⟨t,cs,g1.bq mb,g2,g3⟩⟩
 obtain⟨k1,k2,k3,k4⟩:=Ci (β:=β) (N:=N) hH ad 0 _ ha' (λ_ h=>h) hd
 have hlt:∀ i,2*N<=i->H i≠none->∃ g,ad[i-2*N]? =some g/\β i=g:=λi hi hn=>by
  have:i-2*N<ad.length:=by
   apply Classical.byContradiction
   intro e
   exact hn (hf i ab)
  refine⟨ad[i-2*N],List.getElem?_eq_getElem this,?_⟩
  rw[hβ2 i hi]
  simp[List.getD_eq_getElem?_getD,this]
 refine⟨β,Ew H β N 0 ad (mkW H β (2*N) w1),(aV.of mb).aA k1,k2,λi t cs hi=> ?_,λi j hi hj e=> ?_⟩
 ·by_cases c:2*N<=i
  ·obtain⟨g,g1,g2⟩:=hlt i c (by rw[hi];simp)
   rw[g2]
   refine⟨by unfold gK;rw[if_pos c];exact g1,k4 (i-2*N) g t cs g1 ?_⟩
   rw[<-hi]
   congr 1
   omega
  ·rw[Lq i ab]
   have hs:=Nat.le_trans h.1.size (Nat.le_add_right w1.heap.size i)
   refine⟨Gm ab hs,?_⟩
   refine (k3 _ λhm=> ?_).trans (Eg H β w1 hi _ ab)
   have:=h.2.lt hm
   omega
 ·by_cases c:2*N<=i <;> by_cases d:2*N<=j
  ·obtain⟨g,g1,g2⟩:=hlt i c hi
   obtain⟨g',g3,g4⟩:=hlt j d hj
   rw[g2,g4] at e
   subst e
   have:=(List.getElem?_inj (List.getElem?_eq_some_iff.1 g1).1 hd).1 (g1.trans g3.symm)
   omega
  ·obtain⟨g,g1,g2⟩:=hlt i c hi
   rw[g2,Lq j ab] at e
   have:=h.2.lt (List.mem_of_getElem? g1)
   omega
  ·obtain⟨g,g1,g2⟩:=hlt j d hj
   rw[g2,Lq i ab] at e
   have:=h.2.lt (List.mem_of_getElem? g1)
   omega
  ·rw[Lq i ab,Lq j ab] at e
   omega
abbrev tV (P:Program) (w:World) (N:Nat) (K:KC) (SU:TypeId->Bool) (ti:TypeId->Option TI) (keep:∀ b,b<w.heap.size->K.S b) (ad:List Nat) (hd:ad.Nodup) (ha:ja K ad w):Cx where
 P:=P
 w0:=w
 N:=N
 K:=K
 SU:=SU
 ti:=ti
 keep:=keep
 uu:=gK N ad w
 Old:=xE K ad w
 top:=2*N+ad.length
 topN:=Nat.le_add_right _ _
 ta:=λ_ _ h1 h2=>Gm h1 h2
 newMv:=λ_ _ _ h1 h2=>newA_mv h1 h2
 iM:=λ_ h=>h.1.size
 ou:=⟨uA.of (aw.refl _),ha⟩
 uv:=λ_ _ h k _ s=>Iy ha h k s
 Gg:=λ_ _ _ h hn hc=>Iz h hn hc
 lay:=λ_ H h hH hf=>Ex hd h H hH hf
def Fr.IB:Nat->List AV->Fr
 | _,[]=>λ_=>none
 | k,v::r=>λn=>bif Nat.beq n k then some v else Fr.IB (k+1) r n
theorem Fr.uB:∀ (l:List AV) (k n:Nat) (v:AV),Fr.IB k l n=some v->k<=n/\l[n-k]? =some v
 | [],k,n,v,h=>by cases h
 | x::r,k,n,v,h=>by
   unfold Fr.IB at h
   cases hb:Nat.beq n k with
   | true=>
     rw[hb] at h
     cases h
     have e:=Nat.eq_of_beq_eq_true hb
     exact⟨by omega,by rw[e];simp⟩
   | false=>
     rw[hb] at h
     obtain⟨h2,h3⟩:=Fr.uB r (k+1) n v h
     refine⟨by omega,?_⟩
     rw[show n-k=(n-(k+1))+1 by omega]
     simpa using h3
section
variable {C:Cx} {F:Fr} {H:Hp} {w:World} {m:Option (List FuncId)} {full:Array Oper} {K:Fr->Hp->World->Prop} {o:Oper} {r:List Oper}
theorem tn {f:FuncId} {fn:Func} {c:Code} {args:List AV} {R:Ending->World->Prop} {β:Nat->Nat} (hf:C.P.funcs[f]? =some fn) (hb:fn.body=some c) (hN:fn.ntmps=C.N) (ha:args.length<=C.N)
  (az:∀ i t cs,H i=some (t,cs)->jL C β C.w0 i t cs) (hap:∀ i j,H i≠none->H j≠none->β i=β j->i=j) (hp:zT C H) (nr:∀ v∈args,∀ i∈v.ids,H i≠none)
  (h:VS C (bodyPost C.P fn R) [.code c] (Fr.IB 0 args) H C.w0):Calls C.P f (args.map (AV.aU β)).toArray C.w0 R:=by
 refine calls_of_wp hf hb ?_
 refine h β _ C.w0 ⟨rfl,?_,λd v hd=> ?_,az,hap,λd v hd i hi=> ?_,λd v hd=> ?_,hp,C.ou⟩ (aV.refl _ _)
 ·simp[hN];omega
 ·obtain⟨_,h2⟩:=Fr.uB args 0 d v hd
  rw[Nat.sub_zero] at h2
  show ((args.map (AV.aU β)).toArray++_).getD d undef=v.aU β
  have hlt:=(List.getElem?_eq_some_iff.1 h2).1
  rw[Array.getD_eq_getD_getElem?,Array.getElem?_append_left (by simpa using hlt)]
  simp[h2]
 ·obtain⟨_,h2⟩:=Fr.uB args 0 d v hd
  exact nr v (List.mem_of_getElem? h2) i hi
 ·obtain⟨_,h2⟩:=Fr.uB args 0 d _ hd
  rw[Nat.sub_zero] at h2
  have:=(List.getElem?_eq_some_iff.1 h2).1
  omega
theorem VO.callM {g:FuncId} {args:List AV} {i:Nat} {t:TypeId} {cs:List AV} (e:stepOf C full F H o=.call (.fn g args)) (hH:H i=some (t,cs)) (hi:i∈eZ args) (hf:jK C.P g) (hl:1<=lvl C.SU m o)
  (h:∀ w1 β,aV C.K w w1->C.Old w1->iW C β H (eZ args) w1->Calls C.P g (args.map (AV.aU β)).toArray w1 λe w2=>∃ v ds,e=.returned v/\uA [β i] w1 w2/\bj w2 (β i) t (List.toArray ds)/\ds.all bc=true/\
   (aV C.K w w2->aV C.K w1 w2->C.Old w2->ao C m full r K (F.bP o.dst (.val v)) (H.put i (t,ds.map .val)) w2)):ao C m full (o::r) K F H w:=by
 show one C m full o (ao C m full r K) F H w
 unfold one
 rw[e]
 refine λw1 β h1 h2 h3=>⟨hf,(h w1 β h1 h2 h3).mono ?_⟩
 rintro e w2 ⟨v,ds,rfl,hb,hc,hk,hv⟩
 have ho:=h3.own i (.base hi) t cs hH
 refine⟨β,.val v,none,[(i,(t,ds.map .val))],rfl,λi hi=>(by cases hi),.inl hl,.inr rfl,?_,λa b c _ _=>hv a b c⟩
 refine⟨hb.os,hb.tape,hb.output,hb.size,λk hk hx _ _=>hb.oO k hk (by simpa using hx),λ_ _=>rfl,λi hi=>(by cases hi),λi hi=>(by cases hi),λx hx=> ?_,λx hx=> ?_,by simp,λx hx y hy _=> ?_,λx hx j hj=> ?_⟩
 ·cases List.mem_singleton.1 hx
  exact⟨ho.new,ho.ty,by rw[aW];exact hc,cU hk⟩
 ·cases List.mem_singleton.1 hx
  exact .inl ⟨by rw[hH];simp,by simp,.base hi,rfl⟩
 ·cases List.mem_singleton.1 hx;cases List.mem_singleton.1 hy;rfl
 ·cases List.mem_singleton.1 hx
  rw[af] at hj;cases hj
def Gp (z:Value) (ok:Bool):Option (Nat×Value)->Value
 | some (_,v)=>if ok=true then .tuple #[v,.bool true] else v
 | none=>if ok=true then .tuple #[z,.bool false] else z
theorem vF {P:Program} {w:World} {t kt et:TypeId} {d:TypeDesc} {rr:Nat} {es:Array MapEntry} {c:Nat} {k z:Value} {res:Option (Nat×Value)} (ok:Bool) (ht:P.underlying t=some (.map kt et)) (hd:P.underlying kt=some d) (hk:IsKey d k)
  (hz:(zeroValue et).run P w=.ok z w) (hm:w.heap[rr]? =some (.map es c)) (hr:Instr.findNow d k es.toList 0=some res):(Instr.lookup t (.map (some rr)) k ok).run P w=.ok (Gp z ok res) w:=by
 have hc:=run_checkKey (w:=w) hd hk es.isEmpty 9999
 cases res with
 | none=>cases ok <;> simp[Instr.lookup,run_underlying ht,MapKept.run_getObj_map hm,hc,run_findKey hd hr,hz,Result.andThen,Gp]
 | some p=>cases ok <;> simp[Instr.lookup,run_underlying ht,MapKept.run_getObj_map hm,hc,run_findKey hd hr,Result.andThen,Gp]
theorem VO.look {t kt et:TypeId} {d:TypeDesc} {x y:Operand} {ok:Bool} {rr:Nat} {es:Array MapEntry} {c:Nat} {k z:Value} {res:Option (Nat×Value)}
  (e:stepOf C full F H o=.call (.op o [.val (.map (some rr)),.val k])) (ho:o.op=.lookup t x y ok) (ht:C.P.underlying t=some (.map kt et)) (hd:C.P.underlying kt=some d) (hk:IsKey d k) (hz:∀ w,(zeroValue et).run C.P w=.ok z w)
  (hm:∀ w1,aV C.K w w1->C.Old w1->w1.heap[rr]? =some (.map es c)) (hr:Instr.findNow d k es.toList 0=some res)
  (h:∀ w2,aV C.K w w2->C.Old w2->ao C m full r K (F.bP o.dst (.val (Gp z ok res))) H w2):ao C m full (o::r) K F H w:=
 VO.Cg e λw1 β h1 h2 _=>⟨_,w1,λρ eV=>.inl (by
   rw[ho] at eV
   simp[Op.operands] at eV
   obtain⟨q1,q2⟩:=eV
   unfold execOp
   simp only[ho,q1,q2,AV.aU]
   simp[vF ok ht hd hk (hz w1) (hm w1 h1 h2) hr,Result.andThen]),_,rfl,aw.refl _,λa1 _ a3=>h w1 a1 a3⟩
end
def Hp.one (i:Nat) (t:TypeId) (cs:List Value):Hp:=λn=>bif Nat.beq n i then some (t,cs.map .val) else none
theorem Hp.sm (i n:Nat) (t:TypeId) (cs:List Value):Hp.one i t cs n=if n=i then some (t,cs.map .val) else none:=by
 unfold Hp.one
 by_cases h:n=i
 ·subst h;simp
 ·have:Nat.beq n i=false:=by rw[<-Bool.not_eq_true,Nat.beq_eq];exact h
  simp[this,h]
theorem ad1 {K:KC} {w:World} {g:Nat} {t:TypeId} {cs:List Value} (hc:bj w g t cs.toArray) (ht:K.fz t=false) (hk:cs.all bc=true):ja K [g] w:=λq hq=>by
 cases List.mem_singleton.1 hq
 exact⟨t,cs,hc,ht,hk⟩
theorem sn (g:Nat):[g].Nodup:=by simp
theorem Cj (P:Program) (w:World) (N:Nat) (K:KC) (SU:TypeId->Bool) (ti:TypeId->Option TI) (keep:∀ b,b<w.heap.size->K.S b) {g:Nat} {t:TypeId} {cs us:List Value} {f:FuncId} {fn:Func} {c:Code} {R:Ending->World->Prop} (hf:P.funcs[f]? =some fn) (hb:fn.body=some c) (hN:fn.ntmps=N) (ha:us.length+1<=N)
  (hc:bj w g t cs.toArray) (ht:K.fz t=false) (hk:cs.all bc=true)
  (h:VS (tV P w N K SU ti keep [g] (sn g) (ad1 hc ht hk)) (bodyPost P fn R) [.code c] (Fr.IB 0 (.box (2*N) 0::us.map .val)) (Hp.one (2*N) t cs) w):Calls P f (Value.pointer (some ⟨g,0,none⟩)::us).toArray w R:=by
 have:=tn (C:=tV P w N K SU ti keep [g] (sn g) (ad1 hc ht hk)) (R:=R) (args:=.box (2*N) 0::us.map .val) (β:=λ_=>g) (H:=Hp.one (2*N) t cs) hf hb hN (by simpa using ha) (λi t' gM hi=> ?_) (λi j hi hj _=> ?_) ⟨λi t' gM hi=> ?_,λi t' gM hi=> ?_,λi hi=> ?_⟩ (λv hv i hi=> ?_) h
 ·have e:(AV.box (2*N) 0::us.map AV.val).map (AV.aU λ_=>g)=Value.pointer (some ⟨g,0,none⟩)::us:=by
   rw[List.map_cons,gn];rfl
  rw[e] at this
  exact this
 ·rw[Hp.sm] at hi
  split at hi
  ·rename_i e
   cases hi
   refine⟨?_,ht,by rw[aW];exact hc,cU hk⟩
   show gK N [g] w i g
   unfold gK
   rw[if_pos ab,e,Nat.sub_self]
   rfl
  ·cases hi
 ·rw[Hp.sm] at hi hj
  split at hi
  ·split at hj
   ·omega
   ·exact absurd rfl hj
  ·exact absurd rfl hi
 ·rw[Hp.sm] at hi
  split at hi
  ·cases hi;exact⟨ht,cU hk⟩
  ·cases hi
 ·rw[Hp.sm] at hi
  split at hi
  ·cases hi
   intro j hj
   rw[af] at hj;cases hj
  ·cases hi
 ·rw[Hp.sm,if_neg]
  intro e
  have:(2*N+[g].length)<=i:=hi
  simp at this
  omega
 ·rcases List.mem_cons.1 hv with rfl|hv
  ·have:i=2*N:=by simpa [AV.ids] using hi
   rw[Hp.sm,if_pos this];simp
  ·obtain⟨u,_,rfl⟩:=List.mem_map.1 hv
   cases hi
theorem own1 {P:Program} {w w':World} {N:Nat} {K:KC} {SU:TypeId->Bool} {ti:TypeId->Option TI} {keep:∀ b,b<w.heap.size->K.S b} {g:Nat} {ha:ja K [g] w} {β:Nat->Nat} {i:Nat} {t:TypeId} {cs:List AV} (h:jL (tV P w N K SU ti keep [g] (sn g) ha) β w' i t cs) (hi:i=2*N):bj w' g t (cs.map (AV.leaf β)).toArray:=by
 have h1:gK N [g] w i (β i):=h.new
 unfold gK at h1
 rw[if_pos ab,hi,Nat.sub_self] at h1
 have h2:g=β (2*N):=by simpa using h1
 have h3:=h.cls
 rw[hi,<-h2] at h3
 exact h3
def nW:Nat->List (Value×FuncId)->List MapEntry
 | _,[]=>[]
 | n,(k,g)::r=>⟨k,.func (.func g) #[] #[],n⟩::nW (n+1) r
def Gq (d:TypeDesc):List MapEntry->List (Value×FuncId)->Prop
 | _,[]=>True
 | es,(k,g)::r=>IsKey d k/\Instr.findNow d k es 0=some none/\Gq d (es++[⟨k,.func (.func g) #[] #[],es.length⟩]) r
def Ad (t:TypeId) (d:Nat):List (Value×FuncId)->List Oper->Prop
 | [],[]=>True
 | (k,g)::q,o::r=>o.guard=none/\o.op=.insert t (.tmp d) (.const k) (.func g)/\o.dst=none/\Ad t d q r
 | _,_=>False
theorem qW {P:Program} {w:World} {t kt et:TypeId} {d:TypeDesc} {rr:Nat} {es:Array MapEntry} {c:Nat} {k v:Value} (ht:P.underlying t=some (.map kt et)) (hd:P.underlying kt=some d) (hk:IsKey d k)
  (hm:w.heap[rr]? =some (.map es c)) (hr:Instr.findNow d k es.toList 0=some none):(Instr.mapUpdate t (.map (some rr)) k v).run P w=.ok () (lX w rr (.map (es.push ⟨k,v,c⟩) (c+1))):=by
 have hc:=run_checkKey (w:=w) hd hk false 9999
 simp[Instr.mapUpdate,run_underlying ht,MapKept.run_getObj_map hm,hc,run_findKey hd hr,Result.andThen,MapKept.run_setObj_map _ hm,lX]
theorem vG {P:Program} {full:Array Oper} {Q:Exit->Act->World->Prop} {t kt et:TypeId} {d:TypeDesc} {dd b:Nat} (ht:P.underlying t=some (.map kt et)) (hd:P.underlying kt=some d) {tl:List Oper} {a:Act} (ha:a.eval (.tmp dd)=.map (some b)):
  ∀ (ins:List Oper) (DA:List (Value×FuncId)) (es:List MapEntry) (w:World),Ad t dd DA ins->Gq d es DA->w.heap[b]? =some (.map es.toArray es.length)->
    (∀ w2,uA [b] w w2->w2.heap[b]? =some (.map (es++nW es.length DA).toArray (es.length+DA.length))->wpList P full Q tl a w2)->wpList P full Q (ins++tl) a w
 | [],[],es,w,hm,hf,hw,h=>h w (uA.of (aw.refl _)) (by simpa [nW] using hw)
 | [],_::_,es,w,hm,hf,hw,h=>(show False from hm).elim
 | o::r,[],es,w,hm,hf,hw,h=>(show False from hm).elim
 | o::r,(k,g)::q,es,w,hm,hf,hw,h=>by
   obtain⟨h1,h2,h3,h4⟩:=hm
   obtain⟨f1,f2,f3⟩:=hf
   refine wpList_plain h1 λK hK=> ?_
   have hrun:=qW (P:=P) (w:=w) (v:=.func (.func g) #[] #[]) ht hd f1 hw f2
   have hlt:b<w.heap.size:=(Array.getElem?_eq_some_iff.1 hw).1
   refine Oper.wp_skip (w':=lX w b (.map (es.toArray.push ⟨k,.func (.func g) #[] #[],es.length⟩) (es.length+1))) ?_ (hK _ _ ?_)
   ·simp only[execOp,h2,ha]
    show (do Instr.mapUpdate t (.map (some b)) (a.eval (.const k)) (a.eval (.func g));pure Next.skip:Sem Next).run P w=_
    have e1:a.eval (.const k)=k:=rfl
    have e2:a.eval (.func g)=.func (.func g) #[] #[]:=rfl
    rw[e1,e2]
    simp[hrun,Result.andThen]
   ·rw[h3]
    show wpList P full Q (r++tl) a _
    refine vG ht hd ha r q (es++[⟨k,.func (.func g) #[] #[],es.length⟩]) _ h4 f3 ?_ λw2 b2 g2=>h w2 ((Ch _ (List.mem_singleton.2 rfl)).aA b2) ?_
    ·rw[Gn _ hlt];simp
    ·rw[g2];simp[nW];omega
theorem VS.mapLit {C:Cx} {Q:Exit->Act->World->Prop} {F:Fr} {H:Hp} {w:World} {st:List It} (hC:C.Ok) {id:Nat} {ops:Array Oper} {mk:Oper} {ins tl:List Oper} {t kt et:TypeId} {d:TypeDesc} {dd:Nat} (DA:List (Value×FuncId)) (hops:ops.toList=mk::(ins++tl))
  (hg:mk.guard=none) (hmk:mk.op=.makeMap t none) (gg:mk.dst=some dd) (hdN:dd<C.N) (ht:C.P.underlying t=some (.map kt et)) (hd:C.P.underlying kt=some d) (hins:Ad t dd DA ins) (hf:Gq d [] DA)
  (h:∀ w2 b,aV C.K w w2->C.Old w2->w2.heap[b]? =some (.map (nW 0 DA).toArray DA.length)->ao C none ops tl (VS C Q st) (F.put dd (.val (.map (some b)))) H w2):VS C Q (.code (.region id ops false)::st) F H w:=λβ a w' hr hk=>by
 refine wp_region_list ?_
 rw[hops]
 refine wpList_plain hg λK hK=> ?_
 refine Oper.lD (v:=.map (some w'.heap.size)) (w':=w'.alloc (.map #[] 0)) ?_ (hK _ _ ?_)
 ·simp[execOp,hmk,Instr.makeMap,Result.andThen]
 rw[gg]
 have hsz:dd<a.tmps.size:=by rw[hr.size];exact hdN
 have hev:(a.put (some dd) (.map (some w'.heap.size))).eval (.tmp dd)=.map (some w'.heap.size):=by
  show (a.tmps.setIfInBounds dd _).getD dd undef=_
  simp[Array.getD_eq_getD_getElem?,hsz]
 refine vG ht hd hev ins DA [] _ hins hf (MapKept.heap_alloc w' _).1 λw2 b2 g2=> ?_
 have hb:aw w' w2:=⟨b2.os,b2.tape,b2.output,Nat.le_trans dw b2.size,λg hg=>(b2.oO g (by simp;omega) (by simp;omega)).trans ((MapKept.heap_alloc w' _).2 g hg)⟩
 have ll:Rel C β F H a w2:=hr.changed (ids:=[]) (del:=none) (ups:=[]) (xB.none hb)
 have hr3:=ll.put (dst:=some dd) (by simpa [jl,Nat.blt_eq] using hdN) (v:=.val (.map (some w'.heap.size))) (λ_ hi=>by cases hi)
 exact pX hC (λβ F H w a w' h hr hk=>h β a w' hr hk) tl β _ H w2 _ w2 (h w2 w'.heap.size (hk.aA (aV.of hb)) ll.old (by simpa using g2)) hr3 (aV.refl _ _)
theorem Ey {α:Type} {l:List α} {x:α} (h:l.head? =some x) (n:Nat):l=x::((l.drop 1).take n++l.drop (n+1)):=by
 cases l with
 | nil=>simp at h
 | cons y r=>simp at h;subst h;simp
theorem VS.mapLitN {C:Cx} {Q:Exit->Act->World->Prop} {F:Fr} {H:Hp} {w:World} {st:List It} (hC:C.Ok) {id:Nat} {ops:Array Oper} {mk:Oper} {t kt et:TypeId} {d:TypeDesc} {dd:Nat} (n:Nat) (DA:List (Value×FuncId)) (hops:ops.toList.head? =some mk)
  (hg:mk.guard=none) (hmk:mk.op=.makeMap t none) (gg:mk.dst=some dd) (hdN:dd<C.N) (ht:C.P.underlying t=some (.map kt et)) (hd:C.P.underlying kt=some d) (hins:Ad t dd DA ((ops.toList.drop 1).take n)) (hf:Gq d [] DA)
  (h:∀ w2 b,aV C.K w w2->C.Old w2->w2.heap[b]? =some (.map (nW 0 DA).toArray DA.length)->ao C none ops (ops.toList.drop (n+1)) (VS C Q st) (F.put dd (.val (.map (some b)))) H w2):VS C Q (.code (.region id ops false)::st) F H w:=
 VS.mapLit hC DA (Ey hops n) hg hmk gg hdN ht hd hins hf h
theorem VS.fin {C:Cx} {F:Fr} {H:Hp} {w:World} (hC:C.Ok) {fn:Func} {R:Ending->World->Prop} {vs:List AV} (h:nV C F H fn.results.toList=some vs) (hR:∀ w' β,aV C.K w w'->C.Old w'->Ends C β H w'->R (.returned (jg (vs.map (AV.aU β)))) w'):VS C (bodyPost C.P fn R) [] F H w:=
 λβ a w' hr hk=>vD hC h hR β a w' hr hk
end
section
open Go.RowKit
theorem bld_of {P:Program} {t:TypeId} {zero:Value} {places:Array (Nat×Nat)} {fs:Array Field} (hz:∀ w,(zeroValue t).run P w=.ok zero w) (hu:P.underlying t=some (.struct fs))
  (hp:∀ w,(fs.mapM (λf=>do pure (f.offset,<-sizeOf f.type)):Sem (Array (Nat×Nat))).run P w=.ok places w) (ps:Array (Nat×Value)) (w:World) (cs:Array Value)
  (h:Instr.fill (places[·]?) zero.cells ps.toList=some cs):(Instr.build t ps).run P w=.ok (.agg cs) w:=by
 unfold Instr.build
 simp only[Sem.run_bind,hz,Result.andThen_ok,run_underlying hu,hp]
 rw[h]
 rfl
theorem fld_agg {P:Program} {t:TypeId} {k:Nat} {fs:Array Field} {f:Field} (o n:Nat) (hu:P.underlying t=some (.struct fs)) (hf:fs[k]? =some f) (ho:f.offset=o) (hb:∀ w,(isAgg f.type).run P w=.ok true w) (hs:∀ w,(sizeOf f.type).run P w=.ok n w)
  {cs:Array Value} {w:World} {v:Value} (h:some (Value.agg (cs.extract o (o+n)))=some v):(Instr.field t (.agg cs) k).run P w=.ok v w:=by
 cases h
 subst ho
 unfold Instr.field
 simp[run_underlying hu,hf,asAgg,part,hb,hs]
theorem fld_one {P:Program} {t:TypeId} {k:Nat} {fs:Array Field} {f:Field} (o:Nat) (hu:P.underlying t=some (.struct fs)) (hf:fs[k]? =some f) (ho:f.offset=o) (hb:∀ w,(isAgg f.type).run P w=.ok false w)
  {cs:Array Value} {w:World} {v:Value} (h:cs[o]? =some v):(Instr.field t (.agg cs) k).run P w=.ok v w:=by
 subst ho
 unfold Instr.field
 simp[run_underlying hu,hf,asAgg,part,hb,h]
inductive IC (P:Program) (t:TypeId):Nat->List Field->List (Nat×Nat)->List Bool->Prop
 | nil {j:Nat}:IC P t j [] [] []
 | cons {j:Nat} {f:Field} {fs:List Field} {p:Nat×Nat} {ps:List (Nat×Nat)} {a:Bool} {gs:List Bool} (h1:∀ b o w,(Instr.fieldAt t (.pointer (some ⟨b,o,none⟩)) j).run P w=.ok (.pointer (some ⟨b,o+p.1,none⟩)) w) (h2:f.offset=p.1) (h3:∀ w,(isAgg f.type).run P w=.ok a w) (h4:a=true->∀ w,(sizeOf f.type).run P w=.ok p.2 w) (h:IC P t (j+1) fs ps gs):IC P t j (f::fs) (p::ps) (a::gs)
theorem IC.get {P:Program} {t:TypeId} {j:Nat} {fs:List Field} {ps:List (Nat×Nat)} {gs:List Bool} (h:IC P t j fs ps gs):∀ (k:Nat) (p:Nat×Nat),ps[k]? =some p->(∀ b o w,(Instr.fieldAt t (.pointer (some ⟨b,o,none⟩)) (j+k)).run P w=.ok (.pointer (some ⟨b,o+p.1,none⟩)) w)/\∃ f a,fs[k]? =some f/\gs[k]? =some a/\f.offset=p.1/\(∀ w,(isAgg f.type).run P w=.ok a w)/\(a=true->∀ w,(sizeOf f.type).run P w=.ok p.2 w):=by
 induction h with
 | nil=>intro k p e;simp at e
 | cons h1 h2 h3 h4 _ ih=>
   intro k p e
   cases k with
   | zero=>simp at e;cases e;exact⟨h1,_,_,rfl,rfl,h2,h3,h4⟩
   | succ k=>
     have:=ih k p (by simpa using e)
     rw[show ∀ j:Nat,j+1+k=j+(k+1) from λj=>by omega] at this
     simpa using this
@[reducible] def tF (z:Value) (b:Bool) (e:Option (TypeId×Nat)) (k:Option IntKind) (p:Bool):TI:={ size:=1,agg:=false,zero:=z,places:=#[],Ih:=#[],bool:=b,elem:=e,kind:=k,ptr:=p }
@[reducible] def tA (n:Nat) (z:Array Value) (p:Array (Nat×Nat)) (a:Array Bool):TI:={ size:=n,agg:=true,zero:=.agg z,places:=p,Ih:=a,bool:=false,elem:=none,kind:=none }
theorem okF {P:Program} {t:TypeId} {z:Value} {b:Bool} {e:Option (TypeId×Nat)} {k:Option IntKind} {p:Bool} {d:TypeDesc} (hu:P.underlying t=some d) (hb:b=true->P.underlying t=some .bool:=by intro h;cases h;try kernel_rfl) (hs:∀ c n,e=some (c,n)->P.underlying t=some (.slice c)/\∀ w,(sizeOf c).run P w=.ok n w:=by intro c n h;cases h;try (constructor;kernel_rfl;intro w;kernel_rfl)) (hi:∀ q,k=some q->P.underlying t=some (.int q):=by intro q h;cases h;try kernel_rfl) (hp:p=true->P.underlying t=some (.pointer (P.pointee t)):=by intro h;cases h;try kernel_rfl)
  (hr:d.isRow=false:=by rfl) (h1:(P.info? t).map (·.size)=some 1:=by kernel_rfl) (h2:z.cells.size=1:=by rfl) (h3:(P.info? t).map (·.zero)=some (some z):=by kernel_rfl) (h4:(P.info? t).map (λq=>Nat.ble q.bytes (24*1))=some true:=by kernel_rfl) (h5:∀ w,(zeroValue t).run P w=.ok z w:=by intro w;kernel_rfl):TI.Ok P t (tF z b e k p) where
 row:=⟨_,hu,hr⟩
 isBool:=hb
 isSlice:=hs
 isInt:=hi
 Gf:=hp
 yb:=h2
 Bw:=h3
 bytes:=h4
 pos:=Nat.le_refl 1
 lone:=λ_=>rfl
 size:=h1
 zero:=h5
 KM:=λk p hp b o w=>by simp at hp
 fld:=λk p hp cs w v hv=>by simp at hp
 bld:=λh=>by cases h
theorem qf {P:Program} {t:TypeId} {n:Nat} {z:Array Value} {p:Array (Nat×Nat)} {a:Array Bool} {fs:Array Field} (hu:P.underlying t=some (.struct fs)) (hf:IC P t 0 fs.toList p.toList a.toList:=by repeat first|exact .nil|refine .cons (λb o w=>by kernel_rfl) rfl (λw=>by kernel_rfl) (by intro h;cases h;try (intro w;kernel_rfl)) ?_)
  (h1:(P.info? t).map (·.size)=some n:=by kernel_rfl) (h2:z.size=n:=by rfl) (h3:(P.info? t).map (·.zero)=some (some (.agg z)):=by kernel_rfl) (h4:(P.info? t).map (λq=>Nat.ble q.bytes (24*n))=some true:=by kernel_rfl) (h5:∀ w,(zeroValue t).run P w=.ok (.agg z) w:=by intro w;kernel_rfl) (h6:0<n:=by exact bl rfl) (h7:∀ w,(fs.mapM (λf=>do pure (f.offset,<-sizeOf f.type)):Sem (Array (Nat×Nat))).run P w=.ok p w:=by intro w;kernel_rfl):TI.Ok P t (tA n z p a) where
 row:=⟨_,hu,rfl⟩
 isBool:=λh=>by cases h
 isSlice:=λe n h=>by cases h
 isInt:=λk h=>by cases h
 yb:=h2
 Bw:=h3
 bytes:=h4
 pos:=h6
 lone:=λh=>by cases h
 size:=h1
 zero:=h5
 KM:=λk q hq b o w=>by
  have:=(hf.get k q (by simpa using hq)).1 b o w
  rwa [Nat.zero_add] at this
 fld:=λk q hq cs w v hv=>by
  obtain⟨_,f,x,e1,e2,e3,e4,e5⟩:=hf.get k q (by simpa using hq)
  rw[Array.getElem?_toList] at e1 e2
  rw[e2] at hv
  cases x
  ·exact fld_one q.1 hu e1 e3 e4 hv
  ·exact fld_agg q.1 q.2 hu e1 e3 e4 (e5 rfl) hv
 bld:=λ_=>bld_of h5 hu h7
theorem tb {P:Program} {t u:TypeId} {i x:TI} {r:Option TI} (hk:TI.Ok P u i) (hr:r=some x->TI.Ok P t x) (h:(bif Nat.beq t u then some i else r)=some x):TI.Ok P t x:=by
 cases hb:Nat.beq t u
 ·rw[hb] at h;exact hr h
 ·rw[hb] at h;cases h;rw[Nat.eq_of_beq_eq_true hb];exact hk
def ti0:TI:=tF (.int .i64 0) false none (some .i64) false
theorem ok0:TI.Ok Tryz.prog 2 ti0:=okF Tryz.underlying2
def ti1:TI:=tF (.int .i64 0) false none (some .i64) false
theorem ok1:TI.Ok Tryz.prog 3 ti1:=okF Tryz.underlying3
def ti2:TI:=tF (.bool false) true none none false
theorem ok2:TI.Ok Tryz.prog 4 ti2:=okF Tryz.underlying4
def ti3:TI:=tF (.int .u8 0) false none (some .u8) false
theorem ok3:TI.Ok Tryz.prog 5 ti3:=okF Tryz.underlying5
def ti4:TI:=tF (.string ⟨#[]⟩) false none none false
theorem ok4:TI.Ok Tryz.prog 9 ti4:=okF Tryz.underlying9
def ti5:TI:=tF (.int .u64 0) false none (some .u64) false
theorem ok5:TI.Ok Tryz.prog 12 ti5:=okF Tryz.underlying12
def ti6:TI:=tF (.slice none 0 0) false (some (38,6)) none false
theorem ok6:TI.Ok Tryz.prog 22 ti6:=okF Tryz.underlying22
def ti7:TI:=tF (.slice none 0 0) false (some (41,1)) none false
theorem ok7:TI.Ok Tryz.prog 23 ti7:=okF Tryz.underlying23
def ti8:TI:=tF (.slice none 0 0) false (some (49,28)) none false
theorem ok8:TI.Ok Tryz.prog 26 ti8:=okF Tryz.underlying26
def ti9:TI:=tF (.int .i64 0) false none (some .i64) false
theorem ok9:TI.Ok Tryz.prog 27 ti9:=okF Tryz.underlying27
def ti10:TI:=tF (.slice none 0 0) false (some (191,1)) none false
theorem ok10:TI.Ok Tryz.prog 30 ti10:=okF Tryz.underlying30
def ti11:TI:=tA 2 #[.bool false,.slice none 0 0] #[(0,1),(1,1)] #[false,false]
theorem ok11:TI.Ok Tryz.prog 32 ti11:=qf Tryz.underlying32
def ti12:TI:=tA 4 #[.bool false,.slice none 0 0,.bool false,.slice none 0 0] #[(0,2),(2,2)] #[true,true]
theorem ok12:TI.Ok Tryz.prog 34 ti12:=qf Tryz.underlying34
def ti13:TI:=tF (.slice none 0 0) false (some (44,9)) none false
theorem ok13:TI.Ok Tryz.prog 36 ti13:=okF Tryz.underlying36
def ti14:TI:=tA 6 #[.string ⟨#[]⟩,.int .u8 0,.bool false,.slice none 0 0,.bool false,.slice none 0 0] #[(0,1),(1,1),(2,4)] #[false,false,true]
theorem ok14:TI.Ok Tryz.prog 38 ti14:=qf Tryz.underlying38
def ti15:TI:=tF (.slice none 0 0) false (some (81,1)) none false
theorem ok15:TI.Ok Tryz.prog 39 ti15:=okF Tryz.underlying39
def ti16:TI:=tA 1 #[.slice none 0 0] #[(0,1)] #[false]
theorem ok16:TI.Ok Tryz.prog 41 ti16:=qf Tryz.underlying41
def ti17:TI:=tA 9 #[.int .u8 0,.bool false,.slice none 0 0,.bool false,.slice none 0 0,.bool false,.slice none 0 0,.bool false,.slice none 0 0] #[(0,1),(1,4),(5,4)] #[false,true,true]
theorem ok17:TI.Ok Tryz.prog 44 ti17:=qf Tryz.underlying44
def ti18:TI:=tA 16 #[.bool false,.slice none 0 0,.bool false,.slice none 0 0,.bool false,.slice none 0 0,.bool false,.slice none 0 0,.bool false,.slice none 0 0,.bool false,.slice none 0 0,.bool false,.slice none 0 0,.bool false,.slice none 0 0] #[(0,4),(4,4),(8,4),(12,4)] #[true,true,true,true]
theorem ok18:TI.Ok Tryz.prog 47 ti18:=qf Tryz.underlying47
def ti19:TI:=tA 28 #[.bool false,.slice none 0 0,.bool false,.slice none 0 0,.bool false,.slice none 0 0,.bool false,.slice none 0 0,.bool false,.slice none 0 0,.bool false,.slice none 0 0,.bool false,.slice none 0 0,.bool false,.slice none 0 0,.bool false,.slice none 0 0,.bool false,.slice none 0 0,.bool false,.slice none 0 0,.bool false,.slice none 0 0,.bool false,.slice none 0 0,.bool false,.slice none 0 0] #[(0,16),(16,4),(20,4),(24,4)] #[true,true,true,true]
theorem ok19:TI.Ok Tryz.prog 49 ti19:=qf Tryz.underlying49
def ti20:TI:=tA 2 #[.bool false,.slice none 0 0] #[(0,1),(1,1)] #[false,false]
theorem ok20:TI.Ok Tryz.prog 53 ti20:=qf Tryz.underlying53
def ti21:TI:=tA 4 #[.bool false,.slice none 0 0,.bool false,.slice none 0 0] #[(0,2),(2,2)] #[true,true]
theorem ok21:TI.Ok Tryz.prog 55 ti21:=qf Tryz.underlying55
def ti22:TI:=tA 16 #[.bool false,.slice none 0 0,.bool false,.slice none 0 0,.bool false,.slice none 0 0,.bool false,.slice none 0 0,.bool false,.slice none 0 0,.bool false,.slice none 0 0,.bool false,.slice none 0 0,.bool false,.slice none 0 0] #[(0,4),(4,4),(8,4),(12,4)] #[true,true,true,true]
theorem ok22:TI.Ok Tryz.prog 57 ti22:=qf Tryz.underlying57
def ti23:TI:=tA 28 #[.bool false,.slice none 0 0,.bool false,.slice none 0 0,.bool false,.slice none 0 0,.bool false,.slice none 0 0,.bool false,.slice none 0 0,.bool false,.slice none 0 0,.bool false,.slice none 0 0,.bool false,.slice none 0 0,.bool false,.slice none 0 0,.bool false,.slice none 0 0,.bool false,.slice none 0 0,.bool false,.slice none 0 0,.bool false,.slice none 0 0,.bool false,.slice none 0 0] #[(0,16),(16,4),(20,4),(24,4)] #[true,true,true,true]
theorem ok23:TI.Ok Tryz.prog 59 ti23:=qf Tryz.underlying59
def ti24:TI:=tF (.slice none 0 0) false (some (127,6)) none false
theorem ok24:TI.Ok Tryz.prog 62 ti24:=okF Tryz.underlying62
def ti25:TI:=tF (.slice none 0 0) false (some (130,1)) none false
theorem ok25:TI.Ok Tryz.prog 64 ti25:=okF Tryz.underlying64
def ti26:TI:=tF (.slice none 0 0) false (some (59,28)) none false
theorem ok26:TI.Ok Tryz.prog 66 ti26:=okF Tryz.underlying66
def ti27:TI:=tF (.slice none 0 0) false (some (26,1)) none false
theorem ok27:TI.Ok Tryz.prog 69 ti27:=okF Tryz.underlying69
def ti28:TI:=tF (.slice none 0 0) false (some (66,1)) none false
theorem ok28:TI.Ok Tryz.prog 72 ti28:=okF Tryz.underlying72
def ti29:TI:=tF (.slice none 0 0) false (some (34,4)) none false
theorem ok29:TI.Ok Tryz.prog 81 ti29:=okF Tryz.underlying81
def ti30:TI:=tF (.slice none 0 0) false (some (148,8)) none false
theorem ok30:TI.Ok Tryz.prog 83 ti30:=okF Tryz.underlying83
def ti31:TI:=tF (.slice none 0 0) false (some (9,1)) none false
theorem ok31:TI.Ok Tryz.prog 84 ti31:=okF Tryz.underlying84
def ti32:TI:=tF (.slice none 0 0) false (some (155,6)) none false
theorem ok32:TI.Ok Tryz.prog 85 ti32:=okF Tryz.underlying85
def ti33:TI:=tA 25 #[.string ⟨#[]⟩,.string ⟨#[]⟩,.slice none 0 0,.bool false,.slice none 0 0,.bool false,.slice none 0 0,.bool false,.slice none 0 0,.bool false,.slice none 0 0,.int .i64 0,.int .i64 0,.bool false,.slice none 0 0,.bool false,.slice none 0 0,.bool false,.slice none 0 0,.bool false,.slice none 0 0,.int .i64 0,.slice none 0 0,.slice none 0 0,.slice none 0 0] #[(0,1),(1,1),(2,1),(3,4),(7,4),(11,1),(12,1),(13,4),(17,4),(21,1),(22,1),(23,1),(24,1)] #[false,false,false,true,true,false,false,true,true,false,false,false,false]
theorem ok33:TI.Ok Tryz.prog 87 ti33:=qf Tryz.underlying87
def ti34:TI:=tF (.slice none 0 0) false (some (2,1)) none false
theorem ok34:TI.Ok Tryz.prog 94 ti34:=okF Tryz.underlying94
def ti35:TI:=tF (.slice none 0 0) false (some (94,1)) none false
theorem ok35:TI.Ok Tryz.prog 95 ti35:=okF Tryz.underlying95
def ti36:TI:=tF (.pointer none) false none none true
theorem ok36:TI.Ok Tryz.prog 97 ti36:=okF Tryz.underlying97
def ti37:TI:=tF (.slice none 0 0) false (some (101,9)) none false
theorem ok37:TI.Ok Tryz.prog 99 ti37:=okF Tryz.underlying99
def ti38:TI:=tA 9 #[.int .u8 0,.bool false,.slice none 0 0,.bool false,.slice none 0 0,.bool false,.slice none 0 0,.bool false,.slice none 0 0] #[(0,1),(1,4),(5,4)] #[false,true,true]
theorem ok38:TI.Ok Tryz.prog 101 ti38:=qf Tryz.underlying101
def ti39:TI:=tA 2 #[.int .i64 0,.int .i64 0] #[(0,1),(1,1)] #[false,false]
theorem ok39:TI.Ok Tryz.prog 108 ti39:=qf Tryz.underlying108
def ti40:TI:=tF (.pointer none) false none none true
theorem ok40:TI.Ok Tryz.prog 112 ti40:=okF Tryz.underlying112
def ti41:TI:=tA 16 #[.bool false,.slice none 0 0,.bool false,.slice none 0 0,.bool false,.slice none 0 0,.bool false,.slice none 0 0,.bool false,.slice none 0 0,.bool false,.slice none 0 0,.bool false,.slice none 0 0,.bool false,.slice none 0 0] #[(0,16)] #[true]
theorem ok41:TI.Ok Tryz.prog 115 ti41:=qf Tryz.underlying115
def ti42:TI:=tF (.map none) false none none false
theorem ok42:TI.Ok Tryz.prog 116 ti42:=okF Tryz.underlying116
def ti43:TI:=tA 6 #[.string ⟨#[]⟩,.int .u8 0,.bool false,.slice none 0 0,.bool false,.slice none 0 0] #[(0,1),(1,1),(2,4)] #[false,false,true]
theorem ok43:TI.Ok Tryz.prog 127 ti43:=qf Tryz.underlying127
def ti44:TI:=tF (.slice none 0 0) false (some (131,1)) none false
theorem ok44:TI.Ok Tryz.prog 128 ti44:=okF Tryz.underlying128
def ti45:TI:=tA 1 #[.slice none 0 0] #[(0,1)] #[false]
theorem ok45:TI.Ok Tryz.prog 130 ti45:=qf Tryz.underlying130
def ti46:TI:=tF (.slice none 0 0) false (some (55,4)) none false
theorem ok46:TI.Ok Tryz.prog 131 ti46:=okF Tryz.underlying131
def ti47:TI:=tF (.slice none 0 0) false (some (136,6)) none false
theorem ok47:TI.Ok Tryz.prog 133 ti47:=okF Tryz.underlying133
def ti48:TI:=tA 6 #[.int .i64 0,.int .i64 0,.bool false,.slice none 0 0,.bool false,.slice none 0 0] #[(0,1),(1,1),(2,4)] #[false,false,true]
theorem ok48:TI.Ok Tryz.prog 136 ti48:=qf Tryz.underlying136
def ti49:TI:=tF (.slice none 0 0) false (some (139,9)) none false
theorem ok49:TI.Ok Tryz.prog 137 ti49:=okF Tryz.underlying137
def ti50:TI:=tA 9 #[.int .u8 0,.bool false,.slice none 0 0,.bool false,.slice none 0 0,.bool false,.slice none 0 0,.bool false,.slice none 0 0] #[(0,1),(1,4),(5,4)] #[false,true,true]
theorem ok50:TI.Ok Tryz.prog 139 ti50:=qf Tryz.underlying139
def ti51:TI:=tF (.slice none 0 0) false (some (57,16)) none false
theorem ok51:TI.Ok Tryz.prog 144 ti51:=okF Tryz.underlying144
def ti52:TI:=tA 8 #[.bool false,.slice none 0 0,.bool false,.slice none 0 0,.bool false,.slice none 0 0,.bool false,.slice none 0 0] #[(0,4),(4,4)] #[true,true]
theorem ok52:TI.Ok Tryz.prog 148 ti52:=qf Tryz.underlying148
def ti53:TI:=tF (.slice none 0 0) false (some (208,6)) none false
theorem ok53:TI.Ok Tryz.prog 149 ti53:=okF Tryz.underlying149
def ti54:TI:=tF (.slice none 0 0) false (some (160,6)) none false
theorem ok54:TI.Ok Tryz.prog 150 ti54:=okF Tryz.underlying150
def ti55:TI:=tF (.slice none 0 0) false (some (248,10)) none false
theorem ok55:TI.Ok Tryz.prog 151 ti55:=okF Tryz.underlying151
def ti56:TI:=tF (.slice none 0 0) false (some (211,9)) none false
theorem ok56:TI.Ok Tryz.prog 152 ti56:=okF Tryz.underlying152
def ti57:TI:=tF (.slice none 0 0) false (some (213,5)) none false
theorem ok57:TI.Ok Tryz.prog 153 ti57:=okF Tryz.underlying153
def ti58:TI:=tA 6 #[.int .i64 0,.slice none 0 0,.slice none 0 0,.slice none 0 0,.slice none 0 0,.slice none 0 0] #[(0,1),(1,1),(2,1),(3,1),(4,1),(5,1)] #[false,false,false,false,false,false]
theorem ok58:TI.Ok Tryz.prog 155 ti58:=qf Tryz.underlying155
def ti59:TI:=tA 6 #[.string ⟨#[]⟩,.string ⟨#[]⟩,.bool false,.slice none 0 0,.bool false,.slice none 0 0] #[(0,1),(1,1),(2,4)] #[false,false,true]
theorem ok59:TI.Ok Tryz.prog 160 ti59:=qf Tryz.underlying160
def ti60:TI:=tF (.slice none 0 0) false (some (177,6)) none false
theorem ok60:TI.Ok Tryz.prog 171 ti60:=okF Tryz.underlying171
def ti61:TI:=tA 1 #[.slice none 0 0] #[(0,1)] #[false]
theorem ok61:TI.Ok Tryz.prog 173 ti61:=qf Tryz.underlying173
def ti62:TI:=tA 1 #[.slice none 0 0] #[(0,1)] #[true]
theorem ok62:TI.Ok Tryz.prog 175 ti62:=qf Tryz.underlying175
def ti63:TI:=tA 6 #[.int .i64 0,.int .i64 0,.bool false,.slice none 0 0,.bool false,.slice none 0 0] #[(0,1),(1,1),(2,4)] #[false,false,true]
theorem ok63:TI.Ok Tryz.prog 177 ti63:=qf Tryz.underlying177
def ti64:TI:=tF (.int .u64 0) false none (some .u64) false
theorem ok64:TI.Ok Tryz.prog 188 ti64:=okF Tryz.underlying188
def ti65:TI:=tF (.int .u32 0) false none (some .u32) false
theorem ok65:TI.Ok Tryz.prog 191 ti65:=okF Tryz.underlying191
def ti66:TI:=tF (.int .u64 0) false none (some .u64) false
theorem ok66:TI.Ok Tryz.prog 192 ti66:=okF Tryz.underlying192
def ti67:TI:=tF (.slice none 0 0) false (some (47,16)) none false
theorem ok67:TI.Ok Tryz.prog 206 ti67:=okF Tryz.underlying206
def ti68:TI:=tA 6 #[.string ⟨#[]⟩,.string ⟨#[]⟩,.bool false,.slice none 0 0,.bool false,.slice none 0 0] #[(0,1),(1,1),(2,4)] #[false,false,true]
theorem ok68:TI.Ok Tryz.prog 208 ti68:=qf Tryz.underlying208
def ti69:TI:=tA 9 #[.string ⟨#[]⟩,.bool false,.slice none 0 0,.bool false,.slice none 0 0,.bool false,.slice none 0 0,.bool false,.slice none 0 0] #[(0,1),(1,4),(5,4)] #[false,true,true]
theorem ok69:TI.Ok Tryz.prog 211 ti69:=qf Tryz.underlying211
def ti70:TI:=tA 5 #[.string ⟨#[]⟩,.bool false,.slice none 0 0,.bool false,.slice none 0 0] #[(0,1),(1,4)] #[false,true]
theorem ok70:TI.Ok Tryz.prog 213 ti70:=qf Tryz.underlying213
def ti71:TI:=tA 2 #[.bool false,.slice none 0 0] #[(0,2)] #[true]
theorem ok71:TI.Ok Tryz.prog 222 ti71:=qf Tryz.underlying222
def ti72:TI:=tF (.pointer none) false none none true
theorem ok72:TI.Ok Tryz.prog 226 ti72:=okF Tryz.underlying226
def ti73:TI:=tA 4 #[.bool false,.slice none 0 0,.bool false,.slice none 0 0] #[(0,4)] #[true]
theorem ok73:TI.Ok Tryz.prog 237 ti73:=qf Tryz.underlying237
def ti74:TI:=tF (.slice none 0 0) false (some (5,1)) none false
theorem ok74:TI.Ok Tryz.prog 243 ti74:=okF Tryz.underlying243
def ti75:TI:=tA 10 #[.bool false,.string ⟨#[]⟩,.int .u8 0,.string ⟨#[]⟩,.string ⟨#[]⟩,.string ⟨#[]⟩,.bool false,.slice none 0 0,.bool false,.slice none 0 0] #[(0,1),(1,1),(2,1),(3,1),(4,1),(5,1),(6,4)] #[false,false,false,false,false,false,true]
theorem ok75:TI.Ok Tryz.prog 248 ti75:=qf Tryz.underlying248
def ti76:TI:=tF (.slice none 0 0) false (some (3,1)) none false
theorem ok76:TI.Ok Tryz.prog 272 ti76:=okF Tryz.underlying272
def ti77:TI:=tF (.slice none 0 0) false (some (30,1)) none false
theorem ok77:TI.Ok Tryz.prog 289 ti77:=okF Tryz.underlying289
def ti78:TI:=tF (.pointer none) false none none true
theorem ok78:TI.Ok Tryz.prog 305 ti78:=okF Tryz.underlying305
def ti79:TI:=tF (.pointer none) false none none true
theorem ok79:TI.Ok Tryz.prog 313 ti79:=okF Tryz.underlying313
def ti80:TI:=tF (.pointer none) false none none true
theorem ok80:TI.Ok Tryz.prog 332 ti80:=okF Tryz.underlying332
def ti81:TI:=tF (.slice none 0 0) false (some (4,1)) none false
theorem ok81:TI.Ok Tryz.prog 345 ti81:=okF Tryz.underlying345
def table (t:TypeId):Option TI:=
 bif Nat.beq t 2 then some ti0 else
 bif Nat.beq t 3 then some ti1 else
 bif Nat.beq t 4 then some ti2 else
 bif Nat.beq t 5 then some ti3 else
 bif Nat.beq t 9 then some ti4 else
 bif Nat.beq t 12 then some ti5 else
 bif Nat.beq t 22 then some ti6 else
 bif Nat.beq t 23 then some ti7 else
 bif Nat.beq t 26 then some ti8 else
 bif Nat.beq t 27 then some ti9 else
 bif Nat.beq t 30 then some ti10 else
 bif Nat.beq t 32 then some ti11 else
 bif Nat.beq t 34 then some ti12 else
 bif Nat.beq t 36 then some ti13 else
 bif Nat.beq t 38 then some ti14 else
 bif Nat.beq t 39 then some ti15 else
 bif Nat.beq t 41 then some ti16 else
 bif Nat.beq t 44 then some ti17 else
 bif Nat.beq t 47 then some ti18 else
 bif Nat.beq t 49 then some ti19 else
 bif Nat.beq t 53 then some ti20 else
 bif Nat.beq t 55 then some ti21 else
 bif Nat.beq t 57 then some ti22 else
 bif Nat.beq t 59 then some ti23 else
 bif Nat.beq t 62 then some ti24 else
 bif Nat.beq t 64 then some ti25 else
 bif Nat.beq t 66 then some ti26 else
 bif Nat.beq t 69 then some ti27 else
 bif Nat.beq t 72 then some ti28 else
 bif Nat.beq t 81 then some ti29 else
 bif Nat.beq t 83 then some ti30 else
 bif Nat.beq t 84 then some ti31 else
 bif Nat.beq t 85 then some ti32 else
 bif Nat.beq t 87 then some ti33 else
 bif Nat.beq t 94 then some ti34 else
 bif Nat.beq t 95 then some ti35 else
 bif Nat.beq t 97 then some ti36 else
 bif Nat.beq t 99 then some ti37 else
 bif Nat.beq t 101 then some ti38 else
 bif Nat.beq t 108 then some ti39 else
 bif Nat.beq t 112 then some ti40 else
 bif Nat.beq t 115 then some ti41 else
 bif Nat.beq t 116 then some ti42 else
 bif Nat.beq t 127 then some ti43 else
 bif Nat.beq t 128 then some ti44 else
 bif Nat.beq t 130 then some ti45 else
 bif Nat.beq t 131 then some ti46 else
 bif Nat.beq t 133 then some ti47 else
 bif Nat.beq t 136 then some ti48 else
 bif Nat.beq t 137 then some ti49 else
 bif Nat.beq t 139 then some ti50 else
 bif Nat.beq t 144 then some ti51 else
 bif Nat.beq t 148 then some ti52 else
 bif Nat.beq t 149 then some ti53 else
 bif Nat.beq t 150 then some ti54 else
 bif Nat.beq t 151 then some ti55 else
 bif Nat.beq t 152 then some ti56 else
 bif Nat.beq t 153 then some ti57 else
 bif Nat.beq t 155 then some ti58 else
 bif Nat.beq t 160 then some ti59 else
 bif Nat.beq t 171 then some ti60 else
 bif Nat.beq t 173 then some ti61 else
 bif Nat.beq t 175 then some ti62 else
 bif Nat.beq t 177 then some ti63 else
 bif Nat.beq t 188 then some ti64 else
 bif Nat.beq t 191 then some ti65 else
 bif Nat.beq t 192 then some ti66 else
 bif Nat.beq t 206 then some ti67 else
 bif Nat.beq t 208 then some ti68 else
 bif Nat.beq t 211 then some ti69 else
 bif Nat.beq t 213 then some ti70 else
 bif Nat.beq t 222 then some ti71 else
 bif Nat.beq t 226 then some ti72 else
 bif Nat.beq t 237 then some ti73 else
 bif Nat.beq t 243 then some ti74 else
 bif Nat.beq t 248 then some ti75 else
 bif Nat.beq t 272 then some ti76 else
 bif Nat.beq t 289 then some ti77 else
 bif Nat.beq t 305 then some ti78 else
 bif Nat.beq t 313 then some ti79 else
 bif Nat.beq t 332 then some ti80 else
 bif Nat.beq t 345 then some ti81 else none
theorem jb:∀ t i,table t=some i->TI.Ok Tryz.prog t i:=λt i=>tb ok0 (tb ok1 (tb ok2 (tb ok3 (tb ok4 (tb ok5 (tb ok6 (tb ok7 (tb ok8 (tb ok9 (tb ok10 (tb ok11 (tb ok12 (tb ok13 (tb ok14 (tb ok15 (tb ok16 (tb ok17 (tb ok18 (tb ok19 (tb ok20 (tb ok21 (tb ok22 (tb ok23 (tb ok24 (tb ok25 (tb ok26 (tb ok27 (tb ok28 (tb ok29 (tb ok30 (tb ok31 (tb ok32 (tb ok33 (tb ok34 (tb ok35 (tb ok36 (tb ok37 (tb ok38 (tb ok39 (tb ok40 (tb ok41 (tb ok42 (tb ok43 (tb ok44 (tb ok45 (tb ok46 (tb ok47 (tb ok48 (tb ok49 (tb ok50 (tb ok51 (tb ok52 (tb ok53 (tb ok54 (tb ok55 (tb ok56 (tb ok57 (tb ok58 (tb ok59 (tb ok60 (tb ok61 (tb ok62 (tb ok63 (tb ok64 (tb ok65 (tb ok66 (tb ok67 (tb ok68 (tb ok69 (tb ok70 (tb ok71 (tb ok72 (tb ok73 (tb ok74 (tb ok75 (tb ok76 (tb ok77 (tb ok78 (tb ok79 (tb ok80 (tb ok81 (λh=>by cases h))))))))))))))))))))))))))))))))))))))))))))))))))))))))))))))))))))))))))))))))))
abbrev UU:TypeId:=191
abbrev aM (P:Program) (w:World) (N:Nat):Cx:={ P:=P,w0:=w,N:=N,K:=KU UU,SU:=λt=>Nat.beq t 30,ti:=table,keep:=λ_ _=>trivial }
abbrev KI:KC:=⟨UU,λ_=>True,λt=>Nat.beq t 3⟩
abbrev Ez (P:Program) (w:World) (N:Nat):Cx:={ P:=P,w0:=w,N:=N,K:=KI,SU:=λt=>Nat.beq t 30 || Nat.beq t 272,ti:=table,keep:=λ_ _=>trivial }
theorem mi (w:World) (N:Nat):(Ez Tryz.prog w N).Ok:=jb
theorem jz (w:World) (N:Nat):(Ez Tryz.prog w N).P.follows .mixedOrders=true:=by show Tryz.prog.follows .mixedOrders=true;kernel_rfl
abbrev Lr (P:Program) (w:World) (N:Nat) (ad:List Nat) (hd:ad.Nodup) (ha:ja (KU UU) ad w):Cx:=tV P w N (KU UU) (λt=>Nat.beq t 30) table (λ_ _=>trivial) ad hd ha
theorem EA (w:World) (N:Nat) {ad:List Nat} {hd:ad.Nodup} {ha:ja (KU UU) ad w}:(Lr Tryz.prog w N ad hd ha).Ok:=jb
theorem ID (w:World) (N:Nat) {ad:List Nat} {hd:ad.Nodup} {ha:ja (KU UU) ad w}:(Lr Tryz.prog w N ad hd ha).P.follows .mixedOrders=true:=by show Tryz.prog.follows .mixedOrders=true;kernel_rfl
theorem cH (w:World) (N:Nat):(aM Tryz.prog w N).Ok:=jb
theorem nX (w:World) (N:Nat):(aM Tryz.prog w N).P.follows .mixedOrders=true:=by show Tryz.prog.follows .mixedOrders=true;kernel_rfl
section
variable {C:Cx} {m:Option (List FuncId)} {full:Array Oper} {K:Fr->Hp->World->Prop} {F F':Fr} {H H':Hp} {w w1:World} {N:Nat} {o:Oper} {r l l':List Oper} {Q:Exit->Act->World->Prop} {k k':List It} {v:AV} {u:Option (Nat×(TypeId×List AV))} {id:Nat} {ops:Array Oper}
theorem wN (h:K F H w):ao C m full [] K F H w:=VO.nil h
theorem wV (e:kO C full 80 l F H=(l',F',H')) (h:ao C m full l' K F' H' w):ao C m full l K F H w:=VO.run 80 e h
theorem wO (e:stepOf C full F H o=.dY v u) (e':kO C full 80 r (F.bP o.dst v) (H.upd u)=(l',F',H')) (h:ao C m full l' K F' H' w):ao C m full (o::r) K F H w:=VO.op1 e (VO.run 80 e' h)
theorem wQ {x y:Code} (h:VS C Q (.code x::.code y::k) F H w):VS C Q (.code (.seq x y)::k) F H w:=VS.seq h
theorem IE (e:kO (aM Tryz.prog w1 N) ops 80 ops.toList F H=(l',F',H')) (h:ao (aM Tryz.prog w1 N) none ops l' (VS (aM Tryz.prog w1 N) Q k) F' H' w):VS (aM Tryz.prog w1 N) Q (.code (.region id ops false)::k) F H w:=VS.region (cH _ _) (VO.run 80 e h)
theorem cx_d (e:kO (aM Tryz.prog w1 N) ops 80 ops.toList F H=(l',F',H')) (h:ao (aM Tryz.prog w1 N) (some []) ops l' (VS (aM Tryz.prog w1 N) Q k) F' H' w) (nh:kM (aM Tryz.prog w1 N).SU [] ops=true:=by kernel_rfl):VS (aM Tryz.prog w1 N) Q (.code (.region id ops true)::k) F H w:=VS.draw (cH _ _) (nX _ _) [] nh (VO.run 80 e h)
theorem yq (e:kO (Ez Tryz.prog w1 N) ops 80 ops.toList F H=(l',F',H')) (h:ao (Ez Tryz.prog w1 N) none ops l' (VS (Ez Tryz.prog w1 N) Q k) F' H' w):VS (Ez Tryz.prog w1 N) Q (.code (.region id ops false)::k) F H w:=VS.region (mi _ _) (VO.run 80 e h)
theorem cxI_d (e:kO (Ez Tryz.prog w1 N) ops 80 ops.toList F H=(l',F',H')) (h:ao (Ez Tryz.prog w1 N) (some []) ops l' (VS (Ez Tryz.prog w1 N) Q k) F' H' w) (nh:kM (Ez Tryz.prog w1 N).SU [] ops=true:=by kernel_rfl):VS (Ez Tryz.prog w1 N) Q (.code (.region id ops true)::k) F H w:=VS.draw (mi _ _) (jz _ _) [] nh (VO.run 80 e h)
theorem cxA_r {ad:List Nat} {hd:ad.Nodup} {ha:ja (KU UU) ad w1} (e:kO (Lr Tryz.prog w1 N ad hd ha) ops 80 ops.toList F H=(l',F',H')) (h:ao (Lr Tryz.prog w1 N ad hd ha) none ops l' (VS (Lr Tryz.prog w1 N ad hd ha) Q k) F' H' w):VS (Lr Tryz.prog w1 N ad hd ha) Q (.code (.region id ops false)::k) F H w:=VS.region (EA _ _) (VO.run 80 e h)
theorem cxA_d {ad:List Nat} {hd:ad.Nodup} {ha:ja (KU UU) ad w1} (e:kO (Lr Tryz.prog w1 N ad hd ha) ops 80 ops.toList F H=(l',F',H')) (h:ao (Lr Tryz.prog w1 N ad hd ha) (some []) ops l' (VS (Lr Tryz.prog w1 N ad hd ha) Q k) F' H' w) (nh:kM (Lr Tryz.prog w1 N ad hd ha).SU [] ops=true:=by kernel_rfl):VS (Lr Tryz.prog w1 N ad hd ha) Q (.code (.region id ops true)::k) F H w:=VS.draw (EA _ _) (ID _ _) [] nh (VO.run 80 e h)
def peel (F:Fr):List It->Option (List It)
 | .code (.seq x y)::k=>some (.code x::.code y::k)
 | .code (.block id c)::k=>some (.code c::.oO id::k)
 | .oO _::k=>some k
 | .code .skip::k=>some k
 | .code (.exit id)::k=>pop id k
 | .code (.cond c x y)::k=>(match jk F c with
   | some (.bool true)=>some (.code x::k)
   | some (.bool false)=>some (.code y::k)
   | _=>none)
 | _=>none
theorem wP (e:peel F k=some k') (h:VS C Q k' F H w):VS C Q k F H w:=by
 unfold peel at e
 split at e
 ·cases e;exact VS.seq h
 ·cases e;exact VS.block h
 ·cases e;exact VS.oO h
 ·cases e;exact VS.skip h
 ·exact VS.exit e h
 ·split at e
  ·rename_i hc;cases e;exact VS.condT hc h
  ·rename_i hc;cases e;exact VS.condF hc h
  ·cases e
 ·cases e
theorem fk {P:Program} {g:FuncId} {fn:Func} (h:P.funcs[g]? =some fn) (h1:(fn.name == "runtime.NumGoroutine")=false:=by kernel_rfl) (h2:fn.body.isNone=false:=by kernel_rfl):jK P g:=⟨fn,h,h1,h2⟩
theorem kU (w:World):aV (KU UU) w w:=aV.refl _ _
theorem kR {k:KC} (w:World):aV k w w:=aV.refl _ _
theorem kT {k:KC} {a b c:World} (h:aV k a b) (h':aV k b c):aV k a c:=h.aA h'
end
end
section
open Go.RowKit
theorem jR (neg:Bool) (p:Option Addr) (n c:Nat) (w:World):
  Calls Tryz.prog 92 #[.bool neg,.slice p n c] w λe w'=>e=.returned (.agg #[.bool (neg && decide (0<n)),.slice p n c])/\aw w w':=by
 refine aI λR' bI=> ?_
 go_enter Tryz.func92,Tryz.ntmps92
 cases neg
 ·go_wp2
  exact bodyPost_ret (v:=.agg #[.bool false,.slice p n c]) (by simp[results,Tryz.results92,go_sem]) rfl (bI.out _ _ ⟨rfl,(aw.refl w).alloc _⟩)
 ·go_wp2
  exact bodyPost_ret (v:=.agg #[.bool (decide (0<n)),.slice p n c]) (by simp[results,Tryz.results92,go_sem]) rfl (bI.out _ _ ⟨rfl,(aw.refl w).alloc _⟩)
theorem eU (neg:Bool) (p:Option Addr) (n c:Nat) (w:World):
  Calls Tryz.prog 92 #[.bool neg,.slice p n c] w λe w'=>∃ sg,e=.returned (.agg #[.bool sg,.slice p n c])/\Hid (sg=(neg && decide (0<n)))/\aw w w':=
 (jR neg p n c w).mono λ_ _ ⟨h,hb⟩=>⟨_,h,Lib.hid rfl,hb⟩
theorem qg (neg:Bool) (xs:List Nat) (v:Value) (w:World) (h:eQ w v neg xs):
  Calls Tryz.prog 150 #[v] w λe w'=>e=.returned (.bool (df neg xs))/\aw w w':=by
 obtain⟨p,c,rfl,hr,hl⟩:=h
 obtain⟨p',c',hv,dL,eH,-⟩:=hr.u32
 simp only[Value.slice.injEq,true_and] at hv
 obtain⟨rfl,rfl⟩:=hv
 refine aI λR' bI=> ?_
 by_cases hx:xs=[]
 ·subst hx
  simp only[List.length_nil,pP] at*
  go_enter Tryz.func150,Tryz.ntmps150
  cases neg
  ·go_wp2
   exact bI.out _ _ ⟨rfl,(aw.refl w).alloc _⟩
  ·go_wp2
   exact bI.out _ _ ⟨rfl,(aw.refl w).alloc _⟩
 ·obtain⟨m,hm⟩:∃ m,xs.length=m+1:=⟨xs.length-1,by have:=List.length_pos_iff.2 hx;omega⟩
  generalize hn:xs.length=n at*
  obtain⟨b,off,x,rfl,hb,hxm,hc⟩:=hr.cellAt (k:=m) ab
  have h1:df neg xs=decide (x≠0):=sZ (by rw[hn,hm];exact hxm)
  rw[h1] at bI
  have hz:((n:Int) == 0)=false:=by rw[beq_eq_false_iff_ne];omega
  have hp:(0:Int)<(n:Int):=by omega
  have hw:IntKind.i64.wrap ((n:Int)-1)=(m:Int):=by rw[IntWalk.i64_in _ ab];omega
  have hlt:(m:Int)<(n:Int):=by omega
  have HN:=Lib.hid hn
  have hpn:0<n:=by omega
  clear hx hm hn h1 hxm hr hl
  go_enter Tryz.func150,Tryz.ntmps150
  by_cases oL:x=0
  ·subst oL
   cases neg
   ·go_wp2
    exact bI.out _ _ ⟨rfl,(aw.refl w).alloc _⟩
   ·go_wp2
    exact bI.out _ _ ⟨rfl,(aw.refl w).alloc _⟩
  ·have yr:((x:Int) != 0)=true:=by rw[bne_iff_ne];omega
   rw[decide_eq_true oL] at bI
   clear oL
   cases neg
   ·go_wp2
    exact bI.out _ _ ⟨rfl,(aw.refl w).alloc _⟩
   ·go_wp2
    exact bI.out _ _ ⟨rfl,(aw.refl w).alloc _⟩
theorem eM (v:Value) (X:Int) (k:Nat) (w0 w:World) (h:bt w0 v X k) (mX:aw w0 w):
  Calls Tryz.prog 140 #[v] w λe w'=>∃ u,e=.returned u/\bH w0 u X/\aw w w':=by
 obtain⟨neg,xs,hn,rfl,hk⟩:=h
 refine aI λR' bI=> ?_
 have HN:=Lib.hid hn
 obtain⟨p,c,rfl,hr,hl⟩:=hn
 clear hr
 go_enter Tryz.func140,Tryz.ntmps140
 go_wp2_with fail
 refine (qg neg xs _ _ ((HN.out.bq mX).bq (((aw.refl w).alloc _).alloc _))).mono ?_
 rintro e w1 ⟨rfl,aD⟩
 obtain⟨b1,b2,kY⟩:=kI w 32 222 #[.bool neg,.slice p xs.length c] #[.bool false,.slice none 0 0]
 obtain⟨c1,c2,_,_⟩:=(b1.bq aD).two
 obtain⟨c3,c4,f3,f4⟩:=(b2.bq aD).two
 have zy:aw w w1:=kY.aA aD
 cases hnr:df neg xs
 ·have B2:=(b2.bq aD).bK (.bool false) (.slice none 0 0)
  have sY:=zy.bK (b:=w.heap.size+1) ab (.bool false) (.slice none 0 0)
  go_wp2
  generalize (w1.setCell ⟨w.heap.size+1,0,none⟩ (.bool false)).setCell ⟨w.heap.size+1,1,none⟩ (.slice none 0 0)=w2 at*
  obtain⟨d1,d2,_,_⟩:=B2.two
  refine bodyPost_ret (v:=.agg #[.bool false,.slice none 0 0]) (by simp[results,Tryz.results140,go_sem,d1,d2]) rfl (bI.out _ _ ⟨_,rfl,?_,sY⟩)
  rw[numOf,if_neg (by simp[hnr])]
  exact bH.zero _
 ·have B2:=(b2.bq aD).bK (.bool neg) (.slice p xs.length c)
  have sY:=zy.bK (b:=w.heap.size+1) ab (.bool neg) (.slice p xs.length c)
  go_wp2
  generalize (w1.setCell ⟨w.heap.size+1,0,none⟩ (.bool neg)).setCell ⟨w.heap.size+1,1,none⟩ (.slice p xs.length c)=w2 at*
  obtain⟨d1,d2,_,_⟩:=B2.two
  refine bodyPost_ret (v:=.agg #[.bool neg,.slice p xs.length c]) (by simp[results,Tryz.results140,go_sem,d1,d2]) rfl (bI.out _ _ ⟨_,rfl,?_,sY⟩)
  rw[numOf,if_pos hnr]
  obtain⟨h1,h2⟩:=canon hl hnr
  have:=HN.out
  show eQ _ _ _ _
  rw[<-h1,<-h2]
  exact this
end
section
open Go.RowKit
theorem bH.split {w:World} {v:Value} {X:Int} (h:bH w v X):∃ s p c,v=.agg #[.bool s,.slice p (limbs X.natAbs).length c]/\Rd w 1 (.slice p (limbs X.natAbs).length c) (limbs X.natAbs).length (ints .u32 (limbs X.natAbs))/\X=if s=true then-(X.natAbs:Int) else (X.natAbs:Int):=by
 obtain⟨p,c,hv,hr,_⟩:=h
 refine⟨_,p,c,hv,hr,?_⟩
 split
 ·rename_i h;have:=of_decide_eq_true h;omega
 ·rename_i h;have:¬ X<0:=λh'=>h (decide_eq_true h');omega
theorem vH (v:Value) (X:Int) (w:World) (h:bH w v X):
  Calls Tryz.prog 151 #[v] w λe w'=>∃ u,e=.returned u/\bH w' u (-X)/\aw w w':=by
 obtain⟨s,p,c,rfl,hr,hX⟩:=h.split
 obtain⟨n,hn⟩:∃ n,n=(limbs X.natAbs).length:=⟨_,rfl⟩
 have HR:=Lib.hid hr
 have HN:=Lib.hid hn
 have HX:=Lib.hid hX
 rw[<-hn]
 clear hr hn hX h
 refine aI λR' bI=> ?_
 obtain⟨b1,b2,kY⟩:=kI w 222 222 #[.bool s,.slice p n c] #[.bool false,.slice none 0 0]
 go_enter Tryz.func151,Tryz.ntmps151
 go_wp2_with fail
 refine (jR _ _ _ _ _).mono ?_
 rintro e w1 ⟨rfl,aD⟩
 obtain⟨c3,c4,f3,f4⟩:=(b2.bq aD).two
 have B2:=(b2.bq aD).bK (.bool (!s && decide (0<n))) (.slice p n c)
 have sY:=(kY.aA aD).bK (b:=w.heap.size+1) ab (.bool (!s && decide (0<n))) (.slice p n c)
 go_wp2
 generalize (w1.setCell ⟨w.heap.size+1,0,none⟩ (.bool (!s && decide (0<n)))).setCell ⟨w.heap.size+1,1,none⟩ (.slice p n c)=w2 at*
 obtain⟨d1,d2,_,_⟩:=B2.two
 refine bodyPost_ret (v:=.agg #[.bool (!s && decide (0<n)),.slice p n c]) (by simp[results,Tryz.results151,go_sem,d1,d2]) rfl (bI.out _ _ ⟨_,rfl,?_,sY⟩)
 have ll:=HR.out.below sY
 rw[<-HN.out] at ll
 refine bH.of (m:=X.natAbs) (by rw[<-HN.out];exact ll) HN.out _ ?_
 rw[HX.out]
 cases s <;> simp
theorem Ck (v u:Value) (X Y:Int) (w:World) (hv:bH w v X) (hu:bH w u Y) (hx:(limbs X.natAbs).length<=1073741824) (hy:(limbs Y.natAbs).length<=1073741824):
  Calls Tryz.prog 148 #[v,u] w λe w'=>∃ r,e=.returned r/\aj w' w.heap.size r (X+Y)/\aw w w':=by
 obtain⟨s,p,c,rfl,kW,hX⟩:=hv.split
 obtain⟨t,q,d,rfl,ll,hY⟩:=hu.split
 obtain⟨n,hn⟩:∃ n,n=(limbs X.natAbs).length:=⟨_,rfl⟩
 obtain⟨m,hm⟩:∃ m,m=(limbs Y.natAbs).length:=⟨_,rfl⟩
 rw[<-hn] at kW hx ⊢
 rw[<-hm] at ll hy ⊢
 clear hv hu
 refine aI λR' bI=> ?_
 obtain⟨b1,b2,b3,kY⟩:=lW w 222 222 32 #[.bool s,.slice p n c] #[.bool t,.slice q m d] #[.bool false,.slice none 0 0]
 have r10:=Lib.hid kW
 have r20:=Lib.hid ll
 have r1:=Lib.hid (kW.below kY)
 have r2:=Lib.hid (ll.below kY)
 have HX:=Lib.hid hX
 have HY:=Lib.hid hY
 have HN:=Lib.hid hn
 have HM:=Lib.hid hm
 clear kW ll hX hY hn hm
 go_enter Tryz.func148,Tryz.ntmps148
 by_cases hst:s=t
 ·subst hst
  go_wp2_with fail
  generalize ((w.alloc _).alloc _).alloc _=W at*
  obtain⟨c1,c2,_,_⟩:=b1.two
  obtain⟨c3,c4,_,_⟩:=b2.two
  obtain⟨c5,c6,f5,f6⟩:=b3.two
  have HS:=Lib.hid (λw' (h:aq W (w.heap.size+1+1) w')=>And.intro (h.cells b1 ab) (h.cells b2 ab))
  go_region_held3 (λw'=>(w'.cell? ⟨w.heap.size,0,none⟩=some (.bool s)/\w'.cell? ⟨w.heap.size,1,none⟩=some (.slice p n c))/\w'.cell? ⟨w.heap.size+1,0,none⟩=some (.bool s)/\w'.cell? ⟨w.heap.size+1,1,none⟩=some (.slice q m d)) ((refine HS.out _ ?_;(with_reducible (repeat (first|exact aq.refl _ _|refine aq.drew ?_|refine aq.drewN ?_ _|refine aq.alloc ?_ _|refine aq.set ?_ _|refine aq.aA ?_ (by assumption)|refine aq.nK ?_ (by first|omega|(simp;done)|(simp;omega)) _))))) (first
   | (go_at_call 177;refine (FU _ _ n m _ _ _ r1.out.drew r2.out.drew (ak _) (ak _) ab ab).mono ?_;rintro e w1 ⟨v1,rfl,sq,aD⟩;replace aD:aw _ w1:=aD;rw[ah,ah] at sq;obtain⟨p1,k1,rfl,_,_,_⟩:=Own.form sq)
   | (go_at_call 92;refine (jR _ _ _ _ _).mono ?_;rintro e w2 ⟨rfl,aQ⟩;obtain⟨c5',c6',f5',f6'⟩:=((b3.drew.bq aD).bq aQ).two))
  have B3:=((b3.drew.bq aD).bq aQ).bK (.bool (s && decide (0<(limbs (X.natAbs+Y.natAbs)).length))) (.slice p1 (limbs (X.natAbs+Y.natAbs)).length k1)
  have zy:aw w w2:=kY.aA (aw.aA (aw.aA (aw.refl W).drew aD) aQ)
  have JQ:=zy.bK (b:=w.heap.size+1+1) ab (.bool (s && decide (0<(limbs (X.natAbs+Y.natAbs)).length))) (.slice p1 (limbs (X.natAbs+Y.natAbs)).length k1)
  have EB:=Own.below sq aQ
  generalize hL:(limbs (X.natAbs+Y.natAbs)).length=L at*
  have Ks:=Lib.hid (Own.bK (b:=w.heap.size+1+1) EB (b3.drew.bq aD |>.bq aQ) fc (.bool (s && decide (0<L))) (.slice p1 L k1))
  clear EB sq zy
  go_wp2
  generalize (w2.setCell ⟨w.heap.size+1+1,0,none⟩ (.bool (s && decide (0<L)))).setCell ⟨w.heap.size+1+1,1,none⟩ (.slice p1 L k1)=w3 at*
  obtain⟨d1,d2,_,_⟩:=B3.two
  refine bodyPost_ret (v:=.agg #[.bool (s && decide (0<L)),.slice p1 L k1]) (by simp[results,Tryz.results148,go_sem,d1,d2]) rfl (bI.out _ _ ⟨_,rfl,?_,JQ⟩)
  refine aj.of (m:=X.natAbs+Y.natAbs) (by rw[hL];exact Own.mono Ks.out kY.size) hL.symm _ ?_
  rw[HX.out,HY.out]
  cases s <;> simp <;> omega
 ·have hst':(s == t)=false:=by cases s <;> cases t <;> simp_all
  go_wp2_with fail
  generalize ((w.alloc _).alloc _).alloc _=W at*
  refine (zz _ _ n m _ _ _ r1.out r2.out (ak _) (ak _)).mono ?_
  rintro e w1 ⟨rfl,k1,rfl⟩
  rw[ah,ah]
  by_cases hlt:X.natAbs<Y.natAbs
  ·have HLT:=Lib.hid hlt
   have hc:fF X.natAbs Y.natAbs<0:=iR.2 hlt
   generalize fF X.natAbs Y.natAbs=cv at hc ⊢
   obtain⟨c1,c2,f1,f2⟩:=(b1.drewN k1).two
   obtain⟨c3,c4,f3,f4⟩:=(b2.drewN k1).two
   have B1:=((b1.drewN k1).bK (.bool t) (.slice q m d)).dH (b':=w.heap.size+1) ab (.bool s) (.slice p n c)
   have B2:=((b2.drewN k1).dH (b':=w.heap.size) ab (.bool t) (.slice q m d)).bK (.bool s) (.slice p n c)
   have B3:=((b3.drewN k1).dH (b':=w.heap.size) ab (.bool t) (.slice q m d)).dH (b':=w.heap.size+1) ab (.bool s) (.slice p n c)
   have fW:=((kY.drewN k1).bK (b:=w.heap.size) ab (.bool t) (.slice q m d)).bK (b:=w.heap.size+1) ab (.bool s) (.slice p n c)
   clear kY b1 b2 b3 r1 r2 hlt
   go_wp2_with fail
   generalize ((((W.drewN k1).setCell ⟨w.heap.size,0,none⟩ (.bool t)).setCell ⟨w.heap.size,1,none⟩ (.slice q m d)).setCell ⟨w.heap.size+1,0,none⟩ (.bool s)).setCell ⟨w.heap.size+1,1,none⟩ (.slice p n c)=W2 at*
   clear c1 c2 c3 c4 f1 f2 f3 f4
   refine (zN _ _ m n _ _ _ (r20.out.below fW) (r10.out.below fW) (ak _) (ak _) ab).mono ?_
   rintro e w2 ⟨⟨h,_⟩|⟨_,v2,rfl,Gr⟩,aQ⟩
   ·rw[ah,ah] at h;exact absurd h (by have:=HLT.out;omega)
   replace aQ:aw _ w2:=aQ
   rw[ah,ah] at Gr
   obtain⟨p2,k2,rfl,_,_,_⟩:=Own.form Gr
   obtain⟨e1,e2,_,_⟩:=(B1.bq aQ).two
   have E3:=B3.bq aQ
   have hbw2:=fW.aA aQ
   generalize hL:(limbs (Y.natAbs-X.natAbs)).length=L at*
   have mZ:=Lib.hid (Own.mono Gr fW.size)
   have HL:=Lib.hid hL
   clear Gr hL B1 B2 B3 fW aQ
   go_wp2_with fail
   refine (jR _ _ _ _ _).mono ?_
   rintro e w3 ⟨rfl,ck⟩
   have F3:=E3.bq ck
   obtain⟨e5,e6,g5,g6⟩:=F3.two
   have Ks:=Lib.hid (Own.bK (b:=w.heap.size+1+1) (Own.below mZ.out ck) F3 fc (.bool (t && decide (0<L))) (.slice p2 L k2))
   have G3:=F3.bK (.bool (t && decide (0<L))) (.slice p2 L k2)
   have JQ:=(hbw2.aA ck).bK (b:=w.heap.size+1+1) ab (.bool (t && decide (0<L))) (.slice p2 L k2)
   clear mZ E3 F3
   go_wp2
   generalize (w3.setCell ⟨w.heap.size+1+1,0,none⟩ (.bool (t && decide (0<L)))).setCell ⟨w.heap.size+1+1,1,none⟩ (.slice p2 L k2)=w4 at*
   obtain⟨d1,d2,_,_⟩:=G3.two
   refine bodyPost_ret (v:=.agg #[.bool (t && decide (0<L)),.slice p2 L k2]) (by simp[results,Tryz.results148,go_sem,d1,d2]) rfl (bI.out _ _ ⟨_,rfl,?_,JQ⟩)
   refine aj.of (m:=Y.natAbs-X.natAbs) (by rw[HL.out];exact Ks.out) HL.out.symm _ ?_
   rw[HX.out,HY.out]
   have:=HLT.out
   cases s <;> cases t <;> simp at hst ⊢ <;> omega
  ·have HLT:=Lib.hid hlt
   have hc:0<=fF X.natAbs Y.natAbs:=by have:=mt (@iR X.natAbs Y.natAbs).1 hlt;omega
   generalize fF X.natAbs Y.natAbs=cv at hc ⊢
   have B1:=b1.drewN k1
   have B2:=b2.drewN k1
   have B3:=b3.drewN k1
   have fW:=kY.drewN k1
   obtain⟨c1,c2,f1,f2⟩:=B1.two
   obtain⟨c3,c4,f3,f4⟩:=B2.two
   clear kY b1 b2 b3 r1 r2 hlt
   go_wp2_with fail
   generalize W.drewN k1=W2 at*
   clear c1 c2 c3 c4 f1 f2 f3 f4
   refine (zN _ _ n m _ _ _ (r10.out.below fW) (r20.out.below fW) (ak _) (ak _) ab).mono ?_
   rintro e w2 ⟨⟨h,_⟩|⟨_,v2,rfl,Gr⟩,aQ⟩
   ·rw[ah,ah] at h;exact absurd h (by have:=HLT.out;omega)
   replace aQ:aw _ w2:=aQ
   rw[ah,ah] at Gr
   obtain⟨p2,k2,rfl,_,_,_⟩:=Own.form Gr
   obtain⟨e1,e2,_,_⟩:=(B1.bq aQ).two
   have E3:=B3.bq aQ
   have hbw2:=fW.aA aQ
   generalize hL:(limbs (X.natAbs-Y.natAbs)).length=L at*
   have mZ:=Lib.hid (Own.mono Gr fW.size)
   have HL:=Lib.hid hL
   clear Gr hL B1 B2 B3 fW aQ
   go_wp2_with fail
   refine (jR _ _ _ _ _).mono ?_
   rintro e w3 ⟨rfl,ck⟩
   have F3:=E3.bq ck
   obtain⟨e5,e6,g5,g6⟩:=F3.two
   have Ks:=Lib.hid (Own.bK (b:=w.heap.size+1+1) (Own.below mZ.out ck) F3 fc (.bool (s && decide (0<L))) (.slice p2 L k2))
   have G3:=F3.bK (.bool (s && decide (0<L))) (.slice p2 L k2)
   have JQ:=(hbw2.aA ck).bK (b:=w.heap.size+1+1) ab (.bool (s && decide (0<L))) (.slice p2 L k2)
   clear mZ E3 F3
   go_wp2
   generalize (w3.setCell ⟨w.heap.size+1+1,0,none⟩ (.bool (s && decide (0<L)))).setCell ⟨w.heap.size+1+1,1,none⟩ (.slice p2 L k2)=w4 at*
   obtain⟨d1,d2,_,_⟩:=G3.two
   refine bodyPost_ret (v:=.agg #[.bool (s && decide (0<L)),.slice p2 L k2]) (by simp[results,Tryz.results148,go_sem,d1,d2]) rfl (bI.out _ _ ⟨_,rfl,?_,JQ⟩)
   refine aj.of (m:=X.natAbs-Y.natAbs) (by rw[HL.out];exact Ks.out) HL.out.symm _ ?_
   rw[HX.out,HY.out]
   have:=HLT.out
   cases s <;> cases t <;> simp at hst ⊢ <;> omega
end
section
open Go.RowKit
theorem gh {w w':World} (h:aw w w':=by (with_reducible (repeat (first|assumption|exact aw.refl _|refine aw.drew ?_|refine aw.drewN ?_ _|refine aw.alloc ?_ _|refine aw.aA ?_ (by assumption)|refine aw.setCell ?_ (by first|omega|(simp;done)|(simp;omega)) _)))):aw w w':=h
theorem vI (v u:Value) (X Y:Int) (j k:Nat) (w:World) (hv:bt w v X j) (hu:bt w u Y k) (hj:j<=1073741824) (hk:k<=1073741824):
  Calls Tryz.prog 95 #[v,u] w λe w'=>∃ r,e=.returned r/\aj w' w.heap.size r (X+Y)/\aw w w':=by
 obtain⟨s,p,n,c,rfl⟩:=hv.form
 obtain⟨t,q,m,d,rfl⟩:=hu.form
 refine aI λR' bI=> ?_
 obtain⟨b1,b2,b3,kY⟩:=lW w 32 32 32 #[.bool s,.slice p n c] #[.bool t,.slice q m d] #[.bool false,.slice none 0 0]
 have qq:=hv.len
 have nd:=hu.len
 have HV:=Lib.hid hv
 have HU:=Lib.hid hu
 have hsz:w.heap.size+3<=(((w.alloc (.cells #[.bool s,.slice p n c] 32)).alloc (.cells #[.bool t,.slice q m d] 32)).alloc (.cells #[.bool false,.slice none 0 0] 32)).heap.size:=by simp
 clear hv hu
 go_enter Tryz.func95,Tryz.ntmps95
 go_wp2_with fail
 generalize ((w.alloc _).alloc _).alloc _=W at*
 have HS:=Lib.hid (λw' (h:aq W (w.heap.size+1+1) w')=>And.intro (h.cells b1 ab) (h.cells b2 ab))
 obtain⟨c1,c2,_,_⟩:=b1.two
 obtain⟨c3,c4,_,_⟩:=b2.two
 obtain⟨c5,c6,f5,f6⟩:=b3.two
 go_region_held3 (λw'=>(w'.cell? ⟨w.heap.size,0,none⟩=some (.bool s)/\w'.cell? ⟨w.heap.size,1,none⟩=some (.slice p n c))/\w'.cell? ⟨w.heap.size+1,0,none⟩=some (.bool t)/\w'.cell? ⟨w.heap.size+1,1,none⟩=some (.slice q m d)) ((refine HS.out _ ?_;(with_reducible (repeat (first|exact aq.refl _ _|refine aq.drew ?_|refine aq.drewN ?_ _|refine aq.alloc ?_ _|refine aq.set ?_ _|refine aq.aA ?_ (by assumption)|refine aq.nK ?_ (by first|omega|(simp;done)|(simp;omega)) _))))) (first
  | (go_at_call_of 140 (Value.slice p n c);refine (eM _ X j w _ HV.out gh).mono ?_;rintro e w1 ⟨u1,rfl,Ae,aD⟩)
  | (go_at_call_of 140 (Value.slice q m d);refine (eM _ Y k w _ HU.out gh).mono ?_;rintro e w2 ⟨u2,rfl,yt,aQ⟩)
  | (go_at_call 148;refine (Ck _ _ X Y _ (Ae.bq gh) (yt.bq gh) (Nat.le_trans qq hj) (Nat.le_trans nd hk)).mono ?_;rintro e w3 ⟨r,rfl,az,ck⟩;obtain⟨sg,pp,nn,cc,rfl⟩:=az.form;obtain⟨e5,e6,g5,g6⟩:=(bj.bq (w':=w3) b3 gh).two)
  | fail)
 have FC:=(bj.bq (w':=w3) b3 gh)
 have FB:aw w w3:=gh
 have FZ:aw w w2:=gh
 have HO:=Lib.hid (az.bK FC fc (.bool sg) (.slice pp nn cc))
 clear az
 have Af:=FC.bK (.bool (sg)) (.slice pp (nn) cc)
 have Ag:=aw.bK FB (b:=w.heap.size+1+1) ab (.bool (sg)) (.slice pp (nn) cc)
 go_wp2
 generalize (w3.setCell ⟨w.heap.size+1+1,0,none⟩ (.bool (sg))).setCell ⟨w.heap.size+1+1,1,none⟩ (.slice pp (nn) cc)=wz at*
 obtain⟨Ah,Ai,_,_⟩:=Af.two
 refine bodyPost_ret (v:=.agg #[.bool (sg),.slice pp (nn) cc]) (by simp[results,Tryz.results95,go_sem,Ah,Ai]) rfl (bI.out _ _ ?_)
 exact⟨_,rfl,HO.out.mono FZ.size,Ag⟩
theorem Ls (v u:Value) (X Y:Int) (j k:Nat) (w:World) (hv:bt w v X j) (hu:bt w u Y k) (hj:j<=1073741824) (hk:k<=1073741824):
  Calls Tryz.prog 113 #[v,u] w λe w'=>∃ r,e=.returned r/\aj w' w.heap.size r (X-Y)/\aw w w':=by
 obtain⟨s,p,n,c,rfl⟩:=hv.form
 obtain⟨t,q,m,d,rfl⟩:=hu.form
 refine aI λR' bI=> ?_
 obtain⟨b1,b2,b3,kY⟩:=lW w 32 32 32 #[.bool s,.slice p n c] #[.bool t,.slice q m d] #[.bool false,.slice none 0 0]
 have qq:=hv.len
 have nd:=hu.len
 have HV:=Lib.hid hv
 have HU:=Lib.hid hu
 have hsz:w.heap.size+3<=(((w.alloc (.cells #[.bool s,.slice p n c] 32)).alloc (.cells #[.bool t,.slice q m d] 32)).alloc (.cells #[.bool false,.slice none 0 0] 32)).heap.size:=by simp
 clear hv hu
 go_enter Tryz.func113,Tryz.ntmps113
 go_wp2_with fail
 generalize ((w.alloc _).alloc _).alloc _=W at*
 have HS:=Lib.hid (λw' (h:aq W (w.heap.size+1+1) w')=>And.intro (h.cells b1 ab) (h.cells b2 ab))
 obtain⟨c1,c2,_,_⟩:=b1.two
 obtain⟨c3,c4,_,_⟩:=b2.two
 obtain⟨c5,c6,f5,f6⟩:=b3.two
 go_region_held3 (λw'=>(w'.cell? ⟨w.heap.size,0,none⟩=some (.bool s)/\w'.cell? ⟨w.heap.size,1,none⟩=some (.slice p n c))/\w'.cell? ⟨w.heap.size+1,0,none⟩=some (.bool t)/\w'.cell? ⟨w.heap.size+1,1,none⟩=some (.slice q m d)) ((refine HS.out _ ?_;(with_reducible (repeat (first|exact aq.refl _ _|refine aq.drew ?_|refine aq.drewN ?_ _|refine aq.alloc ?_ _|refine aq.set ?_ _|refine aq.aA ?_ (by assumption)|refine aq.nK ?_ (by first|omega|(simp;done)|(simp;omega)) _))))) (first
  | (go_at_call_of 140 (Value.slice p n c);refine (eM _ X j w _ HV.out gh).mono ?_;rintro e w1 ⟨u1,rfl,Ae,aD⟩)
  | (go_at_call_of 140 (Value.slice q m d);refine (eM _ Y k w _ HU.out gh).mono ?_;rintro e w2 ⟨u2,rfl,yt,aQ⟩)
  | (go_at_call 151;refine (vH _ Y _ (yt.bq gh)).mono ?_;rintro e w4 ⟨u4,rfl,hu4,fe⟩)
  | (go_at_call 148;refine (Ck _ _ X (-Y) _ (Ae.bq gh) (hu4.bq gh) (Nat.le_trans qq hj) (by rw[Int.natAbs_neg];exact Nat.le_trans nd hk)).mono ?_;rintro e w3 ⟨r,rfl,az,ck⟩;obtain⟨sg,pp,nn,cc,rfl⟩:=az.form;obtain⟨e5,e6,g5,g6⟩:=(bj.bq (w':=w3) b3 gh).two)
  | fail)
 rw[<-Int.sub_eq_add_neg] at az
 have FC:=(bj.bq (w':=w3) b3 gh)
 have FB:aw w w3:=gh
 have FZ:aw w w4:=gh
 have HO:=Lib.hid (az.bK FC fc (.bool sg) (.slice pp nn cc))
 clear az
 have Af:=FC.bK (.bool (sg)) (.slice pp (nn) cc)
 have Ag:=aw.bK FB (b:=w.heap.size+1+1) ab (.bool (sg)) (.slice pp (nn) cc)
 go_wp2
 generalize (w3.setCell ⟨w.heap.size+1+1,0,none⟩ (.bool (sg))).setCell ⟨w.heap.size+1+1,1,none⟩ (.slice pp (nn) cc)=wz at*
 obtain⟨Ah,Ai,_,_⟩:=Af.two
 refine bodyPost_ret (v:=.agg #[.bool (sg),.slice pp (nn) cc]) (by simp[results,Tryz.results113,go_sem,Ah,Ai]) rfl (bI.out _ _ ?_)
 exact⟨_,rfl,HO.out.mono FZ.size,Ag⟩
def Gs (w W wc:World) (T:TypeId) (X Y:Int) (x y:Value):Prop:=∃ g h s1 p1 n1 k1 s2 p2 n2 k2,x=.pointer (some ⟨g,0,none⟩)/\y=.pointer (some ⟨h,0,none⟩)/\bj wc g T #[.bool s1,.slice p1 n1 k1]/\bj wc h T #[.bool s2,.slice p2 n2 k2]/\
 bH w (.agg #[.bool s1,.slice p1 n1 k1]) X/\bH w (.agg #[.bool s2,.slice p2 n2 k2]) Y/\aw W wc
theorem jS (v u:Value) (X Y:Int) (j k:Nat) (w:World) (hv:bt w v X j) (hu:bt w u Y k) (hj:j<=536870912) (hk:k<=536870912):
  Calls Tryz.prog 96 #[v,u] w λe w'=>∃ r,e=.returned r/\aj w' w.heap.size r (X*Y)/\aw w w':=by
 obtain⟨s,p,n,c,rfl⟩:=hv.form
 obtain⟨t,q,m,d,rfl⟩:=hu.form
 refine aI λR' bI=> ?_
 obtain⟨b1,b2,b3,kY⟩:=lW w 32 32 32 #[.bool s,.slice p n c] #[.bool t,.slice q m d] #[.bool false,.slice none 0 0]
 have qq:=hv.len
 have nd:=hu.len
 have HV:=Lib.hid hv
 have HU:=Lib.hid hu
 have hsz:w.heap.size+3<=(((w.alloc (.cells #[.bool s,.slice p n c] 32)).alloc (.cells #[.bool t,.slice q m d] 32)).alloc (.cells #[.bool false,.slice none 0 0] 32)).heap.size:=by simp
 clear hv hu
 go_enter Tryz.func96,Tryz.ntmps96
 go_wp2_with fail
 generalize ((w.alloc _).alloc _).alloc _=W at*
 have HS:=Lib.hid (λw' (h:aq W (w.heap.size+1+1) w')=>And.intro (h.cells b1 ab) (h.cells b2 ab))
 obtain⟨c1,c2,_,_⟩:=b1.two
 obtain⟨c3,c4,_,_⟩:=b2.two
 obtain⟨c5,c6,f5,f6⟩:=b3.two
 go_cut [5,6] (λx5 x6 wc=>Gs w W wc 222 X Y x5 x6)
 case first=>
  go_region_held3 (λw'=>(w'.cell? ⟨w.heap.size,0,none⟩=some (.bool s)/\w'.cell? ⟨w.heap.size,1,none⟩=some (.slice p n c))/\w'.cell? ⟨w.heap.size+1,0,none⟩=some (.bool t)/\w'.cell? ⟨w.heap.size+1,1,none⟩=some (.slice q m d)) ((refine HS.out _ ?_;(with_reducible (repeat (first|exact aq.refl _ _|refine aq.drew ?_|refine aq.drewN ?_ _|refine aq.alloc ?_ _|refine aq.set ?_ _|refine aq.aA ?_ (by assumption)|refine aq.nK ?_ (by first|omega|(simp;done)|(simp;omega)) _))))) (first
   | (go_at_call_of 140 (Value.slice p n c);refine (eM _ X j w _ HV.out gh).mono ?_;rintro e w1 ⟨u1,rfl,Ae,aD⟩;obtain⟨s1,p1,n1,k1,rfl⟩:=Ae.fh;have xo:=aD.size;(try simp at xo);(try (have q1:=bj.bq (bj.drew (bj.new _ _ #[_,_])) aD;(try simp at q1);obtain⟨q1a,q1b,q1c,q1d⟩:=q1.two;have q1l:=q1.lt;have q1n:=Nat.ne_of_lt q1l;have q1m:=Nat.ne_of_gt q1l));(try (have q2:=bj.bq (bj.drew (bj.alloc (bj.new _ _ #[_,_]) _)) aD;(try simp at q2);obtain⟨q2a,q2b,q2c,q2d⟩:=q2.two;have q2l:=q2.lt;have q2n:=Nat.ne_of_lt q2l;have q2m:=Nat.ne_of_gt q2l)))
   | (go_at_call_of 140 (Value.slice q m d);refine (eM _ Y k w _ HU.out gh).mono ?_;rintro e w2 ⟨u2,rfl,yt,aQ⟩;obtain⟨s2,p2,n2,k2,rfl⟩:=yt.fh;have hs2:=aQ.size;(try simp at hs2);(try (have q3:=bj.bq (bj.new _ _ #[_,_]) aQ;(try simp at q3);obtain⟨q3a,q3b,q3c,q3d⟩:=q3.two;have q3l:=q3.lt;have q3n:=Nat.ne_of_lt q3l;have q3m:=Nat.ne_of_gt q3l));(try (have q4:=bj.bq (bj.alloc (bj.new _ _ #[_,_]) _) aQ;(try simp at q4);obtain⟨q4a,q4b,q4c,q4d⟩:=q4.two;have q4l:=q4.lt;have q4n:=Nat.ne_of_lt q4l;have q4m:=Nat.ne_of_gt q4l));(try (have q5:=bj.bq q1 aQ;(try simp at q5);obtain⟨q5a,q5b,q5c,q5d⟩:=q5.two;have q5l:=q5.lt;have q5n:=Nat.ne_of_lt q5l;have q5m:=Nat.ne_of_gt q5l));(try (have q6:=bj.bq q2 aQ;(try simp at q6);obtain⟨q6a,q6b,q6c,q6d⟩:=q6.two;have q6l:=q6.lt;have q6n:=Nat.ne_of_lt q6l;have q6m:=Nat.ne_of_gt q6l));(try (have q7:=bj.bq (bj.alloc q1 _) aQ;(try simp at q7);obtain⟨q7a,q7b,q7c,q7d⟩:=q7.two;have q7l:=q7.lt;have q7n:=Nat.ne_of_lt q7l;have q7m:=Nat.ne_of_gt q7l)))
   | fail)
  all_goals
   go_wp2
   go_meet
   refine⟨_,_,s1,p1,n1,k1,s2,p2,n2,k2,rfl,rfl,?_,?_,Ae,yt,?_⟩
   ·(with_reducible (repeat (first|assumption|exact bj.newAt (by first|rfl|(simp;done)) _ _|refine bj.alloc ?_ _|refine bj.drew ?_|refine bj.bK (u:=.bool false) (v:=.slice none 0 0) ?_ _ _|refine bj.dH ?_ (by first|omega|(simp;omega)) _ _|refine bj.bq ?_ (by assumption))))
   ·(with_reducible (repeat (first|assumption|exact bj.newAt (by first|rfl|(simp;done)) _ _|refine bj.alloc ?_ _|refine bj.drew ?_|refine bj.bK (u:=.bool false) (v:=.slice none 0 0) ?_ _ _|refine bj.dH ?_ (by first|omega|(simp;omega)) _ _|refine bj.bq ?_ (by assumption))))
   ·exact gh
 case rest=>
  obtain⟨g,h,s1,p1,n1,k1,s2,p2,n2,k2,rfl,rfl,B5,B6,Ae,yt,hbc⟩:=hcut
  obtain⟨Hv,kW,hX⟩:=Ae.parts
  obtain⟨xF,ll,hY⟩:=yt.parts
  have B3:=b3.bq hbc
  have ln:aw w wc:=kY.aA hbc
  have HR1:=Lib.hid (kW.below ln)
  have HR2:=Lib.hid (ll.below ln)
  have HN1:=Lib.hid Hv
  have HN2:=Lib.hid xF
  have HX:=Lib.hid hX
  have HY:=Lib.hid hY
  have hm1:n1<=536870912:=by omega
  have hm2:n2<=536870912:=by omega
  clear c1 c2 c3 c4 c5 c6 f5 f6 b1 b2 b3 hbc kY Ae yt kW ll hX hY Hv xF HS
  obtain⟨c1,c2,_,_⟩:=B5.two
  obtain⟨c3,c4,_,_⟩:=B6.two
  obtain⟨c5,c6,f5,f6⟩:=B3.two
  have hg:g≠w.heap.size+1+1:=λe=>by subst e;have:=(show wc.heap[_]? =_ from B5).symm.trans B3;simp at this
  have hh:h≠w.heap.size+1+1:=λe=>by subst e;have:=(show wc.heap[_]? =_ from B6).symm.trans B3;simp at this
  have HS:=Lib.hid (λw' (hk:aq wc (w.heap.size+1+1) w')=>And.intro (hk.cells B5 hg) (hk.cells B6 hh))
  go_wp2_with fail
  go_region_held3 (λw'=>(w'.cell? ⟨g,0,none⟩=some (.bool s1)/\w'.cell? ⟨g,1,none⟩=some (.slice p1 n1 k1))/\w'.cell? ⟨h,0,none⟩=some (.bool s2)/\w'.cell? ⟨h,1,none⟩=some (.slice p2 n2 k2)) ((refine HS.out _ ?_;(with_reducible (repeat (first|exact aq.refl _ _|refine aq.drew ?_|refine aq.drewN ?_ _|refine aq.alloc ?_ _|refine aq.set ?_ _|refine aq.aA ?_ (by assumption)|refine aq.nK ?_ (by first|omega|(simp;done)|(simp;omega)) _))))) (first
   | (go_at_call 149;refine (Kw _ _ n1 n2 _ _ _ (HR1.out.below (aw.refl wc).drew) (HR2.out.below (aw.refl wc).drew) (ak _) (ak _) hm1 hm2).mono ?_;rintro e w1 ⟨v1,rfl,sq,aD⟩;replace aD:aw _ w1:=aD;rw[ah,ah] at sq;obtain⟨q1,l1,rfl,_,_,_⟩:=Own.form sq)
   | (go_at_call 92;refine (eU _ _ _ _ _).mono ?_;rintro e w3 ⟨sg,rfl,uC,ck⟩;obtain⟨e5,e6,g5,g6⟩:=(bj.bq (w':=w3) B3 gh).two)
   | fail)
  have FC:=(bj.bq (w':=w3) B3 gh)
  have FB:aw w w3:=gh
  generalize hL:(limbs (X.natAbs*Y.natAbs)).length=L at*
  have HL:=Lib.hid hL
  have HO:=Lib.hid (Own.bK (Own.below sq ck) FC fc (.bool sg) (.slice q1 L l1))
  clear sq hL
  have Af:=FC.bK (.bool (sg)) (.slice q1 (L) l1)
  have Ag:=aw.bK FB (b:=w.heap.size+1+1) ab (.bool (sg)) (.slice q1 (L) l1)
  go_wp2
  generalize (w3.setCell ⟨w.heap.size+1+1,0,none⟩ (.bool (sg))).setCell ⟨w.heap.size+1+1,1,none⟩ (.slice q1 (L) l1)=wz at*
  obtain⟨Ah,Ai,_,_⟩:=Af.two
  refine bodyPost_ret (v:=.agg #[.bool (sg),.slice q1 (L) l1]) (by simp[results,Tryz.results96,go_sem,Ah,Ai]) rfl (bI.out _ _ ?_)
  rw[uC.out]
  refine⟨_,rfl,aj.of (m:=X.natAbs*Y.natAbs) (by rw[HL.out];exact Own.mono HO.out ln.size) HL.out.symm _ ?_,Ag⟩
  rw[HX.out,HY.out]
  cases s1 <;> cases s2 <;> simp[Int.neg_mul,Int.mul_neg]
end
section
open Go.RowKit
theorem ss (s:Bool) (p:Option Addr) (n c:Nat) (w:World):(Instr.field 222 (.agg #[.bool s,.slice p n c]) 0).run Tryz.prog w=.ok (.agg #[.bool s,.slice p n c]) w:=by kernel_rfl
theorem sw (s:Bool) (p:Option Addr) (n c:Nat) (w:World):(Instr.field 32 (.agg #[.bool s,.slice p n c]) 1).run Tryz.prog w=.ok (.slice p n c) w:=by kernel_rfl
theorem Cl (v:Value) (X:Int) (j:Nat) (w:World) (hv:bt w v X j) (hj:j<=1073741824):
  Calls Tryz.prog 98 #[v] w λe w'=>∃ r,e=.returned r/\aj w' w.heap.size r (-X)/\aw w w':=by
 obtain⟨s,p,n,c,rfl⟩:=hv.form
 refine aI λR' bI=> ?_
 obtain⟨b1,b2,kY⟩:=kI w 32 32 #[.bool s,.slice p n c] #[.bool false,.slice none 0 0]
 have qq:=hv.len
 have HV:=Lib.hid hv
 have hsz:w.heap.size+2<=((w.alloc (.cells #[.bool s,.slice p n c] 32)).alloc (.cells #[.bool false,.slice none 0 0] 32)).heap.size:=by simp
 clear hv
 go_enter Tryz.func98,Tryz.ntmps98
 go_wp2_with fail
 generalize (w.alloc _).alloc _=W at*
 refine (eM _ X j w _ HV.out gh).mono ?_
 rintro e w1 ⟨v1,rfl,xn,aD⟩
 go_wp2_with fail
 refine (vH _ X _ (xn.bq gh)).mono ?_
 rintro e w2 ⟨v2,rfl,hi2,aQ⟩
 obtain⟨s2,p2,n2,k2,rfl⟩:=hi2.fh
 obtain⟨xF,ll,_⟩:=hi2.parts
 have hm2:n2<=1073741824:=by rw[xF,Int.natAbs_neg];omega
 have HN2:=Lib.hid xF
 have HI2:=Lib.hid hi2
 have HR2:=Lib.hid ll
 clear hi2 xF ll xn
 go_wp2_with fail
 have B5:=bj.new w2 222 #[.bool s2,.slice p2 n2 k2]
 have hbT:aw w2 (w2.alloc (.cells #[.bool s2,.slice p2 n2 k2] 222)):=(aw.refl w2).alloc _
 have B2:=((b2.bq aD).bq aQ).bq hbT
 have hlt:=b2.lt
 have uj:=aD.size
 have hbs2:=aQ.size
 have hne:w2.heap.size≠w.heap.size+1:=by omega
 generalize w2.alloc _=T at*
 have HS:=Lib.hid (λw' (hk:aq T (w.heap.size+1) w')=>hk.cells B5 hne)
 obtain⟨c1,c2,_,_⟩:=B5.two
 obtain⟨c5,c6,f5,f6⟩:=B2.two
 go_region_held3 (λw'=>w'.cell? ⟨w2.heap.size,0,none⟩=some (.bool s2)/\w'.cell? ⟨w2.heap.size,1,none⟩=some (.slice p2 n2 k2)) ((refine HS.out _ ?_;(with_reducible (repeat (first|exact aq.refl _ _|refine aq.drew ?_|refine aq.drewN ?_ _|refine aq.alloc ?_ _|refine aq.set ?_ _|refine aq.aA ?_ (by assumption)|refine aq.nK ?_ (by first|omega|(simp;done)|(simp;omega)) _))))) (first
  | (go_at_call 144;refine (iC _ n2 _ _ (Rd.below (HR2.out.below hbT) (aw.refl T).drew) hm2).mono ?_;rintro e w3 ⟨v3,rfl,EB,ck⟩;replace ck:aw _ w3:=ck;obtain⟨q3,l3,rfl,_,_,_⟩:=Own.form EB;obtain⟨e5,e6,g5,g6⟩:=(bj.bq (w':=w3) B2 gh).two)
  | fail)
 have FC:=(bj.bq (w':=w3) B2 gh)
 have FB:aw w w3:=gh
 have FT:aw w T:=gh
 have HO:=Lib.hid (Own.bK EB FC fc (.bool s2) (.slice q3 n2 l3))
 clear EB
 have Af:=FC.bK (.bool (s2)) (.slice q3 (n2) l3)
 have Ag:=aw.bK FB (b:=w.heap.size+1) ab (.bool (s2)) (.slice q3 (n2) l3)
 go_wp2
 generalize (w3.setCell ⟨w.heap.size+1,0,none⟩ (.bool (s2))).setCell ⟨w.heap.size+1,1,none⟩ (.slice q3 (n2) l3)=wz at*
 obtain⟨Ah,Ai,_,_⟩:=Af.two
 refine bodyPost_ret (v:=.agg #[.bool (s2),.slice q3 (n2) l3]) (by simp[results,Tryz.results98,go_sem,Ah,Ai]) rfl (bI.out _ _ ?_)
 exact⟨_,rfl,HI2.out.own (Own.mono HO.out FT.size),Ag⟩
set_option maxRecDepth 100000 in
theorem Lt (v:Value) (X:Int) (j:Nat) (w:World) (hv:bt w v X j) (hj:j<=1073741824):
  Calls Tryz.prog 99 #[v] w λe w'=>∃ r,e=.returned r/\aj w' w.heap.size r (X.natAbs:Int)/\aw w w':=by
 obtain⟨s,p,n,c,rfl⟩:=hv.form
 refine aI λR' bI=> ?_
 obtain⟨b1,b2,kY⟩:=kI w 32 32 #[.bool s,.slice p n c] #[.bool false,.slice none 0 0]
 have qq:=hv.len
 have HV:=Lib.hid hv
 clear hv
 go_enter Tryz.func99,Tryz.ntmps99
 go_wp2_with fail
 generalize (w.alloc _).alloc _=W at*
 refine (eM _ X j w _ HV.out gh).mono ?_
 rintro e w1 ⟨v1,rfl,xn,aD⟩
 obtain⟨s2,p2,n2,k2,rfl⟩:=xn.fh
 obtain⟨xF,ll,_⟩:=xn.parts
 have hm2:n2<=1073741824:=by rw[xF];omega
 have HN2:=Lib.hid xF
 have HR2:=Lib.hid ll
 have ln:aw w w1:=kY.aA aD
 have hf1:=ss s2 p2 n2 k2 w1
 have hf2:=sw s2 p2 n2 k2 w1
 clear xF ll xn
 go_wp2_with fail
 refine (iC _ n2 _ _ (HR2.out.below ln) hm2).mono ?_
 rintro e w3 ⟨v3,rfl,EB,ck⟩
 replace ck:aw _ w3:=ck
 obtain⟨q3,l3,rfl,_,_,_⟩:=Own.form EB
 have FC:=(bj.bq (w':=w3) b2 gh)
 have FB:aw w w3:=gh
 have HO:=Lib.hid (Own.bK EB FC fc (.bool false) (.slice q3 n2 l3))
 obtain⟨e5,e6,g5,g6⟩:=FC.two
 clear EB
 have Af:=FC.bK (.bool (false)) (.slice q3 (n2) l3)
 have Ag:=aw.bK FB (b:=w.heap.size+1) ab (.bool (false)) (.slice q3 (n2) l3)
 go_wp2
 generalize (w3.setCell ⟨w.heap.size+1,0,none⟩ (.bool (false))).setCell ⟨w.heap.size+1,1,none⟩ (.slice q3 (n2) l3)=wz at*
 obtain⟨Ah,Ai,_,_⟩:=Af.two
 refine bodyPost_ret (v:=.agg #[.bool (false),.slice q3 (n2) l3]) (by simp[results,Tryz.results99,go_sem,Ah,Ai]) rfl (bI.out _ _ ?_)
 exact⟨_,rfl,aj.ofNat (Own.mono HO.out ln.size) HN2.out,Ag⟩
theorem jA (v:Value) (X:Int) (j:Nat) (w:World) (hv:bt w v X j):
  Calls Tryz.prog 112 #[v] w λe w'=>e=.returned (.int .i64 X.sign)/\aw w w':=by
 obtain⟨s,p,n,c,rfl⟩:=hv.form
 refine aI λR' bI=> ?_
 have HV:=Lib.hid hv
 have kY:=(aw.refl w).alloc (.cells #[.bool s,.slice p n c] 32)
 clear hv
 go_enter Tryz.func112,Tryz.ntmps112
 go_wp2_with fail
 generalize w.alloc _=W at*
 refine (eM _ X j w _ HV.out gh).mono ?_
 rintro e w1 ⟨v1,rfl,xn,aD⟩
 obtain⟨s2,p2,n2,k2,rfl⟩:=xn.fh
 obtain⟨xF,_,hX⟩:=xn.parts
 have ln:aw w w1:=kY.aA aD
 have uC:=xn.Ig
 clear xn
 cases s2
 ·by_cases h0:X=0
  ·subst h0
   have:n2=0:=by rw[xF];simp[bG]
   subst this
   clear xF hX uC
   go_wp2
   exact bI.out _ _ ⟨rfl,ln.alloc _⟩
  ·have hp:0<n2:=by rw[xF];exact di ab
   have hs:X.sign=1:=dy (by simp at hX;omega)
   rw[hs] at bI
   clear xF hX uC
   have hpi:(0:Int)<(n2:Int):=by omega
   go_wp2
   exact bI.out _ _ ⟨rfl,ln.alloc _⟩
 ·have hs:X.sign= -1:=sign_neg (of_decide_eq_true uC.symm)
  rw[hs] at bI
  clear xF hX uC
  go_wp2
  exact bI.out _ _ ⟨rfl,ln.alloc _⟩
theorem lF (v u:Value) (X Y:Int) (j k:Nat) (w:World) (hv:bt w v X j) (hu:bt w u Y k) (hj:j<=1073741824) (hk:k<=1073741824):
  Calls Tryz.prog 51 #[v,u] w λe w'=>e=.returned (.int .i64 (X-Y).sign)/\aw w w':=by
 obtain⟨s,p,n,c,rfl⟩:=hv.form
 obtain⟨t,q,m,d,rfl⟩:=hu.form
 refine aI λR' bI=> ?_
 obtain⟨b1,b2,kY⟩:=kI w 32 32 #[.bool s,.slice p n c] #[.bool t,.slice q m d]
 have HV:=Lib.hid (hv.bq kY)
 have HU:=Lib.hid (hu.bq kY)
 clear hv hu
 go_enter Tryz.func51,Tryz.ntmps51
 go_wp2_with fail
 generalize (w.alloc _).alloc _=W at*
 refine (Ls _ _ X Y j k _ HV.out HU.out hj hk).mono ?_
 rintro e w1 ⟨r,rfl,ho,aD⟩
 go_wp2_with fail
 refine (jA _ (X-Y) _ _ (ho.rd.to (Nat.le_refl _))).mono ?_
 rintro e w2 ⟨rfl,aQ⟩
 go_wp2
 exact bI.out _ _ ⟨rfl,(kY.aA aD).aA aQ⟩
theorem u64neg {n:Int} (h0:n<0) (h1: -9223372036854775808<=n):IntKind.u64.wrap (-(IntKind.u64.wrap n))=(n.natAbs:Int):=by
 rw[qH,qH];omega
theorem u64pos {n:Int} (h0:0<=n) (h1:n<=9223372036854775807):IntKind.u64.wrap n=(n.natAbs:Int):=by
 rw[qH];omega
theorem tp {a:Nat}:ag [a%4294967296,a/4294967296]=a:=by
 rw[eB,eB,dx];omega
set_option maxRecDepth 100000 in
theorem mj (n:Int) (w:World) (h0: -9223372036854775808<=n) (h1:n<=9223372036854775807):
  Calls Tryz.prog 40 #[.int .i64 n] w λe w'=>∃ r,e=.returned r/\aj w' w.heap.size r n/\aw w w':=by
 refine aI λR' bI=> ?_
 obtain⟨a,ha⟩:∃ a,a=n.natAbs:=⟨_,rfl⟩
 have HA:=Lib.hid ha
 have ha2:a<18446744073709551616:=by omega
 have nH:=bj.new w 32 #[.bool false,.slice none 0 0]
 have kY:=(aw.refl w).alloc (.cells #[.bool false,.slice none 0 0] 32)
 have hRl:=Rd.lit2 (w:=w.alloc (.cells #[.bool false,.slice none 0 0] 32)) (k:=.u32) (e:=191) (x:=(a:Int)%4294967296) (y:=(a:Int)/4294967296) (a:=a%4294967296) (b:=a/4294967296) ab ab
 rw[World.size_alloc] at hRl
 go_enter Tryz.func40,Tryz.ntmps40
 by_cases hn:n<0
 ·have e1:=u64neg hn h0
  rw[<-ha] at e1
  have HN:=Lib.hid hn
  clear ha
  go_wp2_with fail
  refine (iU _ 2 [a%4294967296,a/4294967296] _ hRl (cw.cons ab (cw.cons ab cw.nil)) ab).mono ?_
  rintro e w1 ⟨v1,rfl,sq,aD⟩
  replace aD:aw _ w1:=aD
  rw[tp] at sq
  obtain⟨p1,k1,rfl,_,_,_⟩:=Own.form sq
  generalize hL:(limbs a).length=L at*
  have HL:=Lib.hid hL
  have FC1:=(nH.alloc (.cells #[.int .u32 ((a:Int)%4294967296),.int .u32 ((a:Int)/4294967296)] 191)).bq aD
  have FB1:aw w w1:=(((aw.refl w).alloc _).alloc _).aA aD
  have qu:=Lib.hid sq
  clear sq hL aD
  go_wp2_with fail
  refine (eU _ _ _ _ _).mono ?_
  rintro e w3 ⟨sg,rfl,uC,ck⟩
  have FC:=FC1.bq ck
  have FB:=FB1.aA ck
  obtain⟨e5,e6,g5,g6⟩:=FC.two
  have HO:=Lib.hid (Own.bK (Own.below qu.out ck) FC fc (.bool sg) (.slice p1 L k1))
  clear qu FC1
  have Af:=FC.bK (.bool (sg)) (.slice p1 (L) k1)
  have Ag:=aw.bK FB (b:=w.heap.size) ab (.bool (sg)) (.slice p1 (L) k1)
  go_wp2
  generalize (w3.setCell ⟨w.heap.size,0,none⟩ (.bool (sg))).setCell ⟨w.heap.size,1,none⟩ (.slice p1 (L) k1)=wz at*
  obtain⟨Ah,Ai,_,_⟩:=Af.two
  refine bodyPost_ret (v:=.agg #[.bool (sg),.slice p1 (L) k1]) (by simp[results,Tryz.results40,go_sem,Ah,Ai]) rfl (bI.out _ _ ?_)
  rw[uC.out]
  refine⟨_,rfl,aj.of (m:=a) (by rw[HL.out];exact Own.mono HO.out (by simp;omega)) HL.out.symm _ ?_,Ag⟩
  have:=HN.out
  have:=HA.out
  simp;omega
 ·have e1:=u64pos (by omega:0<=n) h1
  rw[<-ha] at e1
  have HN:=Lib.hid hn
  clear ha
  go_wp2_with fail
  refine (iU _ 2 [a%4294967296,a/4294967296] _ hRl (cw.cons ab (cw.cons ab cw.nil)) ab).mono ?_
  rintro e w1 ⟨v1,rfl,sq,aD⟩
  replace aD:aw _ w1:=aD
  rw[tp] at sq
  obtain⟨p1,k1,rfl,_,_,_⟩:=Own.form sq
  generalize hL:(limbs a).length=L at*
  have HL:=Lib.hid hL
  have FC1:=(nH.alloc (.cells #[.int .u32 ((a:Int)%4294967296),.int .u32 ((a:Int)/4294967296)] 191)).bq aD
  have FB1:aw w w1:=(((aw.refl w).alloc _).alloc _).aA aD
  have qu:=Lib.hid sq
  clear sq hL aD
  go_wp2_with fail
  refine (eU _ _ _ _ _).mono ?_
  rintro e w3 ⟨sg,rfl,uC,ck⟩
  have FC:=FC1.bq ck
  have FB:=FB1.aA ck
  obtain⟨e5,e6,g5,g6⟩:=FC.two
  have HO:=Lib.hid (Own.bK (Own.below qu.out ck) FC fc (.bool sg) (.slice p1 L k1))
  clear qu FC1
  have Af:=FC.bK (.bool (sg)) (.slice p1 (L) k1)
  have Ag:=aw.bK FB (b:=w.heap.size) ab (.bool (sg)) (.slice p1 (L) k1)
  go_wp2
  generalize (w3.setCell ⟨w.heap.size,0,none⟩ (.bool (sg))).setCell ⟨w.heap.size,1,none⟩ (.slice p1 (L) k1)=wz at*
  obtain⟨Ah,Ai,_,_⟩:=Af.two
  refine bodyPost_ret (v:=.agg #[.bool (sg),.slice p1 (L) k1]) (by simp[results,Tryz.results40,go_sem,Ah,Ai]) rfl (bI.out _ _ ?_)
  rw[uC.out]
  refine⟨_,rfl,aj.of (m:=a) (by rw[HL.out];exact Own.mono HO.out (by simp;omega)) HL.out.symm _ ?_,Ag⟩
  have:=HN.out
  have:=HA.out
  simp;omega
end
section
open Go.RowKit
def qh (rows:List (List Nat)):Nat:=rows.foldl (λa r=>Nat.gcd a (ag r)) 0
theorem IG (rows:List (List Nat)) (r:List Nat):qh (rows++[r])=Nat.gcd (qh rows) (ag r):=by simp[qh,List.foldl_append]
theorem Lu {x y:Nat}:Nat.gcd y (x%y)=Nat.gcd x y:=by rw[Nat.gcd_comm,<-Nat.gcd_rec,Nat.gcd_comm]
def GcdOut (w:World) (B:Nat) (rows:List (List Nat)) (g:Nat) (av iv:Value) (wr:World):Prop:=
 ∃ k,k<=rows.length/\g=rows.length-k/\iv=.int .i64 (k:Int)/\wr.ownsRow B 191 1 av (limbs (qh (rows.take k))).length (ints .u32 (limbs (qh (rows.take k))))/\(limbs (qh (rows.take k))).length<=536870912/\Below B w wr
def GcdIn (w:World) (B G:Nat) (g:Nat) (av bv:Value) (wr:World):Prop:=
 ∃ x,Nat.gcd x g=G/\wr.ownsRow B 191 1 av (limbs x).length (ints .u32 (limbs x))/\wr.ownsRow B 191 1 bv (limbs g).length (ints .u32 (limbs g))/\(limbs x).length<=536870912/\(limbs g).length<=536870912/\Below B w wr
set_option maxRecDepth 100000 in
theorem Lv (va:Value) (rows:List (List Nat)) (w:World) (hr:gR w va rows) (hx:∀ xs∈rows,cw xs/\xs.length<=536870912) (hn:rows.length<=1048576):
  Calls Tryz.prog 175 #[va] w λe w'=>∃ v',e=.returned v'/\w'.ownsRow w.heap.size 191 1 v' (limbs (qh rows)).length (ints .u32 (limbs (qh rows)))/\Below w.heap.size w w':=by
 obtain⟨p,c,rfl,dL,eH⟩:=hr.form
 have Hr:=Lib.hid hr
 have HL:=Lib.hid hx
 obtain⟨B,hB⟩:∃ B,B=w.heap.size:=⟨_,rfl⟩
 have HB:=Lib.hid hB
 obtain⟨N,hN⟩:∃ N,N=rows.length:=⟨_,rfl⟩
 rw[<-hN] at dL hn ⊢
 have HN:=Lib.hid hN
 rw[<-hB]
 clear hx hr hB hN
 refine aI λR' bI=> ?_
 go_enter Tryz.func175,Tryz.ntmps175
 go_wp2
 go_loopg [3,11] N (λg av iv wr=>GcdOut w B rows g av iv wr)
 case atStart=>exact⟨0,Nat.zero_le _,by rw[HN.out];rfl,rfl,by simp[qh,bG];exact World.ownsRow_nil _ _ _ _,by simp[qh,bG],Below.refl _ _⟩
 case round=>
  obtain⟨k,hk,hgk,rfl,az,hlen,hb⟩:=hrel
  have HO:=Lib.hid az
  have fW:=Lib.hid hb
  have HGK:=Lib.hid hgk
  have HLEN:=Lib.hid hlen
  rw[<-HN.out] at hk
  clear az hb hgk hlen
  by_cases rL:k<N
  ·obtain⟨b1,o1,u,xs,rfl,eI,kG,hru⟩:=((Hr.out.below (by have:=fW.out;rwa [HB.out] at this)).at (k:=k) (by rw[<-HN.out];exact rL))
   have um:=Lib.hid eI
   have HRU:=Lib.hid hru
   clear eI hru
   have uj:B<=wr.heap.size:=by have:=fW.out.size;have:=HB.out;omega
   obtain⟨xw,xm⟩:=HL.out xs (List.mem_of_getElem? um.out)
   obtain⟨a,ha⟩:∃ a,a=qh (rows.take k):=⟨_,rfl⟩
   obtain⟨y,hy⟩:∃ y,y=ag xs:=⟨_,rfl⟩
   have jx:(limbs y).length<=536870912:=by rw[hy];exact Nat.le_trans (gP xw) xm
   have HL1:=Lib.hid xw
   have HL2:=Lib.hid xm
   have HYL:=Lib.hid jx
   have HG:Hid (Nat.gcd a y=qh (rows.take (k+1))):=by show _=_;rw[bF um.out,IG,ha,hy]
   have HA:=Lib.hid ha
   have HY:=Lib.hid hy
   clear ha hy xw xm jx
   go_wp2_with fail
   refine (iU _ _ xs _ HRU.out HL1.out (by have:=HL2.out;omega)).mono ?_
   rintro e w2 ⟨v',rfl,jI,aQ⟩
   rw[<-HY.out] at jI
   have sq:=Own.below HO.out aQ
   rw[<-HA.out] at sq
   have qu:=Lib.hid sq
   clear sq
   have mZ:=Lib.hid (Own.mono jI uj)
   have sY:=Lib.hid (fW.out.trans (aQ.mono uj))
   clear jI aQ kG
   go_wp2_with fail
   go_loopg [3,5] y (λg av bv wr=>GcdIn w B (Nat.gcd a y) g av bv wr)
   case atStart=>exact⟨a,rfl,qu.out,mZ.out,by rw[HA.out];exact HLEN.out,HYL.out,sY.out⟩
   case round=>
    obtain⟨x,xt,hox,hoy,qq,nd,ln⟩:=hrel
    have HXY:=Lib.hid xt
    have HOX:=Lib.hid hox
    have HOY:=Lib.hid hoy
    have HLX:=Lib.hid qq
    have HLY:=Lib.hid nd
    have HBX:=Lib.hid ln
    obtain⟨py,cy,rfl,_,_,_⟩:=Own.form hoy
    clear xt hox hoy qq nd ln
    by_cases Lw:gk=0
    ·subst Lw
     have hl0:(limbs 0).length=0:=by rw[bG];rfl
     rw[hl0]
     have hxg:x=qh (rows.take (k+1)):=by rw[<-HG.out,<-HXY.out,Nat.gcd_zero_right]
     have HXG:=Lib.hid hxg
     clear hxg hl0
     go_wp2_with fail
     go_roundg (N-(k+1))
     case measure=>have:=HGK.out;have:=HN.out;omega
     case rel=>exact⟨k+1,by rw[<-HN.out];omega,by rw[HN.out],by go_num,by rw[<-HXG.out];exact HOX.out,by rw[<-HXG.out];exact HLX.out,HBX.out⟩
    ·have hp:(0:Int)<((limbs gk).length:Int):=by have:=di Lw;omega
     have HG0:=Lib.hid Lw
     obtain⟨L,hL⟩:∃ L,L=(limbs gk).length:=⟨_,rfl⟩
     rw[<-hL] at hp ⊢
     have HL:=Lib.hid hL
     have hbx:B<=wr.heap.size:=by have:=HBX.out.size;have:=HB.out;omega
     clear Lw hL
     go_wp2_with fail
     refine (sX _ _ _ _ _ _ _ (Rd.own HOX.out) (by rw[HL.out];exact Rd.own HOY.out) (ak _) (ak _) HLX.out HLY.out).mono ?_
     rintro e w3 ⟨⟨h,rfl⟩|⟨h,vq,vr,rfl,Bt,uQ⟩,ck⟩
     ·exact absurd (by rw[ah] at h;exact h) HG0.out
     rw[ah,ah] at uQ
     have hlt:x%gk<gk:=Nat.mod_lt _ (Nat.pos_iff_ne_zero.2 HG0.out)
     have HLT:=Lib.hid hlt
     have HOR:=Lib.hid (Own.mono uQ hbx)
     have HOG:=Lib.hid (Own.below HOY.out ck)
     have JQ:=Lib.hid (HBX.out.trans (ck.mono hbx))
     clear Bt uQ ck h hlt
     go_wp2_with fail
     go_roundg (x%gk)
     case measure=>exact HLT.out
     case rel=>exact⟨gk,by rw[Lu];exact HXY.out,by rw[HL.out];exact HOG.out,HOR.out,HLY.out,Nat.le_trans (cP (Nat.le_of_lt HLT.out)) HLY.out,JQ.out⟩
  ·obtain rfl:k=N:=by omega
   go_wp2_with fail
   refine (iC _ _ _ _ (Rd.own HO.out) (by have:=HLEN.out;omega)).mono ?_
   rintro e w2 ⟨v',rfl,jI,aQ⟩
   have uj:B<=wr.heap.size:=by have:=fW.out.size;have:=HB.out;omega
   go_wp2_with fail
   refine bI.out _ _ ⟨_,rfl,?_,fW.out.trans (aQ.mono uj)⟩
   have:=Own.mono jI uj
   rwa [List.take_of_length_le (by rw[HN.out];exact Nat.le_refl _)] at this
end
section
open Go.RowKit
theorem Lx (x y:Nat):qh [limbs x,limbs y]=Nat.gcd x y:=by simp[qh,ah]
set_option maxRecDepth 100000 in
theorem Cm (v u:Value) (X Y:Int) (j k:Nat) (w:World) (hv:bt w v X j) (hu:bt w u Y k) (hj:j<=536870912) (hk:k<=536870912):
  Calls Tryz.prog 146 #[v,u] w λe w'=>∃ r,e=.returned r/\aj w' w.heap.size r (Int.gcd X Y:Int)/\aw w w':=by
 obtain⟨s,p,n,c,rfl⟩:=hv.form
 obtain⟨t,q,m,d,rfl⟩:=hu.form
 refine aI λR' bI=> ?_
 obtain⟨b1,b2,b3,kY⟩:=lW w 32 32 32 #[.bool s,.slice p n c] #[.bool t,.slice q m d] #[.bool false,.slice none 0 0]
 have qq:=hv.len
 have nd:=hu.len
 have HJ:=Lib.hid (Nat.le_trans qq hj)
 have HK:=Lib.hid (Nat.le_trans nd hk)
 have HV:=Lib.hid hv
 have HU:=Lib.hid hu
 have hsz:w.heap.size+3<=(((w.alloc (.cells #[.bool s,.slice p n c] 32)).alloc (.cells #[.bool t,.slice q m d] 32)).alloc (.cells #[.bool false,.slice none 0 0] 32)).heap.size:=by simp
 clear hv hu hj hk qq nd
 go_enter Tryz.func146,Tryz.ntmps146
 go_wp2_with fail
 generalize ((w.alloc _).alloc _).alloc _=W at*
 have HS:=Lib.hid (λw' (h:aq W (w.heap.size+1+1) w')=>And.intro (h.cells b1 ab) (h.cells b2 ab))
 obtain⟨c1,c2,_,_⟩:=b1.two
 obtain⟨c3,c4,_,_⟩:=b2.two
 obtain⟨c5,c6,f5,f6⟩:=b3.two
 go_region_held3 (λw'=>(w'.cell? ⟨w.heap.size,0,none⟩=some (.bool s)/\w'.cell? ⟨w.heap.size,1,none⟩=some (.slice p n c))/\w'.cell? ⟨w.heap.size+1,0,none⟩=some (.bool t)/\w'.cell? ⟨w.heap.size+1,1,none⟩=some (.slice q m d)) ((refine HS.out _ ?_;(with_reducible (repeat (first|exact aq.refl _ _|refine aq.drew ?_|refine aq.drewN ?_ _|refine aq.alloc ?_ _|refine aq.set ?_ _|refine aq.aA ?_ (by assumption)|refine aq.nK ?_ (by first|omega|(simp;done)|(simp;omega)) _))))) (first
  | (go_at_call_of 140 (Value.slice p n c);refine (eM _ X j w _ HV.out gh).mono ?_;rintro e w1 ⟨u1,rfl,Ae,aD⟩;obtain⟨s1,p1,n1,k1,rfl⟩:=Ae.fh;have hf1:=ss s1 p1 n1 k1;have hf2:=sw s1 p1 n1 k1)
  | (go_at_call_of 140 (Value.slice q m d);refine (eM _ Y k w _ HU.out gh).mono ?_;rintro e w2 ⟨u2,rfl,yt,aQ⟩;obtain⟨s2,p2,n2,k2,rfl⟩:=yt.fh;have hf3:=ss s2 p2 n2 k2;have hf4:=sw s2 p2 n2 k2;have HP1:=Lib.hid Ae.parts;have HP2:=Lib.hid yt.parts)
  | (go_at_call 175;refine (Lv _ [limbs X.natAbs,limbs Y.natAbs] _ (gR.two (FV rfl) (by rw[<-HP1.out.1];exact HP1.out.2.1.below (by show aw _ _;exact gh)) (by rw[<-HP2.out.1];exact HP2.out.2.1.below (by show aw _ _;exact gh))) (λxs hx=>by rcases List.mem_cons.1 hx with rfl|hx;exact⟨ak _,HJ.out⟩;obtain rfl:=List.mem_singleton.1 hx;exact⟨ak _,HK.out⟩) (by show 2<=1048576;omega)).mono ?_;rintro e w3 ⟨v3,rfl,EB,ck⟩;replace ck:aw _ w3:=ck;rw[Lx] at EB;obtain⟨p3,k3,rfl,_,_,_⟩:=Own.form EB)
  | (go_at_call 92;refine (eU _ _ _ _ _).mono ?_;rintro e w4 ⟨sg,rfl,uC,fe⟩;obtain⟨e5,e6,g5,g6⟩:=(bj.bq (w':=w4) b3 gh).two)
  | fail)
 have FC:=(bj.bq (w':=w4) b3 gh)
 have FB:aw w w4:=gh
 have FZ:aw w (w2.alloc (.cells #[.slice p1 n1 k1,.slice p2 n2 k2] 30)):=gh
 generalize hL:(limbs (X.natAbs.gcd Y.natAbs)).length=L at*
 have HL:=Lib.hid hL
 have HO:=Lib.hid (Own.bK (Own.below EB fe) FC fc (.bool sg) (.slice p3 L k3))
 clear EB hL
 have Af:=FC.bK (.bool (sg)) (.slice p3 (L) k3)
 have Ag:=aw.bK FB (b:=w.heap.size+1+1) ab (.bool (sg)) (.slice p3 (L) k3)
 go_wp2
 generalize (w4.setCell ⟨w.heap.size+1+1,0,none⟩ (.bool (sg))).setCell ⟨w.heap.size+1+1,1,none⟩ (.slice p3 (L) k3)=wz at*
 obtain⟨Ah,Ai,_,_⟩:=Af.two
 refine bodyPost_ret (v:=.agg #[.bool (sg),.slice p3 (L) k3]) (by simp[results,Tryz.results146,go_sem,Ah,Ai]) rfl (bI.out _ _ ?_)
 rw[uC.out]
 refine⟨_,rfl,aj.of (m:=X.natAbs.gcd Y.natAbs) (by rw[HL.out];exact Own.mono HO.out FZ.size) HL.out.symm _ ?_,Ag⟩
 simp[Int.gcd]
end
section
open Go.RowKit
theorem boxes4 (w:World) (t t' Dy t3:TypeId) (cs gM oN cs3:Array Value):bj ((((w.alloc (.cells cs t)).alloc (.cells gM t')).alloc (.cells oN Dy)).alloc (.cells cs3 t3)) w.heap.size t cs/\bj ((((w.alloc (.cells cs t)).alloc (.cells gM t')).alloc (.cells oN Dy)).alloc (.cells cs3 t3)) (w.heap.size+1) t' gM/\
  bj ((((w.alloc (.cells cs t)).alloc (.cells gM t')).alloc (.cells oN Dy)).alloc (.cells cs3 t3)) (w.heap.size+2) Dy oN/\bj ((((w.alloc (.cells cs t)).alloc (.cells gM t')).alloc (.cells oN Dy)).alloc (.cells cs3 t3)) (w.heap.size+3) t3 cs3/\
  aw w ((((w.alloc (.cells cs t)).alloc (.cells gM t')).alloc (.cells oN Dy)).alloc (.cells cs3 t3)):=
 ⟨(lW w t t' Dy cs gM oN).1.alloc _,(lW w t t' Dy cs gM oN).2.1.alloc _,(lW w t t' Dy cs gM oN).2.2.1.alloc _,bj.newAt dw _ _,(lW w t t' Dy cs gM oN).2.2.2.alloc _⟩
def vJ (w w':World) (X Y:Int) (e:Ending):Prop:=
 (Y=0/\∃ v u,e=.returned (.tuple #[v,u,.int .i64 20])/\aj w' w.heap.size v 0/\aj w' w.heap.size u 0)\/
 (Y≠0/\∃ v u,e=.returned (.tuple #[v,u,.int .i64 0])/\aj w' w.heap.size v (X.fdiv Y)/\aj w' w.heap.size u (X.fmod Y))
def Ly (a b:Nat) (s t:Bool) (M R:Nat):Prop:=((s=t\/a%b=0)/\M=a/b/\R=a%b)\/(s≠t/\a%b≠0/\M=a/b+1/\R=b-a%b)
theorem oD {X Y:Int} {a b M R:Nat} {s t:Bool} (hX:X=if s=true then-(a:Int) else a) (hY:Y=if t=true then-(b:Int) else b) (hb:b≠0) (h:Ly a b s t M R):
  X.fdiv Y=(if (!(s == t))=true then-(M:Int) else M)/\X.fmod Y=(if t=true then-(R:Int) else R):=by
 unfold Ly at h
 have e:=Nat.div_add_mod a b
 have hlt:=Nat.mod_lt a (Nat.pos_of_ne_zero hb)
 generalize a/b=q at*
 generalize a%b=r at*
 have e':(a:Int)=(b:Int)*(q:Int)+(r:Int):=by rw[<-e];simp
 rw[e'] at hX
 have hR:R<=b:=by rcases h with ⟨_,_,rfl⟩|⟨_,_,_,rfl⟩ <;> omega
 cases t
 ·have hp:0<Y:=by simp at hY;omega
  refine (Int.fdiv_fmod_unique hp).2 ?_
  rcases h with ⟨h1,rfl,rfl⟩|⟨h1,h2,rfl,rfl⟩
  ·cases s
   ·simp at hX hY ⊢
    subst hX;subst hY
    omega
   ·simp at h1 hX hY ⊢
    subst hX;subst hY;subst h1
    simp only[Int.mul_neg]
    omega
  ·cases s
   ·exact absurd rfl h1
   ·simp at hX hY ⊢
    subst hX;subst hY
    rw[Int.natCast_sub ab]
    simp only[Int.mul_add,Int.mul_neg,Int.mul_one,Int.neg_add]
    omega
 ·have hp:Y<0:=by simp at hY;omega
  refine (Int.fdiv_fmod_unique' hp).2 ?_
  rcases h with ⟨h1,rfl,rfl⟩|⟨h1,h2,rfl,rfl⟩
  ·cases s
   ·simp at h1 hX hY ⊢
    subst hX;subst hY;subst h1
    simp only[Int.neg_mul_neg]
    omega
   ·simp at hX hY ⊢
    subst hX;subst hY
    simp only[Int.neg_mul]
    omega
  ·cases s
   ·simp at hX hY ⊢
    subst hX;subst hY
    rw[Int.natCast_sub ab]
    simp only[Int.mul_add,Int.neg_mul,Int.mul_neg,Int.mul_one,Int.neg_add,Int.neg_neg]
    omega
   ·exact absurd rfl h1
set_option maxRecDepth 100000 in
theorem jc (v u:Value) (X Y:Int) (j k:Nat) (w:World) (hv:bt w v X j) (hu:bt w u Y k) (hj:j<=536870912) (hk:k<=536870912):
  Calls Tryz.prog 147 #[v,u] w λe w'=>vJ w w' X Y e/\aw w w':=by
 obtain⟨s,p,n,c,rfl⟩:=hv.form
 obtain⟨t,q,m,d,rfl⟩:=hu.form
 refine aI λR' bI=> ?_
 obtain⟨b1,b2,b3,b4,kY⟩:=boxes4 w 32 32 32 32 #[.bool s,.slice p n c] #[.bool t,.slice q m d] #[.bool false,.slice none 0 0] #[.bool false,.slice none 0 0]
 have qq:=hv.len
 have nd:=hu.len
 have HJ:=Lib.hid (Nat.le_trans qq hj)
 have HK:=Lib.hid (Nat.le_trans nd hk)
 have HV:=Lib.hid hv
 have HU:=Lib.hid hu
 have hsz:w.heap.size+4<=((((w.alloc (.cells #[.bool s,.slice p n c] 32)).alloc (.cells #[.bool t,.slice q m d] 32)).alloc (.cells #[.bool false,.slice none 0 0] 32)).alloc (.cells #[.bool false,.slice none 0 0] 32)).heap.size:=by simp
 clear hv hu hj hk qq nd
 go_enter Tryz.func147,Tryz.ntmps147
 go_wp2_with fail
 generalize (((w.alloc _).alloc _).alloc _).alloc _=W at*
 go_cut [7,8] (λx5 x6 wc=>Gs w W wc 222 X Y x5 x6)
 case first=>
  have HS:=Lib.hid (λw' (h:aq W (w.heap.size+1+1) w')=>And.intro (h.cells b1 ab) (h.cells b2 ab))
  obtain⟨c1,c2,_,_⟩:=b1.two
  obtain⟨c3,c4,_,_⟩:=b2.two
  go_region_held3 (λw'=>(w'.cell? ⟨w.heap.size,0,none⟩=some (.bool s)/\w'.cell? ⟨w.heap.size,1,none⟩=some (.slice p n c))/\w'.cell? ⟨w.heap.size+1,0,none⟩=some (.bool t)/\w'.cell? ⟨w.heap.size+1,1,none⟩=some (.slice q m d)) ((refine HS.out _ ?_;(with_reducible (repeat (first|exact aq.refl _ _|refine aq.drew ?_|refine aq.drewN ?_ _|refine aq.alloc ?_ _|refine aq.set ?_ _|refine aq.aA ?_ (by assumption)|refine aq.nK ?_ (by first|omega|(simp;done)|(simp;omega)) _))))) (first
   | (go_at_call_of 140 (Value.slice p n c);refine (eM _ X j w _ HV.out gh).mono ?_;rintro e w1 ⟨u1,rfl,Ae,aD⟩;obtain⟨s1,p1,n1,k1,rfl⟩:=Ae.fh;have xo:=aD.size;(try simp at xo);(try (have q1:=bj.bq (bj.drew (bj.new _ _ #[_,_])) aD;(try simp at q1);obtain⟨q1a,q1b,q1c,q1d⟩:=q1.two;have q1l:=q1.lt;have q1n:=Nat.ne_of_lt q1l;have q1m:=Nat.ne_of_gt q1l));(try (have q2:=bj.bq (bj.drew (bj.alloc (bj.new _ _ #[_,_]) _)) aD;(try simp at q2);obtain⟨q2a,q2b,q2c,q2d⟩:=q2.two;have q2l:=q2.lt;have q2n:=Nat.ne_of_lt q2l;have q2m:=Nat.ne_of_gt q2l)))
   | (go_at_call_of 140 (Value.slice q m d);refine (eM _ Y k w _ HU.out gh).mono ?_;rintro e w2 ⟨u2,rfl,yt,aQ⟩;obtain⟨s2,p2,n2,k2,rfl⟩:=yt.fh;have hs2:=aQ.size;(try simp at hs2);(try (have q3:=bj.bq (bj.new _ _ #[_,_]) aQ;(try simp at q3);obtain⟨q3a,q3b,q3c,q3d⟩:=q3.two;have q3l:=q3.lt;have q3n:=Nat.ne_of_lt q3l;have q3m:=Nat.ne_of_gt q3l));(try (have q4:=bj.bq (bj.alloc (bj.new _ _ #[_,_]) _) aQ;(try simp at q4);obtain⟨q4a,q4b,q4c,q4d⟩:=q4.two;have q4l:=q4.lt;have q4n:=Nat.ne_of_lt q4l;have q4m:=Nat.ne_of_gt q4l));(try (have q5:=bj.bq q1 aQ;(try simp at q5);obtain⟨q5a,q5b,q5c,q5d⟩:=q5.two;have q5l:=q5.lt;have q5n:=Nat.ne_of_lt q5l;have q5m:=Nat.ne_of_gt q5l));(try (have q6:=bj.bq q2 aQ;(try simp at q6);obtain⟨q6a,q6b,q6c,q6d⟩:=q6.two;have q6l:=q6.lt;have q6n:=Nat.ne_of_lt q6l;have q6m:=Nat.ne_of_gt q6l));(try (have q7:=bj.bq (bj.alloc q1 _) aQ;(try simp at q7);obtain⟨q7a,q7b,q7c,q7d⟩:=q7.two;have q7l:=q7.lt;have q7n:=Nat.ne_of_lt q7l;have q7m:=Nat.ne_of_gt q7l)))
   | fail)
  all_goals
   go_wp2
   go_meet
   refine⟨_,_,s1,p1,n1,k1,s2,p2,n2,k2,rfl,rfl,?_,?_,Ae,yt,?_⟩
   ·(with_reducible (repeat (first|assumption|exact bj.newAt (by first|rfl|(simp;done)) _ _|refine bj.alloc ?_ _|refine bj.drew ?_|refine bj.bK (u:=.bool false) (v:=.slice none 0 0) ?_ _ _|refine bj.dH ?_ (by first|omega|(simp;omega)) _ _|refine bj.bq ?_ (by assumption))))
   ·(with_reducible (repeat (first|assumption|exact bj.newAt (by first|rfl|(simp;done)) _ _|refine bj.alloc ?_ _|refine bj.drew ?_|refine bj.bK (u:=.bool false) (v:=.slice none 0 0) ?_ _ _|refine bj.dH ?_ (by first|omega|(simp;omega)) _ _|refine bj.bq ?_ (by assumption))))
   ·exact gh
 case rest=>
  obtain⟨g,h,s1,p1,n1,k1,s2,p2,n2,k2,rfl,rfl,B5,B6,Ae,yt,hbc⟩:=hcut
  obtain⟨Hv,kW,hX⟩:=Ae.parts
  obtain⟨xF,ll,hY⟩:=yt.parts
  have B3:=b3.bq hbc
  have B4:=b4.bq hbc
  have ln:aw w wc:=kY.aA hbc
  have HR1:=Lib.hid (kW.below ln)
  have HR2:=Lib.hid (ll.below ln)
  have HN1:=Lib.hid Hv
  have HN2:=Lib.hid xF
  have HX:=Lib.hid hX
  have HY:=Lib.hid hY
  have HM1:Hid (n1<=536870912):=by show _<=_;rw[Hv];exact HJ.out
  have HM2:Hid (n2<=536870912):=by show _<=_;rw[xF];exact HK.out
  have hzs:w.heap.size+4<=wc.heap.size:=Nat.le_trans hsz hbc.size
  clear b1 b2 b3 b4 hbc kY Ae yt kW ll hX hY Hv xF hsz
  obtain⟨c1,c2,_,_⟩:=B5.two
  obtain⟨c3,c4,_,_⟩:=B6.two
  go_wp2_with fail
  refine (sX _ _ n1 n2 _ _ _ HR1.out HR2.out (ak _) (ak _) HM1.out HM2.out).mono ?_
  rw[ah,ah]
  rintro e w3 ⟨hd,ck⟩
  replace ck:aw _ w3:=ck
  have F5:=B5.bq ck
  have F6:=B6.bq ck
  have F3:=B3.bq ck
  have F4:=B4.bq ck
  have hbw3:=ln.aA ck
  obtain⟨e1,e2,_,_⟩:=F5.two
  obtain⟨e3,e4,_,_⟩:=F6.two
  obtain⟨e5,e6,f5,f6⟩:=F3.two
  obtain⟨e7,e8,f7,f8⟩:=F4.two
  rcases hd with ⟨h0,rfl⟩|⟨h0,vq,vr,rfl,Bt,uQ⟩
  ·have hY0:Y=0:=by have:=HY.out;split at this <;> omega
   have G3:=(F3.bK (.bool false) (.slice none 0 0)).dH (b':=w.heap.size+3) ab (.bool false) (.slice none 0 0)
   have G4:=(F4.dH (b':=w.heap.size+2) ab (.bool false) (.slice none 0 0)).bK (.bool false) (.slice none 0 0)
   have hbz:=(hbw3.bK (b:=w.heap.size+2) ab (.bool false) (.slice none 0 0)).bK (b:=w.heap.size+3) ab (.bool false) (.slice none 0 0)
   clear HX HY HN1 HN2 h0
   go_wp2
   generalize (((w3.setCell ⟨w.heap.size+1+1,0,none⟩ (.bool false)).setCell ⟨w.heap.size+1+1,1,none⟩ (.slice none 0 0)).setCell ⟨w.heap.size+1+1+1,0,none⟩ (.bool false)).setCell ⟨w.heap.size+1+1+1,1,none⟩ (.slice none 0 0)=wz at*
   obtain⟨d1,d2,_,_⟩:=G3.two
   obtain⟨d3,d4,_,_⟩:=G4.two
   exact bodyPost_ret (v:=.tuple #[.agg #[.bool false,.slice none 0 0],.agg #[.bool false,.slice none 0 0],.int .i64 20]) (by simp[results,Tryz.results147,go_sem,d1,d2,d3,d4]) rfl (bI.out _ _ ⟨.inl ⟨hY0,_,_,rfl,aj.zero _ _,aj.zero _ _⟩,hbz⟩)
  ·obtain⟨pq,kq,rfl,_,_,_⟩:=Own.form Bt
   obtain⟨pr,kr,rfl,_,_,_⟩:=Own.form uQ
   generalize hlq:(limbs (X.natAbs/Y.natAbs)).length=lq at*
   generalize Du:(limbs (X.natAbs%Y.natAbs)).length=lr at*
   have HLQ:=Lib.hid hlq.symm
   have JP:=Lib.hid Du.symm
   have HOQ:=Lib.hid Bt
   have HOR:=Lib.hid uQ
   have H0:=Lib.hid h0
   clear Bt uQ hlq Du h0 e2 e6 e8 e5 e7 f5 f6 f7 f8 c1 c2 c3 c4
   by_cases hst:s1=s2
   ·subst hst
    clear e4
    go_wp2_with fail
    have hg3:g≠w.heap.size+1+1:=bj.apart F5 F3 fc
    have hg4:g≠w.heap.size+1+1+1:=bj.apart F5 F4 fc
    have hh3:h≠w.heap.size+1+1:=bj.apart F6 F3 fc
    have hh4:h≠w.heap.size+1+1+1:=bj.apart F6 F4 fc
    have HS:=Lib.hid (λw' (hk:aR w3 (w.heap.size+1+1) (w.heap.size+1+1+1) w')=>And.intro ((hk.cls F5 hg3 hg4).cell (j:=0) rfl) ((hk.cls F6 hh3 hh4).cell (j:=0) rfl))
    go_region_held3 (λw'=>w'.cell? ⟨g,0,none⟩=some (.bool s1)/\w'.cell? ⟨h,0,none⟩=some (.bool s1)) ((refine HS.out _ ?_;(with_reducible (repeat (first|exact aR.refl _ _ _|refine aR.drew ?_|refine aR.KL ?_ _|refine aR.lX ?_ _|refine aR.aA ?_ (by assumption)))))) (first
     | (go_at_call_of 92 (Value.slice pq lq kq);refine (eU _ _ _ _ _).mono ?_;rintro e w6 ⟨sg,rfl,uC,pw⟩)
     | (go_at_call_of 92 (Value.slice pr lr kr);refine (eU _ _ _ _ _).mono ?_;rintro e w7 ⟨vK,rfl,Lz,DB⟩;obtain⟨i1,i2,i3,i4⟩:=(bj.bq (w':=w7) F3 gh).two;obtain⟨j1,j2,j3,j4⟩:=(bj.bq (w':=w7) F4 gh).two)
     | fail)
    have E3:=(bj.bq (w':=w7) F3 gh)
    have E4:=(bj.bq (w':=w7) F4 gh)
    have FW:aw w3 w7:=gh
    have FB:aw w w7:=gh
    have Bt:=Own.below (HOQ).out FW
    have uQ:=Own.below (HOR).out FW
    have Cn:=(Own.bK (Own.bK Bt E3 fc (.bool sg) (.slice pq lq kq)) (E4.dH (b':=w.heap.size+1+1) ab (.bool sg) (.slice pq lq kq)) fc (.bool vK) (.slice pr lr kr))
    have Co:=(Own.bK (Own.bK uQ E3 fc (.bool sg) (.slice pq lq kq)) (E4.dH (b':=w.heap.size+1+1) ab (.bool sg) (.slice pq lq kq)) fc (.bool vK) (.slice pr lr kr))
    have G3:=(E3.bK (.bool sg) (.slice pq lq kq)).dH (b':=w.heap.size+1+1+1) ab (.bool vK) (.slice pr lr kr)
    have G4:=(E4.dH (b':=w.heap.size+1+1) ab (.bool sg) (.slice pq lq kq)).bK (.bool vK) (.slice pr lr kr)
    have hbz:=(FB.bK (b:=w.heap.size+1+1) ab (.bool sg) (.slice pq lq kq)).bK (b:=w.heap.size+1+1+1) ab (.bool vK) (.slice pr lr kr)
    have LA:=Lib.hid Cn
    have LB:=Lib.hid Co
    clear Bt uQ Cn Co
    go_wp2
    generalize (((w7.setCell ⟨w.heap.size+1+1,0,none⟩ (.bool sg)).setCell ⟨w.heap.size+1+1,1,none⟩ (.slice pq lq kq)).setCell ⟨w.heap.size+1+1+1,0,none⟩ (.bool vK)).setCell ⟨w.heap.size+1+1+1,1,none⟩ (.slice pr lr kr)=wz at*
    obtain⟨d1,d2,_,_⟩:=G3.two
    obtain⟨d3,d4,_,_⟩:=G4.two
    have AH:=oD HX.out HY.out H0.out (.inl ⟨.inl rfl,rfl,rfl⟩)
    refine bodyPost_ret (v:=.tuple #[.agg #[.bool sg,.slice pq lq kq],.agg #[.bool vK,.slice pr lr kr],.int .i64 0]) (by simp[results,Tryz.results147,go_sem,d1,d2,d3,d4]) rfl (bI.out _ _ ⟨.inr ⟨by have:=H0.out;omega,_,_,rfl,?_,?_⟩,hbz⟩)
    ·rw[uC.out]
     exact aj.of (by rw[<-(HLQ).out];exact Own.mono LA.out ln.size) (HLQ).out _ (by simpa using AH.1)
    ·rw[Lz.out]
     exact aj.of (by rw[<-(JP).out];exact Own.mono LB.out ln.size) (JP).out _ (by simpa using AH.2)
   ·obtain rfl:s2= !s1:=by cases s1 <;> cases s2 <;> simp_all
    by_cases ui:X.natAbs%Y.natAbs=0
    ·have hl0:lr=0:=by have:=JP.out;rw[ui,bG] at this;exact this
     have HR0:=Lib.hid ui
     subst hl0
     clear ui hst e4
     go_wp2_with fail
     have hg3:g≠w.heap.size+1+1:=bj.apart F5 F3 fc
     have hg4:g≠w.heap.size+1+1+1:=bj.apart F5 F4 fc
     have hh3:h≠w.heap.size+1+1:=bj.apart F6 F3 fc
     have hh4:h≠w.heap.size+1+1+1:=bj.apart F6 F4 fc
     have HS:=Lib.hid (λw' (hk:aR w3 (w.heap.size+1+1) (w.heap.size+1+1+1) w')=>And.intro ((hk.cls F5 hg3 hg4).cell (j:=0) rfl) ((hk.cls F6 hh3 hh4).cell (j:=0) rfl))
     go_region_held3 (λw'=>w'.cell? ⟨g,0,none⟩=some (.bool s1)/\w'.cell? ⟨h,0,none⟩=some (.bool (!s1))) ((refine HS.out _ ?_;(with_reducible (repeat (first|exact aR.refl _ _ _|refine aR.drew ?_|refine aR.KL ?_ _|refine aR.lX ?_ _|refine aR.aA ?_ (by assumption)))))) (first
      | (go_at_call_of 92 (Value.slice pq lq kq);refine (eU _ _ _ _ _).mono ?_;rintro e w6 ⟨sg,rfl,uC,pw⟩)
      | (go_at_call_of 92 (Value.slice pr 0 kr);refine (eU _ _ _ _ _).mono ?_;rintro e w7 ⟨vK,rfl,Lz,DB⟩;obtain⟨i1,i2,i3,i4⟩:=(bj.bq (w':=w7) F3 gh).two;obtain⟨j1,j2,j3,j4⟩:=(bj.bq (w':=w7) F4 gh).two)
      | fail)
     have E3:=(bj.bq (w':=w7) F3 gh)
     have E4:=(bj.bq (w':=w7) F4 gh)
     have FW:aw w3 w7:=gh
     have FB:aw w w7:=gh
     have Bt:=Own.below (HOQ).out FW
     have uQ:=Own.below (HOR).out FW
     have Cn:=(Own.bK (Own.bK Bt E3 fc (.bool sg) (.slice pq lq kq)) (E4.dH (b':=w.heap.size+1+1) ab (.bool sg) (.slice pq lq kq)) fc (.bool vK) (.slice pr 0 kr))
     have Co:=(Own.bK (Own.bK uQ E3 fc (.bool sg) (.slice pq lq kq)) (E4.dH (b':=w.heap.size+1+1) ab (.bool sg) (.slice pq lq kq)) fc (.bool vK) (.slice pr 0 kr))
     have G3:=(E3.bK (.bool sg) (.slice pq lq kq)).dH (b':=w.heap.size+1+1+1) ab (.bool vK) (.slice pr 0 kr)
     have G4:=(E4.dH (b':=w.heap.size+1+1) ab (.bool sg) (.slice pq lq kq)).bK (.bool vK) (.slice pr 0 kr)
     have hbz:=(FB.bK (b:=w.heap.size+1+1) ab (.bool sg) (.slice pq lq kq)).bK (b:=w.heap.size+1+1+1) ab (.bool vK) (.slice pr 0 kr)
     have LA:=Lib.hid Cn
     have LB:=Lib.hid Co
     clear Bt uQ Cn Co
     go_wp2
     generalize (((w7.setCell ⟨w.heap.size+1+1,0,none⟩ (.bool sg)).setCell ⟨w.heap.size+1+1,1,none⟩ (.slice pq lq kq)).setCell ⟨w.heap.size+1+1+1,0,none⟩ (.bool vK)).setCell ⟨w.heap.size+1+1+1,1,none⟩ (.slice pr 0 kr)=wz at*
     obtain⟨d1,d2,_,_⟩:=G3.two
     obtain⟨d3,d4,_,_⟩:=G4.two
     have AH:=oD HX.out HY.out H0.out (.inl ⟨.inr HR0.out,rfl,rfl⟩)
     refine bodyPost_ret (v:=.tuple #[.agg #[.bool sg,.slice pq lq kq],.agg #[.bool vK,.slice pr 0 kr],.int .i64 0]) (by simp[results,Tryz.results147,go_sem,d1,d2,d3,d4]) rfl (bI.out _ _ ⟨.inr ⟨by have:=H0.out;omega,_,_,rfl,?_,?_⟩,hbz⟩)
     ·rw[uC.out]
      exact aj.of (by rw[<-(HLQ).out];exact Own.mono LA.out ln.size) (HLQ).out _ (by simpa using AH.1)
     ·rw[Lz.out]
      exact aj.of (by rw[<-(JP).out];exact Own.mono LB.out ln.size) (JP).out _ (by simpa using AH.2)
    ·have hlp:0<lr:=by have:=JP.out;have:=di ui;omega
     have hpi:(0:Int)<(lr:Int):=by omega
     have HR0:=Lib.hid ui
     have Ku:Hid (lq<=536870912):=by show _<=_;rw[HLQ.out];exact Nat.le_trans (cP (Nat.div_le_self _ _)) HJ.out
     clear ui hst
     go_wp2_with fail
     refine (FU _ _ lq 1 _ [1] _ ((Rd.own HOQ.out).alloc _) (Rd.lit1 rfl) (ak _) (cw.cons ab cw.nil) (by have:=Ku.out;omega) ab).mono ?_
     rintro e w4 ⟨v4,rfl,ho4,fe⟩
     replace fe:aw _ w4:=fe
     rw[ah,show ag [1]=1 by rfl] at ho4
     obtain⟨pm,cm,rfl,_,_,_⟩:=Own.form ho4
     generalize hnm:(limbs (X.natAbs/Y.natAbs+1)).length=nm at*
     have Km:=Lib.hid hnm.symm
     have IH:aw w3 w4:=((aw.refl w3).alloc _).aA fe
     have Ic:=Lib.hid (Own.mono ho4 (show w3.heap.size<=_ by simp))
     have HOR4:=Lib.hid (Own.below HOR.out IH)
     have HY4:=Lib.hid (HR2.out.below (ck.aA IH))
     obtain⟨i1,i2,_,_⟩:=(F6.bq IH).two
     clear ho4 hnm fe
     go_wp2_with fail
     refine (zN _ _ n2 lr _ _ _ HY4.out (Rd.own HOR4.out) (ak _) (ak _) (by have:=HM2.out;omega)).mono ?_
     rintro e w5 ⟨⟨h,_⟩|⟨_,v5,rfl,ho5⟩,il⟩
     ·rw[ah,ah] at h;exact absurd h (by have:=Nat.mod_lt X.natAbs (Nat.pos_of_ne_zero H0.out);omega)
     replace il:aw _ w5:=il
     rw[ah,ah] at ho5
     obtain⟨pn,cn,rfl,_,_,_⟩:=Own.form ho5
     generalize hnn:(limbs (Y.natAbs-X.natAbs%Y.natAbs)).length=nn at*
     have HLN:=Lib.hid hnn.symm
     have II:aw w3 w5:=IH.aA il
     have HOM:=Lib.hid (Own.mono (Own.below Ic.out il) ck.size)
     have HON:=Lib.hid (Own.mono ho5 (Nat.le_trans ck.size IH.size))
     have T3:=F3.bq II
     have T4:=F4.bq II
     have T5:=F5.bq II
     have T6:=F6.bq II
     have hbw5:=hbw3.aA II
     clear ho5 hnn il F3 F4 F5 F6 IH II ck hbw3 HOQ HOR Ic HOR4 HY4 i1 i2
     obtain⟨e1,_,_,_⟩:=T5.two
     obtain⟨e3,_,_,_⟩:=T6.two
     go_wp2_with fail
     have hg3:g≠w.heap.size+1+1:=bj.apart T5 T3 fc
     have hg4:g≠w.heap.size+1+1+1:=bj.apart T5 T4 fc
     have hh3:h≠w.heap.size+1+1:=bj.apart T6 T3 fc
     have hh4:h≠w.heap.size+1+1+1:=bj.apart T6 T4 fc
     have HS:=Lib.hid (λw' (hk:aR w5 (w.heap.size+1+1) (w.heap.size+1+1+1) w')=>And.intro ((hk.cls T5 hg3 hg4).cell (j:=0) rfl) ((hk.cls T6 hh3 hh4).cell (j:=0) rfl))
     go_region_held3 (λw'=>w'.cell? ⟨g,0,none⟩=some (.bool s1)/\w'.cell? ⟨h,0,none⟩=some (.bool (!s1))) ((refine HS.out _ ?_;(with_reducible (repeat (first|exact aR.refl _ _ _|refine aR.drew ?_|refine aR.KL ?_ _|refine aR.lX ?_ _|refine aR.aA ?_ (by assumption)))))) (first
      | (go_at_call_of 92 (Value.slice pm nm cm);refine (eU _ _ _ _ _).mono ?_;rintro e w6 ⟨sg,rfl,uC,pw⟩)
      | (go_at_call_of 92 (Value.slice pn nn cn);refine (eU _ _ _ _ _).mono ?_;rintro e w7 ⟨vK,rfl,Lz,DB⟩;obtain⟨i1,i2,i3,i4⟩:=(bj.bq (w':=w7) T3 gh).two;obtain⟨j1,j2,j3,j4⟩:=(bj.bq (w':=w7) T4 gh).two)
      | fail)
     have E3:=(bj.bq (w':=w7) T3 gh)
     have E4:=(bj.bq (w':=w7) T4 gh)
     have FW:aw w5 w7:=gh
     have FB:aw w w7:=gh
     have Bt:=Own.below (HOM).out FW
     have uQ:=Own.below (HON).out FW
     have Cn:=(Own.bK (Own.bK Bt E3 fc (.bool sg) (.slice pm nm cm)) (E4.dH (b':=w.heap.size+1+1) ab (.bool sg) (.slice pm nm cm)) fc (.bool vK) (.slice pn nn cn))
     have Co:=(Own.bK (Own.bK uQ E3 fc (.bool sg) (.slice pm nm cm)) (E4.dH (b':=w.heap.size+1+1) ab (.bool sg) (.slice pm nm cm)) fc (.bool vK) (.slice pn nn cn))
     have G3:=(E3.bK (.bool sg) (.slice pm nm cm)).dH (b':=w.heap.size+1+1+1) ab (.bool vK) (.slice pn nn cn)
     have G4:=(E4.dH (b':=w.heap.size+1+1) ab (.bool sg) (.slice pm nm cm)).bK (.bool vK) (.slice pn nn cn)
     have hbz:=(FB.bK (b:=w.heap.size+1+1) ab (.bool sg) (.slice pm nm cm)).bK (b:=w.heap.size+1+1+1) ab (.bool vK) (.slice pn nn cn)
     have LA:=Lib.hid Cn
     have LB:=Lib.hid Co
     clear Bt uQ Cn Co
     go_wp2
     generalize (((w7.setCell ⟨w.heap.size+1+1,0,none⟩ (.bool sg)).setCell ⟨w.heap.size+1+1,1,none⟩ (.slice pm nm cm)).setCell ⟨w.heap.size+1+1+1,0,none⟩ (.bool vK)).setCell ⟨w.heap.size+1+1+1,1,none⟩ (.slice pn nn cn)=wz at*
     obtain⟨d1,d2,_,_⟩:=G3.two
     obtain⟨d3,d4,_,_⟩:=G4.two
     have AH:=oD HX.out HY.out H0.out (.inr ⟨by cases s1 <;> simp,HR0.out,rfl,rfl⟩)
     refine bodyPost_ret (v:=.tuple #[.agg #[.bool sg,.slice pm nm cm],.agg #[.bool vK,.slice pn nn cn],.int .i64 0]) (by simp[results,Tryz.results147,go_sem,d1,d2,d3,d4]) rfl (bI.out _ _ ⟨.inr ⟨by have:=H0.out;omega,_,_,rfl,?_,?_⟩,hbz⟩)
     ·rw[uC.out]
      exact aj.of (by rw[<-(Km).out];exact Own.mono LA.out ln.size) (Km).out _ (by simpa using AH.1)
     ·rw[Lz.out]
      exact aj.of (by rw[<-(HLN).out];exact Own.mono LB.out ln.size) (HLN).out _ (by simpa using AH.2)
end
section
open Go.RowKit
theorem uD:(Tryz.prog.info? 3).map (λi=>(i.zero,i.size,i.bytes))=some (some (.int .i64 0),1,8):=by kernel_rfl
def hval (xs:List Nat):Nat:=val 65536 xs
def halves (n:Nat):List Nat:=gN 65536 n
def fH (xs:List Nat):Prop:=dP 65536 xs
theorem bJ (n:Nat):fH (halves n):=nw ab n
theorem aX (n:Nat):hval (halves n)=n:=jG ab n
theorem fH.at {xs:List Nat} (h:fH xs) {k x:Nat} (hk:xs[k]? =some x):x<65536:=dP.at h hk
theorem ky:halves 0=[]:=dN _
theorem EC {m n:Nat} (h:halves m=halves n):m=n:=uN ab h
theorem jB (xs:List Nat) (x:Nat):hval (xs++[x])=hval xs+65536^xs.length*x:=kZ _ xs x
theorem qX {xs:List Nat} (h:fH xs):hval xs<65536^xs.length:=nx h
theorem db {xs:List Nat} (h:cw xs):(halves (ag xs)).length<=2*xs.length:=by
 apply ez ab
 have:=fV h
 rwa [Nat.pow_mul]
theorem Rd.i64 {w:World} {v:Value} {n:Nat} {xs:List Nat} (h:Rd w 1 v n (ints .i64 xs)):∃ p c,v=.slice p n c/\n<=c/\c<=9223372036854775807/\xs.length=n:=by
 obtain⟨p,c,hv,h1,h2,h3⟩:=h.form
 unfold maxLen at h2
 exact⟨p,c,hv,h1,by omega,by simpa using h3⟩
theorem Rd.Cp {w:World} {n c m:Nat} {p:Option Addr} {xs:List Nat} {k:IntKind} (h:Rd w 1 (.slice p n c) n (ints k xs)) (hm:m<=n):Rd w 1 (.slice p m c) m (ints k (xs.take m)):=by
 have:=h.take hm
 rwa [Nat.mul_one,ot] at this
theorem Own.Cp {w:World} {B e n c m:Nat} {p:Option Addr} {xs:List Nat} {k:IntKind} (h:w.ownsRow B e 1 (.slice p n c) n (ints k xs)) (hm:m<=n):w.ownsRow B e 1 (.slice p m c) m (ints k (xs.take m)):=by
 have:=Own.take h hm
 rwa [Nat.mul_one,ot] at this
set_option maxRecDepth 100000 in
theorem gW (va:Value) (n i:Nat) (xs:List Nat) (w:World) (hr:Rd w 1 va n (ints .i64 xs)):
  Calls Tryz.prog 217 #[va,.int .i64 (i:Int)] w λe w'=>e=.returned (.int .i64 ((xs.getD i 0:Nat):Int))/\w=w':=by
 obtain⟨p,c,rfl,dL,eH,ey⟩:=hr.i64
 have HX:=Lib.hid ey
 clear ey
 by_cases hi:i<n
 ·obtain⟨b,off,x,rfl,_,hx,hc⟩:=hr.cellAt hi
  have e:Hid (xs.getD i 0=x):=by show _=_;rw[List.getD,hx];rfl
  clear hx
  refine aI λR' bI=> ?_
  go_enter Tryz.func217,Tryz.ntmps217
  go_wp2
  exact bI.out _ _ ⟨lg (by rw[e.out]),rfl⟩
 ·have e:Hid (xs.getD i 0=0):=by show _=_;rw[List.getD,List.getElem?_eq_none (by rw[HX.out];omega)];rfl
  refine aI λR' bI=> ?_
  go_enter Tryz.func217,Tryz.ntmps217
  go_wp2
  exact bI.out _ _ ⟨lg (by rw[e.out];rfl),rfl⟩
set_option maxRecDepth 100000 in
theorem yu (p:Option Addr) (n c:Nat) (xs:List Nat) (w:World) (hr:Rd w 1 (.slice p n c) n (ints .i64 xs)) (hl:fH xs):
  Calls Tryz.prog 235 #[.slice p n c] w λe w'=>(∃ m,m<=n/\e=.returned (.slice p m c)/\halves (hval xs)=xs.take m)/\w=w':=by
 obtain⟨p',c',hv,dL,eH,ey⟩:=hr.i64
 simp only[Value.slice.injEq,true_and] at hv
 obtain⟨rfl,rfl⟩:=hv
 have HX:Hid (xs.length=n):=ey
 clear ey
 refine aI λR' bI=> ?_
 go_enter Tryz.func235,Tryz.ntmps235
 go_wp2
 go_loop [0] (λv=>∃ m,m<=n/\v=.slice p m c/\hval (xs.take m)=hval xs) (λv=>match v with | .slice _ m _=>m|_=>0)
 case atStart=>exact⟨n,Nat.le_refl _,rfl,by rw[List.take_of_length_le (Nat.le_of_eq HX.out)]⟩
 case round=>
  obtain⟨m,hm,rfl,hv⟩:=hrel
  have HV:Hid (hval (xs.take m)=hval xs):=hv
  clear hv
  by_cases h0:m=0
  ·subst h0
   go_wp2
   exact bI.out _ _ ⟨⟨0,Nat.zero_le _,rfl,jw ab hl (Nat.zero_le _) HV.out (.inl rfl)⟩,rfl⟩
  ·obtain⟨b,off,x,rfl,hb,hx,hc⟩:=hr.cellAt (k:=m-1) ab
   have Kj:Hid (xs[m-1]? =some x):=hx
   clear hx
   have h0':0<m:=by omega
   obtain⟨j,rfl⟩:∃ j,m=j+1:=⟨m-1,by omega⟩
   rw[Nat.add_sub_cancel] at hc
   by_cases oL:x=0
   ·subst oL
    go_wp2
    go_round
    case rel=>exact⟨j,by omega,rfl,(kh Kj.out).symm.trans HV.out⟩
    case measure=>simp
   ·have hx0':((x:Int) == 0)=false:=by rw[beq_eq_false_iff_ne];omega
    go_wp2
    exact bI.out _ _ ⟨⟨j+1,hm,rfl,jw ab hl (by rw[HX.out];exact hm) HV.out (.inr ⟨x,Kj.out,oL⟩)⟩,rfl⟩
theorem Own.cut {w:World} {B e n c m:Nat} {p:Option Addr} {xs:List Nat} (h:w.ownsRow B e 1 (.slice p n c) n (ints .i64 xs)) (hm:m<=n) (hl:halves (hval xs)=xs.take m):
  w.ownsRow B e 1 (.slice p m c) (halves (hval xs)).length (ints .i64 (halves (hval xs)))/\m=(halves (hval xs)).length:=by
 have hx:xs.length=n:=by have:=h.1;simpa using this
 have e2:(halves (hval xs)).length=m:=by rw[hl,List.length_take];omega
 have:=Own.Cp h hm
 rw[<-hl] at this
 rw[e2]
 exact⟨this,rfl⟩
def Gt (w:World) (B:Nat) (xs:List Nat) (ov iv:Value) (wr:World):Prop:=
 ∃ (k:Nat) (hs:List Nat),k<=xs.length/\iv=.int .i64 (k:Int)/\hs.length=2*k/\fH hs/\hval hs=ag (xs.take k)/\
   wr.ownsRow B 3 1 ov (2*k) (ints .i64 hs)/\Below B w wr
theorem Gu {x:Nat} (h:x<4294967296):IntKind.i64.wrap ((x:Int).tmod 65536)=((x%65536:Nat):Int):=by
 rw[Int.tmod_eq_emod_of_nonneg ab,IntWalk.i64_in _ ab];simp
theorem Gv {x:Nat} (h:x<4294967296):IntKind.i64.wrap (IntKind.u32.wrap ((x:Int)/65536))=((x/65536:Nat):Int):=by
 rw[IntKind.wrap_u32',Int.emod_eq_of_lt ab ab,IntWalk.i64_in _ ab];simp
theorem yv {k x:Nat} {xs hs:List Nat} (hx:xs[k]? =some x) (jY:x<4294967296) (hl:hs.length=2*k) (hh:fH hs) (hv:hval hs=ag (xs.take k)):
  fH (hs++[x%65536,x/65536])/\hval (hs++[x%65536,x/65536])=ag (xs.take (k+1)):=by
 have hk:k<xs.length:=(List.getElem?_eq_some_iff.1 hx).1
 refine⟨dP.append hh (dP.cons (Nat.mod_lt _ ab) (dP.cons ab (dP.nil _))),?_⟩
 rw[bF hx,dp,<-hv,List.length_take,Nat.min_eq_left ab]
 show val 65536 _=_
 rw[iz,hl]
 show hval hs+_=_
 congr 1
 rw[Nat.pow_mul]
 show (4294967296:Nat)^k*(x%65536+65536*(x/65536+65536*0))=_
 congr 1
 omega
set_option maxRecDepth 100000 in
theorem eN (va:Value) (n:Nat) (xs:List Nat) (w:World) (hr:Rd w 1 va n (ints .u32 xs)) (hl:cw xs) (hn:n<=1073741824):
  Calls Tryz.prog 216 #[va] w λe w'=>∃ v',e=.returned v'/\w'.ownsRow w.heap.size 3 1 v' (halves (ag xs)).length (ints .i64 (halves (ag xs)))/\Below w.heap.size w w':=by
 obtain⟨p,c,rfl,dL,eH,ey⟩:=hr.u32
 obtain⟨i0,hi,iT,lj,ng⟩:=info_parts uD
 obtain⟨B,hB⟩:∃ B,B=w.heap.size:=⟨_,rfl⟩
 have HB:=Lib.hid hB
 have Hr:=Lib.hid hr
 have HL:=Lib.hid hl
 have HX:=Lib.hid ey
 rw[<-hB]
 clear hr hl ey hB
 refine aI λR' bI=> ?_
 go_enter Tryz.func216,Tryz.ntmps216
 go_wp2
 go_loopw [3,4] (λov iv wr=>Gt w B xs ov iv wr) (λ_ iv _=>n-(intOf iv).toNat)
 case atStart=>exact⟨0,[],Nat.zero_le _,rfl,rfl,dP.nil _,rfl,World.ownsRow_nil _ _ _ _,Below.refl _ _⟩
 case round=>
  obtain⟨k,hs,hk,rfl,hhl,hhh,hhv,az,hb⟩:=hrel
  have HK:=Lib.hid hk
  have HO:=Lib.hid az
  have HHL:=Lib.hid hhl
  have HHH:=Lib.hid hhh
  have HHV:=Lib.hid hhv
  have fW:=Lib.hid hb
  have uj:B<=wr.heap.size:=by have:=hb.size;have:=HB.out;omega
  have hkn':k<=n:=by rw[<-HX.out];exact hk
  clear hk az hhl hhh hhv hb
  by_cases rL:k<n
  ·obtain⟨b1,o1,x,rfl,aD,eI,hcw⟩:=Hr.out.cellAt rL
   have kG:=(fW.out.cell (p:=⟨b1,o1+k,none⟩) (by rw[HB.out];exact aD)).trans hcw
   have hne:=Kg HO.out (b:=b1) (by rw[HB.out];exact aD)
   have um:=Lib.hid eI
   have jY:=HL.out.at eI
   have HNE:=Lib.hid hne
   have JR:(0:Int)<=(k:Int):=by omega
   have jo:(k:Int)<(n:Int):=by omega
   clear eI hcw hne
   go_wp2_with fail
   go_region_held3 (λw'=>w'.cell? ⟨b1,o1+k,none⟩=some (.int .u32 (x:Int))) (first|exact kG|go_keep|exact xP vL kG HNE.out)
    ((refine nz (by rfl) _ _ 272 (by rfl) B 3 i0 (.int .i64 0) 1 8 Tryz.underlying272 hi iT lj ng rfl ab _ (2*k) (ints .i64 hs) (by rfl) ((HO.out.alloc _).drew) _ 2 (ints .i64 [x%65536,x/65536]) (by rfl) (Rd.drew (Rd.lit2 (Gu jY) (Gv jY))) (ld .i64 [x%65536,x/65536]) (by unfold maxLen;omega) ab (by simp;omega) ?_;intro v1 w1 eX vL))
   have qu:=Lib.hid eX
   have HG1:=Lib.hid vL
   clear eX vL
   go_wp2_with fail
   go_roundw
   case rel=>
    have hst:=yv um.out jY HHL.out HHH.out HHV.out
    exact⟨k+1,hs++[x%65536,x/65536],by rw[HX.out];omega,by go_num,by simp[HHL.out];omega,hst.1,hst.2,by rw[gm];exact qu.out,Below.behind fW.out uj HG1.out HO.out (Nat.le_refl _)⟩
   case measure=>simp[intOf];omega
  ·obtain rfl:k=n:=by omega
   obtain⟨p1,c1,Dv,_,_,_⟩:=Own.form HO.out
   have HV1:=Lib.hid Dv
   have pN:Hid (hval hs=ag xs):=by show _=_;rw[HHV.out,bm (Nat.le_of_eq HX.out)]
   subst Dv
   go_wp2_with fail
   refine (yu p1 (2*k) c1 hs _ (Rd.own HO.out) HHH.out).mono ?_
   rintro e w2 ⟨⟨m,hm,rfl,xr⟩,rfl⟩
   have HC:=Own.cut HO.out hm xr
   rw[pN.out] at HC
   have HC1:=Lib.hid HC.1
   have HC2:=Lib.hid HC.2
   clear HC xr
   go_wp2_with fail
   refine bI.out _ _ ⟨_,rfl,?_,fW.out⟩
   have:=HC1.out
   rw[<-HC2.out] at this ⊢
   exact this
def LimbInv (w:World) (B m:Nat) (hs:List Nat) (ov iv:Value) (wr:World):Prop:=
 ∃ (k:Nat) (ds:List Nat),2*k<=m+1/\iv=.int .i64 ((2*k:Nat):Int)/\ds.length=k/\cw ds/\ag ds=hval (hs.take (2*k))/\
   wr.ownsRow B 191 1 ov k (ints .u32 ds)/\Below B w wr
theorem yw {k lo hi:Nat} {ds hs:List Nat} (hl:ds.length=k) (hd:cw ds) (hv:ag ds=hval (hs.take (2*k))) (JO:hs.getD (2*k) 0=lo) (hhi:hs.getD (2*k+1) 0=hi)
  (h1:lo<65536) (h2:hi<65536):cw (ds++[lo+65536*hi])/\ag (ds++[lo+65536*hi])=hval (hs.take (2*(k+1))):=by
 refine⟨hd.append (cw.cons ab cw.nil),?_⟩
 rw[dp,hl,hv]
 show _=val 65536 (hs.take (2*k+1+1))
 rw[bV,bV,JO,hhi,Nat.pow_succ,Nat.add_assoc]
 show hval _+_=hval _+_
 congr 1
 rw[show (4294967296:Nat)=65536^2 by rfl,<-Nat.pow_mul,Nat.mul_add,Nat.mul_assoc]
theorem Cq {k m h:Nat} {ds:List Nat} (hl:ds.length=k) (hd:cw ds) (hv:ag ds=h) (hm:(halves h).length=m) (hk:2*k<=m+1):limbs h=ds:=by
 subst hv
 apply AY ab hd
 show ds.length<=(limbs (ag ds)).length
 rcases Nat.eq_zero_or_pos k with h0|h0
 ·omega
 ·have hne:ag ds≠0:=λh=>by rw[h,ky] at hm;simp at hm;omega
  have h1:65536^((halves (ag ds)).length-1)<=ag ds:=sS ab hne
  have h2:4294967296^(k-1)<=ag ds:=by
   rw[show (4294967296:Nat)=65536^2 by rfl,<-Nat.pow_mul]
   exact Nat.le_trans (Nat.pow_le_pow_right ab ab) h1
  have:=tQ h2
  omega
set_option maxRecDepth 100000 in
theorem nY (va:Value) (n:Nat) (ls:List Nat) (w:World) (hr:Rd w 1 va n (ints .i64 ls)) (hl:fH ls) (hn:n<=2147483656):
  Calls Tryz.prog 218 #[va] w λe w'=>∃ v',e=.returned v'/\w'.ownsRow w.heap.size 191 1 v' (limbs (hval ls)).length (ints .u32 (limbs (hval ls)))/\Below w.heap.size w w':=by
 obtain⟨p,c,rfl,dL,eH,ey⟩:=hr.i64
 obtain⟨i0,hi,iT,lj,ng⟩:=info_parts iL
 obtain⟨B,hB⟩:∃ B,B=w.heap.size:=⟨_,rfl⟩
 obtain⟨h,hh⟩:∃ h,h=hval ls:=⟨_,rfl⟩
 rw[<-hh]
 have HB:=Lib.hid hB
 have Hr:=Lib.hid hr
 have HL:=Lib.hid hl
 have HX:=Lib.hid ey
 have HH:=Lib.hid hh
 rw[<-hB]
 clear hr hl ey hB hh
 refine aI λR' bI=> ?_
 go_enter Tryz.func218,Tryz.ntmps218
 go_wp2_with fail
 refine (yu p n c ls _ Hr.out HL.out).mono ?_
 rintro e w1 ⟨⟨m,hm,rfl,xr⟩,rfl⟩
 have rG:(halves h).length=m:=by rw[HH.out,xr,List.length_take,HX.out];omega
 have rF:=Rd.Cp Hr.out hm
 rw[<-xr,<-HH.out] at rF
 have Ku:=Lib.hid rG
 have HRD:=Lib.hid rF
 clear rG rF xr
 go_wp2_with fail
 go_loopw [3,4] (λov iv wr=>LimbInv w B m (halves h) ov iv wr) (λ_ iv _=>m+2-(intOf iv).toNat)
 case atStart=>exact⟨0,[],by omega,rfl,rfl,cw.nil,rfl,World.ownsRow_nil _ _ _ _,Below.refl _ _⟩
 case round=>
  obtain⟨k,ds,hk,rfl,tS,hdd,hdv,az,hb⟩:=hrel
  have HO:=Lib.hid az
  have DY:=Lib.hid tS
  have HDD:=Lib.hid hdd
  have HDV:=Lib.hid hdv
  have fW:=Lib.hid hb
  have uj:B<=wr.heap.size:=by have:=hb.size;have:=HB.out;omega
  clear az tS hdd hdv hb
  by_cases DK:2*k<m
  ·obtain⟨b1,o1,lo,rfl,aD,eI,kG⟩:=(HRD.out.iA HB.out fW.out).cellAt DK
   have JO:=(bJ h).at eI
   have HLO:Hid ((halves h).getD (2*k) 0=lo):=by show _=_;rw[List.getD,eI];rfl
   clear eI
   by_cases hkm1:2*k+1<m
   ·obtain⟨b2,o2,rH,hp2,aQ,mY,Ba⟩:=(HRD.out.iA HB.out fW.out).cellAt hkm1
    have hhi:=(bJ h).at mY
    have HHI:Hid ((halves h).getD (2*k+1) 0=rH):=by show _=_;rw[List.getD,mY];rfl
    simp only[Option.some.injEq,Addr.mk.injEq,and_true] at hp2
    obtain⟨rfl,rfl⟩:=hp2
    clear mY
    have hy:(lo:Int)+65536*(rH:Int)=((lo+65536*rH:Nat):Int):=by omega
    have HY:=Lib.hid hy
    clear hy
    go_wp2_with (at_builtin;go_loud (refine dt rfl _ _ 30 rfl B 191 i0 (.int .u32 0) 4 Tryz.underlying30 hi iT lj ng rfl HO.out rfl rfl HY.out ab ab uj ?_);intro v1 w1 eX gX)
    have qu:=Lib.hid eX
    have AM:=Lib.hid (gX w fW.out)
    clear eX gX
    go_wp2_with fail
    go_roundw
    case rel=>
     have hst:=yw DY.out HDD.out HDV.out HLO.out HHI.out JO hhi
     exact⟨k+1,ds++[lo+65536*rH],by omega,by go_num,by simp[DY.out],hst.1,hst.2,qu.out,AM.out⟩
    case measure=>simp[intOf];omega
   ·have HHI:Hid ((halves h).getD (2*k+1) 0=0):=by show _=_;rw[List.getD,List.getElem?_eq_none (by rw[Ku.out];omega)];rfl
    go_wp2_with (at_builtin;go_loud (refine dt rfl _ _ 30 rfl B 191 i0 (.int .u32 0) 4 Tryz.underlying30 hi iT lj ng rfl HO.out rfl rfl rfl ab ab uj ?_);intro v1 w1 eX gX)
    have qu:=Lib.hid eX
    have AM:=Lib.hid (gX w fW.out)
    clear eX gX
    go_wp2_with fail
    go_roundw
    case rel=>
     have hst:=yw DY.out HDD.out HDV.out HLO.out HHI.out JO ab
     rw[Nat.mul_zero,Nat.add_zero] at hst
     exact⟨k+1,ds++[lo],by omega,by go_num,by simp[DY.out],hst.1,hst.2,qu.out,AM.out⟩
    case measure=>simp[intOf];omega
  ·go_wp2_with fail
   have hval:ag ds=h:=by
    rw[HDV.out]
    show val 65536 _=_
    rw[eK (by rw[Ku.out];omega)]
    exact aX h
   have hcan:=Cq DY.out HDD.out hval Ku.out hk
   refine bI.out _ _ ⟨_,rfl,?_,fW.out⟩
   rw[hcan,DY.out];exact HO.out
set_option maxRecDepth 100000 in
theorem ED (va:Value) (n:Nat) (xs:List Nat) (w:World) (hr:Rd w 1 va n (ints .u32 xs)) (hl:cw xs) (hn:n<=1073741824):
  Calls Tryz.prog 206 #[va] w λe w'=>∃ v',e=.returned v'/\w'.ownsRow w.heap.size 191 1 v' (limbs (ag xs)).length (ints .u32 (limbs (ag xs)))/\Below w.heap.size w w':=by
 obtain⟨p,c,rfl,dL,eH,ey⟩:=hr.u32
 have Hr:=Lib.hid hr
 have HL:=Lib.hid hl
 have HX:=Lib.hid ey
 clear hr hl ey
 refine aI λR' bI=> ?_
 go_enter Tryz.func206,Tryz.ntmps206
 go_wp2_with fail
 refine (eN _ n xs _ Hr.out HL.out hn).mono ?_
 rintro e w1 ⟨v1,rfl,az,hb⟩
 have hlen:=db HL.out
 rw[HX.out] at hlen
 have HO:=Lib.hid az
 have HB:=Lib.hid hb
 clear az hb
 go_wp2_with fail
 refine (nY _ _ (halves (ag xs)) _ (Rd.own HO.out) (bJ _) ab).mono ?_
 rintro e w2 ⟨v2,rfl,az,hb⟩
 rw[aX] at az
 go_wp2_with fail
 exact bI.out _ _ ⟨_,rfl,Own.mono az HB.out.size,HB.out.trans (hb.mono HB.out.size)⟩
def LC (w:World) (B M:Nat) (us ts:List Nat) (ov cv iv:Value) (wr:World):Prop:=
 ∃ (k carry:Nat) (os:List Nat),k<=M+1/\(k=M+1->carry=0)/\iv=.int .i64 (k:Int)/\cv=.int .i64 (carry:Int)/\carry<=1/\os.length=k/\fH os/\
   hval os+65536^k*carry=hval (us.take k)+hval (ts.take k)/\wr.ownsRow B 3 1 ov k (ints .i64 os)/\Below B w wr
theorem EE {k carry x y:Nat} {us ts os:List Nat} (hl:os.length=k) (hh:fH os) (hv:hval os+65536^k*carry=hval (us.take k)+hval (ts.take k)) (hx:us.getD k 0=x) (hy:ts.getD k 0=y):
  fH (os++[(x+y+carry)%65536])/\hval (os++[(x+y+carry)%65536])+65536^(k+1)*((x+y+carry)/65536)=hval (us.take (k+1))+hval (ts.take (k+1)):=by
 refine⟨dP.append hh (dP.cons (Nat.mod_lt _ ab) (dP.nil _)),?_⟩
 rw[jB,hl,Nat.pow_succ]
 show _=val 65536 _+val 65536 _
 rw[bV,bV,hx,hy]
 exact Hg 65536 _ _ x y carry _ _ _ hv rfl
theorem gp {us:List Nat} {k:Nat} (h:us.length<=k):us.getD k 0=0:=by rw[List.getD,List.getElem?_eq_none h];rfl
theorem jC {us:List Nat} (h:fH us) (k:Nat):us.getD k 0<65536:=by
 rw[List.getD]
 cases hk:us[k]? with
 | none=>simp
 | some x=>exact h.at hk
set_option maxRecDepth 100000 in
theorem IJ (va vb:Value) (n m:Nat) (xs ys:List Nat) (w:World) (hr:Rd w 1 va n (ints .u32 xs)) (hs:Rd w 1 vb m (ints .u32 ys)) (hx:cw xs) (hy:cw ys) (hn:n<=1073741824) (hm:m<=1073741824):
  Calls Tryz.prog 187 #[va,vb] w λe w'=>∃ v',e=.returned v'/\w'.ownsRow w.heap.size 191 1 v' (limbs (ag xs+ag ys)).length (ints .u32 (limbs (ag xs+ag ys)))/\Below w.heap.size w w':=by
 obtain⟨p,c,rfl,dL,eH,ey⟩:=hr.u32
 obtain⟨q,d,rfl,Hn,Dt,jx⟩:=hs.u32
 obtain⟨i0,hi,iT,lj,ng⟩:=info_parts uD
 obtain⟨B,hB⟩:∃ B,B=w.heap.size:=⟨_,rfl⟩
 have HB:=Lib.hid hB
 have Hr:=Lib.hid hr
 have Hs:=Lib.hid hs
 have HL:=Lib.hid hx
 have HM:=Lib.hid hy
 have qq:=db hx
 have nd:=db hy
 rw[ey] at qq
 rw[jx] at nd
 obtain⟨a,ha⟩:∃ a,a=ag xs:=⟨_,rfl⟩
 obtain⟨b,hb⟩:∃ b,b=ag ys:=⟨_,rfl⟩
 rw[<-ha] at qq ⊢
 rw[<-hb] at nd ⊢
 rw[<-hB]
 have HA:=Lib.hid ha
 have HBb:=Lib.hid hb
 clear hr hs hx hy ey jx ha hb hB
 refine aI λR' bI=> ?_
 go_enter Tryz.func187,Tryz.ntmps187
 go_wp2_with fail
 refine (eN _ n xs _ Hr.out HL.out hn).mono ?_
 rintro e w1 ⟨v1,rfl,az,aD⟩
 rw[<-HA.out,<-HB.out] at az
 rw[<-HB.out] at aD
 have qu:=Lib.hid az
 have AM:=Lib.hid aD
 clear az aD
 go_wp2_with fail
 refine (eN _ m ys _ (Hs.out.iA HB.out AM.out) HM.out hm).mono ?_
 rintro e w2 ⟨v2,rfl,az,aQ⟩
 rw[<-HBb.out] at az
 have hB1s:B<=w1.heap.size:=by have:=AM.out.size;have:=HB.out;omega
 have HO1b:=Lib.hid (Own.below qu.out aQ)
 have mZ:=Lib.hid (Own.mono az hB1s)
 have sY:=Lib.hid (AM.out.trans (aQ.mono hB1s))
 have hB2s:B<=w2.heap.size:=by have:=aQ.size;omega
 clear az aQ qu AM
 obtain⟨p1,c1,rfl,h11,h12,_⟩:=(Rd.own HO1b.out).i64
 obtain⟨p2,c2,rfl,h21,h22,_⟩:=(Rd.own mZ.out).i64
 generalize JU:(halves a).length=la at*
 generalize Dw:(halves b).length=lb at*
 have JT:=Lib.hid JU
 have JV:=Lib.hid Dw
 clear JU Dw
 obtain⟨M,hMa,hMb,hMu,hM⟩:∃ M,la<=M/\lb<=M/\M<=2147483648/\(la<lb/\M=lb\/lb<=la/\M=la):=⟨max la lb,by omega,by omega,by omega,by omega⟩
 obtain⟨B2,LD⟩:∃ B2,B2=w2.heap.size:=⟨_,rfl⟩
 have EF:=Lib.hid LD
 have LF:B<=B2:=by omega
 clear LD
 rcases hM with ⟨ud,rfl⟩|⟨ud,rfl⟩
 all_goals
  go_wp2_with fail
  go_loopw [7,8,9] (λov cv iv wr=>LC w2 B2 M (halves a) (halves b) ov cv iv wr) (λ_ cv iv _=>2*(M-(intOf iv).toNat)+(intOf cv).toNat)
  case atStart=>exact⟨0,0,[],by omega,λ_=>rfl,rfl,rfl,by omega,rfl,dP.nil _,rfl,World.ownsRow_nil _ _ _ _,Below.refl _ _⟩
  case round=>
   obtain⟨k,carry,os,hk,jo,rfl,rfl,hc,hol,hoh,hov,az,ln⟩:=hrel
   have HO:=Lib.hid az
   have HOL:=Lib.hid hol
   have HOH:=Lib.hid hoh
   have HOV:=Lib.hid hov
   have HK1:=Lib.hid jo
   have fW:=Lib.hid ln
   have uj:B2<=wr.heap.size:=by have:=ln.size;have:=EF.out;omega
   have HRA:=Lib.hid ((Rd.own HO1b.out).iA EF.out ln)
   have HRB:=Lib.hid ((Rd.own mZ.out).iA EF.out ln)
   have hgx:=jC (bJ a) k
   have hgy:=jC (bJ b) k
   have hxy0:M<=k->(halves a).getD k 0=0/\(halves b).getD k 0=0:=λh=>⟨gp (by rw[JT.out];omega),gp (by rw[JV.out];omega)⟩
   clear az hol hoh hov jo ln
   generalize hx:(halves a).getD k 0=x at*
   generalize hy:(halves b).getD k 0=y at*
   have HX:=Lib.hid hx
   have HY:=Lib.hid hy
   have HXY0:=Lib.hid hxy0
   clear hx hy hxy0
   have qY:k=M+1->carry=0:=HK1.out
   by_cases hkM:k<M\/0<carry
   ·clear qY
    have hguard:decide (k<M)=true\/decide (k<M)=false/\0<carry:=by
     by_cases h:k<M
     ·left;simpa using h
     ·right;exact⟨by simpa using h,by omega⟩
    have HSUM:Hid (((x:Int)+(y:Int)+(carry:Int)).tmod 65536=(((x+y+carry)%65536:Nat):Int)):=by show _=_;rw[Int.tmod_eq_emod_of_nonneg ab];omega
    rcases hguard with hg|⟨hg,hg2⟩
    all_goals
     go_wp2_with fail
     refine (gW _ _ k (halves a) _ HRA.out).mono ?_
     rintro e w3 ⟨rfl,rfl⟩
     rw[HX.out]
     go_wp2_with fail
     refine (gW _ _ k (halves b) _ HRB.out).mono ?_
     rintro e w3 ⟨rfl,rfl⟩
     rw[HY.out]
     go_wp2_with (at_builtin;refine dt rfl _ _ 272 rfl B2 3 i0 (.int .i64 0) 8 Tryz.underlying272 hi iT lj ng rfl HO.out rfl rfl (d:=(x+y+carry)%65536) ab ab ab uj ?_;intro v1 w3 eX gX)
     have Ic:=Lib.hid eX
     have KE:=Lib.hid (gX w2 fW.out)
     clear eX gX
     go_wp2_with fail
     go_roundw
     case rel=>
      have hst:=EE HOL.out HOH.out HOV.out HX.out HY.out
      exact⟨k+1,(x+y+carry)/65536,os++[(x+y+carry)%65536],by have:=HK1.out;have:=HXY0.out;omega,by have:=HK1.out;have:=HXY0.out;omega,by go_num,by go_num,by omega,by simp[HOL.out],hst.1,hst.2,Ic.out,KE.out⟩
     case measure=>simp[intOf];have:=HXY0.out;omega
   ·have hc0:carry=0:=by omega
    have hkM':M<=k:=by omega
    have HC0:=Lib.hid hc0
    have hg1:decide (k<M)=false:=by simp;omega
    have hg2:¬ (0<(carry:Int)):=by omega
    have hks:k<=M+1:=by omega
    clear qY
    clear hc0
    go_wp2_with fail
    refine (nY _ _ os _ (Rd.own HO.out) HOH.out ab).mono ?_
    rintro e w3 ⟨v3,rfl,az,ck⟩
    have hval:hval os=a+b:=by
     have:=HOV.out
     rw[HC0.out,Nat.mul_zero,Nat.add_zero] at this
     rw[this]
     show val 65536 _+val 65536 _=_
     rw[eK (by rw[JT.out];omega),eK (by rw[JV.out];omega)]
     show hval _+hval _=_
     rw[aX,aX]
    rw[hval] at az
    go_wp2_with fail
    exact bI.out _ _ ⟨_,rfl,Own.mono az ab,(sY.out.trans (fW.out.mono LF)).trans (ck.mono ab)⟩
def CmpInv (w:World) (us ts:List Nat) (M:Nat) (iv:Value) (wr:World):Prop:=
 ∃ k:Nat,k<=M/\iv=.int .i64 ((k:Int)-1)/\hval us+hval (ts.take k)=hval ts+hval (us.take k)/\w=wr
theorem iP (us:List Nat):hval (us.take 0)=0:=by simp[hval,val]
theorem Cr {us ts:List Nat} {k x:Nat} (hx:us.getD k 0=x) (hy:ts.getD k 0=x) (h:hval us+hval (ts.take (k+1))=hval ts+hval (us.take (k+1))):hval us+hval (ts.take k)=hval ts+hval (us.take k):=by
 have h1:hval (ts.take (k+1))=hval (ts.take k)+65536^k*x:=by rw[<-hy];exact bV 65536 ts k
 have h2:hval (us.take (k+1))=hval (us.take k)+65536^k*x:=by rw[<-hx];exact bV 65536 us k
 omega
theorem tq {us ts:List Nat} {k x y:Nat} (hu:fH us) (hx:us.getD k 0=x) (hy:ts.getD k 0=y) (xt:x<y) (h:hval us+hval (ts.take (k+1))=hval ts+hval (us.take (k+1))):hval us<hval ts:=by
 have h1:hval (ts.take (k+1))=hval (ts.take k)+65536^k*y:=by rw[<-hy];exact bV 65536 ts k
 have h2:hval (us.take (k+1))=hval (us.take k)+65536^k*x:=by rw[<-hx];exact bV 65536 us k
 have h3:hval (us.take k)<65536^k:=by
  have h4:=qX (dP.take hu k)
  have h5:=Nat.pow_le_pow_right (show 0<65536 by omega) (show (us.take k).length<=k by rw[List.length_take];omega)
  omega
 have h4:65536^k*x+65536^k<=65536^k*y:=by
  have:=Nat.mul_le_mul_left (65536^k) (show x+1<=y from xt)
  rwa [Nat.mul_add,Nat.mul_one] at this
 omega
set_option maxRecDepth 100000 in
theorem sx (va vb:Value) (n m:Nat) (xs ys:List Nat) (w:World) (hr:Rd w 1 va n (ints .u32 xs)) (hs:Rd w 1 vb m (ints .u32 ys)) (hx:cw xs) (hy:cw ys) (hn:n<=1073741824) (hm:m<=1073741824):
  Calls Tryz.prog 219 #[va,vb] w λe w'=>e=.returned (.int .i64 (fF (ag xs) (ag ys)))/\Below w.heap.size w w':=by
 obtain⟨p,c,rfl,dL,eH,ey⟩:=hr.u32
 obtain⟨q,d,rfl,Hn,Dt,jx⟩:=hs.u32
 have Hr:=Lib.hid hr
 have Hs:=Lib.hid hs
 have HL:=Lib.hid hx
 have HM:=Lib.hid hy
 have qq:=db hx
 have nd:=db hy
 rw[ey] at qq
 rw[jx] at nd
 obtain⟨a,ha⟩:∃ a,a=ag xs:=⟨_,rfl⟩
 obtain⟨b,hb⟩:∃ b,b=ag ys:=⟨_,rfl⟩
 rw[<-ha] at qq ⊢
 rw[<-hb] at nd ⊢
 have HA:=Lib.hid ha
 have HBb:=Lib.hid hb
 clear hr hs hx hy ey jx ha hb
 refine aI λR' bI=> ?_
 go_enter Tryz.func219,Tryz.ntmps219
 go_wp2_with fail
 refine (eN _ n xs _ Hr.out HL.out hn).mono ?_
 rintro e w1 ⟨v1,rfl,az,aD⟩
 rw[<-HA.out] at az
 have qu:=Lib.hid (Rd.own az)
 have AM:=Lib.hid aD
 clear az aD
 go_wp2_with fail
 refine (eN _ m ys _ (Hs.out.below AM.out) HM.out hm).mono ?_
 rintro e w2 ⟨v2,rfl,az,aQ⟩
 rw[<-HBb.out] at az
 have HRA:=Lib.hid (qu.out.below aQ)
 have HRB:=Lib.hid (Rd.own az)
 have sY:=Lib.hid (AM.out.trans (aQ.mono AM.out.size))
 clear az aQ qu AM
 obtain⟨p1,c1,rfl,h11,h12,_⟩:=HRA.out.i64
 obtain⟨p2,c2,rfl,h21,h22,_⟩:=HRB.out.i64
 generalize JU:(halves a).length=la at*
 generalize Dw:(halves b).length=lb at*
 have JT:=Lib.hid JU
 have JV:=Lib.hid Dw
 clear JU Dw
 obtain⟨M,hMa,hMb,hMu,hM⟩:∃ M,la<=M/\lb<=M/\M<=2147483648/\(la<lb/\M=lb\/lb<=la/\M=la):=⟨max la lb,by omega,by omega,by omega,by omega⟩
 rcases hM with ⟨ud,rfl⟩|⟨ud,rfl⟩
 all_goals
  go_wp2_with fail
  go_loopw [7] (λiv wr=>CmpInv w2 (halves a) (halves b) M iv wr) (λiv _=>(intOf iv+1).toNat)
  case atStart=>exact⟨M,Nat.le_refl _,rfl,by
   show val 65536 _+val 65536 _=val 65536 _+val 65536 _
   rw[eK (by first|(rw[JT.out];omega)|(rw[JV.out];omega)),eK (by first|(rw[JT.out];omega)|(rw[JV.out];omega))];omega,rfl⟩
  case round=>
   obtain⟨k,hk,rfl,hv,rfl⟩:=hrel
   have HV:=Lib.hid hv
   clear hv
   by_cases h0:k=0
   ·subst h0
    go_wp2_with fail
    have e:a=b:=by
     have:=HV.out
     rw[iP,iP,aX,aX] at this
     omega
    exact bI.out _ _ ⟨lg (by rw[e,qx]),sY.out⟩
   ·obtain⟨j,rfl⟩:∃ j,k=j+1:=⟨k-1,by omega⟩
    have hjj:((j+1:Nat):Int)-1=(j:Int):=by omega
    rw[hjj]
    clear h0 hjj
    generalize hx:(halves a).getD j 0=x
    generalize hy:(halves b).getD j 0=y
    have HX:=Lib.hid hx
    have HY:=Lib.hid hy
    clear hx hy
    go_wp2_with fail
    refine (gW _ _ j (halves a) _ HRA.out).mono ?_
    rintro e w3 ⟨rfl,rfl⟩
    rw[HX.out]
    go_wp2_with fail
    refine (gW _ _ j (halves b) _ HRB.out).mono ?_
    rintro e w3 ⟨rfl,rfl⟩
    rw[HY.out]
    rcases Nat.lt_trichotomy x y with hlt|heq|Lj
    ·go_wp2_with fail
     have:=tq (bJ a) HX.out HY.out hlt HV.out
     rw[aX,aX] at this
     exact bI.out _ _ ⟨lg (by rw[kj this]),sY.out⟩
    ·subst heq
     go_wp2_with fail
     refine (gW _ _ j (halves a) _ HRA.out).mono ?_
     rintro e w3 ⟨rfl,rfl⟩
     rw[HX.out]
     go_wp2_with fail
     refine (gW _ _ j (halves b) _ HRB.out).mono ?_
     rintro e w3 ⟨rfl,rfl⟩
     rw[HY.out]
     go_wp2_with fail
     go_roundw
     case rel=>exact⟨j,by omega,rfl,Cr HX.out HY.out HV.out,rfl⟩
     case measure=>simp[intOf]
    ·go_wp2_with fail
     refine (gW _ _ j (halves a) _ HRA.out).mono ?_
     rintro e w3 ⟨rfl,rfl⟩
     rw[HX.out]
     go_wp2_with fail
     refine (gW _ _ j (halves b) _ HRB.out).mono ?_
     rintro e w3 ⟨rfl,rfl⟩
     rw[HY.out]
     go_wp2_with fail
     have:=tq (bJ b) HY.out HX.out Lj HV.out.symm
     rw[aX,aX] at this
     exact bI.out _ _ ⟨lg (by rw[km this]),sY.out⟩
theorem tr {qs:List Nat} {k x:Nat}:(List.replicate (k+1) 0++qs).set k x=List.replicate k 0++x::qs:=by
 rw[List.replicate_succ',List.append_assoc,List.set_append_right _ _ dw]
 simp
def LG (w:World) (B M:Nat) (us ts:List Nat) (ov bv iv:Value) (wr:World):Prop:=
 ∃ (k r:Nat) (ds:List Nat),k<=M/\ds.length=k/\iv=.int .i64 (k:Int)/\bv=.int .i64 (r:Int)/\r<=1/\fH ds/\
   hval ds+hval (ts.take k)=hval (us.take k)+65536^k*r/\wr.ownsRow B 3 1 ov k (ints .i64 ds)/\Below B w wr
theorem vM {k r x y d r':Nat} {us ts ds:List Nat} (hl:ds.length=k) (hh:fH ds) (hv:hval ds+hval (ts.take k)=hval (us.take k)+65536^k*r) (hx:us.getD k 0=x) (hy:ts.getD k 0=y)
  (hd:d<65536) (he:x+65536*r'=d+y+r):
  fH (ds++[d])/\hval (ds++[d])+hval (ts.take (k+1))=hval (us.take (k+1))+65536^(k+1)*r':=by
 refine⟨dP.append hh (dP.cons hd (dP.nil _)),?_⟩
 have h1:hval (ts.take (k+1))=hval (ts.take k)+65536^k*y:=by rw[<-hy];exact bV 65536 ts k
 have h2:hval (us.take (k+1))=hval (us.take k)+65536^k*x:=by rw[<-hx];exact bV 65536 us k
 rw[jB,hl,h1,h2,Nat.pow_succ]
 exact Hh 65536 _ x y r d r' _ _ _ hv he
set_option maxRecDepth 100000 in
theorem yx (va vb:Value) (n m:Nat) (xs ys:List Nat) (w:World) (hr:Rd w 1 va n (ints .u32 xs)) (hs:Rd w 1 vb m (ints .u32 ys)) (hx:cw xs) (hy:cw ys) (hn:n<=1073741824) (hm:m<=1073741824):
  Calls Tryz.prog 188 #[va,vb] w λe w'=>((ag xs<ag ys/\e=.returned (.tuple #[.slice none 0 0,.int .i64 2]))\/
   (ag ys<=ag xs/\∃ v',e=.returned (.tuple #[v',.int .i64 0])/\w'.ownsRow w.heap.size 191 1 v' (limbs (ag xs-ag ys)).length (ints .u32 (limbs (ag xs-ag ys)))))/\Below w.heap.size w w':=by
 obtain⟨p,c,rfl,dL,eH,ey⟩:=hr.u32
 obtain⟨q,d,rfl,Hn,Dt,jx⟩:=hs.u32
 obtain⟨i0,hi,iT,lj,ng⟩:=info_parts uD
 have Hr:=Lib.hid hr
 have Hs:=Lib.hid hs
 have HL:=Lib.hid hx
 have HM:=Lib.hid hy
 have qq:=db hx
 have nd:=db hy
 rw[ey] at qq
 rw[jx] at nd
 obtain⟨a,ha⟩:∃ a,a=ag xs:=⟨_,rfl⟩
 obtain⟨b,hb⟩:∃ b,b=ag ys:=⟨_,rfl⟩
 rw[<-ha] at qq ⊢
 rw[<-hb] at nd ⊢
 have HA:=Lib.hid ha
 have HBb:=Lib.hid hb
 clear hr hs hx hy ey jx ha hb
 refine aI λR' bI=> ?_
 go_enter Tryz.func188,Tryz.ntmps188
 go_wp2_with fail
 refine (sx _ _ n m xs ys _ Hr.out Hs.out HL.out HM.out hn hm).mono ?_
 rintro e w0 ⟨rfl,mX⟩
 rw[<-HA.out,<-HBb.out]
 have HB0:=Lib.hid mX
 have hB0s:=mX.size
 clear mX
 by_cases ud:a<b
 ·have hc:fF a b<0:=iR.2 ud
  generalize fF a b=cv at hc ⊢
  go_wp2_with fail
  exact bI.out _ _ ⟨.inl ⟨ud,rfl⟩,HB0.out⟩
 ·have hc:0<=fF a b:=by have:=mt (@iR a b).1 ud;omega
  generalize fF a b=cv at hc ⊢
  have hlen:(halves b).length<=(halves a).length:=dh ab ab
  have HAB:=Lib.hid ud
  clear ud
  go_wp2_with fail
  refine (eN _ n xs _ (Hr.out.below HB0.out) HL.out hn).mono ?_
  rintro e w1 ⟨v1,rfl,az,aD⟩
  rw[<-HA.out] at az
  have qu:=Lib.hid (Rd.own az)
  have AM:=Lib.hid (HB0.out.trans (aD.mono hB0s))
  have hB1s:=aD.size
  clear az aD
  go_wp2_with fail
  refine (eN _ m ys _ (Hs.out.below AM.out) HM.out hm).mono ?_
  rintro e w2 ⟨v2,rfl,az,aQ⟩
  rw[<-HBb.out] at az
  have HRA0:=Lib.hid (qu.out.below aQ)
  have HRB0:=Lib.hid (Rd.own az)
  have sY:=Lib.hid (AM.out.trans (aQ.mono AM.out.size))
  have hB2s:=aQ.size
  clear az aQ qu AM
  obtain⟨p1,c1,rfl,h11,h12,_⟩:=HRA0.out.i64
  obtain⟨p2,c2,rfl,h21,h22,_⟩:=HRB0.out.i64
  generalize JU:(halves a).length=la at*
  generalize Dw:(halves b).length=lb at*
  have JT:=Lib.hid JU
  have JV:=Lib.hid Dw
  clear JU Dw
  obtain⟨B2,LD⟩:∃ B2,B2=w2.heap.size:=⟨_,rfl⟩
  have EF:=Lib.hid LD
  have LF:w.heap.size<=B2:=by omega
  clear LD
  go_wp2_with fail
  go_loopw [8,9,10] (λov bv iv wr=>LG w2 B2 la (halves a) (halves b) ov bv iv wr) (λ_ _ iv _=>la-(intOf iv).toNat)
  case atStart=>exact⟨0,0,[],Nat.zero_le _,rfl,rfl,rfl,by omega,dP.nil _,by rw[iP,iP];simp[hval,val],World.ownsRow_nil _ _ _ _,Below.refl _ _⟩
  case round=>
   obtain⟨k,r,ds,hk,tS,rfl,rfl,kW,hdh,hdv,az,ln⟩:=hrel
   have HO:=Lib.hid az
   have DY:=Lib.hid tS
   have HDH:=Lib.hid hdh
   have HDV:=Lib.hid hdv
   have fW:=Lib.hid ln
   have uj:B2<=wr.heap.size:=by have:=ln.size;have:=EF.out;omega
   have HRB:=Lib.hid (HRB0.out.iA EF.out ln)
   clear az tS hdh hdv
   by_cases FY:k<la
   ·obtain⟨b1,o1,x,rfl,_,eI,kG⟩:=(HRA0.out.iA EF.out ln).cellAt FY
    have jY:=(bJ a).at eI
    have HX:Hid ((halves a).getD k 0=x):=by show _=_;rw[List.getD,eI];rfl
    have xS:=jC (bJ b) k
    clear eI ln
    generalize hy:(halves b).getD k 0=y at*
    have HY:=Lib.hid hy
    clear hy
    have JR:(0:Int)<=(k:Int):=by omega
    have jo:(k:Int)<(la:Int):=by omega
    have xl:IntKind.i64.wrap ((x:Int)-(y:Int))=(x:Int)-(y:Int):=IntWalk.i64_in _ ab
    have hw2:IntKind.i64.wrap ((x:Int)-(y:Int)-(r:Int))=(x:Int)-(y:Int)-(r:Int):=IntWalk.i64_in _ ab
    have sW:∀ j:Nat,Calls Tryz.prog 217 #[.slice p2 lb c2,.int .i64 (k:Int)] (wr.drewN j) λe w'=>e=.returned (.int .i64 (y:Int))/\wr.drewN j=w':=λj=>by
     have:=gW _ _ k (halves b) _ (Rd.drewN HRB.out j)
     rwa [HY.out] at this
    have HAT:=Lib.hid sW
    clear sW
    go_wp2_with fail
    go_quiet ((go_at_call 217;exact uP (HAT.out _) ⟨_,rfl⟩))
    clear xl hw2 JR jo kG
    by_cases oM:(x:Int)-(y:Int)-(r:Int)<0
    ·go_wp2_with (at_builtin;refine dt (w:=wr.drewN nq) rfl _ _ 272 rfl B2 3 i0 (.int .i64 0) 8 Tryz.underlying272 hi iT lj ng rfl (Own.drewN HO.out nq) rfl rfl (d:=x+65536-y-r) ab ab ab uj ?_;intro v1 w3 eX gX)
     have Ic:=Lib.hid eX
     have KE:=Lib.hid (gX w2 (Below.drewN fW.out nq))
     clear eX gX
     go_wp2_with fail
     go_roundw
     case rel=>
      have hst:=vM (d:=x+65536-y-r) (r':=1) DY.out HDH.out HDV.out HX.out HY.out ab ab
      exact⟨k+1,1,ds++[x+65536-y-r],by omega,by simp[DY.out],by go_num,rfl,by omega,hst.1,hst.2,Ic.out,KE.out⟩
     case measure=>simp[intOf];omega
    ·go_wp2_with (at_builtin;refine dt (w:=wr.drewN nq) rfl _ _ 272 rfl B2 3 i0 (.int .i64 0) 8 Tryz.underlying272 hi iT lj ng rfl (Own.drewN HO.out nq) rfl rfl (d:=x-y-r) ab ab ab uj ?_;intro v1 w3 eX gX)
     have Ic:=Lib.hid eX
     have KE:=Lib.hid (gX w2 (Below.drewN fW.out nq))
     clear eX gX
     go_wp2_with fail
     go_roundw
     case rel=>
      have hst:=vM (d:=x-y-r) (r':=0) DY.out HDH.out HDV.out HX.out HY.out ab ab
      exact⟨k+1,0,ds++[x-y-r],by omega,by simp[DY.out],by go_num,rfl,by omega,hst.1,hst.2,Ic.out,KE.out⟩
     case measure=>simp[intOf];omega
   ·obtain rfl:k=la:=by omega
    clear ln
    go_wp2_with fail
    refine (nY _ k ds _ (Rd.own HO.out) HDH.out ab).mono ?_
    rintro e w4 ⟨v4,rfl,az,fe⟩
    have hval:hval ds=a-b:=by
     have h1:=HDV.out
     have e1:hval ((halves a).take k)=a:=by
      show val 65536 _=_
      rw[eK (Nat.le_of_eq JT.out)];exact aX a
     have e2:hval ((halves b).take k)=b:=by
      show val 65536 _=_
      rw[eK (by rw[JV.out];exact hlen)];exact aX b
     rw[e1,e2] at h1
     have h3:=qX HDH.out
     rw[DY.out] at h3
     have hba:=HAB.out
     have:r=0:=by
      rcases Nat.eq_zero_or_pos r with h|h
      ·exact h
      ·have:r=1:=by omega
       subst this
       omega
     subst this
     omega
    rw[hval] at az
    have HOWN:=Lib.hid az
    clear az
    go_wp2_with fail
    refine bI.out _ _ ⟨.inr ⟨by have:=HAB.out;omega,v4,rfl,?_⟩,(sY.out.trans (fW.out.mono LF)).trans (fe.mono ab)⟩
    exact Own.mono HOWN.out ab
theorem qi (neg:Bool) (xs:List Nat) (v:Value) (w:World) (h:eQ w v neg xs):
  Calls Tryz.prog 181 #[v] w λe w'=>e=.returned (.bool (df neg xs))/\aw w w':=by
 obtain⟨p,c,rfl,hr,hl⟩:=h
 obtain⟨p',c',hv,dL,eH,-⟩:=hr.u32
 simp only[Value.slice.injEq,true_and] at hv
 obtain⟨rfl,rfl⟩:=hv
 refine aI λR' bI=> ?_
 by_cases hx:xs=[]
 ·subst hx
  simp only[List.length_nil,pP] at*
  go_enter Tryz.func181,Tryz.ntmps181
  cases neg
  ·go_wp2
   exact bI.out _ _ ⟨rfl,(aw.refl w).alloc _⟩
  ·go_wp2
   exact bI.out _ _ ⟨rfl,(aw.refl w).alloc _⟩
 ·obtain⟨m,hm⟩:∃ m,xs.length=m+1:=⟨xs.length-1,by have:=List.length_pos_iff.2 hx;omega⟩
  generalize hn:xs.length=n at*
  obtain⟨b,off,x,rfl,hb,hxm,hc⟩:=hr.cellAt (k:=m) ab
  have h1:df neg xs=decide (x≠0):=sZ (by rw[hn,hm];exact hxm)
  rw[h1] at bI
  have hz:((n:Int) == 0)=false:=by rw[beq_eq_false_iff_ne];omega
  have hp:(0:Int)<(n:Int):=by omega
  have hw:IntKind.i64.wrap ((n:Int)-1)=(m:Int):=by rw[IntWalk.i64_in _ ab];omega
  have hlt:(m:Int)<(n:Int):=by omega
  have HN:=Lib.hid hn
  have hpn:0<n:=by omega
  clear hx hm hn h1 hxm hr hl
  go_enter Tryz.func181,Tryz.ntmps181
  by_cases oL:x=0
  ·subst oL
   cases neg
   ·go_wp2
    exact bI.out _ _ ⟨rfl,(aw.refl w).alloc _⟩
   ·go_wp2
    exact bI.out _ _ ⟨rfl,(aw.refl w).alloc _⟩
  ·have yr:((x:Int) != 0)=true:=by rw[bne_iff_ne];omega
   rw[decide_eq_true oL] at bI
   clear oL
   cases neg
   ·go_wp2
    exact bI.out _ _ ⟨rfl,(aw.refl w).alloc _⟩
   ·go_wp2
    exact bI.out _ _ ⟨rfl,(aw.refl w).alloc _⟩
theorem qj (v:Value) (X:Int) (k:Nat) (w0 w:World) (h:bt w0 v X k) (mX:aw w0 w):
  Calls Tryz.prog 186 #[v] w λe w'=>∃ u,e=.returned u/\bH w0 u X/\aw w w':=by
 obtain⟨neg,xs,hn,rfl,hk⟩:=h
 refine aI λR' bI=> ?_
 have HN:=Lib.hid hn
 obtain⟨p,c,rfl,hr,hl⟩:=hn
 clear hr
 go_enter Tryz.func186,Tryz.ntmps186
 go_wp2_with fail
 refine (qi neg xs _ _ ((HN.out.bq mX).bq (((aw.refl w).alloc _).alloc _))).mono ?_
 rintro e w1 ⟨rfl,aD⟩
 obtain⟨b1,b2,kY⟩:=kI w 53 53 #[.bool neg,.slice p xs.length c] #[.bool false,.slice none 0 0]
 obtain⟨c1,c2,_,_⟩:=(b1.bq aD).two
 obtain⟨c3,c4,f3,f4⟩:=(b2.bq aD).two
 have zy:aw w w1:=kY.aA aD
 cases hnr:df neg xs
 ·have B2:=(b2.bq aD).bK (.bool false) (.slice none 0 0)
  have sY:=zy.bK (b:=w.heap.size+1) ab (.bool false) (.slice none 0 0)
  go_wp2
  generalize (w1.setCell ⟨w.heap.size+1,0,none⟩ (.bool false)).setCell ⟨w.heap.size+1,1,none⟩ (.slice none 0 0)=w2 at*
  obtain⟨d1,d2,_,_⟩:=B2.two
  refine bodyPost_ret (v:=.agg #[.bool false,.slice none 0 0]) (by simp[results,Tryz.results186,go_sem,d1,d2]) rfl (bI.out _ _ ⟨_,rfl,?_,sY⟩)
  rw[numOf,if_neg (by simp[hnr])]
  exact bH.zero _
 ·have B2:=(b2.bq aD).bK (.bool neg) (.slice p xs.length c)
  have sY:=zy.bK (b:=w.heap.size+1) ab (.bool neg) (.slice p xs.length c)
  go_wp2
  generalize (w1.setCell ⟨w.heap.size+1,0,none⟩ (.bool neg)).setCell ⟨w.heap.size+1,1,none⟩ (.slice p xs.length c)=w2 at*
  obtain⟨d1,d2,_,_⟩:=B2.two
  refine bodyPost_ret (v:=.agg #[.bool neg,.slice p xs.length c]) (by simp[results,Tryz.results186,go_sem,d1,d2]) rfl (bI.out _ _ ⟨_,rfl,?_,sY⟩)
  rw[numOf,if_pos hnr]
  obtain⟨h1,h2⟩:=canon hl hnr
  have:=HN.out
  show eQ _ _ _ _
  rw[<-h1,<-h2]
  exact this
theorem gY (neg:Bool) (v:Value) (n:Nat) (xs:List Nat) (w:World) (hr:Rd w 1 v n (ints .u32 xs)) (hl:cw xs) (hn:n<=1073741824):
  Calls Tryz.prog 171 #[.bool neg,v] w λe w'=>∃ r,e=.returned r/\aj w' w.heap.size r (if neg=true then-(ag xs:Int) else ag xs)/\aw w w':=by
 obtain⟨p,c,rfl,_,_,_⟩:=hr.u32
 have HR:=Lib.hid hr
 have nH:=bj.new w 53 #[.bool false,.slice none 0 0]
 have kY:=(aw.refl w).alloc (.cells #[.bool false,.slice none 0 0] 53)
 clear hr
 refine aI λR' bI=> ?_
 go_enter Tryz.func171,Tryz.ntmps171
 go_wp2_with fail
 refine (ED _ n xs _ (HR.out.below kY) hl hn).mono ?_
 rintro e w1 ⟨v1,rfl,sq,aD⟩
 replace aD:aw _ w1:=aD
 obtain⟨p1,k1,rfl,_,_,_⟩:=Own.form sq
 generalize hL:(limbs (ag xs)).length=L at*
 have HL:=Lib.hid hL
 have FC:=nH.bq aD
 have FB:=kY.aA aD
 obtain⟨c1,c2,f1,f2⟩:=FC.two
 have Gr:=Own.mono sq kY.size
 clear hL sq
 cases neg
 ·have HO:=Lib.hid (Own.bK Gr FC fc (.bool false) (.slice p1 L k1))
  clear Gr
  have Af:=FC.bK (.bool (false)) (.slice p1 (L) k1)
  have Ag:=aw.bK FB (b:=w.heap.size) ab (.bool (false)) (.slice p1 (L) k1)
  go_wp2
  generalize (w1.setCell ⟨w.heap.size,0,none⟩ (.bool (false))).setCell ⟨w.heap.size,1,none⟩ (.slice p1 (L) k1)=wz at*
  obtain⟨Ah,Ai,_,_⟩:=Af.two
  refine bodyPost_ret (v:=.agg #[.bool (false),.slice p1 (L) k1]) (by simp[results,Tryz.results171,go_sem,Ah,Ai]) rfl (bI.out _ _ ?_)
  exact⟨_,rfl,aj.of (neg:=false) (by rw[HL.out];exact HO.out) HL.out.symm _ dw,Ag⟩
 ·have HO:=Lib.hid (Own.bK Gr FC fc (.bool (decide (0<L))) (.slice p1 L k1))
  clear Gr
  have Af:=FC.bK (.bool (decide (0<L))) (.slice p1 (L) k1)
  have Ag:=aw.bK FB (b:=w.heap.size) ab (.bool (decide (0<L))) (.slice p1 (L) k1)
  go_wp2
  generalize (w1.setCell ⟨w.heap.size,0,none⟩ (.bool (decide (0<L)))).setCell ⟨w.heap.size,1,none⟩ (.slice p1 (L) k1)=wz at*
  obtain⟨Ah,Ai,_,_⟩:=Af.two
  refine bodyPost_ret (v:=.agg #[.bool (decide (0<L)),.slice p1 (L) k1]) (by simp[results,Tryz.results171,go_sem,Ah,Ai]) rfl (bI.out _ _ ?_)
  exact⟨_,rfl,aj.of (neg:=true) (by rw[HL.out];exact HO.out) HL.out.symm _ dw,Ag⟩
def vN (X Y:Int):Int:=(X-Y).sign
theorem Gw {X Y:Int} (h:X<Y):vN X Y= -1:=sign_neg ab
theorem Gx {X Y:Int} (h:Y<X):vN X Y=1:=dy ab
theorem yy (a b:Nat):vN (a:Int) b=fF a b:=by
 rcases Nat.lt_trichotomy a b with h|rfl|h
 ·rw[Gw ab,kj h]
 ·rw[qx];simp[vN]
 ·rw[Gx ab,km h]
theorem EG (a b:Nat):vN (-(a:Int)) (-(b:Int))=fF b a:=by
 rw[<-yy];unfold vN;congr 1;omega
theorem Cs (v u:Value) (X Y:Int) (j k:Nat) (w:World) (hv:bt w v X j) (hu:bt w u Y k) (hj:j<=1073741824) (hk:k<=1073741824):
  Calls Tryz.prog 203 #[v,u] w λe w'=>e=.returned (.int .i64 (vN X Y))/\aw w w':=by
 obtain⟨s,p,n,c,rfl⟩:=hv.form
 obtain⟨t,q,m,d,rfl⟩:=hu.form
 refine aI λR' bI=> ?_
 obtain⟨b1,b2,kY⟩:=kI w 53 53 #[.bool s,.slice p n c] #[.bool t,.slice q m d]
 have HJ:=Lib.hid (Nat.le_trans hv.len hj)
 have HK:=Lib.hid (Nat.le_trans hu.len hk)
 have HV:=Lib.hid hv
 have HU:=Lib.hid hu
 clear hv hu hj hk
 go_enter Tryz.func203,Tryz.ntmps203
 go_wp2_with fail
 generalize (w.alloc _).alloc _=W at*
 refine (qj _ X j w _ HV.out gh).mono ?_
 rintro e wa ⟨ua,rfl,hua,hba⟩
 obtain⟨s1,p1,n1,k1,rfl⟩:=hua.fh
 obtain⟨a1,a2,a3,a4⟩:=(b1.bq hba).two
 obtain⟨a5,a6,a7,a8⟩:=(b2.bq hba).two
 have B1:=(b1.bq hba).bK (.bool s1) (.slice p1 n1 k1)
 have B2:=(b2.bq hba).dH (b':=w.heap.size) ab (.bool s1) (.slice p1 n1 k1)
 have hZ:=aR.KL (aR.KL (aR.aA (aR.refl W w.heap.size (w.heap.size+1)) hba) (j:=0) (.bool s1)) (j:=1) (.slice p1 n1 k1)
 have HB:=aw.bK (kY.aA hba) (b:=w.heap.size) ab (.bool s1) (.slice p1 n1 k1)
 have HPA:=Lib.hid hua.parts
 have HSA:=Lib.hid hua.Ig
 have HUA:=Lib.hid hua
 clear hua
 go_wp2_with fail
 generalize (wa.setCell ⟨w.heap.size,0,none⟩ (.bool s1)).setCell ⟨w.heap.size,1,none⟩ (.slice p1 n1 k1)=wb at*
 clear a1 a2 a3 a4 a5 a6 a7 a8 hba
 refine (qj _ Y k w _ HU.out HB).mono ?_
 rintro e wc ⟨ub,rfl,hub,zy⟩
 obtain⟨s2,p2,n2,k2,rfl⟩:=hub.fh
 obtain⟨a1,a2,a3,a4⟩:=(B1.bq zy).two
 obtain⟨a5,a6,a7,a8⟩:=(B2.bq zy).two
 have D1:=(B1.bq zy).dH (b':=w.heap.size+1) ab (.bool s2) (.slice p2 n2 k2)
 have D2:=(B2.bq zy).bK (.bool s2) (.slice p2 n2 k2)
 have hY:=aR.lX (aR.lX (aR.aA hZ zy) (j:=0) (.bool s2)) (j:=1) (.slice p2 n2 k2)
 have HD:=aw.bK (HB.aA zy) (b:=w.heap.size+1) ab (.bool s2) (.slice p2 n2 k2)
 have HPB:=Lib.hid hub.parts
 have HSB:=Lib.hid hub.Ig
 have HUB:=Lib.hid hub
 clear hub B1 B2 HB zy hZ
 have yr:n1<=1073741824:=by rw[HPA.out.1];exact HJ.out
 have Aj:n2<=1073741824:=by rw[HPB.out.1];exact HK.out
 have HX1:=Lib.hid yr
 have Kj:=Lib.hid Aj
 clear yr Aj
 cases s1 <;> cases s2
 ·go_wp2_with fail
  generalize (wc.setCell ⟨w.heap.size+1,0,none⟩ (.bool false)).setCell ⟨w.heap.size+1,1,none⟩ (.slice p2 n2 k2)=wd at*
  refine (sx _ _ n1 n2 _ _ _ (HPA.out.2.1.below HD) (HPB.out.2.1.below HD) (ak _) (ak _) HX1.out Kj.out).mono ?_
  rintro e we ⟨rfl,hbe⟩
  rw[ah,ah,<-yy]
  have e1:(X.natAbs:Int)=X:=by have:=HPA.out.2.2;simpa using this.symm
  have e2:(Y.natAbs:Int)=Y:=by have:=HPB.out.2.2;simpa using this.symm
  rw[e1,e2]
  go_wp2_with fail
  exact bI.out _ _ ⟨rfl,HD.aA hbe⟩
 ·have h1:¬ X<0:=of_decide_eq_false HSA.out.symm
  have h2:Y<0:=of_decide_eq_true HSB.out.symm
  rw[Gx ab] at bI
  go_wp2
  exact bI.out _ _ ⟨rfl,HD⟩
 ·have h1:X<0:=of_decide_eq_true HSA.out.symm
  have h2:¬ Y<0:=of_decide_eq_false HSB.out.symm
  rw[Gw ab] at bI
  go_wp2
  exact bI.out _ _ ⟨rfl,HD⟩
 ·go_wp2_with fail
  generalize (wc.setCell ⟨w.heap.size+1,0,none⟩ (.bool true)).setCell ⟨w.heap.size+1,1,none⟩ (.slice p2 n2 k2)=wd at*
  refine (sx _ _ n2 n1 _ _ _ (HPB.out.2.1.below HD) (HPA.out.2.1.below HD) (ak _) (ak _) Kj.out HX1.out).mono ?_
  rintro e we ⟨rfl,hbe⟩
  rw[ah,ah,<-EG]
  have e1: -(X.natAbs:Int)=X:=by have:=HPA.out.2.2;simpa using this.symm
  have e2: -(Y.natAbs:Int)=Y:=by have:=HPB.out.2.2;simpa using this.symm
  rw[e1,e2]
  go_wp2_with fail
  exact bI.out _ _ ⟨rfl,HD.aA hbe⟩
theorem cO (v:Value) (X:Int) (j:Nat) (w:World) (hv:bt w v X j) (hj:j<=1073741824):
  Calls Tryz.prog 168 #[v] w λe w'=>e=.returned (.int .i64 X.sign)/\aw w w':=by
 obtain⟨s,p,n,c,rfl⟩:=hv.form
 refine aI λR' bI=> ?_
 have kY:=(aw.refl w).alloc (.cells #[.bool s,.slice p n c] 53)
 have HV:=Lib.hid (hv.bq kY)
 have e1:=Lib.hid (show vN X 0=X.sign by simp[vN])
 clear hv
 go_enter Tryz.func168,Tryz.ntmps168
 go_wp2_with fail
 generalize w.alloc _=W at*
 refine (Cs _ _ X 0 j 0 _ HV.out ((bH.zero _).to (by simp[bG])) hj ab).mono ?_
 rintro e w1 ⟨rfl,aD⟩
 rw[e1.out]
 go_wp2
 exact bI.out _ _ ⟨rfl,kY.aA aD⟩
theorem Rd.kp {U:TypeId} {T:TypeId->Bool} {w w':World} {v:Value} {n:Nat} {xs:List Nat} (h:Rd w 1 v n (ints .u32 xs)) (k:aV ⟨U,λ_=>True,T⟩ w w'):Rd w' 1 v n (ints .u32 xs):=by
 obtain⟨p,c,rfl,h1,h2,h3,h4⟩:=h
 refine⟨p,c,rfl,h1,h2,h3,λhn=> ?_⟩
 obtain⟨b,off,hp,hc⟩:=h4 hn
 refine⟨b,off,hp,λj u hj=> ?_⟩
 obtain⟨x,hx,rfl⟩:=List.mem_map.1 (List.mem_of_getElem? hj)
 exact k.cell _ _ trivial (hc j _ hj)
theorem Own.kp {T:TypeId->Bool} {w w':World} {B sz n:Nat} {v:Value} {cs:List Value} (h:w.ownsRow B UU sz v n cs) (k:aV ⟨UU,λ_=>True,T⟩ w w'):w'.ownsRow B UU sz v n cs:=by
 refine⟨h.1,?_⟩
 rcases h.2 with h2|⟨g,cap,cur,hv,hb,hg,r⟩
 ·exact .inl h2
 ·exact .inr ⟨g,cap,cur,hv,hb,k.block _ g cur rfl trivial hg,r⟩
theorem eQ.kp {U:TypeId} {T:TypeId->Bool} {w w':World} {v:Value} {s:Bool} {xs:List Nat} (h:eQ w v s xs) (k:aV ⟨U,λ_=>True,T⟩ w w'):eQ w' v s xs:=by
 obtain⟨p,c,hv,hr,hl⟩:=h
 exact⟨p,c,hv,hr.kp k,hl⟩
theorem bt.kp {U:TypeId} {T:TypeId->Bool} {w w':World} {v:Value} {X:Int} {j:Nat} (h:bt w v X j) (k:aV ⟨U,λ_=>True,T⟩ w w'):bt w' v X j:=by
 obtain⟨s,xs,hn,hx,hj⟩:=h
 exact⟨s,xs,hn.kp k,hx,hj⟩
theorem bH.kp {U:TypeId} {T:TypeId->Bool} {w w':World} {v:Value} {X:Int} (h:bH w v X) (k:aV ⟨U,λ_=>True,T⟩ w w'):bH w' v X:=eQ.kp h k
theorem aj.kp {T:TypeId->Bool} {w w':World} {B:Nat} {v:Value} {X:Int} (h:aj w B v X) (k:aV ⟨UU,λ_=>True,T⟩ w w'):aj w' B v X:=by
 obtain⟨p,c,hv,ho⟩:=h
 exact⟨p,c,hv,Own.kp ho k⟩
theorem aj.in {w:World} {B:Nat} {v:Value} {X:Int} {j:Nat} (h:aj w B v X) (hs:Sz X j):bt w v X j:=h.rd.to hs
def EH (X Y:Int):Rat:=if 0<Y/\Int.gcd X Y=1 then Rat.divInt X Y else 0
theorem mn {X Y:Int} (h:0<Y/\Int.gcd X Y=1):(EH X Y).num=X/\((EH X Y).den:Int)=Y:=by
 unfold EH
 rw[if_pos h,Rat.num_divInt,Rat.den_divInt,if_neg ab,Int.gcd_comm,h.2]
 have:Y.sign=1:=dy h.1
 rw[this]
 simp
 omega
theorem EI {X Y:Int} (h:¬ (0<Y/\Int.gcd X Y=1)):EH X Y=0:=if_neg h
theorem yz (q:Rat):EH q.num q.den=q:=by
 have h:(0:Int)<q.den/\Int.gcd q.num q.den=1:=⟨by have:=q.den_nz;omega,by have:=q.reduced;simpa [Int.gcd,Nat.Coprime] using this⟩
 obtain⟨h1,h2⟩:=mn h
 exact Rat.ext h1 ab
def cJ (w:World) (v:Value) (s:Bool) (xs:List Nat) (t:Bool) (ys:List Nat):Prop:=
 ∃ p c r d,v=.agg #[.bool s,.slice p xs.length c,.bool t,.slice r ys.length d]/\eQ w (.agg #[.bool s,.slice p xs.length c]) s xs/\eQ w (.agg #[.bool t,.slice r ys.length d]) t ys
def rq (s:Bool) (xs:List Nat) (t:Bool) (ys:List Nat):Rat:=EH (numOf s xs) (numOf t ys)
def ax (w:World) (v:Value) (q:Rat) (k:Nat):Prop:=∃ s xs t ys,cJ w v s xs t ys/\q=rq s xs t ys/\xs.length<=k/\ys.length<=k
def aG (w:World) (v:Value) (q:Rat):Prop:=∃ s p n c t r m d,v=.agg #[.bool s,.slice p n c,.bool t,.slice r m d]/\bH w (.agg #[.bool s,.slice p n c]) q.num/\bH w (.agg #[.bool t,.slice r m d]) (q.den:Int)
def aE (w:World) (B:Nat) (v:Value) (q:Rat):Prop:=∃ s p n c t r m d,v=.agg #[.bool s,.slice p n c,.bool t,.slice r m d]/\aj w B (.agg #[.bool s,.slice p n c]) q.num/\aj w B (.agg #[.bool t,.slice r m d]) (q.den:Int)
def bW (q:Rat) (k:Nat):Prop:=Sz q.num k/\Sz (q.den:Int) k
theorem cJ.kp {U:TypeId} {T:TypeId->Bool} {w w':World} {v:Value} {s t:Bool} {xs ys:List Nat} (h:cJ w v s xs t ys) (k:aV ⟨U,λ_=>True,T⟩ w w'):cJ w' v s xs t ys:=by
 obtain⟨p,c,r,d,hv,h1,h2⟩:=h
 exact⟨p,c,r,d,hv,h1.kp k,h2.kp k⟩
theorem ax.kp {U:TypeId} {T:TypeId->Bool} {w w':World} {v:Value} {q:Rat} {j:Nat} (h:ax w v q j) (k:aV ⟨U,λ_=>True,T⟩ w w'):ax w' v q j:=by
 obtain⟨s,xs,t,ys,h1,h2⟩:=h
 exact⟨s,xs,t,ys,h1.kp k,h2⟩
theorem aG.kp {U:TypeId} {T:TypeId->Bool} {w w':World} {v:Value} {q:Rat} (h:aG w v q) (k:aV ⟨U,λ_=>True,T⟩ w w'):aG w' v q:=by
 obtain⟨s,p,n,c,t,r,m,d,hv,h1,h2⟩:=h
 exact⟨s,p,n,c,t,r,m,d,hv,h1.kp k,h2.kp k⟩
theorem aE.kp {T:TypeId->Bool} {w w':World} {B:Nat} {v:Value} {q:Rat} (h:aE w B v q) (k:aV ⟨UU,λ_=>True,T⟩ w w'):aE w' B v q:=by
 obtain⟨s,p,n,c,t,r,m,d,hv,h1,h2⟩:=h
 exact⟨s,p,n,c,t,r,m,d,hv,h1.kp k,h2.kp k⟩
theorem aE.mono {w:World} {B B':Nat} {v:Value} {q:Rat} (h:aE w B v q) (hB:B'<=B):aE w B' v q:=by
 obtain⟨s,p,n,c,t,r,m,d,hv,h1,h2⟩:=h
 exact⟨s,p,n,c,t,r,m,d,hv,h1.mono hB,h2.mono hB⟩
theorem aE.rd {w:World} {B:Nat} {v:Value} {q:Rat} (h:aE w B v q):aG w v q:=by
 obtain⟨s,p,n,c,t,r,m,d,hv,h1,h2⟩:=h
 exact⟨s,p,n,c,t,r,m,d,hv,h1.rd,h2.rd⟩
theorem aE.cast {w:World} {B:Nat} {v:Value} {q q':Rat} (h:aE w B v q) (e:q=q'):aE w B v q':=e▸h
theorem bH.len4 {w:World} {s:Bool} {p:Option Addr} {n c:Nat} {X:Int} (h:bH w (.agg #[.bool s,.slice p n c]) X):s=decide (X<0)/\n=(limbs X.natAbs).length:=⟨h.Ig,h.parts.1⟩
theorem aG.raw {w:World} {v:Value} {q:Rat} (h:aG w v q):cJ w v (decide (q.num<0)) (limbs q.num.natAbs) (decide ((q.den:Int)<0)) (limbs (q.den:Int).natAbs):=by
 obtain⟨s,p,n,c,t,r,m,d,rfl,h1,h2⟩:=h
 obtain⟨rfl,rfl⟩:=h1.len4
 obtain⟨rfl,rfl⟩:=h2.len4
 exact⟨p,c,r,d,rfl,h1,h2⟩
theorem aG.to {w:World} {v:Value} {q:Rat} {k:Nat} (h:aG w v q) (hs:bW q k):ax w v q k:=
 ⟨_,_,_,_,h.raw,by unfold rq;rw[ff,ff,yz],hs.1,hs.2⟩
theorem aE.in {w:World} {B:Nat} {v:Value} {q:Rat} {k:Nat} (h:aE w B v q) (hs:bW q k):ax w v q k:=h.rd.to hs
theorem bW.mono {q:Rat} {k l:Nat} (h:bW q k) (FY:k<=l):bW q l:=⟨h.1.mono FY,h.2.mono FY⟩
theorem bW.zero:bW 0 1:=⟨Sz.zero.mono ab,Sz.small fc⟩
theorem bW.one:bW 1 1:=⟨Sz.small fc,Sz.small fc⟩
theorem qZ {s:Bool} {xs:List Nat} {k:Nat} (hl:cw xs) (h:xs.length<=k):Sz (numOf s xs) k:=Nat.le_trans (ya hl) h
theorem ax.sz {w:World} {v:Value} {q:Rat} {k:Nat} (h:ax w v q k) (hk:1<=k):bW q k:=by
 obtain⟨s,xs,t,ys,⟨p,c,r,d,_,⟨_,_,_,_,l1⟩,⟨_,_,_,_,l2⟩⟩,rfl,h1,h2⟩:=h
 unfold rq
 by_cases hr:0<numOf t ys/\Int.gcd (numOf s xs) (numOf t ys)=1
 ·obtain⟨e1,e2⟩:=mn hr
  exact⟨by rw[e1];exact qZ l1 h1,by rw[e2];exact qZ l2 h2⟩
 ·rw[EI hr];exact bW.zero.mono hk
theorem ax.form {w:World} {v:Value} {q:Rat} {k:Nat} (h:ax w v q k):∃ s p n c t r m d,v=.agg #[.bool s,.slice p n c,.bool t,.slice r m d]:=by
 obtain⟨s,xs,t,ys,⟨p,c,r,d,hv,_⟩,_⟩:=h
 exact⟨_,_,_,_,_,_,_,_,hv⟩
theorem aG.parts {w:World} {s t:Bool} {p r:Option Addr} {n c m d:Nat} {q:Rat} (h:aG w (.agg #[.bool s,.slice p n c,.bool t,.slice r m d]) q):bH w (.agg #[.bool s,.slice p n c]) q.num/\bH w (.agg #[.bool t,.slice r m d]) (q.den:Int):=by
 obtain⟨s',p',n',c',t',r',m',d',hv,h1,h2⟩:=h
 simp only[Value.agg.injEq,Array.mk.injEq,List.cons.injEq,and_true] at hv
 obtain⟨e1,e2,e3,e4⟩:=hv
 rw[e1,e2,e3,e4]
 exact⟨h1,h2⟩
theorem aG.form {w:World} {v:Value} {q:Rat} (h:aG w v q):∃ s p n c t r m d,v=.agg #[.bool s,.slice p n c,.bool t,.slice r m d]:=by
 obtain⟨s,p,n,c,t,r,m,d,hv,_⟩:=h
 exact⟨_,_,_,_,_,_,_,_,hv⟩
theorem aE.form {w:World} {B:Nat} {v:Value} {q:Rat} (h:aE w B v q):∃ s p n c t r m d,v=.agg #[.bool s,.slice p n c,.bool t,.slice r m d]:=h.rd.form
theorem uE {X Y:Int} (hY:0<Y):X.fdiv (Int.gcd X Y:Int)=(Rat.divInt X Y).num/\Y.fdiv (Int.gcd X Y:Int)=((Rat.divInt X Y).den:Int):=by
 have hg:(0:Int)<(Int.gcd X Y:Int):=by
  have:Int.gcd X Y≠0:=λe=>by have:=(Int.gcd_eq_zero_iff.1 e).2;omega
  omega
 rw[Rat.num_divInt,Rat.den_divInt,if_neg ab,dy hY,Int.one_mul,Int.gcd_comm Y X]
 refine⟨Int.fdiv_eq_ediv_of_nonneg _ ab,?_⟩
 rw[Int.fdiv_eq_ediv_of_nonneg _ ab,Int.natCast_ediv]
 congr 1
 omega
theorem low_neg {X Y:Int} (hY:Y<0):X.fdiv (-(Int.gcd X Y:Int))=(Rat.divInt X Y).num/\Y.fdiv (-(Int.gcd X Y:Int))=((Rat.divInt X Y).den:Int):=by
 have e:Rat.divInt X Y=Rat.divInt (-X) (-Y):=(Rat.neg_divInt_neg X Y).symm
 obtain⟨h1,h2⟩:=uE (X:= -X) (Y:= -Y) ab
 rw[Int.neg_gcd,Int.gcd_neg] at h1 h2
 rw[e,<-h1,<-h2]
 have fd:∀ a b:Int,(-a).fdiv b=a.fdiv (-b):=λa b=>by rw[<-Int.neg_fdiv_neg,Int.neg_neg]
 exact⟨(fd _ _).symm,(fd _ _).symm⟩
end
set_option maxRecDepth 4000
section
open Go.RowKit
attribute [local irreducible] ao VS
theorem iQ (v:Value) (X:Int) (k:Nat) (w:World) (h:bt w v X k):
  Calls Tryz.prog 186 #[v] w λe w'=>∃ u,e=.returned u/\bH w' u X/\aw w w':=
 (qj v X k w w h (aw.refl w)).mono λe w' ⟨u,he,h1,h2⟩=>⟨u,he,h1.bq h2,h2⟩
theorem bH.row {w:World} {s:Bool} {p:Option Addr} {n c:Nat} {X:Int} (h:bH w (.agg #[.bool s,.slice p n c]) X):Rd w 1 (.slice p n c) n (ints .u32 (limbs X.natAbs)):=h.parts.2.1
theorem bH.n {w:World} {s:Bool} {p:Option Addr} {n c:Nat} {X:Int} (h:bH w (.agg #[.bool s,.slice p n c]) X):n=(limbs X.natAbs).length:=h.parts.1
theorem mo {s:Bool} {X:Int} (h:s=decide (X<0)):X=if s=true then-(X.natAbs:Int) else X.natAbs:=by
 subst h
 by_cases hx:X<0
 ·simp[hx];omega
 ·simp[hx];omega
theorem VO.cB {C:Cx} {F:Fr} {H:Hp} {w:World} {m:Option (List FuncId)} {full:Array Oper} {K:Fr->Hp->World->Prop} {o:Oper} {r:List Oper} {g:FuncId} {args:List AV} {vs:List Value} {v:Value} (e:stepOf C full F H o=.call (.fn g args)) (hv:fP args=some vs) (hf:jK C.P g) (con:∀ w1,aV C.K w w1->C.Old w1->Calls C.P g vs.toArray w1 λe w2=>e=.returned v/\aw w1 w2) (h:∀ w1,aV C.K w w1->C.Old w1->∀ w2,aw w1 w2->aV C.K w w2->aV C.K w1 w2->C.Old w2->ao C m full r K (F.bP o.dst (.val v)) H w2):ao C m full (o::r) K F H w:=
 VO.call e hv hf λw1 a b=>(con w1 a b).mono λ_ w2 x=>⟨v,x.1,x.2,h w1 a b w2 x.2⟩
theorem VO.cR {C:Cx} {F:Fr} {H:Hp} {w:World} {m:Option (List FuncId)} {full:Array Oper} {K:Fr->Hp->World->Prop} {o:Oper} {r:List Oper} {g:FuncId} {args:List AV} {vs:List Value} {Φ:World->World->Value->Prop} (e:stepOf C full F H o=.call (.fn g args)) (hv:fP args=some vs) (hf:jK C.P g) (con:∀ w1,aV C.K w w1->C.Old w1->Calls C.P g vs.toArray w1 λe w2=>∃ r,e=.returned r/\Φ w1 w2 r/\aw w1 w2) (h:∀ w1,aV C.K w w1->C.Old w1->∀ w2 (s:Bool) (p:Option Addr) (n c:Nat) (t:Bool) (y:Option Addr) (i j:Nat),Φ w1 w2 (.agg #[.bool s,.slice p n c,.bool t,.slice y i j])->aw w1 w2->aV C.K w w2->aV C.K w1 w2->C.Old w2->ao C m full r K (F.bP o.dst (.val (.agg #[.bool s,.slice p n c,.bool t,.slice y i j]))) H w2) (hΦ:∀ w1 w2 r,Φ w1 w2 r->∃ s p n c t y i j,r=.agg #[.bool s,.slice p n c,.bool t,.slice y i j]:=by exact λ_ _ _ h=>h.form):ao C m full (o::r) K F H w:=
 VO.call e hv hf λw1 a b=>(con w1 a b).mono λ_ w2 ⟨r,x1,x2,x3⟩=>by
   obtain⟨s,p,n,c,t,y,i,j,rfl⟩:=hΦ _ _ _ x2
   exact⟨_,x1,x3,h w1 a b w2 s p n c t y i j x2 x3⟩
theorem VO.cI {C:Cx} {F:Fr} {H:Hp} {w:World} {m:Option (List FuncId)} {full:Array Oper} {K:Fr->Hp->World->Prop} {o:Oper} {r:List Oper} {g:FuncId} {args:List AV} {vs:List Value} {Φ:World->World->Value->Prop} (e:stepOf C full F H o=.call (.fn g args)) (hv:fP args=some vs) (hf:jK C.P g) (con:∀ w1,aV C.K w w1->C.Old w1->Calls C.P g vs.toArray w1 λe w2=>∃ r,e=.returned r/\Φ w1 w2 r/\aw w1 w2) (h:∀ w1,aV C.K w w1->C.Old w1->∀ w2 (s:Bool) (p:Option Addr) (n c:Nat),Φ w1 w2 (.agg #[.bool s,.slice p n c])->aw w1 w2->aV C.K w w2->aV C.K w1 w2->C.Old w2->ao C m full r K (F.bP o.dst (.val (.agg #[.bool s,.slice p n c]))) H w2) (hΦ:∀ w1 w2 r,Φ w1 w2 r->∃ s p n c,r=.agg #[.bool s,.slice p n c]:=by exact λ_ _ _ h=>h.form):ao C m full (o::r) K F H w:=
 VO.call e hv hf λw1 a b=>(con w1 a b).mono λ_ w2 ⟨r,x1,x2,x3⟩=>by
   obtain⟨s,p,n,c,rfl⟩:=hΦ _ _ _ x2
   exact⟨_,x1,x3,h w1 a b w2 s p n c x2 x3⟩
theorem aa {P Q:Prop} (h:Q) (i:Q->P:=by intro h;(repeat first|refine wN ?_|refine wP rfl ?_|refine IE rfl ?_|refine cx_d rfl ?_|refine wO rfl rfl ?_);exact h):P:=i h
theorem aF {P Q X:Prop} (hb:X) (h:Q) (i:X->Q->P:=by intro hb h;refine⟨_,rfl,hb,λa b c=>wV rfl ?_⟩;refine aa ?_;revert a b c;exact h):P:=i hb h
theorem au {P Q:Prop} (h:Q) (i:Q->P:=by intro h;exact VS.ret (cH _ _) rfl rfl h):P:=i h
theorem ra (v:Value) (X:Int) (j:Nat) (w:World) (hv:bt w v X j) (hj:j<=1073741824):
  Calls Tryz.prog 165 #[v] w λe w'=>∃ r,e=.returned r/\aj w' w.heap.size r (-X)/\aw w w':=by
 obtain⟨s,p,n,c,rfl⟩:=hv.form
 have hl:=hv.len
 refine ae (C:=aM Tryz.prog w _) (args:=[_]) Tryz.func165 rfl Tryz.ntmps165 (bl rfl) ?_
 refine aa ?_
 refine VO.call rfl rfl (fk Tryz.func186) (λaC aY aH=>(iQ _ X j aC (hv.kp aY)).mono ?_)
 rintro e w1 ⟨r1,rfl,h1,aD⟩
 obtain⟨s1,p1,n1,c1,rfl⟩:=h1.fh
 refine aF aD ?_
 intro bQ _ bb1
 refine VO.call rfl rfl (fk Tryz.func186) (λaN bD bf=>(iQ _ X j aN (hv.kp ((bQ).aA bD))).mono ?_)
 rintro e w2 ⟨r2,rfl,h2,aQ⟩
 obtain⟨s2,p2,n2,c2,rfl⟩:=h2.fh
 refine aF aQ ?_
 intro cL _ bb2
 refine VO.cI rfl rfl (fk Tryz.func171) (λcu cM cX=>gY (!s1) _ n2 _ cu (h2.row.kp cM) (ak _) (by rw[h2.n];omega)) (λcu cM cX w3 s3 p3 n3 c3 h3 ck dR _ bb3=>wV rfl ?_)
 refine aa ?_
 refine au ?_;intro wz kz bz
 refine⟨_,rfl,aj.cast ((h3.kp kz).mono cX.size) ?_,bz⟩
 rw[ah]
 have:=mo h1.Ig
 cases s1 <;> simp at this ⊢ <;> omega
theorem rb (v u:Value) (X Y:Int) (j k:Nat) (w:World) (hv:bt w v X j) (hu:bt w u Y k) (hj:j<=536870912) (hk:k<=536870911):
  Calls Tryz.prog 159 #[v,u] w λe w'=>∃ r,e=.returned r/\aj w' w.heap.size r (X+Y)/\aw w w':=by
 obtain⟨s,p,n,c,rfl⟩:=hv.form
 obtain⟨t,q,m,d,rfl⟩:=hu.form
 have qq:=hv.len
 have nd:=hu.len
 refine ae (C:=aM Tryz.prog w _) (args:=[_,_]) Tryz.func159 rfl Tryz.ntmps159 (bl rfl) ?_
 refine aa ?_
 refine VO.call rfl rfl (fk Tryz.func186) (λaC aY aH=>(iQ _ X j aC (hv.kp aY)).mono ?_)
 rintro e w1 ⟨r1,rfl,h1,aD⟩
 obtain⟨s1,p1,n1,c1,rfl⟩:=h1.fh
 refine aF aD ?_
 intro bQ _ bb1
 refine VO.call rfl rfl (fk Tryz.func186) (λaN bD bf=>(iQ _ Y k aN (hu.kp ((bQ).aA bD))).mono ?_)
 rintro e w2 ⟨r2,rfl,h2,aQ⟩
 obtain⟨s2,p2,n2,c2,rfl⟩:=h2.fh
 refine aF aQ ?_
 intro cL _ bb2
 have e1:=mo h1.Ig
 have e2:=mo h2.Ig
 have Hv:n1<=536870912:=by rw[h1.n];omega
 have xF:n2<=536870911:=by rw[h2.n];omega
 by_cases hst:s1=s2
 ·subst hst
  refine VS.aJ rfl dw ?_
  refine aa ?_
  refine VO.call rfl rfl (fk Tryz.func187) (λcu cM cX=>(IJ _ _ n1 n2 _ _ cu (h1.row.kp (bD.aA ((Kp.of aQ).aA cM))) (h2.row.kp cM) (ak _) (ak _) ab ab).mono ?_)
  rintro e w3 ⟨v3,rfl,h3,ck⟩
  obtain⟨p3,c3,rfl,_⟩:=Own.form h3
  refine aF ck ?_
  intro dR _ bb3
  refine VO.cI rfl rfl (fk Tryz.func171) (λdJ eu eO=>gY s1 _ _ _ dJ (Rd.own (Own.kp h3 eu)) (ak _) (by have:=sum_len (a:=ag (limbs X.natAbs)) (b:=ag (limbs Y.natAbs)) (n:=n1) (m:=n2) (by rw[ah];exact h1.n) (by rw[ah];exact h2.n);omega)) (λdJ eu eO w4 s4 p4 n4 c4 h4 fe ir _ nu=>wV rfl ?_)
  refine aa ?_
  refine au ?_;intro wz kz bz
  refine⟨_,rfl,aj.cast ((h4.kp kz).mono eO.size) ?_,bz⟩
  rw[ah,ah,ah]
  cases s1 <;> simp at e1 e2 ⊢ <;> omega
 ·refine VS.aK rfl (by simpa using hst) ?_
  refine aa ?_
  refine VO.call rfl rfl (fk Tryz.func188) (λcu cM cX=>(yx _ _ n1 n2 _ _ cu (h1.row.kp (bD.aA ((Kp.of aQ).aA cM))) (h2.row.kp cM) (ak _) (ak _) ab ab).mono ?_)
  rintro e w3 ⟨h3,ck⟩
  rw[ah,ah] at h3
  rcases h3 with ⟨hlt,rfl⟩|⟨hle,v3,rfl,h3⟩
  ·refine aF ck ?_
   intro dR _ bb3
   refine VO.call rfl rfl (fk Tryz.func188) (λdJ eu eO=>(yx _ _ n2 n1 _ _ dJ (h2.row.kp (cM.aA ((Kp.of ck).aA eu))) (h1.row.kp (bD.aA ((Kp.of aQ).aA (cM.aA ((Kp.of ck).aA eu))))) (ak _) (ak _) ab ab).mono ?_)
   rintro e w4 ⟨h4,fe⟩
   rw[ah,ah] at h4
   rcases h4 with ⟨hlt',rfl⟩|⟨hle',v4,rfl,h4⟩
   ·omega
   ·obtain⟨p4,c4,rfl,_⟩:=Own.form h4
    refine aF fe ?_
    intro ir _ nu
    refine VO.cI rfl rfl (fk Tryz.func171) (λfI fY im=>gY s2 _ _ _ fI (Rd.own (Own.kp h4 fY)) (ak _) (by have:=cP (show Y.natAbs-X.natAbs<=Y.natAbs by omega);omega)) (λfI fY im w5 s5 p5 n5 c5 h5 il lG _ tW=>wV rfl ?_)
    refine aa ?_
    refine au ?_;intro wz kz bz
    refine⟨_,rfl,aj.cast ((h5.kp kz).mono im.size) ?_,bz⟩
    rw[ah]
    cases s1 <;> cases s2 <;> simp at e1 e2 hst ⊢ <;> omega
  ·obtain⟨p3,c3,rfl,_⟩:=Own.form h3
   refine aF ck ?_
   intro dR _ bb3
   refine VO.cI rfl rfl (fk Tryz.func171) (λfI fY im=>gY s1 _ _ _ fI (Rd.own (Own.kp h3 fY)) (ak _) (by have:=cP (show X.natAbs-Y.natAbs<=X.natAbs by omega);omega)) (λfI fY im w5 s5 p5 n5 c5 h5 il lG _ tW=>wV rfl ?_)
   refine aa ?_
   refine au ?_;intro wz kz bz
   refine⟨_,rfl,aj.cast ((h5.kp kz).mono im.size) ?_,bz⟩
   rw[ah]
   cases s1 <;> cases s2 <;> simp at e1 e2 hst ⊢ <;> omega
theorem Ct (v u:Value) (X Y:Int) (j k:Nat) (w:World) (hv:bt w v X j) (hu:bt w u Y k) (hj:j<=536870912) (hk:k<=536870911):
  Calls Tryz.prog 205 #[v,u] w λe w'=>∃ r,e=.returned r/\aj w' w.heap.size r (X-Y)/\aw w w':=by
 obtain⟨s,p,n,c,rfl⟩:=hv.form
 obtain⟨t,q,m,d,rfl⟩:=hu.form
 refine ae (C:=aM Tryz.prog w _) (args:=[_,_]) Tryz.func205 rfl Tryz.ntmps205 (bl rfl) ?_
 refine aa ?_
 refine VO.cI rfl rfl (fk Tryz.func165) (λaC aY aH=>ra _ Y k aC (hu.kp aY) ab) (λaC aY aH w1 s1 p1 n1 c1 h1 aD bQ _ bb1=>wV rfl ?_)
 refine aa ?_
 refine VO.cI rfl rfl (fk Tryz.func159) (λaN bD bf=>rb _ _ X (-Y) j k aN (hv.kp ((bQ).aA bD)) ((h1.kp bD).in (Sz.neg hu.len)) hj hk) (λaN bD bf w2 s2 p2 n2 c2 h2 aQ cL _ bb2=>wV rfl ?_)
 refine aa ?_
 refine au ?_;intro wz kz bz
 exact⟨_,rfl,aj.cast ((h2.kp kz).mono bf.size) (Int.sub_eq_add_neg).symm,bz⟩
end
section
open Go.RowKit
attribute [local irreducible] ao VS
set_option maxRecDepth 100000 in
theorem gr (p:Option Addr) (n c:Nat) (xs:List Nat) (w:World) (hr:Rd w 1 (.slice p n c) n (ints .i64 xs)) (hl:fH xs):
  Calls Tryz.prog 220 #[.slice p n c] w λe w'=>(∃ m,m<=n/\e=.returned (.slice p m c)/\halves (hval xs)=xs.take m)/\w=w':=by
 obtain⟨p',c',hv,dL,eH,ey⟩:=hr.i64
 simp only[Value.slice.injEq,true_and] at hv
 obtain⟨rfl,rfl⟩:=hv
 have HX:Hid (xs.length=n):=ey
 clear ey
 refine aI λR' bI=> ?_
 go_enter Tryz.func220,Tryz.ntmps220
 go_wp2
 go_loop [0] (λv=>∃ m,m<=n/\v=.slice p m c/\hval (xs.take m)=hval xs) (λv=>match v with | .slice _ m _=>m|_=>0)
 case atStart=>exact⟨n,Nat.le_refl _,rfl,by rw[List.take_of_length_le (Nat.le_of_eq HX.out)]⟩
 case round=>
  obtain⟨m,hm,rfl,hv⟩:=hrel
  have HV:Hid (hval (xs.take m)=hval xs):=hv
  clear hv
  by_cases h0:m=0
  ·subst h0
   go_wp2
   exact bI.out _ _ ⟨⟨0,Nat.zero_le _,rfl,jw ab hl (Nat.zero_le _) HV.out (.inl rfl)⟩,rfl⟩
  ·obtain⟨b,off,x,rfl,hb,hx,hc⟩:=hr.cellAt (k:=m-1) ab
   have Kj:Hid (xs[m-1]? =some x):=hx
   clear hx
   have h0':0<m:=by omega
   obtain⟨j,rfl⟩:∃ j,m=j+1:=⟨m-1,by omega⟩
   rw[Nat.add_sub_cancel] at hc
   by_cases oL:x=0
   ·subst oL
    go_wp2
    go_round
    case rel=>exact⟨j,by omega,rfl,(kh Kj.out).symm.trans HV.out⟩
    case measure=>simp
   ·have hx0':((x:Int) == 0)=false:=by rw[beq_eq_false_iff_ne];omega
    go_wp2
    exact bI.out _ _ ⟨⟨j+1,hm,rfl,jw ab hl (by rw[HX.out];exact hm) HV.out (.inr ⟨x,Kj.out,oL⟩)⟩,rfl⟩
set_option maxRecDepth 100000 in
theorem Ak (va:Value) (n:Nat) (xs:List Nat) (w:World) (hr:Rd w 1 va n (ints .u32 xs)) (hl:cw xs) (hn:n<=1073741824):
  Calls Tryz.prog 191 #[va] w λe w'=>∃ v',e=.returned v'/\w'.ownsRow w.heap.size 3 1 v' (halves (ag xs)).length (ints .i64 (halves (ag xs)))/\Below w.heap.size w w':=by
 obtain⟨p,c,rfl,dL,eH,ey⟩:=hr.u32
 obtain⟨i0,hi,iT,lj,ng⟩:=info_parts uD
 obtain⟨B,hB⟩:∃ B,B=w.heap.size:=⟨_,rfl⟩
 have HB:=Lib.hid hB
 have Hr:=Lib.hid hr
 have HL:=Lib.hid hl
 have HX:=Lib.hid ey
 rw[<-hB]
 clear hr hl ey hB
 refine aI λR' bI=> ?_
 go_enter Tryz.func191,Tryz.ntmps191
 go_wp2
 go_loopw [3,4] (λov iv wr=>Gt w B xs ov iv wr) (λ_ iv _=>n-(intOf iv).toNat)
 case atStart=>exact⟨0,[],Nat.zero_le _,rfl,rfl,dP.nil _,rfl,World.ownsRow_nil _ _ _ _,Below.refl _ _⟩
 case round=>
  obtain⟨k,hs,hk,rfl,hhl,hhh,hhv,az,hb⟩:=hrel
  have HK:=Lib.hid hk
  have HO:=Lib.hid az
  have HHL:=Lib.hid hhl
  have HHH:=Lib.hid hhh
  have HHV:=Lib.hid hhv
  have fW:=Lib.hid hb
  have uj:B<=wr.heap.size:=by have:=hb.size;have:=HB.out;omega
  have hkn':k<=n:=by rw[<-HX.out];exact hk
  clear hk az hhl hhh hhv hb
  by_cases rL:k<n
  ·obtain⟨b1,o1,x,rfl,aD,eI,hcw⟩:=Hr.out.cellAt rL
   have kG:=(fW.out.cell (p:=⟨b1,o1+k,none⟩) (by rw[HB.out];exact aD)).trans hcw
   have hne:=Kg HO.out (b:=b1) (by rw[HB.out];exact aD)
   have um:=Lib.hid eI
   have jY:=HL.out.at eI
   have HNE:=Lib.hid hne
   have JR:(0:Int)<=(k:Int):=by omega
   have jo:(k:Int)<(n:Int):=by omega
   clear eI hcw hne
   go_wp2_with fail
   go_region_held3 (λw'=>w'.cell? ⟨b1,o1+k,none⟩=some (.int .u32 (x:Int))) (first|exact kG|go_keep|exact xP vL kG HNE.out)
    ((refine nz (by rfl) _ _ 272 (by rfl) B 3 i0 (.int .i64 0) 1 8 Tryz.underlying272 hi iT lj ng rfl ab _ (2*k) (ints .i64 hs) (by rfl) ((HO.out.alloc _).drew) _ 2 (ints .i64 [x%65536,x/65536]) (by rfl) (Rd.drew (Rd.lit2 (Gu jY) (Gv jY))) (ld .i64 [x%65536,x/65536]) (by unfold maxLen;omega) ab (by simp;omega) ?_;intro v1 w1 eX vL))
   have qu:=Lib.hid eX
   have HG1:=Lib.hid vL
   clear eX vL
   go_wp2_with fail
   go_roundw
   case rel=>
    have hst:=yv um.out jY HHL.out HHH.out HHV.out
    exact⟨k+1,hs++[x%65536,x/65536],by rw[HX.out];omega,by go_num,by simp[HHL.out];omega,hst.1,hst.2,by rw[gm];exact qu.out,Below.behind fW.out uj HG1.out HO.out (Nat.le_refl _)⟩
   case measure=>simp[intOf];omega
  ·obtain rfl:k=n:=by omega
   obtain⟨p1,c1,Dv,_,_,_⟩:=Own.form HO.out
   have HV1:=Lib.hid Dv
   have pN:Hid (hval hs=ag xs):=by show _=_;rw[HHV.out,bm (Nat.le_of_eq HX.out)]
   subst Dv
   go_wp2_with fail
   refine (gr p1 (2*k) c1 hs _ (Rd.own HO.out) HHH.out).mono ?_
   rintro e w2 ⟨⟨m,hm,rfl,xr⟩,rfl⟩
   have HC:=Own.cut HO.out hm xr
   rw[pN.out] at HC
   have HC1:=Lib.hid HC.1
   have HC2:=Lib.hid HC.2
   clear HC xr
   go_wp2_with fail
   refine bI.out _ _ ⟨_,rfl,?_,fW.out⟩
   have:=HC1.out
   rw[<-HC2.out] at this ⊢
   exact this
theorem LH {n:Int} (h0: -9223372036854775808<=n) (h1:n<=9223372036854775807):rR (n.tmod 4294967296) [IntKind.i64.wrap (0-n.tmod 4294967296)]=((n.natAbs%4294967296:Nat):Int):=by
 have e:(n.tmod 4294967296).natAbs=n.natAbs%4294967296:=by rw[Int.natAbs_tmod];rfl
 have hs:(0<=n->0<=n.tmod 4294967296):=λh=>Int.tmod_nonneg _ h
 have hs':(n<=0->n.tmod 4294967296<=0):=λh=>by have:=Int.tmod_nonneg 4294967296 (show 0<=-n by omega);rw[Int.neg_tmod] at this;omega
 rw[IntWalk.i64_in _ ab]
 unfold rR rR
 split <;> omega
theorem LI {n:Int} (h0: -9223372036854775808<=n) (h1:n<=9223372036854775807):rR (IntKind.i64.wrap (n.tdiv 4294967296)) [IntKind.i64.wrap (0-IntKind.i64.wrap (n.tdiv 4294967296))]=((n.natAbs/4294967296:Nat):Int):=by
 have e:(n.tdiv 4294967296).natAbs=n.natAbs/4294967296:=by rw[Int.natAbs_tdiv];rfl
 have hs:(0<=n->0<=n.tdiv 4294967296):=λh=>Int.tdiv_nonneg h ab
 have hs':(n<=0->n.tdiv 4294967296<=0):=λh=>by have:=Int.tdiv_nonneg (show 0<=-n by omega) (show (0:Int)<=4294967296 by omega);rw[Int.neg_tdiv] at this;omega
 have hb:n.natAbs/4294967296<=2147483648:=by omega
 rw[IntWalk.i64_in (n.tdiv 4294967296) ab,IntWalk.i64_in _ ab]
 unfold rR rR
 split <;> omega
theorem Gy {x:Nat} (h:x<4294967296):IntKind.u32.wrap (x:Int)=(x:Int):=by rw[IntKind.wrap_u32',Int.emod_eq_of_lt ab ab]
theorem gZ (n:Int) (w:World) (h0: -9223372036854775808<=n) (h1:n<=9223372036854775807):
  Calls Tryz.prog 136 #[.int .i64 n] w λe w'=>∃ r,e=.returned r/\aj w' w.heap.size r n/\aw w w':=by
 have e1:=LH h0 h1
 have e2:=LI h0 h1
 have g1:=Nat.mod_lt n.natAbs (show 0<4294967296 by omega)
 have g2:n.natAbs/4294967296<4294967296:=by omega
 refine ae (C:=aM Tryz.prog w _) (args:=[_]) Tryz.func136 rfl Tryz.ntmps136 (bl rfl) ?_
 refine aa ?_
 refine VO.lit (cH _ _) [.int .u32 (IntKind.u32.wrap (rR (n.tmod 4294967296) [IntKind.i64.wrap (0-n.tmod 4294967296)])),.int .u32 (IntKind.u32.wrap (rR (IntKind.i64.wrap (n.tdiv 4294967296)) [IntKind.i64.wrap (0-IntKind.i64.wrap (n.tdiv 4294967296))]))] rfl rfl rfl rfl rfl rfl rfl rfl rfl ab (λw2 b k2 b2 ho=>wV rfl ?_)
 rw[e1,e2,Gy g1,Gy g2] at ho
 refine VO.cI rfl rfl (fk Tryz.func171) (λcu cM cX=>gY (decide (n<0)) _ 2 [n.natAbs%4294967296,n.natAbs/4294967296] cu (Rd.own (Own.kp (cs:=ints .u32 [n.natAbs%4294967296,n.natAbs/4294967296]) ho cM)) (dP.cons g1 (dP.cons g2 (dP.nil _))) ab) (λcu cM cX w3 s3 p3 n3 c3 h3 ck dR _ bb3=>wV rfl ?_)
 refine aa ?_
 refine au ?_;intro wz kz bz
 refine⟨_,rfl,aj.cast ((h3.kp kz).mono cX.size) ?_,bz⟩
 rw[eB,eB,dx]
 by_cases hn:n<0
 ·simp only[hn,decide_true,if_true];omega
 ·simp only[hn,decide_false];simp;omega
end
section
open Go.RowKit
def lv (ls:List Nat) (k j:Nat):Nat:=(if 2*j<k then ls.getD (2*j) 0 else 0)+65536*(if 2*j+1<k then ls.getD (2*j+1) 0 else 0)
def xp (ls:List Nat) (m k:Nat):List Nat:=(List.range m).map (lv ls k)
theorem LJ (ls:List Nat) (m:Nat):xp ls m 0=List.replicate m 0:=by
 apply List.ext_getElem
 ·simp[xp]
 ·intro i h1 h2;simp[xp,lv]
theorem LK {ls:List Nat} {m j x:Nat} (hx:ls[2*j]? =some x):(xp ls m (2*j)).set j x=xp ls m (2*j+1):=by
 apply List.ext_getElem
 ·simp[xp]
 ·intro i h1 h2
  simp only[xp,List.getElem_set,List.getElem_map,List.getElem_range]
  by_cases e:j=i
  ·subst e
   rw[if_pos rfl]
   unfold lv
   rw[if_pos ab,if_neg ab,List.getD_eq_getElem?_getD,hx];rfl
  ·rw[if_neg e]
   unfold lv
   congr 1
   ·by_cases h:2*i<2*j
    ·rw[if_pos h,if_pos ab]
    ·rw[if_neg h,if_neg ab]
   ·by_cases h:2*i+1<2*j
    ·rw[if_pos h,if_pos ab]
    ·rw[if_neg h,if_neg ab]
theorem lds_odd {ls:List Nat} {m j x y:Nat} (hy:(xp ls m (2*j+1))[j]? =some y) (hx:ls[2*j+1]? =some x):(xp ls m (2*j+1)).set j (y+65536*x)=xp ls m (2*j+2):=by
 have hy':y=ls.getD (2*j) 0:=by
  obtain⟨h,rfl⟩:=List.getElem?_eq_some_iff.1 hy
  simp only[xp,List.getElem_map,List.getElem_range]
  unfold lv
  rw[if_pos ab,if_neg ab];rfl
 apply List.ext_getElem
 ·simp[xp]
 ·intro i h1 h2
  simp only[xp,List.getElem_set,List.getElem_map,List.getElem_range]
  by_cases e:j=i
  ·subst e
   rw[if_pos rfl]
   unfold lv
   rw[if_pos ab,if_pos ab,hy']
   congr 2
   rw[List.getD_eq_getElem?_getD,hx];rfl
  ·rw[if_neg e]
   unfold lv
   congr 1
   ·by_cases h:2*i<2*j+1
    ·rw[if_pos h,if_pos ab]
    ·rw[if_neg h,if_neg ab]
   ·by_cases h:2*i+1<2*j+1
    ·rw[if_pos h,if_pos ab]
    ·rw[if_neg h,if_neg ab]
theorem lds_end {ls:List Nat} (h:fH ls) {m:Nat} (hm:ls.length<=2*m):ag (xp ls m ls.length)=hval ls/\cw (xp ls m ls.length):=by
 have hb:∀ k,ls.getD k 0<65536:=λk=>jC h k
 have sW:∀ j,lv ls ls.length j=ls.getD (2*j) 0+65536*ls.getD (2*j+1) 0:=λj=>by
  unfold lv
  congr 1
  ·split
   ·rfl
   ·rw[gp ab]
  ·split
   ·rfl
   ·rw[gp ab]
 constructor
 ·have key:∀ j,j<=m->ag ((xp ls m ls.length).take j)=hval (ls.take (2*j)):=by
   intro j
   induction j with
   | zero=>intro _;rfl
   | succ j ih=>
     intro hj
     rw[aZ,ih ab]
     have e:(xp ls m ls.length).getD j 0=ls.getD (2*j) 0+65536*ls.getD (2*j+1) 0:=by
      rw[List.getD_eq_getElem?_getD]
      simp[xp,show j<m by omega,sW]
     rw[e]
     show _=val 65536 (ls.take (2*j+1+1))
     rw[bV,bV,Nat.mul_add,<-Nat.mul_assoc,Nat.pow_succ 65536 (2*j),Nat.pow_mul]
     show val 65536 _+_=_
     rw[Nat.add_assoc]
  have:=key m (Nat.le_refl _)
  rw[List.take_of_length_le (by simp[xp]),List.take_of_length_le hm] at this
  exact this
 ·intro x hx
  obtain⟨j,_,rfl⟩:=List.mem_map.1 hx
  rw[sW]
  have:=hb (2*j)
  have:=hb (2*j+1)
  omega
def IK (w:World) (B g m:Nat) (ls:List Nat) (iv:Value) (wr:World):Prop:=
 ∃ k,k<=ls.length/\iv=.int .i64 (k:Int)/\wr.ownsRow B 191 1 (.slice (some ⟨g,0,none⟩) m m) m (ints .u32 (xp ls m k))/\Below B w wr
set_option maxRecDepth 100000 in
theorem Cu (va:Value) (n:Nat) (ls:List Nat) (w:World) (hr:Rd w 1 va n (ints .i64 ls)) (hl:fH ls) (hn:n<=2147483656):
  Calls Tryz.prog 189 #[va] w λe w'=>∃ v' xs,e=.returned v'/\xs.length=(n+1)/2/\w'.ownsRow w.heap.size 191 1 v' ((n+1)/2) (ints .u32 xs)/\ag xs=hval ls/\cw xs/\Below w.heap.size w w':=by
 obtain⟨p,c,rfl,dL,eH,ey⟩:=hr.i64
 obtain⟨i0,hi,iT,lj,ng⟩:=info_parts iL
 obtain⟨B,hB⟩:∃ B,B=w.heap.size:=⟨_,rfl⟩
 have HB:=Lib.hid hB
 have Hr:=Lib.hid hr
 have HL:=Lib.hid hl
 have HX:=Lib.hid ey
 obtain⟨m,hm⟩:∃ m,m=(n+1)/2:=⟨_,rfl⟩
 have HM:=Lib.hid hm
 have hmn:n<=2*m:=by omega
 have hmb:m<=1073741828:=by omega
 have hq:((n:Int)+1)/2=(m:Int):=by omega
 rw[<-hB,<-hm]
 clear hr hl ey hB hm
 refine aI λR' bI=> ?_
 go_enter Tryz.func189,Tryz.ntmps189
 go_wp2_with (at_make;refine wpList_make_full _ rfl _ _ 30 rfl B 191 i0 (.int .u32 0) 1 Tryz.underlying30 hi iT lj .i64 .i64 _ _ m rfl rfl hq hq (by rw[ng];omega) (by unfold maxLen;omega) (Nat.le_of_eq HB.out) ?_;intro w1 az AZ)
 have DJ:=Lib.hid (Own.made az)
 have Hb1:Hid (Below B w w1):=(Below.refl _ _).grown AZ (Nat.le_of_eq HB.out) (λk hk=>by cases hk)
 clear az AZ hq
 go_wp2_with fail
 go_loopw [4] (λiv wr=>IK w B w.heap.size m ls iv wr) (λiv _=>n-(intOf iv).toNat)
 case atStart=>exact⟨0,Nat.zero_le _,rfl,by rw[LJ];have:=DJ.out;rw[List.nil_append] at this;exact this,Hb1.out⟩
 case round=>
  obtain⟨k,hk,rfl,az,hb⟩:=hrel
  have mZ:=Lib.hid az
  have nI:=Lib.hid hb
  have rL:k<=n:=by rw[<-HX.out];exact hk
  clear az hb hk
  by_cases hlt:k<n
  ·obtain⟨b1,o1,x,rfl,aD,eI,hcw⟩:=Hr.out.cellAt hlt
   have kG:=(nI.out.cell (p:=⟨b1,o1+k,none⟩) (by rw[HB.out];exact aD)).trans hcw
   have jY:=HL.out.at eI
   have um:=Lib.hid eI
   obtain⟨j,hj⟩:∃ j,j=k/2:=⟨_,rfl⟩
   have Cv:(k:Int)/2=(j:Int):=by omega
   have hjm:j<m:=by omega
   obtain⟨z,hz,hcell,xu⟩:=Own.fT mZ.out (j:=j) hjm
   have HZ:=Lib.hid hz
   have hw4:(x:Int)%4294967296=(x:Int):=by omega
   have hj0:(0:Int)<=(j:Int):=by omega
   have hj1:(j:Int)<(m:Int):=by omega
   have JR:(0:Int)<=(k:Int):=by omega
   have jo:(k:Int)<(n:Int):=by omega
   by_cases he:k%2=0
   ·have hke:((k:Int)%2 == 0)=true:=by rw[beq_iff_eq];omega
    have HK:Hid (k=2*j):=by show _=_;omega
    clear eI hcw he hj hz
    go_wp2_with fail
    go_roundw
    case rel=>
     refine⟨k+1,by rw[HX.out];omega,by go_num,?_,nI.out.setCell (Own.lt mZ.out).1 _⟩
     have h1:=Own.fG (j:=j) (x:=x) mZ.out
     rw[HK.out,LK (by rw[<-HK.out];exact um.out)] at h1
     rw[HK.out]
     simpa using h1
    case measure=>simp[intOf];omega
   ·have hke:((k:Int)%2 == 0)=false:=by rw[beq_eq_false_iff_ne];omega
    have HK:Hid (k=2*j+1):=by show _=_;omega
    have hz4:z<65536:=by
     have:=HZ.out
     rw[HK.out] at this
     obtain⟨h,rfl⟩:=List.getElem?_eq_some_iff.1 this
     simp only[xp,List.getElem_map,List.getElem_range]
     unfold lv
     rw[if_pos ab,if_neg ab]
     exact jC HL.out _
    have hw5:IntKind.u32.wrap (z+IntKind.u32.wrap (65536*(x:Int)))=((z+65536*x:Nat):Int):=by
     rw[IntKind.wrap_u32',IntKind.wrap_u32'];omega
    clear eI hcw he hj hz
    go_wp2
    go_region
    all_goals
     go_wp2_with fail
     go_roundw
     case rel=>
      refine⟨k+1,by rw[HX.out];omega,by go_num,?_,(nI.out.setCell (Own.lt mZ.out).1 _).drew⟩
      have h1:=Own.fG (j:=j) (x:=z+65536*x) mZ.out
      rw[HK.out,lds_odd (by have:=HZ.out;rw[HK.out] at this;exact this) (by rw[<-HK.out];exact um.out)] at h1
      rw[HK.out]
      have h2:(((z+65536*x:Nat):Int))=(z:Int)+65536*(x:Int):=by omega
      rw[h2] at h1
      exact h1
     case measure=>simp[intOf];omega
  ·obtain rfl:k=n:=by omega
   obtain⟨e1,e2⟩:=lds_end HL.out (m:=m) (by rw[HX.out];exact hmn)
   rw[HX.out] at e1 e2
   have E1:=Lib.hid e1
   have E2:=Lib.hid e2
   clear e1 e2
   go_wp2_with fail
   exact bI.out _ _ ⟨_,_,rfl,by simp[xp],mZ.out,E1.out,E2.out,nI.out⟩
end
section
open Go.RowKit
theorem val_set {B:Nat} {xs:List Nat} {j o v:Nat} (h:xs[j]? =some o):val B (xs.set j v)+B^j*o=val B xs+B^j*v:=by
 obtain⟨hl,he⟩:=List.getElem?_eq_some_iff.1 h
 have h1:xs=xs.take j++o::xs.drop (j+1):=by rw[<-he,<-List.drop_eq_getElem_cons hl,List.take_append_drop]
 have h2:xs.set j v=xs.take j++v::xs.drop (j+1):=by
  conv=>lhs;rw[h1]
  rw[List.set_append_right _ _ (by rw[List.length_take];omega)]
  rw[List.length_take,Nat.min_eq_left ab,Nat.sub_self];rfl
 have e1:val B xs=val B (xs.take j)+B^j*(o+B*val B (xs.drop (j+1))):=by
  conv=>lhs;rw[h1]
  rw[iz,List.length_take,Nat.min_eq_left ab,fS]
 have e2:val B (xs.set j v)=val B (xs.take j)+B^j*(v+B*val B (xs.drop (j+1))):=by
  rw[h2,iz,List.length_take,Nat.min_eq_left ab,fS]
 rw[e1,e2,Nat.mul_add,Nat.mul_add]
 omega
theorem fH.set {xs:List Nat} (h:fH xs) {v:Nat} (hv:v<65536) (j:Nat):fH (xs.set j v):=λy hy=>by
 rcases List.mem_or_eq_of_mem_set hy with h1|h1
 ·exact h y h1
 ·rw[h1];exact hv
theorem re {os:List Nat} {i k x y o c s S Y:Nat} (ho:os[i+k]? =some o) (hs:s=x*y+o+c) (h:hval os+65536^(i+k)*c=S+65536^i*(x*Y)):
  hval (os.set (i+k) (s%65536))+65536^(i+(k+1))*(s/65536)=S+65536^i*(x*(Y+65536^k*y)):=by
 have h1:hval (os.set (i+k) (s%65536))+65536^(i+k)*o=hval os+65536^(i+k)*(s%65536):=val_set ho
 have h2:65536^(i+(k+1))=65536^(i+k)*65536:=by rw[<-Nat.add_assoc,Nat.pow_succ]
 have h3:65536^(i+k)*s=65536^(i+k)*(s%65536)+65536^(i+k)*65536*(s/65536):=by
  rw[Nat.mul_assoc,<-Nat.mul_add,Nat.mod_add_div]
 have h4:65536^(i+k)*s=65536^(i+k)*(x*y)+65536^(i+k)*o+65536^(i+k)*c:=by rw[hs,Nat.mul_add,Nat.mul_add]
 have h5:65536^i*(x*(Y+65536^k*y))=65536^i*(x*Y)+65536^(i+k)*(x*y):=by
  rw[Nat.mul_add,Nat.mul_add,Nat.pow_add]
  congr 1
  rw[Nat.mul_left_comm x,Nat.mul_assoc]
 rw[h2,h5]
 omega
def iv (xs:List Nat):List AV:=(ints .i64 xs).map .val
theorem bZ (xs:List Nat):(iv xs).length=xs.length:=by simp[iv]
theorem LL {xs:List Nat} {j x:Nat} (h:xs[j]? =some x):(iv xs)[j]? =some (.val (.int .i64 (x:Int))):=by
 unfold iv
 rw[List.getElem?_map,qA h];rfl
theorem oG (xs ys:List Nat):iv (xs++ys)=iv xs++iv ys:=by simp[iv,gm]
theorem lH (xs:List Nat):(iv xs).all aL=true:=cU (List.all_eq_true.2 λu hu=>by obtain⟨_,_,rfl⟩:=List.mem_map.1 hu;rfl)
theorem Gz (xs:List Nat):(ints .i64 xs).all bc=true:=List.all_eq_true.2 λu hu=>by obtain⟨_,_,rfl⟩:=List.mem_map.1 hu;rfl
theorem bE (xs:List Nat):aO (iv xs)=[]:=af _
theorem vO:∀ n:Nat,jh n [.val (.int .i64 0)]=iv (List.replicate n 0)
 | 0=>rfl
 | n+1=>by rw[jh,vO n,List.replicate_succ];rfl
theorem iv_peek {xs:List Nat} {spare:List AV} {j x o:Nat} (h:xs[j]? =some x) (ho:o=j):∀ i u,[AV.val (.int .i64 (x:Int))][i]? =some u->(iv xs++spare)[o+i]? =some u:=by
 subst ho
 intro i u hu
 cases i with
 | zero=>
   cases hu
   have hl:=(List.getElem?_eq_some_iff.1 (LL h)).1
   rw[Nat.add_zero,List.getElem?_append_left hl,LL h]
 | succ i=>cases hu
theorem rf {xs:List Nat} {j x o:Nat} (h:xs[j]? =some x) (ho:o=j):∀ i u,[AV.val (.int .i64 (x:Int))][i]? =some u->(iv xs)[o+i]? =some u:=by
 have:=iv_peek (spare:=[]) h ho
 simpa using this
theorem uF {xs:List Nat} {j x o:Nat} (h:j<xs.length) (ho:o=j):(iv xs).take o++([AV.val (.int .i64 (x:Int))]++(iv xs).drop (o+1))=iv (xs.set j x):=by
 subst ho
 have:iv (xs.set o x)=(iv xs).set o (.val (.int .i64 (x:Int))):=by simp[iv,<-ints_set,List.map_set]
 rw[this,List.set_eq_take_append_cons_drop,if_pos (by rw[bZ];exact h)]
 rfl
theorem kA {C:Cx} {β:Nat->Nat} {w:World} {i n c:Nat} {t:TypeId} {xs:List Nat} {spare:List AV} (h:jL C β w i t (iv xs++spare)) (hn:xs.length=n) (dL:n<=c) (eH:c<=maxLen):Rd w 1 (.slice (some ⟨β i,0,none⟩) n c) n (ints .i64 xs):=by
 refine⟨_,c,rfl,dL,eH,by simp[hn],λ_=>⟨_,_,rfl,λj u hj=> ?_⟩⟩
 have hl:=(List.getElem?_eq_some_iff.1 hj).1
 refine h.cls.cell ?_
 rw[Nat.zero_add]
 simp only[List.map_append,List.getElem?_toArray]
 rw[List.getElem?_append_left (by simpa [iv] using hl)]
 unfold iv
 rw[aW]
 exact hj
def eD (w:World) (B:Nat) (v:Value) (n:Nat) (xs:List Nat):Prop:=
 xs.length=n/\((v=.slice none 0 0/\n=0)\/∃ b c spare,v=.slice (some ⟨b,0,none⟩) n c/\B<=b/\bj w b 3 (ints .i64 xs++spare).toArray/\n<=c/\c<=maxLen/\n+spare.length=c/\spare.all bc=true)
theorem eD.own {w:World} {B:Nat} {v:Value} {n:Nat} {xs:List Nat} (h:eD w B v n xs):w.ownsRow B 3 1 v n (ints .i64 xs):=by
 obtain⟨hn,⟨rfl,rfl⟩|⟨b,c,spare,rfl,hB,hc,h1,h2,h3,_⟩⟩:=h
 ·rw[List.eq_nil_of_length_eq_zero hn];exact World.ownsRow_nil _ _ _ _
 ·refine⟨by simp[hn],.inr ⟨b,c,_,rfl,hB,hc,h1,h2,by simp[hn,h3],?_⟩⟩
  rw[List.take_append_of_le_length (by simp[hn]),List.take_of_length_le (by simp[hn])]
theorem eD.new {C:Cx} {w:World} {B:Nat} {v:Value} {n:Nat} {xs:List Nat} (h:eD w B v n xs):Lk C 3 1 B w v n (ints .i64 xs):=by
 obtain⟨hn,⟨rfl,rfl⟩|⟨b,c,spare,rfl,hB,hc,h1,h2,h3,h4⟩⟩:=h
 ·exact .inl ⟨rfl,rfl,by rw[List.eq_nil_of_length_eq_zero hn];rfl⟩
 ·exact .inr ⟨b,c,spare,rfl,hB,hc,Gz xs,h4,h1,by simpa [maxLen] using h2,by simp;omega⟩
theorem eD.nil (w:World) (B:Nat):eD w B (.slice none 0 0) 0 []:=⟨rfl,.inl ⟨rfl,rfl⟩⟩
theorem nZ {C:Cx} {β:Nat->Nat} {w:World} {i n m c:Nat} {xs:List Nat} {spare:List AV} (h:jL C β w i 3 (iv xs++spare)) (hn:xs.length=n) (hm:m<=n) (dL:n<=c) (eH:c<=maxLen) (hl:xs.length+spare.length=c) (hnw:∀ i g,C.uu i g->C.w0.heap.size<=g:=by exact λ_ _ h=>h):
  eD w C.w0.heap.size (.slice (some ⟨β i,0,none⟩) m c) m (xs.take m):=by
 refine⟨by rw[List.length_take];omega,.inr ⟨β i,c,ints .i64 (xs.drop m)++spare.map (AV.leaf β),rfl,hnw _ _ h.new,?_,by omega,eH,by simp;omega,?_⟩⟩
 ·have:=h.cls
  rw[List.map_append] at this
  unfold iv at this
  rw[aW] at this
  rw[<-List.append_assoc,<-gm,List.take_append_drop]
  exact this
 ·have hk:=h.ok
  rw[List.all_append,Bool.and_eq_true] at hk
  rw[List.all_append,Gz,dX hk.2];rfl
theorem fJ {C:Cx} {β:Nat->Nat} {w:World} {i:Nat} {t:TypeId} {cs news rest:List AV} (h:jL C β w i t cs) (e:cs=news++rest):∀ j u,(news.map (AV.leaf β))[j]? =some u->w.cell? ⟨β i,0+j,none⟩=some u:=by
 intro j u hj
 have hl:=(List.getElem?_eq_some_iff.1 hj).1
 refine h.cls.cell ?_
 rw[e,Nat.zero_add,List.map_append]
 simp only[List.getElem?_toArray]
 rw[List.getElem?_append_left hl]
 exact hj
theorem bu {cs:List AV} (h:aO cs=[]) (i:Nat) (ρ:AV->Value):cs.map (AV.qw i ρ)=cs:=by
 induction cs with
 | nil=>rfl
 | cons x r ih=>
   rw[aO,List.append_eq_nil_iff] at h
   rw[List.map_cons,ih h.2]
   have:x.qw i ρ=x:=by unfold AV.qw;rw[h.1];rfl
   rw[this]
theorem LM (i:Nat) (ρ:AV->Value) (xs:List Nat):(iv xs).map (AV.qw i ρ)=iv xs:=bu (bE xs) i ρ
theorem uG {xs:List Nat} {m n:Nat} (h:halves (hval xs)=xs.take m) (hm:m<=n) (hn:xs.length=n):m=(halves (hval xs)).length:=by rw[h,List.length_take];omega
end
end Go.Proofs.YtlfdmhfhkgpmbaaGreat
