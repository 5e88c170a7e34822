/-DD of the proof,laid behind one another. -/
import Derived.Test.YtlifeokjcgngjaaGreatKAdjustKnown2
import Derived.MapKept
import Derived.Deep.RegionHeld3
import Derived.Deep.RegionLaw
import Derived.Deep.DeepCutAuto
import Derived.BigRegion
set_option linter.all false
set_option maxHeartbeats 64000000
namespace Go.Proofs.YtlifeokjcgngjaaGreat
section
open Go.RowKit Go.MapKept
structure rj (ad:List Nat) (w w':World):Prop where
 os:w'.os=w.os
 tape:w'.tape=w.tape
 output:w'.output=w.output
 size:w.heap.size<=w'.heap.size
 sm:∀ g,g<w.heap.size->g∉ad->w'.heap[g]? =w.heap[g]?
variable {w w':World}
theorem rj.of {ad:List Nat} (h:aD w w'):rj ad w w':=⟨h.os,h.tape,h.output,h.size,λg hg _=>tZ h g hg⟩
theorem rj.aN {ad:List Nat} {a b c:World} (h:rj ad a b) (k:rj ad b c):rj ad a c:=
 ⟨k.os.trans h.os,k.tape.trans h.tape,k.output.trans h.output,bG h.size k.size,λg hg hn=>(k.sm g (tS hg h.size) hn).trans (h.sm g hg hn)⟩
def iR (K:KC) (ad:List Nat) (w:World):Prop:=∀ g∈ad,∃ t cs,cN w g t (List.toArray cs)/\K.fz t=false/\cs.all cJ=true
variable {K:KC}
theorem rj.kp {ad:List Nat} (h:rj ad w w') (ha:iR K ad w):bg K w w':=by
 have no:∀ g,g∈ad->∀ o,w.heap[g]? =some o->∃ t cs,o=Obj.cells (List.toArray cs) t/\K.fz t=false/\cs.all cJ=true:=λg hg o ho=>by
  obtain⟨t,cs,h1,h2,h3⟩:=ha g hg;have:=(show w.heap[g]? =_ from h1).symm.trans ho;cases this;exact⟨t,cs,aa,h2,h3⟩
 refine⟨h.size,λa x _ hx=> ?_,λt g cur hf _ hg=> ?_,λg es c hg=> ?_⟩
 ·have hlt:=Hf w a hx;by_cases hm:a.block∈ad
  ·obtain⟨t,cs,h1,h2,h3⟩:=ha _ hm;exfalso;have hx':=hx;simp only[World.cell?,show w.heap[a.block]? =_ from h1] at hx';simp at hx';have:=eg.1 h3 _ (dz hx'.2);cases this
  ·rw[Li (w:=w) (h.sm _ hlt hm)];exact hx
 ·refine (h.sm g (uA.1 hg).1 λhm=> ?_).trans hg;obtain⟨t',cs,e,h2,_⟩:=no g hm _ hg;cases e;rw[h2] at hf;cases hf
 ·refine (h.sm g (uA.1 hg).1 λhm=> ?_).trans hg;obtain⟨t',cs,e,_⟩:=no g hm _ hg;cases e
def jz (N:Nat) (ad:List Nat) (w0:World) (i g:Nat):Prop:=if 2*N<=i then ad[i-2*N]? =some g else (w0.heap.size<=g\/g∈ad)
def GI (K:KC) (ad:List Nat) (w0 w:World):Prop:=rj ad w0 w/\iR K ad w
variable {g:Nat}
theorem iR.lt {ad:List Nat} (h:iR K ad w) (hg:g∈ad):g<w.heap.size:=by
 obtain⟨t,cs,h1,_⟩:=h g hg;exact h1.lt
variable {N:Nat} {w0:World}
theorem newA_ad {ad:List Nat} (h:g∈ad):∃ i,jz N ad w0 i g:=by
 obtain⟨j,hj⟩:=List.mem_iff_getElem?.1 h;exact⟨2*N+j,by unfold jz;rw[if_pos ae,Rz];exact hj⟩
variable {i:Nat}
theorem fO {ad:List Nat} (h:jz N ad w0 i g):w0.heap.size<=g\/g∈ad:=by
 unfold jz at h
 split at h
 ·exact .inr (dz h)
 ·exact h
theorem Ul {ad:List Nat} (h0:iR K ad w0) (h:GI K ad w0 w) (keep:∀ b,b<w0.heap.size->K.S b) (s:Stp K (jz N ad w0) w w'):GI K ad w0 w':=by
 obtain⟨h1,h2⟩:=h;refine⟨⟨s.os.trans h1.os,s.tape.trans h1.tape,s.output.trans h1.output,bG h1.size s.size,λg hg hn=> ?_⟩,λg hg=> ?_⟩
 ·rcases s.sm g (tS hg h1.size) with e|⟨⟨i,hi⟩,_⟩|e
  ·exact e.trans (h1.sm g hg hn)
  ·rcases fO hi with e|e
   ·omega
   ·exact absurd e hn
  ·exact absurd (keep g hg) e
 ·rcases s.sm g (h2.lt hg) with e|⟨_,t,cs,g1,g2,g3⟩|e
  ·obtain⟨t,cs,g1,g2,g3⟩:=h2 g hg;exact⟨t,cs,e.trans g1,g2,g3⟩
  ·exact⟨t,cs,g1,g2,g3⟩
  ·exact absurd (keep g (h0.lt hg)) e
theorem Um {ad:List Nat} {a:Addr} {u:Value} (h:GI K ad w0 w) (hn:∀ i,¬ jz N ad w0 i a.block) (hc:w0.cell? a=some u):w.cell? a=some u:=by
 rw[Li (w:=w0) (h.1.sm _ (Hf w0 a hc) λhm=>by
  obtain⟨i,hi⟩:=newA_ad (N:=N) (w0:=w0) hm;exact hn i hi)]
 exact hc
theorem Sg {ad:List Nat} (hi:i<2*N) (hg:w0.heap.size<=g):jz N ad w0 i g:=by
 unfold jz;rw[if_neg ae];exact .inl hg
theorem newA_mv {ad:List Nat} {j:Nat} (h:jz N ad w0 i g) (hj:j<2*N):jz N ad w0 j g:=by
 have:=fO h;unfold jz;rw[if_neg ae];exact this
def sQ (w:World) (g:Nat) (o:Obj):World:={ w with heap:=w.heap.setIfInBounds g o }
theorem Sh (o:Obj) (h:g<w.heap.size):(sQ w g o).heap[g]? =some o:=by simp[sQ,h]
theorem Kb {q:Nat} (o:Obj) (h:q≠g):(sQ w g o).heap[q]? =w.heap[q]? :=by
 simp[sQ,Ne.symm h]
theorem Un (w:World) (g:Nat) (o:Obj):(sQ w g o).heap.size=w.heap.size:=by simp[sQ]
theorem MJ {ad:List Nat} (o:Obj) (h:g∈ad):rj ad w (sQ w g o):=
 ⟨rfl,rfl,rfl,gX (Un w g o).symm,λq _ hq=>Kb o λe=>hq (e▸h)⟩
def PH (H:Hp) (β:Nat->Nat) (N:Nat):Nat->List Nat->World->World
 | _,[],w=>w
 | k,g::r,w=>PH H β N (k+1) r (match H (2*N+k) with|some (t,cs)=>sQ w g (.cells (cs.map (AV.leaf β)).toArray t)|none=>w)
theorem ML {K:KC} {ad:List Nat} {w0:World} {H:Hp} {β:Nat->Nat} {N:Nat} (hH:∀ i t cs,H i=some (t,cs)->K.fz t=false/\cs.all bO=true):∀ (l:List Nat) (k:Nat) (w:World),GI K ad w0 w->(∀ g∈l,g∈ad)->l.Nodup->
  bg K w (PH H β N k l w)/\GI K ad w0 (PH H β N k l w)/\(∀ g,g∉l->(PH H β N k l w).heap[g]? =w.heap[g]?)/\∀ j g t cs,l[j]? =some g->H (2*N+(k+j))=some (t,cs)->cN (PH H β N k l w) g t (cs.map (AV.leaf β)).toArray
 | [],k,w,h,_,_=>⟨bg.refl _ _,h,λ_ _=>rfl,λj g t cs hj=>by simp at hj⟩
 | g::r,k,w,h,hs,hn=>by
   have hg:g∈ad:=hs g (Lk ..);obtain⟨n1,n2⟩:=List.nodup_cons.1 hn
   have step:∃ w1,(match H (2*N+k) with|some (t,cs)=>sQ w g (.cells (cs.map (AV.leaf β)).toArray t)|none=>w)=w1/\bg K w w1/\GI K ad w0 w1/\(∀ q,q≠g->w1.heap[q]? =w.heap[q]?)/\∀ t cs,H (2*N+k)=some (t,cs)->cN w1 g t (cs.map (AV.leaf β)).toArray:=by
    cases hh:H (2*N+k) with
    | none=>exact⟨w,aa,bg.refl _ _,h,λ_ _=>aa,λt cs e=>by cases e⟩
    | some c=>
      obtain⟨t,cs⟩:=c;obtain⟨q1,q2⟩:=hH _ t cs hh;have hlt:=h.2.lt hg;have kP:cN (sQ w g (.cells (cs.map (AV.leaf β)).toArray t)) g t (cs.map (AV.leaf β)).toArray:=Sh _ hlt;have hb:=MJ (w:=w) (.cells (cs.map (AV.leaf β)).toArray t) hg;refine⟨_,aa,hb.kp h.2,⟨h.1.aN hb,λq hq=> ?_⟩,λq hq=>Kb _ hq,λt' jU e=>by cases e;exact kP⟩;by_cases e:q=g
      ·subst e;exact⟨t,_,kP,q1,gw q2⟩
      ·obtain⟨t',jU,g1,g2,g3⟩:=h.2 q hq;exact⟨t',jU,(Kb _ e).trans g1,g2,g3⟩
   obtain⟨w1,e1,s1,s2,s3,s4⟩:=step;unfold PH;rw[e1];obtain⟨k1,k2,k3,k4⟩:=ML hH r (k+1) w1 s2 (λq hq=>hs q (DK _ hq)) n2;refine⟨s1.aN k1,k2,λq hq=>(k3 q λe=>hq (DK _ e)).trans (s3 q λe=>hq (by rw[e];exact Lk ..)),λj q t cs hj hh=> ?_⟩;cases j with
   | zero=>
     simp at hj;subst hj;exact (k3 g n1).trans (s4 t cs hh)
   | succ j=>
     refine k4 j q t cs (by simpa using hj) ?_;rw[<-hh]
     congr 1
     omega
theorem PI {ad:List Nat} {w1:World} (hd:ad.Nodup) (h:GI K ad w0 w1) (H:Hp) (hH:∀ i t cs,H i=some (t,cs)->K.fz t=false/\cs.all bO=true) (hf:∀ i,2*N+ad.length<=i->H i=none):
  ∃ β w2,bg K w1 w2/\GI K ad w0 w2/\(∀ i t cs,H i=some (t,cs)->jz N ad w0 i (β i)/\cN w2 (β i) t (cs.map (AV.leaf β)).toArray)/\∀ i j,H i≠none->H j≠none->β i=β j->i=j:=by
 let β:Nat->Nat:=λi=>if 2*N<=i then ad.getD (i-2*N) 0 else w1.heap.size+i
 have Ys:∀ i,i<2*N->β i=w1.heap.size+i:=λi hi=>if_neg ae;have hβ2:∀ i,2*N<=i->β i=ad.getD (i-2*N) 0:=λi hi=>if_pos hi;have mb:=Dh H β w1 (2*N)
 have ha':GI K ad w0 (mkW H β (2*N) w1):=⟨h.1.aN (rj.of mb),λg hg=>by
  obtain⟨t,cs,g1,g2,g3⟩:=h.2 g hg;exact⟨t,cs,g1.bS mb,g2,g3⟩⟩
 obtain⟨k1,k2,k3,k4⟩:=ML (β:=β) (N:=N) hH ad 0 _ ha' (λ_ h=>h) hd
 have hlt:∀ i,2*N<=i->H i≠none->∃ g,ad[i-2*N]? =some g/\β i=g:=λi hi hn=>by
  have:i-2*N<ad.length:=by
   apply Xh;intro e;exact hn (hf i ae)
  refine⟨ad[i-2*N],bj this,?_⟩;rw[hβ2 i hi];simp[List.getD_eq_getElem?_getD,this]
 refine⟨β,PH H β N 0 ad (mkW H β (2*N) w1),(bg.of mb).aN k1,k2,λi t cs hi=> ?_,λi j hi hj e=> ?_⟩
 ·by_cases c:2*N<=i
  ·obtain⟨g,g1,g2⟩:=hlt i c (by rw[hi];simp);rw[g2];refine⟨by unfold jz;rw[if_pos c];exact g1,k4 (i-2*N) g t cs g1 ?_⟩;rw[<-hi]
   congr 1
   omega
  ·rw[Ys i ae];have hs:=bG h.1.size (Nat.le_add_right w1.heap.size i);refine⟨Sg ae hs,?_⟩;refine (k3 _ λhm=> ?_).trans (Pp H β w1 hi _ ae);have:=h.2.lt hm;omega
 ·by_cases c:2*N<=i <;> by_cases d:2*N<=j
  ·obtain⟨g,g1,g2⟩:=hlt i c hi;obtain⟨g',g3,g4⟩:=hlt j d hj;rw[g2,g4] at e;subst e;have:=(List.getElem?_inj (cM.1 g1).1 hd).1 (g1.trans g3.symm);omega
  ·obtain⟨g,g1,g2⟩:=hlt i c hi;rw[g2,Ys j ae] at e;have:=h.2.lt (dz g1);omega
  ·obtain⟨g,g1,g2⟩:=hlt j d hj;rw[g2,Ys i ae] at e;have:=h.2.lt (dz g1);omega
  ·rw[Ys i ae,Ys j ae] at e;omega
abbrev wk (P:Program) (w:World) (N:Nat) (K:KC) (SU:TypeId->Bool) (ti:TypeId->Option TI) (keep:∀ b,b<w.heap.size->K.S b) (ad:List Nat) (hd:ad.Nodup) (ha:iR K ad w):Cx where
 P:=P
 w0:=w
 N:=N
 K:=K
 SU:=SU
 ti:=ti
 keep:=keep
 Cl:=jz N ad w
 Old:=GI K ad w
 top:=2*N+ad.length
 topN:=Nat.le_add_right _ _
 BB:=λ_ _ h1 h2=>Sg h1 h2
 newMv:=λ_ _ _ h1 h2=>newA_mv h1 h2
 ll:=λ_ h=>h.1.size
 vJ:=⟨rj.of (aD.refl _),ha⟩
 Di:=λ_ _ h k _ s=>Ul ha h k s
 RZ:=λ_ _ _ h hn hc=>Um h hn hc
 lay:=λ_ H h hH hf=>PI hd h H hH hf
def Fr.Uo:Nat->List AV->Fr
 | _,[]=>λ_=>none
 | k,v::r=>λn=>bif Nat.beq n k then some v else Fr.Uo (k+1) r n
theorem Fr.Dp:∀ (l:List AV) (k n:Nat) (v:AV),Fr.Uo k l n=some v->k<=n/\l[n-k]? =some v
 | [],k,n,v,h=>by cases h
 | x::r,k,n,v,h=>by
   unfold Fr.Uo at h;cases hb:Nat.beq n k with
   | true=>
     rw[hb] at h;cases h;have e:=oD hb;exact⟨ae,by rw[e];simp⟩
   | false=>
     rw[hb] at h;obtain⟨h2,h3⟩:=Fr.Dp r (k+1) n v h;refine⟨ae,?_⟩;rw[show n-k=(n-(k+1))+1 by omega];simpa using h3
section
variable {C:Cx} {F:Fr} {H:Hp} {w:World} {m:Option (List FuncId)} {full:Array Oper} {K:Fr->Hp->World->Prop} {o:Oper} {r:List Oper}
theorem BK {f:FuncId} {fn:Func} {c:Code} {args:List AV} {R:Ending->World->Prop} {β:Nat->Nat} (hf:C.P.funcs[f]? =some fn) (hb:fn.body=some c) (hN:fn.ntmps=C.N) (ha:args.length<=C.N)
  (aY:∀ i t cs,H i=some (t,cs)->nX C β C.w0 i t cs) (hap:∀ i j,H i≠none->H j≠none->β i=β j->i=j) (hp:JT C H) (kP:∀ v∈args,∀ i∈v.ids,H i≠none)
  (h:VS C (bodyPost C.P fn R) [.code c] (Fr.Uo 0 args) H C.w0):Calls C.P f (args.map (AV.bH β)).toArray C.w0 R:=by
 refine calls_of_wp hf hb ?_;refine h β _ C.w0 ⟨aa,?_,λd v hd=> ?_,aY,hap,λd v hd i hi=> ?_,λd v hd=> ?_,hp,C.vJ⟩ (bg.refl _ _)
 ·simp[hN];omega
 ·obtain⟨_,h2⟩:=Fr.Dp args 0 d v hd;rw[Nat.sub_zero] at h2;show ((args.map (AV.bH β)).toArray++_).getD d undef=v.bH β;have hlt:=(cM.1 h2).1;rw[lX,Array.getElem?_append_left (by simpa using hlt)];simp[h2]
 ·obtain⟨_,h2⟩:=Fr.Dp args 0 d v hd;exact kP v (dz h2) i hi
 ·obtain⟨_,h2⟩:=Fr.Dp args 0 d _ hd;rw[Nat.sub_zero] at h2;have:=(cM.1 h2).1;omega
variable {t:TypeId}
theorem VO.callM {g:FuncId} {args:List AV} {i:Nat} {cs:List AV} (e:stepOf C full F H o=.call (.fn g args)) (hH:H i=some (t,cs)) (hi:i∈gl args) (hf:nL C.P g) (hl:1<=lvl C.SU m o)
  (h:∀ w1 β,bg C.K w w1->C.Old w1->nd C β H (gl args) w1->Calls C.P g (args.map (AV.bH β)).toArray w1 λe w2=>∃ v ds,e=.returned v/\rj [β i] w1 w2/\cN w2 (β i) t (List.toArray ds)/\ds.all cJ=true/\
   (bg C.K w w2->bg C.K w1 w2->C.Old w2->aB C m full r K (F.dw o.dst (.val v)) (H.put i (t,ds.map .val)) w2)):aB C m full (o::r) K F H w:=by
 show one C m full o (aB C m full r K) F H w;unfold one;rw[e];refine λw1 β h1 h2 h3=>⟨hf,(h w1 β h1 h2 h3).mono ?_⟩;rintro e w2 ⟨v,ds,rfl,hb,hc,hk,hv⟩;have ho:=h3.own i (.base hi) t cs hH;refine⟨β,.val v,none,[(i,(t,ds.map .val))],aa,λi hi=>(by cases hi),.inl hl,.inr aa,?_,λa b c _ _=>hv a b c⟩;refine⟨hb.os,hb.tape,hb.output,hb.size,λk hk hx _ _=>hb.sm k hk (by simpa using hx),λ_ _=>aa,λi hi=>(by cases hi),λi hi=>(by cases hi),λx hx=> ?_,λx hx=> ?_,cZ,λx hx y hy _=> ?_,λx hx j hj=> ?_⟩
 ·cases ay.1 hx;exact⟨ho.new,ho.ty,by rw[aV];exact hc,dx hk⟩
 ·cases ay.1 hx;exact .inl ⟨by rw[hH];simp,cZ,.base hi,rfl⟩
 ·cases ay.1 hx;cases ay.1 hy;rfl
 ·cases ay.1 hx;rw[ah] at hj;cases hj
def Si (z:Value) (ok:Bool):Option (Nat×Value)->Value
 | some (_,v)=>if ok=true then .tuple #[v,.bool true] else v
 | none=>if ok=true then .tuple #[z,.bool false] else z
variable {es:Array MapEntry} {rr c:Nat} {res:Option (Nat×Value)} {d:TypeDesc} {kt et:TypeId} {z:Value}
theorem EI {P:Program} {w:World} {k:Value} (ok:Bool) (ht:P.underlying t=some (.map kt et)) (hd:P.underlying kt=some d) (hk:IsKey d k)
  (hz:(zeroValue et).run P w=.ok z w) (hm:w.heap[rr]? =some (.map es c)) (hr:Instr.findNow d k es.toList 0=some res):(Instr.lookup t (.map (some rr)) k ok).run P w=.ok (Si z ok res) w:=by
 have hc:=run_checkKey (w:=w) hd hk es.isEmpty 9999;cases res with
 | none=>cases ok <;> simp[Instr.lookup,run_underlying ht,MapKept.run_getObj_map hm,hc,run_findKey hd hr,hz,Result.andThen,Si]
 | some p=>cases ok <;> simp[Instr.lookup,run_underlying ht,MapKept.run_getObj_map hm,hc,run_findKey hd hr,Result.andThen,Si]
theorem VO.look {x y:Operand} {ok:Bool} {k:Value}
  (e:stepOf C full F H o=.call (.op o [.val (.map (some rr)),.val k])) (ho:o.op=.lookup t x y ok) (ht:C.P.underlying t=some (.map kt et)) (hd:C.P.underlying kt=some d) (hk:IsKey d k) (hz:∀ w,(zeroValue et).run C.P w=.ok z w)
  (hm:∀ w1,bg C.K w w1->C.Old w1->w1.heap[rr]? =some (.map es c)) (hr:Instr.findNow d k es.toList 0=some res)
  (h:∀ w2,bg C.K w w2->C.Old w2->aB C m full r K (F.dw o.dst (.val (Si z ok res))) H w2):aB C m full (o::r) K F H w:=
 VO.IG e λw1 β h1 h2 _=>⟨_,w1,λρ gH=>.inl (by
   rw[ho] at gH;simp[Op.operands] at gH;obtain⟨q1,q2⟩:=gH;unfold execOp;simp only[ho,q1,q2,AV.bH];simp[EI ok ht hd hk (hz w1) (hm w1 h1 h2) hr,Result.andThen]),_,rfl,aD.refl _,λa1 _ a3=>h w1 a1 a3⟩
end
def Hp.one (i:Nat) (t:TypeId) (cs:List Value):Hp:=λn=>bif Nat.beq n i then some (t,cs.map .val) else none
theorem Hp.Au (i n:Nat) (t:TypeId) (cs:List Value):Hp.one i t cs n=if n=i then some (t,cs.map .val) else none:=by
 unfold Hp.one;by_cases h:n=i
 ·subst h;simp
 ·have:Nat.beq n i=false:=by rw[<-wE,Nat.beq_eq];exact h
  simp[this,h]
variable {K:KC} {cs:List Value} {g:Nat} {t:TypeId} {w:World}
theorem ad1 (hc:cN w g t cs.toArray) (ht:K.fz t=false) (hk:cs.all cJ=true):iR K [g] w:=λq hq=>by
 cases ay.1 hq;exact⟨t,cs,hc,ht,hk⟩
theorem vQ (g:Nat):[g].Nodup:=cZ
variable {R:Ending->World->Prop}
theorem MM (P:Program) (w:World) (N:Nat) (K:KC) (SU:TypeId->Bool) (ti:TypeId->Option TI) (keep:∀ b,b<w.heap.size->K.S b) {us:List Value} {f:FuncId} {fn:Func} {c:Code} (hf:P.funcs[f]? =some fn) (hb:fn.body=some c) (hN:fn.ntmps=N) (ha:us.length+1<=N)
  (hc:cN w g t cs.toArray) (ht:K.fz t=false) (hk:cs.all cJ=true)
  (h:VS (wk P w N K SU ti keep [g] (vQ g) (ad1 hc ht hk)) (bodyPost P fn R) [.code c] (Fr.Uo 0 (.box (2*N) 0::us.map .val)) (Hp.one (2*N) t cs) w):Calls P f (Value.pointer (some ⟨g,0,none⟩)::us).toArray w R:=by
 have:=BK (C:=wk P w N K SU ti keep [g] (vQ g) (ad1 hc ht hk)) (R:=R) (args:=.box (2*N) 0::us.map .val) (β:=λ_=>g) (H:=Hp.one (2*N) t cs) hf hb hN (by simpa using ha) (λi t' jU hi=> ?_) (λi j hi hj _=> ?_) ⟨λi t' jU hi=> ?_,λi t' jU hi=> ?_,λi hi=> ?_⟩ (λv hv i hi=> ?_) h
 ·have e:(AV.box (2*N) 0::us.map AV.val).map (AV.bH λ_=>g)=Value.pointer (some ⟨g,0,none⟩)::us:=by
   rw[kX,iV];rfl
  rw[e] at this;exact this
 ·rw[Hp.Au] at hi
  split at hi
  ·rename_i e;cases hi;refine⟨?_,ht,by rw[aV];exact hc,dx hk⟩;show jz N [g] w i g;unfold jz;rw[if_pos ae,e,oJ];rfl
  ·cases hi
 ·rw[Hp.Au] at hi hj
  split at hi
  ·split at hj
   ·omega
   ·exact absurd aa hj
  ·exact absurd aa hi
 ·rw[Hp.Au] at hi
  split at hi
  ·cases hi;exact⟨ht,dx hk⟩
  ·cases hi
 ·rw[Hp.Au] at hi
  split at hi
  ·cases hi;intro j hj;rw[ah] at hj;cases hj
  ·cases hi
 ·rw[Hp.Au,if_neg];intro e;have:(2*N+[g].length)<=i:=hi;simp at this;omega
 ·rcases eD.1 hv with rfl|hv
  ·have:i=2*N:=by simpa [AV.ids] using hi
   rw[Hp.Au,if_pos this];simp
  ·obtain⟨u,_,rfl⟩:=eG.1 hv;cases hi
variable {P:Program}
theorem own1 {w':World} {N:Nat} {SU:TypeId->Bool} {ti:TypeId->Option TI} {keep:∀ b,b<w.heap.size->K.S b} {ha:iR K [g] w} {β:Nat->Nat} {i:Nat} {cs:List AV} (h:nX (wk P w N K SU ti keep [g] (vQ g) ha) β w' i t cs) (hi:i=2*N):cN w' g t (cs.map (AV.leaf β)).toArray:=by
 have h1:jz N [g] w i (β i):=h.new;unfold jz at h1;rw[if_pos ae,hi,oJ] at h1;have h2:g=β (2*N):=by simpa using h1
 have h3:=h.cls;rw[hi,<-h2] at h3;exact h3
def vf:Nat->List (Value×FuncId)->List MapEntry
 | _,[]=>[]
 | n,(k,g)::r=>⟨k,.func (.func g) #[] #[],n⟩::vf (n+1) r
def Sj (d:TypeDesc):List MapEntry->List (Value×FuncId)->Prop
 | _,[]=>True
 | es,(k,g)::r=>IsKey d k/\Instr.findNow d k es 0=some none/\Sj d (es++[⟨k,.func (.func g) #[] #[],es.length⟩]) r
def Kd (t:TypeId) (d:Nat):List (Value×FuncId)->List Oper->Prop
 | [],[]=>True
 | (k,g)::q,o::r=>o.guard=none/\o.op=.insert t (.tmp d) (.const k) (.func g)/\o.dst=none/\Kd t d q r
 | _,_=>False
variable {d:TypeDesc} {kt et:TypeId}
theorem yX {rr:Nat} {es:Array MapEntry} {c:Nat} {k v:Value} (ht:P.underlying t=some (.map kt et)) (hd:P.underlying kt=some d) (hk:IsKey d k)
  (hm:w.heap[rr]? =some (.map es c)) (hr:Instr.findNow d k es.toList 0=some none):(Instr.mapUpdate t (.map (some rr)) k v).run P w=.ok () (sQ w rr (.map (es.push ⟨k,v,c⟩) (c+1))):=by
 have hc:=run_checkKey (w:=w) hd hk false 9999;simp[Instr.mapUpdate,run_underlying ht,MapKept.run_getObj_map hm,hc,run_findKey hd hr,Result.andThen,MapKept.run_setObj_map _ hm,sQ]
theorem EJ {P:Program} {full:Array Oper} {Q:Exit->Act->World->Prop} {t kt et:TypeId} {d:TypeDesc} {dd b:Nat} (ht:P.underlying t=some (.map kt et)) (hd:P.underlying kt=some d) {tl:List Oper} {a:Act} (ha:a.eval (.tmp dd)=.map (some b)):
  ∀ (ins:List Oper) (OC:List (Value×FuncId)) (es:List MapEntry) (w:World),Kd t dd OC ins->Sj d es OC->w.heap[b]? =some (.map es.toArray es.length)->
    (∀ w2,rj [b] w w2->w2.heap[b]? =some (.map (es++vf es.length OC).toArray (es.length+OC.length))->wpList P full Q tl a w2)->wpList P full Q (ins++tl) a w
 | [],[],es,w,hm,hf,hw,h=>h w (rj.of (aD.refl _)) (by simpa [vf] using hw)
 | [],_::_,es,w,hm,hf,hw,h=>(show False from hm).elim
 | o::r,[],es,w,hm,hf,hw,h=>(show False from hm).elim
 | o::r,(k,g)::q,es,w,hm,hf,hw,h=>by
   obtain⟨h1,h2,h3,h4⟩:=hm;obtain⟨f1,f2,f3⟩:=hf;refine wpList_plain h1 λK hK=> ?_;have hrun:=yX (P:=P) (w:=w) (v:=.func (.func g) #[] #[]) ht hd f1 hw f2;have hlt:b<w.heap.size:=(uA.1 hw).1;refine Oper.wp_skip (w':=sQ w b (.map (es.toArray.push ⟨k,.func (.func g) #[] #[],es.length⟩) (es.length+1))) ?_ (hK _ _ ?_)
   ·simp only[execOp,h2,ha];show (do Instr.mapUpdate t (.map (some b)) (a.eval (.const k)) (a.eval (.func g));pure Next.skip:Sem Next).run P w=_;have e1:a.eval (.const k)=k:=aa;have e2:a.eval (.func g)=.func (.func g) #[] #[]:=aa;rw[e1,e2];simp[hrun,Result.andThen]
   ·rw[h3];show wpList P full Q (r++tl) a _;refine EJ ht hd ha r q (es++[⟨k,.func (.func g) #[] #[],es.length⟩]) _ h4 f3 ?_ λw2 b2 g2=>h w2 ((MJ _ (ay.2 aa)).aN b2) ?_
    ·rw[Sh _ hlt];simp
    ·rw[g2];simp[vf];omega
variable {ops:Array Oper} {C:Cx} {Q:Exit->Act->World->Prop} {F:Fr} {H:Hp} {st:List It} {id dd:Nat}
theorem VS.mapLit (hC:C.Ok) {mk:Oper} {ins tl:List Oper} (OC:List (Value×FuncId)) (hops:ops.toList=mk::(ins++tl))
  (hg:mk.guard=none) (hmk:mk.op=.makeMap t none) (jV:mk.dst=some dd) (hdN:dd<C.N) (ht:C.P.underlying t=some (.map kt et)) (hd:C.P.underlying kt=some d) (hins:Kd t dd OC ins) (hf:Sj d [] OC)
  (h:∀ w2 b,bg C.K w w2->C.Old w2->w2.heap[b]? =some (.map (vf 0 OC).toArray OC.length)->aB C none ops tl (VS C Q st) (F.put dd (.val (.map (some b)))) H w2):VS C Q (.code (.region id ops false)::st) F H w:=λβ a w' hr hk=>by
 refine wp_region_list ?_;rw[hops];refine wpList_plain hg λK hK=> ?_;refine Oper.rM (v:=.map (some w'.heap.size)) (w':=w'.alloc (.map #[] 0)) ?_ (hK _ _ ?_)
 ·simp[execOp,hmk,Instr.makeMap,Result.andThen]
 rw[jV];have hsz:dd<a.tmps.size:=by rw[hr.size];exact hdN
 have hev:(a.put (some dd) (.map (some w'.heap.size))).eval (.tmp dd)=.map (some w'.heap.size):=by
  show (a.tmps.setIfInBounds dd _).getD dd undef=_;simp[Array.getD_eq_getD_getElem?,hsz]
 refine EJ ht hd hev ins OC [] _ hins hf (MapKept.heap_alloc w' _).1 λw2 b2 g2=> ?_;have hb:aD w' w2:=⟨b2.os,b2.tape,b2.output,bG cZ b2.size,λg hg=>(b2.sm g (by simp;omega) (by simp;omega)).trans ((MapKept.heap_alloc w' _).2 g hg)⟩;have qk:Rel C β F H a w2:=hr.changed (ids:=[]) (del:=none) (ups:=[]) (GH.none hb);have hr3:=qk.put (dst:=some dd) (by simpa [nU,Nat.blt_eq] using hdN) (v:=.val (.map (some w'.heap.size))) (λ_ hi=>by cases hi);exact xx hC (λβ F H w a w' h hr hk=>h β a w' hr hk) tl β _ H w2 _ w2 (h w2 w'.heap.size (hk.aN (bg.of hb)) qk.old (by simpa using g2)) hr3 (bg.refl _ _)
theorem PJ {α:Type} {l:List α} {x:α} (h:l.head? =some x) (n:Nat):l=x::((l.drop 1).take n++l.drop (n+1)):=by
 cases l with
 | nil=>simp at h
 | cons y r=>simp at h;subst h;simp
theorem VS.mapLitN (hC:C.Ok) {mk:Oper} (n:Nat) (OC:List (Value×FuncId)) (hops:ops.toList.head? =some mk)
  (hg:mk.guard=none) (hmk:mk.op=.makeMap t none) (jV:mk.dst=some dd) (hdN:dd<C.N) (ht:C.P.underlying t=some (.map kt et)) (hd:C.P.underlying kt=some d) (hins:Kd t dd OC ((ops.toList.drop 1).take n)) (hf:Sj d [] OC)
  (h:∀ w2 b,bg C.K w w2->C.Old w2->w2.heap[b]? =some (.map (vf 0 OC).toArray OC.length)->aB C none ops (ops.toList.drop (n+1)) (VS C Q st) (F.put dd (.val (.map (some b)))) H w2):VS C Q (.code (.region id ops false)::st) F H w:=
 VS.mapLit hC OC (PJ hops n) hg hmk jV hdN ht hd hins hf h
theorem VS.fin (hC:C.Ok) {fn:Func} {vs:List AV} (h:ve C F H fn.results.toList=some vs) (hR:∀ w' β,bg C.K w w'->C.Old w'->Ends C β H w'->R (.returned (nJ (vs.map (AV.bH β)))) w'):VS C (bodyPost C.P fn R) [] F H w:=
 λβ a w' hr hk=>EF hC h hR β a w' hr hk
end
section
open Go.RowKit
variable {fs:Array Field} {P:Program} {t:TypeId}
theorem bld_of {zero:Value} {places:Array (Nat×Nat)} (hz:∀ w,(zeroValue t).run P w=.ok zero w) (hu:P.underlying t=some (.struct fs))
  (hp:∀ w,(fs.mapM (λf=>do pure (f.offset,<-sizeOf f.type)):Sem (Array (Nat×Nat))).run P w=.ok places w) (ps:Array (Nat×Value)) (w:World) (cs:Array Value)
  (h:Instr.fill (places[·]?) zero.cells ps.toList=some cs):(Instr.build t ps).run P w=.ok (.agg cs) w:=by
 unfold Instr.build;simp only[Sem.run_bind,hz,Result.andThen_ok,run_underlying hu,hp];rw[h];rfl
variable {cs:Array Value} {v:Value} {w:World}
theorem fld_agg {k:Nat} {f:Field} (o n:Nat) (hu:P.underlying t=some (.struct fs)) (hf:fs[k]? =some f) (ho:f.offset=o) (hb:∀ w,(isAgg f.type).run P w=.ok true w) (hs:∀ w,(sizeOf f.type).run P w=.ok n w)
  (h:some (Value.agg (cs.extract o (o+n)))=some v):(Instr.field t (.agg cs) k).run P w=.ok v w:=by
 cases h;subst ho;unfold Instr.field;simp[run_underlying hu,hf,asAgg,part,hb,hs]
theorem fld_one {k:Nat} {f:Field} (o:Nat) (hu:P.underlying t=some (.struct fs)) (hf:fs[k]? =some f) (ho:f.offset=o) (hb:∀ w,(isAgg f.type).run P w=.ok false w)
  (h:cs[o]? =some v):(Instr.field t (.agg cs) k).run P w=.ok v w:=by
 subst ho;unfold Instr.field;simp[run_underlying hu,hf,asAgg,part,hb,h]
inductive Up (P:Program) (t:TypeId):Nat->List Field->List (Nat×Nat)->List Bool->Prop
 | nil {j:Nat}:Up P t j [] [] []
 | cons {j:Nat} {f:Field} {fs:List Field} {p:Nat×Nat} {ps:List (Nat×Nat)} {a:Bool} {gs:List Bool} (h1:∀ b o w,(Instr.fieldAt t (.pointer (some ⟨b,o,none⟩)) j).run P w=.ok (.pointer (some ⟨b,o+p.1,none⟩)) w) (h2:f.offset=p.1) (h3:∀ w,(isAgg f.type).run P w=.ok a w) (h4:a=true->∀ w,(sizeOf f.type).run P w=.ok p.2 w) (h:Up P t (j+1) fs ps gs):Up P t j (f::fs) (p::ps) (a::gs)
theorem Up.get {j:Nat} {fs:List Field} {ps:List (Nat×Nat)} {gs:List Bool} (h:Up P t j fs ps gs):∀ (k:Nat) (p:Nat×Nat),ps[k]? =some p->(∀ b o w,(Instr.fieldAt t (.pointer (some ⟨b,o,none⟩)) (j+k)).run P w=.ok (.pointer (some ⟨b,o+p.1,none⟩)) w)/\∃ f a,fs[k]? =some f/\gs[k]? =some a/\f.offset=p.1/\(∀ w,(isAgg f.type).run P w=.ok a w)/\(a=true->∀ w,(sizeOf f.type).run P w=.ok p.2 w):=by
 induction h with
 | nil=>intro k p e;simp at e
 | cons h1 h2 h3 h4 _ ih=>
   intro k p e;cases k with
   | zero=>simp at e;cases e;exact⟨h1,_,_,aa,aa,h2,h3,h4⟩
   | succ k=>
     have:=ih k p (by simpa using e);rw[show ∀ j:Nat,j+1+k=j+(k+1) from λj=>ae] at this;simpa using this
@[reducible] def tF (z:Value) (b:Bool) (e:Option (TypeId×Nat)) (k:Option IntKind) (p:Bool):TI:={ size:=1,agg:=false,zero:=z,places:=#[],TW:=#[],bool:=b,elem:=e,kind:=k,ptr:=p }
@[reducible] def tA (n:Nat) (z:Array Value) (p:Array (Nat×Nat)) (a:Array Bool):TI:={ size:=n,agg:=true,zero:=.agg z,places:=p,TW:=a,bool:=false,elem:=none,kind:=none }
theorem okF {z:Value} {b:Bool} {e:Option (TypeId×Nat)} {k:Option IntKind} {p:Bool} {d:TypeDesc} (hu:P.underlying t=some d) (hb:b=true->P.underlying t=some .bool:=by intro h;cases h;try kernel_rfl) (hs:∀ c n,e=some (c,n)->P.underlying t=some (.slice c)/\∀ w,(sizeOf c).run P w=.ok n w:=by intro c n h;cases h;try (constructor;kernel_rfl;intro w;kernel_rfl)) (hi:∀ q,k=some q->P.underlying t=some (.int q):=by intro q h;cases h;try kernel_rfl) (hp:p=true->P.underlying t=some (.pointer (P.pointee t)):=by intro h;cases h;try kernel_rfl)
  (hr:d.isRow=false:=by rfl) (h1:(P.info? t).map (·.size)=some 1:=by kernel_rfl) (h2:z.cells.size=1:=by rfl) (h3:(P.info? t).map (·.zero)=some (some z):=by kernel_rfl) (h4:(P.info? t).map (λq=>Nat.ble q.bytes (24*1))=some true:=by kernel_rfl) (h5:∀ w,(zeroValue t).run P w=.ok z w:=by intro w;kernel_rfl):TI.Ok P t (tF z b e k p) where
 row:=⟨_,hu,hr⟩
 isBool:=hb
 isSlice:=hs
 isInt:=hi
 RY:=hp
 Ep:=h2
 Mc:=h3
 bytes:=h4
 pos:=bl 1
 lone:=λ_=>aa
 size:=h1
 zero:=h5
 XR:=λk p hp b o w=>by simp at hp
 fld:=λk p hp cs w v hv=>by simp at hp
 bld:=λh=>by cases h
theorem sn {n:Nat} {z:Array Value} {p:Array (Nat×Nat)} {a:Array Bool} (hu:P.underlying t=some (.struct fs)) (hf:Up P t 0 fs.toList p.toList a.toList:=by repeat first|exact .nil|refine .cons (λb o w=>by kernel_rfl) rfl (λw=>by kernel_rfl) (by intro h;cases h;try (intro w;kernel_rfl)) ?_)
  (h1:(P.info? t).map (·.size)=some n:=by kernel_rfl) (h2:z.size=n:=by rfl) (h3:(P.info? t).map (·.zero)=some (some (.agg z)):=by kernel_rfl) (h4:(P.info? t).map (λq=>Nat.ble q.bytes (24*n))=some true:=by kernel_rfl) (h5:∀ w,(zeroValue t).run P w=.ok (.agg z) w:=by intro w;kernel_rfl) (h6:0<n:=by exact bF aa) (h7:∀ w,(fs.mapM (λf=>do pure (f.offset,<-sizeOf f.type)):Sem (Array (Nat×Nat))).run P w=.ok p w:=by intro w;kernel_rfl):TI.Ok P t (tA n z p a) where
 row:=⟨_,hu,aa⟩
 isBool:=λh=>by cases h
 isSlice:=λe n h=>by cases h
 isInt:=λk h=>by cases h
 Ep:=h2
 Mc:=h3
 bytes:=h4
 pos:=h6
 lone:=λh=>by cases h
 size:=h1
 zero:=h5
 XR:=λk q hq b o w=>by
  have:=(hf.get k q (by simpa using hq)).1 b o w
  rwa [jR] at this
 fld:=λk q hq cs w v hv=>by
  obtain⟨_,f,x,e1,e2,e3,e4,e5⟩:=hf.get k q (by simpa using hq);rw[Array.getElem?_toList] at e1 e2;rw[e2] at hv;cases x
  ·exact fld_one q.1 hu e1 e3 e4 hv
  ·exact fld_agg q.1 q.2 hu e1 e3 e4 (e5 aa) hv
 bld:=λ_=>bld_of h5 hu h7
theorem tb {u:TypeId} {i x:TI} {r:Option TI} (hk:TI.Ok P u i) (hr:r=some x->TI.Ok P t x) (h:(bif Nat.beq t u then some i else r)=some x):TI.Ok P t x:=by
 cases hb:Nat.beq t u
 ·rw[hb] at h;exact hr h
 ·rw[hb] at h;cases h;rw[oD hb];exact hk
def ti0:TI:=tF (.int .i64 0) false none (some .i64) false
theorem ok0:TI.Ok Tryz.prog 2 ti0:=okF Tryz.underlying2
def ti1:TI:=tF (.int .i64 0) false none (some .i64) false
theorem ok1:TI.Ok Tryz.prog 3 ti1:=okF Tryz.underlying3
def ti2:TI:=tF (.bool false) true none none false
theorem ok2:TI.Ok Tryz.prog 4 ti2:=okF Tryz.underlying4
def ti3:TI:=tF (.int .u8 0) false none (some .u8) false
theorem ok3:TI.Ok Tryz.prog 5 ti3:=okF Ls
def ti4:TI:=tF (.string ⟨#[]⟩) false none none false
theorem ok4:TI.Ok Tryz.prog 9 ti4:=okF Tryz.underlying9
def ti5:TI:=tF (.int .u64 0) false none (some .u64) false
theorem ok5:TI.Ok Tryz.prog 12 ti5:=okF Tryz.underlying12
def ti6:TI:=tF (.slice none 0 0) false (some (127,8)) none false
theorem ok6:TI.Ok Tryz.prog 22 ti6:=okF Tryz.underlying22
def ti7:TI:=tF (.slice none 0 0) false (some (78,1)) none false
theorem ok7:TI.Ok Tryz.prog 23 ti7:=okF pW
def ti8:TI:=tA 2 #[.bool false,.slice none 0 0] #[(0,1),(1,1)] #[false,false]
theorem ok8:TI.Ok Tryz.prog 25 ti8:=sn Tryz.underlying25
def ti9:TI:=tA 4 #[.bool false,.slice none 0 0,.bool false,.slice none 0 0] #[(0,2),(2,2)] #[true,true]
theorem ok9:TI.Ok Tryz.prog 27 ti9:=sn Tryz.underlying27
def ti10:TI:=tF (.slice none 0 0) false (some (64,6)) none false
theorem ok10:TI.Ok Tryz.prog 28 ti10:=okF Tryz.underlying28
def ti11:TI:=tF (.slice none 0 0) false (some (9,1)) none false
theorem ok11:TI.Ok Tryz.prog 29 ti11:=okF Tryz.underlying29
def ti12:TI:=tF (.slice none 0 0) false (some (99,6)) none false
theorem ok12:TI.Ok Tryz.prog 30 ti12:=okF Tryz.underlying30
def ti13:TI:=tA 25 #[.string ⟨#[]⟩,.string ⟨#[]⟩,.slice none 0 0,.bool false,.slice none 0 0,.bool false,.slice none 0 0,.bool false,.slice none 0 0,.bool false,.slice none 0 0,.int .i64 0,.int .i64 0,.bool false,.slice none 0 0,.bool false,.slice none 0 0,.bool false,.slice none 0 0,.bool false,.slice none 0 0,.int .i64 0,.slice none 0 0,.slice none 0 0,.slice none 0 0] #[(0,1),(1,1),(2,1),(3,4),(7,4),(11,1),(12,1),(13,4),(17,4),(21,1),(22,1),(23,1),(24,1)] #[false,false,false,true,true,false,false,true,true,false,false,false,false]
theorem ok13:TI.Ok Tryz.prog 32 ti13:=sn Tryz.underlying32
def ti14:TI:=tF (.slice none 0 0) false (some (129,8)) none false
theorem ok14:TI.Ok Tryz.prog 35 ti14:=okF Tryz.underlying35
def ti15:TI:=tA 2 #[.bool false,.slice none 0 0] #[(0,1),(1,1)] #[false,false]
theorem ok15:TI.Ok Tryz.prog 36 ti15:=sn Tryz.underlying36
def ti16:TI:=tA 4 #[.bool false,.slice none 0 0,.bool false,.slice none 0 0] #[(0,2),(2,2)] #[true,true]
theorem ok16:TI.Ok Tryz.prog 38 ti16:=sn Tryz.underlying38
def ti17:TI:=tF (.slice none 0 0) false (some (67,6)) none false
theorem ok17:TI.Ok Tryz.prog 39 ti17:=okF Tryz.underlying39
def ti18:TI:=tF (.slice none 0 0) false (some (136,6)) none false
theorem ok18:TI.Ok Tryz.prog 40 ti18:=okF Tryz.underlying40
def ti19:TI:=tA 25 #[.string ⟨#[]⟩,.string ⟨#[]⟩,.slice none 0 0,.bool false,.slice none 0 0,.bool false,.slice none 0 0,.bool false,.slice none 0 0,.bool false,.slice none 0 0,.int .i64 0,.int .i64 0,.bool false,.slice none 0 0,.bool false,.slice none 0 0,.bool false,.slice none 0 0,.bool false,.slice none 0 0,.int .i64 0,.slice none 0 0,.slice none 0 0,.slice none 0 0] #[(0,1),(1,1),(2,1),(3,4),(7,4),(11,1),(12,1),(13,4),(17,4),(21,1),(22,1),(23,1),(24,1)] #[false,false,false,true,true,false,false,true,true,false,false,false,false]
theorem ok19:TI.Ok Tryz.prog 42 ti19:=sn Tryz.underlying42
def ti20:TI:=tF (.slice none 0 0) false (some (147,1)) none false
theorem ok20:TI.Ok Tryz.prog 44 ti20:=okF Tryz.underlying44
def ti21:TI:=tA 1 #[.slice none 0 0] #[(0,1)] #[false]
theorem ok21:TI.Ok Tryz.prog 46 ti21:=sn Tryz.underlying46
def ti22:TI:=tF (.int .i64 0) false none (some .i64) false
theorem ok22:TI.Ok Tryz.prog 47 ti22:=okF Tryz.underlying47
def ti23:TI:=tF (.slice none 0 0) false (some (105,1)) none false
theorem ok23:TI.Ok Tryz.prog 50 ti23:=okF Tryz.underlying50
def ti24:TI:=tA 1 #[.slice none 0 0] #[(0,1)] #[false]
theorem ok24:TI.Ok Tryz.prog 52 ti24:=sn Tryz.underlying52
def ti25:TI:=tA 6 #[.string ⟨#[]⟩,.int .u8 0,.bool false,.slice none 0 0,.bool false,.slice none 0 0] #[(0,1),(1,1),(2,4)] #[false,false,true]
theorem ok25:TI.Ok Tryz.prog 64 ti25:=sn Tryz.underlying64
def ti26:TI:=tA 6 #[.string ⟨#[]⟩,.int .u8 0,.bool false,.slice none 0 0,.bool false,.slice none 0 0] #[(0,1),(1,1),(2,4)] #[false,false,true]
theorem ok26:TI.Ok Tryz.prog 67 ti26:=sn Tryz.underlying67
def ti27:TI:=tF (.slice none 0 0) false (some (76,9)) none false
theorem ok27:TI.Ok Tryz.prog 68 ti27:=okF Tryz.underlying68
def ti28:TI:=tF (.slice none 0 0) false (some (74,9)) none false
theorem ok28:TI.Ok Tryz.prog 71 ti28:=okF Tryz.underlying71
def ti29:TI:=tA 9 #[.int .u8 0,.bool false,.slice none 0 0,.bool false,.slice none 0 0,.bool false,.slice none 0 0,.bool false,.slice none 0 0] #[(0,1),(1,4),(5,4)] #[false,true,true]
theorem ok29:TI.Ok Tryz.prog 74 ti29:=sn Tryz.underlying74
def ti30:TI:=tA 9 #[.int .u8 0,.bool false,.slice none 0 0,.bool false,.slice none 0 0,.bool false,.slice none 0 0,.bool false,.slice none 0 0] #[(0,1),(1,4),(5,4)] #[false,true,true]
theorem ok30:TI.Ok Tryz.prog 76 ti30:=sn Tryz.underlying76
def ti31:TI:=tF (.int .u32 0) false none (some .u32) false
theorem ok31:TI.Ok Tryz.prog 78 ti31:=okF Tryz.underlying78
def ti32:TI:=tF (.slice none 0 0) false (some (52,1)) none false
theorem ok32:TI.Ok Tryz.prog 80 ti32:=okF Tryz.underlying80
def ti33:TI:=tF (.slice none 0 0) false (some (46,1)) none false
theorem ok33:TI.Ok Tryz.prog 81 ti33:=okF Tryz.underlying81
def ti34:TI:=tF (.slice none 0 0) false (some (218,6)) none false
theorem ok34:TI.Ok Tryz.prog 93 ti34:=okF Tryz.underlying93
def ti35:TI:=tF (.slice none 0 0) false (some (103,6)) none false
theorem ok35:TI.Ok Tryz.prog 94 ti35:=okF Tryz.underlying94
def ti36:TI:=tF (.slice none 0 0) false (some (222,10)) none false
theorem ok36:TI.Ok Tryz.prog 95 ti36:=okF Tryz.underlying95
def ti37:TI:=tF (.slice none 0 0) false (some (226,9)) none false
theorem ok37:TI.Ok Tryz.prog 96 ti37:=okF Tryz.underlying96
def ti38:TI:=tF (.slice none 0 0) false (some (230,5)) none false
theorem ok38:TI.Ok Tryz.prog 97 ti38:=okF Tryz.underlying97
def ti39:TI:=tA 6 #[.int .i64 0,.slice none 0 0,.slice none 0 0,.slice none 0 0,.slice none 0 0,.slice none 0 0] #[(0,1),(1,1),(2,1),(3,1),(4,1),(5,1)] #[false,false,false,false,false,false]
theorem ok39:TI.Ok Tryz.prog 99 ti39:=sn Tryz.underlying99
def ti40:TI:=tA 6 #[.string ⟨#[]⟩,.string ⟨#[]⟩,.bool false,.slice none 0 0,.bool false,.slice none 0 0] #[(0,1),(1,1),(2,4)] #[false,false,true]
theorem ok40:TI.Ok Tryz.prog 103 ti40:=sn Tryz.underlying103
def ti41:TI:=tF (.slice none 0 0) false (some (27,4)) none false
theorem ok41:TI.Ok Tryz.prog 105 ti41:=okF Tryz.underlying105
def ti42:TI:=tA 16 #[.bool false,.slice none 0 0,.bool false,.slice none 0 0,.bool false,.slice none 0 0,.bool false,.slice none 0 0,.bool false,.slice none 0 0,.bool false,.slice none 0 0,.bool false,.slice none 0 0,.bool false,.slice none 0 0] #[(0,4),(4,4),(8,4),(12,4)] #[true,true,true,true]
theorem ok42:TI.Ok Tryz.prog 121 ti42:=sn Tryz.underlying121
def ti43:TI:=tA 28 #[.bool false,.slice none 0 0,.bool false,.slice none 0 0,.bool false,.slice none 0 0,.bool false,.slice none 0 0,.bool false,.slice none 0 0,.bool false,.slice none 0 0,.bool false,.slice none 0 0,.bool false,.slice none 0 0,.bool false,.slice none 0 0,.bool false,.slice none 0 0,.bool false,.slice none 0 0,.bool false,.slice none 0 0,.bool false,.slice none 0 0,.bool false,.slice none 0 0] #[(0,16),(16,4),(20,4),(24,4)] #[true,true,true,true]
theorem ok43:TI.Ok Tryz.prog 123 ti43:=sn Tryz.underlying123
def ti44:TI:=tF (.slice none 0 0) false (some (123,28)) none false
theorem ok44:TI.Ok Tryz.prog 124 ti44:=okF Tryz.underlying124
def ti45:TI:=tA 8 #[.bool false,.slice none 0 0,.bool false,.slice none 0 0,.bool false,.slice none 0 0,.bool false,.slice none 0 0] #[(0,4),(4,4)] #[true,true]
theorem ok45:TI.Ok Tryz.prog 127 ti45:=sn Tryz.underlying127
def ti46:TI:=tA 8 #[.bool false,.slice none 0 0,.bool false,.slice none 0 0,.bool false,.slice none 0 0,.bool false,.slice none 0 0] #[(0,4),(4,4)] #[true,true]
theorem ok46:TI.Ok Tryz.prog 129 ti46:=sn Tryz.underlying129
def ti47:TI:=tF (.slice none 0 0) false (some (220,6)) none false
theorem ok47:TI.Ok Tryz.prog 130 ti47:=okF Tryz.underlying130
def ti48:TI:=tF (.slice none 0 0) false (some (141,6)) none false
theorem ok48:TI.Ok Tryz.prog 131 ti48:=okF Tryz.underlying131
def ti49:TI:=tF (.slice none 0 0) false (some (224,10)) none false
theorem ok49:TI.Ok Tryz.prog 132 ti49:=okF Tryz.underlying132
def ti50:TI:=tF (.slice none 0 0) false (some (228,9)) none false
theorem ok50:TI.Ok Tryz.prog 133 ti50:=okF Tryz.underlying133
def ti51:TI:=tF (.slice none 0 0) false (some (232,5)) none false
theorem ok51:TI.Ok Tryz.prog 134 ti51:=okF Tryz.underlying134
def ti52:TI:=tA 6 #[.int .i64 0,.slice none 0 0,.slice none 0 0,.slice none 0 0,.slice none 0 0,.slice none 0 0] #[(0,1),(1,1),(2,1),(3,1),(4,1),(5,1)] #[false,false,false,false,false,false]
theorem ok52:TI.Ok Tryz.prog 136 ti52:=sn Tryz.underlying136
def ti53:TI:=tA 6 #[.string ⟨#[]⟩,.string ⟨#[]⟩,.bool false,.slice none 0 0,.bool false,.slice none 0 0] #[(0,1),(1,1),(2,4)] #[false,false,true]
theorem ok53:TI.Ok Tryz.prog 141 ti53:=sn Tryz.underlying141
def ti54:TI:=tA 2 #[.int .i64 0,.int .i64 0] #[(0,1),(1,1)] #[false,false]
theorem ok54:TI.Ok Tryz.prog 144 ti54:=sn Tryz.underlying144
def ti55:TI:=tF (.slice none 0 0) false (some (38,4)) none false
theorem ok55:TI.Ok Tryz.prog 147 ti55:=okF Tryz.underlying147
def ti56:TI:=tF (.pointer none) false none none true
theorem ok56:TI.Ok Tryz.prog 173 ti56:=okF Tryz.underlying173
def ti57:TI:=tF (.pointer none) false none none true
theorem ok57:TI.Ok Tryz.prog 176 ti57:=okF Tryz.underlying176
def ti58:TI:=tF (.pointer none) false none none true
theorem ok58:TI.Ok Tryz.prog 181 ti58:=okF Tryz.underlying181
def ti59:TI:=tF (.slice none 0 0) false (some (209,28)) none false
theorem ok59:TI.Ok Tryz.prog 192 ti59:=okF Tryz.underlying192
def ti60:TI:=tF (.slice none 0 0) false (some (124,1)) none false
theorem ok60:TI.Ok Tryz.prog 195 ti60:=okF Tryz.underlying195
def ti61:TI:=tF (.slice none 0 0) false (some (192,1)) none false
theorem ok61:TI.Ok Tryz.prog 198 ti61:=okF Tryz.underlying198
def ti62:TI:=tF (.slice none 0 0) false (some (203,9)) none false
theorem ok62:TI.Ok Tryz.prog 202 ti62:=okF Tryz.underlying202
def ti63:TI:=tA 9 #[.int .u8 0,.bool false,.slice none 0 0,.bool false,.slice none 0 0,.bool false,.slice none 0 0,.bool false,.slice none 0 0] #[(0,1),(1,4),(5,4)] #[false,true,true]
theorem ok63:TI.Ok Tryz.prog 203 ti63:=sn Tryz.underlying203
def ti64:TI:=tA 16 #[.bool false,.slice none 0 0,.bool false,.slice none 0 0,.bool false,.slice none 0 0,.bool false,.slice none 0 0,.bool false,.slice none 0 0,.bool false,.slice none 0 0,.bool false,.slice none 0 0,.bool false,.slice none 0 0] #[(0,4),(4,4),(8,4),(12,4)] #[true,true,true,true]
theorem ok64:TI.Ok Tryz.prog 207 ti64:=sn Tryz.underlying207
def ti65:TI:=tA 28 #[.bool false,.slice none 0 0,.bool false,.slice none 0 0,.bool false,.slice none 0 0,.bool false,.slice none 0 0,.bool false,.slice none 0 0,.bool false,.slice none 0 0,.bool false,.slice none 0 0,.bool false,.slice none 0 0,.bool false,.slice none 0 0,.bool false,.slice none 0 0,.bool false,.slice none 0 0,.bool false,.slice none 0 0,.bool false,.slice none 0 0,.bool false,.slice none 0 0] #[(0,16),(16,4),(20,4),(24,4)] #[true,true,true,true]
theorem ok65:TI.Ok Tryz.prog 209 ti65:=sn Tryz.underlying209
def ti66:TI:=tF (.slice none 0 0) false (some (2,1)) none false
theorem ok66:TI.Ok Tryz.prog 213 ti66:=okF Tryz.underlying213
def ti67:TI:=tF (.slice none 0 0) false (some (213,1)) none false
theorem ok67:TI.Ok Tryz.prog 214 ti67:=okF Tryz.underlying214
def ti68:TI:=tA 6 #[.string ⟨#[]⟩,.string ⟨#[]⟩,.bool false,.slice none 0 0,.bool false,.slice none 0 0] #[(0,1),(1,1),(2,4)] #[false,false,true]
theorem ok68:TI.Ok Tryz.prog 218 ti68:=sn Tryz.underlying218
def ti69:TI:=tA 6 #[.string ⟨#[]⟩,.string ⟨#[]⟩,.bool false,.slice none 0 0,.bool false,.slice none 0 0] #[(0,1),(1,1),(2,4)] #[false,false,true]
theorem ok69:TI.Ok Tryz.prog 220 ti69:=sn Tryz.underlying220
def ti70:TI:=tA 10 #[.bool false,.string ⟨#[]⟩,.int .u8 0,.string ⟨#[]⟩,.string ⟨#[]⟩,.string ⟨#[]⟩,.bool false,.slice none 0 0,.bool false,.slice none 0 0] #[(0,1),(1,1),(2,1),(3,1),(4,1),(5,1),(6,4)] #[false,false,false,false,false,false,true]
theorem ok70:TI.Ok Tryz.prog 222 ti70:=sn Tryz.underlying222
def ti71:TI:=tA 10 #[.bool false,.string ⟨#[]⟩,.int .u8 0,.string ⟨#[]⟩,.string ⟨#[]⟩,.string ⟨#[]⟩,.bool false,.slice none 0 0,.bool false,.slice none 0 0] #[(0,1),(1,1),(2,1),(3,1),(4,1),(5,1),(6,4)] #[false,false,false,false,false,false,true]
theorem ok71:TI.Ok Tryz.prog 224 ti71:=sn Tryz.underlying224
def ti72:TI:=tA 9 #[.string ⟨#[]⟩,.bool false,.slice none 0 0,.bool false,.slice none 0 0,.bool false,.slice none 0 0,.bool false,.slice none 0 0] #[(0,1),(1,4),(5,4)] #[false,true,true]
theorem ok72:TI.Ok Tryz.prog 226 ti72:=sn Tryz.underlying226
def ti73:TI:=tA 9 #[.string ⟨#[]⟩,.bool false,.slice none 0 0,.bool false,.slice none 0 0,.bool false,.slice none 0 0,.bool false,.slice none 0 0] #[(0,1),(1,4),(5,4)] #[false,true,true]
theorem ok73:TI.Ok Tryz.prog 228 ti73:=sn Tryz.underlying228
def ti74:TI:=tA 5 #[.string ⟨#[]⟩,.bool false,.slice none 0 0,.bool false,.slice none 0 0] #[(0,1),(1,4)] #[false,true]
theorem ok74:TI.Ok Tryz.prog 230 ti74:=sn Tryz.underlying230
def ti75:TI:=tA 5 #[.string ⟨#[]⟩,.bool false,.slice none 0 0,.bool false,.slice none 0 0] #[(0,1),(1,4)] #[false,true]
theorem ok75:TI.Ok Tryz.prog 232 ti75:=sn Tryz.underlying232
def ti76:TI:=tA 2 #[.bool false,.slice none 0 0] #[(0,2)] #[true]
theorem ok76:TI.Ok Tryz.prog 246 ti76:=sn Tryz.underlying246
def ti77:TI:=tF (.int .u64 0) false none (some .u64) false
theorem ok77:TI.Ok Tryz.prog 250 ti77:=okF Tryz.underlying250
def ti78:TI:=tF (.int .u64 0) false none (some .u64) false
theorem ok78:TI.Ok Tryz.prog 251 ti78:=okF Tryz.underlying251
def ti79:TI:=tF (.pointer none) false none none true
theorem ok79:TI.Ok Tryz.prog 257 ti79:=okF Tryz.underlying257
def ti80:TI:=tF (.pointer none) false none none true
theorem ok80:TI.Ok Tryz.prog 260 ti80:=okF Tryz.underlying260
def ti81:TI:=tF (.pointer none) false none none true
theorem ok81:TI.Ok Tryz.prog 263 ti81:=okF Tryz.underlying263
def ti82:TI:=tF (.pointer none) false none none true
theorem ok82:TI.Ok Tryz.prog 266 ti82:=okF Tryz.underlying266
def ti83:TI:=tF (.pointer none) false none none true
theorem ok83:TI.Ok Tryz.prog 269 ti83:=okF Tryz.underlying269
def ti84:TI:=tF (.pointer none) false none none true
theorem ok84:TI.Ok Tryz.prog 276 ti84:=okF Tryz.underlying276
def ti85:TI:=tF (.slice none 0 0) false (some (284,6)) none false
theorem ok85:TI.Ok Tryz.prog 282 ti85:=okF Tryz.underlying282
def ti86:TI:=tA 6 #[.int .i64 0,.int .i64 0,.bool false,.slice none 0 0,.bool false,.slice none 0 0] #[(0,1),(1,1),(2,4)] #[false,false,true]
theorem ok86:TI.Ok Tryz.prog 284 ti86:=sn Tryz.underlying284
def ti87:TI:=tF (.slice none 0 0) false (some (286,9)) none false
theorem ok87:TI.Ok Tryz.prog 285 ti87:=okF Tryz.underlying285
def ti88:TI:=tA 9 #[.int .u8 0,.bool false,.slice none 0 0,.bool false,.slice none 0 0,.bool false,.slice none 0 0,.bool false,.slice none 0 0] #[(0,1),(1,4),(5,4)] #[false,true,true]
theorem ok88:TI.Ok Tryz.prog 286 ti88:=sn Tryz.underlying286
def ti89:TI:=tF (.pointer none) false none none true
theorem ok89:TI.Ok Tryz.prog 289 ti89:=okF Tryz.underlying289
def ti90:TI:=tA 16 #[.bool false,.slice none 0 0,.bool false,.slice none 0 0,.bool false,.slice none 0 0,.bool false,.slice none 0 0,.bool false,.slice none 0 0,.bool false,.slice none 0 0,.bool false,.slice none 0 0,.bool false,.slice none 0 0] #[(0,16)] #[true]
theorem ok90:TI.Ok Tryz.prog 292 ti90:=sn Tryz.underlying292
def ti91:TI:=tF (.map none) false none none false
theorem ok91:TI.Ok Tryz.prog 293 ti91:=okF RG
def ti92:TI:=tF (.slice none 0 0) false (some (207,16)) none false
theorem ok92:TI.Ok Tryz.prog 301 ti92:=okF Tryz.underlying301
def ti93:TI:=tF (.slice none 0 0) false (some (3,1)) none false
theorem ok93:TI.Ok Tryz.prog 315 ti93:=okF Hl
def ti94:TI:=tF (.slice none 0 0) false (some (23,1)) none false
theorem ok94:TI.Ok Tryz.prog 321 ti94:=okF Tryz.underlying321
def ti95:TI:=tF (.slice none 0 0) false (some (338,6)) none false
theorem ok95:TI.Ok Tryz.prog 332 ti95:=okF Tryz.underlying332
def ti96:TI:=tA 1 #[.slice none 0 0] #[(0,1)] #[false]
theorem ok96:TI.Ok Tryz.prog 334 ti96:=sn Tryz.underlying334
def ti97:TI:=tA 1 #[.slice none 0 0] #[(0,1)] #[true]
theorem ok97:TI.Ok Tryz.prog 336 ti97:=sn Tryz.underlying336
def ti98:TI:=tA 6 #[.int .i64 0,.int .i64 0,.bool false,.slice none 0 0,.bool false,.slice none 0 0] #[(0,1),(1,1),(2,4)] #[false,false,true]
theorem ok98:TI.Ok Tryz.prog 338 ti98:=sn Tryz.underlying338
def ti99:TI:=tF (.slice none 0 0) false (some (121,16)) none false
theorem ok99:TI.Ok Tryz.prog 353 ti99:=okF Tryz.underlying353
def ti100:TI:=tF (.pointer none) false none none true
theorem ok100:TI.Ok Tryz.prog 379 ti100:=okF Tryz.underlying379
def ti101:TI:=tF (.slice none 0 0) false (some (5,1)) none false
theorem ok101:TI.Ok Tryz.prog 383 ti101:=okF Tryz.underlying383
def ti102:TI:=tA 4 #[.bool false,.slice none 0 0,.bool false,.slice none 0 0] #[(0,4)] #[true]
theorem ok102:TI.Ok Tryz.prog 388 ti102:=sn Tryz.underlying388
def ti103:TI:=tF (.pointer none) false none none true
theorem ok103:TI.Ok Tryz.prog 394 ti103:=okF Tryz.underlying394
def ti104:TI:=tF (.pointer none) false none none true
theorem ok104:TI.Ok Tryz.prog 409 ti104:=okF Tryz.underlying409
def ti105:TI:=tF (.pointer none) false none none true
theorem ok105:TI.Ok Tryz.prog 430 ti105:=okF Tryz.underlying430
def ti106:TI:=tF (.slice none 0 0) false (some (4,1)) none false
theorem ok106:TI.Ok Tryz.prog 440 ti106:=okF Tryz.underlying440
def table (t:TypeId):Option TI:=
 bif Nat.beq t 2 then some ti0 else
 bif Nat.beq t 3 then some ti1 else
 bif Nat.beq t 4 then some ti2 else
 bif Nat.beq t 5 then some ti3 else
 bif Nat.beq t 9 then some ti4 else
 bif Nat.beq t 12 then some ti5 else
 bif Nat.beq t 22 then some ti6 else
 bif Nat.beq t 23 then some ti7 else
 bif Nat.beq t 25 then some ti8 else
 bif Nat.beq t 27 then some ti9 else
 bif Nat.beq t 28 then some ti10 else
 bif Nat.beq t 29 then some ti11 else
 bif Nat.beq t 30 then some ti12 else
 bif Nat.beq t 32 then some ti13 else
 bif Nat.beq t 35 then some ti14 else
 bif Nat.beq t 36 then some ti15 else
 bif Nat.beq t 38 then some ti16 else
 bif Nat.beq t 39 then some ti17 else
 bif Nat.beq t 40 then some ti18 else
 bif Nat.beq t 42 then some ti19 else
 bif Nat.beq t 44 then some ti20 else
 bif Nat.beq t 46 then some ti21 else
 bif Nat.beq t 47 then some ti22 else
 bif Nat.beq t 50 then some ti23 else
 bif Nat.beq t 52 then some ti24 else
 bif Nat.beq t 64 then some ti25 else
 bif Nat.beq t 67 then some ti26 else
 bif Nat.beq t 68 then some ti27 else
 bif Nat.beq t 71 then some ti28 else
 bif Nat.beq t 74 then some ti29 else
 bif Nat.beq t 76 then some ti30 else
 bif Nat.beq t 78 then some ti31 else
 bif Nat.beq t 80 then some ti32 else
 bif Nat.beq t 81 then some ti33 else
 bif Nat.beq t 93 then some ti34 else
 bif Nat.beq t 94 then some ti35 else
 bif Nat.beq t 95 then some ti36 else
 bif Nat.beq t 96 then some ti37 else
 bif Nat.beq t 97 then some ti38 else
 bif Nat.beq t 99 then some ti39 else
 bif Nat.beq t 103 then some ti40 else
 bif Nat.beq t 105 then some ti41 else
 bif Nat.beq t 121 then some ti42 else
 bif Nat.beq t 123 then some ti43 else
 bif Nat.beq t 124 then some ti44 else
 bif Nat.beq t 127 then some ti45 else
 bif Nat.beq t 129 then some ti46 else
 bif Nat.beq t 130 then some ti47 else
 bif Nat.beq t 131 then some ti48 else
 bif Nat.beq t 132 then some ti49 else
 bif Nat.beq t 133 then some ti50 else
 bif Nat.beq t 134 then some ti51 else
 bif Nat.beq t 136 then some ti52 else
 bif Nat.beq t 141 then some ti53 else
 bif Nat.beq t 144 then some ti54 else
 bif Nat.beq t 147 then some ti55 else
 bif Nat.beq t 173 then some ti56 else
 bif Nat.beq t 176 then some ti57 else
 bif Nat.beq t 181 then some ti58 else
 bif Nat.beq t 192 then some ti59 else
 bif Nat.beq t 195 then some ti60 else
 bif Nat.beq t 198 then some ti61 else
 bif Nat.beq t 202 then some ti62 else
 bif Nat.beq t 203 then some ti63 else
 bif Nat.beq t 207 then some ti64 else
 bif Nat.beq t 209 then some ti65 else
 bif Nat.beq t 213 then some ti66 else
 bif Nat.beq t 214 then some ti67 else
 bif Nat.beq t 218 then some ti68 else
 bif Nat.beq t 220 then some ti69 else
 bif Nat.beq t 222 then some ti70 else
 bif Nat.beq t 224 then some ti71 else
 bif Nat.beq t 226 then some ti72 else
 bif Nat.beq t 228 then some ti73 else
 bif Nat.beq t 230 then some ti74 else
 bif Nat.beq t 232 then some ti75 else
 bif Nat.beq t 246 then some ti76 else
 bif Nat.beq t 250 then some ti77 else
 bif Nat.beq t 251 then some ti78 else
 bif Nat.beq t 257 then some ti79 else
 bif Nat.beq t 260 then some ti80 else
 bif Nat.beq t 263 then some ti81 else
 bif Nat.beq t 266 then some ti82 else
 bif Nat.beq t 269 then some ti83 else
 bif Nat.beq t 276 then some ti84 else
 bif Nat.beq t 282 then some ti85 else
 bif Nat.beq t 284 then some ti86 else
 bif Nat.beq t 285 then some ti87 else
 bif Nat.beq t 286 then some ti88 else
 bif Nat.beq t 289 then some ti89 else
 bif Nat.beq t 292 then some ti90 else
 bif Nat.beq t 293 then some ti91 else
 bif Nat.beq t 301 then some ti92 else
 bif Nat.beq t 315 then some ti93 else
 bif Nat.beq t 321 then some ti94 else
 bif Nat.beq t 332 then some ti95 else
 bif Nat.beq t 334 then some ti96 else
 bif Nat.beq t 336 then some ti97 else
 bif Nat.beq t 338 then some ti98 else
 bif Nat.beq t 353 then some ti99 else
 bif Nat.beq t 379 then some ti100 else
 bif Nat.beq t 383 then some ti101 else
 bif Nat.beq t 388 then some ti102 else
 bif Nat.beq t 394 then some ti103 else
 bif Nat.beq t 409 then some ti104 else
 bif Nat.beq t 430 then some ti105 else
 bif Nat.beq t 440 then some ti106 else none
theorem fy:∀ t i,table t=some i->TI.Ok Tryz.prog t i:=λt i=>tb ok0 (tb ok1 (tb ok2 (tb ok3 (tb ok4 (tb ok5 (tb ok6 (tb ok7 (tb ok8 (tb ok9 (tb ok10 (tb ok11 (tb ok12 (tb ok13 (tb ok14 (tb ok15 (tb ok16 (tb ok17 (tb ok18 (tb ok19 (tb ok20 (tb ok21 (tb ok22 (tb ok23 (tb ok24 (tb ok25 (tb ok26 (tb ok27 (tb ok28 (tb ok29 (tb ok30 (tb ok31 (tb ok32 (tb ok33 (tb ok34 (tb ok35 (tb ok36 (tb ok37 (tb ok38 (tb ok39 (tb ok40 (tb ok41 (tb ok42 (tb ok43 (tb ok44 (tb ok45 (tb ok46 (tb ok47 (tb ok48 (tb ok49 (tb ok50 (tb ok51 (tb ok52 (tb ok53 (tb ok54 (tb ok55 (tb ok56 (tb ok57 (tb ok58 (tb ok59 (tb ok60 (tb ok61 (tb ok62 (tb ok63 (tb ok64 (tb ok65 (tb ok66 (tb ok67 (tb ok68 (tb ok69 (tb ok70 (tb ok71 (tb ok72 (tb ok73 (tb ok74 (tb ok75 (tb ok76 (tb ok77 (tb ok78 (tb ok79 (tb ok80 (tb ok81 (tb ok82 (tb ok83 (tb ok84 (tb ok85 (tb ok86 (tb ok87 (tb ok88 (tb ok89 (tb ok90 (tb ok91 (tb ok92 (tb ok93 (tb ok94 (tb ok95 (tb ok96 (tb ok97 (tb ok98 (tb ok99 (tb ok100 (tb ok101 (tb ok102 (tb ok103 (tb ok104 (tb ok105 (tb ok106 (λh=>by cases h)))))))))))))))))))))))))))))))))))))))))))))))))))))))))))))))))))))))))))))))))))))))))))))))))))))))))))
abbrev UU:TypeId:=78
abbrev bd (P:Program) (w:World) (N:Nat):Cx:={ P:=P,w0:=w,N:=N,K:=KU UU,SU:=λt=>Nat.beq t 23,ti:=table,keep:=λ_ _=>trivial }
abbrev KI:KC:=⟨UU,λ_=>True,λt=>Nat.beq t 3⟩
abbrev PK (P:Program) (w:World) (N:Nat):Cx:={ P:=P,w0:=w,N:=N,K:=KI,SU:=λt=>Nat.beq t 23 || Nat.beq t 315,ti:=table,keep:=λ_ _=>trivial }
theorem sW (w:World) (N:Nat):(PK Tryz.prog w N).Ok:=fy
theorem oo (w:World) (N:Nat):(PK Tryz.prog w N).P.follows .mixedOrders=true:=by show Tryz.prog.follows .mixedOrders=true;kernel_rfl
abbrev Yt (P:Program) (w:World) (N:Nat) (ad:List Nat) (hd:ad.Nodup) (ha:iR (KU UU) ad w):Cx:=wk P w N (KU UU) (λt=>Nat.beq t 23) table (λ_ _=>trivial) ad hd ha
theorem PL (w:World) (N:Nat) {ad:List Nat} {hd:ad.Nodup} {ha:iR (KU UU) ad w}:(Yt Tryz.prog w N ad hd ha).Ok:=fy
theorem Uq (w:World) (N:Nat) {ad:List Nat} {hd:ad.Nodup} {ha:iR (KU UU) ad w}:(Yt Tryz.prog w N ad hd ha).P.follows .mixedOrders=true:=by show Tryz.prog.follows .mixedOrders=true;kernel_rfl
theorem cS (w:World) (N:Nat):(bd Tryz.prog w N).Ok:=fy
theorem vh (w:World) (N:Nat):(bd Tryz.prog w N).P.follows .mixedOrders=true:=by show Tryz.prog.follows .mixedOrders=true;kernel_rfl
section
variable {C:Cx} {m:Option (List FuncId)} {full:Array Oper} {K:Fr->Hp->World->Prop} {F F':Fr} {H H':Hp} {w w1:World} {N:Nat} {o:Oper} {r l l':List Oper} {Q:Exit->Act->World->Prop} {k k':List It} {v:AV} {u:Option (Nat×(TypeId×List AV))} {id:Nat} {ops:Array Oper}
theorem wN (h:K F H w):aB C m full [] K F H w:=VO.nil h
theorem wV (e:jJ C full 80 l F H=(l',F',H')) (h:aB C m full l' K F' H' w):aB C m full l K F H w:=VO.run 80 e h
theorem wO (e:stepOf C full F H o=.gM v u) (e':jJ C full 80 r (F.dw o.dst v) (H.upd u)=(l',F',H')) (h:aB C m full l' K F' H' w):aB C m full (o::r) K F H w:=VO.op1 e (VO.run 80 e' h)
theorem wQ {x y:Code} (h:VS C Q (.code x::.code y::k) F H w):VS C Q (.code (.seq x y)::k) F H w:=VS.seq h
theorem Ur (e:jJ (bd Tryz.prog w1 N) ops 80 ops.toList F H=(l',F',H')) (h:aB (bd Tryz.prog w1 N) none ops l' (VS (bd Tryz.prog w1 N) Q k) F' H' w):VS (bd Tryz.prog w1 N) Q (.code (.region id ops false)::k) F H w:=VS.region (cS _ _) (VO.run 80 e h)
theorem cx_d (e:jJ (bd Tryz.prog w1 N) ops 80 ops.toList F H=(l',F',H')) (h:aB (bd Tryz.prog w1 N) (some []) ops l' (VS (bd Tryz.prog w1 N) Q k) F' H' w) (np:lI (bd Tryz.prog w1 N).SU [] ops=true:=by kernel_rfl):VS (bd Tryz.prog w1 N) Q (.code (.region id ops true)::k) F H w:=VS.draw (cS _ _) (vh _ _) [] np (VO.run 80 e h)
theorem II (e:jJ (PK Tryz.prog w1 N) ops 80 ops.toList F H=(l',F',H')) (h:aB (PK Tryz.prog w1 N) none ops l' (VS (PK Tryz.prog w1 N) Q k) F' H' w):VS (PK Tryz.prog w1 N) Q (.code (.region id ops false)::k) F H w:=VS.region (sW _ _) (VO.run 80 e h)
theorem cxI_d (e:jJ (PK Tryz.prog w1 N) ops 80 ops.toList F H=(l',F',H')) (h:aB (PK Tryz.prog w1 N) (some []) ops l' (VS (PK Tryz.prog w1 N) Q k) F' H' w) (np:lI (PK Tryz.prog w1 N).SU [] ops=true:=by kernel_rfl):VS (PK Tryz.prog w1 N) Q (.code (.region id ops true)::k) F H w:=VS.draw (sW _ _) (oo _ _) [] np (VO.run 80 e h)
theorem cxA_r {ad:List Nat} {hd:ad.Nodup} {ha:iR (KU UU) ad w1} (e:jJ (Yt Tryz.prog w1 N ad hd ha) ops 80 ops.toList F H=(l',F',H')) (h:aB (Yt Tryz.prog w1 N ad hd ha) none ops l' (VS (Yt Tryz.prog w1 N ad hd ha) Q k) F' H' w):VS (Yt Tryz.prog w1 N ad hd ha) Q (.code (.region id ops false)::k) F H w:=VS.region (PL _ _) (VO.run 80 e h)
theorem cxA_d {ad:List Nat} {hd:ad.Nodup} {ha:iR (KU UU) ad w1} (e:jJ (Yt Tryz.prog w1 N ad hd ha) ops 80 ops.toList F H=(l',F',H')) (h:aB (Yt Tryz.prog w1 N ad hd ha) (some []) ops l' (VS (Yt Tryz.prog w1 N ad hd ha) Q k) F' H' w) (np:lI (Yt Tryz.prog w1 N ad hd ha).SU [] ops=true:=by kernel_rfl):VS (Yt Tryz.prog w1 N ad hd ha) Q (.code (.region id ops true)::k) F H w:=VS.draw (PL _ _) (Uq _ _) [] np (VO.run 80 e h)
def peel (F:Fr):List It->Option (List It)
 | .code (.seq x y)::k=>some (.code x::.code y::k)
 | .code (.block id c)::k=>some (.code c::.sm id::k)
 | .sm _::k=>some k
 | .code .skip::k=>some k
 | .code (.exit id)::k=>pop id k
 | .code (.cond c x y)::k=>(match nS F c with
   | some (.bool true)=>some (.code x::k)
   | some (.bool false)=>some (.code y::k)
   | _=>none)
 | _=>none
theorem wP (e:peel F k=some k') (h:VS C Q k' F H w):VS C Q k F H w:=by
 unfold peel at e
 split at e
 ·cases e;exact VS.seq h
 ·cases e;exact VS.block h
 ·cases e;exact VS.sm h
 ·cases e;exact VS.skip h
 ·exact VS.exit e h
 ·split at e
  ·rename_i hc;cases e;exact VS.condT hc h
  ·rename_i hc;cases e;exact VS.condF hc h
  ·cases e
 ·cases e
theorem fk {P:Program} {g:FuncId} {fn:Func} (h:P.funcs[g]? =some fn) (h1:(fn.name == "runtime.NumGoroutine")=false:=by kernel_rfl) (h2:fn.body.isNone=false:=by kernel_rfl):nL P g:=⟨fn,h,h1,h2⟩
theorem kU (w:World):bg (KU UU) w w:=bg.refl _ _
theorem kR {k:KC} (w:World):bg k w w:=bg.refl _ _
theorem kT {k:KC} {a b c:World} (h:bg k a b) (h':bg k b c):bg k a c:=h.aN h'
end
end
section
open Go.RowKit
theorem oW (neg:Bool) (p:Option Addr) (n c:Nat) (w:World):
  Calls Tryz.prog 146 #[.bool neg,.slice p n c] w λe w'=>e=.returned (.agg #[.bool (neg && decide (0<n)),.slice p n c])/\aD w w':=by
 refine bI λR' dm=> ?_;go_enter Tryz.func146,Tryz.ntmps146
 cases neg
 ·go_wp2
  exact bodyPost_ret (v:=.agg #[.bool false,.slice p n c]) (by simp[results,Tryz.results146,go_sem]) aa (dm.out _ _ ⟨aa,(aD.refl w).alloc _⟩)
 ·go_wp2
  exact bodyPost_ret (v:=.agg #[.bool (decide (0<n)),.slice p n c]) (by simp[results,Tryz.results146,go_sem]) aa (dm.out _ _ ⟨aa,(aD.refl w).alloc _⟩)
theorem iY (neg:Bool) (p:Option Addr) (n c:Nat) (w:World):
  Calls Tryz.prog 146 #[.bool neg,.slice p n c] w λe w'=>∃ sg,e=.returned (.agg #[.bool sg,.slice p n c])/\Hid (sg=(neg && decide (0<n)))/\aD w w':=
 (oW neg p n c w).mono λ_ _ ⟨h,hb⟩=>⟨_,h,ag rfl,hb⟩
theorem xC (neg:Bool) (xs:List Nat) (v:Value) (w:World) (h:iP w v neg xs):
  Calls Tryz.prog 83 #[v] w λe w'=>e=.returned (.bool (fi neg xs))/\aD w w':=by
 obtain⟨p,c,rfl,hr,hl⟩:=h;obtain⟨p',c',hv,eS,gv,-⟩:=hr.u32;simp only[Value.slice.injEq,true_and] at hv;obtain⟨rfl,rfl⟩:=hv;refine bI λR' dm=> ?_;by_cases hx:xs=[]
 ·subst hx;simp only[List.length_nil,xm] at*;go_enter Tryz.func83,Tryz.ntmps83
  cases neg
  ·go_wp2
   exact dm.out _ _ ⟨aa,(aD.refl w).alloc _⟩
  ·go_wp2
   exact dm.out _ _ ⟨aa,(aD.refl w).alloc _⟩
 ·obtain⟨m,hm⟩:∃ m,xs.length=m+1:=⟨xs.length-1,by have:=List.length_pos_iff.2 hx;omega⟩;generalize hn:xs.length=n at*;obtain⟨b,off,x,rfl,hb,hxm,hc⟩:=hr.cellAt (k:=m) ae;have h1:fi neg xs=decide (x≠0):=BA (by rw[hn,hm];exact hxm);rw[h1] at dm;have hz:((n:Int) == 0)=false:=by rw[eQ];omega
  have hp:(0:Int)<(n:Int):=ae;have hw:IntKind.i64.wrap ((n:Int)-1)=(m:Int):=by rw[cO _ ae];omega
  have hlt:(m:Int)<(n:Int):=ae;have HN:=ag hn;have hpn:0<n:=ae;clear hx hm hn h1 hxm hr hl;go_enter Tryz.func83,Tryz.ntmps83
  by_cases uv:x=0
  ·subst uv;cases neg
   ·go_wp2
    exact dm.out _ _ ⟨aa,(aD.refl w).alloc _⟩
   ·go_wp2
    exact dm.out _ _ ⟨aa,(aD.refl w).alloc _⟩
  ·have EK:((x:Int) != 0)=true:=by rw[bne_iff_ne];omega
   rw[aw uv] at dm;clear uv;cases neg
   ·go_wp2
    exact dm.out _ _ ⟨aa,(aD.refl w).alloc _⟩
   ·go_wp2
    exact dm.out _ _ ⟨aa,(aD.refl w).alloc _⟩
theorem iE (v:Value) (X:Int) (k:Nat) (w0 w:World) (h:cX w0 v X k) (sj:aD w0 w):
  Calls Tryz.prog 144 #[v] w λe w'=>∃ u,e=.returned u/\df w0 u X/\aD w w':=by
 obtain⟨neg,xs,hn,rfl,hk⟩:=h;refine bI λR' dm=> ?_;have HN:=ag hn;obtain⟨p,c,rfl,hr,hl⟩:=hn;clear hr;go_enter Tryz.func144,Tryz.ntmps144
 go_wp2_with fail
 refine (xC neg xs _ _ ((HN.out.bS sj).bS (((aD.refl w).alloc _).alloc _))).mono ?_;rintro e w1 ⟨rfl,aU⟩;obtain⟨b1,b2,rk⟩:=qS w 25 246 #[.bool neg,.slice p xs.length c] #[.bool false,.slice none 0 0];obtain⟨c1,c2,_,_⟩:=(b1.bS aU).two;obtain⟨c3,c4,f3,f4⟩:=(b2.bS aU).two;have JE:aD w w1:=rk.aN aU;cases hnr:fi neg xs
 ·have B2:=(b2.bS aU).dv (.bool false) (.slice none 0 0);have Bx:=JE.dv (b:=w.heap.size+1) ae (.bool false) (.slice none 0 0);go_wp2
  generalize (w1.setCell ⟨w.heap.size+1,0,none⟩ (.bool false)).setCell ⟨w.heap.size+1,1,none⟩ (.slice none 0 0)=w2 at*;obtain⟨d1,d2,_,_⟩:=B2.two;refine bodyPost_ret (v:=.agg #[.bool false,.slice none 0 0]) (by simp[results,Tryz.results144,go_sem,d1,d2]) aa (dm.out _ _ ⟨_,aa,?_,Bx⟩);rw[numOf,if_neg (by simp[hnr])];exact df.zero _
 ·have B2:=(b2.bS aU).dv (.bool neg) (.slice p xs.length c);have Bx:=JE.dv (b:=w.heap.size+1) ae (.bool neg) (.slice p xs.length c);go_wp2
  generalize (w1.setCell ⟨w.heap.size+1,0,none⟩ (.bool neg)).setCell ⟨w.heap.size+1,1,none⟩ (.slice p xs.length c)=w2 at*;obtain⟨d1,d2,_,_⟩:=B2.two;refine bodyPost_ret (v:=.agg #[.bool neg,.slice p xs.length c]) (by simp[results,Tryz.results144,go_sem,d1,d2]) aa (dm.out _ _ ⟨_,aa,?_,Bx⟩);rw[numOf,if_pos hnr];obtain⟨h1,h2⟩:=canon hl hnr;have:=HN.out;show iP _ _ _ _;rw[<-h1,<-h2];exact this
end
section
open Go.RowKit
theorem df.split {w:World} {v:Value} {X:Int} (h:df w v X):∃ s p c,v=.agg #[.bool s,.slice p (limbs X.natAbs).length c]/\Rd w 1 (.slice p (limbs X.natAbs).length c) (limbs X.natAbs).length (ints .u32 (limbs X.natAbs))/\X=if s=true then-(X.natAbs:Int) else (X.natAbs:Int):=by
 obtain⟨p,c,hv,hr,_⟩:=h;refine⟨_,p,c,hv,hr,?_⟩
 split
 ·rename_i h;have:=nO h;omega
 ·rename_i h;have:¬ X<0:=λh'=>h (aw h');omega
theorem EL (v:Value) (X:Int) (w:World) (h:df w v X):
  Calls Tryz.prog 205 #[v] w λe w'=>∃ u,e=.returned u/\df w' u (-X)/\aD w w':=by
 obtain⟨s,p,c,rfl,hr,hX⟩:=h.split;obtain⟨n,hn⟩:∃ n,n=(limbs X.natAbs).length:=⟨_,aa⟩;have HR:=ag hr;have HN:=ag hn;have HX:=ag hX;rw[<-hn];clear hr hn hX h;refine bI λR' dm=> ?_;obtain⟨b1,b2,rk⟩:=qS w 246 246 #[.bool s,.slice p n c] #[.bool false,.slice none 0 0];go_enter Tryz.func205,Tryz.ntmps205
 go_wp2_with fail
 refine (oW _ _ _ _ _).mono ?_;rintro e w1 ⟨rfl,aU⟩;obtain⟨c3,c4,f3,f4⟩:=(b2.bS aU).two;have B2:=(b2.bS aU).dv (.bool (!s && decide (0<n))) (.slice p n c);have Bx:=(rk.aN aU).dv (b:=w.heap.size+1) ae (.bool (!s && decide (0<n))) (.slice p n c);go_wp2
 generalize (w1.setCell ⟨w.heap.size+1,0,none⟩ (.bool (!s && decide (0<n)))).setCell ⟨w.heap.size+1,1,none⟩ (.slice p n c)=w2 at*;obtain⟨d1,d2,_,_⟩:=B2.two;refine bodyPost_ret (v:=.agg #[.bool (!s && decide (0<n)),.slice p n c]) (by simp[results,Tryz.results205,go_sem,d1,d2]) aa (dm.out _ _ ⟨_,aa,?_,Bx⟩);have qk:=HR.out.below Bx;rw[<-HN.out] at qk;refine df.of (m:=X.natAbs) (by rw[<-HN.out];exact qk) HN.out _ ?_;rw[HX.out];cases s <;> simp
theorem MN (v u:Value) (X Y:Int) (w:World) (hv:df w v X) (hu:df w u Y) (hx:(limbs X.natAbs).length<=1073741824) (hy:(limbs Y.natAbs).length<=1073741824):
  Calls Tryz.prog 204 #[v,u] w λe w'=>∃ r,e=.returned r/\aE w' w.heap.size r (X+Y)/\aD w w':=by
 obtain⟨s,p,c,rfl,qj,hX⟩:=hv.split;obtain⟨t,q,d,rfl,qk,hY⟩:=hu.split;obtain⟨n,hn⟩:∃ n,n=(limbs X.natAbs).length:=⟨_,aa⟩;obtain⟨m,hm⟩:∃ m,m=(limbs Y.natAbs).length:=⟨_,aa⟩;rw[<-hn] at qj hx ⊢;rw[<-hm] at qk hy ⊢;clear hv hu;refine bI λR' dm=> ?_;obtain⟨b1,b2,b3,rk⟩:=sP w 246 246 25 #[.bool s,.slice p n c] #[.bool t,.slice q m d] #[.bool false,.slice none 0 0];have r10:=ag qj;have r20:=ag qk;have r1:=ag (qj.below rk);have r2:=ag (qk.below rk);have HX:=ag hX;have HY:=ag hY;have HN:=ag hn;have HM:=ag hm;clear qj qk hX hY hn hm;go_enter Tryz.func204,Tryz.ntmps204
 by_cases hst:s=t
 ·subst hst;go_wp2_with fail
  generalize ((w.alloc _).alloc _).alloc _=W at*;obtain⟨c1,c2,_,_⟩:=b1.two;obtain⟨c3,c4,_,_⟩:=b2.two;obtain⟨c5,c6,f5,f6⟩:=b3.two;have HS:=ag (λw' (h:aH W (w.heap.size+1+1) w')=>And.intro (h.cells b1 ae) (h.cells b2 ae))
  go_region_held3 (λw'=>(w'.cell? ⟨w.heap.size,0,none⟩=some (.bool s)/\w'.cell? ⟨w.heap.size,1,none⟩=some (.slice p n c))/\w'.cell? ⟨w.heap.size+1,0,none⟩=some (.bool s)/\w'.cell? ⟨w.heap.size+1,1,none⟩=some (.slice q m d)) ((refine HS.out _ ?_;(with_reducible (repeat (first|exact aH.refl _ _|refine aH.drew ?_|refine aH.drewN ?_ _|refine aH.alloc ?_ _|refine aH.set ?_ _|refine aH.aN ?_ (by assumption)|refine aH.uQ ?_ (by first|omega|(simp;done)|(simp;omega)) _))))) (first
   | (go_at_call 268;refine (RP _ _ n m _ _ _ r1.out.drew r2.out.drew (aF _) (aF _) ae ae).mono ?_;rintro e w1 ⟨v1,rfl,Av,aU⟩;replace aU:aD _ w1:=aU;rw[ax,ax] at Av;obtain⟨p1,k1,rfl,_,_,_⟩:=Own.form Av)
   | (go_at_call 146;refine (oW _ _ _ _ _).mono ?_;rintro e w2 ⟨rfl,bu⟩;obtain⟨c5',c6',f5',f6'⟩:=((b3.drew.bS aU).bS bu).two))
  have B3:=((b3.drew.bS aU).bS bu).dv (.bool (s && decide (0<(limbs (X.natAbs+Y.natAbs)).length))) (.slice p1 (limbs (X.natAbs+Y.natAbs)).length k1);have JE:aD w w2:=rk.aN (aD.aN (aD.aN (aD.refl W).drew aU) bu);have WI:=JE.dv (b:=w.heap.size+1+1) ae (.bool (s && decide (0<(limbs (X.natAbs+Y.natAbs)).length))) (.slice p1 (limbs (X.natAbs+Y.natAbs)).length k1);have PM:=Own.below Av bu;generalize hL:(limbs (X.natAbs+Y.natAbs)).length=L at*;have XB:=ag (Own.dv (b:=w.heap.size+1+1) PM (b3.drew.bS aU |>.bS bu) eL (.bool (s && decide (0<L))) (.slice p1 L k1));clear PM Av JE;go_wp2
  generalize (w2.setCell ⟨w.heap.size+1+1,0,none⟩ (.bool (s && decide (0<L)))).setCell ⟨w.heap.size+1+1,1,none⟩ (.slice p1 L k1)=w3 at*;obtain⟨d1,d2,_,_⟩:=B3.two;refine bodyPost_ret (v:=.agg #[.bool (s && decide (0<L)),.slice p1 L k1]) (by simp[results,Tryz.results204,go_sem,d1,d2]) aa (dm.out _ _ ⟨_,aa,?_,WI⟩);refine aE.of (m:=X.natAbs+Y.natAbs) (by rw[hL];exact Own.mono XB.out rk.size) hL.symm _ ?_;rw[HX.out,HY.out];cases s <;> simp <;> omega
 ·have hst':(s == t)=false:=by cases s <;> cases t <;> simp_all
  go_wp2_with fail
  generalize ((w.alloc _).alloc _).alloc _=W at*;refine (JF _ _ n m _ _ _ r1.out r2.out (aF _) (aF _)).mono ?_;rintro e w1 ⟨rfl,k1,rfl⟩;rw[ax,ax];by_cases hlt:X.natAbs<Y.natAbs
  ·have HLT:=ag hlt;have hc:jx X.natAbs Y.natAbs<0:=mZ.2 hlt;generalize jx X.natAbs Y.natAbs=cv at hc ⊢;obtain⟨c1,c2,f1,f2⟩:=(b1.drewN k1).two;obtain⟨c3,c4,f3,f4⟩:=(b2.drewN k1).two;have B1:=((b1.drewN k1).dv (.bool t) (.slice q m d)).fS (b':=w.heap.size+1) ae (.bool s) (.slice p n c);have B2:=((b2.drewN k1).fS (b':=w.heap.size) ae (.bool t) (.slice q m d)).dv (.bool s) (.slice p n c);have B3:=((b3.drewN k1).fS (b':=w.heap.size) ae (.bool t) (.slice q m d)).fS (b':=w.heap.size+1) ae (.bool s) (.slice p n c);have kc:=((rk.drewN k1).dv (b:=w.heap.size) ae (.bool t) (.slice q m d)).dv (b:=w.heap.size+1) ae (.bool s) (.slice p n c);clear rk b1 b2 b3 r1 r2 hlt;go_wp2_with fail
   generalize ((((W.drewN k1).setCell ⟨w.heap.size,0,none⟩ (.bool t)).setCell ⟨w.heap.size,1,none⟩ (.slice q m d)).setCell ⟨w.heap.size+1,0,none⟩ (.bool s)).setCell ⟨w.heap.size+1,1,none⟩ (.slice p n c)=W2 at*;clear c1 c2 c3 c4 f1 f2 f3 f4;refine (JM _ _ m n _ _ _ (r20.out.below kc) (r10.out.below kc) (aF _) (aF _) ae).mono ?_;rintro e w2 ⟨⟨h,_⟩|⟨_,v2,rfl,Sk⟩,bu⟩
   ·rw[ax,ax] at h;exact absurd h (by have:=HLT.out;omega)
   replace bu:aD _ w2:=bu;rw[ax,ax] at Sk;obtain⟨p2,k2,rfl,_,_,_⟩:=Own.form Sk;obtain⟨e1,e2,_,_⟩:=(B1.bS bu).two;have E3:=B3.bS bu;have hbw2:=kc.aN bu;generalize hL:(limbs (Y.natAbs-X.natAbs)).length=L at*;have ug:=ag (Own.mono Sk kc.size);have HL:=ag hL;clear Sk hL B1 B2 B3 kc bu;go_wp2_with fail
   refine (oW _ _ _ _ _).mono ?_;rintro e w3 ⟨rfl,dH⟩;have F3:=E3.bS dH;obtain⟨e5,e6,g5,g6⟩:=F3.two;have XB:=ag (Own.dv (b:=w.heap.size+1+1) (Own.below ug.out dH) F3 eL (.bool (t && decide (0<L))) (.slice p2 L k2));have G3:=F3.dv (.bool (t && decide (0<L))) (.slice p2 L k2);have WI:=(hbw2.aN dH).dv (b:=w.heap.size+1+1) ae (.bool (t && decide (0<L))) (.slice p2 L k2);clear ug E3 F3;go_wp2
   generalize (w3.setCell ⟨w.heap.size+1+1,0,none⟩ (.bool (t && decide (0<L)))).setCell ⟨w.heap.size+1+1,1,none⟩ (.slice p2 L k2)=w4 at*;obtain⟨d1,d2,_,_⟩:=G3.two;refine bodyPost_ret (v:=.agg #[.bool (t && decide (0<L)),.slice p2 L k2]) (by simp[results,Tryz.results204,go_sem,d1,d2]) aa (dm.out _ _ ⟨_,aa,?_,WI⟩);refine aE.of (m:=Y.natAbs-X.natAbs) (by rw[HL.out];exact XB.out) HL.out.symm _ ?_;rw[HX.out,HY.out];have:=HLT.out;cases s <;> cases t <;> simp at hst ⊢ <;> omega
  ·have HLT:=ag hlt;have hc:0<=jx X.natAbs Y.natAbs:=by have:=mt (@mZ X.natAbs Y.natAbs).1 hlt;omega
   generalize jx X.natAbs Y.natAbs=cv at hc ⊢;have B1:=b1.drewN k1;have B2:=b2.drewN k1;have B3:=b3.drewN k1;have kc:=rk.drewN k1;obtain⟨c1,c2,f1,f2⟩:=B1.two;obtain⟨c3,c4,f3,f4⟩:=B2.two;clear rk b1 b2 b3 r1 r2 hlt;go_wp2_with fail
   generalize W.drewN k1=W2 at*;clear c1 c2 c3 c4 f1 f2 f3 f4;refine (JM _ _ n m _ _ _ (r10.out.below kc) (r20.out.below kc) (aF _) (aF _) ae).mono ?_;rintro e w2 ⟨⟨h,_⟩|⟨_,v2,rfl,Sk⟩,bu⟩
   ·rw[ax,ax] at h;exact absurd h (by have:=HLT.out;omega)
   replace bu:aD _ w2:=bu;rw[ax,ax] at Sk;obtain⟨p2,k2,rfl,_,_,_⟩:=Own.form Sk;obtain⟨e1,e2,_,_⟩:=(B1.bS bu).two;have E3:=B3.bS bu;have hbw2:=kc.aN bu;generalize hL:(limbs (X.natAbs-Y.natAbs)).length=L at*;have ug:=ag (Own.mono Sk kc.size);have HL:=ag hL;clear Sk hL B1 B2 B3 kc bu;go_wp2_with fail
   refine (oW _ _ _ _ _).mono ?_;rintro e w3 ⟨rfl,dH⟩;have F3:=E3.bS dH;obtain⟨e5,e6,g5,g6⟩:=F3.two;have XB:=ag (Own.dv (b:=w.heap.size+1+1) (Own.below ug.out dH) F3 eL (.bool (s && decide (0<L))) (.slice p2 L k2));have G3:=F3.dv (.bool (s && decide (0<L))) (.slice p2 L k2);have WI:=(hbw2.aN dH).dv (b:=w.heap.size+1+1) ae (.bool (s && decide (0<L))) (.slice p2 L k2);clear ug E3 F3;go_wp2
   generalize (w3.setCell ⟨w.heap.size+1+1,0,none⟩ (.bool (s && decide (0<L)))).setCell ⟨w.heap.size+1+1,1,none⟩ (.slice p2 L k2)=w4 at*;obtain⟨d1,d2,_,_⟩:=G3.two;refine bodyPost_ret (v:=.agg #[.bool (s && decide (0<L)),.slice p2 L k2]) (by simp[results,Tryz.results204,go_sem,d1,d2]) aa (dm.out _ _ ⟨_,aa,?_,WI⟩);refine aE.of (m:=X.natAbs-Y.natAbs) (by rw[HL.out];exact XB.out) HL.out.symm _ ?_;rw[HX.out,HY.out];have:=HLT.out;cases s <;> cases t <;> simp at hst ⊢ <;> omega
end
section
open Go.RowKit
theorem kj {w w':World} (h:aD w w':=by (with_reducible (repeat (first|assumption|exact aD.refl _|refine aD.drew ?_|refine aD.drewN ?_ _|refine aD.alloc ?_ _|refine aD.aN ?_ (by assumption)|refine aD.setCell ?_ (by first|omega|(simp;done)|(simp;omega)) _)))):aD w w':=h
theorem EM (v u:Value) (X Y:Int) (j k:Nat) (w:World) (hv:cX w v X j) (hu:cX w u Y k) (hj:j<=1073741824) (hk:k<=1073741824):
  Calls Tryz.prog 150 #[v,u] w λe w'=>∃ r,e=.returned r/\aE w' w.heap.size r (X+Y)/\aD w w':=by
 obtain⟨s,p,n,c,rfl⟩:=hv.form;obtain⟨t,q,m,d,rfl⟩:=hu.form;refine bI λR' dm=> ?_;obtain⟨b1,b2,b3,rk⟩:=sP w 25 25 25 #[.bool s,.slice p n c] #[.bool t,.slice q m d] #[.bool false,.slice none 0 0];have uw:=hv.len;have qN:=hu.len;have HV:=ag hv;have HU:=ag hu;have hsz:w.heap.size+3<=(((w.alloc (.cells #[.bool s,.slice p n c] 25)).alloc (.cells #[.bool t,.slice q m d] 25)).alloc (.cells #[.bool false,.slice none 0 0] 25)).heap.size:=cZ;clear hv hu;go_enter Tryz.func150,Tryz.ntmps150
 go_wp2_with fail
 generalize ((w.alloc _).alloc _).alloc _=W at*;have HS:=ag (λw' (h:aH W (w.heap.size+1+1) w')=>And.intro (h.cells b1 ae) (h.cells b2 ae));obtain⟨c1,c2,_,_⟩:=b1.two;obtain⟨c3,c4,_,_⟩:=b2.two;obtain⟨c5,c6,f5,f6⟩:=b3.two
 go_region_held3 (λw'=>(w'.cell? ⟨w.heap.size,0,none⟩=some (.bool s)/\w'.cell? ⟨w.heap.size,1,none⟩=some (.slice p n c))/\w'.cell? ⟨w.heap.size+1,0,none⟩=some (.bool t)/\w'.cell? ⟨w.heap.size+1,1,none⟩=some (.slice q m d)) ((refine HS.out _ ?_;(with_reducible (repeat (first|exact aH.refl _ _|refine aH.drew ?_|refine aH.drewN ?_ _|refine aH.alloc ?_ _|refine aH.set ?_ _|refine aH.aN ?_ (by assumption)|refine aH.uQ ?_ (by first|omega|(simp;done)|(simp;omega)) _))))) (first
  | (go_at_call_of 144 (Value.slice p n c);refine (iE _ X j w _ HV.out kj).mono ?_;rintro e w1 ⟨u1,rfl,Ke,aU⟩)
  | (go_at_call_of 144 (Value.slice q m d);refine (iE _ Y k w _ HU.out kj).mono ?_;rintro e w2 ⟨u2,rfl,IJ,bu⟩)
  | (go_at_call 204;refine (MN _ _ X Y _ (Ke.bS kj) (IJ.bS kj) (bG uw hj) (bG qN hk)).mono ?_;rintro e w3 ⟨r,rfl,aY,dH⟩;obtain⟨sg,pp,nn,cc,rfl⟩:=aY.form;obtain⟨e5,e6,g5,g6⟩:=(cN.bS (w':=w3) b3 kj).two)
  | fail)
 have FC:=(cN.bS (w':=w3) b3 kj);have FB:aD w w3:=kj;have FZ:aD w w2:=kj;have HO:=ag (aY.dv FC eL (.bool sg) (.slice pp nn cc));clear aY;have Kf:=FC.dv (.bool (sg)) (.slice pp (nn) cc);have Kg:=aD.dv FB (b:=w.heap.size+1+1) ae (.bool (sg)) (.slice pp (nn) cc);go_wp2
 generalize (w3.setCell ⟨w.heap.size+1+1,0,none⟩ (.bool (sg))).setCell ⟨w.heap.size+1+1,1,none⟩ (.slice pp (nn) cc)=wz at*;obtain⟨Kh,Ki,_,_⟩:=Kf.two;refine bodyPost_ret (v:=.agg #[.bool (sg),.slice pp (nn) cc]) (by simp[results,Tryz.results150,go_sem,Kh,Ki]) aa (dm.out _ _ ?_);exact⟨_,aa,HO.out.mono FZ.size,Kg⟩
theorem Yu (v u:Value) (X Y:Int) (j k:Nat) (w:World) (hv:cX w v X j) (hu:cX w u Y k) (hj:j<=1073741824) (hk:k<=1073741824):
  Calls Tryz.prog 145 #[v,u] w λe w'=>∃ r,e=.returned r/\aE w' w.heap.size r (X-Y)/\aD w w':=by
 obtain⟨s,p,n,c,rfl⟩:=hv.form;obtain⟨t,q,m,d,rfl⟩:=hu.form;refine bI λR' dm=> ?_;obtain⟨b1,b2,b3,rk⟩:=sP w 25 25 25 #[.bool s,.slice p n c] #[.bool t,.slice q m d] #[.bool false,.slice none 0 0];have uw:=hv.len;have qN:=hu.len;have HV:=ag hv;have HU:=ag hu;have hsz:w.heap.size+3<=(((w.alloc (.cells #[.bool s,.slice p n c] 25)).alloc (.cells #[.bool t,.slice q m d] 25)).alloc (.cells #[.bool false,.slice none 0 0] 25)).heap.size:=cZ;clear hv hu;go_enter Tryz.func145,Tryz.ntmps145
 go_wp2_with fail
 generalize ((w.alloc _).alloc _).alloc _=W at*;have HS:=ag (λw' (h:aH W (w.heap.size+1+1) w')=>And.intro (h.cells b1 ae) (h.cells b2 ae));obtain⟨c1,c2,_,_⟩:=b1.two;obtain⟨c3,c4,_,_⟩:=b2.two;obtain⟨c5,c6,f5,f6⟩:=b3.two
 go_region_held3 (λw'=>(w'.cell? ⟨w.heap.size,0,none⟩=some (.bool s)/\w'.cell? ⟨w.heap.size,1,none⟩=some (.slice p n c))/\w'.cell? ⟨w.heap.size+1,0,none⟩=some (.bool t)/\w'.cell? ⟨w.heap.size+1,1,none⟩=some (.slice q m d)) ((refine HS.out _ ?_;(with_reducible (repeat (first|exact aH.refl _ _|refine aH.drew ?_|refine aH.drewN ?_ _|refine aH.alloc ?_ _|refine aH.set ?_ _|refine aH.aN ?_ (by assumption)|refine aH.uQ ?_ (by first|omega|(simp;done)|(simp;omega)) _))))) (first
  | (go_at_call_of 144 (Value.slice p n c);refine (iE _ X j w _ HV.out kj).mono ?_;rintro e w1 ⟨u1,rfl,Ke,aU⟩)
  | (go_at_call_of 144 (Value.slice q m d);refine (iE _ Y k w _ HU.out kj).mono ?_;rintro e w2 ⟨u2,rfl,IJ,bu⟩)
  | (go_at_call 205;refine (EL _ Y _ (IJ.bS kj)).mono ?_;rintro e w4 ⟨u4,rfl,OD,gj⟩)
  | (go_at_call 204;refine (MN _ _ X (-Y) _ (Ke.bS kj) (OD.bS kj) (bG uw hj) (by rw[Int.natAbs_neg];exact bG qN hk)).mono ?_;rintro e w3 ⟨r,rfl,aY,dH⟩;obtain⟨sg,pp,nn,cc,rfl⟩:=aY.form;obtain⟨e5,e6,g5,g6⟩:=(cN.bS (w':=w3) b3 kj).two)
  | fail)
 rw[<-Int.sub_eq_add_neg] at aY;have FC:=(cN.bS (w':=w3) b3 kj);have FB:aD w w3:=kj;have FZ:aD w w4:=kj;have HO:=ag (aY.dv FC eL (.bool sg) (.slice pp nn cc));clear aY;have Kf:=FC.dv (.bool (sg)) (.slice pp (nn) cc);have Kg:=aD.dv FB (b:=w.heap.size+1+1) ae (.bool (sg)) (.slice pp (nn) cc);go_wp2
 generalize (w3.setCell ⟨w.heap.size+1+1,0,none⟩ (.bool (sg))).setCell ⟨w.heap.size+1+1,1,none⟩ (.slice pp (nn) cc)=wz at*;obtain⟨Kh,Ki,_,_⟩:=Kf.two;refine bodyPost_ret (v:=.agg #[.bool (sg),.slice pp (nn) cc]) (by simp[results,Tryz.results145,go_sem,Kh,Ki]) aa (dm.out _ _ ?_);exact⟨_,aa,HO.out.mono FZ.size,Kg⟩
def Sl (w W wc:World) (T:TypeId) (X Y:Int) (x y:Value):Prop:=∃ g h s1 p1 n1 k1 s2 p2 n2 k2,x=.pointer (some ⟨g,0,none⟩)/\y=.pointer (some ⟨h,0,none⟩)/\cN wc g T #[.bool s1,.slice p1 n1 k1]/\cN wc h T #[.bool s2,.slice p2 n2 k2]/\
 df w (.agg #[.bool s1,.slice p1 n1 k1]) X/\df w (.agg #[.bool s2,.slice p2 n2 k2]) Y/\aD W wc
theorem oX (v u:Value) (X Y:Int) (j k:Nat) (w:World) (hv:cX w v X j) (hu:cX w u Y k) (hj:j<=536870912) (hk:k<=536870912):
  Calls Tryz.prog 100 #[v,u] w λe w'=>∃ r,e=.returned r/\aE w' w.heap.size r (X*Y)/\aD w w':=by
 obtain⟨s,p,n,c,rfl⟩:=hv.form;obtain⟨t,q,m,d,rfl⟩:=hu.form;refine bI λR' dm=> ?_;obtain⟨b1,b2,b3,rk⟩:=sP w 25 25 25 #[.bool s,.slice p n c] #[.bool t,.slice q m d] #[.bool false,.slice none 0 0];have uw:=hv.len;have qN:=hu.len;have HV:=ag hv;have HU:=ag hu;have hsz:w.heap.size+3<=(((w.alloc (.cells #[.bool s,.slice p n c] 25)).alloc (.cells #[.bool t,.slice q m d] 25)).alloc (.cells #[.bool false,.slice none 0 0] 25)).heap.size:=cZ;clear hv hu;go_enter Bh,Tryz.ntmps100
 go_wp2_with fail
 generalize ((w.alloc _).alloc _).alloc _=W at*;have HS:=ag (λw' (h:aH W (w.heap.size+1+1) w')=>And.intro (h.cells b1 ae) (h.cells b2 ae));obtain⟨c1,c2,_,_⟩:=b1.two;obtain⟨c3,c4,_,_⟩:=b2.two;obtain⟨c5,c6,f5,f6⟩:=b3.two;go_cut [5,6] (λx5 x6 wc=>Sl w W wc 246 X Y x5 x6)
 case first=>
  go_region_held3 (λw'=>(w'.cell? ⟨w.heap.size,0,none⟩=some (.bool s)/\w'.cell? ⟨w.heap.size,1,none⟩=some (.slice p n c))/\w'.cell? ⟨w.heap.size+1,0,none⟩=some (.bool t)/\w'.cell? ⟨w.heap.size+1,1,none⟩=some (.slice q m d)) ((refine HS.out _ ?_;(with_reducible (repeat (first|exact aH.refl _ _|refine aH.drew ?_|refine aH.drewN ?_ _|refine aH.alloc ?_ _|refine aH.set ?_ _|refine aH.aN ?_ (by assumption)|refine aH.uQ ?_ (by first|omega|(simp;done)|(simp;omega)) _))))) (first
   | (go_at_call_of 144 (Value.slice p n c);refine (iE _ X j w _ HV.out kj).mono ?_;rintro e w1 ⟨u1,rfl,Ke,aU⟩;obtain⟨s1,p1,n1,k1,rfl⟩:=Ke.jj;have Cp:=aU.size;(try simp at Cp);(try (have q1:=cN.bS (cN.drew (cN.new _ _ #[_,_])) aU;(try simp at q1);obtain⟨q1a,q1b,q1c,q1d⟩:=q1.two;have q1l:=q1.lt;have q1n:=qa q1l;have q1m:=qd q1l));(try (have q2:=cN.bS (cN.drew (cN.alloc (cN.new _ _ #[_,_]) _)) aU;(try simp at q2);obtain⟨q2a,q2b,q2c,q2d⟩:=q2.two;have q2l:=q2.lt;have q2n:=qa q2l;have q2m:=qd q2l)))
   | (go_at_call_of 144 (Value.slice q m d);refine (iE _ Y k w _ HU.out kj).mono ?_;rintro e w2 ⟨u2,rfl,IJ,bu⟩;obtain⟨s2,p2,n2,k2,rfl⟩:=IJ.jj;have hs2:=bu.size;(try simp at hs2);(try (have q3:=cN.bS (cN.new _ _ #[_,_]) bu;(try simp at q3);obtain⟨q3a,q3b,q3c,q3d⟩:=q3.two;have q3l:=q3.lt;have q3n:=qa q3l;have q3m:=qd q3l));(try (have q4:=cN.bS (cN.alloc (cN.new _ _ #[_,_]) _) bu;(try simp at q4);obtain⟨q4a,q4b,q4c,q4d⟩:=q4.two;have q4l:=q4.lt;have q4n:=qa q4l;have q4m:=qd q4l));(try (have q5:=cN.bS q1 bu;(try simp at q5);obtain⟨q5a,q5b,q5c,q5d⟩:=q5.two;have q5l:=q5.lt;have q5n:=qa q5l;have q5m:=qd q5l));(try (have q6:=cN.bS q2 bu;(try simp at q6);obtain⟨q6a,q6b,q6c,q6d⟩:=q6.two;have q6l:=q6.lt;have q6n:=qa q6l;have q6m:=qd q6l));(try (have q7:=cN.bS (cN.alloc q1 _) bu;(try simp at q7);obtain⟨q7a,q7b,q7c,q7d⟩:=q7.two;have q7l:=q7.lt;have q7n:=qa q7l;have q7m:=qd q7l)))
   | fail)
  all_goals
   go_wp2
   go_meet
   refine⟨_,_,s1,p1,n1,k1,s2,p2,n2,k2,aa,aa,?_,?_,Ke,IJ,?_⟩
   ·(with_reducible (repeat (first|assumption|exact cN.newAt (by first|rfl|(simp;done)) _ _|refine cN.alloc ?_ _|refine cN.drew ?_|refine cN.dv (u:=.bool false) (v:=.slice none 0 0) ?_ _ _|refine cN.fS ?_ (by first|omega|(simp;omega)) _ _|refine cN.bS ?_ (by assumption))))
   ·(with_reducible (repeat (first|assumption|exact cN.newAt (by first|rfl|(simp;done)) _ _|refine cN.alloc ?_ _|refine cN.drew ?_|refine cN.dv (u:=.bool false) (v:=.slice none 0 0) ?_ _ _|refine cN.fS ?_ (by first|omega|(simp;omega)) _ _|refine cN.bS ?_ (by assumption))))
   ·exact kj
 case rest=>
  obtain⟨g,h,s1,p1,n1,k1,s2,p2,n2,k2,rfl,rfl,B5,B6,Ke,IJ,PN⟩:=hcut;obtain⟨TF,qj,hX⟩:=Ke.parts;obtain⟨EN,qk,hY⟩:=IJ.parts;have B3:=b3.bS PN;have pQ:aD w wc:=rk.aN PN;have HR1:=ag (qj.below pQ);have HR2:=ag (qk.below pQ);have HN1:=ag TF;have HN2:=ag EN;have HX:=ag hX;have HY:=ag hY;have hm1:n1<=536870912:=ae;have hm2:n2<=536870912:=ae;clear c1 c2 c3 c4 c5 c6 f5 f6 b1 b2 b3 PN rk Ke IJ qj qk hX hY TF EN HS;obtain⟨c1,c2,_,_⟩:=B5.two;obtain⟨c3,c4,_,_⟩:=B6.two;obtain⟨c5,c6,f5,f6⟩:=B3.two;have hg:g≠w.heap.size+1+1:=λe=>by subst e;have:=(show wc.heap[_]? =_ from B5).symm.trans B3;simp at this
  have hh:h≠w.heap.size+1+1:=λe=>by subst e;have:=(show wc.heap[_]? =_ from B6).symm.trans B3;simp at this
  have HS:=ag (λw' (hk:aH wc (w.heap.size+1+1) w')=>And.intro (hk.cells B5 hg) (hk.cells B6 hh));go_wp2_with fail
  go_region_held3 (λw'=>(w'.cell? ⟨g,0,none⟩=some (.bool s1)/\w'.cell? ⟨g,1,none⟩=some (.slice p1 n1 k1))/\w'.cell? ⟨h,0,none⟩=some (.bool s2)/\w'.cell? ⟨h,1,none⟩=some (.slice p2 n2 k2)) ((refine HS.out _ ?_;(with_reducible (repeat (first|exact aH.refl _ _|refine aH.drew ?_|refine aH.drewN ?_ _|refine aH.alloc ?_ _|refine aH.set ?_ _|refine aH.aN ?_ (by assumption)|refine aH.uQ ?_ (by first|omega|(simp;done)|(simp;omega)) _))))) (first
   | (go_at_call 167;refine (XF _ _ n1 n2 _ _ _ (HR1.out.below (aD.refl wc).drew) (HR2.out.below (aD.refl wc).drew) (aF _) (aF _) hm1 hm2).mono ?_;rintro e w1 ⟨v1,rfl,Av,aU⟩;replace aU:aD _ w1:=aU;rw[ax,ax] at Av;obtain⟨q1,l1,rfl,_,_,_⟩:=Own.form Av)
   | (go_at_call 146;refine (iY _ _ _ _ _).mono ?_;rintro e w3 ⟨sg,rfl,Dq,dH⟩;obtain⟨e5,e6,g5,g6⟩:=(cN.bS (w':=w3) B3 kj).two)
   | fail)
  have FC:=(cN.bS (w':=w3) B3 kj);have FB:aD w w3:=kj;generalize hL:(limbs (X.natAbs*Y.natAbs)).length=L at*;have HL:=ag hL;have HO:=ag (Own.dv (Own.below Av dH) FC eL (.bool sg) (.slice q1 L l1));clear Av hL;have Kf:=FC.dv (.bool (sg)) (.slice q1 (L) l1);have Kg:=aD.dv FB (b:=w.heap.size+1+1) ae (.bool (sg)) (.slice q1 (L) l1);go_wp2
  generalize (w3.setCell ⟨w.heap.size+1+1,0,none⟩ (.bool (sg))).setCell ⟨w.heap.size+1+1,1,none⟩ (.slice q1 (L) l1)=wz at*;obtain⟨Kh,Ki,_,_⟩:=Kf.two;refine bodyPost_ret (v:=.agg #[.bool (sg),.slice q1 (L) l1]) (by simp[results,Tryz.results100,go_sem,Kh,Ki]) aa (dm.out _ _ ?_);rw[Dq.out];refine⟨_,aa,aE.of (m:=X.natAbs*Y.natAbs) (by rw[HL.out];exact Own.mono HO.out pQ.size) HL.out.symm _ ?_,Kg⟩;rw[HX.out,HY.out];cases s1 <;> cases s2 <;> simp[Int.neg_mul,Int.mul_neg]
end
section
open Go.RowKit
theorem Aw (s:Bool) (p:Option Addr) (n c:Nat) (w:World):(Instr.field 246 (.agg #[.bool s,.slice p n c]) 0).run Tryz.prog w=.ok (.agg #[.bool s,.slice p n c]) w:=by kernel_rfl
theorem Ax (s:Bool) (p:Option Addr) (n c:Nat) (w:World):(Instr.field 25 (.agg #[.bool s,.slice p n c]) 1).run Tryz.prog w=.ok (.slice p n c) w:=by kernel_rfl
theorem MO (v:Value) (X:Int) (j:Nat) (w:World) (hv:cX w v X j) (hj:j<=1073741824):
  Calls Tryz.prog 165 #[v] w λe w'=>∃ r,e=.returned r/\aE w' w.heap.size r (-X)/\aD w w':=by
 obtain⟨s,p,n,c,rfl⟩:=hv.form;refine bI λR' dm=> ?_;obtain⟨b1,b2,rk⟩:=qS w 25 25 #[.bool s,.slice p n c] #[.bool false,.slice none 0 0];have uw:=hv.len;have HV:=ag hv;have hsz:w.heap.size+2<=((w.alloc (.cells #[.bool s,.slice p n c] 25)).alloc (.cells #[.bool false,.slice none 0 0] 25)).heap.size:=cZ;clear hv;go_enter Tryz.func165,Tryz.ntmps165
 go_wp2_with fail
 generalize (w.alloc _).alloc _=W at*;refine (iE _ X j w _ HV.out kj).mono ?_;rintro e w1 ⟨v1,rfl,Gs,aU⟩;go_wp2_with fail
 refine (EL _ X _ (Gs.bS kj)).mono ?_;rintro e w2 ⟨v2,rfl,hi2,bu⟩;obtain⟨s2,p2,n2,k2,rfl⟩:=hi2.jj;obtain⟨EN,qk,_⟩:=hi2.parts;have hm2:n2<=1073741824:=by rw[EN,Int.natAbs_neg];omega
 have HN2:=ag EN;have HI2:=ag hi2;have HR2:=ag qk;clear hi2 EN qk Gs;go_wp2_with fail
 have B5:=cN.new w2 246 #[.bool s2,.slice p2 n2 k2];have hbT:aD w2 (w2.alloc (.cells #[.bool s2,.slice p2 n2 k2] 246)):=(aD.refl w2).alloc _;have B2:=((b2.bS aU).bS bu).bS hbT;have hlt:=b2.lt;have Dc:=aU.size;have hbs2:=bu.size;have hne:w2.heap.size≠w.heap.size+1:=ae;generalize w2.alloc _=T at*;have HS:=ag (λw' (hk:aH T (w.heap.size+1) w')=>hk.cells B5 hne);obtain⟨c1,c2,_,_⟩:=B5.two;obtain⟨c5,c6,f5,f6⟩:=B2.two
 go_region_held3 (λw'=>w'.cell? ⟨w2.heap.size,0,none⟩=some (.bool s2)/\w'.cell? ⟨w2.heap.size,1,none⟩=some (.slice p2 n2 k2)) ((refine HS.out _ ?_;(with_reducible (repeat (first|exact aH.refl _ _|refine aH.drew ?_|refine aH.drewN ?_ _|refine aH.alloc ?_ _|refine aH.set ?_ _|refine aH.aN ?_ (by assumption)|refine aH.uQ ?_ (by first|omega|(simp;done)|(simp;omega)) _))))) (first
  | (go_at_call 151;refine (mr _ n2 _ _ (Rd.below (HR2.out.below hbT) (aD.refl T).drew) hm2).mono ?_;rintro e w3 ⟨v3,rfl,PM,dH⟩;replace dH:aD _ w3:=dH;obtain⟨q3,l3,rfl,_,_,_⟩:=Own.form PM;obtain⟨e5,e6,g5,g6⟩:=(cN.bS (w':=w3) B2 kj).two)
  | fail)
 have FC:=(cN.bS (w':=w3) B2 kj);have FB:aD w w3:=kj;have FT:aD w T:=kj;have HO:=ag (Own.dv PM FC eL (.bool s2) (.slice q3 n2 l3));clear PM;have Kf:=FC.dv (.bool (s2)) (.slice q3 (n2) l3);have Kg:=aD.dv FB (b:=w.heap.size+1) ae (.bool (s2)) (.slice q3 (n2) l3);go_wp2
 generalize (w3.setCell ⟨w.heap.size+1,0,none⟩ (.bool (s2))).setCell ⟨w.heap.size+1,1,none⟩ (.slice q3 (n2) l3)=wz at*;obtain⟨Kh,Ki,_,_⟩:=Kf.two;refine bodyPost_ret (v:=.agg #[.bool (s2),.slice q3 (n2) l3]) (by simp[results,Tryz.results165,go_sem,Kh,Ki]) aa (dm.out _ _ ?_);exact⟨_,aa,HI2.out.own (Own.mono HO.out FT.size),Kg⟩
set_option maxRecDepth 100000 in
theorem Yv (v:Value) (X:Int) (j:Nat) (w:World) (hv:cX w v X j) (hj:j<=1073741824):
  Calls Tryz.prog 166 #[v] w λe w'=>∃ r,e=.returned r/\aE w' w.heap.size r (X.natAbs:Int)/\aD w w':=by
 obtain⟨s,p,n,c,rfl⟩:=hv.form;refine bI λR' dm=> ?_;obtain⟨b1,b2,rk⟩:=qS w 25 25 #[.bool s,.slice p n c] #[.bool false,.slice none 0 0];have uw:=hv.len;have HV:=ag hv;clear hv;go_enter Tryz.func166,Tryz.ntmps166
 go_wp2_with fail
 generalize (w.alloc _).alloc _=W at*;refine (iE _ X j w _ HV.out kj).mono ?_;rintro e w1 ⟨v1,rfl,Gs,aU⟩;obtain⟨s2,p2,n2,k2,rfl⟩:=Gs.jj;obtain⟨EN,qk,_⟩:=Gs.parts;have hm2:n2<=1073741824:=by rw[EN];omega
 have HN2:=ag EN;have HR2:=ag qk;have pQ:aD w w1:=rk.aN aU;have hf1:=Aw s2 p2 n2 k2 w1;have hf2:=Ax s2 p2 n2 k2 w1;clear EN qk Gs;go_wp2_with fail
 refine (mr _ n2 _ _ (HR2.out.below pQ) hm2).mono ?_;rintro e w3 ⟨v3,rfl,PM,dH⟩;replace dH:aD _ w3:=dH;obtain⟨q3,l3,rfl,_,_,_⟩:=Own.form PM;have FC:=(cN.bS (w':=w3) b2 kj);have FB:aD w w3:=kj;have HO:=ag (Own.dv PM FC eL (.bool false) (.slice q3 n2 l3));obtain⟨e5,e6,g5,g6⟩:=FC.two;clear PM;have Kf:=FC.dv (.bool (false)) (.slice q3 (n2) l3);have Kg:=aD.dv FB (b:=w.heap.size+1) ae (.bool (false)) (.slice q3 (n2) l3);go_wp2
 generalize (w3.setCell ⟨w.heap.size+1,0,none⟩ (.bool (false))).setCell ⟨w.heap.size+1,1,none⟩ (.slice q3 (n2) l3)=wz at*;obtain⟨Kh,Ki,_,_⟩:=Kf.two;refine bodyPost_ret (v:=.agg #[.bool (false),.slice q3 (n2) l3]) (by simp[results,Tryz.results166,go_sem,Kh,Ki]) aa (dm.out _ _ ?_);exact⟨_,aa,aE.ofNat (Own.mono HO.out pQ.size) HN2.out,Kg⟩
theorem oq (v:Value) (X:Int) (j:Nat) (w:World) (hv:cX w v X j):
  Calls Tryz.prog 84 #[v] w λe w'=>e=.returned (.int .i64 X.sign)/\aD w w':=by
 obtain⟨s,p,n,c,rfl⟩:=hv.form;refine bI λR' dm=> ?_;have HV:=ag hv;have rk:=(aD.refl w).alloc (.cells #[.bool s,.slice p n c] 25);clear hv;go_enter Hy,Tryz.ntmps84
 go_wp2_with fail
 generalize w.alloc _=W at*;refine (iE _ X j w _ HV.out kj).mono ?_;rintro e w1 ⟨v1,rfl,Gs,aU⟩;obtain⟨s2,p2,n2,k2,rfl⟩:=Gs.jj;obtain⟨EN,_,hX⟩:=Gs.parts;have pQ:aD w w1:=rk.aN aU;have Dq:=Gs.TV;clear Gs;cases s2
 ·by_cases h0:X=0
  ·subst h0;have:n2=0:=by rw[EN];simp[de]
   subst this;clear EN hX Dq;go_wp2
   exact dm.out _ _ ⟨aa,pQ.alloc _⟩
  ·have hp:0<n2:=by rw[EN];exact fp ae
   have hs:X.sign=1:=fR (by simp at hX;omega);rw[hs] at dm;clear EN hX Dq;have hpi:(0:Int)<(n2:Int):=ae;go_wp2
   exact dm.out _ _ ⟨aa,pQ.alloc _⟩
 ·have hs:X.sign= -1:=sign_neg (nO Dq.symm);rw[hs] at dm;clear EN hX Dq;go_wp2
  exact dm.out _ _ ⟨aa,pQ.alloc _⟩
theorem rP (v u:Value) (X Y:Int) (j k:Nat) (w:World) (hv:cX w v X j) (hu:cX w u Y k) (hj:j<=1073741824) (hk:k<=1073741824):
  Calls Tryz.prog 85 #[v,u] w λe w'=>e=.returned (.int .i64 (X-Y).sign)/\aD w w':=by
 obtain⟨s,p,n,c,rfl⟩:=hv.form;obtain⟨t,q,m,d,rfl⟩:=hu.form;refine bI λR' dm=> ?_;obtain⟨b1,b2,rk⟩:=qS w 25 25 #[.bool s,.slice p n c] #[.bool t,.slice q m d];have HV:=ag (hv.bS rk);have HU:=ag (hu.bS rk);clear hv hu;go_enter DR,Tryz.ntmps85
 go_wp2_with fail
 generalize (w.alloc _).alloc _=W at*;refine (Yu _ _ X Y j k _ HV.out HU.out hj hk).mono ?_;rintro e w1 ⟨r,rfl,ho,aU⟩;go_wp2_with fail
 refine (oq _ (X-Y) _ _ (ho.rd.to (bl _))).mono ?_;rintro e w2 ⟨rfl,bu⟩;go_wp2
 exact dm.out _ _ ⟨aa,(rk.aN aU).aN bu⟩
theorem u64neg {n:Int} (h0:n<0) (h1: -9223372036854775808<=n):IntKind.u64.wrap (-(IntKind.u64.wrap n))=(n.natAbs:Int):=by
 rw[yx,yx];omega
theorem u64pos {n:Int} (h0:0<=n) (h1:n<=9223372036854775807):IntKind.u64.wrap n=(n.natAbs:Int):=by
 rw[yx];omega
theorem BL {a:Nat}:au [a%4294967296,a/4294967296]=a:=by
 rw[ia,ia,fQ];omega
set_option maxRecDepth 100000 in
theorem sX (n:Int) (w:World) (h0: -9223372036854775808<=n) (h1:n<=9223372036854775807):
  Calls Tryz.prog 88 #[.int .i64 n] w λe w'=>∃ r,e=.returned r/\aE w' w.heap.size r n/\aD w w':=by
 refine bI λR' dm=> ?_;obtain⟨a,ha⟩:∃ a,a=n.natAbs:=⟨_,aa⟩;have HA:=ag ha;have ha2:a<18446744073709551616:=ae;have rh:=cN.new w 25 #[.bool false,.slice none 0 0];have rk:=(aD.refl w).alloc (.cells #[.bool false,.slice none 0 0] 25);have hRl:=Rd.lit2 (w:=w.alloc (.cells #[.bool false,.slice none 0 0] 25)) (k:=.u32) (e:=78) (x:=(a:Int)%4294967296) (y:=(a:Int)/4294967296) (a:=a%4294967296) (b:=a/4294967296) ae ae;rw[World.size_alloc] at hRl;go_enter Bo,Tryz.ntmps88
 by_cases hn:n<0
 ·have e1:=u64neg hn h0;rw[<-ha] at e1;have HN:=ag hn;clear ha;go_wp2_with fail
  refine (na _ 2 [a%4294967296,a/4294967296] _ hRl (eB.cons ae (eB.cons ae eB.nil)) ae).mono ?_;rintro e w1 ⟨v1,rfl,Av,aU⟩;replace aU:aD _ w1:=aU;rw[BL] at Av;obtain⟨p1,k1,rfl,_,_,_⟩:=Own.form Av;generalize hL:(limbs a).length=L at*;have HL:=ag hL;have FC1:=(rh.alloc (.cells #[.int .u32 ((a:Int)%4294967296),.int .u32 ((a:Int)/4294967296)] 78)).bS aU;have FB1:aD w w1:=(((aD.refl w).alloc _).alloc _).aN aU;have xR:=ag Av;clear Av hL aU;go_wp2_with fail
  refine (iY _ _ _ _ _).mono ?_;rintro e w3 ⟨sg,rfl,Dq,dH⟩;have FC:=FC1.bS dH;have FB:=FB1.aN dH;obtain⟨e5,e6,g5,g6⟩:=FC.two;have HO:=ag (Own.dv (Own.below xR.out dH) FC eL (.bool sg) (.slice p1 L k1));clear xR FC1;have Kf:=FC.dv (.bool (sg)) (.slice p1 (L) k1);have Kg:=aD.dv FB (b:=w.heap.size) ae (.bool (sg)) (.slice p1 (L) k1);go_wp2
  generalize (w3.setCell ⟨w.heap.size,0,none⟩ (.bool (sg))).setCell ⟨w.heap.size,1,none⟩ (.slice p1 (L) k1)=wz at*;obtain⟨Kh,Ki,_,_⟩:=Kf.two;refine bodyPost_ret (v:=.agg #[.bool (sg),.slice p1 (L) k1]) (by simp[results,Tryz.results88,go_sem,Kh,Ki]) aa (dm.out _ _ ?_);rw[Dq.out];refine⟨_,aa,aE.of (m:=a) (by rw[HL.out];exact Own.mono HO.out (by simp;omega)) HL.out.symm _ ?_,Kg⟩;have:=HN.out;have:=HA.out;simp;omega
 ·have e1:=u64pos (by omega:0<=n) h1;rw[<-ha] at e1;have HN:=ag hn;clear ha;go_wp2_with fail
  refine (na _ 2 [a%4294967296,a/4294967296] _ hRl (eB.cons ae (eB.cons ae eB.nil)) ae).mono ?_;rintro e w1 ⟨v1,rfl,Av,aU⟩;replace aU:aD _ w1:=aU;rw[BL] at Av;obtain⟨p1,k1,rfl,_,_,_⟩:=Own.form Av;generalize hL:(limbs a).length=L at*;have HL:=ag hL;have FC1:=(rh.alloc (.cells #[.int .u32 ((a:Int)%4294967296),.int .u32 ((a:Int)/4294967296)] 78)).bS aU;have FB1:aD w w1:=(((aD.refl w).alloc _).alloc _).aN aU;have xR:=ag Av;clear Av hL aU;go_wp2_with fail
  refine (iY _ _ _ _ _).mono ?_;rintro e w3 ⟨sg,rfl,Dq,dH⟩;have FC:=FC1.bS dH;have FB:=FB1.aN dH;obtain⟨e5,e6,g5,g6⟩:=FC.two;have HO:=ag (Own.dv (Own.below xR.out dH) FC eL (.bool sg) (.slice p1 L k1));clear xR FC1;have Kf:=FC.dv (.bool (sg)) (.slice p1 (L) k1);have Kg:=aD.dv FB (b:=w.heap.size) ae (.bool (sg)) (.slice p1 (L) k1);go_wp2
  generalize (w3.setCell ⟨w.heap.size,0,none⟩ (.bool (sg))).setCell ⟨w.heap.size,1,none⟩ (.slice p1 (L) k1)=wz at*;obtain⟨Kh,Ki,_,_⟩:=Kf.two;refine bodyPost_ret (v:=.agg #[.bool (sg),.slice p1 (L) k1]) (by simp[results,Tryz.results88,go_sem,Kh,Ki]) aa (dm.out _ _ ?_);rw[Dq.out];refine⟨_,aa,aE.of (m:=a) (by rw[HL.out];exact Own.mono HO.out (by simp;omega)) HL.out.symm _ ?_,Kg⟩;have:=HN.out;have:=HA.out;simp;omega
end
section
open Go.RowKit
def xD (rows:List (List Nat)):Nat:=rows.foldl (λa r=>Nat.gcd a (au r)) 0
theorem Us (rows:List (List Nat)) (r:List Nat):xD (rows++[r])=Nat.gcd (xD rows) (au r):=by simp[xD,List.foldl_append]
theorem Yw {x y:Nat}:Nat.gcd y (x%y)=Nat.gcd x y:=by rw[Nat.gcd_comm,<-Nat.gcd_rec,Nat.gcd_comm]
def GcdOut (w:World) (B:Nat) (rows:List (List Nat)) (g:Nat) (av iv:Value) (wr:World):Prop:=
 ∃ k,k<=rows.length/\g=rows.length-k/\iv=.int .i64 (k:Int)/\wr.ownsRow B 78 1 av (limbs (xD (rows.take k))).length (ints .u32 (limbs (xD (rows.take k))))/\(limbs (xD (rows.take k))).length<=536870912/\Below B w wr
def GcdIn (w:World) (B G:Nat) (g:Nat) (av bv:Value) (wr:World):Prop:=
 ∃ x,Nat.gcd x g=G/\wr.ownsRow B 78 1 av (limbs x).length (ints .u32 (limbs x))/\wr.ownsRow B 78 1 bv (limbs g).length (ints .u32 (limbs g))/\(limbs x).length<=536870912/\(limbs g).length<=536870912/\Below B w wr
set_option maxRecDepth 100000 in
theorem Yx (va:Value) (rows:List (List Nat)) (w:World) (hr:lj w va rows) (hx:∀ xs∈rows,eB xs/\xs.length<=536870912) (hn:rows.length<=1048576):
  Calls Tryz.prog 147 #[va] w λe w'=>∃ v',e=.returned v'/\w'.ownsRow w.heap.size 78 1 v' (limbs (xD rows)).length (ints .u32 (limbs (xD rows)))/\Below w.heap.size w w':=by
 obtain⟨p,c,rfl,eS,gv⟩:=hr.form;have Hr:=ag hr;have HL:=ag hx;obtain⟨B,hB⟩:∃ B,B=w.heap.size:=⟨_,aa⟩;have HB:=ag hB;obtain⟨N,hN⟩:∃ N,N=rows.length:=⟨_,aa⟩;rw[<-hN] at eS hn ⊢;have HN:=ag hN;rw[<-hB];clear hx hr hB hN;refine bI λR' dm=> ?_;go_enter Tryz.func147,Tryz.ntmps147
 go_wp2
 go_loopg [3,11] N (λg av iv wr=>GcdOut w B rows g av iv wr)
 case atStart=>exact⟨0,eK _,by rw[HN.out];rfl,rfl,by simp[xD,de];exact oI _ _ _ _,by simp[xD,de],gY _ _⟩
 case round=>
  obtain⟨k,hk,hgk,rfl,aY,hlen,hb⟩:=hrel;have HO:=ag aY;have kc:=ag hb;have HGK:=ag hgk;have HLEN:=ag hlen;rw[<-HN.out] at hk;clear aY hb hgk hlen;by_cases yp:k<N
  ·obtain⟨b1,o1,u,xs,rfl,im,pO,hru⟩:=((Hr.out.below (by have:=kc.out;rwa [HB.out] at this)).at (k:=k) (by rw[<-HN.out];exact yp));have Dd:=ag im;have HRU:=ag hru;clear im hru;have Dc:B<=wr.heap.size:=by have:=kc.out.size;have:=HB.out;omega
   obtain⟨GA,OB⟩:=HL.out xs (dz Dd.out);obtain⟨a,ha⟩:∃ a,a=xD (rows.take k):=⟨_,aa⟩;obtain⟨y,hy⟩:∃ y,y=au xs:=⟨_,aa⟩;have si:(limbs y).length<=536870912:=by rw[hy];exact bG (lg GA) OB
   have HL1:=ag GA;have HL2:=ag OB;have HYL:=ag si;have HG:Hid (Nat.gcd a y=xD (rows.take (k+1))):=by show _=_;rw[dc Dd.out,Us,ha,hy]
   have HA:=ag ha;have HY:=ag hy;clear ha hy GA OB si;go_wp2_with fail
   refine (na _ _ xs _ HRU.out HL1.out (by have:=HL2.out;omega)).mono ?_;rintro e w2 ⟨v',rfl,oN,bu⟩;rw[<-HY.out] at oN;have Av:=Own.below HO.out bu;rw[<-HA.out] at Av;have xR:=ag Av;clear Av;have ug:=ag (Own.mono oN Dc);have Bx:=ag (kc.out.trans (bu.mono Dc));clear oN bu pO;go_wp2_with fail
   go_loopg [3,5] y (λg av bv wr=>GcdIn w B (Nat.gcd a y) g av bv wr)
   case atStart=>exact⟨a,aa,xR.out,ug.out,by rw[HA.out];exact HLEN.out,HYL.out,Bx.out⟩
   case round=>
    obtain⟨x,Eb,hox,hoy,uw,qN,pQ⟩:=hrel;have HXY:=ag Eb;have HOX:=ag hox;have HOY:=ag hoy;have HLX:=ag uw;have HLY:=ag qN;have HBX:=ag pQ;obtain⟨py,cy,rfl,_,_,_⟩:=Own.form hoy;clear Eb hox hoy uw qN pQ;by_cases Yy:gk=0
    ·subst Yy;have hl0:(limbs 0).length=0:=by rw[de];rfl
     rw[hl0];have hxg:x=xD (rows.take (k+1)):=by rw[<-HG.out,<-HXY.out,Nat.gcd_zero_right]
     have HXG:=ag hxg;clear hxg hl0;go_wp2_with fail
     go_roundg (N-(k+1))
     case measure=>have:=HGK.out;have:=HN.out;omega
     case rel=>exact⟨k+1,by rw[<-HN.out];omega,by rw[HN.out],by go_num,by rw[<-HXG.out];exact HOX.out,by rw[<-HXG.out];exact HLX.out,HBX.out⟩
    ·have hp:(0:Int)<((limbs gk).length:Int):=by have:=fp Yy;omega
     have HG0:=ag Yy;obtain⟨L,hL⟩:∃ L,L=(limbs gk).length:=⟨_,aa⟩;rw[<-hL] at hp ⊢;have HL:=ag hL;have Oz:B<=wr.heap.size:=by have:=HBX.out.size;have:=HB.out;omega
     clear Yy hL;go_wp2_with fail
     refine (Bw _ _ _ _ _ _ _ (Rd.own HOX.out) (by rw[HL.out];exact Rd.own HOY.out) (aF _) (aF _) HLX.out HLY.out).mono ?_;rintro e w3 ⟨⟨h,rfl⟩|⟨h,vq,vr,rfl,LZ,DY⟩,dH⟩
     ·exact absurd (by rw[ax] at h;exact h) HG0.out
     rw[ax,ax] at DY;have hlt:x%gk<gk:=fY _ (Nat.pos_iff_ne_zero.2 HG0.out);have HLT:=ag hlt;have HOR:=ag (Own.mono DY Oz);have HOG:=ag (Own.below HOY.out dH);have WI:=ag (HBX.out.trans (dH.mono Oz));clear LZ DY dH h hlt;go_wp2_with fail
     go_roundg (x%gk)
     case measure=>exact HLT.out
     case rel=>exact⟨gk,by rw[Yw];exact HXY.out,by rw[HL.out];exact HOG.out,HOR.out,HLY.out,bG (eN (Nat.le_of_lt HLT.out)) HLY.out,WI.out⟩
  ·obtain rfl:k=N:=by omega
   go_wp2_with fail
   refine (mr _ _ _ _ (Rd.own HO.out) (by have:=HLEN.out;omega)).mono ?_;rintro e w2 ⟨v',rfl,oN,bu⟩;have Dc:B<=wr.heap.size:=by have:=kc.out.size;have:=HB.out;omega
   go_wp2_with fail
   refine dm.out _ _ ⟨_,aa,?_,kc.out.trans (bu.mono Dc)⟩;have:=Own.mono oN Dc
   rwa [dM (by rw[HN.out];exact bl _)] at this
end
section
open Go.RowKit
theorem Yz (x y:Nat):xD [limbs x,limbs y]=Nat.gcd x y:=by simp[xD,ax]
set_option maxRecDepth 100000 in
theorem MP (v u:Value) (X Y:Int) (j k:Nat) (w:World) (hv:cX w v X j) (hu:cX w u Y k) (hj:j<=536870912) (hk:k<=536870912):
  Calls Tryz.prog 86 #[v,u] w λe w'=>∃ r,e=.returned r/\aE w' w.heap.size r (Int.gcd X Y:Int)/\aD w w':=by
 obtain⟨s,p,n,c,rfl⟩:=hv.form;obtain⟨t,q,m,d,rfl⟩:=hu.form;refine bI λR' dm=> ?_;obtain⟨b1,b2,b3,rk⟩:=sP w 25 25 25 #[.bool s,.slice p n c] #[.bool t,.slice q m d] #[.bool false,.slice none 0 0];have uw:=hv.len;have qN:=hu.len;have HJ:=ag (bG uw hj);have HK:=ag (bG qN hk);have HV:=ag hv;have HU:=ag hu;have hsz:w.heap.size+3<=(((w.alloc (.cells #[.bool s,.slice p n c] 25)).alloc (.cells #[.bool t,.slice q m d] 25)).alloc (.cells #[.bool false,.slice none 0 0] 25)).heap.size:=cZ;clear hv hu hj hk uw qN;go_enter Tryz.func86,Tryz.ntmps86
 go_wp2_with fail
 generalize ((w.alloc _).alloc _).alloc _=W at*;have HS:=ag (λw' (h:aH W (w.heap.size+1+1) w')=>And.intro (h.cells b1 ae) (h.cells b2 ae));obtain⟨c1,c2,_,_⟩:=b1.two;obtain⟨c3,c4,_,_⟩:=b2.two;obtain⟨c5,c6,f5,f6⟩:=b3.two
 go_region_held3 (λw'=>(w'.cell? ⟨w.heap.size,0,none⟩=some (.bool s)/\w'.cell? ⟨w.heap.size,1,none⟩=some (.slice p n c))/\w'.cell? ⟨w.heap.size+1,0,none⟩=some (.bool t)/\w'.cell? ⟨w.heap.size+1,1,none⟩=some (.slice q m d)) ((refine HS.out _ ?_;(with_reducible (repeat (first|exact aH.refl _ _|refine aH.drew ?_|refine aH.drewN ?_ _|refine aH.alloc ?_ _|refine aH.set ?_ _|refine aH.aN ?_ (by assumption)|refine aH.uQ ?_ (by first|omega|(simp;done)|(simp;omega)) _))))) (first
  | (go_at_call_of 144 (Value.slice p n c);refine (iE _ X j w _ HV.out kj).mono ?_;rintro e w1 ⟨u1,rfl,Ke,aU⟩;obtain⟨s1,p1,n1,k1,rfl⟩:=Ke.jj;have hf1:=Aw s1 p1 n1 k1;have hf2:=Ax s1 p1 n1 k1)
  | (go_at_call_of 144 (Value.slice q m d);refine (iE _ Y k w _ HU.out kj).mono ?_;rintro e w2 ⟨u2,rfl,IJ,bu⟩;obtain⟨s2,p2,n2,k2,rfl⟩:=IJ.jj;have hf3:=Aw s2 p2 n2 k2;have hf4:=Ax s2 p2 n2 k2;have HP1:=ag Ke.parts;have HP2:=ag IJ.parts)
  | (go_at_call 147;refine (Yx _ [limbs X.natAbs,limbs Y.natAbs] _ (lj.two (RQ aa) (by rw[<-HP1.out.1];exact HP1.out.2.1.below (by show aD _ _;exact kj)) (by rw[<-HP2.out.1];exact HP2.out.2.1.below (by show aD _ _;exact kj))) (λxs hx=>by rcases eD.1 hx with rfl|hx;exact⟨aF _,HJ.out⟩;obtain rfl:=ay.1 hx;exact⟨aF _,HK.out⟩) (by show 2<=1048576;omega)).mono ?_;rintro e w3 ⟨v3,rfl,PM,dH⟩;replace dH:aD _ w3:=dH;rw[Yz] at PM;obtain⟨p3,k3,rfl,_,_,_⟩:=Own.form PM)
  | (go_at_call 146;refine (iY _ _ _ _ _).mono ?_;rintro e w4 ⟨sg,rfl,Dq,gj⟩;obtain⟨e5,e6,g5,g6⟩:=(cN.bS (w':=w4) b3 kj).two)
  | fail)
 have FC:=(cN.bS (w':=w4) b3 kj);have FB:aD w w4:=kj;have FZ:aD w (w2.alloc (.cells #[.slice p1 n1 k1,.slice p2 n2 k2] 23)):=kj;generalize hL:(limbs (X.natAbs.gcd Y.natAbs)).length=L at*;have HL:=ag hL;have HO:=ag (Own.dv (Own.below PM gj) FC eL (.bool sg) (.slice p3 L k3));clear PM hL;have Kf:=FC.dv (.bool (sg)) (.slice p3 (L) k3);have Kg:=aD.dv FB (b:=w.heap.size+1+1) ae (.bool (sg)) (.slice p3 (L) k3);go_wp2
 generalize (w4.setCell ⟨w.heap.size+1+1,0,none⟩ (.bool (sg))).setCell ⟨w.heap.size+1+1,1,none⟩ (.slice p3 (L) k3)=wz at*;obtain⟨Kh,Ki,_,_⟩:=Kf.two;refine bodyPost_ret (v:=.agg #[.bool (sg),.slice p3 (L) k3]) (by simp[results,Tryz.results86,go_sem,Kh,Ki]) aa (dm.out _ _ ?_);rw[Dq.out];refine⟨_,aa,aE.of (m:=X.natAbs.gcd Y.natAbs) (by rw[HL.out];exact Own.mono HO.out FZ.size) HL.out.symm _ ?_,Kg⟩;simp[Int.gcd]
end
section
open Go.RowKit
theorem boxes4 (w:World) (t t' OA t3:TypeId) (cs jU wj cs3:Array Value):cN ((((w.alloc (.cells cs t)).alloc (.cells jU t')).alloc (.cells wj OA)).alloc (.cells cs3 t3)) w.heap.size t cs/\cN ((((w.alloc (.cells cs t)).alloc (.cells jU t')).alloc (.cells wj OA)).alloc (.cells cs3 t3)) (w.heap.size+1) t' jU/\
  cN ((((w.alloc (.cells cs t)).alloc (.cells jU t')).alloc (.cells wj OA)).alloc (.cells cs3 t3)) (w.heap.size+2) OA wj/\cN ((((w.alloc (.cells cs t)).alloc (.cells jU t')).alloc (.cells wj OA)).alloc (.cells cs3 t3)) (w.heap.size+3) t3 cs3/\
  aD w ((((w.alloc (.cells cs t)).alloc (.cells jU t')).alloc (.cells wj OA)).alloc (.cells cs3 t3)):=
 ⟨(sP w t t' OA cs jU wj).1.alloc _,(sP w t t' OA cs jU wj).2.1.alloc _,(sP w t t' OA cs jU wj).2.2.1.alloc _,cN.newAt cZ _ _,(sP w t t' OA cs jU wj).2.2.2.alloc _⟩
def EO (w w':World) (X Y:Int) (e:Ending):Prop:=
 (Y=0/\∃ v u,e=.returned (.tuple #[v,u,.int .i64 20])/\aE w' w.heap.size v 0/\aE w' w.heap.size u 0)\/
 (Y≠0/\∃ v u,e=.returned (.tuple #[v,u,.int .i64 0])/\aE w' w.heap.size v (X.fdiv Y)/\aE w' w.heap.size u (X.fmod Y))
def YA (a b:Nat) (s t:Bool) (M R:Nat):Prop:=((s=t\/a%b=0)/\M=a/b/\R=a%b)\/(s≠t/\a%b≠0/\M=a/b+1/\R=b-a%b)
theorem vR {X Y:Int} {a b M R:Nat} {s t:Bool} (hX:X=if s=true then-(a:Int) else a) (hY:Y=if t=true then-(b:Int) else b) (hb:b≠0) (h:YA a b s t M R):
  X.fdiv Y=(if (!(s == t))=true then-(M:Int) else M)/\X.fmod Y=(if t=true then-(R:Int) else R):=by
 unfold YA at h;have e:=Ho a b;have hlt:=fY a (Nat.pos_of_ne_zero hb);generalize a/b=q at*;generalize a%b=r at*;have e':(a:Int)=(b:Int)*(q:Int)+(r:Int):=by rw[<-e];simp
 rw[e'] at hX;have hR:R<=b:=by rcases h with ⟨_,_,rfl⟩|⟨_,_,_,rfl⟩ <;> omega
 cases t
 ·have hp:0<Y:=by simp at hY;omega
  refine (Int.fdiv_fmod_unique hp).2 ?_;rcases h with ⟨h1,rfl,rfl⟩|⟨h1,h2,rfl,rfl⟩
  ·cases s
   ·simp at hX hY ⊢;subst hX;subst hY;omega
   ·simp at h1 hX hY ⊢;subst hX;subst hY;subst h1;simp only[Int.mul_neg];omega
  ·cases s
   ·exact absurd aa h1
   ·simp at hX hY ⊢;subst hX;subst hY;rw[Int.natCast_sub ae];simp only[Int.mul_add,Int.mul_neg,Int.mul_one,Int.neg_add];omega
 ·have hp:Y<0:=by simp at hY;omega
  refine (Int.fdiv_fmod_unique' hp).2 ?_;rcases h with ⟨h1,rfl,rfl⟩|⟨h1,h2,rfl,rfl⟩
  ·cases s
   ·simp at h1 hX hY ⊢;subst hX;subst hY;subst h1;simp only[Int.neg_mul_neg];omega
   ·simp at hX hY ⊢;subst hX;subst hY;simp only[Int.neg_mul];omega
  ·cases s
   ·simp at hX hY ⊢;subst hX;subst hY;rw[Int.natCast_sub ae];simp only[Int.mul_add,Int.neg_mul,Int.mul_neg,Int.mul_one,Int.neg_add,Int.neg_neg];omega
   ·exact absurd aa h1
set_option maxRecDepth 100000 in
theorem nr (v u:Value) (X Y:Int) (j k:Nat) (w:World) (hv:cX w v X j) (hu:cX w u Y k) (hj:j<=536870912) (hk:k<=536870912):
  Calls Tryz.prog 208 #[v,u] w λe w'=>EO w w' X Y e/\aD w w':=by
 obtain⟨s,p,n,c,rfl⟩:=hv.form;obtain⟨t,q,m,d,rfl⟩:=hu.form;refine bI λR' dm=> ?_;obtain⟨b1,b2,b3,b4,rk⟩:=boxes4 w 25 25 25 25 #[.bool s,.slice p n c] #[.bool t,.slice q m d] #[.bool false,.slice none 0 0] #[.bool false,.slice none 0 0];have uw:=hv.len;have qN:=hu.len;have HJ:=ag (bG uw hj);have HK:=ag (bG qN hk);have HV:=ag hv;have HU:=ag hu;have hsz:w.heap.size+4<=((((w.alloc (.cells #[.bool s,.slice p n c] 25)).alloc (.cells #[.bool t,.slice q m d] 25)).alloc (.cells #[.bool false,.slice none 0 0] 25)).alloc (.cells #[.bool false,.slice none 0 0] 25)).heap.size:=cZ;clear hv hu hj hk uw qN;go_enter Hu,Tryz.ntmps208
 go_wp2_with fail
 generalize (((w.alloc _).alloc _).alloc _).alloc _=W at*;go_cut [7,8] (λx5 x6 wc=>Sl w W wc 246 X Y x5 x6)
 case first=>
  have HS:=ag (λw' (h:aH W (w.heap.size+1+1) w')=>And.intro (h.cells b1 ae) (h.cells b2 ae));obtain⟨c1,c2,_,_⟩:=b1.two;obtain⟨c3,c4,_,_⟩:=b2.two
  go_region_held3 (λw'=>(w'.cell? ⟨w.heap.size,0,none⟩=some (.bool s)/\w'.cell? ⟨w.heap.size,1,none⟩=some (.slice p n c))/\w'.cell? ⟨w.heap.size+1,0,none⟩=some (.bool t)/\w'.cell? ⟨w.heap.size+1,1,none⟩=some (.slice q m d)) ((refine HS.out _ ?_;(with_reducible (repeat (first|exact aH.refl _ _|refine aH.drew ?_|refine aH.drewN ?_ _|refine aH.alloc ?_ _|refine aH.set ?_ _|refine aH.aN ?_ (by assumption)|refine aH.uQ ?_ (by first|omega|(simp;done)|(simp;omega)) _))))) (first
   | (go_at_call_of 144 (Value.slice p n c);refine (iE _ X j w _ HV.out kj).mono ?_;rintro e w1 ⟨u1,rfl,Ke,aU⟩;obtain⟨s1,p1,n1,k1,rfl⟩:=Ke.jj;have Cp:=aU.size;(try simp at Cp);(try (have q1:=cN.bS (cN.drew (cN.new _ _ #[_,_])) aU;(try simp at q1);obtain⟨q1a,q1b,q1c,q1d⟩:=q1.two;have q1l:=q1.lt;have q1n:=qa q1l;have q1m:=qd q1l));(try (have q2:=cN.bS (cN.drew (cN.alloc (cN.new _ _ #[_,_]) _)) aU;(try simp at q2);obtain⟨q2a,q2b,q2c,q2d⟩:=q2.two;have q2l:=q2.lt;have q2n:=qa q2l;have q2m:=qd q2l)))
   | (go_at_call_of 144 (Value.slice q m d);refine (iE _ Y k w _ HU.out kj).mono ?_;rintro e w2 ⟨u2,rfl,IJ,bu⟩;obtain⟨s2,p2,n2,k2,rfl⟩:=IJ.jj;have hs2:=bu.size;(try simp at hs2);(try (have q3:=cN.bS (cN.new _ _ #[_,_]) bu;(try simp at q3);obtain⟨q3a,q3b,q3c,q3d⟩:=q3.two;have q3l:=q3.lt;have q3n:=qa q3l;have q3m:=qd q3l));(try (have q4:=cN.bS (cN.alloc (cN.new _ _ #[_,_]) _) bu;(try simp at q4);obtain⟨q4a,q4b,q4c,q4d⟩:=q4.two;have q4l:=q4.lt;have q4n:=qa q4l;have q4m:=qd q4l));(try (have q5:=cN.bS q1 bu;(try simp at q5);obtain⟨q5a,q5b,q5c,q5d⟩:=q5.two;have q5l:=q5.lt;have q5n:=qa q5l;have q5m:=qd q5l));(try (have q6:=cN.bS q2 bu;(try simp at q6);obtain⟨q6a,q6b,q6c,q6d⟩:=q6.two;have q6l:=q6.lt;have q6n:=qa q6l;have q6m:=qd q6l));(try (have q7:=cN.bS (cN.alloc q1 _) bu;(try simp at q7);obtain⟨q7a,q7b,q7c,q7d⟩:=q7.two;have q7l:=q7.lt;have q7n:=qa q7l;have q7m:=qd q7l)))
   | fail)
  all_goals
   go_wp2
   go_meet
   refine⟨_,_,s1,p1,n1,k1,s2,p2,n2,k2,aa,aa,?_,?_,Ke,IJ,?_⟩
   ·(with_reducible (repeat (first|assumption|exact cN.newAt (by first|rfl|(simp;done)) _ _|refine cN.alloc ?_ _|refine cN.drew ?_|refine cN.dv (u:=.bool false) (v:=.slice none 0 0) ?_ _ _|refine cN.fS ?_ (by first|omega|(simp;omega)) _ _|refine cN.bS ?_ (by assumption))))
   ·(with_reducible (repeat (first|assumption|exact cN.newAt (by first|rfl|(simp;done)) _ _|refine cN.alloc ?_ _|refine cN.drew ?_|refine cN.dv (u:=.bool false) (v:=.slice none 0 0) ?_ _ _|refine cN.fS ?_ (by first|omega|(simp;omega)) _ _|refine cN.bS ?_ (by assumption))))
   ·exact kj
 case rest=>
  obtain⟨g,h,s1,p1,n1,k1,s2,p2,n2,k2,rfl,rfl,B5,B6,Ke,IJ,PN⟩:=hcut;obtain⟨TF,qj,hX⟩:=Ke.parts;obtain⟨EN,qk,hY⟩:=IJ.parts;have B3:=b3.bS PN;have B4:=b4.bS PN;have pQ:aD w wc:=rk.aN PN;have HR1:=ag (qj.below pQ);have HR2:=ag (qk.below pQ);have HN1:=ag TF;have HN2:=ag EN;have HX:=ag hX;have HY:=ag hY;have HM1:Hid (n1<=536870912):=by show _<=_;rw[TF];exact HJ.out
  have HM2:Hid (n2<=536870912):=by show _<=_;rw[EN];exact HK.out
  have WG:w.heap.size+4<=wc.heap.size:=bG hsz PN.size;clear b1 b2 b3 b4 PN rk Ke IJ qj qk hX hY TF EN hsz;obtain⟨c1,c2,_,_⟩:=B5.two;obtain⟨c3,c4,_,_⟩:=B6.two;go_wp2_with fail
  refine (Bw _ _ n1 n2 _ _ _ HR1.out HR2.out (aF _) (aF _) HM1.out HM2.out).mono ?_;rw[ax,ax];rintro e w3 ⟨hd,dH⟩;replace dH:aD _ w3:=dH;have F5:=B5.bS dH;have F6:=B6.bS dH;have F3:=B3.bS dH;have F4:=B4.bS dH;have hbw3:=pQ.aN dH;obtain⟨e1,e2,_,_⟩:=F5.two;obtain⟨e3,e4,_,_⟩:=F6.two;obtain⟨e5,e6,f5,f6⟩:=F3.two;obtain⟨e7,e8,f7,f8⟩:=F4.two;rcases hd with ⟨h0,rfl⟩|⟨h0,vq,vr,rfl,LZ,DY⟩
  ·have hY0:Y=0:=by have:=HY.out;split at this <;> omega
   have G3:=(F3.dv (.bool false) (.slice none 0 0)).fS (b':=w.heap.size+3) ae (.bool false) (.slice none 0 0);have G4:=(F4.fS (b':=w.heap.size+2) ae (.bool false) (.slice none 0 0)).dv (.bool false) (.slice none 0 0);have hbz:=(hbw3.dv (b:=w.heap.size+2) ae (.bool false) (.slice none 0 0)).dv (b:=w.heap.size+3) ae (.bool false) (.slice none 0 0);clear HX HY HN1 HN2 h0;go_wp2
   generalize (((w3.setCell ⟨w.heap.size+1+1,0,none⟩ (.bool false)).setCell ⟨w.heap.size+1+1,1,none⟩ (.slice none 0 0)).setCell ⟨w.heap.size+1+1+1,0,none⟩ (.bool false)).setCell ⟨w.heap.size+1+1+1,1,none⟩ (.slice none 0 0)=wz at*;obtain⟨d1,d2,_,_⟩:=G3.two;obtain⟨d3,d4,_,_⟩:=G4.two;exact bodyPost_ret (v:=.tuple #[.agg #[.bool false,.slice none 0 0],.agg #[.bool false,.slice none 0 0],.int .i64 20]) (by simp[results,Tryz.results208,go_sem,d1,d2,d3,d4]) aa (dm.out _ _ ⟨.inl ⟨hY0,_,_,aa,aE.zero _ _,aE.zero _ _⟩,hbz⟩)
  ·obtain⟨pq,kq,rfl,_,_,_⟩:=Own.form LZ;obtain⟨pr,kr,rfl,_,_,_⟩:=Own.form DY;generalize hlq:(limbs (X.natAbs/Y.natAbs)).length=lq at*;generalize Ow:(limbs (X.natAbs%Y.natAbs)).length=lr at*;have HLQ:=ag hlq.symm;have WH:=ag Ow.symm;have HOQ:=ag LZ;have HOR:=ag DY;have H0:=ag h0;clear LZ DY hlq Ow h0 e2 e6 e8 e5 e7 f5 f6 f7 f8 c1 c2 c3 c4;by_cases hst:s1=s2
   ·subst hst;clear e4;go_wp2_with fail
    have hg3:g≠w.heap.size+1+1:=cN.apart F5 F3 eL;have GC:g≠w.heap.size+1+1+1:=cN.apart F5 F4 eL;have hh3:h≠w.heap.size+1+1:=cN.apart F6 F3 eL;have hh4:h≠w.heap.size+1+1+1:=cN.apart F6 F4 eL;have HS:=ag (λw' (hk:cd w3 (w.heap.size+1+1) (w.heap.size+1+1+1) w')=>And.intro ((hk.cls F5 hg3 GC).cell (j:=0) aa) ((hk.cls F6 hh3 hh4).cell (j:=0) aa))
    go_region_held3 (λw'=>w'.cell? ⟨g,0,none⟩=some (.bool s1)/\w'.cell? ⟨h,0,none⟩=some (.bool s1)) ((refine HS.out _ ?_;(with_reducible (repeat (first|exact cd.refl _ _ _|refine cd.drew ?_|refine cd.XQ ?_ _|refine cd.sQ ?_ _|refine cd.aN ?_ (by assumption)))))) (first
     | (go_at_call_of 146 (Value.slice pq lq kq);refine (iY _ _ _ _ _).mono ?_;rintro e w6 ⟨sg,rfl,Dq,oY⟩)
     | (go_at_call_of 146 (Value.slice pr lr kr);refine (iY _ _ _ _ _).mono ?_;rintro e w7 ⟨EP,rfl,YB,ER⟩;obtain⟨i1,i2,i3,i4⟩:=(cN.bS (w':=w7) F3 kj).two;obtain⟨j1,j2,j3,j4⟩:=(cN.bS (w':=w7) F4 kj).two)
     | fail)
    have E3:=(cN.bS (w':=w7) F3 kj);have E4:=(cN.bS (w':=w7) F4 kj);have FW:aD w3 w7:=kj;have FB:aD w w7:=kj;have LZ:=Own.below (HOQ).out FW;have DY:=Own.below (HOR).out FW;have MQ:=(Own.dv (Own.dv LZ E3 eL (.bool sg) (.slice pq lq kq)) (E4.fS (b':=w.heap.size+1+1) ae (.bool sg) (.slice pq lq kq)) eL (.bool EP) (.slice pr lr kr));have MR:=(Own.dv (Own.dv DY E3 eL (.bool sg) (.slice pq lq kq)) (E4.fS (b':=w.heap.size+1+1) ae (.bool sg) (.slice pq lq kq)) eL (.bool EP) (.slice pr lr kr));have G3:=(E3.dv (.bool sg) (.slice pq lq kq)).fS (b':=w.heap.size+1+1+1) ae (.bool EP) (.slice pr lr kr);have G4:=(E4.fS (b':=w.heap.size+1+1) ae (.bool sg) (.slice pq lq kq)).dv (.bool EP) (.slice pr lr kr);have hbz:=(FB.dv (b:=w.heap.size+1+1) ae (.bool sg) (.slice pq lq kq)).dv (b:=w.heap.size+1+1+1) ae (.bool EP) (.slice pr lr kr);have YC:=ag MQ;have YD:=ag MR;clear LZ DY MQ MR;go_wp2
    generalize (((w7.setCell ⟨w.heap.size+1+1,0,none⟩ (.bool sg)).setCell ⟨w.heap.size+1+1,1,none⟩ (.slice pq lq kq)).setCell ⟨w.heap.size+1+1+1,0,none⟩ (.bool EP)).setCell ⟨w.heap.size+1+1+1,1,none⟩ (.slice pr lr kr)=wz at*;obtain⟨d1,d2,_,_⟩:=G3.two;obtain⟨d3,d4,_,_⟩:=G4.two;have zZ:=vR HX.out HY.out H0.out (.inl ⟨.inl aa,aa,aa⟩);refine bodyPost_ret (v:=.tuple #[.agg #[.bool sg,.slice pq lq kq],.agg #[.bool EP,.slice pr lr kr],.int .i64 0]) (by simp[results,Tryz.results208,go_sem,d1,d2,d3,d4]) aa (dm.out _ _ ⟨.inr ⟨by have:=H0.out;omega,_,_,rfl,?_,?_⟩,hbz⟩)
    ·rw[Dq.out];exact aE.of (by rw[<-(HLQ).out];exact Own.mono YC.out pQ.size) (HLQ).out _ (by simpa using zZ.1)
    ·rw[YB.out];exact aE.of (by rw[<-(WH).out];exact Own.mono YD.out pQ.size) (WH).out _ (by simpa using zZ.2)
   ·obtain rfl:s2= !s1:=by cases s1 <;> cases s2 <;> simp_all
    by_cases Gr:X.natAbs%Y.natAbs=0
    ·have hl0:lr=0:=by have:=WH.out;rw[Gr,de] at this;exact this
     have HR0:=ag Gr;subst hl0;clear Gr hst e4;go_wp2_with fail
     have hg3:g≠w.heap.size+1+1:=cN.apart F5 F3 eL;have GC:g≠w.heap.size+1+1+1:=cN.apart F5 F4 eL;have hh3:h≠w.heap.size+1+1:=cN.apart F6 F3 eL;have hh4:h≠w.heap.size+1+1+1:=cN.apart F6 F4 eL;have HS:=ag (λw' (hk:cd w3 (w.heap.size+1+1) (w.heap.size+1+1+1) w')=>And.intro ((hk.cls F5 hg3 GC).cell (j:=0) aa) ((hk.cls F6 hh3 hh4).cell (j:=0) aa))
     go_region_held3 (λw'=>w'.cell? ⟨g,0,none⟩=some (.bool s1)/\w'.cell? ⟨h,0,none⟩=some (.bool (!s1))) ((refine HS.out _ ?_;(with_reducible (repeat (first|exact cd.refl _ _ _|refine cd.drew ?_|refine cd.XQ ?_ _|refine cd.sQ ?_ _|refine cd.aN ?_ (by assumption)))))) (first
      | (go_at_call_of 146 (Value.slice pq lq kq);refine (iY _ _ _ _ _).mono ?_;rintro e w6 ⟨sg,rfl,Dq,oY⟩)
      | (go_at_call_of 146 (Value.slice pr 0 kr);refine (iY _ _ _ _ _).mono ?_;rintro e w7 ⟨EP,rfl,YB,ER⟩;obtain⟨i1,i2,i3,i4⟩:=(cN.bS (w':=w7) F3 kj).two;obtain⟨j1,j2,j3,j4⟩:=(cN.bS (w':=w7) F4 kj).two)
      | fail)
     have E3:=(cN.bS (w':=w7) F3 kj);have E4:=(cN.bS (w':=w7) F4 kj);have FW:aD w3 w7:=kj;have FB:aD w w7:=kj;have LZ:=Own.below (HOQ).out FW;have DY:=Own.below (HOR).out FW;have MQ:=(Own.dv (Own.dv LZ E3 eL (.bool sg) (.slice pq lq kq)) (E4.fS (b':=w.heap.size+1+1) ae (.bool sg) (.slice pq lq kq)) eL (.bool EP) (.slice pr 0 kr));have MR:=(Own.dv (Own.dv DY E3 eL (.bool sg) (.slice pq lq kq)) (E4.fS (b':=w.heap.size+1+1) ae (.bool sg) (.slice pq lq kq)) eL (.bool EP) (.slice pr 0 kr));have G3:=(E3.dv (.bool sg) (.slice pq lq kq)).fS (b':=w.heap.size+1+1+1) ae (.bool EP) (.slice pr 0 kr);have G4:=(E4.fS (b':=w.heap.size+1+1) ae (.bool sg) (.slice pq lq kq)).dv (.bool EP) (.slice pr 0 kr);have hbz:=(FB.dv (b:=w.heap.size+1+1) ae (.bool sg) (.slice pq lq kq)).dv (b:=w.heap.size+1+1+1) ae (.bool EP) (.slice pr 0 kr);have YC:=ag MQ;have YD:=ag MR;clear LZ DY MQ MR;go_wp2
     generalize (((w7.setCell ⟨w.heap.size+1+1,0,none⟩ (.bool sg)).setCell ⟨w.heap.size+1+1,1,none⟩ (.slice pq lq kq)).setCell ⟨w.heap.size+1+1+1,0,none⟩ (.bool EP)).setCell ⟨w.heap.size+1+1+1,1,none⟩ (.slice pr 0 kr)=wz at*;obtain⟨d1,d2,_,_⟩:=G3.two;obtain⟨d3,d4,_,_⟩:=G4.two;have zZ:=vR HX.out HY.out H0.out (.inl ⟨.inr HR0.out,aa,aa⟩);refine bodyPost_ret (v:=.tuple #[.agg #[.bool sg,.slice pq lq kq],.agg #[.bool EP,.slice pr 0 kr],.int .i64 0]) (by simp[results,Tryz.results208,go_sem,d1,d2,d3,d4]) aa (dm.out _ _ ⟨.inr ⟨by have:=H0.out;omega,_,_,rfl,?_,?_⟩,hbz⟩)
     ·rw[Dq.out];exact aE.of (by rw[<-(HLQ).out];exact Own.mono YC.out pQ.size) (HLQ).out _ (by simpa using zZ.1)
     ·rw[YB.out];exact aE.of (by rw[<-(WH).out];exact Own.mono YD.out pQ.size) (WH).out _ (by simpa using zZ.2)
    ·have hlp:0<lr:=by have:=WH.out;have:=fp Gr;omega
     have hpi:(0:Int)<(lr:Int):=ae;have HR0:=ag Gr;have XD:Hid (lq<=536870912):=by show _<=_;rw[HLQ.out];exact bG (eN (Lt _ _)) HJ.out
     clear Gr hst;go_wp2_with fail
     refine (RP _ _ lq 1 _ [1] _ ((Rd.own HOQ.out).alloc _) (Rd.lit1 aa) (aF _) (eB.cons ae eB.nil) (by have:=XD.out;omega) ae).mono ?_;rintro e w4 ⟨v4,rfl,ho4,gj⟩;replace gj:aD _ w4:=gj;rw[ax,show au [1]=1 by rfl] at ho4;obtain⟨pm,cm,rfl,_,_,_⟩:=Own.form ho4;generalize hnm:(limbs (X.natAbs/Y.natAbs+1)).length=nm at*;have Xw:=ag hnm.symm;have MS:aD w3 w4:=((aD.refl w3).alloc _).aN gj;have TT:=ag (Own.mono ho4 (show w3.heap.size<=_ by simp));have HOR4:=ag (Own.below HOR.out MS);have HY4:=ag (HR2.out.below (dH.aN MS));obtain⟨i1,i2,_,_⟩:=(F6.bS MS).two;clear ho4 hnm gj;go_wp2_with fail
     refine (JM _ _ n2 lr _ _ _ HY4.out (Rd.own HOR4.out) (aF _) (aF _) (by have:=HM2.out;omega)).mono ?_;rintro e w5 ⟨⟨h,_⟩|⟨_,v5,rfl,ho5⟩,je⟩
     ·rw[ax,ax] at h;exact absurd h (by have:=fY X.natAbs (Nat.pos_of_ne_zero H0.out);omega)
     replace je:aD _ w5:=je;rw[ax,ax] at ho5;obtain⟨pn,cn,rfl,_,_,_⟩:=Own.form ho5;generalize hnn:(limbs (Y.natAbs-X.natAbs%Y.natAbs)).length=nn at*;have HLN:=ag hnn.symm;have Kj:aD w3 w5:=MS.aN je;have HOM:=ag (Own.mono (Own.below TT.out je) dH.size);have HON:=ag (Own.mono ho5 (bG dH.size MS.size));have T3:=F3.bS Kj;have T4:=F4.bS Kj;have T5:=F5.bS Kj;have T6:=F6.bS Kj;have hbw5:=hbw3.aN Kj;clear ho5 hnn je F3 F4 F5 F6 MS Kj dH hbw3 HOQ HOR TT HOR4 HY4 i1 i2;obtain⟨e1,_,_,_⟩:=T5.two;obtain⟨e3,_,_,_⟩:=T6.two;go_wp2_with fail
     have hg3:g≠w.heap.size+1+1:=cN.apart T5 T3 eL;have GC:g≠w.heap.size+1+1+1:=cN.apart T5 T4 eL;have hh3:h≠w.heap.size+1+1:=cN.apart T6 T3 eL;have hh4:h≠w.heap.size+1+1+1:=cN.apart T6 T4 eL;have HS:=ag (λw' (hk:cd w5 (w.heap.size+1+1) (w.heap.size+1+1+1) w')=>And.intro ((hk.cls T5 hg3 GC).cell (j:=0) aa) ((hk.cls T6 hh3 hh4).cell (j:=0) aa))
     go_region_held3 (λw'=>w'.cell? ⟨g,0,none⟩=some (.bool s1)/\w'.cell? ⟨h,0,none⟩=some (.bool (!s1))) ((refine HS.out _ ?_;(with_reducible (repeat (first|exact cd.refl _ _ _|refine cd.drew ?_|refine cd.XQ ?_ _|refine cd.sQ ?_ _|refine cd.aN ?_ (by assumption)))))) (first
      | (go_at_call_of 146 (Value.slice pm nm cm);refine (iY _ _ _ _ _).mono ?_;rintro e w6 ⟨sg,rfl,Dq,oY⟩)
      | (go_at_call_of 146 (Value.slice pn nn cn);refine (iY _ _ _ _ _).mono ?_;rintro e w7 ⟨EP,rfl,YB,ER⟩;obtain⟨i1,i2,i3,i4⟩:=(cN.bS (w':=w7) T3 kj).two;obtain⟨j1,j2,j3,j4⟩:=(cN.bS (w':=w7) T4 kj).two)
      | fail)
     have E3:=(cN.bS (w':=w7) T3 kj);have E4:=(cN.bS (w':=w7) T4 kj);have FW:aD w5 w7:=kj;have FB:aD w w7:=kj;have LZ:=Own.below (HOM).out FW;have DY:=Own.below (HON).out FW;have MQ:=(Own.dv (Own.dv LZ E3 eL (.bool sg) (.slice pm nm cm)) (E4.fS (b':=w.heap.size+1+1) ae (.bool sg) (.slice pm nm cm)) eL (.bool EP) (.slice pn nn cn));have MR:=(Own.dv (Own.dv DY E3 eL (.bool sg) (.slice pm nm cm)) (E4.fS (b':=w.heap.size+1+1) ae (.bool sg) (.slice pm nm cm)) eL (.bool EP) (.slice pn nn cn));have G3:=(E3.dv (.bool sg) (.slice pm nm cm)).fS (b':=w.heap.size+1+1+1) ae (.bool EP) (.slice pn nn cn);have G4:=(E4.fS (b':=w.heap.size+1+1) ae (.bool sg) (.slice pm nm cm)).dv (.bool EP) (.slice pn nn cn);have hbz:=(FB.dv (b:=w.heap.size+1+1) ae (.bool sg) (.slice pm nm cm)).dv (b:=w.heap.size+1+1+1) ae (.bool EP) (.slice pn nn cn);have YC:=ag MQ;have YD:=ag MR;clear LZ DY MQ MR;go_wp2
     generalize (((w7.setCell ⟨w.heap.size+1+1,0,none⟩ (.bool sg)).setCell ⟨w.heap.size+1+1,1,none⟩ (.slice pm nm cm)).setCell ⟨w.heap.size+1+1+1,0,none⟩ (.bool EP)).setCell ⟨w.heap.size+1+1+1,1,none⟩ (.slice pn nn cn)=wz at*;obtain⟨d1,d2,_,_⟩:=G3.two;obtain⟨d3,d4,_,_⟩:=G4.two;have zZ:=vR HX.out HY.out H0.out (.inr ⟨by cases s1 <;> simp,HR0.out,rfl,rfl⟩);refine bodyPost_ret (v:=.tuple #[.agg #[.bool sg,.slice pm nm cm],.agg #[.bool EP,.slice pn nn cn],.int .i64 0]) (by simp[results,Tryz.results208,go_sem,d1,d2,d3,d4]) aa (dm.out _ _ ⟨.inr ⟨by have:=H0.out;omega,_,_,rfl,?_,?_⟩,hbz⟩)
     ·rw[Dq.out];exact aE.of (by rw[<-(Xw).out];exact Own.mono YC.out pQ.size) (Xw).out _ (by simpa using zZ.1)
     ·rw[YB.out];exact aE.of (by rw[<-(HLN).out];exact Own.mono YD.out pQ.size) (HLN).out _ (by simpa using zZ.2)
end
section
open Go.RowKit
theorem Dr:(Tryz.prog.info? 3).map (λi=>(i.zero,i.size,i.bytes))=some (some (.int .i64 0),1,8):=by kernel_rfl
def hval (xs:List Nat):Nat:=val 65536 xs
def halves (n:Nat):List Nat:=kZ 65536 n
def jA (xs:List Nat):Prop:=gi 65536 xs
theorem dt (n:Nat):jA (halves n):=uJ ae n
theorem cj (n:Nat):hval (halves n)=n:=oL ae n
variable {xs:List Nat} {x:Nat}
theorem jA.at (h:jA xs) {k:Nat} (hk:xs[k]? =some x):x<65536:=gi.at h hk
theorem qo:halves 0=[]:=gf _
variable {m:Nat}
theorem PO {n:Nat} (h:halves m=halves n):m=n:=DV ae h
theorem ot (xs:List Nat) (x:Nat):hval (xs++[x])=hval xs+65536^xs.length*x:=rC _ xs x
theorem yY (h:jA xs):hval xs<65536^xs.length:=uK h
theorem eZ (h:eB xs):(halves (au xs)).length<=2*xs.length:=by
 apply gZ ae;have:=jZ h
 rwa [Hx]
variable {v:Value} {w:World}
theorem Rd.i64 {n:Nat} (h:Rd w 1 v n (ints .i64 xs)):∃ p c,v=.slice p n c/\n<=c/\c<=9223372036854775807/\xs.length=n:=by
 obtain⟨p,c,hv,h1,h2,h3⟩:=h.form;unfold maxLen at h2;exact⟨p,c,hv,h1,ae,by simpa using h3⟩
variable {c:Nat} {p:Option Addr}
theorem Rd.MT {n:Nat} {k:IntKind} (h:Rd w 1 (.slice p n c) n (ints k xs)) (hm:m<=n):Rd w 1 (.slice p m c) m (ints k (xs.take m)):=by
 have:=h.take hm
 rwa [rB,vI] at this
variable {B:Nat}
theorem Own.MT {e n:Nat} {k:IntKind} (h:w.ownsRow B e 1 (.slice p n c) n (ints k xs)) (hm:m<=n):w.ownsRow B e 1 (.slice p m c) m (ints k (xs.take m)):=by
 have:=Own.take h hm
 rwa [rB,vI] at this
set_option maxRecDepth 100000 in
theorem lK (va:Value) (n i:Nat) (xs:List Nat) (w:World) (hr:Rd w 1 va n (ints .i64 xs)):
  Calls Tryz.prog 264 #[va,.int .i64 (i:Int)] w λe w'=>e=.returned (.int .i64 ((xs.getD i 0:Nat):Int))/\w=w':=by
 obtain⟨p,c,rfl,eS,gv,gU⟩:=hr.i64;have HX:=ag gU;clear gU;by_cases hi:i<n
 ·obtain⟨b,off,x,rfl,_,hx,hc⟩:=hr.cellAt hi;have e:Hid (xs.getD i 0=x):=by show _=_;rw[List.getD,hx];rfl
  clear hx;refine bI λR' dm=> ?_;go_enter Tryz.func264,Tryz.ntmps264
  go_wp2
  exact dm.out _ _ ⟨rE (by rw[e.out]),aa⟩
 ·have e:Hid (xs.getD i 0=0):=by show _=_;rw[List.getD,ru (by rw[HX.out];omega)];rfl
  refine bI λR' dm=> ?_;go_enter Tryz.func264,Tryz.ntmps264
  go_wp2
  exact dm.out _ _ ⟨rE (by rw[e.out];rfl),aa⟩
set_option maxRecDepth 100000 in
theorem IK (p:Option Addr) (n c:Nat) (xs:List Nat) (w:World) (hr:Rd w 1 (.slice p n c) n (ints .i64 xs)) (hl:jA xs):
  Calls Tryz.prog 298 #[.slice p n c] w λe w'=>(∃ m,m<=n/\e=.returned (.slice p m c)/\halves (hval xs)=xs.take m)/\w=w':=by
 obtain⟨p',c',hv,eS,gv,gU⟩:=hr.i64;simp only[Value.slice.injEq,true_and] at hv;obtain⟨rfl,rfl⟩:=hv;have HX:Hid (xs.length=n):=gU;clear gU;refine bI λR' dm=> ?_;go_enter Tryz.func298,Tryz.ntmps298
 go_wp2
 go_loop [0] (λv=>∃ m,m<=n/\v=.slice p m c/\hval (xs.take m)=hval xs) (λv=>match v with | .slice _ m _=>m|_=>0)
 case atStart=>exact⟨n,bl _,aa,by rw[dM (gX HX.out)]⟩
 case round=>
  obtain⟨m,hm,rfl,hv⟩:=hrel;have HV:Hid (hval (xs.take m)=hval xs):=hv;clear hv;by_cases h0:m=0
  ·subst h0;go_wp2
   exact dm.out _ _ ⟨⟨0,eK _,aa,oi ae hl (eK _) HV.out (.inl aa)⟩,aa⟩
  ·obtain⟨b,off,x,rfl,hb,hx,hc⟩:=hr.cellAt (k:=m-1) ae;have Xs:Hid (xs[m-1]? =some x):=hx;clear hx;have h0':0<m:=ae;obtain⟨j,rfl⟩:∃ j,m=j+1:=⟨m-1,ae⟩;rw[Nat.add_sub_cancel] at hc;by_cases uv:x=0
   ·subst uv;go_wp2
    go_round
    case rel=>exact⟨j,ae,aa,(qg Xs.out).symm.trans HV.out⟩
    case measure=>simp
   ·have hx0':((x:Int) == 0)=false:=by rw[eQ];omega
    go_wp2
    exact dm.out _ _ ⟨⟨j+1,hm,aa,oi ae hl (by rw[HX.out];exact hm) HV.out (.inr ⟨x,Xs.out,uv⟩)⟩,aa⟩
theorem Own.cut {e n:Nat} (h:w.ownsRow B e 1 (.slice p n c) n (ints .i64 xs)) (hm:m<=n) (hl:halves (hval xs)=xs.take m):
  w.ownsRow B e 1 (.slice p m c) (halves (hval xs)).length (ints .i64 (halves (hval xs)))/\m=(halves (hval xs)).length:=by
 have hx:xs.length=n:=by have:=h.1;simpa using this
 have e2:(halves (hval xs)).length=m:=by rw[hl,cw];omega
 have:=Own.MT h hm;rw[<-hl] at this;rw[e2];exact⟨this,aa⟩
def Sm (w:World) (B:Nat) (xs:List Nat) (ov iv:Value) (wr:World):Prop:=
 ∃ (k:Nat) (hs:List Nat),k<=xs.length/\iv=.int .i64 (k:Int)/\hs.length=2*k/\jA hs/\hval hs=au (xs.take k)/\
   wr.ownsRow B 3 1 ov (2*k) (ints .i64 hs)/\Below B w wr
theorem Sn (h:x<4294967296):IntKind.i64.wrap ((x:Int).tmod 65536)=((x%65536:Nat):Int):=by
 rw[He ae,cO _ ae];simp
theorem Sp (h:x<4294967296):IntKind.i64.wrap (IntKind.u32.wrap ((x:Int)/65536))=((x/65536:Nat):Int):=by
 rw[RI,Int.emod_eq_of_lt ae ae,cO _ ae];simp
variable {hs:List Nat}
theorem IL {k:Nat} (hx:xs[k]? =some x) (pP:x<4294967296) (hl:hs.length=2*k) (hh:jA hs) (hv:hval hs=au (xs.take k)):
  jA (hs++[x%65536,x/65536])/\hval (hs++[x%65536,x/65536])=au (xs.take (k+1)):=by
 have hk:k<xs.length:=(cM.1 hx).1;refine⟨gi.append hh (gi.cons (fY _ ae) (gi.cons ae (gi.nil _))),?_⟩;rw[dc hx,fI,<-hv,cw,gW ae];show val 65536 _=_;rw[mj,hl];show hval hs+_=_
 congr 1
 rw[Hx];show (4294967296:Nat)^k*(x%65536+65536*(x/65536+65536*0))=_
 congr 1
 omega
set_option maxRecDepth 100000 in
theorem iG (va:Value) (n:Nat) (xs:List Nat) (w:World) (hr:Rd w 1 va n (ints .u32 xs)) (hl:eB xs) (hn:n<=1073741824):
  Calls Tryz.prog 263 #[va] w λe w'=>∃ v',e=.returned v'/\w'.ownsRow w.heap.size 3 1 v' (halves (au xs)).length (ints .i64 (halves (au xs)))/\Below w.heap.size w w':=by
 obtain⟨p,c,rfl,eS,gv,gU⟩:=hr.u32;obtain⟨i0,hi,nW,sH,uN⟩:=info_parts Dr;obtain⟨B,hB⟩:∃ B,B=w.heap.size:=⟨_,aa⟩;have HB:=ag hB;have Hr:=ag hr;have HL:=ag hl;have HX:=ag gU;rw[<-hB];clear hr hl gU hB;refine bI λR' dm=> ?_;go_enter Tryz.func263,Tryz.ntmps263
 go_wp2
 go_loopw [3,4] (λov iv wr=>Sm w B xs ov iv wr) (λ_ iv _=>n-(intOf iv).toNat)
 case atStart=>exact⟨0,[],eK _,aa,aa,gi.nil _,aa,oI _ _ _ _,gY _ _⟩
 case round=>
  obtain⟨k,hs,hk,rfl,hhl,hhh,hhv,aY,hb⟩:=hrel;have HK:=ag hk;have HO:=ag aY;have HHL:=ag hhl;have HHH:=ag hhh;have HHV:=ag hhv;have kc:=ag hb;have Dc:B<=wr.heap.size:=by have:=hb.size;have:=HB.out;omega
  have hkn':k<=n:=by rw[<-HX.out];exact hk
  clear hk aY hhl hhh hhv hb;by_cases yp:k<n
  ·obtain⟨b1,o1,x,rfl,aU,im,hcw⟩:=Hr.out.cellAt yp;have pO:=(kc.out.cell (p:=⟨b1,o1+k,none⟩) (by rw[HB.out];exact aU)).trans hcw;have hne:=Xp HO.out (b:=b1) (by rw[HB.out];exact aU);have Dd:=ag im;have pP:=HL.out.at im;have HNE:=ag hne;have KW:(0:Int)<=(k:Int):=ae;have iy:(k:Int)<(n:Int):=ae;clear im hcw hne;go_wp2_with fail
   go_region_held3 (λw'=>w'.cell? ⟨b1,o1+k,none⟩=some (.int .u32 (x:Int))) (first|exact pO|go_keep|exact HQ ES pO HNE.out)
    ((refine uM (by rfl) _ _ 315 (by rfl) B 3 i0 (.int .i64 0) 1 8 Hl hi nW sH uN aa ae _ (2*k) (ints .i64 hs) (by rfl) ((HO.out.alloc _).drew) _ 2 (ints .i64 [x%65536,x/65536]) (by rfl) (Rd.drew (Rd.lit2 (Sn pP) (Sp pP))) (rD .i64 [x%65536,x/65536]) (by unfold maxLen;omega) ae (by simp;omega) ?_;intro v1 w1 jd ES))
   have xR:=ag jd;have HG1:=ag ES;clear jd ES;go_wp2_with fail
   go_roundw
   case rel=>
    have hst:=IL Dd.out pP HHL.out HHH.out HHV.out;exact⟨k+1,hs++[x%65536,x/65536],by rw[HX.out];omega,by go_num,by simp[HHL.out];omega,hst.1,hst.2,by rw[kE];exact xR.out,Below.behind kc.out Dc HG1.out HO.out (bl _)⟩
   case measure=>simp[intOf];omega
  ·obtain rfl:k=n:=by omega
   obtain⟨p1,c1,Ox,_,_,_⟩:=Own.form HO.out;have HV1:=ag Ox;have sL:Hid (hval hs=au xs):=by show _=_;rw[HHV.out,cU (gX HX.out)]
   subst Ox;go_wp2_with fail
   refine (IK p1 (2*k) c1 hs _ (Rd.own HO.out) HHH.out).mono ?_;rintro e w2 ⟨⟨m,hm,rfl,Gw⟩,rfl⟩;have HC:=Own.cut HO.out hm Gw;rw[sL.out] at HC;have HC1:=ag HC.1;have HC2:=ag HC.2;clear HC Gw;go_wp2_with fail
   refine dm.out _ _ ⟨_,aa,?_,kc.out⟩;have:=HC1.out;rw[<-HC2.out] at this ⊢;exact this
def LimbInv (w:World) (B m:Nat) (hs:List Nat) (ov iv:Value) (wr:World):Prop:=
 ∃ (k:Nat) (ds:List Nat),2*k<=m+1/\iv=.int .i64 ((2*k:Nat):Int)/\ds.length=k/\eB ds/\au ds=hval (hs.take (2*k))/\
   wr.ownsRow B 78 1 ov k (ints .u32 ds)/\Below B w wr
variable {ds:List Nat}
theorem IM {k lo hi:Nat} (hl:ds.length=k) (hd:eB ds) (hv:au ds=hval (hs.take (2*k))) (WE:hs.getD (2*k) 0=lo) (hhi:hs.getD (2*k+1) 0=hi)
  (h1:lo<65536) (h2:hi<65536):eB (ds++[lo+65536*hi])/\au (ds++[lo+65536*hi])=hval (hs.take (2*(k+1))):=by
 refine⟨hd.append (eB.cons ae eB.nil),?_⟩;rw[fI,hl,hv];show _=val 65536 (hs.take (2*k+1+1));rw[dZ,dZ,WE,hhi,ir,xY];show hval _+_=hval _+_
 congr 1
 rw[show (4294967296:Nat)=65536^2 by rfl,<-Hx,dp,fX]
theorem MU {k h:Nat} (hl:ds.length=k) (hd:eB ds) (hv:au ds=h) (hm:(halves h).length=m) (hk:2*k<=m+1):limbs h=ds:=by
 subst hv;apply LD ae hd;show ds.length<=(limbs (au ds)).length;rcases oH k with h0|h0
 ·omega
 ·have hne:au ds≠0:=λh=>by rw[h,qo] at hm;simp at hm;omega
  have h1:65536^((halves (au ds)).length-1)<=au ds:=Br ae hne
  have h2:4294967296^(k-1)<=au ds:=by
   rw[show (4294967296:Nat)=65536^2 by rfl,<-Hx];exact bG (tQ ae ae) h1
  have:=Ci h2;omega
set_option maxRecDepth 100000 in
theorem vi (va:Value) (n:Nat) (ls:List Nat) (w:World) (hr:Rd w 1 va n (ints .i64 ls)) (hl:jA ls) (hn:n<=2147483656):
  Calls Tryz.prog 265 #[va] w λe w'=>∃ v',e=.returned v'/\w'.ownsRow w.heap.size 78 1 v' (limbs (hval ls)).length (ints .u32 (limbs (hval ls)))/\Below w.heap.size w w':=by
 obtain⟨p,c,rfl,eS,gv,gU⟩:=hr.i64;obtain⟨i0,hi,nW,sH,uN⟩:=info_parts mP;obtain⟨B,hB⟩:∃ B,B=w.heap.size:=⟨_,aa⟩;obtain⟨h,hh⟩:∃ h,h=hval ls:=⟨_,aa⟩;rw[<-hh];have HB:=ag hB;have Hr:=ag hr;have HL:=ag hl;have HX:=ag gU;have HH:=ag hh;rw[<-hB];clear hr hl gU hB hh;refine bI λR' dm=> ?_;go_enter Tryz.func265,Tryz.ntmps265
 go_wp2_with fail
 refine (IK p n c ls _ Hr.out HL.out).mono ?_;rintro e w1 ⟨⟨m,hm,rfl,Gw⟩,rfl⟩;have zU:(halves h).length=m:=by rw[HH.out,Gw,cw,HX.out];omega
 have Bu:=Rd.MT Hr.out hm;rw[<-Gw,<-HH.out] at Bu;have XD:=ag zU;have HRD:=ag Bu;clear zU Bu Gw;go_wp2_with fail
 go_loopw [3,4] (λov iv wr=>LimbInv w B m (halves h) ov iv wr) (λ_ iv _=>m+2-(intOf iv).toNat)
 case atStart=>exact⟨0,[],ae,aa,aa,eB.nil,aa,oI _ _ _ _,gY _ _⟩
 case round=>
  obtain⟨k,ds,hk,rfl,Ck,hdd,hdv,aY,hb⟩:=hrel;have HO:=ag aY;have Pg:=ag Ck;have HDD:=ag hdd;have HDV:=ag hdv;have kc:=ag hb;have Dc:B<=wr.heap.size:=by have:=hb.size;have:=HB.out;omega
  clear aY Ck hdd hdv hb;by_cases OW:2*k<m
  ·obtain⟨b1,o1,lo,rfl,aU,im,pO⟩:=(HRD.out.mn HB.out kc.out).cellAt OW;have WE:=(dt h).at im;have HLO:Hid ((halves h).getD (2*k) 0=lo):=by show _=_;rw[List.getD,im];rfl
   clear im;by_cases hkm1:2*k+1<m
   ·obtain⟨b2,o2,xu,hp2,bu,uf,Gx⟩:=(HRD.out.mn HB.out kc.out).cellAt hkm1;have hhi:=(dt h).at uf;have HHI:Hid ((halves h).getD (2*k+1) 0=xu):=by show _=_;rw[List.getD,uf];rfl
    simp only[Option.some.injEq,Addr.mk.injEq,and_true] at hp2;obtain⟨rfl,rfl⟩:=hp2;clear uf;have hy:(lo:Int)+65536*(xu:Int)=((lo+65536*xu:Nat):Int):=ae;have HY:=ag hy;clear hy;go_wp2_with (at_builtin;go_loud (refine fJ aa _ _ 23 aa B 78 i0 (.int .u32 0) 4 pW hi nW sH uN aa HO.out aa aa HY.out ae ae Dc ?_);intro v1 w1 jd lL)
    have xR:=ag jd;have KY:=ag (lL w kc.out);clear jd lL;go_wp2_with fail
    go_roundw
    case rel=>
     have hst:=IM Pg.out HDD.out HDV.out HLO.out HHI.out WE hhi;exact⟨k+1,ds++[lo+65536*xu],ae,by go_num,by simp[Pg.out],hst.1,hst.2,xR.out,KY.out⟩
    case measure=>simp[intOf];omega
   ·have HHI:Hid ((halves h).getD (2*k+1) 0=0):=by show _=_;rw[List.getD,ru (by rw[XD.out];omega)];rfl
    go_wp2_with (at_builtin;go_loud (refine fJ aa _ _ 23 aa B 78 i0 (.int .u32 0) 4 pW hi nW sH uN aa HO.out aa aa aa ae ae Dc ?_);intro v1 w1 jd lL)
    have xR:=ag jd;have KY:=ag (lL w kc.out);clear jd lL;go_wp2_with fail
    go_roundw
    case rel=>
     have hst:=IM Pg.out HDD.out HDV.out HLO.out HHI.out WE ae;rw[pY,nP] at hst;exact⟨k+1,ds++[lo],ae,by go_num,by simp[Pg.out],hst.1,hst.2,xR.out,KY.out⟩
    case measure=>simp[intOf];omega
  ·go_wp2_with fail
   have hval:au ds=h:=by
    rw[HDV.out];show val 65536 _=_;rw[iC (by rw[XD.out];omega)];exact cj h
   have hcan:=MU Pg.out HDD.out hval XD.out hk;refine dm.out _ _ ⟨_,aa,?_,kc.out⟩;rw[hcan,Pg.out];exact HO.out
set_option maxRecDepth 100000 in
theorem PQ (va:Value) (n:Nat) (xs:List Nat) (w:World) (hr:Rd w 1 va n (ints .u32 xs)) (hl:eB xs) (hn:n<=1073741824):
  Calls Tryz.prog 262 #[va] w λe w'=>∃ v',e=.returned v'/\w'.ownsRow w.heap.size 78 1 v' (limbs (au xs)).length (ints .u32 (limbs (au xs)))/\Below w.heap.size w w':=by
 obtain⟨p,c,rfl,eS,gv,gU⟩:=hr.u32;have Hr:=ag hr;have HL:=ag hl;have HX:=ag gU;clear hr hl gU;refine bI λR' dm=> ?_;go_enter Tryz.func262,Tryz.ntmps262
 go_wp2_with fail
 refine (iG _ n xs _ Hr.out HL.out hn).mono ?_;rintro e w1 ⟨v1,rfl,aY,hb⟩;have hlen:=eZ HL.out;rw[HX.out] at hlen;have HO:=ag aY;have HB:=ag hb;clear aY hb;go_wp2_with fail
 refine (vi _ _ (halves (au xs)) _ (Rd.own HO.out) (dt _) ae).mono ?_;rintro e w2 ⟨v2,rfl,aY,hb⟩;rw[cj] at aY;go_wp2_with fail
 exact dm.out _ _ ⟨_,aa,Own.mono aY HB.out.size,HB.out.trans (hb.mono HB.out.size)⟩
def YE (w:World) (B M:Nat) (us ts:List Nat) (ov cv iv:Value) (wr:World):Prop:=
 ∃ (k carry:Nat) (os:List Nat),k<=M+1/\(k=M+1->carry=0)/\iv=.int .i64 (k:Int)/\cv=.int .i64 (carry:Int)/\carry<=1/\os.length=k/\jA os/\
   hval os+65536^k*carry=hval (us.take k)+hval (ts.take k)/\wr.ownsRow B 3 1 ov k (ints .i64 os)/\Below B w wr
variable {us ts:List Nat} {y:Nat}
theorem PR {k carry:Nat} {os:List Nat} (hl:os.length=k) (hh:jA os) (hv:hval os+65536^k*carry=hval (us.take k)+hval (ts.take k)) (hx:us.getD k 0=x) (hy:ts.getD k 0=y):
  jA (os++[(x+y+carry)%65536])/\hval (os++[(x+y+carry)%65536])+65536^(k+1)*((x+y+carry)/65536)=hval (us.take (k+1))+hval (ts.take (k+1)):=by
 refine⟨gi.append hh (gi.cons (fY _ ae) (gi.nil _)),?_⟩;rw[ot,hl,ir];show _=val 65536 _+val 65536 _;rw[dZ,dZ,hx,hy];exact Ts 65536 _ _ x y carry _ _ _ hv aa
theorem kF {k:Nat} (h:us.length<=k):us.getD k 0=0:=by rw[List.getD,ru h];rfl
theorem ou (h:jA us) (k:Nat):us.getD k 0<65536:=by
 rw[List.getD];cases hk:us[k]? with
 | none=>simp
 | some x=>exact h.at hk
set_option maxRecDepth 100000 in
theorem Ut (va vb:Value) (n m:Nat) (xs ys:List Nat) (w:World) (hr:Rd w 1 va n (ints .u32 xs)) (hs:Rd w 1 vb m (ints .u32 ys)) (hx:eB xs) (hy:eB ys) (hn:n<=1073741824) (hm:m<=1073741824):
  Calls Tryz.prog 198 #[va,vb] w λe w'=>∃ v',e=.returned v'/\w'.ownsRow w.heap.size 78 1 v' (limbs (au xs+au ys)).length (ints .u32 (limbs (au xs+au ys)))/\Below w.heap.size w w':=by
 obtain⟨p,c,rfl,eS,gv,gU⟩:=hr.u32;obtain⟨q,d,rfl,Tz,Ov,si⟩:=hs.u32;obtain⟨i0,hi,nW,sH,uN⟩:=info_parts Dr;obtain⟨B,hB⟩:∃ B,B=w.heap.size:=⟨_,aa⟩;have HB:=ag hB;have Hr:=ag hr;have Hs:=ag hs;have HL:=ag hx;have HM:=ag hy;have uw:=eZ hx;have qN:=eZ hy;rw[gU] at uw;rw[si] at qN;obtain⟨a,ha⟩:∃ a,a=au xs:=⟨_,aa⟩;obtain⟨b,hb⟩:∃ b,b=au ys:=⟨_,aa⟩;rw[<-ha] at uw ⊢;rw[<-hb] at qN ⊢;rw[<-hB];have HA:=ag ha;have HBb:=ag hb;clear hr hs hx hy gU si ha hb hB;refine bI λR' dm=> ?_;go_enter Tryz.func198,Tryz.ntmps198
 go_wp2_with fail
 refine (iG _ n xs _ Hr.out HL.out hn).mono ?_;rintro e w1 ⟨v1,rfl,aY,aU⟩;rw[<-HA.out,<-HB.out] at aY;rw[<-HB.out] at aU;have xR:=ag aY;have KY:=ag aU;clear aY aU;go_wp2_with fail
 refine (iG _ m ys _ (Hs.out.mn HB.out KY.out) HM.out hm).mono ?_;rintro e w2 ⟨v2,rfl,aY,bu⟩;rw[<-HBb.out] at aY;have hB1s:B<=w1.heap.size:=by have:=KY.out.size;have:=HB.out;omega
 have HO1b:=ag (Own.below xR.out bu);have ug:=ag (Own.mono aY hB1s);have Bx:=ag (KY.out.trans (bu.mono hB1s));have hB2s:B<=w2.heap.size:=by have:=bu.size;omega
 clear aY bu xR KY;obtain⟨p1,c1,rfl,h11,YF,_⟩:=(Rd.own HO1b.out).i64;obtain⟨p2,c2,rfl,h21,h22,_⟩:=(Rd.own ug.out).i64;generalize WL:(halves a).length=la at*;generalize Oy:(halves b).length=lb at*;have WK:=ag WL;have WM:=ag Oy;clear WL Oy;obtain⟨M,hMa,hMb,hMu,hM⟩:∃ M,la<=M/\lb<=M/\M<=2147483648/\(la<lb/\M=lb\/lb<=la/\M=la):=⟨max la lb,ae,ae,ae,ae⟩;obtain⟨B2,YG⟩:∃ B2,B2=w2.heap.size:=⟨_,aa⟩;have PS:=ag YG;have YH:B<=B2:=ae;clear YG;rcases hM with ⟨CX,rfl⟩|⟨CX,rfl⟩
 all_goals
  go_wp2_with fail
  go_loopw [7,8,9] (λov cv iv wr=>YE w2 B2 M (halves a) (halves b) ov cv iv wr) (λ_ cv iv _=>2*(M-(intOf iv).toNat)+(intOf cv).toNat)
  case atStart=>exact⟨0,0,[],ae,λ_=>aa,aa,aa,ae,aa,gi.nil _,aa,oI _ _ _ _,gY _ _⟩
  case round=>
   obtain⟨k,carry,os,hk,iy,rfl,rfl,hc,hol,hoh,hov,aY,pQ⟩:=hrel;have HO:=ag aY;have HOL:=ag hol;have HOH:=ag hoh;have HOV:=ag hov;have HK1:=ag iy;have kc:=ag pQ;have Dc:B2<=wr.heap.size:=by have:=pQ.size;have:=PS.out;omega
   have HRA:=ag ((Rd.own HO1b.out).mn PS.out pQ);have HRB:=ag ((Rd.own ug.out).mn PS.out pQ);have hgx:=ou (dt a) k;have hgy:=ou (dt b) k;have hxy0:M<=k->(halves a).getD k 0=0/\(halves b).getD k 0=0:=λh=>⟨kF (by rw[WK.out];omega),kF (by rw[WM.out];omega)⟩;clear aY hol hoh hov iy pQ;generalize hx:(halves a).getD k 0=x at*;generalize hy:(halves b).getD k 0=y at*;have HX:=ag hx;have HY:=ag hy;have HXY0:=ag hxy0;clear hx hy hxy0;have qq:k=M+1->carry=0:=HK1.out;by_cases hkM:k<M\/0<carry
   ·clear qq
    have hguard:decide (k<M)=true\/decide (k<M)=false/\0<carry:=by
     by_cases h:k<M
     ·left;simpa using h
     ·right;exact⟨by simpa using h,ae⟩
    have HSUM:Hid (((x:Int)+(y:Int)+(carry:Int)).tmod 65536=(((x+y+carry)%65536:Nat):Int)):=by show _=_;rw[He ae];omega
    rcases hguard with hg|⟨hg,hg2⟩
    all_goals
     go_wp2_with fail
     refine (lK _ _ k (halves a) _ HRA.out).mono ?_;rintro e w3 ⟨rfl,rfl⟩;rw[HX.out];go_wp2_with fail
     refine (lK _ _ k (halves b) _ HRB.out).mono ?_;rintro e w3 ⟨rfl,rfl⟩;rw[HY.out];go_wp2_with (at_builtin;refine fJ aa _ _ 315 aa B2 3 i0 (.int .i64 0) 8 Hl hi nW sH uN aa HO.out aa aa (d:=(x+y+carry)%65536) ae ae ae Dc ?_;intro v1 w3 jd lL)
     have TT:=ag jd;have XL:=ag (lL w2 kc.out);clear jd lL;go_wp2_with fail
     go_roundw
     case rel=>
      have hst:=PR HOL.out HOH.out HOV.out HX.out HY.out;exact⟨k+1,(x+y+carry)/65536,os++[(x+y+carry)%65536],by have:=HK1.out;have:=HXY0.out;omega,by have:=HK1.out;have:=HXY0.out;omega,by go_num,by go_num,ae,by simp[HOL.out],hst.1,hst.2,TT.out,XL.out⟩
     case measure=>simp[intOf];have:=HXY0.out;omega
   ·have YI:carry=0:=by omega
    have hkM':M<=k:=ae;have HC0:=ag YI;have TB:decide (k<M)=false:=by simp;omega
    have hg2:¬ (0<(carry:Int)):=ae;have hks:k<=M+1:=ae;clear qq;clear YI;go_wp2_with fail
    refine (vi _ _ os _ (Rd.own HO.out) HOH.out ae).mono ?_;rintro e w3 ⟨v3,rfl,aY,dH⟩
    have hval:hval os=a+b:=by
     have:=HOV.out;rw[HC0.out,pY,nP] at this;rw[this];show val 65536 _+val 65536 _=_;rw[iC (by rw[WK.out];omega),iC (by rw[WM.out];omega)];show hval _+hval _=_;rw[cj,cj]
    rw[hval] at aY;go_wp2_with fail
    exact dm.out _ _ ⟨_,aa,Own.mono aY ae,(Bx.out.trans (kc.out.mono YH)).trans (dH.mono ae)⟩
def CmpInv (w:World) (us ts:List Nat) (M:Nat) (iv:Value) (wr:World):Prop:=
 ∃ k:Nat,k<=M/\iv=.int .i64 ((k:Int)-1)/\hval us+hval (ts.take k)=hval ts+hval (us.take k)/\w=wr
theorem mR (us:List Nat):hval (us.take 0)=0:=by simp[hval,val]
theorem MV {k:Nat} (hx:us.getD k 0=x) (hy:ts.getD k 0=x) (h:hval us+hval (ts.take (k+1))=hval ts+hval (us.take (k+1))):hval us+hval (ts.take k)=hval ts+hval (us.take k):=by
 have h1:hval (ts.take (k+1))=hval (ts.take k)+65536^k*x:=by rw[<-hy];exact dZ 65536 ts k
 have h2:hval (us.take (k+1))=hval (us.take k)+65536^k*x:=by rw[<-hx];exact dZ 65536 us k
 omega
theorem BM {k:Nat} (hu:jA us) (hx:us.getD k 0=x) (hy:ts.getD k 0=y) (Eb:x<y) (h:hval us+hval (ts.take (k+1))=hval ts+hval (us.take (k+1))):hval us<hval ts:=by
 have h1:hval (ts.take (k+1))=hval (ts.take k)+65536^k*y:=by rw[<-hy];exact dZ 65536 ts k
 have h2:hval (us.take (k+1))=hval (us.take k)+65536^k*x:=by rw[<-hx];exact dZ 65536 us k
 have h3:hval (us.take k)<65536^k:=by
  have h4:=yY (gi.take hu k);have h5:=tQ (show 0<65536 by omega) (show (us.take k).length<=k by rw[cw];omega);omega
 have h4:65536^k*x+65536^k<=65536^k*y:=by
  have:=lZ (65536^k) (show x+1<=y from Eb)
  rwa [dp,rB] at this
 omega
set_option maxRecDepth 100000 in
theorem Ay (va vb:Value) (n m:Nat) (xs ys:List Nat) (w:World) (hr:Rd w 1 va n (ints .u32 xs)) (hs:Rd w 1 vb m (ints .u32 ys)) (hx:eB xs) (hy:eB ys) (hn:n<=1073741824) (hm:m<=1073741824):
  Calls Tryz.prog 266 #[va,vb] w λe w'=>e=.returned (.int .i64 (jx (au xs) (au ys)))/\Below w.heap.size w w':=by
 obtain⟨p,c,rfl,eS,gv,gU⟩:=hr.u32;obtain⟨q,d,rfl,Tz,Ov,si⟩:=hs.u32;have Hr:=ag hr;have Hs:=ag hs;have HL:=ag hx;have HM:=ag hy;have uw:=eZ hx;have qN:=eZ hy;rw[gU] at uw;rw[si] at qN;obtain⟨a,ha⟩:∃ a,a=au xs:=⟨_,aa⟩;obtain⟨b,hb⟩:∃ b,b=au ys:=⟨_,aa⟩;rw[<-ha] at uw ⊢;rw[<-hb] at qN ⊢;have HA:=ag ha;have HBb:=ag hb;clear hr hs hx hy gU si ha hb;refine bI λR' dm=> ?_;go_enter Tryz.func266,Tryz.ntmps266
 go_wp2_with fail
 refine (iG _ n xs _ Hr.out HL.out hn).mono ?_;rintro e w1 ⟨v1,rfl,aY,aU⟩;rw[<-HA.out] at aY;have xR:=ag (Rd.own aY);have KY:=ag aU;clear aY aU;go_wp2_with fail
 refine (iG _ m ys _ (Hs.out.below KY.out) HM.out hm).mono ?_;rintro e w2 ⟨v2,rfl,aY,bu⟩;rw[<-HBb.out] at aY;have HRA:=ag (xR.out.below bu);have HRB:=ag (Rd.own aY);have Bx:=ag (KY.out.trans (bu.mono KY.out.size));clear aY bu xR KY;obtain⟨p1,c1,rfl,h11,YF,_⟩:=HRA.out.i64;obtain⟨p2,c2,rfl,h21,h22,_⟩:=HRB.out.i64;generalize WL:(halves a).length=la at*;generalize Oy:(halves b).length=lb at*;have WK:=ag WL;have WM:=ag Oy;clear WL Oy;obtain⟨M,hMa,hMb,hMu,hM⟩:∃ M,la<=M/\lb<=M/\M<=2147483648/\(la<lb/\M=lb\/lb<=la/\M=la):=⟨max la lb,ae,ae,ae,ae⟩;rcases hM with ⟨CX,rfl⟩|⟨CX,rfl⟩
 all_goals
  go_wp2_with fail
  go_loopw [7] (λiv wr=>CmpInv w2 (halves a) (halves b) M iv wr) (λiv _=>(intOf iv+1).toNat)
  case atStart=>exact⟨M,bl _,aa,by
   show val 65536 _+val 65536 _=val 65536 _+val 65536 _;rw[iC (by first|(rw[WK.out];omega)|(rw[WM.out];omega)),iC (by first|(rw[WK.out];omega)|(rw[WM.out];omega))];omega,rfl⟩
  case round=>
   obtain⟨k,hk,rfl,hv,rfl⟩:=hrel;have HV:=ag hv;clear hv;by_cases h0:k=0
   ·subst h0;go_wp2_with fail
    have e:a=b:=by
     have:=HV.out;rw[mR,mR,cj,cj] at this;omega
    exact dm.out _ _ ⟨rE (by rw[e,yi]),Bx.out⟩
   ·obtain⟨j,rfl⟩:∃ j,k=j+1:=⟨k-1,ae⟩;have hjj:((j+1:Nat):Int)-1=(j:Int):=ae;rw[hjj];clear h0 hjj;generalize hx:(halves a).getD j 0=x;generalize hy:(halves b).getD j 0=y;have HX:=ag hx;have HY:=ag hy;clear hx hy;go_wp2_with fail
    refine (lK _ _ j (halves a) _ HRA.out).mono ?_;rintro e w3 ⟨rfl,rfl⟩;rw[HX.out];go_wp2_with fail
    refine (lK _ _ j (halves b) _ HRB.out).mono ?_;rintro e w3 ⟨rfl,rfl⟩;rw[HY.out];rcases Ln x y with hlt|heq|Ym
    ·go_wp2_with fail
     have:=BM (dt a) HX.out HY.out hlt HV.out;rw[cj,cj] at this;exact dm.out _ _ ⟨rE (by rw[qh this]),Bx.out⟩
    ·subst heq;go_wp2_with fail
     refine (lK _ _ j (halves a) _ HRA.out).mono ?_;rintro e w3 ⟨rfl,rfl⟩;rw[HX.out];go_wp2_with fail
     refine (lK _ _ j (halves b) _ HRB.out).mono ?_;rintro e w3 ⟨rfl,rfl⟩;rw[HY.out];go_wp2_with fail
     go_roundw
     case rel=>exact⟨j,ae,aa,MV HX.out HY.out HV.out,aa⟩
     case measure=>simp[intOf]
    ·go_wp2_with fail
     refine (lK _ _ j (halves a) _ HRA.out).mono ?_;rintro e w3 ⟨rfl,rfl⟩;rw[HX.out];go_wp2_with fail
     refine (lK _ _ j (halves b) _ HRB.out).mono ?_;rintro e w3 ⟨rfl,rfl⟩;rw[HY.out];go_wp2_with fail
     have:=BM (dt b) HY.out HX.out Ym HV.out.symm;rw[cj,cj] at this;exact dm.out _ _ ⟨rE (by rw[qi this]),Bx.out⟩
theorem BN {qs:List Nat} {k:Nat}:(List.replicate (k+1) 0++qs).set k x=List.replicate k 0++x::qs:=by
 rw[RD,uF,xV _ _ cZ];simp
def YJ (w:World) (B M:Nat) (us ts:List Nat) (ov bv iv:Value) (wr:World):Prop:=
 ∃ (k r:Nat) (ds:List Nat),k<=M/\ds.length=k/\iv=.int .i64 (k:Int)/\bv=.int .i64 (r:Int)/\r<=1/\jA ds/\
   hval ds+hval (ts.take k)=hval (us.take k)+65536^k*r/\wr.ownsRow B 3 1 ov k (ints .i64 ds)/\Below B w wr
variable {d:Nat}
theorem ET {k r r':Nat} (hl:ds.length=k) (hh:jA ds) (hv:hval ds+hval (ts.take k)=hval (us.take k)+65536^k*r) (hx:us.getD k 0=x) (hy:ts.getD k 0=y)
  (hd:d<65536) (he:x+65536*r'=d+y+r):
  jA (ds++[d])/\hval (ds++[d])+hval (ts.take (k+1))=hval (us.take (k+1))+65536^(k+1)*r':=by
 refine⟨gi.append hh (gi.cons hd (gi.nil _)),?_⟩;have h1:hval (ts.take (k+1))=hval (ts.take k)+65536^k*y:=by rw[<-hy];exact dZ 65536 ts k
 have h2:hval (us.take (k+1))=hval (us.take k)+65536^k*x:=by rw[<-hx];exact dZ 65536 us k
 rw[ot,hl,h1,h2,ir];exact Tt 65536 _ x y r d r' _ _ _ hv he
set_option maxRecDepth 100000 in
theorem IP (va vb:Value) (n m:Nat) (xs ys:List Nat) (w:World) (hr:Rd w 1 va n (ints .u32 xs)) (hs:Rd w 1 vb m (ints .u32 ys)) (hx:eB xs) (hy:eB ys) (hn:n<=1073741824) (hm:m<=1073741824):
  Calls Tryz.prog 199 #[va,vb] w λe w'=>((au xs<au ys/\e=.returned (.tuple #[.slice none 0 0,.int .i64 2]))\/
   (au ys<=au xs/\∃ v',e=.returned (.tuple #[v',.int .i64 0])/\w'.ownsRow w.heap.size 78 1 v' (limbs (au xs-au ys)).length (ints .u32 (limbs (au xs-au ys)))))/\Below w.heap.size w w':=by
 obtain⟨p,c,rfl,eS,gv,gU⟩:=hr.u32;obtain⟨q,d,rfl,Tz,Ov,si⟩:=hs.u32;obtain⟨i0,hi,nW,sH,uN⟩:=info_parts Dr;have Hr:=ag hr;have Hs:=ag hs;have HL:=ag hx;have HM:=ag hy;have uw:=eZ hx;have qN:=eZ hy;rw[gU] at uw;rw[si] at qN;obtain⟨a,ha⟩:∃ a,a=au xs:=⟨_,aa⟩;obtain⟨b,hb⟩:∃ b,b=au ys:=⟨_,aa⟩;rw[<-ha] at uw ⊢;rw[<-hb] at qN ⊢;have HA:=ag ha;have HBb:=ag hb;clear hr hs hx hy gU si ha hb;refine bI λR' dm=> ?_;go_enter Tryz.func199,Tryz.ntmps199
 go_wp2_with fail
 refine (Ay _ _ n m xs ys _ Hr.out Hs.out HL.out HM.out hn hm).mono ?_;rintro e w0 ⟨rfl,sj⟩;rw[<-HA.out,<-HBb.out];have HB0:=ag sj;have hB0s:=sj.size;clear sj;by_cases CX:a<b
 ·have hc:jx a b<0:=mZ.2 CX;generalize jx a b=cv at hc ⊢;go_wp2_with fail
  exact dm.out _ _ ⟨.inl ⟨CX,aa⟩,HB0.out⟩
 ·have hc:0<=jx a b:=by have:=mt (@mZ a b).1 CX;omega
  generalize jx a b=cv at hc ⊢;have hlen:(halves b).length<=(halves a).length:=fo ae ae;have HAB:=ag CX;clear CX;go_wp2_with fail
  refine (iG _ n xs _ (Hr.out.below HB0.out) HL.out hn).mono ?_;rintro e w1 ⟨v1,rfl,aY,aU⟩;rw[<-HA.out] at aY;have xR:=ag (Rd.own aY);have KY:=ag (HB0.out.trans (aU.mono hB0s));have hB1s:=aU.size;clear aY aU;go_wp2_with fail
  refine (iG _ m ys _ (Hs.out.below KY.out) HM.out hm).mono ?_;rintro e w2 ⟨v2,rfl,aY,bu⟩;rw[<-HBb.out] at aY;have HRA0:=ag (xR.out.below bu);have HRB0:=ag (Rd.own aY);have Bx:=ag (KY.out.trans (bu.mono KY.out.size));have hB2s:=bu.size;clear aY bu xR KY;obtain⟨p1,c1,rfl,h11,YF,_⟩:=HRA0.out.i64;obtain⟨p2,c2,rfl,h21,h22,_⟩:=HRB0.out.i64;generalize WL:(halves a).length=la at*;generalize Oy:(halves b).length=lb at*;have WK:=ag WL;have WM:=ag Oy;clear WL Oy;obtain⟨B2,YG⟩:∃ B2,B2=w2.heap.size:=⟨_,aa⟩;have PS:=ag YG;have YH:w.heap.size<=B2:=ae;clear YG;go_wp2_with fail
  go_loopw [8,9,10] (λov bv iv wr=>YJ w2 B2 la (halves a) (halves b) ov bv iv wr) (λ_ _ iv _=>la-(intOf iv).toNat)
  case atStart=>exact⟨0,0,[],eK _,aa,aa,aa,ae,gi.nil _,by rw[mR,mR];simp[hval,val],oI _ _ _ _,gY _ _⟩
  case round=>
   obtain⟨k,r,ds,hk,Ck,rfl,rfl,qj,hdh,hdv,aY,pQ⟩:=hrel;have HO:=ag aY;have Pg:=ag Ck;have HDH:=ag hdh;have HDV:=ag hdv;have kc:=ag pQ;have Dc:B2<=wr.heap.size:=by have:=pQ.size;have:=PS.out;omega
   have HRB:=ag (HRB0.out.mn PS.out pQ);clear aY Ck hdh hdv;by_cases RT:k<la
   ·obtain⟨b1,o1,x,rfl,_,im,pO⟩:=(HRA0.out.mn PS.out pQ).cellAt RT;have pP:=(dt a).at im;have HX:Hid ((halves a).getD k 0=x):=by show _=_;rw[List.getD,im];rfl
    have Ia:=ou (dt b) k;clear im pQ;generalize hy:(halves b).getD k 0=y at*;have HY:=ag hy;clear hy;have KW:(0:Int)<=(k:Int):=ae;have iy:(k:Int)<(la:Int):=ae;have De:IntKind.i64.wrap ((x:Int)-(y:Int))=(x:Int)-(y:Int):=cO _ ae;have hw2:IntKind.i64.wrap ((x:Int)-(y:Int)-(r:Int))=(x:Int)-(y:Int)-(r:Int):=cO _ ae
    have KX:∀ j:Nat,Calls Tryz.prog 264 #[.slice p2 lb c2,.int .i64 (k:Int)] (wr.drewN j) λe w'=>e=.returned (.int .i64 (y:Int))/\wr.drewN j=w':=λj=>by
     have:=lK _ _ k (halves b) _ (Rd.drewN HRB.out j)
     rwa [HY.out] at this
    have HAT:=ag KX;clear KX;go_wp2_with fail
    go_quiet ((go_at_call 264;exact DX (HAT.out _) ⟨_,aa⟩))
    clear De hw2 KW iy pO;by_cases rG:(x:Int)-(y:Int)-(r:Int)<0
    ·go_wp2_with (at_builtin;refine fJ (w:=wr.drewN nq) aa _ _ 315 aa B2 3 i0 (.int .i64 0) 8 Hl hi nW sH uN aa (Own.drewN HO.out nq) aa aa (d:=x+65536-y-r) ae ae ae Dc ?_;intro v1 w3 jd lL)
     have TT:=ag jd;have XL:=ag (lL w2 (Below.drewN kc.out nq));clear jd lL;go_wp2_with fail
     go_roundw
     case rel=>
      have hst:=ET (d:=x+65536-y-r) (r':=1) Pg.out HDH.out HDV.out HX.out HY.out ae ae;exact⟨k+1,1,ds++[x+65536-y-r],ae,by simp[Pg.out],by go_num,rfl,ae,hst.1,hst.2,TT.out,XL.out⟩
     case measure=>simp[intOf];omega
    ·go_wp2_with (at_builtin;refine fJ (w:=wr.drewN nq) aa _ _ 315 aa B2 3 i0 (.int .i64 0) 8 Hl hi nW sH uN aa (Own.drewN HO.out nq) aa aa (d:=x-y-r) ae ae ae Dc ?_;intro v1 w3 jd lL)
     have TT:=ag jd;have XL:=ag (lL w2 (Below.drewN kc.out nq));clear jd lL;go_wp2_with fail
     go_roundw
     case rel=>
      have hst:=ET (d:=x-y-r) (r':=0) Pg.out HDH.out HDV.out HX.out HY.out ae ae;exact⟨k+1,0,ds++[x-y-r],ae,by simp[Pg.out],by go_num,rfl,ae,hst.1,hst.2,TT.out,XL.out⟩
     case measure=>simp[intOf];omega
   ·obtain rfl:k=la:=by omega
    clear pQ;go_wp2_with fail
    refine (vi _ k ds _ (Rd.own HO.out) HDH.out ae).mono ?_;rintro e w4 ⟨v4,rfl,aY,gj⟩
    have hval:hval ds=a-b:=by
     have h1:=HDV.out
     have e1:hval ((halves a).take k)=a:=by
      show val 65536 _=_;rw[iC (gX WK.out)];exact cj a
     have e2:hval ((halves b).take k)=b:=by
      show val 65536 _=_;rw[iC (by rw[WM.out];exact hlen)];exact cj b
     rw[e1,e2] at h1;have h3:=yY HDH.out;rw[Pg.out] at h3;have hba:=HAB.out
     have:r=0:=by
      rcases oH r with h|h
      ·exact h
      ·have:r=1:=by omega
       subst this;omega
     subst this;omega
    rw[hval] at aY;have HOWN:=ag aY;clear aY;go_wp2_with fail
    refine dm.out _ _ ⟨.inr ⟨by have:=HAB.out;omega,v4,rfl,?_⟩,(Bx.out.trans (kc.out.mono YH)).trans (gj.mono ae)⟩;exact Own.mono HOWN.out ae
theorem xE (neg:Bool) (xs:List Nat) (v:Value) (w:World) (h:iP w v neg xs):
  Calls Tryz.prog 190 #[v] w λe w'=>e=.returned (.bool (fi neg xs))/\aD w w':=by
 obtain⟨p,c,rfl,hr,hl⟩:=h;obtain⟨p',c',hv,eS,gv,-⟩:=hr.u32;simp only[Value.slice.injEq,true_and] at hv;obtain⟨rfl,rfl⟩:=hv;refine bI λR' dm=> ?_;by_cases hx:xs=[]
 ·subst hx;simp only[List.length_nil,xm] at*;go_enter Tryz.func190,Tryz.ntmps190
  cases neg
  ·go_wp2
   exact dm.out _ _ ⟨aa,(aD.refl w).alloc _⟩
  ·go_wp2
   exact dm.out _ _ ⟨aa,(aD.refl w).alloc _⟩
 ·obtain⟨m,hm⟩:∃ m,xs.length=m+1:=⟨xs.length-1,by have:=List.length_pos_iff.2 hx;omega⟩;generalize hn:xs.length=n at*;obtain⟨b,off,x,rfl,hb,hxm,hc⟩:=hr.cellAt (k:=m) ae;have h1:fi neg xs=decide (x≠0):=BA (by rw[hn,hm];exact hxm);rw[h1] at dm;have hz:((n:Int) == 0)=false:=by rw[eQ];omega
  have hp:(0:Int)<(n:Int):=ae;have hw:IntKind.i64.wrap ((n:Int)-1)=(m:Int):=by rw[cO _ ae];omega
  have hlt:(m:Int)<(n:Int):=ae;have HN:=ag hn;have hpn:0<n:=ae;clear hx hm hn h1 hxm hr hl;go_enter Tryz.func190,Tryz.ntmps190
  by_cases uv:x=0
  ·subst uv;cases neg
   ·go_wp2
    exact dm.out _ _ ⟨aa,(aD.refl w).alloc _⟩
   ·go_wp2
    exact dm.out _ _ ⟨aa,(aD.refl w).alloc _⟩
  ·have EK:((x:Int) != 0)=true:=by rw[bne_iff_ne];omega
   rw[aw uv] at dm;clear uv;cases neg
   ·go_wp2
    exact dm.out _ _ ⟨aa,(aD.refl w).alloc _⟩
   ·go_wp2
    exact dm.out _ _ ⟨aa,(aD.refl w).alloc _⟩
theorem xF (v:Value) (X:Int) (k:Nat) (w0 w:World) (h:cX w0 v X k) (sj:aD w0 w):
  Calls Tryz.prog 196 #[v] w λe w'=>∃ u,e=.returned u/\df w0 u X/\aD w w':=by
 obtain⟨neg,xs,hn,rfl,hk⟩:=h;refine bI λR' dm=> ?_;have HN:=ag hn;obtain⟨p,c,rfl,hr,hl⟩:=hn;clear hr;go_enter uG,Tryz.ntmps196
 go_wp2_with fail
 refine (xE neg xs _ _ ((HN.out.bS sj).bS (((aD.refl w).alloc _).alloc _))).mono ?_;rintro e w1 ⟨rfl,aU⟩;obtain⟨b1,b2,rk⟩:=qS w 36 36 #[.bool neg,.slice p xs.length c] #[.bool false,.slice none 0 0];obtain⟨c1,c2,_,_⟩:=(b1.bS aU).two;obtain⟨c3,c4,f3,f4⟩:=(b2.bS aU).two;have JE:aD w w1:=rk.aN aU;cases hnr:fi neg xs
 ·have B2:=(b2.bS aU).dv (.bool false) (.slice none 0 0);have Bx:=JE.dv (b:=w.heap.size+1) ae (.bool false) (.slice none 0 0);go_wp2
  generalize (w1.setCell ⟨w.heap.size+1,0,none⟩ (.bool false)).setCell ⟨w.heap.size+1,1,none⟩ (.slice none 0 0)=w2 at*;obtain⟨d1,d2,_,_⟩:=B2.two;refine bodyPost_ret (v:=.agg #[.bool false,.slice none 0 0]) (by simp[results,Tryz.results196,go_sem,d1,d2]) aa (dm.out _ _ ⟨_,aa,?_,Bx⟩);rw[numOf,if_neg (by simp[hnr])];exact df.zero _
 ·have B2:=(b2.bS aU).dv (.bool neg) (.slice p xs.length c);have Bx:=JE.dv (b:=w.heap.size+1) ae (.bool neg) (.slice p xs.length c);go_wp2
  generalize (w1.setCell ⟨w.heap.size+1,0,none⟩ (.bool neg)).setCell ⟨w.heap.size+1,1,none⟩ (.slice p xs.length c)=w2 at*;obtain⟨d1,d2,_,_⟩:=B2.two;refine bodyPost_ret (v:=.agg #[.bool neg,.slice p xs.length c]) (by simp[results,Tryz.results196,go_sem,d1,d2]) aa (dm.out _ _ ⟨_,aa,?_,Bx⟩);rw[numOf,if_pos hnr];obtain⟨h1,h2⟩:=canon hl hnr;have:=HN.out;show iP _ _ _ _;rw[<-h1,<-h2];exact this
theorem lM (neg:Bool) (v:Value) (n:Nat) (xs:List Nat) (w:World) (hr:Rd w 1 v n (ints .u32 xs)) (hl:eB xs) (hn:n<=1073741824):
  Calls Tryz.prog 197 #[.bool neg,v] w λe w'=>∃ r,e=.returned r/\aE w' w.heap.size r (if neg=true then-(au xs:Int) else au xs)/\aD w w':=by
 obtain⟨p,c,rfl,_,_,_⟩:=hr.u32;have HR:=ag hr;have rh:=cN.new w 36 #[.bool false,.slice none 0 0];have rk:=(aD.refl w).alloc (.cells #[.bool false,.slice none 0 0] 36);clear hr;refine bI λR' dm=> ?_;go_enter wR,Tryz.ntmps197
 go_wp2_with fail
 refine (PQ _ n xs _ (HR.out.below rk) hl hn).mono ?_;rintro e w1 ⟨v1,rfl,Av,aU⟩;replace aU:aD _ w1:=aU;obtain⟨p1,k1,rfl,_,_,_⟩:=Own.form Av;generalize hL:(limbs (au xs)).length=L at*;have HL:=ag hL;have FC:=rh.bS aU;have FB:=rk.aN aU;obtain⟨c1,c2,f1,f2⟩:=FC.two;have Sk:=Own.mono Av rk.size;clear hL Av;cases neg
 ·have HO:=ag (Own.dv Sk FC eL (.bool false) (.slice p1 L k1));clear Sk;have Kf:=FC.dv (.bool (false)) (.slice p1 (L) k1);have Kg:=aD.dv FB (b:=w.heap.size) ae (.bool (false)) (.slice p1 (L) k1);go_wp2
  generalize (w1.setCell ⟨w.heap.size,0,none⟩ (.bool (false))).setCell ⟨w.heap.size,1,none⟩ (.slice p1 (L) k1)=wz at*;obtain⟨Kh,Ki,_,_⟩:=Kf.two;refine bodyPost_ret (v:=.agg #[.bool (false),.slice p1 (L) k1]) (by simp[results,Tryz.results197,go_sem,Kh,Ki]) aa (dm.out _ _ ?_);exact⟨_,aa,aE.of (neg:=false) (by rw[HL.out];exact HO.out) HL.out.symm _ cZ,Kg⟩
 ·have HO:=ag (Own.dv Sk FC eL (.bool (decide (0<L))) (.slice p1 L k1));clear Sk;have Kf:=FC.dv (.bool (decide (0<L))) (.slice p1 (L) k1);have Kg:=aD.dv FB (b:=w.heap.size) ae (.bool (decide (0<L))) (.slice p1 (L) k1);go_wp2
  generalize (w1.setCell ⟨w.heap.size,0,none⟩ (.bool (decide (0<L)))).setCell ⟨w.heap.size,1,none⟩ (.slice p1 (L) k1)=wz at*;obtain⟨Kh,Ki,_,_⟩:=Kf.two;refine bodyPost_ret (v:=.agg #[.bool (decide (0<L)),.slice p1 (L) k1]) (by simp[results,Tryz.results197,go_sem,Kh,Ki]) aa (dm.out _ _ ?_);exact⟨_,aa,aE.of (neg:=true) (by rw[HL.out];exact HO.out) HL.out.symm _ cZ,Kg⟩
def EU (X Y:Int):Int:=(X-Y).sign
variable {X Y:Int}
theorem Sq (h:X<Y):EU X Y= -1:=sign_neg ae
theorem Sr (h:Y<X):EU X Y=1:=fR ae
theorem IQ (a b:Nat):EU (a:Int) b=jx a b:=by
 rcases Ln a b with h|rfl|h
 ·rw[Sq ae,qh h]
 ·rw[yi];simp[EU]
 ·rw[Sr ae,qi h]
theorem PT (a b:Nat):EU (-(a:Int)) (-(b:Int))=jx b a:=by
 rw[<-IQ];unfold EU;congr 1;omega
theorem MW (v u:Value) (X Y:Int) (j k:Nat) (w:World) (hv:cX w v X j) (hu:cX w u Y k) (hj:j<=1073741824) (hk:k<=1073741824):
  Calls Tryz.prog 259 #[v,u] w λe w'=>e=.returned (.int .i64 (EU X Y))/\aD w w':=by
 obtain⟨s,p,n,c,rfl⟩:=hv.form;obtain⟨t,q,m,d,rfl⟩:=hu.form;refine bI λR' dm=> ?_;obtain⟨b1,b2,rk⟩:=qS w 36 36 #[.bool s,.slice p n c] #[.bool t,.slice q m d];have HJ:=ag (bG hv.len hj);have HK:=ag (bG hu.len hk);have HV:=ag hv;have HU:=ag hu;clear hv hu hj hk;go_enter Tryz.func259,Tryz.ntmps259
 go_wp2_with fail
 generalize (w.alloc _).alloc _=W at*;refine (xF _ X j w _ HV.out kj).mono ?_;rintro e wa ⟨ua,rfl,hua,hba⟩;obtain⟨s1,p1,n1,k1,rfl⟩:=hua.jj;obtain⟨a1,a2,a3,a4⟩:=(b1.bS hba).two;obtain⟨a5,a6,a7,a8⟩:=(b2.bS hba).two;have B1:=(b1.bS hba).dv (.bool s1) (.slice p1 n1 k1);have B2:=(b2.bS hba).fS (b':=w.heap.size) ae (.bool s1) (.slice p1 n1 k1);have hZ:=cd.XQ (cd.XQ (cd.aN (cd.refl W w.heap.size (w.heap.size+1)) hba) (j:=0) (.bool s1)) (j:=1) (.slice p1 n1 k1);have HB:=aD.dv (rk.aN hba) (b:=w.heap.size) ae (.bool s1) (.slice p1 n1 k1);have HPA:=ag hua.parts;have HSA:=ag hua.TV;have HUA:=ag hua;clear hua;go_wp2_with fail
 generalize (wa.setCell ⟨w.heap.size,0,none⟩ (.bool s1)).setCell ⟨w.heap.size,1,none⟩ (.slice p1 n1 k1)=wb at*;clear a1 a2 a3 a4 a5 a6 a7 a8 hba;refine (xF _ Y k w _ HU.out HB).mono ?_;rintro e wc ⟨ub,rfl,hub,JE⟩;obtain⟨s2,p2,n2,k2,rfl⟩:=hub.jj;obtain⟨a1,a2,a3,a4⟩:=(B1.bS JE).two;obtain⟨a5,a6,a7,a8⟩:=(B2.bS JE).two;have D1:=(B1.bS JE).fS (b':=w.heap.size+1) ae (.bool s2) (.slice p2 n2 k2);have D2:=(B2.bS JE).dv (.bool s2) (.slice p2 n2 k2);have hY:=cd.sQ (cd.sQ (cd.aN hZ JE) (j:=0) (.bool s2)) (j:=1) (.slice p2 n2 k2);have HD:=aD.dv (HB.aN JE) (b:=w.heap.size+1) ae (.bool s2) (.slice p2 n2 k2);have HPB:=ag hub.parts;have HSB:=ag hub.TV;have HUB:=ag hub;clear hub B1 B2 HB JE hZ;have EK:n1<=1073741824:=by rw[HPA.out.1];exact HJ.out
 have IU:n2<=1073741824:=by rw[HPB.out.1];exact HK.out
 have HX1:=ag EK;have Xs:=ag IU;clear EK IU;cases s1 <;> cases s2
 ·go_wp2_with fail
  generalize (wc.setCell ⟨w.heap.size+1,0,none⟩ (.bool false)).setCell ⟨w.heap.size+1,1,none⟩ (.slice p2 n2 k2)=wd at*;refine (Ay _ _ n1 n2 _ _ _ (HPA.out.2.1.below HD) (HPB.out.2.1.below HD) (aF _) (aF _) HX1.out Xs.out).mono ?_;rintro e we ⟨rfl,Uu⟩;rw[ax,ax,<-IQ];have e1:(X.natAbs:Int)=X:=by have:=HPA.out.2.2;simpa using this.symm
  have e2:(Y.natAbs:Int)=Y:=by have:=HPB.out.2.2;simpa using this.symm
  rw[e1,e2];go_wp2_with fail
  exact dm.out _ _ ⟨aa,HD.aN Uu⟩
 ·have h1:¬ X<0:=of_decide_eq_false HSA.out.symm;have h2:Y<0:=nO HSB.out.symm;rw[Sr ae] at dm;go_wp2
  exact dm.out _ _ ⟨aa,HD⟩
 ·have h1:X<0:=nO HSA.out.symm;have h2:¬ Y<0:=of_decide_eq_false HSB.out.symm;rw[Sq ae] at dm;go_wp2
  exact dm.out _ _ ⟨aa,HD⟩
 ·go_wp2_with fail
  generalize (wc.setCell ⟨w.heap.size+1,0,none⟩ (.bool true)).setCell ⟨w.heap.size+1,1,none⟩ (.slice p2 n2 k2)=wd at*;refine (Ay _ _ n2 n1 _ _ _ (HPB.out.2.1.below HD) (HPA.out.2.1.below HD) (aF _) (aF _) Xs.out HX1.out).mono ?_;rintro e we ⟨rfl,Uu⟩;rw[ax,ax,<-PT];have e1: -(X.natAbs:Int)=X:=by have:=HPA.out.2.2;simpa using this.symm
  have e2: -(Y.natAbs:Int)=Y:=by have:=HPB.out.2.2;simpa using this.symm
  rw[e1,e2];go_wp2_with fail
  exact dm.out _ _ ⟨aa,HD.aN Uu⟩
theorem eM (v:Value) (X:Int) (j:Nat) (w:World) (hv:cX w v X j) (hj:j<=1073741824):
  Calls Tryz.prog 191 #[v] w λe w'=>e=.returned (.int .i64 X.sign)/\aD w w':=by
 obtain⟨s,p,n,c,rfl⟩:=hv.form;refine bI λR' dm=> ?_;have rk:=(aD.refl w).alloc (.cells #[.bool s,.slice p n c] 36);have HV:=ag (hv.bS rk);have e1:=ag (show EU X 0=X.sign by simp[EU]);clear hv;go_enter kY,Tryz.ntmps191
 go_wp2_with fail
 generalize w.alloc _=W at*;refine (MW _ _ X 0 j 0 _ HV.out ((df.zero _).to (by simp[de])) hj ae).mono ?_;rintro e w1 ⟨rfl,aU⟩;rw[e1.out];go_wp2
 exact dm.out _ _ ⟨aa,rk.aN aU⟩
variable {U:TypeId} {T:TypeId->Bool} {w':World}
theorem Rd.kp {n:Nat} (h:Rd w 1 v n (ints .u32 xs)) (k:bg ⟨U,λ_=>True,T⟩ w w'):Rd w' 1 v n (ints .u32 xs):=by
 obtain⟨p,c,rfl,h1,h2,h3,h4⟩:=h;refine⟨p,c,aa,h1,h2,h3,λhn=> ?_⟩;obtain⟨b,off,hp,hc⟩:=h4 hn;refine⟨b,off,hp,λj u hj=> ?_⟩;obtain⟨x,hx,rfl⟩:=eG.1 (dz hj);exact k.cell _ _ aj (hc j _ hj)
theorem Own.kp {sz n:Nat} {cs:List Value} (h:w.ownsRow B UU sz v n cs) (k:bg ⟨UU,λ_=>True,T⟩ w w'):w'.ownsRow B UU sz v n cs:=by
 refine⟨h.1,?_⟩;rcases h.2 with h2|⟨g,cap,cur,hv,hb,hg,r⟩
 ·exact .inl h2
 ·exact .inr ⟨g,cap,cur,hv,hb,k.block _ g cur aa aj hg,r⟩
variable {s:Bool}
theorem iP.kp (h:iP w v s xs) (k:bg ⟨U,λ_=>True,T⟩ w w'):iP w' v s xs:=by
 obtain⟨p,c,hv,hr,hl⟩:=h;exact⟨p,c,hv,hr.kp k,hl⟩
variable {j:Nat}
theorem cX.kp (h:cX w v X j) (k:bg ⟨U,λ_=>True,T⟩ w w'):cX w' v X j:=by
 obtain⟨s,xs,hn,hx,hj⟩:=h;exact⟨s,xs,hn.kp k,hx,hj⟩
theorem df.kp (h:df w v X) (k:bg ⟨U,λ_=>True,T⟩ w w'):df w' v X:=iP.kp h k
theorem aE.kp (h:aE w B v X) (k:bg ⟨UU,λ_=>True,T⟩ w w'):aE w' B v X:=by
 obtain⟨p,c,hv,ho⟩:=h;exact⟨p,c,hv,Own.kp ho k⟩
theorem aE.in (h:aE w B v X) (hs:Sz X j):cX w v X j:=h.rd.to hs
def PU (X Y:Int):Rat:=if 0<Y/\Int.gcd X Y=1 then Rat.divInt X Y else 0
theorem sY (h:0<Y/\Int.gcd X Y=1):(PU X Y).num=X/\((PU X Y).den:Int)=Y:=by
 unfold PU;rw[if_pos h,Rat.num_divInt,Rat.den_divInt,if_neg ae,Int.gcd_comm,h.2];have:Y.sign=1:=fR h.1;rw[this];simp;omega
theorem PV (h:¬ (0<Y/\Int.gcd X Y=1)):PU X Y=0:=if_neg h
theorem IV (q:Rat):PU q.num q.den=q:=by
 have h:(0:Int)<q.den/\Int.gcd q.num q.den=1:=⟨by have:=q.den_nz;omega,by have:=q.reduced;simpa [Int.gcd,Nat.Coprime] using this⟩;obtain⟨h1,h2⟩:=sY h;exact Rat.ext h1 ae
def eI (w:World) (v:Value) (s:Bool) (xs:List Nat) (t:Bool) (ys:List Nat):Prop:=
 ∃ p c r d,v=.agg #[.bool s,.slice p xs.length c,.bool t,.slice r ys.length d]/\iP w (.agg #[.bool s,.slice p xs.length c]) s xs/\iP w (.agg #[.bool t,.slice r ys.length d]) t ys
def rq (s:Bool) (xs:List Nat) (t:Bool) (ys:List Nat):Rat:=PU (numOf s xs) (numOf t ys)
def aG (w:World) (v:Value) (q:Rat) (k:Nat):Prop:=∃ s xs t ys,eI w v s xs t ys/\q=rq s xs t ys/\xs.length<=k/\ys.length<=k
def bq (w:World) (v:Value) (q:Rat):Prop:=∃ s p n c t r m d,v=.agg #[.bool s,.slice p n c,.bool t,.slice r m d]/\df w (.agg #[.bool s,.slice p n c]) q.num/\df w (.agg #[.bool t,.slice r m d]) (q.den:Int)
def aZ (w:World) (B:Nat) (v:Value) (q:Rat):Prop:=∃ s p n c t r m d,v=.agg #[.bool s,.slice p n c,.bool t,.slice r m d]/\aE w B (.agg #[.bool s,.slice p n c]) q.num/\aE w B (.agg #[.bool t,.slice r m d]) (q.den:Int)
def dy (q:Rat) (k:Nat):Prop:=Sz q.num k/\Sz (q.den:Int) k
variable {t:Bool}
theorem eI.kp {ys:List Nat} (h:eI w v s xs t ys) (k:bg ⟨U,λ_=>True,T⟩ w w'):eI w' v s xs t ys:=by
 obtain⟨p,c,r,d,hv,h1,h2⟩:=h;exact⟨p,c,r,d,hv,h1.kp k,h2.kp k⟩
theorem aG.kp {q:Rat} (h:aG w v q j) (k:bg ⟨U,λ_=>True,T⟩ w w'):aG w' v q j:=by
 obtain⟨s,xs,t,ys,h1,h2⟩:=h;exact⟨s,xs,t,ys,h1.kp k,h2⟩
theorem bq.kp {q:Rat} (h:bq w v q) (k:bg ⟨U,λ_=>True,T⟩ w w'):bq w' v q:=by
 obtain⟨s,p,n,c,t,r,m,d,hv,h1,h2⟩:=h;exact⟨s,p,n,c,t,r,m,d,hv,h1.kp k,h2.kp k⟩
theorem aZ.kp {q:Rat} (h:aZ w B v q) (k:bg ⟨UU,λ_=>True,T⟩ w w'):aZ w' B v q:=by
 obtain⟨s,p,n,c,t,r,m,d,hv,h1,h2⟩:=h;exact⟨s,p,n,c,t,r,m,d,hv,h1.kp k,h2.kp k⟩
theorem aZ.mono {B':Nat} {q:Rat} (h:aZ w B v q) (hB:B'<=B):aZ w B' v q:=by
 obtain⟨s,p,n,c,t,r,m,d,hv,h1,h2⟩:=h;exact⟨s,p,n,c,t,r,m,d,hv,h1.mono hB,h2.mono hB⟩
theorem aZ.rd {q:Rat} (h:aZ w B v q):bq w v q:=by
 obtain⟨s,p,n,c,t,r,m,d,hv,h1,h2⟩:=h;exact⟨s,p,n,c,t,r,m,d,hv,h1.rd,h2.rd⟩
theorem aZ.cast {q q':Rat} (h:aZ w B v q) (e:q=q'):aZ w B v q':=e▸h
theorem df.len4 {n:Nat} (h:df w (.agg #[.bool s,.slice p n c]) X):s=decide (X<0)/\n=(limbs X.natAbs).length:=⟨h.TV,h.parts.1⟩
theorem bq.raw {q:Rat} (h:bq w v q):eI w v (decide (q.num<0)) (limbs q.num.natAbs) (decide ((q.den:Int)<0)) (limbs (q.den:Int).natAbs):=by
 obtain⟨s,p,n,c,t,r,m,d,rfl,h1,h2⟩:=h;obtain⟨rfl,rfl⟩:=h1.len4;obtain⟨rfl,rfl⟩:=h2.len4;exact⟨p,c,r,d,aa,h1,h2⟩
theorem bq.to {q:Rat} {k:Nat} (h:bq w v q) (hs:dy q k):aG w v q k:=
 ⟨_,_,_,_,h.raw,by unfold rq;rw[ji,ji,IV],hs.1,hs.2⟩
theorem aZ.in {q:Rat} {k:Nat} (h:aZ w B v q) (hs:dy q k):aG w v q k:=h.rd.to hs
theorem dy.mono {q:Rat} {k l:Nat} (h:dy q k) (RT:k<=l):dy q l:=⟨h.1.mono RT,h.2.mono RT⟩
theorem dy.zero:dy 0 1:=⟨Sz.zero.mono ae,Sz.small eL⟩
theorem dy.one:dy 1 1:=⟨Sz.small eL,Sz.small eL⟩
theorem yZ {k:Nat} (hl:eB xs) (h:xs.length<=k):Sz (numOf s xs) k:=bG (Im hl) h
theorem aG.sz {q:Rat} {k:Nat} (h:aG w v q k) (hk:1<=k):dy q k:=by
 obtain⟨s,xs,t,ys,⟨p,c,r,d,_,⟨_,_,_,_,l1⟩,⟨_,_,_,_,l2⟩⟩,rfl,h1,h2⟩:=h;unfold rq;by_cases hr:0<numOf t ys/\Int.gcd (numOf s xs) (numOf t ys)=1
 ·obtain⟨e1,e2⟩:=sY hr;exact⟨by rw[e1];exact yZ l1 h1,by rw[e2];exact yZ l2 h2⟩
 ·rw[PV hr];exact dy.zero.mono hk
theorem aG.form {q:Rat} {k:Nat} (h:aG w v q k):∃ s p n c t r m d,v=.agg #[.bool s,.slice p n c,.bool t,.slice r m d]:=by
 obtain⟨s,xs,t,ys,⟨p,c,r,d,hv,_⟩,_⟩:=h;exact⟨_,_,_,_,_,_,_,_,hv⟩
theorem bq.parts {r:Option Addr} {n:Nat} {q:Rat} (h:bq w (.agg #[.bool s,.slice p n c,.bool t,.slice r m d]) q):df w (.agg #[.bool s,.slice p n c]) q.num/\df w (.agg #[.bool t,.slice r m d]) (q.den:Int):=by
 obtain⟨s',p',n',c',t',r',m',d',hv,h1,h2⟩:=h;simp only[Value.agg.injEq,Array.mk.injEq,List.cons.injEq,and_true] at hv;obtain⟨e1,e2,e3,e4⟩:=hv;rw[e1,e2,e3,e4];exact⟨h1,h2⟩
theorem bq.form {q:Rat} (h:bq w v q):∃ s p n c t r m d,v=.agg #[.bool s,.slice p n c,.bool t,.slice r m d]:=by
 obtain⟨s,p,n,c,t,r,m,d,hv,_⟩:=h;exact⟨_,_,_,_,_,_,_,_,hv⟩
theorem aZ.form {q:Rat} (h:aZ w B v q):∃ s p n c t r m d,v=.agg #[.bool s,.slice p n c,.bool t,.slice r m d]:=h.rd.form
theorem Ds (hY:0<Y):X.fdiv (Int.gcd X Y:Int)=(Rat.divInt X Y).num/\Y.fdiv (Int.gcd X Y:Int)=((Rat.divInt X Y).den:Int):=by
 have hg:(0:Int)<(Int.gcd X Y:Int):=by
  have:Int.gcd X Y≠0:=λe=>by have:=(RE.1 e).2;omega
  omega
 rw[Rat.num_divInt,Rat.den_divInt,if_neg ae,fR hY,Int.one_mul,Int.gcd_comm Y X];refine⟨Xf _ ae,?_⟩;rw[Xf _ ae,Int.natCast_ediv]
 congr 1
 omega
theorem low_neg (hY:Y<0):X.fdiv (-(Int.gcd X Y:Int))=(Rat.divInt X Y).num/\Y.fdiv (-(Int.gcd X Y:Int))=((Rat.divInt X Y).den:Int):=by
 have e:Rat.divInt X Y=Rat.divInt (-X) (-Y):=(Rat.neg_divInt_neg X Y).symm;obtain⟨h1,h2⟩:=Ds (X:= -X) (Y:= -Y) ae;rw[Int.neg_gcd,Int.gcd_neg] at h1 h2;rw[e,<-h1,<-h2];have fd:∀ a b:Int,(-a).fdiv b=a.fdiv (-b):=λa b=>by rw[<-Int.neg_fdiv_neg,Int.neg_neg]
 exact⟨(fd _ _).symm,(fd _ _).symm⟩
end
set_option maxRecDepth 4000
section
open Go.RowKit
attribute [local irreducible] aB VS
theorem mS (v:Value) (X:Int) (k:Nat) (w:World) (h:cX w v X k):
  Calls Tryz.prog 196 #[v] w λe w'=>∃ u,e=.returned u/\df w' u X/\aD w w':=
 (xF v X k w w h (aD.refl w)).mono λe w' ⟨u,he,h1,h2⟩=>⟨u,he,h1.bS h2,h2⟩
variable {s:Bool} {X:Int} {w:World}
theorem df.row {p:Option Addr} {n c:Nat} (h:df w (.agg #[.bool s,.slice p n c]) X):Rd w 1 (.slice p n c) n (ints .u32 (limbs X.natAbs)):=h.parts.2.1
theorem df.n {w:World} {s:Bool} {p:Option Addr} {n c:Nat} {X:Int} (h:df w (.agg #[.bool s,.slice p n c]) X):n=(limbs X.natAbs).length:=h.parts.1
theorem sZ (h:s=decide (X<0)):X=if s=true then-(X.natAbs:Int) else X.natAbs:=by
 subst h;by_cases hx:X<0
 ·simp[hx];omega
 ·simp[hx];omega
variable {full:Array Oper} {C:Cx} {F:Fr} {K:Fr->Hp->World->Prop} {g:FuncId} {H:Hp} {r:List Oper} {vs:List Value} {o:Oper} {m:Option (List FuncId)}
theorem VO.cB {args:List AV} {v:Value} (e:stepOf C full F H o=.call (.fn g args)) (hv:jl args=some vs) (hf:nL C.P g) (con:∀ w1,bg C.K w w1->C.Old w1->Calls C.P g vs.toArray w1 λe w2=>e=.returned v/\aD w1 w2) (h:∀ w1,bg C.K w w1->C.Old w1->∀ w2,aD w1 w2->bg C.K w w2->bg C.K w1 w2->C.Old w2->aB C m full r K (F.dw o.dst (.val v)) H w2):aB C m full (o::r) K F H w:=
 VO.call e hv hf λw1 a b=>(con w1 a b).mono λ_ w2 x=>⟨v,x.1,x.2,h w1 a b w2 x.2⟩
variable {Φ:World->World->Value->Prop}
theorem VO.cR {args:List AV} (e:stepOf C full F H o=.call (.fn g args)) (hv:jl args=some vs) (hf:nL C.P g) (con:∀ w1,bg C.K w w1->C.Old w1->Calls C.P g vs.toArray w1 λe w2=>∃ r,e=.returned r/\Φ w1 w2 r/\aD w1 w2) (h:∀ w1,bg C.K w w1->C.Old w1->∀ w2 (s:Bool) (p:Option Addr) (n c:Nat) (t:Bool) (y:Option Addr) (i j:Nat),Φ w1 w2 (.agg #[.bool s,.slice p n c,.bool t,.slice y i j])->aD w1 w2->bg C.K w w2->bg C.K w1 w2->C.Old w2->aB C m full r K (F.dw o.dst (.val (.agg #[.bool s,.slice p n c,.bool t,.slice y i j]))) H w2) (hΦ:∀ w1 w2 r,Φ w1 w2 r->∃ s p n c t y i j,r=.agg #[.bool s,.slice p n c,.bool t,.slice y i j]:=by exact λ_ _ _ h=>h.form):aB C m full (o::r) K F H w:=
 VO.call e hv hf λw1 a b=>(con w1 a b).mono λ_ w2 ⟨r,x1,x2,x3⟩=>by
   obtain⟨s,p,n,c,t,y,i,j,rfl⟩:=hΦ _ _ _ x2;exact⟨_,x1,x3,h w1 a b w2 s p n c t y i j x2 x3⟩
theorem VO.cI {args:List AV} (e:stepOf C full F H o=.call (.fn g args)) (hv:jl args=some vs) (hf:nL C.P g) (con:∀ w1,bg C.K w w1->C.Old w1->Calls C.P g vs.toArray w1 λe w2=>∃ r,e=.returned r/\Φ w1 w2 r/\aD w1 w2) (h:∀ w1,bg C.K w w1->C.Old w1->∀ w2 (s:Bool) (p:Option Addr) (n c:Nat),Φ w1 w2 (.agg #[.bool s,.slice p n c])->aD w1 w2->bg C.K w w2->bg C.K w1 w2->C.Old w2->aB C m full r K (F.dw o.dst (.val (.agg #[.bool s,.slice p n c]))) H w2) (hΦ:∀ w1 w2 r,Φ w1 w2 r->∃ s p n c,r=.agg #[.bool s,.slice p n c]:=by exact λ_ _ _ h=>h.form):aB C m full (o::r) K F H w:=
 VO.call e hv hf λw1 a b=>(con w1 a b).mono λ_ w2 ⟨r,x1,x2,x3⟩=>by
   obtain⟨s,p,n,c,rfl⟩:=hΦ _ _ _ x2;exact⟨_,x1,x3,h w1 a b w2 s p n c x2 x3⟩
variable {P Q:Prop}
theorem af (h:Q) (i:Q->P:=by intro h;(repeat first|refine wN ?_|refine wP rfl ?_|refine Ur rfl ?_|refine cx_d rfl ?_|refine wO rfl rfl ?_);exact h):P:=i h
theorem aL {X:Prop} (hb:X) (h:Q) (i:X->Q->P:=by intro hb h;refine⟨_,rfl,hb,λa b c=>wV rfl ?_⟩;refine af ?_;revert a b c;exact h):P:=i hb h
theorem aC (h:Q) (i:Q->P:=by intro h;exact VS.ret (cS _ _) rfl rfl h):P:=i h
theorem zc (v:Value) (X:Int) (j:Nat) (w:World) (hv:cX w v X j) (hj:j<=1073741824):
  Calls Tryz.prog 194 #[v] w λe w'=>∃ r,e=.returned r/\aE w' w.heap.size r (-X)/\aD w w':=by
 obtain⟨s,p,n,c,rfl⟩:=hv.form;have hl:=hv.len;refine ai (C:=bd Tryz.prog w _) (args:=[_]) Tryz.func194 aa Tryz.ntmps194 (bF aa) ?_;refine af ?_;refine VO.call aa aa (fk uG) (λaK bE aX=>(mS _ X j aK (hv.kp bE)).mono ?_);rintro e w1 ⟨r1,rfl,h1,aU⟩;obtain⟨s1,p1,n1,c1,rfl⟩:=h1.jj;refine aL aU ?_;intro cQ _ bb1;refine VO.call aa aa (fk uG) (λbf cK bK=>(mS _ X j bf (hv.kp ((cQ).aN cK))).mono ?_);rintro e w2 ⟨r2,rfl,h2,bu⟩;obtain⟨s2,p2,n2,c2,rfl⟩:=h2.jj;refine aL bu ?_;intro dW _ bb2;refine VO.cI aa aa (fk wR) (λcV dS ea=>lM (!s1) _ n2 _ cV (h2.row.kp dS) (aF _) (by rw[h2.n];omega)) (λcV dS ea w3 s3 p3 n3 c3 h3 dH eV _ bb3=>wV aa ?_);refine af ?_;refine aC ?_;intro wz kz bz;refine⟨_,aa,aE.cast ((h3.kp kz).mono ea.size) ?_,bz⟩;rw[ax];have:=sZ h1.TV;cases s1 <;> simp at this ⊢ <;> omega
theorem ze (v u:Value) (X Y:Int) (j k:Nat) (w:World) (hv:cX w v X j) (hu:cX w u Y k) (hj:j<=536870912) (hk:k<=536870911):
  Calls Tryz.prog 140 #[v,u] w λe w'=>∃ r,e=.returned r/\aE w' w.heap.size r (X+Y)/\aD w w':=by
 obtain⟨s,p,n,c,rfl⟩:=hv.form;obtain⟨t,q,m,d,rfl⟩:=hu.form;have uw:=hv.len;have qN:=hu.len;refine ai (C:=bd Tryz.prog w _) (args:=[_,_]) Tryz.func140 aa Tryz.ntmps140 (bF aa) ?_;refine af ?_;refine VO.call aa aa (fk uG) (λaK bE aX=>(mS _ X j aK (hv.kp bE)).mono ?_);rintro e w1 ⟨r1,rfl,h1,aU⟩;obtain⟨s1,p1,n1,c1,rfl⟩:=h1.jj;refine aL aU ?_;intro cQ _ bb1;refine VO.call aa aa (fk uG) (λbf cK bK=>(mS _ Y k bf (hu.kp ((cQ).aN cK))).mono ?_);rintro e w2 ⟨r2,rfl,h2,bu⟩;obtain⟨s2,p2,n2,c2,rfl⟩:=h2.jj;refine aL bu ?_;intro dW _ bb2;have e1:=sZ h1.TV;have e2:=sZ h2.TV;have TF:n1<=536870912:=by rw[h1.n];omega
 have EN:n2<=536870911:=by rw[h2.n];omega
 by_cases hst:s1=s2
 ·subst hst;refine VS.aR aa cZ ?_;refine af ?_;refine VO.call aa aa (fk Tryz.func198) (λcV dS ea=>(Ut _ _ n1 n2 _ _ cV (h1.row.kp (cK.aN ((Kp.of bu).aN dS))) (h2.row.kp dS) (aF _) (aF _) ae ae).mono ?_);rintro e w3 ⟨v3,rfl,h3,dH⟩;obtain⟨p3,c3,rfl,_⟩:=Own.form h3;refine aL dH ?_;intro eV _ bb3;refine VO.cI aa aa (fk wR) (λey eU fc=>lM s1 _ _ _ ey (Rd.own (Own.kp h3 eU)) (aF _) (by have:=sum_len (a:=au (limbs X.natAbs)) (b:=au (limbs Y.natAbs)) (n:=n1) (m:=n2) (by rw[ax];exact h1.n) (by rw[ax];exact h2.n);omega)) (λey eU fc w4 s4 p4 n4 c4 h4 gj jc _ mw=>wV aa ?_);refine af ?_;refine aC ?_;intro wz kz bz;refine⟨_,aa,aE.cast ((h4.kp kz).mono fc.size) ?_,bz⟩;rw[ax,ax,ax];cases s1 <;> simp at e1 e2 ⊢ <;> omega
 ·refine VS.aO aa (by simpa using hst) ?_;refine af ?_;refine VO.call aa aa (fk Tryz.func199) (λcV dS ea=>(IP _ _ n1 n2 _ _ cV (h1.row.kp (cK.aN ((Kp.of bu).aN dS))) (h2.row.kp dS) (aF _) (aF _) ae ae).mono ?_);rintro e w3 ⟨h3,dH⟩;rw[ax,ax] at h3;rcases h3 with ⟨hlt,rfl⟩|⟨hle,v3,rfl,h3⟩
  ·refine aL dH ?_;intro eV _ bb3;refine VO.call aa aa (fk Tryz.func199) (λey eU fc=>(IP _ _ n2 n1 _ _ ey (h2.row.kp (dS.aN ((Kp.of dH).aN eU))) (h1.row.kp (cK.aN ((Kp.of bu).aN (dS.aN ((Kp.of dH).aN eU))))) (aF _) (aF _) ae ae).mono ?_);rintro e w4 ⟨h4,gj⟩;rw[ax,ax] at h4;rcases h4 with ⟨hlt',rfl⟩|⟨hle',v4,rfl,h4⟩
   ·omega
   ·obtain⟨p4,c4,rfl,_⟩:=Own.form h4;refine aL gj ?_;intro jc _ mw;refine VO.cI aa aa (fk wR) (λgn iz iZ=>lM s2 _ _ _ gn (Rd.own (Own.kp h4 iz)) (aF _) (by have:=eN (show Y.natAbs-X.natAbs<=Y.natAbs by omega);omega)) (λgn iz iZ w5 s5 p5 n5 c5 h5 je nw _ um=>wV aa ?_);refine af ?_;refine aC ?_;intro wz kz bz;refine⟨_,aa,aE.cast ((h5.kp kz).mono iZ.size) ?_,bz⟩;rw[ax];cases s1 <;> cases s2 <;> simp at e1 e2 hst ⊢ <;> omega
  ·obtain⟨p3,c3,rfl,_⟩:=Own.form h3;refine aL dH ?_;intro eV _ bb3;refine VO.cI aa aa (fk wR) (λgn iz iZ=>lM s1 _ _ _ gn (Rd.own (Own.kp h3 iz)) (aF _) (by have:=eN (show X.natAbs-Y.natAbs<=X.natAbs by omega);omega)) (λgn iz iZ w5 s5 p5 n5 c5 h5 je nw _ um=>wV aa ?_);refine af ?_;refine aC ?_;intro wz kz bz;refine⟨_,aa,aE.cast ((h5.kp kz).mono iZ.size) ?_,bz⟩;rw[ax];cases s1 <;> cases s2 <;> simp at e1 e2 hst ⊢ <;> omega
theorem MX (v u:Value) (X Y:Int) (j k:Nat) (w:World) (hv:cX w v X j) (hu:cX w u Y k) (hj:j<=536870912) (hk:k<=536870911):
  Calls Tryz.prog 261 #[v,u] w λe w'=>∃ r,e=.returned r/\aE w' w.heap.size r (X-Y)/\aD w w':=by
 obtain⟨s,p,n,c,rfl⟩:=hv.form;obtain⟨t,q,m,d,rfl⟩:=hu.form;refine ai (C:=bd Tryz.prog w _) (args:=[_,_]) Tryz.func261 aa Tryz.ntmps261 (bF aa) ?_;refine af ?_;refine VO.cI aa aa (fk Tryz.func194) (λaK bE aX=>zc _ Y k aK (hu.kp bE) ae) (λaK bE aX w1 s1 p1 n1 c1 h1 aU cQ _ bb1=>wV aa ?_);refine af ?_;refine VO.cI aa aa (fk Tryz.func140) (λbf cK bK=>ze _ _ X (-Y) j k bf (hv.kp ((cQ).aN cK)) ((h1.kp cK).in (Sz.neg hu.len)) hj hk) (λbf cK bK w2 s2 p2 n2 c2 h2 bu dW _ bb2=>wV aa ?_);refine af ?_;refine aC ?_;intro wz kz bz;exact⟨_,aa,aE.cast ((h2.kp kz).mono bK.size) (Int.sub_eq_add_neg).symm,bz⟩
end
section
open Go.RowKit
attribute [local irreducible] aB VS
set_option maxRecDepth 100000 in
theorem kH (p:Option Addr) (n c:Nat) (xs:List Nat) (w:World) (hr:Rd w 1 (.slice p n c) n (ints .i64 xs)) (hl:jA xs):
  Calls Tryz.prog 267 #[.slice p n c] w λe w'=>(∃ m,m<=n/\e=.returned (.slice p m c)/\halves (hval xs)=xs.take m)/\w=w':=by
 obtain⟨p',c',hv,eS,gv,gU⟩:=hr.i64;simp only[Value.slice.injEq,true_and] at hv;obtain⟨rfl,rfl⟩:=hv;have HX:Hid (xs.length=n):=gU;clear gU;refine bI λR' dm=> ?_;go_enter Bi,Tryz.ntmps267
 go_wp2
 go_loop [0] (λv=>∃ m,m<=n/\v=.slice p m c/\hval (xs.take m)=hval xs) (λv=>match v with | .slice _ m _=>m|_=>0)
 case atStart=>exact⟨n,bl _,aa,by rw[dM (gX HX.out)]⟩
 case round=>
  obtain⟨m,hm,rfl,hv⟩:=hrel;have HV:Hid (hval (xs.take m)=hval xs):=hv;clear hv;by_cases h0:m=0
  ·subst h0;go_wp2
   exact dm.out _ _ ⟨⟨0,eK _,aa,oi ae hl (eK _) HV.out (.inl aa)⟩,aa⟩
  ·obtain⟨b,off,x,rfl,hb,hx,hc⟩:=hr.cellAt (k:=m-1) ae;have Xs:Hid (xs[m-1]? =some x):=hx;clear hx;have h0':0<m:=ae;obtain⟨j,rfl⟩:∃ j,m=j+1:=⟨m-1,ae⟩;rw[Nat.add_sub_cancel] at hc;by_cases uv:x=0
   ·subst uv;go_wp2
    go_round
    case rel=>exact⟨j,ae,aa,(qg Xs.out).symm.trans HV.out⟩
    case measure=>simp
   ·have hx0':((x:Int) == 0)=false:=by rw[eQ];omega
    go_wp2
    exact dm.out _ _ ⟨⟨j+1,hm,aa,oi ae hl (by rw[HX.out];exact hm) HV.out (.inr ⟨x,Xs.out,uv⟩)⟩,aa⟩
set_option maxRecDepth 100000 in
theorem Kk (va:Value) (n:Nat) (xs:List Nat) (w:World) (hr:Rd w 1 va n (ints .u32 xs)) (hl:eB xs) (hn:n<=1073741824):
  Calls Tryz.prog 202 #[va] w λe w'=>∃ v',e=.returned v'/\w'.ownsRow w.heap.size 3 1 v' (halves (au xs)).length (ints .i64 (halves (au xs)))/\Below w.heap.size w w':=by
 obtain⟨p,c,rfl,eS,gv,gU⟩:=hr.u32;obtain⟨i0,hi,nW,sH,uN⟩:=info_parts Dr;obtain⟨B,hB⟩:∃ B,B=w.heap.size:=⟨_,aa⟩;have HB:=ag hB;have Hr:=ag hr;have HL:=ag hl;have HX:=ag gU;rw[<-hB];clear hr hl gU hB;refine bI λR' dm=> ?_;go_enter DN,Tryz.ntmps202
 go_wp2
 go_loopw [3,4] (λov iv wr=>Sm w B xs ov iv wr) (λ_ iv _=>n-(intOf iv).toNat)
 case atStart=>exact⟨0,[],eK _,aa,aa,gi.nil _,aa,oI _ _ _ _,gY _ _⟩
 case round=>
  obtain⟨k,hs,hk,rfl,hhl,hhh,hhv,aY,hb⟩:=hrel;have HK:=ag hk;have HO:=ag aY;have HHL:=ag hhl;have HHH:=ag hhh;have HHV:=ag hhv;have kc:=ag hb;have Dc:B<=wr.heap.size:=by have:=hb.size;have:=HB.out;omega
  have hkn':k<=n:=by rw[<-HX.out];exact hk
  clear hk aY hhl hhh hhv hb;by_cases yp:k<n
  ·obtain⟨b1,o1,x,rfl,aU,im,hcw⟩:=Hr.out.cellAt yp;have pO:=(kc.out.cell (p:=⟨b1,o1+k,none⟩) (by rw[HB.out];exact aU)).trans hcw;have hne:=Xp HO.out (b:=b1) (by rw[HB.out];exact aU);have Dd:=ag im;have pP:=HL.out.at im;have HNE:=ag hne;have KW:(0:Int)<=(k:Int):=ae;have iy:(k:Int)<(n:Int):=ae;clear im hcw hne;go_wp2_with fail
   go_region_held3 (λw'=>w'.cell? ⟨b1,o1+k,none⟩=some (.int .u32 (x:Int))) (first|exact pO|go_keep|exact HQ ES pO HNE.out)
    ((refine uM (by rfl) _ _ 315 (by rfl) B 3 i0 (.int .i64 0) 1 8 Hl hi nW sH uN aa ae _ (2*k) (ints .i64 hs) (by rfl) ((HO.out.alloc _).drew) _ 2 (ints .i64 [x%65536,x/65536]) (by rfl) (Rd.drew (Rd.lit2 (Sn pP) (Sp pP))) (rD .i64 [x%65536,x/65536]) (by unfold maxLen;omega) ae (by simp;omega) ?_;intro v1 w1 jd ES))
   have xR:=ag jd;have HG1:=ag ES;clear jd ES;go_wp2_with fail
   go_roundw
   case rel=>
    have hst:=IL Dd.out pP HHL.out HHH.out HHV.out;exact⟨k+1,hs++[x%65536,x/65536],by rw[HX.out];omega,by go_num,by simp[HHL.out];omega,hst.1,hst.2,by rw[kE];exact xR.out,Below.behind kc.out Dc HG1.out HO.out (bl _)⟩
   case measure=>simp[intOf];omega
  ·obtain rfl:k=n:=by omega
   obtain⟨p1,c1,Ox,_,_,_⟩:=Own.form HO.out;have HV1:=ag Ox;have sL:Hid (hval hs=au xs):=by show _=_;rw[HHV.out,cU (gX HX.out)]
   subst Ox;go_wp2_with fail
   refine (kH p1 (2*k) c1 hs _ (Rd.own HO.out) HHH.out).mono ?_;rintro e w2 ⟨⟨m,hm,rfl,Gw⟩,rfl⟩;have HC:=Own.cut HO.out hm Gw;rw[sL.out] at HC;have HC1:=ag HC.1;have HC2:=ag HC.2;clear HC Gw;go_wp2_with fail
   refine dm.out _ _ ⟨_,aa,?_,kc.out⟩;have:=HC1.out;rw[<-HC2.out] at this ⊢;exact this
theorem YK {n:Int} (h0: -9223372036854775808<=n) (h1:n<=9223372036854775807):uj (n.tmod 4294967296) [IntKind.i64.wrap (0-n.tmod 4294967296)]=((n.natAbs%4294967296:Nat):Int):=by
 have e:(n.tmod 4294967296).natAbs=n.natAbs%4294967296:=by rw[Int.natAbs_tmod];rfl
 have hs:(0<=n->0<=n.tmod 4294967296):=λh=>Int.tmod_nonneg _ h;have hs':(n<=0->n.tmod 4294967296<=0):=λh=>by have:=Int.tmod_nonneg 4294967296 (show 0<=-n by omega);rw[Int.neg_tmod] at this;omega
 rw[cO _ ae];unfold uj uj
 split <;> omega
theorem YL {n:Int} (h0: -9223372036854775808<=n) (h1:n<=9223372036854775807):uj (IntKind.i64.wrap (n.tdiv 4294967296)) [IntKind.i64.wrap (0-IntKind.i64.wrap (n.tdiv 4294967296))]=((n.natAbs/4294967296:Nat):Int):=by
 have e:(n.tdiv 4294967296).natAbs=n.natAbs/4294967296:=by rw[Int.natAbs_tdiv];rfl
 have hs:(0<=n->0<=n.tdiv 4294967296):=λh=>Int.tdiv_nonneg h ae;have hs':(n<=0->n.tdiv 4294967296<=0):=λh=>by have:=Int.tdiv_nonneg (show 0<=-n by omega) (show (0:Int)<=4294967296 by omega);rw[Int.neg_tdiv] at this;omega
 have hb:n.natAbs/4294967296<=2147483648:=ae;rw[cO (n.tdiv 4294967296) ae,cO _ ae];unfold uj uj
 split <;> omega
theorem Ss {x:Nat} (h:x<4294967296):IntKind.u32.wrap (x:Int)=(x:Int):=by rw[RI,Int.emod_eq_of_lt ae ae]
theorem lN (n:Int) (w:World) (h0: -9223372036854775808<=n) (h1:n<=9223372036854775807):
  Calls Tryz.prog 142 #[.int .i64 n] w λe w'=>∃ r,e=.returned r/\aE w' w.heap.size r n/\aD w w':=by
 have e1:=YK h0 h1;have e2:=YL h0 h1;have g1:=fY n.natAbs (show 0<4294967296 by omega);have g2:n.natAbs/4294967296<4294967296:=ae;refine ai (C:=bd Tryz.prog w _) (args:=[_]) tV aa Tryz.ntmps142 (bF aa) ?_;refine af ?_;refine VO.lit (cS _ _) [.int .u32 (IntKind.u32.wrap (uj (n.tmod 4294967296) [IntKind.i64.wrap (0-n.tmod 4294967296)])),.int .u32 (IntKind.u32.wrap (uj (IntKind.i64.wrap (n.tdiv 4294967296)) [IntKind.i64.wrap (0-IntKind.i64.wrap (n.tdiv 4294967296))]))] aa aa aa aa aa aa aa aa aa ae (λw2 b k2 b2 ho=>wV aa ?_);rw[e1,e2,Ss g1,Ss g2] at ho;refine VO.cI aa aa (fk wR) (λcV dS ea=>lM (decide (n<0)) _ 2 [n.natAbs%4294967296,n.natAbs/4294967296] cV (Rd.own (Own.kp (cs:=ints .u32 [n.natAbs%4294967296,n.natAbs/4294967296]) ho dS)) (gi.cons g1 (gi.cons g2 (gi.nil _))) ae) (λcV dS ea w3 s3 p3 n3 c3 h3 dH eV _ bb3=>wV aa ?_);refine af ?_;refine aC ?_;intro wz kz bz;refine⟨_,aa,aE.cast ((h3.kp kz).mono ea.size) ?_,bz⟩;rw[ia,ia,fQ];by_cases hn:n<0
 ·simp only[hn,decide_true,if_true];omega
 ·simp only[hn,decide_false];simp;omega
end
section
open Go.RowKit
def lv (ls:List Nat) (k j:Nat):Nat:=(if 2*j<k then ls.getD (2*j) 0 else 0)+65536*(if 2*j+1<k then ls.getD (2*j+1) 0 else 0)
def Gt (ls:List Nat) (m k:Nat):List Nat:=(List.range m).map (lv ls k)
theorem YM (ls:List Nat) (m:Nat):Gt ls m 0=List.replicate m 0:=by
 apply List.ext_getElem
 ·simp[Gt]
 ·intro i h1 h2;simp[Gt,lv]
variable {ls:List Nat} {m j x:Nat}
theorem YN (hx:ls[2*j]? =some x):(Gt ls m (2*j)).set j x=Gt ls m (2*j+1):=by
 apply List.ext_getElem
 ·simp[Gt]
 ·intro i h1 h2;simp only[Gt,List.getElem_set,List.getElem_map,List.getElem_range];by_cases e:j=i
  ·subst e;rw[if_pos rfl];unfold lv;rw[if_pos ae,if_neg ae,fG,hx];rfl
  ·rw[if_neg e];unfold lv
   congr 1
   ·by_cases h:2*i<2*j
    ·rw[if_pos h,if_pos ae]
    ·rw[if_neg h,if_neg ae]
   ·by_cases h:2*i+1<2*j
    ·rw[if_pos h,if_pos ae]
    ·rw[if_neg h,if_neg ae]
theorem lds_odd {y:Nat} (hy:(Gt ls m (2*j+1))[j]? =some y) (hx:ls[2*j+1]? =some x):(Gt ls m (2*j+1)).set j (y+65536*x)=Gt ls m (2*j+2):=by
 have hy':y=ls.getD (2*j) 0:=by
  obtain⟨h,rfl⟩:=cM.1 hy;simp only[Gt,List.getElem_map,List.getElem_range];unfold lv;rw[if_pos ae,if_neg ae];rfl
 apply List.ext_getElem
 ·simp[Gt]
 ·intro i h1 h2;simp only[Gt,List.getElem_set,List.getElem_map,List.getElem_range];by_cases e:j=i
  ·subst e;rw[if_pos rfl];unfold lv;rw[if_pos ae,if_pos ae,hy']
   congr 2
   rw[fG,hx];rfl
  ·rw[if_neg e];unfold lv
   congr 1
   ·by_cases h:2*i<2*j+1
    ·rw[if_pos h,if_pos ae]
    ·rw[if_neg h,if_neg ae]
   ·by_cases h:2*i+1<2*j+1
    ·rw[if_pos h,if_pos ae]
    ·rw[if_neg h,if_neg ae]
theorem lds_end (h:jA ls) (hm:ls.length<=2*m):au (Gt ls m ls.length)=hval ls/\eB (Gt ls m ls.length):=by
 have hb:∀ k,ls.getD k 0<65536:=λk=>ou h k
 have KX:∀ j,lv ls ls.length j=ls.getD (2*j) 0+65536*ls.getD (2*j+1) 0:=λj=>by
  unfold lv
  congr 1
  ·split
   ·rfl
   ·rw[kF ae]
  ·split
   ·rfl
   ·rw[kF ae]
 constructor
 ·have key:∀ j,j<=m->au ((Gt ls m ls.length).take j)=hval (ls.take (2*j)):=by
   intro j
   induction j with
   | zero=>intro _;rfl
   | succ j ih=>
     intro hj;rw[cH,ih ae]
     have e:(Gt ls m ls.length).getD j 0=ls.getD (2*j) 0+65536*ls.getD (2*j+1) 0:=by
      rw[fG];simp[Gt,show j<m by omega,KX]
     rw[e];show _=val 65536 (ls.take (2*j+1+1));rw[dZ,dZ,dp,<-fX,ir 65536 (2*j),Hx];show val 65536 _+_=_;rw[xY]
  have:=key m (bl _);rw[dM (by simp[Gt]),dM hm] at this;exact this
 ·intro x hx;obtain⟨j,_,rfl⟩:=eG.1 hx;rw[KX];have:=hb (2*j);have:=hb (2*j+1);omega
def Uv (w:World) (B g m:Nat) (ls:List Nat) (iv:Value) (wr:World):Prop:=
 ∃ k,k<=ls.length/\iv=.int .i64 (k:Int)/\wr.ownsRow B 78 1 (.slice (some ⟨g,0,none⟩) m m) m (ints .u32 (Gt ls m k))/\Below B w wr
set_option maxRecDepth 100000 in
theorem MY (va:Value) (n:Nat) (ls:List Nat) (w:World) (hr:Rd w 1 va n (ints .i64 ls)) (hl:jA ls) (hn:n<=2147483656):
  Calls Tryz.prog 200 #[va] w λe w'=>∃ v' xs,e=.returned v'/\xs.length=(n+1)/2/\w'.ownsRow w.heap.size 78 1 v' ((n+1)/2) (ints .u32 xs)/\au xs=hval ls/\eB xs/\Below w.heap.size w w':=by
 obtain⟨p,c,rfl,eS,gv,gU⟩:=hr.i64;obtain⟨i0,hi,nW,sH,uN⟩:=info_parts mP;obtain⟨B,hB⟩:∃ B,B=w.heap.size:=⟨_,aa⟩;have HB:=ag hB;have Hr:=ag hr;have HL:=ag hl;have HX:=ag gU;obtain⟨m,hm⟩:∃ m,m=(n+1)/2:=⟨_,aa⟩;have HM:=ag hm;have hmn:n<=2*m:=ae;have hmb:m<=1073741828:=ae;have hq:((n:Int)+1)/2=(m:Int):=ae;rw[<-hB,<-hm];clear hr hl gU hB hm;refine bI λR' dm=> ?_;go_enter Tryz.func200,Tryz.ntmps200
 go_wp2_with (at_make;refine wpList_make_full _ aa _ _ 23 aa B 78 i0 (.int .u32 0) 1 pW hi nW sH .i64 .i64 _ _ m aa aa hq hq (by rw[uN];omega) (by unfold maxLen;omega) (gX HB.out) ?_;intro w1 aY LF)
 have OV:=ag (Own.made aY);have Hb1:Hid (Below B w w1):=(gY _ _).grown LF (gX HB.out) (λk hk=>by cases hk);clear aY LF hq;go_wp2_with fail
 go_loopw [4] (λiv wr=>Uv w B w.heap.size m ls iv wr) (λiv _=>n-(intOf iv).toNat)
 case atStart=>exact⟨0,eK _,aa,by rw[YM];have:=OV.out;rw[pX] at this;exact this,Hb1.out⟩
 case round=>
  obtain⟨k,hk,rfl,aY,hb⟩:=hrel;have ug:=ag aY;have uO:=ag hb;have yp:k<=n:=by rw[<-HX.out];exact hk
  clear aY hb hk;by_cases hlt:k<n
  ·obtain⟨b1,o1,x,rfl,aU,im,hcw⟩:=Hr.out.cellAt hlt;have pO:=(uO.out.cell (p:=⟨b1,o1+k,none⟩) (by rw[HB.out];exact aU)).trans hcw;have pP:=HL.out.at im;have Dd:=ag im;obtain⟨j,hj⟩:∃ j,j=k/2:=⟨_,aa⟩;have Az:(k:Int)/2=(j:Int):=ae;have hjm:j<m:=ae;obtain⟨z,hz,hcell,Gy⟩:=Own.jT ug.out (j:=j) hjm;have HZ:=ag hz;have hw4:(x:Int)%4294967296=(x:Int):=ae;have hj0:(0:Int)<=(j:Int):=ae;have hj1:(j:Int)<(m:Int):=ae;have KW:(0:Int)<=(k:Int):=ae;have iy:(k:Int)<(n:Int):=ae;by_cases he:k%2=0
   ·have hke:((k:Int)%2 == 0)=true:=by rw[beq_iff_eq];omega
    have HK:Hid (k=2*j):=by show _=_;omega
    clear im hcw he hj hz;go_wp2_with fail
    go_roundw
    case rel=>
     refine⟨k+1,by rw[HX.out];omega,by go_num,?_,uO.out.setCell (Own.lt ug.out).1 _⟩;have h1:=Own.jy (j:=j) (x:=x) ug.out;rw[HK.out,YN (by rw[<-HK.out];exact Dd.out)] at h1;rw[HK.out];simpa using h1
    case measure=>simp[intOf];omega
   ·have hke:((k:Int)%2 == 0)=false:=by rw[eQ];omega
    have HK:Hid (k=2*j+1):=by show _=_;omega
    have hz4:z<65536:=by
     have:=HZ.out;rw[HK.out] at this;obtain⟨h,rfl⟩:=cM.1 this;simp only[Gt,List.getElem_map,List.getElem_range];unfold lv;rw[if_pos ae,if_neg ae];exact ou HL.out _
    have hw5:IntKind.u32.wrap (z+IntKind.u32.wrap (65536*(x:Int)))=((z+65536*x:Nat):Int):=by
     rw[RI,RI];omega
    clear im hcw he hj hz;go_wp2
    go_region
    all_goals
     go_wp2_with fail
     go_roundw
     case rel=>
      refine⟨k+1,by rw[HX.out];omega,by go_num,?_,(uO.out.setCell (Own.lt ug.out).1 _).drew⟩;have h1:=Own.jy (j:=j) (x:=z+65536*x) ug.out;rw[HK.out,lds_odd (by have:=HZ.out;rw[HK.out] at this;exact this) (by rw[<-HK.out];exact Dd.out)] at h1;rw[HK.out];have h2:(((z+65536*x:Nat):Int))=(z:Int)+65536*(x:Int):=ae;rw[h2] at h1;exact h1
     case measure=>simp[intOf];omega
  ·obtain rfl:k=n:=by omega
   obtain⟨e1,e2⟩:=lds_end HL.out (m:=m) (by rw[HX.out];exact hmn);rw[HX.out] at e1 e2;have E1:=ag e1;have E2:=ag e2;clear e1 e2;go_wp2_with fail
   exact dm.out _ _ ⟨_,_,aa,by simp[Gt],ug.out,E1.out,E2.out,uO.out⟩
end
section
open Go.RowKit
variable {xs:List Nat} {B j o:Nat}
theorem val_set {v:Nat} (h:xs[j]? =some o):val B (xs.set j v)+B^j*o=val B xs+B^j*v:=by
 obtain⟨hl,he⟩:=cM.1 h;have h1:xs=xs.take j++o::xs.drop (j+1):=by rw[<-he,<-tN hl,wB]
 have h2:xs.set j v=xs.take j++v::xs.drop (j+1):=by
  conv=>lhs;rw[h1]
  rw[xV _ _ (by rw[cw];omega)];rw[cw,gW ae,oJ];rfl
 have e1:val B xs=val B (xs.take j)+B^j*(o+B*val B (xs.drop (j+1))):=by
  conv=>lhs;rw[h1]
  rw[mj,cw,gW ae,jS]
 have e2:val B (xs.set j v)=val B (xs.take j)+B^j*(v+B*val B (xs.drop (j+1))):=by
  rw[h2,mj,cw,gW ae,jS]
 rw[e1,e2,dp,dp];omega
theorem jA.set (h:jA xs) {v:Nat} (hv:v<65536) (j:Nat):jA (xs.set j v):=λy hy=>by
 rcases Lf hy with h1|h1
 ·exact h y h1
 ·rw[h1];exact hv
variable {i x c:Nat}
theorem zf {os:List Nat} {k y s S Y:Nat} (ho:os[i+k]? =some o) (hs:s=x*y+o+c) (h:hval os+65536^(i+k)*c=S+65536^i*(x*Y)):
  hval (os.set (i+k) (s%65536))+65536^(i+(k+1))*(s/65536)=S+65536^i*(x*(Y+65536^k*y)):=by
 have h1:hval (os.set (i+k) (s%65536))+65536^(i+k)*o=hval os+65536^(i+k)*(s%65536):=val_set ho;have h2:65536^(i+(k+1))=65536^(i+k)*65536:=by rw[<-xY,ir]
 have h3:65536^(i+k)*s=65536^(i+k)*(s%65536)+65536^(i+k)*65536*(s/65536):=by
  rw[fX,<-dp,xX]
 have h4:65536^(i+k)*s=65536^(i+k)*(x*y)+65536^(i+k)*o+65536^(i+k)*c:=by rw[hs,dp,dp]
 have h5:65536^i*(x*(Y+65536^k*y))=65536^i*(x*Y)+65536^(i+k)*(x*y):=by
  rw[dp,dp,tX]
  congr 1
  rw[Hm x,fX]
 rw[h2,h5];omega
def iv (xs:List Nat):List AV:=(ints .i64 xs).map .val
theorem eb (xs:List Nat):(iv xs).length=xs.length:=by simp[iv]
theorem YO (h:xs[j]? =some x):(iv xs)[j]? =some (.val (.int .i64 (x:Int))):=by
 unfold iv;rw[gT,yl h];rfl
theorem vS (xs ys:List Nat):iv (xs++ys)=iv xs++iv ys:=by simp[iv,kE]
theorem rQ (xs:List Nat):(iv xs).all bO=true:=dx (eg.2 λu hu=>by obtain⟨_,_,rfl⟩:=eG.1 hu;rfl)
theorem St (xs:List Nat):(ints .i64 xs).all cJ=true:=eg.2 λu hu=>by obtain⟨_,_,rfl⟩:=eG.1 hu;rfl
theorem da (xs:List Nat):bM (iv xs)=[]:=ah _
theorem EW:∀ n:Nat,nK n [.val (.int .i64 0)]=iv (List.replicate n 0)
 | 0=>rfl
 | n+1=>by rw[nK,EW n,List.replicate_succ];rfl
variable {spare:List AV}
theorem iv_peek (h:xs[j]? =some x) (ho:o=j):∀ i u,[AV.val (.int .i64 (x:Int))][i]? =some u->(iv xs++spare)[o+i]? =some u:=by
 subst ho;intro i u hu;cases i with
 | zero=>
   cases hu;have hl:=(cM.1 (YO h)).1;rw[nP,jG hl,YO h]
 | succ i=>cases hu
theorem zg (h:xs[j]? =some x) (ho:o=j):∀ i u,[AV.val (.int .i64 (x:Int))][i]? =some u->(iv xs)[o+i]? =some u:=by
 have:=iv_peek (spare:=[]) h ho;simpa using this
theorem Dt (h:j<xs.length) (ho:o=j):(iv xs).take o++([AV.val (.int .i64 (x:Int))]++(iv xs).drop (o+1))=iv (xs.set j x):=by
 subst ho;have:iv (xs.set o x)=(iv xs).set o (.val (.int .i64 (x:Int))):=by simp[iv,<-ints_set,List.map_set]
 rw[this,List.set_eq_take_append_cons_drop,if_pos (by rw[eb];exact h)];rfl
variable {C:Cx} {β:Nat->Nat} {t:TypeId} {w:World}
theorem qu {n:Nat} (h:nX C β w i t (iv xs++spare)) (hn:xs.length=n) (eS:n<=c) (gv:c<=maxLen):Rd w 1 (.slice (some ⟨β i,0,none⟩) n c) n (ints .i64 xs):=by
 refine⟨_,c,aa,eS,gv,by simp[hn],λ_=>⟨_,_,rfl,λj u hj=> ?_⟩⟩;have hl:=(cM.1 hj).1;refine h.cls.cell ?_;rw[jR];simp only[List.map_append,List.getElem?_toArray];rw[jG (by simpa [iv] using hl)];unfold iv;rw[aV];exact hj
def ic (w:World) (B:Nat) (v:Value) (n:Nat) (xs:List Nat):Prop:=
 xs.length=n/\((v=.slice none 0 0/\n=0)\/∃ b c spare,v=.slice (some ⟨b,0,none⟩) n c/\B<=b/\cN w b 3 (ints .i64 xs++spare).toArray/\n<=c/\c<=maxLen/\n+spare.length=c/\spare.all cJ=true)
variable {v:Value}
theorem ic.own {n:Nat} (h:ic w B v n xs):w.ownsRow B 3 1 v n (ints .i64 xs):=by
 obtain⟨hn,⟨rfl,rfl⟩|⟨b,c,spare,rfl,hB,hc,h1,h2,h3,_⟩⟩:=h
 ·rw[rp hn];exact oI _ _ _ _
 ·refine⟨by simp[hn],.inr ⟨b,c,_,rfl,hB,hc,h1,h2,by simp[hn,h3],?_⟩⟩;rw[Xc (by simp[hn]),dM (by simp[hn])]
theorem ic.new {n:Nat} (h:ic w B v n xs):Yn C 3 1 B w v n (ints .i64 xs):=by
 obtain⟨hn,⟨rfl,rfl⟩|⟨b,c,spare,rfl,hB,hc,h1,h2,h3,h4⟩⟩:=h
 ·exact .inl ⟨aa,aa,by rw[rp hn];rfl⟩
 ·exact .inr ⟨b,c,spare,aa,hB,hc,St xs,h4,h1,by simpa [maxLen] using h2,by simp;omega⟩
theorem ic.nil (w:World) (B:Nat):ic w B (.slice none 0 0) 0 []:=⟨rfl,.inl ⟨rfl,rfl⟩⟩
variable {m:Nat}
theorem vm {n:Nat} (h:nX C β w i 3 (iv xs++spare)) (hn:xs.length=n) (hm:m<=n) (eS:n<=c) (gv:c<=maxLen) (hl:xs.length+spare.length=c) (hnw:∀ i g,C.Cl i g->C.w0.heap.size<=g:=by exact λ_ _ h=>h):
  ic w C.w0.heap.size (.slice (some ⟨β i,0,none⟩) m c) m (xs.take m):=by
 refine⟨by rw[cw];omega,.inr ⟨β i,c,ints .i64 (xs.drop m)++spare.map (AV.leaf β),rfl,hnw _ _ h.new,?_,ae,gv,by simp;omega,?_⟩⟩
 ·have:=h.cls;rw[aQ] at this;unfold iv at this;rw[aV] at this;rw[<-uF,<-kE,wB];exact this
 ·have hk:=h.ok;rw[kW,jP] at hk;rw[kW,St,gw hk.2];rfl
variable {cs:List AV}
theorem jB {news rest:List AV} (h:nX C β w i t cs) (e:cs=news++rest):∀ j u,(news.map (AV.leaf β))[j]? =some u->w.cell? ⟨β i,0+j,none⟩=some u:=by
 intro j u hj;have hl:=(cM.1 hj).1;refine h.cls.cell ?_;rw[e,jR,aQ];simp only[List.getElem?_toArray];rw[jG hl];exact hj
theorem ba (h:bM cs=[]) (i:Nat) (ρ:AV->Value):cs.map (AV.xS i ρ)=cs:=by
 induction cs with
 | nil=>rfl
 | cons x r ih=>
   rw[bM,List.append_eq_nil_iff] at h;rw[kX,ih h.2];have:x.xS i ρ=x:=by unfold AV.xS;rw[h.1];rfl
   rw[this]
theorem YP (i:Nat) (ρ:AV->Value) (xs:List Nat):(iv xs).map (AV.xS i ρ)=iv xs:=ba (da xs) i ρ
theorem Du {n:Nat} (h:halves (hval xs)=xs.take m) (hm:m<=n) (hn:xs.length=n):m=(halves (hval xs)).length:=by rw[h,cw];omega
end
end Go.Proofs.YtlifeokjcgngjaaGreat
