/-FR of the proof,laid behind one another. -/
import Derived.Test.YtphfjihmohoffaaGreatKGraphLess2
import Derived.RegionTactic
import Derived.Laws.Slices
import Derived.Deep.LoopGhost
import Derived.Scope
import Derived.Deep.AppendSrc
import Derived.Laws.AppendOwn
import Derived.MapKept
import Derived.Deep.RegionLaw
import Derived.Deep.DeepCutAuto
set_option linter.all false
set_option maxHeartbeats 64000000
namespace Go.Proofs.YtphfjihmohoffaaGreat
section
open Go.RowKit
section
variable {C:Cx} {β:Nat->Nat} {F:Fr} {H:Hp} {a:Act} {w w':World} {full:Array Oper} {o:Oper} {Q:Exit->Act->World->Prop}
theorem kj (hr:Rel C β F H a w) {b:Bool} (h:wants full F o=some b):Region.wanted o (yielded full a.tmps)=b:=by
 unfold wants at h;unfold Region.wanted
 split at h
 ·rename_i hg;rw[hg];cases h;rfl
 ·rename_i g want hg;rw[hg]
  split at h
  ·cases h
  ·rename_i d hd
   split at h
   ·rename_i c hc;cases h;have:=hr.tmp d _ hc
    have h2:a.tmps[d]? =some (.bool c):=by
     rw[cA] at this;cases he:a.tmps[d]? with
     | none=>rw[he] at this;simp[undef,AV.aN] at this
     | some z=>rw[he] at this;simpa [AV.aN] using this
    simp only[yielded,hd,Option.bind_some,h2];cases c <;> cases want <;> rfl
   ·rename_i vs hc;cases h;have:=hr.tmp d _ hc;simp only[yielded,hd,Option.bind_some];rw[cA] at this;cases he:a.tmps[d]? with
    | none=>rfl
    | some z=>
      rw[he] at this;simp[AV.aN] at this;subst this;rfl
   ·cases h
def Plain (s:Step):Prop:=s=.bad\/∃ v u,s=.dw v u
theorem Plain.bad:Plain .bad:=.inl rfl
theorem Plain.dw (v:AV) (u:Option (Nat×(TypeId×List AV))):Plain (.dw v u):=.inr ⟨v,u,rfl⟩
theorem Plain.xN (x:Option AV):Plain (Proofs.YtphfjihmohoffaaGreat.xN x):=by cases x <;> first|exact .bad|exact .dw _ _
theorem Plain.rA (x:Option Value):Plain (Proofs.YtphfjihmohoffaaGreat.rA x):=by cases x <;> first|exact .bad|exact .dw _ _
theorem Plain.wu (i:TI) (cs:List AV) (off:Nat):Plain (Proofs.YtphfjihmohoffaaGreat.wu i cs off):=by
 unfold Proofs.YtphfjihmohoffaaGreat.wu;rw[bU];cases Nat.ble (off+i.size) cs.length
 ·exact .bad
 ·cases i.agg
  ·show Plain (match (cs.drop off).take i.size with|x::_=>.dw x none|[]=>.bad)
   split <;> first|exact .bad|exact .dw _ _
  ·rw[cond_true,cond_true,kg];exact .dw _ _
theorem Plain.mj (i:TI) (b:Nat) (t:TypeId) (cs:List AV) (off:Nat) (v:AV):Plain (Proofs.YtphfjihmohoffaaGreat.mj i b t cs off v):=by
 unfold Proofs.YtphfjihmohoffaaGreat.mj;rw[bU];cases (Nat.ble (off+i.size) cs.length && Nat.beq (cellsOf v).length i.size && (cellsOf v).all aF) <;> first|exact .bad|exact .dw _ _
theorem Plain.nM (K:KC) (d:Nat) (t:TypeId) (cs:List AV) (h:Option (TypeId×List AV)):Plain (Proofs.YtphfjihmohoffaaGreat.nM K d t cs h):=by
 unfold Proofs.YtphfjihmohoffaaGreat.nM;cases h with
 | some _=>exact .bad
 | none=>dsimp only;rw[bU];cases (!K.fz t && cs.all aF) <;> first|exact .bad|exact .dw _ _
theorem Plain.tW (K:KC) (d:Nat) (e:TypeId) (n:Nat) (cs:List AV) (h:Option (TypeId×List AV)):Plain (Proofs.YtphfjihmohoffaaGreat.tW K d e n cs h):=by
 unfold Proofs.YtphfjihmohoffaaGreat.tW;cases h with
 | some _=>exact .bad
 | none=>dsimp only;rw[bU];cases (!K.fz e && cs.all aF) <;> first|exact .bad|exact .dw _ _
theorem Plain.kQ (i:TI) (cs:List AV) (k:Nat):Plain (Proofs.YtphfjihmohoffaaGreat.kQ i cs k):=by
 unfold Proofs.YtphfjihmohoffaaGreat.kQ
 split
 ·rw[bU,kg];exact .dw _ _
 ·split
  ·rename_i x _;cases ju x <;> first|exact .bad|exact .dw _ _
  ·exact .bad
 ·exact .bad
variable {s:Step}
theorem Plain.no_read (h:Plain s) {i:TI} {x:Addr} (e:s=.read i x):False:=by rcases h with h|⟨v,u,h⟩ <;> rw[h] at e <;> cases e
variable {cs:List AV}
theorem Plain.no_peek (h:Plain s) {i:TI} {x:Nat} (e:s=.dQ i cs x):False:=by rcases h with h|⟨v,u,h⟩ <;> rw[h] at e <;> cases e
variable {v:AV} {u:Option (Nat×(TypeId×List AV))} {φ:Prop}
theorem Plain.GQ (h:Plain s) (e:s=.cond φ v u):False:=by rcases h with h|⟨v,u,h⟩ <;> rw[h] at e <;> cases e
variable {d:jt}
theorem Plain.GR (h:Plain s) (e:s=.call d):False:=by rcases h with h|⟨v,u,h⟩ <;> rw[h] at e <;> cases e
inductive Kind (C:Cx) (F:Fr) (H:Hp) (o:Oper):Step->Prop
 | plain {s:Step}:Plain s->Kind C F H o s
 | read {t:TypeId} {y:Operand} {i:TI} {x:Addr}:o.op=.load t y->C.ti t=some i->ev F y=some (.val (.pointer (some x)))->Kind C F H o (.read i x)
 | dQ {t:TypeId} {y:Operand} {i:TI} {b off:Nat} {tb:TypeId} {cs:List AV}:o.op=.load t y->C.ti t=some i->ev F y=some (.pJ b off)->H b=some (tb,cs)->Kind C F H o (.dQ i cs off)
 | store {t:TypeId} {x y:Operand} {φ:Prop} {v:AV} {u:Option (Nat×(TypeId×List AV))}:o.op=.store t x y->Kind C F H o (.cond φ v u)
 | index {t:TypeId} {x y:Operand} {φ:Prop} {v:AV}:o.op=.indexAddr t x y->Kind C F H o (.cond φ v none)
 | slice {t:TypeId} {x:Operand} {lo hi:Option Operand} {φ:Prop} {v:AV}:o.op=.slice t x lo hi none->Kind C F H o (.cond φ v none)
 | make {t:TypeId} {l c:Operand} {φ:Prop} {v:AV} {d:Nat} {q:TypeId×List AV}:o.op=.makeSlice t l c->o.dst=some d->H d=none->Kind C F H o (.cond φ v (some (d,q)))
 | EE {t:TypeId} {x y:Operand} {φ:Prop} {v:AV}:o.op=.index t x y->Kind C F H o (.cond φ v none)
 | inv {c:Call} {x:Operand} {n:String} {vs:List AV}:o.op=.call c->c.callee=.invoke x n->pX F o.op.operands.toList=some vs->Kind C F H o (.call (.inv o vs))
 | fn {c:Call} {f:Operand} {g:FuncId} {first l cap:List AV}:o.op=.call c->c.callee=.value f->GL F f=some (g,first,cap)->pX F c.args.toList=some l->Kind C F H o (.call (.fn g (first++(l++cap))))
 | raw {vs:List AV}:pX F o.op.operands.toList=some vs->((∃ t n ps,o.op=.buildSlice t n ps/\C.SU t=true)\/∀ su l,3<=au su l o)->Kind C F H o (.call (.op o vs))
theorem Kind.bad:Kind C F H o .bad:=.plain .bad
theorem Kind.dw (v:AV) (u:Option (Nat×(TypeId×List AV))):Kind C F H o (.dw v u):=.plain (.dw v u)
theorem Kind.na (h:(∃ t n ps,o.op=.buildSlice t n ps/\C.SU t=true)\/∀ su l,3<=au su l o):Kind C F H o (Proofs.YtphfjihmohoffaaGreat.na F o):=by
 unfold Proofs.YtphfjihmohoffaaGreat.na
 split
 ·rename_i vs hv;exact .raw hv h
 ·exact .bad
theorem nP:Kind C F H o (act C F H o):=by
 unfold act;cases hop:o.op
 case load t y=>
  simp only
  split
  ·split
   ·exact .plain (.wu _ _ _)
   ·exact .bad
  ·rename_i b off i hx hi
   split
   ·rename_i tb cs hb;exact .dQ hop hi hx hb
   ·exact .bad
  ·rename_i x i hx hi;exact .read hop hi hx
  ·exact .bad
 case indexAddr t x ix=>
  simp only
  split
  ·split
   ·exact .index hop
   ·exact .bad
  ·split
   ·exact .index hop
   ·exact .bad
  ·split
   ·exact .index hop
   ·exact .bad
  ·split
   ·exact .index hop
   ·exact .bad
  ·exact .bad
 case index t x ix=>
  simp only
  split
  ·split
   ·exact .EE hop
   ·exact .bad
  ·exact .bad
 case makeInterface t x=>
  simp only
  split
  ·rename_i i _ _;cases i.kind.isSome || i.ptr <;> first|exact .bad|exact .dw _ _
  ·exact .bad
 case typeAssert x xt t ok=>
  cases ok
  ·simp only
   split
   ·generalize (_ && _)=q;cases q <;> first|exact .bad|exact .dw _ _
   ·exact .bad
  ·exact .na (.inr λsu l=>by unfold au;rw[hop];exact cz aa)
 case store t x y=>
  simp only
  split
  ·split
   ·exact .plain (.mj _ _ _ _ _ _)
   ·exact .bad
  ·split
   ·rename_i tb cs hb;unfold yH;generalize (_ && _)=q;cases q
    ·exact .bad
    ·exact .store hop
   ·exact .bad
  ·exact .bad
 case slice t x lo hi mx=>
  cases mx with
  | some m=>exact .na (.inr λsu l=>by unfold au;rw[hop];exact cz aa)
  | none=>
    simp only
    split
    ·split
     ·exact .slice hop
     ·exact .bad
    ·split
     ·exact .slice hop
     ·exact .bad
    ·exact .bad
 case makeSlice t l c=>
  simp only
  split
  ·rename_i d i k n k' m fC hi hl hc
   split
   ·split
    ·rename_i ie DT h0;generalize (_ && _)=q;cases q
     ·exact .bad
     ·exact .make hop fC h0
    ·exact .bad
   ·exact .bad
  ·exact .bad
 case call c=>
  simp only
  split
  ·split
   ·split
    ·split <;> first|exact .dw _ _|exact .bad
    ·split <;> first|exact .dw _ _|exact .bad
    ·rename_i s i _ _;cases sH i.zero
     ·exact .bad
     ·exact .dw _ _
    ·exact .bad
   ·exact .bad
  ·split <;> first|exact .dw _ _|exact .bad
  ·split <;> first|exact .dw _ _|exact .bad
  ·rename_i f lT
   split
   ·rename_i g first cap l hf hl
    rw[bU];exact .fn hop lT hf hl
   ·exact .bad
  ·rename_i x n lT;unfold EB
   split
   ·rename_i vs hv;exact .inv hop lT hv
   ·exact .bad
  ·rename_i h1 h2 h3 h4 h5;refine .na (.inr λsu l=> ?_);unfold au;rw[hop];simp only
   split
   ·rename_i e;exact absurd e h1
   ·rename_i e;exact absurd e h2
   ·rename_i e;exact absurd e h3
   ·exact aM _
   ·rename_i e;exact absurd e (h4 _)
   ·omega
 case move=>exact .plain (.xN _)
 case assign=>exact .plain (.xN _)
 case pick=>simp only;split <;> first|exact .plain (.xN _)|exact .bad
 case unOp op _ _=>
  cases op <;> simp only <;> first
   | exact .na (.inr λsu l=>by unfold au;rw[hop];exact cz aa)
   | (split <;> first|exact .dw _ _|exact .bad)
 case binOp=>simp only;split <;> first|exact .plain (.rA _)|exact .bad|(split <;> first|exact .plain (.rA _)|exact .bad)
 case convert=>simp only;split <;> first|exact .bad|(split <;> first|exact .dw _ _|exact .bad)
 case extract=>
  simp only
  split
  ·exact .plain (.rA _)
  ·split
   ·rename_i x _;cases eP x <;> first|exact .bad|exact .dw _ _
   ·exact .bad
  ·exact .bad
 case field=>simp only;split <;> first|exact .plain (.kQ _ _ _)|exact .bad
 case nilCheck=>simp only;split <;> first|exact .bad|exact .dw _ _
 case fieldAddr=>simp only;split <;> first|exact .bad|(split <;> first|exact .bad|exact .dw _ _)
 case build=>simp only;split <;> first|exact .bad|(split <;> first|exact .bad|(rw[bU,kg];exact .dw _ _))
 case alloc=>simp only;split <;> first|exact .bad|exact .plain (.nM _ _ _ _ _)
 case box=>simp only;split <;> first|exact .bad|exact .plain (.nM _ _ _ _ _)
 case makeFunc fn _ _=>
  cases fn <;> simp only <;> first
   | exact .na (.inr λsu l=>by unfold au;rw[hop];exact cz aa)
   | (split <;> first|exact .dw _ _|exact .bad|(split <;> first|exact .dw _ _|exact .bad))
 case buildSlice t n ps=>
  simp only;cases hsu:C.SU t
  ·rw[cond_false]
   split
   ·split
    ·split
     ·cases (Nat.beq _ _ && Nat.ble _ _)
      ·exact .bad
      ·exact .plain (.tW _ _ _ _ _ _)
     ·exact .bad
    ·exact .bad
   ·exact .bad
  ·exact .na (.inl ⟨t,n,ps,hop,hsu⟩)
 all_goals exact .na (.inr λsu l=>by unfold au;rw[hop];exact cz aa)
theorem Li {i:TI} {x:Addr} (h:act C F H o=.read i x):∃ t y,o.op=.load t y/\C.ti t=some i/\ev F y=some (.val (.pointer (some x))):=by
 have k:=nP (C:=C) (F:=F) (H:=H) (o:=o);rw[h] at k;cases k with
 | plain p=>exact (p.no_read aa).elim
 | read h1 h2 h3=>exact⟨_,_,h1,h2,h3⟩
theorem Ck {i:TI} {off:Nat} (h:act C F H o=.dQ i cs off):∃ t y b tb,o.op=.load t y/\C.ti t=some i/\ev F y=some (.pJ b off)/\H b=some (tb,cs):=by
 have k:=nP (C:=C) (F:=F) (H:=H) (o:=o);rw[h] at k;cases k with
 | plain p=>exact (p.no_peek aa).elim
 | dQ h1 h2 h3 h4=>exact⟨_,_,_,_,h1,h2,h3,h4⟩
theorem rF (h:act C F H o=.call d):(∃ c f g first l cap,o.op=.call c/\c.callee=.value f/\GL F f=some (g,first,cap)/\pX F c.args.toList=some l/\d=.fn g (first++(l++cap)))\/
  (∃ c x n vs,o.op=.call c/\c.callee=.invoke x n/\pX F o.op.operands.toList=some vs/\d=.inv o vs)\/
  (∃ vs,pX F o.op.operands.toList=some vs/\d=.op o vs/\((∃ t n ps,o.op=.buildSlice t n ps/\C.SU t=true)\/∀ su l,3<=au su l o)):=by
 have k:=nP (C:=C) (F:=F) (H:=H) (o:=o);rw[h] at k;cases k with
 | plain p=>exact (p.GR aa).elim
 | fn h1 h2 h3 h4=>exact .inl ⟨_,_,_,_,_,_,h1,h2,h3,h4,aa⟩
 | inv h1 h2 h3=>exact .inr (.inl ⟨_,_,_,_,h1,h2,h3,aa⟩)
 | raw h1 h2=>exact .inr (.inr ⟨_,h1,aa,h2⟩)
theorem tX (β:Nat->Nat) (z:List Value):∀ n,(dE n (z.map .val)).map (AV.leaf β)=(List.range (n*z.length)).map λi=>z.getD (i%z.length) undef
 | 0=>by simp[dE]
 | n+1=>by
   rw[dE,cT,aA,tX β z n];rw[Nat.succ_mul,po,List.range_add,cT,qQ]
   congr 1
   ·apply List.ext_getElem
    ·simp
    ·intro i h1 h2;simp only[List.getElem_map,List.getElem_range];rw[qN h1,eL,aZ h1];rfl
   ·apply vv;intro i _;simp
theorem yQ {z:List AV} (h:z.all aF=true):∀ n,(dE n z).all aF=true
 | 0=>rfl
 | n+1=>by rw[dE,nA,h,yQ h n];rfl
theorem wB {z:List AV} (h:aC z=[]):∀ n,aC (dE n z)=[]
 | 0=>rfl
 | n+1=>by rw[dE,eC,h,wB h n];rfl
theorem cO {z:List Value} (h:z.all aK=true):(z.map AV.val).all aF=true:=aW.2 λx hx=>by
 obtain⟨y,hy,rfl⟩:=cU.1 hx;exact aW.1 h y hy
theorem uW (hr:Rel C β F H a w) {x:Option Operand} {k:Option Int} (h:evo F x=some k):(k=none/\x.map a.eval=none)\/∃ kd n,k=some n/\x.map a.eval=some (.int kd n):=by
 cases x with
 | none=>cases h;exact .inl ⟨aa,aa⟩
 | some y=>
   unfold evo at h;simp only at h
   split at h
   ·rename_i kd n hn;cases h;exact .inr ⟨kd,n,aa,by rw[Option.map_some,hr.gz hn]⟩
   ·cases h
variable {P:Program} {t:TypeId}
theorem yR {e:TypeId} {sz:Nat} (hu:P.underlying t=some (.slice e)) (hsz:∀ w,(sizeOf e).run P w=.ok sz w) {p:Option Addr} {n c:Nat} {lo hi:Option Value} {l h:Option Int}
  (hl:(l=none/\lo=none)\/∃ kd k,l=some k/\lo=some (.int kd k)) (hh:(h=none/\hi=none)\/∃ kd k,h=some k/\hi=some (.int kd k))
  (h0:0<=l.getD 0) (h1:l.getD 0<=h.getD (n:Int)) (h2:h.getD (n:Int)<=(c:Int)) (w:World):
  (Instr.sliceAt t (.slice p n c) lo hi none).run P w=.ok (.slice (if c=(l.getD 0).toNat then p else p.map (·.add ((l.getD 0).toNat*sz))) ((h.getD (n:Int)).toNat-(l.getD 0).toNat) (c-(l.getD 0).toNat)) w:=by
 have hb:(Instr.sliceBounds true n c lo hi none).run P w=.ok ((l.getD 0).toNat,(h.getD (n:Int)).toNat,c) w:=by
  unfold Instr.sliceBounds;rcases hh with ⟨rfl,rfl⟩|⟨kd,k,rfl,rfl⟩ <;> rcases hl with ⟨rfl,rfl⟩|⟨kl,j,rfl,rfl⟩
  ·simp
  ·simp only[Option.getD_some,Option.getD_none] at h0 h1 h2 ⊢;simp[run_sliceBound w kl j n .sliceB h0 h1]
  ·simp only[Option.getD_some,Option.getD_none] at h0 h1 h2 ⊢;simp[run_sliceBound w kd k c .sliceAcap ae h2]
  ·simp only[Option.getD_some] at h0 h1 h2 ⊢;have:(j:Int)<=(k.toNat:Int):=ae;simp[run_sliceBound w kd k c .sliceAcap ae h2,run_sliceBound w kl j k.toNat .sliceB h0 this]
 have h3:(Instr.slice t (.slice p n c) lo hi none).run P w=.ok (.slice (if c=(l.getD 0).toNat then p else p.map (·.add ((l.getD 0).toNat*sz))) ((h.getD (n:Int)).toNat-(l.getD 0).toNat) (c-(l.getD 0).toNat)) w:=by
  unfold Instr.slice;simp only[Sem.run_bind,run_underlying hu,Result.andThen_ok,hb,hsz,Sem.run_pure]
 unfold Instr.sliceAt;simp only[Sem.run_bind,run_underlying hu,Result.andThen_ok];exact h3
theorem Cl (hC:C.Ok) {o:Oper} (h:act C F H o=.cond φ v u) (zY:φ) (hd:il C.N o.dst=true) (hr:Rel C β F H a w):cY C F H o a w v u:=by
 have hkind:(∃ t x y,o.op=.store t x y)\/(∃ t x y,o.op=.indexAddr t x y)\/(∃ t x lo hi,o.op=.slice t x lo hi none)\/(∃ t l c,o.op=.makeSlice t l c)\/∃ t x y,o.op=.index t x y:=by
  have k:=nP (C:=C) (F:=F) (H:=H) (o:=o);rw[h] at k;cases k with
  | plain p=>exact (p.GQ aa).elim
  | store e=>exact .inl ⟨_,_,_,e⟩
  | index e=>exact .inr (.inl ⟨_,_,_,e⟩)
  | slice e=>exact .inr (.inr (.inl ⟨_,_,_,_,e⟩))
  | make e=>exact .inr (.inr (.inr (.inl ⟨_,_,_,e⟩)))
  | EE e=>exact .inr (.inr (.inr (.inr ⟨_,_,_,e⟩)))
 unfold act at h;rcases hkind with ⟨t,x,y,hop⟩|⟨t,x,y,hop⟩|⟨t,x,lo,hi,hop⟩|⟨t,l,c,hop⟩|⟨t,x,y,hop⟩ <;> rw[hop] at h <;> simp only at h
 ·
  split at h
  ·split at h
   ·unfold mj at h
    revert h
    generalize (_ && _)=q;cases q <;> intro h
    ·cases h
    ·rw[cond_true,bU] at h;cases h
   ·cases h
  ·rename_i b off y' i hx hv hi
   split at h
   ·rename_i tb cs hb;obtain⟨rfl,h2,h3,rfl,rfl⟩:=II h;have he:a.eval x=.pointer (some ⟨β b,off,none⟩):=hr.ev hx;have hy:=hr.ev hv;obtain⟨k1,k2⟩:=hr.stored hb (by rw[h2];exact zY) h3 (λj hj=>hr.cW hv j (im (GO h3) hj));rw[h2] at k2;refine⟨β,_,k1,k2.put hd (λ_ hi=>by cases hi),.inr ⟨?_,aa⟩⟩;have:=rE hC hr hi hb zY h2 h3;simp[execOp,hop,he,hy,this]
   ·cases h
  ·cases h
 ·
  split at h
  ·rename_i b off n c kd k i hx hix hi
   split at h
   ·rename_i e sz hz;cases h;obtain⟨he,hsz⟩:=(hC t i hi).isSlice e sz hz;have IJ:a.eval x=.slice (some ⟨b,off,none⟩) n c:=hr.ev hx;refine cY.val hr hd ?_;simp[execOp,hop,IJ,hr.gz hix,Instr.indexAt,asIntOf,run_underlying he,hsz,zY,Addr.add_mid]
   ·cases h
  ·rename_i b off n c kd k i hx hix hi
   split at h
   ·rename_i e sz hz;cases h;obtain⟨he,hsz⟩:=(hC t i hi).isSlice e sz hz;have IJ:a.eval x=.slice (some ⟨β b,off,none⟩) n c:=hr.ev hx;refine cY.pure hr hd (λj hj=>hr.cW hx j (by simpa [AV.ids] using hj)) ?_;simp[execOp,hop,IJ,hr.gz hix,Instr.indexAt,asIntOf,run_underlying he,hsz,zY,Addr.add_mid,AV.aN]
   ·cases h
  ·rename_i b off kd k i hx hix hi
   split at h
   ·rename_i n hz;cases h;obtain⟨e,he,hsz,_⟩:=(hC t i hi).GJ n hz;have IJ:a.eval x=.pointer (some ⟨b,off,none⟩):=hr.ev hx;refine cY.val hr hd ?_;simp[execOp,hop,IJ,hr.gz hix,Instr.indexAt,Instr.sureAddr,asIntOf,run_underlying he,hsz,zY,Addr.add_mid]
   ·cases h
  ·rename_i b off kd k i hx hix hi
   split at h
   ·rename_i n hz;cases h;obtain⟨e,he,hsz,_⟩:=(hC t i hi).GJ n hz;have IJ:a.eval x=.pointer (some ⟨β b,off,none⟩):=hr.ev hx;refine cY.pure hr hd (λj hj=>hr.cW hx j (by simpa [AV.ids] using hj)) ?_;simp[execOp,hop,IJ,hr.gz hix,Instr.indexAt,Instr.sureAddr,asIntOf,run_underlying he,hsz,zY,Addr.add_mid,AV.aN]
   ·cases h
  ·cases h
 ·
  split at h
  ·rename_i b off n c i l hh hx hi hl hhh
   split at h
   ·rename_i e sz hz;cases h;obtain⟨he,hsz⟩:=(hC t i hi).isSlice e sz hz;have IJ:a.eval x=.slice (some ⟨β b,off,none⟩) n c:=hr.ev hx;refine cY.pure hr hd (λj hj=>hr.cW hx j (by simpa [AV.ids] using hj)) ?_;have:=yR (P:=C.P) he hsz (p:=some ⟨β b,off,none⟩) (uW hr hl) (uW hr hhh) zY.1 zY.2.1 zY.2.2.1 w
    have e4:(if c=(l.getD 0).toNat then some (⟨β b,off,none⟩:Addr) else (some (⟨β b,off,none⟩:Addr)).map (·.add ((l.getD 0).toNat*sz)))=some ⟨β b,if c=(l.getD 0).toNat then off else off+(l.getD 0).toNat*sz,none⟩:=by
     split
     ·rfl
     ·rw[Option.map_some,Addr.add_mid]
    rw[e4] at this;simp[execOp,hop,IJ,this,AV.aN]
   ·cases h
  ·rename_i p n c i l hh hx hi hl hhh
   split at h
   ·rename_i e sz hz;cases h;obtain⟨he,hsz⟩:=(hC t i hi).isSlice e sz hz;have IJ:a.eval x=.slice p n c:=hr.ev hx;have:=yR (P:=C.P) he hsz (p:=p) (uW hr hl) (uW hr hhh) zY.1 zY.2.1 zY.2.2.1 w;exact cY.val hr hd (by simp[execOp,hop,IJ,this])
   ·cases h
  ·cases h
 ·
  split at h
  ·rename_i d i k n k' m fC hi hl hc
   split at h
   ·rename_i e sz hz
    split at h
    ·rename_i ie DT h0;cases hq: !C.K.fz e && (!ie.void && ie.zero.cells.toList.all aK) with
     | false=>rw[hq] at h;cases h
     | true=>
       rw[hq] at h;cases h;rw[dR,dR] at hq;obtain⟨rfl,hn,hb⟩:=zY;obtain⟨hu,hsz⟩:=(hC t i hi).isSlice e sz hz;rw[fC] at hd;have hlt:d<C.N:=by simpa [il,Nat.blt_eq] using hd
       have hne:C.K.fz e=false:=by simpa using hq.1
       have IK:=hC e ie DT;have Lj:=IK.size;cases wC:C.P.info? e with
       | none=>rw[wC] at Lj;simp at Lj
       | some ti=>
         rw[wC] at Lj;simp only[Option.map_some,Option.some.injEq] at Lj;obtain⟨n',rfl⟩:∃ n':Nat,n=(n':Int):=⟨n.toNat,ae⟩;have hbt:ti.bytes<=24*ie.size:=cz (by have:=IK.bytes;rw[wC] at this;simpa using this);have hps:=IK.pos (by simpa using hq.2.1)
         have hle:n'<=140737488355328:=by
          have:(n':Int)*24<=n' *(24*(ie.size:Int)):=Int.mul_le_mul_of_nonneg_left ae ae;omega
         have Ib:(ti.bytes:Int)*(n':Int)<=281474976710656:=by
          have:(ti.bytes:Int)*(n':Int)<=(24*(ie.size:Int))*n':=Int.mul_le_mul_of_nonneg_right ae ae;rw[Int.mul_comm] at hb;omega
         have hrun:=run_make (P:=C.P) w t e ti ie.zero hu wC (by have:=IK.wk;rw[wC] at this;simpa using this) k k' (n':Int) (n':Int) ae (pw _) Ib ae
         have hcs:madeCells ie.zero.cells ((n':Int).toNat*ti.size)=((dE (n':Int).toNat (ie.zero.cells.toList.map .val)).map (AV.leaf β)).toArray:=by
          rw[tX,Lj,<-IK.tT];have hzp:0<ie.zero.cells.size:=by rw[IK.tT];exact hps
          apply jS.1;show ((Array.range _).map _).toList=(((List.range _).map _).toArray).toList;rw[lh,Array.toList_range];rw[yc];refine vv λq _=> ?_;have hlt:=cM q hzp;rw[eL,Gd,iI hlt];simp[hlt]
         obtain⟨bG,he,Br⟩:=hr.make hlt h0 hne (yQ (cO hq.2.2) (n':Int).toNat) (by rw[wB (aG _)];intro j hj;cases hj);refine⟨bG,_,aY.alloc _ _,Br.put (by rw[fC];exact hd) (uV aa),.inl ?_⟩;have he':(AV.row d 0 (n':Int).toNat (n':Int).toNat).aN bG=.slice (some ⟨w.heap.size,0,none⟩) (n':Int).toNat (n':Int).toNat:=by show Value.slice (some ⟨bG d,0,none⟩) _ _=_;rw[he]
         rw[he'];rw[hcs] at hrun;simp only[execOp,hop,hr.gz hl,hr.gz hc,Sem.run_bind,hrun,Result.andThen_ok,Sem.run_pure]
    ·cases h
   ·cases h
  ·cases h
 ·
  split at h
  ·rename_i cs kd k i hx hix hi
   split at h
   ·rename_i n hz;cases h;obtain⟨e,he,hsz,hg⟩:=(hC t i hi).GJ n hz;have IJ:a.eval x=.agg cs:=hr.ev hx;have hlt:k.toNat<cs.size:=ae;refine cY.val hr hd ?_
    have hp:∀ w,(part e cs (k.toNat*1)).run C.P w=.ok (cs.getD k.toNat undef) w:=λw=>by
     unfold part;simp[hg,hlt,Array.getD_eq_getD_getElem?]
    simp only[execOp,hop,IJ,hr.gz hix,Instr.index,asIntOf,Sem.run_bind,Sem.run_pure,run_underlying he,Result.andThen_ok];rw[if_pos ⟨zY.1,zY.2.1⟩];simp only[Sem.run_bind,hsz,Result.andThen_ok,hp]
   ·cases h
  ·cases h
variable {g:FuncId} {cap:List AV}
theorem Rel.GL (hr:Rel C β F H a w) {x:Operand} {first:List AV} (h:Proofs.YtphfjihmohoffaaGreat.GL F x=some (g,first,cap)):a.eval x=.func (.func g) (first.map (AV.aN β)).toArray (cap.map (AV.aN β)).toArray:=by
 unfold Proofs.YtphfjihmohoffaaGreat.GL at h
 split at h
 ·rename_i g' f c hx;cases h;have:=hr.ev hx;rw[eB,eB];exact this
 ·rename_i g' f c hx;cases h;have:=hr.ev hx;rw[eB,qQ];exact this
 ·cases h
theorem gl.GL (hc:gl F H) {x:Operand} {first:List AV} (h:Proofs.YtphfjihmohoffaaGreat.GL F x=some (g,first,cap)):(∀ v∈first,∀ i∈v.ids,H i≠none)/\∀ v∈cap,∀ i∈v.ids,H i≠none:=by
 have hm:∀ l:List Value,∀ v∈l.map AV.val,∀ i∈v.ids,H i≠none:=λl v hv i hi=>by
  obtain⟨u,_,rfl⟩:=cU.1 hv;cases hi
 unfold Proofs.YtphfjihmohoffaaGreat.GL at h
 split at h
 ·cases h;exact⟨hm _,hm _⟩
 ·rename_i g' f c hx;cases h;refine⟨hm _,λv hv i hi=> ?_⟩;obtain⟨p,hp,rfl⟩:=cU.1 hv;have:=hc.ev hx i;refine this ?_;rw[aH.1 hi];exact cU.2 ⟨p,hp,aa⟩
 ·cases h
theorem Hp.lD:∀ {ups:List (Nat×(TypeId×List AV))} {H:Hp} {i:Nat},(ups.map (·.1)).Nodup->(i∉ups.map (·.1)->(H.eO ups) i=H i)/\∀ c,(i,c)∈ups->(H.eO ups) i=some c
 | [],H,i,_=>⟨λ_=>rfl,λc h=>by cases h⟩
 | x::r,H,i,hn=>by
   rw[fV,ym] at hn;obtain⟨h1,h2⟩:=Hp.lD (ups:=r) (H:=H.put x.1 x.2) (i:=i) hn.2;refine⟨λhi=> ?_,λc hc=> ?_⟩
   ·rw[fV,fj,not_or] at hi;show ((H.put x.1 x.2).eO r) i=_;rw[h1 hi.2,Hp.bL,if_neg hi.1]
   ·rcases fj.1 hc with e|e
    ·show ((H.put x.1 x.2).eO r) i=_;rw[<-e] at hn ⊢;rw[(Hp.lD (ups:=r) (H:=H.put i c) (i:=i) hn.2).1 hn.1,Hp.bL,if_pos rfl]
    ·exact h2 c e
variable {ups:List (Nat×(TypeId×List AV))}
theorem Hp.gn (hn:(ups.map (·.1)).Nodup) (i:Nat):(∃ c,(i,c)∈ups/\(H.eO ups) i=some c)\/(i∉ups.map (·.1)/\(H.eO ups) i=H i):=by
 by_cases hm:i∈ups.map (·.1)
 ·obtain⟨x,hx,rfl⟩:=cU.1 hm;exact .inl ⟨x.2,hx,(Hp.lD hn).2 x.2 hx⟩
 ·exact .inr ⟨hm,(Hp.lD hn).1 hm⟩
variable {i:Nat}
theorem qe (h:(ups.map (·.1)).Nodup) (hi:i∈ups.map (·.1)):(H.eO ups) i≠none:=by
 obtain⟨x,hx,rfl⟩:=cU.1 hi;rw[(Hp.lD (H:=H) (i:=x.1) h).2 x.2 hx];simp
theorem iq (h:(ups.map (·.1)).Nodup) (hi:H i≠none):(H.eO ups) i≠none:=by
 rcases Hp.gn (H:=H) h i with ⟨c,_,e⟩|⟨_,e⟩
 ·rw[e];simp
 ·rw[e];exact hi
def tY (ρ:AV->Value) (β:Nat->Nat):Prop:=∀ x,aF x=true->ρ x=x.leaf β
def Lk (β:Nat->Nat) (x:AV):Value:=if aF x=true then x.leaf β else .bool false
theorem Ll (β:Nat->Nat):tY (Lk β) β:=λx hx=>if_pos hx
theorem rG (β:Nat->Nat) (x:AV):aK (Lk β x)=true:=by
 unfold Lk
 split
 ·rename_i h;exact nL h
 ·rfl
variable {x:AV}
theorem lids_ok (h:i∈x.dP):aF x=true\/False:=by
 cases x <;> first|exact .inl aa|cases h
theorem Cm:x.dP.any (Nat.beq i)=true↔i∈x.dP:=by
 rw[Bg];exact⟨λ⟨y,hy,e⟩=>(fT e)▸hy,λh=>⟨i,h,bc⟩⟩
variable {ρ:AV->Value}
theorem Cn (dH:tY ρ β) (i:Nat) (x:AV):(x.mi i ρ).leaf β=x.leaf β:=by
 unfold AV.mi;cases hb:x.dP.any (Nat.beq i) with
 | false=>rfl
 | true=>
   have:=(lids_ok (Cm.1 hb)).resolve_right id;exact dH x this
variable {j:Nat}
theorem Co (h:j∈(x.mi i ρ).dP):j∈x.dP/\i∉x.dP:=by
 unfold AV.mi at h;cases hb:x.dP.any (Nat.beq i) with
 | false=>
   rw[hb] at h;exact⟨h,λe=>by rw[Cm.2 e] at hb;cases hb⟩
 | true=>rw[hb] at h;cases h
theorem fgl_ok (dH:∀ x,aK (ρ x)=true) (h:aF x=true):aF (x.mi i ρ)=true:=by
 unfold AV.mi;cases x.dP.any (Nat.beq i) with
 | false=>exact h
 | true=>exact dH x
theorem sN (dH:tY ρ β) (i:Nat) (l:List AV):(l.map (AV.mi i ρ)).map (AV.leaf β)=l.map (AV.leaf β):=by
 rw[qQ];exact vv λx _=>Cn dH i x
variable {l:List AV}
theorem sO (h:j∈aC (l.map (AV.mi i ρ))):j∈aC l/\j≠i:=by
 obtain⟨y,hy,hj⟩:=bl.1 h;obtain⟨x,hx,rfl⟩:=cU.1 hy;obtain⟨h1,h2⟩:=Co hj;exact⟨bl.2 ⟨x,hx,h1⟩,λe=>h2 (e▸h1)⟩
theorem rH (hx:ju x=true) (h:j∈(x.mi i ρ).ids):j∈x.ids/\j≠i:=by
 have e:(x.mi i ρ).ids=(x.mi i ρ).dP:=by
  unfold AV.mi;cases x.dP.any (Nat.beq i)
  ·exact (pZ hx).symm
  ·rfl
 rw[e] at h;obtain⟨h1,h2⟩:=Co h;exact⟨pZ hx▸h1,λe=>h2 (e▸h1)⟩
theorem nQ (dH:tY ρ β) (i:Nat) (hx:ju x=true):(x.mi i ρ).aN β=x.aN β:=by
 rw[<-nN hx,<-Cn dH i x]
 symm
 refine nN ?_;unfold AV.mi;cases x.dP.any (Nat.beq i) <;> first|exact hx|rfl
theorem EF (hx:ju x=true):eP (x.mi i ρ)=true:=by
 unfold AV.mi;cases x.dP.any (Nat.beq i) with
 | false=>cases x <;> first|rfl|cases hx
 | true=>rfl
theorem Lm (dH:tY ρ β) (i:Nat) (x:AV):(x.fg1 i ρ).iQ β=x.iQ β:=by
 have key:∀ y:AV,ju y=true->(y.mi i ρ).iQ β=y.iQ β:=λy hy=>by
  rw[nO (EF hy),nO (by cases y <;> first|rfl|cases hy),nQ dH i hy]
 cases x with
 | agg l=>show Value.agg ((l.map _).map _).toArray=_;rw[sN dH];rfl
 | kc l=>rfl
 | val v=>rfl
 | box j o=>exact key _ aa
 | pJ j o=>exact key _ aa
 | row j o n c=>exact key _ aa
 | fn g f c=>exact key _ aa
theorem fg_conc (dH:tY ρ β) (i:Nat) (x:AV):(x.fg i ρ).aN β=x.aN β:=by
 cases x with
 | agg l=>show Value.agg ((l.map _).map _).toArray=_;rw[sN dH];rfl
 | kc l=>
   show Value.tuple ((l.map _).map _).toArray=Value.tuple (l.map _).toArray;rw[qQ]
   congr 2
   exact vv λy _=>Lm dH i y
 | val v=>rfl
 | box j o=>exact nQ dH i aa
 | pJ j o=>exact nQ dH i aa
 | row j o n c=>exact nQ dH i aa
 | fn g f c=>exact nQ dH i aa
theorem fg1_ids (h:j∈(x.fg1 i ρ).sF):j∈x.sF/\j≠i:=by
 have key:∀ y:AV,ju y=true->j∈(y.mi i ρ).sF->j∈y.sF/\j≠i:=λy hy h=>by
  have e1:(y.mi i ρ).sF=(y.mi i ρ).ids:=qa (by unfold AV.mi;cases y.dP.any (Nat.beq i) <;> first|rfl|(cases y <;> first|rfl|cases hy));have e2:y.sF=y.ids:=qa (by cases y <;> first|rfl|cases hy);rw[e2];exact rH hy (e1▸h)
 cases x with
 | agg l=>exact sO h
 | kc l=>cases h
 | val v=>cases h
 | box j o=>exact key _ aa h
 | pJ j o=>exact key _ aa h
 | row j o n c=>exact key _ aa h
 | fn g f c=>exact key _ aa h
theorem fg_ids (h:j∈(x.fg i ρ).ids):j∈x.ids/\j≠i:=by
 cases x with
 | agg l=>exact sO h
 | kc l=>
   obtain⟨y,hy,hj⟩:=mh.1 h;obtain⟨z,hz,rfl⟩:=cU.1 hy;obtain⟨h1,h2⟩:=fg1_ids hj;exact⟨mh.2 ⟨z,hz,h1⟩,h2⟩
 | val v=>cases h
 | box j o=>exact rH aa h
 | pJ j o=>exact rH aa h
 | row j o n c=>exact rH aa h
 | fn g f c=>exact rH aa h
variable {del:Option Nat}
theorem Hp.ea (h:(H.forget del ρ) i=some (t,cs)):del≠some i/\∃ cs0,H i=some (t,cs0)/\(tY ρ β->cs.map (AV.leaf β)=cs0.map (AV.leaf β))/\
  ((∀ x,aK (ρ x)=true)->cs0.all aF=true->cs.all aF=true)/\∀ j∈aC cs,j∈aC cs0/\del≠some j:=by
 cases del with
 | none=>exact⟨bc,cs,h,λ_=>aa,λ_ h=>h,λj hj=>⟨hj,bc⟩⟩
 | some d=>
   unfold Hp.forget at h;simp only at h;cases hb:Nat.beq i d with
   | true=>rw[hb] at h;cases h
   | false=>
     rw[hb,cond_false] at h
     split at h
     ·rename_i t' cs0 h0;cases h;refine⟨λe=> ?_,cs0,h0,λdH=>sN dH d cs0,λhc h1=>aW.2 λx hx=> ?_,λj hj=> ?_⟩
      ·cases e;rw[Nat.beq_refl] at hb;cases hb
      ·obtain⟨y,hy,rfl⟩:=cU.1 hx;exact fgl_ok hc (aW.1 h1 y hy)
      ·obtain⟨h1,h2⟩:=sO hj;exact⟨h1,λe=>h2 (by cases e;rfl)⟩
     ·cases h
theorem Hp.ir (h:H i≠none) (hd:del≠some i):(H.forget del ρ) i≠none:=by
 cases del with
 | none=>exact h
 | some d=>
   unfold Hp.forget;simp only;have:Nat.beq i d=false:=by rw[<-yj,Nat.beq_eq];exact λe=>hd (by rw[e])
   rw[this,cond_false];cases hh:H i with
   | none=>exact absurd hh h
   | some c=>simp
theorem Hp.Cp (h:H i=none):(H.forget del ρ) i=none:=by
 cases del with
 | none=>exact h
 | some d=>
   unfold Hp.forget;simp only;cases Nat.beq i d with
   | true=>rfl
   | false=>rw[cond_false,h]
theorem Fr.ea {d:Nat} (h:(F.forget del ρ) d=some v):∃ u,F d=some u/\(tY ρ β->v.aN β=u.aN β)/\∀ i∈v.ids,i∈u.ids/\del≠some i:=by
 cases del with
 | none=>exact⟨v,h,λ_=>aa,λi hi=>⟨hi,bc⟩⟩
 | some e=>
   unfold Fr.forget at h;simp only at h
   split at h
   ·rename_i u hu;cases h;refine⟨u,hu,λdH=>fg_conc dH e u,λi hi=> ?_⟩;obtain⟨h1,h2⟩:=fg_ids hi;exact⟨h1,λq=>h2 (by cases q;rfl)⟩
   ·cases h
theorem Rel.Cq (hr:Rel C β F H a w) (ids:List Nat):kh C β H ids w:=
 ⟨λi _ t cs h=>hr.own i t cs h,λi j _ _ h1 h2 e=>hr.apart i j h1 h2 e⟩
variable {C:Cx} {β:Nat->Nat} {w:World}
theorem IL (h:jv C β w i t cs) {p:Addr} {x:Int} (hp:p.block=β i) (hx:w.cell? p=some (.int .u32 x)):False:=by
 simp only[World.cell?,hp,show w.heap[β i]? =_ from h.cls] at hx;simp at hx;have hm:Value.int .u32 x∈cs.map (AV.leaf β):=dx (i:=p.off) (by simpa using hx.2);have:=aW.1 (dZ (β:=β) h.ok) _ hm;cases this
theorem wD (h:jv C β w i t cs) {t':TypeId} {cur:Array Value} (hf:C.K.fz t'=true) (hx:w.heap[β i]? =some (Obj.cells cur t' (0,0))):False:=by
 have:=(show w.heap[_]? =_ from h.cls).symm.trans hx;simp at this;rw[<-this.2,h.ty] at hf;cases hf
variable {bG:Nat->Nat}
theorem yJ.was {ids:List Nat} (h:yJ C β bG H ids del ups w w') (ho:kh C β H ids w) {b:Nat} (hb:b<w.heap.size) (hx:(∃ x∈ups,b=bG x.1)\/∃ i,del=some i/\b=β i):∃ i t cs,b=β i/\jv C β w i t cs:=by
 have key:∀ i,Reach H ids i->H i≠none->b=β i->∃ i t cs,b=β i/\jv C β w i t cs:=λi hi hn e=>by
  cases hh:H i with
  | none=>exact absurd hh hn
  | some c=>exact⟨i,c.1,c.2,e,ho.own i hi c.1 c.2 hh⟩
 rcases hx with ⟨x,hx,e⟩|⟨i,hi,e⟩
 ·rcases h.orig x hx with ⟨h1,h2,h3,h4⟩|⟨_,_,h3|⟨i,hi,h3⟩⟩
  ·exact key x.1 h3 h1 (e.trans h4)
  ·omega
  ·obtain⟨g1,g2⟩:=h.gone i hi;exact key i g1 g2 (e.trans h3)
 ·obtain⟨g1,g2⟩:=h.gone i hi;exact key i g1 g2 e
theorem yJ.kp {ids:List Nat} (h:yJ C β bG H ids del ups w w') (ho:kh C β H ids w):aY C.K w w':=by
 have key:∀ b,b<w.heap.size->C.K.S b->w'.heap[b]? =w.heap[b]?\/∃ i t cs,b=β i/\jv C β w i t cs:=λb hb hs=>by
  by_cases hx:(∃ x∈ups,b=bG x.1)\/∃ i,del=some i/\b=β i
  ·exact .inr (h.was ho hb hx)
  ·exact .inl (h.block b hb (λx hx' e=>hx (.inl ⟨x,hx',e⟩)) (λi hi e=>hx (.inr ⟨i,hi,e⟩)) (.inl hs))
 refine⟨h.size,λa x hs hx=> ?_,λt' g cur hf hs hg=> ?_,λg es c hg=> ?_⟩
 ·rcases key a.block (tw w a hx) hs with e|⟨i,t,cs,h1,h2⟩
  ·rw[pa (w:=w) e];exact hx
  ·exact (IL h2 h1 hx).elim
 ·rcases key g (np.1 hg).1 hs with e|⟨i,t,cs,h1,h2⟩
  ·rw[e];exact hg
  ·exact (wD h2 hf (h1▸hg)).elim
 ·have hlt:=(np.1 hg).1
  have no:∀ i t cs,g=β i->jv C β w i t cs->False:=λi t cs e o=>by
   have:=(show w.heap[_]? =_ from o.cls).symm.trans (e▸hg);simp at this
  refine (h.block g hlt (λx hx e=> ?_) (λi hi e=> ?_) (.inr λt cur _ e=>by rw[hg] at e;cases e)).trans hg
  ·obtain⟨i,t,cs,e1,e2⟩:=h.was ho hlt (.inl ⟨x,hx,e⟩);exact no i t cs e1 e2
  ·obtain⟨i,t,cs,e1,e2⟩:=h.was ho hlt (.inr ⟨i,hi,e⟩);exact no i t cs e1 e2
theorem yJ.old {ids:List Nat} (h:yJ C β bG H ids del ups w w') (ho:kh C β H ids w) (hb:C.Old w):C.Old w':=
 C.uS _ _ hb C.keep (h.kp ho) ⟨h.os,h.tape,h.output,h.size,λg hg=>by
   have up:∀ x∈ups,g=bG x.1->w'.heap[g]? =w.heap[g]?\/((∃ i,C.xM i g)/\∃ t cs,aI w' g t (List.toArray cs)/\C.K.fz t=false/\cs.all aK=true)\/¬ C.K.S g:=λx hx e=>by
    obtain⟨g1,g2,g3,g4⟩:=h.own x hx;exact .inr (.inl ⟨⟨x.1,e▸g1⟩,x.2.1,_,e▸g3,g2,dZ g4⟩)
   by_cases h1:∃ x∈ups,g=bG x.1
   ·obtain⟨x,hx,e⟩:=h1;exact up x hx e
   ·by_cases h2:∃ i,del=some i/\g=β i
    ·obtain⟨i,hi,e⟩:=h2;rcases h.left i hi with (e' |⟨t,cs,e1,e2,e3⟩)|⟨x,hx,e'⟩
     ·exact .inl (by rw[e];exact e')
     ·obtain⟨g1,g2⟩:=h.gone i hi;cases hh:H i with
      | none=>exact absurd hh g2
      | some c=>exact .inr (.inl ⟨⟨i,e▸(ho.own i g1 c.1 c.2 hh).new⟩,t,cs,e▸e1,e2,e3⟩)
     ·exact up x hx (e.trans e'.symm)
    ·by_cases h3:C.K.S g
     ·exact .inl (h.block g hg (λx hx e=>h1 ⟨x,hx,e⟩) (λi hi e=>h2 ⟨i,hi,e⟩) (.inl h3))
     ·exact .inr (.inr h3)⟩
theorem yJ.same {ids:List Nat} (h:yJ C β bG H ids del ups w w') (h1:H j≠none) (h2:del≠some j):bG j=β j:=by
 by_cases hm:j∈ups.map (·.1)
 ·obtain⟨x,hx,rfl⟩:=cU.1 hm;rcases h.orig x hx with ⟨_,_,_,e⟩|⟨e|e,_⟩
  ·exact e
  ·exact absurd e h1
  ·exact absurd e h2
 ·exact h.agree j hm
theorem yJ.hp {ids:List Nat} (h:yJ C β bG H ids del ups w w') (jw:zW C H) (dH:∀ x,aK (ρ x)=true):zW C ((H.forget del ρ).eO ups):=by
 refine⟨λi t cs hi=> ?_,λi t cs hi j hj=> ?_,λi hi=> ?_⟩
 ·rcases Hp.gn (H:=H.forget del ρ) h.once i with ⟨c,hc,e⟩|⟨_,e⟩
  ·rw[e] at hi;cases hi;have:=h.own _ hc;exact⟨this.ty,this.ok⟩
  ·rw[e] at hi;obtain⟨_,cs0,h0,_,h2,_⟩:=Hp.ea (β:=β) hi;obtain⟨g1,g2⟩:=jw.ok i t cs0 h0;exact⟨g1,h2 dH g2⟩
 ·have key:j∈ups.map (·.1)\/(H j≠none/\del≠some j):=by
   rcases Hp.gn (H:=H.forget del ρ) h.once i with ⟨c,hc,e⟩|⟨_,e⟩
   ·rw[e] at hi;cases hi;exact h.closed _ hc j hj
   ·rw[e] at hi;obtain⟨_,cs0,h0,_,_,h3⟩:=Hp.ea (β:=β) hi;obtain⟨g1,g2⟩:=h3 j hj;exact .inr ⟨jw.closed i t cs0 h0 j g1,g2⟩
  rcases key with e|⟨e1,e2⟩
  ·exact qe h.once e
  ·exact iq h.once (Hp.ir e1 e2)
 ·rcases Hp.gn (H:=H.forget del ρ) h.once i with ⟨c,hc,e⟩|⟨_,e⟩
  ·rcases h.orig _ hc with ⟨h1,_⟩|⟨_,h2,_⟩
   ·exact absurd (jw.GN i hi) h1
   ·simp only at h2;have:=C.topN;omega
  ·rw[e,Hp.Cp (jw.GN i hi)]
theorem Rel.changed (hr:Rel C β F H a w) {ids:List Nat} (h:yJ C β bG H ids del ups w w'):Rel C bG (F.forget del (Lk β)) ((H.forget del (Lk β)).eO ups) a w':=by
 have ho:=hr.Cq ids
 have lt:∀ i,H i≠none->β i<w.heap.size:=λi hi=>by
  cases hh:H i with
  | none=>exact absurd hh hi
  | some x=>exact (hr.own i x.1 x.2 hh).cls.lt
 have away:∀ i,H i≠none->del≠some i->i∉ups.map (·.1)->∀ x∈ups,β i≠bG x.1:=λi hi hd hn x hx e=>by
  rcases h.orig x hx with ⟨h1,h2,_,h4⟩|⟨_,_,h3|⟨d,hd',h3⟩⟩
  ·exact hn (by rw[hr.apart i x.1 hi h1 (e.trans h4)];exact cU.2 ⟨x,hx,aa⟩)
  ·have:=lt i hi;omega
  ·exact hd (by rw[hr.apart i d hi (h.gone d hd').2 (e.trans h3)];exact hd')
 have at_:∀ i t cs,((H.forget del (Lk β)).eO ups) i=some (t,cs)->((i,(t,cs))∈ups)\/(i∉ups.map (·.1)/\del≠some i/\∃ cs0,H i=some (t,cs0)/\cs.map (AV.leaf β)=cs0.map (AV.leaf β)/\cs.all aF=true/\∀ j∈aC cs,j∈aC cs0/\del≠some j):=λi t cs hi=>by
  rcases Hp.gn (H:=H.forget del (Lk β)) h.once i with ⟨c,hc,e⟩|⟨hn,e⟩
  ·rw[e] at hi;cases hi;exact .inl hc
  ·rw[e] at hi;obtain⟨h1,cs0,h0,h2,h3,h4⟩:=Hp.ea (β:=β) hi;exact .inr ⟨hn,h1,cs0,h0,h2 (Ll β),h3 (rG β) (hr.own i t cs0 h0).ok,h4⟩
 refine⟨hr.defers,hr.size,λd v hv=> ?_,λi t cs hi=> ?_,λi j hi hj e=> ?_,λd v hv i hi=> ?_,λd v hv=> ?_,h.hp hr.hp (rG β),h.old ho hr.old⟩
 ·obtain⟨u,hu,h1,h2⟩:=Fr.ea (β:=β) hv;rw[hr.tmp d u hu,<-h1 (Ll β)];exact (AV.wj λi hi=>h.same (hr.closed d u hu i (h2 i hi).1) (h2 i hi).2).symm
 ·rcases at_ i t cs hi with e|⟨hn,hd,cs0,h0,h1,h2,h3⟩
  ·exact h.own _ e
  ·have hs:H i≠none:=by rw[h0];simp
   obtain⟨g1,g2,g3,g4⟩:=hr.own i t cs0 h0;refine⟨by rw[h.same hs hd];exact g1,g2,?_,h2⟩;rw[h.same hs hd,ik (l:=cs) (β:=β) (λj hj=>h.same (hr.hp.closed i t cs0 h0 j (h3 j hj).1) (h3 j hj).2),h1];exact (h.block (β i) g3.lt (away i hs hd hn) (λd hd' e=>hd (by rw[hr.apart i d hs (h.gone d hd').2 e];exact hd')) (.inr λt' cur hf hc=>wD ⟨g1,g2,g3,g4⟩ hf hc)).trans g3
 ·have Ln:∀ i,((H.forget del (Lk β)).eO ups) i≠none->(∃ c,(i,c)∈ups)\/(i∉ups.map (·.1)/\del≠some i/\H i≠none):=λi hi=>by
   cases hh:((H.forget del (Lk β)).eO ups) i with
   | none=>exact absurd hh hi
   | some c=>
     rcases at_ i c.1 c.2 hh with e|⟨hn,hd,cs0,h0,_⟩
     ·exact .inl ⟨c,e⟩
     ·exact .inr ⟨hn,hd,by rw[h0];simp⟩
  rcases Ln i hi with ⟨c,hc⟩|⟨n1,d1,s1⟩ <;> rcases Ln j hj with ⟨c',hc'⟩|⟨n2,d2,s2⟩
  ·exact h.apart _ hc _ hc' e
  ·rw[h.same s2 d2] at e;exact absurd e.symm (away j s2 d2 n2 _ hc)
  ·rw[h.same s1 d1] at e;exact absurd e (away i s1 d1 n1 _ hc')
  ·rw[h.same s1 d1,h.same s2 d2] at e;exact hr.apart i j s1 s2 e
 ·obtain⟨u,hu,_,h2⟩:=Fr.ea (β:=β) hv;obtain⟨g1,g2⟩:=h2 i hi;exact iq h.once (Hp.ir (hr.closed d u hu i g1) g2)
 ·obtain⟨u,hu,_⟩:=Fr.ea (β:=β) hv;exact hr.fits d u hu
theorem rI (h:rC P g) (args:Array Value) (w:World):(callFunc g args).run P w=.ok (.enter g args) w:=by
 obtain⟨fn,h1,h2,h3⟩:=h;have h2':fn.name≠"runtime.NumGoroutine":=by simpa using h2
 have h3':fn.body≠none:=λe=>by simp[e] at h3
 simp[callFunc,h1,h2',h3']
theorem gO (h:stepOf C full F H o≠.bad):il C.N o.dst=true/\((wants full F o=some false/\stepOf C full F H o=.dw (.val undef) none)\/(wants full F o=some true/\stepOf C full F H o=act C F H o)):=by
 unfold stepOf at h ⊢;cases hd:il C.N o.dst with
 | false=>rw[hd] at h;exact absurd aa h
 | true=>
   refine⟨aa,?_⟩;rw[hd] at h;cases hw:wants full F o with
   | none=>rw[hw] at h;exact absurd aa h
   | some b=>cases b <;> simp
variable {next:Act->World->Prop}
theorem Oper.nR {v:Value} (h:(execOp a.eval o).run P w=.ok (.value v) w') (hn:next (a.put o.dst v) w'):o.wp P a w next Q:=by
 unfold Oper.wp;rw[h];exact hn
theorem Oper.wp_skip (h:(execOp a.eval o).run P w=.ok .skip w') (hn:next (a.put o.dst undef) w'):o.wp P a w next Q:=by
 unfold Oper.wp;rw[h];exact hn
theorem Oper.Cr {args:Array Value} (h:(execOp a.eval o).run P w=.ok (.enter g args) w) (hn:Calls P g args w λe w2=>∃ v,e=.returned v/\next (a.put o.dst v) w2):o.wp P a w next Q:=by
 unfold Oper.wp;rw[h];refine ll hn ?_;rintro e w2 ⟨v,rfl,hv⟩;exact hv
theorem qf (h:∀ v∈l,∀ i∈v.ids,H i≠none):∀ i∈dG l,H i≠none:=λi hi=>by
 obtain⟨v,hv,hi⟩:=xK.1 hi;exact h v hv i hi
theorem Cs (hc:gl F H) (h:act C F H o=.call d):∀ i∈d.ids,H i≠none:=by
 rcases rF h with ⟨c,f,g,first,l,cap,hop,lT,hf,hl,rfl⟩|⟨_,_,_,vs,_,_,hv,rfl⟩|⟨vs,hv,rfl,_⟩
 ·refine qf λv hv=> ?_;obtain⟨f1,f2⟩:=hc.GL hf;rcases fU.1 hv with e|e
  ·exact f1 v e
  ·rcases fU.1 e with e|e
   ·exact hc.pX hl v e
   ·exact f2 v e
 ·exact qf λv hv'=>hc.pX hv v hv'
 ·exact qf λv hv'=>hc.pX hv v hv'
theorem zZ (hr:Rel C β F H a w) (h:act C F H o=.call d) (hd:oV C.P d β w λe w2=>∃ v,e=.returned v/\next (a.put o.dst v) w2):o.wp C.P a w next Q:=by
 rcases rF h with ⟨c,f,g,first,l,cap,hop,lT,hf,hl,rfl⟩|⟨_,_,_,vs,_,_,hv,rfl⟩|⟨vs,hv,rfl,_⟩
 ·obtain⟨h1,h2⟩:=hd;have Ei:=hr.pX hl;refine Oper.Cr (g:=g) (args:=((first++(l++cap)).map (AV.aN β)).toArray) ?_ h2
  have e1:(c.args.map a.eval)=(l.map (AV.aN β)).toArray:=by
   apply jS.1;rw[lh,Ei]
  have e2:(first.map (AV.aN β)).toArray++(l.map (AV.aN β)).toArray++(cap.map (AV.aN β)).toArray=((first++(l++cap)).map (AV.aN β)).toArray:=by
   apply jS.1;simp
  unfold execOp;rw[hop];simp only[resolve,lT,hr.GL hf,e1,Deferred.ofValue,invoke,Sem.run_bind,Sem.run_pure,Result.andThen_ok];rw[e2,rI h1]
 ·obtain⟨g,args,h1,h2⟩:=hd;exact Oper.Cr (h1 a.eval (hr.pX hv)) h2
 ·obtain⟨v,w2,h1,v',he,h2⟩:=hd;cases he;rcases h1 a.eval (hr.pX hv) with e|⟨e,rfl⟩
  ·exact Oper.nR e h2
  ·exact Oper.wp_skip e h2
theorem oV.mono {R R':Ending->World->Prop} (h:oV P d β w R) (hR:∀ e w2,R e w2->R' e w2):oV P d β w R':=by
 cases d with
 | fn g args=>exact⟨h.1,ll h.2 hR⟩
 | op o vs=>
   obtain⟨v,w2,h1,h2⟩:=h;exact⟨v,w2,h1,hR _ _ h2⟩
 | inv o vs=>
   obtain⟨g,args,h1,h2⟩:=h;exact⟨g,args,h1,ll h2 hR⟩
theorem jd (hC:C.Ok) {k:Fr->Hp->World->Prop} {m:Option (List FuncId)} (h:one C m full o k F H w) (hr:Rel C β F H a w') (hk:aY C.K w w')
  (hn:∀ β F' H' w1 a' EG,k F' H' w1->Rel C β F' H' a' EG->aY C.K w1 EG->next a' EG):
  if Region.wanted o (yielded full a.tmps)=true then Oper.wp C.P o a w' next Q else next (a.put o.dst undef) w':=by
 have hb:stepOf C full F H o≠.bad:=λe=>by unfold one at h;rw[e] at h;exact h
 obtain⟨hd,⟨hw,hs⟩|⟨hw,hs⟩⟩:=gO hb
 ·rw[kj hr hw,if_neg bc];unfold one at h;rw[hs] at h;exact hn β _ _ w _ w' h (hr.put hd (v:=.val undef) (λ_ hi=>by cases hi)) hk
 ·rw[kj hr hw,if_pos rfl];unfold one at h;rw[hs] at h;cases hst:act C F H o with
  | bad=>rw[hst] at h;exact h.elim
  | dw v u=>
    rw[hst] at h;obtain⟨bG,w2,k2,r2,e⟩:=GP hC hst hd hr;have:=hn bG _ _ w _ w2 h r2 (hk.aB k2);rcases e with e|⟨e,hu⟩
    ·exact Oper.nR e this
    ·rw[hu] at this;exact Oper.wp_skip e this
  | cond φ v u=>
    rw[hst] at h;obtain⟨bG,w2,k2,r2,e⟩:=Cl hC hst h.1 hd hr;have:=hn bG _ _ w _ w2 h.2 r2 (hk.aB k2);rcases e with e|⟨e,hu⟩
    ·exact Oper.nR e this
    ·rw[hu] at this;exact Oper.wp_skip e this
  | read i x=>
    rw[hst] at h;obtain⟨cs,h1,h2,h3⟩:=h;obtain⟨t,y,hop,hi,hy⟩:=Li hst
    have e:=ew (hC t i hi) x cs h1 w' (by
     rcases h2 with h2|⟨_,h2⟩
     ·exact λj u hj=>h2 j u hj _ hr.old
     ·exact h2 w' hk hr.old)
    refine Oper.nR (v:=kP i cs) (w':=w') ?_ (hn β _ _ w _ w' h3 (hr.put hd (v:=.val (kP i cs)) (λ_ hi=>by cases hi)) hk);have he:a.eval y=.pointer (some x):=hr.ev hy;simp[execOp,hop,he,Instr.loadAt,Instr.sureAddr,e]
  | dQ i cs off=>
    rw[hst] at h;obtain⟨vs,h1,h2,h3⟩:=h;obtain⟨t,y,b,tb,hop,hi,hy,hb⟩:=Ck hst
    have wE:∀ x∈vs,x∈cs:=λx hx=>by
     obtain⟨j,hj⟩:=vt hx;exact dx (h2 j x hj)
    have jw:vs.all aF=true:=aW.2 λx hx=>aW.1 (hr.own b tb cs hb).ok x (wE x hx);have e:=ew (hC t i hi) ⟨β b,off,none⟩ (vs.map (AV.leaf β)) (by rw[cJ,h1]) w' (sM hr hb h2);refine Oper.nR (v:=(lz i vs).aN β) (w':=w') ?_ (hn β _ _ w _ w' h3 (hr.put hd (λj hj=> ?_)) hk)
    ·have he:a.eval y=.pointer (some ⟨β b,off,none⟩):=hr.ev hy;rw[qb (hC t i hi) h1 jw];simp[execOp,hop,he,Instr.loadAt,Instr.sureAddr,e]
    ·obtain⟨x,hx,hj'⟩:=bl.1 (sJ jw hj);exact hr.hp.closed b tb cs hb j (bl.2 ⟨x,wE x hx,hj'⟩)
  | call d=>
    rw[hst] at h;refine zZ hr hst ((h w' β hk hr.old (hr.Cq _)).mono ?_);rintro e w2 ⟨bG,r,del,ups,rfl,Ir,_,_,hch,hv⟩;have ho:=hr.Cq d.ids;have o2:=hch.old ho hr.old;have k2:=hch.kp ho;have vQ:=hr.changed hch;refine⟨_,aa,hn bG _ _ w2 _ w2 (hv (hk.aB k2) k2 o2 (Lk β) (rG β)) (vQ.put hd (λi hi=> ?_)) (aY.refl _ _)⟩;rcases Ir i hi with e|⟨_,e1,e2⟩
    ·exact qe hch.once e
    ·exact iq hch.once (Hp.ir e1 e2)
theorem qg (hC:C.Ok) {m:Option (List FuncId)} {K:Fr->Hp->World->Prop} (hQ:∀ β F H w a w',K F H w->Rel C β F H a w'->aY C.K w w'->Q .normal a w'):
  ∀ (l:List Oper) (β:Nat->Nat) (F:Fr) (H:Hp) (w:World) (a:Act) (w':World),aq C m full l K F H w->Rel C β F H a w'->aY C.K w w'->wpList C.P full Q l a w'
 | [],β,F,H,w,a,w',h,hr,hk=>hQ β F H w a w' h hr hk
 | o::r,β,F,H,w,a,w',h,hr,hk=>by
   refine wpList_step λK' hK'=> ?_;exact jd hC (k:=aq C m full r K) h hr hk λβ F' H' w1 a' EG h1 h2 h3=>hK' _ _ (qg hC hQ r β F' H' w1 a' EG h1 h2 h3)
end
def tZ (p o:Nat):Bool:=bif Nat.beq p 5 || Nat.beq o 5 then false else Nat.beq p 0 || Nat.beq o 0 || (Nat.ble p 2 && Nat.ble o 2) || (Nat.beq p 4 && Nat.ble o 2) || (Nat.ble p 2 && Nat.beq o 4)
def Aa (o:Oper):Bool:=match o.op,o.guard with
 | .move (.tmp _),none=>true
 | _,_=>false
def indep (su:TypeId->Bool) (l:List FuncId) (full:Array Oper) (p o:Oper):Bool:=p.apart full o && (tZ (au su l p) (au su l o) || Aa p)
def bu (full:Array Oper) (j:Nat):List Nat:=match full[j]? with
 | none=>[]
 | some o=>(o.after.toList.filter (Region.binds .any)).map (·.on)
def reach (full:Array Oper):Nat->Nat->Nat->Bool
 | 0,j,i=>(bu full j).contains i
 | f+1,j,i=>(bu full j).contains i || (bu full j).any λd=>Nat.blt i d && reach full f d i
def gp (su:TypeId->Bool) (l:List FuncId) (full:Array Oper) (i j:Nat):Bool:=
 (match full[i]?,full[j]? with|some p,some o=>indep su l full p o|_,_=>true) || reach full full.size j i
def nS (su:TypeId->Bool) (l:List FuncId) (full:Array Oper):Bool:=(List.range full.size).all λj=>(bu full j).all (λd=>Nat.blt d j) && (List.range j).all λi=>gp su l full i j
section
variable {C:Cx} {F:Fr} {H:Hp} {w:World} {full:Array Oper} {p o:Oper} {ml:List FuncId}
variable {y:Operand}
theorem pK {t:Tmp} (hy:y∈o.op.operands.toList) (h:y=.tmp t):t∈o.looksAt full:=by
 unfold Oper.looksAt;refine fU.2 (.inl ?_);exact Gj.2 ⟨y,hy,by rw[h]⟩
variable {F F':Fr}
theorem Lp (h:∀ t,y=.tmp t->F' t=F t):ev F' y=ev F y:=by
 cases y with
 | tmp t=>exact h t aa
 | const v=>rfl
 | func f=>rfl
 | global g=>rfl
theorem di (h:ev F' y=ev F y):gz F' y=gz F y:=by unfold gz;rw[h]
theorem sP {F F':Fr}:∀ {l:List Operand},(∀ y∈l,ev F' y=ev F y)->evs F' l=evs F l
 | [],_=>rfl
 | x::r,h=>by unfold evs;rw[di (h x bc),sP (l:=r) (λy hy=>h y (by simp[hy]))]
theorem lE {F F':Fr}:∀ {l:List Operand},(∀ y∈l,ev F' y=ev F y)->pX F' l=pX F l
 | [],_=>rfl
 | x::r,h=>by unfold pX;rw[h x bc,lE (l:=r) (λy hy=>h y (by simp[hy]))]
theorem IM (h:ev F' y=ev F y):GL F' y=GL F y:=by unfold GL;rw[h]
theorem sQ {F F':Fr}:∀ {l:List (Nat×Operand)},(∀ y∈l,ev F' y.2=ev F y.2)->zV F' l=zV F l
 | [],_=>rfl
 | (k,x)::r,h=>by unfold zV;rw[h (k,x) bc,sQ (l:=r) (λy hy=>h y (by simp[hy]))]
theorem yS:∀ {x:Option Operand},(∀ y∈x.toArray.toList,ev F' y=ev F y)->evo F' x=evo F x
 | none,_=>rfl
 | some x,h=>by
   show (match gz F' x with|some (.int _ k)=>some (some k)|_=>none)=match gz F x with|some (.int _ k)=>some (some k)|_=>none
   rw[di (h x bc)]
theorem EH (h:∀ y∈o.op.operands.toList,ev F' y=ev F y):na F' o=na F o:=by
 unfold na;rw[lE h]
theorem IP (h:∀ y∈o.op.operands.toList,ev F' y=ev F y):act C F' H o=act C F H o:=by
 have xP:=EH h;have h0:=h;unfold act;cases hop:o.op <;> rw[hop] at h <;> simp only[Op.operands] at h ⊢ <;> try (exact xP)
 case move x=>rw[h x bc]
 case assign x=>rw[h x bc]
 case pick c a b=>rw[di (h c bc),h a bc,h b bc]
 case box t x=>rw[h x bc]
 case build t ps=>rw[sQ (λy hy=>h y.2 (by simp;exact⟨y.1,by simpa using hy⟩))]
 case load t x=>rw[h x bc]
 case store t x y=>rw[h x bc,h y bc]
 case binOp op t x y t'=>rw[di (h x bc),di (h y bc),h x bc]
 case unOp op t x=>cases op <;> simp only <;> first|exact xP|rw[di (h x bc)]
 case convert s t x=>rw[di (h x bc)]
 case nilCheck x=>rw[h x bc]
 case fieldAddr t x k=>rw[h x bc]
 case field t x k=>rw[h x bc]
 case indexAddr t x ix=>rw[h x bc,di (h ix bc)]
 case extract x k=>rw[h x bc]
 case makeSlice t l c=>rw[di (h l bc),di (h c bc)]
 case index t x ix=>rw[h x bc,di (h ix bc)]
 case makeInterface t x=>rw[di (h x bc)]
 case typeAssert x xt t ok=>cases ok <;> simp only <;> first|exact xP|rw[di (h x bc)]
 case slice t x lo hi mx=>
  cases mx with
  | some m=>exact xP
  | none=>
    simp only;rw[h x bc,yS (x:=lo) (λy hy=>h y (by simp at hy ⊢;exact .inr (.inl hy))),yS (x:=hi) (λy hy=>h y (by simp at hy ⊢;exact .inr (.inr hy)))]
 case makeFunc fn first cap=>
  cases fn <;> simp only <;> try (exact xP)
  rw[sP (l:=first.toList) (λy hy=>h y (by simp;exact .inl (by simpa using hy))),lE (l:=cap.toList) (λy hy=>h y (by simp;exact .inr (by simpa using hy)))]
 case buildSlice t n ps=>
  rw[xP,sQ (λy hy=>h y.2 (by simp;exact⟨y.1,by simpa using hy⟩))]
 case call c=>
  simp only[Call.operands] at h;cases hc:c.callee with
  | value f=>
    rw[hc] at h;simp only at h ⊢;rw[IM (h f bc),lE (λy hy=>h y (by simp;exact .inr (by simpa using hy)))]
  | invoke r n=>show EB F' o=EB F o;unfold EB;rw[lE h0]
  | builtin b=>
    rw[hc] at h;have he:evs F' c.args.toList=evs F c.args.toList:=sP λy hy=>h y (by simpa using hy);cases b <;> simp only <;> first|exact xP|(rw[he];done)|skip
    split
    ·rename_i x t hx ht
     rw[(h x (by
      have e1:c.args=#[x]:=jS.1 hx;simp[e1]))]
    ·rfl
variable {x:AV} {d:Option Nat}
theorem qh {t:Nat} (h:∀ n,d=some n->t≠n):(F.bm d x) t=F t:=by
 cases d with
 | none=>rfl
 | some n=>show (F.put n x) t=_;rw[Fr.bL,if_neg (h n rfl)]
theorem Ct (h:∀ g b d,o.guard=some (g,b)->(full[g]?).bind (·.dst)=some d->F' d=F d):wants full F' o=wants full F o:=by
 unfold wants;cases hg:o.guard with
 | none=>rfl
 | some gb=>
   obtain⟨g,b⟩:=gb;simp only;cases hd:(full[g]?).bind (·.dst) with
   | none=>rfl
   | some d=>simp only;rw[h g b d hg hd]
theorem cZ (h:∀ n,d=some n->n∉o.looksAt full):stepOf C full (F.bm d x) H o=stepOf C full F H o:=by
 have h1:act C (F.bm d x) H o=act C F H o:=IP λy hy=>Lp λt ht=>qh λn hn e=>h n hn (e▸pK hy ht)
 have h2:wants full (F.bm d x) o=wants full F o:=Ct λg b t hg ht=>qh λn hn e=>h n hn (by
  subst e;unfold Oper.looksAt;rw[hg];simp only;exact fU.2 (.inr (by rw[ht];simp)))
 unfold stepOf;rw[h1,h2]
theorem jz {H H':Hp} (h:au C.SU ml o=0\/au C.SU ml o=4):act C F H' o=act C F H o:=by
 unfold au at h;unfold act;cases hop:o.op <;> rw[hop] at h <;> simp only at h ⊢ <;> try (exfalso;revert h;simp;done)
 case unOp op _ _=>cases op <;> rfl
 case makeFunc fn _ _=>cases fn <;> rfl
 case slice t x lo hi mx=>cases mx <;> rfl
 case typeAssert x xt t ok=>cases ok <;> rfl
 case buildSlice t n ps=>
  cases hb:C.SU t with
  | true=>rfl
  | false=>rw[hb] at h;simp at h
variable {c:TypeId×List AV}
theorem EI {d:Nat} (h:au C.SU ml o=1) (hc:gl F H) (hd:H d=none):act C F (H.put d c) o=act C F H o:=by
 unfold au at h;unfold act;cases hop:o.op <;> rw[hop] at h <;> simp only at h ⊢ <;> try (exfalso;revert h;simp;done)
 case load t x=>
  split
  ·rename_i b off i hx hi
   have:b≠d:=λe=>by
    subst e;exact hc.ev hx _ (by simp[AV.ids]) hd
   rw[Hp.bL,if_neg this]
  ·rename_i b off i hx hi
   have:b≠d:=λe=>by
    subst e;exact hc.ev hx _ (by simp[AV.ids]) hd
   rw[Hp.bL,if_neg this]
  ·rfl
  ·rfl
 case unOp op _ _=>cases op <;> simp at h
 case makeFunc fn _ _=>cases fn <;> simp at h
 case slice t x lo hi mx=>cases mx <;> simp at h
 case typeAssert x xt t ok=>cases ok <;> simp at h
 case buildSlice t n ps=>cases hb:C.SU t <;> rw[hb] at h <;> simp at h
theorem EJ {d d':Nat} (h:au C.SU ml o=2) (hd:o.dst=some d) (hne:d≠d'):act C F (H.put d' c) o=act C F H o:=by
 have e:(H.put d' c) d=H d:=by rw[Hp.bL,if_neg hne]
 unfold au at h;unfold act;cases hop:o.op <;> rw[hop] at h <;> simp only at h ⊢ <;> try (exfalso;revert h;simp;done)
 case alloc t=>
  rw[hd];cases C.ti t with
  | none=>rfl
  | some i=>show nM C.K d t _ ((H.put d' c) d)=_;rw[e]
 case box t x=>
  rw[hd];cases ev F x with
  | none=>rfl
  | some i=>show nM C.K d t _ ((H.put d' c) d)=_;rw[e]
 case makeSlice t l k=>
  rw[hd];cases C.ti t with
  | none=>rfl
  | some i=>
    cases gz F l with
    | none=>rfl
    | some vl=>
      cases vl <;> try rfl
      cases gz F k with
      | none=>rfl
      | some vk=>
        cases vk <;> try rfl
        simp only;cases i.elem with
        | none=>rfl
        | some es=>
          obtain⟨e2,sz⟩:=es;simp only;rw[e]
 case unOp op _ _=>cases op <;> simp at h
 case makeFunc fn _ _=>cases fn <;> simp at h
 case slice t x lo hi mx=>cases mx <;> simp at h
 case typeAssert x xt t ok=>cases ok <;> simp at h
 case buildSlice t n ps=>
  cases hb:C.SU t with
  | true=>rfl
  | false=>
    rw[cond_false,cond_false,hd];cases C.ti t with
    | none=>rfl
    | some i=>
      cases zV F ps.toList with
      | none=>rfl
      | some l=>
        simp only;cases i.elem with
        | none=>rfl
        | some es=>
          obtain⟨e2,sz⟩:=es;simp only;cases C.ti e2 with
          | none=>rfl
          | some ie=>
            cases BZ sz 0 l with
            | none=>rfl
            | some cs=>show (bif _ then tW C.K d e2 n cs ((H.put d' c) d) else _)=_;rw[e]
theorem Cu {c:Nat×(TypeId×List AV)} (h:au C.SU ml o=2) (hd:o.dst=none):act C F (H.put c.1 c.2) o=act C F H o:=by
 unfold au at h;unfold act;cases hop:o.op <;> rw[hop] at h <;> simp only at h ⊢ <;> try (exfalso;revert h;simp;done)
 case alloc t=>simp only[hd]
 case box t x=>simp only[hd]
 case makeSlice t l c=>simp only[hd]
 case unOp op _ _=>cases op <;> simp at h
 case makeFunc fn _ _=>cases fn <;> simp at h
 case slice t x lo hi mx=>cases mx <;> simp at h
 case typeAssert x xt t ok=>cases ok <;> simp at h
 case buildSlice t n ps=>
  cases hb:C.SU t with
  | true=>rfl
  | false=>simp only[cond_false,hd]
variable {v:AV} {u:Option (Nat×(TypeId×List AV))}
theorem act_upd (h:act C F H o=.dw v u):u=none\/au C.SU ml o=3\/(au C.SU ml o=2/\∃ d c,o.dst=some d/\u=some (d,c)/\H d=none):=by
 unfold act at h;cases hop:o.op <;> rw[hop] at h <;> simp only at h <;> try (first|cases h;done|exact (dC h).elim)
 case store=>exact .inr (.inl (by unfold au;rw[hop]))
 case alloc t=>
  split at h
  ·rename_i d i fC hi;obtain⟨h1,h2,h3,h4,h5⟩:=oH h;exact .inr (.inr ⟨by unfold au;rw[hop],d,_,fC,h5,h1⟩)
  ·cases h
 case box t x=>
  split at h
  ·rename_i d i fC hi;obtain⟨h1,h2,h3,h4,h5⟩:=oH h;exact .inr (.inr ⟨by unfold au;rw[hop],d,_,fC,h5,h1⟩)
  ·cases h
 case move=>exact .inl (lC h).2
 case assign=>exact .inl (lC h).2
 case pick=>split at h <;> first|exact .inl (lC h).2|cases h
 case load=>
  split at h
  ·split at h
   ·exact .inl (yK h).2.2
   ·cases h
  ·split at h <;> cases h
  ·cases h
  ·cases h
 case build=>split at h <;> first|(cases h;done)|(split at h <;> first|(cases h;done)|(rw[bU,kg] at h;cases h;exact .inl aa))
 case binOp=>split at h <;> first|exact .inl (eQ h).choose_spec.2.2|(cases h;done)|(split at h <;> first|exact .inl (eQ h).choose_spec.2.2|(cases h;done))
 case unOp op _ _=>cases op <;> simp only at h <;> first|exact (dC h).elim|(split at h <;> first|(cases h;done)|(cases h;exact .inl aa))
 case convert=>split at h <;> first|(cases h;done)|(split at h <;> first|(cases h;done)|(cases h;exact .inl aa))
 case nilCheck=>split at h <;> first|(cases h;done)|(cases h;exact .inl aa)
 case fieldAddr=>split at h <;> first|(cases h;done)|(split at h <;> first|(cases h;done)|(cases h;exact .inl aa))
 case field=>split at h <;> first|(cases h;done)|exact .inl (jy h).1
 case extract=>
  split at h
  ·exact .inl (eQ h).choose_spec.2.2
  ·split at h
   ·rename_i x _;cases hn:eP x <;> rw[hn] at h <;> cases h;exact .inl aa
   ·cases h
  ·cases h
 case indexAddr=>split at h <;> first|(cases h;done)|(split at h <;> cases h)
 case index=>split at h <;> first|(cases h;done)|(split at h <;> cases h)
 case makeInterface=>
  split at h
  ·rename_i i _ _
   revert h
   cases i.kind.isSome || i.ptr <;> intro h <;> cases h
   exact .inl aa
  ·cases h
 case typeAssert x xt t ok=>
  cases ok <;> simp only at h <;> try (exact (dC h).elim)
  split at h
  ·revert h
   generalize (_ && _)=q;cases q <;> intro h <;> cases h;exact .inl aa
  ·cases h
 case slice t x lo hi mx=>
  cases mx <;> simp only at h <;> first|exact (dC h).elim|skip
  split at h <;> first|(cases h;done)|(split at h <;> cases h)
 case makeSlice=>
  split at h
  ·split at h
   ·split at h
    ·revert h
     generalize (!_ && _)=q;cases q <;> intro h <;> cases h
    ·cases h
   ·cases h
  ·cases h
 case makeFunc fn _ _=>
  cases fn <;> simp only at h <;> try (exact (dC h).elim)
  split at h
  ·cases h;exact .inl aa
  ·split at h
   ·cases h;exact .inl aa
   ·cases h
  ·cases h
 case buildSlice t n ps=>
  cases hsu:C.SU t with
  | true=>rw[hsu] at h;exact (dC h).elim
  | false=>
    rw[hsu,cond_false] at h
    split at h
    ·rename_i d i l fC hi hl
     split at h
     ·split at h
      ·revert h
       generalize (Nat.beq _ _ && _)=q;cases q <;> intro h
       ·cases h
       ·obtain⟨h1,h2,h3,h4,h5⟩:=yL h;exact .inr (.inr ⟨by unfold au;rw[hop];simp[hsu],d,_,fC,h5,h1⟩)
      ·cases h
     ·cases h
    ·cases h
 case call=>
  split at h
  ·split at h
   ·split at h
    ·split at h
     ·cases h;exact .inl aa
     ·cases h
    ·split at h
     ·cases h;exact .inl aa
     ·cases h
    ·rename_i s i _ _
     revert h
     cases sH i.zero <;> intro h
     ·cases h
     ·cases h;exact .inl aa
    ·cases h
   ·cases h
  ·split at h <;> first|(cases h;done)|(cases h;exact .inl aa)
  ·split at h <;> first|(cases h;done)|(cases h;exact .inl aa)
  ·split at h
   ·rw[bU] at h;cases h
   ·cases h
  ·exact (Ch h).elim
  ·exact (dC h).elim
theorem Lq {φ:Prop} (h:act C F H o=.cond φ v u):u=none\/au C.SU ml o=3\/(au C.SU ml o=2/\∃ d c,o.dst=some d/\u=some (d,c)/\H d=none):=by
 have k:=nP (C:=C) (F:=F) (H:=H) (o:=o);rw[h] at k;cases k with
 | plain p=>exact (p.GQ aa).elim
 | store e=>exact .inr (.inl (by unfold au;rw[e]))
 | index e=>exact .inl aa
 | slice e=>exact .inl aa
 | make e h1 h2=>exact .inr (.inr ⟨by unfold au;rw[e],_,_,h1,rfl,h2⟩)
 | EE e=>exact .inl aa
theorem Cv {su:TypeId->Bool} {l:List FuncId} {o:Oper}:au su l o<=5:=by
 unfold au
 split
 all_goals first
  | exact cz aa
  | (cases su _ <;> exact cz aa)
  | (split <;> first|exact cz aa|(cases EC l _ <;> cases Le l _ <;> exact cz aa))
theorem EK {d:jt} (h:act C F H o=.call d):au C.SU ml o=3\/au C.SU ml o=4\/au C.SU ml o=5:=by
 rcases rF h with ⟨c,f,g,first,l,cap,hop,lT,_⟩|⟨c,x,n,vs,hop,lT,_⟩|⟨vs,_,_,⟨t,n,ps,hop,hsu⟩|h5⟩
 ·unfold au;rw[hop];simp only[lT];cases EC ml c
  ·cases Le ml c
   ·exact .inr (.inl aa)
   ·exact .inl aa
  ·exact .inr (.inr aa)
 ·unfold au;rw[hop];simp only[lT];exact .inr (.inr aj)
 ·unfold au;rw[hop];simp[hsu]
 ·have h6:=h5 C.SU ml;have h7:=Cv (su:=C.SU) (l:=ml) (o:=o);omega
end
structure Live (C:Cx) (F:Fr) (H:Hp) (w:World):Prop where
 hp:zW C H
 closed:gl F H
 fits:∀ d v,F d=some v->d<C.N
 there:∃ w1,aY C.K w w1/\C.Old w1
section
variable {C:Cx} {F:Fr} {H:Hp} {w:World} {full:Array Oper} {p o:Oper} {k:Fr->Hp->World->Prop} {ml:List FuncId}
theorem Live.rel (h:Live C F H w):∃ β a w1,Rel C β F H a w1/\aY C.K w w1:=by
 obtain⟨w1,h1,h2⟩:=h.there;obtain⟨β,w2,k1,k2,k3,k4⟩:=C.lay w1 H h2 h.hp.ok h.hp.GN;refine⟨β,⟨(Array.range C.N).map λd=>match F d with|some v=>v.aN β|none=>undef,C.ds⟩,w2,⟨aa,bc,λd v hv=> ?_,λi t cs hi=>⟨(k3 i t cs hi).1,(h.hp.ok i t cs hi).1,(k3 i t cs hi).2,(h.hp.ok i t cs hi).2⟩,k4,h.closed,h.fits,h.hp,k2⟩,h1.aB k1⟩;have hd:=h.fits d v hv;simp[Array.getD_eq_getD_getElem?,hd,hv]
variable {β:Nat->Nat}
theorem Live.of {a:Act} {w1:World} (h:Rel C β F H a w1) (hk:aY C.K w w1):Live C F H w:=⟨h.hp,h.closed,h.fits,w1,hk,h.old⟩
def Step.still (C:Cx):Step->Option ((AV->Prop)×Option (Nat×(TypeId×List AV)))
 | .dw v u=>some (λx=>x=v,u)
 | .read i a=>some (λx=>∃ cs:List Value,cs.length=i.size/\(∀ j u,cs[j]? =some u->C.At (a.add j) u)/\x=.val (kP i cs),none)
 | .dQ i cs off=>some (λx=>∃ vs:List AV,vs.length=i.size/\(∀ j u,vs[j]? =some u->cs[off+j]? =some u)/\x=lz i vs,none)
 | .cond φ v u=>some (λx=>φ/\x=v,u)
 | .call _=>none
 | .bad=>none
variable {Ψ:AV->Prop} {u:Option (Nat×(TypeId×List AV))}
theorem cg (hs:(stepOf C full F H o).still C=some (Ψ,u)):one C (some ml) full o k F H w↔∃ x,Ψ x/\k (F.bm o.dst x) (H.upd u) w:=by
 unfold one;cases hst:stepOf C full F H o with
 | dw v u'=>
   rw[hst] at hs;cases hs;exact⟨λh=>⟨v,aa,h⟩,λ⟨x,hx,h⟩=>hx▸h⟩
 | read i a=>
   rw[hst] at hs;cases hs;constructor
   ·rintro⟨cs,h1,h2|⟨h2,_⟩,h3⟩
    ·exact⟨_,⟨cs,h1,h2,aa⟩,h3⟩
    ·cases h2
   ·rintro⟨x,⟨cs,h1,h2,rfl⟩,h3⟩;exact⟨cs,h1,.inl h2,h3⟩
 | dQ i cs off=>
   rw[hst] at hs;cases hs;exact⟨λ⟨vs,h1,h2,h3⟩=>⟨_,⟨vs,h1,h2,aa⟩,h3⟩,λ⟨x,⟨vs,h1,h2,e⟩,h3⟩=>⟨vs,h1,h2,e▸h3⟩⟩
 | cond φ v u'=>
   rw[hst] at hs;cases hs;exact⟨λh=>⟨v,⟨h.1,aa⟩,h.2⟩,λ⟨x,hx,h⟩=>⟨hx.1,hx.2▸h⟩⟩
 | call d=>rw[hst] at hs;cases hs
 | bad=>rw[hst] at hs;cases hs
theorem yT {α:Type} {n:Nat} {cs ds:List α} {f:Nat->Option α} (h1:cs.length=n) (h2:∀ j u,cs[j]? =some u->f j=some u) (g1:ds.length=n) (g2:∀ j u,ds[j]? =some u->f j=some u):cs=ds:=by
 apply Be;intro j;by_cases hj:j<n
 ·have a1:=aZ (show j<cs.length by omega);have a2:=aZ (show j<ds.length by omega);rw[a1,a2,<-h2 j _ a1,<-g2 j _ a2]
 ·rw[ld ae,ld ae]
variable {x y:AV} {s:Step}
theorem sR (hs:s.still C=some (Ψ,u)) (hx:Ψ x) (hy:Ψ y):x=y:=by
 cases s with
 | dw v u'=>cases hs;exact hx.trans hy.symm
 | read i a=>
   cases hs;obtain⟨cs,h1,h2,rfl⟩:=hx;obtain⟨ds,g1,g2,rfl⟩:=hy;rw[yT (f:=λj=>C.w0.cell? (a.add j)) h1 (λj u hj=>h2 j u hj _ C.oD) g1 (λj u hj=>g2 j u hj _ C.oD)]
 | dQ i cs off=>
   cases hs;obtain⟨gA,h1,h2,rfl⟩:=hx;obtain⟨ds,g1,g2,rfl⟩:=hy;rw[yT (f:=λj=>cs[off+j]?) h1 h2 g1 g2]
 | cond φ v u'=>cases hs;exact hx.2.trans hy.2.symm
 | call d=>cases hs
 | bad=>cases hs
theorem gP (s:Step):s=.bad\/(∃ Ψ u,s.still C=some (Ψ,u))\/∃ d,s=.call d:=by
 cases s with
 | dw v u=>exact .inr (.inl ⟨_,_,aa⟩)
 | read i a=>exact .inr (.inl ⟨_,_,aa⟩)
 | dQ i cs off=>exact .inr (.inl ⟨_,_,aa⟩)
 | cond φ v u=>exact .inr (.inl ⟨_,_,aa⟩)
 | call d=>exact .inr (.inr ⟨d,aa⟩)
 | bad=>exact .inl aa
variable {H':Hp}
theorem dU (h:act C F H' o=act C F H o):stepOf C full F H' o=stepOf C full F H o:=by unfold stepOf;rw[h]
theorem mr (h:stepOf C full F H o=s):s=.bad\/s=.dw (.val undef) none\/act C F H o=s:=by
 by_cases hb:stepOf C full F H o=.bad
 ·exact .inl (h.symm.trans hb)
 ·obtain⟨_,⟨_,e⟩|⟨_,e⟩⟩:=gO hb
  ·exact .inr (.inl (h.symm.trans e))
  ·exact .inr (.inr (e.symm.trans h))
theorem eR (hs:(stepOf C full F H o).still C=some (Ψ,u)):u=none\/au C.SU ml o=3\/(au C.SU ml o=2/\∃ d c,o.dst=some d/\u=some (d,c)/\H d=none):=by
 cases hst:stepOf C full F H o with
 | dw v u'=>
   rw[hst] at hs;cases hs;rcases mr hst with h|h|h
   ·cases h
   ·cases h;exact .inl aa
   ·exact act_upd h
 | read i a=>rw[hst] at hs;cases hs;exact .inl aa
 | dQ i cs off=>rw[hst] at hs;cases hs;exact .inl aa
 | cond φ v u'=>
   rw[hst] at hs;cases hs;rcases mr hst with h|h|h
   ·cases h
   ·cases h
   ·exact Lq h
 | call d=>rw[hst] at hs;cases hs
 | bad=>rw[hst] at hs;cases hs
variable {d:jt}
theorem km (h:stepOf C full F H o=.call d):(au C.SU ml o=3\/au C.SU ml o=4\/au C.SU ml o=5)/\(gl F H->∀ i∈d.ids,H i≠none):=by
 rcases mr h with e|e|e
 ·cases e
 ·cases e
 ·exact⟨EK e,λhc=>Cs hc e⟩
variable {a b:Nat}
theorem qi (h:tZ a b=true):tZ b a=true:=by
 unfold tZ at h ⊢;rw[Bool.or_comm (Nat.beq b 5)];cases hb:(Nat.beq a 5 || Nat.beq b 5) with
 | true=>rw[hb] at h;cases h
 | false=>
   rw[hb] at h;simp only[cond_false,Bool.or_eq_true,Bool.and_eq_true] at h ⊢;rcases h with (((h|h)|h)|h)|h
   ·exact .inl (.inl (.inl (.inr h)))
   ·exact .inl (.inl (.inl (.inl h)))
   ·exact .inl (.inl (.inr ⟨h.2,h.1⟩))
   ·exact .inr ⟨h.2,h.1⟩
   ·exact .inl (.inr ⟨h.2,h.1⟩)
theorem oI (h:tZ a b=true):a≠5/\b≠5/\(a=0\/b=0\/(a<=2/\b<=2)\/(a=4/\b<=2)\/(a<=2/\b=4)):=by
 unfold tZ at h;cases hb:(Nat.beq a 5 || Nat.beq b 5) with
 | true=>rw[hb] at h;cases h
 | false=>
   rw[hb] at h;rw[Bool.or_eq_false_iff] at hb;simp only[cond_false,Bool.or_eq_true,Bool.and_eq_true,Nat.beq_eq,Nat.ble_eq] at h;refine⟨λe=>by rw[e] at hb;simp at hb,λe=>by rw[e] at hb;simp at hb,?_⟩;omega
theorem sS (hs:(stepOf C full F H p).still C=some (Ψ,u)) (hm:tZ (au C.SU ml p) (au C.SU ml o)=true) (hdd:∀ d,p.dst=some d->o.dst≠some d) (hc:gl F H):
  stepOf C full F (H.upd u) o=stepOf C full F H o:=by
 rcases eR (ml:=ml) hs with rfl|h3|⟨h2,d,c,hd,rfl,h0⟩
 ·rfl
 ·rw[h3] at hm;have:=oI hm;exact dU (jz (ml:=ml) (.inl ae))
 ·rw[h2] at hm;have hmi:=oI hm;show stepOf C full F (H.put d c) o=_;have:au C.SU ml o=0\/au C.SU ml o=1\/au C.SU ml o=2\/au C.SU ml o=4:=ae;rcases this with e|e|e|e
  ·exact dU (jz (ml:=ml) (.inl e))
  ·exact dU (EI (ml:=ml) e hc h0)
  ·cases hod:o.dst with
   | none=>exact dU (Cu (ml:=ml) (c:=(d,c)) e hod)
   | some d'=>exact dU (EJ (ml:=ml) e hod (λe'=>hdd d hd (by rw[hod,e'])))
  ·exact dU (jz (ml:=ml) (.inr e))
variable {F:Fr}
theorem je {d d':Option Nat} (h:∀ n,d=some n->d'≠some n):(F.bm d x).bm d' y=(F.bm d' y).bm d x:=by
 cases d with
 | none=>rfl
 | some n=>
   cases d' with
   | none=>rfl
   | some n'=>
     have hne:n≠n':=λe=>h n aa (by rw[e])
     funext z
     show ((F.put n x).put n' y) z=((F.put n' y).put n x) z;simp only[Fr.bL];by_cases h1:z=n'
     ·subst h1;rw[if_pos rfl,if_neg (λe=>hne e.symm)];exact (if_pos aa).symm
     ·rw[if_neg h1];by_cases h2:z=n
      ·rw[if_pos h2,if_pos h2]
      ·rw[if_neg h2,if_neg h2,if_neg h1]
theorem Lr {Ψ':AV->Prop} {u':Option (Nat×(TypeId×List AV))} (hp:(stepOf C full F H p).still C=some (Ψ,u)) (ho:(stepOf C full F H o).still C=some (Ψ',u')) (hm:tZ (au C.SU ml p) (au C.SU ml o)=true) (hdd:∀ d,p.dst=some d->o.dst≠some d):
  (H.upd u).upd u'=(H.upd u').upd u:=by
 have hmi:=oI hm;rcases eR (ml:=ml) hp with rfl|h3|⟨h2,d,c,hd,rfl,h0⟩
 ·rfl
 ·rcases eR (ml:=ml) ho with rfl|g3|⟨g2,_⟩
  ·rfl
  ·omega
  ·omega
 ·rcases eR (ml:=ml) ho with rfl|g3|⟨g2,d',c',hd',rfl,h0'⟩
  ·rfl
  ·omega
  ·have hne:d≠d':=λe=>hdd d hd (by rw[hd',e])
   funext z
   show ((H.put d c).put d' c') z=((H.put d' c').put d c) z;simp only[Hp.bL];by_cases h1:z=d'
   ·subst h1;rw[if_pos rfl,if_neg (λe=>hne e.symm)];exact (if_pos aa).symm
   ·rw[if_neg h1];by_cases h2:z=d
    ·rw[if_pos h2,if_pos h2]
    ·rw[if_neg h2,if_neg h2,if_neg h1]
variable {R:Ending->World->Prop} {P:Program} {w:World}
theorem Calls.some {g:FuncId} {args:Array Value} (h:Calls P g args w R):∃ e w',R e w':=by
 obtain⟨e,w',_,hR,_⟩:=h [];exact⟨e,w',hR⟩
theorem oV.some (h:oV P d β w R):∃ e w',R e w':=by
 cases d with
 | fn g args=>exact Calls.some h.2
 | op o vs=>
   obtain⟨v,w2,_,h2⟩:=h;exact⟨_,w2,h2⟩
 | inv o vs=>
   obtain⟨g,args,_,h2⟩:=h;exact Calls.some h2
variable {j:AV->Fr->Hp->World->Prop}
theorem bZ.mono {lv:Nat} {j':AV->Fr->Hp->World->Prop} (hL:Live C F H w) (h:bZ C lv F H d w j)
  (hj:∀ r F' H' w2,Live C F' H' w2->(∀ i∈r.ids,H' i≠none)->(lv=0->H'=H)->(lv<=1->F'=F)->j r F' H' w2->j' r F' H' w2):bZ C lv F H d w j':=by
 intro w1 β h1 h2 h3;refine (h w1 β h1 h2 h3).mono ?_;rintro e w2 ⟨bG,r,del,ups,rfl,Ir,zP,yU,hch,hv⟩;refine⟨bG,r,del,ups,aa,Ir,zP,yU,hch,λa b c ρ dH=>hj r _ _ w2 ⟨hch.hp hL.hp dH,λd' v hv' i hi=> ?_,λd' v hv'=> ?_,w2,aY.refl _ _,c⟩ (λi hi=> ?_) (λha=> ?_) (λha=> ?_) (hv a b c ρ dH)⟩
 ·obtain⟨u,hu,_,g2⟩:=Fr.ea (β:=β) hv';obtain⟨q1,q2⟩:=g2 i hi;exact iq hch.once (Hp.ir (hL.closed d' u hu i q1) q2)
 ·obtain⟨u,hu,_⟩:=Fr.ea (β:=β) hv';exact hL.fits d' u hu
 ·rcases Ir i hi with e|⟨_,e1,e2⟩
  ·exact qe hch.once e
  ·exact iq hch.once (Hp.ir e1 e2)
 ·have e1:ups=[]:=zP.resolve_left ae;have e2:del=none:=yU.resolve_left ae;rw[e1,e2];rfl
 ·have e2:del=none:=yU.resolve_left ae;rw[e2];rfl
theorem bZ.some {lv:Nat} (hL:Live C F H w) (h:bZ C lv F H d w j):∃ r F' H' w2,(lv=0->H'=H)/\(lv<=1->F'=F)/\j r F' H' w2:=by
 obtain⟨β,a,w1,hr,hk⟩:=hL.rel;obtain⟨e,w2,bG,r,del,ups,rfl,Ir,zP,yU,hch,hv⟩:=(h w1 β hk hr.old (hr.Cq _)).some;have ho:=hr.Cq d.ids;have k2:=hch.kp ho;refine⟨r,_,_,w2,λha=> ?_,λha=> ?_,hv (hk.aB k2) k2 (hch.old ho hr.old) (Lk β) (rG β)⟩
 ·have e1:ups=[]:=zP.resolve_left ae;have e2:del=none:=yU.resolve_left ae;rw[e1,e2];rfl
 ·have e2:del=none:=yU.resolve_left ae;rw[e2];rfl
theorem bZ.frame {lv:Nat} {j:AV->Hp->World->Prop} {F1:Fr} (h:bZ C lv F H d w λr _ H' w2=>j r H' w2):bZ C lv F1 H d w λr _ H' w2=>j r H' w2:=h
variable {i:Nat}
theorem EL {ids:List Nat} (hh:∀ i,Reach H ids i->H' i=H i) (h:Reach H' ids i):Reach H ids i:=by
 induction h with
 | base hi=>exact .base hi
 | step hi h1 h2 ih=>exact .step ih ((hh _ ih).symm.trans h1) h2
theorem ko {ids:List Nat} (hh:∀ i,Reach H ids i->H' i=H i) (h:Reach H ids i):Reach H' ids i:=by
 induction h with
 | base hi=>exact .base hi
 | step hi h1 h2 ih=>exact .step ih ((hh _ hi).trans h1) h2
theorem bZ.heap {j:AV->World->Prop} (hh:∀ i,Reach H d.ids i->H' i=H i) (h:bZ C 0 F H d w λr _ _ w2=>j r w2):bZ C 0 F H' d w λr _ _ w2=>j r w2:=by
 intro w1 β h1 h2 h3;have h3':kh C β H d.ids w1:=⟨λi hi t cs hx=>h3.own i (ko hh hi) t cs (by rw[hh i hi];exact hx),λi j hi hj ei ej e=>h3.apart i j (ko hh hi) (ko hh hj) (by rw[hh i hi];exact ei) (by rw[hh j hj];exact ej) e⟩;refine (h w1 β h1 h2 h3').mono ?_;rintro e w2 ⟨bG,r,del,ups,rfl,Ir,zP,yU,hch,hv⟩;have e1:ups=[]:=zP.resolve_left ae;have e2:del=none:=yU.resolve_left ae;subst e1;subst e2;refine⟨bG,r,none,[],aa,λi hi=> ?_,.inr aa,.inr aa,⟨hch.os,hch.tape,hch.output,hch.size,hch.block,hch.agree,λi hi=>(by cases hi),λi hi=>(by cases hi),hch.own,λx hx=>(by cases hx),hch.once,hch.apart,λx hx=>(by cases hx)⟩,hv⟩;rcases Ir i hi with e|⟨e0,e1,e2⟩
 ·exact .inl e
 ·exact .inr ⟨ko hh e0,hh i e0▸e1,e2⟩
theorem rJ (hp:zW C H) {ids:List Nat} (h0:∀ i∈ids,H i≠none) (h:Reach H ids i):H i≠none:=by
 induction h with
 | base hi=>exact h0 _ hi
 | step hi h1 h2 ih=>exact hp.closed _ _ _ h1 _ h2
theorem wF (h:au C.SU ml o=3\/au C.SU ml o=4\/au C.SU ml o=5) (h5:au C.SU ml o≠5):(au C.SU ml o=3/\lvl C.SU (some ml) o=1)\/(au C.SU ml o=4/\lvl C.SU (some ml) o=0):=by
 rcases h with e|e|e
 ·exact .inl ⟨e,by show Lf _=_;rw[e];rfl⟩
 ·exact .inr ⟨e,by show Lf _=_;rw[e];rfl⟩
 ·exact absurd e h5
theorem mv (hC:C.Ok) (hL:Live C F H w) (hs:(stepOf C full F H o).still C=some (Ψ,u)) (hx:Ψ x):Live C (F.bm o.dst x) (H.upd u) w:=by
 obtain⟨β,a,w1,hr,hk⟩:=hL.rel;have hb:stepOf C full F H o≠.bad:=λe=>by rw[e] at hs;cases hs
 obtain⟨hd,⟨_,e⟩|⟨_,e⟩⟩:=gO hb
 ·rw[e] at hs;cases hs;cases hx;exact Live.of (hr.put hd (λ_ hi=>by cases hi)) hk
 ·rw[e] at hs;cases hst:act C F H o with
  | bad=>rw[hst] at hs;cases hs
  | call d=>rw[hst] at hs;cases hs
  | dw v u'=>
    rw[hst] at hs;cases hs;cases hx;obtain⟨bG,w2,k2,r2,_⟩:=GP hC hst hd hr;exact Live.of r2 (hk.aB k2)
  | cond φ v u'=>
    rw[hst] at hs;cases hs;obtain⟨zY,rfl⟩:=hx;obtain⟨bG,w2,k2,r2,_⟩:=Cl hC hst zY hd hr;exact Live.of r2 (hk.aB k2)
  | read i y=>
    rw[hst] at hs;cases hs;obtain⟨cs,_,_,rfl⟩:=hx;exact Live.of (hr.put hd (λ_ hi=>by cases hi)) hk
  | dQ i cs off=>
    rw[hst] at hs;cases hs;obtain⟨vs,h1,h2,rfl⟩:=hx;obtain⟨t,y,b,tb,hop,hi,hy,hb⟩:=Ck hst
    have wE:∀ x∈vs,x∈cs:=λx hx=>by
     obtain⟨j,hj⟩:=vt hx;exact dx (h2 j x hj)
    have jw:vs.all aF=true:=aW.2 λx hx=>aW.1 (hr.own b tb cs hb).ok x (wE x hx);refine Live.of (hr.put hd (λj hj=> ?_)) hk;obtain⟨x,hx,hj'⟩:=bl.1 (sJ jw hj);exact hr.hp.closed b tb cs hb j (bl.2 ⟨x,wE x hx,hj'⟩)
theorem EM (h:Aa p=true):∃ t,p.op=.move (.tmp t)/\p.guard=none:=by
 unfold Aa at h
 split at h
 ·rename_i t e1 e2;exact⟨t,e1,e2⟩
 ·cases h
theorem Cw {d:Option Nat} {v:AV} {ρ:AV->Value}:(F.bm d v).forget (some i) ρ=(F.forget (some i) ρ).bm d (v.fg i ρ):=by
 cases d with
 | none=>rfl
 | some n=>
   funext z
   show (match (F.put n v) z with|some v=>some (v.fg i ρ)|none=>none)=((F.forget (some i) ρ).put n (v.fg i ρ)) z;rw[Fr.bL,Fr.bL];by_cases hz:z=n
   ·rw[if_pos hz,if_pos hz]
   ·rw[if_neg hz,if_neg hz];rfl
theorem swapM (ha:p.apart full o=true) (hi:Aa p=true) (h:one C (some ml) full p (one C (some ml) full o k) F H w):one C (some ml) full o (one C (some ml) full p k) F H w:=by
 obtain⟨a1,a2,a3⟩:=Oper.apart_spec ha;obtain⟨t,hop,hg⟩:=EM hi
 have hst:∀ (F:Fr) (H:Hp),stepOf C full F H p=bif il C.N p.dst then xN (F t) else .bad:=λF H=>by
  unfold stepOf wants act;rw[hg,hop];rfl
 have hto:o.dst≠some t:=λe=>a3 t e (pK (y:=.tmp t) (by rw[hop];simp[Op.operands]) aa);cases hd:il C.N p.dst with
 | false=>unfold one at h;rw[hst,hd] at h;exact h.elim
 | true=>
   cases hF:F t with
   | none=>unfold one at h;rw[hst,hd,hF] at h;exact h.elim
   | some v=>
     have h':one C (some ml) full o k (F.bm p.dst v) H w:=by
      unfold one at h;rw[hst,hd,hF] at h;exact h
     have eo:stepOf C full (F.bm p.dst v) H o=stepOf C full F H o:=cZ a1
     have key:∀ (F':Fr) (H':Hp) (w':World) (r v':AV),F' t=some v'->k ((F'.bm p.dst v').bm o.dst r) H' w'->one C (some ml) full p k (F'.bm o.dst r) H' w':=λF' H' w' r v' hF' hk=>by
      have e:(F'.bm o.dst r) t=some v':=(qh λn hn=>λe=>hto (by rw[hn,e])).trans hF';unfold one;rw[hst,hd,e];show k ((F'.bm o.dst r).bm p.dst v') H' w';rw[je (λn hn e'=>a2 n e' hn)];exact hk
     unfold one at h' ⊢;rw[eo] at h';cases hso:stepOf C full F H o with
     | dw y u=>rw[hso] at h';exact key F _ _ _ _ hF h'
     | read i a=>
       rw[hso] at h';obtain⟨cs,h1,h2,h3⟩:=h';exact⟨cs,h1,h2,key F _ _ _ _ hF h3⟩
     | dQ i cs off=>
       rw[hso] at h';obtain⟨vs,h1,h2,h3⟩:=h';exact⟨vs,h1,h2,key F _ _ _ _ hF h3⟩
     | cond φ y u=>rw[hso] at h';exact⟨h'.1,key F _ _ _ _ hF h'.2⟩
     | bad=>rw[hso] at h';exact h'.elim
     | call d=>
       rw[hso] at h';intro w1 β h1 h2 h3;refine (h' w1 β h1 h2 h3).mono ?_;rintro e w2 ⟨bG,r,del,ups,he,Ir,zP,yU,hch,hv⟩;refine⟨bG,r,del,ups,he,Ir,zP,yU,hch,λa b c ρ dH=> ?_⟩;have hv':=hv a b c ρ dH;cases del with
       | none=>exact key _ _ _ _ _ hF hv'
       | some i=>
         rw[Cw] at hv';refine key _ _ _ _ _ ?_ hv';show (match F t with|some v=>some (v.fg i ρ)|none=>none)=_;rw[hF]
theorem swap (hC:C.Ok) (hL:Live C F H w) (hi:indep C.SU ml full p o=true) (h:one C (some ml) full p (one C (some ml) full o k) F H w):one C (some ml) full o (one C (some ml) full p k) F H w:=by
 unfold indep at hi;rw[dR] at hi;obtain⟨ha,hm⟩:=hi;rcases pk _ _▸hm with hm|hmv
 case inr=>exact swapM ha hmv h
 obtain⟨a1,a2,a3⟩:=Oper.apart_spec ha;have a2':∀ d,o.dst=some d->p.dst≠some d:=λd hd e=>a2 d e hd;have hmi:=oI hm;have hc:=hL.closed;rcases gP (C:=C) (stepOf C full F H p) with hp|⟨Ψp,up,hp⟩|⟨d,hp⟩
 ·unfold one at h;rw[hp] at h;exact h.elim
 ·obtain⟨x,hx,h⟩:=(cg hp).1 h;have eo:stepOf C full (F.bm p.dst x) (H.upd up) o=stepOf C full F H o:=(cZ a1).trans (sS hp hm a2 hc);rcases gP (C:=C) (stepOf C full F H o) with ho|⟨Ψo,uo,ho⟩|⟨d,ho⟩
  ·unfold one at h;rw[eo,ho] at h;exact h.elim
  ·obtain⟨y,hy,h⟩:=(cg (by rw[eo];exact ho)).1 h;refine (cg ho).2 ⟨y,hy,(cg (Ψ:=Ψp) (u:=up) ?_).2 ⟨x,hx,?_⟩⟩
   ·rw[show stepOf C full (F.bm o.dst y) (H.upd uo) p=stepOf C full F H p from (cZ a3).trans (sS ho (qi hm) a2' hc)];exact hp
   ·rw[je a2',Lr ho hp (qi hm) a2'];exact h
  ·obtain⟨co,cid⟩:=km (ml:=ml) ho;unfold one at h ⊢;rw[eo,ho] at h;rw[ho];have hL':=mv hC hL hp hx;rcases wF co hmi.2.1 with ⟨c3,al⟩|⟨c4,al⟩
   ·-- a call that may change variables:p has no memory
    have p0:au C.SU ml p=0:=ae
    have hup:up=none:=by
     rcases eR (ml:=ml) hp with e|e|⟨e,_⟩
     ·exact e
     ·omega
     ·omega
    subst hup
    have h1:bZ C (lvl C.SU (some ml) o) (F.bm p.dst x) H d w λr _ H' w2=>k ((F.bm p.dst x).bm o.dst r) H' w2:=bZ.mono hL' h λr F' H' w2 _ _ _ hF hv=>by
     rw[hF ae] at hv;exact hv
    refine bZ.mono hL (bZ.frame (F1:=F) (j:=λr H' w2=>k ((F.bm p.dst x).bm o.dst r) H' w2) h1) λr F' H' w2 _ _ _ hF hv=> ?_;rw[hF ae]
    have:one C (some ml) full p k (F.bm o.dst r) H' w2:=by
     refine (cg (Ψ:=Ψp) (u:=none) ?_).2 ⟨x,hx,?_⟩
     ·rw[show stepOf C full (F.bm o.dst r) H' p=stepOf C full F H p from (cZ a3).trans (dU (jz (ml:=ml) (.inl p0)))];exact hp
     ·rw[je a2'];exact hv
    exact this
   ·rw[al] at h ⊢
    have h1:bZ C 0 (F.bm p.dst x) (H.upd up) d w λr _ _ w2=>k ((F.bm p.dst x).bm o.dst r) (H.upd up) w2:=bZ.mono hL' h λr F' H' w2 _ _ hH hF hv=>by
     rw[hF ae,hH rfl] at hv;exact hv
    have hids:∀ i,Reach (H.upd up) d.ids i->H i=(H.upd up) i:=by
     rcases eR (ml:=ml) hp with e|e|⟨e,d',c,hd,e2,h0⟩
     ·rw[e];exact λ_ _=>aa
     ·omega
     ·rw[e2]
      have Ls:∀ i,Reach H d.ids i->(H.put d' c) i=H i:=λi hi=>by
       rw[Hp.bL,if_neg];intro e3;exact rJ hL.hp (cid hc) hi (e3▸h0)
      exact λi hi=>(Ls i (EL Ls hi)).symm
    have h2:=bZ.frame (F1:=F) (j:=λr _ w2=>k ((F.bm p.dst x).bm o.dst r) (H.upd up) w2) (bZ.heap (H':=H) (j:=λr w2=>k ((F.bm p.dst x).bm o.dst r) (H.upd up) w2) hids h1);refine bZ.mono hL h2 λr F' H' w2 _ _ hH hF hv=> ?_;rw[hH rfl,hF ae]
    have:one C (some ml) full p k (F.bm o.dst r) H w2:=by
     refine (cg (Ψ:=Ψp) (u:=up) ?_).2 ⟨x,hx,?_⟩
     ·rw[show stepOf C full (F.bm o.dst r) H p=stepOf C full F H p from cZ a3];exact hp
     ·rw[je a2'];exact hv
    exact this
 ·obtain⟨cp,cid⟩:=km (ml:=ml) hp
  have h':bZ C (lvl C.SU (some ml) p) F H d w λr F' H' w2=>one C (some ml) full o k (F'.bm p.dst r) H' w2:=by
   unfold one at h;rw[hp] at h;exact h
  rcases wF cp hmi.1 with ⟨c3,al⟩|⟨c4,al⟩
  ·have o0:au C.SU ml o=0:=by omega
   have eo:∀ (r:AV) (H':Hp),stepOf C full (F.bm p.dst r) H' o=stepOf C full F H o:=λr H'=>(cZ a1).trans (dU (jz (ml:=ml) (.inl o0)));rcases gP (C:=C) (stepOf C full F H o) with ho|⟨Ψo,uo,ho⟩|⟨d',ho⟩
   ·obtain⟨r,F',H',w2,_,hF,hv⟩:=h'.some hL;rw[hF ae] at hv;unfold one at hv;rw[eo r H',ho] at hv;exact hv.elim
   ·have huo:uo=none:=by
     rcases eR (ml:=ml) ho with e|e|⟨e,_⟩
     ·exact e
     ·omega
     ·omega
    subst huo;obtain⟨r,F',H',w2,_,hF,hv⟩:=h'.some hL;rw[hF ae] at hv;obtain⟨y,hy,_⟩:=(cg (by rw[eo r H'];exact ho)).1 hv;refine (cg ho).2 ⟨y,hy,?_⟩;have ep:stepOf C full (F.bm o.dst y) (H.upd none) p=.call d:=(cZ a3).trans hp;unfold one;rw[ep]
    have h1:bZ C (lvl C.SU (some ml) p) F H d w λr _ H' w2=>k ((F.bm o.dst y).bm p.dst r) H' w2:=bZ.mono hL h' λr F' H' w2 _ _ _ hF hv=>by
     rw[hF ae] at hv;obtain⟨z,hz,hv⟩:=(cg (by rw[eo r H'];exact ho)).1 hv;rw[sR ho hy hz,je a2'];exact hv
    exact bZ.mono (mv hC hL ho hy) (bZ.frame (F1:=F.bm o.dst y) (j:=λr H' w2=>k ((F.bm o.dst y).bm p.dst r) H' w2) h1) λr F' H' w2 _ _ _ hF hv=>by
     rw[hF ae];exact hv
   ·obtain⟨co,_⟩:=km (ml:=ml) ho;omega
  ·rw[al] at h';have eo:∀ r:AV,stepOf C full (F.bm p.dst r) H o=stepOf C full F H o:=λr=>cZ a1
   have h2:bZ C 0 F H d w λr _ _ w2=>one C (some ml) full o k (F.bm p.dst r) H w2:=bZ.mono hL h' λr F' H' w2 _ _ hH hF hv=>by
    rw[hH rfl,hF ae] at hv;exact hv
   rcases gP (C:=C) (stepOf C full F H o) with ho|⟨Ψo,uo,ho⟩|⟨d',ho⟩
   ·obtain⟨r,F',H',w2,_,_,hv⟩:=h2.some hL;unfold one at hv;rw[eo r,ho] at hv;exact hv.elim
   ·obtain⟨r,F',H',w2,_,_,hv⟩:=h2.some hL;obtain⟨y,hy,_⟩:=(cg (by rw[eo r];exact ho)).1 hv;refine (cg ho).2 ⟨y,hy,?_⟩;have ep:stepOf C full (F.bm o.dst y) (H.upd uo) p=.call d:=((cZ a3).trans (sS ho (qi hm) a2' hc)).trans hp;unfold one;rw[ep,al]
    have hids:∀ i,Reach H d.ids i->(H.upd uo) i=H i:=λi hi=>by
     rcases eR (ml:=ml) ho with e|e|⟨e,d',c,hd,e2,h0⟩
     ·rw[e];rfl
     ·omega
     ·rw[e2];show (H.put d' c) i=H i;rw[Hp.bL,if_neg];intro e3;exact rJ hL.hp (cid hc) hi (e3▸h0)
    have h3:=bZ.frame (F1:=F.bm o.dst y) (j:=λr H' w2=>one C (some ml) full o k (F.bm p.dst r) H w2) (bZ.heap (H':=H.upd uo) (j:=λr w2=>one C (some ml) full o k (F.bm p.dst r) H w2) hids h2);refine bZ.mono (mv hC hL ho hy) h3 λr F' H' w2 _ _ hH hF hv=> ?_;obtain⟨z,hz,hv⟩:=(cg (by rw[eo r];exact ho)).1 hv;rw[hH rfl,hF ae,sR ho hy hz,je a2'];exact hv
   ·obtain⟨co,_⟩:=km (ml:=ml) ho;omega
theorem rK (hC:C.Ok) {k':Fr->Hp->World->Prop} (hL:Live C F H w) (h:one C (some ml) full p k F H w) (hk:∀ F' H' w',Live C F' H' w'->k F' H' w'->k' F' H' w'):one C (some ml) full p k' F H w:=by
 rcases gP (C:=C) (stepOf C full F H p) with hp|⟨Ψp,up,hp⟩|⟨d,hp⟩
 ·unfold one at h;rw[hp] at h;exact h.elim
 ·obtain⟨x,hx,h⟩:=(cg hp).1 h;exact (cg hp).2 ⟨x,hx,hk _ _ _ (mv hC hL hp hx) h⟩
 ·have hb:stepOf C full F H p≠.bad:=λe=>by rw[e] at hp;cases hp
  have hd:=(gO hb).1;unfold one at h ⊢;rw[hp] at h ⊢;refine bZ.mono hL h λr F' H' w2 hL2 Ir _ _ hv=>hk _ _ _ ?_ hv;obtain⟨β,a,w1,hr,uQ⟩:=hL2.rel;exact Live.of (hr.put hd Ir) uQ
theorem Ab (hC:C.Ok) {K:Fr->Hp->World->Prop} {post:List Oper}:∀ (pre:List Oper) (F:Fr) (H:Hp) (w:World),(∀ q∈pre,indep C.SU ml full q o=true)->Live C F H w->aq C (some ml) full (pre++o::post) K F H w->aq C (some ml) full (o::(pre++post)) K F H w
 | [],F,H,w,_,_,h=>h
 | q::r,F,H,w,hi,hL,h=>by
   have h1:one C (some ml) full q (aq C (some ml) full (o::(r++post)) K) F H w:=rK hC hL (show one C (some ml) full q (aq C (some ml) full (r++o::post) K) F H w from h) λF' H' w' hL' hv=>Ab hC r F' H' w' (λq' hq'=>hi q' (by simp[hq'])) hL' hv;exact swap hC hL (hi q bc) h1
end
section
variable {C:Cx} {full:Array Oper} {ml:List FuncId} {Q:Exit->Act->World->Prop}
theorem Cy {j d:Nat} {o:Oper} (ho:full[j]? =some o):d∈bu full j↔∃ e∈o.after.toList,Region.binds .any e=true/\e.on=d:=by
 unfold bu;rw[ho];simp only[List.mem_map,List.mem_filter];exact⟨λ⟨e,⟨h1,h2⟩,h3⟩=>⟨e,h1,h2,h3⟩,λ⟨e,h1,h2,h3⟩=>⟨e,⟨h1,h2⟩,h3⟩⟩
variable {listed:Array Bool} {i:Nat}
theorem mem_ready:i∈Region.ready .any full listed↔i<full.size/\listed.getD i true=false/\∀ d∈bu full i,listed.getD d false=true:=by
 unfold Region.ready;rw[mO,iM];constructor
 ·rintro⟨h1,h2⟩;have ho:=iI h1;simp only[Bool.and_eq_true,Bool.not_eq_true',ho,Option.map_some,Option.getD_some,Array.all_eq_true_iff_forall_mem,Bool.or_eq_true] at h2;refine⟨h1,h2.1,λd hd=> ?_⟩;obtain⟨e,he,hb,rfl⟩:=(Cy ho).1 hd;rcases h2.2 e (by simpa using he) with h|h
  ·rw[hb] at h;cases h
  ·exact h
 ·rintro⟨h1,h2,h3⟩;refine⟨h1,?_⟩;have ho:=iI h1;simp only[Bool.and_eq_true,Bool.not_eq_true',ho,Option.map_some,Option.getD_some,Array.all_eq_true_iff_forall_mem,Bool.or_eq_true];refine⟨h2,λe he=> ?_⟩;cases hb:Region.binds .any e with
  | false=>exact .inl aa
  | true=>exact .inr (h3 _ ((Cy ho).2 ⟨e,by simpa using he,hb,rfl⟩))
theorem ff {listed:Array Bool} (fI:∀ j,j<full.size->∀ d∈bu full j,d<j) (eS:∀ j,j<full.size->listed.getD j true=true->∀ d∈bu full j,listed.getD d false=true) (hsz:listed.size=full.size) {i:Nat}:
  ∀ (f j:Nat),j<full.size->(∀ d∈bu full j,listed.getD d false=true)->reach full f j i=true->listed.getD i false=true
 | 0,j,_,hj,h=>hj i (by unfold reach at h;simpa using h)
 | f+1,j,hjs,hj,h=>by
   unfold reach at h;rcases pk _ _▸h with e|e
   ·exact hj i (by simpa using e)
   ·obtain⟨d,hd,e⟩:=Bg.1 e;rw[dR] at e;have hdj:=fI j hjs d hd;have hl:=hj d hd;refine ff fI eS hsz f d ae (eS d ae ?_) e.2;have:d<listed.size:=ae;rw[cA] at hl ⊢;rw[iI this] at hl ⊢;exact hl
variable {K:Fr->Hp->World->Prop}
theorem IQ (hC:C.Ok) (gB:nS C.SU ml full=true) (hQ:∀ β F H w a w',K F H w->Rel C β F H a w'->aY C.K w w'->Q .normal a w'):
  ∀ (fuel:Nat) (listed:Array Bool) (rem:List Nat) (β:Nat->Nat) (F:Fr) (H:Hp) (w:World) (a:Act) (w':World),listed.size=full.size->rem.Pairwise (·< ·)->(∀ x,x∈rem↔x<full.size/\listed.getD x true=false)->rem.length<=fuel->
    (∀ j,j<full.size->listed.getD j true=true->∀ d∈bu full j,listed.getD d false=true)->
    aq C (some ml) full (rem.filterMap (full[·]?)) K F H w->Rel C β F H a w'->aY C.K w w'->wpAny C.P .any full Q fuel listed a w':=by
 have fI:∀ j,j<full.size->∀ d∈bu full j,d<j:=λj hj d hd=>by
  unfold nS at gB;have:=aW.1 gB j (iM.2 hj);rw[dR] at this;exact cz (aW.1 this.1 d hd)
 have Lt:∀ i j,i<j->j<full.size->gp C.SU ml full i j=true:=λi j hij hj=>by
  unfold nS at gB;have:=aW.1 gB j (iM.2 hj);rw[dR] at this;exact aW.1 this.2 i (iM.2 hij)
 intro fuel
 induction fuel with
 | zero=>
   intro listed rem β F H w a w' hsz hpw nT hlen eS h hr hk;have h0:rem=[]:=jQ ae;subst h0;refine⟨?_,hQ β F H w a w' h hr hk⟩;rw[vn];intro i hi;have:=mem_ready.1 hi;exact absurd ((nT i).2 ⟨this.1,this.2.1⟩) bc
 | succ fuel ih=>
   intro listed rem β F H w a w' hsz hpw nT hlen eS h hr hk;constructor
   ·intro pL;cases rem with
    | nil=>exact hQ β F H w a w' h hr hk
    | cons i r=>
      exfalso;have hi:=(nT i).1 bc
      have:i∈Region.ready .any full listed:=mem_ready.2 ⟨hi.1,hi.2,λd hd=>by
       have hdi:=fI i hi.1 d hd;cases hl:listed.getD d true with
       | true=>
         rw[cA] at hl ⊢;have:d<listed.size:=ae;rw[iI this] at hl ⊢;exact hl
       | false=>
         have hm:=(nT d).2 ⟨ae,hl⟩;rcases fj.1 hm with e|e
         ·omega
         ·have:=(ye.1 hpw).1 d e;omega⟩
      rw[pL] at this;cases this
   ·intro i hi;obtain⟨mW,Cz,GS⟩:=mem_ready.1 hi;obtain⟨pre,post,rfl⟩:=vx ((nT i).2 ⟨mW,Cz⟩);have ho:=iI mW;generalize full[i]=o at ho;have Gv:=Gf.1 hpw;have hlt:∀ p∈pre,p<i:=λp hp=>Gv.2.2 p hp i bc;have Lb:∀ p∈post,i<p:=(ye.1 Gv.2.1).1
    have hb:aq C (some ml) full (o::(pre.filterMap (full[·]?)++post.filterMap (full[·]?))) K F H w:=by
     refine Ab hC _ F H w (λq hq=> ?_) (Live.of hr hk) (by
      rw[vp,FY ho] at h;exact h)
     obtain⟨p,hp,hpq⟩:=Gj.1 hq;have zO:=((nT p).1 (by simp[hp])).2;have hpi:=hlt p hp;have:=Lt p i hpi mW;unfold gp at this;rw[hpq,ho] at this;simp only[Bool.or_eq_true] at this
     have hno:listed.getD p false=false:=by
      have:p<listed.size:=ae;rw[cA] at zO ⊢;rw[iI this] at zO ⊢;exact zO
     rcases this with e|e
     ·exact e
     ·have:=ff fI eS hsz full.size i mW GS e;rw[hno] at this;cases this
    have wG:one C (some ml) full o (aq C (some ml) full ((pre++post).filterMap (full[·]?)) K) F H w:=by
     rw[vp];exact hb
    have:=jd (Q:=Q) (next:=wpAny C.P .any full Q fuel (listed.setIfInBounds i true)) hC wG hr hk λbG F' H' w1 a' EG h1 h2 h3=>by
     refine ih (listed.setIfInBounds i true) (pre++post) bG F' H' w1 a' EG (by simp[hsz]) ?_ ?_ ?_ ?_ h1 h2 h3
     ·exact Gf.2 ⟨Gv.1,(ye.1 Gv.2.1).2,λx hx y hy=>Gv.2.2 x hx y (by simp[hy])⟩
     ·intro x;by_cases hx:x=i
      ·subst hx;constructor
       ·intro hm;rcases fU.1 hm with e|e
        ·exact absurd (hlt _ e) ae
        ·exact absurd (Lb _ e) ae
       ·rintro⟨_,e⟩;simp[Array.getD_eq_getD_getElem?,Array.getElem?_setIfInBounds,hsz,mW] at e
      ·have e1:(listed.setIfInBounds i true).getD x true=listed.getD x true:=by
        rw[cA,nk,if_neg (λe=>hx e.symm),<-cA]
       rw[e1,<-nT x];simp[hx]
     ·have:(pre++i::post).length=(pre++post).length+1:=by simp;omega
      omega
     ·intro j hj hl d hd
      have pT:listed.getD d false=true->(listed.setIfInBounds i true).getD d false=true:=λe=>by
       by_cases hx:d=i
       ·subst hx;simp[Array.getD_eq_getD_getElem?,Array.getElem?_setIfInBounds,hsz,mW]
       ·rw[cA,nk,if_neg (λe=>hx e.symm),<-cA];exact e
      by_cases hx:j=i
      ·subst hx;exact pT (GS d hd)
      ·refine pT (eS j hj ?_ d hd)
       rwa [cA,nk,if_neg (λe=>hx e.symm),<-cA] at hl
    unfold wpOp;rw[ho];simp only
    split
    ·rename_i hw;rw[if_pos hw] at this;exact .inl this
    ·rename_i hw;rw[if_neg hw] at this;exact this
theorem yV:∀ (l:List Oper) (k:Nat),(∀ j,l[j]? =full[k+j]?)->(List.range' k l.length).filterMap (full[·]?)=l
 | [],_,_=>rfl
 | o::l,k,h=>by
   rw[ji,List.range'_succ,FY (b:=o) (by simpa using (h 0).symm),yV l (k+1) (λj=>by
    have:=h (j+1);simpa [Nat.add_assoc,Nat.add_comm 1 j] using this)]
variable {a:Act} {F:Fr} {H:Hp} {β:Nat->Nat} {w:World}
theorem Rel.drew (hr:Rel C β F H a w):Rel C β F H a w.drew:=
 ⟨hr.defers,hr.size,hr.tmp,λi t cs h=>⟨(hr.own i t cs h).new,(hr.own i t cs h).ty,(hr.own i t cs h).cls,(hr.own i t cs h).ok⟩,hr.apart,hr.closed,hr.fits,hr.hp,C.aB hr.old ((ax.refl _).drew)⟩
variable {w':World}
theorem aY.drew {K:KC} (h:aY K w w'):aY K w w'.drew:=⟨h.size,h.cell,h.block,h.map⟩
variable {id:Nat}
theorem Ac (hC:C.Ok) (hm:C.P.follows .mixedOrders=true) (gB:nS C.SU ml full=true) (hQ:∀ β F H w a w',K F H w->Rel C β F H a w'->aY C.K w w'->Q .normal a w')
  (h:aq C (some ml) full full.toList K F H w) (hr:Rel C β F H a w') (hk:aY C.K w w'):(Code.region id full true).wp C.P Q a w':=by
 refine wp_region_any hm ?_;refine IQ hC gB hQ full.size (Array.replicate full.size false) (List.range full.size) β F H w a w'.drew bc List.pairwise_lt_range ?_ bc ?_ ?_ hr.drew hk.drew
 ·intro x;rw[iM];constructor
  ·intro hx;refine⟨hx,?_⟩;simp[Array.getD_eq_getD_getElem?,Array.getElem?_replicate,hx]
  ·exact λh=>h.1
 ·intro j hj hl;simp[Array.getD_eq_getD_getElem?,Array.getElem?_replicate,hj] at hl
 ·have:(List.range full.size).filterMap (full[·]?)=full.toList:=by
   rw[List.range_eq_range',<-yc];exact yV full.toList 0 (λj=>bc)
  rw[this];exact h
def CA (l:List Nat) (p:Nat->Prop):Prop:=match l with
 | []=>True
 | i::r=>p i/\CA r p
theorem CB {p:Nat->Prop}:∀ {l:List Nat},CA l p->∀ i∈l,p i
 | j::r,h,i,hi=>by
   rcases fj.1 hi with rfl|e
   ·exact h.1
   ·exact CB h.2 i e
def uE (l:List Nat) (i:Nat):Bool:=l.any (Nat.beq i)
theorem rL {l:List Nat}:uE l i=true↔i∈l:=by
 unfold uE;rw[Bg];exact⟨λ⟨y,hy,e⟩=>(fT e)▸hy,λh=>⟨i,h,bc⟩⟩
def rdy (full:Array Oper) (done:List Nat):List Nat:=(List.range full.size).filter λi=> !(uE done i) && (bu full i).all (uE done)
def Lists (full:Array Oper) (done:List Nat) (listed:Array Bool):Prop:=listed.size=full.size/\(∀ i,i<full.size->(listed.getD i true=true↔i∈done))/\∀ i∈done,i<full.size
theorem sT {done:List Nat} (h:Lists full done listed):i∈Region.ready .any full listed↔i∈rdy full done:=by
 rw[mem_ready];unfold rdy;rw[mO,iM,dR,aW]
 have hf:∀ d,listed.getD d false=true↔d<full.size/\d∈done:=λd=>by
  by_cases hd:d<full.size
  ·have hl:d<listed.size:=by rw[h.1];exact hd
   have:=h.2.1 d hd;rw[cA] at this ⊢;rw[iI hl] at this ⊢;exact⟨λe=>⟨hd,this.1 e⟩,λe=>this.2 e.2⟩
  ·have hl:¬ d<listed.size:=by rw[h.1];exact hd
   rw[cA,Gc ae];exact⟨λe=>(by cases e),λe=>absurd e.1 hd⟩
 constructor
 ·rintro⟨h1,h2,h3⟩;refine⟨h1,?_,λd hd=>rL.2 ((hf d).1 (h3 d hd)).2⟩;cases hb:uE done i with
  | false=>rfl
  | true=>
    have:=(h.2.1 i h1).2 (rL.1 hb);rw[h2] at this;cases this
 ·rintro⟨h1,h2,h3⟩;refine⟨h1,?_,λd hd=>(hf d).2 ?_⟩
  ·cases hb:listed.getD i true with
   | false=>rfl
   | true=>
     rw[rL.2 ((h.2.1 i h1).1 hb)] at h2;cases h2
  ·have:=rL.1 (h3 d hd);exact⟨h.2.2 d this,this⟩
def nU (C:Cx) (ml:List FuncId) (full:Array Oper):Nat->List Nat->(Fr->Hp->World->Prop)->Fr->Hp->World->Prop
 | 0,_,K,F,H,w=>K F H w
 | f+1,done,K,F,H,w=>match rdy full done with
   | []=>K F H w
   | l=>CA l λi=>match full[i]? with
     | some o=>one C (some ml) full o (nU C ml full f (i::done) K) F H w
     | none=>False
theorem CC (hC:C.Ok) (hQ:∀ β F H w a w',K F H w->Rel C β F H a w'->aY C.K w w'->Q .normal a w'):
  ∀ (f:Nat) (done:List Nat) (listed:Array Bool) (β:Nat->Nat) (F:Fr) (H:Hp) (w:World) (a:Act) (w':World),Lists full done listed->((List.range full.size).filter λi=> !uE done i).length<=f->nU C ml full f done K F H w->Rel C β F H a w'->aY C.K w w'->wpAny C.P .any full Q f listed a w':=by
 intro f
 induction f with
 | zero=>
   intro done listed β F H w a w' hL hf h hr hk;refine⟨?_,hQ β F H w a w' h hr hk⟩;rw[vn];intro i hi;have pI:=(sT hL).1 hi;unfold rdy at pI;rw[mO,dR] at pI;have:i∈(List.range full.size).filter λi=> !uE done i:=mO.2 ⟨pI.1,pI.2.1⟩;rw[jQ (Nat.le_zero.1 hf)] at this;cases this
 | succ f ih=>
   intro done listed β F H w a w' hL hf h hr hk;unfold nU at h;constructor
   ·intro pL
    have:rdy full done=[]:=by
     rw[vn];intro i hi;have:=(sT hL).2 hi;rw[pL] at this;cases this
    rw[this] at h;exact hQ β F H w a w' h hr hk
   ·intro i hi
    have h':CA (rdy full done) λi=>match full[i]? with
     | some o=>one C (some ml) full o (nU C ml full f (i::done) K) F H w
     | none=>False:=by
     cases hl:rdy full done with
     | nil=>exact aj
     | cons x r=>rw[hl] at h;exact h
    have pI:=(sT hL).1 hi;have wG:=CB h' i pI;obtain⟨mW,Cz,_⟩:=mem_ready.1 hi;unfold rdy at pI;rw[mO,dR] at pI;have ho:=iI mW;generalize full[i]=o at ho;rw[ho] at wG
    have:=jd (Q:=Q) (next:=wpAny C.P .any full Q f (listed.setIfInBounds i true)) hC wG hr hk λbG F' H' w1 a' EG h1 h2 h3=>
     ih (i::done) (listed.setIfInBounds i true) bG F' H' w1 a' EG ⟨by simp[hL.1],λj hj=>by
      by_cases e:j=i
      ·subst e;have hl:j<listed.size:=by rw[hL.1];exact hj
       simp[Array.getD_eq_getD_getElem?,Array.getElem?_setIfInBounds,hl]
      ·rw[cA,nk,if_neg (λe'=>e e'.symm),<-cA,hL.2.1 j hj];simp[e],λj hj=>by
      rcases fj.1 hj with e|e
      ·rw[e];exact mW
      ·exact hL.2.2 j e⟩ (by
      have e1:((List.range full.size).filter λj=> !uE (i::done) j)=((List.range full.size).filter λj=> !uE done j).filter λj=> !Nat.beq j i:=by
       rw[List.filter_filter]
       congr 1
       funext j
       show (!(Nat.beq j i || uE done j))=_;rw[Bool.not_or]
      have hlt:(((List.range full.size).filter λj=> !uE done j).filter λj=> !Nat.beq j i).length<((List.range full.size).filter λj=> !uE done j).length:=
       List.length_filter_lt_length_iff_exists.2 ⟨i,mO.2 ⟨pI.1,pI.2.1⟩,bc⟩
      rw[e1];omega) h1 h2 h3
    unfold wpOp;rw[ho];simp only
    split
    ·rename_i hw;rw[if_pos hw] at this;exact .inl this
    ·rename_i hw;rw[if_neg hw] at this;exact this
theorem EN (hC:C.Ok) (hm:C.P.follows .mixedOrders=true) (hQ:∀ β F H w a w',K F H w->Rel C β F H a w'->aY C.K w w'->Q .normal a w')
  (h:nU C ml full full.size [] K F H w) (hr:Rel C β F H a w') (hk:aY C.K w w'):(Code.region id full true).wp C.P Q a w':=by
 refine wp_region_any hm ?_;refine CC hC hQ full.size [] (Array.replicate full.size false) β F H w a w'.drew ⟨bc,λi hi=> ?_,λi hi=>(by cases hi)⟩ ?_ h hr.drew hk.drew
 ·simp[Array.getD_eq_getD_getElem?,Array.getElem?_replicate,hi]
 ·exact bA (List.length_filter_le _ _) bc
end
inductive It where
 | code (c:Code)
 | kX (id:Nat)
 | back (Φ:Act->World->Prop)
 | scope
def post (P:Program) (Q:Exit->Act->World->Prop):List It->Exit->Act->World->Prop
 | []=>Q
 | .code c::k=>Exit.then (λa w=>c.wp P (post P Q k) a w) (post P Q k)
 | .kX id::k=>Exit.inBlock id (post P Q k)
 | .back Φ::k=>Exit.then Φ (post P Q k)
 | .scope::k=>Exit.noGoto (post P Q k)
def VS (C:Cx) (Q:Exit->Act->World->Prop) (stk:List It) (F:Fr) (H:Hp) (w:World):Prop:=
 ∀ β a w',Rel C β F H a w'->aY C.K w w'->post C.P Q stk .normal a w'
def pop (id:Nat):List It->Option (List It)
 | []=>none
 | .code _::k=>pop id k
 | .back _::k=>pop id k
 | .scope::k=>pop id k
 | .kX i::k=>bif Nat.beq id i then some k else pop id k
def Fr.of (L:List (Nat×AV)):Fr:=λn=>match L with
 | []=>none
 | (d,v)::r=>bif Nat.beq n d then some v else Fr.of r n
def Hp.of (L:List (Nat×(TypeId×List AV))):Hp:=λn=>match L with
 | []=>none
 | (d,v)::r=>bif Nat.beq n d then some v else Hp.of r n
def pM (F:Fr):List (Nat×AV)->Prop
 | []=>True
 | p::r=>F p.1=some p.2/\pM F r
def nV (H:Hp):List (Nat×(TypeId×List AV))->Prop
 | []=>True
 | p::r=>H p.1=some p.2/\nV H r
def inM (M:List (Nat×(TypeId×List AV))) (i:Nat):Bool:=M.any λq=>Nat.beq i q.1
def Ad (L:List (Nat×AV)) (M:List (Nat×(TypeId×List AV))):Bool:=L.all λp=>p.2.ids.all λi=>inM M i
def cr (M:List (Nat×(TypeId×List AV))) (cs:List AV):Prop:=∀ j∈aC cs,inM M j=true
def mw (M:List (Nat×(TypeId×List AV))):List (Nat×(TypeId×List AV))->Prop
 | []=>True
 | p::r=>cr M p.2.2/\mw M r
variable {M:List (Nat×(TypeId×List AV))} {cs:List AV}
theorem cr.lit (h:(aC cs).all (inM M)=true):cr M cs:=λj hj=>aW.1 h j hj
theorem cr.none (h:aC cs=[]):cr M cs:=λj hj=>by rw[h] at hj;cases hj
theorem cr.vals (vs:List Value):cr M (vs.map .val):=.none (aG vs)
theorem cr.append {ds:List AV} (h:cr M cs) (k:cr M ds):cr M (cs++ds):=λj hj=>by
 rw[eC] at hj;exact (fU.1 hj).elim (h j) (k j)
theorem mw.mem {M:List (Nat×(TypeId×List AV))}:∀ {r:List (Nat×(TypeId×List AV))},mw M r->∀ p∈r,cr M p.2.2
 | [],_,p,hp=>by cases hp
 | q::r,h,p,hp=>by
   rcases fj.1 hp with rfl|e
   ·exact h.1
   ·exact mw.mem h.2 p e
section
variable {C:Cx} {Q:Exit->Act->World->Prop} {k:List It} {F:Fr} {H:Hp} {w:World}
theorem Fr.eT:∀ {L:List (Nat×AV)} {d:Nat} {v:AV},Fr.of L d=some v->(d,v)∈L
 | [],d,v,h=>by unfold Fr.of at h;cases h
 | (e,u)::r,d,v,h=>by
   unfold Fr.of at h;cases hb:Nat.beq d e with
   | true=>
     rw[hb] at h;cases h;rw[fT hb];simp
   | false=>
     rw[hb] at h;exact tz _ (Fr.eT h)
theorem Hp.eT:∀ {L:List (Nat×(TypeId×List AV))} {d:Nat} {v:TypeId×List AV},Hp.of L d=some v->(d,v)∈L
 | [],d,v,h=>by unfold Hp.of at h;cases h
 | (e,u)::r,d,v,h=>by
   unfold Hp.of at h;cases hb:Nat.beq d e with
   | true=>
     rw[hb] at h;cases h;rw[fT hb];simp
   | false=>
     rw[hb] at h;exact tz _ (Hp.eT h)
theorem pM.mem:∀ {L:List (Nat×AV)},pM F L->∀ d v,(d,v)∈L->F d=some v
 | p::r,h,d,v,hm=>by
   rcases fj.1 hm with e|e
   ·have:=h.1;rw[<-e] at this;exact this
   ·exact pM.mem h.2 d v e
theorem nV.mem:∀ {L:List (Nat×(TypeId×List AV))},nV H L->∀ d v,(d,v)∈L->H d=some v
 | p::r,h,d,v,hm=>by
   rcases fj.1 hm with e|e
   ·have:=h.1;rw[<-e] at this;exact this
   ·exact nV.mem h.2 d v e
theorem Hp.Ae:∀ {M:List (Nat×(TypeId×List AV))} {i:Nat},inM M i=true->Hp.of M i≠none
 | (e,u)::r,i,h=>by
   unfold Hp.of;cases hb:Nat.beq i e with
   | true=>simp
   | false=>
     unfold inM at h;rw[List.any_cons,hb] at h;exact Hp.Ae h
variable {β:Nat->Nat}
theorem Rel.narrow {a:Act} (hr:Rel C β F H a w) {L:List (Nat×AV)} {M:List (Nat×(TypeId×List AV))} (h1:pM F L) (h2:nV H M) (h3:Ad L M=true) (h4:mw M M):Rel C β (Fr.of L) (Hp.of M) a w:=by
 have key:∀ i,Hp.of M i≠none->H i≠none:=λi hi=>by
  cases hh:Hp.of M i with
  | none=>exact absurd hh hi
  | some c=>rw[h2.mem i c (Hp.eT hh)];simp
 refine⟨hr.defers,hr.size,λd v h=>hr.tmp d v (h1.mem d v (Fr.eT h)),λi t cs h=>hr.own i t cs (h2.mem i _ (Hp.eT h)),λi j hi hj e=>hr.apart i j (key i hi) (key j hj) e,λd v h i hi=> ?_,λd v h=>hr.fits d v (h1.mem d v (Fr.eT h)),
  ⟨λi t cs h=>hr.hp.ok i t cs (h2.mem i _ (Hp.eT h)),λi t cs h j hj=>Hp.Ae (h4.mem _ (Hp.eT h) j hj),λi hi=> ?_⟩,hr.old⟩
 ·have:=aW.1 h3 _ (Fr.eT h);exact Hp.Ae (aW.1 this i hi)
 ·cases hh:Hp.of M i with
  | none=>rfl
  | some c=>exact absurd (hr.hp.GN i hi) (key i (by rw[hh];simp))
theorem VS.narrow (L:List (Nat×AV)) (M:List (Nat×(TypeId×List AV))) (h1:pM F L) (h2:nV H M) (h3:Ad L M=true) (h4:mw M M) (h:VS C Q k (Fr.of L) (Hp.of M) w):VS C Q k F H w:=
 λβ a w' hr hk=>h β a w' (hr.narrow h1 h2 h3 h4) hk
theorem VS.now (h:∀ w',aY C.K w w'->C.Old w'->VS C Q k F H w'):VS C Q k F H w:=λβ a w' hr hk=>h w' hk hr.old β a w' hr (aY.refl _ _)
theorem VS.skip (h:VS C Q k F H w):VS C Q (.code .skip::k) F H w:=λβ a w' hr hk=>wp_skip (h β a w' hr hk)
variable {x y:Code}
theorem VS.seq (h:VS C Q (.code x::.code y::k) F H w):VS C Q (.code (.seq x y)::k) F H w:=λβ a w' hr hk=>wp_seq (h β a w' hr hk)
variable {id:Nat}
theorem VS.block {c:Code} (h:VS C Q (.code c::.kX id::k) F H w):VS C Q (.code (.block id c)::k) F H w:=λβ a w' hr hk=>wp_block (h β a w' hr hk)
theorem VS.kX (h:VS C Q k F H w):VS C Q (.kX id::k) F H w:=h
variable {b:Bool} {c:Operand}
theorem VS.cond (hc:gz F c=some (.bool b)) (h:VS C Q (.code (bif b then x else y)::k) F H w):VS C Q (.code (.cond c x y)::k) F H w:=λβ a w' hr hk=>
 wp_cond (t:=b) (hr.gz hc) (by cases b <;> exact h β a w' hr hk)
theorem VS.condT (hc:gz F c=some (.bool true)) (h:VS C Q (.code x::k) F H w):VS C Q (.code (.cond c x y)::k) F H w:=VS.cond hc h
theorem VS.condF (hc:gz F c=some (.bool false)) (h:VS C Q (.code y::k) F H w):VS C Q (.code (.cond c x y)::k) F H w:=VS.cond hc h
theorem VS.condB (b':Bool) (hc:gz F c=some (.bool b)) (hb:b=b') (h:VS C Q (.code (bif b' then x else y)::k) F H w):VS C Q (.code (.cond c x y)::k) F H w:=VS.cond hc (hb▸h)
theorem VS.bJ (hc:gz F c=some (.bool b)) (hb:b=true) (h:VS C Q (.code x::k) F H w):VS C Q (.code (.cond c x y)::k) F H w:=VS.condB true hc hb h
theorem VS.cd (hc:gz F c=some (.bool b)) (hb:b=false) (h:VS C Q (.code y::k) F H w):VS C Q (.code (.cond c x y)::k) F H w:=VS.condB false hc hb h
theorem nW {P:Program} {id:Nat}:∀ {stk k:List It} {a:Act} {w:World},pop id stk=some k->post P Q k .normal a w->post P Q stk (.exit id) a w
 | .code _::s,k,a,w,h,hp=>nW (stk:=s) h hp
 | .back _::s,k,a,w,h,hp=>nW (stk:=s) h hp
 | .scope::s,k,a,w,h,hp=>nW (stk:=s) h hp
 | .kX i::s,k,a,w,h,hp=>by
   unfold pop at h;show Exit.inBlock i _ (.exit id) a w;unfold Exit.inBlock;cases hb:Nat.beq id i with
   | true=>
     rw[hb] at h;cases h;simp only;rw[if_pos (fT hb)];exact hp
   | false=>
     rw[hb] at h;simp only;rw[if_neg (λe=>by rw[e,Nat.beq_refl] at hb;cases hb)];exact nW (stk:=s) h hp
theorem VS.exit {k':List It} (hp:pop id k=some k') (h:VS C Q k' F H w):VS C Q (.code (.exit id)::k) F H w:=λβ a w' hr hk=>wp_exit (nW hp (h β a w' hr hk))
variable {ops:Array Oper}
theorem VS.region (hC:C.Ok) (h:aq C none ops ops.toList (VS C Q k) F H w):VS C Q (.code (.region id ops false)::k) F H w:=λβ a w' hr hk=>
 wp_region_list (qg hC (λβ F H w a w' h hr hk=>h β a w' hr hk) ops.toList β F H w a w' h hr hk)
theorem VS.draw (hC:C.Ok) (hm:C.P.follows .mixedOrders=true) (ml:List FuncId) (gB:nS C.SU ml ops=true) (h:aq C (some ml) ops ops.toList (VS C Q k) F H w):VS C Q (.code (.region id ops true)::k) F H w:=λβ a w' hr hk=>
 Ac hC hm gB (λβ F H w a w' h hr hk=>h β a w' hr hk) h hr hk
theorem VS.yW (hC:C.Ok) (hm:C.P.follows .mixedOrders=true) (n:Nat) (hn:ops.size=n) (h:nU C [] ops n [] (VS C Q k) F H w):VS C Q (.code (.region id ops true)::k) F H w:=λβ a w' hr hk=>
 EN (ml:=[]) (K:=VS C Q k) hC hm (λβ F H w a w' h hr hk=>h β a w' hr hk) (by rw[hn];exact h) hr hk
def Entry (J:Nat->List (Nat×AV)->List (Nat×(TypeId×List AV))->World->Prop) (n:Nat) (F:Fr) (H:Hp) (w:World):Prop:=
 ∃ L M,pM F L/\nV H M/\Ad L M=true/\mw M M/\J n L M w
def Held (C:Cx) (J:Nat->List (Nat×AV)->List (Nat×(TypeId×List AV))->World->Prop) (n:Nat) (a:Act) (w:World):Prop:=
 ∃ β L M w1,J n L M w1/\Rel C β (Fr.of L) (Hp.of M) a w/\aY C.K w1 w
variable {J:Nat->List (Nat×AV)->List (Nat×(TypeId×List AV))->World->Prop}
theorem VS.loop {body:Code} (n0:Nat) (h0:Entry J n0 F H w)
  (round:∀ n L M w,J n L M w->VS C Q (.code body::.back (λa w=>∃ m,m<n/\Held C J m a w)::k) (Fr.of L) (Hp.of M) w):VS C Q (.code (.loop body)::k) F H w:=λβ a w' hr hk=>by
 obtain⟨L,M,h1,h2,h3,h4,h5⟩:=h0;refine wp_loop_ghost (Held C J) n0 ⟨β,L,M,w,h5,hr.narrow h1 h2 h3 h4,hk⟩ ?_;rintro n a1 w1 ⟨β1,L1,M1,wl,hJ,sx,uQ⟩;exact round n L1 M1 wl hJ β1 a1 w1 sx uQ
theorem VS.back {n:Nat} (m:Nat) (hm:m<n) (h:Entry J m F H w):VS C Q (.back (λa w=>∃ m,m<n/\Held C J m a w)::k) F H w:=λβ a w' hr hk=>by
 obtain⟨L,M,h1,h2,h3,h4,h5⟩:=h;exact⟨m,hm,β,L,M,w,h5,hr.narrow h1 h2 h3 h4,hk⟩
def nX (C:Cx) (F:Fr) (H:Hp):List ResultVar->Option (List AV)
 | []=>some []
 | .tmp t::r=>match F t,nX C F H r with|some v,some l=>(bif eP v then some (v::l) else none)|_,_=>none
 | .cell x t::r=>match F x,C.ti t,nX C F H r with
   | some (.box b off),some i,some l=>(match H b with
     | some (_,cs)=>bif Nat.ble (off+i.size) cs.length then gj ((cs.drop off).take i.size) (λq=>bif i.agg then ID q (λv=>some (v::l)) else (match q with|x::_=>some (x::l)|[]=>none)) else none
     | none=>none)
   | _,_,_=>none
def kc:List Value->Value
 | [v]=>v
 | l=>.tuple l.toArray
def IU (tmps:Array Value):ResultVar->Sem Value
 | .tmp t=>pure (tmps.getD t undef)
 | .cell x t=>do loadVar t (<-asAddr (tmps.getD x undef))
theorem sU (hC:C.Ok) {β:Nat->Nat} {a:Act} (hr:Rel C β F H a w):∀ {l:List ResultVar} {vs:List AV},nX C F H l=some vs->
  (l.mapM (IU a.tmps)).run C.P w=.ok (vs.map (AV.aN β)) w
 | [],vs,h=>by cases h;rfl
 | .tmp t::r,vs,h=>by
   unfold nX at h
   split at h
   ·rename_i v l hv hl;cases hn:eP v with
    | false=>rw[hn] at h;cases h
    | true=>
      rw[hn] at h;cases h;have e1:a.tmps.getD t undef=v.aN β:=hr.tmp t v hv;have e2:(IU a.tmps (.tmp t)).run C.P w=.ok (v.aN β) w:=by show (pure (a.tmps.getD t undef):Sem Value).run C.P w=_;rw[e1];rfl
      have:=sU hC hr hl;simp only[List.mapM_cons,Sem.run_bind,e2,Result.andThen_ok,this,Sem.run_pure,List.map_cons]
   ·cases h
 | .cell x t::r,vs,h=>by
   unfold nX at h
   split at h
   ·rename_i b off i l hx hi hl
    split at h
    ·rename_i tb cs hb;cases hz:Nat.ble (off+i.size) cs.length with
     | false=>rw[hz] at h;cases h
     | true=>
       rw[hz,cond_true,bU] at h;have hle:=cz hz;have hlen:((cs.drop off).take i.size).length=i.size:=by rw[aR,nz];omega
       have jw:((cs.drop off).take i.size).all aF=true:=aW.2 λy hy=>aW.1 (hr.own b tb cs hb).ok y (nt (lf hy))
       have hvs:vs=lz i ((cs.drop off).take i.size)::l:=by
        unfold lz;cases hg:i.agg with
        | true=>rw[hg,cond_true,kg] at h;cases h;rfl
        | false=>
          rw[hg,cond_false] at h
          split at h
          ·rename_i y q hq;cases h;rw[hq];rfl
          ·cases h
       subst hvs;have e1:a.tmps.getD x undef=.pointer (some ⟨β b,off,none⟩):=hr.tmp x _ hx
       have hsub:∀ j u,((cs.drop off).take i.size)[j]? =some u->cs[off+j]? =some u:=λj u hj=>by
        rw[nv] at hj
        split at hj
        ·rwa [tB] at hj
        ·cases hj
       have e2:=ew (hC t i hi) ⟨β b,off,none⟩ (((cs.drop off).take i.size).map (AV.leaf β)) (by rw[cJ,hlen]) w (sM hr hb hsub)
       have e3:(IU a.tmps (.cell x t)).run C.P w=.ok ((lz i ((cs.drop off).take i.size)).aN β) w:=by
        unfold IU;rw[qb (hC t i hi) hlen jw];simp only[e1,asAddr,Sem.run_bind,Sem.run_pure,Result.andThen_ok,e2]
       have:=sU hC hr hl;simp only[List.mapM_cons,Sem.run_bind,e3,Result.andThen_ok,this,Sem.run_pure,List.map_cons]
    ·cases h
   ·cases h
variable {fn:Func} {vs:List AV}
theorem CD (hC:C.Ok) {a:Act} (hr:Rel C β F H a w) (h:nX C F H fn.results.toList=some vs):(results fn a.tmps).run C.P w=.ok (kc (vs.map (AV.aN β))) w:=by
 have h1:=sU hC hr h;have h2:results fn a.tmps=(do let vs <-fn.results.toList.toArray.mapM (IU a.tmps);pure (if h:vs.size=1 then vs[0] else .tuple vs):Sem Value):=aa;rw[h2,List.mapM_toArray,Sem.run_bind]
 have h3:(List.toArray <$>fn.results.toList.mapM (IU a.tmps):Sem (Array Value)).run C.P w=.ok (vs.map (AV.aN β)).toArray w:=by
  rw[<-bind_pure_comp];simp only[Sem.run_bind,h1,Result.andThen_ok,Sem.run_pure]
 rw[h3,Result.andThen_ok,Sem.run_pure]
 congr 1
 cases vs with
 | nil=>rfl
 | cons v r=>cases r <;> simp[kc]
structure Ends (C:Cx) (β:Nat->Nat) (H:Hp) (w:World):Prop where
 own:∀ i t cs,H i=some (t,cs)->jv C β w i t cs
 apart:∀ i j,H i≠none->H j≠none->β i=β j->i=j
variable {R:Ending->World->Prop}
theorem wH (hC:C.Ok) (h:nX C F H fn.results.toList=some vs) (hR:∀ w' β,aY C.K w w'->C.Old w'->Ends C β H w'->R (.returned (kc (vs.map (AV.aN β)))) w') (pF:C.ds=[]:=by rfl):∀ β a w',Rel C β F H a w'->aY C.K w w'->bodyPost C.P fn R .ret a w':=
 λβ a w' hr hk=>⟨hr.defers.trans pF,_,CD hC hr h,hR w' β hk hr.old ⟨hr.own,hr.apart⟩⟩
variable {us:List Value}
theorem fin_ret (hC:C.Ok) (h:nX C F H fn.results.toList=some vs) (hv:eE vs=some us) (hR:∀ w',aY C.K w w'->C.Old w'->R (.returned (kc us)) w') (pF:C.ds=[]:=by rfl):∀ β a w',Rel C β F H a w'->aY C.K w w'->bodyPost C.P fn R .ret a w':=
 wH hC h (λw' β h1 h2 _=>by
  rw[fH hv,eB];exact hR w' h1 h2) pF
theorem lF {P:Program}:∀ {stk:List It} {a:Act} {w:World},Q .ret a w->post P Q stk .ret a w
 | [],_,_,h=>h
 | .code _::s,_,_,h=>lF (stk:=s) h
 | .kX _::s,_,_,h=>lF (stk:=s) h
 | .back _::s,_,_,h=>lF (stk:=s) h
 | .scope::s,_,_,h=>lF (stk:=s) h
theorem VS.ret (hC:C.Ok) (h:nX C F H fn.results.toList=some vs) (hv:eE vs=some us) (hR:∀ w',aY C.K w w'->C.Old w'->R (.returned (kc us)) w') (pF:C.ds=[]:=by rfl):VS C (bodyPost C.P fn R) (.code .ret::k) F H w:=
 λβ a w' hr hk=>wp_ret (lF (fin_ret hC h hv hR pF β a w' hr hk))
theorem VS.Af (hC:C.Ok) (h:nX C F H fn.results.toList=some vs) (hR:∀ w' β,aY C.K w w'->C.Old w'->Ends C β H w'->R (.returned (kc (vs.map (AV.aN β)))) w') (pF:C.ds=[]:=by rfl):VS C (bodyPost C.P fn R) (.code .ret::k) F H w:=
 λβ a w' hr hk=>wp_ret (lF (wH hC h hR pF β a w' hr hk))
def Fr.args:Nat->List Value->Fr
 | _,[]=>λ_=>none
 | k,v::r=>λn=>bif Nat.beq n k then some (.val v) else Fr.args (k+1) r n
theorem Fr.args_at:∀ (l:List Value) (k n:Nat) (v:AV),Fr.args k l n=some v->∃ u,v=.val u/\k<=n/\l[n-k]? =some u
 | [],k,n,v,h=>by cases h
 | x::r,k,n,v,h=>by
   unfold Fr.args at h;cases hb:Nat.beq n k with
   | true=>
     rw[hb] at h;cases h;have e:=fT hb;exact⟨x,aa,ae,by rw[e];simp⟩
   | false=>
     rw[hb] at h;obtain⟨u,h1,h2,h3⟩:=Fr.args_at r (k+1) n v h;refine⟨u,h1,ae,?_⟩;rw[show n-k=(n-(k+1))+1 by omega];simpa using h3
theorem ar {f:FuncId} {c:Code} {args:List Value} (hf:C.P.funcs[f]? =some fn) (hb:fn.body=some c) (hN:fn.ntmps=C.N) (ha:args.length<=C.N)
  (h:VS C (bodyPost C.P fn R) [.code c] (Fr.args 0 args) (λ_=>none) C.w0) (pF:C.ds=[]:=by rfl):Calls C.P f args.toArray C.w0 R:=by
 refine calls_of_wp hf hb ?_;refine h (λ_=>0) _ C.w0 ⟨pF.symm,?_,λd v hd=> ?_,λi t cs hi=>(by cases hi),λi j hi=>absurd aa hi,λd v hd i hi=> ?_,λd v hd=> ?_,⟨λi t cs hi=>(by cases hi),λi t cs hi=>(by cases hi),λi hi=>aa⟩,C.oD⟩ (aY.refl _ _)
 ·simp[hN];omega
 ·obtain⟨u,rfl,_,h2⟩:=Fr.args_at args 0 d v hd;rw[pt] at h2;show (args.toArray++_).getD d undef=u;have hlt:=(bx.1 h2).1;rw[cA,Array.getElem?_append_left (by simpa using hlt)];simp[h2]
 ·obtain⟨u,rfl,_⟩:=Fr.args_at args 0 d _ hd;cases hi
 ·obtain⟨u,rfl,_,h2⟩:=Fr.args_at args 0 d _ hd;rw[pt] at h2;have:=(bx.1 h2).1;omega
variable {m:Option (List FuncId)} {full:Array Oper} {K:Fr->Hp->World->Prop} {o:Oper} {r:List Oper}
theorem VO.nil (h:K F H w):aq C m full [] K F H w:=h
def qj (C:Cx) (full:Array Oper):Nat->List Oper->Fr->Hp->List Oper×Fr×Hp
 | 0,l,F,H=>(l,F,H)
 | _+1,[],F,H=>([],F,H)
 | n+1,o::r,F,H=>match o.guard with
   | some _=>(o::r,F,H)
   | none=>match stepOf C full F H o with
     | .dw v u=>qj C full n r (F.bm o.dst v) (H.upd u)
     | _=>(o::r,F,H)
theorem wJ:∀ (n:Nat) {l:List Oper} {F:Fr} {H:Hp},aq C m full (qj C full n l F H).1 K (qj C full n l F H).2.1 (qj C full n l F H).2.2 w->aq C m full l K F H w
 | 0,_,_,_,h=>h
 | _+1,[],_,_,h=>h
 | n+1,o::r,F,H,h=>by
   unfold qj at h;show one C m full o (aq C m full r K) F H w;cases hg:o.guard with
   | some g=>rw[hg] at h;exact h
   | none=>
     rw[hg] at h;cases hs:stepOf C full F H o with
     | dw v u=>rw[hs] at h;unfold one;rw[hs];exact wJ n h
     | bad=>rw[hs] at h;exact h
     | read i a=>rw[hs] at h;exact h
     | dQ i cs off=>rw[hs] at h;exact h
     | cond φ v u=>rw[hs] at h;exact h
     | call d=>rw[hs] at h;exact h
variable {l:List Oper}
theorem VO.run (n:Nat) {l':List Oper} {F':Fr} {H':Hp} (e:qj C full n l F H=(l',F',H')) (h:aq C m full l' K F' H' w):aq C m full l K F H w:=
 wJ n (by rw[e];exact h)
theorem VA.cons {p:Nat->Prop} {l r:List Nat} {i:Nat} (e:l=i::r) (h1:p i) (h2:CA r p):CA l p:=by rw[e];exact⟨h1,h2⟩
theorem VA.nil {p:Nat->Prop} {l:List Nat} (e:l=[]):CA l p:=by rw[e];exact aj
variable {ml:List FuncId} {f:Nat}
theorem VA.go {done:List Nat} {i:Nat} {l:List Nat} (e:rdy full done=i::l) (h:CA (i::l) λi=>match full[i]? with|some o=>one C (some ml) full o (nU C ml full f (i::done) K) F H w|none=>False):nU C ml full (f+1) done K F H w:=by
 unfold nU;rw[e];exact h
theorem VA.fin {done:List Nat} (e:rdy full done=[]) (h:K F H w):nU C ml full f done K F H w:=by
 cases f with
 | zero=>exact h
 | succ f=>unfold nU;rw[e];exact h
variable {v:AV} {u:Option (Nat×(TypeId×List AV))}
theorem VO.op1 (e:stepOf C full F H o=.dw v u) (h:aq C m full r K (F.bm o.dst v) (H.upd u) w):aq C m full (o::r) K F H w:=by
 show one C m full o (aq C m full r K) F H w;unfold one;rw[e];exact h
variable {v':AV}
theorem VO.fix (d:Nat) (hF:F d=some v) (e:v=v') (h:aq C m full l K (F.put d v') H w):aq C m full l K F H w:=by
 have:F.put d v'=F:=by
  funext n
  rw[Fr.bL];by_cases hn:n=d
  ·rw[if_pos hn,hn,hF,e]
  ·rw[if_neg hn]
 rw[this] at h;exact h
theorem VS.fix (d:Nat) (hF:F d=some v) (e:v=v') (h:VS C Q k (F.put d v') H w):VS C Q k F H w:=by
 have:F.put d v'=F:=by
  funext n
  rw[Fr.bL];by_cases hn:n=d
  ·rw[if_pos hn,hn,hF,e]
  ·rw[if_neg hn]
 rw[this] at h;exact h
variable {cs:List AV} {t:TypeId}
theorem VO.eU (i:Nat) {gA:List AV} (hH:H i=some (t,cs)) (e:cs=gA) (h:aq C m full l K F (H.put i (t,gA)) w):aq C m full l K F H w:=by
 have:H.put i (t,gA)=H:=by
  funext n
  rw[Hp.bL];by_cases hn:n=i
  ·rw[if_pos hn,hn,hH,e]
  ·rw[if_neg hn]
 rw[this] at h;exact h
theorem yJ.none {ids:List Nat} {w1 w2:World} (h:ax w1 w2):yJ C β β H ids none [] w1 w2:=
 ⟨h.os,h.tape,h.output,h.size,λb hb _ _ _=>jk h b hb,λ_ _=>rfl,λi hi=>(by cases hi),λi hi=>(by cases hi),λx hx=>(by cases hx),λx hx=>(by cases hx),List.nodup_nil,λx hx=>(by cases hx),λx hx=>(by cases hx)⟩
variable {d:jt}
theorem VO.uc (e:stepOf C full F H o=.call d)
  (h:∀ w1 β,aY C.K w w1->C.Old w1->kh C β H d.ids w1->oV C.P d β w1 λe w2=>∃ v,e=.returned v/\ax w1 w2/\(aY C.K w w2->aY C.K w1 w2->C.Old w2->aq C m full r K (F.bm o.dst (.val v)) H w2)):aq C m full (o::r) K F H w:=by
 show one C m full o (aq C m full r K) F H w;unfold one;rw[e];refine λw1 β h1 h2 h3=>(h w1 β h1 h2 h3).mono ?_;rintro e w2 ⟨v,rfl,hb,hv⟩;exact⟨β,.val v,none,[],aa,λi hi=>(by cases hi),.inr aa,.inr aa,yJ.none hb,λa b c _ _=>hv a b c⟩
variable {g:FuncId}
theorem VO.call {args:List AV} {vs:List Value} (e:stepOf C full F H o=.call (.fn g args)) (hv:eE args=some vs) (hf:rC C.P g)
  (h:∀ w1,aY C.K w w1->C.Old w1->Calls C.P g vs.toArray w1 λe w2=>∃ v,e=.returned v/\ax w1 w2/\(aY C.K w w2->aY C.K w1 w2->C.Old w2->aq C m full r K (F.bm o.dst (.val v)) H w2)):aq C m full (o::r) K F H w:=by
 refine VO.uc e λw1 β h1 h2 _=>⟨hf,?_⟩;rw[fH hv,eB];exact h w1 h1 h2
theorem VO.ud {args:List AV} (e:stepOf C full F H o=.call (.fn g args)) (hf:rC C.P g)
  (h:∀ w1 β,aY C.K w w1->C.Old w1->kh C β H (dG args) w1->Calls C.P g (args.map (AV.aN β)).toArray w1 λe w2=>∃ v,e=.returned v/\ax w1 w2/\(aY C.K w w2->aY C.K w1 w2->C.Old w2->aq C m full r K (F.bm o.dst (.val v)) H w2)):aq C m full (o::r) K F H w:=
 VO.uc e λw1 β h1 h2 h3=>⟨hf,h w1 β h1 h2 h3⟩
theorem VO.yX {args:List AV} (e:stepOf C full F H o=.call (.fn g args)) (hf:rC C.P g)
  (h:∀ w1 β,aY C.K w w1->C.Old w1->kh C β H (dG args) w1->Calls C.P g (args.map (AV.aN β)).toArray w1 λe w2=>∃ v:AV,e=.returned (v.aN β)/\(∀ i∈v.ids,i∈dG args/\H i≠none)/\ax w1 w2/\(aY C.K w w2->aY C.K w1 w2->C.Old w2->aq C m full r K (F.bm o.dst v) H w2)):aq C m full (o::r) K F H w:=by
 show one C m full o (aq C m full r K) F H w;unfold one;rw[e];refine λw1 β h1 h2 h3=>⟨hf,(h w1 β h1 h2 h3).mono ?_⟩;rintro e w2 ⟨v,rfl,hi,hb,hv⟩;exact⟨β,v,none,[],aa,λi pI=>.inr ⟨.base (hi i pI).1,(hi i pI).2,bc⟩,.inr aa,.inr aa,yJ.none hb,λa b c _ _=>hv a b c⟩
def Lu (C:Cx) (t:TypeId) (sz B:Nat) (w:World) (v:Value) (n:Nat) (xs:List Value):Prop:=
 (v=.slice none 0 0/\n=0/\xs=[])\/∃ b c spare,v=.slice (some ⟨b,0,none⟩) n c/\B<=b/\aI w b t (xs++spare).toArray/\xs.all aK=true/\spare.all aK=true/\n<=c/\c<=9223372036854775807/\(xs++spare).length=c*sz
theorem VO.callN {dst n sz:Nat} {xs:List Value} (e:stepOf C full F H o=.call d) (hd:o.dst=some dst) (h0:H dst=none) (hN:dst<C.N) (hl:1<=lvl C.SU m o) (ht:C.K.fz t=false)
  (h:∀ w1 β,aY C.K w w1->C.Old w1->kh C β H d.ids w1->oV C.P d β w1 λe w2=>∃ v,e=.returned v/\ax w1 w2/\Lu C t sz w1.heap.size w2 v n xs/\
   (aY C.K w w2->aY C.K w1 w2->C.Old w2->v=.slice none 0 0->aq C m full r K (F.bm o.dst (.val (.slice none 0 0))) H w2)/\
   (∀ c spare,aY C.K w w2->aY C.K w1 w2->C.Old w2->(∃ b,v=.slice (some ⟨b,0,none⟩) n c)->spare.all aK=true->n<=c->c<=9223372036854775807->(xs++spare).length=c*sz->aq C m full r K (F.bm o.dst (.row dst 0 n c)) (H.put dst (t,(xs++spare).map .val)) w2)):aq C m full (o::r) K F H w:=by
 show one C m full o (aq C m full r K) F H w;unfold one;rw[e];refine λw1 β h1 h2 h3=>(h w1 β h1 h2 h3).mono ?_;rintro e w2 ⟨v,rfl,hb,hn,k1,k2⟩;rcases hn with ⟨rfl,rfl,rfl⟩|⟨b,c,spare,rfl,q1,q2,q3,q4,q5,q6,q7⟩
 ·exact⟨β,.val (.slice none 0 0),none,[],aa,λi hi=>(by cases hi),.inr aa,.inr aa,yJ.none hb,λa b c _ _=>k1 a b c aa⟩
 ·let bG:Nat->Nat:=λi=>if i=dst then b else β i
  have uD:bG dst=b:=if_pos aa;have jw:((xs++spare).map AV.val).all aF=true:=cO (by rw[nA,q3,q4];rfl);refine⟨bG,.row dst 0 n c,none,[(dst,(t,(xs++spare).map .val))],?_,λi hi=>.inl (by simpa [AV.ids] using hi),.inl hl,.inr aa,?_,λa1 a2 a3 _ _=>k2 c spare a1 a2 a3 ⟨b,aa⟩ q4 q5 q6 q7⟩
  ·show Ending.returned _=.returned (Value.slice (some ⟨bG dst,0,none⟩) n c);rw[uD]
  ·refine⟨hb.os,hb.tape,hb.output,hb.size,λk hk _ _ _=>jk hb k hk,λi hi=>if_neg (by simpa using hi),λi hi=>(by cases hi),λi hi=>(by cases hi),λx hx=> ?_,λx hx=> ?_,bc,λx hx y hy _=> ?_,λx hx j hj=> ?_⟩
   ·cases aH.1 hx;refine⟨by rw[uD];exact C.BW _ _ ae (by have:=C.kf _ h2;omega),ht,?_,jw⟩;rw[uD,aA];exact q2
   ·cases aH.1 hx;exact .inr ⟨.inl h0,ae,.inl (by rw[uD];exact q1)⟩
   ·cases aH.1 hx;cases aH.1 hy;rfl
   ·cases aH.1 hx;rw[aG] at hj;cases hj
variable {a:Addr} {i:TI}
theorem VO.read (e:stepOf C full F H o=.read i a) (cs:List Value) (hl:cs.length=i.size)
  (hc:∀ j u,cs[j]? =some u->C.w0.cell? (a.add j)=some u) (h:aq C m full r K (F.bm o.dst (.val (kP i cs))) H w) (hn:∀ i g,C.xM i g->C.w0.heap.size<=g:=by exact λ_ _ h=>h):aq C m full (o::r) K F H w:=by
 show one C m full o (aq C m full r K) F H w;unfold one;rw[e];exact⟨cs,hl,.inl λj u hj w1 ss=>C.GK w1 _ u ss (λi hi=>absurd (tw C.w0 _ (hc j u hj)) (Nat.not_lt.2 (hn _ _ hi))) (hc j u hj),h⟩
theorem VO.qk (e:stepOf C full F H o=.read i a) (cs:List Value) (hl:cs.length=i.size)
  (hc:∀ j u,cs[j]? =some u->C.At (a.add j) u) (h:aq C m full r K (F.bm o.dst (.val (kP i cs))) H w):aq C m full (o::r) K F H w:=by
 show one C m full o (aq C m full r K) F H w;unfold one;rw[e];exact⟨cs,hl,.inl hc,h⟩
theorem VO.dQ {off:Nat} (e:stepOf C full F H o=.dQ i cs off) (vs:List AV) (hl:vs.length=i.size)
  (hc:∀ j u,vs[j]? =some u->cs[off+j]? =some u) (h:aq C m full r K (F.bm o.dst (lz i vs)) H w):aq C m full (o::r) K F H w:=by
 show one C m full o (aq C m full r K) F H w;unfold one;rw[e];exact⟨vs,hl,hc,h⟩
theorem VO.cond {φ:Prop} (e:stepOf C full F H o=.cond φ v u) (zY:φ) (h:aq C m full r K (F.bm o.dst v) (H.upd u) w):aq C m full (o::r) K F H w:=by
 show one C m full o (aq C m full r K) F H w;unfold one;rw[e];exact⟨zY,h⟩
end
theorem sV (z:Value) (n:Nat):∃ vs:List Value,Builtin.zeroCells z.cells n=vs.toArray/\vs.length=n*z.cells.size/\(z.cells.toList.all aK=true->vs.all aK=true):=by
 refine⟨(Builtin.zeroCells z.cells n).toList,bc,by simp[Builtin.zeroCells],λh=> ?_⟩;unfold Builtin.zeroCells;rw[lh,Array.toList_range];refine aW.2 λx hx=> ?_;obtain⟨i,hi,rfl⟩:=cU.1 hx
 have hp:0<z.cells.size:=by
  rcases lg z.cells.size with e|e
  ·rw[e,jT] at hi;simp at hi
  ·exact e
 have hlt:=cM i hp;have:z.cells[i%z.cells.size]! =z.cells[i%z.cells.size]:=by simp[hlt]
 rw[this];exact aW.1 h _ bc
section
variable {C:Cx} {F:Fr} {H:Hp} {w:World} {m:Option (List FuncId)} {full:Array Oper} {K:Fr->Hp->World->Prop} {o:Oper} {r:List Oper}
variable {base src:AV} {known spare news:List AV} {c mm dst:Nat} {x y:Operand} {del:Option Nat} {it ie:TI} {t e:TypeId}
theorem VO.appG (hC:C.Ok) {sz n:Nat}
  (e0:stepOf C full F H o=.call (.op o [base,src])) (ho:o.op=.call { callee:=.builtin .append,args:=#[x,y],argTypes:=#[t,t] })
  (Lv:C.ti t=some it) (Ag:it.elem=some (e,sz)) (DT:C.ti e=some ie) (hU:C.K.fz e=false) (hzo:ie.zero.cells.toList.all aK=true)
  (hd:o.dst=some dst) (hN:dst<C.N) (hl:lvl C.SU m o=2)
  (mU:((base=.val (.slice none 0 0)/\n=0/\c=0/\known=[]/\spare=[]/\del=none/\0<mm)\/∃ i,base=.row i 0 n c/\H i=some (e,known++spare)/\del=some i)\/∃ (b off:Nat) (ks:List Value),base=.val (.slice (some ⟨b,off,none⟩) n c)/\c=n/\known=ks.map .val/\spare=[]/\del=none/\0<mm/\∀ w1,aY C.K w w1->C.Old w1->∀ j u,ks[j]? =some u->w1.cell? ⟨b,off+j,none⟩=some u)
  (fC:H dst=none\/del=some dst) (hk:known.length=n*sz) (hsp:(known++spare).length=c*sz) (iD:n<=c) (fO:c<=9223372036854775807)
  (fp:aC known=[]/\aC spare=[]/\aC news=[]) (jw:known.all aF=true/\spare.all aF=true/\news.all aF=true) (IV:news.length=mm*sz) (fZ:(n+mm)*(24*sz)<=140737488355328)
  (Lw:∀ w1 β,aY C.K w w1->C.Old w1->kh C β H (dG [base,src]) w1->∃ p cc,src.aN β=.slice p mm cc/\(mm=0\/∃ b off,p=some ⟨b,off,none⟩/\∀ j u,(news.map (AV.leaf β))[j]? =some u->w1.cell? ⟨b,off+j,none⟩=some u))
  (hK:∀ w2 cap aV ρ,aY C.K w w2->C.Old w2->(∀ x,aK (ρ x)=true)->n+mm<=cap->cap<=9223372036854775807->((known++news)++aV).length=cap*sz->aV.all aF=true->aC aV=[]->
   aq C m full r K ((F.forget del ρ).bm o.dst (.row dst 0 (n+mm) cap)) ((H.forget del ρ).put dst (e,(known++news)++aV)) w2) (hvd:ie.void=false:=by rfl):aq C m full (o::r) K F H w:=by
 show one C m full o (aq C m full r K) F H w;unfold one;rw[e0];intro w1 β h1 h2 h3;obtain⟨hu,hsz⟩:=(hC t it Lv).isSlice e sz Ag;have IW:=hC e ie DT;cases wC:C.P.info? e with
 | none=>have:=IW.size;rw[wC] at this;simp at this
 | some ti=>
   have IX:ti.size=ie.size:=by have:=IW.size;rw[wC] at this;simpa using this
   have kM:ti.zero=some ie.zero:=by have:=IW.wk;rw[wC] at this;simpa using this
   have bS:ti.bytes<=24*ie.size:=cz (by have:=IW.bytes;rw[wC] at this;simpa using this)
   have Lx:sz=ti.size:=by
    have:=hsz w1;simp[sizeOf,typeInfo,wC] at this;exact this.symm
   have vG:0<sz:=by rw[Lx,IX];exact IW.pos hvd
   have Bq:ie.zero.cells.size=sz:=by rw[IW.tT,Lx,IX]
   have hcap:n+mm<=140737488355328:=by
    have:(n+mm)*24<=(n+mm)*(24*sz):=gG _ ae;omega
   have Ib:(n+mm)*ti.bytes<=140737488355328:=bA (gG _ (by rw[Lx,IX];exact bS)) fZ;obtain⟨p,cc,hsc,hsp2⟩:=Lw w1 β h1 h2 h3
   have hS:Src C.P ti.size t (.slice p mm cc) mm (news.map (AV.leaf β)) w1:=by
    have wG:∀ u∈news.map (AV.leaf β),u.oneCell'=true:=λu hu=>wm (aW.1 (dZ (β:=β) jw.2.2) u hu);rcases hsp2 with rfl|⟨b,off,rfl,hc⟩
    ·have:news=[]:=jQ (by simpa using IV);subst this;cases p with
     | none=>exact Src.ofNil w1 hu cc
     | some a=>exact Src.ofSlice w1 hu a 0 cc [] bc (λj u hj=>by simp at hj) wG
    ·refine Src.ofSlice w1 hu ⟨b,off,none⟩ mm cc _ (by rw[cJ,IV,Lx]) (λj u hj=> ?_) wG;rw[Addr.add_mid];exact hc j u hj
   have heval:∀ ρ:Operand->Value,o.op.operands.toList.map ρ=[base,src].map (AV.aN β)->ρ x=base.aN β/\ρ y=.slice p mm cc:=λρ h=>by
    rw[ho] at h;simp[Op.operands,Call.operands] at h;exact⟨h.1,h.2.trans hsc⟩
   have hrun:∀ {v:Value} {w2:World},(Builtin.append_ #[t,t] o.type #[base.aN β,.slice p mm cc]).run C.P w1=.ok v w2->∀ ρ:Operand->Value,o.op.operands.toList.map ρ=[base,src].map (AV.aN β)->(execOp ρ o).run C.P w1=.ok (.value v) w2:=λ{v w2} hv ρ dH=>by
    obtain⟨q1,q2⟩:=heval ρ dH;unfold execOp;simp only[ho,resolve,invoke,builtin,Sem.run_bind,Sem.run_pure,Result.andThen_ok,List.map_toArray,List.map_cons,List.map_nil,q1,q2,hv]
   have hg:∀ i,del=some i->Reach H (dG [base,src]) i/\H i≠none:=λi hi=>by
    rcases mU with (⟨_,_,_,_,_,e,_⟩|⟨i',rfl,hH,e⟩)|⟨_,_,_,_,_,_,_,e,_⟩
    ·rw[e] at hi;cases hi
    ·rw[e] at hi;cases hi;exact⟨.base (by simp[dG,AV.ids]),by rw[hH];simp⟩
    ·rw[e] at hi;cases hi
   have fin:∀ (w2:World) (b cap:Nat) (aV:List AV),(∀ ρ:Operand->Value,o.op.operands.toList.map ρ=[base,src].map (AV.aN β)->(execOp ρ o).run C.P w1=.ok (.value (.slice (some ⟨b,0,none⟩) (n+mm) cap)) w2)->
     w2.os=w1.os->w2.tape=w1.tape->w2.output=w1.output->w1.heap.size<=w2.heap.size->(∀ q,q<w1.heap.size->q≠b->w2.heap[q]? =w1.heap[q]?)->(w1.heap.size<=b\/∃ i,del=some i/\b=β i)->
     n+mm<=cap->cap<=9223372036854775807->((known++news)++aV).length=cap*sz->aV.all aF=true->aC aV=[]->aI w2 b e (((known++news)++aV).map (AV.leaf β)).toArray->
     oV C.P (.op o [base,src]) β w1 λe w2=>∃ bG r' del ups,e=.returned (r'.aN bG)/\(∀ i∈r'.ids,i∈ups.map (·.1)\/(Reach H (jt.op o [base,src]).ids i/\H i≠none/\del≠some i))/\(1<=lvl C.SU m o\/ups=[])/\(2<=lvl C.SU m o\/del=none)/\
      yJ C β bG H (jt.op o [base,src]).ids del ups w1 w2/\(aY C.K w w2->aY C.K w1 w2->C.Old w2->∀ ρ,(∀ x,aK (ρ x)=true)->aq C m full r K ((F.forget del ρ).bm o.dst r') ((H.forget del ρ).eO ups) w2):=by
    intro w2 b cap aV hrun q1 q2 q3 q4 q5 q6 q7 q8 q9 q10 q11 q12
    let bG:Nat->Nat:=λi=>if i=dst then b else β i
    have uD:bG dst=b:=if_pos aa;have dN:((known++news)++aV).all aF=true:=by simp only[List.all_append,jw.1,jw.2.2,q10];rfl
    have hlids:aC ((known++news)++aV)=[]:=by rw[eC,eC,fp.1,fp.2.2,q11];rfl
    have EO:C.xM dst b:=by
     rcases q6 with e|⟨i,hi,e⟩
     ·exact C.BW _ _ ae (by have:=C.kf _ h2;omega)
     ·obtain⟨g1,g2⟩:=hg i hi;cases hh:H i with
      | none=>exact absurd hh g2
      | some c'=>rw[e];exact C.newMv i dst _ (h3.own i g1 c'.1 c'.2 hh).new ae
    have Gx:∀ i,del=some i->w2.heap[β i]? =w1.heap[β i]?\/∃ x∈[(dst,(e,(known++news)++aV))],bG x.1=β i:=λi hi=>by
     by_cases e':β i=b
     ·exact .inr ⟨_,aH.2 aa,uD.trans e'.symm⟩
     ·obtain⟨g1,g2⟩:=hg i hi;cases hh:H i with
      | none=>exact absurd hh g2
      | some c'=>exact .inl (q5 _ (h3.own i g1 c'.1 c'.2 hh).cls.lt e')
    refine⟨_,w2,λρ dH=>.inl (hrun ρ dH),bG,.row dst 0 (n+mm) cap,del,[(dst,(e,(known++news)++aV))],?_,λi hi=>.inl (by simpa [AV.ids] using hi),.inl ae,.inl ae,?_,λa1 a2 a3 ρ dH=>hK w2 cap aV ρ a1 a3 dH q7 q8 q9 q10 q11⟩
    ·show Ending.returned _=.returned (Value.slice (some ⟨bG dst,0,none⟩) (n+mm) cap);rw[uD]
    ·refine⟨q1,q2,q3,q4,λk hk hx pT _=>q5 k hk (by have:=hx _ (aH.2 aa);simpa [uD] using this),λi hi=>if_neg (by simpa using hi),hg,λi hi=>(Gx i hi).imp .inl id,λx hx=> ?_,λx hx=> ?_,bc,λx hx y hy _=> ?_,λx hx j hj=> ?_⟩
     ·cases aH.1 hx;refine⟨by rw[uD];exact EO,hU,?_,dN⟩;rw[uD,ik (β:=β) (λi hi=>by rw[hlids] at hi;cases hi)];exact q12
     ·cases aH.1 hx;refine .inr ⟨fC,ae,?_⟩;rcases q6 with e|⟨i,hi,e⟩
      ·exact .inl (by rw[uD];exact e)
      ·exact .inr ⟨i,hi,by rw[uD];exact e⟩
     ·cases aH.1 hx;cases aH.1 hy;rfl
     ·cases aH.1 hx;rw[hlids] at hj;cases hj
   have grow:c<n+mm->(∃ bp,base.aN β=.slice bp n c/\(Builtin.firstCells ti.size n (.slice bp n c)).run C.P w1.drew=.ok (known.map (AV.leaf β)).toArray w1.drew)->oV C.P (.op o [base,src]) β w1 λe w2=>∃ bG r' del ups,e=.returned (r'.aN bG)/\(∀ i∈r'.ids,i∈ups.map (·.1)\/(Reach H (jt.op o [base,src]).ids i/\H i≠none/\del≠some i))/\(1<=lvl C.SU m o\/ups=[])/\(2<=lvl C.SU m o\/del=none)/\
      yJ C β bG H (jt.op o [base,src]).ids del ups w1 w2/\(aY C.K w w2->aY C.K w1 w2->C.Old w2->∀ ρ,(∀ x,aK (ρ x)=true)->aq C m full r K ((F.forget del ρ).bm o.dst r') ((H.forget del ρ).eO ups) w2):=by
    rintro Lb ⟨bp,hbp,hfc⟩;have hr:=run_append_grow_src (P:=C.P) w1 t t o.type e ti ie.zero hu wC kM bp n c (known.map (AV.leaf β)) hfc (.slice p mm cc) mm (news.map (AV.leaf β)) hS Lb ae (growslice_fits Lb Ib);obtain⟨zs,mZ,hz3,hz4⟩:=sV ie.zero (grownCap w1 (n+mm) c e-(n+mm));have hge:=grownCap_ge w1 (n+mm) c e;have hle:=grownCap_le_maxLen w1 (n+mm) c e (by simp only[maxLen];omega);rw[mZ] at hr;have Ly:ax w1 (w1.drew.alloc (.cells ((known.map (AV.leaf β)++news.map (AV.leaf β)).toArray++zs.toArray) e)):=(ax.refl w1).drew.alloc _;refine fin _ w1.heap.size (grownCap w1 (n+mm) c e) (zs.map .val) (hrun (by rw[hbp];exact hr)) Ly.os Ly.tape Ly.output Ly.size (λq hq _=>jk Ly q hq) (.inl (aM _)) hge (by simpa [maxLen] using hle) ?_ (cO (hz4 hzo)) (aG zs) ?_
    ·rw[da,da,cJ,hk,IV,hz3,Bq,<-cV,<-cV]
     congr 1
     omega
    ·have:(((known++news)++zs.map AV.val).map (AV.leaf β)).toArray=(known.map (AV.leaf β)++news.map (AV.leaf β)).toArray++zs.toArray:=by
      rw[cT,cT,aA];apply Array.ext';rw[Array.toList_append]
     rw[this];exact aI.newAt (w:=w1.drew) aa _ _
   rcases mU with (⟨rfl,rfl,rfl,rfl,rfl,rfl,yA⟩|⟨i,rfl,hH,rfl⟩)|⟨b,off,ks,rfl,rfl,rfl,rfl,rfl,yA,hcell⟩
   ·refine grow ae ⟨none,aa,?_⟩;exact run_firstCells_none w1.drew ti.size 0 0 0
   ·obtain⟨g1,g2,g3,g4⟩:=h3.own i (.base (qL _ (aH.2 aa))) e _ hH;by_cases hroom:n+mm<=c
    ·have hfit:n*sz+news.length<=(known++spare).length:=by rw[hsp,IV,<-cV];exact jR _ hroom
     have hr:=run_append_room_src (P:=C.P) w1 t t o.type e ti hu wC (β i) 0 n c (.slice p mm cc) mm (news.map (AV.leaf β)) hS hroom (λj hj=>by
       rw[cJ] at hj;obtain⟨z,hz⟩:∃ z,((known++spare).map (AV.leaf β))[0+n*ti.size+j]? =some z:=⟨_,aZ (by rw[cJ,<-Lx];omega)⟩;rw[g3.cell (u:=z) (by simpa using hz)];rfl)
      (λj _=>g3.frozen _)
     rw[cC,<-Lx] at hr;obtain⟨k1,k2,k3,k4⟩:=mn (K:=C.K) (news.map (AV.leaf β)) (n*sz) w1 ((known++spare).map (AV.leaf β)) g3 g2 (dZ g4) (dZ jw.2.2);obtain⟨s1,s2,s3,_⟩:=kS (b:=β i) (news.map (AV.leaf β)) (n*sz) w1;refine fin _ (β i) c (spare.drop (mm*sz)) (hrun hr) s1 s2 s3 k1.size (λq _ hq=>jx _ _ _ q hq) (.inr ⟨i,aa,aa⟩) hroom fO ?_ ?_ ?_ ?_
     ·simp only[List.length_append,List.length_drop] at hsp hfit ⊢;omega
     ·exact aW.2 λx hx=>aW.1 jw.2.1 x (nt hx)
     ·rw[vn];intro j hj;obtain⟨v,hv,hj'⟩:=bl.1 hj;have:j∈aC spare:=bl.2 ⟨v,nt hv,hj'⟩;rw[fp.2.1] at this;cases this
     ·rw[oG _ _ _ (by simp only[List.length_map];omega)] at k2
      have:((known++spare).map (AV.leaf β)).take (n*sz)++(news.map (AV.leaf β)++((known++spare).map (AV.leaf β)).drop (n*sz+(news.map (AV.leaf β)).length))=(((known++news)++spare.drop (mm*sz)).map (AV.leaf β)):=by
       rw[cJ,IV,<-List.map_take,<-List.map_drop,<-hk,List.take_left',List.drop_append,cT,cT]
       ·rw[mL ae];simp[List.map_append,hk]
       ·rfl
      rw[this] at k2;exact k2
    ·refine grow ae ⟨some ⟨β i,0,none⟩,aa,?_⟩;refine run_firstCells_some w1.drew ti.size n ⟨β i,0,none⟩ n c (known.map (AV.leaf β)) (by rw[cJ,hk,Lx]) (λj u hj=> ?_);rw[Addr.add_mid];have hlt:=(bx.1 hj).1
     have:w1.cell? ⟨β i,0+j,none⟩=some u:=g3.cell (by
      rw[cT];simp only[Nat.zero_add];simpa [List.getElem?_append_left hlt] using hj)
     exact this
   ·refine grow ae ⟨some ⟨b,off,none⟩,aa,?_⟩;refine run_firstCells_some w1.drew ti.size _ ⟨b,off,none⟩ _ _ ((ks.map AV.val).map (AV.leaf β)) (by rw[cJ,hk,Lx]) (λj u hj=> ?_);rw[Addr.add_mid];rw[aA] at hj;exact hcell w1 h1 h2 j u hj
theorem VO.app (hC:C.Ok) {sz n:Nat}
  (e0:stepOf C full F H o=.call (.op o [base,src])) (ho:o.op=.call { callee:=.builtin .append,args:=#[x,y],argTypes:=#[t,t] })
  (Lv:C.ti t=some it) (Ag:it.elem=some (e,sz)) (DT:C.ti e=some ie) (hU:C.K.fz e=false) (hzo:ie.zero.cells.toList.all aK=true)
  (hd:o.dst=some dst) (hN:dst<C.N) (hl:lvl C.SU m o=2)
  (mU:(base=.val (.slice none 0 0)/\n=0/\c=0/\known=[]/\spare=[]/\del=none/\0<mm)\/∃ i,base=.row i 0 n c/\H i=some (e,known++spare)/\del=some i)
  (fC:H dst=none\/del=some dst) (hk:known.length=n*sz) (hsp:(known++spare).length=c*sz) (iD:n<=c) (fO:c<=9223372036854775807)
  (fp:aC known=[]/\aC spare=[]/\aC news=[]) (jw:known.all aF=true/\spare.all aF=true/\news.all aF=true) (IV:news.length=mm*sz) (fZ:(n+mm)*(24*sz)<=140737488355328)
  (Lw:∀ w1 β,aY C.K w w1->C.Old w1->kh C β H (dG [base,src]) w1->∃ p cc,src.aN β=.slice p mm cc/\(mm=0\/∃ b off,p=some ⟨b,off,none⟩/\∀ j u,(news.map (AV.leaf β))[j]? =some u->w1.cell? ⟨b,off+j,none⟩=some u))
  (hK:∀ w2 cap aV ρ,aY C.K w w2->C.Old w2->(∀ x,aK (ρ x)=true)->n+mm<=cap->cap<=9223372036854775807->((known++news)++aV).length=cap*sz->aV.all aF=true->aC aV=[]->
   aq C m full r K ((F.forget del ρ).bm o.dst (.row dst 0 (n+mm) cap)) ((H.forget del ρ).put dst (e,(known++news)++aV)) w2) (hvd:ie.void=false:=by rfl):aq C m full (o::r) K F H w:=
 VO.appG hC e0 ho Lv Ag DT hU hzo hd hN hl (.inl mU) fC hk hsp iD fO fp jw IV fZ Lw hK hvd
theorem VO.lit (hC:C.Ok) {n:Nat} {ps:Array (Nat×Operand)} {args:List AV} (vs:List Value)
  (e0:stepOf C full F H o=.call (.op o args)) (ha:args=vs.map .val) (ho:o.op=.buildSlice t n ps) (Lv:C.ti t=some it) (Ag:it.elem=some (e,1)) (DT:C.ti e=some ie)
  (rM:BZ 1 0 ((ps.toList.map (·.1)).zip (vs.map .val))=some (vs.map .val)) (hps:ps.size=n) (hvs:vs.length=n) (hn:n<=16777216)
  (hK:∀ w2 b,aY C.K w w2->C.Old w2->w2.ownsRow C.w0.heap.size e 1 (.slice (some ⟨b,0,none⟩) n n) n vs->aq C m full r K (F.bm o.dst (.val (.slice (some ⟨b,0,none⟩) n n))) H w2):aq C m full (o::r) K F H w:=by
 refine VO.uc e0 λw1 β h1 h2 _=> ?_;obtain⟨hu,hsz⟩:=(hC t it Lv).isSlice e 1 Ag;have jN:=(hC e ie DT).zero;have hb:ax w1 (w1.alloc (.cells vs.toArray e)):=(ax.refl w1).alloc _;refine⟨.slice (some ⟨w1.heap.size,0,none⟩) n n,w1.alloc (.cells vs.toArray e),λρ dH=>.inl ?_,_,aa,hb,λa1 a2 a3=>hK _ w1.heap.size a1 a3 ?_⟩
 ·rw[ho,ha,eB] at dH
  have hl:(ps.map λx=>(x.1,ρ x.2)).toList=((ps.toList.map (·.1)).zip (vs.map AV.val)).map λp=>(p.1,p.2.aN (λ_=>0)):=by
   have h3:ps.toList.map (λx=>ρ x.2)=vs:=by
    rw[<-dH];simp[Op.operands]
   rw[lh,<-h3];generalize ps.toList=l
   induction l with
   | nil=>rfl
   | cons q r ih=>simp only[List.map_cons,List.zip_cons_cons];rw[ih];rfl
  have Cj:∀ A:Array Value,A.size=n*1->Instr.fill (λi=>some (i*1,1)) A (((ps.toList.map (·.1)).zip (vs.map AV.val)).map λp=>(p.1,p.2.aN (λ_=>0)))=some vs.toArray:=λA hA=>by
   have:=sL (β:=λ_=>0) (sz:=1) _ 0 [] A.toList rM bc (by rw[yc,hA];simp[hps,hvs]);rw[aA] at this;simpa using this
  simp only[execOp,ho,Instr.buildSlice,Sem.run_bind,run_underlying hu,Result.andThen_ok,hsz];rw[if_neg ae];by_cases h0:n*1=0
  ·simp only[if_pos h0,Sem.run_bind,Sem.run_pure,Result.andThen_ok];rw[hl,Cj _ bc];simp[newRow]
  ·simp only[if_neg h0,Sem.run_bind,Sem.run_pure,Result.andThen_ok,jN];rw[hl,Cj _ bc];simp[newRow]
 ·refine⟨by rw[hvs,eM],.inr ⟨w1.heap.size,n,vs.toArray,rfl,C.kf _ h2,World.alloc_heap_new w1 _,aM _,by simp only[maxLen];omega,by simp[hvs],?_⟩⟩;rw[du (by simp[hvs])]
theorem VO.appU (hC:C.Ok) {src:Value} {n:Nat} {news:List Value}
  (e0:stepOf C full F H o=.call (.op o [.val (.slice none 0 0),.val src])) (ho:o.op=.call { callee:=.builtin .append,args:=#[x,y],argTypes:=#[t,t] })
  (Lv:C.ti t=some it) (Ag:it.elem=some (e,1)) (DT:C.ti e=some ie) (h1c:∀ u∈news,u.oneCell'=true) (hn:n*24<=140737488355328)
  (Lw:∀ w1,aY C.K w w1->C.Old w1->Rd w1 1 src n news)
  (hK:∀ w2 p c,aY C.K w w2->C.Old w2->w2.ownsRow C.w0.heap.size e 1 (.slice p n c) n news->aq C m full r K (F.bm o.dst (.val (.slice p n c))) H w2) (hvd:ie.void=false:=by rfl):aq C m full (o::r) K F H w:=by
 refine VO.uc e0 λw1 β h1 h2 _=> ?_;obtain⟨hu,hsz⟩:=(hC t it Lv).isSlice e 1 Ag;have IW:=hC e ie DT;cases wC:C.P.info? e with
 | none=>have:=IW.size;rw[wC] at this;simp at this
 | some ti=>
   have IX:ti.size=ie.size:=by have:=IW.size;rw[wC] at this;simpa using this
   have kM:ti.zero=some ie.zero:=by have:=IW.wk;rw[wC] at this;simpa using this
   have bS:ti.bytes<=24*ie.size:=cz (by have:=IW.bytes;rw[wC] at this;simpa using this)
   have Lx:1=ti.size:=by
    have:=hsz w1;simp[sizeOf,typeInfo,wC] at this;exact this.symm
   have Ib:(0+n)*ti.bytes<=140737488355328:=bA (gG _ (show ti.bytes<=24 by omega)) ae;obtain⟨v',w',hr,q1,q2⟩:=kL (P:=C.P) w1 C.w0.heap.size t o.type e ti ie.zero ti.size ti.bytes hu wC kM aa aa (by rw[IW.tT,IX]) (by rw[IX];exact IW.pos hvd) (.slice none 0 0) 0 [] (jh w1 _ _ _) src n news (Lx▸Lw w1 h1 h2) h1c (by simp only[maxLen];omega) Ib (C.kf _ h2);rw[cC,pg,<-Lx] at q1;obtain⟨p,c,rfl,_⟩:=Own.form q1;refine⟨_,w',λρ dH=>.inl ?_,_,aa,⟨q2.os,q2.tape,q2.output,q2.size,λk hk=>q2.block k hk (by simp[Value.ownBlock])⟩,λa1 a2 a3=>hK w' p c a1 a3 q1⟩;rw[ho] at dH;simp[Op.operands,Call.operands] at dH;obtain⟨g1,g2⟩:=dH;unfold execOp;simp only[ho,resolve,invoke,builtin,Sem.run_bind,Sem.run_pure,Result.andThen_ok,List.map_toArray,List.map_cons,List.map_nil,g1,g2,AV.aN,hr]
end
end
section
open Go.RowKit Go.MapKept
structure fq (ad:List Nat) (w w':World):Prop where
 os:w'.os=w.os
 tape:w'.tape=w.tape
 output:w'.output=w.output
 size:w.heap.size<=w'.heap.size
 kX:∀ g,g<w.heap.size->g∉ad->w'.heap[g]? =w.heap[g]?
variable {w w':World}
theorem fq.of {ad:List Nat} (h:ax w w'):fq ad w w':=⟨h.os,h.tape,h.output,h.size,λg hg _=>jk h g hg⟩
theorem fq.aB {ad:List Nat} {a b c:World} (h:fq ad a b) (k:fq ad b c):fq ad a c:=
 ⟨k.os.trans h.os,k.tape.trans h.tape,k.output.trans h.output,bA h.size k.size,λg hg hn=>(k.kX g (mN hg h.size) hn).trans (h.kX g hg hn)⟩
def oW (K:KC) (ad:List Nat) (w:World):Prop:=∀ g∈ad,∃ t cs,aI w g t (List.toArray cs)/\K.fz t=false/\cs.all aK=true
variable {K:KC}
theorem fq.kp {ad:List Nat} (h:fq ad w w') (ha:oW K ad w):aY K w w':=by
 have no:∀ g,g∈ad->∀ o,w.heap[g]? =some o->∃ t cs,o=Obj.cells (List.toArray cs) t/\K.fz t=false/\cs.all aK=true:=λg hg o ho=>by
  obtain⟨t,cs,h1,h2,h3⟩:=ha g hg;have:=(show w.heap[g]? =_ from h1).symm.trans ho;cases this;exact⟨t,cs,aa,h2,h3⟩
 refine⟨h.size,λa x _ hx=> ?_,λt g cur hf _ hg=> ?_,λg es c hg=> ?_⟩
 ·have hlt:=tw w a hx;by_cases hm:a.block∈ad
  ·obtain⟨t,cs,h1,h2,h3⟩:=ha _ hm;exfalso;have hx':=hx;simp only[World.cell?,show w.heap[a.block]? =_ from h1] at hx';simp at hx';have:=aW.1 h3 _ (dx hx'.2);cases this
  ·rw[pa (w:=w) (h.kX _ hlt hm)];exact hx
 ·refine (h.kX g (np.1 hg).1 λhm=> ?_).trans hg;obtain⟨t',cs,e,h2,_⟩:=no g hm _ hg;cases e;rw[h2] at hf;cases hf
 ·refine (h.kX g (np.1 hg).1 λhm=> ?_).trans hg;obtain⟨t',cs,e,_⟩:=no g hm _ hg;cases e
def eK (N:Nat) (ad:List Nat) (w0:World) (i g:Nat):Prop:=if 2*N<=i then ad[i-2*N]? =some g else (w0.heap.size<=g\/g∈ad)
def xQ (K:KC) (ad:List Nat) (w0 w:World):Prop:=fq ad w0 w/\oW K ad w
variable {g:Nat}
theorem oW.lt {ad:List Nat} (h:oW K ad w) (hg:g∈ad):g<w.heap.size:=by
 obtain⟨t,cs,h1,_⟩:=h g hg;exact h1.lt
variable {N:Nat} {w0:World}
theorem newA_ad {ad:List Nat} (h:g∈ad):∃ i,eK N ad w0 i g:=by
 obtain⟨j,hj⟩:=Ge.1 h;exact⟨2*N+j,by unfold eK;rw[if_pos ae,Ga];exact hj⟩
variable {i:Nat}
theorem ct {ad:List Nat} (h:eK N ad w0 i g):w0.heap.size<=g\/g∈ad:=by
 unfold eK at h
 split at h
 ·exact .inr (dx h)
 ·exact h
theorem IY {ad:List Nat} (h0:oW K ad w0) (h:xQ K ad w0 w) (keep:∀ b,b<w0.heap.size->K.S b) (s:Stp K (eK N ad w0) w w'):xQ K ad w0 w':=by
 obtain⟨h1,h2⟩:=h;refine⟨⟨s.os.trans h1.os,s.tape.trans h1.tape,s.output.trans h1.output,bA h1.size s.size,λg hg hn=> ?_⟩,λg hg=> ?_⟩
 ·rcases s.kX g (mN hg h1.size) with e|⟨⟨i,hi⟩,_⟩|e
  ·exact e.trans (h1.kX g hg hn)
  ·rcases ct hi with e|e
   ·omega
   ·exact absurd e hn
  ·exact absurd (keep g hg) e
 ·rcases s.kX g (h2.lt hg) with e|⟨_,t,cs,g1,g2,g3⟩|e
  ·obtain⟨t,cs,g1,g2,g3⟩:=h2 g hg;exact⟨t,cs,e.trans g1,g2,g3⟩
  ·exact⟨t,cs,g1,g2,g3⟩
  ·exact absurd (keep g (h0.lt hg)) e
theorem IZ {ad:List Nat} {a:Addr} {u:Value} (h:xQ K ad w0 w) (hn:∀ i,¬ eK N ad w0 i a.block) (hc:w0.cell? a=some u):w.cell? a=some u:=by
 rw[pa (w:=w0) (h.1.kX _ (tw w0 a hc) λhm=>by
  obtain⟨i,hi⟩:=newA_ad (N:=N) (w0:=w0) hm;exact hn i hi)]
 exact hc
theorem GU {ad:List Nat} (hi:i<2*N) (hg:w0.heap.size<=g):eK N ad w0 i g:=by
 unfold eK;rw[if_neg ae];exact .inl hg
theorem newA_mv {ad:List Nat} {j:Nat} (h:eK N ad w0 i g) (hj:j<2*N):eK N ad w0 j g:=by
 have:=ct h;unfold eK;rw[if_neg ae];exact this
def dX (w:World) (g:Nat) (o:Obj):World:={ w with heap:=w.heap.setIfInBounds g o }
theorem Ah (o:Obj) (h:g<w.heap.size):(dX w g o).heap[g]? =some o:=by simp[dX,h]
theorem oJ {q:Nat} (o:Obj) (h:q≠g):(dX w g o).heap[q]? =w.heap[q]? :=by
 simp[dX,Ne.symm h]
theorem yY (w:World) (g:Nat) (o:Obj):(dX w g o).heap.size=w.heap.size:=by simp[dX]
theorem Lz {ad:List Nat} (o:Obj) (h:g∈ad):fq ad w (dX w g o):=
 ⟨rfl,rfl,rfl,dI (yY w g o).symm,λq _ hq=>oJ o λe=>hq (e▸h)⟩
def EP (H:Hp) (β:Nat->Nat) (N:Nat):Nat->List Nat->World->World
 | _,[],w=>w
 | k,g::r,w=>EP H β N (k+1) r (match H (2*N+k) with|some (t,cs)=>dX w g (.cells (cs.map (AV.leaf β)).toArray t)|none=>w)
theorem CE {K:KC} {ad:List Nat} {w0:World} {H:Hp} {β:Nat->Nat} {N:Nat} (hH:∀ i t cs,H i=some (t,cs)->K.fz t=false/\cs.all aF=true):∀ (l:List Nat) (k:Nat) (w:World),xQ K ad w0 w->(∀ g∈l,g∈ad)->l.Nodup->
  aY K w (EP H β N k l w)/\xQ K ad w0 (EP H β N k l w)/\(∀ g,g∉l->(EP H β N k l w).heap[g]? =w.heap[g]?)/\∀ j g t cs,l[j]? =some g->H (2*N+(k+j))=some (t,cs)->aI (EP H β N k l w) g t (cs.map (AV.leaf β)).toArray
 | [],k,w,h,_,_=>⟨aY.refl _ _,h,λ_ _=>rfl,λj g t cs hj=>by simp at hj⟩
 | g::r,k,w,h,hs,hn=>by
   have hg:g∈ad:=hs g (Bc ..);obtain⟨n1,n2⟩:=ym.1 hn
   have step:∃ w1,(match H (2*N+k) with|some (t,cs)=>dX w g (.cells (cs.map (AV.leaf β)).toArray t)|none=>w)=w1/\aY K w w1/\xQ K ad w0 w1/\(∀ q,q≠g->w1.heap[q]? =w.heap[q]?)/\∀ t cs,H (2*N+k)=some (t,cs)->aI w1 g t (cs.map (AV.leaf β)).toArray:=by
    cases hh:H (2*N+k) with
    | none=>exact⟨w,aa,aY.refl _ _,h,λ_ _=>aa,λt cs e=>by cases e⟩
    | some c=>
      obtain⟨t,cs⟩:=c;obtain⟨q1,q2⟩:=hH _ t cs hh;have hlt:=h.2.lt hg;have lT:aI (dX w g (.cells (cs.map (AV.leaf β)).toArray t)) g t (cs.map (AV.leaf β)).toArray:=Ah _ hlt;have hb:=Lz (w:=w) (.cells (cs.map (AV.leaf β)).toArray t) hg;refine⟨_,aa,hb.kp h.2,⟨h.1.aB hb,λq hq=> ?_⟩,λq hq=>oJ _ hq,λt' gA e=>by cases e;exact lT⟩;by_cases e:q=g
      ·subst e;exact⟨t,_,lT,q1,dZ q2⟩
      ·obtain⟨t',gA,g1,g2,g3⟩:=h.2 q hq;exact⟨t',gA,(oJ _ e).trans g1,g2,g3⟩
   obtain⟨w1,e1,s1,s2,s3,s4⟩:=step;unfold EP;rw[e1];obtain⟨k1,k2,k3,k4⟩:=CE hH r (k+1) w1 s2 (λq hq=>hs q (tz _ hq)) n2;refine⟨s1.aB k1,k2,λq hq=>(k3 q λe=>hq (tz _ e)).trans (s3 q λe=>hq (by rw[e];exact Bc ..)),λj q t cs hj hh=> ?_⟩;cases j with
   | zero=>
     simp at hj;subst hj;exact (k3 g n1).trans (s4 t cs hh)
   | succ j=>
     refine k4 j q t cs (by simpa using hj) ?_;rw[<-hh]
     congr 1
     omega
theorem ER {ad:List Nat} {w1:World} (hd:ad.Nodup) (h:xQ K ad w0 w1) (H:Hp) (hH:∀ i t cs,H i=some (t,cs)->K.fz t=false/\cs.all aF=true) (hf:∀ i,2*N+ad.length<=i->H i=none):
  ∃ β w2,aY K w1 w2/\xQ K ad w0 w2/\(∀ i t cs,H i=some (t,cs)->eK N ad w0 i (β i)/\aI w2 (β i) t (cs.map (AV.leaf β)).toArray)/\∀ i j,H i≠none->H j≠none->β i=β j->i=j:=by
 let β:Nat->Nat:=λi=>if 2*N<=i then ad.getD (i-2*N) 0 else w1.heap.size+i
 have LA:∀ i,i<2*N->β i=w1.heap.size+i:=λi hi=>if_neg ae;have hβ2:∀ i,2*N<=i->β i=ad.getD (i-2*N) 0:=λi hi=>if_pos hi;have mb:=uR H β w1 (2*N)
 have ha':xQ K ad w0 (mkW H β (2*N) w1):=⟨h.1.aB (fq.of mb),λg hg=>by
  obtain⟨t,cs,g1,g2,g3⟩:=h.2 g hg;exact⟨t,cs,g1.aD mb,g2,g3⟩⟩
 obtain⟨k1,k2,k3,k4⟩:=CE (β:=β) (N:=N) hH ad 0 _ ha' (λ_ h=>h) hd
 have hlt:∀ i,2*N<=i->H i≠none->∃ g,ad[i-2*N]? =some g/\β i=g:=λi hi hn=>by
  have:i-2*N<ad.length:=by
   apply FX;intro e;exact hn (hf i ae)
  refine⟨ad[i-2*N],aZ this,?_⟩;rw[hβ2 i hi];simp[List.getD_eq_getElem?_getD,this]
 refine⟨β,EP H β N 0 ad (mkW H β (2*N) w1),(aY.of mb).aB k1,k2,λi t cs hi=> ?_,λi j hi hj e=> ?_⟩
 ·by_cases c:2*N<=i
  ·obtain⟨g,g1,g2⟩:=hlt i c (by rw[hi];simp);rw[g2];refine⟨by unfold eK;rw[if_pos c];exact g1,k4 (i-2*N) g t cs g1 ?_⟩;rw[<-hi]
   congr 1
   omega
  ·rw[LA i ae];have hs:=bA h.1.size (Nat.le_add_right w1.heap.size i);refine⟨GU ae hs,?_⟩;refine (k3 _ λhm=> ?_).trans (Ez H β w1 hi _ ae);have:=h.2.lt hm;omega
 ·by_cases c:2*N<=i <;> by_cases d:2*N<=j
  ·obtain⟨g,g1,g2⟩:=hlt i c hi;obtain⟨g',g3,g4⟩:=hlt j d hj;rw[g2,g4] at e;subst e;have:=(List.getElem?_inj (bx.1 g1).1 hd).1 (g1.trans g3.symm);omega
  ·obtain⟨g,g1,g2⟩:=hlt i c hi;rw[g2,LA j ae] at e;have:=h.2.lt (dx g1);omega
  ·obtain⟨g,g1,g2⟩:=hlt j d hj;rw[g2,LA i ae] at e;have:=h.2.lt (dx g1);omega
  ·rw[LA i ae,LA j ae] at e;omega
abbrev xR (P:Program) (w:World) (N:Nat) (K:KC) (SU:TypeId->Bool) (ti:TypeId->Option TI) (keep:∀ b,b<w.heap.size->K.S b) (ad:List Nat) (hd:ad.Nodup) (ha:oW K ad w):Cx where
 P:=P
 w0:=w
 N:=N
 K:=K
 SU:=SU
 ti:=ti
 keep:=keep
 xM:=eK N ad w
 Old:=xQ K ad w
 top:=2*N+ad.length
 topN:=Nat.le_add_right _ _
 BW:=λ_ _ h1 h2=>GU h1 h2
 newMv:=λ_ _ _ h1 h2=>newA_mv h1 h2
 kf:=λ_ h=>h.1.size
 oD:=⟨fq.of (ax.refl _),ha⟩
 uS:=λ_ _ h k _ s=>IY ha h k s
 GK:=λ_ _ _ h hn hc=>IZ h hn hc
 lay:=λ_ H h hH hf=>ER hd h H hH hf
def Fr.ES:Nat->List AV->Fr
 | _,[]=>λ_=>none
 | k,v::r=>λn=>bif Nat.beq n k then some v else Fr.ES (k+1) r n
theorem Fr.uX:∀ (l:List AV) (k n:Nat) (v:AV),Fr.ES k l n=some v->k<=n/\l[n-k]? =some v
 | [],k,n,v,h=>by cases h
 | x::r,k,n,v,h=>by
   unfold Fr.ES at h;cases hb:Nat.beq n k with
   | true=>
     rw[hb] at h;cases h;have e:=fT hb;exact⟨ae,by rw[e];simp⟩
   | false=>
     rw[hb] at h;obtain⟨h2,h3⟩:=Fr.uX r (k+1) n v h;refine⟨ae,?_⟩;rw[show n-k=(n-(k+1))+1 by omega];simpa using h3
section
variable {C:Cx} {F:Fr} {H:Hp} {w:World} {m:Option (List FuncId)} {full:Array Oper} {K:Fr->Hp->World->Prop} {o:Oper} {r:List Oper}
theorem ue {f:FuncId} {fn:Func} {c:Code} {args:List AV} {R:Ending->World->Prop} {β:Nat->Nat} (hf:C.P.funcs[f]? =some fn) (hb:fn.body=some c) (hN:fn.ntmps=C.N) (ha:args.length<=C.N)
  (ay:∀ i t cs,H i=some (t,cs)->jv C β C.w0 i t cs) (hap:∀ i j,H i≠none->H j≠none->β i=β j->i=j) (hp:zW C H) (lT:∀ v∈args,∀ i∈v.ids,H i≠none)
  (h:VS C (bodyPost C.P fn R) [.code c] (Fr.ES 0 args) H C.w0) (pF:C.ds=[]:=by rfl):Calls C.P f (args.map (AV.aN β)).toArray C.w0 R:=by
 refine calls_of_wp hf hb ?_;refine h β _ C.w0 ⟨pF.symm,?_,λd v hd=> ?_,ay,hap,λd v hd i hi=> ?_,λd v hd=> ?_,hp,C.oD⟩ (aY.refl _ _)
 ·simp[hN];omega
 ·obtain⟨_,h2⟩:=Fr.uX args 0 d v hd;rw[pt] at h2;show ((args.map (AV.aN β)).toArray++_).getD d undef=v.aN β;have hlt:=(bx.1 h2).1;rw[cA,Array.getElem?_append_left (by simpa using hlt)];simp[h2]
 ·obtain⟨_,h2⟩:=Fr.uX args 0 d v hd;exact lT v (dx h2) i hi
 ·obtain⟨_,h2⟩:=Fr.uX args 0 d _ hd;rw[pt] at h2;have:=(bx.1 h2).1;omega
theorem VO.callM {g:FuncId} {args:List AV} {i:Nat} {t:TypeId} {cs:List AV} (e:stepOf C full F H o=.call (.fn g args)) (hH:H i=some (t,cs)) (hi:i∈dG args) (hf:rC C.P g) (hl:1<=lvl C.SU m o)
  (h:∀ w1 β,aY C.K w w1->C.Old w1->kh C β H (dG args) w1->Calls C.P g (args.map (AV.aN β)).toArray w1 λe w2=>∃ v ds,e=.returned v/\fq [β i] w1 w2/\aI w2 (β i) t (List.toArray ds)/\ds.all aK=true/\
   (aY C.K w w2->aY C.K w1 w2->C.Old w2->aq C m full r K (F.bm o.dst (.val v)) (H.put i (t,ds.map .val)) w2)):aq C m full (o::r) K F H w:=by
 show one C m full o (aq C m full r K) F H w;unfold one;rw[e];refine λw1 β h1 h2 h3=>⟨hf,(h w1 β h1 h2 h3).mono ?_⟩;rintro e w2 ⟨v,ds,rfl,hb,hc,hk,hv⟩;have ho:=h3.own i (.base hi) t cs hH;refine⟨β,.val v,none,[(i,(t,ds.map .val))],aa,λi hi=>(by cases hi),.inl hl,.inr aa,?_,λa b c _ _=>hv a b c⟩;refine⟨hb.os,hb.tape,hb.output,hb.size,λk hk hx _ _=>hb.kX k hk (by simpa using hx),λ_ _=>aa,λi hi=>(by cases hi),λi hi=>(by cases hi),λx hx=> ?_,λx hx=> ?_,bc,λx hx y hy _=> ?_,λx hx j hj=> ?_⟩
 ·cases aH.1 hx;exact⟨ho.new,ho.ty,by rw[aA];exact hc,cO hk⟩
 ·cases aH.1 hx;exact .inl ⟨by rw[hH];simp,bc,.base hi,rfl⟩
 ·cases aH.1 hx;cases aH.1 hy;rfl
 ·cases aH.1 hx;rw[aG] at hj;cases hj
def wK (z:Value) (ok:Bool):Option (Nat×Value)->Value
 | some (_,v)=>if ok=true then .tuple #[v,.bool true] else v
 | none=>if ok=true then .tuple #[z,.bool false] else z
end
def Hp.one (i:Nat) (t:TypeId) (cs:List Value):Hp:=λn=>bif Nat.beq n i then some (t,cs.map .val) else none
theorem Hp.sW (i n:Nat) (t:TypeId) (cs:List Value):Hp.one i t cs n=if n=i then some (t,cs.map .val) else none:=by
 unfold Hp.one;by_cases h:n=i
 ·subst h;simp
 ·have:Nat.beq n i=false:=by rw[<-yj,Nat.beq_eq];exact h
  simp[this,h]
variable {K:KC} {g:Nat} {t:TypeId} {w:World}
theorem ad1 {cs:List Value} (hc:aI w g t cs.toArray) (ht:K.fz t=false) (hk:cs.all aK=true):oW K [g] w:=λq hq=>by
 cases aH.1 hq;exact⟨t,cs,hc,ht,hk⟩
theorem oK (g:Nat):[g].Nodup:=bc
theorem Ja {P:Program} {w':World} {N:Nat} {SU:TypeId->Bool} {ti:TypeId->Option TI} {keep:∀ b,b<w.heap.size->K.S b} {ha:oW K [g] w} {β:Nat->Nat} {i:Nat} {cs:List AV} (h:jv (xR P w N K SU ti keep [g] (oK g) ha) β w' i t cs) (hi:i=2*N):aI w' g t (cs.map (AV.leaf β)).toArray:=by
 have h1:eK N [g] w i (β i):=h.new;unfold eK at h1;rw[if_pos ae,hi,iP] at h1;have h2:g=β (2*N):=by simpa using h1
 have h3:=h.cls;rw[hi,<-h2] at h3;exact h3
theorem VS.fin {C:Cx} {F:Fr} {H:Hp} (hC:C.Ok) {fn:Func} {R:Ending->World->Prop} {vs:List AV} (h:nX C F H fn.results.toList=some vs) (hR:∀ w' β,aY C.K w w'->C.Old w'->Ends C β H w'->R (.returned (kc (vs.map (AV.aN β)))) w') (pF:C.ds=[]:=by rfl):VS C (bodyPost C.P fn R) [] F H w:=
 λβ a w' hr hk=>wH hC h hR pF β a w' hr hk
end
section
open Go.RowKit
variable {fs:Array Field} {P:Program} {t:TypeId}
theorem LB {zero:Value} {places:Array (Nat×Nat)} (hz:∀ w,(zeroValue t).run P w=.ok zero w) (hu:P.underlying t=some (.struct fs))
  (hp:∀ w,(fs.mapM (λf=>do pure (f.offset,<-sizeOf f.type)):Sem (Array (Nat×Nat))).run P w=.ok places w) (ps:Array (Nat×Value)) (w:World) (cs:Array Value)
  (h:Instr.fill (places[·]?) zero.cells ps.toList=some cs):(Instr.build t ps).run P w=.ok (.agg cs) w:=by
 unfold Instr.build;simp only[Sem.run_bind,hz,Result.andThen_ok,run_underlying hu,hp];rw[h];rfl
variable {cs:Array Value} {f:Field} {k:Nat} {v:Value} {w:World}
theorem fld_agg (o n:Nat) (hu:P.underlying t=some (.struct fs)) (hf:fs[k]? =some f) (ho:f.offset=o) (hb:∀ w,(isAgg f.type).run P w=.ok true w) (hs:∀ w,(sizeOf f.type).run P w=.ok n w)
  (h:some (Value.agg (cs.extract o (o+n)))=some v):(Instr.field t (.agg cs) k).run P w=.ok v w:=by
 cases h;subst ho;unfold Instr.field;simp[run_underlying hu,hf,asAgg,part,hb,hs]
theorem fld_one (o:Nat) (hu:P.underlying t=some (.struct fs)) (hf:fs[k]? =some f) (ho:f.offset=o) (hb:∀ w,(isAgg f.type).run P w=.ok false w)
  (h:cs[o]? =some v):(Instr.field t (.agg cs) k).run P w=.ok v w:=by
 subst ho;unfold Instr.field;simp[run_underlying hu,hf,asAgg,part,hb,h]
inductive Jb (P:Program) (t:TypeId):Nat->List Field->List (Nat×Nat)->List Bool->Prop
 | nil {j:Nat}:Jb P t j [] [] []
 | cons {j:Nat} {f:Field} {fs:List Field} {p:Nat×Nat} {ps:List (Nat×Nat)} {a:Bool} {gs:List Bool} (h1:∀ b o w,(Instr.fieldAt t (.pointer (some ⟨b,o,none⟩)) j).run P w=.ok (.pointer (some ⟨b,o+p.1,none⟩)) w) (h2:f.offset=p.1) (h3:∀ w,(isAgg f.type).run P w=.ok a w) (h4:a=true->∀ w,(sizeOf f.type).run P w=.ok p.2 w) (h:Jb P t (j+1) fs ps gs):Jb P t j (f::fs) (p::ps) (a::gs)
theorem Jb.get {j:Nat} {fs:List Field} {ps:List (Nat×Nat)} {gs:List Bool} (h:Jb P t j fs ps gs):∀ (k:Nat) (p:Nat×Nat),ps[k]? =some p->(∀ b o w,(Instr.fieldAt t (.pointer (some ⟨b,o,none⟩)) (j+k)).run P w=.ok (.pointer (some ⟨b,o+p.1,none⟩)) w)/\∃ f a,fs[k]? =some f/\gs[k]? =some a/\f.offset=p.1/\(∀ w,(isAgg f.type).run P w=.ok a w)/\(a=true->∀ w,(sizeOf f.type).run P w=.ok p.2 w):=by
 induction h with
 | nil=>intro k p e;simp at e
 | cons h1 h2 h3 h4 _ ih=>
   intro k p e;cases k with
   | zero=>simp at e;cases e;exact⟨h1,_,_,aa,aa,h2,h3,h4⟩
   | succ k=>
     have:=ih k p (by simpa using e);rw[show ∀ j:Nat,j+1+k=j+(k+1) from λj=>ae] at this;simpa using this
@[reducible] def tF (z:Value) (b:Bool) (e:Option (TypeId×Nat)) (k:Option IntKind) (p:Bool):TI:={ size:=1,agg:=false,zero:=z,places:=#[],BS:=#[],bool:=b,elem:=e,kind:=k,ptr:=p }
@[reducible] def tA (n:Nat) (z:Array Value) (p:Array (Nat×Nat)) (a:Array Bool):TI:={ size:=n,agg:=true,zero:=.agg z,places:=p,BS:=a,bool:=false,elem:=none,kind:=none }
theorem okF {z:Value} {b:Bool} {e:Option (TypeId×Nat)} {k:Option IntKind} {p:Bool} {d:TypeDesc} (hu:P.underlying t=some d) (hb:b=true->P.underlying t=some .bool:=by intro h;cases h;try kernel_rfl) (hs:∀ c n,e=some (c,n)->P.underlying t=some (.slice c)/\∀ w,(sizeOf c).run P w=.ok n w:=by intro c n h;cases h;try (constructor;kernel_rfl;intro w;kernel_rfl)) (hi:∀ q,k=some q->P.underlying t=some (.int q):=by intro q h;cases h;try kernel_rfl) (hp:p=true->P.underlying t=some (.pointer (P.pointee t)):=by intro h;cases h;try kernel_rfl) (hst:sH z=true->P.underlying t=some .string:=by intro h;first|(cases h;done)|kernel_rfl)
  (hr:d.isRow=false:=by rfl) (h1:(P.info? t).map (·.size)=some 1:=by kernel_rfl) (h2:z.cells.size=1:=by rfl) (h3:(P.info? t).map (·.zero)=some (some z):=by kernel_rfl) (h4:(P.info? t).map (λq=>Nat.ble q.bytes (24*1))=some true:=by kernel_rfl) (h5:∀ w,(zeroValue t).run P w=.ok z w:=by intro w;kernel_rfl):TI.Ok P t (tF z b e k p) where
 row:=⟨_,hu,hr⟩
 isBool:=hb
 isSlice:=hs
 isInt:=hi
 BU:=hp
 isStr:=hst
 tT:=h2
 wk:=h3
 bytes:=h4
 pos:=λ_=>aM 1
 lone:=λ_=>aa
 size:=h1
 zero:=h5
 Ey:=λk p hp b o w=>by simp at hp
 fld:=λk p hp cs w v hv=>by simp at hp
 bld:=λh=>by cases h
variable {z:Array Value}
theorem okA {n:Nat} {p:Array (Nat×Nat)} {a:Array Bool} (hu:P.underlying t=some (.struct fs)) (hf:Jb P t 0 fs.toList p.toList a.toList:=by repeat first|exact .nil|refine .cons (λb o w=>by kernel_rfl) rfl (λw=>by kernel_rfl) (by intro h;cases h;try (intro w;kernel_rfl)) ?_)
  (h1:(P.info? t).map (·.size)=some n:=by kernel_rfl) (h2:z.size=n:=by rfl) (h3:(P.info? t).map (·.zero)=some (some (.agg z)):=by kernel_rfl) (h4:(P.info? t).map (λq=>Nat.ble q.bytes (24*n))=some true:=by kernel_rfl) (h5:∀ w,(zeroValue t).run P w=.ok (.agg z) w:=by intro w;kernel_rfl) (h6:0<n:=by exact cz aa) (h7:∀ w,(fs.mapM (λf=>do pure (f.offset,<-sizeOf f.type)):Sem (Array (Nat×Nat))).run P w=.ok p w:=by intro w;kernel_rfl):TI.Ok P t (tA n z p a) where
 row:=⟨_,hu,aa⟩
 isBool:=λh=>by cases h
 isSlice:=λe n h=>by cases h
 isInt:=λk h=>by cases h
 tT:=h2
 wk:=h3
 bytes:=h4
 pos:=λ_=>h6
 lone:=λh=>by cases h
 size:=h1
 zero:=h5
 Ey:=λk q hq b o w=>by
  have:=(hf.get k q (by simpa using hq)).1 b o w
  rwa [cC] at this
 fld:=λk q hq cs w v hv=>by
  obtain⟨_,f,x,e1,e2,e3,e4,e5⟩:=hf.get k q (by simpa using hq);rw[Gd] at e1 e2;rw[e2] at hv;cases x
  ·exact fld_one q.1 hu e1 e3 e4 hv
  ·exact fld_agg q.1 q.2 hu e1 e3 e4 (e5 aa) hv
 bld:=λ_=>LB h5 hu h7
theorem yZ {p q:Nat->Option (Nat×Nat)} (h:∀ i x,p i=some x->q i=some x):∀ (l:List (Nat×Value)) (c cs:Array Value),Instr.fill p c l=some cs->Instr.fill q c l=some cs
 | [],_,_,e=>e
 | (i,v)::r,c,cs,e=>by
   unfold Instr.fill at e ⊢;cases hp:p i with
   | none=>rw[hp] at e;cases e
   | some x=>
     rw[hp] at e;rw[h i x hp];simp only at e ⊢
     split at e
     ·cases e
     ·rename_i hc;rw[if_neg hc];exact yZ h r _ _ e
@[reducible] def tR (n:Nat) (z:Array Value) (b:Array (Nat×Nat)):TI:={ size:=n,agg:=true,zero:=.agg z,places:=#[],BS:=#[],bool:=false,elem:=none,kind:=none,arr:=some n,bpl:=b }
theorem okR {e:TypeId} {n:Nat} {b:Array (Nat×Nat)} (hu:P.underlying t=some (.array n e)) (hb:(b.toList.zipIdx.all λx=>Nat.beq x.1.1 x.2 && Nat.beq x.1.2 1)=true:=by rfl) (hs:∀ w,(sizeOf e).run P w=.ok 1 w:=by intro w;kernel_rfl) (hg:∀ w,(isAgg e).run P w=.ok false w:=by intro w;kernel_rfl)
  (h1:(P.info? t).map (·.size)=some n:=by kernel_rfl) (h2:z.size=n:=by rfl) (h3:(P.info? t).map (·.zero)=some (some (.agg z)):=by kernel_rfl) (h4:(P.info? t).map (λq=>Nat.ble q.bytes (24*n))=some true:=by kernel_rfl) (h5:∀ w,(zeroValue t).run P w=.ok (.agg z) w:=by intro w;kernel_rfl) (h6:0<n:=by exact cz aa):TI.Ok P t (tR n z b) where
 row:=⟨_,hu,aa⟩
 isBool:=λh=>by cases h
 isSlice:=λe n h=>by cases h
 isInt:=λk h=>by cases h
 GJ:=λm h=>by cases h;exact⟨e,hu,hs,hg⟩
 tT:=h2
 wk:=h3
 bytes:=h4
 pos:=λ_=>h6
 lone:=λh=>by cases h
 size:=h1
 zero:=h5
 Ey:=λk p hp b o w=>by simp at hp
 fld:=λk p hp cs w v hv=>by simp at hp
 bld:=λ_ ps w cs h=>by
  have zO:∀ i x,b[i]? =some x->(λi=>some (i*1,1)) i=some x:=λi x hx=>by
   have hm:(x,i)∈b.toList.zipIdx:=by rw[List.mem_zipIdx_iff_getElem?];simpa using hx
   have:=aW.1 hb _ hm;simp only[Bool.and_eq_true,Nat.beq_eq] at this;show some (i*1,1)=some x;rw[eM];exact ai some (Prod.ext this.1.symm this.2.symm)
  unfold Instr.build;simp only[Sem.run_bind,h5,Result.andThen_ok,run_underlying hu,hs];rw[yZ zO _ _ _ h];rfl
@[reducible] def tV:TI:={ size:=0,agg:=true,zero:=.agg #[],places:=#[],BS:=#[],bool:=false,elem:=none,kind:=none,void:=true }
theorem okV (hu:P.underlying t=some (.struct fs)) (h1:(P.info? t).map (·.size)=some 0:=by kernel_rfl) (h3:(P.info? t).map (·.zero)=some (some (.agg #[])):=by kernel_rfl) (h4:(P.info? t).map (λq=>Nat.ble q.bytes 0)=some true:=by kernel_rfl) (h5:∀ w,(zeroValue t).run P w=.ok (.agg #[]) w:=by intro w;kernel_rfl) (h7:∀ w,(fs.mapM (λf=>do pure (f.offset,<-sizeOf f.type)):Sem (Array (Nat×Nat))).run P w=.ok #[] w:=by intro w;kernel_rfl):TI.Ok P t tV where
 row:=⟨_,hu,aa⟩
 isBool:=λh=>by cases h
 isSlice:=λe n h=>by cases h
 isInt:=λk h=>by cases h
 tT:=aa
 wk:=h3
 bytes:=h4
 pos:=λh=>by cases h
 lone:=λh=>by cases h
 size:=h1
 zero:=h5
 Ey:=λk p hp b o w=>by simp at hp
 fld:=λk p hp cs w v hv=>by simp at hp
 bld:=λ_=>LB h5 hu h7
theorem tb {u:TypeId} {i x:TI} {r:Option TI} (hk:TI.Ok P u i) (hr:r=some x->TI.Ok P t x) (h:(bif Nat.beq t u then some i else r)=some x):TI.Ok P t x:=by
 cases hb:Nat.beq t u
 ·rw[hb] at h;exact hr h
 ·rw[hb] at h;cases h;rw[fT hb];exact hk
def ti0:TI:=tF (.int .i64 0) false none (some .i64) false
theorem ok0:TI.Ok Tryz.prog 2 ti0:=okF Tryz.underlying2
def ti1:TI:=tF (.int .i64 0) false none (some .i64) false
theorem ok1:TI.Ok Tryz.prog 3 ti1:=okF vz
def ti2:TI:=tF (.bool false) true none none false
theorem ok2:TI.Ok Tryz.prog 4 ti2:=okF Tryz.underlying4
def ti3:TI:=tF (.int .u8 0) false none (some .u8) false
theorem ok3:TI.Ok Tryz.prog 5 ti3:=okF Tryz.underlying5
def ti4:TI:=tF (.string ⟨#[]⟩) false none none false
theorem ok4:TI.Ok Tryz.prog 9 ti4:=okF Tryz.underlying9
def ti5:TI:=tF (.int .u64 0) false none (some .u64) false
theorem ok5:TI.Ok Tryz.prog 12 ti5:=okF Tryz.underlying12
def ti6:TI:=tF (.slice none 0 0) false (some (37,6)) none false
theorem ok6:TI.Ok Tryz.prog 22 ti6:=okF Tryz.underlying22
def ti7:TI:=tA 2 #[.int .i64 0,.slice none 0 0] #[(0,1),(1,1)] #[false,false]
theorem ok7:TI.Ok Tryz.prog 24 ti7:=okA Tryz.underlying24
def ti8:TI:=tF (.slice none 0 0) false (some (3,1)) none false
theorem ok8:TI.Ok Tryz.prog 27 ti8:=okF yh
def ti9:TI:=tF (.int .i64 0) false none (some .i64) false
theorem ok9:TI.Ok Tryz.prog 28 ti9:=okF Tryz.underlying28
def ti10:TI:=tF (.slice none 0 0) false (some (122,1)) none false
theorem ok10:TI.Ok Tryz.prog 31 ti10:=okF jg
def ti11:TI:=tA 2 #[.bool false,.slice none 0 0] #[(0,1),(1,1)] #[false,false]
theorem ok11:TI.Ok Tryz.prog 33 ti11:=okA Tryz.underlying33
def ti12:TI:=tA 4 #[.bool false,.slice none 0 0,.bool false,.slice none 0 0] #[(0,2),(2,2)] #[true,true]
theorem ok12:TI.Ok Tryz.prog 35 ti12:=okA Tryz.underlying35
def ti13:TI:=tA 6 #[.int .i64 0,.int .i64 0,.bool false,.slice none 0 0,.bool false,.slice none 0 0] #[(0,1),(1,1),(2,4)] #[false,false,true]
theorem ok13:TI.Ok Tryz.prog 37 ti13:=okA Tryz.underlying37
def ti14:TI:=tF (.slice none 0 0) false (some (74,6)) none false
theorem ok14:TI.Ok Tryz.prog 43 ti14:=okF Tryz.underlying43
def ti15:TI:=tA 2 #[.int .i64 0,.slice none 0 0] #[(0,1),(1,1)] #[false,false]
theorem ok15:TI.Ok Tryz.prog 45 ti15:=okA Tryz.underlying45
def ti16:TI:=tF (.slice none 0 0) false (some (35,4)) none false
theorem ok16:TI.Ok Tryz.prog 55 ti16:=okF Tryz.underlying55
def ti17:TI:=tF (.slice none 0 0) false (some (27,1)) none false
theorem ok17:TI.Ok Tryz.prog 56 ti17:=okF Tryz.underlying56
def ti18:TI:=tF (.pointer none) false none none true
theorem ok18:TI.Ok Tryz.prog 57 ti18:=okF yi
def ti19:TI:=tF (.slice none 0 0) false (some (3,1)) none false
theorem ok19:TI.Ok Tryz.prog 58 ti19:=okF Tryz.underlying58
def ti20:TI:=tF (.slice none 0 0) false (some (68,4)) none false
theorem ok20:TI.Ok Tryz.prog 62 ti20:=okF Tryz.underlying62
def ti21:TI:=tF (.int .u64 0) false none (some .u64) false
theorem ok21:TI.Ok Tryz.prog 66 ti21:=okF Tryz.underlying66
def ti22:TI:=tR 4 #[.int .u64 0,.int .u64 0,.int .u64 0,.int .u64 0] #[(0,1),(1,1),(2,1),(3,1)]
theorem ok22:TI.Ok Tryz.prog 67 ti22:=okR Tryz.underlying67
def ti23:TI:=tR 4 #[.int .u64 0,.int .u64 0,.int .u64 0,.int .u64 0] #[(0,1),(1,1),(2,1),(3,1)]
theorem ok23:TI.Ok Tryz.prog 68 ti23:=okR Tryz.underlying68
def ti24:TI:=tA 2 #[.bool false,.slice none 0 0] #[(0,1),(1,1)] #[false,false]
theorem ok24:TI.Ok Tryz.prog 69 ti24:=okA Tryz.underlying69
def ti25:TI:=tA 4 #[.bool false,.slice none 0 0,.bool false,.slice none 0 0] #[(0,2),(2,2)] #[true,true]
theorem ok25:TI.Ok Tryz.prog 71 ti25:=okA Tryz.underlying71
def ti26:TI:=tA 6 #[.int .i64 0,.int .i64 0,.bool false,.slice none 0 0,.bool false,.slice none 0 0] #[(0,1),(1,1),(2,4)] #[false,false,true]
theorem ok26:TI.Ok Tryz.prog 74 ti26:=okA Tryz.underlying74
def ti27:TI:=tF (.slice none 0 0) false (some (4,1)) none false
theorem ok27:TI.Ok Tryz.prog 81 ti27:=okF Tryz.underlying81
def ti28:TI:=tF (.pointer none) false none none true
theorem ok28:TI.Ok Tryz.prog 97 ti28:=okF Tryz.underlying97
def ti29:TI:=tF (.map none) false none none false
theorem ok29:TI.Ok Tryz.prog 106 ti29:=okF Tryz.underlying106
def ti30:TI:=tR 2 #[.int .i64 0,.int .i64 0] #[(0,1),(1,1)]
theorem ok30:TI.Ok Tryz.prog 107 ti30:=okR Tryz.underlying107
def ti31:TI:=tV
theorem ok31:TI.Ok Tryz.prog 108 ti31:=okV Tryz.underlying108
def ti32:TI:=tF (.map none) false none none false
theorem ok32:TI.Ok Tryz.prog 114 ti32:=okF Tryz.underlying114
def ti33:TI:=tF (.int .u32 0) false none (some .u32) false
theorem ok33:TI.Ok Tryz.prog 122 ti33:=okF Tryz.underlying122
def ti34:TI:=tA 2 #[.bool false,.slice none 0 0] #[(0,2)] #[true]
theorem ok34:TI.Ok Tryz.prog 146 ti34:=okA Tryz.underlying146
def ti35:TI:=tF (.int .u64 0) false none (some .u64) false
theorem ok35:TI.Ok Tryz.prog 150 ti35:=okF Tryz.underlying150
def ti36:TI:=tF (.slice none 0 0) false (some (31,1)) none false
theorem ok36:TI.Ok Tryz.prog 156 ti36:=okF Tryz.underlying156
def ti37:TI:=tF (.pointer none) false none none true
theorem ok37:TI.Ok Tryz.prog 188 ti37:=okF Tryz.underlying188
def table (t:TypeId):Option TI:=
 bif Nat.beq t 2 then some ti0 else
 bif Nat.beq t 3 then some ti1 else
 bif Nat.beq t 4 then some ti2 else
 bif Nat.beq t 5 then some ti3 else
 bif Nat.beq t 9 then some ti4 else
 bif Nat.beq t 12 then some ti5 else
 bif Nat.beq t 22 then some ti6 else
 bif Nat.beq t 24 then some ti7 else
 bif Nat.beq t 27 then some ti8 else
 bif Nat.beq t 28 then some ti9 else
 bif Nat.beq t 31 then some ti10 else
 bif Nat.beq t 33 then some ti11 else
 bif Nat.beq t 35 then some ti12 else
 bif Nat.beq t 37 then some ti13 else
 bif Nat.beq t 43 then some ti14 else
 bif Nat.beq t 45 then some ti15 else
 bif Nat.beq t 55 then some ti16 else
 bif Nat.beq t 56 then some ti17 else
 bif Nat.beq t 57 then some ti18 else
 bif Nat.beq t 58 then some ti19 else
 bif Nat.beq t 62 then some ti20 else
 bif Nat.beq t 66 then some ti21 else
 bif Nat.beq t 67 then some ti22 else
 bif Nat.beq t 68 then some ti23 else
 bif Nat.beq t 69 then some ti24 else
 bif Nat.beq t 71 then some ti25 else
 bif Nat.beq t 74 then some ti26 else
 bif Nat.beq t 81 then some ti27 else
 bif Nat.beq t 97 then some ti28 else
 bif Nat.beq t 106 then some ti29 else
 bif Nat.beq t 107 then some ti30 else
 bif Nat.beq t 108 then some ti31 else
 bif Nat.beq t 114 then some ti32 else
 bif Nat.beq t 122 then some ti33 else
 bif Nat.beq t 146 then some ti34 else
 bif Nat.beq t 150 then some ti35 else
 bif Nat.beq t 156 then some ti36 else
 bif Nat.beq t 188 then some ti37 else none
theorem lG:∀ t i,table t=some i->TI.Ok Tryz.prog t i:=λt i=>tb ok0 (tb ok1 (tb ok2 (tb ok3 (tb ok4 (tb ok5 (tb ok6 (tb ok7 (tb ok8 (tb ok9 (tb ok10 (tb ok11 (tb ok12 (tb ok13 (tb ok14 (tb ok15 (tb ok16 (tb ok17 (tb ok18 (tb ok19 (tb ok20 (tb ok21 (tb ok22 (tb ok23 (tb ok24 (tb ok25 (tb ok26 (tb ok27 (tb ok28 (tb ok29 (tb ok30 (tb ok31 (tb ok32 (tb ok33 (tb ok34 (tb ok35 (tb ok36 (tb ok37 (λh=>by cases h))))))))))))))))))))))))))))))))))))))
abbrev UU:TypeId:=122
abbrev bD (P:Program) (w:World) (N:Nat):Cx:={ P:=P,w0:=w,N:=N,K:=KU UU,SU:=λt=>Nat.beq t 31,ti:=table,keep:=λ_ _=>trivial }
abbrev KI:KC:=⟨UU,λ_=>True,λt=>Nat.beq t 3⟩
abbrev GV (P:Program) (w:World) (N:Nat):Cx:={ P:=P,w0:=w,N:=N,K:=KI,SU:=λt=>Nat.beq t 31 || Nat.beq t 27,ti:=table,keep:=λ_ _=>trivial }
theorem my (w:World) (N:Nat):(GV Tryz.prog w N).Ok:=lG
theorem jf (w:World) (N:Nat):(GV Tryz.prog w N).P.follows .mixedOrders=true:=by show Tryz.prog.follows .mixedOrders=true;kernel_rfl
abbrev Jc (P:Program) (w:World) (N:Nat) (ad:List Nat) (hd:ad.Nodup) (ha:oW (KU UU) ad w):Cx:=xR P w N (KU UU) (λt=>Nat.beq t 31) table (λ_ _=>trivial) ad hd ha
theorem cu (w:World) (N:Nat) {ad:List Nat} {hd:ad.Nodup} {ha:oW (KU UU) ad w}:(Jc Tryz.prog w N ad hd ha).Ok:=lG
theorem lH (w:World) (N:Nat) {ad:List Nat} {hd:ad.Nodup} {ha:oW (KU UU) ad w}:(Jc Tryz.prog w N ad hd ha).P.follows .mixedOrders=true:=by show Tryz.prog.follows .mixedOrders=true;kernel_rfl
theorem bQ (w:World) (N:Nat):(bD Tryz.prog w N).Ok:=lG
theorem rN (w:World) (N:Nat):(bD Tryz.prog w N).P.follows .mixedOrders=true:=by show Tryz.prog.follows .mixedOrders=true;kernel_rfl
section
variable {C:Cx} {m:Option (List FuncId)} {full:Array Oper} {K:Fr->Hp->World->Prop} {F F':Fr} {H H':Hp} {w w1:World} {N:Nat} {o:Oper} {r l l':List Oper} {Q:Exit->Act->World->Prop} {k k':List It} {v:AV} {u:Option (Nat×(TypeId×List AV))} {id:Nat} {ops:Array Oper}
theorem wN (h:K F H w):aq C m full [] K F H w:=VO.nil h
theorem wV (e:qj C full 80 l F H=(l',F',H')) (h:aq C m full l' K F' H' w):aq C m full l K F H w:=VO.run 80 e h
theorem wO (e:stepOf C full F H o=.dw v u) (e':qj C full 80 r (F.bm o.dst v) (H.upd u)=(l',F',H')) (h:aq C m full l' K F' H' w):aq C m full (o::r) K F H w:=VO.op1 e (VO.run 80 e' h)
theorem cx_r (e:qj (bD Tryz.prog w1 N) ops 80 ops.toList F H=(l',F',H')) (h:aq (bD Tryz.prog w1 N) none ops l' (VS (bD Tryz.prog w1 N) Q k) F' H' w):VS (bD Tryz.prog w1 N) Q (.code (.region id ops false)::k) F H w:=VS.region (bQ _ _) (VO.run 80 e h)
theorem cx_d (e:qj (bD Tryz.prog w1 N) ops 80 ops.toList F H=(l',F',H')) (h:aq (bD Tryz.prog w1 N) (some []) ops l' (VS (bD Tryz.prog w1 N) Q k) F' H' w) (gB:nS (bD Tryz.prog w1 N).SU [] ops=true:=by kernel_rfl):VS (bD Tryz.prog w1 N) Q (.code (.region id ops true)::k) F H w:=VS.draw (bQ _ _) (rN _ _) [] gB (VO.run 80 e h)
theorem za (e:qj (GV Tryz.prog w1 N) ops 80 ops.toList F H=(l',F',H')) (h:aq (GV Tryz.prog w1 N) none ops l' (VS (GV Tryz.prog w1 N) Q k) F' H' w):VS (GV Tryz.prog w1 N) Q (.code (.region id ops false)::k) F H w:=VS.region (my _ _) (VO.run 80 e h)
theorem cxI_d (e:qj (GV Tryz.prog w1 N) ops 80 ops.toList F H=(l',F',H')) (h:aq (GV Tryz.prog w1 N) (some []) ops l' (VS (GV Tryz.prog w1 N) Q k) F' H' w) (gB:nS (GV Tryz.prog w1 N).SU [] ops=true:=by kernel_rfl):VS (GV Tryz.prog w1 N) Q (.code (.region id ops true)::k) F H w:=VS.draw (my _ _) (jf _ _) [] gB (VO.run 80 e h)
theorem cxA_r {ad:List Nat} {hd:ad.Nodup} {ha:oW (KU UU) ad w1} (e:qj (Jc Tryz.prog w1 N ad hd ha) ops 80 ops.toList F H=(l',F',H')) (h:aq (Jc Tryz.prog w1 N ad hd ha) none ops l' (VS (Jc Tryz.prog w1 N ad hd ha) Q k) F' H' w):VS (Jc Tryz.prog w1 N ad hd ha) Q (.code (.region id ops false)::k) F H w:=VS.region (cu _ _) (VO.run 80 e h)
theorem cxA_d {ad:List Nat} {hd:ad.Nodup} {ha:oW (KU UU) ad w1} (e:qj (Jc Tryz.prog w1 N ad hd ha) ops 80 ops.toList F H=(l',F',H')) (h:aq (Jc Tryz.prog w1 N ad hd ha) (some []) ops l' (VS (Jc Tryz.prog w1 N ad hd ha) Q k) F' H' w) (gB:nS (Jc Tryz.prog w1 N ad hd ha).SU [] ops=true:=by kernel_rfl):VS (Jc Tryz.prog w1 N ad hd ha) Q (.code (.region id ops true)::k) F H w:=VS.draw (cu _ _) (lH _ _) [] gB (VO.run 80 e h)
def peel (F:Fr):List It->Option (List It)
 | .code (.seq x y)::k=>some (.code x::.code y::k)
 | .code (.block id c)::k=>some (.code c::.kX id::k)
 | .kX _::k=>some k
 | .code .skip::k=>some k
 | .code (.exit id)::k=>pop id k
 | .code (.cond c x y)::k=>(match gz F c with
   | some (.bool true)=>some (.code x::k)
   | some (.bool false)=>some (.code y::k)
   | _=>none)
 | _=>none
theorem wP (e:peel F k=some k') (h:VS C Q k' F H w):VS C Q k F H w:=by
 unfold peel at e
 split at e
 ·cases e;exact VS.seq h
 ·cases e;exact VS.block h
 ·cases e;exact VS.kX h
 ·cases e;exact VS.skip h
 ·exact VS.exit e h
 ·split at e
  ·rename_i hc;cases e;exact VS.condT hc h
  ·rename_i hc;cases e;exact VS.condF hc h
  ·cases e
 ·cases e
theorem fk {P:Program} {g:FuncId} {fn:Func} (h:P.funcs[g]? =some fn) (h1:(fn.name == "runtime.NumGoroutine")=false:=by kernel_rfl) (h2:fn.body.isNone=false:=by kernel_rfl):rC P g:=⟨fn,h,h1,h2⟩
theorem kT {k:KC} {a b c:World} (h:aY k a b) (h':aY k b c):aY k a c:=h.aB h'
end
end
section
open Go.RowKit
theorem jA (neg:Bool) (p:Option Addr) (n c:Nat) (w:World):
  Calls Tryz.prog 98 #[.bool neg,.slice p n c] w λe w'=>e=.returned (.agg #[.bool (neg && decide (0<n)),.slice p n c])/\ax w w':=by
 refine aE λR' bh=> ?_;go_enter Tryz.func98,Tryz.ntmps98
 cases neg
 ·go_wp2
  exact bodyPost_ret (v:=.agg #[.bool false,.slice p n c]) (by simp[results,Tryz.results98,go_sem]) aa (bh.out _ _ ⟨aa,(ax.refl w).alloc _⟩)
 ·go_wp2
  exact bodyPost_ret (v:=.agg #[.bool (decide (0<n)),.slice p n c]) (by simp[results,Tryz.results98,go_sem]) aa (bh.out _ _ ⟨aa,(ax.refl w).alloc _⟩)
theorem eD (neg:Bool) (p:Option Addr) (n c:Nat) (w:World):
  Calls Tryz.prog 98 #[.bool neg,.slice p n c] w λe w'=>∃ sg,e=.returned (.agg #[.bool sg,.slice p n c])/\Hid (sg=(neg && decide (0<n)))/\ax w w':=
 (jA neg p n c w).mono λ_ _ ⟨h,hb⟩=>⟨_,h,ab rfl,hb⟩
theorem ql (neg:Bool) (xs:List Nat) (v:Value) (w:World) (h:ek w v neg xs):
  Calls Tryz.prog 78 #[v] w λe w'=>e=.returned (.bool (cQ neg xs))/\ax w w':=by
 obtain⟨p,c,rfl,hr,hl⟩:=h;obtain⟨p',c',hv,iD,fO,-⟩:=hr.u32;simp only[Value.slice.injEq,true_and] at hv;obtain⟨rfl,rfl⟩:=hv;refine aE λR' bh=> ?_;by_cases hx:xs=[]
 ·subst hx;simp only[List.length_nil,pW] at*;go_enter Tryz.func78,Tryz.ntmps78
  cases neg
  ·go_wp2
   exact bh.out _ _ ⟨aa,(ax.refl w).alloc _⟩
  ·go_wp2
   exact bh.out _ _ ⟨aa,(ax.refl w).alloc _⟩
 ·obtain⟨m,hm⟩:∃ m,xs.length=m+1:=⟨xs.length-1,by have:=Ba.2 hx;omega⟩;generalize hn:xs.length=n at*;obtain⟨b,off,x,rfl,hb,hxm,hc⟩:=hr.cellAt (k:=m) ae;have h1:cQ neg xs=decide (x≠0):=tP (by rw[hn,hm];exact hxm);rw[h1] at bh;have hz:((n:Int) == 0)=false:=by rw[iJ];omega
  have hp:(0:Int)<(n:Int):=ae;have hw:IntKind.i64.wrap ((n:Int)-1)=(m:Int):=by rw[bj _ ae];omega
  have hlt:(m:Int)<(n:Int):=ae;have HN:=ab hn;have hpn:0<n:=ae;clear hx hm hn h1 hxm hr hl;go_enter Tryz.func78,Tryz.ntmps78
  by_cases mR:x=0
  ·subst mR;cases neg
   ·go_wp2
    exact bh.out _ _ ⟨aa,(ax.refl w).alloc _⟩
   ·go_wp2
    exact bh.out _ _ ⟨aa,(ax.refl w).alloc _⟩
  ·have Ai:((x:Int) != 0)=true:=by rw[bne_iff_ne];omega
   rw[aU mR] at bh;clear mR;cases neg
   ·go_wp2
    exact bh.out _ _ ⟨aa,(ax.refl w).alloc _⟩
   ·go_wp2
    exact bh.out _ _ ⟨aa,(ax.refl w).alloc _⟩
theorem fy (v:Value) (X:Int) (k:Nat) (w0 w:World) (h:bP w0 v X k) (ng:ax w0 w):
  Calls Tryz.prog 96 #[v] w λe w'=>∃ u,e=.returned u/\bK w0 u X/\ax w w':=by
 obtain⟨neg,xs,hn,rfl,hk⟩:=h;refine aE λR' bh=> ?_;have HN:=ab hn;obtain⟨p,c,rfl,hr,hl⟩:=hn;clear hr;go_enter Tryz.func96,Tryz.ntmps96
 go_wp2_with fail
 refine (ql neg xs _ _ ((HN.out.aD ng).aD (((ax.refl w).alloc _).alloc _))).mono ?_;rintro e w1 ⟨rfl,bS⟩;obtain⟨b1,b2,lU⟩:=mf w 33 146 #[.bool neg,.slice p xs.length c] #[.bool false,.slice none 0 0];obtain⟨c1,c2,_,_⟩:=(b1.aD bS).two;obtain⟨c3,c4,f3,f4⟩:=(b2.aD bS).two;have zF:ax w w1:=lU.aB bS;cases hnr:cQ neg xs
 ·have B2:=(b2.aD bS).bq (.bool false) (.slice none 0 0);have tN:=zF.bq (b:=w.heap.size+1) ae (.bool false) (.slice none 0 0);go_wp2
  generalize (w1.setCell ⟨w.heap.size+1,0,none⟩ (.bool false)).setCell ⟨w.heap.size+1,1,none⟩ (.slice none 0 0)=w2 at*;obtain⟨d1,d2,_,_⟩:=B2.two;refine bodyPost_ret (v:=.agg #[.bool false,.slice none 0 0]) (by simp[results,Tryz.results96,go_sem,d1,d2]) aa (bh.out _ _ ⟨_,aa,?_,tN⟩);rw[numOf,if_neg (by simp[hnr])];exact bK.zero _
 ·have B2:=(b2.aD bS).bq (.bool neg) (.slice p xs.length c);have tN:=zF.bq (b:=w.heap.size+1) ae (.bool neg) (.slice p xs.length c);go_wp2
  generalize (w1.setCell ⟨w.heap.size+1,0,none⟩ (.bool neg)).setCell ⟨w.heap.size+1,1,none⟩ (.slice p xs.length c)=w2 at*;obtain⟨d1,d2,_,_⟩:=B2.two;refine bodyPost_ret (v:=.agg #[.bool neg,.slice p xs.length c]) (by simp[results,Tryz.results96,go_sem,d1,d2]) aa (bh.out _ _ ⟨_,aa,?_,tN⟩);rw[numOf,if_pos hnr];obtain⟨h1,h2⟩:=canon hl hnr;have:=HN.out;show ek _ _ _ _;rw[<-h1,<-h2];exact this
end
section
open Go.RowKit
theorem bK.split {w:World} {v:Value} {X:Int} (h:bK w v X):∃ s p c,v=.agg #[.bool s,.slice p (limbs X.natAbs).length c]/\Rd w 1 (.slice p (limbs X.natAbs).length c) (limbs X.natAbs).length (ints .u32 (limbs X.natAbs))/\X=if s=true then-(X.natAbs:Int) else (X.natAbs:Int):=by
 obtain⟨p,c,hv,hr,_⟩:=h;refine⟨_,p,c,hv,hr,?_⟩
 split
 ·rename_i h;have:=cS h;omega
 ·rename_i h;have:¬ X<0:=λh'=>h (aU h');omega
theorem wL (v:Value) (X:Int) (w:World) (h:bK w v X):
  Calls Tryz.prog 108 #[v] w λe w'=>∃ u,e=.returned u/\bK w' u (-X)/\ax w w':=by
 obtain⟨s,p,c,rfl,hr,hX⟩:=h.split;obtain⟨n,hn⟩:∃ n,n=(limbs X.natAbs).length:=⟨_,aa⟩;have HR:=ab hr;have HN:=ab hn;have HX:=ab hX;rw[<-hn];clear hr hn hX h;refine aE λR' bh=> ?_;obtain⟨b1,b2,lU⟩:=mf w 146 146 #[.bool s,.slice p n c] #[.bool false,.slice none 0 0];go_enter Tryz.func108,Tryz.ntmps108
 go_wp2_with fail
 refine (jA _ _ _ _ _).mono ?_;rintro e w1 ⟨rfl,bS⟩;obtain⟨c3,c4,f3,f4⟩:=(b2.aD bS).two;have B2:=(b2.aD bS).bq (.bool (!s && decide (0<n))) (.slice p n c);have tN:=(lU.aB bS).bq (b:=w.heap.size+1) ae (.bool (!s && decide (0<n))) (.slice p n c);go_wp2
 generalize (w1.setCell ⟨w.heap.size+1,0,none⟩ (.bool (!s && decide (0<n)))).setCell ⟨w.heap.size+1,1,none⟩ (.slice p n c)=w2 at*;obtain⟨d1,d2,_,_⟩:=B2.two;refine bodyPost_ret (v:=.agg #[.bool (!s && decide (0<n)),.slice p n c]) (by simp[results,Tryz.results108,go_sem,d1,d2]) aa (bh.out _ _ ⟨_,aa,?_,tN⟩);have vQ:=HR.out.below tN;rw[<-HN.out] at vQ;refine bK.of (m:=X.natAbs) (by rw[<-HN.out];exact vQ) HN.out _ ?_;rw[HX.out];cases s <;> simp
theorem CF (v u:Value) (X Y:Int) (w:World) (hv:bK w v X) (hu:bK w u Y) (hx:(limbs X.natAbs).length<=1073741824) (hy:(limbs Y.natAbs).length<=1073741824):
  Calls Tryz.prog 107 #[v,u] w λe w'=>∃ r,e=.returned r/\aw w' w.heap.size r (X+Y)/\ax w w':=by
 obtain⟨s,p,c,rfl,sx,hX⟩:=hv.split;obtain⟨t,q,d,rfl,vQ,hY⟩:=hu.split;obtain⟨n,hn⟩:∃ n,n=(limbs X.natAbs).length:=⟨_,aa⟩;obtain⟨m,hm⟩:∃ m,m=(limbs Y.natAbs).length:=⟨_,aa⟩;rw[<-hn] at sx hx ⊢;rw[<-hm] at vQ hy ⊢;clear hv hu;refine aE λR' bh=> ?_;obtain⟨b1,b2,b3,lU⟩:=mg w 146 146 33 #[.bool s,.slice p n c] #[.bool t,.slice q m d] #[.bool false,.slice none 0 0];have r10:=ab sx;have r20:=ab vQ;have r1:=ab (sx.below lU);have r2:=ab (vQ.below lU);have HX:=ab hX;have HY:=ab hY;have HN:=ab hn;have HM:=ab hm;clear sx vQ hX hY hn hm;go_enter Tryz.func107,Tryz.ntmps107
 by_cases hst:s=t
 ·subst hst;go_wp2_with fail
  generalize ((w.alloc _).alloc _).alloc _=W at*;obtain⟨c1,c2,_,_⟩:=b1.two;obtain⟨c3,c4,_,_⟩:=b2.two;obtain⟨c5,c6,f5,f6⟩:=b3.two;have HS:=ab (λw' (h:ao W (w.heap.size+1+1) w')=>And.intro (h.cells b1 ae) (h.cells b2 ae))
  go_region_held3 (λw'=>(w'.cell? ⟨w.heap.size,0,none⟩=some (.bool s)/\w'.cell? ⟨w.heap.size,1,none⟩=some (.slice p n c))/\w'.cell? ⟨w.heap.size+1,0,none⟩=some (.bool s)/\w'.cell? ⟨w.heap.size+1,1,none⟩=some (.slice q m d)) ((refine HS.out _ ?_;(with_reducible (repeat (first|exact ao.refl _ _|refine ao.drew ?_|refine ao.drewN ?_ _|refine ao.alloc ?_ _|refine ao.set ?_ _|refine ao.aB ?_ (by assumption)|refine ao.nJ ?_ (by first|omega|(simp;done)|(simp;omega)) _))))) (first
   | (go_at_call 115;refine (Gu _ _ n m _ _ _ r1.out.drew r2.out.drew (ak _) (ak _) ae ae).mono ?_;rintro e w1 ⟨v1,rfl,sX,bS⟩;replace bS:ax _ w1:=bS;rw[ah,ah] at sX;obtain⟨p1,k1,rfl,_,_,_⟩:=Own.form sX)
   | (go_at_call 98;refine (jA _ _ _ _ _).mono ?_;rintro e w2 ⟨rfl,bO⟩;obtain⟨c5',c6',f5',f6'⟩:=((b3.drew.aD bS).aD bO).two))
  have B3:=((b3.drew.aD bS).aD bO).bq (.bool (s && decide (0<(limbs (X.natAbs+Y.natAbs)).length))) (.slice p1 (limbs (X.natAbs+Y.natAbs)).length k1);have zF:ax w w2:=lU.aB (ax.aB (ax.aB (ax.refl W).drew bS) bO);have Ka:=zF.bq (b:=w.heap.size+1+1) ae (.bool (s && decide (0<(limbs (X.natAbs+Y.natAbs)).length))) (.slice p1 (limbs (X.natAbs+Y.natAbs)).length k1);have LC:=Own.below sX bO;generalize hL:(limbs (X.natAbs+Y.natAbs)).length=L at*;have KF:=ab (Own.bq (b:=w.heap.size+1+1) LC (b3.drew.aD bS |>.aD bO) dh (.bool (s && decide (0<L))) (.slice p1 L k1));clear LC sX zF;go_wp2
  generalize (w2.setCell ⟨w.heap.size+1+1,0,none⟩ (.bool (s && decide (0<L)))).setCell ⟨w.heap.size+1+1,1,none⟩ (.slice p1 L k1)=w3 at*;obtain⟨d1,d2,_,_⟩:=B3.two;refine bodyPost_ret (v:=.agg #[.bool (s && decide (0<L)),.slice p1 L k1]) (by simp[results,Tryz.results107,go_sem,d1,d2]) aa (bh.out _ _ ⟨_,aa,?_,Ka⟩);refine aw.of (m:=X.natAbs+Y.natAbs) (by rw[hL];exact Own.mono KF.out lU.size) hL.symm _ ?_;rw[HX.out,HY.out];cases s <;> simp <;> omega
 ·have hst':(s == t)=false:=by cases s <;> cases t <;> simp_all
  go_wp2_with fail
  generalize ((w.alloc _).alloc _).alloc _=W at*;refine (zG _ _ n m _ _ _ r1.out r2.out (ak _) (ak _)).mono ?_;rintro e w1 ⟨rfl,k1,rfl⟩;rw[ah,ah];by_cases hlt:X.natAbs<Y.natAbs
  ·have HLT:=ab hlt;have hc:fb X.natAbs Y.natAbs<0:=ic.2 hlt;generalize fb X.natAbs Y.natAbs=cv at hc ⊢;obtain⟨c1,c2,f1,f2⟩:=(b1.drewN k1).two;obtain⟨c3,c4,f3,f4⟩:=(b2.drewN k1).two;have B1:=((b1.drewN k1).bq (.bool t) (.slice q m d)).cX (b':=w.heap.size+1) ae (.bool s) (.slice p n c);have B2:=((b2.drewN k1).cX (b':=w.heap.size) ae (.bool t) (.slice q m d)).bq (.bool s) (.slice p n c);have B3:=((b3.drewN k1).cX (b':=w.heap.size) ae (.bool t) (.slice q m d)).cX (b':=w.heap.size+1) ae (.bool s) (.slice p n c);have fx:=((lU.drewN k1).bq (b:=w.heap.size) ae (.bool t) (.slice q m d)).bq (b:=w.heap.size+1) ae (.bool s) (.slice p n c);clear lU b1 b2 b3 r1 r2 hlt;go_wp2_with fail
   generalize ((((W.drewN k1).setCell ⟨w.heap.size,0,none⟩ (.bool t)).setCell ⟨w.heap.size,1,none⟩ (.slice q m d)).setCell ⟨w.heap.size+1,0,none⟩ (.bool s)).setCell ⟨w.heap.size+1,1,none⟩ (.slice p n c)=W2 at*;clear c1 c2 c3 c4 f1 f2 f3 f4;refine (zN _ _ m n _ _ _ (r20.out.below fx) (r10.out.below fx) (ak _) (ak _) ae).mono ?_;rintro e w2 ⟨⟨h,_⟩|⟨_,v2,rfl,GW⟩,bO⟩
   ·rw[ah,ah] at h;exact absurd h (by have:=HLT.out;omega)
   replace bO:ax _ w2:=bO;rw[ah,ah] at GW;obtain⟨p2,k2,rfl,_,_,_⟩:=Own.form GW;obtain⟨e1,e2,_,_⟩:=(B1.aD bO).two;have E3:=B3.aD bO;have hbw2:=fx.aB bO;generalize hL:(limbs (Y.natAbs-X.natAbs)).length=L at*;have mV:=ab (Own.mono GW fx.size);have HL:=ab hL;clear GW hL B1 B2 B3 fx bO;go_wp2_with fail
   refine (jA _ _ _ _ _).mono ?_;rintro e w3 ⟨rfl,dc⟩;have F3:=E3.aD dc;obtain⟨e5,e6,g5,g6⟩:=F3.two;have KF:=ab (Own.bq (b:=w.heap.size+1+1) (Own.below mV.out dc) F3 dh (.bool (t && decide (0<L))) (.slice p2 L k2));have G3:=F3.bq (.bool (t && decide (0<L))) (.slice p2 L k2);have Ka:=(hbw2.aB dc).bq (b:=w.heap.size+1+1) ae (.bool (t && decide (0<L))) (.slice p2 L k2);clear mV E3 F3;go_wp2
   generalize (w3.setCell ⟨w.heap.size+1+1,0,none⟩ (.bool (t && decide (0<L)))).setCell ⟨w.heap.size+1+1,1,none⟩ (.slice p2 L k2)=w4 at*;obtain⟨d1,d2,_,_⟩:=G3.two;refine bodyPost_ret (v:=.agg #[.bool (t && decide (0<L)),.slice p2 L k2]) (by simp[results,Tryz.results107,go_sem,d1,d2]) aa (bh.out _ _ ⟨_,aa,?_,Ka⟩);refine aw.of (m:=Y.natAbs-X.natAbs) (by rw[HL.out];exact KF.out) HL.out.symm _ ?_;rw[HX.out,HY.out];have:=HLT.out;cases s <;> cases t <;> simp at hst ⊢ <;> omega
  ·have HLT:=ab hlt;have hc:0<=fb X.natAbs Y.natAbs:=by have:=mt (@ic X.natAbs Y.natAbs).1 hlt;omega
   generalize fb X.natAbs Y.natAbs=cv at hc ⊢;have B1:=b1.drewN k1;have B2:=b2.drewN k1;have B3:=b3.drewN k1;have fx:=lU.drewN k1;obtain⟨c1,c2,f1,f2⟩:=B1.two;obtain⟨c3,c4,f3,f4⟩:=B2.two;clear lU b1 b2 b3 r1 r2 hlt;go_wp2_with fail
   generalize W.drewN k1=W2 at*;clear c1 c2 c3 c4 f1 f2 f3 f4;refine (zN _ _ n m _ _ _ (r10.out.below fx) (r20.out.below fx) (ak _) (ak _) ae).mono ?_;rintro e w2 ⟨⟨h,_⟩|⟨_,v2,rfl,GW⟩,bO⟩
   ·rw[ah,ah] at h;exact absurd h (by have:=HLT.out;omega)
   replace bO:ax _ w2:=bO;rw[ah,ah] at GW;obtain⟨p2,k2,rfl,_,_,_⟩:=Own.form GW;obtain⟨e1,e2,_,_⟩:=(B1.aD bO).two;have E3:=B3.aD bO;have hbw2:=fx.aB bO;generalize hL:(limbs (X.natAbs-Y.natAbs)).length=L at*;have mV:=ab (Own.mono GW fx.size);have HL:=ab hL;clear GW hL B1 B2 B3 fx bO;go_wp2_with fail
   refine (jA _ _ _ _ _).mono ?_;rintro e w3 ⟨rfl,dc⟩;have F3:=E3.aD dc;obtain⟨e5,e6,g5,g6⟩:=F3.two;have KF:=ab (Own.bq (b:=w.heap.size+1+1) (Own.below mV.out dc) F3 dh (.bool (s && decide (0<L))) (.slice p2 L k2));have G3:=F3.bq (.bool (s && decide (0<L))) (.slice p2 L k2);have Ka:=(hbw2.aB dc).bq (b:=w.heap.size+1+1) ae (.bool (s && decide (0<L))) (.slice p2 L k2);clear mV E3 F3;go_wp2
   generalize (w3.setCell ⟨w.heap.size+1+1,0,none⟩ (.bool (s && decide (0<L)))).setCell ⟨w.heap.size+1+1,1,none⟩ (.slice p2 L k2)=w4 at*;obtain⟨d1,d2,_,_⟩:=G3.two;refine bodyPost_ret (v:=.agg #[.bool (s && decide (0<L)),.slice p2 L k2]) (by simp[results,Tryz.results107,go_sem,d1,d2]) aa (bh.out _ _ ⟨_,aa,?_,Ka⟩);refine aw.of (m:=X.natAbs-Y.natAbs) (by rw[HL.out];exact KF.out) HL.out.symm _ ?_;rw[HX.out,HY.out];have:=HLT.out;cases s <;> cases t <;> simp at hst ⊢ <;> omega
end
section
open Go.RowKit
theorem fR {w w':World} (h:ax w w':=by (with_reducible (repeat (first|assumption|exact ax.refl _|refine ax.drew ?_|refine ax.drewN ?_ _|refine ax.alloc ?_ _|refine ax.aB ?_ (by assumption)|refine ax.setCell ?_ (by first|omega|(simp;done)|(simp;omega)) _)))):ax w w':=h
theorem CG (v u:Value) (X Y:Int) (j k:Nat) (w:World) (hv:bP w v X j) (hu:bP w u Y k) (hj:j<=1073741824) (hk:k<=1073741824):
  Calls Tryz.prog 103 #[v,u] w λe w'=>∃ r,e=.returned r/\aw w' w.heap.size r (X+Y)/\ax w w':=by
 obtain⟨s,p,n,c,rfl⟩:=hv.form;obtain⟨t,q,m,d,rfl⟩:=hu.form;refine aE λR' bh=> ?_;obtain⟨b1,b2,b3,lU⟩:=mg w 33 33 33 #[.bool s,.slice p n c] #[.bool t,.slice q m d] #[.bool false,.slice none 0 0];have sn:=hv.len;have mY:=hu.len;have HV:=ab hv;have HU:=ab hu;have hsz:w.heap.size+3<=(((w.alloc (.cells #[.bool s,.slice p n c] 33)).alloc (.cells #[.bool t,.slice q m d] 33)).alloc (.cells #[.bool false,.slice none 0 0] 33)).heap.size:=bc;clear hv hu;go_enter Tryz.func103,Tryz.ntmps103
 go_wp2_with fail
 generalize ((w.alloc _).alloc _).alloc _=W at*;have HS:=ab (λw' (h:ao W (w.heap.size+1+1) w')=>And.intro (h.cells b1 ae) (h.cells b2 ae));obtain⟨c1,c2,_,_⟩:=b1.two;obtain⟨c3,c4,_,_⟩:=b2.two;obtain⟨c5,c6,f5,f6⟩:=b3.two
 go_region_held3 (λw'=>(w'.cell? ⟨w.heap.size,0,none⟩=some (.bool s)/\w'.cell? ⟨w.heap.size,1,none⟩=some (.slice p n c))/\w'.cell? ⟨w.heap.size+1,0,none⟩=some (.bool t)/\w'.cell? ⟨w.heap.size+1,1,none⟩=some (.slice q m d)) ((refine HS.out _ ?_;(with_reducible (repeat (first|exact ao.refl _ _|refine ao.drew ?_|refine ao.drewN ?_ _|refine ao.alloc ?_ _|refine ao.set ?_ _|refine ao.aB ?_ (by assumption)|refine ao.nJ ?_ (by first|omega|(simp;done)|(simp;omega)) _))))) (first
  | (go_at_call_of 96 (Value.slice p n c);refine (fy _ X j w _ HV.out fR).mono ?_;rintro e w1 ⟨u1,rfl,AO,bS⟩)
  | (go_at_call_of 96 (Value.slice q m d);refine (fy _ Y k w _ HU.out fR).mono ?_;rintro e w2 ⟨u2,rfl,AP,bO⟩)
  | (go_at_call 107;refine (CF _ _ X Y _ (AO.aD fR) (AP.aD fR) (bA sn hj) (bA mY hk)).mono ?_;rintro e w3 ⟨r,rfl,ay,dc⟩;obtain⟨sg,pp,nn,cc,rfl⟩:=ay.form;obtain⟨e5,e6,g5,g6⟩:=(aI.aD (w':=w3) b3 fR).two)
  | fail)
 have FC:=(aI.aD (w':=w3) b3 fR);have FB:ax w w3:=fR;have FZ:ax w w2:=fR;have HO:=ab (ay.bq FC dh (.bool sg) (.slice pp nn cc));clear ay;have CH:=FC.bq (.bool (sg)) (.slice pp (nn) cc);have CI:=ax.bq FB (b:=w.heap.size+1+1) ae (.bool (sg)) (.slice pp (nn) cc);go_wp2
 generalize (w3.setCell ⟨w.heap.size+1+1,0,none⟩ (.bool (sg))).setCell ⟨w.heap.size+1+1,1,none⟩ (.slice pp (nn) cc)=wz at*;obtain⟨CJ,CK,_,_⟩:=CH.two;refine bodyPost_ret (v:=.agg #[.bool (sg),.slice pp (nn) cc]) (by simp[results,Tryz.results103,go_sem,CJ,CK]) aa (bh.out _ _ ?_);exact⟨_,aa,HO.out.mono FZ.size,CI⟩
theorem LD (v u:Value) (X Y:Int) (j k:Nat) (w:World) (hv:bP w v X j) (hu:bP w u Y k) (hj:j<=1073741824) (hk:k<=1073741824):
  Calls Tryz.prog 97 #[v,u] w λe w'=>∃ r,e=.returned r/\aw w' w.heap.size r (X-Y)/\ax w w':=by
 obtain⟨s,p,n,c,rfl⟩:=hv.form;obtain⟨t,q,m,d,rfl⟩:=hu.form;refine aE λR' bh=> ?_;obtain⟨b1,b2,b3,lU⟩:=mg w 33 33 33 #[.bool s,.slice p n c] #[.bool t,.slice q m d] #[.bool false,.slice none 0 0];have sn:=hv.len;have mY:=hu.len;have HV:=ab hv;have HU:=ab hu;have hsz:w.heap.size+3<=(((w.alloc (.cells #[.bool s,.slice p n c] 33)).alloc (.cells #[.bool t,.slice q m d] 33)).alloc (.cells #[.bool false,.slice none 0 0] 33)).heap.size:=bc;clear hv hu;go_enter Tryz.func97,Tryz.ntmps97
 go_wp2_with fail
 generalize ((w.alloc _).alloc _).alloc _=W at*;have HS:=ab (λw' (h:ao W (w.heap.size+1+1) w')=>And.intro (h.cells b1 ae) (h.cells b2 ae));obtain⟨c1,c2,_,_⟩:=b1.two;obtain⟨c3,c4,_,_⟩:=b2.two;obtain⟨c5,c6,f5,f6⟩:=b3.two
 go_region_held3 (λw'=>(w'.cell? ⟨w.heap.size,0,none⟩=some (.bool s)/\w'.cell? ⟨w.heap.size,1,none⟩=some (.slice p n c))/\w'.cell? ⟨w.heap.size+1,0,none⟩=some (.bool t)/\w'.cell? ⟨w.heap.size+1,1,none⟩=some (.slice q m d)) ((refine HS.out _ ?_;(with_reducible (repeat (first|exact ao.refl _ _|refine ao.drew ?_|refine ao.drewN ?_ _|refine ao.alloc ?_ _|refine ao.set ?_ _|refine ao.aB ?_ (by assumption)|refine ao.nJ ?_ (by first|omega|(simp;done)|(simp;omega)) _))))) (first
  | (go_at_call_of 96 (Value.slice p n c);refine (fy _ X j w _ HV.out fR).mono ?_;rintro e w1 ⟨u1,rfl,AO,bS⟩)
  | (go_at_call_of 96 (Value.slice q m d);refine (fy _ Y k w _ HU.out fR).mono ?_;rintro e w2 ⟨u2,rfl,AP,bO⟩)
  | (go_at_call 108;refine (wL _ Y _ (AP.aD fR)).mono ?_;rintro e w4 ⟨u4,rfl,hu4,fv⟩)
  | (go_at_call 107;refine (CF _ _ X (-Y) _ (AO.aD fR) (hu4.aD fR) (bA sn hj) (by rw[Int.natAbs_neg];exact bA mY hk)).mono ?_;rintro e w3 ⟨r,rfl,ay,dc⟩;obtain⟨sg,pp,nn,cc,rfl⟩:=ay.form;obtain⟨e5,e6,g5,g6⟩:=(aI.aD (w':=w3) b3 fR).two)
  | fail)
 rw[<-Int.sub_eq_add_neg] at ay;have FC:=(aI.aD (w':=w3) b3 fR);have FB:ax w w3:=fR;have FZ:ax w w4:=fR;have HO:=ab (ay.bq FC dh (.bool sg) (.slice pp nn cc));clear ay;have CH:=FC.bq (.bool (sg)) (.slice pp (nn) cc);have CI:=ax.bq FB (b:=w.heap.size+1+1) ae (.bool (sg)) (.slice pp (nn) cc);go_wp2
 generalize (w3.setCell ⟨w.heap.size+1+1,0,none⟩ (.bool (sg))).setCell ⟨w.heap.size+1+1,1,none⟩ (.slice pp (nn) cc)=wz at*;obtain⟨CJ,CK,_,_⟩:=CH.two;refine bodyPost_ret (v:=.agg #[.bool (sg),.slice pp (nn) cc]) (by simp[results,Tryz.results97,go_sem,CJ,CK]) aa (bh.out _ _ ?_);exact⟨_,aa,HO.out.mono FZ.size,CI⟩
def GX (w W wc:World) (T:TypeId) (X Y:Int) (x y:Value):Prop:=∃ g h s1 p1 n1 k1 s2 p2 n2 k2,x=.pointer (some ⟨g,0,none⟩)/\y=.pointer (some ⟨h,0,none⟩)/\aI wc g T #[.bool s1,.slice p1 n1 k1]/\aI wc h T #[.bool s2,.slice p2 n2 k2]/\
 bK w (.agg #[.bool s1,.slice p1 n1 k1]) X/\bK w (.agg #[.bool s2,.slice p2 n2 k2]) Y/\ax W wc
theorem nY (v u:Value) (X Y:Int) (j k:Nat) (w:World) (hv:bP w v X j) (hu:bP w u Y k) (hj:j<=536870912) (hk:k<=536870912):
  Calls Tryz.prog 84 #[v,u] w λe w'=>∃ r,e=.returned r/\aw w' w.heap.size r (X*Y)/\ax w w':=by
 obtain⟨s,p,n,c,rfl⟩:=hv.form;obtain⟨t,q,m,d,rfl⟩:=hu.form;refine aE λR' bh=> ?_;obtain⟨b1,b2,b3,lU⟩:=mg w 33 33 33 #[.bool s,.slice p n c] #[.bool t,.slice q m d] #[.bool false,.slice none 0 0];have sn:=hv.len;have mY:=hu.len;have HV:=ab hv;have HU:=ab hu;have hsz:w.heap.size+3<=(((w.alloc (.cells #[.bool s,.slice p n c] 33)).alloc (.cells #[.bool t,.slice q m d] 33)).alloc (.cells #[.bool false,.slice none 0 0] 33)).heap.size:=bc;clear hv hu;go_enter yp,Tryz.ntmps84
 go_wp2_with fail
 generalize ((w.alloc _).alloc _).alloc _=W at*;have HS:=ab (λw' (h:ao W (w.heap.size+1+1) w')=>And.intro (h.cells b1 ae) (h.cells b2 ae));obtain⟨c1,c2,_,_⟩:=b1.two;obtain⟨c3,c4,_,_⟩:=b2.two;obtain⟨c5,c6,f5,f6⟩:=b3.two;go_cut [5,6] (λx5 x6 wc=>GX w W wc 146 X Y x5 x6)
 case first=>
  go_region_held3 (λw'=>(w'.cell? ⟨w.heap.size,0,none⟩=some (.bool s)/\w'.cell? ⟨w.heap.size,1,none⟩=some (.slice p n c))/\w'.cell? ⟨w.heap.size+1,0,none⟩=some (.bool t)/\w'.cell? ⟨w.heap.size+1,1,none⟩=some (.slice q m d)) ((refine HS.out _ ?_;(with_reducible (repeat (first|exact ao.refl _ _|refine ao.drew ?_|refine ao.drewN ?_ _|refine ao.alloc ?_ _|refine ao.set ?_ _|refine ao.aB ?_ (by assumption)|refine ao.nJ ?_ (by first|omega|(simp;done)|(simp;omega)) _))))) (first
   | (go_at_call_of 96 (Value.slice p n c);refine (fy _ X j w _ HV.out fR).mono ?_;rintro e w1 ⟨u1,rfl,AO,bS⟩;obtain⟨s1,p1,n1,k1,rfl⟩:=AO.gH;have IX:=bS.size;(try simp at IX);(try (have q1:=aI.aD (aI.drew (aI.new _ _ #[_,_])) bS;(try simp at q1);obtain⟨q1a,q1b,q1c,q1d⟩:=q1.two;have q1l:=q1.lt;have q1n:=jU q1l;have q1m:=jV q1l));(try (have q2:=aI.aD (aI.drew (aI.alloc (aI.new _ _ #[_,_]) _)) bS;(try simp at q2);obtain⟨q2a,q2b,q2c,q2d⟩:=q2.two;have q2l:=q2.lt;have q2n:=jU q2l;have q2m:=jV q2l)))
   | (go_at_call_of 96 (Value.slice q m d);refine (fy _ Y k w _ HU.out fR).mono ?_;rintro e w2 ⟨u2,rfl,AP,bO⟩;obtain⟨s2,p2,n2,k2,rfl⟩:=AP.gH;have hs2:=bO.size;(try simp at hs2);(try (have q3:=aI.aD (aI.new _ _ #[_,_]) bO;(try simp at q3);obtain⟨q3a,q3b,q3c,q3d⟩:=q3.two;have q3l:=q3.lt;have q3n:=jU q3l;have q3m:=jV q3l));(try (have q4:=aI.aD (aI.alloc (aI.new _ _ #[_,_]) _) bO;(try simp at q4);obtain⟨q4a,q4b,q4c,q4d⟩:=q4.two;have q4l:=q4.lt;have q4n:=jU q4l;have q4m:=jV q4l));(try (have q5:=aI.aD q1 bO;(try simp at q5);obtain⟨q5a,q5b,q5c,q5d⟩:=q5.two;have q5l:=q5.lt;have q5n:=jU q5l;have q5m:=jV q5l));(try (have q6:=aI.aD q2 bO;(try simp at q6);obtain⟨q6a,q6b,q6c,q6d⟩:=q6.two;have q6l:=q6.lt;have q6n:=jU q6l;have q6m:=jV q6l));(try (have q7:=aI.aD (aI.alloc q1 _) bO;(try simp at q7);obtain⟨q7a,q7b,q7c,q7d⟩:=q7.two;have q7l:=q7.lt;have q7n:=jU q7l;have q7m:=jV q7l)))
   | fail)
  all_goals
   go_wp2
   go_meet
   refine⟨_,_,s1,p1,n1,k1,s2,p2,n2,k2,aa,aa,?_,?_,AO,AP,?_⟩
   ·(with_reducible (repeat (first|assumption|exact aI.newAt (by first|rfl|(simp;done)) _ _|refine aI.alloc ?_ _|refine aI.drew ?_|refine aI.bq (u:=.bool false) (v:=.slice none 0 0) ?_ _ _|refine aI.cX ?_ (by first|omega|(simp;omega)) _ _|refine aI.aD ?_ (by assumption))))
   ·(with_reducible (repeat (first|assumption|exact aI.newAt (by first|rfl|(simp;done)) _ _|refine aI.alloc ?_ _|refine aI.drew ?_|refine aI.bq (u:=.bool false) (v:=.slice none 0 0) ?_ _ _|refine aI.cX ?_ (by first|omega|(simp;omega)) _ _|refine aI.aD ?_ (by assumption))))
   ·exact fR
 case rest=>
  obtain⟨g,h,s1,p1,n1,k1,s2,p2,n2,k2,rfl,rfl,B5,B6,AO,AP,GY⟩:=hcut;obtain⟨hn1,sx,hX⟩:=AO.parts;obtain⟨xS,vQ,hY⟩:=AP.parts;have B3:=b3.aD GY;have ni:ax w wc:=lU.aB GY;have HR1:=ab (sx.below ni);have HR2:=ab (vQ.below ni);have HN1:=ab hn1;have HN2:=ab xS;have HX:=ab hX;have HY:=ab hY;have hm1:n1<=536870912:=ae;have hm2:n2<=536870912:=ae;clear c1 c2 c3 c4 c5 c6 f5 f6 b1 b2 b3 GY lU AO AP sx vQ hX hY hn1 xS HS;obtain⟨c1,c2,_,_⟩:=B5.two;obtain⟨c3,c4,_,_⟩:=B6.two;obtain⟨c5,c6,f5,f6⟩:=B3.two;have hg:g≠w.heap.size+1+1:=λe=>by subst e;have:=(show wc.heap[_]? =_ from B5).symm.trans B3;simp at this
  have hh:h≠w.heap.size+1+1:=λe=>by subst e;have:=(show wc.heap[_]? =_ from B6).symm.trans B3;simp at this
  have HS:=ab (λw' (hk:ao wc (w.heap.size+1+1) w')=>And.intro (hk.cells B5 hg) (hk.cells B6 hh));go_wp2_with fail
  go_region_held3 (λw'=>(w'.cell? ⟨g,0,none⟩=some (.bool s1)/\w'.cell? ⟨g,1,none⟩=some (.slice p1 n1 k1))/\w'.cell? ⟨h,0,none⟩=some (.bool s2)/\w'.cell? ⟨h,1,none⟩=some (.slice p2 n2 k2)) ((refine HS.out _ ?_;(with_reducible (repeat (first|exact ao.refl _ _|refine ao.drew ?_|refine ao.drewN ?_ _|refine ao.alloc ?_ _|refine ao.set ?_ _|refine ao.aB ?_ (by assumption)|refine ao.nJ ?_ (by first|omega|(simp;done)|(simp;omega)) _))))) (first
   | (go_at_call 100;refine (KL _ _ n1 n2 _ _ _ (HR1.out.below (ax.refl wc).drew) (HR2.out.below (ax.refl wc).drew) (ak _) (ak _) hm1 hm2).mono ?_;rintro e w1 ⟨v1,rfl,sX,bS⟩;replace bS:ax _ w1:=bS;rw[ah,ah] at sX;obtain⟨q1,l1,rfl,_,_,_⟩:=Own.form sX)
   | (go_at_call 98;refine (eD _ _ _ _ _).mono ?_;rintro e w3 ⟨sg,rfl,AQ,dc⟩;obtain⟨e5,e6,g5,g6⟩:=(aI.aD (w':=w3) B3 fR).two)
   | fail)
  have FC:=(aI.aD (w':=w3) B3 fR);have FB:ax w w3:=fR;generalize hL:(limbs (X.natAbs*Y.natAbs)).length=L at*;have HL:=ab hL;have HO:=ab (Own.bq (Own.below sX dc) FC dh (.bool sg) (.slice q1 L l1));clear sX hL;have CH:=FC.bq (.bool (sg)) (.slice q1 (L) l1);have CI:=ax.bq FB (b:=w.heap.size+1+1) ae (.bool (sg)) (.slice q1 (L) l1);go_wp2
  generalize (w3.setCell ⟨w.heap.size+1+1,0,none⟩ (.bool (sg))).setCell ⟨w.heap.size+1+1,1,none⟩ (.slice q1 (L) l1)=wz at*;obtain⟨CJ,CK,_,_⟩:=CH.two;refine bodyPost_ret (v:=.agg #[.bool (sg),.slice q1 (L) l1]) (by simp[results,Tryz.results84,go_sem,CJ,CK]) aa (bh.out _ _ ?_);rw[AQ.out];refine⟨_,aa,aw.of (m:=X.natAbs*Y.natAbs) (by rw[HL.out];exact Own.mono HO.out ni.size) HL.out.symm _ ?_,CI⟩;rw[HX.out,HY.out];cases s1 <;> cases s2 <;> simp[Int.neg_mul,Int.mul_neg]
end
section
open Go.RowKit
theorem zb (s:Bool) (p:Option Addr) (n c:Nat) (w:World):(Instr.field 146 (.agg #[.bool s,.slice p n c]) 0).run Tryz.prog w=.ok (.agg #[.bool s,.slice p n c]) w:=by kernel_rfl
theorem zc (s:Bool) (p:Option Addr) (n c:Nat) (w:World):(Instr.field 33 (.agg #[.bool s,.slice p n c]) 1).run Tryz.prog w=.ok (.slice p n c) w:=by kernel_rfl
theorem LF (v:Value) (X:Int) (j:Nat) (w:World) (hv:bP w v X j) (hj:j<=1073741824):
  Calls Tryz.prog 112 #[v] w λe w'=>∃ r,e=.returned r/\aw w' w.heap.size r (-X)/\ax w w':=by
 obtain⟨s,p,n,c,rfl⟩:=hv.form;refine aE λR' bh=> ?_;obtain⟨b1,b2,lU⟩:=mf w 33 33 #[.bool s,.slice p n c] #[.bool false,.slice none 0 0];have sn:=hv.len;have HV:=ab hv;have hsz:w.heap.size+2<=((w.alloc (.cells #[.bool s,.slice p n c] 33)).alloc (.cells #[.bool false,.slice none 0 0] 33)).heap.size:=bc;clear hv;go_enter Tryz.func112,Tryz.ntmps112
 go_wp2_with fail
 generalize (w.alloc _).alloc _=W at*;refine (fy _ X j w _ HV.out fR).mono ?_;rintro e w1 ⟨v1,rfl,mW,bS⟩;go_wp2_with fail
 refine (wL _ X _ (mW.aD fR)).mono ?_;rintro e w2 ⟨v2,rfl,Cz,bO⟩;obtain⟨s2,p2,n2,k2,rfl⟩:=Cz.gH;obtain⟨xS,vQ,_⟩:=Cz.parts;have hm2:n2<=1073741824:=by rw[xS,Int.natAbs_neg];omega
 have HN2:=ab xS;have HI2:=ab Cz;have HR2:=ab vQ;clear Cz xS vQ mW;go_wp2_with fail
 have B5:=aI.new w2 146 #[.bool s2,.slice p2 n2 k2];have hbT:ax w2 (w2.alloc (.cells #[.bool s2,.slice p2 n2 k2] 146)):=(ax.refl w2).alloc _;have B2:=((b2.aD bS).aD bO).aD hbT;have hlt:=b2.lt;have pV:=bS.size;have wM:=bO.size;have hne:w2.heap.size≠w.heap.size+1:=ae;generalize w2.alloc _=T at*;have HS:=ab (λw' (hk:ao T (w.heap.size+1) w')=>hk.cells B5 hne);obtain⟨c1,c2,_,_⟩:=B5.two;obtain⟨c5,c6,f5,f6⟩:=B2.two
 go_region_held3 (λw'=>w'.cell? ⟨w2.heap.size,0,none⟩=some (.bool s2)/\w'.cell? ⟨w2.heap.size,1,none⟩=some (.slice p2 n2 k2)) ((refine HS.out _ ?_;(with_reducible (repeat (first|exact ao.refl _ _|refine ao.drew ?_|refine ao.drewN ?_ _|refine ao.alloc ?_ _|refine ao.set ?_ _|refine ao.aB ?_ (by assumption)|refine ao.nJ ?_ (by first|omega|(simp;done)|(simp;omega)) _))))) (first
  | (go_at_call 110;refine (iZ _ n2 _ _ (Rd.below (HR2.out.below hbT) (ax.refl T).drew) hm2).mono ?_;rintro e w3 ⟨v3,rfl,LC,dc⟩;replace dc:ax _ w3:=dc;obtain⟨q3,l3,rfl,_,_,_⟩:=Own.form LC;obtain⟨e5,e6,g5,g6⟩:=(aI.aD (w':=w3) B2 fR).two)
  | fail)
 have FC:=(aI.aD (w':=w3) B2 fR);have FB:ax w w3:=fR;have FT:ax w T:=fR;have HO:=ab (Own.bq LC FC dh (.bool s2) (.slice q3 n2 l3));clear LC;have CH:=FC.bq (.bool (s2)) (.slice q3 (n2) l3);have CI:=ax.bq FB (b:=w.heap.size+1) ae (.bool (s2)) (.slice q3 (n2) l3);go_wp2
 generalize (w3.setCell ⟨w.heap.size+1,0,none⟩ (.bool (s2))).setCell ⟨w.heap.size+1,1,none⟩ (.slice q3 (n2) l3)=wz at*;obtain⟨CJ,CK,_,_⟩:=CH.two;refine bodyPost_ret (v:=.agg #[.bool (s2),.slice q3 (n2) l3]) (by simp[results,Tryz.results112,go_sem,CJ,CK]) aa (bh.out _ _ ?_);exact⟨_,aa,HI2.out.own (Own.mono HO.out FT.size),CI⟩
theorem oL (v:Value) (X:Int) (j:Nat) (w:World) (hv:bP w v X j):
  Calls Tryz.prog 79 #[v] w λe w'=>e=.returned (.int .i64 X.sign)/\ax w w':=by
 obtain⟨s,p,n,c,rfl⟩:=hv.form;refine aE λR' bh=> ?_;have HV:=ab hv;have lU:=(ax.refl w).alloc (.cells #[.bool s,.slice p n c] 33);clear hv;go_enter Tryz.func79,Tryz.ntmps79
 go_wp2_with fail
 generalize w.alloc _=W at*;refine (fy _ X j w _ HV.out fR).mono ?_;rintro e w1 ⟨v1,rfl,mW,bS⟩;obtain⟨s2,p2,n2,k2,rfl⟩:=mW.gH;obtain⟨xS,_,hX⟩:=mW.parts;have ni:ax w w1:=lU.aB bS;have AQ:=mW.sgn;clear mW;cases s2
 ·by_cases h0:X=0
  ·subst h0;have:n2=0:=by rw[xS];simp[bk]
   subst this;clear xS hX AQ;go_wp2
   exact bh.out _ _ ⟨aa,ni.alloc _⟩
  ·have hp:0<n2:=by rw[xS];exact cL ae
   have hs:X.sign=1:=er (by simp at hX;omega);rw[hs] at bh;clear xS hX AQ;have hpi:(0:Int)<(n2:Int):=ae;go_wp2
   exact bh.out _ _ ⟨aa,ni.alloc _⟩
 ·have hs:X.sign= -1:=sign_neg (cS AQ.symm);rw[hs] at bh;clear xS hX AQ;go_wp2
  exact bh.out _ _ ⟨aa,ni.alloc _⟩
theorem wQ (v u:Value) (X Y:Int) (j k:Nat) (w:World) (hv:bP w v X j) (hu:bP w u Y k) (hj:j<=1073741824) (hk:k<=1073741824):
  Calls Tryz.prog 80 #[v,u] w λe w'=>e=.returned (.int .i64 (X-Y).sign)/\ax w w':=by
 obtain⟨s,p,n,c,rfl⟩:=hv.form;obtain⟨t,q,m,d,rfl⟩:=hu.form;refine aE λR' bh=> ?_;obtain⟨b1,b2,lU⟩:=mf w 33 33 #[.bool s,.slice p n c] #[.bool t,.slice q m d];have HV:=ab (hv.aD lU);have HU:=ab (hu.aD lU);clear hv hu;go_enter Tryz.func80,Tryz.ntmps80
 go_wp2_with fail
 generalize (w.alloc _).alloc _=W at*;refine (LD _ _ X Y j k _ HV.out HU.out hj hk).mono ?_;rintro e w1 ⟨r,rfl,ho,bS⟩;go_wp2_with fail
 refine (oL _ (X-Y) _ _ (ho.rd.to (aM _))).mono ?_;rintro e w2 ⟨rfl,bO⟩;go_wp2
 exact bh.out _ _ ⟨aa,(lU.aB bS).aB bO⟩
theorem u64neg {n:Int} (h0:n<0) (h1: -9223372036854775808<=n):IntKind.u64.wrap (-(IntKind.u64.wrap n))=(n.natAbs:Int):=by
 rw[rf,rf];omega
theorem u64pos {n:Int} (h0:0<=n) (h1:n<=9223372036854775807):IntKind.u64.wrap n=(n.natAbs:Int):=by
 rw[rf];omega
theorem uf {a:Nat}:ag [a%4294967296,a/4294967296]=a:=by
 rw[ez,ez,dz];omega
set_option maxRecDepth 100000 in
theorem GZ (n:Int) (w:World) (h0: -9223372036854775808<=n) (h1:n<=9223372036854775807):
  Calls Tryz.prog 85 #[.int .i64 n] w λe w'=>∃ r,e=.returned r/\aw w' w.heap.size r n/\ax w w':=by
 refine aE λR' bh=> ?_;obtain⟨a,ha⟩:∃ a,a=n.natAbs:=⟨_,aa⟩;have HA:=ab ha;have ha2:a<18446744073709551616:=ae;have oC:=aI.new w 33 #[.bool false,.slice none 0 0];have lU:=(ax.refl w).alloc (.cells #[.bool false,.slice none 0 0] 33);have hRl:=Rd.lit2 (w:=w.alloc (.cells #[.bool false,.slice none 0 0] 33)) (k:=.u32) (e:=122) (x:=(a:Int)%4294967296) (y:=(a:Int)/4294967296) (a:=a%4294967296) (b:=a/4294967296) ae ae;rw[World.size_alloc] at hRl;go_enter Tryz.func85,Tryz.ntmps85
 by_cases hn:n<0
 ·have e1:=u64neg hn h0;rw[<-ha] at e1;have HN:=ab hn;clear ha;go_wp2_with fail
  refine (ig _ 2 [a%4294967296,a/4294967296] _ hRl (bR.cons ae (bR.cons ae bR.nil)) ae).mono ?_;rintro e w1 ⟨v1,rfl,sX,bS⟩;replace bS:ax _ w1:=bS;rw[uf] at sX;obtain⟨p1,k1,rfl,_,_,_⟩:=Own.form sX;generalize hL:(limbs a).length=L at*;have HL:=ab hL;have FC1:=(oC.alloc (.cells #[.int .u32 ((a:Int)%4294967296),.int .u32 ((a:Int)/4294967296)] 122)).aD bS;have FB1:ax w w1:=(((ax.refl w).alloc _).alloc _).aB bS;have qH:=ab sX;clear sX hL bS;go_wp2_with fail
  refine (eD _ _ _ _ _).mono ?_;rintro e w3 ⟨sg,rfl,AQ,dc⟩;have FC:=FC1.aD dc;have FB:=FB1.aB dc;obtain⟨e5,e6,g5,g6⟩:=FC.two;have HO:=ab (Own.bq (Own.below qH.out dc) FC dh (.bool sg) (.slice p1 L k1));clear qH FC1;have CH:=FC.bq (.bool (sg)) (.slice p1 (L) k1);have CI:=ax.bq FB (b:=w.heap.size) ae (.bool (sg)) (.slice p1 (L) k1);go_wp2
  generalize (w3.setCell ⟨w.heap.size,0,none⟩ (.bool (sg))).setCell ⟨w.heap.size,1,none⟩ (.slice p1 (L) k1)=wz at*;obtain⟨CJ,CK,_,_⟩:=CH.two;refine bodyPost_ret (v:=.agg #[.bool (sg),.slice p1 (L) k1]) (by simp[results,Tryz.results85,go_sem,CJ,CK]) aa (bh.out _ _ ?_);rw[AQ.out];refine⟨_,aa,aw.of (m:=a) (by rw[HL.out];exact Own.mono HO.out (by simp;omega)) HL.out.symm _ ?_,CI⟩;have:=HN.out;have:=HA.out;simp;omega
 ·have e1:=u64pos (by omega:0<=n) h1;rw[<-ha] at e1;have HN:=ab hn;clear ha;go_wp2_with fail
  refine (ig _ 2 [a%4294967296,a/4294967296] _ hRl (bR.cons ae (bR.cons ae bR.nil)) ae).mono ?_;rintro e w1 ⟨v1,rfl,sX,bS⟩;replace bS:ax _ w1:=bS;rw[uf] at sX;obtain⟨p1,k1,rfl,_,_,_⟩:=Own.form sX;generalize hL:(limbs a).length=L at*;have HL:=ab hL;have FC1:=(oC.alloc (.cells #[.int .u32 ((a:Int)%4294967296),.int .u32 ((a:Int)/4294967296)] 122)).aD bS;have FB1:ax w w1:=(((ax.refl w).alloc _).alloc _).aB bS;have qH:=ab sX;clear sX hL bS;go_wp2_with fail
  refine (eD _ _ _ _ _).mono ?_;rintro e w3 ⟨sg,rfl,AQ,dc⟩;have FC:=FC1.aD dc;have FB:=FB1.aB dc;obtain⟨e5,e6,g5,g6⟩:=FC.two;have HO:=ab (Own.bq (Own.below qH.out dc) FC dh (.bool sg) (.slice p1 L k1));clear qH FC1;have CH:=FC.bq (.bool (sg)) (.slice p1 (L) k1);have CI:=ax.bq FB (b:=w.heap.size) ae (.bool (sg)) (.slice p1 (L) k1);go_wp2
  generalize (w3.setCell ⟨w.heap.size,0,none⟩ (.bool (sg))).setCell ⟨w.heap.size,1,none⟩ (.slice p1 (L) k1)=wz at*;obtain⟨CJ,CK,_,_⟩:=CH.two;refine bodyPost_ret (v:=.agg #[.bool (sg),.slice p1 (L) k1]) (by simp[results,Tryz.results85,go_sem,CJ,CK]) aa (bh.out _ _ ?_);rw[AQ.out];refine⟨_,aa,aw.of (m:=a) (by rw[HL.out];exact Own.mono HO.out (by simp;omega)) HL.out.symm _ ?_,CI⟩;have:=HN.out;have:=HA.out;simp;omega
end
section
open Go.RowKit
def qm (rows:List (List Nat)):Nat:=rows.foldl (λa r=>Nat.gcd a (ag r)) 0
theorem Jd (rows:List (List Nat)) (r:List Nat):qm (rows++[r])=Nat.gcd (qm rows) (ag r):=by simp[qm,List.foldl_append]
theorem LG {x y:Nat}:Nat.gcd y (x%y)=Nat.gcd x y:=by rw[Nat.gcd_comm,<-Nat.gcd_rec,Nat.gcd_comm]
def GcdOut (w:World) (B:Nat) (rows:List (List Nat)) (g:Nat) (av iv:Value) (wr:World):Prop:=
 ∃ k,k<=rows.length/\g=rows.length-k/\iv=.int .i64 (k:Int)/\wr.ownsRow B 122 1 av (limbs (qm (rows.take k))).length (ints .u32 (limbs (qm (rows.take k))))/\(limbs (qm (rows.take k))).length<=536870912/\Below B w wr
def GcdIn (w:World) (B G:Nat) (g:Nat) (av bv:Value) (wr:World):Prop:=
 ∃ x,Nat.gcd x g=G/\wr.ownsRow B 122 1 av (limbs x).length (ints .u32 (limbs x))/\wr.ownsRow B 122 1 bv (limbs g).length (ints .u32 (limbs g))/\(limbs x).length<=536870912/\(limbs g).length<=536870912/\Below B w wr
set_option maxRecDepth 100000 in
theorem LH (va:Value) (rows:List (List Nat)) (w:World) (hr:gf w va rows) (hx:∀ xs∈rows,bR xs/\xs.length<=536870912) (hn:rows.length<=1048576):
  Calls Tryz.prog 99 #[va] w λe w'=>∃ v',e=.returned v'/\w'.ownsRow w.heap.size 122 1 v' (limbs (qm rows)).length (ints .u32 (limbs (qm rows)))/\Below w.heap.size w w':=by
 obtain⟨p,c,rfl,iD,fO⟩:=hr.form;have Hr:=ab hr;have HL:=ab hx;obtain⟨B,hB⟩:∃ B,B=w.heap.size:=⟨_,aa⟩;have HB:=ab hB;obtain⟨N,hN⟩:∃ N,N=rows.length:=⟨_,aa⟩;rw[<-hN] at iD hn ⊢;have HN:=ab hN;rw[<-hB];clear hx hr hB hN;refine aE λR' bh=> ?_;go_enter Tryz.func99,Tryz.ntmps99
 go_wp2
 go_loopg [3,11] N (λg av iv wr=>GcdOut w B rows g av iv wr)
 case atStart=>exact⟨0,cD _,by rw[HN.out];rfl,rfl,by simp[qm,bk];exact jh _ _ _ _,by simp[qm,bk],dJ _ _⟩
 case round=>
  obtain⟨k,hk,hgk,rfl,ay,hlen,hb⟩:=hrel;have HO:=ab ay;have fx:=ab hb;have HGK:=ab hgk;have HLEN:=ab hlen;rw[<-HN.out] at hk;clear ay hb hgk hlen;by_cases tJ:k<N
  ·obtain⟨b1,o1,u,xs,rfl,fo,pU,JZ⟩:=((Hr.out.below (by have:=fx.out;rwa [HB.out] at this)).at (k:=k) (by rw[<-HN.out];exact tJ));have uM:=ab fo;have HRU:=ab JZ;clear fo JZ;have pV:B<=wr.heap.size:=by have:=fx.out.size;have:=HB.out;omega
   obtain⟨zP,yU⟩:=HL.out xs (dx uM.out);obtain⟨a,ha⟩:∃ a,a=qm (rows.take k):=⟨_,aa⟩;obtain⟨y,hy⟩:∃ y,y=ag xs:=⟨_,aa⟩;have ij:(limbs y).length<=536870912:=by rw[hy];exact bA (fY zP) yU
   have HL1:=ab zP;have HL2:=ab yU;have HYL:=ab ij;have HG:Hid (Nat.gcd a y=qm (rows.take (k+1))):=by show _=_;rw[bf uM.out,Jd,ha,hy]
   have HA:=ab ha;have HY:=ab hy;clear ha hy zP yU ij;go_wp2_with fail
   refine (ig _ _ xs _ HRU.out HL1.out (by have:=HL2.out;omega)).mono ?_;rintro e w2 ⟨v',rfl,js,bO⟩;rw[<-HY.out] at js;have sX:=Own.below HO.out bO;rw[<-HA.out] at sX;have qH:=ab sX;clear sX;have mV:=ab (Own.mono js pV);have tN:=ab (fx.out.trans (bO.mono pV));clear js bO pU;go_wp2_with fail
   go_loopg [3,5] y (λg av bv wr=>GcdIn w B (Nat.gcd a y) g av bv wr)
   case atStart=>exact⟨a,aa,qH.out,mV.out,by rw[HA.out];exact HLEN.out,HYL.out,tN.out⟩
   case round=>
    obtain⟨x,Gq,hox,hoy,sn,mY,ni⟩:=hrel;have HXY:=ab Gq;have HOX:=ab hox;have HOY:=ab hoy;have HLX:=ab sn;have HLY:=ab mY;have HBX:=ab ni;obtain⟨py,cy,rfl,_,_,_⟩:=Own.form hoy;clear Gq hox hoy sn mY ni;by_cases LI:gk=0
    ·subst LI;have hl0:(limbs 0).length=0:=by rw[bk];rfl
     rw[hl0];have hxg:x=qm (rows.take (k+1)):=by rw[<-HG.out,<-HXY.out,Nat.gcd_zero_right]
     have HXG:=ab hxg;clear hxg hl0;go_wp2_with fail
     go_roundg (N-(k+1))
     case measure=>have:=HGK.out;have:=HN.out;omega
     case rel=>exact⟨k+1,by rw[<-HN.out];omega,by rw[HN.out],by go_num,by rw[<-HXG.out];exact HOX.out,by rw[<-HXG.out];exact HLX.out,HBX.out⟩
    ·have hp:(0:Int)<((limbs gk).length:Int):=by have:=cL LI;omega
     have HG0:=ab LI;obtain⟨L,hL⟩:∃ L,L=(limbs gk).length:=⟨_,aa⟩;rw[<-hL] at hp ⊢;have HL:=ab hL;have hbx:B<=wr.heap.size:=by have:=HBX.out.size;have:=HB.out;omega
     clear LI hL;go_wp2_with fail
     refine (tM _ _ _ _ _ _ _ (Rd.own HOX.out) (by rw[HL.out];exact Rd.own HOY.out) (ak _) (ak _) HLX.out HLY.out).mono ?_;rintro e w3 ⟨⟨h,rfl⟩|⟨h,vq,vr,rfl,BM,vI⟩,dc⟩
     ·exact absurd (by rw[ah] at h;exact h) HG0.out
     rw[ah,ah] at vI;have hlt:x%gk<gk:=cM _ (Nat.pos_iff_ne_zero.2 HG0.out);have HLT:=ab hlt;have HOR:=ab (Own.mono vI hbx);have HOG:=ab (Own.below HOY.out dc);have Ka:=ab (HBX.out.trans (dc.mono hbx));clear BM vI dc h hlt;go_wp2_with fail
     go_roundg (x%gk)
     case measure=>exact HLT.out
     case rel=>exact⟨gk,by rw[LG];exact HXY.out,by rw[HL.out];exact HOG.out,HOR.out,HLY.out,bA (bX (Nat.le_of_lt HLT.out)) HLY.out,Ka.out⟩
  ·obtain rfl:k=N:=by omega
   go_wp2_with fail
   refine (iZ _ _ _ _ (Rd.own HO.out) (by have:=HLEN.out;omega)).mono ?_;rintro e w2 ⟨v',rfl,js,bO⟩;have pV:B<=wr.heap.size:=by have:=fx.out.size;have:=HB.out;omega
   go_wp2_with fail
   refine bh.out _ _ ⟨_,aa,?_,fx.out.trans (bO.mono pV)⟩;have:=Own.mono js pV
   rwa [du (by rw[HN.out];exact aM _)] at this
end
section
open Go.RowKit
theorem LJ (x y:Nat):qm [limbs x,limbs y]=Nat.gcd x y:=by simp[qm,ah]
set_option maxRecDepth 100000 in
theorem CL (v u:Value) (X Y:Int) (j k:Nat) (w:World) (hv:bP w v X j) (hu:bP w u Y k) (hj:j<=536870912) (hk:k<=536870912):
  Calls Tryz.prog 81 #[v,u] w λe w'=>∃ r,e=.returned r/\aw w' w.heap.size r (Int.gcd X Y:Int)/\ax w w':=by
 obtain⟨s,p,n,c,rfl⟩:=hv.form;obtain⟨t,q,m,d,rfl⟩:=hu.form;refine aE λR' bh=> ?_;obtain⟨b1,b2,b3,lU⟩:=mg w 33 33 33 #[.bool s,.slice p n c] #[.bool t,.slice q m d] #[.bool false,.slice none 0 0];have sn:=hv.len;have mY:=hu.len;have HJ:=ab (bA sn hj);have HK:=ab (bA mY hk);have HV:=ab hv;have HU:=ab hu;have hsz:w.heap.size+3<=(((w.alloc (.cells #[.bool s,.slice p n c] 33)).alloc (.cells #[.bool t,.slice q m d] 33)).alloc (.cells #[.bool false,.slice none 0 0] 33)).heap.size:=bc;clear hv hu hj hk sn mY;go_enter Tryz.func81,Tryz.ntmps81
 go_wp2_with fail
 generalize ((w.alloc _).alloc _).alloc _=W at*;have HS:=ab (λw' (h:ao W (w.heap.size+1+1) w')=>And.intro (h.cells b1 ae) (h.cells b2 ae));obtain⟨c1,c2,_,_⟩:=b1.two;obtain⟨c3,c4,_,_⟩:=b2.two;obtain⟨c5,c6,f5,f6⟩:=b3.two
 go_region_held3 (λw'=>(w'.cell? ⟨w.heap.size,0,none⟩=some (.bool s)/\w'.cell? ⟨w.heap.size,1,none⟩=some (.slice p n c))/\w'.cell? ⟨w.heap.size+1,0,none⟩=some (.bool t)/\w'.cell? ⟨w.heap.size+1,1,none⟩=some (.slice q m d)) ((refine HS.out _ ?_;(with_reducible (repeat (first|exact ao.refl _ _|refine ao.drew ?_|refine ao.drewN ?_ _|refine ao.alloc ?_ _|refine ao.set ?_ _|refine ao.aB ?_ (by assumption)|refine ao.nJ ?_ (by first|omega|(simp;done)|(simp;omega)) _))))) (first
  | (go_at_call_of 96 (Value.slice p n c);refine (fy _ X j w _ HV.out fR).mono ?_;rintro e w1 ⟨u1,rfl,AO,bS⟩;obtain⟨s1,p1,n1,k1,rfl⟩:=AO.gH;have hf1:=zb s1 p1 n1 k1;have hf2:=zc s1 p1 n1 k1)
  | (go_at_call_of 96 (Value.slice q m d);refine (fy _ Y k w _ HU.out fR).mono ?_;rintro e w2 ⟨u2,rfl,AP,bO⟩;obtain⟨s2,p2,n2,k2,rfl⟩:=AP.gH;have hf3:=zb s2 p2 n2 k2;have hf4:=zc s2 p2 n2 k2;have HP1:=ab AO.parts;have HP2:=ab AP.parts)
  | (go_at_call 99;refine (LH _ [limbs X.natAbs,limbs Y.natAbs] _ (gf.two (Gw aa) (by rw[<-HP1.out.1];exact HP1.out.2.1.below (by show ax _ _;exact fR)) (by rw[<-HP2.out.1];exact HP2.out.2.1.below (by show ax _ _;exact fR))) (λxs hx=>by rcases fj.1 hx with rfl|hx;exact⟨ak _,HJ.out⟩;obtain rfl:=aH.1 hx;exact⟨ak _,HK.out⟩) (by show 2<=1048576;omega)).mono ?_;rintro e w3 ⟨v3,rfl,LC,dc⟩;replace dc:ax _ w3:=dc;rw[LJ] at LC;obtain⟨p3,k3,rfl,_,_,_⟩:=Own.form LC)
  | (go_at_call 98;refine (eD _ _ _ _ _).mono ?_;rintro e w4 ⟨sg,rfl,AQ,fv⟩;obtain⟨e5,e6,g5,g6⟩:=(aI.aD (w':=w4) b3 fR).two)
  | fail)
 have FC:=(aI.aD (w':=w4) b3 fR);have FB:ax w w4:=fR;have FZ:ax w (w2.alloc (.cells #[.slice p1 n1 k1,.slice p2 n2 k2] 31)):=fR;generalize hL:(limbs (X.natAbs.gcd Y.natAbs)).length=L at*;have HL:=ab hL;have HO:=ab (Own.bq (Own.below LC fv) FC dh (.bool sg) (.slice p3 L k3));clear LC hL;have CH:=FC.bq (.bool (sg)) (.slice p3 (L) k3);have CI:=ax.bq FB (b:=w.heap.size+1+1) ae (.bool (sg)) (.slice p3 (L) k3);go_wp2
 generalize (w4.setCell ⟨w.heap.size+1+1,0,none⟩ (.bool (sg))).setCell ⟨w.heap.size+1+1,1,none⟩ (.slice p3 (L) k3)=wz at*;obtain⟨CJ,CK,_,_⟩:=CH.two;refine bodyPost_ret (v:=.agg #[.bool (sg),.slice p3 (L) k3]) (by simp[results,Tryz.results81,go_sem,CJ,CK]) aa (bh.out _ _ ?_);rw[AQ.out];refine⟨_,aa,aw.of (m:=X.natAbs.gcd Y.natAbs) (by rw[HL.out];exact Own.mono HO.out FZ.size) HL.out.symm _ ?_,CI⟩;simp[Int.gcd]
end
section
open Go.RowKit
theorem boxes4 (w:World) (t t' DR t3:TypeId) (cs gA oU cs3:Array Value):aI ((((w.alloc (.cells cs t)).alloc (.cells gA t')).alloc (.cells oU DR)).alloc (.cells cs3 t3)) w.heap.size t cs/\aI ((((w.alloc (.cells cs t)).alloc (.cells gA t')).alloc (.cells oU DR)).alloc (.cells cs3 t3)) (w.heap.size+1) t' gA/\
  aI ((((w.alloc (.cells cs t)).alloc (.cells gA t')).alloc (.cells oU DR)).alloc (.cells cs3 t3)) (w.heap.size+2) DR oU/\aI ((((w.alloc (.cells cs t)).alloc (.cells gA t')).alloc (.cells oU DR)).alloc (.cells cs3 t3)) (w.heap.size+3) t3 cs3/\
  ax w ((((w.alloc (.cells cs t)).alloc (.cells gA t')).alloc (.cells oU DR)).alloc (.cells cs3 t3)):=
 ⟨(mg w t t' DR cs gA oU).1.alloc _,(mg w t t' DR cs gA oU).2.1.alloc _,(mg w t t' DR cs gA oU).2.2.1.alloc _,aI.newAt bc _ _,(mg w t t' DR cs gA oU).2.2.2.alloc _⟩
def wR (w w':World) (X Y:Int) (e:Ending):Prop:=
 (Y=0/\∃ v u,e=.returned (.tuple #[v,u,.int .i64 20])/\aw w' w.heap.size v 0/\aw w' w.heap.size u 0)\/
 (Y≠0/\∃ v u,e=.returned (.tuple #[v,u,.int .i64 0])/\aw w' w.heap.size v (X.fdiv Y)/\aw w' w.heap.size u (X.fmod Y))
def LK (a b:Nat) (s t:Bool) (M R:Nat):Prop:=((s=t\/a%b=0)/\M=a/b/\R=a%b)\/(s≠t/\a%b≠0/\M=a/b+1/\R=b-a%b)
theorem oM {X Y:Int} {a b M R:Nat} {s t:Bool} (hX:X=if s=true then-(a:Int) else a) (hY:Y=if t=true then-(b:Int) else b) (hb:b≠0) (h:LK a b s t M R):
  X.fdiv Y=(if (!(s == t))=true then-(M:Int) else M)/\X.fmod Y=(if t=true then-(R:Int) else R):=by
 unfold LK at h;have e:=yl a b;have hlt:=cM a (Nat.pos_of_ne_zero hb);generalize a/b=q at*;generalize a%b=r at*;have e':(a:Int)=(b:Int)*(q:Int)+(r:Int):=by rw[<-e];simp
 rw[e'] at hX;have hR:R<=b:=by rcases h with ⟨_,_,rfl⟩|⟨_,_,_,rfl⟩ <;> omega
 cases t
 ·have hp:0<Y:=by simp at hY;omega
  refine (Int.fdiv_fmod_unique hp).2 ?_;rcases h with ⟨h1,rfl,rfl⟩|⟨h1,h2,rfl,rfl⟩
  ·cases s
   ·simp at hX hY ⊢;subst hX;subst hY;omega
   ·simp at h1 hX hY ⊢;subst hX;subst hY;subst h1;simp only[Int.mul_neg];omega
  ·cases s
   ·exact absurd aa h1
   ·simp at hX hY ⊢;subst hX;subst hY;rw[Int.natCast_sub ae];simp only[Int.mul_add,Int.mul_neg,Int.mul_one,Int.neg_add];omega
 ·have hp:Y<0:=by simp at hY;omega
  refine (Int.fdiv_fmod_unique' hp).2 ?_;rcases h with ⟨h1,rfl,rfl⟩|⟨h1,h2,rfl,rfl⟩
  ·cases s
   ·simp at h1 hX hY ⊢;subst hX;subst hY;subst h1;simp only[Int.neg_mul_neg];omega
   ·simp at hX hY ⊢;subst hX;subst hY;simp only[Int.neg_mul];omega
  ·cases s
   ·simp at hX hY ⊢;subst hX;subst hY;rw[Int.natCast_sub ae];simp only[Int.mul_add,Int.neg_mul,Int.mul_neg,Int.mul_one,Int.neg_add,Int.neg_neg];omega
   ·exact absurd aa h1
set_option maxRecDepth 100000 in
theorem ku (v u:Value) (X Y:Int) (j k:Nat) (w:World) (hv:bP w v X j) (hu:bP w u Y k) (hj:j<=536870912) (hk:k<=536870912):
  Calls Tryz.prog 113 #[v,u] w λe w'=>wR w w' X Y e/\ax w w':=by
 obtain⟨s,p,n,c,rfl⟩:=hv.form;obtain⟨t,q,m,d,rfl⟩:=hu.form;refine aE λR' bh=> ?_;obtain⟨b1,b2,b3,b4,lU⟩:=boxes4 w 33 33 33 33 #[.bool s,.slice p n c] #[.bool t,.slice q m d] #[.bool false,.slice none 0 0] #[.bool false,.slice none 0 0];have sn:=hv.len;have mY:=hu.len;have HJ:=ab (bA sn hj);have HK:=ab (bA mY hk);have HV:=ab hv;have HU:=ab hu;have hsz:w.heap.size+4<=((((w.alloc (.cells #[.bool s,.slice p n c] 33)).alloc (.cells #[.bool t,.slice q m d] 33)).alloc (.cells #[.bool false,.slice none 0 0] 33)).alloc (.cells #[.bool false,.slice none 0 0] 33)).heap.size:=bc;clear hv hu hj hk sn mY;go_enter Tryz.func113,Tryz.ntmps113
 go_wp2_with fail
 generalize (((w.alloc _).alloc _).alloc _).alloc _=W at*;go_cut [7,8] (λx5 x6 wc=>GX w W wc 146 X Y x5 x6)
 case first=>
  have HS:=ab (λw' (h:ao W (w.heap.size+1+1) w')=>And.intro (h.cells b1 ae) (h.cells b2 ae));obtain⟨c1,c2,_,_⟩:=b1.two;obtain⟨c3,c4,_,_⟩:=b2.two
  go_region_held3 (λw'=>(w'.cell? ⟨w.heap.size,0,none⟩=some (.bool s)/\w'.cell? ⟨w.heap.size,1,none⟩=some (.slice p n c))/\w'.cell? ⟨w.heap.size+1,0,none⟩=some (.bool t)/\w'.cell? ⟨w.heap.size+1,1,none⟩=some (.slice q m d)) ((refine HS.out _ ?_;(with_reducible (repeat (first|exact ao.refl _ _|refine ao.drew ?_|refine ao.drewN ?_ _|refine ao.alloc ?_ _|refine ao.set ?_ _|refine ao.aB ?_ (by assumption)|refine ao.nJ ?_ (by first|omega|(simp;done)|(simp;omega)) _))))) (first
   | (go_at_call_of 96 (Value.slice p n c);refine (fy _ X j w _ HV.out fR).mono ?_;rintro e w1 ⟨u1,rfl,AO,bS⟩;obtain⟨s1,p1,n1,k1,rfl⟩:=AO.gH;have IX:=bS.size;(try simp at IX);(try (have q1:=aI.aD (aI.drew (aI.new _ _ #[_,_])) bS;(try simp at q1);obtain⟨q1a,q1b,q1c,q1d⟩:=q1.two;have q1l:=q1.lt;have q1n:=jU q1l;have q1m:=jV q1l));(try (have q2:=aI.aD (aI.drew (aI.alloc (aI.new _ _ #[_,_]) _)) bS;(try simp at q2);obtain⟨q2a,q2b,q2c,q2d⟩:=q2.two;have q2l:=q2.lt;have q2n:=jU q2l;have q2m:=jV q2l)))
   | (go_at_call_of 96 (Value.slice q m d);refine (fy _ Y k w _ HU.out fR).mono ?_;rintro e w2 ⟨u2,rfl,AP,bO⟩;obtain⟨s2,p2,n2,k2,rfl⟩:=AP.gH;have hs2:=bO.size;(try simp at hs2);(try (have q3:=aI.aD (aI.new _ _ #[_,_]) bO;(try simp at q3);obtain⟨q3a,q3b,q3c,q3d⟩:=q3.two;have q3l:=q3.lt;have q3n:=jU q3l;have q3m:=jV q3l));(try (have q4:=aI.aD (aI.alloc (aI.new _ _ #[_,_]) _) bO;(try simp at q4);obtain⟨q4a,q4b,q4c,q4d⟩:=q4.two;have q4l:=q4.lt;have q4n:=jU q4l;have q4m:=jV q4l));(try (have q5:=aI.aD q1 bO;(try simp at q5);obtain⟨q5a,q5b,q5c,q5d⟩:=q5.two;have q5l:=q5.lt;have q5n:=jU q5l;have q5m:=jV q5l));(try (have q6:=aI.aD q2 bO;(try simp at q6);obtain⟨q6a,q6b,q6c,q6d⟩:=q6.two;have q6l:=q6.lt;have q6n:=jU q6l;have q6m:=jV q6l));(try (have q7:=aI.aD (aI.alloc q1 _) bO;(try simp at q7);obtain⟨q7a,q7b,q7c,q7d⟩:=q7.two;have q7l:=q7.lt;have q7n:=jU q7l;have q7m:=jV q7l)))
   | fail)
  all_goals
   go_wp2
   go_meet
   refine⟨_,_,s1,p1,n1,k1,s2,p2,n2,k2,aa,aa,?_,?_,AO,AP,?_⟩
   ·(with_reducible (repeat (first|assumption|exact aI.newAt (by first|rfl|(simp;done)) _ _|refine aI.alloc ?_ _|refine aI.drew ?_|refine aI.bq (u:=.bool false) (v:=.slice none 0 0) ?_ _ _|refine aI.cX ?_ (by first|omega|(simp;omega)) _ _|refine aI.aD ?_ (by assumption))))
   ·(with_reducible (repeat (first|assumption|exact aI.newAt (by first|rfl|(simp;done)) _ _|refine aI.alloc ?_ _|refine aI.drew ?_|refine aI.bq (u:=.bool false) (v:=.slice none 0 0) ?_ _ _|refine aI.cX ?_ (by first|omega|(simp;omega)) _ _|refine aI.aD ?_ (by assumption))))
   ·exact fR
 case rest=>
  obtain⟨g,h,s1,p1,n1,k1,s2,p2,n2,k2,rfl,rfl,B5,B6,AO,AP,GY⟩:=hcut;obtain⟨hn1,sx,hX⟩:=AO.parts;obtain⟨xS,vQ,hY⟩:=AP.parts;have B3:=b3.aD GY;have B4:=b4.aD GY;have ni:ax w wc:=lU.aB GY;have HR1:=ab (sx.below ni);have HR2:=ab (vQ.below ni);have HN1:=ab hn1;have HN2:=ab xS;have HX:=ab hX;have HY:=ab hY;have HM1:Hid (n1<=536870912):=by show _<=_;rw[hn1];exact HJ.out
  have HM2:Hid (n2<=536870912):=by show _<=_;rw[xS];exact HK.out
  have Bq:w.heap.size+4<=wc.heap.size:=bA hsz GY.size;clear b1 b2 b3 b4 GY lU AO AP sx vQ hX hY hn1 xS hsz;obtain⟨c1,c2,_,_⟩:=B5.two;obtain⟨c3,c4,_,_⟩:=B6.two;go_wp2_with fail
  refine (tM _ _ n1 n2 _ _ _ HR1.out HR2.out (ak _) (ak _) HM1.out HM2.out).mono ?_;rw[ah,ah];rintro e w3 ⟨hd,dc⟩;replace dc:ax _ w3:=dc;have F5:=B5.aD dc;have F6:=B6.aD dc;have F3:=B3.aD dc;have F4:=B4.aD dc;have hbw3:=ni.aB dc;obtain⟨e1,e2,_,_⟩:=F5.two;obtain⟨e3,e4,_,_⟩:=F6.two;obtain⟨e5,e6,f5,f6⟩:=F3.two;obtain⟨e7,e8,f7,f8⟩:=F4.two;rcases hd with ⟨h0,rfl⟩|⟨h0,vq,vr,rfl,BM,vI⟩
  ·have hY0:Y=0:=by have:=HY.out;split at this <;> omega
   have G3:=(F3.bq (.bool false) (.slice none 0 0)).cX (b':=w.heap.size+3) ae (.bool false) (.slice none 0 0);have G4:=(F4.cX (b':=w.heap.size+2) ae (.bool false) (.slice none 0 0)).bq (.bool false) (.slice none 0 0);have hbz:=(hbw3.bq (b:=w.heap.size+2) ae (.bool false) (.slice none 0 0)).bq (b:=w.heap.size+3) ae (.bool false) (.slice none 0 0);clear HX HY HN1 HN2 h0;go_wp2
   generalize (((w3.setCell ⟨w.heap.size+1+1,0,none⟩ (.bool false)).setCell ⟨w.heap.size+1+1,1,none⟩ (.slice none 0 0)).setCell ⟨w.heap.size+1+1+1,0,none⟩ (.bool false)).setCell ⟨w.heap.size+1+1+1,1,none⟩ (.slice none 0 0)=wz at*;obtain⟨d1,d2,_,_⟩:=G3.two;obtain⟨d3,d4,_,_⟩:=G4.two;exact bodyPost_ret (v:=.tuple #[.agg #[.bool false,.slice none 0 0],.agg #[.bool false,.slice none 0 0],.int .i64 20]) (by simp[results,Tryz.results113,go_sem,d1,d2,d3,d4]) aa (bh.out _ _ ⟨.inl ⟨hY0,_,_,aa,aw.zero _ _,aw.zero _ _⟩,hbz⟩)
  ·obtain⟨pq,kq,rfl,_,_,_⟩:=Own.form BM;obtain⟨pr,kr,rfl,_,_,_⟩:=Own.form vI;generalize hlq:(limbs (X.natAbs/Y.natAbs)).length=lq at*;generalize DK:(limbs (X.natAbs%Y.natAbs)).length=lr at*;have HLQ:=ab hlq.symm;have JY:=ab DK.symm;have HOQ:=ab BM;have HOR:=ab vI;have H0:=ab h0;clear BM vI hlq DK h0 e2 e6 e8 e5 e7 f5 f6 f7 f8 c1 c2 c3 c4;by_cases hst:s1=s2
   ·subst hst;clear e4;go_wp2_with fail
    have hg3:g≠w.heap.size+1+1:=aI.apart F5 F3 dh;have hg4:g≠w.heap.size+1+1+1:=aI.apart F5 F4 dh;have hh3:h≠w.heap.size+1+1:=aI.apart F6 F3 dh;have hh4:h≠w.heap.size+1+1+1:=aI.apart F6 F4 dh;have HS:=ab (λw' (hk:aJ w3 (w.heap.size+1+1) (w.heap.size+1+1+1) w')=>And.intro ((hk.cls F5 hg3 hg4).cell (j:=0) aa) ((hk.cls F6 hh3 hh4).cell (j:=0) aa))
    go_region_held3 (λw'=>w'.cell? ⟨g,0,none⟩=some (.bool s1)/\w'.cell? ⟨h,0,none⟩=some (.bool s1)) ((refine HS.out _ ?_;(with_reducible (repeat (first|exact aJ.refl _ _ _|refine aJ.drew ?_|refine aJ.KX ?_ _|refine aJ.dX ?_ _|refine aJ.aB ?_ (by assumption)))))) (first
     | (go_at_call_of 98 (Value.slice pq lq kq);refine (eD _ _ _ _ _).mono ?_;rintro e w6 ⟨sg,rfl,AQ,rO⟩)
     | (go_at_call_of 98 (Value.slice pr lr kr);refine (eD _ _ _ _ _).mono ?_;rintro e w7 ⟨wS,rfl,LL,zd⟩;obtain⟨i1,i2,i3,i4⟩:=(aI.aD (w':=w7) F3 fR).two;obtain⟨j1,j2,j3,j4⟩:=(aI.aD (w':=w7) F4 fR).two)
     | fail)
    have E3:=(aI.aD (w':=w7) F3 fR);have E4:=(aI.aD (w':=w7) F4 fR);have FW:ax w3 w7:=fR;have FB:ax w w7:=fR;have BM:=Own.below (HOQ).out FW;have vI:=Own.below (HOR).out FW;have CM:=(Own.bq (Own.bq BM E3 dh (.bool sg) (.slice pq lq kq)) (E4.cX (b':=w.heap.size+1+1) ae (.bool sg) (.slice pq lq kq)) dh (.bool wS) (.slice pr lr kr));have CN:=(Own.bq (Own.bq vI E3 dh (.bool sg) (.slice pq lq kq)) (E4.cX (b':=w.heap.size+1+1) ae (.bool sg) (.slice pq lq kq)) dh (.bool wS) (.slice pr lr kr));have G3:=(E3.bq (.bool sg) (.slice pq lq kq)).cX (b':=w.heap.size+1+1+1) ae (.bool wS) (.slice pr lr kr);have G4:=(E4.cX (b':=w.heap.size+1+1) ae (.bool sg) (.slice pq lq kq)).bq (.bool wS) (.slice pr lr kr);have hbz:=(FB.bq (b:=w.heap.size+1+1) ae (.bool sg) (.slice pq lq kq)).bq (b:=w.heap.size+1+1+1) ae (.bool wS) (.slice pr lr kr);have LM:=ab CM;have LN:=ab CN;clear BM vI CM CN;go_wp2
    generalize (((w7.setCell ⟨w.heap.size+1+1,0,none⟩ (.bool sg)).setCell ⟨w.heap.size+1+1,1,none⟩ (.slice pq lq kq)).setCell ⟨w.heap.size+1+1+1,0,none⟩ (.bool wS)).setCell ⟨w.heap.size+1+1+1,1,none⟩ (.slice pr lr kr)=wz at*;obtain⟨d1,d2,_,_⟩:=G3.two;obtain⟨d3,d4,_,_⟩:=G4.two;have uN:=oM HX.out HY.out H0.out (.inl ⟨.inl aa,aa,aa⟩);refine bodyPost_ret (v:=.tuple #[.agg #[.bool sg,.slice pq lq kq],.agg #[.bool wS,.slice pr lr kr],.int .i64 0]) (by simp[results,Tryz.results113,go_sem,d1,d2,d3,d4]) aa (bh.out _ _ ⟨.inr ⟨by have:=H0.out;omega,_,_,rfl,?_,?_⟩,hbz⟩)
    ·rw[AQ.out];exact aw.of (by rw[<-(HLQ).out];exact Own.mono LM.out ni.size) (HLQ).out _ (by simpa using uN.1)
    ·rw[LL.out];exact aw.of (by rw[<-(JY).out];exact Own.mono LN.out ni.size) (JY).out _ (by simpa using uN.2)
   ·obtain rfl:s2= !s1:=by cases s1 <;> cases s2 <;> simp_all
    by_cases xE:X.natAbs%Y.natAbs=0
    ·have hl0:lr=0:=by have:=JY.out;rw[xE,bk] at this;exact this
     have HR0:=ab xE;subst hl0;clear xE hst e4;go_wp2_with fail
     have hg3:g≠w.heap.size+1+1:=aI.apart F5 F3 dh;have hg4:g≠w.heap.size+1+1+1:=aI.apart F5 F4 dh;have hh3:h≠w.heap.size+1+1:=aI.apart F6 F3 dh;have hh4:h≠w.heap.size+1+1+1:=aI.apart F6 F4 dh;have HS:=ab (λw' (hk:aJ w3 (w.heap.size+1+1) (w.heap.size+1+1+1) w')=>And.intro ((hk.cls F5 hg3 hg4).cell (j:=0) aa) ((hk.cls F6 hh3 hh4).cell (j:=0) aa))
     go_region_held3 (λw'=>w'.cell? ⟨g,0,none⟩=some (.bool s1)/\w'.cell? ⟨h,0,none⟩=some (.bool (!s1))) ((refine HS.out _ ?_;(with_reducible (repeat (first|exact aJ.refl _ _ _|refine aJ.drew ?_|refine aJ.KX ?_ _|refine aJ.dX ?_ _|refine aJ.aB ?_ (by assumption)))))) (first
      | (go_at_call_of 98 (Value.slice pq lq kq);refine (eD _ _ _ _ _).mono ?_;rintro e w6 ⟨sg,rfl,AQ,rO⟩)
      | (go_at_call_of 98 (Value.slice pr 0 kr);refine (eD _ _ _ _ _).mono ?_;rintro e w7 ⟨wS,rfl,LL,zd⟩;obtain⟨i1,i2,i3,i4⟩:=(aI.aD (w':=w7) F3 fR).two;obtain⟨j1,j2,j3,j4⟩:=(aI.aD (w':=w7) F4 fR).two)
      | fail)
     have E3:=(aI.aD (w':=w7) F3 fR);have E4:=(aI.aD (w':=w7) F4 fR);have FW:ax w3 w7:=fR;have FB:ax w w7:=fR;have BM:=Own.below (HOQ).out FW;have vI:=Own.below (HOR).out FW;have CM:=(Own.bq (Own.bq BM E3 dh (.bool sg) (.slice pq lq kq)) (E4.cX (b':=w.heap.size+1+1) ae (.bool sg) (.slice pq lq kq)) dh (.bool wS) (.slice pr 0 kr));have CN:=(Own.bq (Own.bq vI E3 dh (.bool sg) (.slice pq lq kq)) (E4.cX (b':=w.heap.size+1+1) ae (.bool sg) (.slice pq lq kq)) dh (.bool wS) (.slice pr 0 kr));have G3:=(E3.bq (.bool sg) (.slice pq lq kq)).cX (b':=w.heap.size+1+1+1) ae (.bool wS) (.slice pr 0 kr);have G4:=(E4.cX (b':=w.heap.size+1+1) ae (.bool sg) (.slice pq lq kq)).bq (.bool wS) (.slice pr 0 kr);have hbz:=(FB.bq (b:=w.heap.size+1+1) ae (.bool sg) (.slice pq lq kq)).bq (b:=w.heap.size+1+1+1) ae (.bool wS) (.slice pr 0 kr);have LM:=ab CM;have LN:=ab CN;clear BM vI CM CN;go_wp2
     generalize (((w7.setCell ⟨w.heap.size+1+1,0,none⟩ (.bool sg)).setCell ⟨w.heap.size+1+1,1,none⟩ (.slice pq lq kq)).setCell ⟨w.heap.size+1+1+1,0,none⟩ (.bool wS)).setCell ⟨w.heap.size+1+1+1,1,none⟩ (.slice pr 0 kr)=wz at*;obtain⟨d1,d2,_,_⟩:=G3.two;obtain⟨d3,d4,_,_⟩:=G4.two;have uN:=oM HX.out HY.out H0.out (.inl ⟨.inr HR0.out,aa,aa⟩);refine bodyPost_ret (v:=.tuple #[.agg #[.bool sg,.slice pq lq kq],.agg #[.bool wS,.slice pr 0 kr],.int .i64 0]) (by simp[results,Tryz.results113,go_sem,d1,d2,d3,d4]) aa (bh.out _ _ ⟨.inr ⟨by have:=H0.out;omega,_,_,rfl,?_,?_⟩,hbz⟩)
     ·rw[AQ.out];exact aw.of (by rw[<-(HLQ).out];exact Own.mono LM.out ni.size) (HLQ).out _ (by simpa using uN.1)
     ·rw[LL.out];exact aw.of (by rw[<-(JY).out];exact Own.mono LN.out ni.size) (JY).out _ (by simpa using uN.2)
    ·have hlp:0<lr:=by have:=JY.out;have:=cL xE;omega
     have hpi:(0:Int)<(lr:Int):=ae;have HR0:=ab xE;have KH:Hid (lq<=536870912):=by show _<=_;rw[HLQ.out];exact bA (bX (yk _ _)) HJ.out
     clear xE hst;go_wp2_with fail
     refine (Gu _ _ lq 1 _ [1] _ ((Rd.own HOQ.out).alloc _) (Rd.lit1 aa) (ak _) (bR.cons ae bR.nil) (by have:=KH.out;omega) ae).mono ?_;rintro e w4 ⟨v4,rfl,ho4,fv⟩;replace fv:ax _ w4:=fv;rw[ah,show ag [1]=1 by rfl] at ho4;obtain⟨pm,cm,rfl,_,_,_⟩:=Own.form ho4;generalize hnm:(limbs (X.natAbs/Y.natAbs+1)).length=nm at*;have Kz:=ab hnm.symm;have Je:ax w3 w4:=((ax.refl w3).alloc _).aB fv;have Iz:=ab (Own.mono ho4 (show w3.heap.size<=_ by simp));have HOR4:=ab (Own.below HOR.out Je);have HY4:=ab (HR2.out.below (dc.aB Je));obtain⟨i1,i2,_,_⟩:=(F6.aD Je).two;clear ho4 hnm fv;go_wp2_with fail
     refine (zN _ _ n2 lr _ _ _ HY4.out (Rd.own HOR4.out) (ak _) (ak _) (by have:=HM2.out;omega)).mono ?_;rintro e w5 ⟨⟨h,_⟩|⟨_,v5,rfl,ho5⟩,jJ⟩
     ·rw[ah,ah] at h;exact absurd h (by have:=cM X.natAbs (Nat.pos_of_ne_zero H0.out);omega)
     replace jJ:ax _ w5:=jJ;rw[ah,ah] at ho5;obtain⟨pn,cn,rfl,_,_,_⟩:=Own.form ho5;generalize hnn:(limbs (Y.natAbs-X.natAbs%Y.natAbs)).length=nn at*;have HLN:=ab hnn.symm;have Jf:ax w3 w5:=Je.aB jJ;have HOM:=ab (Own.mono (Own.below Iz.out jJ) dc.size);have HON:=ab (Own.mono ho5 (bA dc.size Je.size));have T3:=F3.aD Jf;have T4:=F4.aD Jf;have T5:=F5.aD Jf;have T6:=F6.aD Jf;have hbw5:=hbw3.aB Jf;clear ho5 hnn jJ F3 F4 F5 F6 Je Jf dc hbw3 HOQ HOR Iz HOR4 HY4 i1 i2;obtain⟨e1,_,_,_⟩:=T5.two;obtain⟨e3,_,_,_⟩:=T6.two;go_wp2_with fail
     have hg3:g≠w.heap.size+1+1:=aI.apart T5 T3 dh;have hg4:g≠w.heap.size+1+1+1:=aI.apart T5 T4 dh;have hh3:h≠w.heap.size+1+1:=aI.apart T6 T3 dh;have hh4:h≠w.heap.size+1+1+1:=aI.apart T6 T4 dh;have HS:=ab (λw' (hk:aJ w5 (w.heap.size+1+1) (w.heap.size+1+1+1) w')=>And.intro ((hk.cls T5 hg3 hg4).cell (j:=0) aa) ((hk.cls T6 hh3 hh4).cell (j:=0) aa))
     go_region_held3 (λw'=>w'.cell? ⟨g,0,none⟩=some (.bool s1)/\w'.cell? ⟨h,0,none⟩=some (.bool (!s1))) ((refine HS.out _ ?_;(with_reducible (repeat (first|exact aJ.refl _ _ _|refine aJ.drew ?_|refine aJ.KX ?_ _|refine aJ.dX ?_ _|refine aJ.aB ?_ (by assumption)))))) (first
      | (go_at_call_of 98 (Value.slice pm nm cm);refine (eD _ _ _ _ _).mono ?_;rintro e w6 ⟨sg,rfl,AQ,rO⟩)
      | (go_at_call_of 98 (Value.slice pn nn cn);refine (eD _ _ _ _ _).mono ?_;rintro e w7 ⟨wS,rfl,LL,zd⟩;obtain⟨i1,i2,i3,i4⟩:=(aI.aD (w':=w7) T3 fR).two;obtain⟨j1,j2,j3,j4⟩:=(aI.aD (w':=w7) T4 fR).two)
      | fail)
     have E3:=(aI.aD (w':=w7) T3 fR);have E4:=(aI.aD (w':=w7) T4 fR);have FW:ax w5 w7:=fR;have FB:ax w w7:=fR;have BM:=Own.below (HOM).out FW;have vI:=Own.below (HON).out FW;have CM:=(Own.bq (Own.bq BM E3 dh (.bool sg) (.slice pm nm cm)) (E4.cX (b':=w.heap.size+1+1) ae (.bool sg) (.slice pm nm cm)) dh (.bool wS) (.slice pn nn cn));have CN:=(Own.bq (Own.bq vI E3 dh (.bool sg) (.slice pm nm cm)) (E4.cX (b':=w.heap.size+1+1) ae (.bool sg) (.slice pm nm cm)) dh (.bool wS) (.slice pn nn cn));have G3:=(E3.bq (.bool sg) (.slice pm nm cm)).cX (b':=w.heap.size+1+1+1) ae (.bool wS) (.slice pn nn cn);have G4:=(E4.cX (b':=w.heap.size+1+1) ae (.bool sg) (.slice pm nm cm)).bq (.bool wS) (.slice pn nn cn);have hbz:=(FB.bq (b:=w.heap.size+1+1) ae (.bool sg) (.slice pm nm cm)).bq (b:=w.heap.size+1+1+1) ae (.bool wS) (.slice pn nn cn);have LM:=ab CM;have LN:=ab CN;clear BM vI CM CN;go_wp2
     generalize (((w7.setCell ⟨w.heap.size+1+1,0,none⟩ (.bool sg)).setCell ⟨w.heap.size+1+1,1,none⟩ (.slice pm nm cm)).setCell ⟨w.heap.size+1+1+1,0,none⟩ (.bool wS)).setCell ⟨w.heap.size+1+1+1,1,none⟩ (.slice pn nn cn)=wz at*;obtain⟨d1,d2,_,_⟩:=G3.two;obtain⟨d3,d4,_,_⟩:=G4.two;have uN:=oM HX.out HY.out H0.out (.inr ⟨by cases s1 <;> simp,HR0.out,rfl,rfl⟩);refine bodyPost_ret (v:=.tuple #[.agg #[.bool sg,.slice pm nm cm],.agg #[.bool wS,.slice pn nn cn],.int .i64 0]) (by simp[results,Tryz.results113,go_sem,d1,d2,d3,d4]) aa (bh.out _ _ ⟨.inr ⟨by have:=H0.out;omega,_,_,rfl,?_,?_⟩,hbz⟩)
     ·rw[AQ.out];exact aw.of (by rw[<-(Kz).out];exact Own.mono LM.out ni.size) (Kz).out _ (by simpa using uN.1)
     ·rw[LL.out];exact aw.of (by rw[<-(HLN).out];exact Own.mono LN.out ni.size) (HLN).out _ (by simpa using uN.2)
end
section
open Go.RowKit
theorem ET (neg:Bool) (xs:List Nat) (v:Value) (w:World) (h:ek w v neg xs):
  Calls Tryz.prog 64 #[v] w λe w'=>e=.returned (.bool (cQ neg xs))/\ax w w':=by
 obtain⟨p,c,rfl,hr,hl⟩:=h;obtain⟨p',c',hv,iD,fO,-⟩:=hr.u32;simp only[Value.slice.injEq,true_and] at hv;obtain⟨rfl,rfl⟩:=hv;refine aE λR' bh=> ?_;by_cases hx:xs=[]
 ·subst hx;simp only[List.length_nil,pW] at*;go_enter Tryz.func64,Tryz.ntmps64
  cases neg
  ·go_wp2
   exact bh.out _ _ ⟨aa,(ax.refl w).alloc _⟩
  ·go_wp2
   exact bh.out _ _ ⟨aa,(ax.refl w).alloc _⟩
 ·obtain⟨m,hm⟩:∃ m,xs.length=m+1:=⟨xs.length-1,by have:=Ba.2 hx;omega⟩;generalize hn:xs.length=n at*;obtain⟨b,off,x,rfl,hb,hxm,hc⟩:=hr.cellAt (k:=m) ae;have h1:cQ neg xs=decide (x≠0):=tP (by rw[hn,hm];exact hxm);rw[h1] at bh;have hz:((n:Int) == 0)=false:=by rw[iJ];omega
  have hp:(0:Int)<(n:Int):=ae;have hw:IntKind.i64.wrap ((n:Int)-1)=(m:Int):=by rw[bj _ ae];omega
  have hlt:(m:Int)<(n:Int):=ae;have HN:=ab hn;have hpn:0<n:=ae;clear hx hm hn h1 hxm hr hl;go_enter Tryz.func64,Tryz.ntmps64
  by_cases mR:x=0
  ·subst mR;cases neg
   ·go_wp2
    exact bh.out _ _ ⟨aa,(ax.refl w).alloc _⟩
   ·go_wp2
    exact bh.out _ _ ⟨aa,(ax.refl w).alloc _⟩
  ·have Ai:((x:Int) != 0)=true:=by rw[bne_iff_ne];omega
   rw[aU mR] at bh;clear mR;cases neg
   ·go_wp2
    exact bh.out _ _ ⟨aa,(ax.refl w).alloc _⟩
   ·go_wp2
    exact bh.out _ _ ⟨aa,(ax.refl w).alloc _⟩
theorem qn (v:Value) (X:Int) (k:Nat) (w0 w:World) (h:bP w0 v X k) (ng:ax w0 w):
  Calls Tryz.prog 71 #[v] w λe w'=>∃ u,e=.returned u/\bK w0 u X/\ax w w':=by
 obtain⟨neg,xs,hn,rfl,hk⟩:=h;refine aE λR' bh=> ?_;have HN:=ab hn;obtain⟨p,c,rfl,hr,hl⟩:=hn;clear hr;go_enter qR,Tryz.ntmps71
 go_wp2_with fail
 refine (ET neg xs _ _ ((HN.out.aD ng).aD (((ax.refl w).alloc _).alloc _))).mono ?_;rintro e w1 ⟨rfl,bS⟩;obtain⟨b1,b2,lU⟩:=mf w 69 69 #[.bool neg,.slice p xs.length c] #[.bool false,.slice none 0 0];obtain⟨c1,c2,_,_⟩:=(b1.aD bS).two;obtain⟨c3,c4,f3,f4⟩:=(b2.aD bS).two;have zF:ax w w1:=lU.aB bS;cases hnr:cQ neg xs
 ·have B2:=(b2.aD bS).bq (.bool false) (.slice none 0 0);have tN:=zF.bq (b:=w.heap.size+1) ae (.bool false) (.slice none 0 0);go_wp2
  generalize (w1.setCell ⟨w.heap.size+1,0,none⟩ (.bool false)).setCell ⟨w.heap.size+1,1,none⟩ (.slice none 0 0)=w2 at*;obtain⟨d1,d2,_,_⟩:=B2.two;refine bodyPost_ret (v:=.agg #[.bool false,.slice none 0 0]) (by simp[results,Tryz.results71,go_sem,d1,d2]) aa (bh.out _ _ ⟨_,aa,?_,tN⟩);rw[numOf,if_neg (by simp[hnr])];exact bK.zero _
 ·have B2:=(b2.aD bS).bq (.bool neg) (.slice p xs.length c);have tN:=zF.bq (b:=w.heap.size+1) ae (.bool neg) (.slice p xs.length c);go_wp2
  generalize (w1.setCell ⟨w.heap.size+1,0,none⟩ (.bool neg)).setCell ⟨w.heap.size+1,1,none⟩ (.slice p xs.length c)=w2 at*;obtain⟨d1,d2,_,_⟩:=B2.two;refine bodyPost_ret (v:=.agg #[.bool neg,.slice p xs.length c]) (by simp[results,Tryz.results71,go_sem,d1,d2]) aa (bh.out _ _ ⟨_,aa,?_,tN⟩);rw[numOf,if_pos hnr];obtain⟨h1,h2⟩:=canon hl hnr;have:=HN.out;show ek _ _ _ _;rw[<-h1,<-h2];exact this
theorem iu (neg:Bool) (v:Value) (n:Nat) (xs:List Nat) (w:World) (hr:Rd w 1 v n (ints .u32 xs)) (hl:bR xs) (hn:n<=1073741824):
  Calls Tryz.prog 68 #[.bool neg,v] w λe w'=>∃ r,e=.returned r/\aw w' w.heap.size r (if neg=true then-(ag xs:Int) else ag xs)/\ax w w':=by
 obtain⟨p,c,rfl,_,_,_⟩:=hr.u32;have HR:=ab hr;have oC:=aI.new w 69 #[.bool false,.slice none 0 0];have lU:=(ax.refl w).alloc (.cells #[.bool false,.slice none 0 0] 69);clear hr;refine aE λR' bh=> ?_;go_enter qS,Tryz.ntmps68
 go_wp2_with fail
 refine (Eu _ n xs _ (HR.out.below lU) hl hn).mono ?_;rintro e w1 ⟨v1,rfl,sX,bS⟩;replace bS:ax _ w1:=bS;obtain⟨p1,k1,rfl,_,_,_⟩:=Own.form sX;generalize hL:(limbs (ag xs)).length=L at*;have HL:=ab hL;have FC:=oC.aD bS;have FB:=lU.aB bS;obtain⟨c1,c2,f1,f2⟩:=FC.two;have GW:=Own.mono sX lU.size;clear hL sX;cases neg
 ·have HO:=ab (Own.bq GW FC dh (.bool false) (.slice p1 L k1));clear GW;have CH:=FC.bq (.bool (false)) (.slice p1 (L) k1);have CI:=ax.bq FB (b:=w.heap.size) ae (.bool (false)) (.slice p1 (L) k1);go_wp2
  generalize (w1.setCell ⟨w.heap.size,0,none⟩ (.bool (false))).setCell ⟨w.heap.size,1,none⟩ (.slice p1 (L) k1)=wz at*;obtain⟨CJ,CK,_,_⟩:=CH.two;refine bodyPost_ret (v:=.agg #[.bool (false),.slice p1 (L) k1]) (by simp[results,Tryz.results68,go_sem,CJ,CK]) aa (bh.out _ _ ?_);exact⟨_,aa,aw.of (neg:=false) (by rw[HL.out];exact HO.out) HL.out.symm _ bc,CI⟩
 ·have HO:=ab (Own.bq GW FC dh (.bool (decide (0<L))) (.slice p1 L k1));clear GW;have CH:=FC.bq (.bool (decide (0<L))) (.slice p1 (L) k1);have CI:=ax.bq FB (b:=w.heap.size) ae (.bool (decide (0<L))) (.slice p1 (L) k1);go_wp2
  generalize (w1.setCell ⟨w.heap.size,0,none⟩ (.bool (decide (0<L)))).setCell ⟨w.heap.size,1,none⟩ (.slice p1 (L) k1)=wz at*;obtain⟨CJ,CK,_,_⟩:=CH.two;refine bodyPost_ret (v:=.agg #[.bool (decide (0<L)),.slice p1 (L) k1]) (by simp[results,Tryz.results68,go_sem,CJ,CK]) aa (bh.out _ _ ?_);exact⟨_,aa,aw.of (neg:=true) (by rw[HL.out];exact HO.out) HL.out.symm _ bc,CI⟩
def Aj (X Y:Int):Int:=(X-Y).sign
variable {X Y:Int}
theorem Ha (h:X<Y):Aj X Y= -1:=sign_neg ae
theorem Hb (h:Y<X):Aj X Y=1:=er ae
theorem ze (a b:Nat):Aj (a:Int) b=fb a b:=by
 rcases yf a b with h|rfl|h
 ·rw[Ha ae,jX h]
 ·rw[qU];simp[Aj]
 ·rw[Hb ae,jY h]
theorem EU (a b:Nat):Aj (-(a:Int)) (-(b:Int))=fb b a:=by
 rw[<-ze];unfold Aj;congr 1;omega
theorem LO (v u:Value) (X Y:Int) (j k:Nat) (w:World) (hv:bP w v X j) (hu:bP w u Y k) (hj:j<=1073741824) (hk:k<=1073741824):
  Calls Tryz.prog 87 #[v,u] w λe w'=>e=.returned (.int .i64 (Aj X Y))/\ax w w':=by
 obtain⟨s,p,n,c,rfl⟩:=hv.form;obtain⟨t,q,m,d,rfl⟩:=hu.form;refine aE λR' bh=> ?_;obtain⟨b1,b2,lU⟩:=mf w 69 69 #[.bool s,.slice p n c] #[.bool t,.slice q m d];have HJ:=ab (bA hv.len hj);have HK:=ab (bA hu.len hk);have HV:=ab hv;have HU:=ab hu;clear hv hu hj hk;go_enter Tryz.func87,Tryz.ntmps87
 go_wp2_with fail
 generalize (w.alloc _).alloc _=W at*;refine (qn _ X j w _ HV.out fR).mono ?_;rintro e wa ⟨ua,rfl,hua,hba⟩;obtain⟨s1,p1,n1,k1,rfl⟩:=hua.gH;obtain⟨a1,a2,a3,a4⟩:=(b1.aD hba).two;obtain⟨a5,a6,a7,a8⟩:=(b2.aD hba).two;have B1:=(b1.aD hba).bq (.bool s1) (.slice p1 n1 k1);have B2:=(b2.aD hba).cX (b':=w.heap.size) ae (.bool s1) (.slice p1 n1 k1);have hZ:=aJ.KX (aJ.KX (aJ.aB (aJ.refl W w.heap.size (w.heap.size+1)) hba) (j:=0) (.bool s1)) (j:=1) (.slice p1 n1 k1);have HB:=ax.bq (lU.aB hba) (b:=w.heap.size) ae (.bool s1) (.slice p1 n1 k1);have HPA:=ab hua.parts;have HSA:=ab hua.sgn;have HUA:=ab hua;clear hua;go_wp2_with fail
 generalize (wa.setCell ⟨w.heap.size,0,none⟩ (.bool s1)).setCell ⟨w.heap.size,1,none⟩ (.slice p1 n1 k1)=wb at*;clear a1 a2 a3 a4 a5 a6 a7 a8 hba;refine (qn _ Y k w _ HU.out HB).mono ?_;rintro e wc ⟨ub,rfl,hub,zF⟩;obtain⟨s2,p2,n2,k2,rfl⟩:=hub.gH;obtain⟨a1,a2,a3,a4⟩:=(B1.aD zF).two;obtain⟨a5,a6,a7,a8⟩:=(B2.aD zF).two;have D1:=(B1.aD zF).cX (b':=w.heap.size+1) ae (.bool s2) (.slice p2 n2 k2);have D2:=(B2.aD zF).bq (.bool s2) (.slice p2 n2 k2);have hY:=aJ.dX (aJ.dX (aJ.aB hZ zF) (j:=0) (.bool s2)) (j:=1) (.slice p2 n2 k2);have HD:=ax.bq (HB.aB zF) (b:=w.heap.size+1) ae (.bool s2) (.slice p2 n2 k2);have HPB:=ab hub.parts;have HSB:=ab hub.sgn;have HUB:=ab hub;clear hub B1 B2 HB zF hZ;have Ai:n1<=1073741824:=by rw[HPA.out.1];exact HJ.out
 have AR:n2<=1073741824:=by rw[HPB.out.1];exact HK.out
 have HX1:=ab Ai;have Kv:=ab AR;clear Ai AR;cases s1 <;> cases s2
 ·go_wp2_with fail
  generalize (wc.setCell ⟨w.heap.size+1,0,none⟩ (.bool false)).setCell ⟨w.heap.size+1,1,none⟩ (.slice p2 n2 k2)=wd at*;refine (sE _ _ n1 n2 _ _ _ (HPA.out.2.1.below HD) (HPB.out.2.1.below HD) (ak _) (ak _) HX1.out Kv.out).mono ?_;rintro e we ⟨rfl,hbe⟩;rw[ah,ah,<-ze];have e1:(X.natAbs:Int)=X:=by have:=HPA.out.2.2;simpa using this.symm
  have e2:(Y.natAbs:Int)=Y:=by have:=HPB.out.2.2;simpa using this.symm
  rw[e1,e2];go_wp2_with fail
  exact bh.out _ _ ⟨aa,HD.aB hbe⟩
 ·have h1:¬ X<0:=of_decide_eq_false HSA.out.symm;have h2:Y<0:=cS HSB.out.symm;rw[Hb ae] at bh;go_wp2
  exact bh.out _ _ ⟨aa,HD⟩
 ·have h1:X<0:=cS HSA.out.symm;have h2:¬ Y<0:=of_decide_eq_false HSB.out.symm;rw[Ha ae] at bh;go_wp2
  exact bh.out _ _ ⟨aa,HD⟩
 ·go_wp2_with fail
  generalize (wc.setCell ⟨w.heap.size+1,0,none⟩ (.bool true)).setCell ⟨w.heap.size+1,1,none⟩ (.slice p2 n2 k2)=wd at*;refine (sE _ _ n2 n1 _ _ _ (HPB.out.2.1.below HD) (HPA.out.2.1.below HD) (ak _) (ak _) Kv.out HX1.out).mono ?_;rintro e we ⟨rfl,hbe⟩;rw[ah,ah,<-EU];have e1: -(X.natAbs:Int)=X:=by have:=HPA.out.2.2;simpa using this.symm
  have e2: -(Y.natAbs:Int)=Y:=by have:=HPB.out.2.2;simpa using this.symm
  rw[e1,e2];go_wp2_with fail
  exact bh.out _ _ ⟨aa,HD.aB hbe⟩
theorem cw (v:Value) (X:Int) (j:Nat) (w:World) (hv:bP w v X j) (hj:j<=1073741824):
  Calls Tryz.prog 65 #[v] w λe w'=>e=.returned (.int .i64 X.sign)/\ax w w':=by
 obtain⟨s,p,n,c,rfl⟩:=hv.form;refine aE λR' bh=> ?_;have lU:=(ax.refl w).alloc (.cells #[.bool s,.slice p n c] 69);have HV:=ab (hv.aD lU);have e1:=ab (show Aj X 0=X.sign by simp[Aj]);clear hv;go_enter ib,Tryz.ntmps65
 go_wp2_with fail
 generalize w.alloc _=W at*;refine (LO _ _ X 0 j 0 _ HV.out ((bK.zero _).to (by simp[bk])) hj ae).mono ?_;rintro e w1 ⟨rfl,bS⟩;rw[e1.out];go_wp2
 exact bh.out _ _ ⟨aa,lU.aB bS⟩
variable {xs:List Nat} {U:TypeId} {T:TypeId->Bool} {v:Value} {w w':World}
theorem Rd.kp {n:Nat} (h:Rd w 1 v n (ints .u32 xs)) (k:aY ⟨U,λ_=>True,T⟩ w w'):Rd w' 1 v n (ints .u32 xs):=by
 obtain⟨p,c,rfl,h1,h2,h3,h4⟩:=h;refine⟨p,c,aa,h1,h2,h3,λhn=> ?_⟩;obtain⟨b,off,hp,hc⟩:=h4 hn;refine⟨b,off,hp,λj u hj=> ?_⟩;obtain⟨x,hx,rfl⟩:=cU.1 (dx hj);exact k.cell _ _ aj (hc j _ hj)
variable {B:Nat}
theorem Own.kp {sz n:Nat} {cs:List Value} (h:w.ownsRow B UU sz v n cs) (k:aY ⟨UU,λ_=>True,T⟩ w w'):w'.ownsRow B UU sz v n cs:=by
 refine⟨h.1,?_⟩;rcases h.2 with h2|⟨g,cap,cur,hv,hb,hg,r⟩
 ·exact .inl h2
 ·exact .inr ⟨g,cap,cur,hv,hb,k.block _ g cur aa aj hg,r⟩
variable {s:Bool}
theorem ek.kp (h:ek w v s xs) (k:aY ⟨U,λ_=>True,T⟩ w w'):ek w' v s xs:=by
 obtain⟨p,c,hv,hr,hl⟩:=h;exact⟨p,c,hv,hr.kp k,hl⟩
variable {j:Nat}
theorem bP.kp (h:bP w v X j) (k:aY ⟨U,λ_=>True,T⟩ w w'):bP w' v X j:=by
 obtain⟨s,xs,hn,hx,hj⟩:=h;exact⟨s,xs,hn.kp k,hx,hj⟩
theorem bK.kp (h:bK w v X) (k:aY ⟨U,λ_=>True,T⟩ w w'):bK w' v X:=ek.kp h k
theorem aw.kp (h:aw w B v X) (k:aY ⟨UU,λ_=>True,T⟩ w w'):aw w' B v X:=by
 obtain⟨p,c,hv,ho⟩:=h;exact⟨p,c,hv,Own.kp ho k⟩
theorem aw.in (h:aw w B v X) (hs:Sz X j):bP w v X j:=h.rd.to hs
def EW (X Y:Int):Rat:=if 0<Y/\Int.gcd X Y=1 then Rat.divInt X Y else 0
theorem qo (h:0<Y/\Int.gcd X Y=1):(EW X Y).num=X/\((EW X Y).den:Int)=Y:=by
 unfold EW;rw[if_pos h,Rat.num_divInt,Rat.den_divInt,if_neg ae,Int.gcd_comm,h.2];have:Y.sign=1:=er h.1;rw[this];simp;omega
theorem EX (h:¬ (0<Y/\Int.gcd X Y=1)):EW X Y=0:=if_neg h
theorem zf (q:Rat):EW q.num q.den=q:=by
 have h:(0:Int)<q.den/\Int.gcd q.num q.den=1:=⟨by have:=q.den_nz;omega,by have:=q.reduced;simpa [Int.gcd,Nat.Coprime] using this⟩;obtain⟨h1,h2⟩:=qo h;exact Rat.ext h1 ae
def eV (w:World) (v:Value) (s:Bool) (xs:List Nat) (t:Bool) (ys:List Nat):Prop:=
 ∃ p c r d,v=.agg #[.bool s,.slice p xs.length c,.bool t,.slice r ys.length d]/\ek w (.agg #[.bool s,.slice p xs.length c]) s xs/\ek w (.agg #[.bool t,.slice r ys.length d]) t ys
def rq (s:Bool) (xs:List Nat) (t:Bool) (ys:List Nat):Rat:=EW (numOf s xs) (numOf t ys)
def cP (w:World) (v:Value) (q:Rat) (k:Nat):Prop:=∃ s xs t ys,eV w v s xs t ys/\q=rq s xs t ys/\xs.length<=k/\ys.length<=k
def fJ (w:World) (v:Value) (q:Rat):Prop:=∃ s p n c t r m d,v=.agg #[.bool s,.slice p n c,.bool t,.slice r m d]/\bK w (.agg #[.bool s,.slice p n c]) q.num/\bK w (.agg #[.bool t,.slice r m d]) (q.den:Int)
def cH (w:World) (B:Nat) (v:Value) (q:Rat):Prop:=∃ s p n c t r m d,v=.agg #[.bool s,.slice p n c,.bool t,.slice r m d]/\aw w B (.agg #[.bool s,.slice p n c]) q.num/\aw w B (.agg #[.bool t,.slice r m d]) (q.den:Int)
def oX (q:Rat) (k:Nat):Prop:=Sz q.num k/\Sz (q.den:Int) k
variable {t:Bool}
theorem eV.kp {ys:List Nat} (h:eV w v s xs t ys) (k:aY ⟨U,λ_=>True,T⟩ w w'):eV w' v s xs t ys:=by
 obtain⟨p,c,r,d,hv,h1,h2⟩:=h;exact⟨p,c,r,d,hv,h1.kp k,h2.kp k⟩
theorem cP.kp {q:Rat} (h:cP w v q j) (k:aY ⟨U,λ_=>True,T⟩ w w'):cP w' v q j:=by
 obtain⟨s,xs,t,ys,h1,h2⟩:=h;exact⟨s,xs,t,ys,h1.kp k,h2⟩
theorem fJ.kp {q:Rat} (h:fJ w v q) (k:aY ⟨U,λ_=>True,T⟩ w w'):fJ w' v q:=by
 obtain⟨s,p,n,c,t,r,m,d,hv,h1,h2⟩:=h;exact⟨s,p,n,c,t,r,m,d,hv,h1.kp k,h2.kp k⟩
theorem cH.kp {q:Rat} (h:cH w B v q) (k:aY ⟨UU,λ_=>True,T⟩ w w'):cH w' B v q:=by
 obtain⟨s,p,n,c,t,r,m,d,hv,h1,h2⟩:=h;exact⟨s,p,n,c,t,r,m,d,hv,h1.kp k,h2.kp k⟩
theorem cH.mono {B':Nat} {q:Rat} (h:cH w B v q) (hB:B'<=B):cH w B' v q:=by
 obtain⟨s,p,n,c,t,r,m,d,hv,h1,h2⟩:=h;exact⟨s,p,n,c,t,r,m,d,hv,h1.mono hB,h2.mono hB⟩
theorem cH.rd {q:Rat} (h:cH w B v q):fJ w v q:=by
 obtain⟨s,p,n,c,t,r,m,d,hv,h1,h2⟩:=h;exact⟨s,p,n,c,t,r,m,d,hv,h1.rd,h2.rd⟩
theorem cH.cast {q q':Rat} (h:cH w B v q) (e:q=q'):cH w B v q':=e▸h
variable {c:Nat} {p:Option Addr}
theorem bK.len4 {n:Nat} (h:bK w (.agg #[.bool s,.slice p n c]) X):s=decide (X<0)/\n=(limbs X.natAbs).length:=⟨h.sgn,h.parts.1⟩
theorem fJ.raw {q:Rat} (h:fJ w v q):eV w v (decide (q.num<0)) (limbs q.num.natAbs) (decide ((q.den:Int)<0)) (limbs (q.den:Int).natAbs):=by
 obtain⟨s,p,n,c,t,r,m,d,rfl,h1,h2⟩:=h;obtain⟨rfl,rfl⟩:=h1.len4;obtain⟨rfl,rfl⟩:=h2.len4;exact⟨p,c,r,d,aa,h1,h2⟩
variable {k:Nat}
theorem fJ.to {q:Rat} (h:fJ w v q) (hs:oX q k):cP w v q k:=
 ⟨_,_,_,_,h.raw,by unfold rq;rw[eN,eN,zf],hs.1,hs.2⟩
theorem cH.in {q:Rat} (h:cH w B v q) (hs:oX q k):cP w v q k:=h.rd.to hs
theorem oX.mono {q:Rat} {l:Nat} (h:oX q k) (DN:k<=l):oX q l:=⟨h.1.mono DN,h.2.mono DN⟩
theorem oX.zero:oX 0 1:=⟨Sz.zero.mono ae,Sz.small dh⟩
theorem oX.one:oX 1 1:=⟨Sz.small dh,Sz.small dh⟩
theorem wT (hl:bR xs) (h:xs.length<=k):Sz (numOf s xs) k:=bA (yC hl) h
theorem cP.sz {q:Rat} (h:cP w v q k) (hk:1<=k):oX q k:=by
 obtain⟨s,xs,t,ys,⟨p,c,r,d,_,⟨_,_,_,_,l1⟩,⟨_,_,_,_,l2⟩⟩,rfl,h1,h2⟩:=h;unfold rq;by_cases hr:0<numOf t ys/\Int.gcd (numOf s xs) (numOf t ys)=1
 ·obtain⟨e1,e2⟩:=qo hr;exact⟨by rw[e1];exact wT l1 h1,by rw[e2];exact wT l2 h2⟩
 ·rw[EX hr];exact oX.zero.mono hk
theorem cP.form {q:Rat} (h:cP w v q k):∃ s p n c t r m d,v=.agg #[.bool s,.slice p n c,.bool t,.slice r m d]:=by
 obtain⟨s,xs,t,ys,⟨p,c,r,d,hv,_⟩,_⟩:=h;exact⟨_,_,_,_,_,_,_,_,hv⟩
theorem fJ.parts {r:Option Addr} {n m d:Nat} {q:Rat} (h:fJ w (.agg #[.bool s,.slice p n c,.bool t,.slice r m d]) q):bK w (.agg #[.bool s,.slice p n c]) q.num/\bK w (.agg #[.bool t,.slice r m d]) (q.den:Int):=by
 obtain⟨s',p',n',c',t',r',m',d',hv,h1,h2⟩:=h;simp only[Value.agg.injEq,Array.mk.injEq,List.cons.injEq,and_true] at hv;obtain⟨e1,e2,e3,e4⟩:=hv;rw[e1,e2,e3,e4];exact⟨h1,h2⟩
theorem fJ.form {q:Rat} (h:fJ w v q):∃ s p n c t r m d,v=.agg #[.bool s,.slice p n c,.bool t,.slice r m d]:=by
 obtain⟨s,p,n,c,t,r,m,d,hv,_⟩:=h;exact⟨_,_,_,_,_,_,_,_,hv⟩
theorem cH.form {q:Rat} (h:cH w B v q):∃ s p n c t r m d,v=.agg #[.bool s,.slice p n c,.bool t,.slice r m d]:=h.rd.form
theorem uY (hY:0<Y):X.fdiv (Int.gcd X Y:Int)=(Rat.divInt X Y).num/\Y.fdiv (Int.gcd X Y:Int)=((Rat.divInt X Y).den:Int):=by
 have hg:(0:Int)<(Int.gcd X Y:Int):=by
  have:Int.gcd X Y≠0:=λe=>by have:=(Gg.1 e).2;omega
  omega
 rw[Rat.num_divInt,Rat.den_divInt,if_neg ae,er hY,Int.one_mul,Int.gcd_comm Y X];refine⟨Kl _ ae,?_⟩;rw[Kl _ ae,Int.natCast_ediv]
 congr 1
 omega
theorem low_neg (hY:Y<0):X.fdiv (-(Int.gcd X Y:Int))=(Rat.divInt X Y).num/\Y.fdiv (-(Int.gcd X Y:Int))=((Rat.divInt X Y).den:Int):=by
 have e:Rat.divInt X Y=Rat.divInt (-X) (-Y):=(Rat.neg_divInt_neg X Y).symm;obtain⟨h1,h2⟩:=uY (X:= -X) (Y:= -Y) ae;rw[Int.neg_gcd,Int.gcd_neg] at h1 h2;rw[e,<-h1,<-h2];have fd:∀ a b:Int,(-a).fdiv b=a.fdiv (-b):=λa b=>by rw[<-Int.neg_fdiv_neg,Int.neg_neg]
 exact⟨(fd _ _).symm,(fd _ _).symm⟩
end
end Go.Proofs.YtphfjihmohoffaaGreat
