/-Gb of the proof,laid behind one another. -/
import Derived.Test.YtabalinjfgcfeaaGreatKInterestKnown2
set_option linter.all false
set_option maxHeartbeats 64000000
namespace Go.Proofs.YtabalinjfgcfeaaGreat
section
open Go.RowKit
variable {fs:Array Field} {P:Program} {t:TypeId}
theorem bld_of {zero:Value} {places:Array (Nat×Nat)} (hz:∀ w,(zeroValue t).run P w=.ok zero w) (hu:P.underlying t=some (.struct fs))
  (hp:∀ w,(fs.mapM (λf=>do pure (f.offset,<-sizeOf f.type)):Sem (Array (Nat×Nat))).run P w=.ok places w) (ps:Array (Nat×Value)) (w:World) (cs:Array Value)
  (h:Instr.fill (places[·]?) zero.cells ps.toList=some cs):(Instr.build t ps).run P w=.ok (.agg cs) w:=by
 unfold Instr.build;simp only[Sem.run_bind,hz,Result.andThen_ok,run_underlying hu,hp];rw[h];rfl
variable {cs:Array Value} {f:Field} {w:World}
theorem fld_agg {k:Nat} (o n:Nat) (hu:P.underlying t=some (.struct fs)) (hf:fs[k]? =some f) (ho:f.offset=o) (hb:∀ w,(isAgg f.type).run P w=.ok true w) (hs:∀ w,(sizeOf f.type).run P w=.ok n w)
  {v:Value} (h:some (Value.agg (cs.extract o (o+n)))=some v):(Instr.field t (.agg cs) k).run P w=.ok v w:=by
 cases h;subst ho;unfold Instr.field;simp[run_underlying hu,hf,asAgg,part,hb,hs]
theorem fld_one {k:Nat} (o:Nat) (hu:P.underlying t=some (.struct fs)) (hf:fs[k]? =some f) (ho:f.offset=o) (hb:∀ w,(isAgg f.type).run P w=.ok false w)
  {v:Value} (h:cs[o]? =some v):(Instr.field t (.agg cs) k).run P w=.ok v w:=by
 subst ho;unfold Instr.field;simp[run_underlying hu,hf,asAgg,part,hb,h]
inductive Xa (P:Program) (t:TypeId):Nat->List Field->List (Nat×Nat)->List Bool->Prop
 | nil {j:Nat}:Xa P t j [] [] []
 | cons {j:Nat} {f:Field} {fs:List Field} {p:Nat×Nat} {ps:List (Nat×Nat)} {a:Bool} {gs:List Bool} (h1:∀ b o w,(Instr.fieldAt t (.pointer (some ⟨b,o,none⟩)) j).run P w=.ok (.pointer (some ⟨b,o+p.1,none⟩)) w) (h2:f.offset=p.1) (h3:∀ w,(isAgg f.type).run P w=.ok a w) (h4:a=true->∀ w,(sizeOf f.type).run P w=.ok p.2 w) (h:Xa P t (j+1) fs ps gs):Xa P t j (f::fs) (p::ps) (a::gs)
theorem Xa.get {j:Nat} {fs:List Field} {ps:List (Nat×Nat)} {gs:List Bool} (h:Xa P t j fs ps gs):∀ (k:Nat) (p:Nat×Nat),ps[k]? =some p->(∀ b o w,(Instr.fieldAt t (.pointer (some ⟨b,o,none⟩)) (j+k)).run P w=.ok (.pointer (some ⟨b,o+p.1,none⟩)) w)/\∃ f a,fs[k]? =some f/\gs[k]? =some a/\f.offset=p.1/\(∀ w,(isAgg f.type).run P w=.ok a w)/\(a=true->∀ w,(sizeOf f.type).run P w=.ok p.2 w):=by
 induction h with
 | nil=>intro k p e;simp at e
 | cons h1 h2 h3 h4 _ ih=>
   intro k p e;cases k with
   | zero=>simp at e;cases e;exact⟨h1,_,_,aa,aa,h2,h3,h4⟩
   | succ k=>
     have:=ih k p (by simpa using e);rw[show ∀ j:Nat,j+1+k=j+(k+1) from λj=>ab] at this;simpa using this
@[reducible] def tF (z:Value) (b:Bool) (e:Option (TypeId×Nat)) (k:Option IntKind) (p:Bool):TI:={ size:=1,agg:=false,zero:=z,places:=#[],WH:=#[],bool:=b,elem:=e,kind:=k,ptr:=p }
@[reducible] def tA (n:Nat) (z:Array Value) (p:Array (Nat×Nat)) (a:Array Bool):TI:={ size:=n,agg:=true,zero:=.agg z,places:=p,WH:=a,bool:=false,elem:=none,kind:=none }
theorem okF {z:Value} {b:Bool} {e:Option (TypeId×Nat)} {k:Option IntKind} {p:Bool} {d:TypeDesc} (hu:P.underlying t=some d) (hb:b=true->P.underlying t=some .bool:=by intro h;cases h;try kernel_rfl) (hs:∀ c n,e=some (c,n)->P.underlying t=some (.slice c)/\∀ w,(sizeOf c).run P w=.ok n w:=by intro c n h;cases h;try (constructor;kernel_rfl;intro w;kernel_rfl)) (hi:∀ q,k=some q->P.underlying t=some (.int q):=by intro q h;cases h;try kernel_rfl) (hp:p=true->P.underlying t=some (.pointer (P.pointee t)):=by intro h;cases h;try kernel_rfl)
  (hr:d.isRow=false:=by rfl) (h1:(P.info? t).map (·.size)=some 1:=by kernel_rfl) (h2:z.cells.size=1:=by rfl) (h3:(P.info? t).map (·.zero)=some (some z):=by kernel_rfl) (h4:(P.info? t).map (λq=>Nat.ble q.bytes (24*1))=some true:=by kernel_rfl) (h5:∀ w,(zeroValue t).run P w=.ok z w:=by intro w;kernel_rfl):TI.Ok P t (tF z b e k p) where
 row:=⟨_,hu,hr⟩
 isBool:=hb
 isSlice:=hs
 isInt:=hi
 UE:=hp
 GN:=h2
 Kl:=h3
 bytes:=h4
 pos:=bL 1
 lone:=λ_=>aa
 size:=h1
 zero:=h5
 Zv:=λk p hp b o w=>by simp at hp
 Pd:=λk p hp cs w v hv=>by simp at hp
 bld:=λh=>by cases h
theorem Mb {n:Nat} {z:Array Value} {p:Array (Nat×Nat)} {a:Array Bool} (hu:P.underlying t=some (.struct fs)) (hf:Xa P t 0 fs.toList p.toList a.toList:=by repeat first|exact .nil|refine .cons (λb o w=>by kernel_rfl) rfl (λw=>by kernel_rfl) (by intro h;cases h;try (intro w;kernel_rfl)) ?_)
  (h1:(P.info? t).map (·.size)=some n:=by kernel_rfl) (h2:z.size=n:=by rfl) (h3:(P.info? t).map (·.zero)=some (some (.agg z)):=by kernel_rfl) (h4:(P.info? t).map (λq=>Nat.ble q.bytes (24*n))=some true:=by kernel_rfl) (h5:∀ w,(zeroValue t).run P w=.ok (.agg z) w:=by intro w;kernel_rfl) (h6:0<n:=by exact bM aa) (h7:∀ w,(fs.mapM (λf=>do pure (f.offset,<-sizeOf f.type)):Sem (Array (Nat×Nat))).run P w=.ok p w:=by intro w;kernel_rfl):TI.Ok P t (tA n z p a) where
 row:=⟨_,hu,aa⟩
 isBool:=λh=>by cases h
 isSlice:=λe n h=>by cases h
 isInt:=λk h=>by cases h
 GN:=h2
 Kl:=h3
 bytes:=h4
 pos:=h6
 lone:=λh=>by cases h
 size:=h1
 zero:=h5
 Zv:=λk q hq b o w=>by
  have:=(hf.get k q (by simpa using hq)).1 b o w
  rwa [jt] at this
 Pd:=λk q hq cs w v hv=>by
  obtain⟨_,f,x,e1,e2,e3,e4,e5⟩:=hf.get k q (by simpa using hq);rw[Array.getElem?_toList] at e1 e2;rw[e2] at hv;cases x
  ·exact fld_one q.1 hu e1 e3 e4 hv
  ·exact fld_agg q.1 q.2 hu e1 e3 e4 (e5 aa) hv
 bld:=λ_=>bld_of h5 hu h7
theorem tb {u:TypeId} {i x:TI} {r:Option TI} (hk:TI.Ok P u i) (hr:r=some x->TI.Ok P t x) (h:(bif Nat.beq t u then some i else r)=some x):TI.Ok P t x:=by
 cases hb:Nat.beq t u
 ·rw[hb] at h;exact hr h
 ·rw[hb] at h;cases h;rw[qC hb];exact hk
def ti0:TI:=tF (.int .i64 0) false none (some .i64) false
theorem ok0:TI.Ok Tryz.prog 2 ti0:=okF Tryz.underlying2
def ti1:TI:=tF (.int .i64 0) false none (some .i64) false
theorem ok1:TI.Ok Tryz.prog 3 ti1:=okF Tryz.underlying3
def ti2:TI:=tF (.bool false) true none none false
theorem ok2:TI.Ok Tryz.prog 4 ti2:=okF Tryz.underlying4
def ti3:TI:=tF (.int .u8 0) false none (some .u8) false
theorem ok3:TI.Ok Tryz.prog 5 ti3:=okF Tryz.underlying5
def ti4:TI:=tF (.string ⟨#[]⟩) false none none false
theorem ok4:TI.Ok Tryz.prog 9 ti4:=okF Tryz.underlying9
def ti5:TI:=tF (.int .u64 0) false none (some .u64) false
theorem ok5:TI.Ok Tryz.prog 12 ti5:=okF Tryz.underlying12
def ti6:TI:=tF (.slice none 0 0) false (some (117,1)) none false
theorem ok6:TI.Ok Tryz.prog 22 ti6:=okF rL
def ti7:TI:=tA 2 #[.bool false,.slice none 0 0] #[(0,1),(1,1)] #[false,false]
theorem ok7:TI.Ok Tryz.prog 24 ti7:=Mb Tryz.underlying24
def ti8:TI:=tA 4 #[.bool false,.slice none 0 0,.bool false,.slice none 0 0] #[(0,2),(2,2)] #[true,true]
theorem ok8:TI.Ok Tryz.prog 26 ti8:=Mb Tryz.underlying26
def ti9:TI:=tA 9 #[.bool false,.slice none 0 0,.bool false,.slice none 0 0,.bool false,.slice none 0 0,.bool false,.slice none 0 0,.int .i64 0] #[(0,4),(4,4),(8,1)] #[true,true,false]
theorem ok9:TI.Ok Tryz.prog 28 ti9:=Mb Tryz.underlying28
def ti10:TI:=tF (.slice none 0 0) false (some (51,8)) none false
theorem ok10:TI.Ok Tryz.prog 29 ti10:=okF Tryz.underlying29
def ti11:TI:=tF (.slice none 0 0) false (some (41,28)) none false
theorem ok11:TI.Ok Tryz.prog 33 ti11:=okF Tryz.underlying33
def ti12:TI:=tF (.slice none 0 0) false (some (44,6)) none false
theorem ok12:TI.Ok Tryz.prog 34 ti12:=okF Tryz.underlying34
def ti13:TI:=tA 2 #[.slice none 0 0,.slice none 0 0] #[(0,1),(1,1)] #[false,false]
theorem ok13:TI.Ok Tryz.prog 36 ti13:=Mb Tryz.underlying36
def ti14:TI:=tF (.int .i64 0) false none (some .i64) false
theorem ok14:TI.Ok Tryz.prog 37 ti14:=okF Tryz.underlying37
def ti15:TI:=tA 28 #[.bool false,.slice none 0 0,.bool false,.slice none 0 0,.bool false,.slice none 0 0,.bool false,.slice none 0 0,.bool false,.slice none 0 0,.bool false,.slice none 0 0,.bool false,.slice none 0 0,.bool false,.slice none 0 0,.bool false,.slice none 0 0,.bool false,.slice none 0 0,.bool false,.slice none 0 0,.bool false,.slice none 0 0,.bool false,.slice none 0 0,.bool false,.slice none 0 0] #[(0,4),(4,4),(8,4),(12,4),(16,4),(20,4),(24,4)] #[true,true,true,true,true,true,true]
theorem ok15:TI.Ok Tryz.prog 41 ti15:=Mb Tryz.underlying41
def ti16:TI:=tA 6 #[.int .i64 0,.int .i64 0,.bool false,.slice none 0 0,.bool false,.slice none 0 0] #[(0,1),(1,1),(2,4)] #[false,false,true]
theorem ok16:TI.Ok Tryz.prog 44 ti16:=Mb Tryz.underlying44
def ti17:TI:=tA 8 #[.bool false,.slice none 0 0,.bool false,.slice none 0 0,.bool false,.slice none 0 0,.bool false,.slice none 0 0] #[(0,4),(4,4)] #[true,true]
theorem ok17:TI.Ok Tryz.prog 51 ti17:=Mb Tryz.underlying51
def ti18:TI:=tA 2 #[.bool false,.slice none 0 0] #[(0,1),(1,1)] #[false,false]
theorem ok18:TI.Ok Tryz.prog 53 ti18:=Mb Tryz.underlying53
def ti19:TI:=tA 4 #[.bool false,.slice none 0 0,.bool false,.slice none 0 0] #[(0,2),(2,2)] #[true,true]
theorem ok19:TI.Ok Tryz.prog 55 ti19:=Mb Tryz.underlying55
def ti20:TI:=tA 9 #[.bool false,.slice none 0 0,.bool false,.slice none 0 0,.bool false,.slice none 0 0,.bool false,.slice none 0 0,.int .i64 0] #[(0,4),(4,4),(8,1)] #[true,true,false]
theorem ok20:TI.Ok Tryz.prog 57 ti20:=Mb Tryz.underlying57
def ti21:TI:=tF (.slice none 0 0) false (some (100,8)) none false
theorem ok21:TI.Ok Tryz.prog 59 ti21:=okF Tryz.underlying59
def ti22:TI:=tF (.slice none 0 0) false (some (108,28)) none false
theorem ok22:TI.Ok Tryz.prog 61 ti22:=okF Tryz.underlying61
def ti23:TI:=tF (.slice none 0 0) false (some (106,6)) none false
theorem ok23:TI.Ok Tryz.prog 62 ti23:=okF Tryz.underlying62
def ti24:TI:=tA 2 #[.slice none 0 0,.slice none 0 0] #[(0,1),(1,1)] #[false,false]
theorem ok24:TI.Ok Tryz.prog 64 ti24:=Mb Tryz.underlying64
def ti25:TI:=tF (.slice none 0 0) false (some (26,4)) none false
theorem ok25:TI.Ok Tryz.prog 73 ti25:=okF Tryz.underlying73
def ti26:TI:=tF (.pointer none) false none none true
theorem ok26:TI.Ok Tryz.prog 84 ti26:=okF Tryz.underlying84
def ti27:TI:=tF (.slice none 0 0) false (some (92,5)) none false
theorem ok27:TI.Ok Tryz.prog 85 ti27:=okF Tryz.underlying85
def ti28:TI:=tA 1 #[.slice none 0 0] #[(0,1)] #[false]
theorem ok28:TI.Ok Tryz.prog 87 ti28:=Mb Tryz.underlying87
def ti29:TI:=tA 3 #[.slice none 0 0,.slice none 0 0,.slice none 0 0] #[(0,1),(1,2)] #[true,true]
theorem ok29:TI.Ok Tryz.prog 89 ti29:=Mb Tryz.underlying89
def ti30:TI:=tA 5 #[.int .i64 0,.bool false,.slice none 0 0,.bool false,.slice none 0 0] #[(0,1),(1,4)] #[false,true]
theorem ok30:TI.Ok Tryz.prog 92 ti30:=Mb Tryz.underlying92
def ti31:TI:=tA 8 #[.bool false,.slice none 0 0,.bool false,.slice none 0 0,.bool false,.slice none 0 0,.bool false,.slice none 0 0] #[(0,4),(4,4)] #[true,true]
theorem ok31:TI.Ok Tryz.prog 100 ti31:=Mb Tryz.underlying100
def ti32:TI:=tF (.slice none 0 0) false (some (55,4)) none false
theorem ok32:TI.Ok Tryz.prog 102 ti32:=okF Tryz.underlying102
def ti33:TI:=tA 6 #[.int .i64 0,.int .i64 0,.bool false,.slice none 0 0,.bool false,.slice none 0 0] #[(0,1),(1,1),(2,4)] #[false,false,true]
theorem ok33:TI.Ok Tryz.prog 106 ti33:=Mb Tryz.underlying106
def ti34:TI:=tA 28 #[.bool false,.slice none 0 0,.bool false,.slice none 0 0,.bool false,.slice none 0 0,.bool false,.slice none 0 0,.bool false,.slice none 0 0,.bool false,.slice none 0 0,.bool false,.slice none 0 0,.bool false,.slice none 0 0,.bool false,.slice none 0 0,.bool false,.slice none 0 0,.bool false,.slice none 0 0,.bool false,.slice none 0 0,.bool false,.slice none 0 0,.bool false,.slice none 0 0] #[(0,4),(4,4),(8,4),(12,4),(16,4),(20,4),(24,4)] #[true,true,true,true,true,true,true]
theorem ok34:TI.Ok Tryz.prog 108 ti34:=Mb Tryz.underlying108
def ti35:TI:=tF (.int .u32 0) false none (some .u32) false
theorem ok35:TI.Ok Tryz.prog 117 ti35:=okF Tryz.underlying117
def ti36:TI:=tF (.pointer none) false none none true
theorem ok36:TI.Ok Tryz.prog 133 ti36:=okF Tryz.underlying133
def ti37:TI:=tA 2 #[.bool false,.slice none 0 0] #[(0,2)] #[true]
theorem ok37:TI.Ok Tryz.prog 137 ti37:=Mb Tryz.underlying137
def ti38:TI:=tF (.slice none 0 0) false (some (3,1)) none false
theorem ok38:TI.Ok Tryz.prog 156 ti38:=okF JN
def ti39:TI:=tA 4 #[.bool false,.slice none 0 0,.bool false,.slice none 0 0] #[(0,4)] #[true]
theorem ok39:TI.Ok Tryz.prog 162 ti39:=Mb Tryz.underlying162
def ti40:TI:=tF (.pointer none) false none none true
theorem ok40:TI.Ok Tryz.prog 164 ti40:=okF Tryz.underlying164
def ti41:TI:=tF (.int .u64 0) false none (some .u64) false
theorem ok41:TI.Ok Tryz.prog 167 ti41:=okF Tryz.underlying167
def ti42:TI:=tF (.int .u64 0) false none (some .u64) false
theorem ok42:TI.Ok Tryz.prog 168 ti42:=okF Tryz.underlying168
def ti43:TI:=tF (.slice none 0 0) false (some (22,1)) none false
theorem ok43:TI.Ok Tryz.prog 185 ti43:=okF Tryz.underlying185
def ti44:TI:=tF (.pointer none) false none none true
theorem ok44:TI.Ok Tryz.prog 214 ti44:=okF Tryz.underlying214
def table (t:TypeId):Option TI:=
 bif Nat.beq t 2 then some ti0 else
 bif Nat.beq t 3 then some ti1 else
 bif Nat.beq t 4 then some ti2 else
 bif Nat.beq t 5 then some ti3 else
 bif Nat.beq t 9 then some ti4 else
 bif Nat.beq t 12 then some ti5 else
 bif Nat.beq t 22 then some ti6 else
 bif Nat.beq t 24 then some ti7 else
 bif Nat.beq t 26 then some ti8 else
 bif Nat.beq t 28 then some ti9 else
 bif Nat.beq t 29 then some ti10 else
 bif Nat.beq t 33 then some ti11 else
 bif Nat.beq t 34 then some ti12 else
 bif Nat.beq t 36 then some ti13 else
 bif Nat.beq t 37 then some ti14 else
 bif Nat.beq t 41 then some ti15 else
 bif Nat.beq t 44 then some ti16 else
 bif Nat.beq t 51 then some ti17 else
 bif Nat.beq t 53 then some ti18 else
 bif Nat.beq t 55 then some ti19 else
 bif Nat.beq t 57 then some ti20 else
 bif Nat.beq t 59 then some ti21 else
 bif Nat.beq t 61 then some ti22 else
 bif Nat.beq t 62 then some ti23 else
 bif Nat.beq t 64 then some ti24 else
 bif Nat.beq t 73 then some ti25 else
 bif Nat.beq t 84 then some ti26 else
 bif Nat.beq t 85 then some ti27 else
 bif Nat.beq t 87 then some ti28 else
 bif Nat.beq t 89 then some ti29 else
 bif Nat.beq t 92 then some ti30 else
 bif Nat.beq t 100 then some ti31 else
 bif Nat.beq t 102 then some ti32 else
 bif Nat.beq t 106 then some ti33 else
 bif Nat.beq t 108 then some ti34 else
 bif Nat.beq t 117 then some ti35 else
 bif Nat.beq t 133 then some ti36 else
 bif Nat.beq t 137 then some ti37 else
 bif Nat.beq t 156 then some ti38 else
 bif Nat.beq t 162 then some ti39 else
 bif Nat.beq t 164 then some ti40 else
 bif Nat.beq t 167 then some ti41 else
 bif Nat.beq t 168 then some ti42 else
 bif Nat.beq t 185 then some ti43 else
 bif Nat.beq t 214 then some ti44 else none
theorem xd:∀ t i,table t=some i->TI.Ok Tryz.prog t i:=λt i=>tb ok0 (tb ok1 (tb ok2 (tb ok3 (tb ok4 (tb ok5 (tb ok6 (tb ok7 (tb ok8 (tb ok9 (tb ok10 (tb ok11 (tb ok12 (tb ok13 (tb ok14 (tb ok15 (tb ok16 (tb ok17 (tb ok18 (tb ok19 (tb ok20 (tb ok21 (tb ok22 (tb ok23 (tb ok24 (tb ok25 (tb ok26 (tb ok27 (tb ok28 (tb ok29 (tb ok30 (tb ok31 (tb ok32 (tb ok33 (tb ok34 (tb ok35 (tb ok36 (tb ok37 (tb ok38 (tb ok39 (tb ok40 (tb ok41 (tb ok42 (tb ok43 (tb ok44 (λh=>by cases h)))))))))))))))))))))))))))))))))))))))))))))
abbrev UU:TypeId:=117
abbrev cH (P:Program) (w:World) (N:Nat):Cx:={ P:=P,w0:=w,N:=N,K:=KU UU,SU:=λt=>Nat.beq t 22,ti:=table,keep:=λ_ _=>trivial }
abbrev KI:KC:=⟨UU,λ_=>True,λt=>Nat.beq t 3⟩
abbrev Sw (P:Program) (w:World) (N:Nat):Cx:={ P:=P,w0:=w,N:=N,K:=KI,SU:=λt=>Nat.beq t 22 || Nat.beq t 156,ti:=table,keep:=λ_ _=>trivial }
theorem uM (w:World) (N:Nat):(Sw Tryz.prog w N).Ok:=xd
theorem qq (w:World) (N:Nat):(Sw Tryz.prog w N).P.follows .mixedOrders=true:=by show Tryz.prog.follows .mixedOrders=true;kernel_rfl
abbrev Ys (P:Program) (w:World) (N:Nat) (ad:List Nat) (hd:ad.Nodup) (ha:AY (KU UU) ad w):Cx:=WZ P w N (KU UU) (λt=>Nat.beq t 22) table (λ_ _=>trivial) ad hd ha
theorem cP (w:World) (N:Nat) {ad:List Nat} {hd:ad.Nodup} {ha:AY (KU UU) ad w}:(Ys Tryz.prog w N ad hd ha).Ok:=xd
theorem qu (w:World) (N:Nat) {ad:List Nat} {hd:ad.Nodup} {ha:AY (KU UU) ad w}:(Ys Tryz.prog w N ad hd ha).P.follows .mixedOrders=true:=by show Tryz.prog.follows .mixedOrders=true;kernel_rfl
theorem dD (w:World) (N:Nat):(cH Tryz.prog w N).Ok:=xd
theorem AZ (w:World) (N:Nat):(cH Tryz.prog w N).P.follows .mixedOrders=true:=by show Tryz.prog.follows .mixedOrders=true;kernel_rfl
section
variable {C:Cx} {m:Option (List FuncId)} {full:Array Oper} {K:Fr->Hp->World->Prop} {F F':Fr} {H H':Hp} {w w1:World} {N:Nat} {o:Oper} {r l l':List Oper} {Q:Exit->Act->World->Prop} {k k':List It} {v:AV} {u:Option (Nat×(TypeId×List AV))} {id:Nat} {ops:Array Oper}
theorem wN (h:K F H w):aG C m full [] K F H w:=VO.nil h
theorem wV (e:xc C full 80 l F H=(l',F',H')) (h:aG C m full l' K F' H' w):aG C m full l K F H w:=VO.run 80 e h
theorem wO (e:stepOf C full F H o=.iA v u) (e':xc C full 80 r (F.cw o.dst v) (H.upd u)=(l',F',H')) (h:aG C m full l' K F' H' w):aG C m full (o::r) K F H w:=VO.op1 e (VO.run 80 e' h)
theorem cx_r (e:xc (cH Tryz.prog w1 N) ops 80 ops.toList F H=(l',F',H')) (h:aG (cH Tryz.prog w1 N) none ops l' (VS (cH Tryz.prog w1 N) Q k) F' H' w):VS (cH Tryz.prog w1 N) Q (.code (.region id ops false)::k) F H w:=VS.region (dD _ _) (VO.run 80 e h)
theorem cx_d (e:xc (cH Tryz.prog w1 N) ops 80 ops.toList F H=(l',F',H')) (h:aG (cH Tryz.prog w1 N) (some []) ops l' (VS (cH Tryz.prog w1 N) Q k) F' H' w) (oc:uK (cH Tryz.prog w1 N).SU [] ops=true:=by kernel_rfl):VS (cH Tryz.prog w1 N) Q (.code (.region id ops true)::k) F H w:=VS.draw (dD _ _) (AZ _ _) [] oc (VO.run 80 e h)
theorem KJ (e:xc (Sw Tryz.prog w1 N) ops 80 ops.toList F H=(l',F',H')) (h:aG (Sw Tryz.prog w1 N) none ops l' (VS (Sw Tryz.prog w1 N) Q k) F' H' w):VS (Sw Tryz.prog w1 N) Q (.code (.region id ops false)::k) F H w:=VS.region (uM _ _) (VO.run 80 e h)
theorem cxI_d (e:xc (Sw Tryz.prog w1 N) ops 80 ops.toList F H=(l',F',H')) (h:aG (Sw Tryz.prog w1 N) (some []) ops l' (VS (Sw Tryz.prog w1 N) Q k) F' H' w) (oc:uK (Sw Tryz.prog w1 N).SU [] ops=true:=by kernel_rfl):VS (Sw Tryz.prog w1 N) Q (.code (.region id ops true)::k) F H w:=VS.draw (uM _ _) (qq _ _) [] oc (VO.run 80 e h)
theorem KL {ad:List Nat} {hd:ad.Nodup} {ha:AY (KU UU) ad w1} (e:xc (Ys Tryz.prog w1 N ad hd ha) ops 80 ops.toList F H=(l',F',H')) (h:aG (Ys Tryz.prog w1 N ad hd ha) none ops l' (VS (Ys Tryz.prog w1 N ad hd ha) Q k) F' H' w):VS (Ys Tryz.prog w1 N ad hd ha) Q (.code (.region id ops false)::k) F H w:=VS.region (cP _ _) (VO.run 80 e h)
theorem cxA_d {ad:List Nat} {hd:ad.Nodup} {ha:AY (KU UU) ad w1} (e:xc (Ys Tryz.prog w1 N ad hd ha) ops 80 ops.toList F H=(l',F',H')) (h:aG (Ys Tryz.prog w1 N ad hd ha) (some []) ops l' (VS (Ys Tryz.prog w1 N ad hd ha) Q k) F' H' w) (oc:uK (Ys Tryz.prog w1 N ad hd ha).SU [] ops=true:=by kernel_rfl):VS (Ys Tryz.prog w1 N ad hd ha) Q (.code (.region id ops true)::k) F H w:=VS.draw (cP _ _) (qu _ _) [] oc (VO.run 80 e h)
def peel (F:Fr):List It->Option (List It)
 | .code (.seq x y)::k=>some (.code x::.code y::k)
 | .code (.block id c)::k=>some (.code c::.pk id::k)
 | .pk _::k=>some k
 | .code .skip::k=>some k
 | .code (.exit id)::k=>pop id k
 | .code (.cond c x y)::k=>(match pw F c with
   | some (.bool true)=>some (.code x::k)
   | some (.bool false)=>some (.code y::k)
   | _=>none)
 | _=>none
theorem wP (e:peel F k=some k') (h:VS C Q k' F H w):VS C Q k F H w:=by
 unfold peel at e
 split at e
 ·cases e;exact VS.seq h
 ·cases e;exact VS.block h
 ·cases e;exact VS.pk h
 ·cases e;exact VS.skip h
 ·exact VS.exit e h
 ·split at e
  ·rename_i hc;cases e;exact VS.condT hc h
  ·rename_i hc;cases e;exact VS.condF hc h
  ·cases e
 ·cases e
theorem fk {P:Program} {g:FuncId} {fn:Func} (h:P.funcs[g]? =some fn) (h1:(fn.name == "runtime.NumGoroutine")=false:=by kernel_rfl) (h2:fn.body.isNone=false:=by kernel_rfl):rA P g:=⟨fn,h,h1,h2⟩
theorem kU (w:World):bQ (KU UU) w w:=bQ.refl _ _
theorem kR {k:KC} (w:World):bQ k w w:=bQ.refl _ _
theorem kT {k:KC} {a b c:World} (h:bQ k a b) (h':bQ k b c):bQ k a c:=h.aR h'
end
end
section
open Go.RowKit
theorem qT (neg:Bool) (p:Option Addr) (n c:Nat) (w:World):
  Calls Tryz.prog 80 #[.bool neg,.slice p n c] w λe w'=>e=.returned (.agg #[.bool (neg && decide (0<n)),.slice p n c])/\aU w w':=by
 refine bG λR' di=> ?_;go_enter Tryz.func80,Tryz.ntmps80
 cases neg
 ·go_wp2
  exact bodyPost_ret (v:=.agg #[.bool false,.slice p n c]) (by simp[results,Tryz.results80,go_sem]) aa (di.out _ _ ⟨aa,(aU.refl w).alloc _⟩)
 ·go_wp2
  exact bodyPost_ret (v:=.agg #[.bool (decide (0<n)),.slice p n c]) (by simp[results,Tryz.results80,go_sem]) aa (di.out _ _ ⟨aa,(aU.refl w).alloc _⟩)
theorem jF (neg:Bool) (p:Option Addr) (n c:Nat) (w:World):
  Calls Tryz.prog 80 #[.bool neg,.slice p n c] w λe w'=>∃ sg,e=.returned (.agg #[.bool sg,.slice p n c])/\Hid (sg=(neg && decide (0<n)))/\aU w w':=
 (qT neg p n c w).mono λ_ _ ⟨h,hb⟩=>⟨_,h,af rfl,hb⟩
theorem zp (neg:Bool) (xs:List Nat) (v:Value) (w:World) (h:jv w v neg xs):
  Calls Tryz.prog 102 #[v] w λe w'=>e=.returned (.bool (fy neg xs))/\aU w w':=by
 obtain⟨p,c,rfl,hr,hl⟩:=h;obtain⟨p',c',hv,il,iC,-⟩:=hr.u32;simp only[Value.slice.injEq,true_and] at hv;obtain⟨rfl,rfl⟩:=hv;refine bG λR' di=> ?_;by_cases hx:xs=[]
 ·subst hx;simp only[List.length_nil,zc] at*;go_enter Tryz.func102,Tryz.ntmps102
  cases neg
  ·go_wp2
   exact di.out _ _ ⟨aa,(aU.refl w).alloc _⟩
  ·go_wp2
   exact di.out _ _ ⟨aa,(aU.refl w).alloc _⟩
 ·obtain⟨m,hm⟩:∃ m,xs.length=m+1:=⟨xs.length-1,by have:=List.length_pos_iff.2 hx;omega⟩;generalize hn:xs.length=n at*;obtain⟨b,off,x,rfl,hb,hxm,hc⟩:=hr.cellAt (k:=m) ab;have h1:fy neg xs=decide (x≠0):=Dl (by rw[hn,hm];exact hxm);rw[h1] at di;have hz:((n:Int) == 0)=false:=by rw[iZ];omega
  have hp:(0:Int)<(n:Int):=ab;have hw:IntKind.i64.wrap ((n:Int)-1)=(m:Int):=by rw[cV _ ab];omega
  have hlt:(m:Int)<(n:Int):=ab;have HN:=af hn;have hpn:0<n:=ab;clear hx hm hn h1 hxm hr hl;go_enter Tryz.func102,Tryz.ntmps102
  by_cases my:x=0
  ·subst my;cases neg
   ·go_wp2
    exact di.out _ _ ⟨aa,(aU.refl w).alloc _⟩
   ·go_wp2
    exact di.out _ _ ⟨aa,(aU.refl w).alloc _⟩
  ·have UR:((x:Int) != 0)=true:=by rw[bne_iff_ne];omega
   rw[aE my] at di;clear my;cases neg
   ·go_wp2
    exact di.out _ _ ⟨aa,(aU.refl w).alloc _⟩
   ·go_wp2
    exact di.out _ _ ⟨aa,(aU.refl w).alloc _⟩
theorem kM (v:Value) (X:Int) (k:Nat) (w0 w:World) (h:dL w0 v X k) (yj:aU w0 w):
  Calls Tryz.prog 79 #[v] w λe w'=>∃ u,e=.returned u/\dX w0 u X/\aU w w':=by
 obtain⟨neg,xs,hn,rfl,hk⟩:=h;refine bG λR' di=> ?_;have HN:=af hn;obtain⟨p,c,rfl,hr,hl⟩:=hn;clear hr;go_enter Tryz.func79,Tryz.ntmps79
 go_wp2_with fail
 refine (zp neg xs _ _ ((HN.out.bI yj).bI (((aU.refl w).alloc _).alloc _))).mono ?_;rintro e w1 ⟨rfl,bA⟩;obtain⟨b1,b2,sZ⟩:=sO w 24 137 #[.bool neg,.slice p xs.length c] #[.bool false,.slice none 0 0];obtain⟨c1,c2,_,_⟩:=(b1.bI bA).two;obtain⟨c3,c4,f3,f4⟩:=(b2.bI bA).two;have nB:aU w w1:=sZ.aR bA;cases ym:fy neg xs
 ·have B2:=(b2.bI bA).dw (.bool false) (.slice none 0 0);have Dk:=nB.dw (b:=w.heap.size+1) ab (.bool false) (.slice none 0 0);go_wp2
  generalize (w1.setCell ⟨w.heap.size+1,0,none⟩ (.bool false)).setCell ⟨w.heap.size+1,1,none⟩ (.slice none 0 0)=w2 at*;obtain⟨d1,d2,_,_⟩:=B2.two;refine bodyPost_ret (v:=.agg #[.bool false,.slice none 0 0]) (by simp[results,Tryz.results79,go_sem,d1,d2]) aa (di.out _ _ ⟨_,aa,?_,Dk⟩);rw[numOf,if_neg (by simp[ym])];exact dX.zero _
 ·have B2:=(b2.bI bA).dw (.bool neg) (.slice p xs.length c);have Dk:=nB.dw (b:=w.heap.size+1) ab (.bool neg) (.slice p xs.length c);go_wp2
  generalize (w1.setCell ⟨w.heap.size+1,0,none⟩ (.bool neg)).setCell ⟨w.heap.size+1,1,none⟩ (.slice p xs.length c)=w2 at*;obtain⟨d1,d2,_,_⟩:=B2.two;refine bodyPost_ret (v:=.agg #[.bool neg,.slice p xs.length c]) (by simp[results,Tryz.results79,go_sem,d1,d2]) aa (di.out _ _ ⟨_,aa,?_,Dk⟩);rw[numOf,if_pos ym];obtain⟨h1,h2⟩:=canon hl ym;have:=HN.out;show jv _ _ _ _;rw[<-h1,<-h2];exact this
end
section
open Go.RowKit
theorem dX.split {w:World} {v:Value} {X:Int} (h:dX w v X):∃ s p c,v=.agg #[.bool s,.slice p (limbs X.natAbs).length c]/\Rd w 1 (.slice p (limbs X.natAbs).length c) (limbs X.natAbs).length (ints .u32 (limbs X.natAbs))/\X=if s=true then-(X.natAbs:Int) else (X.natAbs:Int):=by
 obtain⟨p,c,hv,hr,_⟩:=h;refine⟨_,p,c,hv,hr,?_⟩
 split
 ·rename_i h;have:=CV h;omega
 ·rename_i h;have:¬ X<0:=λh'=>h (aE h');omega
theorem Hi (v:Value) (X:Int) (w:World) (h:dX w v X):
  Calls Tryz.prog 111 #[v] w λe w'=>∃ u,e=.returned u/\dX w' u (-X)/\aU w w':=by
 obtain⟨s,p,c,rfl,hr,hX⟩:=h.split;obtain⟨n,hn⟩:∃ n,n=(limbs X.natAbs).length:=⟨_,aa⟩;have HR:=af hr;have HN:=af hn;have HX:=af hX;rw[<-hn];clear hr hn hX h;refine bG λR' di=> ?_;obtain⟨b1,b2,sZ⟩:=sO w 137 137 #[.bool s,.slice p n c] #[.bool false,.slice none 0 0];go_enter Tryz.func111,Tryz.ntmps111
 go_wp2_with fail
 refine (qT _ _ _ _ _).mono ?_;rintro e w1 ⟨rfl,bA⟩;obtain⟨c3,c4,f3,f4⟩:=(b2.bI bA).two;have B2:=(b2.bI bA).dw (.bool (!s && decide (0<n))) (.slice p n c);have Dk:=(sZ.aR bA).dw (b:=w.heap.size+1) ab (.bool (!s && decide (0<n))) (.slice p n c);go_wp2
 generalize (w1.setCell ⟨w.heap.size+1,0,none⟩ (.bool (!s && decide (0<n)))).setCell ⟨w.heap.size+1,1,none⟩ (.slice p n c)=w2 at*;obtain⟨d1,d2,_,_⟩:=B2.two;refine bodyPost_ret (v:=.agg #[.bool (!s && decide (0<n)),.slice p n c]) (by simp[results,Tryz.results111,go_sem,d1,d2]) aa (di.out _ _ ⟨_,aa,?_,Dk⟩);have nC:=HR.out.below Dk;rw[<-HN.out] at nC;refine dX.of (m:=X.natAbs) (by rw[<-HN.out];exact nC) HN.out _ ?_;rw[HX.out];cases s <;> simp
theorem PK (v u:Value) (X Y:Int) (w:World) (hv:dX w v X) (hu:dX w u Y) (hx:(limbs X.natAbs).length<=1073741824) (hy:(limbs Y.natAbs).length<=1073741824):
  Calls Tryz.prog 110 #[v,u] w λe w'=>∃ r,e=.returned r/\aO w' w.heap.size r (X+Y)/\aU w w':=by
 obtain⟨s,p,c,rfl,nA,hX⟩:=hv.split;obtain⟨t,q,d,rfl,nC,hY⟩:=hu.split;obtain⟨n,hn⟩:∃ n,n=(limbs X.natAbs).length:=⟨_,aa⟩;obtain⟨m,hm⟩:∃ m,m=(limbs Y.natAbs).length:=⟨_,aa⟩;rw[<-hn] at nA hx ⊢;rw[<-hm] at nC hy ⊢;clear hv hu;refine bG λR' di=> ?_;obtain⟨b1,b2,b3,sZ⟩:=uE w 137 137 24 #[.bool s,.slice p n c] #[.bool t,.slice q m d] #[.bool false,.slice none 0 0];have r10:=af nA;have r20:=af nC;have r1:=af (nA.below sZ);have r2:=af (nC.below sZ);have HX:=af hX;have HY:=af hY;have HN:=af hn;have HM:=af hm;clear nA nC hX hY hn hm;go_enter Tryz.func110,Tryz.ntmps110
 by_cases hst:s=t
 ·subst hst;go_wp2_with fail
  generalize ((w.alloc _).alloc _).alloc _=W at*;obtain⟨c1,c2,_,_⟩:=b1.two;obtain⟨c3,c4,_,_⟩:=b2.two;obtain⟨c5,c6,f5,f6⟩:=b3.two;have HS:=af (λw' (h:aN W (w.heap.size+1+1) w')=>And.intro (h.cells b1 ab) (h.cells b2 ab))
  go_region_held3 (λw'=>(w'.cell? ⟨w.heap.size,0,none⟩=some (.bool s)/\w'.cell? ⟨w.heap.size,1,none⟩=some (.slice p n c))/\w'.cell? ⟨w.heap.size+1,0,none⟩=some (.bool s)/\w'.cell? ⟨w.heap.size+1,1,none⟩=some (.slice q m d)) ((refine HS.out _ ?_;(with_reducible (repeat (first|exact aN.refl _ _|refine aN.drew ?_|refine aN.drewN ?_ _|refine aN.alloc ?_ _|refine aN.set ?_ _|refine aN.aR ?_ (by assumption)|refine aN.wF ?_ (by first|omega|(simp;done)|(simp;omega)) _))))) (first
   | (go_at_call 130;refine (Ux _ _ n m _ _ _ r1.out.drew r2.out.drew (aK _) (aK _) ab ab).mono ?_;rintro e w1 ⟨v1,rfl,Cp,bA⟩;replace bA:aU _ w1:=bA;rw[aB,aB] at Cp;obtain⟨p1,k1,rfl,_,_,_⟩:=Own.form Cp)
   | (go_at_call 80;refine (qT _ _ _ _ _).mono ?_;rintro e w2 ⟨rfl,cC⟩;obtain⟨c5',c6',f5',f6'⟩:=((b3.drew.bI bA).bI cC).two))
  have B3:=((b3.drew.bI bA).bI cC).dw (.bool (s && decide (0<(limbs (X.natAbs+Y.natAbs)).length))) (.slice p1 (limbs (X.natAbs+Y.natAbs)).length k1);have nB:aU w w2:=sZ.aR (aU.aR (aU.aR (aU.refl W).drew bA) cC);have Yl:=nB.dw (b:=w.heap.size+1+1) ab (.bool (s && decide (0<(limbs (X.natAbs+Y.natAbs)).length))) (.slice p1 (limbs (X.natAbs+Y.natAbs)).length k1);have BP:=Own.below Cp cC;generalize hL:(limbs (X.natAbs+Y.natAbs)).length=L at*;have Zd:=af (Own.dw (b:=w.heap.size+1+1) BP (b3.drew.bI bA |>.bI cC) bq (.bool (s && decide (0<L))) (.slice p1 L k1));clear BP Cp nB;go_wp2
  generalize (w2.setCell ⟨w.heap.size+1+1,0,none⟩ (.bool (s && decide (0<L)))).setCell ⟨w.heap.size+1+1,1,none⟩ (.slice p1 L k1)=w3 at*;obtain⟨d1,d2,_,_⟩:=B3.two;refine bodyPost_ret (v:=.agg #[.bool (s && decide (0<L)),.slice p1 L k1]) (by simp[results,Tryz.results110,go_sem,d1,d2]) aa (di.out _ _ ⟨_,aa,?_,Yl⟩);refine aO.of (m:=X.natAbs+Y.natAbs) (by rw[hL];exact Own.mono Zd.out sZ.size) hL.symm _ ?_;rw[HX.out,HY.out];cases s <;> simp <;> omega
 ·have hst':(s == t)=false:=by cases s <;> cases t <;> simp_all
  go_wp2_with fail
  generalize ((w.alloc _).alloc _).alloc _=W at*;refine (Lv _ _ n m _ _ _ r1.out r2.out (aK _) (aK _)).mono ?_;rintro e w1 ⟨rfl,k1,rfl⟩;rw[aB,aB];by_cases hlt:X.natAbs<Y.natAbs
  ·have HLT:=af hlt;have hc:kD X.natAbs Y.natAbs<0:=oD.2 hlt;generalize kD X.natAbs Y.natAbs=cv at hc ⊢;obtain⟨c1,c2,f1,f2⟩:=(b1.drewN k1).two;obtain⟨c3,c4,f3,f4⟩:=(b2.drewN k1).two;have B1:=((b1.drewN k1).dw (.bool t) (.slice q m d)).gu (b':=w.heap.size+1) ab (.bool s) (.slice p n c);have B2:=((b2.drewN k1).gu (b':=w.heap.size) ab (.bool t) (.slice q m d)).dw (.bool s) (.slice p n c);have B3:=((b3.drewN k1).gu (b':=w.heap.size) ab (.bool t) (.slice q m d)).gu (b':=w.heap.size+1) ab (.bool s) (.slice p n c);have lM:=((sZ.drewN k1).dw (b:=w.heap.size) ab (.bool t) (.slice q m d)).dw (b:=w.heap.size+1) ab (.bool s) (.slice p n c);clear sZ b1 b2 b3 r1 r2 hlt;go_wp2_with fail
   generalize ((((W.drewN k1).setCell ⟨w.heap.size,0,none⟩ (.bool t)).setCell ⟨w.heap.size,1,none⟩ (.slice q m d)).setCell ⟨w.heap.size+1,0,none⟩ (.bool s)).setCell ⟨w.heap.size+1,1,none⟩ (.slice p n c)=W2 at*;clear c1 c2 c3 c4 f1 f2 f3 f4;refine (LC _ _ m n _ _ _ (r20.out.below lM) (r10.out.below lM) (aK _) (aK _) ab).mono ?_;rintro e w2 ⟨⟨h,_⟩|⟨_,v2,rfl,KM⟩,cC⟩
   ·rw[aB,aB] at h;exact absurd h (by have:=HLT.out;omega)
   replace cC:aU _ w2:=cC;rw[aB,aB] at KM;obtain⟨p2,k2,rfl,_,_,_⟩:=Own.form KM;obtain⟨e1,e2,_,_⟩:=(B1.bI cC).two;have E3:=B3.bI cC;have hbw2:=lM.aR cC;generalize hL:(limbs (Y.natAbs-X.natAbs)).length=L at*;have vF:=af (Own.mono KM lM.size);have HL:=af hL;clear KM hL B1 B2 B3 lM cC;go_wp2_with fail
   refine (qT _ _ _ _ _).mono ?_;rintro e w3 ⟨rfl,dZ⟩;have F3:=E3.bI dZ;obtain⟨e5,e6,g5,g6⟩:=F3.two;have Zd:=af (Own.dw (b:=w.heap.size+1+1) (Own.below vF.out dZ) F3 bq (.bool (t && decide (0<L))) (.slice p2 L k2));have G3:=F3.dw (.bool (t && decide (0<L))) (.slice p2 L k2);have Yl:=(hbw2.aR dZ).dw (b:=w.heap.size+1+1) ab (.bool (t && decide (0<L))) (.slice p2 L k2);clear vF E3 F3;go_wp2
   generalize (w3.setCell ⟨w.heap.size+1+1,0,none⟩ (.bool (t && decide (0<L)))).setCell ⟨w.heap.size+1+1,1,none⟩ (.slice p2 L k2)=w4 at*;obtain⟨d1,d2,_,_⟩:=G3.two;refine bodyPost_ret (v:=.agg #[.bool (t && decide (0<L)),.slice p2 L k2]) (by simp[results,Tryz.results110,go_sem,d1,d2]) aa (di.out _ _ ⟨_,aa,?_,Yl⟩);refine aO.of (m:=Y.natAbs-X.natAbs) (by rw[HL.out];exact Zd.out) HL.out.symm _ ?_;rw[HX.out,HY.out];have:=HLT.out;cases s <;> cases t <;> simp at hst ⊢ <;> omega
  ·have HLT:=af hlt;have hc:0<=kD X.natAbs Y.natAbs:=by have:=mt (@oD X.natAbs Y.natAbs).1 hlt;omega
   generalize kD X.natAbs Y.natAbs=cv at hc ⊢;have B1:=b1.drewN k1;have B2:=b2.drewN k1;have B3:=b3.drewN k1;have lM:=sZ.drewN k1;obtain⟨c1,c2,f1,f2⟩:=B1.two;obtain⟨c3,c4,f3,f4⟩:=B2.two;clear sZ b1 b2 b3 r1 r2 hlt;go_wp2_with fail
   generalize W.drewN k1=W2 at*;clear c1 c2 c3 c4 f1 f2 f3 f4;refine (LC _ _ n m _ _ _ (r10.out.below lM) (r20.out.below lM) (aK _) (aK _) ab).mono ?_;rintro e w2 ⟨⟨h,_⟩|⟨_,v2,rfl,KM⟩,cC⟩
   ·rw[aB,aB] at h;exact absurd h (by have:=HLT.out;omega)
   replace cC:aU _ w2:=cC;rw[aB,aB] at KM;obtain⟨p2,k2,rfl,_,_,_⟩:=Own.form KM;obtain⟨e1,e2,_,_⟩:=(B1.bI cC).two;have E3:=B3.bI cC;have hbw2:=lM.aR cC;generalize hL:(limbs (X.natAbs-Y.natAbs)).length=L at*;have vF:=af (Own.mono KM lM.size);have HL:=af hL;clear KM hL B1 B2 B3 lM cC;go_wp2_with fail
   refine (qT _ _ _ _ _).mono ?_;rintro e w3 ⟨rfl,dZ⟩;have F3:=E3.bI dZ;obtain⟨e5,e6,g5,g6⟩:=F3.two;have Zd:=af (Own.dw (b:=w.heap.size+1+1) (Own.below vF.out dZ) F3 bq (.bool (s && decide (0<L))) (.slice p2 L k2));have G3:=F3.dw (.bool (s && decide (0<L))) (.slice p2 L k2);have Yl:=(hbw2.aR dZ).dw (b:=w.heap.size+1+1) ab (.bool (s && decide (0<L))) (.slice p2 L k2);clear vF E3 F3;go_wp2
   generalize (w3.setCell ⟨w.heap.size+1+1,0,none⟩ (.bool (s && decide (0<L)))).setCell ⟨w.heap.size+1+1,1,none⟩ (.slice p2 L k2)=w4 at*;obtain⟨d1,d2,_,_⟩:=G3.two;refine bodyPost_ret (v:=.agg #[.bool (s && decide (0<L)),.slice p2 L k2]) (by simp[results,Tryz.results110,go_sem,d1,d2]) aa (di.out _ _ ⟨_,aa,?_,Yl⟩);refine aO.of (m:=X.natAbs-Y.natAbs) (by rw[HL.out];exact Zd.out) HL.out.symm _ ?_;rw[HX.out,HY.out];have:=HLT.out;cases s <;> cases t <;> simp at hst ⊢ <;> omega
end
section
open Go.RowKit
theorem lX {w w':World} (h:aU w w':=by (with_reducible (repeat (first|assumption|exact aU.refl _|refine aU.drew ?_|refine aU.drewN ?_ _|refine aU.alloc ?_ _|refine aU.aR ?_ (by assumption)|refine aU.setCell ?_ (by first|omega|(simp;done)|(simp;omega)) _)))):aU w w':=h
theorem PL (v u:Value) (X Y:Int) (j k:Nat) (w:World) (hv:dL w v X j) (hu:dL w u Y k) (hj:j<=1073741824) (hk:k<=1073741824):
  Calls Tryz.prog 84 #[v,u] w λe w'=>∃ r,e=.returned r/\aO w' w.heap.size r (X+Y)/\aU w w':=by
 obtain⟨s,p,n,c,rfl⟩:=hv.form;obtain⟨t,q,m,d,rfl⟩:=hu.form;refine bG λR' di=> ?_;obtain⟨b1,b2,b3,sZ⟩:=uE w 24 24 24 #[.bool s,.slice p n c] #[.bool t,.slice q m d] #[.bool false,.slice none 0 0];have qK:=hv.len;have vN:=hu.len;have HV:=af hv;have HU:=af hu;have hsz:w.heap.size+3<=(((w.alloc (.cells #[.bool s,.slice p n c] 24)).alloc (.cells #[.bool t,.slice q m d] 24)).alloc (.cells #[.bool false,.slice none 0 0] 24)).heap.size:=bN;clear hv hu;go_enter Tryz.func84,Tryz.ntmps84
 go_wp2_with fail
 generalize ((w.alloc _).alloc _).alloc _=W at*;have HS:=af (λw' (h:aN W (w.heap.size+1+1) w')=>And.intro (h.cells b1 ab) (h.cells b2 ab));obtain⟨c1,c2,_,_⟩:=b1.two;obtain⟨c3,c4,_,_⟩:=b2.two;obtain⟨c5,c6,f5,f6⟩:=b3.two
 go_region_held3 (λw'=>(w'.cell? ⟨w.heap.size,0,none⟩=some (.bool s)/\w'.cell? ⟨w.heap.size,1,none⟩=some (.slice p n c))/\w'.cell? ⟨w.heap.size+1,0,none⟩=some (.bool t)/\w'.cell? ⟨w.heap.size+1,1,none⟩=some (.slice q m d)) ((refine HS.out _ ?_;(with_reducible (repeat (first|exact aN.refl _ _|refine aN.drew ?_|refine aN.drewN ?_ _|refine aN.alloc ?_ _|refine aN.set ?_ _|refine aN.aR ?_ (by assumption)|refine aN.wF ?_ (by first|omega|(simp;done)|(simp;omega)) _))))) (first
  | (go_at_call_of 79 (Value.slice p n c);refine (kM _ X j w _ HV.out lX).mono ?_;rintro e w1 ⟨u1,rfl,FF,bA⟩)
  | (go_at_call_of 79 (Value.slice q m d);refine (kM _ Y k w _ HU.out lX).mono ?_;rintro e w2 ⟨u2,rfl,FG,cC⟩)
  | (go_at_call 110;refine (PK _ _ X Y _ (FF.bI lX) (FG.bI lX) (bj qK hj) (bj vN hk)).mono ?_;rintro e w3 ⟨r,rfl,aZ,dZ⟩;obtain⟨sg,pp,nn,cc,rfl⟩:=aZ.form;obtain⟨e5,e6,g5,g6⟩:=(bO.bI (w':=w3) b3 lX).two)
  | fail)
 have FC:=(bO.bI (w':=w3) b3 lX);have FB:aU w w3:=lX;have FZ:aU w w2:=lX;have HO:=af (aZ.dw FC bq (.bool sg) (.slice pp nn cc));clear aZ;have Mc:=FC.dw (.bool (sg)) (.slice pp (nn) cc);have Md:=aU.dw FB (b:=w.heap.size+1+1) ab (.bool (sg)) (.slice pp (nn) cc);go_wp2
 generalize (w3.setCell ⟨w.heap.size+1+1,0,none⟩ (.bool (sg))).setCell ⟨w.heap.size+1+1,1,none⟩ (.slice pp (nn) cc)=wz at*;obtain⟨Me,Mf,_,_⟩:=Mc.two;refine bodyPost_ret (v:=.agg #[.bool (sg),.slice pp (nn) cc]) (by simp[results,Tryz.results84,go_sem,Me,Mf]) aa (di.out _ _ ?_);exact⟨_,aa,HO.out.mono FZ.size,Md⟩
theorem ZR (v u:Value) (X Y:Int) (j k:Nat) (w:World) (hv:dL w v X j) (hu:dL w u Y k) (hj:j<=1073741824) (hk:k<=1073741824):
  Calls Tryz.prog 78 #[v,u] w λe w'=>∃ r,e=.returned r/\aO w' w.heap.size r (X-Y)/\aU w w':=by
 obtain⟨s,p,n,c,rfl⟩:=hv.form;obtain⟨t,q,m,d,rfl⟩:=hu.form;refine bG λR' di=> ?_;obtain⟨b1,b2,b3,sZ⟩:=uE w 24 24 24 #[.bool s,.slice p n c] #[.bool t,.slice q m d] #[.bool false,.slice none 0 0];have qK:=hv.len;have vN:=hu.len;have HV:=af hv;have HU:=af hu;have hsz:w.heap.size+3<=(((w.alloc (.cells #[.bool s,.slice p n c] 24)).alloc (.cells #[.bool t,.slice q m d] 24)).alloc (.cells #[.bool false,.slice none 0 0] 24)).heap.size:=bN;clear hv hu;go_enter Tryz.func78,Tryz.ntmps78
 go_wp2_with fail
 generalize ((w.alloc _).alloc _).alloc _=W at*;have HS:=af (λw' (h:aN W (w.heap.size+1+1) w')=>And.intro (h.cells b1 ab) (h.cells b2 ab));obtain⟨c1,c2,_,_⟩:=b1.two;obtain⟨c3,c4,_,_⟩:=b2.two;obtain⟨c5,c6,f5,f6⟩:=b3.two
 go_region_held3 (λw'=>(w'.cell? ⟨w.heap.size,0,none⟩=some (.bool s)/\w'.cell? ⟨w.heap.size,1,none⟩=some (.slice p n c))/\w'.cell? ⟨w.heap.size+1,0,none⟩=some (.bool t)/\w'.cell? ⟨w.heap.size+1,1,none⟩=some (.slice q m d)) ((refine HS.out _ ?_;(with_reducible (repeat (first|exact aN.refl _ _|refine aN.drew ?_|refine aN.drewN ?_ _|refine aN.alloc ?_ _|refine aN.set ?_ _|refine aN.aR ?_ (by assumption)|refine aN.wF ?_ (by first|omega|(simp;done)|(simp;omega)) _))))) (first
  | (go_at_call_of 79 (Value.slice p n c);refine (kM _ X j w _ HV.out lX).mono ?_;rintro e w1 ⟨u1,rfl,FF,bA⟩)
  | (go_at_call_of 79 (Value.slice q m d);refine (kM _ Y k w _ HU.out lX).mono ?_;rintro e w2 ⟨u2,rfl,FG,cC⟩)
  | (go_at_call 111;refine (Hi _ Y _ (FG.bI lX)).mono ?_;rintro e w4 ⟨u4,rfl,hu4,ic⟩)
  | (go_at_call 110;refine (PK _ _ X (-Y) _ (FF.bI lX) (hu4.bI lX) (bj qK hj) (by rw[Int.natAbs_neg];exact bj vN hk)).mono ?_;rintro e w3 ⟨r,rfl,aZ,dZ⟩;obtain⟨sg,pp,nn,cc,rfl⟩:=aZ.form;obtain⟨e5,e6,g5,g6⟩:=(bO.bI (w':=w3) b3 lX).two)
  | fail)
 rw[<-Int.sub_eq_add_neg] at aZ;have FC:=(bO.bI (w':=w3) b3 lX);have FB:aU w w3:=lX;have FZ:aU w w4:=lX;have HO:=af (aZ.dw FC bq (.bool sg) (.slice pp nn cc));clear aZ;have Mc:=FC.dw (.bool (sg)) (.slice pp (nn) cc);have Md:=aU.dw FB (b:=w.heap.size+1+1) ab (.bool (sg)) (.slice pp (nn) cc);go_wp2
 generalize (w3.setCell ⟨w.heap.size+1+1,0,none⟩ (.bool (sg))).setCell ⟨w.heap.size+1+1,1,none⟩ (.slice pp (nn) cc)=wz at*;obtain⟨Me,Mf,_,_⟩:=Mc.two;refine bodyPost_ret (v:=.agg #[.bool (sg),.slice pp (nn) cc]) (by simp[results,Tryz.results78,go_sem,Me,Mf]) aa (di.out _ _ ?_);exact⟨_,aa,HO.out.mono FZ.size,Md⟩
def UW (w W wc:World) (T:TypeId) (X Y:Int) (x y:Value):Prop:=∃ g h s1 p1 n1 k1 s2 p2 n2 k2,x=.pointer (some ⟨g,0,none⟩)/\y=.pointer (some ⟨h,0,none⟩)/\bO wc g T #[.bool s1,.slice p1 n1 k1]/\bO wc h T #[.bool s2,.slice p2 n2 k2]/\
 dX w (.agg #[.bool s1,.slice p1 n1 k1]) X/\dX w (.agg #[.bool s2,.slice p2 n2 k2]) Y/\aU W wc
theorem qU (v u:Value) (X Y:Int) (j k:Nat) (w:World) (hv:dL w v X j) (hu:dL w u Y k) (hj:j<=536870912) (hk:k<=536870912):
  Calls Tryz.prog 42 #[v,u] w λe w'=>∃ r,e=.returned r/\aO w' w.heap.size r (X*Y)/\aU w w':=by
 obtain⟨s,p,n,c,rfl⟩:=hv.form;obtain⟨t,q,m,d,rfl⟩:=hu.form;refine bG λR' di=> ?_;obtain⟨b1,b2,b3,sZ⟩:=uE w 24 24 24 #[.bool s,.slice p n c] #[.bool t,.slice q m d] #[.bool false,.slice none 0 0];have qK:=hv.len;have vN:=hu.len;have HV:=af hv;have HU:=af hu;have hsz:w.heap.size+3<=(((w.alloc (.cells #[.bool s,.slice p n c] 24)).alloc (.cells #[.bool t,.slice q m d] 24)).alloc (.cells #[.bool false,.slice none 0 0] 24)).heap.size:=bN;clear hv hu;go_enter Db,Tryz.ntmps42
 go_wp2_with fail
 generalize ((w.alloc _).alloc _).alloc _=W at*;have HS:=af (λw' (h:aN W (w.heap.size+1+1) w')=>And.intro (h.cells b1 ab) (h.cells b2 ab));obtain⟨c1,c2,_,_⟩:=b1.two;obtain⟨c3,c4,_,_⟩:=b2.two;obtain⟨c5,c6,f5,f6⟩:=b3.two;go_cut [5,6] (λx5 x6 wc=>UW w W wc 137 X Y x5 x6)
 case first=>
  go_region_held3 (λw'=>(w'.cell? ⟨w.heap.size,0,none⟩=some (.bool s)/\w'.cell? ⟨w.heap.size,1,none⟩=some (.slice p n c))/\w'.cell? ⟨w.heap.size+1,0,none⟩=some (.bool t)/\w'.cell? ⟨w.heap.size+1,1,none⟩=some (.slice q m d)) ((refine HS.out _ ?_;(with_reducible (repeat (first|exact aN.refl _ _|refine aN.drew ?_|refine aN.drewN ?_ _|refine aN.alloc ?_ _|refine aN.set ?_ _|refine aN.aR ?_ (by assumption)|refine aN.wF ?_ (by first|omega|(simp;done)|(simp;omega)) _))))) (first
   | (go_at_call_of 79 (Value.slice p n c);refine (kM _ X j w _ HV.out lX).mono ?_;rintro e w1 ⟨u1,rfl,FF,bA⟩;obtain⟨s1,p1,n1,k1,rfl⟩:=FF.lE;have PG:=bA.size;(try simp at PG);(try (have q1:=bO.bI (bO.drew (bO.new _ _ #[_,_])) bA;(try simp at q1);obtain⟨q1a,q1b,q1c,q1d⟩:=q1.two;have q1l:=q1.lt;have q1n:=rT q1l;have q1m:=rU q1l));(try (have q2:=bO.bI (bO.drew (bO.alloc (bO.new _ _ #[_,_]) _)) bA;(try simp at q2);obtain⟨q2a,q2b,q2c,q2d⟩:=q2.two;have q2l:=q2.lt;have q2n:=rT q2l;have q2m:=rU q2l)))
   | (go_at_call_of 79 (Value.slice q m d);refine (kM _ Y k w _ HU.out lX).mono ?_;rintro e w2 ⟨u2,rfl,FG,cC⟩;obtain⟨s2,p2,n2,k2,rfl⟩:=FG.lE;have Sx:=cC.size;(try simp at Sx);(try (have q3:=bO.bI (bO.new _ _ #[_,_]) cC;(try simp at q3);obtain⟨q3a,q3b,q3c,q3d⟩:=q3.two;have q3l:=q3.lt;have q3n:=rT q3l;have q3m:=rU q3l));(try (have q4:=bO.bI (bO.alloc (bO.new _ _ #[_,_]) _) cC;(try simp at q4);obtain⟨q4a,q4b,q4c,q4d⟩:=q4.two;have q4l:=q4.lt;have q4n:=rT q4l;have q4m:=rU q4l));(try (have q5:=bO.bI q1 cC;(try simp at q5);obtain⟨q5a,q5b,q5c,q5d⟩:=q5.two;have q5l:=q5.lt;have q5n:=rT q5l;have q5m:=rU q5l));(try (have q6:=bO.bI q2 cC;(try simp at q6);obtain⟨q6a,q6b,q6c,q6d⟩:=q6.two;have q6l:=q6.lt;have q6n:=rT q6l;have q6m:=rU q6l));(try (have q7:=bO.bI (bO.alloc q1 _) cC;(try simp at q7);obtain⟨q7a,q7b,q7c,q7d⟩:=q7.two;have q7l:=q7.lt;have q7n:=rT q7l;have q7m:=rU q7l)))
   | fail)
  all_goals
   go_wp2
   go_meet
   refine⟨_,_,s1,p1,n1,k1,s2,p2,n2,k2,aa,aa,?_,?_,FF,FG,?_⟩
   ·(with_reducible (repeat (first|assumption|exact bO.newAt (by first|rfl|(simp;done)) _ _|refine bO.alloc ?_ _|refine bO.drew ?_|refine bO.dw (u:=.bool false) (v:=.slice none 0 0) ?_ _ _|refine bO.gu ?_ (by first|omega|(simp;omega)) _ _|refine bO.bI ?_ (by assumption))))
   ·(with_reducible (repeat (first|assumption|exact bO.newAt (by first|rfl|(simp;done)) _ _|refine bO.alloc ?_ _|refine bO.drew ?_|refine bO.dw (u:=.bool false) (v:=.slice none 0 0) ?_ _ _|refine bO.gu ?_ (by first|omega|(simp;omega)) _ _|refine bO.bI ?_ (by assumption))))
   ·exact lX
 case rest=>
  obtain⟨g,h,s1,p1,n1,k1,s2,p2,n2,k2,rfl,rfl,B5,B6,FF,FG,hbc⟩:=hcut;obtain⟨xI,nA,hX⟩:=FF.parts;obtain⟨xe,nC,hY⟩:=FG.parts;have B3:=b3.bI hbc;have qm:aU w wc:=sZ.aR hbc;have HR1:=af (nA.below qm);have HR2:=af (nC.below qm);have HN1:=af xI;have HN2:=af xe;have HX:=af hX;have HY:=af hY;have hm1:n1<=536870912:=ab;have KN:n2<=536870912:=ab;clear c1 c2 c3 c4 c5 c6 f5 f6 b1 b2 b3 hbc sZ FF FG nA nC hX hY xI xe HS;obtain⟨c1,c2,_,_⟩:=B5.two;obtain⟨c3,c4,_,_⟩:=B6.two;obtain⟨c5,c6,f5,f6⟩:=B3.two;have hg:g≠w.heap.size+1+1:=λe=>by subst e;have:=(show wc.heap[_]? =_ from B5).symm.trans B3;simp at this
  have hh:h≠w.heap.size+1+1:=λe=>by subst e;have:=(show wc.heap[_]? =_ from B6).symm.trans B3;simp at this
  have HS:=af (λw' (hk:aN wc (w.heap.size+1+1) w')=>And.intro (hk.cells B5 hg) (hk.cells B6 hh));go_wp2_with fail
  go_region_held3 (λw'=>(w'.cell? ⟨g,0,none⟩=some (.bool s1)/\w'.cell? ⟨g,1,none⟩=some (.slice p1 n1 k1))/\w'.cell? ⟨h,0,none⟩=some (.bool s2)/\w'.cell? ⟨h,1,none⟩=some (.slice p2 n2 k2)) ((refine HS.out _ ?_;(with_reducible (repeat (first|exact aN.refl _ _|refine aN.drew ?_|refine aN.drewN ?_ _|refine aN.alloc ?_ _|refine aN.set ?_ _|refine aN.aR ?_ (by assumption)|refine aN.wF ?_ (by first|omega|(simp;done)|(simp;omega)) _))))) (first
   | (go_at_call 81;refine (Zh _ _ n1 n2 _ _ _ (HR1.out.below (aU.refl wc).drew) (HR2.out.below (aU.refl wc).drew) (aK _) (aK _) hm1 KN).mono ?_;rintro e w1 ⟨v1,rfl,Cp,bA⟩;replace bA:aU _ w1:=bA;rw[aB,aB] at Cp;obtain⟨q1,l1,rfl,_,_,_⟩:=Own.form Cp)
   | (go_at_call 80;refine (jF _ _ _ _ _).mono ?_;rintro e w3 ⟨sg,rfl,ny,dZ⟩;obtain⟨e5,e6,g5,g6⟩:=(bO.bI (w':=w3) B3 lX).two)
   | fail)
  have FC:=(bO.bI (w':=w3) B3 lX);have FB:aU w w3:=lX;generalize hL:(limbs (X.natAbs*Y.natAbs)).length=L at*;have HL:=af hL;have HO:=af (Own.dw (Own.below Cp dZ) FC bq (.bool sg) (.slice q1 L l1));clear Cp hL;have Mc:=FC.dw (.bool (sg)) (.slice q1 (L) l1);have Md:=aU.dw FB (b:=w.heap.size+1+1) ab (.bool (sg)) (.slice q1 (L) l1);go_wp2
  generalize (w3.setCell ⟨w.heap.size+1+1,0,none⟩ (.bool (sg))).setCell ⟨w.heap.size+1+1,1,none⟩ (.slice q1 (L) l1)=wz at*;obtain⟨Me,Mf,_,_⟩:=Mc.two;refine bodyPost_ret (v:=.agg #[.bool (sg),.slice q1 (L) l1]) (by simp[results,Tryz.results42,go_sem,Me,Mf]) aa (di.out _ _ ?_);rw[ny.out];refine⟨_,aa,aO.of (m:=X.natAbs*Y.natAbs) (by rw[HL.out];exact Own.mono HO.out qm.size) HL.out.symm _ ?_,Md⟩;rw[HX.out,HY.out];cases s1 <;> cases s2 <;> simp[Int.neg_mul,Int.mul_neg]
end
section
open Go.RowKit
theorem Cq (s:Bool) (p:Option Addr) (n c:Nat) (w:World):(Instr.field 137 (.agg #[.bool s,.slice p n c]) 0).run Tryz.prog w=.ok (.agg #[.bool s,.slice p n c]) w:=by kernel_rfl
theorem Cr (s:Bool) (p:Option Addr) (n c:Nat) (w:World):(Instr.field 24 (.agg #[.bool s,.slice p n c]) 1).run Tryz.prog w=.ok (.slice p n c) w:=by kernel_rfl
theorem PM (v:Value) (X:Int) (j:Nat) (w:World) (hv:dL w v X j) (hj:j<=1073741824):
  Calls Tryz.prog 113 #[v] w λe w'=>∃ r,e=.returned r/\aO w' w.heap.size r (-X)/\aU w w':=by
 obtain⟨s,p,n,c,rfl⟩:=hv.form;refine bG λR' di=> ?_;obtain⟨b1,b2,sZ⟩:=sO w 24 24 #[.bool s,.slice p n c] #[.bool false,.slice none 0 0];have qK:=hv.len;have HV:=af hv;have hsz:w.heap.size+2<=((w.alloc (.cells #[.bool s,.slice p n c] 24)).alloc (.cells #[.bool false,.slice none 0 0] 24)).heap.size:=bN;clear hv;go_enter Tryz.func113,Tryz.ntmps113
 go_wp2_with fail
 generalize (w.alloc _).alloc _=W at*;refine (kM _ X j w _ HV.out lX).mono ?_;rintro e w1 ⟨v1,rfl,mA,bA⟩;go_wp2_with fail
 refine (Hi _ X _ (mA.bI lX)).mono ?_;rintro e w2 ⟨v2,rfl,AW,cC⟩;obtain⟨s2,p2,n2,k2,rfl⟩:=AW.lE;obtain⟨xe,nC,_⟩:=AW.parts;have KN:n2<=1073741824:=by rw[xe,Int.natAbs_neg];omega
 have HN2:=af xe;have HI2:=af AW;have HR2:=af nC;clear AW xe nC mA;go_wp2_with fail
 have B5:=bO.new w2 137 #[.bool s2,.slice p2 n2 k2];have hbT:aU w2 (w2.alloc (.cells #[.bool s2,.slice p2 n2 k2] 137)):=(aU.refl w2).alloc _;have B2:=((b2.bI bA).bI cC).bI hbT;have hlt:=b2.lt;have Ft:=bA.size;have hbs2:=cC.size;have hne:w2.heap.size≠w.heap.size+1:=ab;generalize w2.alloc _=T at*;have HS:=af (λw' (hk:aN T (w.heap.size+1) w')=>hk.cells B5 hne);obtain⟨c1,c2,_,_⟩:=B5.two;obtain⟨c5,c6,f5,f6⟩:=B2.two
 go_region_held3 (λw'=>w'.cell? ⟨w2.heap.size,0,none⟩=some (.bool s2)/\w'.cell? ⟨w2.heap.size,1,none⟩=some (.slice p2 n2 k2)) ((refine HS.out _ ?_;(with_reducible (repeat (first|exact aN.refl _ _|refine aN.drew ?_|refine aN.drewN ?_ _|refine aN.alloc ?_ _|refine aN.set ?_ _|refine aN.aR ?_ (by assumption)|refine aN.wF ?_ (by first|omega|(simp;done)|(simp;omega)) _))))) (first
  | (go_at_call 133;refine (nX _ n2 _ _ (Rd.below (HR2.out.below hbT) (aU.refl T).drew) KN).mono ?_;rintro e w3 ⟨v3,rfl,BP,dZ⟩;replace dZ:aU _ w3:=dZ;obtain⟨q3,l3,rfl,_,_,_⟩:=Own.form BP;obtain⟨e5,e6,g5,g6⟩:=(bO.bI (w':=w3) B2 lX).two)
  | fail)
 have FC:=(bO.bI (w':=w3) B2 lX);have FB:aU w w3:=lX;have FT:aU w T:=lX;have HO:=af (Own.dw BP FC bq (.bool s2) (.slice q3 n2 l3));clear BP;have Mc:=FC.dw (.bool (s2)) (.slice q3 (n2) l3);have Md:=aU.dw FB (b:=w.heap.size+1) ab (.bool (s2)) (.slice q3 (n2) l3);go_wp2
 generalize (w3.setCell ⟨w.heap.size+1,0,none⟩ (.bool (s2))).setCell ⟨w.heap.size+1,1,none⟩ (.slice q3 (n2) l3)=wz at*;obtain⟨Me,Mf,_,_⟩:=Mc.two;refine bodyPost_ret (v:=.agg #[.bool (s2),.slice q3 (n2) l3]) (by simp[results,Tryz.results113,go_sem,Me,Mf]) aa (di.out _ _ ?_);exact⟨_,aa,HI2.out.own (Own.mono HO.out FT.size),Md⟩
set_option maxRecDepth 100000 in
theorem ZT (v:Value) (X:Int) (j:Nat) (w:World) (hv:dL w v X j) (hj:j<=1073741824):
  Calls Tryz.prog 129 #[v] w λe w'=>∃ r,e=.returned r/\aO w' w.heap.size r (X.natAbs:Int)/\aU w w':=by
 obtain⟨s,p,n,c,rfl⟩:=hv.form;refine bG λR' di=> ?_;obtain⟨b1,b2,sZ⟩:=sO w 24 24 #[.bool s,.slice p n c] #[.bool false,.slice none 0 0];have qK:=hv.len;have HV:=af hv;clear hv;go_enter Tryz.func129,Tryz.ntmps129
 go_wp2_with fail
 generalize (w.alloc _).alloc _=W at*;refine (kM _ X j w _ HV.out lX).mono ?_;rintro e w1 ⟨v1,rfl,mA,bA⟩;obtain⟨s2,p2,n2,k2,rfl⟩:=mA.lE;obtain⟨xe,nC,_⟩:=mA.parts;have KN:n2<=1073741824:=by rw[xe];omega
 have HN2:=af xe;have HR2:=af nC;have qm:aU w w1:=sZ.aR bA;have ZU:=Cq s2 p2 n2 k2 w1;have ZV:=Cr s2 p2 n2 k2 w1;clear xe nC mA;go_wp2_with fail
 refine (nX _ n2 _ _ (HR2.out.below qm) KN).mono ?_;rintro e w3 ⟨v3,rfl,BP,dZ⟩;replace dZ:aU _ w3:=dZ;obtain⟨q3,l3,rfl,_,_,_⟩:=Own.form BP;have FC:=(bO.bI (w':=w3) b2 lX);have FB:aU w w3:=lX;have HO:=af (Own.dw BP FC bq (.bool false) (.slice q3 n2 l3));obtain⟨e5,e6,g5,g6⟩:=FC.two;clear BP;have Mc:=FC.dw (.bool (false)) (.slice q3 (n2) l3);have Md:=aU.dw FB (b:=w.heap.size+1) ab (.bool (false)) (.slice q3 (n2) l3);go_wp2
 generalize (w3.setCell ⟨w.heap.size+1,0,none⟩ (.bool (false))).setCell ⟨w.heap.size+1,1,none⟩ (.slice q3 (n2) l3)=wz at*;obtain⟨Me,Mf,_,_⟩:=Mc.two;refine bodyPost_ret (v:=.agg #[.bool (false),.slice q3 (n2) l3]) (by simp[results,Tryz.results129,go_sem,Me,Mf]) aa (di.out _ _ ?_);exact⟨_,aa,aO.ofNat (Own.mono HO.out qm.size) HN2.out,Md⟩
theorem xP (v:Value) (X:Int) (j:Nat) (w:World) (hv:dL w v X j):
  Calls Tryz.prog 43 #[v] w λe w'=>e=.returned (.int .i64 X.sign)/\aU w w':=by
 obtain⟨s,p,n,c,rfl⟩:=hv.form;refine bG λR' di=> ?_;have HV:=af hv;have sZ:=(aU.refl w).alloc (.cells #[.bool s,.slice p n c] 24);clear hv;go_enter Tryz.func43,Tryz.ntmps43
 go_wp2_with fail
 generalize w.alloc _=W at*;refine (kM _ X j w _ HV.out lX).mono ?_;rintro e w1 ⟨v1,rfl,mA,bA⟩;obtain⟨s2,p2,n2,k2,rfl⟩:=mA.lE;obtain⟨xe,_,hX⟩:=mA.parts;have qm:aU w w1:=sZ.aR bA;have ny:=mA.Zt;clear mA;cases s2
 ·by_cases h0:X=0
  ·subst h0;have:n2=0:=by rw[xe];simp[dy]
   subst this;clear xe hX ny;go_wp2
   exact di.out _ _ ⟨aa,qm.alloc _⟩
  ·have hp:0<n2:=by rw[xe];exact fN ab
   have hs:X.sign=1:=im (by simp at hX;omega);rw[hs] at di;clear xe hX ny;have KE:(0:Int)<(n2:Int):=ab;go_wp2
   exact di.out _ _ ⟨aa,qm.alloc _⟩
 ·have hs:X.sign= -1:=sign_neg (CV ny.symm);rw[hs] at di;clear xe hX ny;go_wp2
  exact di.out _ _ ⟨aa,qm.alloc _⟩
theorem xf (v u:Value) (X Y:Int) (j k:Nat) (w:World) (hv:dL w v X j) (hu:dL w u Y k) (hj:j<=1073741824) (hk:k<=1073741824):
  Calls Tryz.prog 41 #[v,u] w λe w'=>e=.returned (.int .i64 (X-Y).sign)/\aU w w':=by
 obtain⟨s,p,n,c,rfl⟩:=hv.form;obtain⟨t,q,m,d,rfl⟩:=hu.form;refine bG λR' di=> ?_;obtain⟨b1,b2,sZ⟩:=sO w 24 24 #[.bool s,.slice p n c] #[.bool t,.slice q m d];have HV:=af (hv.bI sZ);have HU:=af (hu.bI sZ);clear hv hu;go_enter JW,Tryz.ntmps41
 go_wp2_with fail
 generalize (w.alloc _).alloc _=W at*;refine (ZR _ _ X Y j k _ HV.out HU.out hj hk).mono ?_;rintro e w1 ⟨r,rfl,ho,bA⟩;go_wp2_with fail
 refine (xP _ (X-Y) _ _ (ho.rd.to (bL _))).mono ?_;rintro e w2 ⟨rfl,cC⟩;go_wp2
 exact di.out _ _ ⟨aa,(sZ.aR bA).aR cC⟩
theorem u64neg {n:Int} (h0:n<0) (h1: -9223372036854775808<=n):IntKind.u64.wrap (-(IntKind.u64.wrap n))=(n.natAbs:Int):=by
 rw[Az,Az];omega
theorem u64pos {n:Int} (h0:0<=n) (h1:n<=9223372036854775807):IntKind.u64.wrap n=(n.natAbs:Int):=by
 rw[Az];omega
theorem Dy {a:Nat}:ay [a%4294967296,a/4294967296]=a:=by
 rw[jD,jD,ij];omega
set_option maxRecDepth 100000 in
theorem UX (n:Int) (w:World) (h0: -9223372036854775808<=n) (h1:n<=9223372036854775807):
  Calls Tryz.prog 82 #[.int .i64 n] w λe w'=>∃ r,e=.returned r/\aO w' w.heap.size r n/\aU w w':=by
 refine bG λR' di=> ?_;obtain⟨a,ha⟩:∃ a,a=n.natAbs:=⟨_,aa⟩;have HA:=af ha;have ha2:a<18446744073709551616:=ab;have ll:=bO.new w 24 #[.bool false,.slice none 0 0];have sZ:=(aU.refl w).alloc (.cells #[.bool false,.slice none 0 0] 24);have hRl:=Rd.lit2 (w:=w.alloc (.cells #[.bool false,.slice none 0 0] 24)) (k:=.u32) (e:=117) (x:=(a:Int)%4294967296) (y:=(a:Int)/4294967296) (a:=a%4294967296) (b:=a/4294967296) ab ab;rw[World.size_alloc] at hRl;go_enter Tryz.func82,Tryz.ntmps82
 by_cases hn:n<0
 ·have e1:=u64neg hn h0;rw[<-ha] at e1;have HN:=af hn;clear ha;go_wp2_with fail
  refine (oH _ 2 [a%4294967296,a/4294967296] _ hRl (ez.cons ab (ez.cons ab ez.nil)) ab).mono ?_;rintro e w1 ⟨v1,rfl,Cp,bA⟩;replace bA:aU _ w1:=bA;rw[Dy] at Cp;obtain⟨p1,k1,rfl,_,_,_⟩:=Own.form Cp;generalize hL:(limbs a).length=L at*;have HL:=af hL;have FC1:=(ll.alloc (.cells #[.int .u32 ((a:Int)%4294967296),.int .u32 ((a:Int)/4294967296)] 117)).bI bA;have FB1:aU w w1:=(((aU.refl w).alloc _).alloc _).aR bA;have zS:=af Cp;clear Cp hL bA;go_wp2_with fail
  refine (jF _ _ _ _ _).mono ?_;rintro e w3 ⟨sg,rfl,ny,dZ⟩;have FC:=FC1.bI dZ;have FB:=FB1.aR dZ;obtain⟨e5,e6,g5,g6⟩:=FC.two;have HO:=af (Own.dw (Own.below zS.out dZ) FC bq (.bool sg) (.slice p1 L k1));clear zS FC1;have Mc:=FC.dw (.bool (sg)) (.slice p1 (L) k1);have Md:=aU.dw FB (b:=w.heap.size) ab (.bool (sg)) (.slice p1 (L) k1);go_wp2
  generalize (w3.setCell ⟨w.heap.size,0,none⟩ (.bool (sg))).setCell ⟨w.heap.size,1,none⟩ (.slice p1 (L) k1)=wz at*;obtain⟨Me,Mf,_,_⟩:=Mc.two;refine bodyPost_ret (v:=.agg #[.bool (sg),.slice p1 (L) k1]) (by simp[results,Tryz.results82,go_sem,Me,Mf]) aa (di.out _ _ ?_);rw[ny.out];refine⟨_,aa,aO.of (m:=a) (by rw[HL.out];exact Own.mono HO.out (by simp;omega)) HL.out.symm _ ?_,Md⟩;have:=HN.out;have:=HA.out;simp;omega
 ·have e1:=u64pos (by omega:0<=n) h1;rw[<-ha] at e1;have HN:=af hn;clear ha;go_wp2_with fail
  refine (oH _ 2 [a%4294967296,a/4294967296] _ hRl (ez.cons ab (ez.cons ab ez.nil)) ab).mono ?_;rintro e w1 ⟨v1,rfl,Cp,bA⟩;replace bA:aU _ w1:=bA;rw[Dy] at Cp;obtain⟨p1,k1,rfl,_,_,_⟩:=Own.form Cp;generalize hL:(limbs a).length=L at*;have HL:=af hL;have FC1:=(ll.alloc (.cells #[.int .u32 ((a:Int)%4294967296),.int .u32 ((a:Int)/4294967296)] 117)).bI bA;have FB1:aU w w1:=(((aU.refl w).alloc _).alloc _).aR bA;have zS:=af Cp;clear Cp hL bA;go_wp2_with fail
  refine (jF _ _ _ _ _).mono ?_;rintro e w3 ⟨sg,rfl,ny,dZ⟩;have FC:=FC1.bI dZ;have FB:=FB1.aR dZ;obtain⟨e5,e6,g5,g6⟩:=FC.two;have HO:=af (Own.dw (Own.below zS.out dZ) FC bq (.bool sg) (.slice p1 L k1));clear zS FC1;have Mc:=FC.dw (.bool (sg)) (.slice p1 (L) k1);have Md:=aU.dw FB (b:=w.heap.size) ab (.bool (sg)) (.slice p1 (L) k1);go_wp2
  generalize (w3.setCell ⟨w.heap.size,0,none⟩ (.bool (sg))).setCell ⟨w.heap.size,1,none⟩ (.slice p1 (L) k1)=wz at*;obtain⟨Me,Mf,_,_⟩:=Mc.two;refine bodyPost_ret (v:=.agg #[.bool (sg),.slice p1 (L) k1]) (by simp[results,Tryz.results82,go_sem,Me,Mf]) aa (di.out _ _ ?_);rw[ny.out];refine⟨_,aa,aO.of (m:=a) (by rw[HL.out];exact Own.mono HO.out (by simp;omega)) HL.out.symm _ ?_,Md⟩;have:=HN.out;have:=HA.out;simp;omega
end
section
open Go.RowKit
def zt (rows:List (List Nat)):Nat:=rows.foldl (λa r=>Nat.gcd a (ay r)) 0
theorem Xb (rows:List (List Nat)) (r:List Nat):zt (rows++[r])=Nat.gcd (zt rows) (ay r):=by simp[zt,List.foldl_append]
theorem ZW {x y:Nat}:Nat.gcd y (x%y)=Nat.gcd x y:=by rw[Nat.gcd_comm,<-Nat.gcd_rec,Nat.gcd_comm]
def GcdOut (w:World) (B:Nat) (rows:List (List Nat)) (g:Nat) (av iv:Value) (wr:World):Prop:=
 ∃ k,k<=rows.length/\g=rows.length-k/\iv=.int .i64 (k:Int)/\wr.ownsRow B 117 1 av (limbs (zt (rows.take k))).length (ints .u32 (limbs (zt (rows.take k))))/\(limbs (zt (rows.take k))).length<=536870912/\Below B w wr
def GcdIn (w:World) (B G:Nat) (g:Nat) (av bv:Value) (wr:World):Prop:=
 ∃ x,Nat.gcd x g=G/\wr.ownsRow B 117 1 av (limbs x).length (ints .u32 (limbs x))/\wr.ownsRow B 117 1 bv (limbs g).length (ints .u32 (limbs g))/\(limbs x).length<=536870912/\(limbs g).length<=536870912/\Below B w wr
set_option maxRecDepth 100000 in
theorem ZX (va:Value) (rows:List (List Nat)) (w:World) (hr:mQ w va rows) (hx:∀ xs∈rows,ez xs/\xs.length<=536870912) (hn:rows.length<=1048576):
  Calls Tryz.prog 126 #[va] w λe w'=>∃ v',e=.returned v'/\w'.ownsRow w.heap.size 117 1 v' (limbs (zt rows)).length (ints .u32 (limbs (zt rows)))/\Below w.heap.size w w':=by
 obtain⟨p,c,rfl,il,iC⟩:=hr.form;have Hr:=af hr;have HL:=af hx;obtain⟨B,hB⟩:∃ B,B=w.heap.size:=⟨_,aa⟩;have HB:=af hB;obtain⟨N,hN⟩:∃ N,N=rows.length:=⟨_,aa⟩;rw[<-hN] at il hn ⊢;have HN:=af hN;rw[<-hB];clear hx hr hB hN;refine bG λR' di=> ?_;go_enter Tryz.func126,Tryz.ntmps126
 go_wp2
 go_loopg [3,11] N (λg av iv wr=>GcdOut w B rows g av iv wr)
 case atStart=>exact⟨0,fH _,by rw[HN.out];rfl,rfl,by simp[zt,dy];exact qF _ _ _ _,by simp[zt,dy],iP _ _⟩
 case round=>
  obtain⟨k,hk,hgk,rfl,aZ,hlen,hb⟩:=hrel;have HO:=af aZ;have lM:=af hb;have HGK:=af hgk;have HLEN:=af hlen;rw[<-HN.out] at hk;clear aZ hb hgk hlen;by_cases ux:k<N
  ·obtain⟨b1,o1,u,xs,rfl,kF,yi,RT⟩:=((Hr.out.below (by have:=lM.out;rwa [HB.out] at this)).at (k:=k) (by rw[<-HN.out];exact ux));have Fu:=af kF;have HRU:=af RT;clear kF RT;have Ft:B<=wr.heap.size:=by have:=lM.out.size;have:=HB.out;omega
   obtain⟨Jh,Ny⟩:=HL.out xs (cX Fu.out);obtain⟨a,ha⟩:∃ a,a=zt (rows.take k):=⟨_,aa⟩;obtain⟨y,hy⟩:∃ y,y=ay xs:=⟨_,aa⟩;have rZ:(limbs y).length<=536870912:=by rw[hy];exact bj (mO Jh) Ny
   have HL1:=af Jh;have HL2:=af Ny;have HYL:=af rZ;have HG:Hid (Nat.gcd a y=zt (rows.take (k+1))):=by show _=_;rw[dk Fu.out,Xb,ha,hy]
   have HA:=af ha;have HY:=af hy;clear ha hy Jh Ny rZ;go_wp2_with fail
   refine (oH _ _ xs _ HRU.out HL1.out (by have:=HL2.out;omega)).mono ?_;rintro e w2 ⟨v',rfl,qL,cC⟩;rw[<-HY.out] at qL;have Cp:=Own.below HO.out cC;rw[<-HA.out] at Cp;have zS:=af Cp;clear Cp;have vF:=af (Own.mono qL Ft);have Dk:=af (lM.out.trans (cC.mono Ft));clear qL cC yi;go_wp2_with fail
   go_loopg [3,5] y (λg av bv wr=>GcdIn w B (Nat.gcd a y) g av bv wr)
   case atStart=>exact⟨a,aa,zS.out,vF.out,by rw[HA.out];exact HLEN.out,HYL.out,Dk.out⟩
   case round=>
    obtain⟨x,Uu,hox,hoy,qK,vN,qm⟩:=hrel;have HXY:=af Uu;have HOX:=af hox;have HOY:=af hoy;have HLX:=af qK;have HLY:=af vN;have HBX:=af qm;obtain⟨py,cy,rfl,_,_,_⟩:=Own.form hoy;clear Uu hox hoy qK vN qm;by_cases ZY:gk=0
    ·subst ZY;have FH:(limbs 0).length=0:=by rw[dy];rfl
     rw[FH];have hxg:x=zt (rows.take (k+1)):=by rw[<-HG.out,<-HXY.out,Nat.gcd_zero_right]
     have HXG:=af hxg;clear hxg FH;go_wp2_with fail
     go_roundg (N-(k+1))
     case measure=>have:=HGK.out;have:=HN.out;omega
     case rel=>exact⟨k+1,by rw[<-HN.out];omega,by rw[HN.out],by go_num,by rw[<-HXG.out];exact HOX.out,by rw[<-HXG.out];exact HLX.out,HBX.out⟩
    ·have hp:(0:Int)<((limbs gk).length:Int):=by have:=fN ZY;omega
     have HG0:=af ZY;obtain⟨L,hL⟩:∃ L,L=(limbs gk).length:=⟨_,aa⟩;rw[<-hL] at hp ⊢;have HL:=af hL;have hbx:B<=wr.heap.size:=by have:=HBX.out.size;have:=HB.out;omega
     clear ZY hL;go_wp2_with fail
     refine (Dj _ _ _ _ _ _ _ (Rd.own HOX.out) (by rw[HL.out];exact Rd.own HOY.out) (aK _) (aK _) HLX.out HLY.out).mono ?_;rintro e w3 ⟨⟨h,rfl⟩|⟨h,vq,vr,rfl,OZ,Gs⟩,dZ⟩
     ·exact absurd (by rw[aB] at h;exact h) HG0.out
     rw[aB,aB] at Gs;have hlt:x%gk<gk:=gC _ (Nat.pos_iff_ne_zero.2 HG0.out);have HLT:=af hlt;have HOR:=af (Own.mono Gs hbx);have HOG:=af (Own.below HOY.out dZ);have Yl:=af (HBX.out.trans (dZ.mono hbx));clear OZ Gs dZ h hlt;go_wp2_with fail
     go_roundg (x%gk)
     case measure=>exact HLT.out
     case rel=>exact⟨gk,by rw[ZW];exact HXY.out,by rw[HL.out];exact HOG.out,HOR.out,HLY.out,bj (eJ (Nat.le_of_lt HLT.out)) HLY.out,Yl.out⟩
  ·obtain rfl:k=N:=by omega
   go_wp2_with fail
   refine (nX _ _ _ _ (Rd.own HO.out) (by have:=HLEN.out;omega)).mono ?_;rintro e w2 ⟨v',rfl,qL,cC⟩;have Ft:B<=wr.heap.size:=by have:=lM.out.size;have:=HB.out;omega
   go_wp2_with fail
   refine di.out _ _ ⟨_,aa,?_,lM.out.trans (cC.mono Ft)⟩;have:=Own.mono qL Ft
   rwa [dP (by rw[HN.out];exact bL _)] at this
end
section
open Go.RowKit
theorem ZZ (x y:Nat):zt [limbs x,limbs y]=Nat.gcd x y:=by simp[zt,aB]
set_option maxRecDepth 100000 in
theorem PN (v u:Value) (X Y:Int) (j k:Nat) (w:World) (hv:dL w v X j) (hu:dL w u Y k) (hj:j<=536870912) (hk:k<=536870912):
  Calls Tryz.prog 103 #[v,u] w λe w'=>∃ r,e=.returned r/\aO w' w.heap.size r (Int.gcd X Y:Int)/\aU w w':=by
 obtain⟨s,p,n,c,rfl⟩:=hv.form;obtain⟨t,q,m,d,rfl⟩:=hu.form;refine bG λR' di=> ?_;obtain⟨b1,b2,b3,sZ⟩:=uE w 24 24 24 #[.bool s,.slice p n c] #[.bool t,.slice q m d] #[.bool false,.slice none 0 0];have qK:=hv.len;have vN:=hu.len;have HJ:=af (bj qK hj);have HK:=af (bj vN hk);have HV:=af hv;have HU:=af hu;have hsz:w.heap.size+3<=(((w.alloc (.cells #[.bool s,.slice p n c] 24)).alloc (.cells #[.bool t,.slice q m d] 24)).alloc (.cells #[.bool false,.slice none 0 0] 24)).heap.size:=bN;clear hv hu hj hk qK vN;go_enter Tryz.func103,Tryz.ntmps103
 go_wp2_with fail
 generalize ((w.alloc _).alloc _).alloc _=W at*;have HS:=af (λw' (h:aN W (w.heap.size+1+1) w')=>And.intro (h.cells b1 ab) (h.cells b2 ab));obtain⟨c1,c2,_,_⟩:=b1.two;obtain⟨c3,c4,_,_⟩:=b2.two;obtain⟨c5,c6,f5,f6⟩:=b3.two
 go_region_held3 (λw'=>(w'.cell? ⟨w.heap.size,0,none⟩=some (.bool s)/\w'.cell? ⟨w.heap.size,1,none⟩=some (.slice p n c))/\w'.cell? ⟨w.heap.size+1,0,none⟩=some (.bool t)/\w'.cell? ⟨w.heap.size+1,1,none⟩=some (.slice q m d)) ((refine HS.out _ ?_;(with_reducible (repeat (first|exact aN.refl _ _|refine aN.drew ?_|refine aN.drewN ?_ _|refine aN.alloc ?_ _|refine aN.set ?_ _|refine aN.aR ?_ (by assumption)|refine aN.wF ?_ (by first|omega|(simp;done)|(simp;omega)) _))))) (first
  | (go_at_call_of 79 (Value.slice p n c);refine (kM _ X j w _ HV.out lX).mono ?_;rintro e w1 ⟨u1,rfl,FF,bA⟩;obtain⟨s1,p1,n1,k1,rfl⟩:=FF.lE;have ZU:=Cq s1 p1 n1 k1;have ZV:=Cr s1 p1 n1 k1)
  | (go_at_call_of 79 (Value.slice q m d);refine (kM _ Y k w _ HU.out lX).mono ?_;rintro e w2 ⟨u2,rfl,FG,cC⟩;obtain⟨s2,p2,n2,k2,rfl⟩:=FG.lE;have hf3:=Cq s2 p2 n2 k2;have hf4:=Cr s2 p2 n2 k2;have HP1:=af FF.parts;have HP2:=af FG.parts)
  | (go_at_call 126;refine (ZX _ [limbs X.natAbs,limbs Y.natAbs] _ (mQ.two (Uy aa) (by rw[<-HP1.out.1];exact HP1.out.2.1.below (by show aU _ _;exact lX)) (by rw[<-HP2.out.1];exact HP2.out.2.1.below (by show aU _ _;exact lX))) (λxs hx=>by rcases dW.1 hx with rfl|hx;exact⟨aK _,HJ.out⟩;obtain rfl:=aJ.1 hx;exact⟨aK _,HK.out⟩) (by show 2<=1048576;omega)).mono ?_;rintro e w3 ⟨v3,rfl,BP,dZ⟩;replace dZ:aU _ w3:=dZ;rw[ZZ] at BP;obtain⟨p3,k3,rfl,_,_,_⟩:=Own.form BP)
  | (go_at_call 80;refine (jF _ _ _ _ _).mono ?_;rintro e w4 ⟨sg,rfl,ny,ic⟩;obtain⟨e5,e6,g5,g6⟩:=(bO.bI (w':=w4) b3 lX).two)
  | fail)
 have FC:=(bO.bI (w':=w4) b3 lX);have FB:aU w w4:=lX;have FZ:aU w (w2.alloc (.cells #[.slice p1 n1 k1,.slice p2 n2 k2] 22)):=lX;generalize hL:(limbs (X.natAbs.gcd Y.natAbs)).length=L at*;have HL:=af hL;have HO:=af (Own.dw (Own.below BP ic) FC bq (.bool sg) (.slice p3 L k3));clear BP hL;have Mc:=FC.dw (.bool (sg)) (.slice p3 (L) k3);have Md:=aU.dw FB (b:=w.heap.size+1+1) ab (.bool (sg)) (.slice p3 (L) k3);go_wp2
 generalize (w4.setCell ⟨w.heap.size+1+1,0,none⟩ (.bool (sg))).setCell ⟨w.heap.size+1+1,1,none⟩ (.slice p3 (L) k3)=wz at*;obtain⟨Me,Mf,_,_⟩:=Mc.two;refine bodyPost_ret (v:=.agg #[.bool (sg),.slice p3 (L) k3]) (by simp[results,Tryz.results103,go_sem,Me,Mf]) aa (di.out _ _ ?_);rw[ny.out];refine⟨_,aa,aO.of (m:=X.natAbs.gcd Y.natAbs) (by rw[HL.out];exact Own.mono HO.out FZ.size) HL.out.symm _ ?_,Md⟩;simp[Int.gcd]
end
section
open Go.RowKit
theorem boxes4 (w:World) (t t' Rq t3:TypeId) (cs gD yk cs3:Array Value):bO ((((w.alloc (.cells cs t)).alloc (.cells gD t')).alloc (.cells yk Rq)).alloc (.cells cs3 t3)) w.heap.size t cs/\bO ((((w.alloc (.cells cs t)).alloc (.cells gD t')).alloc (.cells yk Rq)).alloc (.cells cs3 t3)) (w.heap.size+1) t' gD/\
  bO ((((w.alloc (.cells cs t)).alloc (.cells gD t')).alloc (.cells yk Rq)).alloc (.cells cs3 t3)) (w.heap.size+2) Rq yk/\bO ((((w.alloc (.cells cs t)).alloc (.cells gD t')).alloc (.cells yk Rq)).alloc (.cells cs3 t3)) (w.heap.size+3) t3 cs3/\
  aU w ((((w.alloc (.cells cs t)).alloc (.cells gD t')).alloc (.cells yk Rq)).alloc (.cells cs3 t3)):=
 ⟨(uE w t t' Rq cs gD yk).1.alloc _,(uE w t t' Rq cs gD yk).2.1.alloc _,(uE w t t' Rq cs gD yk).2.2.1.alloc _,bO.newAt bN _ _,(uE w t t' Rq cs gD yk).2.2.2.alloc _⟩
def Hj (w w':World) (X Y:Int) (e:Ending):Prop:=
 (Y=0/\∃ v u,e=.returned (.tuple #[v,u,.int .i64 20])/\aO w' w.heap.size v 0/\aO w' w.heap.size u 0)\/
 (Y≠0/\∃ v u,e=.returned (.tuple #[v,u,.int .i64 0])/\aO w' w.heap.size v (X.fdiv Y)/\aO w' w.heap.size u (X.fmod Y))
def DivAdj (a b:Nat) (s t:Bool) (M R:Nat):Prop:=((s=t\/a%b=0)/\M=a/b/\R=a%b)\/(s≠t/\a%b≠0/\M=a/b+1/\R=b-a%b)
theorem xQ {X Y:Int} {a b M R:Nat} {s t:Bool} (hX:X=if s=true then-(a:Int) else a) (hY:Y=if t=true then-(b:Int) else b) (hb:b≠0) (h:DivAdj a b s t M R):
  X.fdiv Y=(if (!(s == t))=true then-(M:Int) else M)/\X.fmod Y=(if t=true then-(R:Int) else R):=by
 unfold DivAdj at h;have e:=JQ a b;have hlt:=gC a (Nat.pos_of_ne_zero hb);generalize a/b=q at*;generalize a%b=r at*;have e':(a:Int)=(b:Int)*(q:Int)+(r:Int):=by rw[<-e];simp
 rw[e'] at hX;have hR:R<=b:=by rcases h with ⟨_,_,rfl⟩|⟨_,_,_,rfl⟩ <;> omega
 cases t
 ·have hp:0<Y:=by simp at hY;omega
  refine (Int.fdiv_fmod_unique hp).2 ?_;rcases h with ⟨h1,rfl,rfl⟩|⟨h1,h2,rfl,rfl⟩
  ·cases s
   ·simp at hX hY ⊢;subst hX;subst hY;omega
   ·simp at h1 hX hY ⊢;subst hX;subst hY;subst h1;simp only[Int.mul_neg];omega
  ·cases s
   ·exact absurd aa h1
   ·simp at hX hY ⊢;subst hX;subst hY;rw[Int.natCast_sub ab];simp only[Int.mul_add,Int.mul_neg,Int.mul_one,Int.neg_add];omega
 ·have hp:Y<0:=by simp at hY;omega
  refine (Int.fdiv_fmod_unique' hp).2 ?_;rcases h with ⟨h1,rfl,rfl⟩|⟨h1,h2,rfl,rfl⟩
  ·cases s
   ·simp at h1 hX hY ⊢;subst hX;subst hY;subst h1;simp only[Int.neg_mul_neg];omega
   ·simp at hX hY ⊢;subst hX;subst hY;simp only[Int.neg_mul];omega
  ·cases s
   ·simp at hX hY ⊢;subst hX;subst hY;rw[Int.natCast_sub ab];simp only[Int.mul_add,Int.neg_mul,Int.mul_neg,Int.mul_one,Int.neg_add,Int.neg_neg];omega
   ·exact absurd aa h1
set_option maxRecDepth 100000 in
theorem se (v u:Value) (X Y:Int) (j k:Nat) (w:World) (hv:dL w v X j) (hu:dL w u Y k) (hj:j<=536870912) (hk:k<=536870912):
  Calls Tryz.prog 114 #[v,u] w λe w'=>Hj w w' X Y e/\aU w w':=by
 obtain⟨s,p,n,c,rfl⟩:=hv.form;obtain⟨t,q,m,d,rfl⟩:=hu.form;refine bG λR' di=> ?_;obtain⟨b1,b2,b3,b4,sZ⟩:=boxes4 w 24 24 24 24 #[.bool s,.slice p n c] #[.bool t,.slice q m d] #[.bool false,.slice none 0 0] #[.bool false,.slice none 0 0];have qK:=hv.len;have vN:=hu.len;have HJ:=af (bj qK hj);have HK:=af (bj vN hk);have HV:=af hv;have HU:=af hu;have hsz:w.heap.size+4<=((((w.alloc (.cells #[.bool s,.slice p n c] 24)).alloc (.cells #[.bool t,.slice q m d] 24)).alloc (.cells #[.bool false,.slice none 0 0] 24)).alloc (.cells #[.bool false,.slice none 0 0] 24)).heap.size:=bN;clear hv hu hj hk qK vN;go_enter Tryz.func114,Tryz.ntmps114
 go_wp2_with fail
 generalize (((w.alloc _).alloc _).alloc _).alloc _=W at*;go_cut [7,8] (λx5 x6 wc=>UW w W wc 137 X Y x5 x6)
 case first=>
  have HS:=af (λw' (h:aN W (w.heap.size+1+1) w')=>And.intro (h.cells b1 ab) (h.cells b2 ab));obtain⟨c1,c2,_,_⟩:=b1.two;obtain⟨c3,c4,_,_⟩:=b2.two
  go_region_held3 (λw'=>(w'.cell? ⟨w.heap.size,0,none⟩=some (.bool s)/\w'.cell? ⟨w.heap.size,1,none⟩=some (.slice p n c))/\w'.cell? ⟨w.heap.size+1,0,none⟩=some (.bool t)/\w'.cell? ⟨w.heap.size+1,1,none⟩=some (.slice q m d)) ((refine HS.out _ ?_;(with_reducible (repeat (first|exact aN.refl _ _|refine aN.drew ?_|refine aN.drewN ?_ _|refine aN.alloc ?_ _|refine aN.set ?_ _|refine aN.aR ?_ (by assumption)|refine aN.wF ?_ (by first|omega|(simp;done)|(simp;omega)) _))))) (first
   | (go_at_call_of 79 (Value.slice p n c);refine (kM _ X j w _ HV.out lX).mono ?_;rintro e w1 ⟨u1,rfl,FF,bA⟩;obtain⟨s1,p1,n1,k1,rfl⟩:=FF.lE;have PG:=bA.size;(try simp at PG);(try (have q1:=bO.bI (bO.drew (bO.new _ _ #[_,_])) bA;(try simp at q1);obtain⟨q1a,q1b,q1c,q1d⟩:=q1.two;have q1l:=q1.lt;have q1n:=rT q1l;have q1m:=rU q1l));(try (have q2:=bO.bI (bO.drew (bO.alloc (bO.new _ _ #[_,_]) _)) bA;(try simp at q2);obtain⟨q2a,q2b,q2c,q2d⟩:=q2.two;have q2l:=q2.lt;have q2n:=rT q2l;have q2m:=rU q2l)))
   | (go_at_call_of 79 (Value.slice q m d);refine (kM _ Y k w _ HU.out lX).mono ?_;rintro e w2 ⟨u2,rfl,FG,cC⟩;obtain⟨s2,p2,n2,k2,rfl⟩:=FG.lE;have Sx:=cC.size;(try simp at Sx);(try (have q3:=bO.bI (bO.new _ _ #[_,_]) cC;(try simp at q3);obtain⟨q3a,q3b,q3c,q3d⟩:=q3.two;have q3l:=q3.lt;have q3n:=rT q3l;have q3m:=rU q3l));(try (have q4:=bO.bI (bO.alloc (bO.new _ _ #[_,_]) _) cC;(try simp at q4);obtain⟨q4a,q4b,q4c,q4d⟩:=q4.two;have q4l:=q4.lt;have q4n:=rT q4l;have q4m:=rU q4l));(try (have q5:=bO.bI q1 cC;(try simp at q5);obtain⟨q5a,q5b,q5c,q5d⟩:=q5.two;have q5l:=q5.lt;have q5n:=rT q5l;have q5m:=rU q5l));(try (have q6:=bO.bI q2 cC;(try simp at q6);obtain⟨q6a,q6b,q6c,q6d⟩:=q6.two;have q6l:=q6.lt;have q6n:=rT q6l;have q6m:=rU q6l));(try (have q7:=bO.bI (bO.alloc q1 _) cC;(try simp at q7);obtain⟨q7a,q7b,q7c,q7d⟩:=q7.two;have q7l:=q7.lt;have q7n:=rT q7l;have q7m:=rU q7l)))
   | fail)
  all_goals
   go_wp2
   go_meet
   refine⟨_,_,s1,p1,n1,k1,s2,p2,n2,k2,aa,aa,?_,?_,FF,FG,?_⟩
   ·(with_reducible (repeat (first|assumption|exact bO.newAt (by first|rfl|(simp;done)) _ _|refine bO.alloc ?_ _|refine bO.drew ?_|refine bO.dw (u:=.bool false) (v:=.slice none 0 0) ?_ _ _|refine bO.gu ?_ (by first|omega|(simp;omega)) _ _|refine bO.bI ?_ (by assumption))))
   ·(with_reducible (repeat (first|assumption|exact bO.newAt (by first|rfl|(simp;done)) _ _|refine bO.alloc ?_ _|refine bO.drew ?_|refine bO.dw (u:=.bool false) (v:=.slice none 0 0) ?_ _ _|refine bO.gu ?_ (by first|omega|(simp;omega)) _ _|refine bO.bI ?_ (by assumption))))
   ·exact lX
 case rest=>
  obtain⟨g,h,s1,p1,n1,k1,s2,p2,n2,k2,rfl,rfl,B5,B6,FF,FG,hbc⟩:=hcut;obtain⟨xI,nA,hX⟩:=FF.parts;obtain⟨xe,nC,hY⟩:=FG.parts;have B3:=b3.bI hbc;have B4:=b4.bI hbc;have qm:aU w wc:=sZ.aR hbc;have HR1:=af (nA.below qm);have HR2:=af (nC.below qm);have HN1:=af xI;have HN2:=af xe;have HX:=af hX;have HY:=af hY;have HM1:Hid (n1<=536870912):=by show _<=_;rw[xI];exact HJ.out
  have HM2:Hid (n2<=536870912):=by show _<=_;rw[xe];exact HK.out
  have Yj:w.heap.size+4<=wc.heap.size:=bj hsz hbc.size;clear b1 b2 b3 b4 hbc sZ FF FG nA nC hX hY xI xe hsz;obtain⟨c1,c2,_,_⟩:=B5.two;obtain⟨c3,c4,_,_⟩:=B6.two;go_wp2_with fail
  refine (Dj _ _ n1 n2 _ _ _ HR1.out HR2.out (aK _) (aK _) HM1.out HM2.out).mono ?_;rw[aB,aB];rintro e w3 ⟨hd,dZ⟩;replace dZ:aU _ w3:=dZ;have F5:=B5.bI dZ;have F6:=B6.bI dZ;have F3:=B3.bI dZ;have F4:=B4.bI dZ;have hbw3:=qm.aR dZ;obtain⟨e1,e2,_,_⟩:=F5.two;obtain⟨e3,e4,_,_⟩:=F6.two;obtain⟨e5,e6,f5,f6⟩:=F3.two;obtain⟨e7,e8,f7,f8⟩:=F4.two;rcases hd with ⟨h0,rfl⟩|⟨h0,vq,vr,rfl,OZ,Gs⟩
  ·have hY0:Y=0:=by have:=HY.out;split at this <;> omega
   have G3:=(F3.dw (.bool false) (.slice none 0 0)).gu (b':=w.heap.size+3) ab (.bool false) (.slice none 0 0);have G4:=(F4.gu (b':=w.heap.size+2) ab (.bool false) (.slice none 0 0)).dw (.bool false) (.slice none 0 0);have Sy:=(hbw3.dw (b:=w.heap.size+2) ab (.bool false) (.slice none 0 0)).dw (b:=w.heap.size+3) ab (.bool false) (.slice none 0 0);clear HX HY HN1 HN2 h0;go_wp2
   generalize (((w3.setCell ⟨w.heap.size+1+1,0,none⟩ (.bool false)).setCell ⟨w.heap.size+1+1,1,none⟩ (.slice none 0 0)).setCell ⟨w.heap.size+1+1+1,0,none⟩ (.bool false)).setCell ⟨w.heap.size+1+1+1,1,none⟩ (.slice none 0 0)=wz at*;obtain⟨d1,d2,_,_⟩:=G3.two;obtain⟨d3,d4,_,_⟩:=G4.two;exact bodyPost_ret (v:=.tuple #[.agg #[.bool false,.slice none 0 0],.agg #[.bool false,.slice none 0 0],.int .i64 20]) (by simp[results,Tryz.results114,go_sem,d1,d2,d3,d4]) aa (di.out _ _ ⟨.inl ⟨hY0,_,_,aa,aO.zero _ _,aO.zero _ _⟩,Sy⟩)
  ·obtain⟨pq,kq,rfl,_,_,_⟩:=Own.form OZ;obtain⟨pr,kr,rfl,_,_,_⟩:=Own.form Gs;generalize hlq:(limbs (X.natAbs/Y.natAbs)).length=lq at*;generalize Gx:(limbs (X.natAbs%Y.natAbs)).length=lr at*;have HLQ:=af hlq.symm;have Yk:=af Gx.symm;have HOQ:=af OZ;have HOR:=af Gs;have H0:=af h0;clear OZ Gs hlq Gx h0 e2 e6 e8 e5 e7 f5 f6 f7 f8 c1 c2 c3 c4;by_cases hst:s1=s2
   ·subst hst;clear e4;go_wp2_with fail
    have hg3:g≠w.heap.size+1+1:=bO.apart F5 F3 bq;have hg4:g≠w.heap.size+1+1+1:=bO.apart F5 F4 bq;have hh3:h≠w.heap.size+1+1:=bO.apart F6 F3 bq;have hh4:h≠w.heap.size+1+1+1:=bO.apart F6 F4 bq;have HS:=af (λw' (hk:bT w3 (w.heap.size+1+1) (w.heap.size+1+1+1) w')=>And.intro ((hk.cls F5 hg3 hg4).cell (j:=0) aa) ((hk.cls F6 hh3 hh4).cell (j:=0) aa))
    go_region_held3 (λw'=>w'.cell? ⟨g,0,none⟩=some (.bool s1)/\w'.cell? ⟨h,0,none⟩=some (.bool s1)) ((refine HS.out _ ?_;(with_reducible (repeat (first|exact bT.refl _ _ _|refine bT.drew ?_|refine bT.Zu ?_ _|refine bT.yl ?_ _|refine bT.aR ?_ (by assumption)))))) (first
     | (go_at_call_of 80 (Value.slice pq lq kq);refine (jF _ _ _ _ _).mono ?_;rintro e w6 ⟨sg,rfl,ny,ln⟩)
     | (go_at_call_of 80 (Value.slice pr lr kr);refine (jF _ _ _ _ _).mono ?_;rintro e w7 ⟨pZ,rfl,qa,ta⟩;obtain⟨i1,i2,i3,i4⟩:=(bO.bI (w':=w7) F3 lX).two;obtain⟨j1,j2,j3,j4⟩:=(bO.bI (w':=w7) F4 lX).two)
     | fail)
    have E3:=(bO.bI (w':=w7) F3 lX);have E4:=(bO.bI (w':=w7) F4 lX);have FW:aU w3 w7:=lX;have FB:aU w w7:=lX;have OZ:=Own.below (HOQ).out FW;have Gs:=Own.below (HOR).out FW;have PO:=(Own.dw (Own.dw OZ E3 bq (.bool sg) (.slice pq lq kq)) (E4.gu (b':=w.heap.size+1+1) ab (.bool sg) (.slice pq lq kq)) bq (.bool pZ) (.slice pr lr kr));have PQ:=(Own.dw (Own.dw Gs E3 bq (.bool sg) (.slice pq lq kq)) (E4.gu (b':=w.heap.size+1+1) ab (.bool sg) (.slice pq lq kq)) bq (.bool pZ) (.slice pr lr kr));have G3:=(E3.dw (.bool sg) (.slice pq lq kq)).gu (b':=w.heap.size+1+1+1) ab (.bool pZ) (.slice pr lr kr);have G4:=(E4.gu (b':=w.heap.size+1+1) ab (.bool sg) (.slice pq lq kq)).dw (.bool pZ) (.slice pr lr kr);have Sy:=(FB.dw (b:=w.heap.size+1+1) ab (.bool sg) (.slice pq lq kq)).dw (b:=w.heap.size+1+1+1) ab (.bool pZ) (.slice pr lr kr);have HOQ2:=af PO;have HOR2:=af PQ;clear OZ Gs PO PQ;go_wp2
    generalize (((w7.setCell ⟨w.heap.size+1+1,0,none⟩ (.bool sg)).setCell ⟨w.heap.size+1+1,1,none⟩ (.slice pq lq kq)).setCell ⟨w.heap.size+1+1+1,0,none⟩ (.bool pZ)).setCell ⟨w.heap.size+1+1+1,1,none⟩ (.slice pr lr kr)=wz at*;obtain⟨d1,d2,_,_⟩:=G3.two;obtain⟨d3,d4,_,_⟩:=G4.two;have BN:=xQ HX.out HY.out H0.out (.inl ⟨.inl aa,aa,aa⟩);refine bodyPost_ret (v:=.tuple #[.agg #[.bool sg,.slice pq lq kq],.agg #[.bool pZ,.slice pr lr kr],.int .i64 0]) (by simp[results,Tryz.results114,go_sem,d1,d2,d3,d4]) aa (di.out _ _ ⟨.inr ⟨by have:=H0.out;omega,_,_,rfl,?_,?_⟩,Sy⟩)
    ·rw[ny.out];exact aO.of (by rw[<-(HLQ).out];exact Own.mono HOQ2.out qm.size) (HLQ).out _ (by simpa using BN.1)
    ·rw[qa.out];exact aO.of (by rw[<-(Yk).out];exact Own.mono HOR2.out qm.size) (Yk).out _ (by simpa using BN.2)
   ·obtain rfl:s2= !s1:=by cases s1 <;> cases s2 <;> simp_all
    by_cases Gt:X.natAbs%Y.natAbs=0
    ·have FH:lr=0:=by have:=Yk.out;rw[Gt,dy] at this;exact this
     have HR0:=af Gt;subst FH;clear Gt hst e4;go_wp2_with fail
     have hg3:g≠w.heap.size+1+1:=bO.apart F5 F3 bq;have hg4:g≠w.heap.size+1+1+1:=bO.apart F5 F4 bq;have hh3:h≠w.heap.size+1+1:=bO.apart F6 F3 bq;have hh4:h≠w.heap.size+1+1+1:=bO.apart F6 F4 bq;have HS:=af (λw' (hk:bT w3 (w.heap.size+1+1) (w.heap.size+1+1+1) w')=>And.intro ((hk.cls F5 hg3 hg4).cell (j:=0) aa) ((hk.cls F6 hh3 hh4).cell (j:=0) aa))
     go_region_held3 (λw'=>w'.cell? ⟨g,0,none⟩=some (.bool s1)/\w'.cell? ⟨h,0,none⟩=some (.bool (!s1))) ((refine HS.out _ ?_;(with_reducible (repeat (first|exact bT.refl _ _ _|refine bT.drew ?_|refine bT.Zu ?_ _|refine bT.yl ?_ _|refine bT.aR ?_ (by assumption)))))) (first
      | (go_at_call_of 80 (Value.slice pq lq kq);refine (jF _ _ _ _ _).mono ?_;rintro e w6 ⟨sg,rfl,ny,ln⟩)
      | (go_at_call_of 80 (Value.slice pr 0 kr);refine (jF _ _ _ _ _).mono ?_;rintro e w7 ⟨pZ,rfl,qa,ta⟩;obtain⟨i1,i2,i3,i4⟩:=(bO.bI (w':=w7) F3 lX).two;obtain⟨j1,j2,j3,j4⟩:=(bO.bI (w':=w7) F4 lX).two)
      | fail)
     have E3:=(bO.bI (w':=w7) F3 lX);have E4:=(bO.bI (w':=w7) F4 lX);have FW:aU w3 w7:=lX;have FB:aU w w7:=lX;have OZ:=Own.below (HOQ).out FW;have Gs:=Own.below (HOR).out FW;have PO:=(Own.dw (Own.dw OZ E3 bq (.bool sg) (.slice pq lq kq)) (E4.gu (b':=w.heap.size+1+1) ab (.bool sg) (.slice pq lq kq)) bq (.bool pZ) (.slice pr 0 kr));have PQ:=(Own.dw (Own.dw Gs E3 bq (.bool sg) (.slice pq lq kq)) (E4.gu (b':=w.heap.size+1+1) ab (.bool sg) (.slice pq lq kq)) bq (.bool pZ) (.slice pr 0 kr));have G3:=(E3.dw (.bool sg) (.slice pq lq kq)).gu (b':=w.heap.size+1+1+1) ab (.bool pZ) (.slice pr 0 kr);have G4:=(E4.gu (b':=w.heap.size+1+1) ab (.bool sg) (.slice pq lq kq)).dw (.bool pZ) (.slice pr 0 kr);have Sy:=(FB.dw (b:=w.heap.size+1+1) ab (.bool sg) (.slice pq lq kq)).dw (b:=w.heap.size+1+1+1) ab (.bool pZ) (.slice pr 0 kr);have HOQ2:=af PO;have HOR2:=af PQ;clear OZ Gs PO PQ;go_wp2
     generalize (((w7.setCell ⟨w.heap.size+1+1,0,none⟩ (.bool sg)).setCell ⟨w.heap.size+1+1,1,none⟩ (.slice pq lq kq)).setCell ⟨w.heap.size+1+1+1,0,none⟩ (.bool pZ)).setCell ⟨w.heap.size+1+1+1,1,none⟩ (.slice pr 0 kr)=wz at*;obtain⟨d1,d2,_,_⟩:=G3.two;obtain⟨d3,d4,_,_⟩:=G4.two;have BN:=xQ HX.out HY.out H0.out (.inl ⟨.inr HR0.out,aa,aa⟩);refine bodyPost_ret (v:=.tuple #[.agg #[.bool sg,.slice pq lq kq],.agg #[.bool pZ,.slice pr 0 kr],.int .i64 0]) (by simp[results,Tryz.results114,go_sem,d1,d2,d3,d4]) aa (di.out _ _ ⟨.inr ⟨by have:=H0.out;omega,_,_,rfl,?_,?_⟩,Sy⟩)
     ·rw[ny.out];exact aO.of (by rw[<-(HLQ).out];exact Own.mono HOQ2.out qm.size) (HLQ).out _ (by simpa using BN.1)
     ·rw[qa.out];exact aO.of (by rw[<-(Yk).out];exact Own.mono HOR2.out qm.size) (Yk).out _ (by simpa using BN.2)
    ·have hlp:0<lr:=by have:=Yk.out;have:=fN Gt;omega
     have KE:(0:Int)<(lr:Int):=ab;have HR0:=af Gt;have Zf:Hid (lq<=536870912):=by show _<=_;rw[HLQ.out];exact bj (eJ (Oq _ _)) HJ.out
     clear Gt hst;go_wp2_with fail
     refine (Ux _ _ lq 1 _ [1] _ ((Rd.own HOQ.out).alloc _) (Rd.lit1 aa) (aK _) (ez.cons ab ez.nil) (by have:=Zf.out;omega) ab).mono ?_;rintro e w4 ⟨v4,rfl,ho4,ic⟩;replace ic:aU _ w4:=ic;rw[aB,show ay [1]=1 by rfl] at ho4;obtain⟨pm,cm,rfl,_,_,_⟩:=Own.form ho4;generalize FI:(limbs (X.natAbs/Y.natAbs+1)).length=nm at*;have YX:=af FI.symm;have PR:aU w3 w4:=((aU.refl w3).alloc _).aR ic;have WE:=af (Own.mono ho4 (show w3.heap.size<=_ by simp));have HOR4:=af (Own.below HOR.out PR);have HY4:=af (HR2.out.below (dZ.aR PR));obtain⟨i1,i2,_,_⟩:=(F6.bI PR).two;clear ho4 FI ic;go_wp2_with fail
     refine (LC _ _ n2 lr _ _ _ HY4.out (Rd.own HOR4.out) (aK _) (aK _) (by have:=HM2.out;omega)).mono ?_;rintro e w5 ⟨⟨h,_⟩|⟨_,v5,rfl,ho5⟩,iz⟩
     ·rw[aB,aB] at h;exact absurd h (by have:=gC X.natAbs (Nat.pos_of_ne_zero H0.out);omega)
     replace iz:aU _ w5:=iz;rw[aB,aB] at ho5;obtain⟨pn,cn,rfl,_,_,_⟩:=Own.form ho5;generalize SA:(limbs (Y.natAbs-X.natAbs%Y.natAbs)).length=nn at*;have HLN:=af SA.symm;have SB:aU w3 w5:=PR.aR iz;have HOM:=af (Own.mono (Own.below WE.out iz) dZ.size);have HON:=af (Own.mono ho5 (bj dZ.size PR.size));have T3:=F3.bI SB;have T4:=F4.bI SB;have T5:=F5.bI SB;have T6:=F6.bI SB;have hbw5:=hbw3.aR SB;clear ho5 SA iz F3 F4 F5 F6 PR SB dZ hbw3 HOQ HOR WE HOR4 HY4 i1 i2;obtain⟨e1,_,_,_⟩:=T5.two;obtain⟨e3,_,_,_⟩:=T6.two;go_wp2_with fail
     have hg3:g≠w.heap.size+1+1:=bO.apart T5 T3 bq;have hg4:g≠w.heap.size+1+1+1:=bO.apart T5 T4 bq;have hh3:h≠w.heap.size+1+1:=bO.apart T6 T3 bq;have hh4:h≠w.heap.size+1+1+1:=bO.apart T6 T4 bq;have HS:=af (λw' (hk:bT w5 (w.heap.size+1+1) (w.heap.size+1+1+1) w')=>And.intro ((hk.cls T5 hg3 hg4).cell (j:=0) aa) ((hk.cls T6 hh3 hh4).cell (j:=0) aa))
     go_region_held3 (λw'=>w'.cell? ⟨g,0,none⟩=some (.bool s1)/\w'.cell? ⟨h,0,none⟩=some (.bool (!s1))) ((refine HS.out _ ?_;(with_reducible (repeat (first|exact bT.refl _ _ _|refine bT.drew ?_|refine bT.Zu ?_ _|refine bT.yl ?_ _|refine bT.aR ?_ (by assumption)))))) (first
      | (go_at_call_of 80 (Value.slice pm nm cm);refine (jF _ _ _ _ _).mono ?_;rintro e w6 ⟨sg,rfl,ny,ln⟩)
      | (go_at_call_of 80 (Value.slice pn nn cn);refine (jF _ _ _ _ _).mono ?_;rintro e w7 ⟨pZ,rfl,qa,ta⟩;obtain⟨i1,i2,i3,i4⟩:=(bO.bI (w':=w7) T3 lX).two;obtain⟨j1,j2,j3,j4⟩:=(bO.bI (w':=w7) T4 lX).two)
      | fail)
     have E3:=(bO.bI (w':=w7) T3 lX);have E4:=(bO.bI (w':=w7) T4 lX);have FW:aU w5 w7:=lX;have FB:aU w w7:=lX;have OZ:=Own.below (HOM).out FW;have Gs:=Own.below (HON).out FW;have PO:=(Own.dw (Own.dw OZ E3 bq (.bool sg) (.slice pm nm cm)) (E4.gu (b':=w.heap.size+1+1) ab (.bool sg) (.slice pm nm cm)) bq (.bool pZ) (.slice pn nn cn));have PQ:=(Own.dw (Own.dw Gs E3 bq (.bool sg) (.slice pm nm cm)) (E4.gu (b':=w.heap.size+1+1) ab (.bool sg) (.slice pm nm cm)) bq (.bool pZ) (.slice pn nn cn));have G3:=(E3.dw (.bool sg) (.slice pm nm cm)).gu (b':=w.heap.size+1+1+1) ab (.bool pZ) (.slice pn nn cn);have G4:=(E4.gu (b':=w.heap.size+1+1) ab (.bool sg) (.slice pm nm cm)).dw (.bool pZ) (.slice pn nn cn);have Sy:=(FB.dw (b:=w.heap.size+1+1) ab (.bool sg) (.slice pm nm cm)).dw (b:=w.heap.size+1+1+1) ab (.bool pZ) (.slice pn nn cn);have HOQ2:=af PO;have HOR2:=af PQ;clear OZ Gs PO PQ;go_wp2
     generalize (((w7.setCell ⟨w.heap.size+1+1,0,none⟩ (.bool sg)).setCell ⟨w.heap.size+1+1,1,none⟩ (.slice pm nm cm)).setCell ⟨w.heap.size+1+1+1,0,none⟩ (.bool pZ)).setCell ⟨w.heap.size+1+1+1,1,none⟩ (.slice pn nn cn)=wz at*;obtain⟨d1,d2,_,_⟩:=G3.two;obtain⟨d3,d4,_,_⟩:=G4.two;have BN:=xQ HX.out HY.out H0.out (.inr ⟨by cases s1 <;> simp,HR0.out,rfl,rfl⟩);refine bodyPost_ret (v:=.tuple #[.agg #[.bool sg,.slice pm nm cm],.agg #[.bool pZ,.slice pn nn cn],.int .i64 0]) (by simp[results,Tryz.results114,go_sem,d1,d2,d3,d4]) aa (di.out _ _ ⟨.inr ⟨by have:=H0.out;omega,_,_,rfl,?_,?_⟩,Sy⟩)
     ·rw[ny.out];exact aO.of (by rw[<-(YX).out];exact Own.mono HOQ2.out qm.size) (YX).out _ (by simpa using BN.1)
     ·rw[qa.out];exact aO.of (by rw[<-(HLN).out];exact Own.mono HOR2.out qm.size) (HLN).out _ (by simpa using BN.2)
end
section
open Go.RowKit
theorem FJ:(Tryz.prog.info? 3).map (λi=>(i.zero,i.size,i.bytes))=some (some (.int .i64 0),1,8):=by kernel_rfl
def hval (xs:List Nat):Nat:=val 65536 xs
def halves (n:Nat):List Nat:=mL 65536 n
def kN (xs:List Nat):Prop:=gN 65536 xs
theorem dv (n:Nat):kN (halves n):=wy ab n
theorem cf (n:Nat):hval (halves n)=n:=qI ab n
variable {xs:List Nat} {x:Nat}
theorem kN.at (h:kN xs) {k:Nat} (hk:xs[k]? =some x):x<65536:=gN.at h hk
theorem sf:halves 0=[]:=gH _
variable {m:Nat}
theorem SC {n:Nat} (h:halves m=halves n):m=n:=Gp ab h
theorem qw (xs:List Nat) (x:Nat):hval (xs++[x])=hval xs+65536^xs.length*x:=tn _ xs x
theorem Ba (h:kN xs):hval xs<65536^xs.length:=wA h
theorem fq (h:ez xs):(halves (ay xs)).length<=2*xs.length:=by
 apply iQ ab;have:=oe h
 rwa [JV]
variable {w:World}
theorem Rd.i64 {v:Value} {n:Nat} (h:Rd w 1 v n (ints .i64 xs)):∃ p c,v=.slice p n c/\n<=c/\c<=9223372036854775807/\xs.length=n:=by
 obtain⟨p,c,hv,h1,h2,h3⟩:=h.form;unfold maxLen at h2;exact⟨p,c,hv,h1,ab,by simpa using h3⟩
variable {c:Nat} {p:Option Addr}
theorem Rd.PS {n:Nat} {k:IntKind} (h:Rd w 1 (.slice p n c) n (ints k xs)) (hm:m<=n):Rd w 1 (.slice p m c) m (ints k (xs.take m)):=by
 have:=h.take hm
 rwa [yD,xG] at this
variable {B e:Nat}
theorem Own.PS {n:Nat} {k:IntKind} (h:w.ownsRow B e 1 (.slice p n c) n (ints k xs)) (hm:m<=n):w.ownsRow B e 1 (.slice p m c) m (ints k (xs.take m)):=by
 have:=Own.take h hm
 rwa [yD,xG] at this
set_option maxRecDepth 100000 in
theorem mX (va:Value) (n i:Nat) (xs:List Nat) (w:World) (hr:Rd w 1 va n (ints .i64 xs)):
  Calls Tryz.prog 122 #[va,.int .i64 (i:Int)] w λe w'=>e=.returned (.int .i64 ((xs.getD i 0:Nat):Int))/\w=w':=by
 obtain⟨p,c,rfl,il,iC,ib⟩:=hr.i64;have HX:=af ib;clear ib;by_cases hi:i<n
 ·obtain⟨b,off,x,rfl,_,hx,hc⟩:=hr.cellAt hi;have e:Hid (xs.getD i 0=x):=by show _=_;rw[List.getD,hx];rfl
  clear hx;refine bG λR' di=> ?_;go_enter Tryz.func122,Tryz.ntmps122
  go_wp2
  exact di.out _ _ ⟨tr (by rw[e.out]),aa⟩
 ·have e:Hid (xs.getD i 0=0):=by show _=_;rw[List.getD,vi (by rw[HX.out];omega)];rfl
  refine bG λR' di=> ?_;go_enter Tryz.func122,Tryz.ntmps122
  go_wp2
  exact di.out _ _ ⟨tr (by rw[e.out];rfl),aa⟩
set_option maxRecDepth 100000 in
theorem KO (p:Option Addr) (n c:Nat) (xs:List Nat) (w:World) (hr:Rd w 1 (.slice p n c) n (ints .i64 xs)) (hl:kN xs):
  Calls Tryz.prog 138 #[.slice p n c] w λe w'=>(∃ m,m<=n/\e=.returned (.slice p m c)/\halves (hval xs)=xs.take m)/\w=w':=by
 obtain⟨p',c',hv,il,iC,ib⟩:=hr.i64;simp only[Value.slice.injEq,true_and] at hv;obtain⟨rfl,rfl⟩:=hv;have HX:Hid (xs.length=n):=ib;clear ib;refine bG λR' di=> ?_;go_enter Tryz.func138,Tryz.ntmps138
 go_wp2
 go_loop [0] (λv=>∃ m,m<=n/\v=.slice p m c/\hval (xs.take m)=hval xs) (λv=>match v with | .slice _ m _=>m|_=>0)
 case atStart=>exact⟨n,bL _,aa,by rw[dP (iM HX.out)]⟩
 case round=>
  obtain⟨m,hm,rfl,hv⟩:=hrel;have HV:Hid (hval (xs.take m)=hval xs):=hv;clear hv;by_cases h0:m=0
  ·subst h0;go_wp2
   exact di.out _ _ ⟨⟨0,fH _,aa,ql ab hl (fH _) HV.out (.inl aa)⟩,aa⟩
  ·obtain⟨b,off,x,rfl,hb,hx,hc⟩:=hr.cellAt (k:=m-1) ab;have YU:Hid (xs[m-1]? =some x):=hx;clear hx;have h0':0<m:=ab;obtain⟨j,rfl⟩:∃ j,m=j+1:=⟨m-1,ab⟩;rw[Nat.add_sub_cancel] at hc;by_cases my:x=0
   ·subst my;go_wp2
    go_round
    case rel=>exact⟨j,ab,aa,(rW YU.out).symm.trans HV.out⟩
    case measure=>simp
   ·have hx0':((x:Int) == 0)=false:=by rw[iZ];omega
    go_wp2
    exact di.out _ _ ⟨⟨j+1,hm,aa,ql ab hl (by rw[HX.out];exact hm) HV.out (.inr ⟨x,YU.out,my⟩)⟩,aa⟩
theorem Own.cut {n:Nat} (h:w.ownsRow B e 1 (.slice p n c) n (ints .i64 xs)) (hm:m<=n) (hl:halves (hval xs)=xs.take m):
  w.ownsRow B e 1 (.slice p m c) (halves (hval xs)).length (ints .i64 (halves (hval xs)))/\m=(halves (hval xs)).length:=by
 have hx:xs.length=n:=by have:=h.1;simpa using this
 have e2:(halves (hval xs)).length=m:=by rw[hl,cM];omega
 have:=Own.PS h hm;rw[<-hl] at this;rw[e2];exact⟨this,aa⟩
def UY (w:World) (B:Nat) (xs:List Nat) (ov iv:Value) (wr:World):Prop:=
 ∃ (k:Nat) (hs:List Nat),k<=xs.length/\iv=.int .i64 (k:Int)/\hs.length=2*k/\kN hs/\hval hs=ay (xs.take k)/\
   wr.ownsRow B 3 1 ov (2*k) (ints .i64 hs)/\Below B w wr
theorem UZ (h:x<4294967296):IntKind.i64.wrap ((x:Int).tmod 65536)=((x%65536:Nat):Int):=by
 rw[Oh ab,cV _ ab];simp
theorem Va (h:x<4294967296):IntKind.i64.wrap (IntKind.u32.wrap ((x:Int)/65536))=((x/65536:Nat):Int):=by
 rw[Uo,Int.emod_eq_of_lt ab ab,cV _ ab];simp
variable {hs:List Nat}
theorem KP {k:Nat} (hx:xs[k]? =some x) (rk:x<4294967296) (hl:hs.length=2*k) (hh:kN hs) (hv:hval hs=ay (xs.take k)):
  kN (hs++[x%65536,x/65536])/\hval (hs++[x%65536,x/65536])=ay (xs.take (k+1)):=by
 have hk:k<xs.length:=(cQ.1 hx).1;refine⟨gN.append hh (gN.cons (gC _ ab) (gN.cons ab (gN.nil _))),?_⟩;rw[dk hx,gI,<-hv,cM,ig ab];show val 65536 _=_;rw[nQ,hl];show hval hs+_=_
 congr 1
 rw[JV];show (4294967296:Nat)^k*(x%65536+65536*(x/65536+65536*0))=_
 congr 1
 omega
set_option maxRecDepth 100000 in
theorem jl (va:Value) (n:Nat) (xs:List Nat) (w:World) (hr:Rd w 1 va n (ints .u32 xs)) (hl:ez xs) (hn:n<=1073741824):
  Calls Tryz.prog 121 #[va] w λe w'=>∃ v',e=.returned v'/\w'.ownsRow w.heap.size 3 1 v' (halves (ay xs)).length (ints .i64 (halves (ay xs)))/\Below w.heap.size w w':=by
 obtain⟨p,c,rfl,il,iC,ib⟩:=hr.u32;obtain⟨i0,hi,pX,lD,uw⟩:=info_parts FJ;obtain⟨B,hB⟩:∃ B,B=w.heap.size:=⟨_,aa⟩;have HB:=af hB;have Hr:=af hr;have HL:=af hl;have HX:=af ib;rw[<-hB];clear hr hl ib hB;refine bG λR' di=> ?_;go_enter Tryz.func121,Tryz.ntmps121
 go_wp2
 go_loopw [3,4] (λov iv wr=>UY w B xs ov iv wr) (λ_ iv _=>n-(intOf iv).toNat)
 case atStart=>exact⟨0,[],fH _,aa,aa,gN.nil _,aa,qF _ _ _ _,iP _ _⟩
 case round=>
  obtain⟨k,hs,hk,rfl,hhl,hhh,hhv,aZ,hb⟩:=hrel;have HK:=af hk;have HO:=af aZ;have HHL:=af hhl;have HHH:=af hhh;have HHV:=af hhv;have lM:=af hb;have Ft:B<=wr.heap.size:=by have:=hb.size;have:=HB.out;omega
  have hkn':k<=n:=by rw[<-HX.out];exact hk
  clear hk aZ hhl hhh hhv hb;by_cases ux:k<n
  ·obtain⟨b1,o1,x,rfl,bA,kF,hcw⟩:=Hr.out.cellAt ux;have yi:=(lM.out.cell (p:=⟨b1,o1+k,none⟩) (by rw[HB.out];exact bA)).trans hcw;have hne:=YR HO.out (b:=b1) (by rw[HB.out];exact bA);have Fu:=af kF;have rk:=HL.out.at kF;have HNE:=af hne;have Di:(0:Int)<=(k:Int):=ab;have Hd:(k:Int)<(n:Int):=ab;clear kF hcw hne;go_wp2_with fail
   go_region_held3 (λw'=>w'.cell? ⟨b1,o1+k,none⟩=some (.int .u32 (x:Int))) (first|exact yi|go_keep|exact Kb Hl yi HNE.out)
    ((refine wC (by rfl) _ _ 156 (by rfl) B 3 i0 (.int .i64 0) 1 8 JN hi pX lD uw aa ab _ (2*k) (ints .i64 hs) (by rfl) ((HO.out.alloc _).drew) _ 2 (ints .i64 [x%65536,x/65536]) (by rfl) (Rd.drew (Rd.lit2 (UZ rk) (Va rk))) (tq .i64 [x%65536,x/65536]) (by unfold maxLen;omega) ab (by simp;omega) ?_;intro v1 w1 jM Hl))
   have zS:=af jM;have HG1:=af Hl;clear jM Hl;go_wp2_with fail
   go_roundw
   case rel=>
    have hst:=KP Fu.out rk HHL.out HHH.out HHV.out;exact⟨k+1,hs++[x%65536,x/65536],by rw[HX.out];omega,by go_num,by simp[HHL.out];omega,hst.1,hst.2,by rw[me];exact zS.out,Below.behind lM.out Ft HG1.out HO.out (bL _)⟩
   case measure=>simp[intOf];omega
  ·obtain rfl:k=n:=by omega
   obtain⟨p1,c1,Nu,_,_,_⟩:=Own.form HO.out;have HV1:=af Nu;have gJ:Hid (hval hs=ay xs):=by show _=_;rw[HHV.out,cZ (iM HX.out)]
   subst Nu;go_wp2_with fail
   refine (KO p1 (2*k) c1 hs _ (Rd.own HO.out) HHH.out).mono ?_;rintro e w2 ⟨⟨m,hm,rfl,Jf⟩,rfl⟩;have HC:=Own.cut HO.out hm Jf;rw[gJ.out] at HC;have HC1:=af HC.1;have HC2:=af HC.2;clear HC Jf;go_wp2_with fail
   refine di.out _ _ ⟨_,aa,?_,lM.out⟩;have:=HC1.out;rw[<-HC2.out] at this ⊢;exact this
def LimbInv (w:World) (B m:Nat) (hs:List Nat) (ov iv:Value) (wr:World):Prop:=
 ∃ (k:Nat) (ds:List Nat),2*k<=m+1/\iv=.int .i64 ((2*k:Nat):Int)/\ds.length=k/\ez ds/\ay ds=hval (hs.take (2*k))/\
   wr.ownsRow B 117 1 ov k (ints .u32 ds)/\Below B w wr
variable {ds:List Nat}
theorem KQ {k lo hi:Nat} (hl:ds.length=k) (hd:ez ds) (hv:ay ds=hval (hs.take (2*k))) (Lu:hs.getD (2*k) 0=lo) (hhi:hs.getD (2*k+1) 0=hi)
  (h1:lo<65536) (h2:hi<65536):ez (ds++[lo+65536*hi])/\ay (ds++[lo+65536*hi])=hval (hs.take (2*(k+1))):=by
 refine⟨hd.append (ez.cons ab ez.nil),?_⟩;rw[gI,hl,hv];show _=val 65536 (hs.take (2*k+1+1));rw[dK,dK,Lu,hhi,iL,yB];show hval _+_=hval _+_
 congr 1
 rw[show (4294967296:Nat)=65536^2 by rfl,<-JV,du,gB]
theorem PT {k h:Nat} (hl:ds.length=k) (hd:ez ds) (hv:ay ds=h) (hm:(halves h).length=m) (hk:2*k<=m+1):limbs h=ds:=by
 subst hv;apply Oy ab hd;show ds.length<=(limbs (ay ds)).length;rcases rK k with h0|h0
 ·omega
 ·have hne:ay ds≠0:=λh=>by rw[h,sf] at hm;simp at hm;omega
  have h1:65536^((halves (ay ds)).length-1)<=ay ds:=Dc ab hne
  have h2:4294967296^(k-1)<=ay ds:=by
   rw[show (4294967296:Nat)=65536^2 by rfl,<-JV];exact bj (vm ab ab) h1
  have:=Ed h2;omega
set_option maxRecDepth 100000 in
theorem xg (va:Value) (n:Nat) (ls:List Nat) (w:World) (hr:Rd w 1 va n (ints .i64 ls)) (hl:kN ls) (hn:n<=2147483656):
  Calls Tryz.prog 123 #[va] w λe w'=>∃ v',e=.returned v'/\w'.ownsRow w.heap.size 117 1 v' (limbs (hval ls)).length (ints .u32 (limbs (hval ls)))/\Below w.heap.size w w':=by
 obtain⟨p,c,rfl,il,iC,ib⟩:=hr.i64;obtain⟨i0,hi,pX,lD,uw⟩:=info_parts og;obtain⟨B,hB⟩:∃ B,B=w.heap.size:=⟨_,aa⟩;obtain⟨h,hh⟩:∃ h,h=hval ls:=⟨_,aa⟩;rw[<-hh];have HB:=af hB;have Hr:=af hr;have HL:=af hl;have HX:=af ib;have HH:=af hh;rw[<-hB];clear hr hl ib hB hh;refine bG λR' di=> ?_;go_enter Tryz.func123,Tryz.ntmps123
 go_wp2_with fail
 refine (KO p n c ls _ Hr.out HL.out).mono ?_;rintro e w1 ⟨⟨m,hm,rfl,Jf⟩,rfl⟩;have yO:(halves h).length=m:=by rw[HH.out,Jf,cM,HX.out];omega
 have Dg:=Rd.PS Hr.out hm;rw[<-Jf,<-HH.out] at Dg;have Zf:=af yO;have HRD:=af Dg;clear yO Dg Jf;go_wp2_with fail
 go_loopw [3,4] (λov iv wr=>LimbInv w B m (halves h) ov iv wr) (λ_ iv _=>m+2-(intOf iv).toNat)
 case atStart=>exact⟨0,[],ab,aa,aa,ez.nil,aa,qF _ _ _ _,iP _ _⟩
 case round=>
  obtain⟨k,ds,hk,rfl,mD,hdd,hdv,aZ,hb⟩:=hrel;have HO:=af aZ;have Sa:=af mD;have HDD:=af hdd;have HDV:=af hdv;have lM:=af hb;have Ft:B<=wr.heap.size:=by have:=hb.size;have:=HB.out;omega
  clear aZ mD hdd hdv hb;by_cases RQ:2*k<m
  ·obtain⟨b1,o1,lo,rfl,bA,kF,yi⟩:=(HRD.out.nT HB.out lM.out).cellAt RQ;have Lu:=(dv h).at kF;have HLO:Hid ((halves h).getD (2*k) 0=lo):=by show _=_;rw[List.getD,kF];rfl
   clear kF;by_cases hkm1:2*k+1<m
   ·obtain⟨b2,o2,BO,hp2,cC,vE,OA⟩:=(HRD.out.nT HB.out lM.out).cellAt hkm1;have hhi:=(dv h).at vE;have HHI:Hid ((halves h).getD (2*k+1) 0=BO):=by show _=_;rw[List.getD,vE];rfl
    simp only[Option.some.injEq,Addr.mk.injEq,and_true] at hp2;obtain⟨rfl,rfl⟩:=hp2;clear vE;have hy:(lo:Int)+65536*(BO:Int)=((lo+65536*BO:Nat):Int):=ab;have HY:=af hy;clear hy;go_wp2_with (at_builtin;go_loud (refine gh aa _ _ 22 aa B 117 i0 (.int .u32 0) 4 rL hi pX lD uw aa HO.out aa aa HY.out ab ab Ft ?_);intro v1 w1 jM mY)
    have zS:=af jM;have Nz:=af (mY w lM.out);clear jM mY;go_wp2_with fail
    go_roundw
    case rel=>
     have hst:=KQ Sa.out HDD.out HDV.out HLO.out HHI.out Lu hhi;exact⟨k+1,ds++[lo+65536*BO],ab,by go_num,by simp[Sa.out],hst.1,hst.2,zS.out,Nz.out⟩
    case measure=>simp[intOf];omega
   ·have HHI:Hid ((halves h).getD (2*k+1) 0=0):=by show _=_;rw[List.getD,vi (by rw[Zf.out];omega)];rfl
    go_wp2_with (at_builtin;go_loud (refine gh aa _ _ 22 aa B 117 i0 (.int .u32 0) 4 rL hi pX lD uw aa HO.out aa aa aa ab ab Ft ?_);intro v1 w1 jM mY)
    have zS:=af jM;have Nz:=af (mY w lM.out);clear jM mY;go_wp2_with fail
    go_roundw
    case rel=>
     have hst:=KQ Sa.out HDD.out HDV.out HLO.out HHI.out Lu ab;rw[rS,pO] at hst;exact⟨k+1,ds++[lo],ab,by go_num,by simp[Sa.out],hst.1,hst.2,zS.out,Nz.out⟩
    case measure=>simp[intOf];omega
  ·go_wp2_with fail
   have hval:ay ds=h:=by
    rw[HDV.out];show val 65536 _=_;rw[jg (by rw[Zf.out];omega)];exact cf h
   have hcan:=PT Sa.out HDD.out hval Zf.out hk;refine di.out _ _ ⟨_,aa,?_,lM.out⟩;rw[hcan,Sa.out];exact HO.out
set_option maxRecDepth 100000 in
theorem SD (va:Value) (n:Nat) (xs:List Nat) (w:World) (hr:Rd w 1 va n (ints .u32 xs)) (hl:ez xs) (hn:n<=1073741824):
  Calls Tryz.prog 118 #[va] w λe w'=>∃ v',e=.returned v'/\w'.ownsRow w.heap.size 117 1 v' (limbs (ay xs)).length (ints .u32 (limbs (ay xs)))/\Below w.heap.size w w':=by
 obtain⟨p,c,rfl,il,iC,ib⟩:=hr.u32;have Hr:=af hr;have HL:=af hl;have HX:=af ib;clear hr hl ib;refine bG λR' di=> ?_;go_enter Tryz.func118,Tryz.ntmps118
 go_wp2_with fail
 refine (jl _ n xs _ Hr.out HL.out hn).mono ?_;rintro e w1 ⟨v1,rfl,aZ,hb⟩;have hlen:=fq HL.out;rw[HX.out] at hlen;have HO:=af aZ;have HB:=af hb;clear aZ hb;go_wp2_with fail
 refine (xg _ _ (halves (ay xs)) _ (Rd.own HO.out) (dv _) ab).mono ?_;rintro e w2 ⟨v2,rfl,aZ,hb⟩;rw[cf] at aZ;go_wp2_with fail
 exact di.out _ _ ⟨_,aa,Own.mono aZ HB.out.size,HB.out.trans (hb.mono HB.out.size)⟩
def AddInv01 (w:World) (B M:Nat) (us ts:List Nat) (ov cv iv:Value) (wr:World):Prop:=
 ∃ (k carry:Nat) (os:List Nat),k<=M+1/\(k=M+1->carry=0)/\iv=.int .i64 (k:Int)/\cv=.int .i64 (carry:Int)/\carry<=1/\os.length=k/\kN os/\
   hval os+65536^k*carry=hval (us.take k)+hval (ts.take k)/\wr.ownsRow B 3 1 ov k (ints .i64 os)/\Below B w wr
variable {us ts:List Nat} {y:Nat}
theorem SE {k carry:Nat} {os:List Nat} (hl:os.length=k) (hh:kN os) (hv:hval os+65536^k*carry=hval (us.take k)+hval (ts.take k)) (hx:us.getD k 0=x) (hy:ts.getD k 0=y):
  kN (os++[(x+y+carry)%65536])/\hval (os++[(x+y+carry)%65536])+65536^(k+1)*((x+y+carry)/65536)=hval (us.take (k+1))+hval (ts.take (k+1)):=by
 refine⟨gN.append hh (gN.cons (gC _ ab) (gN.nil _)),?_⟩;rw[qw,hl,iL];show _=val 65536 _+val 65536 _;rw[dK,dK,hx,hy];exact Wh 65536 _ _ x y carry _ _ _ hv aa
theorem mn {k:Nat} (h:us.length<=k):us.getD k 0=0:=by rw[List.getD,vi h];rfl
theorem qx (h:kN us) (k:Nat):us.getD k 0<65536:=by
 rw[List.getD];cases hk:us[k]? with
 | none=>simp
 | some x=>exact h.at hk
set_option maxRecDepth 100000 in
theorem Xc (va vb:Value) (n m:Nat) (xs ys:List Nat) (w:World) (hr:Rd w 1 va n (ints .u32 xs)) (hs:Rd w 1 vb m (ints .u32 ys)) (hx:ez xs) (hy:ez ys) (hn:n<=1073741824) (hm:m<=1073741824):
  Calls Tryz.prog 97 #[va,vb] w λe w'=>∃ v',e=.returned v'/\w'.ownsRow w.heap.size 117 1 v' (limbs (ay xs+ay ys)).length (ints .u32 (limbs (ay xs+ay ys)))/\Below w.heap.size w w':=by
 obtain⟨p,c,rfl,il,iC,ib⟩:=hr.u32;obtain⟨q,d,rfl,Wp,Rl,rZ⟩:=hs.u32;obtain⟨i0,hi,pX,lD,uw⟩:=info_parts FJ;obtain⟨B,hB⟩:∃ B,B=w.heap.size:=⟨_,aa⟩;have HB:=af hB;have Hr:=af hr;have Hs:=af hs;have HL:=af hx;have HM:=af hy;have qK:=fq hx;have vN:=fq hy;rw[ib] at qK;rw[rZ] at vN;obtain⟨a,ha⟩:∃ a,a=ay xs:=⟨_,aa⟩;obtain⟨b,hb⟩:∃ b,b=ay ys:=⟨_,aa⟩;rw[<-ha] at qK ⊢;rw[<-hb] at vN ⊢;rw[<-hB];have HA:=af ha;have HBb:=af hb;clear hr hs hx hy ib rZ ha hb hB;refine bG λR' di=> ?_;go_enter Tryz.func97,Tryz.ntmps97
 go_wp2_with fail
 refine (jl _ n xs _ Hr.out HL.out hn).mono ?_;rintro e w1 ⟨v1,rfl,aZ,bA⟩;rw[<-HA.out,<-HB.out] at aZ;rw[<-HB.out] at bA;have zS:=af aZ;have Nz:=af bA;clear aZ bA;go_wp2_with fail
 refine (jl _ m ys _ (Hs.out.nT HB.out Nz.out) HM.out hm).mono ?_;rintro e w2 ⟨v2,rfl,aZ,cC⟩;rw[<-HBb.out] at aZ;have hB1s:B<=w1.heap.size:=by have:=Nz.out.size;have:=HB.out;omega
 have HO1b:=af (Own.below zS.out cC);have vF:=af (Own.mono aZ hB1s);have Dk:=af (Nz.out.trans (cC.mono hB1s));have hB2s:B<=w2.heap.size:=by have:=cC.size;omega
 clear aZ cC zS Nz;obtain⟨p1,c1,rfl,h11,Jn,_⟩:=(Rd.own HO1b.out).i64;obtain⟨p2,c2,rfl,h21,h22,_⟩:=(Rd.own vF.out).i64;generalize Yq:(halves a).length=la at*;generalize Rn:(halves b).length=lb at*;have Yo:=af Yq;have Yr:=af Rn;clear Yq Rn;obtain⟨M,hMa,hMb,hMu,hM⟩:∃ M,la<=M/\lb<=M/\M<=2147483648/\(la<lb/\M=lb\/lb<=la/\M=la):=⟨max la lb,ab,ab,ab,ab⟩;obtain⟨B2,hB2e⟩:∃ B2,B2=w2.heap.size:=⟨_,aa⟩;have SF:=af hB2e;have hB2s':B<=B2:=ab;clear hB2e;rcases hM with ⟨Dd,rfl⟩|⟨Dd,rfl⟩
 all_goals
  go_wp2_with fail
  go_loopw [7,8,9] (λov cv iv wr=>AddInv01 w2 B2 M (halves a) (halves b) ov cv iv wr) (λ_ cv iv _=>2*(M-(intOf iv).toNat)+(intOf cv).toNat)
  case atStart=>exact⟨0,0,[],ab,λ_=>aa,aa,aa,ab,aa,gN.nil _,aa,qF _ _ _ _,iP _ _⟩
  case round=>
   obtain⟨k,carry,os,hk,Hd,rfl,rfl,hc,hol,hoh,hov,aZ,qm⟩:=hrel;have HO:=af aZ;have HOL:=af hol;have HOH:=af hoh;have HOV:=af hov;have HK1:=af Hd;have lM:=af qm;have Ft:B2<=wr.heap.size:=by have:=qm.size;have:=SF.out;omega
   have HRA:=af ((Rd.own HO1b.out).nT SF.out qm);have HRB:=af ((Rd.own vF.out).nT SF.out qm);have hgx:=qx (dv a) k;have hgy:=qx (dv b) k;have hxy0:M<=k->(halves a).getD k 0=0/\(halves b).getD k 0=0:=λh=>⟨mn (by rw[Yo.out];omega),mn (by rw[Yr.out];omega)⟩;clear aZ hol hoh hov Hd qm;generalize hx:(halves a).getD k 0=x at*;generalize hy:(halves b).getD k 0=y at*;have HX:=af hx;have HY:=af hy;have HXY0:=af hxy0;clear hx hy hxy0;have KR:k=M+1->carry=0:=HK1.out;by_cases hkM:k<M\/0<carry
   ·clear KR
    have hguard:decide (k<M)=true\/decide (k<M)=false/\0<carry:=by
     by_cases h:k<M
     ·left;simpa using h
     ·right;exact⟨by simpa using h,ab⟩
    have HSUM:Hid (((x:Int)+(y:Int)+(carry:Int)).tmod 65536=(((x+y+carry)%65536:Nat):Int)):=by show _=_;rw[Oh ab];omega
    rcases hguard with hg|⟨hg,hg2⟩
    all_goals
     go_wp2_with fail
     refine (mX _ _ k (halves a) _ HRA.out).mono ?_;rintro e w3 ⟨rfl,rfl⟩;rw[HX.out];go_wp2_with fail
     refine (mX _ _ k (halves b) _ HRB.out).mono ?_;rintro e w3 ⟨rfl,rfl⟩;rw[HY.out];go_wp2_with (at_builtin;refine gh aa _ _ 156 aa B2 3 i0 (.int .i64 0) 8 JN hi pX lD uw aa HO.out aa aa (d:=(x+y+carry)%65536) ab ab ab Ft ?_;intro v1 w3 jM mY)
     have WE:=af jM;have Zo:=af (mY w2 lM.out);clear jM mY;go_wp2_with fail
     go_roundw
     case rel=>
      have hst:=SE HOL.out HOH.out HOV.out HX.out HY.out;exact⟨k+1,(x+y+carry)/65536,os++[(x+y+carry)%65536],by have:=HK1.out;have:=HXY0.out;omega,by have:=HK1.out;have:=HXY0.out;omega,by go_num,by go_num,ab,by simp[HOL.out],hst.1,hst.2,WE.out,Zo.out⟩
     case measure=>simp[intOf];have:=HXY0.out;omega
   ·have Vb:carry=0:=by omega
    have hkM':M<=k:=ab;have HC0:=af Vb;have hg1:decide (k<M)=false:=by simp;omega
    have hg2:¬ (0<(carry:Int)):=ab;have hks:k<=M+1:=ab;clear KR;clear Vb;go_wp2_with fail
    refine (xg _ _ os _ (Rd.own HO.out) HOH.out ab).mono ?_;rintro e w3 ⟨v3,rfl,aZ,dZ⟩
    have hval:hval os=a+b:=by
     have:=HOV.out;rw[HC0.out,rS,pO] at this;rw[this];show val 65536 _+val 65536 _=_;rw[jg (by rw[Yo.out];omega),jg (by rw[Yr.out];omega)];show hval _+hval _=_;rw[cf,cf]
    rw[hval] at aZ;go_wp2_with fail
    exact di.out _ _ ⟨_,aa,Own.mono aZ ab,(Dk.out.trans (lM.out.mono hB2s')).trans (dZ.mono ab)⟩
def CmpInv (w:World) (us ts:List Nat) (M:Nat) (iv:Value) (wr:World):Prop:=
 ∃ k:Nat,k<=M/\iv=.int .i64 ((k:Int)-1)/\hval us+hval (ts.take k)=hval ts+hval (us.take k)/\w=wr
theorem oi (us:List Nat):hval (us.take 0)=0:=by simp[hval,val]
theorem PU {k:Nat} (hx:us.getD k 0=x) (hy:ts.getD k 0=x) (h:hval us+hval (ts.take (k+1))=hval ts+hval (us.take (k+1))):hval us+hval (ts.take k)=hval ts+hval (us.take k):=by
 have h1:hval (ts.take (k+1))=hval (ts.take k)+65536^k*x:=by rw[<-hy];exact dK 65536 ts k
 have h2:hval (us.take (k+1))=hval (us.take k)+65536^k*x:=by rw[<-hx];exact dK 65536 us k
 omega
theorem Dz {k:Nat} (hu:kN us) (hx:us.getD k 0=x) (hy:ts.getD k 0=y) (Uu:x<y) (h:hval us+hval (ts.take (k+1))=hval ts+hval (us.take (k+1))):hval us<hval ts:=by
 have h1:hval (ts.take (k+1))=hval (ts.take k)+65536^k*y:=by rw[<-hy];exact dK 65536 ts k
 have h2:hval (us.take (k+1))=hval (us.take k)+65536^k*x:=by rw[<-hx];exact dK 65536 us k
 have h3:hval (us.take k)<65536^k:=by
  have h4:=Ba (gN.take hu k);have h5:=vm (show 0<65536 by omega) (show (us.take k).length<=k by rw[cM];omega);omega
 have h4:65536^k*x+65536^k<=65536^k*y:=by
  have:=kS (65536^k) (show x+1<=y from Uu)
  rwa [du,yD] at this
 omega
set_option maxRecDepth 100000 in
theorem Cs (va vb:Value) (n m:Nat) (xs ys:List Nat) (w:World) (hr:Rd w 1 va n (ints .u32 xs)) (hs:Rd w 1 vb m (ints .u32 ys)) (hx:ez xs) (hy:ez ys) (hn:n<=1073741824) (hm:m<=1073741824):
  Calls Tryz.prog 124 #[va,vb] w λe w'=>e=.returned (.int .i64 (kD (ay xs) (ay ys)))/\Below w.heap.size w w':=by
 obtain⟨p,c,rfl,il,iC,ib⟩:=hr.u32;obtain⟨q,d,rfl,Wp,Rl,rZ⟩:=hs.u32;have Hr:=af hr;have Hs:=af hs;have HL:=af hx;have HM:=af hy;have qK:=fq hx;have vN:=fq hy;rw[ib] at qK;rw[rZ] at vN;obtain⟨a,ha⟩:∃ a,a=ay xs:=⟨_,aa⟩;obtain⟨b,hb⟩:∃ b,b=ay ys:=⟨_,aa⟩;rw[<-ha] at qK ⊢;rw[<-hb] at vN ⊢;have HA:=af ha;have HBb:=af hb;clear hr hs hx hy ib rZ ha hb;refine bG λR' di=> ?_;go_enter Tryz.func124,Tryz.ntmps124
 go_wp2_with fail
 refine (jl _ n xs _ Hr.out HL.out hn).mono ?_;rintro e w1 ⟨v1,rfl,aZ,bA⟩;rw[<-HA.out] at aZ;have zS:=af (Rd.own aZ);have Nz:=af bA;clear aZ bA;go_wp2_with fail
 refine (jl _ m ys _ (Hs.out.below Nz.out) HM.out hm).mono ?_;rintro e w2 ⟨v2,rfl,aZ,cC⟩;rw[<-HBb.out] at aZ;have HRA:=af (zS.out.below cC);have HRB:=af (Rd.own aZ);have Dk:=af (Nz.out.trans (cC.mono Nz.out.size));clear aZ cC zS Nz;obtain⟨p1,c1,rfl,h11,Jn,_⟩:=HRA.out.i64;obtain⟨p2,c2,rfl,h21,h22,_⟩:=HRB.out.i64;generalize Yq:(halves a).length=la at*;generalize Rn:(halves b).length=lb at*;have Yo:=af Yq;have Yr:=af Rn;clear Yq Rn;obtain⟨M,hMa,hMb,hMu,hM⟩:∃ M,la<=M/\lb<=M/\M<=2147483648/\(la<lb/\M=lb\/lb<=la/\M=la):=⟨max la lb,ab,ab,ab,ab⟩;rcases hM with ⟨Dd,rfl⟩|⟨Dd,rfl⟩
 all_goals
  go_wp2_with fail
  go_loopw [7] (λiv wr=>CmpInv w2 (halves a) (halves b) M iv wr) (λiv _=>(intOf iv+1).toNat)
  case atStart=>exact⟨M,bL _,aa,by
   show val 65536 _+val 65536 _=val 65536 _+val 65536 _;rw[jg (by first|(rw[Yo.out];omega)|(rw[Yr.out];omega)),jg (by first|(rw[Yo.out];omega)|(rw[Yr.out];omega))];omega,rfl⟩
  case round=>
   obtain⟨k,hk,rfl,hv,rfl⟩:=hrel;have HV:=af hv;clear hv;by_cases h0:k=0
   ·subst h0;go_wp2_with fail
    have e:a=b:=by
     have:=HV.out;rw[oi,oi,cf,cf] at this;omega
    exact di.out _ _ ⟨tr (by rw[e,Am]),Dk.out⟩
   ·obtain⟨j,rfl⟩:∃ j,k=j+1:=⟨k-1,ab⟩;have hjj:((j+1:Nat):Int)-1=(j:Int):=ab;rw[hjj];clear h0 hjj;generalize hx:(halves a).getD j 0=x;generalize hy:(halves b).getD j 0=y;have HX:=af hx;have HY:=af hy;clear hx hy;go_wp2_with fail
    refine (mX _ _ j (halves a) _ HRA.out).mono ?_;rintro e w3 ⟨rfl,rfl⟩;rw[HX.out];go_wp2_with fail
    refine (mX _ _ j (halves b) _ HRB.out).mono ?_;rintro e w3 ⟨rfl,rfl⟩;rw[HY.out];rcases On x y with hlt|heq|WT
    ·go_wp2_with fail
     have:=Dz (dv a) HX.out HY.out hlt HV.out;rw[cf,cf] at this;exact di.out _ _ ⟨tr (by rw[rX this]),Dk.out⟩
    ·subst heq;go_wp2_with fail
     refine (mX _ _ j (halves a) _ HRA.out).mono ?_;rintro e w3 ⟨rfl,rfl⟩;rw[HX.out];go_wp2_with fail
     refine (mX _ _ j (halves b) _ HRB.out).mono ?_;rintro e w3 ⟨rfl,rfl⟩;rw[HY.out];go_wp2_with fail
     go_roundw
     case rel=>exact⟨j,ab,aa,PU HX.out HY.out HV.out,aa⟩
     case measure=>simp[intOf]
    ·go_wp2_with fail
     refine (mX _ _ j (halves a) _ HRA.out).mono ?_;rintro e w3 ⟨rfl,rfl⟩;rw[HX.out];go_wp2_with fail
     refine (mX _ _ j (halves b) _ HRB.out).mono ?_;rintro e w3 ⟨rfl,rfl⟩;rw[HY.out];go_wp2_with fail
     have:=Dz (dv b) HY.out HX.out WT HV.out.symm;rw[cf,cf] at this;exact di.out _ _ ⟨tr (by rw[rY this]),Dk.out⟩
theorem DA {qs:List Nat} {k:Nat}:(List.replicate (k+1) 0++qs).set k x=List.replicate k 0++x::qs:=by
 rw[List.replicate_succ',fu,zZ _ _ bN];simp
def SubInv01 (w:World) (B M:Nat) (us ts:List Nat) (ov bv iv:Value) (wr:World):Prop:=
 ∃ (k r:Nat) (ds:List Nat),k<=M/\ds.length=k/\iv=.int .i64 (k:Int)/\bv=.int .i64 (r:Int)/\r<=1/\kN ds/\
   hval ds+hval (ts.take k)=hval (us.take k)+65536^k*r/\wr.ownsRow B 3 1 ov k (ints .i64 ds)/\Below B w wr
variable {d:Nat}
theorem Hm {k r r':Nat} (hl:ds.length=k) (hh:kN ds) (hv:hval ds+hval (ts.take k)=hval (us.take k)+65536^k*r) (hx:us.getD k 0=x) (hy:ts.getD k 0=y)
  (hd:d<65536) (he:x+65536*r'=d+y+r):
  kN (ds++[d])/\hval (ds++[d])+hval (ts.take (k+1))=hval (us.take (k+1))+65536^(k+1)*r':=by
 refine⟨gN.append hh (gN.cons hd (gN.nil _)),?_⟩;have h1:hval (ts.take (k+1))=hval (ts.take k)+65536^k*y:=by rw[<-hy];exact dK 65536 ts k
 have h2:hval (us.take (k+1))=hval (us.take k)+65536^k*x:=by rw[<-hx];exact dK 65536 us k
 rw[qw,hl,h1,h2,iL];exact Wi 65536 _ x y r d r' _ _ _ hv he
set_option maxRecDepth 100000 in
theorem KS (va vb:Value) (n m:Nat) (xs ys:List Nat) (w:World) (hr:Rd w 1 va n (ints .u32 xs)) (hs:Rd w 1 vb m (ints .u32 ys)) (hx:ez xs) (hy:ez ys) (hn:n<=1073741824) (hm:m<=1073741824):
  Calls Tryz.prog 98 #[va,vb] w λe w'=>((ay xs<ay ys/\e=.returned (.tuple #[.slice none 0 0,.int .i64 2]))\/
   (ay ys<=ay xs/\∃ v',e=.returned (.tuple #[v',.int .i64 0])/\w'.ownsRow w.heap.size 117 1 v' (limbs (ay xs-ay ys)).length (ints .u32 (limbs (ay xs-ay ys)))))/\Below w.heap.size w w':=by
 obtain⟨p,c,rfl,il,iC,ib⟩:=hr.u32;obtain⟨q,d,rfl,Wp,Rl,rZ⟩:=hs.u32;obtain⟨i0,hi,pX,lD,uw⟩:=info_parts FJ;have Hr:=af hr;have Hs:=af hs;have HL:=af hx;have HM:=af hy;have qK:=fq hx;have vN:=fq hy;rw[ib] at qK;rw[rZ] at vN;obtain⟨a,ha⟩:∃ a,a=ay xs:=⟨_,aa⟩;obtain⟨b,hb⟩:∃ b,b=ay ys:=⟨_,aa⟩;rw[<-ha] at qK ⊢;rw[<-hb] at vN ⊢;have HA:=af ha;have HBb:=af hb;clear hr hs hx hy ib rZ ha hb;refine bG λR' di=> ?_;go_enter Tryz.func98,Tryz.ntmps98
 go_wp2_with fail
 refine (Cs _ _ n m xs ys _ Hr.out Hs.out HL.out HM.out hn hm).mono ?_;rintro e w0 ⟨rfl,yj⟩;rw[<-HA.out,<-HBb.out];have HB0:=af yj;have hB0s:=yj.size;clear yj;by_cases Dd:a<b
 ·have hc:kD a b<0:=oD.2 Dd;generalize kD a b=cv at hc ⊢;go_wp2_with fail
  exact di.out _ _ ⟨.inl ⟨Dd,aa⟩,HB0.out⟩
 ·have hc:0<=kD a b:=by have:=mt (@oD a b).1 Dd;omega
  generalize kD a b=cv at hc ⊢;have hlen:(halves b).length<=(halves a).length:=fM ab ab;have HAB:=af Dd;clear Dd;go_wp2_with fail
  refine (jl _ n xs _ (Hr.out.below HB0.out) HL.out hn).mono ?_;rintro e w1 ⟨v1,rfl,aZ,bA⟩;rw[<-HA.out] at aZ;have zS:=af (Rd.own aZ);have Nz:=af (HB0.out.trans (bA.mono hB0s));have hB1s:=bA.size;clear aZ bA;go_wp2_with fail
  refine (jl _ m ys _ (Hs.out.below Nz.out) HM.out hm).mono ?_;rintro e w2 ⟨v2,rfl,aZ,cC⟩;rw[<-HBb.out] at aZ;have HRA0:=af (zS.out.below cC);have HRB0:=af (Rd.own aZ);have Dk:=af (Nz.out.trans (cC.mono Nz.out.size));have hB2s:=cC.size;clear aZ cC zS Nz;obtain⟨p1,c1,rfl,h11,Jn,_⟩:=HRA0.out.i64;obtain⟨p2,c2,rfl,h21,h22,_⟩:=HRB0.out.i64;generalize Yq:(halves a).length=la at*;generalize Rn:(halves b).length=lb at*;have Yo:=af Yq;have Yr:=af Rn;clear Yq Rn;obtain⟨B2,hB2e⟩:∃ B2,B2=w2.heap.size:=⟨_,aa⟩;have SF:=af hB2e;have hB2s':w.heap.size<=B2:=ab;clear hB2e;go_wp2_with fail
  go_loopw [8,9,10] (λov bv iv wr=>SubInv01 w2 B2 la (halves a) (halves b) ov bv iv wr) (λ_ _ iv _=>la-(intOf iv).toNat)
  case atStart=>exact⟨0,0,[],fH _,aa,aa,aa,ab,gN.nil _,by rw[oi,oi];simp[hval,val],qF _ _ _ _,iP _ _⟩
  case round=>
   obtain⟨k,r,ds,hk,mD,rfl,rfl,nA,hdh,hdv,aZ,qm⟩:=hrel;have HO:=af aZ;have Sa:=af mD;have HDH:=af hdh;have HDV:=af hdv;have lM:=af qm;have Ft:B2<=wr.heap.size:=by have:=qm.size;have:=SF.out;omega
   have HRB:=af (HRB0.out.nT SF.out qm);clear aZ mD hdh hdv;by_cases OT:k<la
   ·obtain⟨b1,o1,x,rfl,_,kF,yi⟩:=(HRA0.out.nT SF.out qm).cellAt OT;have rk:=(dv a).at kF;have HX:Hid ((halves a).getD k 0=x):=by show _=_;rw[List.getD,kF];rfl
    have Kd:=qx (dv b) k;clear kF qm;generalize hy:(halves b).getD k 0=y at*;have HY:=af hy;clear hy;have Di:(0:Int)<=(k:Int):=ab;have Hd:(k:Int)<(la:Int):=ab;have xH:IntKind.i64.wrap ((x:Int)-(y:Int))=(x:Int)-(y:Int):=cV _ ab;have Ym:IntKind.i64.wrap ((x:Int)-(y:Int)-(r:Int))=(x:Int)-(y:Int)-(r:Int):=cV _ ab
    have Nv:∀ j:Nat,Calls Tryz.prog 122 #[.slice p2 lb c2,.int .i64 (k:Int)] (wr.drewN j) λe w'=>e=.returned (.int .i64 (y:Int))/\wr.drewN j=w':=λj=>by
     have:=mX _ _ k (halves b) _ (Rd.drewN HRB.out j)
     rwa [HY.out] at this
    have HAT:=af Nv;clear Nv;go_wp2_with fail
    go_quiet ((go_at_call 122;exact Gr (HAT.out _) ⟨_,aa⟩))
    clear xH Ym Di Hd yi;by_cases hneg:(x:Int)-(y:Int)-(r:Int)<0
    ·go_wp2_with (at_builtin;refine gh (w:=wr.drewN nq) aa _ _ 156 aa B2 3 i0 (.int .i64 0) 8 JN hi pX lD uw aa (Own.drewN HO.out nq) aa aa (d:=x+65536-y-r) ab ab ab Ft ?_;intro v1 w3 jM mY)
     have WE:=af jM;have Zo:=af (mY w2 (Below.drewN lM.out nq));clear jM mY;go_wp2_with fail
     go_roundw
     case rel=>
      have hst:=Hm (d:=x+65536-y-r) (r':=1) Sa.out HDH.out HDV.out HX.out HY.out ab ab;exact⟨k+1,1,ds++[x+65536-y-r],ab,by simp[Sa.out],by go_num,rfl,ab,hst.1,hst.2,WE.out,Zo.out⟩
     case measure=>simp[intOf];omega
    ·go_wp2_with (at_builtin;refine gh (w:=wr.drewN nq) aa _ _ 156 aa B2 3 i0 (.int .i64 0) 8 JN hi pX lD uw aa (Own.drewN HO.out nq) aa aa (d:=x-y-r) ab ab ab Ft ?_;intro v1 w3 jM mY)
     have WE:=af jM;have Zo:=af (mY w2 (Below.drewN lM.out nq));clear jM mY;go_wp2_with fail
     go_roundw
     case rel=>
      have hst:=Hm (d:=x-y-r) (r':=0) Sa.out HDH.out HDV.out HX.out HY.out ab ab;exact⟨k+1,0,ds++[x-y-r],ab,by simp[Sa.out],by go_num,rfl,ab,hst.1,hst.2,WE.out,Zo.out⟩
     case measure=>simp[intOf];omega
   ·obtain rfl:k=la:=by omega
    clear qm;go_wp2_with fail
    refine (xg _ k ds _ (Rd.own HO.out) HDH.out ab).mono ?_;rintro e w4 ⟨v4,rfl,aZ,ic⟩
    have hval:hval ds=a-b:=by
     have h1:=HDV.out
     have e1:hval ((halves a).take k)=a:=by
      show val 65536 _=_;rw[jg (iM Yo.out)];exact cf a
     have e2:hval ((halves b).take k)=b:=by
      show val 65536 _=_;rw[jg (by rw[Yr.out];exact hlen)];exact cf b
     rw[e1,e2] at h1;have h3:=Ba HDH.out;rw[Sa.out] at h3;have hba:=HAB.out
     have:r=0:=by
      rcases rK r with h|h
      ·exact h
      ·have:r=1:=by omega
       subst this;omega
     subst this;omega
    rw[hval] at aZ;have HOWN:=af aZ;clear aZ;go_wp2_with fail
    refine di.out _ _ ⟨.inr ⟨by have:=HAB.out;omega,v4,rfl,?_⟩,(Dk.out.trans (lM.out.mono hB2s')).trans (ic.mono ab)⟩;exact Own.mono HOWN.out ab
theorem zu (neg:Bool) (xs:List Nat) (v:Value) (w:World) (h:jv w v neg xs):
  Calls Tryz.prog 115 #[v] w λe w'=>e=.returned (.bool (fy neg xs))/\aU w w':=by
 obtain⟨p,c,rfl,hr,hl⟩:=h;obtain⟨p',c',hv,il,iC,-⟩:=hr.u32;simp only[Value.slice.injEq,true_and] at hv;obtain⟨rfl,rfl⟩:=hv;refine bG λR' di=> ?_;by_cases hx:xs=[]
 ·subst hx;simp only[List.length_nil,zc] at*;go_enter Tryz.func115,Tryz.ntmps115
  cases neg
  ·go_wp2
   exact di.out _ _ ⟨aa,(aU.refl w).alloc _⟩
  ·go_wp2
   exact di.out _ _ ⟨aa,(aU.refl w).alloc _⟩
 ·obtain⟨m,hm⟩:∃ m,xs.length=m+1:=⟨xs.length-1,by have:=List.length_pos_iff.2 hx;omega⟩;generalize hn:xs.length=n at*;obtain⟨b,off,x,rfl,hb,hxm,hc⟩:=hr.cellAt (k:=m) ab;have h1:fy neg xs=decide (x≠0):=Dl (by rw[hn,hm];exact hxm);rw[h1] at di;have hz:((n:Int) == 0)=false:=by rw[iZ];omega
  have hp:(0:Int)<(n:Int):=ab;have hw:IntKind.i64.wrap ((n:Int)-1)=(m:Int):=by rw[cV _ ab];omega
  have hlt:(m:Int)<(n:Int):=ab;have HN:=af hn;have hpn:0<n:=ab;clear hx hm hn h1 hxm hr hl;go_enter Tryz.func115,Tryz.ntmps115
  by_cases my:x=0
  ·subst my;cases neg
   ·go_wp2
    exact di.out _ _ ⟨aa,(aU.refl w).alloc _⟩
   ·go_wp2
    exact di.out _ _ ⟨aa,(aU.refl w).alloc _⟩
  ·have UR:((x:Int) != 0)=true:=by rw[bne_iff_ne];omega
   rw[aE my] at di;clear my;cases neg
   ·go_wp2
    exact di.out _ _ ⟨aa,(aU.refl w).alloc _⟩
   ·go_wp2
    exact di.out _ _ ⟨aa,(aU.refl w).alloc _⟩
theorem zv (v:Value) (X:Int) (k:Nat) (w0 w:World) (h:dL w0 v X k) (yj:aU w0 w):
  Calls Tryz.prog 96 #[v] w λe w'=>∃ u,e=.returned u/\dX w0 u X/\aU w w':=by
 obtain⟨neg,xs,hn,rfl,hk⟩:=h;refine bG λR' di=> ?_;have HN:=af hn;obtain⟨p,c,rfl,hr,hl⟩:=hn;clear hr;go_enter wv,Tryz.ntmps96
 go_wp2_with fail
 refine (zu neg xs _ _ ((HN.out.bI yj).bI (((aU.refl w).alloc _).alloc _))).mono ?_;rintro e w1 ⟨rfl,bA⟩;obtain⟨b1,b2,sZ⟩:=sO w 53 53 #[.bool neg,.slice p xs.length c] #[.bool false,.slice none 0 0];obtain⟨c1,c2,_,_⟩:=(b1.bI bA).two;obtain⟨c3,c4,f3,f4⟩:=(b2.bI bA).two;have nB:aU w w1:=sZ.aR bA;cases ym:fy neg xs
 ·have B2:=(b2.bI bA).dw (.bool false) (.slice none 0 0);have Dk:=nB.dw (b:=w.heap.size+1) ab (.bool false) (.slice none 0 0);go_wp2
  generalize (w1.setCell ⟨w.heap.size+1,0,none⟩ (.bool false)).setCell ⟨w.heap.size+1,1,none⟩ (.slice none 0 0)=w2 at*;obtain⟨d1,d2,_,_⟩:=B2.two;refine bodyPost_ret (v:=.agg #[.bool false,.slice none 0 0]) (by simp[results,Tryz.results96,go_sem,d1,d2]) aa (di.out _ _ ⟨_,aa,?_,Dk⟩);rw[numOf,if_neg (by simp[ym])];exact dX.zero _
 ·have B2:=(b2.bI bA).dw (.bool neg) (.slice p xs.length c);have Dk:=nB.dw (b:=w.heap.size+1) ab (.bool neg) (.slice p xs.length c);go_wp2
  generalize (w1.setCell ⟨w.heap.size+1,0,none⟩ (.bool neg)).setCell ⟨w.heap.size+1,1,none⟩ (.slice p xs.length c)=w2 at*;obtain⟨d1,d2,_,_⟩:=B2.two;refine bodyPost_ret (v:=.agg #[.bool neg,.slice p xs.length c]) (by simp[results,Tryz.results96,go_sem,d1,d2]) aa (di.out _ _ ⟨_,aa,?_,Dk⟩);rw[numOf,if_pos ym];obtain⟨h1,h2⟩:=canon hl ym;have:=HN.out;show jv _ _ _ _;rw[<-h1,<-h2];exact this
theorem mZ (neg:Bool) (v:Value) (n:Nat) (xs:List Nat) (w:World) (hr:Rd w 1 v n (ints .u32 xs)) (hl:ez xs) (hn:n<=1073741824):
  Calls Tryz.prog 92 #[.bool neg,v] w λe w'=>∃ r,e=.returned r/\aO w' w.heap.size r (if neg=true then-(ay xs:Int) else ay xs)/\aU w w':=by
 obtain⟨p,c,rfl,_,_,_⟩:=hr.u32;have HR:=af hr;have ll:=bO.new w 53 #[.bool false,.slice none 0 0];have sZ:=(aU.refl w).alloc (.cells #[.bool false,.slice none 0 0] 53);clear hr;refine bG λR' di=> ?_;go_enter yG,Tryz.ntmps92
 go_wp2_with fail
 refine (SD _ n xs _ (HR.out.below sZ) hl hn).mono ?_;rintro e w1 ⟨v1,rfl,Cp,bA⟩;replace bA:aU _ w1:=bA;obtain⟨p1,k1,rfl,_,_,_⟩:=Own.form Cp;generalize hL:(limbs (ay xs)).length=L at*;have HL:=af hL;have FC:=ll.bI bA;have FB:=sZ.aR bA;obtain⟨c1,c2,f1,f2⟩:=FC.two;have KM:=Own.mono Cp sZ.size;clear hL Cp;cases neg
 ·have HO:=af (Own.dw KM FC bq (.bool false) (.slice p1 L k1));clear KM;have Mc:=FC.dw (.bool (false)) (.slice p1 (L) k1);have Md:=aU.dw FB (b:=w.heap.size) ab (.bool (false)) (.slice p1 (L) k1);go_wp2
  generalize (w1.setCell ⟨w.heap.size,0,none⟩ (.bool (false))).setCell ⟨w.heap.size,1,none⟩ (.slice p1 (L) k1)=wz at*;obtain⟨Me,Mf,_,_⟩:=Mc.two;refine bodyPost_ret (v:=.agg #[.bool (false),.slice p1 (L) k1]) (by simp[results,Tryz.results92,go_sem,Me,Mf]) aa (di.out _ _ ?_);exact⟨_,aa,aO.of (neg:=false) (by rw[HL.out];exact HO.out) HL.out.symm _ bN,Md⟩
 ·have HO:=af (Own.dw KM FC bq (.bool (decide (0<L))) (.slice p1 L k1));clear KM;have Mc:=FC.dw (.bool (decide (0<L))) (.slice p1 (L) k1);have Md:=aU.dw FB (b:=w.heap.size) ab (.bool (decide (0<L))) (.slice p1 (L) k1);go_wp2
  generalize (w1.setCell ⟨w.heap.size,0,none⟩ (.bool (decide (0<L)))).setCell ⟨w.heap.size,1,none⟩ (.slice p1 (L) k1)=wz at*;obtain⟨Me,Mf,_,_⟩:=Mc.two;refine bodyPost_ret (v:=.agg #[.bool (decide (0<L)),.slice p1 (L) k1]) (by simp[results,Tryz.results92,go_sem,Me,Mf]) aa (di.out _ _ ?_);exact⟨_,aa,aO.of (neg:=true) (by rw[HL.out];exact HO.out) HL.out.symm _ bN,Md⟩
def Hn (X Y:Int):Int:=(X-Y).sign
variable {X Y:Int}
theorem Vc (h:X<Y):Hn X Y= -1:=sign_neg ab
theorem Vd (h:Y<X):Hn X Y=1:=im ab
theorem KT (a b:Nat):Hn (a:Int) b=kD a b:=by
 rcases On a b with h|rfl|h
 ·rw[Vc ab,rX h]
 ·rw[Am];simp[Hn]
 ·rw[Vd ab,rY h]
theorem SG (a b:Nat):Hn (-(a:Int)) (-(b:Int))=kD b a:=by
 rw[<-KT];unfold Hn;congr 1;omega
theorem PV (v u:Value) (X Y:Int) (j k:Nat) (w:World) (hv:dL w v X j) (hu:dL w u Y k) (hj:j<=1073741824) (hk:k<=1073741824):
  Calls Tryz.prog 117 #[v,u] w λe w'=>e=.returned (.int .i64 (Hn X Y))/\aU w w':=by
 obtain⟨s,p,n,c,rfl⟩:=hv.form;obtain⟨t,q,m,d,rfl⟩:=hu.form;refine bG λR' di=> ?_;obtain⟨b1,b2,sZ⟩:=sO w 53 53 #[.bool s,.slice p n c] #[.bool t,.slice q m d];have HJ:=af (bj hv.len hj);have HK:=af (bj hu.len hk);have HV:=af hv;have HU:=af hu;clear hv hu hj hk;go_enter Tryz.func117,Tryz.ntmps117
 go_wp2_with fail
 generalize (w.alloc _).alloc _=W at*;refine (zv _ X j w _ HV.out lX).mono ?_;rintro e wa ⟨ua,rfl,hua,hba⟩;obtain⟨s1,p1,n1,k1,rfl⟩:=hua.lE;obtain⟨a1,a2,a3,a4⟩:=(b1.bI hba).two;obtain⟨a5,a6,a7,a8⟩:=(b2.bI hba).two;have B1:=(b1.bI hba).dw (.bool s1) (.slice p1 n1 k1);have B2:=(b2.bI hba).gu (b':=w.heap.size) ab (.bool s1) (.slice p1 n1 k1);have hZ:=bT.Zu (bT.Zu (bT.aR (bT.refl W w.heap.size (w.heap.size+1)) hba) (j:=0) (.bool s1)) (j:=1) (.slice p1 n1 k1);have HB:=aU.dw (sZ.aR hba) (b:=w.heap.size) ab (.bool s1) (.slice p1 n1 k1);have HPA:=af hua.parts;have HSA:=af hua.Zt;have HUA:=af hua;clear hua;go_wp2_with fail
 generalize (wa.setCell ⟨w.heap.size,0,none⟩ (.bool s1)).setCell ⟨w.heap.size,1,none⟩ (.slice p1 n1 k1)=wb at*;clear a1 a2 a3 a4 a5 a6 a7 a8 hba;refine (zv _ Y k w _ HU.out HB).mono ?_;rintro e wc ⟨ub,rfl,Yn,nB⟩;obtain⟨s2,p2,n2,k2,rfl⟩:=Yn.lE;obtain⟨a1,a2,a3,a4⟩:=(B1.bI nB).two;obtain⟨a5,a6,a7,a8⟩:=(B2.bI nB).two;have D1:=(B1.bI nB).gu (b':=w.heap.size+1) ab (.bool s2) (.slice p2 n2 k2);have D2:=(B2.bI nB).dw (.bool s2) (.slice p2 n2 k2);have hY:=bT.yl (bT.yl (bT.aR hZ nB) (j:=0) (.bool s2)) (j:=1) (.slice p2 n2 k2);have HD:=aU.dw (HB.aR nB) (b:=w.heap.size+1) ab (.bool s2) (.slice p2 n2 k2);have HPB:=af Yn.parts;have HSB:=af Yn.Zt;have HUB:=af Yn;clear Yn B1 B2 HB nB hZ;have UR:n1<=1073741824:=by rw[HPA.out.1];exact HJ.out
 have hx2:n2<=1073741824:=by rw[HPB.out.1];exact HK.out
 have HX1:=af UR;have YU:=af hx2;clear UR hx2;cases s1 <;> cases s2
 ·go_wp2_with fail
  generalize (wc.setCell ⟨w.heap.size+1,0,none⟩ (.bool false)).setCell ⟨w.heap.size+1,1,none⟩ (.slice p2 n2 k2)=wd at*;refine (Cs _ _ n1 n2 _ _ _ (HPA.out.2.1.below HD) (HPB.out.2.1.below HD) (aK _) (aK _) HX1.out YU.out).mono ?_;rintro e we ⟨rfl,hbe⟩;rw[aB,aB,<-KT];have e1:(X.natAbs:Int)=X:=by have:=HPA.out.2.2;simpa using this.symm
  have e2:(Y.natAbs:Int)=Y:=by have:=HPB.out.2.2;simpa using this.symm
  rw[e1,e2];go_wp2_with fail
  exact di.out _ _ ⟨aa,HD.aR hbe⟩
 ·have h1:¬ X<0:=of_decide_eq_false HSA.out.symm;have h2:Y<0:=CV HSB.out.symm;rw[Vd ab] at di;go_wp2
  exact di.out _ _ ⟨aa,HD⟩
 ·have h1:X<0:=CV HSA.out.symm;have h2:¬ Y<0:=of_decide_eq_false HSB.out.symm;rw[Vc ab] at di;go_wp2
  exact di.out _ _ ⟨aa,HD⟩
 ·go_wp2_with fail
  generalize (wc.setCell ⟨w.heap.size+1,0,none⟩ (.bool true)).setCell ⟨w.heap.size+1,1,none⟩ (.slice p2 n2 k2)=wd at*;refine (Cs _ _ n2 n1 _ _ _ (HPB.out.2.1.below HD) (HPA.out.2.1.below HD) (aK _) (aK _) YU.out HX1.out).mono ?_;rintro e we ⟨rfl,hbe⟩;rw[aB,aB,<-SG];have e1: -(X.natAbs:Int)=X:=by have:=HPA.out.2.2;simpa using this.symm
  have e2: -(Y.natAbs:Int)=Y:=by have:=HPB.out.2.2;simpa using this.symm
  rw[e1,e2];go_wp2_with fail
  exact di.out _ _ ⟨aa,HD.aR hbe⟩
theorem eI (v:Value) (X:Int) (j:Nat) (w:World) (hv:dL w v X j) (hj:j<=1073741824):
  Calls Tryz.prog 89 #[v] w λe w'=>e=.returned (.int .i64 X.sign)/\aU w w':=by
 obtain⟨s,p,n,c,rfl⟩:=hv.form;refine bG λR' di=> ?_;have sZ:=(aU.refl w).alloc (.cells #[.bool s,.slice p n c] 53);have HV:=af (hv.bI sZ);have e1:=af (show Hn X 0=X.sign by simp[Hn]);clear hv;go_enter mI,Tryz.ntmps89
 go_wp2_with fail
 generalize w.alloc _=W at*;refine (PV _ _ X 0 j 0 _ HV.out ((dX.zero _).to (by simp[dy])) hj ab).mono ?_;rintro e w1 ⟨rfl,bA⟩;rw[e1.out];go_wp2
 exact di.out _ _ ⟨aa,sZ.aR bA⟩
variable {U:TypeId} {T:TypeId->Bool} {w':World}
theorem Rd.kp {v:Value} {n:Nat} (h:Rd w 1 v n (ints .u32 xs)) (k:bQ ⟨U,λ_=>True,T⟩ w w'):Rd w' 1 v n (ints .u32 xs):=by
 obtain⟨p,c,rfl,h1,h2,h3,h4⟩:=h;refine⟨p,c,aa,h1,h2,h3,λhn=> ?_⟩;obtain⟨b,off,hp,hc⟩:=h4 hn;refine⟨b,off,hp,λj u hj=> ?_⟩;obtain⟨x,hx,rfl⟩:=fv.1 (cX hj);exact k.cell _ _ ag (hc j _ hj)
theorem Own.kp {sz n:Nat} {v:Value} {cs:List Value} (h:w.ownsRow B UU sz v n cs) (k:bQ ⟨UU,λ_=>True,T⟩ w w'):w'.ownsRow B UU sz v n cs:=by
 refine⟨h.1,?_⟩;rcases h.2 with h2|⟨g,cap,cur,hv,hb,hg,r⟩
 ·exact .inl h2
 ·exact .inr ⟨g,cap,cur,hv,hb,k.block _ g cur aa ag hg,r⟩
theorem jv.kp {v:Value} {s:Bool} (h:jv w v s xs) (k:bQ ⟨U,λ_=>True,T⟩ w w'):jv w' v s xs:=by
 obtain⟨p,c,hv,hr,hl⟩:=h;exact⟨p,c,hv,hr.kp k,hl⟩
variable {j:Nat}
theorem dL.kp {v:Value} (h:dL w v X j) (k:bQ ⟨U,λ_=>True,T⟩ w w'):dL w' v X j:=by
 obtain⟨s,xs,hn,hx,hj⟩:=h;exact⟨s,xs,hn.kp k,hx,hj⟩
theorem dX.kp {v:Value} (h:dX w v X) (k:bQ ⟨U,λ_=>True,T⟩ w w'):dX w' v X:=jv.kp h k
theorem aO.kp {v:Value} (h:aO w B v X) (k:bQ ⟨UU,λ_=>True,T⟩ w w'):aO w' B v X:=by
 obtain⟨p,c,hv,ho⟩:=h;exact⟨p,c,hv,Own.kp ho k⟩
theorem aO.in {v:Value} (h:aO w B v X) (hs:Sz X j):dL w v X j:=h.rd.to hs
def SH (X Y:Int):Rat:=if 0<Y/\Int.gcd X Y=1 then Rat.divInt X Y else 0
theorem zw (h:0<Y/\Int.gcd X Y=1):(SH X Y).num=X/\((SH X Y).den:Int)=Y:=by
 unfold SH;rw[if_pos h,Rat.num_divInt,Rat.den_divInt,if_neg ab,Int.gcd_comm,h.2];have:Y.sign=1:=im h.1;rw[this];simp;omega
theorem SI (h:¬ (0<Y/\Int.gcd X Y=1)):SH X Y=0:=if_neg h
theorem KV (q:Rat):SH q.num q.den=q:=by
 have h:(0:Int)<q.den/\Int.gcd q.num q.den=1:=⟨by have:=q.den_nz;omega,by have:=q.reduced;simpa [Int.gcd,Nat.Coprime] using this⟩;obtain⟨h1,h2⟩:=zw h;exact Rat.ext h1 ab
def gT (w:World) (v:Value) (s:Bool) (xs:List Nat) (t:Bool) (ys:List Nat):Prop:=
 ∃ p c r d,v=.agg #[.bool s,.slice p xs.length c,.bool t,.slice r ys.length d]/\jv w (.agg #[.bool s,.slice p xs.length c]) s xs/\jv w (.agg #[.bool t,.slice r ys.length d]) t ys
def rq (s:Bool) (xs:List Nat) (t:Bool) (ys:List Nat):Rat:=SH (numOf s xs) (numOf t ys)
def ck (w:World) (v:Value) (q:Rat) (k:Nat):Prop:=∃ s xs t ys,gT w v s xs t ys/\q=rq s xs t ys/\xs.length<=k/\ys.length<=k
def cJ (w:World) (v:Value) (q:Rat):Prop:=∃ s p n c t r m d,v=.agg #[.bool s,.slice p n c,.bool t,.slice r m d]/\dX w (.agg #[.bool s,.slice p n c]) q.num/\dX w (.agg #[.bool t,.slice r m d]) (q.den:Int)
def aW (w:World) (B:Nat) (v:Value) (q:Rat):Prop:=∃ s p n c t r m d,v=.agg #[.bool s,.slice p n c,.bool t,.slice r m d]/\aO w B (.agg #[.bool s,.slice p n c]) q.num/\aO w B (.agg #[.bool t,.slice r m d]) (q.den:Int)
def fI (q:Rat) (k:Nat):Prop:=Sz q.num k/\Sz (q.den:Int) k
variable {t:Bool}
theorem gT.kp {v:Value} {s:Bool} {ys:List Nat} (h:gT w v s xs t ys) (k:bQ ⟨U,λ_=>True,T⟩ w w'):gT w' v s xs t ys:=by
 obtain⟨p,c,r,d,hv,h1,h2⟩:=h;exact⟨p,c,r,d,hv,h1.kp k,h2.kp k⟩
theorem ck.kp {v:Value} {q:Rat} (h:ck w v q j) (k:bQ ⟨U,λ_=>True,T⟩ w w'):ck w' v q j:=by
 obtain⟨s,xs,t,ys,h1,h2⟩:=h;exact⟨s,xs,t,ys,h1.kp k,h2⟩
theorem cJ.kp {v:Value} {q:Rat} (h:cJ w v q) (k:bQ ⟨U,λ_=>True,T⟩ w w'):cJ w' v q:=by
 obtain⟨s,p,n,c,t,r,m,d,hv,h1,h2⟩:=h;exact⟨s,p,n,c,t,r,m,d,hv,h1.kp k,h2.kp k⟩
theorem aW.kp {v:Value} {q:Rat} (h:aW w B v q) (k:bQ ⟨UU,λ_=>True,T⟩ w w'):aW w' B v q:=by
 obtain⟨s,p,n,c,t,r,m,d,hv,h1,h2⟩:=h;exact⟨s,p,n,c,t,r,m,d,hv,h1.kp k,h2.kp k⟩
theorem aW.mono {B':Nat} {v:Value} {q:Rat} (h:aW w B v q) (hB:B'<=B):aW w B' v q:=by
 obtain⟨s,p,n,c,t,r,m,d,hv,h1,h2⟩:=h;exact⟨s,p,n,c,t,r,m,d,hv,h1.mono hB,h2.mono hB⟩
theorem aW.rd {v:Value} {q:Rat} (h:aW w B v q):cJ w v q:=by
 obtain⟨s,p,n,c,t,r,m,d,hv,h1,h2⟩:=h;exact⟨s,p,n,c,t,r,m,d,hv,h1.rd,h2.rd⟩
theorem aW.cast {v:Value} {q q':Rat} (h:aW w B v q) (e:q=q'):aW w B v q':=e▸h
theorem dX.len4 {s:Bool} {n:Nat} (h:dX w (.agg #[.bool s,.slice p n c]) X):s=decide (X<0)/\n=(limbs X.natAbs).length:=⟨h.Zt,h.parts.1⟩
theorem cJ.raw {v:Value} {q:Rat} (h:cJ w v q):gT w v (decide (q.num<0)) (limbs q.num.natAbs) (decide ((q.den:Int)<0)) (limbs (q.den:Int).natAbs):=by
 obtain⟨s,p,n,c,t,r,m,d,rfl,h1,h2⟩:=h;obtain⟨rfl,rfl⟩:=h1.len4;obtain⟨rfl,rfl⟩:=h2.len4;exact⟨p,c,r,d,aa,h1,h2⟩
theorem cJ.to {v:Value} {q:Rat} {k:Nat} (h:cJ w v q) (hs:fI q k):ck w v q k:=
 ⟨_,_,_,_,h.raw,by unfold rq;rw[jV,jV,KV],hs.1,hs.2⟩
theorem aW.in {v:Value} {q:Rat} {k:Nat} (h:aW w B v q) (hs:fI q k):ck w v q k:=h.rd.to hs
theorem fI.mono {q:Rat} {k l:Nat} (h:fI q k) (OT:k<=l):fI q l:=⟨h.1.mono OT,h.2.mono OT⟩
theorem fI.zero:fI 0 1:=⟨Sz.zero.mono ab,Sz.small bq⟩
theorem Bb {s:Bool} {k:Nat} (hl:ez xs) (h:xs.length<=k):Sz (numOf s xs) k:=bj (Kk hl) h
theorem ck.sz {v:Value} {q:Rat} {k:Nat} (h:ck w v q k) (hk:1<=k):fI q k:=by
 obtain⟨s,xs,t,ys,⟨p,c,r,d,_,⟨_,_,_,_,l1⟩,⟨_,_,_,_,l2⟩⟩,rfl,h1,h2⟩:=h;unfold rq;by_cases hr:0<numOf t ys/\Int.gcd (numOf s xs) (numOf t ys)=1
 ·obtain⟨e1,e2⟩:=zw hr;exact⟨by rw[e1];exact Bb l1 h1,by rw[e2];exact Bb l2 h2⟩
 ·rw[SI hr];exact fI.zero.mono hk
theorem ck.form {v:Value} {q:Rat} {k:Nat} (h:ck w v q k):∃ s p n c t r m d,v=.agg #[.bool s,.slice p n c,.bool t,.slice r m d]:=by
 obtain⟨s,xs,t,ys,⟨p,c,r,d,hv,_⟩,_⟩:=h;exact⟨_,_,_,_,_,_,_,_,hv⟩
theorem cJ.parts {s:Bool} {r:Option Addr} {n:Nat} {q:Rat} (h:cJ w (.agg #[.bool s,.slice p n c,.bool t,.slice r m d]) q):dX w (.agg #[.bool s,.slice p n c]) q.num/\dX w (.agg #[.bool t,.slice r m d]) (q.den:Int):=by
 obtain⟨s',p',n',c',t',r',m',d',hv,h1,h2⟩:=h;simp only[Value.agg.injEq,Array.mk.injEq,List.cons.injEq,and_true] at hv;obtain⟨e1,e2,e3,e4⟩:=hv;rw[e1,e2,e3,e4];exact⟨h1,h2⟩
theorem cJ.form {v:Value} {q:Rat} (h:cJ w v q):∃ s p n c t r m d,v=.agg #[.bool s,.slice p n c,.bool t,.slice r m d]:=by
 obtain⟨s,p,n,c,t,r,m,d,hv,_⟩:=h;exact⟨_,_,_,_,_,_,_,_,hv⟩
theorem aW.form {v:Value} {q:Rat} (h:aW w B v q):∃ s p n c t r m d,v=.agg #[.bool s,.slice p n c,.bool t,.slice r m d]:=h.rd.form
theorem FK (hY:0<Y):X.fdiv (Int.gcd X Y:Int)=(Rat.divInt X Y).num/\Y.fdiv (Int.gcd X Y:Int)=((Rat.divInt X Y).den:Int):=by
 have hg:(0:Int)<(Int.gcd X Y:Int):=by
  have:Int.gcd X Y≠0:=λe=>by have:=(Uh.1 e).2;omega
  omega
 rw[Rat.num_divInt,Rat.den_divInt,if_neg ab,im hY,Int.one_mul,Int.gcd_comm Y X];refine⟨Int.fdiv_eq_ediv_of_nonneg _ ab,?_⟩;rw[Int.fdiv_eq_ediv_of_nonneg _ ab,Int.natCast_ediv]
 congr 1
 omega
theorem low_neg (hY:Y<0):X.fdiv (-(Int.gcd X Y:Int))=(Rat.divInt X Y).num/\Y.fdiv (-(Int.gcd X Y:Int))=((Rat.divInt X Y).den:Int):=by
 have e:Rat.divInt X Y=Rat.divInt (-X) (-Y):=(Rat.neg_divInt_neg X Y).symm;obtain⟨h1,h2⟩:=FK (X:= -X) (Y:= -Y) ab;rw[Int.neg_gcd,Int.gcd_neg] at h1 h2;rw[e,<-h1,<-h2];have fd:∀ a b:Int,(-a).fdiv b=a.fdiv (-b):=λa b=>by rw[<-Int.neg_fdiv_neg,Int.neg_neg]
 exact⟨(fd _ _).symm,(fd _ _).symm⟩
end
set_option maxRecDepth 4000
section
open Go.RowKit
attribute [local irreducible] aG VS
theorem om (v:Value) (X:Int) (k:Nat) (w:World) (h:dL w v X k):
  Calls Tryz.prog 96 #[v] w λe w'=>∃ u,e=.returned u/\dX w' u X/\aU w w':=
 (zv v X k w w h (aU.refl w)).mono λe w' ⟨u,he,h1,h2⟩=>⟨u,he,h1.bI h2,h2⟩
variable {X:Int} {w:World}
theorem dX.row {s:Bool} {p:Option Addr} {n c:Nat} (h:dX w (.agg #[.bool s,.slice p n c]) X):Rd w 1 (.slice p n c) n (ints .u32 (limbs X.natAbs)):=h.parts.2.1
theorem dX.n {w:World} {s:Bool} {p:Option Addr} {n c:Nat} {X:Int} (h:dX w (.agg #[.bool s,.slice p n c]) X):n=(limbs X.natAbs).length:=h.parts.1
theorem uN {s:Bool} (h:s=decide (X<0)):X=if s=true then-(X.natAbs:Int) else X.natAbs:=by
 subst h;by_cases hx:X<0
 ·simp[hx];omega
 ·simp[hx];omega
variable {full:Array Oper} {C:Cx} {F:Fr} {K:Fr->Hp->World->Prop} {g:FuncId} {H:Hp} {r:List Oper} {vs:List Value} {m:Option (List FuncId)}
theorem VO.cB {o:Oper} {args:List AV} {v:Value} (e:stepOf C full F H o=.call (.fn g args)) (hv:jW args=some vs) (hf:rA C.P g) (con:∀ w1,bQ C.K w w1->C.Old w1->Calls C.P g vs.toArray w1 λe w2=>e=.returned v/\aU w1 w2) (h:∀ w1,bQ C.K w w1->C.Old w1->∀ w2,aU w1 w2->bQ C.K w w2->bQ C.K w1 w2->C.Old w2->aG C m full r K (F.cw o.dst (.val v)) H w2):aG C m full (o::r) K F H w:=
 VO.call e hv hf λw1 a b=>(con w1 a b).mono λ_ w2 x=>⟨v,x.1,x.2,h w1 a b w2 x.2⟩
variable {Φ:World->World->Value->Prop}
theorem VO.cR {o:Oper} {args:List AV} (e:stepOf C full F H o=.call (.fn g args)) (hv:jW args=some vs) (hf:rA C.P g) (con:∀ w1,bQ C.K w w1->C.Old w1->Calls C.P g vs.toArray w1 λe w2=>∃ r,e=.returned r/\Φ w1 w2 r/\aU w1 w2) (h:∀ w1,bQ C.K w w1->C.Old w1->∀ w2 (s:Bool) (p:Option Addr) (n c:Nat) (t:Bool) (y:Option Addr) (i j:Nat),Φ w1 w2 (.agg #[.bool s,.slice p n c,.bool t,.slice y i j])->aU w1 w2->bQ C.K w w2->bQ C.K w1 w2->C.Old w2->aG C m full r K (F.cw o.dst (.val (.agg #[.bool s,.slice p n c,.bool t,.slice y i j]))) H w2) (hΦ:∀ w1 w2 r,Φ w1 w2 r->∃ s p n c t y i j,r=.agg #[.bool s,.slice p n c,.bool t,.slice y i j]:=by exact λ_ _ _ h=>h.form):aG C m full (o::r) K F H w:=
 VO.call e hv hf λw1 a b=>(con w1 a b).mono λ_ w2 ⟨r,x1,x2,x3⟩=>by
   obtain⟨s,p,n,c,t,y,i,j,rfl⟩:=hΦ _ _ _ x2;exact⟨_,x1,x3,h w1 a b w2 s p n c t y i j x2 x3⟩
theorem VO.cI {o:Oper} {args:List AV} (e:stepOf C full F H o=.call (.fn g args)) (hv:jW args=some vs) (hf:rA C.P g) (con:∀ w1,bQ C.K w w1->C.Old w1->Calls C.P g vs.toArray w1 λe w2=>∃ r,e=.returned r/\Φ w1 w2 r/\aU w1 w2) (h:∀ w1,bQ C.K w w1->C.Old w1->∀ w2 (s:Bool) (p:Option Addr) (n c:Nat),Φ w1 w2 (.agg #[.bool s,.slice p n c])->aU w1 w2->bQ C.K w w2->bQ C.K w1 w2->C.Old w2->aG C m full r K (F.cw o.dst (.val (.agg #[.bool s,.slice p n c]))) H w2) (hΦ:∀ w1 w2 r,Φ w1 w2 r->∃ s p n c,r=.agg #[.bool s,.slice p n c]:=by exact λ_ _ _ h=>h.form):aG C m full (o::r) K F H w:=
 VO.call e hv hf λw1 a b=>(con w1 a b).mono λ_ w2 ⟨r,x1,x2,x3⟩=>by
   obtain⟨s,p,n,c,rfl⟩:=hΦ _ _ _ x2;exact⟨_,x1,x3,h w1 a b w2 s p n c x2 x3⟩
variable {P Q:Prop}
theorem ae (h:Q) (i:Q->P:=by intro h;(repeat first|refine wN ?_|refine wP rfl ?_|refine cx_r rfl ?_|refine cx_d rfl ?_|refine wO rfl rfl ?_);exact h):P:=i h
theorem bZ {X:Prop} (hb:X) (h:Q) (i:X->Q->P:=by intro hb h;refine⟨_,rfl,hb,λa b c=>wV rfl ?_⟩;refine ae ?_;revert a b c;exact h):P:=i hb h
theorem bl (h:Q) (i:Q->P:=by intro h;exact VS.ret (dD _ _) rfl rfl h):P:=i h
theorem Bc (v:Value) (X:Int) (j:Nat) (w:World) (hv:dL w v X j) (hj:j<=1073741824):
  Calls Tryz.prog 93 #[v] w λe w'=>∃ r,e=.returned r/\aO w' w.heap.size r (-X)/\aU w w':=by
 obtain⟨s,p,n,c,rfl⟩:=hv.form;have hl:=hv.len;refine ah (C:=cH Tryz.prog w _) (args:=[_]) Tryz.func93 aa Tryz.ntmps93 (bM aa) ?_;refine ae ?_;refine VO.call aa aa (fk wv) (λbn cG bo=>(om _ X j bn (hv.kp cG)).mono ?_);rintro e w1 ⟨r1,rfl,h1,bA⟩;obtain⟨s1,p1,n1,c1,rfl⟩:=h1.lE;refine bZ bA ?_;intro eF _ bb1;refine VO.call aa aa (fk wv) (λcz dB cT=>(om _ X j cz (hv.kp ((eF).aR dB))).mono ?_);rintro e w2 ⟨r2,rfl,h2,cC⟩;obtain⟨s2,p2,n2,c2,rfl⟩:=h2.lE;refine bZ cC ?_;intro fe _ bb2;refine VO.cI aa aa (fk yG) (λeP fA ft=>mZ (!s1) _ n2 _ eP (h2.row.kp fA) (aK _) (by rw[h2.n];omega)) (λeP fA ft w3 s3 p3 n3 c3 h3 dZ jm _ bb3=>wV aa ?_);refine ae ?_;refine bl ?_;intro wz kz bz;refine⟨_,aa,aO.cast ((h3.kp kz).mono ft.size) ?_,bz⟩;rw[aB];have:=uN h1.Zt;cases s1 <;> simp at this ⊢ <;> omega
theorem Bd (v u:Value) (X Y:Int) (j k:Nat) (w:World) (hv:dL w v X j) (hu:dL w u Y k) (hj:j<=536870912) (hk:k<=536870911):
  Calls Tryz.prog 62 #[v,u] w λe w'=>∃ r,e=.returned r/\aO w' w.heap.size r (X+Y)/\aU w w':=by
 obtain⟨s,p,n,c,rfl⟩:=hv.form;obtain⟨t,q,m,d,rfl⟩:=hu.form;have qK:=hv.len;have vN:=hu.len;refine ah (C:=cH Tryz.prog w _) (args:=[_,_]) Tryz.func62 aa Tryz.ntmps62 (bM aa) ?_;refine ae ?_;refine VO.call aa aa (fk wv) (λbn cG bo=>(om _ X j bn (hv.kp cG)).mono ?_);rintro e w1 ⟨r1,rfl,h1,bA⟩;obtain⟨s1,p1,n1,c1,rfl⟩:=h1.lE;refine bZ bA ?_;intro eF _ bb1;refine VO.call aa aa (fk wv) (λcz dB cT=>(om _ Y k cz (hu.kp ((eF).aR dB))).mono ?_);rintro e w2 ⟨r2,rfl,h2,cC⟩;obtain⟨s2,p2,n2,c2,rfl⟩:=h2.lE;refine bZ cC ?_;intro fe _ bb2;have e1:=uN h1.Zt;have e2:=uN h2.Zt;have xI:n1<=536870912:=by rw[h1.n];omega
 have xe:n2<=536870911:=by rw[h2.n];omega
 by_cases hst:s1=s2
 ·subst hst;refine VS.aV aa bN ?_;refine ae ?_;refine VO.call aa aa (fk Tryz.func97) (λeP fA ft=>(Xc _ _ n1 n2 _ _ eP (h1.row.kp (dB.aR ((Kp.of cC).aR fA))) (h2.row.kp fA) (aK _) (aK _) ab ab).mono ?_);rintro e w3 ⟨v3,rfl,h3,dZ⟩;obtain⟨p3,c3,rfl,_⟩:=Own.form h3;refine bZ dZ ?_;intro jm _ bb3;refine VO.cI aa aa (fk yG) (λfW iJ iB=>mZ s1 _ _ _ fW (Rd.own (Own.kp h3 iJ)) (aK _) (by have:=sum_len (a:=ay (limbs X.natAbs)) (b:=ay (limbs Y.natAbs)) (n:=n1) (m:=n2) (by rw[aB];exact h1.n) (by rw[aB];exact h2.n);omega)) (λfW iJ iB w4 s4 p4 n4 c4 h4 ic mB _ tI=>wV aa ?_);refine ae ?_;refine bl ?_;intro wz kz bz;refine⟨_,aa,aO.cast ((h4.kp kz).mono iB.size) ?_,bz⟩;rw[aB,aB,aB];cases s1 <;> simp at e1 e2 ⊢ <;> omega
 ·refine VS.aP aa (by simpa using hst) ?_;refine ae ?_;refine VO.call aa aa (fk Tryz.func98) (λeP fA ft=>(KS _ _ n1 n2 _ _ eP (h1.row.kp (dB.aR ((Kp.of cC).aR fA))) (h2.row.kp fA) (aK _) (aK _) ab ab).mono ?_);rintro e w3 ⟨h3,dZ⟩;rw[aB,aB] at h3;rcases h3 with ⟨hlt,rfl⟩|⟨hle,v3,rfl,h3⟩
  ·refine bZ dZ ?_;intro jm _ bb3;refine VO.call aa aa (fk Tryz.func98) (λfW iJ iB=>(KS _ _ n2 n1 _ _ fW (h2.row.kp (fA.aR ((Kp.of dZ).aR iJ))) (h1.row.kp (dB.aR ((Kp.of cC).aR (fA.aR ((Kp.of dZ).aR iJ))))) (aK _) (aK _) ab ab).mono ?_);rintro e w4 ⟨h4,ic⟩;rw[aB,aB] at h4;rcases h4 with ⟨PW,rfl⟩|⟨Eh,v4,rfl,h4⟩
   ·omega
   ·obtain⟨p4,c4,rfl,_⟩:=Own.form h4;refine bZ ic ?_;intro mB _ tI;refine VO.cI aa aa (fk yG) (λfQ iH fV=>mZ s2 _ _ _ fQ (Rd.own (Own.kp h4 iH)) (aK _) (by have:=eJ (show Y.natAbs-X.natAbs<=Y.natAbs by omega);omega)) (λfQ iH fV w5 s5 p5 n5 c5 h5 iz lg _ sR=>wV aa ?_);refine ae ?_;refine bl ?_;intro wz kz bz;refine⟨_,aa,aO.cast ((h5.kp kz).mono fV.size) ?_,bz⟩;rw[aB];cases s1 <;> cases s2 <;> simp at e1 e2 hst ⊢ <;> omega
  ·obtain⟨p3,c3,rfl,_⟩:=Own.form h3;refine bZ dZ ?_;intro jm _ bb3;refine VO.cI aa aa (fk yG) (λfQ iH fV=>mZ s1 _ _ _ fQ (Rd.own (Own.kp h3 iH)) (aK _) (by have:=eJ (show X.natAbs-Y.natAbs<=X.natAbs by omega);omega)) (λfQ iH fV w5 s5 p5 n5 c5 h5 iz lg _ sR=>wV aa ?_);refine ae ?_;refine bl ?_;intro wz kz bz;refine⟨_,aa,aO.cast ((h5.kp kz).mono fV.size) ?_,bz⟩;rw[aB];cases s1 <;> cases s2 <;> simp at e1 e2 hst ⊢ <;> omega
theorem PX (v u:Value) (X Y:Int) (j k:Nat) (w:World) (hv:dL w v X j) (hu:dL w u Y k) (hj:j<=536870912) (hk:k<=536870911):
  Calls Tryz.prog 120 #[v,u] w λe w'=>∃ r,e=.returned r/\aO w' w.heap.size r (X-Y)/\aU w w':=by
 obtain⟨s,p,n,c,rfl⟩:=hv.form;obtain⟨t,q,m,d,rfl⟩:=hu.form;refine ah (C:=cH Tryz.prog w _) (args:=[_,_]) Tryz.func120 aa Tryz.ntmps120 (bM aa) ?_;refine ae ?_;refine VO.cI aa aa (fk Tryz.func93) (λbn cG bo=>Bc _ Y k bn (hu.kp cG) ab) (λbn cG bo w1 s1 p1 n1 c1 h1 bA eF _ bb1=>wV aa ?_);refine ae ?_;refine VO.cI aa aa (fk Tryz.func62) (λcz dB cT=>Bd _ _ X (-Y) j k cz (hv.kp ((eF).aR dB)) ((h1.kp dB).in (Sz.neg hu.len)) hj hk) (λcz dB cT w2 s2 p2 n2 c2 h2 cC fe _ bb2=>wV aa ?_);refine ae ?_;refine bl ?_;intro wz kz bz;exact⟨_,aa,aO.cast ((h2.kp kz).mono cT.size) (Int.sub_eq_add_neg).symm,bz⟩
end
section
open Go.RowKit
attribute [local irreducible] aG VS
set_option maxRecDepth 100000 in
theorem mo (p:Option Addr) (n c:Nat) (xs:List Nat) (w:World) (hr:Rd w 1 (.slice p n c) n (ints .i64 xs)) (hl:kN xs):
  Calls Tryz.prog 125 #[.slice p n c] w λe w'=>(∃ m,m<=n/\e=.returned (.slice p m c)/\halves (hval xs)=xs.take m)/\w=w':=by
 obtain⟨p',c',hv,il,iC,ib⟩:=hr.i64;simp only[Value.slice.injEq,true_and] at hv;obtain⟨rfl,rfl⟩:=hv;have HX:Hid (xs.length=n):=ib;clear ib;refine bG λR' di=> ?_;go_enter CY,Tryz.ntmps125
 go_wp2
 go_loop [0] (λv=>∃ m,m<=n/\v=.slice p m c/\hval (xs.take m)=hval xs) (λv=>match v with | .slice _ m _=>m|_=>0)
 case atStart=>exact⟨n,bL _,aa,by rw[dP (iM HX.out)]⟩
 case round=>
  obtain⟨m,hm,rfl,hv⟩:=hrel;have HV:Hid (hval (xs.take m)=hval xs):=hv;clear hv;by_cases h0:m=0
  ·subst h0;go_wp2
   exact di.out _ _ ⟨⟨0,fH _,aa,ql ab hl (fH _) HV.out (.inl aa)⟩,aa⟩
  ·obtain⟨b,off,x,rfl,hb,hx,hc⟩:=hr.cellAt (k:=m-1) ab;have YU:Hid (xs[m-1]? =some x):=hx;clear hx;have h0':0<m:=ab;obtain⟨j,rfl⟩:∃ j,m=j+1:=⟨m-1,ab⟩;rw[Nat.add_sub_cancel] at hc;by_cases my:x=0
   ·subst my;go_wp2
    go_round
    case rel=>exact⟨j,ab,aa,(rW YU.out).symm.trans HV.out⟩
    case measure=>simp
   ·have hx0':((x:Int) == 0)=false:=by rw[iZ];omega
    go_wp2
    exact di.out _ _ ⟨⟨j+1,hm,aa,ql ab hl (by rw[HX.out];exact hm) HV.out (.inr ⟨x,YU.out,my⟩)⟩,aa⟩
set_option maxRecDepth 100000 in
theorem Mg (va:Value) (n:Nat) (xs:List Nat) (w:World) (hr:Rd w 1 va n (ints .u32 xs)) (hl:ez xs) (hn:n<=1073741824):
  Calls Tryz.prog 101 #[va] w λe w'=>∃ v',e=.returned v'/\w'.ownsRow w.heap.size 3 1 v' (halves (ay xs)).length (ints .i64 (halves (ay xs)))/\Below w.heap.size w w':=by
 obtain⟨p,c,rfl,il,iC,ib⟩:=hr.u32;obtain⟨i0,hi,pX,lD,uw⟩:=info_parts FJ;obtain⟨B,hB⟩:∃ B,B=w.heap.size:=⟨_,aa⟩;have HB:=af hB;have Hr:=af hr;have HL:=af hl;have HX:=af ib;rw[<-hB];clear hr hl ib hB;refine bG λR' di=> ?_;go_enter Gj,Tryz.ntmps101
 go_wp2
 go_loopw [3,4] (λov iv wr=>UY w B xs ov iv wr) (λ_ iv _=>n-(intOf iv).toNat)
 case atStart=>exact⟨0,[],fH _,aa,aa,gN.nil _,aa,qF _ _ _ _,iP _ _⟩
 case round=>
  obtain⟨k,hs,hk,rfl,hhl,hhh,hhv,aZ,hb⟩:=hrel;have HK:=af hk;have HO:=af aZ;have HHL:=af hhl;have HHH:=af hhh;have HHV:=af hhv;have lM:=af hb;have Ft:B<=wr.heap.size:=by have:=hb.size;have:=HB.out;omega
  have hkn':k<=n:=by rw[<-HX.out];exact hk
  clear hk aZ hhl hhh hhv hb;by_cases ux:k<n
  ·obtain⟨b1,o1,x,rfl,bA,kF,hcw⟩:=Hr.out.cellAt ux;have yi:=(lM.out.cell (p:=⟨b1,o1+k,none⟩) (by rw[HB.out];exact bA)).trans hcw;have hne:=YR HO.out (b:=b1) (by rw[HB.out];exact bA);have Fu:=af kF;have rk:=HL.out.at kF;have HNE:=af hne;have Di:(0:Int)<=(k:Int):=ab;have Hd:(k:Int)<(n:Int):=ab;clear kF hcw hne;go_wp2_with fail
   go_region_held3 (λw'=>w'.cell? ⟨b1,o1+k,none⟩=some (.int .u32 (x:Int))) (first|exact yi|go_keep|exact Kb Hl yi HNE.out)
    ((refine wC (by rfl) _ _ 156 (by rfl) B 3 i0 (.int .i64 0) 1 8 JN hi pX lD uw aa ab _ (2*k) (ints .i64 hs) (by rfl) ((HO.out.alloc _).drew) _ 2 (ints .i64 [x%65536,x/65536]) (by rfl) (Rd.drew (Rd.lit2 (UZ rk) (Va rk))) (tq .i64 [x%65536,x/65536]) (by unfold maxLen;omega) ab (by simp;omega) ?_;intro v1 w1 jM Hl))
   have zS:=af jM;have HG1:=af Hl;clear jM Hl;go_wp2_with fail
   go_roundw
   case rel=>
    have hst:=KP Fu.out rk HHL.out HHH.out HHV.out;exact⟨k+1,hs++[x%65536,x/65536],by rw[HX.out];omega,by go_num,by simp[HHL.out];omega,hst.1,hst.2,by rw[me];exact zS.out,Below.behind lM.out Ft HG1.out HO.out (bL _)⟩
   case measure=>simp[intOf];omega
  ·obtain rfl:k=n:=by omega
   obtain⟨p1,c1,Nu,_,_,_⟩:=Own.form HO.out;have HV1:=af Nu;have gJ:Hid (hval hs=ay xs):=by show _=_;rw[HHV.out,cZ (iM HX.out)]
   subst Nu;go_wp2_with fail
   refine (mo p1 (2*k) c1 hs _ (Rd.own HO.out) HHH.out).mono ?_;rintro e w2 ⟨⟨m,hm,rfl,Jf⟩,rfl⟩;have HC:=Own.cut HO.out hm Jf;rw[gJ.out] at HC;have HC1:=af HC.1;have HC2:=af HC.2;clear HC Jf;go_wp2_with fail
   refine di.out _ _ ⟨_,aa,?_,lM.out⟩;have:=HC1.out;rw[<-HC2.out] at this ⊢;exact this
theorem tmod_abs {n:Int} (h0: -9223372036854775808<=n) (h1:n<=9223372036854775807):wR (n.tmod 4294967296) [IntKind.i64.wrap (0-n.tmod 4294967296)]=((n.natAbs%4294967296:Nat):Int):=by
 have e:(n.tmod 4294967296).natAbs=n.natAbs%4294967296:=by rw[Int.natAbs_tmod];rfl
 have hs:(0<=n->0<=n.tmod 4294967296):=λh=>Int.tmod_nonneg _ h;have hs':(n<=0->n.tmod 4294967296<=0):=λh=>by have:=Int.tmod_nonneg 4294967296 (show 0<=-n by omega);rw[Int.neg_tmod] at this;omega
 rw[cV _ ab];unfold wR wR
 split <;> omega
theorem tdiv_abs {n:Int} (h0: -9223372036854775808<=n) (h1:n<=9223372036854775807):wR (IntKind.i64.wrap (n.tdiv 4294967296)) [IntKind.i64.wrap (0-IntKind.i64.wrap (n.tdiv 4294967296))]=((n.natAbs/4294967296:Nat):Int):=by
 have e:(n.tdiv 4294967296).natAbs=n.natAbs/4294967296:=by rw[Int.natAbs_tdiv];rfl
 have hs:(0<=n->0<=n.tdiv 4294967296):=λh=>Int.tdiv_nonneg h ab;have hs':(n<=0->n.tdiv 4294967296<=0):=λh=>by have:=Int.tdiv_nonneg (show 0<=-n by omega) (show (0:Int)<=4294967296 by omega);rw[Int.neg_tdiv] at this;omega
 have hb:n.natAbs/4294967296<=2147483648:=ab;rw[cV (n.tdiv 4294967296) ab,cV _ ab];unfold wR wR
 split <;> omega
theorem Ve {x:Nat} (h:x<4294967296):IntKind.u32.wrap (x:Int)=(x:Int):=by rw[Uo,Int.emod_eq_of_lt ab ab]
theorem qd (n:Int) (w:World) (h0: -9223372036854775808<=n) (h1:n<=9223372036854775807):
  Calls Tryz.prog 59 #[.int .i64 n] w λe w'=>∃ r,e=.returned r/\aO w' w.heap.size r n/\aU w w':=by
 have e1:=tmod_abs h0 h1;have e2:=tdiv_abs h0 h1;have g1:=gC n.natAbs (show 0<4294967296 by omega);have g2:n.natAbs/4294967296<4294967296:=ab;refine ah (C:=cH Tryz.prog w _) (args:=[_]) yH aa Tryz.ntmps59 (bM aa) ?_;refine ae ?_;refine VO.lit (dD _ _) [.int .u32 (IntKind.u32.wrap (wR (n.tmod 4294967296) [IntKind.i64.wrap (0-n.tmod 4294967296)])),.int .u32 (IntKind.u32.wrap (wR (IntKind.i64.wrap (n.tdiv 4294967296)) [IntKind.i64.wrap (0-IntKind.i64.wrap (n.tdiv 4294967296))]))] aa aa aa aa aa aa aa aa aa ab (λw2 b k2 b2 ho=>wV aa ?_);rw[e1,e2,Ve g1,Ve g2] at ho;refine VO.cI aa aa (fk yG) (λeP fA ft=>mZ (decide (n<0)) _ 2 [n.natAbs%4294967296,n.natAbs/4294967296] eP (Rd.own (Own.kp (cs:=ints .u32 [n.natAbs%4294967296,n.natAbs/4294967296]) ho fA)) (gN.cons g1 (gN.cons g2 (gN.nil _))) ab) (λeP fA ft w3 s3 p3 n3 c3 h3 dZ jm _ bb3=>wV aa ?_);refine ae ?_;refine bl ?_;intro wz kz bz;refine⟨_,aa,aO.cast ((h3.kp kz).mono ft.size) ?_,bz⟩;rw[jD,jD,ij];by_cases hn:n<0
 ·simp only[hn,decide_true,if_true];omega
 ·simp only[hn,decide_false];simp;omega
end
section
open Go.RowKit
def lv (ls:List Nat) (k j:Nat):Nat:=(if 2*j<k then ls.getD (2*j) 0 else 0)+65536*(if 2*j+1<k then ls.getD (2*j+1) 0 else 0)
def Jc (ls:List Nat) (m k:Nat):List Nat:=(List.range m).map (lv ls k)
theorem lds_zero (ls:List Nat) (m:Nat):Jc ls m 0=List.replicate m 0:=by
 apply List.ext_getElem
 ·simp[Jc]
 ·intro i h1 h2;simp[Jc,lv]
variable {ls:List Nat} {m j x:Nat}
theorem lds_even (hx:ls[2*j]? =some x):(Jc ls m (2*j)).set j x=Jc ls m (2*j+1):=by
 apply List.ext_getElem
 ·simp[Jc]
 ·intro i h1 h2;simp only[Jc,List.getElem_set,List.getElem_map,List.getElem_range];by_cases e:j=i
  ·subst e;rw[if_pos rfl];unfold lv;rw[if_pos ab,if_neg ab,rJ,hx];rfl
  ·rw[if_neg e];unfold lv
   congr 1
   ·by_cases h:2*i<2*j
    ·rw[if_pos h,if_pos ab]
    ·rw[if_neg h,if_neg ab]
   ·by_cases h:2*i+1<2*j
    ·rw[if_pos h,if_pos ab]
    ·rw[if_neg h,if_neg ab]
theorem lds_odd {y:Nat} (hy:(Jc ls m (2*j+1))[j]? =some y) (hx:ls[2*j+1]? =some x):(Jc ls m (2*j+1)).set j (y+65536*x)=Jc ls m (2*j+2):=by
 have hy':y=ls.getD (2*j) 0:=by
  obtain⟨h,rfl⟩:=cQ.1 hy;simp only[Jc,List.getElem_map,List.getElem_range];unfold lv;rw[if_pos ab,if_neg ab];rfl
 apply List.ext_getElem
 ·simp[Jc]
 ·intro i h1 h2;simp only[Jc,List.getElem_set,List.getElem_map,List.getElem_range];by_cases e:j=i
  ·subst e;rw[if_pos rfl];unfold lv;rw[if_pos ab,if_pos ab,hy']
   congr 2
   rw[rJ,hx];rfl
  ·rw[if_neg e];unfold lv
   congr 1
   ·by_cases h:2*i<2*j+1
    ·rw[if_pos h,if_pos ab]
    ·rw[if_neg h,if_neg ab]
   ·by_cases h:2*i+1<2*j+1
    ·rw[if_pos h,if_pos ab]
    ·rw[if_neg h,if_neg ab]
theorem lds_end (h:kN ls) (hm:ls.length<=2*m):ay (Jc ls m ls.length)=hval ls/\ez (Jc ls m ls.length):=by
 have hb:∀ k,ls.getD k 0<65536:=λk=>qx h k
 have Nv:∀ j,lv ls ls.length j=ls.getD (2*j) 0+65536*ls.getD (2*j+1) 0:=λj=>by
  unfold lv
  congr 1
  ·split
   ·rfl
   ·rw[mn ab]
  ·split
   ·rfl
   ·rw[mn ab]
 constructor
 ·have key:∀ j,j<=m->ay ((Jc ls m ls.length).take j)=hval (ls.take (2*j)):=by
   intro j
   induction j with
   | zero=>intro _;rfl
   | succ j ih=>
     intro hj;rw[cj,ih ab]
     have e:(Jc ls m ls.length).getD j 0=ls.getD (2*j) 0+65536*ls.getD (2*j+1) 0:=by
      rw[rJ];simp[Jc,show j<m by omega,Nv]
     rw[e];show _=val 65536 (ls.take (2*j+1+1));rw[dK,dK,du,<-gB,iL 65536 (2*j),JV];show val 65536 _+_=_;rw[yB]
  have:=key m (bL _);rw[dP (by simp[Jc]),dP hm] at this;exact this
 ·intro x hx;obtain⟨j,_,rfl⟩:=fv.1 hx;rw[Nv];have:=hb (2*j);have:=hb (2*j+1);omega
def Xd (w:World) (B g m:Nat) (ls:List Nat) (iv:Value) (wr:World):Prop:=
 ∃ k,k<=ls.length/\iv=.int .i64 (k:Int)/\wr.ownsRow B 117 1 (.slice (some ⟨g,0,none⟩) m m) m (ints .u32 (Jc ls m k))/\Below B w wr
set_option maxRecDepth 100000 in
theorem PY (va:Value) (n:Nat) (ls:List Nat) (w:World) (hr:Rd w 1 va n (ints .i64 ls)) (hl:kN ls) (hn:n<=2147483656):
  Calls Tryz.prog 99 #[va] w λe w'=>∃ v' xs,e=.returned v'/\xs.length=(n+1)/2/\w'.ownsRow w.heap.size 117 1 v' ((n+1)/2) (ints .u32 xs)/\ay xs=hval ls/\ez xs/\Below w.heap.size w w':=by
 obtain⟨p,c,rfl,il,iC,ib⟩:=hr.i64;obtain⟨i0,hi,pX,lD,uw⟩:=info_parts og;obtain⟨B,hB⟩:∃ B,B=w.heap.size:=⟨_,aa⟩;have HB:=af hB;have Hr:=af hr;have HL:=af hl;have HX:=af ib;obtain⟨m,hm⟩:∃ m,m=(n+1)/2:=⟨_,aa⟩;have HM:=af hm;have hmn:n<=2*m:=ab;have hmb:m<=1073741828:=ab;have hq:((n:Int)+1)/2=(m:Int):=ab;rw[<-hB,<-hm];clear hr hl ib hB hm;refine bG λR' di=> ?_;go_enter Tryz.func99,Tryz.ntmps99
 go_wp2_with (at_make;refine wpList_make_full _ aa _ _ 22 aa B 117 i0 (.int .u32 0) 1 rL hi pX lD .i64 .i64 _ _ m aa aa hq hq (by rw[uw];omega) (by unfold maxLen;omega) (iM HB.out) ?_;intro w1 aZ Wn)
 have RP:=af (Own.made aZ);have Hb1:Hid (Below B w w1):=(iP _ _).grown Wn (iM HB.out) (λk hk=>by cases hk);clear aZ Wn hq;go_wp2_with fail
 go_loopw [4] (λiv wr=>Xd w B w.heap.size m ls iv wr) (λiv _=>n-(intOf iv).toNat)
 case atStart=>exact⟨0,fH _,aa,by rw[lds_zero];have:=RP.out;rw[ma] at this;exact this,Hb1.out⟩
 case round=>
  obtain⟨k,hk,rfl,aZ,hb⟩:=hrel;have vF:=af aZ;have wD:=af hb;have ux:k<=n:=by rw[<-HX.out];exact hk
  clear aZ hb hk;by_cases hlt:k<n
  ·obtain⟨b1,o1,x,rfl,bA,kF,hcw⟩:=Hr.out.cellAt hlt;have yi:=(wD.out.cell (p:=⟨b1,o1+k,none⟩) (by rw[HB.out];exact bA)).trans hcw;have rk:=HL.out.at kF;have Fu:=af kF;obtain⟨j,hj⟩:∃ j,j=k/2:=⟨_,aa⟩;have hk2:(k:Int)/2=(j:Int):=ab;have hjm:j<m:=ab;obtain⟨z,hz,hcell,Jg⟩:=Own.lC vF.out (j:=j) hjm;have HZ:=af hz;have hw4:(x:Int)%4294967296=(x:Int):=ab;have hj0:(0:Int)<=(j:Int):=ab;have hj1:(j:Int)<(m:Int):=ab;have Di:(0:Int)<=(k:Int):=ab;have Hd:(k:Int)<(n:Int):=ab;by_cases he:k%2=0
   ·have hke:((k:Int)%2 == 0)=true:=by rw[beq_iff_eq];omega
    have HK:Hid (k=2*j):=by show _=_;omega
    clear kF hcw he hj hz;go_wp2_with fail
    go_roundw
    case rel=>
     refine⟨k+1,by rw[HX.out];omega,by go_num,?_,wD.out.setCell (Own.lt vF.out).1 _⟩;have h1:=Own.kE (j:=j) (x:=x) vF.out;rw[HK.out,lds_even (by rw[<-HK.out];exact Fu.out)] at h1;rw[HK.out];simpa using h1
    case measure=>simp[intOf];omega
   ·have hke:((k:Int)%2 == 0)=false:=by rw[iZ];omega
    have HK:Hid (k=2*j+1):=by show _=_;omega
    have hz4:z<65536:=by
     have:=HZ.out;rw[HK.out] at this;obtain⟨h,rfl⟩:=cQ.1 this;simp only[Jc,List.getElem_map,List.getElem_range];unfold lv;rw[if_pos ab,if_neg ab];exact qx HL.out _
    have hw5:IntKind.u32.wrap (z+IntKind.u32.wrap (65536*(x:Int)))=((z+65536*x:Nat):Int):=by
     rw[Uo,Uo];omega
    clear kF hcw he hj hz;go_wp2
    go_region
    all_goals
     go_wp2_with fail
     go_roundw
     case rel=>
      refine⟨k+1,by rw[HX.out];omega,by go_num,?_,(wD.out.setCell (Own.lt vF.out).1 _).drew⟩;have h1:=Own.kE (j:=j) (x:=z+65536*x) vF.out;rw[HK.out,lds_odd (by have:=HZ.out;rw[HK.out] at this;exact this) (by rw[<-HK.out];exact Fu.out)] at h1;rw[HK.out];have h2:(((z+65536*x:Nat):Int))=(z:Int)+65536*(x:Int):=ab;rw[h2] at h1;exact h1
     case measure=>simp[intOf];omega
  ·obtain rfl:k=n:=by omega
   obtain⟨e1,e2⟩:=lds_end HL.out (m:=m) (by rw[HX.out];exact hmn);rw[HX.out] at e1 e2;have E1:=af e1;have E2:=af e2;clear e1 e2;go_wp2_with fail
   exact di.out _ _ ⟨_,_,aa,by simp[Jc],vF.out,E1.out,E2.out,wD.out⟩
end
section
open Go.RowKit
variable {xs:List Nat} {B j:Nat}
theorem val_set {o v:Nat} (h:xs[j]? =some o):val B (xs.set j v)+B^j*o=val B xs+B^j*v:=by
 obtain⟨hl,he⟩:=cQ.1 h;have h1:xs=xs.take j++o::xs.drop (j+1):=by rw[<-he,<-mG hl,qB]
 have h2:xs.set j v=xs.take j++v::xs.drop (j+1):=by
  conv=>lhs;rw[h1]
  rw[zZ _ _ (by rw[cM];omega)];rw[cM,ig ab,rR];rfl
 have e1:val B xs=val B (xs.take j)+B^j*(o+B*val B (xs.drop (j+1))):=by
  conv=>lhs;rw[h1]
  rw[nQ,cM,ig ab,lB]
 have e2:val B (xs.set j v)=val B (xs.take j)+B^j*(v+B*val B (xs.drop (j+1))):=by
  rw[h2,nQ,cM,ig ab,lB]
 rw[e1,e2,du,du];omega
theorem kN.set (h:kN xs) {v:Nat} (hv:v<65536) (j:Nat):kN (xs.set j v):=λy hy=>by
 rcases yv hy with h1|h1
 ·exact h y h1
 ·rw[h1];exact hv
variable {i x c:Nat}
theorem Be {os:List Nat} {k y o s S Y:Nat} (ho:os[i+k]? =some o) (hs:s=x*y+o+c) (h:hval os+65536^(i+k)*c=S+65536^i*(x*Y)):
  hval (os.set (i+k) (s%65536))+65536^(i+(k+1))*(s/65536)=S+65536^i*(x*(Y+65536^k*y)):=by
 have h1:hval (os.set (i+k) (s%65536))+65536^(i+k)*o=hval os+65536^(i+k)*(s%65536):=val_set ho;have h2:65536^(i+(k+1))=65536^(i+k)*65536:=by rw[<-yB,iL]
 have h3:65536^(i+k)*s=65536^(i+k)*(s%65536)+65536^(i+k)*65536*(s/65536):=by
  rw[gB,<-du,Ad]
 have h4:65536^(i+k)*s=65536^(i+k)*(x*y)+65536^(i+k)*o+65536^(i+k)*c:=by rw[hs,du,du]
 have h5:65536^i*(x*(Y+65536^k*y))=65536^i*(x*Y)+65536^(i+k)*(x*y):=by
  rw[du,du,oB]
  congr 1
  rw[JO x,gB]
 rw[h2,h5];omega
def iv (xs:List Nat):List AV:=(ints .i64 xs).map .val
theorem dT (xs:List Nat):(iv xs).length=xs.length:=by simp[iv]
theorem iv_get (h:xs[j]? =some x):(iv xs)[j]? =some (.val (.int .i64 (x:Int))):=by
 unfold iv;rw[nJ,Ap h];rfl
theorem xR (xs ys:List Nat):iv (xs++ys)=iv xs++iv ys:=by simp[iv,me]
theorem tJ (xs:List Nat):(iv xs).all aY=true:=bP (bR.2 λu hu=>by obtain⟨_,_,rfl⟩:=fv.1 hu;rfl)
theorem Vf (xs:List Nat):(ints .i64 xs).all bD=true:=bR.2 λu hu=>by obtain⟨_,_,rfl⟩:=fv.1 hu;rfl
theorem de (xs:List Nat):aI (iv xs)=[]:=aw _
theorem Ho:∀ n:Nat,pD n [.val (.int .i64 0)]=iv (List.replicate n 0)
 | 0=>rfl
 | n+1=>by rw[pD,Ho n,List.replicate_succ];rfl
variable {spare:List AV}
theorem iv_peek {o:Nat} (h:xs[j]? =some x) (ho:o=j):∀ i u,[AV.val (.int .i64 (x:Int))][i]? =some u->(iv xs++spare)[o+i]? =some u:=by
 subst ho;intro i u hu;cases i with
 | zero=>
   cases hu;have hl:=(cQ.1 (iv_get h)).1;rw[pO,gm hl,iv_get h]
 | succ i=>cases hu
theorem Bf {o:Nat} (h:xs[j]? =some x) (ho:o=j):∀ i u,[AV.val (.int .i64 (x:Int))][i]? =some u->(iv xs)[o+i]? =some u:=by
 have:=iv_peek (spare:=[]) h ho;simpa using this
theorem FL {o:Nat} (h:j<xs.length) (ho:o=j):(iv xs).take o++([AV.val (.int .i64 (x:Int))]++(iv xs).drop (o+1))=iv (xs.set j x):=by
 subst ho;have:iv (xs.set o x)=(iv xs).set o (.val (.int .i64 (x:Int))):=by simp[iv,<-ints_set,List.map_set]
 rw[this,YE,if_pos (by rw[dT];exact h)];rfl
variable {C:Cx} {β:Nat->Nat} {t:TypeId} {w:World}
theorem si {n:Nat} (h:oK C β w i t (iv xs++spare)) (hn:xs.length=n) (il:n<=c) (iC:c<=maxLen):Rd w 1 (.slice (some ⟨β i,0,none⟩) n c) n (ints .i64 xs):=by
 refine⟨_,c,aa,il,iC,by simp[hn],λ_=>⟨_,_,rfl,λj u hj=> ?_⟩⟩;have hl:=(cQ.1 hj).1;refine h.cls.cell ?_;rw[jt];simp only[List.map_append,List.getElem?_toArray];rw[gm (by simpa [iv] using hl)];unfold iv;rw[ak];exact hj
def iT (w:World) (B:Nat) (v:Value) (n:Nat) (xs:List Nat):Prop:=
 xs.length=n/\((v=.slice none 0 0/\n=0)\/∃ b c spare,v=.slice (some ⟨b,0,none⟩) n c/\B<=b/\bO w b 3 (ints .i64 xs++spare).toArray/\n<=c/\c<=maxLen/\n+spare.length=c/\spare.all bD=true)
theorem iT.own {v:Value} {n:Nat} (h:iT w B v n xs):w.ownsRow B 3 1 v n (ints .i64 xs):=by
 obtain⟨hn,⟨rfl,rfl⟩|⟨b,c,spare,rfl,hB,hc,h1,h2,h3,_⟩⟩:=h
 ·rw[js hn];exact qF _ _ _ _
 ·refine⟨by simp[hn],.inr ⟨b,c,_,rfl,hB,hc,h1,h2,by simp[hn,h3],?_⟩⟩;rw[YH (by simp[hn]),dP (by simp[hn])]
theorem iT.new {v:Value} {n:Nat} (h:iT w B v n xs):ZL C 3 1 B w v n (ints .i64 xs):=by
 obtain⟨hn,⟨rfl,rfl⟩|⟨b,c,spare,rfl,hB,hc,h1,h2,h3,h4⟩⟩:=h
 ·exact .inl ⟨aa,aa,by rw[js hn];rfl⟩
 ·exact .inr ⟨b,c,spare,aa,hB,hc,Vf xs,h4,h1,by simpa [maxLen] using h2,by simp;omega⟩
theorem iT.nil (w:World) (B:Nat):iT w B (.slice none 0 0) 0 []:=⟨rfl,.inl ⟨rfl,rfl⟩⟩
variable {m:Nat}
theorem xh {n:Nat} (h:oK C β w i 3 (iv xs++spare)) (hn:xs.length=n) (hm:m<=n) (il:n<=c) (iC:c<=maxLen) (hl:xs.length+spare.length=c) (hnw:∀ i g,C.GO i g->C.w0.heap.size<=g:=by exact λ_ _ h=>h):
  iT w C.w0.heap.size (.slice (some ⟨β i,0,none⟩) m c) m (xs.take m):=by
 refine⟨by rw[cM];omega,.inr ⟨β i,c,ints .i64 (xs.drop m)++spare.map (AV.leaf β),rfl,hnw _ _ h.new,?_,ab,iC,by simp;omega,?_⟩⟩
 ·have:=h.cls;rw[bC] at this;unfold iv at this;rw[ak] at this;rw[<-fu,<-me,qB];exact this
 ·have hk:=h.ok;rw[ja,gf] at hk;rw[ja,Vf,eN hk.2];rfl
variable {cs:List AV}
theorem eH {news rest:List AV} (h:oK C β w i t cs) (e:cs=news++rest):∀ j u,(news.map (AV.leaf β))[j]? =some u->w.cell? ⟨β i,0+j,none⟩=some u:=by
 intro j u hj;have hl:=(cQ.1 hj).1;refine h.cls.cell ?_;rw[e,jt,bC];simp only[List.getElem?_toArray];rw[gm hl];exact hj
theorem ee (h:aI cs=[]) (i:Nat) (ρ:AV->Value):cs.map (AV.zT i ρ)=cs:=by
 induction cs with
 | nil=>rfl
 | cons x r ih=>
   rw[aI,List.append_eq_nil_iff] at h;rw[rQ,ih h.2];have:x.zT i ρ=x:=by unfold AV.zT;rw[h.1];rfl
   rw[this]
theorem fgl_iv (i:Nat) (ρ:AV->Value) (xs:List Nat):(iv xs).map (AV.zT i ρ)=iv xs:=ee (de xs) i ρ
theorem FM {n:Nat} (h:halves (hval xs)=xs.take m) (hm:m<=n) (hn:xs.length=n):m=(halves (hval xs)).length:=by rw[h,cM];omega
end
set_option maxRecDepth 4000
section
open Go.RowKit
attribute [local irreducible] aG VS
variable {w:World}
theorem pU {b off k:Nat} {u:Value} {z:Int} (hz:z=(k:Int)) (h:w.cell? ⟨b,off+k,none⟩=some u):∀ j v,[u][j]? =some v->w.cell? ((⟨b,off+z.toNat*1,none⟩:Addr).add j)=some v:=by
 subst hz;intro j v hj;rw[ju,dC,yD];cases j with
 | zero=>cases hj;exact h
 | succ j=>cases hj
variable {os xs ys:List Nat} {i x:Nat}
theorem Xe {k:Nat} (hx:xs[i]? =some x) (hk:ys.length<=k) (h:hval os+65536^(i+k)*0=hval (xs.take i)*hval ys+65536^i*(x*hval (ys.take k))):hval os=hval (xs.take (i+1))*hval ys:=by
 have e:hval (xs.take (i+1))=hval (xs.take i)+65536^i*x:=by
  rw[dk hx,qw,cM,ig (by have:=(cQ.1 hx).1;omega)]
 rw[rS,pO,dP hk] at h;rw[e,fG,h,gB]
variable {c:Nat}
theorem SJ {k n m:Nat} (hxh:kN xs) (hyh:kN ys) (hx:xs[i]? =some x) (hn:xs.length=n) (hm:ys.length=m) (hk:m<=k) (hc:0<c) (h:hval os+65536^(i+k)*c=hval (xs.take i)*hval ys+65536^i*(x*hval (ys.take k))):i+k<n+m+1:=by
 have hi:=(cQ.1 hx).1
 have e:hval (xs.take (i+1))=hval (xs.take i)+65536^i*x:=by
  rw[dk hx,qw,cM,ig ab]
 have e3:ys.take k=ys:=dP ab
 have e2:hval os+65536^(i+k)*c=hval (xs.take (i+1))*hval ys:=by
  rw[e,fG,h,e3,gB]
 have b1:hval (xs.take (i+1))<65536^(i+1):=by
  have:=Ba (xs:=xs.take (i+1)) (gN.take hxh _)
  rwa [cM,ig ab] at this
 have b2:hval ys<65536^m:=by have:=Ba hyh;rwa [hm] at this
 have b3:hval (xs.take (i+1))*hval ys<65536^(i+1+m):=by
  rw[oB];exact Nat.mul_lt_mul'' b1 b2
 have b4:65536^(i+k)<=65536^(i+k)*c:=Uc _ hc;have:65536^(i+k)<65536^(i+1+m):=ab;have:=(Nat.pow_lt_pow_iff_right (show 1<65536 by omega)).1 this;omega
theorem SK {y o:Nat} (hx:x<65536) (hy:y<65536) (ho:o<65536) (hc:c<65536):x*y+o+c<4294967296:=by
 have h1:x*y<=65535*65535:=vx ab ab;omega
variable {P:Prop}
theorem cA (h:P:=by (repeat first|exact ag|refine⟨rfl,?_⟩)):P:=h
theorem dQ {A B:Prop} (h:A/\B:=by constructor <;> omega):A/\B:=h
theorem DB (va vb:Value) (n m:Nat) (xs ys:List Nat) (w:World) (hr:Rd w 1 va n (ints .i64 xs)) (hs:Rd w 1 vb m (ints .i64 ys)) (hx:kN xs) (hy:kN ys) (hn:n<=2147483656) (hm:m<=2147483656):
  Calls Tryz.prog 100 #[va,vb] w λe w'=>∃ v',e=.returned v'/\iT w' w.heap.size v' (halves (hval xs*hval ys)).length (halves (hval xs*hval ys))/\aU w w':=by
 obtain⟨p,c,rfl,il,iC,ib⟩:=hr.i64;obtain⟨q,d,rfl,Wp,Rl,rZ⟩:=hs.i64;obtain⟨N,hN⟩:∃ N,N=n+m+1:=⟨_,aa⟩
 have hwN:IntKind.i64.wrap (IntKind.i64.wrap ((n:Int)+(m:Int))+1)=(N:Int):=by
  rw[cV ((n:Int)+(m:Int)) ab,cV _ ab];omega
 refine ah (C:=cH Tryz.prog w _) (args:=[_,_]) Tryz.func100 aa Tryz.ntmps100 (bM aa) ?_;refine ae ?_;refine VO.fix 15 aa (au (λz=>AV.val (.int .i64 z)) hwN) ?_;refine VO.cond aa ⟨aa,ab,by show (N:Int)*(24*1)<=_;omega⟩ (VO.fi 16 aa (Ho _) (wV aa ?_));rw[dC];refine ae ?_
 refine VS.loop (J:=λms L M w'=>∃ (i:Nat) (os:List Nat),i<=n/\ms=n-i/\L=[(0,.val (.slice p n c)),(1,.val (.slice q m d)),(5,.row 16 0 N N),(6,.val (.int .i64 (i:Int)))]/\M=[(16,(3,iv os))]/\
  os.length=N/\kN os/\hval os=hval (xs.take i)*hval ys) n ⟨_,_,?_,?_,?_,?_,⟨0,List.replicate N 0,ab,ab,rfl,rfl,bN,gN.replicate ab _,by rw[yA];show val 65536 _=val 65536 []*_;rw[lR,val_nil,JU]⟩⟩ ?_
 ·exact cA
 ·exact cA
 ·rfl
 ·exact⟨.none (de _),ag⟩
 rintro ms L M w' ⟨i,os,hi,rfl,rfl,rfl,hol,hoh,hov⟩;refine ae ?_;by_cases xJ:i<n
 ·refine VS.aV aa (aE (aQ.2 xJ)) ?_;refine ae ?_;obtain⟨b1,o1,x,rfl,bA,kF,yi⟩:=hr.cellAt xJ;have rk:=hx.at kF
  refine VS.loop (J:=λms L M w'=>∃ (k c':Nat) (os':List Nat),ms=N-(i+k)/\L=[(0,.val (.slice (some ⟨b1,o1,none⟩) n c)),(1,.val (.slice q m d)),(5,.row 16 0 N N),(6,.val (.int .i64 (i:Int))),(7,.val (.int .i64 (c':Int))),(8,.val (.int .i64 (k:Int)))]/\M=[(16,(3,iv os'))]/\
   os'.length=N/\kN os'/\c' <65536/\k<=N/\hval os' +65536^(i+k)*c'=hval (xs.take i)*hval ys+65536^i*(x*hval (ys.take k))) (N-i) ⟨_,_,?_,?_,?_,?_,⟨0,0,os,ab,rfl,rfl,hol,hoh,ab,ab,by rw[yA,rS,hov];show _=_+65536^i*(x*0);simp⟩⟩ ?_
  ·exact cA
  ·exact cA
  ·rfl
  ·exact⟨.none (de _),ag⟩
  rintro ms L M w'' ⟨k,c',os',rfl,rfl,rfl,hol',hoh',hc',hkN,hv⟩;refine ae ?_;have step:∀ (hik:i+k<N),True:=λ_=>trivial;by_cases hgo:k<m\/0<c'
  ·have hik:i+k<N:=by
    rcases vA k m with e|e
    ·omega
    ·rw[hN];exact SJ hx hy kF ib rZ e ab hv
   obtain⟨o,ho⟩:∃ o,os'[i+k]? =some o:=⟨_,ba ab⟩;have ho4:=hoh'.at ho;have Wx:IntKind.i64.wrap ((i:Int)+(k:Int))=((i+k:Nat):Int):=by rw[cV _ ab];omega
   have hwk1:IntKind.i64.wrap ((k:Int)+1)=((k+1:Nat):Int):=by rw[cV _ ab];omega
   have hwoc:IntKind.i64.wrap ((o:Int)+(c':Int))=((o+c':Nat):Int):=by rw[cV _ ab];omega
   by_cases RQ:k<m
   ·obtain⟨b2,o2,y,rfl,cC,vE,OA⟩:=hs.cellAt RQ;have Kd:=hy.at vE;have xK:=SK rk Kd ho4 hc';obtain⟨s,hsd⟩:∃ s,s=x*y+o+c':=⟨_,aa⟩;have Uu:(x:Int)*(y:Int)=((x*y:Nat):Int):=bN
    have hws:IntKind.i64.wrap (IntKind.i64.wrap ((o:Int)+(c':Int))+IntKind.i64.wrap ((x:Int)*(y:Int)))=(s:Int):=by
     rw[hwoc,Uu,cV ((x*y:Nat):Int) ab,cV _ ab];omega
    have hst:=Be ho hsd hv
    have hyt:hval (ys.take (k+1))=hval (ys.take k)+65536^k*y:=by
     rw[dk vE,qw,cM,ig (by have:=(cQ.1 vE).1;omega)]
    rw[<-hyt] at hst
    have hwc:IntKind.i64.wrap ((s:Int).tdiv 65536)=((s/65536:Nat):Int):=by
     rw[Gc ab,cV _ ab];simp
    have hwm:(s:Int).tmod 65536=((s%65536:Nat):Int):=by rw[Oh ab];simp
    refine VO.fix 27 aa (au (λb=>AV.val (.bool b)) (aE (aQ.2 RQ))) ?_;refine ae ?_;refine VO.fix 36 aa (au (λz=>AV.val (.int .i64 z)) Wx) ?_;refine VO.cond aa dQ (wV aa ?_);refine VO.dY aa [.val (.int .i64 (o:Int))] aa (Bf ho (by rw[dC];omega)) (wV aa ?_);refine ae ?_;refine VS.aV aa (aE (aQ.2 RQ)) ?_;refine ae ?_;refine VO.cond aa dQ (wV aa ?_);refine VO.read aa [.int .i64 (x:Int)] aa (pU aa yi) (wV aa ?_);refine VO.cond aa dQ (wV aa ?_);refine VO.read aa [.int .i64 (y:Int)] aa (pU aa OA) (wV aa ?_);refine ae ?_;refine VO.fix 59 aa (au (λz=>AV.val (.int .i64 z)) Wx) ?_;refine VO.fix 61 aa (au (λz=>AV.val (.int .i64 z)) (by rw[hws,hwm])) ?_;refine VO.cond aa dQ (wV aa ?_);refine VO.cond aa (by show 0+((i+k:Nat):Int).toNat*1+1<=_;rw[dC,dT];omega) (wV aa ?_);refine ae ?_;refine VS.back (N-(i+(k+1))) ab ⟨_,_,?_,?_,?_,?_,⟨k+1,s/65536,os'.set (i+k) (s%65536),aa,aa,aa,by simp[hol'],hoh'.set (gC _ ab) _,ab,ab,hst⟩⟩
    ·refine⟨aa,aa,aa,aa,au (λz=>some (AV.val (.int .i64 z))) (by rw[hws,hwc]),au (λz=>some (AV.val (.int .i64 z))) hwk1,ag⟩
    ·exact⟨au (λl=>some (_,l)) (FL ab (by rw[dC];omega)),ag⟩
    ·rfl
    ·exact⟨.none (de _),ag⟩
   ·have Vb:0<c':=by omega
    obtain⟨s,hsd⟩:∃ s,s=x*0+o+c':=⟨_,aa⟩;have hws:IntKind.i64.wrap ((o:Int)+(c':Int))=(s:Int):=by rw[hwoc];omega
    have hst:=Be ho hsd hv;have hyt:hval (ys.take k)+65536^k*0=hval (ys.take (k+1)):=by rw[dP ab,dP ab];rfl
    rw[hyt] at hst
    have hwc:IntKind.i64.wrap ((s:Int).tdiv 65536)=((s/65536:Nat):Int):=by
     rw[Gc ab,cV _ ab];simp
    have hwm:(s:Int).tmod 65536=((s%65536:Nat):Int):=by rw[Oh ab];simp
    refine VO.fix 27 aa (au (λb=>AV.val (.bool b)) (aA (λe=>RQ (aQ.1 e)))) ?_;refine ae ?_;refine VS.aV aa (aE ab) ?_;refine ae ?_;refine VO.fix 36 aa (au (λz=>AV.val (.int .i64 z)) Wx) ?_;refine VO.cond aa dQ (wV aa ?_);refine VO.dY aa [.val (.int .i64 (o:Int))] aa (Bf ho (by rw[dC];omega)) (wV aa ?_);refine ae ?_;refine VS.aP aa (aA (λe=>RQ (aQ.1 e))) ?_;refine ae ?_;refine VO.fix 59 aa (au (λz=>AV.val (.int .i64 z)) Wx) ?_;refine VO.fix 61 aa (au (λz=>AV.val (.int .i64 z)) (by rw[hws,hwm])) ?_;refine VO.cond aa dQ (wV aa ?_);refine VO.cond aa (by show 0+((i+k:Nat):Int).toNat*1+1<=_;rw[dC,dT];omega) (wV aa ?_);refine ae ?_;refine VS.back (N-(i+(k+1))) ab ⟨_,_,?_,?_,?_,?_,⟨k+1,s/65536,os'.set (i+k) (s%65536),aa,aa,aa,by simp[hol'],hoh'.set (gC _ ab) _,ab,ab,hst⟩⟩
    ·refine⟨aa,aa,aa,aa,au (λz=>some (AV.val (.int .i64 z))) (by rw[hws,hwc]),au (λz=>some (AV.val (.int .i64 z))) hwk1,ag⟩
    ·exact⟨au (λl=>some (_,l)) (FL ab (by rw[dC];omega)),ag⟩
    ·rfl
    ·exact⟨.none (de _),ag⟩
  ·have RQ:¬ (k<m):=by omega
   have Vb:c'=0:=ab;subst Vb;refine VO.fix 27 aa (au (λb=>AV.val (.bool b)) (aA (λe=>RQ (aQ.1 e)))) ?_;refine ae ?_;have Jo:IntKind.i64.wrap ((i:Int)+1)=((i+1:Nat):Int):=by rw[cV _ ab];omega
   refine VS.back (n-(i+1)) ab ⟨_,_,?_,?_,?_,?_,⟨i+1,os',ab,aa,aa,aa,hol',hoh',Xe kF ab hv⟩⟩
   ·exact⟨aa,aa,aa,au (λz=>some (AV.val (.int .i64 z))) Jo,ag⟩
   ·exact cA
   ·rfl
   ·exact⟨.none (de _),ag⟩
 ·obtain rfl:i=n:=by omega
  refine VS.aP aa (aA (λe=>xJ (aQ.1 e))) ?_;refine ae ?_;rw[dP ab] at hov;refine VO.KG aa (fk CY) (λw1 β k1 b1 ho=>(mo (some ⟨β 16,0,none⟩) N N os w1 (si (spare:=[]) (by rw[gA];exact ho.own 16 (.base (aJ.2 aa)) _ _ aa) hol (bL _) (by simp only[maxLen];omega)) hoh).mono ?_);rintro e w2 ⟨⟨mm,GK,rfl,hcut⟩,rfl⟩;refine⟨.row 16 0 mm N,aa,λi hi=>⟨hi,by cases aJ.1 hi;exact JK _⟩,aU.refl _,λk2 _ b2=>wV aa ?_⟩;refine ae ?_;refine VS.pG (dD _ _) aa (λwz β kz bz he=> ?_);have yO:=FM hcut GK hol;rw[hov] at hcut yO;refine⟨_,aa,?_,bz⟩;have:=xh (spare:=[]) (by rw[gA];exact he.own 16 _ _ aa) hol GK (bL _) (by simp only[maxLen];omega) (by simpa using hol);rw[<-hcut] at this;show iT wz w.heap.size (.slice (some ⟨β 16,0,none⟩) mm N) _ _;rw[<-yO];exact this
set_option maxRecDepth 4000
variable {A B:Nat}
theorem yU (h:(halves A).length<(halves B).length):A<B:=by
 rcases vA A B with e|e
 ·exact e
 ·have:(halves B).length<=(halves A).length:=fM ab e;omega
theorem yV {k a b:Nat} (ha:(halves A)[k]? =some a) (hb:(halves B)[k]? =some b) (Dd:a<b) (hh:(halves A).drop (k+1)=(halves B).drop (k+1)):A<B:=by
 have:=qJ (B:=65536) (dv A) ha hb Dd hh;have e1:val 65536 (halves A)=A:=cf A;have e2:val 65536 (halves B)=B:=cf B;omega
theorem Xf {k:Nat} (hx:xs[k]? =some x) (hy:ys[k]? =some x) (h:xs.drop (k+1)=ys.drop (k+1)):xs.drop k=ys.drop k:=by
 obtain⟨l1,e1⟩:=cQ.1 hx;obtain⟨l2,e2⟩:=cQ.1 hy;rw[mG l1,mG l2,e1,e2,h]
theorem SL (va vb:Value) (n m A B:Nat) (w:World) (hr:Rd w 1 va n (ints .i64 (halves A))) (hs:Rd w 1 vb m (ints .i64 (halves B))):
  Calls Tryz.prog 148 #[va,vb] w λe w'=>e=.returned (.bool (decide (A<B)))/\aU w w':=by
 obtain⟨p,c,rfl,il,iC,ib⟩:=hr.i64;obtain⟨q,d,rfl,Wp,Rl,rZ⟩:=hs.i64;refine ah (C:=cH Tryz.prog w _) (args:=[_,_]) Tryz.func148 aa Tryz.ntmps148 (bM aa) ?_;refine ae ?_;by_cases FI:n=m
 ·subst FI;refine VS.aP aa bN ?_;refine ae ?_;have hw0:IntKind.i64.wrap ((n:Int)-1)=(n:Int)-1:=cV _ ab;refine VS.loop (J:=λms L M w'=>∃ (k:Nat),k<=n/\ms=k/\L=[(0,.val (.slice p n c)),(1,.val (.slice q n d)),(5,.val (.int .i64 ((k:Int)-1)))]/\M=[]/\(halves A).drop k=(halves B).drop k) n ⟨_,_,?_,?_,?_,?_,⟨n,bL _,aa,aa,aa,by rw[ly ab,ly ab]⟩⟩ ?_
  ·exact⟨aa,aa,au (λz=>some (AV.val (.int .i64 z))) hw0,ag⟩
  ·exact cA
  ·rfl
  ·exact ag
  rintro ms L M w' ⟨k,hk,hms,rfl,rfl,hd⟩;refine ae ?_;by_cases Di:k=0
  ·subst Di;refine VS.aP aa (aA ab) ?_;refine ae ?_;refine bl ?_;intro wz kz bz;have:A=B:=SC (by simpa using hd);exact⟨by rw[this,aA (Nat.lt_irrefl _)];rfl,bz⟩
  ·obtain⟨j,rfl⟩:∃ j,k=j+1:=⟨k-1,ab⟩;have hj:((j+1:Nat):Int)-1=(j:Int):=ab;refine VS.aV aa (aE ab) ?_;refine VS.fix 5 aa (au (λz=>AV.val (.int .i64 z)) hj) ?_;refine ae ?_;obtain⟨b1,o1,x,rfl,bA,kF,yi⟩:=hr.cellAt (show j<n by omega);obtain⟨b2,o2,y,rfl,cC,vE,OA⟩:=hs.cellAt (show j<n by omega);refine VO.cond aa dQ (wV aa ?_);refine VO.read aa [.int .i64 (x:Int)] aa (pU aa yi) (wV aa ?_);refine VO.cond aa dQ (wV aa ?_);refine VO.read aa [.int .i64 (y:Int)] aa (pU aa OA) (wV aa ?_);refine ae ?_;by_cases Uu:x=y
   ·subst Uu;refine VS.aP aa bN ?_;refine ae ?_;have xH:IntKind.i64.wrap ((j:Int)-1)=(j:Int)-1:=cV _ ab;refine VS.back j ab ⟨_,_,?_,?_,?_,?_,⟨j,ab,aa,aa,aa,Xf kF vE hd⟩⟩
    ·exact⟨aa,aa,au (λz=>some (AV.val (.int .i64 z))) xH,ag⟩
    ·exact cA
    ·rfl
    ·exact ag
   ·refine VS.aV aa (by rw[bne_iff_ne];omega) ?_;refine ae ?_;refine VO.cond aa dQ (wV aa ?_);refine VO.read aa [.int .i64 (x:Int)] aa (pU aa yi) (wV aa ?_);refine VO.cond aa dQ (wV aa ?_);refine VO.read aa [.int .i64 (y:Int)] aa (pU aa OA) (wV aa ?_);refine ae ?_;refine bl ?_;intro wz kz bz;refine⟨?_,bz⟩;rcases Nat.lt_or_gt_of_ne Uu with e|e
    ·rw[aE (yV kF vE e hd)];exact au (λb=>Ending.returned (.bool b)) (aE (aQ.2 e))
    ·have:=yV vE kF e hd.symm;have hAB:decide (A<B)=false:=aA ab;rw[hAB];exact au (λb=>Ending.returned (.bool b)) (aA ab)
 ·refine VS.aV aa (by rw[bne_iff_ne];omega) ?_;refine ae ?_;refine bl ?_;intro wz kz bz;refine⟨?_,bz⟩;rcases Nat.lt_or_gt_of_ne FI with e|e
  ·rw[aE (yU ab)];exact au (λb=>Ending.returned (.bool b)) (aE (aQ.2 e))
  ·have:=yU (A:=B) (B:=A) ab;have hAB:decide (A<B)=false:=aA ab;rw[hAB];exact au (λb=>Ending.returned (.bool b)) (aA ab)
variable {ds us bs:List Nat} {t br:Nat}
theorem Xg {a b d vY:Nat} (hl:ds.length=i) (ha:us.getD i 0=a) (hb:bs.getD i 0=b) (hs:d+(t*b+br)=a+65536*vY)
  (h:hval ds+t*hval (bs.take i)=hval (us.take i)+65536^i*br):hval (ds++[d])+t*hval (bs.take (i+1))=hval (us.take (i+1))+65536^(i+1)*vY:=by
 have e1:hval (us.take (i+1))=hval (us.take i)+65536^i*a:=by rw[<-ha];exact dK _ _ _
 have e2:hval (bs.take (i+1))=hval (bs.take i)+65536^i*b:=by rw[<-hb];exact dK _ _ _
 have e3:65536^i*d+(65536^i*(t*b)+65536^i*br)=65536^i*a+65536^i*(65536*vY):=by rw[<-du,<-du,hs,du]
 have e4:t*(65536^i*b)=65536^i*(t*b):=JO _ _ _;rw[qw,hl,e1,e2,du t,e4,iL,gB];omega
theorem take_end {n:Nat} (hh:kN ds) (hl:ds.length=n) (ha:us.length=n) (hle:t*hval bs<=hval us) (hb:t=0\/bs.length<=n)
  (h:hval ds+t*hval (bs.take n)=hval (us.take n)+65536^n*br):hval ds=hval us-t*hval bs:=by
 have e1:us.take n=us:=dP ab
 have e2:t*hval (bs.take n)=t*hval bs:=by
  rcases hb with e|e
  ·rw[e,JU,JU]
  ·rw[dP e]
 rw[e1,e2] at h;have hlt:=Ba hh;rw[hl] at hlt
 have:br=0:=by
  rcases rK br with e|e
  ·exact e
  ·have:=Uc (65536^n) e;omega
 rw[this,rS] at h;omega
def RowAt (d:Nat) (xs:List Nat) (v:AV) (M:List (Nat×(TypeId×List AV))):Prop:=
 (xs=[]/\v=.val (.slice none 0 0)/\M=[])\/∃ cap spare,v=.row d 0 xs.length cap/\M=[(d,(3,iv xs++spare))]/\xs.length<=cap/\cap<=9223372036854775807/\xs.length+spare.length=cap/\spare.all aY=true/\aI spare=[]
theorem Hq (va vb:Value) (n m t A B:Nat) (w:World) (hr:Rd w 1 va n (ints .i64 (halves A))) (hs:Rd w 1 vb m (ints .i64 (halves B))) (ht:t<65536) (hle:t*B<=A) (hn:n<=2147483656):
  Calls Tryz.prog 137 #[va,vb,.int .i64 (t:Int)] w λe w'=>∃ v',e=.returned v'/\iT w' w.heap.size v' (halves (A-t*B)).length (halves (A-t*B))/\aU w w':=by
 obtain⟨p,c,rfl,il,iC,ib⟩:=hr.i64;obtain⟨q,d,rfl,Wp,Rl,rZ⟩:=hs.i64;refine ah (C:=cH Tryz.prog w _) (args:=[_,_,_]) Tryz.func137 aa Tryz.ntmps137 (bM aa) ?_;refine ae ?_
 refine VS.loop (J:=λms L M w'=>∃ (i br:Nat) (ds:List Nat) (v:AV),i<=n/\ms=n-i/\L=[(0,.val (.slice p n c)),(1,.val (.slice q m d)),(2,.val (.int .i64 (t:Int))),(7,v),(8,.val (.int .i64 (br:Int))),(9,.val (.int .i64 (i:Int)))]/\
  RowAt 47 ds v M/\ds.length=i/\kN ds/\br<=t/\hval ds+t*hval ((halves B).take i)=hval ((halves A).take i)+65536^i*br) n ⟨_,_,?_,?_,?_,?_,⟨0,0,[],.val (.slice none 0 0),ab,ab,rfl,.inl ⟨rfl,rfl,rfl⟩,rfl,gN.nil _,ab,by simp[hval,val]⟩⟩ ?_
 ·exact cA
 ·exact cA
 ·rfl
 ·exact ag
 rintro ms L M w' ⟨i,br,ds,v,hi,rfl,rfl,jx,mD,hdh,hbr,hv⟩;by_cases xJ:i<n
 ·obtain⟨b1,o1,x,rfl,bA,kF,yi⟩:=hr.cellAt xJ;have rk:=(dv A).at kF;have hxg:(halves A).getD i 0=x:=by rw[rJ,kF];rfl
  obtain⟨y,hyg⟩:∃ y,(halves B).getD i 0=y:=⟨_,aa⟩;have Kd:y<65536:=hyg▸qx (dv B) i;have hty:t*y<=65535*65535:=vx ab ab;obtain⟨X,hX⟩:∃ X:Int,X=(x:Int)-br-(t*y:Nat):=⟨_,aa⟩
  obtain⟨vY,uO⟩:∃ vY:Nat,(vY:Int)=(if X<0 then (65535-X)/65536 else 0)/\vY<=t:=by
   by_cases h0:X<0
   ·refine⟨((65535-X)/65536).toNat,by rw[if_pos h0];omega,?_⟩;have:t*y<=t*65535:=kS _ ab;omega
   ·exact⟨0,by rw[if_neg h0];rfl,ab⟩
  obtain⟨dg,Yt⟩:∃ dg:Nat,(dg:Int)=X+65536*vY/\dg<65536:=by
   refine⟨(X+65536*vY).toNat,?_,?_⟩
   ·by_cases h0:X<0
    ·rw[if_pos h0] at uO;omega
    ·omega
   ·by_cases h0:X<0
    ·rw[if_pos h0] at uO;omega
    ·rw[if_neg h0] at uO;omega
  have hsum:dg+(t*y+br)=x+65536*vY:=ab;have hst:=Xg mD hxg hyg hsum hv;have xH:IntKind.i64.wrap ((x:Int)-(br:Int))=(x:Int)-br:=cV _ ab;have Jo:IntKind.i64.wrap ((i:Int)+1)=((i+1:Nat):Int):=by rw[cV _ ab];omega
  have zj:t*y<=t*65535:=kS _ ab;rcases jx with ⟨rfl,rfl,rfl⟩|⟨cap,spare,rfl,rfl,h1,h2,h3,h4,h5⟩
  all_goals refine ae ?_
  ·by_cases him:i<m
   ·obtain⟨b2,o2,y',rfl,cC,vE,OA⟩:=hs.cellAt him;obtain rfl:y'=y:=by rw[rJ,vE] at hyg;exact hyg
    have hwX:IntKind.i64.wrap (IntKind.i64.wrap ((x:Int)-(br:Int))-IntKind.i64.wrap ((t:Int)*(y':Int)))=X:=by
     rw[xH,show (t:Int)*(y':Int)=((t*y':Nat):Int) by simp,cV ((t*y':Nat):Int) ab,cV _ ab];omega
    refine VS.aV aa (aE (aQ.2 xJ)) ?_;refine ae ?_;refine VO.cond aa dQ (wV aa ?_);refine VO.read aa [.int .i64 (x:Int)] aa (pU aa yi) (wV aa ?_);refine ae ?_;refine VS.aV aa (aE (aQ.2 him)) ?_;refine ae ?_;refine VO.cond aa dQ (wV aa ?_);refine VO.read aa [.int .i64 (y':Int)] aa (pU aa OA) (wV aa ?_);refine VO.fix 10 aa (au (λz=>AV.val (.int .i64 z)) hwX) ?_;refine ae ?_;by_cases h0:X<0
    ·rw[if_pos h0] at uO
     have hwb:IntKind.i64.wrap ((IntKind.i64.wrap (65535-X)).tdiv 65536)=(vY:Int):=by
      rw[cV (65535-X) ab,Gc ab,cV _ ab,uO.1]
     have hwd:IntKind.i64.wrap (X+IntKind.i64.wrap (65536*(vY:Int)))=(dg:Int):=by
      rw[cV (65536*(vY:Int)) ab,cV _ ab,Yt.1]
     refine VS.aV aa (aE h0) ?_;refine ae ?_
     ·refine VO.fi 46 aa (au (λz=>[AV.val (.int .i64 z)]) (show _=(dg:Int) by rw[hwb,hwd])) ?_
      refine VO.app (dD _ _) (t:=156) (e:=3) (sz:=1) (n:=0) (c:=0) (mm:=1) (known:=[]) (spare:=[]) (news:=iv [dg]) (dst:=47) (del:=none) aa aa aa aa aa aa aa aa (bM aa) aa (.inl ⟨aa,aa,aa,aa,aa,aa,ab⟩) (.inl aa) aa aa ab ab ⟨aa,aa,de _⟩ ⟨aa,aa,tJ _⟩ aa ab
       (λw1 β k1 b1 ho=>⟨_,_,rfl,.inr ⟨β 46,0,rfl,eH (rest:=[]) (ho.own 46 (.base (iY _ (aJ.2 rfl))) _ _ rfl) rfl⟩⟩)
       (λw2 cap' ax ρ k2 b2 iI ll kC hlen gv jH=>wV rfl ?_)
      refine ae ?_;refine VS.back (n-(i+1)) ab ⟨_,_,?_,?_,?_,?_,⟨i+1,vY,[dg],.row 47 0 ([dg]).length cap',ab,aa,aa,.inr ⟨cap',ax,aa,aa,by simp;omega,kC,?_,gv,jH⟩,by simp at mD ⊢;omega,gN.cons Yt.2 (gN.nil _),uO.2,hst⟩⟩
      ·exact⟨aa,aa,aa,aa,au (λz=>some (AV.val (.int .i64 z))) hwb,au (λz=>some (AV.val (.int .i64 z))) Jo,ag⟩
      ·exact⟨aa,ag⟩
      ·rfl
      ·exact⟨.append (.none (de _)) (.none jH),ag⟩
      ·simpa [dT,Nat.add_assoc] using hlen
    ·rw[if_neg h0] at uO;have yj:vY=0:=ab;subst yj;refine VS.aP aa (aA h0) ?_;refine ae ?_
     ·refine VO.fi 46 aa (au (λz=>[AV.val (.int .i64 z)]) (show X=(dg:Int) by omega)) ?_
      refine VO.app (dD _ _) (t:=156) (e:=3) (sz:=1) (n:=0) (c:=0) (mm:=1) (known:=[]) (spare:=[]) (news:=iv [dg]) (dst:=47) (del:=none) aa aa aa aa aa aa aa aa (bM aa) aa (.inl ⟨aa,aa,aa,aa,aa,aa,ab⟩) (.inl aa) aa aa ab ab ⟨aa,aa,de _⟩ ⟨aa,aa,tJ _⟩ aa ab
       (λw1 β k1 b1 ho=>⟨_,_,rfl,.inr ⟨β 46,0,rfl,eH (rest:=[]) (ho.own 46 (.base (iY _ (aJ.2 rfl))) _ _ rfl) rfl⟩⟩)
       (λw2 cap' ax ρ k2 b2 iI ll kC hlen gv jH=>wV rfl ?_)
      refine ae ?_;refine VS.back (n-(i+1)) ab ⟨_,_,?_,?_,?_,?_,⟨i+1,0,[dg],.row 47 0 ([dg]).length cap',ab,aa,aa,.inr ⟨cap',ax,aa,aa,by simp;omega,kC,?_,gv,jH⟩,by simp at mD ⊢;omega,gN.cons Yt.2 (gN.nil _),fH _,hst⟩⟩
      ·exact⟨aa,aa,aa,aa,aa,au (λz=>some (AV.val (.int .i64 z))) Jo,ag⟩
      ·exact⟨aa,ag⟩
      ·rfl
      ·exact⟨.append (.none (de _)) (.none jH),ag⟩
      ·simpa [dT,Nat.add_assoc] using hlen
   ·have hy0:y=0:=by rw[mn ab] at hyg;omega
    have hwX:IntKind.i64.wrap ((x:Int)-(br:Int))=X:=by rw[xH,hX,hy0,rS];omega
    refine VS.aV aa (aE (aQ.2 xJ)) ?_;refine ae ?_;refine VO.cond aa dQ (wV aa ?_);refine VO.read aa [.int .i64 (x:Int)] aa (pU aa yi) (wV aa ?_);refine VO.fix 10 aa (au (λz=>AV.val (.int .i64 z)) hwX) ?_;refine ae ?_;refine VS.aP aa (aA (λe=>him (aQ.1 e))) ?_;refine ae ?_;by_cases h0:X<0
    ·rw[if_pos h0] at uO
     have hwb:IntKind.i64.wrap ((IntKind.i64.wrap (65535-X)).tdiv 65536)=(vY:Int):=by
      rw[cV (65535-X) ab,Gc ab,cV _ ab,uO.1]
     have hwd:IntKind.i64.wrap (X+IntKind.i64.wrap (65536*(vY:Int)))=(dg:Int):=by
      rw[cV (65536*(vY:Int)) ab,cV _ ab,Yt.1]
     refine VS.aV aa (aE h0) ?_;refine ae ?_
     ·refine VO.fi 46 aa (au (λz=>[AV.val (.int .i64 z)]) (show _=(dg:Int) by rw[hwb,hwd])) ?_
      refine VO.app (dD _ _) (t:=156) (e:=3) (sz:=1) (n:=0) (c:=0) (mm:=1) (known:=[]) (spare:=[]) (news:=iv [dg]) (dst:=47) (del:=none) aa aa aa aa aa aa aa aa (bM aa) aa (.inl ⟨aa,aa,aa,aa,aa,aa,ab⟩) (.inl aa) aa aa ab ab ⟨aa,aa,de _⟩ ⟨aa,aa,tJ _⟩ aa ab
       (λw1 β k1 b1 ho=>⟨_,_,rfl,.inr ⟨β 46,0,rfl,eH (rest:=[]) (ho.own 46 (.base (iY _ (aJ.2 rfl))) _ _ rfl) rfl⟩⟩)
       (λw2 cap' ax ρ k2 b2 iI ll kC hlen gv jH=>wV rfl ?_)
      refine ae ?_;refine VS.back (n-(i+1)) ab ⟨_,_,?_,?_,?_,?_,⟨i+1,vY,[dg],.row 47 0 ([dg]).length cap',ab,aa,aa,.inr ⟨cap',ax,aa,aa,by simp;omega,kC,?_,gv,jH⟩,by simp at mD ⊢;omega,gN.cons Yt.2 (gN.nil _),uO.2,hst⟩⟩
      ·exact⟨aa,aa,aa,aa,au (λz=>some (AV.val (.int .i64 z))) hwb,au (λz=>some (AV.val (.int .i64 z))) Jo,ag⟩
      ·exact⟨aa,ag⟩
      ·rfl
      ·exact⟨.append (.none (de _)) (.none jH),ag⟩
      ·simpa [dT,Nat.add_assoc] using hlen
    ·rw[if_neg h0] at uO;have yj:vY=0:=ab;subst yj;refine VS.aP aa (aA h0) ?_;refine ae ?_
     ·refine VO.fi 46 aa (au (λz=>[AV.val (.int .i64 z)]) (show X=(dg:Int) by omega)) ?_
      refine VO.app (dD _ _) (t:=156) (e:=3) (sz:=1) (n:=0) (c:=0) (mm:=1) (known:=[]) (spare:=[]) (news:=iv [dg]) (dst:=47) (del:=none) aa aa aa aa aa aa aa aa (bM aa) aa (.inl ⟨aa,aa,aa,aa,aa,aa,ab⟩) (.inl aa) aa aa ab ab ⟨aa,aa,de _⟩ ⟨aa,aa,tJ _⟩ aa ab
       (λw1 β k1 b1 ho=>⟨_,_,rfl,.inr ⟨β 46,0,rfl,eH (rest:=[]) (ho.own 46 (.base (iY _ (aJ.2 rfl))) _ _ rfl) rfl⟩⟩)
       (λw2 cap' ax ρ k2 b2 iI ll kC hlen gv jH=>wV rfl ?_)
      refine ae ?_;refine VS.back (n-(i+1)) ab ⟨_,_,?_,?_,?_,?_,⟨i+1,0,[dg],.row 47 0 ([dg]).length cap',ab,aa,aa,.inr ⟨cap',ax,aa,aa,by simp;omega,kC,?_,gv,jH⟩,by simp at mD ⊢;omega,gN.cons Yt.2 (gN.nil _),fH _,hst⟩⟩
      ·exact⟨aa,aa,aa,aa,aa,au (λz=>some (AV.val (.int .i64 z))) Jo,ag⟩
      ·exact⟨aa,ag⟩
      ·rfl
      ·exact⟨.append (.none (de _)) (.none jH),ag⟩
      ·simpa [dT,Nat.add_assoc] using hlen
  ·by_cases him:i<m
   ·obtain⟨b2,o2,y',rfl,cC,vE,OA⟩:=hs.cellAt him;obtain rfl:y'=y:=by rw[rJ,vE] at hyg;exact hyg
    have hwX:IntKind.i64.wrap (IntKind.i64.wrap ((x:Int)-(br:Int))-IntKind.i64.wrap ((t:Int)*(y':Int)))=X:=by
     rw[xH,show (t:Int)*(y':Int)=((t*y':Nat):Int) by simp,cV ((t*y':Nat):Int) ab,cV _ ab];omega
    refine VS.aV aa (aE (aQ.2 xJ)) ?_;refine ae ?_;refine VO.cond aa dQ (wV aa ?_);refine VO.read aa [.int .i64 (x:Int)] aa (pU aa yi) (wV aa ?_);refine ae ?_;refine VS.aV aa (aE (aQ.2 him)) ?_;refine ae ?_;refine VO.cond aa dQ (wV aa ?_);refine VO.read aa [.int .i64 (y':Int)] aa (pU aa OA) (wV aa ?_);refine VO.fix 10 aa (au (λz=>AV.val (.int .i64 z)) hwX) ?_;refine ae ?_;by_cases h0:X<0
    ·rw[if_pos h0] at uO
     have hwb:IntKind.i64.wrap ((IntKind.i64.wrap (65535-X)).tdiv 65536)=(vY:Int):=by
      rw[cV (65535-X) ab,Gc ab,cV _ ab,uO.1]
     have hwd:IntKind.i64.wrap (X+IntKind.i64.wrap (65536*(vY:Int)))=(dg:Int):=by
      rw[cV (65536*(vY:Int)) ab,cV _ ab,Yt.1]
     refine VS.aV aa (aE h0) ?_;refine ae ?_
     ·refine VO.fi 46 aa (au (λz=>[AV.val (.int .i64 z)]) (show _=(dg:Int) by rw[hwb,hwd])) ?_
      refine VO.app (dD _ _) (t:=156) (e:=3) (sz:=1) (n:=ds.length) (c:=cap) (mm:=1) (known:=iv ds) (spare:=spare) (news:=iv [dg]) (dst:=47) (del:=some 47) aa aa aa aa aa aa aa aa (bM aa) aa (.inr ⟨47,aa,aa,aa⟩) (.inr aa) (by rw[dT];omega) (by rw[bB,dT];omega) h1 h2 ⟨de _,h5,de _⟩ ⟨tJ _,h4,tJ _⟩ aa ab
       (λw1 β k1 b1 ho=>⟨_,_,rfl,.inr ⟨β 46,0,rfl,eH (rest:=[]) (ho.own 46 (.base (iY _ (aJ.2 rfl))) _ _ rfl) rfl⟩⟩)
       (λw2 cap' ax ρ k2 b2 iI ll kC hlen gv jH=>wV rfl ?_)
      refine ae ?_;refine VS.back (n-(i+1)) ab ⟨_,_,?_,?_,?_,?_,⟨i+1,vY,ds++[dg],.row 47 0 (ds++[dg]).length cap',ab,aa,aa,.inr ⟨cap',ax,aa,aa,by simp;omega,kC,?_,gv,jH⟩,by simp[mD],gN.append hdh (gN.cons Yt.2 (gN.nil _)),uO.2,hst⟩⟩
      ·exact⟨aa,aa,aa,au (λz=>some (AV.row 47 0 z cap')) bN,au (λz=>some (AV.val (.int .i64 z))) hwb,au (λz=>some (AV.val (.int .i64 z))) Jo,ag⟩
      ·exact⟨au (λl=>some (_,l++ax)) (xR _ _).symm,ag⟩
      ·rfl
      ·exact⟨.append (.none (de _)) (.none jH),ag⟩
      ·simpa [dT,Nat.add_assoc] using hlen
    ·rw[if_neg h0] at uO;have yj:vY=0:=ab;subst yj;refine VS.aP aa (aA h0) ?_;refine ae ?_
     ·refine VO.fi 46 aa (au (λz=>[AV.val (.int .i64 z)]) (show X=(dg:Int) by omega)) ?_
      refine VO.app (dD _ _) (t:=156) (e:=3) (sz:=1) (n:=ds.length) (c:=cap) (mm:=1) (known:=iv ds) (spare:=spare) (news:=iv [dg]) (dst:=47) (del:=some 47) aa aa aa aa aa aa aa aa (bM aa) aa (.inr ⟨47,aa,aa,aa⟩) (.inr aa) (by rw[dT];omega) (by rw[bB,dT];omega) h1 h2 ⟨de _,h5,de _⟩ ⟨tJ _,h4,tJ _⟩ aa ab
       (λw1 β k1 b1 ho=>⟨_,_,rfl,.inr ⟨β 46,0,rfl,eH (rest:=[]) (ho.own 46 (.base (iY _ (aJ.2 rfl))) _ _ rfl) rfl⟩⟩)
       (λw2 cap' ax ρ k2 b2 iI ll kC hlen gv jH=>wV rfl ?_)
      refine ae ?_;refine VS.back (n-(i+1)) ab ⟨_,_,?_,?_,?_,?_,⟨i+1,0,ds++[dg],.row 47 0 (ds++[dg]).length cap',ab,aa,aa,.inr ⟨cap',ax,aa,aa,by simp;omega,kC,?_,gv,jH⟩,by simp[mD],gN.append hdh (gN.cons Yt.2 (gN.nil _)),fH _,hst⟩⟩
      ·exact⟨aa,aa,aa,au (λz=>some (AV.row 47 0 z cap')) bN,aa,au (λz=>some (AV.val (.int .i64 z))) Jo,ag⟩
      ·exact⟨au (λl=>some (_,l++ax)) (xR _ _).symm,ag⟩
      ·rfl
      ·exact⟨.append (.none (de _)) (.none jH),ag⟩
      ·simpa [dT,Nat.add_assoc] using hlen
   ·have hy0:y=0:=by rw[mn ab] at hyg;omega
    have hwX:IntKind.i64.wrap ((x:Int)-(br:Int))=X:=by rw[xH,hX,hy0,rS];omega
    refine VS.aV aa (aE (aQ.2 xJ)) ?_;refine ae ?_;refine VO.cond aa dQ (wV aa ?_);refine VO.read aa [.int .i64 (x:Int)] aa (pU aa yi) (wV aa ?_);refine VO.fix 10 aa (au (λz=>AV.val (.int .i64 z)) hwX) ?_;refine ae ?_;refine VS.aP aa (aA (λe=>him (aQ.1 e))) ?_;refine ae ?_;by_cases h0:X<0
    ·rw[if_pos h0] at uO
     have hwb:IntKind.i64.wrap ((IntKind.i64.wrap (65535-X)).tdiv 65536)=(vY:Int):=by
      rw[cV (65535-X) ab,Gc ab,cV _ ab,uO.1]
     have hwd:IntKind.i64.wrap (X+IntKind.i64.wrap (65536*(vY:Int)))=(dg:Int):=by
      rw[cV (65536*(vY:Int)) ab,cV _ ab,Yt.1]
     refine VS.aV aa (aE h0) ?_;refine ae ?_
     ·refine VO.fi 46 aa (au (λz=>[AV.val (.int .i64 z)]) (show _=(dg:Int) by rw[hwb,hwd])) ?_
      refine VO.app (dD _ _) (t:=156) (e:=3) (sz:=1) (n:=ds.length) (c:=cap) (mm:=1) (known:=iv ds) (spare:=spare) (news:=iv [dg]) (dst:=47) (del:=some 47) aa aa aa aa aa aa aa aa (bM aa) aa (.inr ⟨47,aa,aa,aa⟩) (.inr aa) (by rw[dT];omega) (by rw[bB,dT];omega) h1 h2 ⟨de _,h5,de _⟩ ⟨tJ _,h4,tJ _⟩ aa ab
       (λw1 β k1 b1 ho=>⟨_,_,rfl,.inr ⟨β 46,0,rfl,eH (rest:=[]) (ho.own 46 (.base (iY _ (aJ.2 rfl))) _ _ rfl) rfl⟩⟩)
       (λw2 cap' ax ρ k2 b2 iI ll kC hlen gv jH=>wV rfl ?_)
      refine ae ?_;refine VS.back (n-(i+1)) ab ⟨_,_,?_,?_,?_,?_,⟨i+1,vY,ds++[dg],.row 47 0 (ds++[dg]).length cap',ab,aa,aa,.inr ⟨cap',ax,aa,aa,by simp;omega,kC,?_,gv,jH⟩,by simp[mD],gN.append hdh (gN.cons Yt.2 (gN.nil _)),uO.2,hst⟩⟩
      ·exact⟨aa,aa,aa,au (λz=>some (AV.row 47 0 z cap')) bN,au (λz=>some (AV.val (.int .i64 z))) hwb,au (λz=>some (AV.val (.int .i64 z))) Jo,ag⟩
      ·exact⟨au (λl=>some (_,l++ax)) (xR _ _).symm,ag⟩
      ·rfl
      ·exact⟨.append (.none (de _)) (.none jH),ag⟩
      ·simpa [dT,Nat.add_assoc] using hlen
    ·rw[if_neg h0] at uO;have yj:vY=0:=ab;subst yj;refine VS.aP aa (aA h0) ?_;refine ae ?_
     ·refine VO.fi 46 aa (au (λz=>[AV.val (.int .i64 z)]) (show X=(dg:Int) by omega)) ?_
      refine VO.app (dD _ _) (t:=156) (e:=3) (sz:=1) (n:=ds.length) (c:=cap) (mm:=1) (known:=iv ds) (spare:=spare) (news:=iv [dg]) (dst:=47) (del:=some 47) aa aa aa aa aa aa aa aa (bM aa) aa (.inr ⟨47,aa,aa,aa⟩) (.inr aa) (by rw[dT];omega) (by rw[bB,dT];omega) h1 h2 ⟨de _,h5,de _⟩ ⟨tJ _,h4,tJ _⟩ aa ab
       (λw1 β k1 b1 ho=>⟨_,_,rfl,.inr ⟨β 46,0,rfl,eH (rest:=[]) (ho.own 46 (.base (iY _ (aJ.2 rfl))) _ _ rfl) rfl⟩⟩)
       (λw2 cap' ax ρ k2 b2 iI ll kC hlen gv jH=>wV rfl ?_)
      refine ae ?_;refine VS.back (n-(i+1)) ab ⟨_,_,?_,?_,?_,?_,⟨i+1,0,ds++[dg],.row 47 0 (ds++[dg]).length cap',ab,aa,aa,.inr ⟨cap',ax,aa,aa,by simp;omega,kC,?_,gv,jH⟩,by simp[mD],gN.append hdh (gN.cons Yt.2 (gN.nil _)),fH _,hst⟩⟩
      ·exact⟨aa,aa,aa,au (λz=>some (AV.row 47 0 z cap')) bN,aa,au (λz=>some (AV.val (.int .i64 z))) Jo,ag⟩
      ·exact⟨au (λl=>some (_,l++ax)) (xR _ _).symm,ag⟩
      ·rfl
      ·exact⟨.append (.none (de _)) (.none jH),ag⟩
      ·simpa [dT,Nat.add_assoc] using hlen
 ·obtain rfl:i=n:=by omega
  have Xh:=take_end hdh mD ib (show t*hval (halves B)<=hval (halves A) by rw[cf,cf];exact hle) (by
   rcases rK t with e|e
   ·exact .inl e
   ·right
    rw[<-ib];exact fM ab (bj (Nat.le_mul_of_pos_left B e) hle)) hv
  rw[cf,cf] at Xh;rcases jx with ⟨rfl,rfl,rfl⟩|⟨cap,spare,rfl,rfl,h1,h2,h3,h4,h5⟩
  all_goals
   refine ae ?_;refine VS.aP aa (aA (λe=>xJ (aQ.1 e))) ?_;refine ae ?_
  ·refine VO.call aa aa (fk CY) (λbn cG bo=>(mo none 0 0 [] bn (Rd.own (qF _ 0 0 _)) (gN.nil _)).mono ?_);rintro e w1 ⟨⟨mm,GK,rfl,hcut⟩,rfl⟩;obtain rfl:mm=0:=ab;refine⟨_,aa,aU.refl _,λeF _ bb1=>wV aa ?_⟩;refine ae ?_;refine bl ?_;intro wz kz bz;have e0:A-t*B=0:=by rw[<-Xh];rfl
   exact⟨_,aa,by rw[e0,sf];exact iT.nil _ _,bz⟩
  ·refine VO.KG aa (fk CY) (λw1 β k1 b1 ho=>(mo (some ⟨β 47,0,none⟩) ds.length cap ds w1 (si (ho.own 47 (.base (aJ.2 aa)) _ _ aa) aa h1 (by simpa [maxLen] using h2)) hdh).mono ?_);rintro e w2 ⟨⟨mm,GK,rfl,hcut⟩,rfl⟩;refine⟨.row 47 0 mm cap,aa,λi hi=>⟨hi,by cases aJ.1 hi;exact JK _⟩,aU.refl _,λk2 _ b2=>wV aa ?_⟩;refine ae ?_;refine VS.pG (dD _ _) aa (λwz β kz bz he=> ?_);have yO:=FM hcut GK aa;rw[Xh] at hcut yO;refine⟨_,aa,?_,bz⟩;have:=xh (he.own 47 _ _ aa) aa GK h1 (by simpa [maxLen] using h2) h3;rw[<-hcut] at this;show iT wz w.heap.size (.slice (some ⟨β 47,0,none⟩) mm cap) _ _;rw[<-yO];exact this
set_option maxRecDepth 4000
variable {w':World}
theorem iT.nO {v:Value} {n:Nat} (h:iT w B v n xs) (k:bQ KI w w'):iT w' B v n xs:=by
 obtain⟨hn,e|⟨b,c,spare,e,hb,hc,r⟩⟩:=h
 ·exact⟨hn,.inl e⟩
 ·exact⟨hn,.inr ⟨b,c,spare,e,hb,k.block _ b _ aa ag hc,r⟩⟩
variable {cs:List Value}
theorem Ei.kp {n:Nat} {v:Value} (h:w.ownsRow B 3 1 v n cs) (k:bQ KI w w'):w'.ownsRow B 3 1 v n cs:=by
 refine⟨h.1,?_⟩;rcases h.2 with h2|⟨g,cap,cur,hv,hb,hg,r⟩
 ·exact .inl h2
 ·exact .inr ⟨g,cap,cur,hv,hb,k.block _ g cur aa ag hg,r⟩
theorem iT.form {v:Value} {n:Nat} (h:iT w B v n xs):∃ p c,v=.slice p n c:=by
 obtain⟨hn,⟨rfl,rfl⟩|⟨b,c,spare,rfl,_⟩⟩:=h
 ·exact⟨none,0,aa⟩
 ·exact⟨_,c,aa⟩
theorem PZ (x:Nat):hval [x]=x:=by show x+65536*0=x;omega
variable {Q:Prop}
theorem iu (h:Q) (i:Q->P:=by intro h;(repeat first|refine wN ?_|refine wP rfl ?_|refine KJ rfl ?_|refine cxI_d rfl ?_|refine wO rfl rfl ?_);exact h):P:=i h
theorem gZ {X:Prop} (hb:X) (h:Q) (i:X->Q->P:=by intro hb h;refine⟨_,rfl,hb,λa b c=>wV rfl ?_⟩;refine iu ?_;revert a b c;exact h):P:=i hb h
theorem Bg (h:Q) (i:Q->P:=by intro h;exact VS.ret (uM _ _) rfl rfl h):P:=i h
theorem DC (va vb:Value) (n m A B:Nat) (w:World) (hr:Rd w 1 va n (ints .i64 (halves A))) (hs:Rd w 1 vb m (ints .i64 (halves B))) (hB:A<65536*B) (hm:m<=2147483656):
  Calls Tryz.prog 136 #[va,vb] w λe w'=>e=.returned (.int .i64 ((A/B:Nat):Int))/\aU w w':=by
 obtain⟨p,c,rfl,il,iC,ib⟩:=hr.i64;obtain⟨q,d,rfl,Wp,Rl,rZ⟩:=hs.i64;refine ah (C:=Sw Tryz.prog w _) (args:=[_,_]) Tryz.func136 aa Tryz.ntmps136 (bM aa) ?_;refine iu ?_;refine VS.loop (J:=λms L M w'=>∃ (lo hi:Nat),lo<hi/\hi<=65536/\ms=hi-lo/\L=[(0,.val (.slice p n c)),(1,.val (.slice q m d)),(5,.val (.int .i64 (lo:Int))),(6,.val (.int .i64 (hi:Int)))]/\M=[]/\lo*B<=A/\A<hi*B) 65536 ⟨_,_,?_,?_,?_,?_,⟨0,65536,ab,ab,aa,aa,aa,ab,hB⟩⟩ ?_
 ·exact cA
 ·exact cA
 ·rfl
 ·exact ag
 rintro ms L M w' ⟨lo,hi,hlh,hh,rfl,rfl,rfl,h1,h2⟩;have xH:IntKind.i64.wrap ((hi:Int)-(lo:Int))=(hi:Int)-lo:=cV _ ab;refine iu ?_;by_cases hgo:1<hi-lo
 ·obtain⟨mid,nY⟩:∃ mid,mid=(lo+hi)/2:=⟨_,aa⟩
  have hwm:IntKind.i64.wrap ((IntKind.i64.wrap ((lo:Int)+(hi:Int))).tdiv 2)=(mid:Int):=by
   rw[cV ((lo:Int)+(hi:Int)) ab,Gc ab,cV _ ab];omega
  refine VS.aV aa (aE (by rw[xH];omega)) ?_;refine iu ?_;refine VO.lit (uM _ _) [.int .i64 (mid:Int)] aa (by rw[hwm];rfl) aa aa aa aa aa aa aa ab (λw2 b k2 b2 ho=>wV aa ?_);have hmid4:mid<65536:=ab;refine VO.call aa aa (fk Tryz.func100) (λbn cG bo=>(DB _ _ m 1 (halves B) [mid] bn (hs.below bo) (Rd.own (Ei.kp (cs:=ints .i64 [mid]) ho cG)) (dv B) (gN.cons hmid4 (gN.nil _)) hm ab).mono ?_);rintro e w1 ⟨v1,rfl,q1,bA⟩;rw[cf,PZ] at q1;obtain⟨p1,c1,rfl⟩:=q1.form;refine gZ bA ?_;intro eF _ bb1;refine VO.cB aa aa (fk Tryz.func148) (λeP fA ft=>SL _ _ n _ A (B*mid) eP (hr.below ft) (Rd.own (q1.nO fA).own)) (λeP fA ft w3 dZ jm _ bb3=>wV aa ?_);refine iu ?_;by_cases hlt:A<B*mid
  ·refine VS.aV aa (aE hlt) ?_;refine iu ?_;refine VS.back (mid-lo) ab ⟨_,_,?_,?_,?_,?_,⟨lo,mid,ab,ab,aa,aa,aa,h1,by rw[jb];exact hlt⟩⟩
   ·exact⟨aa,aa,aa,au (λz=>some (AV.val (.int .i64 z))) hwm,ag⟩
   ·exact cA
   ·rfl
   ·exact ag
  ·refine VS.aP aa (aA hlt) ?_;refine iu ?_;refine VS.back (hi-mid) ab ⟨_,_,?_,?_,?_,?_,⟨mid,hi,ab,ab,aa,aa,aa,by rw[jb];omega,h2⟩⟩
   ·exact⟨aa,aa,au (λz=>some (AV.val (.int .i64 z))) hwm,aa,ag⟩
   ·exact cA
   ·rfl
   ·exact ag
 ·refine VS.aP aa (aA (by rw[xH];omega)) ?_;refine iu ?_;refine Bg ?_;intro wz kz bz;refine⟨?_,bz⟩
  have hBp:0<B:=by
   rcases rK B with e|e
   ·rw[e] at hB;omega
   ·exact e
  have:A/B=lo:=by
   have e1:hi=lo+1:=ab;rw[e1,fG] at h2;exact Nat.div_eq_of_lt_le h1 (by rw[fG];exact h2)
  rw[this];rfl
theorem Ht {k R V:Nat} {qs:List Nat} (hx:(halves A)[k]? =some x) (hR:R<B) (hV:V=x+65536*R) (h:hval qs*B+R=hval ((halves A).drop (k+1))):
  hval ((V/B)::qs)*B+(V-V/B*B)=hval ((halves A).drop k)/\V<65536*B/\V-V/B*B<B/\V/B<65536:=by
 have rk:=(dv A).at hx;have e1:hval ((halves A).drop k)=x+65536*hval ((halves A).drop (k+1)):=yM hx;have e2:hval ((V/B)::qs)=V/B+65536*hval qs:=aa;have e3:=JQ V B;have e4:=gC V (show 0<B by omega);rw[jb] at e3
 have hlt:V<65536*B:=by
  have:65536*R+65536<=65536*B:=by
   have:=kS 65536 (show R+1<=B by omega);rw[du] at this;omega
  omega
 refine⟨?_,hlt,ab,Nat.div_lt_of_lt_mul (by rw[jb];exact hlt)⟩;rw[e1,<-h,e2,fG,du,gB];omega
theorem Qa (va vb:Value) (n m A B:Nat) (w:World) (hr:Rd w 1 va n (ints .i64 (halves A))) (hs:Rd w 1 vb m (ints .i64 (halves B))) (hB:0<B) (hn:n<=1073741824) (hm:m<=1073741824):
  Calls Tryz.prog 119 #[va,vb] w λe w'=>∃ v u,e=.returned (.tuple #[v,u])/\iT w' w.heap.size v (halves (A/B)).length (halves (A/B))/\iT w' w.heap.size u (halves (A%B)).length (halves (A%B))/\aU w w':=by
 obtain⟨p,c,rfl,il,iC,ib⟩:=hr.i64;obtain⟨q,d,rfl,Wp,Rl,rZ⟩:=hs.i64;refine ah (C:=cH Tryz.prog w _) (args:=[_,_]) Tryz.func119 aa Tryz.ntmps119 (bM aa) ?_;refine ae ?_;refine VO.cond aa ⟨aa,ab,by show (n:Int)*(24*1)<=_;omega⟩ (VO.fi 12 aa (Ho _) (wV aa ?_));rw[dC];refine ae ?_;have hw0:IntKind.i64.wrap ((n:Int)-1)=(n:Int)-1:=cV _ ab
 refine VS.loop (J:=λms L M w'=>∃ (k R:Nat) (qs:List Nat) (v:AV) (M1:List (Nat×(TypeId×List AV))),k<=n/\ms=k/\L=[(0,.val (.slice p n c)),(1,.val (.slice q m d)),(6,.row 12 0 n n),(7,v),(8,.val (.int .i64 ((k:Int)-1)))]/\
  M=(12,(3,iv (List.replicate k 0++qs)))::M1/\RowAt 41 (halves R) v M1/\qs.length=n-k/\kN qs/\R<B/\hval qs*B+R=hval ((halves A).drop k)) n ⟨_,_,?_,?_,?_,?_,⟨n,0,[],.val (.slice none 0 0),[],bL _,rfl,rfl,rfl,.inl ⟨sf,rfl,rfl⟩,bN,gN.nil _,hB,by rw[ly ab];simp[hval,val]⟩⟩ ?_
 ·exact⟨aa,aa,aa,aa,au (λz=>some (AV.val (.int .i64 z))) hw0,ag⟩
 ·exact⟨au (λl=>some (_,l)) (by rw[gA]),ag⟩
 ·rfl
 ·exact⟨.none (de _),ag⟩
 rintro ms L M w' ⟨k,R,qs,v,M1,hk,hms,rfl,rfl,jx,OY,hqh,hRB,hv⟩;have hz:(List.replicate k 0++qs).length=n:=by simp;omega
 rcases jx with ⟨hR0,rfl,rfl⟩|⟨cap,spare,rfl,rfl,g1,g2,g3,g4,g5⟩
 all_goals
  by_cases Di:k=0
 ·subst Di;refine ae ?_;refine VO.KG aa (fk CY) (λw1 β k1 bw ho=>(mo (some ⟨β 12,0,none⟩) n n qs w1 (si (spare:=[]) (by rw[gA];exact ho.own 12 (.base (aJ.2 aa)) _ _ aa) (by simpa using hz) (bL _) (by simp only[maxLen];omega)) hqh).mono ?_);rintro e w2 ⟨⟨mm,GK,rfl,hcut⟩,rfl⟩;refine⟨.row 12 0 mm n,aa,λi hi=>⟨hi,by cases aJ.1 hi;exact JK _⟩,aU.refl _,λk2 _ b2=>wV aa ?_⟩;refine ae ?_;refine VS.pG (dD _ _) aa (λwz β kz bz he=> ?_);have Rk:qs.length=n:=by simpa using hz
  have yO:=FM hcut GK Rk;rw[List.drop_zero,cf] at hv;have hA:A/B=hval qs:=by rw[<-hv,Af,Nat.add_mul_div_right _ _ hB,CW hRB,jt]
  have hM:A%B=R:=by rw[<-hv,Af,YJ,Ac hRB]
  rw[<-hA] at hcut yO;have e12:=xh (spare:=[]) (by rw[gA];exact he.own 12 _ _ aa) Rk GK (bL _) (by simp only[maxLen];omega) (by simpa using Rk);rw[<-hcut] at e12;refine⟨.slice (some ⟨β 12,0,none⟩) mm n,.slice none 0 0,aa,by rw[<-yO];exact e12,?_,bz⟩;rw[hM,hR0];exact iT.nil _ _
 ·obtain⟨j,rfl⟩:∃ j,k=j+1:=⟨k-1,ab⟩;have hj:((j+1:Nat):Int)-1=(j:Int):=ab;obtain⟨b1,o1,x,rfl,bA,kF,yi⟩:=hr.cellAt (show j<n by omega);have rk:=(dv A).at kF;obtain⟨V,hV⟩:∃ V,V=x+65536*R:=⟨_,aa⟩;obtain⟨s1,s2,s3,s4⟩:=Ht kF hRB hV hv;have hRl:(halves R).length<=m:=by rw[<-rZ];exact fM ab ab
  have hXS:hval [x]=V:=by have hR0':R=0:=(by have:=au hval hR0;rw[cf] at this;exact this);rw[hV,hR0'];exact PZ x
  have hXH:kN [x]:=gN.cons rk (gN.nil _);have hXL:[x].length=(1+0):=aa;refine VS.fix 8 aa (au (λz=>AV.val (.int .i64 z)) hj) ?_;refine ae ?_;refine VO.cond aa dQ (wV aa ?_);refine VO.read aa [.int .i64 (x:Int)] aa (pU aa yi) (wV aa ?_);refine ae ?_
  refine VO.app (dD _ _) (t:=156) (e:=3) (sz:=1) (n:=1) (c:=1) (mm:=0) (known:=iv [x]) (spare:=[]) (news:=[]) (dst:=27) (del:=some 24) aa aa aa aa aa aa aa aa (bM aa) aa (.inr ⟨24,aa,aa,aa⟩) (.inl aa) aa aa ab ab ⟨aa,aa,aa⟩ ⟨aa,aa,aa⟩ aa ab
   (λw1 β k1 bw ho=>⟨_,_,rfl,.inl rfl⟩)
   (λw2 cap' ax ρ k2 b2 iI ll kC hlen gv jH=>VO.fi 12 rfl (fgl_iv 24 ρ _) (wV rfl ?_))
  have sT:(iv [x]++[])++ax=iv [x]++ax:=aa;refine VO.KG aa (fk CY) (λw1 β k1 bw ho=>(mo (some ⟨β 27,0,none⟩) (1+0) cap' [x] w1 (si (ho.own 27 (.base (aJ.2 aa)) _ _ aa) hXL ll (by simpa [maxLen] using kC)) hXH).mono ?_);rintro e w3 ⟨⟨m',YW,rfl,hcut⟩,rfl⟩;rw[hXS] at hcut;have hm'l:m'=(halves V).length:=by rw[hcut,cM];omega
  have Dg:∀ {C:Cx} {β:Nat->Nat} {w:World},oK C β w 27 3 (iv [x]++ax)->Rd w 1 (.slice (some ⟨β 27,0,none⟩) m' cap') m' (ints .i64 (halves V)):=λh=>by
   have:=Rd.PS (si h hXL ll (by simpa [maxLen] using kC)) YW
   rwa [<-hcut] at this
  refine⟨.row 27 0 m' cap',aa,λi hi=>⟨hi,by cases aJ.1 hi;exact JK _⟩,aU.refl _,λk3 _ b3=>wV aa ?_⟩;refine ae ?_;refine VO.eB aa (fk Tryz.func136) (λw1 β k1 bw ho=>(DC _ _ m' m V B w1 (Dg (ho.own 27 (.base (Aa _ (aJ.2 aa))) _ _ aa)) (hs.below bw) s2 ab).mono ?_);rintro e w4 ⟨rfl,ic⟩;refine⟨_,aa,ic,λk4 _ b4=>wV aa ?_⟩;refine VO.cond aa dQ (wV aa ?_);refine VO.cond aa (by show 0+(j:Int).toNat*1+1<=_;rw[dC,dT];omega) (wV aa ?_);refine wN ?_;refine VS.narrow [(0,.val (.slice (some ⟨b1,o1,none⟩) n c)),(1,.val (.slice q m d)),(6,.row 12 0 n n),(7,.row 27 0 m' cap'),(8,.val (.int .i64 (j:Int)))] [(12,(3,iv (List.replicate j 0++(V/B)::qs))),(27,(3,iv [x]++ax))] ?_ ?_ aa ?_ ?_
  ·exact cA
  ·exact⟨au (λl=>some (_,l)) ((FL (j:=j) (x:=V/B) (by rw[hz];omega) (by rw[dC];omega)).trans (by rw[DA])),aa,ag⟩
  ·exact⟨.none (de _),.append (.none (de _)) (.none jH),ag⟩
  refine ae ?_;refine VO.cond aa dQ (wV aa ?_);refine VO.dY aa [.val (.int .i64 ((V/B:Nat):Int))] aa (Bf (j:=j) (by rw[jT bN];simp) (by rw[dC];omega)) (wV aa ?_);have xH:IntKind.i64.wrap ((j:Int)-1)=(j:Int)-1:=cV _ ab;refine VO.callN (dst:=41) (n:=(halves (V-V/B*B)).length) (t:=3) (sz:=1) (xs:=ints .i64 (halves (V-V/B*B))) aa aa aa (bM aa) (by show 1<=2;omega) aa (λw1 β k1 bw ho=>⟨(fk Tryz.func137),(Hq _ _ m' m (V/B) V B w1 (Dg (ho.own 27 (.base (Aa _ (aJ.2 aa))) _ _ aa)) (hs.below bw) s4 (Ol _ _) ab).mono ?_⟩);rintro e w5 ⟨v5,rfl,Qb,iz⟩;refine⟨v5,aa,iz,Qb.new,λ_ _ _ hv5=>wV aa ?_,λc5 sp5 _ _ _ hv5 hok5 hl5 Vg Oz=>wV aa ?_⟩
  ·have Wm:halves (V-V/B*B)=[]:=by
    subst hv5;obtain⟨e1,⟨_,e2⟩|⟨_,_,_,e2,_⟩⟩:=Qb
    ·exact js e2
    ·cases e2
   refine ae ?_;refine VS.back j ab ⟨_,_,?_,?_,?_,?_,⟨j,V-V/B*B,(V/B)::qs,.val (.slice none 0 0),[],ab,aa,aa,aa,.inl ⟨Wm,aa,aa⟩,by simp;omega,gN.cons s4 hqh,s3,s1⟩⟩
   ·exact⟨aa,aa,aa,aa,au (λz=>some (AV.val (.int .i64 z))) xH,ag⟩
   ·exact⟨aa,ag⟩
   ·rfl
   ·exact⟨.none (de _),ag⟩
  ·have zx:(halves (V-V/B*B)).length+sp5.length=c5:=by simpa using Oz
   refine ae ?_;refine VS.back j ab ⟨_,_,?_,?_,?_,?_,⟨j,V-V/B*B,(V/B)::qs,.row 41 0 _ c5,_,ab,aa,aa,aa,.inr ⟨c5,sp5.map .val,aa,aa,hl5,Vg,by simpa using zx,bP hok5,aw _⟩,by simp;omega,gN.cons s4 hqh,s3,s1⟩⟩
   ·exact⟨aa,aa,aa,aa,au (λz=>some (AV.val (.int .i64 z))) xH,ag⟩
   ·exact⟨aa,au (λl=>some (_,l)) (bC),ag⟩
   ·rfl
   ·exact⟨.none (de _),.append (.none (de _)) (.none (aw _)),ag⟩
 ·subst Di;refine ae ?_;refine VO.KG aa (fk CY) (λw1 β k1 bw ho=>(mo (some ⟨β 12,0,none⟩) n n qs w1 (si (spare:=[]) (by rw[gA];exact ho.own 12 (.base (aJ.2 aa)) _ _ aa) (by simpa using hz) (bL _) (by simp only[maxLen];omega)) hqh).mono ?_);rintro e w2 ⟨⟨mm,GK,rfl,hcut⟩,rfl⟩;refine⟨.row 12 0 mm n,aa,λi hi=>⟨hi,by cases aJ.1 hi;exact JK _⟩,aU.refl _,λk2 _ b2=>wV aa ?_⟩;refine ae ?_;refine VS.pG (dD _ _) aa (λwz β kz bz he=> ?_);have Rk:qs.length=n:=by simpa using hz
  have yO:=FM hcut GK Rk;rw[List.drop_zero,cf] at hv;have hA:A/B=hval qs:=by rw[<-hv,Af,Nat.add_mul_div_right _ _ hB,CW hRB,jt]
  have hM:A%B=R:=by rw[<-hv,Af,YJ,Ac hRB]
  rw[<-hA] at hcut yO;have e12:=xh (spare:=[]) (by rw[gA];exact he.own 12 _ _ aa) Rk GK (bL _) (by simp only[maxLen];omega) (by simpa using Rk);rw[<-hcut] at e12;have e41:=xh (he.own 41 _ _ aa) aa (bL _) g1 (by simpa [maxLen] using g2) g3;rw[Oo] at e41;refine⟨.slice (some ⟨β 12,0,none⟩) mm n,.slice (some ⟨β 41,0,none⟩) (halves R).length cap,aa,by rw[<-yO];exact e12,?_,bz⟩;rw[hM];exact e41
 ·obtain⟨j,rfl⟩:∃ j,k=j+1:=⟨k-1,ab⟩;have hj:((j+1:Nat):Int)-1=(j:Int):=ab;obtain⟨b1,o1,x,rfl,bA,kF,yi⟩:=hr.cellAt (show j<n by omega);have rk:=(dv A).at kF;obtain⟨V,hV⟩:∃ V,V=x+65536*R:=⟨_,aa⟩;obtain⟨s1,s2,s3,s4⟩:=Ht kF hRB hV hv;have hRl:(halves R).length<=m:=by rw[<-rZ];exact fM ab ab
  have hXS:hval (x::halves R)=V:=by rw[hV];show x+65536*hval (halves R)=_;rw[cf]
  have hXH:kN (x::halves R):=gN.cons rk (dv R);have hXL:(x::halves R).length=(1+(halves R).length):=by simp;omega
  refine VS.fix 8 aa (au (λz=>AV.val (.int .i64 z)) hj) ?_;refine ae ?_;refine VO.cond aa dQ (wV aa ?_);refine VO.read aa [.int .i64 (x:Int)] aa (pU aa yi) (wV aa ?_);refine ae ?_
  refine VO.app (dD _ _) (t:=156) (e:=3) (sz:=1) (n:=1) (c:=1) (mm:=(halves R).length) (known:=iv [x]) (spare:=[]) (news:=iv (halves R)) (dst:=27) (del:=some 24) aa aa aa aa aa aa aa aa (bM aa) aa (.inr ⟨24,aa,aa,aa⟩) (.inl aa) aa aa ab ab ⟨aa,aa,de _⟩ ⟨aa,aa,tJ _⟩ (by rw[dT];omega) ab
   (λw1 β k1 bw ho=>⟨_,_,rfl,.inr ⟨β 41,0,rfl,eH (rest:=spare) (ho.own 41 (.base (iY _ (aJ.2 rfl))) _ _ rfl) rfl⟩⟩)
   (λw2 cap' ax ρ k2 b2 iI ll kC hlen gv jH=>VO.fi 12 rfl (fgl_iv 24 ρ _) (wV rfl ?_))
  have sT:(iv [x]++iv (halves R))++ax=iv (x::halves R)++ax:=aa;refine VO.KG aa (fk CY) (λw1 β k1 bw ho=>(mo (some ⟨β 27,0,none⟩) (1+(halves R).length) cap' (x::halves R) w1 (si (ho.own 27 (.base (aJ.2 aa)) _ _ aa) hXL ll (by simpa [maxLen] using kC)) hXH).mono ?_);rintro e w3 ⟨⟨m',YW,rfl,hcut⟩,rfl⟩;rw[hXS] at hcut;have hm'l:m'=(halves V).length:=by rw[hcut,cM];omega
  have Dg:∀ {C:Cx} {β:Nat->Nat} {w:World},oK C β w 27 3 (iv (x::halves R)++ax)->Rd w 1 (.slice (some ⟨β 27,0,none⟩) m' cap') m' (ints .i64 (halves V)):=λh=>by
   have:=Rd.PS (si h hXL ll (by simpa [maxLen] using kC)) YW
   rwa [<-hcut] at this
  refine⟨.row 27 0 m' cap',aa,λi hi=>⟨hi,by cases aJ.1 hi;exact JK _⟩,aU.refl _,λk3 _ b3=>wV aa ?_⟩;refine ae ?_;refine VO.eB aa (fk Tryz.func136) (λw1 β k1 bw ho=>(DC _ _ m' m V B w1 (Dg (ho.own 27 (.base (Aa _ (aJ.2 aa))) _ _ aa)) (hs.below bw) s2 ab).mono ?_);rintro e w4 ⟨rfl,ic⟩;refine⟨_,aa,ic,λk4 _ b4=>wV aa ?_⟩;refine VO.cond aa dQ (wV aa ?_);refine VO.cond aa (by show 0+(j:Int).toNat*1+1<=_;rw[dC,dT];omega) (wV aa ?_);refine wN ?_;refine VS.narrow [(0,.val (.slice (some ⟨b1,o1,none⟩) n c)),(1,.val (.slice q m d)),(6,.row 12 0 n n),(7,.row 27 0 m' cap'),(8,.val (.int .i64 (j:Int)))] [(12,(3,iv (List.replicate j 0++(V/B)::qs))),(27,(3,iv (x::halves R)++ax))] ?_ ?_ aa ?_ ?_
  ·exact cA
  ·exact⟨au (λl=>some (_,l)) ((FL (j:=j) (x:=V/B) (by rw[hz];omega) (by rw[dC];omega)).trans (by rw[DA])),aa,ag⟩
  ·exact⟨.none (de _),.append (.none (de _)) (.none jH),ag⟩
  refine ae ?_;refine VO.cond aa dQ (wV aa ?_);refine VO.dY aa [.val (.int .i64 ((V/B:Nat):Int))] aa (Bf (j:=j) (by rw[jT bN];simp) (by rw[dC];omega)) (wV aa ?_);have xH:IntKind.i64.wrap ((j:Int)-1)=(j:Int)-1:=cV _ ab;refine VO.callN (dst:=41) (n:=(halves (V-V/B*B)).length) (t:=3) (sz:=1) (xs:=ints .i64 (halves (V-V/B*B))) aa aa aa (bM aa) (by show 1<=2;omega) aa (λw1 β k1 bw ho=>⟨(fk Tryz.func137),(Hq _ _ m' m (V/B) V B w1 (Dg (ho.own 27 (.base (Aa _ (aJ.2 aa))) _ _ aa)) (hs.below bw) s4 (Ol _ _) ab).mono ?_⟩);rintro e w5 ⟨v5,rfl,Qb,iz⟩;refine⟨v5,aa,iz,Qb.new,λ_ _ _ hv5=>wV aa ?_,λc5 sp5 _ _ _ hv5 hok5 hl5 Vg Oz=>wV aa ?_⟩
  ·have Wm:halves (V-V/B*B)=[]:=by
    subst hv5;obtain⟨e1,⟨_,e2⟩|⟨_,_,_,e2,_⟩⟩:=Qb
    ·exact js e2
    ·cases e2
   refine ae ?_;refine VS.back j ab ⟨_,_,?_,?_,?_,?_,⟨j,V-V/B*B,(V/B)::qs,.val (.slice none 0 0),[],ab,aa,aa,aa,.inl ⟨Wm,aa,aa⟩,by simp;omega,gN.cons s4 hqh,s3,s1⟩⟩
   ·exact⟨aa,aa,aa,aa,au (λz=>some (AV.val (.int .i64 z))) xH,ag⟩
   ·exact⟨aa,ag⟩
   ·rfl
   ·exact⟨.none (de _),ag⟩
  ·have zx:(halves (V-V/B*B)).length+sp5.length=c5:=by simpa using Oz
   refine ae ?_;refine VS.back j ab ⟨_,_,?_,?_,?_,?_,⟨j,V-V/B*B,(V/B)::qs,.row 41 0 _ c5,_,ab,aa,aa,aa,.inr ⟨c5,sp5.map .val,aa,aa,hl5,Vg,by simpa using zx,bP hok5,aw _⟩,by simp;omega,gN.cons s4 hqh,s3,s1⟩⟩
   ·exact⟨aa,aa,aa,aa,au (λz=>some (AV.val (.int .i64 z))) xH,ag⟩
   ·exact⟨aa,au (λl=>some (_,l)) (bC),ag⟩
   ·rfl
   ·exact⟨.none (de _),.append (.none (de _)) (.none (aw _)),ag⟩
set_option maxRecDepth 4000
variable {X:Int}
theorem dL.nO {v:Value} {j:Nat} (h:dL w v X j) (k:bQ KI w w'):dL w' v X j:=h.kp (U:=UU) k.nD
theorem dX.nO {v:Value} (h:dX w v X) (k:bQ KI w w'):dX w' v X:=h.kp (U:=UU) k.nD
theorem aO.nO {v:Value} (h:aO w B v X) (k:bQ KI w w'):aO w' B v X:=h.kp k.nD
theorem Rd.nO {v:Value} {n:Nat} (h:Rd w 1 v n (ints .u32 xs)) (k:bQ KI w w'):Rd w' 1 v n (ints .u32 xs):=h.kp (U:=UU) k.nD
theorem OwnU.nO {n:Nat} {v:Value} (h:w.ownsRow B UU 1 v n cs) (k:bQ KI w w'):w'.ownsRow B UU 1 v n cs:=Own.kp h k.nD
theorem ke (a:Nat):(halves a).length<=2*(limbs a).length:=by
 have:=fq (aK a)
 rwa [aB] at this
theorem mr (va:Value) (n a:Nat) (w:World) (hr:Rd w 1 va n (ints .u32 (limbs a))) (hn:n<=1073741824):
  Calls Tryz.prog 101 #[va] w λe w'=>∃ p c,e=.returned (.slice p (halves a).length c)/\w'.ownsRow w.heap.size 3 1 (.slice p (halves a).length c) (halves a).length (ints .i64 (halves a))/\aU w w':=
 (Mg va n _ w hr (aK a) hn).mono λe w' ⟨v',he,ho,hb⟩=>by
  rw[aB] at ho;obtain⟨p,c,rfl,_⟩:=Own.form ho;exact⟨p,c,he,ho,hb⟩
theorem uP (va:Value) (n a:Nat) (w:World) (hr:Rd w 1 va n (ints .i64 (halves a))) (hn:n<=2147483646):
  Calls Tryz.prog 99 #[va] w λe w'=>∃ p c xs,e=.returned (.slice p ((n+1)/2) c)/\w'.ownsRow w.heap.size UU 1 (.slice p ((n+1)/2) c) ((n+1)/2) (ints .u32 xs)/\ay xs=a/\ez xs/\aU w w':=
 (PY va n _ w hr (dv a) ab).mono λe w' ⟨v',xs,he,hl,ho,hv,hx,hb⟩=>by
  obtain⟨p,c,rfl,_⟩:=Own.form ho;exact⟨p,c,xs,he,ho,by rw[hv,cf],hx,hb⟩
theorem Hu (va vb:Value) (n m A B:Nat) (w:World) (hr:Rd w 1 va n (ints .i64 (halves A))) (hs:Rd w 1 vb m (ints .i64 (halves B))) (hB:0<B) (hn:n<=1073741824) (hm:m<=1073741824):
  Calls Tryz.prog 119 #[va,vb] w λe w'=>∃ p c q d,e=.returned (.tuple #[.slice p (halves (A/B)).length c,.slice q (halves (A%B)).length d])/\w'.ownsRow w.heap.size 3 1 (.slice p (halves (A/B)).length c) (halves (A/B)).length (ints .i64 (halves (A/B)))/\w'.ownsRow w.heap.size 3 1 (.slice q (halves (A%B)).length d) (halves (A%B)).length (ints .i64 (halves (A%B)))/\aU w w':=
 (Qa va vb n m A B w hr hs hB hn hm).mono λe w' ⟨v,u,he,h1,h2,hb⟩=>by
  obtain⟨p,c,rfl⟩:=h1.form;obtain⟨q,d,rfl⟩:=h2.form;exact⟨p,c,q,d,he,h1.own,h2.own,hb⟩
theorem prod_sgn {Y:Int} {s t:Bool} (hX:X=if s=true then-(X.natAbs:Int) else X.natAbs) (hY:Y=if t=true then-(Y.natAbs:Int) else Y.natAbs):(if (!(s == t))=true then-((X.natAbs*Y.natAbs:Nat):Int) else ((X.natAbs*Y.natAbs:Nat):Int))=X*Y:=by
 generalize X.natAbs=a at*;generalize Y.natAbs=b at*;subst hX hY;cases s <;> cases t <;> simp[Int.neg_mul,Int.mul_neg]
theorem xj (v u:Value) (X Y:Int) (j k:Nat) (w:World) (hv:dL w v X j) (hu:dL w u Y k) (hj:j<=268435456) (hk:k<=268435456):
  Calls Tryz.prog 63 #[v,u] w λe w'=>∃ r,e=.returned r/\aO w' w.heap.size r (X*Y)/\aU w w':=by
 obtain⟨s,p,n,c,rfl⟩:=hv.form;obtain⟨t,q,m,d,rfl⟩:=hu.form;have qK:=hv.len;have vN:=hu.len;refine ah (C:=Sw Tryz.prog w _) (args:=[_,_]) JX aa Tryz.ntmps63 (bM aa) ?_;refine iu ?_;refine VO.call aa aa (fk wv) (λbn cG bo=>(om _ X j bn (hv.nO cG)).mono ?_);rintro e w1 ⟨r1,rfl,h1,bA⟩;obtain⟨s1,p1,n1,c1,rfl⟩:=h1.lE;refine gZ bA ?_;intro eF _ bb1;refine VO.call aa aa (fk wv) (λcz dB cT=>(om _ Y k cz (hu.nO (eF.aR dB))).mono ?_);rintro e w2 ⟨r2,rfl,h2,cC⟩;obtain⟨s2,p2,n2,c2,rfl⟩:=h2.lE;refine gZ cC ?_;intro fe _ bb2;have e1:=uN h1.Zt;have e2:=uN h2.Zt;have l1:=ke X.natAbs;have l2:=ke Y.natAbs;refine VO.call aa aa (fk Gj) (λeP fA ft=>(mr _ n1 X.natAbs eP (h1.row.nO (dB.aR ((bQ.of cC).aR fA))) (by rw[h1.n];omega)).mono ?_);rintro e w3 ⟨p3,c3,rfl,h3,dZ⟩
 skip
 refine gZ dZ ?_;intro jm _ bb3;refine VO.call aa aa (fk Gj) (λfW iJ iB=>(mr _ n2 Y.natAbs fW (h2.row.nO (fA.aR ((bQ.of dZ).aR iJ))) (by rw[h2.n];omega)).mono ?_);rintro e w4 ⟨p4,c4,rfl,h4,ic⟩
 skip
 refine gZ ic ?_;intro mB _ tI;refine VO.call aa aa (fk Tryz.func100) (λfQ iH fV=>(DB _ _ _ _ (halves X.natAbs) (halves Y.natAbs) fQ (Rd.own (Ei.kp h3 (iJ.aR ((bQ.of ic).aR iH)))) (Rd.own (Ei.kp h4 iH)) (dv _) (dv _) ab ab).mono ?_);rintro e w5 ⟨v5,rfl,h5,iz⟩;rw[cf,cf] at h5;obtain⟨p5,c5,rfl⟩:=h5.form
 have l5:(halves (X.natAbs*Y.natAbs)).length<=1073741824:=by
  refine bj (ke _) ?_;have:=Sz.mul (X:=X) (Y:=Y) qK vN;unfold Sz at this;rw[Int.natAbs_mul] at this;omega
 refine gZ iz ?_;intro lg _ sR;refine VO.call aa aa (fk Tryz.func99) (λfJ iK gE=>(uP _ _ (X.natAbs*Y.natAbs) fJ (Rd.own (h5.nO iK).own) ab).mono ?_);rintro e w6 ⟨p6,c6,xs6,rfl,h6,hx6,hl6,ln⟩
 skip
 refine gZ ln ?_;intro lH _ sj;refine VO.cI aa aa (fk yG) (λjS na jI=>mZ (!(s1 == s2)) _ _ xs6 jS (Rd.own (OwnU.nO h6 na)) hl6 ab) (λjS na jI w7 s7 p7 n7 c7 h7 ta rB _ Ct=>wV aa ?_);refine iu ?_;refine Bg ?_;intro wz kz bz;refine⟨_,aa,aO.cast ((h7.nO kz).mono jI.size) ?_,bz⟩;rw[hx6];exact prod_sgn e1 e2
theorem Vh {s:Bool} {n:Nat} (h:n≠0):(if s=true then-(n:Int) else n).sign=if s=true then-1 else 1:=by
 cases s
 ·exact im (by simp;omega)
 ·exact sign_neg (by simp;omega)
theorem div_len {a b:Nat}:(halves (a/b)).length<=(halves a).length:=fM ab (Oq _ _)
theorem mod_len {a b:Nat}:(halves (a%b)).length<=(halves a).length:=fM ab (Nat.mod_le _ _)
theorem Vi {a:Nat} {s:Bool} (hl:ez xs) (hv:ay xs=a):Sz (if s=true then-((ay xs:Nat):Int) else ay xs) xs.length:=by
 unfold Sz;have:(if s=true then-((ay xs:Nat):Int) else ay xs).natAbs=ay xs:=by cases s <;> simp
 rw[this];exact mO hl
theorem sk (v u:Value) (X Y:Int) (j k:Nat) (w:World) (hv:dL w v X j) (hu:dL w u Y k) (hj:j<=134217728) (hk:k<=134217728):
  Calls Tryz.prog 95 #[v,u] w λe w'=>Hj w w' X Y e/\aU w w':=by
 obtain⟨s,p,n,c,rfl⟩:=hv.form;obtain⟨t,q,m,d,rfl⟩:=hu.form;have qK:=hv.len;have vN:=hu.len;refine ah (C:=Sw Tryz.prog w _) (args:=[_,_]) Tryz.func95 aa Tryz.ntmps95 (bM aa) ?_;refine iu ?_;refine VO.call aa aa (fk wv) (λbn cG bo=>(om _ X j bn (hv.nO cG)).mono ?_);rintro e w1 ⟨r1,rfl,h1,bA⟩;obtain⟨s1,p1,n1,c1,rfl⟩:=h1.lE;refine gZ bA ?_;intro eF _ bb1;refine VO.call aa aa (fk wv) (λcz dB cT=>(om _ Y k cz (hu.nO (eF.aR dB))).mono ?_);rintro e w2 ⟨r2,rfl,h2,cC⟩;obtain⟨s2,p2,n2,c2,rfl⟩:=h2.lE;refine gZ cC ?_;intro fe _ bb2;have e1:=uN h1.Zt;have e2:=uN h2.Zt;have l1:=ke X.natAbs;have l2:=ke Y.natAbs;by_cases hY:Y=0
 ·have rn:n2=0:=by rw[h2.n,hY];exact au List.length dy
  refine VS.aV aa (by rw[beq_iff_eq];omega) ?_;refine iu ?_;refine Bg ?_;intro wz kz bz;exact⟨.inl ⟨hY,_,_,aa,aO.zero _ _,aO.zero _ _⟩,bz⟩
 ·have hY0:Y.natAbs≠0:=by omega
  have rn:n2≠0:=by rw[h2.n];intro e;exact hY0 (wB e)
  refine VS.aP aa (by rw[iZ];omega) ?_;refine iu ?_;refine VO.call aa aa (fk Gj) (λeP fA ft=>(mr _ n1 X.natAbs eP (h1.row.nO (dB.aR ((bQ.of cC).aR fA))) (by rw[h1.n];omega)).mono ?_);rintro e w3 ⟨p3,c3,rfl,h3,dZ⟩
  skip
  refine gZ dZ ?_;intro jm _ bb3;refine VO.call aa aa (fk Gj) (λfW iJ iB=>(mr _ n2 Y.natAbs fW (h2.row.nO (fA.aR ((bQ.of dZ).aR iJ))) (by rw[h2.n];omega)).mono ?_);rintro e w4 ⟨p4,c4,rfl,h4,ic⟩
  skip
  refine gZ ic ?_;intro mB _ tI;refine VO.call aa aa (fk Tryz.func119) (λfQ iH fV=>(Hu _ _ _ _ X.natAbs Y.natAbs fQ (Rd.own (Ei.kp h3 (iJ.aR ((bQ.of ic).aR iH)))) (Rd.own (Ei.kp h4 iH)) ab ab ab).mono ?_);rintro e w5 ⟨p5,c5,q5,d5,rfl,h5,h5',iz⟩
  skip
  refine gZ iz ?_;intro lg _ sR;have l5:(halves (X.natAbs/Y.natAbs)).length<=(halves X.natAbs).length:=div_len;have l5':(halves (X.natAbs%Y.natAbs)).length<=(halves X.natAbs).length:=mod_len;refine VO.call aa aa (fk Tryz.func99) (λfJ iK gE=>(uP _ _ (X.natAbs/Y.natAbs) fJ (Rd.own (Ei.kp h5 iK)) ab).mono ?_);rintro e w6 ⟨p6,c6,xs6,rfl,h6,hx6,hl6,ln⟩
  skip
  refine gZ ln ?_;intro lH _ sj;refine VO.cI aa aa (fk yG) (λjS na jI=>mZ (!(s1 == s2)) _ _ xs6 jS (Rd.own (OwnU.nO h6 na)) hl6 ab) (λjS na jI w7 s7 p7 n7 c7 h7 ta rB _ Ct=>wV aa ?_);refine iu ?_;refine VO.call aa aa (fk Tryz.func99) (λpV yn ru=>(uP _ _ (X.natAbs%Y.natAbs) pV (Rd.own (Ei.kp h5' (iK.aR ((bQ.of ln).aR (na.aR ((bQ.of ta).aR yn)))))) ab).mono ?_);rintro e w8 ⟨p8,c8,xs8,rfl,h8,hx8,hl8,vG⟩
  skip
  refine gZ vG ?_;intro vP _ KW;refine VO.cI aa aa (fk yG) (λRs Yu Rt=>mZ s1 _ _ xs8 Rs (Rd.own (OwnU.nO h8 Yu)) hl8 ab) (λRs Yu Rt w9 s9 p9 n9 c9 h9 Sg Jp _ bb9=>wV aa ?_);refine iu ?_;have z7:Sz (if (!(s1 == s2))=true then-((ay xs6:Nat):Int) else ay xs6) xs6.length:=Vi hl6 hx6;have z9:Sz (if s1=true then-((ay xs8:Nat):Int) else ay xs8) xs8.length:=Vi hl8 hx8;have lx6:xs6.length<=268435457:=by have:=h6.1;simp at this;omega
  have lx8:xs8.length<=268435457:=by have:=h8.1;simp at this;omega
  rw[hx6] at h7 z7;rw[hx8] at h9 z9;have law:=@xQ X Y X.natAbs Y.natAbs;by_cases Gt:X.natAbs%Y.natAbs=0
  ·have s0:(if s1=true then-((X.natAbs%Y.natAbs:Nat):Int) else ((X.natAbs%Y.natAbs:Nat):Int))=0:=by rw[Gt];cases s1 <;> rfl
   rw[s0] at h9 z9;refine VO.cB aa aa (fk mI) (λnb rC qV=>eI _ 0 _ nb ((h9.nO rC).in z9) ab) (λnb rC qV Yv xk kf _ Hv=>wV aa ?_)
   (repeat (first|refine wN ?_|refine wP aa ?_|refine KJ aa ?_|refine wO aa aa ?_))
   refine VS.PE (uM _ _) (qq _ _) 5 aa ?_
   (repeat' (first|refine VA.go aa ?_|refine VA.fin aa ?_|refine VA.iA _ aa aa ?_|refine VA.cons aa ?_ ?_|exact VA.nil aa))
   all_goals
    refine iu ?_;refine Bg ?_;intro wz kz bz;obtain⟨g1,g2⟩:=law e1 e2 hY0 (.inl ⟨.inr Gt,aa,aa⟩);refine⟨.inr ⟨hY,_,_,aa,aO.cast ((h7.nO (vP.aR (Jp.aR (kf.aR kz)))).mono jI.size) g1.symm,aO.cast ((h9.nO (kf.aR kz)).mono Rt.size) ?_⟩,bz⟩;rw[g2,Gt];cases s2 <;> rfl
  ·have sy:=Vh (s:=s2) hY0;rw[<-e2] at sy;have sr:=Vh (s:=s1) Gt;rcases hs12:(s1,s2) with ⟨_|_,_|_⟩ <;> cases hs12
   ·replace sr:(if false=true then-((X.natAbs%Y.natAbs:Nat):Int) else ((X.natAbs%Y.natAbs:Nat):Int)).sign=1:=sr;replace sy:Y.sign=1:=sy;refine VO.call aa aa (fk mI) (λnb rC qV=>(eI _ _ _ nb ((h9.nO rC).in z9) ab).mono ?_);rintro e Yv ⟨rfl,xk⟩;rw[sr];refine gZ xk ?_;intro kf _ Hv;refine VO.call aa aa (fk mI) (λrD tK xm=>(eI _ _ _ rD ((h9.nO (kf.aR tK)).in z9) ab).mono ?_);rintro e w11 ⟨rfl,Cu⟩;rw[sr];refine gZ Cu ?_;intro qe _ Qc;refine VO.call aa aa (fk mI) (λsU yo vQ=>(eI _ Y k sU ((h2.nO (jm.aR (mB.aR (lg.aR (lH.aR (rB.aR (vP.aR (Jp.aR (kf.aR (qe.aR yo)))))))))).to vN) ab).mono ?_);rintro e w12 ⟨rfl,Cv⟩;rw[sy];refine⟨_,aa,Cv,λtL _ Qd=>wV aa ?_⟩
    (repeat (first|refine wN ?_|refine wP aa ?_|refine KJ aa ?_|refine wO aa aa ?_))
    refine VS.PE (uM _ _) (qq _ _) 5 aa ?_
    (repeat' (first|refine VA.go aa ?_|refine VA.fin aa ?_|refine VA.iA _ aa aa ?_|refine VA.cons aa ?_ ?_|exact VA.nil aa))
    all_goals
     refine iu ?_;refine Bg ?_;intro wz kz bz;obtain⟨g1,g2⟩:=law e1 e2 hY0 (.inl ⟨.inl aa,aa,aa⟩);exact⟨.inr ⟨hY,_,_,aa,aO.cast ((h7.nO (vP.aR (Jp.aR (kf.aR (qe.aR (tL.aR kz)))))).mono jI.size) g1.symm,aO.cast ((h9.nO (kf.aR (qe.aR (tL.aR kz)))).mono Rt.size) g2.symm⟩,bz⟩
   ·replace sr:(if false=true then-((X.natAbs%Y.natAbs:Nat):Int) else ((X.natAbs%Y.natAbs:Nat):Int)).sign=1:=sr;replace sy:Y.sign= -1:=sy;refine VO.call aa aa (fk mI) (λnb rC qV=>(eI _ _ _ nb ((h9.nO rC).in z9) ab).mono ?_);rintro e Yv ⟨rfl,xk⟩;rw[sr];refine gZ xk ?_;intro kf _ Hv;refine VO.call aa aa (fk mI) (λrD tK xm=>(eI _ _ _ rD ((h9.nO (kf.aR tK)).in z9) ab).mono ?_);rintro e w11 ⟨rfl,Cu⟩;rw[sr];refine gZ Cu ?_;intro qe _ Qc;refine VO.call aa aa (fk mI) (λsU yo vQ=>(eI _ Y k sU ((h2.nO (jm.aR (mB.aR (lg.aR (lH.aR (rB.aR (vP.aR (Jp.aR (kf.aR (qe.aR yo)))))))))).to vN) ab).mono ?_);rintro e w12 ⟨rfl,Cv⟩;rw[sy];refine gZ Cv ?_;intro tL _ Qd;refine VO.cI aa aa (fk yH) (λyq Hw xn=>qd 1 yq ab ab) (λyq Hw xn vI s13 p13 n13 c13 h13 Xi Cw _ bb13=>wV aa ?_);refine iu ?_;refine VO.cI aa aa (fk Tryz.func120) (λxo zy vR=>PX _ _ _ 1 _ 1 xo (((h7.nO (vP.aR (Jp.aR (kf.aR (qe.aR (tL.aR (Cw.aR zy))))))).in z7)) ((h13.nO zy).in (Sz.small bq)) ab ab) (λxo zy vR NA s14 p14 n14 c14 h14 hb14 Mh _ bb14=>wV aa ?_);refine iu ?_;refine VO.cI aa aa (fk Tryz.func62) (λHx Hy Hz=>Bd _ _ _ Y _ k Hx ((h9.nO (kf.aR (qe.aR (tL.aR (Cw.aR (Mh.aR Hy)))))).in z9) ((h2.nO (jm.aR (mB.aR (lg.aR (lH.aR (rB.aR (vP.aR (Jp.aR (kf.aR (qe.aR (tL.aR (Cw.aR (Mh.aR Hy))))))))))))).to vN) ab ab) (λHx Hy Hz Xj s15 p15 n15 c15 h15 hb15 kb15 _ bb15=>wV aa ?_)
    (repeat (first|refine wN ?_|refine wP aa ?_|refine KJ aa ?_|refine wO aa aa ?_))
    refine VS.PE (uM _ _) (qq _ _) 5 aa ?_
    (repeat' (first|refine VA.go aa ?_|refine VA.fin aa ?_|refine VA.iA _ aa aa ?_|refine VA.cons aa ?_ ?_|exact VA.nil aa))
    all_goals
     refine iu ?_;refine Bg ?_;intro wz kz bz;have hlt:=gC X.natAbs (show 0<Y.natAbs by omega);obtain⟨g1,g2⟩:=law e1 e2 hY0 (.inr ⟨bN,Gt,aa,aa⟩);refine⟨.inr ⟨hY,_,_,aa,aO.cast ((h14.nO (kb15.aR kz)).mono vR.size) ?_,aO.cast ((h15.nO kz).mono Hz.size) ?_⟩,bz⟩
     ·rw[g1];simp;omega
     ·rw[g2];simp at e1 e2 ⊢;omega
   ·replace sr:(if true=true then-((X.natAbs%Y.natAbs:Nat):Int) else ((X.natAbs%Y.natAbs:Nat):Int)).sign= -1:=sr;replace sy:Y.sign=1:=sy;refine VO.call aa aa (fk mI) (λnb rC qV=>(eI _ _ _ nb ((h9.nO rC).in z9) ab).mono ?_);rintro e Yv ⟨rfl,xk⟩;rw[sr];refine gZ xk ?_;intro kf _ Hv;refine VO.call aa aa (fk mI) (λrD tK xm=>(eI _ _ _ rD ((h9.nO (kf.aR tK)).in z9) ab).mono ?_);rintro e w11 ⟨rfl,Cu⟩;rw[sr];refine gZ Cu ?_;intro qe _ Qc;refine VO.call aa aa (fk mI) (λsU yo vQ=>(eI _ Y k sU ((h2.nO (jm.aR (mB.aR (lg.aR (lH.aR (rB.aR (vP.aR (Jp.aR (kf.aR (qe.aR yo)))))))))).to vN) ab).mono ?_);rintro e w12 ⟨rfl,Cv⟩;rw[sy];refine gZ Cv ?_;intro tL _ Qd;refine VO.cI aa aa (fk yH) (λyq Hw xn=>qd 1 yq ab ab) (λyq Hw xn vI s13 p13 n13 c13 h13 Xi Cw _ bb13=>wV aa ?_);refine iu ?_;refine VO.cI aa aa (fk Tryz.func120) (λxo zy vR=>PX _ _ _ 1 _ 1 xo (((h7.nO (vP.aR (Jp.aR (kf.aR (qe.aR (tL.aR (Cw.aR zy))))))).in z7)) ((h13.nO zy).in (Sz.small bq)) ab ab) (λxo zy vR NA s14 p14 n14 c14 h14 hb14 Mh _ bb14=>wV aa ?_);refine iu ?_;refine VO.cI aa aa (fk Tryz.func62) (λHx Hy Hz=>Bd _ _ _ Y _ k Hx ((h9.nO (kf.aR (qe.aR (tL.aR (Cw.aR (Mh.aR Hy)))))).in z9) ((h2.nO (jm.aR (mB.aR (lg.aR (lH.aR (rB.aR (vP.aR (Jp.aR (kf.aR (qe.aR (tL.aR (Cw.aR (Mh.aR Hy))))))))))))).to vN) ab ab) (λHx Hy Hz Xj s15 p15 n15 c15 h15 hb15 kb15 _ bb15=>wV aa ?_)
    (repeat (first|refine wN ?_|refine wP aa ?_|refine KJ aa ?_|refine wO aa aa ?_))
    refine VS.PE (uM _ _) (qq _ _) 5 aa ?_
    (repeat' (first|refine VA.go aa ?_|refine VA.fin aa ?_|refine VA.iA _ aa aa ?_|refine VA.cons aa ?_ ?_|exact VA.nil aa))
    all_goals
     refine iu ?_;refine Bg ?_;intro wz kz bz;have hlt:=gC X.natAbs (show 0<Y.natAbs by omega);obtain⟨g1,g2⟩:=law e1 e2 hY0 (.inr ⟨bN,Gt,aa,aa⟩);refine⟨.inr ⟨hY,_,_,aa,aO.cast ((h14.nO (kb15.aR kz)).mono vR.size) ?_,aO.cast ((h15.nO kz).mono Hz.size) ?_⟩,bz⟩
     ·rw[g1];simp;omega
     ·rw[g2];simp at e1 e2 ⊢;omega
   ·replace sr:(if true=true then-((X.natAbs%Y.natAbs:Nat):Int) else ((X.natAbs%Y.natAbs:Nat):Int)).sign= -1:=sr;replace sy:Y.sign= -1:=sy;refine VO.call aa aa (fk mI) (λnb rC qV=>(eI _ _ _ nb ((h9.nO rC).in z9) ab).mono ?_);rintro e Yv ⟨rfl,xk⟩;rw[sr];refine gZ xk ?_;intro kf _ Hv;refine VO.call aa aa (fk mI) (λrD tK xm=>(eI _ _ _ rD ((h9.nO (kf.aR tK)).in z9) ab).mono ?_);rintro e w11 ⟨rfl,Cu⟩;rw[sr];refine gZ Cu ?_;intro qe _ Qc;refine VO.call aa aa (fk mI) (λsU yo vQ=>(eI _ Y k sU ((h2.nO (jm.aR (mB.aR (lg.aR (lH.aR (rB.aR (vP.aR (Jp.aR (kf.aR (qe.aR yo)))))))))).to vN) ab).mono ?_);rintro e w12 ⟨rfl,Cv⟩;rw[sy];refine⟨_,aa,Cv,λtL _ Qd=>wV aa ?_⟩
    (repeat (first|refine wN ?_|refine wP aa ?_|refine KJ aa ?_|refine wO aa aa ?_))
    refine VS.PE (uM _ _) (qq _ _) 5 aa ?_
    (repeat' (first|refine VA.go aa ?_|refine VA.fin aa ?_|refine VA.iA _ aa aa ?_|refine VA.cons aa ?_ ?_|exact VA.nil aa))
    all_goals
     refine iu ?_;refine Bg ?_;intro wz kz bz;obtain⟨g1,g2⟩:=law e1 e2 hY0 (.inl ⟨.inl aa,aa,aa⟩);exact⟨.inr ⟨hY,_,_,aa,aO.cast ((h7.nO (vP.aR (Jp.aR (kf.aR (qe.aR (tL.aR kz)))))).mono jI.size) g1.symm,aO.cast ((h9.nO (kf.aR (qe.aR (tL.aR kz)))).mono Rt.size) g2.symm⟩,bz⟩
set_option maxRecDepth 4000
theorem gcd_len {a b N:Nat} (hb:b≠0) (ha:(halves a).length<=N) (hbl:(halves b).length<=N):(halves (a%b)).length<=N:=bj (fM ab (Nat.le_of_lt (gC a (Nat.pos_of_ne_zero hb)))) hbl
theorem gn (h:P:=by (repeat first|exact ag|refine⟨jj.lit rfl,?_⟩|refine⟨jj.vals _,?_⟩)):P:=h
theorem HF (v u:Value) (X Y:Int) (j k:Nat) (w:World) (hv:dL w v X j) (hu:dL w u Y k) (hj:j<=268435456) (hk:k<=268435456):
  Calls Tryz.prog 94 #[v,u] w λe w'=>∃ r,e=.returned r/\aO w' w.heap.size r (Int.gcd X Y:Int)/\aU w w':=by
 obtain⟨s,p,n,c,rfl⟩:=hv.form;obtain⟨t,q,m,d,rfl⟩:=hu.form;have qK:=hv.len;have vN:=hu.len;have l1:=ke X.natAbs;have l2:=ke Y.natAbs;refine ah (C:=Sw Tryz.prog w _) (args:=[_,_]) Tryz.func94 aa Tryz.ntmps94 (bM aa) ?_;refine iu ?_;refine VO.call aa aa (fk wv) (λbn cG bo=>(om _ X j bn (hv.nO cG)).mono ?_);rintro e w1 ⟨r1,rfl,h1,bA⟩;obtain⟨s1,p1,n1,c1,rfl⟩:=h1.lE;refine gZ bA ?_;intro eF _ bb1;refine VO.call aa aa (fk Gj) (λeP fA ft=>(mr _ n1 X.natAbs eP (h1.row.nO fA) (by rw[h1.n];omega)).mono ?_);rintro e w3 ⟨p3,c3,rfl,h3,dZ⟩
 skip
 refine gZ dZ ?_;intro jm _ bb3;refine VO.call aa aa (fk wv) (λcz dB cT=>(om _ Y k cz (hu.nO (eF.aR (jm.aR dB)))).mono ?_);rintro e w2 ⟨r2,rfl,h2,cC⟩;obtain⟨s2,p2,n2,c2,rfl⟩:=h2.lE;refine gZ cC ?_;intro fe _ bb2;refine VO.call aa aa (fk Gj) (λfW iJ iB=>(mr _ n2 Y.natAbs fW (h2.row.nO iJ) (by rw[h2.n];omega)).mono ?_);rintro e w4 ⟨p4,c4,rfl,h4,ic⟩
 skip
 refine gZ ic ?_;intro mB _ tI
 refine VS.loop (J:=λms L M w'=>∃ (a b:Nat) (px:Option Addr) (cx:Nat) (py:Option Addr) (cy:Nat),ms=b/\Nat.gcd a b=Int.gcd X Y/\L=[(4,.box 4 0),(5,.val (.slice px (halves a).length cx)),(6,.val (.slice py (halves b).length cy))]/\M=[(4,(53,([.bool false,.slice none 0 0]:List Value).map .val))]/\
  (halves a).length<=536870912/\(halves b).length<=536870912/\w'.ownsRow w.heap.size 3 1 (.slice px (halves a).length cx) (halves a).length (ints .i64 (halves a))/\w'.ownsRow w.heap.size 3 1 (.slice py (halves b).length cy) (halves b).length (ints .i64 (halves b))) Y.natAbs
  ⟨_,_,?_,?_,?_,?_,⟨X.natAbs,Y.natAbs,p3,c3,p4,c4,rfl,rfl,rfl,rfl,ab,ab,Ei.kp (Own.mono h3 ft.size) (fe.aR mB),Own.mono h4 iB.size⟩⟩ ?_
 ·exact cA
 ·exact cA
 ·rfl
 ·exact gn
 rintro ms L M w' ⟨a,b,px,cx,py,cy,hms,hg,rfl,rfl,la,lb,oa,ob⟩;refine iu ?_;by_cases yj:b=0
 ·subst yj;have FH:(halves 0).length=0:=by rw[sf];rfl
  refine VS.aP aa (aA (by rw[FH];omega)) ?_;refine iu ?_;refine VO.call aa aa (fk Tryz.func99) (λfJ iK gE=>(uP _ _ a fJ (Rd.own (Ei.kp oa iK)) ab).mono ?_);rintro e w6 ⟨p6,c6,xs6,rfl,h6,hx6,hl6,ln⟩
  skip
  refine gZ ln ?_;intro lH _ sj;refine VO.cI aa aa (fk yG) (λjS na jI=>mZ false _ _ xs6 jS (Rd.own (OwnU.nO h6 na)) hl6 ab) (λjS na jI w7 s7 p7 n7 c7 h7 ta rB _ Ct=>wV aa ?_);refine iu ?_;refine Bg ?_;intro wz kz bz;refine⟨_,aa,aO.cast ((h7.nO kz).mono jI.size) ?_,bz⟩;rw[hx6,<-hg,Nat.gcd_zero_right];rfl
 ·have hlp:0<(halves b).length:=vD ab yj;refine VS.aV aa (aE ab) ?_;refine iu ?_;refine VO.call aa aa (fk Tryz.func119) (λfQ iH fV=>(Hu _ _ _ _ a b fQ (Rd.own (Ei.kp oa iH)) (Rd.own (Ei.kp ob iH)) ab ab ab).mono ?_);rintro e w5 ⟨p5,c5,q5,d5,rfl,h5,h5',iz⟩
  skip
  refine gZ iz ?_;intro lg _ sR;refine VS.back (a%b) (by rw[hms];exact gC _ ab) ⟨_,_,?_,?_,?_,?_,⟨b,a%b,py,cy,q5,d5,aa,by rw[<-hg,Nat.gcd_comm a b,Nat.gcd_comm b (a%b)];exact (Nat.gcd_rec b a).symm,aa,aa,lb,gcd_len yj la lb,Ei.kp ob lg,Own.mono h5' fV.size⟩⟩
  ·exact cA
  ·exact cA
  ·rfl
  ·exact gn
end
end Go.Proofs.YtabalinjfgcfeaaGreat
