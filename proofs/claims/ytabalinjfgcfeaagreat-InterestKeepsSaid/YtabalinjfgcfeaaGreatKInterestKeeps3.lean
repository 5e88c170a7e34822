/- Df of the proof,laid behind one another. -/
import Derived.Test.YtabalinjfgcfeaaGreatKInterestKeeps2
set_option linter.all false
set_option maxHeartbeats 64000000
namespace Go.Proofs.YtabalinjfgcfeaaGreat
section
open Go.RowKit
theorem bld_of {P:Program} {t:TypeId} {zero:Value} {places:Array (Nat×Nat)} {fs:Array Field} (hz:∀ w,(zeroValue t).run P w=.ok zero w) (hu:P.underlying t=some (.struct fs))
  (hp:∀ w,(fs.mapM (fun f=>do pure (f.offset,<-sizeOf f.type)):Sem (Array (Nat×Nat))).run P w=.ok places w) (ps:Array (Nat×Value)) (w:World) (cs:Array Value)
  (h:Instr.fill (places[·]?) zero.cells ps.toList=some cs):(Instr.build t ps).run P w=.ok (.agg cs) w:=by
 unfold Instr.build
 simp only [Sem.run_bind,hz,Result.andThen_ok,run_underlying hu,hp]
 rw [h]
 rfl
theorem fld_agg {P:Program} {t:TypeId} {k:Nat} {fs:Array Field} {f:Field} (o n:Nat) (hu:P.underlying t=some (.struct fs)) (hf:fs[k]? =some f) (ho:f.offset=o) (hb:∀ w,(isAgg f.type).run P w=.ok true w) (hs:∀ w,(sizeOf f.type).run P w=.ok n w)
  {cs:Array Value} {w:World} {v:Value} (h:some (Value.agg (cs.extract o (o + n)))=some v):(Instr.field t (.agg cs) k).run P w=.ok v w:=by
 cases h
 subst ho
 unfold Instr.field
 simp [run_underlying hu,hf,asAgg,part,hb,hs]
theorem fld_one {P:Program} {t:TypeId} {k:Nat} {fs:Array Field} {f:Field} (o:Nat) (hu:P.underlying t=some (.struct fs)) (hf:fs[k]? =some f) (ho:f.offset=o) (hb:∀ w,(isAgg f.type).run P w=.ok false w)
  {cs:Array Value} {w:World} {v:Value} (h:cs[o]? =some v):(Instr.field t (.agg cs) k).run P w=.ok v w:=by
 subst ho
 unfold Instr.field
 simp [run_underlying hu,hf,asAgg,part,hb,h]
inductive Px (P:Program) (t:TypeId):Nat->List Field->List (Nat×Nat)->List Bool->Prop
 | nil {j:Nat}:Px P t j [] [] []
 | cons {j:Nat} {f:Field} {fs:List Field} {p:Nat×Nat} {ps:List (Nat×Nat)} {a:Bool} {gs:List Bool} (h1:∀ b o w,(Instr.fieldAt t (.pointer (some ⟨b,o,none⟩)) j).run P w=.ok (.pointer (some ⟨b,o + p.1,none⟩)) w) (h2:f.offset=p.1) (h3:∀ w,(isAgg f.type).run P w=.ok a w) (h4:a=true->∀ w,(sizeOf f.type).run P w=.ok p.2 w) (h:Px P t (j + 1) fs ps gs):Px P t j (f::fs) (p::ps) (a::gs)
theorem Px.get {P:Program} {t:TypeId} {j:Nat} {fs:List Field} {ps:List (Nat×Nat)} {gs:List Bool} (h:Px P t j fs ps gs):∀ (k:Nat) (p:Nat×Nat),ps[k]? =some p->(∀ b o w,(Instr.fieldAt t (.pointer (some ⟨b,o,none⟩)) (j + k)).run P w=.ok (.pointer (some ⟨b,o + p.1,none⟩)) w)/\∃ f a,fs[k]? =some f/\gs[k]? =some a/\f.offset=p.1/\(∀ w,(isAgg f.type).run P w=.ok a w)/\(a=true->∀ w,(sizeOf f.type).run P w=.ok p.2 w):=by
 induction h with
 | nil=>intro k p e;simp at e
 | cons h1 h2 h3 h4 _ ih=>
   intro k p e
   cases k with
   | zero=>simp at e;cases e;exact ⟨h1,_,_,rfl,rfl,h2,h3,h4⟩
   | succ k=>
     have:=ih k p (by simpa using e)
     rw [show ∀ j:Nat,j + 1 + k=j + (k + 1) from fun j=>by omega] at this
     simpa using this
@[reducible] def tF (z:Value) (b:Bool) (e:Option (TypeId×Nat)) (k:Option IntKind) (p:Bool):TI:={ size:=1,agg:=false,zero:=z,places:=#[],Pc:=#[],bool:=b,elem:=e,kind:=k,ptr:=p }
@[reducible] def tA (n:Nat) (z:Array Value) (p:Array (Nat×Nat)) (a:Array Bool):TI:={ size:=n,agg:=true,zero:=.agg z,places:=p,Pc:=a,bool:=false,elem:=none,kind:=none }
theorem okF {P:Program} {t:TypeId} {z:Value} {b:Bool} {e:Option (TypeId×Nat)} {k:Option IntKind} {p:Bool} {d:TypeDesc} (hu:P.underlying t=some d) (hb:b=true->P.underlying t=some .bool:=by intro h;cases h;try kernel_rfl) (hs:∀ c n,e=some (c,n)->P.underlying t=some (.slice c)/\∀ w,(sizeOf c).run P w=.ok n w:=by intro c n h;cases h;try (constructor;kernel_rfl;intro w;kernel_rfl)) (hi:∀ q,k=some q->P.underlying t=some (.int q):=by intro q h;cases h;try kernel_rfl) (hp:p=true->P.underlying t=some (.pointer (P.pointee t)):=by intro h;cases h;try kernel_rfl)
  (hr:d.isRow=false:=by rfl) (h1:(P.info? t).map (·.size)=some 1:=by kernel_rfl) (h2:z.cells.size=1:=by rfl) (h3:(P.info? t).map (·.zero)=some (some z):=by kernel_rfl) (h4:(P.info? t).map (fun q=>Nat.ble q.bytes (24 * 1))=some true:=by kernel_rfl) (h5:∀ w,(zeroValue t).run P w=.ok z w:=by intro w;kernel_rfl):TI.Ok P t (tF z b e k p) where
 row:=⟨_,hu,hr⟩
 isBool:=hb
 isSlice:=hs
 isInt:=hi
 MG:=hp
 AQ:=h2
 Ds:=h3
 bytes:=h4
 pos:=Nat.le_refl 1
 lone:=fun _=>rfl
 size:=h1
 zero:=h5
 RQ:=fun k p hp b o w=>by simp at hp
 fld:=fun k p hp cs w v hv=>by simp at hp
 bld:=fun h=>by cases h
theorem EW {P:Program} {t:TypeId} {n:Nat} {z:Array Value} {p:Array (Nat×Nat)} {a:Array Bool} {fs:Array Field} (hu:P.underlying t=some (.struct fs)) (hf:Px P t 0 fs.toList p.toList a.toList:=by repeat first | exact .nil | refine .cons (fun b o w=>by kernel_rfl) rfl (fun w=>by kernel_rfl) (by intro h;cases h;try (intro w;kernel_rfl)) ?_)
  (h1:(P.info? t).map (·.size)=some n:=by kernel_rfl) (h2:z.size=n:=by rfl) (h3:(P.info? t).map (·.zero)=some (some (.agg z)):=by kernel_rfl) (h4:(P.info? t).map (fun q=>Nat.ble q.bytes (24 * n))=some true:=by kernel_rfl) (h5:∀ w,(zeroValue t).run P w=.ok (.agg z) w:=by intro w;kernel_rfl) (h6:0 < n:=by exact bu rfl) (h7:∀ w,(fs.mapM (fun f=>do pure (f.offset,<-sizeOf f.type)):Sem (Array (Nat×Nat))).run P w=.ok p w:=by intro w;kernel_rfl):TI.Ok P t (tA n z p a) where
 row:=⟨_,hu,rfl⟩
 isBool:=fun h=>by cases h
 isSlice:=fun e n h=>by cases h
 isInt:=fun k h=>by cases h
 AQ:=h2
 Ds:=h3
 bytes:=h4
 pos:=h6
 lone:=fun h=>by cases h
 size:=h1
 zero:=h5
 RQ:=fun k q hq b o w=>by
  have:=(hf.get k q (by simpa using hq)).1 b o w
  rwa [Nat.zero_add] at this
 fld:=fun k q hq cs w v hv=>by
  obtain ⟨_,f,x,e1,e2,e3,e4,e5⟩:=hf.get k q (by simpa using hq)
  rw [Array.getElem?_toList] at e1 e2
  rw [e2] at hv
  cases x
  ·exact fld_one q.1 hu e1 e3 e4 hv
  ·exact fld_agg q.1 q.2 hu e1 e3 e4 (e5 rfl) hv
 bld:=fun _=>bld_of h5 hu h7
theorem tb {P:Program} {t u:TypeId} {i x:TI} {r:Option TI} (hk:TI.Ok P u i) (hr:r=some x->TI.Ok P t x) (h:(bif Nat.beq t u then some i else r)=some x):TI.Ok P t x:=by
 cases hb:Nat.beq t u
 ·rw [hb] at h;exact hr h
 ·rw [hb] at h;cases h;rw [Nat.eq_of_beq_eq_true hb];exact hk
def ti0:TI:=tF (.int .i64 0) false none (some .i64) false
theorem ok0:TI.Ok Tryz.prog 2 ti0:=okF Tryz.underlying2
def ti1:TI:=tF (.int .i64 0) false none (some .i64) false
theorem ok1:TI.Ok Tryz.prog 3 ti1:=okF Tryz.underlying3
def ti2:TI:=tF (.bool false) true none none false
theorem ok2:TI.Ok Tryz.prog 4 ti2:=okF Tryz.underlying4
def ti3:TI:=tF (.int .u8 0) false none (some .u8) false
theorem ok3:TI.Ok Tryz.prog 5 ti3:=okF Tryz.underlying5
def ti4:TI:=tF (.string ⟨#[]⟩) false none none false
theorem ok4:TI.Ok Tryz.prog 9 ti4:=okF Tryz.underlying9
def ti5:TI:=tF (.int .u64 0) false none (some .u64) false
theorem ok5:TI.Ok Tryz.prog 12 ti5:=okF Tryz.underlying12
def ti6:TI:=tF (.slice none 0 0) false (some (117,1)) none false
theorem ok6:TI.Ok Tryz.prog 22 ti6:=okF Tryz.underlying22
def ti7:TI:=tA 2 #[.bool false,.slice none 0 0] #[(0,1),(1,1)] #[false,false]
theorem ok7:TI.Ok Tryz.prog 24 ti7:=EW Tryz.underlying24
def ti8:TI:=tA 4 #[.bool false,.slice none 0 0,.bool false,.slice none 0 0] #[(0,2),(2,2)] #[true,true]
theorem ok8:TI.Ok Tryz.prog 26 ti8:=EW Tryz.underlying26
def ti9:TI:=tA 9 #[.bool false,.slice none 0 0,.bool false,.slice none 0 0,.bool false,.slice none 0 0,.bool false,.slice none 0 0,.int .i64 0] #[(0,4),(4,4),(8,1)] #[true,true,false]
theorem ok9:TI.Ok Tryz.prog 28 ti9:=EW Tryz.underlying28
def ti10:TI:=tF (.slice none 0 0) false (some (51,8)) none false
theorem ok10:TI.Ok Tryz.prog 29 ti10:=okF Tryz.underlying29
def ti11:TI:=tF (.slice none 0 0) false (some (41,28)) none false
theorem ok11:TI.Ok Tryz.prog 33 ti11:=okF Tryz.underlying33
def ti12:TI:=tF (.slice none 0 0) false (some (44,6)) none false
theorem ok12:TI.Ok Tryz.prog 34 ti12:=okF Tryz.underlying34
def ti13:TI:=tA 2 #[.slice none 0 0,.slice none 0 0] #[(0,1),(1,1)] #[false,false]
theorem ok13:TI.Ok Tryz.prog 36 ti13:=EW Tryz.underlying36
def ti14:TI:=tF (.int .i64 0) false none (some .i64) false
theorem ok14:TI.Ok Tryz.prog 37 ti14:=okF Tryz.underlying37
def ti15:TI:=tA 28 #[.bool false,.slice none 0 0,.bool false,.slice none 0 0,.bool false,.slice none 0 0,.bool false,.slice none 0 0,.bool false,.slice none 0 0,.bool false,.slice none 0 0,.bool false,.slice none 0 0,.bool false,.slice none 0 0,.bool false,.slice none 0 0,.bool false,.slice none 0 0,.bool false,.slice none 0 0,.bool false,.slice none 0 0,.bool false,.slice none 0 0,.bool false,.slice none 0 0] #[(0,4),(4,4),(8,4),(12,4),(16,4),(20,4),(24,4)] #[true,true,true,true,true,true,true]
theorem ok15:TI.Ok Tryz.prog 41 ti15:=EW Tryz.underlying41
def ti16:TI:=tA 6 #[.int .i64 0,.int .i64 0,.bool false,.slice none 0 0,.bool false,.slice none 0 0] #[(0,1),(1,1),(2,4)] #[false,false,true]
theorem ok16:TI.Ok Tryz.prog 44 ti16:=EW Tryz.underlying44
def ti17:TI:=tA 8 #[.bool false,.slice none 0 0,.bool false,.slice none 0 0,.bool false,.slice none 0 0,.bool false,.slice none 0 0] #[(0,4),(4,4)] #[true,true]
theorem ok17:TI.Ok Tryz.prog 51 ti17:=EW Tryz.underlying51
def ti18:TI:=tA 2 #[.bool false,.slice none 0 0] #[(0,1),(1,1)] #[false,false]
theorem ok18:TI.Ok Tryz.prog 53 ti18:=EW Tryz.underlying53
def ti19:TI:=tA 4 #[.bool false,.slice none 0 0,.bool false,.slice none 0 0] #[(0,2),(2,2)] #[true,true]
theorem ok19:TI.Ok Tryz.prog 55 ti19:=EW Tryz.underlying55
def ti20:TI:=tA 9 #[.bool false,.slice none 0 0,.bool false,.slice none 0 0,.bool false,.slice none 0 0,.bool false,.slice none 0 0,.int .i64 0] #[(0,4),(4,4),(8,1)] #[true,true,false]
theorem ok20:TI.Ok Tryz.prog 57 ti20:=EW Tryz.underlying57
def ti21:TI:=tF (.slice none 0 0) false (some (100,8)) none false
theorem ok21:TI.Ok Tryz.prog 59 ti21:=okF Tryz.underlying59
def ti22:TI:=tF (.slice none 0 0) false (some (108,28)) none false
theorem ok22:TI.Ok Tryz.prog 61 ti22:=okF Tryz.underlying61
def ti23:TI:=tF (.slice none 0 0) false (some (106,6)) none false
theorem ok23:TI.Ok Tryz.prog 62 ti23:=okF Tryz.underlying62
def ti24:TI:=tA 2 #[.slice none 0 0,.slice none 0 0] #[(0,1),(1,1)] #[false,false]
theorem ok24:TI.Ok Tryz.prog 64 ti24:=EW Tryz.underlying64
def ti25:TI:=tF (.slice none 0 0) false (some (26,4)) none false
theorem ok25:TI.Ok Tryz.prog 73 ti25:=okF Tryz.underlying73
def ti26:TI:=tF (.pointer none) false none none true
theorem ok26:TI.Ok Tryz.prog 84 ti26:=okF Tryz.underlying84
def ti27:TI:=tF (.slice none 0 0) false (some (92,5)) none false
theorem ok27:TI.Ok Tryz.prog 85 ti27:=okF Tryz.underlying85
def ti28:TI:=tA 1 #[.slice none 0 0] #[(0,1)] #[false]
theorem ok28:TI.Ok Tryz.prog 87 ti28:=EW Tryz.underlying87
def ti29:TI:=tA 3 #[.slice none 0 0,.slice none 0 0,.slice none 0 0] #[(0,1),(1,2)] #[true,true]
theorem ok29:TI.Ok Tryz.prog 89 ti29:=EW Tryz.underlying89
def ti30:TI:=tA 5 #[.int .i64 0,.bool false,.slice none 0 0,.bool false,.slice none 0 0] #[(0,1),(1,4)] #[false,true]
theorem ok30:TI.Ok Tryz.prog 92 ti30:=EW Tryz.underlying92
def ti31:TI:=tA 8 #[.bool false,.slice none 0 0,.bool false,.slice none 0 0,.bool false,.slice none 0 0,.bool false,.slice none 0 0] #[(0,4),(4,4)] #[true,true]
theorem ok31:TI.Ok Tryz.prog 100 ti31:=EW Tryz.underlying100
def ti32:TI:=tF (.slice none 0 0) false (some (55,4)) none false
theorem ok32:TI.Ok Tryz.prog 102 ti32:=okF Tryz.underlying102
def ti33:TI:=tA 6 #[.int .i64 0,.int .i64 0,.bool false,.slice none 0 0,.bool false,.slice none 0 0] #[(0,1),(1,1),(2,4)] #[false,false,true]
theorem ok33:TI.Ok Tryz.prog 106 ti33:=EW Tryz.underlying106
def ti34:TI:=tA 28 #[.bool false,.slice none 0 0,.bool false,.slice none 0 0,.bool false,.slice none 0 0,.bool false,.slice none 0 0,.bool false,.slice none 0 0,.bool false,.slice none 0 0,.bool false,.slice none 0 0,.bool false,.slice none 0 0,.bool false,.slice none 0 0,.bool false,.slice none 0 0,.bool false,.slice none 0 0,.bool false,.slice none 0 0,.bool false,.slice none 0 0,.bool false,.slice none 0 0] #[(0,4),(4,4),(8,4),(12,4),(16,4),(20,4),(24,4)] #[true,true,true,true,true,true,true]
theorem ok34:TI.Ok Tryz.prog 108 ti34:=EW Tryz.underlying108
def ti35:TI:=tF (.int .u32 0) false none (some .u32) false
theorem ok35:TI.Ok Tryz.prog 117 ti35:=okF Tryz.underlying117
def ti36:TI:=tF (.pointer none) false none none true
theorem ok36:TI.Ok Tryz.prog 133 ti36:=okF Tryz.underlying133
def ti37:TI:=tA 2 #[.bool false,.slice none 0 0] #[(0,2)] #[true]
theorem ok37:TI.Ok Tryz.prog 137 ti37:=EW Tryz.underlying137
def ti38:TI:=tF (.slice none 0 0) false (some (3,1)) none false
theorem ok38:TI.Ok Tryz.prog 156 ti38:=okF Tryz.underlying156
def ti39:TI:=tA 4 #[.bool false,.slice none 0 0,.bool false,.slice none 0 0] #[(0,4)] #[true]
theorem ok39:TI.Ok Tryz.prog 162 ti39:=EW Tryz.underlying162
def ti40:TI:=tF (.pointer none) false none none true
theorem ok40:TI.Ok Tryz.prog 164 ti40:=okF Tryz.underlying164
def ti41:TI:=tF (.int .u64 0) false none (some .u64) false
theorem ok41:TI.Ok Tryz.prog 167 ti41:=okF Tryz.underlying167
def ti42:TI:=tF (.int .u64 0) false none (some .u64) false
theorem ok42:TI.Ok Tryz.prog 168 ti42:=okF Tryz.underlying168
def ti43:TI:=tF (.slice none 0 0) false (some (22,1)) none false
theorem ok43:TI.Ok Tryz.prog 185 ti43:=okF Tryz.underlying185
def ti44:TI:=tF (.pointer none) false none none true
theorem ok44:TI.Ok Tryz.prog 214 ti44:=okF Tryz.underlying214
def table (t:TypeId):Option TI:=
 bif Nat.beq t 2 then some ti0 else
 bif Nat.beq t 3 then some ti1 else
 bif Nat.beq t 4 then some ti2 else
 bif Nat.beq t 5 then some ti3 else
 bif Nat.beq t 9 then some ti4 else
 bif Nat.beq t 12 then some ti5 else
 bif Nat.beq t 22 then some ti6 else
 bif Nat.beq t 24 then some ti7 else
 bif Nat.beq t 26 then some ti8 else
 bif Nat.beq t 28 then some ti9 else
 bif Nat.beq t 29 then some ti10 else
 bif Nat.beq t 33 then some ti11 else
 bif Nat.beq t 34 then some ti12 else
 bif Nat.beq t 36 then some ti13 else
 bif Nat.beq t 37 then some ti14 else
 bif Nat.beq t 41 then some ti15 else
 bif Nat.beq t 44 then some ti16 else
 bif Nat.beq t 51 then some ti17 else
 bif Nat.beq t 53 then some ti18 else
 bif Nat.beq t 55 then some ti19 else
 bif Nat.beq t 57 then some ti20 else
 bif Nat.beq t 59 then some ti21 else
 bif Nat.beq t 61 then some ti22 else
 bif Nat.beq t 62 then some ti23 else
 bif Nat.beq t 64 then some ti24 else
 bif Nat.beq t 73 then some ti25 else
 bif Nat.beq t 84 then some ti26 else
 bif Nat.beq t 85 then some ti27 else
 bif Nat.beq t 87 then some ti28 else
 bif Nat.beq t 89 then some ti29 else
 bif Nat.beq t 92 then some ti30 else
 bif Nat.beq t 100 then some ti31 else
 bif Nat.beq t 102 then some ti32 else
 bif Nat.beq t 106 then some ti33 else
 bif Nat.beq t 108 then some ti34 else
 bif Nat.beq t 117 then some ti35 else
 bif Nat.beq t 133 then some ti36 else
 bif Nat.beq t 137 then some ti37 else
 bif Nat.beq t 156 then some ti38 else
 bif Nat.beq t 162 then some ti39 else
 bif Nat.beq t 164 then some ti40 else
 bif Nat.beq t 167 then some ti41 else
 bif Nat.beq t 168 then some ti42 else
 bif Nat.beq t 185 then some ti43 else
 bif Nat.beq t 214 then some ti44 else none
theorem uW:∀ t i,table t=some i->TI.Ok Tryz.prog t i:=fun t i=>tb ok0 (tb ok1 (tb ok2 (tb ok3 (tb ok4 (tb ok5 (tb ok6 (tb ok7 (tb ok8 (tb ok9 (tb ok10 (tb ok11 (tb ok12 (tb ok13 (tb ok14 (tb ok15 (tb ok16 (tb ok17 (tb ok18 (tb ok19 (tb ok20 (tb ok21 (tb ok22 (tb ok23 (tb ok24 (tb ok25 (tb ok26 (tb ok27 (tb ok28 (tb ok29 (tb ok30 (tb ok31 (tb ok32 (tb ok33 (tb ok34 (tb ok35 (tb ok36 (tb ok37 (tb ok38 (tb ok39 (tb ok40 (tb ok41 (tb ok42 (tb ok43 (tb ok44 (fun h=>by cases h)))))))))))))))))))))))))))))))))))))))))))))
abbrev UU:TypeId:=117
abbrev bP (P:Program) (w:World) (N:Nat):Cx:={ P:=P,w0:=w,N:=N,K:=KU UU,SU:=fun t=>Nat.beq t 22,ti:=table,keep:=fun _ _=>trivial }
abbrev KI:KC:=⟨UU,fun _=>True,fun t=>Nat.beq t 3⟩
abbrev KR (P:Program) (w:World) (N:Nat):Cx:={ P:=P,w0:=w,N:=N,K:=KI,SU:=fun t=>Nat.beq t 22 || Nat.beq t 156,ti:=table,keep:=fun _ _=>trivial }
theorem pJ (w:World) (N:Nat):(KR Tryz.prog w N).Ok:=uW
theorem ma (w:World) (N:Nat):(KR Tryz.prog w N).P.follows .mixedOrders=true:=by show Tryz.prog.follows .mixedOrders=true;kernel_rfl
abbrev QU (P:Program) (w:World) (N:Nat) (ad:List Nat) (hd:ad.Nodup) (ha:uV (KU UU) ad w):Cx:=Pw P w N (KU UU) (fun t=>Nat.beq t 22) table (fun _ _=>trivial) ad hd ha
theorem bF (w:World) (N:Nat) {ad:List Nat} {hd:ad.Nodup} {ha:uV (KU UU) ad w}:(QU Tryz.prog w N ad hd ha).Ok:=uW
theorem mc (w:World) (N:Nat) {ad:List Nat} {hd:ad.Nodup} {ha:uV (KU UU) ad w}:(QU Tryz.prog w N ad hd ha).P.follows .mixedOrders=true:=by show Tryz.prog.follows .mixedOrders=true;kernel_rfl
theorem cK (w:World) (N:Nat):(bP Tryz.prog w N).Ok:=uW
theorem Ix (w:World) (N:Nat):(bP Tryz.prog w N).P.follows .mixedOrders=true:=by show Tryz.prog.follows .mixedOrders=true;kernel_rfl
section
variable {C:Cx} {m:Option (List FuncId)} {full:Array Oper} {K:Fr->Hp->World->Prop} {F F':Fr} {H H':Hp} {w w1:World} {N:Nat} {o:Oper} {r l l':List Oper} {Q:Exit->Act->World->Prop} {k k':List It} {v:AV} {u:Option (Nat×(TypeId×List AV))} {id:Nat} {ops:Array Oper}
theorem wN (h:K F H w):aC C m full [] K F H w:=VO.nil h
theorem wV (e:sC C full 80 l F H=(l',F',H')) (h:aC C m full l' K F' H' w):aC C m full l K F H w:=VO.run 80 e h
theorem wO (e:stepOf C full F H o=.ft v u) (e':sC C full 80 r (F.bB o.dst v) (H.upd u)=(l',F',H')) (h:aC C m full l' K F' H' w):aC C m full (o::r) K F H w:=VO.op1 e (VO.run 80 e' h)
theorem cx_r (e:sC (bP Tryz.prog w1 N) ops 80 ops.toList F H=(l',F',H')) (h:aC (bP Tryz.prog w1 N) none ops l' (VS (bP Tryz.prog w1 N) Q k) F' H' w):VS (bP Tryz.prog w1 N) Q (.code (.region id ops false)::k) F H w:=VS.region (cK _ _) (VO.run 80 e h)
theorem cx_d (e:sC (bP Tryz.prog w1 N) ops 80 ops.toList F H=(l',F',H')) (h:aC (bP Tryz.prog w1 N) (some []) ops l' (VS (bP Tryz.prog w1 N) Q k) F' H' w) (mV:pG (bP Tryz.prog w1 N).SU [] ops=true:=by kernel_rfl):VS (bP Tryz.prog w1 N) Q (.code (.region id ops true)::k) F H w:=VS.draw (cK _ _) (Ix _ _) [] mV (VO.run 80 e h)
theorem DT (e:sC (KR Tryz.prog w1 N) ops 80 ops.toList F H=(l',F',H')) (h:aC (KR Tryz.prog w1 N) none ops l' (VS (KR Tryz.prog w1 N) Q k) F' H' w):VS (KR Tryz.prog w1 N) Q (.code (.region id ops false)::k) F H w:=VS.region (pJ _ _) (VO.run 80 e h)
theorem cxI_d (e:sC (KR Tryz.prog w1 N) ops 80 ops.toList F H=(l',F',H')) (h:aC (KR Tryz.prog w1 N) (some []) ops l' (VS (KR Tryz.prog w1 N) Q k) F' H' w) (mV:pG (KR Tryz.prog w1 N).SU [] ops=true:=by kernel_rfl):VS (KR Tryz.prog w1 N) Q (.code (.region id ops true)::k) F H w:=VS.draw (pJ _ _) (ma _ _) [] mV (VO.run 80 e h)
theorem DU {ad:List Nat} {hd:ad.Nodup} {ha:uV (KU UU) ad w1} (e:sC (QU Tryz.prog w1 N ad hd ha) ops 80 ops.toList F H=(l',F',H')) (h:aC (QU Tryz.prog w1 N ad hd ha) none ops l' (VS (QU Tryz.prog w1 N ad hd ha) Q k) F' H' w):VS (QU Tryz.prog w1 N ad hd ha) Q (.code (.region id ops false)::k) F H w:=VS.region (bF _ _) (VO.run 80 e h)
theorem cxA_d {ad:List Nat} {hd:ad.Nodup} {ha:uV (KU UU) ad w1} (e:sC (QU Tryz.prog w1 N ad hd ha) ops 80 ops.toList F H=(l',F',H')) (h:aC (QU Tryz.prog w1 N ad hd ha) (some []) ops l' (VS (QU Tryz.prog w1 N ad hd ha) Q k) F' H' w) (mV:pG (QU Tryz.prog w1 N ad hd ha).SU [] ops=true:=by kernel_rfl):VS (QU Tryz.prog w1 N ad hd ha) Q (.code (.region id ops true)::k) F H w:=VS.draw (bF _ _) (mc _ _) [] mV (VO.run 80 e h)
def peel (F:Fr):List It->Option (List It)
 | .code (.seq x y)::k=>some (.code x::.code y::k)
 | .code (.block id c)::k=>some (.code c::.qq id::k)
 | .qq _::k=>some k
 | .code .skip::k=>some k
 | .code (.exit id)::k=>pop id k
 | .code (.cond c x y)::k=>(match lD F c with
   | some (.bool true)=>some (.code x::k)
   | some (.bool false)=>some (.code y::k)
   | _=>none)
 | _=>none
theorem wP (e:peel F k=some k') (h:VS C Q k' F H w):VS C Q k F H w:=by
 unfold peel at e
 split at e
 ·cases e;exact VS.seq h
 ·cases e;exact VS.block h
 ·cases e;exact VS.qq h
 ·cases e;exact VS.skip h
 ·exact VS.exit e h
 ·split at e
  ·rename_i hc;cases e;exact VS.condT hc h
  ·rename_i hc;cases e;exact VS.condF hc h
  ·cases e
 ·cases e
theorem fk {P:Program} {g:FuncId} {fn:Func} (h:P.funcs[g]? =some fn) (h1:(fn.name == "runtime.NumGoroutine")=false:=by kernel_rfl) (h2:fn.body.isNone=false:=by kernel_rfl):qV P g:=⟨fn,h,h1,h2⟩
theorem kU (w:World):bH (KU UU) w w:=bH.refl _ _
theorem kR {k:KC} (w:World):bH k w w:=bH.refl _ _
theorem kT {k:KC} {a b c:World} (h:bH k a b) (h':bH k b c):bH k a c:=h.aN h'
end
end
section
open Go.RowKit
theorem mA (neg:Bool) (p:Option Addr) (n c:Nat) (w:World):
  Calls Tryz.prog 80 #[.bool neg,.slice p n c] w fun e w'=>e=.returned (.agg #[.bool (neg && decide (0 < n)),.slice p n c])/\aL w w':=by
 refine aY fun R' bR=> ?_
 go_enter Tryz.func80,Tryz.ntmps80
 cases neg
 ·go_wp2
  exact bodyPost_ret (v:=.agg #[.bool false,.slice p n c]) (by simp [results,Tryz.results80,go_sem]) rfl (bR.out _ _ ⟨rfl,(aL.refl w).alloc _⟩)
 ·go_wp2
  exact bodyPost_ret (v:=.agg #[.bool (decide (0 < n)),.slice p n c]) (by simp [results,Tryz.results80,go_sem]) rfl (bR.out _ _ ⟨rfl,(aL.refl w).alloc _⟩)
theorem gA (neg:Bool) (p:Option Addr) (n c:Nat) (w:World):
  Calls Tryz.prog 80 #[.bool neg,.slice p n c] w fun e w'=>∃ sg,e=.returned (.agg #[.bool sg,.slice p n c])/\Hid (sg=(neg && decide (0 < n)))/\aL w w':=
 (mA neg p n c w).mono fun _ _ ⟨h,hb⟩=>⟨_,h,Lib.hid rfl,hb⟩
theorem tz (neg:Bool) (xs:List Nat) (v:Value) (w:World) (h:gm w v neg xs):
  Calls Tryz.prog 102 #[v] w fun e w'=>e=.returned (.bool (dP neg xs))/\aL w w':=by
 obtain ⟨p,c,rfl,hr,hl⟩:=h
 obtain ⟨p',c',hv,fE,fX,-⟩:=hr.u32
 simp only [Value.slice.injEq,true_and] at hv
 obtain ⟨rfl,rfl⟩:=hv
 refine aY fun R' bR=> ?_
 by_cases hx:xs=[]
 ·subst hx
  simp only [List.length_nil,ta] at *
  go_enter Tryz.func102,Tryz.ntmps102
  cases neg
  ·go_wp2
   exact bR.out _ _ ⟨rfl,(aL.refl w).alloc _⟩
  ·go_wp2
   exact bR.out _ _ ⟨rfl,(aL.refl w).alloc _⟩
 ·obtain ⟨m,hm⟩:∃ m,xs.length=m + 1:=⟨xs.length - 1,by have:=List.length_pos_iff.2 hx;omega⟩
  generalize hn:xs.length=n at *
  obtain ⟨b,off,x,rfl,hb,hxm,hc⟩:=hr.cellAt (k:=m) ab
  have h1:dP neg xs=decide (x≠0):=xE (by rw [hn,hm];exact hxm)
  rw [h1] at bR
  have hz:((n:Int) == 0)=false:=by rw [beq_eq_false_iff_ne];omega
  have hp:(0:Int) < (n:Int):=by omega
  have hw:IntKind.i64.wrap ((n:Int) - 1)=(m:Int):=by rw [IntWalk.i64_in _ ab];omega
  have hlt:(m:Int) < (n:Int):=by omega
  have HN:=Lib.hid hn
  have hpn:0 < n:=by omega
  clear hx hm hn h1 hxm hr hl
  go_enter Tryz.func102,Tryz.ntmps102
  by_cases iA:x=0
  ·subst iA
   cases neg
   ·go_wp2
    exact bR.out _ _ ⟨rfl,(aL.refl w).alloc _⟩
   ·go_wp2
    exact bR.out _ _ ⟨rfl,(aL.refl w).alloc _⟩
  ·have Kc:((x:Int) != 0)=true:=by rw [bne_iff_ne];omega
   rw [decide_eq_true iA] at bR
   clear iA
   cases neg
   ·go_wp2
    exact bR.out _ _ ⟨rfl,(aL.refl w).alloc _⟩
   ·go_wp2
    exact bR.out _ _ ⟨rfl,(aL.refl w).alloc _⟩
theorem ij (v:Value) (X:Int) (k:Nat) (w0 w:World) (h:cA w0 v X k) (ou:aL w0 w):
  Calls Tryz.prog 79 #[v] w fun e w'=>∃ u,e=.returned u/\cI w0 u X/\aL w w':=by
 obtain ⟨neg,xs,hn,rfl,hk⟩:=h
 refine aY fun R' bR=> ?_
 have HN:=Lib.hid hn
 obtain ⟨p,c,rfl,hr,hl⟩:=hn
 clear hr
 go_enter Tryz.func79,Tryz.ntmps79
 go_wp2_with fail
 refine (tz neg xs _ _ ((HN.out.bo ou).bo (((aL.refl w).alloc _).alloc _))).mono ?_
 rintro e w1 ⟨rfl,aI⟩
 obtain ⟨b1,b2,oh⟩:=nP w 24 137 #[.bool neg,.slice p xs.length c] #[.bool false,.slice none 0 0]
 obtain ⟨c1,c2,_,_⟩:=(b1.bo aI).two
 obtain ⟨c3,c4,f3,f4⟩:=(b2.bo aI).two
 have jU:aL w w1:=oh.aN aI
 cases xO:dP neg xs
 ·have B2:=(b2.bo aI).bU (.bool false) (.slice none 0 0)
  have xD:=jU.bU (b:=w.heap.size + 1) ab (.bool false) (.slice none 0 0)
  go_wp2
  generalize (w1.setCell ⟨w.heap.size + 1,0,none⟩ (.bool false)).setCell ⟨w.heap.size + 1,1,none⟩ (.slice none 0 0)=w2 at *
  obtain ⟨d1,d2,_,_⟩:=B2.two
  refine bodyPost_ret (v:=.agg #[.bool false,.slice none 0 0]) (by simp [results,Tryz.results79,go_sem,d1,d2]) rfl (bR.out _ _ ⟨_,rfl,?_,xD⟩)
  rw [numOf,if_neg (by simp [xO])]
  exact cI.zero _
 ·have B2:=(b2.bo aI).bU (.bool neg) (.slice p xs.length c)
  have xD:=jU.bU (b:=w.heap.size + 1) ab (.bool neg) (.slice p xs.length c)
  go_wp2
  generalize (w1.setCell ⟨w.heap.size + 1,0,none⟩ (.bool neg)).setCell ⟨w.heap.size + 1,1,none⟩ (.slice p xs.length c)=w2 at *
  obtain ⟨d1,d2,_,_⟩:=B2.two
  refine bodyPost_ret (v:=.agg #[.bool neg,.slice p xs.length c]) (by simp [results,Tryz.results79,go_sem,d1,d2]) rfl (bR.out _ _ ⟨_,rfl,?_,xD⟩)
  rw [numOf,if_pos xO]
  obtain ⟨h1,h2⟩:=canon hl xO
  have:=HN.out
  show gm _ _ _ _
  rw [<-h1,<-h2]
  exact this
end
section
open Go.RowKit
theorem cI.split {w:World} {v:Value} {X:Int} (h:cI w v X):∃ s p c,v=.agg #[.bool s,.slice p (limbs X.natAbs).length c]/\Rd w 1 (.slice p (limbs X.natAbs).length c) (limbs X.natAbs).length (ints .u32 (limbs X.natAbs))/\X=if s=true then -(X.natAbs:Int) else (X.natAbs:Int):=by
 obtain ⟨p,c,hv,hr,_⟩:=h
 refine ⟨_,p,c,hv,hr,?_⟩
 split
 ·rename_i h;have:=of_decide_eq_true h;omega
 ·rename_i h;have:¬ X < 0:=fun h'=>h (decide_eq_true h');omega
theorem Bo (v:Value) (X:Int) (w:World) (h:cI w v X):
  Calls Tryz.prog 111 #[v] w fun e w'=>∃ u,e=.returned u/\cI w' u (-X)/\aL w w':=by
 obtain ⟨s,p,c,rfl,hr,hX⟩:=h.split
 obtain ⟨n,hn⟩:∃ n,n=(limbs X.natAbs).length:=⟨_,rfl⟩
 have HR:=Lib.hid hr
 have HN:=Lib.hid hn
 have HX:=Lib.hid hX
 rw [<-hn]
 clear hr hn hX h
 refine aY fun R' bR=> ?_
 obtain ⟨b1,b2,oh⟩:=nP w 137 137 #[.bool s,.slice p n c] #[.bool false,.slice none 0 0]
 go_enter Tryz.func111,Tryz.ntmps111
 go_wp2_with fail
 refine (mA _ _ _ _ _).mono ?_
 rintro e w1 ⟨rfl,aI⟩
 obtain ⟨c3,c4,f3,f4⟩:=(b2.bo aI).two
 have B2:=(b2.bo aI).bU (.bool (!s && decide (0 < n))) (.slice p n c)
 have xD:=(oh.aN aI).bU (b:=w.heap.size + 1) ab (.bool (!s && decide (0 < n))) (.slice p n c)
 go_wp2
 generalize (w1.setCell ⟨w.heap.size + 1,0,none⟩ (.bool (!s && decide (0 < n)))).setCell ⟨w.heap.size + 1,1,none⟩ (.slice p n c)=w2 at *
 obtain ⟨d1,d2,_,_⟩:=B2.two
 refine bodyPost_ret (v:=.agg #[.bool (!s && decide (0 < n)),.slice p n c]) (by simp [results,Tryz.results111,go_sem,d1,d2]) rfl (bR.out _ _ ⟨_,rfl,?_,xD⟩)
 have kE:=HR.out.below xD
 rw [<-HN.out] at kE
 refine cI.of (m:=X.natAbs) (by rw [<-HN.out];exact kE) HN.out _ ?_
 rw [HX.out]
 cases s <;> simp
theorem Iy (v u:Value) (X Y:Int) (w:World) (hv:cI w v X) (hu:cI w u Y) (hx:(limbs X.natAbs).length≤1073741824) (hy:(limbs Y.natAbs).length≤1073741824):
  Calls Tryz.prog 110 #[v,u] w fun e w'=>∃ r,e=.returned r/\aD w' w.heap.size r (X + Y)/\aL w w':=by
 obtain ⟨s,p,c,rfl,jA,hX⟩:=hv.split
 obtain ⟨t,q,d,rfl,kE,hY⟩:=hu.split
 obtain ⟨n,hn⟩:∃ n,n=(limbs X.natAbs).length:=⟨_,rfl⟩
 obtain ⟨m,hm⟩:∃ m,m=(limbs Y.natAbs).length:=⟨_,rfl⟩
 rw [<-hn] at jA hx ⊢
 rw [<-hm] at kE hy ⊢
 clear hv hu
 refine aY fun R' bR=> ?_
 obtain ⟨b1,b2,b3,oh⟩:=pz w 137 137 24 #[.bool s,.slice p n c] #[.bool t,.slice q m d] #[.bool false,.slice none 0 0]
 have r10:=Lib.hid jA
 have r20:=Lib.hid kE
 have r1:=Lib.hid (jA.below oh)
 have r2:=Lib.hid (kE.below oh)
 have HX:=Lib.hid hX
 have HY:=Lib.hid hY
 have HN:=Lib.hid hn
 have HM:=Lib.hid hm
 clear jA kE hX hY hn hm
 go_enter Tryz.func110,Tryz.ntmps110
 by_cases hst:s=t
 ·subst hst
  go_wp2_with fail
  generalize ((w.alloc _).alloc _).alloc _=W at *
  obtain ⟨c1,c2,_,_⟩:=b1.two
  obtain ⟨c3,c4,_,_⟩:=b2.two
  obtain ⟨c5,c6,f5,f6⟩:=b3.two
  have HS:=Lib.hid (fun w' (h:aB W (w.heap.size + 1 + 1) w')=>And.intro (h.cells b1 ab) (h.cells b2 ab))
  go_region_held3 (fun w'=>(w'.cell? ⟨w.heap.size,0,none⟩=some (.bool s)/\w'.cell? ⟨w.heap.size,1,none⟩=some (.slice p n c))/\w'.cell? ⟨w.heap.size + 1,0,none⟩=some (.bool s)/\w'.cell? ⟨w.heap.size + 1,1,none⟩=some (.slice q m d)) ((refine HS.out _ ?_;(with_reducible (repeat (first | exact aB.refl _ _ | refine aB.drew ?_ | refine aB.drewN ?_ _ | refine aB.alloc ?_ _ | refine aB.set ?_ _ | refine aB.aN ?_ (by assumption) | refine aB.qR ?_ (by first | omega | (simp;done) | (simp;omega)) _))))) (first
   | (go_at_call 130;refine (Mx _ _ n m _ _ _ r1.out.drew r2.out.drew (az _) (az _) ab ab).mono ?_;rintro e w1 ⟨v1,rfl,wX,aI⟩;replace aI:aL _ w1:=aI;rw [aq,aq] at wX;obtain ⟨p1,k1,rfl,_,_,_⟩:=Own.form wX)
   | (go_at_call 80;refine (mA _ _ _ _ _).mono ?_;rintro e w2 ⟨rfl,ba⟩;obtain ⟨c5',c6',f5',f6'⟩:=((b3.drew.bo aI).bo ba).two))
  have B3:=((b3.drew.bo aI).bo ba).bU (.bool (s && decide (0 < (limbs (X.natAbs + Y.natAbs)).length))) (.slice p1 (limbs (X.natAbs + Y.natAbs)).length k1)
  have jU:aL w w2:=oh.aN (aL.aN (aL.aN (aL.refl W).drew aI) ba)
  have QP:=jU.bU (b:=w.heap.size + 1 + 1) ab (.bool (s && decide (0 < (limbs (X.natAbs + Y.natAbs)).length))) (.slice p1 (limbs (X.natAbs + Y.natAbs)).length k1)
  have CM:=Own.below wX ba
  generalize hL:(limbs (X.natAbs + Y.natAbs)).length=L at *
  have Rs:=Lib.hid (Own.bU (b:=w.heap.size + 1 + 1) CM (b3.drew.bo aI |>.bo ba) bW (.bool (s && decide (0 < L))) (.slice p1 L k1))
  clear CM wX jU
  go_wp2
  generalize (w2.setCell ⟨w.heap.size + 1 + 1,0,none⟩ (.bool (s && decide (0 < L)))).setCell ⟨w.heap.size + 1 + 1,1,none⟩ (.slice p1 L k1)=w3 at *
  obtain ⟨d1,d2,_,_⟩:=B3.two
  refine bodyPost_ret (v:=.agg #[.bool (s && decide (0 < L)),.slice p1 L k1]) (by simp [results,Tryz.results110,go_sem,d1,d2]) rfl (bR.out _ _ ⟨_,rfl,?_,QP⟩)
  refine aD.of (m:=X.natAbs + Y.natAbs) (by rw [hL];exact Own.mono Rs.out oh.size) hL.symm _ ?_
  rw [HX.out,HY.out]
  cases s <;> simp <;> omega
 ·have hst':(s == t)=false:=by cases s <;> cases t <;> simp_all
  go_wp2_with fail
  generalize ((w.alloc _).alloc _).alloc _=W at *
  refine (Ew _ _ n m _ _ _ r1.out r2.out (az _) (az _)).mono ?_
  rintro e w1 ⟨rfl,k1,rfl⟩
  rw [aq,aq]
  by_cases hlt:X.natAbs < Y.natAbs
  ·have HLT:=Lib.hid hlt
   have hc:ib X.natAbs Y.natAbs < 0:=kO.2 hlt
   generalize ib X.natAbs Y.natAbs=cv at hc ⊢
   obtain ⟨c1,c2,f1,f2⟩:=(b1.drewN k1).two
   obtain ⟨c3,c4,f3,f4⟩:=(b2.drewN k1).two
   have B1:=((b1.drewN k1).bU (.bool t) (.slice q m d)).eE (b':=w.heap.size + 1) ab (.bool s) (.slice p n c)
   have B2:=((b2.drewN k1).eE (b':=w.heap.size) ab (.bool t) (.slice q m d)).bU (.bool s) (.slice p n c)
   have B3:=((b3.drewN k1).eE (b':=w.heap.size) ab (.bool t) (.slice q m d)).eE (b':=w.heap.size + 1) ab (.bool s) (.slice p n c)
   have iQ:=((oh.drewN k1).bU (b:=w.heap.size) ab (.bool t) (.slice q m d)).bU (b:=w.heap.size + 1) ab (.bool s) (.slice p n c)
   clear oh b1 b2 b3 r1 r2 hlt
   go_wp2_with fail
   generalize ((((W.drewN k1).setCell ⟨w.heap.size,0,none⟩ (.bool t)).setCell ⟨w.heap.size,1,none⟩ (.slice q m d)).setCell ⟨w.heap.size + 1,0,none⟩ (.bool s)).setCell ⟨w.heap.size + 1,1,none⟩ (.slice p n c)=W2 at *
   clear c1 c2 c3 c4 f1 f2 f3 f4
   refine (ED _ _ m n _ _ _ (r20.out.below iQ) (r10.out.below iQ) (az _) (az _) ab).mono ?_
   rintro e w2 ⟨⟨h,_⟩ | ⟨_,v2,rfl,DV⟩,ba⟩
   ·rw [aq,aq] at h;exact absurd h (by have:=HLT.out;omega)
   replace ba:aL _ w2:=ba
   rw [aq,aq] at DV
   obtain ⟨p2,k2,rfl,_,_,_⟩:=Own.form DV
   obtain ⟨e1,e2,_,_⟩:=(B1.bo ba).two
   have E3:=B3.bo ba
   have hbw2:=iQ.aN ba
   generalize hL:(limbs (Y.natAbs - X.natAbs)).length=L at *
   have qe:=Lib.hid (Own.mono DV iQ.size)
   have HL:=Lib.hid hL
   clear DV hL B1 B2 B3 iQ ba
   go_wp2_with fail
   refine (mA _ _ _ _ _).mono ?_
   rintro e w3 ⟨rfl,cC⟩
   have F3:=E3.bo cC
   obtain ⟨e5,e6,g5,g6⟩:=F3.two
   have Rs:=Lib.hid (Own.bU (b:=w.heap.size + 1 + 1) (Own.below qe.out cC) F3 bW (.bool (t && decide (0 < L))) (.slice p2 L k2))
   have G3:=F3.bU (.bool (t && decide (0 < L))) (.slice p2 L k2)
   have QP:=(hbw2.aN cC).bU (b:=w.heap.size + 1 + 1) ab (.bool (t && decide (0 < L))) (.slice p2 L k2)
   clear qe E3 F3
   go_wp2
   generalize (w3.setCell ⟨w.heap.size + 1 + 1,0,none⟩ (.bool (t && decide (0 < L)))).setCell ⟨w.heap.size + 1 + 1,1,none⟩ (.slice p2 L k2)=w4 at *
   obtain ⟨d1,d2,_,_⟩:=G3.two
   refine bodyPost_ret (v:=.agg #[.bool (t && decide (0 < L)),.slice p2 L k2]) (by simp [results,Tryz.results110,go_sem,d1,d2]) rfl (bR.out _ _ ⟨_,rfl,?_,QP⟩)
   refine aD.of (m:=Y.natAbs - X.natAbs) (by rw [HL.out];exact Rs.out) HL.out.symm _ ?_
   rw [HX.out,HY.out]
   have:=HLT.out
   cases s <;> cases t <;> simp at hst ⊢ <;> omega
  ·have HLT:=Lib.hid hlt
   have hc:0≤ib X.natAbs Y.natAbs:=by have:=mt (@kO X.natAbs Y.natAbs).1 hlt;omega
   generalize ib X.natAbs Y.natAbs=cv at hc ⊢
   have B1:=b1.drewN k1
   have B2:=b2.drewN k1
   have B3:=b3.drewN k1
   have iQ:=oh.drewN k1
   obtain ⟨c1,c2,f1,f2⟩:=B1.two
   obtain ⟨c3,c4,f3,f4⟩:=B2.two
   clear oh b1 b2 b3 r1 r2 hlt
   go_wp2_with fail
   generalize W.drewN k1=W2 at *
   clear c1 c2 c3 c4 f1 f2 f3 f4
   refine (ED _ _ n m _ _ _ (r10.out.below iQ) (r20.out.below iQ) (az _) (az _) ab).mono ?_
   rintro e w2 ⟨⟨h,_⟩ | ⟨_,v2,rfl,DV⟩,ba⟩
   ·rw [aq,aq] at h;exact absurd h (by have:=HLT.out;omega)
   replace ba:aL _ w2:=ba
   rw [aq,aq] at DV
   obtain ⟨p2,k2,rfl,_,_,_⟩:=Own.form DV
   obtain ⟨e1,e2,_,_⟩:=(B1.bo ba).two
   have E3:=B3.bo ba
   have hbw2:=iQ.aN ba
   generalize hL:(limbs (X.natAbs - Y.natAbs)).length=L at *
   have qe:=Lib.hid (Own.mono DV iQ.size)
   have HL:=Lib.hid hL
   clear DV hL B1 B2 B3 iQ ba
   go_wp2_with fail
   refine (mA _ _ _ _ _).mono ?_
   rintro e w3 ⟨rfl,cC⟩
   have F3:=E3.bo cC
   obtain ⟨e5,e6,g5,g6⟩:=F3.two
   have Rs:=Lib.hid (Own.bU (b:=w.heap.size + 1 + 1) (Own.below qe.out cC) F3 bW (.bool (s && decide (0 < L))) (.slice p2 L k2))
   have G3:=F3.bU (.bool (s && decide (0 < L))) (.slice p2 L k2)
   have QP:=(hbw2.aN cC).bU (b:=w.heap.size + 1 + 1) ab (.bool (s && decide (0 < L))) (.slice p2 L k2)
   clear qe E3 F3
   go_wp2
   generalize (w3.setCell ⟨w.heap.size + 1 + 1,0,none⟩ (.bool (s && decide (0 < L)))).setCell ⟨w.heap.size + 1 + 1,1,none⟩ (.slice p2 L k2)=w4 at *
   obtain ⟨d1,d2,_,_⟩:=G3.two
   refine bodyPost_ret (v:=.agg #[.bool (s && decide (0 < L)),.slice p2 L k2]) (by simp [results,Tryz.results110,go_sem,d1,d2]) rfl (bR.out _ _ ⟨_,rfl,?_,QP⟩)
   refine aD.of (m:=X.natAbs - Y.natAbs) (by rw [HL.out];exact Rs.out) HL.out.symm _ ?_
   rw [HX.out,HY.out]
   have:=HLT.out
   cases s <;> cases t <;> simp at hst ⊢ <;> omega
end
section
open Go.RowKit
theorem jf {w w':World} (h:aL w w':=by (with_reducible (repeat (first | assumption | exact aL.refl _ | refine aL.drew ?_ | refine aL.drewN ?_ _ | refine aL.alloc ?_ _ | refine aL.aN ?_ (by assumption) | refine aL.setCell ?_ (by first | omega | (simp;done) | (simp;omega)) _)))):aL w w':=h
theorem IA (v u:Value) (X Y:Int) (j k:Nat) (w:World) (hv:cA w v X j) (hu:cA w u Y k) (hj:j≤1073741824) (hk:k≤1073741824):
  Calls Tryz.prog 84 #[v,u] w fun e w'=>∃ r,e=.returned r/\aD w' w.heap.size r (X + Y)/\aL w w':=by
 obtain ⟨s,p,n,c,rfl⟩:=hv.form
 obtain ⟨t,q,m,d,rfl⟩:=hu.form
 refine aY fun R' bR=> ?_
 obtain ⟨b1,b2,b3,oh⟩:=pz w 24 24 24 #[.bool s,.slice p n c] #[.bool t,.slice q m d] #[.bool false,.slice none 0 0]
 have mr:=hv.len
 have qm:=hu.len
 have HV:=Lib.hid hv
 have HU:=Lib.hid hu
 have hsz:w.heap.size + 3≤(((w.alloc (.cells #[.bool s,.slice p n c] 24)).alloc (.cells #[.bool t,.slice q m d] 24)).alloc (.cells #[.bool false,.slice none 0 0] 24)).heap.size:=by simp
 clear hv hu
 go_enter Tryz.func84,Tryz.ntmps84
 go_wp2_with fail
 generalize ((w.alloc _).alloc _).alloc _=W at *
 have HS:=Lib.hid (fun w' (h:aB W (w.heap.size + 1 + 1) w')=>And.intro (h.cells b1 ab) (h.cells b2 ab))
 obtain ⟨c1,c2,_,_⟩:=b1.two
 obtain ⟨c3,c4,_,_⟩:=b2.two
 obtain ⟨c5,c6,f5,f6⟩:=b3.two
 go_region_held3 (fun w'=>(w'.cell? ⟨w.heap.size,0,none⟩=some (.bool s)/\w'.cell? ⟨w.heap.size,1,none⟩=some (.slice p n c))/\w'.cell? ⟨w.heap.size + 1,0,none⟩=some (.bool t)/\w'.cell? ⟨w.heap.size + 1,1,none⟩=some (.slice q m d)) ((refine HS.out _ ?_;(with_reducible (repeat (first | exact aB.refl _ _ | refine aB.drew ?_ | refine aB.drewN ?_ _ | refine aB.alloc ?_ _ | refine aB.set ?_ _ | refine aB.aN ?_ (by assumption) | refine aB.qR ?_ (by first | omega | (simp;done) | (simp;omega)) _))))) (first
  | (go_at_call_of 79 (Value.slice p n c);refine (ij _ X j w _ HV.out jf).mono ?_;rintro e w1 ⟨u1,rfl,zT,aI⟩)
  | (go_at_call_of 79 (Value.slice q m d);refine (ij _ Y k w _ HU.out jf).mono ?_;rintro e w2 ⟨u2,rfl,zV,ba⟩)
  | (go_at_call 110;refine (Iy _ _ X Y _ (zT.bo jf) (zV.bo jf) (Nat.le_trans mr hj) (Nat.le_trans qm hk)).mono ?_;rintro e w3 ⟨r,rfl,aJ,cC⟩;obtain ⟨sg,pp,nn,cc,rfl⟩:=aJ.form;obtain ⟨e5,e6,g5,g6⟩:=(bg.bo (w':=w3) b3 jf).two)
  | fail)
 have FC:=(bg.bo (w':=w3) b3 jf)
 have FB:aL w w3:=jf
 have FZ:aL w w2:=jf
 have HO:=Lib.hid (aJ.bU FC bW (.bool sg) (.slice pp nn cc))
 clear aJ
 have EX:=FC.bU (.bool (sg)) (.slice pp (nn) cc)
 have EY:=aL.bU FB (b:=w.heap.size + 1 + 1) ab (.bool (sg)) (.slice pp (nn) cc)
 go_wp2
 generalize (w3.setCell ⟨w.heap.size + 1 + 1,0,none⟩ (.bool (sg))).setCell ⟨w.heap.size + 1 + 1,1,none⟩ (.slice pp (nn) cc)=wz at *
 obtain ⟨EZ,Fa,_,_⟩:=EX.two
 refine bodyPost_ret (v:=.agg #[.bool (sg),.slice pp (nn) cc]) (by simp [results,Tryz.results84,go_sem,EZ,Fa]) rfl (bR.out _ _ ?_)
 exact ⟨_,rfl,HO.out.mono FZ.size,EY⟩
theorem Sq (v u:Value) (X Y:Int) (j k:Nat) (w:World) (hv:cA w v X j) (hu:cA w u Y k) (hj:j≤1073741824) (hk:k≤1073741824):
  Calls Tryz.prog 78 #[v,u] w fun e w'=>∃ r,e=.returned r/\aD w' w.heap.size r (X - Y)/\aL w w':=by
 obtain ⟨s,p,n,c,rfl⟩:=hv.form
 obtain ⟨t,q,m,d,rfl⟩:=hu.form
 refine aY fun R' bR=> ?_
 obtain ⟨b1,b2,b3,oh⟩:=pz w 24 24 24 #[.bool s,.slice p n c] #[.bool t,.slice q m d] #[.bool false,.slice none 0 0]
 have mr:=hv.len
 have qm:=hu.len
 have HV:=Lib.hid hv
 have HU:=Lib.hid hu
 have hsz:w.heap.size + 3≤(((w.alloc (.cells #[.bool s,.slice p n c] 24)).alloc (.cells #[.bool t,.slice q m d] 24)).alloc (.cells #[.bool false,.slice none 0 0] 24)).heap.size:=by simp
 clear hv hu
 go_enter Tryz.func78,Tryz.ntmps78
 go_wp2_with fail
 generalize ((w.alloc _).alloc _).alloc _=W at *
 have HS:=Lib.hid (fun w' (h:aB W (w.heap.size + 1 + 1) w')=>And.intro (h.cells b1 ab) (h.cells b2 ab))
 obtain ⟨c1,c2,_,_⟩:=b1.two
 obtain ⟨c3,c4,_,_⟩:=b2.two
 obtain ⟨c5,c6,f5,f6⟩:=b3.two
 go_region_held3 (fun w'=>(w'.cell? ⟨w.heap.size,0,none⟩=some (.bool s)/\w'.cell? ⟨w.heap.size,1,none⟩=some (.slice p n c))/\w'.cell? ⟨w.heap.size + 1,0,none⟩=some (.bool t)/\w'.cell? ⟨w.heap.size + 1,1,none⟩=some (.slice q m d)) ((refine HS.out _ ?_;(with_reducible (repeat (first | exact aB.refl _ _ | refine aB.drew ?_ | refine aB.drewN ?_ _ | refine aB.alloc ?_ _ | refine aB.set ?_ _ | refine aB.aN ?_ (by assumption) | refine aB.qR ?_ (by first | omega | (simp;done) | (simp;omega)) _))))) (first
  | (go_at_call_of 79 (Value.slice p n c);refine (ij _ X j w _ HV.out jf).mono ?_;rintro e w1 ⟨u1,rfl,zT,aI⟩)
  | (go_at_call_of 79 (Value.slice q m d);refine (ij _ Y k w _ HU.out jf).mono ?_;rintro e w2 ⟨u2,rfl,zV,ba⟩)
  | (go_at_call 111;refine (Bo _ Y _ (zV.bo jf)).mono ?_;rintro e w4 ⟨u4,rfl,hu4,fq⟩)
  | (go_at_call 110;refine (Iy _ _ X (-Y) _ (zT.bo jf) (hu4.bo jf) (Nat.le_trans mr hj) (by rw [Int.natAbs_neg];exact Nat.le_trans qm hk)).mono ?_;rintro e w3 ⟨r,rfl,aJ,cC⟩;obtain ⟨sg,pp,nn,cc,rfl⟩:=aJ.form;obtain ⟨e5,e6,g5,g6⟩:=(bg.bo (w':=w3) b3 jf).two)
  | fail)
 rw [<-Int.sub_eq_add_neg] at aJ
 have FC:=(bg.bo (w':=w3) b3 jf)
 have FB:aL w w3:=jf
 have FZ:aL w w4:=jf
 have HO:=Lib.hid (aJ.bU FC bW (.bool sg) (.slice pp nn cc))
 clear aJ
 have EX:=FC.bU (.bool (sg)) (.slice pp (nn) cc)
 have EY:=aL.bU FB (b:=w.heap.size + 1 + 1) ab (.bool (sg)) (.slice pp (nn) cc)
 go_wp2
 generalize (w3.setCell ⟨w.heap.size + 1 + 1,0,none⟩ (.bool (sg))).setCell ⟨w.heap.size + 1 + 1,1,none⟩ (.slice pp (nn) cc)=wz at *
 obtain ⟨EZ,Fa,_,_⟩:=EX.two
 refine bodyPost_ret (v:=.agg #[.bool (sg),.slice pp (nn) cc]) (by simp [results,Tryz.results78,go_sem,EZ,Fa]) rfl (bR.out _ _ ?_)
 exact ⟨_,rfl,HO.out.mono FZ.size,EY⟩
def MU (w W wc:World) (T:TypeId) (X Y:Int) (x y:Value):Prop:=∃ g h s1 p1 n1 k1 s2 p2 n2 k2,x=.pointer (some ⟨g,0,none⟩)/\y=.pointer (some ⟨h,0,none⟩)/\bg wc g T #[.bool s1,.slice p1 n1 k1]/\bg wc h T #[.bool s2,.slice p2 n2 k2]/\
 cI w (.agg #[.bool s1,.slice p1 n1 k1]) X/\cI w (.agg #[.bool s2,.slice p2 n2 k2]) Y/\aL W wc
theorem mB (v u:Value) (X Y:Int) (j k:Nat) (w:World) (hv:cA w v X j) (hu:cA w u Y k) (hj:j≤536870912) (hk:k≤536870912):
  Calls Tryz.prog 42 #[v,u] w fun e w'=>∃ r,e=.returned r/\aD w' w.heap.size r (X * Y)/\aL w w':=by
 obtain ⟨s,p,n,c,rfl⟩:=hv.form
 obtain ⟨t,q,m,d,rfl⟩:=hu.form
 refine aY fun R' bR=> ?_
 obtain ⟨b1,b2,b3,oh⟩:=pz w 24 24 24 #[.bool s,.slice p n c] #[.bool t,.slice q m d] #[.bool false,.slice none 0 0]
 have mr:=hv.len
 have qm:=hu.len
 have HV:=Lib.hid hv
 have HU:=Lib.hid hu
 have hsz:w.heap.size + 3≤(((w.alloc (.cells #[.bool s,.slice p n c] 24)).alloc (.cells #[.bool t,.slice q m d] 24)).alloc (.cells #[.bool false,.slice none 0 0] 24)).heap.size:=by simp
 clear hv hu
 go_enter Tryz.func42,Tryz.ntmps42
 go_wp2_with fail
 generalize ((w.alloc _).alloc _).alloc _=W at *
 have HS:=Lib.hid (fun w' (h:aB W (w.heap.size + 1 + 1) w')=>And.intro (h.cells b1 ab) (h.cells b2 ab))
 obtain ⟨c1,c2,_,_⟩:=b1.two
 obtain ⟨c3,c4,_,_⟩:=b2.two
 obtain ⟨c5,c6,f5,f6⟩:=b3.two
 go_cut [5,6] (fun x5 x6 wc=>MU w W wc 137 X Y x5 x6)
 case first=>
  go_region_held3 (fun w'=>(w'.cell? ⟨w.heap.size,0,none⟩=some (.bool s)/\w'.cell? ⟨w.heap.size,1,none⟩=some (.slice p n c))/\w'.cell? ⟨w.heap.size + 1,0,none⟩=some (.bool t)/\w'.cell? ⟨w.heap.size + 1,1,none⟩=some (.slice q m d)) ((refine HS.out _ ?_;(with_reducible (repeat (first | exact aB.refl _ _ | refine aB.drew ?_ | refine aB.drewN ?_ _ | refine aB.alloc ?_ _ | refine aB.set ?_ _ | refine aB.aN ?_ (by assumption) | refine aB.qR ?_ (by first | omega | (simp;done) | (simp;omega)) _))))) (first
   | (go_at_call_of 79 (Value.slice p n c);refine (ij _ X j w _ HV.out jf).mono ?_;rintro e w1 ⟨u1,rfl,zT,aI⟩;obtain ⟨s1,p1,n1,k1,rfl⟩:=zT.iH;have MS:=aI.size;(try simp at MS);(try (have q1:=bg.bo (bg.drew (bg.new _ _ #[_,_])) aI;(try simp at q1);obtain ⟨q1a,q1b,q1c,q1d⟩:=q1.two;have q1l:=q1.lt;have q1n:=Nat.ne_of_lt q1l;have q1m:=Nat.ne_of_gt q1l));(try (have q2:=bg.bo (bg.drew (bg.alloc (bg.new _ _ #[_,_]) _)) aI;(try simp at q2);obtain ⟨q2a,q2b,q2c,q2d⟩:=q2.two;have q2l:=q2.lt;have q2n:=Nat.ne_of_lt q2l;have q2m:=Nat.ne_of_gt q2l)))
   | (go_at_call_of 79 (Value.slice q m d);refine (ij _ Y k w _ HU.out jf).mono ?_;rintro e w2 ⟨u2,rfl,zV,ba⟩;obtain ⟨s2,p2,n2,k2,rfl⟩:=zV.iH;have KS:=ba.size;(try simp at KS);(try (have q3:=bg.bo (bg.new _ _ #[_,_]) ba;(try simp at q3);obtain ⟨q3a,q3b,q3c,q3d⟩:=q3.two;have q3l:=q3.lt;have q3n:=Nat.ne_of_lt q3l;have q3m:=Nat.ne_of_gt q3l));(try (have q4:=bg.bo (bg.alloc (bg.new _ _ #[_,_]) _) ba;(try simp at q4);obtain ⟨q4a,q4b,q4c,q4d⟩:=q4.two;have q4l:=q4.lt;have q4n:=Nat.ne_of_lt q4l;have q4m:=Nat.ne_of_gt q4l));(try (have q5:=bg.bo q1 ba;(try simp at q5);obtain ⟨q5a,q5b,q5c,q5d⟩:=q5.two;have q5l:=q5.lt;have q5n:=Nat.ne_of_lt q5l;have q5m:=Nat.ne_of_gt q5l));(try (have q6:=bg.bo q2 ba;(try simp at q6);obtain ⟨q6a,q6b,q6c,q6d⟩:=q6.two;have q6l:=q6.lt;have q6n:=Nat.ne_of_lt q6l;have q6m:=Nat.ne_of_gt q6l));(try (have q7:=bg.bo (bg.alloc q1 _) ba;(try simp at q7);obtain ⟨q7a,q7b,q7c,q7d⟩:=q7.two;have q7l:=q7.lt;have q7n:=Nat.ne_of_lt q7l;have q7m:=Nat.ne_of_gt q7l)))
   | fail)
  all_goals
   go_wp2
   go_meet
   refine ⟨_,_,s1,p1,n1,k1,s2,p2,n2,k2,rfl,rfl,?_,?_,zT,zV,?_⟩
   ·(with_reducible (repeat (first | assumption | exact bg.newAt (by first | rfl | (simp;done)) _ _ | refine bg.alloc ?_ _ | refine bg.drew ?_ | refine bg.bU (u:=.bool false) (v:=.slice none 0 0) ?_ _ _ | refine bg.eE ?_ (by first | omega | (simp;omega)) _ _ | refine bg.bo ?_ (by assumption))))
   ·(with_reducible (repeat (first | assumption | exact bg.newAt (by first | rfl | (simp;done)) _ _ | refine bg.alloc ?_ _ | refine bg.drew ?_ | refine bg.bU (u:=.bool false) (v:=.slice none 0 0) ?_ _ _ | refine bg.eE ?_ (by first | omega | (simp;omega)) _ _ | refine bg.bo ?_ (by assumption))))
   ·exact jf
 case rest=>
  obtain ⟨g,h,s1,p1,n1,k1,s2,p2,n2,k2,rfl,rfl,B5,B6,zT,zV,hbc⟩:=hcut
  obtain ⟨rS,jA,hX⟩:=zT.parts
  obtain ⟨uX,kE,hY⟩:=zV.parts
  have B3:=b3.bo hbc
  have lX:aL w wc:=oh.aN hbc
  have HR1:=Lib.hid (jA.below lX)
  have HR2:=Lib.hid (kE.below lX)
  have HN1:=Lib.hid rS
  have HN2:=Lib.hid uX
  have HX:=Lib.hid hX
  have HY:=Lib.hid hY
  have hm1:n1≤536870912:=by omega
  have DW:n2≤536870912:=by omega
  clear c1 c2 c3 c4 c5 c6 f5 f6 b1 b2 b3 hbc oh zT zV jA kE hX hY rS uX HS
  obtain ⟨c1,c2,_,_⟩:=B5.two
  obtain ⟨c3,c4,_,_⟩:=B6.two
  obtain ⟨c5,c6,f5,f6⟩:=B3.two
  have hg:g≠w.heap.size + 1 + 1:=fun e=>by subst e;have:=(show wc.heap[_]? =_ from B5).symm.trans B3;simp at this
  have hh:h≠w.heap.size + 1 + 1:=fun e=>by subst e;have:=(show wc.heap[_]? =_ from B6).symm.trans B3;simp at this
  have HS:=Lib.hid (fun w' (hk:aB wc (w.heap.size + 1 + 1) w')=>And.intro (hk.cells B5 hg) (hk.cells B6 hh))
  go_wp2_with fail
  go_region_held3 (fun w'=>(w'.cell? ⟨g,0,none⟩=some (.bool s1)/\w'.cell? ⟨g,1,none⟩=some (.slice p1 n1 k1))/\w'.cell? ⟨h,0,none⟩=some (.bool s2)/\w'.cell? ⟨h,1,none⟩=some (.slice p2 n2 k2)) ((refine HS.out _ ?_;(with_reducible (repeat (first | exact aB.refl _ _ | refine aB.drew ?_ | refine aB.drewN ?_ _ | refine aB.alloc ?_ _ | refine aB.set ?_ _ | refine aB.aN ?_ (by assumption) | refine aB.qR ?_ (by first | omega | (simp;done) | (simp;omega)) _))))) (first
   | (go_at_call 81;refine (Ry _ _ n1 n2 _ _ _ (HR1.out.below (aL.refl wc).drew) (HR2.out.below (aL.refl wc).drew) (az _) (az _) hm1 DW).mono ?_;rintro e w1 ⟨v1,rfl,wX,aI⟩;replace aI:aL _ w1:=aI;rw [aq,aq] at wX;obtain ⟨q1,l1,rfl,_,_,_⟩:=Own.form wX)
   | (go_at_call 80;refine (gA _ _ _ _ _).mono ?_;rintro e w3 ⟨sg,rfl,me,cC⟩;obtain ⟨e5,e6,g5,g6⟩:=(bg.bo (w':=w3) B3 jf).two)
   | fail)
  have FC:=(bg.bo (w':=w3) B3 jf)
  have FB:aL w w3:=jf
  generalize hL:(limbs (X.natAbs * Y.natAbs)).length=L at *
  have HL:=Lib.hid hL
  have HO:=Lib.hid (Own.bU (Own.below wX cC) FC bW (.bool sg) (.slice q1 L l1))
  clear wX hL
  have EX:=FC.bU (.bool (sg)) (.slice q1 (L) l1)
  have EY:=aL.bU FB (b:=w.heap.size + 1 + 1) ab (.bool (sg)) (.slice q1 (L) l1)
  go_wp2
  generalize (w3.setCell ⟨w.heap.size + 1 + 1,0,none⟩ (.bool (sg))).setCell ⟨w.heap.size + 1 + 1,1,none⟩ (.slice q1 (L) l1)=wz at *
  obtain ⟨EZ,Fa,_,_⟩:=EX.two
  refine bodyPost_ret (v:=.agg #[.bool (sg),.slice q1 (L) l1]) (by simp [results,Tryz.results42,go_sem,EZ,Fa]) rfl (bR.out _ _ ?_)
  rw [me.out]
  refine ⟨_,rfl,aD.of (m:=X.natAbs * Y.natAbs) (by rw [HL.out];exact Own.mono HO.out lX.size) HL.out.symm _ ?_,EY⟩
  rw [HX.out,HY.out]
  cases s1 <;> cases s2 <;> simp [Int.neg_mul,Int.mul_neg]
end
section
open Go.RowKit
theorem wY (s:Bool) (p:Option Addr) (n c:Nat) (w:World):(Instr.field 137 (.agg #[.bool s,.slice p n c]) 0).run Tryz.prog w=.ok (.agg #[.bool s,.slice p n c]) w:=by kernel_rfl
theorem wZ (s:Bool) (p:Option Addr) (n c:Nat) (w:World):(Instr.field 24 (.agg #[.bool s,.slice p n c]) 1).run Tryz.prog w=.ok (.slice p n c) w:=by kernel_rfl
theorem IB (v:Value) (X:Int) (j:Nat) (w:World) (hv:cA w v X j) (hj:j≤1073741824):
  Calls Tryz.prog 113 #[v] w fun e w'=>∃ r,e=.returned r/\aD w' w.heap.size r (-X)/\aL w w':=by
 obtain ⟨s,p,n,c,rfl⟩:=hv.form
 refine aY fun R' bR=> ?_
 obtain ⟨b1,b2,oh⟩:=nP w 24 24 #[.bool s,.slice p n c] #[.bool false,.slice none 0 0]
 have mr:=hv.len
 have HV:=Lib.hid hv
 have hsz:w.heap.size + 2≤((w.alloc (.cells #[.bool s,.slice p n c] 24)).alloc (.cells #[.bool false,.slice none 0 0] 24)).heap.size:=by simp
 clear hv
 go_enter Tryz.func113,Tryz.ntmps113
 go_wp2_with fail
 generalize (w.alloc _).alloc _=W at *
 refine (ij _ X j w _ HV.out jf).mono ?_
 rintro e w1 ⟨v1,rfl,mP,aI⟩
 go_wp2_with fail
 refine (Bo _ X _ (mP.bo jf)).mono ?_
 rintro e w2 ⟨v2,rfl,CK,ba⟩
 obtain ⟨s2,p2,n2,k2,rfl⟩:=CK.iH
 obtain ⟨uX,kE,_⟩:=CK.parts
 have DW:n2≤1073741824:=by rw [uX,Int.natAbs_neg];omega
 have HN2:=Lib.hid uX
 have HI2:=Lib.hid CK
 have HR2:=Lib.hid kE
 clear CK uX kE mP
 go_wp2_with fail
 have B5:=bg.new w2 137 #[.bool s2,.slice p2 n2 k2]
 have hbT:aL w2 (w2.alloc (.cells #[.bool s2,.slice p2 n2 k2] 137)):=(aL.refl w2).alloc _
 have B2:=((b2.bo aI).bo ba).bo hbT
 have hlt:=b2.lt
 have zF:=aI.size
 have hbs2:=ba.size
 have hne:w2.heap.size≠w.heap.size + 1:=by omega
 generalize w2.alloc _=T at *
 have HS:=Lib.hid (fun w' (hk:aB T (w.heap.size + 1) w')=>hk.cells B5 hne)
 obtain ⟨c1,c2,_,_⟩:=B5.two
 obtain ⟨c5,c6,f5,f6⟩:=B2.two
 go_region_held3 (fun w'=>w'.cell? ⟨w2.heap.size,0,none⟩=some (.bool s2)/\w'.cell? ⟨w2.heap.size,1,none⟩=some (.slice p2 n2 k2)) ((refine HS.out _ ?_;(with_reducible (repeat (first | exact aB.refl _ _ | refine aB.drew ?_ | refine aB.drewN ?_ _ | refine aB.alloc ?_ _ | refine aB.set ?_ _ | refine aB.aN ?_ (by assumption) | refine aB.qR ?_ (by first | omega | (simp;done) | (simp;omega)) _))))) (first
  | (go_at_call 133;refine (kf _ n2 _ _ (Rd.below (HR2.out.below hbT) (aL.refl T).drew) DW).mono ?_;rintro e w3 ⟨v3,rfl,CM,cC⟩;replace cC:aL _ w3:=cC;obtain ⟨q3,l3,rfl,_,_,_⟩:=Own.form CM;obtain ⟨e5,e6,g5,g6⟩:=(bg.bo (w':=w3) B2 jf).two)
  | fail)
 have FC:=(bg.bo (w':=w3) B2 jf)
 have FB:aL w w3:=jf
 have FT:aL w T:=jf
 have HO:=Lib.hid (Own.bU CM FC bW (.bool s2) (.slice q3 n2 l3))
 clear CM
 have EX:=FC.bU (.bool (s2)) (.slice q3 (n2) l3)
 have EY:=aL.bU FB (b:=w.heap.size + 1) ab (.bool (s2)) (.slice q3 (n2) l3)
 go_wp2
 generalize (w3.setCell ⟨w.heap.size + 1,0,none⟩ (.bool (s2))).setCell ⟨w.heap.size + 1,1,none⟩ (.slice q3 (n2) l3)=wz at *
 obtain ⟨EZ,Fa,_,_⟩:=EX.two
 refine bodyPost_ret (v:=.agg #[.bool (s2),.slice q3 (n2) l3]) (by simp [results,Tryz.results113,go_sem,EZ,Fa]) rfl (bR.out _ _ ?_)
 exact ⟨_,rfl,HI2.out.own (Own.mono HO.out FT.size),EY⟩
set_option maxRecDepth 100000 in
theorem Sr (v:Value) (X:Int) (j:Nat) (w:World) (hv:cA w v X j) (hj:j≤1073741824):
  Calls Tryz.prog 129 #[v] w fun e w'=>∃ r,e=.returned r/\aD w' w.heap.size r (X.natAbs:Int)/\aL w w':=by
 obtain ⟨s,p,n,c,rfl⟩:=hv.form
 refine aY fun R' bR=> ?_
 obtain ⟨b1,b2,oh⟩:=nP w 24 24 #[.bool s,.slice p n c] #[.bool false,.slice none 0 0]
 have mr:=hv.len
 have HV:=Lib.hid hv
 clear hv
 go_enter Tryz.func129,Tryz.ntmps129
 go_wp2_with fail
 generalize (w.alloc _).alloc _=W at *
 refine (ij _ X j w _ HV.out jf).mono ?_
 rintro e w1 ⟨v1,rfl,mP,aI⟩
 obtain ⟨s2,p2,n2,k2,rfl⟩:=mP.iH
 obtain ⟨uX,kE,_⟩:=mP.parts
 have DW:n2≤1073741824:=by rw [uX];omega
 have HN2:=Lib.hid uX
 have HR2:=Lib.hid kE
 have lX:aL w w1:=oh.aN aI
 have Ss:=wY s2 p2 n2 k2 w1
 have St:=wZ s2 p2 n2 k2 w1
 clear uX kE mP
 go_wp2_with fail
 refine (kf _ n2 _ _ (HR2.out.below lX) DW).mono ?_
 rintro e w3 ⟨v3,rfl,CM,cC⟩
 replace cC:aL _ w3:=cC
 obtain ⟨q3,l3,rfl,_,_,_⟩:=Own.form CM
 have FC:=(bg.bo (w':=w3) b2 jf)
 have FB:aL w w3:=jf
 have HO:=Lib.hid (Own.bU CM FC bW (.bool false) (.slice q3 n2 l3))
 obtain ⟨e5,e6,g5,g6⟩:=FC.two
 clear CM
 have EX:=FC.bU (.bool (false)) (.slice q3 (n2) l3)
 have EY:=aL.bU FB (b:=w.heap.size + 1) ab (.bool (false)) (.slice q3 (n2) l3)
 go_wp2
 generalize (w3.setCell ⟨w.heap.size + 1,0,none⟩ (.bool (false))).setCell ⟨w.heap.size + 1,1,none⟩ (.slice q3 (n2) l3)=wz at *
 obtain ⟨EZ,Fa,_,_⟩:=EX.two
 refine bodyPost_ret (v:=.agg #[.bool (false),.slice q3 (n2) l3]) (by simp [results,Tryz.results129,go_sem,EZ,Fa]) rfl (bR.out _ _ ?_)
 exact ⟨_,rfl,aD.ofNat (Own.mono HO.out lX.size) HN2.out,EY⟩
theorem rZ (v:Value) (X:Int) (j:Nat) (w:World) (hv:cA w v X j):
  Calls Tryz.prog 43 #[v] w fun e w'=>e=.returned (.int .i64 X.sign)/\aL w w':=by
 obtain ⟨s,p,n,c,rfl⟩:=hv.form
 refine aY fun R' bR=> ?_
 have HV:=Lib.hid hv
 have oh:=(aL.refl w).alloc (.cells #[.bool s,.slice p n c] 24)
 clear hv
 go_enter Tryz.func43,Tryz.ntmps43
 go_wp2_with fail
 generalize w.alloc _=W at *
 refine (ij _ X j w _ HV.out jf).mono ?_
 rintro e w1 ⟨v1,rfl,mP,aI⟩
 obtain ⟨s2,p2,n2,k2,rfl⟩:=mP.iH
 obtain ⟨uX,_,hX⟩:=mP.parts
 have lX:aL w w1:=oh.aN aI
 have me:=mP.RO
 clear mP
 cases s2
 ·by_cases h0:X=0
  ·subst h0
   have:n2=0:=by rw [uX];simp [bV]
   subst this
   clear uX hX me
   go_wp2
   exact bR.out _ _ ⟨rfl,lX.alloc _⟩
  ·have hp:0 < n2:=by rw [uX];exact dZ ab
   have hs:X.sign=1:=fh (by simp at hX;omega)
   rw [hs] at bR
   clear uX hX me
   have DJ:(0:Int) < (n2:Int):=by omega
   go_wp2
   exact bR.out _ _ ⟨rfl,lX.alloc _⟩
 ·have hs:X.sign= -1:=sign_neg (of_decide_eq_true me.symm)
  rw [hs] at bR
  clear uX hX me
  go_wp2
  exact bR.out _ _ ⟨rfl,lX.alloc _⟩
theorem ru (v u:Value) (X Y:Int) (j k:Nat) (w:World) (hv:cA w v X j) (hu:cA w u Y k) (hj:j≤1073741824) (hk:k≤1073741824):
  Calls Tryz.prog 41 #[v,u] w fun e w'=>e=.returned (.int .i64 (X - Y).sign)/\aL w w':=by
 obtain ⟨s,p,n,c,rfl⟩:=hv.form
 obtain ⟨t,q,m,d,rfl⟩:=hu.form
 refine aY fun R' bR=> ?_
 obtain ⟨b1,b2,oh⟩:=nP w 24 24 #[.bool s,.slice p n c] #[.bool t,.slice q m d]
 have HV:=Lib.hid (hv.bo oh)
 have HU:=Lib.hid (hu.bo oh)
 clear hv hu
 go_enter Tryz.func41,Tryz.ntmps41
 go_wp2_with fail
 generalize (w.alloc _).alloc _=W at *
 refine (Sq _ _ X Y j k _ HV.out HU.out hj hk).mono ?_
 rintro e w1 ⟨r,rfl,ho,aI⟩
 go_wp2_with fail
 refine (rZ _ (X - Y) _ _ (ho.rd.to (Nat.le_refl _))).mono ?_
 rintro e w2 ⟨rfl,ba⟩
 go_wp2
 exact bR.out _ _ ⟨rfl,(oh.aN aI).aN ba⟩
theorem u64neg {n:Int} (h0:n < 0) (h1: -9223372036854775808≤n):IntKind.u64.wrap (-(IntKind.u64.wrap n))=(n.natAbs:Int):=by
 rw [uD,uD];omega
theorem u64pos {n:Int} (h0:0≤n) (h1:n≤9223372036854775807):IntKind.u64.wrap n=(n.natAbs:Int):=by
 rw [uD];omega
theorem xP {a:Nat}:ak [a % 4294967296,a / 4294967296]=a:=by
 rw [gw,gw,fe];omega
set_option maxRecDepth 100000 in
theorem MV (n:Int) (w:World) (h0: -9223372036854775808≤n) (h1:n≤9223372036854775807):
  Calls Tryz.prog 82 #[.int .i64 n] w fun e w'=>∃ r,e=.returned r/\aD w' w.heap.size r n/\aL w w':=by
 refine aY fun R' bR=> ?_
 obtain ⟨a,ha⟩:∃ a,a=n.natAbs:=⟨_,rfl⟩
 have HA:=Lib.hid ha
 have ha2:a < 18446744073709551616:=by omega
 have jS:=bg.new w 24 #[.bool false,.slice none 0 0]
 have oh:=(aL.refl w).alloc (.cells #[.bool false,.slice none 0 0] 24)
 have hRl:=Rd.lit2 (w:=w.alloc (.cells #[.bool false,.slice none 0 0] 24)) (k:=.u32) (e:=117) (x:=(a:Int) % 4294967296) (y:=(a:Int) / 4294967296) (a:=a % 4294967296) (b:=a / 4294967296) ab ab
 rw [World.size_alloc] at hRl
 go_enter Tryz.func82,Tryz.ntmps82
 by_cases hn:n < 0
 ·have e1:=u64neg hn h0
  rw [<-ha] at e1
  have HN:=Lib.hid hn
  clear ha
  go_wp2_with fail
  refine (kQ _ 2 [a % 4294967296,a / 4294967296] _ hRl (cR.cons ab (cR.cons ab cR.nil)) ab).mono ?_
  rintro e w1 ⟨v1,rfl,wX,aI⟩
  replace aI:aL _ w1:=aI
  rw [xP] at wX
  obtain ⟨p1,k1,rfl,_,_,_⟩:=Own.form wX
  generalize hL:(limbs a).length=L at *
  have HL:=Lib.hid hL
  have FC1:=(jS.alloc (.cells #[.int .u32 ((a:Int) % 4294967296),.int .u32 ((a:Int) / 4294967296)] 117)).bo aI
  have FB1:aL w w1:=(((aL.refl w).alloc _).alloc _).aN aI
  have uf:=Lib.hid wX
  clear wX hL aI
  go_wp2_with fail
  refine (gA _ _ _ _ _).mono ?_
  rintro e w3 ⟨sg,rfl,me,cC⟩
  have FC:=FC1.bo cC
  have FB:=FB1.aN cC
  obtain ⟨e5,e6,g5,g6⟩:=FC.two
  have HO:=Lib.hid (Own.bU (Own.below uf.out cC) FC bW (.bool sg) (.slice p1 L k1))
  clear uf FC1
  have EX:=FC.bU (.bool (sg)) (.slice p1 (L) k1)
  have EY:=aL.bU FB (b:=w.heap.size) ab (.bool (sg)) (.slice p1 (L) k1)
  go_wp2
  generalize (w3.setCell ⟨w.heap.size,0,none⟩ (.bool (sg))).setCell ⟨w.heap.size,1,none⟩ (.slice p1 (L) k1)=wz at *
  obtain ⟨EZ,Fa,_,_⟩:=EX.two
  refine bodyPost_ret (v:=.agg #[.bool (sg),.slice p1 (L) k1]) (by simp [results,Tryz.results82,go_sem,EZ,Fa]) rfl (bR.out _ _ ?_)
  rw [me.out]
  refine ⟨_,rfl,aD.of (m:=a) (by rw [HL.out];exact Own.mono HO.out (by simp;omega)) HL.out.symm _ ?_,EY⟩
  have:=HN.out
  have:=HA.out
  simp;omega
 ·have e1:=u64pos (by omega:0≤n) h1
  rw [<-ha] at e1
  have HN:=Lib.hid hn
  clear ha
  go_wp2_with fail
  refine (kQ _ 2 [a % 4294967296,a / 4294967296] _ hRl (cR.cons ab (cR.cons ab cR.nil)) ab).mono ?_
  rintro e w1 ⟨v1,rfl,wX,aI⟩
  replace aI:aL _ w1:=aI
  rw [xP] at wX
  obtain ⟨p1,k1,rfl,_,_,_⟩:=Own.form wX
  generalize hL:(limbs a).length=L at *
  have HL:=Lib.hid hL
  have FC1:=(jS.alloc (.cells #[.int .u32 ((a:Int) % 4294967296),.int .u32 ((a:Int) / 4294967296)] 117)).bo aI
  have FB1:aL w w1:=(((aL.refl w).alloc _).alloc _).aN aI
  have uf:=Lib.hid wX
  clear wX hL aI
  go_wp2_with fail
  refine (gA _ _ _ _ _).mono ?_
  rintro e w3 ⟨sg,rfl,me,cC⟩
  have FC:=FC1.bo cC
  have FB:=FB1.aN cC
  obtain ⟨e5,e6,g5,g6⟩:=FC.two
  have HO:=Lib.hid (Own.bU (Own.below uf.out cC) FC bW (.bool sg) (.slice p1 L k1))
  clear uf FC1
  have EX:=FC.bU (.bool (sg)) (.slice p1 (L) k1)
  have EY:=aL.bU FB (b:=w.heap.size) ab (.bool (sg)) (.slice p1 (L) k1)
  go_wp2
  generalize (w3.setCell ⟨w.heap.size,0,none⟩ (.bool (sg))).setCell ⟨w.heap.size,1,none⟩ (.slice p1 (L) k1)=wz at *
  obtain ⟨EZ,Fa,_,_⟩:=EX.two
  refine bodyPost_ret (v:=.agg #[.bool (sg),.slice p1 (L) k1]) (by simp [results,Tryz.results82,go_sem,EZ,Fa]) rfl (bR.out _ _ ?_)
  rw [me.out]
  refine ⟨_,rfl,aD.of (m:=a) (by rw [HL.out];exact Own.mono HO.out (by simp;omega)) HL.out.symm _ ?_,EY⟩
  have:=HN.out
  have:=HA.out
  simp;omega
end
section
open Go.RowKit
def tB (rows:List (List Nat)):Nat:=rows.foldl (fun a r=>Nat.gcd a (ak r)) 0
theorem Py (rows:List (List Nat)) (r:List Nat):tB (rows++[r])=Nat.gcd (tB rows) (ak r):=by simp [tB,List.foldl_append]
theorem Su {x y:Nat}:Nat.gcd y (x % y)=Nat.gcd x y:=by rw [Nat.gcd_comm,<-Nat.gcd_rec,Nat.gcd_comm]
def GcdOut (w:World) (B:Nat) (rows:List (List Nat)) (g:Nat) (av iv:Value) (wr:World):Prop:=
 ∃ k,k≤rows.length/\g=rows.length - k/\iv=.int .i64 (k:Int)/\wr.ownsRow B 117 1 av (limbs (tB (rows.take k))).length (ints .u32 (limbs (tB (rows.take k))))/\(limbs (tB (rows.take k))).length≤536870912/\Below B w wr
def GcdIn (w:World) (B G:Nat) (g:Nat) (av bv:Value) (wr:World):Prop:=
 ∃ x,Nat.gcd x g=G/\wr.ownsRow B 117 1 av (limbs x).length (ints .u32 (limbs x))/\wr.ownsRow B 117 1 bv (limbs g).length (ints .u32 (limbs g))/\(limbs x).length≤536870912/\(limbs g).length≤536870912/\Below B w wr
set_option maxRecDepth 100000 in
theorem Sv (va:Value) (rows:List (List Nat)) (w:World) (hr:jC w va rows) (hx:∀ xs∈rows,cR xs/\xs.length≤536870912) (hn:rows.length≤1048576):
  Calls Tryz.prog 126 #[va] w fun e w'=>∃ v',e=.returned v'/\w'.ownsRow w.heap.size 117 1 v' (limbs (tB rows)).length (ints .u32 (limbs (tB rows)))/\Below w.heap.size w w':=by
 obtain ⟨p,c,rfl,fE,fX⟩:=hr.form
 have Hr:=Lib.hid hr
 have HL:=Lib.hid hx
 obtain ⟨B,hB⟩:∃ B,B=w.heap.size:=⟨_,rfl⟩
 have HB:=Lib.hid hB
 obtain ⟨N,hN⟩:∃ N,N=rows.length:=⟨_,rfl⟩
 rw [<-hN] at fE hn ⊢
 have HN:=Lib.hid hN
 rw [<-hB]
 clear hx hr hB hN
 refine aY fun R' bR=> ?_
 go_enter Tryz.func126,Tryz.ntmps126
 go_wp2
 go_loopg [3,11] N (fun g av iv wr=>GcdOut w B rows g av iv wr)
 case atStart=>exact ⟨0,Nat.zero_le _,by rw [HN.out];rfl,rfl,by simp [tB,bV];exact World.ownsRow_nil _ _ _ _,by simp [tB,bV],Below.refl _ _⟩
 case round=>
  obtain ⟨k,hk,hgk,rfl,aJ,hlen,hb⟩:=hrel
  have HO:=Lib.hid aJ
  have iQ:=Lib.hid hb
  have HGK:=Lib.hid hgk
  have HLEN:=Lib.hid hlen
  rw [<-HN.out] at hk
  clear aJ hb hgk hlen
  by_cases qO:k < N
  ·obtain ⟨b1,o1,u,xs,rfl,ig,ss,hru⟩:=((Hr.out.below (by have:=iQ.out;rwa [HB.out] at this)).at (k:=k) (by rw [<-HN.out];exact qO))
   have zG:=Lib.hid ig
   have HRU:=Lib.hid hru
   clear ig hru
   have zF:B≤wr.heap.size:=by have:=iQ.out.size;have:=HB.out;omega
   obtain ⟨CE,wS⟩:=HL.out xs (List.mem_of_getElem? zG.out)
   obtain ⟨a,ha⟩:∃ a,a=tB (rows.take k):=⟨_,rfl⟩
   obtain ⟨y,hy⟩:∃ y,y=ak xs:=⟨_,rfl⟩
   have kD:(limbs y).length≤536870912:=by rw [hy];exact Nat.le_trans (jz CE) wS
   have HL1:=Lib.hid CE
   have HL2:=Lib.hid wS
   have HYL:=Lib.hid kD
   have HG:Hid (Nat.gcd a y=tB (rows.take (k + 1))):=by show _=_;rw [bQ zG.out,Py,ha,hy]
   have HA:=Lib.hid ha
   have HY:=Lib.hid hy
   clear ha hy CE wS kD
   go_wp2_with fail
   refine (kQ _ _ xs _ HRU.out HL1.out (by have:=HL2.out;omega)).mono ?_
   rintro e w2 ⟨v',rfl,mv,ba⟩
   rw [<-HY.out] at mv
   have wX:=Own.below HO.out ba
   rw [<-HA.out] at wX
   have uf:=Lib.hid wX
   clear wX
   have qe:=Lib.hid (Own.mono mv zF)
   have xD:=Lib.hid (iQ.out.trans (ba.mono zF))
   clear mv ba ss
   go_wp2_with fail
   go_loopg [3,5] y (fun g av bv wr=>GcdIn w B (Nat.gcd a y) g av bv wr)
   case atStart=>exact ⟨a,rfl,uf.out,qe.out,by rw [HA.out];exact HLEN.out,HYL.out,xD.out⟩
   case round=>
    obtain ⟨x,Mt,hox,hoy,mr,qm,lX⟩:=hrel
    have HXY:=Lib.hid Mt
    have HOX:=Lib.hid hox
    have HOY:=Lib.hid hoy
    have HLX:=Lib.hid mr
    have HLY:=Lib.hid qm
    have HBX:=Lib.hid lX
    obtain ⟨py,cy,rfl,_,_,_⟩:=Own.form hoy
    clear Mt hox hoy mr qm lX
    by_cases Sw:gk=0
    ·subst Sw
     have Cv:(limbs 0).length=0:=by rw [bV];rfl
     rw [Cv]
     have hxg:x=tB (rows.take (k + 1)):=by rw [<-HG.out,<-HXY.out,Nat.gcd_zero_right]
     have HXG:=Lib.hid hxg
     clear hxg Cv
     go_wp2_with fail
     go_roundg (N - (k + 1))
     case measure=>have:=HGK.out;have:=HN.out;omega
     case rel=>exact ⟨k + 1,by rw [<-HN.out];omega,by rw [HN.out],by go_num,by rw [<-HXG.out];exact HOX.out,by rw [<-HXG.out];exact HLX.out,HBX.out⟩
    ·have hp:(0:Int) < ((limbs gk).length:Int):=by have:=dZ Sw;omega
     have HG0:=Lib.hid Sw
     obtain ⟨L,hL⟩:∃ L,L=(limbs gk).length:=⟨_,rfl⟩
     rw [<-hL] at hp ⊢
     have HL:=Lib.hid hL
     have hbx:B≤wr.heap.size:=by have:=HBX.out.size;have:=HB.out;omega
     clear Sw hL
     go_wp2_with fail
     refine (xC _ _ _ _ _ _ _ (Rd.own HOX.out) (by rw [HL.out];exact Rd.own HOY.out) (az _) (az _) HLX.out HLY.out).mono ?_
     rintro e w3 ⟨⟨h,rfl⟩ | ⟨h,vq,vr,rfl,Hi,Aq⟩,cC⟩
     ·exact absurd (by rw [aq] at h;exact h) HG0.out
     rw [aq,aq] at Aq
     have hlt:x % gk < gk:=Nat.mod_lt _ (Nat.pos_iff_ne_zero.2 HG0.out)
     have HLT:=Lib.hid hlt
     have HOR:=Lib.hid (Own.mono Aq hbx)
     have HOG:=Lib.hid (Own.below HOY.out cC)
     have QP:=Lib.hid (HBX.out.trans (cC.mono hbx))
     clear Hi Aq cC h hlt
     go_wp2_with fail
     go_roundg (x % gk)
     case measure=>exact HLT.out
     case rel=>exact ⟨gk,by rw [Su];exact HXY.out,by rw [HL.out];exact HOG.out,HOR.out,HLY.out,Nat.le_trans (dk (Nat.le_of_lt HLT.out)) HLY.out,QP.out⟩
  ·obtain rfl:k=N:=by omega
   go_wp2_with fail
   refine (kf _ _ _ _ (Rd.own HO.out) (by have:=HLEN.out;omega)).mono ?_
   rintro e w2 ⟨v',rfl,mv,ba⟩
   have zF:B≤wr.heap.size:=by have:=iQ.out.size;have:=HB.out;omega
   go_wp2_with fail
   refine bR.out _ _ ⟨_,rfl,?_,iQ.out.trans (ba.mono zF)⟩
   have:=Own.mono mv zF
   rwa [List.take_of_length_le (by rw [HN.out];exact Nat.le_refl _)] at this
end
section
open Go.RowKit
theorem Sx (x y:Nat):tB [limbs x,limbs y]=Nat.gcd x y:=by simp [tB,aq]
set_option maxRecDepth 100000 in
theorem IC (v u:Value) (X Y:Int) (j k:Nat) (w:World) (hv:cA w v X j) (hu:cA w u Y k) (hj:j≤536870912) (hk:k≤536870912):
  Calls Tryz.prog 103 #[v,u] w fun e w'=>∃ r,e=.returned r/\aD w' w.heap.size r (Int.gcd X Y:Int)/\aL w w':=by
 obtain ⟨s,p,n,c,rfl⟩:=hv.form
 obtain ⟨t,q,m,d,rfl⟩:=hu.form
 refine aY fun R' bR=> ?_
 obtain ⟨b1,b2,b3,oh⟩:=pz w 24 24 24 #[.bool s,.slice p n c] #[.bool t,.slice q m d] #[.bool false,.slice none 0 0]
 have mr:=hv.len
 have qm:=hu.len
 have HJ:=Lib.hid (Nat.le_trans mr hj)
 have HK:=Lib.hid (Nat.le_trans qm hk)
 have HV:=Lib.hid hv
 have HU:=Lib.hid hu
 have hsz:w.heap.size + 3≤(((w.alloc (.cells #[.bool s,.slice p n c] 24)).alloc (.cells #[.bool t,.slice q m d] 24)).alloc (.cells #[.bool false,.slice none 0 0] 24)).heap.size:=by simp
 clear hv hu hj hk mr qm
 go_enter Tryz.func103,Tryz.ntmps103
 go_wp2_with fail
 generalize ((w.alloc _).alloc _).alloc _=W at *
 have HS:=Lib.hid (fun w' (h:aB W (w.heap.size + 1 + 1) w')=>And.intro (h.cells b1 ab) (h.cells b2 ab))
 obtain ⟨c1,c2,_,_⟩:=b1.two
 obtain ⟨c3,c4,_,_⟩:=b2.two
 obtain ⟨c5,c6,f5,f6⟩:=b3.two
 go_region_held3 (fun w'=>(w'.cell? ⟨w.heap.size,0,none⟩=some (.bool s)/\w'.cell? ⟨w.heap.size,1,none⟩=some (.slice p n c))/\w'.cell? ⟨w.heap.size + 1,0,none⟩=some (.bool t)/\w'.cell? ⟨w.heap.size + 1,1,none⟩=some (.slice q m d)) ((refine HS.out _ ?_;(with_reducible (repeat (first | exact aB.refl _ _ | refine aB.drew ?_ | refine aB.drewN ?_ _ | refine aB.alloc ?_ _ | refine aB.set ?_ _ | refine aB.aN ?_ (by assumption) | refine aB.qR ?_ (by first | omega | (simp;done) | (simp;omega)) _))))) (first
  | (go_at_call_of 79 (Value.slice p n c);refine (ij _ X j w _ HV.out jf).mono ?_;rintro e w1 ⟨u1,rfl,zT,aI⟩;obtain ⟨s1,p1,n1,k1,rfl⟩:=zT.iH;have Ss:=wY s1 p1 n1 k1;have St:=wZ s1 p1 n1 k1)
  | (go_at_call_of 79 (Value.slice q m d);refine (ij _ Y k w _ HU.out jf).mono ?_;rintro e w2 ⟨u2,rfl,zV,ba⟩;obtain ⟨s2,p2,n2,k2,rfl⟩:=zV.iH;have hf3:=wY s2 p2 n2 k2;have hf4:=wZ s2 p2 n2 k2;have HP1:=Lib.hid zT.parts;have HP2:=Lib.hid zV.parts)
  | (go_at_call 126;refine (Sv _ [limbs X.natAbs,limbs Y.natAbs] _ (jC.two (My rfl) (by rw [<-HP1.out.1];exact HP1.out.2.1.below (by show aL _ _;exact jf)) (by rw [<-HP2.out.1];exact HP2.out.2.1.below (by show aL _ _;exact jf))) (fun xs hx=>by rcases List.mem_cons.1 hx with rfl | hx;exact ⟨az _,HJ.out⟩;obtain rfl:=List.mem_singleton.1 hx;exact ⟨az _,HK.out⟩) (by show 2≤1048576;omega)).mono ?_;rintro e w3 ⟨v3,rfl,CM,cC⟩;replace cC:aL _ w3:=cC;rw [Sx] at CM;obtain ⟨p3,k3,rfl,_,_,_⟩:=Own.form CM)
  | (go_at_call 80;refine (gA _ _ _ _ _).mono ?_;rintro e w4 ⟨sg,rfl,me,fq⟩;obtain ⟨e5,e6,g5,g6⟩:=(bg.bo (w':=w4) b3 jf).two)
  | fail)
 have FC:=(bg.bo (w':=w4) b3 jf)
 have FB:aL w w4:=jf
 have FZ:aL w (w2.alloc (.cells #[.slice p1 n1 k1,.slice p2 n2 k2] 22)):=jf
 generalize hL:(limbs (X.natAbs.gcd Y.natAbs)).length=L at *
 have HL:=Lib.hid hL
 have HO:=Lib.hid (Own.bU (Own.below CM fq) FC bW (.bool sg) (.slice p3 L k3))
 clear CM hL
 have EX:=FC.bU (.bool (sg)) (.slice p3 (L) k3)
 have EY:=aL.bU FB (b:=w.heap.size + 1 + 1) ab (.bool (sg)) (.slice p3 (L) k3)
 go_wp2
 generalize (w4.setCell ⟨w.heap.size + 1 + 1,0,none⟩ (.bool (sg))).setCell ⟨w.heap.size + 1 + 1,1,none⟩ (.slice p3 (L) k3)=wz at *
 obtain ⟨EZ,Fa,_,_⟩:=EX.two
 refine bodyPost_ret (v:=.agg #[.bool (sg),.slice p3 (L) k3]) (by simp [results,Tryz.results103,go_sem,EZ,Fa]) rfl (bR.out _ _ ?_)
 rw [me.out]
 refine ⟨_,rfl,aD.of (m:=X.natAbs.gcd Y.natAbs) (by rw [HL.out];exact Own.mono HO.out FZ.size) HL.out.symm _ ?_,EY⟩
 simp [Int.gcd]
end
section
open Go.RowKit
theorem boxes4 (w:World) (t t' Kb t3:TypeId) (cs eW sw cs3:Array Value):bg ((((w.alloc (.cells cs t)).alloc (.cells eW t')).alloc (.cells sw Kb)).alloc (.cells cs3 t3)) w.heap.size t cs/\bg ((((w.alloc (.cells cs t)).alloc (.cells eW t')).alloc (.cells sw Kb)).alloc (.cells cs3 t3)) (w.heap.size + 1) t' eW/\
  bg ((((w.alloc (.cells cs t)).alloc (.cells eW t')).alloc (.cells sw Kb)).alloc (.cells cs3 t3)) (w.heap.size + 2) Kb sw/\bg ((((w.alloc (.cells cs t)).alloc (.cells eW t')).alloc (.cells sw Kb)).alloc (.cells cs3 t3)) (w.heap.size + 3) t3 cs3/\
  aL w ((((w.alloc (.cells cs t)).alloc (.cells eW t')).alloc (.cells sw Kb)).alloc (.cells cs3 t3)):=
 ⟨(pz w t t' Kb cs eW sw).1.alloc _,(pz w t t' Kb cs eW sw).2.1.alloc _,(pz w t t' Kb cs eW sw).2.2.1.alloc _,bg.newAt cw _ _,(pz w t t' Kb cs eW sw).2.2.2.alloc _⟩
def Bp (w w':World) (X Y:Int) (e:Ending):Prop:=
 (Y=0/\∃ v u,e=.returned (.tuple #[v,u,.int .i64 20])/\aD w' w.heap.size v 0/\aD w' w.heap.size u 0)\/
 (Y≠0/\∃ v u,e=.returned (.tuple #[v,u,.int .i64 0])/\aD w' w.heap.size v (X.fdiv Y)/\aD w' w.heap.size u (X.fmod Y))
def Sy (a b:Nat) (s t:Bool) (M R:Nat):Prop:=((s=t\/a % b=0)/\M=a / b/\R=a % b)\/(s≠t/\a % b≠0/\M=a / b + 1/\R=b - a % b)
theorem sa {X Y:Int} {a b M R:Nat} {s t:Bool} (hX:X=if s=true then -(a:Int) else a) (hY:Y=if t=true then -(b:Int) else b) (hb:b≠0) (h:Sy a b s t M R):
  X.fdiv Y=(if (!(s == t))=true then -(M:Int) else M)/\X.fmod Y=(if t=true then -(R:Int) else R):=by
 unfold Sy at h
 have e:=Nat.div_add_mod a b
 have hlt:=Nat.mod_lt a (Nat.pos_of_ne_zero hb)
 generalize a / b=q at *
 generalize a % b=r at *
 have e':(a:Int)=(b:Int) * (q:Int) + (r:Int):=by rw [<-e];simp
 rw [e'] at hX
 have hR:R≤b:=by rcases h with ⟨_,_,rfl⟩ | ⟨_,_,_,rfl⟩ <;> omega
 cases t
 ·have hp:0 < Y:=by simp at hY;omega
  refine (Int.fdiv_fmod_unique hp).2 ?_
  rcases h with ⟨h1,rfl,rfl⟩ | ⟨h1,h2,rfl,rfl⟩
  ·cases s
   ·simp at hX hY ⊢
    subst hX;subst hY
    omega
   ·simp at h1 hX hY ⊢
    subst hX;subst hY;subst h1
    simp only [Int.mul_neg]
    omega
  ·cases s
   ·exact absurd rfl h1
   ·simp at hX hY ⊢
    subst hX;subst hY
    rw [Int.natCast_sub ab]
    simp only [Int.mul_add,Int.mul_neg,Int.mul_one,Int.neg_add]
    omega
 ·have hp:Y < 0:=by simp at hY;omega
  refine (Int.fdiv_fmod_unique' hp).2 ?_
  rcases h with ⟨h1,rfl,rfl⟩ | ⟨h1,h2,rfl,rfl⟩
  ·cases s
   ·simp at h1 hX hY ⊢
    subst hX;subst hY;subst h1
    simp only [Int.neg_mul_neg]
    omega
   ·simp at hX hY ⊢
    subst hX;subst hY
    simp only [Int.neg_mul]
    omega
  ·cases s
   ·simp at hX hY ⊢
    subst hX;subst hY
    rw [Int.natCast_sub ab]
    simp only [Int.mul_add,Int.neg_mul,Int.mul_neg,Int.mul_one,Int.neg_add,Int.neg_neg]
    omega
   ·exact absurd rfl h1
set_option maxRecDepth 100000 in
theorem nk (v u:Value) (X Y:Int) (j k:Nat) (w:World) (hv:cA w v X j) (hu:cA w u Y k) (hj:j≤536870912) (hk:k≤536870912):
  Calls Tryz.prog 114 #[v,u] w fun e w'=>Bp w w' X Y e/\aL w w':=by
 obtain ⟨s,p,n,c,rfl⟩:=hv.form
 obtain ⟨t,q,m,d,rfl⟩:=hu.form
 refine aY fun R' bR=> ?_
 obtain ⟨b1,b2,b3,b4,oh⟩:=boxes4 w 24 24 24 24 #[.bool s,.slice p n c] #[.bool t,.slice q m d] #[.bool false,.slice none 0 0] #[.bool false,.slice none 0 0]
 have mr:=hv.len
 have qm:=hu.len
 have HJ:=Lib.hid (Nat.le_trans mr hj)
 have HK:=Lib.hid (Nat.le_trans qm hk)
 have HV:=Lib.hid hv
 have HU:=Lib.hid hu
 have hsz:w.heap.size + 4≤((((w.alloc (.cells #[.bool s,.slice p n c] 24)).alloc (.cells #[.bool t,.slice q m d] 24)).alloc (.cells #[.bool false,.slice none 0 0] 24)).alloc (.cells #[.bool false,.slice none 0 0] 24)).heap.size:=by simp
 clear hv hu hj hk mr qm
 go_enter Tryz.func114,Tryz.ntmps114
 go_wp2_with fail
 generalize (((w.alloc _).alloc _).alloc _).alloc _=W at *
 go_cut [7,8] (fun x5 x6 wc=>MU w W wc 137 X Y x5 x6)
 case first=>
  have HS:=Lib.hid (fun w' (h:aB W (w.heap.size + 1 + 1) w')=>And.intro (h.cells b1 ab) (h.cells b2 ab))
  obtain ⟨c1,c2,_,_⟩:=b1.two
  obtain ⟨c3,c4,_,_⟩:=b2.two
  go_region_held3 (fun w'=>(w'.cell? ⟨w.heap.size,0,none⟩=some (.bool s)/\w'.cell? ⟨w.heap.size,1,none⟩=some (.slice p n c))/\w'.cell? ⟨w.heap.size + 1,0,none⟩=some (.bool t)/\w'.cell? ⟨w.heap.size + 1,1,none⟩=some (.slice q m d)) ((refine HS.out _ ?_;(with_reducible (repeat (first | exact aB.refl _ _ | refine aB.drew ?_ | refine aB.drewN ?_ _ | refine aB.alloc ?_ _ | refine aB.set ?_ _ | refine aB.aN ?_ (by assumption) | refine aB.qR ?_ (by first | omega | (simp;done) | (simp;omega)) _))))) (first
   | (go_at_call_of 79 (Value.slice p n c);refine (ij _ X j w _ HV.out jf).mono ?_;rintro e w1 ⟨u1,rfl,zT,aI⟩;obtain ⟨s1,p1,n1,k1,rfl⟩:=zT.iH;have MS:=aI.size;(try simp at MS);(try (have q1:=bg.bo (bg.drew (bg.new _ _ #[_,_])) aI;(try simp at q1);obtain ⟨q1a,q1b,q1c,q1d⟩:=q1.two;have q1l:=q1.lt;have q1n:=Nat.ne_of_lt q1l;have q1m:=Nat.ne_of_gt q1l));(try (have q2:=bg.bo (bg.drew (bg.alloc (bg.new _ _ #[_,_]) _)) aI;(try simp at q2);obtain ⟨q2a,q2b,q2c,q2d⟩:=q2.two;have q2l:=q2.lt;have q2n:=Nat.ne_of_lt q2l;have q2m:=Nat.ne_of_gt q2l)))
   | (go_at_call_of 79 (Value.slice q m d);refine (ij _ Y k w _ HU.out jf).mono ?_;rintro e w2 ⟨u2,rfl,zV,ba⟩;obtain ⟨s2,p2,n2,k2,rfl⟩:=zV.iH;have KS:=ba.size;(try simp at KS);(try (have q3:=bg.bo (bg.new _ _ #[_,_]) ba;(try simp at q3);obtain ⟨q3a,q3b,q3c,q3d⟩:=q3.two;have q3l:=q3.lt;have q3n:=Nat.ne_of_lt q3l;have q3m:=Nat.ne_of_gt q3l));(try (have q4:=bg.bo (bg.alloc (bg.new _ _ #[_,_]) _) ba;(try simp at q4);obtain ⟨q4a,q4b,q4c,q4d⟩:=q4.two;have q4l:=q4.lt;have q4n:=Nat.ne_of_lt q4l;have q4m:=Nat.ne_of_gt q4l));(try (have q5:=bg.bo q1 ba;(try simp at q5);obtain ⟨q5a,q5b,q5c,q5d⟩:=q5.two;have q5l:=q5.lt;have q5n:=Nat.ne_of_lt q5l;have q5m:=Nat.ne_of_gt q5l));(try (have q6:=bg.bo q2 ba;(try simp at q6);obtain ⟨q6a,q6b,q6c,q6d⟩:=q6.two;have q6l:=q6.lt;have q6n:=Nat.ne_of_lt q6l;have q6m:=Nat.ne_of_gt q6l));(try (have q7:=bg.bo (bg.alloc q1 _) ba;(try simp at q7);obtain ⟨q7a,q7b,q7c,q7d⟩:=q7.two;have q7l:=q7.lt;have q7n:=Nat.ne_of_lt q7l;have q7m:=Nat.ne_of_gt q7l)))
   | fail)
  all_goals
   go_wp2
   go_meet
   refine ⟨_,_,s1,p1,n1,k1,s2,p2,n2,k2,rfl,rfl,?_,?_,zT,zV,?_⟩
   ·(with_reducible (repeat (first | assumption | exact bg.newAt (by first | rfl | (simp;done)) _ _ | refine bg.alloc ?_ _ | refine bg.drew ?_ | refine bg.bU (u:=.bool false) (v:=.slice none 0 0) ?_ _ _ | refine bg.eE ?_ (by first | omega | (simp;omega)) _ _ | refine bg.bo ?_ (by assumption))))
   ·(with_reducible (repeat (first | assumption | exact bg.newAt (by first | rfl | (simp;done)) _ _ | refine bg.alloc ?_ _ | refine bg.drew ?_ | refine bg.bU (u:=.bool false) (v:=.slice none 0 0) ?_ _ _ | refine bg.eE ?_ (by first | omega | (simp;omega)) _ _ | refine bg.bo ?_ (by assumption))))
   ·exact jf
 case rest=>
  obtain ⟨g,h,s1,p1,n1,k1,s2,p2,n2,k2,rfl,rfl,B5,B6,zT,zV,hbc⟩:=hcut
  obtain ⟨rS,jA,hX⟩:=zT.parts
  obtain ⟨uX,kE,hY⟩:=zV.parts
  have B3:=b3.bo hbc
  have B4:=b4.bo hbc
  have lX:aL w wc:=oh.aN hbc
  have HR1:=Lib.hid (jA.below lX)
  have HR2:=Lib.hid (kE.below lX)
  have HN1:=Lib.hid rS
  have HN2:=Lib.hid uX
  have HX:=Lib.hid hX
  have HY:=Lib.hid hY
  have HM1:Hid (n1≤536870912):=by show _≤_;rw [rS];exact HJ.out
  have HM2:Hid (n2≤536870912):=by show _≤_;rw [uX];exact HK.out
  have QN:w.heap.size + 4≤wc.heap.size:=Nat.le_trans hsz hbc.size
  clear b1 b2 b3 b4 hbc oh zT zV jA kE hX hY rS uX hsz
  obtain ⟨c1,c2,_,_⟩:=B5.two
  obtain ⟨c3,c4,_,_⟩:=B6.two
  go_wp2_with fail
  refine (xC _ _ n1 n2 _ _ _ HR1.out HR2.out (az _) (az _) HM1.out HM2.out).mono ?_
  rw [aq,aq]
  rintro e w3 ⟨hd,cC⟩
  replace cC:aL _ w3:=cC
  have F5:=B5.bo cC
  have F6:=B6.bo cC
  have F3:=B3.bo cC
  have F4:=B4.bo cC
  have hbw3:=lX.aN cC
  obtain ⟨e1,e2,_,_⟩:=F5.two
  obtain ⟨e3,e4,_,_⟩:=F6.two
  obtain ⟨e5,e6,f5,f6⟩:=F3.two
  obtain ⟨e7,e8,f7,f8⟩:=F4.two
  rcases hd with ⟨h0,rfl⟩ | ⟨h0,vq,vr,rfl,Hi,Aq⟩
  ·have hY0:Y=0:=by have:=HY.out;split at this <;> omega
   have G3:=(F3.bU (.bool false) (.slice none 0 0)).eE (b':=w.heap.size + 3) ab (.bool false) (.slice none 0 0)
   have G4:=(F4.eE (b':=w.heap.size + 2) ab (.bool false) (.slice none 0 0)).bU (.bool false) (.slice none 0 0)
   have KT:=(hbw3.bU (b:=w.heap.size + 2) ab (.bool false) (.slice none 0 0)).bU (b:=w.heap.size + 3) ab (.bool false) (.slice none 0 0)
   clear HX HY HN1 HN2 h0
   go_wp2
   generalize (((w3.setCell ⟨w.heap.size + 1 + 1,0,none⟩ (.bool false)).setCell ⟨w.heap.size + 1 + 1,1,none⟩ (.slice none 0 0)).setCell ⟨w.heap.size + 1 + 1 + 1,0,none⟩ (.bool false)).setCell ⟨w.heap.size + 1 + 1 + 1,1,none⟩ (.slice none 0 0)=wz at *
   obtain ⟨d1,d2,_,_⟩:=G3.two
   obtain ⟨d3,d4,_,_⟩:=G4.two
   exact bodyPost_ret (v:=.tuple #[.agg #[.bool false,.slice none 0 0],.agg #[.bool false,.slice none 0 0],.int .i64 20]) (by simp [results,Tryz.results114,go_sem,d1,d2,d3,d4]) rfl (bR.out _ _ ⟨.inl ⟨hY0,_,_,rfl,aD.zero _ _,aD.zero _ _⟩,KT⟩)
  ·obtain ⟨pq,kq,rfl,_,_,_⟩:=Own.form Hi
   obtain ⟨pr,kr,rfl,_,_,_⟩:=Own.form Aq
   generalize hlq:(limbs (X.natAbs / Y.natAbs)).length=lq at *
   generalize CD:(limbs (X.natAbs % Y.natAbs)).length=lr at *
   have HLQ:=Lib.hid hlq.symm
   have QO:=Lib.hid CD.symm
   have HOQ:=Lib.hid Hi
   have HOR:=Lib.hid Aq
   have H0:=Lib.hid h0
   clear Hi Aq hlq CD h0 e2 e6 e8 e5 e7 f5 f6 f7 f8 c1 c2 c3 c4
   by_cases hst:s1=s2
   ·subst hst
    clear e4
    go_wp2_with fail
    have hg3:g≠w.heap.size + 1 + 1:=bg.apart F5 F3 bW
    have hg4:g≠w.heap.size + 1 + 1 + 1:=bg.apart F5 F4 bW
    have hh3:h≠w.heap.size + 1 + 1:=bg.apart F6 F3 bW
    have hh4:h≠w.heap.size + 1 + 1 + 1:=bg.apart F6 F4 bW
    have HS:=Lib.hid (fun w' (hk:bj w3 (w.heap.size + 1 + 1) (w.heap.size + 1 + 1 + 1) w')=>And.intro ((hk.cls F5 hg3 hg4).cell (j:=0) rfl) ((hk.cls F6 hh3 hh4).cell (j:=0) rfl))
    go_region_held3 (fun w'=>w'.cell? ⟨g,0,none⟩=some (.bool s1)/\w'.cell? ⟨h,0,none⟩=some (.bool s1)) ((refine HS.out _ ?_;(with_reducible (repeat (first | exact bj.refl _ _ _ | refine bj.drew ?_ | refine bj.RP ?_ _ | refine bj.sA ?_ _ | refine bj.aN ?_ (by assumption)))))) (first
     | (go_at_call_of 80 (Value.slice pq lq kq);refine (gA _ _ _ _ _).mono ?_;rintro e w6 ⟨sg,rfl,me,fK⟩)
     | (go_at_call_of 80 (Value.slice pr lr kr);refine (gA _ _ _ _ _).mono ?_;rintro e w7 ⟨mC,rfl,nX,lL⟩;obtain ⟨i1,i2,i3,i4⟩:=(bg.bo (w':=w7) F3 jf).two;obtain ⟨j1,j2,j3,j4⟩:=(bg.bo (w':=w7) F4 jf).two)
     | fail)
    have E3:=(bg.bo (w':=w7) F3 jf)
    have E4:=(bg.bo (w':=w7) F4 jf)
    have FW:aL w3 w7:=jf
    have FB:aL w w7:=jf
    have Hi:=Own.below (HOQ).out FW
    have Aq:=Own.below (HOR).out FW
    have ID:=(Own.bU (Own.bU Hi E3 bW (.bool sg) (.slice pq lq kq)) (E4.eE (b':=w.heap.size + 1 + 1) ab (.bool sg) (.slice pq lq kq)) bW (.bool mC) (.slice pr lr kr))
    have IE:=(Own.bU (Own.bU Aq E3 bW (.bool sg) (.slice pq lq kq)) (E4.eE (b':=w.heap.size + 1 + 1) ab (.bool sg) (.slice pq lq kq)) bW (.bool mC) (.slice pr lr kr))
    have G3:=(E3.bU (.bool sg) (.slice pq lq kq)).eE (b':=w.heap.size + 1 + 1 + 1) ab (.bool mC) (.slice pr lr kr)
    have G4:=(E4.eE (b':=w.heap.size + 1 + 1) ab (.bool sg) (.slice pq lq kq)).bU (.bool mC) (.slice pr lr kr)
    have KT:=(FB.bU (b:=w.heap.size + 1 + 1) ab (.bool sg) (.slice pq lq kq)).bU (b:=w.heap.size + 1 + 1 + 1) ab (.bool mC) (.slice pr lr kr)
    have SA:=Lib.hid ID
    have SB:=Lib.hid IE
    clear Hi Aq ID IE
    go_wp2
    generalize (((w7.setCell ⟨w.heap.size + 1 + 1,0,none⟩ (.bool sg)).setCell ⟨w.heap.size + 1 + 1,1,none⟩ (.slice pq lq kq)).setCell ⟨w.heap.size + 1 + 1 + 1,0,none⟩ (.bool mC)).setCell ⟨w.heap.size + 1 + 1 + 1,1,none⟩ (.slice pr lr kr)=wz at *
    obtain ⟨d1,d2,_,_⟩:=G3.two
    obtain ⟨d3,d4,_,_⟩:=G4.two
    have vZ:=sa HX.out HY.out H0.out (.inl ⟨.inl rfl,rfl,rfl⟩)
    refine bodyPost_ret (v:=.tuple #[.agg #[.bool sg,.slice pq lq kq],.agg #[.bool mC,.slice pr lr kr],.int .i64 0]) (by simp [results,Tryz.results114,go_sem,d1,d2,d3,d4]) rfl (bR.out _ _ ⟨.inr ⟨by have:=H0.out;omega,_,_,rfl,?_,?_⟩,KT⟩)
    ·rw [me.out]
     exact aD.of (by rw [<-(HLQ).out];exact Own.mono SA.out lX.size) (HLQ).out _ (by simpa using vZ.1)
    ·rw [nX.out]
     exact aD.of (by rw [<-(QO).out];exact Own.mono SB.out lX.size) (QO).out _ (by simpa using vZ.2)
   ·obtain rfl:s2= !s1:=by cases s1 <;> cases s2 <;> simp_all
    by_cases Ar:X.natAbs % Y.natAbs=0
    ·have Cv:lr=0:=by have:=QO.out;rw [Ar,bV] at this;exact this
     have HR0:=Lib.hid Ar
     subst Cv
     clear Ar hst e4
     go_wp2_with fail
     have hg3:g≠w.heap.size + 1 + 1:=bg.apart F5 F3 bW
     have hg4:g≠w.heap.size + 1 + 1 + 1:=bg.apart F5 F4 bW
     have hh3:h≠w.heap.size + 1 + 1:=bg.apart F6 F3 bW
     have hh4:h≠w.heap.size + 1 + 1 + 1:=bg.apart F6 F4 bW
     have HS:=Lib.hid (fun w' (hk:bj w3 (w.heap.size + 1 + 1) (w.heap.size + 1 + 1 + 1) w')=>And.intro ((hk.cls F5 hg3 hg4).cell (j:=0) rfl) ((hk.cls F6 hh3 hh4).cell (j:=0) rfl))
     go_region_held3 (fun w'=>w'.cell? ⟨g,0,none⟩=some (.bool s1)/\w'.cell? ⟨h,0,none⟩=some (.bool (!s1))) ((refine HS.out _ ?_;(with_reducible (repeat (first | exact bj.refl _ _ _ | refine bj.drew ?_ | refine bj.RP ?_ _ | refine bj.sA ?_ _ | refine bj.aN ?_ (by assumption)))))) (first
      | (go_at_call_of 80 (Value.slice pq lq kq);refine (gA _ _ _ _ _).mono ?_;rintro e w6 ⟨sg,rfl,me,fK⟩)
      | (go_at_call_of 80 (Value.slice pr 0 kr);refine (gA _ _ _ _ _).mono ?_;rintro e w7 ⟨mC,rfl,nX,lL⟩;obtain ⟨i1,i2,i3,i4⟩:=(bg.bo (w':=w7) F3 jf).two;obtain ⟨j1,j2,j3,j4⟩:=(bg.bo (w':=w7) F4 jf).two)
      | fail)
     have E3:=(bg.bo (w':=w7) F3 jf)
     have E4:=(bg.bo (w':=w7) F4 jf)
     have FW:aL w3 w7:=jf
     have FB:aL w w7:=jf
     have Hi:=Own.below (HOQ).out FW
     have Aq:=Own.below (HOR).out FW
     have ID:=(Own.bU (Own.bU Hi E3 bW (.bool sg) (.slice pq lq kq)) (E4.eE (b':=w.heap.size + 1 + 1) ab (.bool sg) (.slice pq lq kq)) bW (.bool mC) (.slice pr 0 kr))
     have IE:=(Own.bU (Own.bU Aq E3 bW (.bool sg) (.slice pq lq kq)) (E4.eE (b':=w.heap.size + 1 + 1) ab (.bool sg) (.slice pq lq kq)) bW (.bool mC) (.slice pr 0 kr))
     have G3:=(E3.bU (.bool sg) (.slice pq lq kq)).eE (b':=w.heap.size + 1 + 1 + 1) ab (.bool mC) (.slice pr 0 kr)
     have G4:=(E4.eE (b':=w.heap.size + 1 + 1) ab (.bool sg) (.slice pq lq kq)).bU (.bool mC) (.slice pr 0 kr)
     have KT:=(FB.bU (b:=w.heap.size + 1 + 1) ab (.bool sg) (.slice pq lq kq)).bU (b:=w.heap.size + 1 + 1 + 1) ab (.bool mC) (.slice pr 0 kr)
     have SA:=Lib.hid ID
     have SB:=Lib.hid IE
     clear Hi Aq ID IE
     go_wp2
     generalize (((w7.setCell ⟨w.heap.size + 1 + 1,0,none⟩ (.bool sg)).setCell ⟨w.heap.size + 1 + 1,1,none⟩ (.slice pq lq kq)).setCell ⟨w.heap.size + 1 + 1 + 1,0,none⟩ (.bool mC)).setCell ⟨w.heap.size + 1 + 1 + 1,1,none⟩ (.slice pr 0 kr)=wz at *
     obtain ⟨d1,d2,_,_⟩:=G3.two
     obtain ⟨d3,d4,_,_⟩:=G4.two
     have vZ:=sa HX.out HY.out H0.out (.inl ⟨.inr HR0.out,rfl,rfl⟩)
     refine bodyPost_ret (v:=.tuple #[.agg #[.bool sg,.slice pq lq kq],.agg #[.bool mC,.slice pr 0 kr],.int .i64 0]) (by simp [results,Tryz.results114,go_sem,d1,d2,d3,d4]) rfl (bR.out _ _ ⟨.inr ⟨by have:=H0.out;omega,_,_,rfl,?_,?_⟩,KT⟩)
     ·rw [me.out]
      exact aD.of (by rw [<-(HLQ).out];exact Own.mono SA.out lX.size) (HLQ).out _ (by simpa using vZ.1)
     ·rw [nX.out]
      exact aD.of (by rw [<-(QO).out];exact Own.mono SB.out lX.size) (QO).out _ (by simpa using vZ.2)
    ·have hlp:0 < lr:=by have:=QO.out;have:=dZ Ar;omega
     have DJ:(0:Int) < (lr:Int):=by omega
     have HR0:=Lib.hid Ar
     have Ru:Hid (lq≤536870912):=by show _≤_;rw [HLQ.out];exact Nat.le_trans (dk (Nat.div_le_self _ _)) HJ.out
     clear Ar hst
     go_wp2_with fail
     refine (Mx _ _ lq 1 _ [1] _ ((Rd.own HOQ.out).alloc _) (Rd.lit1 rfl) (az _) (cR.cons ab cR.nil) (by have:=Ru.out;omega) ab).mono ?_
     rintro e w4 ⟨v4,rfl,ho4,fq⟩
     replace fq:aL _ w4:=fq
     rw [aq,show ak [1]=1 by rfl] at ho4
     obtain ⟨pm,cm,rfl,_,_,_⟩:=Own.form ho4
     generalize zW:(limbs (X.natAbs / Y.natAbs + 1)).length=nm at *
     have Rn:=Lib.hid zW.symm
     have Pz:aL w3 w4:=((aL.refl w3).alloc _).aN fq
     have Pa:=Lib.hid (Own.mono ho4 (show w3.heap.size≤_ by simp))
     have HOR4:=Lib.hid (Own.below HOR.out Pz)
     have HY4:=Lib.hid (HR2.out.below (cC.aN Pz))
     obtain ⟨i1,i2,_,_⟩:=(F6.bo Pz).two
     clear ho4 zW fq
     go_wp2_with fail
     refine (ED _ _ n2 lr _ _ _ HY4.out (Rd.own HOR4.out) (az _) (az _) (by have:=HM2.out;omega)).mono ?_
     rintro e w5 ⟨⟨h,_⟩ | ⟨_,v5,rfl,ho5⟩,eP⟩
     ·rw [aq,aq] at h;exact absurd h (by have:=Nat.mod_lt X.natAbs (Nat.pos_of_ne_zero H0.out);omega)
     replace eP:aL _ w5:=eP
     rw [aq,aq] at ho5
     obtain ⟨pn,cn,rfl,_,_,_⟩:=Own.form ho5
     generalize hnn:(limbs (Y.natAbs - X.natAbs % Y.natAbs)).length=nn at *
     have HLN:=Lib.hid hnn.symm
     have PA:aL w3 w5:=Pz.aN eP
     have HOM:=Lib.hid (Own.mono (Own.below Pa.out eP) cC.size)
     have HON:=Lib.hid (Own.mono ho5 (Nat.le_trans cC.size Pz.size))
     have T3:=F3.bo PA
     have T4:=F4.bo PA
     have T5:=F5.bo PA
     have T6:=F6.bo PA
     have hbw5:=hbw3.aN PA
     clear ho5 hnn eP F3 F4 F5 F6 Pz PA cC hbw3 HOQ HOR Pa HOR4 HY4 i1 i2
     obtain ⟨e1,_,_,_⟩:=T5.two
     obtain ⟨e3,_,_,_⟩:=T6.two
     go_wp2_with fail
     have hg3:g≠w.heap.size + 1 + 1:=bg.apart T5 T3 bW
     have hg4:g≠w.heap.size + 1 + 1 + 1:=bg.apart T5 T4 bW
     have hh3:h≠w.heap.size + 1 + 1:=bg.apart T6 T3 bW
     have hh4:h≠w.heap.size + 1 + 1 + 1:=bg.apart T6 T4 bW
     have HS:=Lib.hid (fun w' (hk:bj w5 (w.heap.size + 1 + 1) (w.heap.size + 1 + 1 + 1) w')=>And.intro ((hk.cls T5 hg3 hg4).cell (j:=0) rfl) ((hk.cls T6 hh3 hh4).cell (j:=0) rfl))
     go_region_held3 (fun w'=>w'.cell? ⟨g,0,none⟩=some (.bool s1)/\w'.cell? ⟨h,0,none⟩=some (.bool (!s1))) ((refine HS.out _ ?_;(with_reducible (repeat (first | exact bj.refl _ _ _ | refine bj.drew ?_ | refine bj.RP ?_ _ | refine bj.sA ?_ _ | refine bj.aN ?_ (by assumption)))))) (first
      | (go_at_call_of 80 (Value.slice pm nm cm);refine (gA _ _ _ _ _).mono ?_;rintro e w6 ⟨sg,rfl,me,fK⟩)
      | (go_at_call_of 80 (Value.slice pn nn cn);refine (gA _ _ _ _ _).mono ?_;rintro e w7 ⟨mC,rfl,nX,lL⟩;obtain ⟨i1,i2,i3,i4⟩:=(bg.bo (w':=w7) T3 jf).two;obtain ⟨j1,j2,j3,j4⟩:=(bg.bo (w':=w7) T4 jf).two)
      | fail)
     have E3:=(bg.bo (w':=w7) T3 jf)
     have E4:=(bg.bo (w':=w7) T4 jf)
     have FW:aL w5 w7:=jf
     have FB:aL w w7:=jf
     have Hi:=Own.below (HOM).out FW
     have Aq:=Own.below (HON).out FW
     have ID:=(Own.bU (Own.bU Hi E3 bW (.bool sg) (.slice pm nm cm)) (E4.eE (b':=w.heap.size + 1 + 1) ab (.bool sg) (.slice pm nm cm)) bW (.bool mC) (.slice pn nn cn))
     have IE:=(Own.bU (Own.bU Aq E3 bW (.bool sg) (.slice pm nm cm)) (E4.eE (b':=w.heap.size + 1 + 1) ab (.bool sg) (.slice pm nm cm)) bW (.bool mC) (.slice pn nn cn))
     have G3:=(E3.bU (.bool sg) (.slice pm nm cm)).eE (b':=w.heap.size + 1 + 1 + 1) ab (.bool mC) (.slice pn nn cn)
     have G4:=(E4.eE (b':=w.heap.size + 1 + 1) ab (.bool sg) (.slice pm nm cm)).bU (.bool mC) (.slice pn nn cn)
     have KT:=(FB.bU (b:=w.heap.size + 1 + 1) ab (.bool sg) (.slice pm nm cm)).bU (b:=w.heap.size + 1 + 1 + 1) ab (.bool mC) (.slice pn nn cn)
     have SA:=Lib.hid ID
     have SB:=Lib.hid IE
     clear Hi Aq ID IE
     go_wp2
     generalize (((w7.setCell ⟨w.heap.size + 1 + 1,0,none⟩ (.bool sg)).setCell ⟨w.heap.size + 1 + 1,1,none⟩ (.slice pm nm cm)).setCell ⟨w.heap.size + 1 + 1 + 1,0,none⟩ (.bool mC)).setCell ⟨w.heap.size + 1 + 1 + 1,1,none⟩ (.slice pn nn cn)=wz at *
     obtain ⟨d1,d2,_,_⟩:=G3.two
     obtain ⟨d3,d4,_,_⟩:=G4.two
     have vZ:=sa HX.out HY.out H0.out (.inr ⟨by cases s1 <;> simp,HR0.out,rfl,rfl⟩)
     refine bodyPost_ret (v:=.tuple #[.agg #[.bool sg,.slice pm nm cm],.agg #[.bool mC,.slice pn nn cn],.int .i64 0]) (by simp [results,Tryz.results114,go_sem,d1,d2,d3,d4]) rfl (bR.out _ _ ⟨.inr ⟨by have:=H0.out;omega,_,_,rfl,?_,?_⟩,KT⟩)
     ·rw [me.out]
      exact aD.of (by rw [<-(Rn).out];exact Own.mono SA.out lX.size) (Rn).out _ (by simpa using vZ.1)
     ·rw [nX.out]
      exact aD.of (by rw [<-(HLN).out];exact Own.mono SB.out lX.size) (HLN).out _ (by simpa using vZ.2)
end
section
open Go.RowKit
theorem zY:(Tryz.prog.info? 3).map (fun i=>(i.zero,i.size,i.bytes))=some (some (.int .i64 0),1,8):=by kernel_rfl
def hval (xs:List Nat):Nat:=val 65536 xs
def halves (n:Nat):List Nat:=jx 65536 n
def ik (xs:List Nat):Prop:=eO 65536 xs
theorem bT (n:Nat):ik (halves n):=qK ab n
theorem bn (n:Nat):hval (halves n)=n:=mn ab n
theorem ik.at {xs:List Nat} (h:ik xs) {k x:Nat} (hk:xs[k]? =some x):x < 65536:=eO.at h hk
theorem np:halves 0=[]:=eJ _
theorem KV {m n:Nat} (h:halves m=halves n):m=n:=Am ab h
theorem mf (xs:List Nat) (x:Nat):hval (xs++[x])=hval xs + 65536 ^ xs.length * x:=om _ xs x
theorem uY {xs:List Nat} (h:ik xs):hval xs < 65536 ^ xs.length:=qL h
theorem dK {xs:List Nat} (h:cR xs):(halves (ak xs)).length≤2 * xs.length:=by
 apply fD ab
 have:=ky h
 rwa [Nat.pow_mul]
theorem Rd.i64 {w:World} {v:Value} {n:Nat} {xs:List Nat} (h:Rd w 1 v n (ints .i64 xs)):∃ p c,v=.slice p n c/\n≤c/\c≤9223372036854775807/\xs.length=n:=by
 obtain ⟨p,c,hv,h1,h2,h3⟩:=h.form
 unfold maxLen at h2
 exact ⟨p,c,hv,h1,by omega,by simpa using h3⟩
theorem Rd.IG {w:World} {n c m:Nat} {p:Option Addr} {xs:List Nat} {k:IntKind} (h:Rd w 1 (.slice p n c) n (ints k xs)) (hm:m≤n):Rd w 1 (.slice p m c) m (ints k (xs.take m)):=by
 have:=h.take hm
 rwa [Nat.mul_one,rR] at this
theorem Own.IG {w:World} {B e n c m:Nat} {p:Option Addr} {xs:List Nat} {k:IntKind} (h:w.ownsRow B e 1 (.slice p n c) n (ints k xs)) (hm:m≤n):w.ownsRow B e 1 (.slice p m c) m (ints k (xs.take m)):=by
 have:=Own.take h hm
 rwa [Nat.mul_one,rR] at this
set_option maxRecDepth 100000 in
theorem jJ (va:Value) (n i:Nat) (xs:List Nat) (w:World) (hr:Rd w 1 va n (ints .i64 xs)):
  Calls Tryz.prog 122 #[va,.int .i64 (i:Int)] w fun e w'=>e=.returned (.int .i64 ((xs.getD i 0:Nat):Int))/\w=w':=by
 obtain ⟨p,c,rfl,fE,fX,fA⟩:=hr.i64
 have HX:=Lib.hid fA
 clear fA
 by_cases hi:i < n
 ·obtain ⟨b,off,x,rfl,_,hx,hc⟩:=hr.cellAt hi
  have e:Hid (xs.getD i 0=x):=by show _=_;rw [List.getD,hx];rfl
  clear hx
  refine aY fun R' bR=> ?_
  go_enter Tryz.func122,Tryz.ntmps122
  go_wp2
  exact bR.out _ _ ⟨oq (by rw [e.out]),rfl⟩
 ·have e:Hid (xs.getD i 0=0):=by show _=_;rw [List.getD,List.getElem?_eq_none (by rw [HX.out];omega)];rfl
  refine aY fun R' bR=> ?_
  go_enter Tryz.func122,Tryz.ntmps122
  go_wp2
  exact bR.out _ _ ⟨oq (by rw [e.out];rfl),rfl⟩
set_option maxRecDepth 100000 in
theorem DX (p:Option Addr) (n c:Nat) (xs:List Nat) (w:World) (hr:Rd w 1 (.slice p n c) n (ints .i64 xs)) (hl:ik xs):
  Calls Tryz.prog 138 #[.slice p n c] w fun e w'=>(∃ m,m≤n/\e=.returned (.slice p m c)/\halves (hval xs)=xs.take m)/\w=w':=by
 obtain ⟨p',c',hv,fE,fX,fA⟩:=hr.i64
 simp only [Value.slice.injEq,true_and] at hv
 obtain ⟨rfl,rfl⟩:=hv
 have HX:Hid (xs.length=n):=fA
 clear fA
 refine aY fun R' bR=> ?_
 go_enter Tryz.func138,Tryz.ntmps138
 go_wp2
 go_loop [0] (fun v=>∃ m,m≤n/\v=.slice p m c/\hval (xs.take m)=hval xs) (fun v=>match v with | .slice _ m _=>m | _=>0)
 case atStart=>exact ⟨n,Nat.le_refl _,rfl,by rw [List.take_of_length_le (Nat.le_of_eq HX.out)]⟩
 case round=>
  obtain ⟨m,hm,rfl,hv⟩:=hrel
  have HV:Hid (hval (xs.take m)=hval xs):=hv
  clear hv
  by_cases h0:m=0
  ·subst h0
   go_wp2
   exact bR.out _ _ ⟨⟨0,Nat.zero_le _,rfl,lV ab hl (Nat.zero_le _) HV.out (.inl rfl)⟩,rfl⟩
  ·obtain ⟨b,off,x,rfl,hb,hx,hc⟩:=hr.cellAt (k:=m - 1) ab
   have Rk:Hid (xs[m-1]? =some x):=hx
   clear hx
   have h0':0 < m:=by omega
   obtain ⟨j,rfl⟩:∃ j,m=j + 1:=⟨m - 1,by omega⟩
   rw [Nat.add_sub_cancel] at hc
   by_cases iA:x=0
   ·subst iA
    go_wp2
    go_round
    case rel=>exact ⟨j,by omega,rfl,(nb Rk.out).symm.trans HV.out⟩
    case measure=>simp
   ·have hx0':((x:Int) == 0)=false:=by rw [beq_eq_false_iff_ne];omega
    go_wp2
    exact bR.out _ _ ⟨⟨j + 1,hm,rfl,lV ab hl (by rw [HX.out];exact hm) HV.out (.inr ⟨x,Rk.out,iA⟩)⟩,rfl⟩
theorem Own.cut {w:World} {B e n c m:Nat} {p:Option Addr} {xs:List Nat} (h:w.ownsRow B e 1 (.slice p n c) n (ints .i64 xs)) (hm:m≤n) (hl:halves (hval xs)=xs.take m):
  w.ownsRow B e 1 (.slice p m c) (halves (hval xs)).length (ints .i64 (halves (hval xs)))/\m=(halves (hval xs)).length:=by
 have hx:xs.length=n:=by have:=h.1;simpa using this
 have e2:(halves (hval xs)).length=m:=by rw [hl,List.length_take];omega
 have:=Own.IG h hm
 rw [<-hl] at this
 rw [e2]
 exact ⟨this,rfl⟩
def MW (w:World) (B:Nat) (xs:List Nat) (ov iv:Value) (wr:World):Prop:=
 ∃ (k:Nat) (hs:List Nat),k≤xs.length/\iv=.int .i64 (k:Int)/\hs.length=2 * k/\ik hs/\hval hs=ak (xs.take k)/\
   wr.ownsRow B 3 1 ov (2 * k) (ints .i64 hs)/\Below B w wr
theorem MX {x:Nat} (h:x < 4294967296):IntKind.i64.wrap ((x:Int).tmod 65536)=((x % 65536:Nat):Int):=by
 rw [Int.tmod_eq_emod_of_nonneg ab,IntWalk.i64_in _ ab];simp
theorem MY {x:Nat} (h:x < 4294967296):IntKind.i64.wrap (IntKind.u32.wrap ((x:Int) / 65536))=((x / 65536:Nat):Int):=by
 rw [IntKind.wrap_u32',Int.emod_eq_of_lt ab ab,IntWalk.i64_in _ ab];simp
theorem DY {k x:Nat} {xs hs:List Nat} (hx:xs[k]? =some x) (lW:x < 4294967296) (hl:hs.length=2 * k) (hh:ik hs) (hv:hval hs=ak (xs.take k)):
  ik (hs++[x % 65536,x / 65536])/\hval (hs++[x % 65536,x / 65536])=ak (xs.take (k + 1)):=by
 have hk:k < xs.length:=(List.getElem?_eq_some_iff.1 hx).1
 refine ⟨eO.append hh (eO.cons (Nat.mod_lt _ ab) (eO.cons ab (eO.nil _))),?_⟩
 rw [bQ hx,eK,<-hv,List.length_take,Nat.min_eq_left ab]
 show val 65536 _=_
 rw [jZ,hl]
 show hval hs + _=_
 congr 1
 rw [Nat.pow_mul]
 show (4294967296:Nat) ^ k * (x % 65536 + 65536 * (x / 65536 + 65536 * 0))=_
 congr 1
 omega
set_option maxRecDepth 100000 in
theorem gj (va:Value) (n:Nat) (xs:List Nat) (w:World) (hr:Rd w 1 va n (ints .u32 xs)) (hl:cR xs) (hn:n≤1073741824):
  Calls Tryz.prog 121 #[va] w fun e w'=>∃ v',e=.returned v'/\w'.ownsRow w.heap.size 3 1 v' (halves (ak xs)).length (ints .i64 (halves (ak xs)))/\Below w.heap.size w w':=by
 obtain ⟨p,c,rfl,fE,fX,fA⟩:=hr.u32
 obtain ⟨i0,hi,jB,gC,mO⟩:=info_parts zY
 obtain ⟨B,hB⟩:∃ B,B=w.heap.size:=⟨_,rfl⟩
 have HB:=Lib.hid hB
 have Hr:=Lib.hid hr
 have HL:=Lib.hid hl
 have HX:=Lib.hid fA
 rw [<-hB]
 clear hr hl fA hB
 refine aY fun R' bR=> ?_
 go_enter Tryz.func121,Tryz.ntmps121
 go_wp2
 go_loopw [3,4] (fun ov iv wr=>MW w B xs ov iv wr) (fun _ iv _=>n - (intOf iv).toNat)
 case atStart=>exact ⟨0,[],Nat.zero_le _,rfl,rfl,eO.nil _,rfl,World.ownsRow_nil _ _ _ _,Below.refl _ _⟩
 case round=>
  obtain ⟨k,hs,hk,rfl,hhl,hhh,hhv,aJ,hb⟩:=hrel
  have HK:=Lib.hid hk
  have HO:=Lib.hid aJ
  have HHL:=Lib.hid hhl
  have HHH:=Lib.hid hhh
  have HHV:=Lib.hid hhv
  have iQ:=Lib.hid hb
  have zF:B≤wr.heap.size:=by have:=hb.size;have:=HB.out;omega
  have hkn':k≤n:=by rw [<-HX.out];exact hk
  clear hk aJ hhl hhh hhv hb
  by_cases qO:k < n
  ·obtain ⟨b1,o1,x,rfl,aI,ig,hcw⟩:=Hr.out.cellAt qO
   have ss:=(iQ.out.cell (p:=⟨b1,o1 + k,none⟩) (by rw [HB.out];exact aI)).trans hcw
   have hne:=Rh HO.out (b:=b1) (by rw [HB.out];exact aI)
   have zG:=Lib.hid ig
   have lW:=HL.out.at ig
   have HNE:=Lib.hid hne
   have AA:(0:Int)≤(k:Int):=by omega
   have DI:(k:Int) < (n:Int):=by omega
   clear ig hcw hne
   go_wp2_with fail
   go_region_held3 (fun w'=>w'.cell? ⟨b1,o1 + k,none⟩=some (.int .u32 (x:Int))) (first | exact ss | go_keep | exact Dg Bq ss HNE.out)
    ((refine qN (by rfl) _ _ 156 (by rfl) B 3 i0 (.int .i64 0) 1 8 Tryz.underlying156 hi jB gC mO rfl ab _ (2 * k) (ints .i64 hs) (by rfl) ((HO.out.alloc _).drew) _ 2 (ints .i64 [x % 65536,x / 65536]) (by rfl) (Rd.drew (Rd.lit2 (MX lW) (MY lW))) (oo .i64 [x % 65536,x / 65536]) (by unfold maxLen;omega) ab (by simp;omega) ?_;intro v1 w1 gI Bq))
   have uf:=Lib.hid gI
   have HG1:=Lib.hid Bq
   clear gI Bq
   go_wp2_with fail
   go_roundw
   case rel=>
    have hst:=DY zG.out lW HHL.out HHH.out HHV.out
    exact ⟨k + 1,hs++[x % 65536,x / 65536],by rw [HX.out];omega,by go_num,by simp [HHL.out];omega,hst.1,hst.2,by rw [jj];exact uf.out,Below.behind iQ.out zF HG1.out HO.out (Nat.le_refl _)⟩
   case measure=>simp [intOf];omega
  ·obtain rfl:k=n:=by omega
   obtain ⟨p1,c1,Gs,_,_,_⟩:=Own.form HO.out
   have HV1:=Lib.hid Gs
   have fY:Hid (hval hs=ak xs):=by show _=_;rw [HHV.out,bM (Nat.le_of_eq HX.out)]
   subst Gs
   go_wp2_with fail
   refine (DX p1 (2 * k) c1 hs _ (Rd.own HO.out) HHH.out).mono ?_
   rintro e w2 ⟨⟨m,hm,rfl,CB⟩,rfl⟩
   have HC:=Own.cut HO.out hm CB
   rw [fY.out] at HC
   have HC1:=Lib.hid HC.1
   have HC2:=Lib.hid HC.2
   clear HC CB
   go_wp2_with fail
   refine bR.out _ _ ⟨_,rfl,?_,iQ.out⟩
   have:=HC1.out
   rw [<-HC2.out] at this ⊢
   exact this
def LimbInv (w:World) (B m:Nat) (hs:List Nat) (ov iv:Value) (wr:World):Prop:=
 ∃ (k:Nat) (ds:List Nat),2 * k≤m + 1/\iv=.int .i64 ((2 * k:Nat):Int)/\ds.length=k/\cR ds/\ak ds=hval (hs.take (2 * k))/\
   wr.ownsRow B 117 1 ov k (ints .u32 ds)/\Below B w wr
theorem DZ {k lo hi:Nat} {ds hs:List Nat} (hl:ds.length=k) (hd:cR ds) (hv:ak ds=hval (hs.take (2 * k))) (GK:hs.getD (2 * k) 0=lo) (hhi:hs.getD (2 * k + 1) 0=hi)
  (h1:lo < 65536) (h2:hi < 65536):cR (ds++[lo + 65536 * hi])/\ak (ds++[lo + 65536 * hi])=hval (hs.take (2 * (k + 1))):=by
 refine ⟨hd.append (cR.cons ab cR.nil),?_⟩
 rw [eK,hl,hv]
 show _=val 65536 (hs.take (2 * k + 1 + 1))
 rw [cz,cz,GK,hhi,Nat.pow_succ,Nat.add_assoc]
 show hval _ + _=hval _ + _
 congr 1
 rw [show (4294967296:Nat)=65536 ^ 2 by rfl,<-Nat.pow_mul,Nat.mul_add,Nat.mul_assoc]
theorem IH {k m h:Nat} {ds:List Nat} (hl:ds.length=k) (hd:cR ds) (hv:ak ds=h) (hm:(halves h).length=m) (hk:2 * k≤m + 1):limbs h=ds:=by
 subst hv
 apply GM ab hd
 show ds.length≤(limbs (ak ds)).length
 rcases Nat.eq_zero_or_pos k with h0 | h0
 ·omega
 ·have hne:ak ds≠0:=fun h=>by rw [h,np] at hm;simp at hm;omega
  have h1:65536 ^ ((halves (ak ds)).length - 1)≤ak ds:=xx ab hne
  have h2:4294967296 ^ (k - 1)≤ak ds:=by
   rw [show (4294967296:Nat)=65536 ^ 2 by rfl,<-Nat.pow_mul]
   exact Nat.le_trans (Nat.pow_le_pow_right ab ab) h1
  have:=ym h2
  omega
set_option maxRecDepth 100000 in
theorem ry (va:Value) (n:Nat) (ls:List Nat) (w:World) (hr:Rd w 1 va n (ints .i64 ls)) (hl:ik ls) (hn:n≤2147483656):
  Calls Tryz.prog 123 #[va] w fun e w'=>∃ v',e=.returned v'/\w'.ownsRow w.heap.size 117 1 v' (limbs (hval ls)).length (ints .u32 (limbs (hval ls)))/\Below w.heap.size w w':=by
 obtain ⟨p,c,rfl,fE,fX,fA⟩:=hr.i64
 obtain ⟨i0,hi,jB,gC,mO⟩:=info_parts kC
 obtain ⟨B,hB⟩:∃ B,B=w.heap.size:=⟨_,rfl⟩
 obtain ⟨h,hh⟩:∃ h,h=hval ls:=⟨_,rfl⟩
 rw [<-hh]
 have HB:=Lib.hid hB
 have Hr:=Lib.hid hr
 have HL:=Lib.hid hl
 have HX:=Lib.hid fA
 have HH:=Lib.hid hh
 rw [<-hB]
 clear hr hl fA hB hh
 refine aY fun R' bR=> ?_
 go_enter Tryz.func123,Tryz.ntmps123
 go_wp2_with fail
 refine (DX p n c ls _ Hr.out HL.out).mono ?_
 rintro e w1 ⟨⟨m,hm,rfl,CB⟩,rfl⟩
 have sM:(halves h).length=m:=by rw [HH.out,CB,List.length_take,HX.out];omega
 have vY:=Rd.IG Hr.out hm
 rw [<-CB,<-HH.out] at vY
 have Ru:=Lib.hid sM
 have HRD:=Lib.hid vY
 clear sM vY CB
 go_wp2_with fail
 go_loopw [3,4] (fun ov iv wr=>LimbInv w B m (halves h) ov iv wr) (fun _ iv _=>m + 2 - (intOf iv).toNat)
 case atStart=>exact ⟨0,[],by omega,rfl,rfl,cR.nil,rfl,World.ownsRow_nil _ _ _ _,Below.refl _ _⟩
 case round=>
  obtain ⟨k,ds,hk,rfl,jR,hdd,hdv,aJ,hb⟩:=hrel
  have HO:=Lib.hid aJ
  have Ku:=Lib.hid jR
  have HDD:=Lib.hid hdd
  have HDV:=Lib.hid hdv
  have iQ:=Lib.hid hb
  have zF:B≤wr.heap.size:=by have:=hb.size;have:=HB.out;omega
  clear aJ jR hdd hdv hb
  by_cases Km:2 * k < m
  ·obtain ⟨b1,o1,lo,rfl,aI,ig,ss⟩:=(HRD.out.kc HB.out iQ.out).cellAt Km
   have GK:=(bT h).at ig
   have HLO:Hid ((halves h).getD (2 * k) 0=lo):=by show _=_;rw [List.getD,ig];rfl
   clear ig
   by_cases hkm1:2 * k + 1 < m
   ·obtain ⟨b2,o2,wh,hp2,ba,qd,GN⟩:=(HRD.out.kc HB.out iQ.out).cellAt hkm1
    have hhi:=(bT h).at qd
    have HHI:Hid ((halves h).getD (2 * k + 1) 0=wh):=by show _=_;rw [List.getD,qd];rfl
    simp only [Option.some.injEq,Addr.mk.injEq,and_true] at hp2
    obtain ⟨rfl,rfl⟩:=hp2
    clear qd
    have hy:(lo:Int) + 65536 * (wh:Int)=((lo + 65536 * wh:Nat):Int):=by omega
    have HY:=Lib.hid hy
    clear hy
    go_wp2_with (at_builtin;go_loud (refine er rfl _ _ 22 rfl B 117 i0 (.int .u32 0) 4 Tryz.underlying22 hi jB gC mO rfl HO.out rfl rfl HY.out ab ab zF ?_);intro v1 w1 gI jK)
    have uf:=Lib.hid gI
    have Gw:=Lib.hid (jK w iQ.out)
    clear gI jK
    go_wp2_with fail
    go_roundw
    case rel=>
     have hst:=DZ Ku.out HDD.out HDV.out HLO.out HHI.out GK hhi
     exact ⟨k + 1,ds++[lo + 65536 * wh],by omega,by go_num,by simp [Ku.out],hst.1,hst.2,uf.out,Gw.out⟩
    case measure=>simp [intOf];omega
   ·have HHI:Hid ((halves h).getD (2 * k + 1) 0=0):=by show _=_;rw [List.getD,List.getElem?_eq_none (by rw [Ru.out];omega)];rfl
    go_wp2_with (at_builtin;go_loud (refine er rfl _ _ 22 rfl B 117 i0 (.int .u32 0) 4 Tryz.underlying22 hi jB gC mO rfl HO.out rfl rfl rfl ab ab zF ?_);intro v1 w1 gI jK)
    have uf:=Lib.hid gI
    have Gw:=Lib.hid (jK w iQ.out)
    clear gI jK
    go_wp2_with fail
    go_roundw
    case rel=>
     have hst:=DZ Ku.out HDD.out HDV.out HLO.out HHI.out GK ab
     rw [Nat.mul_zero,Nat.add_zero] at hst
     exact ⟨k + 1,ds++[lo],by omega,by go_num,by simp [Ku.out],hst.1,hst.2,uf.out,Gw.out⟩
    case measure=>simp [intOf];omega
  ·go_wp2_with fail
   have hval:ak ds=h:=by
    rw [HDV.out]
    show val 65536 _=_
    rw [fW (by rw [Ru.out];omega)]
    exact bn h
   have hcan:=IH Ku.out HDD.out hval Ru.out hk
   refine bR.out _ _ ⟨_,rfl,?_,iQ.out⟩
   rw [hcan,Ku.out];exact HO.out
set_option maxRecDepth 100000 in
theorem KW (va:Value) (n:Nat) (xs:List Nat) (w:World) (hr:Rd w 1 va n (ints .u32 xs)) (hl:cR xs) (hn:n≤1073741824):
  Calls Tryz.prog 118 #[va] w fun e w'=>∃ v',e=.returned v'/\w'.ownsRow w.heap.size 117 1 v' (limbs (ak xs)).length (ints .u32 (limbs (ak xs)))/\Below w.heap.size w w':=by
 obtain ⟨p,c,rfl,fE,fX,fA⟩:=hr.u32
 have Hr:=Lib.hid hr
 have HL:=Lib.hid hl
 have HX:=Lib.hid fA
 clear hr hl fA
 refine aY fun R' bR=> ?_
 go_enter Tryz.func118,Tryz.ntmps118
 go_wp2_with fail
 refine (gj _ n xs _ Hr.out HL.out hn).mono ?_
 rintro e w1 ⟨v1,rfl,aJ,hb⟩
 have hlen:=dK HL.out
 rw [HX.out] at hlen
 have HO:=Lib.hid aJ
 have HB:=Lib.hid hb
 clear aJ hb
 go_wp2_with fail
 refine (ry _ _ (halves (ak xs)) _ (Rd.own HO.out) (bT _) ab).mono ?_
 rintro e w2 ⟨v2,rfl,aJ,hb⟩
 rw [bn] at aJ
 go_wp2_with fail
 exact bR.out _ _ ⟨_,rfl,Own.mono aJ HB.out.size,HB.out.trans (hb.mono HB.out.size)⟩
def SC (w:World) (B M:Nat) (us ts:List Nat) (ov cv iv:Value) (wr:World):Prop:=
 ∃ (k carry:Nat) (os:List Nat),k≤M + 1/\(k=M + 1->carry=0)/\iv=.int .i64 (k:Int)/\cv=.int .i64 (carry:Int)/\carry≤1/\os.length=k/\ik os/\
   hval os + 65536 ^ k * carry=hval (us.take k) + hval (ts.take k)/\wr.ownsRow B 3 1 ov k (ints .i64 os)/\Below B w wr
theorem KX {k carry x y:Nat} {us ts os:List Nat} (hl:os.length=k) (hh:ik os) (hv:hval os + 65536 ^ k * carry=hval (us.take k) + hval (ts.take k)) (hx:us.getD k 0=x) (hy:ts.getD k 0=y):
  ik (os++[(x + y + carry) % 65536])/\hval (os++[(x + y + carry) % 65536]) + 65536 ^ (k + 1) * ((x + y + carry) / 65536)=hval (us.take (k + 1)) + hval (ts.take (k + 1)):=by
 refine ⟨eO.append hh (eO.cons (Nat.mod_lt _ ab) (eO.nil _)),?_⟩
 rw [mf,hl,Nat.pow_succ]
 show _=val 65536 _ + val 65536 _
 rw [cz,cz,hx,hy]
 exact OB 65536 _ _ x y carry _ _ _ hv rfl
theorem jm {us:List Nat} {k:Nat} (h:us.length≤k):us.getD k 0=0:=by rw [List.getD,List.getElem?_eq_none h];rfl
theorem mi {us:List Nat} (h:ik us) (k:Nat):us.getD k 0 < 65536:=by
 rw [List.getD]
 cases hk:us[k]? with
 | none=>simp
 | some x=>exact h.at hk
set_option maxRecDepth 100000 in
theorem PB (va vb:Value) (n m:Nat) (xs ys:List Nat) (w:World) (hr:Rd w 1 va n (ints .u32 xs)) (hs:Rd w 1 vb m (ints .u32 ys)) (hx:cR xs) (hy:cR ys) (hn:n≤1073741824) (hm:m≤1073741824):
  Calls Tryz.prog 97 #[va,vb] w fun e w'=>∃ v',e=.returned v'/\w'.ownsRow w.heap.size 117 1 v' (limbs (ak xs + ak ys)).length (ints .u32 (limbs (ak xs + ak ys)))/\Below w.heap.size w w':=by
 obtain ⟨p,c,rfl,fE,fX,fA⟩:=hr.u32
 obtain ⟨q,d,rfl,OK,JX,kD⟩:=hs.u32
 obtain ⟨i0,hi,jB,gC,mO⟩:=info_parts zY
 obtain ⟨B,hB⟩:∃ B,B=w.heap.size:=⟨_,rfl⟩
 have HB:=Lib.hid hB
 have Hr:=Lib.hid hr
 have Hs:=Lib.hid hs
 have HL:=Lib.hid hx
 have HM:=Lib.hid hy
 have mr:=dK hx
 have qm:=dK hy
 rw [fA] at mr
 rw [kD] at qm
 obtain ⟨a,ha⟩:∃ a,a=ak xs:=⟨_,rfl⟩
 obtain ⟨b,hb⟩:∃ b,b=ak ys:=⟨_,rfl⟩
 rw [<-ha] at mr ⊢
 rw [<-hb] at qm ⊢
 rw [<-hB]
 have HA:=Lib.hid ha
 have HBb:=Lib.hid hb
 clear hr hs hx hy fA kD ha hb hB
 refine aY fun R' bR=> ?_
 go_enter Tryz.func97,Tryz.ntmps97
 go_wp2_with fail
 refine (gj _ n xs _ Hr.out HL.out hn).mono ?_
 rintro e w1 ⟨v1,rfl,aJ,aI⟩
 rw [<-HA.out,<-HB.out] at aJ
 rw [<-HB.out] at aI
 have uf:=Lib.hid aJ
 have Gw:=Lib.hid aI
 clear aJ aI
 go_wp2_with fail
 refine (gj _ m ys _ (Hs.out.kc HB.out Gw.out) HM.out hm).mono ?_
 rintro e w2 ⟨v2,rfl,aJ,ba⟩
 rw [<-HBb.out] at aJ
 have hB1s:B≤w1.heap.size:=by have:=Gw.out.size;have:=HB.out;omega
 have HO1b:=Lib.hid (Own.below uf.out ba)
 have qe:=Lib.hid (Own.mono aJ hB1s)
 have xD:=Lib.hid (Gw.out.trans (ba.mono hB1s))
 have hB2s:B≤w2.heap.size:=by have:=ba.size;omega
 clear aJ ba uf Gw
 obtain ⟨p1,c1,rfl,h11,Ea,_⟩:=(Rd.own HO1b.out).i64
 obtain ⟨p2,c2,rfl,h21,h22,_⟩:=(Rd.own qe.out).i64
 generalize QS:(halves a).length=la at *
 generalize JY:(halves b).length=lb at *
 have QQ:=Lib.hid QS
 have QT:=Lib.hid JY
 clear QS JY
 obtain ⟨M,hMa,hMb,hMu,hM⟩:∃ M,la≤M/\lb≤M/\M≤2147483648/\(la < lb/\M=lb\/lb≤la/\M=la):=⟨max la lb,by omega,by omega,by omega,by omega⟩
 obtain ⟨B2,SD⟩:∃ B2,B2=w2.heap.size:=⟨_,rfl⟩
 have KY:=Lib.hid SD
 have SE:B≤B2:=by omega
 clear SD
 rcases hM with ⟨zA,rfl⟩ | ⟨zA,rfl⟩
 all_goals
  go_wp2_with fail
  go_loopw [7,8,9] (fun ov cv iv wr=>SC w2 B2 M (halves a) (halves b) ov cv iv wr) (fun _ cv iv _=>2 * (M - (intOf iv).toNat) + (intOf cv).toNat)
  case atStart=>exact ⟨0,0,[],by omega,fun _=>rfl,rfl,rfl,by omega,rfl,eO.nil _,rfl,World.ownsRow_nil _ _ _ _,Below.refl _ _⟩
  case round=>
   obtain ⟨k,carry,os,hk,DI,rfl,rfl,hc,hol,hoh,hov,aJ,lX⟩:=hrel
   have HO:=Lib.hid aJ
   have HOL:=Lib.hid hol
   have HOH:=Lib.hid hoh
   have HOV:=Lib.hid hov
   have HK1:=Lib.hid DI
   have iQ:=Lib.hid lX
   have zF:B2≤wr.heap.size:=by have:=lX.size;have:=KY.out;omega
   have HRA:=Lib.hid ((Rd.own HO1b.out).kc KY.out lX)
   have HRB:=Lib.hid ((Rd.own qe.out).kc KY.out lX)
   have hgx:=mi (bT a) k
   have hgy:=mi (bT b) k
   have hxy0:M≤k->(halves a).getD k 0=0/\(halves b).getD k 0=0:=fun h=>⟨jm (by rw [QQ.out];omega),jm (by rw [QT.out];omega)⟩
   clear aJ hol hoh hov DI lX
   generalize hx:(halves a).getD k 0=x at *
   generalize hy:(halves b).getD k 0=y at *
   have HX:=Lib.hid hx
   have HY:=Lib.hid hy
   have HXY0:=Lib.hid hxy0
   clear hx hy hxy0
   have Eb:k=M + 1->carry=0:=HK1.out
   by_cases hkM:k < M\/0 < carry
   ·clear Eb
    have hguard:decide (k < M)=true\/decide (k < M)=false/\0 < carry:=by
     by_cases h:k < M
     ·left;simpa using h
     ·right;exact ⟨by simpa using h,by omega⟩
    have HSUM:Hid (((x:Int) + (y:Int) + (carry:Int)).tmod 65536=(((x + y + carry) % 65536:Nat):Int)):=by show _=_;rw [Int.tmod_eq_emod_of_nonneg ab];omega
    rcases hguard with hg | ⟨hg,hg2⟩
    all_goals
     go_wp2_with fail
     refine (jJ _ _ k (halves a) _ HRA.out).mono ?_
     rintro e w3 ⟨rfl,rfl⟩
     rw [HX.out]
     go_wp2_with fail
     refine (jJ _ _ k (halves b) _ HRB.out).mono ?_
     rintro e w3 ⟨rfl,rfl⟩
     rw [HY.out]
     go_wp2_with (at_builtin;refine er rfl _ _ 156 rfl B2 3 i0 (.int .i64 0) 8 Tryz.underlying156 hi jB gC mO rfl HO.out rfl rfl (d:=(x + y + carry) % 65536) ab ab ab zF ?_;intro v1 w3 gI jK)
     have Pa:=Lib.hid gI
     have RG:=Lib.hid (jK w2 iQ.out)
     clear gI jK
     go_wp2_with fail
     go_roundw
     case rel=>
      have hst:=KX HOL.out HOH.out HOV.out HX.out HY.out
      exact ⟨k + 1,(x + y + carry) / 65536,os++[(x + y + carry) % 65536],by have:=HK1.out;have:=HXY0.out;omega,by have:=HK1.out;have:=HXY0.out;omega,by go_num,by go_num,by omega,by simp [HOL.out],hst.1,hst.2,Pa.out,RG.out⟩
     case measure=>simp [intOf];have:=HXY0.out;omega
   ·have hc0:carry=0:=by omega
    have hkM':M≤k:=by omega
    have HC0:=Lib.hid hc0
    have hg1:decide (k < M)=false:=by simp;omega
    have hg2:¬ (0 < (carry:Int)):=by omega
    have hks:k≤M + 1:=by omega
    clear Eb
    clear hc0
    go_wp2_with fail
    refine (ry _ _ os _ (Rd.own HO.out) HOH.out ab).mono ?_
    rintro e w3 ⟨v3,rfl,aJ,cC⟩
    have hval:hval os=a + b:=by
     have:=HOV.out
     rw [HC0.out,Nat.mul_zero,Nat.add_zero] at this
     rw [this]
     show val 65536 _ + val 65536 _=_
     rw [fW (by rw [QQ.out];omega),fW (by rw [QT.out];omega)]
     show hval _ + hval _=_
     rw [bn,bn]
    rw [hval] at aJ
    go_wp2_with fail
    exact bR.out _ _ ⟨_,rfl,Own.mono aJ ab,(xD.out.trans (iQ.out.mono SE)).trans (cC.mono ab)⟩
def CmpInv (w:World) (us ts:List Nat) (M:Nat) (iv:Value) (wr:World):Prop:=
 ∃ k:Nat,k≤M/\iv=.int .i64 ((k:Int) - 1)/\hval us + hval (ts.take k)=hval ts + hval (us.take k)/\w=wr
theorem kH (us:List Nat):hval (us.take 0)=0:=by simp [hval,val]
theorem II {us ts:List Nat} {k x:Nat} (hx:us.getD k 0=x) (hy:ts.getD k 0=x) (h:hval us + hval (ts.take (k + 1))=hval ts + hval (us.take (k + 1))):hval us + hval (ts.take k)=hval ts + hval (us.take k):=by
 have h1:hval (ts.take (k + 1))=hval (ts.take k) + 65536 ^ k * x:=by rw [<-hy];exact cz 65536 ts k
 have h2:hval (us.take (k + 1))=hval (us.take k) + 65536 ^ k * x:=by rw [<-hx];exact cz 65536 us k
 omega
theorem xQ {us ts:List Nat} {k x y:Nat} (hu:ik us) (hx:us.getD k 0=x) (hy:ts.getD k 0=y) (Mt:x < y) (h:hval us + hval (ts.take (k + 1))=hval ts + hval (us.take (k + 1))):hval us < hval ts:=by
 have h1:hval (ts.take (k + 1))=hval (ts.take k) + 65536 ^ k * y:=by rw [<-hy];exact cz 65536 ts k
 have h2:hval (us.take (k + 1))=hval (us.take k) + 65536 ^ k * x:=by rw [<-hx];exact cz 65536 us k
 have h3:hval (us.take k) < 65536 ^ k:=by
  have h4:=uY (eO.take hu k)
  have h5:=Nat.pow_le_pow_right (show 0 < 65536 by omega) (show (us.take k).length≤k by rw [List.length_take];omega)
  omega
 have h4:65536 ^ k * x + 65536 ^ k≤65536 ^ k * y:=by
  have:=Nat.mul_le_mul_left (65536 ^ k) (show x + 1≤y from Mt)
  rwa [Nat.mul_add,Nat.mul_one] at this
 omega
set_option maxRecDepth 100000 in
theorem xa (va vb:Value) (n m:Nat) (xs ys:List Nat) (w:World) (hr:Rd w 1 va n (ints .u32 xs)) (hs:Rd w 1 vb m (ints .u32 ys)) (hx:cR xs) (hy:cR ys) (hn:n≤1073741824) (hm:m≤1073741824):
  Calls Tryz.prog 124 #[va,vb] w fun e w'=>e=.returned (.int .i64 (ib (ak xs) (ak ys)))/\Below w.heap.size w w':=by
 obtain ⟨p,c,rfl,fE,fX,fA⟩:=hr.u32
 obtain ⟨q,d,rfl,OK,JX,kD⟩:=hs.u32
 have Hr:=Lib.hid hr
 have Hs:=Lib.hid hs
 have HL:=Lib.hid hx
 have HM:=Lib.hid hy
 have mr:=dK hx
 have qm:=dK hy
 rw [fA] at mr
 rw [kD] at qm
 obtain ⟨a,ha⟩:∃ a,a=ak xs:=⟨_,rfl⟩
 obtain ⟨b,hb⟩:∃ b,b=ak ys:=⟨_,rfl⟩
 rw [<-ha] at mr ⊢
 rw [<-hb] at qm ⊢
 have HA:=Lib.hid ha
 have HBb:=Lib.hid hb
 clear hr hs hx hy fA kD ha hb
 refine aY fun R' bR=> ?_
 go_enter Tryz.func124,Tryz.ntmps124
 go_wp2_with fail
 refine (gj _ n xs _ Hr.out HL.out hn).mono ?_
 rintro e w1 ⟨v1,rfl,aJ,aI⟩
 rw [<-HA.out] at aJ
 have uf:=Lib.hid (Rd.own aJ)
 have Gw:=Lib.hid aI
 clear aJ aI
 go_wp2_with fail
 refine (gj _ m ys _ (Hs.out.below Gw.out) HM.out hm).mono ?_
 rintro e w2 ⟨v2,rfl,aJ,ba⟩
 rw [<-HBb.out] at aJ
 have HRA:=Lib.hid (uf.out.below ba)
 have HRB:=Lib.hid (Rd.own aJ)
 have xD:=Lib.hid (Gw.out.trans (ba.mono Gw.out.size))
 clear aJ ba uf Gw
 obtain ⟨p1,c1,rfl,h11,Ea,_⟩:=HRA.out.i64
 obtain ⟨p2,c2,rfl,h21,h22,_⟩:=HRB.out.i64
 generalize QS:(halves a).length=la at *
 generalize JY:(halves b).length=lb at *
 have QQ:=Lib.hid QS
 have QT:=Lib.hid JY
 clear QS JY
 obtain ⟨M,hMa,hMb,hMu,hM⟩:∃ M,la≤M/\lb≤M/\M≤2147483648/\(la < lb/\M=lb\/lb≤la/\M=la):=⟨max la lb,by omega,by omega,by omega,by omega⟩
 rcases hM with ⟨zA,rfl⟩ | ⟨zA,rfl⟩
 all_goals
  go_wp2_with fail
  go_loopw [7] (fun iv wr=>CmpInv w2 (halves a) (halves b) M iv wr) (fun iv _=>(intOf iv + 1).toNat)
  case atStart=>exact ⟨M,Nat.le_refl _,rfl,by
   show val 65536 _ + val 65536 _=val 65536 _ + val 65536 _
   rw [fW (by first | (rw [QQ.out];omega) | (rw [QT.out];omega)),fW (by first | (rw [QQ.out];omega) | (rw [QT.out];omega))];omega,rfl⟩
  case round=>
   obtain ⟨k,hk,rfl,hv,rfl⟩:=hrel
   have HV:=Lib.hid hv
   clear hv
   by_cases h0:k=0
   ·subst h0
    go_wp2_with fail
    have e:a=b:=by
     have:=HV.out
     rw [kH,kH,bn,bn] at this
     omega
    exact bR.out _ _ ⟨oq (by rw [e,uj]),xD.out⟩
   ·obtain ⟨j,rfl⟩:∃ j,k=j + 1:=⟨k - 1,by omega⟩
    have hjj:((j + 1:Nat):Int) - 1=(j:Int):=by omega
    rw [hjj]
    clear h0 hjj
    generalize hx:(halves a).getD j 0=x
    generalize hy:(halves b).getD j 0=y
    have HX:=Lib.hid hx
    have HY:=Lib.hid hy
    clear hx hy
    go_wp2_with fail
    refine (jJ _ _ j (halves a) _ HRA.out).mono ?_
    rintro e w3 ⟨rfl,rfl⟩
    rw [HX.out]
    go_wp2_with fail
    refine (jJ _ _ j (halves b) _ HRB.out).mono ?_
    rintro e w3 ⟨rfl,rfl⟩
    rw [HY.out]
    rcases Nat.lt_trichotomy x y with hlt | heq | Pp
    ·go_wp2_with fail
     have:=xQ (bT a) HX.out HY.out hlt HV.out
     rw [bn,bn] at this
     exact bR.out _ _ ⟨oq (by rw [nc this]),xD.out⟩
    ·subst heq
     go_wp2_with fail
     refine (jJ _ _ j (halves a) _ HRA.out).mono ?_
     rintro e w3 ⟨rfl,rfl⟩
     rw [HX.out]
     go_wp2_with fail
     refine (jJ _ _ j (halves b) _ HRB.out).mono ?_
     rintro e w3 ⟨rfl,rfl⟩
     rw [HY.out]
     go_wp2_with fail
     go_roundw
     case rel=>exact ⟨j,by omega,rfl,II HX.out HY.out HV.out,rfl⟩
     case measure=>simp [intOf]
    ·go_wp2_with fail
     refine (jJ _ _ j (halves a) _ HRA.out).mono ?_
     rintro e w3 ⟨rfl,rfl⟩
     rw [HX.out]
     go_wp2_with fail
     refine (jJ _ _ j (halves b) _ HRB.out).mono ?_
     rintro e w3 ⟨rfl,rfl⟩
     rw [HY.out]
     go_wp2_with fail
     have:=xQ (bT b) HY.out HX.out Pp HV.out.symm
     rw [bn,bn] at this
     exact bR.out _ _ ⟨oq (by rw [nd this]),xD.out⟩
theorem xR {qs:List Nat} {k x:Nat}:(List.replicate (k + 1) 0++qs).set k x=List.replicate k 0++x::qs:=by
 rw [List.replicate_succ',List.append_assoc,List.set_append_right _ _ cw]
 simp
def SF (w:World) (B M:Nat) (us ts:List Nat) (ov bv iv:Value) (wr:World):Prop:=
 ∃ (k r:Nat) (ds:List Nat),k≤M/\ds.length=k/\iv=.int .i64 (k:Int)/\bv=.int .i64 (r:Int)/\r≤1/\ik ds/\
   hval ds + hval (ts.take k)=hval (us.take k) + 65536 ^ k * r/\wr.ownsRow B 3 1 ov k (ints .i64 ds)/\Below B w wr
theorem Br {k r x y d r':Nat} {us ts ds:List Nat} (hl:ds.length=k) (hh:ik ds) (hv:hval ds + hval (ts.take k)=hval (us.take k) + 65536 ^ k * r) (hx:us.getD k 0=x) (hy:ts.getD k 0=y)
  (hd:d < 65536) (he:x + 65536 * r'=d + y + r):
  ik (ds++[d])/\hval (ds++[d]) + hval (ts.take (k + 1))=hval (us.take (k + 1)) + 65536 ^ (k + 1) * r':=by
 refine ⟨eO.append hh (eO.cons hd (eO.nil _)),?_⟩
 have h1:hval (ts.take (k + 1))=hval (ts.take k) + 65536 ^ k * y:=by rw [<-hy];exact cz 65536 ts k
 have h2:hval (us.take (k + 1))=hval (us.take k) + 65536 ^ k * x:=by rw [<-hx];exact cz 65536 us k
 rw [mf,hl,h1,h2,Nat.pow_succ]
 exact OC 65536 _ x y r d r' _ _ _ hv he
set_option maxRecDepth 100000 in
theorem Ec (va vb:Value) (n m:Nat) (xs ys:List Nat) (w:World) (hr:Rd w 1 va n (ints .u32 xs)) (hs:Rd w 1 vb m (ints .u32 ys)) (hx:cR xs) (hy:cR ys) (hn:n≤1073741824) (hm:m≤1073741824):
  Calls Tryz.prog 98 #[va,vb] w fun e w'=>((ak xs < ak ys/\e=.returned (.tuple #[.slice none 0 0,.int .i64 2]))\/
   (ak ys≤ak xs/\∃ v',e=.returned (.tuple #[v',.int .i64 0])/\w'.ownsRow w.heap.size 117 1 v' (limbs (ak xs - ak ys)).length (ints .u32 (limbs (ak xs - ak ys)))))/\Below w.heap.size w w':=by
 obtain ⟨p,c,rfl,fE,fX,fA⟩:=hr.u32
 obtain ⟨q,d,rfl,OK,JX,kD⟩:=hs.u32
 obtain ⟨i0,hi,jB,gC,mO⟩:=info_parts zY
 have Hr:=Lib.hid hr
 have Hs:=Lib.hid hs
 have HL:=Lib.hid hx
 have HM:=Lib.hid hy
 have mr:=dK hx
 have qm:=dK hy
 rw [fA] at mr
 rw [kD] at qm
 obtain ⟨a,ha⟩:∃ a,a=ak xs:=⟨_,rfl⟩
 obtain ⟨b,hb⟩:∃ b,b=ak ys:=⟨_,rfl⟩
 rw [<-ha] at mr ⊢
 rw [<-hb] at qm ⊢
 have HA:=Lib.hid ha
 have HBb:=Lib.hid hb
 clear hr hs hx hy fA kD ha hb
 refine aY fun R' bR=> ?_
 go_enter Tryz.func98,Tryz.ntmps98
 go_wp2_with fail
 refine (xa _ _ n m xs ys _ Hr.out Hs.out HL.out HM.out hn hm).mono ?_
 rintro e w0 ⟨rfl,ou⟩
 rw [<-HA.out,<-HBb.out]
 have HB0:=Lib.hid ou
 have hB0s:=ou.size
 clear ou
 by_cases zA:a < b
 ·have hc:ib a b < 0:=kO.2 zA
  generalize ib a b=cv at hc ⊢
  go_wp2_with fail
  exact bR.out _ _ ⟨.inl ⟨zA,rfl⟩,HB0.out⟩
 ·have hc:0≤ib a b:=by have:=mt (@kO a b).1 zA;omega
  generalize ib a b=cv at hc ⊢
  have hlen:(halves b).length≤(halves a).length:=dY ab ab
  have HAB:=Lib.hid zA
  clear zA
  go_wp2_with fail
  refine (gj _ n xs _ (Hr.out.below HB0.out) HL.out hn).mono ?_
  rintro e w1 ⟨v1,rfl,aJ,aI⟩
  rw [<-HA.out] at aJ
  have uf:=Lib.hid (Rd.own aJ)
  have Gw:=Lib.hid (HB0.out.trans (aI.mono hB0s))
  have hB1s:=aI.size
  clear aJ aI
  go_wp2_with fail
  refine (gj _ m ys _ (Hs.out.below Gw.out) HM.out hm).mono ?_
  rintro e w2 ⟨v2,rfl,aJ,ba⟩
  rw [<-HBb.out] at aJ
  have HRA0:=Lib.hid (uf.out.below ba)
  have HRB0:=Lib.hid (Rd.own aJ)
  have xD:=Lib.hid (Gw.out.trans (ba.mono Gw.out.size))
  have hB2s:=ba.size
  clear aJ ba uf Gw
  obtain ⟨p1,c1,rfl,h11,Ea,_⟩:=HRA0.out.i64
  obtain ⟨p2,c2,rfl,h21,h22,_⟩:=HRB0.out.i64
  generalize QS:(halves a).length=la at *
  generalize JY:(halves b).length=lb at *
  have QQ:=Lib.hid QS
  have QT:=Lib.hid JY
  clear QS JY
  obtain ⟨B2,SD⟩:∃ B2,B2=w2.heap.size:=⟨_,rfl⟩
  have KY:=Lib.hid SD
  have SE:w.heap.size≤B2:=by omega
  clear SD
  go_wp2_with fail
  go_loopw [8,9,10] (fun ov bv iv wr=>SF w2 B2 la (halves a) (halves b) ov bv iv wr) (fun _ _ iv _=>la - (intOf iv).toNat)
  case atStart=>exact ⟨0,0,[],Nat.zero_le _,rfl,rfl,rfl,by omega,eO.nil _,by rw [kH,kH];simp [hval,val],World.ownsRow_nil _ _ _ _,Below.refl _ _⟩
  case round=>
   obtain ⟨k,r,ds,hk,jR,rfl,rfl,jA,hdh,hdv,aJ,lX⟩:=hrel
   have HO:=Lib.hid aJ
   have Ku:=Lib.hid jR
   have HDH:=Lib.hid hdh
   have HDV:=Lib.hid hdv
   have iQ:=Lib.hid lX
   have zF:B2≤wr.heap.size:=by have:=lX.size;have:=KY.out;omega
   have HRB:=Lib.hid (HRB0.out.kc KY.out lX)
   clear aJ jR hdh hdv
   by_cases He:k < la
   ·obtain ⟨b1,o1,x,rfl,_,ig,ss⟩:=(HRA0.out.kc KY.out lX).cellAt He
    have lW:=(bT a).at ig
    have HX:Hid ((halves a).getD k 0=x):=by show _=_;rw [List.getD,ig];rfl
    have Di:=mi (bT b) k
    clear ig lX
    generalize hy:(halves b).getD k 0=y at *
    have HY:=Lib.hid hy
    clear hy
    have AA:(0:Int)≤(k:Int):=by omega
    have DI:(k:Int) < (la:Int):=by omega
    have zH:IntKind.i64.wrap ((x:Int) - (y:Int))=(x:Int) - (y:Int):=IntWalk.i64_in _ ab
    have hw2:IntKind.i64.wrap ((x:Int) - (y:Int) - (r:Int))=(x:Int) - (y:Int) - (r:Int):=IntWalk.i64_in _ ab
    have xB:∀ j:Nat,Calls Tryz.prog 122 #[.slice p2 lb c2,.int .i64 (k:Int)] (wr.drewN j) fun e w'=>e=.returned (.int .i64 (y:Int))/\wr.drewN j=w':=fun j=>by
     have:=jJ _ _ k (halves b) _ (Rd.drewN HRB.out j)
     rwa [HY.out] at this
    have HAT:=Lib.hid xB
    clear xB
    go_wp2_with fail
    go_quiet ((go_at_call 122;exact Ap (HAT.out _) ⟨_,rfl⟩))
    clear zH hw2 AA DI ss
    by_cases hneg:(x:Int) - (y:Int) - (r:Int) < 0
    ·go_wp2_with (at_builtin;refine er (w:=wr.drewN nq) rfl _ _ 156 rfl B2 3 i0 (.int .i64 0) 8 Tryz.underlying156 hi jB gC mO rfl (Own.drewN HO.out nq) rfl rfl (d:=x + 65536 - y - r) ab ab ab zF ?_;intro v1 w3 gI jK)
     have Pa:=Lib.hid gI
     have RG:=Lib.hid (jK w2 (Below.drewN iQ.out nq))
     clear gI jK
     go_wp2_with fail
     go_roundw
     case rel=>
      have hst:=Br (d:=x + 65536 - y - r) (r':=1) Ku.out HDH.out HDV.out HX.out HY.out ab ab
      exact ⟨k + 1,1,ds++[x + 65536 - y - r],by omega,by simp [Ku.out],by go_num,rfl,by omega,hst.1,hst.2,Pa.out,RG.out⟩
     case measure=>simp [intOf];omega
    ·go_wp2_with (at_builtin;refine er (w:=wr.drewN nq) rfl _ _ 156 rfl B2 3 i0 (.int .i64 0) 8 Tryz.underlying156 hi jB gC mO rfl (Own.drewN HO.out nq) rfl rfl (d:=x - y - r) ab ab ab zF ?_;intro v1 w3 gI jK)
     have Pa:=Lib.hid gI
     have RG:=Lib.hid (jK w2 (Below.drewN iQ.out nq))
     clear gI jK
     go_wp2_with fail
     go_roundw
     case rel=>
      have hst:=Br (d:=x - y - r) (r':=0) Ku.out HDH.out HDV.out HX.out HY.out ab ab
      exact ⟨k + 1,0,ds++[x - y - r],by omega,by simp [Ku.out],by go_num,rfl,by omega,hst.1,hst.2,Pa.out,RG.out⟩
     case measure=>simp [intOf];omega
   ·obtain rfl:k=la:=by omega
    clear lX
    go_wp2_with fail
    refine (ry _ k ds _ (Rd.own HO.out) HDH.out ab).mono ?_
    rintro e w4 ⟨v4,rfl,aJ,fq⟩
    have hval:hval ds=a - b:=by
     have h1:=HDV.out
     have e1:hval ((halves a).take k)=a:=by
      show val 65536 _=_
      rw [fW (Nat.le_of_eq QQ.out)];exact bn a
     have e2:hval ((halves b).take k)=b:=by
      show val 65536 _=_
      rw [fW (by rw [QT.out];exact hlen)];exact bn b
     rw [e1,e2] at h1
     have h3:=uY HDH.out
     rw [Ku.out] at h3
     have hba:=HAB.out
     have:r=0:=by
      rcases Nat.eq_zero_or_pos r with h | h
      ·exact h
      ·have:r=1:=by omega
       subst this
       omega
     subst this
     omega
    rw [hval] at aJ
    have HOWN:=Lib.hid aJ
    clear aJ
    go_wp2_with fail
    refine bR.out _ _ ⟨.inr ⟨by have:=HAB.out;omega,v4,rfl,?_⟩,(xD.out.trans (iQ.out.mono SE)).trans (fq.mono ab)⟩
    exact Own.mono HOWN.out ab
theorem tC (neg:Bool) (xs:List Nat) (v:Value) (w:World) (h:gm w v neg xs):
  Calls Tryz.prog 115 #[v] w fun e w'=>e=.returned (.bool (dP neg xs))/\aL w w':=by
 obtain ⟨p,c,rfl,hr,hl⟩:=h
 obtain ⟨p',c',hv,fE,fX,-⟩:=hr.u32
 simp only [Value.slice.injEq,true_and] at hv
 obtain ⟨rfl,rfl⟩:=hv
 refine aY fun R' bR=> ?_
 by_cases hx:xs=[]
 ·subst hx
  simp only [List.length_nil,ta] at *
  go_enter Tryz.func115,Tryz.ntmps115
  cases neg
  ·go_wp2
   exact bR.out _ _ ⟨rfl,(aL.refl w).alloc _⟩
  ·go_wp2
   exact bR.out _ _ ⟨rfl,(aL.refl w).alloc _⟩
 ·obtain ⟨m,hm⟩:∃ m,xs.length=m + 1:=⟨xs.length - 1,by have:=List.length_pos_iff.2 hx;omega⟩
  generalize hn:xs.length=n at *
  obtain ⟨b,off,x,rfl,hb,hxm,hc⟩:=hr.cellAt (k:=m) ab
  have h1:dP neg xs=decide (x≠0):=xE (by rw [hn,hm];exact hxm)
  rw [h1] at bR
  have hz:((n:Int) == 0)=false:=by rw [beq_eq_false_iff_ne];omega
  have hp:(0:Int) < (n:Int):=by omega
  have hw:IntKind.i64.wrap ((n:Int) - 1)=(m:Int):=by rw [IntWalk.i64_in _ ab];omega
  have hlt:(m:Int) < (n:Int):=by omega
  have HN:=Lib.hid hn
  have hpn:0 < n:=by omega
  clear hx hm hn h1 hxm hr hl
  go_enter Tryz.func115,Tryz.ntmps115
  by_cases iA:x=0
  ·subst iA
   cases neg
   ·go_wp2
    exact bR.out _ _ ⟨rfl,(aL.refl w).alloc _⟩
   ·go_wp2
    exact bR.out _ _ ⟨rfl,(aL.refl w).alloc _⟩
  ·have Kc:((x:Int) != 0)=true:=by rw [bne_iff_ne];omega
   rw [decide_eq_true iA] at bR
   clear iA
   cases neg
   ·go_wp2
    exact bR.out _ _ ⟨rfl,(aL.refl w).alloc _⟩
   ·go_wp2
    exact bR.out _ _ ⟨rfl,(aL.refl w).alloc _⟩
theorem tD (v:Value) (X:Int) (k:Nat) (w0 w:World) (h:cA w0 v X k) (ou:aL w0 w):
  Calls Tryz.prog 96 #[v] w fun e w'=>∃ u,e=.returned u/\cI w0 u X/\aL w w':=by
 obtain ⟨neg,xs,hn,rfl,hk⟩:=h
 refine aY fun R' bR=> ?_
 have HN:=Lib.hid hn
 obtain ⟨p,c,rfl,hr,hl⟩:=hn
 clear hr
 go_enter Tryz.func96,Tryz.ntmps96
 go_wp2_with fail
 refine (tC neg xs _ _ ((HN.out.bo ou).bo (((aL.refl w).alloc _).alloc _))).mono ?_
 rintro e w1 ⟨rfl,aI⟩
 obtain ⟨b1,b2,oh⟩:=nP w 53 53 #[.bool neg,.slice p xs.length c] #[.bool false,.slice none 0 0]
 obtain ⟨c1,c2,_,_⟩:=(b1.bo aI).two
 obtain ⟨c3,c4,f3,f4⟩:=(b2.bo aI).two
 have jU:aL w w1:=oh.aN aI
 cases xO:dP neg xs
 ·have B2:=(b2.bo aI).bU (.bool false) (.slice none 0 0)
  have xD:=jU.bU (b:=w.heap.size + 1) ab (.bool false) (.slice none 0 0)
  go_wp2
  generalize (w1.setCell ⟨w.heap.size + 1,0,none⟩ (.bool false)).setCell ⟨w.heap.size + 1,1,none⟩ (.slice none 0 0)=w2 at *
  obtain ⟨d1,d2,_,_⟩:=B2.two
  refine bodyPost_ret (v:=.agg #[.bool false,.slice none 0 0]) (by simp [results,Tryz.results96,go_sem,d1,d2]) rfl (bR.out _ _ ⟨_,rfl,?_,xD⟩)
  rw [numOf,if_neg (by simp [xO])]
  exact cI.zero _
 ·have B2:=(b2.bo aI).bU (.bool neg) (.slice p xs.length c)
  have xD:=jU.bU (b:=w.heap.size + 1) ab (.bool neg) (.slice p xs.length c)
  go_wp2
  generalize (w1.setCell ⟨w.heap.size + 1,0,none⟩ (.bool neg)).setCell ⟨w.heap.size + 1,1,none⟩ (.slice p xs.length c)=w2 at *
  obtain ⟨d1,d2,_,_⟩:=B2.two
  refine bodyPost_ret (v:=.agg #[.bool neg,.slice p xs.length c]) (by simp [results,Tryz.results96,go_sem,d1,d2]) rfl (bR.out _ _ ⟨_,rfl,?_,xD⟩)
  rw [numOf,if_pos xO]
  obtain ⟨h1,h2⟩:=canon hl xO
  have:=HN.out
  show gm _ _ _ _
  rw [<-h1,<-h2]
  exact this
theorem jL (neg:Bool) (v:Value) (n:Nat) (xs:List Nat) (w:World) (hr:Rd w 1 v n (ints .u32 xs)) (hl:cR xs) (hn:n≤1073741824):
  Calls Tryz.prog 92 #[.bool neg,v] w fun e w'=>∃ r,e=.returned r/\aD w' w.heap.size r (if neg=true then -(ak xs:Int) else ak xs)/\aL w w':=by
 obtain ⟨p,c,rfl,_,_,_⟩:=hr.u32
 have HR:=Lib.hid hr
 have jS:=bg.new w 53 #[.bool false,.slice none 0 0]
 have oh:=(aL.refl w).alloc (.cells #[.bool false,.slice none 0 0] 53)
 clear hr
 refine aY fun R' bR=> ?_
 go_enter Tryz.func92,Tryz.ntmps92
 go_wp2_with fail
 refine (KW _ n xs _ (HR.out.below oh) hl hn).mono ?_
 rintro e w1 ⟨v1,rfl,wX,aI⟩
 replace aI:aL _ w1:=aI
 obtain ⟨p1,k1,rfl,_,_,_⟩:=Own.form wX
 generalize hL:(limbs (ak xs)).length=L at *
 have HL:=Lib.hid hL
 have FC:=jS.bo aI
 have FB:=oh.aN aI
 obtain ⟨c1,c2,f1,f2⟩:=FC.two
 have DV:=Own.mono wX oh.size
 clear hL wX
 cases neg
 ·have HO:=Lib.hid (Own.bU DV FC bW (.bool false) (.slice p1 L k1))
  clear DV
  have EX:=FC.bU (.bool (false)) (.slice p1 (L) k1)
  have EY:=aL.bU FB (b:=w.heap.size) ab (.bool (false)) (.slice p1 (L) k1)
  go_wp2
  generalize (w1.setCell ⟨w.heap.size,0,none⟩ (.bool (false))).setCell ⟨w.heap.size,1,none⟩ (.slice p1 (L) k1)=wz at *
  obtain ⟨EZ,Fa,_,_⟩:=EX.two
  refine bodyPost_ret (v:=.agg #[.bool (false),.slice p1 (L) k1]) (by simp [results,Tryz.results92,go_sem,EZ,Fa]) rfl (bR.out _ _ ?_)
  exact ⟨_,rfl,aD.of (neg:=false) (by rw [HL.out];exact HO.out) HL.out.symm _ cw,EY⟩
 ·have HO:=Lib.hid (Own.bU DV FC bW (.bool (decide (0 < L))) (.slice p1 L k1))
  clear DV
  have EX:=FC.bU (.bool (decide (0 < L))) (.slice p1 (L) k1)
  have EY:=aL.bU FB (b:=w.heap.size) ab (.bool (decide (0 < L))) (.slice p1 (L) k1)
  go_wp2
  generalize (w1.setCell ⟨w.heap.size,0,none⟩ (.bool (decide (0 < L)))).setCell ⟨w.heap.size,1,none⟩ (.slice p1 (L) k1)=wz at *
  obtain ⟨EZ,Fa,_,_⟩:=EX.two
  refine bodyPost_ret (v:=.agg #[.bool (decide (0 < L)),.slice p1 (L) k1]) (by simp [results,Tryz.results92,go_sem,EZ,Fa]) rfl (bR.out _ _ ?_)
  exact ⟨_,rfl,aD.of (neg:=true) (by rw [HL.out];exact HO.out) HL.out.symm _ cw,EY⟩
def Bs (X Y:Int):Int:=(X - Y).sign
theorem MZ {X Y:Int} (h:X < Y):Bs X Y= -1:=sign_neg ab
theorem Na {X Y:Int} (h:Y < X):Bs X Y=1:=fh ab
theorem Ed (a b:Nat):Bs (a:Int) b=ib a b:=by
 rcases Nat.lt_trichotomy a b with h | rfl | h
 ·rw [MZ ab,nc h]
 ·rw [uj];simp [Bs]
 ·rw [Na ab,nd h]
theorem KZ (a b:Nat):Bs (-(a:Int)) (-(b:Int))=ib b a:=by
 rw [<-Ed];unfold Bs;congr 1;omega
theorem IJ (v u:Value) (X Y:Int) (j k:Nat) (w:World) (hv:cA w v X j) (hu:cA w u Y k) (hj:j≤1073741824) (hk:k≤1073741824):
  Calls Tryz.prog 117 #[v,u] w fun e w'=>e=.returned (.int .i64 (Bs X Y))/\aL w w':=by
 obtain ⟨s,p,n,c,rfl⟩:=hv.form
 obtain ⟨t,q,m,d,rfl⟩:=hu.form
 refine aY fun R' bR=> ?_
 obtain ⟨b1,b2,oh⟩:=nP w 53 53 #[.bool s,.slice p n c] #[.bool t,.slice q m d]
 have HJ:=Lib.hid (Nat.le_trans hv.len hj)
 have HK:=Lib.hid (Nat.le_trans hu.len hk)
 have HV:=Lib.hid hv
 have HU:=Lib.hid hu
 clear hv hu hj hk
 go_enter Tryz.func117,Tryz.ntmps117
 go_wp2_with fail
 generalize (w.alloc _).alloc _=W at *
 refine (tD _ X j w _ HV.out jf).mono ?_
 rintro e wa ⟨ua,rfl,hua,hba⟩
 obtain ⟨s1,p1,n1,k1,rfl⟩:=hua.iH
 obtain ⟨a1,a2,a3,a4⟩:=(b1.bo hba).two
 obtain ⟨a5,a6,a7,a8⟩:=(b2.bo hba).two
 have B1:=(b1.bo hba).bU (.bool s1) (.slice p1 n1 k1)
 have B2:=(b2.bo hba).eE (b':=w.heap.size) ab (.bool s1) (.slice p1 n1 k1)
 have hZ:=bj.RP (bj.RP (bj.aN (bj.refl W w.heap.size (w.heap.size + 1)) hba) (j:=0) (.bool s1)) (j:=1) (.slice p1 n1 k1)
 have HB:=aL.bU (oh.aN hba) (b:=w.heap.size) ab (.bool s1) (.slice p1 n1 k1)
 have HPA:=Lib.hid hua.parts
 have HSA:=Lib.hid hua.RO
 have HUA:=Lib.hid hua
 clear hua
 go_wp2_with fail
 generalize (wa.setCell ⟨w.heap.size,0,none⟩ (.bool s1)).setCell ⟨w.heap.size,1,none⟩ (.slice p1 n1 k1)=wb at *
 clear a1 a2 a3 a4 a5 a6 a7 a8 hba
 refine (tD _ Y k w _ HU.out HB).mono ?_
 rintro e wc ⟨ub,rfl,Rv,jU⟩
 obtain ⟨s2,p2,n2,k2,rfl⟩:=Rv.iH
 obtain ⟨a1,a2,a3,a4⟩:=(B1.bo jU).two
 obtain ⟨a5,a6,a7,a8⟩:=(B2.bo jU).two
 have D1:=(B1.bo jU).eE (b':=w.heap.size + 1) ab (.bool s2) (.slice p2 n2 k2)
 have D2:=(B2.bo jU).bU (.bool s2) (.slice p2 n2 k2)
 have hY:=bj.sA (bj.sA (bj.aN hZ jU) (j:=0) (.bool s2)) (j:=1) (.slice p2 n2 k2)
 have HD:=aL.bU (HB.aN jU) (b:=w.heap.size + 1) ab (.bool s2) (.slice p2 n2 k2)
 have HPB:=Lib.hid Rv.parts
 have HSB:=Lib.hid Rv.RO
 have HUB:=Lib.hid Rv
 clear Rv B1 B2 HB jU hZ
 have Kc:n1≤1073741824:=by rw [HPA.out.1];exact HJ.out
 have hx2:n2≤1073741824:=by rw [HPB.out.1];exact HK.out
 have HX1:=Lib.hid Kc
 have Rk:=Lib.hid hx2
 clear Kc hx2
 cases s1 <;> cases s2
 ·go_wp2_with fail
  generalize (wc.setCell ⟨w.heap.size + 1,0,none⟩ (.bool false)).setCell ⟨w.heap.size + 1,1,none⟩ (.slice p2 n2 k2)=wd at *
  refine (xa _ _ n1 n2 _ _ _ (HPA.out.2.1.below HD) (HPB.out.2.1.below HD) (az _) (az _) HX1.out Rk.out).mono ?_
  rintro e we ⟨rfl,hbe⟩
  rw [aq,aq,<-Ed]
  have e1:(X.natAbs:Int)=X:=by have:=HPA.out.2.2;simpa using this.symm
  have e2:(Y.natAbs:Int)=Y:=by have:=HPB.out.2.2;simpa using this.symm
  rw [e1,e2]
  go_wp2_with fail
  exact bR.out _ _ ⟨rfl,HD.aN hbe⟩
 ·have h1:¬ X < 0:=of_decide_eq_false HSA.out.symm
  have h2:Y < 0:=of_decide_eq_true HSB.out.symm
  rw [Na ab] at bR
  go_wp2
  exact bR.out _ _ ⟨rfl,HD⟩
 ·have h1:X < 0:=of_decide_eq_true HSA.out.symm
  have h2:¬ Y < 0:=of_decide_eq_false HSB.out.symm
  rw [MZ ab] at bR
  go_wp2
  exact bR.out _ _ ⟨rfl,HD⟩
 ·go_wp2_with fail
  generalize (wc.setCell ⟨w.heap.size + 1,0,none⟩ (.bool true)).setCell ⟨w.heap.size + 1,1,none⟩ (.slice p2 n2 k2)=wd at *
  refine (xa _ _ n2 n1 _ _ _ (HPB.out.2.1.below HD) (HPA.out.2.1.below HD) (az _) (az _) Rk.out HX1.out).mono ?_
  rintro e we ⟨rfl,hbe⟩
  rw [aq,aq,<-KZ]
  have e1: -(X.natAbs:Int)=X:=by have:=HPA.out.2.2;simpa using this.symm
  have e2: -(Y.natAbs:Int)=Y:=by have:=HPB.out.2.2;simpa using this.symm
  rw [e1,e2]
  go_wp2_with fail
  exact bR.out _ _ ⟨rfl,HD.aN hbe⟩
theorem di (v:Value) (X:Int) (j:Nat) (w:World) (hv:cA w v X j) (hj:j≤1073741824):
  Calls Tryz.prog 89 #[v] w fun e w'=>e=.returned (.int .i64 X.sign)/\aL w w':=by
 obtain ⟨s,p,n,c,rfl⟩:=hv.form
 refine aY fun R' bR=> ?_
 have oh:=(aL.refl w).alloc (.cells #[.bool s,.slice p n c] 53)
 have HV:=Lib.hid (hv.bo oh)
 have e1:=Lib.hid (show Bs X 0=X.sign by simp [Bs])
 clear hv
 go_enter Tryz.func89,Tryz.ntmps89
 go_wp2_with fail
 generalize w.alloc _=W at *
 refine (IJ _ _ X 0 j 0 _ HV.out ((cI.zero _).to (by simp [bV])) hj ab).mono ?_
 rintro e w1 ⟨rfl,aI⟩
 rw [e1.out]
 go_wp2
 exact bR.out _ _ ⟨rfl,oh.aN aI⟩
theorem Rd.kp {U:TypeId} {T:TypeId->Bool} {w w':World} {v:Value} {n:Nat} {xs:List Nat} (h:Rd w 1 v n (ints .u32 xs)) (k:bH ⟨U,fun _=>True,T⟩ w w'):Rd w' 1 v n (ints .u32 xs):=by
 obtain ⟨p,c,rfl,h1,h2,h3,h4⟩:=h
 refine ⟨p,c,rfl,h1,h2,h3,fun hn=> ?_⟩
 obtain ⟨b,off,hp,hc⟩:=h4 hn
 refine ⟨b,off,hp,fun j u hj=> ?_⟩
 obtain ⟨x,hx,rfl⟩:=List.mem_map.1 (List.mem_of_getElem? hj)
 exact k.cell _ _ trivial (hc j _ hj)
theorem Own.kp {T:TypeId->Bool} {w w':World} {B sz n:Nat} {v:Value} {cs:List Value} (h:w.ownsRow B UU sz v n cs) (k:bH ⟨UU,fun _=>True,T⟩ w w'):w'.ownsRow B UU sz v n cs:=by
 refine ⟨h.1,?_⟩
 rcases h.2 with h2 | ⟨g,cap,cur,hv,hb,hg,r⟩
 ·exact .inl h2
 ·exact .inr ⟨g,cap,cur,hv,hb,k.block _ g cur rfl trivial hg,r⟩
theorem gm.kp {U:TypeId} {T:TypeId->Bool} {w w':World} {v:Value} {s:Bool} {xs:List Nat} (h:gm w v s xs) (k:bH ⟨U,fun _=>True,T⟩ w w'):gm w' v s xs:=by
 obtain ⟨p,c,hv,hr,hl⟩:=h
 exact ⟨p,c,hv,hr.kp k,hl⟩
theorem cA.kp {U:TypeId} {T:TypeId->Bool} {w w':World} {v:Value} {X:Int} {j:Nat} (h:cA w v X j) (k:bH ⟨U,fun _=>True,T⟩ w w'):cA w' v X j:=by
 obtain ⟨s,xs,hn,hx,hj⟩:=h
 exact ⟨s,xs,hn.kp k,hx,hj⟩
theorem cI.kp {U:TypeId} {T:TypeId->Bool} {w w':World} {v:Value} {X:Int} (h:cI w v X) (k:bH ⟨U,fun _=>True,T⟩ w w'):cI w' v X:=gm.kp h k
theorem aD.kp {T:TypeId->Bool} {w w':World} {B:Nat} {v:Value} {X:Int} (h:aD w B v X) (k:bH ⟨UU,fun _=>True,T⟩ w w'):aD w' B v X:=by
 obtain ⟨p,c,hv,ho⟩:=h
 exact ⟨p,c,hv,Own.kp ho k⟩
theorem aD.in {w:World} {B:Nat} {v:Value} {X:Int} {j:Nat} (h:aD w B v X) (hs:Sz X j):cA w v X j:=h.rd.to hs
def La (X Y:Int):Rat:=if 0 < Y/\Int.gcd X Y=1 then Rat.divInt X Y else 0
theorem tG {X Y:Int} (h:0 < Y/\Int.gcd X Y=1):(La X Y).num=X/\((La X Y).den:Int)=Y:=by
 unfold La
 rw [if_pos h,Rat.num_divInt,Rat.den_divInt,if_neg ab,Int.gcd_comm,h.2]
 have:Y.sign=1:=fh h.1
 rw [this]
 simp
 omega
theorem Lb {X Y:Int} (h:¬ (0 < Y/\Int.gcd X Y=1)):La X Y=0:=if_neg h
theorem Ee (q:Rat):La q.num q.den=q:=by
 have h:(0:Int) < q.den/\Int.gcd q.num q.den=1:=⟨by have:=q.den_nz;omega,by have:=q.reduced;simpa [Int.gcd,Nat.Coprime] using this⟩
 obtain ⟨h1,h2⟩:=tG h
 exact Rat.ext h1 ab
def eF (w:World) (v:Value) (s:Bool) (xs:List Nat) (t:Bool) (ys:List Nat):Prop:=
 ∃ p c r d,v=.agg #[.bool s,.slice p xs.length c,.bool t,.slice r ys.length d]/\gm w (.agg #[.bool s,.slice p xs.length c]) s xs/\gm w (.agg #[.bool t,.slice r ys.length d]) t ys
def rq (s:Bool) (xs:List Nat) (t:Bool) (ys:List Nat):Rat:=La (numOf s xs) (numOf t ys)
def bA (w:World) (v:Value) (q:Rat) (k:Nat):Prop:=∃ s xs t ys,eF w v s xs t ys/\q=rq s xs t ys/\xs.length≤k/\ys.length≤k
def bE (w:World) (v:Value) (q:Rat):Prop:=∃ s p n c t r m d,v=.agg #[.bool s,.slice p n c,.bool t,.slice r m d]/\cI w (.agg #[.bool s,.slice p n c]) q.num/\cI w (.agg #[.bool t,.slice r m d]) (q.den:Int)
def aH (w:World) (B:Nat) (v:Value) (q:Rat):Prop:=∃ s p n c t r m d,v=.agg #[.bool s,.slice p n c,.bool t,.slice r m d]/\aD w B (.agg #[.bool s,.slice p n c]) q.num/\aD w B (.agg #[.bool t,.slice r m d]) (q.den:Int)
def et (q:Rat) (k:Nat):Prop:=Sz q.num k/\Sz (q.den:Int) k
theorem eF.kp {U:TypeId} {T:TypeId->Bool} {w w':World} {v:Value} {s t:Bool} {xs ys:List Nat} (h:eF w v s xs t ys) (k:bH ⟨U,fun _=>True,T⟩ w w'):eF w' v s xs t ys:=by
 obtain ⟨p,c,r,d,hv,h1,h2⟩:=h
 exact ⟨p,c,r,d,hv,h1.kp k,h2.kp k⟩
theorem bA.kp {U:TypeId} {T:TypeId->Bool} {w w':World} {v:Value} {q:Rat} {j:Nat} (h:bA w v q j) (k:bH ⟨U,fun _=>True,T⟩ w w'):bA w' v q j:=by
 obtain ⟨s,xs,t,ys,h1,h2⟩:=h
 exact ⟨s,xs,t,ys,h1.kp k,h2⟩
theorem bE.kp {U:TypeId} {T:TypeId->Bool} {w w':World} {v:Value} {q:Rat} (h:bE w v q) (k:bH ⟨U,fun _=>True,T⟩ w w'):bE w' v q:=by
 obtain ⟨s,p,n,c,t,r,m,d,hv,h1,h2⟩:=h
 exact ⟨s,p,n,c,t,r,m,d,hv,h1.kp k,h2.kp k⟩
theorem aH.kp {T:TypeId->Bool} {w w':World} {B:Nat} {v:Value} {q:Rat} (h:aH w B v q) (k:bH ⟨UU,fun _=>True,T⟩ w w'):aH w' B v q:=by
 obtain ⟨s,p,n,c,t,r,m,d,hv,h1,h2⟩:=h
 exact ⟨s,p,n,c,t,r,m,d,hv,h1.kp k,h2.kp k⟩
theorem aH.mono {w:World} {B B':Nat} {v:Value} {q:Rat} (h:aH w B v q) (hB:B'≤B):aH w B' v q:=by
 obtain ⟨s,p,n,c,t,r,m,d,hv,h1,h2⟩:=h
 exact ⟨s,p,n,c,t,r,m,d,hv,h1.mono hB,h2.mono hB⟩
theorem aH.rd {w:World} {B:Nat} {v:Value} {q:Rat} (h:aH w B v q):bE w v q:=by
 obtain ⟨s,p,n,c,t,r,m,d,hv,h1,h2⟩:=h
 exact ⟨s,p,n,c,t,r,m,d,hv,h1.rd,h2.rd⟩
theorem aH.cast {w:World} {B:Nat} {v:Value} {q q':Rat} (h:aH w B v q) (e:q=q'):aH w B v q':=e▸h
theorem cI.len4 {w:World} {s:Bool} {p:Option Addr} {n c:Nat} {X:Int} (h:cI w (.agg #[.bool s,.slice p n c]) X):s=decide (X < 0)/\n=(limbs X.natAbs).length:=⟨h.RO,h.parts.1⟩
theorem bE.raw {w:World} {v:Value} {q:Rat} (h:bE w v q):eF w v (decide (q.num < 0)) (limbs q.num.natAbs) (decide ((q.den:Int) < 0)) (limbs (q.den:Int).natAbs):=by
 obtain ⟨s,p,n,c,t,r,m,d,rfl,h1,h2⟩:=h
 obtain ⟨rfl,rfl⟩:=h1.len4
 obtain ⟨rfl,rfl⟩:=h2.len4
 exact ⟨p,c,r,d,rfl,h1,h2⟩
theorem bE.to {w:World} {v:Value} {q:Rat} {k:Nat} (h:bE w v q) (hs:et q k):bA w v q k:=
 ⟨_,_,_,_,h.raw,by unfold rq;rw [gN,gN,Ee],hs.1,hs.2⟩
theorem aH.in {w:World} {B:Nat} {v:Value} {q:Rat} {k:Nat} (h:aH w B v q) (hs:et q k):bA w v q k:=h.rd.to hs
theorem et.mono {q:Rat} {k l:Nat} (h:et q k) (He:k≤l):et q l:=⟨h.1.mono He,h.2.mono He⟩
theorem et.zero:et 0 1:=⟨Sz.zero.mono ab,Sz.small bW⟩
theorem uZ {s:Bool} {xs:List Nat} {k:Nat} (hl:cR xs) (h:xs.length≤k):Sz (numOf s xs) k:=Nat.le_trans (Dr hl) h
theorem bA.sz {w:World} {v:Value} {q:Rat} {k:Nat} (h:bA w v q k) (hk:1≤k):et q k:=by
 obtain ⟨s,xs,t,ys,⟨p,c,r,d,_,⟨_,_,_,_,l1⟩,⟨_,_,_,_,l2⟩⟩,rfl,h1,h2⟩:=h
 unfold rq
 by_cases hr:0 < numOf t ys/\Int.gcd (numOf s xs) (numOf t ys)=1
 ·obtain ⟨e1,e2⟩:=tG hr
  exact ⟨by rw [e1];exact uZ l1 h1,by rw [e2];exact uZ l2 h2⟩
 ·rw [Lb hr];exact et.zero.mono hk
theorem bA.form {w:World} {v:Value} {q:Rat} {k:Nat} (h:bA w v q k):∃ s p n c t r m d,v=.agg #[.bool s,.slice p n c,.bool t,.slice r m d]:=by
 obtain ⟨s,xs,t,ys,⟨p,c,r,d,hv,_⟩,_⟩:=h
 exact ⟨_,_,_,_,_,_,_,_,hv⟩
theorem bE.parts {w:World} {s t:Bool} {p r:Option Addr} {n c m d:Nat} {q:Rat} (h:bE w (.agg #[.bool s,.slice p n c,.bool t,.slice r m d]) q):cI w (.agg #[.bool s,.slice p n c]) q.num/\cI w (.agg #[.bool t,.slice r m d]) (q.den:Int):=by
 obtain ⟨s',p',n',c',t',r',m',d',hv,h1,h2⟩:=h
 simp only [Value.agg.injEq,Array.mk.injEq,List.cons.injEq,and_true] at hv
 obtain ⟨e1,e2,e3,e4⟩:=hv
 rw [e1,e2,e3,e4]
 exact ⟨h1,h2⟩
theorem bE.form {w:World} {v:Value} {q:Rat} (h:bE w v q):∃ s p n c t r m d,v=.agg #[.bool s,.slice p n c,.bool t,.slice r m d]:=by
 obtain ⟨s,p,n,c,t,r,m,d,hv,_⟩:=h
 exact ⟨_,_,_,_,_,_,_,_,hv⟩
theorem aH.form {w:World} {B:Nat} {v:Value} {q:Rat} (h:aH w B v q):∃ s p n c t r m d,v=.agg #[.bool s,.slice p n c,.bool t,.slice r m d]:=h.rd.form
theorem zZ {X Y:Int} (hY:0 < Y):X.fdiv (Int.gcd X Y:Int)=(Rat.divInt X Y).num/\Y.fdiv (Int.gcd X Y:Int)=((Rat.divInt X Y).den:Int):=by
 have hg:(0:Int) < (Int.gcd X Y:Int):=by
  have:Int.gcd X Y≠0:=fun e=>by have:=(Int.gcd_eq_zero_iff.1 e).2;omega
  omega
 rw [Rat.num_divInt,Rat.den_divInt,if_neg ab,fh hY,Int.one_mul,Int.gcd_comm Y X]
 refine ⟨Int.fdiv_eq_ediv_of_nonneg _ ab,?_⟩
 rw [Int.fdiv_eq_ediv_of_nonneg _ ab,Int.natCast_ediv]
 congr 1
 omega
theorem low_neg {X Y:Int} (hY:Y < 0):X.fdiv (-(Int.gcd X Y:Int))=(Rat.divInt X Y).num/\Y.fdiv (-(Int.gcd X Y:Int))=((Rat.divInt X Y).den:Int):=by
 have e:Rat.divInt X Y=Rat.divInt (-X) (-Y):=(Rat.neg_divInt_neg X Y).symm
 obtain ⟨h1,h2⟩:=zZ (X:= -X) (Y:= -Y) ab
 rw [Int.neg_gcd,Int.gcd_neg] at h1 h2
 rw [e,<-h1,<-h2]
 have fd:∀ a b:Int,(-a).fdiv b=a.fdiv (-b):=fun a b=>by rw [<-Int.neg_fdiv_neg,Int.neg_neg]
 exact ⟨(fd _ _).symm,(fd _ _).symm⟩
end
set_option maxRecDepth 4000
section
open Go.RowKit
attribute [local irreducible] aC VS
theorem kK (v:Value) (X:Int) (k:Nat) (w:World) (h:cA w v X k):
  Calls Tryz.prog 96 #[v] w fun e w'=>∃ u,e=.returned u/\cI w' u X/\aL w w':=
 (tD v X k w w h (aL.refl w)).mono fun e w' ⟨u,he,h1,h2⟩=>⟨u,he,h1.bo h2,h2⟩
theorem cI.row {w:World} {s:Bool} {p:Option Addr} {n c:Nat} {X:Int} (h:cI w (.agg #[.bool s,.slice p n c]) X):Rd w 1 (.slice p n c) n (ints .u32 (limbs X.natAbs)):=h.parts.2.1
theorem cI.n {w:World} {s:Bool} {p:Option Addr} {n c:Nat} {X:Int} (h:cI w (.agg #[.bool s,.slice p n c]) X):n=(limbs X.natAbs).length:=h.parts.1
theorem pK {s:Bool} {X:Int} (h:s=decide (X < 0)):X=if s=true then -(X.natAbs:Int) else X.natAbs:=by
 subst h
 by_cases hx:X < 0
 ·simp [hx];omega
 ·simp [hx];omega
theorem aa {P Q:Prop} (h:Q) (i:Q->P:=by intro h;(repeat first|refine wN ?_|refine wP rfl ?_|refine cx_r rfl ?_|refine cx_d rfl ?_|refine wO rfl rfl ?_);exact h):P:=i h
theorem aR {P Q:Prop} (h:Q) (i:Q->P:=by intro h;exact VS.ret (cK _ _) rfl rfl h):P:=i h
theorem ve (v:Value) (X:Int) (j:Nat) (w:World) (hv:cA w v X j) (hj:j≤1073741824):
  Calls Tryz.prog 93 #[v] w fun e w'=>∃ r,e=.returned r/\aD w' w.heap.size r (-X)/\aL w w':=by
 obtain ⟨s,p,n,c,rfl⟩:=hv.form
 have hl:=hv.len
 refine ag (C:=bP Tryz.prog w _) (args:=[_]) Tryz.func93 rfl Tryz.ntmps93 (bu rfl) ?_
 refine aa ?_
 refine VO.call rfl rfl (fk Tryz.func96) (fun bD cQ bG=>(kK _ X j bD (hv.kp cQ)).mono ?_)
 rintro e w1 ⟨r1,rfl,h1,aI⟩
 obtain ⟨s1,p1,n1,c1,rfl⟩:=h1.iH
 refine ⟨_,rfl,aI,fun dt _ bb1=>wV rfl ?_⟩
 refine aa ?_
 refine VO.call rfl rfl (fk Tryz.func96) (fun cG dQ cV=>(kK _ X j cG (hv.kp ((dt).aN dQ))).mono ?_)
 rintro e w2 ⟨r2,rfl,h2,ba⟩
 obtain ⟨s2,p2,n2,c2,rfl⟩:=h2.iH
 refine ⟨_,rfl,ba,fun dR _ bb2=>wV rfl ?_⟩
 refine aa ?_
 refine VO.call rfl rfl (fk Tryz.func92) (fun eX fF fM=>(jL (!s1) _ n2 _ eX (h2.row.kp fF) (az _) (by rw [h2.n];omega)).mono ?_)
 rintro e w3 ⟨r3,rfl,h3,cC⟩
 obtain ⟨s3,p3,n3,c3,rfl⟩:=h3.form
 refine ⟨_,rfl,cC,fun gZ _ bb3=>wV rfl ?_⟩
 refine aa ?_
 refine aR ?_;intro wz kz bz
 refine ⟨_,rfl,aD.cast ((h3.kp kz).mono fM.size) ?_,bz⟩
 rw [aq]
 have:=pK h1.RO
 cases s1 <;> simp at this ⊢ <;> omega
theorem vf (v u:Value) (X Y:Int) (j k:Nat) (w:World) (hv:cA w v X j) (hu:cA w u Y k) (hj:j≤536870912) (hk:k≤536870911):
  Calls Tryz.prog 62 #[v,u] w fun e w'=>∃ r,e=.returned r/\aD w' w.heap.size r (X + Y)/\aL w w':=by
 obtain ⟨s,p,n,c,rfl⟩:=hv.form
 obtain ⟨t,q,m,d,rfl⟩:=hu.form
 have mr:=hv.len
 have qm:=hu.len
 refine ag (C:=bP Tryz.prog w _) (args:=[_,_]) Tryz.func62 rfl Tryz.ntmps62 (bu rfl) ?_
 refine aa ?_
 refine VO.call rfl rfl (fk Tryz.func96) (fun bD cQ bG=>(kK _ X j bD (hv.kp cQ)).mono ?_)
 rintro e w1 ⟨r1,rfl,h1,aI⟩
 obtain ⟨s1,p1,n1,c1,rfl⟩:=h1.iH
 refine ⟨_,rfl,aI,fun dt _ bb1=>wV rfl ?_⟩
 refine aa ?_
 refine VO.call rfl rfl (fk Tryz.func96) (fun cG dQ cV=>(kK _ Y k cG (hu.kp ((dt).aN dQ))).mono ?_)
 rintro e w2 ⟨r2,rfl,h2,ba⟩
 obtain ⟨s2,p2,n2,c2,rfl⟩:=h2.iH
 refine ⟨_,rfl,ba,fun dR _ bb2=>wV rfl ?_⟩
 refine aa ?_
 have e1:=pK h1.RO
 have e2:=pK h2.RO
 have rS:n1≤536870912:=by rw [h1.n];omega
 have uX:n2≤536870911:=by rw [h2.n];omega
 by_cases hst:s1=s2
 ·subst hst
  refine VS.aP rfl cw ?_
  refine aa ?_
  refine VO.call rfl rfl (fk Tryz.func97) (fun eX fF fM=>(PB _ _ n1 n2 _ _ eX (h1.row.kp (dQ.aN ((Kp.of ba).aN fF))) (h2.row.kp fF) (az _) (az _) ab ab).mono ?_)
  rintro e w3 ⟨v3,rfl,h3,cC⟩
  obtain ⟨p3,c3,rfl,_⟩:=Own.form h3
  refine ⟨_,rfl,cC,fun gZ _ bb3=>wV rfl ?_⟩
  refine aa ?_
  refine VO.call rfl rfl (fk Tryz.func92) (fun jg kZ kt=>(jL s1 _ _ _ jg (Rd.own (Own.kp h3 kZ)) (az _) (by have:=sum_len (a:=ak (limbs X.natAbs)) (b:=ak (limbs Y.natAbs)) (n:=n1) (m:=n2) (by rw [aq];exact h1.n) (by rw [aq];exact h2.n);omega)).mono ?_)
  rintro e w4 ⟨r4,rfl,h4,fq⟩
  obtain ⟨s4,p4,n4,c4,rfl⟩:=h4.form
  refine ⟨_,rfl,fq,fun lz _ tH=>wV rfl ?_⟩
  refine aa ?_
  refine aR ?_;intro wz kz bz
  refine ⟨_,rfl,aD.cast ((h4.kp kz).mono kt.size) ?_,bz⟩
  rw [aq,aq,aq]
  cases s1 <;> simp at e1 e2 ⊢ <;> omega
 ·refine VS.aQ rfl (by simpa using hst) ?_
  refine aa ?_
  refine VO.call rfl rfl (fk Tryz.func98) (fun eX fF fM=>(Ec _ _ n1 n2 _ _ eX (h1.row.kp (dQ.aN ((Kp.of ba).aN fF))) (h2.row.kp fF) (az _) (az _) ab ab).mono ?_)
  rintro e w3 ⟨h3,cC⟩
  rw [aq,aq] at h3
  rcases h3 with ⟨hlt,rfl⟩ | ⟨hle,v3,rfl,h3⟩
  ·refine ⟨_,rfl,cC,fun gZ _ bb3=>wV rfl ?_⟩
   refine aa ?_
   refine VO.call rfl rfl (fk Tryz.func98) (fun jg kZ kt=>(Ec _ _ n2 n1 _ _ jg (h2.row.kp (fF.aN ((Kp.of cC).aN kZ))) (h1.row.kp (dQ.aN ((Kp.of ba).aN (fF.aN ((Kp.of cC).aN kZ))))) (az _) (az _) ab ab).mono ?_)
   rintro e w4 ⟨h4,fq⟩
   rw [aq,aq] at h4
   rcases h4 with ⟨IK,rfl⟩ | ⟨yr,v4,rfl,h4⟩
   ·omega
   ·obtain ⟨p4,c4,rfl,_⟩:=Own.form h4
    refine ⟨_,rfl,fq,fun lz _ tH=>wV rfl ?_⟩
    refine aa ?_
    refine VO.call rfl rfl (fk Tryz.func92) (fun gE ju ia=>(jL s2 _ _ _ gE (Rd.own (Own.kp h4 ju)) (az _) (by have:=dk (show Y.natAbs - X.natAbs≤Y.natAbs by omega);omega)).mono ?_)
    rintro e w5 ⟨r5,rfl,h5,eP⟩
    obtain ⟨s5,p5,n5,c5,rfl⟩:=h5.form
    refine ⟨_,rfl,eP,fun jV _ qu=>wV rfl ?_⟩
    refine aa ?_
    refine aR ?_;intro wz kz bz
    refine ⟨_,rfl,aD.cast ((h5.kp kz).mono ia.size) ?_,bz⟩
    rw [aq]
    cases s1 <;> cases s2 <;> simp at e1 e2 hst ⊢ <;> omega
  ·obtain ⟨p3,c3,rfl,_⟩:=Own.form h3
   refine ⟨_,rfl,cC,fun gZ _ bb3=>wV rfl ?_⟩
   refine aa ?_
   refine VO.call rfl rfl (fk Tryz.func92) (fun gE ju ia=>(jL s1 _ _ _ gE (Rd.own (Own.kp h3 ju)) (az _) (by have:=dk (show X.natAbs - Y.natAbs≤X.natAbs by omega);omega)).mono ?_)
   rintro e w5 ⟨r5,rfl,h5,eP⟩
   obtain ⟨s5,p5,n5,c5,rfl⟩:=h5.form
   refine ⟨_,rfl,eP,fun jV _ qu=>wV rfl ?_⟩
   refine aa ?_
   refine aR ?_;intro wz kz bz
   refine ⟨_,rfl,aD.cast ((h5.kp kz).mono ia.size) ?_,bz⟩
   rw [aq]
   cases s1 <;> cases s2 <;> simp at e1 e2 hst ⊢ <;> omega
theorem IL (v u:Value) (X Y:Int) (j k:Nat) (w:World) (hv:cA w v X j) (hu:cA w u Y k) (hj:j≤536870912) (hk:k≤536870911):
  Calls Tryz.prog 120 #[v,u] w fun e w'=>∃ r,e=.returned r/\aD w' w.heap.size r (X - Y)/\aL w w':=by
 obtain ⟨s,p,n,c,rfl⟩:=hv.form
 obtain ⟨t,q,m,d,rfl⟩:=hu.form
 refine ag (C:=bP Tryz.prog w _) (args:=[_,_]) Tryz.func120 rfl Tryz.ntmps120 (bu rfl) ?_
 refine aa ?_
 refine VO.call rfl rfl (fk Tryz.func93) (fun bD cQ bG=>(ve _ Y k bD (hu.kp cQ) ab).mono ?_)
 rintro e w1 ⟨r1,rfl,h1,aI⟩
 obtain ⟨s1,p1,n1,c1,rfl⟩:=h1.form
 refine ⟨_,rfl,aI,fun dt _ bb1=>wV rfl ?_⟩
 refine aa ?_
 refine VO.call rfl rfl (fk Tryz.func62) (fun cG dQ cV=>(vf _ _ X (-Y) j k cG (hv.kp ((dt).aN dQ)) ((h1.kp dQ).in (Sz.neg hu.len)) hj hk).mono ?_)
 rintro e w2 ⟨r2,rfl,h2,ba⟩
 obtain ⟨s2,p2,n2,c2,rfl⟩:=h2.form
 refine ⟨_,rfl,ba,fun dR _ bb2=>wV rfl ?_⟩
 refine aa ?_
 refine aR ?_;intro wz kz bz
 exact ⟨_,rfl,aD.cast ((h2.kp kz).mono cV.size) (Int.sub_eq_add_neg).symm,bz⟩
end
section
open Go.RowKit
attribute [local irreducible] aC VS
set_option maxRecDepth 100000 in
theorem jn (p:Option Addr) (n c:Nat) (xs:List Nat) (w:World) (hr:Rd w 1 (.slice p n c) n (ints .i64 xs)) (hl:ik xs):
  Calls Tryz.prog 125 #[.slice p n c] w fun e w'=>(∃ m,m≤n/\e=.returned (.slice p m c)/\halves (hval xs)=xs.take m)/\w=w':=by
 obtain ⟨p',c',hv,fE,fX,fA⟩:=hr.i64
 simp only [Value.slice.injEq,true_and] at hv
 obtain ⟨rfl,rfl⟩:=hv
 have HX:Hid (xs.length=n):=fA
 clear fA
 refine aY fun R' bR=> ?_
 go_enter Tryz.func125,Tryz.ntmps125
 go_wp2
 go_loop [0] (fun v=>∃ m,m≤n/\v=.slice p m c/\hval (xs.take m)=hval xs) (fun v=>match v with | .slice _ m _=>m | _=>0)
 case atStart=>exact ⟨n,Nat.le_refl _,rfl,by rw [List.take_of_length_le (Nat.le_of_eq HX.out)]⟩
 case round=>
  obtain ⟨m,hm,rfl,hv⟩:=hrel
  have HV:Hid (hval (xs.take m)=hval xs):=hv
  clear hv
  by_cases h0:m=0
  ·subst h0
   go_wp2
   exact bR.out _ _ ⟨⟨0,Nat.zero_le _,rfl,lV ab hl (Nat.zero_le _) HV.out (.inl rfl)⟩,rfl⟩
  ·obtain ⟨b,off,x,rfl,hb,hx,hc⟩:=hr.cellAt (k:=m - 1) ab
   have Rk:Hid (xs[m-1]? =some x):=hx
   clear hx
   have h0':0 < m:=by omega
   obtain ⟨j,rfl⟩:∃ j,m=j + 1:=⟨m - 1,by omega⟩
   rw [Nat.add_sub_cancel] at hc
   by_cases iA:x=0
   ·subst iA
    go_wp2
    go_round
    case rel=>exact ⟨j,by omega,rfl,(nb Rk.out).symm.trans HV.out⟩
    case measure=>simp
   ·have hx0':((x:Int) == 0)=false:=by rw [beq_eq_false_iff_ne];omega
    go_wp2
    exact bR.out _ _ ⟨⟨j + 1,hm,rfl,lV ab hl (by rw [HX.out];exact hm) HV.out (.inr ⟨x,Rk.out,iA⟩)⟩,rfl⟩
set_option maxRecDepth 100000 in
theorem Fb (va:Value) (n:Nat) (xs:List Nat) (w:World) (hr:Rd w 1 va n (ints .u32 xs)) (hl:cR xs) (hn:n≤1073741824):
  Calls Tryz.prog 101 #[va] w fun e w'=>∃ v',e=.returned v'/\w'.ownsRow w.heap.size 3 1 v' (halves (ak xs)).length (ints .i64 (halves (ak xs)))/\Below w.heap.size w w':=by
 obtain ⟨p,c,rfl,fE,fX,fA⟩:=hr.u32
 obtain ⟨i0,hi,jB,gC,mO⟩:=info_parts zY
 obtain ⟨B,hB⟩:∃ B,B=w.heap.size:=⟨_,rfl⟩
 have HB:=Lib.hid hB
 have Hr:=Lib.hid hr
 have HL:=Lib.hid hl
 have HX:=Lib.hid fA
 rw [<-hB]
 clear hr hl fA hB
 refine aY fun R' bR=> ?_
 go_enter Tryz.func101,Tryz.ntmps101
 go_wp2
 go_loopw [3,4] (fun ov iv wr=>MW w B xs ov iv wr) (fun _ iv _=>n - (intOf iv).toNat)
 case atStart=>exact ⟨0,[],Nat.zero_le _,rfl,rfl,eO.nil _,rfl,World.ownsRow_nil _ _ _ _,Below.refl _ _⟩
 case round=>
  obtain ⟨k,hs,hk,rfl,hhl,hhh,hhv,aJ,hb⟩:=hrel
  have HK:=Lib.hid hk
  have HO:=Lib.hid aJ
  have HHL:=Lib.hid hhl
  have HHH:=Lib.hid hhh
  have HHV:=Lib.hid hhv
  have iQ:=Lib.hid hb
  have zF:B≤wr.heap.size:=by have:=hb.size;have:=HB.out;omega
  have hkn':k≤n:=by rw [<-HX.out];exact hk
  clear hk aJ hhl hhh hhv hb
  by_cases qO:k < n
  ·obtain ⟨b1,o1,x,rfl,aI,ig,hcw⟩:=Hr.out.cellAt qO
   have ss:=(iQ.out.cell (p:=⟨b1,o1 + k,none⟩) (by rw [HB.out];exact aI)).trans hcw
   have hne:=Rh HO.out (b:=b1) (by rw [HB.out];exact aI)
   have zG:=Lib.hid ig
   have lW:=HL.out.at ig
   have HNE:=Lib.hid hne
   have AA:(0:Int)≤(k:Int):=by omega
   have DI:(k:Int) < (n:Int):=by omega
   clear ig hcw hne
   go_wp2_with fail
   go_region_held3 (fun w'=>w'.cell? ⟨b1,o1 + k,none⟩=some (.int .u32 (x:Int))) (first | exact ss | go_keep | exact Dg Bq ss HNE.out)
    ((refine qN (by rfl) _ _ 156 (by rfl) B 3 i0 (.int .i64 0) 1 8 Tryz.underlying156 hi jB gC mO rfl ab _ (2 * k) (ints .i64 hs) (by rfl) ((HO.out.alloc _).drew) _ 2 (ints .i64 [x % 65536,x / 65536]) (by rfl) (Rd.drew (Rd.lit2 (MX lW) (MY lW))) (oo .i64 [x % 65536,x / 65536]) (by unfold maxLen;omega) ab (by simp;omega) ?_;intro v1 w1 gI Bq))
   have uf:=Lib.hid gI
   have HG1:=Lib.hid Bq
   clear gI Bq
   go_wp2_with fail
   go_roundw
   case rel=>
    have hst:=DY zG.out lW HHL.out HHH.out HHV.out
    exact ⟨k + 1,hs++[x % 65536,x / 65536],by rw [HX.out];omega,by go_num,by simp [HHL.out];omega,hst.1,hst.2,by rw [jj];exact uf.out,Below.behind iQ.out zF HG1.out HO.out (Nat.le_refl _)⟩
   case measure=>simp [intOf];omega
  ·obtain rfl:k=n:=by omega
   obtain ⟨p1,c1,Gs,_,_,_⟩:=Own.form HO.out
   have HV1:=Lib.hid Gs
   have fY:Hid (hval hs=ak xs):=by show _=_;rw [HHV.out,bM (Nat.le_of_eq HX.out)]
   subst Gs
   go_wp2_with fail
   refine (jn p1 (2 * k) c1 hs _ (Rd.own HO.out) HHH.out).mono ?_
   rintro e w2 ⟨⟨m,hm,rfl,CB⟩,rfl⟩
   have HC:=Own.cut HO.out hm CB
   rw [fY.out] at HC
   have HC1:=Lib.hid HC.1
   have HC2:=Lib.hid HC.2
   clear HC CB
   go_wp2_with fail
   refine bR.out _ _ ⟨_,rfl,?_,iQ.out⟩
   have:=HC1.out
   rw [<-HC2.out] at this ⊢
   exact this
theorem SG {n:Int} (h0: -9223372036854775808≤n) (h1:n≤9223372036854775807):sB (n.tmod 4294967296) [IntKind.i64.wrap (0 - n.tmod 4294967296)]=((n.natAbs % 4294967296:Nat):Int):=by
 have e:(n.tmod 4294967296).natAbs=n.natAbs % 4294967296:=by rw [Int.natAbs_tmod];rfl
 have hs:(0≤n->0≤n.tmod 4294967296):=fun h=>Int.tmod_nonneg _ h
 have hs':(n≤0->n.tmod 4294967296≤0):=fun h=>by have:=Int.tmod_nonneg 4294967296 (show 0≤-n by omega);rw [Int.neg_tmod] at this;omega
 rw [IntWalk.i64_in _ ab]
 unfold sB sB
 split <;> omega
theorem SH {n:Int} (h0: -9223372036854775808≤n) (h1:n≤9223372036854775807):sB (IntKind.i64.wrap (n.tdiv 4294967296)) [IntKind.i64.wrap (0 - IntKind.i64.wrap (n.tdiv 4294967296))]=((n.natAbs / 4294967296:Nat):Int):=by
 have e:(n.tdiv 4294967296).natAbs=n.natAbs / 4294967296:=by rw [Int.natAbs_tdiv];rfl
 have hs:(0≤n->0≤n.tdiv 4294967296):=fun h=>Int.tdiv_nonneg h ab
 have hs':(n≤0->n.tdiv 4294967296≤0):=fun h=>by have:=Int.tdiv_nonneg (show 0≤-n by omega) (show (0:Int)≤4294967296 by omega);rw [Int.neg_tdiv] at this;omega
 have hb:n.natAbs / 4294967296≤2147483648:=by omega
 rw [IntWalk.i64_in (n.tdiv 4294967296) ab,IntWalk.i64_in _ ab]
 unfold sB sB
 split <;> omega
theorem Nb {x:Nat} (h:x < 4294967296):IntKind.u32.wrap (x:Int)=(x:Int):=by rw [IntKind.wrap_u32',Int.emod_eq_of_lt ab ab]
theorem lM (n:Int) (w:World) (h0: -9223372036854775808≤n) (h1:n≤9223372036854775807):
  Calls Tryz.prog 59 #[.int .i64 n] w fun e w'=>∃ r,e=.returned r/\aD w' w.heap.size r n/\aL w w':=by
 have e1:=SG h0 h1
 have e2:=SH h0 h1
 have g1:=Nat.mod_lt n.natAbs (show 0 < 4294967296 by omega)
 have g2:n.natAbs / 4294967296 < 4294967296:=by omega
 refine ag (C:=bP Tryz.prog w _) (args:=[_]) Tryz.func59 rfl Tryz.ntmps59 (bu rfl) ?_
 refine aa ?_
 refine VO.lit (cK _ _) [.int .u32 (IntKind.u32.wrap (sB (n.tmod 4294967296) [IntKind.i64.wrap (0 - n.tmod 4294967296)])),.int .u32 (IntKind.u32.wrap (sB (IntKind.i64.wrap (n.tdiv 4294967296)) [IntKind.i64.wrap (0 - IntKind.i64.wrap (n.tdiv 4294967296))]))] rfl rfl rfl rfl rfl rfl rfl rfl rfl ab (fun w2 b k2 b2 ho=>wV rfl ?_)
 rw [e1,e2,Nb g1,Nb g2] at ho
 refine VO.call rfl rfl (fk Tryz.func92) (fun eX fF fM=>(jL (decide (n < 0)) _ 2 [n.natAbs % 4294967296,n.natAbs / 4294967296] eX (Rd.own (Own.kp (cs:=ints .u32 [n.natAbs % 4294967296,n.natAbs / 4294967296]) ho fF)) (eO.cons g1 (eO.cons g2 (eO.nil _))) ab).mono ?_)
 rintro e w3 ⟨r3,rfl,h3,cC⟩
 obtain ⟨s3,p3,n3,c3,rfl⟩:=h3.form
 refine ⟨_,rfl,cC,fun gZ _ bb3=>wV rfl ?_⟩
 refine aa ?_
 refine aR ?_;intro wz kz bz
 refine ⟨_,rfl,aD.cast ((h3.kp kz).mono fM.size) ?_,bz⟩
 rw [gw,gw,fe]
 by_cases hn:n < 0
 ·simp only [hn,decide_true,if_true];omega
 ·simp only [hn,decide_false];simp;omega
end
section
open Go.RowKit
def lv (ls:List Nat) (k j:Nat):Nat:=(if 2 * j < k then ls.getD (2 * j) 0 else 0) + 65536 * (if 2 * j + 1 < k then ls.getD (2 * j + 1) 0 else 0)
def Cw (ls:List Nat) (m k:Nat):List Nat:=(List.range m).map (lv ls k)
theorem SI (ls:List Nat) (m:Nat):Cw ls m 0=List.replicate m 0:=by
 apply List.ext_getElem
 ·simp [Cw]
 ·intro i h1 h2;simp [Cw,lv]
theorem SJ {ls:List Nat} {m j x:Nat} (hx:ls[2 * j]? =some x):(Cw ls m (2 * j)).set j x=Cw ls m (2 * j + 1):=by
 apply List.ext_getElem
 ·simp [Cw]
 ·intro i h1 h2
  simp only [Cw,List.getElem_set,List.getElem_map,List.getElem_range]
  by_cases e:j=i
  ·subst e
   rw [if_pos rfl]
   unfold lv
   rw [if_pos ab,if_neg ab,List.getD_eq_getElem?_getD,hx];rfl
  ·rw [if_neg e]
   unfold lv
   congr 1
   ·by_cases h:2 * i < 2 * j
    ·rw [if_pos h,if_pos ab]
    ·rw [if_neg h,if_neg ab]
   ·by_cases h:2 * i + 1 < 2 * j
    ·rw [if_pos h,if_pos ab]
    ·rw [if_neg h,if_neg ab]
theorem lds_odd {ls:List Nat} {m j x y:Nat} (hy:(Cw ls m (2 * j + 1))[j]? =some y) (hx:ls[2 * j + 1]? =some x):(Cw ls m (2 * j + 1)).set j (y + 65536 * x)=Cw ls m (2 * j + 2):=by
 have hy':y=ls.getD (2 * j) 0:=by
  obtain ⟨h,rfl⟩:=List.getElem?_eq_some_iff.1 hy
  simp only [Cw,List.getElem_map,List.getElem_range]
  unfold lv
  rw [if_pos ab,if_neg ab];rfl
 apply List.ext_getElem
 ·simp [Cw]
 ·intro i h1 h2
  simp only [Cw,List.getElem_set,List.getElem_map,List.getElem_range]
  by_cases e:j=i
  ·subst e
   rw [if_pos rfl]
   unfold lv
   rw [if_pos ab,if_pos ab,hy']
   congr 2
   rw [List.getD_eq_getElem?_getD,hx];rfl
  ·rw [if_neg e]
   unfold lv
   congr 1
   ·by_cases h:2 * i < 2 * j + 1
    ·rw [if_pos h,if_pos ab]
    ·rw [if_neg h,if_neg ab]
   ·by_cases h:2 * i + 1 < 2 * j + 1
    ·rw [if_pos h,if_pos ab]
    ·rw [if_neg h,if_neg ab]
theorem lds_end {ls:List Nat} (h:ik ls) {m:Nat} (hm:ls.length≤2 * m):ak (Cw ls m ls.length)=hval ls/\cR (Cw ls m ls.length):=by
 have hb:∀ k,ls.getD k 0 < 65536:=fun k=>mi h k
 have xB:∀ j,lv ls ls.length j=ls.getD (2 * j) 0 + 65536 * ls.getD (2 * j + 1) 0:=fun j=>by
  unfold lv
  congr 1
  ·split
   ·rfl
   ·rw [jm ab]
  ·split
   ·rfl
   ·rw [jm ab]
 constructor
 ·have key:∀ j,j≤m->ak ((Cw ls m ls.length).take j)=hval (ls.take (2 * j)):=by
   intro j
   induction j with
   | zero=>intro _;rfl
   | succ j ih=>
     intro hj
     rw [bq,ih ab]
     have e:(Cw ls m ls.length).getD j 0=ls.getD (2 * j) 0 + 65536 * ls.getD (2 * j + 1) 0:=by
      rw [List.getD_eq_getElem?_getD]
      simp [Cw,show j < m by omega,xB]
     rw [e]
     show _=val 65536 (ls.take (2 * j + 1 + 1))
     rw [cz,cz,Nat.mul_add,<-Nat.mul_assoc,Nat.pow_succ 65536 (2 * j),Nat.pow_mul]
     show val 65536 _ + _=_
     rw [Nat.add_assoc]
  have:=key m (Nat.le_refl _)
  rw [List.take_of_length_le (by simp [Cw]),List.take_of_length_le hm] at this
  exact this
 ·intro x hx
  obtain ⟨j,_,rfl⟩:=List.mem_map.1 hx
  rw [xB]
  have:=hb (2 * j)
  have:=hb (2 * j + 1)
  omega
def PC (w:World) (B g m:Nat) (ls:List Nat) (iv:Value) (wr:World):Prop:=
 ∃ k,k≤ls.length/\iv=.int .i64 (k:Int)/\wr.ownsRow B 117 1 (.slice (some ⟨g,0,none⟩) m m) m (ints .u32 (Cw ls m k))/\Below B w wr
set_option maxRecDepth 100000 in
theorem IM (va:Value) (n:Nat) (ls:List Nat) (w:World) (hr:Rd w 1 va n (ints .i64 ls)) (hl:ik ls) (hn:n≤2147483656):
  Calls Tryz.prog 99 #[va] w fun e w'=>∃ v' xs,e=.returned v'/\xs.length=(n + 1) / 2/\w'.ownsRow w.heap.size 117 1 v' ((n + 1) / 2) (ints .u32 xs)/\ak xs=hval ls/\cR xs/\Below w.heap.size w w':=by
 obtain ⟨p,c,rfl,fE,fX,fA⟩:=hr.i64
 obtain ⟨i0,hi,jB,gC,mO⟩:=info_parts kC
 obtain ⟨B,hB⟩:∃ B,B=w.heap.size:=⟨_,rfl⟩
 have HB:=Lib.hid hB
 have Hr:=Lib.hid hr
 have HL:=Lib.hid hl
 have HX:=Lib.hid fA
 obtain ⟨m,hm⟩:∃ m,m=(n + 1) / 2:=⟨_,rfl⟩
 have HM:=Lib.hid hm
 have hmn:n≤2 * m:=by omega
 have hmb:m≤1073741828:=by omega
 have hq:((n:Int) + 1) / 2=(m:Int):=by omega
 rw [<-hB,<-hm]
 clear hr hl fA hB hm
 refine aY fun R' bR=> ?_
 go_enter Tryz.func99,Tryz.ntmps99
 go_wp2_with (at_make;refine wpList_make_full _ rfl _ _ 22 rfl B 117 i0 (.int .u32 0) 1 Tryz.underlying22 hi jB gC .i64 .i64 _ _ m rfl rfl hq hq (by rw [mO];omega) (by unfold maxLen;omega) (Nat.le_of_eq HB.out) ?_;intro w1 aJ OI)
 have Kl:=Lib.hid (Own.made aJ)
 have Hb1:Hid (Below B w w1):=(Below.refl _ _).grown OI (Nat.le_of_eq HB.out) (fun k hk=>by cases hk)
 clear aJ OI hq
 go_wp2_with fail
 go_loopw [4] (fun iv wr=>PC w B w.heap.size m ls iv wr) (fun iv _=>n - (intOf iv).toNat)
 case atStart=>exact ⟨0,Nat.zero_le _,rfl,by rw [SI];have:=Kl.out;rw [List.nil_append] at this;exact this,Hb1.out⟩
 case round=>
  obtain ⟨k,hk,rfl,aJ,hb⟩:=hrel
  have qe:=Lib.hid aJ
  have qP:=Lib.hid hb
  have qO:k≤n:=by rw [<-HX.out];exact hk
  clear aJ hb hk
  by_cases hlt:k < n
  ·obtain ⟨b1,o1,x,rfl,aI,ig,hcw⟩:=Hr.out.cellAt hlt
   have ss:=(qP.out.cell (p:=⟨b1,o1 + k,none⟩) (by rw [HB.out];exact aI)).trans hcw
   have lW:=HL.out.at ig
   have zG:=Lib.hid ig
   obtain ⟨j,hj⟩:∃ j,j=k / 2:=⟨_,rfl⟩
   have hk2:(k:Int) / 2=(j:Int):=by omega
   have hjm:j < m:=by omega
   obtain ⟨z,hz,hcell,CC⟩:=Own.iG qe.out (j:=j) hjm
   have HZ:=Lib.hid hz
   have hw4:(x:Int) % 4294967296=(x:Int):=by omega
   have hj0:(0:Int)≤(j:Int):=by omega
   have hj1:(j:Int) < (m:Int):=by omega
   have AA:(0:Int)≤(k:Int):=by omega
   have DI:(k:Int) < (n:Int):=by omega
   by_cases he:k % 2=0
   ·have hke:((k:Int) % 2 == 0)=true:=by rw [beq_iff_eq];omega
    have HK:Hid (k=2 * j):=by show _=_;omega
    clear ig hcw he hj hz
    go_wp2_with fail
    go_roundw
    case rel=>
     refine ⟨k + 1,by rw [HX.out];omega,by go_num,?_,qP.out.setCell (Own.lt qe.out).1 _⟩
     have h1:=Own.ic (j:=j) (x:=x) qe.out
     rw [HK.out,SJ (by rw [<-HK.out];exact zG.out)] at h1
     rw [HK.out]
     simpa using h1
    case measure=>simp [intOf];omega
   ·have hke:((k:Int) % 2 == 0)=false:=by rw [beq_eq_false_iff_ne];omega
    have HK:Hid (k=2 * j + 1):=by show _=_;omega
    have hz4:z < 65536:=by
     have:=HZ.out
     rw [HK.out] at this
     obtain ⟨h,rfl⟩:=List.getElem?_eq_some_iff.1 this
     simp only [Cw,List.getElem_map,List.getElem_range]
     unfold lv
     rw [if_pos ab,if_neg ab]
     exact mi HL.out _
    have hw5:IntKind.u32.wrap (z + IntKind.u32.wrap (65536 * (x:Int)))=((z + 65536 * x:Nat):Int):=by
     rw [IntKind.wrap_u32',IntKind.wrap_u32'];omega
    clear ig hcw he hj hz
    go_wp2
    go_region
    all_goals
     go_wp2_with fail
     go_roundw
     case rel=>
      refine ⟨k + 1,by rw [HX.out];omega,by go_num,?_,(qP.out.setCell (Own.lt qe.out).1 _).drew⟩
      have h1:=Own.ic (j:=j) (x:=z + 65536 * x) qe.out
      rw [HK.out,lds_odd (by have:=HZ.out;rw [HK.out] at this;exact this) (by rw [<-HK.out];exact zG.out)] at h1
      rw [HK.out]
      have h2:(((z + 65536 * x:Nat):Int))=(z:Int) + 65536 * (x:Int):=by omega
      rw [h2] at h1
      exact h1
     case measure=>simp [intOf];omega
  ·obtain rfl:k=n:=by omega
   obtain ⟨e1,e2⟩:=lds_end HL.out (m:=m) (by rw [HX.out];exact hmn)
   rw [HX.out] at e1 e2
   have E1:=Lib.hid e1
   have E2:=Lib.hid e2
   clear e1 e2
   go_wp2_with fail
   exact bR.out _ _ ⟨_,_,rfl,by simp [Cw],qe.out,E1.out,E2.out,qP.out⟩
end
section
open Go.RowKit
theorem val_set {B:Nat} {xs:List Nat} {j o v:Nat} (h:xs[j]? =some o):val B (xs.set j v) + B ^ j * o=val B xs + B ^ j * v:=by
 obtain ⟨hl,he⟩:=List.getElem?_eq_some_iff.1 h
 have h1:xs=xs.take j++o::xs.drop (j + 1):=by rw [<-he,<-List.drop_eq_getElem_cons hl,List.take_append_drop]
 have h2:xs.set j v=xs.take j++v::xs.drop (j + 1):=by
  conv=>lhs;rw [h1]
  rw [List.set_append_right _ _ (by rw [List.length_take];omega)]
  rw [List.length_take,Nat.min_eq_left ab,Nat.sub_self];rfl
 have e1:val B xs=val B (xs.take j) + B ^ j * (o + B * val B (xs.drop (j + 1))):=by
  conv=>lhs;rw [h1]
  rw [jZ,List.length_take,Nat.min_eq_left ab,iE]
 have e2:val B (xs.set j v)=val B (xs.take j) + B ^ j * (v + B * val B (xs.drop (j + 1))):=by
  rw [h2,jZ,List.length_take,Nat.min_eq_left ab,iE]
 rw [e1,e2,Nat.mul_add,Nat.mul_add]
 omega
theorem ik.set {xs:List Nat} (h:ik xs) {v:Nat} (hv:v < 65536) (j:Nat):ik (xs.set j v):=fun y hy=>by
 rcases List.mem_or_eq_of_mem_set hy with h1 | h1
 ·exact h y h1
 ·rw [h1];exact hv
theorem vg {os:List Nat} {i k x y o c s S Y:Nat} (ho:os[i + k]? =some o) (hs:s=x * y + o + c) (h:hval os + 65536 ^ (i + k) * c=S + 65536 ^ i * (x * Y)):
  hval (os.set (i + k) (s % 65536)) + 65536 ^ (i + (k + 1)) * (s / 65536)=S + 65536 ^ i * (x * (Y + 65536 ^ k * y)):=by
 have h1:hval (os.set (i + k) (s % 65536)) + 65536 ^ (i + k) * o=hval os + 65536 ^ (i + k) * (s % 65536):=val_set ho
 have h2:65536 ^ (i + (k + 1))=65536 ^ (i + k) * 65536:=by rw [<-Nat.add_assoc,Nat.pow_succ]
 have h3:65536 ^ (i + k) * s=65536 ^ (i + k) * (s % 65536) + 65536 ^ (i + k) * 65536 * (s / 65536):=by
  rw [Nat.mul_assoc,<-Nat.mul_add,Nat.mod_add_div]
 have h4:65536 ^ (i + k) * s=65536 ^ (i + k) * (x * y) + 65536 ^ (i + k) * o + 65536 ^ (i + k) * c:=by rw [hs,Nat.mul_add,Nat.mul_add]
 have h5:65536 ^ i * (x * (Y + 65536 ^ k * y))=65536 ^ i * (x * Y) + 65536 ^ (i + k) * (x * y):=by
  rw [Nat.mul_add,Nat.mul_add,Nat.pow_add]
  congr 1
  rw [Nat.mul_left_comm x,Nat.mul_assoc]
 rw [h2,h5]
 omega
def iv (xs:List Nat):List AV:=(ints .i64 xs).map .val
theorem cB (xs:List Nat):(iv xs).length=xs.length:=by simp [iv]
theorem SK {xs:List Nat} {j x:Nat} (h:xs[j]? =some x):(iv xs)[j]? =some (.val (.int .i64 (x:Int))):=by
 unfold iv
 rw [List.getElem?_map,ur h];rfl
theorem sb (xs ys:List Nat):iv (xs++ys)=iv xs++iv ys:=by simp [iv,jj]
theorem oK (xs:List Nat):(iv xs).all aG=true:=bh (List.all_eq_true.2 fun u hu=>by obtain ⟨_,_,rfl⟩:=List.mem_map.1 hu;rfl)
theorem Nc (xs:List Nat):(ints .i64 xs).all aV=true:=List.all_eq_true.2 fun u hu=>by obtain ⟨_,_,rfl⟩:=List.mem_map.1 hu;rfl
theorem bO (xs:List Nat):ax (iv xs)=[]:=ai _
theorem Bt:∀ n:Nat,ln n [.val (.int .i64 0)]=iv (List.replicate n 0)
 | 0=>rfl
 | n + 1=>by rw [ln,Bt n,List.replicate_succ];rfl
theorem iv_peek {xs:List Nat} {spare:List AV} {j x o:Nat} (h:xs[j]? =some x) (ho:o=j):∀ i u,[AV.val (.int .i64 (x:Int))][i]? =some u->(iv xs++spare)[o + i]? =some u:=by
 subst ho
 intro i u hu
 cases i with
 | zero=>
   cases hu
   have hl:=(List.getElem?_eq_some_iff.1 (SK h)).1
   rw [Nat.add_zero,List.getElem?_append_left hl,SK h]
 | succ i=>cases hu
theorem vh {xs:List Nat} {j x o:Nat} (h:xs[j]? =some x) (ho:o=j):∀ i u,[AV.val (.int .i64 (x:Int))][i]? =some u->(iv xs)[o + i]? =some u:=by
 have:=iv_peek (spare:=[]) h ho
 simpa using this
theorem Aa {xs:List Nat} {j x o:Nat} (h:j < xs.length) (ho:o=j):(iv xs).take o++([AV.val (.int .i64 (x:Int))]++(iv xs).drop (o + 1))=iv (xs.set j x):=by
 subst ho
 have:iv (xs.set o x)=(iv xs).set o (.val (.int .i64 (x:Int))):=by simp [iv,<-ints_set,List.map_set]
 rw [this,List.set_eq_take_append_cons_drop,if_pos (by rw [cB];exact h)]
 rfl
theorem nt {C:Cx} {β:Nat->Nat} {w:World} {i n c:Nat} {t:TypeId} {xs:List Nat} {spare:List AV} (h:mU C β w i t (iv xs++spare)) (hn:xs.length=n) (fE:n≤c) (fX:c≤maxLen):Rd w 1 (.slice (some ⟨β i,0,none⟩) n c) n (ints .i64 xs):=by
 refine ⟨_,c,rfl,fE,fX,by simp [hn],fun _=>⟨_,_,rfl,fun j u hj=> ?_⟩⟩
 have hl:=(List.getElem?_eq_some_iff.1 hj).1
 refine h.cls.cell ?_
 rw [Nat.zero_add]
 simp only [List.map_append,List.getElem?_toArray]
 rw [List.getElem?_append_left (by simpa [iv] using hl)]
 unfold iv
 rw [ah]
 exact hj
def fG (w:World) (B:Nat) (v:Value) (n:Nat) (xs:List Nat):Prop:=
 xs.length=n/\((v=.slice none 0 0/\n=0)\/∃ b c spare,v=.slice (some ⟨b,0,none⟩) n c/\B≤b/\bg w b 3 (ints .i64 xs++spare).toArray/\n≤c/\c≤maxLen/\n + spare.length=c/\spare.all aV=true)
theorem fG.own {w:World} {B:Nat} {v:Value} {n:Nat} {xs:List Nat} (h:fG w B v n xs):w.ownsRow B 3 1 v n (ints .i64 xs):=by
 obtain ⟨hn,⟨rfl,rfl⟩ | ⟨b,c,spare,rfl,hB,hc,h1,h2,h3,_⟩⟩:=h
 ·rw [List.eq_nil_of_length_eq_zero hn];exact World.ownsRow_nil _ _ _ _
 ·refine ⟨by simp [hn],.inr ⟨b,c,_,rfl,hB,hc,h1,h2,by simp [hn,h3],?_⟩⟩
  rw [List.take_append_of_le_length (by simp [hn]),List.take_of_length_le (by simp [hn])]
theorem fG.new {C:Cx} {w:World} {B:Nat} {v:Value} {n:Nat} {xs:List Nat} (h:fG w B v n xs):Sj C 3 1 B w v n (ints .i64 xs):=by
 obtain ⟨hn,⟨rfl,rfl⟩ | ⟨b,c,spare,rfl,hB,hc,h1,h2,h3,h4⟩⟩:=h
 ·exact .inl ⟨rfl,rfl,by rw [List.eq_nil_of_length_eq_zero hn];rfl⟩
 ·exact .inr ⟨b,c,spare,rfl,hB,hc,Nc xs,h4,h1,by simpa [maxLen] using h2,by simp;omega⟩
theorem fG.nil (w:World) (B:Nat):fG w B (.slice none 0 0) 0 []:=⟨rfl,.inl ⟨rfl,rfl⟩⟩
theorem rz {C:Cx} {β:Nat->Nat} {w:World} {i n m c:Nat} {xs:List Nat} {spare:List AV} (h:mU C β w i 3 (iv xs++spare)) (hn:xs.length=n) (hm:m≤n) (fE:n≤c) (fX:c≤maxLen) (hl:xs.length + spare.length=c) (hnw:∀ i g,C.Cu i g->C.w0.heap.size≤g:=by exact fun _ _ h=>h):
  fG w C.w0.heap.size (.slice (some ⟨β i,0,none⟩) m c) m (xs.take m):=by
 refine ⟨by rw [List.length_take];omega,.inr ⟨β i,c,ints .i64 (xs.drop m)++spare.map (AV.leaf β),rfl,hnw _ _ h.new,?_,by omega,fX,by simp;omega,?_⟩⟩
 ·have:=h.cls
  rw [List.map_append] at this
  unfold iv at this
  rw [ah] at this
  rw [<-List.append_assoc,<-jj,List.take_append_drop]
  exact this
 ·have hk:=h.ok
  rw [List.all_append,Bool.and_eq_true] at hk
  rw [List.all_append,Nc,du hk.2];rfl
theorem df {C:Cx} {β:Nat->Nat} {w:World} {i:Nat} {t:TypeId} {cs news rest:List AV} (h:mU C β w i t cs) (e:cs=news++rest):∀ j u,(news.map (AV.leaf β))[j]? =some u->w.cell? ⟨β i,0 + j,none⟩=some u:=by
 intro j u hj
 have hl:=(List.getElem?_eq_some_iff.1 hj).1
 refine h.cls.cell ?_
 rw [e,Nat.zero_add,List.map_append]
 simp only [List.getElem?_toArray]
 rw [List.getElem?_append_left hl]
 exact hj
theorem cL {cs:List AV} (h:ax cs=[]) (i:Nat) (ρ:AV->Value):cs.map (AV.ug i ρ)=cs:=by
 induction cs with
 | nil=>rfl
 | cons x r ih=>
   rw [ax,List.append_eq_nil_iff] at h
   rw [List.map_cons,ih h.2]
   have:x.ug i ρ=x:=by unfold AV.ug;rw [h.1];rfl
   rw [this]
theorem SL (i:Nat) (ρ:AV->Value) (xs:List Nat):(iv xs).map (AV.ug i ρ)=iv xs:=cL (bO xs) i ρ
theorem Ab {xs:List Nat} {m n:Nat} (h:halves (hval xs)=xs.take m) (hm:m≤n) (hn:xs.length=n):m=(halves (hval xs)).length:=by rw [h,List.length_take];omega
end
set_option maxRecDepth 4000
section
open Go.RowKit
attribute [local irreducible] aC VS
theorem lF {w:World} {b off k:Nat} {u:Value} {z:Int} (hz:z=(k:Int)) (h:w.cell? ⟨b,off + k,none⟩=some u):∀ j v,[u][j]? =some v->w.cell? ((⟨b,off + z.toNat * 1,none⟩:Addr).add j)=some v:=by
 subst hz
 intro j v hj
 rw [Addr.add_mid,Int.toNat_natCast,Nat.mul_one]
 cases j with
 | zero=>cases hj;exact h
 | succ j=>cases hj
theorem PD {i k:Nat} {os xs ys:List Nat} {x:Nat} (hx:xs[i]? =some x) (hk:ys.length≤k) (h:hval os + 65536 ^ (i + k) * 0=hval (xs.take i) * hval ys + 65536 ^ i * (x * hval (ys.take k))):hval os=hval (xs.take (i + 1)) * hval ys:=by
 have e:hval (xs.take (i + 1))=hval (xs.take i) + 65536 ^ i * x:=by
  rw [bQ hx,mf,List.length_take,Nat.min_eq_left (by have:=(List.getElem?_eq_some_iff.1 hx).1;omega)]
 rw [Nat.mul_zero,Nat.add_zero,List.take_of_length_le hk] at h
 rw [e,Nat.add_mul,h,Nat.mul_assoc]
theorem Lc {i k n m c:Nat} {os xs ys:List Nat} {x:Nat} (hxh:ik xs) (hyh:ik ys) (hx:xs[i]? =some x) (hn:xs.length=n) (hm:ys.length=m) (hk:m≤k) (hc:0 < c) (h:hval os + 65536 ^ (i + k) * c=hval (xs.take i) * hval ys + 65536 ^ i * (x * hval (ys.take k))):i + k < n + m + 1:=by
 have hi:=(List.getElem?_eq_some_iff.1 hx).1
 have e:hval (xs.take (i + 1))=hval (xs.take i) + 65536 ^ i * x:=by
  rw [bQ hx,mf,List.length_take,Nat.min_eq_left ab]
 have e3:ys.take k=ys:=List.take_of_length_le ab
 have e2:hval os + 65536 ^ (i + k) * c=hval (xs.take (i + 1)) * hval ys:=by
  rw [e,Nat.add_mul,h,e3,Nat.mul_assoc]
 have b1:hval (xs.take (i + 1)) < 65536 ^ (i + 1):=by
  have:=uY (xs:=xs.take (i + 1)) (eO.take hxh _)
  rwa [List.length_take,Nat.min_eq_left ab] at this
 have b2:hval ys < 65536 ^ m:=by have:=uY hyh;rwa [hm] at this
 have b3:hval (xs.take (i + 1)) * hval ys < 65536 ^ (i + 1 + m):=by
  rw [Nat.pow_add];exact Nat.mul_lt_mul'' b1 b2
 have b4:65536 ^ (i + k)≤65536 ^ (i + k) * c:=Nat.le_mul_of_pos_right _ hc
 have:65536 ^ (i + k) < 65536 ^ (i + 1 + m):=by omega
 have:=(Nat.pow_lt_pow_iff_right (show 1 < 65536 by omega)).1 this
 omega
theorem Ld {x y o c:Nat} (hx:x < 65536) (hy:y < 65536) (ho:o < 65536) (hc:c < 65536):x * y + o + c < 4294967296:=by
 have h1:x * y≤65535 * 65535:=Nat.mul_le_mul ab ab
 omega
theorem cd {P:Prop} (h:P:=by (repeat first|exact trivial|refine ⟨rfl,?_⟩)):P:=h
theorem dw {A B:Prop} (h:A/\B:=by constructor <;> omega):A/\B:=h
theorem xS (va vb:Value) (n m:Nat) (xs ys:List Nat) (w:World) (hr:Rd w 1 va n (ints .i64 xs)) (hs:Rd w 1 vb m (ints .i64 ys)) (hx:ik xs) (hy:ik ys) (hn:n≤2147483656) (hm:m≤2147483656):
  Calls Tryz.prog 100 #[va,vb] w fun e w'=>∃ v',e=.returned v'/\fG w' w.heap.size v' (halves (hval xs * hval ys)).length (halves (hval xs * hval ys))/\aL w w':=by
 obtain ⟨p,c,rfl,fE,fX,fA⟩:=hr.i64
 obtain ⟨q,d,rfl,OK,JX,kD⟩:=hs.i64
 obtain ⟨N,hN⟩:∃ N,N=n + m + 1:=⟨_,rfl⟩
 have hwN:IntKind.i64.wrap (IntKind.i64.wrap ((n:Int) + (m:Int)) + 1)=(N:Int):=by
  rw [IntWalk.i64_in ((n:Int) + (m:Int)) ab,IntWalk.i64_in _ ab];omega
 refine ag (C:=bP Tryz.prog w _) (args:=[_,_]) Tryz.func100 rfl Tryz.ntmps100 (bu rfl) ?_
 refine aa ?_
 refine VO.fix 15 rfl (congrArg (fun z=>AV.val (.int .i64 z)) hwN) ?_
 refine VO.cond rfl ⟨rfl,by omega,by show (N:Int) * (24 * 1)≤_;omega⟩ (VO.dI 16 rfl (Bt _) (wV rfl ?_))
 rw [Int.toNat_natCast]
 refine aa ?_
 refine VS.loop (J:=fun ms L M w'=>∃ (i:Nat) (os:List Nat),i≤n/\ms=n - i/\L=[(0,.val (.slice p n c)),(1,.val (.slice q m d)),(5,.row 16 0 N N),(6,.val (.int .i64 (i:Int)))]/\M=[(16,(3,iv os))]/\
  os.length=N/\ik os/\hval os=hval (xs.take i) * hval ys) n ⟨_,_,?_,?_,?_,?_,⟨0,List.replicate N 0,by omega,by omega,rfl,rfl,by simp,eO.replicate ab _,by rw [List.take_zero];show val 65536 _=val 65536 [] * _;rw [iZ,val_nil,Nat.zero_mul]⟩⟩ ?_
 ·exact cd
 ·exact cd
 ·rfl
 ·exact ⟨.none (bO _),trivial⟩
 rintro ms L M w' ⟨i,os,hi,rfl,rfl,rfl,hol,hoh,hov⟩
 refine aa ?_
 by_cases rT:i < n
 ·refine VS.aP rfl (decide_eq_true (Int.ofNat_lt.2 rT)) ?_
  refine aa ?_
  obtain ⟨b1,o1,x,rfl,aI,ig,ss⟩:=hr.cellAt rT
  have lW:=hx.at ig
  refine VS.loop (J:=fun ms L M w'=>∃ (k c':Nat) (os':List Nat),ms=N - (i + k)/\L=[(0,.val (.slice (some ⟨b1,o1,none⟩) n c)),(1,.val (.slice q m d)),(5,.row 16 0 N N),(6,.val (.int .i64 (i:Int))),(7,.val (.int .i64 (c':Int))),(8,.val (.int .i64 (k:Int)))]/\M=[(16,(3,iv os'))]/\
   os'.length=N/\ik os'/\c' < 65536/\k≤N/\hval os' + 65536 ^ (i + k) * c'=hval (xs.take i) * hval ys + 65536 ^ i * (x * hval (ys.take k))) (N - i) ⟨_,_,?_,?_,?_,?_,⟨0,0,os,by omega,rfl,rfl,hol,hoh,by omega,by omega,by rw [List.take_zero,Nat.mul_zero,hov];show _=_ + 65536 ^ i * (x * 0);simp⟩⟩ ?_
  ·exact cd
  ·exact cd
  ·rfl
  ·exact ⟨.none (bO _),trivial⟩
  rintro ms L M w'' ⟨k,c',os',rfl,rfl,rfl,hol',hoh',hc',hkN,hv⟩
  refine aa ?_
  have step:∀ (hik:i + k < N),True:=fun _=>trivial
  by_cases hgo:k < m\/0 < c'
  ·have hik:i + k < N:=by
    rcases Nat.lt_or_ge k m with e | e
    ·omega
    ·rw [hN];exact Lc hx hy ig fA kD e ab hv
   obtain ⟨o,ho⟩:∃ o,os'[i + k]? =some o:=⟨_,List.getElem?_eq_getElem ab⟩
   have ho4:=hoh'.at ho
   have OT:IntKind.i64.wrap ((i:Int) + (k:Int))=((i + k:Nat):Int):=by rw [IntWalk.i64_in _ ab];omega
   have hwk1:IntKind.i64.wrap ((k:Int) + 1)=((k + 1:Nat):Int):=by rw [IntWalk.i64_in _ ab];omega
   have hwoc:IntKind.i64.wrap ((o:Int) + (c':Int))=((o + c':Nat):Int):=by rw [IntWalk.i64_in _ ab];omega
   by_cases Km:k < m
   ·obtain ⟨b2,o2,y,rfl,ba,qd,GN⟩:=hs.cellAt Km
    have Di:=hy.at qd
    have rV:=Ld lW Di ho4 hc'
    obtain ⟨s,hsd⟩:∃ s,s=x * y + o + c':=⟨_,rfl⟩
    have Mt:(x:Int) * (y:Int)=((x * y:Nat):Int):=by simp
    have hws:IntKind.i64.wrap (IntKind.i64.wrap ((o:Int) + (c':Int)) + IntKind.i64.wrap ((x:Int) * (y:Int)))=(s:Int):=by
     rw [hwoc,Mt,IntWalk.i64_in ((x * y:Nat):Int) ab,IntWalk.i64_in _ ab];omega
    have hst:=vg ho hsd hv
    have hyt:hval (ys.take (k + 1))=hval (ys.take k) + 65536 ^ k * y:=by
     rw [bQ qd,mf,List.length_take,Nat.min_eq_left (by have:=(List.getElem?_eq_some_iff.1 qd).1;omega)]
    rw [<-hyt] at hst
    have hwc:IntKind.i64.wrap ((s:Int).tdiv 65536)=((s / 65536:Nat):Int):=by
     rw [Int.tdiv_eq_ediv_of_nonneg ab,IntWalk.i64_in _ ab];simp
    have hwm:(s:Int).tmod 65536=((s % 65536:Nat):Int):=by rw [Int.tmod_eq_emod_of_nonneg ab];simp
    refine VO.fix 27 rfl (congrArg (fun b=>AV.val (.bool b)) (decide_eq_true (Int.ofNat_lt.2 Km))) ?_
    refine aa ?_
    refine VO.fix 36 rfl (congrArg (fun z=>AV.val (.int .i64 z)) OT) ?_
    refine VO.cond rfl dw (wV rfl ?_)
    refine VO.cW rfl [.val (.int .i64 (o:Int))] rfl (vh ho (by rw [Int.toNat_natCast];omega)) (wV rfl ?_)
    refine aa ?_
    refine VS.aP rfl (decide_eq_true (Int.ofNat_lt.2 Km)) ?_
    refine aa ?_
    refine VO.cond rfl dw (wV rfl ?_)
    refine VO.read rfl [.int .i64 (x:Int)] rfl (lF rfl ss) (wV rfl ?_)
    refine VO.cond rfl dw (wV rfl ?_)
    refine VO.read rfl [.int .i64 (y:Int)] rfl (lF rfl GN) (wV rfl ?_)
    refine aa ?_
    refine VO.fix 59 rfl (congrArg (fun z=>AV.val (.int .i64 z)) OT) ?_
    refine VO.fix 61 rfl (congrArg (fun z=>AV.val (.int .i64 z)) (by rw [hws,hwm])) ?_
    refine VO.cond rfl dw (wV rfl ?_)
    refine VO.cond rfl (by show 0 + ((i + k:Nat):Int).toNat * 1 + 1≤_;rw [Int.toNat_natCast,cB];omega) (wV rfl ?_)
    refine aa ?_
    refine VS.back (N - (i + (k + 1))) ab ⟨_,_,?_,?_,?_,?_,⟨k + 1,s / 65536,os'.set (i + k) (s % 65536),rfl,rfl,rfl,by simp [hol'],hoh'.set (Nat.mod_lt _ ab) _,by omega,by omega,hst⟩⟩
    ·refine ⟨rfl,rfl,rfl,rfl,congrArg (fun z=>some (AV.val (.int .i64 z))) (by rw [hws,hwc]),congrArg (fun z=>some (AV.val (.int .i64 z))) hwk1,trivial⟩
    ·exact ⟨congrArg (fun l=>some (_,l)) (Aa ab (by rw [Int.toNat_natCast];omega)),trivial⟩
    ·rfl
    ·exact ⟨.none (bO _),trivial⟩
   ·have hc0:0 < c':=by omega
    obtain ⟨s,hsd⟩:∃ s,s=x * 0 + o + c':=⟨_,rfl⟩
    have hws:IntKind.i64.wrap ((o:Int) + (c':Int))=(s:Int):=by rw [hwoc];omega
    have hst:=vg ho hsd hv
    have hyt:hval (ys.take k) + 65536 ^ k * 0=hval (ys.take (k + 1)):=by rw [List.take_of_length_le ab,List.take_of_length_le ab];rfl
    rw [hyt] at hst
    have hwc:IntKind.i64.wrap ((s:Int).tdiv 65536)=((s / 65536:Nat):Int):=by
     rw [Int.tdiv_eq_ediv_of_nonneg ab,IntWalk.i64_in _ ab];simp
    have hwm:(s:Int).tmod 65536=((s % 65536:Nat):Int):=by rw [Int.tmod_eq_emod_of_nonneg ab];simp
    refine VO.fix 27 rfl (congrArg (fun b=>AV.val (.bool b)) (decide_eq_false (fun e=>Km (Int.ofNat_lt.1 e)))) ?_
    refine aa ?_
    refine VS.aP rfl (decide_eq_true ab) ?_
    refine aa ?_
    refine VO.fix 36 rfl (congrArg (fun z=>AV.val (.int .i64 z)) OT) ?_
    refine VO.cond rfl dw (wV rfl ?_)
    refine VO.cW rfl [.val (.int .i64 (o:Int))] rfl (vh ho (by rw [Int.toNat_natCast];omega)) (wV rfl ?_)
    refine aa ?_
    refine VS.aQ rfl (decide_eq_false (fun e=>Km (Int.ofNat_lt.1 e))) ?_
    refine aa ?_
    refine VO.fix 59 rfl (congrArg (fun z=>AV.val (.int .i64 z)) OT) ?_
    refine VO.fix 61 rfl (congrArg (fun z=>AV.val (.int .i64 z)) (by rw [hws,hwm])) ?_
    refine VO.cond rfl dw (wV rfl ?_)
    refine VO.cond rfl (by show 0 + ((i + k:Nat):Int).toNat * 1 + 1≤_;rw [Int.toNat_natCast,cB];omega) (wV rfl ?_)
    refine aa ?_
    refine VS.back (N - (i + (k + 1))) ab ⟨_,_,?_,?_,?_,?_,⟨k + 1,s / 65536,os'.set (i + k) (s % 65536),rfl,rfl,rfl,by simp [hol'],hoh'.set (Nat.mod_lt _ ab) _,by omega,by omega,hst⟩⟩
    ·refine ⟨rfl,rfl,rfl,rfl,congrArg (fun z=>some (AV.val (.int .i64 z))) (by rw [hws,hwc]),congrArg (fun z=>some (AV.val (.int .i64 z))) hwk1,trivial⟩
    ·exact ⟨congrArg (fun l=>some (_,l)) (Aa ab (by rw [Int.toNat_natCast];omega)),trivial⟩
    ·rfl
    ·exact ⟨.none (bO _),trivial⟩
  ·have Km:¬ (k < m):=by omega
   have hc0:c'=0:=by omega
   subst hc0
   refine VO.fix 27 rfl (congrArg (fun b=>AV.val (.bool b)) (decide_eq_false (fun e=>Km (Int.ofNat_lt.1 e)))) ?_
   refine aa ?_
   have CN:IntKind.i64.wrap ((i:Int) + 1)=((i + 1:Nat):Int):=by rw [IntWalk.i64_in _ ab];omega
   refine VS.back (n - (i + 1)) ab ⟨_,_,?_,?_,?_,?_,⟨i + 1,os',by omega,rfl,rfl,rfl,hol',hoh',PD ig ab hv⟩⟩
   ·exact ⟨rfl,rfl,rfl,congrArg (fun z=>some (AV.val (.int .i64 z))) CN,trivial⟩
   ·exact cd
   ·rfl
   ·exact ⟨.none (bO _),trivial⟩
 ·obtain rfl:i=n:=by omega
  refine VS.aQ rfl (decide_eq_false (fun e=>rT (Int.ofNat_lt.1 e))) ?_
  refine aa ?_
  rw [List.take_of_length_le ab] at hov
  refine VO.DL rfl (fk Tryz.func125) (fun w1 β k1 b1 ho=>(jn (some ⟨β 16,0,none⟩) N N os w1 (nt (spare:=[]) (by rw [List.append_nil];exact ho.own 16 (.base (List.mem_singleton.2 rfl)) _ _ rfl) hol (Nat.le_refl _) (by simp only [maxLen];omega)) hoh).mono ?_)
  rintro e w2 ⟨⟨mm,Dp,rfl,hcut⟩,rfl⟩
  refine ⟨.row 16 0 mm N,rfl,fun i hi=>⟨hi,by cases List.mem_singleton.1 hi;exact Option.some_ne_none _⟩,aL.refl _,fun k2 _ b2=>wV rfl ?_⟩
  refine aa ?_
  refine VS.lp (cK _ _) rfl (fun wz β kz bz he=> ?_)
  have sM:=Ab hcut Dp hol
  rw [hov] at hcut sM
  refine ⟨_,rfl,?_,bz⟩
  have:=rz (spare:=[]) (by rw [List.append_nil];exact he.own 16 _ _ rfl) hol Dp (Nat.le_refl _) (by simp only [maxLen];omega) (by simpa using hol)
  rw [<-hcut] at this
  show fG wz w.heap.size (.slice (some ⟨β 16,0,none⟩) mm N) _ _
  rw [<-sM]
  exact this
set_option maxRecDepth 4000
theorem sR {A B:Nat} (h:(halves A).length < (halves B).length):A < B:=by
 rcases Nat.lt_or_ge A B with e | e
 ·exact e
 ·have:(halves B).length≤(halves A).length:=dY ab e
  omega
theorem sT {A B k a b:Nat} (ha:(halves A)[k]? =some a) (hb:(halves B)[k]? =some b) (zA:a < b) (hh:(halves A).drop (k + 1)=(halves B).drop (k + 1)):A < B:=by
 have:=mo (B:=65536) (bT A) ha hb zA hh
 have e1:val 65536 (halves A)=A:=bn A
 have e2:val 65536 (halves B)=B:=bn B
 omega
theorem PE {xs ys:List Nat} {k x:Nat} (hx:xs[k]? =some x) (hy:ys[k]? =some x) (h:xs.drop (k + 1)=ys.drop (k + 1)):xs.drop k=ys.drop k:=by
 obtain ⟨l1,e1⟩:=List.getElem?_eq_some_iff.1 hx
 obtain ⟨l2,e2⟩:=List.getElem?_eq_some_iff.1 hy
 rw [List.drop_eq_getElem_cons l1,List.drop_eq_getElem_cons l2,e1,e2,h]
theorem Le (va vb:Value) (n m A B:Nat) (w:World) (hr:Rd w 1 va n (ints .i64 (halves A))) (hs:Rd w 1 vb m (ints .i64 (halves B))):
  Calls Tryz.prog 148 #[va,vb] w fun e w'=>e=.returned (.bool (decide (A < B)))/\aL w w':=by
 obtain ⟨p,c,rfl,fE,fX,fA⟩:=hr.i64
 obtain ⟨q,d,rfl,OK,JX,kD⟩:=hs.i64
 refine ag (C:=bP Tryz.prog w _) (args:=[_,_]) Tryz.func148 rfl Tryz.ntmps148 (bu rfl) ?_
 refine aa ?_
 by_cases zW:n=m
 ·subst zW
  refine VS.aQ rfl cw ?_
  refine aa ?_
  have hw0:IntKind.i64.wrap ((n:Int) - 1)=(n:Int) - 1:=IntWalk.i64_in _ ab
  refine VS.loop (J:=fun ms L M w'=>∃ (k:Nat),k≤n/\ms=k/\L=[(0,.val (.slice p n c)),(1,.val (.slice q n d)),(5,.val (.int .i64 ((k:Int) - 1)))]/\M=[]/\(halves A).drop k=(halves B).drop k) n ⟨_,_,?_,?_,?_,?_,⟨n,Nat.le_refl _,rfl,rfl,rfl,by rw [List.drop_of_length_le ab,List.drop_of_length_le ab]⟩⟩ ?_
  ·exact ⟨rfl,rfl,congrArg (fun z=>some (AV.val (.int .i64 z))) hw0,trivial⟩
  ·exact cd
  ·rfl
  ·exact trivial
  rintro ms L M w' ⟨k,hk,hms,rfl,rfl,hd⟩
  refine aa ?_
  by_cases AA:k=0
  ·subst AA
   refine VS.aQ rfl (decide_eq_false ab) ?_
   refine aa ?_
   refine aR ?_;intro wz kz bz
   have:A=B:=KV (by simpa using hd)
   exact ⟨by rw [this,decide_eq_false (Nat.lt_irrefl _)];rfl,bz⟩
  ·obtain ⟨j,rfl⟩:∃ j,k=j + 1:=⟨k - 1,by omega⟩
   have hj:((j + 1:Nat):Int) - 1=(j:Int):=by omega
   refine VS.aP rfl (decide_eq_true ab) ?_
   refine VS.fix 5 rfl (congrArg (fun z=>AV.val (.int .i64 z)) hj) ?_
   refine aa ?_
   obtain ⟨b1,o1,x,rfl,aI,ig,ss⟩:=hr.cellAt (show j < n by omega)
   obtain ⟨b2,o2,y,rfl,ba,qd,GN⟩:=hs.cellAt (show j < n by omega)
   refine VO.cond rfl dw (wV rfl ?_)
   refine VO.read rfl [.int .i64 (x:Int)] rfl (lF rfl ss) (wV rfl ?_)
   refine VO.cond rfl dw (wV rfl ?_)
   refine VO.read rfl [.int .i64 (y:Int)] rfl (lF rfl GN) (wV rfl ?_)
   refine aa ?_
   by_cases Mt:x=y
   ·subst Mt
    refine VS.aQ rfl cw ?_
    refine aa ?_
    have zH:IntKind.i64.wrap ((j:Int) - 1)=(j:Int) - 1:=IntWalk.i64_in _ ab
    refine VS.back j ab ⟨_,_,?_,?_,?_,?_,⟨j,by omega,rfl,rfl,rfl,PE ig qd hd⟩⟩
    ·exact ⟨rfl,rfl,congrArg (fun z=>some (AV.val (.int .i64 z))) zH,trivial⟩
    ·exact cd
    ·rfl
    ·exact trivial
   ·refine VS.aP rfl (by rw [bne_iff_ne];omega) ?_
    refine aa ?_
    refine VO.cond rfl dw (wV rfl ?_)
    refine VO.read rfl [.int .i64 (x:Int)] rfl (lF rfl ss) (wV rfl ?_)
    refine VO.cond rfl dw (wV rfl ?_)
    refine VO.read rfl [.int .i64 (y:Int)] rfl (lF rfl GN) (wV rfl ?_)
    refine aa ?_
    refine aR ?_;intro wz kz bz
    refine ⟨?_,bz⟩
    rcases Nat.lt_or_gt_of_ne Mt with e | e
    ·rw [decide_eq_true (sT ig qd e hd)]
     exact congrArg (fun b=>Ending.returned (.bool b)) (decide_eq_true (Int.ofNat_lt.2 e))
    ·have:=sT qd ig e hd.symm
     have hAB:decide (A < B)=false:=decide_eq_false ab
     rw [hAB]
     exact congrArg (fun b=>Ending.returned (.bool b)) (decide_eq_false ab)
 ·refine VS.aP rfl (by rw [bne_iff_ne];omega) ?_
  refine aa ?_
  refine aR ?_;intro wz kz bz
  refine ⟨?_,bz⟩
  rcases Nat.lt_or_gt_of_ne zW with e | e
  ·rw [decide_eq_true (sR ab)]
   exact congrArg (fun b=>Ending.returned (.bool b)) (decide_eq_true (Int.ofNat_lt.2 e))
  ·have:=sR (A:=B) (B:=A) ab
   have hAB:decide (A < B)=false:=decide_eq_false ab
   rw [hAB]
   exact congrArg (fun b=>Ending.returned (.bool b)) (decide_eq_false ab)
theorem PF {ds us bs:List Nat} {i t br a b d qE:Nat} (hl:ds.length=i) (ha:us.getD i 0=a) (hb:bs.getD i 0=b) (hs:d + (t * b + br)=a + 65536 * qE)
  (h:hval ds + t * hval (bs.take i)=hval (us.take i) + 65536 ^ i * br):hval (ds++[d]) + t * hval (bs.take (i + 1))=hval (us.take (i + 1)) + 65536 ^ (i + 1) * qE:=by
 have e1:hval (us.take (i + 1))=hval (us.take i) + 65536 ^ i * a:=by rw [<-ha];exact cz _ _ _
 have e2:hval (bs.take (i + 1))=hval (bs.take i) + 65536 ^ i * b:=by rw [<-hb];exact cz _ _ _
 have e3:65536 ^ i * d + (65536 ^ i * (t * b) + 65536 ^ i * br)=65536 ^ i * a + 65536 ^ i * (65536 * qE):=by rw [<-Nat.mul_add,<-Nat.mul_add,hs,Nat.mul_add]
 have e4:t * (65536 ^ i * b)=65536 ^ i * (t * b):=Nat.mul_left_comm _ _ _
 rw [mf,hl,e1,e2,Nat.mul_add t,e4,Nat.pow_succ,Nat.mul_assoc]
 omega
theorem SN {ds us bs:List Nat} {n t br:Nat} (hh:ik ds) (hl:ds.length=n) (ha:us.length=n) (hle:t * hval bs≤hval us) (hb:t=0\/bs.length≤n)
  (h:hval ds + t * hval (bs.take n)=hval (us.take n) + 65536 ^ n * br):hval ds=hval us - t * hval bs:=by
 have e1:us.take n=us:=List.take_of_length_le ab
 have e2:t * hval (bs.take n)=t * hval bs:=by
  rcases hb with e | e
  ·rw [e,Nat.zero_mul,Nat.zero_mul]
  ·rw [List.take_of_length_le e]
 rw [e1,e2] at h
 have hlt:=uY hh
 rw [hl] at hlt
 have:br=0:=by
  rcases Nat.eq_zero_or_pos br with e | e
  ·exact e
  ·have:=Nat.le_mul_of_pos_right (65536 ^ n) e
   omega
 rw [this,Nat.mul_zero] at h
 omega
def RowAt (d:Nat) (xs:List Nat) (v:AV) (M:List (Nat×(TypeId×List AV))):Prop:=
 (xs=[]/\v=.val (.slice none 0 0)/\M=[])\/∃ cap spare,v=.row d 0 xs.length cap/\M=[(d,(3,iv xs++spare))]/\xs.length≤cap/\cap≤9223372036854775807/\xs.length + spare.length=cap/\spare.all aG=true/\ax spare=[]
theorem Bu (va vb:Value) (n m t A B:Nat) (w:World) (hr:Rd w 1 va n (ints .i64 (halves A))) (hs:Rd w 1 vb m (ints .i64 (halves B))) (ht:t < 65536) (hle:t * B≤A) (hn:n≤2147483656):
  Calls Tryz.prog 137 #[va,vb,.int .i64 (t:Int)] w fun e w'=>∃ v',e=.returned v'/\fG w' w.heap.size v' (halves (A - t * B)).length (halves (A - t * B))/\aL w w':=by
 obtain ⟨p,c,rfl,fE,fX,fA⟩:=hr.i64
 obtain ⟨q,d,rfl,OK,JX,kD⟩:=hs.i64
 refine ag (C:=bP Tryz.prog w _) (args:=[_,_,_]) Tryz.func137 rfl Tryz.ntmps137 (bu rfl) ?_
 refine aa ?_
 refine VS.loop (J:=fun ms L M w'=>∃ (i br:Nat) (ds:List Nat) (v:AV),i≤n/\ms=n - i/\L=[(0,.val (.slice p n c)),(1,.val (.slice q m d)),(2,.val (.int .i64 (t:Int))),(7,v),(8,.val (.int .i64 (br:Int))),(9,.val (.int .i64 (i:Int)))]/\
  RowAt 47 ds v M/\ds.length=i/\ik ds/\br≤t/\hval ds + t * hval ((halves B).take i)=hval ((halves A).take i) + 65536 ^ i * br) n ⟨_,_,?_,?_,?_,?_,⟨0,0,[],.val (.slice none 0 0),by omega,by omega,rfl,.inl ⟨rfl,rfl,rfl⟩,rfl,eO.nil _,by omega,by simp [hval,val]⟩⟩ ?_
 ·exact cd
 ·exact cd
 ·rfl
 ·exact trivial
 rintro ms L M w' ⟨i,br,ds,v,hi,rfl,rfl,ko,jR,hdh,hbr,hv⟩
 by_cases rT:i < n
 ·obtain ⟨b1,o1,x,rfl,aI,ig,ss⟩:=hr.cellAt rT
  have lW:=(bT A).at ig
  have hxg:(halves A).getD i 0=x:=by rw [List.getD_eq_getElem?_getD,ig];rfl
  obtain ⟨y,hyg⟩:∃ y,(halves B).getD i 0=y:=⟨_,rfl⟩
  have Di:y < 65536:=hyg▸mi (bT B) i
  have hty:t * y≤65535 * 65535:=Nat.mul_le_mul ab ab
  obtain ⟨X,hX⟩:∃ X:Int,X=(x:Int) - br - (t * y:Nat):=⟨_,rfl⟩
  obtain ⟨qE,pL⟩:∃ qE:Nat,(qE:Int)=(if X < 0 then (65535 - X) / 65536 else 0)/\qE≤t:=by
   by_cases h0:X < 0
   ·refine ⟨((65535 - X) / 65536).toNat,by rw [if_pos h0];omega,?_⟩
    have:t * y≤t * 65535:=Nat.mul_le_mul_left _ ab
    omega
   ·exact ⟨0,by rw [if_neg h0];rfl,by omega⟩
  obtain ⟨dg,QV⟩:∃ dg:Nat,(dg:Int)=X + 65536 * qE/\dg < 65536:=by
   refine ⟨(X + 65536 * qE).toNat,?_,?_⟩
   ·by_cases h0:X < 0
    ·rw [if_pos h0] at pL;omega
    ·omega
   ·by_cases h0:X < 0
    ·rw [if_pos h0] at pL;omega
    ·rw [if_neg h0] at pL;omega
  have hsum:dg + (t * y + br)=x + 65536 * qE:=by omega
  have hst:=PF jR hxg hyg hsum hv
  have zH:IntKind.i64.wrap ((x:Int) - (br:Int))=(x:Int) - br:=IntWalk.i64_in _ ab
  have CN:IntKind.i64.wrap ((i:Int) + 1)=((i + 1:Nat):Int):=by rw [IntWalk.i64_in _ ab];omega
  have tp:t * y≤t * 65535:=Nat.mul_le_mul_left _ ab
  rcases ko with ⟨rfl,rfl,rfl⟩ | ⟨cap,spare,rfl,rfl,h1,h2,h3,h4,h5⟩
  all_goals refine aa ?_
  ·by_cases him:i < m
   ·obtain ⟨b2,o2,y',rfl,ba,qd,GN⟩:=hs.cellAt him
    obtain rfl:y'=y:=by rw [List.getD_eq_getElem?_getD,qd] at hyg;exact hyg
    have hwX:IntKind.i64.wrap (IntKind.i64.wrap ((x:Int) - (br:Int)) - IntKind.i64.wrap ((t:Int) * (y':Int)))=X:=by
     rw [zH,show (t:Int) * (y':Int)=((t * y':Nat):Int) by simp,IntWalk.i64_in ((t * y':Nat):Int) ab,IntWalk.i64_in _ ab];omega
    refine VS.aP rfl (decide_eq_true (Int.ofNat_lt.2 rT)) ?_
    refine aa ?_
    refine VO.cond rfl dw (wV rfl ?_)
    refine VO.read rfl [.int .i64 (x:Int)] rfl (lF rfl ss) (wV rfl ?_)
    refine aa ?_
    refine VS.aP rfl (decide_eq_true (Int.ofNat_lt.2 him)) ?_
    refine aa ?_
    refine VO.cond rfl dw (wV rfl ?_)
    refine VO.read rfl [.int .i64 (y':Int)] rfl (lF rfl GN) (wV rfl ?_)
    refine VO.fix 10 rfl (congrArg (fun z=>AV.val (.int .i64 z)) hwX) ?_
    refine aa ?_
    by_cases h0:X < 0
    ·rw [if_pos h0] at pL
     have SP:IntKind.i64.wrap ((IntKind.i64.wrap (65535 - X)).tdiv 65536)=(qE:Int):=by
      rw [IntWalk.i64_in (65535 - X) ab,Int.tdiv_eq_ediv_of_nonneg ab,IntWalk.i64_in _ ab,pL.1]
     have hwd:IntKind.i64.wrap (X + IntKind.i64.wrap (65536 * (qE:Int)))=(dg:Int):=by
      rw [IntWalk.i64_in (65536 * (qE:Int)) ab,IntWalk.i64_in _ ab,QV.1]
     refine VS.aP rfl (decide_eq_true h0) ?_
     refine aa ?_
     ·refine VO.dI 46 rfl (congrArg (fun z=>[AV.val (.int .i64 z)]) (show _=(dg:Int) by rw [SP,hwd])) ?_
      refine VO.app (cK _ _) (t:=156) (e:=3) (sz:=1) (n:=0) (c:=0) (mm:=1) (known:=[]) (spare:=[]) (news:=iv [dg]) (dst:=47) (del:=none) rfl rfl rfl rfl rfl rfl rfl rfl (bu rfl) rfl (.inl ⟨rfl,rfl,rfl,rfl,rfl,rfl,by omega⟩) (.inl rfl) rfl rfl ab ab ⟨rfl,rfl,bO _⟩ ⟨rfl,rfl,oK _⟩ rfl ab
       (fun w1 β k1 b1 ho=>⟨_,_,rfl,.inr ⟨β 46,0,rfl,df (rest:=[]) (ho.own 46 (.base (List.mem_append_right _ (List.mem_singleton.2 rfl))) _ _ rfl) rfl⟩⟩)
       (fun w2 cap' aj ρ k2 b2 fJ jS iB hlen fI gD=>wV rfl ?_)
      refine aa ?_
      refine VS.back (n - (i + 1)) ab ⟨_,_,?_,?_,?_,?_,⟨i + 1,qE,[dg],.row 47 0 ([dg]).length cap',by omega,rfl,rfl,.inr ⟨cap',aj,rfl,rfl,by simp;omega,iB,?_,fI,gD⟩,by simp at jR ⊢;omega,eO.cons QV.2 (eO.nil _),pL.2,hst⟩⟩
      ·exact ⟨rfl,rfl,rfl,rfl,congrArg (fun z=>some (AV.val (.int .i64 z))) SP,congrArg (fun z=>some (AV.val (.int .i64 z))) CN,trivial⟩
      ·exact ⟨rfl,trivial⟩
      ·rfl
      ·exact ⟨.append (.none (bO _)) (.none gD),trivial⟩
      ·simpa [cB,Nat.add_assoc] using hlen
    ·rw [if_neg h0] at pL
     have ou:qE=0:=by omega
     subst ou
     refine VS.aQ rfl (decide_eq_false h0) ?_
     refine aa ?_
     ·refine VO.dI 46 rfl (congrArg (fun z=>[AV.val (.int .i64 z)]) (show X=(dg:Int) by omega)) ?_
      refine VO.app (cK _ _) (t:=156) (e:=3) (sz:=1) (n:=0) (c:=0) (mm:=1) (known:=[]) (spare:=[]) (news:=iv [dg]) (dst:=47) (del:=none) rfl rfl rfl rfl rfl rfl rfl rfl (bu rfl) rfl (.inl ⟨rfl,rfl,rfl,rfl,rfl,rfl,by omega⟩) (.inl rfl) rfl rfl ab ab ⟨rfl,rfl,bO _⟩ ⟨rfl,rfl,oK _⟩ rfl ab
       (fun w1 β k1 b1 ho=>⟨_,_,rfl,.inr ⟨β 46,0,rfl,df (rest:=[]) (ho.own 46 (.base (List.mem_append_right _ (List.mem_singleton.2 rfl))) _ _ rfl) rfl⟩⟩)
       (fun w2 cap' aj ρ k2 b2 fJ jS iB hlen fI gD=>wV rfl ?_)
      refine aa ?_
      refine VS.back (n - (i + 1)) ab ⟨_,_,?_,?_,?_,?_,⟨i + 1,0,[dg],.row 47 0 ([dg]).length cap',by omega,rfl,rfl,.inr ⟨cap',aj,rfl,rfl,by simp;omega,iB,?_,fI,gD⟩,by simp at jR ⊢;omega,eO.cons QV.2 (eO.nil _),Nat.zero_le _,hst⟩⟩
      ·exact ⟨rfl,rfl,rfl,rfl,rfl,congrArg (fun z=>some (AV.val (.int .i64 z))) CN,trivial⟩
      ·exact ⟨rfl,trivial⟩
      ·rfl
      ·exact ⟨.append (.none (bO _)) (.none gD),trivial⟩
      ·simpa [cB,Nat.add_assoc] using hlen
   ·have Oy:y=0:=by rw [jm ab] at hyg;omega
    have hwX:IntKind.i64.wrap ((x:Int) - (br:Int))=X:=by rw [zH,hX,Oy,Nat.mul_zero];omega
    refine VS.aP rfl (decide_eq_true (Int.ofNat_lt.2 rT)) ?_
    refine aa ?_
    refine VO.cond rfl dw (wV rfl ?_)
    refine VO.read rfl [.int .i64 (x:Int)] rfl (lF rfl ss) (wV rfl ?_)
    refine VO.fix 10 rfl (congrArg (fun z=>AV.val (.int .i64 z)) hwX) ?_
    refine aa ?_
    refine VS.aQ rfl (decide_eq_false (fun e=>him (Int.ofNat_lt.1 e))) ?_
    refine aa ?_
    by_cases h0:X < 0
    ·rw [if_pos h0] at pL
     have SP:IntKind.i64.wrap ((IntKind.i64.wrap (65535 - X)).tdiv 65536)=(qE:Int):=by
      rw [IntWalk.i64_in (65535 - X) ab,Int.tdiv_eq_ediv_of_nonneg ab,IntWalk.i64_in _ ab,pL.1]
     have hwd:IntKind.i64.wrap (X + IntKind.i64.wrap (65536 * (qE:Int)))=(dg:Int):=by
      rw [IntWalk.i64_in (65536 * (qE:Int)) ab,IntWalk.i64_in _ ab,QV.1]
     refine VS.aP rfl (decide_eq_true h0) ?_
     refine aa ?_
     ·refine VO.dI 46 rfl (congrArg (fun z=>[AV.val (.int .i64 z)]) (show _=(dg:Int) by rw [SP,hwd])) ?_
      refine VO.app (cK _ _) (t:=156) (e:=3) (sz:=1) (n:=0) (c:=0) (mm:=1) (known:=[]) (spare:=[]) (news:=iv [dg]) (dst:=47) (del:=none) rfl rfl rfl rfl rfl rfl rfl rfl (bu rfl) rfl (.inl ⟨rfl,rfl,rfl,rfl,rfl,rfl,by omega⟩) (.inl rfl) rfl rfl ab ab ⟨rfl,rfl,bO _⟩ ⟨rfl,rfl,oK _⟩ rfl ab
       (fun w1 β k1 b1 ho=>⟨_,_,rfl,.inr ⟨β 46,0,rfl,df (rest:=[]) (ho.own 46 (.base (List.mem_append_right _ (List.mem_singleton.2 rfl))) _ _ rfl) rfl⟩⟩)
       (fun w2 cap' aj ρ k2 b2 fJ jS iB hlen fI gD=>wV rfl ?_)
      refine aa ?_
      refine VS.back (n - (i + 1)) ab ⟨_,_,?_,?_,?_,?_,⟨i + 1,qE,[dg],.row 47 0 ([dg]).length cap',by omega,rfl,rfl,.inr ⟨cap',aj,rfl,rfl,by simp;omega,iB,?_,fI,gD⟩,by simp at jR ⊢;omega,eO.cons QV.2 (eO.nil _),pL.2,hst⟩⟩
      ·exact ⟨rfl,rfl,rfl,rfl,congrArg (fun z=>some (AV.val (.int .i64 z))) SP,congrArg (fun z=>some (AV.val (.int .i64 z))) CN,trivial⟩
      ·exact ⟨rfl,trivial⟩
      ·rfl
      ·exact ⟨.append (.none (bO _)) (.none gD),trivial⟩
      ·simpa [cB,Nat.add_assoc] using hlen
    ·rw [if_neg h0] at pL
     have ou:qE=0:=by omega
     subst ou
     refine VS.aQ rfl (decide_eq_false h0) ?_
     refine aa ?_
     ·refine VO.dI 46 rfl (congrArg (fun z=>[AV.val (.int .i64 z)]) (show X=(dg:Int) by omega)) ?_
      refine VO.app (cK _ _) (t:=156) (e:=3) (sz:=1) (n:=0) (c:=0) (mm:=1) (known:=[]) (spare:=[]) (news:=iv [dg]) (dst:=47) (del:=none) rfl rfl rfl rfl rfl rfl rfl rfl (bu rfl) rfl (.inl ⟨rfl,rfl,rfl,rfl,rfl,rfl,by omega⟩) (.inl rfl) rfl rfl ab ab ⟨rfl,rfl,bO _⟩ ⟨rfl,rfl,oK _⟩ rfl ab
       (fun w1 β k1 b1 ho=>⟨_,_,rfl,.inr ⟨β 46,0,rfl,df (rest:=[]) (ho.own 46 (.base (List.mem_append_right _ (List.mem_singleton.2 rfl))) _ _ rfl) rfl⟩⟩)
       (fun w2 cap' aj ρ k2 b2 fJ jS iB hlen fI gD=>wV rfl ?_)
      refine aa ?_
      refine VS.back (n - (i + 1)) ab ⟨_,_,?_,?_,?_,?_,⟨i + 1,0,[dg],.row 47 0 ([dg]).length cap',by omega,rfl,rfl,.inr ⟨cap',aj,rfl,rfl,by simp;omega,iB,?_,fI,gD⟩,by simp at jR ⊢;omega,eO.cons QV.2 (eO.nil _),Nat.zero_le _,hst⟩⟩
      ·exact ⟨rfl,rfl,rfl,rfl,rfl,congrArg (fun z=>some (AV.val (.int .i64 z))) CN,trivial⟩
      ·exact ⟨rfl,trivial⟩
      ·rfl
      ·exact ⟨.append (.none (bO _)) (.none gD),trivial⟩
      ·simpa [cB,Nat.add_assoc] using hlen
  ·by_cases him:i < m
   ·obtain ⟨b2,o2,y',rfl,ba,qd,GN⟩:=hs.cellAt him
    obtain rfl:y'=y:=by rw [List.getD_eq_getElem?_getD,qd] at hyg;exact hyg
    have hwX:IntKind.i64.wrap (IntKind.i64.wrap ((x:Int) - (br:Int)) - IntKind.i64.wrap ((t:Int) * (y':Int)))=X:=by
     rw [zH,show (t:Int) * (y':Int)=((t * y':Nat):Int) by simp,IntWalk.i64_in ((t * y':Nat):Int) ab,IntWalk.i64_in _ ab];omega
    refine VS.aP rfl (decide_eq_true (Int.ofNat_lt.2 rT)) ?_
    refine aa ?_
    refine VO.cond rfl dw (wV rfl ?_)
    refine VO.read rfl [.int .i64 (x:Int)] rfl (lF rfl ss) (wV rfl ?_)
    refine aa ?_
    refine VS.aP rfl (decide_eq_true (Int.ofNat_lt.2 him)) ?_
    refine aa ?_
    refine VO.cond rfl dw (wV rfl ?_)
    refine VO.read rfl [.int .i64 (y':Int)] rfl (lF rfl GN) (wV rfl ?_)
    refine VO.fix 10 rfl (congrArg (fun z=>AV.val (.int .i64 z)) hwX) ?_
    refine aa ?_
    by_cases h0:X < 0
    ·rw [if_pos h0] at pL
     have SP:IntKind.i64.wrap ((IntKind.i64.wrap (65535 - X)).tdiv 65536)=(qE:Int):=by
      rw [IntWalk.i64_in (65535 - X) ab,Int.tdiv_eq_ediv_of_nonneg ab,IntWalk.i64_in _ ab,pL.1]
     have hwd:IntKind.i64.wrap (X + IntKind.i64.wrap (65536 * (qE:Int)))=(dg:Int):=by
      rw [IntWalk.i64_in (65536 * (qE:Int)) ab,IntWalk.i64_in _ ab,QV.1]
     refine VS.aP rfl (decide_eq_true h0) ?_
     refine aa ?_
     ·refine VO.dI 46 rfl (congrArg (fun z=>[AV.val (.int .i64 z)]) (show _=(dg:Int) by rw [SP,hwd])) ?_
      refine VO.app (cK _ _) (t:=156) (e:=3) (sz:=1) (n:=ds.length) (c:=cap) (mm:=1) (known:=iv ds) (spare:=spare) (news:=iv [dg]) (dst:=47) (del:=some 47) rfl rfl rfl rfl rfl rfl rfl rfl (bu rfl) rfl (.inr ⟨47,rfl,rfl,rfl⟩) (.inr rfl) (by rw [cB];omega) (by rw [List.length_append,cB];omega) h1 h2 ⟨bO _,h5,bO _⟩ ⟨oK _,h4,oK _⟩ rfl ab
       (fun w1 β k1 b1 ho=>⟨_,_,rfl,.inr ⟨β 46,0,rfl,df (rest:=[]) (ho.own 46 (.base (List.mem_append_right _ (List.mem_singleton.2 rfl))) _ _ rfl) rfl⟩⟩)
       (fun w2 cap' aj ρ k2 b2 fJ jS iB hlen fI gD=>wV rfl ?_)
      refine aa ?_
      refine VS.back (n - (i + 1)) ab ⟨_,_,?_,?_,?_,?_,⟨i + 1,qE,ds++[dg],.row 47 0 (ds++[dg]).length cap',by omega,rfl,rfl,.inr ⟨cap',aj,rfl,rfl,by simp;omega,iB,?_,fI,gD⟩,by simp [jR],eO.append hdh (eO.cons QV.2 (eO.nil _)),pL.2,hst⟩⟩
      ·exact ⟨rfl,rfl,rfl,congrArg (fun z=>some (AV.row 47 0 z cap')) cw,congrArg (fun z=>some (AV.val (.int .i64 z))) SP,congrArg (fun z=>some (AV.val (.int .i64 z))) CN,trivial⟩
      ·exact ⟨congrArg (fun l=>some (_,l++aj)) (sb _ _).symm,trivial⟩
      ·rfl
      ·exact ⟨.append (.none (bO _)) (.none gD),trivial⟩
      ·simpa [cB,Nat.add_assoc] using hlen
    ·rw [if_neg h0] at pL
     have ou:qE=0:=by omega
     subst ou
     refine VS.aQ rfl (decide_eq_false h0) ?_
     refine aa ?_
     ·refine VO.dI 46 rfl (congrArg (fun z=>[AV.val (.int .i64 z)]) (show X=(dg:Int) by omega)) ?_
      refine VO.app (cK _ _) (t:=156) (e:=3) (sz:=1) (n:=ds.length) (c:=cap) (mm:=1) (known:=iv ds) (spare:=spare) (news:=iv [dg]) (dst:=47) (del:=some 47) rfl rfl rfl rfl rfl rfl rfl rfl (bu rfl) rfl (.inr ⟨47,rfl,rfl,rfl⟩) (.inr rfl) (by rw [cB];omega) (by rw [List.length_append,cB];omega) h1 h2 ⟨bO _,h5,bO _⟩ ⟨oK _,h4,oK _⟩ rfl ab
       (fun w1 β k1 b1 ho=>⟨_,_,rfl,.inr ⟨β 46,0,rfl,df (rest:=[]) (ho.own 46 (.base (List.mem_append_right _ (List.mem_singleton.2 rfl))) _ _ rfl) rfl⟩⟩)
       (fun w2 cap' aj ρ k2 b2 fJ jS iB hlen fI gD=>wV rfl ?_)
      refine aa ?_
      refine VS.back (n - (i + 1)) ab ⟨_,_,?_,?_,?_,?_,⟨i + 1,0,ds++[dg],.row 47 0 (ds++[dg]).length cap',by omega,rfl,rfl,.inr ⟨cap',aj,rfl,rfl,by simp;omega,iB,?_,fI,gD⟩,by simp [jR],eO.append hdh (eO.cons QV.2 (eO.nil _)),Nat.zero_le _,hst⟩⟩
      ·exact ⟨rfl,rfl,rfl,congrArg (fun z=>some (AV.row 47 0 z cap')) cw,rfl,congrArg (fun z=>some (AV.val (.int .i64 z))) CN,trivial⟩
      ·exact ⟨congrArg (fun l=>some (_,l++aj)) (sb _ _).symm,trivial⟩
      ·rfl
      ·exact ⟨.append (.none (bO _)) (.none gD),trivial⟩
      ·simpa [cB,Nat.add_assoc] using hlen
   ·have Oy:y=0:=by rw [jm ab] at hyg;omega
    have hwX:IntKind.i64.wrap ((x:Int) - (br:Int))=X:=by rw [zH,hX,Oy,Nat.mul_zero];omega
    refine VS.aP rfl (decide_eq_true (Int.ofNat_lt.2 rT)) ?_
    refine aa ?_
    refine VO.cond rfl dw (wV rfl ?_)
    refine VO.read rfl [.int .i64 (x:Int)] rfl (lF rfl ss) (wV rfl ?_)
    refine VO.fix 10 rfl (congrArg (fun z=>AV.val (.int .i64 z)) hwX) ?_
    refine aa ?_
    refine VS.aQ rfl (decide_eq_false (fun e=>him (Int.ofNat_lt.1 e))) ?_
    refine aa ?_
    by_cases h0:X < 0
    ·rw [if_pos h0] at pL
     have SP:IntKind.i64.wrap ((IntKind.i64.wrap (65535 - X)).tdiv 65536)=(qE:Int):=by
      rw [IntWalk.i64_in (65535 - X) ab,Int.tdiv_eq_ediv_of_nonneg ab,IntWalk.i64_in _ ab,pL.1]
     have hwd:IntKind.i64.wrap (X + IntKind.i64.wrap (65536 * (qE:Int)))=(dg:Int):=by
      rw [IntWalk.i64_in (65536 * (qE:Int)) ab,IntWalk.i64_in _ ab,QV.1]
     refine VS.aP rfl (decide_eq_true h0) ?_
     refine aa ?_
     ·refine VO.dI 46 rfl (congrArg (fun z=>[AV.val (.int .i64 z)]) (show _=(dg:Int) by rw [SP,hwd])) ?_
      refine VO.app (cK _ _) (t:=156) (e:=3) (sz:=1) (n:=ds.length) (c:=cap) (mm:=1) (known:=iv ds) (spare:=spare) (news:=iv [dg]) (dst:=47) (del:=some 47) rfl rfl rfl rfl rfl rfl rfl rfl (bu rfl) rfl (.inr ⟨47,rfl,rfl,rfl⟩) (.inr rfl) (by rw [cB];omega) (by rw [List.length_append,cB];omega) h1 h2 ⟨bO _,h5,bO _⟩ ⟨oK _,h4,oK _⟩ rfl ab
       (fun w1 β k1 b1 ho=>⟨_,_,rfl,.inr ⟨β 46,0,rfl,df (rest:=[]) (ho.own 46 (.base (List.mem_append_right _ (List.mem_singleton.2 rfl))) _ _ rfl) rfl⟩⟩)
       (fun w2 cap' aj ρ k2 b2 fJ jS iB hlen fI gD=>wV rfl ?_)
      refine aa ?_
      refine VS.back (n - (i + 1)) ab ⟨_,_,?_,?_,?_,?_,⟨i + 1,qE,ds++[dg],.row 47 0 (ds++[dg]).length cap',by omega,rfl,rfl,.inr ⟨cap',aj,rfl,rfl,by simp;omega,iB,?_,fI,gD⟩,by simp [jR],eO.append hdh (eO.cons QV.2 (eO.nil _)),pL.2,hst⟩⟩
      ·exact ⟨rfl,rfl,rfl,congrArg (fun z=>some (AV.row 47 0 z cap')) cw,congrArg (fun z=>some (AV.val (.int .i64 z))) SP,congrArg (fun z=>some (AV.val (.int .i64 z))) CN,trivial⟩
      ·exact ⟨congrArg (fun l=>some (_,l++aj)) (sb _ _).symm,trivial⟩
      ·rfl
      ·exact ⟨.append (.none (bO _)) (.none gD),trivial⟩
      ·simpa [cB,Nat.add_assoc] using hlen
    ·rw [if_neg h0] at pL
     have ou:qE=0:=by omega
     subst ou
     refine VS.aQ rfl (decide_eq_false h0) ?_
     refine aa ?_
     ·refine VO.dI 46 rfl (congrArg (fun z=>[AV.val (.int .i64 z)]) (show X=(dg:Int) by omega)) ?_
      refine VO.app (cK _ _) (t:=156) (e:=3) (sz:=1) (n:=ds.length) (c:=cap) (mm:=1) (known:=iv ds) (spare:=spare) (news:=iv [dg]) (dst:=47) (del:=some 47) rfl rfl rfl rfl rfl rfl rfl rfl (bu rfl) rfl (.inr ⟨47,rfl,rfl,rfl⟩) (.inr rfl) (by rw [cB];omega) (by rw [List.length_append,cB];omega) h1 h2 ⟨bO _,h5,bO _⟩ ⟨oK _,h4,oK _⟩ rfl ab
       (fun w1 β k1 b1 ho=>⟨_,_,rfl,.inr ⟨β 46,0,rfl,df (rest:=[]) (ho.own 46 (.base (List.mem_append_right _ (List.mem_singleton.2 rfl))) _ _ rfl) rfl⟩⟩)
       (fun w2 cap' aj ρ k2 b2 fJ jS iB hlen fI gD=>wV rfl ?_)
      refine aa ?_
      refine VS.back (n - (i + 1)) ab ⟨_,_,?_,?_,?_,?_,⟨i + 1,0,ds++[dg],.row 47 0 (ds++[dg]).length cap',by omega,rfl,rfl,.inr ⟨cap',aj,rfl,rfl,by simp;omega,iB,?_,fI,gD⟩,by simp [jR],eO.append hdh (eO.cons QV.2 (eO.nil _)),Nat.zero_le _,hst⟩⟩
      ·exact ⟨rfl,rfl,rfl,congrArg (fun z=>some (AV.row 47 0 z cap')) cw,rfl,congrArg (fun z=>some (AV.val (.int .i64 z))) CN,trivial⟩
      ·exact ⟨congrArg (fun l=>some (_,l++aj)) (sb _ _).symm,trivial⟩
      ·rfl
      ·exact ⟨.append (.none (bO _)) (.none gD),trivial⟩
      ·simpa [cB,Nat.add_assoc] using hlen
 ·obtain rfl:i=n:=by omega
  have hend:=SN hdh jR fA (show t * hval (halves B)≤hval (halves A) by rw [bn,bn];exact hle) (by
   rcases Nat.eq_zero_or_pos t with e | e
   ·exact .inl e
   ·right
    rw [<-fA]
    exact dY ab (Nat.le_trans (Nat.le_mul_of_pos_left B e) hle)) hv
  rw [bn,bn] at hend
  rcases ko with ⟨rfl,rfl,rfl⟩ | ⟨cap,spare,rfl,rfl,h1,h2,h3,h4,h5⟩
  all_goals
   refine aa ?_
   refine VS.aQ rfl (decide_eq_false (fun e=>rT (Int.ofNat_lt.1 e))) ?_
   refine aa ?_
  ·refine VO.call rfl rfl (fk Tryz.func125) (fun bD cQ bG=>(jn none 0 0 [] bD (Rd.own (World.ownsRow_nil _ 0 0 _)) (eO.nil _)).mono ?_)
   rintro e w1 ⟨⟨mm,Dp,rfl,hcut⟩,rfl⟩
   obtain rfl:mm=0:=by omega
   refine ⟨_,rfl,aL.refl _,fun dt _ bb1=>wV rfl ?_⟩
   refine aa ?_
   refine aR ?_;intro wz kz bz
   have e0:A - t * B=0:=by rw [<-hend];rfl
   exact ⟨_,rfl,by rw [e0,np];exact fG.nil _ _,bz⟩
  ·refine VO.DL rfl (fk Tryz.func125) (fun w1 β k1 b1 ho=>(jn (some ⟨β 47,0,none⟩) ds.length cap ds w1 (nt (ho.own 47 (.base (List.mem_singleton.2 rfl)) _ _ rfl) rfl h1 (by simpa [maxLen] using h2)) hdh).mono ?_)
   rintro e w2 ⟨⟨mm,Dp,rfl,hcut⟩,rfl⟩
   refine ⟨.row 47 0 mm cap,rfl,fun i hi=>⟨hi,by cases List.mem_singleton.1 hi;exact Option.some_ne_none _⟩,aL.refl _,fun k2 _ b2=>wV rfl ?_⟩
   refine aa ?_
   refine VS.lp (cK _ _) rfl (fun wz β kz bz he=> ?_)
   have sM:=Ab hcut Dp rfl
   rw [hend] at hcut sM
   refine ⟨_,rfl,?_,bz⟩
   have:=rz (he.own 47 _ _ rfl) rfl Dp h1 (by simpa [maxLen] using h2) h3
   rw [<-hcut] at this
   show fG wz w.heap.size (.slice (some ⟨β 47,0,none⟩) mm cap) _ _
   rw [<-sM]
   exact this
set_option maxRecDepth 4000
theorem fG.jW {w w':World} {B:Nat} {v:Value} {n:Nat} {xs:List Nat} (h:fG w B v n xs) (k:bH KI w w'):fG w' B v n xs:=by
 obtain ⟨hn,e | ⟨b,c,spare,e,hb,hc,r⟩⟩:=h
 ·exact ⟨hn,.inl e⟩
 ·exact ⟨hn,.inr ⟨b,c,spare,e,hb,k.block _ b _ rfl trivial hc,r⟩⟩
theorem yt.kp {w w':World} {B n:Nat} {v:Value} {cs:List Value} (h:w.ownsRow B 3 1 v n cs) (k:bH KI w w'):w'.ownsRow B 3 1 v n cs:=by
 refine ⟨h.1,?_⟩
 rcases h.2 with h2 | ⟨g,cap,cur,hv,hb,hg,r⟩
 ·exact .inl h2
 ·exact .inr ⟨g,cap,cur,hv,hb,k.block _ g cur rfl trivial hg,r⟩
theorem fG.form {w:World} {B:Nat} {v:Value} {n:Nat} {xs:List Nat} (h:fG w B v n xs):∃ p c,v=.slice p n c:=by
 obtain ⟨hn,⟨rfl,rfl⟩ | ⟨b,c,spare,rfl,_⟩⟩:=h
 ·exact ⟨none,0,rfl⟩
 ·exact ⟨_,c,rfl⟩
theorem IP (x:Nat):hval [x]=x:=by show x + 65536 * 0=x;omega
theorem cf {P Q:Prop} (h:Q) (i:Q->P:=by intro h;(repeat first|refine wN ?_|refine wP rfl ?_|refine DT rfl ?_|refine cxI_d rfl ?_|refine wO rfl rfl ?_);exact h):P:=i h
theorem vi {P Q:Prop} (h:Q) (i:Q->P:=by intro h;exact VS.ret (pJ _ _) rfl rfl h):P:=i h
theorem xT (va vb:Value) (n m A B:Nat) (w:World) (hr:Rd w 1 va n (ints .i64 (halves A))) (hs:Rd w 1 vb m (ints .i64 (halves B))) (hB:A < 65536 * B) (hm:m≤2147483656):
  Calls Tryz.prog 136 #[va,vb] w fun e w'=>e=.returned (.int .i64 ((A / B:Nat):Int))/\aL w w':=by
 obtain ⟨p,c,rfl,fE,fX,fA⟩:=hr.i64
 obtain ⟨q,d,rfl,OK,JX,kD⟩:=hs.i64
 refine ag (C:=KR Tryz.prog w _) (args:=[_,_]) Tryz.func136 rfl Tryz.ntmps136 (bu rfl) ?_
 refine cf ?_
 refine VS.loop (J:=fun ms L M w'=>∃ (lo hi:Nat),lo < hi/\hi≤65536/\ms=hi - lo/\L=[(0,.val (.slice p n c)),(1,.val (.slice q m d)),(5,.val (.int .i64 (lo:Int))),(6,.val (.int .i64 (hi:Int)))]/\M=[]/\lo * B≤A/\A < hi * B) 65536 ⟨_,_,?_,?_,?_,?_,⟨0,65536,by omega,by omega,rfl,rfl,rfl,by omega,hB⟩⟩ ?_
 ·exact cd
 ·exact cd
 ·rfl
 ·exact trivial
 rintro ms L M w' ⟨lo,hi,hlh,hh,rfl,rfl,rfl,h1,h2⟩
 have zH:IntKind.i64.wrap ((hi:Int) - (lo:Int))=(hi:Int) - lo:=IntWalk.i64_in _ ab
 refine cf ?_
 by_cases hgo:1 < hi - lo
 ·obtain ⟨mid,kg⟩:∃ mid,mid=(lo + hi) / 2:=⟨_,rfl⟩
  have hwm:IntKind.i64.wrap ((IntKind.i64.wrap ((lo:Int) + (hi:Int))).tdiv 2)=(mid:Int):=by
   rw [IntWalk.i64_in ((lo:Int) + (hi:Int)) ab,Int.tdiv_eq_ediv_of_nonneg ab,IntWalk.i64_in _ ab];omega
  refine VS.aP rfl (decide_eq_true (by rw [zH];omega)) ?_
  refine cf ?_
  refine VO.lit (pJ _ _) [.int .i64 (mid:Int)] rfl (by rw [hwm];rfl) rfl rfl rfl rfl rfl rfl rfl ab (fun w2 b k2 b2 ho=>wV rfl ?_)
  have hmid4:mid < 65536:=by omega
  refine VO.call rfl rfl (fk Tryz.func100) (fun bD cQ bG=>(xS _ _ m 1 (halves B) [mid] bD (hs.below bG) (Rd.own (yt.kp (cs:=ints .i64 [mid]) ho cQ)) (bT B) (eO.cons hmid4 (eO.nil _)) hm ab).mono ?_)
  rintro e w1 ⟨v1,rfl,q1,aI⟩
  rw [bn,IP] at q1
  obtain ⟨p1,c1,rfl⟩:=q1.form
  refine ⟨_,rfl,aI,fun dt _ bb1=>wV rfl ?_⟩
  refine cf ?_
  refine VO.call rfl rfl (fk Tryz.func148) (fun eX fF fM=>(Le _ _ n _ A (B * mid) eX (hr.below fM) (Rd.own (q1.jW fF).own)).mono ?_)
  rintro e w3 ⟨rfl,cC⟩
  refine ⟨_,rfl,cC,fun gZ _ bb3=>wV rfl ?_⟩
  refine cf ?_
  by_cases hlt:A < B * mid
  ·refine VS.aP rfl (decide_eq_true hlt) ?_
   refine cf ?_
   refine VS.back (mid - lo) ab ⟨_,_,?_,?_,?_,?_,⟨lo,mid,by omega,by omega,rfl,rfl,rfl,h1,by rw [Nat.mul_comm];exact hlt⟩⟩
   ·exact ⟨rfl,rfl,rfl,congrArg (fun z=>some (AV.val (.int .i64 z))) hwm,trivial⟩
   ·exact cd
   ·rfl
   ·exact trivial
  ·refine VS.aQ rfl (decide_eq_false hlt) ?_
   refine cf ?_
   refine VS.back (hi - mid) ab ⟨_,_,?_,?_,?_,?_,⟨mid,hi,by omega,by omega,rfl,rfl,rfl,by rw [Nat.mul_comm];omega,h2⟩⟩
   ·exact ⟨rfl,rfl,congrArg (fun z=>some (AV.val (.int .i64 z))) hwm,rfl,trivial⟩
   ·exact cd
   ·rfl
   ·exact trivial
 ·refine VS.aQ rfl (decide_eq_false (by rw [zH];omega)) ?_
  refine cf ?_
  refine vi ?_;intro wz kz bz
  refine ⟨?_,bz⟩
  have hBp:0 < B:=by
   rcases Nat.eq_zero_or_pos B with e | e
   ·rw [e] at hB;omega
   ·exact e
  have:A / B=lo:=by
   have e1:hi=lo + 1:=by omega
   rw [e1,Nat.add_mul] at h2
   exact Nat.div_eq_of_lt_le h1 (by rw [Nat.add_mul];exact h2)
  rw [this];rfl
theorem Bv {A B k x R V:Nat} {qs:List Nat} (hx:(halves A)[k]? =some x) (hR:R < B) (hV:V=x + 65536 * R) (h:hval qs * B + R=hval ((halves A).drop (k + 1))):
  hval ((V / B)::qs) * B + (V - V / B * B)=hval ((halves A).drop k)/\V < 65536 * B/\V - V / B * B < B/\V / B < 65536:=by
 have lW:=(bT A).at hx
 have e1:hval ((halves A).drop k)=x + 65536 * hval ((halves A).drop (k + 1)):=sL hx
 have e2:hval ((V / B)::qs)=V / B + 65536 * hval qs:=rfl
 have e3:=Nat.div_add_mod V B
 have e4:=Nat.mod_lt V (show 0 < B by omega)
 rw [Nat.mul_comm] at e3
 have hlt:V < 65536 * B:=by
  have:65536 * R + 65536≤65536 * B:=by
   have:=Nat.mul_le_mul_left 65536 (show R + 1≤B by omega)
   rw [Nat.mul_add] at this;omega
  omega
 refine ⟨?_,hlt,by omega,Nat.div_lt_of_lt_mul (by rw [Nat.mul_comm];exact hlt)⟩
 rw [e1,<-h,e2,Nat.add_mul,Nat.mul_add,Nat.mul_assoc]
 omega
theorem IQ (va vb:Value) (n m A B:Nat) (w:World) (hr:Rd w 1 va n (ints .i64 (halves A))) (hs:Rd w 1 vb m (ints .i64 (halves B))) (hB:0 < B) (hn:n≤1073741824) (hm:m≤1073741824):
  Calls Tryz.prog 119 #[va,vb] w fun e w'=>∃ v u,e=.returned (.tuple #[v,u])/\fG w' w.heap.size v (halves (A / B)).length (halves (A / B))/\fG w' w.heap.size u (halves (A % B)).length (halves (A % B))/\aL w w':=by
 obtain ⟨p,c,rfl,fE,fX,fA⟩:=hr.i64
 obtain ⟨q,d,rfl,OK,JX,kD⟩:=hs.i64
 refine ag (C:=bP Tryz.prog w _) (args:=[_,_]) Tryz.func119 rfl Tryz.ntmps119 (bu rfl) ?_
 refine aa ?_
 refine VO.cond rfl ⟨rfl,by omega,by show (n:Int) * (24 * 1)≤_;omega⟩ (VO.dI 12 rfl (Bt _) (wV rfl ?_))
 rw [Int.toNat_natCast]
 refine aa ?_
 have hw0:IntKind.i64.wrap ((n:Int) - 1)=(n:Int) - 1:=IntWalk.i64_in _ ab
 refine VS.loop (J:=fun ms L M w'=>∃ (k R:Nat) (qs:List Nat) (v:AV) (M1:List (Nat×(TypeId×List AV))),k≤n/\ms=k/\L=[(0,.val (.slice p n c)),(1,.val (.slice q m d)),(6,.row 12 0 n n),(7,v),(8,.val (.int .i64 ((k:Int) - 1)))]/\
  M=(12,(3,iv (List.replicate k 0++qs)))::M1/\RowAt 41 (halves R) v M1/\qs.length=n - k/\ik qs/\R < B/\hval qs * B + R=hval ((halves A).drop k)) n ⟨_,_,?_,?_,?_,?_,⟨n,0,[],.val (.slice none 0 0),[],Nat.le_refl _,rfl,rfl,rfl,.inl ⟨np,rfl,rfl⟩,by simp,eO.nil _,hB,by rw [List.drop_of_length_le ab];simp [hval,val]⟩⟩ ?_
 ·exact ⟨rfl,rfl,rfl,rfl,congrArg (fun z=>some (AV.val (.int .i64 z))) hw0,trivial⟩
 ·exact ⟨congrArg (fun l=>some (_,l)) (by rw [List.append_nil]),trivial⟩
 ·rfl
 ·exact ⟨.none (bO _),trivial⟩
 rintro ms L M w' ⟨k,R,qs,v,M1,hk,hms,rfl,rfl,ko,CG,hqh,hRB,hv⟩
 have hz:(List.replicate k 0++qs).length=n:=by simp;omega
 rcases ko with ⟨hR0,rfl,rfl⟩ | ⟨cap,spare,rfl,rfl,g1,g2,g3,g4,g5⟩
 all_goals
  by_cases AA:k=0
 ·subst AA
  refine aa ?_
  refine VO.DL rfl (fk Tryz.func125) (fun w1 β k1 bw ho=>(jn (some ⟨β 12,0,none⟩) n n qs w1 (nt (spare:=[]) (by rw [List.append_nil];exact ho.own 12 (.base (List.mem_singleton.2 rfl)) _ _ rfl) (by simpa using hz) (Nat.le_refl _) (by simp only [maxLen];omega)) hqh).mono ?_)
  rintro e w2 ⟨⟨mm,Dp,rfl,hcut⟩,rfl⟩
  refine ⟨.row 12 0 mm n,rfl,fun i hi=>⟨hi,by cases List.mem_singleton.1 hi;exact Option.some_ne_none _⟩,aL.refl _,fun k2 _ b2=>wV rfl ?_⟩
  refine aa ?_
  refine VS.lp (cK _ _) rfl (fun wz β kz bz he=> ?_)
  have JW:qs.length=n:=by simpa using hz
  have sM:=Ab hcut Dp JW
  rw [List.drop_zero,bn] at hv
  have hA:A / B=hval qs:=by rw [<-hv,Nat.add_comm,Nat.add_mul_div_right _ _ hB,Nat.div_eq_of_lt hRB,Nat.zero_add]
  have hM:A % B=R:=by rw [<-hv,Nat.add_comm,Nat.add_mul_mod_self_right,Nat.mod_eq_of_lt hRB]
  rw [<-hA] at hcut sM
  have e12:=rz (spare:=[]) (by rw [List.append_nil];exact he.own 12 _ _ rfl) JW Dp (Nat.le_refl _) (by simp only [maxLen];omega) (by simpa using JW)
  rw [<-hcut] at e12
  refine ⟨.slice (some ⟨β 12,0,none⟩) mm n,.slice none 0 0,rfl,by rw [<-sM];exact e12,?_,bz⟩
  rw [hM,hR0];exact fG.nil _ _
 ·obtain ⟨j,rfl⟩:∃ j,k=j + 1:=⟨k - 1,by omega⟩
  have hj:((j + 1:Nat):Int) - 1=(j:Int):=by omega
  obtain ⟨b1,o1,x,rfl,aI,ig,ss⟩:=hr.cellAt (show j < n by omega)
  have lW:=(bT A).at ig
  obtain ⟨V,hV⟩:∃ V,V=x + 65536 * R:=⟨_,rfl⟩
  obtain ⟨s1,s2,s3,s4⟩:=Bv ig hRB hV hv
  have hRl:(halves R).length≤m:=by rw [<-kD];exact dY ab ab
  have hXS:hval [x]=V:=by have hR0':R=0:=(by have:=congrArg hval hR0;rw [bn] at this;exact this);rw [hV,hR0'];exact IP x
  have hXH:ik [x]:=eO.cons lW (eO.nil _)
  have hXL:[x].length=(1 + 0):=rfl
  refine VS.fix 8 rfl (congrArg (fun z=>AV.val (.int .i64 z)) hj) ?_
  refine aa ?_
  refine VO.cond rfl dw (wV rfl ?_)
  refine VO.read rfl [.int .i64 (x:Int)] rfl (lF rfl ss) (wV rfl ?_)
  refine aa ?_
  refine VO.app (cK _ _) (t:=156) (e:=3) (sz:=1) (n:=1) (c:=1) (mm:=0) (known:=iv [x]) (spare:=[]) (news:=[]) (dst:=27) (del:=some 24) rfl rfl rfl rfl rfl rfl rfl rfl (bu rfl) rfl (.inr ⟨24,rfl,rfl,rfl⟩) (.inl rfl) rfl rfl ab ab ⟨rfl,rfl,rfl⟩ ⟨rfl,rfl,rfl⟩ rfl ab
   (fun w1 β k1 bw ho=>⟨_,_,rfl,.inl rfl⟩)
   (fun w2 cap' aj ρ k2 b2 fJ jS iB hlen fI gD=>VO.dI 12 rfl (SL 24 ρ _) (wV rfl ?_))
  have nY:(iv [x]++[])++aj=iv [x]++aj:=rfl
  refine VO.DL rfl (fk Tryz.func125) (fun w1 β k1 bw ho=>(jn (some ⟨β 27,0,none⟩) (1 + 0) cap' [x] w1 (nt (ho.own 27 (.base (List.mem_singleton.2 rfl)) _ _ rfl) hXL jS (by simpa [maxLen] using iB)) hXH).mono ?_)
  rintro e w3 ⟨⟨m',Rm,rfl,hcut⟩,rfl⟩
  rw [hXS] at hcut
  have hm'l:m'=(halves V).length:=by rw [hcut,List.length_take];omega
  have vY:∀ {C:Cx} {β:Nat->Nat} {w:World},mU C β w 27 3 (iv [x]++aj)->Rd w 1 (.slice (some ⟨β 27,0,none⟩) m' cap') m' (ints .i64 (halves V)):=fun h=>by
   have:=Rd.IG (nt h hXL jS (by simpa [maxLen] using iB)) Rm
   rwa [<-hcut] at this
  refine ⟨.row 27 0 m' cap',rfl,fun i hi=>⟨hi,by cases List.mem_singleton.1 hi;exact Option.some_ne_none _⟩,aL.refl _,fun k3 _ b3=>wV rfl ?_⟩
  refine aa ?_
  refine VO.ee rfl (fk Tryz.func136) (fun w1 β k1 bw ho=>(xT _ _ m' m V B w1 (vY (ho.own 27 (.base (List.mem_append_left _ (List.mem_singleton.2 rfl))) _ _ rfl)) (hs.below bw) s2 ab).mono ?_)
  rintro e w4 ⟨rfl,fq⟩
  refine ⟨_,rfl,fq,fun k4 _ b4=>wV rfl ?_⟩
  refine VO.cond rfl dw (wV rfl ?_)
  refine VO.cond rfl (by show 0 + (j:Int).toNat * 1 + 1≤_;rw [Int.toNat_natCast,cB];omega) (wV rfl ?_)
  refine wN ?_
  refine VS.narrow [(0,.val (.slice (some ⟨b1,o1,none⟩) n c)),(1,.val (.slice q m d)),(6,.row 12 0 n n),(7,.row 27 0 m' cap'),(8,.val (.int .i64 (j:Int)))] [(12,(3,iv (List.replicate j 0++(V / B)::qs))),(27,(3,iv [x]++aj))] ?_ ?_ rfl ?_ ?_
  ·exact cd
  ·exact ⟨congrArg (fun l=>some (_,l)) ((Aa (j:=j) (x:=V / B) (by rw [hz];omega) (by rw [Int.toNat_natCast];omega)).trans (by rw [xR])),rfl,trivial⟩
  ·exact ⟨.none (bO _),.append (.none (bO _)) (.none gD),trivial⟩
  refine aa ?_
  refine VO.cond rfl dw (wV rfl ?_)
  refine VO.cW rfl [.val (.int .i64 ((V / B:Nat):Int))] rfl (vh (j:=j) (by rw [List.getElem?_append_right cw];simp) (by rw [Int.toNat_natCast];omega)) (wV rfl ?_)
  have zH:IntKind.i64.wrap ((j:Int) - 1)=(j:Int) - 1:=IntWalk.i64_in _ ab
  refine VO.callN (dst:=41) (n:=(halves (V - V / B * B)).length) (t:=3) (sz:=1) (xs:=ints .i64 (halves (V - V / B * B))) rfl rfl rfl (bu rfl) (by show 1≤2;omega) rfl (fun w1 β k1 bw ho=>⟨(fk Tryz.func137),(Bu _ _ m' m (V / B) V B w1 (vY (ho.own 27 (.base (List.mem_append_left _ (List.mem_singleton.2 rfl))) _ _ rfl)) (hs.below bw) s4 (Nat.div_mul_le_self _ _) ab).mono ?_⟩)
  rintro e w5 ⟨v5,rfl,IU,eP⟩
  refine ⟨v5,rfl,eP,IU.new,fun _ _ _ hv5=>wV rfl ?_,fun c5 sp5 _ _ _ hv5 hok5 hl5 hc5 Kk=>wV rfl ?_⟩
  ·have OH:halves (V - V / B * B)=[]:=by
    subst hv5
    obtain ⟨e1,⟨_,e2⟩ | ⟨_,_,_,e2,_⟩⟩:=IU
    ·exact List.eq_nil_of_length_eq_zero e2
    ·cases e2
   refine aa ?_
   refine VS.back j ab ⟨_,_,?_,?_,?_,?_,⟨j,V - V / B * B,(V / B)::qs,.val (.slice none 0 0),[],by omega,rfl,rfl,rfl,.inl ⟨OH,rfl,rfl⟩,by simp;omega,eO.cons s4 hqh,s3,s1⟩⟩
   ·exact ⟨rfl,rfl,rfl,rfl,congrArg (fun z=>some (AV.val (.int .i64 z))) zH,trivial⟩
   ·exact ⟨rfl,trivial⟩
   ·rfl
   ·exact ⟨.none (bO _),trivial⟩
  ·have tI:(halves (V - V / B * B)).length + sp5.length=c5:=by simpa using Kk
   refine aa ?_
   refine VS.back j ab ⟨_,_,?_,?_,?_,?_,⟨j,V - V / B * B,(V / B)::qs,.row 41 0 _ c5,_,by omega,rfl,rfl,rfl,.inr ⟨c5,sp5.map .val,rfl,rfl,hl5,hc5,by simpa using tI,bh hok5,ai _⟩,by simp;omega,eO.cons s4 hqh,s3,s1⟩⟩
   ·exact ⟨rfl,rfl,rfl,rfl,congrArg (fun z=>some (AV.val (.int .i64 z))) zH,trivial⟩
   ·exact ⟨rfl,congrArg (fun l=>some (_,l)) (List.map_append),trivial⟩
   ·rfl
   ·exact ⟨.none (bO _),.append (.none (bO _)) (.none (ai _)),trivial⟩
 ·subst AA
  refine aa ?_
  refine VO.DL rfl (fk Tryz.func125) (fun w1 β k1 bw ho=>(jn (some ⟨β 12,0,none⟩) n n qs w1 (nt (spare:=[]) (by rw [List.append_nil];exact ho.own 12 (.base (List.mem_singleton.2 rfl)) _ _ rfl) (by simpa using hz) (Nat.le_refl _) (by simp only [maxLen];omega)) hqh).mono ?_)
  rintro e w2 ⟨⟨mm,Dp,rfl,hcut⟩,rfl⟩
  refine ⟨.row 12 0 mm n,rfl,fun i hi=>⟨hi,by cases List.mem_singleton.1 hi;exact Option.some_ne_none _⟩,aL.refl _,fun k2 _ b2=>wV rfl ?_⟩
  refine aa ?_
  refine VS.lp (cK _ _) rfl (fun wz β kz bz he=> ?_)
  have JW:qs.length=n:=by simpa using hz
  have sM:=Ab hcut Dp JW
  rw [List.drop_zero,bn] at hv
  have hA:A / B=hval qs:=by rw [<-hv,Nat.add_comm,Nat.add_mul_div_right _ _ hB,Nat.div_eq_of_lt hRB,Nat.zero_add]
  have hM:A % B=R:=by rw [<-hv,Nat.add_comm,Nat.add_mul_mod_self_right,Nat.mod_eq_of_lt hRB]
  rw [<-hA] at hcut sM
  have e12:=rz (spare:=[]) (by rw [List.append_nil];exact he.own 12 _ _ rfl) JW Dp (Nat.le_refl _) (by simp only [maxLen];omega) (by simpa using JW)
  rw [<-hcut] at e12
  have e41:=rz (he.own 41 _ _ rfl) rfl (Nat.le_refl _) g1 (by simpa [maxLen] using g2) g3
  rw [List.take_length] at e41
  refine ⟨.slice (some ⟨β 12,0,none⟩) mm n,.slice (some ⟨β 41,0,none⟩) (halves R).length cap,rfl,by rw [<-sM];exact e12,?_,bz⟩
  rw [hM];exact e41
 ·obtain ⟨j,rfl⟩:∃ j,k=j + 1:=⟨k - 1,by omega⟩
  have hj:((j + 1:Nat):Int) - 1=(j:Int):=by omega
  obtain ⟨b1,o1,x,rfl,aI,ig,ss⟩:=hr.cellAt (show j < n by omega)
  have lW:=(bT A).at ig
  obtain ⟨V,hV⟩:∃ V,V=x + 65536 * R:=⟨_,rfl⟩
  obtain ⟨s1,s2,s3,s4⟩:=Bv ig hRB hV hv
  have hRl:(halves R).length≤m:=by rw [<-kD];exact dY ab ab
  have hXS:hval (x::halves R)=V:=by rw [hV];show x + 65536 * hval (halves R)=_;rw [bn]
  have hXH:ik (x::halves R):=eO.cons lW (bT R)
  have hXL:(x::halves R).length=(1 + (halves R).length):=by simp;omega
  refine VS.fix 8 rfl (congrArg (fun z=>AV.val (.int .i64 z)) hj) ?_
  refine aa ?_
  refine VO.cond rfl dw (wV rfl ?_)
  refine VO.read rfl [.int .i64 (x:Int)] rfl (lF rfl ss) (wV rfl ?_)
  refine aa ?_
  refine VO.app (cK _ _) (t:=156) (e:=3) (sz:=1) (n:=1) (c:=1) (mm:=(halves R).length) (known:=iv [x]) (spare:=[]) (news:=iv (halves R)) (dst:=27) (del:=some 24) rfl rfl rfl rfl rfl rfl rfl rfl (bu rfl) rfl (.inr ⟨24,rfl,rfl,rfl⟩) (.inl rfl) rfl rfl ab ab ⟨rfl,rfl,bO _⟩ ⟨rfl,rfl,oK _⟩ (by rw [cB];omega) ab
   (fun w1 β k1 bw ho=>⟨_,_,rfl,.inr ⟨β 41,0,rfl,df (rest:=spare) (ho.own 41 (.base (List.mem_append_right _ (List.mem_singleton.2 rfl))) _ _ rfl) rfl⟩⟩)
   (fun w2 cap' aj ρ k2 b2 fJ jS iB hlen fI gD=>VO.dI 12 rfl (SL 24 ρ _) (wV rfl ?_))
  have nY:(iv [x]++iv (halves R))++aj=iv (x::halves R)++aj:=rfl
  refine VO.DL rfl (fk Tryz.func125) (fun w1 β k1 bw ho=>(jn (some ⟨β 27,0,none⟩) (1 + (halves R).length) cap' (x::halves R) w1 (nt (ho.own 27 (.base (List.mem_singleton.2 rfl)) _ _ rfl) hXL jS (by simpa [maxLen] using iB)) hXH).mono ?_)
  rintro e w3 ⟨⟨m',Rm,rfl,hcut⟩,rfl⟩
  rw [hXS] at hcut
  have hm'l:m'=(halves V).length:=by rw [hcut,List.length_take];omega
  have vY:∀ {C:Cx} {β:Nat->Nat} {w:World},mU C β w 27 3 (iv (x::halves R)++aj)->Rd w 1 (.slice (some ⟨β 27,0,none⟩) m' cap') m' (ints .i64 (halves V)):=fun h=>by
   have:=Rd.IG (nt h hXL jS (by simpa [maxLen] using iB)) Rm
   rwa [<-hcut] at this
  refine ⟨.row 27 0 m' cap',rfl,fun i hi=>⟨hi,by cases List.mem_singleton.1 hi;exact Option.some_ne_none _⟩,aL.refl _,fun k3 _ b3=>wV rfl ?_⟩
  refine aa ?_
  refine VO.ee rfl (fk Tryz.func136) (fun w1 β k1 bw ho=>(xT _ _ m' m V B w1 (vY (ho.own 27 (.base (List.mem_append_left _ (List.mem_singleton.2 rfl))) _ _ rfl)) (hs.below bw) s2 ab).mono ?_)
  rintro e w4 ⟨rfl,fq⟩
  refine ⟨_,rfl,fq,fun k4 _ b4=>wV rfl ?_⟩
  refine VO.cond rfl dw (wV rfl ?_)
  refine VO.cond rfl (by show 0 + (j:Int).toNat * 1 + 1≤_;rw [Int.toNat_natCast,cB];omega) (wV rfl ?_)
  refine wN ?_
  refine VS.narrow [(0,.val (.slice (some ⟨b1,o1,none⟩) n c)),(1,.val (.slice q m d)),(6,.row 12 0 n n),(7,.row 27 0 m' cap'),(8,.val (.int .i64 (j:Int)))] [(12,(3,iv (List.replicate j 0++(V / B)::qs))),(27,(3,iv (x::halves R)++aj))] ?_ ?_ rfl ?_ ?_
  ·exact cd
  ·exact ⟨congrArg (fun l=>some (_,l)) ((Aa (j:=j) (x:=V / B) (by rw [hz];omega) (by rw [Int.toNat_natCast];omega)).trans (by rw [xR])),rfl,trivial⟩
  ·exact ⟨.none (bO _),.append (.none (bO _)) (.none gD),trivial⟩
  refine aa ?_
  refine VO.cond rfl dw (wV rfl ?_)
  refine VO.cW rfl [.val (.int .i64 ((V / B:Nat):Int))] rfl (vh (j:=j) (by rw [List.getElem?_append_right cw];simp) (by rw [Int.toNat_natCast];omega)) (wV rfl ?_)
  have zH:IntKind.i64.wrap ((j:Int) - 1)=(j:Int) - 1:=IntWalk.i64_in _ ab
  refine VO.callN (dst:=41) (n:=(halves (V - V / B * B)).length) (t:=3) (sz:=1) (xs:=ints .i64 (halves (V - V / B * B))) rfl rfl rfl (bu rfl) (by show 1≤2;omega) rfl (fun w1 β k1 bw ho=>⟨(fk Tryz.func137),(Bu _ _ m' m (V / B) V B w1 (vY (ho.own 27 (.base (List.mem_append_left _ (List.mem_singleton.2 rfl))) _ _ rfl)) (hs.below bw) s4 (Nat.div_mul_le_self _ _) ab).mono ?_⟩)
  rintro e w5 ⟨v5,rfl,IU,eP⟩
  refine ⟨v5,rfl,eP,IU.new,fun _ _ _ hv5=>wV rfl ?_,fun c5 sp5 _ _ _ hv5 hok5 hl5 hc5 Kk=>wV rfl ?_⟩
  ·have OH:halves (V - V / B * B)=[]:=by
    subst hv5
    obtain ⟨e1,⟨_,e2⟩ | ⟨_,_,_,e2,_⟩⟩:=IU
    ·exact List.eq_nil_of_length_eq_zero e2
    ·cases e2
   refine aa ?_
   refine VS.back j ab ⟨_,_,?_,?_,?_,?_,⟨j,V - V / B * B,(V / B)::qs,.val (.slice none 0 0),[],by omega,rfl,rfl,rfl,.inl ⟨OH,rfl,rfl⟩,by simp;omega,eO.cons s4 hqh,s3,s1⟩⟩
   ·exact ⟨rfl,rfl,rfl,rfl,congrArg (fun z=>some (AV.val (.int .i64 z))) zH,trivial⟩
   ·exact ⟨rfl,trivial⟩
   ·rfl
   ·exact ⟨.none (bO _),trivial⟩
  ·have tI:(halves (V - V / B * B)).length + sp5.length=c5:=by simpa using Kk
   refine aa ?_
   refine VS.back j ab ⟨_,_,?_,?_,?_,?_,⟨j,V - V / B * B,(V / B)::qs,.row 41 0 _ c5,_,by omega,rfl,rfl,rfl,.inr ⟨c5,sp5.map .val,rfl,rfl,hl5,hc5,by simpa using tI,bh hok5,ai _⟩,by simp;omega,eO.cons s4 hqh,s3,s1⟩⟩
   ·exact ⟨rfl,rfl,rfl,rfl,congrArg (fun z=>some (AV.val (.int .i64 z))) zH,trivial⟩
   ·exact ⟨rfl,congrArg (fun l=>some (_,l)) (List.map_append),trivial⟩
   ·rfl
   ·exact ⟨.none (bO _),.append (.none (bO _)) (.none (ai _)),trivial⟩
set_option maxRecDepth 4000
theorem cA.jW {w w':World} {v:Value} {X:Int} {j:Nat} (h:cA w v X j) (k:bH KI w w'):cA w' v X j:=h.kp (U:=UU) k.qo
theorem cI.jW {w w':World} {v:Value} {X:Int} (h:cI w v X) (k:bH KI w w'):cI w' v X:=h.kp (U:=UU) k.qo
theorem aD.jW {w w':World} {B:Nat} {v:Value} {X:Int} (h:aD w B v X) (k:bH KI w w'):aD w' B v X:=h.kp k.qo
theorem Rd.jW {w w':World} {v:Value} {n:Nat} {xs:List Nat} (h:Rd w 1 v n (ints .u32 xs)) (k:bH KI w w'):Rd w' 1 v n (ints .u32 xs):=h.kp (U:=UU) k.qo
theorem OwnU.jW {w w':World} {B n:Nat} {v:Value} {cs:List Value} (h:w.ownsRow B UU 1 v n cs) (k:bH KI w w'):w'.ownsRow B UU 1 v n cs:=Own.kp h k.qo
theorem gS (a:Nat):(halves a).length≤2 * (limbs a).length:=by
 have:=dK (az a)
 rwa [aq] at this
theorem jo (va:Value) (n a:Nat) (w:World) (hr:Rd w 1 va n (ints .u32 (limbs a))) (hn:n≤1073741824):
  Calls Tryz.prog 101 #[va] w fun e w'=>∃ p c,e=.returned (.slice p (halves a).length c)/\w'.ownsRow w.heap.size 3 1 (.slice p (halves a).length c) (halves a).length (ints .i64 (halves a))/\aL w w':=
 (Fb va n _ w hr (az a) hn).mono fun e w' ⟨v',he,ho,hb⟩=>by
  rw [aq] at ho
  obtain ⟨p,c,rfl,_⟩:=Own.form ho
  exact ⟨p,c,he,ho,hb⟩
theorem pM (va:Value) (n a:Nat) (w:World) (hr:Rd w 1 va n (ints .i64 (halves a))) (hn:n≤2147483646):
  Calls Tryz.prog 99 #[va] w fun e w'=>∃ p c xs,e=.returned (.slice p ((n + 1) / 2) c)/\w'.ownsRow w.heap.size UU 1 (.slice p ((n + 1) / 2) c) ((n + 1) / 2) (ints .u32 xs)/\ak xs=a/\cR xs/\aL w w':=
 (IM va n _ w hr (bT a) ab).mono fun e w' ⟨v',xs,he,hl,ho,hv,hx,hb⟩=>by
  obtain ⟨p,c,rfl,_⟩:=Own.form ho
  exact ⟨p,c,xs,he,ho,by rw [hv,bn],hx,hb⟩
theorem Bw (va vb:Value) (n m A B:Nat) (w:World) (hr:Rd w 1 va n (ints .i64 (halves A))) (hs:Rd w 1 vb m (ints .i64 (halves B))) (hB:0 < B) (hn:n≤1073741824) (hm:m≤1073741824):
  Calls Tryz.prog 119 #[va,vb] w fun e w'=>∃ p c q d,e=.returned (.tuple #[.slice p (halves (A / B)).length c,.slice q (halves (A % B)).length d])/\w'.ownsRow w.heap.size 3 1 (.slice p (halves (A / B)).length c) (halves (A / B)).length (ints .i64 (halves (A / B)))/\w'.ownsRow w.heap.size 3 1 (.slice q (halves (A % B)).length d) (halves (A % B)).length (ints .i64 (halves (A % B)))/\aL w w':=
 (IQ va vb n m A B w hr hs hB hn hm).mono fun e w' ⟨v,u,he,h1,h2,hb⟩=>by
  obtain ⟨p,c,rfl⟩:=h1.form
  obtain ⟨q,d,rfl⟩:=h2.form
  exact ⟨p,c,q,d,he,h1.own,h2.own,hb⟩
theorem SQ {X Y:Int} {s t:Bool} (hX:X=if s=true then -(X.natAbs:Int) else X.natAbs) (hY:Y=if t=true then -(Y.natAbs:Int) else Y.natAbs):(if (!(s == t))=true then -((X.natAbs * Y.natAbs:Nat):Int) else ((X.natAbs * Y.natAbs:Nat):Int))=X * Y:=by
 generalize X.natAbs=a at *
 generalize Y.natAbs=b at *
 subst hX hY
 cases s <;> cases t <;> simp [Int.neg_mul,Int.mul_neg]
theorem rA (v u:Value) (X Y:Int) (j k:Nat) (w:World) (hv:cA w v X j) (hu:cA w u Y k) (hj:j≤268435456) (hk:k≤268435456):
  Calls Tryz.prog 63 #[v,u] w fun e w'=>∃ r,e=.returned r/\aD w' w.heap.size r (X * Y)/\aL w w':=by
 obtain ⟨s,p,n,c,rfl⟩:=hv.form
 obtain ⟨t,q,m,d,rfl⟩:=hu.form
 have mr:=hv.len
 have qm:=hu.len
 refine ag (C:=KR Tryz.prog w _) (args:=[_,_]) Tryz.func63 rfl Tryz.ntmps63 (bu rfl) ?_
 refine cf ?_
 refine VO.call rfl rfl (fk Tryz.func96) (fun bD cQ bG=>(kK _ X j bD (hv.jW cQ)).mono ?_)
 rintro e w1 ⟨r1,rfl,h1,aI⟩
 obtain ⟨s1,p1,n1,c1,rfl⟩:=h1.iH
 refine ⟨_,rfl,aI,fun dt _ bb1=>wV rfl ?_⟩
 refine cf ?_
 refine VO.call rfl rfl (fk Tryz.func96) (fun cG dQ cV=>(kK _ Y k cG (hu.jW (dt.aN dQ))).mono ?_)
 rintro e w2 ⟨r2,rfl,h2,ba⟩
 obtain ⟨s2,p2,n2,c2,rfl⟩:=h2.iH
 refine ⟨_,rfl,ba,fun dR _ bb2=>wV rfl ?_⟩
 refine cf ?_
 have e1:=pK h1.RO
 have e2:=pK h2.RO
 have l1:=gS X.natAbs
 have l2:=gS Y.natAbs
 refine VO.call rfl rfl (fk Tryz.func101) (fun eX fF fM=>(jo _ n1 X.natAbs eX (h1.row.jW (dQ.aN ((bH.of ba).aN fF))) (by rw [h1.n];omega)).mono ?_)
 rintro e w3 ⟨p3,c3,rfl,h3,cC⟩
 skip
 refine ⟨_,rfl,cC,fun gZ _ bb3=>wV rfl ?_⟩
 refine cf ?_
 refine VO.call rfl rfl (fk Tryz.func101) (fun jg kZ kt=>(jo _ n2 Y.natAbs jg (h2.row.jW (fF.aN ((bH.of cC).aN kZ))) (by rw [h2.n];omega)).mono ?_)
 rintro e w4 ⟨p4,c4,rfl,h4,fq⟩
 skip
 refine ⟨_,rfl,fq,fun lz _ tH=>wV rfl ?_⟩
 refine cf ?_
 refine VO.call rfl rfl (fk Tryz.func100) (fun gE ju ia=>(xS _ _ _ _ (halves X.natAbs) (halves Y.natAbs) gE (Rd.own (yt.kp h3 (kZ.aN ((bH.of fq).aN ju)))) (Rd.own (yt.kp h4 ju)) (bT _) (bT _) ab ab).mono ?_)
 rintro e w5 ⟨v5,rfl,h5,eP⟩
 rw [bn,bn] at h5
 obtain ⟨p5,c5,rfl⟩:=h5.form
 have l5:(halves (X.natAbs * Y.natAbs)).length≤1073741824:=by
  refine Nat.le_trans (gS _) ?_
  have:=Sz.mul (X:=X) (Y:=Y) mr qm
  unfold Sz at this
  rw [Int.natAbs_mul] at this
  omega
 refine ⟨_,rfl,eP,fun jV _ qu=>wV rfl ?_⟩
 refine cf ?_
 refine VO.call rfl rfl (fk Tryz.func99) (fun gF ld iC=>(pM _ _ (X.natAbs * Y.natAbs) gF (Rd.own (h5.jW ld).own) ab).mono ?_)
 rintro e w6 ⟨p6,c6,xs6,rfl,h6,hx6,hl6,fK⟩
 skip
 refine ⟨_,rfl,fK,fun lG _ pO=>wV rfl ?_⟩
 refine cf ?_
 refine VO.call rfl rfl (fk Tryz.func92) (fun mW tJ lH=>(jL (!(s1 == s2)) _ _ xs6 mW (Rd.own (OwnU.jW h6 tJ)) hl6 ab).mono ?_)
 rintro e w7 ⟨r7,rfl,h7,lL⟩
 obtain ⟨s7,p7,n7,c7,rfl⟩:=h7.form
 refine ⟨_,rfl,lL,fun sU _ Cy=>wV rfl ?_⟩
 refine cf ?_
 refine vi ?_;intro wz kz bz
 refine ⟨_,rfl,aD.cast ((h7.jW kz).mono lH.size) ?_,bz⟩
 rw [hx6]
 exact SQ e1 e2
theorem Nd {s:Bool} {n:Nat} (h:n≠0):(if s=true then -(n:Int) else n).sign=if s=true then -1 else 1:=by
 cases s
 ·exact fh (by simp;omega)
 ·exact sign_neg (by simp;omega)
theorem div_len {a b:Nat}:(halves (a / b)).length≤(halves a).length:=dY ab (Nat.div_le_self _ _)
theorem mod_len {a b:Nat}:(halves (a % b)).length≤(halves a).length:=dY ab (Nat.mod_le _ _)
theorem Nf {xs:List Nat} {a:Nat} {s:Bool} (hl:cR xs) (hv:ak xs=a):Sz (if s=true then -((ak xs:Nat):Int) else ak xs) xs.length:=by
 unfold Sz
 have:(if s=true then -((ak xs:Nat):Int) else ak xs).natAbs=ak xs:=by cases s <;> simp
 rw [this]
 exact jz hl
theorem nv (v u:Value) (X Y:Int) (j k:Nat) (w:World) (hv:cA w v X j) (hu:cA w u Y k) (hj:j≤134217728) (hk:k≤134217728):
  Calls Tryz.prog 95 #[v,u] w fun e w'=>Bp w w' X Y e/\aL w w':=by
 obtain ⟨s,p,n,c,rfl⟩:=hv.form
 obtain ⟨t,q,m,d,rfl⟩:=hu.form
 have mr:=hv.len
 have qm:=hu.len
 refine ag (C:=KR Tryz.prog w _) (args:=[_,_]) Tryz.func95 rfl Tryz.ntmps95 (bu rfl) ?_
 refine cf ?_
 refine VO.call rfl rfl (fk Tryz.func96) (fun bD cQ bG=>(kK _ X j bD (hv.jW cQ)).mono ?_)
 rintro e w1 ⟨r1,rfl,h1,aI⟩
 obtain ⟨s1,p1,n1,c1,rfl⟩:=h1.iH
 refine ⟨_,rfl,aI,fun dt _ bb1=>wV rfl ?_⟩
 refine cf ?_
 refine VO.call rfl rfl (fk Tryz.func96) (fun cG dQ cV=>(kK _ Y k cG (hu.jW (dt.aN dQ))).mono ?_)
 rintro e w2 ⟨r2,rfl,h2,ba⟩
 obtain ⟨s2,p2,n2,c2,rfl⟩:=h2.iH
 refine ⟨_,rfl,ba,fun dR _ bb2=>wV rfl ?_⟩
 refine cf ?_
 have e1:=pK h1.RO
 have e2:=pK h2.RO
 have l1:=gS X.natAbs
 have l2:=gS Y.natAbs
 by_cases hY:Y=0
 ·have nM:n2=0:=by rw [h2.n,hY];exact congrArg List.length bV
  refine VS.aP rfl (by rw [beq_iff_eq];omega) ?_
  refine cf ?_
  refine vi ?_;intro wz kz bz
  exact ⟨.inl ⟨hY,_,_,rfl,aD.zero _ _,aD.zero _ _⟩,bz⟩
 ·have hY0:Y.natAbs≠0:=by omega
  have nM:n2≠0:=by rw [h2.n];intro e;exact hY0 (qM e)
  refine VS.aQ rfl (by rw [beq_eq_false_iff_ne];omega) ?_
  refine cf ?_
  refine VO.call rfl rfl (fk Tryz.func101) (fun eX fF fM=>(jo _ n1 X.natAbs eX (h1.row.jW (dQ.aN ((bH.of ba).aN fF))) (by rw [h1.n];omega)).mono ?_)
  rintro e w3 ⟨p3,c3,rfl,h3,cC⟩
  skip
  refine ⟨_,rfl,cC,fun gZ _ bb3=>wV rfl ?_⟩
  refine cf ?_
  refine VO.call rfl rfl (fk Tryz.func101) (fun jg kZ kt=>(jo _ n2 Y.natAbs jg (h2.row.jW (fF.aN ((bH.of cC).aN kZ))) (by rw [h2.n];omega)).mono ?_)
  rintro e w4 ⟨p4,c4,rfl,h4,fq⟩
  skip
  refine ⟨_,rfl,fq,fun lz _ tH=>wV rfl ?_⟩
  refine cf ?_
  refine VO.call rfl rfl (fk Tryz.func119) (fun gE ju ia=>(Bw _ _ _ _ X.natAbs Y.natAbs gE (Rd.own (yt.kp h3 (kZ.aN ((bH.of fq).aN ju)))) (Rd.own (yt.kp h4 ju)) ab ab ab).mono ?_)
  rintro e w5 ⟨p5,c5,q5,d5,rfl,h5,h5',eP⟩
  skip
  refine ⟨_,rfl,eP,fun jV _ qu=>wV rfl ?_⟩
  refine cf ?_
  have l5:(halves (X.natAbs / Y.natAbs)).length≤(halves X.natAbs).length:=div_len
  have l5':(halves (X.natAbs % Y.natAbs)).length≤(halves X.natAbs).length:=mod_len
  refine VO.call rfl rfl (fk Tryz.func99) (fun gF ld iC=>(pM _ _ (X.natAbs / Y.natAbs) gF (Rd.own (yt.kp h5 ld)) ab).mono ?_)
  rintro e w6 ⟨p6,c6,xs6,rfl,h6,hx6,hl6,fK⟩
  skip
  refine ⟨_,rfl,fK,fun lG _ pO=>wV rfl ?_⟩
  refine cf ?_
  refine VO.call rfl rfl (fk Tryz.func92) (fun mW tJ lH=>(jL (!(s1 == s2)) _ _ xs6 mW (Rd.own (OwnU.jW h6 tJ)) hl6 ab).mono ?_)
  rintro e w7 ⟨r7,rfl,h7,lL⟩
  obtain ⟨s7,p7,n7,c7,rfl⟩:=h7.form
  refine ⟨_,rfl,lL,fun sU _ Cy=>wV rfl ?_⟩
  refine cf ?_
  refine VO.call rfl rfl (fk Tryz.func99) (fun sD Fc wj=>(pM _ _ (X.natAbs % Y.natAbs) sD (Rd.own (yt.kp h5' (ld.aN ((bH.of fK).aN (tJ.aN ((bH.of lL).aN Fc)))))) ab).mono ?_)
  rintro e w8 ⟨p8,c8,xs8,rfl,h8,hx8,hl8,qf⟩
  skip
  refine ⟨_,rfl,qf,fun wk _ Kd=>wV rfl ?_⟩
  refine cf ?_
  refine VO.call rfl rfl (fk Tryz.func92) (fun wa9 ka9 ba9=>(jL s1 _ _ xs8 wa9 (Rd.own (OwnU.jW h8 ka9)) hl8 ab).mono ?_)
  rintro e w9 ⟨r9,rfl,h9,ME⟩
  obtain ⟨s9,p9,n9,c9,rfl⟩:=h9.form
  refine ⟨_,rfl,ME,fun Ff _ bb9=>wV rfl ?_⟩
  refine cf ?_
  have z7:Sz (if (!(s1 == s2))=true then -((ak xs6:Nat):Int) else ak xs6) xs6.length:=Nf hl6 hx6
  have z9:Sz (if s1=true then -((ak xs8:Nat):Int) else ak xs8) xs8.length:=Nf hl8 hx8
  have lx6:xs6.length≤268435457:=by have:=h6.1;simp at this;omega
  have lx8:xs8.length≤268435457:=by have:=h8.1;simp at this;omega
  rw [hx6] at h7 z7
  rw [hx8] at h9 z9
  have law:=@sa X Y X.natAbs Y.natAbs
  by_cases Ar:X.natAbs % Y.natAbs=0
  ·have s0:(if s1=true then -((X.natAbs % Y.natAbs:Nat):Int) else ((X.natAbs % Y.natAbs:Nat):Int))=0:=by rw [Ar];cases s1 <;> rfl
   rw [s0] at h9 z9
   refine VO.call rfl rfl (fk Tryz.func89) (fun xb Bx Lf=>(di _ 0 _ xb ((h9.jW Bx).in z9) ab).mono ?_)
   rintro e w10 ⟨rfl,xc⟩
   skip
   refine ⟨_,rfl,xc,fun jv _ PG=>wV rfl ?_⟩
   (repeat (first | refine wN ?_ | refine wP rfl ?_ | refine DT rfl ?_ | refine wO rfl rfl ?_))
   refine VS.Iq (pJ _ _) (ma _ _) 5 rfl ?_
   (repeat' (first | refine VA.go rfl ?_ | refine VA.fin rfl ?_ | refine VA.ft _ rfl rfl ?_ | refine VA.cons rfl ?_ ?_ | exact VA.nil rfl))
   all_goals
    refine cf ?_
    refine vi ?_;intro wz kz bz
    obtain ⟨g1,g2⟩:=law e1 e2 hY0 (.inl ⟨.inr Ar,rfl,rfl⟩)
    refine ⟨.inr ⟨hY,_,_,rfl,aD.cast ((h7.jW (wk.aN (Ff.aN (jv.aN kz)))).mono lH.size) g1.symm,aD.cast ((h9.jW (jv.aN kz)).mono ba9.size) ?_⟩,bz⟩
    rw [g2,Ar]
    cases s2 <;> rfl
  ·have sy:=Nd (s:=s2) hY0
   rw [<-e2] at sy
   have sr:=Nd (s:=s1) Ar
   rcases hs12:(s1,s2) with ⟨_ | _,_ | _⟩ <;> cases hs12
   ·replace sr:(if false=true then -((X.natAbs % Y.natAbs:Nat):Int) else ((X.natAbs % Y.natAbs:Nat):Int)).sign=1:=sr
    replace sy:Y.sign=1:=sy
    refine VO.call rfl rfl (fk Tryz.func89) (fun xb Bx Lf=>(di _ _ _ xb ((h9.jW Bx).in z9) ab).mono ?_)
    rintro e w10 ⟨rfl,xc⟩
    rw [sr]
    refine ⟨_,rfl,xc,fun jv _ PG=>wV rfl ?_⟩
    refine cf ?_
    refine VO.call rfl rfl (fk Tryz.func89) (fun yu xd SR=>(di _ _ _ yu ((h9.jW (jv.aN xd)).in z9) ab).mono ?_)
    rintro e w11 ⟨rfl,Bz⟩
    rw [sr]
    refine ⟨_,rfl,Bz,fun nZ _ SS=>wV rfl ?_⟩
    refine cf ?_
    refine VO.call rfl rfl (fk Tryz.func89) (fun BA Fg PH=>(di _ Y k BA ((h2.jW (gZ.aN (lz.aN (jV.aN (lG.aN (sU.aN (wk.aN (Ff.aN (jv.aN (nZ.aN Fg)))))))))).to qm) ab).mono ?_)
    rintro e w12 ⟨rfl,BB⟩
    rw [sy]
    refine ⟨_,rfl,BB,fun rB _ SV=>wV rfl ?_⟩
    (repeat (first | refine wN ?_ | refine wP rfl ?_ | refine DT rfl ?_ | refine wO rfl rfl ?_))
    refine VS.Iq (pJ _ _) (ma _ _) 5 rfl ?_
    (repeat' (first | refine VA.go rfl ?_ | refine VA.fin rfl ?_ | refine VA.ft _ rfl rfl ?_ | refine VA.cons rfl ?_ ?_ | exact VA.nil rfl))
    all_goals
     refine cf ?_
     refine vi ?_;intro wz kz bz
     obtain ⟨g1,g2⟩:=law e1 e2 hY0 (.inl ⟨.inl rfl,rfl,rfl⟩)
     exact ⟨.inr ⟨hY,_,_,rfl,aD.cast ((h7.jW (wk.aN (Ff.aN (jv.aN (nZ.aN (rB.aN kz)))))).mono lH.size) g1.symm,aD.cast ((h9.jW (jv.aN (nZ.aN (rB.aN kz)))).mono ba9.size) g2.symm⟩,bz⟩
   ·replace sr:(if false=true then -((X.natAbs % Y.natAbs:Nat):Int) else ((X.natAbs % Y.natAbs:Nat):Int)).sign=1:=sr
    replace sy:Y.sign= -1:=sy
    refine VO.call rfl rfl (fk Tryz.func89) (fun xb Bx Lf=>(di _ _ _ xb ((h9.jW Bx).in z9) ab).mono ?_)
    rintro e w10 ⟨rfl,xc⟩
    rw [sr]
    refine ⟨_,rfl,xc,fun jv _ PG=>wV rfl ?_⟩
    refine cf ?_
    refine VO.call rfl rfl (fk Tryz.func89) (fun yu xd SR=>(di _ _ _ yu ((h9.jW (jv.aN xd)).in z9) ab).mono ?_)
    rintro e w11 ⟨rfl,Bz⟩
    rw [sr]
    refine ⟨_,rfl,Bz,fun nZ _ SS=>wV rfl ?_⟩
    refine cf ?_
    refine VO.call rfl rfl (fk Tryz.func89) (fun BA Fg PH=>(di _ Y k BA ((h2.jW (gZ.aN (lz.aN (jV.aN (lG.aN (sU.aN (wk.aN (Ff.aN (jv.aN (nZ.aN Fg)))))))))).to qm) ab).mono ?_)
    rintro e w12 ⟨rfl,BB⟩
    rw [sy]
    refine ⟨_,rfl,BB,fun rB _ SV=>wV rfl ?_⟩
    refine cf ?_
    refine VO.call rfl rfl (fk Tryz.func59) (fun Lg ka13 SW=>(lM 1 Lg ab ab).mono ?_)
    rintro e qG ⟨r13,rfl,h13,Lh⟩
    obtain ⟨s13,p13,n13,c13,rfl⟩:=h13.form
    refine ⟨_,rfl,Lh,fun BC _ bb13=>wV rfl ?_⟩
    refine cf ?_
    refine VO.call rfl rfl (fk Tryz.func120) (fun SX PI ba14=>(IL _ _ _ 1 _ 1 SX (((h7.jW (wk.aN (Ff.aN (jv.aN (nZ.aN (rB.aN (BC.aN PI))))))).in z7)) ((h13.jW PI).in (Sz.small bW)) ab ab).mono ?_)
    rintro e Li ⟨r14,rfl,h14,SY⟩
    obtain ⟨s14,p14,n14,c14,rfl⟩:=h14.form
    refine ⟨_,rfl,SY,fun PJ _ bb14=>wV rfl ?_⟩
    refine cf ?_
    refine VO.call rfl rfl (fk Tryz.func62) (fun wa15 SZ ba15=>(vf _ _ _ Y _ k wa15 ((h9.jW (jv.aN (nZ.aN (rB.aN (BC.aN (PJ.aN SZ)))))).in z9) ((h2.jW (gZ.aN (lz.aN (jV.aN (lG.aN (sU.aN (wk.aN (Ff.aN (jv.aN (nZ.aN (rB.aN (BC.aN (PJ.aN SZ))))))))))))).to qm) ab ab).mono ?_)
    rintro e w15 ⟨r15,rfl,h15,hb15⟩
    obtain ⟨s15,p15,n15,c15,rfl⟩:=h15.form
    refine ⟨_,rfl,hb15,fun kb15 _ bb15=>wV rfl ?_⟩
    (repeat (first | refine wN ?_ | refine wP rfl ?_ | refine DT rfl ?_ | refine wO rfl rfl ?_))
    refine VS.Iq (pJ _ _) (ma _ _) 5 rfl ?_
    (repeat' (first | refine VA.go rfl ?_ | refine VA.fin rfl ?_ | refine VA.ft _ rfl rfl ?_ | refine VA.cons rfl ?_ ?_ | exact VA.nil rfl))
    all_goals
     refine cf ?_
     refine vi ?_;intro wz kz bz
     have hlt:=Nat.mod_lt X.natAbs (show 0 < Y.natAbs by omega)
     obtain ⟨g1,g2⟩:=law e1 e2 hY0 (.inr ⟨by simp,Ar,rfl,rfl⟩)
     refine ⟨.inr ⟨hY,_,_,rfl,aD.cast ((h14.jW (kb15.aN kz)).mono ba14.size) ?_,aD.cast ((h15.jW kz).mono ba15.size) ?_⟩,bz⟩
     ·rw [g1];simp;omega
     ·rw [g2];simp at e1 e2 ⊢;omega
   ·replace sr:(if true=true then -((X.natAbs % Y.natAbs:Nat):Int) else ((X.natAbs % Y.natAbs:Nat):Int)).sign= -1:=sr
    replace sy:Y.sign=1:=sy
    refine VO.call rfl rfl (fk Tryz.func89) (fun xb Bx Lf=>(di _ _ _ xb ((h9.jW Bx).in z9) ab).mono ?_)
    rintro e w10 ⟨rfl,xc⟩
    rw [sr]
    refine ⟨_,rfl,xc,fun jv _ PG=>wV rfl ?_⟩
    refine cf ?_
    refine VO.call rfl rfl (fk Tryz.func89) (fun yu xd SR=>(di _ _ _ yu ((h9.jW (jv.aN xd)).in z9) ab).mono ?_)
    rintro e w11 ⟨rfl,Bz⟩
    rw [sr]
    refine ⟨_,rfl,Bz,fun nZ _ SS=>wV rfl ?_⟩
    refine cf ?_
    refine VO.call rfl rfl (fk Tryz.func89) (fun BA Fg PH=>(di _ Y k BA ((h2.jW (gZ.aN (lz.aN (jV.aN (lG.aN (sU.aN (wk.aN (Ff.aN (jv.aN (nZ.aN Fg)))))))))).to qm) ab).mono ?_)
    rintro e w12 ⟨rfl,BB⟩
    rw [sy]
    refine ⟨_,rfl,BB,fun rB _ SV=>wV rfl ?_⟩
    refine cf ?_
    refine VO.call rfl rfl (fk Tryz.func59) (fun Lg ka13 SW=>(lM 1 Lg ab ab).mono ?_)
    rintro e qG ⟨r13,rfl,h13,Lh⟩
    obtain ⟨s13,p13,n13,c13,rfl⟩:=h13.form
    refine ⟨_,rfl,Lh,fun BC _ bb13=>wV rfl ?_⟩
    refine cf ?_
    refine VO.call rfl rfl (fk Tryz.func120) (fun SX PI ba14=>(IL _ _ _ 1 _ 1 SX (((h7.jW (wk.aN (Ff.aN (jv.aN (nZ.aN (rB.aN (BC.aN PI))))))).in z7)) ((h13.jW PI).in (Sz.small bW)) ab ab).mono ?_)
    rintro e Li ⟨r14,rfl,h14,SY⟩
    obtain ⟨s14,p14,n14,c14,rfl⟩:=h14.form
    refine ⟨_,rfl,SY,fun PJ _ bb14=>wV rfl ?_⟩
    refine cf ?_
    refine VO.call rfl rfl (fk Tryz.func62) (fun wa15 SZ ba15=>(vf _ _ _ Y _ k wa15 ((h9.jW (jv.aN (nZ.aN (rB.aN (BC.aN (PJ.aN SZ)))))).in z9) ((h2.jW (gZ.aN (lz.aN (jV.aN (lG.aN (sU.aN (wk.aN (Ff.aN (jv.aN (nZ.aN (rB.aN (BC.aN (PJ.aN SZ))))))))))))).to qm) ab ab).mono ?_)
    rintro e w15 ⟨r15,rfl,h15,hb15⟩
    obtain ⟨s15,p15,n15,c15,rfl⟩:=h15.form
    refine ⟨_,rfl,hb15,fun kb15 _ bb15=>wV rfl ?_⟩
    (repeat (first | refine wN ?_ | refine wP rfl ?_ | refine DT rfl ?_ | refine wO rfl rfl ?_))
    refine VS.Iq (pJ _ _) (ma _ _) 5 rfl ?_
    (repeat' (first | refine VA.go rfl ?_ | refine VA.fin rfl ?_ | refine VA.ft _ rfl rfl ?_ | refine VA.cons rfl ?_ ?_ | exact VA.nil rfl))
    all_goals
     refine cf ?_
     refine vi ?_;intro wz kz bz
     have hlt:=Nat.mod_lt X.natAbs (show 0 < Y.natAbs by omega)
     obtain ⟨g1,g2⟩:=law e1 e2 hY0 (.inr ⟨by simp,Ar,rfl,rfl⟩)
     refine ⟨.inr ⟨hY,_,_,rfl,aD.cast ((h14.jW (kb15.aN kz)).mono ba14.size) ?_,aD.cast ((h15.jW kz).mono ba15.size) ?_⟩,bz⟩
     ·rw [g1];simp;omega
     ·rw [g2];simp at e1 e2 ⊢;omega
   ·replace sr:(if true=true then -((X.natAbs % Y.natAbs:Nat):Int) else ((X.natAbs % Y.natAbs:Nat):Int)).sign= -1:=sr
    replace sy:Y.sign= -1:=sy
    refine VO.call rfl rfl (fk Tryz.func89) (fun xb Bx Lf=>(di _ _ _ xb ((h9.jW Bx).in z9) ab).mono ?_)
    rintro e w10 ⟨rfl,xc⟩
    rw [sr]
    refine ⟨_,rfl,xc,fun jv _ PG=>wV rfl ?_⟩
    refine cf ?_
    refine VO.call rfl rfl (fk Tryz.func89) (fun yu xd SR=>(di _ _ _ yu ((h9.jW (jv.aN xd)).in z9) ab).mono ?_)
    rintro e w11 ⟨rfl,Bz⟩
    rw [sr]
    refine ⟨_,rfl,Bz,fun nZ _ SS=>wV rfl ?_⟩
    refine cf ?_
    refine VO.call rfl rfl (fk Tryz.func89) (fun BA Fg PH=>(di _ Y k BA ((h2.jW (gZ.aN (lz.aN (jV.aN (lG.aN (sU.aN (wk.aN (Ff.aN (jv.aN (nZ.aN Fg)))))))))).to qm) ab).mono ?_)
    rintro e w12 ⟨rfl,BB⟩
    rw [sy]
    refine ⟨_,rfl,BB,fun rB _ SV=>wV rfl ?_⟩
    (repeat (first | refine wN ?_ | refine wP rfl ?_ | refine DT rfl ?_ | refine wO rfl rfl ?_))
    refine VS.Iq (pJ _ _) (ma _ _) 5 rfl ?_
    (repeat' (first | refine VA.go rfl ?_ | refine VA.fin rfl ?_ | refine VA.ft _ rfl rfl ?_ | refine VA.cons rfl ?_ ?_ | exact VA.nil rfl))
    all_goals
     refine cf ?_
     refine vi ?_;intro wz kz bz
     obtain ⟨g1,g2⟩:=law e1 e2 hY0 (.inl ⟨.inl rfl,rfl,rfl⟩)
     exact ⟨.inr ⟨hY,_,_,rfl,aD.cast ((h7.jW (wk.aN (Ff.aN (jv.aN (nZ.aN (rB.aN kz)))))).mono lH.size) g1.symm,aD.cast ((h9.jW (jv.aN (nZ.aN (rB.aN kz)))).mono ba9.size) g2.symm⟩,bz⟩
set_option maxRecDepth 4000
theorem gcd_len {a b N:Nat} (hb:b≠0) (ha:(halves a).length≤N) (hbl:(halves b).length≤N):(halves (a % b)).length≤N:=Nat.le_trans (dY ab (Nat.le_of_lt (Nat.mod_lt a (Nat.pos_of_ne_zero hb)))) hbl
theorem iD {P:Prop} (h:P:=by (repeat first|exact trivial|refine ⟨gh.lit rfl,?_⟩|refine ⟨gh.vals _,?_⟩)):P:=h
theorem BD (v u:Value) (X Y:Int) (j k:Nat) (w:World) (hv:cA w v X j) (hu:cA w u Y k) (hj:j≤268435456) (hk:k≤268435456):
  Calls Tryz.prog 94 #[v,u] w fun e w'=>∃ r,e=.returned r/\aD w' w.heap.size r (Int.gcd X Y:Int)/\aL w w':=by
 obtain ⟨s,p,n,c,rfl⟩:=hv.form
 obtain ⟨t,q,m,d,rfl⟩:=hu.form
 have mr:=hv.len
 have qm:=hu.len
 have l1:=gS X.natAbs
 have l2:=gS Y.natAbs
 refine ag (C:=KR Tryz.prog w _) (args:=[_,_]) Tryz.func94 rfl Tryz.ntmps94 (bu rfl) ?_
 refine cf ?_
 refine VO.call rfl rfl (fk Tryz.func96) (fun bD cQ bG=>(kK _ X j bD (hv.jW cQ)).mono ?_)
 rintro e w1 ⟨r1,rfl,h1,aI⟩
 obtain ⟨s1,p1,n1,c1,rfl⟩:=h1.iH
 refine ⟨_,rfl,aI,fun dt _ bb1=>wV rfl ?_⟩
 refine cf ?_
 refine VO.call rfl rfl (fk Tryz.func101) (fun eX fF fM=>(jo _ n1 X.natAbs eX (h1.row.jW fF) (by rw [h1.n];omega)).mono ?_)
 rintro e w3 ⟨p3,c3,rfl,h3,cC⟩
 skip
 refine ⟨_,rfl,cC,fun gZ _ bb3=>wV rfl ?_⟩
 refine cf ?_
 refine VO.call rfl rfl (fk Tryz.func96) (fun cG dQ cV=>(kK _ Y k cG (hu.jW (dt.aN (gZ.aN dQ)))).mono ?_)
 rintro e w2 ⟨r2,rfl,h2,ba⟩
 obtain ⟨s2,p2,n2,c2,rfl⟩:=h2.iH
 refine ⟨_,rfl,ba,fun dR _ bb2=>wV rfl ?_⟩
 refine cf ?_
 refine VO.call rfl rfl (fk Tryz.func101) (fun jg kZ kt=>(jo _ n2 Y.natAbs jg (h2.row.jW kZ) (by rw [h2.n];omega)).mono ?_)
 rintro e w4 ⟨p4,c4,rfl,h4,fq⟩
 skip
 refine ⟨_,rfl,fq,fun lz _ tH=>wV rfl ?_⟩
 refine cf ?_
 refine VS.loop (J:=fun ms L M w'=>∃ (a b:Nat) (px:Option Addr) (cx:Nat) (py:Option Addr) (cy:Nat),ms=b/\Nat.gcd a b=Int.gcd X Y/\L=[(4,.box 4 0),(5,.val (.slice px (halves a).length cx)),(6,.val (.slice py (halves b).length cy))]/\M=[(4,(53,([.bool false,.slice none 0 0]:List Value).map .val))]/\
  (halves a).length≤536870912/\(halves b).length≤536870912/\w'.ownsRow w.heap.size 3 1 (.slice px (halves a).length cx) (halves a).length (ints .i64 (halves a))/\w'.ownsRow w.heap.size 3 1 (.slice py (halves b).length cy) (halves b).length (ints .i64 (halves b))) Y.natAbs
  ⟨_,_,?_,?_,?_,?_,⟨X.natAbs,Y.natAbs,p3,c3,p4,c4,rfl,rfl,rfl,rfl,by omega,by omega,yt.kp (Own.mono h3 fM.size) (dR.aN lz),Own.mono h4 kt.size⟩⟩ ?_
 ·exact cd
 ·exact cd
 ·rfl
 ·exact iD
 rintro ms L M w' ⟨a,b,px,cx,py,cy,hms,hg,rfl,rfl,la,lb,oa,ob⟩
 refine cf ?_
 by_cases ou:b=0
 ·subst ou
  have Cv:(halves 0).length=0:=by rw [np];rfl
  refine VS.aQ rfl (decide_eq_false (by rw [Cv];omega)) ?_
  refine cf ?_
  refine VO.call rfl rfl (fk Tryz.func99) (fun gF ld iC=>(pM _ _ a gF (Rd.own (yt.kp oa ld)) ab).mono ?_)
  rintro e w6 ⟨p6,c6,xs6,rfl,h6,hx6,hl6,fK⟩
  skip
  refine ⟨_,rfl,fK,fun lG _ pO=>wV rfl ?_⟩
  refine cf ?_
  refine VO.call rfl rfl (fk Tryz.func92) (fun mW tJ lH=>(jL false _ _ xs6 mW (Rd.own (OwnU.jW h6 tJ)) hl6 ab).mono ?_)
  rintro e w7 ⟨r7,rfl,h7,lL⟩
  obtain ⟨s7,p7,n7,c7,rfl⟩:=h7.form
  refine ⟨_,rfl,lL,fun sU _ Cy=>wV rfl ?_⟩
  refine cf ?_
  refine vi ?_;intro wz kz bz
  refine ⟨_,rfl,aD.cast ((h7.jW kz).mono lH.size) ?_,bz⟩
  rw [hx6,<-hg,Nat.gcd_zero_right];rfl
 ·have hlp:0 < (halves b).length:=qb ab ou
  refine VS.aP rfl (decide_eq_true ab) ?_
  refine cf ?_
  refine VO.call rfl rfl (fk Tryz.func119) (fun gE ju ia=>(Bw _ _ _ _ a b gE (Rd.own (yt.kp oa ju)) (Rd.own (yt.kp ob ju)) ab ab ab).mono ?_)
  rintro e w5 ⟨p5,c5,q5,d5,rfl,h5,h5',eP⟩
  skip
  refine ⟨_,rfl,eP,fun jV _ qu=>wV rfl ?_⟩
  refine cf ?_
  refine VS.back (a % b) (by rw [hms];exact Nat.mod_lt _ ab) ⟨_,_,?_,?_,?_,?_,⟨b,a % b,py,cy,q5,d5,rfl,by rw [<-hg,Nat.gcd_comm a b,Nat.gcd_comm b (a % b)];exact (Nat.gcd_rec b a).symm,rfl,rfl,lb,gcd_len ou la lb,yt.kp ob jV,Own.mono h5' ia.size⟩⟩
  ·exact cd
  ·exact cd
  ·rfl
  ·exact iD
end
end Go.Proofs.YtabalinjfgcfeaaGreat
