/-AU of the proof,laid behind one another. -/
import Derived.Test.YtlifeokjcgngjaaGreatKChartTables2
import Derived.Deep.RegionHeld3
import Derived.Deep.RegionLaw
import Derived.Deep.DeepCutAuto
import Derived.BigRegion
set_option linter.all false
set_option maxHeartbeats 64000000
namespace Go.Proofs.YtlifeokjcgngjaaGreat
section
open Go.RowKit
theorem bld_of {P:Program} {t:TypeId} {zero:Value} {places:Array (Nat×Nat)} {fs:Array Field} (hz:∀ w,(zeroValue t).run P w=.ok zero w) (hu:P.underlying t=some (.struct fs))
  (hp:∀ w,(fs.mapM (λf=>do pure (f.offset,<-sizeOf f.type)):Sem (Array (Nat×Nat))).run P w=.ok places w) (ps:Array (Nat×Value)) (w:World) (cs:Array Value)
  (h:Instr.fill (places[·]?) zero.cells ps.toList=some cs):(Instr.build t ps).run P w=.ok (.agg cs) w:=by
 unfold Instr.build
 simp only[Sem.run_bind,hz,Result.andThen_ok,run_underlying hu,hp]
 rw[h]
 rfl
theorem fld_agg {P:Program} {t:TypeId} {k:Nat} {fs:Array Field} {f:Field} (o n:Nat) (hu:P.underlying t=some (.struct fs)) (hf:fs[k]? =some f) (ho:f.offset=o) (hb:∀ w,(isAgg f.type).run P w=.ok true w) (hs:∀ w,(sizeOf f.type).run P w=.ok n w)
  {cs:Array Value} {w:World} {v:Value} (h:some (Value.agg (cs.extract o (o+n)))=some v):(Instr.field t (.agg cs) k).run P w=.ok v w:=by
 cases h
 subst ho
 unfold Instr.field
 simp[run_underlying hu,hf,asAgg,part,hb,hs]
theorem fld_one {P:Program} {t:TypeId} {k:Nat} {fs:Array Field} {f:Field} (o:Nat) (hu:P.underlying t=some (.struct fs)) (hf:fs[k]? =some f) (ho:f.offset=o) (hb:∀ w,(isAgg f.type).run P w=.ok false w)
  {cs:Array Value} {w:World} {v:Value} (h:cs[o]? =some v):(Instr.field t (.agg cs) k).run P w=.ok v w:=by
 subst ho
 unfold Instr.field
 simp[run_underlying hu,hf,asAgg,part,hb,h]
inductive Ir (P:Program) (t:TypeId):Nat->List Field->List (Nat×Nat)->List Bool->Prop
 | nil {j:Nat}:Ir P t j [] [] []
 | cons {j:Nat} {f:Field} {fs:List Field} {p:Nat×Nat} {ps:List (Nat×Nat)} {a:Bool} {gs:List Bool} (h1:∀ b o w,(Instr.fieldAt t (.pointer (some ⟨b,o,none⟩)) j).run P w=.ok (.pointer (some ⟨b,o+p.1,none⟩)) w) (h2:f.offset=p.1) (h3:∀ w,(isAgg f.type).run P w=.ok a w) (h4:a=true->∀ w,(sizeOf f.type).run P w=.ok p.2 w) (h:Ir P t (j+1) fs ps gs):Ir P t j (f::fs) (p::ps) (a::gs)
theorem Ir.get {P:Program} {t:TypeId} {j:Nat} {fs:List Field} {ps:List (Nat×Nat)} {gs:List Bool} (h:Ir P t j fs ps gs):∀ (k:Nat) (p:Nat×Nat),ps[k]? =some p->(∀ b o w,(Instr.fieldAt t (.pointer (some ⟨b,o,none⟩)) (j+k)).run P w=.ok (.pointer (some ⟨b,o+p.1,none⟩)) w)/\∃ f a,fs[k]? =some f/\gs[k]? =some a/\f.offset=p.1/\(∀ w,(isAgg f.type).run P w=.ok a w)/\(a=true->∀ w,(sizeOf f.type).run P w=.ok p.2 w):=by
 induction h with
 | nil=>intro k p e;simp at e
 | cons h1 h2 h3 h4 _ ih=>
   intro k p e
   cases k with
   | zero=>simp at e;cases e;exact⟨h1,_,_,rfl,rfl,h2,h3,h4⟩
   | succ k=>
     have:=ih k p (by simpa using e)
     rw[show ∀ j:Nat,j+1+k=j+(k+1) from λj=>by omega] at this
     simpa using this
@[reducible] def tF (z:Value) (b:Bool) (e:Option (TypeId×Nat)) (k:Option IntKind) (p:Bool):TI:={ size:=1,agg:=false,zero:=z,places:=#[],HW:=#[],bool:=b,elem:=e,kind:=k,ptr:=p }
@[reducible] def tA (n:Nat) (z:Array Value) (p:Array (Nat×Nat)) (a:Array Bool):TI:={ size:=n,agg:=true,zero:=.agg z,places:=p,HW:=a,bool:=false,elem:=none,kind:=none }
theorem okF {P:Program} {t:TypeId} {z:Value} {b:Bool} {e:Option (TypeId×Nat)} {k:Option IntKind} {p:Bool} {d:TypeDesc} (hu:P.underlying t=some d) (hb:b=true->P.underlying t=some .bool:=by intro h;cases h;try kernel_rfl) (hs:∀ c n,e=some (c,n)->P.underlying t=some (.slice c)/\∀ w,(sizeOf c).run P w=.ok n w:=by intro c n h;cases h;try (constructor;kernel_rfl;intro w;kernel_rfl)) (hi:∀ q,k=some q->P.underlying t=some (.int q):=by intro q h;cases h;try kernel_rfl) (hp:p=true->P.underlying t=some (.pointer (P.pointee t)):=by intro h;cases h;try kernel_rfl) (hst:si z=true->P.underlying t=some .string:=by intro h;first|(cases h;done)|kernel_rfl)
  (hr:d.isRow=false:=by rfl) (h1:(P.info? t).map (·.size)=some 1:=by kernel_rfl) (h2:z.cells.size=1:=by rfl) (h3:(P.info? t).map (·.zero)=some (some z):=by kernel_rfl) (h4:(P.info? t).map (λq=>Nat.ble q.bytes (24*1))=some true:=by kernel_rfl) (h5:∀ w,(zeroValue t).run P w=.ok z w:=by intro w;kernel_rfl):TI.Ok P t (tF z b e k p) where
 row:=⟨_,hu,hr⟩
 isBool:=hb
 isSlice:=hs
 isInt:=hi
 Gb:=hp
 isStr:=hst
 yA:=h2
 Bz:=h3
 bytes:=h4
 pos:=Nat.le_refl 1
 lone:=λ_=>rfl
 size:=h1
 zero:=h5
 Ku:=λk p hp b o w=>by simp at hp
 fld:=λk p hp cs w v hv=>by simp at hp
 bld:=λh=>by cases h
theorem lF {P:Program} {t:TypeId} {n:Nat} {z:Array Value} {p:Array (Nat×Nat)} {a:Array Bool} {fs:Array Field} (hu:P.underlying t=some (.struct fs)) (hf:Ir P t 0 fs.toList p.toList a.toList:=by repeat first|exact .nil|refine .cons (λb o w=>by kernel_rfl) rfl (λw=>by kernel_rfl) (by intro h;cases h;try (intro w;kernel_rfl)) ?_)
  (h1:(P.info? t).map (·.size)=some n:=by kernel_rfl) (h2:z.size=n:=by rfl) (h3:(P.info? t).map (·.zero)=some (some (.agg z)):=by kernel_rfl) (h4:(P.info? t).map (λq=>Nat.ble q.bytes (24*n))=some true:=by kernel_rfl) (h5:∀ w,(zeroValue t).run P w=.ok (.agg z) w:=by intro w;kernel_rfl) (h6:0<n:=by exact bP rfl) (h7:∀ w,(fs.mapM (λf=>do pure (f.offset,<-sizeOf f.type)):Sem (Array (Nat×Nat))).run P w=.ok p w:=by intro w;kernel_rfl):TI.Ok P t (tA n z p a) where
 row:=⟨_,hu,rfl⟩
 isBool:=λh=>by cases h
 isSlice:=λe n h=>by cases h
 isInt:=λk h=>by cases h
 yA:=h2
 Bz:=h3
 bytes:=h4
 pos:=h6
 lone:=λh=>by cases h
 size:=h1
 zero:=h5
 Ku:=λk q hq b o w=>by
  have:=(hf.get k q (by simpa using hq)).1 b o w
  rwa [Nat.zero_add] at this
 fld:=λk q hq cs w v hv=>by
  obtain⟨_,f,x,e1,e2,e3,e4,e5⟩:=hf.get k q (by simpa using hq)
  rw[Array.getElem?_toList] at e1 e2
  rw[e2] at hv
  cases x
  ·exact fld_one q.1 hu e1 e3 e4 hv
  ·exact fld_agg q.1 q.2 hu e1 e3 e4 (e5 rfl) hv
 bld:=λ_=>bld_of h5 hu h7
theorem tb {P:Program} {t u:TypeId} {i x:TI} {r:Option TI} (hk:TI.Ok P u i) (hr:r=some x->TI.Ok P t x) (h:(bif Nat.beq t u then some i else r)=some x):TI.Ok P t x:=by
 cases hb:Nat.beq t u
 ·rw[hb] at h;exact hr h
 ·rw[hb] at h;cases h;rw[Nat.eq_of_beq_eq_true hb];exact hk
def ti0:TI:=tF (.int .i64 0) false none (some .i64) false
theorem ok0:TI.Ok Tryz.prog 2 ti0:=okF Tryz.underlying2
def ti1:TI:=tF (.int .i64 0) false none (some .i64) false
theorem ok1:TI.Ok Tryz.prog 3 ti1:=okF Tryz.underlying3
def ti2:TI:=tF (.bool false) true none none false
theorem ok2:TI.Ok Tryz.prog 4 ti2:=okF Tryz.underlying4
def ti3:TI:=tF (.int .u8 0) false none (some .u8) false
theorem ok3:TI.Ok Tryz.prog 5 ti3:=okF Tryz.underlying5
def ti4:TI:=tF (.string ⟨#[]⟩) false none none false
theorem ok4:TI.Ok Tryz.prog 9 ti4:=okF Tryz.underlying9
def ti5:TI:=tF (.int .u64 0) false none (some .u64) false
theorem ok5:TI.Ok Tryz.prog 12 ti5:=okF Tryz.underlying12
def ti6:TI:=tF (.slice none 0 0) false (some (127,8)) none false
theorem ok6:TI.Ok Tryz.prog 22 ti6:=okF Tryz.underlying22
def ti7:TI:=tF (.slice none 0 0) false (some (78,1)) none false
theorem ok7:TI.Ok Tryz.prog 23 ti7:=okF Tryz.underlying23
def ti8:TI:=tA 2 #[.bool false,.slice none 0 0] #[(0,1),(1,1)] #[false,false]
theorem ok8:TI.Ok Tryz.prog 25 ti8:=lF Tryz.underlying25
def ti9:TI:=tA 4 #[.bool false,.slice none 0 0,.bool false,.slice none 0 0] #[(0,2),(2,2)] #[true,true]
theorem ok9:TI.Ok Tryz.prog 27 ti9:=lF Tryz.underlying27
def ti10:TI:=tF (.slice none 0 0) false (some (64,6)) none false
theorem ok10:TI.Ok Tryz.prog 28 ti10:=okF Tryz.underlying28
def ti11:TI:=tF (.slice none 0 0) false (some (9,1)) none false
theorem ok11:TI.Ok Tryz.prog 29 ti11:=okF Tryz.underlying29
def ti12:TI:=tF (.slice none 0 0) false (some (99,6)) none false
theorem ok12:TI.Ok Tryz.prog 30 ti12:=okF Tryz.underlying30
def ti13:TI:=tA 25 #[.string ⟨#[]⟩,.string ⟨#[]⟩,.slice none 0 0,.bool false,.slice none 0 0,.bool false,.slice none 0 0,.bool false,.slice none 0 0,.bool false,.slice none 0 0,.int .i64 0,.int .i64 0,.bool false,.slice none 0 0,.bool false,.slice none 0 0,.bool false,.slice none 0 0,.bool false,.slice none 0 0,.int .i64 0,.slice none 0 0,.slice none 0 0,.slice none 0 0] #[(0,1),(1,1),(2,1),(3,4),(7,4),(11,1),(12,1),(13,4),(17,4),(21,1),(22,1),(23,1),(24,1)] #[false,false,false,true,true,false,false,true,true,false,false,false,false]
theorem ok13:TI.Ok Tryz.prog 32 ti13:=lF Tryz.underlying32
def ti14:TI:=tF (.slice none 0 0) false (some (129,8)) none false
theorem ok14:TI.Ok Tryz.prog 35 ti14:=okF Tryz.underlying35
def ti15:TI:=tA 2 #[.bool false,.slice none 0 0] #[(0,1),(1,1)] #[false,false]
theorem ok15:TI.Ok Tryz.prog 36 ti15:=lF Tryz.underlying36
def ti16:TI:=tA 4 #[.bool false,.slice none 0 0,.bool false,.slice none 0 0] #[(0,2),(2,2)] #[true,true]
theorem ok16:TI.Ok Tryz.prog 38 ti16:=lF Tryz.underlying38
def ti17:TI:=tF (.slice none 0 0) false (some (67,6)) none false
theorem ok17:TI.Ok Tryz.prog 39 ti17:=okF Tryz.underlying39
def ti18:TI:=tF (.slice none 0 0) false (some (136,6)) none false
theorem ok18:TI.Ok Tryz.prog 40 ti18:=okF Tryz.underlying40
def ti19:TI:=tA 25 #[.string ⟨#[]⟩,.string ⟨#[]⟩,.slice none 0 0,.bool false,.slice none 0 0,.bool false,.slice none 0 0,.bool false,.slice none 0 0,.bool false,.slice none 0 0,.int .i64 0,.int .i64 0,.bool false,.slice none 0 0,.bool false,.slice none 0 0,.bool false,.slice none 0 0,.bool false,.slice none 0 0,.int .i64 0,.slice none 0 0,.slice none 0 0,.slice none 0 0] #[(0,1),(1,1),(2,1),(3,4),(7,4),(11,1),(12,1),(13,4),(17,4),(21,1),(22,1),(23,1),(24,1)] #[false,false,false,true,true,false,false,true,true,false,false,false,false]
theorem ok19:TI.Ok Tryz.prog 42 ti19:=lF Tryz.underlying42
def ti20:TI:=tF (.slice none 0 0) false (some (147,1)) none false
theorem ok20:TI.Ok Tryz.prog 44 ti20:=okF Tryz.underlying44
def ti21:TI:=tA 1 #[.slice none 0 0] #[(0,1)] #[false]
theorem ok21:TI.Ok Tryz.prog 46 ti21:=lF Tryz.underlying46
def ti22:TI:=tF (.int .i64 0) false none (some .i64) false
theorem ok22:TI.Ok Tryz.prog 47 ti22:=okF Tryz.underlying47
def ti23:TI:=tF (.slice none 0 0) false (some (105,1)) none false
theorem ok23:TI.Ok Tryz.prog 50 ti23:=okF Tryz.underlying50
def ti24:TI:=tA 1 #[.slice none 0 0] #[(0,1)] #[false]
theorem ok24:TI.Ok Tryz.prog 52 ti24:=lF Tryz.underlying52
def ti25:TI:=tA 6 #[.string ⟨#[]⟩,.int .u8 0,.bool false,.slice none 0 0,.bool false,.slice none 0 0] #[(0,1),(1,1),(2,4)] #[false,false,true]
theorem ok25:TI.Ok Tryz.prog 64 ti25:=lF Tryz.underlying64
def ti26:TI:=tA 6 #[.string ⟨#[]⟩,.int .u8 0,.bool false,.slice none 0 0,.bool false,.slice none 0 0] #[(0,1),(1,1),(2,4)] #[false,false,true]
theorem ok26:TI.Ok Tryz.prog 67 ti26:=lF Tryz.underlying67
def ti27:TI:=tF (.slice none 0 0) false (some (76,9)) none false
theorem ok27:TI.Ok Tryz.prog 68 ti27:=okF Tryz.underlying68
def ti28:TI:=tF (.slice none 0 0) false (some (74,9)) none false
theorem ok28:TI.Ok Tryz.prog 71 ti28:=okF Tryz.underlying71
def ti29:TI:=tA 9 #[.int .u8 0,.bool false,.slice none 0 0,.bool false,.slice none 0 0,.bool false,.slice none 0 0,.bool false,.slice none 0 0] #[(0,1),(1,4),(5,4)] #[false,true,true]
theorem ok29:TI.Ok Tryz.prog 74 ti29:=lF Tryz.underlying74
def ti30:TI:=tA 9 #[.int .u8 0,.bool false,.slice none 0 0,.bool false,.slice none 0 0,.bool false,.slice none 0 0,.bool false,.slice none 0 0] #[(0,1),(1,4),(5,4)] #[false,true,true]
theorem ok30:TI.Ok Tryz.prog 76 ti30:=lF Tryz.underlying76
def ti31:TI:=tF (.int .u32 0) false none (some .u32) false
theorem ok31:TI.Ok Tryz.prog 78 ti31:=okF Tryz.underlying78
def ti32:TI:=tF (.slice none 0 0) false (some (52,1)) none false
theorem ok32:TI.Ok Tryz.prog 80 ti32:=okF Tryz.underlying80
def ti33:TI:=tF (.slice none 0 0) false (some (46,1)) none false
theorem ok33:TI.Ok Tryz.prog 81 ti33:=okF Tryz.underlying81
def ti34:TI:=tF (.slice none 0 0) false (some (218,6)) none false
theorem ok34:TI.Ok Tryz.prog 93 ti34:=okF Tryz.underlying93
def ti35:TI:=tF (.slice none 0 0) false (some (103,6)) none false
theorem ok35:TI.Ok Tryz.prog 94 ti35:=okF Tryz.underlying94
def ti36:TI:=tF (.slice none 0 0) false (some (222,10)) none false
theorem ok36:TI.Ok Tryz.prog 95 ti36:=okF Tryz.underlying95
def ti37:TI:=tF (.slice none 0 0) false (some (226,9)) none false
theorem ok37:TI.Ok Tryz.prog 96 ti37:=okF Tryz.underlying96
def ti38:TI:=tF (.slice none 0 0) false (some (230,5)) none false
theorem ok38:TI.Ok Tryz.prog 97 ti38:=okF Tryz.underlying97
def ti39:TI:=tA 6 #[.int .i64 0,.slice none 0 0,.slice none 0 0,.slice none 0 0,.slice none 0 0,.slice none 0 0] #[(0,1),(1,1),(2,1),(3,1),(4,1),(5,1)] #[false,false,false,false,false,false]
theorem ok39:TI.Ok Tryz.prog 99 ti39:=lF Tryz.underlying99
def ti40:TI:=tA 6 #[.string ⟨#[]⟩,.string ⟨#[]⟩,.bool false,.slice none 0 0,.bool false,.slice none 0 0] #[(0,1),(1,1),(2,4)] #[false,false,true]
theorem ok40:TI.Ok Tryz.prog 103 ti40:=lF Tryz.underlying103
def ti41:TI:=tF (.slice none 0 0) false (some (27,4)) none false
theorem ok41:TI.Ok Tryz.prog 105 ti41:=okF Tryz.underlying105
def ti42:TI:=tA 16 #[.bool false,.slice none 0 0,.bool false,.slice none 0 0,.bool false,.slice none 0 0,.bool false,.slice none 0 0,.bool false,.slice none 0 0,.bool false,.slice none 0 0,.bool false,.slice none 0 0,.bool false,.slice none 0 0] #[(0,4),(4,4),(8,4),(12,4)] #[true,true,true,true]
theorem ok42:TI.Ok Tryz.prog 121 ti42:=lF Tryz.underlying121
def ti43:TI:=tA 28 #[.bool false,.slice none 0 0,.bool false,.slice none 0 0,.bool false,.slice none 0 0,.bool false,.slice none 0 0,.bool false,.slice none 0 0,.bool false,.slice none 0 0,.bool false,.slice none 0 0,.bool false,.slice none 0 0,.bool false,.slice none 0 0,.bool false,.slice none 0 0,.bool false,.slice none 0 0,.bool false,.slice none 0 0,.bool false,.slice none 0 0,.bool false,.slice none 0 0] #[(0,16),(16,4),(20,4),(24,4)] #[true,true,true,true]
theorem ok43:TI.Ok Tryz.prog 123 ti43:=lF Tryz.underlying123
def ti44:TI:=tF (.slice none 0 0) false (some (123,28)) none false
theorem ok44:TI.Ok Tryz.prog 124 ti44:=okF Tryz.underlying124
def ti45:TI:=tA 8 #[.bool false,.slice none 0 0,.bool false,.slice none 0 0,.bool false,.slice none 0 0,.bool false,.slice none 0 0] #[(0,4),(4,4)] #[true,true]
theorem ok45:TI.Ok Tryz.prog 127 ti45:=lF Tryz.underlying127
def ti46:TI:=tA 8 #[.bool false,.slice none 0 0,.bool false,.slice none 0 0,.bool false,.slice none 0 0,.bool false,.slice none 0 0] #[(0,4),(4,4)] #[true,true]
theorem ok46:TI.Ok Tryz.prog 129 ti46:=lF Tryz.underlying129
def ti47:TI:=tF (.slice none 0 0) false (some (220,6)) none false
theorem ok47:TI.Ok Tryz.prog 130 ti47:=okF Tryz.underlying130
def ti48:TI:=tF (.slice none 0 0) false (some (141,6)) none false
theorem ok48:TI.Ok Tryz.prog 131 ti48:=okF Tryz.underlying131
def ti49:TI:=tF (.slice none 0 0) false (some (224,10)) none false
theorem ok49:TI.Ok Tryz.prog 132 ti49:=okF Tryz.underlying132
def ti50:TI:=tF (.slice none 0 0) false (some (228,9)) none false
theorem ok50:TI.Ok Tryz.prog 133 ti50:=okF Tryz.underlying133
def ti51:TI:=tF (.slice none 0 0) false (some (232,5)) none false
theorem ok51:TI.Ok Tryz.prog 134 ti51:=okF Tryz.underlying134
def ti52:TI:=tA 6 #[.int .i64 0,.slice none 0 0,.slice none 0 0,.slice none 0 0,.slice none 0 0,.slice none 0 0] #[(0,1),(1,1),(2,1),(3,1),(4,1),(5,1)] #[false,false,false,false,false,false]
theorem ok52:TI.Ok Tryz.prog 136 ti52:=lF Tryz.underlying136
def ti53:TI:=tA 6 #[.string ⟨#[]⟩,.string ⟨#[]⟩,.bool false,.slice none 0 0,.bool false,.slice none 0 0] #[(0,1),(1,1),(2,4)] #[false,false,true]
theorem ok53:TI.Ok Tryz.prog 141 ti53:=lF Tryz.underlying141
def ti54:TI:=tA 2 #[.int .i64 0,.int .i64 0] #[(0,1),(1,1)] #[false,false]
theorem ok54:TI.Ok Tryz.prog 144 ti54:=lF Tryz.underlying144
def ti55:TI:=tF (.slice none 0 0) false (some (38,4)) none false
theorem ok55:TI.Ok Tryz.prog 147 ti55:=okF Tryz.underlying147
def ti56:TI:=tF (.pointer none) false none none true
theorem ok56:TI.Ok Tryz.prog 173 ti56:=okF Tryz.underlying173
def ti57:TI:=tF (.pointer none) false none none true
theorem ok57:TI.Ok Tryz.prog 176 ti57:=okF Tryz.underlying176
def ti58:TI:=tF (.pointer none) false none none true
theorem ok58:TI.Ok Tryz.prog 181 ti58:=okF Tryz.underlying181
def ti59:TI:=tF (.slice none 0 0) false (some (209,28)) none false
theorem ok59:TI.Ok Tryz.prog 192 ti59:=okF Tryz.underlying192
def ti60:TI:=tF (.slice none 0 0) false (some (124,1)) none false
theorem ok60:TI.Ok Tryz.prog 195 ti60:=okF Tryz.underlying195
def ti61:TI:=tF (.slice none 0 0) false (some (192,1)) none false
theorem ok61:TI.Ok Tryz.prog 198 ti61:=okF Tryz.underlying198
def ti62:TI:=tF (.slice none 0 0) false (some (203,9)) none false
theorem ok62:TI.Ok Tryz.prog 202 ti62:=okF Tryz.underlying202
def ti63:TI:=tA 9 #[.int .u8 0,.bool false,.slice none 0 0,.bool false,.slice none 0 0,.bool false,.slice none 0 0,.bool false,.slice none 0 0] #[(0,1),(1,4),(5,4)] #[false,true,true]
theorem ok63:TI.Ok Tryz.prog 203 ti63:=lF Tryz.underlying203
def ti64:TI:=tA 16 #[.bool false,.slice none 0 0,.bool false,.slice none 0 0,.bool false,.slice none 0 0,.bool false,.slice none 0 0,.bool false,.slice none 0 0,.bool false,.slice none 0 0,.bool false,.slice none 0 0,.bool false,.slice none 0 0] #[(0,4),(4,4),(8,4),(12,4)] #[true,true,true,true]
theorem ok64:TI.Ok Tryz.prog 207 ti64:=lF Tryz.underlying207
def ti65:TI:=tA 28 #[.bool false,.slice none 0 0,.bool false,.slice none 0 0,.bool false,.slice none 0 0,.bool false,.slice none 0 0,.bool false,.slice none 0 0,.bool false,.slice none 0 0,.bool false,.slice none 0 0,.bool false,.slice none 0 0,.bool false,.slice none 0 0,.bool false,.slice none 0 0,.bool false,.slice none 0 0,.bool false,.slice none 0 0,.bool false,.slice none 0 0,.bool false,.slice none 0 0] #[(0,16),(16,4),(20,4),(24,4)] #[true,true,true,true]
theorem ok65:TI.Ok Tryz.prog 209 ti65:=lF Tryz.underlying209
def ti66:TI:=tF (.slice none 0 0) false (some (2,1)) none false
theorem ok66:TI.Ok Tryz.prog 213 ti66:=okF Tryz.underlying213
def ti67:TI:=tF (.slice none 0 0) false (some (213,1)) none false
theorem ok67:TI.Ok Tryz.prog 214 ti67:=okF Tryz.underlying214
def ti68:TI:=tA 6 #[.string ⟨#[]⟩,.string ⟨#[]⟩,.bool false,.slice none 0 0,.bool false,.slice none 0 0] #[(0,1),(1,1),(2,4)] #[false,false,true]
theorem ok68:TI.Ok Tryz.prog 218 ti68:=lF Tryz.underlying218
def ti69:TI:=tA 6 #[.string ⟨#[]⟩,.string ⟨#[]⟩,.bool false,.slice none 0 0,.bool false,.slice none 0 0] #[(0,1),(1,1),(2,4)] #[false,false,true]
theorem ok69:TI.Ok Tryz.prog 220 ti69:=lF Tryz.underlying220
def ti70:TI:=tA 10 #[.bool false,.string ⟨#[]⟩,.int .u8 0,.string ⟨#[]⟩,.string ⟨#[]⟩,.string ⟨#[]⟩,.bool false,.slice none 0 0,.bool false,.slice none 0 0] #[(0,1),(1,1),(2,1),(3,1),(4,1),(5,1),(6,4)] #[false,false,false,false,false,false,true]
theorem ok70:TI.Ok Tryz.prog 222 ti70:=lF Tryz.underlying222
def ti71:TI:=tA 10 #[.bool false,.string ⟨#[]⟩,.int .u8 0,.string ⟨#[]⟩,.string ⟨#[]⟩,.string ⟨#[]⟩,.bool false,.slice none 0 0,.bool false,.slice none 0 0] #[(0,1),(1,1),(2,1),(3,1),(4,1),(5,1),(6,4)] #[false,false,false,false,false,false,true]
theorem ok71:TI.Ok Tryz.prog 224 ti71:=lF Tryz.underlying224
def ti72:TI:=tA 9 #[.string ⟨#[]⟩,.bool false,.slice none 0 0,.bool false,.slice none 0 0,.bool false,.slice none 0 0,.bool false,.slice none 0 0] #[(0,1),(1,4),(5,4)] #[false,true,true]
theorem ok72:TI.Ok Tryz.prog 226 ti72:=lF Tryz.underlying226
def ti73:TI:=tA 9 #[.string ⟨#[]⟩,.bool false,.slice none 0 0,.bool false,.slice none 0 0,.bool false,.slice none 0 0,.bool false,.slice none 0 0] #[(0,1),(1,4),(5,4)] #[false,true,true]
theorem ok73:TI.Ok Tryz.prog 228 ti73:=lF Tryz.underlying228
def ti74:TI:=tA 5 #[.string ⟨#[]⟩,.bool false,.slice none 0 0,.bool false,.slice none 0 0] #[(0,1),(1,4)] #[false,true]
theorem ok74:TI.Ok Tryz.prog 230 ti74:=lF Tryz.underlying230
def ti75:TI:=tA 5 #[.string ⟨#[]⟩,.bool false,.slice none 0 0,.bool false,.slice none 0 0] #[(0,1),(1,4)] #[false,true]
theorem ok75:TI.Ok Tryz.prog 232 ti75:=lF Tryz.underlying232
def ti76:TI:=tA 2 #[.bool false,.slice none 0 0] #[(0,2)] #[true]
theorem ok76:TI.Ok Tryz.prog 246 ti76:=lF Tryz.underlying246
def ti77:TI:=tF (.int .u64 0) false none (some .u64) false
theorem ok77:TI.Ok Tryz.prog 250 ti77:=okF Tryz.underlying250
def ti78:TI:=tF (.int .u64 0) false none (some .u64) false
theorem ok78:TI.Ok Tryz.prog 251 ti78:=okF Tryz.underlying251
def ti79:TI:=tF (.pointer none) false none none true
theorem ok79:TI.Ok Tryz.prog 257 ti79:=okF Tryz.underlying257
def ti80:TI:=tF (.pointer none) false none none true
theorem ok80:TI.Ok Tryz.prog 260 ti80:=okF Tryz.underlying260
def ti81:TI:=tF (.pointer none) false none none true
theorem ok81:TI.Ok Tryz.prog 263 ti81:=okF Tryz.underlying263
def ti82:TI:=tF (.pointer none) false none none true
theorem ok82:TI.Ok Tryz.prog 266 ti82:=okF Tryz.underlying266
def ti83:TI:=tF (.pointer none) false none none true
theorem ok83:TI.Ok Tryz.prog 269 ti83:=okF Tryz.underlying269
def ti84:TI:=tF (.pointer none) false none none true
theorem ok84:TI.Ok Tryz.prog 276 ti84:=okF Tryz.underlying276
def ti85:TI:=tF (.slice none 0 0) false (some (284,6)) none false
theorem ok85:TI.Ok Tryz.prog 282 ti85:=okF Tryz.underlying282
def ti86:TI:=tA 6 #[.int .i64 0,.int .i64 0,.bool false,.slice none 0 0,.bool false,.slice none 0 0] #[(0,1),(1,1),(2,4)] #[false,false,true]
theorem ok86:TI.Ok Tryz.prog 284 ti86:=lF Tryz.underlying284
def ti87:TI:=tF (.slice none 0 0) false (some (286,9)) none false
theorem ok87:TI.Ok Tryz.prog 285 ti87:=okF Tryz.underlying285
def ti88:TI:=tA 9 #[.int .u8 0,.bool false,.slice none 0 0,.bool false,.slice none 0 0,.bool false,.slice none 0 0,.bool false,.slice none 0 0] #[(0,1),(1,4),(5,4)] #[false,true,true]
theorem ok88:TI.Ok Tryz.prog 286 ti88:=lF Tryz.underlying286
def ti89:TI:=tF (.pointer none) false none none true
theorem ok89:TI.Ok Tryz.prog 289 ti89:=okF Tryz.underlying289
def ti90:TI:=tA 16 #[.bool false,.slice none 0 0,.bool false,.slice none 0 0,.bool false,.slice none 0 0,.bool false,.slice none 0 0,.bool false,.slice none 0 0,.bool false,.slice none 0 0,.bool false,.slice none 0 0,.bool false,.slice none 0 0] #[(0,16)] #[true]
theorem ok90:TI.Ok Tryz.prog 292 ti90:=lF Tryz.underlying292
def ti91:TI:=tF (.map none) false none none false
theorem ok91:TI.Ok Tryz.prog 293 ti91:=okF Tryz.underlying293
def ti92:TI:=tF (.slice none 0 0) false (some (207,16)) none false
theorem ok92:TI.Ok Tryz.prog 301 ti92:=okF Tryz.underlying301
def ti93:TI:=tF (.slice none 0 0) false (some (3,1)) none false
theorem ok93:TI.Ok Tryz.prog 315 ti93:=okF Tryz.underlying315
def ti94:TI:=tF (.slice none 0 0) false (some (23,1)) none false
theorem ok94:TI.Ok Tryz.prog 321 ti94:=okF Tryz.underlying321
def ti95:TI:=tF (.slice none 0 0) false (some (338,6)) none false
theorem ok95:TI.Ok Tryz.prog 332 ti95:=okF Tryz.underlying332
def ti96:TI:=tA 1 #[.slice none 0 0] #[(0,1)] #[false]
theorem ok96:TI.Ok Tryz.prog 334 ti96:=lF Tryz.underlying334
def ti97:TI:=tA 1 #[.slice none 0 0] #[(0,1)] #[true]
theorem ok97:TI.Ok Tryz.prog 336 ti97:=lF Tryz.underlying336
def ti98:TI:=tA 6 #[.int .i64 0,.int .i64 0,.bool false,.slice none 0 0,.bool false,.slice none 0 0] #[(0,1),(1,1),(2,4)] #[false,false,true]
theorem ok98:TI.Ok Tryz.prog 338 ti98:=lF Tryz.underlying338
def ti99:TI:=tF (.slice none 0 0) false (some (121,16)) none false
theorem ok99:TI.Ok Tryz.prog 353 ti99:=okF Tryz.underlying353
def ti100:TI:=tF (.pointer none) false none none true
theorem ok100:TI.Ok Tryz.prog 379 ti100:=okF Tryz.underlying379
def ti101:TI:=tF (.slice none 0 0) false (some (5,1)) none false
theorem ok101:TI.Ok Tryz.prog 383 ti101:=okF Tryz.underlying383
def ti102:TI:=tA 4 #[.bool false,.slice none 0 0,.bool false,.slice none 0 0] #[(0,4)] #[true]
theorem ok102:TI.Ok Tryz.prog 388 ti102:=lF Tryz.underlying388
def ti103:TI:=tF (.pointer none) false none none true
theorem ok103:TI.Ok Tryz.prog 394 ti103:=okF Tryz.underlying394
def ti104:TI:=tF (.pointer none) false none none true
theorem ok104:TI.Ok Tryz.prog 409 ti104:=okF Tryz.underlying409
def ti105:TI:=tF (.pointer none) false none none true
theorem ok105:TI.Ok Tryz.prog 430 ti105:=okF Tryz.underlying430
def ti106:TI:=tF (.slice none 0 0) false (some (4,1)) none false
theorem ok106:TI.Ok Tryz.prog 440 ti106:=okF Tryz.underlying440
def table (t:TypeId):Option TI:=
 bif Nat.beq t 2 then some ti0 else
 bif Nat.beq t 3 then some ti1 else
 bif Nat.beq t 4 then some ti2 else
 bif Nat.beq t 5 then some ti3 else
 bif Nat.beq t 9 then some ti4 else
 bif Nat.beq t 12 then some ti5 else
 bif Nat.beq t 22 then some ti6 else
 bif Nat.beq t 23 then some ti7 else
 bif Nat.beq t 25 then some ti8 else
 bif Nat.beq t 27 then some ti9 else
 bif Nat.beq t 28 then some ti10 else
 bif Nat.beq t 29 then some ti11 else
 bif Nat.beq t 30 then some ti12 else
 bif Nat.beq t 32 then some ti13 else
 bif Nat.beq t 35 then some ti14 else
 bif Nat.beq t 36 then some ti15 else
 bif Nat.beq t 38 then some ti16 else
 bif Nat.beq t 39 then some ti17 else
 bif Nat.beq t 40 then some ti18 else
 bif Nat.beq t 42 then some ti19 else
 bif Nat.beq t 44 then some ti20 else
 bif Nat.beq t 46 then some ti21 else
 bif Nat.beq t 47 then some ti22 else
 bif Nat.beq t 50 then some ti23 else
 bif Nat.beq t 52 then some ti24 else
 bif Nat.beq t 64 then some ti25 else
 bif Nat.beq t 67 then some ti26 else
 bif Nat.beq t 68 then some ti27 else
 bif Nat.beq t 71 then some ti28 else
 bif Nat.beq t 74 then some ti29 else
 bif Nat.beq t 76 then some ti30 else
 bif Nat.beq t 78 then some ti31 else
 bif Nat.beq t 80 then some ti32 else
 bif Nat.beq t 81 then some ti33 else
 bif Nat.beq t 93 then some ti34 else
 bif Nat.beq t 94 then some ti35 else
 bif Nat.beq t 95 then some ti36 else
 bif Nat.beq t 96 then some ti37 else
 bif Nat.beq t 97 then some ti38 else
 bif Nat.beq t 99 then some ti39 else
 bif Nat.beq t 103 then some ti40 else
 bif Nat.beq t 105 then some ti41 else
 bif Nat.beq t 121 then some ti42 else
 bif Nat.beq t 123 then some ti43 else
 bif Nat.beq t 124 then some ti44 else
 bif Nat.beq t 127 then some ti45 else
 bif Nat.beq t 129 then some ti46 else
 bif Nat.beq t 130 then some ti47 else
 bif Nat.beq t 131 then some ti48 else
 bif Nat.beq t 132 then some ti49 else
 bif Nat.beq t 133 then some ti50 else
 bif Nat.beq t 134 then some ti51 else
 bif Nat.beq t 136 then some ti52 else
 bif Nat.beq t 141 then some ti53 else
 bif Nat.beq t 144 then some ti54 else
 bif Nat.beq t 147 then some ti55 else
 bif Nat.beq t 173 then some ti56 else
 bif Nat.beq t 176 then some ti57 else
 bif Nat.beq t 181 then some ti58 else
 bif Nat.beq t 192 then some ti59 else
 bif Nat.beq t 195 then some ti60 else
 bif Nat.beq t 198 then some ti61 else
 bif Nat.beq t 202 then some ti62 else
 bif Nat.beq t 203 then some ti63 else
 bif Nat.beq t 207 then some ti64 else
 bif Nat.beq t 209 then some ti65 else
 bif Nat.beq t 213 then some ti66 else
 bif Nat.beq t 214 then some ti67 else
 bif Nat.beq t 218 then some ti68 else
 bif Nat.beq t 220 then some ti69 else
 bif Nat.beq t 222 then some ti70 else
 bif Nat.beq t 224 then some ti71 else
 bif Nat.beq t 226 then some ti72 else
 bif Nat.beq t 228 then some ti73 else
 bif Nat.beq t 230 then some ti74 else
 bif Nat.beq t 232 then some ti75 else
 bif Nat.beq t 246 then some ti76 else
 bif Nat.beq t 250 then some ti77 else
 bif Nat.beq t 251 then some ti78 else
 bif Nat.beq t 257 then some ti79 else
 bif Nat.beq t 260 then some ti80 else
 bif Nat.beq t 263 then some ti81 else
 bif Nat.beq t 266 then some ti82 else
 bif Nat.beq t 269 then some ti83 else
 bif Nat.beq t 276 then some ti84 else
 bif Nat.beq t 282 then some ti85 else
 bif Nat.beq t 284 then some ti86 else
 bif Nat.beq t 285 then some ti87 else
 bif Nat.beq t 286 then some ti88 else
 bif Nat.beq t 289 then some ti89 else
 bif Nat.beq t 292 then some ti90 else
 bif Nat.beq t 293 then some ti91 else
 bif Nat.beq t 301 then some ti92 else
 bif Nat.beq t 315 then some ti93 else
 bif Nat.beq t 321 then some ti94 else
 bif Nat.beq t 332 then some ti95 else
 bif Nat.beq t 334 then some ti96 else
 bif Nat.beq t 336 then some ti97 else
 bif Nat.beq t 338 then some ti98 else
 bif Nat.beq t 353 then some ti99 else
 bif Nat.beq t 379 then some ti100 else
 bif Nat.beq t 383 then some ti101 else
 bif Nat.beq t 388 then some ti102 else
 bif Nat.beq t 394 then some ti103 else
 bif Nat.beq t 409 then some ti104 else
 bif Nat.beq t 430 then some ti105 else
 bif Nat.beq t 440 then some ti106 else none
theorem dA:∀ t i,table t=some i->TI.Ok Tryz.prog t i:=λt i=>tb ok0 (tb ok1 (tb ok2 (tb ok3 (tb ok4 (tb ok5 (tb ok6 (tb ok7 (tb ok8 (tb ok9 (tb ok10 (tb ok11 (tb ok12 (tb ok13 (tb ok14 (tb ok15 (tb ok16 (tb ok17 (tb ok18 (tb ok19 (tb ok20 (tb ok21 (tb ok22 (tb ok23 (tb ok24 (tb ok25 (tb ok26 (tb ok27 (tb ok28 (tb ok29 (tb ok30 (tb ok31 (tb ok32 (tb ok33 (tb ok34 (tb ok35 (tb ok36 (tb ok37 (tb ok38 (tb ok39 (tb ok40 (tb ok41 (tb ok42 (tb ok43 (tb ok44 (tb ok45 (tb ok46 (tb ok47 (tb ok48 (tb ok49 (tb ok50 (tb ok51 (tb ok52 (tb ok53 (tb ok54 (tb ok55 (tb ok56 (tb ok57 (tb ok58 (tb ok59 (tb ok60 (tb ok61 (tb ok62 (tb ok63 (tb ok64 (tb ok65 (tb ok66 (tb ok67 (tb ok68 (tb ok69 (tb ok70 (tb ok71 (tb ok72 (tb ok73 (tb ok74 (tb ok75 (tb ok76 (tb ok77 (tb ok78 (tb ok79 (tb ok80 (tb ok81 (tb ok82 (tb ok83 (tb ok84 (tb ok85 (tb ok86 (tb ok87 (tb ok88 (tb ok89 (tb ok90 (tb ok91 (tb ok92 (tb ok93 (tb ok94 (tb ok95 (tb ok96 (tb ok97 (tb ok98 (tb ok99 (tb ok100 (tb ok101 (tb ok102 (tb ok103 (tb ok104 (tb ok105 (tb ok106 (λh=>by cases h)))))))))))))))))))))))))))))))))))))))))))))))))))))))))))))))))))))))))))))))))))))))))))))))))))))))))))
abbrev UU:TypeId:=78
abbrev aW (P:Program) (w:World) (N:Nat):Cx:={ P:=P,w0:=w,N:=N,K:=KU UU,SU:=λt=>Nat.beq t 23,ti:=table,keep:=λ_ _=>trivial }
abbrev KI:KC:=⟨UU,λ_=>True,λt=>Nat.beq t 3⟩
abbrev EE (P:Program) (w:World) (N:Nat):Cx:={ P:=P,w0:=w,N:=N,K:=KI,SU:=λt=>Nat.beq t 23 || Nat.beq t 315,ti:=table,keep:=λ_ _=>trivial }
theorem lV (w:World) (N:Nat):(EE Tryz.prog w N).Ok:=dA
theorem jx (w:World) (N:Nat):(EE Tryz.prog w N).P.follows .mixedOrders=true:=by show Tryz.prog.follows .mixedOrders=true;kernel_rfl
theorem bO (w:World) (N:Nat):(aW Tryz.prog w N).Ok:=dA
theorem KZ (w:World) (N:Nat):(aW Tryz.prog w N).P.follows .mixedOrders=true:=by show Tryz.prog.follows .mixedOrders=true;kernel_rfl
section
variable {C:Cx} {m:Option (List FuncId)} {full:Array Oper} {K:Fr->Hp->World->Prop} {F F':Fr} {H H':Hp} {w w1:World} {N:Nat} {o:Oper} {r l l':List Oper} {Q:Exit->Act->World->Prop} {k k':List It} {v:AV} {u:Option (Nat×(TypeId×List AV))} {id:Nat} {ops:Array Oper}
theorem wN (h:K F H w):ar C m full [] K F H w:=VO.nil h
theorem wV (e:gl C full 80 l F H=(l',F',H')) (h:ar C m full l' K F' H' w):ar C m full l K F H w:=VO.run 80 e h
theorem wO (e:stepOf C full F H o=.dP v u) (e':gl C full 80 r (F.bC o.dst v) (H.upd u)=(l',F',H')) (h:ar C m full l' K F' H' w):ar C m full (o::r) K F H w:=VO.op1 e (VO.run 80 e' h)
theorem cx_r (e:gl (aW Tryz.prog w1 N) ops 80 ops.toList F H=(l',F',H')) (h:ar (aW Tryz.prog w1 N) none ops l' (VS (aW Tryz.prog w1 N) Q k) F' H' w):VS (aW Tryz.prog w1 N) Q (.code (.region id ops false)::k) F H w:=VS.region (bO _ _) (VO.run 80 e h)
theorem cx_d (e:gl (aW Tryz.prog w1 N) ops 80 ops.toList F H=(l',F',H')) (h:ar (aW Tryz.prog w1 N) (some []) ops l' (VS (aW Tryz.prog w1 N) Q k) F' H' w) (jh:ij (aW Tryz.prog w1 N).SU [] ops=true:=by kernel_rfl):VS (aW Tryz.prog w1 N) Q (.code (.region id ops true)::k) F H w:=VS.draw (bO _ _) (KZ _ _) [] jh (VO.run 80 e h)
theorem yS (e:gl (EE Tryz.prog w1 N) ops 80 ops.toList F H=(l',F',H')) (h:ar (EE Tryz.prog w1 N) none ops l' (VS (EE Tryz.prog w1 N) Q k) F' H' w):VS (EE Tryz.prog w1 N) Q (.code (.region id ops false)::k) F H w:=VS.region (lV _ _) (VO.run 80 e h)
theorem cxI_d (e:gl (EE Tryz.prog w1 N) ops 80 ops.toList F H=(l',F',H')) (h:ar (EE Tryz.prog w1 N) (some []) ops l' (VS (EE Tryz.prog w1 N) Q k) F' H' w) (jh:ij (EE Tryz.prog w1 N).SU [] ops=true:=by kernel_rfl):VS (EE Tryz.prog w1 N) Q (.code (.region id ops true)::k) F H w:=VS.draw (lV _ _) (jx _ _) [] jh (VO.run 80 e h)
def peel (F:Fr):List It->Option (List It)
 | .code (.seq x y)::k=>some (.code x::.code y::k)
 | .code (.block id c)::k=>some (.code c::.du id::k)
 | .du _::k=>some k
 | .code .skip::k=>some k
 | .code (.exit id)::k=>pop id k
 | .code (.cond c x y)::k=>(match gV F c with
   | some (.bool true)=>some (.code x::k)
   | some (.bool false)=>some (.code y::k)
   | _=>none)
 | _=>none
theorem wP (e:peel F k=some k') (h:VS C Q k' F H w):VS C Q k F H w:=by
 unfold peel at e
 split at e
 ·cases e;exact VS.seq h
 ·cases e;exact VS.block h
 ·cases e;exact VS.du h
 ·cases e;exact VS.skip h
 ·exact VS.exit e h
 ·split at e
  ·rename_i hc;cases e;exact VS.condT hc h
  ·rename_i hc;cases e;exact VS.condF hc h
  ·cases e
 ·cases e
theorem fk {P:Program} {g:FuncId} {fn:Func} (h:P.funcs[g]? =some fn) (h1:(fn.name == "runtime.NumGoroutine")=false:=by kernel_rfl) (h2:fn.body.isNone=false:=by kernel_rfl):ng P g:=⟨fn,h,h1,h2⟩
theorem kU (w:World):aF (KU UU) w w:=aF.refl _ _
theorem kR {k:KC} (w:World):aF k w w:=aF.refl _ _
theorem kT {k:KC} {a b c:World} (h:aF k a b) (h':aF k b c):aF k a c:=h.aw h'
end
end
section
open Go.RowKit
theorem jM (neg:Bool) (p:Option Addr) (n c:Nat) (w:World):
  Calls Tryz.prog 146 #[.bool neg,.slice p n c] w λe w'=>e=.returned (.agg #[.bool (neg && decide (0<n)),.slice p n c])/\ak w w':=by
 refine aG λR' bm=> ?_
 go_enter Tryz.func146,Tryz.ntmps146
 cases neg
 ·go_wp2
  exact bodyPost_ret (v:=.agg #[.bool false,.slice p n c]) (by simp[results,Tryz.results146,go_sem]) rfl (bm.out _ _ ⟨rfl,(ak.refl w).alloc _⟩)
 ·go_wp2
  exact bodyPost_ret (v:=.agg #[.bool (decide (0<n)),.slice p n c]) (by simp[results,Tryz.results146,go_sem]) rfl (bm.out _ _ ⟨rfl,(ak.refl w).alloc _⟩)
theorem eR (neg:Bool) (p:Option Addr) (n c:Nat) (w:World):
  Calls Tryz.prog 146 #[.bool neg,.slice p n c] w λe w'=>∃ sg,e=.returned (.agg #[.bool sg,.slice p n c])/\Hid (sg=(neg && decide (0<n)))/\ak w w':=
 (jM neg p n c w).mono λ_ _ ⟨h,hb⟩=>⟨_,h,Lib.hid rfl,hb⟩
theorem pR (neg:Bool) (xs:List Nat) (v:Value) (w:World) (h:eM w v neg xs):
  Calls Tryz.prog 83 #[v] w λe w'=>e=.returned (.bool (cL neg xs))/\ak w w':=by
 obtain⟨p,c,rfl,hr,hl⟩:=h
 obtain⟨p',c',hv,eV,fm,-⟩:=hr.u32
 simp only[Value.slice.injEq,true_and] at hv
 obtain⟨rfl,rfl⟩:=hv
 refine aG λR' bm=> ?_
 by_cases hx:xs=[]
 ·subst hx
  simp only[List.length_nil,pw] at*
  go_enter Tryz.func83,Tryz.ntmps83
  cases neg
  ·go_wp2
   exact bm.out _ _ ⟨rfl,(ak.refl w).alloc _⟩
  ·go_wp2
   exact bm.out _ _ ⟨rfl,(ak.refl w).alloc _⟩
 ·obtain⟨m,hm⟩:∃ m,xs.length=m+1:=⟨xs.length-1,by have:=List.length_pos_iff.2 hx;omega⟩
  generalize hn:xs.length=n at*
  obtain⟨b,off,x,rfl,hb,hxm,hc⟩:=hr.cellAt (k:=m) aa
  have h1:cL neg xs=decide (x≠0):=tu (by rw[hn,hm];exact hxm)
  rw[h1] at bm
  have hz:((n:Int) == 0)=false:=by rw[beq_eq_false_iff_ne];omega
  have hp:(0:Int)<(n:Int):=by omega
  have hw:IntKind.i64.wrap ((n:Int)-1)=(m:Int):=by rw[IntWalk.i64_in _ aa];omega
  have hlt:(m:Int)<(n:Int):=by omega
  have HN:=Lib.hid hn
  have hpn:0<n:=by omega
  clear hx hm hn h1 hxm hr hl
  go_enter Tryz.func83,Tryz.ntmps83
  by_cases lG:x=0
  ·subst lG
   cases neg
   ·go_wp2
    exact bm.out _ _ ⟨rfl,(ak.refl w).alloc _⟩
   ·go_wp2
    exact bm.out _ _ ⟨rfl,(ak.refl w).alloc _⟩
  ·have hx1:((x:Int) != 0)=true:=by rw[bne_iff_ne];omega
   rw[decide_eq_true lG] at bm
   clear lG
   cases neg
   ·go_wp2
    exact bm.out _ _ ⟨rfl,(ak.refl w).alloc _⟩
   ·go_wp2
    exact bm.out _ _ ⟨rfl,(ak.refl w).alloc _⟩
theorem fM (v:Value) (X:Int) (k:Nat) (w0 w:World) (h:bH w0 v X k) (mB:ak w0 w):
  Calls Tryz.prog 144 #[v] w λe w'=>∃ u,e=.returned u/\bK w0 u X/\ak w w':=by
 obtain⟨neg,xs,hn,rfl,hk⟩:=h
 refine aG λR' bm=> ?_
 have HN:=Lib.hid hn
 obtain⟨p,c,rfl,hr,hl⟩:=hn
 clear hr
 go_enter Tryz.func144,Tryz.ntmps144
 go_wp2_with fail
 refine (pR neg xs _ _ ((HN.out.aB mB).aB (((ak.refl w).alloc _).alloc _))).mono ?_
 rintro e w1 ⟨rfl,aL⟩
 obtain⟨b1,b2,kG⟩:=lM w 25 246 #[.bool neg,.slice p xs.length c] #[.bool false,.slice none 0 0]
 obtain⟨c1,c2,_,_⟩:=(b1.aB aL).two
 obtain⟨c3,c4,f3,f4⟩:=(b2.aB aL).two
 have zE:ak w w1:=kG.aw aL
 cases hnr:cL neg xs
 ·have B2:=(b2.aB aL).bt (.bool false) (.slice none 0 0)
  have tr:=zE.bt (b:=w.heap.size+1) aa (.bool false) (.slice none 0 0)
  go_wp2
  generalize (w1.setCell ⟨w.heap.size+1,0,none⟩ (.bool false)).setCell ⟨w.heap.size+1,1,none⟩ (.slice none 0 0)=w2 at*
  obtain⟨d1,d2,_,_⟩:=B2.two
  refine bodyPost_ret (v:=.agg #[.bool false,.slice none 0 0]) (by simp[results,Tryz.results144,go_sem,d1,d2]) rfl (bm.out _ _ ⟨_,rfl,?_,tr⟩)
  rw[numOf,if_neg (by simp[hnr])]
  exact bK.zero _
 ·have B2:=(b2.aB aL).bt (.bool neg) (.slice p xs.length c)
  have tr:=zE.bt (b:=w.heap.size+1) aa (.bool neg) (.slice p xs.length c)
  go_wp2
  generalize (w1.setCell ⟨w.heap.size+1,0,none⟩ (.bool neg)).setCell ⟨w.heap.size+1,1,none⟩ (.slice p xs.length c)=w2 at*
  obtain⟨d1,d2,_,_⟩:=B2.two
  refine bodyPost_ret (v:=.agg #[.bool neg,.slice p xs.length c]) (by simp[results,Tryz.results144,go_sem,d1,d2]) rfl (bm.out _ _ ⟨_,rfl,?_,tr⟩)
  rw[numOf,if_pos hnr]
  obtain⟨h1,h2⟩:=canon hl hnr
  have:=HN.out
  show eM _ _ _ _
  rw[<-h1,<-h2]
  exact this
end
section
open Go.RowKit
theorem bK.split {w:World} {v:Value} {X:Int} (h:bK w v X):∃ s p c,v=.agg #[.bool s,.slice p (limbs X.natAbs).length c]/\Rd w 1 (.slice p (limbs X.natAbs).length c) (limbs X.natAbs).length (ints .u32 (limbs X.natAbs))/\X=if s=true then-(X.natAbs:Int) else (X.natAbs:Int):=by
 obtain⟨p,c,hv,hr,_⟩:=h
 refine⟨_,p,c,hv,hr,?_⟩
 split
 ·rename_i h;have:=of_decide_eq_true h;omega
 ·rename_i h;have:¬ X<0:=λh'=>h (decide_eq_true h');omega
theorem wu (v:Value) (X:Int) (w:World) (h:bK w v X):
  Calls Tryz.prog 205 #[v] w λe w'=>∃ u,e=.returned u/\bK w' u (-X)/\ak w w':=by
 obtain⟨s,p,c,rfl,hr,hX⟩:=h.split
 obtain⟨n,hn⟩:∃ n,n=(limbs X.natAbs).length:=⟨_,rfl⟩
 have HR:=Lib.hid hr
 have HN:=Lib.hid hn
 have HX:=Lib.hid hX
 rw[<-hn]
 clear hr hn hX h
 refine aG λR' bm=> ?_
 obtain⟨b1,b2,kG⟩:=lM w 246 246 #[.bool s,.slice p n c] #[.bool false,.slice none 0 0]
 go_enter Tryz.func205,Tryz.ntmps205
 go_wp2_with fail
 refine (jM _ _ _ _ _).mono ?_
 rintro e w1 ⟨rfl,aL⟩
 obtain⟨c3,c4,f3,f4⟩:=(b2.aB aL).two
 have B2:=(b2.aB aL).bt (.bool (!s && decide (0<n))) (.slice p n c)
 have tr:=(kG.aw aL).bt (b:=w.heap.size+1) aa (.bool (!s && decide (0<n))) (.slice p n c)
 go_wp2
 generalize (w1.setCell ⟨w.heap.size+1,0,none⟩ (.bool (!s && decide (0<n)))).setCell ⟨w.heap.size+1,1,none⟩ (.slice p n c)=w2 at*
 obtain⟨d1,d2,_,_⟩:=B2.two
 refine bodyPost_ret (v:=.agg #[.bool (!s && decide (0<n)),.slice p n c]) (by simp[results,Tryz.results205,go_sem,d1,d2]) rfl (bm.out _ _ ⟨_,rfl,?_,tr⟩)
 have ky:=HR.out.below tr
 rw[<-HN.out] at ky
 refine bK.of (m:=X.natAbs) (by rw[<-HN.out];exact ky) HN.out _ ?_
 rw[HX.out]
 cases s <;> simp
theorem Cp (v u:Value) (X Y:Int) (w:World) (hv:bK w v X) (hu:bK w u Y) (hx:(limbs X.natAbs).length<=1073741824) (hy:(limbs Y.natAbs).length<=1073741824):
  Calls Tryz.prog 204 #[v,u] w λe w'=>∃ r,e=.returned r/\au w' w.heap.size r (X+Y)/\ak w w':=by
 obtain⟨s,p,c,rfl,pk,hX⟩:=hv.split
 obtain⟨t,q,d,rfl,ky,hY⟩:=hu.split
 obtain⟨n,hn⟩:∃ n,n=(limbs X.natAbs).length:=⟨_,rfl⟩
 obtain⟨m,hm⟩:∃ m,m=(limbs Y.natAbs).length:=⟨_,rfl⟩
 rw[<-hn] at pk hx ⊢
 rw[<-hm] at ky hy ⊢
 clear hv hu
 refine aG λR' bm=> ?_
 obtain⟨b1,b2,b3,kG⟩:=lN w 246 246 25 #[.bool s,.slice p n c] #[.bool t,.slice q m d] #[.bool false,.slice none 0 0]
 have r10:=Lib.hid pk
 have r20:=Lib.hid ky
 have r1:=Lib.hid (pk.below kG)
 have r2:=Lib.hid (ky.below kG)
 have HX:=Lib.hid hX
 have HY:=Lib.hid hY
 have HN:=Lib.hid hn
 have HM:=Lib.hid hm
 clear pk ky hX hY hn hm
 go_enter Tryz.func204,Tryz.ntmps204
 by_cases hst:s=t
 ·subst hst
  go_wp2_with fail
  generalize ((w.alloc _).alloc _).alloc _=W at*
  obtain⟨c1,c2,_,_⟩:=b1.two
  obtain⟨c3,c4,_,_⟩:=b2.two
  obtain⟨c5,c6,f5,f6⟩:=b3.two
  have HS:=Lib.hid (λw' (h:aq W (w.heap.size+1+1) w')=>And.intro (h.cells b1 aa) (h.cells b2 aa))
  go_region_held3 (λw'=>(w'.cell? ⟨w.heap.size,0,none⟩=some (.bool s)/\w'.cell? ⟨w.heap.size,1,none⟩=some (.slice p n c))/\w'.cell? ⟨w.heap.size+1,0,none⟩=some (.bool s)/\w'.cell? ⟨w.heap.size+1,1,none⟩=some (.slice q m d)) ((refine HS.out _ ?_;(with_reducible (repeat (first|exact aq.refl _ _|refine aq.drew ?_|refine aq.drewN ?_ _|refine aq.alloc ?_ _|refine aq.set ?_ _|refine aq.aw ?_ (by assumption)|refine aq.mY ?_ (by first|omega|(simp;done)|(simp;omega)) _))))) (first
   | (go_at_call 268;refine (FO _ _ n m _ _ _ r1.out.drew r2.out.drew (aj _) (aj _) aa aa).mono ?_;rintro e w1 ⟨v1,rfl,sM,aL⟩;replace aL:ak _ w1:=aL;rw[ai,ai] at sM;obtain⟨p1,k1,rfl,_,_,_⟩:=Own.form sM)
   | (go_at_call 146;refine (jM _ _ _ _ _).mono ?_;rintro e w2 ⟨rfl,aY⟩;obtain⟨c5',c6',f5',f6'⟩:=((b3.drew.aB aL).aB aY).two))
  have B3:=((b3.drew.aB aL).aB aY).bt (.bool (s && decide (0<(limbs (X.natAbs+Y.natAbs)).length))) (.slice p1 (limbs (X.natAbs+Y.natAbs)).length k1)
  have zE:ak w w2:=kG.aw (ak.aw (ak.aw (ak.refl W).drew aL) aY)
  have Jq:=zE.bt (b:=w.heap.size+1+1) aa (.bool (s && decide (0<(limbs (X.natAbs+Y.natAbs)).length))) (.slice p1 (limbs (X.natAbs+Y.natAbs)).length k1)
  have La:=Own.below sM aY
  generalize hL:(limbs (X.natAbs+Y.natAbs)).length=L at*
  have JS:=Lib.hid (Own.bt (b:=w.heap.size+1+1) La (b3.drew.aB aL |>.aB aY) bZ (.bool (s && decide (0<L))) (.slice p1 L k1))
  clear La sM zE
  go_wp2
  generalize (w2.setCell ⟨w.heap.size+1+1,0,none⟩ (.bool (s && decide (0<L)))).setCell ⟨w.heap.size+1+1,1,none⟩ (.slice p1 L k1)=w3 at*
  obtain⟨d1,d2,_,_⟩:=B3.two
  refine bodyPost_ret (v:=.agg #[.bool (s && decide (0<L)),.slice p1 L k1]) (by simp[results,Tryz.results204,go_sem,d1,d2]) rfl (bm.out _ _ ⟨_,rfl,?_,Jq⟩)
  refine au.of (m:=X.natAbs+Y.natAbs) (by rw[hL];exact Own.mono JS.out kG.size) hL.symm _ ?_
  rw[HX.out,HY.out]
  cases s <;> simp <;> omega
 ·have hst':(s == t)=false:=by cases s <;> cases t <;> simp_all
  go_wp2_with fail
  generalize ((w.alloc _).alloc _).alloc _=W at*
  refine (zF _ _ n m _ _ _ r1.out r2.out (aj _) (aj _)).mono ?_
  rintro e w1 ⟨rfl,k1,rfl⟩
  rw[ai,ai]
  by_cases hlt:X.natAbs<Y.natAbs
  ·have HLT:=Lib.hid hlt
   have hc:fo X.natAbs Y.natAbs<0:=iA.2 hlt
   generalize fo X.natAbs Y.natAbs=cv at hc ⊢
   obtain⟨c1,c2,f1,f2⟩:=(b1.drewN k1).two
   obtain⟨c3,c4,f3,f4⟩:=(b2.drewN k1).two
   have B1:=((b1.drewN k1).bt (.bool t) (.slice q m d)).dm (b':=w.heap.size+1) aa (.bool s) (.slice p n c)
   have B2:=((b2.drewN k1).dm (b':=w.heap.size) aa (.bool t) (.slice q m d)).bt (.bool s) (.slice p n c)
   have B3:=((b3.drewN k1).dm (b':=w.heap.size) aa (.bool t) (.slice q m d)).dm (b':=w.heap.size+1) aa (.bool s) (.slice p n c)
   have fK:=((kG.drewN k1).bt (b:=w.heap.size) aa (.bool t) (.slice q m d)).bt (b:=w.heap.size+1) aa (.bool s) (.slice p n c)
   clear kG b1 b2 b3 r1 r2 hlt
   go_wp2_with fail
   generalize ((((W.drewN k1).setCell ⟨w.heap.size,0,none⟩ (.bool t)).setCell ⟨w.heap.size,1,none⟩ (.slice q m d)).setCell ⟨w.heap.size+1,0,none⟩ (.bool s)).setCell ⟨w.heap.size+1,1,none⟩ (.slice p n c)=W2 at*
   clear c1 c2 c3 c4 f1 f2 f3 f4
   refine (zM _ _ m n _ _ _ (r20.out.below fK) (r10.out.below fK) (aj _) (aj _) aa).mono ?_
   rintro e w2 ⟨⟨h,_⟩|⟨_,v2,rfl,Gk⟩,aY⟩
   ·rw[ai,ai] at h;exact absurd h (by have:=HLT.out;omega)
   replace aY:ak _ w2:=aY
   rw[ai,ai] at Gk
   obtain⟨p2,k2,rfl,_,_,_⟩:=Own.form Gk
   obtain⟨e1,e2,_,_⟩:=(B1.aB aY).two
   have E3:=B3.aB aY
   have hbw2:=fK.aw aY
   generalize hL:(limbs (Y.natAbs-X.natAbs)).length=L at*
   have mr:=Lib.hid (Own.mono Gk fK.size)
   have HL:=Lib.hid hL
   clear Gk hL B1 B2 B3 fK aY
   go_wp2_with fail
   refine (jM _ _ _ _ _).mono ?_
   rintro e w3 ⟨rfl,cK⟩
   have F3:=E3.aB cK
   obtain⟨e5,e6,g5,g6⟩:=F3.two
   have JS:=Lib.hid (Own.bt (b:=w.heap.size+1+1) (Own.below mr.out cK) F3 bZ (.bool (t && decide (0<L))) (.slice p2 L k2))
   have G3:=F3.bt (.bool (t && decide (0<L))) (.slice p2 L k2)
   have Jq:=(hbw2.aw cK).bt (b:=w.heap.size+1+1) aa (.bool (t && decide (0<L))) (.slice p2 L k2)
   clear mr E3 F3
   go_wp2
   generalize (w3.setCell ⟨w.heap.size+1+1,0,none⟩ (.bool (t && decide (0<L)))).setCell ⟨w.heap.size+1+1,1,none⟩ (.slice p2 L k2)=w4 at*
   obtain⟨d1,d2,_,_⟩:=G3.two
   refine bodyPost_ret (v:=.agg #[.bool (t && decide (0<L)),.slice p2 L k2]) (by simp[results,Tryz.results204,go_sem,d1,d2]) rfl (bm.out _ _ ⟨_,rfl,?_,Jq⟩)
   refine au.of (m:=Y.natAbs-X.natAbs) (by rw[HL.out];exact JS.out) HL.out.symm _ ?_
   rw[HX.out,HY.out]
   have:=HLT.out
   cases s <;> cases t <;> simp at hst ⊢ <;> omega
  ·have HLT:=Lib.hid hlt
   have hc:0<=fo X.natAbs Y.natAbs:=by have:=mt (@iA X.natAbs Y.natAbs).1 hlt;omega
   generalize fo X.natAbs Y.natAbs=cv at hc ⊢
   have B1:=b1.drewN k1
   have B2:=b2.drewN k1
   have B3:=b3.drewN k1
   have fK:=kG.drewN k1
   obtain⟨c1,c2,f1,f2⟩:=B1.two
   obtain⟨c3,c4,f3,f4⟩:=B2.two
   clear kG b1 b2 b3 r1 r2 hlt
   go_wp2_with fail
   generalize W.drewN k1=W2 at*
   clear c1 c2 c3 c4 f1 f2 f3 f4
   refine (zM _ _ n m _ _ _ (r10.out.below fK) (r20.out.below fK) (aj _) (aj _) aa).mono ?_
   rintro e w2 ⟨⟨h,_⟩|⟨_,v2,rfl,Gk⟩,aY⟩
   ·rw[ai,ai] at h;exact absurd h (by have:=HLT.out;omega)
   replace aY:ak _ w2:=aY
   rw[ai,ai] at Gk
   obtain⟨p2,k2,rfl,_,_,_⟩:=Own.form Gk
   obtain⟨e1,e2,_,_⟩:=(B1.aB aY).two
   have E3:=B3.aB aY
   have hbw2:=fK.aw aY
   generalize hL:(limbs (X.natAbs-Y.natAbs)).length=L at*
   have mr:=Lib.hid (Own.mono Gk fK.size)
   have HL:=Lib.hid hL
   clear Gk hL B1 B2 B3 fK aY
   go_wp2_with fail
   refine (jM _ _ _ _ _).mono ?_
   rintro e w3 ⟨rfl,cK⟩
   have F3:=E3.aB cK
   obtain⟨e5,e6,g5,g6⟩:=F3.two
   have JS:=Lib.hid (Own.bt (b:=w.heap.size+1+1) (Own.below mr.out cK) F3 bZ (.bool (s && decide (0<L))) (.slice p2 L k2))
   have G3:=F3.bt (.bool (s && decide (0<L))) (.slice p2 L k2)
   have Jq:=(hbw2.aw cK).bt (b:=w.heap.size+1+1) aa (.bool (s && decide (0<L))) (.slice p2 L k2)
   clear mr E3 F3
   go_wp2
   generalize (w3.setCell ⟨w.heap.size+1+1,0,none⟩ (.bool (s && decide (0<L)))).setCell ⟨w.heap.size+1+1,1,none⟩ (.slice p2 L k2)=w4 at*
   obtain⟨d1,d2,_,_⟩:=G3.two
   refine bodyPost_ret (v:=.agg #[.bool (s && decide (0<L)),.slice p2 L k2]) (by simp[results,Tryz.results204,go_sem,d1,d2]) rfl (bm.out _ _ ⟨_,rfl,?_,Jq⟩)
   refine au.of (m:=X.natAbs-Y.natAbs) (by rw[HL.out];exact JS.out) HL.out.symm _ ?_
   rw[HX.out,HY.out]
   have:=HLT.out
   cases s <;> cases t <;> simp at hst ⊢ <;> omega
end
section
open Go.RowKit
theorem gu {w w':World} (h:ak w w':=by (with_reducible (repeat (first|assumption|exact ak.refl _|refine ak.drew ?_|refine ak.drewN ?_ _|refine ak.alloc ?_ _|refine ak.aw ?_ (by assumption)|refine ak.setCell ?_ (by first|omega|(simp;done)|(simp;omega)) _)))):ak w w':=h
theorem Cq (v u:Value) (X Y:Int) (j k:Nat) (w:World) (hv:bH w v X j) (hu:bH w u Y k) (hj:j<=1073741824) (hk:k<=1073741824):
  Calls Tryz.prog 150 #[v,u] w λe w'=>∃ r,e=.returned r/\au w' w.heap.size r (X+Y)/\ak w w':=by
 obtain⟨s,p,n,c,rfl⟩:=hv.form
 obtain⟨t,q,m,d,rfl⟩:=hu.form
 refine aG λR' bm=> ?_
 obtain⟨b1,b2,b3,kG⟩:=lN w 25 25 25 #[.bool s,.slice p n c] #[.bool t,.slice q m d] #[.bool false,.slice none 0 0]
 have qo:=hv.len
 have kJ:=hu.len
 have HV:=Lib.hid hv
 have HU:=Lib.hid hu
 have hsz:w.heap.size+3<=(((w.alloc (.cells #[.bool s,.slice p n c] 25)).alloc (.cells #[.bool t,.slice q m d] 25)).alloc (.cells #[.bool false,.slice none 0 0] 25)).heap.size:=by simp
 clear hv hu
 go_enter Tryz.func150,Tryz.ntmps150
 go_wp2_with fail
 generalize ((w.alloc _).alloc _).alloc _=W at*
 have HS:=Lib.hid (λw' (h:aq W (w.heap.size+1+1) w')=>And.intro (h.cells b1 aa) (h.cells b2 aa))
 obtain⟨c1,c2,_,_⟩:=b1.two
 obtain⟨c3,c4,_,_⟩:=b2.two
 obtain⟨c5,c6,f5,f6⟩:=b3.two
 go_region_held3 (λw'=>(w'.cell? ⟨w.heap.size,0,none⟩=some (.bool s)/\w'.cell? ⟨w.heap.size,1,none⟩=some (.slice p n c))/\w'.cell? ⟨w.heap.size+1,0,none⟩=some (.bool t)/\w'.cell? ⟨w.heap.size+1,1,none⟩=some (.slice q m d)) ((refine HS.out _ ?_;(with_reducible (repeat (first|exact aq.refl _ _|refine aq.drew ?_|refine aq.drewN ?_ _|refine aq.alloc ?_ _|refine aq.set ?_ _|refine aq.aw ?_ (by assumption)|refine aq.mY ?_ (by first|omega|(simp;done)|(simp;omega)) _))))) (first
  | (go_at_call_of 144 (Value.slice p n c);refine (fM _ X j w _ HV.out gu).mono ?_;rintro e w1 ⟨u1,rfl,AM,aL⟩)
  | (go_at_call_of 144 (Value.slice q m d);refine (fM _ Y k w _ HU.out gu).mono ?_;rintro e w2 ⟨u2,rfl,xB,aY⟩)
  | (go_at_call 204;refine (Cp _ _ X Y _ (AM.aB gu) (xB.aB gu) (Nat.le_trans qo hj) (Nat.le_trans kJ hk)).mono ?_;rintro e w3 ⟨r,rfl,az,cK⟩;obtain⟨sg,pp,nn,cc,rfl⟩:=az.form;obtain⟨e5,e6,g5,g6⟩:=(aE.aB (w':=w3) b3 gu).two)
  | fail)
 have FC:=(aE.aB (w':=w3) b3 gu)
 have FB:ak w w3:=gu
 have FZ:ak w w2:=gu
 have HO:=Lib.hid (az.bt FC bZ (.bool sg) (.slice pp nn cc))
 clear az
 have Cr:=FC.bt (.bool (sg)) (.slice pp (nn) cc)
 have Cs:=ak.bt FB (b:=w.heap.size+1+1) aa (.bool (sg)) (.slice pp (nn) cc)
 go_wp2
 generalize (w3.setCell ⟨w.heap.size+1+1,0,none⟩ (.bool (sg))).setCell ⟨w.heap.size+1+1,1,none⟩ (.slice pp (nn) cc)=wz at*
 obtain⟨Ct,Cu,_,_⟩:=Cr.two
 refine bodyPost_ret (v:=.agg #[.bool (sg),.slice pp (nn) cc]) (by simp[results,Tryz.results150,go_sem,Ct,Cu]) rfl (bm.out _ _ ?_)
 exact⟨_,rfl,HO.out.mono FZ.size,Cs⟩
theorem Lb (v u:Value) (X Y:Int) (j k:Nat) (w:World) (hv:bH w v X j) (hu:bH w u Y k) (hj:j<=1073741824) (hk:k<=1073741824):
  Calls Tryz.prog 145 #[v,u] w λe w'=>∃ r,e=.returned r/\au w' w.heap.size r (X-Y)/\ak w w':=by
 obtain⟨s,p,n,c,rfl⟩:=hv.form
 obtain⟨t,q,m,d,rfl⟩:=hu.form
 refine aG λR' bm=> ?_
 obtain⟨b1,b2,b3,kG⟩:=lN w 25 25 25 #[.bool s,.slice p n c] #[.bool t,.slice q m d] #[.bool false,.slice none 0 0]
 have qo:=hv.len
 have kJ:=hu.len
 have HV:=Lib.hid hv
 have HU:=Lib.hid hu
 have hsz:w.heap.size+3<=(((w.alloc (.cells #[.bool s,.slice p n c] 25)).alloc (.cells #[.bool t,.slice q m d] 25)).alloc (.cells #[.bool false,.slice none 0 0] 25)).heap.size:=by simp
 clear hv hu
 go_enter Tryz.func145,Tryz.ntmps145
 go_wp2_with fail
 generalize ((w.alloc _).alloc _).alloc _=W at*
 have HS:=Lib.hid (λw' (h:aq W (w.heap.size+1+1) w')=>And.intro (h.cells b1 aa) (h.cells b2 aa))
 obtain⟨c1,c2,_,_⟩:=b1.two
 obtain⟨c3,c4,_,_⟩:=b2.two
 obtain⟨c5,c6,f5,f6⟩:=b3.two
 go_region_held3 (λw'=>(w'.cell? ⟨w.heap.size,0,none⟩=some (.bool s)/\w'.cell? ⟨w.heap.size,1,none⟩=some (.slice p n c))/\w'.cell? ⟨w.heap.size+1,0,none⟩=some (.bool t)/\w'.cell? ⟨w.heap.size+1,1,none⟩=some (.slice q m d)) ((refine HS.out _ ?_;(with_reducible (repeat (first|exact aq.refl _ _|refine aq.drew ?_|refine aq.drewN ?_ _|refine aq.alloc ?_ _|refine aq.set ?_ _|refine aq.aw ?_ (by assumption)|refine aq.mY ?_ (by first|omega|(simp;done)|(simp;omega)) _))))) (first
  | (go_at_call_of 144 (Value.slice p n c);refine (fM _ X j w _ HV.out gu).mono ?_;rintro e w1 ⟨u1,rfl,AM,aL⟩)
  | (go_at_call_of 144 (Value.slice q m d);refine (fM _ Y k w _ HU.out gu).mono ?_;rintro e w2 ⟨u2,rfl,xB,aY⟩)
  | (go_at_call 205;refine (wu _ Y _ (xB.aB gu)).mono ?_;rintro e w4 ⟨u4,rfl,hu4,gj⟩)
  | (go_at_call 204;refine (Cp _ _ X (-Y) _ (AM.aB gu) (hu4.aB gu) (Nat.le_trans qo hj) (by rw[Int.natAbs_neg];exact Nat.le_trans kJ hk)).mono ?_;rintro e w3 ⟨r,rfl,az,cK⟩;obtain⟨sg,pp,nn,cc,rfl⟩:=az.form;obtain⟨e5,e6,g5,g6⟩:=(aE.aB (w':=w3) b3 gu).two)
  | fail)
 rw[<-Int.sub_eq_add_neg] at az
 have FC:=(aE.aB (w':=w3) b3 gu)
 have FB:ak w w3:=gu
 have FZ:ak w w4:=gu
 have HO:=Lib.hid (az.bt FC bZ (.bool sg) (.slice pp nn cc))
 clear az
 have Cr:=FC.bt (.bool (sg)) (.slice pp (nn) cc)
 have Cs:=ak.bt FB (b:=w.heap.size+1+1) aa (.bool (sg)) (.slice pp (nn) cc)
 go_wp2
 generalize (w3.setCell ⟨w.heap.size+1+1,0,none⟩ (.bool (sg))).setCell ⟨w.heap.size+1+1,1,none⟩ (.slice pp (nn) cc)=wz at*
 obtain⟨Ct,Cu,_,_⟩:=Cr.two
 refine bodyPost_ret (v:=.agg #[.bool (sg),.slice pp (nn) cc]) (by simp[results,Tryz.results145,go_sem,Ct,Cu]) rfl (bm.out _ _ ?_)
 exact⟨_,rfl,HO.out.mono FZ.size,Cs⟩
def Gl (w W wc:World) (T:TypeId) (X Y:Int) (x y:Value):Prop:=∃ g h s1 p1 n1 k1 s2 p2 n2 k2,x=.pointer (some ⟨g,0,none⟩)/\y=.pointer (some ⟨h,0,none⟩)/\aE wc g T #[.bool s1,.slice p1 n1 k1]/\aE wc h T #[.bool s2,.slice p2 n2 k2]/\
 bK w (.agg #[.bool s1,.slice p1 n1 k1]) X/\bK w (.agg #[.bool s2,.slice p2 n2 k2]) Y/\ak W wc
theorem nx (v u:Value) (X Y:Int) (j k:Nat) (w:World) (hv:bH w v X j) (hu:bH w u Y k) (hj:j<=536870912) (hk:k<=536870912):
  Calls Tryz.prog 100 #[v,u] w λe w'=>∃ r,e=.returned r/\au w' w.heap.size r (X*Y)/\ak w w':=by
 obtain⟨s,p,n,c,rfl⟩:=hv.form
 obtain⟨t,q,m,d,rfl⟩:=hu.form
 refine aG λR' bm=> ?_
 obtain⟨b1,b2,b3,kG⟩:=lN w 25 25 25 #[.bool s,.slice p n c] #[.bool t,.slice q m d] #[.bool false,.slice none 0 0]
 have qo:=hv.len
 have kJ:=hu.len
 have HV:=Lib.hid hv
 have HU:=Lib.hid hu
 have hsz:w.heap.size+3<=(((w.alloc (.cells #[.bool s,.slice p n c] 25)).alloc (.cells #[.bool t,.slice q m d] 25)).alloc (.cells #[.bool false,.slice none 0 0] 25)).heap.size:=by simp
 clear hv hu
 go_enter Tryz.func100,Tryz.ntmps100
 go_wp2_with fail
 generalize ((w.alloc _).alloc _).alloc _=W at*
 have HS:=Lib.hid (λw' (h:aq W (w.heap.size+1+1) w')=>And.intro (h.cells b1 aa) (h.cells b2 aa))
 obtain⟨c1,c2,_,_⟩:=b1.two
 obtain⟨c3,c4,_,_⟩:=b2.two
 obtain⟨c5,c6,f5,f6⟩:=b3.two
 go_cut [5,6] (λx5 x6 wc=>Gl w W wc 246 X Y x5 x6)
 case first=>
  go_region_held3 (λw'=>(w'.cell? ⟨w.heap.size,0,none⟩=some (.bool s)/\w'.cell? ⟨w.heap.size,1,none⟩=some (.slice p n c))/\w'.cell? ⟨w.heap.size+1,0,none⟩=some (.bool t)/\w'.cell? ⟨w.heap.size+1,1,none⟩=some (.slice q m d)) ((refine HS.out _ ?_;(with_reducible (repeat (first|exact aq.refl _ _|refine aq.drew ?_|refine aq.drewN ?_ _|refine aq.alloc ?_ _|refine aq.set ?_ _|refine aq.aw ?_ (by assumption)|refine aq.mY ?_ (by first|omega|(simp;done)|(simp;omega)) _))))) (first
   | (go_at_call_of 144 (Value.slice p n c);refine (fM _ X j w _ HV.out gu).mono ?_;rintro e w1 ⟨u1,rfl,AM,aL⟩;obtain⟨s1,p1,n1,k1,rfl⟩:=AM.fV;have KV:=aL.size;(try simp at KV);(try (have q1:=aE.aB (aE.drew (aE.new _ _ #[_,_])) aL;(try simp at q1);obtain⟨q1a,q1b,q1c,q1d⟩:=q1.two;have q1l:=q1.lt;have q1n:=Nat.ne_of_lt q1l;have q1m:=Nat.ne_of_gt q1l));(try (have q2:=aE.aB (aE.drew (aE.alloc (aE.new _ _ #[_,_]) _)) aL;(try simp at q2);obtain⟨q2a,q2b,q2c,q2d⟩:=q2.two;have q2l:=q2.lt;have q2n:=Nat.ne_of_lt q2l;have q2m:=Nat.ne_of_gt q2l)))
   | (go_at_call_of 144 (Value.slice q m d);refine (fM _ Y k w _ HU.out gu).mono ?_;rintro e w2 ⟨u2,rfl,xB,aY⟩;obtain⟨s2,p2,n2,k2,rfl⟩:=xB.fV;have hs2:=aY.size;(try simp at hs2);(try (have q3:=aE.aB (aE.new _ _ #[_,_]) aY;(try simp at q3);obtain⟨q3a,q3b,q3c,q3d⟩:=q3.two;have q3l:=q3.lt;have q3n:=Nat.ne_of_lt q3l;have q3m:=Nat.ne_of_gt q3l));(try (have q4:=aE.aB (aE.alloc (aE.new _ _ #[_,_]) _) aY;(try simp at q4);obtain⟨q4a,q4b,q4c,q4d⟩:=q4.two;have q4l:=q4.lt;have q4n:=Nat.ne_of_lt q4l;have q4m:=Nat.ne_of_gt q4l));(try (have q5:=aE.aB q1 aY;(try simp at q5);obtain⟨q5a,q5b,q5c,q5d⟩:=q5.two;have q5l:=q5.lt;have q5n:=Nat.ne_of_lt q5l;have q5m:=Nat.ne_of_gt q5l));(try (have q6:=aE.aB q2 aY;(try simp at q6);obtain⟨q6a,q6b,q6c,q6d⟩:=q6.two;have q6l:=q6.lt;have q6n:=Nat.ne_of_lt q6l;have q6m:=Nat.ne_of_gt q6l));(try (have q7:=aE.aB (aE.alloc q1 _) aY;(try simp at q7);obtain⟨q7a,q7b,q7c,q7d⟩:=q7.two;have q7l:=q7.lt;have q7n:=Nat.ne_of_lt q7l;have q7m:=Nat.ne_of_gt q7l)))
   | fail)
  all_goals
   go_wp2
   go_meet
   refine⟨_,_,s1,p1,n1,k1,s2,p2,n2,k2,rfl,rfl,?_,?_,AM,xB,?_⟩
   ·(with_reducible (repeat (first|assumption|exact aE.newAt (by first|rfl|(simp;done)) _ _|refine aE.alloc ?_ _|refine aE.drew ?_|refine aE.bt (u:=.bool false) (v:=.slice none 0 0) ?_ _ _|refine aE.dm ?_ (by first|omega|(simp;omega)) _ _|refine aE.aB ?_ (by assumption))))
   ·(with_reducible (repeat (first|assumption|exact aE.newAt (by first|rfl|(simp;done)) _ _|refine aE.alloc ?_ _|refine aE.drew ?_|refine aE.bt (u:=.bool false) (v:=.slice none 0 0) ?_ _ _|refine aE.dm ?_ (by first|omega|(simp;omega)) _ _|refine aE.aB ?_ (by assumption))))
   ·exact gu
 case rest=>
  obtain⟨g,h,s1,p1,n1,k1,s2,p2,n2,k2,rfl,rfl,B5,B6,AM,xB,DJ⟩:=hcut
  obtain⟨JU,pk,hX⟩:=AM.parts
  obtain⟨Cv,ky,hY⟩:=xB.parts
  have B3:=b3.aB DJ
  have iX:ak w wc:=kG.aw DJ
  have HR1:=Lib.hid (pk.below iX)
  have HR2:=Lib.hid (ky.below iX)
  have HN1:=Lib.hid JU
  have HN2:=Lib.hid Cv
  have HX:=Lib.hid hX
  have HY:=Lib.hid hY
  have hm1:n1<=536870912:=by omega
  have hm2:n2<=536870912:=by omega
  clear c1 c2 c3 c4 c5 c6 f5 f6 b1 b2 b3 DJ kG AM xB pk ky hX hY JU Cv HS
  obtain⟨c1,c2,_,_⟩:=B5.two
  obtain⟨c3,c4,_,_⟩:=B6.two
  obtain⟨c5,c6,f5,f6⟩:=B3.two
  have hg:g≠w.heap.size+1+1:=λe=>by subst e;have:=(show wc.heap[_]? =_ from B5).symm.trans B3;simp at this
  have hh:h≠w.heap.size+1+1:=λe=>by subst e;have:=(show wc.heap[_]? =_ from B6).symm.trans B3;simp at this
  have HS:=Lib.hid (λw' (hk:aq wc (w.heap.size+1+1) w')=>And.intro (hk.cells B5 hg) (hk.cells B6 hh))
  go_wp2_with fail
  go_region_held3 (λw'=>(w'.cell? ⟨g,0,none⟩=some (.bool s1)/\w'.cell? ⟨g,1,none⟩=some (.slice p1 n1 k1))/\w'.cell? ⟨h,0,none⟩=some (.bool s2)/\w'.cell? ⟨h,1,none⟩=some (.slice p2 n2 k2)) ((refine HS.out _ ?_;(with_reducible (repeat (first|exact aq.refl _ _|refine aq.drew ?_|refine aq.drewN ?_ _|refine aq.alloc ?_ _|refine aq.set ?_ _|refine aq.aw ?_ (by assumption)|refine aq.mY ?_ (by first|omega|(simp;done)|(simp;omega)) _))))) (first
   | (go_at_call 167;refine (Kb _ _ n1 n2 _ _ _ (HR1.out.below (ak.refl wc).drew) (HR2.out.below (ak.refl wc).drew) (aj _) (aj _) hm1 hm2).mono ?_;rintro e w1 ⟨v1,rfl,sM,aL⟩;replace aL:ak _ w1:=aL;rw[ai,ai] at sM;obtain⟨q1,l1,rfl,_,_,_⟩:=Own.form sM)
   | (go_at_call 146;refine (eR _ _ _ _ _).mono ?_;rintro e w3 ⟨sg,rfl,Ag,cK⟩;obtain⟨e5,e6,g5,g6⟩:=(aE.aB (w':=w3) B3 gu).two)
   | fail)
  have FC:=(aE.aB (w':=w3) B3 gu)
  have FB:ak w w3:=gu
  generalize hL:(limbs (X.natAbs*Y.natAbs)).length=L at*
  have HL:=Lib.hid hL
  have HO:=Lib.hid (Own.bt (Own.below sM cK) FC bZ (.bool sg) (.slice q1 L l1))
  clear sM hL
  have Cr:=FC.bt (.bool (sg)) (.slice q1 (L) l1)
  have Cs:=ak.bt FB (b:=w.heap.size+1+1) aa (.bool (sg)) (.slice q1 (L) l1)
  go_wp2
  generalize (w3.setCell ⟨w.heap.size+1+1,0,none⟩ (.bool (sg))).setCell ⟨w.heap.size+1+1,1,none⟩ (.slice q1 (L) l1)=wz at*
  obtain⟨Ct,Cu,_,_⟩:=Cr.two
  refine bodyPost_ret (v:=.agg #[.bool (sg),.slice q1 (L) l1]) (by simp[results,Tryz.results100,go_sem,Ct,Cu]) rfl (bm.out _ _ ?_)
  rw[Ag.out]
  refine⟨_,rfl,au.of (m:=X.natAbs*Y.natAbs) (by rw[HL.out];exact Own.mono HO.out iX.size) HL.out.symm _ ?_,Cs⟩
  rw[HX.out,HY.out]
  cases s1 <;> cases s2 <;> simp[Int.neg_mul,Int.mul_neg]
end
section
open Go.RowKit
theorem yU (s:Bool) (p:Option Addr) (n c:Nat) (w:World):(Instr.field 246 (.agg #[.bool s,.slice p n c]) 0).run Tryz.prog w=.ok (.agg #[.bool s,.slice p n c]) w:=by kernel_rfl
theorem yV (s:Bool) (p:Option Addr) (n c:Nat) (w:World):(Instr.field 25 (.agg #[.bool s,.slice p n c]) 1).run Tryz.prog w=.ok (.slice p n c) w:=by kernel_rfl
theorem Lc (v:Value) (X:Int) (j:Nat) (w:World) (hv:bH w v X j) (hj:j<=1073741824):
  Calls Tryz.prog 165 #[v] w λe w'=>∃ r,e=.returned r/\au w' w.heap.size r (-X)/\ak w w':=by
 obtain⟨s,p,n,c,rfl⟩:=hv.form
 refine aG λR' bm=> ?_
 obtain⟨b1,b2,kG⟩:=lM w 25 25 #[.bool s,.slice p n c] #[.bool false,.slice none 0 0]
 have qo:=hv.len
 have HV:=Lib.hid hv
 have hsz:w.heap.size+2<=((w.alloc (.cells #[.bool s,.slice p n c] 25)).alloc (.cells #[.bool false,.slice none 0 0] 25)).heap.size:=by simp
 clear hv
 go_enter Tryz.func165,Tryz.ntmps165
 go_wp2_with fail
 generalize (w.alloc _).alloc _=W at*
 refine (fM _ X j w _ HV.out gu).mono ?_
 rintro e w1 ⟨v1,rfl,Ci,aL⟩
 go_wp2_with fail
 refine (wu _ X _ (Ci.aB gu)).mono ?_
 rintro e w2 ⟨v2,rfl,hi2,aY⟩
 obtain⟨s2,p2,n2,k2,rfl⟩:=hi2.fV
 obtain⟨Cv,ky,_⟩:=hi2.parts
 have hm2:n2<=1073741824:=by rw[Cv,Int.natAbs_neg];omega
 have HN2:=Lib.hid Cv
 have HI2:=Lib.hid hi2
 have HR2:=Lib.hid ky
 clear hi2 Cv ky Ci
 go_wp2_with fail
 have B5:=aE.new w2 246 #[.bool s2,.slice p2 n2 k2]
 have hbT:ak w2 (w2.alloc (.cells #[.bool s2,.slice p2 n2 k2] 246)):=(ak.refl w2).alloc _
 have B2:=((b2.aB aL).aB aY).aB hbT
 have hlt:=b2.lt
 have uH:=aL.size
 have hbs2:=aY.size
 have hne:w2.heap.size≠w.heap.size+1:=by omega
 generalize w2.alloc _=T at*
 have HS:=Lib.hid (λw' (hk:aq T (w.heap.size+1) w')=>hk.cells B5 hne)
 obtain⟨c1,c2,_,_⟩:=B5.two
 obtain⟨c5,c6,f5,f6⟩:=B2.two
 go_region_held3 (λw'=>w'.cell? ⟨w2.heap.size,0,none⟩=some (.bool s2)/\w'.cell? ⟨w2.heap.size,1,none⟩=some (.slice p2 n2 k2)) ((refine HS.out _ ?_;(with_reducible (repeat (first|exact aq.refl _ _|refine aq.drew ?_|refine aq.drewN ?_ _|refine aq.alloc ?_ _|refine aq.set ?_ _|refine aq.aw ?_ (by assumption)|refine aq.mY ?_ (by first|omega|(simp;done)|(simp;omega)) _))))) (first
  | (go_at_call 151;refine (jt _ n2 _ _ (Rd.below (HR2.out.below hbT) (ak.refl T).drew) hm2).mono ?_;rintro e w3 ⟨v3,rfl,La,cK⟩;replace cK:ak _ w3:=cK;obtain⟨q3,l3,rfl,_,_,_⟩:=Own.form La;obtain⟨e5,e6,g5,g6⟩:=(aE.aB (w':=w3) B2 gu).two)
  | fail)
 have FC:=(aE.aB (w':=w3) B2 gu)
 have FB:ak w w3:=gu
 have FT:ak w T:=gu
 have HO:=Lib.hid (Own.bt La FC bZ (.bool s2) (.slice q3 n2 l3))
 clear La
 have Cr:=FC.bt (.bool (s2)) (.slice q3 (n2) l3)
 have Cs:=ak.bt FB (b:=w.heap.size+1) aa (.bool (s2)) (.slice q3 (n2) l3)
 go_wp2
 generalize (w3.setCell ⟨w.heap.size+1,0,none⟩ (.bool (s2))).setCell ⟨w.heap.size+1,1,none⟩ (.slice q3 (n2) l3)=wz at*
 obtain⟨Ct,Cu,_,_⟩:=Cr.two
 refine bodyPost_ret (v:=.agg #[.bool (s2),.slice q3 (n2) l3]) (by simp[results,Tryz.results165,go_sem,Ct,Cu]) rfl (bm.out _ _ ?_)
 exact⟨_,rfl,HI2.out.own (Own.mono HO.out FT.size),Cs⟩
theorem od (v:Value) (X:Int) (j:Nat) (w:World) (hv:bH w v X j):
  Calls Tryz.prog 84 #[v] w λe w'=>e=.returned (.int .i64 X.sign)/\ak w w':=by
 obtain⟨s,p,n,c,rfl⟩:=hv.form
 refine aG λR' bm=> ?_
 have HV:=Lib.hid hv
 have kG:=(ak.refl w).alloc (.cells #[.bool s,.slice p n c] 25)
 clear hv
 go_enter Tryz.func84,Tryz.ntmps84
 go_wp2_with fail
 generalize w.alloc _=W at*
 refine (fM _ X j w _ HV.out gu).mono ?_
 rintro e w1 ⟨v1,rfl,Ci,aL⟩
 obtain⟨s2,p2,n2,k2,rfl⟩:=Ci.fV
 obtain⟨Cv,_,hX⟩:=Ci.parts
 have iX:ak w w1:=kG.aw aL
 have Ag:=Ci.Ks
 clear Ci
 cases s2
 ·by_cases h0:X=0
  ·subst h0
   have:n2=0:=by rw[Cv];simp[bn]
   subst this
   clear Cv hX Ag
   go_wp2
   exact bm.out _ _ ⟨rfl,iX.alloc _⟩
  ·have hp:0<n2:=by rw[Cv];exact cO aa
   have hs:X.sign=1:=dN (by simp at hX;omega)
   rw[hs] at bm
   clear Cv hX Ag
   have hpi:(0:Int)<(n2:Int):=by omega
   go_wp2
   exact bm.out _ _ ⟨rfl,iX.alloc _⟩
 ·have hs:X.sign= -1:=sign_neg (of_decide_eq_true Ag.symm)
  rw[hs] at bm
  clear Cv hX Ag
  go_wp2
  exact bm.out _ _ ⟨rfl,iX.alloc _⟩
theorem ny (v u:Value) (X Y:Int) (j k:Nat) (w:World) (hv:bH w v X j) (hu:bH w u Y k) (hj:j<=1073741824) (hk:k<=1073741824):
  Calls Tryz.prog 85 #[v,u] w λe w'=>e=.returned (.int .i64 (X-Y).sign)/\ak w w':=by
 obtain⟨s,p,n,c,rfl⟩:=hv.form
 obtain⟨t,q,m,d,rfl⟩:=hu.form
 refine aG λR' bm=> ?_
 obtain⟨b1,b2,kG⟩:=lM w 25 25 #[.bool s,.slice p n c] #[.bool t,.slice q m d]
 have HV:=Lib.hid (hv.aB kG)
 have HU:=Lib.hid (hu.aB kG)
 clear hv hu
 go_enter Tryz.func85,Tryz.ntmps85
 go_wp2_with fail
 generalize (w.alloc _).alloc _=W at*
 refine (Lb _ _ X Y j k _ HV.out HU.out hj hk).mono ?_
 rintro e w1 ⟨r,rfl,ho,aL⟩
 go_wp2_with fail
 refine (od _ (X-Y) _ _ (ho.rd.to (Nat.le_refl _))).mono ?_
 rintro e w2 ⟨rfl,aY⟩
 go_wp2
 exact bm.out _ _ ⟨rfl,(kG.aw aL).aw aY⟩
theorem u64neg {n:Int} (h0:n<0) (h1: -9223372036854775808<=n):IntKind.u64.wrap (-(IntKind.u64.wrap n))=(n.natAbs:Int):=by
 rw[qE,qE];omega
theorem u64pos {n:Int} (h0:0<=n) (h1:n<=9223372036854775807):IntKind.u64.wrap n=(n.natAbs:Int):=by
 rw[qE];omega
theorem tJ {a:Nat}:ag [a%4294967296,a/4294967296]=a:=by
 rw[eO,eO,dL];omega
set_option maxRecDepth 100000 in
theorem Gm (n:Int) (w:World) (h0: -9223372036854775808<=n) (h1:n<=9223372036854775807):
  Calls Tryz.prog 88 #[.int .i64 n] w λe w'=>∃ r,e=.returned r/\au w' w.heap.size r n/\ak w w':=by
 refine aG λR' bm=> ?_
 obtain⟨a,ha⟩:∃ a,a=n.natAbs:=⟨_,rfl⟩
 have HA:=Lib.hid ha
 have ha2:a<18446744073709551616:=by omega
 have kS:=aE.new w 25 #[.bool false,.slice none 0 0]
 have kG:=(ak.refl w).alloc (.cells #[.bool false,.slice none 0 0] 25)
 have hRl:=Rd.lit2 (w:=w.alloc (.cells #[.bool false,.slice none 0 0] 25)) (k:=.u32) (e:=78) (x:=(a:Int)%4294967296) (y:=(a:Int)/4294967296) (a:=a%4294967296) (b:=a/4294967296) aa aa
 rw[World.size_alloc] at hRl
 go_enter Tryz.func88,Tryz.ntmps88
 by_cases hn:n<0
 ·have e1:=u64neg hn h0
  rw[<-ha] at e1
  have HN:=Lib.hid hn
  clear ha
  go_wp2_with fail
  refine (iB _ 2 [a%4294967296,a/4294967296] _ hRl (bS.cons aa (bS.cons aa bS.nil)) aa).mono ?_
  rintro e w1 ⟨v1,rfl,sM,aL⟩
  replace aL:ak _ w1:=aL
  rw[tJ] at sM
  obtain⟨p1,k1,rfl,_,_,_⟩:=Own.form sM
  generalize hL:(limbs a).length=L at*
  have HL:=Lib.hid hL
  have FC1:=(kS.alloc (.cells #[.int .u32 ((a:Int)%4294967296),.int .u32 ((a:Int)/4294967296)] 78)).aB aL
  have FB1:ak w w1:=(((ak.refl w).alloc _).alloc _).aw aL
  have ql:=Lib.hid sM
  clear sM hL aL
  go_wp2_with fail
  refine (eR _ _ _ _ _).mono ?_
  rintro e w3 ⟨sg,rfl,Ag,cK⟩
  have FC:=FC1.aB cK
  have FB:=FB1.aw cK
  obtain⟨e5,e6,g5,g6⟩:=FC.two
  have HO:=Lib.hid (Own.bt (Own.below ql.out cK) FC bZ (.bool sg) (.slice p1 L k1))
  clear ql FC1
  have Cr:=FC.bt (.bool (sg)) (.slice p1 (L) k1)
  have Cs:=ak.bt FB (b:=w.heap.size) aa (.bool (sg)) (.slice p1 (L) k1)
  go_wp2
  generalize (w3.setCell ⟨w.heap.size,0,none⟩ (.bool (sg))).setCell ⟨w.heap.size,1,none⟩ (.slice p1 (L) k1)=wz at*
  obtain⟨Ct,Cu,_,_⟩:=Cr.two
  refine bodyPost_ret (v:=.agg #[.bool (sg),.slice p1 (L) k1]) (by simp[results,Tryz.results88,go_sem,Ct,Cu]) rfl (bm.out _ _ ?_)
  rw[Ag.out]
  refine⟨_,rfl,au.of (m:=a) (by rw[HL.out];exact Own.mono HO.out (by simp;omega)) HL.out.symm _ ?_,Cs⟩
  have:=HN.out
  have:=HA.out
  simp;omega
 ·have e1:=u64pos (by omega:0<=n) h1
  rw[<-ha] at e1
  have HN:=Lib.hid hn
  clear ha
  go_wp2_with fail
  refine (iB _ 2 [a%4294967296,a/4294967296] _ hRl (bS.cons aa (bS.cons aa bS.nil)) aa).mono ?_
  rintro e w1 ⟨v1,rfl,sM,aL⟩
  replace aL:ak _ w1:=aL
  rw[tJ] at sM
  obtain⟨p1,k1,rfl,_,_,_⟩:=Own.form sM
  generalize hL:(limbs a).length=L at*
  have HL:=Lib.hid hL
  have FC1:=(kS.alloc (.cells #[.int .u32 ((a:Int)%4294967296),.int .u32 ((a:Int)/4294967296)] 78)).aB aL
  have FB1:ak w w1:=(((ak.refl w).alloc _).alloc _).aw aL
  have ql:=Lib.hid sM
  clear sM hL aL
  go_wp2_with fail
  refine (eR _ _ _ _ _).mono ?_
  rintro e w3 ⟨sg,rfl,Ag,cK⟩
  have FC:=FC1.aB cK
  have FB:=FB1.aw cK
  obtain⟨e5,e6,g5,g6⟩:=FC.two
  have HO:=Lib.hid (Own.bt (Own.below ql.out cK) FC bZ (.bool sg) (.slice p1 L k1))
  clear ql FC1
  have Cr:=FC.bt (.bool (sg)) (.slice p1 (L) k1)
  have Cs:=ak.bt FB (b:=w.heap.size) aa (.bool (sg)) (.slice p1 (L) k1)
  go_wp2
  generalize (w3.setCell ⟨w.heap.size,0,none⟩ (.bool (sg))).setCell ⟨w.heap.size,1,none⟩ (.slice p1 (L) k1)=wz at*
  obtain⟨Ct,Cu,_,_⟩:=Cr.two
  refine bodyPost_ret (v:=.agg #[.bool (sg),.slice p1 (L) k1]) (by simp[results,Tryz.results88,go_sem,Ct,Cu]) rfl (bm.out _ _ ?_)
  rw[Ag.out]
  refine⟨_,rfl,au.of (m:=a) (by rw[HL.out];exact Own.mono HO.out (by simp;omega)) HL.out.symm _ ?_,Cs⟩
  have:=HN.out
  have:=HA.out
  simp;omega
end
section
open Go.RowKit
def pS (rows:List (List Nat)):Nat:=rows.foldl (λa r=>Nat.gcd a (ag r)) 0
theorem Iu (rows:List (List Nat)) (r:List Nat):pS (rows++[r])=Nat.gcd (pS rows) (ag r):=by simp[pS,List.foldl_append]
theorem Ld {x y:Nat}:Nat.gcd y (x%y)=Nat.gcd x y:=by rw[Nat.gcd_comm,<-Nat.gcd_rec,Nat.gcd_comm]
def GcdOut (w:World) (B:Nat) (rows:List (List Nat)) (g:Nat) (av iv:Value) (wr:World):Prop:=
 ∃ k,k<=rows.length/\g=rows.length-k/\iv=.int .i64 (k:Int)/\wr.ownsRow B 78 1 av (limbs (pS (rows.take k))).length (ints .u32 (limbs (pS (rows.take k))))/\(limbs (pS (rows.take k))).length<=536870912/\Below B w wr
def GcdIn (w:World) (B G:Nat) (g:Nat) (av bv:Value) (wr:World):Prop:=
 ∃ x,Nat.gcd x g=G/\wr.ownsRow B 78 1 av (limbs x).length (ints .u32 (limbs x))/\wr.ownsRow B 78 1 bv (limbs g).length (ints .u32 (limbs g))/\(limbs x).length<=536870912/\(limbs g).length<=536870912/\Below B w wr
set_option maxRecDepth 100000 in
theorem Le (va:Value) (rows:List (List Nat)) (w:World) (hr:gD w va rows) (hx:∀ xs∈rows,bS xs/\xs.length<=536870912) (hn:rows.length<=1048576):
  Calls Tryz.prog 147 #[va] w λe w'=>∃ v',e=.returned v'/\w'.ownsRow w.heap.size 78 1 v' (limbs (pS rows)).length (ints .u32 (limbs (pS rows)))/\Below w.heap.size w w':=by
 obtain⟨p,c,rfl,eV,fm⟩:=hr.form
 have Hr:=Lib.hid hr
 have HL:=Lib.hid hx
 obtain⟨B,hB⟩:∃ B,B=w.heap.size:=⟨_,rfl⟩
 have HB:=Lib.hid hB
 obtain⟨N,hN⟩:∃ N,N=rows.length:=⟨_,rfl⟩
 rw[<-hN] at eV hn ⊢
 have HN:=Lib.hid hN
 rw[<-hB]
 clear hx hr hB hN
 refine aG λR' bm=> ?_
 go_enter Tryz.func147,Tryz.ntmps147
 go_wp2
 go_loopg [3,11] N (λg av iv wr=>GcdOut w B rows g av iv wr)
 case atStart=>exact⟨0,Nat.zero_le _,by rw[HN.out];rfl,rfl,by simp[pS,bn];exact World.ownsRow_nil _ _ _ _,by simp[pS,bn],Below.refl _ _⟩
 case round=>
  obtain⟨k,hk,hgk,rfl,az,hlen,hb⟩:=hrel
  have HO:=Lib.hid az
  have fK:=Lib.hid hb
  have HGK:=Lib.hid hgk
  have HLEN:=Lib.hid hlen
  rw[<-HN.out] at hk
  clear az hb hgk hlen
  by_cases hkn:k<N
  ·obtain⟨b1,o1,u,xs,rfl,fq,ku,mO⟩:=((Hr.out.below (by have:=fK.out;rwa [HB.out] at this)).at (k:=k) (by rw[<-HN.out];exact hkn))
   have uI:=Lib.hid fq
   have HRU:=Lib.hid mO
   clear fq mO
   have uH:B<=wr.heap.size:=by have:=fK.out.size;have:=HB.out;omega
   obtain⟨vD,xQ⟩:=HL.out xs (List.mem_of_getElem? uI.out)
   obtain⟨a,ha⟩:∃ a,a=pS (rows.take k):=⟨_,rfl⟩
   obtain⟨y,hy⟩:∃ y,y=ag xs:=⟨_,rfl⟩
   have ju:(limbs y).length<=536870912:=by rw[hy];exact Nat.le_trans (gz vD) xQ
   have HL1:=Lib.hid vD
   have HL2:=Lib.hid xQ
   have HYL:=Lib.hid ju
   have HG:Hid (Nat.gcd a y=pS (rows.take (k+1))):=by show _=_;rw[bf uI.out,Iu,ha,hy]
   have HA:=Lib.hid ha
   have HY:=Lib.hid hy
   clear ha hy vD xQ ju
   go_wp2_with fail
   refine (iB _ _ xs _ HRU.out HL1.out (by have:=HL2.out;omega)).mono ?_
   rintro e w2 ⟨v',rfl,jG,aY⟩
   rw[<-HY.out] at jG
   have sM:=Own.below HO.out aY
   rw[<-HA.out] at sM
   have ql:=Lib.hid sM
   clear sM
   have mr:=Lib.hid (Own.mono jG uH)
   have tr:=Lib.hid (fK.out.trans (aY.mono uH))
   clear jG aY ku
   go_wp2_with fail
   go_loopg [3,5] y (λg av bv wr=>GcdIn w B (Nat.gcd a y) g av bv wr)
   case atStart=>exact⟨a,rfl,ql.out,mr.out,by rw[HA.out];exact HLEN.out,HYL.out,tr.out⟩
   case round=>
    obtain⟨x,uG,hox,hoy,qo,kJ,iX⟩:=hrel
    have HXY:=Lib.hid uG
    have HOX:=Lib.hid hox
    have HOY:=Lib.hid hoy
    have HLX:=Lib.hid qo
    have HLY:=Lib.hid kJ
    have HBX:=Lib.hid iX
    obtain⟨py,cy,rfl,_,_,_⟩:=Own.form hoy
    clear uG hox hoy qo kJ iX
    by_cases Lf:gk=0
    ·subst Lf
     have hl0:(limbs 0).length=0:=by rw[bn];rfl
     rw[hl0]
     have hxg:x=pS (rows.take (k+1)):=by rw[<-HG.out,<-HXY.out,Nat.gcd_zero_right]
     have HXG:=Lib.hid hxg
     clear hxg hl0
     go_wp2_with fail
     go_roundg (N-(k+1))
     case measure=>have:=HGK.out;have:=HN.out;omega
     case rel=>exact⟨k+1,by rw[<-HN.out];omega,by rw[HN.out],by go_num,by rw[<-HXG.out];exact HOX.out,by rw[<-HXG.out];exact HLX.out,HBX.out⟩
    ·have hp:(0:Int)<((limbs gk).length:Int):=by have:=cO Lf;omega
     have HG0:=Lib.hid Lf
     obtain⟨L,hL⟩:∃ L,L=(limbs gk).length:=⟨_,rfl⟩
     rw[<-hL] at hp ⊢
     have HL:=Lib.hid hL
     have nS:B<=wr.heap.size:=by have:=HBX.out.size;have:=HB.out;omega
     clear Lf hL
     go_wp2_with fail
     refine (tq _ _ _ _ _ _ _ (Rd.own HOX.out) (by rw[HL.out];exact Rd.own HOY.out) (aj _) (aj _) HLX.out HLY.out).mono ?_
     rintro e w3 ⟨⟨h,rfl⟩|⟨h,vq,vr,rfl,Bv,vt⟩,cK⟩
     ·exact absurd (by rw[ai] at h;exact h) HG0.out
     rw[ai,ai] at vt
     have hlt:x%gk<gk:=Nat.mod_lt _ (Nat.pos_iff_ne_zero.2 HG0.out)
     have HLT:=Lib.hid hlt
     have HOR:=Lib.hid (Own.mono vt nS)
     have HOG:=Lib.hid (Own.below HOY.out cK)
     have Jq:=Lib.hid (HBX.out.trans (cK.mono nS))
     clear Bv vt cK h hlt
     go_wp2_with fail
     go_roundg (x%gk)
     case measure=>exact HLT.out
     case rel=>exact⟨gk,by rw[Ld];exact HXY.out,by rw[HL.out];exact HOG.out,HOR.out,HLY.out,Nat.le_trans (bX (Nat.le_of_lt HLT.out)) HLY.out,Jq.out⟩
  ·obtain rfl:k=N:=by omega
   go_wp2_with fail
   refine (jt _ _ _ _ (Rd.own HO.out) (by have:=HLEN.out;omega)).mono ?_
   rintro e w2 ⟨v',rfl,jG,aY⟩
   have uH:B<=wr.heap.size:=by have:=fK.out.size;have:=HB.out;omega
   go_wp2_with fail
   refine bm.out _ _ ⟨_,rfl,?_,fK.out.trans (aY.mono uH)⟩
   have:=Own.mono jG uH
   rwa [List.take_of_length_le (by rw[HN.out];exact Nat.le_refl _)] at this
end
section
open Go.RowKit
theorem Lg (x y:Nat):pS [limbs x,limbs y]=Nat.gcd x y:=by simp[pS,ai]
set_option maxRecDepth 100000 in
theorem Cw (v u:Value) (X Y:Int) (j k:Nat) (w:World) (hv:bH w v X j) (hu:bH w u Y k) (hj:j<=536870912) (hk:k<=536870912):
  Calls Tryz.prog 86 #[v,u] w λe w'=>∃ r,e=.returned r/\au w' w.heap.size r (Int.gcd X Y:Int)/\ak w w':=by
 obtain⟨s,p,n,c,rfl⟩:=hv.form
 obtain⟨t,q,m,d,rfl⟩:=hu.form
 refine aG λR' bm=> ?_
 obtain⟨b1,b2,b3,kG⟩:=lN w 25 25 25 #[.bool s,.slice p n c] #[.bool t,.slice q m d] #[.bool false,.slice none 0 0]
 have qo:=hv.len
 have kJ:=hu.len
 have HJ:=Lib.hid (Nat.le_trans qo hj)
 have HK:=Lib.hid (Nat.le_trans kJ hk)
 have HV:=Lib.hid hv
 have HU:=Lib.hid hu
 have hsz:w.heap.size+3<=(((w.alloc (.cells #[.bool s,.slice p n c] 25)).alloc (.cells #[.bool t,.slice q m d] 25)).alloc (.cells #[.bool false,.slice none 0 0] 25)).heap.size:=by simp
 clear hv hu hj hk qo kJ
 go_enter Tryz.func86,Tryz.ntmps86
 go_wp2_with fail
 generalize ((w.alloc _).alloc _).alloc _=W at*
 have HS:=Lib.hid (λw' (h:aq W (w.heap.size+1+1) w')=>And.intro (h.cells b1 aa) (h.cells b2 aa))
 obtain⟨c1,c2,_,_⟩:=b1.two
 obtain⟨c3,c4,_,_⟩:=b2.two
 obtain⟨c5,c6,f5,f6⟩:=b3.two
 go_region_held3 (λw'=>(w'.cell? ⟨w.heap.size,0,none⟩=some (.bool s)/\w'.cell? ⟨w.heap.size,1,none⟩=some (.slice p n c))/\w'.cell? ⟨w.heap.size+1,0,none⟩=some (.bool t)/\w'.cell? ⟨w.heap.size+1,1,none⟩=some (.slice q m d)) ((refine HS.out _ ?_;(with_reducible (repeat (first|exact aq.refl _ _|refine aq.drew ?_|refine aq.drewN ?_ _|refine aq.alloc ?_ _|refine aq.set ?_ _|refine aq.aw ?_ (by assumption)|refine aq.mY ?_ (by first|omega|(simp;done)|(simp;omega)) _))))) (first
  | (go_at_call_of 144 (Value.slice p n c);refine (fM _ X j w _ HV.out gu).mono ?_;rintro e w1 ⟨u1,rfl,AM,aL⟩;obtain⟨s1,p1,n1,k1,rfl⟩:=AM.fV;have hf1:=yU s1 p1 n1 k1;have hf2:=yV s1 p1 n1 k1)
  | (go_at_call_of 144 (Value.slice q m d);refine (fM _ Y k w _ HU.out gu).mono ?_;rintro e w2 ⟨u2,rfl,xB,aY⟩;obtain⟨s2,p2,n2,k2,rfl⟩:=xB.fV;have hf3:=yU s2 p2 n2 k2;have hf4:=yV s2 p2 n2 k2;have HP1:=Lib.hid AM.parts;have HP2:=Lib.hid xB.parts)
  | (go_at_call 147;refine (Le _ [limbs X.natAbs,limbs Y.natAbs] _ (gD.two (FP rfl) (by rw[<-HP1.out.1];exact HP1.out.2.1.below (by show ak _ _;exact gu)) (by rw[<-HP2.out.1];exact HP2.out.2.1.below (by show ak _ _;exact gu))) (λxs hx=>by rcases List.mem_cons.1 hx with rfl|hx;exact⟨aj _,HJ.out⟩;obtain rfl:=List.mem_singleton.1 hx;exact⟨aj _,HK.out⟩) (by show 2<=1048576;omega)).mono ?_;rintro e w3 ⟨v3,rfl,La,cK⟩;replace cK:ak _ w3:=cK;rw[Lg] at La;obtain⟨p3,k3,rfl,_,_,_⟩:=Own.form La)
  | (go_at_call 146;refine (eR _ _ _ _ _).mono ?_;rintro e w4 ⟨sg,rfl,Ag,gj⟩;obtain⟨e5,e6,g5,g6⟩:=(aE.aB (w':=w4) b3 gu).two)
  | fail)
 have FC:=(aE.aB (w':=w4) b3 gu)
 have FB:ak w w4:=gu
 have FZ:ak w (w2.alloc (.cells #[.slice p1 n1 k1,.slice p2 n2 k2] 23)):=gu
 generalize hL:(limbs (X.natAbs.gcd Y.natAbs)).length=L at*
 have HL:=Lib.hid hL
 have HO:=Lib.hid (Own.bt (Own.below La gj) FC bZ (.bool sg) (.slice p3 L k3))
 clear La hL
 have Cr:=FC.bt (.bool (sg)) (.slice p3 (L) k3)
 have Cs:=ak.bt FB (b:=w.heap.size+1+1) aa (.bool (sg)) (.slice p3 (L) k3)
 go_wp2
 generalize (w4.setCell ⟨w.heap.size+1+1,0,none⟩ (.bool (sg))).setCell ⟨w.heap.size+1+1,1,none⟩ (.slice p3 (L) k3)=wz at*
 obtain⟨Ct,Cu,_,_⟩:=Cr.two
 refine bodyPost_ret (v:=.agg #[.bool (sg),.slice p3 (L) k3]) (by simp[results,Tryz.results86,go_sem,Ct,Cu]) rfl (bm.out _ _ ?_)
 rw[Ag.out]
 refine⟨_,rfl,au.of (m:=X.natAbs.gcd Y.natAbs) (by rw[HL.out];exact Own.mono HO.out FZ.size) HL.out.symm _ ?_,Cs⟩
 simp[Int.gcd]
end
section
open Go.RowKit
theorem boxes4 (w:World) (t t' DI t3:TypeId) (cs gF oI cs3:Array Value):aE ((((w.alloc (.cells cs t)).alloc (.cells gF t')).alloc (.cells oI DI)).alloc (.cells cs3 t3)) w.heap.size t cs/\aE ((((w.alloc (.cells cs t)).alloc (.cells gF t')).alloc (.cells oI DI)).alloc (.cells cs3 t3)) (w.heap.size+1) t' gF/\
  aE ((((w.alloc (.cells cs t)).alloc (.cells gF t')).alloc (.cells oI DI)).alloc (.cells cs3 t3)) (w.heap.size+2) DI oI/\aE ((((w.alloc (.cells cs t)).alloc (.cells gF t')).alloc (.cells oI DI)).alloc (.cells cs3 t3)) (w.heap.size+3) t3 cs3/\
  ak w ((((w.alloc (.cells cs t)).alloc (.cells gF t')).alloc (.cells oI DI)).alloc (.cells cs3 t3)):=
 ⟨(lN w t t' DI cs gF oI).1.alloc _,(lN w t t' DI cs gF oI).2.1.alloc _,(lN w t t' DI cs gF oI).2.2.1.alloc _,aE.newAt dU _ _,(lN w t t' DI cs gF oI).2.2.2.alloc _⟩
def wv (w w':World) (X Y:Int) (e:Ending):Prop:=
 (Y=0/\∃ v u,e=.returned (.tuple #[v,u,.int .i64 20])/\au w' w.heap.size v 0/\au w' w.heap.size u 0)\/
 (Y≠0/\∃ v u,e=.returned (.tuple #[v,u,.int .i64 0])/\au w' w.heap.size v (X.fdiv Y)/\au w' w.heap.size u (X.fmod Y))
def Lh (a b:Nat) (s t:Bool) (M R:Nat):Prop:=((s=t\/a%b=0)/\M=a/b/\R=a%b)\/(s≠t/\a%b≠0/\M=a/b+1/\R=b-a%b)
theorem oe {X Y:Int} {a b M R:Nat} {s t:Bool} (hX:X=if s=true then-(a:Int) else a) (hY:Y=if t=true then-(b:Int) else b) (hb:b≠0) (h:Lh a b s t M R):
  X.fdiv Y=(if (!(s == t))=true then-(M:Int) else M)/\X.fmod Y=(if t=true then-(R:Int) else R):=by
 unfold Lh at h
 have e:=Nat.div_add_mod a b
 have hlt:=Nat.mod_lt a (Nat.pos_of_ne_zero hb)
 generalize a/b=q at*
 generalize a%b=r at*
 have e':(a:Int)=(b:Int)*(q:Int)+(r:Int):=by rw[<-e];simp
 rw[e'] at hX
 have hR:R<=b:=by rcases h with ⟨_,_,rfl⟩|⟨_,_,_,rfl⟩ <;> omega
 cases t
 ·have hp:0<Y:=by simp at hY;omega
  refine (Int.fdiv_fmod_unique hp).2 ?_
  rcases h with ⟨h1,rfl,rfl⟩|⟨h1,h2,rfl,rfl⟩
  ·cases s
   ·simp at hX hY ⊢
    subst hX;subst hY
    omega
   ·simp at h1 hX hY ⊢
    subst hX;subst hY;subst h1
    simp only[Int.mul_neg]
    omega
  ·cases s
   ·exact absurd rfl h1
   ·simp at hX hY ⊢
    subst hX;subst hY
    rw[Int.natCast_sub aa]
    simp only[Int.mul_add,Int.mul_neg,Int.mul_one,Int.neg_add]
    omega
 ·have hp:Y<0:=by simp at hY;omega
  refine (Int.fdiv_fmod_unique' hp).2 ?_
  rcases h with ⟨h1,rfl,rfl⟩|⟨h1,h2,rfl,rfl⟩
  ·cases s
   ·simp at h1 hX hY ⊢
    subst hX;subst hY;subst h1
    simp only[Int.neg_mul_neg]
    omega
   ·simp at hX hY ⊢
    subst hX;subst hY
    simp only[Int.neg_mul]
    omega
  ·cases s
   ·simp at hX hY ⊢
    subst hX;subst hY
    rw[Int.natCast_sub aa]
    simp only[Int.mul_add,Int.neg_mul,Int.mul_neg,Int.mul_one,Int.neg_add,Int.neg_neg]
    omega
   ·exact absurd rfl h1
set_option maxRecDepth 100000 in
theorem jV (v u:Value) (X Y:Int) (j k:Nat) (w:World) (hv:bH w v X j) (hu:bH w u Y k) (hj:j<=536870912) (hk:k<=536870912):
  Calls Tryz.prog 208 #[v,u] w λe w'=>wv w w' X Y e/\ak w w':=by
 obtain⟨s,p,n,c,rfl⟩:=hv.form
 obtain⟨t,q,m,d,rfl⟩:=hu.form
 refine aG λR' bm=> ?_
 obtain⟨b1,b2,b3,b4,kG⟩:=boxes4 w 25 25 25 25 #[.bool s,.slice p n c] #[.bool t,.slice q m d] #[.bool false,.slice none 0 0] #[.bool false,.slice none 0 0]
 have qo:=hv.len
 have kJ:=hu.len
 have HJ:=Lib.hid (Nat.le_trans qo hj)
 have HK:=Lib.hid (Nat.le_trans kJ hk)
 have HV:=Lib.hid hv
 have HU:=Lib.hid hu
 have hsz:w.heap.size+4<=((((w.alloc (.cells #[.bool s,.slice p n c] 25)).alloc (.cells #[.bool t,.slice q m d] 25)).alloc (.cells #[.bool false,.slice none 0 0] 25)).alloc (.cells #[.bool false,.slice none 0 0] 25)).heap.size:=by simp
 clear hv hu hj hk qo kJ
 go_enter Tryz.func208,Tryz.ntmps208
 go_wp2_with fail
 generalize (((w.alloc _).alloc _).alloc _).alloc _=W at*
 go_cut [7,8] (λx5 x6 wc=>Gl w W wc 246 X Y x5 x6)
 case first=>
  have HS:=Lib.hid (λw' (h:aq W (w.heap.size+1+1) w')=>And.intro (h.cells b1 aa) (h.cells b2 aa))
  obtain⟨c1,c2,_,_⟩:=b1.two
  obtain⟨c3,c4,_,_⟩:=b2.two
  go_region_held3 (λw'=>(w'.cell? ⟨w.heap.size,0,none⟩=some (.bool s)/\w'.cell? ⟨w.heap.size,1,none⟩=some (.slice p n c))/\w'.cell? ⟨w.heap.size+1,0,none⟩=some (.bool t)/\w'.cell? ⟨w.heap.size+1,1,none⟩=some (.slice q m d)) ((refine HS.out _ ?_;(with_reducible (repeat (first|exact aq.refl _ _|refine aq.drew ?_|refine aq.drewN ?_ _|refine aq.alloc ?_ _|refine aq.set ?_ _|refine aq.aw ?_ (by assumption)|refine aq.mY ?_ (by first|omega|(simp;done)|(simp;omega)) _))))) (first
   | (go_at_call_of 144 (Value.slice p n c);refine (fM _ X j w _ HV.out gu).mono ?_;rintro e w1 ⟨u1,rfl,AM,aL⟩;obtain⟨s1,p1,n1,k1,rfl⟩:=AM.fV;have KV:=aL.size;(try simp at KV);(try (have q1:=aE.aB (aE.drew (aE.new _ _ #[_,_])) aL;(try simp at q1);obtain⟨q1a,q1b,q1c,q1d⟩:=q1.two;have q1l:=q1.lt;have q1n:=Nat.ne_of_lt q1l;have q1m:=Nat.ne_of_gt q1l));(try (have q2:=aE.aB (aE.drew (aE.alloc (aE.new _ _ #[_,_]) _)) aL;(try simp at q2);obtain⟨q2a,q2b,q2c,q2d⟩:=q2.two;have q2l:=q2.lt;have q2n:=Nat.ne_of_lt q2l;have q2m:=Nat.ne_of_gt q2l)))
   | (go_at_call_of 144 (Value.slice q m d);refine (fM _ Y k w _ HU.out gu).mono ?_;rintro e w2 ⟨u2,rfl,xB,aY⟩;obtain⟨s2,p2,n2,k2,rfl⟩:=xB.fV;have hs2:=aY.size;(try simp at hs2);(try (have q3:=aE.aB (aE.new _ _ #[_,_]) aY;(try simp at q3);obtain⟨q3a,q3b,q3c,q3d⟩:=q3.two;have q3l:=q3.lt;have q3n:=Nat.ne_of_lt q3l;have q3m:=Nat.ne_of_gt q3l));(try (have q4:=aE.aB (aE.alloc (aE.new _ _ #[_,_]) _) aY;(try simp at q4);obtain⟨q4a,q4b,q4c,q4d⟩:=q4.two;have q4l:=q4.lt;have q4n:=Nat.ne_of_lt q4l;have q4m:=Nat.ne_of_gt q4l));(try (have q5:=aE.aB q1 aY;(try simp at q5);obtain⟨q5a,q5b,q5c,q5d⟩:=q5.two;have q5l:=q5.lt;have q5n:=Nat.ne_of_lt q5l;have q5m:=Nat.ne_of_gt q5l));(try (have q6:=aE.aB q2 aY;(try simp at q6);obtain⟨q6a,q6b,q6c,q6d⟩:=q6.two;have q6l:=q6.lt;have q6n:=Nat.ne_of_lt q6l;have q6m:=Nat.ne_of_gt q6l));(try (have q7:=aE.aB (aE.alloc q1 _) aY;(try simp at q7);obtain⟨q7a,q7b,q7c,q7d⟩:=q7.two;have q7l:=q7.lt;have q7n:=Nat.ne_of_lt q7l;have q7m:=Nat.ne_of_gt q7l)))
   | fail)
  all_goals
   go_wp2
   go_meet
   refine⟨_,_,s1,p1,n1,k1,s2,p2,n2,k2,rfl,rfl,?_,?_,AM,xB,?_⟩
   ·(with_reducible (repeat (first|assumption|exact aE.newAt (by first|rfl|(simp;done)) _ _|refine aE.alloc ?_ _|refine aE.drew ?_|refine aE.bt (u:=.bool false) (v:=.slice none 0 0) ?_ _ _|refine aE.dm ?_ (by first|omega|(simp;omega)) _ _|refine aE.aB ?_ (by assumption))))
   ·(with_reducible (repeat (first|assumption|exact aE.newAt (by first|rfl|(simp;done)) _ _|refine aE.alloc ?_ _|refine aE.drew ?_|refine aE.bt (u:=.bool false) (v:=.slice none 0 0) ?_ _ _|refine aE.dm ?_ (by first|omega|(simp;omega)) _ _|refine aE.aB ?_ (by assumption))))
   ·exact gu
 case rest=>
  obtain⟨g,h,s1,p1,n1,k1,s2,p2,n2,k2,rfl,rfl,B5,B6,AM,xB,DJ⟩:=hcut
  obtain⟨JU,pk,hX⟩:=AM.parts
  obtain⟨Cv,ky,hY⟩:=xB.parts
  have B3:=b3.aB DJ
  have B4:=b4.aB DJ
  have iX:ak w wc:=kG.aw DJ
  have HR1:=Lib.hid (pk.below iX)
  have HR2:=Lib.hid (ky.below iX)
  have HN1:=Lib.hid JU
  have HN2:=Lib.hid Cv
  have HX:=Lib.hid hX
  have HY:=Lib.hid hY
  have HM1:Hid (n1<=536870912):=by show _<=_;rw[JU];exact HJ.out
  have HM2:Hid (n2<=536870912):=by show _<=_;rw[Cv];exact HK.out
  have hzs:w.heap.size+4<=wc.heap.size:=Nat.le_trans hsz DJ.size
  clear b1 b2 b3 b4 DJ kG AM xB pk ky hX hY JU Cv hsz
  obtain⟨c1,c2,_,_⟩:=B5.two
  obtain⟨c3,c4,_,_⟩:=B6.two
  go_wp2_with fail
  refine (tq _ _ n1 n2 _ _ _ HR1.out HR2.out (aj _) (aj _) HM1.out HM2.out).mono ?_
  rw[ai,ai]
  rintro e w3 ⟨hd,cK⟩
  replace cK:ak _ w3:=cK
  have F5:=B5.aB cK
  have F6:=B6.aB cK
  have F3:=B3.aB cK
  have F4:=B4.aB cK
  have Iv:=iX.aw cK
  obtain⟨e1,e2,_,_⟩:=F5.two
  obtain⟨e3,e4,_,_⟩:=F6.two
  obtain⟨e5,e6,f5,f6⟩:=F3.two
  obtain⟨e7,e8,f7,f8⟩:=F4.two
  rcases hd with ⟨h0,rfl⟩|⟨h0,vq,vr,rfl,Bv,vt⟩
  ·have hY0:Y=0:=by have:=HY.out;split at this <;> omega
   have G3:=(F3.bt (.bool false) (.slice none 0 0)).dm (b':=w.heap.size+3) aa (.bool false) (.slice none 0 0)
   have G4:=(F4.dm (b':=w.heap.size+2) aa (.bool false) (.slice none 0 0)).bt (.bool false) (.slice none 0 0)
   have hbz:=(Iv.bt (b:=w.heap.size+2) aa (.bool false) (.slice none 0 0)).bt (b:=w.heap.size+3) aa (.bool false) (.slice none 0 0)
   clear HX HY HN1 HN2 h0
   go_wp2
   generalize (((w3.setCell ⟨w.heap.size+1+1,0,none⟩ (.bool false)).setCell ⟨w.heap.size+1+1,1,none⟩ (.slice none 0 0)).setCell ⟨w.heap.size+1+1+1,0,none⟩ (.bool false)).setCell ⟨w.heap.size+1+1+1,1,none⟩ (.slice none 0 0)=wz at*
   obtain⟨d1,d2,_,_⟩:=G3.two
   obtain⟨d3,d4,_,_⟩:=G4.two
   exact bodyPost_ret (v:=.tuple #[.agg #[.bool false,.slice none 0 0],.agg #[.bool false,.slice none 0 0],.int .i64 20]) (by simp[results,Tryz.results208,go_sem,d1,d2,d3,d4]) rfl (bm.out _ _ ⟨.inl ⟨hY0,_,_,rfl,au.zero _ _,au.zero _ _⟩,hbz⟩)
  ·obtain⟨pq,kq,rfl,_,_,_⟩:=Own.form Bv
   obtain⟨pr,kr,rfl,_,_,_⟩:=Own.form vt
   generalize EF:(limbs (X.natAbs/Y.natAbs)).length=lq at*
   generalize DF:(limbs (X.natAbs%Y.natAbs)).length=lr at*
   have HLQ:=Lib.hid EF.symm
   have Jp:=Lib.hid DF.symm
   have HOQ:=Lib.hid Bv
   have HOR:=Lib.hid vt
   have H0:=Lib.hid h0
   clear Bv vt EF DF h0 e2 e6 e8 e5 e7 f5 f6 f7 f8 c1 c2 c3 c4
   by_cases hst:s1=s2
   ·subst hst
    clear e4
    go_wp2_with fail
    have hg3:g≠w.heap.size+1+1:=aE.apart F5 F3 bZ
    have jd:g≠w.heap.size+1+1+1:=aE.apart F5 F4 bZ
    have hh3:h≠w.heap.size+1+1:=aE.apart F6 F3 bZ
    have hh4:h≠w.heap.size+1+1+1:=aE.apart F6 F4 bZ
    have HS:=Lib.hid (λw' (hk:aK w3 (w.heap.size+1+1) (w.heap.size+1+1+1) w')=>And.intro ((hk.cls F5 hg3 jd).cell (j:=0) rfl) ((hk.cls F6 hh3 hh4).cell (j:=0) rfl))
    go_region_held3 (λw'=>w'.cell? ⟨g,0,none⟩=some (.bool s1)/\w'.cell? ⟨h,0,none⟩=some (.bool s1)) ((refine HS.out _ ?_;(with_reducible (repeat (first|exact aK.refl _ _ _|refine aK.drew ?_|refine aK.Kt ?_ _|refine aK.oJ ?_ _|refine aK.aw ?_ (by assumption)))))) (first
     | (go_at_call_of 146 (Value.slice pq lq kq);refine (eR _ _ _ _ _).mono ?_;rintro e w6 ⟨sg,rfl,Ag,og⟩)
     | (go_at_call_of 146 (Value.slice pr lr kr);refine (eR _ _ _ _ _).mono ?_;rintro e w7 ⟨wx,rfl,Li,DK⟩;obtain⟨i1,i2,i3,i4⟩:=(aE.aB (w':=w7) F3 gu).two;obtain⟨j1,j2,j3,j4⟩:=(aE.aB (w':=w7) F4 gu).two)
     | fail)
    have E3:=(aE.aB (w':=w7) F3 gu)
    have E4:=(aE.aB (w':=w7) F4 gu)
    have FW:ak w3 w7:=gu
    have FB:ak w w7:=gu
    have Bv:=Own.below (HOQ).out FW
    have vt:=Own.below (HOR).out FW
    have Cy:=(Own.bt (Own.bt Bv E3 bZ (.bool sg) (.slice pq lq kq)) (E4.dm (b':=w.heap.size+1+1) aa (.bool sg) (.slice pq lq kq)) bZ (.bool wx) (.slice pr lr kr))
    have Cz:=(Own.bt (Own.bt vt E3 bZ (.bool sg) (.slice pq lq kq)) (E4.dm (b':=w.heap.size+1+1) aa (.bool sg) (.slice pq lq kq)) bZ (.bool wx) (.slice pr lr kr))
    have G3:=(E3.bt (.bool sg) (.slice pq lq kq)).dm (b':=w.heap.size+1+1+1) aa (.bool wx) (.slice pr lr kr)
    have G4:=(E4.dm (b':=w.heap.size+1+1) aa (.bool sg) (.slice pq lq kq)).bt (.bool wx) (.slice pr lr kr)
    have hbz:=(FB.bt (b:=w.heap.size+1+1) aa (.bool sg) (.slice pq lq kq)).bt (b:=w.heap.size+1+1+1) aa (.bool wx) (.slice pr lr kr)
    have Lj:=Lib.hid Cy
    have Lk:=Lib.hid Cz
    clear Bv vt Cy Cz
    go_wp2
    generalize (((w7.setCell ⟨w.heap.size+1+1,0,none⟩ (.bool sg)).setCell ⟨w.heap.size+1+1,1,none⟩ (.slice pq lq kq)).setCell ⟨w.heap.size+1+1+1,0,none⟩ (.bool wx)).setCell ⟨w.heap.size+1+1+1,1,none⟩ (.slice pr lr kr)=wz at*
    obtain⟨d1,d2,_,_⟩:=G3.two
    obtain⟨d3,d4,_,_⟩:=G4.two
    have uu:=oe HX.out HY.out H0.out (.inl ⟨.inl rfl,rfl,rfl⟩)
    refine bodyPost_ret (v:=.tuple #[.agg #[.bool sg,.slice pq lq kq],.agg #[.bool wx,.slice pr lr kr],.int .i64 0]) (by simp[results,Tryz.results208,go_sem,d1,d2,d3,d4]) rfl (bm.out _ _ ⟨.inr ⟨by have:=H0.out;omega,_,_,rfl,?_,?_⟩,hbz⟩)
    ·rw[Ag.out]
     exact au.of (by rw[<-(HLQ).out];exact Own.mono Lj.out iX.size) (HLQ).out _ (by simpa using uu.1)
    ·rw[Li.out]
     exact au.of (by rw[<-(Jp).out];exact Own.mono Lk.out iX.size) (Jp).out _ (by simpa using uu.2)
   ·obtain rfl:s2= !s1:=by cases s1 <;> cases s2 <;> simp_all
    by_cases mM:X.natAbs%Y.natAbs=0
    ·have hl0:lr=0:=by have:=Jp.out;rw[mM,bn] at this;exact this
     have HR0:=Lib.hid mM
     subst hl0
     clear mM hst e4
     go_wp2_with fail
     have hg3:g≠w.heap.size+1+1:=aE.apart F5 F3 bZ
     have jd:g≠w.heap.size+1+1+1:=aE.apart F5 F4 bZ
     have hh3:h≠w.heap.size+1+1:=aE.apart F6 F3 bZ
     have hh4:h≠w.heap.size+1+1+1:=aE.apart F6 F4 bZ
     have HS:=Lib.hid (λw' (hk:aK w3 (w.heap.size+1+1) (w.heap.size+1+1+1) w')=>And.intro ((hk.cls F5 hg3 jd).cell (j:=0) rfl) ((hk.cls F6 hh3 hh4).cell (j:=0) rfl))
     go_region_held3 (λw'=>w'.cell? ⟨g,0,none⟩=some (.bool s1)/\w'.cell? ⟨h,0,none⟩=some (.bool (!s1))) ((refine HS.out _ ?_;(with_reducible (repeat (first|exact aK.refl _ _ _|refine aK.drew ?_|refine aK.Kt ?_ _|refine aK.oJ ?_ _|refine aK.aw ?_ (by assumption)))))) (first
      | (go_at_call_of 146 (Value.slice pq lq kq);refine (eR _ _ _ _ _).mono ?_;rintro e w6 ⟨sg,rfl,Ag,og⟩)
      | (go_at_call_of 146 (Value.slice pr 0 kr);refine (eR _ _ _ _ _).mono ?_;rintro e w7 ⟨wx,rfl,Li,DK⟩;obtain⟨i1,i2,i3,i4⟩:=(aE.aB (w':=w7) F3 gu).two;obtain⟨j1,j2,j3,j4⟩:=(aE.aB (w':=w7) F4 gu).two)
      | fail)
     have E3:=(aE.aB (w':=w7) F3 gu)
     have E4:=(aE.aB (w':=w7) F4 gu)
     have FW:ak w3 w7:=gu
     have FB:ak w w7:=gu
     have Bv:=Own.below (HOQ).out FW
     have vt:=Own.below (HOR).out FW
     have Cy:=(Own.bt (Own.bt Bv E3 bZ (.bool sg) (.slice pq lq kq)) (E4.dm (b':=w.heap.size+1+1) aa (.bool sg) (.slice pq lq kq)) bZ (.bool wx) (.slice pr 0 kr))
     have Cz:=(Own.bt (Own.bt vt E3 bZ (.bool sg) (.slice pq lq kq)) (E4.dm (b':=w.heap.size+1+1) aa (.bool sg) (.slice pq lq kq)) bZ (.bool wx) (.slice pr 0 kr))
     have G3:=(E3.bt (.bool sg) (.slice pq lq kq)).dm (b':=w.heap.size+1+1+1) aa (.bool wx) (.slice pr 0 kr)
     have G4:=(E4.dm (b':=w.heap.size+1+1) aa (.bool sg) (.slice pq lq kq)).bt (.bool wx) (.slice pr 0 kr)
     have hbz:=(FB.bt (b:=w.heap.size+1+1) aa (.bool sg) (.slice pq lq kq)).bt (b:=w.heap.size+1+1+1) aa (.bool wx) (.slice pr 0 kr)
     have Lj:=Lib.hid Cy
     have Lk:=Lib.hid Cz
     clear Bv vt Cy Cz
     go_wp2
     generalize (((w7.setCell ⟨w.heap.size+1+1,0,none⟩ (.bool sg)).setCell ⟨w.heap.size+1+1,1,none⟩ (.slice pq lq kq)).setCell ⟨w.heap.size+1+1+1,0,none⟩ (.bool wx)).setCell ⟨w.heap.size+1+1+1,1,none⟩ (.slice pr 0 kr)=wz at*
     obtain⟨d1,d2,_,_⟩:=G3.two
     obtain⟨d3,d4,_,_⟩:=G4.two
     have uu:=oe HX.out HY.out H0.out (.inl ⟨.inr HR0.out,rfl,rfl⟩)
     refine bodyPost_ret (v:=.tuple #[.agg #[.bool sg,.slice pq lq kq],.agg #[.bool wx,.slice pr 0 kr],.int .i64 0]) (by simp[results,Tryz.results208,go_sem,d1,d2,d3,d4]) rfl (bm.out _ _ ⟨.inr ⟨by have:=H0.out;omega,_,_,rfl,?_,?_⟩,hbz⟩)
     ·rw[Ag.out]
      exact au.of (by rw[<-(HLQ).out];exact Own.mono Lj.out iX.size) (HLQ).out _ (by simpa using uu.1)
     ·rw[Li.out]
      exact au.of (by rw[<-(Jp).out];exact Own.mono Lk.out iX.size) (Jp).out _ (by simpa using uu.2)
    ·have hlp:0<lr:=by have:=Jp.out;have:=cO mM;omega
     have hpi:(0:Int)<(lr:Int):=by omega
     have HR0:=Lib.hid mM
     have JV:Hid (lq<=536870912):=by show _<=_;rw[HLQ.out];exact Nat.le_trans (bX (Nat.div_le_self _ _)) HJ.out
     clear mM hst
     go_wp2_with fail
     refine (FO _ _ lq 1 _ [1] _ ((Rd.own HOQ.out).alloc _) (Rd.lit1 rfl) (aj _) (bS.cons aa bS.nil) (by have:=JV.out;omega) aa).mono ?_
     rintro e w4 ⟨v4,rfl,ho4,gj⟩
     replace gj:ak _ w4:=gj
     rw[ai,show ag [1]=1 by rfl] at ho4
     obtain⟨pm,cm,rfl,_,_,_⟩:=Own.form ho4
     generalize hnm:(limbs (X.natAbs/Y.natAbs+1)).length=nm at*
     have JM:=Lib.hid hnm.symm
     have xS:ak w3 w4:=((ak.refl w3).alloc _).aw gj
     have HQ:=Lib.hid (Own.mono ho4 (show w3.heap.size<=_ by simp))
     have HOR4:=Lib.hid (Own.below HOR.out xS)
     have HY4:=Lib.hid (HR2.out.below (cK.aw xS))
     obtain⟨i1,i2,_,_⟩:=(F6.aB xS).two
     clear ho4 hnm gj
     go_wp2_with fail
     refine (zM _ _ n2 lr _ _ _ HY4.out (Rd.own HOR4.out) (aj _) (aj _) (by have:=HM2.out;omega)).mono ?_
     rintro e w5 ⟨⟨h,_⟩|⟨_,v5,rfl,ho5⟩,iR⟩
     ·rw[ai,ai] at h;exact absurd h (by have:=Nat.mod_lt X.natAbs (Nat.pos_of_ne_zero H0.out);omega)
     replace iR:ak _ w5:=iR
     rw[ai,ai] at ho5
     obtain⟨pn,cn,rfl,_,_,_⟩:=Own.form ho5
     generalize hnn:(limbs (Y.natAbs-X.natAbs%Y.natAbs)).length=nn at*
     have HLN:=Lib.hid hnn.symm
     have Iw:ak w3 w5:=xS.aw iR
     have HOM:=Lib.hid (Own.mono (Own.below HQ.out iR) cK.size)
     have HON:=Lib.hid (Own.mono ho5 (Nat.le_trans cK.size xS.size))
     have T3:=F3.aB Iw
     have T4:=F4.aB Iw
     have T5:=F5.aB Iw
     have T6:=F6.aB Iw
     have hbw5:=Iv.aw Iw
     clear ho5 hnn iR F3 F4 F5 F6 xS Iw cK Iv HOQ HOR HQ HOR4 HY4 i1 i2
     obtain⟨e1,_,_,_⟩:=T5.two
     obtain⟨e3,_,_,_⟩:=T6.two
     go_wp2_with fail
     have hg3:g≠w.heap.size+1+1:=aE.apart T5 T3 bZ
     have jd:g≠w.heap.size+1+1+1:=aE.apart T5 T4 bZ
     have hh3:h≠w.heap.size+1+1:=aE.apart T6 T3 bZ
     have hh4:h≠w.heap.size+1+1+1:=aE.apart T6 T4 bZ
     have HS:=Lib.hid (λw' (hk:aK w5 (w.heap.size+1+1) (w.heap.size+1+1+1) w')=>And.intro ((hk.cls T5 hg3 jd).cell (j:=0) rfl) ((hk.cls T6 hh3 hh4).cell (j:=0) rfl))
     go_region_held3 (λw'=>w'.cell? ⟨g,0,none⟩=some (.bool s1)/\w'.cell? ⟨h,0,none⟩=some (.bool (!s1))) ((refine HS.out _ ?_;(with_reducible (repeat (first|exact aK.refl _ _ _|refine aK.drew ?_|refine aK.Kt ?_ _|refine aK.oJ ?_ _|refine aK.aw ?_ (by assumption)))))) (first
      | (go_at_call_of 146 (Value.slice pm nm cm);refine (eR _ _ _ _ _).mono ?_;rintro e w6 ⟨sg,rfl,Ag,og⟩)
      | (go_at_call_of 146 (Value.slice pn nn cn);refine (eR _ _ _ _ _).mono ?_;rintro e w7 ⟨wx,rfl,Li,DK⟩;obtain⟨i1,i2,i3,i4⟩:=(aE.aB (w':=w7) T3 gu).two;obtain⟨j1,j2,j3,j4⟩:=(aE.aB (w':=w7) T4 gu).two)
      | fail)
     have E3:=(aE.aB (w':=w7) T3 gu)
     have E4:=(aE.aB (w':=w7) T4 gu)
     have FW:ak w5 w7:=gu
     have FB:ak w w7:=gu
     have Bv:=Own.below (HOM).out FW
     have vt:=Own.below (HON).out FW
     have Cy:=(Own.bt (Own.bt Bv E3 bZ (.bool sg) (.slice pm nm cm)) (E4.dm (b':=w.heap.size+1+1) aa (.bool sg) (.slice pm nm cm)) bZ (.bool wx) (.slice pn nn cn))
     have Cz:=(Own.bt (Own.bt vt E3 bZ (.bool sg) (.slice pm nm cm)) (E4.dm (b':=w.heap.size+1+1) aa (.bool sg) (.slice pm nm cm)) bZ (.bool wx) (.slice pn nn cn))
     have G3:=(E3.bt (.bool sg) (.slice pm nm cm)).dm (b':=w.heap.size+1+1+1) aa (.bool wx) (.slice pn nn cn)
     have G4:=(E4.dm (b':=w.heap.size+1+1) aa (.bool sg) (.slice pm nm cm)).bt (.bool wx) (.slice pn nn cn)
     have hbz:=(FB.bt (b:=w.heap.size+1+1) aa (.bool sg) (.slice pm nm cm)).bt (b:=w.heap.size+1+1+1) aa (.bool wx) (.slice pn nn cn)
     have Lj:=Lib.hid Cy
     have Lk:=Lib.hid Cz
     clear Bv vt Cy Cz
     go_wp2
     generalize (((w7.setCell ⟨w.heap.size+1+1,0,none⟩ (.bool sg)).setCell ⟨w.heap.size+1+1,1,none⟩ (.slice pm nm cm)).setCell ⟨w.heap.size+1+1+1,0,none⟩ (.bool wx)).setCell ⟨w.heap.size+1+1+1,1,none⟩ (.slice pn nn cn)=wz at*
     obtain⟨d1,d2,_,_⟩:=G3.two
     obtain⟨d3,d4,_,_⟩:=G4.two
     have uu:=oe HX.out HY.out H0.out (.inr ⟨by cases s1 <;> simp,HR0.out,rfl,rfl⟩)
     refine bodyPost_ret (v:=.tuple #[.agg #[.bool sg,.slice pm nm cm],.agg #[.bool wx,.slice pn nn cn],.int .i64 0]) (by simp[results,Tryz.results208,go_sem,d1,d2,d3,d4]) rfl (bm.out _ _ ⟨.inr ⟨by have:=H0.out;omega,_,_,rfl,?_,?_⟩,hbz⟩)
     ·rw[Ag.out]
      exact au.of (by rw[<-(JM).out];exact Own.mono Lj.out iX.size) (JM).out _ (by simpa using uu.1)
     ·rw[Li.out]
      exact au.of (by rw[<-(HLN).out];exact Own.mono Lk.out iX.size) (HLN).out _ (by simpa using uu.2)
end
section
open Go.RowKit
theorem uS:(Tryz.prog.info? 3).map (λi=>(i.zero,i.size,i.bytes))=some (some (.int .i64 0),1,8):=by kernel_rfl
def hval (xs:List Nat):Nat:=val 65536 xs
def halves (n:Nat):List Nat:=gv 65536 n
def ft (xs:List Nat):Prop:=dy 65536 xs
theorem bl (n:Nat):ft (halves n):=mQ aa n
theorem aM (n:Nat):hval (halves n)=n:=jE aa n
theorem ft.at {xs:List Nat} (h:ft xs) {k x:Nat} (hk:xs[k]? =some x):x<65536:=dy.at h hk
theorem jW:halves 0=[]:=dv _
theorem EG {m n:Nat} (h:halves m=halves n):m=n:=vn aa h
theorem jy (xs:List Nat) (x:Nat):hval (xs++[x])=hval xs+65536^xs.length*x:=kI _ xs x
theorem qT {xs:List Nat} (h:ft xs):hval xs<65536^xs.length:=mR h
theorem cH {xs:List Nat} (h:bS xs):(halves (ag xs)).length<=2*xs.length:=by
 apply eb aa
 have:=im h
 rwa [Nat.pow_mul]
theorem Rd.i64 {w:World} {v:Value} {n:Nat} {xs:List Nat} (h:Rd w 1 v n (ints .i64 xs)):∃ p c,v=.slice p n c/\n<=c/\c<=9223372036854775807/\xs.length=n:=by
 obtain⟨p,c,hv,h1,h2,h3⟩:=h.form
 unfold maxLen at h2
 exact⟨p,c,hv,h1,by omega,by simpa using h3⟩
theorem Rd.CA {w:World} {n c m:Nat} {p:Option Addr} {xs:List Nat} {k:IntKind} (h:Rd w 1 (.slice p n c) n (ints k xs)) (hm:m<=n):Rd w 1 (.slice p m c) m (ints k (xs.take m)):=by
 have:=h.take hm
 rwa [Nat.mul_one,nR] at this
theorem Own.CA {w:World} {B e n c m:Nat} {p:Option Addr} {xs:List Nat} {k:IntKind} (h:w.ownsRow B e 1 (.slice p n c) n (ints k xs)) (hm:m<=n):w.ownsRow B e 1 (.slice p m c) m (ints k (xs.take m)):=by
 have:=Own.take h hm
 rwa [Nat.mul_one,nR] at this
set_option maxRecDepth 100000 in
theorem gK (va:Value) (n i:Nat) (xs:List Nat) (w:World) (hr:Rd w 1 va n (ints .i64 xs)):
  Calls Tryz.prog 264 #[va,.int .i64 (i:Int)] w λe w'=>e=.returned (.int .i64 ((xs.getD i 0:Nat):Int))/\w=w':=by
 obtain⟨p,c,rfl,eV,fm,ed⟩:=hr.i64
 have HX:=Lib.hid ed
 clear ed
 by_cases hi:i<n
 ·obtain⟨b,off,x,rfl,_,hx,hc⟩:=hr.cellAt hi
  have e:Hid (xs.getD i 0=x):=by show _=_;rw[List.getD,hx];rfl
  clear hx
  refine aG λR' bm=> ?_
  go_enter Tryz.func264,Tryz.ntmps264
  go_wp2
  exact bm.out _ _ ⟨kL (by rw[e.out]),rfl⟩
 ·have e:Hid (xs.getD i 0=0):=by show _=_;rw[List.getD,List.getElem?_eq_none (by rw[HX.out];omega)];rfl
  refine aG λR' bm=> ?_
  go_enter Tryz.func264,Tryz.ntmps264
  go_wp2
  exact bm.out _ _ ⟨kL (by rw[e.out];rfl),rfl⟩
set_option maxRecDepth 100000 in
theorem yW (p:Option Addr) (n c:Nat) (xs:List Nat) (w:World) (hr:Rd w 1 (.slice p n c) n (ints .i64 xs)) (hl:ft xs):
  Calls Tryz.prog 298 #[.slice p n c] w λe w'=>(∃ m,m<=n/\e=.returned (.slice p m c)/\halves (hval xs)=xs.take m)/\w=w':=by
 obtain⟨p',c',hv,eV,fm,ed⟩:=hr.i64
 simp only[Value.slice.injEq,true_and] at hv
 obtain⟨rfl,rfl⟩:=hv
 have HX:Hid (xs.length=n):=ed
 clear ed
 refine aG λR' bm=> ?_
 go_enter Tryz.func298,Tryz.ntmps298
 go_wp2
 go_loop [0] (λv=>∃ m,m<=n/\v=.slice p m c/\hval (xs.take m)=hval xs) (λv=>match v with | .slice _ m _=>m|_=>0)
 case atStart=>exact⟨n,Nat.le_refl _,rfl,by rw[List.take_of_length_le (Nat.le_of_eq HX.out)]⟩
 case round=>
  obtain⟨m,hm,rfl,hv⟩:=hrel
  have HV:Hid (hval (xs.take m)=hval xs):=hv
  clear hv
  by_cases h0:m=0
  ·subst h0
   go_wp2
   exact bm.out _ _ ⟨⟨0,Nat.zero_le _,rfl,js aa hl (Nat.zero_le _) HV.out (.inl rfl)⟩,rfl⟩
  ·obtain⟨b,off,x,rfl,hb,hx,hc⟩:=hr.cellAt (k:=m-1) aa
   have JJ:Hid (xs[m-1]? =some x):=hx
   clear hx
   have h0':0<m:=by omega
   obtain⟨j,rfl⟩:∃ j,m=j+1:=⟨m-1,by omega⟩
   rw[Nat.add_sub_cancel] at hc
   by_cases lG:x=0
   ·subst lG
    go_wp2
    go_round
    case rel=>exact⟨j,by omega,rfl,(jP JJ.out).symm.trans HV.out⟩
    case measure=>simp
   ·have hx0':((x:Int) == 0)=false:=by rw[beq_eq_false_iff_ne];omega
    go_wp2
    exact bm.out _ _ ⟨⟨j+1,hm,rfl,js aa hl (by rw[HX.out];exact hm) HV.out (.inr ⟨x,JJ.out,lG⟩)⟩,rfl⟩
theorem Own.cut {w:World} {B e n c m:Nat} {p:Option Addr} {xs:List Nat} (h:w.ownsRow B e 1 (.slice p n c) n (ints .i64 xs)) (hm:m<=n) (hl:halves (hval xs)=xs.take m):
  w.ownsRow B e 1 (.slice p m c) (halves (hval xs)).length (ints .i64 (halves (hval xs)))/\m=(halves (hval xs)).length:=by
 have hx:xs.length=n:=by have:=h.1;simpa using this
 have e2:(halves (hval xs)).length=m:=by rw[hl,List.length_take];omega
 have:=Own.CA h hm
 rw[<-hl] at this
 rw[e2]
 exact⟨this,rfl⟩
def Gn (w:World) (B:Nat) (xs:List Nat) (ov iv:Value) (wr:World):Prop:=
 ∃ (k:Nat) (hs:List Nat),k<=xs.length/\iv=.int .i64 (k:Int)/\hs.length=2*k/\ft hs/\hval hs=ag (xs.take k)/\
   wr.ownsRow B 3 1 ov (2*k) (ints .i64 hs)/\Below B w wr
theorem Gp {x:Nat} (h:x<4294967296):IntKind.i64.wrap ((x:Int).tmod 65536)=((x%65536:Nat):Int):=by
 rw[Int.tmod_eq_emod_of_nonneg aa,IntWalk.i64_in _ aa];simp
theorem Gq {x:Nat} (h:x<4294967296):IntKind.i64.wrap (IntKind.u32.wrap ((x:Int)/65536))=((x/65536:Nat):Int):=by
 rw[IntKind.wrap_u32',Int.emod_eq_of_lt aa aa,IntWalk.i64_in _ aa];simp
theorem yY {k x:Nat} {xs hs:List Nat} (hx:xs[k]? =some x) (jv:x<4294967296) (hl:hs.length=2*k) (hh:ft hs) (hv:hval hs=ag (xs.take k)):
  ft (hs++[x%65536,x/65536])/\hval (hs++[x%65536,x/65536])=ag (xs.take (k+1)):=by
 have hk:k<xs.length:=(List.getElem?_eq_some_iff.1 hx).1
 refine⟨dy.append hh (dy.cons (Nat.mod_lt _ aa) (dy.cons aa (dy.nil _))),?_⟩
 rw[bf hx,dw,<-hv,List.length_take,Nat.min_eq_left aa]
 show val 65536 _=_
 rw[ib,hl]
 show hval hs+_=_
 congr 1
 rw[Nat.pow_mul]
 show (4294967296:Nat)^k*(x%65536+65536*(x/65536+65536*0))=_
 congr 1
 omega
set_option maxRecDepth 100000 in
theorem eL (va:Value) (n:Nat) (xs:List Nat) (w:World) (hr:Rd w 1 va n (ints .u32 xs)) (hl:bS xs) (hn:n<=1073741824):
  Calls Tryz.prog 263 #[va] w λe w'=>∃ v',e=.returned v'/\w'.ownsRow w.heap.size 3 1 v' (halves (ag xs)).length (ints .i64 (halves (ag xs)))/\Below w.heap.size w w':=by
 obtain⟨p,c,rfl,eV,fm,ed⟩:=hr.u32
 obtain⟨i0,hi,kP,mA,mN⟩:=info_parts uS
 obtain⟨B,hB⟩:∃ B,B=w.heap.size:=⟨_,rfl⟩
 have HB:=Lib.hid hB
 have Hr:=Lib.hid hr
 have HL:=Lib.hid hl
 have HX:=Lib.hid ed
 rw[<-hB]
 clear hr hl ed hB
 refine aG λR' bm=> ?_
 go_enter Tryz.func263,Tryz.ntmps263
 go_wp2
 go_loopw [3,4] (λov iv wr=>Gn w B xs ov iv wr) (λ_ iv _=>n-(intOf iv).toNat)
 case atStart=>exact⟨0,[],Nat.zero_le _,rfl,rfl,dy.nil _,rfl,World.ownsRow_nil _ _ _ _,Below.refl _ _⟩
 case round=>
  obtain⟨k,hs,hk,rfl,hhl,hhh,hhv,az,hb⟩:=hrel
  have HK:=Lib.hid hk
  have HO:=Lib.hid az
  have HHL:=Lib.hid hhl
  have HHH:=Lib.hid hhh
  have HHV:=Lib.hid hhv
  have fK:=Lib.hid hb
  have uH:B<=wr.heap.size:=by have:=hb.size;have:=HB.out;omega
  have EH:k<=n:=by rw[<-HX.out];exact hk
  clear hk az hhl hhh hhv hb
  by_cases hkn:k<n
  ·obtain⟨b1,o1,x,rfl,aL,fq,hcw⟩:=Hr.out.cellAt hkn
   have ku:=(fK.out.cell (p:=⟨b1,o1+k,none⟩) (by rw[HB.out];exact aL)).trans hcw
   have hne:=JG HO.out (b:=b1) (by rw[HB.out];exact aL)
   have uI:=Lib.hid fq
   have jv:=HL.out.at fq
   have HNE:=Lib.hid hne
   have yu:(0:Int)<=(k:Int):=by omega
   have qn:(k:Int)<(n:Int):=by omega
   clear fq hcw hne
   go_wp2_with fail
   go_region_held3 (λw'=>w'.cell? ⟨b1,o1+k,none⟩=some (.int .u32 (x:Int))) (first|exact ku|go_keep|exact ym wy ku HNE.out)
    ((refine mU (by rfl) _ _ 315 (by rfl) B 3 i0 (.int .i64 0) 1 8 Tryz.underlying315 hi kP mA mN rfl aa _ (2*k) (ints .i64 hs) (by rfl) ((HO.out.alloc _).drew) _ 2 (ints .i64 [x%65536,x/65536]) (by rfl) (Rd.drew (Rd.lit2 (Gp jv) (Gq jv))) (kK .i64 [x%65536,x/65536]) (by unfold maxLen;omega) aa (by simp;omega) ?_;intro v1 w1 eT wy))
   have ql:=Lib.hid eT
   have HG1:=Lib.hid wy
   clear eT wy
   go_wp2_with fail
   go_roundw
   case rel=>
    have hst:=yY uI.out jv HHL.out HHH.out HHV.out
    exact⟨k+1,hs++[x%65536,x/65536],by rw[HX.out];omega,by go_num,by simp[HHL.out];omega,hst.1,hst.2,by rw[fU];exact ql.out,Below.behind fK.out uH HG1.out HO.out (Nat.le_refl _)⟩
   case measure=>simp[intOf];omega
  ·obtain rfl:k=n:=by omega
   obtain⟨p1,c1,xz,_,_,_⟩:=Own.form HO.out
   have HV1:=Lib.hid xz
   have zN:Hid (hval hs=ag xs):=by show _=_;rw[HHV.out,bc (Nat.le_of_eq HX.out)]
   subst xz
   go_wp2_with fail
   refine (yW p1 (2*k) c1 hs _ (Rd.own HO.out) HHH.out).mono ?_
   rintro e w2 ⟨⟨m,hm,rfl,xF⟩,rfl⟩
   have HC:=Own.cut HO.out hm xF
   rw[zN.out] at HC
   have HC1:=Lib.hid HC.1
   have HC2:=Lib.hid HC.2
   clear HC xF
   go_wp2_with fail
   refine bm.out _ _ ⟨_,rfl,?_,fK.out⟩
   have:=HC1.out
   rw[<-HC2.out] at this ⊢
   exact this
def LimbInv (w:World) (B m:Nat) (hs:List Nat) (ov iv:Value) (wr:World):Prop:=
 ∃ (k:Nat) (ds:List Nat),2*k<=m+1/\iv=.int .i64 ((2*k:Nat):Int)/\ds.length=k/\bS ds/\ag ds=hval (hs.take (2*k))/\
   wr.ownsRow B 78 1 ov k (ints .u32 ds)/\Below B w wr
theorem yZ {k lo hi:Nat} {ds hs:List Nat} (hl:ds.length=k) (hd:bS ds) (hv:ag ds=hval (hs.take (2*k))) (Jo:hs.getD (2*k) 0=lo) (hhi:hs.getD (2*k+1) 0=hi)
  (h1:lo<65536) (h2:hi<65536):bS (ds++[lo+65536*hi])/\ag (ds++[lo+65536*hi])=hval (hs.take (2*(k+1))):=by
 refine⟨hd.append (bS.cons aa bS.nil),?_⟩
 rw[dw,hl,hv]
 show _=val 65536 (hs.take (2*k+1+1))
 rw[bF,bF,Jo,hhi,Nat.pow_succ,Nat.add_assoc]
 show hval _+_=hval _+_
 congr 1
 rw[show (4294967296:Nat)=65536^2 by rfl,<-Nat.pow_mul,Nat.mul_add,Nat.mul_assoc]
theorem CB {k m h:Nat} {ds:List Nat} (hl:ds.length=k) (hd:bS ds) (hv:ag ds=h) (hm:(halves h).length=m) (hk:2*k<=m+1):limbs h=ds:=by
 subst hv
 apply Bb aa hd
 show ds.length<=(limbs (ag ds)).length
 rcases Nat.eq_zero_or_pos k with h0|h0
 ·omega
 ·have hne:ag ds≠0:=λh=>by rw[h,jW] at hm;simp at hm;omega
  have h1:65536^((halves (ag ds)).length-1)<=ag ds:=th aa hne
  have h2:4294967296^(k-1)<=ag ds:=by
   rw[show (4294967296:Nat)=65536^2 by rfl,<-Nat.pow_mul]
   exact Nat.le_trans (Nat.pow_le_pow_right aa aa) h1
  have:=uh h2
  omega
set_option maxRecDepth 100000 in
theorem nz (va:Value) (n:Nat) (ls:List Nat) (w:World) (hr:Rd w 1 va n (ints .i64 ls)) (hl:ft ls) (hn:n<=2147483656):
  Calls Tryz.prog 265 #[va] w λe w'=>∃ v',e=.returned v'/\w'.ownsRow w.heap.size 78 1 v' (limbs (hval ls)).length (ints .u32 (limbs (hval ls)))/\Below w.heap.size w w':=by
 obtain⟨p,c,rfl,eV,fm,ed⟩:=hr.i64
 obtain⟨i0,hi,kP,mA,mN⟩:=info_parts iq
 obtain⟨B,hB⟩:∃ B,B=w.heap.size:=⟨_,rfl⟩
 obtain⟨h,hh⟩:∃ h,h=hval ls:=⟨_,rfl⟩
 rw[<-hh]
 have HB:=Lib.hid hB
 have Hr:=Lib.hid hr
 have HL:=Lib.hid hl
 have HX:=Lib.hid ed
 have HH:=Lib.hid hh
 rw[<-hB]
 clear hr hl ed hB hh
 refine aG λR' bm=> ?_
 go_enter Tryz.func265,Tryz.ntmps265
 go_wp2_with fail
 refine (yW p n c ls _ Hr.out HL.out).mono ?_
 rintro e w1 ⟨⟨m,hm,rfl,xF⟩,rfl⟩
 have rU:(halves h).length=m:=by rw[HH.out,xF,List.length_take,HX.out];omega
 have rT:=Rd.CA Hr.out hm
 rw[<-xF,<-HH.out] at rT
 have JV:=Lib.hid rU
 have HRD:=Lib.hid rT
 clear rU rT xF
 go_wp2_with fail
 go_loopw [3,4] (λov iv wr=>LimbInv w B m (halves h) ov iv wr) (λ_ iv _=>m+2-(intOf iv).toNat)
 case atStart=>exact⟨0,[],by omega,rfl,rfl,bS.nil,rfl,World.ownsRow_nil _ _ _ _,Below.refl _ _⟩
 case round=>
  obtain⟨k,ds,hk,rfl,um,hdd,hdv,az,hb⟩:=hrel
  have HO:=Lib.hid az
  have Ec:=Lib.hid um
  have HDD:=Lib.hid hdd
  have HDV:=Lib.hid hdv
  have fK:=Lib.hid hb
  have uH:B<=wr.heap.size:=by have:=hb.size;have:=HB.out;omega
  clear az um hdd hdv hb
  by_cases DV:2*k<m
  ·obtain⟨b1,o1,lo,rfl,aL,fq,ku⟩:=(HRD.out.ic HB.out fK.out).cellAt DV
   have Jo:=(bl h).at fq
   have HLO:Hid ((halves h).getD (2*k) 0=lo):=by show _=_;rw[List.getD,fq];rfl
   clear fq
   by_cases hkm1:2*k+1<m
   ·obtain⟨b2,o2,sx,hp2,aY,mo,xH⟩:=(HRD.out.ic HB.out fK.out).cellAt hkm1
    have hhi:=(bl h).at mo
    have HHI:Hid ((halves h).getD (2*k+1) 0=sx):=by show _=_;rw[List.getD,mo];rfl
    simp only[Option.some.injEq,Addr.mk.injEq,and_true] at hp2
    obtain⟨rfl,rfl⟩:=hp2
    clear mo
    have hy:(lo:Int)+65536*(sx:Int)=((lo+65536*sx:Nat):Int):=by omega
    have HY:=Lib.hid hy
    clear hy
    go_wp2_with (at_builtin;go_loud (refine cW rfl _ _ 23 rfl B 78 i0 (.int .u32 0) 4 Tryz.underlying23 hi kP mA mN rfl HO.out rfl rfl HY.out aa aa uH ?_);intro v1 w1 eT gL)
    have ql:=Lib.hid eT
    have AO:=Lib.hid (gL w fK.out)
    clear eT gL
    go_wp2_with fail
    go_roundw
    case rel=>
     have hst:=yZ Ec.out HDD.out HDV.out HLO.out HHI.out Jo hhi
     exact⟨k+1,ds++[lo+65536*sx],by omega,by go_num,by simp[Ec.out],hst.1,hst.2,ql.out,AO.out⟩
    case measure=>simp[intOf];omega
   ·have HHI:Hid ((halves h).getD (2*k+1) 0=0):=by show _=_;rw[List.getD,List.getElem?_eq_none (by rw[JV.out];omega)];rfl
    go_wp2_with (at_builtin;go_loud (refine cW rfl _ _ 23 rfl B 78 i0 (.int .u32 0) 4 Tryz.underlying23 hi kP mA mN rfl HO.out rfl rfl rfl aa aa uH ?_);intro v1 w1 eT gL)
    have ql:=Lib.hid eT
    have AO:=Lib.hid (gL w fK.out)
    clear eT gL
    go_wp2_with fail
    go_roundw
    case rel=>
     have hst:=yZ Ec.out HDD.out HDV.out HLO.out HHI.out Jo aa
     rw[Nat.mul_zero,Nat.add_zero] at hst
     exact⟨k+1,ds++[lo],by omega,by go_num,by simp[Ec.out],hst.1,hst.2,ql.out,AO.out⟩
    case measure=>simp[intOf];omega
  ·go_wp2_with fail
   have hval:ag ds=h:=by
    rw[HDV.out]
    show val 65536 _=_
    rw[eG (by rw[JV.out];omega)]
    exact aM h
   have hcan:=CB Ec.out HDD.out hval JV.out hk
   refine bm.out _ _ ⟨_,rfl,?_,fK.out⟩
   rw[hcan,Ec.out];exact HO.out
set_option maxRecDepth 100000 in
theorem EI (va:Value) (n:Nat) (xs:List Nat) (w:World) (hr:Rd w 1 va n (ints .u32 xs)) (hl:bS xs) (hn:n<=1073741824):
  Calls Tryz.prog 262 #[va] w λe w'=>∃ v',e=.returned v'/\w'.ownsRow w.heap.size 78 1 v' (limbs (ag xs)).length (ints .u32 (limbs (ag xs)))/\Below w.heap.size w w':=by
 obtain⟨p,c,rfl,eV,fm,ed⟩:=hr.u32
 have Hr:=Lib.hid hr
 have HL:=Lib.hid hl
 have HX:=Lib.hid ed
 clear hr hl ed
 refine aG λR' bm=> ?_
 go_enter Tryz.func262,Tryz.ntmps262
 go_wp2_with fail
 refine (eL _ n xs _ Hr.out HL.out hn).mono ?_
 rintro e w1 ⟨v1,rfl,az,hb⟩
 have hlen:=cH HL.out
 rw[HX.out] at hlen
 have HO:=Lib.hid az
 have HB:=Lib.hid hb
 clear az hb
 go_wp2_with fail
 refine (nz _ _ (halves (ag xs)) _ (Rd.own HO.out) (bl _) aa).mono ?_
 rintro e w2 ⟨v2,rfl,az,hb⟩
 rw[aM] at az
 go_wp2_with fail
 exact bm.out _ _ ⟨_,rfl,Own.mono az HB.out.size,HB.out.trans (hb.mono HB.out.size)⟩
def Ll (w:World) (B M:Nat) (us ts:List Nat) (ov cv iv:Value) (wr:World):Prop:=
 ∃ (k carry:Nat) (os:List Nat),k<=M+1/\(k=M+1->carry=0)/\iv=.int .i64 (k:Int)/\cv=.int .i64 (carry:Int)/\carry<=1/\os.length=k/\ft os/\
   hval os+65536^k*carry=hval (us.take k)+hval (ts.take k)/\wr.ownsRow B 3 1 ov k (ints .i64 os)/\Below B w wr
theorem EJ {k carry x y:Nat} {us ts os:List Nat} (hl:os.length=k) (hh:ft os) (hv:hval os+65536^k*carry=hval (us.take k)+hval (ts.take k)) (hx:us.getD k 0=x) (hy:ts.getD k 0=y):
  ft (os++[(x+y+carry)%65536])/\hval (os++[(x+y+carry)%65536])+65536^(k+1)*((x+y+carry)/65536)=hval (us.take (k+1))+hval (ts.take (k+1)):=by
 refine⟨dy.append hh (dy.cons (Nat.mod_lt _ aa) (dy.nil _)),?_⟩
 rw[jy,hl,Nat.pow_succ]
 show _=val 65536 _+val 65536 _
 rw[bF,bF,hx,hy]
 exact Hd 65536 _ _ x y carry _ _ _ hv rfl
theorem fY {us:List Nat} {k:Nat} (h:us.length<=k):us.getD k 0=0:=by rw[List.getD,List.getElem?_eq_none h];rfl
theorem jz {us:List Nat} (h:ft us) (k:Nat):us.getD k 0<65536:=by
 rw[List.getD]
 cases hk:us[k]? with
 | none=>simp
 | some x=>exact h.at hk
set_option maxRecDepth 100000 in
theorem Ix (va vb:Value) (n m:Nat) (xs ys:List Nat) (w:World) (hr:Rd w 1 va n (ints .u32 xs)) (hs:Rd w 1 vb m (ints .u32 ys)) (hx:bS xs) (hy:bS ys) (hn:n<=1073741824) (hm:m<=1073741824):
  Calls Tryz.prog 198 #[va,vb] w λe w'=>∃ v',e=.returned v'/\w'.ownsRow w.heap.size 78 1 v' (limbs (ag xs+ag ys)).length (ints .u32 (limbs (ag xs+ag ys)))/\Below w.heap.size w w':=by
 obtain⟨p,c,rfl,eV,fm,ed⟩:=hr.u32
 obtain⟨q,d,rfl,Hm,DC,ju⟩:=hs.u32
 obtain⟨i0,hi,kP,mA,mN⟩:=info_parts uS
 obtain⟨B,hB⟩:∃ B,B=w.heap.size:=⟨_,rfl⟩
 have HB:=Lib.hid hB
 have Hr:=Lib.hid hr
 have Hs:=Lib.hid hs
 have HL:=Lib.hid hx
 have HM:=Lib.hid hy
 have qo:=cH hx
 have kJ:=cH hy
 rw[ed] at qo
 rw[ju] at kJ
 obtain⟨a,ha⟩:∃ a,a=ag xs:=⟨_,rfl⟩
 obtain⟨b,hb⟩:∃ b,b=ag ys:=⟨_,rfl⟩
 rw[<-ha] at qo ⊢
 rw[<-hb] at kJ ⊢
 rw[<-hB]
 have HA:=Lib.hid ha
 have HBb:=Lib.hid hb
 clear hr hs hx hy ed ju ha hb hB
 refine aG λR' bm=> ?_
 go_enter Tryz.func198,Tryz.ntmps198
 go_wp2_with fail
 refine (eL _ n xs _ Hr.out HL.out hn).mono ?_
 rintro e w1 ⟨v1,rfl,az,aL⟩
 rw[<-HA.out,<-HB.out] at az
 rw[<-HB.out] at aL
 have ql:=Lib.hid az
 have AO:=Lib.hid aL
 clear az aL
 go_wp2_with fail
 refine (eL _ m ys _ (Hs.out.ic HB.out AO.out) HM.out hm).mono ?_
 rintro e w2 ⟨v2,rfl,az,aY⟩
 rw[<-HBb.out] at az
 have hB1s:B<=w1.heap.size:=by have:=AO.out.size;have:=HB.out;omega
 have HO1b:=Lib.hid (Own.below ql.out aY)
 have mr:=Lib.hid (Own.mono az hB1s)
 have tr:=Lib.hid (AO.out.trans (aY.mono hB1s))
 have hB2s:B<=w2.heap.size:=by have:=aY.size;omega
 clear az aY ql AO
 obtain⟨p1,c1,rfl,h11,h12,_⟩:=(Rd.own HO1b.out).i64
 obtain⟨p2,c2,rfl,h21,h22,_⟩:=(Rd.own mr.out).i64
 generalize Eh:(halves a).length=la at*
 generalize DG:(halves b).length=lb at*
 have Js:=Lib.hid Eh
 have Jt:=Lib.hid DG
 clear Eh DG
 obtain⟨M,hMa,hMb,hMu,hM⟩:∃ M,la<=M/\lb<=M/\M<=2147483648/\(la<lb/\M=lb\/lb<=la/\M=la):=⟨max la lb,by omega,by omega,by omega,by omega⟩
 obtain⟨B2,Lm⟩:∃ B2,B2=w2.heap.size:=⟨_,rfl⟩
 have EL:=Lib.hid Lm
 have Ln:B<=B2:=by omega
 clear Lm
 rcases hM with ⟨uB,rfl⟩|⟨uB,rfl⟩
 all_goals
  go_wp2_with fail
  go_loopw [7,8,9] (λov cv iv wr=>Ll w2 B2 M (halves a) (halves b) ov cv iv wr) (λ_ cv iv _=>2*(M-(intOf iv).toNat)+(intOf cv).toNat)
  case atStart=>exact⟨0,0,[],by omega,λ_=>rfl,rfl,rfl,by omega,rfl,dy.nil _,rfl,World.ownsRow_nil _ _ _ _,Below.refl _ _⟩
  case round=>
   obtain⟨k,carry,os,hk,qn,rfl,rfl,hc,hol,hoh,hov,az,iX⟩:=hrel
   have HO:=Lib.hid az
   have HOL:=Lib.hid hol
   have HOH:=Lib.hid hoh
   have HOV:=Lib.hid hov
   have HK1:=Lib.hid qn
   have fK:=Lib.hid iX
   have uH:B2<=wr.heap.size:=by have:=iX.size;have:=EL.out;omega
   have HRA:=Lib.hid ((Rd.own HO1b.out).ic EL.out iX)
   have HRB:=Lib.hid ((Rd.own mr.out).ic EL.out iX)
   have hgx:=jz (bl a) k
   have hgy:=jz (bl b) k
   have hxy0:M<=k->(halves a).getD k 0=0/\(halves b).getD k 0=0:=λh=>⟨fY (by rw[Js.out];omega),fY (by rw[Jt.out];omega)⟩
   clear az hol hoh hov qn iX
   generalize hx:(halves a).getD k 0=x at*
   generalize hy:(halves b).getD k 0=y at*
   have HX:=Lib.hid hx
   have HY:=Lib.hid hy
   have HXY0:=Lib.hid hxy0
   clear hx hy hxy0
   have nA:k=M+1->carry=0:=HK1.out
   by_cases hkM:k<M\/0<carry
   ·clear nA
    have hguard:decide (k<M)=true\/decide (k<M)=false/\0<carry:=by
     by_cases h:k<M
     ·left;simpa using h
     ·right;exact⟨by simpa using h,by omega⟩
    have HSUM:Hid (((x:Int)+(y:Int)+(carry:Int)).tmod 65536=(((x+y+carry)%65536:Nat):Int)):=by show _=_;rw[Int.tmod_eq_emod_of_nonneg aa];omega
    rcases hguard with hg|⟨hg,DD⟩
    all_goals
     go_wp2_with fail
     refine (gK _ _ k (halves a) _ HRA.out).mono ?_
     rintro e w3 ⟨rfl,rfl⟩
     rw[HX.out]
     go_wp2_with fail
     refine (gK _ _ k (halves b) _ HRB.out).mono ?_
     rintro e w3 ⟨rfl,rfl⟩
     rw[HY.out]
     go_wp2_with (at_builtin;refine cW rfl _ _ 315 rfl B2 3 i0 (.int .i64 0) 8 Tryz.underlying315 hi kP mA mN rfl HO.out rfl rfl (d:=(x+y+carry)%65536) aa aa aa uH ?_;intro v1 w3 eT gL)
     have HQ:=Lib.hid eT
     have Kl:=Lib.hid (gL w2 fK.out)
     clear eT gL
     go_wp2_with fail
     go_roundw
     case rel=>
      have hst:=EJ HOL.out HOH.out HOV.out HX.out HY.out
      exact⟨k+1,(x+y+carry)/65536,os++[(x+y+carry)%65536],by have:=HK1.out;have:=HXY0.out;omega,by have:=HK1.out;have:=HXY0.out;omega,by go_num,by go_num,by omega,by simp[HOL.out],hst.1,hst.2,HQ.out,Kl.out⟩
     case measure=>simp[intOf];have:=HXY0.out;omega
   ·have Lp:carry=0:=by omega
    have hkM':M<=k:=by omega
    have HC0:=Lib.hid Lp
    have xG:decide (k<M)=false:=by simp;omega
    have DD:¬ (0<(carry:Int)):=by omega
    have hks:k<=M+1:=by omega
    clear nA
    clear Lp
    go_wp2_with fail
    refine (nz _ _ os _ (Rd.own HO.out) HOH.out aa).mono ?_
    rintro e w3 ⟨v3,rfl,az,cK⟩
    have hval:hval os=a+b:=by
     have:=HOV.out
     rw[HC0.out,Nat.mul_zero,Nat.add_zero] at this
     rw[this]
     show val 65536 _+val 65536 _=_
     rw[eG (by rw[Js.out];omega),eG (by rw[Jt.out];omega)]
     show hval _+hval _=_
     rw[aM,aM]
    rw[hval] at az
    go_wp2_with fail
    exact bm.out _ _ ⟨_,rfl,Own.mono az aa,(tr.out.trans (fK.out.mono Ln)).trans (cK.mono aa)⟩
def CmpInv (w:World) (us ts:List Nat) (M:Nat) (iv:Value) (wr:World):Prop:=
 ∃ k:Nat,k<=M/\iv=.int .i64 ((k:Int)-1)/\hval us+hval (ts.take k)=hval ts+hval (us.take k)/\w=wr
theorem iu (us:List Nat):hval (us.take 0)=0:=by simp[hval,val]
theorem CC {us ts:List Nat} {k x:Nat} (hx:us.getD k 0=x) (hy:ts.getD k 0=x) (h:hval us+hval (ts.take (k+1))=hval ts+hval (us.take (k+1))):hval us+hval (ts.take k)=hval ts+hval (us.take k):=by
 have h1:hval (ts.take (k+1))=hval (ts.take k)+65536^k*x:=by rw[<-hy];exact bF 65536 ts k
 have h2:hval (us.take (k+1))=hval (us.take k)+65536^k*x:=by rw[<-hx];exact bF 65536 us k
 omega
theorem tK {us ts:List Nat} {k x y:Nat} (hu:ft us) (hx:us.getD k 0=x) (hy:ts.getD k 0=y) (uG:x<y) (h:hval us+hval (ts.take (k+1))=hval ts+hval (us.take (k+1))):hval us<hval ts:=by
 have h1:hval (ts.take (k+1))=hval (ts.take k)+65536^k*y:=by rw[<-hy];exact bF 65536 ts k
 have h2:hval (us.take (k+1))=hval (us.take k)+65536^k*x:=by rw[<-hx];exact bF 65536 us k
 have h3:hval (us.take k)<65536^k:=by
  have h4:=qT (dy.take hu k)
  have h5:=Nat.pow_le_pow_right (show 0<65536 by omega) (show (us.take k).length<=k by rw[List.length_take];omega)
  omega
 have h4:65536^k*x+65536^k<=65536^k*y:=by
  have:=Nat.mul_le_mul_left (65536^k) (show x+1<=y from uG)
  rwa [Nat.mul_add,Nat.mul_one] at this
 omega
set_option maxRecDepth 100000 in
theorem sN (va vb:Value) (n m:Nat) (xs ys:List Nat) (w:World) (hr:Rd w 1 va n (ints .u32 xs)) (hs:Rd w 1 vb m (ints .u32 ys)) (hx:bS xs) (hy:bS ys) (hn:n<=1073741824) (hm:m<=1073741824):
  Calls Tryz.prog 266 #[va,vb] w λe w'=>e=.returned (.int .i64 (fo (ag xs) (ag ys)))/\Below w.heap.size w w':=by
 obtain⟨p,c,rfl,eV,fm,ed⟩:=hr.u32
 obtain⟨q,d,rfl,Hm,DC,ju⟩:=hs.u32
 have Hr:=Lib.hid hr
 have Hs:=Lib.hid hs
 have HL:=Lib.hid hx
 have HM:=Lib.hid hy
 have qo:=cH hx
 have kJ:=cH hy
 rw[ed] at qo
 rw[ju] at kJ
 obtain⟨a,ha⟩:∃ a,a=ag xs:=⟨_,rfl⟩
 obtain⟨b,hb⟩:∃ b,b=ag ys:=⟨_,rfl⟩
 rw[<-ha] at qo ⊢
 rw[<-hb] at kJ ⊢
 have HA:=Lib.hid ha
 have HBb:=Lib.hid hb
 clear hr hs hx hy ed ju ha hb
 refine aG λR' bm=> ?_
 go_enter Tryz.func266,Tryz.ntmps266
 go_wp2_with fail
 refine (eL _ n xs _ Hr.out HL.out hn).mono ?_
 rintro e w1 ⟨v1,rfl,az,aL⟩
 rw[<-HA.out] at az
 have ql:=Lib.hid (Rd.own az)
 have AO:=Lib.hid aL
 clear az aL
 go_wp2_with fail
 refine (eL _ m ys _ (Hs.out.below AO.out) HM.out hm).mono ?_
 rintro e w2 ⟨v2,rfl,az,aY⟩
 rw[<-HBb.out] at az
 have HRA:=Lib.hid (ql.out.below aY)
 have HRB:=Lib.hid (Rd.own az)
 have tr:=Lib.hid (AO.out.trans (aY.mono AO.out.size))
 clear az aY ql AO
 obtain⟨p1,c1,rfl,h11,h12,_⟩:=HRA.out.i64
 obtain⟨p2,c2,rfl,h21,h22,_⟩:=HRB.out.i64
 generalize Eh:(halves a).length=la at*
 generalize DG:(halves b).length=lb at*
 have Js:=Lib.hid Eh
 have Jt:=Lib.hid DG
 clear Eh DG
 obtain⟨M,hMa,hMb,hMu,hM⟩:∃ M,la<=M/\lb<=M/\M<=2147483648/\(la<lb/\M=lb\/lb<=la/\M=la):=⟨max la lb,by omega,by omega,by omega,by omega⟩
 rcases hM with ⟨uB,rfl⟩|⟨uB,rfl⟩
 all_goals
  go_wp2_with fail
  go_loopw [7] (λiv wr=>CmpInv w2 (halves a) (halves b) M iv wr) (λiv _=>(intOf iv+1).toNat)
  case atStart=>exact⟨M,Nat.le_refl _,rfl,by
   show val 65536 _+val 65536 _=val 65536 _+val 65536 _
   rw[eG (by first|(rw[Js.out];omega)|(rw[Jt.out];omega)),eG (by first|(rw[Js.out];omega)|(rw[Jt.out];omega))];omega,rfl⟩
  case round=>
   obtain⟨k,hk,rfl,hv,rfl⟩:=hrel
   have HV:=Lib.hid hv
   clear hv
   by_cases h0:k=0
   ·subst h0
    go_wp2_with fail
    have e:a=b:=by
     have:=HV.out
     rw[iu,iu,aM,aM] at this
     omega
    exact bm.out _ _ ⟨kL (by rw[e,qu]),tr.out⟩
   ·obtain⟨j,rfl⟩:∃ j,k=j+1:=⟨k-1,by omega⟩
    have hjj:((j+1:Nat):Int)-1=(j:Int):=by omega
    rw[hjj]
    clear h0 hjj
    generalize hx:(halves a).getD j 0=x
    generalize hy:(halves b).getD j 0=y
    have HX:=Lib.hid hx
    have HY:=Lib.hid hy
    clear hx hy
    go_wp2_with fail
    refine (gK _ _ j (halves a) _ HRA.out).mono ?_
    rintro e w3 ⟨rfl,rfl⟩
    rw[HX.out]
    go_wp2_with fail
    refine (gK _ _ j (halves b) _ HRB.out).mono ?_
    rintro e w3 ⟨rfl,rfl⟩
    rw[HY.out]
    rcases Nat.lt_trichotomy x y with hlt|heq|hgt
    ·go_wp2_with fail
     have:=tK (bl a) HX.out HY.out hlt HV.out
     rw[aM,aM] at this
     exact bm.out _ _ ⟨kL (by rw[jQ this]),tr.out⟩
    ·subst heq
     go_wp2_with fail
     refine (gK _ _ j (halves a) _ HRA.out).mono ?_
     rintro e w3 ⟨rfl,rfl⟩
     rw[HX.out]
     go_wp2_with fail
     refine (gK _ _ j (halves b) _ HRB.out).mono ?_
     rintro e w3 ⟨rfl,rfl⟩
     rw[HY.out]
     go_wp2_with fail
     go_roundw
     case rel=>exact⟨j,by omega,rfl,CC HX.out HY.out HV.out,rfl⟩
     case measure=>simp[intOf]
    ·go_wp2_with fail
     refine (gK _ _ j (halves a) _ HRA.out).mono ?_
     rintro e w3 ⟨rfl,rfl⟩
     rw[HX.out]
     go_wp2_with fail
     refine (gK _ _ j (halves b) _ HRB.out).mono ?_
     rintro e w3 ⟨rfl,rfl⟩
     rw[HY.out]
     go_wp2_with fail
     have:=tK (bl b) HY.out HX.out hgt HV.out.symm
     rw[aM,aM] at this
     exact bm.out _ _ ⟨kL (by rw[jR this]),tr.out⟩
theorem tL {qs:List Nat} {k x:Nat}:(List.replicate (k+1) 0++qs).set k x=List.replicate k 0++x::qs:=by
 rw[List.replicate_succ',List.append_assoc,List.set_append_right _ _ dU]
 simp
def Lq (w:World) (B M:Nat) (us ts:List Nat) (ov bv iv:Value) (wr:World):Prop:=
 ∃ (k r:Nat) (ds:List Nat),k<=M/\ds.length=k/\iv=.int .i64 (k:Int)/\bv=.int .i64 (r:Int)/\r<=1/\ft ds/\
   hval ds+hval (ts.take k)=hval (us.take k)+65536^k*r/\wr.ownsRow B 3 1 ov k (ints .i64 ds)/\Below B w wr
theorem wA {k r x y d r':Nat} {us ts ds:List Nat} (hl:ds.length=k) (hh:ft ds) (hv:hval ds+hval (ts.take k)=hval (us.take k)+65536^k*r) (hx:us.getD k 0=x) (hy:ts.getD k 0=y)
  (hd:d<65536) (he:x+65536*r'=d+y+r):
  ft (ds++[d])/\hval (ds++[d])+hval (ts.take (k+1))=hval (us.take (k+1))+65536^(k+1)*r':=by
 refine⟨dy.append hh (dy.cons hd (dy.nil _)),?_⟩
 have h1:hval (ts.take (k+1))=hval (ts.take k)+65536^k*y:=by rw[<-hy];exact bF 65536 ts k
 have h2:hval (us.take (k+1))=hval (us.take k)+65536^k*x:=by rw[<-hx];exact bF 65536 us k
 rw[jy,hl,h1,h2,Nat.pow_succ]
 exact He 65536 _ x y r d r' _ _ _ hv he
set_option maxRecDepth 100000 in
theorem za (va vb:Value) (n m:Nat) (xs ys:List Nat) (w:World) (hr:Rd w 1 va n (ints .u32 xs)) (hs:Rd w 1 vb m (ints .u32 ys)) (hx:bS xs) (hy:bS ys) (hn:n<=1073741824) (hm:m<=1073741824):
  Calls Tryz.prog 199 #[va,vb] w λe w'=>((ag xs<ag ys/\e=.returned (.tuple #[.slice none 0 0,.int .i64 2]))\/
   (ag ys<=ag xs/\∃ v',e=.returned (.tuple #[v',.int .i64 0])/\w'.ownsRow w.heap.size 78 1 v' (limbs (ag xs-ag ys)).length (ints .u32 (limbs (ag xs-ag ys)))))/\Below w.heap.size w w':=by
 obtain⟨p,c,rfl,eV,fm,ed⟩:=hr.u32
 obtain⟨q,d,rfl,Hm,DC,ju⟩:=hs.u32
 obtain⟨i0,hi,kP,mA,mN⟩:=info_parts uS
 have Hr:=Lib.hid hr
 have Hs:=Lib.hid hs
 have HL:=Lib.hid hx
 have HM:=Lib.hid hy
 have qo:=cH hx
 have kJ:=cH hy
 rw[ed] at qo
 rw[ju] at kJ
 obtain⟨a,ha⟩:∃ a,a=ag xs:=⟨_,rfl⟩
 obtain⟨b,hb⟩:∃ b,b=ag ys:=⟨_,rfl⟩
 rw[<-ha] at qo ⊢
 rw[<-hb] at kJ ⊢
 have HA:=Lib.hid ha
 have HBb:=Lib.hid hb
 clear hr hs hx hy ed ju ha hb
 refine aG λR' bm=> ?_
 go_enter Tryz.func199,Tryz.ntmps199
 go_wp2_with fail
 refine (sN _ _ n m xs ys _ Hr.out Hs.out HL.out HM.out hn hm).mono ?_
 rintro e w0 ⟨rfl,mB⟩
 rw[<-HA.out,<-HBb.out]
 have HB0:=Lib.hid mB
 have hB0s:=mB.size
 clear mB
 by_cases uB:a<b
 ·have hc:fo a b<0:=iA.2 uB
  generalize fo a b=cv at hc ⊢
  go_wp2_with fail
  exact bm.out _ _ ⟨.inl ⟨uB,rfl⟩,HB0.out⟩
 ·have hc:0<=fo a b:=by have:=mt (@iA a b).1 uB;omega
  generalize fo a b=cv at hc ⊢
  have hlen:(halves b).length<=(halves a).length:=cN aa aa
  have HAB:=Lib.hid uB
  clear uB
  go_wp2_with fail
  refine (eL _ n xs _ (Hr.out.below HB0.out) HL.out hn).mono ?_
  rintro e w1 ⟨v1,rfl,az,aL⟩
  rw[<-HA.out] at az
  have ql:=Lib.hid (Rd.own az)
  have AO:=Lib.hid (HB0.out.trans (aL.mono hB0s))
  have hB1s:=aL.size
  clear az aL
  go_wp2_with fail
  refine (eL _ m ys _ (Hs.out.below AO.out) HM.out hm).mono ?_
  rintro e w2 ⟨v2,rfl,az,aY⟩
  rw[<-HBb.out] at az
  have HRA0:=Lib.hid (ql.out.below aY)
  have HRB0:=Lib.hid (Rd.own az)
  have tr:=Lib.hid (AO.out.trans (aY.mono AO.out.size))
  have hB2s:=aY.size
  clear az aY ql AO
  obtain⟨p1,c1,rfl,h11,h12,_⟩:=HRA0.out.i64
  obtain⟨p2,c2,rfl,h21,h22,_⟩:=HRB0.out.i64
  generalize Eh:(halves a).length=la at*
  generalize DG:(halves b).length=lb at*
  have Js:=Lib.hid Eh
  have Jt:=Lib.hid DG
  clear Eh DG
  obtain⟨B2,Lm⟩:∃ B2,B2=w2.heap.size:=⟨_,rfl⟩
  have EL:=Lib.hid Lm
  have Ln:w.heap.size<=B2:=by omega
  clear Lm
  go_wp2_with fail
  go_loopw [8,9,10] (λov bv iv wr=>Lq w2 B2 la (halves a) (halves b) ov bv iv wr) (λ_ _ iv _=>la-(intOf iv).toNat)
  case atStart=>exact⟨0,0,[],Nat.zero_le _,rfl,rfl,rfl,by omega,dy.nil _,by rw[iu,iu];simp[hval,val],World.ownsRow_nil _ _ _ _,Below.refl _ _⟩
  case round=>
   obtain⟨k,r,ds,hk,um,rfl,rfl,pk,hdh,hdv,az,iX⟩:=hrel
   have HO:=Lib.hid az
   have Ec:=Lib.hid um
   have HDH:=Lib.hid hdh
   have HDV:=Lib.hid hdv
   have fK:=Lib.hid iX
   have uH:B2<=wr.heap.size:=by have:=iX.size;have:=EL.out;omega
   have HRB:=Lib.hid (HRB0.out.ic EL.out iX)
   clear az um hdh hdv
   by_cases FU:k<la
   ·obtain⟨b1,o1,x,rfl,_,fq,ku⟩:=(HRA0.out.ic EL.out iX).cellAt FU
    have jv:=(bl a).at fq
    have HX:Hid ((halves a).getD k 0=x):=by show _=_;rw[List.getD,fq];rfl
    have uq:=jz (bl b) k
    clear fq iX
    generalize hy:(halves b).getD k 0=y at*
    have HY:=Lib.hid hy
    clear hy
    have yu:(0:Int)<=(k:Int):=by omega
    have qn:(k:Int)<(la:Int):=by omega
    have rV:IntKind.i64.wrap ((x:Int)-(y:Int))=(x:Int)-(y:Int):=IntWalk.i64_in _ aa
    have hw2:IntKind.i64.wrap ((x:Int)-(y:Int)-(r:Int))=(x:Int)-(y:Int)-(r:Int):=IntWalk.i64_in _ aa
    have uK:∀ j:Nat,Calls Tryz.prog 264 #[.slice p2 lb c2,.int .i64 (k:Int)] (wr.drewN j) λe w'=>e=.returned (.int .i64 (y:Int))/\wr.drewN j=w':=λj=>by
     have:=gK _ _ k (halves b) _ (Rd.drewN HRB.out j)
     rwa [HY.out] at this
    have HAT:=Lib.hid uK
    clear uK
    go_wp2_with fail
    go_quiet ((go_at_call 264;exact vp (HAT.out _) ⟨_,rfl⟩))
    clear rV hw2 yu qn ku
    by_cases JY:(x:Int)-(y:Int)-(r:Int)<0
    ·go_wp2_with (at_builtin;refine cW (w:=wr.drewN nq) rfl _ _ 315 rfl B2 3 i0 (.int .i64 0) 8 Tryz.underlying315 hi kP mA mN rfl (Own.drewN HO.out nq) rfl rfl (d:=x+65536-y-r) aa aa aa uH ?_;intro v1 w3 eT gL)
     have HQ:=Lib.hid eT
     have Kl:=Lib.hid (gL w2 (Below.drewN fK.out nq))
     clear eT gL
     go_wp2_with fail
     go_roundw
     case rel=>
      have hst:=wA (d:=x+65536-y-r) (r':=1) Ec.out HDH.out HDV.out HX.out HY.out aa aa
      exact⟨k+1,1,ds++[x+65536-y-r],by omega,by simp[Ec.out],by go_num,rfl,by omega,hst.1,hst.2,HQ.out,Kl.out⟩
     case measure=>simp[intOf];omega
    ·go_wp2_with (at_builtin;refine cW (w:=wr.drewN nq) rfl _ _ 315 rfl B2 3 i0 (.int .i64 0) 8 Tryz.underlying315 hi kP mA mN rfl (Own.drewN HO.out nq) rfl rfl (d:=x-y-r) aa aa aa uH ?_;intro v1 w3 eT gL)
     have HQ:=Lib.hid eT
     have Kl:=Lib.hid (gL w2 (Below.drewN fK.out nq))
     clear eT gL
     go_wp2_with fail
     go_roundw
     case rel=>
      have hst:=wA (d:=x-y-r) (r':=0) Ec.out HDH.out HDV.out HX.out HY.out aa aa
      exact⟨k+1,0,ds++[x-y-r],by omega,by simp[Ec.out],by go_num,rfl,by omega,hst.1,hst.2,HQ.out,Kl.out⟩
     case measure=>simp[intOf];omega
   ·obtain rfl:k=la:=by omega
    clear iX
    go_wp2_with fail
    refine (nz _ k ds _ (Rd.own HO.out) HDH.out aa).mono ?_
    rintro e w4 ⟨v4,rfl,az,gj⟩
    have hval:hval ds=a-b:=by
     have h1:=HDV.out
     have e1:hval ((halves a).take k)=a:=by
      show val 65536 _=_
      rw[eG (Nat.le_of_eq Js.out)];exact aM a
     have e2:hval ((halves b).take k)=b:=by
      show val 65536 _=_
      rw[eG (by rw[Jt.out];exact hlen)];exact aM b
     rw[e1,e2] at h1
     have h3:=qT HDH.out
     rw[Ec.out] at h3
     have Lr:=HAB.out
     have:r=0:=by
      rcases Nat.eq_zero_or_pos r with h|h
      ·exact h
      ·have:r=1:=by omega
       subst this
       omega
     subst this
     omega
    rw[hval] at az
    have HOWN:=Lib.hid az
    clear az
    go_wp2_with fail
    refine bm.out _ _ ⟨.inr ⟨by have:=HAB.out;omega,v4,rfl,?_⟩,(tr.out.trans (fK.out.mono Ln)).trans (gj.mono aa)⟩
    exact Own.mono HOWN.out aa
theorem pV (neg:Bool) (xs:List Nat) (v:Value) (w:World) (h:eM w v neg xs):
  Calls Tryz.prog 190 #[v] w λe w'=>e=.returned (.bool (cL neg xs))/\ak w w':=by
 obtain⟨p,c,rfl,hr,hl⟩:=h
 obtain⟨p',c',hv,eV,fm,-⟩:=hr.u32
 simp only[Value.slice.injEq,true_and] at hv
 obtain⟨rfl,rfl⟩:=hv
 refine aG λR' bm=> ?_
 by_cases hx:xs=[]
 ·subst hx
  simp only[List.length_nil,pw] at*
  go_enter Tryz.func190,Tryz.ntmps190
  cases neg
  ·go_wp2
   exact bm.out _ _ ⟨rfl,(ak.refl w).alloc _⟩
  ·go_wp2
   exact bm.out _ _ ⟨rfl,(ak.refl w).alloc _⟩
 ·obtain⟨m,hm⟩:∃ m,xs.length=m+1:=⟨xs.length-1,by have:=List.length_pos_iff.2 hx;omega⟩
  generalize hn:xs.length=n at*
  obtain⟨b,off,x,rfl,hb,hxm,hc⟩:=hr.cellAt (k:=m) aa
  have h1:cL neg xs=decide (x≠0):=tu (by rw[hn,hm];exact hxm)
  rw[h1] at bm
  have hz:((n:Int) == 0)=false:=by rw[beq_eq_false_iff_ne];omega
  have hp:(0:Int)<(n:Int):=by omega
  have hw:IntKind.i64.wrap ((n:Int)-1)=(m:Int):=by rw[IntWalk.i64_in _ aa];omega
  have hlt:(m:Int)<(n:Int):=by omega
  have HN:=Lib.hid hn
  have hpn:0<n:=by omega
  clear hx hm hn h1 hxm hr hl
  go_enter Tryz.func190,Tryz.ntmps190
  by_cases lG:x=0
  ·subst lG
   cases neg
   ·go_wp2
    exact bm.out _ _ ⟨rfl,(ak.refl w).alloc _⟩
   ·go_wp2
    exact bm.out _ _ ⟨rfl,(ak.refl w).alloc _⟩
  ·have hx1:((x:Int) != 0)=true:=by rw[bne_iff_ne];omega
   rw[decide_eq_true lG] at bm
   clear lG
   cases neg
   ·go_wp2
    exact bm.out _ _ ⟨rfl,(ak.refl w).alloc _⟩
   ·go_wp2
    exact bm.out _ _ ⟨rfl,(ak.refl w).alloc _⟩
theorem pW (v:Value) (X:Int) (k:Nat) (w0 w:World) (h:bH w0 v X k) (mB:ak w0 w):
  Calls Tryz.prog 196 #[v] w λe w'=>∃ u,e=.returned u/\bK w0 u X/\ak w w':=by
 obtain⟨neg,xs,hn,rfl,hk⟩:=h
 refine aG λR' bm=> ?_
 have HN:=Lib.hid hn
 obtain⟨p,c,rfl,hr,hl⟩:=hn
 clear hr
 go_enter Tryz.func196,Tryz.ntmps196
 go_wp2_with fail
 refine (pV neg xs _ _ ((HN.out.aB mB).aB (((ak.refl w).alloc _).alloc _))).mono ?_
 rintro e w1 ⟨rfl,aL⟩
 obtain⟨b1,b2,kG⟩:=lM w 36 36 #[.bool neg,.slice p xs.length c] #[.bool false,.slice none 0 0]
 obtain⟨c1,c2,_,_⟩:=(b1.aB aL).two
 obtain⟨c3,c4,f3,f4⟩:=(b2.aB aL).two
 have zE:ak w w1:=kG.aw aL
 cases hnr:cL neg xs
 ·have B2:=(b2.aB aL).bt (.bool false) (.slice none 0 0)
  have tr:=zE.bt (b:=w.heap.size+1) aa (.bool false) (.slice none 0 0)
  go_wp2
  generalize (w1.setCell ⟨w.heap.size+1,0,none⟩ (.bool false)).setCell ⟨w.heap.size+1,1,none⟩ (.slice none 0 0)=w2 at*
  obtain⟨d1,d2,_,_⟩:=B2.two
  refine bodyPost_ret (v:=.agg #[.bool false,.slice none 0 0]) (by simp[results,Tryz.results196,go_sem,d1,d2]) rfl (bm.out _ _ ⟨_,rfl,?_,tr⟩)
  rw[numOf,if_neg (by simp[hnr])]
  exact bK.zero _
 ·have B2:=(b2.aB aL).bt (.bool neg) (.slice p xs.length c)
  have tr:=zE.bt (b:=w.heap.size+1) aa (.bool neg) (.slice p xs.length c)
  go_wp2
  generalize (w1.setCell ⟨w.heap.size+1,0,none⟩ (.bool neg)).setCell ⟨w.heap.size+1,1,none⟩ (.slice p xs.length c)=w2 at*
  obtain⟨d1,d2,_,_⟩:=B2.two
  refine bodyPost_ret (v:=.agg #[.bool neg,.slice p xs.length c]) (by simp[results,Tryz.results196,go_sem,d1,d2]) rfl (bm.out _ _ ⟨_,rfl,?_,tr⟩)
  rw[numOf,if_pos hnr]
  obtain⟨h1,h2⟩:=canon hl hnr
  have:=HN.out
  show eM _ _ _ _
  rw[<-h1,<-h2]
  exact this
theorem gM (neg:Bool) (v:Value) (n:Nat) (xs:List Nat) (w:World) (hr:Rd w 1 v n (ints .u32 xs)) (hl:bS xs) (hn:n<=1073741824):
  Calls Tryz.prog 197 #[.bool neg,v] w λe w'=>∃ r,e=.returned r/\au w' w.heap.size r (if neg=true then-(ag xs:Int) else ag xs)/\ak w w':=by
 obtain⟨p,c,rfl,_,_,_⟩:=hr.u32
 have HR:=Lib.hid hr
 have kS:=aE.new w 36 #[.bool false,.slice none 0 0]
 have kG:=(ak.refl w).alloc (.cells #[.bool false,.slice none 0 0] 36)
 clear hr
 refine aG λR' bm=> ?_
 go_enter Tryz.func197,Tryz.ntmps197
 go_wp2_with fail
 refine (EI _ n xs _ (HR.out.below kG) hl hn).mono ?_
 rintro e w1 ⟨v1,rfl,sM,aL⟩
 replace aL:ak _ w1:=aL
 obtain⟨p1,k1,rfl,_,_,_⟩:=Own.form sM
 generalize hL:(limbs (ag xs)).length=L at*
 have HL:=Lib.hid hL
 have FC:=kS.aB aL
 have FB:=kG.aw aL
 obtain⟨c1,c2,f1,f2⟩:=FC.two
 have Gk:=Own.mono sM kG.size
 clear hL sM
 cases neg
 ·have HO:=Lib.hid (Own.bt Gk FC bZ (.bool false) (.slice p1 L k1))
  clear Gk
  have Cr:=FC.bt (.bool (false)) (.slice p1 (L) k1)
  have Cs:=ak.bt FB (b:=w.heap.size) aa (.bool (false)) (.slice p1 (L) k1)
  go_wp2
  generalize (w1.setCell ⟨w.heap.size,0,none⟩ (.bool (false))).setCell ⟨w.heap.size,1,none⟩ (.slice p1 (L) k1)=wz at*
  obtain⟨Ct,Cu,_,_⟩:=Cr.two
  refine bodyPost_ret (v:=.agg #[.bool (false),.slice p1 (L) k1]) (by simp[results,Tryz.results197,go_sem,Ct,Cu]) rfl (bm.out _ _ ?_)
  exact⟨_,rfl,au.of (neg:=false) (by rw[HL.out];exact HO.out) HL.out.symm _ dU,Cs⟩
 ·have HO:=Lib.hid (Own.bt Gk FC bZ (.bool (decide (0<L))) (.slice p1 L k1))
  clear Gk
  have Cr:=FC.bt (.bool (decide (0<L))) (.slice p1 (L) k1)
  have Cs:=ak.bt FB (b:=w.heap.size) aa (.bool (decide (0<L))) (.slice p1 (L) k1)
  go_wp2
  generalize (w1.setCell ⟨w.heap.size,0,none⟩ (.bool (decide (0<L)))).setCell ⟨w.heap.size,1,none⟩ (.slice p1 (L) k1)=wz at*
  obtain⟨Ct,Cu,_,_⟩:=Cr.two
  refine bodyPost_ret (v:=.agg #[.bool (decide (0<L)),.slice p1 (L) k1]) (by simp[results,Tryz.results197,go_sem,Ct,Cu]) rfl (bm.out _ _ ?_)
  exact⟨_,rfl,au.of (neg:=true) (by rw[HL.out];exact HO.out) HL.out.symm _ dU,Cs⟩
def wB (X Y:Int):Int:=(X-Y).sign
theorem Gr {X Y:Int} (h:X<Y):wB X Y= -1:=sign_neg aa
theorem Gs {X Y:Int} (h:Y<X):wB X Y=1:=dN aa
theorem zb (a b:Nat):wB (a:Int) b=fo a b:=by
 rcases Nat.lt_trichotomy a b with h|rfl|h
 ·rw[Gr aa,jQ h]
 ·rw[qu];simp[wB]
 ·rw[Gs aa,jR h]
theorem EM (a b:Nat):wB (-(a:Int)) (-(b:Int))=fo b a:=by
 rw[<-zb];unfold wB;congr 1;omega
theorem CD (v u:Value) (X Y:Int) (j k:Nat) (w:World) (hv:bH w v X j) (hu:bH w u Y k) (hj:j<=1073741824) (hk:k<=1073741824):
  Calls Tryz.prog 259 #[v,u] w λe w'=>e=.returned (.int .i64 (wB X Y))/\ak w w':=by
 obtain⟨s,p,n,c,rfl⟩:=hv.form
 obtain⟨t,q,m,d,rfl⟩:=hu.form
 refine aG λR' bm=> ?_
 obtain⟨b1,b2,kG⟩:=lM w 36 36 #[.bool s,.slice p n c] #[.bool t,.slice q m d]
 have HJ:=Lib.hid (Nat.le_trans hv.len hj)
 have HK:=Lib.hid (Nat.le_trans hu.len hk)
 have HV:=Lib.hid hv
 have HU:=Lib.hid hu
 clear hv hu hj hk
 go_enter Tryz.func259,Tryz.ntmps259
 go_wp2_with fail
 generalize (w.alloc _).alloc _=W at*
 refine (pW _ X j w _ HV.out gu).mono ?_
 rintro e wa ⟨ua,rfl,hua,Lr⟩
 obtain⟨s1,p1,n1,k1,rfl⟩:=hua.fV
 obtain⟨a1,a2,a3,a4⟩:=(b1.aB Lr).two
 obtain⟨a5,a6,a7,a8⟩:=(b2.aB Lr).two
 have B1:=(b1.aB Lr).bt (.bool s1) (.slice p1 n1 k1)
 have B2:=(b2.aB Lr).dm (b':=w.heap.size) aa (.bool s1) (.slice p1 n1 k1)
 have hZ:=aK.Kt (aK.Kt (aK.aw (aK.refl W w.heap.size (w.heap.size+1)) Lr) (j:=0) (.bool s1)) (j:=1) (.slice p1 n1 k1)
 have HB:=ak.bt (kG.aw Lr) (b:=w.heap.size) aa (.bool s1) (.slice p1 n1 k1)
 have HPA:=Lib.hid hua.parts
 have HSA:=Lib.hid hua.Ks
 have HUA:=Lib.hid hua
 clear hua
 go_wp2_with fail
 generalize (wa.setCell ⟨w.heap.size,0,none⟩ (.bool s1)).setCell ⟨w.heap.size,1,none⟩ (.slice p1 n1 k1)=wb at*
 clear a1 a2 a3 a4 a5 a6 a7 a8 Lr
 refine (pW _ Y k w _ HU.out HB).mono ?_
 rintro e wc ⟨ub,rfl,hub,zE⟩
 obtain⟨s2,p2,n2,k2,rfl⟩:=hub.fV
 obtain⟨a1,a2,a3,a4⟩:=(B1.aB zE).two
 obtain⟨a5,a6,a7,a8⟩:=(B2.aB zE).two
 have D1:=(B1.aB zE).dm (b':=w.heap.size+1) aa (.bool s2) (.slice p2 n2 k2)
 have D2:=(B2.aB zE).bt (.bool s2) (.slice p2 n2 k2)
 have hY:=aK.oJ (aK.oJ (aK.aw hZ zE) (j:=0) (.bool s2)) (j:=1) (.slice p2 n2 k2)
 have HD:=ak.bt (HB.aw zE) (b:=w.heap.size+1) aa (.bool s2) (.slice p2 n2 k2)
 have HPB:=Lib.hid hub.parts
 have HSB:=Lib.hid hub.Ks
 have HUB:=Lib.hid hub
 clear hub B1 B2 HB zE hZ
 have hx1:n1<=1073741824:=by rw[HPA.out.1];exact HJ.out
 have hx2:n2<=1073741824:=by rw[HPB.out.1];exact HK.out
 have HX1:=Lib.hid hx1
 have JJ:=Lib.hid hx2
 clear hx1 hx2
 cases s1 <;> cases s2
 ·go_wp2_with fail
  generalize (wc.setCell ⟨w.heap.size+1,0,none⟩ (.bool false)).setCell ⟨w.heap.size+1,1,none⟩ (.slice p2 n2 k2)=wd at*
  refine (sN _ _ n1 n2 _ _ _ (HPA.out.2.1.below HD) (HPB.out.2.1.below HD) (aj _) (aj _) HX1.out JJ.out).mono ?_
  rintro e we ⟨rfl,Iy⟩
  rw[ai,ai,<-zb]
  have e1:(X.natAbs:Int)=X:=by have:=HPA.out.2.2;simpa using this.symm
  have e2:(Y.natAbs:Int)=Y:=by have:=HPB.out.2.2;simpa using this.symm
  rw[e1,e2]
  go_wp2_with fail
  exact bm.out _ _ ⟨rfl,HD.aw Iy⟩
 ·have h1:¬ X<0:=of_decide_eq_false HSA.out.symm
  have h2:Y<0:=of_decide_eq_true HSB.out.symm
  rw[Gs aa] at bm
  go_wp2
  exact bm.out _ _ ⟨rfl,HD⟩
 ·have h1:X<0:=of_decide_eq_true HSA.out.symm
  have h2:¬ Y<0:=of_decide_eq_false HSB.out.symm
  rw[Gr aa] at bm
  go_wp2
  exact bm.out _ _ ⟨rfl,HD⟩
 ·go_wp2_with fail
  generalize (wc.setCell ⟨w.heap.size+1,0,none⟩ (.bool true)).setCell ⟨w.heap.size+1,1,none⟩ (.slice p2 n2 k2)=wd at*
  refine (sN _ _ n2 n1 _ _ _ (HPB.out.2.1.below HD) (HPA.out.2.1.below HD) (aj _) (aj _) JJ.out HX1.out).mono ?_
  rintro e we ⟨rfl,Iy⟩
  rw[ai,ai,<-EM]
  have e1: -(X.natAbs:Int)=X:=by have:=HPA.out.2.2;simpa using this.symm
  have e2: -(Y.natAbs:Int)=Y:=by have:=HPB.out.2.2;simpa using this.symm
  rw[e1,e2]
  go_wp2_with fail
  exact bm.out _ _ ⟨rfl,HD.aw Iy⟩
theorem bW (v:Value) (X:Int) (j:Nat) (w:World) (hv:bH w v X j) (hj:j<=1073741824):
  Calls Tryz.prog 191 #[v] w λe w'=>e=.returned (.int .i64 X.sign)/\ak w w':=by
 obtain⟨s,p,n,c,rfl⟩:=hv.form
 refine aG λR' bm=> ?_
 have kG:=(ak.refl w).alloc (.cells #[.bool s,.slice p n c] 36)
 have HV:=Lib.hid (hv.aB kG)
 have e1:=Lib.hid (show wB X 0=X.sign by simp[wB])
 clear hv
 go_enter Tryz.func191,Tryz.ntmps191
 go_wp2_with fail
 generalize w.alloc _=W at*
 refine (CD _ _ X 0 j 0 _ HV.out ((bK.zero _).to (by simp[bn])) hj aa).mono ?_
 rintro e w1 ⟨rfl,aL⟩
 rw[e1.out]
 go_wp2
 exact bm.out _ _ ⟨rfl,kG.aw aL⟩
theorem Rd.kp {U:TypeId} {T:TypeId->Bool} {w w':World} {v:Value} {n:Nat} {xs:List Nat} (h:Rd w 1 v n (ints .u32 xs)) (k:aF ⟨U,λ_=>True,T⟩ w w'):Rd w' 1 v n (ints .u32 xs):=by
 obtain⟨p,c,rfl,h1,h2,h3,h4⟩:=h
 refine⟨p,c,rfl,h1,h2,h3,λhn=> ?_⟩
 obtain⟨b,off,hp,hc⟩:=h4 hn
 refine⟨b,off,hp,λj u hj=> ?_⟩
 obtain⟨x,hx,rfl⟩:=List.mem_map.1 (List.mem_of_getElem? hj)
 exact k.cell _ _ trivial (hc j _ hj)
theorem Own.kp {T:TypeId->Bool} {w w':World} {B sz n:Nat} {v:Value} {cs:List Value} (h:w.ownsRow B UU sz v n cs) (k:aF ⟨UU,λ_=>True,T⟩ w w'):w'.ownsRow B UU sz v n cs:=by
 refine⟨h.1,?_⟩
 rcases h.2 with h2|⟨g,cap,cur,hv,hb,hg,r⟩
 ·exact .inl h2
 ·exact .inr ⟨g,cap,cur,hv,hb,k.block _ g cur rfl trivial hg,r⟩
theorem eM.kp {U:TypeId} {T:TypeId->Bool} {w w':World} {v:Value} {s:Bool} {xs:List Nat} (h:eM w v s xs) (k:aF ⟨U,λ_=>True,T⟩ w w'):eM w' v s xs:=by
 obtain⟨p,c,hv,hr,hl⟩:=h
 exact⟨p,c,hv,hr.kp k,hl⟩
theorem bH.kp {U:TypeId} {T:TypeId->Bool} {w w':World} {v:Value} {X:Int} {j:Nat} (h:bH w v X j) (k:aF ⟨U,λ_=>True,T⟩ w w'):bH w' v X j:=by
 obtain⟨s,xs,hn,hx,hj⟩:=h
 exact⟨s,xs,hn.kp k,hx,hj⟩
theorem bK.kp {U:TypeId} {T:TypeId->Bool} {w w':World} {v:Value} {X:Int} (h:bK w v X) (k:aF ⟨U,λ_=>True,T⟩ w w'):bK w' v X:=eM.kp h k
theorem au.kp {T:TypeId->Bool} {w w':World} {B:Nat} {v:Value} {X:Int} (h:au w B v X) (k:aF ⟨UU,λ_=>True,T⟩ w w'):au w' B v X:=by
 obtain⟨p,c,hv,ho⟩:=h
 exact⟨p,c,hv,Own.kp ho k⟩
theorem au.in {w:World} {B:Nat} {v:Value} {X:Int} {j:Nat} (h:au w B v X) (hs:Sz X j):bH w v X j:=h.rd.to hs
def EN (X Y:Int):Rat:=if 0<Y/\Int.gcd X Y=1 then Rat.divInt X Y else 0
theorem pY {X Y:Int} (h:0<Y/\Int.gcd X Y=1):(EN X Y).num=X/\((EN X Y).den:Int)=Y:=by
 unfold EN
 rw[if_pos h,Rat.num_divInt,Rat.den_divInt,if_neg aa,Int.gcd_comm,h.2]
 have:Y.sign=1:=dN h.1
 rw[this]
 simp
 omega
theorem EO {X Y:Int} (h:¬ (0<Y/\Int.gcd X Y=1)):EN X Y=0:=if_neg h
theorem zc (q:Rat):EN q.num q.den=q:=by
 have h:(0:Int)<q.den/\Int.gcd q.num q.den=1:=⟨by have:=q.den_nz;omega,by have:=q.reduced;simpa [Int.gcd,Nat.Coprime] using this⟩
 obtain⟨h1,h2⟩:=pY h
 exact Rat.ext h1 aa
def dJ (w:World) (v:Value) (s:Bool) (xs:List Nat) (t:Bool) (ys:List Nat):Prop:=
 ∃ p c r d,v=.agg #[.bool s,.slice p xs.length c,.bool t,.slice r ys.length d]/\eM w (.agg #[.bool s,.slice p xs.length c]) s xs/\eM w (.agg #[.bool t,.slice r ys.length d]) t ys
def rq (s:Bool) (xs:List Nat) (t:Bool) (ys:List Nat):Rat:=EN (numOf s xs) (numOf t ys)
def bE (w:World) (v:Value) (q:Rat) (k:Nat):Prop:=∃ s xs t ys,dJ w v s xs t ys/\q=rq s xs t ys/\xs.length<=k/\ys.length<=k
def dB (w:World) (v:Value) (q:Rat):Prop:=∃ s p n c t r m d,v=.agg #[.bool s,.slice p n c,.bool t,.slice r m d]/\bK w (.agg #[.bool s,.slice p n c]) q.num/\bK w (.agg #[.bool t,.slice r m d]) (q.den:Int)
def bh (w:World) (B:Nat) (v:Value) (q:Rat):Prop:=∃ s p n c t r m d,v=.agg #[.bool s,.slice p n c,.bool t,.slice r m d]/\au w B (.agg #[.bool s,.slice p n c]) q.num/\au w B (.agg #[.bool t,.slice r m d]) (q.den:Int)
def gn (q:Rat) (k:Nat):Prop:=Sz q.num k/\Sz (q.den:Int) k
theorem dJ.kp {U:TypeId} {T:TypeId->Bool} {w w':World} {v:Value} {s t:Bool} {xs ys:List Nat} (h:dJ w v s xs t ys) (k:aF ⟨U,λ_=>True,T⟩ w w'):dJ w' v s xs t ys:=by
 obtain⟨p,c,r,d,hv,h1,h2⟩:=h
 exact⟨p,c,r,d,hv,h1.kp k,h2.kp k⟩
theorem bE.kp {U:TypeId} {T:TypeId->Bool} {w w':World} {v:Value} {q:Rat} {j:Nat} (h:bE w v q j) (k:aF ⟨U,λ_=>True,T⟩ w w'):bE w' v q j:=by
 obtain⟨s,xs,t,ys,h1,h2⟩:=h
 exact⟨s,xs,t,ys,h1.kp k,h2⟩
theorem dB.kp {U:TypeId} {T:TypeId->Bool} {w w':World} {v:Value} {q:Rat} (h:dB w v q) (k:aF ⟨U,λ_=>True,T⟩ w w'):dB w' v q:=by
 obtain⟨s,p,n,c,t,r,m,d,hv,h1,h2⟩:=h
 exact⟨s,p,n,c,t,r,m,d,hv,h1.kp k,h2.kp k⟩
theorem bh.kp {T:TypeId->Bool} {w w':World} {B:Nat} {v:Value} {q:Rat} (h:bh w B v q) (k:aF ⟨UU,λ_=>True,T⟩ w w'):bh w' B v q:=by
 obtain⟨s,p,n,c,t,r,m,d,hv,h1,h2⟩:=h
 exact⟨s,p,n,c,t,r,m,d,hv,h1.kp k,h2.kp k⟩
theorem bh.mono {w:World} {B B':Nat} {v:Value} {q:Rat} (h:bh w B v q) (hB:B'<=B):bh w B' v q:=by
 obtain⟨s,p,n,c,t,r,m,d,hv,h1,h2⟩:=h
 exact⟨s,p,n,c,t,r,m,d,hv,h1.mono hB,h2.mono hB⟩
theorem bh.rd {w:World} {B:Nat} {v:Value} {q:Rat} (h:bh w B v q):dB w v q:=by
 obtain⟨s,p,n,c,t,r,m,d,hv,h1,h2⟩:=h
 exact⟨s,p,n,c,t,r,m,d,hv,h1.rd,h2.rd⟩
theorem bh.cast {w:World} {B:Nat} {v:Value} {q q':Rat} (h:bh w B v q) (e:q=q'):bh w B v q':=e▸h
theorem bK.len4 {w:World} {s:Bool} {p:Option Addr} {n c:Nat} {X:Int} (h:bK w (.agg #[.bool s,.slice p n c]) X):s=decide (X<0)/\n=(limbs X.natAbs).length:=⟨h.Ks,h.parts.1⟩
theorem dB.raw {w:World} {v:Value} {q:Rat} (h:dB w v q):dJ w v (decide (q.num<0)) (limbs q.num.natAbs) (decide ((q.den:Int)<0)) (limbs (q.den:Int).natAbs):=by
 obtain⟨s,p,n,c,t,r,m,d,rfl,h1,h2⟩:=h
 obtain⟨rfl,rfl⟩:=h1.len4
 obtain⟨rfl,rfl⟩:=h2.len4
 exact⟨p,c,r,d,rfl,h1,h2⟩
theorem dB.to {w:World} {v:Value} {q:Rat} {k:Nat} (h:dB w v q) (hs:gn q k):bE w v q k:=
 ⟨_,_,_,_,h.raw,by unfold rq;rw[iC,iC,zc],hs.1,hs.2⟩
theorem bh.in {w:World} {B:Nat} {v:Value} {q:Rat} {k:Nat} (h:bh w B v q) (hs:gn q k):bE w v q k:=h.rd.to hs
theorem gn.mono {q:Rat} {k l:Nat} (h:gn q k) (FU:k<=l):gn q l:=⟨h.1.mono FU,h.2.mono FU⟩
theorem gn.zero:gn 0 1:=⟨Sz.zero.mono aa,Sz.small bZ⟩
theorem qU {s:Bool} {xs:List Nat} {k:Nat} (hl:bS xs) (h:xs.length<=k):Sz (numOf s xs) k:=Nat.le_trans (yz hl) h
theorem bE.sz {w:World} {v:Value} {q:Rat} {k:Nat} (h:bE w v q k) (hk:1<=k):gn q k:=by
 obtain⟨s,xs,t,ys,⟨p,c,r,d,_,⟨_,_,_,_,l1⟩,⟨_,_,_,_,l2⟩⟩,rfl,h1,h2⟩:=h
 unfold rq
 by_cases hr:0<numOf t ys/\Int.gcd (numOf s xs) (numOf t ys)=1
 ·obtain⟨e1,e2⟩:=pY hr
  exact⟨by rw[e1];exact qU l1 h1,by rw[e2];exact qU l2 h2⟩
 ·rw[EO hr];exact gn.zero.mono hk
theorem bE.form {w:World} {v:Value} {q:Rat} {k:Nat} (h:bE w v q k):∃ s p n c t r m d,v=.agg #[.bool s,.slice p n c,.bool t,.slice r m d]:=by
 obtain⟨s,xs,t,ys,⟨p,c,r,d,hv,_⟩,_⟩:=h
 exact⟨_,_,_,_,_,_,_,_,hv⟩
theorem dB.parts {w:World} {s t:Bool} {p r:Option Addr} {n c m d:Nat} {q:Rat} (h:dB w (.agg #[.bool s,.slice p n c,.bool t,.slice r m d]) q):bK w (.agg #[.bool s,.slice p n c]) q.num/\bK w (.agg #[.bool t,.slice r m d]) (q.den:Int):=by
 obtain⟨s',p',n',c',t',r',m',d',hv,h1,h2⟩:=h
 simp only[Value.agg.injEq,Array.mk.injEq,List.cons.injEq,and_true] at hv
 obtain⟨e1,e2,e3,e4⟩:=hv
 rw[e1,e2,e3,e4]
 exact⟨h1,h2⟩
theorem dB.form {w:World} {v:Value} {q:Rat} (h:dB w v q):∃ s p n c t r m d,v=.agg #[.bool s,.slice p n c,.bool t,.slice r m d]:=by
 obtain⟨s,p,n,c,t,r,m,d,hv,_⟩:=h
 exact⟨_,_,_,_,_,_,_,_,hv⟩
theorem bh.form {w:World} {B:Nat} {v:Value} {q:Rat} (h:bh w B v q):∃ s p n c t r m d,v=.agg #[.bool s,.slice p n c,.bool t,.slice r m d]:=h.rd.form
theorem uT {X Y:Int} (hY:0<Y):X.fdiv (Int.gcd X Y:Int)=(Rat.divInt X Y).num/\Y.fdiv (Int.gcd X Y:Int)=((Rat.divInt X Y).den:Int):=by
 have hg:(0:Int)<(Int.gcd X Y:Int):=by
  have:Int.gcd X Y≠0:=λe=>by have:=(Int.gcd_eq_zero_iff.1 e).2;omega
  omega
 rw[Rat.num_divInt,Rat.den_divInt,if_neg aa,dN hY,Int.one_mul,Int.gcd_comm Y X]
 refine⟨Int.fdiv_eq_ediv_of_nonneg _ aa,?_⟩
 rw[Int.fdiv_eq_ediv_of_nonneg _ aa,Int.natCast_ediv]
 congr 1
 omega
theorem low_neg {X Y:Int} (hY:Y<0):X.fdiv (-(Int.gcd X Y:Int))=(Rat.divInt X Y).num/\Y.fdiv (-(Int.gcd X Y:Int))=((Rat.divInt X Y).den:Int):=by
 have e:Rat.divInt X Y=Rat.divInt (-X) (-Y):=(Rat.neg_divInt_neg X Y).symm
 obtain⟨h1,h2⟩:=uT (X:= -X) (Y:= -Y) aa
 rw[Int.neg_gcd,Int.gcd_neg] at h1 h2
 rw[e,<-h1,<-h2]
 have fd:∀ a b:Int,(-a).fdiv b=a.fdiv (-b):=λa b=>by rw[<-Int.neg_fdiv_neg,Int.neg_neg]
 exact⟨(fd _ _).symm,(fd _ _).symm⟩
end
set_option maxRecDepth 4000
section
open Go.RowKit
attribute [local irreducible] ar VS
theorem iw (v:Value) (X:Int) (k:Nat) (w:World) (h:bH w v X k):
  Calls Tryz.prog 196 #[v] w λe w'=>∃ u,e=.returned u/\bK w' u X/\ak w w':=
 (pW v X k w w h (ak.refl w)).mono λe w' ⟨u,he,h1,h2⟩=>⟨u,he,h1.aB h2,h2⟩
theorem bK.row {w:World} {s:Bool} {p:Option Addr} {n c:Nat} {X:Int} (h:bK w (.agg #[.bool s,.slice p n c]) X):Rd w 1 (.slice p n c) n (ints .u32 (limbs X.natAbs)):=h.parts.2.1
theorem bK.n {w:World} {s:Bool} {p:Option Addr} {n c:Nat} {X:Int} (h:bK w (.agg #[.bool s,.slice p n c]) X):n=(limbs X.natAbs).length:=h.parts.1
theorem lW {s:Bool} {X:Int} (h:s=decide (X<0)):X=if s=true then-(X.natAbs:Int) else X.natAbs:=by
 subst h
 by_cases hx:X<0
 ·simp[hx];omega
 ·simp[hx];omega
theorem VO.cB {C:Cx} {F:Fr} {H:Hp} {w:World} {m:Option (List FuncId)} {full:Array Oper} {K:Fr->Hp->World->Prop} {o:Oper} {r:List Oper} {g:FuncId} {args:List AV} {vs:List Value} {v:Value} (e:stepOf C full F H o=.call (.fn g args)) (hv:dV args=some vs) (hf:ng C.P g) (con:∀ w1,aF C.K w w1->C.Old w1->Calls C.P g vs.toArray w1 λe w2=>e=.returned v/\ak w1 w2) (h:∀ w1,aF C.K w w1->C.Old w1->∀ w2,ak w1 w2->aF C.K w w2->aF C.K w1 w2->C.Old w2->ar C m full r K (F.bC o.dst (.val v)) H w2):ar C m full (o::r) K F H w:=
 VO.call e hv hf λw1 a b=>(con w1 a b).mono λ_ w2 x=>⟨v,x.1,x.2,h w1 a b w2 x.2⟩
theorem VO.cR {C:Cx} {F:Fr} {H:Hp} {w:World} {m:Option (List FuncId)} {full:Array Oper} {K:Fr->Hp->World->Prop} {o:Oper} {r:List Oper} {g:FuncId} {args:List AV} {vs:List Value} {Φ:World->World->Value->Prop} (e:stepOf C full F H o=.call (.fn g args)) (hv:dV args=some vs) (hf:ng C.P g) (con:∀ w1,aF C.K w w1->C.Old w1->Calls C.P g vs.toArray w1 λe w2=>∃ r,e=.returned r/\Φ w1 w2 r/\ak w1 w2) (h:∀ w1,aF C.K w w1->C.Old w1->∀ w2 (s:Bool) (p:Option Addr) (n c:Nat) (t:Bool) (y:Option Addr) (i j:Nat),Φ w1 w2 (.agg #[.bool s,.slice p n c,.bool t,.slice y i j])->ak w1 w2->aF C.K w w2->aF C.K w1 w2->C.Old w2->ar C m full r K (F.bC o.dst (.val (.agg #[.bool s,.slice p n c,.bool t,.slice y i j]))) H w2) (hΦ:∀ w1 w2 r,Φ w1 w2 r->∃ s p n c t y i j,r=.agg #[.bool s,.slice p n c,.bool t,.slice y i j]:=by exact λ_ _ _ h=>h.form):ar C m full (o::r) K F H w:=
 VO.call e hv hf λw1 a b=>(con w1 a b).mono λ_ w2 ⟨r,x1,x2,x3⟩=>by
   obtain⟨s,p,n,c,t,y,i,j,rfl⟩:=hΦ _ _ _ x2
   exact⟨_,x1,x3,h w1 a b w2 s p n c t y i j x2 x3⟩
theorem VO.cI {C:Cx} {F:Fr} {H:Hp} {w:World} {m:Option (List FuncId)} {full:Array Oper} {K:Fr->Hp->World->Prop} {o:Oper} {r:List Oper} {g:FuncId} {args:List AV} {vs:List Value} {Φ:World->World->Value->Prop} (e:stepOf C full F H o=.call (.fn g args)) (hv:dV args=some vs) (hf:ng C.P g) (con:∀ w1,aF C.K w w1->C.Old w1->Calls C.P g vs.toArray w1 λe w2=>∃ r,e=.returned r/\Φ w1 w2 r/\ak w1 w2) (h:∀ w1,aF C.K w w1->C.Old w1->∀ w2 (s:Bool) (p:Option Addr) (n c:Nat),Φ w1 w2 (.agg #[.bool s,.slice p n c])->ak w1 w2->aF C.K w w2->aF C.K w1 w2->C.Old w2->ar C m full r K (F.bC o.dst (.val (.agg #[.bool s,.slice p n c]))) H w2) (hΦ:∀ w1 w2 r,Φ w1 w2 r->∃ s p n c,r=.agg #[.bool s,.slice p n c]:=by exact λ_ _ _ h=>h.form):ar C m full (o::r) K F H w:=
 VO.call e hv hf λw1 a b=>(con w1 a b).mono λ_ w2 ⟨r,x1,x2,x3⟩=>by
   obtain⟨s,p,n,c,rfl⟩:=hΦ _ _ _ x2
   exact⟨_,x1,x3,h w1 a b w2 s p n c x2 x3⟩
theorem ae {P Q:Prop} (h:Q) (i:Q->P:=by intro h;(repeat first|refine wN ?_|refine wP rfl ?_|refine cx_r rfl ?_|refine cx_d rfl ?_|refine wO rfl rfl ?_);exact h):P:=i h
theorem bA {P Q X:Prop} (hb:X) (h:Q) (i:X->Q->P:=by intro hb h;refine⟨_,rfl,hb,λa b c=>wV rfl ?_⟩;refine ae ?_;revert a b c;exact h):P:=i hb h
theorem aX {P Q:Prop} (h:Q) (i:Q->P:=by intro h;exact VS.ret (bO _ _) rfl rfl h):P:=i h
theorem qV (v:Value) (X:Int) (j:Nat) (w:World) (hv:bH w v X j) (hj:j<=1073741824):
  Calls Tryz.prog 194 #[v] w λe w'=>∃ r,e=.returned r/\au w' w.heap.size r (-X)/\ak w w':=by
 obtain⟨s,p,n,c,rfl⟩:=hv.form
 have hl:=hv.len
 refine af (C:=aW Tryz.prog w _) (args:=[_]) Tryz.func194 rfl Tryz.ntmps194 (bP rfl) ?_
 refine ae ?_
 refine VO.call rfl rfl (fk Tryz.func196) (λbo cj bD=>(iw _ X j bo (hv.kp cj)).mono ?_)
 rintro e w1 ⟨r1,rfl,h1,aL⟩
 obtain⟨s1,p1,n1,c1,rfl⟩:=h1.fV
 refine bA aL ?_
 intro dh _ bb1
 refine VO.call rfl rfl (fk Tryz.func196) (λcA dG cV=>(iw _ X j cA (hv.kp ((dh).aw dG))).mono ?_)
 rintro e w2 ⟨r2,rfl,h2,aY⟩
 obtain⟨s2,p2,n2,c2,rfl⟩:=h2.fV
 refine bA aY ?_
 intro eU _ bb2
 refine VO.cI rfl rfl (fk Tryz.func197) (λeD eW fN=>gM (!s1) _ n2 _ eD (h2.row.kp eW) (aj _) (by rw[h2.n];omega)) (λeD eW fN w3 s3 p3 n3 c3 h3 cK iM _ bb3=>wV rfl ?_)
 refine ae ?_
 refine aX ?_;intro wz kz bz
 refine⟨_,rfl,au.cast ((h3.kp kz).mono fN.size) ?_,bz⟩
 rw[ai]
 have:=lW h1.Ks
 cases s1 <;> simp at this ⊢ <;> omega
theorem qW (v u:Value) (X Y:Int) (j k:Nat) (w:World) (hv:bH w v X j) (hu:bH w u Y k) (hj:j<=536870912) (hk:k<=536870911):
  Calls Tryz.prog 140 #[v,u] w λe w'=>∃ r,e=.returned r/\au w' w.heap.size r (X+Y)/\ak w w':=by
 obtain⟨s,p,n,c,rfl⟩:=hv.form
 obtain⟨t,q,m,d,rfl⟩:=hu.form
 have qo:=hv.len
 have kJ:=hu.len
 refine af (C:=aW Tryz.prog w _) (args:=[_,_]) Tryz.func140 rfl Tryz.ntmps140 (bP rfl) ?_
 refine ae ?_
 refine VO.call rfl rfl (fk Tryz.func196) (λbo cj bD=>(iw _ X j bo (hv.kp cj)).mono ?_)
 rintro e w1 ⟨r1,rfl,h1,aL⟩
 obtain⟨s1,p1,n1,c1,rfl⟩:=h1.fV
 refine bA aL ?_
 intro dh _ bb1
 refine VO.call rfl rfl (fk Tryz.func196) (λcA dG cV=>(iw _ Y k cA (hu.kp ((dh).aw dG))).mono ?_)
 rintro e w2 ⟨r2,rfl,h2,aY⟩
 obtain⟨s2,p2,n2,c2,rfl⟩:=h2.fV
 refine bA aY ?_
 intro eU _ bb2
 have e1:=lW h1.Ks
 have e2:=lW h2.Ks
 have JU:n1<=536870912:=by rw[h1.n];omega
 have Cv:n2<=536870911:=by rw[h2.n];omega
 by_cases hst:s1=s2
 ·subst hst
  refine VS.aR rfl dU ?_
  refine ae ?_
  refine VO.call rfl rfl (fk Tryz.func198) (λeD eW fN=>(Ix _ _ n1 n2 _ _ eD (h1.row.kp (dG.aw ((Kp.of aY).aw eW))) (h2.row.kp eW) (aj _) (aj _) aa aa).mono ?_)
  rintro e w3 ⟨v3,rfl,h3,cK⟩
  obtain⟨p3,c3,rfl,_⟩:=Own.form h3
  refine bA cK ?_
  intro iM _ bb3
  refine VO.cI rfl rfl (fk Tryz.func197) (λiP jA jX=>gM s1 _ _ _ iP (Rd.own (Own.kp h3 jA)) (aj _) (by have:=sum_len (a:=ag (limbs X.natAbs)) (b:=ag (limbs Y.natAbs)) (n:=n1) (m:=n2) (by rw[ai];exact h1.n) (by rw[ai];exact h2.n);omega)) (λiP jA jX w4 s4 p4 n4 c4 h4 gj nD _ Ah=>wV rfl ?_)
  refine ae ?_
  refine aX ?_;intro wz kz bz
  refine⟨_,rfl,au.cast ((h4.kp kz).mono jX.size) ?_,bz⟩
  rw[ai,ai,ai]
  cases s1 <;> simp at e1 e2 ⊢ <;> omega
 ·refine VS.aP rfl (by simpa using hst) ?_
  refine ae ?_
  refine VO.call rfl rfl (fk Tryz.func199) (λeD eW fN=>(za _ _ n1 n2 _ _ eD (h1.row.kp (dG.aw ((Kp.of aY).aw eW))) (h2.row.kp eW) (aj _) (aj _) aa aa).mono ?_)
  rintro e w3 ⟨h3,cK⟩
  rw[ai,ai] at h3
  rcases h3 with ⟨hlt,rfl⟩|⟨hle,v3,rfl,h3⟩
  ·refine bA cK ?_
   intro iM _ bb3
   refine VO.call rfl rfl (fk Tryz.func199) (λiP jA jX=>(za _ _ n2 n1 _ _ iP (h2.row.kp (eW.aw ((Kp.of cK).aw jA))) (h1.row.kp (dG.aw ((Kp.of aY).aw (eW.aw ((Kp.of cK).aw jA))))) (aj _) (aj _) aa aa).mono ?_)
   rintro e w4 ⟨h4,gj⟩
   rw[ai,ai] at h4
   rcases h4 with ⟨hlt',rfl⟩|⟨hle',v4,rfl,h4⟩
   ·omega
   ·obtain⟨p4,c4,rfl,_⟩:=Own.form h4
    refine bA gj ?_
    intro nD _ Ah
    refine VO.cI rfl rfl (fk Tryz.func197) (λjj jk kD=>gM s2 _ _ _ jj (Rd.own (Own.kp h4 jk)) (aj _) (by have:=bX (show Y.natAbs-X.natAbs<=Y.natAbs by omega);omega)) (λjj jk kD w5 s5 p5 n5 c5 h5 iR mE _ xT=>wV rfl ?_)
    refine ae ?_
    refine aX ?_;intro wz kz bz
    refine⟨_,rfl,au.cast ((h5.kp kz).mono kD.size) ?_,bz⟩
    rw[ai]
    cases s1 <;> cases s2 <;> simp at e1 e2 hst ⊢ <;> omega
  ·obtain⟨p3,c3,rfl,_⟩:=Own.form h3
   refine bA cK ?_
   intro iM _ bb3
   refine VO.cI rfl rfl (fk Tryz.func197) (λjj jk kD=>gM s1 _ _ _ jj (Rd.own (Own.kp h3 jk)) (aj _) (by have:=bX (show X.natAbs-Y.natAbs<=X.natAbs by omega);omega)) (λjj jk kD w5 s5 p5 n5 c5 h5 iR mE _ xT=>wV rfl ?_)
   refine ae ?_
   refine aX ?_;intro wz kz bz
   refine⟨_,rfl,au.cast ((h5.kp kz).mono kD.size) ?_,bz⟩
   rw[ai]
   cases s1 <;> cases s2 <;> simp at e1 e2 hst ⊢ <;> omega
theorem CF (v u:Value) (X Y:Int) (j k:Nat) (w:World) (hv:bH w v X j) (hu:bH w u Y k) (hj:j<=536870912) (hk:k<=536870911):
  Calls Tryz.prog 261 #[v,u] w λe w'=>∃ r,e=.returned r/\au w' w.heap.size r (X-Y)/\ak w w':=by
 obtain⟨s,p,n,c,rfl⟩:=hv.form
 obtain⟨t,q,m,d,rfl⟩:=hu.form
 refine af (C:=aW Tryz.prog w _) (args:=[_,_]) Tryz.func261 rfl Tryz.ntmps261 (bP rfl) ?_
 refine ae ?_
 refine VO.cI rfl rfl (fk Tryz.func194) (λbo cj bD=>qV _ Y k bo (hu.kp cj) aa) (λbo cj bD w1 s1 p1 n1 c1 h1 aL dh _ bb1=>wV rfl ?_)
 refine ae ?_
 refine VO.cI rfl rfl (fk Tryz.func140) (λcA dG cV=>qW _ _ X (-Y) j k cA (hv.kp ((dh).aw dG)) ((h1.kp dG).in (Sz.neg hu.len)) hj hk) (λcA dG cV w2 s2 p2 n2 c2 h2 aY eU _ bb2=>wV rfl ?_)
 refine ae ?_
 refine aX ?_;intro wz kz bz
 exact⟨_,rfl,au.cast ((h2.kp kz).mono cV.size) (Int.sub_eq_add_neg).symm,bz⟩
end
section
open Go.RowKit
attribute [local irreducible] ar VS
set_option maxRecDepth 100000 in
theorem fZ (p:Option Addr) (n c:Nat) (xs:List Nat) (w:World) (hr:Rd w 1 (.slice p n c) n (ints .i64 xs)) (hl:ft xs):
  Calls Tryz.prog 267 #[.slice p n c] w λe w'=>(∃ m,m<=n/\e=.returned (.slice p m c)/\halves (hval xs)=xs.take m)/\w=w':=by
 obtain⟨p',c',hv,eV,fm,ed⟩:=hr.i64
 simp only[Value.slice.injEq,true_and] at hv
 obtain⟨rfl,rfl⟩:=hv
 have HX:Hid (xs.length=n):=ed
 clear ed
 refine aG λR' bm=> ?_
 go_enter Tryz.func267,Tryz.ntmps267
 go_wp2
 go_loop [0] (λv=>∃ m,m<=n/\v=.slice p m c/\hval (xs.take m)=hval xs) (λv=>match v with | .slice _ m _=>m|_=>0)
 case atStart=>exact⟨n,Nat.le_refl _,rfl,by rw[List.take_of_length_le (Nat.le_of_eq HX.out)]⟩
 case round=>
  obtain⟨m,hm,rfl,hv⟩:=hrel
  have HV:Hid (hval (xs.take m)=hval xs):=hv
  clear hv
  by_cases h0:m=0
  ·subst h0
   go_wp2
   exact bm.out _ _ ⟨⟨0,Nat.zero_le _,rfl,js aa hl (Nat.zero_le _) HV.out (.inl rfl)⟩,rfl⟩
  ·obtain⟨b,off,x,rfl,hb,hx,hc⟩:=hr.cellAt (k:=m-1) aa
   have JJ:Hid (xs[m-1]? =some x):=hx
   clear hx
   have h0':0<m:=by omega
   obtain⟨j,rfl⟩:∃ j,m=j+1:=⟨m-1,by omega⟩
   rw[Nat.add_sub_cancel] at hc
   by_cases lG:x=0
   ·subst lG
    go_wp2
    go_round
    case rel=>exact⟨j,by omega,rfl,(jP JJ.out).symm.trans HV.out⟩
    case measure=>simp
   ·have hx0':((x:Int) == 0)=false:=by rw[beq_eq_false_iff_ne];omega
    go_wp2
    exact bm.out _ _ ⟨⟨j+1,hm,rfl,js aa hl (by rw[HX.out];exact hm) HV.out (.inr ⟨x,JJ.out,lG⟩)⟩,rfl⟩
set_option maxRecDepth 100000 in
theorem Ai (va:Value) (n:Nat) (xs:List Nat) (w:World) (hr:Rd w 1 va n (ints .u32 xs)) (hl:bS xs) (hn:n<=1073741824):
  Calls Tryz.prog 202 #[va] w λe w'=>∃ v',e=.returned v'/\w'.ownsRow w.heap.size 3 1 v' (halves (ag xs)).length (ints .i64 (halves (ag xs)))/\Below w.heap.size w w':=by
 obtain⟨p,c,rfl,eV,fm,ed⟩:=hr.u32
 obtain⟨i0,hi,kP,mA,mN⟩:=info_parts uS
 obtain⟨B,hB⟩:∃ B,B=w.heap.size:=⟨_,rfl⟩
 have HB:=Lib.hid hB
 have Hr:=Lib.hid hr
 have HL:=Lib.hid hl
 have HX:=Lib.hid ed
 rw[<-hB]
 clear hr hl ed hB
 refine aG λR' bm=> ?_
 go_enter Tryz.func202,Tryz.ntmps202
 go_wp2
 go_loopw [3,4] (λov iv wr=>Gn w B xs ov iv wr) (λ_ iv _=>n-(intOf iv).toNat)
 case atStart=>exact⟨0,[],Nat.zero_le _,rfl,rfl,dy.nil _,rfl,World.ownsRow_nil _ _ _ _,Below.refl _ _⟩
 case round=>
  obtain⟨k,hs,hk,rfl,hhl,hhh,hhv,az,hb⟩:=hrel
  have HK:=Lib.hid hk
  have HO:=Lib.hid az
  have HHL:=Lib.hid hhl
  have HHH:=Lib.hid hhh
  have HHV:=Lib.hid hhv
  have fK:=Lib.hid hb
  have uH:B<=wr.heap.size:=by have:=hb.size;have:=HB.out;omega
  have EH:k<=n:=by rw[<-HX.out];exact hk
  clear hk az hhl hhh hhv hb
  by_cases hkn:k<n
  ·obtain⟨b1,o1,x,rfl,aL,fq,hcw⟩:=Hr.out.cellAt hkn
   have ku:=(fK.out.cell (p:=⟨b1,o1+k,none⟩) (by rw[HB.out];exact aL)).trans hcw
   have hne:=JG HO.out (b:=b1) (by rw[HB.out];exact aL)
   have uI:=Lib.hid fq
   have jv:=HL.out.at fq
   have HNE:=Lib.hid hne
   have yu:(0:Int)<=(k:Int):=by omega
   have qn:(k:Int)<(n:Int):=by omega
   clear fq hcw hne
   go_wp2_with fail
   go_region_held3 (λw'=>w'.cell? ⟨b1,o1+k,none⟩=some (.int .u32 (x:Int))) (first|exact ku|go_keep|exact ym wy ku HNE.out)
    ((refine mU (by rfl) _ _ 315 (by rfl) B 3 i0 (.int .i64 0) 1 8 Tryz.underlying315 hi kP mA mN rfl aa _ (2*k) (ints .i64 hs) (by rfl) ((HO.out.alloc _).drew) _ 2 (ints .i64 [x%65536,x/65536]) (by rfl) (Rd.drew (Rd.lit2 (Gp jv) (Gq jv))) (kK .i64 [x%65536,x/65536]) (by unfold maxLen;omega) aa (by simp;omega) ?_;intro v1 w1 eT wy))
   have ql:=Lib.hid eT
   have HG1:=Lib.hid wy
   clear eT wy
   go_wp2_with fail
   go_roundw
   case rel=>
    have hst:=yY uI.out jv HHL.out HHH.out HHV.out
    exact⟨k+1,hs++[x%65536,x/65536],by rw[HX.out];omega,by go_num,by simp[HHL.out];omega,hst.1,hst.2,by rw[fU];exact ql.out,Below.behind fK.out uH HG1.out HO.out (Nat.le_refl _)⟩
   case measure=>simp[intOf];omega
  ·obtain rfl:k=n:=by omega
   obtain⟨p1,c1,xz,_,_,_⟩:=Own.form HO.out
   have HV1:=Lib.hid xz
   have zN:Hid (hval hs=ag xs):=by show _=_;rw[HHV.out,bc (Nat.le_of_eq HX.out)]
   subst xz
   go_wp2_with fail
   refine (fZ p1 (2*k) c1 hs _ (Rd.own HO.out) HHH.out).mono ?_
   rintro e w2 ⟨⟨m,hm,rfl,xF⟩,rfl⟩
   have HC:=Own.cut HO.out hm xF
   rw[zN.out] at HC
   have HC1:=Lib.hid HC.1
   have HC2:=Lib.hid HC.2
   clear HC xF
   go_wp2_with fail
   refine bm.out _ _ ⟨_,rfl,?_,fK.out⟩
   have:=HC1.out
   rw[<-HC2.out] at this ⊢
   exact this
theorem Ls {n:Int} (h0: -9223372036854775808<=n) (h1:n<=9223372036854775807):mD (n.tmod 4294967296) [IntKind.i64.wrap (0-n.tmod 4294967296)]=((n.natAbs%4294967296:Nat):Int):=by
 have e:(n.tmod 4294967296).natAbs=n.natAbs%4294967296:=by rw[Int.natAbs_tmod];rfl
 have hs:(0<=n->0<=n.tmod 4294967296):=λh=>Int.tmod_nonneg _ h
 have hs':(n<=0->n.tmod 4294967296<=0):=λh=>by have:=Int.tmod_nonneg 4294967296 (show 0<=-n by omega);rw[Int.neg_tmod] at this;omega
 rw[IntWalk.i64_in _ aa]
 unfold mD mD
 split <;> omega
theorem Lt {n:Int} (h0: -9223372036854775808<=n) (h1:n<=9223372036854775807):mD (IntKind.i64.wrap (n.tdiv 4294967296)) [IntKind.i64.wrap (0-IntKind.i64.wrap (n.tdiv 4294967296))]=((n.natAbs/4294967296:Nat):Int):=by
 have e:(n.tdiv 4294967296).natAbs=n.natAbs/4294967296:=by rw[Int.natAbs_tdiv];rfl
 have hs:(0<=n->0<=n.tdiv 4294967296):=λh=>Int.tdiv_nonneg h aa
 have hs':(n<=0->n.tdiv 4294967296<=0):=λh=>by have:=Int.tdiv_nonneg (show 0<=-n by omega) (show (0:Int)<=4294967296 by omega);rw[Int.neg_tdiv] at this;omega
 have hb:n.natAbs/4294967296<=2147483648:=by omega
 rw[IntWalk.i64_in (n.tdiv 4294967296) aa,IntWalk.i64_in _ aa]
 unfold mD mD
 split <;> omega
theorem Gt {x:Nat} (h:x<4294967296):IntKind.u32.wrap (x:Int)=(x:Int):=by rw[IntKind.wrap_u32',Int.emod_eq_of_lt aa aa]
theorem lX (n:Int) (w:World) (h0: -9223372036854775808<=n) (h1:n<=9223372036854775807):
  Calls Tryz.prog 142 #[.int .i64 n] w λe w'=>∃ r,e=.returned r/\au w' w.heap.size r n/\ak w w':=by
 have e1:=Ls h0 h1
 have e2:=Lt h0 h1
 have g1:=Nat.mod_lt n.natAbs (show 0<4294967296 by omega)
 have g2:n.natAbs/4294967296<4294967296:=by omega
 refine af (C:=aW Tryz.prog w _) (args:=[_]) Tryz.func142 rfl Tryz.ntmps142 (bP rfl) ?_
 refine ae ?_
 refine VO.lit (bO _ _) [.int .u32 (IntKind.u32.wrap (mD (n.tmod 4294967296) [IntKind.i64.wrap (0-n.tmod 4294967296)])),.int .u32 (IntKind.u32.wrap (mD (IntKind.i64.wrap (n.tdiv 4294967296)) [IntKind.i64.wrap (0-IntKind.i64.wrap (n.tdiv 4294967296))]))] rfl rfl rfl rfl rfl rfl rfl rfl rfl aa (λw2 b k2 b2 ho=>wV rfl ?_)
 rw[e1,e2,Gt g1,Gt g2] at ho
 refine VO.cI rfl rfl (fk Tryz.func197) (λeD eW fN=>gM (decide (n<0)) _ 2 [n.natAbs%4294967296,n.natAbs/4294967296] eD (Rd.own (Own.kp (cs:=ints .u32 [n.natAbs%4294967296,n.natAbs/4294967296]) ho eW)) (dy.cons g1 (dy.cons g2 (dy.nil _))) aa) (λeD eW fN w3 s3 p3 n3 c3 h3 cK iM _ bb3=>wV rfl ?_)
 refine ae ?_
 refine aX ?_;intro wz kz bz
 refine⟨_,rfl,au.cast ((h3.kp kz).mono fN.size) ?_,bz⟩
 rw[eO,eO,dL]
 by_cases hn:n<0
 ·simp only[hn,decide_true,if_true];omega
 ·simp only[hn,decide_false];simp;omega
end
section
open Go.RowKit
def lv (ls:List Nat) (k j:Nat):Nat:=(if 2*j<k then ls.getD (2*j) 0 else 0)+65536*(if 2*j+1<k then ls.getD (2*j+1) 0 else 0)
def xC (ls:List Nat) (m k:Nat):List Nat:=(List.range m).map (lv ls k)
theorem Lu (ls:List Nat) (m:Nat):xC ls m 0=List.replicate m 0:=by
 apply List.ext_getElem
 ·simp[xC]
 ·intro i h1 h2;simp[xC,lv]
theorem Lv {ls:List Nat} {m j x:Nat} (hx:ls[2*j]? =some x):(xC ls m (2*j)).set j x=xC ls m (2*j+1):=by
 apply List.ext_getElem
 ·simp[xC]
 ·intro i h1 h2
  simp only[xC,List.getElem_set,List.getElem_map,List.getElem_range]
  by_cases e:j=i
  ·subst e
   rw[if_pos rfl]
   unfold lv
   rw[if_pos aa,if_neg aa,List.getD_eq_getElem?_getD,hx];rfl
  ·rw[if_neg e]
   unfold lv
   congr 1
   ·by_cases h:2*i<2*j
    ·rw[if_pos h,if_pos aa]
    ·rw[if_neg h,if_neg aa]
   ·by_cases h:2*i+1<2*j
    ·rw[if_pos h,if_pos aa]
    ·rw[if_neg h,if_neg aa]
theorem lds_odd {ls:List Nat} {m j x y:Nat} (hy:(xC ls m (2*j+1))[j]? =some y) (hx:ls[2*j+1]? =some x):(xC ls m (2*j+1)).set j (y+65536*x)=xC ls m (2*j+2):=by
 have hy':y=ls.getD (2*j) 0:=by
  obtain⟨h,rfl⟩:=List.getElem?_eq_some_iff.1 hy
  simp only[xC,List.getElem_map,List.getElem_range]
  unfold lv
  rw[if_pos aa,if_neg aa];rfl
 apply List.ext_getElem
 ·simp[xC]
 ·intro i h1 h2
  simp only[xC,List.getElem_set,List.getElem_map,List.getElem_range]
  by_cases e:j=i
  ·subst e
   rw[if_pos rfl]
   unfold lv
   rw[if_pos aa,if_pos aa,hy']
   congr 2
   rw[List.getD_eq_getElem?_getD,hx];rfl
  ·rw[if_neg e]
   unfold lv
   congr 1
   ·by_cases h:2*i<2*j+1
    ·rw[if_pos h,if_pos aa]
    ·rw[if_neg h,if_neg aa]
   ·by_cases h:2*i+1<2*j+1
    ·rw[if_pos h,if_pos aa]
    ·rw[if_neg h,if_neg aa]
theorem lds_end {ls:List Nat} (h:ft ls) {m:Nat} (hm:ls.length<=2*m):ag (xC ls m ls.length)=hval ls/\bS (xC ls m ls.length):=by
 have hb:∀ k,ls.getD k 0<65536:=λk=>jz h k
 have uK:∀ j,lv ls ls.length j=ls.getD (2*j) 0+65536*ls.getD (2*j+1) 0:=λj=>by
  unfold lv
  congr 1
  ·split
   ·rfl
   ·rw[fY aa]
  ·split
   ·rfl
   ·rw[fY aa]
 constructor
 ·have key:∀ j,j<=m->ag ((xC ls m ls.length).take j)=hval (ls.take (2*j)):=by
   intro j
   induction j with
   | zero=>intro _;rfl
   | succ j ih=>
     intro hj
     rw[aN,ih aa]
     have e:(xC ls m ls.length).getD j 0=ls.getD (2*j) 0+65536*ls.getD (2*j+1) 0:=by
      rw[List.getD_eq_getElem?_getD]
      simp[xC,show j<m by omega,uK]
     rw[e]
     show _=val 65536 (ls.take (2*j+1+1))
     rw[bF,bF,Nat.mul_add,<-Nat.mul_assoc,Nat.pow_succ 65536 (2*j),Nat.pow_mul]
     show val 65536 _+_=_
     rw[Nat.add_assoc]
  have:=key m (Nat.le_refl _)
  rw[List.take_of_length_le (by simp[xC]),List.take_of_length_le hm] at this
  exact this
 ·intro x hx
  obtain⟨j,_,rfl⟩:=List.mem_map.1 hx
  rw[uK]
  have:=hb (2*j)
  have:=hb (2*j+1)
  omega
def Iz (w:World) (B g m:Nat) (ls:List Nat) (iv:Value) (wr:World):Prop:=
 ∃ k,k<=ls.length/\iv=.int .i64 (k:Int)/\wr.ownsRow B 78 1 (.slice (some ⟨g,0,none⟩) m m) m (ints .u32 (xC ls m k))/\Below B w wr
set_option maxRecDepth 100000 in
theorem CG (va:Value) (n:Nat) (ls:List Nat) (w:World) (hr:Rd w 1 va n (ints .i64 ls)) (hl:ft ls) (hn:n<=2147483656):
  Calls Tryz.prog 200 #[va] w λe w'=>∃ v' xs,e=.returned v'/\xs.length=(n+1)/2/\w'.ownsRow w.heap.size 78 1 v' ((n+1)/2) (ints .u32 xs)/\ag xs=hval ls/\bS xs/\Below w.heap.size w w':=by
 obtain⟨p,c,rfl,eV,fm,ed⟩:=hr.i64
 obtain⟨i0,hi,kP,mA,mN⟩:=info_parts iq
 obtain⟨B,hB⟩:∃ B,B=w.heap.size:=⟨_,rfl⟩
 have HB:=Lib.hid hB
 have Hr:=Lib.hid hr
 have HL:=Lib.hid hl
 have HX:=Lib.hid ed
 obtain⟨m,hm⟩:∃ m,m=(n+1)/2:=⟨_,rfl⟩
 have HM:=Lib.hid hm
 have hmn:n<=2*m:=by omega
 have hmb:m<=1073741828:=by omega
 have hq:((n:Int)+1)/2=(m:Int):=by omega
 rw[<-hB,<-hm]
 clear hr hl ed hB hm
 refine aG λR' bm=> ?_
 go_enter Tryz.func200,Tryz.ntmps200
 go_wp2_with (at_make;refine wpList_make_full _ rfl _ _ 23 rfl B 78 i0 (.int .u32 0) 1 Tryz.underlying23 hi kP mA .i64 .i64 _ _ m rfl rfl hq hq (by rw[mN];omega) (by unfold maxLen;omega) (Nat.le_of_eq HB.out) ?_;intro w1 az Hj)
 have DU:=Lib.hid (Own.made az)
 have Hb1:Hid (Below B w w1):=(Below.refl _ _).grown Hj (Nat.le_of_eq HB.out) (λk hk=>by cases hk)
 clear az Hj hq
 go_wp2_with fail
 go_loopw [4] (λiv wr=>Iz w B w.heap.size m ls iv wr) (λiv _=>n-(intOf iv).toNat)
 case atStart=>exact⟨0,Nat.zero_le _,rfl,by rw[Lu];have:=DU.out;rw[List.nil_append] at this;exact this,Hb1.out⟩
 case round=>
  obtain⟨k,hk,rfl,az,hb⟩:=hrel
  have mr:=Lib.hid az
  have mV:=Lib.hid hb
  have hkn:k<=n:=by rw[<-HX.out];exact hk
  clear az hb hk
  by_cases hlt:k<n
  ·obtain⟨b1,o1,x,rfl,aL,fq,hcw⟩:=Hr.out.cellAt hlt
   have ku:=(mV.out.cell (p:=⟨b1,o1+k,none⟩) (by rw[HB.out];exact aL)).trans hcw
   have jv:=HL.out.at fq
   have uI:=Lib.hid fq
   obtain⟨j,hj⟩:∃ j,j=k/2:=⟨_,rfl⟩
   have Gu:(k:Int)/2=(j:Int):=by omega
   have hjm:j<m:=by omega
   obtain⟨z,hz,hcell,xI⟩:=Own.fD mr.out (j:=j) hjm
   have HZ:=Lib.hid hz
   have hw4:(x:Int)%4294967296=(x:Int):=by omega
   have hj0:(0:Int)<=(j:Int):=by omega
   have hj1:(j:Int)<(m:Int):=by omega
   have yu:(0:Int)<=(k:Int):=by omega
   have qn:(k:Int)<(n:Int):=by omega
   by_cases he:k%2=0
   ·have hke:((k:Int)%2 == 0)=true:=by rw[beq_iff_eq];omega
    have HK:Hid (k=2*j):=by show _=_;omega
    clear fq hcw he hj hz
    go_wp2_with fail
    go_roundw
    case rel=>
     refine⟨k+1,by rw[HX.out];omega,by go_num,?_,mV.out.setCell (Own.lt mr.out).1 _⟩
     have h1:=Own.fp (j:=j) (x:=x) mr.out
     rw[HK.out,Lv (by rw[<-HK.out];exact uI.out)] at h1
     rw[HK.out]
     simpa using h1
    case measure=>simp[intOf];omega
   ·have hke:((k:Int)%2 == 0)=false:=by rw[beq_eq_false_iff_ne];omega
    have HK:Hid (k=2*j+1):=by show _=_;omega
    have hz4:z<65536:=by
     have:=HZ.out
     rw[HK.out] at this
     obtain⟨h,rfl⟩:=List.getElem?_eq_some_iff.1 this
     simp only[xC,List.getElem_map,List.getElem_range]
     unfold lv
     rw[if_pos aa,if_neg aa]
     exact jz HL.out _
    have hw5:IntKind.u32.wrap (z+IntKind.u32.wrap (65536*(x:Int)))=((z+65536*x:Nat):Int):=by
     rw[IntKind.wrap_u32',IntKind.wrap_u32'];omega
    clear fq hcw he hj hz
    go_wp2
    go_region
    all_goals
     go_wp2_with fail
     go_roundw
     case rel=>
      refine⟨k+1,by rw[HX.out];omega,by go_num,?_,(mV.out.setCell (Own.lt mr.out).1 _).drew⟩
      have h1:=Own.fp (j:=j) (x:=z+65536*x) mr.out
      rw[HK.out,lds_odd (by have:=HZ.out;rw[HK.out] at this;exact this) (by rw[<-HK.out];exact uI.out)] at h1
      rw[HK.out]
      have h2:(((z+65536*x:Nat):Int))=(z:Int)+65536*(x:Int):=by omega
      rw[h2] at h1
      exact h1
     case measure=>simp[intOf];omega
  ·obtain rfl:k=n:=by omega
   obtain⟨e1,e2⟩:=lds_end HL.out (m:=m) (by rw[HX.out];exact hmn)
   rw[HX.out] at e1 e2
   have E1:=Lib.hid e1
   have E2:=Lib.hid e2
   clear e1 e2
   go_wp2_with fail
   exact bm.out _ _ ⟨_,_,rfl,by simp[xC],mr.out,E1.out,E2.out,mV.out⟩
end
section
open Go.RowKit
theorem val_set {B:Nat} {xs:List Nat} {j o v:Nat} (h:xs[j]? =some o):val B (xs.set j v)+B^j*o=val B xs+B^j*v:=by
 obtain⟨hl,he⟩:=List.getElem?_eq_some_iff.1 h
 have h1:xs=xs.take j++o::xs.drop (j+1):=by rw[<-he,<-List.drop_eq_getElem_cons hl,List.take_append_drop]
 have h2:xs.set j v=xs.take j++v::xs.drop (j+1):=by
  conv=>lhs;rw[h1]
  rw[List.set_append_right _ _ (by rw[List.length_take];omega)]
  rw[List.length_take,Nat.min_eq_left aa,Nat.sub_self];rfl
 have e1:val B xs=val B (xs.take j)+B^j*(o+B*val B (xs.drop (j+1))):=by
  conv=>lhs;rw[h1]
  rw[ib,List.length_take,Nat.min_eq_left aa,fC]
 have e2:val B (xs.set j v)=val B (xs.take j)+B^j*(v+B*val B (xs.drop (j+1))):=by
  rw[h2,ib,List.length_take,Nat.min_eq_left aa,fC]
 rw[e1,e2,Nat.mul_add,Nat.mul_add]
 omega
theorem ft.set {xs:List Nat} (h:ft xs) {v:Nat} (hv:v<65536) (j:Nat):ft (xs.set j v):=λy hy=>by
 rcases List.mem_or_eq_of_mem_set hy with h1|h1
 ·exact h y h1
 ·rw[h1];exact hv
theorem qX {os:List Nat} {i k x y o c s S Y:Nat} (ho:os[i+k]? =some o) (hs:s=x*y+o+c) (h:hval os+65536^(i+k)*c=S+65536^i*(x*Y)):
  hval (os.set (i+k) (s%65536))+65536^(i+(k+1))*(s/65536)=S+65536^i*(x*(Y+65536^k*y)):=by
 have h1:hval (os.set (i+k) (s%65536))+65536^(i+k)*o=hval os+65536^(i+k)*(s%65536):=val_set ho
 have h2:65536^(i+(k+1))=65536^(i+k)*65536:=by rw[<-Nat.add_assoc,Nat.pow_succ]
 have h3:65536^(i+k)*s=65536^(i+k)*(s%65536)+65536^(i+k)*65536*(s/65536):=by
  rw[Nat.mul_assoc,<-Nat.mul_add,Nat.mod_add_div]
 have h4:65536^(i+k)*s=65536^(i+k)*(x*y)+65536^(i+k)*o+65536^(i+k)*c:=by rw[hs,Nat.mul_add,Nat.mul_add]
 have h5:65536^i*(x*(Y+65536^k*y))=65536^i*(x*Y)+65536^(i+k)*(x*y):=by
  rw[Nat.mul_add,Nat.mul_add,Nat.pow_add]
  congr 1
  rw[Nat.mul_left_comm x,Nat.mul_assoc]
 rw[h2,h5]
 omega
def iv (xs:List Nat):List AV:=(ints .i64 xs).map .val
theorem bI (xs:List Nat):(iv xs).length=xs.length:=by simp[iv]
theorem Lw {xs:List Nat} {j x:Nat} (h:xs[j]? =some x):(iv xs)[j]? =some (.val (.int .i64 (x:Int))):=by
 unfold iv
 rw[List.getElem?_map,qx h];rfl
theorem oh (xs ys:List Nat):iv (xs++ys)=iv xs++iv ys:=by simp[iv,fU]
theorem lf (xs:List Nat):(iv xs).all aJ=true:=cE (List.all_eq_true.2 λu hu=>by obtain⟨_,_,rfl⟩:=List.mem_map.1 hu;rfl)
theorem Gv (xs:List Nat):(ints .i64 xs).all aZ=true:=List.all_eq_true.2 λu hu=>by obtain⟨_,_,rfl⟩:=List.mem_map.1 hu;rfl
theorem bd (xs:List Nat):aH (iv xs)=[]:=ah _
theorem wC:∀ n:Nat,iT n [.val (.int .i64 0)]=iv (List.replicate n 0)
 | 0=>rfl
 | n+1=>by rw[iT,wC n,List.replicate_succ];rfl
theorem iv_peek {xs:List Nat} {spare:List AV} {j x o:Nat} (h:xs[j]? =some x) (ho:o=j):∀ i u,[AV.val (.int .i64 (x:Int))][i]? =some u->(iv xs++spare)[o+i]? =some u:=by
 subst ho
 intro i u hu
 cases i with
 | zero=>
   cases hu
   have hl:=(List.getElem?_eq_some_iff.1 (Lw h)).1
   rw[Nat.add_zero,List.getElem?_append_left hl,Lw h]
 | succ i=>cases hu
theorem qY {xs:List Nat} {j x o:Nat} (h:xs[j]? =some x) (ho:o=j):∀ i u,[AV.val (.int .i64 (x:Int))][i]? =some u->(iv xs)[o+i]? =some u:=by
 have:=iv_peek (spare:=[]) h ho
 simpa using this
theorem uU {xs:List Nat} {j x o:Nat} (h:j<xs.length) (ho:o=j):(iv xs).take o++([AV.val (.int .i64 (x:Int))]++(iv xs).drop (o+1))=iv (xs.set j x):=by
 subst ho
 have:iv (xs.set o x)=(iv xs).set o (.val (.int .i64 (x:Int))):=by simp[iv,<-ints_set,List.map_set]
 rw[this,List.set_eq_take_append_cons_drop,if_pos (by rw[bI];exact h)]
 rfl
theorem jY {C:Cx} {β:Nat->Nat} {w:World} {i n c:Nat} {t:TypeId} {xs:List Nat} {spare:List AV} (h:lQ C β w i t (iv xs++spare)) (hn:xs.length=n) (eV:n<=c) (fm:c<=maxLen):Rd w 1 (.slice (some ⟨β i,0,none⟩) n c) n (ints .i64 xs):=by
 refine⟨_,c,rfl,eV,fm,by simp[hn],λ_=>⟨_,_,rfl,λj u hj=> ?_⟩⟩
 have hl:=(List.getElem?_eq_some_iff.1 hj).1
 refine h.cls.cell ?_
 rw[Nat.zero_add]
 simp only[List.map_append,List.getElem?_toArray]
 rw[List.getElem?_append_left (by simpa [iv] using hl)]
 unfold iv
 rw[aV]
 exact hj
def eh (w:World) (B:Nat) (v:Value) (n:Nat) (xs:List Nat):Prop:=
 xs.length=n/\((v=.slice none 0 0/\n=0)\/∃ b c spare,v=.slice (some ⟨b,0,none⟩) n c/\B<=b/\aE w b 3 (ints .i64 xs++spare).toArray/\n<=c/\c<=maxLen/\n+spare.length=c/\spare.all aZ=true)
theorem eh.own {w:World} {B:Nat} {v:Value} {n:Nat} {xs:List Nat} (h:eh w B v n xs):w.ownsRow B 3 1 v n (ints .i64 xs):=by
 obtain⟨hn,⟨rfl,rfl⟩|⟨b,c,spare,rfl,hB,hc,h1,h2,h3,_⟩⟩:=h
 ·rw[List.eq_nil_of_length_eq_zero hn];exact World.ownsRow_nil _ _ _ _
 ·refine⟨by simp[hn],.inr ⟨b,c,_,rfl,hB,hc,h1,h2,by simp[hn,h3],?_⟩⟩
  rw[List.take_append_of_le_length (by simp[hn]),List.take_of_length_le (by simp[hn])]
theorem eh.new {C:Cx} {w:World} {B:Nat} {v:Value} {n:Nat} {xs:List Nat} (h:eh w B v n xs):KR C 3 1 B w v n (ints .i64 xs):=by
 obtain⟨hn,⟨rfl,rfl⟩|⟨b,c,spare,rfl,hB,hc,h1,h2,h3,h4⟩⟩:=h
 ·exact .inl ⟨rfl,rfl,by rw[List.eq_nil_of_length_eq_zero hn];rfl⟩
 ·exact .inr ⟨b,c,spare,rfl,hB,hc,Gv xs,h4,h1,by simpa [maxLen] using h2,by simp;omega⟩
theorem eh.nil (w:World) (B:Nat):eh w B (.slice none 0 0) 0 []:=⟨rfl,.inl ⟨rfl,rfl⟩⟩
theorem nE {C:Cx} {β:Nat->Nat} {w:World} {i n m c:Nat} {xs:List Nat} {spare:List AV} (h:lQ C β w i 3 (iv xs++spare)) (hn:xs.length=n) (hm:m<=n) (eV:n<=c) (fm:c<=maxLen) (hl:xs.length+spare.length=c) (hnw:∀ i g,C.uM i g->C.w0.heap.size<=g:=by exact λ_ _ h=>h):
  eh w C.w0.heap.size (.slice (some ⟨β i,0,none⟩) m c) m (xs.take m):=by
 refine⟨by rw[List.length_take];omega,.inr ⟨β i,c,ints .i64 (xs.drop m)++spare.map (AV.leaf β),rfl,hnw _ _ h.new,?_,by omega,fm,by simp;omega,?_⟩⟩
 ·have:=h.cls
  rw[List.map_append] at this
  unfold iv at this
  rw[aV] at this
  rw[<-List.append_assoc,<-fU,List.take_append_drop]
  exact this
 ·have hk:=h.ok
  rw[List.all_append,Bool.and_eq_true] at hk
  rw[List.all_append,Gv,dZ hk.2];rfl
theorem gN {C:Cx} {β:Nat->Nat} {w:World} {i:Nat} {t:TypeId} {cs news rest:List AV} (h:lQ C β w i t cs) (e:cs=news++rest):∀ j u,(news.map (AV.leaf β))[j]? =some u->w.cell? ⟨β i,0+j,none⟩=some u:=by
 intro j u hj
 have hl:=(List.getElem?_eq_some_iff.1 hj).1
 refine h.cls.cell ?_
 rw[e,Nat.zero_add,List.map_append]
 simp only[List.getElem?_toArray]
 rw[List.getElem?_append_left hl]
 exact hj
theorem cQ {cs:List AV} (h:aH cs=[]) (i:Nat) (ρ:AV->Value):cs.map (AV.qm i ρ)=cs:=by
 induction cs with
 | nil=>rfl
 | cons x r ih=>
   rw[aH,List.append_eq_nil_iff] at h
   rw[List.map_cons,ih h.2]
   have:x.qm i ρ=x:=by unfold AV.qm;rw[h.1];rfl
   rw[this]
theorem Lx (i:Nat) (ρ:AV->Value) (xs:List Nat):(iv xs).map (AV.qm i ρ)=iv xs:=cQ (bd xs) i ρ
theorem uV {xs:List Nat} {m n:Nat} (h:halves (hval xs)=xs.take m) (hm:m<=n) (hn:xs.length=n):m=(halves (hval xs)).length:=by rw[h,List.length_take];omega
end
set_option maxRecDepth 4000
section
open Go.RowKit
attribute [local irreducible] ar VS
theorem ja {w:World} {b off k:Nat} {u:Value} {z:Int} (hz:z=(k:Int)) (h:w.cell? ⟨b,off+k,none⟩=some u):∀ j v,[u][j]? =some v->w.cell? ((⟨b,off+z.toNat*1,none⟩:Addr).add j)=some v:=by
 subst hz
 intro j v hj
 rw[Addr.add_mid,Int.toNat_natCast,Nat.mul_one]
 cases j with
 | zero=>cases hj;exact h
 | succ j=>cases hj
theorem IA {i k:Nat} {os xs ys:List Nat} {x:Nat} (hx:xs[i]? =some x) (hk:ys.length<=k) (h:hval os+65536^(i+k)*0=hval (xs.take i)*hval ys+65536^i*(x*hval (ys.take k))):hval os=hval (xs.take (i+1))*hval ys:=by
 have e:hval (xs.take (i+1))=hval (xs.take i)+65536^i*x:=by
  rw[bf hx,jy,List.length_take,Nat.min_eq_left (by have:=(List.getElem?_eq_some_iff.1 hx).1;omega)]
 rw[Nat.mul_zero,Nat.add_zero,List.take_of_length_le hk] at h
 rw[e,Nat.add_mul,h,Nat.mul_assoc]
theorem EP {i k n m c:Nat} {os xs ys:List Nat} {x:Nat} (hxh:ft xs) (hyh:ft ys) (hx:xs[i]? =some x) (hn:xs.length=n) (hm:ys.length=m) (hk:m<=k) (hc:0<c) (h:hval os+65536^(i+k)*c=hval (xs.take i)*hval ys+65536^i*(x*hval (ys.take k))):i+k<n+m+1:=by
 have hi:=(List.getElem?_eq_some_iff.1 hx).1
 have e:hval (xs.take (i+1))=hval (xs.take i)+65536^i*x:=by
  rw[bf hx,jy,List.length_take,Nat.min_eq_left aa]
 have e3:ys.take k=ys:=List.take_of_length_le aa
 have e2:hval os+65536^(i+k)*c=hval (xs.take (i+1))*hval ys:=by
  rw[e,Nat.add_mul,h,e3,Nat.mul_assoc]
 have b1:hval (xs.take (i+1))<65536^(i+1):=by
  have:=qT (xs:=xs.take (i+1)) (dy.take hxh _)
  rwa [List.length_take,Nat.min_eq_left aa] at this
 have b2:hval ys<65536^m:=by have:=qT hyh;rwa [hm] at this
 have b3:hval (xs.take (i+1))*hval ys<65536^(i+1+m):=by
  rw[Nat.pow_add];exact Nat.mul_lt_mul'' b1 b2
 have b4:65536^(i+k)<=65536^(i+k)*c:=Nat.le_mul_of_pos_right _ hc
 have:65536^(i+k)<65536^(i+1+m):=by omega
 have:=(Nat.pow_lt_pow_iff_right (show 1<65536 by omega)).1 this
 omega
theorem ER {x y o c:Nat} (hx:x<65536) (hy:y<65536) (ho:o<65536) (hc:c<65536):x*y+o+c<4294967296:=by
 have h1:x*y<=65535*65535:=Nat.mul_le_mul aa aa
 omega
theorem ew {P:Prop} (h:P:=by (repeat first|exact trivial|refine⟨rfl,?_⟩)):P:=h
theorem dc {A B:Prop} (h:A/\B:=by constructor <;> omega):A/\B:=h
theorem tM (va vb:Value) (n m:Nat) (xs ys:List Nat) (w:World) (hr:Rd w 1 va n (ints .i64 xs)) (hs:Rd w 1 vb m (ints .i64 ys)) (hx:ft xs) (hy:ft ys) (hn:n<=2147483656) (hm:m<=2147483656):
  Calls Tryz.prog 201 #[va,vb] w λe w'=>∃ v',e=.returned v'/\eh w' w.heap.size v' (halves (hval xs*hval ys)).length (halves (hval xs*hval ys))/\ak w w':=by
 obtain⟨p,c,rfl,eV,fm,ed⟩:=hr.i64
 obtain⟨q,d,rfl,Hm,DC,ju⟩:=hs.i64
 obtain⟨N,hN⟩:∃ N,N=n+m+1:=⟨_,rfl⟩
 have hwN:IntKind.i64.wrap (IntKind.i64.wrap ((n:Int)+(m:Int))+1)=(N:Int):=by
  rw[IntWalk.i64_in ((n:Int)+(m:Int)) aa,IntWalk.i64_in _ aa];omega
 refine af (C:=aW Tryz.prog w _) (args:=[_,_]) Tryz.func201 rfl Tryz.ntmps201 (bP rfl) ?_
 refine ae ?_
 refine VO.fix 15 rfl (congrArg (λz=>AV.val (.int .i64 z)) hwN) ?_
 refine VO.cond rfl ⟨rfl,by omega,by show (N:Int)*(24*1)<=_;omega⟩ (VO.uw 16 rfl (wC _) (wV rfl ?_))
 rw[Int.toNat_natCast]
 refine ae ?_
 refine VS.loop (J:=λms L M w'=>∃ (i:Nat) (os:List Nat),i<=n/\ms=n-i/\L=[(0,.val (.slice p n c)),(1,.val (.slice q m d)),(5,.row 16 0 N N),(6,.val (.int .i64 (i:Int)))]/\M=[(16,(3,iv os))]/\
  os.length=N/\ft os/\hval os=hval (xs.take i)*hval ys) n ⟨_,_,?_,?_,?_,?_,⟨0,List.replicate N 0,by omega,by omega,rfl,rfl,by simp,dy.replicate aa _,by rw[List.take_zero];show val 65536 _=val 65536 []*_;rw[fO,val_nil,Nat.zero_mul]⟩⟩ ?_
 ·exact ew
 ·exact ew
 ·rfl
 ·exact⟨.none (bd _),trivial⟩
 rintro ms L M w' ⟨i,os,hi,rfl,rfl,rfl,hol,hoh,hov⟩
 refine ae ?_
 by_cases tp:i<n
 ·refine VS.aR rfl (decide_eq_true (Int.ofNat_lt.2 tp)) ?_
  refine ae ?_
  obtain⟨b1,o1,x,rfl,aL,fq,ku⟩:=hr.cellAt tp
  have jv:=hx.at fq
  refine VS.loop (J:=λms L M w'=>∃ (k c':Nat) (os':List Nat),ms=N-(i+k)/\L=[(0,.val (.slice (some ⟨b1,o1,none⟩) n c)),(1,.val (.slice q m d)),(5,.row 16 0 N N),(6,.val (.int .i64 (i:Int))),(7,.val (.int .i64 (c':Int))),(8,.val (.int .i64 (k:Int)))]/\M=[(16,(3,iv os'))]/\
   os'.length=N/\ft os'/\c' <65536/\k<=N/\hval os' +65536^(i+k)*c'=hval (xs.take i)*hval ys+65536^i*(x*hval (ys.take k))) (N-i) ⟨_,_,?_,?_,?_,?_,⟨0,0,os,by omega,rfl,rfl,hol,hoh,by omega,by omega,by rw[List.take_zero,Nat.mul_zero,hov];show _=_+65536^i*(x*0);simp⟩⟩ ?_
  ·exact ew
  ·exact ew
  ·rfl
  ·exact⟨.none (bd _),trivial⟩
  rintro ms L M w'' ⟨k,c',os',rfl,rfl,rfl,hol',hoh',hc',hkN,hv⟩
  refine ae ?_
  have step:∀ (hik:i+k<N),True:=λ_=>trivial
  by_cases hgo:k<m\/0<c'
  ·have hik:i+k<N:=by
    rcases Nat.lt_or_ge k m with e|e
    ·omega
    ·rw[hN];exact EP hx hy fq ed ju e aa hv
   obtain⟨o,ho⟩:∃ o,os'[i+k]? =some o:=⟨_,List.getElem?_eq_getElem aa⟩
   have ho4:=hoh'.at ho
   have Hu:IntKind.i64.wrap ((i:Int)+(k:Int))=((i+k:Nat):Int):=by rw[IntWalk.i64_in _ aa];omega
   have hwk1:IntKind.i64.wrap ((k:Int)+1)=((k+1:Nat):Int):=by rw[IntWalk.i64_in _ aa];omega
   have hwoc:IntKind.i64.wrap ((o:Int)+(c':Int))=((o+c':Nat):Int):=by rw[IntWalk.i64_in _ aa];omega
   by_cases DV:k<m
   ·obtain⟨b2,o2,y,rfl,aY,mo,xH⟩:=hs.cellAt DV
    have uq:=hy.at mo
    have zW:=ER jv uq ho4 hc'
    obtain⟨s,hsd⟩:∃ s,s=x*y+o+c':=⟨_,rfl⟩
    have uG:(x:Int)*(y:Int)=((x*y:Nat):Int):=by simp
    have hws:IntKind.i64.wrap (IntKind.i64.wrap ((o:Int)+(c':Int))+IntKind.i64.wrap ((x:Int)*(y:Int)))=(s:Int):=by
     rw[hwoc,uG,IntWalk.i64_in ((x*y:Nat):Int) aa,IntWalk.i64_in _ aa];omega
    have hst:=qX ho hsd hv
    have hyt:hval (ys.take (k+1))=hval (ys.take k)+65536^k*y:=by
     rw[bf mo,jy,List.length_take,Nat.min_eq_left (by have:=(List.getElem?_eq_some_iff.1 mo).1;omega)]
    rw[<-hyt] at hst
    have hwc:IntKind.i64.wrap ((s:Int).tdiv 65536)=((s/65536:Nat):Int):=by
     rw[Int.tdiv_eq_ediv_of_nonneg aa,IntWalk.i64_in _ aa];simp
    have hwm:(s:Int).tmod 65536=((s%65536:Nat):Int):=by rw[Int.tmod_eq_emod_of_nonneg aa];simp
    refine VO.fix 27 rfl (congrArg (λb=>AV.val (.bool b)) (decide_eq_true (Int.ofNat_lt.2 DV))) ?_
    refine ae ?_
    refine VO.fix 36 rfl (congrArg (λz=>AV.val (.int .i64 z)) Hu) ?_
    refine VO.cond rfl dc (wV rfl ?_)
    refine VO.iE rfl [.val (.int .i64 (o:Int))] rfl (qY ho (by rw[Int.toNat_natCast];omega)) (wV rfl ?_)
    refine ae ?_
    refine VS.aR rfl (decide_eq_true (Int.ofNat_lt.2 DV)) ?_
    refine ae ?_
    refine VO.cond rfl dc (wV rfl ?_)
    refine VO.read rfl [.int .i64 (x:Int)] rfl (ja rfl ku) (wV rfl ?_)
    refine VO.cond rfl dc (wV rfl ?_)
    refine VO.read rfl [.int .i64 (y:Int)] rfl (ja rfl xH) (wV rfl ?_)
    refine ae ?_
    refine VO.fix 59 rfl (congrArg (λz=>AV.val (.int .i64 z)) Hu) ?_
    refine VO.fix 61 rfl (congrArg (λz=>AV.val (.int .i64 z)) (by rw[hws,hwm])) ?_
    refine VO.cond rfl dc (wV rfl ?_)
    refine VO.cond rfl (by show 0+((i+k:Nat):Int).toNat*1+1<=_;rw[Int.toNat_natCast,bI];omega) (wV rfl ?_)
    refine ae ?_
    refine VS.back (N-(i+(k+1))) aa ⟨_,_,?_,?_,?_,?_,⟨k+1,s/65536,os'.set (i+k) (s%65536),rfl,rfl,rfl,by simp[hol'],hoh'.set (Nat.mod_lt _ aa) _,by omega,by omega,hst⟩⟩
    ·refine⟨rfl,rfl,rfl,rfl,congrArg (λz=>some (AV.val (.int .i64 z))) (by rw[hws,hwc]),congrArg (λz=>some (AV.val (.int .i64 z))) hwk1,trivial⟩
    ·exact⟨congrArg (λl=>some (_,l)) (uU aa (by rw[Int.toNat_natCast];omega)),trivial⟩
    ·rfl
    ·exact⟨.none (bd _),trivial⟩
   ·have Lp:0<c':=by omega
    obtain⟨s,hsd⟩:∃ s,s=x*0+o+c':=⟨_,rfl⟩
    have hws:IntKind.i64.wrap ((o:Int)+(c':Int))=(s:Int):=by rw[hwoc];omega
    have hst:=qX ho hsd hv
    have hyt:hval (ys.take k)+65536^k*0=hval (ys.take (k+1)):=by rw[List.take_of_length_le aa,List.take_of_length_le aa];rfl
    rw[hyt] at hst
    have hwc:IntKind.i64.wrap ((s:Int).tdiv 65536)=((s/65536:Nat):Int):=by
     rw[Int.tdiv_eq_ediv_of_nonneg aa,IntWalk.i64_in _ aa];simp
    have hwm:(s:Int).tmod 65536=((s%65536:Nat):Int):=by rw[Int.tmod_eq_emod_of_nonneg aa];simp
    refine VO.fix 27 rfl (congrArg (λb=>AV.val (.bool b)) (decide_eq_false (λe=>DV (Int.ofNat_lt.1 e)))) ?_
    refine ae ?_
    refine VS.aR rfl (decide_eq_true aa) ?_
    refine ae ?_
    refine VO.fix 36 rfl (congrArg (λz=>AV.val (.int .i64 z)) Hu) ?_
    refine VO.cond rfl dc (wV rfl ?_)
    refine VO.iE rfl [.val (.int .i64 (o:Int))] rfl (qY ho (by rw[Int.toNat_natCast];omega)) (wV rfl ?_)
    refine ae ?_
    refine VS.aP rfl (decide_eq_false (λe=>DV (Int.ofNat_lt.1 e))) ?_
    refine ae ?_
    refine VO.fix 59 rfl (congrArg (λz=>AV.val (.int .i64 z)) Hu) ?_
    refine VO.fix 61 rfl (congrArg (λz=>AV.val (.int .i64 z)) (by rw[hws,hwm])) ?_
    refine VO.cond rfl dc (wV rfl ?_)
    refine VO.cond rfl (by show 0+((i+k:Nat):Int).toNat*1+1<=_;rw[Int.toNat_natCast,bI];omega) (wV rfl ?_)
    refine ae ?_
    refine VS.back (N-(i+(k+1))) aa ⟨_,_,?_,?_,?_,?_,⟨k+1,s/65536,os'.set (i+k) (s%65536),rfl,rfl,rfl,by simp[hol'],hoh'.set (Nat.mod_lt _ aa) _,by omega,by omega,hst⟩⟩
    ·refine⟨rfl,rfl,rfl,rfl,congrArg (λz=>some (AV.val (.int .i64 z))) (by rw[hws,hwc]),congrArg (λz=>some (AV.val (.int .i64 z))) hwk1,trivial⟩
    ·exact⟨congrArg (λl=>some (_,l)) (uU aa (by rw[Int.toNat_natCast];omega)),trivial⟩
    ·rfl
    ·exact⟨.none (bd _),trivial⟩
  ·have DV:¬ (k<m):=by omega
   have Lp:c'=0:=by omega
   subst Lp
   refine VO.fix 27 rfl (congrArg (λb=>AV.val (.bool b)) (decide_eq_false (λe=>DV (Int.ofNat_lt.1 e)))) ?_
   refine ae ?_
   have xU:IntKind.i64.wrap ((i:Int)+1)=((i+1:Nat):Int):=by rw[IntWalk.i64_in _ aa];omega
   refine VS.back (n-(i+1)) aa ⟨_,_,?_,?_,?_,?_,⟨i+1,os',by omega,rfl,rfl,rfl,hol',hoh',IA fq aa hv⟩⟩
   ·exact⟨rfl,rfl,rfl,congrArg (λz=>some (AV.val (.int .i64 z))) xU,trivial⟩
   ·exact ew
   ·rfl
   ·exact⟨.none (bd _),trivial⟩
 ·obtain rfl:i=n:=by omega
  refine VS.aP rfl (decide_eq_false (λe=>tp (Int.ofNat_lt.1 e))) ?_
  refine ae ?_
  rw[List.take_of_length_le aa] at hov
  refine VO.yR rfl (fk Tryz.func267) (λw1 β k1 b1 ho=>(fZ (some ⟨β 16,0,none⟩) N N os w1 (jY (spare:=[]) (by rw[List.append_nil];exact ho.own 16 (.base (List.mem_singleton.2 rfl)) _ _ rfl) hol (Nat.le_refl _) (by simp only[maxLen];omega)) hoh).mono ?_)
  rintro e w2 ⟨⟨mm,xL,rfl,hcut⟩,rfl⟩
  refine⟨.row 16 0 mm N,rfl,λi hi=>⟨hi,by cases List.mem_singleton.1 hi;exact Option.some_ne_none _⟩,ak.refl _,λk2 _ b2=>wV rfl ?_⟩
  refine ae ?_
  refine VS.pP (bO _ _) rfl (λwz β kz bz he=> ?_)
  have rU:=uV hcut xL hol
  rw[hov] at hcut rU
  refine⟨_,rfl,?_,bz⟩
  have:=nE (spare:=[]) (by rw[List.append_nil];exact he.own 16 _ _ rfl) hol xL (Nat.le_refl _) (by simp only[maxLen];omega) (by simpa using hol)
  rw[<-hcut] at this
  show eh wz w.heap.size (.slice (some ⟨β 16,0,none⟩) mm N) _ _
  rw[<-rU]
  exact this
set_option maxRecDepth 4000
theorem oW {A B:Nat} (h:(halves A).length<(halves B).length):A<B:=by
 rcases Nat.lt_or_ge A B with e|e
 ·exact e
 ·have:(halves B).length<=(halves A).length:=cN aa e
  omega
theorem oX {A B k a b:Nat} (ha:(halves A)[k]? =some a) (hb:(halves B)[k]? =some b) (uB:a<b) (hh:(halves A).drop (k+1)=(halves B).drop (k+1)):A<B:=by
 have:=jF (B:=65536) (bl A) ha hb uB hh
 have e1:val 65536 (halves A)=A:=aM A
 have e2:val 65536 (halves B)=B:=aM B
 omega
theorem IB {xs ys:List Nat} {k x:Nat} (hx:xs[k]? =some x) (hy:ys[k]? =some x) (h:xs.drop (k+1)=ys.drop (k+1)):xs.drop k=ys.drop k:=by
 obtain⟨l1,e1⟩:=List.getElem?_eq_some_iff.1 hx
 obtain⟨l2,e2⟩:=List.getElem?_eq_some_iff.1 hy
 rw[List.drop_eq_getElem_cons l1,List.drop_eq_getElem_cons l2,e1,e2,h]
theorem ES (va vb:Value) (n m A B:Nat) (w:World) (hr:Rd w 1 va n (ints .i64 (halves A))) (hs:Rd w 1 vb m (ints .i64 (halves B))):
  Calls Tryz.prog 313 #[va,vb] w λe w'=>e=.returned (.bool (decide (A<B)))/\ak w w':=by
 obtain⟨p,c,rfl,eV,fm,ed⟩:=hr.i64
 obtain⟨q,d,rfl,Hm,DC,ju⟩:=hs.i64
 refine af (C:=aW Tryz.prog w _) (args:=[_,_]) Tryz.func313 rfl Tryz.ntmps313 (bP rfl) ?_
 refine ae ?_
 by_cases hnm:n=m
 ·subst hnm
  refine VS.aP rfl dU ?_
  refine ae ?_
  have hw0:IntKind.i64.wrap ((n:Int)-1)=(n:Int)-1:=IntWalk.i64_in _ aa
  refine VS.loop (J:=λms L M w'=>∃ (k:Nat),k<=n/\ms=k/\L=[(0,.val (.slice p n c)),(1,.val (.slice q n d)),(5,.val (.int .i64 ((k:Int)-1)))]/\M=[]/\(halves A).drop k=(halves B).drop k) n ⟨_,_,?_,?_,?_,?_,⟨n,Nat.le_refl _,rfl,rfl,rfl,by rw[List.drop_of_length_le aa,List.drop_of_length_le aa]⟩⟩ ?_
  ·exact⟨rfl,rfl,congrArg (λz=>some (AV.val (.int .i64 z))) hw0,trivial⟩
  ·exact ew
  ·rfl
  ·exact trivial
  rintro ms L M w' ⟨k,hk,hms,rfl,rfl,hd⟩
  refine ae ?_
  by_cases yu:k=0
  ·subst yu
   refine VS.aP rfl (decide_eq_false aa) ?_
   refine ae ?_
   refine aX ?_;intro wz kz bz
   have:A=B:=EG (by simpa using hd)
   exact⟨by rw[this,decide_eq_false (Nat.lt_irrefl _)];rfl,bz⟩
  ·obtain⟨j,rfl⟩:∃ j,k=j+1:=⟨k-1,by omega⟩
   have hj:((j+1:Nat):Int)-1=(j:Int):=by omega
   refine VS.aR rfl (decide_eq_true aa) ?_
   refine VS.fix 5 rfl (congrArg (λz=>AV.val (.int .i64 z)) hj) ?_
   refine ae ?_
   obtain⟨b1,o1,x,rfl,aL,fq,ku⟩:=hr.cellAt (show j<n by omega)
   obtain⟨b2,o2,y,rfl,aY,mo,xH⟩:=hs.cellAt (show j<n by omega)
   refine VO.cond rfl dc (wV rfl ?_)
   refine VO.read rfl [.int .i64 (x:Int)] rfl (ja rfl ku) (wV rfl ?_)
   refine VO.cond rfl dc (wV rfl ?_)
   refine VO.read rfl [.int .i64 (y:Int)] rfl (ja rfl xH) (wV rfl ?_)
   refine ae ?_
   by_cases uG:x=y
   ·subst uG
    refine VS.aP rfl dU ?_
    refine ae ?_
    have rV:IntKind.i64.wrap ((j:Int)-1)=(j:Int)-1:=IntWalk.i64_in _ aa
    refine VS.back j aa ⟨_,_,?_,?_,?_,?_,⟨j,by omega,rfl,rfl,rfl,IB fq mo hd⟩⟩
    ·exact⟨rfl,rfl,congrArg (λz=>some (AV.val (.int .i64 z))) rV,trivial⟩
    ·exact ew
    ·rfl
    ·exact trivial
   ·refine VS.aR rfl (by rw[bne_iff_ne];omega) ?_
    refine ae ?_
    refine VO.cond rfl dc (wV rfl ?_)
    refine VO.read rfl [.int .i64 (x:Int)] rfl (ja rfl ku) (wV rfl ?_)
    refine VO.cond rfl dc (wV rfl ?_)
    refine VO.read rfl [.int .i64 (y:Int)] rfl (ja rfl xH) (wV rfl ?_)
    refine ae ?_
    refine aX ?_;intro wz kz bz
    refine⟨?_,bz⟩
    rcases Nat.lt_or_gt_of_ne uG with e|e
    ·rw[decide_eq_true (oX fq mo e hd)]
     exact congrArg (λb=>Ending.returned (.bool b)) (decide_eq_true (Int.ofNat_lt.2 e))
    ·have:=oX mo fq e hd.symm
     have hAB:decide (A<B)=false:=decide_eq_false aa
     rw[hAB]
     exact congrArg (λb=>Ending.returned (.bool b)) (decide_eq_false aa)
 ·refine VS.aR rfl (by rw[bne_iff_ne];omega) ?_
  refine ae ?_
  refine aX ?_;intro wz kz bz
  refine⟨?_,bz⟩
  rcases Nat.lt_or_gt_of_ne hnm with e|e
  ·rw[decide_eq_true (oW aa)]
   exact congrArg (λb=>Ending.returned (.bool b)) (decide_eq_true (Int.ofNat_lt.2 e))
  ·have:=oW (A:=B) (B:=A) aa
   have hAB:decide (A<B)=false:=decide_eq_false aa
   rw[hAB]
   exact congrArg (λb=>Ending.returned (.bool b)) (decide_eq_false aa)
theorem IC {ds us bs:List Nat} {i t br a b d mP:Nat} (hl:ds.length=i) (ha:us.getD i 0=a) (hb:bs.getD i 0=b) (hs:d+(t*b+br)=a+65536*mP)
  (h:hval ds+t*hval (bs.take i)=hval (us.take i)+65536^i*br):hval (ds++[d])+t*hval (bs.take (i+1))=hval (us.take (i+1))+65536^(i+1)*mP:=by
 have e1:hval (us.take (i+1))=hval (us.take i)+65536^i*a:=by rw[<-ha];exact bF _ _ _
 have e2:hval (bs.take (i+1))=hval (bs.take i)+65536^i*b:=by rw[<-hb];exact bF _ _ _
 have e3:65536^i*d+(65536^i*(t*b)+65536^i*br)=65536^i*a+65536^i*(65536*mP):=by rw[<-Nat.mul_add,<-Nat.mul_add,hs,Nat.mul_add]
 have e4:t*(65536^i*b)=65536^i*(t*b):=Nat.mul_left_comm _ _ _
 rw[jy,hl,e1,e2,Nat.mul_add t,e4,Nat.pow_succ,Nat.mul_assoc]
 omega
theorem Ly {ds us bs:List Nat} {n t br:Nat} (hh:ft ds) (hl:ds.length=n) (ha:us.length=n) (hle:t*hval bs<=hval us) (hb:t=0\/bs.length<=n)
  (h:hval ds+t*hval (bs.take n)=hval (us.take n)+65536^n*br):hval ds=hval us-t*hval bs:=by
 have e1:us.take n=us:=List.take_of_length_le aa
 have e2:t*hval (bs.take n)=t*hval bs:=by
  rcases hb with e|e
  ·rw[e,Nat.zero_mul,Nat.zero_mul]
  ·rw[List.take_of_length_le e]
 rw[e1,e2] at h
 have hlt:=qT hh
 rw[hl] at hlt
 have:br=0:=by
  rcases Nat.eq_zero_or_pos br with e|e
  ·exact e
  ·have:=Nat.le_mul_of_pos_right (65536^n) e
   omega
 rw[this,Nat.mul_zero] at h
 omega
def RowAt (d:Nat) (xs:List Nat) (v:AV) (M:List (Nat×(TypeId×List AV))):Prop:=
 (xs=[]/\v=.val (.slice none 0 0)/\M=[])\/∃ cap spare,v=.row d 0 xs.length cap/\M=[(d,(3,iv xs++spare))]/\xs.length<=cap/\cap<=9223372036854775807/\xs.length+spare.length=cap/\spare.all aJ=true/\aH spare=[]
theorem wD (va vb:Value) (n m t A B:Nat) (w:World) (hr:Rd w 1 va n (ints .i64 (halves A))) (hs:Rd w 1 vb m (ints .i64 (halves B))) (ht:t<65536) (hle:t*B<=A) (hn:n<=2147483656):
  Calls Tryz.prog 297 #[va,vb,.int .i64 (t:Int)] w λe w'=>∃ v',e=.returned v'/\eh w' w.heap.size v' (halves (A-t*B)).length (halves (A-t*B))/\ak w w':=by
 obtain⟨p,c,rfl,eV,fm,ed⟩:=hr.i64
 obtain⟨q,d,rfl,Hm,DC,ju⟩:=hs.i64
 refine af (C:=aW Tryz.prog w _) (args:=[_,_,_]) Tryz.func297 rfl Tryz.ntmps297 (bP rfl) ?_
 refine ae ?_
 refine VS.loop (J:=λms L M w'=>∃ (i br:Nat) (ds:List Nat) (v:AV),i<=n/\ms=n-i/\L=[(0,.val (.slice p n c)),(1,.val (.slice q m d)),(2,.val (.int .i64 (t:Int))),(7,v),(8,.val (.int .i64 (br:Int))),(9,.val (.int .i64 (i:Int)))]/\
  RowAt 47 ds v M/\ds.length=i/\ft ds/\br<=t/\hval ds+t*hval ((halves B).take i)=hval ((halves A).take i)+65536^i*br) n ⟨_,_,?_,?_,?_,?_,⟨0,0,[],.val (.slice none 0 0),by omega,by omega,rfl,.inl ⟨rfl,rfl,rfl⟩,rfl,dy.nil _,by omega,by simp[hval,val]⟩⟩ ?_
 ·exact ew
 ·exact ew
 ·rfl
 ·exact trivial
 rintro ms L M w' ⟨i,br,ds,v,hi,rfl,rfl,cf,um,hdh,hbr,hv⟩
 by_cases tp:i<n
 ·obtain⟨b1,o1,x,rfl,aL,fq,ku⟩:=hr.cellAt tp
  have jv:=(bl A).at fq
  have hxg:(halves A).getD i 0=x:=by rw[List.getD_eq_getElem?_getD,fq];rfl
  obtain⟨y,hyg⟩:∃ y,(halves B).getD i 0=y:=⟨_,rfl⟩
  have uq:y<65536:=hyg▸jz (bl B) i
  have hty:t*y<=65535*65535:=Nat.mul_le_mul aa aa
  obtain⟨X,hX⟩:∃ X:Int,X=(x:Int)-br-(t*y:Nat):=⟨_,rfl⟩
  obtain⟨mP,lZ⟩:∃ mP:Nat,(mP:Int)=(if X<0 then (65535-X)/65536 else 0)/\mP<=t:=by
   by_cases h0:X<0
   ·refine⟨((65535-X)/65536).toNat,by rw[if_pos h0];omega,?_⟩
    have:t*y<=t*65535:=Nat.mul_le_mul_left _ aa
    omega
   ·exact⟨0,by rw[if_neg h0];rfl,by omega⟩
  obtain⟨dg,Jw⟩:∃ dg:Nat,(dg:Int)=X+65536*mP/\dg<65536:=by
   refine⟨(X+65536*mP).toNat,?_,?_⟩
   ·by_cases h0:X<0
    ·rw[if_pos h0] at lZ;omega
    ·omega
   ·by_cases h0:X<0
    ·rw[if_pos h0] at lZ;omega
    ·rw[if_neg h0] at lZ;omega
  have hsum:dg+(t*y+br)=x+65536*mP:=by omega
  have hst:=IC um hxg hyg hsum hv
  have rV:IntKind.i64.wrap ((x:Int)-(br:Int))=(x:Int)-br:=IntWalk.i64_in _ aa
  have xU:IntKind.i64.wrap ((i:Int)+1)=((i+1:Nat):Int):=by rw[IntWalk.i64_in _ aa];omega
  have nY:t*y<=t*65535:=Nat.mul_le_mul_left _ aa
  rcases cf with ⟨rfl,rfl,rfl⟩|⟨cap,spare,rfl,rfl,h1,h2,h3,h4,h5⟩
  all_goals refine ae ?_
  ·by_cases him:i<m
   ·obtain⟨b2,o2,y',rfl,aY,mo,xH⟩:=hs.cellAt him
    obtain rfl:y'=y:=by rw[List.getD_eq_getElem?_getD,mo] at hyg;exact hyg
    have hwX:IntKind.i64.wrap (IntKind.i64.wrap ((x:Int)-(br:Int))-IntKind.i64.wrap ((t:Int)*(y':Int)))=X:=by
     rw[rV,show (t:Int)*(y':Int)=((t*y':Nat):Int) by simp,IntWalk.i64_in ((t*y':Nat):Int) aa,IntWalk.i64_in _ aa];omega
    refine VS.aR rfl (decide_eq_true (Int.ofNat_lt.2 tp)) ?_
    refine ae ?_
    refine VO.cond rfl dc (wV rfl ?_)
    refine VO.read rfl [.int .i64 (x:Int)] rfl (ja rfl ku) (wV rfl ?_)
    refine ae ?_
    refine VS.aR rfl (decide_eq_true (Int.ofNat_lt.2 him)) ?_
    refine ae ?_
    refine VO.cond rfl dc (wV rfl ?_)
    refine VO.read rfl [.int .i64 (y':Int)] rfl (ja rfl xH) (wV rfl ?_)
    refine VO.fix 10 rfl (congrArg (λz=>AV.val (.int .i64 z)) hwX) ?_
    refine ae ?_
    by_cases h0:X<0
    ·rw[if_pos h0] at lZ
     have Lz:IntKind.i64.wrap ((IntKind.i64.wrap (65535-X)).tdiv 65536)=(mP:Int):=by
      rw[IntWalk.i64_in (65535-X) aa,Int.tdiv_eq_ediv_of_nonneg aa,IntWalk.i64_in _ aa,lZ.1]
     have hwd:IntKind.i64.wrap (X+IntKind.i64.wrap (65536*(mP:Int)))=(dg:Int):=by
      rw[IntWalk.i64_in (65536*(mP:Int)) aa,IntWalk.i64_in _ aa,Jw.1]
     refine VS.aR rfl (decide_eq_true h0) ?_
     refine ae ?_
     ·refine VO.uw 46 rfl (congrArg (λz=>[AV.val (.int .i64 z)]) (show _=(dg:Int) by rw[Lz,hwd])) ?_
      refine VO.app (bO _ _) (t:=315) (e:=3) (sz:=1) (n:=0) (c:=0) (mm:=1) (known:=[]) (spare:=[]) (news:=iv [dg]) (dst:=47) (del:=none) rfl rfl rfl rfl rfl rfl rfl rfl (bP rfl) rfl (.inl ⟨rfl,rfl,rfl,rfl,rfl,rfl,by omega⟩) (.inl rfl) rfl rfl aa aa ⟨rfl,rfl,bd _⟩ ⟨rfl,rfl,lf _⟩ rfl aa
       (λw1 β k1 b1 ho=>⟨_,_,rfl,.inr ⟨β 46,0,rfl,gN (rest:=[]) (ho.own 46 (.base (List.mem_append_right _ (List.mem_singleton.2 rfl))) _ _ rfl) rfl⟩⟩)
       (λw2 cap' aU ρ k2 b2 fv kS nG hlen jO fy=>wV rfl ?_)
      refine ae ?_
      refine VS.back (n-(i+1)) aa ⟨_,_,?_,?_,?_,?_,⟨i+1,mP,[dg],.row 47 0 ([dg]).length cap',by omega,rfl,rfl,.inr ⟨cap',aU,rfl,rfl,by simp;omega,nG,?_,jO,fy⟩,by simp at um ⊢;omega,dy.cons Jw.2 (dy.nil _),lZ.2,hst⟩⟩
      ·exact⟨rfl,rfl,rfl,rfl,congrArg (λz=>some (AV.val (.int .i64 z))) Lz,congrArg (λz=>some (AV.val (.int .i64 z))) xU,trivial⟩
      ·exact⟨rfl,trivial⟩
      ·rfl
      ·exact⟨.append (.none (bd _)) (.none fy),trivial⟩
      ·simpa [bI,Nat.add_assoc] using hlen
    ·rw[if_neg h0] at lZ
     have mB:mP=0:=by omega
     subst mB
     refine VS.aP rfl (decide_eq_false h0) ?_
     refine ae ?_
     ·refine VO.uw 46 rfl (congrArg (λz=>[AV.val (.int .i64 z)]) (show X=(dg:Int) by omega)) ?_
      refine VO.app (bO _ _) (t:=315) (e:=3) (sz:=1) (n:=0) (c:=0) (mm:=1) (known:=[]) (spare:=[]) (news:=iv [dg]) (dst:=47) (del:=none) rfl rfl rfl rfl rfl rfl rfl rfl (bP rfl) rfl (.inl ⟨rfl,rfl,rfl,rfl,rfl,rfl,by omega⟩) (.inl rfl) rfl rfl aa aa ⟨rfl,rfl,bd _⟩ ⟨rfl,rfl,lf _⟩ rfl aa
       (λw1 β k1 b1 ho=>⟨_,_,rfl,.inr ⟨β 46,0,rfl,gN (rest:=[]) (ho.own 46 (.base (List.mem_append_right _ (List.mem_singleton.2 rfl))) _ _ rfl) rfl⟩⟩)
       (λw2 cap' aU ρ k2 b2 fv kS nG hlen jO fy=>wV rfl ?_)
      refine ae ?_
      refine VS.back (n-(i+1)) aa ⟨_,_,?_,?_,?_,?_,⟨i+1,0,[dg],.row 47 0 ([dg]).length cap',by omega,rfl,rfl,.inr ⟨cap',aU,rfl,rfl,by simp;omega,nG,?_,jO,fy⟩,by simp at um ⊢;omega,dy.cons Jw.2 (dy.nil _),Nat.zero_le _,hst⟩⟩
      ·exact⟨rfl,rfl,rfl,rfl,rfl,congrArg (λz=>some (AV.val (.int .i64 z))) xU,trivial⟩
      ·exact⟨rfl,trivial⟩
      ·rfl
      ·exact⟨.append (.none (bd _)) (.none fy),trivial⟩
      ·simpa [bI,Nat.add_assoc] using hlen
   ·have xE:y=0:=by rw[fY aa] at hyg;omega
    have hwX:IntKind.i64.wrap ((x:Int)-(br:Int))=X:=by rw[rV,hX,xE,Nat.mul_zero];omega
    refine VS.aR rfl (decide_eq_true (Int.ofNat_lt.2 tp)) ?_
    refine ae ?_
    refine VO.cond rfl dc (wV rfl ?_)
    refine VO.read rfl [.int .i64 (x:Int)] rfl (ja rfl ku) (wV rfl ?_)
    refine VO.fix 10 rfl (congrArg (λz=>AV.val (.int .i64 z)) hwX) ?_
    refine ae ?_
    refine VS.aP rfl (decide_eq_false (λe=>him (Int.ofNat_lt.1 e))) ?_
    refine ae ?_
    by_cases h0:X<0
    ·rw[if_pos h0] at lZ
     have Lz:IntKind.i64.wrap ((IntKind.i64.wrap (65535-X)).tdiv 65536)=(mP:Int):=by
      rw[IntWalk.i64_in (65535-X) aa,Int.tdiv_eq_ediv_of_nonneg aa,IntWalk.i64_in _ aa,lZ.1]
     have hwd:IntKind.i64.wrap (X+IntKind.i64.wrap (65536*(mP:Int)))=(dg:Int):=by
      rw[IntWalk.i64_in (65536*(mP:Int)) aa,IntWalk.i64_in _ aa,Jw.1]
     refine VS.aR rfl (decide_eq_true h0) ?_
     refine ae ?_
     ·refine VO.uw 46 rfl (congrArg (λz=>[AV.val (.int .i64 z)]) (show _=(dg:Int) by rw[Lz,hwd])) ?_
      refine VO.app (bO _ _) (t:=315) (e:=3) (sz:=1) (n:=0) (c:=0) (mm:=1) (known:=[]) (spare:=[]) (news:=iv [dg]) (dst:=47) (del:=none) rfl rfl rfl rfl rfl rfl rfl rfl (bP rfl) rfl (.inl ⟨rfl,rfl,rfl,rfl,rfl,rfl,by omega⟩) (.inl rfl) rfl rfl aa aa ⟨rfl,rfl,bd _⟩ ⟨rfl,rfl,lf _⟩ rfl aa
       (λw1 β k1 b1 ho=>⟨_,_,rfl,.inr ⟨β 46,0,rfl,gN (rest:=[]) (ho.own 46 (.base (List.mem_append_right _ (List.mem_singleton.2 rfl))) _ _ rfl) rfl⟩⟩)
       (λw2 cap' aU ρ k2 b2 fv kS nG hlen jO fy=>wV rfl ?_)
      refine ae ?_
      refine VS.back (n-(i+1)) aa ⟨_,_,?_,?_,?_,?_,⟨i+1,mP,[dg],.row 47 0 ([dg]).length cap',by omega,rfl,rfl,.inr ⟨cap',aU,rfl,rfl,by simp;omega,nG,?_,jO,fy⟩,by simp at um ⊢;omega,dy.cons Jw.2 (dy.nil _),lZ.2,hst⟩⟩
      ·exact⟨rfl,rfl,rfl,rfl,congrArg (λz=>some (AV.val (.int .i64 z))) Lz,congrArg (λz=>some (AV.val (.int .i64 z))) xU,trivial⟩
      ·exact⟨rfl,trivial⟩
      ·rfl
      ·exact⟨.append (.none (bd _)) (.none fy),trivial⟩
      ·simpa [bI,Nat.add_assoc] using hlen
    ·rw[if_neg h0] at lZ
     have mB:mP=0:=by omega
     subst mB
     refine VS.aP rfl (decide_eq_false h0) ?_
     refine ae ?_
     ·refine VO.uw 46 rfl (congrArg (λz=>[AV.val (.int .i64 z)]) (show X=(dg:Int) by omega)) ?_
      refine VO.app (bO _ _) (t:=315) (e:=3) (sz:=1) (n:=0) (c:=0) (mm:=1) (known:=[]) (spare:=[]) (news:=iv [dg]) (dst:=47) (del:=none) rfl rfl rfl rfl rfl rfl rfl rfl (bP rfl) rfl (.inl ⟨rfl,rfl,rfl,rfl,rfl,rfl,by omega⟩) (.inl rfl) rfl rfl aa aa ⟨rfl,rfl,bd _⟩ ⟨rfl,rfl,lf _⟩ rfl aa
       (λw1 β k1 b1 ho=>⟨_,_,rfl,.inr ⟨β 46,0,rfl,gN (rest:=[]) (ho.own 46 (.base (List.mem_append_right _ (List.mem_singleton.2 rfl))) _ _ rfl) rfl⟩⟩)
       (λw2 cap' aU ρ k2 b2 fv kS nG hlen jO fy=>wV rfl ?_)
      refine ae ?_
      refine VS.back (n-(i+1)) aa ⟨_,_,?_,?_,?_,?_,⟨i+1,0,[dg],.row 47 0 ([dg]).length cap',by omega,rfl,rfl,.inr ⟨cap',aU,rfl,rfl,by simp;omega,nG,?_,jO,fy⟩,by simp at um ⊢;omega,dy.cons Jw.2 (dy.nil _),Nat.zero_le _,hst⟩⟩
      ·exact⟨rfl,rfl,rfl,rfl,rfl,congrArg (λz=>some (AV.val (.int .i64 z))) xU,trivial⟩
      ·exact⟨rfl,trivial⟩
      ·rfl
      ·exact⟨.append (.none (bd _)) (.none fy),trivial⟩
      ·simpa [bI,Nat.add_assoc] using hlen
  ·by_cases him:i<m
   ·obtain⟨b2,o2,y',rfl,aY,mo,xH⟩:=hs.cellAt him
    obtain rfl:y'=y:=by rw[List.getD_eq_getElem?_getD,mo] at hyg;exact hyg
    have hwX:IntKind.i64.wrap (IntKind.i64.wrap ((x:Int)-(br:Int))-IntKind.i64.wrap ((t:Int)*(y':Int)))=X:=by
     rw[rV,show (t:Int)*(y':Int)=((t*y':Nat):Int) by simp,IntWalk.i64_in ((t*y':Nat):Int) aa,IntWalk.i64_in _ aa];omega
    refine VS.aR rfl (decide_eq_true (Int.ofNat_lt.2 tp)) ?_
    refine ae ?_
    refine VO.cond rfl dc (wV rfl ?_)
    refine VO.read rfl [.int .i64 (x:Int)] rfl (ja rfl ku) (wV rfl ?_)
    refine ae ?_
    refine VS.aR rfl (decide_eq_true (Int.ofNat_lt.2 him)) ?_
    refine ae ?_
    refine VO.cond rfl dc (wV rfl ?_)
    refine VO.read rfl [.int .i64 (y':Int)] rfl (ja rfl xH) (wV rfl ?_)
    refine VO.fix 10 rfl (congrArg (λz=>AV.val (.int .i64 z)) hwX) ?_
    refine ae ?_
    by_cases h0:X<0
    ·rw[if_pos h0] at lZ
     have Lz:IntKind.i64.wrap ((IntKind.i64.wrap (65535-X)).tdiv 65536)=(mP:Int):=by
      rw[IntWalk.i64_in (65535-X) aa,Int.tdiv_eq_ediv_of_nonneg aa,IntWalk.i64_in _ aa,lZ.1]
     have hwd:IntKind.i64.wrap (X+IntKind.i64.wrap (65536*(mP:Int)))=(dg:Int):=by
      rw[IntWalk.i64_in (65536*(mP:Int)) aa,IntWalk.i64_in _ aa,Jw.1]
     refine VS.aR rfl (decide_eq_true h0) ?_
     refine ae ?_
     ·refine VO.uw 46 rfl (congrArg (λz=>[AV.val (.int .i64 z)]) (show _=(dg:Int) by rw[Lz,hwd])) ?_
      refine VO.app (bO _ _) (t:=315) (e:=3) (sz:=1) (n:=ds.length) (c:=cap) (mm:=1) (known:=iv ds) (spare:=spare) (news:=iv [dg]) (dst:=47) (del:=some 47) rfl rfl rfl rfl rfl rfl rfl rfl (bP rfl) rfl (.inr ⟨47,rfl,rfl,rfl⟩) (.inr rfl) (by rw[bI];omega) (by rw[List.length_append,bI];omega) h1 h2 ⟨bd _,h5,bd _⟩ ⟨lf _,h4,lf _⟩ rfl aa
       (λw1 β k1 b1 ho=>⟨_,_,rfl,.inr ⟨β 46,0,rfl,gN (rest:=[]) (ho.own 46 (.base (List.mem_append_right _ (List.mem_singleton.2 rfl))) _ _ rfl) rfl⟩⟩)
       (λw2 cap' aU ρ k2 b2 fv kS nG hlen jO fy=>wV rfl ?_)
      refine ae ?_
      refine VS.back (n-(i+1)) aa ⟨_,_,?_,?_,?_,?_,⟨i+1,mP,ds++[dg],.row 47 0 (ds++[dg]).length cap',by omega,rfl,rfl,.inr ⟨cap',aU,rfl,rfl,by simp;omega,nG,?_,jO,fy⟩,by simp[um],dy.append hdh (dy.cons Jw.2 (dy.nil _)),lZ.2,hst⟩⟩
      ·exact⟨rfl,rfl,rfl,congrArg (λz=>some (AV.row 47 0 z cap')) dU,congrArg (λz=>some (AV.val (.int .i64 z))) Lz,congrArg (λz=>some (AV.val (.int .i64 z))) xU,trivial⟩
      ·exact⟨congrArg (λl=>some (_,l++aU)) (oh _ _).symm,trivial⟩
      ·rfl
      ·exact⟨.append (.none (bd _)) (.none fy),trivial⟩
      ·simpa [bI,Nat.add_assoc] using hlen
    ·rw[if_neg h0] at lZ
     have mB:mP=0:=by omega
     subst mB
     refine VS.aP rfl (decide_eq_false h0) ?_
     refine ae ?_
     ·refine VO.uw 46 rfl (congrArg (λz=>[AV.val (.int .i64 z)]) (show X=(dg:Int) by omega)) ?_
      refine VO.app (bO _ _) (t:=315) (e:=3) (sz:=1) (n:=ds.length) (c:=cap) (mm:=1) (known:=iv ds) (spare:=spare) (news:=iv [dg]) (dst:=47) (del:=some 47) rfl rfl rfl rfl rfl rfl rfl rfl (bP rfl) rfl (.inr ⟨47,rfl,rfl,rfl⟩) (.inr rfl) (by rw[bI];omega) (by rw[List.length_append,bI];omega) h1 h2 ⟨bd _,h5,bd _⟩ ⟨lf _,h4,lf _⟩ rfl aa
       (λw1 β k1 b1 ho=>⟨_,_,rfl,.inr ⟨β 46,0,rfl,gN (rest:=[]) (ho.own 46 (.base (List.mem_append_right _ (List.mem_singleton.2 rfl))) _ _ rfl) rfl⟩⟩)
       (λw2 cap' aU ρ k2 b2 fv kS nG hlen jO fy=>wV rfl ?_)
      refine ae ?_
      refine VS.back (n-(i+1)) aa ⟨_,_,?_,?_,?_,?_,⟨i+1,0,ds++[dg],.row 47 0 (ds++[dg]).length cap',by omega,rfl,rfl,.inr ⟨cap',aU,rfl,rfl,by simp;omega,nG,?_,jO,fy⟩,by simp[um],dy.append hdh (dy.cons Jw.2 (dy.nil _)),Nat.zero_le _,hst⟩⟩
      ·exact⟨rfl,rfl,rfl,congrArg (λz=>some (AV.row 47 0 z cap')) dU,rfl,congrArg (λz=>some (AV.val (.int .i64 z))) xU,trivial⟩
      ·exact⟨congrArg (λl=>some (_,l++aU)) (oh _ _).symm,trivial⟩
      ·rfl
      ·exact⟨.append (.none (bd _)) (.none fy),trivial⟩
      ·simpa [bI,Nat.add_assoc] using hlen
   ·have xE:y=0:=by rw[fY aa] at hyg;omega
    have hwX:IntKind.i64.wrap ((x:Int)-(br:Int))=X:=by rw[rV,hX,xE,Nat.mul_zero];omega
    refine VS.aR rfl (decide_eq_true (Int.ofNat_lt.2 tp)) ?_
    refine ae ?_
    refine VO.cond rfl dc (wV rfl ?_)
    refine VO.read rfl [.int .i64 (x:Int)] rfl (ja rfl ku) (wV rfl ?_)
    refine VO.fix 10 rfl (congrArg (λz=>AV.val (.int .i64 z)) hwX) ?_
    refine ae ?_
    refine VS.aP rfl (decide_eq_false (λe=>him (Int.ofNat_lt.1 e))) ?_
    refine ae ?_
    by_cases h0:X<0
    ·rw[if_pos h0] at lZ
     have Lz:IntKind.i64.wrap ((IntKind.i64.wrap (65535-X)).tdiv 65536)=(mP:Int):=by
      rw[IntWalk.i64_in (65535-X) aa,Int.tdiv_eq_ediv_of_nonneg aa,IntWalk.i64_in _ aa,lZ.1]
     have hwd:IntKind.i64.wrap (X+IntKind.i64.wrap (65536*(mP:Int)))=(dg:Int):=by
      rw[IntWalk.i64_in (65536*(mP:Int)) aa,IntWalk.i64_in _ aa,Jw.1]
     refine VS.aR rfl (decide_eq_true h0) ?_
     refine ae ?_
     ·refine VO.uw 46 rfl (congrArg (λz=>[AV.val (.int .i64 z)]) (show _=(dg:Int) by rw[Lz,hwd])) ?_
      refine VO.app (bO _ _) (t:=315) (e:=3) (sz:=1) (n:=ds.length) (c:=cap) (mm:=1) (known:=iv ds) (spare:=spare) (news:=iv [dg]) (dst:=47) (del:=some 47) rfl rfl rfl rfl rfl rfl rfl rfl (bP rfl) rfl (.inr ⟨47,rfl,rfl,rfl⟩) (.inr rfl) (by rw[bI];omega) (by rw[List.length_append,bI];omega) h1 h2 ⟨bd _,h5,bd _⟩ ⟨lf _,h4,lf _⟩ rfl aa
       (λw1 β k1 b1 ho=>⟨_,_,rfl,.inr ⟨β 46,0,rfl,gN (rest:=[]) (ho.own 46 (.base (List.mem_append_right _ (List.mem_singleton.2 rfl))) _ _ rfl) rfl⟩⟩)
       (λw2 cap' aU ρ k2 b2 fv kS nG hlen jO fy=>wV rfl ?_)
      refine ae ?_
      refine VS.back (n-(i+1)) aa ⟨_,_,?_,?_,?_,?_,⟨i+1,mP,ds++[dg],.row 47 0 (ds++[dg]).length cap',by omega,rfl,rfl,.inr ⟨cap',aU,rfl,rfl,by simp;omega,nG,?_,jO,fy⟩,by simp[um],dy.append hdh (dy.cons Jw.2 (dy.nil _)),lZ.2,hst⟩⟩
      ·exact⟨rfl,rfl,rfl,congrArg (λz=>some (AV.row 47 0 z cap')) dU,congrArg (λz=>some (AV.val (.int .i64 z))) Lz,congrArg (λz=>some (AV.val (.int .i64 z))) xU,trivial⟩
      ·exact⟨congrArg (λl=>some (_,l++aU)) (oh _ _).symm,trivial⟩
      ·rfl
      ·exact⟨.append (.none (bd _)) (.none fy),trivial⟩
      ·simpa [bI,Nat.add_assoc] using hlen
    ·rw[if_neg h0] at lZ
     have mB:mP=0:=by omega
     subst mB
     refine VS.aP rfl (decide_eq_false h0) ?_
     refine ae ?_
     ·refine VO.uw 46 rfl (congrArg (λz=>[AV.val (.int .i64 z)]) (show X=(dg:Int) by omega)) ?_
      refine VO.app (bO _ _) (t:=315) (e:=3) (sz:=1) (n:=ds.length) (c:=cap) (mm:=1) (known:=iv ds) (spare:=spare) (news:=iv [dg]) (dst:=47) (del:=some 47) rfl rfl rfl rfl rfl rfl rfl rfl (bP rfl) rfl (.inr ⟨47,rfl,rfl,rfl⟩) (.inr rfl) (by rw[bI];omega) (by rw[List.length_append,bI];omega) h1 h2 ⟨bd _,h5,bd _⟩ ⟨lf _,h4,lf _⟩ rfl aa
       (λw1 β k1 b1 ho=>⟨_,_,rfl,.inr ⟨β 46,0,rfl,gN (rest:=[]) (ho.own 46 (.base (List.mem_append_right _ (List.mem_singleton.2 rfl))) _ _ rfl) rfl⟩⟩)
       (λw2 cap' aU ρ k2 b2 fv kS nG hlen jO fy=>wV rfl ?_)
      refine ae ?_
      refine VS.back (n-(i+1)) aa ⟨_,_,?_,?_,?_,?_,⟨i+1,0,ds++[dg],.row 47 0 (ds++[dg]).length cap',by omega,rfl,rfl,.inr ⟨cap',aU,rfl,rfl,by simp;omega,nG,?_,jO,fy⟩,by simp[um],dy.append hdh (dy.cons Jw.2 (dy.nil _)),Nat.zero_le _,hst⟩⟩
      ·exact⟨rfl,rfl,rfl,congrArg (λz=>some (AV.row 47 0 z cap')) dU,rfl,congrArg (λz=>some (AV.val (.int .i64 z))) xU,trivial⟩
      ·exact⟨congrArg (λl=>some (_,l++aU)) (oh _ _).symm,trivial⟩
      ·rfl
      ·exact⟨.append (.none (bd _)) (.none fy),trivial⟩
      ·simpa [bI,Nat.add_assoc] using hlen
 ·obtain rfl:i=n:=by omega
  have hend:=Ly hdh um ed (show t*hval (halves B)<=hval (halves A) by rw[aM,aM];exact hle) (by
   rcases Nat.eq_zero_or_pos t with e|e
   ·exact .inl e
   ·right
    rw[<-ed]
    exact cN aa (Nat.le_trans (Nat.le_mul_of_pos_left B e) hle)) hv
  rw[aM,aM] at hend
  rcases cf with ⟨rfl,rfl,rfl⟩|⟨cap,spare,rfl,rfl,h1,h2,h3,h4,h5⟩
  all_goals
   refine ae ?_
   refine VS.aP rfl (decide_eq_false (λe=>tp (Int.ofNat_lt.1 e))) ?_
   refine ae ?_
  ·refine VO.call rfl rfl (fk Tryz.func267) (λbo cj bD=>(fZ none 0 0 [] bo (Rd.own (World.ownsRow_nil _ 0 0 _)) (dy.nil _)).mono ?_)
   rintro e w1 ⟨⟨mm,xL,rfl,hcut⟩,rfl⟩
   obtain rfl:mm=0:=by omega
   refine⟨_,rfl,ak.refl _,λdh _ bb1=>wV rfl ?_⟩
   refine ae ?_
   refine aX ?_;intro wz kz bz
   have e0:A-t*B=0:=by rw[<-hend];rfl
   exact⟨_,rfl,by rw[e0,jW];exact eh.nil _ _,bz⟩
  ·refine VO.yR rfl (fk Tryz.func267) (λw1 β k1 b1 ho=>(fZ (some ⟨β 47,0,none⟩) ds.length cap ds w1 (jY (ho.own 47 (.base (List.mem_singleton.2 rfl)) _ _ rfl) rfl h1 (by simpa [maxLen] using h2)) hdh).mono ?_)
   rintro e w2 ⟨⟨mm,xL,rfl,hcut⟩,rfl⟩
   refine⟨.row 47 0 mm cap,rfl,λi hi=>⟨hi,by cases List.mem_singleton.1 hi;exact Option.some_ne_none _⟩,ak.refl _,λk2 _ b2=>wV rfl ?_⟩
   refine ae ?_
   refine VS.pP (bO _ _) rfl (λwz β kz bz he=> ?_)
   have rU:=uV hcut xL rfl
   rw[hend] at hcut rU
   refine⟨_,rfl,?_,bz⟩
   have:=nE (he.own 47 _ _ rfl) rfl xL h1 (by simpa [maxLen] using h2) h3
   rw[<-hcut] at this
   show eh wz w.heap.size (.slice (some ⟨β 47,0,none⟩) mm cap) _ _
   rw[<-rU]
   exact this
set_option maxRecDepth 4000
theorem eh.gZ {w w':World} {B:Nat} {v:Value} {n:Nat} {xs:List Nat} (h:eh w B v n xs) (k:aF KI w w'):eh w' B v n xs:=by
 obtain⟨hn,e|⟨b,c,spare,e,hb,hc,r⟩⟩:=h
 ·exact⟨hn,.inl e⟩
 ·exact⟨hn,.inr ⟨b,c,spare,e,hb,k.block _ b _ rfl trivial hc,r⟩⟩
theorem ux.kp {w w':World} {B n:Nat} {v:Value} {cs:List Value} (h:w.ownsRow B 3 1 v n cs) (k:aF KI w w'):w'.ownsRow B 3 1 v n cs:=by
 refine⟨h.1,?_⟩
 rcases h.2 with h2|⟨g,cap,cur,hv,hb,hg,r⟩
 ·exact .inl h2
 ·exact .inr ⟨g,cap,cur,hv,hb,k.block _ g cur rfl trivial hg,r⟩
theorem eh.form {w:World} {B:Nat} {v:Value} {n:Nat} {xs:List Nat} (h:eh w B v n xs):∃ p c,v=.slice p n c:=by
 obtain⟨hn,⟨rfl,rfl⟩|⟨b,c,spare,rfl,_⟩⟩:=h
 ·exact⟨none,0,rfl⟩
 ·exact⟨_,c,rfl⟩
theorem CH (x:Nat):hval [x]=x:=by show x+65536*0=x;omega
theorem dR {P Q:Prop} (h:Q) (i:Q->P:=by intro h;(repeat first|refine wN ?_|refine wP rfl ?_|refine yS rfl ?_|refine cxI_d rfl ?_|refine wO rfl rfl ?_);exact h):P:=i h
theorem dH {P Q X:Prop} (hb:X) (h:Q) (i:X->Q->P:=by intro hb h;refine⟨_,rfl,hb,λa b c=>wV rfl ?_⟩;refine dR ?_;revert a b c;exact h):P:=i hb h
theorem qZ {P Q:Prop} (h:Q) (i:Q->P:=by intro h;exact VS.ret (lV _ _) rfl rfl h):P:=i h
theorem tN (va vb:Value) (n m A B:Nat) (w:World) (hr:Rd w 1 va n (ints .i64 (halves A))) (hs:Rd w 1 vb m (ints .i64 (halves B))) (hB:A<65536*B) (hm:m<=2147483656):
  Calls Tryz.prog 296 #[va,vb] w λe w'=>e=.returned (.int .i64 ((A/B:Nat):Int))/\ak w w':=by
 obtain⟨p,c,rfl,eV,fm,ed⟩:=hr.i64
 obtain⟨q,d,rfl,Hm,DC,ju⟩:=hs.i64
 refine af (C:=EE Tryz.prog w _) (args:=[_,_]) Tryz.func296 rfl Tryz.ntmps296 (bP rfl) ?_
 refine dR ?_
 refine VS.loop (J:=λms L M w'=>∃ (lo hi:Nat),lo<hi/\hi<=65536/\ms=hi-lo/\L=[(0,.val (.slice p n c)),(1,.val (.slice q m d)),(5,.val (.int .i64 (lo:Int))),(6,.val (.int .i64 (hi:Int)))]/\M=[]/\lo*B<=A/\A<hi*B) 65536 ⟨_,_,?_,?_,?_,?_,⟨0,65536,by omega,by omega,rfl,rfl,rfl,by omega,hB⟩⟩ ?_
 ·exact ew
 ·exact ew
 ·rfl
 ·exact trivial
 rintro ms L M w' ⟨lo,hi,hlh,hh,rfl,rfl,rfl,h1,h2⟩
 have rV:IntKind.i64.wrap ((hi:Int)-(lo:Int))=(hi:Int)-lo:=IntWalk.i64_in _ aa
 refine dR ?_
 by_cases hgo:1<hi-lo
 ·obtain⟨mid,lI⟩:∃ mid,mid=(lo+hi)/2:=⟨_,rfl⟩
  have hwm:IntKind.i64.wrap ((IntKind.i64.wrap ((lo:Int)+(hi:Int))).tdiv 2)=(mid:Int):=by
   rw[IntWalk.i64_in ((lo:Int)+(hi:Int)) aa,Int.tdiv_eq_ediv_of_nonneg aa,IntWalk.i64_in _ aa];omega
  refine VS.aR rfl (decide_eq_true (by rw[rV];omega)) ?_
  refine dR ?_
  refine VO.lit (lV _ _) [.int .i64 (mid:Int)] rfl (by rw[hwm];rfl) rfl rfl rfl rfl rfl rfl rfl aa (λw2 b k2 b2 ho=>wV rfl ?_)
  have hmid4:mid<65536:=by omega
  refine VO.call rfl rfl (fk Tryz.func201) (λbo cj bD=>(tM _ _ m 1 (halves B) [mid] bo (hs.below bD) (Rd.own (ux.kp (cs:=ints .i64 [mid]) ho cj)) (bl B) (dy.cons hmid4 (dy.nil _)) hm aa).mono ?_)
  rintro e w1 ⟨v1,rfl,q1,aL⟩
  rw[aM,CH] at q1
  obtain⟨p1,c1,rfl⟩:=q1.form
  refine dH aL ?_
  intro dh _ bb1
  refine VO.cB rfl rfl (fk Tryz.func313) (λeD eW fN=>ES _ _ n _ A (B*mid) eD (hr.below fN) (Rd.own (q1.gZ eW).own)) (λeD eW fN w3 cK iM _ bb3=>wV rfl ?_)
  refine dR ?_
  by_cases hlt:A<B*mid
  ·refine VS.aR rfl (decide_eq_true hlt) ?_
   refine dR ?_
   refine VS.back (mid-lo) aa ⟨_,_,?_,?_,?_,?_,⟨lo,mid,by omega,by omega,rfl,rfl,rfl,h1,by rw[Nat.mul_comm];exact hlt⟩⟩
   ·exact⟨rfl,rfl,rfl,congrArg (λz=>some (AV.val (.int .i64 z))) hwm,trivial⟩
   ·exact ew
   ·rfl
   ·exact trivial
  ·refine VS.aP rfl (decide_eq_false hlt) ?_
   refine dR ?_
   refine VS.back (hi-mid) aa ⟨_,_,?_,?_,?_,?_,⟨mid,hi,by omega,by omega,rfl,rfl,rfl,by rw[Nat.mul_comm];omega,h2⟩⟩
   ·exact⟨rfl,rfl,congrArg (λz=>some (AV.val (.int .i64 z))) hwm,rfl,trivial⟩
   ·exact ew
   ·rfl
   ·exact trivial
 ·refine VS.aP rfl (decide_eq_false (by rw[rV];omega)) ?_
  refine dR ?_
  refine qZ ?_;intro wz kz bz
  refine⟨?_,bz⟩
  have hBp:0<B:=by
   rcases Nat.eq_zero_or_pos B with e|e
   ·rw[e] at hB;omega
   ·exact e
  have:A/B=lo:=by
   have e1:hi=lo+1:=by omega
   rw[e1,Nat.add_mul] at h2
   exact Nat.div_eq_of_lt_le h1 (by rw[Nat.add_mul];exact h2)
  rw[this];rfl
theorem wE {A B k x R V:Nat} {qs:List Nat} (hx:(halves A)[k]? =some x) (hR:R<B) (hV:V=x+65536*R) (h:hval qs*B+R=hval ((halves A).drop (k+1))):
  hval ((V/B)::qs)*B+(V-V/B*B)=hval ((halves A).drop k)/\V<65536*B/\V-V/B*B<B/\V/B<65536:=by
 have jv:=(bl A).at hx
 have e1:hval ((halves A).drop k)=x+65536*hval ((halves A).drop (k+1)):=oO hx
 have e2:hval ((V/B)::qs)=V/B+65536*hval qs:=rfl
 have e3:=Nat.div_add_mod V B
 have e4:=Nat.mod_lt V (show 0<B by omega)
 rw[Nat.mul_comm] at e3
 have hlt:V<65536*B:=by
  have:65536*R+65536<=65536*B:=by
   have:=Nat.mul_le_mul_left 65536 (show R+1<=B by omega)
   rw[Nat.mul_add] at this;omega
  omega
 refine⟨?_,hlt,by omega,Nat.div_lt_of_lt_mul (by rw[Nat.mul_comm];exact hlt)⟩
 rw[e1,<-h,e2,Nat.add_mul,Nat.mul_add,Nat.mul_assoc]
 omega
theorem CI (va vb:Value) (n m A B:Nat) (w:World) (hr:Rd w 1 va n (ints .i64 (halves A))) (hs:Rd w 1 vb m (ints .i64 (halves B))) (hB:0<B) (hn:n<=1073741824) (hm:m<=1073741824):
  Calls Tryz.prog 260 #[va,vb] w λe w'=>∃ v u,e=.returned (.tuple #[v,u])/\eh w' w.heap.size v (halves (A/B)).length (halves (A/B))/\eh w' w.heap.size u (halves (A%B)).length (halves (A%B))/\ak w w':=by
 obtain⟨p,c,rfl,eV,fm,ed⟩:=hr.i64
 obtain⟨q,d,rfl,Hm,DC,ju⟩:=hs.i64
 refine af (C:=aW Tryz.prog w _) (args:=[_,_]) Tryz.func260 rfl Tryz.ntmps260 (bP rfl) ?_
 refine ae ?_
 refine VO.cond rfl ⟨rfl,by omega,by show (n:Int)*(24*1)<=_;omega⟩ (VO.uw 12 rfl (wC _) (wV rfl ?_))
 rw[Int.toNat_natCast]
 refine ae ?_
 have hw0:IntKind.i64.wrap ((n:Int)-1)=(n:Int)-1:=IntWalk.i64_in _ aa
 refine VS.loop (J:=λms L M w'=>∃ (k R:Nat) (qs:List Nat) (v:AV) (M1:List (Nat×(TypeId×List AV))),k<=n/\ms=k/\L=[(0,.val (.slice p n c)),(1,.val (.slice q m d)),(6,.row 12 0 n n),(7,v),(8,.val (.int .i64 ((k:Int)-1)))]/\
  M=(12,(3,iv (List.replicate k 0++qs)))::M1/\RowAt 41 (halves R) v M1/\qs.length=n-k/\ft qs/\R<B/\hval qs*B+R=hval ((halves A).drop k)) n ⟨_,_,?_,?_,?_,?_,⟨n,0,[],.val (.slice none 0 0),[],Nat.le_refl _,rfl,rfl,rfl,.inl ⟨jW,rfl,rfl⟩,by simp,dy.nil _,hB,by rw[List.drop_of_length_le aa];simp[hval,val]⟩⟩ ?_
 ·exact⟨rfl,rfl,rfl,rfl,congrArg (λz=>some (AV.val (.int .i64 z))) hw0,trivial⟩
 ·exact⟨congrArg (λl=>some (_,l)) (by rw[List.append_nil]),trivial⟩
 ·rfl
 ·exact⟨.none (bd _),trivial⟩
 rintro ms L M w' ⟨k,R,qs,v,M1,hk,hms,rfl,rfl,cf,hql,hqh,hRB,hv⟩
 have hz:(List.replicate k 0++qs).length=n:=by simp;omega
 rcases cf with ⟨hR0,rfl,rfl⟩|⟨cap,spare,rfl,rfl,g1,g2,g3,g4,g5⟩
 all_goals
  by_cases yu:k=0
 ·subst yu
  refine ae ?_
  refine VO.yR rfl (fk Tryz.func267) (λw1 β k1 bw ho=>(fZ (some ⟨β 12,0,none⟩) n n qs w1 (jY (spare:=[]) (by rw[List.append_nil];exact ho.own 12 (.base (List.mem_singleton.2 rfl)) _ _ rfl) (by simpa using hz) (Nat.le_refl _) (by simp only[maxLen];omega)) hqh).mono ?_)
  rintro e w2 ⟨⟨mm,xL,rfl,hcut⟩,rfl⟩
  refine⟨.row 12 0 mm n,rfl,λi hi=>⟨hi,by cases List.mem_singleton.1 hi;exact Option.some_ne_none _⟩,ak.refl _,λk2 _ b2=>wV rfl ?_⟩
  refine ae ?_
  refine VS.pP (bO _ _) rfl (λwz β kz bz he=> ?_)
  have hq0:qs.length=n:=by simpa using hz
  have rU:=uV hcut xL hq0
  rw[List.drop_zero,aM] at hv
  have hA:A/B=hval qs:=by rw[<-hv,Nat.add_comm,Nat.add_mul_div_right _ _ hB,Nat.div_eq_of_lt hRB,Nat.zero_add]
  have hM:A%B=R:=by rw[<-hv,Nat.add_comm,Nat.add_mul_mod_self_right,Nat.mod_eq_of_lt hRB]
  rw[<-hA] at hcut rU
  have e12:=nE (spare:=[]) (by rw[List.append_nil];exact he.own 12 _ _ rfl) hq0 xL (Nat.le_refl _) (by simp only[maxLen];omega) (by simpa using hq0)
  rw[<-hcut] at e12
  refine⟨.slice (some ⟨β 12,0,none⟩) mm n,.slice none 0 0,rfl,by rw[<-rU];exact e12,?_,bz⟩
  rw[hM,hR0];exact eh.nil _ _
 ·obtain⟨j,rfl⟩:∃ j,k=j+1:=⟨k-1,by omega⟩
  have hj:((j+1:Nat):Int)-1=(j:Int):=by omega
  obtain⟨b1,o1,x,rfl,aL,fq,ku⟩:=hr.cellAt (show j<n by omega)
  have jv:=(bl A).at fq
  obtain⟨V,hV⟩:∃ V,V=x+65536*R:=⟨_,rfl⟩
  obtain⟨s1,s2,s3,s4⟩:=wE fq hRB hV hv
  have hRl:(halves R).length<=m:=by rw[<-ju];exact cN aa aa
  have hXS:hval [x]=V:=by have hR0':R=0:=(by have:=congrArg hval hR0;rw[aM] at this;exact this);rw[hV,hR0'];exact CH x
  have hXH:ft [x]:=dy.cons jv (dy.nil _)
  have hXL:[x].length=(1+0):=rfl
  refine VS.fix 8 rfl (congrArg (λz=>AV.val (.int .i64 z)) hj) ?_
  refine ae ?_
  refine VO.cond rfl dc (wV rfl ?_)
  refine VO.read rfl [.int .i64 (x:Int)] rfl (ja rfl ku) (wV rfl ?_)
  refine ae ?_
  refine VO.app (bO _ _) (t:=315) (e:=3) (sz:=1) (n:=1) (c:=1) (mm:=0) (known:=iv [x]) (spare:=[]) (news:=[]) (dst:=27) (del:=some 24) rfl rfl rfl rfl rfl rfl rfl rfl (bP rfl) rfl (.inr ⟨24,rfl,rfl,rfl⟩) (.inl rfl) rfl rfl aa aa ⟨rfl,rfl,rfl⟩ ⟨rfl,rfl,rfl⟩ rfl aa
   (λw1 β k1 bw ho=>⟨_,_,rfl,.inl rfl⟩)
   (λw2 cap' aU ρ k2 b2 fv kS nG hlen jO fy=>VO.uw 12 rfl (Lx 24 ρ _) (wV rfl ?_))
  have hcells:(iv [x]++[])++aU=iv [x]++aU:=rfl
  refine VO.yR rfl (fk Tryz.func267) (λw1 β k1 bw ho=>(fZ (some ⟨β 27,0,none⟩) (1+0) cap' [x] w1 (jY (ho.own 27 (.base (List.mem_singleton.2 rfl)) _ _ rfl) hXL kS (by simpa [maxLen] using nG)) hXH).mono ?_)
  rintro e w3 ⟨⟨m',hm',rfl,hcut⟩,rfl⟩
  rw[hXS] at hcut
  have hm'l:m'=(halves V).length:=by rw[hcut,List.length_take];omega
  have rT:∀ {C:Cx} {β:Nat->Nat} {w:World},lQ C β w 27 3 (iv [x]++aU)->Rd w 1 (.slice (some ⟨β 27,0,none⟩) m' cap') m' (ints .i64 (halves V)):=λh=>by
   have:=Rd.CA (jY h hXL kS (by simpa [maxLen] using nG)) hm'
   rwa [<-hcut] at this
  refine⟨.row 27 0 m' cap',rfl,λi hi=>⟨hi,by cases List.mem_singleton.1 hi;exact Option.some_ne_none _⟩,ak.refl _,λk3 _ b3=>wV rfl ?_⟩
  refine ae ?_
  refine VO.wq rfl (fk Tryz.func296) (λw1 β k1 bw ho=>(tN _ _ m' m V B w1 (rT (ho.own 27 (.base (List.mem_append_left _ (List.mem_singleton.2 rfl))) _ _ rfl)) (hs.below bw) s2 aa).mono ?_)
  rintro e w4 ⟨rfl,gj⟩
  refine⟨_,rfl,gj,λk4 _ b4=>wV rfl ?_⟩
  refine VO.cond rfl dc (wV rfl ?_)
  refine VO.cond rfl (by show 0+(j:Int).toNat*1+1<=_;rw[Int.toNat_natCast,bI];omega) (wV rfl ?_)
  refine wN ?_
  refine VS.narrow [(0,.val (.slice (some ⟨b1,o1,none⟩) n c)),(1,.val (.slice q m d)),(6,.row 12 0 n n),(7,.row 27 0 m' cap'),(8,.val (.int .i64 (j:Int)))] [(12,(3,iv (List.replicate j 0++(V/B)::qs))),(27,(3,iv [x]++aU))] ?_ ?_ rfl ?_ ?_
  ·exact ew
  ·exact⟨congrArg (λl=>some (_,l)) ((uU (j:=j) (x:=V/B) (by rw[hz];omega) (by rw[Int.toNat_natCast];omega)).trans (by rw[tL])),rfl,trivial⟩
  ·exact⟨.none (bd _),.append (.none (bd _)) (.none fy),trivial⟩
  refine ae ?_
  refine VO.cond rfl dc (wV rfl ?_)
  refine VO.iE rfl [.val (.int .i64 ((V/B:Nat):Int))] rfl (qY (j:=j) (by rw[List.getElem?_append_right dU];simp) (by rw[Int.toNat_natCast];omega)) (wV rfl ?_)
  have rV:IntKind.i64.wrap ((j:Int)-1)=(j:Int)-1:=IntWalk.i64_in _ aa
  refine VO.callN (dst:=41) (n:=(halves (V-V/B*B)).length) (t:=3) (sz:=1) (xs:=ints .i64 (halves (V-V/B*B))) rfl rfl rfl (bP rfl) (by show 1<=2;omega) rfl (λw1 β k1 bw ho=>⟨(fk Tryz.func297),(wD _ _ m' m (V/B) V B w1 (rT (ho.own 27 (.base (List.mem_append_left _ (List.mem_singleton.2 rfl))) _ _ rfl)) (hs.below bw) s4 (Nat.div_mul_le_self _ _) aa).mono ?_⟩)
  rintro e w5 ⟨v5,rfl,CJ,iR⟩
  refine⟨v5,rfl,iR,CJ.new,λ_ _ _ hv5=>wV rfl ?_,λc5 sp5 _ _ _ hv5 hok5 hl5 ET JL=>wV rfl ?_⟩
  ·have kO:halves (V-V/B*B)=[]:=by
    subst hv5
    obtain⟨e1,⟨_,e2⟩|⟨_,_,_,e2,_⟩⟩:=CJ
    ·exact List.eq_nil_of_length_eq_zero e2
    ·cases e2
   refine ae ?_
   refine VS.back j aa ⟨_,_,?_,?_,?_,?_,⟨j,V-V/B*B,(V/B)::qs,.val (.slice none 0 0),[],by omega,rfl,rfl,rfl,.inl ⟨kO,rfl,rfl⟩,by simp;omega,dy.cons s4 hqh,s3,s1⟩⟩
   ·exact⟨rfl,rfl,rfl,rfl,congrArg (λz=>some (AV.val (.int .i64 z))) rV,trivial⟩
   ·exact⟨rfl,trivial⟩
   ·rfl
   ·exact⟨.none (bd _),trivial⟩
  ·have hln':(halves (V-V/B*B)).length+sp5.length=c5:=by simpa using JL
   refine ae ?_
   refine VS.back j aa ⟨_,_,?_,?_,?_,?_,⟨j,V-V/B*B,(V/B)::qs,.row 41 0 _ c5,_,by omega,rfl,rfl,rfl,.inr ⟨c5,sp5.map .val,rfl,rfl,hl5,ET,by simpa using hln',cE hok5,ah _⟩,by simp;omega,dy.cons s4 hqh,s3,s1⟩⟩
   ·exact⟨rfl,rfl,rfl,rfl,congrArg (λz=>some (AV.val (.int .i64 z))) rV,trivial⟩
   ·exact⟨rfl,congrArg (λl=>some (_,l)) (List.map_append),trivial⟩
   ·rfl
   ·exact⟨.none (bd _),.append (.none (bd _)) (.none (ah _)),trivial⟩
 ·subst yu
  refine ae ?_
  refine VO.yR rfl (fk Tryz.func267) (λw1 β k1 bw ho=>(fZ (some ⟨β 12,0,none⟩) n n qs w1 (jY (spare:=[]) (by rw[List.append_nil];exact ho.own 12 (.base (List.mem_singleton.2 rfl)) _ _ rfl) (by simpa using hz) (Nat.le_refl _) (by simp only[maxLen];omega)) hqh).mono ?_)
  rintro e w2 ⟨⟨mm,xL,rfl,hcut⟩,rfl⟩
  refine⟨.row 12 0 mm n,rfl,λi hi=>⟨hi,by cases List.mem_singleton.1 hi;exact Option.some_ne_none _⟩,ak.refl _,λk2 _ b2=>wV rfl ?_⟩
  refine ae ?_
  refine VS.pP (bO _ _) rfl (λwz β kz bz he=> ?_)
  have hq0:qs.length=n:=by simpa using hz
  have rU:=uV hcut xL hq0
  rw[List.drop_zero,aM] at hv
  have hA:A/B=hval qs:=by rw[<-hv,Nat.add_comm,Nat.add_mul_div_right _ _ hB,Nat.div_eq_of_lt hRB,Nat.zero_add]
  have hM:A%B=R:=by rw[<-hv,Nat.add_comm,Nat.add_mul_mod_self_right,Nat.mod_eq_of_lt hRB]
  rw[<-hA] at hcut rU
  have e12:=nE (spare:=[]) (by rw[List.append_nil];exact he.own 12 _ _ rfl) hq0 xL (Nat.le_refl _) (by simp only[maxLen];omega) (by simpa using hq0)
  rw[<-hcut] at e12
  have e41:=nE (he.own 41 _ _ rfl) rfl (Nat.le_refl _) g1 (by simpa [maxLen] using g2) g3
  rw[List.take_length] at e41
  refine⟨.slice (some ⟨β 12,0,none⟩) mm n,.slice (some ⟨β 41,0,none⟩) (halves R).length cap,rfl,by rw[<-rU];exact e12,?_,bz⟩
  rw[hM];exact e41
 ·obtain⟨j,rfl⟩:∃ j,k=j+1:=⟨k-1,by omega⟩
  have hj:((j+1:Nat):Int)-1=(j:Int):=by omega
  obtain⟨b1,o1,x,rfl,aL,fq,ku⟩:=hr.cellAt (show j<n by omega)
  have jv:=(bl A).at fq
  obtain⟨V,hV⟩:∃ V,V=x+65536*R:=⟨_,rfl⟩
  obtain⟨s1,s2,s3,s4⟩:=wE fq hRB hV hv
  have hRl:(halves R).length<=m:=by rw[<-ju];exact cN aa aa
  have hXS:hval (x::halves R)=V:=by rw[hV];show x+65536*hval (halves R)=_;rw[aM]
  have hXH:ft (x::halves R):=dy.cons jv (bl R)
  have hXL:(x::halves R).length=(1+(halves R).length):=by simp;omega
  refine VS.fix 8 rfl (congrArg (λz=>AV.val (.int .i64 z)) hj) ?_
  refine ae ?_
  refine VO.cond rfl dc (wV rfl ?_)
  refine VO.read rfl [.int .i64 (x:Int)] rfl (ja rfl ku) (wV rfl ?_)
  refine ae ?_
  refine VO.app (bO _ _) (t:=315) (e:=3) (sz:=1) (n:=1) (c:=1) (mm:=(halves R).length) (known:=iv [x]) (spare:=[]) (news:=iv (halves R)) (dst:=27) (del:=some 24) rfl rfl rfl rfl rfl rfl rfl rfl (bP rfl) rfl (.inr ⟨24,rfl,rfl,rfl⟩) (.inl rfl) rfl rfl aa aa ⟨rfl,rfl,bd _⟩ ⟨rfl,rfl,lf _⟩ (by rw[bI];omega) aa
   (λw1 β k1 bw ho=>⟨_,_,rfl,.inr ⟨β 41,0,rfl,gN (rest:=spare) (ho.own 41 (.base (List.mem_append_right _ (List.mem_singleton.2 rfl))) _ _ rfl) rfl⟩⟩)
   (λw2 cap' aU ρ k2 b2 fv kS nG hlen jO fy=>VO.uw 12 rfl (Lx 24 ρ _) (wV rfl ?_))
  have hcells:(iv [x]++iv (halves R))++aU=iv (x::halves R)++aU:=rfl
  refine VO.yR rfl (fk Tryz.func267) (λw1 β k1 bw ho=>(fZ (some ⟨β 27,0,none⟩) (1+(halves R).length) cap' (x::halves R) w1 (jY (ho.own 27 (.base (List.mem_singleton.2 rfl)) _ _ rfl) hXL kS (by simpa [maxLen] using nG)) hXH).mono ?_)
  rintro e w3 ⟨⟨m',hm',rfl,hcut⟩,rfl⟩
  rw[hXS] at hcut
  have hm'l:m'=(halves V).length:=by rw[hcut,List.length_take];omega
  have rT:∀ {C:Cx} {β:Nat->Nat} {w:World},lQ C β w 27 3 (iv (x::halves R)++aU)->Rd w 1 (.slice (some ⟨β 27,0,none⟩) m' cap') m' (ints .i64 (halves V)):=λh=>by
   have:=Rd.CA (jY h hXL kS (by simpa [maxLen] using nG)) hm'
   rwa [<-hcut] at this
  refine⟨.row 27 0 m' cap',rfl,λi hi=>⟨hi,by cases List.mem_singleton.1 hi;exact Option.some_ne_none _⟩,ak.refl _,λk3 _ b3=>wV rfl ?_⟩
  refine ae ?_
  refine VO.wq rfl (fk Tryz.func296) (λw1 β k1 bw ho=>(tN _ _ m' m V B w1 (rT (ho.own 27 (.base (List.mem_append_left _ (List.mem_singleton.2 rfl))) _ _ rfl)) (hs.below bw) s2 aa).mono ?_)
  rintro e w4 ⟨rfl,gj⟩
  refine⟨_,rfl,gj,λk4 _ b4=>wV rfl ?_⟩
  refine VO.cond rfl dc (wV rfl ?_)
  refine VO.cond rfl (by show 0+(j:Int).toNat*1+1<=_;rw[Int.toNat_natCast,bI];omega) (wV rfl ?_)
  refine wN ?_
  refine VS.narrow [(0,.val (.slice (some ⟨b1,o1,none⟩) n c)),(1,.val (.slice q m d)),(6,.row 12 0 n n),(7,.row 27 0 m' cap'),(8,.val (.int .i64 (j:Int)))] [(12,(3,iv (List.replicate j 0++(V/B)::qs))),(27,(3,iv (x::halves R)++aU))] ?_ ?_ rfl ?_ ?_
  ·exact ew
  ·exact⟨congrArg (λl=>some (_,l)) ((uU (j:=j) (x:=V/B) (by rw[hz];omega) (by rw[Int.toNat_natCast];omega)).trans (by rw[tL])),rfl,trivial⟩
  ·exact⟨.none (bd _),.append (.none (bd _)) (.none fy),trivial⟩
  refine ae ?_
  refine VO.cond rfl dc (wV rfl ?_)
  refine VO.iE rfl [.val (.int .i64 ((V/B:Nat):Int))] rfl (qY (j:=j) (by rw[List.getElem?_append_right dU];simp) (by rw[Int.toNat_natCast];omega)) (wV rfl ?_)
  have rV:IntKind.i64.wrap ((j:Int)-1)=(j:Int)-1:=IntWalk.i64_in _ aa
  refine VO.callN (dst:=41) (n:=(halves (V-V/B*B)).length) (t:=3) (sz:=1) (xs:=ints .i64 (halves (V-V/B*B))) rfl rfl rfl (bP rfl) (by show 1<=2;omega) rfl (λw1 β k1 bw ho=>⟨(fk Tryz.func297),(wD _ _ m' m (V/B) V B w1 (rT (ho.own 27 (.base (List.mem_append_left _ (List.mem_singleton.2 rfl))) _ _ rfl)) (hs.below bw) s4 (Nat.div_mul_le_self _ _) aa).mono ?_⟩)
  rintro e w5 ⟨v5,rfl,CJ,iR⟩
  refine⟨v5,rfl,iR,CJ.new,λ_ _ _ hv5=>wV rfl ?_,λc5 sp5 _ _ _ hv5 hok5 hl5 ET JL=>wV rfl ?_⟩
  ·have kO:halves (V-V/B*B)=[]:=by
    subst hv5
    obtain⟨e1,⟨_,e2⟩|⟨_,_,_,e2,_⟩⟩:=CJ
    ·exact List.eq_nil_of_length_eq_zero e2
    ·cases e2
   refine ae ?_
   refine VS.back j aa ⟨_,_,?_,?_,?_,?_,⟨j,V-V/B*B,(V/B)::qs,.val (.slice none 0 0),[],by omega,rfl,rfl,rfl,.inl ⟨kO,rfl,rfl⟩,by simp;omega,dy.cons s4 hqh,s3,s1⟩⟩
   ·exact⟨rfl,rfl,rfl,rfl,congrArg (λz=>some (AV.val (.int .i64 z))) rV,trivial⟩
   ·exact⟨rfl,trivial⟩
   ·rfl
   ·exact⟨.none (bd _),trivial⟩
  ·have hln':(halves (V-V/B*B)).length+sp5.length=c5:=by simpa using JL
   refine ae ?_
   refine VS.back j aa ⟨_,_,?_,?_,?_,?_,⟨j,V-V/B*B,(V/B)::qs,.row 41 0 _ c5,_,by omega,rfl,rfl,rfl,.inr ⟨c5,sp5.map .val,rfl,rfl,hl5,ET,by simpa using hln',cE hok5,ah _⟩,by simp;omega,dy.cons s4 hqh,s3,s1⟩⟩
   ·exact⟨rfl,rfl,rfl,rfl,congrArg (λz=>some (AV.val (.int .i64 z))) rV,trivial⟩
   ·exact⟨rfl,congrArg (λl=>some (_,l)) (List.map_append),trivial⟩
   ·rfl
   ·exact⟨.none (bd _),.append (.none (bd _)) (.none (ah _)),trivial⟩
set_option maxRecDepth 4000
theorem bH.gZ {w w':World} {v:Value} {X:Int} {j:Nat} (h:bH w v X j) (k:aF KI w w'):bH w' v X j:=h.kp (U:=UU) k.eH
theorem bK.gZ {w w':World} {v:Value} {X:Int} (h:bK w v X) (k:aF KI w w'):bK w' v X:=h.kp (U:=UU) k.eH
theorem au.gZ {w w':World} {B:Nat} {v:Value} {X:Int} (h:au w B v X) (k:aF KI w w'):au w' B v X:=h.kp k.eH
theorem Rd.gZ {w w':World} {v:Value} {n:Nat} {xs:List Nat} (h:Rd w 1 v n (ints .u32 xs)) (k:aF KI w w'):Rd w' 1 v n (ints .u32 xs):=h.kp (U:=UU) k.eH
theorem OwnU.gZ {w w':World} {B n:Nat} {v:Value} {cs:List Value} (h:w.ownsRow B UU 1 v n cs) (k:aF KI w w'):w'.ownsRow B UU 1 v n cs:=Own.kp h k.eH
theorem ff (a:Nat):(halves a).length<=2*(limbs a).length:=by
 have:=cH (aj a)
 rwa [ai] at this
theorem gg (va:Value) (n a:Nat) (w:World) (hr:Rd w 1 va n (ints .u32 (limbs a))) (hn:n<=1073741824):
  Calls Tryz.prog 202 #[va] w λe w'=>∃ p c,e=.returned (.slice p (halves a).length c)/\w'.ownsRow w.heap.size 3 1 (.slice p (halves a).length c) (halves a).length (ints .i64 (halves a))/\ak w w':=
 (Ai va n _ w hr (aj a) hn).mono λe w' ⟨v',he,ho,hb⟩=>by
  rw[ai] at ho
  obtain⟨p,c,rfl,_⟩:=Own.form ho
  exact⟨p,c,he,ho,hb⟩
theorem ma (va:Value) (n a:Nat) (w:World) (hr:Rd w 1 va n (ints .i64 (halves a))) (hn:n<=2147483646):
  Calls Tryz.prog 200 #[va] w λe w'=>∃ p c xs,e=.returned (.slice p ((n+1)/2) c)/\w'.ownsRow w.heap.size UU 1 (.slice p ((n+1)/2) c) ((n+1)/2) (ints .u32 xs)/\ag xs=a/\bS xs/\ak w w':=
 (CG va n _ w hr (bl a) aa).mono λe w' ⟨v',xs,he,hl,ho,hv,hx,hb⟩=>by
  obtain⟨p,c,rfl,_⟩:=Own.form ho
  exact⟨p,c,xs,he,ho,by rw[hv,aM],hx,hb⟩
theorem wF (va vb:Value) (n m A B:Nat) (w:World) (hr:Rd w 1 va n (ints .i64 (halves A))) (hs:Rd w 1 vb m (ints .i64 (halves B))) (hB:0<B) (hn:n<=1073741824) (hm:m<=1073741824):
  Calls Tryz.prog 260 #[va,vb] w λe w'=>∃ p c q d,e=.returned (.tuple #[.slice p (halves (A/B)).length c,.slice q (halves (A%B)).length d])/\w'.ownsRow w.heap.size 3 1 (.slice p (halves (A/B)).length c) (halves (A/B)).length (ints .i64 (halves (A/B)))/\w'.ownsRow w.heap.size 3 1 (.slice q (halves (A%B)).length d) (halves (A%B)).length (ints .i64 (halves (A%B)))/\ak w w':=
 (CI va vb n m A B w hr hs hB hn hm).mono λe w' ⟨v,u,he,h1,h2,hb⟩=>by
  obtain⟨p,c,rfl⟩:=h1.form
  obtain⟨q,d,rfl⟩:=h2.form
  exact⟨p,c,q,d,he,h1.own,h2.own,hb⟩
theorem LA {X Y:Int} {s t:Bool} (hX:X=if s=true then-(X.natAbs:Int) else X.natAbs) (hY:Y=if t=true then-(Y.natAbs:Int) else Y.natAbs):(if (!(s == t))=true then-((X.natAbs*Y.natAbs:Nat):Int) else ((X.natAbs*Y.natAbs:Nat):Int))=X*Y:=by
 generalize X.natAbs=a at*
 generalize Y.natAbs=b at*
 subst hX hY
 cases s <;> cases t <;> simp[Int.neg_mul,Int.mul_neg]
theorem wG (v u:Value) (X Y:Int) (j k:Nat) (w:World) (hv:bH w v X j) (hu:bH w u Y k) (hj:j<=268435456) (hk:k<=268435456):
  Calls Tryz.prog 141 #[v,u] w λe w'=>∃ r,e=.returned r/\au w' w.heap.size r (X*Y)/\ak w w':=by
 obtain⟨s,p,n,c,rfl⟩:=hv.form
 obtain⟨t,q,m,d,rfl⟩:=hu.form
 have qo:=hv.len
 have kJ:=hu.len
 refine af (C:=EE Tryz.prog w _) (args:=[_,_]) Tryz.func141 rfl Tryz.ntmps141 (bP rfl) ?_
 refine dR ?_
 refine VO.call rfl rfl (fk Tryz.func196) (λbo cj bD=>(iw _ X j bo (hv.gZ cj)).mono ?_)
 rintro e w1 ⟨r1,rfl,h1,aL⟩
 obtain⟨s1,p1,n1,c1,rfl⟩:=h1.fV
 refine dH aL ?_
 intro dh _ bb1
 refine VO.call rfl rfl (fk Tryz.func196) (λcA dG cV=>(iw _ Y k cA (hu.gZ (dh.aw dG))).mono ?_)
 rintro e w2 ⟨r2,rfl,h2,aY⟩
 obtain⟨s2,p2,n2,c2,rfl⟩:=h2.fV
 refine dH aY ?_
 intro eU _ bb2
 have e1:=lW h1.Ks
 have e2:=lW h2.Ks
 have l1:=ff X.natAbs
 have l2:=ff Y.natAbs
 refine VO.call rfl rfl (fk Tryz.func202) (λeD eW fN=>(gg _ n1 X.natAbs eD (h1.row.gZ (dG.aw ((aF.of aY).aw eW))) (by rw[h1.n];omega)).mono ?_)
 rintro e w3 ⟨p3,c3,rfl,h3,cK⟩
 skip
 refine dH cK ?_
 intro iM _ bb3
 refine VO.call rfl rfl (fk Tryz.func202) (λiP jA jX=>(gg _ n2 Y.natAbs iP (h2.row.gZ (eW.aw ((aF.of cK).aw jA))) (by rw[h2.n];omega)).mono ?_)
 rintro e w4 ⟨p4,c4,rfl,h4,gj⟩
 skip
 refine dH gj ?_
 intro nD _ Ah
 refine VO.call rfl rfl (fk Tryz.func201) (λjj jk kD=>(tM _ _ _ _ (halves X.natAbs) (halves Y.natAbs) jj (Rd.own (ux.kp h3 (jA.aw ((aF.of gj).aw jk)))) (Rd.own (ux.kp h4 jk)) (bl _) (bl _) aa aa).mono ?_)
 rintro e w5 ⟨v5,rfl,h5,iR⟩
 rw[aM,aM] at h5
 obtain⟨p5,c5,rfl⟩:=h5.form
 have l5:(halves (X.natAbs*Y.natAbs)).length<=1073741824:=by
  refine Nat.le_trans (ff _) ?_
  have:=Sz.mul (X:=X) (Y:=Y) qo kJ
  unfold Sz at this
  rw[Int.natAbs_mul] at this
  omega
 refine dH iR ?_
 intro mE _ xT
 refine VO.call rfl rfl (fk Tryz.func200) (λpZ oZ zd=>(ma _ _ (X.natAbs*Y.natAbs) pZ (Rd.own (h5.gZ oZ).own) aa).mono ?_)
 rintro e w6 ⟨p6,c6,xs6,rfl,h6,hx6,hl6,og⟩
 skip
 refine dH og ?_
 intro uy _ Gw
 refine VO.cI rfl rfl (fk Tryz.func197) (λAj Ak uW=>gM (!(s1 == s2)) _ _ xs6 Aj (Rd.own (OwnU.gZ h6 Ak)) hl6 aa) (λAj Ak uW w7 s7 p7 n7 c7 h7 DK DL _ bb7=>wV rfl ?_)
 refine dR ?_
 refine qZ ?_;intro wz kz bz
 refine⟨_,rfl,au.cast ((h7.gZ kz).mono uW.size) ?_,bz⟩
 rw[hx6]
 exact LA e1 e2
theorem Gx {s:Bool} {n:Nat} (h:n≠0):(if s=true then-(n:Int) else n).sign=if s=true then-1 else 1:=by
 cases s
 ·exact dN (by simp;omega)
 ·exact sign_neg (by simp;omega)
theorem div_len {a b:Nat}:(halves (a/b)).length<=(halves a).length:=cN aa (Nat.div_le_self _ _)
theorem mod_len {a b:Nat}:(halves (a%b)).length<=(halves a).length:=cN aa (Nat.mod_le _ _)
theorem Gy {xs:List Nat} {a:Nat} {s:Bool} (hl:bS xs) (hv:ag xs=a):Sz (if s=true then-((ag xs:Nat):Int) else ag xs) xs.length:=by
 unfold Sz
 have:(if s=true then-((ag xs:Nat):Int) else ag xs).natAbs=ag xs:=by cases s <;> simp
 rw[this]
 exact gz hl
theorem jZ (v u:Value) (X Y:Int) (j k:Nat) (w:World) (hv:bH w v X j) (hu:bH w u Y k) (hj:j<=134217728) (hk:k<=134217728):
  Calls Tryz.prog 195 #[v,u] w λe w'=>wv w w' X Y e/\ak w w':=by
 obtain⟨s,p,n,c,rfl⟩:=hv.form
 obtain⟨t,q,m,d,rfl⟩:=hu.form
 have qo:=hv.len
 have kJ:=hu.len
 refine af (C:=EE Tryz.prog w _) (args:=[_,_]) Tryz.func195 rfl Tryz.ntmps195 (bP rfl) ?_
 refine dR ?_
 refine VO.call rfl rfl (fk Tryz.func196) (λbo cj bD=>(iw _ X j bo (hv.gZ cj)).mono ?_)
 rintro e w1 ⟨r1,rfl,h1,aL⟩
 obtain⟨s1,p1,n1,c1,rfl⟩:=h1.fV
 refine dH aL ?_
 intro dh _ bb1
 refine VO.call rfl rfl (fk Tryz.func196) (λcA dG cV=>(iw _ Y k cA (hu.gZ (dh.aw dG))).mono ?_)
 rintro e w2 ⟨r2,rfl,h2,aY⟩
 obtain⟨s2,p2,n2,c2,rfl⟩:=h2.fV
 refine dH aY ?_
 intro eU _ bb2
 have e1:=lW h1.Ks
 have e2:=lW h2.Ks
 have l1:=ff X.natAbs
 have l2:=ff Y.natAbs
 by_cases hY:Y=0
 ·have hn0:n2=0:=by rw[h2.n,hY];exact congrArg List.length bn
  refine VS.aR rfl (by rw[beq_iff_eq];omega) ?_
  refine dR ?_
  refine qZ ?_;intro wz kz bz
  exact⟨.inl ⟨hY,_,_,rfl,au.zero _ _,au.zero _ _⟩,bz⟩
 ·have hY0:Y.natAbs≠0:=by omega
  have hn0:n2≠0:=by rw[h2.n];intro e;exact hY0 (mS e)
  refine VS.aP rfl (by rw[beq_eq_false_iff_ne];omega) ?_
  refine dR ?_
  refine VO.call rfl rfl (fk Tryz.func202) (λeD eW fN=>(gg _ n1 X.natAbs eD (h1.row.gZ (dG.aw ((aF.of aY).aw eW))) (by rw[h1.n];omega)).mono ?_)
  rintro e w3 ⟨p3,c3,rfl,h3,cK⟩
  skip
  refine dH cK ?_
  intro iM _ bb3
  refine VO.call rfl rfl (fk Tryz.func202) (λiP jA jX=>(gg _ n2 Y.natAbs iP (h2.row.gZ (eW.aw ((aF.of cK).aw jA))) (by rw[h2.n];omega)).mono ?_)
  rintro e w4 ⟨p4,c4,rfl,h4,gj⟩
  skip
  refine dH gj ?_
  intro nD _ Ah
  refine VO.call rfl rfl (fk Tryz.func260) (λjj jk kD=>(wF _ _ _ _ X.natAbs Y.natAbs jj (Rd.own (ux.kp h3 (jA.aw ((aF.of gj).aw jk)))) (Rd.own (ux.kp h4 jk)) aa aa aa).mono ?_)
  rintro e w5 ⟨p5,c5,q5,d5,rfl,h5,h5',iR⟩
  skip
  refine dH iR ?_
  intro mE _ xT
  have l5:(halves (X.natAbs/Y.natAbs)).length<=(halves X.natAbs).length:=div_len
  have l5':(halves (X.natAbs%Y.natAbs)).length<=(halves X.natAbs).length:=mod_len
  refine VO.call rfl rfl (fk Tryz.func200) (λpZ oZ zd=>(ma _ _ (X.natAbs/Y.natAbs) pZ (Rd.own (ux.kp h5 oZ)) aa).mono ?_)
  rintro e w6 ⟨p6,c6,xs6,rfl,h6,hx6,hl6,og⟩
  skip
  refine dH og ?_
  intro uy _ Gw
  refine VO.cI rfl rfl (fk Tryz.func197) (λAj Ak uW=>gM (!(s1 == s2)) _ _ xs6 Aj (Rd.own (OwnU.gZ h6 Ak)) hl6 aa) (λAj Ak uW w7 s7 p7 n7 c7 h7 DK DL _ bb7=>wV rfl ?_)
  refine dR ?_
  refine VO.call rfl rfl (fk Tryz.func200) (λwa8 ka8 ba8=>(ma _ _ (X.natAbs%Y.natAbs) wa8 (Rd.own (ux.kp h5' (oZ.aw ((aF.of og).aw (Ak.aw ((aF.of DK).aw ka8)))))) aa).mono ?_)
  rintro e w8 ⟨p8,c8,xs8,rfl,h8,hx8,hl8,Ko⟩
  skip
  refine dH Ko ?_
  intro ID _ bb8
  refine VO.cI rfl rfl (fk Tryz.func197) (λwa9 ka9 ba9=>gM s1 _ _ xs8 wa9 (Rd.own (OwnU.gZ h8 ka9)) hl8 aa) (λwa9 ka9 ba9 w9 s9 p9 n9 c9 h9 AL IE _ bb9=>wV rfl ?_)
  refine dR ?_
  have z7:Sz (if (!(s1 == s2))=true then-((ag xs6:Nat):Int) else ag xs6) xs6.length:=Gy hl6 hx6
  have z9:Sz (if s1=true then-((ag xs8:Nat):Int) else ag xs8) xs8.length:=Gy hl8 hx8
  have lx6:xs6.length<=268435457:=by have:=h6.1;simp at this;omega
  have lx8:xs8.length<=268435457:=by have:=h8.1;simp at this;omega
  rw[hx6] at h7 z7
  rw[hx8] at h9 z9
  have law:=@oe X Y X.natAbs Y.natAbs
  by_cases mM:X.natAbs%Y.natAbs=0
  ·have s0:(if s1=true then-((X.natAbs%Y.natAbs:Nat):Int) else ((X.natAbs%Y.natAbs:Nat):Int))=0:=by rw[mM];cases s1 <;> rfl
   rw[s0] at h9 z9
   refine VO.cB rfl rfl (fk Tryz.func191) (λxV xW LB=>bW _ 0 _ xV ((h9.gZ xW).in z9) aa) (λxV xW LB oK mG jl _ bb10=>wV rfl ?_)
   (repeat (first|refine wN ?_|refine wP rfl ?_|refine yS rfl ?_|refine wO rfl rfl ?_))
   refine VS.Cn (lV _ _) (jx _ _) 5 rfl ?_
   (repeat' (first|refine VA.go rfl ?_|refine VA.fin rfl ?_|refine VA.dP _ rfl rfl ?_|refine VA.cons rfl ?_ ?_|exact VA.nil rfl))
   all_goals
    refine dR ?_
    refine qZ ?_;intro wz kz bz
    obtain⟨g1,g2⟩:=law e1 e2 hY0 (.inl ⟨.inr mM,rfl,rfl⟩)
    refine⟨.inr ⟨hY,_,_,rfl,au.cast ((h7.gZ (ID.aw (IE.aw (jl.aw kz)))).mono uW.size) g1.symm,au.cast ((h9.gZ (jl.aw kz)).mono ba9.size) ?_⟩,bz⟩
    rw[g2,mM]
    cases s2 <;> rfl
  ·have sy:=Gx (s:=s2) hY0
   rw[<-e2] at sy
   have sr:=Gx (s:=s1) mM
   rcases hs12:(s1,s2) with ⟨_|_,_|_⟩ <;> cases hs12
   ·replace sr:(if false=true then-((X.natAbs%Y.natAbs:Nat):Int) else ((X.natAbs%Y.natAbs:Nat):Int)).sign=1:=sr
    replace sy:Y.sign=1:=sy
    refine VO.call rfl rfl (fk Tryz.func191) (λxV xW LB=>(bW _ _ _ xV ((h9.gZ xW).in z9) aa).mono ?_)
    rintro e oK ⟨rfl,mG⟩
    rw[sr]
    refine dH mG ?_
    intro jl _ bb10
    refine VO.call rfl rfl (fk Tryz.func191) (λsO xX EU=>(bW _ _ _ sO ((h9.gZ (jl.aw xX)).in z9) aa).mono ?_)
    rintro e w11 ⟨rfl,xY⟩
    rw[sr]
    refine dH xY ?_
    intro mc _ LC
    refine VO.call rfl rfl (fk Tryz.func191) (λsP xZ EW=>(bW _ Y k sP ((h2.gZ (iM.aw (nD.aw (mE.aw (uy.aw (DL.aw (ID.aw (IE.aw (jl.aw (mc.aw xZ)))))))))).to kJ) aa).mono ?_)
    rintro e w12 ⟨rfl,ya⟩
    rw[sy]
    refine⟨_,rfl,ya,λqa _ LD=>wV rfl ?_⟩
    (repeat (first|refine wN ?_|refine wP rfl ?_|refine yS rfl ?_|refine wO rfl rfl ?_))
    refine VS.Cn (lV _ _) (jx _ _) 5 rfl ?_
    (repeat' (first|refine VA.go rfl ?_|refine VA.fin rfl ?_|refine VA.dP _ rfl rfl ?_|refine VA.cons rfl ?_ ?_|exact VA.nil rfl))
    all_goals
     refine dR ?_
     refine qZ ?_;intro wz kz bz
     obtain⟨g1,g2⟩:=law e1 e2 hY0 (.inl ⟨.inl rfl,rfl,rfl⟩)
     exact⟨.inr ⟨hY,_,_,rfl,au.cast ((h7.gZ (ID.aw (IE.aw (jl.aw (mc.aw (qa.aw kz)))))).mono uW.size) g1.symm,au.cast ((h9.gZ (jl.aw (mc.aw (qa.aw kz)))).mono ba9.size) g2.symm⟩,bz⟩
   ·replace sr:(if false=true then-((X.natAbs%Y.natAbs:Nat):Int) else ((X.natAbs%Y.natAbs:Nat):Int)).sign=1:=sr
    replace sy:Y.sign= -1:=sy
    refine VO.call rfl rfl (fk Tryz.func191) (λxV xW LB=>(bW _ _ _ xV ((h9.gZ xW).in z9) aa).mono ?_)
    rintro e oK ⟨rfl,mG⟩
    rw[sr]
    refine dH mG ?_
    intro jl _ bb10
    refine VO.call rfl rfl (fk Tryz.func191) (λsO xX EU=>(bW _ _ _ sO ((h9.gZ (jl.aw xX)).in z9) aa).mono ?_)
    rintro e w11 ⟨rfl,xY⟩
    rw[sr]
    refine dH xY ?_
    intro mc _ LC
    refine VO.call rfl rfl (fk Tryz.func191) (λsP xZ EW=>(bW _ Y k sP ((h2.gZ (iM.aw (nD.aw (mE.aw (uy.aw (DL.aw (ID.aw (IE.aw (jl.aw (mc.aw xZ)))))))))).to kJ) aa).mono ?_)
    rintro e w12 ⟨rfl,ya⟩
    rw[sy]
    refine dH ya ?_
    intro qa _ LD
    refine VO.cI rfl rfl (fk Tryz.func142) (λCL LF IG=>lX 1 CL aa aa) (λCL LF IG mH s13 p13 n13 c13 h13 hb13 CM _ bb13=>wV rfl ?_)
    refine dR ?_
    refine VO.cI rfl rfl (fk Tryz.func261) (λCN Al EX=>CF _ _ _ 1 _ 1 CN (((h7.gZ (ID.aw (IE.aw (jl.aw (mc.aw (qa.aw (CM.aw Al))))))).in z7)) ((h13.gZ Al).in (Sz.small bZ)) aa aa) (λCN Al EX w14 s14 p14 n14 c14 h14 hb14 IH _ bb14=>wV rfl ?_)
    refine dR ?_
    refine VO.cI rfl rfl (fk Tryz.func140) (λyc ye yf=>qW _ _ _ Y _ k yc ((h9.gZ (jl.aw (mc.aw (qa.aw (CM.aw (IH.aw ye)))))).in z9) ((h2.gZ (iM.aw (nD.aw (mE.aw (uy.aw (DL.aw (ID.aw (IE.aw (jl.aw (mc.aw (qa.aw (CM.aw (IH.aw ye))))))))))))).to kJ) aa aa) (λyc ye yf w15 s15 p15 n15 c15 h15 hb15 LG _ bb15=>wV rfl ?_)
    (repeat (first|refine wN ?_|refine wP rfl ?_|refine yS rfl ?_|refine wO rfl rfl ?_))
    refine VS.Cn (lV _ _) (jx _ _) 5 rfl ?_
    (repeat' (first|refine VA.go rfl ?_|refine VA.fin rfl ?_|refine VA.dP _ rfl rfl ?_|refine VA.cons rfl ?_ ?_|exact VA.nil rfl))
    all_goals
     refine dR ?_
     refine qZ ?_;intro wz kz bz
     have hlt:=Nat.mod_lt X.natAbs (show 0<Y.natAbs by omega)
     obtain⟨g1,g2⟩:=law e1 e2 hY0 (.inr ⟨by simp,mM,rfl,rfl⟩)
     refine⟨.inr ⟨hY,_,_,rfl,au.cast ((h14.gZ (LG.aw kz)).mono EX.size) ?_,au.cast ((h15.gZ kz).mono yf.size) ?_⟩,bz⟩
     ·rw[g1];simp;omega
     ·rw[g2];simp at e1 e2 ⊢;omega
   ·replace sr:(if true=true then-((X.natAbs%Y.natAbs:Nat):Int) else ((X.natAbs%Y.natAbs:Nat):Int)).sign= -1:=sr
    replace sy:Y.sign=1:=sy
    refine VO.call rfl rfl (fk Tryz.func191) (λxV xW LB=>(bW _ _ _ xV ((h9.gZ xW).in z9) aa).mono ?_)
    rintro e oK ⟨rfl,mG⟩
    rw[sr]
    refine dH mG ?_
    intro jl _ bb10
    refine VO.call rfl rfl (fk Tryz.func191) (λsO xX EU=>(bW _ _ _ sO ((h9.gZ (jl.aw xX)).in z9) aa).mono ?_)
    rintro e w11 ⟨rfl,xY⟩
    rw[sr]
    refine dH xY ?_
    intro mc _ LC
    refine VO.call rfl rfl (fk Tryz.func191) (λsP xZ EW=>(bW _ Y k sP ((h2.gZ (iM.aw (nD.aw (mE.aw (uy.aw (DL.aw (ID.aw (IE.aw (jl.aw (mc.aw xZ)))))))))).to kJ) aa).mono ?_)
    rintro e w12 ⟨rfl,ya⟩
    rw[sy]
    refine dH ya ?_
    intro qa _ LD
    refine VO.cI rfl rfl (fk Tryz.func142) (λCL LF IG=>lX 1 CL aa aa) (λCL LF IG mH s13 p13 n13 c13 h13 hb13 CM _ bb13=>wV rfl ?_)
    refine dR ?_
    refine VO.cI rfl rfl (fk Tryz.func261) (λCN Al EX=>CF _ _ _ 1 _ 1 CN (((h7.gZ (ID.aw (IE.aw (jl.aw (mc.aw (qa.aw (CM.aw Al))))))).in z7)) ((h13.gZ Al).in (Sz.small bZ)) aa aa) (λCN Al EX w14 s14 p14 n14 c14 h14 hb14 IH _ bb14=>wV rfl ?_)
    refine dR ?_
    refine VO.cI rfl rfl (fk Tryz.func140) (λyc ye yf=>qW _ _ _ Y _ k yc ((h9.gZ (jl.aw (mc.aw (qa.aw (CM.aw (IH.aw ye)))))).in z9) ((h2.gZ (iM.aw (nD.aw (mE.aw (uy.aw (DL.aw (ID.aw (IE.aw (jl.aw (mc.aw (qa.aw (CM.aw (IH.aw ye))))))))))))).to kJ) aa aa) (λyc ye yf w15 s15 p15 n15 c15 h15 hb15 LG _ bb15=>wV rfl ?_)
    (repeat (first|refine wN ?_|refine wP rfl ?_|refine yS rfl ?_|refine wO rfl rfl ?_))
    refine VS.Cn (lV _ _) (jx _ _) 5 rfl ?_
    (repeat' (first|refine VA.go rfl ?_|refine VA.fin rfl ?_|refine VA.dP _ rfl rfl ?_|refine VA.cons rfl ?_ ?_|exact VA.nil rfl))
    all_goals
     refine dR ?_
     refine qZ ?_;intro wz kz bz
     have hlt:=Nat.mod_lt X.natAbs (show 0<Y.natAbs by omega)
     obtain⟨g1,g2⟩:=law e1 e2 hY0 (.inr ⟨by simp,mM,rfl,rfl⟩)
     refine⟨.inr ⟨hY,_,_,rfl,au.cast ((h14.gZ (LG.aw kz)).mono EX.size) ?_,au.cast ((h15.gZ kz).mono yf.size) ?_⟩,bz⟩
     ·rw[g1];simp;omega
     ·rw[g2];simp at e1 e2 ⊢;omega
   ·replace sr:(if true=true then-((X.natAbs%Y.natAbs:Nat):Int) else ((X.natAbs%Y.natAbs:Nat):Int)).sign= -1:=sr
    replace sy:Y.sign= -1:=sy
    refine VO.call rfl rfl (fk Tryz.func191) (λxV xW LB=>(bW _ _ _ xV ((h9.gZ xW).in z9) aa).mono ?_)
    rintro e oK ⟨rfl,mG⟩
    rw[sr]
    refine dH mG ?_
    intro jl _ bb10
    refine VO.call rfl rfl (fk Tryz.func191) (λsO xX EU=>(bW _ _ _ sO ((h9.gZ (jl.aw xX)).in z9) aa).mono ?_)
    rintro e w11 ⟨rfl,xY⟩
    rw[sr]
    refine dH xY ?_
    intro mc _ LC
    refine VO.call rfl rfl (fk Tryz.func191) (λsP xZ EW=>(bW _ Y k sP ((h2.gZ (iM.aw (nD.aw (mE.aw (uy.aw (DL.aw (ID.aw (IE.aw (jl.aw (mc.aw xZ)))))))))).to kJ) aa).mono ?_)
    rintro e w12 ⟨rfl,ya⟩
    rw[sy]
    refine⟨_,rfl,ya,λqa _ LD=>wV rfl ?_⟩
    (repeat (first|refine wN ?_|refine wP rfl ?_|refine yS rfl ?_|refine wO rfl rfl ?_))
    refine VS.Cn (lV _ _) (jx _ _) 5 rfl ?_
    (repeat' (first|refine VA.go rfl ?_|refine VA.fin rfl ?_|refine VA.dP _ rfl rfl ?_|refine VA.cons rfl ?_ ?_|exact VA.nil rfl))
    all_goals
     refine dR ?_
     refine qZ ?_;intro wz kz bz
     obtain⟨g1,g2⟩:=law e1 e2 hY0 (.inl ⟨.inl rfl,rfl,rfl⟩)
     exact⟨.inr ⟨hY,_,_,rfl,au.cast ((h7.gZ (ID.aw (IE.aw (jl.aw (mc.aw (qa.aw kz)))))).mono uW.size) g1.symm,au.cast ((h9.gZ (jl.aw (mc.aw (qa.aw kz)))).mono ba9.size) g2.symm⟩,bz⟩
set_option maxRecDepth 4000
theorem gcd_len {a b N:Nat} (hb:b≠0) (ha:(halves a).length<=N) (hbl:(halves b).length<=N):(halves (a%b)).length<=N:=Nat.le_trans (cN aa (Nat.le_of_lt (Nat.mod_lt a (Nat.pos_of_ne_zero hb)))) hbl
theorem kH {P:Prop} (h:P:=by (repeat first|exact trivial|refine⟨aA.lit rfl,?_⟩|refine⟨aA.vals _,?_⟩)):P:=h
theorem wL (v u:Value) (X Y:Int) (j k:Nat) (w:World) (hv:bH w v X j) (hu:bH w u Y k) (hj:j<=268435456) (hk:k<=268435456):
  Calls Tryz.prog 193 #[v,u] w λe w'=>∃ r,e=.returned r/\au w' w.heap.size r (Int.gcd X Y:Int)/\ak w w':=by
 obtain⟨s,p,n,c,rfl⟩:=hv.form
 obtain⟨t,q,m,d,rfl⟩:=hu.form
 have qo:=hv.len
 have kJ:=hu.len
 have l1:=ff X.natAbs
 have l2:=ff Y.natAbs
 refine af (C:=EE Tryz.prog w _) (args:=[_,_]) Tryz.func193 rfl Tryz.ntmps193 (bP rfl) ?_
 refine dR ?_
 refine VO.call rfl rfl (fk Tryz.func196) (λbo cj bD=>(iw _ X j bo (hv.gZ cj)).mono ?_)
 rintro e w1 ⟨r1,rfl,h1,aL⟩
 obtain⟨s1,p1,n1,c1,rfl⟩:=h1.fV
 refine dH aL ?_
 intro dh _ bb1
 refine VO.call rfl rfl (fk Tryz.func202) (λeD eW fN=>(gg _ n1 X.natAbs eD (h1.row.gZ eW) (by rw[h1.n];omega)).mono ?_)
 rintro e w3 ⟨p3,c3,rfl,h3,cK⟩
 skip
 refine dH cK ?_
 intro iM _ bb3
 refine VO.call rfl rfl (fk Tryz.func196) (λcA dG cV=>(iw _ Y k cA (hu.gZ (dh.aw (iM.aw dG)))).mono ?_)
 rintro e w2 ⟨r2,rfl,h2,aY⟩
 obtain⟨s2,p2,n2,c2,rfl⟩:=h2.fV
 refine dH aY ?_
 intro eU _ bb2
 refine VO.call rfl rfl (fk Tryz.func202) (λiP jA jX=>(gg _ n2 Y.natAbs iP (h2.row.gZ jA) (by rw[h2.n];omega)).mono ?_)
 rintro e w4 ⟨p4,c4,rfl,h4,gj⟩
 skip
 refine dH gj ?_
 intro nD _ Ah
 refine VS.loop (J:=λms L M w'=>∃ (a b:Nat) (px:Option Addr) (cx:Nat) (py:Option Addr) (cy:Nat),ms=b/\Nat.gcd a b=Int.gcd X Y/\L=[(4,.box 4 0),(5,.val (.slice px (halves a).length cx)),(6,.val (.slice py (halves b).length cy))]/\M=[(4,(36,([.bool false,.slice none 0 0]:List Value).map .val))]/\
  (halves a).length<=536870912/\(halves b).length<=536870912/\w'.ownsRow w.heap.size 3 1 (.slice px (halves a).length cx) (halves a).length (ints .i64 (halves a))/\w'.ownsRow w.heap.size 3 1 (.slice py (halves b).length cy) (halves b).length (ints .i64 (halves b))) Y.natAbs
  ⟨_,_,?_,?_,?_,?_,⟨X.natAbs,Y.natAbs,p3,c3,p4,c4,rfl,rfl,rfl,rfl,by omega,by omega,ux.kp (Own.mono h3 fN.size) (eU.aw nD),Own.mono h4 jX.size⟩⟩ ?_
 ·exact ew
 ·exact ew
 ·rfl
 ·exact kH
 rintro ms L M w' ⟨a,b,px,cx,py,cy,hms,hg,rfl,rfl,la,lb,oa,ob⟩
 refine dR ?_
 by_cases mB:b=0
 ·subst mB
  have hl0:(halves 0).length=0:=by rw[jW];rfl
  refine VS.aP rfl (decide_eq_false (by rw[hl0];omega)) ?_
  refine dR ?_
  refine VO.call rfl rfl (fk Tryz.func200) (λpZ oZ zd=>(ma _ _ a pZ (Rd.own (ux.kp oa oZ)) aa).mono ?_)
  rintro e w6 ⟨p6,c6,xs6,rfl,h6,hx6,hl6,og⟩
  skip
  refine dH og ?_
  intro uy _ Gw
  refine VO.cI rfl rfl (fk Tryz.func197) (λAj Ak uW=>gM false _ _ xs6 Aj (Rd.own (OwnU.gZ h6 Ak)) hl6 aa) (λAj Ak uW w7 s7 p7 n7 c7 h7 DK DL _ bb7=>wV rfl ?_)
  refine dR ?_
  refine qZ ?_;intro wz kz bz
  refine⟨_,rfl,au.cast ((h7.gZ kz).mono uW.size) ?_,bz⟩
  rw[hx6,<-hg,Nat.gcd_zero_right];rfl
 ·have hlp:0<(halves b).length:=mj aa mB
  refine VS.aR rfl (decide_eq_true aa) ?_
  refine dR ?_
  refine VO.call rfl rfl (fk Tryz.func260) (λjj jk kD=>(wF _ _ _ _ a b jj (Rd.own (ux.kp oa jk)) (Rd.own (ux.kp ob jk)) aa aa aa).mono ?_)
  rintro e w5 ⟨p5,c5,q5,d5,rfl,h5,h5',iR⟩
  skip
  refine dH iR ?_
  intro mE _ xT
  refine VS.back (a%b) (by rw[hms];exact Nat.mod_lt _ aa) ⟨_,_,?_,?_,?_,?_,⟨b,a%b,py,cy,q5,d5,rfl,by rw[<-hg,Nat.gcd_comm a b,Nat.gcd_comm b (a%b)];exact (Nat.gcd_rec b a).symm,rfl,rfl,lb,gcd_len mB la lb,ux.kp ob mE,Own.mono h5' kD.size⟩⟩
  ·exact ew
  ·exact ew
  ·rfl
  ·exact kH
end
end Go.Proofs.YtlifeokjcgngjaaGreat
