/-BN of the proof,laid behind one another. -/
import Derived.Test.YtlifeokjcgngjaaGreatKChartBooks2
import Derived.Deep.RegionHeld3
import Derived.Deep.RegionLaw
import Derived.Deep.DeepCutAuto
import Derived.BigRegion
set_option linter.all false
set_option maxHeartbeats 64000000
namespace Go.Proofs.YtlifeokjcgngjaaGreat
section
open Go.RowKit
variable {fs:Array Field} {P:Program} {t:TypeId}
theorem bld_of {zero:Value} {places:Array (Nat×Nat)} (hz:∀ w,(zeroValue t).run P w=.ok zero w) (hu:P.underlying t=some (.struct fs))
  (hp:∀ w,(fs.mapM (λf=>do pure (f.offset,<-sizeOf f.type)):Sem (Array (Nat×Nat))).run P w=.ok places w) (ps:Array (Nat×Value)) (w:World) (cs:Array Value)
  (h:Instr.fill (places[·]?) zero.cells ps.toList=some cs):(Instr.build t ps).run P w=.ok (.agg cs) w:=by
 unfold Instr.build;simp only[Sem.run_bind,hz,Result.andThen_ok,run_underlying hu,hp];rw[h];rfl
variable {cs:Array Value} {v:Value} {w:World}
theorem fld_agg {k:Nat} {f:Field} (o n:Nat) (hu:P.underlying t=some (.struct fs)) (hf:fs[k]? =some f) (ho:f.offset=o) (hb:∀ w,(isAgg f.type).run P w=.ok true w) (hs:∀ w,(sizeOf f.type).run P w=.ok n w)
  (h:some (Value.agg (cs.extract o (o+n)))=some v):(Instr.field t (.agg cs) k).run P w=.ok v w:=by
 cases h;subst ho;unfold Instr.field;simp[run_underlying hu,hf,asAgg,part,hb,hs]
theorem fld_one {k:Nat} {f:Field} (o:Nat) (hu:P.underlying t=some (.struct fs)) (hf:fs[k]? =some f) (ho:f.offset=o) (hb:∀ w,(isAgg f.type).run P w=.ok false w)
  (h:cs[o]? =some v):(Instr.field t (.agg cs) k).run P w=.ok v w:=by
 subst ho;unfold Instr.field;simp[run_underlying hu,hf,asAgg,part,hb,h]
inductive MX (P:Program) (t:TypeId):Nat->List Field->List (Nat×Nat)->List Bool->Prop
 | nil {j:Nat}:MX P t j [] [] []
 | cons {j:Nat} {f:Field} {fs:List Field} {p:Nat×Nat} {ps:List (Nat×Nat)} {a:Bool} {gs:List Bool} (h1:∀ b o w,(Instr.fieldAt t (.pointer (some ⟨b,o,none⟩)) j).run P w=.ok (.pointer (some ⟨b,o+p.1,none⟩)) w) (h2:f.offset=p.1) (h3:∀ w,(isAgg f.type).run P w=.ok a w) (h4:a=true->∀ w,(sizeOf f.type).run P w=.ok p.2 w) (h:MX P t (j+1) fs ps gs):MX P t j (f::fs) (p::ps) (a::gs)
theorem MX.get {j:Nat} {fs:List Field} {ps:List (Nat×Nat)} {gs:List Bool} (h:MX P t j fs ps gs):∀ (k:Nat) (p:Nat×Nat),ps[k]? =some p->(∀ b o w,(Instr.fieldAt t (.pointer (some ⟨b,o,none⟩)) (j+k)).run P w=.ok (.pointer (some ⟨b,o+p.1,none⟩)) w)/\∃ f a,fs[k]? =some f/\gs[k]? =some a/\f.offset=p.1/\(∀ w,(isAgg f.type).run P w=.ok a w)/\(a=true->∀ w,(sizeOf f.type).run P w=.ok p.2 w):=by
 induction h with
 | nil=>intro k p e;simp at e
 | cons h1 h2 h3 h4 _ ih=>
   intro k p e;cases k with
   | zero=>simp at e;cases e;exact⟨h1,_,_,aa,aa,h2,h3,h4⟩
   | succ k=>
     have:=ih k p (by simpa using e);rw[show ∀ j:Nat,j+1+k=j+(k+1) from λj=>ae] at this;simpa using this
@[reducible] def tF (z:Value) (b:Bool) (e:Option (TypeId×Nat)) (k:Option IntKind) (p:Bool):TI:={ size:=1,agg:=false,zero:=z,places:=#[],MG:=#[],bool:=b,elem:=e,kind:=k,ptr:=p }
@[reducible] def tA (n:Nat) (z:Array Value) (p:Array (Nat×Nat)) (a:Array Bool):TI:={ size:=n,agg:=true,zero:=.agg z,places:=p,MG:=a,bool:=false,elem:=none,kind:=none }
theorem okF {z:Value} {b:Bool} {e:Option (TypeId×Nat)} {k:Option IntKind} {p:Bool} {d:TypeDesc} (hu:P.underlying t=some d) (hb:b=true->P.underlying t=some .bool:=by intro h;cases h;try kernel_rfl) (hs:∀ c n,e=some (c,n)->P.underlying t=some (.slice c)/\∀ w,(sizeOf c).run P w=.ok n w:=by intro c n h;cases h;try (constructor;kernel_rfl;intro w;kernel_rfl)) (hi:∀ q,k=some q->P.underlying t=some (.int q):=by intro q h;cases h;try kernel_rfl) (hp:p=true->P.underlying t=some (.pointer (P.pointee t)):=by intro h;cases h;try kernel_rfl) (hst:vL z=true->P.underlying t=some .string:=by intro h;first|(cases h;done)|kernel_rfl)
  (hr:d.isRow=false:=by rfl) (h1:(P.info? t).map (·.size)=some 1:=by kernel_rfl) (h2:z.cells.size=1:=by rfl) (h3:(P.info? t).map (·.zero)=some (some z):=by kernel_rfl) (h4:(P.info? t).map (λq=>Nat.ble q.bytes (24*1))=some true:=by kernel_rfl) (h5:∀ w,(zeroValue t).run P w=.ok z w:=by intro w;kernel_rfl):TI.Ok P t (tF z b e k p) where
 row:=⟨_,hu,hr⟩
 isBool:=hb
 isSlice:=hs
 isInt:=hi
 Lj:=hp
 isStr:=hst
 Cy:=h2
 Ga:=h3
 bytes:=h4
 pos:=aP 1
 lone:=λ_=>aa
 size:=h1
 zero:=h5
 Pl:=λk p hp b o w=>by simp at hp
 fld:=λk p hp cs w v hv=>by simp at hp
 bld:=λh=>by cases h
theorem pD {n:Nat} {z:Array Value} {p:Array (Nat×Nat)} {a:Array Bool} (hu:P.underlying t=some (.struct fs)) (hf:MX P t 0 fs.toList p.toList a.toList:=by repeat first|exact .nil|refine .cons (λb o w=>by kernel_rfl) rfl (λw=>by kernel_rfl) (by intro h;cases h;try (intro w;kernel_rfl)) ?_)
  (h1:(P.info? t).map (·.size)=some n:=by kernel_rfl) (h2:z.size=n:=by rfl) (h3:(P.info? t).map (·.zero)=some (some (.agg z)):=by kernel_rfl) (h4:(P.info? t).map (λq=>Nat.ble q.bytes (24*n))=some true:=by kernel_rfl) (h5:∀ w,(zeroValue t).run P w=.ok (.agg z) w:=by intro w;kernel_rfl) (h6:0<n:=by exact cG aa) (h7:∀ w,(fs.mapM (λf=>do pure (f.offset,<-sizeOf f.type)):Sem (Array (Nat×Nat))).run P w=.ok p w:=by intro w;kernel_rfl):TI.Ok P t (tA n z p a) where
 row:=⟨_,hu,aa⟩
 isBool:=λh=>by cases h
 isSlice:=λe n h=>by cases h
 isInt:=λk h=>by cases h
 Cy:=h2
 Ga:=h3
 bytes:=h4
 pos:=h6
 lone:=λh=>by cases h
 size:=h1
 zero:=h5
 Pl:=λk q hq b o w=>by
  have:=(hf.get k q (by simpa using hq)).1 b o w
  rwa [fe] at this
 fld:=λk q hq cs w v hv=>by
  obtain⟨_,f,x,e1,e2,e3,e4,e5⟩:=hf.get k q (by simpa using hq);rw[Array.getElem?_toList] at e1 e2;rw[e2] at hv;cases x
  ·exact fld_one q.1 hu e1 e3 e4 hv
  ·exact fld_agg q.1 q.2 hu e1 e3 e4 (e5 aa) hv
 bld:=λ_=>bld_of h5 hu h7
theorem tb {u:TypeId} {i x:TI} {r:Option TI} (hk:TI.Ok P u i) (hr:r=some x->TI.Ok P t x) (h:(bif Nat.beq t u then some i else r)=some x):TI.Ok P t x:=by
 cases hb:Nat.beq t u
 ·rw[hb] at h;exact hr h
 ·rw[hb] at h;cases h;rw[lW hb];exact hk
def ti0:TI:=tF (.int .i64 0) false none (some .i64) false
theorem ok0:TI.Ok Tryz.prog 2 ti0:=okF Tryz.underlying2
def ti1:TI:=tF (.int .i64 0) false none (some .i64) false
theorem ok1:TI.Ok Tryz.prog 3 ti1:=okF yL
def ti2:TI:=tF (.bool false) true none none false
theorem ok2:TI.Ok Tryz.prog 4 ti2:=okF Tryz.underlying4
def ti3:TI:=tF (.int .u8 0) false none (some .u8) false
theorem ok3:TI.Ok Tryz.prog 5 ti3:=okF Tryz.underlying5
def ti4:TI:=tF (.string ⟨#[]⟩) false none none false
theorem ok4:TI.Ok Tryz.prog 9 ti4:=okF ln
def ti5:TI:=tF (.int .u64 0) false none (some .u64) false
theorem ok5:TI.Ok Tryz.prog 12 ti5:=okF Tryz.underlying12
def ti6:TI:=tF (.slice none 0 0) false (some (127,8)) none false
theorem ok6:TI.Ok Tryz.prog 22 ti6:=okF Tryz.underlying22
def ti7:TI:=tF (.slice none 0 0) false (some (78,1)) none false
theorem ok7:TI.Ok Tryz.prog 23 ti7:=okF ma
def ti8:TI:=tA 2 #[.bool false,.slice none 0 0] #[(0,1),(1,1)] #[false,false]
theorem ok8:TI.Ok Tryz.prog 25 ti8:=pD Tryz.underlying25
def ti9:TI:=tA 4 #[.bool false,.slice none 0 0,.bool false,.slice none 0 0] #[(0,2),(2,2)] #[true,true]
theorem ok9:TI.Ok Tryz.prog 27 ti9:=pD Tryz.underlying27
def ti10:TI:=tF (.slice none 0 0) false (some (64,6)) none false
theorem ok10:TI.Ok Tryz.prog 28 ti10:=okF Tryz.underlying28
def ti11:TI:=tF (.slice none 0 0) false (some (9,1)) none false
theorem ok11:TI.Ok Tryz.prog 29 ti11:=okF Tryz.underlying29
def ti12:TI:=tF (.slice none 0 0) false (some (99,6)) none false
theorem ok12:TI.Ok Tryz.prog 30 ti12:=okF Tryz.underlying30
def ti13:TI:=tA 25 #[.string ⟨#[]⟩,.string ⟨#[]⟩,.slice none 0 0,.bool false,.slice none 0 0,.bool false,.slice none 0 0,.bool false,.slice none 0 0,.bool false,.slice none 0 0,.int .i64 0,.int .i64 0,.bool false,.slice none 0 0,.bool false,.slice none 0 0,.bool false,.slice none 0 0,.bool false,.slice none 0 0,.int .i64 0,.slice none 0 0,.slice none 0 0,.slice none 0 0] #[(0,1),(1,1),(2,1),(3,4),(7,4),(11,1),(12,1),(13,4),(17,4),(21,1),(22,1),(23,1),(24,1)] #[false,false,false,true,true,false,false,true,true,false,false,false,false]
theorem ok13:TI.Ok Tryz.prog 32 ti13:=pD Tryz.underlying32
def ti14:TI:=tF (.slice none 0 0) false (some (129,8)) none false
theorem ok14:TI.Ok Tryz.prog 35 ti14:=okF Tryz.underlying35
def ti15:TI:=tA 2 #[.bool false,.slice none 0 0] #[(0,1),(1,1)] #[false,false]
theorem ok15:TI.Ok Tryz.prog 36 ti15:=pD Tryz.underlying36
def ti16:TI:=tA 4 #[.bool false,.slice none 0 0,.bool false,.slice none 0 0] #[(0,2),(2,2)] #[true,true]
theorem ok16:TI.Ok Tryz.prog 38 ti16:=pD Tryz.underlying38
def ti17:TI:=tF (.slice none 0 0) false (some (67,6)) none false
theorem ok17:TI.Ok Tryz.prog 39 ti17:=okF Tryz.underlying39
def ti18:TI:=tF (.slice none 0 0) false (some (136,6)) none false
theorem ok18:TI.Ok Tryz.prog 40 ti18:=okF Tryz.underlying40
def ti19:TI:=tA 25 #[.string ⟨#[]⟩,.string ⟨#[]⟩,.slice none 0 0,.bool false,.slice none 0 0,.bool false,.slice none 0 0,.bool false,.slice none 0 0,.bool false,.slice none 0 0,.int .i64 0,.int .i64 0,.bool false,.slice none 0 0,.bool false,.slice none 0 0,.bool false,.slice none 0 0,.bool false,.slice none 0 0,.int .i64 0,.slice none 0 0,.slice none 0 0,.slice none 0 0] #[(0,1),(1,1),(2,1),(3,4),(7,4),(11,1),(12,1),(13,4),(17,4),(21,1),(22,1),(23,1),(24,1)] #[false,false,false,true,true,false,false,true,true,false,false,false,false]
theorem ok19:TI.Ok Tryz.prog 42 ti19:=pD Tryz.underlying42
def ti20:TI:=tF (.slice none 0 0) false (some (147,1)) none false
theorem ok20:TI.Ok Tryz.prog 44 ti20:=okF Tryz.underlying44
def ti21:TI:=tA 1 #[.slice none 0 0] #[(0,1)] #[false]
theorem ok21:TI.Ok Tryz.prog 46 ti21:=pD Tryz.underlying46
def ti22:TI:=tF (.int .i64 0) false none (some .i64) false
theorem ok22:TI.Ok Tryz.prog 47 ti22:=okF Tryz.underlying47
def ti23:TI:=tF (.slice none 0 0) false (some (105,1)) none false
theorem ok23:TI.Ok Tryz.prog 50 ti23:=okF Tryz.underlying50
def ti24:TI:=tA 1 #[.slice none 0 0] #[(0,1)] #[false]
theorem ok24:TI.Ok Tryz.prog 52 ti24:=pD Tryz.underlying52
def ti25:TI:=tA 6 #[.string ⟨#[]⟩,.int .u8 0,.bool false,.slice none 0 0,.bool false,.slice none 0 0] #[(0,1),(1,1),(2,4)] #[false,false,true]
theorem ok25:TI.Ok Tryz.prog 64 ti25:=pD Tryz.underlying64
def ti26:TI:=tA 6 #[.string ⟨#[]⟩,.int .u8 0,.bool false,.slice none 0 0,.bool false,.slice none 0 0] #[(0,1),(1,1),(2,4)] #[false,false,true]
theorem ok26:TI.Ok Tryz.prog 67 ti26:=pD Tryz.underlying67
def ti27:TI:=tF (.slice none 0 0) false (some (76,9)) none false
theorem ok27:TI.Ok Tryz.prog 68 ti27:=okF Tryz.underlying68
def ti28:TI:=tF (.slice none 0 0) false (some (74,9)) none false
theorem ok28:TI.Ok Tryz.prog 71 ti28:=okF Tryz.underlying71
def ti29:TI:=tA 9 #[.int .u8 0,.bool false,.slice none 0 0,.bool false,.slice none 0 0,.bool false,.slice none 0 0,.bool false,.slice none 0 0] #[(0,1),(1,4),(5,4)] #[false,true,true]
theorem ok29:TI.Ok Tryz.prog 74 ti29:=pD Tryz.underlying74
def ti30:TI:=tA 9 #[.int .u8 0,.bool false,.slice none 0 0,.bool false,.slice none 0 0,.bool false,.slice none 0 0,.bool false,.slice none 0 0] #[(0,1),(1,4),(5,4)] #[false,true,true]
theorem ok30:TI.Ok Tryz.prog 76 ti30:=pD Tryz.underlying76
def ti31:TI:=tF (.int .u32 0) false none (some .u32) false
theorem ok31:TI.Ok Tryz.prog 78 ti31:=okF Tryz.underlying78
def ti32:TI:=tF (.slice none 0 0) false (some (52,1)) none false
theorem ok32:TI.Ok Tryz.prog 80 ti32:=okF Tryz.underlying80
def ti33:TI:=tF (.slice none 0 0) false (some (46,1)) none false
theorem ok33:TI.Ok Tryz.prog 81 ti33:=okF Tryz.underlying81
def ti34:TI:=tF (.slice none 0 0) false (some (218,6)) none false
theorem ok34:TI.Ok Tryz.prog 93 ti34:=okF Tryz.underlying93
def ti35:TI:=tF (.slice none 0 0) false (some (103,6)) none false
theorem ok35:TI.Ok Tryz.prog 94 ti35:=okF Tryz.underlying94
def ti36:TI:=tF (.slice none 0 0) false (some (222,10)) none false
theorem ok36:TI.Ok Tryz.prog 95 ti36:=okF Tryz.underlying95
def ti37:TI:=tF (.slice none 0 0) false (some (226,9)) none false
theorem ok37:TI.Ok Tryz.prog 96 ti37:=okF Tryz.underlying96
def ti38:TI:=tF (.slice none 0 0) false (some (230,5)) none false
theorem ok38:TI.Ok Tryz.prog 97 ti38:=okF Tryz.underlying97
def ti39:TI:=tA 6 #[.int .i64 0,.slice none 0 0,.slice none 0 0,.slice none 0 0,.slice none 0 0,.slice none 0 0] #[(0,1),(1,1),(2,1),(3,1),(4,1),(5,1)] #[false,false,false,false,false,false]
theorem ok39:TI.Ok Tryz.prog 99 ti39:=pD Tryz.underlying99
def ti40:TI:=tA 6 #[.string ⟨#[]⟩,.string ⟨#[]⟩,.bool false,.slice none 0 0,.bool false,.slice none 0 0] #[(0,1),(1,1),(2,4)] #[false,false,true]
theorem ok40:TI.Ok Tryz.prog 103 ti40:=pD Tryz.underlying103
def ti41:TI:=tF (.slice none 0 0) false (some (27,4)) none false
theorem ok41:TI.Ok Tryz.prog 105 ti41:=okF Tryz.underlying105
def ti42:TI:=tA 16 #[.bool false,.slice none 0 0,.bool false,.slice none 0 0,.bool false,.slice none 0 0,.bool false,.slice none 0 0,.bool false,.slice none 0 0,.bool false,.slice none 0 0,.bool false,.slice none 0 0,.bool false,.slice none 0 0] #[(0,4),(4,4),(8,4),(12,4)] #[true,true,true,true]
theorem ok42:TI.Ok Tryz.prog 121 ti42:=pD Tryz.underlying121
def ti43:TI:=tA 28 #[.bool false,.slice none 0 0,.bool false,.slice none 0 0,.bool false,.slice none 0 0,.bool false,.slice none 0 0,.bool false,.slice none 0 0,.bool false,.slice none 0 0,.bool false,.slice none 0 0,.bool false,.slice none 0 0,.bool false,.slice none 0 0,.bool false,.slice none 0 0,.bool false,.slice none 0 0,.bool false,.slice none 0 0,.bool false,.slice none 0 0,.bool false,.slice none 0 0] #[(0,16),(16,4),(20,4),(24,4)] #[true,true,true,true]
theorem ok43:TI.Ok Tryz.prog 123 ti43:=pD Tryz.underlying123
def ti44:TI:=tF (.slice none 0 0) false (some (123,28)) none false
theorem ok44:TI.Ok Tryz.prog 124 ti44:=okF Tryz.underlying124
def ti45:TI:=tA 8 #[.bool false,.slice none 0 0,.bool false,.slice none 0 0,.bool false,.slice none 0 0,.bool false,.slice none 0 0] #[(0,4),(4,4)] #[true,true]
theorem ok45:TI.Ok Tryz.prog 127 ti45:=pD Tryz.underlying127
def ti46:TI:=tA 8 #[.bool false,.slice none 0 0,.bool false,.slice none 0 0,.bool false,.slice none 0 0,.bool false,.slice none 0 0] #[(0,4),(4,4)] #[true,true]
theorem ok46:TI.Ok Tryz.prog 129 ti46:=pD Tryz.underlying129
def ti47:TI:=tF (.slice none 0 0) false (some (220,6)) none false
theorem ok47:TI.Ok Tryz.prog 130 ti47:=okF Tryz.underlying130
def ti48:TI:=tF (.slice none 0 0) false (some (141,6)) none false
theorem ok48:TI.Ok Tryz.prog 131 ti48:=okF Tryz.underlying131
def ti49:TI:=tF (.slice none 0 0) false (some (224,10)) none false
theorem ok49:TI.Ok Tryz.prog 132 ti49:=okF Tryz.underlying132
def ti50:TI:=tF (.slice none 0 0) false (some (228,9)) none false
theorem ok50:TI.Ok Tryz.prog 133 ti50:=okF Tryz.underlying133
def ti51:TI:=tF (.slice none 0 0) false (some (232,5)) none false
theorem ok51:TI.Ok Tryz.prog 134 ti51:=okF Tryz.underlying134
def ti52:TI:=tA 6 #[.int .i64 0,.slice none 0 0,.slice none 0 0,.slice none 0 0,.slice none 0 0,.slice none 0 0] #[(0,1),(1,1),(2,1),(3,1),(4,1),(5,1)] #[false,false,false,false,false,false]
theorem ok52:TI.Ok Tryz.prog 136 ti52:=pD Tryz.underlying136
def ti53:TI:=tA 6 #[.string ⟨#[]⟩,.string ⟨#[]⟩,.bool false,.slice none 0 0,.bool false,.slice none 0 0] #[(0,1),(1,1),(2,4)] #[false,false,true]
theorem ok53:TI.Ok Tryz.prog 141 ti53:=pD Tryz.underlying141
def ti54:TI:=tA 2 #[.int .i64 0,.int .i64 0] #[(0,1),(1,1)] #[false,false]
theorem ok54:TI.Ok Tryz.prog 144 ti54:=pD Tryz.underlying144
def ti55:TI:=tF (.slice none 0 0) false (some (38,4)) none false
theorem ok55:TI.Ok Tryz.prog 147 ti55:=okF Tryz.underlying147
def ti56:TI:=tF (.pointer none) false none none true
theorem ok56:TI.Ok Tryz.prog 173 ti56:=okF Tryz.underlying173
def ti57:TI:=tF (.pointer none) false none none true
theorem ok57:TI.Ok Tryz.prog 176 ti57:=okF Tryz.underlying176
def ti58:TI:=tF (.pointer none) false none none true
theorem ok58:TI.Ok Tryz.prog 181 ti58:=okF Tryz.underlying181
def ti59:TI:=tF (.slice none 0 0) false (some (209,28)) none false
theorem ok59:TI.Ok Tryz.prog 192 ti59:=okF Tryz.underlying192
def ti60:TI:=tF (.slice none 0 0) false (some (124,1)) none false
theorem ok60:TI.Ok Tryz.prog 195 ti60:=okF Tryz.underlying195
def ti61:TI:=tF (.slice none 0 0) false (some (192,1)) none false
theorem ok61:TI.Ok Tryz.prog 198 ti61:=okF Tryz.underlying198
def ti62:TI:=tF (.slice none 0 0) false (some (203,9)) none false
theorem ok62:TI.Ok Tryz.prog 202 ti62:=okF Tryz.underlying202
def ti63:TI:=tA 9 #[.int .u8 0,.bool false,.slice none 0 0,.bool false,.slice none 0 0,.bool false,.slice none 0 0,.bool false,.slice none 0 0] #[(0,1),(1,4),(5,4)] #[false,true,true]
theorem ok63:TI.Ok Tryz.prog 203 ti63:=pD Tryz.underlying203
def ti64:TI:=tA 16 #[.bool false,.slice none 0 0,.bool false,.slice none 0 0,.bool false,.slice none 0 0,.bool false,.slice none 0 0,.bool false,.slice none 0 0,.bool false,.slice none 0 0,.bool false,.slice none 0 0,.bool false,.slice none 0 0] #[(0,4),(4,4),(8,4),(12,4)] #[true,true,true,true]
theorem ok64:TI.Ok Tryz.prog 207 ti64:=pD Tryz.underlying207
def ti65:TI:=tA 28 #[.bool false,.slice none 0 0,.bool false,.slice none 0 0,.bool false,.slice none 0 0,.bool false,.slice none 0 0,.bool false,.slice none 0 0,.bool false,.slice none 0 0,.bool false,.slice none 0 0,.bool false,.slice none 0 0,.bool false,.slice none 0 0,.bool false,.slice none 0 0,.bool false,.slice none 0 0,.bool false,.slice none 0 0,.bool false,.slice none 0 0,.bool false,.slice none 0 0] #[(0,16),(16,4),(20,4),(24,4)] #[true,true,true,true]
theorem ok65:TI.Ok Tryz.prog 209 ti65:=pD Tryz.underlying209
def ti66:TI:=tF (.slice none 0 0) false (some (2,1)) none false
theorem ok66:TI.Ok Tryz.prog 213 ti66:=okF Tryz.underlying213
def ti67:TI:=tF (.slice none 0 0) false (some (213,1)) none false
theorem ok67:TI.Ok Tryz.prog 214 ti67:=okF Tryz.underlying214
def ti68:TI:=tA 6 #[.string ⟨#[]⟩,.string ⟨#[]⟩,.bool false,.slice none 0 0,.bool false,.slice none 0 0] #[(0,1),(1,1),(2,4)] #[false,false,true]
theorem ok68:TI.Ok Tryz.prog 218 ti68:=pD Tryz.underlying218
def ti69:TI:=tA 6 #[.string ⟨#[]⟩,.string ⟨#[]⟩,.bool false,.slice none 0 0,.bool false,.slice none 0 0] #[(0,1),(1,1),(2,4)] #[false,false,true]
theorem ok69:TI.Ok Tryz.prog 220 ti69:=pD Tryz.underlying220
def ti70:TI:=tA 10 #[.bool false,.string ⟨#[]⟩,.int .u8 0,.string ⟨#[]⟩,.string ⟨#[]⟩,.string ⟨#[]⟩,.bool false,.slice none 0 0,.bool false,.slice none 0 0] #[(0,1),(1,1),(2,1),(3,1),(4,1),(5,1),(6,4)] #[false,false,false,false,false,false,true]
theorem ok70:TI.Ok Tryz.prog 222 ti70:=pD Tryz.underlying222
def ti71:TI:=tA 10 #[.bool false,.string ⟨#[]⟩,.int .u8 0,.string ⟨#[]⟩,.string ⟨#[]⟩,.string ⟨#[]⟩,.bool false,.slice none 0 0,.bool false,.slice none 0 0] #[(0,1),(1,1),(2,1),(3,1),(4,1),(5,1),(6,4)] #[false,false,false,false,false,false,true]
theorem ok71:TI.Ok Tryz.prog 224 ti71:=pD Tryz.underlying224
def ti72:TI:=tA 9 #[.string ⟨#[]⟩,.bool false,.slice none 0 0,.bool false,.slice none 0 0,.bool false,.slice none 0 0,.bool false,.slice none 0 0] #[(0,1),(1,4),(5,4)] #[false,true,true]
theorem ok72:TI.Ok Tryz.prog 226 ti72:=pD Tryz.underlying226
def ti73:TI:=tA 9 #[.string ⟨#[]⟩,.bool false,.slice none 0 0,.bool false,.slice none 0 0,.bool false,.slice none 0 0,.bool false,.slice none 0 0] #[(0,1),(1,4),(5,4)] #[false,true,true]
theorem ok73:TI.Ok Tryz.prog 228 ti73:=pD Tryz.underlying228
def ti74:TI:=tA 5 #[.string ⟨#[]⟩,.bool false,.slice none 0 0,.bool false,.slice none 0 0] #[(0,1),(1,4)] #[false,true]
theorem ok74:TI.Ok Tryz.prog 230 ti74:=pD Tryz.underlying230
def ti75:TI:=tA 5 #[.string ⟨#[]⟩,.bool false,.slice none 0 0,.bool false,.slice none 0 0] #[(0,1),(1,4)] #[false,true]
theorem ok75:TI.Ok Tryz.prog 232 ti75:=pD Tryz.underlying232
def ti76:TI:=tA 2 #[.bool false,.slice none 0 0] #[(0,2)] #[true]
theorem ok76:TI.Ok Tryz.prog 246 ti76:=pD Tryz.underlying246
def ti77:TI:=tF (.int .u64 0) false none (some .u64) false
theorem ok77:TI.Ok Tryz.prog 250 ti77:=okF Tryz.underlying250
def ti78:TI:=tF (.int .u64 0) false none (some .u64) false
theorem ok78:TI.Ok Tryz.prog 251 ti78:=okF Tryz.underlying251
def ti79:TI:=tF (.pointer none) false none none true
theorem ok79:TI.Ok Tryz.prog 257 ti79:=okF Tryz.underlying257
def ti80:TI:=tF (.pointer none) false none none true
theorem ok80:TI.Ok Tryz.prog 260 ti80:=okF Tryz.underlying260
def ti81:TI:=tF (.pointer none) false none none true
theorem ok81:TI.Ok Tryz.prog 263 ti81:=okF Tryz.underlying263
def ti82:TI:=tF (.pointer none) false none none true
theorem ok82:TI.Ok Tryz.prog 266 ti82:=okF Tryz.underlying266
def ti83:TI:=tF (.pointer none) false none none true
theorem ok83:TI.Ok Tryz.prog 269 ti83:=okF Tryz.underlying269
def ti84:TI:=tF (.pointer none) false none none true
theorem ok84:TI.Ok Tryz.prog 276 ti84:=okF Tryz.underlying276
def ti85:TI:=tF (.slice none 0 0) false (some (284,6)) none false
theorem ok85:TI.Ok Tryz.prog 282 ti85:=okF Tryz.underlying282
def ti86:TI:=tA 6 #[.int .i64 0,.int .i64 0,.bool false,.slice none 0 0,.bool false,.slice none 0 0] #[(0,1),(1,1),(2,4)] #[false,false,true]
theorem ok86:TI.Ok Tryz.prog 284 ti86:=pD Tryz.underlying284
def ti87:TI:=tF (.slice none 0 0) false (some (286,9)) none false
theorem ok87:TI.Ok Tryz.prog 285 ti87:=okF Tryz.underlying285
def ti88:TI:=tA 9 #[.int .u8 0,.bool false,.slice none 0 0,.bool false,.slice none 0 0,.bool false,.slice none 0 0,.bool false,.slice none 0 0] #[(0,1),(1,4),(5,4)] #[false,true,true]
theorem ok88:TI.Ok Tryz.prog 286 ti88:=pD Tryz.underlying286
def ti89:TI:=tF (.pointer none) false none none true
theorem ok89:TI.Ok Tryz.prog 289 ti89:=okF Tryz.underlying289
def ti90:TI:=tA 16 #[.bool false,.slice none 0 0,.bool false,.slice none 0 0,.bool false,.slice none 0 0,.bool false,.slice none 0 0,.bool false,.slice none 0 0,.bool false,.slice none 0 0,.bool false,.slice none 0 0,.bool false,.slice none 0 0] #[(0,16)] #[true]
theorem ok90:TI.Ok Tryz.prog 292 ti90:=pD Tryz.underlying292
def ti91:TI:=tF (.map none) false none none false
theorem ok91:TI.Ok Tryz.prog 293 ti91:=okF Tryz.underlying293
def ti92:TI:=tF (.slice none 0 0) false (some (207,16)) none false
theorem ok92:TI.Ok Tryz.prog 301 ti92:=okF Tryz.underlying301
def ti93:TI:=tF (.slice none 0 0) false (some (3,1)) none false
theorem ok93:TI.Ok Tryz.prog 315 ti93:=okF BV
def ti94:TI:=tF (.slice none 0 0) false (some (23,1)) none false
theorem ok94:TI.Ok Tryz.prog 321 ti94:=okF Tryz.underlying321
def ti95:TI:=tF (.slice none 0 0) false (some (338,6)) none false
theorem ok95:TI.Ok Tryz.prog 332 ti95:=okF Tryz.underlying332
def ti96:TI:=tA 1 #[.slice none 0 0] #[(0,1)] #[false]
theorem ok96:TI.Ok Tryz.prog 334 ti96:=pD Tryz.underlying334
def ti97:TI:=tA 1 #[.slice none 0 0] #[(0,1)] #[true]
theorem ok97:TI.Ok Tryz.prog 336 ti97:=pD Tryz.underlying336
def ti98:TI:=tA 6 #[.int .i64 0,.int .i64 0,.bool false,.slice none 0 0,.bool false,.slice none 0 0] #[(0,1),(1,1),(2,4)] #[false,false,true]
theorem ok98:TI.Ok Tryz.prog 338 ti98:=pD Tryz.underlying338
def ti99:TI:=tF (.slice none 0 0) false (some (121,16)) none false
theorem ok99:TI.Ok Tryz.prog 353 ti99:=okF Tryz.underlying353
def ti100:TI:=tF (.pointer none) false none none true
theorem ok100:TI.Ok Tryz.prog 379 ti100:=okF Tryz.underlying379
def ti101:TI:=tF (.slice none 0 0) false (some (5,1)) none false
theorem ok101:TI.Ok Tryz.prog 383 ti101:=okF Tryz.underlying383
def ti102:TI:=tA 4 #[.bool false,.slice none 0 0,.bool false,.slice none 0 0] #[(0,4)] #[true]
theorem ok102:TI.Ok Tryz.prog 388 ti102:=pD Tryz.underlying388
def ti103:TI:=tF (.pointer none) false none none true
theorem ok103:TI.Ok Tryz.prog 394 ti103:=okF Tryz.underlying394
def ti104:TI:=tF (.pointer none) false none none true
theorem ok104:TI.Ok Tryz.prog 409 ti104:=okF Tryz.underlying409
def ti105:TI:=tF (.pointer none) false none none true
theorem ok105:TI.Ok Tryz.prog 430 ti105:=okF Tryz.underlying430
def ti106:TI:=tF (.slice none 0 0) false (some (4,1)) none false
theorem ok106:TI.Ok Tryz.prog 440 ti106:=okF Tryz.underlying440
def table (t:TypeId):Option TI:=
 bif Nat.beq t 2 then some ti0 else
 bif Nat.beq t 3 then some ti1 else
 bif Nat.beq t 4 then some ti2 else
 bif Nat.beq t 5 then some ti3 else
 bif Nat.beq t 9 then some ti4 else
 bif Nat.beq t 12 then some ti5 else
 bif Nat.beq t 22 then some ti6 else
 bif Nat.beq t 23 then some ti7 else
 bif Nat.beq t 25 then some ti8 else
 bif Nat.beq t 27 then some ti9 else
 bif Nat.beq t 28 then some ti10 else
 bif Nat.beq t 29 then some ti11 else
 bif Nat.beq t 30 then some ti12 else
 bif Nat.beq t 32 then some ti13 else
 bif Nat.beq t 35 then some ti14 else
 bif Nat.beq t 36 then some ti15 else
 bif Nat.beq t 38 then some ti16 else
 bif Nat.beq t 39 then some ti17 else
 bif Nat.beq t 40 then some ti18 else
 bif Nat.beq t 42 then some ti19 else
 bif Nat.beq t 44 then some ti20 else
 bif Nat.beq t 46 then some ti21 else
 bif Nat.beq t 47 then some ti22 else
 bif Nat.beq t 50 then some ti23 else
 bif Nat.beq t 52 then some ti24 else
 bif Nat.beq t 64 then some ti25 else
 bif Nat.beq t 67 then some ti26 else
 bif Nat.beq t 68 then some ti27 else
 bif Nat.beq t 71 then some ti28 else
 bif Nat.beq t 74 then some ti29 else
 bif Nat.beq t 76 then some ti30 else
 bif Nat.beq t 78 then some ti31 else
 bif Nat.beq t 80 then some ti32 else
 bif Nat.beq t 81 then some ti33 else
 bif Nat.beq t 93 then some ti34 else
 bif Nat.beq t 94 then some ti35 else
 bif Nat.beq t 95 then some ti36 else
 bif Nat.beq t 96 then some ti37 else
 bif Nat.beq t 97 then some ti38 else
 bif Nat.beq t 99 then some ti39 else
 bif Nat.beq t 103 then some ti40 else
 bif Nat.beq t 105 then some ti41 else
 bif Nat.beq t 121 then some ti42 else
 bif Nat.beq t 123 then some ti43 else
 bif Nat.beq t 124 then some ti44 else
 bif Nat.beq t 127 then some ti45 else
 bif Nat.beq t 129 then some ti46 else
 bif Nat.beq t 130 then some ti47 else
 bif Nat.beq t 131 then some ti48 else
 bif Nat.beq t 132 then some ti49 else
 bif Nat.beq t 133 then some ti50 else
 bif Nat.beq t 134 then some ti51 else
 bif Nat.beq t 136 then some ti52 else
 bif Nat.beq t 141 then some ti53 else
 bif Nat.beq t 144 then some ti54 else
 bif Nat.beq t 147 then some ti55 else
 bif Nat.beq t 173 then some ti56 else
 bif Nat.beq t 176 then some ti57 else
 bif Nat.beq t 181 then some ti58 else
 bif Nat.beq t 192 then some ti59 else
 bif Nat.beq t 195 then some ti60 else
 bif Nat.beq t 198 then some ti61 else
 bif Nat.beq t 202 then some ti62 else
 bif Nat.beq t 203 then some ti63 else
 bif Nat.beq t 207 then some ti64 else
 bif Nat.beq t 209 then some ti65 else
 bif Nat.beq t 213 then some ti66 else
 bif Nat.beq t 214 then some ti67 else
 bif Nat.beq t 218 then some ti68 else
 bif Nat.beq t 220 then some ti69 else
 bif Nat.beq t 222 then some ti70 else
 bif Nat.beq t 224 then some ti71 else
 bif Nat.beq t 226 then some ti72 else
 bif Nat.beq t 228 then some ti73 else
 bif Nat.beq t 230 then some ti74 else
 bif Nat.beq t 232 then some ti75 else
 bif Nat.beq t 246 then some ti76 else
 bif Nat.beq t 250 then some ti77 else
 bif Nat.beq t 251 then some ti78 else
 bif Nat.beq t 257 then some ti79 else
 bif Nat.beq t 260 then some ti80 else
 bif Nat.beq t 263 then some ti81 else
 bif Nat.beq t 266 then some ti82 else
 bif Nat.beq t 269 then some ti83 else
 bif Nat.beq t 276 then some ti84 else
 bif Nat.beq t 282 then some ti85 else
 bif Nat.beq t 284 then some ti86 else
 bif Nat.beq t 285 then some ti87 else
 bif Nat.beq t 286 then some ti88 else
 bif Nat.beq t 289 then some ti89 else
 bif Nat.beq t 292 then some ti90 else
 bif Nat.beq t 293 then some ti91 else
 bif Nat.beq t 301 then some ti92 else
 bif Nat.beq t 315 then some ti93 else
 bif Nat.beq t 321 then some ti94 else
 bif Nat.beq t 332 then some ti95 else
 bif Nat.beq t 334 then some ti96 else
 bif Nat.beq t 336 then some ti97 else
 bif Nat.beq t 338 then some ti98 else
 bif Nat.beq t 353 then some ti99 else
 bif Nat.beq t 379 then some ti100 else
 bif Nat.beq t 383 then some ti101 else
 bif Nat.beq t 388 then some ti102 else
 bif Nat.beq t 394 then some ti103 else
 bif Nat.beq t 409 then some ti104 else
 bif Nat.beq t 430 then some ti105 else
 bif Nat.beq t 440 then some ti106 else none
theorem gn:∀ t i,table t=some i->TI.Ok Tryz.prog t i:=λt i=>tb ok0 (tb ok1 (tb ok2 (tb ok3 (tb ok4 (tb ok5 (tb ok6 (tb ok7 (tb ok8 (tb ok9 (tb ok10 (tb ok11 (tb ok12 (tb ok13 (tb ok14 (tb ok15 (tb ok16 (tb ok17 (tb ok18 (tb ok19 (tb ok20 (tb ok21 (tb ok22 (tb ok23 (tb ok24 (tb ok25 (tb ok26 (tb ok27 (tb ok28 (tb ok29 (tb ok30 (tb ok31 (tb ok32 (tb ok33 (tb ok34 (tb ok35 (tb ok36 (tb ok37 (tb ok38 (tb ok39 (tb ok40 (tb ok41 (tb ok42 (tb ok43 (tb ok44 (tb ok45 (tb ok46 (tb ok47 (tb ok48 (tb ok49 (tb ok50 (tb ok51 (tb ok52 (tb ok53 (tb ok54 (tb ok55 (tb ok56 (tb ok57 (tb ok58 (tb ok59 (tb ok60 (tb ok61 (tb ok62 (tb ok63 (tb ok64 (tb ok65 (tb ok66 (tb ok67 (tb ok68 (tb ok69 (tb ok70 (tb ok71 (tb ok72 (tb ok73 (tb ok74 (tb ok75 (tb ok76 (tb ok77 (tb ok78 (tb ok79 (tb ok80 (tb ok81 (tb ok82 (tb ok83 (tb ok84 (tb ok85 (tb ok86 (tb ok87 (tb ok88 (tb ok89 (tb ok90 (tb ok91 (tb ok92 (tb ok93 (tb ok94 (tb ok95 (tb ok96 (tb ok97 (tb ok98 (tb ok99 (tb ok100 (tb ok101 (tb ok102 (tb ok103 (tb ok104 (tb ok105 (tb ok106 (λh=>by cases h)))))))))))))))))))))))))))))))))))))))))))))))))))))))))))))))))))))))))))))))))))))))))))))))))))))))))))
abbrev UU:TypeId:=78
abbrev aY (P:Program) (w:World) (N:Nat):Cx:={ P:=P,w0:=w,N:=N,K:=KU UU,SU:=λt=>Nat.beq t 23,ti:=table,keep:=λ_ _=>trivial }
abbrev KI:KC:=⟨UU,λ_=>True,λt=>Nat.beq t 3⟩
abbrev Lv (P:Program) (w:World) (N:Nat):Cx:={ P:=P,w0:=w,N:=N,K:=KI,SU:=λt=>Nat.beq t 23 || Nat.beq t 315,ti:=table,keep:=λ_ _=>trivial }
theorem pX (w:World) (N:Nat):(Lv Tryz.prog w N).Ok:=gn
theorem lO (w:World) (N:Nat):(Lv Tryz.prog w N).P.follows .mixedOrders=true:=by show Tryz.prog.follows .mixedOrders=true;kernel_rfl
theorem bU (w:World) (N:Nat):(aY Tryz.prog w N).Ok:=gn
theorem GM (w:World) (N:Nat):(aY Tryz.prog w N).P.follows .mixedOrders=true:=by show Tryz.prog.follows .mixedOrders=true;kernel_rfl
section
variable {C:Cx} {m:Option (List FuncId)} {full:Array Oper} {K:Fr->Hp->World->Prop} {F F':Fr} {H H':Hp} {w w1:World} {N:Nat} {o:Oper} {r l l':List Oper} {Q:Exit->Act->World->Prop} {k k':List It} {v:AV} {u:Option (Nat×(TypeId×List AV))} {id:Nat} {ops:Array Oper}
theorem wN (h:K F H w):aE C m full [] K F H w:=VO.nil h
theorem wV (e:kW C full 80 l F H=(l',F',H')) (h:aE C m full l' K F' H' w):aE C m full l K F H w:=VO.run 80 e h
theorem wO (e:stepOf C full F H o=.eZ v u) (e':kW C full 80 r (F.bO o.dst v) (H.upd u)=(l',F',H')) (h:aE C m full l' K F' H' w):aE C m full (o::r) K F H w:=VO.op1 e (VO.run 80 e' h)
theorem xS (e:kW (aY Tryz.prog w1 N) ops 80 ops.toList F H=(l',F',H')) (h:aE (aY Tryz.prog w1 N) none ops l' (VS (aY Tryz.prog w1 N) Q k) F' H' w):VS (aY Tryz.prog w1 N) Q (.code (.region id ops false)::k) F H w:=VS.region (bU _ _) (VO.run 80 e h)
theorem cx_d (e:kW (aY Tryz.prog w1 N) ops 80 ops.toList F H=(l',F',H')) (h:aE (aY Tryz.prog w1 N) (some []) ops l' (VS (aY Tryz.prog w1 N) Q k) F' H' w) (kH:mv (aY Tryz.prog w1 N).SU [] ops=true:=by kernel_rfl):VS (aY Tryz.prog w1 N) Q (.code (.region id ops true)::k) F H w:=VS.draw (bU _ _) (GM _ _) [] kH (VO.run 80 e h)
theorem CQ (e:kW (Lv Tryz.prog w1 N) ops 80 ops.toList F H=(l',F',H')) (h:aE (Lv Tryz.prog w1 N) none ops l' (VS (Lv Tryz.prog w1 N) Q k) F' H' w):VS (Lv Tryz.prog w1 N) Q (.code (.region id ops false)::k) F H w:=VS.region (pX _ _) (VO.run 80 e h)
theorem cxI_d (e:kW (Lv Tryz.prog w1 N) ops 80 ops.toList F H=(l',F',H')) (h:aE (Lv Tryz.prog w1 N) (some []) ops l' (VS (Lv Tryz.prog w1 N) Q k) F' H' w) (kH:mv (Lv Tryz.prog w1 N).SU [] ops=true:=by kernel_rfl):VS (Lv Tryz.prog w1 N) Q (.code (.region id ops true)::k) F H w:=VS.draw (pX _ _) (lO _ _) [] kH (VO.run 80 e h)
def peel (F:Fr):List It->Option (List It)
 | .code (.seq x y)::k=>some (.code x::.code y::k)
 | .code (.block id c)::k=>some (.code c::.jd id::k)
 | .jd _::k=>some k
 | .code .skip::k=>some k
 | .code (.exit id)::k=>pop id k
 | .code (.cond c x y)::k=>(match jW F c with
   | some (.bool true)=>some (.code x::k)
   | some (.bool false)=>some (.code y::k)
   | _=>none)
 | _=>none
theorem wP (e:peel F k=some k') (h:VS C Q k' F H w):VS C Q k F H w:=by
 unfold peel at e
 split at e
 ·cases e;exact VS.seq h
 ·cases e;exact VS.block h
 ·cases e;exact VS.jd h
 ·cases e;exact VS.skip h
 ·exact VS.exit e h
 ·split at e
  ·rename_i hc;cases e;exact VS.condT hc h
  ·rename_i hc;cases e;exact VS.condF hc h
  ·cases e
 ·cases e
theorem fk {P:Program} {g:FuncId} {fn:Func} (h:P.funcs[g]? =some fn) (h1:(fn.name == "runtime.NumGoroutine")=false:=by kernel_rfl) (h2:fn.body.isNone=false:=by kernel_rfl):xQ P g:=⟨fn,h,h1,h2⟩
theorem kU (w:World):aK (KU UU) w w:=aK.refl _ _
theorem kR {k:KC} (w:World):aK k w w:=aK.refl _ _
theorem kT {k:KC} {a b c:World} (h:aK k a b) (h':aK k b c):aK k a c:=h.aG h'
end
end
section
open Go.RowKit
theorem mA (neg:Bool) (p:Option Addr) (n c:Nat) (w:World):
  Calls Tryz.prog 146 #[.bool neg,.slice p n c] w λe w'=>e=.returned (.agg #[.bool (neg && decide (0<n)),.slice p n c])/\ax w w':=by
 refine aZ λR' cj=> ?_;go_enter Tryz.func146,Tryz.ntmps146
 cases neg
 ·go_wp2
  exact bodyPost_ret (v:=.agg #[.bool false,.slice p n c]) (by simp[results,Tryz.results146,go_sem]) aa (cj.out _ _ ⟨aa,(ax.refl w).alloc _⟩)
 ·go_wp2
  exact bodyPost_ret (v:=.agg #[.bool (decide (0<n)),.slice p n c]) (by simp[results,Tryz.results146,go_sem]) aa (cj.out _ _ ⟨aa,(ax.refl w).alloc _⟩)
theorem gw (neg:Bool) (p:Option Addr) (n c:Nat) (w:World):
  Calls Tryz.prog 146 #[.bool neg,.slice p n c] w λe w'=>∃ sg,e=.returned (.agg #[.bool sg,.slice p n c])/\Hid (sg=(neg && decide (0<n)))/\ax w w':=
 (mA neg p n c w).mono λ_ _ ⟨h,hb⟩=>⟨_,h,af rfl,hb⟩
theorem tp (neg:Bool) (xs:List Nat) (v:Value) (w:World) (h:gl w v neg xs):
  Calls Tryz.prog 83 #[v] w λe w'=>e=.returned (.bool (eu neg xs))/\ax w w':=by
 obtain⟨p,c,rfl,hr,hl⟩:=h;obtain⟨p',c',hv,fV,gj,-⟩:=hr.u32;simp only[Value.slice.injEq,true_and] at hv;obtain⟨rfl,rfl⟩:=hv;refine aZ λR' cj=> ?_;by_cases hx:xs=[]
 ·subst hx;simp only[List.length_nil,sV] at*;go_enter Tryz.func83,Tryz.ntmps83
  cases neg
  ·go_wp2
   exact cj.out _ _ ⟨aa,(ax.refl w).alloc _⟩
  ·go_wp2
   exact cj.out _ _ ⟨aa,(ax.refl w).alloc _⟩
 ·obtain⟨m,hm⟩:∃ m,xs.length=m+1:=⟨xs.length-1,by have:=List.length_pos_iff.2 hx;omega⟩;generalize hn:xs.length=n at*;obtain⟨b,off,x,rfl,hb,hxm,hc⟩:=hr.cellAt (k:=m) ae;have h1:eu neg xs=decide (x≠0):=xq (by rw[hn,hm];exact hxm);rw[h1] at cj;have hz:((n:Int) == 0)=false:=by rw[lZ];omega
  have hp:(0:Int)<(n:Int):=ae;have hw:IntKind.i64.wrap ((n:Int)-1)=(m:Int):=by rw[bQ _ ae];omega
  have hlt:(m:Int)<(n:Int):=ae;have HN:=af hn;have hpn:0<n:=ae;clear hx hm hn h1 hxm hr hl;go_enter Tryz.func83,Tryz.ntmps83
  by_cases pA:x=0
  ·subst pA;cases neg
   ·go_wp2
    exact cj.out _ _ ⟨aa,(ax.refl w).alloc _⟩
   ·go_wp2
    exact cj.out _ _ ⟨aa,(ax.refl w).alloc _⟩
  ·have Jz:((x:Int) != 0)=true:=by rw[bne_iff_ne];omega
   rw[aU pA] at cj;clear pA;cases neg
   ·go_wp2
    exact cj.out _ _ ⟨aa,(ax.refl w).alloc _⟩
   ·go_wp2
    exact cj.out _ _ ⟨aa,(ax.refl w).alloc _⟩
theorem iy (v:Value) (X:Int) (k:Nat) (w0 w:World) (h:cY w0 v X k) (rS:ax w0 w):
  Calls Tryz.prog 144 #[v] w λe w'=>∃ u,e=.returned u/\cX w0 u X/\ax w w':=by
 obtain⟨neg,xs,hn,rfl,hk⟩:=h;refine aZ λR' cj=> ?_;have HN:=af hn;obtain⟨p,c,rfl,hr,hl⟩:=hn;clear hr;go_enter Tryz.func144,Tryz.ntmps144
 go_wp2_with fail
 refine (tp neg xs _ _ ((HN.out.aA rS).aA (((ax.refl w).alloc _).alloc _))).mono ?_;rintro e w1 ⟨rfl,bF⟩;obtain⟨b1,b2,nZ⟩:=nU w 25 246 #[.bool neg,.slice p xs.length c] #[.bool false,.slice none 0 0];obtain⟨c1,c2,_,_⟩:=(b1.aA bF).two;obtain⟨c3,c4,f3,f4⟩:=(b2.aA bF).two;have ye:ax w w1:=nZ.aG bF;cases hnr:eu neg xs
 ·have B2:=(b2.aA bF).cu (.bool false) (.slice none 0 0);have xp:=ye.cu (b:=w.heap.size+1) ae (.bool false) (.slice none 0 0);go_wp2
  generalize (w1.setCell ⟨w.heap.size+1,0,none⟩ (.bool false)).setCell ⟨w.heap.size+1,1,none⟩ (.slice none 0 0)=w2 at*;obtain⟨d1,d2,_,_⟩:=B2.two;refine bodyPost_ret (v:=.agg #[.bool false,.slice none 0 0]) (by simp[results,Tryz.results144,go_sem,d1,d2]) aa (cj.out _ _ ⟨_,aa,?_,xp⟩);rw[numOf,if_neg (by simp[hnr])];exact cX.zero _
 ·have B2:=(b2.aA bF).cu (.bool neg) (.slice p xs.length c);have xp:=ye.cu (b:=w.heap.size+1) ae (.bool neg) (.slice p xs.length c);go_wp2
  generalize (w1.setCell ⟨w.heap.size+1,0,none⟩ (.bool neg)).setCell ⟨w.heap.size+1,1,none⟩ (.slice p xs.length c)=w2 at*;obtain⟨d1,d2,_,_⟩:=B2.two;refine bodyPost_ret (v:=.agg #[.bool neg,.slice p xs.length c]) (by simp[results,Tryz.results144,go_sem,d1,d2]) aa (cj.out _ _ ⟨_,aa,?_,xp⟩);rw[numOf,if_pos hnr];obtain⟨h1,h2⟩:=canon hl hnr;have:=HN.out;show gl _ _ _ _;rw[<-h1,<-h2];exact this
end
section
open Go.RowKit
theorem cX.split {w:World} {v:Value} {X:Int} (h:cX w v X):∃ s p c,v=.agg #[.bool s,.slice p (limbs X.natAbs).length c]/\Rd w 1 (.slice p (limbs X.natAbs).length c) (limbs X.natAbs).length (ints .u32 (limbs X.natAbs))/\X=if s=true then-(X.natAbs:Int) else (X.natAbs:Int):=by
 obtain⟨p,c,hv,hr,_⟩:=h;refine⟨_,p,c,hv,hr,?_⟩
 split
 ·rename_i h;have:=mY h;omega
 ·rename_i h;have:¬ X<0:=λh'=>h (aU h');omega
theorem zL (v:Value) (X:Int) (w:World) (h:cX w v X):
  Calls Tryz.prog 205 #[v] w λe w'=>∃ u,e=.returned u/\cX w' u (-X)/\ax w w':=by
 obtain⟨s,p,c,rfl,hr,hX⟩:=h.split;obtain⟨n,hn⟩:∃ n,n=(limbs X.natAbs).length:=⟨_,aa⟩;have HR:=af hr;have HN:=af hn;have HX:=af hX;rw[<-hn];clear hr hn hX h;refine aZ λR' cj=> ?_;obtain⟨b1,b2,nZ⟩:=nU w 246 246 #[.bool s,.slice p n c] #[.bool false,.slice none 0 0];go_enter Tryz.func205,Tryz.ntmps205
 go_wp2_with fail
 refine (mA _ _ _ _ _).mono ?_;rintro e w1 ⟨rfl,bF⟩;obtain⟨c3,c4,f3,f4⟩:=(b2.aA bF).two;have B2:=(b2.aA bF).cu (.bool (!s && decide (0<n))) (.slice p n c);have xp:=(nZ.aG bF).cu (b:=w.heap.size+1) ae (.bool (!s && decide (0<n))) (.slice p n c);go_wp2
 generalize (w1.setCell ⟨w.heap.size+1,0,none⟩ (.bool (!s && decide (0<n)))).setCell ⟨w.heap.size+1,1,none⟩ (.slice p n c)=w2 at*;obtain⟨d1,d2,_,_⟩:=B2.two;refine bodyPost_ret (v:=.agg #[.bool (!s && decide (0<n)),.slice p n c]) (by simp[results,Tryz.results205,go_sem,d1,d2]) aa (cj.out _ _ ⟨_,aa,?_,xp⟩);have sn:=HR.out.below xp;rw[<-HN.out] at sn;refine cX.of (m:=X.natAbs) (by rw[<-HN.out];exact sn) HN.out _ ?_;rw[HX.out];cases s <;> simp
theorem GN (v u:Value) (X Y:Int) (w:World) (hv:cX w v X) (hu:cX w u Y) (hx:(limbs X.natAbs).length<=1073741824) (hy:(limbs Y.natAbs).length<=1073741824):
  Calls Tryz.prog 204 #[v,u] w λe w'=>∃ r,e=.returned r/\aJ w' w.heap.size r (X+Y)/\ax w w':=by
 obtain⟨s,p,c,rfl,yV,hX⟩:=hv.split;obtain⟨t,q,d,rfl,sn,hY⟩:=hu.split;obtain⟨n,hn⟩:∃ n,n=(limbs X.natAbs).length:=⟨_,aa⟩;obtain⟨m,hm⟩:∃ m,m=(limbs Y.natAbs).length:=⟨_,aa⟩;rw[<-hn] at yV hx ⊢;rw[<-hm] at sn hy ⊢;clear hv hu;refine aZ λR' cj=> ?_;obtain⟨b1,b2,b3,nZ⟩:=pO w 246 246 25 #[.bool s,.slice p n c] #[.bool t,.slice q m d] #[.bool false,.slice none 0 0];have r10:=af yV;have r20:=af sn;have r1:=af (yV.below nZ);have r2:=af (sn.below nZ);have HX:=af hX;have HY:=af hY;have HN:=af hn;have HM:=af hm;clear yV sn hX hY hn hm;go_enter Tryz.func204,Tryz.ntmps204
 by_cases hst:s=t
 ·subst hst;go_wp2_with fail
  generalize ((w.alloc _).alloc _).alloc _=W at*;obtain⟨c1,c2,_,_⟩:=b1.two;obtain⟨c3,c4,_,_⟩:=b2.two;obtain⟨c5,c6,f5,f6⟩:=b3.two;have HS:=af (λw' (h:aD W (w.heap.size+1+1) w')=>And.intro (h.cells b1 ae) (h.cells b2 ae))
  go_region_held3 (λw'=>(w'.cell? ⟨w.heap.size,0,none⟩=some (.bool s)/\w'.cell? ⟨w.heap.size,1,none⟩=some (.slice p n c))/\w'.cell? ⟨w.heap.size+1,0,none⟩=some (.bool s)/\w'.cell? ⟨w.heap.size+1,1,none⟩=some (.slice q m d)) ((refine HS.out _ ?_;(with_reducible (repeat (first|exact aD.refl _ _|refine aD.drew ?_|refine aD.drewN ?_ _|refine aD.alloc ?_ _|refine aD.set ?_ _|refine aD.aG ?_ (by assumption)|refine aD.qW ?_ (by first|omega|(simp;done)|(simp;omega)) _))))) (first
   | (go_at_call 268;refine (KZ _ _ n m _ _ _ r1.out.drew r2.out.drew (aC _) (aC _) ae ae).mono ?_;rintro e w1 ⟨v1,rfl,wj,bF⟩;replace bF:ax _ w1:=bF;rw[aw,aw] at wj;obtain⟨p1,k1,rfl,_,_,_⟩:=Own.form wj)
   | (go_at_call 146;refine (mA _ _ _ _ _).mono ?_;rintro e w2 ⟨rfl,cJ⟩;obtain⟨c5',c6',f5',f6'⟩:=((b3.drew.aA bF).aA cJ).two))
  have B3:=((b3.drew.aA bF).aA cJ).cu (.bool (s && decide (0<(limbs (X.natAbs+Y.natAbs)).length))) (.slice p1 (limbs (X.natAbs+Y.natAbs)).length k1);have ye:ax w w2:=nZ.aG (ax.aG (ax.aG (ax.refl W).drew bF) cJ);have Ob:=ye.cu (b:=w.heap.size+1+1) ae (.bool (s && decide (0<(limbs (X.natAbs+Y.natAbs)).length))) (.slice p1 (limbs (X.natAbs+Y.natAbs)).length k1);have JA:=Own.below wj cJ;generalize hL:(limbs (X.natAbs+Y.natAbs)).length=L at*;have OP:=af (Own.cu (b:=w.heap.size+1+1) JA (b3.drew.aA bF |>.aA cJ) cW (.bool (s && decide (0<L))) (.slice p1 L k1));clear JA wj ye;go_wp2
  generalize (w2.setCell ⟨w.heap.size+1+1,0,none⟩ (.bool (s && decide (0<L)))).setCell ⟨w.heap.size+1+1,1,none⟩ (.slice p1 L k1)=w3 at*;obtain⟨d1,d2,_,_⟩:=B3.two;refine bodyPost_ret (v:=.agg #[.bool (s && decide (0<L)),.slice p1 L k1]) (by simp[results,Tryz.results204,go_sem,d1,d2]) aa (cj.out _ _ ⟨_,aa,?_,Ob⟩);refine aJ.of (m:=X.natAbs+Y.natAbs) (by rw[hL];exact Own.mono OP.out nZ.size) hL.symm _ ?_;rw[HX.out,HY.out];cases s <;> simp <;> omega
 ·have hst':(s == t)=false:=by cases s <;> cases t <;> simp_all
  go_wp2_with fail
  generalize ((w.alloc _).alloc _).alloc _=W at*;refine (Dw _ _ n m _ _ _ r1.out r2.out (aC _) (aC _)).mono ?_;rintro e w1 ⟨rfl,k1,rfl⟩;rw[aw,aw];by_cases hlt:X.natAbs<Y.natAbs
  ·have HLT:=af hlt;have hc:im X.natAbs Y.natAbs<0:=kA.2 hlt;generalize im X.natAbs Y.natAbs=cv at hc ⊢;obtain⟨c1,c2,f1,f2⟩:=(b1.drewN k1).two;obtain⟨c3,c4,f3,f4⟩:=(b2.drewN k1).two;have B1:=((b1.drewN k1).cu (.bool t) (.slice q m d)).eF (b':=w.heap.size+1) ae (.bool s) (.slice p n c);have B2:=((b2.drewN k1).eF (b':=w.heap.size) ae (.bool t) (.slice q m d)).cu (.bool s) (.slice p n c);have B3:=((b3.drewN k1).eF (b':=w.heap.size) ae (.bool t) (.slice q m d)).eF (b':=w.heap.size+1) ae (.bool s) (.slice p n c);have iV:=((nZ.drewN k1).cu (b:=w.heap.size) ae (.bool t) (.slice q m d)).cu (b:=w.heap.size+1) ae (.bool s) (.slice p n c);clear nZ b1 b2 b3 r1 r2 hlt;go_wp2_with fail
   generalize ((((W.drewN k1).setCell ⟨w.heap.size,0,none⟩ (.bool t)).setCell ⟨w.heap.size,1,none⟩ (.slice q m d)).setCell ⟨w.heap.size+1,0,none⟩ (.bool s)).setCell ⟨w.heap.size+1,1,none⟩ (.slice p n c)=W2 at*;clear c1 c2 c3 c4 f1 f2 f3 f4;refine (DF _ _ m n _ _ _ (r20.out.below iV) (r10.out.below iV) (aC _) (aC _) ae).mono ?_;rintro e w2 ⟨⟨h,_⟩|⟨_,v2,rfl,Lw⟩,cJ⟩
   ·rw[aw,aw] at h;exact absurd h (by have:=HLT.out;omega)
   replace cJ:ax _ w2:=cJ;rw[aw,aw] at Lw;obtain⟨p2,k2,rfl,_,_,_⟩:=Own.form Lw;obtain⟨e1,e2,_,_⟩:=(B1.aA cJ).two;have E3:=B3.aA cJ;have hbw2:=iV.aG cJ;generalize hL:(limbs (Y.natAbs-X.natAbs)).length=L at*;have qw:=af (Own.mono Lw iV.size);have HL:=af hL;clear Lw hL B1 B2 B3 iV cJ;go_wp2_with fail
   refine (mA _ _ _ _ _).mono ?_;rintro e w3 ⟨rfl,ee⟩;have F3:=E3.aA ee;obtain⟨e5,e6,g5,g6⟩:=F3.two;have OP:=af (Own.cu (b:=w.heap.size+1+1) (Own.below qw.out ee) F3 cW (.bool (t && decide (0<L))) (.slice p2 L k2));have G3:=F3.cu (.bool (t && decide (0<L))) (.slice p2 L k2);have Ob:=(hbw2.aG ee).cu (b:=w.heap.size+1+1) ae (.bool (t && decide (0<L))) (.slice p2 L k2);clear qw E3 F3;go_wp2
   generalize (w3.setCell ⟨w.heap.size+1+1,0,none⟩ (.bool (t && decide (0<L)))).setCell ⟨w.heap.size+1+1,1,none⟩ (.slice p2 L k2)=w4 at*;obtain⟨d1,d2,_,_⟩:=G3.two;refine bodyPost_ret (v:=.agg #[.bool (t && decide (0<L)),.slice p2 L k2]) (by simp[results,Tryz.results204,go_sem,d1,d2]) aa (cj.out _ _ ⟨_,aa,?_,Ob⟩);refine aJ.of (m:=Y.natAbs-X.natAbs) (by rw[HL.out];exact OP.out) HL.out.symm _ ?_;rw[HX.out,HY.out];have:=HLT.out;cases s <;> cases t <;> simp at hst ⊢ <;> omega
  ·have HLT:=af hlt;have hc:0<=im X.natAbs Y.natAbs:=by have:=mt (@kA X.natAbs Y.natAbs).1 hlt;omega
   generalize im X.natAbs Y.natAbs=cv at hc ⊢;have B1:=b1.drewN k1;have B2:=b2.drewN k1;have B3:=b3.drewN k1;have iV:=nZ.drewN k1;obtain⟨c1,c2,f1,f2⟩:=B1.two;obtain⟨c3,c4,f3,f4⟩:=B2.two;clear nZ b1 b2 b3 r1 r2 hlt;go_wp2_with fail
   generalize W.drewN k1=W2 at*;clear c1 c2 c3 c4 f1 f2 f3 f4;refine (DF _ _ n m _ _ _ (r10.out.below iV) (r20.out.below iV) (aC _) (aC _) ae).mono ?_;rintro e w2 ⟨⟨h,_⟩|⟨_,v2,rfl,Lw⟩,cJ⟩
   ·rw[aw,aw] at h;exact absurd h (by have:=HLT.out;omega)
   replace cJ:ax _ w2:=cJ;rw[aw,aw] at Lw;obtain⟨p2,k2,rfl,_,_,_⟩:=Own.form Lw;obtain⟨e1,e2,_,_⟩:=(B1.aA cJ).two;have E3:=B3.aA cJ;have hbw2:=iV.aG cJ;generalize hL:(limbs (X.natAbs-Y.natAbs)).length=L at*;have qw:=af (Own.mono Lw iV.size);have HL:=af hL;clear Lw hL B1 B2 B3 iV cJ;go_wp2_with fail
   refine (mA _ _ _ _ _).mono ?_;rintro e w3 ⟨rfl,ee⟩;have F3:=E3.aA ee;obtain⟨e5,e6,g5,g6⟩:=F3.two;have OP:=af (Own.cu (b:=w.heap.size+1+1) (Own.below qw.out ee) F3 cW (.bool (s && decide (0<L))) (.slice p2 L k2));have G3:=F3.cu (.bool (s && decide (0<L))) (.slice p2 L k2);have Ob:=(hbw2.aG ee).cu (b:=w.heap.size+1+1) ae (.bool (s && decide (0<L))) (.slice p2 L k2);clear qw E3 F3;go_wp2
   generalize (w3.setCell ⟨w.heap.size+1+1,0,none⟩ (.bool (s && decide (0<L)))).setCell ⟨w.heap.size+1+1,1,none⟩ (.slice p2 L k2)=w4 at*;obtain⟨d1,d2,_,_⟩:=G3.two;refine bodyPost_ret (v:=.agg #[.bool (s && decide (0<L)),.slice p2 L k2]) (by simp[results,Tryz.results204,go_sem,d1,d2]) aa (cj.out _ _ ⟨_,aa,?_,Ob⟩);refine aJ.of (m:=X.natAbs-Y.natAbs) (by rw[HL.out];exact OP.out) HL.out.symm _ ?_;rw[HX.out,HY.out];have:=HLT.out;cases s <;> cases t <;> simp at hst ⊢ <;> omega
end
section
open Go.RowKit
theorem jf {w w':World} (h:ax w w':=by (with_reducible (repeat (first|assumption|exact ax.refl _|refine ax.drew ?_|refine ax.drewN ?_ _|refine ax.alloc ?_ _|refine ax.aG ?_ (by assumption)|refine ax.setCell ?_ (by first|omega|(simp;done)|(simp;omega)) _)))):ax w w':=h
theorem GO (v u:Value) (X Y:Int) (j k:Nat) (w:World) (hv:cY w v X j) (hu:cY w u Y k) (hj:j<=1073741824) (hk:k<=1073741824):
  Calls Tryz.prog 150 #[v,u] w λe w'=>∃ r,e=.returned r/\aJ w' w.heap.size r (X+Y)/\ax w w':=by
 obtain⟨s,p,n,c,rfl⟩:=hv.form;obtain⟨t,q,m,d,rfl⟩:=hu.form;refine aZ λR' cj=> ?_;obtain⟨b1,b2,b3,nZ⟩:=pO w 25 25 25 #[.bool s,.slice p n c] #[.bool t,.slice q m d] #[.bool false,.slice none 0 0];have vu:=hv.len;have qy:=hu.len;have HV:=af hv;have HU:=af hu;have hsz:w.heap.size+3<=(((w.alloc (.cells #[.bool s,.slice p n c] 25)).alloc (.cells #[.bool t,.slice q m d] 25)).alloc (.cells #[.bool false,.slice none 0 0] 25)).heap.size:=cf;clear hv hu;go_enter Tryz.func150,Tryz.ntmps150
 go_wp2_with fail
 generalize ((w.alloc _).alloc _).alloc _=W at*;have HS:=af (λw' (h:aD W (w.heap.size+1+1) w')=>And.intro (h.cells b1 ae) (h.cells b2 ae));obtain⟨c1,c2,_,_⟩:=b1.two;obtain⟨c3,c4,_,_⟩:=b2.two;obtain⟨c5,c6,f5,f6⟩:=b3.two
 go_region_held3 (λw'=>(w'.cell? ⟨w.heap.size,0,none⟩=some (.bool s)/\w'.cell? ⟨w.heap.size,1,none⟩=some (.slice p n c))/\w'.cell? ⟨w.heap.size+1,0,none⟩=some (.bool t)/\w'.cell? ⟨w.heap.size+1,1,none⟩=some (.slice q m d)) ((refine HS.out _ ?_;(with_reducible (repeat (first|exact aD.refl _ _|refine aD.drew ?_|refine aD.drewN ?_ _|refine aD.alloc ?_ _|refine aD.set ?_ _|refine aD.aG ?_ (by assumption)|refine aD.qW ?_ (by first|omega|(simp;done)|(simp;omega)) _))))) (first
  | (go_at_call_of 144 (Value.slice p n c);refine (iy _ X j w _ HV.out jf).mono ?_;rintro e w1 ⟨u1,rfl,EU,bF⟩)
  | (go_at_call_of 144 (Value.slice q m d);refine (iy _ Y k w _ HU.out jf).mono ?_;rintro e w2 ⟨u2,rfl,EW,cJ⟩)
  | (go_at_call 204;refine (GN _ _ X Y _ (EU.aA jf) (EW.aA jf) (aV vu hj) (aV qy hk)).mono ?_;rintro e w3 ⟨r,rfl,aN,ee⟩;obtain⟨sg,pp,nn,cc,rfl⟩:=aN.form;obtain⟨e5,e6,g5,g6⟩:=(aQ.aA (w':=w3) b3 jf).two)
  | fail)
 have FC:=(aQ.aA (w':=w3) b3 jf);have FB:ax w w3:=jf;have FZ:ax w w2:=jf;have HO:=af (aN.cu FC cW (.bool sg) (.slice pp nn cc));clear aN;have Ee:=FC.cu (.bool (sg)) (.slice pp (nn) cc);have Ef:=ax.cu FB (b:=w.heap.size+1+1) ae (.bool (sg)) (.slice pp (nn) cc);go_wp2
 generalize (w3.setCell ⟨w.heap.size+1+1,0,none⟩ (.bool (sg))).setCell ⟨w.heap.size+1+1,1,none⟩ (.slice pp (nn) cc)=wz at*;obtain⟨Eg,Eh,_,_⟩:=Ee.two;refine bodyPost_ret (v:=.agg #[.bool (sg),.slice pp (nn) cc]) (by simp[results,Tryz.results150,go_sem,Eg,Eh]) aa (cj.out _ _ ?_);exact⟨_,aa,HO.out.mono FZ.size,Ef⟩
theorem PL (v u:Value) (X Y:Int) (j k:Nat) (w:World) (hv:cY w v X j) (hu:cY w u Y k) (hj:j<=1073741824) (hk:k<=1073741824):
  Calls Tryz.prog 145 #[v,u] w λe w'=>∃ r,e=.returned r/\aJ w' w.heap.size r (X-Y)/\ax w w':=by
 obtain⟨s,p,n,c,rfl⟩:=hv.form;obtain⟨t,q,m,d,rfl⟩:=hu.form;refine aZ λR' cj=> ?_;obtain⟨b1,b2,b3,nZ⟩:=pO w 25 25 25 #[.bool s,.slice p n c] #[.bool t,.slice q m d] #[.bool false,.slice none 0 0];have vu:=hv.len;have qy:=hu.len;have HV:=af hv;have HU:=af hu;have hsz:w.heap.size+3<=(((w.alloc (.cells #[.bool s,.slice p n c] 25)).alloc (.cells #[.bool t,.slice q m d] 25)).alloc (.cells #[.bool false,.slice none 0 0] 25)).heap.size:=cf;clear hv hu;go_enter Tryz.func145,Tryz.ntmps145
 go_wp2_with fail
 generalize ((w.alloc _).alloc _).alloc _=W at*;have HS:=af (λw' (h:aD W (w.heap.size+1+1) w')=>And.intro (h.cells b1 ae) (h.cells b2 ae));obtain⟨c1,c2,_,_⟩:=b1.two;obtain⟨c3,c4,_,_⟩:=b2.two;obtain⟨c5,c6,f5,f6⟩:=b3.two
 go_region_held3 (λw'=>(w'.cell? ⟨w.heap.size,0,none⟩=some (.bool s)/\w'.cell? ⟨w.heap.size,1,none⟩=some (.slice p n c))/\w'.cell? ⟨w.heap.size+1,0,none⟩=some (.bool t)/\w'.cell? ⟨w.heap.size+1,1,none⟩=some (.slice q m d)) ((refine HS.out _ ?_;(with_reducible (repeat (first|exact aD.refl _ _|refine aD.drew ?_|refine aD.drewN ?_ _|refine aD.alloc ?_ _|refine aD.set ?_ _|refine aD.aG ?_ (by assumption)|refine aD.qW ?_ (by first|omega|(simp;done)|(simp;omega)) _))))) (first
  | (go_at_call_of 144 (Value.slice p n c);refine (iy _ X j w _ HV.out jf).mono ?_;rintro e w1 ⟨u1,rfl,EU,bF⟩)
  | (go_at_call_of 144 (Value.slice q m d);refine (iy _ Y k w _ HU.out jf).mono ?_;rintro e w2 ⟨u2,rfl,EW,cJ⟩)
  | (go_at_call 205;refine (zL _ Y _ (EW.aA jf)).mono ?_;rintro e w4 ⟨u4,rfl,hu4,jJ⟩)
  | (go_at_call 204;refine (GN _ _ X (-Y) _ (EU.aA jf) (hu4.aA jf) (aV vu hj) (by rw[Int.natAbs_neg];exact aV qy hk)).mono ?_;rintro e w3 ⟨r,rfl,aN,ee⟩;obtain⟨sg,pp,nn,cc,rfl⟩:=aN.form;obtain⟨e5,e6,g5,g6⟩:=(aQ.aA (w':=w3) b3 jf).two)
  | fail)
 rw[<-Int.sub_eq_add_neg] at aN;have FC:=(aQ.aA (w':=w3) b3 jf);have FB:ax w w3:=jf;have FZ:ax w w4:=jf;have HO:=af (aN.cu FC cW (.bool sg) (.slice pp nn cc));clear aN;have Ee:=FC.cu (.bool (sg)) (.slice pp (nn) cc);have Ef:=ax.cu FB (b:=w.heap.size+1+1) ae (.bool (sg)) (.slice pp (nn) cc);go_wp2
 generalize (w3.setCell ⟨w.heap.size+1+1,0,none⟩ (.bool (sg))).setCell ⟨w.heap.size+1+1,1,none⟩ (.slice pp (nn) cc)=wz at*;obtain⟨Eg,Eh,_,_⟩:=Ee.two;refine bodyPost_ret (v:=.agg #[.bool (sg),.slice pp (nn) cc]) (by simp[results,Tryz.results145,go_sem,Eg,Eh]) aa (cj.out _ _ ?_);exact⟨_,aa,HO.out.mono FZ.size,Ef⟩
def Lx (w W wc:World) (T:TypeId) (X Y:Int) (x y:Value):Prop:=∃ g h s1 p1 n1 k1 s2 p2 n2 k2,x=.pointer (some ⟨g,0,none⟩)/\y=.pointer (some ⟨h,0,none⟩)/\aQ wc g T #[.bool s1,.slice p1 n1 k1]/\aQ wc h T #[.bool s2,.slice p2 n2 k2]/\
 cX w (.agg #[.bool s1,.slice p1 n1 k1]) X/\cX w (.agg #[.bool s2,.slice p2 n2 k2]) Y/\ax W wc
theorem rB (v u:Value) (X Y:Int) (j k:Nat) (w:World) (hv:cY w v X j) (hu:cY w u Y k) (hj:j<=536870912) (hk:k<=536870912):
  Calls Tryz.prog 100 #[v,u] w λe w'=>∃ r,e=.returned r/\aJ w' w.heap.size r (X*Y)/\ax w w':=by
 obtain⟨s,p,n,c,rfl⟩:=hv.form;obtain⟨t,q,m,d,rfl⟩:=hu.form;refine aZ λR' cj=> ?_;obtain⟨b1,b2,b3,nZ⟩:=pO w 25 25 25 #[.bool s,.slice p n c] #[.bool t,.slice q m d] #[.bool false,.slice none 0 0];have vu:=hv.len;have qy:=hu.len;have HV:=af hv;have HU:=af hu;have hsz:w.heap.size+3<=(((w.alloc (.cells #[.bool s,.slice p n c] 25)).alloc (.cells #[.bool t,.slice q m d] 25)).alloc (.cells #[.bool false,.slice none 0 0] 25)).heap.size:=cf;clear hv hu;go_enter Ce,Tryz.ntmps100
 go_wp2_with fail
 generalize ((w.alloc _).alloc _).alloc _=W at*;have HS:=af (λw' (h:aD W (w.heap.size+1+1) w')=>And.intro (h.cells b1 ae) (h.cells b2 ae));obtain⟨c1,c2,_,_⟩:=b1.two;obtain⟨c3,c4,_,_⟩:=b2.two;obtain⟨c5,c6,f5,f6⟩:=b3.two;go_cut [5,6] (λx5 x6 wc=>Lx w W wc 246 X Y x5 x6)
 case first=>
  go_region_held3 (λw'=>(w'.cell? ⟨w.heap.size,0,none⟩=some (.bool s)/\w'.cell? ⟨w.heap.size,1,none⟩=some (.slice p n c))/\w'.cell? ⟨w.heap.size+1,0,none⟩=some (.bool t)/\w'.cell? ⟨w.heap.size+1,1,none⟩=some (.slice q m d)) ((refine HS.out _ ?_;(with_reducible (repeat (first|exact aD.refl _ _|refine aD.drew ?_|refine aD.drewN ?_ _|refine aD.alloc ?_ _|refine aD.set ?_ _|refine aD.aG ?_ (by assumption)|refine aD.qW ?_ (by first|omega|(simp;done)|(simp;omega)) _))))) (first
   | (go_at_call_of 144 (Value.slice p n c);refine (iy _ X j w _ HV.out jf).mono ?_;rintro e w1 ⟨u1,rfl,EU,bF⟩;obtain⟨s1,p1,n1,k1,rfl⟩:=EU.jv;have Oh:=bF.size;(try simp at Oh);(try (have q1:=aQ.aA (aQ.drew (aQ.new _ _ #[_,_])) bF;(try simp at q1);obtain⟨q1a,q1b,q1c,q1d⟩:=q1.two;have q1l:=q1.lt;have q1n:=nj q1l;have q1m:=nk q1l));(try (have q2:=aQ.aA (aQ.drew (aQ.alloc (aQ.new _ _ #[_,_]) _)) bF;(try simp at q2);obtain⟨q2a,q2b,q2c,q2d⟩:=q2.two;have q2l:=q2.lt;have q2n:=nj q2l;have q2m:=nk q2l)))
   | (go_at_call_of 144 (Value.slice q m d);refine (iy _ Y k w _ HU.out jf).mono ?_;rintro e w2 ⟨u2,rfl,EW,cJ⟩;obtain⟨s2,p2,n2,k2,rfl⟩:=EW.jv;have hs2:=cJ.size;(try simp at hs2);(try (have q3:=aQ.aA (aQ.new _ _ #[_,_]) cJ;(try simp at q3);obtain⟨q3a,q3b,q3c,q3d⟩:=q3.two;have q3l:=q3.lt;have q3n:=nj q3l;have q3m:=nk q3l));(try (have q4:=aQ.aA (aQ.alloc (aQ.new _ _ #[_,_]) _) cJ;(try simp at q4);obtain⟨q4a,q4b,q4c,q4d⟩:=q4.two;have q4l:=q4.lt;have q4n:=nj q4l;have q4m:=nk q4l));(try (have q5:=aQ.aA q1 cJ;(try simp at q5);obtain⟨q5a,q5b,q5c,q5d⟩:=q5.two;have q5l:=q5.lt;have q5n:=nj q5l;have q5m:=nk q5l));(try (have q6:=aQ.aA q2 cJ;(try simp at q6);obtain⟨q6a,q6b,q6c,q6d⟩:=q6.two;have q6l:=q6.lt;have q6n:=nj q6l;have q6m:=nk q6l));(try (have q7:=aQ.aA (aQ.alloc q1 _) cJ;(try simp at q7);obtain⟨q7a,q7b,q7c,q7d⟩:=q7.two;have q7l:=q7.lt;have q7n:=nj q7l;have q7m:=nk q7l)))
   | fail)
  all_goals
   go_wp2
   go_meet
   refine⟨_,_,s1,p1,n1,k1,s2,p2,n2,k2,aa,aa,?_,?_,EU,EW,?_⟩
   ·(with_reducible (repeat (first|assumption|exact aQ.newAt (by first|rfl|(simp;done)) _ _|refine aQ.alloc ?_ _|refine aQ.drew ?_|refine aQ.cu (u:=.bool false) (v:=.slice none 0 0) ?_ _ _|refine aQ.eF ?_ (by first|omega|(simp;omega)) _ _|refine aQ.aA ?_ (by assumption))))
   ·(with_reducible (repeat (first|assumption|exact aQ.newAt (by first|rfl|(simp;done)) _ _|refine aQ.alloc ?_ _|refine aQ.drew ?_|refine aQ.cu (u:=.bool false) (v:=.slice none 0 0) ?_ _ _|refine aQ.eF ?_ (by first|omega|(simp;omega)) _ _|refine aQ.aA ?_ (by assumption))))
   ·exact jf
 case rest=>
  obtain⟨g,h,s1,p1,n1,k1,s2,p2,n2,k2,rfl,rfl,B5,B6,EU,EW,EX⟩:=hcut;obtain⟨OS,yV,hX⟩:=EU.parts;obtain⟨Bj,sn,hY⟩:=EW.parts;have B3:=b3.aA EX;have lM:ax w wc:=nZ.aG EX;have HR1:=af (yV.below lM);have HR2:=af (sn.below lM);have HN1:=af OS;have HN2:=af Bj;have HX:=af hX;have HY:=af hY;have hm1:n1<=536870912:=ae;have hm2:n2<=536870912:=ae;clear c1 c2 c3 c4 c5 c6 f5 f6 b1 b2 b3 EX nZ EU EW yV sn hX hY OS Bj HS;obtain⟨c1,c2,_,_⟩:=B5.two;obtain⟨c3,c4,_,_⟩:=B6.two;obtain⟨c5,c6,f5,f6⟩:=B3.two;have hg:g≠w.heap.size+1+1:=λe=>by subst e;have:=(show wc.heap[_]? =_ from B5).symm.trans B3;simp at this
  have hh:h≠w.heap.size+1+1:=λe=>by subst e;have:=(show wc.heap[_]? =_ from B6).symm.trans B3;simp at this
  have HS:=af (λw' (hk:aD wc (w.heap.size+1+1) w')=>And.intro (hk.cells B5 hg) (hk.cells B6 hh));go_wp2_with fail
  go_region_held3 (λw'=>(w'.cell? ⟨g,0,none⟩=some (.bool s1)/\w'.cell? ⟨g,1,none⟩=some (.slice p1 n1 k1))/\w'.cell? ⟨h,0,none⟩=some (.bool s2)/\w'.cell? ⟨h,1,none⟩=some (.slice p2 n2 k2)) ((refine HS.out _ ?_;(with_reducible (repeat (first|exact aD.refl _ _|refine aD.drew ?_|refine aD.drewN ?_ _|refine aD.alloc ?_ _|refine aD.set ?_ _|refine aD.aG ?_ (by assumption)|refine aD.qW ?_ (by first|omega|(simp;done)|(simp;omega)) _))))) (first
   | (go_at_call 167;refine (OX _ _ n1 n2 _ _ _ (HR1.out.below (ax.refl wc).drew) (HR2.out.below (ax.refl wc).drew) (aC _) (aC _) hm1 hm2).mono ?_;rintro e w1 ⟨v1,rfl,wj,bF⟩;replace bF:ax _ w1:=bF;rw[aw,aw] at wj;obtain⟨q1,l1,rfl,_,_,_⟩:=Own.form wj)
   | (go_at_call 146;refine (gw _ _ _ _ _).mono ?_;rintro e w3 ⟨sg,rfl,EY,ee⟩;obtain⟨e5,e6,g5,g6⟩:=(aQ.aA (w':=w3) B3 jf).two)
   | fail)
  have FC:=(aQ.aA (w':=w3) B3 jf);have FB:ax w w3:=jf;generalize hL:(limbs (X.natAbs*Y.natAbs)).length=L at*;have HL:=af hL;have HO:=af (Own.cu (Own.below wj ee) FC cW (.bool sg) (.slice q1 L l1));clear wj hL;have Ee:=FC.cu (.bool (sg)) (.slice q1 (L) l1);have Ef:=ax.cu FB (b:=w.heap.size+1+1) ae (.bool (sg)) (.slice q1 (L) l1);go_wp2
  generalize (w3.setCell ⟨w.heap.size+1+1,0,none⟩ (.bool (sg))).setCell ⟨w.heap.size+1+1,1,none⟩ (.slice q1 (L) l1)=wz at*;obtain⟨Eg,Eh,_,_⟩:=Ee.two;refine bodyPost_ret (v:=.agg #[.bool (sg),.slice q1 (L) l1]) (by simp[results,Tryz.results100,go_sem,Eg,Eh]) aa (cj.out _ _ ?_);rw[EY.out];refine⟨_,aa,aJ.of (m:=X.natAbs*Y.natAbs) (by rw[HL.out];exact Own.mono HO.out lM.size) HL.out.symm _ ?_,Ef⟩;rw[HX.out,HY.out];cases s1 <;> cases s2 <;> simp[Int.neg_mul,Int.mul_neg]
end
section
open Go.RowKit
theorem wk (s:Bool) (p:Option Addr) (n c:Nat) (w:World):(Instr.field 246 (.agg #[.bool s,.slice p n c]) 0).run Tryz.prog w=.ok (.agg #[.bool s,.slice p n c]) w:=by kernel_rfl
theorem wm (s:Bool) (p:Option Addr) (n c:Nat) (w:World):(Instr.field 25 (.agg #[.bool s,.slice p n c]) 1).run Tryz.prog w=.ok (.slice p n c) w:=by kernel_rfl
theorem GP (v:Value) (X:Int) (j:Nat) (w:World) (hv:cY w v X j) (hj:j<=1073741824):
  Calls Tryz.prog 165 #[v] w λe w'=>∃ r,e=.returned r/\aJ w' w.heap.size r (-X)/\ax w w':=by
 obtain⟨s,p,n,c,rfl⟩:=hv.form;refine aZ λR' cj=> ?_;obtain⟨b1,b2,nZ⟩:=nU w 25 25 #[.bool s,.slice p n c] #[.bool false,.slice none 0 0];have vu:=hv.len;have HV:=af hv;have hsz:w.heap.size+2<=((w.alloc (.cells #[.bool s,.slice p n c] 25)).alloc (.cells #[.bool false,.slice none 0 0] 25)).heap.size:=cf;clear hv;go_enter Tryz.func165,Tryz.ntmps165
 go_wp2_with fail
 generalize (w.alloc _).alloc _=W at*;refine (iy _ X j w _ HV.out jf).mono ?_;rintro e w1 ⟨v1,rfl,tU,bF⟩;go_wp2_with fail
 refine (zL _ X _ (tU.aA jf)).mono ?_;rintro e w2 ⟨v2,rfl,hi2,cJ⟩;obtain⟨s2,p2,n2,k2,rfl⟩:=hi2.jv;obtain⟨Bj,sn,_⟩:=hi2.parts;have hm2:n2<=1073741824:=by rw[Bj,Int.natAbs_neg];omega
 have HN2:=af Bj;have HI2:=af hi2;have HR2:=af sn;clear hi2 Bj sn tU;go_wp2_with fail
 have B5:=aQ.new w2 246 #[.bool s2,.slice p2 n2 k2];have hbT:ax w2 (w2.alloc (.cells #[.bool s2,.slice p2 n2 k2] 246)):=(ax.refl w2).alloc _;have B2:=((b2.aA bF).aA cJ).aA hbT;have hlt:=b2.lt;have yg:=bF.size;have hbs2:=cJ.size;have hne:w2.heap.size≠w.heap.size+1:=ae;generalize w2.alloc _=T at*;have HS:=af (λw' (hk:aD T (w.heap.size+1) w')=>hk.cells B5 hne);obtain⟨c1,c2,_,_⟩:=B5.two;obtain⟨c5,c6,f5,f6⟩:=B2.two
 go_region_held3 (λw'=>w'.cell? ⟨w2.heap.size,0,none⟩=some (.bool s2)/\w'.cell? ⟨w2.heap.size,1,none⟩=some (.slice p2 n2 k2)) ((refine HS.out _ ?_;(with_reducible (repeat (first|exact aD.refl _ _|refine aD.drew ?_|refine aD.drewN ?_ _|refine aD.alloc ?_ _|refine aD.set ?_ _|refine aD.aG ?_ (by assumption)|refine aD.qW ?_ (by first|omega|(simp;done)|(simp;omega)) _))))) (first
  | (go_at_call 151;refine (ir _ n2 _ _ (Rd.below (HR2.out.below hbT) (ax.refl T).drew) hm2).mono ?_;rintro e w3 ⟨v3,rfl,JA,ee⟩;replace ee:ax _ w3:=ee;obtain⟨q3,l3,rfl,_,_,_⟩:=Own.form JA;obtain⟨e5,e6,g5,g6⟩:=(aQ.aA (w':=w3) B2 jf).two)
  | fail)
 have FC:=(aQ.aA (w':=w3) B2 jf);have FB:ax w w3:=jf;have FT:ax w T:=jf;have HO:=af (Own.cu JA FC cW (.bool s2) (.slice q3 n2 l3));clear JA;have Ee:=FC.cu (.bool (s2)) (.slice q3 (n2) l3);have Ef:=ax.cu FB (b:=w.heap.size+1) ae (.bool (s2)) (.slice q3 (n2) l3);go_wp2
 generalize (w3.setCell ⟨w.heap.size+1,0,none⟩ (.bool (s2))).setCell ⟨w.heap.size+1,1,none⟩ (.slice q3 (n2) l3)=wz at*;obtain⟨Eg,Eh,_,_⟩:=Ee.two;refine bodyPost_ret (v:=.agg #[.bool (s2),.slice q3 (n2) l3]) (by simp[results,Tryz.results165,go_sem,Eg,Eh]) aa (cj.out _ _ ?_);exact⟨_,aa,HI2.out.own (Own.mono HO.out FT.size),Ef⟩
set_option maxRecDepth 100000 in
theorem PM (v:Value) (X:Int) (j:Nat) (w:World) (hv:cY w v X j) (hj:j<=1073741824):
  Calls Tryz.prog 166 #[v] w λe w'=>∃ r,e=.returned r/\aJ w' w.heap.size r (X.natAbs:Int)/\ax w w':=by
 obtain⟨s,p,n,c,rfl⟩:=hv.form;refine aZ λR' cj=> ?_;obtain⟨b1,b2,nZ⟩:=nU w 25 25 #[.bool s,.slice p n c] #[.bool false,.slice none 0 0];have vu:=hv.len;have HV:=af hv;clear hv;go_enter Tryz.func166,Tryz.ntmps166
 go_wp2_with fail
 generalize (w.alloc _).alloc _=W at*;refine (iy _ X j w _ HV.out jf).mono ?_;rintro e w1 ⟨v1,rfl,tU,bF⟩;obtain⟨s2,p2,n2,k2,rfl⟩:=tU.jv;obtain⟨Bj,sn,_⟩:=tU.parts;have hm2:n2<=1073741824:=by rw[Bj];omega
 have HN2:=af Bj;have HR2:=af sn;have lM:ax w w1:=nZ.aG bF;have hf1:=wk s2 p2 n2 k2 w1;have hf2:=wm s2 p2 n2 k2 w1;clear Bj sn tU;go_wp2_with fail
 refine (ir _ n2 _ _ (HR2.out.below lM) hm2).mono ?_;rintro e w3 ⟨v3,rfl,JA,ee⟩;replace ee:ax _ w3:=ee;obtain⟨q3,l3,rfl,_,_,_⟩:=Own.form JA;have FC:=(aQ.aA (w':=w3) b2 jf);have FB:ax w w3:=jf;have HO:=af (Own.cu JA FC cW (.bool false) (.slice q3 n2 l3));obtain⟨e5,e6,g5,g6⟩:=FC.two;clear JA;have Ee:=FC.cu (.bool (false)) (.slice q3 (n2) l3);have Ef:=ax.cu FB (b:=w.heap.size+1) ae (.bool (false)) (.slice q3 (n2) l3);go_wp2
 generalize (w3.setCell ⟨w.heap.size+1,0,none⟩ (.bool (false))).setCell ⟨w.heap.size+1,1,none⟩ (.slice q3 (n2) l3)=wz at*;obtain⟨Eg,Eh,_,_⟩:=Ee.two;refine bodyPost_ret (v:=.agg #[.bool (false),.slice q3 (n2) l3]) (by simp[results,Tryz.results166,go_sem,Eg,Eh]) aa (cj.out _ _ ?_);exact⟨_,aa,aJ.ofNat (Own.mono HO.out lM.size) HN2.out,Ef⟩
theorem rX (v:Value) (X:Int) (j:Nat) (w:World) (hv:cY w v X j):
  Calls Tryz.prog 84 #[v] w λe w'=>e=.returned (.int .i64 X.sign)/\ax w w':=by
 obtain⟨s,p,n,c,rfl⟩:=hv.form;refine aZ λR' cj=> ?_;have HV:=af hv;have nZ:=(ax.refl w).alloc (.cells #[.bool s,.slice p n c] 25);clear hv;go_enter Tryz.func84,Tryz.ntmps84
 go_wp2_with fail
 generalize w.alloc _=W at*;refine (iy _ X j w _ HV.out jf).mono ?_;rintro e w1 ⟨v1,rfl,tU,bF⟩;obtain⟨s2,p2,n2,k2,rfl⟩:=tU.jv;obtain⟨Bj,_,hX⟩:=tU.parts;have lM:ax w w1:=nZ.aG bF;have EY:=tU.sgn;clear tU;cases s2
 ·by_cases h0:X=0
  ·subst h0;have:n2=0:=by rw[Bj];simp[cz]
   subst this;clear Bj hX EY;go_wp2
   exact cj.out _ _ ⟨aa,lM.alloc _⟩
  ·have hp:0<n2:=by rw[Bj];exact dY ae
   have hs:X.sign=1:=fD (by simp at hX;omega);rw[hs] at cj;clear Bj hX EY;have hpi:(0:Int)<(n2:Int):=ae;go_wp2
   exact cj.out _ _ ⟨aa,lM.alloc _⟩
 ·have hs:X.sign= -1:=sign_neg (mY EY.symm);rw[hs] at cj;clear Bj hX EY;go_wp2
  exact cj.out _ _ ⟨aa,lM.alloc _⟩
theorem rC (v u:Value) (X Y:Int) (j k:Nat) (w:World) (hv:cY w v X j) (hu:cY w u Y k) (hj:j<=1073741824) (hk:k<=1073741824):
  Calls Tryz.prog 85 #[v,u] w λe w'=>e=.returned (.int .i64 (X-Y).sign)/\ax w w':=by
 obtain⟨s,p,n,c,rfl⟩:=hv.form;obtain⟨t,q,m,d,rfl⟩:=hu.form;refine aZ λR' cj=> ?_;obtain⟨b1,b2,nZ⟩:=nU w 25 25 #[.bool s,.slice p n c] #[.bool t,.slice q m d];have HV:=af (hv.aA nZ);have HU:=af (hu.aA nZ);clear hv hu;go_enter Ch,Tryz.ntmps85
 go_wp2_with fail
 generalize (w.alloc _).alloc _=W at*;refine (PL _ _ X Y j k _ HV.out HU.out hj hk).mono ?_;rintro e w1 ⟨r,rfl,ho,bF⟩;go_wp2_with fail
 refine (rX _ (X-Y) _ _ (ho.rd.to (aP _))).mono ?_;rintro e w2 ⟨rfl,cJ⟩;go_wp2
 exact cj.out _ _ ⟨aa,(nZ.aG bF).aG cJ⟩
theorem u64neg {n:Int} (h0:n<0) (h1: -9223372036854775808<=n):IntKind.u64.wrap (-(IntKind.u64.wrap n))=(n.natAbs:Int):=by
 rw[uy,uy];omega
theorem u64pos {n:Int} (h0:0<=n) (h1:n<=9223372036854775807):IntKind.u64.wrap n=(n.natAbs:Int):=by
 rw[uy];omega
theorem xz {a:Nat}:ar [a%4294967296,a/4294967296]=a:=by
 rw[gr,gr,ff];omega
set_option maxRecDepth 100000 in
theorem Ly (n:Int) (w:World) (h0: -9223372036854775808<=n) (h1:n<=9223372036854775807):
  Calls Tryz.prog 88 #[.int .i64 n] w λe w'=>∃ r,e=.returned r/\aJ w' w.heap.size r n/\ax w w':=by
 refine aZ λR' cj=> ?_;obtain⟨a,ha⟩:∃ a,a=n.natAbs:=⟨_,aa⟩;have HA:=af ha;have ha2:a<18446744073709551616:=ae;have pJ:=aQ.new w 25 #[.bool false,.slice none 0 0];have nZ:=(ax.refl w).alloc (.cells #[.bool false,.slice none 0 0] 25);have hRl:=Rd.lit2 (w:=w.alloc (.cells #[.bool false,.slice none 0 0] 25)) (k:=.u32) (e:=78) (x:=(a:Int)%4294967296) (y:=(a:Int)/4294967296) (a:=a%4294967296) (b:=a/4294967296) ae ae;rw[World.size_alloc] at hRl;go_enter Tryz.func88,Tryz.ntmps88
 by_cases hn:n<0
 ·have e1:=u64neg hn h0;rw[<-ha] at e1;have HN:=af hn;clear ha;go_wp2_with fail
  refine (kB _ 2 [a%4294967296,a/4294967296] _ hRl (da.cons ae (da.cons ae da.nil)) ae).mono ?_;rintro e w1 ⟨v1,rfl,wj,bF⟩;replace bF:ax _ w1:=bF;rw[xz] at wj;obtain⟨p1,k1,rfl,_,_,_⟩:=Own.form wj;generalize hL:(limbs a).length=L at*;have HL:=af hL;have FC1:=(pJ.alloc (.cells #[.int .u32 ((a:Int)%4294967296),.int .u32 ((a:Int)/4294967296)] 78)).aA bF;have FB1:ax w w1:=(((ax.refl w).alloc _).alloc _).aG bF;have tR:=af wj;clear wj hL bF;go_wp2_with fail
  refine (gw _ _ _ _ _).mono ?_;rintro e w3 ⟨sg,rfl,EY,ee⟩;have FC:=FC1.aA ee;have FB:=FB1.aG ee;obtain⟨e5,e6,g5,g6⟩:=FC.two;have HO:=af (Own.cu (Own.below tR.out ee) FC cW (.bool sg) (.slice p1 L k1));clear tR FC1;have Ee:=FC.cu (.bool (sg)) (.slice p1 (L) k1);have Ef:=ax.cu FB (b:=w.heap.size) ae (.bool (sg)) (.slice p1 (L) k1);go_wp2
  generalize (w3.setCell ⟨w.heap.size,0,none⟩ (.bool (sg))).setCell ⟨w.heap.size,1,none⟩ (.slice p1 (L) k1)=wz at*;obtain⟨Eg,Eh,_,_⟩:=Ee.two;refine bodyPost_ret (v:=.agg #[.bool (sg),.slice p1 (L) k1]) (by simp[results,Tryz.results88,go_sem,Eg,Eh]) aa (cj.out _ _ ?_);rw[EY.out];refine⟨_,aa,aJ.of (m:=a) (by rw[HL.out];exact Own.mono HO.out (by simp;omega)) HL.out.symm _ ?_,Ef⟩;have:=HN.out;have:=HA.out;simp;omega
 ·have e1:=u64pos (by omega:0<=n) h1;rw[<-ha] at e1;have HN:=af hn;clear ha;go_wp2_with fail
  refine (kB _ 2 [a%4294967296,a/4294967296] _ hRl (da.cons ae (da.cons ae da.nil)) ae).mono ?_;rintro e w1 ⟨v1,rfl,wj,bF⟩;replace bF:ax _ w1:=bF;rw[xz] at wj;obtain⟨p1,k1,rfl,_,_,_⟩:=Own.form wj;generalize hL:(limbs a).length=L at*;have HL:=af hL;have FC1:=(pJ.alloc (.cells #[.int .u32 ((a:Int)%4294967296),.int .u32 ((a:Int)/4294967296)] 78)).aA bF;have FB1:ax w w1:=(((ax.refl w).alloc _).alloc _).aG bF;have tR:=af wj;clear wj hL bF;go_wp2_with fail
  refine (gw _ _ _ _ _).mono ?_;rintro e w3 ⟨sg,rfl,EY,ee⟩;have FC:=FC1.aA ee;have FB:=FB1.aG ee;obtain⟨e5,e6,g5,g6⟩:=FC.two;have HO:=af (Own.cu (Own.below tR.out ee) FC cW (.bool sg) (.slice p1 L k1));clear tR FC1;have Ee:=FC.cu (.bool (sg)) (.slice p1 (L) k1);have Ef:=ax.cu FB (b:=w.heap.size) ae (.bool (sg)) (.slice p1 (L) k1);go_wp2
  generalize (w3.setCell ⟨w.heap.size,0,none⟩ (.bool (sg))).setCell ⟨w.heap.size,1,none⟩ (.slice p1 (L) k1)=wz at*;obtain⟨Eg,Eh,_,_⟩:=Ee.two;refine bodyPost_ret (v:=.agg #[.bool (sg),.slice p1 (L) k1]) (by simp[results,Tryz.results88,go_sem,Eg,Eh]) aa (cj.out _ _ ?_);rw[EY.out];refine⟨_,aa,aJ.of (m:=a) (by rw[HL.out];exact Own.mono HO.out (by simp;omega)) HL.out.symm _ ?_,Ef⟩;have:=HN.out;have:=HA.out;simp;omega
end
section
open Go.RowKit
def tq (rows:List (List Nat)):Nat:=rows.foldl (λa r=>Nat.gcd a (ar r)) 0
theorem MY (rows:List (List Nat)) (r:List Nat):tq (rows++[r])=Nat.gcd (tq rows) (ar r):=by simp[tq,List.foldl_append]
theorem PN {x y:Nat}:Nat.gcd y (x%y)=Nat.gcd x y:=by rw[Nat.gcd_comm,<-Nat.gcd_rec,Nat.gcd_comm]
def GcdOut (w:World) (B:Nat) (rows:List (List Nat)) (g:Nat) (av iv:Value) (wr:World):Prop:=
 ∃ k,k<=rows.length/\g=rows.length-k/\iv=.int .i64 (k:Int)/\wr.ownsRow B 78 1 av (limbs (tq (rows.take k))).length (ints .u32 (limbs (tq (rows.take k))))/\(limbs (tq (rows.take k))).length<=536870912/\Below B w wr
def GcdIn (w:World) (B G:Nat) (g:Nat) (av bv:Value) (wr:World):Prop:=
 ∃ x,Nat.gcd x g=G/\wr.ownsRow B 78 1 av (limbs x).length (ints .u32 (limbs x))/\wr.ownsRow B 78 1 bv (limbs g).length (ints .u32 (limbs g))/\(limbs x).length<=536870912/\(limbs g).length<=536870912/\Below B w wr
set_option maxRecDepth 100000 in
theorem PO (va:Value) (rows:List (List Nat)) (w:World) (hr:ju w va rows) (hx:∀ xs∈rows,da xs/\xs.length<=536870912) (hn:rows.length<=1048576):
  Calls Tryz.prog 147 #[va] w λe w'=>∃ v',e=.returned v'/\w'.ownsRow w.heap.size 78 1 v' (limbs (tq rows)).length (ints .u32 (limbs (tq rows)))/\Below w.heap.size w w':=by
 obtain⟨p,c,rfl,fV,gj⟩:=hr.form;have Hr:=af hr;have HL:=af hx;obtain⟨B,hB⟩:∃ B,B=w.heap.size:=⟨_,aa⟩;have HB:=af hB;obtain⟨N,hN⟩:∃ N,N=rows.length:=⟨_,aa⟩;rw[<-hN] at fV hn ⊢;have HN:=af hN;rw[<-hB];clear hx hr hB hN;refine aZ λR' cj=> ?_;go_enter Tryz.func147,Tryz.ntmps147
 go_wp2
 go_loopg [3,11] N (λg av iv wr=>GcdOut w B rows g av iv wr)
 case atStart=>exact⟨0,fQ _,by rw[HN.out];rfl,rfl,by simp[tq,cz];exact mc _ _ _ _,by simp[tq,cz],fB _ _⟩
 case round=>
  obtain⟨k,hk,hgk,rfl,aN,hlen,hb⟩:=hrel;have HO:=af aN;have iV:=af hb;have HGK:=af hgk;have HLEN:=af hlen;rw[<-HN.out] at hk;clear aN hb hgk hlen;by_cases hkn:k<N
  ·obtain⟨b1,o1,u,xs,rfl,iI,qz,Mt⟩:=((Hr.out.below (by have:=iV.out;rwa [HB.out] at this)).at (k:=k) (by rw[<-HN.out];exact hkn));have yi:=af iI;have HRU:=af Mt;clear iI Mt;have yg:B<=wr.heap.size:=by have:=iV.out.size;have:=HB.out;omega
   obtain⟨yk,tj⟩:=HL.out xs (dc yi.out);obtain⟨a,ha⟩:∃ a,a=tq (rows.take k):=⟨_,aa⟩;obtain⟨y,hy⟩:∃ y,y=ar xs:=⟨_,aa⟩;have iU:(limbs y).length<=536870912:=by rw[hy];exact aV (jt yk) tj
   have HL1:=af yk;have HL2:=af tj;have HYL:=af iU;have HG:Hid (Nat.gcd a y=tq (rows.take (k+1))):=by show _=_;rw[bW yi.out,MY,ha,hy]
   have HA:=af ha;have HY:=af hy;clear ha hy yk tj iU;go_wp2_with fail
   refine (kB _ _ xs _ HRU.out HL1.out (by have:=HL2.out;omega)).mono ?_;rintro e w2 ⟨v',rfl,mi,cJ⟩;rw[<-HY.out] at mi;have wj:=Own.below HO.out cJ;rw[<-HA.out] at wj;have tR:=af wj;clear wj;have qw:=af (Own.mono mi yg);have xp:=af (iV.out.trans (cJ.mono yg));clear mi cJ qz;go_wp2_with fail
   go_loopg [3,5] y (λg av bv wr=>GcdIn w B (Nat.gcd a y) g av bv wr)
   case atStart=>exact⟨a,aa,tR.out,qw.out,by rw[HA.out];exact HLEN.out,HYL.out,xp.out⟩
   case round=>
    obtain⟨x,Dx,hox,hoy,vu,qy,lM⟩:=hrel;have HXY:=af Dx;have HOX:=af hox;have HOY:=af hoy;have HLX:=af vu;have HLY:=af qy;have HBX:=af lM;obtain⟨py,cy,rfl,_,_,_⟩:=Own.form hoy;clear Dx hox hoy vu qy lM;by_cases PQ:gk=0
    ·subst PQ;have hl0:(limbs 0).length=0:=by rw[cz];rfl
     rw[hl0];have hxg:x=tq (rows.take (k+1)):=by rw[<-HG.out,<-HXY.out,Nat.gcd_zero_right]
     have HXG:=af hxg;clear hxg hl0;go_wp2_with fail
     go_roundg (N-(k+1))
     case measure=>have:=HGK.out;have:=HN.out;omega
     case rel=>exact⟨k+1,by rw[<-HN.out];omega,by rw[HN.out],by go_num,by rw[<-HXG.out];exact HOX.out,by rw[<-HXG.out];exact HLX.out,HBX.out⟩
    ·have hp:(0:Int)<((limbs gk).length:Int):=by have:=dY PQ;omega
     have HG0:=af PQ;obtain⟨L,hL⟩:∃ L,L=(limbs gk).length:=⟨_,aa⟩;rw[<-hL] at hp ⊢;have HL:=af hL;have IC:B<=wr.heap.size:=by have:=HBX.out.size;have:=HB.out;omega
     clear PQ hL;go_wp2_with fail
     refine (xo _ _ _ _ _ _ _ (Rd.own HOX.out) (by rw[HL.out];exact Rd.own HOY.out) (aC _) (aC _) HLX.out HLY.out).mono ?_;rintro e w3 ⟨⟨h,rfl⟩|⟨h,vq,vr,rfl,FV,xO⟩,ee⟩
     ·exact absurd (by rw[aw] at h;exact h) HG0.out
     rw[aw,aw] at xO;have hlt:x%gk<gk:=eR _ (Nat.pos_iff_ne_zero.2 HG0.out);have HLT:=af hlt;have HOR:=af (Own.mono xO IC);have HOG:=af (Own.below HOY.out ee);have Ob:=af (HBX.out.trans (ee.mono IC));clear FV xO ee h hlt;go_wp2_with fail
     go_roundg (x%gk)
     case measure=>exact HLT.out
     case rel=>exact⟨gk,by rw[PN];exact HXY.out,by rw[HL.out];exact HOG.out,HOR.out,HLY.out,aV (dt (Nat.le_of_lt HLT.out)) HLY.out,Ob.out⟩
  ·obtain rfl:k=N:=by omega
   go_wp2_with fail
   refine (ir _ _ _ _ (Rd.own HO.out) (by have:=HLEN.out;omega)).mono ?_;rintro e w2 ⟨v',rfl,mi,cJ⟩;have yg:B<=wr.heap.size:=by have:=iV.out.size;have:=HB.out;omega
   go_wp2_with fail
   refine cj.out _ _ ⟨_,aa,?_,iV.out.trans (cJ.mono yg)⟩;have:=Own.mono mi yg
   rwa [cO (by rw[HN.out];exact aP _)] at this
end
section
open Go.RowKit
theorem PR (x y:Nat):tq [limbs x,limbs y]=Nat.gcd x y:=by simp[tq,aw]
set_option maxRecDepth 100000 in
theorem GQ (v u:Value) (X Y:Int) (j k:Nat) (w:World) (hv:cY w v X j) (hu:cY w u Y k) (hj:j<=536870912) (hk:k<=536870912):
  Calls Tryz.prog 86 #[v,u] w λe w'=>∃ r,e=.returned r/\aJ w' w.heap.size r (Int.gcd X Y:Int)/\ax w w':=by
 obtain⟨s,p,n,c,rfl⟩:=hv.form;obtain⟨t,q,m,d,rfl⟩:=hu.form;refine aZ λR' cj=> ?_;obtain⟨b1,b2,b3,nZ⟩:=pO w 25 25 25 #[.bool s,.slice p n c] #[.bool t,.slice q m d] #[.bool false,.slice none 0 0];have vu:=hv.len;have qy:=hu.len;have HJ:=af (aV vu hj);have HK:=af (aV qy hk);have HV:=af hv;have HU:=af hu;have hsz:w.heap.size+3<=(((w.alloc (.cells #[.bool s,.slice p n c] 25)).alloc (.cells #[.bool t,.slice q m d] 25)).alloc (.cells #[.bool false,.slice none 0 0] 25)).heap.size:=cf;clear hv hu hj hk vu qy;go_enter Tryz.func86,Tryz.ntmps86
 go_wp2_with fail
 generalize ((w.alloc _).alloc _).alloc _=W at*;have HS:=af (λw' (h:aD W (w.heap.size+1+1) w')=>And.intro (h.cells b1 ae) (h.cells b2 ae));obtain⟨c1,c2,_,_⟩:=b1.two;obtain⟨c3,c4,_,_⟩:=b2.two;obtain⟨c5,c6,f5,f6⟩:=b3.two
 go_region_held3 (λw'=>(w'.cell? ⟨w.heap.size,0,none⟩=some (.bool s)/\w'.cell? ⟨w.heap.size,1,none⟩=some (.slice p n c))/\w'.cell? ⟨w.heap.size+1,0,none⟩=some (.bool t)/\w'.cell? ⟨w.heap.size+1,1,none⟩=some (.slice q m d)) ((refine HS.out _ ?_;(with_reducible (repeat (first|exact aD.refl _ _|refine aD.drew ?_|refine aD.drewN ?_ _|refine aD.alloc ?_ _|refine aD.set ?_ _|refine aD.aG ?_ (by assumption)|refine aD.qW ?_ (by first|omega|(simp;done)|(simp;omega)) _))))) (first
  | (go_at_call_of 144 (Value.slice p n c);refine (iy _ X j w _ HV.out jf).mono ?_;rintro e w1 ⟨u1,rfl,EU,bF⟩;obtain⟨s1,p1,n1,k1,rfl⟩:=EU.jv;have hf1:=wk s1 p1 n1 k1;have hf2:=wm s1 p1 n1 k1)
  | (go_at_call_of 144 (Value.slice q m d);refine (iy _ Y k w _ HU.out jf).mono ?_;rintro e w2 ⟨u2,rfl,EW,cJ⟩;obtain⟨s2,p2,n2,k2,rfl⟩:=EW.jv;have hf3:=wk s2 p2 n2 k2;have hf4:=wm s2 p2 n2 k2;have HP1:=af EU.parts;have HP2:=af EW.parts)
  | (go_at_call 147;refine (PO _ [limbs X.natAbs,limbs Y.natAbs] _ (ju.two (Lc aa) (by rw[<-HP1.out.1];exact HP1.out.2.1.below (by show ax _ _;exact jf)) (by rw[<-HP2.out.1];exact HP2.out.2.1.below (by show ax _ _;exact jf))) (λxs hx=>by rcases dG.1 hx with rfl|hx;exact⟨aC _,HJ.out⟩;obtain rfl:=ak.1 hx;exact⟨aC _,HK.out⟩) (by show 2<=1048576;omega)).mono ?_;rintro e w3 ⟨v3,rfl,JA,ee⟩;replace ee:ax _ w3:=ee;rw[PR] at JA;obtain⟨p3,k3,rfl,_,_,_⟩:=Own.form JA)
  | (go_at_call 146;refine (gw _ _ _ _ _).mono ?_;rintro e w4 ⟨sg,rfl,EY,jJ⟩;obtain⟨e5,e6,g5,g6⟩:=(aQ.aA (w':=w4) b3 jf).two)
  | fail)
 have FC:=(aQ.aA (w':=w4) b3 jf);have FB:ax w w4:=jf;have FZ:ax w (w2.alloc (.cells #[.slice p1 n1 k1,.slice p2 n2 k2] 23)):=jf;generalize hL:(limbs (X.natAbs.gcd Y.natAbs)).length=L at*;have HL:=af hL;have HO:=af (Own.cu (Own.below JA jJ) FC cW (.bool sg) (.slice p3 L k3));clear JA hL;have Ee:=FC.cu (.bool (sg)) (.slice p3 (L) k3);have Ef:=ax.cu FB (b:=w.heap.size+1+1) ae (.bool (sg)) (.slice p3 (L) k3);go_wp2
 generalize (w4.setCell ⟨w.heap.size+1+1,0,none⟩ (.bool (sg))).setCell ⟨w.heap.size+1+1,1,none⟩ (.slice p3 (L) k3)=wz at*;obtain⟨Eg,Eh,_,_⟩:=Ee.two;refine bodyPost_ret (v:=.agg #[.bool (sg),.slice p3 (L) k3]) (by simp[results,Tryz.results86,go_sem,Eg,Eh]) aa (cj.out _ _ ?_);rw[EY.out];refine⟨_,aa,aJ.of (m:=X.natAbs.gcd Y.natAbs) (by rw[HL.out];exact Own.mono HO.out FZ.size) HL.out.symm _ ?_,Ef⟩;simp[Int.gcd]
end
section
open Go.RowKit
theorem boxes4 (w:World) (t t' ID t3:TypeId) (cs ew sq cs3:Array Value):aQ ((((w.alloc (.cells cs t)).alloc (.cells ew t')).alloc (.cells sq ID)).alloc (.cells cs3 t3)) w.heap.size t cs/\aQ ((((w.alloc (.cells cs t)).alloc (.cells ew t')).alloc (.cells sq ID)).alloc (.cells cs3 t3)) (w.heap.size+1) t' ew/\
  aQ ((((w.alloc (.cells cs t)).alloc (.cells ew t')).alloc (.cells sq ID)).alloc (.cells cs3 t3)) (w.heap.size+2) ID sq/\aQ ((((w.alloc (.cells cs t)).alloc (.cells ew t')).alloc (.cells sq ID)).alloc (.cells cs3 t3)) (w.heap.size+3) t3 cs3/\
  ax w ((((w.alloc (.cells cs t)).alloc (.cells ew t')).alloc (.cells sq ID)).alloc (.cells cs3 t3)):=
 ⟨(pO w t t' ID cs ew sq).1.alloc _,(pO w t t' ID cs ew sq).2.1.alloc _,(pO w t t' ID cs ew sq).2.2.1.alloc _,aQ.newAt cf _ _,(pO w t t' ID cs ew sq).2.2.2.alloc _⟩
def zM (w w':World) (X Y:Int) (e:Ending):Prop:=
 (Y=0/\∃ v u,e=.returned (.tuple #[v,u,.int .i64 20])/\aJ w' w.heap.size v 0/\aJ w' w.heap.size u 0)\/
 (Y≠0/\∃ v u,e=.returned (.tuple #[v,u,.int .i64 0])/\aJ w' w.heap.size v (X.fdiv Y)/\aJ w' w.heap.size u (X.fmod Y))
def PS (a b:Nat) (s t:Bool) (M R:Nat):Prop:=((s=t\/a%b=0)/\M=a/b/\R=a%b)\/(s≠t/\a%b≠0/\M=a/b+1/\R=b-a%b)
theorem rY {X Y:Int} {a b M R:Nat} {s t:Bool} (hX:X=if s=true then-(a:Int) else a) (hY:Y=if t=true then-(b:Int) else b) (hb:b≠0) (h:PS a b s t M R):
  X.fdiv Y=(if (!(s == t))=true then-(M:Int) else M)/\X.fmod Y=(if t=true then-(R:Int) else R):=by
 unfold PS at h;have e:=BZ a b;have hlt:=eR a (Nat.pos_of_ne_zero hb);generalize a/b=q at*;generalize a%b=r at*;have e':(a:Int)=(b:Int)*(q:Int)+(r:Int):=by rw[<-e];simp
 rw[e'] at hX;have hR:R<=b:=by rcases h with ⟨_,_,rfl⟩|⟨_,_,_,rfl⟩ <;> omega
 cases t
 ·have hp:0<Y:=by simp at hY;omega
  refine (Int.fdiv_fmod_unique hp).2 ?_;rcases h with ⟨h1,rfl,rfl⟩|⟨h1,h2,rfl,rfl⟩
  ·cases s
   ·simp at hX hY ⊢;subst hX;subst hY;omega
   ·simp at h1 hX hY ⊢;subst hX;subst hY;subst h1;simp only[Int.mul_neg];omega
  ·cases s
   ·exact absurd aa h1
   ·simp at hX hY ⊢;subst hX;subst hY;rw[Int.natCast_sub ae];simp only[Int.mul_add,Int.mul_neg,Int.mul_one,Int.neg_add];omega
 ·have hp:Y<0:=by simp at hY;omega
  refine (Int.fdiv_fmod_unique' hp).2 ?_;rcases h with ⟨h1,rfl,rfl⟩|⟨h1,h2,rfl,rfl⟩
  ·cases s
   ·simp at h1 hX hY ⊢;subst hX;subst hY;subst h1;simp only[Int.neg_mul_neg];omega
   ·simp at hX hY ⊢;subst hX;subst hY;simp only[Int.neg_mul];omega
  ·cases s
   ·simp at hX hY ⊢;subst hX;subst hY;rw[Int.natCast_sub ae];simp only[Int.mul_add,Int.neg_mul,Int.mul_neg,Int.mul_one,Int.neg_add,Int.neg_neg];omega
   ·exact absurd aa h1
set_option maxRecDepth 100000 in
theorem nD (v u:Value) (X Y:Int) (j k:Nat) (w:World) (hv:cY w v X j) (hu:cY w u Y k) (hj:j<=536870912) (hk:k<=536870912):
  Calls Tryz.prog 208 #[v,u] w λe w'=>zM w w' X Y e/\ax w w':=by
 obtain⟨s,p,n,c,rfl⟩:=hv.form;obtain⟨t,q,m,d,rfl⟩:=hu.form;refine aZ λR' cj=> ?_;obtain⟨b1,b2,b3,b4,nZ⟩:=boxes4 w 25 25 25 25 #[.bool s,.slice p n c] #[.bool t,.slice q m d] #[.bool false,.slice none 0 0] #[.bool false,.slice none 0 0];have vu:=hv.len;have qy:=hu.len;have HJ:=af (aV vu hj);have HK:=af (aV qy hk);have HV:=af hv;have HU:=af hu;have hsz:w.heap.size+4<=((((w.alloc (.cells #[.bool s,.slice p n c] 25)).alloc (.cells #[.bool t,.slice q m d] 25)).alloc (.cells #[.bool false,.slice none 0 0] 25)).alloc (.cells #[.bool false,.slice none 0 0] 25)).heap.size:=cf;clear hv hu hj hk vu qy;go_enter Tryz.func208,Tryz.ntmps208
 go_wp2_with fail
 generalize (((w.alloc _).alloc _).alloc _).alloc _=W at*;go_cut [7,8] (λx5 x6 wc=>Lx w W wc 246 X Y x5 x6)
 case first=>
  have HS:=af (λw' (h:aD W (w.heap.size+1+1) w')=>And.intro (h.cells b1 ae) (h.cells b2 ae));obtain⟨c1,c2,_,_⟩:=b1.two;obtain⟨c3,c4,_,_⟩:=b2.two
  go_region_held3 (λw'=>(w'.cell? ⟨w.heap.size,0,none⟩=some (.bool s)/\w'.cell? ⟨w.heap.size,1,none⟩=some (.slice p n c))/\w'.cell? ⟨w.heap.size+1,0,none⟩=some (.bool t)/\w'.cell? ⟨w.heap.size+1,1,none⟩=some (.slice q m d)) ((refine HS.out _ ?_;(with_reducible (repeat (first|exact aD.refl _ _|refine aD.drew ?_|refine aD.drewN ?_ _|refine aD.alloc ?_ _|refine aD.set ?_ _|refine aD.aG ?_ (by assumption)|refine aD.qW ?_ (by first|omega|(simp;done)|(simp;omega)) _))))) (first
   | (go_at_call_of 144 (Value.slice p n c);refine (iy _ X j w _ HV.out jf).mono ?_;rintro e w1 ⟨u1,rfl,EU,bF⟩;obtain⟨s1,p1,n1,k1,rfl⟩:=EU.jv;have Oh:=bF.size;(try simp at Oh);(try (have q1:=aQ.aA (aQ.drew (aQ.new _ _ #[_,_])) bF;(try simp at q1);obtain⟨q1a,q1b,q1c,q1d⟩:=q1.two;have q1l:=q1.lt;have q1n:=nj q1l;have q1m:=nk q1l));(try (have q2:=aQ.aA (aQ.drew (aQ.alloc (aQ.new _ _ #[_,_]) _)) bF;(try simp at q2);obtain⟨q2a,q2b,q2c,q2d⟩:=q2.two;have q2l:=q2.lt;have q2n:=nj q2l;have q2m:=nk q2l)))
   | (go_at_call_of 144 (Value.slice q m d);refine (iy _ Y k w _ HU.out jf).mono ?_;rintro e w2 ⟨u2,rfl,EW,cJ⟩;obtain⟨s2,p2,n2,k2,rfl⟩:=EW.jv;have hs2:=cJ.size;(try simp at hs2);(try (have q3:=aQ.aA (aQ.new _ _ #[_,_]) cJ;(try simp at q3);obtain⟨q3a,q3b,q3c,q3d⟩:=q3.two;have q3l:=q3.lt;have q3n:=nj q3l;have q3m:=nk q3l));(try (have q4:=aQ.aA (aQ.alloc (aQ.new _ _ #[_,_]) _) cJ;(try simp at q4);obtain⟨q4a,q4b,q4c,q4d⟩:=q4.two;have q4l:=q4.lt;have q4n:=nj q4l;have q4m:=nk q4l));(try (have q5:=aQ.aA q1 cJ;(try simp at q5);obtain⟨q5a,q5b,q5c,q5d⟩:=q5.two;have q5l:=q5.lt;have q5n:=nj q5l;have q5m:=nk q5l));(try (have q6:=aQ.aA q2 cJ;(try simp at q6);obtain⟨q6a,q6b,q6c,q6d⟩:=q6.two;have q6l:=q6.lt;have q6n:=nj q6l;have q6m:=nk q6l));(try (have q7:=aQ.aA (aQ.alloc q1 _) cJ;(try simp at q7);obtain⟨q7a,q7b,q7c,q7d⟩:=q7.two;have q7l:=q7.lt;have q7n:=nj q7l;have q7m:=nk q7l)))
   | fail)
  all_goals
   go_wp2
   go_meet
   refine⟨_,_,s1,p1,n1,k1,s2,p2,n2,k2,aa,aa,?_,?_,EU,EW,?_⟩
   ·(with_reducible (repeat (first|assumption|exact aQ.newAt (by first|rfl|(simp;done)) _ _|refine aQ.alloc ?_ _|refine aQ.drew ?_|refine aQ.cu (u:=.bool false) (v:=.slice none 0 0) ?_ _ _|refine aQ.eF ?_ (by first|omega|(simp;omega)) _ _|refine aQ.aA ?_ (by assumption))))
   ·(with_reducible (repeat (first|assumption|exact aQ.newAt (by first|rfl|(simp;done)) _ _|refine aQ.alloc ?_ _|refine aQ.drew ?_|refine aQ.cu (u:=.bool false) (v:=.slice none 0 0) ?_ _ _|refine aQ.eF ?_ (by first|omega|(simp;omega)) _ _|refine aQ.aA ?_ (by assumption))))
   ·exact jf
 case rest=>
  obtain⟨g,h,s1,p1,n1,k1,s2,p2,n2,k2,rfl,rfl,B5,B6,EU,EW,EX⟩:=hcut;obtain⟨OS,yV,hX⟩:=EU.parts;obtain⟨Bj,sn,hY⟩:=EW.parts;have B3:=b3.aA EX;have B4:=b4.aA EX;have lM:ax w wc:=nZ.aG EX;have HR1:=af (yV.below lM);have HR2:=af (sn.below lM);have HN1:=af OS;have HN2:=af Bj;have HX:=af hX;have HY:=af hY;have HM1:Hid (n1<=536870912):=by show _<=_;rw[OS];exact HJ.out
  have HM2:Hid (n2<=536870912):=by show _<=_;rw[Bj];exact HK.out
  have hzs:w.heap.size+4<=wc.heap.size:=aV hsz EX.size;clear b1 b2 b3 b4 EX nZ EU EW yV sn hX hY OS Bj hsz;obtain⟨c1,c2,_,_⟩:=B5.two;obtain⟨c3,c4,_,_⟩:=B6.two;go_wp2_with fail
  refine (xo _ _ n1 n2 _ _ _ HR1.out HR2.out (aC _) (aC _) HM1.out HM2.out).mono ?_;rw[aw,aw];rintro e w3 ⟨hd,ee⟩;replace ee:ax _ w3:=ee;have F5:=B5.aA ee;have F6:=B6.aA ee;have F3:=B3.aA ee;have F4:=B4.aA ee;have MZ:=lM.aG ee;obtain⟨e1,e2,_,_⟩:=F5.two;obtain⟨e3,e4,_,_⟩:=F6.two;obtain⟨e5,e6,f5,f6⟩:=F3.two;obtain⟨e7,e8,f7,f8⟩:=F4.two;rcases hd with ⟨h0,rfl⟩|⟨h0,vq,vr,rfl,FV,xO⟩
  ·have hY0:Y=0:=by have:=HY.out;split at this <;> omega
   have G3:=(F3.cu (.bool false) (.slice none 0 0)).eF (b':=w.heap.size+3) ae (.bool false) (.slice none 0 0);have G4:=(F4.eF (b':=w.heap.size+2) ae (.bool false) (.slice none 0 0)).cu (.bool false) (.slice none 0 0);have hbz:=(MZ.cu (b:=w.heap.size+2) ae (.bool false) (.slice none 0 0)).cu (b:=w.heap.size+3) ae (.bool false) (.slice none 0 0);clear HX HY HN1 HN2 h0;go_wp2
   generalize (((w3.setCell ⟨w.heap.size+1+1,0,none⟩ (.bool false)).setCell ⟨w.heap.size+1+1,1,none⟩ (.slice none 0 0)).setCell ⟨w.heap.size+1+1+1,0,none⟩ (.bool false)).setCell ⟨w.heap.size+1+1+1,1,none⟩ (.slice none 0 0)=wz at*;obtain⟨d1,d2,_,_⟩:=G3.two;obtain⟨d3,d4,_,_⟩:=G4.two;exact bodyPost_ret (v:=.tuple #[.agg #[.bool false,.slice none 0 0],.agg #[.bool false,.slice none 0 0],.int .i64 20]) (by simp[results,Tryz.results208,go_sem,d1,d2,d3,d4]) aa (cj.out _ _ ⟨.inl ⟨hY0,_,_,aa,aJ.zero _ _,aJ.zero _ _⟩,hbz⟩)
  ·obtain⟨pq,kq,rfl,_,_,_⟩:=Own.form FV;obtain⟨pr,kr,rfl,_,_,_⟩:=Own.form xO;generalize hlq:(limbs (X.natAbs/Y.natAbs)).length=lq at*;generalize Iy:(limbs (X.natAbs%Y.natAbs)).length=lr at*;have HLQ:=af hlq.symm;have NZ:=af Iy.symm;have HOQ:=af FV;have HOR:=af xO;have H0:=af h0;clear FV xO hlq Iy h0 e2 e6 e8 e5 e7 f5 f6 f7 f8 c1 c2 c3 c4;by_cases hst:s1=s2
   ·subst hst;clear e4;go_wp2_with fail
    have hg3:g≠w.heap.size+1+1:=aQ.apart F5 F3 cW;have vA:g≠w.heap.size+1+1+1:=aQ.apart F5 F4 cW;have hh3:h≠w.heap.size+1+1:=aQ.apart F6 F3 cW;have hh4:h≠w.heap.size+1+1+1:=aQ.apart F6 F4 cW;have HS:=af (λw' (hk:bo w3 (w.heap.size+1+1) (w.heap.size+1+1+1) w')=>And.intro ((hk.cls F5 hg3 vA).cell (j:=0) aa) ((hk.cls F6 hh3 hh4).cell (j:=0) aa))
    go_region_held3 (λw'=>w'.cell? ⟨g,0,none⟩=some (.bool s1)/\w'.cell? ⟨h,0,none⟩=some (.bool s1)) ((refine HS.out _ ?_;(with_reducible (repeat (first|exact bo.refl _ _ _|refine bo.drew ?_|refine bo.Pk ?_ _|refine bo.sw ?_ _|refine bo.aG ?_ (by assumption)))))) (first
     | (go_at_call_of 146 (Value.slice pq lq kq);refine (gw _ _ _ _ _).mono ?_;rintro e w6 ⟨sg,rfl,EY,CR⟩)
     | (go_at_call_of 146 (Value.slice pr lr kr);refine (gw _ _ _ _ _).mono ?_;rintro e w7 ⟨zN,rfl,PT,Lz⟩;obtain⟨i1,i2,i3,i4⟩:=(aQ.aA (w':=w7) F3 jf).two;obtain⟨j1,j2,j3,j4⟩:=(aQ.aA (w':=w7) F4 jf).two)
     | fail)
    have E3:=(aQ.aA (w':=w7) F3 jf);have E4:=(aQ.aA (w':=w7) F4 jf);have FW:ax w3 w7:=jf;have FB:ax w w7:=jf;have FV:=Own.below (HOQ).out FW;have xO:=Own.below (HOR).out FW;have GR:=(Own.cu (Own.cu FV E3 cW (.bool sg) (.slice pq lq kq)) (E4.eF (b':=w.heap.size+1+1) ae (.bool sg) (.slice pq lq kq)) cW (.bool zN) (.slice pr lr kr));have GS:=(Own.cu (Own.cu xO E3 cW (.bool sg) (.slice pq lq kq)) (E4.eF (b':=w.heap.size+1+1) ae (.bool sg) (.slice pq lq kq)) cW (.bool zN) (.slice pr lr kr));have G3:=(E3.cu (.bool sg) (.slice pq lq kq)).eF (b':=w.heap.size+1+1+1) ae (.bool zN) (.slice pr lr kr);have G4:=(E4.eF (b':=w.heap.size+1+1) ae (.bool sg) (.slice pq lq kq)).cu (.bool zN) (.slice pr lr kr);have hbz:=(FB.cu (b:=w.heap.size+1+1) ae (.bool sg) (.slice pq lq kq)).cu (b:=w.heap.size+1+1+1) ae (.bool zN) (.slice pr lr kr);have PU:=af GR;have PV:=af GS;clear FV xO GR GS;go_wp2
    generalize (((w7.setCell ⟨w.heap.size+1+1,0,none⟩ (.bool sg)).setCell ⟨w.heap.size+1+1,1,none⟩ (.slice pq lq kq)).setCell ⟨w.heap.size+1+1+1,0,none⟩ (.bool zN)).setCell ⟨w.heap.size+1+1+1,1,none⟩ (.slice pr lr kr)=wz at*;obtain⟨d1,d2,_,_⟩:=G3.two;obtain⟨d3,d4,_,_⟩:=G4.two;have gR:=rY HX.out HY.out H0.out (.inl ⟨.inl aa,aa,aa⟩);refine bodyPost_ret (v:=.tuple #[.agg #[.bool sg,.slice pq lq kq],.agg #[.bool zN,.slice pr lr kr],.int .i64 0]) (by simp[results,Tryz.results208,go_sem,d1,d2,d3,d4]) aa (cj.out _ _ ⟨.inr ⟨by have:=H0.out;omega,_,_,rfl,?_,?_⟩,hbz⟩)
    ·rw[EY.out];exact aJ.of (by rw[<-(HLQ).out];exact Own.mono PU.out lM.size) (HLQ).out _ (by simpa using gR.1)
    ·rw[PT.out];exact aJ.of (by rw[<-(NZ).out];exact Own.mono PV.out lM.size) (NZ).out _ (by simpa using gR.2)
   ·obtain rfl:s2= !s1:=by cases s1 <;> cases s2 <;> simp_all
    by_cases yW:X.natAbs%Y.natAbs=0
    ·have hl0:lr=0:=by have:=NZ.out;rw[yW,cz] at this;exact this
     have HR0:=af yW;subst hl0;clear yW hst e4;go_wp2_with fail
     have hg3:g≠w.heap.size+1+1:=aQ.apart F5 F3 cW;have vA:g≠w.heap.size+1+1+1:=aQ.apart F5 F4 cW;have hh3:h≠w.heap.size+1+1:=aQ.apart F6 F3 cW;have hh4:h≠w.heap.size+1+1+1:=aQ.apart F6 F4 cW;have HS:=af (λw' (hk:bo w3 (w.heap.size+1+1) (w.heap.size+1+1+1) w')=>And.intro ((hk.cls F5 hg3 vA).cell (j:=0) aa) ((hk.cls F6 hh3 hh4).cell (j:=0) aa))
     go_region_held3 (λw'=>w'.cell? ⟨g,0,none⟩=some (.bool s1)/\w'.cell? ⟨h,0,none⟩=some (.bool (!s1))) ((refine HS.out _ ?_;(with_reducible (repeat (first|exact bo.refl _ _ _|refine bo.drew ?_|refine bo.Pk ?_ _|refine bo.sw ?_ _|refine bo.aG ?_ (by assumption)))))) (first
      | (go_at_call_of 146 (Value.slice pq lq kq);refine (gw _ _ _ _ _).mono ?_;rintro e w6 ⟨sg,rfl,EY,CR⟩)
      | (go_at_call_of 146 (Value.slice pr 0 kr);refine (gw _ _ _ _ _).mono ?_;rintro e w7 ⟨zN,rfl,PT,Lz⟩;obtain⟨i1,i2,i3,i4⟩:=(aQ.aA (w':=w7) F3 jf).two;obtain⟨j1,j2,j3,j4⟩:=(aQ.aA (w':=w7) F4 jf).two)
      | fail)
     have E3:=(aQ.aA (w':=w7) F3 jf);have E4:=(aQ.aA (w':=w7) F4 jf);have FW:ax w3 w7:=jf;have FB:ax w w7:=jf;have FV:=Own.below (HOQ).out FW;have xO:=Own.below (HOR).out FW;have GR:=(Own.cu (Own.cu FV E3 cW (.bool sg) (.slice pq lq kq)) (E4.eF (b':=w.heap.size+1+1) ae (.bool sg) (.slice pq lq kq)) cW (.bool zN) (.slice pr 0 kr));have GS:=(Own.cu (Own.cu xO E3 cW (.bool sg) (.slice pq lq kq)) (E4.eF (b':=w.heap.size+1+1) ae (.bool sg) (.slice pq lq kq)) cW (.bool zN) (.slice pr 0 kr));have G3:=(E3.cu (.bool sg) (.slice pq lq kq)).eF (b':=w.heap.size+1+1+1) ae (.bool zN) (.slice pr 0 kr);have G4:=(E4.eF (b':=w.heap.size+1+1) ae (.bool sg) (.slice pq lq kq)).cu (.bool zN) (.slice pr 0 kr);have hbz:=(FB.cu (b:=w.heap.size+1+1) ae (.bool sg) (.slice pq lq kq)).cu (b:=w.heap.size+1+1+1) ae (.bool zN) (.slice pr 0 kr);have PU:=af GR;have PV:=af GS;clear FV xO GR GS;go_wp2
     generalize (((w7.setCell ⟨w.heap.size+1+1,0,none⟩ (.bool sg)).setCell ⟨w.heap.size+1+1,1,none⟩ (.slice pq lq kq)).setCell ⟨w.heap.size+1+1+1,0,none⟩ (.bool zN)).setCell ⟨w.heap.size+1+1+1,1,none⟩ (.slice pr 0 kr)=wz at*;obtain⟨d1,d2,_,_⟩:=G3.two;obtain⟨d3,d4,_,_⟩:=G4.two;have gR:=rY HX.out HY.out H0.out (.inl ⟨.inr HR0.out,aa,aa⟩);refine bodyPost_ret (v:=.tuple #[.agg #[.bool sg,.slice pq lq kq],.agg #[.bool zN,.slice pr 0 kr],.int .i64 0]) (by simp[results,Tryz.results208,go_sem,d1,d2,d3,d4]) aa (cj.out _ _ ⟨.inr ⟨by have:=H0.out;omega,_,_,rfl,?_,?_⟩,hbz⟩)
     ·rw[EY.out];exact aJ.of (by rw[<-(HLQ).out];exact Own.mono PU.out lM.size) (HLQ).out _ (by simpa using gR.1)
     ·rw[PT.out];exact aJ.of (by rw[<-(NZ).out];exact Own.mono PV.out lM.size) (NZ).out _ (by simpa using gR.2)
    ·have hlp:0<lr:=by have:=NZ.out;have:=dY yW;omega
     have hpi:(0:Int)<(lr:Int):=ae;have HR0:=af yW;have OT:Hid (lq<=536870912):=by show _<=_;rw[HLQ.out];exact aV (dt (Fm _ _)) HJ.out
     clear yW hst;go_wp2_with fail
     refine (KZ _ _ lq 1 _ [1] _ ((Rd.own HOQ.out).alloc _) (Rd.lit1 aa) (aC _) (da.cons ae da.nil) (by have:=OT.out;omega) ae).mono ?_;rintro e w4 ⟨v4,rfl,ho4,jJ⟩;replace jJ:ax _ w4:=jJ;rw[aw,show ar [1]=1 by rfl] at ho4;obtain⟨pm,cm,rfl,_,_,_⟩:=Own.form ho4;generalize hnm:(limbs (X.natAbs/Y.natAbs+1)).length=nm at*;have OI:=af hnm.symm;have Bk:ax w3 w4:=((ax.refl w3).alloc _).aG jJ;have ME:=af (Own.mono ho4 (show w3.heap.size<=_ by simp));have HOR4:=af (Own.below HOR.out Bk);have HY4:=af (HR2.out.below (ee.aG Bk));obtain⟨i1,i2,_,_⟩:=(F6.aA Bk).two;clear ho4 hnm jJ;go_wp2_with fail
     refine (DF _ _ n2 lr _ _ _ HY4.out (Rd.own HOR4.out) (aC _) (aC _) (by have:=HM2.out;omega)).mono ?_;rintro e w5 ⟨⟨h,_⟩|⟨_,v5,rfl,ho5⟩,lL⟩
     ·rw[aw,aw] at h;exact absurd h (by have:=eR X.natAbs (Nat.pos_of_ne_zero H0.out);omega)
     replace lL:ax _ w5:=lL;rw[aw,aw] at ho5;obtain⟨pn,cn,rfl,_,_,_⟩:=Own.form ho5;generalize hnn:(limbs (Y.natAbs-X.natAbs%Y.natAbs)).length=nn at*;have HLN:=af hnn.symm;have Na:ax w3 w5:=Bk.aG lL;have HOM:=af (Own.mono (Own.below ME.out lL) ee.size);have HON:=af (Own.mono ho5 (aV ee.size Bk.size));have T3:=F3.aA Na;have T4:=F4.aA Na;have T5:=F5.aA Na;have T6:=F6.aA Na;have hbw5:=MZ.aG Na;clear ho5 hnn lL F3 F4 F5 F6 Bk Na ee MZ HOQ HOR ME HOR4 HY4 i1 i2;obtain⟨e1,_,_,_⟩:=T5.two;obtain⟨e3,_,_,_⟩:=T6.two;go_wp2_with fail
     have hg3:g≠w.heap.size+1+1:=aQ.apart T5 T3 cW;have vA:g≠w.heap.size+1+1+1:=aQ.apart T5 T4 cW;have hh3:h≠w.heap.size+1+1:=aQ.apart T6 T3 cW;have hh4:h≠w.heap.size+1+1+1:=aQ.apart T6 T4 cW;have HS:=af (λw' (hk:bo w5 (w.heap.size+1+1) (w.heap.size+1+1+1) w')=>And.intro ((hk.cls T5 hg3 vA).cell (j:=0) aa) ((hk.cls T6 hh3 hh4).cell (j:=0) aa))
     go_region_held3 (λw'=>w'.cell? ⟨g,0,none⟩=some (.bool s1)/\w'.cell? ⟨h,0,none⟩=some (.bool (!s1))) ((refine HS.out _ ?_;(with_reducible (repeat (first|exact bo.refl _ _ _|refine bo.drew ?_|refine bo.Pk ?_ _|refine bo.sw ?_ _|refine bo.aG ?_ (by assumption)))))) (first
      | (go_at_call_of 146 (Value.slice pm nm cm);refine (gw _ _ _ _ _).mono ?_;rintro e w6 ⟨sg,rfl,EY,CR⟩)
      | (go_at_call_of 146 (Value.slice pn nn cn);refine (gw _ _ _ _ _).mono ?_;rintro e w7 ⟨zN,rfl,PT,Lz⟩;obtain⟨i1,i2,i3,i4⟩:=(aQ.aA (w':=w7) T3 jf).two;obtain⟨j1,j2,j3,j4⟩:=(aQ.aA (w':=w7) T4 jf).two)
      | fail)
     have E3:=(aQ.aA (w':=w7) T3 jf);have E4:=(aQ.aA (w':=w7) T4 jf);have FW:ax w5 w7:=jf;have FB:ax w w7:=jf;have FV:=Own.below (HOM).out FW;have xO:=Own.below (HON).out FW;have GR:=(Own.cu (Own.cu FV E3 cW (.bool sg) (.slice pm nm cm)) (E4.eF (b':=w.heap.size+1+1) ae (.bool sg) (.slice pm nm cm)) cW (.bool zN) (.slice pn nn cn));have GS:=(Own.cu (Own.cu xO E3 cW (.bool sg) (.slice pm nm cm)) (E4.eF (b':=w.heap.size+1+1) ae (.bool sg) (.slice pm nm cm)) cW (.bool zN) (.slice pn nn cn));have G3:=(E3.cu (.bool sg) (.slice pm nm cm)).eF (b':=w.heap.size+1+1+1) ae (.bool zN) (.slice pn nn cn);have G4:=(E4.eF (b':=w.heap.size+1+1) ae (.bool sg) (.slice pm nm cm)).cu (.bool zN) (.slice pn nn cn);have hbz:=(FB.cu (b:=w.heap.size+1+1) ae (.bool sg) (.slice pm nm cm)).cu (b:=w.heap.size+1+1+1) ae (.bool zN) (.slice pn nn cn);have PU:=af GR;have PV:=af GS;clear FV xO GR GS;go_wp2
     generalize (((w7.setCell ⟨w.heap.size+1+1,0,none⟩ (.bool sg)).setCell ⟨w.heap.size+1+1,1,none⟩ (.slice pm nm cm)).setCell ⟨w.heap.size+1+1+1,0,none⟩ (.bool zN)).setCell ⟨w.heap.size+1+1+1,1,none⟩ (.slice pn nn cn)=wz at*;obtain⟨d1,d2,_,_⟩:=G3.two;obtain⟨d3,d4,_,_⟩:=G4.two;have gR:=rY HX.out HY.out H0.out (.inr ⟨by cases s1 <;> simp,HR0.out,rfl,rfl⟩);refine bodyPost_ret (v:=.tuple #[.agg #[.bool sg,.slice pm nm cm],.agg #[.bool zN,.slice pn nn cn],.int .i64 0]) (by simp[results,Tryz.results208,go_sem,d1,d2,d3,d4]) aa (cj.out _ _ ⟨.inr ⟨by have:=H0.out;omega,_,_,rfl,?_,?_⟩,hbz⟩)
     ·rw[EY.out];exact aJ.of (by rw[<-(OI).out];exact Own.mono PU.out lM.size) (OI).out _ (by simpa using gR.1)
     ·rw[PT.out];exact aJ.of (by rw[<-(HLN).out];exact Own.mono PV.out lM.size) (HLN).out _ (by simpa using gR.2)
end
section
open Go.RowKit
theorem yw:(Tryz.prog.info? 3).map (λi=>(i.zero,i.size,i.bytes))=some (some (.int .i64 0),1,8):=by kernel_rfl
def hval (xs:List Nat):Nat:=val 65536 xs
def halves (n:Nat):List Nat:=jr 65536 n
def iz (xs:List Nat):Prop:=eP 65536 xs
theorem cL (n:Nat):iz (halves n):=qP ae n
theorem bG (n:Nat):hval (halves n)=n:=mg ae n
variable {xs:List Nat} {x:Nat}
theorem iz.at (h:iz xs) {k:Nat} (hk:xs[k]? =some x):x<65536:=eP.at h hk
theorem nE:halves 0=[]:=eM _
variable {m:Nat}
theorem JB {n:Nat} (h:halves m=halves n):m=n:=yQ ae h
theorem lP (xs:List Nat) (x:Nat):hval (xs++[x])=hval xs+65536^xs.length*x:=oA _ xs x
theorem uN (h:iz xs):hval xs<65536^xs.length:=qQ h
theorem dM (h:da xs):(halves (ar xs)).length<=2*xs.length:=by
 apply fC ae;have:=kh h
 rwa [Cg]
variable {v:Value} {w:World}
theorem Rd.i64 {n:Nat} (h:Rd w 1 v n (ints .i64 xs)):∃ p c,v=.slice p n c/\n<=c/\c<=9223372036854775807/\xs.length=n:=by
 obtain⟨p,c,hv,h1,h2,h3⟩:=h.form;unfold maxLen at h2;exact⟨p,c,hv,h1,ae,by simpa using h3⟩
variable {c:Nat} {p:Option Addr}
theorem Rd.GU {n:Nat} {k:IntKind} (h:Rd w 1 (.slice p n c) n (ints k xs)) (hm:m<=n):Rd w 1 (.slice p m c) m (ints k (xs.take m)):=by
 have:=h.take hm
 rwa [np,rR] at this
variable {B e:Nat}
theorem Own.GU {n:Nat} {k:IntKind} (h:w.ownsRow B e 1 (.slice p n c) n (ints k xs)) (hm:m<=n):w.ownsRow B e 1 (.slice p m c) m (ints k (xs.take m)):=by
 have:=Own.take h hm
 rwa [np,rR] at this
set_option maxRecDepth 100000 in
theorem jB (va:Value) (n i:Nat) (xs:List Nat) (w:World) (hr:Rd w 1 va n (ints .i64 xs)):
  Calls Tryz.prog 264 #[va,.int .i64 (i:Int)] w λe w'=>e=.returned (.int .i64 ((xs.getD i 0:Nat):Int))/\w=w':=by
 obtain⟨p,c,rfl,fV,gj,fv⟩:=hr.i64;have HX:=af fv;clear fv;by_cases hi:i<n
 ·obtain⟨b,off,x,rfl,_,hx,hc⟩:=hr.cellAt hi;have e:Hid (xs.getD i 0=x):=by show _=_;rw[List.getD,hx];rfl
  clear hx;refine aZ λR' cj=> ?_;go_enter Tryz.func264,Tryz.ntmps264
  go_wp2
  exact cj.out _ _ ⟨oG (by rw[e.out]),aa⟩
 ·have e:Hid (xs.getD i 0=0):=by show _=_;rw[List.getD,gD (by rw[HX.out];omega)];rfl
  refine aZ λR' cj=> ?_;go_enter Tryz.func264,Tryz.ntmps264
  go_wp2
  exact cj.out _ _ ⟨oG (by rw[e.out];rfl),aa⟩
set_option maxRecDepth 100000 in
theorem CS (p:Option Addr) (n c:Nat) (xs:List Nat) (w:World) (hr:Rd w 1 (.slice p n c) n (ints .i64 xs)) (hl:iz xs):
  Calls Tryz.prog 298 #[.slice p n c] w λe w'=>(∃ m,m<=n/\e=.returned (.slice p m c)/\halves (hval xs)=xs.take m)/\w=w':=by
 obtain⟨p',c',hv,fV,gj,fv⟩:=hr.i64;simp only[Value.slice.injEq,true_and] at hv;obtain⟨rfl,rfl⟩:=hv;have HX:Hid (xs.length=n):=fv;clear fv;refine aZ λR' cj=> ?_;go_enter Tryz.func298,Tryz.ntmps298
 go_wp2
 go_loop [0] (λv=>∃ m,m<=n/\v=.slice p m c/\hval (xs.take m)=hval xs) (λv=>match v with | .slice _ m _=>m|_=>0)
 case atStart=>exact⟨n,aP _,aa,by rw[cO (fA HX.out)]⟩
 case round=>
  obtain⟨m,hm,rfl,hv⟩:=hrel;have HV:Hid (hval (xs.take m)=hval xs):=hv;clear hv;by_cases h0:m=0
  ·subst h0;go_wp2
   exact cj.out _ _ ⟨⟨0,fQ _,aa,lK ae hl (fQ _) HV.out (.inl aa)⟩,aa⟩
  ·obtain⟨b,off,x,rfl,hb,hx,hc⟩:=hr.cellAt (k:=m-1) ae;have OG:Hid (xs[m-1]? =some x):=hx;clear hx;have h0':0<m:=ae;obtain⟨j,rfl⟩:∃ j,m=j+1:=⟨m-1,ae⟩;rw[Nat.add_sub_cancel] at hc;by_cases pA:x=0
   ·subst pA;go_wp2
    go_round
    case rel=>exact⟨j,ae,aa,(nt OG.out).symm.trans HV.out⟩
    case measure=>simp
   ·have hx0':((x:Int) == 0)=false:=by rw[lZ];omega
    go_wp2
    exact cj.out _ _ ⟨⟨j+1,hm,aa,lK ae hl (by rw[HX.out];exact hm) HV.out (.inr ⟨x,OG.out,pA⟩)⟩,aa⟩
theorem Own.cut {n:Nat} (h:w.ownsRow B e 1 (.slice p n c) n (ints .i64 xs)) (hm:m<=n) (hl:halves (hval xs)=xs.take m):
  w.ownsRow B e 1 (.slice p m c) (halves (hval xs)).length (ints .i64 (halves (hval xs)))/\m=(halves (hval xs)).length:=by
 have hx:xs.length=n:=by have:=h.1;simpa using this
 have e2:(halves (hval xs)).length=m:=by rw[hl,cE];omega
 have:=Own.GU h hm;rw[<-hl] at this;rw[e2];exact⟨this,aa⟩
def LA (w:World) (B:Nat) (xs:List Nat) (ov iv:Value) (wr:World):Prop:=
 ∃ (k:Nat) (hs:List Nat),k<=xs.length/\iv=.int .i64 (k:Int)/\hs.length=2*k/\iz hs/\hval hs=ar (xs.take k)/\
   wr.ownsRow B 3 1 ov (2*k) (ints .i64 hs)/\Below B w wr
theorem LB (h:x<4294967296):IntKind.i64.wrap ((x:Int).tmod 65536)=((x%65536:Nat):Int):=by
 rw[Fc ae,bQ _ ae];simp
theorem LC (h:x<4294967296):IntKind.i64.wrap (IntKind.u32.wrap ((x:Int)/65536))=((x/65536:Nat):Int):=by
 rw[KV,Int.emod_eq_of_lt ae ae,bQ _ ae];simp
variable {hs:List Nat}
theorem CT {k:Nat} (hx:xs[k]? =some x) (lE:x<4294967296) (hl:hs.length=2*k) (hh:iz hs) (hv:hval hs=ar (xs.take k)):
  iz (hs++[x%65536,x/65536])/\hval (hs++[x%65536,x/65536])=ar (xs.take (k+1)):=by
 have hk:k<xs.length:=(bd.1 hx).1;refine⟨eP.append hh (eP.cons (eR _ ae) (eP.cons ae (eP.nil _))),?_⟩;rw[bW hx,eN,<-hv,cE,gG ae];show val 65536 _=_;rw[jT,hl];show hval hs+_=_
 congr 1
 rw[Cg];show (4294967296:Nat)^k*(x%65536+65536*(x/65536+65536*0))=_
 congr 1
 omega
set_option maxRecDepth 100000 in
theorem fY (va:Value) (n:Nat) (xs:List Nat) (w:World) (hr:Rd w 1 va n (ints .u32 xs)) (hl:da xs) (hn:n<=1073741824):
  Calls Tryz.prog 263 #[va] w λe w'=>∃ v',e=.returned v'/\w'.ownsRow w.heap.size 3 1 v' (halves (ar xs)).length (ints .i64 (halves (ar xs)))/\Below w.heap.size w w':=by
 obtain⟨p,c,rfl,fV,gj,fv⟩:=hr.u32;obtain⟨i0,hi,jI,gu,jP⟩:=info_parts yw;obtain⟨B,hB⟩:∃ B,B=w.heap.size:=⟨_,aa⟩;have HB:=af hB;have Hr:=af hr;have HL:=af hl;have HX:=af fv;rw[<-hB];clear hr hl fv hB;refine aZ λR' cj=> ?_;go_enter Tryz.func263,Tryz.ntmps263
 go_wp2
 go_loopw [3,4] (λov iv wr=>LA w B xs ov iv wr) (λ_ iv _=>n-(intOf iv).toNat)
 case atStart=>exact⟨0,[],fQ _,aa,aa,eP.nil _,aa,mc _ _ _ _,fB _ _⟩
 case round=>
  obtain⟨k,hs,hk,rfl,hhl,hhh,hhv,aN,hb⟩:=hrel;have HK:=af hk;have HO:=af aN;have HHL:=af hhl;have HHH:=af hhh;have HHV:=af hhv;have iV:=af hb;have yg:B<=wr.heap.size:=by have:=hb.size;have:=HB.out;omega
  have PW:k<=n:=by rw[<-HX.out];exact hk
  clear hk aN hhl hhh hhv hb;by_cases hkn:k<n
  ·obtain⟨b1,o1,x,rfl,bF,iI,hcw⟩:=Hr.out.cellAt hkn;have qz:=(iV.out.cell (p:=⟨b1,o1+k,none⟩) (by rw[HB.out];exact bF)).trans hcw;have hne:=OC HO.out (b:=b1) (by rw[HB.out];exact bF);have yi:=af iI;have lE:=HL.out.at iI;have HNE:=af hne;have Cq:(0:Int)<=(k:Int):=ae;have yv:(k:Int)<(n:Int):=ae;clear iI hcw hne;go_wp2_with fail
   go_region_held3 (λw'=>w'.cell? ⟨b1,o1+k,none⟩=some (.int .u32 (x:Int))) (first|exact qz|go_keep|exact Cl zO qz HNE.out)
    ((refine qS (by rfl) _ _ 315 (by rfl) B 3 i0 (.int .i64 0) 1 8 BV hi jI gu jP aa ae _ (2*k) (ints .i64 hs) (by rfl) ((HO.out.alloc _).drew) _ 2 (ints .i64 [x%65536,x/65536]) (by rfl) (Rd.drew (Rd.lit2 (LB lE) (LC lE))) (oD .i64 [x%65536,x/65536]) (by unfold maxLen;omega) ae (by simp;omega) ?_;intro v1 w1 gI zO))
   have tR:=af gI;have HG1:=af zO;clear gI zO;go_wp2_with fail
   go_roundw
   case rel=>
    have hst:=CT yi.out lE HHL.out HHH.out HHV.out;exact⟨k+1,hs++[x%65536,x/65536],by rw[HX.out];omega,by go_num,by simp[HHL.out];omega,hst.1,hst.2,by rw[jg];exact tR.out,Below.behind iV.out yg HG1.out HO.out (aP _)⟩
   case measure=>simp[intOf];omega
  ·obtain rfl:k=n:=by omega
   obtain⟨p1,c1,IA,_,_,_⟩:=Own.form HO.out;have HV1:=af IA;have vI:Hid (hval hs=ar xs):=by show _=_;rw[HHV.out,bS (fA HX.out)]
   subst IA;go_wp2_with fail
   refine (CS p1 (2*k) c1 hs _ (Rd.own HO.out) HHH.out).mono ?_;rintro e w2 ⟨⟨m,hm,rfl,Ba⟩,rfl⟩;have HC:=Own.cut HO.out hm Ba;rw[vI.out] at HC;have HC1:=af HC.1;have HC2:=af HC.2;clear HC Ba;go_wp2_with fail
   refine cj.out _ _ ⟨_,aa,?_,iV.out⟩;have:=HC1.out;rw[<-HC2.out] at this ⊢;exact this
def LimbInv (w:World) (B m:Nat) (hs:List Nat) (ov iv:Value) (wr:World):Prop:=
 ∃ (k:Nat) (ds:List Nat),2*k<=m+1/\iv=.int .i64 ((2*k:Nat):Int)/\ds.length=k/\da ds/\ar ds=hval (hs.take (2*k))/\
   wr.ownsRow B 78 1 ov k (ints .u32 ds)/\Below B w wr
variable {ds:List Nat}
theorem CU {k lo hi:Nat} (hl:ds.length=k) (hd:da ds) (hv:ar ds=hval (hs.take (2*k))) (gN:hs.getD (2*k) 0=lo) (hhi:hs.getD (2*k+1) 0=hi)
  (h1:lo<65536) (h2:hi<65536):da (ds++[lo+65536*hi])/\ar (ds++[lo+65536*hi])=hval (hs.take (2*(k+1))):=by
 refine⟨hd.append (da.cons ae da.nil),?_⟩;rw[eN,hl,hv];show _=val 65536 (hs.take (2*k+1+1));rw[cN,cN,gN,hhi,fP,xg];show hval _+_=hval _+_
 congr 1
 rw[show (4294967296:Nat)=65536^2 by rfl,<-Cg,ct,eJ]
theorem GV {k h:Nat} (hl:ds.length=k) (hd:da ds) (hv:ar ds=h) (hm:(halves h).length=m) (hk:2*k<=m+1):limbs h=ds:=by
 subst hv;apply Fw ae hd;show ds.length<=(limbs (ar ds)).length;rcases mX k with h0|h0
 ·omega
 ·have hne:ar ds≠0:=λh=>by rw[h,nE] at hm;simp at hm;omega
  have h1:65536^((halves (ar ds)).length-1)<=ar ds:=xk ae hne
  have h2:4294967296^(k-1)<=ar ds:=by
   rw[show (4294967296:Nat)=65536^2 by rfl,<-Cg];exact aV (qJ ae ae) h1
  have:=xM h2;omega
set_option maxRecDepth 100000 in
theorem rD (va:Value) (n:Nat) (ls:List Nat) (w:World) (hr:Rd w 1 va n (ints .i64 ls)) (hl:iz ls) (hn:n<=2147483656):
  Calls Tryz.prog 265 #[va] w λe w'=>∃ v',e=.returned v'/\w'.ownsRow w.heap.size 78 1 v' (limbs (hval ls)).length (ints .u32 (limbs (hval ls)))/\Below w.heap.size w w':=by
 obtain⟨p,c,rfl,fV,gj,fv⟩:=hr.i64;obtain⟨i0,hi,jI,gu,jP⟩:=info_parts km;obtain⟨B,hB⟩:∃ B,B=w.heap.size:=⟨_,aa⟩;obtain⟨h,hh⟩:∃ h,h=hval ls:=⟨_,aa⟩;rw[<-hh];have HB:=af hB;have Hr:=af hr;have HL:=af hl;have HX:=af fv;have HH:=af hh;rw[<-hB];clear hr hl fv hB hh;refine aZ λR' cj=> ?_;go_enter Tryz.func265,Tryz.ntmps265
 go_wp2_with fail
 refine (CS p n c ls _ Hr.out HL.out).mono ?_;rintro e w1 ⟨⟨m,hm,rfl,Ba⟩,rfl⟩;have vz:(halves h).length=m:=by rw[HH.out,Ba,cE,HX.out];omega
 have vw:=Rd.GU Hr.out hm;rw[<-Ba,<-HH.out] at vw;have OT:=af vz;have HRD:=af vw;clear vz vw Ba;go_wp2_with fail
 go_loopw [3,4] (λov iv wr=>LimbInv w B m (halves h) ov iv wr) (λ_ iv _=>m+2-(intOf iv).toNat)
 case atStart=>exact⟨0,[],ae,aa,aa,da.nil,aa,mc _ _ _ _,fB _ _⟩
 case round=>
  obtain⟨k,ds,hk,rfl,vx,hdd,hdv,aN,hb⟩:=hrel;have HO:=af aN;have IY:=af vx;have HDD:=af hdd;have HDV:=af hdv;have iV:=af hb;have yg:B<=wr.heap.size:=by have:=hb.size;have:=HB.out;omega
  clear aN vx hdd hdv hb;by_cases IL:2*k<m
  ·obtain⟨b1,o1,lo,rfl,bF,iI,qz⟩:=(HRD.out.jU HB.out iV.out).cellAt IL;have gN:=(cL h).at iI;have HLO:Hid ((halves h).getD (2*k) 0=lo):=by show _=_;rw[List.getD,iI];rfl
   clear iI;by_cases hkm1:2*k+1<m
   ·obtain⟨b2,o2,vS,hp2,cJ,qT,vE⟩:=(HRD.out.jU HB.out iV.out).cellAt hkm1;have hhi:=(cL h).at qT;have HHI:Hid ((halves h).getD (2*k+1) 0=vS):=by show _=_;rw[List.getD,qT];rfl
    simp only[Option.some.injEq,Addr.mk.injEq,and_true] at hp2;obtain⟨rfl,rfl⟩:=hp2;clear qT;have hy:(lo:Int)+65536*(vS:Int)=((lo+65536*vS:Nat):Int):=ae;have HY:=af hy;clear hy;go_wp2_with (at_builtin;go_loud (refine er aa _ _ 23 aa B 78 i0 (.int .u32 0) 4 ma hi jI gu jP aa HO.out aa aa HY.out ae ae yg ?_);intro v1 w1 gI jC)
    have tR:=af gI;have EZ:=af (jC w iV.out);clear gI jC;go_wp2_with fail
    go_roundw
    case rel=>
     have hst:=CU IY.out HDD.out HDV.out HLO.out HHI.out gN hhi;exact⟨k+1,ds++[lo+65536*vS],ae,by go_num,by simp[IY.out],hst.1,hst.2,tR.out,EZ.out⟩
    case measure=>simp[intOf];omega
   ·have HHI:Hid ((halves h).getD (2*k+1) 0=0):=by show _=_;rw[List.getD,gD (by rw[OT.out];omega)];rfl
    go_wp2_with (at_builtin;go_loud (refine er aa _ _ 23 aa B 78 i0 (.int .u32 0) 4 ma hi jI gu jP aa HO.out aa aa aa ae ae yg ?_);intro v1 w1 gI jC)
    have tR:=af gI;have EZ:=af (jC w iV.out);clear gI jC;go_wp2_with fail
    go_roundw
    case rel=>
     have hst:=CU IY.out HDD.out HDV.out HLO.out HHI.out gN ae;rw[ni,lz] at hst;exact⟨k+1,ds++[lo],ae,by go_num,by simp[IY.out],hst.1,hst.2,tR.out,EZ.out⟩
    case measure=>simp[intOf];omega
  ·go_wp2_with fail
   have hval:ar ds=h:=by
    rw[HDV.out];show val 65536 _=_;rw[fU (by rw[OT.out];omega)];exact bG h
   have hcan:=GV IY.out HDD.out hval OT.out hk;refine cj.out _ _ ⟨_,aa,?_,iV.out⟩;rw[hcan,IY.out];exact HO.out
set_option maxRecDepth 100000 in
theorem JC (va:Value) (n:Nat) (xs:List Nat) (w:World) (hr:Rd w 1 va n (ints .u32 xs)) (hl:da xs) (hn:n<=1073741824):
  Calls Tryz.prog 262 #[va] w λe w'=>∃ v',e=.returned v'/\w'.ownsRow w.heap.size 78 1 v' (limbs (ar xs)).length (ints .u32 (limbs (ar xs)))/\Below w.heap.size w w':=by
 obtain⟨p,c,rfl,fV,gj,fv⟩:=hr.u32;have Hr:=af hr;have HL:=af hl;have HX:=af fv;clear hr hl fv;refine aZ λR' cj=> ?_;go_enter Tryz.func262,Tryz.ntmps262
 go_wp2_with fail
 refine (fY _ n xs _ Hr.out HL.out hn).mono ?_;rintro e w1 ⟨v1,rfl,aN,hb⟩;have hlen:=dM HL.out;rw[HX.out] at hlen;have HO:=af aN;have HB:=af hb;clear aN hb;go_wp2_with fail
 refine (rD _ _ (halves (ar xs)) _ (Rd.own HO.out) (cL _) ae).mono ?_;rintro e w2 ⟨v2,rfl,aN,hb⟩;rw[bG] at aN;go_wp2_with fail
 exact cj.out _ _ ⟨_,aa,Own.mono aN HB.out.size,HB.out.trans (hb.mono HB.out.size)⟩
def PX (w:World) (B M:Nat) (us ts:List Nat) (ov cv iv:Value) (wr:World):Prop:=
 ∃ (k carry:Nat) (os:List Nat),k<=M+1/\(k=M+1->carry=0)/\iv=.int .i64 (k:Int)/\cv=.int .i64 (carry:Int)/\carry<=1/\os.length=k/\iz os/\
   hval os+65536^k*carry=hval (us.take k)+hval (ts.take k)/\wr.ownsRow B 3 1 ov k (ints .i64 os)/\Below B w wr
variable {us ts:List Nat} {y:Nat}
theorem JD {k carry:Nat} {os:List Nat} (hl:os.length=k) (hh:iz os) (hv:hval os+65536^k*carry=hval (us.take k)+hval (ts.take k)) (hx:us.getD k 0=x) (hy:ts.getD k 0=y):
  iz (os++[(x+y+carry)%65536])/\hval (os++[(x+y+carry)%65536])+65536^(k+1)*((x+y+carry)/65536)=hval (us.take (k+1))+hval (ts.take (k+1)):=by
 refine⟨eP.append hh (eP.cons (eR _ ae) (eP.nil _)),?_⟩;rw[lP,hl,fP];show _=val 65536 _+val 65536 _;rw[cN,cN,hx,hy];exact Mk 65536 _ _ x y carry _ _ _ hv aa
theorem ji {k:Nat} (h:us.length<=k):us.getD k 0=0:=by rw[List.getD,gD h];rfl
theorem lQ (h:iz us) (k:Nat):us.getD k 0<65536:=by
 rw[List.getD];cases hk:us[k]? with
 | none=>simp
 | some x=>exact h.at hk
set_option maxRecDepth 100000 in
theorem Nb (va vb:Value) (n m:Nat) (xs ys:List Nat) (w:World) (hr:Rd w 1 va n (ints .u32 xs)) (hs:Rd w 1 vb m (ints .u32 ys)) (hx:da xs) (hy:da ys) (hn:n<=1073741824) (hm:m<=1073741824):
  Calls Tryz.prog 198 #[va,vb] w λe w'=>∃ v',e=.returned v'/\w'.ownsRow w.heap.size 78 1 v' (limbs (ar xs+ar ys)).length (ints .u32 (limbs (ar xs+ar ys)))/\Below w.heap.size w w':=by
 obtain⟨p,c,rfl,fV,gj,fv⟩:=hr.u32;obtain⟨q,d,rfl,NY,IJ,iU⟩:=hs.u32;obtain⟨i0,hi,jI,gu,jP⟩:=info_parts yw;obtain⟨B,hB⟩:∃ B,B=w.heap.size:=⟨_,aa⟩;have HB:=af hB;have Hr:=af hr;have Hs:=af hs;have HL:=af hx;have HM:=af hy;have vu:=dM hx;have qy:=dM hy;rw[fv] at vu;rw[iU] at qy;obtain⟨a,ha⟩:∃ a,a=ar xs:=⟨_,aa⟩;obtain⟨b,hb⟩:∃ b,b=ar ys:=⟨_,aa⟩;rw[<-ha] at vu ⊢;rw[<-hb] at qy ⊢;rw[<-hB];have HA:=af ha;have HBb:=af hb;clear hr hs hx hy fv iU ha hb hB;refine aZ λR' cj=> ?_;go_enter Tryz.func198,Tryz.ntmps198
 go_wp2_with fail
 refine (fY _ n xs _ Hr.out HL.out hn).mono ?_;rintro e w1 ⟨v1,rfl,aN,bF⟩;rw[<-HA.out,<-HB.out] at aN;rw[<-HB.out] at bF;have tR:=af aN;have EZ:=af bF;clear aN bF;go_wp2_with fail
 refine (fY _ m ys _ (Hs.out.jU HB.out EZ.out) HM.out hm).mono ?_;rintro e w2 ⟨v2,rfl,aN,cJ⟩;rw[<-HBb.out] at aN;have hB1s:B<=w1.heap.size:=by have:=EZ.out.size;have:=HB.out;omega
 have HO1b:=af (Own.below tR.out cJ);have qw:=af (Own.mono aN hB1s);have xp:=af (EZ.out.trans (cJ.mono hB1s));have hB2s:B<=w2.heap.size:=by have:=cJ.size;omega
 clear aN cJ tR EZ;obtain⟨p1,c1,rfl,h11,Nd,_⟩:=(Rd.own HO1b.out).i64;obtain⟨p2,c2,rfl,h21,h22,_⟩:=(Rd.own qw.out).i64;generalize Jd:(halves a).length=la at*;generalize IB:(halves b).length=lb at*;have Oc:=af Jd;have Od:=af IB;clear Jd IB;obtain⟨M,hMa,hMb,hMu,hM⟩:∃ M,la<=M/\lb<=M/\M<=2147483648/\(la<lb/\M=lb\/lb<=la/\M=la):=⟨max la lb,ae,ae,ae,ae⟩;obtain⟨B2,PY⟩:∃ B2,B2=w2.heap.size:=⟨_,aa⟩;have JE:=af PY;have PZ:B<=B2:=ae;clear PY;rcases hM with ⟨xX,rfl⟩|⟨xX,rfl⟩
 all_goals
  go_wp2_with fail
  go_loopw [7,8,9] (λov cv iv wr=>PX w2 B2 M (halves a) (halves b) ov cv iv wr) (λ_ cv iv _=>2*(M-(intOf iv).toNat)+(intOf cv).toNat)
  case atStart=>exact⟨0,0,[],ae,λ_=>aa,aa,aa,ae,aa,eP.nil _,aa,mc _ _ _ _,fB _ _⟩
  case round=>
   obtain⟨k,carry,os,hk,yv,rfl,rfl,hc,hol,hoh,hov,aN,lM⟩:=hrel;have HO:=af aN;have HOL:=af hol;have HOH:=af hoh;have HOV:=af hov;have HK1:=af yv;have iV:=af lM;have yg:B2<=wr.heap.size:=by have:=lM.size;have:=JE.out;omega
   have HRA:=af ((Rd.own HO1b.out).jU JE.out lM);have HRB:=af ((Rd.own qw.out).jU JE.out lM);have hgx:=lQ (cL a) k;have hgy:=lQ (cL b) k;have hxy0:M<=k->(halves a).getD k 0=0/\(halves b).getD k 0=0:=λh=>⟨ji (by rw[Oc.out];omega),ji (by rw[Od.out];omega)⟩;clear aN hol hoh hov yv lM;generalize hx:(halves a).getD k 0=x at*;generalize hy:(halves b).getD k 0=y at*;have HX:=af hx;have HY:=af hy;have HXY0:=af hxy0;clear hx hy hxy0;have GW:k=M+1->carry=0:=HK1.out;by_cases hkM:k<M\/0<carry
   ·clear GW
    have hguard:decide (k<M)=true\/decide (k<M)=false/\0<carry:=by
     by_cases h:k<M
     ·left;simpa using h
     ·right;exact⟨by simpa using h,ae⟩
    have HSUM:Hid (((x:Int)+(y:Int)+(carry:Int)).tmod 65536=(((x+y+carry)%65536:Nat):Int)):=by show _=_;rw[Fc ae];omega
    rcases hguard with hg|⟨hg,hg2⟩
    all_goals
     go_wp2_with fail
     refine (jB _ _ k (halves a) _ HRA.out).mono ?_;rintro e w3 ⟨rfl,rfl⟩;rw[HX.out];go_wp2_with fail
     refine (jB _ _ k (halves b) _ HRB.out).mono ?_;rintro e w3 ⟨rfl,rfl⟩;rw[HY.out];go_wp2_with (at_builtin;refine er aa _ _ 315 aa B2 3 i0 (.int .i64 0) 8 BV hi jI gu jP aa HO.out aa aa (d:=(x+y+carry)%65536) ae ae ae yg ?_;intro v1 w3 gI jC)
     have ME:=af gI;have Pe:=af (jC w2 iV.out);clear gI jC;go_wp2_with fail
     go_roundw
     case rel=>
      have hst:=JD HOL.out HOH.out HOV.out HX.out HY.out;exact⟨k+1,(x+y+carry)/65536,os++[(x+y+carry)%65536],by have:=HK1.out;have:=HXY0.out;omega,by have:=HK1.out;have:=HXY0.out;omega,by go_num,by go_num,ae,by simp[HOL.out],hst.1,hst.2,ME.out,Pe.out⟩
     case measure=>simp[intOf];have:=HXY0.out;omega
   ·have Oi:carry=0:=by omega
    have hkM':M<=k:=ae;have HC0:=af Oi;have hg1:decide (k<M)=false:=by simp;omega
    have hg2:¬ (0<(carry:Int)):=ae;have hks:k<=M+1:=ae;clear GW;clear Oi;go_wp2_with fail
    refine (rD _ _ os _ (Rd.own HO.out) HOH.out ae).mono ?_;rintro e w3 ⟨v3,rfl,aN,ee⟩
    have hval:hval os=a+b:=by
     have:=HOV.out;rw[HC0.out,ni,lz] at this;rw[this];show val 65536 _+val 65536 _=_;rw[fU (by rw[Oc.out];omega),fU (by rw[Od.out];omega)];show hval _+hval _=_;rw[bG,bG]
    rw[hval] at aN;go_wp2_with fail
    exact cj.out _ _ ⟨_,aa,Own.mono aN ae,(xp.out.trans (iV.out.mono PZ)).trans (ee.mono ae)⟩
def CmpInv (w:World) (us ts:List Nat) (M:Nat) (iv:Value) (wr:World):Prop:=
 ∃ k:Nat,k<=M/\iv=.int .i64 ((k:Int)-1)/\hval us+hval (ts.take k)=hval ts+hval (us.take k)/\w=wr
theorem kt (us:List Nat):hval (us.take 0)=0:=by simp[hval,val]
theorem GX {k:Nat} (hx:us.getD k 0=x) (hy:ts.getD k 0=x) (h:hval us+hval (ts.take (k+1))=hval ts+hval (us.take (k+1))):hval us+hval (ts.take k)=hval ts+hval (us.take k):=by
 have h1:hval (ts.take (k+1))=hval (ts.take k)+65536^k*x:=by rw[<-hy];exact cN 65536 ts k
 have h2:hval (us.take (k+1))=hval (us.take k)+65536^k*x:=by rw[<-hx];exact cN 65536 us k
 omega
theorem xA {k:Nat} (hu:iz us) (hx:us.getD k 0=x) (hy:ts.getD k 0=y) (Dx:x<y) (h:hval us+hval (ts.take (k+1))=hval ts+hval (us.take (k+1))):hval us<hval ts:=by
 have h1:hval (ts.take (k+1))=hval (ts.take k)+65536^k*y:=by rw[<-hy];exact cN 65536 ts k
 have h2:hval (us.take (k+1))=hval (us.take k)+65536^k*x:=by rw[<-hx];exact cN 65536 us k
 have h3:hval (us.take k)<65536^k:=by
  have h4:=uN (eP.take hu k);have h5:=qJ (show 0<65536 by omega) (show (us.take k).length<=k by rw[cE];omega);omega
 have h4:65536^k*x+65536^k<=65536^k*y:=by
  have:=jM (65536^k) (show x+1<=y from Dx)
  rwa [ct,np] at this
 omega
set_option maxRecDepth 100000 in
theorem wq (va vb:Value) (n m:Nat) (xs ys:List Nat) (w:World) (hr:Rd w 1 va n (ints .u32 xs)) (hs:Rd w 1 vb m (ints .u32 ys)) (hx:da xs) (hy:da ys) (hn:n<=1073741824) (hm:m<=1073741824):
  Calls Tryz.prog 266 #[va,vb] w λe w'=>e=.returned (.int .i64 (im (ar xs) (ar ys)))/\Below w.heap.size w w':=by
 obtain⟨p,c,rfl,fV,gj,fv⟩:=hr.u32;obtain⟨q,d,rfl,NY,IJ,iU⟩:=hs.u32;have Hr:=af hr;have Hs:=af hs;have HL:=af hx;have HM:=af hy;have vu:=dM hx;have qy:=dM hy;rw[fv] at vu;rw[iU] at qy;obtain⟨a,ha⟩:∃ a,a=ar xs:=⟨_,aa⟩;obtain⟨b,hb⟩:∃ b,b=ar ys:=⟨_,aa⟩;rw[<-ha] at vu ⊢;rw[<-hb] at qy ⊢;have HA:=af ha;have HBb:=af hb;clear hr hs hx hy fv iU ha hb;refine aZ λR' cj=> ?_;go_enter Tryz.func266,Tryz.ntmps266
 go_wp2_with fail
 refine (fY _ n xs _ Hr.out HL.out hn).mono ?_;rintro e w1 ⟨v1,rfl,aN,bF⟩;rw[<-HA.out] at aN;have tR:=af (Rd.own aN);have EZ:=af bF;clear aN bF;go_wp2_with fail
 refine (fY _ m ys _ (Hs.out.below EZ.out) HM.out hm).mono ?_;rintro e w2 ⟨v2,rfl,aN,cJ⟩;rw[<-HBb.out] at aN;have HRA:=af (tR.out.below cJ);have HRB:=af (Rd.own aN);have xp:=af (EZ.out.trans (cJ.mono EZ.out.size));clear aN cJ tR EZ;obtain⟨p1,c1,rfl,h11,Nd,_⟩:=HRA.out.i64;obtain⟨p2,c2,rfl,h21,h22,_⟩:=HRB.out.i64;generalize Jd:(halves a).length=la at*;generalize IB:(halves b).length=lb at*;have Oc:=af Jd;have Od:=af IB;clear Jd IB;obtain⟨M,hMa,hMb,hMu,hM⟩:∃ M,la<=M/\lb<=M/\M<=2147483648/\(la<lb/\M=lb\/lb<=la/\M=la):=⟨max la lb,ae,ae,ae,ae⟩;rcases hM with ⟨xX,rfl⟩|⟨xX,rfl⟩
 all_goals
  go_wp2_with fail
  go_loopw [7] (λiv wr=>CmpInv w2 (halves a) (halves b) M iv wr) (λiv _=>(intOf iv+1).toNat)
  case atStart=>exact⟨M,aP _,aa,by
   show val 65536 _+val 65536 _=val 65536 _+val 65536 _;rw[fU (by first|(rw[Oc.out];omega)|(rw[Od.out];omega)),fU (by first|(rw[Oc.out];omega)|(rw[Od.out];omega))];omega,rfl⟩
  case round=>
   obtain⟨k,hk,rfl,hv,rfl⟩:=hrel;have HV:=af hv;clear hv;by_cases h0:k=0
   ·subst h0;go_wp2_with fail
    have e:a=b:=by
     have:=HV.out;rw[kt,kt,bG,bG] at this;omega
    exact cj.out _ _ ⟨oG (by rw[e,ui]),xp.out⟩
   ·obtain⟨j,rfl⟩:∃ j,k=j+1:=⟨k-1,ae⟩;have hjj:((j+1:Nat):Int)-1=(j:Int):=ae;rw[hjj];clear h0 hjj;generalize hx:(halves a).getD j 0=x;generalize hy:(halves b).getD j 0=y;have HX:=af hx;have HY:=af hy;clear hx hy;go_wp2_with fail
    refine (jB _ _ j (halves a) _ HRA.out).mono ?_;rintro e w3 ⟨rfl,rfl⟩;rw[HX.out];go_wp2_with fail
    refine (jB _ _ j (halves b) _ HRB.out).mono ?_;rintro e w3 ⟨rfl,rfl⟩;rw[HY.out];rcases Fj x y with hlt|heq|hgt
    ·go_wp2_with fail
     have:=xA (cL a) HX.out HY.out hlt HV.out;rw[bG,bG] at this;exact cj.out _ _ ⟨oG (by rw[nu this]),xp.out⟩
    ·subst heq;go_wp2_with fail
     refine (jB _ _ j (halves a) _ HRA.out).mono ?_;rintro e w3 ⟨rfl,rfl⟩;rw[HX.out];go_wp2_with fail
     refine (jB _ _ j (halves b) _ HRB.out).mono ?_;rintro e w3 ⟨rfl,rfl⟩;rw[HY.out];go_wp2_with fail
     go_roundw
     case rel=>exact⟨j,ae,aa,GX HX.out HY.out HV.out,aa⟩
     case measure=>simp[intOf]
    ·go_wp2_with fail
     refine (jB _ _ j (halves a) _ HRA.out).mono ?_;rintro e w3 ⟨rfl,rfl⟩;rw[HX.out];go_wp2_with fail
     refine (jB _ _ j (halves b) _ HRB.out).mono ?_;rintro e w3 ⟨rfl,rfl⟩;rw[HY.out];go_wp2_with fail
     have:=xA (cL b) HY.out HX.out hgt HV.out.symm;rw[bG,bG] at this;exact cj.out _ _ ⟨oG (by rw[nw this]),xp.out⟩
theorem xB {qs:List Nat} {k:Nat}:(List.replicate (k+1) 0++qs).set k x=List.replicate k 0++x::qs:=by
 rw[KM,gQ,tV _ _ cf];simp
def Qa (w:World) (B M:Nat) (us ts:List Nat) (ov bv iv:Value) (wr:World):Prop:=
 ∃ (k r:Nat) (ds:List Nat),k<=M/\ds.length=k/\iv=.int .i64 (k:Int)/\bv=.int .i64 (r:Int)/\r<=1/\iz ds/\
   hval ds+hval (ts.take k)=hval (us.take k)+65536^k*r/\wr.ownsRow B 3 1 ov k (ints .i64 ds)/\Below B w wr
variable {d:Nat}
theorem zP {k r r':Nat} (hl:ds.length=k) (hh:iz ds) (hv:hval ds+hval (ts.take k)=hval (us.take k)+65536^k*r) (hx:us.getD k 0=x) (hy:ts.getD k 0=y)
  (hd:d<65536) (he:x+65536*r'=d+y+r):
  iz (ds++[d])/\hval (ds++[d])+hval (ts.take (k+1))=hval (us.take (k+1))+65536^(k+1)*r':=by
 refine⟨eP.append hh (eP.cons hd (eP.nil _)),?_⟩;have h1:hval (ts.take (k+1))=hval (ts.take k)+65536^k*y:=by rw[<-hy];exact cN 65536 ts k
 have h2:hval (us.take (k+1))=hval (us.take k)+65536^k*x:=by rw[<-hx];exact cN 65536 us k
 rw[lP,hl,h1,h2,fP];exact Ml 65536 _ x y r d r' _ _ _ hv he
set_option maxRecDepth 100000 in
theorem CV (va vb:Value) (n m:Nat) (xs ys:List Nat) (w:World) (hr:Rd w 1 va n (ints .u32 xs)) (hs:Rd w 1 vb m (ints .u32 ys)) (hx:da xs) (hy:da ys) (hn:n<=1073741824) (hm:m<=1073741824):
  Calls Tryz.prog 199 #[va,vb] w λe w'=>((ar xs<ar ys/\e=.returned (.tuple #[.slice none 0 0,.int .i64 2]))\/
   (ar ys<=ar xs/\∃ v',e=.returned (.tuple #[v',.int .i64 0])/\w'.ownsRow w.heap.size 78 1 v' (limbs (ar xs-ar ys)).length (ints .u32 (limbs (ar xs-ar ys)))))/\Below w.heap.size w w':=by
 obtain⟨p,c,rfl,fV,gj,fv⟩:=hr.u32;obtain⟨q,d,rfl,NY,IJ,iU⟩:=hs.u32;obtain⟨i0,hi,jI,gu,jP⟩:=info_parts yw;have Hr:=af hr;have Hs:=af hs;have HL:=af hx;have HM:=af hy;have vu:=dM hx;have qy:=dM hy;rw[fv] at vu;rw[iU] at qy;obtain⟨a,ha⟩:∃ a,a=ar xs:=⟨_,aa⟩;obtain⟨b,hb⟩:∃ b,b=ar ys:=⟨_,aa⟩;rw[<-ha] at vu ⊢;rw[<-hb] at qy ⊢;have HA:=af ha;have HBb:=af hb;clear hr hs hx hy fv iU ha hb;refine aZ λR' cj=> ?_;go_enter Tryz.func199,Tryz.ntmps199
 go_wp2_with fail
 refine (wq _ _ n m xs ys _ Hr.out Hs.out HL.out HM.out hn hm).mono ?_;rintro e w0 ⟨rfl,rS⟩;rw[<-HA.out,<-HBb.out];have HB0:=af rS;have hB0s:=rS.size;clear rS;by_cases xX:a<b
 ·have hc:im a b<0:=kA.2 xX;generalize im a b=cv at hc ⊢;go_wp2_with fail
  exact cj.out _ _ ⟨.inl ⟨xX,aa⟩,HB0.out⟩
 ·have hc:0<=im a b:=by have:=mt (@kA a b).1 xX;omega
  generalize im a b=cv at hc ⊢;have hlen:(halves b).length<=(halves a).length:=dX ae ae;have HAB:=af xX;clear xX;go_wp2_with fail
  refine (fY _ n xs _ (Hr.out.below HB0.out) HL.out hn).mono ?_;rintro e w1 ⟨v1,rfl,aN,bF⟩;rw[<-HA.out] at aN;have tR:=af (Rd.own aN);have EZ:=af (HB0.out.trans (bF.mono hB0s));have hB1s:=bF.size;clear aN bF;go_wp2_with fail
  refine (fY _ m ys _ (Hs.out.below EZ.out) HM.out hm).mono ?_;rintro e w2 ⟨v2,rfl,aN,cJ⟩;rw[<-HBb.out] at aN;have HRA0:=af (tR.out.below cJ);have HRB0:=af (Rd.own aN);have xp:=af (EZ.out.trans (cJ.mono EZ.out.size));have hB2s:=cJ.size;clear aN cJ tR EZ;obtain⟨p1,c1,rfl,h11,Nd,_⟩:=HRA0.out.i64;obtain⟨p2,c2,rfl,h21,h22,_⟩:=HRB0.out.i64;generalize Jd:(halves a).length=la at*;generalize IB:(halves b).length=lb at*;have Oc:=af Jd;have Od:=af IB;clear Jd IB;obtain⟨B2,PY⟩:∃ B2,B2=w2.heap.size:=⟨_,aa⟩;have JE:=af PY;have PZ:w.heap.size<=B2:=ae;clear PY;go_wp2_with fail
  go_loopw [8,9,10] (λov bv iv wr=>Qa w2 B2 la (halves a) (halves b) ov bv iv wr) (λ_ _ iv _=>la-(intOf iv).toNat)
  case atStart=>exact⟨0,0,[],fQ _,aa,aa,aa,ae,eP.nil _,by rw[kt,kt];simp[hval,val],mc _ _ _ _,fB _ _⟩
  case round=>
   obtain⟨k,r,ds,hk,vx,rfl,rfl,yV,hdh,hdv,aN,lM⟩:=hrel;have HO:=af aN;have IY:=af vx;have HDH:=af hdh;have HDV:=af hdv;have iV:=af lM;have yg:B2<=wr.heap.size:=by have:=lM.size;have:=JE.out;omega
   have HRB:=af (HRB0.out.jU JE.out lM);clear aN vx hdh hdv;by_cases ET:k<la
   ·obtain⟨b1,o1,x,rfl,_,iI,qz⟩:=(HRA0.out.jU JE.out lM).cellAt ET;have lE:=(cL a).at iI;have HX:Hid ((halves a).getD k 0=x):=by show _=_;rw[List.getD,iI];rfl
    have yf:=lQ (cL b) k;clear iI lM;generalize hy:(halves b).getD k 0=y at*;have HY:=af hy;clear hy;have Cq:(0:Int)<=(k:Int):=ae;have yv:(k:Int)<(la:Int):=ae;have yj:IntKind.i64.wrap ((x:Int)-(y:Int))=(x:Int)-(y:Int):=bQ _ ae;have hw2:IntKind.i64.wrap ((x:Int)-(y:Int)-(r:Int))=(x:Int)-(y:Int)-(r:Int):=bQ _ ae
    have Ct:∀ j:Nat,Calls Tryz.prog 264 #[.slice p2 lb c2,.int .i64 (k:Int)] (wr.drewN j) λe w'=>e=.returned (.int .i64 (y:Int))/\wr.drewN j=w':=λj=>by
     have:=jB _ _ k (halves b) _ (Rd.drewN HRB.out j)
     rwa [HY.out] at this
    have HAT:=af Ct;clear Ct;go_wp2_with fail
    go_quiet ((go_at_call 264;exact yU (HAT.out _) ⟨_,aa⟩))
    clear yj hw2 Cq yv qz;by_cases OV:(x:Int)-(y:Int)-(r:Int)<0
    ·go_wp2_with (at_builtin;refine er (w:=wr.drewN nq) aa _ _ 315 aa B2 3 i0 (.int .i64 0) 8 BV hi jI gu jP aa (Own.drewN HO.out nq) aa aa (d:=x+65536-y-r) ae ae ae yg ?_;intro v1 w3 gI jC)
     have ME:=af gI;have Pe:=af (jC w2 (Below.drewN iV.out nq));clear gI jC;go_wp2_with fail
     go_roundw
     case rel=>
      have hst:=zP (d:=x+65536-y-r) (r':=1) IY.out HDH.out HDV.out HX.out HY.out ae ae;exact⟨k+1,1,ds++[x+65536-y-r],ae,by simp[IY.out],by go_num,rfl,ae,hst.1,hst.2,ME.out,Pe.out⟩
     case measure=>simp[intOf];omega
    ·go_wp2_with (at_builtin;refine er (w:=wr.drewN nq) aa _ _ 315 aa B2 3 i0 (.int .i64 0) 8 BV hi jI gu jP aa (Own.drewN HO.out nq) aa aa (d:=x-y-r) ae ae ae yg ?_;intro v1 w3 gI jC)
     have ME:=af gI;have Pe:=af (jC w2 (Below.drewN iV.out nq));clear gI jC;go_wp2_with fail
     go_roundw
     case rel=>
      have hst:=zP (d:=x-y-r) (r':=0) IY.out HDH.out HDV.out HX.out HY.out ae ae;exact⟨k+1,0,ds++[x-y-r],ae,by simp[IY.out],by go_num,rfl,ae,hst.1,hst.2,ME.out,Pe.out⟩
     case measure=>simp[intOf];omega
   ·obtain rfl:k=la:=by omega
    clear lM;go_wp2_with fail
    refine (rD _ k ds _ (Rd.own HO.out) HDH.out ae).mono ?_;rintro e w4 ⟨v4,rfl,aN,jJ⟩
    have hval:hval ds=a-b:=by
     have h1:=HDV.out
     have e1:hval ((halves a).take k)=a:=by
      show val 65536 _=_;rw[fU (fA Oc.out)];exact bG a
     have e2:hval ((halves b).take k)=b:=by
      show val 65536 _=_;rw[fU (by rw[Od.out];exact hlen)];exact bG b
     rw[e1,e2] at h1;have h3:=uN HDH.out;rw[IY.out] at h3;have Qb:=HAB.out
     have:r=0:=by
      rcases mX r with h|h
      ·exact h
      ·have:r=1:=by omega
       subst this;omega
     subst this;omega
    rw[hval] at aN;have HOWN:=af aN;clear aN;go_wp2_with fail
    refine cj.out _ _ ⟨.inr ⟨by have:=HAB.out;omega,v4,rfl,?_⟩,(xp.out.trans (iV.out.mono PZ)).trans (jJ.mono ae)⟩;exact Own.mono HOWN.out ae
theorem JF (neg:Bool) (xs:List Nat) (v:Value) (w:World) (h:gl w v neg xs):
  Calls Tryz.prog 190 #[v] w λe w'=>e=.returned (.bool (eu neg xs))/\ax w w':=by
 obtain⟨p,c,rfl,hr,hl⟩:=h;obtain⟨p',c',hv,fV,gj,-⟩:=hr.u32;simp only[Value.slice.injEq,true_and] at hv;obtain⟨rfl,rfl⟩:=hv;refine aZ λR' cj=> ?_;by_cases hx:xs=[]
 ·subst hx;simp only[List.length_nil,sV] at*;go_enter Tryz.func190,Tryz.ntmps190
  cases neg
  ·go_wp2
   exact cj.out _ _ ⟨aa,(ax.refl w).alloc _⟩
  ·go_wp2
   exact cj.out _ _ ⟨aa,(ax.refl w).alloc _⟩
 ·obtain⟨m,hm⟩:∃ m,xs.length=m+1:=⟨xs.length-1,by have:=List.length_pos_iff.2 hx;omega⟩;generalize hn:xs.length=n at*;obtain⟨b,off,x,rfl,hb,hxm,hc⟩:=hr.cellAt (k:=m) ae;have h1:eu neg xs=decide (x≠0):=xq (by rw[hn,hm];exact hxm);rw[h1] at cj;have hz:((n:Int) == 0)=false:=by rw[lZ];omega
  have hp:(0:Int)<(n:Int):=ae;have hw:IntKind.i64.wrap ((n:Int)-1)=(m:Int):=by rw[bQ _ ae];omega
  have hlt:(m:Int)<(n:Int):=ae;have HN:=af hn;have hpn:0<n:=ae;clear hx hm hn h1 hxm hr hl;go_enter Tryz.func190,Tryz.ntmps190
  by_cases pA:x=0
  ·subst pA;cases neg
   ·go_wp2
    exact cj.out _ _ ⟨aa,(ax.refl w).alloc _⟩
   ·go_wp2
    exact cj.out _ _ ⟨aa,(ax.refl w).alloc _⟩
  ·have Jz:((x:Int) != 0)=true:=by rw[bne_iff_ne];omega
   rw[aU pA] at cj;clear pA;cases neg
   ·go_wp2
    exact cj.out _ _ ⟨aa,(ax.refl w).alloc _⟩
   ·go_wp2
    exact cj.out _ _ ⟨aa,(ax.refl w).alloc _⟩
theorem tr (v:Value) (X:Int) (k:Nat) (w0 w:World) (h:cY w0 v X k) (rS:ax w0 w):
  Calls Tryz.prog 196 #[v] w λe w'=>∃ u,e=.returned u/\cX w0 u X/\ax w w':=by
 obtain⟨neg,xs,hn,rfl,hk⟩:=h;refine aZ λR' cj=> ?_;have HN:=af hn;obtain⟨p,c,rfl,hr,hl⟩:=hn;clear hr;go_enter ug,Tryz.ntmps196
 go_wp2_with fail
 refine (JF neg xs _ _ ((HN.out.aA rS).aA (((ax.refl w).alloc _).alloc _))).mono ?_;rintro e w1 ⟨rfl,bF⟩;obtain⟨b1,b2,nZ⟩:=nU w 36 36 #[.bool neg,.slice p xs.length c] #[.bool false,.slice none 0 0];obtain⟨c1,c2,_,_⟩:=(b1.aA bF).two;obtain⟨c3,c4,f3,f4⟩:=(b2.aA bF).two;have ye:ax w w1:=nZ.aG bF;cases hnr:eu neg xs
 ·have B2:=(b2.aA bF).cu (.bool false) (.slice none 0 0);have xp:=ye.cu (b:=w.heap.size+1) ae (.bool false) (.slice none 0 0);go_wp2
  generalize (w1.setCell ⟨w.heap.size+1,0,none⟩ (.bool false)).setCell ⟨w.heap.size+1,1,none⟩ (.slice none 0 0)=w2 at*;obtain⟨d1,d2,_,_⟩:=B2.two;refine bodyPost_ret (v:=.agg #[.bool false,.slice none 0 0]) (by simp[results,Tryz.results196,go_sem,d1,d2]) aa (cj.out _ _ ⟨_,aa,?_,xp⟩);rw[numOf,if_neg (by simp[hnr])];exact cX.zero _
 ·have B2:=(b2.aA bF).cu (.bool neg) (.slice p xs.length c);have xp:=ye.cu (b:=w.heap.size+1) ae (.bool neg) (.slice p xs.length c);go_wp2
  generalize (w1.setCell ⟨w.heap.size+1,0,none⟩ (.bool neg)).setCell ⟨w.heap.size+1,1,none⟩ (.slice p xs.length c)=w2 at*;obtain⟨d1,d2,_,_⟩:=B2.two;refine bodyPost_ret (v:=.agg #[.bool neg,.slice p xs.length c]) (by simp[results,Tryz.results196,go_sem,d1,d2]) aa (cj.out _ _ ⟨_,aa,?_,xp⟩);rw[numOf,if_pos hnr];obtain⟨h1,h2⟩:=canon hl hnr;have:=HN.out;show gl _ _ _ _;rw[<-h1,<-h2];exact this
theorem kJ (neg:Bool) (v:Value) (n:Nat) (xs:List Nat) (w:World) (hr:Rd w 1 v n (ints .u32 xs)) (hl:da xs) (hn:n<=1073741824):
  Calls Tryz.prog 197 #[.bool neg,v] w λe w'=>∃ r,e=.returned r/\aJ w' w.heap.size r (if neg=true then-(ar xs:Int) else ar xs)/\ax w w':=by
 obtain⟨p,c,rfl,_,_,_⟩:=hr.u32;have HR:=af hr;have pJ:=aQ.new w 36 #[.bool false,.slice none 0 0];have nZ:=(ax.refl w).alloc (.cells #[.bool false,.slice none 0 0] 36);clear hr;refine aZ λR' cj=> ?_;go_enter uh,Tryz.ntmps197
 go_wp2_with fail
 refine (JC _ n xs _ (HR.out.below nZ) hl hn).mono ?_;rintro e w1 ⟨v1,rfl,wj,bF⟩;replace bF:ax _ w1:=bF;obtain⟨p1,k1,rfl,_,_,_⟩:=Own.form wj;generalize hL:(limbs (ar xs)).length=L at*;have HL:=af hL;have FC:=pJ.aA bF;have FB:=nZ.aG bF;obtain⟨c1,c2,f1,f2⟩:=FC.two;have Lw:=Own.mono wj nZ.size;clear hL wj;cases neg
 ·have HO:=af (Own.cu Lw FC cW (.bool false) (.slice p1 L k1));clear Lw;have Ee:=FC.cu (.bool (false)) (.slice p1 (L) k1);have Ef:=ax.cu FB (b:=w.heap.size) ae (.bool (false)) (.slice p1 (L) k1);go_wp2
  generalize (w1.setCell ⟨w.heap.size,0,none⟩ (.bool (false))).setCell ⟨w.heap.size,1,none⟩ (.slice p1 (L) k1)=wz at*;obtain⟨Eg,Eh,_,_⟩:=Ee.two;refine bodyPost_ret (v:=.agg #[.bool (false),.slice p1 (L) k1]) (by simp[results,Tryz.results197,go_sem,Eg,Eh]) aa (cj.out _ _ ?_);exact⟨_,aa,aJ.of (neg:=false) (by rw[HL.out];exact HO.out) HL.out.symm _ cf,Ef⟩
 ·have HO:=af (Own.cu Lw FC cW (.bool (decide (0<L))) (.slice p1 L k1));clear Lw;have Ee:=FC.cu (.bool (decide (0<L))) (.slice p1 (L) k1);have Ef:=ax.cu FB (b:=w.heap.size) ae (.bool (decide (0<L))) (.slice p1 (L) k1);go_wp2
  generalize (w1.setCell ⟨w.heap.size,0,none⟩ (.bool (decide (0<L)))).setCell ⟨w.heap.size,1,none⟩ (.slice p1 (L) k1)=wz at*;obtain⟨Eg,Eh,_,_⟩:=Ee.two;refine bodyPost_ret (v:=.agg #[.bool (decide (0<L)),.slice p1 (L) k1]) (by simp[results,Tryz.results197,go_sem,Eg,Eh]) aa (cj.out _ _ ?_);exact⟨_,aa,aJ.of (neg:=true) (by rw[HL.out];exact HO.out) HL.out.symm _ cf,Ef⟩
def Ei (X Y:Int):Int:=(X-Y).sign
variable {X Y:Int}
theorem LD (h:X<Y):Ei X Y= -1:=sign_neg ae
theorem LF (h:Y<X):Ei X Y=1:=fD ae
theorem CW (a b:Nat):Ei (a:Int) b=im a b:=by
 rcases Fj a b with h|rfl|h
 ·rw[LD ae,nu h]
 ·rw[ui];simp[Ei]
 ·rw[LF ae,nw h]
theorem JG (a b:Nat):Ei (-(a:Int)) (-(b:Int))=im b a:=by
 rw[<-CW];unfold Ei;congr 1;omega
theorem Qc (v u:Value) (X Y:Int) (j k:Nat) (w:World) (hv:cY w v X j) (hu:cY w u Y k) (hj:j<=1073741824) (hk:k<=1073741824):
  Calls Tryz.prog 259 #[v,u] w λe w'=>e=.returned (.int .i64 (Ei X Y))/\ax w w':=by
 obtain⟨s,p,n,c,rfl⟩:=hv.form;obtain⟨t,q,m,d,rfl⟩:=hu.form;refine aZ λR' cj=> ?_;obtain⟨b1,b2,nZ⟩:=nU w 36 36 #[.bool s,.slice p n c] #[.bool t,.slice q m d];have HJ:=af (aV hv.len hj);have HK:=af (aV hu.len hk);have HV:=af hv;have HU:=af hu;clear hv hu hj hk;go_enter Tryz.func259,Tryz.ntmps259
 go_wp2_with fail
 generalize (w.alloc _).alloc _=W at*;refine (tr _ X j w _ HV.out jf).mono ?_;rintro e wa ⟨ua,rfl,hua,Qb⟩;obtain⟨s1,p1,n1,k1,rfl⟩:=hua.jv;obtain⟨a1,a2,a3,a4⟩:=(b1.aA Qb).two;obtain⟨a5,a6,a7,a8⟩:=(b2.aA Qb).two;have B1:=(b1.aA Qb).cu (.bool s1) (.slice p1 n1 k1);have B2:=(b2.aA Qb).eF (b':=w.heap.size) ae (.bool s1) (.slice p1 n1 k1);have hZ:=bo.Pk (bo.Pk (bo.aG (bo.refl W w.heap.size (w.heap.size+1)) Qb) (j:=0) (.bool s1)) (j:=1) (.slice p1 n1 k1);have HB:=ax.cu (nZ.aG Qb) (b:=w.heap.size) ae (.bool s1) (.slice p1 n1 k1);have HPA:=af hua.parts;have HSA:=af hua.sgn;have HUA:=af hua;clear hua;go_wp2_with fail
 generalize (wa.setCell ⟨w.heap.size,0,none⟩ (.bool s1)).setCell ⟨w.heap.size,1,none⟩ (.slice p1 n1 k1)=wb at*;clear a1 a2 a3 a4 a5 a6 a7 a8 Qb;refine (tr _ Y k w _ HU.out HB).mono ?_;rintro e wc ⟨ub,rfl,hub,ye⟩;obtain⟨s2,p2,n2,k2,rfl⟩:=hub.jv;obtain⟨a1,a2,a3,a4⟩:=(B1.aA ye).two;obtain⟨a5,a6,a7,a8⟩:=(B2.aA ye).two;have D1:=(B1.aA ye).eF (b':=w.heap.size+1) ae (.bool s2) (.slice p2 n2 k2);have D2:=(B2.aA ye).cu (.bool s2) (.slice p2 n2 k2);have hY:=bo.sw (bo.sw (bo.aG hZ ye) (j:=0) (.bool s2)) (j:=1) (.slice p2 n2 k2);have HD:=ax.cu (HB.aG ye) (b:=w.heap.size+1) ae (.bool s2) (.slice p2 n2 k2);have HPB:=af hub.parts;have HSB:=af hub.sgn;have HUB:=af hub;clear hub B1 B2 HB ye hZ;have Jz:n1<=1073741824:=by rw[HPA.out.1];exact HJ.out
 have CX:n2<=1073741824:=by rw[HPB.out.1];exact HK.out
 have HX1:=af Jz;have OG:=af CX;clear Jz CX;cases s1 <;> cases s2
 ·go_wp2_with fail
  generalize (wc.setCell ⟨w.heap.size+1,0,none⟩ (.bool false)).setCell ⟨w.heap.size+1,1,none⟩ (.slice p2 n2 k2)=wd at*;refine (wq _ _ n1 n2 _ _ _ (HPA.out.2.1.below HD) (HPB.out.2.1.below HD) (aC _) (aC _) HX1.out OG.out).mono ?_;rintro e we ⟨rfl,Nf⟩;rw[aw,aw,<-CW];have e1:(X.natAbs:Int)=X:=by have:=HPA.out.2.2;simpa using this.symm
  have e2:(Y.natAbs:Int)=Y:=by have:=HPB.out.2.2;simpa using this.symm
  rw[e1,e2];go_wp2_with fail
  exact cj.out _ _ ⟨aa,HD.aG Nf⟩
 ·have h1:¬ X<0:=of_decide_eq_false HSA.out.symm;have h2:Y<0:=mY HSB.out.symm;rw[LF ae] at cj;go_wp2
  exact cj.out _ _ ⟨aa,HD⟩
 ·have h1:X<0:=mY HSA.out.symm;have h2:¬ Y<0:=of_decide_eq_false HSB.out.symm;rw[LD ae] at cj;go_wp2
  exact cj.out _ _ ⟨aa,HD⟩
 ·go_wp2_with fail
  generalize (wc.setCell ⟨w.heap.size+1,0,none⟩ (.bool true)).setCell ⟨w.heap.size+1,1,none⟩ (.slice p2 n2 k2)=wd at*;refine (wq _ _ n2 n1 _ _ _ (HPB.out.2.1.below HD) (HPA.out.2.1.below HD) (aC _) (aC _) OG.out HX1.out).mono ?_;rintro e we ⟨rfl,Nf⟩;rw[aw,aw,<-JG];have e1: -(X.natAbs:Int)=X:=by have:=HPA.out.2.2;simpa using this.symm
  have e2: -(Y.natAbs:Int)=Y:=by have:=HPB.out.2.2;simpa using this.symm
  rw[e1,e2];go_wp2_with fail
  exact cj.out _ _ ⟨aa,HD.aG Nf⟩
theorem dH (v:Value) (X:Int) (j:Nat) (w:World) (hv:cY w v X j) (hj:j<=1073741824):
  Calls Tryz.prog 191 #[v] w λe w'=>e=.returned (.int .i64 X.sign)/\ax w w':=by
 obtain⟨s,p,n,c,rfl⟩:=hv.form;refine aZ λR' cj=> ?_;have nZ:=(ax.refl w).alloc (.cells #[.bool s,.slice p n c] 36);have HV:=af (hv.aA nZ);have e1:=af (show Ei X 0=X.sign by simp[Ei]);clear hv;go_enter ku,Tryz.ntmps191
 go_wp2_with fail
 generalize w.alloc _=W at*;refine (Qc _ _ X 0 j 0 _ HV.out ((cX.zero _).to (by simp[cz])) hj ae).mono ?_;rintro e w1 ⟨rfl,bF⟩;rw[e1.out];go_wp2
 exact cj.out _ _ ⟨aa,nZ.aG bF⟩
variable {U:TypeId} {T:TypeId->Bool} {w':World}
theorem Rd.kp {n:Nat} (h:Rd w 1 v n (ints .u32 xs)) (k:aK ⟨U,λ_=>True,T⟩ w w'):Rd w' 1 v n (ints .u32 xs):=by
 obtain⟨p,c,rfl,h1,h2,h3,h4⟩:=h;refine⟨p,c,aa,h1,h2,h3,λhn=> ?_⟩;obtain⟨b,off,hp,hc⟩:=h4 hn;refine⟨b,off,hp,λj u hj=> ?_⟩;obtain⟨x,hx,rfl⟩:=ey.1 (dc hj);exact k.cell _ _ aj (hc j _ hj)
theorem Own.kp {sz n:Nat} {cs:List Value} (h:w.ownsRow B UU sz v n cs) (k:aK ⟨UU,λ_=>True,T⟩ w w'):w'.ownsRow B UU sz v n cs:=by
 refine⟨h.1,?_⟩;rcases h.2 with h2|⟨g,cap,cur,hv,hb,hg,r⟩
 ·exact .inl h2
 ·exact .inr ⟨g,cap,cur,hv,hb,k.block _ g cur aa aj hg,r⟩
theorem gl.kp {s:Bool} (h:gl w v s xs) (k:aK ⟨U,λ_=>True,T⟩ w w'):gl w' v s xs:=by
 obtain⟨p,c,hv,hr,hl⟩:=h;exact⟨p,c,hv,hr.kp k,hl⟩
variable {j:Nat}
theorem cY.kp (h:cY w v X j) (k:aK ⟨U,λ_=>True,T⟩ w w'):cY w' v X j:=by
 obtain⟨s,xs,hn,hx,hj⟩:=h;exact⟨s,xs,hn.kp k,hx,hj⟩
theorem cX.kp (h:cX w v X) (k:aK ⟨U,λ_=>True,T⟩ w w'):cX w' v X:=gl.kp h k
theorem aJ.kp (h:aJ w B v X) (k:aK ⟨UU,λ_=>True,T⟩ w w'):aJ w' B v X:=by
 obtain⟨p,c,hv,ho⟩:=h;exact⟨p,c,hv,Own.kp ho k⟩
theorem aJ.in (h:aJ w B v X) (hs:Sz X j):cY w v X j:=h.rd.to hs
def JH (X Y:Int):Rat:=if 0<Y/\Int.gcd X Y=1 then Rat.divInt X Y else 0
theorem tu (h:0<Y/\Int.gcd X Y=1):(JH X Y).num=X/\((JH X Y).den:Int)=Y:=by
 unfold JH;rw[if_pos h,Rat.num_divInt,Rat.den_divInt,if_neg ae,Int.gcd_comm,h.2];have:Y.sign=1:=fD h.1;rw[this];simp;omega
theorem JI (h:¬ (0<Y/\Int.gcd X Y=1)):JH X Y=0:=if_neg h
theorem CY (q:Rat):JH q.num q.den=q:=by
 have h:(0:Int)<q.den/\Int.gcd q.num q.den=1:=⟨by have:=q.den_nz;omega,by have:=q.reduced;simpa [Int.gcd,Nat.Coprime] using this⟩;obtain⟨h1,h2⟩:=tu h;exact Rat.ext h1 ae
def fZ (w:World) (v:Value) (s:Bool) (xs:List Nat) (t:Bool) (ys:List Nat):Prop:=
 ∃ p c r d,v=.agg #[.bool s,.slice p xs.length c,.bool t,.slice r ys.length d]/\gl w (.agg #[.bool s,.slice p xs.length c]) s xs/\gl w (.agg #[.bool t,.slice r ys.length d]) t ys
def rq (s:Bool) (xs:List Nat) (t:Bool) (ys:List Nat):Rat:=JH (numOf s xs) (numOf t ys)
def dk (w:World) (v:Value) (q:Rat) (k:Nat):Prop:=∃ s xs t ys,fZ w v s xs t ys/\q=rq s xs t ys/\xs.length<=k/\ys.length<=k
def iE (w:World) (v:Value) (q:Rat):Prop:=∃ s p n c t r m d,v=.agg #[.bool s,.slice p n c,.bool t,.slice r m d]/\cX w (.agg #[.bool s,.slice p n c]) q.num/\cX w (.agg #[.bool t,.slice r m d]) (q.den:Int)
def cA (w:World) (B:Nat) (v:Value) (q:Rat):Prop:=∃ s p n c t r m d,v=.agg #[.bool s,.slice p n c,.bool t,.slice r m d]/\aJ w B (.agg #[.bool s,.slice p n c]) q.num/\aJ w B (.agg #[.bool t,.slice r m d]) (q.den:Int)
def lR (q:Rat) (k:Nat):Prop:=Sz q.num k/\Sz (q.den:Int) k
variable {t:Bool}
theorem fZ.kp {s:Bool} {ys:List Nat} (h:fZ w v s xs t ys) (k:aK ⟨U,λ_=>True,T⟩ w w'):fZ w' v s xs t ys:=by
 obtain⟨p,c,r,d,hv,h1,h2⟩:=h;exact⟨p,c,r,d,hv,h1.kp k,h2.kp k⟩
theorem dk.kp {q:Rat} (h:dk w v q j) (k:aK ⟨U,λ_=>True,T⟩ w w'):dk w' v q j:=by
 obtain⟨s,xs,t,ys,h1,h2⟩:=h;exact⟨s,xs,t,ys,h1.kp k,h2⟩
theorem iE.kp {q:Rat} (h:iE w v q) (k:aK ⟨U,λ_=>True,T⟩ w w'):iE w' v q:=by
 obtain⟨s,p,n,c,t,r,m,d,hv,h1,h2⟩:=h;exact⟨s,p,n,c,t,r,m,d,hv,h1.kp k,h2.kp k⟩
theorem cA.kp {q:Rat} (h:cA w B v q) (k:aK ⟨UU,λ_=>True,T⟩ w w'):cA w' B v q:=by
 obtain⟨s,p,n,c,t,r,m,d,hv,h1,h2⟩:=h;exact⟨s,p,n,c,t,r,m,d,hv,h1.kp k,h2.kp k⟩
theorem cA.mono {B':Nat} {q:Rat} (h:cA w B v q) (hB:B'<=B):cA w B' v q:=by
 obtain⟨s,p,n,c,t,r,m,d,hv,h1,h2⟩:=h;exact⟨s,p,n,c,t,r,m,d,hv,h1.mono hB,h2.mono hB⟩
theorem cA.rd {q:Rat} (h:cA w B v q):iE w v q:=by
 obtain⟨s,p,n,c,t,r,m,d,hv,h1,h2⟩:=h;exact⟨s,p,n,c,t,r,m,d,hv,h1.rd,h2.rd⟩
theorem cA.cast {q q':Rat} (h:cA w B v q) (e:q=q'):cA w B v q':=e▸h
theorem cX.len4 {s:Bool} {n:Nat} (h:cX w (.agg #[.bool s,.slice p n c]) X):s=decide (X<0)/\n=(limbs X.natAbs).length:=⟨h.sgn,h.parts.1⟩
theorem iE.raw {q:Rat} (h:iE w v q):fZ w v (decide (q.num<0)) (limbs q.num.natAbs) (decide ((q.den:Int)<0)) (limbs (q.den:Int).natAbs):=by
 obtain⟨s,p,n,c,t,r,m,d,rfl,h1,h2⟩:=h;obtain⟨rfl,rfl⟩:=h1.len4;obtain⟨rfl,rfl⟩:=h2.len4;exact⟨p,c,r,d,aa,h1,h2⟩
theorem iE.to {q:Rat} {k:Nat} (h:iE w v q) (hs:lR q k):dk w v q k:=
 ⟨_,_,_,_,h.raw,by unfold rq;rw[kC,kC,CY],hs.1,hs.2⟩
theorem cA.in {q:Rat} {k:Nat} (h:cA w B v q) (hs:lR q k):dk w v q k:=h.rd.to hs
theorem lR.mono {q:Rat} {k l:Nat} (h:lR q k) (ET:k<=l):lR q l:=⟨h.1.mono ET,h.2.mono ET⟩
theorem lR.zero:lR 0 1:=⟨Sz.zero.mono ae,Sz.small cW⟩
theorem zQ {s:Bool} {k:Nat} (hl:da xs) (h:xs.length<=k):Sz (numOf s xs) k:=aV (Cw hl) h
theorem dk.sz {q:Rat} {k:Nat} (h:dk w v q k) (hk:1<=k):lR q k:=by
 obtain⟨s,xs,t,ys,⟨p,c,r,d,_,⟨_,_,_,_,l1⟩,⟨_,_,_,_,l2⟩⟩,rfl,h1,h2⟩:=h;unfold rq;by_cases hr:0<numOf t ys/\Int.gcd (numOf s xs) (numOf t ys)=1
 ·obtain⟨e1,e2⟩:=tu hr;exact⟨by rw[e1];exact zQ l1 h1,by rw[e2];exact zQ l2 h2⟩
 ·rw[JI hr];exact lR.zero.mono hk
theorem dk.form {q:Rat} {k:Nat} (h:dk w v q k):∃ s p n c t r m d,v=.agg #[.bool s,.slice p n c,.bool t,.slice r m d]:=by
 obtain⟨s,xs,t,ys,⟨p,c,r,d,hv,_⟩,_⟩:=h;exact⟨_,_,_,_,_,_,_,_,hv⟩
theorem iE.parts {s:Bool} {r:Option Addr} {n:Nat} {q:Rat} (h:iE w (.agg #[.bool s,.slice p n c,.bool t,.slice r m d]) q):cX w (.agg #[.bool s,.slice p n c]) q.num/\cX w (.agg #[.bool t,.slice r m d]) (q.den:Int):=by
 obtain⟨s',p',n',c',t',r',m',d',hv,h1,h2⟩:=h;simp only[Value.agg.injEq,Array.mk.injEq,List.cons.injEq,and_true] at hv;obtain⟨e1,e2,e3,e4⟩:=hv;rw[e1,e2,e3,e4];exact⟨h1,h2⟩
theorem iE.form {q:Rat} (h:iE w v q):∃ s p n c t r m d,v=.agg #[.bool s,.slice p n c,.bool t,.slice r m d]:=by
 obtain⟨s,p,n,c,t,r,m,d,hv,_⟩:=h;exact⟨_,_,_,_,_,_,_,_,hv⟩
theorem cA.form {q:Rat} (h:cA w B v q):∃ s p n c t r m d,v=.agg #[.bool s,.slice p n c,.bool t,.slice r m d]:=h.rd.form
theorem yz (hY:0<Y):X.fdiv (Int.gcd X Y:Int)=(Rat.divInt X Y).num/\Y.fdiv (Int.gcd X Y:Int)=((Rat.divInt X Y).den:Int):=by
 have hg:(0:Int)<(Int.gcd X Y:Int):=by
  have:Int.gcd X Y≠0:=λe=>by have:=(KQ.1 e).2;omega
  omega
 rw[Rat.num_divInt,Rat.den_divInt,if_neg ae,fD hY,Int.one_mul,Int.gcd_comm Y X];refine⟨Int.fdiv_eq_ediv_of_nonneg _ ae,?_⟩;rw[Int.fdiv_eq_ediv_of_nonneg _ ae,Int.natCast_ediv]
 congr 1
 omega
theorem low_neg (hY:Y<0):X.fdiv (-(Int.gcd X Y:Int))=(Rat.divInt X Y).num/\Y.fdiv (-(Int.gcd X Y:Int))=((Rat.divInt X Y).den:Int):=by
 have e:Rat.divInt X Y=Rat.divInt (-X) (-Y):=(Rat.neg_divInt_neg X Y).symm;obtain⟨h1,h2⟩:=yz (X:= -X) (Y:= -Y) ae;rw[Int.neg_gcd,Int.gcd_neg] at h1 h2;rw[e,<-h1,<-h2];have fd:∀ a b:Int,(-a).fdiv b=a.fdiv (-b):=λa b=>by rw[<-Int.neg_fdiv_neg,Int.neg_neg]
 exact⟨(fd _ _).symm,(fd _ _).symm⟩
end
set_option maxRecDepth 4000
section
open Go.RowKit
attribute [local irreducible] aE VS
theorem nG (v:Value) (X:Int) (k:Nat) (w:World) (h:cY w v X k):
  Calls Tryz.prog 196 #[v] w λe w'=>∃ u,e=.returned u/\cX w' u X/\ax w w':=
 (tr v X k w w h (ax.refl w)).mono λe w' ⟨u,he,h1,h2⟩=>⟨u,he,h1.aA h2,h2⟩
variable {X:Int} {w:World}
theorem cX.row {s:Bool} {p:Option Addr} {n c:Nat} (h:cX w (.agg #[.bool s,.slice p n c]) X):Rd w 1 (.slice p n c) n (ints .u32 (limbs X.natAbs)):=h.parts.2.1
theorem cX.n {w:World} {s:Bool} {p:Option Addr} {n c:Nat} {X:Int} (h:cX w (.agg #[.bool s,.slice p n c]) X):n=(limbs X.natAbs).length:=h.parts.1
theorem uO {s:Bool} (h:s=decide (X<0)):X=if s=true then-(X.natAbs:Int) else X.natAbs:=by
 subst h;by_cases hx:X<0
 ·simp[hx];omega
 ·simp[hx];omega
variable {full:Array Oper} {C:Cx} {F:Fr} {K:Fr->Hp->World->Prop} {g:FuncId} {H:Hp} {r:List Oper} {vs:List Value} {m:Option (List FuncId)}
theorem VO.cB {o:Oper} {args:List AV} {v:Value} (e:stepOf C full F H o=.call (.fn g args)) (hv:fE args=some vs) (hf:xQ C.P g) (con:∀ w1,aK C.K w w1->C.Old w1->Calls C.P g vs.toArray w1 λe w2=>e=.returned v/\ax w1 w2) (h:∀ w1,aK C.K w w1->C.Old w1->∀ w2,ax w1 w2->aK C.K w w2->aK C.K w1 w2->C.Old w2->aE C m full r K (F.bO o.dst (.val v)) H w2):aE C m full (o::r) K F H w:=
 VO.call e hv hf λw1 a b=>(con w1 a b).mono λ_ w2 x=>⟨v,x.1,x.2,h w1 a b w2 x.2⟩
variable {Φ:World->World->Value->Prop}
theorem VO.cR {o:Oper} {args:List AV} (e:stepOf C full F H o=.call (.fn g args)) (hv:fE args=some vs) (hf:xQ C.P g) (con:∀ w1,aK C.K w w1->C.Old w1->Calls C.P g vs.toArray w1 λe w2=>∃ r,e=.returned r/\Φ w1 w2 r/\ax w1 w2) (h:∀ w1,aK C.K w w1->C.Old w1->∀ w2 (s:Bool) (p:Option Addr) (n c:Nat) (t:Bool) (y:Option Addr) (i j:Nat),Φ w1 w2 (.agg #[.bool s,.slice p n c,.bool t,.slice y i j])->ax w1 w2->aK C.K w w2->aK C.K w1 w2->C.Old w2->aE C m full r K (F.bO o.dst (.val (.agg #[.bool s,.slice p n c,.bool t,.slice y i j]))) H w2) (hΦ:∀ w1 w2 r,Φ w1 w2 r->∃ s p n c t y i j,r=.agg #[.bool s,.slice p n c,.bool t,.slice y i j]:=by exact λ_ _ _ h=>h.form):aE C m full (o::r) K F H w:=
 VO.call e hv hf λw1 a b=>(con w1 a b).mono λ_ w2 ⟨r,x1,x2,x3⟩=>by
   obtain⟨s,p,n,c,t,y,i,j,rfl⟩:=hΦ _ _ _ x2;exact⟨_,x1,x3,h w1 a b w2 s p n c t y i j x2 x3⟩
theorem VO.cI {o:Oper} {args:List AV} (e:stepOf C full F H o=.call (.fn g args)) (hv:fE args=some vs) (hf:xQ C.P g) (con:∀ w1,aK C.K w w1->C.Old w1->Calls C.P g vs.toArray w1 λe w2=>∃ r,e=.returned r/\Φ w1 w2 r/\ax w1 w2) (h:∀ w1,aK C.K w w1->C.Old w1->∀ w2 (s:Bool) (p:Option Addr) (n c:Nat),Φ w1 w2 (.agg #[.bool s,.slice p n c])->ax w1 w2->aK C.K w w2->aK C.K w1 w2->C.Old w2->aE C m full r K (F.bO o.dst (.val (.agg #[.bool s,.slice p n c]))) H w2) (hΦ:∀ w1 w2 r,Φ w1 w2 r->∃ s p n c,r=.agg #[.bool s,.slice p n c]:=by exact λ_ _ _ h=>h.form):aE C m full (o::r) K F H w:=
 VO.call e hv hf λw1 a b=>(con w1 a b).mono λ_ w2 ⟨r,x1,x2,x3⟩=>by
   obtain⟨s,p,n,c,rfl⟩:=hΦ _ _ _ x2;exact⟨_,x1,x3,h w1 a b w2 s p n c x2 x3⟩
variable {P Q:Prop}
theorem ag (h:Q) (i:Q->P:=by intro h;(repeat first|refine wN ?_|refine wP rfl ?_|refine xS rfl ?_|refine cx_d rfl ?_|refine wO rfl rfl ?_);exact h):P:=i h
theorem dB {X:Prop} (hb:X) (h:Q) (i:X->Q->P:=by intro hb h;refine⟨_,rfl,hb,λa b c=>wV rfl ?_⟩;refine ag ?_;revert a b c;exact h):P:=i hb h
theorem ck (h:Q) (i:Q->P:=by intro h;exact VS.ret (bU _ _) rfl rfl h):P:=i h
theorem zR (v:Value) (X:Int) (j:Nat) (w:World) (hv:cY w v X j) (hj:j<=1073741824):
  Calls Tryz.prog 194 #[v] w λe w'=>∃ r,e=.returned r/\aJ w' w.heap.size r (-X)/\ax w w':=by
 obtain⟨s,p,n,c,rfl⟩:=hv.form;have hl:=hv.len;refine ai (C:=aY Tryz.prog w _) (args:=[_]) Tryz.func194 aa Tryz.ntmps194 (cG aa) ?_;refine ag ?_;refine VO.call aa aa (fk ug) (λcV eG db=>(nG _ X j cV (hv.kp eG)).mono ?_);rintro e w1 ⟨r1,rfl,h1,bF⟩;obtain⟨s1,p1,n1,c1,rfl⟩:=h1.jv;refine dB bF ?_;intro fM _ bb1;refine VO.call aa aa (fk ug) (λeD gO fG=>(nG _ X j eD (hv.kp ((fM).aG gO))).mono ?_);rintro e w2 ⟨r2,rfl,h2,cJ⟩;obtain⟨s2,p2,n2,c2,rfl⟩:=h2.jv;refine dB cJ ?_;intro jH _ bb2;refine VO.cI aa aa (fk uh) (λiG iK jm=>kJ (!s1) _ n2 _ iG (h2.row.kp iK) (aC _) (by rw[h2.n];omega)) (λiG iK jm w3 s3 p3 n3 c3 h3 ee nH _ bb3=>wV aa ?_);refine ag ?_;refine ck ?_;intro wz kz bz;refine⟨_,aa,aJ.cast ((h3.kp kz).mono jm.size) ?_,bz⟩;rw[aw];have:=uO h1.sgn;cases s1 <;> simp at this ⊢ <;> omega
theorem zS (v u:Value) (X Y:Int) (j k:Nat) (w:World) (hv:cY w v X j) (hu:cY w u Y k) (hj:j<=536870912) (hk:k<=536870911):
  Calls Tryz.prog 140 #[v,u] w λe w'=>∃ r,e=.returned r/\aJ w' w.heap.size r (X+Y)/\ax w w':=by
 obtain⟨s,p,n,c,rfl⟩:=hv.form;obtain⟨t,q,m,d,rfl⟩:=hu.form;have vu:=hv.len;have qy:=hu.len;refine ai (C:=aY Tryz.prog w _) (args:=[_,_]) Tryz.func140 aa Tryz.ntmps140 (cG aa) ?_;refine ag ?_;refine VO.call aa aa (fk ug) (λcV eG db=>(nG _ X j cV (hv.kp eG)).mono ?_);rintro e w1 ⟨r1,rfl,h1,bF⟩;obtain⟨s1,p1,n1,c1,rfl⟩:=h1.jv;refine dB bF ?_;intro fM _ bb1;refine VO.call aa aa (fk ug) (λeD gO fG=>(nG _ Y k eD (hu.kp ((fM).aG gO))).mono ?_);rintro e w2 ⟨r2,rfl,h2,cJ⟩;obtain⟨s2,p2,n2,c2,rfl⟩:=h2.jv;refine dB cJ ?_;intro jH _ bb2;have e1:=uO h1.sgn;have e2:=uO h2.sgn;have OS:n1<=536870912:=by rw[h1.n];omega
 have Bj:n2<=536870911:=by rw[h2.n];omega
 by_cases hst:s1=s2
 ·subst hst;refine VS.bB aa cf ?_;refine ag ?_;refine VO.call aa aa (fk Tryz.func198) (λiG iK jm=>(Nb _ _ n1 n2 _ _ iG (h1.row.kp (gO.aG ((Kp.of cJ).aG iK))) (h2.row.kp iK) (aC _) (aC _) ae ae).mono ?_);rintro e w3 ⟨v3,rfl,h3,ee⟩;obtain⟨p3,c3,rfl,_⟩:=Own.form h3;refine dB ee ?_;intro nH _ bb3;refine VO.cI aa aa (fk uh) (λmB pE pG=>kJ s1 _ _ _ mB (Rd.own (Own.kp h3 pE)) (aC _) (by have:=sum_len (a:=ar (limbs X.natAbs)) (b:=ar (limbs Y.natAbs)) (n:=n1) (m:=n2) (by rw[aw];exact h1.n) (by rw[aw];exact h2.n);omega)) (λmB pE pG w4 s4 p4 n4 c4 h4 jJ sO _ Ej=>wV aa ?_);refine ag ?_;refine ck ?_;intro wz kz bz;refine⟨_,aa,aJ.cast ((h4.kp kz).mono pG.size) ?_,bz⟩;rw[aw,aw,aw];cases s1 <;> simp at e1 e2 ⊢ <;> omega
 ·refine VS.bC aa (by simpa using hst) ?_;refine ag ?_;refine VO.call aa aa (fk Tryz.func199) (λiG iK jm=>(CV _ _ n1 n2 _ _ iG (h1.row.kp (gO.aG ((Kp.of cJ).aG iK))) (h2.row.kp iK) (aC _) (aC _) ae ae).mono ?_);rintro e w3 ⟨h3,ee⟩;rw[aw,aw] at h3;rcases h3 with ⟨hlt,rfl⟩|⟨hle,v3,rfl,h3⟩
  ·refine dB ee ?_;intro nH _ bb3;refine VO.call aa aa (fk Tryz.func199) (λmB pE pG=>(CV _ _ n2 n1 _ _ mB (h2.row.kp (iK.aG ((Kp.of ee).aG pE))) (h1.row.kp (gO.aG ((Kp.of cJ).aG (iK.aG ((Kp.of ee).aG pE))))) (aC _) (aC _) ae ae).mono ?_);rintro e w4 ⟨h4,jJ⟩;rw[aw,aw] at h4;rcases h4 with ⟨hlt',rfl⟩|⟨hle',v4,rfl,h4⟩
   ·omega
   ·obtain⟨p4,c4,rfl,_⟩:=Own.form h4;refine dB jJ ?_;intro sO _ Ej;refine VO.cI aa aa (fk uh) (λmP oV og=>kJ s2 _ _ _ mP (Rd.own (Own.kp h4 oV)) (aC _) (by have:=dt (show Y.natAbs-X.natAbs<=Y.natAbs by omega);omega)) (λmP oV og w5 s5 p5 n5 c5 h5 lL tw _ Ek=>wV aa ?_);refine ag ?_;refine ck ?_;intro wz kz bz;refine⟨_,aa,aJ.cast ((h5.kp kz).mono og.size) ?_,bz⟩;rw[aw];cases s1 <;> cases s2 <;> simp at e1 e2 hst ⊢ <;> omega
  ·obtain⟨p3,c3,rfl,_⟩:=Own.form h3;refine dB ee ?_;intro nH _ bb3;refine VO.cI aa aa (fk uh) (λmP oV og=>kJ s1 _ _ _ mP (Rd.own (Own.kp h3 oV)) (aC _) (by have:=dt (show X.natAbs-Y.natAbs<=X.natAbs by omega);omega)) (λmP oV og w5 s5 p5 n5 c5 h5 lL tw _ Ek=>wV aa ?_);refine ag ?_;refine ck ?_;intro wz kz bz;refine⟨_,aa,aJ.cast ((h5.kp kz).mono og.size) ?_,bz⟩;rw[aw];cases s1 <;> cases s2 <;> simp at e1 e2 hst ⊢ <;> omega
theorem GY (v u:Value) (X Y:Int) (j k:Nat) (w:World) (hv:cY w v X j) (hu:cY w u Y k) (hj:j<=536870912) (hk:k<=536870911):
  Calls Tryz.prog 261 #[v,u] w λe w'=>∃ r,e=.returned r/\aJ w' w.heap.size r (X-Y)/\ax w w':=by
 obtain⟨s,p,n,c,rfl⟩:=hv.form;obtain⟨t,q,m,d,rfl⟩:=hu.form;refine ai (C:=aY Tryz.prog w _) (args:=[_,_]) Tryz.func261 aa Tryz.ntmps261 (cG aa) ?_;refine ag ?_;refine VO.cI aa aa (fk Tryz.func194) (λcV eG db=>zR _ Y k cV (hu.kp eG) ae) (λcV eG db w1 s1 p1 n1 c1 h1 bF fM _ bb1=>wV aa ?_);refine ag ?_;refine VO.cI aa aa (fk Tryz.func140) (λeD gO fG=>zS _ _ X (-Y) j k eD (hv.kp ((fM).aG gO)) ((h1.kp gO).in (Sz.neg hu.len)) hj hk) (λeD gO fG w2 s2 p2 n2 c2 h2 cJ jH _ bb2=>wV aa ?_);refine ag ?_;refine ck ?_;intro wz kz bz;exact⟨_,aa,aJ.cast ((h2.kp kz).mono fG.size) (Int.sub_eq_add_neg).symm,bz⟩
end
section
open Go.RowKit
attribute [local irreducible] aE VS
set_option maxRecDepth 100000 in
theorem jj (p:Option Addr) (n c:Nat) (xs:List Nat) (w:World) (hr:Rd w 1 (.slice p n c) n (ints .i64 xs)) (hl:iz xs):
  Calls Tryz.prog 267 #[.slice p n c] w λe w'=>(∃ m,m<=n/\e=.returned (.slice p m c)/\halves (hval xs)=xs.take m)/\w=w':=by
 obtain⟨p',c',hv,fV,gj,fv⟩:=hr.i64;simp only[Value.slice.injEq,true_and] at hv;obtain⟨rfl,rfl⟩:=hv;have HX:Hid (xs.length=n):=fv;clear fv;refine aZ λR' cj=> ?_;go_enter xh,Tryz.ntmps267
 go_wp2
 go_loop [0] (λv=>∃ m,m<=n/\v=.slice p m c/\hval (xs.take m)=hval xs) (λv=>match v with | .slice _ m _=>m|_=>0)
 case atStart=>exact⟨n,aP _,aa,by rw[cO (fA HX.out)]⟩
 case round=>
  obtain⟨m,hm,rfl,hv⟩:=hrel;have HV:Hid (hval (xs.take m)=hval xs):=hv;clear hv;by_cases h0:m=0
  ·subst h0;go_wp2
   exact cj.out _ _ ⟨⟨0,fQ _,aa,lK ae hl (fQ _) HV.out (.inl aa)⟩,aa⟩
  ·obtain⟨b,off,x,rfl,hb,hx,hc⟩:=hr.cellAt (k:=m-1) ae;have OG:Hid (xs[m-1]? =some x):=hx;clear hx;have h0':0<m:=ae;obtain⟨j,rfl⟩:∃ j,m=j+1:=⟨m-1,ae⟩;rw[Nat.add_sub_cancel] at hc;by_cases pA:x=0
   ·subst pA;go_wp2
    go_round
    case rel=>exact⟨j,ae,aa,(nt OG.out).symm.trans HV.out⟩
    case measure=>simp
   ·have hx0':((x:Int) == 0)=false:=by rw[lZ];omega
    go_wp2
    exact cj.out _ _ ⟨⟨j+1,hm,aa,lK ae hl (by rw[HX.out];exact hm) HV.out (.inr ⟨x,OG.out,pA⟩)⟩,aa⟩
set_option maxRecDepth 100000 in
theorem El (va:Value) (n:Nat) (xs:List Nat) (w:World) (hr:Rd w 1 va n (ints .u32 xs)) (hl:da xs) (hn:n<=1073741824):
  Calls Tryz.prog 202 #[va] w λe w'=>∃ v',e=.returned v'/\w'.ownsRow w.heap.size 3 1 v' (halves (ar xs)).length (ints .i64 (halves (ar xs)))/\Below w.heap.size w w':=by
 obtain⟨p,c,rfl,fV,gj,fv⟩:=hr.u32;obtain⟨i0,hi,jI,gu,jP⟩:=info_parts yw;obtain⟨B,hB⟩:∃ B,B=w.heap.size:=⟨_,aa⟩;have HB:=af hB;have Hr:=af hr;have HL:=af hl;have HX:=af fv;rw[<-hB];clear hr hl fv hB;refine aZ λR' cj=> ?_;go_enter Tryz.func202,Tryz.ntmps202
 go_wp2
 go_loopw [3,4] (λov iv wr=>LA w B xs ov iv wr) (λ_ iv _=>n-(intOf iv).toNat)
 case atStart=>exact⟨0,[],fQ _,aa,aa,eP.nil _,aa,mc _ _ _ _,fB _ _⟩
 case round=>
  obtain⟨k,hs,hk,rfl,hhl,hhh,hhv,aN,hb⟩:=hrel;have HK:=af hk;have HO:=af aN;have HHL:=af hhl;have HHH:=af hhh;have HHV:=af hhv;have iV:=af hb;have yg:B<=wr.heap.size:=by have:=hb.size;have:=HB.out;omega
  have PW:k<=n:=by rw[<-HX.out];exact hk
  clear hk aN hhl hhh hhv hb;by_cases hkn:k<n
  ·obtain⟨b1,o1,x,rfl,bF,iI,hcw⟩:=Hr.out.cellAt hkn;have qz:=(iV.out.cell (p:=⟨b1,o1+k,none⟩) (by rw[HB.out];exact bF)).trans hcw;have hne:=OC HO.out (b:=b1) (by rw[HB.out];exact bF);have yi:=af iI;have lE:=HL.out.at iI;have HNE:=af hne;have Cq:(0:Int)<=(k:Int):=ae;have yv:(k:Int)<(n:Int):=ae;clear iI hcw hne;go_wp2_with fail
   go_region_held3 (λw'=>w'.cell? ⟨b1,o1+k,none⟩=some (.int .u32 (x:Int))) (first|exact qz|go_keep|exact Cl zO qz HNE.out)
    ((refine qS (by rfl) _ _ 315 (by rfl) B 3 i0 (.int .i64 0) 1 8 BV hi jI gu jP aa ae _ (2*k) (ints .i64 hs) (by rfl) ((HO.out.alloc _).drew) _ 2 (ints .i64 [x%65536,x/65536]) (by rfl) (Rd.drew (Rd.lit2 (LB lE) (LC lE))) (oD .i64 [x%65536,x/65536]) (by unfold maxLen;omega) ae (by simp;omega) ?_;intro v1 w1 gI zO))
   have tR:=af gI;have HG1:=af zO;clear gI zO;go_wp2_with fail
   go_roundw
   case rel=>
    have hst:=CT yi.out lE HHL.out HHH.out HHV.out;exact⟨k+1,hs++[x%65536,x/65536],by rw[HX.out];omega,by go_num,by simp[HHL.out];omega,hst.1,hst.2,by rw[jg];exact tR.out,Below.behind iV.out yg HG1.out HO.out (aP _)⟩
   case measure=>simp[intOf];omega
  ·obtain rfl:k=n:=by omega
   obtain⟨p1,c1,IA,_,_,_⟩:=Own.form HO.out;have HV1:=af IA;have vI:Hid (hval hs=ar xs):=by show _=_;rw[HHV.out,bS (fA HX.out)]
   subst IA;go_wp2_with fail
   refine (jj p1 (2*k) c1 hs _ (Rd.own HO.out) HHH.out).mono ?_;rintro e w2 ⟨⟨m,hm,rfl,Ba⟩,rfl⟩;have HC:=Own.cut HO.out hm Ba;rw[vI.out] at HC;have HC1:=af HC.1;have HC2:=af HC.2;clear HC Ba;go_wp2_with fail
   refine cj.out _ _ ⟨_,aa,?_,iV.out⟩;have:=HC1.out;rw[<-HC2.out] at this ⊢;exact this
theorem Qd {n:Int} (h0: -9223372036854775808<=n) (h1:n<=9223372036854775807):qA (n.tmod 4294967296) [IntKind.i64.wrap (0-n.tmod 4294967296)]=((n.natAbs%4294967296:Nat):Int):=by
 have e:(n.tmod 4294967296).natAbs=n.natAbs%4294967296:=by rw[Int.natAbs_tmod];rfl
 have hs:(0<=n->0<=n.tmod 4294967296):=λh=>Int.tmod_nonneg _ h;have hs':(n<=0->n.tmod 4294967296<=0):=λh=>by have:=Int.tmod_nonneg 4294967296 (show 0<=-n by omega);rw[Int.neg_tmod] at this;omega
 rw[bQ _ ae];unfold qA qA
 split <;> omega
theorem Qe {n:Int} (h0: -9223372036854775808<=n) (h1:n<=9223372036854775807):qA (IntKind.i64.wrap (n.tdiv 4294967296)) [IntKind.i64.wrap (0-IntKind.i64.wrap (n.tdiv 4294967296))]=((n.natAbs/4294967296:Nat):Int):=by
 have e:(n.tdiv 4294967296).natAbs=n.natAbs/4294967296:=by rw[Int.natAbs_tdiv];rfl
 have hs:(0<=n->0<=n.tdiv 4294967296):=λh=>Int.tdiv_nonneg h ae;have hs':(n<=0->n.tdiv 4294967296<=0):=λh=>by have:=Int.tdiv_nonneg (show 0<=-n by omega) (show (0:Int)<=4294967296 by omega);rw[Int.neg_tdiv] at this;omega
 have hb:n.natAbs/4294967296<=2147483648:=ae;rw[bQ (n.tdiv 4294967296) ae,bQ _ ae];unfold qA qA
 split <;> omega
theorem LG {x:Nat} (h:x<4294967296):IntKind.u32.wrap (x:Int)=(x:Int):=by rw[KV,Int.emod_eq_of_lt ae ae]
theorem rZ (n:Int) (w:World) (h0: -9223372036854775808<=n) (h1:n<=9223372036854775807):
  Calls Tryz.prog 142 #[.int .i64 n] w λe w'=>∃ r,e=.returned r/\aJ w' w.heap.size r n/\ax w w':=by
 have e1:=Qd h0 h1;have e2:=Qe h0 h1;have g1:=eR n.natAbs (show 0<4294967296 by omega);have g2:n.natAbs/4294967296<4294967296:=ae;refine ai (C:=aY Tryz.prog w _) (args:=[_]) yN aa Tryz.ntmps142 (cG aa) ?_;refine ag ?_;refine VO.lit (bU _ _) [.int .u32 (IntKind.u32.wrap (qA (n.tmod 4294967296) [IntKind.i64.wrap (0-n.tmod 4294967296)])),.int .u32 (IntKind.u32.wrap (qA (IntKind.i64.wrap (n.tdiv 4294967296)) [IntKind.i64.wrap (0-IntKind.i64.wrap (n.tdiv 4294967296))]))] aa aa aa aa aa aa aa aa aa ae (λw2 b k2 b2 ho=>wV aa ?_);rw[e1,e2,LG g1,LG g2] at ho;refine VO.cI aa aa (fk uh) (λiG iK jm=>kJ (decide (n<0)) _ 2 [n.natAbs%4294967296,n.natAbs/4294967296] iG (Rd.own (Own.kp (cs:=ints .u32 [n.natAbs%4294967296,n.natAbs/4294967296]) ho iK)) (eP.cons g1 (eP.cons g2 (eP.nil _))) ae) (λiG iK jm w3 s3 p3 n3 c3 h3 ee nH _ bb3=>wV aa ?_);refine ag ?_;refine ck ?_;intro wz kz bz;refine⟨_,aa,aJ.cast ((h3.kp kz).mono jm.size) ?_,bz⟩;rw[gr,gr,ff];by_cases hn:n<0
 ·simp only[hn,decide_true,if_true];omega
 ·simp only[hn,decide_false];simp;omega
end
section
open Go.RowKit
def lv (ls:List Nat) (k j:Nat):Nat:=(if 2*j<k then ls.getD (2*j) 0 else 0)+65536*(if 2*j+1<k then ls.getD (2*j+1) 0 else 0)
def AY (ls:List Nat) (m k:Nat):List Nat:=(List.range m).map (lv ls k)
theorem Qf (ls:List Nat) (m:Nat):AY ls m 0=List.replicate m 0:=by
 apply List.ext_getElem
 ·simp[AY]
 ·intro i h1 h2;simp[AY,lv]
variable {ls:List Nat} {m j x:Nat}
theorem Qg (hx:ls[2*j]? =some x):(AY ls m (2*j)).set j x=AY ls m (2*j+1):=by
 apply List.ext_getElem
 ·simp[AY]
 ·intro i h1 h2;simp only[AY,List.getElem_set,List.getElem_map,List.getElem_range];by_cases e:j=i
  ·subst e;rw[if_pos rfl];unfold lv;rw[if_pos ae,if_neg ae,lU,hx];rfl
  ·rw[if_neg e];unfold lv
   congr 1
   ·by_cases h:2*i<2*j
    ·rw[if_pos h,if_pos ae]
    ·rw[if_neg h,if_neg ae]
   ·by_cases h:2*i+1<2*j
    ·rw[if_pos h,if_pos ae]
    ·rw[if_neg h,if_neg ae]
theorem lds_odd {y:Nat} (hy:(AY ls m (2*j+1))[j]? =some y) (hx:ls[2*j+1]? =some x):(AY ls m (2*j+1)).set j (y+65536*x)=AY ls m (2*j+2):=by
 have hy':y=ls.getD (2*j) 0:=by
  obtain⟨h,rfl⟩:=bd.1 hy;simp only[AY,List.getElem_map,List.getElem_range];unfold lv;rw[if_pos ae,if_neg ae];rfl
 apply List.ext_getElem
 ·simp[AY]
 ·intro i h1 h2;simp only[AY,List.getElem_set,List.getElem_map,List.getElem_range];by_cases e:j=i
  ·subst e;rw[if_pos rfl];unfold lv;rw[if_pos ae,if_pos ae,hy']
   congr 2
   rw[lU,hx];rfl
  ·rw[if_neg e];unfold lv
   congr 1
   ·by_cases h:2*i<2*j+1
    ·rw[if_pos h,if_pos ae]
    ·rw[if_neg h,if_neg ae]
   ·by_cases h:2*i+1<2*j+1
    ·rw[if_pos h,if_pos ae]
    ·rw[if_neg h,if_neg ae]
theorem lds_end (h:iz ls) (hm:ls.length<=2*m):ar (AY ls m ls.length)=hval ls/\da (AY ls m ls.length):=by
 have hb:∀ k,ls.getD k 0<65536:=λk=>lQ h k
 have Ct:∀ j,lv ls ls.length j=ls.getD (2*j) 0+65536*ls.getD (2*j+1) 0:=λj=>by
  unfold lv
  congr 1
  ·split
   ·rfl
   ·rw[ji ae]
  ·split
   ·rfl
   ·rw[ji ae]
 constructor
 ·have key:∀ j,j<=m->ar ((AY ls m ls.length).take j)=hval (ls.take (2*j)):=by
   intro j
   induction j with
   | zero=>intro _;rfl
   | succ j ih=>
     intro hj;rw[bA,ih ae]
     have e:(AY ls m ls.length).getD j 0=ls.getD (2*j) 0+65536*ls.getD (2*j+1) 0:=by
      rw[lU];simp[AY,show j<m by omega,Ct]
     rw[e];show _=val 65536 (ls.take (2*j+1+1));rw[cN,cN,ct,<-eJ,fP 65536 (2*j),Cg];show val 65536 _+_=_;rw[xg]
  have:=key m (aP _);rw[cO (by simp[AY]),cO hm] at this;exact this
 ·intro x hx;obtain⟨j,_,rfl⟩:=ey.1 hx;rw[Ct];have:=hb (2*j);have:=hb (2*j+1);omega
def Ng (w:World) (B g m:Nat) (ls:List Nat) (iv:Value) (wr:World):Prop:=
 ∃ k,k<=ls.length/\iv=.int .i64 (k:Int)/\wr.ownsRow B 78 1 (.slice (some ⟨g,0,none⟩) m m) m (ints .u32 (AY ls m k))/\Below B w wr
set_option maxRecDepth 100000 in
theorem GZ (va:Value) (n:Nat) (ls:List Nat) (w:World) (hr:Rd w 1 va n (ints .i64 ls)) (hl:iz ls) (hn:n<=2147483656):
  Calls Tryz.prog 200 #[va] w λe w'=>∃ v' xs,e=.returned v'/\xs.length=(n+1)/2/\w'.ownsRow w.heap.size 78 1 v' ((n+1)/2) (ints .u32 xs)/\ar xs=hval ls/\da xs/\Below w.heap.size w w':=by
 obtain⟨p,c,rfl,fV,gj,fv⟩:=hr.i64;obtain⟨i0,hi,jI,gu,jP⟩:=info_parts km;obtain⟨B,hB⟩:∃ B,B=w.heap.size:=⟨_,aa⟩;have HB:=af hB;have Hr:=af hr;have HL:=af hl;have HX:=af fv;obtain⟨m,hm⟩:∃ m,m=(n+1)/2:=⟨_,aa⟩;have HM:=af hm;have hmn:n<=2*m:=ae;have hmb:m<=1073741828:=ae;have hq:((n:Int)+1)/2=(m:Int):=ae;rw[<-hB,<-hm];clear hr hl fv hB hm;refine aZ λR' cj=> ?_;go_enter Tryz.func200,Tryz.ntmps200
 go_wp2_with (at_make;refine wpList_make_full _ aa _ _ 23 aa B 78 i0 (.int .u32 0) 1 ma hi jI gu .i64 .i64 _ _ m aa aa hq hq (by rw[jP];omega) (by unfold maxLen;omega) (fA HB.out) ?_;intro w1 aN Mq)
 have IK:=af (Own.made aN);have Hb1:Hid (Below B w w1):=(fB _ _).grown Mq (fA HB.out) (λk hk=>by cases hk);clear aN Mq hq;go_wp2_with fail
 go_loopw [4] (λiv wr=>Ng w B w.heap.size m ls iv wr) (λiv _=>n-(intOf iv).toNat)
 case atStart=>exact⟨0,fQ _,aa,by rw[Qf];have:=IK.out;rw[ng] at this;exact this,Hb1.out⟩
 case round=>
  obtain⟨k,hk,rfl,aN,hb⟩:=hrel;have qw:=af aN;have qU:=af hb;have hkn:k<=n:=by rw[<-HX.out];exact hk
  clear aN hb hk;by_cases hlt:k<n
  ·obtain⟨b1,o1,x,rfl,bF,iI,hcw⟩:=Hr.out.cellAt hlt;have qz:=(qU.out.cell (p:=⟨b1,o1+k,none⟩) (by rw[HB.out];exact bF)).trans hcw;have lE:=HL.out.at iI;have yi:=af iI;obtain⟨j,hj⟩:∃ j,j=k/2:=⟨_,aa⟩;have hk2:(k:Int)/2=(j:Int):=ae;have hjm:j<m:=ae;obtain⟨z,hz,hcell,Bb⟩:=Own.iR qw.out (j:=j) hjm;have HZ:=af hz;have hw4:(x:Int)%4294967296=(x:Int):=ae;have hj0:(0:Int)<=(j:Int):=ae;have hj1:(j:Int)<(m:Int):=ae;have Cq:(0:Int)<=(k:Int):=ae;have yv:(k:Int)<(n:Int):=ae;by_cases he:k%2=0
   ·have hke:((k:Int)%2 == 0)=true:=by rw[beq_iff_eq];omega
    have HK:Hid (k=2*j):=by show _=_;omega
    clear iI hcw he hj hz;go_wp2_with fail
    go_roundw
    case rel=>
     refine⟨k+1,by rw[HX.out];omega,by go_num,?_,qU.out.setCell (Own.lt qw.out).1 _⟩;have h1:=Own.iq (j:=j) (x:=x) qw.out;rw[HK.out,Qg (by rw[<-HK.out];exact yi.out)] at h1;rw[HK.out];simpa using h1
    case measure=>simp[intOf];omega
   ·have hke:((k:Int)%2 == 0)=false:=by rw[lZ];omega
    have HK:Hid (k=2*j+1):=by show _=_;omega
    have hz4:z<65536:=by
     have:=HZ.out;rw[HK.out] at this;obtain⟨h,rfl⟩:=bd.1 this;simp only[AY,List.getElem_map,List.getElem_range];unfold lv;rw[if_pos ae,if_neg ae];exact lQ HL.out _
    have hw5:IntKind.u32.wrap (z+IntKind.u32.wrap (65536*(x:Int)))=((z+65536*x:Nat):Int):=by
     rw[KV,KV];omega
    clear iI hcw he hj hz;go_wp2
    go_region
    all_goals
     go_wp2_with fail
     go_roundw
     case rel=>
      refine⟨k+1,by rw[HX.out];omega,by go_num,?_,(qU.out.setCell (Own.lt qw.out).1 _).drew⟩;have h1:=Own.iq (j:=j) (x:=z+65536*x) qw.out;rw[HK.out,lds_odd (by have:=HZ.out;rw[HK.out] at this;exact this) (by rw[<-HK.out];exact yi.out)] at h1;rw[HK.out];have h2:(((z+65536*x:Nat):Int))=(z:Int)+65536*(x:Int):=ae;rw[h2] at h1;exact h1
     case measure=>simp[intOf];omega
  ·obtain rfl:k=n:=by omega
   obtain⟨e1,e2⟩:=lds_end HL.out (m:=m) (by rw[HX.out];exact hmn);rw[HX.out] at e1 e2;have E1:=af e1;have E2:=af e2;clear e1 e2;go_wp2_with fail
   exact cj.out _ _ ⟨_,_,aa,by simp[AY],qw.out,E1.out,E2.out,qU.out⟩
end
section
open Go.RowKit
variable {xs:List Nat} {B j:Nat}
theorem val_set {o v:Nat} (h:xs[j]? =some o):val B (xs.set j v)+B^j*o=val B xs+B^j*v:=by
 obtain⟨hl,he⟩:=bd.1 h;have h1:xs=xs.take j++o::xs.drop (j+1):=by rw[<-he,<-oh hl,oi]
 have h2:xs.set j v=xs.take j++v::xs.drop (j+1):=by
  conv=>lhs;rw[h1]
  rw[tV _ _ (by rw[cE];omega)];rw[cE,gG ae,oy];rfl
 have e1:val B xs=val B (xs.take j)+B^j*(o+B*val B (xs.drop (j+1))):=by
  conv=>lhs;rw[h1]
  rw[jT,cE,gG ae,iQ]
 have e2:val B (xs.set j v)=val B (xs.take j)+B^j*(v+B*val B (xs.drop (j+1))):=by
  rw[h2,jT,cE,gG ae,iQ]
 rw[e1,e2,ct,ct];omega
theorem iz.set (h:iz xs) {v:Nat} (hv:v<65536) (j:Nat):iz (xs.set j v):=λy hy=>by
 rcases mU hy with h1|h1
 ·exact h y h1
 ·rw[h1];exact hv
variable {i x c:Nat}
theorem uP {os:List Nat} {k y o s S Y:Nat} (ho:os[i+k]? =some o) (hs:s=x*y+o+c) (h:hval os+65536^(i+k)*c=S+65536^i*(x*Y)):
  hval (os.set (i+k) (s%65536))+65536^(i+(k+1))*(s/65536)=S+65536^i*(x*(Y+65536^k*y)):=by
 have h1:hval (os.set (i+k) (s%65536))+65536^(i+k)*o=hval os+65536^(i+k)*(s%65536):=val_set ho;have h2:65536^(i+(k+1))=65536^(i+k)*65536:=by rw[<-xg,fP]
 have h3:65536^(i+k)*s=65536^(i+k)*(s%65536)+65536^(i+k)*65536*(s/65536):=by
  rw[eJ,<-ct,tZ]
 have h4:65536^(i+k)*s=65536^(i+k)*(x*y)+65536^(i+k)*o+65536^(i+k)*c:=by rw[hs,ct,ct]
 have h5:65536^i*(x*(Y+65536^k*y))=65536^i*(x*Y)+65536^(i+k)*(x*y):=by
  rw[ct,ct,qn]
  congr 1
  rw[BW x,eJ]
 rw[h2,h5];omega
def iv (xs:List Nat):List AV:=(ints .i64 xs).map .val
theorem cS (xs:List Nat):(iv xs).length=xs.length:=by simp[iv]
theorem Qh (h:xs[j]? =some x):(iv xs)[j]? =some (.val (.int .i64 (x:Int))):=by
 unfold iv;rw[jq,um h];rfl
theorem sc (xs ys:List Nat):iv (xs++ys)=iv xs++iv ys:=by simp[iv,jg]
theorem oW (xs:List Nat):(iv xs).all bm=true:=aL (bP.2 λu hu=>by obtain⟨_,_,rfl⟩:=ey.1 hu;rfl)
theorem LH (xs:List Nat):(ints .i64 xs).all aO=true:=bP.2 λu hu=>by obtain⟨_,_,rfl⟩:=ey.1 hu;rfl
theorem bV (xs:List Nat):bj (iv xs)=[]:=ah _
theorem zT:∀ n:Nat,kV n [.val (.int .i64 0)]=iv (List.replicate n 0)
 | 0=>rfl
 | n+1=>by rw[kV,zT n,KP];rfl
variable {spare:List AV}
theorem iv_peek {o:Nat} (h:xs[j]? =some x) (ho:o=j):∀ i u,[AV.val (.int .i64 (x:Int))][i]? =some u->(iv xs++spare)[o+i]? =some u:=by
 subst ho;intro i u hu;cases i with
 | zero=>
   cases hu;have hl:=(bd.1 (Qh h)).1;rw[lz,jo hl,Qh h]
 | succ i=>cases hu
theorem uQ {o:Nat} (h:xs[j]? =some x) (ho:o=j):∀ i u,[AV.val (.int .i64 (x:Int))][i]? =some u->(iv xs)[o+i]? =some u:=by
 have:=iv_peek (spare:=[]) h ho;simpa using this
theorem yA {o:Nat} (h:j<xs.length) (ho:o=j):(iv xs).take o++([AV.val (.int .i64 (x:Int))]++(iv xs).drop (o+1))=iv (xs.set j x):=by
 subst ho;have:iv (xs.set o x)=(iv xs).set o (.val (.int .i64 (x:Int))):=by simp[iv,<-ints_set,List.map_set]
 rw[this,List.set_eq_take_append_cons_drop,if_pos (by rw[cS];exact h)];rfl
variable {C:Cx} {β:Nat->Nat} {t:TypeId} {w:World}
theorem nJ {n:Nat} (h:oL C β w i t (iv xs++spare)) (hn:xs.length=n) (fV:n<=c) (gj:c<=maxLen):Rd w 1 (.slice (some ⟨β i,0,none⟩) n c) n (ints .i64 xs):=by
 refine⟨_,c,aa,fV,gj,by simp[hn],λ_=>⟨_,_,rfl,λj u hj=> ?_⟩⟩;have hl:=(bd.1 hj).1;refine h.cls.cell ?_;rw[fe];simp only[List.map_append,List.getElem?_toArray];rw[jo (by simpa [iv] using hl)];unfold iv;rw[az];exact hj
def fH (w:World) (B:Nat) (v:Value) (n:Nat) (xs:List Nat):Prop:=
 xs.length=n/\((v=.slice none 0 0/\n=0)\/∃ b c spare,v=.slice (some ⟨b,0,none⟩) n c/\B<=b/\aQ w b 3 (ints .i64 xs++spare).toArray/\n<=c/\c<=maxLen/\n+spare.length=c/\spare.all aO=true)
variable {v:Value}
theorem fH.own {n:Nat} (h:fH w B v n xs):w.ownsRow B 3 1 v n (ints .i64 xs):=by
 obtain⟨hn,⟨rfl,rfl⟩|⟨b,c,spare,rfl,hB,hc,h1,h2,h3,_⟩⟩:=h
 ·rw[mR hn];exact mc _ _ _ _
 ·refine⟨by simp[hn],.inr ⟨b,c,_,rfl,hB,hc,h1,h2,by simp[hn,h3],?_⟩⟩;rw[Ov (by simp[hn]),cO (by simp[hn])]
theorem fH.new {n:Nat} (h:fH w B v n xs):PF C 3 1 B w v n (ints .i64 xs):=by
 obtain⟨hn,⟨rfl,rfl⟩|⟨b,c,spare,rfl,hB,hc,h1,h2,h3,h4⟩⟩:=h
 ·exact .inl ⟨aa,aa,by rw[mR hn];rfl⟩
 ·exact .inr ⟨b,c,spare,aa,hB,hc,LH xs,h4,h1,by simpa [maxLen] using h2,by simp;omega⟩
theorem fH.nil (w:World) (B:Nat):fH w B (.slice none 0 0) 0 []:=⟨rfl,.inl ⟨rfl,rfl⟩⟩
variable {m:Nat}
theorem rE {n:Nat} (h:oL C β w i 3 (iv xs++spare)) (hn:xs.length=n) (hm:m<=n) (fV:n<=c) (gj:c<=maxLen) (hl:xs.length+spare.length=c) (hnw:∀ i g,C.zu i g->C.w0.heap.size<=g:=by exact λ_ _ h=>h):
  fH w C.w0.heap.size (.slice (some ⟨β i,0,none⟩) m c) m (xs.take m):=by
 refine⟨by rw[cE];omega,.inr ⟨β i,c,ints .i64 (xs.drop m)++spare.map (AV.leaf β),rfl,hnw _ _ h.new,?_,ae,gj,by simp;omega,?_⟩⟩
 ·have:=h.cls;rw[aF] at this;unfold iv at this;rw[az] at this;rw[<-gQ,<-jg,oi];exact this
 ·have hk:=h.ok;rw[dK,gF] at hk;rw[dK,LH,fx hk.2];rfl
variable {cs:List AV}
theorem iX {news rest:List AV} (h:oL C β w i t cs) (e:cs=news++rest):∀ j u,(news.map (AV.leaf β))[j]? =some u->w.cell? ⟨β i,0+j,none⟩=some u:=by
 intro j u hj;have hl:=(bd.1 hj).1;refine h.cls.cell ?_;rw[e,fe,aF];simp only[List.getElem?_toArray];rw[jo hl];exact hj
theorem rF (h:bj cs=[]) (i:Nat) (ρ:AV->Value):cs.map (AV.tS i ρ)=cs:=by
 induction cs with
 | nil=>rfl
 | cons x r ih=>
   rw[bj,List.append_eq_nil_iff] at h;rw[mf,ih h.2];have:x.tS i ρ=x:=by unfold AV.tS;rw[h.1];rfl
   rw[this]
theorem Qi (i:Nat) (ρ:AV->Value) (xs:List Nat):(iv xs).map (AV.tS i ρ)=iv xs:=rF (bV xs) i ρ
theorem yB {n:Nat} (h:halves (hval xs)=xs.take m) (hm:m<=n) (hn:xs.length=n):m=(halves (hval xs)).length:=by rw[h,cE];omega
end
set_option maxRecDepth 4000
section
open Go.RowKit
attribute [local irreducible] aE VS
variable {w:World}
theorem nK {b off k:Nat} {u:Value} {z:Int} (hz:z=(k:Int)) (h:w.cell? ⟨b,off+k,none⟩=some u):∀ j v,[u][j]? =some v->w.cell? ((⟨b,off+z.toNat*1,none⟩:Addr).add j)=some v:=by
 subst hz;intro j v hj;rw[Addr.add_mid,bh,np];cases j with
 | zero=>cases hj;exact h
 | succ j=>cases hj
variable {os xs ys:List Nat} {i x:Nat}
theorem Nh {k:Nat} (hx:xs[i]? =some x) (hk:ys.length<=k) (h:hval os+65536^(i+k)*0=hval (xs.take i)*hval ys+65536^i*(x*hval (ys.take k))):hval os=hval (xs.take (i+1))*hval ys:=by
 have e:hval (xs.take (i+1))=hval (xs.take i)+65536^i*x:=by
  rw[bW hx,lP,cE,gG (by have:=(bd.1 hx).1;omega)]
 rw[ni,lz,cO hk] at h;rw[e,ek,h,eJ]
variable {c:Nat}
theorem JJ {k n m:Nat} (hxh:iz xs) (hyh:iz ys) (hx:xs[i]? =some x) (hn:xs.length=n) (hm:ys.length=m) (hk:m<=k) (hc:0<c) (h:hval os+65536^(i+k)*c=hval (xs.take i)*hval ys+65536^i*(x*hval (ys.take k))):i+k<n+m+1:=by
 have hi:=(bd.1 hx).1
 have e:hval (xs.take (i+1))=hval (xs.take i)+65536^i*x:=by
  rw[bW hx,lP,cE,gG ae]
 have e3:ys.take k=ys:=cO ae
 have e2:hval os+65536^(i+k)*c=hval (xs.take (i+1))*hval ys:=by
  rw[e,ek,h,e3,eJ]
 have b1:hval (xs.take (i+1))<65536^(i+1):=by
  have:=uN (xs:=xs.take (i+1)) (eP.take hxh _)
  rwa [cE,gG ae] at this
 have b2:hval ys<65536^m:=by have:=uN hyh;rwa [hm] at this
 have b3:hval (xs.take (i+1))*hval ys<65536^(i+1+m):=by
  rw[qn];exact Nat.mul_lt_mul'' b1 b2
 have b4:65536^(i+k)<=65536^(i+k)*c:=KJ _ hc;have:65536^(i+k)<65536^(i+1+m):=ae;have:=(Nat.pow_lt_pow_iff_right (show 1<65536 by omega)).1 this;omega
theorem JK {y o:Nat} (hx:x<65536) (hy:y<65536) (ho:o<65536) (hc:c<65536):x*y+o+c<4294967296:=by
 have h1:x*y<=65535*65535:=uc ae ae;omega
variable {P:Prop}
theorem lD (h:P:=by (repeat first|exact aj|refine⟨rfl,?_⟩)):P:=h
theorem fb {A B:Prop} (h:A/\B:=by constructor <;> omega):A/\B:=h
theorem Ha (va vb:Value) (n m:Nat) (xs ys:List Nat) (w:World) (hr:Rd w 1 va n (ints .i64 xs)) (hs:Rd w 1 vb m (ints .i64 ys)) (hx:iz xs) (hy:iz ys) (hn:n<=2147483656) (hm:m<=2147483656):
  Calls Tryz.prog 201 #[va,vb] w λe w'=>∃ v',e=.returned v'/\fH w' w.heap.size v' (halves (hval xs*hval ys)).length (halves (hval xs*hval ys))/\ax w w':=by
 obtain⟨p,c,rfl,fV,gj,fv⟩:=hr.i64;obtain⟨q,d,rfl,NY,IJ,iU⟩:=hs.i64;obtain⟨N,hN⟩:∃ N,N=n+m+1:=⟨_,aa⟩
 have hwN:IntKind.i64.wrap (IntKind.i64.wrap ((n:Int)+(m:Int))+1)=(N:Int):=by
  rw[bQ ((n:Int)+(m:Int)) ae,bQ _ ae];omega
 refine ai (C:=aY Tryz.prog w _) (args:=[_,_]) Tryz.func201 aa Tryz.ntmps201 (cG aa) ?_;refine ag ?_;refine VO.fix 15 aa (au (λz=>AV.val (.int .i64 z)) hwN) ?_;refine VO.cond aa ⟨aa,ae,by show (N:Int)*(24*1)<=_;omega⟩ (VO.jX 16 aa (zT _) (wV aa ?_));rw[bh];refine ag ?_
 refine VS.loop (J:=λms L M w'=>∃ (i:Nat) (os:List Nat),i<=n/\ms=n-i/\L=[(0,.val (.slice p n c)),(1,.val (.slice q m d)),(5,.row 16 0 N N),(6,.val (.int .i64 (i:Int)))]/\M=[(16,(3,iv os))]/\
  os.length=N/\iz os/\hval os=hval (xs.take i)*hval ys) n ⟨_,_,?_,?_,?_,?_,⟨0,List.replicate N 0,ae,ae,rfl,rfl,cf,eP.replicate ae _,by rw[iD];show val 65536 _=val 65536 []*_;rw[ja,val_nil,uf]⟩⟩ ?_
 ·exact lD
 ·exact lD
 ·rfl
 ·exact⟨.none (bV _),aj⟩
 rintro ms L M w' ⟨i,os,hi,rfl,rfl,rfl,hol,hoh,hov⟩;refine ag ?_;by_cases xP:i<n
 ·refine VS.bB aa (aU (aW.2 xP)) ?_;refine ag ?_;obtain⟨b1,o1,x,rfl,bF,iI,qz⟩:=hr.cellAt xP;have lE:=hx.at iI
  refine VS.loop (J:=λms L M w'=>∃ (k c':Nat) (os':List Nat),ms=N-(i+k)/\L=[(0,.val (.slice (some ⟨b1,o1,none⟩) n c)),(1,.val (.slice q m d)),(5,.row 16 0 N N),(6,.val (.int .i64 (i:Int))),(7,.val (.int .i64 (c':Int))),(8,.val (.int .i64 (k:Int)))]/\M=[(16,(3,iv os'))]/\
   os'.length=N/\iz os'/\c' <65536/\k<=N/\hval os' +65536^(i+k)*c'=hval (xs.take i)*hval ys+65536^i*(x*hval (ys.take k))) (N-i) ⟨_,_,?_,?_,?_,?_,⟨0,0,os,ae,rfl,rfl,hol,hoh,ae,ae,by rw[iD,ni,hov];show _=_+65536^i*(x*0);simp⟩⟩ ?_
  ·exact lD
  ·exact lD
  ·rfl
  ·exact⟨.none (bV _),aj⟩
  rintro ms L M w'' ⟨k,c',os',rfl,rfl,rfl,hol',hoh',hc',hkN,hv⟩;refine ag ?_;have step:∀ (hik:i+k<N),True:=λ_=>trivial;by_cases hgo:k<m\/0<c'
  ·have hik:i+k<N:=by
    rcases qm k m with e|e
    ·omega
    ·rw[hN];exact JJ hx hy iI fv iU e ae hv
   obtain⟨o,ho⟩:∃ o,os'[i+k]? =some o:=⟨_,aH ae⟩;have ho4:=hoh'.at ho;have Mx:IntKind.i64.wrap ((i:Int)+(k:Int))=((i+k:Nat):Int):=by rw[bQ _ ae];omega
   have hwk1:IntKind.i64.wrap ((k:Int)+1)=((k+1:Nat):Int):=by rw[bQ _ ae];omega
   have hwoc:IntKind.i64.wrap ((o:Int)+(c':Int))=((o+c':Nat):Int):=by rw[bQ _ ae];omega
   by_cases IL:k<m
   ·obtain⟨b2,o2,y,rfl,cJ,qT,vE⟩:=hs.cellAt IL;have yf:=hy.at qT;have DT:=JK lE yf ho4 hc';obtain⟨s,hsd⟩:∃ s,s=x*y+o+c':=⟨_,aa⟩;have Dx:(x:Int)*(y:Int)=((x*y:Nat):Int):=cf
    have hws:IntKind.i64.wrap (IntKind.i64.wrap ((o:Int)+(c':Int))+IntKind.i64.wrap ((x:Int)*(y:Int)))=(s:Int):=by
     rw[hwoc,Dx,bQ ((x*y:Nat):Int) ae,bQ _ ae];omega
    have hst:=uP ho hsd hv
    have hyt:hval (ys.take (k+1))=hval (ys.take k)+65536^k*y:=by
     rw[bW qT,lP,cE,gG (by have:=(bd.1 qT).1;omega)]
    rw[<-hyt] at hst
    have hwc:IntKind.i64.wrap ((s:Int).tdiv 65536)=((s/65536:Nat):Int):=by
     rw[yH ae,bQ _ ae];simp
    have hwm:(s:Int).tmod 65536=((s%65536:Nat):Int):=by rw[Fc ae];simp
    refine VO.fix 27 aa (au (λb=>AV.val (.bool b)) (aU (aW.2 IL))) ?_;refine ag ?_;refine VO.fix 36 aa (au (λz=>AV.val (.int .i64 z)) Mx) ?_;refine VO.cond aa fb (wV aa ?_);refine VO.fN aa [.val (.int .i64 (o:Int))] aa (uQ ho (by rw[bh];omega)) (wV aa ?_);refine ag ?_;refine VS.bB aa (aU (aW.2 IL)) ?_;refine ag ?_;refine VO.cond aa fb (wV aa ?_);refine VO.read aa [.int .i64 (x:Int)] aa (nK aa qz) (wV aa ?_);refine VO.cond aa fb (wV aa ?_);refine VO.read aa [.int .i64 (y:Int)] aa (nK aa vE) (wV aa ?_);refine ag ?_;refine VO.fix 59 aa (au (λz=>AV.val (.int .i64 z)) Mx) ?_;refine VO.fix 61 aa (au (λz=>AV.val (.int .i64 z)) (by rw[hws,hwm])) ?_;refine VO.cond aa fb (wV aa ?_);refine VO.cond aa (by show 0+((i+k:Nat):Int).toNat*1+1<=_;rw[bh,cS];omega) (wV aa ?_);refine ag ?_;refine VS.back (N-(i+(k+1))) ae ⟨_,_,?_,?_,?_,?_,⟨k+1,s/65536,os'.set (i+k) (s%65536),aa,aa,aa,by simp[hol'],hoh'.set (eR _ ae) _,ae,ae,hst⟩⟩
    ·refine⟨aa,aa,aa,aa,au (λz=>some (AV.val (.int .i64 z))) (by rw[hws,hwc]),au (λz=>some (AV.val (.int .i64 z))) hwk1,aj⟩
    ·exact⟨au (λl=>some (_,l)) (yA ae (by rw[bh];omega)),aj⟩
    ·rfl
    ·exact⟨.none (bV _),aj⟩
   ·have Oi:0<c':=by omega
    obtain⟨s,hsd⟩:∃ s,s=x*0+o+c':=⟨_,aa⟩;have hws:IntKind.i64.wrap ((o:Int)+(c':Int))=(s:Int):=by rw[hwoc];omega
    have hst:=uP ho hsd hv;have hyt:hval (ys.take k)+65536^k*0=hval (ys.take (k+1)):=by rw[cO ae,cO ae];rfl
    rw[hyt] at hst
    have hwc:IntKind.i64.wrap ((s:Int).tdiv 65536)=((s/65536:Nat):Int):=by
     rw[yH ae,bQ _ ae];simp
    have hwm:(s:Int).tmod 65536=((s%65536:Nat):Int):=by rw[Fc ae];simp
    refine VO.fix 27 aa (au (λb=>AV.val (.bool b)) (aR (λe=>IL (aW.1 e)))) ?_;refine ag ?_;refine VS.bB aa (aU ae) ?_;refine ag ?_;refine VO.fix 36 aa (au (λz=>AV.val (.int .i64 z)) Mx) ?_;refine VO.cond aa fb (wV aa ?_);refine VO.fN aa [.val (.int .i64 (o:Int))] aa (uQ ho (by rw[bh];omega)) (wV aa ?_);refine ag ?_;refine VS.bC aa (aR (λe=>IL (aW.1 e))) ?_;refine ag ?_;refine VO.fix 59 aa (au (λz=>AV.val (.int .i64 z)) Mx) ?_;refine VO.fix 61 aa (au (λz=>AV.val (.int .i64 z)) (by rw[hws,hwm])) ?_;refine VO.cond aa fb (wV aa ?_);refine VO.cond aa (by show 0+((i+k:Nat):Int).toNat*1+1<=_;rw[bh,cS];omega) (wV aa ?_);refine ag ?_;refine VS.back (N-(i+(k+1))) ae ⟨_,_,?_,?_,?_,?_,⟨k+1,s/65536,os'.set (i+k) (s%65536),aa,aa,aa,by simp[hol'],hoh'.set (eR _ ae) _,ae,ae,hst⟩⟩
    ·refine⟨aa,aa,aa,aa,au (λz=>some (AV.val (.int .i64 z))) (by rw[hws,hwc]),au (λz=>some (AV.val (.int .i64 z))) hwk1,aj⟩
    ·exact⟨au (λl=>some (_,l)) (yA ae (by rw[bh];omega)),aj⟩
    ·rfl
    ·exact⟨.none (bV _),aj⟩
  ·have IL:¬ (k<m):=by omega
   have Oi:c'=0:=ae;subst Oi;refine VO.fix 27 aa (au (λb=>AV.val (.bool b)) (aR (λe=>IL (aW.1 e)))) ?_;refine ag ?_;have Bl:IntKind.i64.wrap ((i:Int)+1)=((i+1:Nat):Int):=by rw[bQ _ ae];omega
   refine VS.back (n-(i+1)) ae ⟨_,_,?_,?_,?_,?_,⟨i+1,os',ae,aa,aa,aa,hol',hoh',Nh iI ae hv⟩⟩
   ·exact⟨aa,aa,aa,au (λz=>some (AV.val (.int .i64 z))) Bl,aj⟩
   ·exact lD
   ·rfl
   ·exact⟨.none (bV _),aj⟩
 ·obtain rfl:i=n:=by omega
  refine VS.bC aa (aR (λe=>xP (aW.1 e))) ?_;refine ag ?_;rw[cO ae] at hov;refine VO.CP aa (fk xh) (λw1 β k1 b1 ho=>(jj (some ⟨β 16,0,none⟩) N N os w1 (nJ (spare:=[]) (by rw[eX];exact ho.own 16 (.base (ak.2 aa)) _ _ aa) hol (aP _) (by simp only[maxLen];omega)) hoh).mono ?_);rintro e w2 ⟨⟨mm,Cu,rfl,hcut⟩,rfl⟩;refine⟨.row 16 0 mm N,aa,λi hi=>⟨hi,by cases ak.1 hi;exact BQ _⟩,ax.refl _,λk2 _ b2=>wV aa ?_⟩;refine ag ?_;refine VS.oU (bU _ _) aa (λwz β kz bz he=> ?_);have vz:=yB hcut Cu hol;rw[hov] at hcut vz;refine⟨_,aa,?_,bz⟩;have:=rE (spare:=[]) (by rw[eX];exact he.own 16 _ _ aa) hol Cu (aP _) (by simp only[maxLen];omega) (by simpa using hol);rw[<-hcut] at this;show fH wz w.heap.size (.slice (some ⟨β 16,0,none⟩) mm N) _ _;rw[<-vz];exact this
set_option maxRecDepth 4000
variable {A B:Nat}
theorem sP (h:(halves A).length<(halves B).length):A<B:=by
 rcases qm A B with e|e
 ·exact e
 ·have:(halves B).length<=(halves A).length:=dX ae e;omega
variable {a:Nat}
theorem sQ {k b:Nat} (ha:(halves A)[k]? =some a) (hb:(halves B)[k]? =some b) (xX:a<b) (hh:(halves A).drop (k+1)=(halves B).drop (k+1)):A<B:=by
 have:=mh (B:=65536) (cL A) ha hb xX hh;have e1:val 65536 (halves A)=A:=bG A;have e2:val 65536 (halves B)=B:=bG B;omega
theorem Ni {k:Nat} (hx:xs[k]? =some x) (hy:ys[k]? =some x) (h:xs.drop (k+1)=ys.drop (k+1)):xs.drop k=ys.drop k:=by
 obtain⟨l1,e1⟩:=bd.1 hx;obtain⟨l2,e2⟩:=bd.1 hy;rw[oh l1,oh l2,e1,e2,h]
theorem JL (va vb:Value) (n m A B:Nat) (w:World) (hr:Rd w 1 va n (ints .i64 (halves A))) (hs:Rd w 1 vb m (ints .i64 (halves B))):
  Calls Tryz.prog 313 #[va,vb] w λe w'=>e=.returned (.bool (decide (A<B)))/\ax w w':=by
 obtain⟨p,c,rfl,fV,gj,fv⟩:=hr.i64;obtain⟨q,d,rfl,NY,IJ,iU⟩:=hs.i64;refine ai (C:=aY Tryz.prog w _) (args:=[_,_]) Tryz.func313 aa Tryz.ntmps313 (cG aa) ?_;refine ag ?_;by_cases hnm:n=m
 ·subst hnm;refine VS.bC aa cf ?_;refine ag ?_;have hw0:IntKind.i64.wrap ((n:Int)-1)=(n:Int)-1:=bQ _ ae;refine VS.loop (J:=λms L M w'=>∃ (k:Nat),k<=n/\ms=k/\L=[(0,.val (.slice p n c)),(1,.val (.slice q n d)),(5,.val (.int .i64 ((k:Int)-1)))]/\M=[]/\(halves A).drop k=(halves B).drop k) n ⟨_,_,?_,?_,?_,?_,⟨n,aP _,aa,aa,aa,by rw[mV ae,mV ae]⟩⟩ ?_
  ·exact⟨aa,aa,au (λz=>some (AV.val (.int .i64 z))) hw0,aj⟩
  ·exact lD
  ·rfl
  ·exact aj
  rintro ms L M w' ⟨k,hk,hms,rfl,rfl,hd⟩;refine ag ?_;by_cases Cq:k=0
  ·subst Cq;refine VS.bC aa (aR ae) ?_;refine ag ?_;refine ck ?_;intro wz kz bz;have:A=B:=JB (by simpa using hd);exact⟨by rw[this,aR (Nat.lt_irrefl _)];rfl,bz⟩
  ·obtain⟨j,rfl⟩:∃ j,k=j+1:=⟨k-1,ae⟩;have hj:((j+1:Nat):Int)-1=(j:Int):=ae;refine VS.bB aa (aU ae) ?_;refine VS.fix 5 aa (au (λz=>AV.val (.int .i64 z)) hj) ?_;refine ag ?_;obtain⟨b1,o1,x,rfl,bF,iI,qz⟩:=hr.cellAt (show j<n by omega);obtain⟨b2,o2,y,rfl,cJ,qT,vE⟩:=hs.cellAt (show j<n by omega);refine VO.cond aa fb (wV aa ?_);refine VO.read aa [.int .i64 (x:Int)] aa (nK aa qz) (wV aa ?_);refine VO.cond aa fb (wV aa ?_);refine VO.read aa [.int .i64 (y:Int)] aa (nK aa vE) (wV aa ?_);refine ag ?_;by_cases Dx:x=y
   ·subst Dx;refine VS.bC aa cf ?_;refine ag ?_;have yj:IntKind.i64.wrap ((j:Int)-1)=(j:Int)-1:=bQ _ ae;refine VS.back j ae ⟨_,_,?_,?_,?_,?_,⟨j,ae,aa,aa,aa,Ni iI qT hd⟩⟩
    ·exact⟨aa,aa,au (λz=>some (AV.val (.int .i64 z))) yj,aj⟩
    ·exact lD
    ·rfl
    ·exact aj
   ·refine VS.bB aa (by rw[bne_iff_ne];omega) ?_;refine ag ?_;refine VO.cond aa fb (wV aa ?_);refine VO.read aa [.int .i64 (x:Int)] aa (nK aa qz) (wV aa ?_);refine VO.cond aa fb (wV aa ?_);refine VO.read aa [.int .i64 (y:Int)] aa (nK aa vE) (wV aa ?_);refine ag ?_;refine ck ?_;intro wz kz bz;refine⟨?_,bz⟩;rcases Nat.lt_or_gt_of_ne Dx with e|e
    ·rw[aU (sQ iI qT e hd)];exact au (λb=>Ending.returned (.bool b)) (aU (aW.2 e))
    ·have:=sQ qT iI e hd.symm;have hAB:decide (A<B)=false:=aR ae;rw[hAB];exact au (λb=>Ending.returned (.bool b)) (aR ae)
 ·refine VS.bB aa (by rw[bne_iff_ne];omega) ?_;refine ag ?_;refine ck ?_;intro wz kz bz;refine⟨?_,bz⟩;rcases Nat.lt_or_gt_of_ne hnm with e|e
  ·rw[aU (sP ae)];exact au (λb=>Ending.returned (.bool b)) (aU (aW.2 e))
  ·have:=sP (A:=B) (B:=A) ae;have hAB:decide (A<B)=false:=aR ae;rw[hAB];exact au (λb=>Ending.returned (.bool b)) (aR ae)
variable {ds us bs:List Nat} {t br:Nat}
theorem Nj {b d qD:Nat} (hl:ds.length=i) (ha:us.getD i 0=a) (hb:bs.getD i 0=b) (hs:d+(t*b+br)=a+65536*qD)
  (h:hval ds+t*hval (bs.take i)=hval (us.take i)+65536^i*br):hval (ds++[d])+t*hval (bs.take (i+1))=hval (us.take (i+1))+65536^(i+1)*qD:=by
 have e1:hval (us.take (i+1))=hval (us.take i)+65536^i*a:=by rw[<-ha];exact cN _ _ _
 have e2:hval (bs.take (i+1))=hval (bs.take i)+65536^i*b:=by rw[<-hb];exact cN _ _ _
 have e3:65536^i*d+(65536^i*(t*b)+65536^i*br)=65536^i*a+65536^i*(65536*qD):=by rw[<-ct,<-ct,hs,ct]
 have e4:t*(65536^i*b)=65536^i*(t*b):=BW _ _ _;rw[lP,hl,e1,e2,ct t,e4,fP,eJ];omega
theorem Qj {n:Nat} (hh:iz ds) (hl:ds.length=n) (ha:us.length=n) (hle:t*hval bs<=hval us) (hb:t=0\/bs.length<=n)
  (h:hval ds+t*hval (bs.take n)=hval (us.take n)+65536^n*br):hval ds=hval us-t*hval bs:=by
 have e1:us.take n=us:=cO ae
 have e2:t*hval (bs.take n)=t*hval bs:=by
  rcases hb with e|e
  ·rw[e,uf,uf]
  ·rw[cO e]
 rw[e1,e2] at h;have hlt:=uN hh;rw[hl] at hlt
 have:br=0:=by
  rcases mX br with e|e
  ·exact e
  ·have:=KJ (65536^n) e;omega
 rw[this,ni] at h;omega
def RowAt (d:Nat) (xs:List Nat) (v:AV) (M:List (Nat×(TypeId×List AV))):Prop:=
 (xs=[]/\v=.val (.slice none 0 0)/\M=[])\/∃ cap spare,v=.row d 0 xs.length cap/\M=[(d,(3,iv xs++spare))]/\xs.length<=cap/\cap<=9223372036854775807/\xs.length+spare.length=cap/\spare.all bm=true/\bj spare=[]
theorem zU (va vb:Value) (n m t A B:Nat) (w:World) (hr:Rd w 1 va n (ints .i64 (halves A))) (hs:Rd w 1 vb m (ints .i64 (halves B))) (ht:t<65536) (hle:t*B<=A) (hn:n<=2147483656):
  Calls Tryz.prog 297 #[va,vb,.int .i64 (t:Int)] w λe w'=>∃ v',e=.returned v'/\fH w' w.heap.size v' (halves (A-t*B)).length (halves (A-t*B))/\ax w w':=by
 obtain⟨p,c,rfl,fV,gj,fv⟩:=hr.i64;obtain⟨q,d,rfl,NY,IJ,iU⟩:=hs.i64;refine ai (C:=aY Tryz.prog w _) (args:=[_,_,_]) Tryz.func297 aa Tryz.ntmps297 (cG aa) ?_;refine ag ?_
 refine VS.loop (J:=λms L M w'=>∃ (i br:Nat) (ds:List Nat) (v:AV),i<=n/\ms=n-i/\L=[(0,.val (.slice p n c)),(1,.val (.slice q m d)),(2,.val (.int .i64 (t:Int))),(7,v),(8,.val (.int .i64 (br:Int))),(9,.val (.int .i64 (i:Int)))]/\
  RowAt 47 ds v M/\ds.length=i/\iz ds/\br<=t/\hval ds+t*hval ((halves B).take i)=hval ((halves A).take i)+65536^i*br) n ⟨_,_,?_,?_,?_,?_,⟨0,0,[],.val (.slice none 0 0),ae,ae,rfl,.inl ⟨rfl,rfl,rfl⟩,rfl,eP.nil _,ae,by simp[hval,val]⟩⟩ ?_
 ·exact lD
 ·exact lD
 ·rfl
 ·exact aj
 rintro ms L M w' ⟨i,br,ds,v,hi,rfl,rfl,bD,vx,hdh,hbr,hv⟩;by_cases xP:i<n
 ·obtain⟨b1,o1,x,rfl,bF,iI,qz⟩:=hr.cellAt xP;have lE:=(cL A).at iI;have hxg:(halves A).getD i 0=x:=by rw[lU,iI];rfl
  obtain⟨y,hyg⟩:∃ y,(halves B).getD i 0=y:=⟨_,aa⟩;have yf:y<65536:=hyg▸lQ (cL B) i;have hty:t*y<=65535*65535:=uc ae ae;obtain⟨X,hX⟩:∃ X:Int,X=(x:Int)-br-(t*y:Nat):=⟨_,aa⟩
  obtain⟨qD,pY⟩:∃ qD:Nat,(qD:Int)=(if X<0 then (65535-X)/65536 else 0)/\qD<=t:=by
   by_cases h0:X<0
   ·refine⟨((65535-X)/65536).toNat,by rw[if_pos h0];omega,?_⟩;have:t*y<=t*65535:=jM _ ae;omega
   ·exact⟨0,by rw[if_neg h0];rfl,ae⟩
  obtain⟨dg,Oj⟩:∃ dg:Nat,(dg:Int)=X+65536*qD/\dg<65536:=by
   refine⟨(X+65536*qD).toNat,?_,?_⟩
   ·by_cases h0:X<0
    ·rw[if_pos h0] at pY;omega
    ·omega
   ·by_cases h0:X<0
    ·rw[if_pos h0] at pY;omega
    ·rw[if_neg h0] at pY;omega
  have Qk:dg+(t*y+br)=x+65536*qD:=ae;have hst:=Nj vx hxg hyg Qk hv;have yj:IntKind.i64.wrap ((x:Int)-(br:Int))=(x:Int)-br:=bQ _ ae;have Bl:IntKind.i64.wrap ((i:Int)+1)=((i+1:Nat):Int):=by rw[bQ _ ae];omega
  have Bh:t*y<=t*65535:=jM _ ae;rcases bD with ⟨rfl,rfl,rfl⟩|⟨cap,spare,rfl,rfl,h1,h2,h3,h4,h5⟩
  all_goals refine ag ?_
  ·by_cases him:i<m
   ·obtain⟨b2,o2,y',rfl,cJ,qT,vE⟩:=hs.cellAt him;obtain rfl:y'=y:=by rw[lU,qT] at hyg;exact hyg
    have hwX:IntKind.i64.wrap (IntKind.i64.wrap ((x:Int)-(br:Int))-IntKind.i64.wrap ((t:Int)*(y':Int)))=X:=by
     rw[yj,show (t:Int)*(y':Int)=((t*y':Nat):Int) by simp,bQ ((t*y':Nat):Int) ae,bQ _ ae];omega
    refine VS.bB aa (aU (aW.2 xP)) ?_;refine ag ?_;refine VO.cond aa fb (wV aa ?_);refine VO.read aa [.int .i64 (x:Int)] aa (nK aa qz) (wV aa ?_);refine ag ?_;refine VS.bB aa (aU (aW.2 him)) ?_;refine ag ?_;refine VO.cond aa fb (wV aa ?_);refine VO.read aa [.int .i64 (y':Int)] aa (nK aa vE) (wV aa ?_);refine VO.fix 10 aa (au (λz=>AV.val (.int .i64 z)) hwX) ?_;refine ag ?_;by_cases h0:X<0
    ·rw[if_pos h0] at pY
     have Ql:IntKind.i64.wrap ((IntKind.i64.wrap (65535-X)).tdiv 65536)=(qD:Int):=by
      rw[bQ (65535-X) ae,yH ae,bQ _ ae,pY.1]
     have hwd:IntKind.i64.wrap (X+IntKind.i64.wrap (65536*(qD:Int)))=(dg:Int):=by
      rw[bQ (65536*(qD:Int)) ae,bQ _ ae,Oj.1]
     refine VS.bB aa (aU h0) ?_;refine ag ?_
     ·refine VO.jX 46 aa (au (λz=>[AV.val (.int .i64 z)]) (show _=(dg:Int) by rw[Ql,hwd])) ?_
      refine VO.app (bU _ _) (t:=315) (e:=3) (sz:=1) (n:=0) (c:=0) (mm:=1) (known:=[]) (spare:=[]) (news:=iv [dg]) (dst:=47) (del:=none) aa aa aa aa aa aa aa aa (cG aa) aa (.inl ⟨aa,aa,aa,aa,aa,aa,ae⟩) (.inl aa) aa aa ae ae ⟨aa,aa,bV _⟩ ⟨aa,aa,oW _⟩ aa ae
       (λw1 β k1 b1 ho=>⟨_,_,rfl,.inr ⟨β 46,0,rfl,iX (rest:=[]) (ho.own 46 (.base (om _ (ak.2 rfl))) _ _ rfl) rfl⟩⟩)
       (λw2 cap' bt ρ k2 b2 fo pJ lS hlen mO iJ=>wV rfl ?_)
      refine ag ?_;refine VS.back (n-(i+1)) ae ⟨_,_,?_,?_,?_,?_,⟨i+1,qD,[dg],.row 47 0 ([dg]).length cap',ae,aa,aa,.inr ⟨cap',bt,aa,aa,by simp;omega,lS,?_,mO,iJ⟩,by simp at vx ⊢;omega,eP.cons Oj.2 (eP.nil _),pY.2,hst⟩⟩
      ·exact⟨aa,aa,aa,aa,au (λz=>some (AV.val (.int .i64 z))) Ql,au (λz=>some (AV.val (.int .i64 z))) Bl,aj⟩
      ·exact⟨aa,aj⟩
      ·rfl
      ·exact⟨.append (.none (bV _)) (.none iJ),aj⟩
      ·simpa [cS,Nat.add_assoc] using hlen
    ·rw[if_neg h0] at pY;have rS:qD=0:=ae;subst rS;refine VS.bC aa (aR h0) ?_;refine ag ?_
     ·refine VO.jX 46 aa (au (λz=>[AV.val (.int .i64 z)]) (show X=(dg:Int) by omega)) ?_
      refine VO.app (bU _ _) (t:=315) (e:=3) (sz:=1) (n:=0) (c:=0) (mm:=1) (known:=[]) (spare:=[]) (news:=iv [dg]) (dst:=47) (del:=none) aa aa aa aa aa aa aa aa (cG aa) aa (.inl ⟨aa,aa,aa,aa,aa,aa,ae⟩) (.inl aa) aa aa ae ae ⟨aa,aa,bV _⟩ ⟨aa,aa,oW _⟩ aa ae
       (λw1 β k1 b1 ho=>⟨_,_,rfl,.inr ⟨β 46,0,rfl,iX (rest:=[]) (ho.own 46 (.base (om _ (ak.2 rfl))) _ _ rfl) rfl⟩⟩)
       (λw2 cap' bt ρ k2 b2 fo pJ lS hlen mO iJ=>wV rfl ?_)
      refine ag ?_;refine VS.back (n-(i+1)) ae ⟨_,_,?_,?_,?_,?_,⟨i+1,0,[dg],.row 47 0 ([dg]).length cap',ae,aa,aa,.inr ⟨cap',bt,aa,aa,by simp;omega,lS,?_,mO,iJ⟩,by simp at vx ⊢;omega,eP.cons Oj.2 (eP.nil _),fQ _,hst⟩⟩
      ·exact⟨aa,aa,aa,aa,aa,au (λz=>some (AV.val (.int .i64 z))) Bl,aj⟩
      ·exact⟨aa,aj⟩
      ·rfl
      ·exact⟨.append (.none (bV _)) (.none iJ),aj⟩
      ·simpa [cS,Nat.add_assoc] using hlen
   ·have Du:y=0:=by rw[ji ae] at hyg;omega
    have hwX:IntKind.i64.wrap ((x:Int)-(br:Int))=X:=by rw[yj,hX,Du,ni];omega
    refine VS.bB aa (aU (aW.2 xP)) ?_;refine ag ?_;refine VO.cond aa fb (wV aa ?_);refine VO.read aa [.int .i64 (x:Int)] aa (nK aa qz) (wV aa ?_);refine VO.fix 10 aa (au (λz=>AV.val (.int .i64 z)) hwX) ?_;refine ag ?_;refine VS.bC aa (aR (λe=>him (aW.1 e))) ?_;refine ag ?_;by_cases h0:X<0
    ·rw[if_pos h0] at pY
     have Ql:IntKind.i64.wrap ((IntKind.i64.wrap (65535-X)).tdiv 65536)=(qD:Int):=by
      rw[bQ (65535-X) ae,yH ae,bQ _ ae,pY.1]
     have hwd:IntKind.i64.wrap (X+IntKind.i64.wrap (65536*(qD:Int)))=(dg:Int):=by
      rw[bQ (65536*(qD:Int)) ae,bQ _ ae,Oj.1]
     refine VS.bB aa (aU h0) ?_;refine ag ?_
     ·refine VO.jX 46 aa (au (λz=>[AV.val (.int .i64 z)]) (show _=(dg:Int) by rw[Ql,hwd])) ?_
      refine VO.app (bU _ _) (t:=315) (e:=3) (sz:=1) (n:=0) (c:=0) (mm:=1) (known:=[]) (spare:=[]) (news:=iv [dg]) (dst:=47) (del:=none) aa aa aa aa aa aa aa aa (cG aa) aa (.inl ⟨aa,aa,aa,aa,aa,aa,ae⟩) (.inl aa) aa aa ae ae ⟨aa,aa,bV _⟩ ⟨aa,aa,oW _⟩ aa ae
       (λw1 β k1 b1 ho=>⟨_,_,rfl,.inr ⟨β 46,0,rfl,iX (rest:=[]) (ho.own 46 (.base (om _ (ak.2 rfl))) _ _ rfl) rfl⟩⟩)
       (λw2 cap' bt ρ k2 b2 fo pJ lS hlen mO iJ=>wV rfl ?_)
      refine ag ?_;refine VS.back (n-(i+1)) ae ⟨_,_,?_,?_,?_,?_,⟨i+1,qD,[dg],.row 47 0 ([dg]).length cap',ae,aa,aa,.inr ⟨cap',bt,aa,aa,by simp;omega,lS,?_,mO,iJ⟩,by simp at vx ⊢;omega,eP.cons Oj.2 (eP.nil _),pY.2,hst⟩⟩
      ·exact⟨aa,aa,aa,aa,au (λz=>some (AV.val (.int .i64 z))) Ql,au (λz=>some (AV.val (.int .i64 z))) Bl,aj⟩
      ·exact⟨aa,aj⟩
      ·rfl
      ·exact⟨.append (.none (bV _)) (.none iJ),aj⟩
      ·simpa [cS,Nat.add_assoc] using hlen
    ·rw[if_neg h0] at pY;have rS:qD=0:=ae;subst rS;refine VS.bC aa (aR h0) ?_;refine ag ?_
     ·refine VO.jX 46 aa (au (λz=>[AV.val (.int .i64 z)]) (show X=(dg:Int) by omega)) ?_
      refine VO.app (bU _ _) (t:=315) (e:=3) (sz:=1) (n:=0) (c:=0) (mm:=1) (known:=[]) (spare:=[]) (news:=iv [dg]) (dst:=47) (del:=none) aa aa aa aa aa aa aa aa (cG aa) aa (.inl ⟨aa,aa,aa,aa,aa,aa,ae⟩) (.inl aa) aa aa ae ae ⟨aa,aa,bV _⟩ ⟨aa,aa,oW _⟩ aa ae
       (λw1 β k1 b1 ho=>⟨_,_,rfl,.inr ⟨β 46,0,rfl,iX (rest:=[]) (ho.own 46 (.base (om _ (ak.2 rfl))) _ _ rfl) rfl⟩⟩)
       (λw2 cap' bt ρ k2 b2 fo pJ lS hlen mO iJ=>wV rfl ?_)
      refine ag ?_;refine VS.back (n-(i+1)) ae ⟨_,_,?_,?_,?_,?_,⟨i+1,0,[dg],.row 47 0 ([dg]).length cap',ae,aa,aa,.inr ⟨cap',bt,aa,aa,by simp;omega,lS,?_,mO,iJ⟩,by simp at vx ⊢;omega,eP.cons Oj.2 (eP.nil _),fQ _,hst⟩⟩
      ·exact⟨aa,aa,aa,aa,aa,au (λz=>some (AV.val (.int .i64 z))) Bl,aj⟩
      ·exact⟨aa,aj⟩
      ·rfl
      ·exact⟨.append (.none (bV _)) (.none iJ),aj⟩
      ·simpa [cS,Nat.add_assoc] using hlen
  ·by_cases him:i<m
   ·obtain⟨b2,o2,y',rfl,cJ,qT,vE⟩:=hs.cellAt him;obtain rfl:y'=y:=by rw[lU,qT] at hyg;exact hyg
    have hwX:IntKind.i64.wrap (IntKind.i64.wrap ((x:Int)-(br:Int))-IntKind.i64.wrap ((t:Int)*(y':Int)))=X:=by
     rw[yj,show (t:Int)*(y':Int)=((t*y':Nat):Int) by simp,bQ ((t*y':Nat):Int) ae,bQ _ ae];omega
    refine VS.bB aa (aU (aW.2 xP)) ?_;refine ag ?_;refine VO.cond aa fb (wV aa ?_);refine VO.read aa [.int .i64 (x:Int)] aa (nK aa qz) (wV aa ?_);refine ag ?_;refine VS.bB aa (aU (aW.2 him)) ?_;refine ag ?_;refine VO.cond aa fb (wV aa ?_);refine VO.read aa [.int .i64 (y':Int)] aa (nK aa vE) (wV aa ?_);refine VO.fix 10 aa (au (λz=>AV.val (.int .i64 z)) hwX) ?_;refine ag ?_;by_cases h0:X<0
    ·rw[if_pos h0] at pY
     have Ql:IntKind.i64.wrap ((IntKind.i64.wrap (65535-X)).tdiv 65536)=(qD:Int):=by
      rw[bQ (65535-X) ae,yH ae,bQ _ ae,pY.1]
     have hwd:IntKind.i64.wrap (X+IntKind.i64.wrap (65536*(qD:Int)))=(dg:Int):=by
      rw[bQ (65536*(qD:Int)) ae,bQ _ ae,Oj.1]
     refine VS.bB aa (aU h0) ?_;refine ag ?_
     ·refine VO.jX 46 aa (au (λz=>[AV.val (.int .i64 z)]) (show _=(dg:Int) by rw[Ql,hwd])) ?_
      refine VO.app (bU _ _) (t:=315) (e:=3) (sz:=1) (n:=ds.length) (c:=cap) (mm:=1) (known:=iv ds) (spare:=spare) (news:=iv [dg]) (dst:=47) (del:=some 47) aa aa aa aa aa aa aa aa (cG aa) aa (.inr ⟨47,aa,aa,aa⟩) (.inr aa) (by rw[cS];omega) (by rw[bg,cS];omega) h1 h2 ⟨bV _,h5,bV _⟩ ⟨oW _,h4,oW _⟩ aa ae
       (λw1 β k1 b1 ho=>⟨_,_,rfl,.inr ⟨β 46,0,rfl,iX (rest:=[]) (ho.own 46 (.base (om _ (ak.2 rfl))) _ _ rfl) rfl⟩⟩)
       (λw2 cap' bt ρ k2 b2 fo pJ lS hlen mO iJ=>wV rfl ?_)
      refine ag ?_;refine VS.back (n-(i+1)) ae ⟨_,_,?_,?_,?_,?_,⟨i+1,qD,ds++[dg],.row 47 0 (ds++[dg]).length cap',ae,aa,aa,.inr ⟨cap',bt,aa,aa,by simp;omega,lS,?_,mO,iJ⟩,by simp[vx],eP.append hdh (eP.cons Oj.2 (eP.nil _)),pY.2,hst⟩⟩
      ·exact⟨aa,aa,aa,au (λz=>some (AV.row 47 0 z cap')) cf,au (λz=>some (AV.val (.int .i64 z))) Ql,au (λz=>some (AV.val (.int .i64 z))) Bl,aj⟩
      ·exact⟨au (λl=>some (_,l++bt)) (sc _ _).symm,aj⟩
      ·rfl
      ·exact⟨.append (.none (bV _)) (.none iJ),aj⟩
      ·simpa [cS,Nat.add_assoc] using hlen
    ·rw[if_neg h0] at pY;have rS:qD=0:=ae;subst rS;refine VS.bC aa (aR h0) ?_;refine ag ?_
     ·refine VO.jX 46 aa (au (λz=>[AV.val (.int .i64 z)]) (show X=(dg:Int) by omega)) ?_
      refine VO.app (bU _ _) (t:=315) (e:=3) (sz:=1) (n:=ds.length) (c:=cap) (mm:=1) (known:=iv ds) (spare:=spare) (news:=iv [dg]) (dst:=47) (del:=some 47) aa aa aa aa aa aa aa aa (cG aa) aa (.inr ⟨47,aa,aa,aa⟩) (.inr aa) (by rw[cS];omega) (by rw[bg,cS];omega) h1 h2 ⟨bV _,h5,bV _⟩ ⟨oW _,h4,oW _⟩ aa ae
       (λw1 β k1 b1 ho=>⟨_,_,rfl,.inr ⟨β 46,0,rfl,iX (rest:=[]) (ho.own 46 (.base (om _ (ak.2 rfl))) _ _ rfl) rfl⟩⟩)
       (λw2 cap' bt ρ k2 b2 fo pJ lS hlen mO iJ=>wV rfl ?_)
      refine ag ?_;refine VS.back (n-(i+1)) ae ⟨_,_,?_,?_,?_,?_,⟨i+1,0,ds++[dg],.row 47 0 (ds++[dg]).length cap',ae,aa,aa,.inr ⟨cap',bt,aa,aa,by simp;omega,lS,?_,mO,iJ⟩,by simp[vx],eP.append hdh (eP.cons Oj.2 (eP.nil _)),fQ _,hst⟩⟩
      ·exact⟨aa,aa,aa,au (λz=>some (AV.row 47 0 z cap')) cf,aa,au (λz=>some (AV.val (.int .i64 z))) Bl,aj⟩
      ·exact⟨au (λl=>some (_,l++bt)) (sc _ _).symm,aj⟩
      ·rfl
      ·exact⟨.append (.none (bV _)) (.none iJ),aj⟩
      ·simpa [cS,Nat.add_assoc] using hlen
   ·have Du:y=0:=by rw[ji ae] at hyg;omega
    have hwX:IntKind.i64.wrap ((x:Int)-(br:Int))=X:=by rw[yj,hX,Du,ni];omega
    refine VS.bB aa (aU (aW.2 xP)) ?_;refine ag ?_;refine VO.cond aa fb (wV aa ?_);refine VO.read aa [.int .i64 (x:Int)] aa (nK aa qz) (wV aa ?_);refine VO.fix 10 aa (au (λz=>AV.val (.int .i64 z)) hwX) ?_;refine ag ?_;refine VS.bC aa (aR (λe=>him (aW.1 e))) ?_;refine ag ?_;by_cases h0:X<0
    ·rw[if_pos h0] at pY
     have Ql:IntKind.i64.wrap ((IntKind.i64.wrap (65535-X)).tdiv 65536)=(qD:Int):=by
      rw[bQ (65535-X) ae,yH ae,bQ _ ae,pY.1]
     have hwd:IntKind.i64.wrap (X+IntKind.i64.wrap (65536*(qD:Int)))=(dg:Int):=by
      rw[bQ (65536*(qD:Int)) ae,bQ _ ae,Oj.1]
     refine VS.bB aa (aU h0) ?_;refine ag ?_
     ·refine VO.jX 46 aa (au (λz=>[AV.val (.int .i64 z)]) (show _=(dg:Int) by rw[Ql,hwd])) ?_
      refine VO.app (bU _ _) (t:=315) (e:=3) (sz:=1) (n:=ds.length) (c:=cap) (mm:=1) (known:=iv ds) (spare:=spare) (news:=iv [dg]) (dst:=47) (del:=some 47) aa aa aa aa aa aa aa aa (cG aa) aa (.inr ⟨47,aa,aa,aa⟩) (.inr aa) (by rw[cS];omega) (by rw[bg,cS];omega) h1 h2 ⟨bV _,h5,bV _⟩ ⟨oW _,h4,oW _⟩ aa ae
       (λw1 β k1 b1 ho=>⟨_,_,rfl,.inr ⟨β 46,0,rfl,iX (rest:=[]) (ho.own 46 (.base (om _ (ak.2 rfl))) _ _ rfl) rfl⟩⟩)
       (λw2 cap' bt ρ k2 b2 fo pJ lS hlen mO iJ=>wV rfl ?_)
      refine ag ?_;refine VS.back (n-(i+1)) ae ⟨_,_,?_,?_,?_,?_,⟨i+1,qD,ds++[dg],.row 47 0 (ds++[dg]).length cap',ae,aa,aa,.inr ⟨cap',bt,aa,aa,by simp;omega,lS,?_,mO,iJ⟩,by simp[vx],eP.append hdh (eP.cons Oj.2 (eP.nil _)),pY.2,hst⟩⟩
      ·exact⟨aa,aa,aa,au (λz=>some (AV.row 47 0 z cap')) cf,au (λz=>some (AV.val (.int .i64 z))) Ql,au (λz=>some (AV.val (.int .i64 z))) Bl,aj⟩
      ·exact⟨au (λl=>some (_,l++bt)) (sc _ _).symm,aj⟩
      ·rfl
      ·exact⟨.append (.none (bV _)) (.none iJ),aj⟩
      ·simpa [cS,Nat.add_assoc] using hlen
    ·rw[if_neg h0] at pY;have rS:qD=0:=ae;subst rS;refine VS.bC aa (aR h0) ?_;refine ag ?_
     ·refine VO.jX 46 aa (au (λz=>[AV.val (.int .i64 z)]) (show X=(dg:Int) by omega)) ?_
      refine VO.app (bU _ _) (t:=315) (e:=3) (sz:=1) (n:=ds.length) (c:=cap) (mm:=1) (known:=iv ds) (spare:=spare) (news:=iv [dg]) (dst:=47) (del:=some 47) aa aa aa aa aa aa aa aa (cG aa) aa (.inr ⟨47,aa,aa,aa⟩) (.inr aa) (by rw[cS];omega) (by rw[bg,cS];omega) h1 h2 ⟨bV _,h5,bV _⟩ ⟨oW _,h4,oW _⟩ aa ae
       (λw1 β k1 b1 ho=>⟨_,_,rfl,.inr ⟨β 46,0,rfl,iX (rest:=[]) (ho.own 46 (.base (om _ (ak.2 rfl))) _ _ rfl) rfl⟩⟩)
       (λw2 cap' bt ρ k2 b2 fo pJ lS hlen mO iJ=>wV rfl ?_)
      refine ag ?_;refine VS.back (n-(i+1)) ae ⟨_,_,?_,?_,?_,?_,⟨i+1,0,ds++[dg],.row 47 0 (ds++[dg]).length cap',ae,aa,aa,.inr ⟨cap',bt,aa,aa,by simp;omega,lS,?_,mO,iJ⟩,by simp[vx],eP.append hdh (eP.cons Oj.2 (eP.nil _)),fQ _,hst⟩⟩
      ·exact⟨aa,aa,aa,au (λz=>some (AV.row 47 0 z cap')) cf,aa,au (λz=>some (AV.val (.int .i64 z))) Bl,aj⟩
      ·exact⟨au (λl=>some (_,l++bt)) (sc _ _).symm,aj⟩
      ·rfl
      ·exact⟨.append (.none (bV _)) (.none iJ),aj⟩
      ·simpa [cS,Nat.add_assoc] using hlen
 ·obtain rfl:i=n:=by omega
  have hend:=Qj hdh vx fv (show t*hval (halves B)<=hval (halves A) by rw[bG,bG];exact hle) (by
   rcases mX t with e|e
   ·exact .inl e
   ·right
    rw[<-fv];exact dX ae (aV (Nat.le_mul_of_pos_left B e) hle)) hv
  rw[bG,bG] at hend;rcases bD with ⟨rfl,rfl,rfl⟩|⟨cap,spare,rfl,rfl,h1,h2,h3,h4,h5⟩
  all_goals
   refine ag ?_;refine VS.bC aa (aR (λe=>xP (aW.1 e))) ?_;refine ag ?_
  ·refine VO.call aa aa (fk xh) (λcV eG db=>(jj none 0 0 [] cV (Rd.own (mc _ 0 0 _)) (eP.nil _)).mono ?_);rintro e w1 ⟨⟨mm,Cu,rfl,hcut⟩,rfl⟩;obtain rfl:mm=0:=ae;refine⟨_,aa,ax.refl _,λfM _ bb1=>wV aa ?_⟩;refine ag ?_;refine ck ?_;intro wz kz bz;have e0:A-t*B=0:=by rw[<-hend];rfl
   exact⟨_,aa,by rw[e0,nE];exact fH.nil _ _,bz⟩
  ·refine VO.CP aa (fk xh) (λw1 β k1 b1 ho=>(jj (some ⟨β 47,0,none⟩) ds.length cap ds w1 (nJ (ho.own 47 (.base (ak.2 aa)) _ _ aa) aa h1 (by simpa [maxLen] using h2)) hdh).mono ?_);rintro e w2 ⟨⟨mm,Cu,rfl,hcut⟩,rfl⟩;refine⟨.row 47 0 mm cap,aa,λi hi=>⟨hi,by cases ak.1 hi;exact BQ _⟩,ax.refl _,λk2 _ b2=>wV aa ?_⟩;refine ag ?_;refine VS.oU (bU _ _) aa (λwz β kz bz he=> ?_);have vz:=yB hcut Cu aa;rw[hend] at hcut vz;refine⟨_,aa,?_,bz⟩;have:=rE (he.own 47 _ _ aa) aa Cu h1 (by simpa [maxLen] using h2) h3;rw[<-hcut] at this;show fH wz w.heap.size (.slice (some ⟨β 47,0,none⟩) mm cap) _ _;rw[<-vz];exact this
set_option maxRecDepth 4000
variable {v:Value} {w':World}
theorem fH.lG {n:Nat} (h:fH w B v n xs) (k:aK KI w w'):fH w' B v n xs:=by
 obtain⟨hn,e|⟨b,c,spare,e,hb,hc,r⟩⟩:=h
 ·exact⟨hn,.inl e⟩
 ·exact⟨hn,.inr ⟨b,c,spare,e,hb,k.block _ b _ aa aj hc,r⟩⟩
variable {cs:List Value}
theorem Bm.kp {n:Nat} (h:w.ownsRow B 3 1 v n cs) (k:aK KI w w'):w'.ownsRow B 3 1 v n cs:=by
 refine⟨h.1,?_⟩;rcases h.2 with h2|⟨g,cap,cur,hv,hb,hg,r⟩
 ·exact .inl h2
 ·exact .inr ⟨g,cap,cur,hv,hb,k.block _ g cur aa aj hg,r⟩
theorem fH.form {n:Nat} (h:fH w B v n xs):∃ p c,v=.slice p n c:=by
 obtain⟨hn,⟨rfl,rfl⟩|⟨b,c,spare,rfl,_⟩⟩:=h
 ·exact⟨none,0,aa⟩
 ·exact⟨_,c,aa⟩
theorem Hb (x:Nat):hval [x]=x:=by show x+65536*0=x;omega
variable {Q:Prop}
theorem fI (h:Q) (i:Q->P:=by intro h;(repeat first|refine wN ?_|refine wP rfl ?_|refine CQ rfl ?_|refine cxI_d rfl ?_|refine wO rfl rfl ?_);exact h):P:=i h
theorem gJ {X:Prop} (hb:X) (h:Q) (i:X->Q->P:=by intro hb h;refine⟨_,rfl,hb,λa b c=>wV rfl ?_⟩;refine fI ?_;revert a b c;exact h):P:=i hb h
theorem xC (h:Q) (i:Q->P:=by intro h;exact VS.ret (pX _ _) rfl rfl h):P:=i h
theorem xD (va vb:Value) (n m A B:Nat) (w:World) (hr:Rd w 1 va n (ints .i64 (halves A))) (hs:Rd w 1 vb m (ints .i64 (halves B))) (hB:A<65536*B) (hm:m<=2147483656):
  Calls Tryz.prog 296 #[va,vb] w λe w'=>e=.returned (.int .i64 ((A/B:Nat):Int))/\ax w w':=by
 obtain⟨p,c,rfl,fV,gj,fv⟩:=hr.i64;obtain⟨q,d,rfl,NY,IJ,iU⟩:=hs.i64;refine ai (C:=Lv Tryz.prog w _) (args:=[_,_]) Tryz.func296 aa Tryz.ntmps296 (cG aa) ?_;refine fI ?_;refine VS.loop (J:=λms L M w'=>∃ (lo hi:Nat),lo<hi/\hi<=65536/\ms=hi-lo/\L=[(0,.val (.slice p n c)),(1,.val (.slice q m d)),(5,.val (.int .i64 (lo:Int))),(6,.val (.int .i64 (hi:Int)))]/\M=[]/\lo*B<=A/\A<hi*B) 65536 ⟨_,_,?_,?_,?_,?_,⟨0,65536,ae,ae,aa,aa,aa,ae,hB⟩⟩ ?_
 ·exact lD
 ·exact lD
 ·rfl
 ·exact aj
 rintro ms L M w' ⟨lo,hi,hlh,hh,rfl,rfl,rfl,h1,h2⟩;have yj:IntKind.i64.wrap ((hi:Int)-(lo:Int))=(hi:Int)-lo:=bQ _ ae;refine fI ?_;by_cases hgo:1<hi-lo
 ·obtain⟨mid,pK⟩:∃ mid,mid=(lo+hi)/2:=⟨_,aa⟩
  have hwm:IntKind.i64.wrap ((IntKind.i64.wrap ((lo:Int)+(hi:Int))).tdiv 2)=(mid:Int):=by
   rw[bQ ((lo:Int)+(hi:Int)) ae,yH ae,bQ _ ae];omega
  refine VS.bB aa (aU (by rw[yj];omega)) ?_;refine fI ?_;refine VO.lit (pX _ _) [.int .i64 (mid:Int)] aa (by rw[hwm];rfl) aa aa aa aa aa aa aa ae (λw2 b k2 b2 ho=>wV aa ?_);have hmid4:mid<65536:=ae;refine VO.call aa aa (fk Tryz.func201) (λcV eG db=>(Ha _ _ m 1 (halves B) [mid] cV (hs.below db) (Rd.own (Bm.kp (cs:=ints .i64 [mid]) ho eG)) (cL B) (eP.cons hmid4 (eP.nil _)) hm ae).mono ?_);rintro e w1 ⟨v1,rfl,q1,bF⟩;rw[bG,Hb] at q1;obtain⟨p1,c1,rfl⟩:=q1.form;refine gJ bF ?_;intro fM _ bb1;refine VO.cB aa aa (fk Tryz.func313) (λiG iK jm=>JL _ _ n _ A (B*mid) iG (hr.below jm) (Rd.own (q1.lG iK).own)) (λiG iK jm w3 ee nH _ bb3=>wV aa ?_);refine fI ?_;by_cases hlt:A<B*mid
  ·refine VS.bB aa (aU hlt) ?_;refine fI ?_;refine VS.back (mid-lo) ae ⟨_,_,?_,?_,?_,?_,⟨lo,mid,ae,ae,aa,aa,aa,h1,by rw[gi];exact hlt⟩⟩
   ·exact⟨aa,aa,aa,au (λz=>some (AV.val (.int .i64 z))) hwm,aj⟩
   ·exact lD
   ·rfl
   ·exact aj
  ·refine VS.bC aa (aR hlt) ?_;refine fI ?_;refine VS.back (hi-mid) ae ⟨_,_,?_,?_,?_,?_,⟨mid,hi,ae,ae,aa,aa,aa,by rw[gi];omega,h2⟩⟩
   ·exact⟨aa,aa,au (λz=>some (AV.val (.int .i64 z))) hwm,aa,aj⟩
   ·exact lD
   ·rfl
   ·exact aj
 ·refine VS.bC aa (aR (by rw[yj];omega)) ?_;refine fI ?_;refine xC ?_;intro wz kz bz;refine⟨?_,bz⟩
  have hBp:0<B:=by
   rcases mX B with e|e
   ·rw[e] at hB;omega
   ·exact e
  have:A/B=lo:=by
   have e1:hi=lo+1:=ae;rw[e1,ek] at h2;exact Nat.div_eq_of_lt_le h1 (by rw[ek];exact h2)
  rw[this];rfl
theorem zV {k R V:Nat} {qs:List Nat} (hx:(halves A)[k]? =some x) (hR:R<B) (hV:V=x+65536*R) (h:hval qs*B+R=hval ((halves A).drop (k+1))):
  hval ((V/B)::qs)*B+(V-V/B*B)=hval ((halves A).drop k)/\V<65536*B/\V-V/B*B<B/\V/B<65536:=by
 have lE:=(cL A).at hx;have e1:hval ((halves A).drop k)=x+65536*hval ((halves A).drop (k+1)):=sK hx;have e2:hval ((V/B)::qs)=V/B+65536*hval qs:=aa;have e3:=BZ V B;have e4:=eR V (show 0<B by omega);rw[gi] at e3
 have hlt:V<65536*B:=by
  have:65536*R+65536<=65536*B:=by
   have:=jM 65536 (show R+1<=B by omega);rw[ct] at this;omega
  omega
 refine⟨?_,hlt,ae,Nat.div_lt_of_lt_mul (by rw[gi];exact hlt)⟩;rw[e1,<-h,e2,ek,ct,eJ];omega
theorem Hc (va vb:Value) (n m A B:Nat) (w:World) (hr:Rd w 1 va n (ints .i64 (halves A))) (hs:Rd w 1 vb m (ints .i64 (halves B))) (hB:0<B) (hn:n<=1073741824) (hm:m<=1073741824):
  Calls Tryz.prog 260 #[va,vb] w λe w'=>∃ v u,e=.returned (.tuple #[v,u])/\fH w' w.heap.size v (halves (A/B)).length (halves (A/B))/\fH w' w.heap.size u (halves (A%B)).length (halves (A%B))/\ax w w':=by
 obtain⟨p,c,rfl,fV,gj,fv⟩:=hr.i64;obtain⟨q,d,rfl,NY,IJ,iU⟩:=hs.i64;refine ai (C:=aY Tryz.prog w _) (args:=[_,_]) Tryz.func260 aa Tryz.ntmps260 (cG aa) ?_;refine ag ?_;refine VO.cond aa ⟨aa,ae,by show (n:Int)*(24*1)<=_;omega⟩ (VO.jX 12 aa (zT _) (wV aa ?_));rw[bh];refine ag ?_;have hw0:IntKind.i64.wrap ((n:Int)-1)=(n:Int)-1:=bQ _ ae
 refine VS.loop (J:=λms L M w'=>∃ (k R:Nat) (qs:List Nat) (v:AV) (M1:List (Nat×(TypeId×List AV))),k<=n/\ms=k/\L=[(0,.val (.slice p n c)),(1,.val (.slice q m d)),(6,.row 12 0 n n),(7,v),(8,.val (.int .i64 ((k:Int)-1)))]/\
  M=(12,(3,iv (List.replicate k 0++qs)))::M1/\RowAt 41 (halves R) v M1/\qs.length=n-k/\iz qs/\R<B/\hval qs*B+R=hval ((halves A).drop k)) n ⟨_,_,?_,?_,?_,?_,⟨n,0,[],.val (.slice none 0 0),[],aP _,rfl,rfl,rfl,.inl ⟨nE,rfl,rfl⟩,cf,eP.nil _,hB,by rw[mV ae];simp[hval,val]⟩⟩ ?_
 ·exact⟨aa,aa,aa,aa,au (λz=>some (AV.val (.int .i64 z))) hw0,aj⟩
 ·exact⟨au (λl=>some (_,l)) (by rw[eX]),aj⟩
 ·rfl
 ·exact⟨.none (bV _),aj⟩
 rintro ms L M w' ⟨k,R,qs,v,M1,hk,hms,rfl,rfl,bD,hql,hqh,hRB,hv⟩;have hz:(List.replicate k 0++qs).length=n:=by simp;omega
 rcases bD with ⟨hR0,rfl,rfl⟩|⟨cap,spare,rfl,rfl,g1,g2,g3,g4,g5⟩
 all_goals
  by_cases Cq:k=0
 ·subst Cq;refine ag ?_;refine VO.CP aa (fk xh) (λw1 β k1 bw ho=>(jj (some ⟨β 12,0,none⟩) n n qs w1 (nJ (spare:=[]) (by rw[eX];exact ho.own 12 (.base (ak.2 aa)) _ _ aa) (by simpa using hz) (aP _) (by simp only[maxLen];omega)) hqh).mono ?_);rintro e w2 ⟨⟨mm,Cu,rfl,hcut⟩,rfl⟩;refine⟨.row 12 0 mm n,aa,λi hi=>⟨hi,by cases ak.1 hi;exact BQ _⟩,ax.refl _,λk2 _ b2=>wV aa ?_⟩;refine ag ?_;refine VS.oU (bU _ _) aa (λwz β kz bz he=> ?_);have hq0:qs.length=n:=by simpa using hz
  have vz:=yB hcut Cu hq0;rw[Fo,bG] at hv;have hA:A/B=hval qs:=by rw[<-hv,ud,Nat.add_mul_div_right _ _ hB,xf hRB,fe]
  have hM:A%B=R:=by rw[<-hv,ud,Ow,tY hRB]
  rw[<-hA] at hcut vz;have e12:=rE (spare:=[]) (by rw[eX];exact he.own 12 _ _ aa) hq0 Cu (aP _) (by simp only[maxLen];omega) (by simpa using hq0);rw[<-hcut] at e12;refine⟨.slice (some ⟨β 12,0,none⟩) mm n,.slice none 0 0,aa,by rw[<-vz];exact e12,?_,bz⟩;rw[hM,hR0];exact fH.nil _ _
 ·obtain⟨j,rfl⟩:∃ j,k=j+1:=⟨k-1,ae⟩;have hj:((j+1:Nat):Int)-1=(j:Int):=ae;obtain⟨b1,o1,x,rfl,bF,iI,qz⟩:=hr.cellAt (show j<n by omega);have lE:=(cL A).at iI;obtain⟨V,hV⟩:∃ V,V=x+65536*R:=⟨_,aa⟩;obtain⟨s1,s2,s3,s4⟩:=zV iI hRB hV hv;have hRl:(halves R).length<=m:=by rw[<-iU];exact dX ae ae
  have hXS:hval [x]=V:=by have hR0':R=0:=(by have:=au hval hR0;rw[bG] at this;exact this);rw[hV,hR0'];exact Hb x
  have hXH:iz [x]:=eP.cons lE (eP.nil _);have hXL:[x].length=(1+0):=aa;refine VS.fix 8 aa (au (λz=>AV.val (.int .i64 z)) hj) ?_;refine ag ?_;refine VO.cond aa fb (wV aa ?_);refine VO.read aa [.int .i64 (x:Int)] aa (nK aa qz) (wV aa ?_);refine ag ?_
  refine VO.app (bU _ _) (t:=315) (e:=3) (sz:=1) (n:=1) (c:=1) (mm:=0) (known:=iv [x]) (spare:=[]) (news:=[]) (dst:=27) (del:=some 24) aa aa aa aa aa aa aa aa (cG aa) aa (.inr ⟨24,aa,aa,aa⟩) (.inl aa) aa aa ae ae ⟨aa,aa,aa⟩ ⟨aa,aa,aa⟩ aa ae
   (λw1 β k1 bw ho=>⟨_,_,rfl,.inl rfl⟩)
   (λw2 cap' bt ρ k2 b2 fo pJ lS hlen mO iJ=>VO.jX 12 rfl (Qi 24 ρ _) (wV rfl ?_))
  have hcells:(iv [x]++[])++bt=iv [x]++bt:=aa;refine VO.CP aa (fk xh) (λw1 β k1 bw ho=>(jj (some ⟨β 27,0,none⟩) (1+0) cap' [x] w1 (nJ (ho.own 27 (.base (ak.2 aa)) _ _ aa) hXL pJ (by simpa [maxLen] using lS)) hXH).mono ?_);rintro e w3 ⟨⟨m',hm',rfl,hcut⟩,rfl⟩;rw[hXS] at hcut;have hm'l:m'=(halves V).length:=by rw[hcut,cE];omega
  have vw:∀ {C:Cx} {β:Nat->Nat} {w:World},oL C β w 27 3 (iv [x]++bt)->Rd w 1 (.slice (some ⟨β 27,0,none⟩) m' cap') m' (ints .i64 (halves V)):=λh=>by
   have:=Rd.GU (nJ h hXL pJ (by simpa [maxLen] using lS)) hm'
   rwa [<-hcut] at this
  refine⟨.row 27 0 m' cap',aa,λi hi=>⟨hi,by cases ak.1 hi;exact BQ _⟩,ax.refl _,λk3 _ b3=>wV aa ?_⟩;refine ag ?_;refine VO.GK aa (fk Tryz.func296) (λw1 β k1 bw ho=>(xD _ _ m' m V B w1 (vw (ho.own 27 (.base (yJ _ (ak.2 aa))) _ _ aa)) (hs.below bw) s2 ae).mono ?_);rintro e w4 ⟨rfl,jJ⟩;refine⟨_,aa,jJ,λk4 _ b4=>wV aa ?_⟩;refine VO.cond aa fb (wV aa ?_);refine VO.cond aa (by show 0+(j:Int).toNat*1+1<=_;rw[bh,cS];omega) (wV aa ?_);refine wN ?_;refine VS.narrow [(0,.val (.slice (some ⟨b1,o1,none⟩) n c)),(1,.val (.slice q m d)),(6,.row 12 0 n n),(7,.row 27 0 m' cap'),(8,.val (.int .i64 (j:Int)))] [(12,(3,iv (List.replicate j 0++(V/B)::qs))),(27,(3,iv [x]++bt))] ?_ ?_ aa ?_ ?_
  ·exact lD
  ·exact⟨au (λl=>some (_,l)) ((yA (j:=j) (x:=V/B) (by rw[hz];omega) (by rw[bh];omega)).trans (by rw[xB])),aa,aj⟩
  ·exact⟨.none (bV _),.append (.none (bV _)) (.none iJ),aj⟩
  refine ag ?_;refine VO.cond aa fb (wV aa ?_);refine VO.fN aa [.val (.int .i64 ((V/B:Nat):Int))] aa (uQ (j:=j) (by rw[mS cf];simp) (by rw[bh];omega)) (wV aa ?_);have yj:IntKind.i64.wrap ((j:Int)-1)=(j:Int)-1:=bQ _ ae;refine VO.callN (dst:=41) (n:=(halves (V-V/B*B)).length) (t:=3) (sz:=1) (xs:=ints .i64 (halves (V-V/B*B))) aa aa aa (cG aa) (by show 1<=2;omega) aa (λw1 β k1 bw ho=>⟨(fk Tryz.func297),(zU _ _ m' m (V/B) V B w1 (vw (ho.own 27 (.base (yJ _ (ak.2 aa))) _ _ aa)) (hs.below bw) s4 (Fi _ _) ae).mono ?_⟩);rintro e w5 ⟨v5,rfl,Hd,lL⟩;refine⟨v5,aa,lL,Hd.new,λ_ _ _ hv5=>wV aa ?_,λc5 sp5 _ _ _ hv5 hok5 hl5 hc5 kS=>wV aa ?_⟩
  ·have dZ:halves (V-V/B*B)=[]:=by
    subst hv5;obtain⟨e1,⟨_,e2⟩|⟨_,_,_,e2,_⟩⟩:=Hd
    ·exact mR e2
    ·cases e2
   refine ag ?_;refine VS.back j ae ⟨_,_,?_,?_,?_,?_,⟨j,V-V/B*B,(V/B)::qs,.val (.slice none 0 0),[],ae,aa,aa,aa,.inl ⟨dZ,aa,aa⟩,by simp;omega,eP.cons s4 hqh,s3,s1⟩⟩
   ·exact⟨aa,aa,aa,aa,au (λz=>some (AV.val (.int .i64 z))) yj,aj⟩
   ·exact⟨aa,aj⟩
   ·rfl
   ·exact⟨.none (bV _),aj⟩
  ·have hln':(halves (V-V/B*B)).length+sp5.length=c5:=by simpa using kS
   refine ag ?_;refine VS.back j ae ⟨_,_,?_,?_,?_,?_,⟨j,V-V/B*B,(V/B)::qs,.row 41 0 _ c5,_,ae,aa,aa,aa,.inr ⟨c5,sp5.map .val,aa,aa,hl5,hc5,by simpa using hln',aL hok5,ah _⟩,by simp;omega,eP.cons s4 hqh,s3,s1⟩⟩
   ·exact⟨aa,aa,aa,aa,au (λz=>some (AV.val (.int .i64 z))) yj,aj⟩
   ·exact⟨aa,au (λl=>some (_,l)) (aF),aj⟩
   ·rfl
   ·exact⟨.none (bV _),.append (.none (bV _)) (.none (ah _)),aj⟩
 ·subst Cq;refine ag ?_;refine VO.CP aa (fk xh) (λw1 β k1 bw ho=>(jj (some ⟨β 12,0,none⟩) n n qs w1 (nJ (spare:=[]) (by rw[eX];exact ho.own 12 (.base (ak.2 aa)) _ _ aa) (by simpa using hz) (aP _) (by simp only[maxLen];omega)) hqh).mono ?_);rintro e w2 ⟨⟨mm,Cu,rfl,hcut⟩,rfl⟩;refine⟨.row 12 0 mm n,aa,λi hi=>⟨hi,by cases ak.1 hi;exact BQ _⟩,ax.refl _,λk2 _ b2=>wV aa ?_⟩;refine ag ?_;refine VS.oU (bU _ _) aa (λwz β kz bz he=> ?_);have hq0:qs.length=n:=by simpa using hz
  have vz:=yB hcut Cu hq0;rw[Fo,bG] at hv;have hA:A/B=hval qs:=by rw[<-hv,ud,Nat.add_mul_div_right _ _ hB,xf hRB,fe]
  have hM:A%B=R:=by rw[<-hv,ud,Ow,tY hRB]
  rw[<-hA] at hcut vz;have e12:=rE (spare:=[]) (by rw[eX];exact he.own 12 _ _ aa) hq0 Cu (aP _) (by simp only[maxLen];omega) (by simpa using hq0);rw[<-hcut] at e12;have e41:=rE (he.own 41 _ _ aa) aa (aP _) g1 (by simpa [maxLen] using g2) g3;rw[BX] at e41;refine⟨.slice (some ⟨β 12,0,none⟩) mm n,.slice (some ⟨β 41,0,none⟩) (halves R).length cap,aa,by rw[<-vz];exact e12,?_,bz⟩;rw[hM];exact e41
 ·obtain⟨j,rfl⟩:∃ j,k=j+1:=⟨k-1,ae⟩;have hj:((j+1:Nat):Int)-1=(j:Int):=ae;obtain⟨b1,o1,x,rfl,bF,iI,qz⟩:=hr.cellAt (show j<n by omega);have lE:=(cL A).at iI;obtain⟨V,hV⟩:∃ V,V=x+65536*R:=⟨_,aa⟩;obtain⟨s1,s2,s3,s4⟩:=zV iI hRB hV hv;have hRl:(halves R).length<=m:=by rw[<-iU];exact dX ae ae
  have hXS:hval (x::halves R)=V:=by rw[hV];show x+65536*hval (halves R)=_;rw[bG]
  have hXH:iz (x::halves R):=eP.cons lE (cL R);have hXL:(x::halves R).length=(1+(halves R).length):=by simp;omega
  refine VS.fix 8 aa (au (λz=>AV.val (.int .i64 z)) hj) ?_;refine ag ?_;refine VO.cond aa fb (wV aa ?_);refine VO.read aa [.int .i64 (x:Int)] aa (nK aa qz) (wV aa ?_);refine ag ?_
  refine VO.app (bU _ _) (t:=315) (e:=3) (sz:=1) (n:=1) (c:=1) (mm:=(halves R).length) (known:=iv [x]) (spare:=[]) (news:=iv (halves R)) (dst:=27) (del:=some 24) aa aa aa aa aa aa aa aa (cG aa) aa (.inr ⟨24,aa,aa,aa⟩) (.inl aa) aa aa ae ae ⟨aa,aa,bV _⟩ ⟨aa,aa,oW _⟩ (by rw[cS];omega) ae
   (λw1 β k1 bw ho=>⟨_,_,rfl,.inr ⟨β 41,0,rfl,iX (rest:=spare) (ho.own 41 (.base (om _ (ak.2 rfl))) _ _ rfl) rfl⟩⟩)
   (λw2 cap' bt ρ k2 b2 fo pJ lS hlen mO iJ=>VO.jX 12 rfl (Qi 24 ρ _) (wV rfl ?_))
  have hcells:(iv [x]++iv (halves R))++bt=iv (x::halves R)++bt:=aa;refine VO.CP aa (fk xh) (λw1 β k1 bw ho=>(jj (some ⟨β 27,0,none⟩) (1+(halves R).length) cap' (x::halves R) w1 (nJ (ho.own 27 (.base (ak.2 aa)) _ _ aa) hXL pJ (by simpa [maxLen] using lS)) hXH).mono ?_);rintro e w3 ⟨⟨m',hm',rfl,hcut⟩,rfl⟩;rw[hXS] at hcut;have hm'l:m'=(halves V).length:=by rw[hcut,cE];omega
  have vw:∀ {C:Cx} {β:Nat->Nat} {w:World},oL C β w 27 3 (iv (x::halves R)++bt)->Rd w 1 (.slice (some ⟨β 27,0,none⟩) m' cap') m' (ints .i64 (halves V)):=λh=>by
   have:=Rd.GU (nJ h hXL pJ (by simpa [maxLen] using lS)) hm'
   rwa [<-hcut] at this
  refine⟨.row 27 0 m' cap',aa,λi hi=>⟨hi,by cases ak.1 hi;exact BQ _⟩,ax.refl _,λk3 _ b3=>wV aa ?_⟩;refine ag ?_;refine VO.GK aa (fk Tryz.func296) (λw1 β k1 bw ho=>(xD _ _ m' m V B w1 (vw (ho.own 27 (.base (yJ _ (ak.2 aa))) _ _ aa)) (hs.below bw) s2 ae).mono ?_);rintro e w4 ⟨rfl,jJ⟩;refine⟨_,aa,jJ,λk4 _ b4=>wV aa ?_⟩;refine VO.cond aa fb (wV aa ?_);refine VO.cond aa (by show 0+(j:Int).toNat*1+1<=_;rw[bh,cS];omega) (wV aa ?_);refine wN ?_;refine VS.narrow [(0,.val (.slice (some ⟨b1,o1,none⟩) n c)),(1,.val (.slice q m d)),(6,.row 12 0 n n),(7,.row 27 0 m' cap'),(8,.val (.int .i64 (j:Int)))] [(12,(3,iv (List.replicate j 0++(V/B)::qs))),(27,(3,iv (x::halves R)++bt))] ?_ ?_ aa ?_ ?_
  ·exact lD
  ·exact⟨au (λl=>some (_,l)) ((yA (j:=j) (x:=V/B) (by rw[hz];omega) (by rw[bh];omega)).trans (by rw[xB])),aa,aj⟩
  ·exact⟨.none (bV _),.append (.none (bV _)) (.none iJ),aj⟩
  refine ag ?_;refine VO.cond aa fb (wV aa ?_);refine VO.fN aa [.val (.int .i64 ((V/B:Nat):Int))] aa (uQ (j:=j) (by rw[mS cf];simp) (by rw[bh];omega)) (wV aa ?_);have yj:IntKind.i64.wrap ((j:Int)-1)=(j:Int)-1:=bQ _ ae;refine VO.callN (dst:=41) (n:=(halves (V-V/B*B)).length) (t:=3) (sz:=1) (xs:=ints .i64 (halves (V-V/B*B))) aa aa aa (cG aa) (by show 1<=2;omega) aa (λw1 β k1 bw ho=>⟨(fk Tryz.func297),(zU _ _ m' m (V/B) V B w1 (vw (ho.own 27 (.base (yJ _ (ak.2 aa))) _ _ aa)) (hs.below bw) s4 (Fi _ _) ae).mono ?_⟩);rintro e w5 ⟨v5,rfl,Hd,lL⟩;refine⟨v5,aa,lL,Hd.new,λ_ _ _ hv5=>wV aa ?_,λc5 sp5 _ _ _ hv5 hok5 hl5 hc5 kS=>wV aa ?_⟩
  ·have dZ:halves (V-V/B*B)=[]:=by
    subst hv5;obtain⟨e1,⟨_,e2⟩|⟨_,_,_,e2,_⟩⟩:=Hd
    ·exact mR e2
    ·cases e2
   refine ag ?_;refine VS.back j ae ⟨_,_,?_,?_,?_,?_,⟨j,V-V/B*B,(V/B)::qs,.val (.slice none 0 0),[],ae,aa,aa,aa,.inl ⟨dZ,aa,aa⟩,by simp;omega,eP.cons s4 hqh,s3,s1⟩⟩
   ·exact⟨aa,aa,aa,aa,au (λz=>some (AV.val (.int .i64 z))) yj,aj⟩
   ·exact⟨aa,aj⟩
   ·rfl
   ·exact⟨.none (bV _),aj⟩
  ·have hln':(halves (V-V/B*B)).length+sp5.length=c5:=by simpa using kS
   refine ag ?_;refine VS.back j ae ⟨_,_,?_,?_,?_,?_,⟨j,V-V/B*B,(V/B)::qs,.row 41 0 _ c5,_,ae,aa,aa,aa,.inr ⟨c5,sp5.map .val,aa,aa,hl5,hc5,by simpa using hln',aL hok5,ah _⟩,by simp;omega,eP.cons s4 hqh,s3,s1⟩⟩
   ·exact⟨aa,aa,aa,aa,au (λz=>some (AV.val (.int .i64 z))) yj,aj⟩
   ·exact⟨aa,au (λl=>some (_,l)) (aF),aj⟩
   ·rfl
   ·exact⟨.none (bV _),.append (.none (bV _)) (.none (ah _)),aj⟩
set_option maxRecDepth 4000
variable {X:Int}
theorem cY.lG {j:Nat} (h:cY w v X j) (k:aK KI w w'):cY w' v X j:=h.kp (U:=UU) k.dN
theorem cX.lG (h:cX w v X) (k:aK KI w w'):cX w' v X:=h.kp (U:=UU) k.dN
theorem aJ.lG (h:aJ w B v X) (k:aK KI w w'):aJ w' B v X:=h.kp k.dN
theorem Rd.lG {n:Nat} (h:Rd w 1 v n (ints .u32 xs)) (k:aK KI w w'):Rd w' 1 v n (ints .u32 xs):=h.kp (U:=UU) k.dN
theorem OwnU.lG {n:Nat} (h:w.ownsRow B UU 1 v n cs) (k:aK KI w w'):w'.ownsRow B UU 1 v n cs:=Own.kp h k.dN
theorem nL (a:Nat):(halves a).length<=2*(limbs a).length:=by
 have:=dM (aC a)
 rwa [aw] at this
theorem nM (va:Value) (n a:Nat) (w:World) (hr:Rd w 1 va n (ints .u32 (limbs a))) (hn:n<=1073741824):
  Calls Tryz.prog 202 #[va] w λe w'=>∃ p c,e=.returned (.slice p (halves a).length c)/\w'.ownsRow w.heap.size 3 1 (.slice p (halves a).length c) (halves a).length (ints .i64 (halves a))/\ax w w':=
 (El va n _ w hr (aC a) hn).mono λe w' ⟨v',he,ho,hb⟩=>by
  rw[aw] at ho;obtain⟨p,c,rfl,_⟩:=Own.form ho;exact⟨p,c,he,ho,hb⟩
theorem tx (va:Value) (n a:Nat) (w:World) (hr:Rd w 1 va n (ints .i64 (halves a))) (hn:n<=2147483646):
  Calls Tryz.prog 200 #[va] w λe w'=>∃ p c xs,e=.returned (.slice p ((n+1)/2) c)/\w'.ownsRow w.heap.size UU 1 (.slice p ((n+1)/2) c) ((n+1)/2) (ints .u32 xs)/\ar xs=a/\da xs/\ax w w':=
 (GZ va n _ w hr (cL a) ae).mono λe w' ⟨v',xs,he,hl,ho,hv,hx,hb⟩=>by
  obtain⟨p,c,rfl,_⟩:=Own.form ho;exact⟨p,c,xs,he,ho,by rw[hv,bG],hx,hb⟩
theorem zW (va vb:Value) (n m A B:Nat) (w:World) (hr:Rd w 1 va n (ints .i64 (halves A))) (hs:Rd w 1 vb m (ints .i64 (halves B))) (hB:0<B) (hn:n<=1073741824) (hm:m<=1073741824):
  Calls Tryz.prog 260 #[va,vb] w λe w'=>∃ p c q d,e=.returned (.tuple #[.slice p (halves (A/B)).length c,.slice q (halves (A%B)).length d])/\w'.ownsRow w.heap.size 3 1 (.slice p (halves (A/B)).length c) (halves (A/B)).length (ints .i64 (halves (A/B)))/\w'.ownsRow w.heap.size 3 1 (.slice q (halves (A%B)).length d) (halves (A%B)).length (ints .i64 (halves (A%B)))/\ax w w':=
 (Hc va vb n m A B w hr hs hB hn hm).mono λe w' ⟨v,u,he,h1,h2,hb⟩=>by
  obtain⟨p,c,rfl⟩:=h1.form;obtain⟨q,d,rfl⟩:=h2.form;exact⟨p,c,q,d,he,h1.own,h2.own,hb⟩
theorem LI {s:Bool} {n:Nat} (h:n≠0):(if s=true then-(n:Int) else n).sign=if s=true then-1 else 1:=by
 cases s
 ·exact fD (by simp;omega)
 ·exact sign_neg (by simp;omega)
theorem div_len {b:Nat}:(halves (a/b)).length<=(halves a).length:=dX ae (Fm _ _)
theorem mod_len {b:Nat}:(halves (a%b)).length<=(halves a).length:=dX ae (Nat.mod_le _ _)
theorem LJ {s:Bool} (hl:da xs) (hv:ar xs=a):Sz (if s=true then-((ar xs:Nat):Int) else ar xs) xs.length:=by
 unfold Sz;have:(if s=true then-((ar xs:Nat):Int) else ar xs).natAbs=ar xs:=by cases s <;> simp
 rw[this];exact jt hl
theorem nN (v u:Value) (X Y:Int) (j k:Nat) (w:World) (hv:cY w v X j) (hu:cY w u Y k) (hj:j<=134217728) (hk:k<=134217728):
  Calls Tryz.prog 195 #[v,u] w λe w'=>zM w w' X Y e/\ax w w':=by
 obtain⟨s,p,n,c,rfl⟩:=hv.form;obtain⟨t,q,m,d,rfl⟩:=hu.form;have vu:=hv.len;have qy:=hu.len;refine ai (C:=Lv Tryz.prog w _) (args:=[_,_]) Tryz.func195 aa Tryz.ntmps195 (cG aa) ?_;refine fI ?_;refine VO.call aa aa (fk ug) (λcV eG db=>(nG _ X j cV (hv.lG eG)).mono ?_);rintro e w1 ⟨r1,rfl,h1,bF⟩;obtain⟨s1,p1,n1,c1,rfl⟩:=h1.jv;refine gJ bF ?_;intro fM _ bb1;refine VO.call aa aa (fk ug) (λeD gO fG=>(nG _ Y k eD (hu.lG (fM.aG gO))).mono ?_);rintro e w2 ⟨r2,rfl,h2,cJ⟩;obtain⟨s2,p2,n2,c2,rfl⟩:=h2.jv;refine gJ cJ ?_;intro jH _ bb2;have e1:=uO h1.sgn;have e2:=uO h2.sgn;have l1:=nL X.natAbs;have l2:=nL Y.natAbs;by_cases hY:Y=0
 ·have hn0:n2=0:=by rw[h2.n,hY];exact au List.length cz
  refine VS.bB aa (by rw[beq_iff_eq];omega) ?_;refine fI ?_;refine xC ?_;intro wz kz bz;exact⟨.inl ⟨hY,_,_,aa,aJ.zero _ _,aJ.zero _ _⟩,bz⟩
 ·have hY0:Y.natAbs≠0:=by omega
  have hn0:n2≠0:=by rw[h2.n];intro e;exact hY0 (qR e)
  refine VS.bC aa (by rw[lZ];omega) ?_;refine fI ?_;refine VO.call aa aa (fk Tryz.func202) (λiG iK jm=>(nM _ n1 X.natAbs iG (h1.row.lG (gO.aG ((aK.of cJ).aG iK))) (by rw[h1.n];omega)).mono ?_);rintro e w3 ⟨p3,c3,rfl,h3,ee⟩
  skip
  refine gJ ee ?_;intro nH _ bb3;refine VO.call aa aa (fk Tryz.func202) (λmB pE pG=>(nM _ n2 Y.natAbs mB (h2.row.lG (iK.aG ((aK.of ee).aG pE))) (by rw[h2.n];omega)).mono ?_);rintro e w4 ⟨p4,c4,rfl,h4,jJ⟩
  skip
  refine gJ jJ ?_;intro sO _ Ej;refine VO.call aa aa (fk Tryz.func260) (λmP oV og=>(zW _ _ _ _ X.natAbs Y.natAbs mP (Rd.own (Bm.kp h3 (pE.aG ((aK.of jJ).aG oV)))) (Rd.own (Bm.kp h4 oV)) ae ae ae).mono ?_);rintro e w5 ⟨p5,c5,q5,d5,rfl,h5,h5',lL⟩
  skip
  refine gJ lL ?_;intro tw _ Ek;have l5:(halves (X.natAbs/Y.natAbs)).length<=(halves X.natAbs).length:=div_len;have l5':(halves (X.natAbs%Y.natAbs)).length<=(halves X.natAbs).length:=mod_len;refine VO.call aa aa (fk Tryz.func200) (λzX zY Em=>(tx _ _ (X.natAbs/Y.natAbs) zX (Rd.own (Bm.kp h5 zY)) ae).mono ?_);rintro e w6 ⟨p6,c6,xs6,rfl,h6,hx6,hl6,CR⟩
  skip
  refine gJ CR ?_;intro En _ bb6;refine VO.cI aa aa (fk uh) (λHe JM Bn=>kJ (!(s1 == s2)) _ _ xs6 He (Rd.own (OwnU.lG h6 JM)) hl6 ae) (λHe JM Bn w7 s7 p7 n7 c7 h7 Lz JN _ bb7=>wV aa ?_);refine fI ?_;refine VO.call aa aa (fk Tryz.func200) (λwa8 ka8 ba8=>(tx _ _ (X.natAbs%Y.natAbs) wa8 (Rd.own (Bm.kp h5' (zY.aG ((aK.of CR).aG (JM.aG ((aK.of Lz).aG ka8)))))) ae).mono ?_);rintro e w8 ⟨p8,c8,xs8,rfl,h8,hx8,hl8,hb8⟩
  skip
  refine gJ hb8 ?_;intro LK _ bb8;refine VO.cI aa aa (fk uh) (λwa9 ka9 ba9=>kJ s1 _ _ xs8 wa9 (Rd.own (OwnU.lG h8 ka9)) hl8 ae) (λwa9 ka9 ba9 w9 s9 p9 n9 c9 h9 hb9 Ol _ bb9=>wV aa ?_);refine fI ?_;have z7:Sz (if (!(s1 == s2))=true then-((ar xs6:Nat):Int) else ar xs6) xs6.length:=LJ hl6 hx6;have z9:Sz (if s1=true then-((ar xs8:Nat):Int) else ar xs8) xs8.length:=LJ hl8 hx8;have lx6:xs6.length<=268435457:=by have:=h6.1;simp at this;omega
  have lx8:xs8.length<=268435457:=by have:=h8.1;simp at this;omega
  rw[hx6] at h7 z7;rw[hx8] at h9 z9;have law:=@rY X Y X.natAbs Y.natAbs;by_cases yW:X.natAbs%Y.natAbs=0
  ·have s0:(if s1=true then-((X.natAbs%Y.natAbs:Nat):Int) else ((X.natAbs%Y.natAbs:Nat):Int))=0:=by rw[yW];cases s1 <;> rfl
   rw[s0] at h9 z9;refine VO.cB aa aa (fk ku) (λxT zZ JO=>dH _ 0 _ xT ((h9.lG zZ).in z9) ae) (λxT zZ JO w10 Bo kY _ Qm=>wV aa ?_)
   (repeat (first|refine wN ?_|refine wP aa ?_|refine CQ aa ?_|refine wO aa aa ?_))
   refine VS.GJ (pX _ _) (lO _ _) 5 aa ?_
   (repeat' (first|refine VA.go aa ?_|refine VA.fin aa ?_|refine VA.eZ _ aa aa ?_|refine VA.cons aa ?_ ?_|exact VA.nil aa))
   all_goals
    refine fI ?_;refine xC ?_;intro wz kz bz;obtain⟨g1,g2⟩:=law e1 e2 hY0 (.inl ⟨.inr yW,aa,aa⟩);refine⟨.inr ⟨hY,_,_,aa,aJ.cast ((h7.lG (LK.aG (Ol.aG (kY.aG kz)))).mono Bn.size) g1.symm,aJ.cast ((h9.lG (kY.aG kz)).mono ba9.size) ?_⟩,bz⟩;rw[g2,yW];cases s2 <;> rfl
  ·have sy:=LI (s:=s2) hY0;rw[<-e2] at sy;have sr:=LI (s:=s1) yW;rcases hs12:(s1,s2) with ⟨_|_,_|_⟩ <;> cases hs12
   ·replace sr:(if false=true then-((X.natAbs%Y.natAbs:Nat):Int) else ((X.natAbs%Y.natAbs:Nat):Int)).sign=1:=sr;replace sy:Y.sign=1:=sy;refine VO.call aa aa (fk ku) (λxT zZ JO=>(dH _ _ _ xT ((h9.lG zZ).in z9) ae).mono ?_);rintro e w10 ⟨rfl,Bo⟩;rw[sr];refine gJ Bo ?_;intro kY _ Qm;refine VO.call aa aa (fk ku) (λwu Aa Hf=>(dH _ _ _ wu ((h9.lG (kY.aG Aa)).in z9) ae).mono ?_);rintro e w11 ⟨rfl,Eo⟩;rw[sr];refine gJ Eo ?_;intro pZ _ Qn;refine VO.call aa aa (fk ku) (λuR Bp Hg=>(dH _ Y k uR ((h2.lG (nH.aG (sO.aG (tw.aG (En.aG (JN.aG (LK.aG (Ol.aG (kY.aG (pZ.aG Bp)))))))))).to qy) ae).mono ?_);rintro e w12 ⟨rfl,Bq⟩;rw[sy];refine⟨_,aa,Bq,λtz _ Qo=>wV aa ?_⟩
    (repeat (first|refine wN ?_|refine wP aa ?_|refine CQ aa ?_|refine wO aa aa ?_))
    refine VS.GJ (pX _ _) (lO _ _) 5 aa ?_
    (repeat' (first|refine VA.go aa ?_|refine VA.fin aa ?_|refine VA.eZ _ aa aa ?_|refine VA.cons aa ?_ ?_|exact VA.nil aa))
    all_goals
     refine fI ?_;refine xC ?_;intro wz kz bz;obtain⟨g1,g2⟩:=law e1 e2 hY0 (.inl ⟨.inl aa,aa,aa⟩);exact⟨.inr ⟨hY,_,_,aa,aJ.cast ((h7.lG (LK.aG (Ol.aG (kY.aG (pZ.aG (tz.aG kz)))))).mono Bn.size) g1.symm,aJ.cast ((h9.lG (kY.aG (pZ.aG (tz.aG kz)))).mono ba9.size) g2.symm⟩,bz⟩
   ·replace sr:(if false=true then-((X.natAbs%Y.natAbs:Nat):Int) else ((X.natAbs%Y.natAbs:Nat):Int)).sign=1:=sr;replace sy:Y.sign= -1:=sy;refine VO.call aa aa (fk ku) (λxT zZ JO=>(dH _ _ _ xT ((h9.lG zZ).in z9) ae).mono ?_);rintro e w10 ⟨rfl,Bo⟩;rw[sr];refine gJ Bo ?_;intro kY _ Qm;refine VO.call aa aa (fk ku) (λwu Aa Hf=>(dH _ _ _ wu ((h9.lG (kY.aG Aa)).in z9) ae).mono ?_);rintro e w11 ⟨rfl,Eo⟩;rw[sr];refine gJ Eo ?_;intro pZ _ Qn;refine VO.call aa aa (fk ku) (λuR Bp Hg=>(dH _ Y k uR ((h2.lG (nH.aG (sO.aG (tw.aG (En.aG (JN.aG (LK.aG (Ol.aG (kY.aG (pZ.aG Bp)))))))))).to qy) ae).mono ?_);rintro e w12 ⟨rfl,Bq⟩;rw[sy];refine gJ Bq ?_;intro tz _ Qo;refine VO.cI aa aa (fk yN) (λHh Qp Nk=>rZ 1 Hh ae ae) (λHh Qp Nk iA s13 p13 n13 c13 h13 hb13 Hi _ bb13=>wV aa ?_);refine fI ?_;refine VO.cI aa aa (fk Tryz.func261) (λAb Ac Ep=>GY _ _ _ 1 _ 1 Ab (((h7.lG (LK.aG (Ol.aG (kY.aG (pZ.aG (tz.aG (Hi.aG Ac))))))).in z7)) ((h13.lG Ac).in (Sz.small cW)) ae ae) (λAb Ac Ep w14 s14 p14 n14 c14 h14 JP Er _ Qq=>wV aa ?_);refine fI ?_;refine VO.cI aa aa (fk Tryz.func140) (λoX Ad Et=>zS _ _ _ Y _ k oX ((h9.lG (kY.aG (pZ.aG (tz.aG (Hi.aG (Er.aG Ad)))))).in z9) ((h2.lG (nH.aG (sO.aG (tw.aG (En.aG (JN.aG (LK.aG (Ol.aG (kY.aG (pZ.aG (tz.aG (Hi.aG (Er.aG Ad))))))))))))).to qy) ae ae) (λoX Ad Et LL s15 p15 n15 c15 h15 hb15 kb15 _ bb15=>wV aa ?_)
    (repeat (first|refine wN ?_|refine wP aa ?_|refine CQ aa ?_|refine wO aa aa ?_))
    refine VS.GJ (pX _ _) (lO _ _) 5 aa ?_
    (repeat' (first|refine VA.go aa ?_|refine VA.fin aa ?_|refine VA.eZ _ aa aa ?_|refine VA.cons aa ?_ ?_|exact VA.nil aa))
    all_goals
     refine fI ?_;refine xC ?_;intro wz kz bz;have hlt:=eR X.natAbs (show 0<Y.natAbs by omega);obtain⟨g1,g2⟩:=law e1 e2 hY0 (.inr ⟨cf,yW,aa,aa⟩);refine⟨.inr ⟨hY,_,_,aa,aJ.cast ((h14.lG (kb15.aG kz)).mono Ep.size) ?_,aJ.cast ((h15.lG kz).mono Et.size) ?_⟩,bz⟩
     ·rw[g1];simp;omega
     ·rw[g2];simp at e1 e2 ⊢;omega
   ·replace sr:(if true=true then-((X.natAbs%Y.natAbs:Nat):Int) else ((X.natAbs%Y.natAbs:Nat):Int)).sign= -1:=sr;replace sy:Y.sign=1:=sy;refine VO.call aa aa (fk ku) (λxT zZ JO=>(dH _ _ _ xT ((h9.lG zZ).in z9) ae).mono ?_);rintro e w10 ⟨rfl,Bo⟩;rw[sr];refine gJ Bo ?_;intro kY _ Qm;refine VO.call aa aa (fk ku) (λwu Aa Hf=>(dH _ _ _ wu ((h9.lG (kY.aG Aa)).in z9) ae).mono ?_);rintro e w11 ⟨rfl,Eo⟩;rw[sr];refine gJ Eo ?_;intro pZ _ Qn;refine VO.call aa aa (fk ku) (λuR Bp Hg=>(dH _ Y k uR ((h2.lG (nH.aG (sO.aG (tw.aG (En.aG (JN.aG (LK.aG (Ol.aG (kY.aG (pZ.aG Bp)))))))))).to qy) ae).mono ?_);rintro e w12 ⟨rfl,Bq⟩;rw[sy];refine gJ Bq ?_;intro tz _ Qo;refine VO.cI aa aa (fk yN) (λHh Qp Nk=>rZ 1 Hh ae ae) (λHh Qp Nk iA s13 p13 n13 c13 h13 hb13 Hi _ bb13=>wV aa ?_);refine fI ?_;refine VO.cI aa aa (fk Tryz.func261) (λAb Ac Ep=>GY _ _ _ 1 _ 1 Ab (((h7.lG (LK.aG (Ol.aG (kY.aG (pZ.aG (tz.aG (Hi.aG Ac))))))).in z7)) ((h13.lG Ac).in (Sz.small cW)) ae ae) (λAb Ac Ep w14 s14 p14 n14 c14 h14 JP Er _ Qq=>wV aa ?_);refine fI ?_;refine VO.cI aa aa (fk Tryz.func140) (λoX Ad Et=>zS _ _ _ Y _ k oX ((h9.lG (kY.aG (pZ.aG (tz.aG (Hi.aG (Er.aG Ad)))))).in z9) ((h2.lG (nH.aG (sO.aG (tw.aG (En.aG (JN.aG (LK.aG (Ol.aG (kY.aG (pZ.aG (tz.aG (Hi.aG (Er.aG Ad))))))))))))).to qy) ae ae) (λoX Ad Et LL s15 p15 n15 c15 h15 hb15 kb15 _ bb15=>wV aa ?_)
    (repeat (first|refine wN ?_|refine wP aa ?_|refine CQ aa ?_|refine wO aa aa ?_))
    refine VS.GJ (pX _ _) (lO _ _) 5 aa ?_
    (repeat' (first|refine VA.go aa ?_|refine VA.fin aa ?_|refine VA.eZ _ aa aa ?_|refine VA.cons aa ?_ ?_|exact VA.nil aa))
    all_goals
     refine fI ?_;refine xC ?_;intro wz kz bz;have hlt:=eR X.natAbs (show 0<Y.natAbs by omega);obtain⟨g1,g2⟩:=law e1 e2 hY0 (.inr ⟨cf,yW,aa,aa⟩);refine⟨.inr ⟨hY,_,_,aa,aJ.cast ((h14.lG (kb15.aG kz)).mono Ep.size) ?_,aJ.cast ((h15.lG kz).mono Et.size) ?_⟩,bz⟩
     ·rw[g1];simp;omega
     ·rw[g2];simp at e1 e2 ⊢;omega
   ·replace sr:(if true=true then-((X.natAbs%Y.natAbs:Nat):Int) else ((X.natAbs%Y.natAbs:Nat):Int)).sign= -1:=sr;replace sy:Y.sign= -1:=sy;refine VO.call aa aa (fk ku) (λxT zZ JO=>(dH _ _ _ xT ((h9.lG zZ).in z9) ae).mono ?_);rintro e w10 ⟨rfl,Bo⟩;rw[sr];refine gJ Bo ?_;intro kY _ Qm;refine VO.call aa aa (fk ku) (λwu Aa Hf=>(dH _ _ _ wu ((h9.lG (kY.aG Aa)).in z9) ae).mono ?_);rintro e w11 ⟨rfl,Eo⟩;rw[sr];refine gJ Eo ?_;intro pZ _ Qn;refine VO.call aa aa (fk ku) (λuR Bp Hg=>(dH _ Y k uR ((h2.lG (nH.aG (sO.aG (tw.aG (En.aG (JN.aG (LK.aG (Ol.aG (kY.aG (pZ.aG Bp)))))))))).to qy) ae).mono ?_);rintro e w12 ⟨rfl,Bq⟩;rw[sy];refine⟨_,aa,Bq,λtz _ Qo=>wV aa ?_⟩
    (repeat (first|refine wN ?_|refine wP aa ?_|refine CQ aa ?_|refine wO aa aa ?_))
    refine VS.GJ (pX _ _) (lO _ _) 5 aa ?_
    (repeat' (first|refine VA.go aa ?_|refine VA.fin aa ?_|refine VA.eZ _ aa aa ?_|refine VA.cons aa ?_ ?_|exact VA.nil aa))
    all_goals
     refine fI ?_;refine xC ?_;intro wz kz bz;obtain⟨g1,g2⟩:=law e1 e2 hY0 (.inl ⟨.inl aa,aa,aa⟩);exact⟨.inr ⟨hY,_,_,aa,aJ.cast ((h7.lG (LK.aG (Ol.aG (kY.aG (pZ.aG (tz.aG kz)))))).mono Bn.size) g1.symm,aJ.cast ((h9.lG (kY.aG (pZ.aG (tz.aG kz)))).mono ba9.size) g2.symm⟩,bz⟩
set_option maxRecDepth 4000
theorem gcd_len {b N:Nat} (hb:b≠0) (ha:(halves a).length<=N) (hbl:(halves b).length<=N):(halves (a%b)).length<=N:=aV (dX ae (Nat.le_of_lt (eR a (Nat.pos_of_ne_zero hb)))) hbl
theorem AZ (h:P:=by (repeat first|exact aj|refine⟨dh.lit rfl,?_⟩|refine⟨dh.vals _,?_⟩)):P:=h
theorem Hj (v u:Value) (X Y:Int) (j k:Nat) (w:World) (hv:cY w v X j) (hu:cY w u Y k) (hj:j<=268435456) (hk:k<=268435456):
  Calls Tryz.prog 193 #[v,u] w λe w'=>∃ r,e=.returned r/\aJ w' w.heap.size r (Int.gcd X Y:Int)/\ax w w':=by
 obtain⟨s,p,n,c,rfl⟩:=hv.form;obtain⟨t,q,m,d,rfl⟩:=hu.form;have vu:=hv.len;have qy:=hu.len;have l1:=nL X.natAbs;have l2:=nL Y.natAbs;refine ai (C:=Lv Tryz.prog w _) (args:=[_,_]) Tryz.func193 aa Tryz.ntmps193 (cG aa) ?_;refine fI ?_;refine VO.call aa aa (fk ug) (λcV eG db=>(nG _ X j cV (hv.lG eG)).mono ?_);rintro e w1 ⟨r1,rfl,h1,bF⟩;obtain⟨s1,p1,n1,c1,rfl⟩:=h1.jv;refine gJ bF ?_;intro fM _ bb1;refine VO.call aa aa (fk Tryz.func202) (λiG iK jm=>(nM _ n1 X.natAbs iG (h1.row.lG iK) (by rw[h1.n];omega)).mono ?_);rintro e w3 ⟨p3,c3,rfl,h3,ee⟩
 skip
 refine gJ ee ?_;intro nH _ bb3;refine VO.call aa aa (fk ug) (λeD gO fG=>(nG _ Y k eD (hu.lG (fM.aG (nH.aG gO)))).mono ?_);rintro e w2 ⟨r2,rfl,h2,cJ⟩;obtain⟨s2,p2,n2,c2,rfl⟩:=h2.jv;refine gJ cJ ?_;intro jH _ bb2;refine VO.call aa aa (fk Tryz.func202) (λmB pE pG=>(nM _ n2 Y.natAbs mB (h2.row.lG pE) (by rw[h2.n];omega)).mono ?_);rintro e w4 ⟨p4,c4,rfl,h4,jJ⟩
 skip
 refine gJ jJ ?_;intro sO _ Ej
 refine VS.loop (J:=λms L M w'=>∃ (a b:Nat) (px:Option Addr) (cx:Nat) (py:Option Addr) (cy:Nat),ms=b/\Nat.gcd a b=Int.gcd X Y/\L=[(4,.box 4 0),(5,.val (.slice px (halves a).length cx)),(6,.val (.slice py (halves b).length cy))]/\M=[(4,(36,([.bool false,.slice none 0 0]:List Value).map .val))]/\
  (halves a).length<=536870912/\(halves b).length<=536870912/\w'.ownsRow w.heap.size 3 1 (.slice px (halves a).length cx) (halves a).length (ints .i64 (halves a))/\w'.ownsRow w.heap.size 3 1 (.slice py (halves b).length cy) (halves b).length (ints .i64 (halves b))) Y.natAbs
  ⟨_,_,?_,?_,?_,?_,⟨X.natAbs,Y.natAbs,p3,c3,p4,c4,rfl,rfl,rfl,rfl,ae,ae,Bm.kp (Own.mono h3 jm.size) (jH.aG sO),Own.mono h4 pG.size⟩⟩ ?_
 ·exact lD
 ·exact lD
 ·rfl
 ·exact AZ
 rintro ms L M w' ⟨a,b,px,cx,py,cy,hms,hg,rfl,rfl,la,lb,oa,ob⟩;refine fI ?_;by_cases rS:b=0
 ·subst rS;have hl0:(halves 0).length=0:=by rw[nE];rfl
  refine VS.bC aa (aR (by rw[hl0];omega)) ?_;refine fI ?_;refine VO.call aa aa (fk Tryz.func200) (λzX zY Em=>(tx _ _ a zX (Rd.own (Bm.kp oa zY)) ae).mono ?_);rintro e w6 ⟨p6,c6,xs6,rfl,h6,hx6,hl6,CR⟩
  skip
  refine gJ CR ?_;intro En _ bb6;refine VO.cI aa aa (fk uh) (λHe JM Bn=>kJ false _ _ xs6 He (Rd.own (OwnU.lG h6 JM)) hl6 ae) (λHe JM Bn w7 s7 p7 n7 c7 h7 Lz JN _ bb7=>wV aa ?_);refine fI ?_;refine xC ?_;intro wz kz bz;refine⟨_,aa,aJ.cast ((h7.lG kz).mono Bn.size) ?_,bz⟩;rw[hx6,<-hg,Nat.gcd_zero_right];rfl
 ·have hlp:0<(halves b).length:=qq ae rS;refine VS.bB aa (aU ae) ?_;refine fI ?_;refine VO.call aa aa (fk Tryz.func260) (λmP oV og=>(zW _ _ _ _ a b mP (Rd.own (Bm.kp oa oV)) (Rd.own (Bm.kp ob oV)) ae ae ae).mono ?_);rintro e w5 ⟨p5,c5,q5,d5,rfl,h5,h5',lL⟩
  skip
  refine gJ lL ?_;intro tw _ Ek;refine VS.back (a%b) (by rw[hms];exact eR _ ae) ⟨_,_,?_,?_,?_,?_,⟨b,a%b,py,cy,q5,d5,aa,by rw[<-hg,Nat.gcd_comm a b,Nat.gcd_comm b (a%b)];exact (Nat.gcd_rec b a).symm,aa,aa,lb,gcd_len rS la lb,Bm.kp ob tw,Own.mono h5' og.size⟩⟩
  ·exact lD
  ·exact lD
  ·rfl
  ·exact AZ
end
end Go.Proofs.YtlifeokjcgngjaaGreat
