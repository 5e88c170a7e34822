/-yV of the proof,laid behind one another. -/
import Derived.Test.YtlifeokjcgngjaaGreatKChartTotals2
import Derived.Deep.RegionHeld3
import Derived.Deep.RegionLaw
import Derived.Deep.DeepCutAuto
import Derived.BigRegion
set_option linter.all false
set_option maxHeartbeats 64000000
namespace Go.Proofs.YtlifeokjcgngjaaGreat
section
open Go.RowKit
theorem bld_of {P:Program} {t:TypeId} {zero:Value} {places:Array (Nat×Nat)} {fs:Array Field} (hz:∀ w,(zeroValue t).run P w=.ok zero w) (hu:P.underlying t=some (.struct fs))
  (hp:∀ w,(fs.mapM (λf=>do pure (f.offset,<-sizeOf f.type)):Sem (Array (Nat×Nat))).run P w=.ok places w) (ps:Array (Nat×Value)) (w:World) (cs:Array Value)
  (h:Instr.fill (places[·]?) zero.cells ps.toList=some cs):(Instr.build t ps).run P w=.ok (.agg cs) w:=by
 unfold Instr.build
 simp only[Sem.run_bind,hz,Result.andThen_ok,run_underlying hu,hp]
 rw[h]
 rfl
theorem fld_agg {P:Program} {t:TypeId} {k:Nat} {fs:Array Field} {f:Field} (o n:Nat) (hu:P.underlying t=some (.struct fs)) (hf:fs[k]? =some f) (ho:f.offset=o) (hb:∀ w,(isAgg f.type).run P w=.ok true w) (hs:∀ w,(sizeOf f.type).run P w=.ok n w)
  {cs:Array Value} {w:World} {v:Value} (h:some (Value.agg (cs.extract o (o+n)))=some v):(Instr.field t (.agg cs) k).run P w=.ok v w:=by
 cases h
 subst ho
 unfold Instr.field
 simp[run_underlying hu,hf,asAgg,part,hb,hs]
theorem fld_one {P:Program} {t:TypeId} {k:Nat} {fs:Array Field} {f:Field} (o:Nat) (hu:P.underlying t=some (.struct fs)) (hf:fs[k]? =some f) (ho:f.offset=o) (hb:∀ w,(isAgg f.type).run P w=.ok false w)
  {cs:Array Value} {w:World} {v:Value} (h:cs[o]? =some v):(Instr.field t (.agg cs) k).run P w=.ok v w:=by
 subst ho
 unfold Instr.field
 simp[run_underlying hu,hf,asAgg,part,hb,h]
inductive JL (P:Program) (t:TypeId):Nat->List Field->List (Nat×Nat)->List Bool->Prop
 | nil {j:Nat}:JL P t j [] [] []
 | cons {j:Nat} {f:Field} {fs:List Field} {p:Nat×Nat} {ps:List (Nat×Nat)} {a:Bool} {gs:List Bool} (h1:∀ b o w,(Instr.fieldAt t (.pointer (some ⟨b,o,none⟩)) j).run P w=.ok (.pointer (some ⟨b,o+p.1,none⟩)) w) (h2:f.offset=p.1) (h3:∀ w,(isAgg f.type).run P w=.ok a w) (h4:a=true->∀ w,(sizeOf f.type).run P w=.ok p.2 w) (h:JL P t (j+1) fs ps gs):JL P t j (f::fs) (p::ps) (a::gs)
theorem JL.get {P:Program} {t:TypeId} {j:Nat} {fs:List Field} {ps:List (Nat×Nat)} {gs:List Bool} (h:JL P t j fs ps gs):∀ (k:Nat) (p:Nat×Nat),ps[k]? =some p->(∀ b o w,(Instr.fieldAt t (.pointer (some ⟨b,o,none⟩)) (j+k)).run P w=.ok (.pointer (some ⟨b,o+p.1,none⟩)) w)/\∃ f a,fs[k]? =some f/\gs[k]? =some a/\f.offset=p.1/\(∀ w,(isAgg f.type).run P w=.ok a w)/\(a=true->∀ w,(sizeOf f.type).run P w=.ok p.2 w):=by
 induction h with
 | nil=>intro k p e;simp at e
 | cons h1 h2 h3 h4 _ ih=>
   intro k p e
   cases k with
   | zero=>simp at e;cases e;exact⟨h1,_,_,rfl,rfl,h2,h3,h4⟩
   | succ k=>
     have:=ih k p (by simpa using e)
     rw[show ∀ j:Nat,j+1+k=j+(k+1) from λj=>by omega] at this
     simpa using this
@[reducible] def tF (z:Value) (b:Bool) (e:Option (TypeId×Nat)) (k:Option IntKind) (p:Bool):TI:={ size:=1,agg:=false,zero:=z,places:=#[],Jw:=#[],bool:=b,elem:=e,kind:=k,ptr:=p }
@[reducible] def tA (n:Nat) (z:Array Value) (p:Array (Nat×Nat)) (a:Array Bool):TI:={ size:=n,agg:=true,zero:=.agg z,places:=p,Jw:=a,bool:=false,elem:=none,kind:=none }
theorem okF {P:Program} {t:TypeId} {z:Value} {b:Bool} {e:Option (TypeId×Nat)} {k:Option IntKind} {p:Bool} {d:TypeDesc} (hu:P.underlying t=some d) (hb:b=true->P.underlying t=some .bool:=by intro h;cases h;try kernel_rfl) (hs:∀ c n,e=some (c,n)->P.underlying t=some (.slice c)/\∀ w,(sizeOf c).run P w=.ok n w:=by intro c n h;cases h;try (constructor;kernel_rfl;intro w;kernel_rfl)) (hi:∀ q,k=some q->P.underlying t=some (.int q):=by intro q h;cases h;try kernel_rfl) (hp:p=true->P.underlying t=some (.pointer (P.pointee t)):=by intro h;cases h;try kernel_rfl) (hst:ta z=true->P.underlying t=some .string:=by intro h;first|(cases h;done)|kernel_rfl)
  (hr:d.isRow=false:=by rfl) (h1:(P.info? t).map (·.size)=some 1:=by kernel_rfl) (h2:z.cells.size=1:=by rfl) (h3:(P.info? t).map (·.zero)=some (some z):=by kernel_rfl) (h4:(P.info? t).map (λq=>Nat.ble q.bytes (24*1))=some true:=by kernel_rfl) (h5:∀ w,(zeroValue t).run P w=.ok z w:=by intro w;kernel_rfl):TI.Ok P t (tF z b e k p) where
 row:=⟨_,hu,hr⟩
 isBool:=hb
 isSlice:=hs
 isInt:=hi
 Ht:=hp
 isStr:=hst
 zh:=h2
 CL:=h3
 bytes:=h4
 pos:=Nat.le_refl 1
 lone:=λ_=>rfl
 size:=h1
 zero:=h5
 LV:=λk p hp b o w=>by simp at hp
 fld:=λk p hp cs w v hv=>by simp at hp
 bld:=λh=>by cases h
theorem mJ {P:Program} {t:TypeId} {n:Nat} {z:Array Value} {p:Array (Nat×Nat)} {a:Array Bool} {fs:Array Field} (hu:P.underlying t=some (.struct fs)) (hf:JL P t 0 fs.toList p.toList a.toList:=by repeat first|exact .nil|refine .cons (λb o w=>by kernel_rfl) rfl (λw=>by kernel_rfl) (by intro h;cases h;try (intro w;kernel_rfl)) ?_)
  (h1:(P.info? t).map (·.size)=some n:=by kernel_rfl) (h2:z.size=n:=by rfl) (h3:(P.info? t).map (·.zero)=some (some (.agg z)):=by kernel_rfl) (h4:(P.info? t).map (λq=>Nat.ble q.bytes (24*n))=some true:=by kernel_rfl) (h5:∀ w,(zeroValue t).run P w=.ok (.agg z) w:=by intro w;kernel_rfl) (h6:0<n:=by exact cr rfl) (h7:∀ w,(fs.mapM (λf=>do pure (f.offset,<-sizeOf f.type)):Sem (Array (Nat×Nat))).run P w=.ok p w:=by intro w;kernel_rfl):TI.Ok P t (tA n z p a) where
 row:=⟨_,hu,rfl⟩
 isBool:=λh=>by cases h
 isSlice:=λe n h=>by cases h
 isInt:=λk h=>by cases h
 zh:=h2
 CL:=h3
 bytes:=h4
 pos:=h6
 lone:=λh=>by cases h
 size:=h1
 zero:=h5
 LV:=λk q hq b o w=>by
  have:=(hf.get k q (by simpa using hq)).1 b o w
  rwa [Nat.zero_add] at this
 fld:=λk q hq cs w v hv=>by
  obtain⟨_,f,x,e1,e2,e3,e4,e5⟩:=hf.get k q (by simpa using hq)
  rw[Array.getElem?_toList] at e1 e2
  rw[e2] at hv
  cases x
  ·exact fld_one q.1 hu e1 e3 e4 hv
  ·exact fld_agg q.1 q.2 hu e1 e3 e4 (e5 rfl) hv
 bld:=λ_=>bld_of h5 hu h7
theorem tb {P:Program} {t u:TypeId} {i x:TI} {r:Option TI} (hk:TI.Ok P u i) (hr:r=some x->TI.Ok P t x) (h:(bif Nat.beq t u then some i else r)=some x):TI.Ok P t x:=by
 cases hb:Nat.beq t u
 ·rw[hb] at h;exact hr h
 ·rw[hb] at h;cases h;rw[Nat.eq_of_beq_eq_true hb];exact hk
def ti0:TI:=tF (.int .i64 0) false none (some .i64) false
theorem ok0:TI.Ok Tryz.prog 2 ti0:=okF Tryz.underlying2
def ti1:TI:=tF (.int .i64 0) false none (some .i64) false
theorem ok1:TI.Ok Tryz.prog 3 ti1:=okF Tryz.underlying3
def ti2:TI:=tF (.bool false) true none none false
theorem ok2:TI.Ok Tryz.prog 4 ti2:=okF Tryz.underlying4
def ti3:TI:=tF (.int .u8 0) false none (some .u8) false
theorem ok3:TI.Ok Tryz.prog 5 ti3:=okF Tryz.underlying5
def ti4:TI:=tF (.string ⟨#[]⟩) false none none false
theorem ok4:TI.Ok Tryz.prog 9 ti4:=okF Tryz.underlying9
def ti5:TI:=tF (.int .u64 0) false none (some .u64) false
theorem ok5:TI.Ok Tryz.prog 12 ti5:=okF Tryz.underlying12
def ti6:TI:=tF (.slice none 0 0) false (some (127,8)) none false
theorem ok6:TI.Ok Tryz.prog 22 ti6:=okF Tryz.underlying22
def ti7:TI:=tF (.slice none 0 0) false (some (78,1)) none false
theorem ok7:TI.Ok Tryz.prog 23 ti7:=okF Tryz.underlying23
def ti8:TI:=tA 2 #[.bool false,.slice none 0 0] #[(0,1),(1,1)] #[false,false]
theorem ok8:TI.Ok Tryz.prog 25 ti8:=mJ Tryz.underlying25
def ti9:TI:=tA 4 #[.bool false,.slice none 0 0,.bool false,.slice none 0 0] #[(0,2),(2,2)] #[true,true]
theorem ok9:TI.Ok Tryz.prog 27 ti9:=mJ Tryz.underlying27
def ti10:TI:=tF (.slice none 0 0) false (some (64,6)) none false
theorem ok10:TI.Ok Tryz.prog 28 ti10:=okF Tryz.underlying28
def ti11:TI:=tF (.slice none 0 0) false (some (9,1)) none false
theorem ok11:TI.Ok Tryz.prog 29 ti11:=okF Tryz.underlying29
def ti12:TI:=tF (.slice none 0 0) false (some (99,6)) none false
theorem ok12:TI.Ok Tryz.prog 30 ti12:=okF Tryz.underlying30
def ti13:TI:=tA 25 #[.string ⟨#[]⟩,.string ⟨#[]⟩,.slice none 0 0,.bool false,.slice none 0 0,.bool false,.slice none 0 0,.bool false,.slice none 0 0,.bool false,.slice none 0 0,.int .i64 0,.int .i64 0,.bool false,.slice none 0 0,.bool false,.slice none 0 0,.bool false,.slice none 0 0,.bool false,.slice none 0 0,.int .i64 0,.slice none 0 0,.slice none 0 0,.slice none 0 0] #[(0,1),(1,1),(2,1),(3,4),(7,4),(11,1),(12,1),(13,4),(17,4),(21,1),(22,1),(23,1),(24,1)] #[false,false,false,true,true,false,false,true,true,false,false,false,false]
theorem ok13:TI.Ok Tryz.prog 32 ti13:=mJ Tryz.underlying32
def ti14:TI:=tF (.slice none 0 0) false (some (129,8)) none false
theorem ok14:TI.Ok Tryz.prog 35 ti14:=okF Tryz.underlying35
def ti15:TI:=tA 2 #[.bool false,.slice none 0 0] #[(0,1),(1,1)] #[false,false]
theorem ok15:TI.Ok Tryz.prog 36 ti15:=mJ Tryz.underlying36
def ti16:TI:=tA 4 #[.bool false,.slice none 0 0,.bool false,.slice none 0 0] #[(0,2),(2,2)] #[true,true]
theorem ok16:TI.Ok Tryz.prog 38 ti16:=mJ Tryz.underlying38
def ti17:TI:=tF (.slice none 0 0) false (some (67,6)) none false
theorem ok17:TI.Ok Tryz.prog 39 ti17:=okF Tryz.underlying39
def ti18:TI:=tF (.slice none 0 0) false (some (136,6)) none false
theorem ok18:TI.Ok Tryz.prog 40 ti18:=okF Tryz.underlying40
def ti19:TI:=tA 25 #[.string ⟨#[]⟩,.string ⟨#[]⟩,.slice none 0 0,.bool false,.slice none 0 0,.bool false,.slice none 0 0,.bool false,.slice none 0 0,.bool false,.slice none 0 0,.int .i64 0,.int .i64 0,.bool false,.slice none 0 0,.bool false,.slice none 0 0,.bool false,.slice none 0 0,.bool false,.slice none 0 0,.int .i64 0,.slice none 0 0,.slice none 0 0,.slice none 0 0] #[(0,1),(1,1),(2,1),(3,4),(7,4),(11,1),(12,1),(13,4),(17,4),(21,1),(22,1),(23,1),(24,1)] #[false,false,false,true,true,false,false,true,true,false,false,false,false]
theorem ok19:TI.Ok Tryz.prog 42 ti19:=mJ Tryz.underlying42
def ti20:TI:=tF (.slice none 0 0) false (some (147,1)) none false
theorem ok20:TI.Ok Tryz.prog 44 ti20:=okF Tryz.underlying44
def ti21:TI:=tA 1 #[.slice none 0 0] #[(0,1)] #[false]
theorem ok21:TI.Ok Tryz.prog 46 ti21:=mJ Tryz.underlying46
def ti22:TI:=tF (.int .i64 0) false none (some .i64) false
theorem ok22:TI.Ok Tryz.prog 47 ti22:=okF Tryz.underlying47
def ti23:TI:=tF (.slice none 0 0) false (some (105,1)) none false
theorem ok23:TI.Ok Tryz.prog 50 ti23:=okF Tryz.underlying50
def ti24:TI:=tA 1 #[.slice none 0 0] #[(0,1)] #[false]
theorem ok24:TI.Ok Tryz.prog 52 ti24:=mJ Tryz.underlying52
def ti25:TI:=tA 6 #[.string ⟨#[]⟩,.int .u8 0,.bool false,.slice none 0 0,.bool false,.slice none 0 0] #[(0,1),(1,1),(2,4)] #[false,false,true]
theorem ok25:TI.Ok Tryz.prog 64 ti25:=mJ Tryz.underlying64
def ti26:TI:=tA 6 #[.string ⟨#[]⟩,.int .u8 0,.bool false,.slice none 0 0,.bool false,.slice none 0 0] #[(0,1),(1,1),(2,4)] #[false,false,true]
theorem ok26:TI.Ok Tryz.prog 67 ti26:=mJ Tryz.underlying67
def ti27:TI:=tF (.slice none 0 0) false (some (76,9)) none false
theorem ok27:TI.Ok Tryz.prog 68 ti27:=okF Tryz.underlying68
def ti28:TI:=tF (.slice none 0 0) false (some (74,9)) none false
theorem ok28:TI.Ok Tryz.prog 71 ti28:=okF Tryz.underlying71
def ti29:TI:=tA 9 #[.int .u8 0,.bool false,.slice none 0 0,.bool false,.slice none 0 0,.bool false,.slice none 0 0,.bool false,.slice none 0 0] #[(0,1),(1,4),(5,4)] #[false,true,true]
theorem ok29:TI.Ok Tryz.prog 74 ti29:=mJ Tryz.underlying74
def ti30:TI:=tA 9 #[.int .u8 0,.bool false,.slice none 0 0,.bool false,.slice none 0 0,.bool false,.slice none 0 0,.bool false,.slice none 0 0] #[(0,1),(1,4),(5,4)] #[false,true,true]
theorem ok30:TI.Ok Tryz.prog 76 ti30:=mJ Tryz.underlying76
def ti31:TI:=tF (.int .u32 0) false none (some .u32) false
theorem ok31:TI.Ok Tryz.prog 78 ti31:=okF Tryz.underlying78
def ti32:TI:=tF (.slice none 0 0) false (some (52,1)) none false
theorem ok32:TI.Ok Tryz.prog 80 ti32:=okF Tryz.underlying80
def ti33:TI:=tF (.slice none 0 0) false (some (46,1)) none false
theorem ok33:TI.Ok Tryz.prog 81 ti33:=okF Tryz.underlying81
def ti34:TI:=tF (.slice none 0 0) false (some (218,6)) none false
theorem ok34:TI.Ok Tryz.prog 93 ti34:=okF Tryz.underlying93
def ti35:TI:=tF (.slice none 0 0) false (some (103,6)) none false
theorem ok35:TI.Ok Tryz.prog 94 ti35:=okF Tryz.underlying94
def ti36:TI:=tF (.slice none 0 0) false (some (222,10)) none false
theorem ok36:TI.Ok Tryz.prog 95 ti36:=okF Tryz.underlying95
def ti37:TI:=tF (.slice none 0 0) false (some (226,9)) none false
theorem ok37:TI.Ok Tryz.prog 96 ti37:=okF Tryz.underlying96
def ti38:TI:=tF (.slice none 0 0) false (some (230,5)) none false
theorem ok38:TI.Ok Tryz.prog 97 ti38:=okF Tryz.underlying97
def ti39:TI:=tA 6 #[.int .i64 0,.slice none 0 0,.slice none 0 0,.slice none 0 0,.slice none 0 0,.slice none 0 0] #[(0,1),(1,1),(2,1),(3,1),(4,1),(5,1)] #[false,false,false,false,false,false]
theorem ok39:TI.Ok Tryz.prog 99 ti39:=mJ Tryz.underlying99
def ti40:TI:=tA 6 #[.string ⟨#[]⟩,.string ⟨#[]⟩,.bool false,.slice none 0 0,.bool false,.slice none 0 0] #[(0,1),(1,1),(2,4)] #[false,false,true]
theorem ok40:TI.Ok Tryz.prog 103 ti40:=mJ Tryz.underlying103
def ti41:TI:=tF (.slice none 0 0) false (some (27,4)) none false
theorem ok41:TI.Ok Tryz.prog 105 ti41:=okF Tryz.underlying105
def ti42:TI:=tA 16 #[.bool false,.slice none 0 0,.bool false,.slice none 0 0,.bool false,.slice none 0 0,.bool false,.slice none 0 0,.bool false,.slice none 0 0,.bool false,.slice none 0 0,.bool false,.slice none 0 0,.bool false,.slice none 0 0] #[(0,4),(4,4),(8,4),(12,4)] #[true,true,true,true]
theorem ok42:TI.Ok Tryz.prog 121 ti42:=mJ Tryz.underlying121
def ti43:TI:=tA 28 #[.bool false,.slice none 0 0,.bool false,.slice none 0 0,.bool false,.slice none 0 0,.bool false,.slice none 0 0,.bool false,.slice none 0 0,.bool false,.slice none 0 0,.bool false,.slice none 0 0,.bool false,.slice none 0 0,.bool false,.slice none 0 0,.bool false,.slice none 0 0,.bool false,.slice none 0 0,.bool false,.slice none 0 0,.bool false,.slice none 0 0,.bool false,.slice none 0 0] #[(0,16),(16,4),(20,4),(24,4)] #[true,true,true,true]
theorem ok43:TI.Ok Tryz.prog 123 ti43:=mJ Tryz.underlying123
def ti44:TI:=tF (.slice none 0 0) false (some (123,28)) none false
theorem ok44:TI.Ok Tryz.prog 124 ti44:=okF Tryz.underlying124
def ti45:TI:=tA 8 #[.bool false,.slice none 0 0,.bool false,.slice none 0 0,.bool false,.slice none 0 0,.bool false,.slice none 0 0] #[(0,4),(4,4)] #[true,true]
theorem ok45:TI.Ok Tryz.prog 127 ti45:=mJ Tryz.underlying127
def ti46:TI:=tA 8 #[.bool false,.slice none 0 0,.bool false,.slice none 0 0,.bool false,.slice none 0 0,.bool false,.slice none 0 0] #[(0,4),(4,4)] #[true,true]
theorem ok46:TI.Ok Tryz.prog 129 ti46:=mJ Tryz.underlying129
def ti47:TI:=tF (.slice none 0 0) false (some (220,6)) none false
theorem ok47:TI.Ok Tryz.prog 130 ti47:=okF Tryz.underlying130
def ti48:TI:=tF (.slice none 0 0) false (some (141,6)) none false
theorem ok48:TI.Ok Tryz.prog 131 ti48:=okF Tryz.underlying131
def ti49:TI:=tF (.slice none 0 0) false (some (224,10)) none false
theorem ok49:TI.Ok Tryz.prog 132 ti49:=okF Tryz.underlying132
def ti50:TI:=tF (.slice none 0 0) false (some (228,9)) none false
theorem ok50:TI.Ok Tryz.prog 133 ti50:=okF Tryz.underlying133
def ti51:TI:=tF (.slice none 0 0) false (some (232,5)) none false
theorem ok51:TI.Ok Tryz.prog 134 ti51:=okF Tryz.underlying134
def ti52:TI:=tA 6 #[.int .i64 0,.slice none 0 0,.slice none 0 0,.slice none 0 0,.slice none 0 0,.slice none 0 0] #[(0,1),(1,1),(2,1),(3,1),(4,1),(5,1)] #[false,false,false,false,false,false]
theorem ok52:TI.Ok Tryz.prog 136 ti52:=mJ Tryz.underlying136
def ti53:TI:=tA 6 #[.string ⟨#[]⟩,.string ⟨#[]⟩,.bool false,.slice none 0 0,.bool false,.slice none 0 0] #[(0,1),(1,1),(2,4)] #[false,false,true]
theorem ok53:TI.Ok Tryz.prog 141 ti53:=mJ Tryz.underlying141
def ti54:TI:=tA 2 #[.int .i64 0,.int .i64 0] #[(0,1),(1,1)] #[false,false]
theorem ok54:TI.Ok Tryz.prog 144 ti54:=mJ Tryz.underlying144
def ti55:TI:=tF (.slice none 0 0) false (some (38,4)) none false
theorem ok55:TI.Ok Tryz.prog 147 ti55:=okF Tryz.underlying147
def ti56:TI:=tF (.pointer none) false none none true
theorem ok56:TI.Ok Tryz.prog 173 ti56:=okF Tryz.underlying173
def ti57:TI:=tF (.pointer none) false none none true
theorem ok57:TI.Ok Tryz.prog 176 ti57:=okF Tryz.underlying176
def ti58:TI:=tF (.pointer none) false none none true
theorem ok58:TI.Ok Tryz.prog 181 ti58:=okF Tryz.underlying181
def ti59:TI:=tF (.slice none 0 0) false (some (209,28)) none false
theorem ok59:TI.Ok Tryz.prog 192 ti59:=okF Tryz.underlying192
def ti60:TI:=tF (.slice none 0 0) false (some (124,1)) none false
theorem ok60:TI.Ok Tryz.prog 195 ti60:=okF Tryz.underlying195
def ti61:TI:=tF (.slice none 0 0) false (some (192,1)) none false
theorem ok61:TI.Ok Tryz.prog 198 ti61:=okF Tryz.underlying198
def ti62:TI:=tF (.slice none 0 0) false (some (203,9)) none false
theorem ok62:TI.Ok Tryz.prog 202 ti62:=okF Tryz.underlying202
def ti63:TI:=tA 9 #[.int .u8 0,.bool false,.slice none 0 0,.bool false,.slice none 0 0,.bool false,.slice none 0 0,.bool false,.slice none 0 0] #[(0,1),(1,4),(5,4)] #[false,true,true]
theorem ok63:TI.Ok Tryz.prog 203 ti63:=mJ Tryz.underlying203
def ti64:TI:=tA 16 #[.bool false,.slice none 0 0,.bool false,.slice none 0 0,.bool false,.slice none 0 0,.bool false,.slice none 0 0,.bool false,.slice none 0 0,.bool false,.slice none 0 0,.bool false,.slice none 0 0,.bool false,.slice none 0 0] #[(0,4),(4,4),(8,4),(12,4)] #[true,true,true,true]
theorem ok64:TI.Ok Tryz.prog 207 ti64:=mJ Tryz.underlying207
def ti65:TI:=tA 28 #[.bool false,.slice none 0 0,.bool false,.slice none 0 0,.bool false,.slice none 0 0,.bool false,.slice none 0 0,.bool false,.slice none 0 0,.bool false,.slice none 0 0,.bool false,.slice none 0 0,.bool false,.slice none 0 0,.bool false,.slice none 0 0,.bool false,.slice none 0 0,.bool false,.slice none 0 0,.bool false,.slice none 0 0,.bool false,.slice none 0 0,.bool false,.slice none 0 0] #[(0,16),(16,4),(20,4),(24,4)] #[true,true,true,true]
theorem ok65:TI.Ok Tryz.prog 209 ti65:=mJ Tryz.underlying209
def ti66:TI:=tF (.slice none 0 0) false (some (2,1)) none false
theorem ok66:TI.Ok Tryz.prog 213 ti66:=okF Tryz.underlying213
def ti67:TI:=tF (.slice none 0 0) false (some (213,1)) none false
theorem ok67:TI.Ok Tryz.prog 214 ti67:=okF Tryz.underlying214
def ti68:TI:=tA 6 #[.string ⟨#[]⟩,.string ⟨#[]⟩,.bool false,.slice none 0 0,.bool false,.slice none 0 0] #[(0,1),(1,1),(2,4)] #[false,false,true]
theorem ok68:TI.Ok Tryz.prog 218 ti68:=mJ Tryz.underlying218
def ti69:TI:=tA 6 #[.string ⟨#[]⟩,.string ⟨#[]⟩,.bool false,.slice none 0 0,.bool false,.slice none 0 0] #[(0,1),(1,1),(2,4)] #[false,false,true]
theorem ok69:TI.Ok Tryz.prog 220 ti69:=mJ Tryz.underlying220
def ti70:TI:=tA 10 #[.bool false,.string ⟨#[]⟩,.int .u8 0,.string ⟨#[]⟩,.string ⟨#[]⟩,.string ⟨#[]⟩,.bool false,.slice none 0 0,.bool false,.slice none 0 0] #[(0,1),(1,1),(2,1),(3,1),(4,1),(5,1),(6,4)] #[false,false,false,false,false,false,true]
theorem ok70:TI.Ok Tryz.prog 222 ti70:=mJ Tryz.underlying222
def ti71:TI:=tA 10 #[.bool false,.string ⟨#[]⟩,.int .u8 0,.string ⟨#[]⟩,.string ⟨#[]⟩,.string ⟨#[]⟩,.bool false,.slice none 0 0,.bool false,.slice none 0 0] #[(0,1),(1,1),(2,1),(3,1),(4,1),(5,1),(6,4)] #[false,false,false,false,false,false,true]
theorem ok71:TI.Ok Tryz.prog 224 ti71:=mJ Tryz.underlying224
def ti72:TI:=tA 9 #[.string ⟨#[]⟩,.bool false,.slice none 0 0,.bool false,.slice none 0 0,.bool false,.slice none 0 0,.bool false,.slice none 0 0] #[(0,1),(1,4),(5,4)] #[false,true,true]
theorem ok72:TI.Ok Tryz.prog 226 ti72:=mJ Tryz.underlying226
def ti73:TI:=tA 9 #[.string ⟨#[]⟩,.bool false,.slice none 0 0,.bool false,.slice none 0 0,.bool false,.slice none 0 0,.bool false,.slice none 0 0] #[(0,1),(1,4),(5,4)] #[false,true,true]
theorem ok73:TI.Ok Tryz.prog 228 ti73:=mJ Tryz.underlying228
def ti74:TI:=tA 5 #[.string ⟨#[]⟩,.bool false,.slice none 0 0,.bool false,.slice none 0 0] #[(0,1),(1,4)] #[false,true]
theorem ok74:TI.Ok Tryz.prog 230 ti74:=mJ Tryz.underlying230
def ti75:TI:=tA 5 #[.string ⟨#[]⟩,.bool false,.slice none 0 0,.bool false,.slice none 0 0] #[(0,1),(1,4)] #[false,true]
theorem ok75:TI.Ok Tryz.prog 232 ti75:=mJ Tryz.underlying232
def ti76:TI:=tA 2 #[.bool false,.slice none 0 0] #[(0,2)] #[true]
theorem ok76:TI.Ok Tryz.prog 246 ti76:=mJ Tryz.underlying246
def ti77:TI:=tF (.int .u64 0) false none (some .u64) false
theorem ok77:TI.Ok Tryz.prog 250 ti77:=okF Tryz.underlying250
def ti78:TI:=tF (.int .u64 0) false none (some .u64) false
theorem ok78:TI.Ok Tryz.prog 251 ti78:=okF Tryz.underlying251
def ti79:TI:=tF (.pointer none) false none none true
theorem ok79:TI.Ok Tryz.prog 257 ti79:=okF Tryz.underlying257
def ti80:TI:=tF (.pointer none) false none none true
theorem ok80:TI.Ok Tryz.prog 260 ti80:=okF Tryz.underlying260
def ti81:TI:=tF (.pointer none) false none none true
theorem ok81:TI.Ok Tryz.prog 263 ti81:=okF Tryz.underlying263
def ti82:TI:=tF (.pointer none) false none none true
theorem ok82:TI.Ok Tryz.prog 266 ti82:=okF Tryz.underlying266
def ti83:TI:=tF (.pointer none) false none none true
theorem ok83:TI.Ok Tryz.prog 269 ti83:=okF Tryz.underlying269
def ti84:TI:=tF (.pointer none) false none none true
theorem ok84:TI.Ok Tryz.prog 276 ti84:=okF Tryz.underlying276
def ti85:TI:=tF (.slice none 0 0) false (some (284,6)) none false
theorem ok85:TI.Ok Tryz.prog 282 ti85:=okF Tryz.underlying282
def ti86:TI:=tA 6 #[.int .i64 0,.int .i64 0,.bool false,.slice none 0 0,.bool false,.slice none 0 0] #[(0,1),(1,1),(2,4)] #[false,false,true]
theorem ok86:TI.Ok Tryz.prog 284 ti86:=mJ Tryz.underlying284
def ti87:TI:=tF (.slice none 0 0) false (some (286,9)) none false
theorem ok87:TI.Ok Tryz.prog 285 ti87:=okF Tryz.underlying285
def ti88:TI:=tA 9 #[.int .u8 0,.bool false,.slice none 0 0,.bool false,.slice none 0 0,.bool false,.slice none 0 0,.bool false,.slice none 0 0] #[(0,1),(1,4),(5,4)] #[false,true,true]
theorem ok88:TI.Ok Tryz.prog 286 ti88:=mJ Tryz.underlying286
def ti89:TI:=tF (.pointer none) false none none true
theorem ok89:TI.Ok Tryz.prog 289 ti89:=okF Tryz.underlying289
def ti90:TI:=tA 16 #[.bool false,.slice none 0 0,.bool false,.slice none 0 0,.bool false,.slice none 0 0,.bool false,.slice none 0 0,.bool false,.slice none 0 0,.bool false,.slice none 0 0,.bool false,.slice none 0 0,.bool false,.slice none 0 0] #[(0,16)] #[true]
theorem ok90:TI.Ok Tryz.prog 292 ti90:=mJ Tryz.underlying292
def ti91:TI:=tF (.map none) false none none false
theorem ok91:TI.Ok Tryz.prog 293 ti91:=okF Tryz.underlying293
def ti92:TI:=tF (.slice none 0 0) false (some (207,16)) none false
theorem ok92:TI.Ok Tryz.prog 301 ti92:=okF Tryz.underlying301
def ti93:TI:=tF (.slice none 0 0) false (some (3,1)) none false
theorem ok93:TI.Ok Tryz.prog 315 ti93:=okF Tryz.underlying315
def ti94:TI:=tF (.slice none 0 0) false (some (23,1)) none false
theorem ok94:TI.Ok Tryz.prog 321 ti94:=okF Tryz.underlying321
def ti95:TI:=tF (.slice none 0 0) false (some (338,6)) none false
theorem ok95:TI.Ok Tryz.prog 332 ti95:=okF Tryz.underlying332
def ti96:TI:=tA 1 #[.slice none 0 0] #[(0,1)] #[false]
theorem ok96:TI.Ok Tryz.prog 334 ti96:=mJ Tryz.underlying334
def ti97:TI:=tA 1 #[.slice none 0 0] #[(0,1)] #[true]
theorem ok97:TI.Ok Tryz.prog 336 ti97:=mJ Tryz.underlying336
def ti98:TI:=tA 6 #[.int .i64 0,.int .i64 0,.bool false,.slice none 0 0,.bool false,.slice none 0 0] #[(0,1),(1,1),(2,4)] #[false,false,true]
theorem ok98:TI.Ok Tryz.prog 338 ti98:=mJ Tryz.underlying338
def ti99:TI:=tF (.slice none 0 0) false (some (121,16)) none false
theorem ok99:TI.Ok Tryz.prog 353 ti99:=okF Tryz.underlying353
def ti100:TI:=tF (.pointer none) false none none true
theorem ok100:TI.Ok Tryz.prog 379 ti100:=okF Tryz.underlying379
def ti101:TI:=tF (.slice none 0 0) false (some (5,1)) none false
theorem ok101:TI.Ok Tryz.prog 383 ti101:=okF Tryz.underlying383
def ti102:TI:=tA 4 #[.bool false,.slice none 0 0,.bool false,.slice none 0 0] #[(0,4)] #[true]
theorem ok102:TI.Ok Tryz.prog 388 ti102:=mJ Tryz.underlying388
def ti103:TI:=tF (.pointer none) false none none true
theorem ok103:TI.Ok Tryz.prog 394 ti103:=okF Tryz.underlying394
def ti104:TI:=tF (.pointer none) false none none true
theorem ok104:TI.Ok Tryz.prog 409 ti104:=okF Tryz.underlying409
def ti105:TI:=tF (.pointer none) false none none true
theorem ok105:TI.Ok Tryz.prog 430 ti105:=okF Tryz.underlying430
def ti106:TI:=tF (.slice none 0 0) false (some (4,1)) none false
theorem ok106:TI.Ok Tryz.prog 440 ti106:=okF Tryz.underlying440
def table (t:TypeId):Option TI:=
 bif Nat.beq t 2 then some ti0 else
 bif Nat.beq t 3 then some ti1 else
 bif Nat.beq t 4 then some ti2 else
 bif Nat.beq t 5 then some ti3 else
 bif Nat.beq t 9 then some ti4 else
 bif Nat.beq t 12 then some ti5 else
 bif Nat.beq t 22 then some ti6 else
 bif Nat.beq t 23 then some ti7 else
 bif Nat.beq t 25 then some ti8 else
 bif Nat.beq t 27 then some ti9 else
 bif Nat.beq t 28 then some ti10 else
 bif Nat.beq t 29 then some ti11 else
 bif Nat.beq t 30 then some ti12 else
 bif Nat.beq t 32 then some ti13 else
 bif Nat.beq t 35 then some ti14 else
 bif Nat.beq t 36 then some ti15 else
 bif Nat.beq t 38 then some ti16 else
 bif Nat.beq t 39 then some ti17 else
 bif Nat.beq t 40 then some ti18 else
 bif Nat.beq t 42 then some ti19 else
 bif Nat.beq t 44 then some ti20 else
 bif Nat.beq t 46 then some ti21 else
 bif Nat.beq t 47 then some ti22 else
 bif Nat.beq t 50 then some ti23 else
 bif Nat.beq t 52 then some ti24 else
 bif Nat.beq t 64 then some ti25 else
 bif Nat.beq t 67 then some ti26 else
 bif Nat.beq t 68 then some ti27 else
 bif Nat.beq t 71 then some ti28 else
 bif Nat.beq t 74 then some ti29 else
 bif Nat.beq t 76 then some ti30 else
 bif Nat.beq t 78 then some ti31 else
 bif Nat.beq t 80 then some ti32 else
 bif Nat.beq t 81 then some ti33 else
 bif Nat.beq t 93 then some ti34 else
 bif Nat.beq t 94 then some ti35 else
 bif Nat.beq t 95 then some ti36 else
 bif Nat.beq t 96 then some ti37 else
 bif Nat.beq t 97 then some ti38 else
 bif Nat.beq t 99 then some ti39 else
 bif Nat.beq t 103 then some ti40 else
 bif Nat.beq t 105 then some ti41 else
 bif Nat.beq t 121 then some ti42 else
 bif Nat.beq t 123 then some ti43 else
 bif Nat.beq t 124 then some ti44 else
 bif Nat.beq t 127 then some ti45 else
 bif Nat.beq t 129 then some ti46 else
 bif Nat.beq t 130 then some ti47 else
 bif Nat.beq t 131 then some ti48 else
 bif Nat.beq t 132 then some ti49 else
 bif Nat.beq t 133 then some ti50 else
 bif Nat.beq t 134 then some ti51 else
 bif Nat.beq t 136 then some ti52 else
 bif Nat.beq t 141 then some ti53 else
 bif Nat.beq t 144 then some ti54 else
 bif Nat.beq t 147 then some ti55 else
 bif Nat.beq t 173 then some ti56 else
 bif Nat.beq t 176 then some ti57 else
 bif Nat.beq t 181 then some ti58 else
 bif Nat.beq t 192 then some ti59 else
 bif Nat.beq t 195 then some ti60 else
 bif Nat.beq t 198 then some ti61 else
 bif Nat.beq t 202 then some ti62 else
 bif Nat.beq t 203 then some ti63 else
 bif Nat.beq t 207 then some ti64 else
 bif Nat.beq t 209 then some ti65 else
 bif Nat.beq t 213 then some ti66 else
 bif Nat.beq t 214 then some ti67 else
 bif Nat.beq t 218 then some ti68 else
 bif Nat.beq t 220 then some ti69 else
 bif Nat.beq t 222 then some ti70 else
 bif Nat.beq t 224 then some ti71 else
 bif Nat.beq t 226 then some ti72 else
 bif Nat.beq t 228 then some ti73 else
 bif Nat.beq t 230 then some ti74 else
 bif Nat.beq t 232 then some ti75 else
 bif Nat.beq t 246 then some ti76 else
 bif Nat.beq t 250 then some ti77 else
 bif Nat.beq t 251 then some ti78 else
 bif Nat.beq t 257 then some ti79 else
 bif Nat.beq t 260 then some ti80 else
 bif Nat.beq t 263 then some ti81 else
 bif Nat.beq t 266 then some ti82 else
 bif Nat.beq t 269 then some ti83 else
 bif Nat.beq t 276 then some ti84 else
 bif Nat.beq t 282 then some ti85 else
 bif Nat.beq t 284 then some ti86 else
 bif Nat.beq t 285 then some ti87 else
 bif Nat.beq t 286 then some ti88 else
 bif Nat.beq t 289 then some ti89 else
 bif Nat.beq t 292 then some ti90 else
 bif Nat.beq t 293 then some ti91 else
 bif Nat.beq t 301 then some ti92 else
 bif Nat.beq t 315 then some ti93 else
 bif Nat.beq t 321 then some ti94 else
 bif Nat.beq t 332 then some ti95 else
 bif Nat.beq t 334 then some ti96 else
 bif Nat.beq t 336 then some ti97 else
 bif Nat.beq t 338 then some ti98 else
 bif Nat.beq t 353 then some ti99 else
 bif Nat.beq t 379 then some ti100 else
 bif Nat.beq t 383 then some ti101 else
 bif Nat.beq t 388 then some ti102 else
 bif Nat.beq t 394 then some ti103 else
 bif Nat.beq t 409 then some ti104 else
 bif Nat.beq t 430 then some ti105 else
 bif Nat.beq t 440 then some ti106 else none
theorem eD:∀ t i,table t=some i->TI.Ok Tryz.prog t i:=λt i=>tb ok0 (tb ok1 (tb ok2 (tb ok3 (tb ok4 (tb ok5 (tb ok6 (tb ok7 (tb ok8 (tb ok9 (tb ok10 (tb ok11 (tb ok12 (tb ok13 (tb ok14 (tb ok15 (tb ok16 (tb ok17 (tb ok18 (tb ok19 (tb ok20 (tb ok21 (tb ok22 (tb ok23 (tb ok24 (tb ok25 (tb ok26 (tb ok27 (tb ok28 (tb ok29 (tb ok30 (tb ok31 (tb ok32 (tb ok33 (tb ok34 (tb ok35 (tb ok36 (tb ok37 (tb ok38 (tb ok39 (tb ok40 (tb ok41 (tb ok42 (tb ok43 (tb ok44 (tb ok45 (tb ok46 (tb ok47 (tb ok48 (tb ok49 (tb ok50 (tb ok51 (tb ok52 (tb ok53 (tb ok54 (tb ok55 (tb ok56 (tb ok57 (tb ok58 (tb ok59 (tb ok60 (tb ok61 (tb ok62 (tb ok63 (tb ok64 (tb ok65 (tb ok66 (tb ok67 (tb ok68 (tb ok69 (tb ok70 (tb ok71 (tb ok72 (tb ok73 (tb ok74 (tb ok75 (tb ok76 (tb ok77 (tb ok78 (tb ok79 (tb ok80 (tb ok81 (tb ok82 (tb ok83 (tb ok84 (tb ok85 (tb ok86 (tb ok87 (tb ok88 (tb ok89 (tb ok90 (tb ok91 (tb ok92 (tb ok93 (tb ok94 (tb ok95 (tb ok96 (tb ok97 (tb ok98 (tb ok99 (tb ok100 (tb ok101 (tb ok102 (tb ok103 (tb ok104 (tb ok105 (tb ok106 (λh=>by cases h)))))))))))))))))))))))))))))))))))))))))))))))))))))))))))))))))))))))))))))))))))))))))))))))))))))))))))
abbrev UU:TypeId:=78
abbrev bj (P:Program) (w:World) (N:Nat):Cx:={ P:=P,w0:=w,N:=N,K:=KU UU,SU:=λt=>Nat.beq t 23,ti:=table,keep:=λ_ _=>trivial }
abbrev KI:KC:=⟨UU,λ_=>True,λt=>Nat.beq t 3⟩
abbrev FH (P:Program) (w:World) (N:Nat):Cx:={ P:=P,w0:=w,N:=N,K:=KI,SU:=λt=>Nat.beq t 23 || Nat.beq t 315,ti:=table,keep:=λ_ _=>trivial }
theorem na (w:World) (N:Nat):(FH Tryz.prog w N).Ok:=eD
theorem kt (w:World) (N:Nat):(FH Tryz.prog w N).P.follows .mixedOrders=true:=by show Tryz.prog.follows .mixedOrders=true;kernel_rfl
theorem cV (w:World) (N:Nat):(bj Tryz.prog w N).Ok:=eD
theorem rU (w:World) (N:Nat):(bj Tryz.prog w N).P.follows .mixedOrders=true:=by show Tryz.prog.follows .mixedOrders=true;kernel_rfl
section
variable {C:Cx} {m:Option (List FuncId)} {full:Array Oper} {K:Fr->Hp->World->Prop} {F F':Fr} {H H':Hp} {w w1:World} {N:Nat} {o:Oper} {r l l':List Oper} {Q:Exit->Act->World->Prop} {k k':List It} {v:AV} {u:Option (Nat×(TypeId×List AV))} {id:Nat} {ops:Array Oper}
theorem wN (h:K F H w):aB C m full [] K F H w:=VO.nil h
theorem wV (e:im C full 80 l F H=(l',F',H')) (h:aB C m full l' K F' H' w):aB C m full l K F H w:=VO.run 80 e h
theorem wO (e:stepOf C full F H o=.eL v u) (e':im C full 80 r (F.bo o.dst v) (H.upd u)=(l',F',H')) (h:aB C m full l' K F' H' w):aB C m full (o::r) K F H w:=VO.op1 e (VO.run 80 e' h)
theorem cx_r (e:im (bj Tryz.prog w1 N) ops 80 ops.toList F H=(l',F',H')) (h:aB (bj Tryz.prog w1 N) none ops l' (VS (bj Tryz.prog w1 N) Q k) F' H' w):VS (bj Tryz.prog w1 N) Q (.code (.region id ops false)::k) F H w:=VS.region (cV _ _) (VO.run 80 e h)
theorem cx_d (e:im (bj Tryz.prog w1 N) ops 80 ops.toList F H=(l',F',H')) (h:aB (bj Tryz.prog w1 N) (some []) ops l' (VS (bj Tryz.prog w1 N) Q k) F' H' w) (iY:jO (bj Tryz.prog w1 N).SU [] ops=true:=by kernel_rfl):VS (bj Tryz.prog w1 N) Q (.code (.region id ops true)::k) F H w:=VS.draw (cV _ _) (rU _ _) [] iY (VO.run 80 e h)
theorem zB (e:im (FH Tryz.prog w1 N) ops 80 ops.toList F H=(l',F',H')) (h:aB (FH Tryz.prog w1 N) none ops l' (VS (FH Tryz.prog w1 N) Q k) F' H' w):VS (FH Tryz.prog w1 N) Q (.code (.region id ops false)::k) F H w:=VS.region (na _ _) (VO.run 80 e h)
theorem cxI_d (e:im (FH Tryz.prog w1 N) ops 80 ops.toList F H=(l',F',H')) (h:aB (FH Tryz.prog w1 N) (some []) ops l' (VS (FH Tryz.prog w1 N) Q k) F' H' w) (iY:jO (FH Tryz.prog w1 N).SU [] ops=true:=by kernel_rfl):VS (FH Tryz.prog w1 N) Q (.code (.region id ops true)::k) F H w:=VS.draw (na _ _) (kt _ _) [] iY (VO.run 80 e h)
def peel (F:Fr):List It->Option (List It)
 | .code (.seq x y)::k=>some (.code x::.code y::k)
 | .code (.block id c)::k=>some (.code c::.gv id::k)
 | .gv _::k=>some k
 | .code .skip::k=>some k
 | .code (.exit id)::k=>pop id k
 | .code (.cond c x y)::k=>(match jK F c with
   | some (.bool true)=>some (.code x::k)
   | some (.bool false)=>some (.code y::k)
   | _=>none)
 | _=>none
theorem wP (e:peel F k=some k') (h:VS C Q k' F H w):VS C Q k F H w:=by
 unfold peel at e
 split at e
 ·cases e;exact VS.seq h
 ·cases e;exact VS.block h
 ·cases e;exact VS.gv h
 ·cases e;exact VS.skip h
 ·exact VS.exit e h
 ·split at e
  ·rename_i hc;cases e;exact VS.condT hc h
  ·rename_i hc;cases e;exact VS.condF hc h
  ·cases e
 ·cases e
theorem fk {P:Program} {g:FuncId} {fn:Func} (h:P.funcs[g]? =some fn) (h1:(fn.name == "runtime.NumGoroutine")=false:=by kernel_rfl) (h2:fn.body.isNone=false:=by kernel_rfl):wR P g:=⟨fn,h,h1,h2⟩
theorem kU (w:World):aK (KU UU) w w:=aK.refl _ _
theorem kR {k:KC} (w:World):aK k w w:=aK.refl _ _
theorem kT {k:KC} {a b c:World} (h:aK k a b) (h':aK k b c):aK k a c:=h.aH h'
end
end
section
open Go.RowKit
theorem kJ (neg:Bool) (p:Option Addr) (n c:Nat) (w:World):
  Calls Tryz.prog 146 #[.bool neg,.slice p n c] w λe w'=>e=.returned (.agg #[.bool (neg && decide (0<n)),.slice p n c])/\ax w w':=by
 refine aV λR' bK=> ?_
 go_enter Tryz.func146,Tryz.ntmps146
 cases neg
 ·go_wp2
  exact bodyPost_ret (v:=.agg #[.bool false,.slice p n c]) (by simp[results,Tryz.results146,go_sem]) rfl (bK.out _ _ ⟨rfl,(ax.refl w).alloc _⟩)
 ·go_wp2
  exact bodyPost_ret (v:=.agg #[.bool (decide (0<n)),.slice p n c]) (by simp[results,Tryz.results146,go_sem]) rfl (bK.out _ _ ⟨rfl,(ax.refl w).alloc _⟩)
theorem fK (neg:Bool) (p:Option Addr) (n c:Nat) (w:World):
  Calls Tryz.prog 146 #[.bool neg,.slice p n c] w λe w'=>∃ sg,e=.returned (.agg #[.bool sg,.slice p n c])/\Hid (sg=(neg && decide (0<n)))/\ax w w':=
 (kJ neg p n c w).mono λ_ _ ⟨h,hb⟩=>⟨_,h,Lib.hid rfl,hb⟩
theorem qN (neg:Bool) (xs:List Nat) (v:Value) (w:World) (h:fi w v neg xs):
  Calls Tryz.prog 83 #[v] w λe w'=>e=.returned (.bool (dH neg xs))/\ax w w':=by
 obtain⟨p,c,rfl,hr,hl⟩:=h
 obtain⟨p',c',hv,gg,gF,-⟩:=hr.u32
 simp only[Value.slice.injEq,true_and] at hv
 obtain⟨rfl,rfl⟩:=hv
 refine aV λR' bK=> ?_
 by_cases hx:xs=[]
 ·subst hx
  simp only[List.length_nil,qB] at*
  go_enter Tryz.func83,Tryz.ntmps83
  cases neg
  ·go_wp2
   exact bK.out _ _ ⟨rfl,(ax.refl w).alloc _⟩
  ·go_wp2
   exact bK.out _ _ ⟨rfl,(ax.refl w).alloc _⟩
 ·obtain⟨m,hm⟩:∃ m,xs.length=m+1:=⟨xs.length-1,by have:=List.length_pos_iff.2 hx;omega⟩
  generalize hn:xs.length=n at*
  obtain⟨b,off,x,rfl,hb,hxm,hc⟩:=hr.cellAt (k:=m) aa
  have h1:dH neg xs=decide (x≠0):=ui (by rw[hn,hm];exact hxm)
  rw[h1] at bK
  have hz:((n:Int) == 0)=false:=by rw[beq_eq_false_iff_ne];omega
  have hp:(0:Int)<(n:Int):=by omega
  have hw:IntKind.i64.wrap ((n:Int)-1)=(m:Int):=by rw[IntWalk.i64_in _ aa];omega
  have hlt:(m:Int)<(n:Int):=by omega
  have HN:=Lib.hid hn
  have hpn:0<n:=by omega
  clear hx hm hn h1 hxm hr hl
  go_enter Tryz.func83,Tryz.ntmps83
  by_cases nG:x=0
  ·subst nG
   cases neg
   ·go_wp2
    exact bK.out _ _ ⟨rfl,(ax.refl w).alloc _⟩
   ·go_wp2
    exact bK.out _ _ ⟨rfl,(ax.refl w).alloc _⟩
  ·have FI:((x:Int) != 0)=true:=by rw[bne_iff_ne];omega
   rw[decide_eq_true nG] at bK
   clear nG
   cases neg
   ·go_wp2
    exact bK.out _ _ ⟨rfl,(ax.refl w).alloc _⟩
   ·go_wp2
    exact bK.out _ _ ⟨rfl,(ax.refl w).alloc _⟩
theorem gO (v:Value) (X:Int) (k:Nat) (w0 w:World) (h:cz w0 v X k) (pH:ax w0 w):
  Calls Tryz.prog 144 #[v] w λe w'=>∃ u,e=.returned u/\cG w0 u X/\ax w w':=by
 obtain⟨neg,xs,hn,rfl,hk⟩:=h
 refine aV λR' bK=> ?_
 have HN:=Lib.hid hn
 obtain⟨p,c,rfl,hr,hl⟩:=hn
 clear hr
 go_enter Tryz.func144,Tryz.ntmps144
 go_wp2_with fail
 refine (qN neg xs _ _ ((HN.out.az pH).az (((ax.refl w).alloc _).alloc _))).mono ?_
 rintro e w1 ⟨rfl,bl⟩
 obtain⟨b1,b2,mK⟩:=mQ w 25 246 #[.bool neg,.slice p xs.length c] #[.bool false,.slice none 0 0]
 obtain⟨c1,c2,_,_⟩:=(b1.az bl).two
 obtain⟨c3,c4,f3,f4⟩:=(b2.az bl).two
 have Aa:ax w w1:=mK.aH bl
 cases hnr:dH neg xs
 ·have B2:=(b2.az bl).bS (.bool false) (.slice none 0 0)
  have ug:=Aa.bS (b:=w.heap.size+1) aa (.bool false) (.slice none 0 0)
  go_wp2
  generalize (w1.setCell ⟨w.heap.size+1,0,none⟩ (.bool false)).setCell ⟨w.heap.size+1,1,none⟩ (.slice none 0 0)=w2 at*
  obtain⟨d1,d2,_,_⟩:=B2.two
  refine bodyPost_ret (v:=.agg #[.bool false,.slice none 0 0]) (by simp[results,Tryz.results144,go_sem,d1,d2]) rfl (bK.out _ _ ⟨_,rfl,?_,ug⟩)
  rw[numOf,if_neg (by simp[hnr])]
  exact cG.zero _
 ·have B2:=(b2.az bl).bS (.bool neg) (.slice p xs.length c)
  have ug:=Aa.bS (b:=w.heap.size+1) aa (.bool neg) (.slice p xs.length c)
  go_wp2
  generalize (w1.setCell ⟨w.heap.size+1,0,none⟩ (.bool neg)).setCell ⟨w.heap.size+1,1,none⟩ (.slice p xs.length c)=w2 at*
  obtain⟨d1,d2,_,_⟩:=B2.two
  refine bodyPost_ret (v:=.agg #[.bool neg,.slice p xs.length c]) (by simp[results,Tryz.results144,go_sem,d1,d2]) rfl (bK.out _ _ ⟨_,rfl,?_,ug⟩)
  rw[numOf,if_pos hnr]
  obtain⟨h1,h2⟩:=canon hl hnr
  have:=HN.out
  show fi _ _ _ _
  rw[<-h1,<-h2]
  exact this
end
section
open Go.RowKit
theorem cG.split {w:World} {v:Value} {X:Int} (h:cG w v X):∃ s p c,v=.agg #[.bool s,.slice p (limbs X.natAbs).length c]/\Rd w 1 (.slice p (limbs X.natAbs).length c) (limbs X.natAbs).length (ints .u32 (limbs X.natAbs))/\X=if s=true then-(X.natAbs:Int) else (X.natAbs:Int):=by
 obtain⟨p,c,hv,hr,_⟩:=h
 refine⟨_,p,c,hv,hr,?_⟩
 split
 ·rename_i h;have:=of_decide_eq_true h;omega
 ·rename_i h;have:¬ X<0:=λh'=>h (decide_eq_true h');omega
theorem xn (v:Value) (X:Int) (w:World) (h:cG w v X):
  Calls Tryz.prog 205 #[v] w λe w'=>∃ u,e=.returned u/\cG w' u (-X)/\ax w w':=by
 obtain⟨s,p,c,rfl,hr,hX⟩:=h.split
 obtain⟨n,hn⟩:∃ n,n=(limbs X.natAbs).length:=⟨_,rfl⟩
 have HR:=Lib.hid hr
 have HN:=Lib.hid hn
 have HX:=Lib.hid hX
 rw[<-hn]
 clear hr hn hX h
 refine aV λR' bK=> ?_
 obtain⟨b1,b2,mK⟩:=mQ w 246 246 #[.bool s,.slice p n c] #[.bool false,.slice none 0 0]
 go_enter Tryz.func205,Tryz.ntmps205
 go_wp2_with fail
 refine (kJ _ _ _ _ _).mono ?_
 rintro e w1 ⟨rfl,bl⟩
 obtain⟨c3,c4,f3,f4⟩:=(b2.az bl).two
 have B2:=(b2.az bl).bS (.bool (!s && decide (0<n))) (.slice p n c)
 have ug:=(mK.aH bl).bS (b:=w.heap.size+1) aa (.bool (!s && decide (0<n))) (.slice p n c)
 go_wp2
 generalize (w1.setCell ⟨w.heap.size+1,0,none⟩ (.bool (!s && decide (0<n)))).setCell ⟨w.heap.size+1,1,none⟩ (.slice p n c)=w2 at*
 obtain⟨d1,d2,_,_⟩:=B2.two
 refine bodyPost_ret (v:=.agg #[.bool (!s && decide (0<n)),.slice p n c]) (by simp[results,Tryz.results205,go_sem,d1,d2]) rfl (bK.out _ _ ⟨_,rfl,?_,ug⟩)
 have qe:=HR.out.below ug
 rw[<-HN.out] at qe
 refine cG.of (m:=X.natAbs) (by rw[<-HN.out];exact qe) HN.out _ ?_
 rw[HX.out]
 cases s <;> simp
theorem Dw (v u:Value) (X Y:Int) (w:World) (hv:cG w v X) (hu:cG w u Y) (hx:(limbs X.natAbs).length<=1073741824) (hy:(limbs Y.natAbs).length<=1073741824):
  Calls Tryz.prog 204 #[v,u] w λe w'=>∃ r,e=.returned r/\aF w' w.heap.size r (X+Y)/\ax w w':=by
 obtain⟨s,p,c,rfl,sR,hX⟩:=hv.split
 obtain⟨t,q,d,rfl,qe,hY⟩:=hu.split
 obtain⟨n,hn⟩:∃ n,n=(limbs X.natAbs).length:=⟨_,rfl⟩
 obtain⟨m,hm⟩:∃ m,m=(limbs Y.natAbs).length:=⟨_,rfl⟩
 rw[<-hn] at sR hx ⊢
 rw[<-hm] at qe hy ⊢
 clear hv hu
 refine aV λR' bK=> ?_
 obtain⟨b1,b2,b3,mK⟩:=mR w 246 246 25 #[.bool s,.slice p n c] #[.bool t,.slice q m d] #[.bool false,.slice none 0 0]
 have r10:=Lib.hid sR
 have r20:=Lib.hid qe
 have r1:=Lib.hid (sR.below mK)
 have r2:=Lib.hid (qe.below mK)
 have HX:=Lib.hid hX
 have HY:=Lib.hid hY
 have HN:=Lib.hid hn
 have HM:=Lib.hid hm
 clear sR qe hX hY hn hm
 go_enter Tryz.func204,Tryz.ntmps204
 by_cases hst:s=t
 ·subst hst
  go_wp2_with fail
  generalize ((w.alloc _).alloc _).alloc _=W at*
  obtain⟨c1,c2,_,_⟩:=b1.two
  obtain⟨c3,c4,_,_⟩:=b2.two
  obtain⟨c5,c6,f5,f6⟩:=b3.two
  have HS:=Lib.hid (λw' (h:aD W (w.heap.size+1+1) w')=>And.intro (h.cells b1 aa) (h.cells b2 aa))
  go_region_held3 (λw'=>(w'.cell? ⟨w.heap.size,0,none⟩=some (.bool s)/\w'.cell? ⟨w.heap.size,1,none⟩=some (.slice p n c))/\w'.cell? ⟨w.heap.size+1,0,none⟩=some (.bool s)/\w'.cell? ⟨w.heap.size+1,1,none⟩=some (.slice q m d)) ((refine HS.out _ ?_;(with_reducible (repeat (first|exact aD.refl _ _|refine aD.drew ?_|refine aD.drewN ?_ _|refine aD.alloc ?_ _|refine aD.set ?_ _|refine aD.aH ?_ (by assumption)|refine aD.oi ?_ (by first|omega|(simp;done)|(simp;omega)) _))))) (first
   | (go_at_call 268;refine (Hg _ _ n m _ _ _ r1.out.drew r2.out.drew (aA _) (aA _) aa aa).mono ?_;rintro e w1 ⟨v1,rfl,tE,bl⟩;replace bl:ax _ w1:=bl;rw[ak,ak] at tE;obtain⟨p1,k1,rfl,_,_,_⟩:=Own.form tE)
   | (go_at_call 146;refine (kJ _ _ _ _ _).mono ?_;rintro e w2 ⟨rfl,bM⟩;obtain⟨c5',Ia,f5',f6'⟩:=((b3.drew.az bl).az bM).two))
  have B3:=((b3.drew.az bl).az bM).bS (.bool (s && decide (0<(limbs (X.natAbs+Y.natAbs)).length))) (.slice p1 (limbs (X.natAbs+Y.natAbs)).length k1)
  have Aa:ax w w2:=mK.aH (ax.aH (ax.aH (ax.refl W).drew bl) bM)
  have KW:=Aa.bS (b:=w.heap.size+1+1) aa (.bool (s && decide (0<(limbs (X.natAbs+Y.natAbs)).length))) (.slice p1 (limbs (X.natAbs+Y.natAbs)).length k1)
  have Mt:=Own.below tE bM
  generalize hL:(limbs (X.natAbs+Y.natAbs)).length=L at*
  have LB:=Lib.hid (Own.bS (b:=w.heap.size+1+1) Mt (b3.drew.az bl |>.az bM) cH (.bool (s && decide (0<L))) (.slice p1 L k1))
  clear Mt tE Aa
  go_wp2
  generalize (w2.setCell ⟨w.heap.size+1+1,0,none⟩ (.bool (s && decide (0<L)))).setCell ⟨w.heap.size+1+1,1,none⟩ (.slice p1 L k1)=w3 at*
  obtain⟨d1,d2,_,_⟩:=B3.two
  refine bodyPost_ret (v:=.agg #[.bool (s && decide (0<L)),.slice p1 L k1]) (by simp[results,Tryz.results204,go_sem,d1,d2]) rfl (bK.out _ _ ⟨_,rfl,?_,KW⟩)
  refine aF.of (m:=X.natAbs+Y.natAbs) (by rw[hL];exact Own.mono LB.out mK.size) hL.symm _ ?_
  rw[HX.out,HY.out]
  cases s <;> simp <;> omega
 ·have hst':(s == t)=false:=by cases s <;> cases t <;> simp_all
  go_wp2_with fail
  generalize ((w.alloc _).alloc _).alloc _=W at*
  refine (Ab _ _ n m _ _ _ r1.out r2.out (aA _) (aA _)).mono ?_
  rintro e w1 ⟨rfl,k1,rfl⟩
  rw[ak,ak]
  by_cases hlt:X.natAbs<Y.natAbs
  ·have HLT:=Lib.hid hlt
   have hc:gh X.natAbs Y.natAbs<0:=jz.2 hlt
   generalize gh X.natAbs Y.natAbs=cv at hc ⊢
   obtain⟨c1,c2,f1,f2⟩:=(b1.drewN k1).two
   obtain⟨c3,c4,f3,f4⟩:=(b2.drewN k1).two
   have B1:=((b1.drewN k1).bS (.bool t) (.slice q m d)).dW (b':=w.heap.size+1) aa (.bool s) (.slice p n c)
   have B2:=((b2.drewN k1).dW (b':=w.heap.size) aa (.bool t) (.slice q m d)).bS (.bool s) (.slice p n c)
   have B3:=((b3.drewN k1).dW (b':=w.heap.size) aa (.bool t) (.slice q m d)).dW (b':=w.heap.size+1) aa (.bool s) (.slice p n c)
   have gM:=((mK.drewN k1).bS (b:=w.heap.size) aa (.bool t) (.slice q m d)).bS (b:=w.heap.size+1) aa (.bool s) (.slice p n c)
   clear mK b1 b2 b3 r1 r2 hlt
   go_wp2_with fail
   generalize ((((W.drewN k1).setCell ⟨w.heap.size,0,none⟩ (.bool t)).setCell ⟨w.heap.size,1,none⟩ (.slice q m d)).setCell ⟨w.heap.size+1,0,none⟩ (.bool s)).setCell ⟨w.heap.size+1,1,none⟩ (.slice p n c)=W2 at*
   clear c1 c2 c3 c4 f1 f2 f3 f4
   refine (Ai _ _ m n _ _ _ (r20.out.below gM) (r10.out.below gM) (aA _) (aA _) aa).mono ?_
   rintro e w2 ⟨⟨h,_⟩|⟨_,v2,rfl,Ib⟩,bM⟩
   ·rw[ak,ak] at h;exact absurd h (by have:=HLT.out;omega)
   replace bM:ax _ w2:=bM
   rw[ak,ak] at Ib
   obtain⟨p2,k2,rfl,_,_,_⟩:=Own.form Ib
   obtain⟨e1,e2,_,_⟩:=(B1.az bM).two
   have E3:=B3.az bM
   have hbw2:=gM.aH bM
   generalize hL:(limbs (Y.natAbs-X.natAbs)).length=L at*
   have nK:=Lib.hid (Own.mono Ib gM.size)
   have HL:=Lib.hid hL
   clear Ib hL B1 B2 B3 gM bM
   go_wp2_with fail
   refine (kJ _ _ _ _ _).mono ?_
   rintro e w3 ⟨rfl,dU⟩
   have F3:=E3.az dU
   obtain⟨e5,e6,g5,g6⟩:=F3.two
   have LB:=Lib.hid (Own.bS (b:=w.heap.size+1+1) (Own.below nK.out dU) F3 cH (.bool (t && decide (0<L))) (.slice p2 L k2))
   have G3:=F3.bS (.bool (t && decide (0<L))) (.slice p2 L k2)
   have KW:=(hbw2.aH dU).bS (b:=w.heap.size+1+1) aa (.bool (t && decide (0<L))) (.slice p2 L k2)
   clear nK E3 F3
   go_wp2
   generalize (w3.setCell ⟨w.heap.size+1+1,0,none⟩ (.bool (t && decide (0<L)))).setCell ⟨w.heap.size+1+1,1,none⟩ (.slice p2 L k2)=w4 at*
   obtain⟨d1,d2,_,_⟩:=G3.two
   refine bodyPost_ret (v:=.agg #[.bool (t && decide (0<L)),.slice p2 L k2]) (by simp[results,Tryz.results204,go_sem,d1,d2]) rfl (bK.out _ _ ⟨_,rfl,?_,KW⟩)
   refine aF.of (m:=Y.natAbs-X.natAbs) (by rw[HL.out];exact LB.out) HL.out.symm _ ?_
   rw[HX.out,HY.out]
   have:=HLT.out
   cases s <;> cases t <;> simp at hst ⊢ <;> omega
  ·have HLT:=Lib.hid hlt
   have hc:0<=gh X.natAbs Y.natAbs:=by have:=mt (@jz X.natAbs Y.natAbs).1 hlt;omega
   generalize gh X.natAbs Y.natAbs=cv at hc ⊢
   have B1:=b1.drewN k1
   have B2:=b2.drewN k1
   have B3:=b3.drewN k1
   have gM:=mK.drewN k1
   obtain⟨c1,c2,f1,f2⟩:=B1.two
   obtain⟨c3,c4,f3,f4⟩:=B2.two
   clear mK b1 b2 b3 r1 r2 hlt
   go_wp2_with fail
   generalize W.drewN k1=W2 at*
   clear c1 c2 c3 c4 f1 f2 f3 f4
   refine (Ai _ _ n m _ _ _ (r10.out.below gM) (r20.out.below gM) (aA _) (aA _) aa).mono ?_
   rintro e w2 ⟨⟨h,_⟩|⟨_,v2,rfl,Ib⟩,bM⟩
   ·rw[ak,ak] at h;exact absurd h (by have:=HLT.out;omega)
   replace bM:ax _ w2:=bM
   rw[ak,ak] at Ib
   obtain⟨p2,k2,rfl,_,_,_⟩:=Own.form Ib
   obtain⟨e1,e2,_,_⟩:=(B1.az bM).two
   have E3:=B3.az bM
   have hbw2:=gM.aH bM
   generalize hL:(limbs (X.natAbs-Y.natAbs)).length=L at*
   have nK:=Lib.hid (Own.mono Ib gM.size)
   have HL:=Lib.hid hL
   clear Ib hL B1 B2 B3 gM bM
   go_wp2_with fail
   refine (kJ _ _ _ _ _).mono ?_
   rintro e w3 ⟨rfl,dU⟩
   have F3:=E3.az dU
   obtain⟨e5,e6,g5,g6⟩:=F3.two
   have LB:=Lib.hid (Own.bS (b:=w.heap.size+1+1) (Own.below nK.out dU) F3 cH (.bool (s && decide (0<L))) (.slice p2 L k2))
   have G3:=F3.bS (.bool (s && decide (0<L))) (.slice p2 L k2)
   have KW:=(hbw2.aH dU).bS (b:=w.heap.size+1+1) aa (.bool (s && decide (0<L))) (.slice p2 L k2)
   clear nK E3 F3
   go_wp2
   generalize (w3.setCell ⟨w.heap.size+1+1,0,none⟩ (.bool (s && decide (0<L)))).setCell ⟨w.heap.size+1+1,1,none⟩ (.slice p2 L k2)=w4 at*
   obtain⟨d1,d2,_,_⟩:=G3.two
   refine bodyPost_ret (v:=.agg #[.bool (s && decide (0<L)),.slice p2 L k2]) (by simp[results,Tryz.results204,go_sem,d1,d2]) rfl (bK.out _ _ ⟨_,rfl,?_,KW⟩)
   refine aF.of (m:=X.natAbs-Y.natAbs) (by rw[HL.out];exact LB.out) HL.out.symm _ ?_
   rw[HX.out,HY.out]
   have:=HLT.out
   cases s <;> cases t <;> simp at hst ⊢ <;> omega
end
section
open Go.RowKit
theorem iw {w w':World} (h:ax w w':=by (with_reducible (repeat (first|assumption|exact ax.refl _|refine ax.drew ?_|refine ax.drewN ?_ _|refine ax.alloc ?_ _|refine ax.aH ?_ (by assumption)|refine ax.setCell ?_ (by first|omega|(simp;done)|(simp;omega)) _)))):ax w w':=h
theorem Dx (v u:Value) (X Y:Int) (j k:Nat) (w:World) (hv:cz w v X j) (hu:cz w u Y k) (hj:j<=1073741824) (hk:k<=1073741824):
  Calls Tryz.prog 150 #[v,u] w λe w'=>∃ r,e=.returned r/\aF w' w.heap.size r (X+Y)/\ax w w':=by
 obtain⟨s,p,n,c,rfl⟩:=hv.form
 obtain⟨t,q,m,d,rfl⟩:=hu.form
 refine aV λR' bK=> ?_
 obtain⟨b1,b2,b3,mK⟩:=mR w 25 25 25 #[.bool s,.slice p n c] #[.bool t,.slice q m d] #[.bool false,.slice none 0 0]
 have rj:=hv.len
 have nM:=hu.len
 have HV:=Lib.hid hv
 have HU:=Lib.hid hu
 have hsz:w.heap.size+3<=(((w.alloc (.cells #[.bool s,.slice p n c] 25)).alloc (.cells #[.bool t,.slice q m d] 25)).alloc (.cells #[.bool false,.slice none 0 0] 25)).heap.size:=by simp
 clear hv hu
 go_enter Tryz.func150,Tryz.ntmps150
 go_wp2_with fail
 generalize ((w.alloc _).alloc _).alloc _=W at*
 have HS:=Lib.hid (λw' (h:aD W (w.heap.size+1+1) w')=>And.intro (h.cells b1 aa) (h.cells b2 aa))
 obtain⟨c1,c2,_,_⟩:=b1.two
 obtain⟨c3,c4,_,_⟩:=b2.two
 obtain⟨c5,c6,f5,f6⟩:=b3.two
 go_region_held3 (λw'=>(w'.cell? ⟨w.heap.size,0,none⟩=some (.bool s)/\w'.cell? ⟨w.heap.size,1,none⟩=some (.slice p n c))/\w'.cell? ⟨w.heap.size+1,0,none⟩=some (.bool t)/\w'.cell? ⟨w.heap.size+1,1,none⟩=some (.slice q m d)) ((refine HS.out _ ?_;(with_reducible (repeat (first|exact aD.refl _ _|refine aD.drew ?_|refine aD.drewN ?_ _|refine aD.alloc ?_ _|refine aD.set ?_ _|refine aD.aH ?_ (by assumption)|refine aD.oi ?_ (by first|omega|(simp;done)|(simp;omega)) _))))) (first
  | (go_at_call_of 144 (Value.slice p n c);refine (gO _ X j w _ HV.out iw).mono ?_;rintro e w1 ⟨u1,rfl,Bw,bl⟩)
  | (go_at_call_of 144 (Value.slice q m d);refine (gO _ Y k w _ HU.out iw).mono ?_;rintro e w2 ⟨u2,rfl,ym,bM⟩)
  | (go_at_call 204;refine (Dw _ _ X Y _ (Bw.az iw) (ym.az iw) (Nat.le_trans rj hj) (Nat.le_trans nM hk)).mono ?_;rintro e w3 ⟨r,rfl,aI,dU⟩;obtain⟨sg,pp,nn,cc,rfl⟩:=aI.form;obtain⟨e5,e6,g5,g6⟩:=(aL.az (w':=w3) b3 iw).two)
  | fail)
 have FC:=(aL.az (w':=w3) b3 iw)
 have FB:ax w w3:=iw
 have FZ:ax w w2:=iw
 have HO:=Lib.hid (aI.bS FC cH (.bool sg) (.slice pp nn cc))
 clear aI
 have Dy:=FC.bS (.bool (sg)) (.slice pp (nn) cc)
 have Dz:=ax.bS FB (b:=w.heap.size+1+1) aa (.bool (sg)) (.slice pp (nn) cc)
 go_wp2
 generalize (w3.setCell ⟨w.heap.size+1+1,0,none⟩ (.bool (sg))).setCell ⟨w.heap.size+1+1,1,none⟩ (.slice pp (nn) cc)=wz at*
 obtain⟨DA,DB,_,_⟩:=Dy.two
 refine bodyPost_ret (v:=.agg #[.bool (sg),.slice pp (nn) cc]) (by simp[results,Tryz.results150,go_sem,DA,DB]) rfl (bK.out _ _ ?_)
 exact⟨_,rfl,HO.out.mono FZ.size,Dz⟩
theorem Mu (v u:Value) (X Y:Int) (j k:Nat) (w:World) (hv:cz w v X j) (hu:cz w u Y k) (hj:j<=1073741824) (hk:k<=1073741824):
  Calls Tryz.prog 145 #[v,u] w λe w'=>∃ r,e=.returned r/\aF w' w.heap.size r (X-Y)/\ax w w':=by
 obtain⟨s,p,n,c,rfl⟩:=hv.form
 obtain⟨t,q,m,d,rfl⟩:=hu.form
 refine aV λR' bK=> ?_
 obtain⟨b1,b2,b3,mK⟩:=mR w 25 25 25 #[.bool s,.slice p n c] #[.bool t,.slice q m d] #[.bool false,.slice none 0 0]
 have rj:=hv.len
 have nM:=hu.len
 have HV:=Lib.hid hv
 have HU:=Lib.hid hu
 have hsz:w.heap.size+3<=(((w.alloc (.cells #[.bool s,.slice p n c] 25)).alloc (.cells #[.bool t,.slice q m d] 25)).alloc (.cells #[.bool false,.slice none 0 0] 25)).heap.size:=by simp
 clear hv hu
 go_enter Tryz.func145,Tryz.ntmps145
 go_wp2_with fail
 generalize ((w.alloc _).alloc _).alloc _=W at*
 have HS:=Lib.hid (λw' (h:aD W (w.heap.size+1+1) w')=>And.intro (h.cells b1 aa) (h.cells b2 aa))
 obtain⟨c1,c2,_,_⟩:=b1.two
 obtain⟨c3,c4,_,_⟩:=b2.two
 obtain⟨c5,c6,f5,f6⟩:=b3.two
 go_region_held3 (λw'=>(w'.cell? ⟨w.heap.size,0,none⟩=some (.bool s)/\w'.cell? ⟨w.heap.size,1,none⟩=some (.slice p n c))/\w'.cell? ⟨w.heap.size+1,0,none⟩=some (.bool t)/\w'.cell? ⟨w.heap.size+1,1,none⟩=some (.slice q m d)) ((refine HS.out _ ?_;(with_reducible (repeat (first|exact aD.refl _ _|refine aD.drew ?_|refine aD.drewN ?_ _|refine aD.alloc ?_ _|refine aD.set ?_ _|refine aD.aH ?_ (by assumption)|refine aD.oi ?_ (by first|omega|(simp;done)|(simp;omega)) _))))) (first
  | (go_at_call_of 144 (Value.slice p n c);refine (gO _ X j w _ HV.out iw).mono ?_;rintro e w1 ⟨u1,rfl,Bw,bl⟩)
  | (go_at_call_of 144 (Value.slice q m d);refine (gO _ Y k w _ HU.out iw).mono ?_;rintro e w2 ⟨u2,rfl,ym,bM⟩)
  | (go_at_call 205;refine (xn _ Y _ (ym.az iw)).mono ?_;rintro e w4 ⟨u4,rfl,hu4,iX⟩)
  | (go_at_call 204;refine (Dw _ _ X (-Y) _ (Bw.az iw) (hu4.az iw) (Nat.le_trans rj hj) (by rw[Int.natAbs_neg];exact Nat.le_trans nM hk)).mono ?_;rintro e w3 ⟨r,rfl,aI,dU⟩;obtain⟨sg,pp,nn,cc,rfl⟩:=aI.form;obtain⟨e5,e6,g5,g6⟩:=(aL.az (w':=w3) b3 iw).two)
  | fail)
 rw[<-Int.sub_eq_add_neg] at aI
 have FC:=(aL.az (w':=w3) b3 iw)
 have FB:ax w w3:=iw
 have FZ:ax w w4:=iw
 have HO:=Lib.hid (aI.bS FC cH (.bool sg) (.slice pp nn cc))
 clear aI
 have Dy:=FC.bS (.bool (sg)) (.slice pp (nn) cc)
 have Dz:=ax.bS FB (b:=w.heap.size+1+1) aa (.bool (sg)) (.slice pp (nn) cc)
 go_wp2
 generalize (w3.setCell ⟨w.heap.size+1+1,0,none⟩ (.bool (sg))).setCell ⟨w.heap.size+1+1,1,none⟩ (.slice pp (nn) cc)=wz at*
 obtain⟨DA,DB,_,_⟩:=Dy.two
 refine bodyPost_ret (v:=.agg #[.bool (sg),.slice pp (nn) cc]) (by simp[results,Tryz.results145,go_sem,DA,DB]) rfl (bK.out _ _ ?_)
 exact⟨_,rfl,HO.out.mono FZ.size,Dz⟩
def Ic (w W wc:World) (T:TypeId) (X Y:Int) (x y:Value):Prop:=∃ g h s1 p1 n1 k1 s2 p2 n2 k2,x=.pointer (some ⟨g,0,none⟩)/\y=.pointer (some ⟨h,0,none⟩)/\aL wc g T #[.bool s1,.slice p1 n1 k1]/\aL wc h T #[.bool s2,.slice p2 n2 k2]/\
 cG w (.agg #[.bool s1,.slice p1 n1 k1]) X/\cG w (.agg #[.bool s2,.slice p2 n2 k2]) Y/\ax W wc
theorem oI (v u:Value) (X Y:Int) (j k:Nat) (w:World) (hv:cz w v X j) (hu:cz w u Y k) (hj:j<=536870912) (hk:k<=536870912):
  Calls Tryz.prog 100 #[v,u] w λe w'=>∃ r,e=.returned r/\aF w' w.heap.size r (X*Y)/\ax w w':=by
 obtain⟨s,p,n,c,rfl⟩:=hv.form
 obtain⟨t,q,m,d,rfl⟩:=hu.form
 refine aV λR' bK=> ?_
 obtain⟨b1,b2,b3,mK⟩:=mR w 25 25 25 #[.bool s,.slice p n c] #[.bool t,.slice q m d] #[.bool false,.slice none 0 0]
 have rj:=hv.len
 have nM:=hu.len
 have HV:=Lib.hid hv
 have HU:=Lib.hid hu
 have hsz:w.heap.size+3<=(((w.alloc (.cells #[.bool s,.slice p n c] 25)).alloc (.cells #[.bool t,.slice q m d] 25)).alloc (.cells #[.bool false,.slice none 0 0] 25)).heap.size:=by simp
 clear hv hu
 go_enter Tryz.func100,Tryz.ntmps100
 go_wp2_with fail
 generalize ((w.alloc _).alloc _).alloc _=W at*
 have HS:=Lib.hid (λw' (h:aD W (w.heap.size+1+1) w')=>And.intro (h.cells b1 aa) (h.cells b2 aa))
 obtain⟨c1,c2,_,_⟩:=b1.two
 obtain⟨c3,c4,_,_⟩:=b2.two
 obtain⟨c5,c6,f5,f6⟩:=b3.two
 go_cut [5,6] (λx5 x6 wc=>Ic w W wc 246 X Y x5 x6)
 case first=>
  go_region_held3 (λw'=>(w'.cell? ⟨w.heap.size,0,none⟩=some (.bool s)/\w'.cell? ⟨w.heap.size,1,none⟩=some (.slice p n c))/\w'.cell? ⟨w.heap.size+1,0,none⟩=some (.bool t)/\w'.cell? ⟨w.heap.size+1,1,none⟩=some (.slice q m d)) ((refine HS.out _ ?_;(with_reducible (repeat (first|exact aD.refl _ _|refine aD.drew ?_|refine aD.drewN ?_ _|refine aD.alloc ?_ _|refine aD.set ?_ _|refine aD.aH ?_ (by assumption)|refine aD.oi ?_ (by first|omega|(simp;done)|(simp;omega)) _))))) (first
   | (go_at_call_of 144 (Value.slice p n c);refine (gO _ X j w _ HV.out iw).mono ?_;rintro e w1 ⟨u1,rfl,Bw,bl⟩;obtain⟨s1,p1,n1,k1,rfl⟩:=Bw.gZ;have Mo:=bl.size;(try simp at Mo);(try (have q1:=aL.az (aL.drew (aL.new _ _ #[_,_])) bl;(try simp at q1);obtain⟨q1a,q1b,q1c,q1d⟩:=q1.two;have q1l:=q1.lt;have q1n:=Nat.ne_of_lt q1l;have q1m:=Nat.ne_of_gt q1l));(try (have q2:=aL.az (aL.drew (aL.alloc (aL.new _ _ #[_,_]) _)) bl;(try simp at q2);obtain⟨q2a,q2b,q2c,q2d⟩:=q2.two;have q2l:=q2.lt;have q2n:=Nat.ne_of_lt q2l;have q2m:=Nat.ne_of_gt q2l)))
   | (go_at_call_of 144 (Value.slice q m d);refine (gO _ Y k w _ HU.out iw).mono ?_;rintro e w2 ⟨u2,rfl,ym,bM⟩;obtain⟨s2,p2,n2,k2,rfl⟩:=ym.gZ;have hs2:=bM.size;(try simp at hs2);(try (have q3:=aL.az (aL.new _ _ #[_,_]) bM;(try simp at q3);obtain⟨q3a,q3b,q3c,q3d⟩:=q3.two;have q3l:=q3.lt;have q3n:=Nat.ne_of_lt q3l;have q3m:=Nat.ne_of_gt q3l));(try (have q4:=aL.az (aL.alloc (aL.new _ _ #[_,_]) _) bM;(try simp at q4);obtain⟨q4a,q4b,q4c,q4d⟩:=q4.two;have q4l:=q4.lt;have q4n:=Nat.ne_of_lt q4l;have q4m:=Nat.ne_of_gt q4l));(try (have q5:=aL.az q1 bM;(try simp at q5);obtain⟨q5a,q5b,q5c,q5d⟩:=q5.two;have q5l:=q5.lt;have q5n:=Nat.ne_of_lt q5l;have q5m:=Nat.ne_of_gt q5l));(try (have q6:=aL.az q2 bM;(try simp at q6);obtain⟨q6a,q6b,q6c,q6d⟩:=q6.two;have q6l:=q6.lt;have q6n:=Nat.ne_of_lt q6l;have q6m:=Nat.ne_of_gt q6l));(try (have q7:=aL.az (aL.alloc q1 _) bM;(try simp at q7);obtain⟨q7a,q7b,q7c,q7d⟩:=q7.two;have q7l:=q7.lt;have q7n:=Nat.ne_of_lt q7l;have q7m:=Nat.ne_of_gt q7l)))
   | fail)
  all_goals
   go_wp2
   go_meet
   refine⟨_,_,s1,p1,n1,k1,s2,p2,n2,k2,rfl,rfl,?_,?_,Bw,ym,?_⟩
   ·(with_reducible (repeat (first|assumption|exact aL.newAt (by first|rfl|(simp;done)) _ _|refine aL.alloc ?_ _|refine aL.drew ?_|refine aL.bS (u:=.bool false) (v:=.slice none 0 0) ?_ _ _|refine aL.dW ?_ (by first|omega|(simp;omega)) _ _|refine aL.az ?_ (by assumption))))
   ·(with_reducible (repeat (first|assumption|exact aL.newAt (by first|rfl|(simp;done)) _ _|refine aL.alloc ?_ _|refine aL.drew ?_|refine aL.bS (u:=.bool false) (v:=.slice none 0 0) ?_ _ _|refine aL.dW ?_ (by first|omega|(simp;omega)) _ _|refine aL.az ?_ (by assumption))))
   ·exact iw
 case rest=>
  obtain⟨g,h,s1,p1,n1,k1,s2,p2,n2,k2,rfl,rfl,B5,B6,Bw,ym,Bx⟩:=hcut
  obtain⟨nP,sR,hX⟩:=Bw.parts
  obtain⟨DC,qe,hY⟩:=ym.parts
  have B3:=b3.az Bx
  have lZ:ax w wc:=mK.aH Bx
  have HR1:=Lib.hid (sR.below lZ)
  have HR2:=Lib.hid (qe.below lZ)
  have HN1:=Lib.hid nP
  have HN2:=Lib.hid DC
  have HX:=Lib.hid hX
  have HY:=Lib.hid hY
  have hm1:n1<=536870912:=by omega
  have hm2:n2<=536870912:=by omega
  clear c1 c2 c3 c4 c5 c6 f5 f6 b1 b2 b3 Bx mK Bw ym sR qe hX hY nP DC HS
  obtain⟨c1,c2,_,_⟩:=B5.two
  obtain⟨c3,c4,_,_⟩:=B6.two
  obtain⟨c5,c6,f5,f6⟩:=B3.two
  have hg:g≠w.heap.size+1+1:=λe=>by subst e;have:=(show wc.heap[_]? =_ from B5).symm.trans B3;simp at this
  have hh:h≠w.heap.size+1+1:=λe=>by subst e;have:=(show wc.heap[_]? =_ from B6).symm.trans B3;simp at this
  have HS:=Lib.hid (λw' (hk:aD wc (w.heap.size+1+1) w')=>And.intro (hk.cells B5 hg) (hk.cells B6 hh))
  go_wp2_with fail
  go_region_held3 (λw'=>(w'.cell? ⟨g,0,none⟩=some (.bool s1)/\w'.cell? ⟨g,1,none⟩=some (.slice p1 n1 k1))/\w'.cell? ⟨h,0,none⟩=some (.bool s2)/\w'.cell? ⟨h,1,none⟩=some (.slice p2 n2 k2)) ((refine HS.out _ ?_;(with_reducible (repeat (first|exact aD.refl _ _|refine aD.drew ?_|refine aD.drewN ?_ _|refine aD.alloc ?_ _|refine aD.set ?_ _|refine aD.aH ?_ (by assumption)|refine aD.oi ?_ (by first|omega|(simp;done)|(simp;omega)) _))))) (first
   | (go_at_call 167;refine (LG _ _ n1 n2 _ _ _ (HR1.out.below (ax.refl wc).drew) (HR2.out.below (ax.refl wc).drew) (aA _) (aA _) hm1 hm2).mono ?_;rintro e w1 ⟨v1,rfl,tE,bl⟩;replace bl:ax _ w1:=bl;rw[ak,ak] at tE;obtain⟨q1,l1,rfl,_,_,_⟩:=Own.form tE)
   | (go_at_call 146;refine (fK _ _ _ _ _).mono ?_;rintro e w3 ⟨sg,rfl,AL,dU⟩;obtain⟨e5,e6,g5,g6⟩:=(aL.az (w':=w3) B3 iw).two)
   | fail)
  have FC:=(aL.az (w':=w3) B3 iw)
  have FB:ax w w3:=iw
  generalize hL:(limbs (X.natAbs*Y.natAbs)).length=L at*
  have HL:=Lib.hid hL
  have HO:=Lib.hid (Own.bS (Own.below tE dU) FC cH (.bool sg) (.slice q1 L l1))
  clear tE hL
  have Dy:=FC.bS (.bool (sg)) (.slice q1 (L) l1)
  have Dz:=ax.bS FB (b:=w.heap.size+1+1) aa (.bool (sg)) (.slice q1 (L) l1)
  go_wp2
  generalize (w3.setCell ⟨w.heap.size+1+1,0,none⟩ (.bool (sg))).setCell ⟨w.heap.size+1+1,1,none⟩ (.slice q1 (L) l1)=wz at*
  obtain⟨DA,DB,_,_⟩:=Dy.two
  refine bodyPost_ret (v:=.agg #[.bool (sg),.slice q1 (L) l1]) (by simp[results,Tryz.results100,go_sem,DA,DB]) rfl (bK.out _ _ ?_)
  rw[AL.out]
  refine⟨_,rfl,aF.of (m:=X.natAbs*Y.natAbs) (by rw[HL.out];exact Own.mono HO.out lZ.size) HL.out.symm _ ?_,Dz⟩
  rw[HX.out,HY.out]
  cases s1 <;> cases s2 <;> simp[Int.neg_mul,Int.mul_neg]
end
section
open Go.RowKit
theorem zC (s:Bool) (p:Option Addr) (n c:Nat) (w:World):(Instr.field 246 (.agg #[.bool s,.slice p n c]) 0).run Tryz.prog w=.ok (.agg #[.bool s,.slice p n c]) w:=by kernel_rfl
theorem zD (s:Bool) (p:Option Addr) (n c:Nat) (w:World):(Instr.field 25 (.agg #[.bool s,.slice p n c]) 1).run Tryz.prog w=.ok (.slice p n c) w:=by kernel_rfl
theorem Mv (v:Value) (X:Int) (j:Nat) (w:World) (hv:cz w v X j) (hj:j<=1073741824):
  Calls Tryz.prog 165 #[v] w λe w'=>∃ r,e=.returned r/\aF w' w.heap.size r (-X)/\ax w w':=by
 obtain⟨s,p,n,c,rfl⟩:=hv.form
 refine aV λR' bK=> ?_
 obtain⟨b1,b2,mK⟩:=mQ w 25 25 #[.bool s,.slice p n c] #[.bool false,.slice none 0 0]
 have rj:=hv.len
 have HV:=Lib.hid hv
 have hsz:w.heap.size+2<=((w.alloc (.cells #[.bool s,.slice p n c] 25)).alloc (.cells #[.bool false,.slice none 0 0] 25)).heap.size:=by simp
 clear hv
 go_enter Tryz.func165,Tryz.ntmps165
 go_wp2_with fail
 generalize (w.alloc _).alloc _=W at*
 refine (gO _ X j w _ HV.out iw).mono ?_
 rintro e w1 ⟨v1,rfl,uz,bl⟩
 go_wp2_with fail
 refine (xn _ X _ (uz.az iw)).mono ?_
 rintro e w2 ⟨v2,rfl,hi2,bM⟩
 obtain⟨s2,p2,n2,k2,rfl⟩:=hi2.gZ
 obtain⟨DC,qe,_⟩:=hi2.parts
 have hm2:n2<=1073741824:=by rw[DC,Int.natAbs_neg];omega
 have HN2:=Lib.hid DC
 have HI2:=Lib.hid hi2
 have HR2:=Lib.hid qe
 clear hi2 DC qe uz
 go_wp2_with fail
 have B5:=aL.new w2 246 #[.bool s2,.slice p2 n2 k2]
 have hbT:ax w2 (w2.alloc (.cells #[.bool s2,.slice p2 n2 k2] 246)):=(ax.refl w2).alloc _
 have B2:=((b2.az bl).az bM).az hbT
 have hlt:=b2.lt
 have sS:=bl.size
 have hbs2:=bM.size
 have hne:w2.heap.size≠w.heap.size+1:=by omega
 generalize w2.alloc _=T at*
 have HS:=Lib.hid (λw' (hk:aD T (w.heap.size+1) w')=>hk.cells B5 hne)
 obtain⟨c1,c2,_,_⟩:=B5.two
 obtain⟨c5,c6,f5,f6⟩:=B2.two
 go_region_held3 (λw'=>w'.cell? ⟨w2.heap.size,0,none⟩=some (.bool s2)/\w'.cell? ⟨w2.heap.size,1,none⟩=some (.slice p2 n2 k2)) ((refine HS.out _ ?_;(with_reducible (repeat (first|exact aD.refl _ _|refine aD.drew ?_|refine aD.drewN ?_ _|refine aD.alloc ?_ _|refine aD.set ?_ _|refine aD.aH ?_ (by assumption)|refine aD.oi ?_ (by first|omega|(simp;done)|(simp;omega)) _))))) (first
  | (go_at_call 151;refine (kh _ n2 _ _ (Rd.below (HR2.out.below hbT) (ax.refl T).drew) hm2).mono ?_;rintro e w3 ⟨v3,rfl,Mt,dU⟩;replace dU:ax _ w3:=dU;obtain⟨q3,l3,rfl,_,_,_⟩:=Own.form Mt;obtain⟨e5,e6,g5,g6⟩:=(aL.az (w':=w3) B2 iw).two)
  | fail)
 have FC:=(aL.az (w':=w3) B2 iw)
 have FB:ax w w3:=iw
 have FT:ax w T:=iw
 have HO:=Lib.hid (Own.bS Mt FC cH (.bool s2) (.slice q3 n2 l3))
 clear Mt
 have Dy:=FC.bS (.bool (s2)) (.slice q3 (n2) l3)
 have Dz:=ax.bS FB (b:=w.heap.size+1) aa (.bool (s2)) (.slice q3 (n2) l3)
 go_wp2
 generalize (w3.setCell ⟨w.heap.size+1,0,none⟩ (.bool (s2))).setCell ⟨w.heap.size+1,1,none⟩ (.slice q3 (n2) l3)=wz at*
 obtain⟨DA,DB,_,_⟩:=Dy.two
 refine bodyPost_ret (v:=.agg #[.bool (s2),.slice q3 (n2) l3]) (by simp[results,Tryz.results165,go_sem,DA,DB]) rfl (bK.out _ _ ?_)
 exact⟨_,rfl,HI2.out.own (Own.mono HO.out FT.size),Dz⟩
theorem pO (v:Value) (X:Int) (j:Nat) (w:World) (hv:cz w v X j):
  Calls Tryz.prog 84 #[v] w λe w'=>e=.returned (.int .i64 X.sign)/\ax w w':=by
 obtain⟨s,p,n,c,rfl⟩:=hv.form
 refine aV λR' bK=> ?_
 have HV:=Lib.hid hv
 have mK:=(ax.refl w).alloc (.cells #[.bool s,.slice p n c] 25)
 clear hv
 go_enter Tryz.func84,Tryz.ntmps84
 go_wp2_with fail
 generalize w.alloc _=W at*
 refine (gO _ X j w _ HV.out iw).mono ?_
 rintro e w1 ⟨v1,rfl,uz,bl⟩
 obtain⟨s2,p2,n2,k2,rfl⟩:=uz.gZ
 obtain⟨DC,_,hX⟩:=uz.parts
 have lZ:ax w w1:=mK.aH bl
 have AL:=uz.LS
 clear uz
 cases s2
 ·by_cases h0:X=0
  ·subst h0
   have:n2=0:=by rw[DC];simp[bP]
   subst this
   clear DC hX AL
   go_wp2
   exact bK.out _ _ ⟨rfl,lZ.alloc _⟩
  ·have hp:0<n2:=by rw[DC];exact dM aa
   have hs:X.sign=1:=fj (by simp at hX;omega)
   rw[hs] at bK
   clear DC hX AL
   have hpi:(0:Int)<(n2:Int):=by omega
   go_wp2
   exact bK.out _ _ ⟨rfl,lZ.alloc _⟩
 ·have hs:X.sign= -1:=sign_neg (of_decide_eq_true AL.symm)
  rw[hs] at bK
  clear DC hX AL
  go_wp2
  exact bK.out _ _ ⟨rfl,lZ.alloc _⟩
theorem xo (v u:Value) (X Y:Int) (j k:Nat) (w:World) (hv:cz w v X j) (hu:cz w u Y k) (hj:j<=1073741824) (hk:k<=1073741824):
  Calls Tryz.prog 85 #[v,u] w λe w'=>e=.returned (.int .i64 (X-Y).sign)/\ax w w':=by
 obtain⟨s,p,n,c,rfl⟩:=hv.form
 obtain⟨t,q,m,d,rfl⟩:=hu.form
 refine aV λR' bK=> ?_
 obtain⟨b1,b2,mK⟩:=mQ w 25 25 #[.bool s,.slice p n c] #[.bool t,.slice q m d]
 have HV:=Lib.hid (hv.az mK)
 have HU:=Lib.hid (hu.az mK)
 clear hv hu
 go_enter Tryz.func85,Tryz.ntmps85
 go_wp2_with fail
 generalize (w.alloc _).alloc _=W at*
 refine (Mu _ _ X Y j k _ HV.out HU.out hj hk).mono ?_
 rintro e w1 ⟨r,rfl,ho,bl⟩
 go_wp2_with fail
 refine (pO _ (X-Y) _ _ (ho.rd.to (Nat.le_refl _))).mono ?_
 rintro e w2 ⟨rfl,bM⟩
 go_wp2
 exact bK.out _ _ ⟨rfl,(mK.aH bl).aH bM⟩
theorem u64neg {n:Int} (h0:n<0) (h1: -9223372036854775808<=n):IntKind.u64.wrap (-(IntKind.u64.wrap n))=(n.natAbs:Int):=by
 rw[rE,rE];omega
theorem u64pos {n:Int} (h0:0<=n) (h1:n<=9223372036854775807):IntKind.u64.wrap n=(n.natAbs:Int):=by
 rw[rE];omega
theorem uA {a:Nat}:aj [a%4294967296,a/4294967296]=a:=by
 rw[fH,fH,eN];omega
set_option maxRecDepth 100000 in
theorem Ie (n:Int) (w:World) (h0: -9223372036854775808<=n) (h1:n<=9223372036854775807):
  Calls Tryz.prog 88 #[.int .i64 n] w λe w'=>∃ r,e=.returned r/\aF w' w.heap.size r n/\ax w w':=by
 refine aV λR' bK=> ?_
 obtain⟨a,ha⟩:∃ a,a=n.natAbs:=⟨_,rfl⟩
 have HA:=Lib.hid ha
 have ha2:a<18446744073709551616:=by omega
 have ik:=aL.new w 25 #[.bool false,.slice none 0 0]
 have mK:=(ax.refl w).alloc (.cells #[.bool false,.slice none 0 0] 25)
 have hRl:=Rd.lit2 (w:=w.alloc (.cells #[.bool false,.slice none 0 0] 25)) (k:=.u32) (e:=78) (x:=(a:Int)%4294967296) (y:=(a:Int)/4294967296) (a:=a%4294967296) (b:=a/4294967296) aa aa
 rw[World.size_alloc] at hRl
 go_enter Tryz.func88,Tryz.ntmps88
 by_cases hn:n<0
 ·have e1:=u64neg hn h0
  rw[<-ha] at e1
  have HN:=Lib.hid hn
  clear ha
  go_wp2_with fail
  refine (jA _ 2 [a%4294967296,a/4294967296] _ hRl (cL.cons aa (cL.cons aa cL.nil)) aa).mono ?_
  rintro e w1 ⟨v1,rfl,tE,bl⟩
  replace bl:ax _ w1:=bl
  rw[uA] at tE
  obtain⟨p1,k1,rfl,_,_,_⟩:=Own.form tE
  generalize hL:(limbs a).length=L at*
  have HL:=Lib.hid hL
  have FC1:=(ik.alloc (.cells #[.int .u32 ((a:Int)%4294967296),.int .u32 ((a:Int)/4294967296)] 78)).az bl
  have FB1:ax w w1:=(((ax.refl w).alloc _).alloc _).aH bl
  have re:=Lib.hid tE
  clear tE hL bl
  go_wp2_with fail
  refine (fK _ _ _ _ _).mono ?_
  rintro e w3 ⟨sg,rfl,AL,dU⟩
  have FC:=FC1.az dU
  have FB:=FB1.aH dU
  obtain⟨e5,e6,g5,g6⟩:=FC.two
  have HO:=Lib.hid (Own.bS (Own.below re.out dU) FC cH (.bool sg) (.slice p1 L k1))
  clear re FC1
  have Dy:=FC.bS (.bool (sg)) (.slice p1 (L) k1)
  have Dz:=ax.bS FB (b:=w.heap.size) aa (.bool (sg)) (.slice p1 (L) k1)
  go_wp2
  generalize (w3.setCell ⟨w.heap.size,0,none⟩ (.bool (sg))).setCell ⟨w.heap.size,1,none⟩ (.slice p1 (L) k1)=wz at*
  obtain⟨DA,DB,_,_⟩:=Dy.two
  refine bodyPost_ret (v:=.agg #[.bool (sg),.slice p1 (L) k1]) (by simp[results,Tryz.results88,go_sem,DA,DB]) rfl (bK.out _ _ ?_)
  rw[AL.out]
  refine⟨_,rfl,aF.of (m:=a) (by rw[HL.out];exact Own.mono HO.out (by simp;omega)) HL.out.symm _ ?_,Dz⟩
  have:=HN.out
  have:=HA.out
  simp;omega
 ·have e1:=u64pos (by omega:0<=n) h1
  rw[<-ha] at e1
  have HN:=Lib.hid hn
  clear ha
  go_wp2_with fail
  refine (jA _ 2 [a%4294967296,a/4294967296] _ hRl (cL.cons aa (cL.cons aa cL.nil)) aa).mono ?_
  rintro e w1 ⟨v1,rfl,tE,bl⟩
  replace bl:ax _ w1:=bl
  rw[uA] at tE
  obtain⟨p1,k1,rfl,_,_,_⟩:=Own.form tE
  generalize hL:(limbs a).length=L at*
  have HL:=Lib.hid hL
  have FC1:=(ik.alloc (.cells #[.int .u32 ((a:Int)%4294967296),.int .u32 ((a:Int)/4294967296)] 78)).az bl
  have FB1:ax w w1:=(((ax.refl w).alloc _).alloc _).aH bl
  have re:=Lib.hid tE
  clear tE hL bl
  go_wp2_with fail
  refine (fK _ _ _ _ _).mono ?_
  rintro e w3 ⟨sg,rfl,AL,dU⟩
  have FC:=FC1.az dU
  have FB:=FB1.aH dU
  obtain⟨e5,e6,g5,g6⟩:=FC.two
  have HO:=Lib.hid (Own.bS (Own.below re.out dU) FC cH (.bool sg) (.slice p1 L k1))
  clear re FC1
  have Dy:=FC.bS (.bool (sg)) (.slice p1 (L) k1)
  have Dz:=ax.bS FB (b:=w.heap.size) aa (.bool (sg)) (.slice p1 (L) k1)
  go_wp2
  generalize (w3.setCell ⟨w.heap.size,0,none⟩ (.bool (sg))).setCell ⟨w.heap.size,1,none⟩ (.slice p1 (L) k1)=wz at*
  obtain⟨DA,DB,_,_⟩:=Dy.two
  refine bodyPost_ret (v:=.agg #[.bool (sg),.slice p1 (L) k1]) (by simp[results,Tryz.results88,go_sem,DA,DB]) rfl (bK.out _ _ ?_)
  rw[AL.out]
  refine⟨_,rfl,aF.of (m:=a) (by rw[HL.out];exact Own.mono HO.out (by simp;omega)) HL.out.symm _ ?_,Dz⟩
  have:=HN.out
  have:=HA.out
  simp;omega
end
section
open Go.RowKit
def qO (rows:List (List Nat)):Nat:=rows.foldl (λa r=>Nat.gcd a (aj r)) 0
theorem JM (rows:List (List Nat)) (r:List Nat):qO (rows++[r])=Nat.gcd (qO rows) (aj r):=by simp[qO,List.foldl_append]
theorem Mw {x y:Nat}:Nat.gcd y (x%y)=Nat.gcd x y:=by rw[Nat.gcd_comm,<-Nat.gcd_rec,Nat.gcd_comm]
def GcdOut (w:World) (B:Nat) (rows:List (List Nat)) (g:Nat) (av iv:Value) (wr:World):Prop:=
 ∃ k,k<=rows.length/\g=rows.length-k/\iv=.int .i64 (k:Int)/\wr.ownsRow B 78 1 av (limbs (qO (rows.take k))).length (ints .u32 (limbs (qO (rows.take k))))/\(limbs (qO (rows.take k))).length<=536870912/\Below B w wr
def GcdIn (w:World) (B G:Nat) (g:Nat) (av bv:Value) (wr:World):Prop:=
 ∃ x,Nat.gcd x g=G/\wr.ownsRow B 78 1 av (limbs x).length (ints .u32 (limbs x))/\wr.ownsRow B 78 1 bv (limbs g).length (ints .u32 (limbs g))/\(limbs x).length<=536870912/\(limbs g).length<=536870912/\Below B w wr
set_option maxRecDepth 100000 in
theorem Mx (va:Value) (rows:List (List Nat)) (w:World) (hr:iC w va rows) (hx:∀ xs∈rows,cL xs/\xs.length<=536870912) (hn:rows.length<=1048576):
  Calls Tryz.prog 147 #[va] w λe w'=>∃ v',e=.returned v'/\w'.ownsRow w.heap.size 78 1 v' (limbs (qO rows)).length (ints .u32 (limbs (qO rows)))/\Below w.heap.size w w':=by
 obtain⟨p,c,rfl,gg,gF⟩:=hr.form
 have Hr:=Lib.hid hr
 have HL:=Lib.hid hx
 obtain⟨B,hB⟩:∃ B,B=w.heap.size:=⟨_,rfl⟩
 have HB:=Lib.hid hB
 obtain⟨N,hN⟩:∃ N,N=rows.length:=⟨_,rfl⟩
 rw[<-hN] at gg hn ⊢
 have HN:=Lib.hid hN
 rw[<-hB]
 clear hx hr hB hN
 refine aV λR' bK=> ?_
 go_enter Tryz.func147,Tryz.ntmps147
 go_wp2
 go_loopg [3,11] N (λg av iv wr=>GcdOut w B rows g av iv wr)
 case atStart=>exact⟨0,Nat.zero_le _,by rw[HN.out];rfl,rfl,by simp[qO,bP];exact World.ownsRow_nil _ _ _ _,by simp[qO,bP],Below.refl _ _⟩
 case round=>
  obtain⟨k,hk,hgk,rfl,aI,hlen,hb⟩:=hrel
  have HO:=Lib.hid aI
  have gM:=Lib.hid hb
  have HGK:=Lib.hid hgk
  have HLEN:=Lib.hid hlen
  rw[<-HN.out] at hk
  clear aI hb hgk hlen
  by_cases nO:k<N
  ·obtain⟨b1,o1,u,xs,rfl,fP,nN,uR⟩:=((Hr.out.below (by have:=gM.out;rwa [HB.out] at this)).at (k:=k) (by rw[<-HN.out];exact nO))
   have vn:=Lib.hid fP
   have HRU:=Lib.hid uR
   clear fP uR
   have sS:B<=wr.heap.size:=by have:=gM.out.size;have:=HB.out;omega
   obtain⟨yu,rQ⟩:=HL.out xs (List.mem_of_getElem? vn.out)
   obtain⟨a,ha⟩:∃ a,a=qO (rows.take k):=⟨_,rfl⟩
   obtain⟨y,hy⟩:∃ y,y=aj xs:=⟨_,rfl⟩
   have gX:(limbs y).length<=536870912:=by rw[hy];exact Nat.le_trans (iB yu) rQ
   have HL1:=Lib.hid yu
   have HL2:=Lib.hid rQ
   have HYL:=Lib.hid gX
   have HG:Hid (Nat.gcd a y=qO (rows.take (k+1))):=by show _=_;rw[bG vn.out,JM,ha,hy]
   have HA:=Lib.hid ha
   have HY:=Lib.hid hy
   clear ha hy yu rQ gX
   go_wp2_with fail
   refine (jA _ _ xs _ HRU.out HL1.out (by have:=HL2.out;omega)).mono ?_
   rintro e w2 ⟨v',rfl,kD,bM⟩
   rw[<-HY.out] at kD
   have tE:=Own.below HO.out bM
   rw[<-HA.out] at tE
   have re:=Lib.hid tE
   clear tE
   have nK:=Lib.hid (Own.mono kD sS)
   have ug:=Lib.hid (gM.out.trans (bM.mono sS))
   clear kD bM nN
   go_wp2_with fail
   go_loopg [3,5] y (λg av bv wr=>GcdIn w B (Nat.gcd a y) g av bv wr)
   case atStart=>exact⟨a,rfl,re.out,nK.out,by rw[HA.out];exact HLEN.out,HYL.out,ug.out⟩
   case round=>
    obtain⟨x,Hd,hox,hoy,rj,nM,lZ⟩:=hrel
    have HXY:=Lib.hid Hd
    have HOX:=Lib.hid hox
    have HOY:=Lib.hid hoy
    have HLX:=Lib.hid rj
    have HLY:=Lib.hid nM
    have HBX:=Lib.hid lZ
    obtain⟨py,cy,rfl,_,_,_⟩:=Own.form hoy
    clear Hd hox hoy rj nM lZ
    by_cases My:gk=0
    ·subst My
     have hl0:(limbs 0).length=0:=by rw[bP];rfl
     rw[hl0]
     have hxg:x=qO (rows.take (k+1)):=by rw[<-HG.out,<-HXY.out,Nat.gcd_zero_right]
     have HXG:=Lib.hid hxg
     clear hxg hl0
     go_wp2_with fail
     go_roundg (N-(k+1))
     case measure=>have:=HGK.out;have:=HN.out;omega
     case rel=>exact⟨k+1,by rw[<-HN.out];omega,by rw[HN.out],by go_num,by rw[<-HXG.out];exact HOX.out,by rw[<-HXG.out];exact HLX.out,HBX.out⟩
    ·have hp:(0:Int)<((limbs gk).length:Int):=by have:=dM My;omega
     have HG0:=Lib.hid My
     obtain⟨L,hL⟩:∃ L,L=(limbs gk).length:=⟨_,rfl⟩
     rw[<-hL] at hp ⊢
     have HL:=Lib.hid hL
     have sP:B<=wr.heap.size:=by have:=HBX.out.size;have:=HB.out;omega
     clear My hL
     go_wp2_with fail
     refine (uf _ _ _ _ _ _ _ (Rd.own HOX.out) (by rw[HL.out];exact Rd.own HOY.out) (aA _) (aA _) HLX.out HLY.out).mono ?_
     rintro e w3 ⟨⟨h,rfl⟩|⟨h,vq,vr,rfl,CI,sQ⟩,dU⟩
     ·exact absurd (by rw[ak] at h;exact h) HG0.out
     rw[ak,ak] at sQ
     have hlt:x%gk<gk:=Nat.mod_lt _ (Nat.pos_iff_ne_zero.2 HG0.out)
     have HLT:=Lib.hid hlt
     have HOR:=Lib.hid (Own.mono sQ sP)
     have HOG:=Lib.hid (Own.below HOY.out dU)
     have KW:=Lib.hid (HBX.out.trans (dU.mono sP))
     clear CI sQ dU h hlt
     go_wp2_with fail
     go_roundg (x%gk)
     case measure=>exact HLT.out
     case rel=>exact⟨gk,by rw[Mw];exact HXY.out,by rw[HL.out];exact HOG.out,HOR.out,HLY.out,Nat.le_trans (cY (Nat.le_of_lt HLT.out)) HLY.out,KW.out⟩
  ·obtain rfl:k=N:=by omega
   go_wp2_with fail
   refine (kh _ _ _ _ (Rd.own HO.out) (by have:=HLEN.out;omega)).mono ?_
   rintro e w2 ⟨v',rfl,kD,bM⟩
   have sS:B<=wr.heap.size:=by have:=gM.out.size;have:=HB.out;omega
   go_wp2_with fail
   refine bK.out _ _ ⟨_,rfl,?_,gM.out.trans (bM.mono sS)⟩
   have:=Own.mono kD sS
   rwa [List.take_of_length_le (by rw[HN.out];exact Nat.le_refl _)] at this
end
section
open Go.RowKit
theorem Mz (x y:Nat):qO [limbs x,limbs y]=Nat.gcd x y:=by simp[qO,ak]
set_option maxRecDepth 100000 in
theorem DD (v u:Value) (X Y:Int) (j k:Nat) (w:World) (hv:cz w v X j) (hu:cz w u Y k) (hj:j<=536870912) (hk:k<=536870912):
  Calls Tryz.prog 86 #[v,u] w λe w'=>∃ r,e=.returned r/\aF w' w.heap.size r (Int.gcd X Y:Int)/\ax w w':=by
 obtain⟨s,p,n,c,rfl⟩:=hv.form
 obtain⟨t,q,m,d,rfl⟩:=hu.form
 refine aV λR' bK=> ?_
 obtain⟨b1,b2,b3,mK⟩:=mR w 25 25 25 #[.bool s,.slice p n c] #[.bool t,.slice q m d] #[.bool false,.slice none 0 0]
 have rj:=hv.len
 have nM:=hu.len
 have HJ:=Lib.hid (Nat.le_trans rj hj)
 have HK:=Lib.hid (Nat.le_trans nM hk)
 have HV:=Lib.hid hv
 have HU:=Lib.hid hu
 have hsz:w.heap.size+3<=(((w.alloc (.cells #[.bool s,.slice p n c] 25)).alloc (.cells #[.bool t,.slice q m d] 25)).alloc (.cells #[.bool false,.slice none 0 0] 25)).heap.size:=by simp
 clear hv hu hj hk rj nM
 go_enter Tryz.func86,Tryz.ntmps86
 go_wp2_with fail
 generalize ((w.alloc _).alloc _).alloc _=W at*
 have HS:=Lib.hid (λw' (h:aD W (w.heap.size+1+1) w')=>And.intro (h.cells b1 aa) (h.cells b2 aa))
 obtain⟨c1,c2,_,_⟩:=b1.two
 obtain⟨c3,c4,_,_⟩:=b2.two
 obtain⟨c5,c6,f5,f6⟩:=b3.two
 go_region_held3 (λw'=>(w'.cell? ⟨w.heap.size,0,none⟩=some (.bool s)/\w'.cell? ⟨w.heap.size,1,none⟩=some (.slice p n c))/\w'.cell? ⟨w.heap.size+1,0,none⟩=some (.bool t)/\w'.cell? ⟨w.heap.size+1,1,none⟩=some (.slice q m d)) ((refine HS.out _ ?_;(with_reducible (repeat (first|exact aD.refl _ _|refine aD.drew ?_|refine aD.drewN ?_ _|refine aD.alloc ?_ _|refine aD.set ?_ _|refine aD.aH ?_ (by assumption)|refine aD.oi ?_ (by first|omega|(simp;done)|(simp;omega)) _))))) (first
  | (go_at_call_of 144 (Value.slice p n c);refine (gO _ X j w _ HV.out iw).mono ?_;rintro e w1 ⟨u1,rfl,Bw,bl⟩;obtain⟨s1,p1,n1,k1,rfl⟩:=Bw.gZ;have hf1:=zC s1 p1 n1 k1;have hf2:=zD s1 p1 n1 k1)
  | (go_at_call_of 144 (Value.slice q m d);refine (gO _ Y k w _ HU.out iw).mono ?_;rintro e w2 ⟨u2,rfl,ym,bM⟩;obtain⟨s2,p2,n2,k2,rfl⟩:=ym.gZ;have hf3:=zC s2 p2 n2 k2;have hf4:=zD s2 p2 n2 k2;have HP1:=Lib.hid Bw.parts;have HP2:=Lib.hid ym.parts)
  | (go_at_call 147;refine (Mx _ [limbs X.natAbs,limbs Y.natAbs] _ (iC.two (Hi rfl) (by rw[<-HP1.out.1];exact HP1.out.2.1.below (by show ax _ _;exact iw)) (by rw[<-HP2.out.1];exact HP2.out.2.1.below (by show ax _ _;exact iw))) (λxs hx=>by rcases List.mem_cons.1 hx with rfl|hx;exact⟨aA _,HJ.out⟩;obtain rfl:=List.mem_singleton.1 hx;exact⟨aA _,HK.out⟩) (by show 2<=1048576;omega)).mono ?_;rintro e w3 ⟨v3,rfl,Mt,dU⟩;replace dU:ax _ w3:=dU;rw[Mz] at Mt;obtain⟨p3,k3,rfl,_,_,_⟩:=Own.form Mt)
  | (go_at_call 146;refine (fK _ _ _ _ _).mono ?_;rintro e w4 ⟨sg,rfl,AL,iX⟩;obtain⟨e5,e6,g5,g6⟩:=(aL.az (w':=w4) b3 iw).two)
  | fail)
 have FC:=(aL.az (w':=w4) b3 iw)
 have FB:ax w w4:=iw
 have FZ:ax w (w2.alloc (.cells #[.slice p1 n1 k1,.slice p2 n2 k2] 23)):=iw
 generalize hL:(limbs (X.natAbs.gcd Y.natAbs)).length=L at*
 have HL:=Lib.hid hL
 have HO:=Lib.hid (Own.bS (Own.below Mt iX) FC cH (.bool sg) (.slice p3 L k3))
 clear Mt hL
 have Dy:=FC.bS (.bool (sg)) (.slice p3 (L) k3)
 have Dz:=ax.bS FB (b:=w.heap.size+1+1) aa (.bool (sg)) (.slice p3 (L) k3)
 go_wp2
 generalize (w4.setCell ⟨w.heap.size+1+1,0,none⟩ (.bool (sg))).setCell ⟨w.heap.size+1+1,1,none⟩ (.slice p3 (L) k3)=wz at*
 obtain⟨DA,DB,_,_⟩:=Dy.two
 refine bodyPost_ret (v:=.agg #[.bool (sg),.slice p3 (L) k3]) (by simp[results,Tryz.results86,go_sem,DA,DB]) rfl (bK.out _ _ ?_)
 rw[AL.out]
 refine⟨_,rfl,aF.of (m:=X.natAbs.gcd Y.natAbs) (by rw[HL.out];exact Own.mono HO.out FZ.size) HL.out.symm _ ?_,Dz⟩
 simp[Int.gcd]
end
section
open Go.RowKit
theorem boxes4 (w:World) (t t' ET t3:TypeId) (cs jg qf cs3:Array Value):aL ((((w.alloc (.cells cs t)).alloc (.cells jg t')).alloc (.cells qf ET)).alloc (.cells cs3 t3)) w.heap.size t cs/\aL ((((w.alloc (.cells cs t)).alloc (.cells jg t')).alloc (.cells qf ET)).alloc (.cells cs3 t3)) (w.heap.size+1) t' jg/\
  aL ((((w.alloc (.cells cs t)).alloc (.cells jg t')).alloc (.cells qf ET)).alloc (.cells cs3 t3)) (w.heap.size+2) ET qf/\aL ((((w.alloc (.cells cs t)).alloc (.cells jg t')).alloc (.cells qf ET)).alloc (.cells cs3 t3)) (w.heap.size+3) t3 cs3/\
  ax w ((((w.alloc (.cells cs t)).alloc (.cells jg t')).alloc (.cells qf ET)).alloc (.cells cs3 t3)):=
 ⟨(mR w t t' ET cs jg qf).1.alloc _,(mR w t t' ET cs jg qf).2.1.alloc _,(mR w t t' ET cs jg qf).2.2.1.alloc _,aL.newAt ew _ _,(mR w t t' ET cs jg qf).2.2.2.alloc _⟩
def xp (w w':World) (X Y:Int) (e:Ending):Prop:=
 (Y=0/\∃ v u,e=.returned (.tuple #[v,u,.int .i64 20])/\aF w' w.heap.size v 0/\aF w' w.heap.size u 0)\/
 (Y≠0/\∃ v u,e=.returned (.tuple #[v,u,.int .i64 0])/\aF w' w.heap.size v (X.fdiv Y)/\aF w' w.heap.size u (X.fmod Y))
def MA (a b:Nat) (s t:Bool) (M R:Nat):Prop:=((s=t\/a%b=0)/\M=a/b/\R=a%b)\/(s≠t/\a%b≠0/\M=a/b+1/\R=b-a%b)
theorem pP {X Y:Int} {a b M R:Nat} {s t:Bool} (hX:X=if s=true then-(a:Int) else a) (hY:Y=if t=true then-(b:Int) else b) (hb:b≠0) (h:MA a b s t M R):
  X.fdiv Y=(if (!(s == t))=true then-(M:Int) else M)/\X.fmod Y=(if t=true then-(R:Int) else R):=by
 unfold MA at h
 have e:=Nat.div_add_mod a b
 have hlt:=Nat.mod_lt a (Nat.pos_of_ne_zero hb)
 generalize a/b=q at*
 generalize a%b=r at*
 have e':(a:Int)=(b:Int)*(q:Int)+(r:Int):=by rw[<-e];simp
 rw[e'] at hX
 have hR:R<=b:=by rcases h with ⟨_,_,rfl⟩|⟨_,_,_,rfl⟩ <;> omega
 cases t
 ·have hp:0<Y:=by simp at hY;omega
  refine (Int.fdiv_fmod_unique hp).2 ?_
  rcases h with ⟨h1,rfl,rfl⟩|⟨h1,h2,rfl,rfl⟩
  ·cases s
   ·simp at hX hY ⊢
    subst hX;subst hY
    omega
   ·simp at h1 hX hY ⊢
    subst hX;subst hY;subst h1
    simp only[Int.mul_neg]
    omega
  ·cases s
   ·exact absurd rfl h1
   ·simp at hX hY ⊢
    subst hX;subst hY
    rw[Int.natCast_sub aa]
    simp only[Int.mul_add,Int.mul_neg,Int.mul_one,Int.neg_add]
    omega
 ·have hp:Y<0:=by simp at hY;omega
  refine (Int.fdiv_fmod_unique' hp).2 ?_
  rcases h with ⟨h1,rfl,rfl⟩|⟨h1,h2,rfl,rfl⟩
  ·cases s
   ·simp at h1 hX hY ⊢
    subst hX;subst hY;subst h1
    simp only[Int.neg_mul_neg]
    omega
   ·simp at hX hY ⊢
    subst hX;subst hY
    simp only[Int.neg_mul]
    omega
  ·cases s
   ·simp at hX hY ⊢
    subst hX;subst hY
    rw[Int.natCast_sub aa]
    simp only[Int.mul_add,Int.neg_mul,Int.mul_neg,Int.mul_one,Int.neg_add,Int.neg_neg]
    omega
   ·exact absurd rfl h1
set_option maxRecDepth 100000 in
theorem ly (v u:Value) (X Y:Int) (j k:Nat) (w:World) (hv:cz w v X j) (hu:cz w u Y k) (hj:j<=536870912) (hk:k<=536870912):
  Calls Tryz.prog 208 #[v,u] w λe w'=>xp w w' X Y e/\ax w w':=by
 obtain⟨s,p,n,c,rfl⟩:=hv.form
 obtain⟨t,q,m,d,rfl⟩:=hu.form
 refine aV λR' bK=> ?_
 obtain⟨b1,b2,b3,b4,mK⟩:=boxes4 w 25 25 25 25 #[.bool s,.slice p n c] #[.bool t,.slice q m d] #[.bool false,.slice none 0 0] #[.bool false,.slice none 0 0]
 have rj:=hv.len
 have nM:=hu.len
 have HJ:=Lib.hid (Nat.le_trans rj hj)
 have HK:=Lib.hid (Nat.le_trans nM hk)
 have HV:=Lib.hid hv
 have HU:=Lib.hid hu
 have hsz:w.heap.size+4<=((((w.alloc (.cells #[.bool s,.slice p n c] 25)).alloc (.cells #[.bool t,.slice q m d] 25)).alloc (.cells #[.bool false,.slice none 0 0] 25)).alloc (.cells #[.bool false,.slice none 0 0] 25)).heap.size:=by simp
 clear hv hu hj hk rj nM
 go_enter Tryz.func208,Tryz.ntmps208
 go_wp2_with fail
 generalize (((w.alloc _).alloc _).alloc _).alloc _=W at*
 go_cut [7,8] (λx5 x6 wc=>Ic w W wc 246 X Y x5 x6)
 case first=>
  have HS:=Lib.hid (λw' (h:aD W (w.heap.size+1+1) w')=>And.intro (h.cells b1 aa) (h.cells b2 aa))
  obtain⟨c1,c2,_,_⟩:=b1.two
  obtain⟨c3,c4,_,_⟩:=b2.two
  go_region_held3 (λw'=>(w'.cell? ⟨w.heap.size,0,none⟩=some (.bool s)/\w'.cell? ⟨w.heap.size,1,none⟩=some (.slice p n c))/\w'.cell? ⟨w.heap.size+1,0,none⟩=some (.bool t)/\w'.cell? ⟨w.heap.size+1,1,none⟩=some (.slice q m d)) ((refine HS.out _ ?_;(with_reducible (repeat (first|exact aD.refl _ _|refine aD.drew ?_|refine aD.drewN ?_ _|refine aD.alloc ?_ _|refine aD.set ?_ _|refine aD.aH ?_ (by assumption)|refine aD.oi ?_ (by first|omega|(simp;done)|(simp;omega)) _))))) (first
   | (go_at_call_of 144 (Value.slice p n c);refine (gO _ X j w _ HV.out iw).mono ?_;rintro e w1 ⟨u1,rfl,Bw,bl⟩;obtain⟨s1,p1,n1,k1,rfl⟩:=Bw.gZ;have Mo:=bl.size;(try simp at Mo);(try (have q1:=aL.az (aL.drew (aL.new _ _ #[_,_])) bl;(try simp at q1);obtain⟨q1a,q1b,q1c,q1d⟩:=q1.two;have q1l:=q1.lt;have q1n:=Nat.ne_of_lt q1l;have q1m:=Nat.ne_of_gt q1l));(try (have q2:=aL.az (aL.drew (aL.alloc (aL.new _ _ #[_,_]) _)) bl;(try simp at q2);obtain⟨q2a,q2b,q2c,q2d⟩:=q2.two;have q2l:=q2.lt;have q2n:=Nat.ne_of_lt q2l;have q2m:=Nat.ne_of_gt q2l)))
   | (go_at_call_of 144 (Value.slice q m d);refine (gO _ Y k w _ HU.out iw).mono ?_;rintro e w2 ⟨u2,rfl,ym,bM⟩;obtain⟨s2,p2,n2,k2,rfl⟩:=ym.gZ;have hs2:=bM.size;(try simp at hs2);(try (have q3:=aL.az (aL.new _ _ #[_,_]) bM;(try simp at q3);obtain⟨q3a,q3b,q3c,q3d⟩:=q3.two;have q3l:=q3.lt;have q3n:=Nat.ne_of_lt q3l;have q3m:=Nat.ne_of_gt q3l));(try (have q4:=aL.az (aL.alloc (aL.new _ _ #[_,_]) _) bM;(try simp at q4);obtain⟨q4a,q4b,q4c,q4d⟩:=q4.two;have q4l:=q4.lt;have q4n:=Nat.ne_of_lt q4l;have q4m:=Nat.ne_of_gt q4l));(try (have q5:=aL.az q1 bM;(try simp at q5);obtain⟨q5a,q5b,q5c,q5d⟩:=q5.two;have q5l:=q5.lt;have q5n:=Nat.ne_of_lt q5l;have q5m:=Nat.ne_of_gt q5l));(try (have q6:=aL.az q2 bM;(try simp at q6);obtain⟨q6a,q6b,q6c,q6d⟩:=q6.two;have q6l:=q6.lt;have q6n:=Nat.ne_of_lt q6l;have q6m:=Nat.ne_of_gt q6l));(try (have q7:=aL.az (aL.alloc q1 _) bM;(try simp at q7);obtain⟨q7a,q7b,q7c,q7d⟩:=q7.two;have q7l:=q7.lt;have q7n:=Nat.ne_of_lt q7l;have q7m:=Nat.ne_of_gt q7l)))
   | fail)
  all_goals
   go_wp2
   go_meet
   refine⟨_,_,s1,p1,n1,k1,s2,p2,n2,k2,rfl,rfl,?_,?_,Bw,ym,?_⟩
   ·(with_reducible (repeat (first|assumption|exact aL.newAt (by first|rfl|(simp;done)) _ _|refine aL.alloc ?_ _|refine aL.drew ?_|refine aL.bS (u:=.bool false) (v:=.slice none 0 0) ?_ _ _|refine aL.dW ?_ (by first|omega|(simp;omega)) _ _|refine aL.az ?_ (by assumption))))
   ·(with_reducible (repeat (first|assumption|exact aL.newAt (by first|rfl|(simp;done)) _ _|refine aL.alloc ?_ _|refine aL.drew ?_|refine aL.bS (u:=.bool false) (v:=.slice none 0 0) ?_ _ _|refine aL.dW ?_ (by first|omega|(simp;omega)) _ _|refine aL.az ?_ (by assumption))))
   ·exact iw
 case rest=>
  obtain⟨g,h,s1,p1,n1,k1,s2,p2,n2,k2,rfl,rfl,B5,B6,Bw,ym,Bx⟩:=hcut
  obtain⟨nP,sR,hX⟩:=Bw.parts
  obtain⟨DC,qe,hY⟩:=ym.parts
  have B3:=b3.az Bx
  have B4:=b4.az Bx
  have lZ:ax w wc:=mK.aH Bx
  have HR1:=Lib.hid (sR.below lZ)
  have HR2:=Lib.hid (qe.below lZ)
  have HN1:=Lib.hid nP
  have HN2:=Lib.hid DC
  have HX:=Lib.hid hX
  have HY:=Lib.hid hY
  have HM1:Hid (n1<=536870912):=by show _<=_;rw[nP];exact HJ.out
  have HM2:Hid (n2<=536870912):=by show _<=_;rw[DC];exact HK.out
  have hzs:w.heap.size+4<=wc.heap.size:=Nat.le_trans hsz Bx.size
  clear b1 b2 b3 b4 Bx mK Bw ym sR qe hX hY nP DC hsz
  obtain⟨c1,c2,_,_⟩:=B5.two
  obtain⟨c3,c4,_,_⟩:=B6.two
  go_wp2_with fail
  refine (uf _ _ n1 n2 _ _ _ HR1.out HR2.out (aA _) (aA _) HM1.out HM2.out).mono ?_
  rw[ak,ak]
  rintro e w3 ⟨hd,dU⟩
  replace dU:ax _ w3:=dU
  have F5:=B5.az dU
  have F6:=B6.az dU
  have F3:=B3.az dU
  have F4:=B4.az dU
  have hbw3:=lZ.aH dU
  obtain⟨e1,e2,_,_⟩:=F5.two
  obtain⟨e3,e4,_,_⟩:=F6.two
  obtain⟨e5,e6,f5,f6⟩:=F3.two
  obtain⟨e7,e8,f7,f8⟩:=F4.two
  rcases hd with ⟨h0,rfl⟩|⟨h0,vq,vr,rfl,CI,sQ⟩
  ·have hY0:Y=0:=by have:=HY.out;split at this <;> omega
   have G3:=(F3.bS (.bool false) (.slice none 0 0)).dW (b':=w.heap.size+3) aa (.bool false) (.slice none 0 0)
   have G4:=(F4.dW (b':=w.heap.size+2) aa (.bool false) (.slice none 0 0)).bS (.bool false) (.slice none 0 0)
   have hbz:=(hbw3.bS (b:=w.heap.size+2) aa (.bool false) (.slice none 0 0)).bS (b:=w.heap.size+3) aa (.bool false) (.slice none 0 0)
   clear HX HY HN1 HN2 h0
   go_wp2
   generalize (((w3.setCell ⟨w.heap.size+1+1,0,none⟩ (.bool false)).setCell ⟨w.heap.size+1+1,1,none⟩ (.slice none 0 0)).setCell ⟨w.heap.size+1+1+1,0,none⟩ (.bool false)).setCell ⟨w.heap.size+1+1+1,1,none⟩ (.slice none 0 0)=wz at*
   obtain⟨d1,d2,_,_⟩:=G3.two
   obtain⟨d3,d4,_,_⟩:=G4.two
   exact bodyPost_ret (v:=.tuple #[.agg #[.bool false,.slice none 0 0],.agg #[.bool false,.slice none 0 0],.int .i64 20]) (by simp[results,Tryz.results208,go_sem,d1,d2,d3,d4]) rfl (bK.out _ _ ⟨.inl ⟨hY0,_,_,rfl,aF.zero _ _,aF.zero _ _⟩,hbz⟩)
  ·obtain⟨pq,kq,rfl,_,_,_⟩:=Own.form CI
   obtain⟨pr,kr,rfl,_,_,_⟩:=Own.form sQ
   generalize hlq:(limbs (X.natAbs/Y.natAbs)).length=lq at*
   generalize ER:(limbs (X.natAbs%Y.natAbs)).length=lr at*
   have HLQ:=Lib.hid hlq.symm
   have KT:=Lib.hid ER.symm
   have HOQ:=Lib.hid CI
   have HOR:=Lib.hid sQ
   have H0:=Lib.hid h0
   clear CI sQ hlq ER h0 e2 e6 e8 e5 e7 f5 f6 f7 f8 c1 c2 c3 c4
   by_cases hst:s1=s2
   ·subst hst
    clear e4
    go_wp2_with fail
    have tG:g≠w.heap.size+1+1:=aL.apart F5 F3 cH
    have lS:g≠w.heap.size+1+1+1:=aL.apart F5 F4 cH
    have hh3:h≠w.heap.size+1+1:=aL.apart F6 F3 cH
    have hh4:h≠w.heap.size+1+1+1:=aL.apart F6 F4 cH
    have HS:=Lib.hid (λw' (hk:bd w3 (w.heap.size+1+1) (w.heap.size+1+1+1) w')=>And.intro ((hk.cls F5 tG lS).cell (j:=0) rfl) ((hk.cls F6 hh3 hh4).cell (j:=0) rfl))
    go_region_held3 (λw'=>w'.cell? ⟨g,0,none⟩=some (.bool s1)/\w'.cell? ⟨h,0,none⟩=some (.bool s1)) ((refine HS.out _ ?_;(with_reducible (repeat (first|exact bd.refl _ _ _|refine bd.drew ?_|refine bd.LU ?_ _|refine bd.qg ?_ _|refine bd.aH ?_ (by assumption)))))) (first
     | (go_at_call_of 146 (Value.slice pq lq kq);refine (fK _ _ _ _ _).mono ?_;rintro e w6 ⟨sg,rfl,AL,uT⟩)
     | (go_at_call_of 146 (Value.slice pr lr kr);refine (fK _ _ _ _ _).mono ?_;rintro e w7 ⟨xq,rfl,MB,Ig⟩;obtain⟨i1,i2,i3,i4⟩:=(aL.az (w':=w7) F3 iw).two;obtain⟨j1,j2,j3,j4⟩:=(aL.az (w':=w7) F4 iw).two)
     | fail)
    have E3:=(aL.az (w':=w7) F3 iw)
    have E4:=(aL.az (w':=w7) F4 iw)
    have FW:ax w3 w7:=iw
    have FB:ax w w7:=iw
    have CI:=Own.below (HOQ).out FW
    have sQ:=Own.below (HOR).out FW
    have DF:=(Own.bS (Own.bS CI E3 cH (.bool sg) (.slice pq lq kq)) (E4.dW (b':=w.heap.size+1+1) aa (.bool sg) (.slice pq lq kq)) cH (.bool xq) (.slice pr lr kr))
    have DG:=(Own.bS (Own.bS sQ E3 cH (.bool sg) (.slice pq lq kq)) (E4.dW (b':=w.heap.size+1+1) aa (.bool sg) (.slice pq lq kq)) cH (.bool xq) (.slice pr lr kr))
    have G3:=(E3.bS (.bool sg) (.slice pq lq kq)).dW (b':=w.heap.size+1+1+1) aa (.bool xq) (.slice pr lr kr)
    have G4:=(E4.dW (b':=w.heap.size+1+1) aa (.bool sg) (.slice pq lq kq)).bS (.bool xq) (.slice pr lr kr)
    have hbz:=(FB.bS (b:=w.heap.size+1+1) aa (.bool sg) (.slice pq lq kq)).bS (b:=w.heap.size+1+1+1) aa (.bool xq) (.slice pr lr kr)
    have MC:=Lib.hid DF
    have MD:=Lib.hid DG
    clear CI sQ DF DG
    go_wp2
    generalize (((w7.setCell ⟨w.heap.size+1+1,0,none⟩ (.bool sg)).setCell ⟨w.heap.size+1+1,1,none⟩ (.slice pq lq kq)).setCell ⟨w.heap.size+1+1+1,0,none⟩ (.bool xq)).setCell ⟨w.heap.size+1+1+1,1,none⟩ (.slice pr lr kr)=wz at*
    obtain⟨d1,d2,_,_⟩:=G3.two
    obtain⟨d3,d4,_,_⟩:=G4.two
    have jM:=pP HX.out HY.out H0.out (.inl ⟨.inl rfl,rfl,rfl⟩)
    refine bodyPost_ret (v:=.tuple #[.agg #[.bool sg,.slice pq lq kq],.agg #[.bool xq,.slice pr lr kr],.int .i64 0]) (by simp[results,Tryz.results208,go_sem,d1,d2,d3,d4]) rfl (bK.out _ _ ⟨.inr ⟨by have:=H0.out;omega,_,_,rfl,?_,?_⟩,hbz⟩)
    ·rw[AL.out]
     exact aF.of (by rw[<-(HLQ).out];exact Own.mono MC.out lZ.size) (HLQ).out _ (by simpa using jM.1)
    ·rw[MB.out]
     exact aF.of (by rw[<-(KT).out];exact Own.mono MD.out lZ.size) (KT).out _ (by simpa using jM.2)
   ·obtain rfl:s2= !s1:=by cases s1 <;> cases s2 <;> simp_all
    by_cases sL:X.natAbs%Y.natAbs=0
    ·have hl0:lr=0:=by have:=KT.out;rw[sL,bP] at this;exact this
     have HR0:=Lib.hid sL
     subst hl0
     clear sL hst e4
     go_wp2_with fail
     have tG:g≠w.heap.size+1+1:=aL.apart F5 F3 cH
     have lS:g≠w.heap.size+1+1+1:=aL.apart F5 F4 cH
     have hh3:h≠w.heap.size+1+1:=aL.apart F6 F3 cH
     have hh4:h≠w.heap.size+1+1+1:=aL.apart F6 F4 cH
     have HS:=Lib.hid (λw' (hk:bd w3 (w.heap.size+1+1) (w.heap.size+1+1+1) w')=>And.intro ((hk.cls F5 tG lS).cell (j:=0) rfl) ((hk.cls F6 hh3 hh4).cell (j:=0) rfl))
     go_region_held3 (λw'=>w'.cell? ⟨g,0,none⟩=some (.bool s1)/\w'.cell? ⟨h,0,none⟩=some (.bool (!s1))) ((refine HS.out _ ?_;(with_reducible (repeat (first|exact bd.refl _ _ _|refine bd.drew ?_|refine bd.LU ?_ _|refine bd.qg ?_ _|refine bd.aH ?_ (by assumption)))))) (first
      | (go_at_call_of 146 (Value.slice pq lq kq);refine (fK _ _ _ _ _).mono ?_;rintro e w6 ⟨sg,rfl,AL,uT⟩)
      | (go_at_call_of 146 (Value.slice pr 0 kr);refine (fK _ _ _ _ _).mono ?_;rintro e w7 ⟨xq,rfl,MB,Ig⟩;obtain⟨i1,i2,i3,i4⟩:=(aL.az (w':=w7) F3 iw).two;obtain⟨j1,j2,j3,j4⟩:=(aL.az (w':=w7) F4 iw).two)
      | fail)
     have E3:=(aL.az (w':=w7) F3 iw)
     have E4:=(aL.az (w':=w7) F4 iw)
     have FW:ax w3 w7:=iw
     have FB:ax w w7:=iw
     have CI:=Own.below (HOQ).out FW
     have sQ:=Own.below (HOR).out FW
     have DF:=(Own.bS (Own.bS CI E3 cH (.bool sg) (.slice pq lq kq)) (E4.dW (b':=w.heap.size+1+1) aa (.bool sg) (.slice pq lq kq)) cH (.bool xq) (.slice pr 0 kr))
     have DG:=(Own.bS (Own.bS sQ E3 cH (.bool sg) (.slice pq lq kq)) (E4.dW (b':=w.heap.size+1+1) aa (.bool sg) (.slice pq lq kq)) cH (.bool xq) (.slice pr 0 kr))
     have G3:=(E3.bS (.bool sg) (.slice pq lq kq)).dW (b':=w.heap.size+1+1+1) aa (.bool xq) (.slice pr 0 kr)
     have G4:=(E4.dW (b':=w.heap.size+1+1) aa (.bool sg) (.slice pq lq kq)).bS (.bool xq) (.slice pr 0 kr)
     have hbz:=(FB.bS (b:=w.heap.size+1+1) aa (.bool sg) (.slice pq lq kq)).bS (b:=w.heap.size+1+1+1) aa (.bool xq) (.slice pr 0 kr)
     have MC:=Lib.hid DF
     have MD:=Lib.hid DG
     clear CI sQ DF DG
     go_wp2
     generalize (((w7.setCell ⟨w.heap.size+1+1,0,none⟩ (.bool sg)).setCell ⟨w.heap.size+1+1,1,none⟩ (.slice pq lq kq)).setCell ⟨w.heap.size+1+1+1,0,none⟩ (.bool xq)).setCell ⟨w.heap.size+1+1+1,1,none⟩ (.slice pr 0 kr)=wz at*
     obtain⟨d1,d2,_,_⟩:=G3.two
     obtain⟨d3,d4,_,_⟩:=G4.two
     have jM:=pP HX.out HY.out H0.out (.inl ⟨.inr HR0.out,rfl,rfl⟩)
     refine bodyPost_ret (v:=.tuple #[.agg #[.bool sg,.slice pq lq kq],.agg #[.bool xq,.slice pr 0 kr],.int .i64 0]) (by simp[results,Tryz.results208,go_sem,d1,d2,d3,d4]) rfl (bK.out _ _ ⟨.inr ⟨by have:=H0.out;omega,_,_,rfl,?_,?_⟩,hbz⟩)
     ·rw[AL.out]
      exact aF.of (by rw[<-(HLQ).out];exact Own.mono MC.out lZ.size) (HLQ).out _ (by simpa using jM.1)
     ·rw[MB.out]
      exact aF.of (by rw[<-(KT).out];exact Own.mono MD.out lZ.size) (KT).out _ (by simpa using jM.2)
    ·have hlp:0<lr:=by have:=KT.out;have:=dM sL;omega
     have hpi:(0:Int)<(lr:Int):=by omega
     have HR0:=Lib.hid sL
     have LD:Hid (lq<=536870912):=by show _<=_;rw[HLQ.out];exact Nat.le_trans (cY (Nat.div_le_self _ _)) HJ.out
     clear sL hst
     go_wp2_with fail
     refine (Hg _ _ lq 1 _ [1] _ ((Rd.own HOQ.out).alloc _) (Rd.lit1 rfl) (aA _) (cL.cons aa cL.nil) (by have:=LD.out;omega) aa).mono ?_
     rintro e w4 ⟨v4,rfl,ho4,iX⟩
     replace iX:ax _ w4:=iX
     rw[ak,show aj [1]=1 by rfl] at ho4
     obtain⟨pm,cm,rfl,_,_,_⟩:=Own.form ho4
     generalize hnm:(limbs (X.natAbs/Y.natAbs+1)).length=nm at*
     have Lw:=Lib.hid hnm.symm
     have JN:ax w3 w4:=((ax.refl w3).alloc _).aH iX
     have Jt:=Lib.hid (Own.mono ho4 (show w3.heap.size<=_ by simp))
     have HOR4:=Lib.hid (Own.below HOR.out JN)
     have HY4:=Lib.hid (HR2.out.below (dU.aH JN))
     obtain⟨i1,i2,_,_⟩:=(F6.az JN).two
     clear ho4 hnm iX
     go_wp2_with fail
     refine (Ai _ _ n2 lr _ _ _ HY4.out (Rd.own HOR4.out) (aA _) (aA _) (by have:=HM2.out;omega)).mono ?_
     rintro e w5 ⟨⟨h,_⟩|⟨_,v5,rfl,ho5⟩,kj⟩
     ·rw[ak,ak] at h;exact absurd h (by have:=Nat.mod_lt X.natAbs (Nat.pos_of_ne_zero H0.out);omega)
     replace kj:ax _ w5:=kj
     rw[ak,ak] at ho5
     obtain⟨pn,cn,rfl,_,_,_⟩:=Own.form ho5
     generalize hnn:(limbs (Y.natAbs-X.natAbs%Y.natAbs)).length=nn at*
     have HLN:=Lib.hid hnn.symm
     have JO:ax w3 w5:=JN.aH kj
     have HOM:=Lib.hid (Own.mono (Own.below Jt.out kj) dU.size)
     have HON:=Lib.hid (Own.mono ho5 (Nat.le_trans dU.size JN.size))
     have T3:=F3.az JO
     have T4:=F4.az JO
     have T5:=F5.az JO
     have T6:=F6.az JO
     have hbw5:=hbw3.aH JO
     clear ho5 hnn kj F3 F4 F5 F6 JN JO dU hbw3 HOQ HOR Jt HOR4 HY4 i1 i2
     obtain⟨e1,_,_,_⟩:=T5.two
     obtain⟨e3,_,_,_⟩:=T6.two
     go_wp2_with fail
     have tG:g≠w.heap.size+1+1:=aL.apart T5 T3 cH
     have lS:g≠w.heap.size+1+1+1:=aL.apart T5 T4 cH
     have hh3:h≠w.heap.size+1+1:=aL.apart T6 T3 cH
     have hh4:h≠w.heap.size+1+1+1:=aL.apart T6 T4 cH
     have HS:=Lib.hid (λw' (hk:bd w5 (w.heap.size+1+1) (w.heap.size+1+1+1) w')=>And.intro ((hk.cls T5 tG lS).cell (j:=0) rfl) ((hk.cls T6 hh3 hh4).cell (j:=0) rfl))
     go_region_held3 (λw'=>w'.cell? ⟨g,0,none⟩=some (.bool s1)/\w'.cell? ⟨h,0,none⟩=some (.bool (!s1))) ((refine HS.out _ ?_;(with_reducible (repeat (first|exact bd.refl _ _ _|refine bd.drew ?_|refine bd.LU ?_ _|refine bd.qg ?_ _|refine bd.aH ?_ (by assumption)))))) (first
      | (go_at_call_of 146 (Value.slice pm nm cm);refine (fK _ _ _ _ _).mono ?_;rintro e w6 ⟨sg,rfl,AL,uT⟩)
      | (go_at_call_of 146 (Value.slice pn nn cn);refine (fK _ _ _ _ _).mono ?_;rintro e w7 ⟨xq,rfl,MB,Ig⟩;obtain⟨i1,i2,i3,i4⟩:=(aL.az (w':=w7) T3 iw).two;obtain⟨j1,j2,j3,j4⟩:=(aL.az (w':=w7) T4 iw).two)
      | fail)
     have E3:=(aL.az (w':=w7) T3 iw)
     have E4:=(aL.az (w':=w7) T4 iw)
     have FW:ax w5 w7:=iw
     have FB:ax w w7:=iw
     have CI:=Own.below (HOM).out FW
     have sQ:=Own.below (HON).out FW
     have DF:=(Own.bS (Own.bS CI E3 cH (.bool sg) (.slice pm nm cm)) (E4.dW (b':=w.heap.size+1+1) aa (.bool sg) (.slice pm nm cm)) cH (.bool xq) (.slice pn nn cn))
     have DG:=(Own.bS (Own.bS sQ E3 cH (.bool sg) (.slice pm nm cm)) (E4.dW (b':=w.heap.size+1+1) aa (.bool sg) (.slice pm nm cm)) cH (.bool xq) (.slice pn nn cn))
     have G3:=(E3.bS (.bool sg) (.slice pm nm cm)).dW (b':=w.heap.size+1+1+1) aa (.bool xq) (.slice pn nn cn)
     have G4:=(E4.dW (b':=w.heap.size+1+1) aa (.bool sg) (.slice pm nm cm)).bS (.bool xq) (.slice pn nn cn)
     have hbz:=(FB.bS (b:=w.heap.size+1+1) aa (.bool sg) (.slice pm nm cm)).bS (b:=w.heap.size+1+1+1) aa (.bool xq) (.slice pn nn cn)
     have MC:=Lib.hid DF
     have MD:=Lib.hid DG
     clear CI sQ DF DG
     go_wp2
     generalize (((w7.setCell ⟨w.heap.size+1+1,0,none⟩ (.bool sg)).setCell ⟨w.heap.size+1+1,1,none⟩ (.slice pm nm cm)).setCell ⟨w.heap.size+1+1+1,0,none⟩ (.bool xq)).setCell ⟨w.heap.size+1+1+1,1,none⟩ (.slice pn nn cn)=wz at*
     obtain⟨d1,d2,_,_⟩:=G3.two
     obtain⟨d3,d4,_,_⟩:=G4.two
     have jM:=pP HX.out HY.out H0.out (.inr ⟨by cases s1 <;> simp,HR0.out,rfl,rfl⟩)
     refine bodyPost_ret (v:=.tuple #[.agg #[.bool sg,.slice pm nm cm],.agg #[.bool xq,.slice pn nn cn],.int .i64 0]) (by simp[results,Tryz.results208,go_sem,d1,d2,d3,d4]) rfl (bK.out _ _ ⟨.inr ⟨by have:=H0.out;omega,_,_,rfl,?_,?_⟩,hbz⟩)
     ·rw[AL.out]
      exact aF.of (by rw[<-(Lw).out];exact Own.mono MC.out lZ.size) (Lw).out _ (by simpa using jM.1)
     ·rw[MB.out]
      exact aF.of (by rw[<-(HLN).out];exact Own.mono MD.out lZ.size) (HLN).out _ (by simpa using jM.2)
end
section
open Go.RowKit
theorem vD:(Tryz.prog.info? 3).map (λi=>(i.zero,i.size,i.bytes))=some (some (.int .i64 0),1,8):=by kernel_rfl
def hval (xs:List Nat):Nat:=val 65536 xs
def halves (n:Nat):List Nat:=iz 65536 n
def gl (xs:List Nat):Prop:=eu 65536 xs
theorem bJ (n:Nat):gl (halves n):=nY aa n
theorem bg (n:Nat):hval (halves n)=n:=kB aa n
theorem gl.at {xs:List Nat} (h:gl xs) {k x:Nat} (hk:xs[k]? =some x):x<65536:=eu.at h hk
theorem lz:halves 0=[]:=ek _
theorem FJ {m n:Nat} (h:halves m=halves n):m=n:=vP aa h
theorem ku (xs:List Nat) (x:Nat):hval (xs++[x])=hval xs+65536^xs.length*x:=lT _ xs x
theorem rV {xs:List Nat} (h:gl xs):hval xs<65536^xs.length:=nZ h
theorem dB {xs:List Nat} (h:cL xs):(halves (aj xs)).length<=2*xs.length:=by
 apply ff aa
 have:=jr h
 rwa [Nat.pow_mul]
theorem Rd.i64 {w:World} {v:Value} {n:Nat} {xs:List Nat} (h:Rd w 1 v n (ints .i64 xs)):∃ p c,v=.slice p n c/\n<=c/\c<=9223372036854775807/\xs.length=n:=by
 obtain⟨p,c,hv,h1,h2,h3⟩:=h.form
 unfold maxLen at h2
 exact⟨p,c,hv,h1,by omega,by simpa using h3⟩
theorem Rd.DI {w:World} {n c m:Nat} {p:Option Addr} {xs:List Nat} {k:IntKind} (h:Rd w 1 (.slice p n c) n (ints k xs)) (hm:m<=n):Rd w 1 (.slice p m c) m (ints k (xs.take m)):=by
 have:=h.take hm
 rwa [Nat.mul_one,pG] at this
theorem Own.DI {w:World} {B e n c m:Nat} {p:Option Addr} {xs:List Nat} {k:IntKind} (h:w.ownsRow B e 1 (.slice p n c) n (ints k xs)) (hm:m<=n):w.ownsRow B e 1 (.slice p m c) m (ints k (xs.take m)):=by
 have:=Own.take h hm
 rwa [Nat.mul_one,pG] at this
set_option maxRecDepth 100000 in
theorem iI (va:Value) (n i:Nat) (xs:List Nat) (w:World) (hr:Rd w 1 va n (ints .i64 xs)):
  Calls Tryz.prog 264 #[va,.int .i64 (i:Int)] w λe w'=>e=.returned (.int .i64 ((xs.getD i 0:Nat):Int))/\w=w':=by
 obtain⟨p,c,rfl,gg,gF,fc⟩:=hr.i64
 have HX:=Lib.hid fc
 clear fc
 by_cases hi:i<n
 ·obtain⟨b,off,x,rfl,_,hx,hc⟩:=hr.cellAt hi
  have e:Hid (xs.getD i 0=x):=by show _=_;rw[List.getD,hx];rfl
  clear hx
  refine aV λR' bK=> ?_
  go_enter Tryz.func264,Tryz.ntmps264
  go_wp2
  exact bK.out _ _ ⟨lV (by rw[e.out]),rfl⟩
 ·have e:Hid (xs.getD i 0=0):=by show _=_;rw[List.getD,List.getElem?_eq_none (by rw[HX.out];omega)];rfl
  refine aV λR' bK=> ?_
  go_enter Tryz.func264,Tryz.ntmps264
  go_wp2
  exact bK.out _ _ ⟨lV (by rw[e.out];rfl),rfl⟩
set_option maxRecDepth 100000 in
theorem zE (p:Option Addr) (n c:Nat) (xs:List Nat) (w:World) (hr:Rd w 1 (.slice p n c) n (ints .i64 xs)) (hl:gl xs):
  Calls Tryz.prog 298 #[.slice p n c] w λe w'=>(∃ m,m<=n/\e=.returned (.slice p m c)/\halves (hval xs)=xs.take m)/\w=w':=by
 obtain⟨p',c',hv,gg,gF,fc⟩:=hr.i64
 simp only[Value.slice.injEq,true_and] at hv
 obtain⟨rfl,rfl⟩:=hv
 have HX:Hid (xs.length=n):=fc
 clear fc
 refine aV λR' bK=> ?_
 go_enter Tryz.func298,Tryz.ntmps298
 go_wp2
 go_loop [0] (λv=>∃ m,m<=n/\v=.slice p m c/\hval (xs.take m)=hval xs) (λv=>match v with | .slice _ m _=>m|_=>0)
 case atStart=>exact⟨n,Nat.le_refl _,rfl,by rw[List.take_of_length_le (Nat.le_of_eq HX.out)]⟩
 case round=>
  obtain⟨m,hm,rfl,hv⟩:=hrel
  have HV:Hid (hval (xs.take m)=hval xs):=hv
  clear hv
  by_cases h0:m=0
  ·subst h0
   go_wp2
   exact bK.out _ _ ⟨⟨0,Nat.zero_le _,rfl,kf aa hl (Nat.zero_le _) HV.out (.inl rfl)⟩,rfl⟩
  ·obtain⟨b,off,x,rfl,hb,hx,hc⟩:=hr.cellAt (k:=m-1) aa
   have Ls:Hid (xs[m-1]? =some x):=hx
   clear hx
   have h0':0<m:=by omega
   obtain⟨j,rfl⟩:∃ j,m=j+1:=⟨m-1,by omega⟩
   rw[Nat.add_sub_cancel] at hc
   by_cases nG:x=0
   ·subst nG
    go_wp2
    go_round
    case rel=>exact⟨j,by omega,rfl,(lf Ls.out).symm.trans HV.out⟩
    case measure=>simp
   ·have hx0':((x:Int) == 0)=false:=by rw[beq_eq_false_iff_ne];omega
    go_wp2
    exact bK.out _ _ ⟨⟨j+1,hm,rfl,kf aa hl (by rw[HX.out];exact hm) HV.out (.inr ⟨x,Ls.out,nG⟩)⟩,rfl⟩
theorem Own.cut {w:World} {B e n c m:Nat} {p:Option Addr} {xs:List Nat} (h:w.ownsRow B e 1 (.slice p n c) n (ints .i64 xs)) (hm:m<=n) (hl:halves (hval xs)=xs.take m):
  w.ownsRow B e 1 (.slice p m c) (halves (hval xs)).length (ints .i64 (halves (hval xs)))/\m=(halves (hval xs)).length:=by
 have hx:xs.length=n:=by have:=h.1;simpa using this
 have e2:(halves (hval xs)).length=m:=by rw[hl,List.length_take];omega
 have:=Own.DI h hm
 rw[<-hl] at this
 rw[e2]
 exact⟨this,rfl⟩
def Ih (w:World) (B:Nat) (xs:List Nat) (ov iv:Value) (wr:World):Prop:=
 ∃ (k:Nat) (hs:List Nat),k<=xs.length/\iv=.int .i64 (k:Int)/\hs.length=2*k/\gl hs/\hval hs=aj (xs.take k)/\
   wr.ownsRow B 3 1 ov (2*k) (ints .i64 hs)/\Below B w wr
theorem Ii {x:Nat} (h:x<4294967296):IntKind.i64.wrap ((x:Int).tmod 65536)=((x%65536:Nat):Int):=by
 rw[Int.tmod_eq_emod_of_nonneg aa,IntWalk.i64_in _ aa];simp
theorem Ij {x:Nat} (h:x<4294967296):IntKind.i64.wrap (IntKind.u32.wrap ((x:Int)/65536))=((x/65536:Nat):Int):=by
 rw[IntKind.wrap_u32',Int.emod_eq_of_lt aa aa,IntWalk.i64_in _ aa];simp
theorem zF {k x:Nat} {xs hs:List Nat} (hx:xs[k]? =some x) (jV:x<4294967296) (hl:hs.length=2*k) (hh:gl hs) (hv:hval hs=aj (xs.take k)):
  gl (hs++[x%65536,x/65536])/\hval (hs++[x%65536,x/65536])=aj (xs.take (k+1)):=by
 have hk:k<xs.length:=(List.getElem?_eq_some_iff.1 hx).1
 refine⟨eu.append hh (eu.cons (Nat.mod_lt _ aa) (eu.cons aa (eu.nil _))),?_⟩
 rw[bG hx,er,<-hv,List.length_take,Nat.min_eq_left aa]
 show val 65536 _=_
 rw[jc,hl]
 show hval hs+_=_
 congr 1
 rw[Nat.pow_mul]
 show (4294967296:Nat)^k*(x%65536+65536*(x/65536+65536*0))=_
 congr 1
 omega
set_option maxRecDepth 100000 in
theorem fC (va:Value) (n:Nat) (xs:List Nat) (w:World) (hr:Rd w 1 va n (ints .u32 xs)) (hl:cL xs) (hn:n<=1073741824):
  Calls Tryz.prog 263 #[va] w λe w'=>∃ v',e=.returned v'/\w'.ownsRow w.heap.size 3 1 v' (halves (aj xs)).length (ints .i64 (halves (aj xs)))/\Below w.heap.size w w':=by
 obtain⟨p,c,rfl,gg,gF,fc⟩:=hr.u32
 obtain⟨i0,hi,iW,fI,jf⟩:=info_parts vD
 obtain⟨B,hB⟩:∃ B,B=w.heap.size:=⟨_,rfl⟩
 have HB:=Lib.hid hB
 have Hr:=Lib.hid hr
 have HL:=Lib.hid hl
 have HX:=Lib.hid fc
 rw[<-hB]
 clear hr hl fc hB
 refine aV λR' bK=> ?_
 go_enter Tryz.func263,Tryz.ntmps263
 go_wp2
 go_loopw [3,4] (λov iv wr=>Ih w B xs ov iv wr) (λ_ iv _=>n-(intOf iv).toNat)
 case atStart=>exact⟨0,[],Nat.zero_le _,rfl,rfl,eu.nil _,rfl,World.ownsRow_nil _ _ _ _,Below.refl _ _⟩
 case round=>
  obtain⟨k,hs,hk,rfl,hhl,hhh,hhv,aI,hb⟩:=hrel
  have HK:=Lib.hid hk
  have HO:=Lib.hid aI
  have HHL:=Lib.hid hhl
  have HHH:=Lib.hid hhh
  have HHV:=Lib.hid hhv
  have gM:=Lib.hid hb
  have sS:B<=wr.heap.size:=by have:=hb.size;have:=HB.out;omega
  have hkn':k<=n:=by rw[<-HX.out];exact hk
  clear hk aI hhl hhh hhv hb
  by_cases nO:k<n
  ·obtain⟨b1,o1,x,rfl,bl,fP,hcw⟩:=Hr.out.cellAt nO
   have nN:=(gM.out.cell (p:=⟨b1,o1+k,none⟩) (by rw[HB.out];exact bl)).trans hcw
   have hne:=Lp HO.out (b:=b1) (by rw[HB.out];exact bl)
   have vn:=Lib.hid fP
   have jV:=HL.out.at fP
   have HNE:=Lib.hid hne
   have zc:(0:Int)<=(k:Int):=by omega
   have tw:(k:Int)<(n:Int):=by omega
   clear fP hcw hne
   go_wp2_with fail
   go_region_held3 (λw'=>w'.cell? ⟨b1,o1+k,none⟩=some (.int .u32 (x:Int))) (first|exact nN|go_keep|exact yW xr nN HNE.out)
    ((refine od (by rfl) _ _ 315 (by rfl) B 3 i0 (.int .i64 0) 1 8 Tryz.underlying315 hi iW fI jf rfl aa _ (2*k) (ints .i64 hs) (by rfl) ((HO.out.alloc _).drew) _ 2 (ints .i64 [x%65536,x/65536]) (by rfl) (Rd.drew (Rd.lit2 (Ii jV) (Ij jV))) (lU .i64 [x%65536,x/65536]) (by unfold maxLen;omega) aa (by simp;omega) ?_;intro v1 w1 fM xr))
   have re:=Lib.hid fM
   have HG1:=Lib.hid xr
   clear fM xr
   go_wp2_with fail
   go_roundw
   case rel=>
    have hst:=zF vn.out jV HHL.out HHH.out HHV.out
    exact⟨k+1,hs++[x%65536,x/65536],by rw[HX.out];omega,by go_num,by simp[HHL.out];omega,hst.1,hst.2,by rw[gW];exact re.out,Below.behind gM.out sS HG1.out HO.out (Nat.le_refl _)⟩
   case measure=>simp[intOf];omega
  ·obtain rfl:k=n:=by omega
   obtain⟨p1,c1,Bv,_,_,_⟩:=Own.form HO.out
   have HV1:=Lib.hid Bv
   have Am:Hid (hval hs=aj xs):=by show _=_;rw[HHV.out,bD (Nat.le_of_eq HX.out)]
   subst Bv
   go_wp2_with fail
   refine (zE p1 (2*k) c1 hs _ (Rd.own HO.out) HHH.out).mono ?_
   rintro e w2 ⟨⟨m,hm,rfl,yr⟩,rfl⟩
   have HC:=Own.cut HO.out hm yr
   rw[Am.out] at HC
   have HC1:=Lib.hid HC.1
   have HC2:=Lib.hid HC.2
   clear HC yr
   go_wp2_with fail
   refine bK.out _ _ ⟨_,rfl,?_,gM.out⟩
   have:=HC1.out
   rw[<-HC2.out] at this ⊢
   exact this
def LimbInv (w:World) (B m:Nat) (hs:List Nat) (ov iv:Value) (wr:World):Prop:=
 ∃ (k:Nat) (ds:List Nat),2*k<=m+1/\iv=.int .i64 ((2*k:Nat):Int)/\ds.length=k/\cL ds/\aj ds=hval (hs.take (2*k))/\
   wr.ownsRow B 78 1 ov k (ints .u32 ds)/\Below B w wr
theorem zG {k lo hi:Nat} {ds hs:List Nat} (hl:ds.length=k) (hd:cL ds) (hv:aj ds=hval (hs.take (2*k))) (fO:hs.getD (2*k) 0=lo) (hhi:hs.getD (2*k+1) 0=hi)
  (h1:lo<65536) (h2:hi<65536):cL (ds++[lo+65536*hi])/\aj (ds++[lo+65536*hi])=hval (hs.take (2*(k+1))):=by
 refine⟨hd.append (cL.cons aa cL.nil),?_⟩
 rw[er,hl,hv]
 show _=val 65536 (hs.take (2*k+1+1))
 rw[cw,cw,fO,hhi,Nat.pow_succ,Nat.add_assoc]
 show hval _+_=hval _+_
 congr 1
 rw[show (4294967296:Nat)=65536^2 by rfl,<-Nat.pow_mul,Nat.mul_add,Nat.mul_assoc]
theorem DJ {k m h:Nat} {ds:List Nat} (hl:ds.length=k) (hd:cL ds) (hv:aj ds=h) (hm:(halves h).length=m) (hk:2*k<=m+1):limbs h=ds:=by
 subst hv
 apply Cf aa hd
 show ds.length<=(limbs (aj ds)).length
 rcases Nat.eq_zero_or_pos k with h0|h0
 ·omega
 ·have hne:aj ds≠0:=λh=>by rw[h,lz] at hm;simp at hm;omega
  have h1:65536^((halves (aj ds)).length-1)<=aj ds:=tV aa hne
  have h2:4294967296^(k-1)<=aj ds:=by
   rw[show (4294967296:Nat)=65536^2 by rfl,<-Nat.pow_mul]
   exact Nat.le_trans (Nat.pow_le_pow_right aa aa) h1
  have:=uP h2
  omega
set_option maxRecDepth 100000 in
theorem oJ (va:Value) (n:Nat) (ls:List Nat) (w:World) (hr:Rd w 1 va n (ints .i64 ls)) (hl:gl ls) (hn:n<=2147483656):
  Calls Tryz.prog 265 #[va] w λe w'=>∃ v',e=.returned v'/\w'.ownsRow w.heap.size 78 1 v' (limbs (hval ls)).length (ints .u32 (limbs (hval ls)))/\Below w.heap.size w w':=by
 obtain⟨p,c,rfl,gg,gF,fc⟩:=hr.i64
 obtain⟨i0,hi,iW,fI,jf⟩:=info_parts js
 obtain⟨B,hB⟩:∃ B,B=w.heap.size:=⟨_,rfl⟩
 obtain⟨h,hh⟩:∃ h,h=hval ls:=⟨_,rfl⟩
 rw[<-hh]
 have HB:=Lib.hid hB
 have Hr:=Lib.hid hr
 have HL:=Lib.hid hl
 have HX:=Lib.hid fc
 have HH:=Lib.hid hh
 rw[<-hB]
 clear hr hl fc hB hh
 refine aV λR' bK=> ?_
 go_enter Tryz.func265,Tryz.ntmps265
 go_wp2_with fail
 refine (zE p n c ls _ Hr.out HL.out).mono ?_
 rintro e w1 ⟨⟨m,hm,rfl,yr⟩,rfl⟩
 have sN:(halves h).length=m:=by rw[HH.out,yr,List.length_take,HX.out];omega
 have sK:=Rd.DI Hr.out hm
 rw[<-yr,<-HH.out] at sK
 have LD:=Lib.hid sN
 have HRD:=Lib.hid sK
 clear sN sK yr
 go_wp2_with fail
 go_loopw [3,4] (λov iv wr=>LimbInv w B m (halves h) ov iv wr) (λ_ iv _=>m+2-(intOf iv).toNat)
 case atStart=>exact⟨0,[],by omega,rfl,rfl,cL.nil,rfl,World.ownsRow_nil _ _ _ _,Below.refl _ _⟩
 case round=>
  obtain⟨k,ds,hk,rfl,sM,hdd,hdv,aI,hb⟩:=hrel
  have HO:=Lib.hid aI
  have Fj:=Lib.hid sM
  have HDD:=Lib.hid hdd
  have HDV:=Lib.hid hdv
  have gM:=Lib.hid hb
  have sS:B<=wr.heap.size:=by have:=hb.size;have:=HB.out;omega
  clear aI sM hdd hdv hb
  by_cases EZ:2*k<m
  ·obtain⟨b1,o1,lo,rfl,bl,fP,nN⟩:=(HRD.out.jd HB.out gM.out).cellAt EZ
   have fO:=(bJ h).at fP
   have HLO:Hid ((halves h).getD (2*k) 0=lo):=by show _=_;rw[List.getD,fP];rfl
   clear fP
   by_cases hkm1:2*k+1<m
   ·obtain⟨b2,o2,tk,hp2,bM,lX,qA⟩:=(HRD.out.jd HB.out gM.out).cellAt hkm1
    have hhi:=(bJ h).at lX
    have HHI:Hid ((halves h).getD (2*k+1) 0=tk):=by show _=_;rw[List.getD,lX];rfl
    simp only[Option.some.injEq,Addr.mk.injEq,and_true] at hp2
    obtain⟨rfl,rfl⟩:=hp2
    clear lX
    have hy:(lo:Int)+65536*(tk:Int)=((lo+65536*tk:Nat):Int):=by omega
    have HY:=Lib.hid hy
    clear hy
    go_wp2_with (at_builtin;go_loud (refine dS rfl _ _ 23 rfl B 78 i0 (.int .u32 0) 4 Tryz.underlying23 hi iW fI jf rfl HO.out rfl rfl HY.out aa aa sS ?_);intro v1 w1 fM iJ)
    have re:=Lib.hid fM
    have Bz:=Lib.hid (iJ w gM.out)
    clear fM iJ
    go_wp2_with fail
    go_roundw
    case rel=>
     have hst:=zG Fj.out HDD.out HDV.out HLO.out HHI.out fO hhi
     exact⟨k+1,ds++[lo+65536*tk],by omega,by go_num,by simp[Fj.out],hst.1,hst.2,re.out,Bz.out⟩
    case measure=>simp[intOf];omega
   ·have HHI:Hid ((halves h).getD (2*k+1) 0=0):=by show _=_;rw[List.getD,List.getElem?_eq_none (by rw[LD.out];omega)];rfl
    go_wp2_with (at_builtin;go_loud (refine dS rfl _ _ 23 rfl B 78 i0 (.int .u32 0) 4 Tryz.underlying23 hi iW fI jf rfl HO.out rfl rfl rfl aa aa sS ?_);intro v1 w1 fM iJ)
    have re:=Lib.hid fM
    have Bz:=Lib.hid (iJ w gM.out)
    clear fM iJ
    go_wp2_with fail
    go_roundw
    case rel=>
     have hst:=zG Fj.out HDD.out HDV.out HLO.out HHI.out fO aa
     rw[Nat.mul_zero,Nat.add_zero] at hst
     exact⟨k+1,ds++[lo],by omega,by go_num,by simp[Fj.out],hst.1,hst.2,re.out,Bz.out⟩
    case measure=>simp[intOf];omega
  ·go_wp2_with fail
   have hval:aj ds=h:=by
    rw[HDV.out]
    show val 65536 _=_
    rw[fy (by rw[LD.out];omega)]
    exact bg h
   have hcan:=DJ Fj.out HDD.out hval LD.out hk
   refine bK.out _ _ ⟨_,rfl,?_,gM.out⟩
   rw[hcan,Fj.out];exact HO.out
set_option maxRecDepth 100000 in
theorem FK (va:Value) (n:Nat) (xs:List Nat) (w:World) (hr:Rd w 1 va n (ints .u32 xs)) (hl:cL xs) (hn:n<=1073741824):
  Calls Tryz.prog 262 #[va] w λe w'=>∃ v',e=.returned v'/\w'.ownsRow w.heap.size 78 1 v' (limbs (aj xs)).length (ints .u32 (limbs (aj xs)))/\Below w.heap.size w w':=by
 obtain⟨p,c,rfl,gg,gF,fc⟩:=hr.u32
 have Hr:=Lib.hid hr
 have HL:=Lib.hid hl
 have HX:=Lib.hid fc
 clear hr hl fc
 refine aV λR' bK=> ?_
 go_enter Tryz.func262,Tryz.ntmps262
 go_wp2_with fail
 refine (fC _ n xs _ Hr.out HL.out hn).mono ?_
 rintro e w1 ⟨v1,rfl,aI,hb⟩
 have hlen:=dB HL.out
 rw[HX.out] at hlen
 have HO:=Lib.hid aI
 have HB:=Lib.hid hb
 clear aI hb
 go_wp2_with fail
 refine (oJ _ _ (halves (aj xs)) _ (Rd.own HO.out) (bJ _) aa).mono ?_
 rintro e w2 ⟨v2,rfl,aI,hb⟩
 rw[bg] at aI
 go_wp2_with fail
 exact bK.out _ _ ⟨_,rfl,Own.mono aI HB.out.size,HB.out.trans (hb.mono HB.out.size)⟩
def ME (w:World) (B M:Nat) (us ts:List Nat) (ov cv iv:Value) (wr:World):Prop:=
 ∃ (k carry:Nat) (os:List Nat),k<=M+1/\(k=M+1->carry=0)/\iv=.int .i64 (k:Int)/\cv=.int .i64 (carry:Int)/\carry<=1/\os.length=k/\gl os/\
   hval os+65536^k*carry=hval (us.take k)+hval (ts.take k)/\wr.ownsRow B 3 1 ov k (ints .i64 os)/\Below B w wr
theorem FL {k carry x y:Nat} {us ts os:List Nat} (hl:os.length=k) (hh:gl os) (hv:hval os+65536^k*carry=hval (us.take k)+hval (ts.take k)) (hx:us.getD k 0=x) (hy:ts.getD k 0=y):
  gl (os++[(x+y+carry)%65536])/\hval (os++[(x+y+carry)%65536])+65536^(k+1)*((x+y+carry)/65536)=hval (us.take (k+1))+hval (ts.take (k+1)):=by
 refine⟨eu.append hh (eu.cons (Nat.mod_lt _ aa) (eu.nil _)),?_⟩
 rw[ku,hl,Nat.pow_succ]
 show _=val 65536 _+val 65536 _
 rw[cw,cw,hx,hy]
 exact IZ 65536 _ _ x y carry _ _ _ hv rfl
theorem ia {us:List Nat} {k:Nat} (h:us.length<=k):us.getD k 0=0:=by rw[List.getD,List.getElem?_eq_none h];rfl
theorem ky {us:List Nat} (h:gl us) (k:Nat):us.getD k 0<65536:=by
 rw[List.getD]
 cases hk:us[k]? with
 | none=>simp
 | some x=>exact h.at hk
set_option maxRecDepth 100000 in
theorem JP (va vb:Value) (n m:Nat) (xs ys:List Nat) (w:World) (hr:Rd w 1 va n (ints .u32 xs)) (hs:Rd w 1 vb m (ints .u32 ys)) (hx:cL xs) (hy:cL ys) (hn:n<=1073741824) (hm:m<=1073741824):
  Calls Tryz.prog 198 #[va,vb] w λe w'=>∃ v',e=.returned v'/\w'.ownsRow w.heap.size 78 1 v' (limbs (aj xs+aj ys)).length (ints .u32 (limbs (aj xs+aj ys)))/\Below w.heap.size w w':=by
 obtain⟨p,c,rfl,gg,gF,fc⟩:=hr.u32
 obtain⟨q,d,rfl,Hc,Cg,gX⟩:=hs.u32
 obtain⟨i0,hi,iW,fI,jf⟩:=info_parts vD
 obtain⟨B,hB⟩:∃ B,B=w.heap.size:=⟨_,rfl⟩
 have HB:=Lib.hid hB
 have Hr:=Lib.hid hr
 have Hs:=Lib.hid hs
 have HL:=Lib.hid hx
 have HM:=Lib.hid hy
 have rj:=dB hx
 have nM:=dB hy
 rw[fc] at rj
 rw[gX] at nM
 obtain⟨a,ha⟩:∃ a,a=aj xs:=⟨_,rfl⟩
 obtain⟨b,hb⟩:∃ b,b=aj ys:=⟨_,rfl⟩
 rw[<-ha] at rj ⊢
 rw[<-hb] at nM ⊢
 rw[<-hB]
 have HA:=Lib.hid ha
 have HBb:=Lib.hid hb
 clear hr hs hx hy fc gX ha hb hB
 refine aV λR' bK=> ?_
 go_enter Tryz.func198,Tryz.ntmps198
 go_wp2_with fail
 refine (fC _ n xs _ Hr.out HL.out hn).mono ?_
 rintro e w1 ⟨v1,rfl,aI,bl⟩
 rw[<-HA.out,<-HB.out] at aI
 rw[<-HB.out] at bl
 have re:=Lib.hid aI
 have Bz:=Lib.hid bl
 clear aI bl
 go_wp2_with fail
 refine (fC _ m ys _ (Hs.out.jd HB.out Bz.out) HM.out hm).mono ?_
 rintro e w2 ⟨v2,rfl,aI,bM⟩
 rw[<-HBb.out] at aI
 have hB1s:B<=w1.heap.size:=by have:=Bz.out.size;have:=HB.out;omega
 have HO1b:=Lib.hid (Own.below re.out bM)
 have nK:=Lib.hid (Own.mono aI hB1s)
 have ug:=Lib.hid (Bz.out.trans (bM.mono hB1s))
 have hB2s:B<=w2.heap.size:=by have:=bM.size;omega
 clear aI bM re Bz
 obtain⟨p1,c1,rfl,h11,h12,_⟩:=(Rd.own HO1b.out).i64
 obtain⟨p2,c2,rfl,h21,h22,_⟩:=(Rd.own nK.out).i64
 generalize La:(halves a).length=la at*
 generalize ES:(halves b).length=lb at*
 have KZ:=Lib.hid La
 have Lb:=Lib.hid ES
 clear La ES
 obtain⟨M,hMa,hMb,hMu,hM⟩:∃ M,la<=M/\lb<=M/\M<=2147483648/\(la<lb/\M=lb\/lb<=la/\M=la):=⟨max la lb,by omega,by omega,by omega,by omega⟩
 obtain⟨B2,MF⟩:∃ B2,B2=w2.heap.size:=⟨_,rfl⟩
 have FM:=Lib.hid MF
 have MG:B<=B2:=by omega
 clear MF
 rcases hM with ⟨qd,rfl⟩|⟨qd,rfl⟩
 all_goals
  go_wp2_with fail
  go_loopw [7,8,9] (λov cv iv wr=>ME w2 B2 M (halves a) (halves b) ov cv iv wr) (λ_ cv iv _=>2*(M-(intOf iv).toNat)+(intOf cv).toNat)
  case atStart=>exact⟨0,0,[],by omega,λ_=>rfl,rfl,rfl,by omega,rfl,eu.nil _,rfl,World.ownsRow_nil _ _ _ _,Below.refl _ _⟩
  case round=>
   obtain⟨k,carry,os,hk,tw,rfl,rfl,hc,hol,hoh,hov,aI,lZ⟩:=hrel
   have HO:=Lib.hid aI
   have HOL:=Lib.hid hol
   have HOH:=Lib.hid hoh
   have HOV:=Lib.hid hov
   have HK1:=Lib.hid tw
   have gM:=Lib.hid lZ
   have sS:B2<=wr.heap.size:=by have:=lZ.size;have:=FM.out;omega
   have HRA:=Lib.hid ((Rd.own HO1b.out).jd FM.out lZ)
   have HRB:=Lib.hid ((Rd.own nK.out).jd FM.out lZ)
   have hgx:=ky (bJ a) k
   have hgy:=ky (bJ b) k
   have hxy0:M<=k->(halves a).getD k 0=0/\(halves b).getD k 0=0:=λh=>⟨ia (by rw[KZ.out];omega),ia (by rw[Lb.out];omega)⟩
   clear aI hol hoh hov tw lZ
   generalize hx:(halves a).getD k 0=x at*
   generalize hy:(halves b).getD k 0=y at*
   have HX:=Lib.hid hx
   have HY:=Lib.hid hy
   have HXY0:=Lib.hid hxy0
   clear hx hy hxy0
   have rh:k=M+1->carry=0:=HK1.out
   by_cases hkM:k<M\/0<carry
   ·clear rh
    have hguard:decide (k<M)=true\/decide (k<M)=false/\0<carry:=by
     by_cases h:k<M
     ·left;simpa using h
     ·right;exact⟨by simpa using h,by omega⟩
    have HSUM:Hid (((x:Int)+(y:Int)+(carry:Int)).tmod 65536=(((x+y+carry)%65536:Nat):Int)):=by show _=_;rw[Int.tmod_eq_emod_of_nonneg aa];omega
    rcases hguard with hg|⟨hg,Ci⟩
    all_goals
     go_wp2_with fail
     refine (iI _ _ k (halves a) _ HRA.out).mono ?_
     rintro e w3 ⟨rfl,rfl⟩
     rw[HX.out]
     go_wp2_with fail
     refine (iI _ _ k (halves b) _ HRB.out).mono ?_
     rintro e w3 ⟨rfl,rfl⟩
     rw[HY.out]
     go_wp2_with (at_builtin;refine dS rfl _ _ 315 rfl B2 3 i0 (.int .i64 0) 8 Tryz.underlying315 hi iW fI jf rfl HO.out rfl rfl (d:=(x+y+carry)%65536) aa aa aa sS ?_;intro v1 w3 fM iJ)
     have Jt:=Lib.hid fM
     have LN:=Lib.hid (iJ w2 gM.out)
     clear fM iJ
     go_wp2_with fail
     go_roundw
     case rel=>
      have hst:=FL HOL.out HOH.out HOV.out HX.out HY.out
      exact⟨k+1,(x+y+carry)/65536,os++[(x+y+carry)%65536],by have:=HK1.out;have:=HXY0.out;omega,by have:=HK1.out;have:=HXY0.out;omega,by go_num,by go_num,by omega,by simp[HOL.out],hst.1,hst.2,Jt.out,LN.out⟩
     case measure=>simp[intOf];have:=HXY0.out;omega
   ·have Lc:carry=0:=by omega
    have hkM':M<=k:=by omega
    have HC0:=Lib.hid Lc
    have Ji:decide (k<M)=false:=by simp;omega
    have Ci:¬ (0<(carry:Int)):=by omega
    have hks:k<=M+1:=by omega
    clear rh
    clear Lc
    go_wp2_with fail
    refine (oJ _ _ os _ (Rd.own HO.out) HOH.out aa).mono ?_
    rintro e w3 ⟨v3,rfl,aI,dU⟩
    have hval:hval os=a+b:=by
     have:=HOV.out
     rw[HC0.out,Nat.mul_zero,Nat.add_zero] at this
     rw[this]
     show val 65536 _+val 65536 _=_
     rw[fy (by rw[KZ.out];omega),fy (by rw[Lb.out];omega)]
     show hval _+hval _=_
     rw[bg,bg]
    rw[hval] at aI
    go_wp2_with fail
    exact bK.out _ _ ⟨_,rfl,Own.mono aI aa,(ug.out.trans (gM.out.mono MG)).trans (dU.mono aa)⟩
def CmpInv (w:World) (us ts:List Nat) (M:Nat) (iv:Value) (wr:World):Prop:=
 ∃ k:Nat,k<=M/\iv=.int .i64 ((k:Int)-1)/\hval us+hval (ts.take k)=hval ts+hval (us.take k)/\w=wr
theorem ju (us:List Nat):hval (us.take 0)=0:=by simp[hval,val]
theorem DK {us ts:List Nat} {k x:Nat} (hx:us.getD k 0=x) (hy:ts.getD k 0=x) (h:hval us+hval (ts.take (k+1))=hval ts+hval (us.take (k+1))):hval us+hval (ts.take k)=hval ts+hval (us.take k):=by
 have h1:hval (ts.take (k+1))=hval (ts.take k)+65536^k*x:=by rw[<-hy];exact cw 65536 ts k
 have h2:hval (us.take (k+1))=hval (us.take k)+65536^k*x:=by rw[<-hx];exact cw 65536 us k
 omega
theorem uB {us ts:List Nat} {k x y:Nat} (hu:gl us) (hx:us.getD k 0=x) (hy:ts.getD k 0=y) (Hd:x<y) (h:hval us+hval (ts.take (k+1))=hval ts+hval (us.take (k+1))):hval us<hval ts:=by
 have h1:hval (ts.take (k+1))=hval (ts.take k)+65536^k*y:=by rw[<-hy];exact cw 65536 ts k
 have h2:hval (us.take (k+1))=hval (us.take k)+65536^k*x:=by rw[<-hx];exact cw 65536 us k
 have h3:hval (us.take k)<65536^k:=by
  have h4:=rV (eu.take hu k)
  have h5:=Nat.pow_le_pow_right (show 0<65536 by omega) (show (us.take k).length<=k by rw[List.length_take];omega)
  omega
 have h4:65536^k*x+65536^k<=65536^k*y:=by
  have:=Nat.mul_le_mul_left (65536^k) (show x+1<=y from Hd)
  rwa [Nat.mul_add,Nat.mul_one] at this
 omega
set_option maxRecDepth 100000 in
theorem tH (va vb:Value) (n m:Nat) (xs ys:List Nat) (w:World) (hr:Rd w 1 va n (ints .u32 xs)) (hs:Rd w 1 vb m (ints .u32 ys)) (hx:cL xs) (hy:cL ys) (hn:n<=1073741824) (hm:m<=1073741824):
  Calls Tryz.prog 266 #[va,vb] w λe w'=>e=.returned (.int .i64 (gh (aj xs) (aj ys)))/\Below w.heap.size w w':=by
 obtain⟨p,c,rfl,gg,gF,fc⟩:=hr.u32
 obtain⟨q,d,rfl,Hc,Cg,gX⟩:=hs.u32
 have Hr:=Lib.hid hr
 have Hs:=Lib.hid hs
 have HL:=Lib.hid hx
 have HM:=Lib.hid hy
 have rj:=dB hx
 have nM:=dB hy
 rw[fc] at rj
 rw[gX] at nM
 obtain⟨a,ha⟩:∃ a,a=aj xs:=⟨_,rfl⟩
 obtain⟨b,hb⟩:∃ b,b=aj ys:=⟨_,rfl⟩
 rw[<-ha] at rj ⊢
 rw[<-hb] at nM ⊢
 have HA:=Lib.hid ha
 have HBb:=Lib.hid hb
 clear hr hs hx hy fc gX ha hb
 refine aV λR' bK=> ?_
 go_enter Tryz.func266,Tryz.ntmps266
 go_wp2_with fail
 refine (fC _ n xs _ Hr.out HL.out hn).mono ?_
 rintro e w1 ⟨v1,rfl,aI,bl⟩
 rw[<-HA.out] at aI
 have re:=Lib.hid (Rd.own aI)
 have Bz:=Lib.hid bl
 clear aI bl
 go_wp2_with fail
 refine (fC _ m ys _ (Hs.out.below Bz.out) HM.out hm).mono ?_
 rintro e w2 ⟨v2,rfl,aI,bM⟩
 rw[<-HBb.out] at aI
 have HRA:=Lib.hid (re.out.below bM)
 have HRB:=Lib.hid (Rd.own aI)
 have ug:=Lib.hid (Bz.out.trans (bM.mono Bz.out.size))
 clear aI bM re Bz
 obtain⟨p1,c1,rfl,h11,h12,_⟩:=HRA.out.i64
 obtain⟨p2,c2,rfl,h21,h22,_⟩:=HRB.out.i64
 generalize La:(halves a).length=la at*
 generalize ES:(halves b).length=lb at*
 have KZ:=Lib.hid La
 have Lb:=Lib.hid ES
 clear La ES
 obtain⟨M,hMa,hMb,hMu,hM⟩:∃ M,la<=M/\lb<=M/\M<=2147483648/\(la<lb/\M=lb\/lb<=la/\M=la):=⟨max la lb,by omega,by omega,by omega,by omega⟩
 rcases hM with ⟨qd,rfl⟩|⟨qd,rfl⟩
 all_goals
  go_wp2_with fail
  go_loopw [7] (λiv wr=>CmpInv w2 (halves a) (halves b) M iv wr) (λiv _=>(intOf iv+1).toNat)
  case atStart=>exact⟨M,Nat.le_refl _,rfl,by
   show val 65536 _+val 65536 _=val 65536 _+val 65536 _
   rw[fy (by first|(rw[KZ.out];omega)|(rw[Lb.out];omega)),fy (by first|(rw[KZ.out];omega)|(rw[Lb.out];omega))];omega,rfl⟩
  case round=>
   obtain⟨k,hk,rfl,hv,rfl⟩:=hrel
   have HV:=Lib.hid hv
   clear hv
   by_cases h0:k=0
   ·subst h0
    go_wp2_with fail
    have e:a=b:=by
     have:=HV.out
     rw[ju,ju,bg,bg] at this
     omega
    exact bK.out _ _ ⟨lV (by rw[e,rk]),ug.out⟩
   ·obtain⟨j,rfl⟩:∃ j,k=j+1:=⟨k-1,by omega⟩
    have hjj:((j+1:Nat):Int)-1=(j:Int):=by omega
    rw[hjj]
    clear h0 hjj
    generalize hx:(halves a).getD j 0=x
    generalize hy:(halves b).getD j 0=y
    have HX:=Lib.hid hx
    have HY:=Lib.hid hy
    clear hx hy
    go_wp2_with fail
    refine (iI _ _ j (halves a) _ HRA.out).mono ?_
    rintro e w3 ⟨rfl,rfl⟩
    rw[HX.out]
    go_wp2_with fail
    refine (iI _ _ j (halves b) _ HRB.out).mono ?_
    rintro e w3 ⟨rfl,rfl⟩
    rw[HY.out]
    rcases Nat.lt_trichotomy x y with hlt|heq|hgt
    ·go_wp2_with fail
     have:=uB (bJ a) HX.out HY.out hlt HV.out
     rw[bg,bg] at this
     exact bK.out _ _ ⟨lV (by rw[lg this]),ug.out⟩
    ·subst heq
     go_wp2_with fail
     refine (iI _ _ j (halves a) _ HRA.out).mono ?_
     rintro e w3 ⟨rfl,rfl⟩
     rw[HX.out]
     go_wp2_with fail
     refine (iI _ _ j (halves b) _ HRB.out).mono ?_
     rintro e w3 ⟨rfl,rfl⟩
     rw[HY.out]
     go_wp2_with fail
     go_roundw
     case rel=>exact⟨j,by omega,rfl,DK HX.out HY.out HV.out,rfl⟩
     case measure=>simp[intOf]
    ·go_wp2_with fail
     refine (iI _ _ j (halves a) _ HRA.out).mono ?_
     rintro e w3 ⟨rfl,rfl⟩
     rw[HX.out]
     go_wp2_with fail
     refine (iI _ _ j (halves b) _ HRB.out).mono ?_
     rintro e w3 ⟨rfl,rfl⟩
     rw[HY.out]
     go_wp2_with fail
     have:=uB (bJ b) HY.out HX.out hgt HV.out.symm
     rw[bg,bg] at this
     exact bK.out _ _ ⟨lV (by rw[lh this]),ug.out⟩
theorem uC {qs:List Nat} {k x:Nat}:(List.replicate (k+1) 0++qs).set k x=List.replicate k 0++x::qs:=by
 rw[List.replicate_succ',List.append_assoc,List.set_append_right _ _ ew]
 simp
def MH (w:World) (B M:Nat) (us ts:List Nat) (ov bv iv:Value) (wr:World):Prop:=
 ∃ (k r:Nat) (ds:List Nat),k<=M/\ds.length=k/\iv=.int .i64 (k:Int)/\bv=.int .i64 (r:Int)/\r<=1/\gl ds/\
   hval ds+hval (ts.take k)=hval (us.take k)+65536^k*r/\wr.ownsRow B 3 1 ov k (ints .i64 ds)/\Below B w wr
theorem xt {k r x y d r':Nat} {us ts ds:List Nat} (hl:ds.length=k) (hh:gl ds) (hv:hval ds+hval (ts.take k)=hval (us.take k)+65536^k*r) (hx:us.getD k 0=x) (hy:ts.getD k 0=y)
  (hd:d<65536) (he:x+65536*r'=d+y+r):
  gl (ds++[d])/\hval (ds++[d])+hval (ts.take (k+1))=hval (us.take (k+1))+65536^(k+1)*r':=by
 refine⟨eu.append hh (eu.cons hd (eu.nil _)),?_⟩
 have h1:hval (ts.take (k+1))=hval (ts.take k)+65536^k*y:=by rw[<-hy];exact cw 65536 ts k
 have h2:hval (us.take (k+1))=hval (us.take k)+65536^k*x:=by rw[<-hx];exact cw 65536 us k
 rw[ku,hl,h1,h2,Nat.pow_succ]
 exact Ja 65536 _ x y r d r' _ _ _ hv he
set_option maxRecDepth 100000 in
theorem zH (va vb:Value) (n m:Nat) (xs ys:List Nat) (w:World) (hr:Rd w 1 va n (ints .u32 xs)) (hs:Rd w 1 vb m (ints .u32 ys)) (hx:cL xs) (hy:cL ys) (hn:n<=1073741824) (hm:m<=1073741824):
  Calls Tryz.prog 199 #[va,vb] w λe w'=>((aj xs<aj ys/\e=.returned (.tuple #[.slice none 0 0,.int .i64 2]))\/
   (aj ys<=aj xs/\∃ v',e=.returned (.tuple #[v',.int .i64 0])/\w'.ownsRow w.heap.size 78 1 v' (limbs (aj xs-aj ys)).length (ints .u32 (limbs (aj xs-aj ys)))))/\Below w.heap.size w w':=by
 obtain⟨p,c,rfl,gg,gF,fc⟩:=hr.u32
 obtain⟨q,d,rfl,Hc,Cg,gX⟩:=hs.u32
 obtain⟨i0,hi,iW,fI,jf⟩:=info_parts vD
 have Hr:=Lib.hid hr
 have Hs:=Lib.hid hs
 have HL:=Lib.hid hx
 have HM:=Lib.hid hy
 have rj:=dB hx
 have nM:=dB hy
 rw[fc] at rj
 rw[gX] at nM
 obtain⟨a,ha⟩:∃ a,a=aj xs:=⟨_,rfl⟩
 obtain⟨b,hb⟩:∃ b,b=aj ys:=⟨_,rfl⟩
 rw[<-ha] at rj ⊢
 rw[<-hb] at nM ⊢
 have HA:=Lib.hid ha
 have HBb:=Lib.hid hb
 clear hr hs hx hy fc gX ha hb
 refine aV λR' bK=> ?_
 go_enter Tryz.func199,Tryz.ntmps199
 go_wp2_with fail
 refine (tH _ _ n m xs ys _ Hr.out Hs.out HL.out HM.out hn hm).mono ?_
 rintro e w0 ⟨rfl,pH⟩
 rw[<-HA.out,<-HBb.out]
 have HB0:=Lib.hid pH
 have hB0s:=pH.size
 clear pH
 by_cases qd:a<b
 ·have hc:gh a b<0:=jz.2 qd
  generalize gh a b=cv at hc ⊢
  go_wp2_with fail
  exact bK.out _ _ ⟨.inl ⟨qd,rfl⟩,HB0.out⟩
 ·have hc:0<=gh a b:=by have:=mt (@jz a b).1 qd;omega
  generalize gh a b=cv at hc ⊢
  have hlen:(halves b).length<=(halves a).length:=dL aa aa
  have HAB:=Lib.hid qd
  clear qd
  go_wp2_with fail
  refine (fC _ n xs _ (Hr.out.below HB0.out) HL.out hn).mono ?_
  rintro e w1 ⟨v1,rfl,aI,bl⟩
  rw[<-HA.out] at aI
  have re:=Lib.hid (Rd.own aI)
  have Bz:=Lib.hid (HB0.out.trans (bl.mono hB0s))
  have hB1s:=bl.size
  clear aI bl
  go_wp2_with fail
  refine (fC _ m ys _ (Hs.out.below Bz.out) HM.out hm).mono ?_
  rintro e w2 ⟨v2,rfl,aI,bM⟩
  rw[<-HBb.out] at aI
  have HRA0:=Lib.hid (re.out.below bM)
  have HRB0:=Lib.hid (Rd.own aI)
  have ug:=Lib.hid (Bz.out.trans (bM.mono Bz.out.size))
  have hB2s:=bM.size
  clear aI bM re Bz
  obtain⟨p1,c1,rfl,h11,h12,_⟩:=HRA0.out.i64
  obtain⟨p2,c2,rfl,h21,h22,_⟩:=HRB0.out.i64
  generalize La:(halves a).length=la at*
  generalize ES:(halves b).length=lb at*
  have KZ:=Lib.hid La
  have Lb:=Lib.hid ES
  clear La ES
  obtain⟨B2,MF⟩:∃ B2,B2=w2.heap.size:=⟨_,rfl⟩
  have FM:=Lib.hid MF
  have MG:w.heap.size<=B2:=by omega
  clear MF
  go_wp2_with fail
  go_loopw [8,9,10] (λov bv iv wr=>MH w2 B2 la (halves a) (halves b) ov bv iv wr) (λ_ _ iv _=>la-(intOf iv).toNat)
  case atStart=>exact⟨0,0,[],Nat.zero_le _,rfl,rfl,rfl,by omega,eu.nil _,by rw[ju,ju];simp[hval,val],World.ownsRow_nil _ _ _ _,Below.refl _ _⟩
  case round=>
   obtain⟨k,r,ds,hk,sM,rfl,rfl,sR,hdh,hdv,aI,lZ⟩:=hrel
   have HO:=Lib.hid aI
   have Fj:=Lib.hid sM
   have HDH:=Lib.hid hdh
   have HDV:=Lib.hid hdv
   have gM:=Lib.hid lZ
   have sS:B2<=wr.heap.size:=by have:=lZ.size;have:=FM.out;omega
   have HRB:=Lib.hid (HRB0.out.jd FM.out lZ)
   clear aI sM hdh hdv
   by_cases Ap:k<la
   ·obtain⟨b1,o1,x,rfl,_,fP,nN⟩:=(HRA0.out.jd FM.out lZ).cellAt Ap
    have jV:=(bJ a).at fP
    have HX:Hid ((halves a).getD k 0=x):=by show _=_;rw[List.getD,fP];rfl
    have tZ:=ky (bJ b) k
    clear fP lZ
    generalize hy:(halves b).getD k 0=y at*
    have HY:=Lib.hid hy
    clear hy
    have zc:(0:Int)<=(k:Int):=by omega
    have tw:(k:Int)<(la:Int):=by omega
    have sO:IntKind.i64.wrap ((x:Int)-(y:Int))=(x:Int)-(y:Int):=IntWalk.i64_in _ aa
    have hw2:IntKind.i64.wrap ((x:Int)-(y:Int)-(r:Int))=(x:Int)-(y:Int)-(r:Int):=IntWalk.i64_in _ aa
    have CD:∀ j:Nat,Calls Tryz.prog 264 #[.slice p2 lb c2,.int .i64 (k:Int)] (wr.drewN j) λe w'=>e=.returned (.int .i64 (y:Int))/\wr.drewN j=w':=λj=>by
     have:=iI _ _ k (halves b) _ (Rd.drewN HRB.out j)
     rwa [HY.out] at this
    have HAT:=Lib.hid CD
    clear CD
    go_wp2_with fail
    go_quiet ((go_at_call 264;exact vS (HAT.out _) ⟨_,rfl⟩))
    clear sO hw2 zc tw nN
    by_cases Al:(x:Int)-(y:Int)-(r:Int)<0
    ·go_wp2_with (at_builtin;refine dS (w:=wr.drewN nq) rfl _ _ 315 rfl B2 3 i0 (.int .i64 0) 8 Tryz.underlying315 hi iW fI jf rfl (Own.drewN HO.out nq) rfl rfl (d:=x+65536-y-r) aa aa aa sS ?_;intro v1 w3 fM iJ)
     have Jt:=Lib.hid fM
     have LN:=Lib.hid (iJ w2 (Below.drewN gM.out nq))
     clear fM iJ
     go_wp2_with fail
     go_roundw
     case rel=>
      have hst:=xt (d:=x+65536-y-r) (r':=1) Fj.out HDH.out HDV.out HX.out HY.out aa aa
      exact⟨k+1,1,ds++[x+65536-y-r],by omega,by simp[Fj.out],by go_num,rfl,by omega,hst.1,hst.2,Jt.out,LN.out⟩
     case measure=>simp[intOf];omega
    ·go_wp2_with (at_builtin;refine dS (w:=wr.drewN nq) rfl _ _ 315 rfl B2 3 i0 (.int .i64 0) 8 Tryz.underlying315 hi iW fI jf rfl (Own.drewN HO.out nq) rfl rfl (d:=x-y-r) aa aa aa sS ?_;intro v1 w3 fM iJ)
     have Jt:=Lib.hid fM
     have LN:=Lib.hid (iJ w2 (Below.drewN gM.out nq))
     clear fM iJ
     go_wp2_with fail
     go_roundw
     case rel=>
      have hst:=xt (d:=x-y-r) (r':=0) Fj.out HDH.out HDV.out HX.out HY.out aa aa
      exact⟨k+1,0,ds++[x-y-r],by omega,by simp[Fj.out],by go_num,rfl,by omega,hst.1,hst.2,Jt.out,LN.out⟩
     case measure=>simp[intOf];omega
   ·obtain rfl:k=la:=by omega
    clear lZ
    go_wp2_with fail
    refine (oJ _ k ds _ (Rd.own HO.out) HDH.out aa).mono ?_
    rintro e w4 ⟨v4,rfl,aI,iX⟩
    have hval:hval ds=a-b:=by
     have h1:=HDV.out
     have e1:hval ((halves a).take k)=a:=by
      show val 65536 _=_
      rw[fy (Nat.le_of_eq KZ.out)];exact bg a
     have e2:hval ((halves b).take k)=b:=by
      show val 65536 _=_
      rw[fy (by rw[Lb.out];exact hlen)];exact bg b
     rw[e1,e2] at h1
     have h3:=rV HDH.out
     rw[Fj.out] at h3
     have hba:=HAB.out
     have:r=0:=by
      rcases Nat.eq_zero_or_pos r with h|h
      ·exact h
      ·have:r=1:=by omega
       subst this
       omega
     subst this
     omega
    rw[hval] at aI
    have HOWN:=Lib.hid aI
    clear aI
    go_wp2_with fail
    refine bK.out _ _ ⟨.inr ⟨by have:=HAB.out;omega,v4,rfl,?_⟩,(ug.out.trans (gM.out.mono MG)).trans (iX.mono aa)⟩
    exact Own.mono HOWN.out aa
theorem qP (neg:Bool) (xs:List Nat) (v:Value) (w:World) (h:fi w v neg xs):
  Calls Tryz.prog 190 #[v] w λe w'=>e=.returned (.bool (dH neg xs))/\ax w w':=by
 obtain⟨p,c,rfl,hr,hl⟩:=h
 obtain⟨p',c',hv,gg,gF,-⟩:=hr.u32
 simp only[Value.slice.injEq,true_and] at hv
 obtain⟨rfl,rfl⟩:=hv
 refine aV λR' bK=> ?_
 by_cases hx:xs=[]
 ·subst hx
  simp only[List.length_nil,qB] at*
  go_enter Tryz.func190,Tryz.ntmps190
  cases neg
  ·go_wp2
   exact bK.out _ _ ⟨rfl,(ax.refl w).alloc _⟩
  ·go_wp2
   exact bK.out _ _ ⟨rfl,(ax.refl w).alloc _⟩
 ·obtain⟨m,hm⟩:∃ m,xs.length=m+1:=⟨xs.length-1,by have:=List.length_pos_iff.2 hx;omega⟩
  generalize hn:xs.length=n at*
  obtain⟨b,off,x,rfl,hb,hxm,hc⟩:=hr.cellAt (k:=m) aa
  have h1:dH neg xs=decide (x≠0):=ui (by rw[hn,hm];exact hxm)
  rw[h1] at bK
  have hz:((n:Int) == 0)=false:=by rw[beq_eq_false_iff_ne];omega
  have hp:(0:Int)<(n:Int):=by omega
  have hw:IntKind.i64.wrap ((n:Int)-1)=(m:Int):=by rw[IntWalk.i64_in _ aa];omega
  have hlt:(m:Int)<(n:Int):=by omega
  have HN:=Lib.hid hn
  have hpn:0<n:=by omega
  clear hx hm hn h1 hxm hr hl
  go_enter Tryz.func190,Tryz.ntmps190
  by_cases nG:x=0
  ·subst nG
   cases neg
   ·go_wp2
    exact bK.out _ _ ⟨rfl,(ax.refl w).alloc _⟩
   ·go_wp2
    exact bK.out _ _ ⟨rfl,(ax.refl w).alloc _⟩
  ·have FI:((x:Int) != 0)=true:=by rw[bne_iff_ne];omega
   rw[decide_eq_true nG] at bK
   clear nG
   cases neg
   ·go_wp2
    exact bK.out _ _ ⟨rfl,(ax.refl w).alloc _⟩
   ·go_wp2
    exact bK.out _ _ ⟨rfl,(ax.refl w).alloc _⟩
theorem qQ (v:Value) (X:Int) (k:Nat) (w0 w:World) (h:cz w0 v X k) (pH:ax w0 w):
  Calls Tryz.prog 196 #[v] w λe w'=>∃ u,e=.returned u/\cG w0 u X/\ax w w':=by
 obtain⟨neg,xs,hn,rfl,hk⟩:=h
 refine aV λR' bK=> ?_
 have HN:=Lib.hid hn
 obtain⟨p,c,rfl,hr,hl⟩:=hn
 clear hr
 go_enter Tryz.func196,Tryz.ntmps196
 go_wp2_with fail
 refine (qP neg xs _ _ ((HN.out.az pH).az (((ax.refl w).alloc _).alloc _))).mono ?_
 rintro e w1 ⟨rfl,bl⟩
 obtain⟨b1,b2,mK⟩:=mQ w 36 36 #[.bool neg,.slice p xs.length c] #[.bool false,.slice none 0 0]
 obtain⟨c1,c2,_,_⟩:=(b1.az bl).two
 obtain⟨c3,c4,f3,f4⟩:=(b2.az bl).two
 have Aa:ax w w1:=mK.aH bl
 cases hnr:dH neg xs
 ·have B2:=(b2.az bl).bS (.bool false) (.slice none 0 0)
  have ug:=Aa.bS (b:=w.heap.size+1) aa (.bool false) (.slice none 0 0)
  go_wp2
  generalize (w1.setCell ⟨w.heap.size+1,0,none⟩ (.bool false)).setCell ⟨w.heap.size+1,1,none⟩ (.slice none 0 0)=w2 at*
  obtain⟨d1,d2,_,_⟩:=B2.two
  refine bodyPost_ret (v:=.agg #[.bool false,.slice none 0 0]) (by simp[results,Tryz.results196,go_sem,d1,d2]) rfl (bK.out _ _ ⟨_,rfl,?_,ug⟩)
  rw[numOf,if_neg (by simp[hnr])]
  exact cG.zero _
 ·have B2:=(b2.az bl).bS (.bool neg) (.slice p xs.length c)
  have ug:=Aa.bS (b:=w.heap.size+1) aa (.bool neg) (.slice p xs.length c)
  go_wp2
  generalize (w1.setCell ⟨w.heap.size+1,0,none⟩ (.bool neg)).setCell ⟨w.heap.size+1,1,none⟩ (.slice p xs.length c)=w2 at*
  obtain⟨d1,d2,_,_⟩:=B2.two
  refine bodyPost_ret (v:=.agg #[.bool neg,.slice p xs.length c]) (by simp[results,Tryz.results196,go_sem,d1,d2]) rfl (bK.out _ _ ⟨_,rfl,?_,ug⟩)
  rw[numOf,if_pos hnr]
  obtain⟨h1,h2⟩:=canon hl hnr
  have:=HN.out
  show fi _ _ _ _
  rw[<-h1,<-h2]
  exact this
theorem iK (neg:Bool) (v:Value) (n:Nat) (xs:List Nat) (w:World) (hr:Rd w 1 v n (ints .u32 xs)) (hl:cL xs) (hn:n<=1073741824):
  Calls Tryz.prog 197 #[.bool neg,v] w λe w'=>∃ r,e=.returned r/\aF w' w.heap.size r (if neg=true then-(aj xs:Int) else aj xs)/\ax w w':=by
 obtain⟨p,c,rfl,_,_,_⟩:=hr.u32
 have HR:=Lib.hid hr
 have ik:=aL.new w 36 #[.bool false,.slice none 0 0]
 have mK:=(ax.refl w).alloc (.cells #[.bool false,.slice none 0 0] 36)
 clear hr
 refine aV λR' bK=> ?_
 go_enter Tryz.func197,Tryz.ntmps197
 go_wp2_with fail
 refine (FK _ n xs _ (HR.out.below mK) hl hn).mono ?_
 rintro e w1 ⟨v1,rfl,tE,bl⟩
 replace bl:ax _ w1:=bl
 obtain⟨p1,k1,rfl,_,_,_⟩:=Own.form tE
 generalize hL:(limbs (aj xs)).length=L at*
 have HL:=Lib.hid hL
 have FC:=ik.az bl
 have FB:=mK.aH bl
 obtain⟨c1,c2,f1,f2⟩:=FC.two
 have Ib:=Own.mono tE mK.size
 clear hL tE
 cases neg
 ·have HO:=Lib.hid (Own.bS Ib FC cH (.bool false) (.slice p1 L k1))
  clear Ib
  have Dy:=FC.bS (.bool (false)) (.slice p1 (L) k1)
  have Dz:=ax.bS FB (b:=w.heap.size) aa (.bool (false)) (.slice p1 (L) k1)
  go_wp2
  generalize (w1.setCell ⟨w.heap.size,0,none⟩ (.bool (false))).setCell ⟨w.heap.size,1,none⟩ (.slice p1 (L) k1)=wz at*
  obtain⟨DA,DB,_,_⟩:=Dy.two
  refine bodyPost_ret (v:=.agg #[.bool (false),.slice p1 (L) k1]) (by simp[results,Tryz.results197,go_sem,DA,DB]) rfl (bK.out _ _ ?_)
  exact⟨_,rfl,aF.of (neg:=false) (by rw[HL.out];exact HO.out) HL.out.symm _ ew,Dz⟩
 ·have HO:=Lib.hid (Own.bS Ib FC cH (.bool (decide (0<L))) (.slice p1 L k1))
  clear Ib
  have Dy:=FC.bS (.bool (decide (0<L))) (.slice p1 (L) k1)
  have Dz:=ax.bS FB (b:=w.heap.size) aa (.bool (decide (0<L))) (.slice p1 (L) k1)
  go_wp2
  generalize (w1.setCell ⟨w.heap.size,0,none⟩ (.bool (decide (0<L)))).setCell ⟨w.heap.size,1,none⟩ (.slice p1 (L) k1)=wz at*
  obtain⟨DA,DB,_,_⟩:=Dy.two
  refine bodyPost_ret (v:=.agg #[.bool (decide (0<L)),.slice p1 (L) k1]) (by simp[results,Tryz.results197,go_sem,DA,DB]) rfl (bK.out _ _ ?_)
  exact⟨_,rfl,aF.of (neg:=true) (by rw[HL.out];exact HO.out) HL.out.symm _ ew,Dz⟩
def xu (X Y:Int):Int:=(X-Y).sign
theorem Ik {X Y:Int} (h:X<Y):xu X Y= -1:=sign_neg aa
theorem Il {X Y:Int} (h:Y<X):xu X Y=1:=fj aa
theorem zI (a b:Nat):xu (a:Int) b=gh a b:=by
 rcases Nat.lt_trichotomy a b with h|rfl|h
 ·rw[Ik aa,lg h]
 ·rw[rk];simp[xu]
 ·rw[Il aa,lh h]
theorem FN (a b:Nat):xu (-(a:Int)) (-(b:Int))=gh b a:=by
 rw[<-zI];unfold xu;congr 1;omega
theorem DL (v u:Value) (X Y:Int) (j k:Nat) (w:World) (hv:cz w v X j) (hu:cz w u Y k) (hj:j<=1073741824) (hk:k<=1073741824):
  Calls Tryz.prog 259 #[v,u] w λe w'=>e=.returned (.int .i64 (xu X Y))/\ax w w':=by
 obtain⟨s,p,n,c,rfl⟩:=hv.form
 obtain⟨t,q,m,d,rfl⟩:=hu.form
 refine aV λR' bK=> ?_
 obtain⟨b1,b2,mK⟩:=mQ w 36 36 #[.bool s,.slice p n c] #[.bool t,.slice q m d]
 have HJ:=Lib.hid (Nat.le_trans hv.len hj)
 have HK:=Lib.hid (Nat.le_trans hu.len hk)
 have HV:=Lib.hid hv
 have HU:=Lib.hid hu
 clear hv hu hj hk
 go_enter Tryz.func259,Tryz.ntmps259
 go_wp2_with fail
 generalize (w.alloc _).alloc _=W at*
 refine (qQ _ X j w _ HV.out iw).mono ?_
 rintro e wa ⟨ua,rfl,hua,hba⟩
 obtain⟨s1,p1,n1,k1,rfl⟩:=hua.gZ
 obtain⟨a1,a2,a3,a4⟩:=(b1.az hba).two
 obtain⟨a5,a6,a7,a8⟩:=(b2.az hba).two
 have B1:=(b1.az hba).bS (.bool s1) (.slice p1 n1 k1)
 have B2:=(b2.az hba).dW (b':=w.heap.size) aa (.bool s1) (.slice p1 n1 k1)
 have hZ:=bd.LU (bd.LU (bd.aH (bd.refl W w.heap.size (w.heap.size+1)) hba) (j:=0) (.bool s1)) (j:=1) (.slice p1 n1 k1)
 have HB:=ax.bS (mK.aH hba) (b:=w.heap.size) aa (.bool s1) (.slice p1 n1 k1)
 have HPA:=Lib.hid hua.parts
 have HSA:=Lib.hid hua.LS
 have HUA:=Lib.hid hua
 clear hua
 go_wp2_with fail
 generalize (wa.setCell ⟨w.heap.size,0,none⟩ (.bool s1)).setCell ⟨w.heap.size,1,none⟩ (.slice p1 n1 k1)=wb at*
 clear a1 a2 a3 a4 a5 a6 a7 a8 hba
 refine (qQ _ Y k w _ HU.out HB).mono ?_
 rintro e wc ⟨ub,rfl,hub,Aa⟩
 obtain⟨s2,p2,n2,k2,rfl⟩:=hub.gZ
 obtain⟨a1,a2,a3,a4⟩:=(B1.az Aa).two
 obtain⟨a5,a6,a7,a8⟩:=(B2.az Aa).two
 have D1:=(B1.az Aa).dW (b':=w.heap.size+1) aa (.bool s2) (.slice p2 n2 k2)
 have D2:=(B2.az Aa).bS (.bool s2) (.slice p2 n2 k2)
 have hY:=bd.qg (bd.qg (bd.aH hZ Aa) (j:=0) (.bool s2)) (j:=1) (.slice p2 n2 k2)
 have HD:=ax.bS (HB.aH Aa) (b:=w.heap.size+1) aa (.bool s2) (.slice p2 n2 k2)
 have HPB:=Lib.hid hub.parts
 have HSB:=Lib.hid hub.LS
 have HUB:=Lib.hid hub
 clear hub B1 B2 HB Aa hZ
 have FI:n1<=1073741824:=by rw[HPA.out.1];exact HJ.out
 have Im:n2<=1073741824:=by rw[HPB.out.1];exact HK.out
 have HX1:=Lib.hid FI
 have Ls:=Lib.hid Im
 clear FI Im
 cases s1 <;> cases s2
 ·go_wp2_with fail
  generalize (wc.setCell ⟨w.heap.size+1,0,none⟩ (.bool false)).setCell ⟨w.heap.size+1,1,none⟩ (.slice p2 n2 k2)=wd at*
  refine (tH _ _ n1 n2 _ _ _ (HPA.out.2.1.below HD) (HPB.out.2.1.below HD) (aA _) (aA _) HX1.out Ls.out).mono ?_
  rintro e we ⟨rfl,JQ⟩
  rw[ak,ak,<-zI]
  have e1:(X.natAbs:Int)=X:=by have:=HPA.out.2.2;simpa using this.symm
  have e2:(Y.natAbs:Int)=Y:=by have:=HPB.out.2.2;simpa using this.symm
  rw[e1,e2]
  go_wp2_with fail
  exact bK.out _ _ ⟨rfl,HD.aH JQ⟩
 ·have h1:¬ X<0:=of_decide_eq_false HSA.out.symm
  have h2:Y<0:=of_decide_eq_true HSB.out.symm
  rw[Il aa] at bK
  go_wp2
  exact bK.out _ _ ⟨rfl,HD⟩
 ·have h1:X<0:=of_decide_eq_true HSA.out.symm
  have h2:¬ Y<0:=of_decide_eq_false HSB.out.symm
  rw[Ik aa] at bK
  go_wp2
  exact bK.out _ _ ⟨rfl,HD⟩
 ·go_wp2_with fail
  generalize (wc.setCell ⟨w.heap.size+1,0,none⟩ (.bool true)).setCell ⟨w.heap.size+1,1,none⟩ (.slice p2 n2 k2)=wd at*
  refine (tH _ _ n2 n1 _ _ _ (HPB.out.2.1.below HD) (HPA.out.2.1.below HD) (aA _) (aA _) Ls.out HX1.out).mono ?_
  rintro e we ⟨rfl,JQ⟩
  rw[ak,ak,<-FN]
  have e1: -(X.natAbs:Int)=X:=by have:=HPA.out.2.2;simpa using this.symm
  have e2: -(Y.natAbs:Int)=Y:=by have:=HPB.out.2.2;simpa using this.symm
  rw[e1,e2]
  go_wp2_with fail
  exact bK.out _ _ ⟨rfl,HD.aH JQ⟩
theorem de (v:Value) (X:Int) (j:Nat) (w:World) (hv:cz w v X j) (hj:j<=1073741824):
  Calls Tryz.prog 191 #[v] w λe w'=>e=.returned (.int .i64 X.sign)/\ax w w':=by
 obtain⟨s,p,n,c,rfl⟩:=hv.form
 refine aV λR' bK=> ?_
 have mK:=(ax.refl w).alloc (.cells #[.bool s,.slice p n c] 36)
 have HV:=Lib.hid (hv.az mK)
 have e1:=Lib.hid (show xu X 0=X.sign by simp[xu])
 clear hv
 go_enter Tryz.func191,Tryz.ntmps191
 go_wp2_with fail
 generalize w.alloc _=W at*
 refine (DL _ _ X 0 j 0 _ HV.out ((cG.zero _).to (by simp[bP])) hj aa).mono ?_
 rintro e w1 ⟨rfl,bl⟩
 rw[e1.out]
 go_wp2
 exact bK.out _ _ ⟨rfl,mK.aH bl⟩
theorem Rd.kp {U:TypeId} {T:TypeId->Bool} {w w':World} {v:Value} {n:Nat} {xs:List Nat} (h:Rd w 1 v n (ints .u32 xs)) (k:aK ⟨U,λ_=>True,T⟩ w w'):Rd w' 1 v n (ints .u32 xs):=by
 obtain⟨p,c,rfl,h1,h2,h3,h4⟩:=h
 refine⟨p,c,rfl,h1,h2,h3,λhn=> ?_⟩
 obtain⟨b,off,hp,hc⟩:=h4 hn
 refine⟨b,off,hp,λj u hj=> ?_⟩
 obtain⟨x,hx,rfl⟩:=List.mem_map.1 (List.mem_of_getElem? hj)
 exact k.cell _ _ trivial (hc j _ hj)
theorem Own.kp {T:TypeId->Bool} {w w':World} {B sz n:Nat} {v:Value} {cs:List Value} (h:w.ownsRow B UU sz v n cs) (k:aK ⟨UU,λ_=>True,T⟩ w w'):w'.ownsRow B UU sz v n cs:=by
 refine⟨h.1,?_⟩
 rcases h.2 with h2|⟨g,cap,cur,hv,hb,hg,r⟩
 ·exact .inl h2
 ·exact .inr ⟨g,cap,cur,hv,hb,k.block _ g cur rfl trivial hg,r⟩
theorem fi.kp {U:TypeId} {T:TypeId->Bool} {w w':World} {v:Value} {s:Bool} {xs:List Nat} (h:fi w v s xs) (k:aK ⟨U,λ_=>True,T⟩ w w'):fi w' v s xs:=by
 obtain⟨p,c,hv,hr,hl⟩:=h
 exact⟨p,c,hv,hr.kp k,hl⟩
theorem cz.kp {U:TypeId} {T:TypeId->Bool} {w w':World} {v:Value} {X:Int} {j:Nat} (h:cz w v X j) (k:aK ⟨U,λ_=>True,T⟩ w w'):cz w' v X j:=by
 obtain⟨s,xs,hn,hx,hj⟩:=h
 exact⟨s,xs,hn.kp k,hx,hj⟩
theorem cG.kp {U:TypeId} {T:TypeId->Bool} {w w':World} {v:Value} {X:Int} (h:cG w v X) (k:aK ⟨U,λ_=>True,T⟩ w w'):cG w' v X:=fi.kp h k
theorem aF.kp {T:TypeId->Bool} {w w':World} {B:Nat} {v:Value} {X:Int} (h:aF w B v X) (k:aK ⟨UU,λ_=>True,T⟩ w w'):aF w' B v X:=by
 obtain⟨p,c,hv,ho⟩:=h
 exact⟨p,c,hv,Own.kp ho k⟩
theorem aF.in {w:World} {B:Nat} {v:Value} {X:Int} {j:Nat} (h:aF w B v X) (hs:Sz X j):cz w v X j:=h.rd.to hs
def FO (X Y:Int):Rat:=if 0<Y/\Int.gcd X Y=1 then Rat.divInt X Y else 0
theorem qR {X Y:Int} (h:0<Y/\Int.gcd X Y=1):(FO X Y).num=X/\((FO X Y).den:Int)=Y:=by
 unfold FO
 rw[if_pos h,Rat.num_divInt,Rat.den_divInt,if_neg aa,Int.gcd_comm,h.2]
 have:Y.sign=1:=fj h.1
 rw[this]
 simp
 omega
theorem FP {X Y:Int} (h:¬ (0<Y/\Int.gcd X Y=1)):FO X Y=0:=if_neg h
theorem JR (q:Rat):FO q.num q.den=q:=by
 have h:(0:Int)<q.den/\Int.gcd q.num q.den=1:=⟨by have:=q.den_nz;omega,by have:=q.reduced;simpa [Int.gcd,Nat.Coprime] using this⟩
 obtain⟨h1,h2⟩:=qR h
 exact Rat.ext h1 aa
def dZ (w:World) (v:Value) (s:Bool) (xs:List Nat) (t:Bool) (ys:List Nat):Prop:=
 ∃ p c r d,v=.agg #[.bool s,.slice p xs.length c,.bool t,.slice r ys.length d]/\fi w (.agg #[.bool s,.slice p xs.length c]) s xs/\fi w (.agg #[.bool t,.slice r ys.length d]) t ys
def rq (s:Bool) (xs:List Nat) (t:Bool) (ys:List Nat):Rat:=FO (numOf s xs) (numOf t ys)
def df (w:World) (v:Value) (q:Rat) (k:Nat):Prop:=∃ s xs t ys,dZ w v s xs t ys/\q=rq s xs t ys/\xs.length<=k/\ys.length<=k
def fm (w:World) (v:Value) (q:Rat):Prop:=∃ s p n c t r m d,v=.agg #[.bool s,.slice p n c,.bool t,.slice r m d]/\cG w (.agg #[.bool s,.slice p n c]) q.num/\cG w (.agg #[.bool t,.slice r m d]) (q.den:Int)
def bQ (w:World) (B:Nat) (v:Value) (q:Rat):Prop:=∃ s p n c t r m d,v=.agg #[.bool s,.slice p n c,.bool t,.slice r m d]/\aF w B (.agg #[.bool s,.slice p n c]) q.num/\aF w B (.agg #[.bool t,.slice r m d]) (q.den:Int)
def lM (q:Rat) (k:Nat):Prop:=Sz q.num k/\Sz (q.den:Int) k
theorem dZ.kp {U:TypeId} {T:TypeId->Bool} {w w':World} {v:Value} {s t:Bool} {xs ys:List Nat} (h:dZ w v s xs t ys) (k:aK ⟨U,λ_=>True,T⟩ w w'):dZ w' v s xs t ys:=by
 obtain⟨p,c,r,d,hv,h1,h2⟩:=h
 exact⟨p,c,r,d,hv,h1.kp k,h2.kp k⟩
theorem df.kp {U:TypeId} {T:TypeId->Bool} {w w':World} {v:Value} {q:Rat} {j:Nat} (h:df w v q j) (k:aK ⟨U,λ_=>True,T⟩ w w'):df w' v q j:=by
 obtain⟨s,xs,t,ys,h1,h2⟩:=h
 exact⟨s,xs,t,ys,h1.kp k,h2⟩
theorem fm.kp {U:TypeId} {T:TypeId->Bool} {w w':World} {v:Value} {q:Rat} (h:fm w v q) (k:aK ⟨U,λ_=>True,T⟩ w w'):fm w' v q:=by
 obtain⟨s,p,n,c,t,r,m,d,hv,h1,h2⟩:=h
 exact⟨s,p,n,c,t,r,m,d,hv,h1.kp k,h2.kp k⟩
theorem bQ.kp {T:TypeId->Bool} {w w':World} {B:Nat} {v:Value} {q:Rat} (h:bQ w B v q) (k:aK ⟨UU,λ_=>True,T⟩ w w'):bQ w' B v q:=by
 obtain⟨s,p,n,c,t,r,m,d,hv,h1,h2⟩:=h
 exact⟨s,p,n,c,t,r,m,d,hv,h1.kp k,h2.kp k⟩
theorem bQ.mono {w:World} {B B':Nat} {v:Value} {q:Rat} (h:bQ w B v q) (hB:B'<=B):bQ w B' v q:=by
 obtain⟨s,p,n,c,t,r,m,d,hv,h1,h2⟩:=h
 exact⟨s,p,n,c,t,r,m,d,hv,h1.mono hB,h2.mono hB⟩
theorem bQ.rd {w:World} {B:Nat} {v:Value} {q:Rat} (h:bQ w B v q):fm w v q:=by
 obtain⟨s,p,n,c,t,r,m,d,hv,h1,h2⟩:=h
 exact⟨s,p,n,c,t,r,m,d,hv,h1.rd,h2.rd⟩
theorem bQ.cast {w:World} {B:Nat} {v:Value} {q q':Rat} (h:bQ w B v q) (e:q=q'):bQ w B v q':=e▸h
theorem cG.len4 {w:World} {s:Bool} {p:Option Addr} {n c:Nat} {X:Int} (h:cG w (.agg #[.bool s,.slice p n c]) X):s=decide (X<0)/\n=(limbs X.natAbs).length:=⟨h.LS,h.parts.1⟩
theorem fm.raw {w:World} {v:Value} {q:Rat} (h:fm w v q):dZ w v (decide (q.num<0)) (limbs q.num.natAbs) (decide ((q.den:Int)<0)) (limbs (q.den:Int).natAbs):=by
 obtain⟨s,p,n,c,t,r,m,d,rfl,h1,h2⟩:=h
 obtain⟨rfl,rfl⟩:=h1.len4
 obtain⟨rfl,rfl⟩:=h2.len4
 exact⟨p,c,r,d,rfl,h1,h2⟩
theorem fm.to {w:World} {v:Value} {q:Rat} {k:Nat} (h:fm w v q) (hs:lM q k):df w v q k:=
 ⟨_,_,_,_,h.raw,by unfold rq;rw[oh,oh,JR],hs.1,hs.2⟩
theorem bQ.in {w:World} {B:Nat} {v:Value} {q:Rat} {k:Nat} (h:bQ w B v q) (hs:lM q k):df w v q k:=h.rd.to hs
theorem lM.mono {q:Rat} {k l:Nat} (h:lM q k) (Ap:k<=l):lM q l:=⟨h.1.mono Ap,h.2.mono Ap⟩
theorem lM.zero:lM 0 1:=⟨Sz.zero.mono aa,Sz.small cH⟩
theorem rW {s:Bool} {xs:List Nat} {k:Nat} (hl:cL xs) (h:xs.length<=k):Sz (numOf s xs) k:=Nat.le_trans (zg hl) h
theorem df.sz {w:World} {v:Value} {q:Rat} {k:Nat} (h:df w v q k) (hk:1<=k):lM q k:=by
 obtain⟨s,xs,t,ys,⟨p,c,r,d,_,⟨_,_,_,_,l1⟩,⟨_,_,_,_,l2⟩⟩,rfl,h1,h2⟩:=h
 unfold rq
 by_cases hr:0<numOf t ys/\Int.gcd (numOf s xs) (numOf t ys)=1
 ·obtain⟨e1,e2⟩:=qR hr
  exact⟨by rw[e1];exact rW l1 h1,by rw[e2];exact rW l2 h2⟩
 ·rw[FP hr];exact lM.zero.mono hk
theorem df.form {w:World} {v:Value} {q:Rat} {k:Nat} (h:df w v q k):∃ s p n c t r m d,v=.agg #[.bool s,.slice p n c,.bool t,.slice r m d]:=by
 obtain⟨s,xs,t,ys,⟨p,c,r,d,hv,_⟩,_⟩:=h
 exact⟨_,_,_,_,_,_,_,_,hv⟩
theorem fm.parts {w:World} {s t:Bool} {p r:Option Addr} {n c m d:Nat} {q:Rat} (h:fm w (.agg #[.bool s,.slice p n c,.bool t,.slice r m d]) q):cG w (.agg #[.bool s,.slice p n c]) q.num/\cG w (.agg #[.bool t,.slice r m d]) (q.den:Int):=by
 obtain⟨s',p',n',c',t',r',m',d',hv,h1,h2⟩:=h
 simp only[Value.agg.injEq,Array.mk.injEq,List.cons.injEq,and_true] at hv
 obtain⟨e1,e2,e3,e4⟩:=hv
 rw[e1,e2,e3,e4]
 exact⟨h1,h2⟩
theorem fm.form {w:World} {v:Value} {q:Rat} (h:fm w v q):∃ s p n c t r m d,v=.agg #[.bool s,.slice p n c,.bool t,.slice r m d]:=by
 obtain⟨s,p,n,c,t,r,m,d,hv,_⟩:=h
 exact⟨_,_,_,_,_,_,_,_,hv⟩
theorem bQ.form {w:World} {B:Nat} {v:Value} {q:Rat} (h:bQ w B v q):∃ s p n c t r m d,v=.agg #[.bool s,.slice p n c,.bool t,.slice r m d]:=h.rd.form
theorem vF {X Y:Int} (hY:0<Y):X.fdiv (Int.gcd X Y:Int)=(Rat.divInt X Y).num/\Y.fdiv (Int.gcd X Y:Int)=((Rat.divInt X Y).den:Int):=by
 have hg:(0:Int)<(Int.gcd X Y:Int):=by
  have:Int.gcd X Y≠0:=λe=>by have:=(Int.gcd_eq_zero_iff.1 e).2;omega
  omega
 rw[Rat.num_divInt,Rat.den_divInt,if_neg aa,fj hY,Int.one_mul,Int.gcd_comm Y X]
 refine⟨Int.fdiv_eq_ediv_of_nonneg _ aa,?_⟩
 rw[Int.fdiv_eq_ediv_of_nonneg _ aa,Int.natCast_ediv]
 congr 1
 omega
theorem low_neg {X Y:Int} (hY:Y<0):X.fdiv (-(Int.gcd X Y:Int))=(Rat.divInt X Y).num/\Y.fdiv (-(Int.gcd X Y:Int))=((Rat.divInt X Y).den:Int):=by
 have e:Rat.divInt X Y=Rat.divInt (-X) (-Y):=(Rat.neg_divInt_neg X Y).symm
 obtain⟨h1,h2⟩:=vF (X:= -X) (Y:= -Y) aa
 rw[Int.neg_gcd,Int.gcd_neg] at h1 h2
 rw[e,<-h1,<-h2]
 have fd:∀ a b:Int,(-a).fdiv b=a.fdiv (-b):=λa b=>by rw[<-Int.neg_fdiv_neg,Int.neg_neg]
 exact⟨(fd _ _).symm,(fd _ _).symm⟩
end
set_option maxRecDepth 4000
section
open Go.RowKit
attribute [local irreducible] aB VS
theorem jv (v:Value) (X:Int) (k:Nat) (w:World) (h:cz w v X k):
  Calls Tryz.prog 196 #[v] w λe w'=>∃ u,e=.returned u/\cG w' u X/\ax w w':=
 (qQ v X k w w h (ax.refl w)).mono λe w' ⟨u,he,h1,h2⟩=>⟨u,he,h1.az h2,h2⟩
theorem cG.row {w:World} {s:Bool} {p:Option Addr} {n c:Nat} {X:Int} (h:cG w (.agg #[.bool s,.slice p n c]) X):Rd w 1 (.slice p n c) n (ints .u32 (limbs X.natAbs)):=h.parts.2.1
theorem cG.n {w:World} {s:Bool} {p:Option Addr} {n c:Nat} {X:Int} (h:cG w (.agg #[.bool s,.slice p n c]) X):n=(limbs X.natAbs).length:=h.parts.1
theorem nc {s:Bool} {X:Int} (h:s=decide (X<0)):X=if s=true then-(X.natAbs:Int) else X.natAbs:=by
 subst h
 by_cases hx:X<0
 ·simp[hx];omega
 ·simp[hx];omega
theorem VO.cB {C:Cx} {F:Fr} {H:Hp} {w:World} {m:Option (List FuncId)} {full:Array Oper} {K:Fr->Hp->World->Prop} {o:Oper} {r:List Oper} {g:FuncId} {args:List AV} {vs:List Value} {v:Value} (e:stepOf C full F H o=.call (.fn g args)) (hv:fR args=some vs) (hf:wR C.P g) (con:∀ w1,aK C.K w w1->C.Old w1->Calls C.P g vs.toArray w1 λe w2=>e=.returned v/\ax w1 w2) (h:∀ w1,aK C.K w w1->C.Old w1->∀ w2,ax w1 w2->aK C.K w w2->aK C.K w1 w2->C.Old w2->aB C m full r K (F.bo o.dst (.val v)) H w2):aB C m full (o::r) K F H w:=
 VO.call e hv hf λw1 a b=>(con w1 a b).mono λ_ w2 x=>⟨v,x.1,x.2,h w1 a b w2 x.2⟩
theorem VO.cR {C:Cx} {F:Fr} {H:Hp} {w:World} {m:Option (List FuncId)} {full:Array Oper} {K:Fr->Hp->World->Prop} {o:Oper} {r:List Oper} {g:FuncId} {args:List AV} {vs:List Value} {Φ:World->World->Value->Prop} (e:stepOf C full F H o=.call (.fn g args)) (hv:fR args=some vs) (hf:wR C.P g) (con:∀ w1,aK C.K w w1->C.Old w1->Calls C.P g vs.toArray w1 λe w2=>∃ r,e=.returned r/\Φ w1 w2 r/\ax w1 w2) (h:∀ w1,aK C.K w w1->C.Old w1->∀ w2 (s:Bool) (p:Option Addr) (n c:Nat) (t:Bool) (y:Option Addr) (i j:Nat),Φ w1 w2 (.agg #[.bool s,.slice p n c,.bool t,.slice y i j])->ax w1 w2->aK C.K w w2->aK C.K w1 w2->C.Old w2->aB C m full r K (F.bo o.dst (.val (.agg #[.bool s,.slice p n c,.bool t,.slice y i j]))) H w2) (hΦ:∀ w1 w2 r,Φ w1 w2 r->∃ s p n c t y i j,r=.agg #[.bool s,.slice p n c,.bool t,.slice y i j]:=by exact λ_ _ _ h=>h.form):aB C m full (o::r) K F H w:=
 VO.call e hv hf λw1 a b=>(con w1 a b).mono λ_ w2 ⟨r,x1,x2,x3⟩=>by
   obtain⟨s,p,n,c,t,y,i,j,rfl⟩:=hΦ _ _ _ x2
   exact⟨_,x1,x3,h w1 a b w2 s p n c t y i j x2 x3⟩
theorem VO.cI {C:Cx} {F:Fr} {H:Hp} {w:World} {m:Option (List FuncId)} {full:Array Oper} {K:Fr->Hp->World->Prop} {o:Oper} {r:List Oper} {g:FuncId} {args:List AV} {vs:List Value} {Φ:World->World->Value->Prop} (e:stepOf C full F H o=.call (.fn g args)) (hv:fR args=some vs) (hf:wR C.P g) (con:∀ w1,aK C.K w w1->C.Old w1->Calls C.P g vs.toArray w1 λe w2=>∃ r,e=.returned r/\Φ w1 w2 r/\ax w1 w2) (h:∀ w1,aK C.K w w1->C.Old w1->∀ w2 (s:Bool) (p:Option Addr) (n c:Nat),Φ w1 w2 (.agg #[.bool s,.slice p n c])->ax w1 w2->aK C.K w w2->aK C.K w1 w2->C.Old w2->aB C m full r K (F.bo o.dst (.val (.agg #[.bool s,.slice p n c]))) H w2) (hΦ:∀ w1 w2 r,Φ w1 w2 r->∃ s p n c,r=.agg #[.bool s,.slice p n c]:=by exact λ_ _ _ h=>h.form):aB C m full (o::r) K F H w:=
 VO.call e hv hf λw1 a b=>(con w1 a b).mono λ_ w2 ⟨r,x1,x2,x3⟩=>by
   obtain⟨s,p,n,c,rfl⟩:=hΦ _ _ _ x2
   exact⟨_,x1,x3,h w1 a b w2 s p n c x2 x3⟩
theorem ae {P Q:Prop} (h:Q) (i:Q->P:=by intro h;(repeat first|refine wN ?_|refine wP rfl ?_|refine cx_r rfl ?_|refine cx_d rfl ?_|refine wO rfl rfl ?_);exact h):P:=i h
theorem cP {P Q X:Prop} (hb:X) (h:Q) (i:X->Q->P:=by intro hb h;refine⟨_,rfl,hb,λa b c=>wV rfl ?_⟩;refine ae ?_;revert a b c;exact h):P:=i hb h
theorem bV {P Q:Prop} (h:Q) (i:Q->P:=by intro h;exact VS.ret (cV _ _) rfl rfl h):P:=i h
theorem xw (v:Value) (X:Int) (j:Nat) (w:World) (hv:cz w v X j) (hj:j<=1073741824):
  Calls Tryz.prog 194 #[v] w λe w'=>∃ r,e=.returned r/\aF w' w.heap.size r (-X)/\ax w w':=by
 obtain⟨s,p,n,c,rfl⟩:=hv.form
 have hl:=hv.len
 refine ai (C:=bj Tryz.prog w _) (args:=[_]) Tryz.func194 rfl Tryz.ntmps194 (cr rfl) ?_
 refine ae ?_
 refine VO.call rfl rfl (fk Tryz.func196) (λbL dw bX=>(jv _ X j bL (hv.kp dw)).mono ?_)
 rintro e w1 ⟨r1,rfl,h1,bl⟩
 obtain⟨s1,p1,n1,c1,rfl⟩:=h1.gZ
 refine cP bl ?_
 intro eM _ bb1
 refine VO.call rfl rfl (fk Tryz.func196) (λdh eU dQ=>(jv _ X j dh (hv.kp ((eM).aH eU))).mono ?_)
 rintro e w2 ⟨r2,rfl,h2,bM⟩
 obtain⟨s2,p2,n2,c2,rfl⟩:=h2.gZ
 refine cP bM ?_
 intro gr _ bb2
 refine VO.cI rfl rfl (fk Tryz.func197) (λgz gJ iL=>iK (!s1) _ n2 _ gz (h2.row.kp gJ) (aA _) (by rw[h2.n];omega)) (λgz gJ iL w3 s3 p3 n3 c3 h3 dU lN _ bb3=>wV rfl ?_)
 refine ae ?_
 refine bV ?_;intro wz kz bz
 refine⟨_,rfl,aF.cast ((h3.kp kz).mono iL.size) ?_,bz⟩
 rw[ak]
 have:=nc h1.LS
 cases s1 <;> simp at this ⊢ <;> omega
theorem rX (v u:Value) (X Y:Int) (j k:Nat) (w:World) (hv:cz w v X j) (hu:cz w u Y k) (hj:j<=536870912) (hk:k<=536870911):
  Calls Tryz.prog 140 #[v,u] w λe w'=>∃ r,e=.returned r/\aF w' w.heap.size r (X+Y)/\ax w w':=by
 obtain⟨s,p,n,c,rfl⟩:=hv.form
 obtain⟨t,q,m,d,rfl⟩:=hu.form
 have rj:=hv.len
 have nM:=hu.len
 refine ai (C:=bj Tryz.prog w _) (args:=[_,_]) Tryz.func140 rfl Tryz.ntmps140 (cr rfl) ?_
 refine ae ?_
 refine VO.call rfl rfl (fk Tryz.func196) (λbL dw bX=>(jv _ X j bL (hv.kp dw)).mono ?_)
 rintro e w1 ⟨r1,rfl,h1,bl⟩
 obtain⟨s1,p1,n1,c1,rfl⟩:=h1.gZ
 refine cP bl ?_
 intro eM _ bb1
 refine VO.call rfl rfl (fk Tryz.func196) (λdh eU dQ=>(jv _ Y k dh (hu.kp ((eM).aH eU))).mono ?_)
 rintro e w2 ⟨r2,rfl,h2,bM⟩
 obtain⟨s2,p2,n2,c2,rfl⟩:=h2.gZ
 refine cP bM ?_
 intro gr _ bb2
 have e1:=nc h1.LS
 have e2:=nc h2.LS
 have nP:n1<=536870912:=by rw[h1.n];omega
 have DC:n2<=536870911:=by rw[h2.n];omega
 by_cases hst:s1=s2
 ·subst hst
  refine VS.aU rfl ew ?_
  refine ae ?_
  refine VO.call rfl rfl (fk Tryz.func198) (λgz gJ iL=>(JP _ _ n1 n2 _ _ gz (h1.row.kp (eU.aH ((Kp.of bM).aH gJ))) (h2.row.kp gJ) (aA _) (aA _) aa aa).mono ?_)
  rintro e w3 ⟨v3,rfl,h3,dU⟩
  obtain⟨p3,c3,rfl,_⟩:=Own.form h3
  refine cP dU ?_
  intro lN _ bb3
  refine VO.cI rfl rfl (fk Tryz.func197) (λjw kX kY=>iK s1 _ _ _ jw (Rd.own (Own.kp h3 kX)) (aA _) (by have:=sum_len (a:=aj (limbs X.natAbs)) (b:=aj (limbs Y.natAbs)) (n:=n1) (m:=n2) (by rw[ak];exact h1.n) (by rw[ak];exact h2.n);omega)) (λjw kX kY w4 s4 p4 n4 c4 h4 iX oK _ zJ=>wV rfl ?_)
  refine ae ?_
  refine bV ?_;intro wz kz bz
  refine⟨_,rfl,aF.cast ((h4.kp kz).mono kY.size) ?_,bz⟩
  rw[ak,ak,ak]
  cases s1 <;> simp at e1 e2 ⊢ <;> omega
 ·refine VS.aN rfl (by simpa using hst) ?_
  refine ae ?_
  refine VO.call rfl rfl (fk Tryz.func199) (λgz gJ iL=>(zH _ _ n1 n2 _ _ gz (h1.row.kp (eU.aH ((Kp.of bM).aH gJ))) (h2.row.kp gJ) (aA _) (aA _) aa aa).mono ?_)
  rintro e w3 ⟨h3,dU⟩
  rw[ak,ak] at h3
  rcases h3 with ⟨hlt,rfl⟩|⟨hle,v3,rfl,h3⟩
  ·refine cP dU ?_
   intro lN _ bb3
   refine VO.call rfl rfl (fk Tryz.func199) (λjw kX kY=>(zH _ _ n2 n1 _ _ jw (h2.row.kp (gJ.aH ((Kp.of dU).aH kX))) (h1.row.kp (eU.aH ((Kp.of bM).aH (gJ.aH ((Kp.of dU).aH kX))))) (aA _) (aA _) aa aa).mono ?_)
   rintro e w4 ⟨h4,iX⟩
   rw[ak,ak] at h4
   rcases h4 with ⟨hlt',rfl⟩|⟨hle',v4,rfl,h4⟩
   ·omega
   ·obtain⟨p4,c4,rfl,_⟩:=Own.form h4
    refine cP iX ?_
    intro oK _ zJ
    refine VO.cI rfl rfl (fk Tryz.func197) (λjU kZ lO=>iK s2 _ _ _ jU (Rd.own (Own.kp h4 kZ)) (aA _) (by have:=cY (show Y.natAbs-X.natAbs<=Y.natAbs by omega);omega)) (λjU kZ lO w5 s5 p5 n5 c5 h5 kj pQ _ AM=>wV rfl ?_)
    refine ae ?_
    refine bV ?_;intro wz kz bz
    refine⟨_,rfl,aF.cast ((h5.kp kz).mono lO.size) ?_,bz⟩
    rw[ak]
    cases s1 <;> cases s2 <;> simp at e1 e2 hst ⊢ <;> omega
  ·obtain⟨p3,c3,rfl,_⟩:=Own.form h3
   refine cP dU ?_
   intro lN _ bb3
   refine VO.cI rfl rfl (fk Tryz.func197) (λjU kZ lO=>iK s1 _ _ _ jU (Rd.own (Own.kp h3 kZ)) (aA _) (by have:=cY (show X.natAbs-Y.natAbs<=X.natAbs by omega);omega)) (λjU kZ lO w5 s5 p5 n5 c5 h5 kj pQ _ AM=>wV rfl ?_)
   refine ae ?_
   refine bV ?_;intro wz kz bz
   refine⟨_,rfl,aF.cast ((h5.kp kz).mono lO.size) ?_,bz⟩
   rw[ak]
   cases s1 <;> cases s2 <;> simp at e1 e2 hst ⊢ <;> omega
theorem DM (v u:Value) (X Y:Int) (j k:Nat) (w:World) (hv:cz w v X j) (hu:cz w u Y k) (hj:j<=536870912) (hk:k<=536870911):
  Calls Tryz.prog 261 #[v,u] w λe w'=>∃ r,e=.returned r/\aF w' w.heap.size r (X-Y)/\ax w w':=by
 obtain⟨s,p,n,c,rfl⟩:=hv.form
 obtain⟨t,q,m,d,rfl⟩:=hu.form
 refine ai (C:=bj Tryz.prog w _) (args:=[_,_]) Tryz.func261 rfl Tryz.ntmps261 (cr rfl) ?_
 refine ae ?_
 refine VO.cI rfl rfl (fk Tryz.func194) (λbL dw bX=>xw _ Y k bL (hu.kp dw) aa) (λbL dw bX w1 s1 p1 n1 c1 h1 bl eM _ bb1=>wV rfl ?_)
 refine ae ?_
 refine VO.cI rfl rfl (fk Tryz.func140) (λdh eU dQ=>rX _ _ X (-Y) j k dh (hv.kp ((eM).aH eU)) ((h1.kp eU).in (Sz.neg hu.len)) hj hk) (λdh eU dQ w2 s2 p2 n2 c2 h2 bM gr _ bb2=>wV rfl ?_)
 refine ae ?_
 refine bV ?_;intro wz kz bz
 exact⟨_,rfl,aF.cast ((h2.kp kz).mono dQ.size) (Int.sub_eq_add_neg).symm,bz⟩
end
section
open Go.RowKit
attribute [local irreducible] aB VS
set_option maxRecDepth 100000 in
theorem ib (p:Option Addr) (n c:Nat) (xs:List Nat) (w:World) (hr:Rd w 1 (.slice p n c) n (ints .i64 xs)) (hl:gl xs):
  Calls Tryz.prog 267 #[.slice p n c] w λe w'=>(∃ m,m<=n/\e=.returned (.slice p m c)/\halves (hval xs)=xs.take m)/\w=w':=by
 obtain⟨p',c',hv,gg,gF,fc⟩:=hr.i64
 simp only[Value.slice.injEq,true_and] at hv
 obtain⟨rfl,rfl⟩:=hv
 have HX:Hid (xs.length=n):=fc
 clear fc
 refine aV λR' bK=> ?_
 go_enter Tryz.func267,Tryz.ntmps267
 go_wp2
 go_loop [0] (λv=>∃ m,m<=n/\v=.slice p m c/\hval (xs.take m)=hval xs) (λv=>match v with | .slice _ m _=>m|_=>0)
 case atStart=>exact⟨n,Nat.le_refl _,rfl,by rw[List.take_of_length_le (Nat.le_of_eq HX.out)]⟩
 case round=>
  obtain⟨m,hm,rfl,hv⟩:=hrel
  have HV:Hid (hval (xs.take m)=hval xs):=hv
  clear hv
  by_cases h0:m=0
  ·subst h0
   go_wp2
   exact bK.out _ _ ⟨⟨0,Nat.zero_le _,rfl,kf aa hl (Nat.zero_le _) HV.out (.inl rfl)⟩,rfl⟩
  ·obtain⟨b,off,x,rfl,hb,hx,hc⟩:=hr.cellAt (k:=m-1) aa
   have Ls:Hid (xs[m-1]? =some x):=hx
   clear hx
   have h0':0<m:=by omega
   obtain⟨j,rfl⟩:∃ j,m=j+1:=⟨m-1,by omega⟩
   rw[Nat.add_sub_cancel] at hc
   by_cases nG:x=0
   ·subst nG
    go_wp2
    go_round
    case rel=>exact⟨j,by omega,rfl,(lf Ls.out).symm.trans HV.out⟩
    case measure=>simp
   ·have hx0':((x:Int) == 0)=false:=by rw[beq_eq_false_iff_ne];omega
    go_wp2
    exact bK.out _ _ ⟨⟨j+1,hm,rfl,kf aa hl (by rw[HX.out];exact hm) HV.out (.inr ⟨x,Ls.out,nG⟩)⟩,rfl⟩
set_option maxRecDepth 100000 in
theorem AO (va:Value) (n:Nat) (xs:List Nat) (w:World) (hr:Rd w 1 va n (ints .u32 xs)) (hl:cL xs) (hn:n<=1073741824):
  Calls Tryz.prog 202 #[va] w λe w'=>∃ v',e=.returned v'/\w'.ownsRow w.heap.size 3 1 v' (halves (aj xs)).length (ints .i64 (halves (aj xs)))/\Below w.heap.size w w':=by
 obtain⟨p,c,rfl,gg,gF,fc⟩:=hr.u32
 obtain⟨i0,hi,iW,fI,jf⟩:=info_parts vD
 obtain⟨B,hB⟩:∃ B,B=w.heap.size:=⟨_,rfl⟩
 have HB:=Lib.hid hB
 have Hr:=Lib.hid hr
 have HL:=Lib.hid hl
 have HX:=Lib.hid fc
 rw[<-hB]
 clear hr hl fc hB
 refine aV λR' bK=> ?_
 go_enter Tryz.func202,Tryz.ntmps202
 go_wp2
 go_loopw [3,4] (λov iv wr=>Ih w B xs ov iv wr) (λ_ iv _=>n-(intOf iv).toNat)
 case atStart=>exact⟨0,[],Nat.zero_le _,rfl,rfl,eu.nil _,rfl,World.ownsRow_nil _ _ _ _,Below.refl _ _⟩
 case round=>
  obtain⟨k,hs,hk,rfl,hhl,hhh,hhv,aI,hb⟩:=hrel
  have HK:=Lib.hid hk
  have HO:=Lib.hid aI
  have HHL:=Lib.hid hhl
  have HHH:=Lib.hid hhh
  have HHV:=Lib.hid hhv
  have gM:=Lib.hid hb
  have sS:B<=wr.heap.size:=by have:=hb.size;have:=HB.out;omega
  have hkn':k<=n:=by rw[<-HX.out];exact hk
  clear hk aI hhl hhh hhv hb
  by_cases nO:k<n
  ·obtain⟨b1,o1,x,rfl,bl,fP,hcw⟩:=Hr.out.cellAt nO
   have nN:=(gM.out.cell (p:=⟨b1,o1+k,none⟩) (by rw[HB.out];exact bl)).trans hcw
   have hne:=Lp HO.out (b:=b1) (by rw[HB.out];exact bl)
   have vn:=Lib.hid fP
   have jV:=HL.out.at fP
   have HNE:=Lib.hid hne
   have zc:(0:Int)<=(k:Int):=by omega
   have tw:(k:Int)<(n:Int):=by omega
   clear fP hcw hne
   go_wp2_with fail
   go_region_held3 (λw'=>w'.cell? ⟨b1,o1+k,none⟩=some (.int .u32 (x:Int))) (first|exact nN|go_keep|exact yW xr nN HNE.out)
    ((refine od (by rfl) _ _ 315 (by rfl) B 3 i0 (.int .i64 0) 1 8 Tryz.underlying315 hi iW fI jf rfl aa _ (2*k) (ints .i64 hs) (by rfl) ((HO.out.alloc _).drew) _ 2 (ints .i64 [x%65536,x/65536]) (by rfl) (Rd.drew (Rd.lit2 (Ii jV) (Ij jV))) (lU .i64 [x%65536,x/65536]) (by unfold maxLen;omega) aa (by simp;omega) ?_;intro v1 w1 fM xr))
   have re:=Lib.hid fM
   have HG1:=Lib.hid xr
   clear fM xr
   go_wp2_with fail
   go_roundw
   case rel=>
    have hst:=zF vn.out jV HHL.out HHH.out HHV.out
    exact⟨k+1,hs++[x%65536,x/65536],by rw[HX.out];omega,by go_num,by simp[HHL.out];omega,hst.1,hst.2,by rw[gW];exact re.out,Below.behind gM.out sS HG1.out HO.out (Nat.le_refl _)⟩
   case measure=>simp[intOf];omega
  ·obtain rfl:k=n:=by omega
   obtain⟨p1,c1,Bv,_,_,_⟩:=Own.form HO.out
   have HV1:=Lib.hid Bv
   have Am:Hid (hval hs=aj xs):=by show _=_;rw[HHV.out,bD (Nat.le_of_eq HX.out)]
   subst Bv
   go_wp2_with fail
   refine (ib p1 (2*k) c1 hs _ (Rd.own HO.out) HHH.out).mono ?_
   rintro e w2 ⟨⟨m,hm,rfl,yr⟩,rfl⟩
   have HC:=Own.cut HO.out hm yr
   rw[Am.out] at HC
   have HC1:=Lib.hid HC.1
   have HC2:=Lib.hid HC.2
   clear HC yr
   go_wp2_with fail
   refine bK.out _ _ ⟨_,rfl,?_,gM.out⟩
   have:=HC1.out
   rw[<-HC2.out] at this ⊢
   exact this
theorem MI {n:Int} (h0: -9223372036854775808<=n) (h1:n<=9223372036854775807):nQ (n.tmod 4294967296) [IntKind.i64.wrap (0-n.tmod 4294967296)]=((n.natAbs%4294967296:Nat):Int):=by
 have e:(n.tmod 4294967296).natAbs=n.natAbs%4294967296:=by rw[Int.natAbs_tmod];rfl
 have hs:(0<=n->0<=n.tmod 4294967296):=λh=>Int.tmod_nonneg _ h
 have hs':(n<=0->n.tmod 4294967296<=0):=λh=>by have:=Int.tmod_nonneg 4294967296 (show 0<=-n by omega);rw[Int.neg_tmod] at this;omega
 rw[IntWalk.i64_in _ aa]
 unfold nQ nQ
 split <;> omega
theorem MJ {n:Int} (h0: -9223372036854775808<=n) (h1:n<=9223372036854775807):nQ (IntKind.i64.wrap (n.tdiv 4294967296)) [IntKind.i64.wrap (0-IntKind.i64.wrap (n.tdiv 4294967296))]=((n.natAbs/4294967296:Nat):Int):=by
 have e:(n.tdiv 4294967296).natAbs=n.natAbs/4294967296:=by rw[Int.natAbs_tdiv];rfl
 have hs:(0<=n->0<=n.tdiv 4294967296):=λh=>Int.tdiv_nonneg h aa
 have hs':(n<=0->n.tdiv 4294967296<=0):=λh=>by have:=Int.tdiv_nonneg (show 0<=-n by omega) (show (0:Int)<=4294967296 by omega);rw[Int.neg_tdiv] at this;omega
 have hb:n.natAbs/4294967296<=2147483648:=by omega
 rw[IntWalk.i64_in (n.tdiv 4294967296) aa,IntWalk.i64_in _ aa]
 unfold nQ nQ
 split <;> omega
theorem Ip {x:Nat} (h:x<4294967296):IntKind.u32.wrap (x:Int)=(x:Int):=by rw[IntKind.wrap_u32',Int.emod_eq_of_lt aa aa]
theorem ng (n:Int) (w:World) (h0: -9223372036854775808<=n) (h1:n<=9223372036854775807):
  Calls Tryz.prog 142 #[.int .i64 n] w λe w'=>∃ r,e=.returned r/\aF w' w.heap.size r n/\ax w w':=by
 have e1:=MI h0 h1
 have e2:=MJ h0 h1
 have g1:=Nat.mod_lt n.natAbs (show 0<4294967296 by omega)
 have g2:n.natAbs/4294967296<4294967296:=by omega
 refine ai (C:=bj Tryz.prog w _) (args:=[_]) Tryz.func142 rfl Tryz.ntmps142 (cr rfl) ?_
 refine ae ?_
 refine VO.lit (cV _ _) [.int .u32 (IntKind.u32.wrap (nQ (n.tmod 4294967296) [IntKind.i64.wrap (0-n.tmod 4294967296)])),.int .u32 (IntKind.u32.wrap (nQ (IntKind.i64.wrap (n.tdiv 4294967296)) [IntKind.i64.wrap (0-IntKind.i64.wrap (n.tdiv 4294967296))]))] rfl rfl rfl rfl rfl rfl rfl rfl rfl aa (λw2 b k2 b2 ho=>wV rfl ?_)
 rw[e1,e2,Ip g1,Ip g2] at ho
 refine VO.cI rfl rfl (fk Tryz.func197) (λgz gJ iL=>iK (decide (n<0)) _ 2 [n.natAbs%4294967296,n.natAbs/4294967296] gz (Rd.own (Own.kp (cs:=ints .u32 [n.natAbs%4294967296,n.natAbs/4294967296]) ho gJ)) (eu.cons g1 (eu.cons g2 (eu.nil _))) aa) (λgz gJ iL w3 s3 p3 n3 c3 h3 dU lN _ bb3=>wV rfl ?_)
 refine ae ?_
 refine bV ?_;intro wz kz bz
 refine⟨_,rfl,aF.cast ((h3.kp kz).mono iL.size) ?_,bz⟩
 rw[fH,fH,eN]
 by_cases hn:n<0
 ·simp only[hn,decide_true,if_true];omega
 ·simp only[hn,decide_false];simp;omega
end
section
open Go.RowKit
def lv (ls:List Nat) (k j:Nat):Nat:=(if 2*j<k then ls.getD (2*j) 0 else 0)+65536*(if 2*j+1<k then ls.getD (2*j+1) 0 else 0)
def yo (ls:List Nat) (m k:Nat):List Nat:=(List.range m).map (lv ls k)
theorem ML (ls:List Nat) (m:Nat):yo ls m 0=List.replicate m 0:=by
 apply List.ext_getElem
 ·simp[yo]
 ·intro i h1 h2;simp[yo,lv]
theorem MM {ls:List Nat} {m j x:Nat} (hx:ls[2*j]? =some x):(yo ls m (2*j)).set j x=yo ls m (2*j+1):=by
 apply List.ext_getElem
 ·simp[yo]
 ·intro i h1 h2
  simp only[yo,List.getElem_set,List.getElem_map,List.getElem_range]
  by_cases e:j=i
  ·subst e
   rw[if_pos rfl]
   unfold lv
   rw[if_pos aa,if_neg aa,List.getD_eq_getElem?_getD,hx];rfl
  ·rw[if_neg e]
   unfold lv
   congr 1
   ·by_cases h:2*i<2*j
    ·rw[if_pos h,if_pos aa]
    ·rw[if_neg h,if_neg aa]
   ·by_cases h:2*i+1<2*j
    ·rw[if_pos h,if_pos aa]
    ·rw[if_neg h,if_neg aa]
theorem lds_odd {ls:List Nat} {m j x y:Nat} (hy:(yo ls m (2*j+1))[j]? =some y) (hx:ls[2*j+1]? =some x):(yo ls m (2*j+1)).set j (y+65536*x)=yo ls m (2*j+2):=by
 have hy':y=ls.getD (2*j) 0:=by
  obtain⟨h,rfl⟩:=List.getElem?_eq_some_iff.1 hy
  simp only[yo,List.getElem_map,List.getElem_range]
  unfold lv
  rw[if_pos aa,if_neg aa];rfl
 apply List.ext_getElem
 ·simp[yo]
 ·intro i h1 h2
  simp only[yo,List.getElem_set,List.getElem_map,List.getElem_range]
  by_cases e:j=i
  ·subst e
   rw[if_pos rfl]
   unfold lv
   rw[if_pos aa,if_pos aa,hy']
   congr 2
   rw[List.getD_eq_getElem?_getD,hx];rfl
  ·rw[if_neg e]
   unfold lv
   congr 1
   ·by_cases h:2*i<2*j+1
    ·rw[if_pos h,if_pos aa]
    ·rw[if_neg h,if_neg aa]
   ·by_cases h:2*i+1<2*j+1
    ·rw[if_pos h,if_pos aa]
    ·rw[if_neg h,if_neg aa]
theorem lds_end {ls:List Nat} (h:gl ls) {m:Nat} (hm:ls.length<=2*m):aj (yo ls m ls.length)=hval ls/\cL (yo ls m ls.length):=by
 have hb:∀ k,ls.getD k 0<65536:=λk=>ky h k
 have CD:∀ j,lv ls ls.length j=ls.getD (2*j) 0+65536*ls.getD (2*j+1) 0:=λj=>by
  unfold lv
  congr 1
  ·split
   ·rfl
   ·rw[ia aa]
  ·split
   ·rfl
   ·rw[ia aa]
 constructor
 ·have key:∀ j,j<=m->aj ((yo ls m ls.length).take j)=hval (ls.take (2*j)):=by
   intro j
   induction j with
   | zero=>intro _;rfl
   | succ j ih=>
     intro hj
     rw[bh,ih aa]
     have e:(yo ls m ls.length).getD j 0=ls.getD (2*j) 0+65536*ls.getD (2*j+1) 0:=by
      rw[List.getD_eq_getElem?_getD]
      simp[yo,show j<m by omega,CD]
     rw[e]
     show _=val 65536 (ls.take (2*j+1+1))
     rw[cw,cw,Nat.mul_add,<-Nat.mul_assoc,Nat.pow_succ 65536 (2*j),Nat.pow_mul]
     show val 65536 _+_=_
     rw[Nat.add_assoc]
  have:=key m (Nat.le_refl _)
  rw[List.take_of_length_le (by simp[yo]),List.take_of_length_le hm] at this
  exact this
 ·intro x hx
  obtain⟨j,_,rfl⟩:=List.mem_map.1 hx
  rw[CD]
  have:=hb (2*j)
  have:=hb (2*j+1)
  omega
def JS (w:World) (B g m:Nat) (ls:List Nat) (iv:Value) (wr:World):Prop:=
 ∃ k,k<=ls.length/\iv=.int .i64 (k:Int)/\wr.ownsRow B 78 1 (.slice (some ⟨g,0,none⟩) m m) m (ints .u32 (yo ls m k))/\Below B w wr
set_option maxRecDepth 100000 in
theorem DN (va:Value) (n:Nat) (ls:List Nat) (w:World) (hr:Rd w 1 va n (ints .i64 ls)) (hl:gl ls) (hn:n<=2147483656):
  Calls Tryz.prog 200 #[va] w λe w'=>∃ v' xs,e=.returned v'/\xs.length=(n+1)/2/\w'.ownsRow w.heap.size 78 1 v' ((n+1)/2) (ints .u32 xs)/\aj xs=hval ls/\cL xs/\Below w.heap.size w w':=by
 obtain⟨p,c,rfl,gg,gF,fc⟩:=hr.i64
 obtain⟨i0,hi,iW,fI,jf⟩:=info_parts js
 obtain⟨B,hB⟩:∃ B,B=w.heap.size:=⟨_,rfl⟩
 have HB:=Lib.hid hB
 have Hr:=Lib.hid hr
 have HL:=Lib.hid hl
 have HX:=Lib.hid fc
 obtain⟨m,hm⟩:∃ m,m=(n+1)/2:=⟨_,rfl⟩
 have HM:=Lib.hid hm
 have hmn:n<=2*m:=by omega
 have hmb:m<=1073741828:=by omega
 have hq:((n:Int)+1)/2=(m:Int):=by omega
 rw[<-hB,<-hm]
 clear hr hl fc hB hm
 refine aV λR' bK=> ?_
 go_enter Tryz.func200,Tryz.ntmps200
 go_wp2_with (at_make;refine wpList_make_full _ rfl _ _ 23 rfl B 78 i0 (.int .u32 0) 1 Tryz.underlying23 hi iW fI .i64 .i64 _ _ m rfl rfl hq hq (by rw[jf];omega) (by unfold maxLen;omega) (Nat.le_of_eq HB.out) ?_;intro w1 aI Jf)
 have EY:=Lib.hid (Own.made aI)
 have Hb1:Hid (Below B w w1):=(Below.refl _ _).grown Jf (Nat.le_of_eq HB.out) (λk hk=>by cases hk)
 clear aI Jf hq
 go_wp2_with fail
 go_loopw [4] (λiv wr=>JS w B w.heap.size m ls iv wr) (λiv _=>n-(intOf iv).toNat)
 case atStart=>exact⟨0,Nat.zero_le _,rfl,by rw[ML];have:=EY.out;rw[List.nil_append] at this;exact this,Hb1.out⟩
 case round=>
  obtain⟨k,hk,rfl,aI,hb⟩:=hrel
  have nK:=Lib.hid aI
  have oe:=Lib.hid hb
  have nO:k<=n:=by rw[<-HX.out];exact hk
  clear aI hb hk
  by_cases hlt:k<n
  ·obtain⟨b1,o1,x,rfl,bl,fP,hcw⟩:=Hr.out.cellAt hlt
   have nN:=(oe.out.cell (p:=⟨b1,o1+k,none⟩) (by rw[HB.out];exact bl)).trans hcw
   have jV:=HL.out.at fP
   have vn:=Lib.hid fP
   obtain⟨j,hj⟩:∃ j,j=k/2:=⟨_,rfl⟩
   have hk2:(k:Int)/2=(j:Int):=by omega
   have hjm:j<m:=by omega
   obtain⟨z,hz,hcell,yt⟩:=Own.gG nK.out (j:=j) hjm
   have HZ:=Lib.hid hz
   have hw4:(x:Int)%4294967296=(x:Int):=by omega
   have hj0:(0:Int)<=(j:Int):=by omega
   have hj1:(j:Int)<(m:Int):=by omega
   have zc:(0:Int)<=(k:Int):=by omega
   have tw:(k:Int)<(n:Int):=by omega
   by_cases he:k%2=0
   ·have hke:((k:Int)%2 == 0)=true:=by rw[beq_iff_eq];omega
    have HK:Hid (k=2*j):=by show _=_;omega
    clear fP hcw he hj hz
    go_wp2_with fail
    go_roundw
    case rel=>
     refine⟨k+1,by rw[HX.out];omega,by go_num,?_,oe.out.setCell (Own.lt nK.out).1 _⟩
     have h1:=Own.gi (j:=j) (x:=x) nK.out
     rw[HK.out,MM (by rw[<-HK.out];exact vn.out)] at h1
     rw[HK.out]
     simpa using h1
    case measure=>simp[intOf];omega
   ·have hke:((k:Int)%2 == 0)=false:=by rw[beq_eq_false_iff_ne];omega
    have HK:Hid (k=2*j+1):=by show _=_;omega
    have hz4:z<65536:=by
     have:=HZ.out
     rw[HK.out] at this
     obtain⟨h,rfl⟩:=List.getElem?_eq_some_iff.1 this
     simp only[yo,List.getElem_map,List.getElem_range]
     unfold lv
     rw[if_pos aa,if_neg aa]
     exact ky HL.out _
    have hw5:IntKind.u32.wrap (z+IntKind.u32.wrap (65536*(x:Int)))=((z+65536*x:Nat):Int):=by
     rw[IntKind.wrap_u32',IntKind.wrap_u32'];omega
    clear fP hcw he hj hz
    go_wp2
    go_region
    all_goals
     go_wp2_with fail
     go_roundw
     case rel=>
      refine⟨k+1,by rw[HX.out];omega,by go_num,?_,(oe.out.setCell (Own.lt nK.out).1 _).drew⟩
      have h1:=Own.gi (j:=j) (x:=z+65536*x) nK.out
      rw[HK.out,lds_odd (by have:=HZ.out;rw[HK.out] at this;exact this) (by rw[<-HK.out];exact vn.out)] at h1
      rw[HK.out]
      have h2:(((z+65536*x:Nat):Int))=(z:Int)+65536*(x:Int):=by omega
      rw[h2] at h1
      exact h1
     case measure=>simp[intOf];omega
  ·obtain rfl:k=n:=by omega
   obtain⟨e1,e2⟩:=lds_end HL.out (m:=m) (by rw[HX.out];exact hmn)
   rw[HX.out] at e1 e2
   have E1:=Lib.hid e1
   have E2:=Lib.hid e2
   clear e1 e2
   go_wp2_with fail
   exact bK.out _ _ ⟨_,_,rfl,by simp[yo],nK.out,E1.out,E2.out,oe.out⟩
end
section
open Go.RowKit
theorem val_set {B:Nat} {xs:List Nat} {j o v:Nat} (h:xs[j]? =some o):val B (xs.set j v)+B^j*o=val B xs+B^j*v:=by
 obtain⟨hl,he⟩:=List.getElem?_eq_some_iff.1 h
 have h1:xs=xs.take j++o::xs.drop (j+1):=by rw[<-he,<-List.drop_eq_getElem_cons hl,List.take_append_drop]
 have h2:xs.set j v=xs.take j++v::xs.drop (j+1):=by
  conv=>lhs;rw[h1]
  rw[List.set_append_right _ _ (by rw[List.length_take];omega)]
  rw[List.length_take,Nat.min_eq_left aa,Nat.sub_self];rfl
 have e1:val B xs=val B (xs.take j)+B^j*(o+B*val B (xs.drop (j+1))):=by
  conv=>lhs;rw[h1]
  rw[jc,List.length_take,Nat.min_eq_left aa,gD]
 have e2:val B (xs.set j v)=val B (xs.take j)+B^j*(v+B*val B (xs.drop (j+1))):=by
  rw[h2,jc,List.length_take,Nat.min_eq_left aa,gD]
 rw[e1,e2,Nat.mul_add,Nat.mul_add]
 omega
theorem gl.set {xs:List Nat} (h:gl xs) {v:Nat} (hv:v<65536) (j:Nat):gl (xs.set j v):=λy hy=>by
 rcases List.mem_or_eq_of_mem_set hy with h1|h1
 ·exact h y h1
 ·rw[h1];exact hv
theorem rY {os:List Nat} {i k x y o c s S Y:Nat} (ho:os[i+k]? =some o) (hs:s=x*y+o+c) (h:hval os+65536^(i+k)*c=S+65536^i*(x*Y)):
  hval (os.set (i+k) (s%65536))+65536^(i+(k+1))*(s/65536)=S+65536^i*(x*(Y+65536^k*y)):=by
 have h1:hval (os.set (i+k) (s%65536))+65536^(i+k)*o=hval os+65536^(i+k)*(s%65536):=val_set ho
 have h2:65536^(i+(k+1))=65536^(i+k)*65536:=by rw[<-Nat.add_assoc,Nat.pow_succ]
 have h3:65536^(i+k)*s=65536^(i+k)*(s%65536)+65536^(i+k)*65536*(s/65536):=by
  rw[Nat.mul_assoc,<-Nat.mul_add,Nat.mod_add_div]
 have h4:65536^(i+k)*s=65536^(i+k)*(x*y)+65536^(i+k)*o+65536^(i+k)*c:=by rw[hs,Nat.mul_add,Nat.mul_add]
 have h5:65536^i*(x*(Y+65536^k*y))=65536^i*(x*Y)+65536^(i+k)*(x*y):=by
  rw[Nat.mul_add,Nat.mul_add,Nat.pow_add]
  congr 1
  rw[Nat.mul_left_comm x,Nat.mul_assoc]
 rw[h2,h5]
 omega
def iv (xs:List Nat):List AV:=(ints .i64 xs).map .val
theorem cA (xs:List Nat):(iv xs).length=xs.length:=by simp[iv]
theorem MN {xs:List Nat} {j x:Nat} (h:xs[j]? =some x):(iv xs)[j]? =some (.val (.int .i64 (x:Int))):=by
 unfold iv
 rw[List.getElem?_map,rp h];rfl
theorem pR (xs ys:List Nat):iv (xs++ys)=iv xs++iv ys:=by simp[iv,gW]
theorem mj (xs:List Nat):(iv xs).all aZ=true:=bc (List.all_eq_true.2 λu hu=>by obtain⟨_,_,rfl⟩:=List.mem_map.1 hu;rfl)
theorem Iq (xs:List Nat):(ints .i64 xs).all bf=true:=List.all_eq_true.2 λu hu=>by obtain⟨_,_,rfl⟩:=List.mem_map.1 hu;rfl
theorem bF (xs:List Nat):aW (iv xs)=[]:=af _
theorem xx:∀ n:Nat,jN n [.val (.int .i64 0)]=iv (List.replicate n 0)
 | 0=>rfl
 | n+1=>by rw[jN,xx n,List.replicate_succ];rfl
theorem iv_peek {xs:List Nat} {spare:List AV} {j x o:Nat} (h:xs[j]? =some x) (ho:o=j):∀ i u,[AV.val (.int .i64 (x:Int))][i]? =some u->(iv xs++spare)[o+i]? =some u:=by
 subst ho
 intro i u hu
 cases i with
 | zero=>
   cases hu
   have hl:=(List.getElem?_eq_some_iff.1 (MN h)).1
   rw[Nat.add_zero,List.getElem?_append_left hl,MN h]
 | succ i=>cases hu
theorem rZ {xs:List Nat} {j x o:Nat} (h:xs[j]? =some x) (ho:o=j):∀ i u,[AV.val (.int .i64 (x:Int))][i]? =some u->(iv xs)[o+i]? =some u:=by
 have:=iv_peek (spare:=[]) h ho
 simpa using this
theorem vG {xs:List Nat} {j x o:Nat} (h:j<xs.length) (ho:o=j):(iv xs).take o++([AV.val (.int .i64 (x:Int))]++(iv xs).drop (o+1))=iv (xs.set j x):=by
 subst ho
 have:iv (xs.set o x)=(iv xs).set o (.val (.int .i64 (x:Int))):=by simp[iv,<-ints_set,List.map_set]
 rw[this,List.set_eq_take_append_cons_drop,if_pos (by rw[cA];exact h)]
 rfl
theorem lB {C:Cx} {β:Nat->Nat} {w:World} {i n c:Nat} {t:TypeId} {xs:List Nat} {spare:List AV} (h:mV C β w i t (iv xs++spare)) (hn:xs.length=n) (gg:n<=c) (gF:c<=maxLen):Rd w 1 (.slice (some ⟨β i,0,none⟩) n c) n (ints .i64 xs):=by
 refine⟨_,c,rfl,gg,gF,by simp[hn],λ_=>⟨_,_,rfl,λj u hj=> ?_⟩⟩
 have hl:=(List.getElem?_eq_some_iff.1 hj).1
 refine h.cls.cell ?_
 rw[Nat.zero_add]
 simp only[List.map_append,List.getElem?_toArray]
 rw[List.getElem?_append_left (by simpa [iv] using hl)]
 unfold iv
 rw[aP]
 exact hj
def fo (w:World) (B:Nat) (v:Value) (n:Nat) (xs:List Nat):Prop:=
 xs.length=n/\((v=.slice none 0 0/\n=0)\/∃ b c spare,v=.slice (some ⟨b,0,none⟩) n c/\B<=b/\aL w b 3 (ints .i64 xs++spare).toArray/\n<=c/\c<=maxLen/\n+spare.length=c/\spare.all bf=true)
theorem fo.own {w:World} {B:Nat} {v:Value} {n:Nat} {xs:List Nat} (h:fo w B v n xs):w.ownsRow B 3 1 v n (ints .i64 xs):=by
 obtain⟨hn,⟨rfl,rfl⟩|⟨b,c,spare,rfl,hB,hc,h1,h2,h3,_⟩⟩:=h
 ·rw[List.eq_nil_of_length_eq_zero hn];exact World.ownsRow_nil _ _ _ _
 ·refine⟨by simp[hn],.inr ⟨b,c,_,rfl,hB,hc,h1,h2,by simp[hn,h3],?_⟩⟩
  rw[List.take_append_of_le_length (by simp[hn]),List.take_of_length_le (by simp[hn])]
theorem fo.new {C:Cx} {w:World} {B:Nat} {v:Value} {n:Nat} {xs:List Nat} (h:fo w B v n xs):Mn C 3 1 B w v n (ints .i64 xs):=by
 obtain⟨hn,⟨rfl,rfl⟩|⟨b,c,spare,rfl,hB,hc,h1,h2,h3,h4⟩⟩:=h
 ·exact .inl ⟨rfl,rfl,by rw[List.eq_nil_of_length_eq_zero hn];rfl⟩
 ·exact .inr ⟨b,c,spare,rfl,hB,hc,Iq xs,h4,h1,by simpa [maxLen] using h2,by simp;omega⟩
theorem fo.nil (w:World) (B:Nat):fo w B (.slice none 0 0) 0 []:=⟨rfl,.inl ⟨rfl,rfl⟩⟩
theorem oL {C:Cx} {β:Nat->Nat} {w:World} {i n m c:Nat} {xs:List Nat} {spare:List AV} (h:mV C β w i 3 (iv xs++spare)) (hn:xs.length=n) (hm:m<=n) (gg:n<=c) (gF:c<=maxLen) (hl:xs.length+spare.length=c) (hnw:∀ i g,C.vu i g->C.w0.heap.size<=g:=by exact λ_ _ h=>h):
  fo w C.w0.heap.size (.slice (some ⟨β i,0,none⟩) m c) m (xs.take m):=by
 refine⟨by rw[List.length_take];omega,.inr ⟨β i,c,ints .i64 (xs.drop m)++spare.map (AV.leaf β),rfl,hnw _ _ h.new,?_,by omega,gF,by simp;omega,?_⟩⟩
 ·have:=h.cls
  rw[List.map_append] at this
  unfold iv at this
  rw[aP] at this
  rw[<-List.append_assoc,<-gW,List.take_append_drop]
  exact this
 ·have hk:=h.ok
  rw[List.all_append,Bool.and_eq_true] at hk
  rw[List.all_append,Iq,fe hk.2];rfl
theorem gP {C:Cx} {β:Nat->Nat} {w:World} {i:Nat} {t:TypeId} {cs news rest:List AV} (h:mV C β w i t cs) (e:cs=news++rest):∀ j u,(news.map (AV.leaf β))[j]? =some u->w.cell? ⟨β i,0+j,none⟩=some u:=by
 intro j u hj
 have hl:=(List.getElem?_eq_some_iff.1 hj).1
 refine h.cls.cell ?_
 rw[e,Nat.zero_add,List.map_append]
 simp only[List.getElem?_toArray]
 rw[List.getElem?_append_left hl]
 exact hj
theorem bU {cs:List AV} (h:aW cs=[]) (i:Nat) (ρ:AV->Value):cs.map (AV.rf i ρ)=cs:=by
 induction cs with
 | nil=>rfl
 | cons x r ih=>
   rw[aW,List.append_eq_nil_iff] at h
   rw[List.map_cons,ih h.2]
   have:x.rf i ρ=x:=by unfold AV.rf;rw[h.1];rfl
   rw[this]
theorem MO (i:Nat) (ρ:AV->Value) (xs:List Nat):(iv xs).map (AV.rf i ρ)=iv xs:=bU (bF xs) i ρ
theorem vH {xs:List Nat} {m n:Nat} (h:halves (hval xs)=xs.take m) (hm:m<=n) (hn:xs.length=n):m=(halves (hval xs)).length:=by rw[h,List.length_take];omega
end
set_option maxRecDepth 4000
section
open Go.RowKit
attribute [local irreducible] aB VS
theorem ja {w:World} {b off k:Nat} {u:Value} {z:Int} (hz:z=(k:Int)) (h:w.cell? ⟨b,off+k,none⟩=some u):∀ j v,[u][j]? =some v->w.cell? ((⟨b,off+z.toNat*1,none⟩:Addr).add j)=some v:=by
 subst hz
 intro j v hj
 rw[Addr.add_mid,Int.toNat_natCast,Nat.mul_one]
 cases j with
 | zero=>cases hj;exact h
 | succ j=>cases hj
theorem JT {i k:Nat} {os xs ys:List Nat} {x:Nat} (hx:xs[i]? =some x) (hk:ys.length<=k) (h:hval os+65536^(i+k)*0=hval (xs.take i)*hval ys+65536^i*(x*hval (ys.take k))):hval os=hval (xs.take (i+1))*hval ys:=by
 have e:hval (xs.take (i+1))=hval (xs.take i)+65536^i*x:=by
  rw[bG hx,ku,List.length_take,Nat.min_eq_left (by have:=(List.getElem?_eq_some_iff.1 hx).1;omega)]
 rw[Nat.mul_zero,Nat.add_zero,List.take_of_length_le hk] at h
 rw[e,Nat.add_mul,h,Nat.mul_assoc]
theorem FQ {i k n m c:Nat} {os xs ys:List Nat} {x:Nat} (hxh:gl xs) (hyh:gl ys) (hx:xs[i]? =some x) (hn:xs.length=n) (hm:ys.length=m) (hk:m<=k) (hc:0<c) (h:hval os+65536^(i+k)*c=hval (xs.take i)*hval ys+65536^i*(x*hval (ys.take k))):i+k<n+m+1:=by
 have hi:=(List.getElem?_eq_some_iff.1 hx).1
 have e:hval (xs.take (i+1))=hval (xs.take i)+65536^i*x:=by
  rw[bG hx,ku,List.length_take,Nat.min_eq_left aa]
 have e3:ys.take k=ys:=List.take_of_length_le aa
 have e2:hval os+65536^(i+k)*c=hval (xs.take (i+1))*hval ys:=by
  rw[e,Nat.add_mul,h,e3,Nat.mul_assoc]
 have b1:hval (xs.take (i+1))<65536^(i+1):=by
  have:=rV (xs:=xs.take (i+1)) (eu.take hxh _)
  rwa [List.length_take,Nat.min_eq_left aa] at this
 have b2:hval ys<65536^m:=by have:=rV hyh;rwa [hm] at this
 have b3:hval (xs.take (i+1))*hval ys<65536^(i+1+m):=by
  rw[Nat.pow_add];exact Nat.mul_lt_mul'' b1 b2
 have b4:65536^(i+k)<=65536^(i+k)*c:=Nat.le_mul_of_pos_right _ hc
 have:65536^(i+k)<65536^(i+1+m):=by omega
 have:=(Nat.pow_lt_pow_iff_right (show 1<65536 by omega)).1 this
 omega
theorem FR {x y o c:Nat} (hx:x<65536) (hy:y<65536) (ho:o<65536) (hc:c<65536):x*y+o+c<4294967296:=by
 have h1:x*y<=65535*65535:=Nat.mul_le_mul aa aa
 omega
theorem du {P:Prop} (h:P:=by (repeat first|exact trivial|refine⟨rfl,?_⟩)):P:=h
theorem cW {A B:Prop} (h:A/\B:=by constructor <;> omega):A/\B:=h
theorem uD (va vb:Value) (n m:Nat) (xs ys:List Nat) (w:World) (hr:Rd w 1 va n (ints .i64 xs)) (hs:Rd w 1 vb m (ints .i64 ys)) (hx:gl xs) (hy:gl ys) (hn:n<=2147483656) (hm:m<=2147483656):
  Calls Tryz.prog 201 #[va,vb] w λe w'=>∃ v',e=.returned v'/\fo w' w.heap.size v' (halves (hval xs*hval ys)).length (halves (hval xs*hval ys))/\ax w w':=by
 obtain⟨p,c,rfl,gg,gF,fc⟩:=hr.i64
 obtain⟨q,d,rfl,Hc,Cg,gX⟩:=hs.i64
 obtain⟨N,hN⟩:∃ N,N=n+m+1:=⟨_,rfl⟩
 have hwN:IntKind.i64.wrap (IntKind.i64.wrap ((n:Int)+(m:Int))+1)=(N:Int):=by
  rw[IntWalk.i64_in ((n:Int)+(m:Int)) aa,IntWalk.i64_in _ aa];omega
 refine ai (C:=bj Tryz.prog w _) (args:=[_,_]) Tryz.func201 rfl Tryz.ntmps201 (cr rfl) ?_
 refine ae ?_
 refine VO.fix 15 rfl (congrArg (λz=>AV.val (.int .i64 z)) hwN) ?_
 refine VO.cond rfl ⟨rfl,by omega,by show (N:Int)*(24*1)<=_;omega⟩ (VO.qi 16 rfl (xx _) (wV rfl ?_))
 rw[Int.toNat_natCast]
 refine ae ?_
 refine VS.loop (J:=λms L M w'=>∃ (i:Nat) (os:List Nat),i<=n/\ms=n-i/\L=[(0,.val (.slice p n c)),(1,.val (.slice q m d)),(5,.row 16 0 N N),(6,.val (.int .i64 (i:Int)))]/\M=[(16,(3,iv os))]/\
  os.length=N/\gl os/\hval os=hval (xs.take i)*hval ys) n ⟨_,_,?_,?_,?_,?_,⟨0,List.replicate N 0,by omega,by omega,rfl,rfl,by simp,eu.replicate aa _,by rw[List.take_zero];show val 65536 _=val 65536 []*_;rw[gR,val_nil,Nat.zero_mul]⟩⟩ ?_
 ·exact du
 ·exact du
 ·rfl
 ·exact⟨.none (bF _),trivial⟩
 rintro ms L M w' ⟨i,os,hi,rfl,rfl,rfl,hol,hoh,hov⟩
 refine ae ?_
 by_cases vo:i<n
 ·refine VS.aU rfl (decide_eq_true (Int.ofNat_lt.2 vo)) ?_
  refine ae ?_
  obtain⟨b1,o1,x,rfl,bl,fP,nN⟩:=hr.cellAt vo
  have jV:=hx.at fP
  refine VS.loop (J:=λms L M w'=>∃ (k c':Nat) (os':List Nat),ms=N-(i+k)/\L=[(0,.val (.slice (some ⟨b1,o1,none⟩) n c)),(1,.val (.slice q m d)),(5,.row 16 0 N N),(6,.val (.int .i64 (i:Int))),(7,.val (.int .i64 (c':Int))),(8,.val (.int .i64 (k:Int)))]/\M=[(16,(3,iv os'))]/\
   os'.length=N/\gl os'/\c' <65536/\k<=N/\hval os' +65536^(i+k)*c'=hval (xs.take i)*hval ys+65536^i*(x*hval (ys.take k))) (N-i) ⟨_,_,?_,?_,?_,?_,⟨0,0,os,by omega,rfl,rfl,hol,hoh,by omega,by omega,by rw[List.take_zero,Nat.mul_zero,hov];show _=_+65536^i*(x*0);simp⟩⟩ ?_
  ·exact du
  ·exact du
  ·rfl
  ·exact⟨.none (bF _),trivial⟩
  rintro ms L M w'' ⟨k,c',os',rfl,rfl,rfl,hol',hoh',hc',hkN,hv⟩
  refine ae ?_
  have step:∀ (hik:i+k<N),True:=λ_=>trivial
  by_cases hgo:k<m\/0<c'
  ·have hik:i+k<N:=by
    rcases Nat.lt_or_ge k m with e|e
    ·omega
    ·rw[hN];exact FQ hx hy fP fc gX e aa hv
   obtain⟨o,ho⟩:∃ o,os'[i+k]? =some o:=⟨_,List.getElem?_eq_getElem aa⟩
   have ho4:=hoh'.at ho
   have Jm:IntKind.i64.wrap ((i:Int)+(k:Int))=((i+k:Nat):Int):=by rw[IntWalk.i64_in _ aa];omega
   have hwk1:IntKind.i64.wrap ((k:Int)+1)=((k+1:Nat):Int):=by rw[IntWalk.i64_in _ aa];omega
   have hwoc:IntKind.i64.wrap ((o:Int)+(c':Int))=((o+c':Nat):Int):=by rw[IntWalk.i64_in _ aa];omega
   by_cases EZ:k<m
   ·obtain⟨b2,o2,y,rfl,bM,lX,qA⟩:=hs.cellAt EZ
    have tZ:=hy.at lX
    have Az:=FR jV tZ ho4 hc'
    obtain⟨s,hsd⟩:∃ s,s=x*y+o+c':=⟨_,rfl⟩
    have Hd:(x:Int)*(y:Int)=((x*y:Nat):Int):=by simp
    have hws:IntKind.i64.wrap (IntKind.i64.wrap ((o:Int)+(c':Int))+IntKind.i64.wrap ((x:Int)*(y:Int)))=(s:Int):=by
     rw[hwoc,Hd,IntWalk.i64_in ((x*y:Nat):Int) aa,IntWalk.i64_in _ aa];omega
    have hst:=rY ho hsd hv
    have hyt:hval (ys.take (k+1))=hval (ys.take k)+65536^k*y:=by
     rw[bG lX,ku,List.length_take,Nat.min_eq_left (by have:=(List.getElem?_eq_some_iff.1 lX).1;omega)]
    rw[<-hyt] at hst
    have hwc:IntKind.i64.wrap ((s:Int).tdiv 65536)=((s/65536:Nat):Int):=by
     rw[Int.tdiv_eq_ediv_of_nonneg aa,IntWalk.i64_in _ aa];simp
    have hwm:(s:Int).tmod 65536=((s%65536:Nat):Int):=by rw[Int.tmod_eq_emod_of_nonneg aa];simp
    refine VO.fix 27 rfl (congrArg (λb=>AV.val (.bool b)) (decide_eq_true (Int.ofNat_lt.2 EZ))) ?_
    refine ae ?_
    refine VO.fix 36 rfl (congrArg (λz=>AV.val (.int .i64 z)) Jm) ?_
    refine VO.cond rfl cW (wV rfl ?_)
    refine VO.il rfl [.val (.int .i64 (o:Int))] rfl (rZ ho (by rw[Int.toNat_natCast];omega)) (wV rfl ?_)
    refine ae ?_
    refine VS.aU rfl (decide_eq_true (Int.ofNat_lt.2 EZ)) ?_
    refine ae ?_
    refine VO.cond rfl cW (wV rfl ?_)
    refine VO.read rfl [.int .i64 (x:Int)] rfl (ja rfl nN) (wV rfl ?_)
    refine VO.cond rfl cW (wV rfl ?_)
    refine VO.read rfl [.int .i64 (y:Int)] rfl (ja rfl qA) (wV rfl ?_)
    refine ae ?_
    refine VO.fix 59 rfl (congrArg (λz=>AV.val (.int .i64 z)) Jm) ?_
    refine VO.fix 61 rfl (congrArg (λz=>AV.val (.int .i64 z)) (by rw[hws,hwm])) ?_
    refine VO.cond rfl cW (wV rfl ?_)
    refine VO.cond rfl (by show 0+((i+k:Nat):Int).toNat*1+1<=_;rw[Int.toNat_natCast,cA];omega) (wV rfl ?_)
    refine ae ?_
    refine VS.back (N-(i+(k+1))) aa ⟨_,_,?_,?_,?_,?_,⟨k+1,s/65536,os'.set (i+k) (s%65536),rfl,rfl,rfl,by simp[hol'],hoh'.set (Nat.mod_lt _ aa) _,by omega,by omega,hst⟩⟩
    ·refine⟨rfl,rfl,rfl,rfl,congrArg (λz=>some (AV.val (.int .i64 z))) (by rw[hws,hwc]),congrArg (λz=>some (AV.val (.int .i64 z))) hwk1,trivial⟩
    ·exact⟨congrArg (λl=>some (_,l)) (vG aa (by rw[Int.toNat_natCast];omega)),trivial⟩
    ·rfl
    ·exact⟨.none (bF _),trivial⟩
   ·have Lc:0<c':=by omega
    obtain⟨s,hsd⟩:∃ s,s=x*0+o+c':=⟨_,rfl⟩
    have hws:IntKind.i64.wrap ((o:Int)+(c':Int))=(s:Int):=by rw[hwoc];omega
    have hst:=rY ho hsd hv
    have hyt:hval (ys.take k)+65536^k*0=hval (ys.take (k+1)):=by rw[List.take_of_length_le aa,List.take_of_length_le aa];rfl
    rw[hyt] at hst
    have hwc:IntKind.i64.wrap ((s:Int).tdiv 65536)=((s/65536:Nat):Int):=by
     rw[Int.tdiv_eq_ediv_of_nonneg aa,IntWalk.i64_in _ aa];simp
    have hwm:(s:Int).tmod 65536=((s%65536:Nat):Int):=by rw[Int.tmod_eq_emod_of_nonneg aa];simp
    refine VO.fix 27 rfl (congrArg (λb=>AV.val (.bool b)) (decide_eq_false (λe=>EZ (Int.ofNat_lt.1 e)))) ?_
    refine ae ?_
    refine VS.aU rfl (decide_eq_true aa) ?_
    refine ae ?_
    refine VO.fix 36 rfl (congrArg (λz=>AV.val (.int .i64 z)) Jm) ?_
    refine VO.cond rfl cW (wV rfl ?_)
    refine VO.il rfl [.val (.int .i64 (o:Int))] rfl (rZ ho (by rw[Int.toNat_natCast];omega)) (wV rfl ?_)
    refine ae ?_
    refine VS.aN rfl (decide_eq_false (λe=>EZ (Int.ofNat_lt.1 e))) ?_
    refine ae ?_
    refine VO.fix 59 rfl (congrArg (λz=>AV.val (.int .i64 z)) Jm) ?_
    refine VO.fix 61 rfl (congrArg (λz=>AV.val (.int .i64 z)) (by rw[hws,hwm])) ?_
    refine VO.cond rfl cW (wV rfl ?_)
    refine VO.cond rfl (by show 0+((i+k:Nat):Int).toNat*1+1<=_;rw[Int.toNat_natCast,cA];omega) (wV rfl ?_)
    refine ae ?_
    refine VS.back (N-(i+(k+1))) aa ⟨_,_,?_,?_,?_,?_,⟨k+1,s/65536,os'.set (i+k) (s%65536),rfl,rfl,rfl,by simp[hol'],hoh'.set (Nat.mod_lt _ aa) _,by omega,by omega,hst⟩⟩
    ·refine⟨rfl,rfl,rfl,rfl,congrArg (λz=>some (AV.val (.int .i64 z))) (by rw[hws,hwc]),congrArg (λz=>some (AV.val (.int .i64 z))) hwk1,trivial⟩
    ·exact⟨congrArg (λl=>some (_,l)) (vG aa (by rw[Int.toNat_natCast];omega)),trivial⟩
    ·rfl
    ·exact⟨.none (bF _),trivial⟩
  ·have EZ:¬ (k<m):=by omega
   have Lc:c'=0:=by omega
   subst Lc
   refine VO.fix 27 rfl (congrArg (λb=>AV.val (.bool b)) (decide_eq_false (λe=>EZ (Int.ofNat_lt.1 e)))) ?_
   refine ae ?_
   have yE:IntKind.i64.wrap ((i:Int)+1)=((i+1:Nat):Int):=by rw[IntWalk.i64_in _ aa];omega
   refine VS.back (n-(i+1)) aa ⟨_,_,?_,?_,?_,?_,⟨i+1,os',by omega,rfl,rfl,rfl,hol',hoh',JT fP aa hv⟩⟩
   ·exact⟨rfl,rfl,rfl,congrArg (λz=>some (AV.val (.int .i64 z))) yE,trivial⟩
   ·exact du
   ·rfl
   ·exact⟨.none (bF _),trivial⟩
 ·obtain rfl:i=n:=by omega
  refine VS.aN rfl (decide_eq_false (λe=>vo (Int.ofNat_lt.1 e))) ?_
  refine ae ?_
  rw[List.take_of_length_le aa] at hov
  refine VO.zz rfl (fk Tryz.func267) (λw1 β k1 b1 ho=>(ib (some ⟨β 16,0,none⟩) N N os w1 (lB (spare:=[]) (by rw[List.append_nil];exact ho.own 16 (.base (List.mem_singleton.2 rfl)) _ _ rfl) hol (Nat.le_refl _) (by simp only[maxLen];omega)) hoh).mono ?_)
  rintro e w2 ⟨⟨mm,yw,rfl,hcut⟩,rfl⟩
  refine⟨.row 16 0 mm N,rfl,λi hi=>⟨hi,by cases List.mem_singleton.1 hi;exact Option.some_ne_none _⟩,ax.refl _,λk2 _ b2=>wV rfl ?_⟩
  refine ae ?_
  refine VS.qh (cV _ _) rfl (λwz β kz bz he=> ?_)
  have sN:=vH hcut yw hol
  rw[hov] at hcut sN
  refine⟨_,rfl,?_,bz⟩
  have:=oL (spare:=[]) (by rw[List.append_nil];exact he.own 16 _ _ rfl) hol yw (Nat.le_refl _) (by simp only[maxLen];omega) (by simpa using hol)
  rw[<-hcut] at this
  show fo wz w.heap.size (.slice (some ⟨β 16,0,none⟩) mm N) _ _
  rw[<-sN]
  exact this
set_option maxRecDepth 4000
theorem qu {A B:Nat} (h:(halves A).length<(halves B).length):A<B:=by
 rcases Nat.lt_or_ge A B with e|e
 ·exact e
 ·have:(halves B).length<=(halves A).length:=dL aa e
  omega
theorem qw {A B k a b:Nat} (ha:(halves A)[k]? =some a) (hb:(halves B)[k]? =some b) (qd:a<b) (hh:(halves A).drop (k+1)=(halves B).drop (k+1)):A<B:=by
 have:=kC (B:=65536) (bJ A) ha hb qd hh
 have e1:val 65536 (halves A)=A:=bg A
 have e2:val 65536 (halves B)=B:=bg B
 omega
theorem JU {xs ys:List Nat} {k x:Nat} (hx:xs[k]? =some x) (hy:ys[k]? =some x) (h:xs.drop (k+1)=ys.drop (k+1)):xs.drop k=ys.drop k:=by
 obtain⟨l1,e1⟩:=List.getElem?_eq_some_iff.1 hx
 obtain⟨l2,e2⟩:=List.getElem?_eq_some_iff.1 hy
 rw[List.drop_eq_getElem_cons l1,List.drop_eq_getElem_cons l2,e1,e2,h]
theorem FU (va vb:Value) (n m A B:Nat) (w:World) (hr:Rd w 1 va n (ints .i64 (halves A))) (hs:Rd w 1 vb m (ints .i64 (halves B))):
  Calls Tryz.prog 313 #[va,vb] w λe w'=>e=.returned (.bool (decide (A<B)))/\ax w w':=by
 obtain⟨p,c,rfl,gg,gF,fc⟩:=hr.i64
 obtain⟨q,d,rfl,Hc,Cg,gX⟩:=hs.i64
 refine ai (C:=bj Tryz.prog w _) (args:=[_,_]) Tryz.func313 rfl Tryz.ntmps313 (cr rfl) ?_
 refine ae ?_
 by_cases hnm:n=m
 ·subst hnm
  refine VS.aN rfl ew ?_
  refine ae ?_
  have hw0:IntKind.i64.wrap ((n:Int)-1)=(n:Int)-1:=IntWalk.i64_in _ aa
  refine VS.loop (J:=λms L M w'=>∃ (k:Nat),k<=n/\ms=k/\L=[(0,.val (.slice p n c)),(1,.val (.slice q n d)),(5,.val (.int .i64 ((k:Int)-1)))]/\M=[]/\(halves A).drop k=(halves B).drop k) n ⟨_,_,?_,?_,?_,?_,⟨n,Nat.le_refl _,rfl,rfl,rfl,by rw[List.drop_of_length_le aa,List.drop_of_length_le aa]⟩⟩ ?_
  ·exact⟨rfl,rfl,congrArg (λz=>some (AV.val (.int .i64 z))) hw0,trivial⟩
  ·exact du
  ·rfl
  ·exact trivial
  rintro ms L M w' ⟨k,hk,hms,rfl,rfl,hd⟩
  refine ae ?_
  by_cases zc:k=0
  ·subst zc
   refine VS.aN rfl (decide_eq_false aa) ?_
   refine ae ?_
   refine bV ?_;intro wz kz bz
   have:A=B:=FJ (by simpa using hd)
   exact⟨by rw[this,decide_eq_false (Nat.lt_irrefl _)];rfl,bz⟩
  ·obtain⟨j,rfl⟩:∃ j,k=j+1:=⟨k-1,by omega⟩
   have hj:((j+1:Nat):Int)-1=(j:Int):=by omega
   refine VS.aU rfl (decide_eq_true aa) ?_
   refine VS.fix 5 rfl (congrArg (λz=>AV.val (.int .i64 z)) hj) ?_
   refine ae ?_
   obtain⟨b1,o1,x,rfl,bl,fP,nN⟩:=hr.cellAt (show j<n by omega)
   obtain⟨b2,o2,y,rfl,bM,lX,qA⟩:=hs.cellAt (show j<n by omega)
   refine VO.cond rfl cW (wV rfl ?_)
   refine VO.read rfl [.int .i64 (x:Int)] rfl (ja rfl nN) (wV rfl ?_)
   refine VO.cond rfl cW (wV rfl ?_)
   refine VO.read rfl [.int .i64 (y:Int)] rfl (ja rfl qA) (wV rfl ?_)
   refine ae ?_
   by_cases Hd:x=y
   ·subst Hd
    refine VS.aN rfl ew ?_
    refine ae ?_
    have sO:IntKind.i64.wrap ((j:Int)-1)=(j:Int)-1:=IntWalk.i64_in _ aa
    refine VS.back j aa ⟨_,_,?_,?_,?_,?_,⟨j,by omega,rfl,rfl,rfl,JU fP lX hd⟩⟩
    ·exact⟨rfl,rfl,congrArg (λz=>some (AV.val (.int .i64 z))) sO,trivial⟩
    ·exact du
    ·rfl
    ·exact trivial
   ·refine VS.aU rfl (by rw[bne_iff_ne];omega) ?_
    refine ae ?_
    refine VO.cond rfl cW (wV rfl ?_)
    refine VO.read rfl [.int .i64 (x:Int)] rfl (ja rfl nN) (wV rfl ?_)
    refine VO.cond rfl cW (wV rfl ?_)
    refine VO.read rfl [.int .i64 (y:Int)] rfl (ja rfl qA) (wV rfl ?_)
    refine ae ?_
    refine bV ?_;intro wz kz bz
    refine⟨?_,bz⟩
    rcases Nat.lt_or_gt_of_ne Hd with e|e
    ·rw[decide_eq_true (qw fP lX e hd)]
     exact congrArg (λb=>Ending.returned (.bool b)) (decide_eq_true (Int.ofNat_lt.2 e))
    ·have:=qw lX fP e hd.symm
     have hAB:decide (A<B)=false:=decide_eq_false aa
     rw[hAB]
     exact congrArg (λb=>Ending.returned (.bool b)) (decide_eq_false aa)
 ·refine VS.aU rfl (by rw[bne_iff_ne];omega) ?_
  refine ae ?_
  refine bV ?_;intro wz kz bz
  refine⟨?_,bz⟩
  rcases Nat.lt_or_gt_of_ne hnm with e|e
  ·rw[decide_eq_true (qu aa)]
   exact congrArg (λb=>Ending.returned (.bool b)) (decide_eq_true (Int.ofNat_lt.2 e))
  ·have:=qu (A:=B) (B:=A) aa
   have hAB:decide (A<B)=false:=decide_eq_false aa
   rw[hAB]
   exact congrArg (λb=>Ending.returned (.bool b)) (decide_eq_false aa)
theorem JV {ds us bs:List Nat} {i t br a b d nV:Nat} (hl:ds.length=i) (ha:us.getD i 0=a) (hb:bs.getD i 0=b) (hs:d+(t*b+br)=a+65536*nV)
  (h:hval ds+t*hval (bs.take i)=hval (us.take i)+65536^i*br):hval (ds++[d])+t*hval (bs.take (i+1))=hval (us.take (i+1))+65536^(i+1)*nV:=by
 have e1:hval (us.take (i+1))=hval (us.take i)+65536^i*a:=by rw[<-ha];exact cw _ _ _
 have e2:hval (bs.take (i+1))=hval (bs.take i)+65536^i*b:=by rw[<-hb];exact cw _ _ _
 have e3:65536^i*d+(65536^i*(t*b)+65536^i*br)=65536^i*a+65536^i*(65536*nV):=by rw[<-Nat.mul_add,<-Nat.mul_add,hs,Nat.mul_add]
 have e4:t*(65536^i*b)=65536^i*(t*b):=Nat.mul_left_comm _ _ _
 rw[ku,hl,e1,e2,Nat.mul_add t,e4,Nat.pow_succ,Nat.mul_assoc]
 omega
theorem MP {ds us bs:List Nat} {n t br:Nat} (hh:gl ds) (hl:ds.length=n) (ha:us.length=n) (hle:t*hval bs<=hval us) (hb:t=0\/bs.length<=n)
  (h:hval ds+t*hval (bs.take n)=hval (us.take n)+65536^n*br):hval ds=hval us-t*hval bs:=by
 have e1:us.take n=us:=List.take_of_length_le aa
 have e2:t*hval (bs.take n)=t*hval bs:=by
  rcases hb with e|e
  ·rw[e,Nat.zero_mul,Nat.zero_mul]
  ·rw[List.take_of_length_le e]
 rw[e1,e2] at h
 have hlt:=rV hh
 rw[hl] at hlt
 have:br=0:=by
  rcases Nat.eq_zero_or_pos br with e|e
  ·exact e
  ·have:=Nat.le_mul_of_pos_right (65536^n) e
   omega
 rw[this,Nat.mul_zero] at h
 omega
def RowAt (d:Nat) (xs:List Nat) (v:AV) (M:List (Nat×(TypeId×List AV))):Prop:=
 (xs=[]/\v=.val (.slice none 0 0)/\M=[])\/∃ cap spare,v=.row d 0 xs.length cap/\M=[(d,(3,iv xs++spare))]/\xs.length<=cap/\cap<=9223372036854775807/\xs.length+spare.length=cap/\spare.all aZ=true/\aW spare=[]
theorem xy (va vb:Value) (n m t A B:Nat) (w:World) (hr:Rd w 1 va n (ints .i64 (halves A))) (hs:Rd w 1 vb m (ints .i64 (halves B))) (ht:t<65536) (hle:t*B<=A) (hn:n<=2147483656):
  Calls Tryz.prog 297 #[va,vb,.int .i64 (t:Int)] w λe w'=>∃ v',e=.returned v'/\fo w' w.heap.size v' (halves (A-t*B)).length (halves (A-t*B))/\ax w w':=by
 obtain⟨p,c,rfl,gg,gF,fc⟩:=hr.i64
 obtain⟨q,d,rfl,Hc,Cg,gX⟩:=hs.i64
 refine ai (C:=bj Tryz.prog w _) (args:=[_,_,_]) Tryz.func297 rfl Tryz.ntmps297 (cr rfl) ?_
 refine ae ?_
 refine VS.loop (J:=λms L M w'=>∃ (i br:Nat) (ds:List Nat) (v:AV),i<=n/\ms=n-i/\L=[(0,.val (.slice p n c)),(1,.val (.slice q m d)),(2,.val (.int .i64 (t:Int))),(7,v),(8,.val (.int .i64 (br:Int))),(9,.val (.int .i64 (i:Int)))]/\
  RowAt 47 ds v M/\ds.length=i/\gl ds/\br<=t/\hval ds+t*hval ((halves B).take i)=hval ((halves A).take i)+65536^i*br) n ⟨_,_,?_,?_,?_,?_,⟨0,0,[],.val (.slice none 0 0),by omega,by omega,rfl,.inl ⟨rfl,rfl,rfl⟩,rfl,eu.nil _,by omega,by simp[hval,val]⟩⟩ ?_
 ·exact du
 ·exact du
 ·rfl
 ·exact trivial
 rintro ms L M w' ⟨i,br,ds,v,hi,rfl,rfl,aQ,sM,hdh,hbr,hv⟩
 by_cases vo:i<n
 ·obtain⟨b1,o1,x,rfl,bl,fP,nN⟩:=hr.cellAt vo
  have jV:=(bJ A).at fP
  have hxg:(halves A).getD i 0=x:=by rw[List.getD_eq_getElem?_getD,fP];rfl
  obtain⟨y,hyg⟩:∃ y,(halves B).getD i 0=y:=⟨_,rfl⟩
  have tZ:y<65536:=hyg▸ky (bJ B) i
  have hty:t*y<=65535*65535:=Nat.mul_le_mul aa aa
  obtain⟨X,hX⟩:∃ X:Int,X=(x:Int)-br-(t*y:Nat):=⟨_,rfl⟩
  obtain⟨nV,ni⟩:∃ nV:Nat,(nV:Int)=(if X<0 then (65535-X)/65536 else 0)/\nV<=t:=by
   by_cases h0:X<0
   ·refine⟨((65535-X)/65536).toNat,by rw[if_pos h0];omega,?_⟩
    have:t*y<=t*65535:=Nat.mul_le_mul_left _ aa
    omega
   ·exact⟨0,by rw[if_neg h0];rfl,by omega⟩
  obtain⟨dg,Ld⟩:∃ dg:Nat,(dg:Int)=X+65536*nV/\dg<65536:=by
   refine⟨(X+65536*nV).toNat,?_,?_⟩
   ·by_cases h0:X<0
    ·rw[if_pos h0] at ni;omega
    ·omega
   ·by_cases h0:X<0
    ·rw[if_pos h0] at ni;omega
    ·rw[if_neg h0] at ni;omega
  have hsum:dg+(t*y+br)=x+65536*nV:=by omega
  have hst:=JV sM hxg hyg hsum hv
  have sO:IntKind.i64.wrap ((x:Int)-(br:Int))=(x:Int)-br:=IntWalk.i64_in _ aa
  have yE:IntKind.i64.wrap ((i:Int)+1)=((i+1:Nat):Int):=by rw[IntWalk.i64_in _ aa];omega
  have vC:t*y<=t*65535:=Nat.mul_le_mul_left _ aa
  rcases aQ with ⟨rfl,rfl,rfl⟩|⟨cap,spare,rfl,rfl,h1,h2,h3,h4,h5⟩
  all_goals refine ae ?_
  ·by_cases him:i<m
   ·obtain⟨b2,o2,y',rfl,bM,lX,qA⟩:=hs.cellAt him
    obtain rfl:y'=y:=by rw[List.getD_eq_getElem?_getD,lX] at hyg;exact hyg
    have hwX:IntKind.i64.wrap (IntKind.i64.wrap ((x:Int)-(br:Int))-IntKind.i64.wrap ((t:Int)*(y':Int)))=X:=by
     rw[sO,show (t:Int)*(y':Int)=((t*y':Nat):Int) by simp,IntWalk.i64_in ((t*y':Nat):Int) aa,IntWalk.i64_in _ aa];omega
    refine VS.aU rfl (decide_eq_true (Int.ofNat_lt.2 vo)) ?_
    refine ae ?_
    refine VO.cond rfl cW (wV rfl ?_)
    refine VO.read rfl [.int .i64 (x:Int)] rfl (ja rfl nN) (wV rfl ?_)
    refine ae ?_
    refine VS.aU rfl (decide_eq_true (Int.ofNat_lt.2 him)) ?_
    refine ae ?_
    refine VO.cond rfl cW (wV rfl ?_)
    refine VO.read rfl [.int .i64 (y':Int)] rfl (ja rfl qA) (wV rfl ?_)
    refine VO.fix 10 rfl (congrArg (λz=>AV.val (.int .i64 z)) hwX) ?_
    refine ae ?_
    by_cases h0:X<0
    ·rw[if_pos h0] at ni
     have MQ:IntKind.i64.wrap ((IntKind.i64.wrap (65535-X)).tdiv 65536)=(nV:Int):=by
      rw[IntWalk.i64_in (65535-X) aa,Int.tdiv_eq_ediv_of_nonneg aa,IntWalk.i64_in _ aa,ni.1]
     have hwd:IntKind.i64.wrap (X+IntKind.i64.wrap (65536*(nV:Int)))=(dg:Int):=by
      rw[IntWalk.i64_in (65536*(nV:Int)) aa,IntWalk.i64_in _ aa,Ld.1]
     refine VS.aU rfl (decide_eq_true h0) ?_
     refine ae ?_
     ·refine VO.qi 46 rfl (congrArg (λz=>[AV.val (.int .i64 z)]) (show _=(dg:Int) by rw[MQ,hwd])) ?_
      refine VO.app (cV _ _) (t:=315) (e:=3) (sz:=1) (n:=0) (c:=0) (mm:=1) (known:=[]) (spare:=[]) (news:=iv [dg]) (dst:=47) (del:=none) rfl rfl rfl rfl rfl rfl rfl rfl (cr rfl) rfl (.inl ⟨rfl,rfl,rfl,rfl,rfl,rfl,by omega⟩) (.inl rfl) rfl rfl aa aa ⟨rfl,rfl,bF _⟩ ⟨rfl,rfl,mj _⟩ rfl aa
       (λw1 β k1 b1 ho=>⟨_,_,rfl,.inr ⟨β 46,0,rfl,gP (rest:=[]) (ho.own 46 (.base (List.mem_append_right _ (List.mem_singleton.2 rfl))) _ _ rfl) rfl⟩⟩)
       (λw2 cap' bq ρ k2 b2 dY ik jl hlen ld gw=>wV rfl ?_)
      refine ae ?_
      refine VS.back (n-(i+1)) aa ⟨_,_,?_,?_,?_,?_,⟨i+1,nV,[dg],.row 47 0 ([dg]).length cap',by omega,rfl,rfl,.inr ⟨cap',bq,rfl,rfl,by simp;omega,jl,?_,ld,gw⟩,by simp at sM ⊢;omega,eu.cons Ld.2 (eu.nil _),ni.2,hst⟩⟩
      ·exact⟨rfl,rfl,rfl,rfl,congrArg (λz=>some (AV.val (.int .i64 z))) MQ,congrArg (λz=>some (AV.val (.int .i64 z))) yE,trivial⟩
      ·exact⟨rfl,trivial⟩
      ·rfl
      ·exact⟨.append (.none (bF _)) (.none gw),trivial⟩
      ·simpa [cA,Nat.add_assoc] using hlen
    ·rw[if_neg h0] at ni
     have pH:nV=0:=by omega
     subst pH
     refine VS.aN rfl (decide_eq_false h0) ?_
     refine ae ?_
     ·refine VO.qi 46 rfl (congrArg (λz=>[AV.val (.int .i64 z)]) (show X=(dg:Int) by omega)) ?_
      refine VO.app (cV _ _) (t:=315) (e:=3) (sz:=1) (n:=0) (c:=0) (mm:=1) (known:=[]) (spare:=[]) (news:=iv [dg]) (dst:=47) (del:=none) rfl rfl rfl rfl rfl rfl rfl rfl (cr rfl) rfl (.inl ⟨rfl,rfl,rfl,rfl,rfl,rfl,by omega⟩) (.inl rfl) rfl rfl aa aa ⟨rfl,rfl,bF _⟩ ⟨rfl,rfl,mj _⟩ rfl aa
       (λw1 β k1 b1 ho=>⟨_,_,rfl,.inr ⟨β 46,0,rfl,gP (rest:=[]) (ho.own 46 (.base (List.mem_append_right _ (List.mem_singleton.2 rfl))) _ _ rfl) rfl⟩⟩)
       (λw2 cap' bq ρ k2 b2 dY ik jl hlen ld gw=>wV rfl ?_)
      refine ae ?_
      refine VS.back (n-(i+1)) aa ⟨_,_,?_,?_,?_,?_,⟨i+1,0,[dg],.row 47 0 ([dg]).length cap',by omega,rfl,rfl,.inr ⟨cap',bq,rfl,rfl,by simp;omega,jl,?_,ld,gw⟩,by simp at sM ⊢;omega,eu.cons Ld.2 (eu.nil _),Nat.zero_le _,hst⟩⟩
      ·exact⟨rfl,rfl,rfl,rfl,rfl,congrArg (λz=>some (AV.val (.int .i64 z))) yE,trivial⟩
      ·exact⟨rfl,trivial⟩
      ·rfl
      ·exact⟨.append (.none (bF _)) (.none gw),trivial⟩
      ·simpa [cA,Nat.add_assoc] using hlen
   ·have yl:y=0:=by rw[ia aa] at hyg;omega
    have hwX:IntKind.i64.wrap ((x:Int)-(br:Int))=X:=by rw[sO,hX,yl,Nat.mul_zero];omega
    refine VS.aU rfl (decide_eq_true (Int.ofNat_lt.2 vo)) ?_
    refine ae ?_
    refine VO.cond rfl cW (wV rfl ?_)
    refine VO.read rfl [.int .i64 (x:Int)] rfl (ja rfl nN) (wV rfl ?_)
    refine VO.fix 10 rfl (congrArg (λz=>AV.val (.int .i64 z)) hwX) ?_
    refine ae ?_
    refine VS.aN rfl (decide_eq_false (λe=>him (Int.ofNat_lt.1 e))) ?_
    refine ae ?_
    by_cases h0:X<0
    ·rw[if_pos h0] at ni
     have MQ:IntKind.i64.wrap ((IntKind.i64.wrap (65535-X)).tdiv 65536)=(nV:Int):=by
      rw[IntWalk.i64_in (65535-X) aa,Int.tdiv_eq_ediv_of_nonneg aa,IntWalk.i64_in _ aa,ni.1]
     have hwd:IntKind.i64.wrap (X+IntKind.i64.wrap (65536*(nV:Int)))=(dg:Int):=by
      rw[IntWalk.i64_in (65536*(nV:Int)) aa,IntWalk.i64_in _ aa,Ld.1]
     refine VS.aU rfl (decide_eq_true h0) ?_
     refine ae ?_
     ·refine VO.qi 46 rfl (congrArg (λz=>[AV.val (.int .i64 z)]) (show _=(dg:Int) by rw[MQ,hwd])) ?_
      refine VO.app (cV _ _) (t:=315) (e:=3) (sz:=1) (n:=0) (c:=0) (mm:=1) (known:=[]) (spare:=[]) (news:=iv [dg]) (dst:=47) (del:=none) rfl rfl rfl rfl rfl rfl rfl rfl (cr rfl) rfl (.inl ⟨rfl,rfl,rfl,rfl,rfl,rfl,by omega⟩) (.inl rfl) rfl rfl aa aa ⟨rfl,rfl,bF _⟩ ⟨rfl,rfl,mj _⟩ rfl aa
       (λw1 β k1 b1 ho=>⟨_,_,rfl,.inr ⟨β 46,0,rfl,gP (rest:=[]) (ho.own 46 (.base (List.mem_append_right _ (List.mem_singleton.2 rfl))) _ _ rfl) rfl⟩⟩)
       (λw2 cap' bq ρ k2 b2 dY ik jl hlen ld gw=>wV rfl ?_)
      refine ae ?_
      refine VS.back (n-(i+1)) aa ⟨_,_,?_,?_,?_,?_,⟨i+1,nV,[dg],.row 47 0 ([dg]).length cap',by omega,rfl,rfl,.inr ⟨cap',bq,rfl,rfl,by simp;omega,jl,?_,ld,gw⟩,by simp at sM ⊢;omega,eu.cons Ld.2 (eu.nil _),ni.2,hst⟩⟩
      ·exact⟨rfl,rfl,rfl,rfl,congrArg (λz=>some (AV.val (.int .i64 z))) MQ,congrArg (λz=>some (AV.val (.int .i64 z))) yE,trivial⟩
      ·exact⟨rfl,trivial⟩
      ·rfl
      ·exact⟨.append (.none (bF _)) (.none gw),trivial⟩
      ·simpa [cA,Nat.add_assoc] using hlen
    ·rw[if_neg h0] at ni
     have pH:nV=0:=by omega
     subst pH
     refine VS.aN rfl (decide_eq_false h0) ?_
     refine ae ?_
     ·refine VO.qi 46 rfl (congrArg (λz=>[AV.val (.int .i64 z)]) (show X=(dg:Int) by omega)) ?_
      refine VO.app (cV _ _) (t:=315) (e:=3) (sz:=1) (n:=0) (c:=0) (mm:=1) (known:=[]) (spare:=[]) (news:=iv [dg]) (dst:=47) (del:=none) rfl rfl rfl rfl rfl rfl rfl rfl (cr rfl) rfl (.inl ⟨rfl,rfl,rfl,rfl,rfl,rfl,by omega⟩) (.inl rfl) rfl rfl aa aa ⟨rfl,rfl,bF _⟩ ⟨rfl,rfl,mj _⟩ rfl aa
       (λw1 β k1 b1 ho=>⟨_,_,rfl,.inr ⟨β 46,0,rfl,gP (rest:=[]) (ho.own 46 (.base (List.mem_append_right _ (List.mem_singleton.2 rfl))) _ _ rfl) rfl⟩⟩)
       (λw2 cap' bq ρ k2 b2 dY ik jl hlen ld gw=>wV rfl ?_)
      refine ae ?_
      refine VS.back (n-(i+1)) aa ⟨_,_,?_,?_,?_,?_,⟨i+1,0,[dg],.row 47 0 ([dg]).length cap',by omega,rfl,rfl,.inr ⟨cap',bq,rfl,rfl,by simp;omega,jl,?_,ld,gw⟩,by simp at sM ⊢;omega,eu.cons Ld.2 (eu.nil _),Nat.zero_le _,hst⟩⟩
      ·exact⟨rfl,rfl,rfl,rfl,rfl,congrArg (λz=>some (AV.val (.int .i64 z))) yE,trivial⟩
      ·exact⟨rfl,trivial⟩
      ·rfl
      ·exact⟨.append (.none (bF _)) (.none gw),trivial⟩
      ·simpa [cA,Nat.add_assoc] using hlen
  ·by_cases him:i<m
   ·obtain⟨b2,o2,y',rfl,bM,lX,qA⟩:=hs.cellAt him
    obtain rfl:y'=y:=by rw[List.getD_eq_getElem?_getD,lX] at hyg;exact hyg
    have hwX:IntKind.i64.wrap (IntKind.i64.wrap ((x:Int)-(br:Int))-IntKind.i64.wrap ((t:Int)*(y':Int)))=X:=by
     rw[sO,show (t:Int)*(y':Int)=((t*y':Nat):Int) by simp,IntWalk.i64_in ((t*y':Nat):Int) aa,IntWalk.i64_in _ aa];omega
    refine VS.aU rfl (decide_eq_true (Int.ofNat_lt.2 vo)) ?_
    refine ae ?_
    refine VO.cond rfl cW (wV rfl ?_)
    refine VO.read rfl [.int .i64 (x:Int)] rfl (ja rfl nN) (wV rfl ?_)
    refine ae ?_
    refine VS.aU rfl (decide_eq_true (Int.ofNat_lt.2 him)) ?_
    refine ae ?_
    refine VO.cond rfl cW (wV rfl ?_)
    refine VO.read rfl [.int .i64 (y':Int)] rfl (ja rfl qA) (wV rfl ?_)
    refine VO.fix 10 rfl (congrArg (λz=>AV.val (.int .i64 z)) hwX) ?_
    refine ae ?_
    by_cases h0:X<0
    ·rw[if_pos h0] at ni
     have MQ:IntKind.i64.wrap ((IntKind.i64.wrap (65535-X)).tdiv 65536)=(nV:Int):=by
      rw[IntWalk.i64_in (65535-X) aa,Int.tdiv_eq_ediv_of_nonneg aa,IntWalk.i64_in _ aa,ni.1]
     have hwd:IntKind.i64.wrap (X+IntKind.i64.wrap (65536*(nV:Int)))=(dg:Int):=by
      rw[IntWalk.i64_in (65536*(nV:Int)) aa,IntWalk.i64_in _ aa,Ld.1]
     refine VS.aU rfl (decide_eq_true h0) ?_
     refine ae ?_
     ·refine VO.qi 46 rfl (congrArg (λz=>[AV.val (.int .i64 z)]) (show _=(dg:Int) by rw[MQ,hwd])) ?_
      refine VO.app (cV _ _) (t:=315) (e:=3) (sz:=1) (n:=ds.length) (c:=cap) (mm:=1) (known:=iv ds) (spare:=spare) (news:=iv [dg]) (dst:=47) (del:=some 47) rfl rfl rfl rfl rfl rfl rfl rfl (cr rfl) rfl (.inr ⟨47,rfl,rfl,rfl⟩) (.inr rfl) (by rw[cA];omega) (by rw[List.length_append,cA];omega) h1 h2 ⟨bF _,h5,bF _⟩ ⟨mj _,h4,mj _⟩ rfl aa
       (λw1 β k1 b1 ho=>⟨_,_,rfl,.inr ⟨β 46,0,rfl,gP (rest:=[]) (ho.own 46 (.base (List.mem_append_right _ (List.mem_singleton.2 rfl))) _ _ rfl) rfl⟩⟩)
       (λw2 cap' bq ρ k2 b2 dY ik jl hlen ld gw=>wV rfl ?_)
      refine ae ?_
      refine VS.back (n-(i+1)) aa ⟨_,_,?_,?_,?_,?_,⟨i+1,nV,ds++[dg],.row 47 0 (ds++[dg]).length cap',by omega,rfl,rfl,.inr ⟨cap',bq,rfl,rfl,by simp;omega,jl,?_,ld,gw⟩,by simp[sM],eu.append hdh (eu.cons Ld.2 (eu.nil _)),ni.2,hst⟩⟩
      ·exact⟨rfl,rfl,rfl,congrArg (λz=>some (AV.row 47 0 z cap')) ew,congrArg (λz=>some (AV.val (.int .i64 z))) MQ,congrArg (λz=>some (AV.val (.int .i64 z))) yE,trivial⟩
      ·exact⟨congrArg (λl=>some (_,l++bq)) (pR _ _).symm,trivial⟩
      ·rfl
      ·exact⟨.append (.none (bF _)) (.none gw),trivial⟩
      ·simpa [cA,Nat.add_assoc] using hlen
    ·rw[if_neg h0] at ni
     have pH:nV=0:=by omega
     subst pH
     refine VS.aN rfl (decide_eq_false h0) ?_
     refine ae ?_
     ·refine VO.qi 46 rfl (congrArg (λz=>[AV.val (.int .i64 z)]) (show X=(dg:Int) by omega)) ?_
      refine VO.app (cV _ _) (t:=315) (e:=3) (sz:=1) (n:=ds.length) (c:=cap) (mm:=1) (known:=iv ds) (spare:=spare) (news:=iv [dg]) (dst:=47) (del:=some 47) rfl rfl rfl rfl rfl rfl rfl rfl (cr rfl) rfl (.inr ⟨47,rfl,rfl,rfl⟩) (.inr rfl) (by rw[cA];omega) (by rw[List.length_append,cA];omega) h1 h2 ⟨bF _,h5,bF _⟩ ⟨mj _,h4,mj _⟩ rfl aa
       (λw1 β k1 b1 ho=>⟨_,_,rfl,.inr ⟨β 46,0,rfl,gP (rest:=[]) (ho.own 46 (.base (List.mem_append_right _ (List.mem_singleton.2 rfl))) _ _ rfl) rfl⟩⟩)
       (λw2 cap' bq ρ k2 b2 dY ik jl hlen ld gw=>wV rfl ?_)
      refine ae ?_
      refine VS.back (n-(i+1)) aa ⟨_,_,?_,?_,?_,?_,⟨i+1,0,ds++[dg],.row 47 0 (ds++[dg]).length cap',by omega,rfl,rfl,.inr ⟨cap',bq,rfl,rfl,by simp;omega,jl,?_,ld,gw⟩,by simp[sM],eu.append hdh (eu.cons Ld.2 (eu.nil _)),Nat.zero_le _,hst⟩⟩
      ·exact⟨rfl,rfl,rfl,congrArg (λz=>some (AV.row 47 0 z cap')) ew,rfl,congrArg (λz=>some (AV.val (.int .i64 z))) yE,trivial⟩
      ·exact⟨congrArg (λl=>some (_,l++bq)) (pR _ _).symm,trivial⟩
      ·rfl
      ·exact⟨.append (.none (bF _)) (.none gw),trivial⟩
      ·simpa [cA,Nat.add_assoc] using hlen
   ·have yl:y=0:=by rw[ia aa] at hyg;omega
    have hwX:IntKind.i64.wrap ((x:Int)-(br:Int))=X:=by rw[sO,hX,yl,Nat.mul_zero];omega
    refine VS.aU rfl (decide_eq_true (Int.ofNat_lt.2 vo)) ?_
    refine ae ?_
    refine VO.cond rfl cW (wV rfl ?_)
    refine VO.read rfl [.int .i64 (x:Int)] rfl (ja rfl nN) (wV rfl ?_)
    refine VO.fix 10 rfl (congrArg (λz=>AV.val (.int .i64 z)) hwX) ?_
    refine ae ?_
    refine VS.aN rfl (decide_eq_false (λe=>him (Int.ofNat_lt.1 e))) ?_
    refine ae ?_
    by_cases h0:X<0
    ·rw[if_pos h0] at ni
     have MQ:IntKind.i64.wrap ((IntKind.i64.wrap (65535-X)).tdiv 65536)=(nV:Int):=by
      rw[IntWalk.i64_in (65535-X) aa,Int.tdiv_eq_ediv_of_nonneg aa,IntWalk.i64_in _ aa,ni.1]
     have hwd:IntKind.i64.wrap (X+IntKind.i64.wrap (65536*(nV:Int)))=(dg:Int):=by
      rw[IntWalk.i64_in (65536*(nV:Int)) aa,IntWalk.i64_in _ aa,Ld.1]
     refine VS.aU rfl (decide_eq_true h0) ?_
     refine ae ?_
     ·refine VO.qi 46 rfl (congrArg (λz=>[AV.val (.int .i64 z)]) (show _=(dg:Int) by rw[MQ,hwd])) ?_
      refine VO.app (cV _ _) (t:=315) (e:=3) (sz:=1) (n:=ds.length) (c:=cap) (mm:=1) (known:=iv ds) (spare:=spare) (news:=iv [dg]) (dst:=47) (del:=some 47) rfl rfl rfl rfl rfl rfl rfl rfl (cr rfl) rfl (.inr ⟨47,rfl,rfl,rfl⟩) (.inr rfl) (by rw[cA];omega) (by rw[List.length_append,cA];omega) h1 h2 ⟨bF _,h5,bF _⟩ ⟨mj _,h4,mj _⟩ rfl aa
       (λw1 β k1 b1 ho=>⟨_,_,rfl,.inr ⟨β 46,0,rfl,gP (rest:=[]) (ho.own 46 (.base (List.mem_append_right _ (List.mem_singleton.2 rfl))) _ _ rfl) rfl⟩⟩)
       (λw2 cap' bq ρ k2 b2 dY ik jl hlen ld gw=>wV rfl ?_)
      refine ae ?_
      refine VS.back (n-(i+1)) aa ⟨_,_,?_,?_,?_,?_,⟨i+1,nV,ds++[dg],.row 47 0 (ds++[dg]).length cap',by omega,rfl,rfl,.inr ⟨cap',bq,rfl,rfl,by simp;omega,jl,?_,ld,gw⟩,by simp[sM],eu.append hdh (eu.cons Ld.2 (eu.nil _)),ni.2,hst⟩⟩
      ·exact⟨rfl,rfl,rfl,congrArg (λz=>some (AV.row 47 0 z cap')) ew,congrArg (λz=>some (AV.val (.int .i64 z))) MQ,congrArg (λz=>some (AV.val (.int .i64 z))) yE,trivial⟩
      ·exact⟨congrArg (λl=>some (_,l++bq)) (pR _ _).symm,trivial⟩
      ·rfl
      ·exact⟨.append (.none (bF _)) (.none gw),trivial⟩
      ·simpa [cA,Nat.add_assoc] using hlen
    ·rw[if_neg h0] at ni
     have pH:nV=0:=by omega
     subst pH
     refine VS.aN rfl (decide_eq_false h0) ?_
     refine ae ?_
     ·refine VO.qi 46 rfl (congrArg (λz=>[AV.val (.int .i64 z)]) (show X=(dg:Int) by omega)) ?_
      refine VO.app (cV _ _) (t:=315) (e:=3) (sz:=1) (n:=ds.length) (c:=cap) (mm:=1) (known:=iv ds) (spare:=spare) (news:=iv [dg]) (dst:=47) (del:=some 47) rfl rfl rfl rfl rfl rfl rfl rfl (cr rfl) rfl (.inr ⟨47,rfl,rfl,rfl⟩) (.inr rfl) (by rw[cA];omega) (by rw[List.length_append,cA];omega) h1 h2 ⟨bF _,h5,bF _⟩ ⟨mj _,h4,mj _⟩ rfl aa
       (λw1 β k1 b1 ho=>⟨_,_,rfl,.inr ⟨β 46,0,rfl,gP (rest:=[]) (ho.own 46 (.base (List.mem_append_right _ (List.mem_singleton.2 rfl))) _ _ rfl) rfl⟩⟩)
       (λw2 cap' bq ρ k2 b2 dY ik jl hlen ld gw=>wV rfl ?_)
      refine ae ?_
      refine VS.back (n-(i+1)) aa ⟨_,_,?_,?_,?_,?_,⟨i+1,0,ds++[dg],.row 47 0 (ds++[dg]).length cap',by omega,rfl,rfl,.inr ⟨cap',bq,rfl,rfl,by simp;omega,jl,?_,ld,gw⟩,by simp[sM],eu.append hdh (eu.cons Ld.2 (eu.nil _)),Nat.zero_le _,hst⟩⟩
      ·exact⟨rfl,rfl,rfl,congrArg (λz=>some (AV.row 47 0 z cap')) ew,rfl,congrArg (λz=>some (AV.val (.int .i64 z))) yE,trivial⟩
      ·exact⟨congrArg (λl=>some (_,l++bq)) (pR _ _).symm,trivial⟩
      ·rfl
      ·exact⟨.append (.none (bF _)) (.none gw),trivial⟩
      ·simpa [cA,Nat.add_assoc] using hlen
 ·obtain rfl:i=n:=by omega
  have hend:=MP hdh sM fc (show t*hval (halves B)<=hval (halves A) by rw[bg,bg];exact hle) (by
   rcases Nat.eq_zero_or_pos t with e|e
   ·exact .inl e
   ·right
    rw[<-fc]
    exact dL aa (Nat.le_trans (Nat.le_mul_of_pos_left B e) hle)) hv
  rw[bg,bg] at hend
  rcases aQ with ⟨rfl,rfl,rfl⟩|⟨cap,spare,rfl,rfl,h1,h2,h3,h4,h5⟩
  all_goals
   refine ae ?_
   refine VS.aN rfl (decide_eq_false (λe=>vo (Int.ofNat_lt.1 e))) ?_
   refine ae ?_
  ·refine VO.call rfl rfl (fk Tryz.func267) (λbL dw bX=>(ib none 0 0 [] bL (Rd.own (World.ownsRow_nil _ 0 0 _)) (eu.nil _)).mono ?_)
   rintro e w1 ⟨⟨mm,yw,rfl,hcut⟩,rfl⟩
   obtain rfl:mm=0:=by omega
   refine⟨_,rfl,ax.refl _,λeM _ bb1=>wV rfl ?_⟩
   refine ae ?_
   refine bV ?_;intro wz kz bz
   have e0:A-t*B=0:=by rw[<-hend];rfl
   exact⟨_,rfl,by rw[e0,lz];exact fo.nil _ _,bz⟩
  ·refine VO.zz rfl (fk Tryz.func267) (λw1 β k1 b1 ho=>(ib (some ⟨β 47,0,none⟩) ds.length cap ds w1 (lB (ho.own 47 (.base (List.mem_singleton.2 rfl)) _ _ rfl) rfl h1 (by simpa [maxLen] using h2)) hdh).mono ?_)
   rintro e w2 ⟨⟨mm,yw,rfl,hcut⟩,rfl⟩
   refine⟨.row 47 0 mm cap,rfl,λi hi=>⟨hi,by cases List.mem_singleton.1 hi;exact Option.some_ne_none _⟩,ax.refl _,λk2 _ b2=>wV rfl ?_⟩
   refine ae ?_
   refine VS.qh (cV _ _) rfl (λwz β kz bz he=> ?_)
   have sN:=vH hcut yw rfl
   rw[hend] at hcut sN
   refine⟨_,rfl,?_,bz⟩
   have:=oL (he.own 47 _ _ rfl) rfl yw h1 (by simpa [maxLen] using h2) h3
   rw[<-hcut] at this
   show fo wz w.heap.size (.slice (some ⟨β 47,0,none⟩) mm cap) _ _
   rw[<-sN]
   exact this
set_option maxRecDepth 4000
theorem fo.jb {w w':World} {B:Nat} {v:Value} {n:Nat} {xs:List Nat} (h:fo w B v n xs) (k:aK KI w w'):fo w' B v n xs:=by
 obtain⟨hn,e|⟨b,c,spare,e,hb,hc,r⟩⟩:=h
 ·exact⟨hn,.inl e⟩
 ·exact⟨hn,.inr ⟨b,c,spare,e,hb,k.block _ b _ rfl trivial hc,r⟩⟩
theorem uU.kp {w w':World} {B n:Nat} {v:Value} {cs:List Value} (h:w.ownsRow B 3 1 v n cs) (k:aK KI w w'):w'.ownsRow B 3 1 v n cs:=by
 refine⟨h.1,?_⟩
 rcases h.2 with h2|⟨g,cap,cur,hv,hb,hg,r⟩
 ·exact .inl h2
 ·exact .inr ⟨g,cap,cur,hv,hb,k.block _ g cur rfl trivial hg,r⟩
theorem fo.form {w:World} {B:Nat} {v:Value} {n:Nat} {xs:List Nat} (h:fo w B v n xs):∃ p c,v=.slice p n c:=by
 obtain⟨hn,⟨rfl,rfl⟩|⟨b,c,spare,rfl,_⟩⟩:=h
 ·exact⟨none,0,rfl⟩
 ·exact⟨_,c,rfl⟩
theorem DR (x:Nat):hval [x]=x:=by show x+65536*0=x;omega
theorem eR {P Q:Prop} (h:Q) (i:Q->P:=by intro h;(repeat first|refine wN ?_|refine wP rfl ?_|refine zB rfl ?_|refine cxI_d rfl ?_|refine wO rfl rfl ?_);exact h):P:=i h
theorem eK {P Q X:Prop} (hb:X) (h:Q) (i:X->Q->P:=by intro hb h;refine⟨_,rfl,hb,λa b c=>wV rfl ?_⟩;refine eR ?_;revert a b c;exact h):P:=i hb h
theorem sa {P Q:Prop} (h:Q) (i:Q->P:=by intro h;exact VS.ret (na _ _) rfl rfl h):P:=i h
theorem uE (va vb:Value) (n m A B:Nat) (w:World) (hr:Rd w 1 va n (ints .i64 (halves A))) (hs:Rd w 1 vb m (ints .i64 (halves B))) (hB:A<65536*B) (hm:m<=2147483656):
  Calls Tryz.prog 296 #[va,vb] w λe w'=>e=.returned (.int .i64 ((A/B:Nat):Int))/\ax w w':=by
 obtain⟨p,c,rfl,gg,gF,fc⟩:=hr.i64
 obtain⟨q,d,rfl,Hc,Cg,gX⟩:=hs.i64
 refine ai (C:=FH Tryz.prog w _) (args:=[_,_]) Tryz.func296 rfl Tryz.ntmps296 (cr rfl) ?_
 refine eR ?_
 refine VS.loop (J:=λms L M w'=>∃ (lo hi:Nat),lo<hi/\hi<=65536/\ms=hi-lo/\L=[(0,.val (.slice p n c)),(1,.val (.slice q m d)),(5,.val (.int .i64 (lo:Int))),(6,.val (.int .i64 (hi:Int)))]/\M=[]/\lo*B<=A/\A<hi*B) 65536 ⟨_,_,?_,?_,?_,?_,⟨0,65536,by omega,by omega,rfl,rfl,rfl,by omega,hB⟩⟩ ?_
 ·exact du
 ·exact du
 ·rfl
 ·exact trivial
 rintro ms L M w' ⟨lo,hi,hlh,hh,rfl,rfl,rfl,h1,h2⟩
 have sO:IntKind.i64.wrap ((hi:Int)-(lo:Int))=(hi:Int)-lo:=IntWalk.i64_in _ aa
 refine eR ?_
 by_cases hgo:1<hi-lo
 ·obtain⟨mid,mM⟩:∃ mid,mid=(lo+hi)/2:=⟨_,rfl⟩
  have hwm:IntKind.i64.wrap ((IntKind.i64.wrap ((lo:Int)+(hi:Int))).tdiv 2)=(mid:Int):=by
   rw[IntWalk.i64_in ((lo:Int)+(hi:Int)) aa,Int.tdiv_eq_ediv_of_nonneg aa,IntWalk.i64_in _ aa];omega
  refine VS.aU rfl (decide_eq_true (by rw[sO];omega)) ?_
  refine eR ?_
  refine VO.lit (na _ _) [.int .i64 (mid:Int)] rfl (by rw[hwm];rfl) rfl rfl rfl rfl rfl rfl rfl aa (λw2 b k2 b2 ho=>wV rfl ?_)
  have hmid4:mid<65536:=by omega
  refine VO.call rfl rfl (fk Tryz.func201) (λbL dw bX=>(uD _ _ m 1 (halves B) [mid] bL (hs.below bX) (Rd.own (uU.kp (cs:=ints .i64 [mid]) ho dw)) (bJ B) (eu.cons hmid4 (eu.nil _)) hm aa).mono ?_)
  rintro e w1 ⟨v1,rfl,q1,bl⟩
  rw[bg,DR] at q1
  obtain⟨p1,c1,rfl⟩:=q1.form
  refine eK bl ?_
  intro eM _ bb1
  refine VO.cB rfl rfl (fk Tryz.func313) (λgz gJ iL=>FU _ _ n _ A (B*mid) gz (hr.below iL) (Rd.own (q1.jb gJ).own)) (λgz gJ iL w3 dU lN _ bb3=>wV rfl ?_)
  refine eR ?_
  by_cases hlt:A<B*mid
  ·refine VS.aU rfl (decide_eq_true hlt) ?_
   refine eR ?_
   refine VS.back (mid-lo) aa ⟨_,_,?_,?_,?_,?_,⟨lo,mid,by omega,by omega,rfl,rfl,rfl,h1,by rw[Nat.mul_comm];exact hlt⟩⟩
   ·exact⟨rfl,rfl,rfl,congrArg (λz=>some (AV.val (.int .i64 z))) hwm,trivial⟩
   ·exact du
   ·rfl
   ·exact trivial
  ·refine VS.aN rfl (decide_eq_false hlt) ?_
   refine eR ?_
   refine VS.back (hi-mid) aa ⟨_,_,?_,?_,?_,?_,⟨mid,hi,by omega,by omega,rfl,rfl,rfl,by rw[Nat.mul_comm];omega,h2⟩⟩
   ·exact⟨rfl,rfl,congrArg (λz=>some (AV.val (.int .i64 z))) hwm,rfl,trivial⟩
   ·exact du
   ·rfl
   ·exact trivial
 ·refine VS.aN rfl (decide_eq_false (by rw[sO];omega)) ?_
  refine eR ?_
  refine sa ?_;intro wz kz bz
  refine⟨?_,bz⟩
  have hBp:0<B:=by
   rcases Nat.eq_zero_or_pos B with e|e
   ·rw[e] at hB;omega
   ·exact e
  have:A/B=lo:=by
   have e1:hi=lo+1:=by omega
   rw[e1,Nat.add_mul] at h2
   exact Nat.div_eq_of_lt_le h1 (by rw[Nat.add_mul];exact h2)
  rw[this];rfl
theorem xz {A B k x R V:Nat} {qs:List Nat} (hx:(halves A)[k]? =some x) (hR:R<B) (hV:V=x+65536*R) (h:hval qs*B+R=hval ((halves A).drop (k+1))):
  hval ((V/B)::qs)*B+(V-V/B*B)=hval ((halves A).drop k)/\V<65536*B/\V-V/B*B<B/\V/B<65536:=by
 have jV:=(bJ A).at hx
 have e1:hval ((halves A).drop k)=x+65536*hval ((halves A).drop (k+1)):=qm hx
 have e2:hval ((V/B)::qs)=V/B+65536*hval qs:=rfl
 have e3:=Nat.div_add_mod V B
 have e4:=Nat.mod_lt V (show 0<B by omega)
 rw[Nat.mul_comm] at e3
 have hlt:V<65536*B:=by
  have:65536*R+65536<=65536*B:=by
   have:=Nat.mul_le_mul_left 65536 (show R+1<=B by omega)
   rw[Nat.mul_add] at this;omega
  omega
 refine⟨?_,hlt,by omega,Nat.div_lt_of_lt_mul (by rw[Nat.mul_comm];exact hlt)⟩
 rw[e1,<-h,e2,Nat.add_mul,Nat.mul_add,Nat.mul_assoc]
 omega
theorem DT (va vb:Value) (n m A B:Nat) (w:World) (hr:Rd w 1 va n (ints .i64 (halves A))) (hs:Rd w 1 vb m (ints .i64 (halves B))) (hB:0<B) (hn:n<=1073741824) (hm:m<=1073741824):
  Calls Tryz.prog 260 #[va,vb] w λe w'=>∃ v u,e=.returned (.tuple #[v,u])/\fo w' w.heap.size v (halves (A/B)).length (halves (A/B))/\fo w' w.heap.size u (halves (A%B)).length (halves (A%B))/\ax w w':=by
 obtain⟨p,c,rfl,gg,gF,fc⟩:=hr.i64
 obtain⟨q,d,rfl,Hc,Cg,gX⟩:=hs.i64
 refine ai (C:=bj Tryz.prog w _) (args:=[_,_]) Tryz.func260 rfl Tryz.ntmps260 (cr rfl) ?_
 refine ae ?_
 refine VO.cond rfl ⟨rfl,by omega,by show (n:Int)*(24*1)<=_;omega⟩ (VO.qi 12 rfl (xx _) (wV rfl ?_))
 rw[Int.toNat_natCast]
 refine ae ?_
 have hw0:IntKind.i64.wrap ((n:Int)-1)=(n:Int)-1:=IntWalk.i64_in _ aa
 refine VS.loop (J:=λms L M w'=>∃ (k R:Nat) (qs:List Nat) (v:AV) (M1:List (Nat×(TypeId×List AV))),k<=n/\ms=k/\L=[(0,.val (.slice p n c)),(1,.val (.slice q m d)),(6,.row 12 0 n n),(7,v),(8,.val (.int .i64 ((k:Int)-1)))]/\
  M=(12,(3,iv (List.replicate k 0++qs)))::M1/\RowAt 41 (halves R) v M1/\qs.length=n-k/\gl qs/\R<B/\hval qs*B+R=hval ((halves A).drop k)) n ⟨_,_,?_,?_,?_,?_,⟨n,0,[],.val (.slice none 0 0),[],Nat.le_refl _,rfl,rfl,rfl,.inl ⟨lz,rfl,rfl⟩,by simp,eu.nil _,hB,by rw[List.drop_of_length_le aa];simp[hval,val]⟩⟩ ?_
 ·exact⟨rfl,rfl,rfl,rfl,congrArg (λz=>some (AV.val (.int .i64 z))) hw0,trivial⟩
 ·exact⟨congrArg (λl=>some (_,l)) (by rw[List.append_nil]),trivial⟩
 ·rfl
 ·exact⟨.none (bF _),trivial⟩
 rintro ms L M w' ⟨k,R,qs,v,M1,hk,hms,rfl,rfl,aQ,hql,hqh,hRB,hv⟩
 have hz:(List.replicate k 0++qs).length=n:=by simp;omega
 rcases aQ with ⟨hR0,rfl,rfl⟩|⟨cap,spare,rfl,rfl,g1,g2,g3,g4,g5⟩
 all_goals
  by_cases zc:k=0
 ·subst zc
  refine ae ?_
  refine VO.zz rfl (fk Tryz.func267) (λw1 β k1 bw ho=>(ib (some ⟨β 12,0,none⟩) n n qs w1 (lB (spare:=[]) (by rw[List.append_nil];exact ho.own 12 (.base (List.mem_singleton.2 rfl)) _ _ rfl) (by simpa using hz) (Nat.le_refl _) (by simp only[maxLen];omega)) hqh).mono ?_)
  rintro e w2 ⟨⟨mm,yw,rfl,hcut⟩,rfl⟩
  refine⟨.row 12 0 mm n,rfl,λi hi=>⟨hi,by cases List.mem_singleton.1 hi;exact Option.some_ne_none _⟩,ax.refl _,λk2 _ b2=>wV rfl ?_⟩
  refine ae ?_
  refine VS.qh (cV _ _) rfl (λwz β kz bz he=> ?_)
  have hq0:qs.length=n:=by simpa using hz
  have sN:=vH hcut yw hq0
  rw[List.drop_zero,bg] at hv
  have hA:A/B=hval qs:=by rw[<-hv,Nat.add_comm,Nat.add_mul_div_right _ _ hB,Nat.div_eq_of_lt hRB,Nat.zero_add]
  have hM:A%B=R:=by rw[<-hv,Nat.add_comm,Nat.add_mul_mod_self_right,Nat.mod_eq_of_lt hRB]
  rw[<-hA] at hcut sN
  have e12:=oL (spare:=[]) (by rw[List.append_nil];exact he.own 12 _ _ rfl) hq0 yw (Nat.le_refl _) (by simp only[maxLen];omega) (by simpa using hq0)
  rw[<-hcut] at e12
  refine⟨.slice (some ⟨β 12,0,none⟩) mm n,.slice none 0 0,rfl,by rw[<-sN];exact e12,?_,bz⟩
  rw[hM,hR0];exact fo.nil _ _
 ·obtain⟨j,rfl⟩:∃ j,k=j+1:=⟨k-1,by omega⟩
  have hj:((j+1:Nat):Int)-1=(j:Int):=by omega
  obtain⟨b1,o1,x,rfl,bl,fP,nN⟩:=hr.cellAt (show j<n by omega)
  have jV:=(bJ A).at fP
  obtain⟨V,hV⟩:∃ V,V=x+65536*R:=⟨_,rfl⟩
  obtain⟨s1,s2,s3,s4⟩:=xz fP hRB hV hv
  have hRl:(halves R).length<=m:=by rw[<-gX];exact dL aa aa
  have hXS:hval [x]=V:=by have hR0':R=0:=(by have:=congrArg hval hR0;rw[bg] at this;exact this);rw[hV,hR0'];exact DR x
  have hXH:gl [x]:=eu.cons jV (eu.nil _)
  have hXL:[x].length=(1+0):=rfl
  refine VS.fix 8 rfl (congrArg (λz=>AV.val (.int .i64 z)) hj) ?_
  refine ae ?_
  refine VO.cond rfl cW (wV rfl ?_)
  refine VO.read rfl [.int .i64 (x:Int)] rfl (ja rfl nN) (wV rfl ?_)
  refine ae ?_
  refine VO.app (cV _ _) (t:=315) (e:=3) (sz:=1) (n:=1) (c:=1) (mm:=0) (known:=iv [x]) (spare:=[]) (news:=[]) (dst:=27) (del:=some 24) rfl rfl rfl rfl rfl rfl rfl rfl (cr rfl) rfl (.inr ⟨24,rfl,rfl,rfl⟩) (.inl rfl) rfl rfl aa aa ⟨rfl,rfl,rfl⟩ ⟨rfl,rfl,rfl⟩ rfl aa
   (λw1 β k1 bw ho=>⟨_,_,rfl,.inl rfl⟩)
   (λw2 cap' bq ρ k2 b2 dY ik jl hlen ld gw=>VO.qi 12 rfl (MO 24 ρ _) (wV rfl ?_))
  have hcells:(iv [x]++[])++bq=iv [x]++bq:=rfl
  refine VO.zz rfl (fk Tryz.func267) (λw1 β k1 bw ho=>(ib (some ⟨β 27,0,none⟩) (1+0) cap' [x] w1 (lB (ho.own 27 (.base (List.mem_singleton.2 rfl)) _ _ rfl) hXL ik (by simpa [maxLen] using jl)) hXH).mono ?_)
  rintro e w3 ⟨⟨m',hm',rfl,hcut⟩,rfl⟩
  rw[hXS] at hcut
  have hm'l:m'=(halves V).length:=by rw[hcut,List.length_take];omega
  have sK:∀ {C:Cx} {β:Nat->Nat} {w:World},mV C β w 27 3 (iv [x]++bq)->Rd w 1 (.slice (some ⟨β 27,0,none⟩) m' cap') m' (ints .i64 (halves V)):=λh=>by
   have:=Rd.DI (lB h hXL ik (by simpa [maxLen] using jl)) hm'
   rwa [<-hcut] at this
  refine⟨.row 27 0 m' cap',rfl,λi hi=>⟨hi,by cases List.mem_singleton.1 hi;exact Option.some_ne_none _⟩,ax.refl _,λk3 _ b3=>wV rfl ?_⟩
  refine ae ?_
  refine VO.Du rfl (fk Tryz.func296) (λw1 β k1 bw ho=>(uE _ _ m' m V B w1 (sK (ho.own 27 (.base (List.mem_append_left _ (List.mem_singleton.2 rfl))) _ _ rfl)) (hs.below bw) s2 aa).mono ?_)
  rintro e w4 ⟨rfl,iX⟩
  refine⟨_,rfl,iX,λk4 _ b4=>wV rfl ?_⟩
  refine VO.cond rfl cW (wV rfl ?_)
  refine VO.cond rfl (by show 0+(j:Int).toNat*1+1<=_;rw[Int.toNat_natCast,cA];omega) (wV rfl ?_)
  refine wN ?_
  refine VS.narrow [(0,.val (.slice (some ⟨b1,o1,none⟩) n c)),(1,.val (.slice q m d)),(6,.row 12 0 n n),(7,.row 27 0 m' cap'),(8,.val (.int .i64 (j:Int)))] [(12,(3,iv (List.replicate j 0++(V/B)::qs))),(27,(3,iv [x]++bq))] ?_ ?_ rfl ?_ ?_
  ·exact du
  ·exact⟨congrArg (λl=>some (_,l)) ((vG (j:=j) (x:=V/B) (by rw[hz];omega) (by rw[Int.toNat_natCast];omega)).trans (by rw[uC])),rfl,trivial⟩
  ·exact⟨.none (bF _),.append (.none (bF _)) (.none gw),trivial⟩
  refine ae ?_
  refine VO.cond rfl cW (wV rfl ?_)
  refine VO.il rfl [.val (.int .i64 ((V/B:Nat):Int))] rfl (rZ (j:=j) (by rw[List.getElem?_append_right ew];simp) (by rw[Int.toNat_natCast];omega)) (wV rfl ?_)
  have sO:IntKind.i64.wrap ((j:Int)-1)=(j:Int)-1:=IntWalk.i64_in _ aa
  refine VO.callN (dst:=41) (n:=(halves (V-V/B*B)).length) (t:=3) (sz:=1) (xs:=ints .i64 (halves (V-V/B*B))) rfl rfl rfl (cr rfl) (by show 1<=2;omega) rfl (λw1 β k1 bw ho=>⟨(fk Tryz.func297),(xy _ _ m' m (V/B) V B w1 (sK (ho.own 27 (.base (List.mem_append_left _ (List.mem_singleton.2 rfl))) _ _ rfl)) (hs.below bw) s4 (Nat.div_mul_le_self _ _) aa).mono ?_⟩)
  rintro e w5 ⟨v5,rfl,DU,kj⟩
  refine⟨v5,rfl,kj,DU.new,λ_ _ _ hv5=>wV rfl ?_,λc5 sp5 _ _ _ hv5 hok5 hl5 hc5 Lv=>wV rfl ?_⟩
  ·have dc:halves (V-V/B*B)=[]:=by
    subst hv5
    obtain⟨e1,⟨_,e2⟩|⟨_,_,_,e2,_⟩⟩:=DU
    ·exact List.eq_nil_of_length_eq_zero e2
    ·cases e2
   refine ae ?_
   refine VS.back j aa ⟨_,_,?_,?_,?_,?_,⟨j,V-V/B*B,(V/B)::qs,.val (.slice none 0 0),[],by omega,rfl,rfl,rfl,.inl ⟨dc,rfl,rfl⟩,by simp;omega,eu.cons s4 hqh,s3,s1⟩⟩
   ·exact⟨rfl,rfl,rfl,rfl,congrArg (λz=>some (AV.val (.int .i64 z))) sO,trivial⟩
   ·exact⟨rfl,trivial⟩
   ·rfl
   ·exact⟨.none (bF _),trivial⟩
  ·have hln':(halves (V-V/B*B)).length+sp5.length=c5:=by simpa using Lv
   refine ae ?_
   refine VS.back j aa ⟨_,_,?_,?_,?_,?_,⟨j,V-V/B*B,(V/B)::qs,.row 41 0 _ c5,_,by omega,rfl,rfl,rfl,.inr ⟨c5,sp5.map .val,rfl,rfl,hl5,hc5,by simpa using hln',bc hok5,af _⟩,by simp;omega,eu.cons s4 hqh,s3,s1⟩⟩
   ·exact⟨rfl,rfl,rfl,rfl,congrArg (λz=>some (AV.val (.int .i64 z))) sO,trivial⟩
   ·exact⟨rfl,congrArg (λl=>some (_,l)) (List.map_append),trivial⟩
   ·rfl
   ·exact⟨.none (bF _),.append (.none (bF _)) (.none (af _)),trivial⟩
 ·subst zc
  refine ae ?_
  refine VO.zz rfl (fk Tryz.func267) (λw1 β k1 bw ho=>(ib (some ⟨β 12,0,none⟩) n n qs w1 (lB (spare:=[]) (by rw[List.append_nil];exact ho.own 12 (.base (List.mem_singleton.2 rfl)) _ _ rfl) (by simpa using hz) (Nat.le_refl _) (by simp only[maxLen];omega)) hqh).mono ?_)
  rintro e w2 ⟨⟨mm,yw,rfl,hcut⟩,rfl⟩
  refine⟨.row 12 0 mm n,rfl,λi hi=>⟨hi,by cases List.mem_singleton.1 hi;exact Option.some_ne_none _⟩,ax.refl _,λk2 _ b2=>wV rfl ?_⟩
  refine ae ?_
  refine VS.qh (cV _ _) rfl (λwz β kz bz he=> ?_)
  have hq0:qs.length=n:=by simpa using hz
  have sN:=vH hcut yw hq0
  rw[List.drop_zero,bg] at hv
  have hA:A/B=hval qs:=by rw[<-hv,Nat.add_comm,Nat.add_mul_div_right _ _ hB,Nat.div_eq_of_lt hRB,Nat.zero_add]
  have hM:A%B=R:=by rw[<-hv,Nat.add_comm,Nat.add_mul_mod_self_right,Nat.mod_eq_of_lt hRB]
  rw[<-hA] at hcut sN
  have e12:=oL (spare:=[]) (by rw[List.append_nil];exact he.own 12 _ _ rfl) hq0 yw (Nat.le_refl _) (by simp only[maxLen];omega) (by simpa using hq0)
  rw[<-hcut] at e12
  have e41:=oL (he.own 41 _ _ rfl) rfl (Nat.le_refl _) g1 (by simpa [maxLen] using g2) g3
  rw[List.take_length] at e41
  refine⟨.slice (some ⟨β 12,0,none⟩) mm n,.slice (some ⟨β 41,0,none⟩) (halves R).length cap,rfl,by rw[<-sN];exact e12,?_,bz⟩
  rw[hM];exact e41
 ·obtain⟨j,rfl⟩:∃ j,k=j+1:=⟨k-1,by omega⟩
  have hj:((j+1:Nat):Int)-1=(j:Int):=by omega
  obtain⟨b1,o1,x,rfl,bl,fP,nN⟩:=hr.cellAt (show j<n by omega)
  have jV:=(bJ A).at fP
  obtain⟨V,hV⟩:∃ V,V=x+65536*R:=⟨_,rfl⟩
  obtain⟨s1,s2,s3,s4⟩:=xz fP hRB hV hv
  have hRl:(halves R).length<=m:=by rw[<-gX];exact dL aa aa
  have hXS:hval (x::halves R)=V:=by rw[hV];show x+65536*hval (halves R)=_;rw[bg]
  have hXH:gl (x::halves R):=eu.cons jV (bJ R)
  have hXL:(x::halves R).length=(1+(halves R).length):=by simp;omega
  refine VS.fix 8 rfl (congrArg (λz=>AV.val (.int .i64 z)) hj) ?_
  refine ae ?_
  refine VO.cond rfl cW (wV rfl ?_)
  refine VO.read rfl [.int .i64 (x:Int)] rfl (ja rfl nN) (wV rfl ?_)
  refine ae ?_
  refine VO.app (cV _ _) (t:=315) (e:=3) (sz:=1) (n:=1) (c:=1) (mm:=(halves R).length) (known:=iv [x]) (spare:=[]) (news:=iv (halves R)) (dst:=27) (del:=some 24) rfl rfl rfl rfl rfl rfl rfl rfl (cr rfl) rfl (.inr ⟨24,rfl,rfl,rfl⟩) (.inl rfl) rfl rfl aa aa ⟨rfl,rfl,bF _⟩ ⟨rfl,rfl,mj _⟩ (by rw[cA];omega) aa
   (λw1 β k1 bw ho=>⟨_,_,rfl,.inr ⟨β 41,0,rfl,gP (rest:=spare) (ho.own 41 (.base (List.mem_append_right _ (List.mem_singleton.2 rfl))) _ _ rfl) rfl⟩⟩)
   (λw2 cap' bq ρ k2 b2 dY ik jl hlen ld gw=>VO.qi 12 rfl (MO 24 ρ _) (wV rfl ?_))
  have hcells:(iv [x]++iv (halves R))++bq=iv (x::halves R)++bq:=rfl
  refine VO.zz rfl (fk Tryz.func267) (λw1 β k1 bw ho=>(ib (some ⟨β 27,0,none⟩) (1+(halves R).length) cap' (x::halves R) w1 (lB (ho.own 27 (.base (List.mem_singleton.2 rfl)) _ _ rfl) hXL ik (by simpa [maxLen] using jl)) hXH).mono ?_)
  rintro e w3 ⟨⟨m',hm',rfl,hcut⟩,rfl⟩
  rw[hXS] at hcut
  have hm'l:m'=(halves V).length:=by rw[hcut,List.length_take];omega
  have sK:∀ {C:Cx} {β:Nat->Nat} {w:World},mV C β w 27 3 (iv (x::halves R)++bq)->Rd w 1 (.slice (some ⟨β 27,0,none⟩) m' cap') m' (ints .i64 (halves V)):=λh=>by
   have:=Rd.DI (lB h hXL ik (by simpa [maxLen] using jl)) hm'
   rwa [<-hcut] at this
  refine⟨.row 27 0 m' cap',rfl,λi hi=>⟨hi,by cases List.mem_singleton.1 hi;exact Option.some_ne_none _⟩,ax.refl _,λk3 _ b3=>wV rfl ?_⟩
  refine ae ?_
  refine VO.Du rfl (fk Tryz.func296) (λw1 β k1 bw ho=>(uE _ _ m' m V B w1 (sK (ho.own 27 (.base (List.mem_append_left _ (List.mem_singleton.2 rfl))) _ _ rfl)) (hs.below bw) s2 aa).mono ?_)
  rintro e w4 ⟨rfl,iX⟩
  refine⟨_,rfl,iX,λk4 _ b4=>wV rfl ?_⟩
  refine VO.cond rfl cW (wV rfl ?_)
  refine VO.cond rfl (by show 0+(j:Int).toNat*1+1<=_;rw[Int.toNat_natCast,cA];omega) (wV rfl ?_)
  refine wN ?_
  refine VS.narrow [(0,.val (.slice (some ⟨b1,o1,none⟩) n c)),(1,.val (.slice q m d)),(6,.row 12 0 n n),(7,.row 27 0 m' cap'),(8,.val (.int .i64 (j:Int)))] [(12,(3,iv (List.replicate j 0++(V/B)::qs))),(27,(3,iv (x::halves R)++bq))] ?_ ?_ rfl ?_ ?_
  ·exact du
  ·exact⟨congrArg (λl=>some (_,l)) ((vG (j:=j) (x:=V/B) (by rw[hz];omega) (by rw[Int.toNat_natCast];omega)).trans (by rw[uC])),rfl,trivial⟩
  ·exact⟨.none (bF _),.append (.none (bF _)) (.none gw),trivial⟩
  refine ae ?_
  refine VO.cond rfl cW (wV rfl ?_)
  refine VO.il rfl [.val (.int .i64 ((V/B:Nat):Int))] rfl (rZ (j:=j) (by rw[List.getElem?_append_right ew];simp) (by rw[Int.toNat_natCast];omega)) (wV rfl ?_)
  have sO:IntKind.i64.wrap ((j:Int)-1)=(j:Int)-1:=IntWalk.i64_in _ aa
  refine VO.callN (dst:=41) (n:=(halves (V-V/B*B)).length) (t:=3) (sz:=1) (xs:=ints .i64 (halves (V-V/B*B))) rfl rfl rfl (cr rfl) (by show 1<=2;omega) rfl (λw1 β k1 bw ho=>⟨(fk Tryz.func297),(xy _ _ m' m (V/B) V B w1 (sK (ho.own 27 (.base (List.mem_append_left _ (List.mem_singleton.2 rfl))) _ _ rfl)) (hs.below bw) s4 (Nat.div_mul_le_self _ _) aa).mono ?_⟩)
  rintro e w5 ⟨v5,rfl,DU,kj⟩
  refine⟨v5,rfl,kj,DU.new,λ_ _ _ hv5=>wV rfl ?_,λc5 sp5 _ _ _ hv5 hok5 hl5 hc5 Lv=>wV rfl ?_⟩
  ·have dc:halves (V-V/B*B)=[]:=by
    subst hv5
    obtain⟨e1,⟨_,e2⟩|⟨_,_,_,e2,_⟩⟩:=DU
    ·exact List.eq_nil_of_length_eq_zero e2
    ·cases e2
   refine ae ?_
   refine VS.back j aa ⟨_,_,?_,?_,?_,?_,⟨j,V-V/B*B,(V/B)::qs,.val (.slice none 0 0),[],by omega,rfl,rfl,rfl,.inl ⟨dc,rfl,rfl⟩,by simp;omega,eu.cons s4 hqh,s3,s1⟩⟩
   ·exact⟨rfl,rfl,rfl,rfl,congrArg (λz=>some (AV.val (.int .i64 z))) sO,trivial⟩
   ·exact⟨rfl,trivial⟩
   ·rfl
   ·exact⟨.none (bF _),trivial⟩
  ·have hln':(halves (V-V/B*B)).length+sp5.length=c5:=by simpa using Lv
   refine ae ?_
   refine VS.back j aa ⟨_,_,?_,?_,?_,?_,⟨j,V-V/B*B,(V/B)::qs,.row 41 0 _ c5,_,by omega,rfl,rfl,rfl,.inr ⟨c5,sp5.map .val,rfl,rfl,hl5,hc5,by simpa using hln',bc hok5,af _⟩,by simp;omega,eu.cons s4 hqh,s3,s1⟩⟩
   ·exact⟨rfl,rfl,rfl,rfl,congrArg (λz=>some (AV.val (.int .i64 z))) sO,trivial⟩
   ·exact⟨rfl,congrArg (λl=>some (_,l)) (List.map_append),trivial⟩
   ·rfl
   ·exact⟨.none (bF _),.append (.none (bF _)) (.none (af _)),trivial⟩
set_option maxRecDepth 4000
theorem cz.jb {w w':World} {v:Value} {X:Int} {j:Nat} (h:cz w v X j) (k:aK KI w w'):cz w' v X j:=h.kp (U:=UU) k.dN
theorem cG.jb {w w':World} {v:Value} {X:Int} (h:cG w v X) (k:aK KI w w'):cG w' v X:=h.kp (U:=UU) k.dN
theorem aF.jb {w w':World} {B:Nat} {v:Value} {X:Int} (h:aF w B v X) (k:aK KI w w'):aF w' B v X:=h.kp k.dN
theorem Rd.jb {w w':World} {v:Value} {n:Nat} {xs:List Nat} (h:Rd w 1 v n (ints .u32 xs)) (k:aK KI w w'):Rd w' 1 v n (ints .u32 xs):=h.kp (U:=UU) k.dN
theorem OwnU.jb {w w':World} {B n:Nat} {v:Value} {cs:List Value} (h:w.ownsRow B UU 1 v n cs) (k:aK KI w w'):w'.ownsRow B UU 1 v n cs:=Own.kp h k.dN
theorem fW (a:Nat):(halves a).length<=2*(limbs a).length:=by
 have:=dB (aA a)
 rwa [ak] at this
theorem ic (va:Value) (n a:Nat) (w:World) (hr:Rd w 1 va n (ints .u32 (limbs a))) (hn:n<=1073741824):
  Calls Tryz.prog 202 #[va] w λe w'=>∃ p c,e=.returned (.slice p (halves a).length c)/\w'.ownsRow w.heap.size 3 1 (.slice p (halves a).length c) (halves a).length (ints .i64 (halves a))/\ax w w':=
 (AO va n _ w hr (aA a) hn).mono λe w' ⟨v',he,ho,hb⟩=>by
  rw[ak] at ho
  obtain⟨p,c,rfl,_⟩:=Own.form ho
  exact⟨p,c,he,ho,hb⟩
theorem nj (va:Value) (n a:Nat) (w:World) (hr:Rd w 1 va n (ints .i64 (halves a))) (hn:n<=2147483646):
  Calls Tryz.prog 200 #[va] w λe w'=>∃ p c xs,e=.returned (.slice p ((n+1)/2) c)/\w'.ownsRow w.heap.size UU 1 (.slice p ((n+1)/2) c) ((n+1)/2) (ints .u32 xs)/\aj xs=a/\cL xs/\ax w w':=
 (DN va n _ w hr (bJ a) aa).mono λe w' ⟨v',xs,he,hl,ho,hv,hx,hb⟩=>by
  obtain⟨p,c,rfl,_⟩:=Own.form ho
  exact⟨p,c,xs,he,ho,by rw[hv,bg],hx,hb⟩
theorem xA (va vb:Value) (n m A B:Nat) (w:World) (hr:Rd w 1 va n (ints .i64 (halves A))) (hs:Rd w 1 vb m (ints .i64 (halves B))) (hB:0<B) (hn:n<=1073741824) (hm:m<=1073741824):
  Calls Tryz.prog 260 #[va,vb] w λe w'=>∃ p c q d,e=.returned (.tuple #[.slice p (halves (A/B)).length c,.slice q (halves (A%B)).length d])/\w'.ownsRow w.heap.size 3 1 (.slice p (halves (A/B)).length c) (halves (A/B)).length (ints .i64 (halves (A/B)))/\w'.ownsRow w.heap.size 3 1 (.slice q (halves (A%B)).length d) (halves (A%B)).length (ints .i64 (halves (A%B)))/\ax w w':=
 (DT va vb n m A B w hr hs hB hn hm).mono λe w' ⟨v,u,he,h1,h2,hb⟩=>by
  obtain⟨p,c,rfl⟩:=h1.form
  obtain⟨q,d,rfl⟩:=h2.form
  exact⟨p,c,q,d,he,h1.own,h2.own,hb⟩
theorem MR {X Y:Int} {s t:Bool} (hX:X=if s=true then-(X.natAbs:Int) else X.natAbs) (hY:Y=if t=true then-(Y.natAbs:Int) else Y.natAbs):(if (!(s == t))=true then-((X.natAbs*Y.natAbs:Nat):Int) else ((X.natAbs*Y.natAbs:Nat):Int))=X*Y:=by
 generalize X.natAbs=a at*
 generalize Y.natAbs=b at*
 subst hX hY
 cases s <;> cases t <;> simp[Int.neg_mul,Int.mul_neg]
theorem xB (v u:Value) (X Y:Int) (j k:Nat) (w:World) (hv:cz w v X j) (hu:cz w u Y k) (hj:j<=268435456) (hk:k<=268435456):
  Calls Tryz.prog 141 #[v,u] w λe w'=>∃ r,e=.returned r/\aF w' w.heap.size r (X*Y)/\ax w w':=by
 obtain⟨s,p,n,c,rfl⟩:=hv.form
 obtain⟨t,q,m,d,rfl⟩:=hu.form
 have rj:=hv.len
 have nM:=hu.len
 refine ai (C:=FH Tryz.prog w _) (args:=[_,_]) Tryz.func141 rfl Tryz.ntmps141 (cr rfl) ?_
 refine eR ?_
 refine VO.call rfl rfl (fk Tryz.func196) (λbL dw bX=>(jv _ X j bL (hv.jb dw)).mono ?_)
 rintro e w1 ⟨r1,rfl,h1,bl⟩
 obtain⟨s1,p1,n1,c1,rfl⟩:=h1.gZ
 refine eK bl ?_
 intro eM _ bb1
 refine VO.call rfl rfl (fk Tryz.func196) (λdh eU dQ=>(jv _ Y k dh (hu.jb (eM.aH eU))).mono ?_)
 rintro e w2 ⟨r2,rfl,h2,bM⟩
 obtain⟨s2,p2,n2,c2,rfl⟩:=h2.gZ
 refine eK bM ?_
 intro gr _ bb2
 have e1:=nc h1.LS
 have e2:=nc h2.LS
 have l1:=fW X.natAbs
 have l2:=fW Y.natAbs
 refine VO.call rfl rfl (fk Tryz.func202) (λgz gJ iL=>(ic _ n1 X.natAbs gz (h1.row.jb (eU.aH ((aK.of bM).aH gJ))) (by rw[h1.n];omega)).mono ?_)
 rintro e w3 ⟨p3,c3,rfl,h3,dU⟩
 skip
 refine eK dU ?_
 intro lN _ bb3
 refine VO.call rfl rfl (fk Tryz.func202) (λjw kX kY=>(ic _ n2 Y.natAbs jw (h2.row.jb (gJ.aH ((aK.of dU).aH kX))) (by rw[h2.n];omega)).mono ?_)
 rintro e w4 ⟨p4,c4,rfl,h4,iX⟩
 skip
 refine eK iX ?_
 intro oK _ zJ
 refine VO.call rfl rfl (fk Tryz.func201) (λjU kZ lO=>(uD _ _ _ _ (halves X.natAbs) (halves Y.natAbs) jU (Rd.own (uU.kp h3 (kX.aH ((aK.of iX).aH kZ)))) (Rd.own (uU.kp h4 kZ)) (bJ _) (bJ _) aa aa).mono ?_)
 rintro e w5 ⟨v5,rfl,h5,kj⟩
 rw[bg,bg] at h5
 obtain⟨p5,c5,rfl⟩:=h5.form
 have l5:(halves (X.natAbs*Y.natAbs)).length<=1073741824:=by
  refine Nat.le_trans (fW _) ?_
  have:=Sz.mul (X:=X) (Y:=Y) rj nM
  unfold Sz at this
  rw[Int.natAbs_mul] at this
  omega
 refine eK kj ?_
 intro pQ _ AM
 refine VO.call rfl rfl (fk Tryz.func200) (λuV sc BA=>(nj _ _ (X.natAbs*Y.natAbs) uV (Rd.own (h5.jb sc).own) aa).mono ?_)
 rintro e w6 ⟨p6,c6,xs6,rfl,h6,hx6,hl6,uT⟩
 skip
 refine eK uT ?_
 intro yp _ Le
 refine VO.cI rfl rfl (fk Tryz.func197) (λDV BB yG=>iK (!(s1 == s2)) _ _ xs6 DV (Rd.own (OwnU.jb h6 BB)) hl6 aa) (λDV BB yG w7 s7 p7 n7 c7 h7 Ig FV _ bb7=>wV rfl ?_)
 refine eR ?_
 refine sa ?_;intro wz kz bz
 refine⟨_,rfl,aF.cast ((h7.jb kz).mono yG.size) ?_,bz⟩
 rw[hx6]
 exact MR e1 e2
theorem Ir {s:Bool} {n:Nat} (h:n≠0):(if s=true then-(n:Int) else n).sign=if s=true then-1 else 1:=by
 cases s
 ·exact fj (by simp;omega)
 ·exact sign_neg (by simp;omega)
theorem div_len {a b:Nat}:(halves (a/b)).length<=(halves a).length:=dL aa (Nat.div_le_self _ _)
theorem mod_len {a b:Nat}:(halves (a%b)).length<=(halves a).length:=dL aa (Nat.mod_le _ _)
theorem Iu {xs:List Nat} {a:Nat} {s:Bool} (hl:cL xs) (hv:aj xs=a):Sz (if s=true then-((aj xs:Nat):Int) else aj xs) xs.length:=by
 unfold Sz
 have:(if s=true then-((aj xs:Nat):Int) else aj xs).natAbs=aj xs:=by cases s <;> simp
 rw[this]
 exact iB hl
theorem lC (v u:Value) (X Y:Int) (j k:Nat) (w:World) (hv:cz w v X j) (hu:cz w u Y k) (hj:j<=134217728) (hk:k<=134217728):
  Calls Tryz.prog 195 #[v,u] w λe w'=>xp w w' X Y e/\ax w w':=by
 obtain⟨s,p,n,c,rfl⟩:=hv.form
 obtain⟨t,q,m,d,rfl⟩:=hu.form
 have rj:=hv.len
 have nM:=hu.len
 refine ai (C:=FH Tryz.prog w _) (args:=[_,_]) Tryz.func195 rfl Tryz.ntmps195 (cr rfl) ?_
 refine eR ?_
 refine VO.call rfl rfl (fk Tryz.func196) (λbL dw bX=>(jv _ X j bL (hv.jb dw)).mono ?_)
 rintro e w1 ⟨r1,rfl,h1,bl⟩
 obtain⟨s1,p1,n1,c1,rfl⟩:=h1.gZ
 refine eK bl ?_
 intro eM _ bb1
 refine VO.call rfl rfl (fk Tryz.func196) (λdh eU dQ=>(jv _ Y k dh (hu.jb (eM.aH eU))).mono ?_)
 rintro e w2 ⟨r2,rfl,h2,bM⟩
 obtain⟨s2,p2,n2,c2,rfl⟩:=h2.gZ
 refine eK bM ?_
 intro gr _ bb2
 have e1:=nc h1.LS
 have e2:=nc h2.LS
 have l1:=fW X.natAbs
 have l2:=fW Y.natAbs
 by_cases hY:Y=0
 ·have hn0:n2=0:=by rw[h2.n,hY];exact congrArg List.length bP
  refine VS.aU rfl (by rw[beq_iff_eq];omega) ?_
  refine eR ?_
  refine sa ?_;intro wz kz bz
  exact⟨.inl ⟨hY,_,_,rfl,aF.zero _ _,aF.zero _ _⟩,bz⟩
 ·have hY0:Y.natAbs≠0:=by omega
  have hn0:n2≠0:=by rw[h2.n];intro e;exact hY0 (oc e)
  refine VS.aN rfl (by rw[beq_eq_false_iff_ne];omega) ?_
  refine eR ?_
  refine VO.call rfl rfl (fk Tryz.func202) (λgz gJ iL=>(ic _ n1 X.natAbs gz (h1.row.jb (eU.aH ((aK.of bM).aH gJ))) (by rw[h1.n];omega)).mono ?_)
  rintro e w3 ⟨p3,c3,rfl,h3,dU⟩
  skip
  refine eK dU ?_
  intro lN _ bb3
  refine VO.call rfl rfl (fk Tryz.func202) (λjw kX kY=>(ic _ n2 Y.natAbs jw (h2.row.jb (gJ.aH ((aK.of dU).aH kX))) (by rw[h2.n];omega)).mono ?_)
  rintro e w4 ⟨p4,c4,rfl,h4,iX⟩
  skip
  refine eK iX ?_
  intro oK _ zJ
  refine VO.call rfl rfl (fk Tryz.func260) (λjU kZ lO=>(xA _ _ _ _ X.natAbs Y.natAbs jU (Rd.own (uU.kp h3 (kX.aH ((aK.of iX).aH kZ)))) (Rd.own (uU.kp h4 kZ)) aa aa aa).mono ?_)
  rintro e w5 ⟨p5,c5,q5,d5,rfl,h5,h5',kj⟩
  skip
  refine eK kj ?_
  intro pQ _ AM
  have l5:(halves (X.natAbs/Y.natAbs)).length<=(halves X.natAbs).length:=div_len
  have l5':(halves (X.natAbs%Y.natAbs)).length<=(halves X.natAbs).length:=mod_len
  refine VO.call rfl rfl (fk Tryz.func200) (λuV sc BA=>(nj _ _ (X.natAbs/Y.natAbs) uV (Rd.own (uU.kp h5 sc)) aa).mono ?_)
  rintro e w6 ⟨p6,c6,xs6,rfl,h6,hx6,hl6,uT⟩
  skip
  refine eK uT ?_
  intro yp _ Le
  refine VO.cI rfl rfl (fk Tryz.func197) (λDV BB yG=>iK (!(s1 == s2)) _ _ xs6 DV (Rd.own (OwnU.jb h6 BB)) hl6 aa) (λDV BB yG w7 s7 p7 n7 c7 h7 Ig FV _ bb7=>wV rfl ?_)
  refine eR ?_
  refine VO.call rfl rfl (fk Tryz.func200) (λwa8 ka8 ba8=>(nj _ _ (X.natAbs%Y.natAbs) wa8 (Rd.own (uU.kp h5' (sc.aH ((aK.of uT).aH (BB.aH ((aK.of Ig).aH ka8)))))) aa).mono ?_)
  rintro e w8 ⟨p8,c8,xs8,rfl,h8,hx8,hl8,hb8⟩
  skip
  refine eK hb8 ?_
  intro Lf _ bb8
  refine VO.cI rfl rfl (fk Tryz.func197) (λwa9 ka9 ba9=>iK s1 _ _ xs8 wa9 (Rd.own (OwnU.jb h8 ka9)) hl8 aa) (λwa9 ka9 ba9 w9 s9 p9 n9 c9 h9 Jv Lg _ bb9=>wV rfl ?_)
  refine eR ?_
  have z7:Sz (if (!(s1 == s2))=true then-((aj xs6:Nat):Int) else aj xs6) xs6.length:=Iu hl6 hx6
  have z9:Sz (if s1=true then-((aj xs8:Nat):Int) else aj xs8) xs8.length:=Iu hl8 hx8
  have lx6:xs6.length<=268435457:=by have:=h6.1;simp at this;omega
  have lx8:xs8.length<=268435457:=by have:=h8.1;simp at this;omega
  rw[hx6] at h7 z7
  rw[hx8] at h9 z9
  have law:=@pP X Y X.natAbs Y.natAbs
  by_cases sL:X.natAbs%Y.natAbs=0
  ·have s0:(if s1=true then-((X.natAbs%Y.natAbs:Nat):Int) else ((X.natAbs%Y.natAbs:Nat):Int))=0:=by rw[sL];cases s1 <;> rfl
   rw[s0] at h9 z9
   refine VO.cB rfl rfl (fk Tryz.func191) (λyH yJ MS=>de _ 0 _ yH ((h9.jb yJ).in z9) aa) (λyH yJ MS DW DX jX _ bb10=>wV rfl ?_)
   (repeat (first|refine wN ?_|refine wP rfl ?_|refine zB rfl ?_|refine wO rfl rfl ?_))
   refine VS.Dr (na _ _) (kt _ _) 5 rfl ?_
   (repeat' (first|refine VA.go rfl ?_|refine VA.fin rfl ?_|refine VA.eL _ rfl rfl ?_|refine VA.cons rfl ?_ ?_|exact VA.nil rfl))
   all_goals
    refine eR ?_
    refine sa ?_;intro wz kz bz
    obtain⟨g1,g2⟩:=law e1 e2 hY0 (.inl ⟨.inr sL,rfl,rfl⟩)
    refine⟨.inr ⟨hY,_,_,rfl,aF.cast ((h7.jb (Lf.aH (Lg.aH (jX.aH kz)))).mono yG.size) g1.symm,aF.cast ((h9.jb (jX.aH kz)).mono ba9.size) ?_⟩,bz⟩
    rw[g2,sL]
    cases s2 <;> rfl
  ·have sy:=Ir (s:=s2) hY0
   rw[<-e2] at sy
   have sr:=Ir (s:=s1) sL
   rcases hs12:(s1,s2) with ⟨_|_,_|_⟩ <;> cases hs12
   ·replace sr:(if false=true then-((X.natAbs%Y.natAbs:Nat):Int) else ((X.natAbs%Y.natAbs:Nat):Int)).sign=1:=sr
    replace sy:Y.sign=1:=sy
    refine VO.call rfl rfl (fk Tryz.func191) (λyH yJ MS=>(de _ _ _ yH ((h9.jb yJ).in z9) aa).mono ?_)
    rintro e DW ⟨rfl,DX⟩
    rw[sr]
    refine eK DX ?_
    intro jX _ bb10
    refine VO.call rfl rfl (fk Tryz.func191) (λyK AP JW=>(de _ _ _ yK ((h9.jb (jX.aH AP)).in z9) aa).mono ?_)
    rintro e w11 ⟨rfl,DY⟩
    rw[sr]
    refine eK DY ?_
    intro nR _ bb11
    refine VO.call rfl rfl (fk Tryz.func191) (λyL AQ MT=>(de _ Y k yL ((h2.jb (lN.aH (oK.aH (pQ.aH (yp.aH (FV.aH (Lf.aH (Lg.aH (jX.aH (nR.aH AQ)))))))))).to nM) aa).mono ?_)
    rintro e w12 ⟨rfl,yM⟩
    rw[sy]
    refine⟨_,rfl,yM,λse _ bb12=>wV rfl ?_⟩
    (repeat (first|refine wN ?_|refine wP rfl ?_|refine zB rfl ?_|refine wO rfl rfl ?_))
    refine VS.Dr (na _ _) (kt _ _) 5 rfl ?_
    (repeat' (first|refine VA.go rfl ?_|refine VA.fin rfl ?_|refine VA.eL _ rfl rfl ?_|refine VA.cons rfl ?_ ?_|exact VA.nil rfl))
    all_goals
     refine eR ?_
     refine sa ?_;intro wz kz bz
     obtain⟨g1,g2⟩:=law e1 e2 hY0 (.inl ⟨.inl rfl,rfl,rfl⟩)
     exact⟨.inr ⟨hY,_,_,rfl,aF.cast ((h7.jb (Lf.aH (Lg.aH (jX.aH (nR.aH (se.aH kz)))))).mono yG.size) g1.symm,aF.cast ((h9.jb (jX.aH (nR.aH (se.aH kz)))).mono ba9.size) g2.symm⟩,bz⟩
   ·replace sr:(if false=true then-((X.natAbs%Y.natAbs:Nat):Int) else ((X.natAbs%Y.natAbs:Nat):Int)).sign=1:=sr
    replace sy:Y.sign= -1:=sy
    refine VO.call rfl rfl (fk Tryz.func191) (λyH yJ MS=>(de _ _ _ yH ((h9.jb yJ).in z9) aa).mono ?_)
    rintro e DW ⟨rfl,DX⟩
    rw[sr]
    refine eK DX ?_
    intro jX _ bb10
    refine VO.call rfl rfl (fk Tryz.func191) (λyK AP JW=>(de _ _ _ yK ((h9.jb (jX.aH AP)).in z9) aa).mono ?_)
    rintro e w11 ⟨rfl,DY⟩
    rw[sr]
    refine eK DY ?_
    intro nR _ bb11
    refine VO.call rfl rfl (fk Tryz.func191) (λyL AQ MT=>(de _ Y k yL ((h2.jb (lN.aH (oK.aH (pQ.aH (yp.aH (FV.aH (Lf.aH (Lg.aH (jX.aH (nR.aH AQ)))))))))).to nM) aa).mono ?_)
    rintro e w12 ⟨rfl,yM⟩
    rw[sy]
    refine eK yM ?_
    intro se _ bb12
    refine VO.cI rfl rfl (fk Tryz.func142) (λDZ MU JX=>ng 1 DZ aa aa) (λDZ MU JX gm s13 p13 n13 c13 h13 hb13 Ea _ bb13=>wV rfl ?_)
    refine eR ?_
    refine VO.cI rfl rfl (fk Tryz.func261) (λEb AR FX=>DM _ _ _ 1 _ 1 Eb (((h7.jb (Lf.aH (Lg.aH (jX.aH (nR.aH (se.aH (Ea.aH AR))))))).in z7)) ((h13.jb AR).in (Sz.small cH)) aa aa) (λEb AR FX w14 s14 p14 n14 c14 h14 hb14 JY _ bb14=>wV rfl ?_)
    refine eR ?_
    refine VO.cI rfl rfl (fk Tryz.func140) (λEc AU FY=>rX _ _ _ Y _ k Ec ((h9.jb (jX.aH (nR.aH (se.aH (Ea.aH (JY.aH AU)))))).in z9) ((h2.jb (lN.aH (oK.aH (pQ.aH (yp.aH (FV.aH (Lf.aH (Lg.aH (jX.aH (nR.aH (se.aH (Ea.aH (JY.aH AU))))))))))))).to nM) aa aa) (λEc AU FY w15 s15 p15 n15 c15 h15 hb15 kb15 _ bb15=>wV rfl ?_)
    (repeat (first|refine wN ?_|refine wP rfl ?_|refine zB rfl ?_|refine wO rfl rfl ?_))
    refine VS.Dr (na _ _) (kt _ _) 5 rfl ?_
    (repeat' (first|refine VA.go rfl ?_|refine VA.fin rfl ?_|refine VA.eL _ rfl rfl ?_|refine VA.cons rfl ?_ ?_|exact VA.nil rfl))
    all_goals
     refine eR ?_
     refine sa ?_;intro wz kz bz
     have hlt:=Nat.mod_lt X.natAbs (show 0<Y.natAbs by omega)
     obtain⟨g1,g2⟩:=law e1 e2 hY0 (.inr ⟨by simp,sL,rfl,rfl⟩)
     refine⟨.inr ⟨hY,_,_,rfl,aF.cast ((h14.jb (kb15.aH kz)).mono FX.size) ?_,aF.cast ((h15.jb kz).mono FY.size) ?_⟩,bz⟩
     ·rw[g1];simp;omega
     ·rw[g2];simp at e1 e2 ⊢;omega
   ·replace sr:(if true=true then-((X.natAbs%Y.natAbs:Nat):Int) else ((X.natAbs%Y.natAbs:Nat):Int)).sign= -1:=sr
    replace sy:Y.sign=1:=sy
    refine VO.call rfl rfl (fk Tryz.func191) (λyH yJ MS=>(de _ _ _ yH ((h9.jb yJ).in z9) aa).mono ?_)
    rintro e DW ⟨rfl,DX⟩
    rw[sr]
    refine eK DX ?_
    intro jX _ bb10
    refine VO.call rfl rfl (fk Tryz.func191) (λyK AP JW=>(de _ _ _ yK ((h9.jb (jX.aH AP)).in z9) aa).mono ?_)
    rintro e w11 ⟨rfl,DY⟩
    rw[sr]
    refine eK DY ?_
    intro nR _ bb11
    refine VO.call rfl rfl (fk Tryz.func191) (λyL AQ MT=>(de _ Y k yL ((h2.jb (lN.aH (oK.aH (pQ.aH (yp.aH (FV.aH (Lf.aH (Lg.aH (jX.aH (nR.aH AQ)))))))))).to nM) aa).mono ?_)
    rintro e w12 ⟨rfl,yM⟩
    rw[sy]
    refine eK yM ?_
    intro se _ bb12
    refine VO.cI rfl rfl (fk Tryz.func142) (λDZ MU JX=>ng 1 DZ aa aa) (λDZ MU JX gm s13 p13 n13 c13 h13 hb13 Ea _ bb13=>wV rfl ?_)
    refine eR ?_
    refine VO.cI rfl rfl (fk Tryz.func261) (λEb AR FX=>DM _ _ _ 1 _ 1 Eb (((h7.jb (Lf.aH (Lg.aH (jX.aH (nR.aH (se.aH (Ea.aH AR))))))).in z7)) ((h13.jb AR).in (Sz.small cH)) aa aa) (λEb AR FX w14 s14 p14 n14 c14 h14 hb14 JY _ bb14=>wV rfl ?_)
    refine eR ?_
    refine VO.cI rfl rfl (fk Tryz.func140) (λEc AU FY=>rX _ _ _ Y _ k Ec ((h9.jb (jX.aH (nR.aH (se.aH (Ea.aH (JY.aH AU)))))).in z9) ((h2.jb (lN.aH (oK.aH (pQ.aH (yp.aH (FV.aH (Lf.aH (Lg.aH (jX.aH (nR.aH (se.aH (Ea.aH (JY.aH AU))))))))))))).to nM) aa aa) (λEc AU FY w15 s15 p15 n15 c15 h15 hb15 kb15 _ bb15=>wV rfl ?_)
    (repeat (first|refine wN ?_|refine wP rfl ?_|refine zB rfl ?_|refine wO rfl rfl ?_))
    refine VS.Dr (na _ _) (kt _ _) 5 rfl ?_
    (repeat' (first|refine VA.go rfl ?_|refine VA.fin rfl ?_|refine VA.eL _ rfl rfl ?_|refine VA.cons rfl ?_ ?_|exact VA.nil rfl))
    all_goals
     refine eR ?_
     refine sa ?_;intro wz kz bz
     have hlt:=Nat.mod_lt X.natAbs (show 0<Y.natAbs by omega)
     obtain⟨g1,g2⟩:=law e1 e2 hY0 (.inr ⟨by simp,sL,rfl,rfl⟩)
     refine⟨.inr ⟨hY,_,_,rfl,aF.cast ((h14.jb (kb15.aH kz)).mono FX.size) ?_,aF.cast ((h15.jb kz).mono FY.size) ?_⟩,bz⟩
     ·rw[g1];simp;omega
     ·rw[g2];simp at e1 e2 ⊢;omega
   ·replace sr:(if true=true then-((X.natAbs%Y.natAbs:Nat):Int) else ((X.natAbs%Y.natAbs:Nat):Int)).sign= -1:=sr
    replace sy:Y.sign= -1:=sy
    refine VO.call rfl rfl (fk Tryz.func191) (λyH yJ MS=>(de _ _ _ yH ((h9.jb yJ).in z9) aa).mono ?_)
    rintro e DW ⟨rfl,DX⟩
    rw[sr]
    refine eK DX ?_
    intro jX _ bb10
    refine VO.call rfl rfl (fk Tryz.func191) (λyK AP JW=>(de _ _ _ yK ((h9.jb (jX.aH AP)).in z9) aa).mono ?_)
    rintro e w11 ⟨rfl,DY⟩
    rw[sr]
    refine eK DY ?_
    intro nR _ bb11
    refine VO.call rfl rfl (fk Tryz.func191) (λyL AQ MT=>(de _ Y k yL ((h2.jb (lN.aH (oK.aH (pQ.aH (yp.aH (FV.aH (Lf.aH (Lg.aH (jX.aH (nR.aH AQ)))))))))).to nM) aa).mono ?_)
    rintro e w12 ⟨rfl,yM⟩
    rw[sy]
    refine⟨_,rfl,yM,λse _ bb12=>wV rfl ?_⟩
    (repeat (first|refine wN ?_|refine wP rfl ?_|refine zB rfl ?_|refine wO rfl rfl ?_))
    refine VS.Dr (na _ _) (kt _ _) 5 rfl ?_
    (repeat' (first|refine VA.go rfl ?_|refine VA.fin rfl ?_|refine VA.eL _ rfl rfl ?_|refine VA.cons rfl ?_ ?_|exact VA.nil rfl))
    all_goals
     refine eR ?_
     refine sa ?_;intro wz kz bz
     obtain⟨g1,g2⟩:=law e1 e2 hY0 (.inl ⟨.inl rfl,rfl,rfl⟩)
     exact⟨.inr ⟨hY,_,_,rfl,aF.cast ((h7.jb (Lf.aH (Lg.aH (jX.aH (nR.aH (se.aH kz)))))).mono yG.size) g1.symm,aF.cast ((h9.jb (jX.aH (nR.aH (se.aH kz)))).mono ba9.size) g2.symm⟩,bz⟩
set_option maxRecDepth 4000
theorem gcd_len {a b N:Nat} (hb:b≠0) (ha:(halves a).length<=N) (hbl:(halves b).length<=N):(halves (a%b)).length<=N:=Nat.le_trans (dL aa (Nat.le_of_lt (Nat.mod_lt a (Nat.pos_of_ne_zero hb)))) hbl
theorem iq {P:Prop} (h:P:=by (repeat first|exact trivial|refine⟨aw.lit rfl,?_⟩|refine⟨aw.vals _,?_⟩)):P:=h
theorem xC (v u:Value) (X Y:Int) (j k:Nat) (w:World) (hv:cz w v X j) (hu:cz w u Y k) (hj:j<=268435456) (hk:k<=268435456):
  Calls Tryz.prog 193 #[v,u] w λe w'=>∃ r,e=.returned r/\aF w' w.heap.size r (Int.gcd X Y:Int)/\ax w w':=by
 obtain⟨s,p,n,c,rfl⟩:=hv.form
 obtain⟨t,q,m,d,rfl⟩:=hu.form
 have rj:=hv.len
 have nM:=hu.len
 have l1:=fW X.natAbs
 have l2:=fW Y.natAbs
 refine ai (C:=FH Tryz.prog w _) (args:=[_,_]) Tryz.func193 rfl Tryz.ntmps193 (cr rfl) ?_
 refine eR ?_
 refine VO.call rfl rfl (fk Tryz.func196) (λbL dw bX=>(jv _ X j bL (hv.jb dw)).mono ?_)
 rintro e w1 ⟨r1,rfl,h1,bl⟩
 obtain⟨s1,p1,n1,c1,rfl⟩:=h1.gZ
 refine eK bl ?_
 intro eM _ bb1
 refine VO.call rfl rfl (fk Tryz.func202) (λgz gJ iL=>(ic _ n1 X.natAbs gz (h1.row.jb gJ) (by rw[h1.n];omega)).mono ?_)
 rintro e w3 ⟨p3,c3,rfl,h3,dU⟩
 skip
 refine eK dU ?_
 intro lN _ bb3
 refine VO.call rfl rfl (fk Tryz.func196) (λdh eU dQ=>(jv _ Y k dh (hu.jb (eM.aH (lN.aH eU)))).mono ?_)
 rintro e w2 ⟨r2,rfl,h2,bM⟩
 obtain⟨s2,p2,n2,c2,rfl⟩:=h2.gZ
 refine eK bM ?_
 intro gr _ bb2
 refine VO.call rfl rfl (fk Tryz.func202) (λjw kX kY=>(ic _ n2 Y.natAbs jw (h2.row.jb kX) (by rw[h2.n];omega)).mono ?_)
 rintro e w4 ⟨p4,c4,rfl,h4,iX⟩
 skip
 refine eK iX ?_
 intro oK _ zJ
 refine VS.loop (J:=λms L M w'=>∃ (a b:Nat) (px:Option Addr) (cx:Nat) (py:Option Addr) (cy:Nat),ms=b/\Nat.gcd a b=Int.gcd X Y/\L=[(4,.box 4 0),(5,.val (.slice px (halves a).length cx)),(6,.val (.slice py (halves b).length cy))]/\M=[(4,(36,([.bool false,.slice none 0 0]:List Value).map .val))]/\
  (halves a).length<=536870912/\(halves b).length<=536870912/\w'.ownsRow w.heap.size 3 1 (.slice px (halves a).length cx) (halves a).length (ints .i64 (halves a))/\w'.ownsRow w.heap.size 3 1 (.slice py (halves b).length cy) (halves b).length (ints .i64 (halves b))) Y.natAbs
  ⟨_,_,?_,?_,?_,?_,⟨X.natAbs,Y.natAbs,p3,c3,p4,c4,rfl,rfl,rfl,rfl,by omega,by omega,uU.kp (Own.mono h3 iL.size) (gr.aH oK),Own.mono h4 kY.size⟩⟩ ?_
 ·exact du
 ·exact du
 ·rfl
 ·exact iq
 rintro ms L M w' ⟨a,b,px,cx,py,cy,hms,hg,rfl,rfl,la,lb,oa,ob⟩
 refine eR ?_
 by_cases pH:b=0
 ·subst pH
  have hl0:(halves 0).length=0:=by rw[lz];rfl
  refine VS.aN rfl (decide_eq_false (by rw[hl0];omega)) ?_
  refine eR ?_
  refine VO.call rfl rfl (fk Tryz.func200) (λuV sc BA=>(nj _ _ a uV (Rd.own (uU.kp oa sc)) aa).mono ?_)
  rintro e w6 ⟨p6,c6,xs6,rfl,h6,hx6,hl6,uT⟩
  skip
  refine eK uT ?_
  intro yp _ Le
  refine VO.cI rfl rfl (fk Tryz.func197) (λDV BB yG=>iK false _ _ xs6 DV (Rd.own (OwnU.jb h6 BB)) hl6 aa) (λDV BB yG w7 s7 p7 n7 c7 h7 Ig FV _ bb7=>wV rfl ?_)
  refine eR ?_
  refine sa ?_;intro wz kz bz
  refine⟨_,rfl,aF.cast ((h7.jb kz).mono yG.size) ?_,bz⟩
  rw[hx6,<-hg,Nat.gcd_zero_right];rfl
 ·have hlp:0<(halves b).length:=nH aa pH
  refine VS.aU rfl (decide_eq_true aa) ?_
  refine eR ?_
  refine VO.call rfl rfl (fk Tryz.func260) (λjU kZ lO=>(xA _ _ _ _ a b jU (Rd.own (uU.kp oa kZ)) (Rd.own (uU.kp ob kZ)) aa aa aa).mono ?_)
  rintro e w5 ⟨p5,c5,q5,d5,rfl,h5,h5',kj⟩
  skip
  refine eK kj ?_
  intro pQ _ AM
  refine VS.back (a%b) (by rw[hms];exact Nat.mod_lt _ aa) ⟨_,_,?_,?_,?_,?_,⟨b,a%b,py,cy,q5,d5,rfl,by rw[<-hg,Nat.gcd_comm a b,Nat.gcd_comm b (a%b)];exact (Nat.gcd_rec b a).symm,rfl,rfl,lb,gcd_len pH la lb,uU.kp ob pQ,Own.mono h5' lO.size⟩⟩
  ·exact du
  ·exact du
  ·rfl
  ·exact iq
end
end Go.Proofs.YtlifeokjcgngjaaGreat
