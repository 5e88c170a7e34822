/-The statement AdjustKnown of the tax program holds:for every input the law returns true and leaves its arguments as they were. No condition. -/
import Derived.Test.YtlifeokjcgngjaaGreatRows
import Derived.Test.YtlifeokjcgngjaaGreatKAdjustKnown8
import Derived.WalkKit
import Derived.ProofKit
import Derived.OpenShut
import Derived.ShutString
import Derived.ChangeOld
import Derived.Below
namespace Go.Proofs.YtlifeokjcgngjaaGreat.adjustKnown
open Go.ChangeShapes Go.WideShapes Go.ChangeAt Go.RowKit
open Go.ChangeMaps (open_string shut_string)
set_option linter.all false
theorem own:ownKnob Tryz.prog.godebug=none:=by kernel_rfl
theorem laidOut:laidOutB Tryz.prog=true:=by kernel_rfl
set_option maxRecDepth 100000 in
theorem lifted (os:Os) (started:os.Started) (H:Type) (enc:TypeId×Value->H):
  ReturnsInHanded {} Tryz.checked os 8 .any (Rows.adjustKnownSpec.pre6 enc Tryz.prog Tryz.f8 Rows.adjustKnownRow.domain false) (Rows.adjustKnownSpec.post enc Tryz.prog Tryz.f8 false true false false):=by
 refine returnsInHanded_of_change (C:=Tryz.checked) own started (by kernel_rfl) Tryz.func8
  (ChangeSpec.witness6 (enc:=enc) (C:=Tryz.checked) false ⟨#[],#[],[]⟩ 8 (by kernel_rfl) (by kernel_rfl) (by kernel_rfl) (by kernel_rfl)) ?_
 intro W base args ds gs before hval0 hW hcnd _
 have hval:∀ (j:Nat) t v,Tryz.f8.params[j]? =some t->args[j]? =some v->Value.okWide Tryz.prog W .any base t v:=hval0
 have hW':=hW
 obtain⟨p,q,hA0,hV,rfl,SR,hnd⟩:=hW
 have hA:DataW.TrodAll enc Tryz.prog W 0 (λ_=>true) true Tryz.f8.params.toList args.toList ds p:=hA0
 rw[Tryz.params8] at hA hval
 obtain⟨rfl,rfl,rfl⟩:=trodAll_none hA
 obtain⟨rfl,rfl⟩:=trodVars_none hV
 clear hA0 hval0
 refine Calls.mono (R:=λe w'=>e=.returned (.bool true)/\Below W.heap.size W w') ?_ λe W' ⟨he,bel⟩=> ?_
 ·exact CW W
 ·subst he
  simp only[List.append_nil] at hW'
  exact⟨_,rfl,_,_,_,[],[],[],hW',trodAll_mk1 (shut_bool Tryz.underlying4 _),rfl,rfl,bel.frame _,λh=>by cases h⟩
theorem inPl:(Rows.adjustKnownRow.inPlace == Tryz.pinned.checked.prog.inPlace 8)=true:=by kernel_rfl
theorem unFo:(Rows.adjustKnownRow.unfollowed == Tryz.pinned.checked.prog.unfollowed 8)=true:=by kernel_rfl
theorem reCu:(Rows.adjustKnownRow.recurses == Tryz.pinned.checked.prog.recurses 8)=true:=by kernel_rfl
theorem naMe:(Rows.adjustKnownRow.named == Tryz.pinned.checked.prog.varsNamed 8)=true:=by kernel_rfl
theorem closed:joinedFacts Tryz.pinned.checked.prog 8 Tryz.f8 Rows.adjustKnownSpec Rows.adjustKnownRow=true:=by
 simp only[joinedFacts,inPl,unFo,reCu,naMe,Bool.and_true]
 kernel_rfl
theorem over:Rows.adjustKnownRow.holds Tryz.pinned (OpenSpec.ofChange Rows.adjustKnownSpec):=
 OpenClaim.holds_of_wide 8 Tryz.f8 rfl rfl rfl rfl rfl rfl rfl ⟨rfl,rfl,rfl,rfl,rfl⟩ rfl rfl rfl rfl rfl (by kernel_rfl) Tryz.func8 closed
  (of_decide_eq_true (by kernel_rfl)) (by unfold Func.isWrapper;first|(rw[if_pos (by decide+kernel)];kernel_rfl)|(rw[if_neg (by decide+kernel)];exact⟨rfl,rfl⟩))
  (λos started H enc _=>lifted os started H enc)
theorem proved:Rows.AdjustKnownSaid:=over
#print axioms proved
end Go.Proofs.YtlifeokjcgngjaaGreat.adjustKnown
