/-Gb of the proof,laid behind one another. -/
import Derived.Lib.Hide
import Derived.WalkKit
import Derived.WalkSpells
import Derived.WalkLawsBesides
import Derived.Outline
import Derived.Test.YtabalinjfgcfeaaGreatRows
import Derived.Deep.QuietTactic
import Derived.BigQuiet
import Derived.Lib.SliceRun
import Derived.Lib.AppendZeros
import Derived.RegionCalls
import Derived.Deep.RegionWith
import Derived.Lib.BitFns
import Derived.WalkMore
import Derived.RangeFuncBox
import Derived.Orders
import Derived.Deep.MidRow
import Derived.Laws.MakeOwn
import Derived.RegionTactic
import Derived.Laws.Slices
import Derived.Deep.LoopGhost
import Derived.Scope
import Derived.Deep.AppendSrc
import Derived.Laws.AppendOwn
import Derived.MapKept
import Derived.Deep.RegionHeld3
import Derived.Deep.RegionLaw
import Derived.Deep.DeepCutAuto
import Derived.BigRegion
import Derived.OpenShut
import Derived.WideShapes
import Derived.ChangeArms
import Derived.ChangeSlices
import Derived.RangeFuncNested
import Derived.RangeFuncLeaves
import Derived.OrdersIn
import Derived.TacticsIn
set_option linter.all false
set_option maxHeartbeats 64000000
namespace Go.Proofs.YtabalinjfgcfeaaGreat
def aa:=@rfl
def af:=@Go.Lib.hid
def ba:=@List.getElem?_eq_getElem
def aJ:=@List.mem_singleton
def aA:=@decide_eq_false
def aE:=@decide_eq_true
def cQ:=@List.getElem?_eq_some_iff
def ag:=@trivial
def bB:=@List.length_append
def au:=@congrArg
def bu:=@List.length_map
def aQ:=@Int.ofNat_lt
def bC:=@List.map_append
def cX:=@List.mem_of_getElem?
def bR:=@List.all_eq_true
def bj:=@Nat.le_trans
def dP:=@List.take_of_length_le
def cM:=@List.length_take
def dC:=@Int.toNat_natCast
def gl:=@Array.getD_eq_getD_getElem?
def cV:=@Go.IntWalk.i64_in
def bL:=@Nat.le_refl
def gm:=@List.getElem?_append_left
def js:=@List.eq_nil_of_length_eq_zero
def dW:=@List.mem_cons
def du:=@Nat.mul_add
def fu:=@List.append_assoc
def jT:=@List.getElem?_append_right
def fh:=@List.length_cons
def iY:=@List.mem_append_right
def gf:=@Bool.and_eq_true
def gg:=@List.mem_append
def iZ:=@beq_eq_false_iff_ne
def mG:=@List.drop_eq_getElem_cons
def mH:=@Array.getElem?_eq_getElem
def ly:=@List.drop_of_length_le
def gA:=@List.append_nil
def ig:=@Nat.min_eq_left
def kS:=@Nat.mul_le_mul_left
def fv:=@List.mem_map
def gB:=@Nat.mul_assoc
def ou:=@Option.map_eq_some_iff
def ja:=@List.all_append
def rJ:=@List.getD_eq_getElem?_getD
def nI:=@List.mem_of_mem_take
def fG:=@Nat.add_mul
def fH:=@Nat.zero_le
def ow:=@List.mem_of_mem_drop
def vh:=@Array.getElem?_eq_some_iff
def pK:=@Nat.mul_le_mul_right
def qB:=@List.take_append_drop
def qC:=@Nat.eq_of_beq_eq_true
def qD:=@List.mem_iff_getElem?
def gO:=@Go.Proofs.Tryz.func75
def ox:=@Nat.lt_of_lt_of_le
def oy:=@List.length_modify
def qE:=@List.mem_cons_of_mem
def iL:=@Nat.pow_succ
def iM:=@Nat.le_of_eq
def nJ:=@List.getElem?_map
def jb:=@Nat.mul_comm
def ma:=@List.nil_append
def gC:=@Nat.mod_lt
def oA:=@List.flatten_cons
def jt:=@Nat.zero_add
def ju:=@Go.Addr.add_mid
def zY:=@Array.getElem?_setIfInBounds
def jc:=@Go.Proofs.Tryz.func28
def lz:=@List.all_cons
def yv:=@List.mem_or_eq_of_mem_set
def vi:=@List.getElem?_eq_none
def qF:=@Go.World.ownsRow_nil
def pL:=@List.cons_append
def rK:=@Nat.eq_zero_or_pos
def CS:=@List.eq_nil_iff_forall_not_mem
def td:=@Int.toNat_of_nonneg
def vm:=@Nat.pow_le_pow_right
def iP:=@Go.RowKit.Below.refl
def jL:=@Go.Proofs.Tryz.func85
def rL:=@Go.Proofs.Tryz.underlying22
def wm:=@List.length_singleton
def tf:=@List.getElem?_drop
def pM:=@List.length_set
def jU:=@Go.Proofs.Tryz.func12
def kW:=@Go.Proofs.Tryz.func11
def rM:=@List.length_drop
def rN:=@Go.IntKind.wrap_i64
def vo:=@List.mem_cons_self
def rO:=@Int.natCast_mul
def rP:=@List.mem_filter
def qG:=@List.mem_range
def wq:=@List.getElem?_take
def wu:=@Go.RowKit.Below.heap_setCell
def zZ:=@List.set_append_right
def mI:=@Go.Proofs.Tryz.func89
def mJ:=@Go.Proofs.Tryz.func13
def mK:=@Rat.le_refl
def yw:=@List.map_congr_left
def vu:=@Array.toList_inj
def vw:=@Array.toList_map
def Gc:=@Int.tdiv_eq_ediv_of_nonneg
def Aa:=@List.mem_append_left
def Ab:=@Go.World.cell?_of_block
def nK:=@Go.Proofs.Tryz.func44
def nL:=@Go.Proofs.Tryz.func72
def pO:=@Nat.add_zero
def yz:=@decide_eq_true_iff
def rQ:=@List.map_cons
def oB:=@Nat.pow_add
def oC:=@Go.Proofs.Tryz.func54
def CT:=@List.getElem?_toArray
def vx:=@Nat.mul_le_mul
def pP:=@Go.Proofs.Tryz.func51
def pQ:=@Go.Proofs.Tryz.func31
def pR:=@Go.Proofs.Tryz.func32
def nM:=@Go.Proofs.Tryz.func9
def rR:=@Nat.sub_self
def rS:=@Nat.mul_zero
def rT:=@Nat.ne_of_lt
def rU:=@Nat.ne_of_gt
def Gd:=@Rat.intCast_le_intCast
def qH:=@Go.Proofs.Tryz.func40
def tj:=@Go.Proofs.Tryz.ntmps10
def CU:=@Int.natAbs_natCast
def Ac:=@Nat.mod_eq_of_lt
def JE:=@Go.World.block_lt_of_cell?
def JF:=@Nat.add_sub_cancel_left
def JG:=@List.filter_cons_of_neg
def rV:=@Go.Proofs.Tryz.func10
def JH:=@List.length_eq_zero_iff
def vA:=@Nat.lt_or_ge
def yA:=@List.take_zero
def Oh:=@Int.tmod_eq_emod_of_nonneg
def CV:=@of_decide_eq_true
def Ge:=@Array.length_toList
def Ad:=@Nat.mod_add_div
def Ae:=@Option.some.inj
def tk:=@Go.Proofs.Tryz.func16
def JI:=@Nat.le_div_iff_mul_le
def CW:=@Nat.div_eq_of_lt
def Gf:=@List.append_of_mem
def Gg:=@List.filter_append
def yB:=@Nat.add_assoc
def vB:=@Nat.pow_pos
def vC:=@Go.RowKit.Below.block
def JJ:=@List.pairwise_append
def Oi:=@List.filter_cons_of_pos
def CX:=@Rat.intCast_mul
def JK:=@Option.some_ne_none
def yC:=@List.map_map
def wv:=@Go.Proofs.Tryz.func96
def wx:=@Go.Proofs.Tryz.func60
def JL:=@Nat.xor_lt_two_pow
def JM:=@List.pairwise_cons
def JN:=@Go.Proofs.Tryz.underlying156
def Oj:=@Nat.div_lt_iff_lt_mul
def YE:=@List.set_eq_take_append_cons_drop
def TZ:=@List.getLast?_eq_getElem?
def Ua:=@List.mem_of_find?_eq_some
def yD:=@Nat.mul_one
def Af:=@Nat.add_comm
def JO:=@Nat.mul_left_comm
def yG:=@Go.Proofs.Tryz.func92
def yH:=@Go.Proofs.Tryz.func59
def yI:=@Go.Proofs.Tryz.func27
def yJ:=@Go.Proofs.Tryz.func76
def JP:=@List.nodup_append
def Ub:=@List.filterMap_cons_some
def Ol:=@Nat.div_mul_le_self
def Uc:=@Nat.le_mul_of_pos_right
def YF:=@Rat.mul_le_mul_of_nonneg_right
def Gh:=@Bool.and_false
def YG:=@List.drop_append_of_le_length
def YH:=@List.take_append_of_le_length
def Ag:=@Go.Proofs.Tryz.func68
def Ah:=@Go.Proofs.Tryz.func71
def Ai:=@Go.Proofs.Tryz.func33
def Aj:=@Go.Proofs.Tryz.func26
def yK:=@Go.Calls.mono
def CY:=@Go.Proofs.Tryz.func125
def Om:=@List.find?_eq_none
def JQ:=@Nat.div_add_mod
def JR:=@Bool.or_eq_true
def JS:=@List.nodup_cons
def JT:=@Nat.not_lt_zero
def Gi:=@List.map_take
def Ud:=@List.length_replicate
def Ue:=@List.filterMap_append
def Uf:=@List.singleton_append
def On:=@Nat.lt_trichotomy
def YI:=@Nat.mul_lt_mul_of_pos_right
def CZ:=@Nat.mul_pos
def YJ:=@Nat.add_mul_mod_self_right
def YK:=@Nat.lt_of_mul_lt_mul_right
def Ug:=@List.getElem?_set_ne
def Da:=@Nat.one_mul
def Db:=@Go.Proofs.Tryz.func42
def Ak:=@Rat.not_lt
def Al:=@Go.Proofs.Tryz.func8
def Oo:=@List.take_length
def Gj:=@Go.Proofs.Tryz.func101
def Gk:=@Rat.add_zero
def YL:=@Classical.byContradiction
def YM:=@Int.sign_eq_zero_iff_zero
def Uh:=@Int.gcd_eq_zero_iff
def Ui:=@List.flatten_append
def YN:=@List.elem_eq_true_of_mem
def Oq:=@Nat.div_le_self
def Uj:=@Nat.and_lt_two_pow
def Uk:=@Int.lt_or_lt_of_ne
def Gl:=@Go.Proofs.Tryz.func74
def Gm:=@Go.Proofs.Tryz.func73
def JU:=@Nat.zero_mul
def Ul:=@List.ext_getElem?
def Un:=@List.getElem?_inj
def Uo:=@Go.IntKind.wrap_u32'
def Up:=@List.foldl_append
def Ur:=@List.getElem?_set
def JV:=@Nat.pow_mul
def JW:=@Go.Proofs.Tryz.func41
def JX:=@Go.Proofs.Tryz.func63
def JY:=@Go.Proofs.Tryz.func45
def JZ:=@Go.Proofs.Tryz.func50
def Ka:=@Go.Proofs.Tryz.func20
section
def val (B:Nat):List Nat->Nat
 | []=>0
 | x::xs=>x+B*val B xs
def gN (B:Nat) (xs:List Nat):Prop:=∀ x∈xs,x<B
variable {P:Prop}
theorem ab (h:P:=by omega):P:=h
def mL (B:Nat) (n:Nat):List Nat:=
 if _h:n=0\/B<2 then [] else n%B::mL B (n/B)
termination_by n
decreasing_by
 have:n≠0/\2<=B:=ab;exact Nat.div_lt_self ab ab
theorem val_nil (B:Nat):val B []=0:=rfl
theorem lB (B x:Nat) (xs:List Nat):val B (x::xs)=x+B*val B xs:=rfl
theorem gH (B:Nat):mL B 0=[]:=by rw[mL];simp
variable {B:Nat}
theorem mM {n:Nat} (hB:2<=B) (hn:n≠0):mL B n=n%B::mL B (n/B):=by
 rw[mL,dif_neg ab]
theorem gN.nil (B:Nat):gN B []:=λ_ h=>by cases h
theorem gN.cons {B x:Nat} {xs:List Nat} (hx:x<B) (h:gN B xs):gN B (x::xs):=by
 intro y hy;cases hy with
 | head=>exact hx
 | tail _ h'=>exact h y h'
variable {xs:List Nat} {x:Nat}
theorem gN.head (h:gN B (x::xs)):x<B:=h x (vo ..)
theorem gN.tail (h:gN B (x::xs)):gN B xs:=λy hy=>h y (qE _ hy)
theorem gN.take (h:gN B xs) (k:Nat):gN B (xs.take k):=λy hy=>h y (nI hy)
theorem gN.drop (h:gN B xs) (k:Nat):gN B (xs.drop k):=λy hy=>h y (ow hy)
variable {ys:List Nat}
theorem gN.append (h:gN B xs) (h':gN B ys):gN B (xs++ys):=by
 intro y hy;rcases gg.1 hy with hy|hy
 ·exact h y hy
 ·exact h' y hy
theorem gN.at (h:gN B xs) {k:Nat} (hk:xs[k]? =some x):x<B:=h x (cX hk)
theorem gN.replicate (hB:0<B) (k:Nat):gN B (List.replicate k 0):=λy hy=>by
 rw[List.mem_replicate] at hy;omega
theorem wy (hB:2<=B):∀ n,gN B (mL B n):=by
 intro n
 induction n using Nat.strongRecOn with
 | _ n ih=>
   by_cases hn:n=0
   ·subst hn;rw[gH];exact gN.nil B
   ·rw[mM hB hn];exact gN.cons (gC _ ab) (ih _ (Nat.div_lt_self ab ab))
theorem qI (hB:2<=B):∀ n,val B (mL B n)=n:=by
 intro n
 induction n using Nat.strongRecOn with
 | _ n ih=>
   by_cases hn:n=0
   ·subst hn;rw[gH];rfl
   ·rw[mM hB hn,lB,ih _ (Nat.div_lt_self ab ab)];exact Ad n B
theorem wA:∀ {xs:List Nat},gN B xs->val B xs<B^xs.length:=by
 intro xs
 induction xs with
 | nil=>intro _;simp[val]
 | cons x xs ih=>
   intro h;have h1:=ih h.tail;have hx:=h.head;rw[lB,fh,iL,jb (B^xs.length) B]
   calc x+B*val B xs<B+B*val B xs:=by omega
    _=B*(val B xs+1):=by rw[du];omega
    _<=B*B^xs.length:=kS _ h1
theorem nQ (B:Nat):∀ (xs ys:List Nat),val B (xs++ys)=val B xs+B^xs.length*val B ys:=by
 intro xs ys
 induction xs with
 | nil=>simp[val]
 | cons x xs ih=>
   rw[pL,lB,ih,lB,fh,iL,du,yB]
   congr 2
   rw[<-gB,jb B (B^xs.length)]
theorem tn (B:Nat) (xs:List Nat) (x:Nat):val B (xs++[x])=val B xs+B^xs.length*x:=by
 rw[nQ];simp[val]
theorem lR (B k:Nat):val B (List.replicate k 0)=0:=by
 induction k with
 | zero=>rfl
 | succ k ih=>rw[List.replicate_succ,lB,ih];simp
theorem bN (h:P:=by simp):P:=h
theorem Gn (hB:2<=B):∀ {xs:List Nat},gN B xs->(∀ x,xs.getLast? =some x->x≠0)->mL B (val B xs)=xs:=by
 intro xs
 induction xs with
 | nil=>intro _ _;exact gH B
 | cons x xs ih=>
   intro hd hl;have hx:=hd.head
   have hne:val B (x::xs)≠0:=by
    intro h0;rw[lB] at h0;have my:x=0:=ab;cases xs with
    | nil=>exact hl x bN my
    | cons y ys=>
      have hv:val B (y::ys)=0:=by
       have:B*val B (y::ys)=0:=ab;rcases Nat.mul_eq_zero.1 this with h|h
       ·omega
       ·exact h
      have:=ih hd.tail (λz hz=>hl z (by rw[List.getLast?_cons_cons];exact hz));rw[hv,gH] at this;cases this
   rw[mM hB hne,lB];have h1:(x+B*val B xs)%B=x:=by rw[Nat.add_mul_mod_self_left];exact Ac hx
   have h2:(x+B*val B xs)/B=val B xs:=by
    rw[Nat.add_mul_div_left _ _ ab,CW hx];omega
   rw[h1,h2]
   congr 1
   cases xs with
   | nil=>exact gH B
   | cons y ys=>exact ih hd.tail (λz hz=>hl z (by rw[List.getLast?_cons_cons];exact hz))
theorem Wd (hB:2<=B):∀ n x,(mL B n).getLast? =some x->x≠0:=by
 intro n
 induction n using Nat.strongRecOn with
 | _ n ih=>
   intro x hx;by_cases hn:n=0
   ·subst hn;rw[gH] at hx;cases hx
   ·rw[mM hB hn] at hx;by_cases h2:n/B=0
    ·rw[h2,gH] at hx;simp at hx
     have:n<B:=by
      rcases vA n B with h|h
      ·exact h
      ·have:=Nat.div_pos h (by omega:0<B);omega
     rw[Ac this] at hx;omega
    ·rw[mM hB h2,List.getLast?_cons_cons,<-mM hB h2] at hx;exact ih _ (Nat.div_lt_self ab ab) x hx
variable {m:Nat}
theorem Gp (hB:2<=B) {n:Nat} (h:mL B m=mL B n):m=n:=by
 have:=au (val B) h
 rwa [qI hB,qI hB] at this
theorem iQ (hB:2<=B):∀ (k n:Nat),n<B^k->(mL B n).length<=k:=by
 intro k
 induction k with
 | zero=>intro n h;have:n=0:=by simpa using h
         subst this;rw[gH];simp
 | succ k ih=>
   intro n h;by_cases hn:n=0
   ·subst hn;rw[gH];simp
   ·rw[mM hB hn,fh]
    have:n/B<B^k:=by
     rw[Oj ab]
     rwa [iL] at h
    have:=ih _ this;omega
theorem Gq (hB:2<=B) {k n:Nat} (h:B^k<=n):k<(mL B n).length:=by
 rcases vA k (mL B n).length with h' |h'
 ·exact h'
 ·have h1:=wA (wy hB n);rw[qI hB] at h1;have:=vm (show 0<B by omega) h';omega
theorem fM (hB:2<=B) {n:Nat} (h:m<=n):(mL B m).length<=(mL B n).length:=by
 apply iQ hB;have h1:=wA (wy hB n);rw[qI hB] at h1;omega
theorem Lr (hB:2<=B) (h:gN B xs):(mL B (val B xs)).length<=xs.length:=
 iQ hB _ _ (wA h)
theorem Ot (hB:2<=B) (n:Nat):n<B^(mL B n).length:=by
 have h1:=wA (wy hB n)
 rwa [qI hB] at h1
theorem Dc (hB:2<=B) {n:Nat} (hn:n≠0):B^((mL B n).length-1)<=n:=by
 rcases vA n (B^((mL B n).length-1)) with h|h
 ·have h1:=iQ hB _ _ h;have h2:0<(mL B n).length:=by rw[mM hB hn];simp
  omega
 ·exact h
theorem Ls (hB:2<=B) {n:Nat}:mL B n=[]↔n=0:=by
 constructor
 ·intro h;exact Gp hB (h.trans (gH B).symm)
 ·rintro rfl;exact gH B
theorem vD (hB:2<=B) {n:Nat} (hn:n≠0):0<(mL B n).length:=by
 rw[mM hB hn];simp
theorem od (B:Nat) (xs:List Nat) (k:Nat) (hk:k<=xs.length):val B xs=val B (xs.take k)+B^k*val B (xs.drop k):=by
 conv=>lhs;rw[<-qB k xs]
 rw[nQ,cM,ig hk]
theorem dk {α:Type} {xs:List α} {k:Nat} {x:α} (h:xs[k]? =some x):xs.take (k+1)=xs.take k++[x]:=by
 rw[List.take_add_one,h];rfl
theorem rW {k:Nat} (hk:xs[k]? =some 0):val B (xs.take (k+1))=val B (xs.take k):=by
 rw[dk hk,tn];simp
theorem ql (hB:2<=B) (hd:gN B xs) (hm:m<=xs.length) (hv:val B (xs.take m)=val B xs) (hl:m=0\/∃ x,xs[m-1]? =some x/\x≠0):
  mL B (val B xs)=xs.take m:=by
 rw[<-hv];apply Gn hB (hd.take m);intro x hx;rcases hl with rfl|⟨y,hy,hy0⟩
 ·simp at hx
 ·rw[TZ,cM,ig hm,wq] at hx
  split at hx
  ·rw[hy] at hx;cases hx;exact hy0
  ·cases hx
theorem qJ (hx:gN B xs) {k a b:Nat} (ha:xs[k]? =some a) (hb:ys[k]? =some b) (Dd:a<b)
  (hh:xs.drop (k+1)=ys.drop (k+1)):val B xs<val B ys:=by
 have qK:k<xs.length:=(cQ.1 ha).1;have vN:k<ys.length:=(cQ.1 hb).1;rw[od B xs (k+1) ab,od B ys (k+1) ab,hh,dk ha,dk hb,tn,tn];have h1:=wA (hx.take k);rw[cM,ig ab] at h1 ⊢;rw[cM,ig ab]
 have h2:B^k*a+B^k<=B^k*b:=by
  calc B^k*a+B^k=B^k*(a+1):=by rw[du];omega
   _<=B^k*b:=kS _ Dd
 omega
def ay (xs:List Nat):Nat:=val 4294967296 xs
def limbs (n:Nat):List Nat:=mL 4294967296 n
def ez (xs:List Nat):Prop:=gN 4294967296 xs
theorem ez.nil:ez []:=gN.nil _
theorem ez.cons {x:Nat} {xs:List Nat} (hx:x<4294967296) (h:ez xs):ez (x::xs):=gN.cons hx h
theorem ez.take (h:ez xs) (k:Nat):ez (xs.take k):=gN.take h k
theorem ez.drop (h:ez xs) (k:Nat):ez (xs.drop k):=gN.drop h k
theorem ez.append (h:ez xs) (h':ez ys):ez (xs++ys):=gN.append h h'
theorem ez.at (h:ez xs) {k:Nat} (hk:xs[k]? =some x):x<4294967296:=gN.at h hk
theorem aK (n:Nat):ez (limbs n):=wy ab n
theorem aB (n:Nat):ay (limbs n)=n:=qI ab n
theorem dy:limbs 0=[]:=gH _
theorem ij:ay []=0:=rfl
theorem jD (x:Nat) (xs:List Nat):ay (x::xs)=x+4294967296*ay xs:=rfl
theorem gI (xs:List Nat) (x:Nat):ay (xs++[x])=ay xs+4294967296^xs.length*x:=tn _ xs x
theorem ik (xs ys:List Nat):ay (xs++ys)=ay xs+4294967296^xs.length*ay ys:=nQ _ xs ys
theorem oe (h:ez xs):ay xs<4294967296^xs.length:=wA h
theorem mO (h:ez xs):(limbs (ay xs)).length<=xs.length:=Lr ab h
theorem pC (k n:Nat) (h:n<4294967296^k):(limbs n).length<=k:=iQ ab k n h
theorem Ed {k n:Nat} (h:4294967296^k<=n):k<(limbs n).length:=Gq ab h
theorem uz (n:Nat):n<4294967296^(limbs n).length:=Ot ab n
theorem Lt {n:Nat} (hn:n≠0):4294967296^((limbs n).length-1)<=n:=Dc ab hn
theorem eJ {n:Nat} (h:m<=n):(limbs m).length<=(limbs n).length:=fM ab h
theorem We {n:Nat} (h:limbs m=limbs n):m=n:=Gp ab h
theorem sK {n:Nat}:limbs n=[]↔n=0:=Ls ab
theorem fN {n:Nat} (hn:n≠0):0<(limbs n).length:=vD ab hn
theorem wB {n:Nat} (h:(limbs n).length=0):n=0:=sK.1 (js h)
theorem za (h:ez xs) (hl:∀ x,xs.getLast? =some x->x≠0):limbs (ay xs)=xs:=Gn ab h hl
theorem zb (n x:Nat) (h:(limbs n).getLast? =some x):x≠0:=Wd ab n x h
def kD (a b:Nat):Int:=if a<b then-1 else if b<a then 1 else 0
theorem rX {a b:Nat} (h:a<b):kD a b= -1:=by simp[kD,h]
theorem rY {a b:Nat} (h:b<a):kD a b=1:=by simp[kD,h];omega
theorem Am (a:Nat):kD a a=0:=by simp[kD]
theorem oD {a b:Nat}:(kD a b<0)↔a<b:=by unfold kD;split <;> (try split) <;> omega
theorem cj (xs:List Nat) (k:Nat):ay (xs.take (k+1))=ay (xs.take k)+4294967296^k*xs.getD k 0:=by
 by_cases h:k<xs.length
 ·rw[dk (ba h),gI,cM,ig ab];simp[List.getD,h]
 ·rw[dP ab,dP ab];simp[List.getD,List.getElem?_eq_none (by omega:xs.length<=k)]
theorem cZ {k:Nat} (h:xs.length<=k):ay (xs.take k)=ay xs:=by rw[dP h]
theorem Ou (p s x y c X Y D:Nat) (h:D+p*c=X+Y) (hs:s=x+y+c):
  D+p*(s%4294967296)+p*4294967296*(s/4294967296)=(X+p*x)+(Y+p*y):=by
 subst hs
 have h2:p*((x+y+c)%4294967296)+p*4294967296*((x+y+c)/4294967296)=p*(x+y+c):=by
  rw[gB,<-du,Ad]
 rw[du,du] at h2;omega
theorem YO (p x m c X D:Nat) (h:D+p*c=X*m):
  D+p*((x*m+c)%4294967296)+p*4294967296*((x*m+c)/4294967296)=(X+p*x)*m:=by
 have h2:p*((x*m+c)%4294967296)+p*4294967296*((x*m+c)/4294967296)=p*(x*m+c):=by
  rw[gB,<-du,Ad]
 rw[du] at h2;rw[fG,gB p x m];omega
def mz (n:Nat):Nat:=if n=0 then 0 else Nat.log2 n+1
theorem Wf:mz 0=0:=rfl
theorem Fo (n:Nat):n<2^mz n:=by
 unfold mz
 split
 ·omega
 ·exact Nat.lt_log2_self
theorem Fp {n:Nat} (h:n≠0):2^(mz n-1)<=n:=by
 unfold mz;rw[if_neg h];exact Nat.log2_self_le h
theorem Ao {n:Nat} (h:n≠0):0<mz n:=by unfold mz;rw[if_neg h];omega
theorem Ut {n b:Nat} (h:n<2^b) (h':b=0\/2^(b-1)<=n):mz n=b:=by
 by_cases h0:n=0
 ·subst h0;rcases h' with rfl|h'
  ·rfl
  ·have:=vB (n:=b-1) (show 0<2 by omega);omega
 ·have h1:=Fo n;have h2:=Fp h0;have h3:=Ao h0;rcases On (mz n) b with hl|he|hg
  ·rcases h' with rfl|h'
   ·omega
   ·have:=vm (show 0<2 by omega) (show mz n<=b-1 by omega);omega
  ·exact he
  ·have:=vm (show 0<2 by omega) (show b<=mz n-1 by omega);omega
theorem yL {n k:Nat} (h:n<2^k):mz n<=k:=by
 by_cases h0:n=0
 ·subst h0;rw[Wf];omega
 ·have h1:=Fp h0;rcases vA k (mz n) with hl|hg
  ·have:=vm (show 0<2 by omega) (show k<=mz n-1 by omega);omega
  ·exact hg
theorem Ov (k:Nat):4294967296^k=2^(32*k):=by rw[JV]
theorem Ow {n t:Nat} (hl:(limbs n)[(limbs n).length-1]? =some t):mz n=32*((limbs n).length-1)+mz t/\t≠0:=by
 have hlast:(limbs n).getLast? =some t:=by rw[TZ];exact hl
 have ht:=zb n t hlast
 have tp:0<(limbs n).length:=by
  rcases rK (limbs n).length with h|h
  ·rw[js h] at hl;cases hl
  ·exact h
 refine⟨?_,ht⟩
 have e:limbs n=(limbs n).take ((limbs n).length-1)++[t]:=by
  have:=dk hl;rw[show (limbs n).length-1+1=(limbs n).length by omega,Oo] at this;exact this
 have hv:n=ay ((limbs n).take ((limbs n).length-1))+4294967296^((limbs n).length-1)*t:=by
  have h1:=au ay e;rw[aB,gI,cM,ig ab] at h1;exact h1
 have Lu:=oe ((aK n).take ((limbs n).length-1));rw[cM,ig ab] at Lu;generalize ay ((limbs n).take ((limbs n).length-1))=lo at hv Lu;generalize (limbs n).length-1=m at hv Lu;have h1:=Fo t;have h2:=Fp ht;have h3:=Ao ht;rw[Ov] at hv Lu;apply Ut
 ·rw[hv,oB]
  calc lo+2^(32*m)*t<2^(32*m)+2^(32*m)*t:=by omega
   _=2^(32*m)*(t+1):=by rw[du];omega
   _<=2^(32*m)*2^mz t:=kS _ h1
 ·right
  rw[hv,show 32*m+mz t-1=32*m+(mz t-1) by omega,oB];have:=kS (2^(32*m)) h2;omega
theorem Ox (k:Nat) (hx:x≠0):List.replicate k 0++limbs x=limbs (x*4294967296^k):=by
 have h:ay (List.replicate k 0++limbs x)=x*4294967296^k:=by
  rw[ik,aB,show ay (List.replicate k 0)=0 from lR _ k,Ud,jb];omega
 rw[<-h]
 symm
 apply za
 ·exact ez.append (gN.replicate ab k) (aK x)
 ·intro y hy;rw[List.getLast?_append] at hy;have hne:limbs x≠[]:=λh=>hx (sK.1 h);cases hl:(limbs x).getLast? with
  | none=>rw[List.getLast?_eq_none_iff] at hl;exact absurd hl hne
  | some z=>rw[hl] at hy;simp at hy;subst hy;exact zb x z hl
theorem Ee (x k:Nat) (hk:k<=(limbs x).length):ay ((limbs x).drop k)=x/4294967296^k:=by
 have h:=od 4294967296 (limbs x) k hk;have h1:val 4294967296 (limbs x)=x:=aB x;have h2:=oe ((aK x).take k);rw[cM,ig hk] at h2;rw[h1] at h;show val 4294967296 _=_;have h3:val 4294967296 ((limbs x).take k)<4294967296^k:=h2;generalize val 4294967296 ((limbs x).take k)=lo at h h3;generalize val 4294967296 ((limbs x).drop k)=hi at h ⊢;rw[h,Nat.add_mul_div_left _ _ (vB ab),CW h3];omega
def kY (x:Nat) (n:Int):Nat:=if 0<=n then x*2^n.toNat else x/2^(-n).toNat
theorem Oy (hB:2<=B) {ds:List Nat} (hd:gN B ds) (h:ds.length<=(mL B (val B ds)).length):mL B (val B ds)=ds:=by
 apply Gn hB hd;intro x hx h0;subst h0;have hne:ds≠[]:=by rintro rfl;cases hx
 have tp:0<ds.length:=List.length_pos_iff.2 hne;have hk:ds[ds.length-1]? =some 0:=by rw[<-TZ];exact hx
 have h1:=rW (B:=B) hk;rw[show ds.length-1+1=ds.length by omega,Oo] at h1;have h2:=wA (hd.take (ds.length-1));rw[<-h1,cM,ig ab] at h2;have h3:=iQ hB _ _ h2;omega
theorem dK (B:Nat) (xs:List Nat) (k:Nat):val B (xs.take (k+1))=val B (xs.take k)+B^k*xs.getD k 0:=by
 by_cases h:k<xs.length
 ·rw[dk (ba h),tn,cM,ig ab];simp[List.getD,h]
 ·rw[dP ab,dP ab];simp[List.getD,List.getElem?_eq_none (by omega:xs.length<=k)]
theorem jg {k:Nat} (h:xs.length<=k):val B (xs.take k)=val B xs:=by rw[dP h]
theorem Wh (B p s x y c X Y D:Nat) (h:D+p*c=X+Y) (hs:s=x+y+c):D+p*(s%B)+p*B*(s/B)=(X+p*x)+(Y+p*y):=by
 subst hs
 have h2:p*((x+y+c)%B)+p*B*((x+y+c)/B)=p*(x+y+c):=by
  rw[gB,<-du,Ad]
 rw[du,du] at h2;omega
theorem yM {k:Nat} (h:xs[k]? =some x):val B (xs.drop k)=x+B*val B (xs.drop (k+1)):=by
 obtain⟨hl,e⟩:=cQ.1 h;rw[mG hl,e,lB]
theorem Wi (B p x y r d r' X Y D:Nat) (h:D+Y=X+p*r) (hs:x+B*r'=d+y+r):(D+p*d)+(Y+p*y)=(X+p*x)+p*B*r':=by
 have h2:p*(x+B*r')=p*(d+y+r):=by rw[hs]
 rw[du,du,du,<-gB] at h2;omega
end
section
open Go.RowKit
def Rd (w:World) (sz:Nat) (v:Value) (n:Nat) (cs:List Value):Prop:=
 ∃ p c,v=.slice p n c/\n<=c/\c<=maxLen/\cs.length=n*sz/\(0<n*sz->∃ b off,p=some ⟨b,off,none⟩/\∀ j u,cs[j]? =some u->w.cell? ⟨b,off+j,none⟩=some u)
theorem Rd.nil (w:World) (sz:Nat):Rd w sz (.slice none 0 0) 0 []:=⟨none,0,rfl,bL _,by simp[maxLen],bN,λh=>ab⟩
variable {cs:List Value} {w w':World}
theorem Rd.keep {sz n:Nat} {v:Value} (h:Rd w sz v n cs) (hk:∀ a u,w.cell? a=some u->w'.cell? a=some u):Rd w' sz v n cs:=by
 obtain⟨p,c,rfl,h1,h2,h3,h4⟩:=h;refine⟨p,c,aa,h1,h2,h3,λhn=> ?_⟩;obtain⟨b,off,hp,hc⟩:=h4 hn;exact⟨b,off,hp,λj u hj=>hk _ _ (hc j u hj)⟩
variable {u:Value}
theorem mP {a:Addr} (h:w.cell? a=some u):a.block<w.heap.size:=JE w a h
theorem Below.keeps (h:Below w.heap.size w w'):∀ a u,w.cell? a=some u->w'.cell? a=some u:=
 λ_ _ hu=>(h.cell (mP hu)).trans hu
theorem Rd.below {sz n:Nat} {v:Value} (h:Rd w sz v n cs) (hb:Below w.heap.size w w'):Rd w' sz v n cs:=h.keep (Below.keeps hb)
theorem Rd.alloc {sz n:Nat} {v:Value} (h:Rd w sz v n cs) (o:Obj):Rd (w.alloc o) sz v n cs:=
 h.below ((iP _ _).alloc (bL _) o)
theorem Rd.drew {sz n:Nat} {v:Value} (h:Rd w sz v n cs):Rd w.drew sz v n cs:=h
theorem Rd.drewN {sz n:Nat} {v:Value} (h:Rd w sz v n cs) (k:Nat):Rd (w.drewN k) sz v n cs:=h
variable {e:Nat}
theorem Rd.lit {cs:Array Value} {n:Nat} (hn:cs.size=n) (hm:n<=9223372036854775807):Rd (w.alloc (.cells cs e)) 1 (.slice (some ⟨w.heap.size,0,none⟩) n n) n cs.toList:=
 ⟨_,n,rfl,bL _,by unfold maxLen;omega,by simp[hn],λ_=>⟨w.heap.size,0,rfl,λj u hj=>by
   rw[jt,World.cell?_alloc_new];simpa using hj⟩⟩
variable {B:Nat}
theorem Rd.nT {sz n:Nat} {v:Value} (h:Rd w sz v n cs) (hB:B=w.heap.size) (hb:Below B w w'):Rd w' sz v n cs:=h.below (hB▸hb)
theorem Rd.own {sz n:Nat} {v:Value} (h:w.ownsRow B e sz v n cs):Rd w sz v n cs:=by
 rcases h.2 with ⟨rfl,rfl⟩|⟨g,cap,cur,rfl,_,hg,il,iC,_,YP⟩
 ·have hx:cs=[]:=js (by simpa using h.1);subst hx;exact Rd.nil w sz
 ·refine⟨_,cap,aa,il,iC,h.1,λ_=>⟨g,0,aa,λj u hj=> ?_⟩⟩;have:=h.cells (g:=g) aa j u hj
  rwa [show (⟨g,0,none⟩:Addr).add j=⟨g,0+j,none⟩ by unfold Addr.add;split <;> simp_all] at this
variable {B':Nat}
theorem Own.mono {sz n:Nat} {v:Value} (h:w.ownsRow B e sz v n cs) (hB:B'<=B):w.ownsRow B' e sz v n cs:=by
 refine⟨h.1,?_⟩;rcases h.2 with h2|⟨g,cap,cur,hv,hb,r⟩
 ·exact .inl h2
 ·exact .inr ⟨g,cap,cur,hv,ab,r⟩
theorem Own.below {sz n:Nat} {v:Value} (h:w.ownsRow B e sz v n cs) (hb:Below w.heap.size w w'):w'.ownsRow B e sz v n cs:=by
 refine⟨h.1,?_⟩;rcases h.2 with h2|⟨g,cap,cur,hv,hg,hh,r⟩
 ·exact .inl h2
 ·exact .inr ⟨g,cap,cur,hv,hg,(hb.block g (vh.1 hh).1).trans hh,r⟩
theorem Own.Fq {sz n:Nat} {v:Value} (h:w.ownsRow B e sz v n cs) (hn:0<n):∃ g c,v=.slice (some ⟨g,0,none⟩) n c/\B<=g/\g<w.heap.size:=by
 rcases h.2 with ⟨_,h0⟩|⟨g,cap,cur,rfl,hb,hg,_⟩
 ·omega
 ·exact⟨g,cap,aa,hb,(vh.1 hg).1⟩
theorem Own.drewN {sz n:Nat} {v:Value} (h:w.ownsRow B e sz v n cs) (k:Nat):(w.drewN k).ownsRow B e sz v n cs:=h
theorem Below.drewN {a:World} (h:Below B a w) (n:Nat):Below B a (w.drewN n):=⟨h.os,h.tape,h.output,h.size,h.block⟩
variable {c m:Nat} {p:Option Addr}
theorem Own.take {sz n:Nat} (h:w.ownsRow B e sz (.slice p n c) n cs) (hm:m<=n):w.ownsRow B e sz (.slice p m c) m (cs.take (m*sz)):=by
 have hle:m*sz<=n*sz:=pK _ hm;refine⟨by rw[cM,h.1];omega,?_⟩;rcases h.2 with ⟨hv,rfl⟩|⟨g,cap,cur,hv,hb,hg,il,iC,hcs,YP⟩
 ·left
  simp only[Value.slice.injEq] at hv;obtain⟨rfl,_,rfl⟩:=hv;exact⟨by rw[show m=0 by omega],ab⟩
 ·right
  simp only[Value.slice.injEq,true_and] at hv;obtain⟨rfl,rfl⟩:=hv;exact⟨g,c,cur,aa,hb,hg,ab,iC,hcs,by rw[<-YP,List.take_take,ig hle]⟩
theorem Rd.take {sz n:Nat} (h:Rd w sz (.slice p n c) n cs) (hm:m<=n):Rd w sz (.slice p m c) m (cs.take (m*sz)):=by
 obtain⟨p',c',hv,h1,h2,h3,h4⟩:=h;simp only[Value.slice.injEq,true_and] at hv;obtain⟨rfl,rfl⟩:=hv;have hle:m*sz<=n*sz:=pK _ hm;refine⟨p,c,aa,ab,h2,by rw[cM,h3];omega,λhn=> ?_⟩;obtain⟨b,off,hp,hc⟩:=h4 ab;exact⟨b,off,hp,λj u hj=>hc j u (by rw[wq] at hj;split at hj;exact hj;cases hj)⟩
def ints (k:IntKind) (xs:List Nat):List Value:=xs.map λ(x:Nat)=>Value.int k (x:Int)
@[simp] theorem De (k:IntKind) (xs:List Nat):(ints k xs).length=xs.length:=by simp[ints]
variable {xs:List Nat} {j x:Nat}
theorem Ap {k:IntKind} (h:xs[j]? =some x):(ints k xs)[j]? =some (.int k (x:Int)):=by simp[ints,h]
theorem xG (k:IntKind) (xs:List Nat) (m:Nat):(ints k xs).take m=ints k (xs.take m):=by simp[ints,List.map_take]
theorem Wj (k:IntKind) (xs:List Nat) (m:Nat):(ints k xs).drop m=ints k (xs.drop m):=by simp[ints,List.map_drop]
theorem me (k:IntKind) (xs ys:List Nat):ints k (xs++ys)=ints k xs++ints k ys:=by simp[ints]
theorem ints_set (k:IntKind) (xs:List Nat) (j x:Nat):(ints k xs).set j (.int k (x:Int))=ints k (xs.set j x):=by simp[ints,List.map_set]
theorem tq (k:IntKind) (xs:List Nat):∀ u∈ints k xs,u.oneCell'=true:=by
 intro u hu;obtain⟨_,_,rfl⟩:=fv.1 hu;rfl
theorem Rd.lit1 {k:IntKind} {a:Nat} {x:Int} (hx:x=(a:Int)):Rd (w.alloc (.cells #[.int k x] e)) 1 (.slice (some ⟨w.heap.size,0,none⟩) 1 1) 1 (ints k [a]):=by
 subst hx;exact Rd.lit aa ab
theorem Rd.lit2 {k:IntKind} {a b:Nat} {x y:Int} (hx:x=(a:Int)) (hy:y=(b:Int)):Rd (w.alloc (.cells #[.int k x,.int k y] e)) 1 (.slice (some ⟨w.heap.size,0,none⟩) 2 2) 2 (ints k [a,b]):=by
 subst hx;subst hy;exact Rd.lit aa ab
theorem Rd.cellAt {n:Nat} {k:Nat} {ki:IntKind} (h:Rd w 1 (.slice p n c) n (ints ki xs)) (hk:k<n):
  ∃ b off x,p=some ⟨b,off,none⟩/\b<w.heap.size/\xs[k]? =some x/\w.cell? ⟨b,off+k,none⟩=some (.int ki (x:Int)):=by
 obtain⟨p',c',hv,h1,h2,h3,h4⟩:=h;simp only[Value.slice.injEq,true_and] at hv;obtain⟨rfl,rfl⟩:=hv;obtain⟨b,off,hp,hc⟩:=h4 ab;rw[De] at h3;have hx:=ba (show k<xs.length by omega);have hcell:=hc k _ (Ap hx);exact⟨b,off,_,hp,mP hcell,hx,hcell⟩
theorem Rd.form {sz n:Nat} {v:Value} (h:Rd w sz v n cs):∃ p c,v=.slice p n c/\n<=c/\c<=maxLen/\cs.length=n*sz:=by
 obtain⟨p,c,hv,h1,h2,h3,_⟩:=h;exact⟨p,c,hv,h1,h2,h3⟩
theorem Own.form {sz n:Nat} {v:Value} (h:w.ownsRow B e sz v n cs):∃ p c,v=.slice p n c/\n<=c/\c<=maxLen/\cs.length=n*sz:=(Rd.own h).form
variable {P:Program}
theorem sL (w:World) (base t ty e:Nat) (i:TypeInfo) (z:Value) (size bytes:Nat) (ht:P.underlying t=some (.slice e)) (hi:P.info? e=some i) (hz:i.zero=some z)
  (Df:i.size=size) (RI:i.bytes=bytes) (Yj:z.cells.size=size) (hsz:0<size)
  (v:Value) (n:Nat) (xs:List Value) (aZ:w.ownsRow base e size v n xs) (x:Value) (m:Nat) (news:List Value) (hx:Rd w size x m news) (h1:∀ u∈news,u.oneCell'=true)
  (h63:n+m<=maxLen) (kZ:(n+m)*bytes<=140737488355328) (oG:base<=w.heap.size):
  ∃ v' w',(Builtin.append_ #[t,t] ty #[v,x]).run P w=.ok v' w'/\w'.ownsRow base e size v' (n+m) (xs++news)/\w.grownBy w' v.ownBlock:=by
 obtain⟨p,c,rfl,hmc,iC,hl,hp⟩:=hx;by_cases hm:m=0
 ·subst hm;have hn:news=[]:=js (by simpa using hl);subst hn;refine⟨v,w,?_,by simpa using aZ,⟨rfl,rfl,rfl,bL _,λ_ _ _=>rfl⟩⟩;subst Df;rcases aZ.2 with ⟨rfl,rfl⟩|⟨g,cap,cur,rfl,_,hg,il,Ef,hcs,YP⟩
  ·cases p <;> simp[Builtin.append_,run_underlying ht,sizeOf,typeInfo,hi,Builtin.lenOf,Builtin.firstCells,loadCells,loadCellsFrom]
  ·cases p <;> simp[Builtin.append_,run_underlying ht,sizeOf,typeInfo,hi,Builtin.lenOf,Builtin.firstCells,loadCells,loadCellsFrom,il,storeCells]
 ·obtain⟨b,off,rfl,hc⟩:=hp (CZ ab hsz)
  obtain⟨v',w',hr,h2,h3,_⟩:=run_append_own (P:=P) w base t ty e i z size bytes ht hi hz Df RI Yj hsz v n xs aZ ⟨b,off,none⟩ m c news hl
   (λj u hj=>by
    have:=hc j u hj
    rwa [show (⟨b,off,none⟩:Addr).add j=⟨b,off+j,none⟩ by unfold Addr.add;split <;> simp_all]) h1 h63 kZ oG
  exact⟨v',w',hr,h2,h3⟩
variable {ops:Array Oper} {Q:Exit->Act->World->Prop} {rest:List Oper}
theorem nW (w:World) {o:Oper} {a:Act} (YQ:o.guard=none) (s x:Operand) (t:TypeId)
  (ho:o.op=.call { callee:=.builtin .append,args:=#[s,x],argTypes:=#[t,t] })
  (base:Nat) (e:TypeId) (i:TypeInfo) (z:Value) (size bytes:Nat) (ht:P.underlying t=some (.slice e)) (hi:P.info? e=some i) (hz:i.zero=some z)
  (Df:i.size=size) (RI:i.bytes=bytes) (Yj:z.cells.size=size) (hsz:0<size)
  (v:Value) (n:Nat) (xs:List Value) (hs:a.eval s=v) (aZ:w.ownsRow base e size v n xs)
  (xv:Value) (m:Nat) (news:List Value) (hx:a.eval x=xv) (Dg:Rd w size xv m news) (h1:∀ u∈news,u.oneCell'=true)
  (h63:n+m<=maxLen) (kZ:(n+m)*bytes<=140737488355328) (oG:base<=w.heap.size)
  (h:∀ v' w',w'.ownsRow base e size v' (n+m) (xs++news)->w.grownBy w' v.ownBlock->wpList P ops Q rest (a.put o.dst v') w'):wpList P ops Q (o::rest) a w:=by
 refine wpList_plain YQ λ_ hK=> ?_;obtain⟨v',w',hr,h2,h3⟩:=sL (P:=P) w base t o.type e i z size bytes ht hi hz Df RI Yj hsz v n xs aZ xv m news Dg h1 h63 kZ oG;unfold Oper.wp execOp;simp only[ho,resolve,invoke,builtin,Sem.run_bind,Sem.run_pure,Result.andThen_ok,List.map_toArray,List.map_cons,List.map_nil,hs,hx,hr];exact hK _ _ (h v' w' h2 h3)
theorem wC {o:Oper} {a:Act} {K:Act->World->Prop} {E:Prop} (YQ:o.guard=none) (s x:Operand) (t:TypeId)
  (ho:o.op=.call { callee:=.builtin .append,args:=#[s,x],argTypes:=#[t,t] })
  (base:Nat) (e:TypeId) (i:TypeInfo) (z:Value) (size bytes:Nat) (ht:P.underlying t=some (.slice e)) (hi:P.info? e=some i) (hz:i.zero=some z)
  (Df:i.size=size) (RI:i.bytes=bytes) (Yj:z.cells.size=size) (hsz:0<size)
  (v:Value) (n:Nat) (xs:List Value) (hs:a.eval s=v) (aZ:w.ownsRow base e size v n xs)
  (xv:Value) (m:Nat) (news:List Value) (hx:a.eval x=xv) (Dg:Rd w size xv m news) (h1:∀ u∈news,u.oneCell'=true)
  (h63:n+m<=maxLen) (kZ:(n+m)*bytes<=140737488355328) (oG:base<=w.heap.size)
  (h:∀ v' w',w'.ownsRow base e size v' (n+m) (xs++news)->w.grownBy w' v.ownBlock->K (a.put o.dst v') w'):
  if Region.wanted o (yielded ops a.tmps)=true then Oper.wp P o a w K Q else E:=by
 have hw:Region.wanted o (yielded ops a.tmps)=true:=by simp[Region.wanted,YQ]
 rw[if_pos hw];obtain⟨v',w',hr,h2,h3⟩:=sL (P:=P) w base t o.type e i z size bytes ht hi hz Df RI Yj hsz v n xs aZ xv m news Dg h1 h63 kZ oG;unfold Oper.wp execOp;simp only[ho,resolve,invoke,builtin,Sem.run_bind,Sem.run_pure,Result.andThen_ok,List.map_toArray,List.map_cons,List.map_nil,hs,hx,hr];exact h v' w' h2 h3
variable {w1:World}
theorem Kb {o:Obj} {a:Addr} {v:Value} {row:Option Nat} (hg:(w.alloc o).drew.grownBy w1 row) (hc:w.cell? a=some v) (hne:some a.block≠row):w1.cell? a=some v:=
 hg.cell ((World.cell?_alloc_lt w o a (mP hc)).trans hc) hne
theorem YR {sz n b:Nat} {v:Value} (h:w.ownsRow B e sz v n cs) (hb:b<B):some b≠v.ownBlock:=by
 intro he;have:=(h.lt b he.symm).1;omega
variable {w0:World}
theorem Below.behind {sz n:Nat} {o:Obj} {v:Value} (h:Below B w0 w) (hB:B<=w.heap.size) (hg:(w.alloc o).drew.grownBy w1 v.ownBlock) (ho:w.ownsRow B' e sz v n cs) (hBB:B<=B'):Below B w0 w1:=
 ((h.alloc hB o).drew).grown hg (by simp;omega) λk hk=>by have:=(ho.lt k hk).1;omega
theorem Below.aR {a b c:World} (h:Below a.heap.size a b) (k:Below b.heap.size b c):Below a.heap.size a c:=h.trans (k.mono h.size)
theorem wpList_append_run {o:Oper} {a:Act} (YQ:o.guard=none) (s x:Operand) (t t':TypeId)
  (ho:o.op=.call { callee:=.builtin .append,args:=#[s,x],argTypes:=#[t,t'] }) (v xv:Value) (hs:a.eval s=v) (hx:a.eval x=xv) (v':Value) (w':World)
  (hr:(Builtin.append_ #[t,t'] o.type #[v,xv]).run P w=.ok v' w') (h:wpList P ops Q rest (a.put o.dst v') w'):wpList P ops Q (o::rest) a w:=by
 refine wpList_plain YQ λ_ hK=> ?_;unfold Oper.wp execOp;simp only[ho,resolve,invoke,builtin,Sem.run_bind,Sem.run_pure,Result.andThen_ok,List.map_toArray,List.map_cons,List.map_nil,hs,hx,hr];exact hK _ _ h
theorem Below.YS {sz n:Nat} {v:Value} (h:Below B w0 w) (hg:w.grownBy w' v.ownBlock) (ho:w.ownsRow B' e sz v n cs) (hB:B<=w.heap.size) (hBB:B<=B'):Below B w0 w':=
 h.grown hg hB λk hk=>by have:=(ho.lt k hk).1;omega
variable {f:FuncId}
theorem bG {args:Array Value} {R:Ending->World->Prop} (h:∀ R':Ending->World->Prop,Hid (∀ e w',R e w'->R' e w')->Calls P f args w R'):Calls P f args w R:=h R λ_ _ h=>h
variable {a':Int}
theorem tr {k:IntKind} {a:Int} (h:a=a'):Ending.returned (.int k a)=.returned (.int k a'):=by rw[h]
theorem ret2 {k l:IntKind} {a b b':Int} (h:a=a') (h':b=b'):Ending.returned (.tuple #[.int k a,.int l b])=.returned (.tuple #[.int k a',.int l b']):=by rw[h,h']
theorem Own.made {n:Nat} {v:Value} {k:IntKind} (h:w.ownsRow B e 1 v n (madeCells (Value.int k 0).cells (n*1)).toList):w.ownsRow B e 1 v n (ints k ([]++List.replicate n 0)):=by
 have:(madeCells (Value.int k 0).cells (n*1)).toList=ints k ([]++List.replicate n 0):=by
  rw[show (Value.int k 0).cells=#[Value.int k 0] from aa,toList_madeCells_one];simp[ints]
 rwa [this] at h
variable {ds:List Nat} {g cap r:Nat}
theorem Own.Fs {n:Nat} {k:IntKind} (h:w.ownsRow B e 1 (.slice (some ⟨g,0,none⟩) n cap) n (ints k (ds++List.replicate (r+1) 0))):
  w.cell? ⟨g,ds.length,none⟩=some (.int k 0)/\w.frozen? ⟨g,ds.length,none⟩=false:=by
 have hl:=h.1;simp at hl;refine⟨?_,h.frozenAt _⟩;rw[h.cellAt _ ab];have:=Ap (k:=k) (xs:=ds++List.replicate (r+1) 0) (j:=ds.length) (x:=0) (by simp[List.replicate_succ]);simpa using this
theorem Own.Aq {n:Nat} {k:IntKind} (h:w.ownsRow B e 1 (.slice (some ⟨g,0,none⟩) n cap) n (ints k (ds++List.replicate (r+1) 0))):
  (w.setCell ⟨g,ds.length,none⟩ (.int k (x:Int))).ownsRow B e 1 (.slice (some ⟨g,0,none⟩) n cap) n (ints k ((ds++[x])++List.replicate r 0)):=by
 have h1:=(h.stored ds.length (.int k (x:Int))).1;rw[ints_set] at h1
 have:(ds++List.replicate (r+1) 0).set ds.length x=(ds++[x])++List.replicate r 0:=by
  rw[zZ _ _ (bL _),rR,List.replicate_succ,List.set_cons_zero,fu];rfl
 rwa [this] at h1
theorem Own.lC {n:Nat} {k:IntKind} (h:w.ownsRow B e 1 (.slice (some ⟨g,0,none⟩) n cap) n (ints k xs)) (hj:j<n):
  ∃ x,xs[j]? =some x/\w.cell? ⟨g,j,none⟩=some (.int k (x:Int))/\w.frozen? ⟨g,j,none⟩=false:=by
 have hl:=h.1;simp at hl;have hx:=ba (show j<xs.length by omega);refine⟨_,hx,?_,h.frozenAt _⟩;rw[h.cellAt _ ab,Ap hx]
theorem Own.kE {n:Nat} {k:IntKind} (h:w.ownsRow B e 1 (.slice (some ⟨g,0,none⟩) n cap) n (ints k xs)):
  (w.setCell ⟨g,j,none⟩ (.int k (x:Int))).ownsRow B e 1 (.slice (some ⟨g,0,none⟩) n cap) n (ints k (xs.set j x)):=by
 have h1:=(h.stored j (.int k (x:Int))).1
 rwa [ints_set] at h1
theorem Own.lt {sz n:Nat} {p:Nat} (h:w.ownsRow B e sz (.slice (some ⟨g,p,none⟩) n cap) n cs):B<=g/\g<w.heap.size:=World.ownsRow.lt h g rfl
theorem Gr {args:Array Value} {W:World} {X:Nat->World} {v:Value} (h:Calls P f args W λe w'=>e=.returned v/\W=w') (hW:∃ n,W=X n):
  Calls P f args W λe w''=>e=.returned v/\∃ m,w''=X m:=
 h.mono λ_ _ ⟨he,hm⟩=>⟨he,hW.imp λ_ hn=>hm▸hn⟩
variable {d:Nat}
theorem gh {o:Oper} {a:Act} (YQ:o.guard=none) (s x:Operand) (t:TypeId)
  (ho:o.op=.call { callee:=.builtin .append,args:=#[s,x],argTypes:=#[t,t] })
  (base:Nat) (e:TypeId) (i:TypeInfo) (z:Value) (bytes:Nat) (ht:P.underlying t=some (.slice e)) (hi:P.info? e=some i) (hz:i.zero=some z)
  (Df:i.size=1) (RI:i.bytes=bytes) (Yj:z.cells.size=1)
  {v:Value} {n:Nat} {k:IntKind} {y:Int} {e':TypeId} (aZ:w.ownsRow base e 1 v n (ints k ds)) (hs:a.eval s=v) (hx:a.eval x=.slice (some ⟨w.heap.size,0,none⟩) 1 1) (hy:y=(d:Int))
  (h63:n+1<=9223372036854775807) (kZ:(n+1)*bytes<=140737488355328) (oG:base<=w.heap.size)
  (h:∀ v' w',w'.ownsRow base e 1 v' (n+1) (ints k (ds++[d]))->(∀ w0,Below base w0 w->Below base w0 w')->wpList P ops Q rest (a.put o.dst v') w'):wpList P ops Q (o::rest) a (w.alloc (.cells #[.int k y] e')):=by
 refine nW _ YQ s x t ho base e i z 1 bytes ht hi hz Df RI Yj ab v n _ hs (aZ.alloc _) _ 1 (ints k [d]) hx (Rd.lit1 hy) (tq k [d]) (by unfold maxLen;omega) kZ (by simp;omega) ?_;intro v' w' h1 h2;refine h v' w' (by rw[me];exact h1) λw0 hb=> ?_;exact (hb.alloc oG _).grown h2 (by simp;omega) λj hj=>(aZ.lt j hj).1
theorem YT (a b:Nat) (ha:a<4294967296) (hb:b<4294967296):a*b<18446744065119617026:=by
 have h1:a*b<=4294967295*4294967295:=vx ab ab;omega
set_option maxRecDepth 100000 in
theorem Wk (a b:Nat) (w:World) (ha:a<4294967296) (hb:b<4294967296):
  Calls Tryz.prog 158 #[.int .u32 (a:Int),.int .u32 (b:Int)] w λe w'=>e=.returned (.tuple #[.int .u32 ((a*b/4294967296:Nat):Int),.int .u32 ((a*b%4294967296:Nat):Int)])/\w=w':=by
 have h:=YT a b ha hb;have h2:(a:Int)*(b:Int)<18446744065119617026:=by rw[<-rO];omega
 have h3:0<=(a:Int)*(b:Int):=by rw[<-rO];omega
 refine bG λR' di=> ?_;go_enter Tryz.func158,Tryz.ntmps158
 go_wp2
 refine di.out _ _ ⟨ret2 ?_ ?_,aa⟩ <;> simp
set_option maxRecDepth 100000 in
theorem tt (a b c:Nat) (w:World) (ha:a<4294967296) (hb:b<4294967296) (hc:c<4294967296):
  Calls Tryz.prog 139 #[.int .u32 (a:Int),.int .u32 (b:Int),.int .u32 (c:Int)] w λe w'=>e=.returned (.tuple #[.int .u32 (((a+b+c)%4294967296:Nat):Int),.int .u32 (((a+b+c)/4294967296:Nat):Int)])/\w=w':=by
 refine bG λR' di=> ?_;go_enter Tryz.func139,Tryz.ntmps139
 go_wp2
 refine di.out _ _ ⟨ret2 ?_ ?_,aa⟩ <;> simp
set_option maxRecDepth 100000 in
theorem Wl (a b d:Nat) (w:World) (ha:a<d) (hb:b<4294967296) (hd:d<4294967296):
  Calls Tryz.prog 151 #[.int .u32 (a:Int),.int .u32 (b:Int),.int .u32 (d:Int)] w λe w'=>
   e=.returned (.tuple #[.int .u32 (((a*4294967296+b)/d:Nat):Int),.int .u32 (((a*4294967296+b)%d:Nat):Int)])/\∃ k,w'=w.drewN k:=by
 have Rj:((d:Int) != 0)=true:=by rw[bne_iff_ne];omega
 have hd1:1<=(d:Int):=ab;have hle:¬ ((d:Int)<=(a:Int)):=ab
 have Gs:bits BinOp.or IntKind.u64 ((a:Int)*4294967296) (b:Int)=((a*4294967296+b:Nat):Int):=by
  have e1:((a:Int)*4294967296)=((a*4294967296:Nat):Int):=bN;rw[e1,u64_or_nat _ _ ab ab,nat_join 32 _ _ ab ab]
 have hq:(a*4294967296+b)/d<4294967296:=by
  rw[Oj ab];have:(a+1)*4294967296<=d*4294967296:=pK _ ha;rw[jb 4294967296 d];omega
 have hq1:((a:Int)*4294967296+(b:Int))/(d:Int)<4294967296:=by
  have:(((a*4294967296+b)/d:Nat):Int)<4294967296:=ab;simpa using this
 have hr:(a*4294967296+b)%d<d:=gC _ ab
 have nA:((a:Int)*4294967296+(b:Int))%(d:Int)<4294967296:=by
  have:(((a*4294967296+b)%d:Nat):Int)<4294967296:=ab;simpa using this
 have Rk:0<=((a:Int)*4294967296+(b:Int))/(d:Int):=by
  exact Int.ediv_nonneg ab ab
 have Gt:0<=((a:Int)*4294967296+(b:Int))%(d:Int):=by
  exact Int.emod_nonneg _ ab
 rw[show ((a*4294967296+b:Nat):Int)=(a:Int)*4294967296+(b:Int) by simp] at Gs;clear hq hr;refine bG λR' di=> ?_;go_enter Tryz.func151,Tryz.ntmps151
 go_wp2_with fail
 go_quiet (fail)
 go_wp2
 refine di.out _ _ ⟨ret2 ?_ ?_,_,aa⟩ <;> simp
theorem Ar (n:Nat) (h:n<4294967296):n.testBit 31=decide (2147483648<=n):=by
 rw[Nat.testBit_eq_decide_div_mod_eq];by_cases h':2147483648<=n
 ·have:n/2^31=1:=by omega
  simp[this,h']
 ·have:n/2^31=0:=by omega
  simp[this];omega
theorem by_top (n:Nat) (h:n<4294967296):n/2147483648=(n.testBit 31).toNat:=by
 rw[Ar n h];by_cases h':2147483648<=n <;> simp[h'] <;> omega
theorem RJ (x y c d:Nat) (hx:x<4294967296) (hy:y<4294967296) (hc:c<2) (hd:d=(x+8589934592-y-c)%4294967296):
  ((4294967295 ^^^x) &&& y |||(4294967295 ^^^(x ^^^y)) &&& d)/2147483648=if x<y+c then 1 else 0:=by
 have mD:d<4294967296:=ab;have h1:4294967295 ^^^x<2^32:=JL ab ab;have h2:x ^^^y<2^32:=JL ab ab;have h3:4294967295 ^^^(x ^^^y)<2^32:=JL ab h2;have h4:(4294967295 ^^^x) &&& y |||(4294967295 ^^^(x ^^^y)) &&& d<2^32:=Nat.or_lt_two_pow (Uj _ ab) (Uj _ ab)
 rw[by_top _ ab];simp only[Nat.testBit_or,Nat.testBit_and,Nat.testBit_xor,Ar _ hx,Ar _ hy,Ar _ mD,Ar 4294967295 ab];by_cases a1:2147483648<=x <;> by_cases a2:2147483648<=y <;> by_cases a3:2147483648<=d <;> simp[a1,a2,a3] <;> omega
set_option maxRecDepth 100000 in
theorem Kc (a b c:Nat) (w:World) (ha:a<4294967296) (hb:b<4294967296) (hc:c<2):
  Calls Tryz.prog 142 #[.int .u32 (a:Int),.int .u32 (b:Int),.int .u32 (c:Int)] w λe w'=>
   (∃ d r:Nat,e=.returned (.tuple #[.int .u32 (d:Int),.int .u32 (r:Int)])/\d<4294967296/\r<=1/\a+4294967296*r=d+b+c)/\w=w':=by
 obtain⟨d,hd⟩:∃ d,d=(a+8589934592-b-c)%4294967296:=⟨_,aa⟩;have mD:d<4294967296:=ab;have nB:=RJ a b c d ha hb hc hd;have hdi:((a:Int)-(b:Int)-(c:Int))%4294967296=(d:Int):=ab;have hm:IntKind.u32.max=((4294967295:Nat):Int):=aa;have h1:4294967295 ^^^a<4294967296:=JL (n:=32) ab ab;have h2:a ^^^b<4294967296:=JL (n:=32) ab ab;have h3:4294967295 ^^^(a ^^^b)<4294967296:=JL (n:=32) ab ab;have h4:(4294967295 ^^^a) &&& b<4294967296:=Uj (n:=32) _ ab;have h5:(4294967295 ^^^(a ^^^b)) &&& d<4294967296:=Uj (n:=32) _ ab
 have H:Hid (bits BinOp.or IntKind.u32 (bits BinOp.and IntKind.u32 (bits BinOp.xor IntKind.u32 IntKind.u32.max (a:Int)) (b:Int))
   (bits BinOp.and IntKind.u32 (bits BinOp.xor IntKind.u32 IntKind.u32.max (bits BinOp.xor IntKind.u32 (a:Int) (b:Int))) (((a:Int)-(b:Int)-(c:Int))%4294967296))/2147483648=((if a<b+c then 1 else 0:Nat):Int)):=by
  show _=_;rw[hdi,hm,u32_xor_nat _ _ ab ha,u32_and_nat _ _ h1 hb,u32_xor_nat _ _ ha hb,u32_xor_nat _ _ ab h2,u32_and_nat _ _ h3 mD,u32_or_nat _ _ h4 h5,<-nB];simp
 have HD:Hid (((a:Int)-(b:Int)-(c:Int))%4294967296=((a+8589934592-b-c)%4294967296:Nat)):=by show _=_;rw[hdi,hd]
 clear hd hdi nB hm h1 h2 h3 h4 h5 mD;refine bG λR' di=> ?_;go_enter Tryz.func142,Tryz.ntmps142
 go_wp2
 all_goals exact di.out _ _ ⟨⟨(a+8589934592-b-c)%4294967296,if a<b+c then 1 else 0,ret2 HD.out H.out,gC _ ab,by split <;> omega,by split <;> omega⟩,aa⟩
set_option maxRecDepth 100000 in
theorem fo (p:Option Addr) (n c:Nat) (xs:List Nat) (w:World) (hr:Rd w 1 (.slice p n c) n (ints .u32 xs)) (hl:ez xs):
  Calls Tryz.prog 134 #[.slice p n c] w λe w'=>(∃ m,m<=n/\e=.returned (.slice p m c)/\limbs (ay xs)=xs.take m)/\w=w':=by
 have il:n<=c/\c<=9223372036854775807/\xs.length=n:=by
  obtain⟨p',c',hv,h1,h2,h3⟩:=hr.form;simp only[Value.slice.injEq,true_and] at hv;obtain⟨rfl,rfl⟩:=hv;unfold maxLen at h2;simp at h3;exact⟨h1,ab,h3⟩
 obtain⟨il,iC,ib⟩:=il;have HX:Hid (xs.length=n):=ib;clear ib;refine bG λR' di=> ?_;go_enter Tryz.func134,Tryz.ntmps134
 go_wp2
 go_loop [0] (λv=>∃ m,m<=n/\v=.slice p m c/\ay (xs.take m)=ay xs) (λv=>match v with | .slice _ m _=>m|_=>0)
 case atStart=>exact⟨n,bL _,aa,by rw[dP (iM HX.out)]⟩
 case round=>
  obtain⟨m,hm,rfl,hv⟩:=hrel;have HV:Hid (ay (xs.take m)=ay xs):=hv;clear hv;by_cases h0:m=0
  ·subst h0;go_wp2
   exact di.out _ _ ⟨⟨0,fH _,aa,ql ab hl (fH _) HV.out (.inl aa)⟩,aa⟩
  ·obtain⟨b,off,x,rfl,hb,hx,hc⟩:=hr.cellAt (k:=m-1) ab;have YU:Hid (xs[m-1]? =some x):=hx;clear hx;have h0':0<m:=ab;obtain⟨j,rfl⟩:∃ j,m=j+1:=⟨m-1,ab⟩;rw[Nat.add_sub_cancel] at hc;by_cases my:x=0
   ·subst my;go_wp2
    go_round
    case rel=>exact⟨j,ab,aa,(rW YU.out).symm.trans HV.out⟩
    case measure=>simp
   ·have hx0':((x:Int) == 0)=false:=by rw[iZ];omega
    go_wp2
    exact di.out _ _ ⟨⟨j+1,hm,aa,ql ab hl (by rw[HX.out];exact hm) HV.out (.inr ⟨x,YU.out,my⟩)⟩,aa⟩
theorem og:(Tryz.prog.info? 117).map (λi=>(i.zero,i.size,i.bytes))=some (some (.int .u32 0),1,4):=by kernel_rfl
theorem bq {P:Prop} (h:P:=by decide):P:=h
set_option maxRecDepth 100000 in
theorem nX (v:Value) (n:Nat) (xs:List Nat) (w:World) (hr:Rd w 1 v n (ints .u32 xs)) (hn:n<=1073741824):
  Calls Tryz.prog 133 #[v] w λe w'=>∃ v',e=.returned v'/\w'.ownsRow w.heap.size 117 1 v' n (ints .u32 xs)/\Below w.heap.size w w':=by
 obtain⟨p,c,rfl,il,iC,hl⟩:=hr.form;have Hr:=af hr;have Wm:∀ w':World,(binOp .eql 22 (.slice p n c) (.slice none 0 0)).run Tryz.prog w'=.ok (.bool p.isNone) w':=λw'=>Lib.run_eql_slice_nil w' 22 117 p n c 0 0 rL;obtain⟨i0,hi,pX,lD,uw⟩:=info_parts og;have HL:=af hl;clear hl hr;unfold maxLen at iC;cases p with
 | none=>
   refine bG λR' di=> ?_;go_enter Tryz.func133,Tryz.ntmps133
   go_wp2
   refine di.out _ _ ⟨_,aa,?_,iP _ _⟩;obtain⟨p,c',hv,_,_,h3,h4⟩:=Hr.out;simp only[Value.slice.injEq,true_and] at hv;obtain⟨rfl,rfl⟩:=hv
   have h0:n=0:=by
    rcases rK n with h|h
    ·exact h
    ·obtain⟨b,off,hp,_⟩:=h4 ab;cases hp
   subst h0;have hx:ints .u32 xs=[]:=js (by simpa using h3);rw[hx];exact qF _ _ _ _
 | some ad=>
   refine bG λR' di=> ?_;go_enter Tryz.func133,Tryz.ntmps133
   go_wp2_with (at_builtin;refine nW _ aa _ _ 22 aa w.heap.size 117 i0 (.int .u32 0) 1 4 rL hi pX lD uw aa bq _ 0 [] aa (World.ownsRow_made w #[] 0 (bL _) (by simp[maxLen]) aa) _ n _ aa (Hr.out.alloc _) (tq _ _) (by unfold maxLen;omega) ab bN ?_;intro v' w1 aZ Wn)
   simp only[Nat.zero_add,List.nil_append] at aZ;refine di.out _ _ ⟨_,aa,aZ,((iP _ _).alloc (bL _) _).grown Wn bN λk hk=>by injection (show some w.heap.size=some k from hk) with hk;omega⟩
theorem Rd.u32 {v:Value} {n:Nat} (h:Rd w 1 v n (ints .u32 xs)):∃ p c,v=.slice p n c/\n<=c/\c<=9223372036854775807/\xs.length=n:=by
 obtain⟨p,c,hv,h1,h2,h3⟩:=h.form;unfold maxLen at h2;exact⟨p,c,hv,h1,ab,by simpa using h3⟩
theorem Rd.limbs {n:Nat} (h:Rd w 1 (.slice p n c) n (ints .u32 xs)) (hm:m<=n) (hl:limbs (ay xs)=xs.take m):
  Rd w 1 (.slice p m c) m (ints .u32 (limbs (ay xs))):=by
 have:=h.take hm
 rwa [yD,xG,<-hl] at this
theorem Own.limbs {n:Nat} (h:w.ownsRow B e 1 (.slice p n c) n (ints .u32 xs)) (hm:m<=n) (hl:limbs (ay xs)=xs.take m):
  w.ownsRow B e 1 (.slice p m c) m (ints .u32 (limbs (ay xs))):=by
 have:=Own.take h hm
 rwa [yD,xG,<-hl] at this
set_option maxRecDepth 100000 in
theorem oH (v:Value) (n:Nat) (xs:List Nat) (w:World) (hr:Rd w 1 v n (ints .u32 xs)) (hl:ez xs) (hn:n<=1073741824):
  Calls Tryz.prog 112 #[v] w λe w'=>∃ v',e=.returned v'/\w'.ownsRow w.heap.size 117 1 v' (limbs (ay xs)).length (ints .u32 (limbs (ay xs)))/\Below w.heap.size w w':=by
 obtain⟨p,c,rfl,il,iC,ib⟩:=hr.u32;have Hr:=af hr;have HL:=af hl;have HX:=af ib;clear ib hl hr;refine bG λR' di=> ?_;go_enter Tryz.func112,Tryz.ntmps112
 go_wp2_with fail
 refine (fo p n c xs _ Hr.out HL.out).mono ?_;rintro e w1 ⟨⟨m,hm,rfl,Jf⟩,rfl⟩;have HM:=af Jf;clear Jf
 have yO:Hid (m=(limbs (ay xs)).length):=by
  show _=_;rw[HM.out,cM,HX.out];omega
 go_wp2_with fail
 refine (nX _ m (limbs (ay xs)) _ (Hr.out.limbs hm HM.out) ab).mono ?_;rintro e w1 ⟨v',rfl,aZ,hb⟩;go_wp2
 refine di.out _ _ ⟨_,aa,?_,hb⟩;rw[<-yO.out];exact aZ
set_option maxRecDepth 100000 in
theorem Gu (a b:Nat) (w:World):
  Calls Tryz.prog 140 #[.int .i64 (a:Int),.int .i64 (b:Int)] w λe w'=>e=.returned (.int .i64 (kD a b))/\w=w':=by
 rcases On a b with h|rfl|h
 ·have e1:=af (rX h);refine bG λR' di=> ?_;go_enter Tryz.func140,Tryz.ntmps140
  go_wp2
  exact di.out _ _ ⟨tr e1.out.symm,aa⟩
 ·have e1:=af (Am a);refine bG λR' di=> ?_;go_enter Tryz.func140,Tryz.ntmps140
  go_wp2
  exact di.out _ _ ⟨tr e1.out.symm,aa⟩
 ·have e1:=af (rY h);refine bG λR' di=> ?_;go_enter Tryz.func140,Tryz.ntmps140
  go_wp2
  exact di.out _ _ ⟨tr e1.out.symm,aa⟩
set_option maxRecDepth 100000 in
theorem Gv (a b:Nat) (w:World):
  Calls Tryz.prog 141 #[.int .u32 (a:Int),.int .u32 (b:Int)] w λe w'=>e=.returned (.int .i64 (kD a b))/\w=w':=by
 rcases On a b with h|rfl|h
 ·have e1:=af (rX h);refine bG λR' di=> ?_;go_enter Tryz.func141,Tryz.ntmps141
  go_wp2
  exact di.out _ _ ⟨tr e1.out.symm,aa⟩
 ·have e1:=af (Am a);refine bG λR' di=> ?_;go_enter Tryz.func141,Tryz.ntmps141
  go_wp2
  exact di.out _ _ ⟨tr e1.out.symm,aa⟩
 ·have e1:=af (rY h);refine bG λR' di=> ?_;go_enter Tryz.func141,Tryz.ntmps141
  go_wp2
  exact di.out _ _ ⟨tr e1.out.symm,aa⟩
theorem yP {a b:Nat} (h:(limbs a).length<(limbs b).length):a<b:=by
 rcases vA a b with h' |h'
 ·exact h'
 ·have:=eJ h';omega
theorem YV {a b:Nat} (h:(limbs a).length≠(limbs b).length):kD (limbs a).length (limbs b).length=kD a b:=by
 rcases vA (limbs a).length (limbs b).length with h' |h'
 ·rw[rX h',rX (yP h')]
 ·have h'':(limbs b).length<(limbs a).length:=by omega
  rw[rY h'',rY (yP h'')]
variable {y:Nat}
theorem RO {a b k:Nat} (hx:(limbs a)[k]? =some x) (hy:(limbs b)[k]? =some y) (hne:x≠y) (hd:(limbs a).drop (k+1)=(limbs b).drop (k+1)):kD x y=kD a b:=by
 rcases vA x y with h|h
 ·have:=qJ (B:=4294967296) (aK a) hx hy h hd;rw[show val 4294967296 (limbs a)=a from aB a,show val 4294967296 (limbs b)=b from aB b] at this;rw[rX h,rX this]
 ·have h':y<x:=by omega
  have:=qJ (B:=4294967296) (aK b) hy hx h' hd.symm;rw[show val 4294967296 (limbs a)=a from aB a,show val 4294967296 (limbs b)=b from aB b] at this;rw[rY h',rY this]
theorem Wo {α:Type} {xs ys:List α} {k:Nat} {x:α} (hx:xs[k]? =some x) (hy:ys[k]? =some x) (h:xs.drop (k+1)=ys.drop (k+1)):xs.drop k=ys.drop k:=by
 have h1:xs.drop k=x::xs.drop (k+1):=by
  obtain⟨hl,e⟩:=cQ.1 hx;rw[mG hl,e]
 have h2:ys.drop k=x::ys.drop (k+1):=by
  obtain⟨hl,e⟩:=cQ.1 hy;rw[mG hl,e]
 rw[h1,h2,h]
set_option maxRecDepth 100000 in
theorem Lv (va vb:Value) (n m:Nat) (xs ys:List Nat) (w:World) (hr:Rd w 1 va n (ints .u32 xs)) (hs:Rd w 1 vb m (ints .u32 ys)) (hx:ez xs) (hy:ez ys):
  Calls Tryz.prog 131 #[va,vb] w λe w'=>e=.returned (.int .i64 (kD (ay xs) (ay ys)))/\∃ k,w'=w.drewN k:=by
 obtain⟨p,c,rfl,il,iC,ib⟩:=hr.u32;obtain⟨q,d,rfl,Wp,Rl,rZ⟩:=hs.u32;obtain⟨a,ha⟩:∃ a,a=ay xs:=⟨_,aa⟩;obtain⟨b,hb⟩:∃ b,b=ay ys:=⟨_,aa⟩;have Hr:=af hr;have Hs:=af hs;have HL:=af hx;have HM:=af hy;have HX:=af ib;have HY:=af rZ;rw[<-ha,<-hb];have HA:=af ha;have HB:=af hb;clear ib rZ hx hy hr hs ha hb;refine bG λR' di=> ?_;go_enter Tryz.func131,Tryz.ntmps131
 go_wp2_with fail
 refine (fo p n c xs _ Hr.out HL.out).mono ?_;rintro e w1 ⟨⟨n',hn',rfl,Oz⟩,rfl⟩;have HLN:=af Oz;clear Oz;go_wp2_with fail
 refine (fo q m d ys _ Hs.out HM.out).mono ?_;rintro e w1 ⟨⟨m',YW,rfl,Jf⟩,rfl⟩;have YX:=af Jf;clear Jf;have HN:Hid ((limbs a).length=n'):=by show _=_;rw[HA.out,HLN.out,cM,HX.out];omega
 have HMM:Hid ((limbs b).length=m'):=by show _=_;rw[HB.out,YX.out,cM,HY.out];omega
 have hra:=Hr.out.limbs hn' HLN.out;have Wq:=Hs.out.limbs YW YX.out;rw[<-HA.out] at hra;rw[<-HB.out] at Wq;have Hra:=af hra;have Hrb:=af Wq;clear hra Wq;by_cases hne:n'=m'
 ·subst hne;go_wp2_with fail
  go_loopw [5] (λiv wr=>∃ k dn:Nat,k<=n'/\iv=.int .i64 ((k:Int)-1)/\(limbs a).drop k=(limbs b).drop k/\wr=w.drewN dn) (λiv _=>(intOf iv+1).toNat)
  case atStart=>exact⟨n',0,bL _,aa,by rw[ly (iM HN.out),ly (iM HMM.out)],rfl⟩
  case round=>
   obtain⟨k,dn,hk,rfl,hd,rfl⟩:=hrel;have HD:=af hd;clear hd;by_cases h0:k=0
   ·subst h0;go_wp2
    exact di.out _ _ ⟨tr (by rw[We (show limbs a=limbs b by simpa using HD.out),Am]),_,aa⟩
   ·obtain⟨j,rfl⟩:∃ j,k=j+1:=⟨k-1,ab⟩;obtain⟨g1,o1,x,rfl,hg1,hx,yi⟩:=Hra.out.cellAt (k:=j) ab;obtain⟨g2,o2,y,rfl,hg2,hy,OA⟩:=Hrb.out.cellAt (k:=j) ab;have HXX:=af hx;have HYY:=af hy;have hjj:((j+1:Nat):Int)-1=(j:Int):=ab;clear hx hy h0 hg1 hg2;rw[hjj];clear hjj;by_cases Uu:x=y
    ·subst Uu;have yj:((x:Int) != (x:Int))=false:=bN;go_wp2_with fail
     go_quiet (fail)
     go_wp2
     go_roundw
     case rel=>exact⟨j,_,ab,aa,Wo HXX.out HYY.out HD.out,aa⟩
     case measure=>simp[intOf]
    ·have yj:((x:Int) != (y:Int))=true:=by rw[bne_iff_ne];omega
     go_wp2_with fail
     go_quiet (fail)
     go_wp2_with fail
     go_quiet ((go_at_call 141;exact Gr (Gv x y _) ⟨_,aa⟩))
     go_wp2
     exact di.out _ _ ⟨tr (RO HXX.out HYY.out Uu HD.out),_,by rw[World.drewN_drewN,World.drewN_drewN]⟩
 ·have hne':((n':Int) != (m':Int))=true:=by rw[bne_iff_ne];omega
  go_wp2_with fail
  refine (Gu n' m' _).mono ?_;rintro e w1 ⟨rfl,rfl⟩;go_wp2
  exact di.out _ _ ⟨tr (by rw[<-HN.out,<-HMM.out];exact YV (by rw[HN.out,HMM.out];exact hne)),0,aa⟩
def Gw (w:World) (B g N:Nat) (xs ys:List Nat) (cv iv:Value) (wr:World):Prop:=
 ∃ (k carry:Nat) (ds:List Nat),k<=N/\ds.length=k/\iv=.int .i64 (k:Int)/\cv=.int .u32 (carry:Int)/\carry<=1/\ez ds/\
   ay ds+4294967296^k*carry=ay (xs.take k)+ay (ys.take k)/\
   wr.ownsRow B 117 1 (.slice (some ⟨g,0,none⟩) (N+1) (N+1)) (N+1) (ints .u32 (ds++List.replicate (N+1-k) 0))/\Below B w wr
variable {ys:List Nat} {N carry:Nat} {wr:World}
theorem Gw.step {k:Nat} (hk:k<N) (Rm:ds.length=k) (hc:carry<=1) (hl:ez ds)
  (hv:ay ds+4294967296^k*carry=ay (xs.take k)+ay (ys.take k)) (aZ:wr.ownsRow B 117 1 (.slice (some ⟨g,0,none⟩) (N+1) (N+1)) (N+1) (ints .u32 (ds++List.replicate (N+1-k) 0)))
  (hb:Below B w wr) (hx:xs.getD k 0=x) (hy:ys.getD k 0=y) (rk:x<4294967296) (Kd:y<4294967296):
  Gw w B g N xs ys (.int .u32 (((x+y+carry)/4294967296:Nat):Int)) (.int .i64 ((k:Int)+1)) (wr.setCell ⟨g,k,none⟩ (.int .u32 (((x+y+carry)%4294967296:Nat):Int))):=by
 subst Rm;have e:N+1-ds.length=(N-ds.length)+1:=ab;rw[e] at aZ;have h1:=Own.Aq (x:=(x+y+carry)%4294967296) aZ;refine⟨ds.length+1,(x+y+carry)/4294967296,ds++[(x+y+carry)%4294967296],ab,bN,aa,aa,?_,?_,?_,?_,?_⟩
 ·omega
 ·exact hl.append (ez.cons (gC _ ab) ez.nil)
 ·rw[gI,cj,cj,hx,hy,iL];exact Ou _ _ x y carry _ _ _ hv aa
 ·rw[show N+1-(ds.length+1)=N-ds.length by omega];exact h1
 ·exact hb.setCell (Own.lt aZ).1 _
set_option maxRecDepth 100000 in
theorem Uv (p q:Option Addr) (n c m d:Nat) (xs ys:List Nat) (w:World) (hr:Rd w 1 (.slice p n c) n (ints .u32 xs)) (hs:Rd w 1 (.slice q m d) m (ints .u32 ys)) (hx:ez xs) (hy:ez ys)
  (hn:n<=1073741824) (hmn:m<=n) (args:Array Value) (hargs:args=#[.slice p n c,.slice q m d]\/m<n/\args=#[.slice q m d,.slice p n c]):
  Calls Tryz.prog 130 args w λe w'=>∃ v',e=.returned v'/\w'.ownsRow w.heap.size 117 1 v' (limbs (ay xs+ay ys)).length (ints .u32 (limbs (ay xs+ay ys)))/\Below w.heap.size w w':=by
 obtain⟨p',c',hv,il,iC,ib⟩:=hr.u32;simp only[Value.slice.injEq,true_and] at hv;obtain⟨rfl,rfl⟩:=hv;obtain⟨q',d',hv,Wp,Rl,rZ⟩:=hs.u32;simp only[Value.slice.injEq,true_and] at hv;obtain⟨rfl,rfl⟩:=hv;have Hr:=af hr;have Hs:=af hs;have HL:=af hx;have HM:=af hy;have HX:=af ib;have HY:=af rZ;obtain⟨i0,hi,pX,lD,uw⟩:=info_parts og;obtain⟨B,hB⟩:∃ B,B=w.heap.size:=⟨_,aa⟩;have HB:=af hB;rw[<-hB];clear ib rZ hx hy hr hs hB;rcases hargs with rfl|⟨hlt,rfl⟩
 all_goals
  refine bG λR' di=> ?_;go_enter Tryz.func130,Tryz.ntmps130
  go_wp2_with (at_make;refine wpList_make_full _ aa _ _ 22 aa B 117 i0 (.int .u32 0) 1 rL hi pX lD .i64 .i64 _ _ (n+1) aa aa ab ab (by rw[uw];omega) (by unfold maxLen;omega) (iM HB.out) ?_;intro w1 aZ Wn)
  have RP:=af (Own.made aZ);have Hb1:Hid (Below B w w1):=(iP _ _).grown Wn (iM HB.out) (λk hk=>by cases hk);clear aZ Wn;go_loopw [6,22] (λcv iv wr=>Gw w B w.heap.size n xs ys cv iv wr) (λ_ iv _=>n-(intOf iv).toNat)
  case atStart=>exact⟨0,0,[],fH _,aa,aa,aa,ab,ez.nil,by simp[ij],RP.out,Hb1.out⟩
  case round=>
   obtain⟨k,carry,ds,hk,Rm,rfl,rfl,ll,hl,hv,aZ,hb⟩:=hrel;have HO:=af aZ;have Lw:=af Rm;have HV:=af hv;have Ke:=af hl;have lM:=af hb;clear aZ Rm hv hl hb;have Ft:B<=wr.heap.size:=by have:=lM.out.size;have:=HB.out;omega
   by_cases ux:k<n
   ·obtain⟨b1,o1,x,rfl,bA,kF,yi⟩:=(Hr.out.nT HB.out lM.out).cellAt ux;have Fu:=af kF;have rk:=HL.out.at kF;have e:n+1-k=(n-k)+1:=ab;have nY:=HO.out;rw[e] at nY;obtain⟨hcell,Jg⟩:=Own.Fs nY;rw[Lw.out] at hcell Jg;clear e nY kF;by_cases RQ:k<m
    ·obtain⟨b2,o2,y,rfl,cC,vE,OA⟩:=(Hs.out.nT HB.out lM.out).cellAt RQ;have Uw:=af vE;have Kd:=HM.out.at vE;clear vE;go_wp2_with fail
     refine (tt x y carry _ rk Kd ab).mono ?_;rintro e w2 ⟨rfl,rfl⟩;go_wp2_with fail
     go_roundw
     case rel=>exact Gw.step ux Lw.out ll Ke.out HV.out HO.out lM.out (by simp[List.getD,Fu.out]) (by simp[List.getD,Uw.out]) rk Kd
     case measure=>simp[intOf];omega
    ·have hy0:Hid (ys.getD k 0=0):=by show _=_;rw[List.getD,vi (by rw[HY.out];omega)];rfl
     go_wp2_with fail
     refine (tt x 0 carry _ rk ab ab).mono ?_;rintro e w2 ⟨rfl,rfl⟩;go_wp2_with fail
     go_roundw
     case rel=>exact Gw.step ux Lw.out ll Ke.out HV.out HO.out lM.out (by simp[List.getD,Fu.out]) hy0.out rk ab
     case measure=>simp[intOf];omega
   ·obtain rfl:k=n:=by omega
    have e:k+1-k=0+1:=ab;have nY:=HO.out;rw[e] at nY;obtain⟨hcell,Jg⟩:=Own.Fs nY;have hst:=Own.Aq (x:=carry) nY;rw[Lw.out] at hcell Jg hst;have HST:=af hst;clear e nY hst;go_wp2_with fail
    have hval:Hid (ay (ds++[carry])=ay xs+ay ys):=by
     show _=_;rw[gI,Lw.out,HV.out,cZ (iM HX.out),cZ (by rw[HY.out];exact hmn)]
    refine (fo _ (k+1) (k+1) (ds++[carry]) _ (by have:=Rd.own HST.out;simpa using this) (Ke.out.append (ez.cons ab ez.nil))).mono ?_;rintro e w2 ⟨⟨r,hr,rfl,Gx⟩,rfl⟩;have Yk:=af Gx;clear Gx;go_wp2_with fail
    refine di.out _ _ ⟨_,aa,?_,lM.out.setCell (p:=⟨w.heap.size,k,none⟩) (iM HB.out) _⟩;have h2:=HST.out;rw[List.replicate_zero,gA] at h2;have h3:=Own.limbs h2 hr Yk.out;have e:(limbs (ay (ds++[carry]))).length=r:=by rw[Yk.out,cM,bB,Lw.out];simp;omega
    rw[hval.out] at h3 e;rw[e];exact h3
theorem Ux (va vb:Value) (n m:Nat) (xs ys:List Nat) (w:World) (hr:Rd w 1 va n (ints .u32 xs)) (hs:Rd w 1 vb m (ints .u32 ys)) (hx:ez xs) (hy:ez ys) (hn:n<=1073741824) (hm:m<=1073741824):
  Calls Tryz.prog 130 #[va,vb] w λe w'=>∃ v',e=.returned v'/\w'.ownsRow w.heap.size 117 1 v' (limbs (ay xs+ay ys)).length (ints .u32 (limbs (ay xs+ay ys)))/\Below w.heap.size w w':=by
 obtain⟨p,c,rfl,_,_,_⟩:=hr.u32;obtain⟨q,d,rfl,_,_,_⟩:=hs.u32;rcases vA n m with h|h
 ·rw[Af (ay xs)];exact Uv q p m d n c ys xs w hs hr hy hx hm ab _ (.inr ⟨h,aa⟩)
 ·exact Uv p q n c m d xs ys w hr hs hx hy hn h _ (.inl aa)
def Lx (w:World) (B g N m:Nat) (xs:List Nat) (cv iv:Value) (wr:World):Prop:=
 ∃ (k carry:Nat) (ds:List Nat),k<=N/\ds.length=k/\iv=.int .i64 (k:Int)/\cv=.int .u32 (carry:Int)/\carry<4294967296/\ez ds/\
   ay ds+4294967296^k*carry=ay (xs.take k)*m/\
   wr.ownsRow B 117 1 (.slice (some ⟨g,0,none⟩) (N+1) (N+1)) (N+1) (ints .u32 (ds++List.replicate (N+1-k) 0))/\Below B w wr
theorem Kf (x m c:Nat) (hx:x<4294967296) (hm:m<4294967296) (hc:c<4294967296):(x*m+c)/4294967296<4294967296:=by
 have h1:x*m<=4294967295*4294967295:=vx ab ab;omega
theorem Kg (x m c:Nat):x*m/4294967296+(x*m%4294967296+c)/4294967296=(x*m+c)/4294967296/\(x*m%4294967296+c)%4294967296=(x*m+c)%4294967296:=by
 generalize x*m=p;omega
theorem Lx.step {k:Nat} {c s:Int} (hk:k<N) (Rm:ds.length=k) (hm:m<4294967296) (hc:carry<4294967296) (hl:ez ds)
  (hv:ay ds+4294967296^k*carry=ay (xs.take k)*m) (aZ:wr.ownsRow B 117 1 (.slice (some ⟨g,0,none⟩) (N+1) (N+1)) (N+1) (ints .u32 (ds++List.replicate (N+1-k) 0)))
  (hb:Below B w wr) (hx:xs[k]? =some x) (rk:x<4294967296) (he:c=(((x*m+carry)/4294967296:Nat):Int)) (hs:s=(((x*m%4294967296+carry)%4294967296:Nat):Int)):
  Lx w B g N m xs (.int .u32 c) (.int .i64 ((k:Int)+1)) (wr.setCell ⟨g,k,none⟩ (.int .u32 s)):=by
 subst Rm;subst he;subst hs;have e:N+1-ds.length=(N-ds.length)+1:=ab;rw[e] at aZ;have h1:=Own.Aq (x:=(x*m+carry)%4294967296) aZ;rw[(Kg x m carry).2];refine⟨ds.length+1,(x*m+carry)/4294967296,ds++[(x*m+carry)%4294967296],ab,bN,aa,aa,Kf x m carry rk hm hc,?_,?_,?_,?_⟩
 ·exact hl.append (ez.cons (gC _ ab) ez.nil)
 ·rw[gI,cj,iL,List.getD,hx];exact YO _ x m carry _ _ hv
 ·rw[show N+1-(ds.length+1)=N-ds.length by omega];exact h1
 ·exact hb.setCell (Own.lt aZ).1 _
set_option maxRecDepth 100000 in
theorem Ly (va:Value) (n m:Nat) (xs:List Nat) (w:World) (hr:Rd w 1 va n (ints .u32 xs)) (hx:ez xs) (hn:n<=1073741824) (hm:m<4294967296):
  Calls Tryz.prog 157 #[va,.int .u32 (m:Int)] w λe w'=>∃ v',e=.returned v'/\w'.ownsRow w.heap.size 117 1 v' (limbs (ay xs*m)).length (ints .u32 (limbs (ay xs*m)))/\Below w.heap.size w w':=by
 obtain⟨p,c,rfl,il,iC,ib⟩:=hr.u32;have Hr:=af hr;have HL:=af hx;have HX:=af ib;obtain⟨i0,hi,pX,lD,uw⟩:=info_parts og;obtain⟨B,hB⟩:∃ B,B=w.heap.size:=⟨_,aa⟩;have HB:=af hB;rw[<-hB];clear ib hx hr hB;refine bG λR' di=> ?_;go_enter Tryz.func157,Tryz.ntmps157
 go_wp2_with (at_make;refine wpList_make_full _ aa _ _ 22 aa B 117 i0 (.int .u32 0) 1 rL hi pX lD .i64 .i64 _ _ (n+1) aa aa ab ab (by rw[uw];omega) (by unfold maxLen;omega) (iM HB.out) ?_;intro w1 aZ Wn)
 have RP:=af (Own.made aZ);have Hb1:Hid (Below B w w1):=(iP _ _).grown Wn (iM HB.out) (λk hk=>by cases hk);clear aZ Wn;go_loopw [6,19] (λcv iv wr=>Lx w B w.heap.size n m xs cv iv wr) (λ_ iv _=>n-(intOf iv).toNat)
 case atStart=>exact⟨0,0,[],fH _,aa,aa,aa,ab,ez.nil,by simp[ij],RP.out,Hb1.out⟩
 case round=>
  obtain⟨k,carry,ds,hk,Rm,rfl,rfl,ll,hl,hv,aZ,hb⟩:=hrel;have HO:=af aZ;have Lw:=af Rm;have HV:=af hv;have Ke:=af hl;have lM:=af hb;clear aZ Rm hv hl hb;by_cases ux:k<n
  ·obtain⟨b1,o1,x,rfl,bA,kF,yi⟩:=(Hr.out.nT HB.out lM.out).cellAt ux;have Fu:=af kF;have rk:=HL.out.at kF;have e:n+1-k=(n-k)+1:=ab;have nY:=HO.out;rw[e] at nY;obtain⟨hcell,Jg⟩:=Own.Fs nY;rw[Lw.out] at hcell Jg;clear e nY kF;have h1:(x*m+carry)/4294967296<4294967296:=Kf x m carry rk hm ll;have h2:=(Kg x m carry).1;have h3:(0:Int)<=((x*m/4294967296:Nat):Int)+(((x*m%4294967296+carry+0)/4294967296:Nat):Int)/\((x*m/4294967296:Nat):Int)+(((x*m%4294967296+carry+0)/4294967296:Nat):Int)<4294967296:=ab;have H2:Hid (((x*m/4294967296:Nat):Int)+(((x*m%4294967296+carry+0)/4294967296:Nat):Int)=(((x*m+carry)/4294967296:Nat):Int)):=by show _=_;omega
   obtain⟨h3a,h3b⟩:=h3;clear h2 h1;go_wp2_with fail
   refine (Wk x m _ rk hm).mono ?_;rintro e w2 ⟨rfl,rfl⟩;go_wp2_with fail
   refine (tt (x*m%4294967296) carry 0 _ (gC _ ab) ll ab).mono ?_;rintro e w2 ⟨rfl,rfl⟩;go_wp2_with fail
   go_roundw
   case rel=>exact Lx.step ux Lw.out hm ll Ke.out HV.out HO.out lM.out Fu.out rk (by have:=H2.out;omega) ab
   case measure=>simp[intOf];omega
  ·obtain rfl:k=n:=by omega
   have e:k+1-k=0+1:=ab;have nY:=HO.out;rw[e] at nY;obtain⟨hcell,Jg⟩:=Own.Fs nY;have hst:=Own.Aq (x:=carry) nY;rw[Lw.out] at hcell Jg hst;have HST:=af hst;clear e nY hst;go_wp2_with fail
   have hval:Hid (ay (ds++[carry])=ay xs*m):=by
    show _=_;rw[gI,Lw.out,HV.out,cZ (iM HX.out)]
   refine (fo _ (k+1) (k+1) (ds++[carry]) _ (by have:=Rd.own HST.out;simpa using this) (Ke.out.append (ez.cons ab ez.nil))).mono ?_;rintro e w2 ⟨⟨r,hr,rfl,Gx⟩,rfl⟩;have Yk:=af Gx;clear Gx;go_wp2_with fail
   refine di.out _ _ ⟨_,aa,?_,lM.out.setCell (p:=⟨w.heap.size,k,none⟩) (iM HB.out) _⟩;have h2:=HST.out;rw[List.replicate_zero,gA] at h2;have h3:=Own.limbs h2 hr Yk.out;have e:(limbs (ay (ds++[carry]))).length=r:=by rw[Yk.out,cM,bB,Lw.out];simp;omega
   rw[hval.out] at h3 e;rw[e];exact h3
def Lz (w:World) (B:Nat) (qv:Value) (n d:Nat) (xs:List Nat) (iv rv:Value) (wr:World):Prop:=
 ∃ (k r:Nat) (qs:List Nat),k<=n/\qs.length=n-k/\iv=.int .i64 ((k:Int)-1)/\rv=.int .u32 (r:Int)/\r<d/\ez qs/\
   ay qs*d+r=ay (xs.drop k)/\wr.ownsRow B 117 1 qv n (ints .u32 (xs.take k++qs))/\Below B w wr
theorem YY (d r x Q X:Nat) (h:Q*d+r=X):
  ((r*4294967296+x)/d+4294967296*Q)*d+(r*4294967296+x)%d=x+4294967296*X:=by
 subst h;have h2:=Ad (r*4294967296+x) d;rw[jb d] at h2;rw[fG,du,gB];omega
theorem div_lt (d r x:Nat) (hr:r<d) (hx:x<4294967296):(r*4294967296+x)/d<4294967296:=by
 rw[Oj ab];have:(r+1)*4294967296<=d*4294967296:=pK _ hr;rw[jb 4294967296 d];omega
theorem Gy {k:Nat} (h:xs[k]? =some x):ay (xs.drop k)=x+4294967296*ay (xs.drop (k+1)):=by
 obtain⟨hl,e⟩:=cQ.1 h;rw[mG hl,e,jD]
variable {qs:List Nat}
theorem LA {k:Nat} (hk:k<xs.length):(xs.take (k+1)++qs).set k x=xs.take k++x::qs:=by
 have h1:xs.take (k+1)=xs.take k++[xs[k]]:=dk (ba hk);rw[h1,fu,zZ _ _ (by rw[cM];omega)]
 congr 1
 rw[cM,ig ab,rR];rfl
theorem Lz.step {n dn:Nat} {q s:Int} (hj:j+1<=n) (hn:xs.length=n) (hqs:qs.length=n-(j+1)) (hr:r<d) (hl:ez qs)
  (hv:ay qs*d+r=ay (xs.drop (j+1))) (aZ:wr.ownsRow B 117 1 (.slice (some ⟨g,0,none⟩) n cap) n (ints .u32 (xs.take (j+1)++qs))) (hb:Below B w wr)
  (hx:xs[j]? =some x) (rk:x<4294967296) (he:q=(((r*4294967296+x)/d:Nat):Int)) (hs:s=(((r*4294967296+x)%d:Nat):Int)):
  Lz w B (.slice (some ⟨g,0,none⟩) n cap) n d xs (.int .i64 ((j:Int)-1)) (.int .u32 s) ((wr.drewN dn).setCell ⟨g,j,none⟩ (.int .u32 q)):=by
 subst he;subst hs;refine⟨j,(r*4294967296+x)%d,(r*4294967296+x)/d::qs,ab,by simp;omega,rfl,rfl,gC _ ab,ez.cons (div_lt d r x hr rk) hl,?_,?_,?_⟩
 ·rw[jD,Gy hx,<-hv];exact YY d r x _ _ aa
 ·have h1:=Own.kE (j:=j) (x:=(r*4294967296+x)/d) (Own.drewN aZ dn)
  rwa [LA ab] at h1
 ·exact (Below.drewN hb dn).setCell (Own.lt aZ).1 _
set_option maxRecDepth 100000 in
theorem Au (va:Value) (n d:Nat) (xs:List Nat) (w:World) (hr:Rd w 1 va n (ints .u32 xs)) (hx:ez xs) (hn:n<=1073741824) (hd:d<4294967296):
  Calls Tryz.prog 143 #[va,.int .u32 (d:Int)] w λe w'=>((d=0/\e=.returned (.tuple #[.slice none 0 0,.int .u32 0,.int .i64 20]))\/
   (d≠0/\∃ v',e=.returned (.tuple #[v',.int .u32 ((ay xs%d:Nat):Int),.int .i64 0])/\w'.ownsRow w.heap.size 117 1 v' (limbs (ay xs/d)).length (ints .u32 (limbs (ay xs/d)))))/\Below w.heap.size w w':=by
 obtain⟨p,c,rfl,il,iC,ib⟩:=hr.u32;have Hr:=af hr;have HL:=af hx;have HX:=af ib;clear ib hx hr;by_cases Rj:d=0
 ·have hdb:((d:Int) == 0)=true:=by rw[beq_iff_eq];omega
  have HD:=af Rj;clear Rj;refine bG λR' di=> ?_;go_enter Tryz.func143,Tryz.ntmps143
  go_wp2
  go_ret3
  exact di.out _ _ ⟨.inl ⟨HD.out,aa⟩,iP _ _⟩
 ·obtain⟨B,hB⟩:∃ B,B=w.heap.size:=⟨_,aa⟩;have HB:=af hB;rw[<-hB];clear hB;have hdb:((d:Int) == 0)=false:=by rw[iZ];omega
  refine bG λR' di=> ?_;go_enter Tryz.func143,Tryz.ntmps143
  go_wp2_with fail
  refine (nX _ n xs _ Hr.out hn).mono ?_;rintro e w1 ⟨qv,rfl,aZ,hb⟩;rw[<-HB.out] at aZ hb;obtain⟨qp,qc,rfl,_,_,_⟩:=Own.form aZ;have HO:=af aZ;have lM:=af hb;clear aZ hb;go_wp2_with fail
  go_loopw [7,5] (λiv rv wr=>Lz w B (.slice qp n qc) n d xs iv rv wr) (λiv _ _=>(intOf iv+1).toNat)
  case atStart=>exact⟨n,0,[],bL _,bN,aa,aa,ab,ez.nil,by rw[ly (iM HX.out)];simp[ij],by rw[dP (iM HX.out),gA];exact HO.out,lM.out⟩
  case round=>
   obtain⟨k,r,qs,hk,hqs,rfl,rfl,Dg,hl,hv,aZ,hb⟩:=hrel;have vF:=af aZ;have HQS:=af hqs;have HV:=af hv;have Ke:=af hl;have wD:=af hb;clear aZ hqs hv hl hb;by_cases h0:k=0
   ·subst h0;go_wp2_with fail
    refine (fo _ n qc qs _ (by have:=Rd.own vF.out;simpa using this) Ke.out).mono ?_;rintro e w2 ⟨⟨m,hm,rfl,Jf⟩,rfl⟩;have YX:=af Jf;clear Jf;go_wp2_with fail
    go_ret3
    have hv:=HV.out;rw[List.drop_zero] at hv;have hq:ay xs/d=ay qs:=by rw[<-hv,Af,Nat.add_mul_div_right _ _ ab,CW Dg,jt]
    have YW:ay xs%d=r:=by rw[<-hv,Af,YJ,Ac Dg]
    refine di.out _ _ ⟨.inr ⟨Rj,.slice qp m qc,by rw[YW];rfl,?_⟩,wD.out⟩;have h2:=vF.out;rw[yA,ma] at h2;have h3:=Own.limbs h2 hm YX.out;have e:(limbs (ay qs)).length=m:=by rw[YX.out,cM,HQS.out];omega
    rw[hq,e];exact h3
   ·obtain⟨j,rfl⟩:∃ j,k=j+1:=⟨k-1,ab⟩;obtain⟨g,qc',hv,hbg,Ws⟩:=Own.Fq vF.out ab;simp only[Value.slice.injEq,true_and] at hv;obtain⟨rfl,rfl⟩:=hv;obtain⟨x,hx,hcell,Jg⟩:=Own.lC vF.out (j:=j) ab
    have kF:xs[j]? =some x:=by
     rw[gm (by rw[cM,HX.out];omega),wq] at hx;simpa using hx
    have Fu:=af kF;have rk:=HL.out.at kF;have hjj:((j+1:Nat):Int)-1=(j:Int):=ab;rw[hjj];clear hx kF h0 hjj;go_wp2_with fail
    refine (Wl r x d _ Dg rk hd).mono ?_;rintro e w2 ⟨rfl,dn,rfl⟩;go_wp2_with fail
    go_roundw
    case rel=>exact Lz.step ab HX.out HQS.out Dg Ke.out HV.out vF.out wD.out Fu.out rk bN bN
    case measure=>simp[intOf]
def Gz (w:World) (B:Nat) (ov:Value) (n:Nat) (xs ys:List Nat) (bv iv:Value) (wr:World):Prop:=
 ∃ (k r:Nat) (ds:List Nat),k<=n/\ds.length=k/\iv=.int .i64 (k:Int)/\bv=.int .u32 (r:Int)/\r<=1/\ez ds/\
   ay ds+ay (ys.take k)=ay (xs.take k)+4294967296^k*r/\wr.ownsRow B 117 1 ov n (ints .u32 (ds++xs.drop k))/\Below B w wr
theorem LB (hk:ds.length<xs.length):(ds++xs.drop ds.length).set ds.length x=(ds++[x])++xs.drop (ds.length+1):=by
 rw[zZ _ _ (bL _),rR,mG hk,List.set_cons_zero,fu];rfl
theorem YZ (p x y r d r' X Y D:Nat) (h:D+Y=X+p*r) (hs:x+4294967296*r'=d+y+r):(D+p*d)+(Y+p*y)=(X+p*x)+p*4294967296*r':=by
 have h2:p*(x+4294967296*r')=p*(d+y+r):=by rw[hs]
 rw[du,du,du,<-gB] at h2;omega
theorem Gz.step {n k r':Nat} (hk:k<n) (hn:xs.length=n) (Rm:ds.length=k) (hl:ez ds)
  (hv:ay ds+ay (ys.take k)=ay (xs.take k)+4294967296^k*r) (aZ:wr.ownsRow B 117 1 (.slice (some ⟨g,0,none⟩) n cap) n (ints .u32 (ds++xs.drop k))) (hb:Below B w wr)
  (hx:xs.getD k 0=x) (hy:ys.getD k 0=y) (hd:d<4294967296) (ry:r'<=1) (he:x+4294967296*r'=d+y+r):
  Gz w B (.slice (some ⟨g,0,none⟩) n cap) n xs ys (.int .u32 (r':Int)) (.int .i64 ((k:Int)+1)) (wr.setCell ⟨g,k,none⟩ (.int .u32 (d:Int))):=by
 subst Rm;have h1:=Own.kE (j:=ds.length) (x:=d) aZ;rw[LB ab] at h1;refine⟨ds.length+1,r',ds++[d],ab,bN,aa,aa,ry,hl.append (ez.cons hd ez.nil),?_,h1,hb.setCell (Own.lt aZ).1 _⟩;rw[gI,cj,cj,hx,hy,iL];exact YZ _ x y r d r' _ _ _ hv he
set_option maxRecDepth 100000 in
theorem LC (va vb:Value) (n m:Nat) (xs ys:List Nat) (w:World) (hr:Rd w 1 va n (ints .u32 xs)) (hs:Rd w 1 vb m (ints .u32 ys)) (hx:ez xs) (hy:ez ys) (hn:n<=1073741824):
  Calls Tryz.prog 132 #[va,vb] w λe w'=>((ay xs<ay ys/\e=.returned (.tuple #[.slice none 0 0,.int .i64 2]))\/
   (ay ys<=ay xs/\∃ v',e=.returned (.tuple #[v',.int .i64 0])/\w'.ownsRow w.heap.size 117 1 v' (limbs (ay xs-ay ys)).length (ints .u32 (limbs (ay xs-ay ys)))))/\Below w.heap.size w w':=by
 obtain⟨p,c,rfl,il,iC,ib⟩:=hr.u32;obtain⟨q,d,rfl,Wp,Rl,rZ⟩:=hs.u32;obtain⟨a,ha⟩:∃ a,a=ay xs:=⟨_,aa⟩;obtain⟨b,hb⟩:∃ b,b=ay ys:=⟨_,aa⟩;have Hr:=af hr;have Hs:=af hs;have HL:=af hx;have HM:=af hy;have HX:=af ib;have HY:=af rZ;rw[<-ha,<-hb];have HA:=af ha;have HB:=af hb;clear ib rZ hx hy hr hs ha hb;refine bG λR' di=> ?_;go_enter Tryz.func132,Tryz.ntmps132
 go_wp2_with fail
 refine (fo p n c xs _ Hr.out HL.out).mono ?_;rintro e w1 ⟨⟨n',hn',rfl,Oz⟩,rfl⟩;have HLN:=af Oz;clear Oz;go_wp2_with fail
 refine (fo q m d ys _ Hs.out HM.out).mono ?_;rintro e w1 ⟨⟨m',YW,rfl,Jf⟩,rfl⟩;have YX:=af Jf;clear Jf;have HN:Hid ((limbs a).length=n'):=by show _=_;rw[HA.out,HLN.out,cM,HX.out];omega
 have HMM:Hid ((limbs b).length=m'):=by show _=_;rw[HB.out,YX.out,cM,HY.out];omega
 have hra:=Hr.out.limbs hn' HLN.out;have Wq:=Hs.out.limbs YW YX.out;rw[<-HA.out] at hra;rw[<-HB.out] at Wq;have Hra:=af hra;have Hrb:=af Wq;clear hra Wq;go_wp2_with fail
 refine (Lv _ _ n' m' (limbs a) (limbs b) _ Hra.out Hrb.out (aK a) (aK b)).mono ?_;rintro e w1 ⟨rfl,dn,rfl⟩;rw[aB,aB];by_cases Dd:a<b
 ·have hc:kD a b<0:=oD.2 Dd;generalize kD a b=cv at hc ⊢;go_wp2_with fail
  exact di.out _ _ ⟨.inl ⟨Dd,aa⟩,Below.drewN (iP _ _) _⟩
 ·have hc:0<=kD a b:=by have:=mt (@oD a b).1 Dd;omega
  generalize kD a b=cv at hc ⊢;have hmn:m'<=n':=by rw[<-HN.out,<-HMM.out];exact eJ ab
  obtain⟨B,hB⟩:∃ B,B=w.heap.size:=⟨_,aa⟩;have HBB:=af hB;rw[<-hB] at di;clear hB;go_wp2_with fail
  refine (nX _ n' (limbs a) _ (Rd.drewN Hra.out dn) ab).mono ?_;rintro e w1 ⟨qv,rfl,aZ,hb⟩;have hb:Below B w w1:=by rw[HBB.out];exact (Below.drewN (iP _ _) dn).trans hb
  have aZ:w1.ownsRow B 117 1 qv n' (ints .u32 (limbs a)):=by rw[HBB.out];exact aZ
  obtain⟨qp,qc,rfl,_,_,_⟩:=Own.form aZ;have HO:=af aZ;have lM:=af hb;clear aZ hb;go_wp2_with fail
  go_loopw [7,22] (λbv iv wr=>Gz w B (.slice qp n' qc) n' (limbs a) (limbs b) bv iv wr) (λ_ iv _=>n' -(intOf iv).toNat)
  case atStart=>exact⟨0,0,[],fH _,aa,aa,aa,ab,ez.nil,by simp[ij],by simpa using HO.out,lM.out⟩
  case round=>
   obtain⟨k,r,ds,hk,Rm,rfl,rfl,nA,hl,hv,aZ,hb⟩:=hrel;have vF:=af aZ;have Lw:=af Rm;have HV:=af hv;have Ke:=af hl;have wD:=af hb;clear aZ Rm hv hl hb;by_cases ux:k<n'
   ·obtain⟨g,qc',hv,hbg,Ws⟩:=Own.Fq vF.out ab;simp only[Value.slice.injEq,true_and] at hv;obtain⟨rfl,rfl⟩:=hv;obtain⟨x,hx,hcell,Jg⟩:=Own.lC vF.out (j:=k) ab
    have kF:(limbs a)[k]? =some x:=by
     rw[jT (by rw[Lw.out];omega),Lw.out,tf] at hx;simpa using hx
    have Fu:=af kF;have rk:=(aK a).at kF;clear hx kF;by_cases RQ:k<m'
    ·obtain⟨b2,o2,y,rfl,cC,vE,OA⟩:=(Hrb.out.nT HBB.out wD.out).cellAt RQ;have Uw:=af vE;have Kd:=(aK b).at vE;clear vE;go_wp2_with fail
     refine (Kc x y r _ rk Kd ab).mono ?_;rintro e w2 ⟨⟨dd,rr,rfl,hdd,hrr,heq⟩,rfl⟩;have HEQ:=af heq;clear heq;go_wp2_with fail
     go_roundw
     case rel=>exact Gz.step ux HN.out Lw.out Ke.out HV.out vF.out wD.out (by simp[List.getD,Fu.out]) (by simp[List.getD,Uw.out]) hdd hrr HEQ.out
     case measure=>simp[intOf];omega
    ·have hy0:Hid ((limbs b).getD k 0=0):=by show _=_;rw[List.getD,vi (by rw[HMM.out];omega)];rfl
     go_wp2_with fail
     refine (Kc x 0 r _ rk ab ab).mono ?_;rintro e w2 ⟨⟨dd,rr,rfl,hdd,hrr,heq⟩,rfl⟩;have HEQ:=af heq;clear heq;go_wp2_with fail
     go_roundw
     case rel=>exact Gz.step ux HN.out Lw.out Ke.out HV.out vF.out wD.out (by simp[List.getD,Fu.out]) hy0.out hdd hrr HEQ.out
     case measure=>simp[intOf];omega
   ·obtain rfl:k=n':=by omega
    go_wp2_with fail
    have h2:=vF.out;rw[ly (iM HN.out),gA] at h2;refine (fo _ k qc ds _ (Rd.own h2) Ke.out).mono ?_;rintro e w2 ⟨⟨s,hs,rfl,hls⟩,rfl⟩;have HLS:=af hls;clear hls;go_wp2_with fail
    have hval:ay ds=a-b:=by
     have h1:=HV.out;rw[cZ (iM HN.out),cZ (by rw[HMM.out];exact hmn),aB,aB] at h1;have h3:=oe Ke.out;rw[Lw.out] at h3
     have:r=0:=by
      rcases rK r with h|h
      ·exact h
      ·have:r=1:=by omega
       subst this;omega
     subst this;omega
    refine di.out _ _ ⟨.inr ⟨ab,.slice qp s qc,aa,?_⟩,wD.out⟩;have h3:=Own.limbs h2 hs HLS.out;have e:(limbs (ay ds)).length=s:=by rw[HLS.out,cM,Lw.out];omega
    rw[hval] at h3 e;rw[e];exact h3
def mQ (w:World) (v:Value) (rows:List (List Nat)):Prop:=
 ∃ vs:List Value,Rd w 1 v rows.length vs/\∀ (i:Nat) (xs:List Nat),rows[i]? =some xs->∃ u,vs[i]? =some u/\Rd w 1 u xs.length (ints .u32 xs)
theorem mQ.below {v:Value} {rows:List (List Nat)} (h:mQ w v rows) (hb:Below w.heap.size w w'):mQ w' v rows:=by
 obtain⟨vs,h1,h2⟩:=h;refine⟨vs,h1.below hb,λi xs hi=> ?_⟩;obtain⟨u,hu,hr⟩:=h2 i xs hi;exact⟨u,hu,hr.below hb⟩
theorem mQ.at {n k:Nat} {rows:List (List Nat)} (h:mQ w (.slice p n c) rows) (hk:k<rows.length):
  ∃ b off u xs,p=some ⟨b,off,none⟩/\rows[k]? =some xs/\w.cell? ⟨b,off+k,none⟩=some u/\Rd w 1 u xs.length (ints .u32 xs):=by
 obtain⟨vs,⟨p',c',hv,_,_,h3,h4⟩,h2⟩:=h;simp only[Value.slice.injEq] at hv;obtain⟨rfl,rfl,rfl⟩:=hv;obtain⟨b,off,hp,hc⟩:=h4 ab;obtain⟨u,hu,hr⟩:=h2 k _ (ba hk);exact⟨b,off,u,_,hp,ba hk,hc k u hu,hr⟩
theorem mQ.form {v:Value} {rows:List (List Nat)} (h:mQ w v rows):∃ p c,v=.slice p rows.length c/\rows.length<=c/\c<=9223372036854775807:=by
 obtain⟨vs,h1,_⟩:=h;obtain⟨p,c,hv,h2,h3,_⟩:=h1.form;unfold maxLen at h3;exact⟨p,c,hv,h2,ab⟩
theorem yQ {q:Nat} (h:q<4294967296):(q:Int)%4294967296=q:=ab
theorem GA {n:Nat} (h:n<32):2^n<4294967296:=by
 have:=Nat.pow_lt_pow_right (show 1<2 by omega) h;omega
theorem Dh (x n:Nat) (hn:n<32):(limbs (x*2^n)).length<=(limbs x).length+1:=by
 apply pC;rw[iL];exact Nat.mul_lt_mul_of_lt_of_le (uz x) (Nat.le_of_lt (GA hn)) ab
set_option maxRecDepth 100000 in
theorem Za (va:Value) (m n x:Nat) (w:World) (hr:Rd w 1 va m (ints .u32 (limbs x))) (hm:m<=1073741824) (hn:n<32):
  Calls Tryz.prog 154 #[va,.int .i64 (n:Int)] w λe w'=>∃ v',e=.returned v'/\Rd w' 1 v' (limbs (x*2^n)).length (ints .u32 (limbs (x*2^n)))/\Below w.heap.size w w':=by
 obtain⟨p,c,rfl,il,iC,ib⟩:=hr.u32;have Hr:=af hr;have HX:=af ib;clear ib hr;by_cases h0:n=0
 ·subst h0;refine bG λR' di=> ?_;go_enter Tryz.func154,Tryz.ntmps154
  go_wp2
  refine di.out _ _ ⟨_,aa,?_,iP _ _⟩;have:=Hr.out;rw[Nat.pow_zero,yD,HX.out];exact this
 ·have hnb:((n:Int) == 0)=false:=by rw[iZ];omega
  refine bG λR' di=> ?_;go_enter Tryz.func154,Tryz.ntmps154
  have nw:=GA hn
  have hpe:(2:Int)^n%4294967296=((2^n:Nat):Int):=by
   have:(2:Int)^n=((2^n:Nat):Int):=bN;rw[this];exact yQ nw
  have HP:=af hpe;clear hpe;go_wp2_with fail
  rw[HP.out];refine (Ly _ m (2^n) (limbs x) _ Hr.out (aK x) hm nw).mono ?_;rintro e w1 ⟨v',rfl,aZ,hb⟩;rw[aB] at aZ;go_wp2
  exact di.out _ _ ⟨_,aa,Rd.own aZ,hb⟩
set_option maxRecDepth 100000 in
theorem Wt (va:Value) (m n:Nat) (xs:List Nat) (w:World) (hr:Rd w 1 va m (ints .u32 xs)) (hx:ez xs) (hm:m<=1073741824) (hn:n<32):
  Calls Tryz.prog 155 #[va,.int .i64 (n:Int)] w λe w'=>(∃ v' k rs,e=.returned v'/\k<=1073741824/\Rd w' 1 v' k (ints .u32 rs)/\ez rs/\ay rs=ay xs/2^n)/\Below w.heap.size w w':=by
 obtain⟨p,c,rfl,il,iC,ib⟩:=hr.u32;have Hr:=af hr;have HX:=af ib;have HL:=af hx;clear ib hr hx;by_cases h0:n=0
 ·subst h0;refine bG λR' di=> ?_;go_enter Tryz.func155,Tryz.ntmps155
  go_wp2
  exact di.out _ _ ⟨⟨_,m,xs,aa,hm,Hr.out,HL.out,by rw[Nat.pow_zero,Nat.div_one]⟩,iP _ _⟩
 ·have hnb:((n:Int) == 0)=false:=by rw[iZ];omega
  refine bG λR' di=> ?_;go_enter Tryz.func155,Tryz.ntmps155
  have nw:=GA hn;have gP:2^n≠0:=by have:=vB (n:=n) (show 0<2 by omega);omega
  have hpe:(2:Int)^n%4294967296=((2^n:Nat):Int):=by
   have:(2:Int)^n=((2^n:Nat):Int):=bN;rw[this];exact yQ nw
  have HP:=af hpe;have HPP:=af gP;clear hpe gP;go_wp2_with fail
  rw[HP.out];refine (Au _ m (2^n) xs _ Hr.out HL.out hm nw).mono ?_;rintro e w1 ⟨⟨h,_⟩|⟨_,v',rfl,aZ⟩,hb⟩
  ·exact absurd h HPP.out
  ·have HO:=af aZ;have hlen:(limbs (ay xs/2^n)).length<=m:=bj (eJ (Oq _ _)) (by rw[<-HX.out];exact mO HL.out);clear aZ;go_wp2
   exact di.out _ _ ⟨⟨_,_,_,aa,bj hlen hm,Rd.own HO.out,aK _,aB _⟩,hb⟩
set_option maxRecDepth 100000 in
theorem Zc (n:Nat) (w:World) (hn:n<=2147483648):
  Calls Tryz.prog 156 #[.slice none 0 0,.int .i64 (n:Int)] w λe w'=>∃ v',e=.returned v'/\w'.ownsRow w.heap.size 117 1 v' 0 []/\Below w.heap.size w w':=by
 by_cases h0:n=0
 ·subst h0;refine bG λR' di=> ?_;go_enter Tryz.func156,Tryz.ntmps156
  go_wp2
  exact di.out _ _ ⟨_,aa,qF _ _ _ _,iP _ _⟩
 ·obtain⟨i0,hi,pX,lD,uw⟩:=info_parts og;obtain⟨C,hC⟩:∃ C,C=grownCap w n 0 117:=⟨_,aa⟩;have HC:=af hC;have hap0:=Lib.run_append_nil_zeros (P:=Tryz.prog) w 22 3 22 117 i0 (.int .u32 0) .i64 .i64 rL Tryz.underlying3 hi pX n ab ab ab (by rw[uw];omega);rw[<-hC] at hap0;have HAP:=af hap0;have hCn:n<=C:=by rw[hC];exact grownCap_ge w n 0 _
  have hCm:C<=9223372036854775807:=by
   have:=grownCap_le_maxLen w n 0 117 (by unfold maxLen;omega);unfold maxLen at this;omega
  have rn:0<n:=ab;clear hC h0 hap0;refine bG λR' di=> ?_;go_enter Tryz.func156,Tryz.ntmps156
  go_wp2_with (at_builtin;refine wpList_append_run aa _ _ 22 3 aa _ _ aa aa _ _ HAP.out ?_)
  refine di.out _ _ ⟨_,aa,?_,?_⟩
  ·exact World.ownsRow_made w.drew _ C (bL _) (by unfold maxLen;omega) (by rw[Array.size_append,size_zeroCells,size_zeroCells];show n*1+(C-n)*1=C*1;omega)
  ·exact (Below.drew (iP _ _)).alloc (bL _) _
def flat (rows:List (List Nat)):List Nat:=rows.flatten
theorem BS (rows:List (List Nat)) (xs:List Nat):flat (rows++[xs])=flat rows++xs:=by simp[flat]
theorem uA (rows:List (List Nat)) (k:Nat):(flat (rows.take k)).length<=(flat rows).length:=by
 conv=>rhs;rw[<-qB k rows]
 simp only[flat,List.flatten_append,List.length_append];omega
def CatA (rows:List (List Nat)) (sv iv:Value):Prop:=∃ k,k<=rows.length/\iv=.int .i64 (k:Int)/\sv=.int .i64 ((flat (rows.take k)).length:Int)
def CatB (w:World) (B:Nat) (rows:List (List Nat)) (ov iv:Value) (wr:World):Prop:=
 ∃ k,k<=rows.length/\iv=.int .i64 (k:Int)/\wr.ownsRow B 117 1 ov (flat (rows.take k)).length (ints .u32 (flat (rows.take k)))/\Below B w wr
set_option maxRecDepth 100000 in
theorem RS (va:Value) (rows:List (List Nat)) (w:World) (hr:mQ w va rows) (hn:(flat rows).length<=2147483648):
  Calls Tryz.prog 153 #[va] w λe w'=>∃ v',e=.returned v'/\w'.ownsRow w.heap.size 117 1 v' (flat rows).length (ints .u32 (flat rows))/\Below w.heap.size w w':=by
 obtain⟨p,c,rfl,il,iC⟩:=hr.form;have Hr:=af hr;obtain⟨i0,hi,pX,lD,uw⟩:=info_parts og;obtain⟨B,hB⟩:∃ B,B=w.heap.size:=⟨_,aa⟩;have HB:=af hB;obtain⟨N,hN⟩:∃ N,N=rows.length:=⟨_,aa⟩;rw[<-hN] at il ⊢;have HN:=af hN;rw[<-hB];clear hr hB hN;refine bG λR' di=> ?_;go_enter Tryz.func153,Tryz.ntmps153
 go_wp2
 go_loop [3,11] (λsv iv=>CatA rows sv iv) (λ_ iv=>N-(intOf iv).toNat)
 case atStart=>exact⟨0,fH _,aa,by simp[flat]⟩
 case round=>
  obtain⟨k,hk,rfl,rfl⟩:=hrel;rw[<-HN.out] at hk;have BN:=uA rows k;by_cases ux:k<N
  ·obtain⟨b1,o1,u,xs,rfl,kF,yi,RT⟩:=Hr.out.at (k:=k) (by rw[<-HN.out];exact ux);obtain⟨q,d,rfl,_,_,_⟩:=RT.u32;have hfs:(flat (rows.take (k+1))).length=(flat (rows.take k)).length+xs.length:=by rw[dk kF,BS,bB]
   have lS:=uA rows (k+1);have HFS:=af hfs;rw[hfs] at lS;clear kF RT hfs;generalize (flat (rows.take k)).length=L at*;go_wp2
   go_round
   case rel=>exact⟨k+1,by rw[<-HN.out];omega,by go_num,by rw[HFS.out];go_num⟩
   case measure=>simp[intOf];omega
  ·obtain rfl:k=N:=by omega
   have hL:Hid (flat (rows.take k)=flat rows):=by show _=_;rw[dP (by rw[HN.out];exact bL _)]
   rw[hL.out];rw[hL.out] at BN;generalize Wu:(flat rows).length=L at hn BN;have HLL:=af Wu;rw[Wu] at di;clear Wu;go_wp2_with fail
   refine (Zc L _ ab).mono ?_;rintro e w1 ⟨ov,rfl,aZ,hb⟩;rw[<-HB.out] at aZ hb;have HO:=af aZ;have lM:=af hb;clear aZ hb;go_wp2_with fail
   go_loopw [6,27] (λov iv wr=>CatB w B rows ov iv wr) (λ_ iv _=>k-(intOf iv).toNat)
   case atStart=>exact⟨0,fH _,aa,by simpa [flat,ints] using HO.out,lM.out⟩
   case round=>
    obtain⟨j,hj,rfl,aZ,hb⟩:=hrel;have vF:=af aZ;have wD:=af hb;rw[<-HN.out] at hj;clear aZ hb;by_cases hjn:j<k
    ·obtain⟨b1,o1,u,xs,rfl,kF,yi,RT⟩:=((Hr.out.below (by have:=wD.out;rwa [HB.out] at this)).at (k:=j) (by rw[<-HN.out];exact hjn));have hfs:(flat (rows.take (j+1))).length=(flat (rows.take j)).length+xs.length:=by rw[dk kF,BS,bB]
     have lS:=uA rows (j+1);have HFS:=af hfs;have hsz:(flat (rows.take j)).length+xs.length<=2147483648:=by have:=HLL.out;omega
     have Fu:=af kF;have HRU:=af RT;have Ft:B<=wr.heap.size:=by have:=wD.out.size;have:=HB.out;omega
     clear kF RT hfs lS;go_wp2_with (at_builtin;refine nW _ aa _ _ 22 aa B 117 i0 (.int .u32 0) 1 4 rL hi pX lD uw aa bq _ _ _ aa vF.out _ xs.length _ aa HRU.out (tq _ _) (by unfold maxLen;omega) ab Ft ?_;intro v' w2 qL hgr2)
     have Zd:Hid (w2.ownsRow B 117 1 v' (flat (rows.take (j+1))).length (ints .u32 (flat (rows.take (j+1))))):=by
      show World.ownsRow ..;rw[HFS.out,dk Fu.out,BS,me];exact qL
     have Yl:Hid (Below B w w2):=Below.YS wD.out hgr2 vF.out Ft (bL _);clear qL hgr2;go_wp2_with fail
     go_roundw
     case rel=>exact⟨j+1,by rw[<-HN.out];omega,by go_num,Zd.out,Yl.out⟩
     case measure=>simp[intOf];omega
    ·obtain rfl:j=k:=by omega
     go_wp2_with fail
     refine di.out _ _ ⟨_,aa,?_,wD.out⟩;have:=vF.out;rw[hL.out,HLL.out] at this;exact this
theorem mQ.two {v:Value} {t:Nat} {fr:Nat×Nat} (h:w.heap[g]? =some (.cells #[u,v] t fr)) (hx:Rd w 1 u xs.length (ints .u32 xs)) (hy:Rd w 1 v ys.length (ints .u32 ys)):
  mQ w (.slice (some ⟨g,0,none⟩) 2 2) [xs,ys]:=by
 refine⟨[u,v],⟨_,2,aa,bL _,by simp[maxLen],rfl,λ_=>⟨g,0,rfl,λj z hj=> ?_⟩⟩,λi zs hi=> ?_⟩
 ·match j,hj with
  | 0,hj=>simp at hj;subst hj;simp[World.cell?,h]
  | 1,hj=>simp at hj;subst hj;simp[World.cell?,h]
 ·match i,hi with
  | 0,hi=>simp at hi;subst hi;exact⟨u,aa,hx⟩
  | 1,hi=>simp at hi;subst hi;exact⟨v,aa,hy⟩
theorem Uy {o:Obj} {k:Nat} (h:k=w.heap.size):(w.alloc o).heap[k]? =some o:=by subst h;exact heap_alloc_new w o
variable {z:Obj} {w2 w3:World}
theorem ordA {o:Obj} (cC:Below (w.alloc z).drew.heap.size (w.alloc z).drew w2) (dZ:Below (w2.alloc o).heap.size (w2.alloc o) w3):Below w.heap.size w w3/\w.heap.size<=(w2.alloc o).heap.size:=by
 have h1:=cC.size;simp at h1;have h0:Below w.heap.size w (w.alloc z).drew:=((iP w.heap.size w).alloc (bL _) z).drew;have h2:Below w.heap.size w w2:=h0.trans (cC.mono bN);exact⟨(h2.alloc ab o).trans (dZ.mono (by simp;omega)),by simp;omega⟩
theorem ordB {o:Obj} (cC:Below w.drew.heap.size w.drew w2) (dZ:Below ((w2.alloc z).alloc o).heap.size ((w2.alloc z).alloc o) w3):Below w.heap.size w w3/\w.heap.size<=((w2.alloc z).alloc o).heap.size:=by
 have h1:=cC.size;simp at h1;have h2:Below w.heap.size w w2:=(iP w.heap.size w).drew.trans cC;exact⟨((h2.alloc ab z).alloc (by simp;omega) o).trans (dZ.mono (by simp;omega)),by simp;omega⟩
theorem Av (w:World) (q:Nat) (h:q<=9223372036854775807):Rd (w.alloc (.cells (madeCells #[Value.int .u32 0] q) 117)) 1 (.slice (some ⟨w.heap.size,0,none⟩) q q) (List.replicate q 0).length (ints .u32 (List.replicate q 0)):=by
 have h1:=World.ownsRow_lit (base:=0) (size:=1) (e:=117) w (madeCells (Value.int .u32 0).cells (q*1)) q (fH _) (by unfold maxLen;omega) (size_madeCells _ _);have h2:=Rd.own (Own.made h1);rw[Ud];rw[yD,ma] at h2;exact h2
set_option maxRecDepth 100000 in
theorem RU (p:Option Addr) (m c n x:Nat) (xs:List Nat) (w:World) (hr:Rd w 1 (.slice p m c) m (ints .u32 xs)) (hx:ez xs) (hv:ay xs=x) (hm:m<=1073741824) (my:x≠0) (hn:n<=65536):
  Calls Tryz.prog 145 #[.slice p m c,.int .i64 (n:Int)] w λe w'=>∃ v',e=.returned (.tuple #[v',.int .i64 0])/\w'.ownsRow w.heap.size 117 1 v' (limbs (x*2^n)).length (ints .u32 (limbs (x*2^n)))/\Below w.heap.size w w':=by
 obtain⟨p',c',hv',il,iC,ib⟩:=hr.u32;simp only[Value.slice.injEq,true_and] at hv';obtain⟨rfl,rfl⟩:=hv';have Hr:=af hr;have HX:=af ib;have HL:=af hx;have HV:=af hv;obtain⟨i0,hi,pX,lD,uw⟩:=info_parts og
 have hmk:∀ W:World,(Instr.makeSlice 22 (.int .i64 ((n:Int)/32)) (.int .i64 ((n:Int)/32))).run Tryz.prog W=.ok (.slice (some ⟨W.heap.size,0,none⟩) (n/32) (n/32)) (W.alloc (.cells (madeCells (Value.int .u32 0).cells (n/32*1)) 117)):=λW=>by
  have:=run_make (P:=Tryz.prog) W 22 117 i0 (.int .u32 0) rL hi pX .i64 .i64 ((n:Int)/32) ((n:Int)/32) ab (Int.le_refl _) (by rw[uw];omega) ab;rw[lD,show ((n:Int)/32).toNat=n/32 by omega] at this;exact this
 clear ib hr hx hv hi pX lD uw;refine bG λR' di=> ?_;go_enter Tryz.func145,Tryz.ntmps145
 go_wp2_with fail
 refine (fo p m c xs _ Hr.out HL.out).mono ?_;rintro e w1 ⟨⟨r,hrm,rfl,Gx⟩,rfl⟩
 have yO:Hid ((limbs x).length=r):=by
  show _=_;rw[<-HV.out,Gx,cM,HX.out];omega
 have Dg:=Hr.out.limbs hrm Gx;rw[HV.out] at Dg;have HRD:=af Dg;clear Gx Dg;have Gt:0<r:=by rw[<-yO.out];exact fN my
 have Kh:∀ W:World,Rd W 1 (.slice p r c) r (ints .u32 (limbs x))->Calls Tryz.prog 154 #[.slice p r c,.int .i64 ((n:Int)%32)] W λe w'=>∃ v',e=.returned v'/\Rd w' 1 v' (limbs (x*2^(n%32))).length (ints .u32 (limbs (x*2^(n%32))))/\Below W.heap.size W w':=λW h=>by
  have:=Za (.slice p r c) r (n%32) x W h ab (gC _ ab)
  rwa [show ((n%32:Nat):Int)=(n:Int)%32 by omega] at this
 have HLEFT:=af Kh;clear Kh
 have BN:(flat [List.replicate (n/32) 0,limbs (x*2^(n%32))])=limbs (x*2^n):=by
  have h1:=Ox (x:=x*2^(n%32)) (n/32) (Nat.mul_ne_zero my (by have:=vB (n:=n%32) (show 0<2 by omega);omega));simp only[flat,List.flatten_cons,List.flatten_nil,List.append_nil];rw[h1,gB,Ov,<-oB,Ad]
 have hfn:(flat [List.replicate (n/32) 0,limbs (x*2^(n%32))]).length<=2147483648:=by
  simp only[flat,List.flatten_cons,List.flatten_nil,List.append_nil,List.length_append,List.length_replicate];have:=Dh x (n%32) (gC _ ab);rw[yO.out] at this;omega
 have HFL:=af BN;have HFN:=af hfn;clear BN hfn my;go_wp2_with fail
 have xH:IntKind.i64.wrap ((n:Int)/32)=(n:Int)/32:=cV _ ab;have Ym:(n:Int).tmod 32=(n:Int)%32:=Oh ab
 go_region_with (first
  | (go_at_call 154;refine (HLEFT.out _ (by first|exact HRD.out|exact Rd.alloc (Rd.drew HRD.out) _)).mono ?_;rintro e w2 ⟨v2,rfl,hrd2,cC⟩;obtain⟨p2,c2,rfl,_,_,_⟩:=hrd2.form)
  | (go_at_call 153;refine (RS _ [List.replicate (n/32) 0,limbs (x*2^(n%32))] _ (by first|exact mQ.two (heap_alloc_new _ _) (Rd.alloc (Rd.below (Rd.drew (Av _ _ ab)) cC) _) (Rd.alloc hrd2 _)|exact mQ.two (Uy bN) (Rd.alloc (Av _ _ ab) _) (Rd.alloc (Rd.alloc hrd2 _) _)) HFN.out).mono ?_;rintro e w3 ⟨v3,rfl,Ze,dZ⟩))
 all_goals
  go_wp2
  go_ret2
  refine di.out _ _ ⟨v3,aa,?_,?_⟩
  ·rw[HFL.out] at Ze;first|exact Own.mono Ze (ordA cC dZ).2|exact Own.mono Ze (ordB cC dZ).2
  ·first|exact (ordA cC dZ).1|exact (ordB cC dZ).1
theorem BU {k:Nat} (h:(limbs x).length<=m) (hk:32*m<=k):x/2^k=0:=by
 apply CW;have h1:=uz x;have h2:=vm (show 0<4294967296 by omega) h;rw[Ov] at h1 h2;have h3:=vm (show 0<2 by omega) hk;rw[Ov] at h2;omega
set_option maxRecDepth 100000 in
theorem BV (va:Value) (m x:Nat) (n:Int) (xs:List Nat) (w:World) (hr:Rd w 1 va m (ints .u32 xs)) (hx:ez xs) (hv:ay xs=x) (hm:m<=1073741824) (rn: -9223372036854775808<=n) (xI:n<=9223372036854775807):
  Calls Tryz.prog 145 #[va,.int .i64 n] w λe w'=>((x≠0/\65536<n/\e=.returned (.tuple #[.slice none 0 0,.int .i64 3]))\/
   (¬ (x≠0/\65536<n)/\∃ v',e=.returned (.tuple #[v',.int .i64 0])/\w'.ownsRow w.heap.size 117 1 v' (limbs (kY x n)).length (ints .u32 (limbs (kY x n)))))/\Below w.heap.size w w':=by
 obtain⟨p,c,rfl,il,iC,ib⟩:=hr.u32;have Hr:=af hr;have HX:=af ib;have HL:=af hx;have HV:=af hv;clear ib hr hx hv;by_cases tp:x≠0/\0<=n/\n<=65536
 ·obtain⟨my,h0,h1⟩:=tp;obtain⟨k,rfl⟩:=Int.eq_ofNat_of_zero_le h0;refine (RU p m c k x xs w Hr.out HL.out HV.out hm my ab).mono ?_;rintro e w' ⟨v',rfl,aZ,hb⟩;refine⟨.inr ⟨ab,v',aa,?_⟩,hb⟩;have:kY x (k:Int)=x*2^k:=by simp[kY]
  rw[this];exact aZ
 ·refine bG λR' di=> ?_;go_enter Tryz.func145,Tryz.ntmps145
  go_wp2_with fail
  refine (fo p m c xs _ Hr.out HL.out).mono ?_;rintro e w1 ⟨⟨r,hrm,rfl,Gx⟩,rfl⟩
  have yO:(limbs x).length=r:=by
   rw[<-HV.out,Gx,cM,HX.out];omega
  have Dg:=Hr.out.limbs hrm Gx;rw[HV.out] at Dg;have HRD:=af Dg;have Zf:=af yO;clear Gx Dg;by_cases my:x=0
  ·have Gt:r=0:=by rw[<-yO,my,dy];rfl
   have HX0:=af my;have Wq:((r:Int) == 0)=true:=by rw[beq_iff_eq];omega
   clear my Gt yO tp;go_wp2_with fail
   refine di.out _ _ ⟨.inr ⟨λh=>h.1 HX0.out,.slice none 0 0,aa,?_⟩,iP _ _⟩;have:kY x n=0:=by simp[kY,HX0.out]
   rw[this,dy];exact qF _ _ _ _
  ·have Gt:0<r:=by rw[<-yO];exact fN my
   have Wq:((r:Int) == 0)=false:=by rw[iZ];omega
   clear yO;by_cases hbig:65536<n
   ·go_wp2_with fail
    exact di.out _ _ ⟨.inl ⟨my,hbig,aa⟩,iP _ _⟩
   ·have hneg:n<0:=by
     by_cases h:n<0
     ·exact h
     ·exact absurd ⟨my,ab,ab⟩ tp
    clear tp;have HX0:=af my;clear my;have hmul:IntKind.i64.wrap (-32*(r:Int))= -32*(r:Int):=cV _ ab;by_cases gJ:n<=-32*(r:Int)
    ·go_wp2_with fail
     refine di.out _ _ ⟨.inr ⟨λh=>ab,.slice none 0 0,aa,?_⟩,iP _ _⟩
     have:kY x n=0:=by
      unfold kY;rw[if_neg ab];exact BU (m:=r) (by rw[Zf.out];exact bL _) ab
     rw[this,dy];exact qF _ _ _ _
    ·obtain⟨k,rfl⟩:∃ k:Nat,n= -(k:Int):=⟨(-n).toNat,ab⟩;obtain⟨b,off,y,rfl,_,_,_⟩:=HRD.out.cellAt (k:=0) Gt;have hkr:k/32<r:=ab;have hneq:¬ (c=k/32):=ab;have Di:0<k:=ab
     have OB:Rd w 1 (.slice (some ⟨b,off+k/32,none⟩) (r-k/32) (c-k/32)) (r-k/32) (ints .u32 ((limbs x).drop (k/32))):=by
      obtain⟨p',c',hv',h1,h2,h3,h4⟩:=HRD.out;simp only[Value.slice.injEq,true_and] at hv';obtain⟨rfl,rfl⟩:=hv';refine⟨_,_,aa,ab,by unfold maxLen at h2 ⊢;omega,by rw[De,rM,Zf.out];omega,λ_=>⟨b,off+k/32,rfl,λj u hj=> ?_⟩⟩;obtain⟨b',bE,hp,hc⟩:=h4 ab;simp only[Option.some.injEq,Addr.mk.injEq,and_true] at hp;obtain⟨rfl,rfl⟩:=hp;rw[<-Wj,tf] at hj;have:=hc _ _ hj
      rwa [<-yB] at this
     have HDR:=af OB;clear OB;have hq1:0<=(k:Int)/32:=ab;have Fv:(k:Int)/32<(r:Int):=ab;go_wp2_with fail
     rw[show (k:Int)%32=((k%32:Nat):Int) by omega];refine (Wt _ _ (k%32) _ _ HDR.out ((aK x).drop _) ab (gC _ ab)).mono ?_;rintro e w1 ⟨⟨v1,m1,rs,rfl,hm1,hrd1,Jh,Nu⟩,bA⟩;obtain⟨p1,c1,rfl,_,_,uy⟩:=hrd1.u32;have HR1:=af hrd1;have HV1:=af Nu;have HRL:=af uy;clear hrd1 Nu uy;go_wp2_with fail
     refine (fo p1 m1 c1 rs _ HR1.out Jh).mono ?_;rintro e w2 ⟨⟨r2,nC,rfl,hlr2⟩,rfl⟩;have hml2:Hid ((limbs (ay rs)).length=r2):=by show _=_;rw[hlr2,cM,HRL.out];omega
     have HR2:=af (HR1.out.limbs nC hlr2);clear hlr2;go_wp2_with fail
     refine (nX _ r2 _ _ HR2.out ab).mono ?_;rintro e w2 ⟨v2,rfl,aZ,cC⟩
     have hval:kY x (-(k:Int))=ay rs:=by
      unfold kY;rw[if_neg ab,HV1.out,Ee x (k/32) (by rw[Zf.out];omega),Nat.div_div_eq_div_mul,Ov,<-oB,JQ];simp
     go_wp2_with fail
     refine di.out _ _ ⟨.inr ⟨λh=>ab,v2,aa,?_⟩,bA.trans (cC.mono bA.size)⟩;rw[hval,hml2.out];exact Own.mono aZ bA.size
end
section
theorem OC {xs:List Nat} {j o v:Nat} (h:xs[j]? =some o):ay (xs.set j v)+4294967296^j*o=ay xs+4294967296^j*v:=by
 obtain⟨hl,he⟩:=cQ.1 h;have h1:xs=xs.take j++o::xs.drop (j+1):=by rw[<-he,<-mG hl,qB]
 have h2:xs.set j v=xs.take j++v::xs.drop (j+1):=by
  conv=>lhs;rw[h1]
  rw[zZ _ _ (by rw[cM];omega)];rw[cM,ig ab,rR];rfl
 have e1:ay xs=ay (xs.take j)+4294967296^j*(o+4294967296*ay (xs.drop (j+1))):=by
  conv=>lhs;rw[h1]
  rw[ik,cM,ig ab,jD]
 have e2:ay (xs.set j v)=ay (xs.take j)+4294967296^j*(v+4294967296*ay (xs.drop (j+1))):=by
  rw[h2,ik,cM,ig ab,jD]
 rw[e1,e2,du,du];omega
theorem ez.set {xs:List Nat} (h:ez xs) {v:Nat} (hv:v<4294967296) (j:Nat):ez (xs.set j v):=λy hy=>by
 rcases yv hy with h1|h1
 ·exact h y h1
 ·rw[h1];exact hv
theorem GB (k:Nat):ay (List.replicate k 0)=0:=lR _ k
theorem GC {xs:List Nat} (k:Nat) (hk:k<=xs.length):ay xs=ay (xs.take k)+4294967296^k*ay (xs.drop k):=od _ xs k hk
theorem yR {xs:List Nat} {k x:Nat} (h:xs[k]? =some x):ay (xs.drop k)=x+4294967296*ay (xs.drop (k+1)):=yM h
theorem OD {os:List Nat} {i k x y o c s S Y:Nat} (ho:os[i+k]? =some o) (hs:s=x*y+o+c) (h:ay os+4294967296^(i+k)*c=S+4294967296^i*(x*Y)):
  ay (os.set (i+k) (s%4294967296))+4294967296^(i+(k+1))*(s/4294967296)=S+4294967296^i*(x*(Y+4294967296^k*y)):=by
 have h1:=OC (v:=s%4294967296) ho;have h2:4294967296^(i+(k+1))=4294967296^(i+k)*4294967296:=by rw[<-yB,iL]
 have h3:4294967296^(i+k)*s=4294967296^(i+k)*(s%4294967296)+4294967296^(i+k)*4294967296*(s/4294967296):=by
  rw[gB,<-du,Ad]
 have h4:4294967296^(i+k)*s=4294967296^(i+k)*(x*y)+4294967296^(i+k)*o+4294967296^(i+k)*c:=by rw[hs,du,du]
 have h5:4294967296^i*(x*(Y+4294967296^k*y))=4294967296^i*(x*Y)+4294967296^(i+k)*(x*y):=by
  rw[du,du,oB]
  congr 1
  rw[JO x,gB]
 rw[h2,h5];omega
theorem Aw {x y o c:Nat} (hx:x<4294967296) (hy:y<4294967296) (ho:o<4294967296) (hc:c<4294967296):x*y+o+c<18446744073709551616:=by
 have h1:x*y<=4294967295*4294967295:=vx ab ab;omega
def lT (U V:Nat):Nat:=min 4294967295 (U/V)
theorem OE {U V:Nat}:lT U V*V<=U:=bj (pK _ (Nat.min_le_right _ _)) (Ol U V)
theorem Ki {U V t:Nat} (hV:0<V) (ht:t<=4294967295) (h:t*V<=U):t<=lT U V:=by
 unfold lT;rw[Nat.le_min];exact⟨ht,(JI hV).2 h⟩
theorem RV {p U V u b lu lb:Nat} (hp:0<p) (hu:u=U*p+lu) (hlu:lu<p) (hb:b=V*p+lb) (Rn:lb<p) (hV:4294967296<=V) (Yn:u<4294967296*b):
  u/b<=lT U V/\lT U V<=u/b+1:=by
 have hV0:0<V:=ab;have yj:0<b:=by have:0<V*p:=CZ hV0 hp;omega
 constructor
 ·refine Ki hV0 ?_ ?_
  ·have:u/b<4294967296:=by rw[Oj yj];exact Yn
   omega
  ·have h1:u/b*b<=u:=Ol u b
   have h2:u/b*V*p<=U*p+lu:=by
    rw[hb] at h1;rw[hu,du,<-gB] at h1;rw[<-hb,<-hu] at h1;have:u/b*V*p<=u:=ab;omega
   rcases vA U (u/b*V) with h|h
   ·have h3:(U+1)*p<=u/b*V*p:=pK _ h;rw[fG] at h3;omega
   ·exact h
 ·have hg:=@OE U V;have hgB:lT U V<=4294967295:=Nat.min_le_left _ _;generalize lT U V=q at hg hgB;have h1:q*V*p<=U*p:=pK _ hg;have h2:q*lb<=4294967295*lb:=pK _ hgB;have h3:q*b=q*V*p+q*lb:=by rw[hb,du,<-gB]
  have h4:4294967296*p<=V*p:=pK _ hV;have h5:q*b<u+b:=ab
  have h6:q<u/b+2:=by
   have h7:u<(u/b+1)*b:=by rw[fG];have e1:=JQ u b;have e2:=gC u yj;rw[jb] at e1;omega
   have h8:q*b<(u/b+2)*b:=by rw[fG];rw[fG] at h7;omega
   exact YK h8
  omega
theorem RX {B p a y q c r x vY X Y D:Nat} (h:D+q*Y=X+p*(c+r)) (hx:a+B*vY=x+(q*y+c)%B+r):
  (D+p*x)+q*(Y+p*y)=(X+p*a)+p*B*((q*y+c)/B+vY):=by
 have h1:=Ad (q*y+c) B;have h2:p*(a+B*vY)=p*x+p*((q*y+c)%B)+p*r:=by rw[hx,du,du]
 have h3:p*((q*y+c)%B)+p*(B*((q*y+c)/B))=p*(q*y)+p*c:=by rw[<-du,h1,du]
 have h4:q*(Y+p*y)=q*Y+p*(q*y):=by rw[du,JO]
 have h5:p*B*((q*y+c)/B+vY)=p*(B*((q*y+c)/B))+p*(B*vY):=by rw[gB,du,du]
 rw[du] at h2 h;rw[h4,h5];omega
end
section
open Go.RowKit
theorem tab_fin:∀ i:Fin 256,(Lib.len8tab[i.val]'(by have:=i.2;have:Lib.len8tab.size=256:=by decide+kernel
                                                    omega)).toNat=mz i.val:=by decide+kernel
theorem OG:Lib.len8tab.size=256:=by decide+kernel
theorem tab_at (i:Nat) (h:i<Lib.len8tab.size):(Lib.len8tab[i]'h).toNat=mz i:=tab_fin ⟨i,by rw[OG] at h;exact h⟩
theorem GD {t k:Nat} (h:2^k<=t):mz t=k+mz (t/2^k):=by
 have hp:0<2^k:=vB ab
 have hq:t/2^k≠0:=by
  have:=(JI hp).2 (show 1*2^k<=t by omega);omega
 have h1:=Fo (t/2^k);have h2:=Fp hq;have h0:=Ao hq;refine Ut ?_ (.inr ?_)
 ·rw[oB,jb];exact (Oj hp).1 h1
 ·rw[show k+mz (t/2^k)-1=(mz (t/2^k)-1)+k by omega,oB];exact (JI hp).1 h2
theorem uB {i:Nat} (h:i<256):mz i<=8:=yL (k:=8) h
set_option maxRecDepth 100000 in
theorem Wv (x:Int) (w:World) (h0:0<=x) (h1:x<=4294967295):
  Calls Tryz.prog 152 #[.int .u32 x] w λe w'=>e=.returned (.int .i64 (mz x.toNat:Int))/\w=w':=by
 have hsz:(Lib.len8tab.size:Int)=256:=by rw[OG];rfl
 refine bG λR' di=> ?_;go_enter Tryz.func152,Tryz.ntmps152
 go_wp2
 all_goals
  refine di.out _ _ ⟨tr ?_,aa⟩;simp only[tab_at,wrap64]
 all_goals first
  | (have e:=GD (t:=x.toNat) (k:=24) ab
     have b:=uB (i:=x.toNat/2^24) ab;rw[show (x/65536/256).toNat=x.toNat/2^24 by omega];omega)
  | (have e:=GD (t:=x.toNat) (k:=16) ab
     have b:=uB (i:=x.toNat/2^16) ab;rw[show (x/65536).toNat=x.toNat/2^16 by omega];omega)
  | (have e:=GD (t:=x.toNat) (k:=8) ab
     have b:=uB (i:=x.toNat/2^8) ab;rw[show (x/256).toNat=x.toNat/2^8 by omega];omega)
  | (have b:=uB (i:=x.toNat) ab
     omega)
theorem Ww (t:Nat) (w:World) (h1:t<4294967296):
  Calls Tryz.prog 152 #[.int .u32 (t:Int)] w λe w'=>e=.returned (.int .i64 (mz t:Int))/\w=w':=by
 have h:=Wv (t:Int) w ab ab
 rwa [dC] at h
theorem OH (t:Nat) (w:World) (ht:t<4294967296) (h0:t≠0):
  Calls Tryz.prog 144 #[.int .u32 (t:Int)] w λe w'=>(∃ u:Nat,e=.returned (.int .i64 (u:Int))/\u<32/\t*2^u<4294967296)/\w=w':=by
 have hs:=Fo t;have hb:mz t<=32:=yL (k:=32) ht;have yj:=Ao h0;refine bG λR' di=> ?_;go_enter Tryz.func144,Tryz.ntmps144
 go_wp2_with fail
 refine (Ww t _ ht).mono ?_;rintro e w1 ⟨rfl,rfl⟩;generalize mz t=L at*;go_wp2_with fail
 refine di.out _ _ ⟨⟨32-L,tr ab,ab,?_⟩,aa⟩;have h1:t*2^(32-L)<2^L*2^(32-L):=YI hs (vB ab);rw[<-oB,show L+(32-L)=32 by omega] at h1;exact h1
def GF (w:World) (B n m:Nat) (xs ys:List Nat) (v iv:Value) (wr:World):Prop:=
 ∃ (i:Nat) (os:List Nat),i<=n/\iv=.int .i64 (i:Int)/\os.length=n+m/\ez os/\(∀ j,i+m<=j->∀ x,os[j]? =some x->x=0)/\ay os=ay (xs.take i)*ay ys/\
   wr.ownsRow B 117 1 v (n+m) (ints .u32 os)/\Below B w wr
def OI (w:World) (B n m i S x:Nat) (ys:List Nat) (v cv kv:Value) (wr:World):Prop:=
 ∃ (k c:Nat) (os:List Nat),k<=m/\kv=.int .i64 (k:Int)/\cv=.int .u64 (c:Int)/\c<4294967296/\os.length=n+m/\ez os/\(∀ j,i+m<=j->∀ x,os[j]? =some x->x=0)/\
   ay os+4294967296^(i+k)*c=S+4294967296^i*(x*ay (ys.take k))/\wr.ownsRow B 117 1 v (n+m) (ints .u32 os)/\Below B w wr
theorem Zg {os:List Nat} {i m j v:Nat} (h:∀ j,i+m<=j->∀ x,os[j]? =some x->x=0) (hj:j<i+m):∀ l,i+m<=l->∀ x,(os.set j v)[l]? =some x->x=0:=λl hl x hx=>by
 rw[Ug ab] at hx;exact h l hl x hx
theorem OI.step {w wr:World} {B n m i S x y o k c g cap:Nat} {ys os:List Nat} {q r:Int} (hk:k<m) (_:i<n) (hl:os.length=n+m) (GG:ez os) (hz:∀ j,i+m<=j->∀ x,os[j]? =some x->x=0)
  (hv:ay os+4294967296^(i+k)*c=S+4294967296^i*(x*ay (ys.take k))) (aZ:wr.ownsRow B 117 1 (.slice (some ⟨g,0,none⟩) (n+m) cap) (n+m) (ints .u32 os)) (hb:Below B w wr)
  (hy:ys[k]? =some y) (ho:os[i+k]? =some o) (rk:x<4294967296) (Kd:y<4294967296) (Ax:c<4294967296) (hq:q=(((x*y+o+c)%4294967296:Nat):Int)) (hr:r=(((x*y+o+c)/4294967296:Nat):Int)):
  OI w B n m i S x ys (.slice (some ⟨g,0,none⟩) (n+m) cap) (.int .u64 r) (.int .i64 ((k:Int)+1)) (wr.setCell ⟨g,i+k,none⟩ (.int .u32 q)):=by
 subst hq;subst hr;have ho4:=GG.at ho;have hs:=Aw rk Kd ho4 Ax;refine⟨k+1,(x*y+o+c)/4294967296,os.set (i+k) ((x*y+o+c)%4294967296),ab,aa,aa,ab,by simp[hl],GG.set (gC _ ab) _,Zg hz ab,?_,Own.kE aZ,hb.setCell (Own.lt aZ).1 _⟩;have h1:ay (ys.take (k+1))=ay (ys.take k)+4294967296^k*y:=by rw[cj,List.getD,hy];rfl
 rw[h1];exact OD ho aa hv
theorem GF.step {w wr:World} {B n m i x c g cap:Nat} {xs ys os:List Nat} {q:Int} (hi:i<n) (hl:os.length=n+m) (GG:ez os) (hz:∀ j,i+m<=j->∀ x,os[j]? =some x->x=0) (hm:ys.length=m)
  (hv:ay os+4294967296^(i+m)*c=ay (xs.take i)*ay ys+4294967296^i*(x*ay (ys.take m))) (aZ:wr.ownsRow B 117 1 (.slice (some ⟨g,0,none⟩) (n+m) cap) (n+m) (ints .u32 os)) (hb:Below B w wr)
  (hx:xs[i]? =some x) (Ax:c<4294967296) (hq:q=(c:Int)):
  GF w B n m xs ys (.slice (some ⟨g,0,none⟩) (n+m) cap) (.int .i64 ((i:Int)+1)) (wr.setCell ⟨g,i+m,none⟩ (.int .u32 q)):=by
 subst hq;obtain⟨o,ho⟩:∃ o,os[i+m]? =some o:=⟨_,ba ab⟩;obtain rfl:=hz (i+m) (bL _) o ho;refine⟨i+1,os.set (i+m) c,ab,aa,by simp[hl],GG.set Ax _,λj hj y hy=> ?_,?_,Own.kE aZ,hb.setCell (Own.lt aZ).1 _⟩
 ·rw[Ug ab] at hy;exact hz j ab y hy
 ·have h1:=OC (v:=c) ho;have h2:ay (xs.take (i+1))=ay (xs.take i)+4294967296^i*x:=by rw[cj,List.getD,hx];rfl
  rw[cZ (iM hm)] at hv;rw[h2,fG,gB];omega
set_option maxRecDepth 100000 in
theorem Zh (va vb:Value) (n m:Nat) (xs ys:List Nat) (w:World) (hr:Rd w 1 va n (ints .u32 xs)) (hs:Rd w 1 vb m (ints .u32 ys)) (hx:ez xs) (hy:ez ys) (hn:n<=536870912) (hm:m<=536870912):
  Calls Tryz.prog 81 #[va,vb] w λe w'=>∃ v',e=.returned v'/\w'.ownsRow w.heap.size 117 1 v' (limbs (ay xs*ay ys)).length (ints .u32 (limbs (ay xs*ay ys)))/\Below w.heap.size w w':=by
 obtain⟨p,c,rfl,il,iC,ib⟩:=hr.u32;obtain⟨q,d,rfl,Wp,Rl,rZ⟩:=hs.u32;obtain⟨i0,hi,pX,lD,uw⟩:=info_parts og;have Hr:=af hr;have Hs:=af hs;have HLX:=af hx;have HLY:=af hy;have HX:=af ib;have HY:=af rZ;obtain⟨B,hB⟩:∃ B,B=w.heap.size:=⟨_,aa⟩;have HB:=af hB;rw[<-hB];clear hr hs hx hy ib rZ hB;refine bG λR' di=> ?_;go_enter Tryz.func81,Tryz.ntmps81
 go_wp2_with (at_make;refine wpList_make_full _ aa _ _ 22 aa B 117 i0 (.int .u32 0) 1 rL hi pX lD .i64 .i64 _ _ (n+m) aa aa ab ab (by rw[uw];omega) (by unfold maxLen;omega) (iM HB.out) ?_;intro w1 aZ Wn)
 have RP:=af (Own.made aZ);have Hb1:Hid (Below B w w1):=(iP _ _).grown Wn (iM HB.out) (λk hk=>by cases hk);clear aZ Wn hi pX lD uw;go_wp2_with fail
 go_loopw [20] (λiv wr=>GF w B n m xs ys (.slice (some ⟨w.heap.size,0,none⟩) (n+m) (n+m)) iv wr) (λiv _=>n-(intOf iv).toNat)
 case atStart=>exact⟨0,List.replicate (n+m) 0,fH _,aa,bN,gN.replicate ab _,λj _ x hx=>by rw[List.getElem?_replicate] at hx;split at hx <;> simp_all,by rw[GB];simp[ij],by simpa using RP.out,Hb1.out⟩
 case round=>
  obtain⟨i,os,xJ,rfl,hl,GG,hz,hv,aZ,hb⟩:=hrel;have HLO:=af hl;have HLIM:=af GG;have HZ:=af hz;have HV:=af hv;have HO:=af aZ;have lM:=af hb;have hsz:=hb.size;clear hl GG hz hv aZ hb;by_cases RY:i<n
  ·obtain⟨b1,o1,x,rfl,bA,kF,yi⟩:=(Hr.out.nT HB.out lM.out).cellAt RY;have Fu:=af kF;have rk:=HLX.out.at kF;clear kF;go_wp2_with fail
   obtain⟨wo,rfl⟩:∃ wo:World,wo=wr:=⟨_,aa⟩;go_loopw [8,27] (λcv kv wr'=>OI w B n m i (ay (xs.take i)*ay ys) x ys (.slice (some ⟨w.heap.size,0,none⟩) (n+m) (n+m)) cv kv wr') (λ_ kv _=>m-(intOf kv).toNat)
   case atStart=>exact⟨0,0,os,fH _,aa,aa,ab,HLO.out,HLIM.out,HZ.out,by rw[HV.out];simp[ij],HO.out,lM.out⟩
   case round=>
    obtain⟨k,c',os',RQ,rfl,rfl,Ax,Zi,OJ,Ro,hv',hown',Ja⟩:=hrel;have HLO':=af Zi;have OK:=af OJ;have HZ':=af Ro;have HV':=af hv';have HO':=af hown';have Zj:=af Ja;clear Zi OJ Ro hv' hown' Ja;obtain⟨o,ho,hco,hfo⟩:=Own.lC HO'.out (j:=i+k) ab;have HOK:=af ho;have ho4:=OK.out.at ho;clear ho;by_cases hklt:k<m
    ·obtain⟨b2,o2,y,rfl,cC,vE,OA⟩:=(Hs.out.nT HB.out Zj.out).cellAt hklt;have Uw:=af vE;have Kd:=HLY.out.at vE;clear vE;have hsm:=Aw rk Kd ho4 Ax;have m0:0<=(x:Int)*(y:Int):=by rw[<-rO];omega
     have m1:(x:Int)*(y:Int)+(o:Int)+(c':Int)<18446744073709551616:=by rw[<-rO];omega
     have Wx:IntKind.i64.wrap ((i:Int)+(k:Int))=((i+k:Nat):Int):=by rw[cV _ ab];simp
     clear hsm;go_wp2_with fail
     go_roundw
     case rel=>
      first
      | exact OI.step hklt RY HLO'.out OK.out HZ'.out HV'.out HO'.out Zj.out Uw.out HOK.out rk Kd Ax bN bN
      | ((repeat apply Exists.intro);exact⟨OI.step hklt RY HLO'.out OK.out HZ'.out HV'.out HO'.out Zj.out Uw.out HOK.out rk Kd Ax bN bN,aa⟩)
     case measure=>simp[intOf];omega
    ·obtain rfl:k=m:=by omega
     have Wx:IntKind.i64.wrap ((i:Int)+(k:Int))=((i+k:Nat):Int):=by rw[cV _ ab];simp
     go_wp2_with fail
     go_roundw
     case rel=>
      first
      | exact GF.step RY HLO'.out OK.out HZ'.out HY.out HV'.out HO'.out Zj.out Fu.out Ax aa
      | ((repeat apply Exists.intro);exact⟨GF.step RY HLO'.out OK.out HZ'.out HY.out HV'.out HO'.out Zj.out Fu.out Ax aa,aa⟩)
     case measure=>simp[intOf];omega
  ·obtain rfl:i=n:=by omega
   go_wp2_with fail
   refine (oH _ (i+m) os _ (Rd.own HO.out) HLIM.out ab).mono ?_;rintro e w2 ⟨v',rfl,qL,cC⟩;go_wp2_with fail
   have h:=HV.out;rw[cZ (iM HX.out)] at h;rw[h] at qL;exact di.out _ _ ⟨v',aa,Own.mono qL (by have:=HB.out;omega),lM.out.trans (cC.mono (by have:=HB.out;omega))⟩
end
section
open Go.RowKit
def OL (w:World) (U2 v1 V U:Nat) (qv rv:Value) (wr:World):Prop:=
 ∃ q r dn:Nat,qv=.int .u64 (q:Int)/\rv=.int .u64 (r:Int)/\q*v1+r=U2/\r<4294967296/\(∀ t:Nat,t<=4294967295->t*V<=U->t<=q)/\wr=w.drewN dn
variable {B U2 v1 v2 low:Nat}
theorem LD (Nu:0<v1) (hl:low<B) (t:Nat) (h:t*(v1*B+v2)<=U2*B+low):t<=U2/v1:=by
 rw[JI Nu];rw[du,<-gB] at h;have h1:t*v1*B<(U2+1)*B:=by rw[fG];omega
 have:=YK h1;omega
theorem OM (Nu:0<v1) (hl:low<4294967296):∀ t:Nat,t<=4294967295->t*(v1*4294967296+v2)<=U2*4294967296+low->t<=U2/v1:=λt _ h=>LD Nu hl t h
variable {r:Nat}
theorem GH {q:Nat} (h:q*v1+r=U2) (hf:q*v2<=r*B+low):q*(v1*B+v2)<=U2*B+low:=by
 subst h;rw[du,<-gB,fG];omega
theorem RZ {q:Nat} (h:q*v1+r=U2) (hf:r*B+low<q*v2):U2*B+low<q*(v1*B+v2):=by
 subst h;rw[du,<-gB,fG];omega
theorem OO {q V U:Nat} (hV:0<V) (hq:q<=4294967295) (hf:q*V<=U) (hm:∀ t:Nat,t<=4294967295->t*V<=U->t<=q):q=lT U V:=
 Nat.le_antisymm (Ki hV hq hf) (hm _ (Nat.min_le_left _ _) OE)
theorem OP {q:Nat} (h:q*v1+r=U2) (hr:4294967296<=r) (hU:U2<v1*4294967296+4294967296) (hv2:v2<4294967296):q<=4294967295/\q*v2<=r*4294967296+low:=by
 have h1:q*v1<4294967296*v1:=ab;have h2:q<4294967296:=YK h1;have h3:q*v2<=4294967295*4294967295:=vx ab ab;omega
set_option maxRecDepth 100000 in
theorem Wy (hi mid low v1 v2:Nat) (w:World) (hhi:hi<=v1) (nY:mid<4294967296) (hlow:low<4294967296) (h1:0<v1) (h14:v1<4294967296) (h2:v2<4294967296):
  Calls Tryz.prog 146 #[.int .u32 (hi:Int),.int .u32 (mid:Int),.int .u32 (low:Int),.int .u32 (v1:Int),.int .u32 (v2:Int)] w λe w'=>
   e=.returned (.int .u64 (lT ((hi*4294967296+mid)*4294967296+low) (v1*4294967296+v2):Int))/\∃ k,w'=w.drewN k:=by
 have hhi4:hi<4294967296:=ab
 have Gs:bits BinOp.or IntKind.u64 ((hi:Int)*4294967296) (mid:Int)=((hi*4294967296+mid:Nat):Int):=by
  have e1:((hi:Int)*4294967296)=((hi*4294967296:Nat):Int):=bN;rw[e1,u64_or_nat _ _ ab ab,nat_join 32 _ _ ab ab]
 obtain⟨U2,Jb⟩:∃ U2,U2=hi*4294967296+mid:=⟨_,aa⟩;have hU:U2<v1*4294967296+4294967296:=ab;rw[<-Jb] at Gs ⊢;have hv0:((v1:Int) != 0)=true:=by rw[bne_iff_ne];omega
 have hV:0<v1*4294967296+v2:=ab;obtain⟨V,hVe⟩:∃ V,V=v1*4294967296+v2:=⟨_,aa⟩;obtain⟨U,hUe⟩:∃ U,U=U2*4294967296+low:=⟨_,aa⟩;rw[<-hVe,<-hUe];rw[<-hVe] at hV;have HV:=af hVe;have HU:=af hUe;have HST:Hid (∀ t:Nat,t<=4294967295->t*V<=U->t<=U2/v1):=by rw[hVe,hUe];exact OM h1 hlow
 have HUU:=af hU;have Rl:=JQ U2 v1;have yO:=gC U2 h1;have hU64:U2<18446744073709551616:=ab;have d1:((U2/v1:Nat):Int)=(U2:Int)/(v1:Int):=bN;have d2:((U2%v1:Nat):Int)=(U2:Int)%(v1:Int):=bN;have dl:(U2:Int)/(v1:Int)<18446744073709551616:=by rw[<-d1];have:=Oq U2 v1;omega
 have dl0:0<=(U2:Int)/(v1:Int):=Int.ediv_nonneg ab ab;have dm0:0<=(U2:Int)%(v1:Int):=Int.emod_nonneg _ ab;have dm1:(U2:Int)%(v1:Int)<4294967296:=by rw[<-d2];omega
 have HDM:=af Rl;have Zf:=af yO;have HD1:=af d1;have HD2:=af d2;clear hVe hUe hU Rl yO d1 d2 Jb;refine bG λR' di=> ?_;go_enter Tryz.func146,Tryz.ntmps146
 go_wp2_with fail
 go_step3
 go_wp2_with fail
 go_quiet (fail)
 go_wp2_with fail
 go_step3
 go_wp2_with fail
 go_loopw [12,13] (λqv rv wr=>OL w U2 v1 V U qv rv wr) (λqv _ _=>(intOf qv).toNat)
 case atStart=>exact⟨U2/v1,U2%v1,_,by rw[HD1.out],by rw[HD2.out],by rw[jb];exact HDM.out,Nat.lt_trans Zf.out h14,HST.out,aa⟩
 case round=>
  obtain⟨q,r,dn,rfl,rfl,hqr,hr,hmax,rfl⟩:=hrel;have HQR:=af hqr;have HMAX:=af hmax
  have hq64:(q:Int)<18446744073709551616:=by
   have h3:q*1<=q*v1:=kS _ h1;omega
  have hr64:(r:Int)+(v1:Int)<18446744073709551616:=ab;clear hqr hmax dl dl0 dm0 dm1 Gs
  have next:(∀ t:Nat,t<=4294967295->t*V<=U->t<=q-1)->1<=q->r+v1<4294967296->OL w U2 v1 V U (.int .u64 ((q:Int)-1)) (.int .u64 ((r:Int)+(v1:Int))) (w.drewN dn):=λa b c=>
   ⟨q-1,r+v1,dn,by rw[show ((q-1:Nat):Int)=(q:Int)-1 by omega],bN,by
    have h3:=HQR.out;obtain⟨k,rfl⟩:∃ k,q=k+1:=⟨q-1,ab⟩;rw[fG] at h3;simp only[Nat.add_sub_cancel];omega,c,a,rfl⟩
  have stop:(∀ t:Nat,t<=4294967295->t*V<=U->t<=q-1)->1<=q->4294967296<=r+v1->(q:Int)-1=(lT U V:Int):=λa b c=>by
   have h3:=HQR.out;obtain⟨k,rfl⟩:∃ k,q=k+1:=⟨q-1,ab⟩;have h4:k*v1+(r+v1)=U2:=by rw[fG] at h3;omega
   obtain⟨h5,h6⟩:=OP (low:=low) h4 c HUU.out h2;have h7:k=lT U V:=OO hV h5 (by rw[HV.out,HU.out];exact GH h4 h6) (by simpa using a);omega
  have HNEXT:=af next
  have HSTOP:=af stop;clear next stop
  by_cases hqB:4294967296<=q
  ·have c1:4294967295<(q:Int):=by omega
   have hA:Hid (∀ t:Nat,t<=4294967295->t*V<=U->t<=q-1):=λt ht _=>ab;have c2:0<=(q:Int)-1:=ab;by_cases Wq:r+v1<4294967296
   ·have c3:decide (4294967295<(r:Int)+(v1:Int))=false:=aA ab;go_wp2_with fail
    go_roundw
    case rel=>exact HNEXT.out hA.out ab Wq
    case measure=>simp[intOf];omega
   ·have c3:4294967295<(r:Int)+(v1:Int):=by omega
    go_wp2_with fail
    exact di.out _ _ ⟨tr (HSTOP.out hA.out ab ab),_,aa⟩
  ·have c1:(q:Int)<=4294967295:=by omega
   have m2:q*v2<=4294967295*4294967295:=vx ab ab;have m0:0<=(q:Int)*(v2:Int):=by rw[<-rO];omega
   have m1:(q:Int)*(v2:Int)<18446744073709551616:=by rw[<-rO];omega
   have Gs:bits BinOp.or IntKind.u64 ((r:Int)*4294967296) (low:Int)=((r*4294967296+low:Nat):Int):=by
    have e1:((r:Int)*4294967296)=((r*4294967296:Nat):Int):=bN;rw[e1,u64_or_nat _ _ ab ab,nat_join 32 _ _ ab ab]
   obtain⟨RL,hRL⟩:∃ RL,RL=r*4294967296+low:=⟨_,aa⟩;rw[<-hRL] at Gs;have HRL:=af hRL;by_cases hc:RL<q*v2
   ·have cc:(RL:Int)<(q:Int)*(v2:Int):=by rw[<-rO];omega
    have hq1:1<=q:=by
     rcases rK q with h|h
     ·subst h;rw[JU] at hc;omega
     ·exact h
    have hA:Hid (∀ t:Nat,t<=4294967295->t*V<=U->t<=q-1):=λt ht hf=>by
     have h3:=HMAX.out t ht hf;have h4:=RZ (B:=4294967296) (low:=low) HQR.out (by rw[<-hRL];exact hc);rw[<-HV.out,<-HU.out] at h4;have h5:t≠q:=λe=>by subst e;omega
     omega
    have c2:0<=(q:Int)-1:=ab;clear m2 hc hRL;by_cases Wq:r+v1<4294967296
    ·have c3:decide (4294967295<(r:Int)+(v1:Int))=false:=aA ab;go_wp2_with fail
     go_roundw
     case rel=>exact HNEXT.out hA.out ab Wq
     case measure=>simp[intOf];omega
    ·have c3:4294967295<(r:Int)+(v1:Int):=by omega
     go_wp2_with fail
     exact di.out _ _ ⟨tr (HSTOP.out hA.out ab ab),_,aa⟩
   ·have cc:decide ((RL:Int)<(q:Int)*(v2:Int))=false:=aA (by rw[<-rO];omega);have cx:decide (4294967295<(q:Int))=false:=aA ab;have he:q=lT U V:=OO hV ab (by rw[HV.out,HU.out];exact GH HQR.out (by rw[<-hRL];omega)) HMAX.out;have HE:=af he;clear m2 hc hRL he c1;go_wp2_with fail
    exact di.out _ _ ⟨by rw[<-HE.out];rfl,_,rfl⟩
end
section
open Go.RowKit
theorem Rd.Ay {w w':World} {g sz n:Nat} {v:Value} {cs:List Value} (h:Rd w sz v n cs) (hg:w.grownBy w' (some g)) (hne:∀ p c a,v=.slice p n c->p=some a->a.block≠g):Rd w' sz v n cs:=by
 obtain⟨p,c,rfl,h1,h2,h3,h4⟩:=h;refine⟨p,c,aa,h1,h2,h3,λhn=> ?_⟩;obtain⟨b,off,hp,hc⟩:=h4 hn;refine⟨b,off,hp,λj u hj=> ?_⟩;exact hg.cell (hc j u hj) (λe=>hne p c _ aa hp (by simpa using e))
theorem sM (w:World) (row:Option Nat):w.grownBy w row:=⟨rfl,rfl,rfl,bL _,λ_ _ _=>rfl⟩
theorem Ji {a b c:World} {row:Option Nat} (h:a.grownBy b row) (k:b.grownBy c row):a.grownBy c row:=
 ⟨k.os.trans h.os,k.tape.trans h.tape,k.output.trans h.output,bj h.size k.size,λj hj hne=>(k.block j (ox hj h.size) hne).trans (h.block j hj hne)⟩
theorem uC {w wr:World} {g j:Nat} {u:Value} (h:w.grownBy wr (some g)):w.grownBy (wr.setCell ⟨g,j,none⟩ u) (some g):=
 ⟨h.os,h.tape,h.output,by simpa [World.setCell] using h.size,λk hk hne=>(wu wr ⟨g,j,none⟩ u k (λe=>hne (by rw[e]))).trans (h.block k hk hne)⟩
theorem Fw {pre D A post:List Nat} {i k a:Nat} (hp:pre.length=i) (hD:D.length=k) (ha:A[k]? =some a):(pre++(D++(A.drop k++post)))[i+k]? =some a:=by
 subst hp;subst hD;obtain⟨hl,he⟩:=cQ.1 ha;rw[jT ab,JF,jT (bL _),rR,mG hl,pL,List.getElem?_cons_zero,he]
theorem Uz {pre D A post:List Nat} {i k x:Nat} (hp:pre.length=i) (hD:D.length=k) (hl:k<A.length):(pre++(D++(A.drop k++post))).set (i+k) x=pre++((D++[x])++(A.drop (k+1)++post)):=by
 subst hp;subst hD;rw[zZ _ _ ab,JF,zZ _ _ (bL _),rR,mG hl,pL,List.set_cons_zero,fu];rfl
theorem Az (n:Int):IntKind.u64.wrap n=n%18446744073709551616:=by simp[IntKind.wrap,IntKind.bits,IntKind.signed]
theorem OQ {a lo r:Nat} (ha:a<4294967296) (hl:lo<4294967296) (hr:r<=1):∃ S1 S2 x r':Nat,IntKind.u64.wrap ((a:Int)-(lo:Int))=(S1:Int)/\IntKind.u64.wrap ((S1:Int)-(r:Int))=(S2:Int)/\
  (S2:Int)%4294967296=(x:Int)/\(S2:Int)/9223372036854775808=(r':Int)/\r'<=1/\x<4294967296/\a+4294967296*r'=x+lo+r/\S1<18446744073709551616/\S2<18446744073709551616:=by
 refine⟨(((a:Int)-lo)%18446744073709551616).toNat,(((a:Int)-lo-r)%18446744073709551616).toNat,(((a:Int)-lo-r)%4294967296).toNat,(if lo+r<=a then 0 else 1),?_,?_,?_,?_,?_,?_,?_,?_,?_⟩
 ·rw[Az];omega
 ·rw[Az];omega
 ·omega
 ·split <;> omega
 ·split <;> omega
 ·omega
 ·split <;> omega
 ·omega
 ·omega
def AA (w:World) (B g N cap L q:Nat) (pre A post ys:List Nat) (cv bv kv:Value) (wr:World):Prop:=
 ∃ (k c r:Nat) (D:List Nat),k<=L/\kv=.int .i64 (k:Int)/\cv=.int .u64 (c:Int)/\bv=.int .u64 (r:Int)/\c<4294967296/\r<=1/\D.length=k/\ez D/\
   ay D+q*ay (ys.take k)=ay (A.take k)+4294967296^k*(c+r)/\4294967296^k*c<=q*ay (ys.take k)/\
   wr.ownsRow B 117 1 (.slice (some ⟨g,0,none⟩) N cap) N (ints .u32 (pre++(D++(A.drop k++post))))/\w.grownBy wr (some g)
theorem AA.step {w wr:World} {B g N cap i L q k c r y a x r' P:Nat} {pre A post ys D:List Nat} {xi ci ri:Int} (hk:k<L) (hA:A.length=L) (qM:pre.length=i) (hD:D.length=k) (GG:ez D)
  (hv:ay D+q*ay (ys.take k)=ay (A.take k)+4294967296^k*(c+r)) (hc:4294967296^k*c<=q*ay (ys.take k))
  (aZ:wr.ownsRow B 117 1 (.slice (some ⟨g,0,none⟩) N cap) N (ints .u32 (pre++(D++(A.drop k++post))))) (hg:w.grownBy wr (some g))
  (hy:ys.getD k 0=y) (ha:A[k]? =some a) (hP:P=q*y+c) (hP64:P<18446744073709551616) (rk:x<4294967296) (ry:r'<=1) (he:a+4294967296*r'=x+P%4294967296+r)
  (hxi:xi=(x:Int)) (hci:ci=((P/4294967296:Nat):Int)) (OS:ri=(r':Int)):
  AA w B g N cap L q pre A post ys (.int .u64 ci) (.int .u64 ri) (.int .i64 ((k:Int)+1)) (wr.setCell ⟨g,i+k,none⟩ (.int .u32 xi)):=by
 subst hxi;subst hci;subst OS;subst hP;have h1:=Own.kE (j:=i+k) (x:=x) aZ;rw[Uz qM hD ab] at h1;have e1:ay (ys.take (k+1))=ay (ys.take k)+4294967296^k*y:=by rw[cj,hy]
 have e2:ay (A.take (k+1))=ay (A.take k)+4294967296^k*a:=by rw[cj,List.getD,ha];rfl
 refine⟨k+1,(q*y+c)/4294967296,r',D++[x],ab,aa,aa,aa,ab,ry,by simp[hD],GG.append (ez.cons rk ez.nil),?_,?_,h1,uC hg⟩
 ·rw[gI,hD,e1,e2,iL];exact RX hv he
 ·rw[e1,iL,du]
  have h3:4294967296^k*4294967296*((q*y+c)/4294967296)<=4294967296^k*(q*y+c):=by
   rw[gB];exact kS _ (Nat.mul_div_le _ _)
  rw[du,JO] at h3;omega
def AB (w:World) (B g N cap L:Nat) (pre A post ys:List Nat) (cv kv:Value) (wr:World):Prop:=
 ∃ (k c:Nat) (D:List Nat),k<=L/\kv=.int .i64 (k:Int)/\cv=.int .u32 (c:Int)/\c<=1/\D.length=k/\ez D/\
   ay D+4294967296^k*c=ay (A.take k)+ay (ys.take k)/\
   wr.ownsRow B 117 1 (.slice (some ⟨g,0,none⟩) N cap) N (ints .u32 (pre++(D++(A.drop k++post))))/\w.grownBy wr (some g)
theorem AB.step {w wr:World} {B g N cap i L k c y a:Nat} {pre A post ys D:List Nat} (hk:k<L) (hA:A.length=L) (qM:pre.length=i) (hD:D.length=k) (GG:ez D) (hc:c<=1)
  (hv:ay D+4294967296^k*c=ay (A.take k)+ay (ys.take k))
  (aZ:wr.ownsRow B 117 1 (.slice (some ⟨g,0,none⟩) N cap) N (ints .u32 (pre++(D++(A.drop k++post))))) (hg:w.grownBy wr (some g))
  (hy:ys.getD k 0=y) (ha:A[k]? =some a) (ha4:a<4294967296) (Kd:y<4294967296):
  AB w B g N cap L pre A post ys (.int .u32 (((a+y+c)/4294967296:Nat):Int)) (.int .i64 ((k:Int)+1)) (wr.setCell ⟨g,i+k,none⟩ (.int .u32 (((a+y+c)%4294967296:Nat):Int))):=by
 have h1:=Own.kE (j:=i+k) (x:=(a+y+c)%4294967296) aZ;rw[Uz qM hD ab] at h1;have e1:ay (ys.take (k+1))=ay (ys.take k)+4294967296^k*y:=by rw[cj,hy]
 have e2:ay (A.take (k+1))=ay (A.take k)+4294967296^k*a:=by rw[cj,List.getD,ha];rfl
 refine⟨k+1,(a+y+c)/4294967296,D++[(a+y+c)%4294967296],ab,aa,aa,ab,by simp[hD],GG.append (ez.cons (gC _ ab) ez.nil),?_,h1,uC hg⟩;rw[gI,hD,e1,e2,iL];exact Ou _ _ a y c _ _ _ hv aa
def TookAt (w w':World) (B g N cap:Nat) (pre A post ys:List Nat) (q q':Nat):Prop:=
 ∃ A':List Nat,A'.length=A.length/\ez A'/\ay A' +q' *ay ys=ay A/\(q*ay ys<=ay A/\q'=q\/ay A<q*ay ys/\q' +1=q)/\
   w'.ownsRow B 117 1 (.slice (some ⟨g,0,none⟩) N cap) N (ints .u32 (pre++(A'++post)))/\w.grownBy w' (some g)
set_option maxRecDepth 100000 in
theorem Zk (g N cap i L capw n q B:Nat) (pre A post ys:List Nat) (vb:Value) (w:World) (aZ:w.ownsRow B 117 1 (.slice (some ⟨g,0,none⟩) N cap) N (ints .u32 (pre++(A++post))))
  (qM:pre.length=i) (hA:A.length=L) (hlA:ez A) (hs:Rd w 1 vb n (ints .u32 ys)) (vN:ez ys) (hne:∀ p c a,vb=.slice p n c->p=some a->a.block≠g) (hL:L=n+1) (hLc:L<=capw) (hcw:capw<=9223372036854775807)
  (hq:q<4294967296) (hqb:q*ay ys<=ay A+ay ys):
  Calls Tryz.prog 147 #[.slice (some ⟨g,i,none⟩) L capw,vb,.int .u64 (q:Int)] w λe w'=>∃ q':Nat,e=.returned (.int .u32 (q':Int))/\TookAt w w' B g N cap pre A post ys q q':=by
 obtain⟨p,c,rfl,il,iC,rZ⟩:=hs.u32;have Hs:=af hs;have Yo:=af hlA;have HLY:=af vN;have HNE:=af hne;have HO:=af aZ;have HA:=af hA;have HP:=af qM;have HY:=af rZ;have HQB:=af hqb;have HLL:=af hL;clear hs hlA vN hne aZ hA qM rZ hqb hL;refine bG λR' di=> ?_;go_enter Tryz.func147,Tryz.ntmps147
 go_wp2_with fail
 go_loopw [7,8,18] (λcv bv kv wr=>AA w B g N cap L q pre A post ys cv bv kv wr) (λ_ _ kv _=>L-(intOf kv).toNat)
 case atStart=>exact⟨0,0,0,[],fH _,aa,aa,aa,ab,ab,aa,ez.nil,by simp[ij],bN,by simpa using HO.out,sM _ _⟩
 case round=>
  obtain⟨k,c,r,D,hkL,rfl,rfl,rfl,Ax,nA,hD,hlD,hv,hcc,aZ,hg⟩:=hrel;have HD:=af hD;have Ke:=af hlD;have HV:=af hv;have HCC:=af hcc;have HOW:=af aZ;have HG:=af hg;clear hD hlD hv hcc aZ hg;by_cases OT:k<L
  ·obtain⟨a,ha⟩:∃ a,A[k]? =some a:=⟨_,ba (by rw[HA.out];exact OT)⟩;have ha4:=Yo.out.at ha;have HAK:=af ha
   have hlt:i+k<N:=by
    have h1:=HOW.out.1;have h2:=(cQ.1 (Fw (post:=post) HP.out HD.out ha)).1;simp at h1 h2;omega
   obtain⟨a',ha',hca,hfa⟩:=Own.lC HOW.out (j:=i+k) hlt;rw[Fw HP.out HD.out ha] at ha';obtain rfl:=Ae ha';have Ws:=mP hca;simp only at Ws;clear ha ha';by_cases ux:k<n
   ·obtain⟨b2,o2,y,rfl,cC,vE,OA⟩:=(Hs.out.Ay HG.out HNE.out).cellAt ux;have Uw:Hid (ys.getD k 0=y):=by show _=_;rw[List.getD,vE];rfl
    have Kd:=HLY.out.at vE;clear vE;have m3:q*y<=4294967295*4294967295:=vx ab ab;have m0:0<=(q:Int)*(y:Int):=by rw[<-rO];omega
    have m1:(q:Int)*(y:Int)<18446744073709551616:=by rw[<-rO];omega
    obtain⟨P,hP⟩:∃ P,P=q*y+c:=⟨_,aa⟩;have hP64:P<18446744073709551616:=ab;have hPi:(q:Int)*(y:Int)+(c:Int)=(P:Int):=by rw[hP];simp
    obtain⟨lo,Lu⟩:∃ lo,lo=P%4294967296:=⟨_,aa⟩;have hlo4:lo<4294967296:=ab;have hloi:(P:Int)%4294967296=(lo:Int):=ab;obtain⟨S1,S2,x,r',f1,f2,f3,f4,f5,f6,f7,f8,f9⟩:=OQ ha4 hlo4 nA;have HF7:=af f7;have HPE:=af hP;have HLO:=af Lu;clear m3 hP Lu f7;go_wp2_with fail
    go_roundw
    case rel=>exact AA.step OT HA.out HP.out HD.out Ke.out HV.out HCC.out HOW.out HG.out Uw.out HAK.out HPE.out hP64 f6 f5 (by rw[<-HLO.out];exact HF7.out) aa bN aa
    case measure=>simp[intOf];omega
   ·have Uw:Hid (ys.getD k 0=0):=by show _=_;rw[List.getD,vi (by rw[HY.out];omega)];rfl
    obtain⟨S1,S2,x,r',f1,f2,f3,f4,f5,f6,f7,f8,f9⟩:=OQ ha4 Ax nA;have HF7:=af f7;clear f7;go_wp2_with fail
    go_roundw
    case rel=>exact AA.step OT HA.out HP.out HD.out Ke.out HV.out HCC.out HOW.out HG.out Uw.out HAK.out (P:=c) bN ab f6 f5 (by rw[Ac Ax];exact HF7.out) aa (by first|rfl|(simp;omega)|omega) aa
    case measure=>simp[intOf];omega
  ·obtain rfl:k=L:=by omega
   have hpow:q*ay ys<4294967296^k:=by
    have h1:=oe HLY.out;rw[HY.out] at h1;have h2:q*ay ys<=4294967295*ay ys:=pK _ ab;have h3:4294967296^k=4294967296^n*4294967296:=by rw[HLL.out,iL]
    omega
   have hyt:ay (ys.take k)=ay ys:=cZ (by rw[HY.out,HLL.out];omega);have Nv:ay (A.take k)=ay A:=cZ (by rw[HA.out];omega);have hv:=HV.out;have hcc:=HCC.out;rw[hyt] at hv hcc;rw[Nv] at hv;have hDl:=oe Ke.out;rw[HD.out] at hDl
   obtain rfl:c=0:=by
    rcases rK c with h|h
    ·exact h
    ·have:4294967296^k*1<=4294967296^k*c:=kS _ h;omega
   rw[jt] at hv;have HV2:=af hv;have HPW:=af hpow;have Sa:=af hDl;have hOW:=HOW.out;rw[ly (by rw[HA.out];omega),ma] at hOW;have HOW2:=af hOW;clear hv hcc hpow hyt Nv hDl hOW HOW HCC HV;rcases (show r=0\/r=1 by omega) with rfl|rfl
   ·go_wp2_with fail
    refine di.out _ _ ⟨q,?_,D,by rw[HD.out,HA.out],Ke.out,by have:=HV2.out;omega,.inl ⟨by have:=HV2.out;omega,rfl⟩,HOW2.out,HG.out⟩;first|rfl|exact tr ab
   ·have hq1:1<=q:=by
     rcases rK q with h|h
     ·have h1:=HV2.out;have h2:=Sa.out;rw[h,JU] at h1;omega
     ·exact h
    go_wp2_with fail
    rw[show ((0:Nat):Int)=0 from aa,show ((1:Nat):Int)=1 from aa];obtain⟨wo,rfl⟩:∃ wo:World,wo=wr:=⟨_,aa⟩;go_loopw [13,62] (λcv kv wr'=>AB wo B g N cap k pre D post ys cv kv wr') (λ_ kv _=>k-(intOf kv).toNat)
    case atStart=>exact⟨0,0,[],fH _,aa,aa,ab,aa,ez.nil,by simp[ij],by simpa using HOW2.out,sM _ _⟩
    case round=>
     obtain⟨l,c,E,hlk,rfl,rfl,ll,hE,hlE,hvE,aZ,hg⟩:=hrel;have HE:=af hE;have HLE:=af hlE;have HVE:=af hvE;have HOW:=af aZ;have HG2:=af hg;clear hE hlE hvE aZ hg;by_cases hlt:l<k
     ·obtain⟨a,ha⟩:∃ a,D[l]? =some a:=⟨_,ba (by rw[HD.out];exact hlt)⟩;have ha4:=Ke.out.at ha;have HAK:=af ha
      have hlN:i+l<N:=by
       have h1:=HOW.out.1;have h2:=(cQ.1 (Fw (post:=post) HP.out HE.out ha)).1;simp at h1 h2;omega
      obtain⟨a',ha',hca,hfa⟩:=Own.lC HOW.out (j:=i+l) hlN;rw[Fw HP.out HE.out ha] at ha';obtain rfl:=Ae ha';have Ws:=mP hca;simp only at Ws;clear ha ha';by_cases Oz:l<n
      ·obtain⟨b2,o2,y,rfl,cC,vE,OA⟩:=((Hs.out.Ay HG.out HNE.out).Ay HG2.out HNE.out).cellAt Oz;have Uw:Hid (ys.getD l 0=y):=by show _=_;rw[List.getD,vE];rfl
       have Kd:=HLY.out.at vE;clear vE;go_wp2_with fail
       refine (tt a y c _ ha4 Kd ab).mono ?_;rintro e w2 ⟨rfl,rfl⟩;go_wp2_with fail
       go_roundw
       case rel=>exact AB.step hlt HD.out HP.out HE.out HLE.out ll HVE.out HOW.out HG2.out Uw.out HAK.out ha4 Kd
       case measure=>simp[intOf];omega
      ·have Uw:Hid (ys.getD l 0=0):=by show _=_;rw[List.getD,vi (by rw[HY.out];omega)];rfl
       go_wp2_with fail
       refine (tt a 0 c _ ha4 ab ab).mono ?_;rintro e w2 ⟨rfl,rfl⟩;go_wp2_with fail
       go_roundw
       case rel=>exact AB.step hlt HD.out HP.out HE.out HLE.out ll HVE.out HOW.out HG2.out Uw.out HAK.out ha4 ab
       case measure=>simp[intOf];omega
     ·obtain rfl:l=k:=by omega
      have hve:=HVE.out;rw[cZ (by rw[HD.out];omega),cZ (by rw[HY.out,HLL.out];omega)] at hve;have Yp:=oe HLE.out;rw[HE.out] at Yp;have hOW:=HOW.out;rw[ly (by rw[HD.out];omega),ma] at hOW;have hv2:=HV2.out;have hqb:=HQB.out;obtain⟨m,rfl⟩:∃ m,q=m+1:=⟨q-1,ab⟩;rw[fG,Da] at hv2 hqb
      have hfin:ay E+m*ay ys=ay A:=by
       rcases (show c=0\/c=1 by omega) with rfl|rfl
       ·omega
       ·omega
      have kG:ay A<(m+1)*ay ys:=by
       rw[fG,Da];have:=Sa.out;omega
      have HFIN:=af hfin;have HLT2:=af kG;have HOW3:=af hOW;clear hve Yp hOW hv2 hqb hfin kG;have hm:((m+1:Nat):Int)-1=(m:Int):=ab;go_wp2_with fail
      refine di.out _ _ ⟨m,?_,E,by rw[HE.out,HA.out],HLE.out,HFIN.out,.inr ⟨HLT2.out,rfl⟩,HOW3.out,Ji HG.out HG2.out⟩;first|rfl|exact tr ab
end
section
theorem getD_some {xs:List Nat} {k x:Nat} (h:xs[k]? =some x):xs.getD k 0=x:=by rw[List.getD,h];rfl
theorem Wz {A:List Nat} {m a0 a1 a2:Nat} (hl:A.length=m+3) (h0:A[m]? =some a0) (h1:A[m+1]? =some a1) (h2:A[m+2]? =some a2):
  ay A=((a2*4294967296+a1)*4294967296+a0)*4294967296^m+ay (A.take m):=by
 have e0:=cj A m;have e1:=cj A (m+1);have e2:=cj A (m+2);rw[getD_some h0] at e0;rw[getD_some h1,e0,iL] at e1;rw[getD_some h2,e1,iL,iL,cZ ab] at e2;rw[e2];generalize 4294967296^m=p;rw[fG,fG,fG];rw[show a2*4294967296*4294967296*p=p*4294967296*4294967296*a2 by ac_rfl];rw[show a1*4294967296*p=p*4294967296*a1 by rw[jb p,jb _ a1,gB]];rw[jb a0 p];omega
theorem top_two {Y:List Nat} {m v1 v2:Nat} (hl:Y.length=m+2) (h2:Y[m]? =some v2) (h1:Y[m+1]? =some v1):ay Y=(v1*4294967296+v2)*4294967296^m+ay (Y.take m):=by
 have e0:=cj Y m;have e1:=cj Y (m+1);rw[getD_some h2] at e0;rw[getD_some h1,e0,iL,cZ ab] at e1;rw[e1];generalize 4294967296^m=p;rw[fG];rw[show v1*4294967296*p=p*4294967296*v1 by rw[jb p,jb _ v1,gB]];rw[jb v2 p];omega
theorem wE {xs:List Nat} (h:ez xs) {m:Nat} (hm:m<=xs.length):ay (xs.take m)<4294967296^m:=by
 have:=oe (h.take m)
 rwa [cM,ig hm] at this
structure Window (us ys:List Nat) (i m b hi mid low v1 v2:Nat) (A post:List Nat):Prop where
 split:us=us.take i++(A++post)
 pre:(us.take i).length=i
 len:A.length=m+3
 lim:ez A
 zero:ay post=0
 lt:ay A<4294967296*b
 hi_le:hi<=v1
 near:ay A/b<=lT ((hi*4294967296+mid)*4294967296+low) (v1*4294967296+v2)/\lT ((hi*4294967296+mid)*4294967296+low) (v1*4294967296+v2)<=ay A/b+1
theorem WA {us ys:List Nat} {i m b hi mid low v1 v2 N:Nat} (hN:us.length=N) (hlt:i+(m+2)<N) (hu:ez us) (hy:ez ys) (rZ:ys.length=m+2) (hb:ay ys=b) (hd:ay (us.drop (i+1))<b)
  (h1:us[i+(m+2)]? =some hi) (h2:us[i+(m+1)]? =some mid) (h3:us[i+m]? =some low) (h4:ys[m+1]? =some v1) (h5:ys[m]? =some v2) (Nu:0<v1):
  Window us ys i m b hi mid low v1 v2 ((us.drop i).take (m+3)) (us.drop (i+(m+3))):=by
 have hA:((us.drop i).take (m+3)).length=m+3:=by rw[cM,rM];omega
 have hlA:ez ((us.drop i).take (m+3)):=(hu.drop i).take _
 have hsp:us.drop i=(us.drop i).take (m+3)++us.drop (i+(m+3)):=by
  rw[<-List.drop_drop];exact (qB _ _).symm
 have g0:((us.drop i).take (m+3))[m]? =some low:=by rw[wq,if_pos ab,tf];exact h3
 have g1:((us.drop i).take (m+3))[m+1]? =some mid:=by rw[wq,if_pos ab,tf];exact h2
 have g2:((us.drop i).take (m+3))[m+2]? =some hi:=by rw[wq,if_pos ab,tf];exact h1
 have hyp:b<4294967296^(m+2):=by rw[<-hb,<-rZ];exact oe hy
 have hz:ay (us.drop (i+(m+3)))=0:=by
  have e:=GC (xs:=us.drop (i+1)) (m+2) (by rw[rM];omega);rw[List.drop_drop,show i+1+(m+2)=i+(m+3) by omega] at e;rcases rK (ay (us.drop (i+(m+3)))) with h|h
  ·exact h
  ·have:4294967296^(m+2)*1<=4294967296^(m+2)*ay (us.drop (i+(m+3))):=kS _ h;omega
 have hAv:ay (us.drop i)=ay ((us.drop i).take (m+3)):=by
  conv=>lhs;rw[hsp]
  rw[ik,hz,rS,pO]
 obtain⟨u0,hu0⟩:∃ u0,us[i]? =some u0:=⟨_,ba ab⟩;have hu04:=hu.at hu0
 have Zl:ay ((us.drop i).take (m+3))<4294967296*b:=by
  rw[<-hAv,yR hu0];omega
 have eA:=Wz hA g0 g1 g2;have eY:=top_two rZ h5 h4;rw[hb] at eY;have lA:=wE hlA (m:=m) ab;have lY:=wE hy (m:=m) ab;have hp:0<4294967296^m:=vB ab;refine⟨?_,by rw[cM];omega,hA,hlA,hz,Zl,?_,RV hp eA lA eY lY ab Zl⟩
 ·rw[<-hsp];exact (qB _ _).symm
 ·-- hi<=v1
  rcases vA v1 hi with h|h
  ·have k1:ay (us.drop (i+1))=ay ((us.drop (i+1)).take (m+1))+4294967296^(m+1)*ay ((us.drop (i+1)).drop (m+1)):=GC _ (by rw[rM];omega);rw[List.drop_drop,show i+1+(m+1)=i+(m+2) by omega,yR h1] at k1;have hv2:=hy.at h5
   have k2:4294967296^(m+1)*hi<=ay (us.drop (i+1)):=by
    rw[k1,du];omega
   have k3:b<4294967296^(m+1)*(v1+1):=by
    rw[eY,iL];have k4:(v1*4294967296+v2+1)*4294967296^m<=((v1+1)*4294967296)*4294967296^m:=pK _ ab;rw[show 4294967296^m*4294967296*(v1+1)=((v1+1)*4294967296)*4294967296^m by rw[jb,jb (4294967296^m),gB]];rw[fG,Da] at k4;omega
   have k5:4294967296^(m+1)*(v1+1)<=4294967296^(m+1)*hi:=kS _ h;omega
  ·exact h
theorem Sb {u b q q' r:Nat} (hb:0<b) (h1:u/b<=q) (h2:q<=u/b+1) (hv:r+q' *b=u) (h:q*b<=u/\q'=q\/u<q*b/\q' +1=q):q'=u/b/\r<b:=by
 have hq:q'=u/b:=by
  rcases h with ⟨h3,rfl⟩|⟨h3,h4⟩
  ·have:=(JI hb).2 h3;omega
  ·have:¬ q<=u/b:=λhc=>by have:=(JI hb).1 hc;omega
   omega
 refine⟨hq,?_⟩;have e:=JQ u b;have m:=gC u hb;rw[jb,<-hq] at e;omega
theorem OU {u b q:Nat} (h:q<=u/b+1):q*b<=u+b:=by
 have h1:q*b<=(u/b+1)*b:=pK _ h;have h2:=Ol u b;rw[fG,Da] at h1;omega
theorem Sc {us pre A A' post qs:List Nat} {i b q' a:Nat} (hsp:us=pre++(A++post)) (qM:pre.length=i) (hz:ay post=0) (hv:ay A' +q' *b=ay A) (hlt:ay A' <b)
  (ha:ay us+4294967296^(i+1)*(b*ay qs)=a):
  ay ((pre++(A'++post)).drop i)<b/\ay (pre++(A'++post))+4294967296^i*(b*ay (q'::qs))=a:=by
 subst hsp;constructor
 ·rw[YG ab,ly ab,ma,ik,hz,rS,pO];exact hlt
 ·rw[ik,ik,hz,rS,pO] at ha;rw[ik,ik,hz,rS,pO,jD,<-ha,<-hv,qM,du b,du,du,iL];rw[jb q' b,show 4294967296^i*(b*(4294967296*ay qs))=4294967296^i*4294967296*(b*ay qs) by rw[gB,JO b]];omega
theorem LG {qs:List Nat} {k x:Nat}:(List.replicate (k+1) 0++qs).set k x=List.replicate k 0++x::qs:=by
 rw[List.replicate_succ',fu,zZ _ _ bN,Ud,rR];rfl
theorem OV {b t u:Nat} (hb:b≠0) (ht:(limbs b)[(limbs b).length-1]? =some t) (hu:u<32) (htu:t*2^u<4294967296):(limbs (b*2^u)).length=(limbs b).length:=by
 have hn:=fN hb;have hp:0<2^u:=vB ab;refine Nat.le_antisymm (pC _ _ ?_) (eJ (Uc _ hp));obtain⟨n,hl⟩:∃ n,(limbs b).length=n+1:=⟨(limbs b).length-1,ab⟩;rw[hl] at ht ⊢;simp only[Nat.add_sub_cancel] at ht;have e:=cj (limbs b) n;rw[getD_some ht,cZ ab,aB] at e;have l:=wE (aK b) (m:=n) ab;have h1:b<4294967296^n*(t+1):=by rw[du];omega
 have h2:(t+1)*2^u<=4294967296:=by
  have h3:4294967296=2^u*2^(32-u):=by rw[<-oB,show u+(32-u)=32 by omega]
  rw[h3,jb t] at htu;have h4:=Nat.lt_of_mul_lt_mul_left htu;rw[jb]
  calc 2^u*(t+1)<=2^u*2^(32-u):=kS _ h4
   _=4294967296:=h3.symm
 have h5:b*2^u<4294967296^n*(t+1)*2^u:=YI h1 hp;have h6:4294967296^n*(t+1)*2^u<=4294967296^n*4294967296:=by rw[gB];exact kS _ h2
 rw[iL];omega
theorem WB {a b u:Nat}:(a*2^u)/(b*2^u)=a/b:=Nat.mul_div_mul_right a b (vB ab)
theorem WC {a b u:Nat}:(a*2^u)%(b*2^u)=(a%b)*2^u:=Nat.mul_mod_mul_right (2^u) a b
end
section
open Go.RowKit
def Divided (w w':World) (a b:Nat) (e:Ending):Prop:=
 (b=0/\e=.returned (.tuple #[.slice none 0 0,.slice none 0 0,.int .i64 20]))\/
 (b≠0/\∃ vq vr,e=.returned (.tuple #[vq,vr,.int .i64 0])/\w'.ownsRow w.heap.size 117 1 vq (limbs (a/b)).length (ints .u32 (limbs (a/b)))/\w'.ownsRow w.heap.size 117 1 vr (limbs (a%b)).length (ints .u32 (limbs (a%b))))
def Zm (w:World) (B N cap n m b a ga:Nat) (vy vq:Value) (iv:Value) (wr:World):Prop:=
 ∃ (k:Nat) (us qs:List Nat),k<=m/\iv=.int .i64 ((k:Int)-1)/\us.length=N/\ez us/\ay (us.drop k)<b/\qs.length=m-k/\ez qs/\ay us+4294967296^k*(b*ay qs)=a/\
   wr.ownsRow B 117 1 (.slice (some ⟨ga,0,none⟩) N cap) N (ints .u32 us)/\wr.ownsRow B 117 1 vq m (ints .u32 (List.replicate k 0++qs))/\Rd wr 1 vy n (ints .u32 (limbs b))/\Below B w wr
theorem GI {w:World} {g j:Nat} {u:Value}:w.grownBy (w.setCell ⟨g,j,none⟩ u) (some g):=uC (sM _ _)
theorem Sd {P:Program} {f:FuncId} {args:Array Value} {W w:World} {v:Value} (h:Calls P f args W λe w'=>e=.returned v/\∃ k,w'=W.drewN k) (hW:∃ n,W=w.drewN n):
  Calls P f args W λe w''=>e=.returned v/\∃ m,w''=w.drewN m:=
 h.mono λ_ _ ⟨he,k,hk⟩=>⟨he,by obtain⟨n,hn⟩:=hW;exact⟨n+k,by rw[hk,hn,World.drewN_drewN]⟩⟩
theorem Se {w w':World} (h:w.grownBy w' none):Below w.heap.size w w':=⟨h.os,h.tape,h.output,h.size,λk hk=>h.block k hk bN⟩
theorem WD {a b N mq lb:Nat} (hN:N=(limbs a).length+1) (hm:N=mq+lb) (Rn:(limbs b).length=lb) (hb:b≠0):ay ((limbs a++[0]).drop mq)<b/\ay (limbs a++[0])=a:=by
 have hp:=fN hb;refine⟨?_,by rw[gI,rS,aB];rfl⟩;rw[YG ab,gI,rS,pO];have h1:=oe ((aK a).drop mq);rw[rM,show (limbs a).length-mq=(limbs b).length-1 by omega] at h1;exact ox h1 (Lt hb)
set_option maxRecDepth 100000 in
theorem Dj (va vb:Value) (n m:Nat) (xs ys:List Nat) (w:World) (hr:Rd w 1 va n (ints .u32 xs)) (hs:Rd w 1 vb m (ints .u32 ys)) (hx:ez xs) (hy:ez ys) (hn:n<=536870912) (hm:m<=536870912):
  Calls Tryz.prog 135 #[va,vb] w λe w'=>Divided w w' (ay xs) (ay ys) e/\Below w.heap.size w w':=by
 obtain⟨p,c,rfl,il,iC,ib⟩:=hr.u32;obtain⟨q,d,rfl,Wp,Rl,rZ⟩:=hs.u32;have Hs:=af hs;obtain⟨B,hB⟩:∃ B,B=w.heap.size:=⟨_,aa⟩;have HB:=af hB;obtain⟨a,ha⟩:∃ a,a=ay xs:=⟨_,aa⟩;obtain⟨b,hb⟩:∃ b,b=ay ys:=⟨_,aa⟩;have hal:(limbs a).length<=n:=by rw[ha,<-ib];exact mO hx
 have hbl:(limbs b).length<=m:=by rw[hb,<-rZ];exact mO hy
 refine bG λR' di=> ?_;go_enter Tryz.func135,Tryz.ntmps135
 go_wp2_with fail
 refine (oH _ n xs _ hr hx ab).mono ?_;rintro e w1 ⟨v1,rfl,jM,bA⟩;rw[<-ha] at jM;go_wp2_with fail
 refine (oH _ m ys _ (hs.below bA) hy ab).mono ?_;rintro e w2 ⟨v2,rfl,qL,cC⟩;rw[<-hb] at qL;rw[<-ha,<-hb,<-hB] at di;have zS:Hid (w2.ownsRow B 117 1 v1 (limbs a).length (ints .u32 (limbs a))):=by show World.ownsRow ..;rw[hB];exact Own.below jM cC
 have vF:Hid (w2.ownsRow B 117 1 v2 (limbs b).length (ints .u32 (limbs b))):=Own.mono qL (by rw[hB];exact bA.size);have Dk:Hid (Below B w w2):=by show Below ..;rw[hB];exact Below.aR bA cC
 have hBs:B<=w2.heap.size:=by rw[hB];exact Dk.out.size
 obtain⟨p1,c1,rfl,_,hc1m,_⟩:=Own.form zS.out;obtain⟨p2,c2,rfl,_,hc2m,_⟩:=Own.form vF.out;clear hr hs hx hy jM qL bA cC ib rZ ha hb hB Hs;unfold maxLen at hc1m hc2m;generalize Yq:(limbs a).length=la at*;generalize Rn:(limbs b).length=lb at*;have Yo:=af Yq;have Yr:=af Rn;by_cases yj:b=0
 ·obtain rfl:lb=0:=by rw[yj,dy] at Rn;exact Rn.symm
  clear Yq Rn;go_wp2_with fail
  go_ret3
  exact di.out _ _ ⟨.inl ⟨yj,aa⟩,Dk.out⟩
 ·have hlb0:lb≠0:=λh=>yj (wB (by rw[Yr.out];exact h));have hz:((lb:Int) == 0)=false:=by rw[iZ];omega
  have HNZ:=af yj;clear yj Yq Rn;go_wp2_with fail
  refine (Lv _ _ la lb (limbs a) (limbs b) _ (Rd.own zS.out) (Rd.own vF.out) (aK a) (aK b)).mono ?_;rintro e w3 ⟨rfl,k3,rfl⟩;rw[aB,aB];by_cases Dd:a<b
  ·have hc:kD a b<0:=oD.2 Dd;generalize kD a b=cv at hc ⊢;go_wp2_with fail
   go_ret3
   refine di.out _ _ ⟨.inr ⟨HNZ.out,_,_,aa,?_,?_⟩,Below.drewN Dk.out _⟩
   ·rw[CW Dd,dy];exact qF _ _ _ _
   ·rw[Ac Dd,Yo.out];exact Own.mono (Own.drewN zS.out _) (by have:=HB.out;omega)
  ·have hc:0<=kD a b:=by have:=mt (@oD a b).1 Dd;omega
   generalize kD a b=cv at hc ⊢;have HAB:=af Dd;have Zd:=af (Own.drewN zS.out k3);have WE:=af (Own.drewN vF.out k3);have Yl:=af (Below.drewN Dk.out k3);have Zn:B<=(w2.drewN k3).heap.size:=hBs;clear zS vF Dk hBs Dd;generalize w2.drewN k3=w3 at*;by_cases hlb1:lb=1
   ·have HL1:=af hlb1;subst hlb1;obtain⟨gb,ob,t,rfl,_,htk,hct⟩:=(Rd.own WE.out).cellAt (k:=0) ab;have ht4:=(aK b).at htk
    have htb:t=b:=by
     have h1:=cj (limbs b) 0;rw[getD_some htk,cZ (by rw[Yr.out];omega),aB] at h1;simp[ij] at h1;omega
    have HTB:=af htb;rw[pO] at hct;have Ws:=mP hct;simp only at Ws;clear htk htb hz hlb0;go_wp2_with fail
    refine (Au _ la t (limbs a) _ (Rd.own Zd.out) (aK a) ab ht4).mono ?_;rintro e w4 ⟨⟨h,rfl⟩|⟨h,v4,rfl,AD⟩,ic⟩
    ·exact absurd (by rw[<-HTB.out];exact h) HNZ.out
    rw[aB] at AD ⊢;have HO5:=af (Own.mono AD Zn);have Zo:=af (Yl.out.trans (ic.mono Zn));have WG:B<=w4.heap.size:=bj Zn ic.size;have hrt:a%t<4294967296:=Nat.lt_trans (gC _ ab) ht4;obtain⟨r,hr⟩:∃ r,r=a%t:=⟨_,aa⟩;rw[<-hr] at hrt ⊢;have HR:=af hr;clear AD ic hct Ws h hr;go_wp2_with fail
    refine (oH _ 1 [r] _ (Rd.lit1 aa) (ez.cons hrt ez.nil) ab).mono ?_;rintro e w5 ⟨v5,rfl,GJ,hbx⟩;have iz:Below w4.heap.size w4 w5:=((iP w4.heap.size w4).alloc (bL _) (.cells #[.int .u32 (r:Int)] 117)).trans (hbx.mono bN);rw[show ay [r]=r by simp[jD,ij]] at GJ;go_wp2_with fail
    go_ret3
    refine di.out _ _ ⟨.inr ⟨HNZ.out,_,_,aa,?_,?_⟩,Zo.out.trans (iz.mono WG)⟩
    ·rw[<-HTB.out];exact Own.mono (Own.below HO5.out iz) (by have:=HB.out;omega)
    ·rw[<-HTB.out,<-HR.out];exact Own.mono GJ (by have:=HB.out;simp;omega)
   ·obtain⟨mm,GK⟩:∃ mm,lb=mm+2:=⟨lb-2,ab⟩;have HMM:=af GK;have lD:((lb:Int) == 1)=false:=by rw[iZ];omega
    obtain⟨l1,Jh⟩:∃ l1,lb=l1+1:=⟨lb-1,ab⟩;have HL1:=af Jh;have hwl1:IntKind.i64.wrap ((lb:Int)-1)=(l1:Int):=by rw[cV _ ab];omega
    obtain⟨gb,ob,t,rfl,_,htk,hct⟩:=(Rd.own WE.out).cellAt (k:=l1) ab;have ht4:=(aK b).at htk;have Ws:=mP hct;simp only at Ws;have htk2:(limbs b)[(limbs b).length-1]? =some t:=by rw[Yr.out,HL1.out];exact htk
    have ht0:=(Ow htk2).2;have HTK:=af htk2;have hl1lt:(l1:Int)<(lb:Int):=ab;clear htk htk2 hlb1 GK Jh;go_wp2_with fail
    refine (OH t _ ht4 ht0).mono ?_;rintro e w4 ⟨⟨u,rfl,hu32,htu⟩,rfl⟩;go_wp2_with fail
    refine (BV _ lb b (u:Int) (limbs b) _ (Rd.own WE.out) (aK b) (aB b) ab ab ab).mono ?_;rintro e w4 ⟨⟨_,h,_⟩|⟨_,v4,rfl,AD⟩,ic⟩
    ·omega
    have es:kY b (u:Int)=b*2^u:=by unfold kY;rw[if_pos ab,dC]
    rw[es] at AD;have UA:(limbs (b*2^u)).length=lb:=by rw[OV HNZ.out HTK.out hu32 htu];exact Yr.out
    have sY:b*2^u≠0:=Nat.mul_ne_zero HNZ.out (Nat.pos_iff_ne_zero.1 (vB ab));have hle4:b*2^u<=a*2^u:=pK _ (by have:=HAB.out;omega);have HDV:=af (WB (a:=a) (b:=b) (u:=u));have HMD:=af (WC (a:=a) (b:=b) (u:=u));have hla5:=Dh a u hu32;rw[Yo.out] at hla5
    have HES:Hid (kY ((a%b)*2^u) (-(u:Int))=a%b):=by
     show _=_;unfold kY;by_cases h0:u=0
     ·subst h0;simp
     ·rw[if_neg ab,Int.neg_neg,dC,Nat.mul_div_cancel _ (vB ab)]
    have HES2:Hid (kY a (u:Int)=a*2^u):=by show _=_;unfold kY;rw[if_pos ab,dC]
    generalize Ja:b*2^u=b' at*;generalize ha':a*2^u=a' at*;rw[UA] at AD;have hlb5:lb<=(limbs a').length:=by rw[<-UA];exact eJ hle4
    obtain⟨gy,cy,rfl,hgy3,hgy4⟩:=Own.Fq AD ab;have HY4:=af AD;have Zo:=af (Yl.out.trans (ic.mono Zn));have WG:B<=w4.heap.size:=bj Zn ic.size;have HA4:=af (Own.below Zd.out ic);have OW:=af UA;clear AD ic htu ht0 ht4 hct Ws UA hle4 es HTK Zd WE;go_wp2_with fail
    refine (BV _ la a (u:Int) (limbs a) _ (Rd.own HA4.out) (aK a) (aB a) ab ab ab).mono ?_;rintro e w5 ⟨⟨_,h,_⟩|⟨_,v5,rfl,GJ⟩,iz⟩
    ·omega
    rw[HES2.out] at GJ;generalize hl5:(limbs a').length=la' at*;have HL5:=af hl5;have HA5:=af GJ;have HY5:=af (Own.below HY4.out iz);have HB5:=af (Zo.out.trans (iz.mono WG));have hs5:=iz.size;have Zp:=af iz;obtain⟨p5,c5,rfl,_,_,_⟩:=Own.form GJ;obtain⟨N,hN⟩:∃ N,N=la' +1:=⟨_,aa⟩;have HNN:=af hN;obtain⟨mq,hmq⟩:∃ mq,N=mq+lb:=⟨N-lb,ab⟩;have HMQ:=af hmq;have hmq0:0<mq:=ab;have hwm:IntKind.i64.wrap ((N:Int)-(lb:Int))=(mq:Int):=by rw[cV _ ab];omega
    obtain⟨i0,hi,pX,lD,uw⟩:=info_parts og;have hN30:N<=1073741824:=ab;have hla30:la'<=1073741824:=ab;have hmq30:mq<=1073741824:=ab;clear GJ iz hl5 hmq HA4 hN
    go_wp2_with (first
     | (at_builtin;refine gh aa _ _ 22 aa w4.heap.size 117 i0 (.int .u32 0) 4 rL hi pX lD uw aa HA5.out aa aa (d:=0) aa ab ab hs5 ?_;intro v6 w6 UB Sf;rw[<-HNN.out] at UB;obtain⟨ga,ca,rfl,hga5,hga6⟩:=Own.Fq UB (by have:=HNN.out;omega))
     | (at_make;refine wpList_make_full _ aa _ _ 22 aa B 117 i0 (.int .u32 0) 1 rL hi pX lD .i64 .i64 _ _ mq aa aa (by have:=HMQ.out;omega) (by have:=HMQ.out;omega) (by rw[uw];have:=HMQ.out;omega) (by unfold maxLen;have:=HMQ.out;omega) (by have:=(Sf w4 Zp.out).size;omega) ?_;intro w7 hown7 hgr7))
    obtain⟨gq,hgq⟩:∃ gq,gq=w6.heap.size:=⟨_,aa⟩;have Zq:=Sf w4 Zp.out;have hb67:=Se hgr7;have UC:=Own.made hown7;rw[ma] at UC;rw[<-hgq] at UC ⊢;have hne1:ga≠gq:=ab;have hne2:gy≠ga:=ab;have hne3:gy≠gq:=by have:=Zq.size;omega
    have HA7:Hid (w7.ownsRow B 117 1 (.slice (some ⟨ga,0,none⟩) N ca) N (ints .u32 (limbs a'++[0]))):=Own.mono (Own.below UB hb67) WG;have HQ7:=af UC;have HY7:Hid (Rd w7 1 (.slice (some ⟨gy,0,none⟩) lb cy) lb (ints .u32 (limbs b'))):=(Rd.own (Own.below HY4.out Zq)).below hb67;have HB7:Hid (Below B w w7):=(Zo.out.trans (Zq.mono WG)).trans (hb67.mono (bj WG Zq.size));have HST:=af (WD (N:=N) (mq:=mq) (lb:=lb) (a:=a') (b:=b') (by rw[HL5.out];exact HNN.out) HMQ.out OW.out sY);clear UB hown7 hgr7 Sf Zq hb67 UC hgq HA5 HY5 HY4 HB5 Zo Zp hi pX lD uw;go_loopw [12] (λiv wr=>Zm w B N ca lb mq b' a' ga (.slice (some ⟨gy,0,none⟩) lb cy) (.slice (some ⟨gq,0,none⟩) mq mq) iv wr) (λiv _=>(intOf iv+1).toNat)
    case atStart=>exact⟨mq,_,[],bL _,aa,by rw[bB,HL5.out,HNN.out];rfl,(aK a').append (ez.cons ab ez.nil),HST.out.1,bN,ez.nil,by rw[HST.out.2];simp[ij],HA7.out,by simpa using HQ7.out,HY7.out,HB7.out⟩
    case round=>
     obtain⟨k,us,qs,RQ,rfl,OX,hulim,OB,OY,hqlim,hval,hoa,OZ,hry,qm⟩:=hrel;have HUL:=af OX;have GL:=af hulim;have HDROP:=af OB;have HQL:=af OY;have HQLIM:=af hqlim;have HVAL:=af hval;have HOA:=af hoa;have HOQ:=af OZ;have HRY:=af hry;have lM:=af qm;clear OX hulim OB OY hqlim hval hoa OZ hry qm;by_cases Di:k=0
     ·subst Di;have hv:=HVAL.out;have hd:=HDROP.out;rw[List.drop_zero] at hd;rw[Nat.pow_zero,Da] at hv
      have hq1:ay qs=a/b:=by
       rw[<-HDV.out,<-hv,Nat.add_mul_div_left _ _ ab,CW hd,jt]
      have nA:ay us=(a%b)*2^u:=by
       rw[<-HMD.out,<-hv,Nat.add_mul_mod_self_left,Ac hd]
      have HQ1:=af hq1;have HR1:=af nA;have hBr:B<=w.heap.size:=by have:=HB.out;omega
      have hBw:=lM.out.size;clear hv hd hq1 nA;go_wp2_with fail
      refine (BV _ N ((a%b)*2^u) (-(u:Int)) us _ (Rd.own HOA.out) GL.out HR1.out ab ab ab).mono ?_;rintro e w8 ⟨⟨_,h,_⟩|⟨_,v8,rfl,Kj⟩,vG⟩
      ·omega
      rw[HES.out] at Kj;have HO8:=af (Own.mono Kj (bj hBr hBw));have HB8:=af (lM.out.trans (vG.mono (bj hBr hBw)));have hq8:=Own.below HOQ.out vG;rw[List.replicate_zero,ma] at hq8;have HQ8:=af hq8;have hs8:=vG.size;clear Kj vG hq8;go_wp2_with fail
      refine (oH _ mq qs _ (Rd.own HQ8.out) HQLIM.out ab).mono ?_;rintro e w9 ⟨v9,rfl,hown9,Sg⟩;rw[HQ1.out] at hown9;go_wp2_with fail
      go_ret3
      refine di.out _ _ ⟨.inr ⟨HNZ.out,_,_,aa,?_,?_⟩,HB8.out.trans (Sg.mono ab)⟩
      ·exact Own.mono hown9 ab
      ·exact Own.mono (Own.below HO8.out Sg) (by have:=HB.out;omega)
     ·obtain⟨i,hi⟩:∃ i,k=i+1:=⟨k-1,ab⟩;subst hi;have hjj:((i+1:Nat):Int)-1=(i:Int):=ab;rw[hjj];have hmq:=HMQ.out;have GK:=HMM.out;have Jh:=HL1.out;obtain⟨hi,h1⟩:∃ hi,us[i+(mm+2)]? =some hi:=⟨_,ba (by rw[HUL.out];omega)⟩;obtain⟨mid,h2⟩:∃ mid,us[i+(mm+1)]? =some mid:=⟨_,ba (by rw[HUL.out];omega)⟩;obtain⟨low,h3⟩:∃ low,us[i+mm]? =some low:=⟨_,ba (by rw[HUL.out];omega)⟩;obtain⟨v1,h4⟩:∃ v1,(limbs b')[mm+1]? =some v1:=⟨_,ba (by rw[OW.out];omega)⟩;obtain⟨v2,h5⟩:∃ v2,(limbs b')[mm]? =some v2:=⟨_,ba (by rw[OW.out];omega)⟩;have Nu:0<v1:=Nat.pos_iff_ne_zero.2 (Ow (n:=b') (t:=v1) (by rw[OW.out,show lb-1=mm+1 by omega];exact h4)).2;have hwin:=WA (m:=mm) HUL.out ab GL.out (aK b') (by rw[OW.out];exact GK) (aB b') HDROP.out h1 h2 h3 h4 h5 Nu;have LH:=af hwin;have hhi:=hwin.hi_le;have z1:=GL.out.at h1;have z2:=GL.out.at h2;have z3:=GL.out.at h3;have z4:=(aK b').at h4;have z5:=(aK b').at h5;obtain⟨x1,e1,c1',f1⟩:=Own.lC HOA.out (j:=i+(mm+2)) ab;obtain⟨x2,e2,c2',f2⟩:=Own.lC HOA.out (j:=i+(mm+1)) ab;obtain⟨x3,e3,vZ,f3⟩:=Own.lC HOA.out (j:=i+mm) ab;rw[h1] at e1;rw[h2] at e2;rw[h3] at e3;obtain rfl:=Ae e1;obtain rfl:=Ae e2;obtain rfl:=Ae e3;obtain⟨g4,o4,x4,hp4,hg4,e4,c4'⟩:=HRY.out.cellAt (k:=mm+1) ab;obtain⟨g5,o5,x5,hp5,Rp,e5,c5'⟩:=HRY.out.cellAt (k:=mm) ab;simp only[Option.some.injEq,Addr.mk.injEq,and_true] at hp4 hp5;obtain⟨rfl,rfl⟩:=hp4;obtain⟨rfl,hz5⟩:=hp5;subst hz5;rw[h4] at e4;rw[h5] at e5;obtain rfl:=Ae e4;obtain rfl:=Ae e5;rw[jt] at c4' c5';obtain⟨J0,hJ0⟩:∃ J0,J0=i+(mm+2):=⟨_,aa⟩;obtain⟨J1,hJ1⟩:∃ J1,J1=i+(mm+1):=⟨_,aa⟩;obtain⟨J2,hJ2⟩:∃ J2,J2=i+mm:=⟨_,aa⟩;rw[<-hJ0] at c1' f1;rw[<-hJ1] at c2' f2;rw[<-hJ2] at vZ f3;rw[show mm+1=l1 by omega] at c4';obtain⟨J3,hJ3⟩:∃ J3,J3=J0+1:=⟨_,aa⟩;have hw0:IntKind.i64.wrap ((i:Int)+(lb:Int))=(J0:Int):=by rw[cV _ ab];omega
      have xH:IntKind.i64.wrap ((J0:Int)-1)=(J1:Int):=by rw[cV _ ab];omega
      have Ym:IntKind.i64.wrap ((J0:Int)-2)=(J2:Int):=by rw[cV _ ab];omega
      have hw4:IntKind.i64.wrap ((lb:Int)-2)=(mm:Int):=by rw[cV _ ab];omega
      have hw5:IntKind.i64.wrap ((J0:Int)+1)=(J3:Int):=by rw[cV _ ab];omega
      have b0:(J0:Int)<(N:Int):=ab;have b1:(J1:Int)<(N:Int):=ab;have b2:(J2:Int)<(N:Int):=ab;have b3:(l1:Int)<(lb:Int):=ab;have b4:(mm:Int)<(lb:Int):=ab;have t1:=mP c1';have t4:=mP c4';simp only at t1 t4;have HJ0:=af hJ0;have HJ3:=af hJ3;have RY:i<mq:=ab
      have HCAP:Hid (N<=ca/\ca<=9223372036854775807):=by
       obtain⟨_,_,hv,hcap,hcapm,_⟩:=Own.form HOA.out;simp only[Value.slice.injEq,true_and] at hv;obtain⟨_,rfl⟩:=hv;unfold maxLen at hcapm;exact⟨hcap,ab⟩
      clear e1 e2 e3 e4 e5 h1 h2 h3 h4 h5 hwin hJ0 hJ1 hJ2 hJ3 hmq GK Jh hg4 Rp;go_wp2_with fail
      go_quiet ((go_at_call 146;exact Sd (Wy hi mid low v1 v2 _ hhi z2 z3 Nu z4 z5) ⟨_,aa⟩))
      have hcap:=HCAP.out;have b5:(J3:Int)<=(ca:Int):=by have:=HJ3.out;omega
      have b6:(i:Int)<=(J3:Int):=by have:=HJ3.out;have:=HJ0.out;omega
      have b7:(i:Int)<(ca:Int):=by have:=HJ3.out;have:=HJ0.out;omega
      have b8:¬ ca-i=0:=ab;have b9:ca≠i:=ab;clear c1' c2' vZ c4' c5' f1 f2 f3 xH Ym hw4 b1 b2 b3 b4;go_wp2_with fail
      obtain⟨G,hG⟩:∃ G,G=lT ((hi*4294967296+mid)*4294967296+low) (v1*4294967296+v2):=⟨_,aa⟩;have Pa:=LH.out.near;rw[<-hG] at Pa ⊢;have hG4:G<=4294967295:=by rw[hG];exact Nat.min_le_left _ _
      have hoa:=Own.drewN HOA.out nq;rw[LH.out.split] at hoa;have hJ:J3-i=mm+3:=by have:=HJ3.out;have:=HJ0.out;omega
      refine (Zk ga N ca i (J3-i) (ca-i) lb G B (us.take i) _ _ (limbs b') _ _ hoa LH.out.pre (by rw[LH.out.len,hJ]) LH.out.lim (Rd.drewN HRY.out nq) (aK b') (λp c a h1 h2=>by cases h1;cases h2;exact hne2) (by rw[hJ,HMM.out]) (by have:=HJ3.out;omega) ab ab (by rw[aB];exact OU Pa.2)).mono ?_;rintro e w8 ⟨q',rfl,A',hA'l,Zr,hA'v,hq',Kj,hg8⟩;rw[aB] at hA'v hq';have tp:0<b':=ab;obtain⟨hqd,Zl⟩:=Sb tp Pa.1 Pa.2 hA'v hq';have hq4:q' <4294967296:=by rcases hq' with ⟨_,h⟩|⟨_,h⟩ <;> omega
      have hst:=Sc LH.out.split LH.out.pre LH.out.zero hA'v Zl HVAL.out;have hq8:=(Own.drewN HOQ.out nq).kept hg8 (.inr (by simp[Value.ownBlock];omega));have hry8:=(Rd.drewN HRY.out nq).Ay hg8 (λp c a h1 h2=>by cases h1;cases h2;exact hne2);have hbw8:Below B w w8:=(Below.drewN lM.out nq).grown hg8 (bj (by have:=HB.out;omega) lM.out.size) (λk hk=>by cases hk;exact (Own.lt HOA.out).1);obtain⟨x8,hx8,hc8,hf8⟩:=Own.lC hq8 (j:=i) RY;have hl8:=mP hc8;simp only at hl8
      have Pb:(us.take i++(A'++us.drop (i+(mm+3)))).length=N:=by
       have h1:=au List.length LH.out.split;rw[HUL.out] at h1;simp only[List.length_append] at h1 ⊢;omega
      have OJ:ez (us.take i++(A'++us.drop (i+(mm+3)))):=(GL.out.take _).append (Zr.append (GL.out.drop _));have hq9:=Own.kE (j:=i) (x:=q') hq8;rw[LG] at hq9
      have HREL:Hid (Zm w B N ca lb mq b' a' ga (.slice (some ⟨gy,0,none⟩) lb cy) (.slice (some ⟨gq,0,none⟩) mq mq) (.int .i64 ((i:Int)-1)) (w8.setCell ⟨gq,i,none⟩ (.int .u32 (q':Int)))):=
       ⟨i,_,q'::qs,ab,rfl,Pb,OJ,hst.1,by rw[fh,HQL.out];omega,ez.cons hq4 HQLIM.out,hst.2,Kj.kept GI (.inr (by simp[Value.ownBlock];omega)),hq9,hry8.Ay GI (λp c a h1 h2=>by cases h1;cases h2;exact hne3),hbw8.setCell (p:=⟨gq,i,none⟩) (Own.lt hq8).1 _⟩
      clear hA'l Zr hA'v hq' Kj hg8 hqd Zl hst hq8 hry8 hbw8 hx8 Pb OJ hq9 hoa Pa hG hJ;go_wp2_with fail
      go_roundw
      case rel=>exact HREL.out
      case measure=>simp[intOf]
end
end Go.Proofs.YtabalinjfgcfeaaGreat
