/-DD of the proof,laid behind one another. -/
import Derived.Lib.Hide
import Derived.WalkKit
import Derived.WalkSpells
import Derived.WalkLawsBesides
import Derived.Outline
import Derived.Test.YtlifeokjcgngjaaGreatRows
import Derived.Deep.QuietTactic
import Derived.BigQuiet
import Derived.Lib.SliceRun
import Derived.Lib.AppendZeros
import Derived.RegionCalls
import Derived.Deep.RegionWith
import Derived.Lib.BitFns
import Derived.WalkMore
set_option linter.all false
set_option maxHeartbeats 64000000
namespace Go.Proofs.YtlifeokjcgngjaaGreat
def aa:=@rfl
def ay:=@List.mem_singleton
def ag:=@Go.Lib.hid
def az:=@decide_eq_false
def bj:=@List.getElem?_eq_getElem
def aw:=@decide_eq_true
def aj:=@trivial
def ak:=@congrArg
def cM:=@List.getElem?_eq_some_iff
def aQ:=@List.map_append
def aJ:=@Int.ofNat_lt
def bJ:=@List.length_map
def dM:=@List.take_of_length_le
def cw:=@List.length_take
def dz:=@List.mem_of_getElem?
def bG:=@Nat.le_trans
def bl:=@Nat.le_refl
def cO:=@Go.IntWalk.i64_in
def dV:=@Int.toNat_natCast
def fG:=@List.getD_eq_getElem?_getD
def eg:=@List.all_eq_true
def eQ:=@beq_eq_false_iff_ne
def dp:=@Nat.mul_add
def fH:=@List.length_append
def eD:=@List.mem_cons
def jG:=@List.getElem?_append_left
def eG:=@List.mem_map
def lX:=@Array.getD_eq_getD_getElem?
def gT:=@List.getElem?_map
def eK:=@Nat.zero_le
def fe:=@Go.Proofs.Tryz.func106
def kC:=@Nat.mul_le_mul_right
def fX:=@Nat.mul_assoc
def gW:=@Nat.min_eq_left
def rp:=@List.eq_nil_of_length_eq_zero
def ff:=@Nat.add_mul
def mU:=@List.mem_of_mem_take
def lZ:=@Nat.mul_le_mul_left
def jP:=@Bool.and_eq_true
def tM:=@List.getElem?_append_right
def oD:=@Nat.eq_of_beq_eq_true
def pU:=@List.drop_of_length_le
def tN:=@List.drop_eq_getElem_cons
def jQ:=@List.append_nil
def gX:=@Nat.le_of_eq
def oG:=@List.getElem?_of_mem
def kV:=@List.any_eq_true
def pV:=@List.mem_append_right
def uA:=@Array.getElem?_eq_some_iff
def ir:=@Nat.pow_succ
def iu:=@Nat.mul_comm
def fY:=@Nat.mod_lt
def tP:=@Int.eq_ofNat_of_zero_le
def iM:=@Go.Proofs.Tryz.func107
def ru:=@List.getElem?_eq_none
def kW:=@List.all_append
def oH:=@Nat.eq_zero_or_pos
def kD:=@Nat.mul_le_mul
def nO:=@of_decide_eq_true
def wA:=@Array.getElem?_eq_getElem
def oI:=@Go.World.ownsRow_nil
def mV:=@List.mem_append
def tQ:=@Nat.pow_le_pow_right
def gY:=@Go.RowKit.Below.refl
def jR:=@Nat.zero_add
def pW:=@Go.Proofs.Tryz.underlying23
def kX:=@List.map_cons
def tR:=@List.map_congr_left
def uB:=@List.mem_of_mem_drop
def uC:=@List.mem_append_left
def jH:=@Go.Proofs.Tryz.func54
def tS:=@Nat.lt_of_lt_of_le
def wB:=@List.take_append_drop
def kY:=@Go.Proofs.Tryz.func191
def pX:=@List.nil_append
def ry:=@Array.toList_inj
def rz:=@Array.toList_map
def uD:=@List.getElem?_drop
def uE:=@Go.RowKit.Below.heap_setCell
def xV:=@List.set_append_right
def mW:=@Rat.add_zero
def DF:=@Int.tdiv_eq_ediv_of_nonneg
def uF:=@List.append_assoc
def mc:=@Go.Proofs.Tryz.func37
def nP:=@Nat.add_zero
def mX:=@Go.Proofs.Tryz.func38
def mY:=@Go.Proofs.Tryz.func21
def oJ:=@Nat.sub_self
def wC:=@List.flatten_cons
def DG:=@List.filter_cons_of_pos
def DI:=@List.filter_cons_of_neg
def He:=@Int.tmod_eq_emod_of_nonneg
def nQ:=@Go.Proofs.Tryz.func70
def wD:=@List.length_cons
def pY:=@Nat.mul_zero
def wE:=@Bool.not_eq_true
def pZ:=@List.map_map
def qa:=@Nat.ne_of_lt
def qd:=@Nat.ne_of_gt
def oK:=@Go.Proofs.Tryz.func90
def DJ:=@List.length_replicate
def wF:=@Int.natCast_mul
def Le:=@Array.getElem?_setIfInBounds
def rA:=@Go.Proofs.Tryz.func229
def wH:=@List.length_zip
def AY:=@List.getElem?_take
def AZ:=@Int.natAbs_natCast
def DK:=@List.mem_cons_of_mem
def xW:=@Nat.mod_eq_of_lt
def Hf:=@Go.World.block_lt_of_cell?
def Hg:=@Nat.le_mul_of_pos_right
def qe:=@Go.Proofs.Tryz.func79
def qf:=@Go.Proofs.Tryz.func45
def tU:=@Nat.lt_or_ge
def tV:=@Go.Proofs.Tryz.func142
def Hh:=@Option.map_eq_some_iff
def Ba:=@Rat.divInt_eq_div
def Bb:=@List.length_range
def tW:=@Go.Proofs.Tryz.func124
def DL:=@Array.length_toList
def xX:=@Nat.mod_add_div
def rB:=@Nat.mul_one
def Lf:=@List.mem_or_eq_of_mem_set
def Lg:=@Int.sign_eq_zero_iff_zero
def Hi:=@Nat.le_div_iff_mul_le
def Bc:=@Nat.div_eq_of_lt
def Bd:=@List.length_drop
def Ru:=@List.eq_nil_iff_forall_not_mem
def uG:=@Go.Proofs.Tryz.func196
def tX:=@Nat.pow_add
def tY:=@Nat.one_mul
def tZ:=@Go.RowKit.Below.block
def Be:=@Option.some.inj
def Bf:=@List.mem_filter
def Hj:=@Option.some_ne_none
def wR:=@Go.Proofs.Tryz.func197
def wS:=@Go.Proofs.Tryz.func184
def xY:=@Nat.add_assoc
def uH:=@Nat.pow_pos
def uI:=@Go.Proofs.Tryz.func52
def Hk:=@Nat.xor_lt_two_pow
def Bg:=@List.mem_range
def Hl:=@Go.Proofs.Tryz.underlying315
def Lh:=@Nat.div_lt_iff_lt_mul
def Rv:=@List.getLast?_eq_getElem?
def Rx:=@Decidable.byContradiction
def xZ:=@Nat.add_comm
def Hm:=@Nat.mul_left_comm
def Li:=@Go.World.cell?_of_block
def wT:=@Go.Proofs.Tryz.func99
def ya:=@Go.Proofs.Tryz.func217
def yc:=@Go.Proofs.Tryz.func115
def Hn:=@Decidable.not_not
def Ry:=@List.getElem?_take_of_lt
def Lj:=@Nat.div_mul_le_self
def Rz:=@Nat.add_sub_cancel_left
def Xb:=@List.drop_append_of_le_length
def Xc:=@List.take_append_of_le_length
def ye:=@Rat.div_def
def yf:=@Go.Proofs.Tryz.func80
def yg:=@Go.Proofs.Tryz.func48
def Lk:=@List.mem_cons_self
def Ll:=@List.mem_replicate
def Bh:=@Go.Proofs.Tryz.func100
def Bi:=@Go.Proofs.Tryz.func267
def RA:=@Nat.le_mul_of_pos_left
def Bj:=@Go.Proofs.Tryz.func141
def Lm:=@Int.lt_or_lt_of_ne
def Bk:=@Go.Proofs.Tryz.func235
def Bl:=@Go.Proofs.Tryz.func179
def Bm:=@Rat.zero_add
def Bn:=@Go.Proofs.Tryz.func240
def Ho:=@Nat.div_add_mod
def Hq:=@Bool.or_eq_true
def Ht:=@List.length_set
def RB:=@List.length_filter_le
def Ln:=@Nat.lt_trichotomy
def Lp:=@List.ext_getElem?
def Lq:=@List.foldl_append
def Xd:=@Nat.add_mul_mod_self_right
def Xe:=@Nat.lt_of_mul_lt_mul_right
def RD:=@List.replicate_succ'
def Bo:=@Go.Proofs.Tryz.func88
def Xf:=@Int.fdiv_eq_ediv_of_nonneg
def Bp:=@Go.Proofs.Tryz.func81
def Bq:=@Go.Proofs.Tryz.func25
def Xg:=@Int.fmod_eq_emod_of_nonneg
def Lr:=@List.cons_append
def DM:=@Nat.zero_mul
def Ls:=@Go.Proofs.Tryz.underlying5
def DN:=@Go.Proofs.Tryz.func202
def Xh:=@Classical.byContradiction
def Xj:=@List.getElem?_zip_eq_some
def RE:=@Int.gcd_eq_zero_iff
def Lt:=@Nat.div_le_self
def Lu:=@List.foldl_cons
def Lv:=@Rat.divInt_zero
def RF:=@Nat.and_lt_two_pow
def RG:=@Go.Proofs.Tryz.underlying293
def RH:=@decide_eq_true_iff
def DR:=@Go.Proofs.Tryz.func85
def DT:=@Go.Proofs.Tryz.func51
def Hu:=@Go.Proofs.Tryz.func208
def RI:=@Go.IntKind.wrap_u32'
def Hv:=@Go.Proofs.Tryz.func195
def Hw:=@Go.Proofs.Tryz.func139
def RJ:=@List.getElem?_set
def Lw:=@List.map_take
def Lx:=@Rat.floor_def
def Hx:=@Nat.pow_mul
def Hy:=@Go.Proofs.Tryz.func84
def Hz:=@Go.Proofs.Tryz.func89
def HF:=@Go.Proofs.Tryz.func42
def HI:=@Go.Proofs.Tryz.func39
section
def val (B:Nat):List Nat->Nat
 | []=>0
 | x::xs=>x+B*val B xs
def gi (B:Nat) (xs:List Nat):Prop:=∀ x∈xs,x<B
variable {P:Prop}
theorem ae (h:P:=by omega):P:=h
def kZ (B:Nat) (n:Nat):List Nat:=
 if _h:n=0\/B<2 then [] else n%B::kZ B (n/B)
termination_by n
decreasing_by
 have:n≠0/\2<=B:=ae;exact Nat.div_lt_self ae ae
theorem val_nil (B:Nat):val B []=0:=rfl
theorem jS (B x:Nat) (xs:List Nat):val B (x::xs)=x+B*val B xs:=rfl
theorem gf (B:Nat):kZ B 0=[]:=by rw[kZ];simp
variable {B:Nat}
theorem ld {n:Nat} (hB:2<=B) (hn:n≠0):kZ B n=n%B::kZ B (n/B):=by
 rw[kZ,dif_neg ae]
theorem gi.nil (B:Nat):gi B []:=λ_ h=>by cases h
theorem gi.cons {B x:Nat} {xs:List Nat} (hx:x<B) (h:gi B xs):gi B (x::xs):=by
 intro y hy;cases hy with
 | head=>exact hx
 | tail _ h'=>exact h y h'
variable {xs:List Nat} {x:Nat}
theorem gi.head (h:gi B (x::xs)):x<B:=h x (Lk ..)
theorem gi.tail (h:gi B (x::xs)):gi B xs:=λy hy=>h y (DK _ hy)
theorem gi.take (h:gi B xs) (k:Nat):gi B (xs.take k):=λy hy=>h y (mU hy)
theorem gi.drop (h:gi B xs) (k:Nat):gi B (xs.drop k):=λy hy=>h y (uB hy)
variable {ys:List Nat}
theorem gi.append (h:gi B xs) (h':gi B ys):gi B (xs++ys):=by
 intro y hy;rcases mV.1 hy with hy|hy
 ·exact h y hy
 ·exact h' y hy
theorem gi.at (h:gi B xs) {k:Nat} (hk:xs[k]? =some x):x<B:=h x (dz hk)
theorem gi.replicate (hB:0<B) (k:Nat):gi B (List.replicate k 0):=λy hy=>by
 rw[Ll] at hy;omega
theorem uJ (hB:2<=B):∀ n,gi B (kZ B n):=by
 intro n
 induction n using Nat.strongRecOn with
 | _ n ih=>
   by_cases hn:n=0
   ·subst hn;rw[gf];exact gi.nil B
   ·rw[ld hB hn];exact gi.cons (fY _ ae) (ih _ (Nat.div_lt_self ae ae))
theorem oL (hB:2<=B):∀ n,val B (kZ B n)=n:=by
 intro n
 induction n using Nat.strongRecOn with
 | _ n ih=>
   by_cases hn:n=0
   ·subst hn;rw[gf];rfl
   ·rw[ld hB hn,jS,ih _ (Nat.div_lt_self ae ae)];exact xX n B
theorem uK:∀ {xs:List Nat},gi B xs->val B xs<B^xs.length:=by
 intro xs
 induction xs with
 | nil=>intro _;simp[val]
 | cons x xs ih=>
   intro h;have h1:=ih h.tail;have hx:=h.head;rw[jS,wD,ir,iu (B^xs.length) B]
   calc x+B*val B xs<B+B*val B xs:=by omega
    _=B*(val B xs+1):=by rw[dp];omega
    _<=B*B^xs.length:=lZ _ h1
theorem mj (B:Nat):∀ (xs ys:List Nat),val B (xs++ys)=val B xs+B^xs.length*val B ys:=by
 intro xs ys
 induction xs with
 | nil=>simp[val]
 | cons x xs ih=>
   rw[Lr,jS,ih,jS,wD,ir,dp,xY]
   congr 2
   rw[<-fX,iu B (B^xs.length)]
theorem rC (B:Nat) (xs:List Nat) (x:Nat):val B (xs++[x])=val B xs+B^xs.length*x:=by
 rw[mj];simp[val]
theorem kf (B k:Nat):val B (List.replicate k 0)=0:=by
 induction k with
 | zero=>rfl
 | succ k ih=>rw[List.replicate_succ,jS,ih];simp
theorem cZ (h:P:=by simp):P:=h
theorem DU (hB:2<=B):∀ {xs:List Nat},gi B xs->(∀ x,xs.getLast? =some x->x≠0)->kZ B (val B xs)=xs:=by
 intro xs
 induction xs with
 | nil=>intro _ _;exact gf B
 | cons x xs ih=>
   intro hd hl;have hx:=hd.head
   have hne:val B (x::xs)≠0:=by
    intro h0;rw[jS] at h0;have uv:x=0:=ae;cases xs with
    | nil=>exact hl x cZ uv
    | cons y ys=>
      have hv:val B (y::ys)=0:=by
       have:B*val B (y::ys)=0:=ae;rcases Nat.mul_eq_zero.1 this with h|h
       ·omega
       ·exact h
      have:=ih hd.tail (λz hz=>hl z (by rw[List.getLast?_cons_cons];exact hz));rw[hv,gf] at this;cases this
   rw[ld hB hne,jS];have h1:(x+B*val B xs)%B=x:=by rw[Nat.add_mul_mod_self_left];exact xW hx
   have h2:(x+B*val B xs)/B=val B xs:=by
    rw[Nat.add_mul_div_left _ _ ae,Bc hx];omega
   rw[h1,h2]
   congr 1
   cases xs with
   | nil=>exact gf B
   | cons y ys=>exact ih hd.tail (λz hz=>hl z (by rw[List.getLast?_cons_cons];exact hz))
theorem Tp (hB:2<=B):∀ n x,(kZ B n).getLast? =some x->x≠0:=by
 intro n
 induction n using Nat.strongRecOn with
 | _ n ih=>
   intro x hx;by_cases hn:n=0
   ·subst hn;rw[gf] at hx;cases hx
   ·rw[ld hB hn] at hx;by_cases h2:n/B=0
    ·rw[h2,gf] at hx;simp at hx
     have:n<B:=by
      rcases tU n B with h|h
      ·exact h
      ·have:=Nat.div_pos h (by omega:0<B);omega
     rw[xW this] at hx;omega
    ·rw[ld hB h2,List.getLast?_cons_cons,<-ld hB h2] at hx;exact ih _ (Nat.div_lt_self ae ae) x hx
variable {m:Nat}
theorem DV (hB:2<=B) {n:Nat} (h:kZ B m=kZ B n):m=n:=by
 have:=ak (val B) h
 rwa [oL hB,oL hB] at this
theorem gZ (hB:2<=B):∀ (k n:Nat),n<B^k->(kZ B n).length<=k:=by
 intro k
 induction k with
 | zero=>intro n h;have:n=0:=by simpa using h
         subst this;rw[gf];simp
 | succ k ih=>
   intro n h;by_cases hn:n=0
   ·subst hn;rw[gf];simp
   ·rw[ld hB hn,wD]
    have:n/B<B^k:=by
     rw[Lh ae]
     rwa [ir] at h
    have:=ih _ this;omega
theorem DW (hB:2<=B) {k n:Nat} (h:B^k<=n):k<(kZ B n).length:=by
 rcases tU k (kZ B n).length with h' |h'
 ·exact h'
 ·have h1:=uK (uJ hB n);rw[oL hB] at h1;have:=tQ (show 0<B by omega) h';omega
theorem fo (hB:2<=B) {n:Nat} (h:m<=n):(kZ B m).length<=(kZ B n).length:=by
 apply gZ hB;have h1:=uK (uJ hB n);rw[oL hB] at h1;omega
theorem JA (hB:2<=B) (h:gi B xs):(kZ B (val B xs)).length<=xs.length:=
 gZ hB _ _ (uK h)
theorem Ly (hB:2<=B) (n:Nat):n<B^(kZ B n).length:=by
 have h1:=uK (uJ hB n)
 rwa [oL hB] at h1
theorem Br (hB:2<=B) {n:Nat} (hn:n≠0):B^((kZ B n).length-1)<=n:=by
 rcases tU n (B^((kZ B n).length-1)) with h|h
 ·have h1:=gZ hB _ _ h;have h2:0<(kZ B n).length:=by rw[ld hB hn];simp
  omega
 ·exact h
theorem JB (hB:2<=B) {n:Nat}:kZ B n=[]↔n=0:=by
 constructor
 ·intro h;exact DV hB (h.trans (gf B).symm)
 ·rintro rfl;exact gf B
theorem uc (hB:2<=B) {n:Nat} (hn:n≠0):0<(kZ B n).length:=by
 rw[ld hB hn];simp
theorem mN (B:Nat) (xs:List Nat) (k:Nat) (hk:k<=xs.length):val B xs=val B (xs.take k)+B^k*val B (xs.drop k):=by
 conv=>lhs;rw[<-wB k xs]
 rw[mj,cw,gW hk]
theorem dc {α:Type} {xs:List α} {k:Nat} {x:α} (h:xs[k]? =some x):xs.take (k+1)=xs.take k++[x]:=by
 rw[List.take_add_one,h];rfl
theorem qg {k:Nat} (hk:xs[k]? =some 0):val B (xs.take (k+1))=val B (xs.take k):=by
 rw[dc hk,rC];simp
theorem oi (hB:2<=B) (hd:gi B xs) (hm:m<=xs.length) (hv:val B (xs.take m)=val B xs) (hl:m=0\/∃ x,xs[m-1]? =some x/\x≠0):
  kZ B (val B xs)=xs.take m:=by
 rw[<-hv];apply DU hB (hd.take m);intro x hx;rcases hl with rfl|⟨y,hy,Xk⟩
 ·simp at hx
 ·rw[Rv,cw,gW hm,AY] at hx
  split at hx
  ·rw[hy] at hx;cases hx;exact Xk
  ·cases hx
variable {a:Nat}
theorem oM (hx:gi B xs) {k b:Nat} (ha:xs[k]? =some a) (hb:ys[k]? =some b) (CX:a<b)
  (hh:xs.drop (k+1)=ys.drop (k+1)):val B xs<val B ys:=by
 have uw:k<xs.length:=(cM.1 ha).1;have qN:k<ys.length:=(cM.1 hb).1;rw[mN B xs (k+1) ae,mN B ys (k+1) ae,hh,dc ha,dc hb,rC,rC];have h1:=uK (hx.take k);rw[cw,gW ae] at h1 ⊢;rw[cw,gW ae]
 have h2:B^k*a+B^k<=B^k*b:=by
  calc B^k*a+B^k=B^k*(a+1):=by rw[dp];omega
   _<=B^k*b:=lZ _ CX
 omega
def au (xs:List Nat):Nat:=val 4294967296 xs
def limbs (n:Nat):List Nat:=kZ 4294967296 n
def eB (xs:List Nat):Prop:=gi 4294967296 xs
theorem eB.nil:eB []:=gi.nil _
theorem eB.cons {x:Nat} {xs:List Nat} (hx:x<4294967296) (h:eB xs):eB (x::xs):=gi.cons hx h
theorem eB.take (h:eB xs) (k:Nat):eB (xs.take k):=gi.take h k
theorem eB.drop (h:eB xs) (k:Nat):eB (xs.drop k):=gi.drop h k
theorem eB.append (h:eB xs) (h':eB ys):eB (xs++ys):=gi.append h h'
theorem eB.at (h:eB xs) {k:Nat} (hk:xs[k]? =some x):x<4294967296:=gi.at h hk
theorem aF (n:Nat):eB (limbs n):=uJ ae n
theorem ax (n:Nat):au (limbs n)=n:=oL ae n
theorem de:limbs 0=[]:=gf _
theorem fQ:au []=0:=rfl
theorem ia (x:Nat) (xs:List Nat):au (x::xs)=x+4294967296*au xs:=rfl
theorem fI (xs:List Nat) (x:Nat):au (xs++[x])=au xs+4294967296^xs.length*x:=rC _ xs x
theorem gL (xs ys:List Nat):au (xs++ys)=au xs+4294967296^xs.length*au ys:=mj _ xs ys
theorem jZ (h:eB xs):au xs<4294967296^xs.length:=uK h
theorem lg (h:eB xs):(limbs (au xs)).length<=xs.length:=JA ae h
theorem nH (k n:Nat) (h:n<4294967296^k):(limbs n).length<=k:=gZ ae k n h
theorem Ci {k n:Nat} (h:4294967296^k<=n):k<(limbs n).length:=DW ae h
theorem sw (n:Nat):n<4294967296^(limbs n).length:=Ly ae n
theorem JC {n:Nat} (hn:n≠0):4294967296^((limbs n).length-1)<=n:=Br ae hn
theorem eN {n:Nat} (h:m<=n):(limbs m).length<=(limbs n).length:=fo ae h
theorem Tq {n:Nat} (h:limbs m=limbs n):m=n:=DV ae h
theorem qO {n:Nat}:limbs n=[]↔n=0:=JB ae
theorem fp {n:Nat} (hn:n≠0):0<(limbs n).length:=uc ae hn
theorem uL {n:Nat} (h:(limbs n).length=0):n=0:=qO.1 (rp h)
theorem sx (h:eB xs) (hl:∀ x,xs.getLast? =some x->x≠0):limbs (au xs)=xs:=DU ae h hl
theorem xk (n x:Nat) (h:(limbs n).getLast? =some x):x≠0:=Tp ae n x h
def jx (a b:Nat):Int:=if a<b then-1 else if b<a then 1 else 0
theorem qh {b:Nat} (h:a<b):jx a b= -1:=by simp[jx,h]
theorem qi {b:Nat} (h:b<a):jx a b=1:=by simp[jx,h];omega
theorem yi (a:Nat):jx a a=0:=by simp[jx]
theorem mZ {a b:Nat}:(jx a b<0)↔a<b:=by unfold jx;split <;> (try split) <;> omega
theorem cH (xs:List Nat) (k:Nat):au (xs.take (k+1))=au (xs.take k)+4294967296^k*xs.getD k 0:=by
 by_cases h:k<xs.length
 ·rw[dc (bj h),fI,cw,gW ae];simp[List.getD,h]
 ·rw[dM ae,dM ae];simp[List.getD,List.getElem?_eq_none (by omega:xs.length<=k)]
theorem cU {k:Nat} (h:xs.length<=k):au (xs.take k)=au xs:=by rw[dM h]
theorem Lz (p s x y c X Y D:Nat) (h:D+p*c=X+Y) (hs:s=x+y+c):
  D+p*(s%4294967296)+p*4294967296*(s/4294967296)=(X+p*x)+(Y+p*y):=by
 subst hs
 have h2:p*((x+y+c)%4294967296)+p*4294967296*((x+y+c)/4294967296)=p*(x+y+c):=by
  rw[fX,<-dp,xX]
 rw[dp,dp] at h2;omega
theorem Xm (p x m c X D:Nat) (h:D+p*c=X*m):
  D+p*((x*m+c)%4294967296)+p*4294967296*((x*m+c)/4294967296)=(X+p*x)*m:=by
 have h2:p*((x*m+c)%4294967296)+p*4294967296*((x*m+c)/4294967296)=p*(x*m+c):=by
  rw[fX,<-dp,xX]
 rw[dp] at h2;rw[ff,fX p x m];omega
def kO (n:Nat):Nat:=if n=0 then 0 else Nat.log2 n+1
theorem Tr:kO 0=0:=rfl
theorem CY (n:Nat):n<2^kO n:=by
 unfold kO
 split
 ·omega
 ·exact Nat.lt_log2_self
theorem CZ {n:Nat} (h:n≠0):2^(kO n-1)<=n:=by
 unfold kO;rw[if_neg h];exact Nat.log2_self_le h
theorem yj {n:Nat} (h:n≠0):0<kO n:=by unfold kO;rw[if_neg h];omega
theorem RM {n b:Nat} (h:n<2^b) (h':b=0\/2^(b-1)<=n):kO n=b:=by
 by_cases h0:n=0
 ·subst h0;rcases h' with rfl|h'
  ·rfl
  ·have:=uH (n:=b-1) (show 0<2 by omega);omega
 ·have h1:=CY n;have h2:=CZ h0;have h3:=yj h0;rcases Ln (kO n) b with hl|he|hg
  ·rcases h' with rfl|h'
   ·omega
   ·have:=tQ (show 0<2 by omega) (show kO n<=b-1 by omega);omega
  ·exact he
  ·have:=tQ (show 0<2 by omega) (show b<=kO n-1 by omega);omega
theorem wU {n k:Nat} (h:n<2^k):kO n<=k:=by
 by_cases h0:n=0
 ·subst h0;rw[Tr];omega
 ·have h1:=CZ h0;rcases tU k (kO n) with hl|hg
  ·have:=tQ (show 0<2 by omega) (show k<=kO n-1 by omega);omega
  ·exact hg
theorem LA (k:Nat):4294967296^k=2^(32*k):=by rw[Hx]
theorem LB {n t:Nat} (hl:(limbs n)[(limbs n).length-1]? =some t):kO n=32*((limbs n).length-1)+kO t/\t≠0:=by
 have hlast:(limbs n).getLast? =some t:=by rw[Rv];exact hl
 have ht:=xk n t hlast
 have JD:0<(limbs n).length:=by
  rcases oH (limbs n).length with h|h
  ·rw[rp h] at hl;cases hl
  ·exact h
 refine⟨?_,ht⟩
 have e:limbs n=(limbs n).take ((limbs n).length-1)++[t]:=by
  have:=dc hl;rw[show (limbs n).length-1+1=(limbs n).length by omega,List.take_length] at this;exact this
 have hv:n=au ((limbs n).take ((limbs n).length-1))+4294967296^((limbs n).length-1)*t:=by
  have h1:=ak au e;rw[ax,fI,cw,gW ae] at h1;exact h1
 have WE:=jZ ((aF n).take ((limbs n).length-1));rw[cw,gW ae] at WE;generalize au ((limbs n).take ((limbs n).length-1))=lo at hv WE;generalize (limbs n).length-1=m at hv WE;have h1:=CY t;have h2:=CZ ht;have h3:=yj ht;rw[LA] at hv WE;apply RM
 ·rw[hv,tX]
  calc lo+2^(32*m)*t<2^(32*m)+2^(32*m)*t:=by omega
   _=2^(32*m)*(t+1):=by rw[dp];omega
   _<=2^(32*m)*2^kO t:=lZ _ h1
 ·right
  rw[hv,show 32*m+kO t-1=32*m+(kO t-1) by omega,tX];have:=lZ (2^(32*m)) h2;omega
theorem LC (k:Nat) (hx:x≠0):List.replicate k 0++limbs x=limbs (x*4294967296^k):=by
 have h:au (List.replicate k 0++limbs x)=x*4294967296^k:=by
  rw[gL,ax,show au (List.replicate k 0)=0 from kf _ k,DJ,iu];omega
 rw[<-h]
 symm
 apply sx
 ·exact eB.append (gi.replicate ae k) (aF x)
 ·intro y hy;rw[List.getLast?_append] at hy;have hne:limbs x≠[]:=λh=>hx (qO.1 h);cases hl:(limbs x).getLast? with
  | none=>rw[List.getLast?_eq_none_iff] at hl;exact absurd hl hne
  | some z=>rw[hl] at hy;simp at hy;subst hy;exact xk x z hl
theorem Cj (x k:Nat) (hk:k<=(limbs x).length):au ((limbs x).drop k)=x/4294967296^k:=by
 have h:=mN 4294967296 (limbs x) k hk;have h1:val 4294967296 (limbs x)=x:=ax x;have h2:=jZ ((aF x).take k);rw[cw,gW hk] at h2;rw[h1] at h;show val 4294967296 _=_;have h3:val 4294967296 ((limbs x).take k)<4294967296^k:=h2;generalize val 4294967296 ((limbs x).take k)=lo at h h3;generalize val 4294967296 ((limbs x).drop k)=hi at h ⊢;rw[h,Nat.add_mul_div_left _ _ (uH ae),Bc h3];omega
def jI (x:Nat) (n:Int):Nat:=if 0<=n then x*2^n.toNat else x/2^(-n).toNat
theorem LD (hB:2<=B) {ds:List Nat} (hd:gi B ds) (h:ds.length<=(kZ B (val B ds)).length):kZ B (val B ds)=ds:=by
 apply DU hB hd;intro x hx h0;subst h0;have hne:ds≠[]:=by rintro rfl;cases hx
 have JD:0<ds.length:=List.length_pos_iff.2 hne;have hk:ds[ds.length-1]? =some 0:=by rw[<-Rv];exact hx
 have h1:=qg (B:=B) hk;rw[show ds.length-1+1=ds.length by omega,List.take_length] at h1;have h2:=uK (hd.take (ds.length-1));rw[<-h1,cw,gW ae] at h2;have h3:=gZ hB _ _ h2;omega
theorem dZ (B:Nat) (xs:List Nat) (k:Nat):val B (xs.take (k+1))=val B (xs.take k)+B^k*xs.getD k 0:=by
 by_cases h:k<xs.length
 ·rw[dc (bj h),rC,cw,gW ae];simp[List.getD,h]
 ·rw[dM ae,dM ae];simp[List.getD,List.getElem?_eq_none (by omega:xs.length<=k)]
theorem iC {k:Nat} (h:xs.length<=k):val B (xs.take k)=val B xs:=by rw[dM h]
theorem Ts (B p s x y c X Y D:Nat) (h:D+p*c=X+Y) (hs:s=x+y+c):D+p*(s%B)+p*B*(s/B)=(X+p*x)+(Y+p*y):=by
 subst hs
 have h2:p*((x+y+c)%B)+p*B*((x+y+c)/B)=p*(x+y+c):=by
  rw[fX,<-dp,xX]
 rw[dp,dp] at h2;omega
theorem wW {k:Nat} (h:xs[k]? =some x):val B (xs.drop k)=x+B*val B (xs.drop (k+1)):=by
 obtain⟨hl,e⟩:=cM.1 h;rw[tN hl,e,jS]
theorem Tt (B p x y r d r' X Y D:Nat) (h:D+Y=X+p*r) (hs:x+B*r'=d+y+r):(D+p*d)+(Y+p*y)=(X+p*x)+p*B*r':=by
 have h2:p*(x+B*r')=p*(d+y+r):=by rw[hs]
 rw[dp,dp,dp,<-fX] at h2;omega
end
section
open Go.RowKit
def Rd (w:World) (sz:Nat) (v:Value) (n:Nat) (cs:List Value):Prop:=
 ∃ p c,v=.slice p n c/\n<=c/\c<=maxLen/\cs.length=n*sz/\(0<n*sz->∃ b off,p=some ⟨b,off,none⟩/\∀ j u,cs[j]? =some u->w.cell? ⟨b,off+j,none⟩=some u)
theorem Rd.nil (w:World) (sz:Nat):Rd w sz (.slice none 0 0) 0 []:=⟨none,0,rfl,bl _,by simp[maxLen],cZ,λh=>ae⟩
variable {cs:List Value} {v:Value} {w w':World}
theorem Rd.keep {sz n:Nat} (h:Rd w sz v n cs) (hk:∀ a u,w.cell? a=some u->w'.cell? a=some u):Rd w' sz v n cs:=by
 obtain⟨p,c,rfl,h1,h2,h3,h4⟩:=h;refine⟨p,c,aa,h1,h2,h3,λhn=> ?_⟩;obtain⟨b,off,hp,hc⟩:=h4 hn;exact⟨b,off,hp,λj u hj=>hk _ _ (hc j u hj)⟩
variable {u:Value}
theorem mO {a:Addr} (h:w.cell? a=some u):a.block<w.heap.size:=Hf w a h
theorem Below.keeps (h:Below w.heap.size w w'):∀ a u,w.cell? a=some u->w'.cell? a=some u:=
 λ_ _ hu=>(h.cell (mO hu)).trans hu
theorem Rd.below {sz n:Nat} (h:Rd w sz v n cs) (hb:Below w.heap.size w w'):Rd w' sz v n cs:=h.keep (Below.keeps hb)
theorem Rd.alloc {sz n:Nat} (h:Rd w sz v n cs) (o:Obj):Rd (w.alloc o) sz v n cs:=
 h.below ((gY _ _).alloc (bl _) o)
theorem Rd.drew {sz n:Nat} (h:Rd w sz v n cs):Rd w.drew sz v n cs:=h
theorem Rd.drewN {sz n:Nat} (h:Rd w sz v n cs) (k:Nat):Rd (w.drewN k) sz v n cs:=h
theorem Rd.lit {cs:Array Value} {e n:Nat} (hn:cs.size=n) (hm:n<=9223372036854775807):Rd (w.alloc (.cells cs e)) 1 (.slice (some ⟨w.heap.size,0,none⟩) n n) n cs.toList:=
 ⟨_,n,rfl,bl _,by unfold maxLen;omega,by simp[hn],λ_=>⟨w.heap.size,0,rfl,λj u hj=>by
   rw[jR,World.cell?_alloc_new];simpa using hj⟩⟩
variable {B:Nat}
theorem Rd.mn {sz n:Nat} (h:Rd w sz v n cs) (hB:B=w.heap.size) (hb:Below B w w'):Rd w' sz v n cs:=h.below (hB▸hb)
theorem Rd.own {e sz n:Nat} (h:w.ownsRow B e sz v n cs):Rd w sz v n cs:=by
 rcases h.2 with ⟨rfl,rfl⟩|⟨g,cap,cur,rfl,_,hg,eS,gv,_,Xn⟩
 ·have hx:cs=[]:=rp (by simpa using h.1);subst hx;exact Rd.nil w sz
 ·refine⟨_,cap,aa,eS,gv,h.1,λ_=>⟨g,0,aa,λj u hj=> ?_⟩⟩;have:=h.cells (g:=g) aa j u hj
  rwa [show (⟨g,0,none⟩:Addr).add j=⟨g,0+j,none⟩ by unfold Addr.add;split <;> simp_all] at this
variable {B':Nat}
theorem Own.mono {e sz n:Nat} (h:w.ownsRow B e sz v n cs) (hB:B'<=B):w.ownsRow B' e sz v n cs:=by
 refine⟨h.1,?_⟩;rcases h.2 with h2|⟨g,cap,cur,hv,hb,r⟩
 ·exact .inl h2
 ·exact .inr ⟨g,cap,cur,hv,ae,r⟩
theorem Own.below {e sz n:Nat} (h:w.ownsRow B e sz v n cs) (hb:Below w.heap.size w w'):w'.ownsRow B e sz v n cs:=by
 refine⟨h.1,?_⟩;rcases h.2 with h2|⟨g,cap,cur,hv,hg,hh,r⟩
 ·exact .inl h2
 ·exact .inr ⟨g,cap,cur,hv,hg,(hb.block g (uA.1 hh).1).trans hh,r⟩
theorem Own.Da {e sz n:Nat} (h:w.ownsRow B e sz v n cs) (hn:0<n):∃ g c,v=.slice (some ⟨g,0,none⟩) n c/\B<=g/\g<w.heap.size:=by
 rcases h.2 with ⟨_,h0⟩|⟨g,cap,cur,rfl,hb,hg,_⟩
 ·omega
 ·exact⟨g,cap,aa,hb,(uA.1 hg).1⟩
theorem Own.drewN {e sz n:Nat} (h:w.ownsRow B e sz v n cs) (k:Nat):(w.drewN k).ownsRow B e sz v n cs:=h
theorem Below.drewN {a:World} (h:Below B a w) (n:Nat):Below B a (w.drewN n):=⟨h.os,h.tape,h.output,h.size,h.block⟩
variable {c m:Nat} {p:Option Addr}
theorem Own.take {e sz n:Nat} (h:w.ownsRow B e sz (.slice p n c) n cs) (hm:m<=n):w.ownsRow B e sz (.slice p m c) m (cs.take (m*sz)):=by
 have hle:m*sz<=n*sz:=kC _ hm;refine⟨by rw[cw,h.1];omega,?_⟩;rcases h.2 with ⟨hv,rfl⟩|⟨g,cap,cur,hv,hb,hg,eS,gv,hcs,Xn⟩
 ·left
  simp only[Value.slice.injEq] at hv;obtain⟨rfl,_,rfl⟩:=hv;exact⟨by rw[show m=0 by omega],ae⟩
 ·right
  simp only[Value.slice.injEq,true_and] at hv;obtain⟨rfl,rfl⟩:=hv;exact⟨g,c,cur,aa,hb,hg,ae,gv,hcs,by rw[<-Xn,List.take_take,gW hle]⟩
theorem Rd.take {sz n:Nat} (h:Rd w sz (.slice p n c) n cs) (hm:m<=n):Rd w sz (.slice p m c) m (cs.take (m*sz)):=by
 obtain⟨p',c',hv,h1,h2,h3,h4⟩:=h;simp only[Value.slice.injEq,true_and] at hv;obtain⟨rfl,rfl⟩:=hv;have hle:m*sz<=n*sz:=kC _ hm;refine⟨p,c,aa,ae,h2,by rw[cw,h3];omega,λhn=> ?_⟩;obtain⟨b,off,hp,hc⟩:=h4 ae;exact⟨b,off,hp,λj u hj=>hc j u (by rw[AY] at hj;split at hj;exact hj;cases hj)⟩
def ints (k:IntKind) (xs:List Nat):List Value:=xs.map λ(x:Nat)=>Value.int k (x:Int)
@[simp] theorem Bs (k:IntKind) (xs:List Nat):(ints k xs).length=xs.length:=by simp[ints]
variable {xs:List Nat} {j x:Nat}
theorem yl {k:IntKind} (h:xs[j]? =some x):(ints k xs)[j]? =some (.int k (x:Int)):=by simp[ints,h]
theorem vI (k:IntKind) (xs:List Nat) (m:Nat):(ints k xs).take m=ints k (xs.take m):=by simp[ints,List.map_take]
theorem Tu (k:IntKind) (xs:List Nat) (m:Nat):(ints k xs).drop m=ints k (xs.drop m):=by simp[ints,List.map_drop]
theorem kE (k:IntKind) (xs ys:List Nat):ints k (xs++ys)=ints k xs++ints k ys:=by simp[ints]
theorem ints_set (k:IntKind) (xs:List Nat) (j x:Nat):(ints k xs).set j (.int k (x:Int))=ints k (xs.set j x):=by simp[ints,List.map_set]
theorem rD (k:IntKind) (xs:List Nat):∀ u∈ints k xs,u.oneCell'=true:=by
 intro u hu;obtain⟨_,_,rfl⟩:=eG.1 hu;rfl
variable {a:Nat}
theorem Rd.lit1 {k:IntKind} {e:Nat} {x:Int} (hx:x=(a:Int)):Rd (w.alloc (.cells #[.int k x] e)) 1 (.slice (some ⟨w.heap.size,0,none⟩) 1 1) 1 (ints k [a]):=by
 subst hx;exact Rd.lit aa ae
theorem Rd.lit2 {k:IntKind} {e b:Nat} {x y:Int} (hx:x=(a:Int)) (hy:y=(b:Int)):Rd (w.alloc (.cells #[.int k x,.int k y] e)) 1 (.slice (some ⟨w.heap.size,0,none⟩) 2 2) 2 (ints k [a,b]):=by
 subst hx;subst hy;exact Rd.lit aa ae
theorem Rd.cellAt {n:Nat} {k:Nat} {ki:IntKind} (h:Rd w 1 (.slice p n c) n (ints ki xs)) (hk:k<n):
  ∃ b off x,p=some ⟨b,off,none⟩/\b<w.heap.size/\xs[k]? =some x/\w.cell? ⟨b,off+k,none⟩=some (.int ki (x:Int)):=by
 obtain⟨p',c',hv,h1,h2,h3,h4⟩:=h;simp only[Value.slice.injEq,true_and] at hv;obtain⟨rfl,rfl⟩:=hv;obtain⟨b,off,hp,hc⟩:=h4 ae;rw[Bs] at h3;have hx:=bj (show k<xs.length by omega);have hcell:=hc k _ (yl hx);exact⟨b,off,_,hp,mO hcell,hx,hcell⟩
theorem Rd.form {sz n:Nat} (h:Rd w sz v n cs):∃ p c,v=.slice p n c/\n<=c/\c<=maxLen/\cs.length=n*sz:=by
 obtain⟨p,c,hv,h1,h2,h3,_⟩:=h;exact⟨p,c,hv,h1,h2,h3⟩
theorem Own.form {e sz n:Nat} (h:w.ownsRow B e sz v n cs):∃ p c,v=.slice p n c/\n<=c/\c<=maxLen/\cs.length=n*sz:=(Rd.own h).form
variable {P:Program}
theorem qP (w:World) (base t ty e:Nat) (i:TypeInfo) (z:Value) (size bytes:Nat) (ht:P.underlying t=some (.slice e)) (hi:P.info? e=some i) (hz:i.zero=some z)
  (Bt:i.size=size) (Tv:i.bytes=bytes) (WG:z.cells.size=size) (hsz:0<size)
  (v:Value) (n:Nat) (xs:List Value) (aY:w.ownsRow base e size v n xs) (x:Value) (m:Nat) (news:List Value) (hx:Rd w size x m news) (h1:∀ u∈news,u.oneCell'=true)
  (h63:n+m<=maxLen) (lh:(n+m)*bytes<=140737488355328) (ud:base<=w.heap.size):
  ∃ v' w',(Builtin.append_ #[t,t] ty #[v,x]).run P w=.ok v' w'/\w'.ownsRow base e size v' (n+m) (xs++news)/\w.grownBy w' v.ownBlock:=by
 obtain⟨p,c,rfl,hmc,gv,hl,hp⟩:=hx;by_cases hm:m=0
 ·subst hm;have hn:news=[]:=rp (by simpa using hl);subst hn;refine⟨v,w,?_,by simpa using aY,⟨rfl,rfl,rfl,bl _,λ_ _ _=>rfl⟩⟩;subst Bt;rcases aY.2 with ⟨rfl,rfl⟩|⟨g,cap,cur,rfl,_,hg,eS,hcm',hcs,Xn⟩
  ·cases p <;> simp[Builtin.append_,run_underlying ht,sizeOf,typeInfo,hi,Builtin.lenOf,Builtin.firstCells,loadCells,loadCellsFrom]
  ·cases p <;> simp[Builtin.append_,run_underlying ht,sizeOf,typeInfo,hi,Builtin.lenOf,Builtin.firstCells,loadCells,loadCellsFrom,eS,storeCells]
 ·obtain⟨b,off,rfl,hc⟩:=hp (Nat.mul_pos ae hsz)
  obtain⟨v',w',hr,h2,h3,_⟩:=run_append_own (P:=P) w base t ty e i z size bytes ht hi hz Bt Tv WG hsz v n xs aY ⟨b,off,none⟩ m c news hl
   (λj u hj=>by
    have:=hc j u hj
    rwa [show (⟨b,off,none⟩:Addr).add j=⟨b,off+j,none⟩ by unfold Addr.add;split <;> simp_all]) h1 h63 lh ud
  exact⟨v',w',hr,h2,h3⟩
variable {ops:Array Oper} {Q:Exit->Act->World->Prop} {rest:List Oper}
theorem mo (w:World) {o:Oper} {a:Act} (hgd:o.guard=none) (s x:Operand) (t:TypeId)
  (ho:o.op=.call { callee:=.builtin .append,args:=#[s,x],argTypes:=#[t,t] })
  (base:Nat) (e:TypeId) (i:TypeInfo) (z:Value) (size bytes:Nat) (ht:P.underlying t=some (.slice e)) (hi:P.info? e=some i) (hz:i.zero=some z)
  (Bt:i.size=size) (Tv:i.bytes=bytes) (WG:z.cells.size=size) (hsz:0<size)
  (v:Value) (n:Nat) (xs:List Value) (hs:a.eval s=v) (aY:w.ownsRow base e size v n xs)
  (xv:Value) (m:Nat) (news:List Value) (hx:a.eval x=xv) (Bu:Rd w size xv m news) (h1:∀ u∈news,u.oneCell'=true)
  (h63:n+m<=maxLen) (lh:(n+m)*bytes<=140737488355328) (ud:base<=w.heap.size)
  (h:∀ v' w',w'.ownsRow base e size v' (n+m) (xs++news)->w.grownBy w' v.ownBlock->wpList P ops Q rest (a.put o.dst v') w'):wpList P ops Q (o::rest) a w:=by
 refine wpList_plain hgd λ_ hK=> ?_;obtain⟨v',w',hr,h2,h3⟩:=qP (P:=P) w base t o.type e i z size bytes ht hi hz Bt Tv WG hsz v n xs aY xv m news Bu h1 h63 lh ud;unfold Oper.wp execOp;simp only[ho,resolve,invoke,builtin,Sem.run_bind,Sem.run_pure,Result.andThen_ok,List.map_toArray,List.map_cons,List.map_nil,hs,hx,hr];exact hK _ _ (h v' w' h2 h3)
theorem uM {o:Oper} {a:Act} {K:Act->World->Prop} {E:Prop} (hgd:o.guard=none) (s x:Operand) (t:TypeId)
  (ho:o.op=.call { callee:=.builtin .append,args:=#[s,x],argTypes:=#[t,t] })
  (base:Nat) (e:TypeId) (i:TypeInfo) (z:Value) (size bytes:Nat) (ht:P.underlying t=some (.slice e)) (hi:P.info? e=some i) (hz:i.zero=some z)
  (Bt:i.size=size) (Tv:i.bytes=bytes) (WG:z.cells.size=size) (hsz:0<size)
  (v:Value) (n:Nat) (xs:List Value) (hs:a.eval s=v) (aY:w.ownsRow base e size v n xs)
  (xv:Value) (m:Nat) (news:List Value) (hx:a.eval x=xv) (Bu:Rd w size xv m news) (h1:∀ u∈news,u.oneCell'=true)
  (h63:n+m<=maxLen) (lh:(n+m)*bytes<=140737488355328) (ud:base<=w.heap.size)
  (h:∀ v' w',w'.ownsRow base e size v' (n+m) (xs++news)->w.grownBy w' v.ownBlock->K (a.put o.dst v') w'):
  if Region.wanted o (yielded ops a.tmps)=true then Oper.wp P o a w K Q else E:=by
 have hw:Region.wanted o (yielded ops a.tmps)=true:=by simp[Region.wanted,hgd]
 rw[if_pos hw];obtain⟨v',w',hr,h2,h3⟩:=qP (P:=P) w base t o.type e i z size bytes ht hi hz Bt Tv WG hsz v n xs aY xv m news Bu h1 h63 lh ud;unfold Oper.wp execOp;simp only[ho,resolve,invoke,builtin,Sem.run_bind,Sem.run_pure,Result.andThen_ok,List.map_toArray,List.map_cons,List.map_nil,hs,hx,hr];exact h v' w' h2 h3
variable {o:Obj} {w1:World}
theorem HQ {a:Addr} {row:Option Nat} (hg:(w.alloc o).drew.grownBy w1 row) (hc:w.cell? a=some v) (hne:some a.block≠row):w1.cell? a=some v:=
 hg.cell ((World.cell?_alloc_lt w o a (mO hc)).trans hc) hne
theorem Xp {e sz n b:Nat} (h:w.ownsRow B e sz v n cs) (hb:b<B):some b≠v.ownBlock:=by
 intro he;have:=(h.lt b he.symm).1;omega
variable {w0:World}
theorem Below.behind {e sz n:Nat} (h:Below B w0 w) (hB:B<=w.heap.size) (hg:(w.alloc o).drew.grownBy w1 v.ownBlock) (ho:w.ownsRow B' e sz v n cs) (hBB:B<=B'):Below B w0 w1:=
 ((h.alloc hB o).drew).grown hg (by simp;omega) λk hk=>by have:=(ho.lt k hk).1;omega
theorem Below.aN {a b c:World} (h:Below a.heap.size a b) (k:Below b.heap.size b c):Below a.heap.size a c:=h.trans (k.mono h.size)
theorem wpList_append_run {o:Oper} {a:Act} (hgd:o.guard=none) (s x:Operand) (t t':TypeId)
  (ho:o.op=.call { callee:=.builtin .append,args:=#[s,x],argTypes:=#[t,t'] }) (v xv:Value) (hs:a.eval s=v) (hx:a.eval x=xv) (v':Value) (w':World)
  (hr:(Builtin.append_ #[t,t'] o.type #[v,xv]).run P w=.ok v' w') (h:wpList P ops Q rest (a.put o.dst v') w'):wpList P ops Q (o::rest) a w:=by
 refine wpList_plain hgd λ_ hK=> ?_;unfold Oper.wp execOp;simp only[ho,resolve,invoke,builtin,Sem.run_bind,Sem.run_pure,Result.andThen_ok,List.map_toArray,List.map_cons,List.map_nil,hs,hx,hr];exact hK _ _ h
theorem Below.Xq {e sz n:Nat} (h:Below B w0 w) (hg:w.grownBy w' v.ownBlock) (ho:w.ownsRow B' e sz v n cs) (hB:B<=w.heap.size) (hBB:B<=B'):Below B w0 w':=
 h.grown hg hB λk hk=>by have:=(ho.lt k hk).1;omega
theorem bI {f:FuncId} {args:Array Value} {R:Ending->World->Prop} (h:∀ R':Ending->World->Prop,Hid (∀ e w',R e w'->R' e w')->Calls P f args w R'):Calls P f args w R:=h R λ_ _ h=>h
variable {a':Int}
theorem rE {k:IntKind} {a:Int} (h:a=a'):Ending.returned (.int k a)=.returned (.int k a'):=by rw[h]
theorem ret2 {k l:IntKind} {a b b':Int} (h:a=a') (h':b=b'):Ending.returned (.tuple #[.int k a,.int l b])=.returned (.tuple #[.int k a',.int l b']):=by rw[h,h']
theorem Own.made {e n:Nat} {k:IntKind} (h:w.ownsRow B e 1 v n (madeCells (Value.int k 0).cells (n*1)).toList):w.ownsRow B e 1 v n (ints k ([]++List.replicate n 0)):=by
 have:(madeCells (Value.int k 0).cells (n*1)).toList=ints k ([]++List.replicate n 0):=by
  rw[show (Value.int k 0).cells=#[Value.int k 0] from aa,toList_madeCells_one];simp[ints]
 rwa [this] at h
variable {ds:List Nat} {g cap r:Nat}
theorem Own.Db {e n:Nat} {k:IntKind} (h:w.ownsRow B e 1 (.slice (some ⟨g,0,none⟩) n cap) n (ints k (ds++List.replicate (r+1) 0))):
  w.cell? ⟨g,ds.length,none⟩=some (.int k 0)/\w.frozen? ⟨g,ds.length,none⟩=false:=by
 have hl:=h.1;simp at hl;refine⟨?_,h.frozenAt _⟩;rw[h.cellAt _ ae];have:=yl (k:=k) (xs:=ds++List.replicate (r+1) 0) (j:=ds.length) (x:=0) (by simp[List.replicate_succ]);simpa using this
theorem Own.ym {e n:Nat} {k:IntKind} (h:w.ownsRow B e 1 (.slice (some ⟨g,0,none⟩) n cap) n (ints k (ds++List.replicate (r+1) 0))):
  (w.setCell ⟨g,ds.length,none⟩ (.int k (x:Int))).ownsRow B e 1 (.slice (some ⟨g,0,none⟩) n cap) n (ints k ((ds++[x])++List.replicate r 0)):=by
 have h1:=(h.stored ds.length (.int k (x:Int))).1;rw[ints_set] at h1
 have:(ds++List.replicate (r+1) 0).set ds.length x=(ds++[x])++List.replicate r 0:=by
  rw[xV _ _ (bl _),oJ,List.replicate_succ,List.set_cons_zero,uF];rfl
 rwa [this] at h1
theorem Own.jT {e n:Nat} {k:IntKind} (h:w.ownsRow B e 1 (.slice (some ⟨g,0,none⟩) n cap) n (ints k xs)) (hj:j<n):
  ∃ x,xs[j]? =some x/\w.cell? ⟨g,j,none⟩=some (.int k (x:Int))/\w.frozen? ⟨g,j,none⟩=false:=by
 have hl:=h.1;simp at hl;have hx:=bj (show j<xs.length by omega);refine⟨_,hx,?_,h.frozenAt _⟩;rw[h.cellAt _ ae,yl hx]
theorem Own.jy {e n:Nat} {k:IntKind} (h:w.ownsRow B e 1 (.slice (some ⟨g,0,none⟩) n cap) n (ints k xs)):
  (w.setCell ⟨g,j,none⟩ (.int k (x:Int))).ownsRow B e 1 (.slice (some ⟨g,0,none⟩) n cap) n (ints k (xs.set j x)):=by
 have h1:=(h.stored j (.int k (x:Int))).1
 rwa [ints_set] at h1
theorem Own.lt {e sz n:Nat} {p:Nat} (h:w.ownsRow B e sz (.slice (some ⟨g,p,none⟩) n cap) n cs):B<=g/\g<w.heap.size:=World.ownsRow.lt h g rfl
theorem DX {f:FuncId} {args:Array Value} {W:World} {X:Nat->World} (h:Calls P f args W λe w'=>e=.returned v/\W=w') (hW:∃ n,W=X n):
  Calls P f args W λe w''=>e=.returned v/\∃ m,w''=X m:=
 h.mono λ_ _ ⟨he,hm⟩=>⟨he,hW.imp λ_ hn=>hm▸hn⟩
variable {d:Nat}
theorem fJ {o:Oper} {a:Act} (hgd:o.guard=none) (s x:Operand) (t:TypeId)
  (ho:o.op=.call { callee:=.builtin .append,args:=#[s,x],argTypes:=#[t,t] })
  (base:Nat) (e:TypeId) (i:TypeInfo) (z:Value) (bytes:Nat) (ht:P.underlying t=some (.slice e)) (hi:P.info? e=some i) (hz:i.zero=some z)
  (Bt:i.size=1) (Tv:i.bytes=bytes) (WG:z.cells.size=1)
  {n:Nat} {k:IntKind} {y:Int} {e':TypeId} (aY:w.ownsRow base e 1 v n (ints k ds)) (hs:a.eval s=v) (hx:a.eval x=.slice (some ⟨w.heap.size,0,none⟩) 1 1) (hy:y=(d:Int))
  (h63:n+1<=9223372036854775807) (lh:(n+1)*bytes<=140737488355328) (ud:base<=w.heap.size)
  (h:∀ v' w',w'.ownsRow base e 1 v' (n+1) (ints k (ds++[d]))->(∀ w0,Below base w0 w->Below base w0 w')->wpList P ops Q rest (a.put o.dst v') w'):wpList P ops Q (o::rest) a (w.alloc (.cells #[.int k y] e')):=by
 refine mo _ hgd s x t ho base e i z 1 bytes ht hi hz Bt Tv WG ae v n _ hs (aY.alloc _) _ 1 (ints k [d]) hx (Rd.lit1 hy) (rD k [d]) (by unfold maxLen;omega) lh (by simp;omega) ?_;intro v' w' h1 h2;refine h v' w' (by rw[kE];exact h1) λw0 hb=> ?_;exact (hb.alloc ud _).grown h2 (by simp;omega) λj hj=>(aY.lt j hj).1
theorem Xr (a b:Nat) (ha:a<4294967296) (hb:b<4294967296):a*b<18446744065119617026:=by
 have h1:a*b<=4294967295*4294967295:=kD ae ae;omega
set_option maxRecDepth 100000 in
theorem Tw (a b:Nat) (w:World) (ha:a<4294967296) (hb:b<4294967296):
  Calls Tryz.prog 318 #[.int .u32 (a:Int),.int .u32 (b:Int)] w λe w'=>e=.returned (.tuple #[.int .u32 ((a*b/4294967296:Nat):Int),.int .u32 ((a*b%4294967296:Nat):Int)])/\w=w':=by
 have h:=Xr a b ha hb;have h2:(a:Int)*(b:Int)<18446744065119617026:=by rw[<-wF];omega
 have h3:0<=(a:Int)*(b:Int):=by rw[<-wF];omega
 refine bI λR' dm=> ?_;go_enter Tryz.func318,Tryz.ntmps318
 go_wp2
 refine dm.out _ _ ⟨ret2 ?_ ?_,aa⟩ <;> simp
set_option maxRecDepth 100000 in
theorem rF (a b c:Nat) (w:World) (ha:a<4294967296) (hb:b<4294967296) (hc:c<4294967296):
  Calls Tryz.prog 299 #[.int .u32 (a:Int),.int .u32 (b:Int),.int .u32 (c:Int)] w λe w'=>e=.returned (.tuple #[.int .u32 (((a+b+c)%4294967296:Nat):Int),.int .u32 (((a+b+c)/4294967296:Nat):Int)])/\w=w':=by
 refine bI λR' dm=> ?_;go_enter Tryz.func299,Tryz.ntmps299
 go_wp2
 refine dm.out _ _ ⟨ret2 ?_ ?_,aa⟩ <;> simp
set_option maxRecDepth 100000 in
theorem Tx (a b d:Nat) (w:World) (ha:a<d) (hb:b<4294967296) (hd:d<4294967296):
  Calls Tryz.prog 303 #[.int .u32 (a:Int),.int .u32 (b:Int),.int .u32 (d:Int)] w λe w'=>
   e=.returned (.tuple #[.int .u32 (((a*4294967296+b)/d:Nat):Int),.int .u32 (((a*4294967296+b)%d:Nat):Int)])/\∃ k,w'=w.drewN k:=by
 have hd0:((d:Int) != 0)=true:=by rw[bne_iff_ne];omega
 have hd1:1<=(d:Int):=ae;have hle:¬ ((d:Int)<=(a:Int)):=ae
 have DY:bits BinOp.or IntKind.u64 ((a:Int)*4294967296) (b:Int)=((a*4294967296+b:Nat):Int):=by
  have e1:((a:Int)*4294967296)=((a*4294967296:Nat):Int):=cZ;rw[e1,u64_or_nat _ _ ae ae,nat_join 32 _ _ ae ae]
 have hq:(a*4294967296+b)/d<4294967296:=by
  rw[Lh ae];have:(a+1)*4294967296<=d*4294967296:=kC _ ha;rw[iu 4294967296 d];omega
 have hq1:((a:Int)*4294967296+(b:Int))/(d:Int)<4294967296:=by
  have:(((a*4294967296+b)/d:Nat):Int)<4294967296:=ae;simpa using this
 have hr:(a*4294967296+b)%d<d:=fY _ ae
 have qj:((a:Int)*4294967296+(b:Int))%(d:Int)<4294967296:=by
  have:(((a*4294967296+b)%d:Nat):Int)<4294967296:=ae;simpa using this
 have KT:0<=((a:Int)*4294967296+(b:Int))/(d:Int):=by
  exact Int.ediv_nonneg ae ae
 have Gr:0<=((a:Int)*4294967296+(b:Int))%(d:Int):=by
  exact Int.emod_nonneg _ ae
 rw[show ((a*4294967296+b:Nat):Int)=(a:Int)*4294967296+(b:Int) by simp] at DY;clear hq hr;refine bI λR' dm=> ?_;go_enter Tryz.func303,Tryz.ntmps303
 go_wp2_with fail
 go_quiet (fail)
 go_wp2
 refine dm.out _ _ ⟨ret2 ?_ ?_,_,aa⟩ <;> simp
theorem yo (n:Nat) (h:n<4294967296):n.testBit 31=decide (2147483648<=n):=by
 rw[Nat.testBit_eq_decide_div_mod_eq];by_cases h':2147483648<=n
 ·have:n/2^31=1:=by omega
  simp[this,h']
 ·have:n/2^31=0:=by omega
  simp[this];omega
theorem by_top (n:Nat) (h:n<4294967296):n/2147483648=(n.testBit 31).toNat:=by
 rw[yo n h];by_cases h':2147483648<=n <;> simp[h'] <;> omega
theorem OT (x y c d:Nat) (hx:x<4294967296) (hy:y<4294967296) (hc:c<2) (hd:d=(x+8589934592-y-c)%4294967296):
  ((4294967295 ^^^x) &&& y |||(4294967295 ^^^(x ^^^y)) &&& d)/2147483648=if x<y+c then 1 else 0:=by
 have Ck:d<4294967296:=ae;have h1:4294967295 ^^^x<2^32:=Hk ae ae;have h2:x ^^^y<2^32:=Hk ae ae;have h3:4294967295 ^^^(x ^^^y)<2^32:=Hk ae h2;have h4:(4294967295 ^^^x) &&& y |||(4294967295 ^^^(x ^^^y)) &&& d<2^32:=Nat.or_lt_two_pow (RF _ ae) (RF _ ae)
 rw[by_top _ ae];simp only[Nat.testBit_or,Nat.testBit_and,Nat.testBit_xor,yo _ hx,yo _ hy,yo _ Ck,yo 4294967295 ae];by_cases a1:2147483648<=x <;> by_cases a2:2147483648<=y <;> by_cases a3:2147483648<=d <;> simp[a1,a2,a3] <;> omega
set_option maxRecDepth 100000 in
theorem HT (a b c:Nat) (w:World) (ha:a<4294967296) (hb:b<4294967296) (hc:c<2):
  Calls Tryz.prog 302 #[.int .u32 (a:Int),.int .u32 (b:Int),.int .u32 (c:Int)] w λe w'=>
   (∃ d r:Nat,e=.returned (.tuple #[.int .u32 (d:Int),.int .u32 (r:Int)])/\d<4294967296/\r<=1/\a+4294967296*r=d+b+c)/\w=w':=by
 obtain⟨d,hd⟩:∃ d,d=(a+8589934592-b-c)%4294967296:=⟨_,aa⟩;have Ck:d<4294967296:=ae;have JE:=OT a b c d ha hb hc hd;have hdi:((a:Int)-(b:Int)-(c:Int))%4294967296=(d:Int):=ae;have hm:IntKind.u32.max=((4294967295:Nat):Int):=aa;have h1:4294967295 ^^^a<4294967296:=Hk (n:=32) ae ae;have h2:a ^^^b<4294967296:=Hk (n:=32) ae ae;have h3:4294967295 ^^^(a ^^^b)<4294967296:=Hk (n:=32) ae ae;have h4:(4294967295 ^^^a) &&& b<4294967296:=RF (n:=32) _ ae;have h5:(4294967295 ^^^(a ^^^b)) &&& d<4294967296:=RF (n:=32) _ ae
 have H:Hid (bits BinOp.or IntKind.u32 (bits BinOp.and IntKind.u32 (bits BinOp.xor IntKind.u32 IntKind.u32.max (a:Int)) (b:Int))
   (bits BinOp.and IntKind.u32 (bits BinOp.xor IntKind.u32 IntKind.u32.max (bits BinOp.xor IntKind.u32 (a:Int) (b:Int))) (((a:Int)-(b:Int)-(c:Int))%4294967296))/2147483648=((if a<b+c then 1 else 0:Nat):Int)):=by
  show _=_;rw[hdi,hm,u32_xor_nat _ _ ae ha,u32_and_nat _ _ h1 hb,u32_xor_nat _ _ ha hb,u32_xor_nat _ _ ae h2,u32_and_nat _ _ h3 Ck,u32_or_nat _ _ h4 h5,<-JE];simp
 have HD:Hid (((a:Int)-(b:Int)-(c:Int))%4294967296=((a+8589934592-b-c)%4294967296:Nat)):=by show _=_;rw[hdi,hd]
 clear hd hdi JE hm h1 h2 h3 h4 h5 Ck;refine bI λR' dm=> ?_;go_enter Tryz.func302,Tryz.ntmps302
 go_wp2
 all_goals exact dm.out _ _ ⟨⟨(a+8589934592-b-c)%4294967296,if a<b+c then 1 else 0,ret2 HD.out H.out,fY _ ae,by split <;> omega,by split <;> omega⟩,aa⟩
set_option maxRecDepth 100000 in
theorem eW (p:Option Addr) (n c:Nat) (xs:List Nat) (w:World) (hr:Rd w 1 (.slice p n c) n (ints .u32 xs)) (hl:eB xs):
  Calls Tryz.prog 207 #[.slice p n c] w λe w'=>(∃ m,m<=n/\e=.returned (.slice p m c)/\limbs (au xs)=xs.take m)/\w=w':=by
 have eS:n<=c/\c<=9223372036854775807/\xs.length=n:=by
  obtain⟨p',c',hv,h1,h2,h3⟩:=hr.form;simp only[Value.slice.injEq,true_and] at hv;obtain⟨rfl,rfl⟩:=hv;unfold maxLen at h2;simp at h3;exact⟨h1,ae,h3⟩
 obtain⟨eS,gv,gU⟩:=eS;have HX:Hid (xs.length=n):=gU;clear gU;refine bI λR' dm=> ?_;go_enter Tryz.func207,Tryz.ntmps207
 go_wp2
 go_loop [0] (λv=>∃ m,m<=n/\v=.slice p m c/\au (xs.take m)=au xs) (λv=>match v with | .slice _ m _=>m|_=>0)
 case atStart=>exact⟨n,bl _,aa,by rw[dM (gX HX.out)]⟩
 case round=>
  obtain⟨m,hm,rfl,hv⟩:=hrel;have HV:Hid (au (xs.take m)=au xs):=hv;clear hv;by_cases h0:m=0
  ·subst h0;go_wp2
   exact dm.out _ _ ⟨⟨0,eK _,aa,oi ae hl (eK _) HV.out (.inl aa)⟩,aa⟩
  ·obtain⟨b,off,x,rfl,hb,hx,hc⟩:=hr.cellAt (k:=m-1) ae;have Xs:Hid (xs[m-1]? =some x):=hx;clear hx;have h0':0<m:=ae;obtain⟨j,rfl⟩:∃ j,m=j+1:=⟨m-1,ae⟩;rw[Nat.add_sub_cancel] at hc;by_cases uv:x=0
   ·subst uv;go_wp2
    go_round
    case rel=>exact⟨j,ae,aa,(qg Xs.out).symm.trans HV.out⟩
    case measure=>simp
   ·have hx0':((x:Int) == 0)=false:=by rw[eQ];omega
    go_wp2
    exact dm.out _ _ ⟨⟨j+1,hm,aa,oi ae hl (by rw[HX.out];exact hm) HV.out (.inr ⟨x,Xs.out,uv⟩)⟩,aa⟩
theorem mP:(Tryz.prog.info? 78).map (λi=>(i.zero,i.size,i.bytes))=some (some (.int .u32 0),1,4):=by kernel_rfl
theorem eL {P:Prop} (h:P:=by decide):P:=h
set_option maxRecDepth 100000 in
theorem mr (v:Value) (n:Nat) (xs:List Nat) (w:World) (hr:Rd w 1 v n (ints .u32 xs)) (hn:n<=1073741824):
  Calls Tryz.prog 151 #[v] w λe w'=>∃ v',e=.returned v'/\w'.ownsRow w.heap.size 78 1 v' n (ints .u32 xs)/\Below w.heap.size w w':=by
 obtain⟨p,c,rfl,eS,gv,hl⟩:=hr.form;have Hr:=ag hr;have dJ:∀ w':World,(binOp .eql 23 (.slice p n c) (.slice none 0 0)).run Tryz.prog w'=.ok (.bool p.isNone) w':=λw'=>Lib.run_eql_slice_nil w' 23 78 p n c 0 0 pW;obtain⟨i0,hi,nW,sH,uN⟩:=info_parts mP;have HL:=ag hl;clear hl hr;unfold maxLen at gv;cases p with
 | none=>
   refine bI λR' dm=> ?_;go_enter Tryz.func151,Tryz.ntmps151
   go_wp2
   refine dm.out _ _ ⟨_,aa,?_,gY _ _⟩;obtain⟨p,c',hv,_,_,h3,h4⟩:=Hr.out;simp only[Value.slice.injEq,true_and] at hv;obtain⟨rfl,rfl⟩:=hv
   have h0:n=0:=by
    rcases oH n with h|h
    ·exact h
    ·obtain⟨b,off,hp,_⟩:=h4 ae;cases hp
   subst h0;have hx:ints .u32 xs=[]:=rp (by simpa using h3);rw[hx];exact oI _ _ _ _
 | some ad=>
   refine bI λR' dm=> ?_;go_enter Tryz.func151,Tryz.ntmps151
   go_wp2_with (at_builtin;refine mo _ aa _ _ 23 aa w.heap.size 78 i0 (.int .u32 0) 1 4 pW hi nW sH uN aa eL _ 0 [] aa (World.ownsRow_made w #[] 0 (bl _) (by simp[maxLen]) aa) _ n _ aa (Hr.out.alloc _) (rD _ _) (by unfold maxLen;omega) ae cZ ?_;intro v' w1 aY LF)
   simp only[Nat.zero_add,List.nil_append] at aY;refine dm.out _ _ ⟨_,aa,aY,((gY _ _).alloc (bl _) _).grown LF cZ λk hk=>by injection (show some w.heap.size=some k from hk) with hk;omega⟩
theorem Rd.u32 {n:Nat} (h:Rd w 1 v n (ints .u32 xs)):∃ p c,v=.slice p n c/\n<=c/\c<=9223372036854775807/\xs.length=n:=by
 obtain⟨p,c,hv,h1,h2,h3⟩:=h.form;unfold maxLen at h2;exact⟨p,c,hv,h1,ae,by simpa using h3⟩
theorem Rd.limbs {n:Nat} (h:Rd w 1 (.slice p n c) n (ints .u32 xs)) (hm:m<=n) (hl:limbs (au xs)=xs.take m):
  Rd w 1 (.slice p m c) m (ints .u32 (limbs (au xs))):=by
 have:=h.take hm
 rwa [rB,vI,<-hl] at this
theorem Own.limbs {e n:Nat} (h:w.ownsRow B e 1 (.slice p n c) n (ints .u32 xs)) (hm:m<=n) (hl:limbs (au xs)=xs.take m):
  w.ownsRow B e 1 (.slice p m c) m (ints .u32 (limbs (au xs))):=by
 have:=Own.take h hm
 rwa [rB,vI,<-hl] at this
set_option maxRecDepth 100000 in
theorem na (v:Value) (n:Nat) (xs:List Nat) (w:World) (hr:Rd w 1 v n (ints .u32 xs)) (hl:eB xs) (hn:n<=1073741824):
  Calls Tryz.prog 148 #[v] w λe w'=>∃ v',e=.returned v'/\w'.ownsRow w.heap.size 78 1 v' (limbs (au xs)).length (ints .u32 (limbs (au xs)))/\Below w.heap.size w w':=by
 obtain⟨p,c,rfl,eS,gv,gU⟩:=hr.u32;have Hr:=ag hr;have HL:=ag hl;have HX:=ag gU;clear gU hl hr;refine bI λR' dm=> ?_;go_enter Tryz.func148,Tryz.ntmps148
 go_wp2_with fail
 refine (eW p n c xs _ Hr.out HL.out).mono ?_;rintro e w1 ⟨⟨m,hm,rfl,Gw⟩,rfl⟩;have HM:=ag Gw;clear Gw
 have zU:Hid (m=(limbs (au xs)).length):=by
  show _=_;rw[HM.out,cw,HX.out];omega
 go_wp2_with fail
 refine (mr _ m (limbs (au xs)) _ (Hr.out.limbs hm HM.out) ae).mono ?_;rintro e w1 ⟨v',rfl,aY,hb⟩;go_wp2
 refine dm.out _ _ ⟨_,aa,?_,hb⟩;rw[<-zU.out];exact aY
set_option maxRecDepth 100000 in
theorem DZ (a b:Nat) (w:World):
  Calls Tryz.prog 300 #[.int .i64 (a:Int),.int .i64 (b:Int)] w λe w'=>e=.returned (.int .i64 (jx a b))/\w=w':=by
 rcases Ln a b with h|rfl|h
 ·have e1:=ag (qh h);refine bI λR' dm=> ?_;go_enter Tryz.func300,Tryz.ntmps300
  go_wp2
  exact dm.out _ _ ⟨rE e1.out.symm,aa⟩
 ·have e1:=ag (yi a);refine bI λR' dm=> ?_;go_enter Tryz.func300,Tryz.ntmps300
  go_wp2
  exact dm.out _ _ ⟨rE e1.out.symm,aa⟩
 ·have e1:=ag (qi h);refine bI λR' dm=> ?_;go_enter Tryz.func300,Tryz.ntmps300
  go_wp2
  exact dm.out _ _ ⟨rE e1.out.symm,aa⟩
set_option maxRecDepth 100000 in
theorem Ea (a b:Nat) (w:World):
  Calls Tryz.prog 301 #[.int .u32 (a:Int),.int .u32 (b:Int)] w λe w'=>e=.returned (.int .i64 (jx a b))/\w=w':=by
 rcases Ln a b with h|rfl|h
 ·have e1:=ag (qh h);refine bI λR' dm=> ?_;go_enter Tryz.func301,Tryz.ntmps301
  go_wp2
  exact dm.out _ _ ⟨rE e1.out.symm,aa⟩
 ·have e1:=ag (yi a);refine bI λR' dm=> ?_;go_enter Tryz.func301,Tryz.ntmps301
  go_wp2
  exact dm.out _ _ ⟨rE e1.out.symm,aa⟩
 ·have e1:=ag (qi h);refine bI λR' dm=> ?_;go_enter Tryz.func301,Tryz.ntmps301
  go_wp2
  exact dm.out _ _ ⟨rE e1.out.symm,aa⟩
theorem wY {b:Nat} (h:(limbs a).length<(limbs b).length):a<b:=by
 rcases tU a b with h' |h'
 ·exact h'
 ·have:=eN h';omega
theorem Xu {b:Nat} (h:(limbs a).length≠(limbs b).length):jx (limbs a).length (limbs b).length=jx a b:=by
 rcases tU (limbs a).length (limbs b).length with h' |h'
 ·rw[qh h',qh (wY h')]
 ·have h'':(limbs b).length<(limbs a).length:=by omega
  rw[qi h'',qi (wY h'')]
variable {y:Nat}
theorem OU {b k:Nat} (hx:(limbs a)[k]? =some x) (hy:(limbs b)[k]? =some y) (hne:x≠y) (hd:(limbs a).drop (k+1)=(limbs b).drop (k+1)):jx x y=jx a b:=by
 rcases tU x y with h|h
 ·have:=oM (B:=4294967296) (aF a) hx hy h hd;rw[show val 4294967296 (limbs a)=a from ax a,show val 4294967296 (limbs b)=b from ax b] at this;rw[qh h,qh this]
 ·have h':y<x:=by omega
  have:=oM (B:=4294967296) (aF b) hy hx h' hd.symm;rw[show val 4294967296 (limbs a)=a from ax a,show val 4294967296 (limbs b)=b from ax b] at this;rw[qi h',qi this]
theorem Ty {α:Type} {xs ys:List α} {k:Nat} {x:α} (hx:xs[k]? =some x) (hy:ys[k]? =some x) (h:xs.drop (k+1)=ys.drop (k+1)):xs.drop k=ys.drop k:=by
 have h1:xs.drop k=x::xs.drop (k+1):=by
  obtain⟨hl,e⟩:=cM.1 hx;rw[tN hl,e]
 have h2:ys.drop k=x::ys.drop (k+1):=by
  obtain⟨hl,e⟩:=cM.1 hy;rw[tN hl,e]
 rw[h1,h2,h]
set_option maxRecDepth 100000 in
theorem JF (va vb:Value) (n m:Nat) (xs ys:List Nat) (w:World) (hr:Rd w 1 va n (ints .u32 xs)) (hs:Rd w 1 vb m (ints .u32 ys)) (hx:eB xs) (hy:eB ys):
  Calls Tryz.prog 269 #[va,vb] w λe w'=>e=.returned (.int .i64 (jx (au xs) (au ys)))/\∃ k,w'=w.drewN k:=by
 obtain⟨p,c,rfl,eS,gv,gU⟩:=hr.u32;obtain⟨q,d,rfl,Tz,Ov,si⟩:=hs.u32;obtain⟨a,ha⟩:∃ a,a=au xs:=⟨_,aa⟩;obtain⟨b,hb⟩:∃ b,b=au ys:=⟨_,aa⟩;have Hr:=ag hr;have Hs:=ag hs;have HL:=ag hx;have HM:=ag hy;have HX:=ag gU;have HY:=ag si;rw[<-ha,<-hb];have HA:=ag ha;have HB:=ag hb;clear gU si hx hy hr hs ha hb;refine bI λR' dm=> ?_;go_enter Tryz.func269,Tryz.ntmps269
 go_wp2_with fail
 refine (eW p n c xs _ Hr.out HL.out).mono ?_;rintro e w1 ⟨⟨n',hn',rfl,Xv⟩,rfl⟩;have HLN:=ag Xv;clear Xv;go_wp2_with fail
 refine (eW q m d ys _ Hs.out HM.out).mono ?_;rintro e w1 ⟨⟨m',hm',rfl,Gw⟩,rfl⟩;have Xw:=ag Gw;clear Gw;have HN:Hid ((limbs a).length=n'):=by show _=_;rw[HA.out,HLN.out,cw,HX.out];omega
 have HMM:Hid ((limbs b).length=m'):=by show _=_;rw[HB.out,Xw.out,cw,HY.out];omega
 have hra:=Hr.out.limbs hn' HLN.out;have TA:=Hs.out.limbs hm' Xw.out;rw[<-HA.out] at hra;rw[<-HB.out] at TA;have Hra:=ag hra;have Hrb:=ag TA;clear hra TA;by_cases hne:n'=m'
 ·subst hne;go_wp2_with fail
  go_loopw [5] (λiv wr=>∃ k dn:Nat,k<=n'/\iv=.int .i64 ((k:Int)-1)/\(limbs a).drop k=(limbs b).drop k/\wr=w.drewN dn) (λiv _=>(intOf iv+1).toNat)
  case atStart=>exact⟨n',0,bl _,aa,by rw[pU (gX HN.out),pU (gX HMM.out)],rfl⟩
  case round=>
   obtain⟨k,dn,hk,rfl,hd,rfl⟩:=hrel;have HD:=ag hd;clear hd;by_cases h0:k=0
   ·subst h0;go_wp2
    exact dm.out _ _ ⟨rE (by rw[Tq (show limbs a=limbs b by simpa using HD.out),yi]),_,aa⟩
   ·obtain⟨j,rfl⟩:∃ j,k=j+1:=⟨k-1,ae⟩;obtain⟨g1,o1,x,rfl,TB,hx,pO⟩:=Hra.out.cellAt (k:=j) ae;obtain⟨g2,o2,y,rfl,hg2,hy,Gx⟩:=Hrb.out.cellAt (k:=j) ae;have HXX:=ag hx;have HYY:=ag hy;have hjj:((j+1:Nat):Int)-1=(j:Int):=ae;clear hx hy h0 TB hg2;rw[hjj];clear hjj;by_cases Eb:x=y
    ·subst Eb;have sj:((x:Int) != (x:Int))=false:=cZ;go_wp2_with fail
     go_quiet (fail)
     go_wp2
     go_roundw
     case rel=>exact⟨j,_,ae,aa,Ty HXX.out HYY.out HD.out,aa⟩
     case measure=>simp[intOf]
    ·have sj:((x:Int) != (y:Int))=true:=by rw[bne_iff_ne];omega
     go_wp2_with fail
     go_quiet (fail)
     go_wp2_with fail
     go_quiet ((go_at_call 301;exact DX (Ea x y _) ⟨_,aa⟩))
     go_wp2
     exact dm.out _ _ ⟨rE (OU HXX.out HYY.out Eb HD.out),_,by rw[World.drewN_drewN,World.drewN_drewN]⟩
 ·have TC:((n':Int) != (m':Int))=true:=by rw[bne_iff_ne];omega
  go_wp2_with fail
  refine (DZ n' m' _).mono ?_;rintro e w1 ⟨rfl,rfl⟩;go_wp2
  exact dm.out _ _ ⟨rE (by rw[<-HN.out,<-HMM.out];exact Xu (by rw[HN.out,HMM.out];exact hne)),0,aa⟩
def Ec (w:World) (B g N:Nat) (xs ys:List Nat) (cv iv:Value) (wr:World):Prop:=
 ∃ (k carry:Nat) (ds:List Nat),k<=N/\ds.length=k/\iv=.int .i64 (k:Int)/\cv=.int .u32 (carry:Int)/\carry<=1/\eB ds/\
   au ds+4294967296^k*carry=au (xs.take k)+au (ys.take k)/\
   wr.ownsRow B 78 1 (.slice (some ⟨g,0,none⟩) (N+1) (N+1)) (N+1) (ints .u32 (ds++List.replicate (N+1-k) 0))/\Below B w wr
variable {ys:List Nat} {N carry:Nat} {wr:World}
theorem Ec.step {k:Nat} (hk:k<N) (HW:ds.length=k) (hc:carry<=1) (hl:eB ds)
  (hv:au ds+4294967296^k*carry=au (xs.take k)+au (ys.take k)) (aY:wr.ownsRow B 78 1 (.slice (some ⟨g,0,none⟩) (N+1) (N+1)) (N+1) (ints .u32 (ds++List.replicate (N+1-k) 0)))
  (hb:Below B w wr) (hx:xs.getD k 0=x) (hy:ys.getD k 0=y) (pP:x<4294967296) (Ia:y<4294967296):
  Ec w B g N xs ys (.int .u32 (((x+y+carry)/4294967296:Nat):Int)) (.int .i64 ((k:Int)+1)) (wr.setCell ⟨g,k,none⟩ (.int .u32 (((x+y+carry)%4294967296:Nat):Int))):=by
 subst HW;have e:N+1-ds.length=(N-ds.length)+1:=ae;rw[e] at aY;have h1:=Own.ym (x:=(x+y+carry)%4294967296) aY;refine⟨ds.length+1,(x+y+carry)/4294967296,ds++[(x+y+carry)%4294967296],ae,cZ,aa,aa,?_,?_,?_,?_,?_⟩
 ·omega
 ·exact hl.append (eB.cons (fY _ ae) eB.nil)
 ·rw[fI,cH,cH,hx,hy,ir];exact Lz _ _ x y carry _ _ _ hv aa
 ·rw[show N+1-(ds.length+1)=N-ds.length by omega];exact h1
 ·exact hb.setCell (Own.lt aY).1 _
set_option maxRecDepth 100000 in
theorem RN (p q:Option Addr) (n c m d:Nat) (xs ys:List Nat) (w:World) (hr:Rd w 1 (.slice p n c) n (ints .u32 xs)) (hs:Rd w 1 (.slice q m d) m (ints .u32 ys)) (hx:eB xs) (hy:eB ys)
  (hn:n<=1073741824) (hmn:m<=n) (args:Array Value) (hargs:args=#[.slice p n c,.slice q m d]\/m<n/\args=#[.slice q m d,.slice p n c]):
  Calls Tryz.prog 268 args w λe w'=>∃ v',e=.returned v'/\w'.ownsRow w.heap.size 78 1 v' (limbs (au xs+au ys)).length (ints .u32 (limbs (au xs+au ys)))/\Below w.heap.size w w':=by
 obtain⟨p',c',hv,eS,gv,gU⟩:=hr.u32;simp only[Value.slice.injEq,true_and] at hv;obtain⟨rfl,rfl⟩:=hv;obtain⟨q',d',hv,Tz,Ov,si⟩:=hs.u32;simp only[Value.slice.injEq,true_and] at hv;obtain⟨rfl,rfl⟩:=hv;have Hr:=ag hr;have Hs:=ag hs;have HL:=ag hx;have HM:=ag hy;have HX:=ag gU;have HY:=ag si;obtain⟨i0,hi,nW,sH,uN⟩:=info_parts mP;obtain⟨B,hB⟩:∃ B,B=w.heap.size:=⟨_,aa⟩;have HB:=ag hB;rw[<-hB];clear gU si hx hy hr hs hB;rcases hargs with rfl|⟨hlt,rfl⟩
 all_goals
  refine bI λR' dm=> ?_;go_enter Tryz.func268,Tryz.ntmps268
  go_wp2_with (at_make;refine wpList_make_full _ aa _ _ 23 aa B 78 i0 (.int .u32 0) 1 pW hi nW sH .i64 .i64 _ _ (n+1) aa aa ae ae (by rw[uN];omega) (by unfold maxLen;omega) (gX HB.out) ?_;intro w1 aY LF)
  have OV:=ag (Own.made aY);have Hb1:Hid (Below B w w1):=(gY _ _).grown LF (gX HB.out) (λk hk=>by cases hk);clear aY LF;go_loopw [6,22] (λcv iv wr=>Ec w B w.heap.size n xs ys cv iv wr) (λ_ iv _=>n-(intOf iv).toNat)
  case atStart=>exact⟨0,0,[],eK _,aa,aa,aa,ae,eB.nil,by simp[fQ],OV.out,Hb1.out⟩
  case round=>
   obtain⟨k,carry,ds,hk,HW,rfl,rfl,rh,hl,hv,aY,hb⟩:=hrel;have HO:=ag aY;have JG:=ag HW;have HV:=ag hv;have Ib:=ag hl;have kc:=ag hb;clear aY HW hv hl hb;have Dc:B<=wr.heap.size:=by have:=kc.out.size;have:=HB.out;omega
   by_cases yp:k<n
   ·obtain⟨b1,o1,x,rfl,aU,im,pO⟩:=(Hr.out.mn HB.out kc.out).cellAt yp;have Dd:=ag im;have pP:=HL.out.at im;have e:n+1-k=(n-k)+1:=ae;have sJ:=HO.out;rw[e] at sJ;obtain⟨hcell,Gy⟩:=Own.Db sJ;rw[JG.out] at hcell Gy;clear e sJ im;by_cases OW:k<m
    ·obtain⟨b2,o2,y,rfl,bu,uf,Gx⟩:=(Hs.out.mn HB.out kc.out).cellAt OW;have RO:=ag uf;have Ia:=HM.out.at uf;clear uf;go_wp2_with fail
     refine (rF x y carry _ pP Ia ae).mono ?_;rintro e w2 ⟨rfl,rfl⟩;go_wp2_with fail
     go_roundw
     case rel=>exact Ec.step yp JG.out rh Ib.out HV.out HO.out kc.out (by simp[List.getD,Dd.out]) (by simp[List.getD,RO.out]) pP Ia
     case measure=>simp[intOf];omega
    ·have Xk:Hid (ys.getD k 0=0):=by show _=_;rw[List.getD,ru (by rw[HY.out];omega)];rfl
     go_wp2_with fail
     refine (rF x 0 carry _ pP ae ae).mono ?_;rintro e w2 ⟨rfl,rfl⟩;go_wp2_with fail
     go_roundw
     case rel=>exact Ec.step yp JG.out rh Ib.out HV.out HO.out kc.out (by simp[List.getD,Dd.out]) Xk.out pP ae
     case measure=>simp[intOf];omega
   ·obtain rfl:k=n:=by omega
    have e:k+1-k=0+1:=ae;have sJ:=HO.out;rw[e] at sJ;obtain⟨hcell,Gy⟩:=Own.Db sJ;have hst:=Own.ym (x:=carry) sJ;rw[JG.out] at hcell Gy hst;have HST:=ag hst;clear e sJ hst;go_wp2_with fail
    have hval:Hid (au (ds++[carry])=au xs+au ys):=by
     show _=_;rw[fI,JG.out,HV.out,cU (gX HX.out),cU (by rw[HY.out];exact hmn)]
    refine (eW _ (k+1) (k+1) (ds++[carry]) _ (by have:=Rd.own HST.out;simpa using this) (Ib.out.append (eB.cons ae eB.nil))).mono ?_;rintro e w2 ⟨⟨r,hr,rfl,Ow⟩,rfl⟩;have WH:=ag Ow;clear Ow;go_wp2_with fail
    refine dm.out _ _ ⟨_,aa,?_,kc.out.setCell (p:=⟨w.heap.size,k,none⟩) (gX HB.out) _⟩;have h2:=HST.out;rw[List.replicate_zero,jQ] at h2;have h3:=Own.limbs h2 hr WH.out;have e:(limbs (au (ds++[carry]))).length=r:=by rw[WH.out,cw,fH,JG.out];simp;omega
    rw[hval.out] at h3 e;rw[e];exact h3
theorem RP (va vb:Value) (n m:Nat) (xs ys:List Nat) (w:World) (hr:Rd w 1 va n (ints .u32 xs)) (hs:Rd w 1 vb m (ints .u32 ys)) (hx:eB xs) (hy:eB ys) (hn:n<=1073741824) (hm:m<=1073741824):
  Calls Tryz.prog 268 #[va,vb] w λe w'=>∃ v',e=.returned v'/\w'.ownsRow w.heap.size 78 1 v' (limbs (au xs+au ys)).length (ints .u32 (limbs (au xs+au ys)))/\Below w.heap.size w w':=by
 obtain⟨p,c,rfl,_,_,_⟩:=hr.u32;obtain⟨q,d,rfl,_,_,_⟩:=hs.u32;rcases tU n m with h|h
 ·rw[xZ (au xs)];exact RN q p m d n c ys xs w hs hr hy hx hm ae _ (.inr ⟨h,aa⟩)
 ·exact RN p q n c m d xs ys w hr hs hx hy hn h _ (.inl aa)
def JH (w:World) (B g N m:Nat) (xs:List Nat) (cv iv:Value) (wr:World):Prop:=
 ∃ (k carry:Nat) (ds:List Nat),k<=N/\ds.length=k/\iv=.int .i64 (k:Int)/\cv=.int .u32 (carry:Int)/\carry<4294967296/\eB ds/\
   au ds+4294967296^k*carry=au (xs.take k)*m/\
   wr.ownsRow B 78 1 (.slice (some ⟨g,0,none⟩) (N+1) (N+1)) (N+1) (ints .u32 (ds++List.replicate (N+1-k) 0))/\Below B w wr
theorem Ic (x m c:Nat) (hx:x<4294967296) (hm:m<4294967296) (hc:c<4294967296):(x*m+c)/4294967296<4294967296:=by
 have h1:x*m<=4294967295*4294967295:=kD ae ae;omega
theorem Ie (x m c:Nat):x*m/4294967296+(x*m%4294967296+c)/4294967296=(x*m+c)/4294967296/\(x*m%4294967296+c)%4294967296=(x*m+c)%4294967296:=by
 generalize x*m=p;omega
variable {s:Int}
theorem JH.step {k:Nat} {c:Int} (hk:k<N) (HW:ds.length=k) (hm:m<4294967296) (hc:carry<4294967296) (hl:eB ds)
  (hv:au ds+4294967296^k*carry=au (xs.take k)*m) (aY:wr.ownsRow B 78 1 (.slice (some ⟨g,0,none⟩) (N+1) (N+1)) (N+1) (ints .u32 (ds++List.replicate (N+1-k) 0)))
  (hb:Below B w wr) (hx:xs[k]? =some x) (pP:x<4294967296) (he:c=(((x*m+carry)/4294967296:Nat):Int)) (hs:s=(((x*m%4294967296+carry)%4294967296:Nat):Int)):
  JH w B g N m xs (.int .u32 c) (.int .i64 ((k:Int)+1)) (wr.setCell ⟨g,k,none⟩ (.int .u32 s)):=by
 subst HW;subst he;subst hs;have e:N+1-ds.length=(N-ds.length)+1:=ae;rw[e] at aY;have h1:=Own.ym (x:=(x*m+carry)%4294967296) aY;rw[(Ie x m carry).2];refine⟨ds.length+1,(x*m+carry)/4294967296,ds++[(x*m+carry)%4294967296],ae,cZ,aa,aa,Ic x m carry pP hm hc,?_,?_,?_,?_⟩
 ·exact hl.append (eB.cons (fY _ ae) eB.nil)
 ·rw[fI,cH,ir,List.getD,hx];exact Xm _ x m carry _ _ hv
 ·rw[show N+1-(ds.length+1)=N-ds.length by omega];exact h1
 ·exact hb.setCell (Own.lt aY).1 _
set_option maxRecDepth 100000 in
theorem JI (va:Value) (n m:Nat) (xs:List Nat) (w:World) (hr:Rd w 1 va n (ints .u32 xs)) (hx:eB xs) (hn:n<=1073741824) (hm:m<4294967296):
  Calls Tryz.prog 317 #[va,.int .u32 (m:Int)] w λe w'=>∃ v',e=.returned v'/\w'.ownsRow w.heap.size 78 1 v' (limbs (au xs*m)).length (ints .u32 (limbs (au xs*m)))/\Below w.heap.size w w':=by
 obtain⟨p,c,rfl,eS,gv,gU⟩:=hr.u32;have Hr:=ag hr;have HL:=ag hx;have HX:=ag gU;obtain⟨i0,hi,nW,sH,uN⟩:=info_parts mP;obtain⟨B,hB⟩:∃ B,B=w.heap.size:=⟨_,aa⟩;have HB:=ag hB;rw[<-hB];clear gU hx hr hB;refine bI λR' dm=> ?_;go_enter Tryz.func317,Tryz.ntmps317
 go_wp2_with (at_make;refine wpList_make_full _ aa _ _ 23 aa B 78 i0 (.int .u32 0) 1 pW hi nW sH .i64 .i64 _ _ (n+1) aa aa ae ae (by rw[uN];omega) (by unfold maxLen;omega) (gX HB.out) ?_;intro w1 aY LF)
 have OV:=ag (Own.made aY);have Hb1:Hid (Below B w w1):=(gY _ _).grown LF (gX HB.out) (λk hk=>by cases hk);clear aY LF;go_loopw [6,19] (λcv iv wr=>JH w B w.heap.size n m xs cv iv wr) (λ_ iv _=>n-(intOf iv).toNat)
 case atStart=>exact⟨0,0,[],eK _,aa,aa,aa,ae,eB.nil,by simp[fQ],OV.out,Hb1.out⟩
 case round=>
  obtain⟨k,carry,ds,hk,HW,rfl,rfl,rh,hl,hv,aY,hb⟩:=hrel;have HO:=ag aY;have JG:=ag HW;have HV:=ag hv;have Ib:=ag hl;have kc:=ag hb;clear aY HW hv hl hb;by_cases yp:k<n
  ·obtain⟨b1,o1,x,rfl,aU,im,pO⟩:=(Hr.out.mn HB.out kc.out).cellAt yp;have Dd:=ag im;have pP:=HL.out.at im;have e:n+1-k=(n-k)+1:=ae;have sJ:=HO.out;rw[e] at sJ;obtain⟨hcell,Gy⟩:=Own.Db sJ;rw[JG.out] at hcell Gy;clear e sJ im;have h1:(x*m+carry)/4294967296<4294967296:=Ic x m carry pP hm rh;have h2:=(Ie x m carry).1;have h3:(0:Int)<=((x*m/4294967296:Nat):Int)+(((x*m%4294967296+carry+0)/4294967296:Nat):Int)/\((x*m/4294967296:Nat):Int)+(((x*m%4294967296+carry+0)/4294967296:Nat):Int)<4294967296:=ae;have H2:Hid (((x*m/4294967296:Nat):Int)+(((x*m%4294967296+carry+0)/4294967296:Nat):Int)=(((x*m+carry)/4294967296:Nat):Int)):=by show _=_;omega
   obtain⟨h3a,h3b⟩:=h3;clear h2 h1;go_wp2_with fail
   refine (Tw x m _ pP hm).mono ?_;rintro e w2 ⟨rfl,rfl⟩;go_wp2_with fail
   refine (rF (x*m%4294967296) carry 0 _ (fY _ ae) rh ae).mono ?_;rintro e w2 ⟨rfl,rfl⟩;go_wp2_with fail
   go_roundw
   case rel=>exact JH.step yp JG.out hm rh Ib.out HV.out HO.out kc.out Dd.out pP (by have:=H2.out;omega) ae
   case measure=>simp[intOf];omega
  ·obtain rfl:k=n:=by omega
   have e:k+1-k=0+1:=ae;have sJ:=HO.out;rw[e] at sJ;obtain⟨hcell,Gy⟩:=Own.Db sJ;have hst:=Own.ym (x:=carry) sJ;rw[JG.out] at hcell Gy hst;have HST:=ag hst;clear e sJ hst;go_wp2_with fail
   have hval:Hid (au (ds++[carry])=au xs*m):=by
    show _=_;rw[fI,JG.out,HV.out,cU (gX HX.out)]
   refine (eW _ (k+1) (k+1) (ds++[carry]) _ (by have:=Rd.own HST.out;simpa using this) (Ib.out.append (eB.cons ae eB.nil))).mono ?_;rintro e w2 ⟨⟨r,hr,rfl,Ow⟩,rfl⟩;have WH:=ag Ow;clear Ow;go_wp2_with fail
   refine dm.out _ _ ⟨_,aa,?_,kc.out.setCell (p:=⟨w.heap.size,k,none⟩) (gX HB.out) _⟩;have h2:=HST.out;rw[List.replicate_zero,jQ] at h2;have h3:=Own.limbs h2 hr WH.out;have e:(limbs (au (ds++[carry]))).length=r:=by rw[WH.out,cw,fH,JG.out];simp;omega
   rw[hval.out] at h3 e;rw[e];exact h3
def JJ (w:World) (B:Nat) (qv:Value) (n d:Nat) (xs:List Nat) (iv rv:Value) (wr:World):Prop:=
 ∃ (k r:Nat) (qs:List Nat),k<=n/\qs.length=n-k/\iv=.int .i64 ((k:Int)-1)/\rv=.int .u32 (r:Int)/\r<d/\eB qs/\
   au qs*d+r=au (xs.drop k)/\wr.ownsRow B 78 1 qv n (ints .u32 (xs.take k++qs))/\Below B w wr
theorem Xx (d r x Q X:Nat) (h:Q*d+r=X):
  ((r*4294967296+x)/d+4294967296*Q)*d+(r*4294967296+x)%d=x+4294967296*X:=by
 subst h;have h2:=xX (r*4294967296+x) d;rw[iu d] at h2;rw[ff,dp,fX];omega
theorem div_lt (d r x:Nat) (hr:r<d) (hx:x<4294967296):(r*4294967296+x)/d<4294967296:=by
 rw[Lh ae];have:(r+1)*4294967296<=d*4294967296:=kC _ hr;rw[iu 4294967296 d];omega
theorem Ed {k:Nat} (h:xs[k]? =some x):au (xs.drop k)=x+4294967296*au (xs.drop (k+1)):=by
 obtain⟨hl,e⟩:=cM.1 h;rw[tN hl,e,ia]
variable {qs:List Nat}
theorem JK {k:Nat} (hk:k<xs.length):(xs.take (k+1)++qs).set k x=xs.take k++x::qs:=by
 have h1:xs.take (k+1)=xs.take k++[xs[k]]:=dc (bj hk);rw[h1,uF,xV _ _ (by rw[cw];omega)]
 congr 1
 rw[cw,gW ae,oJ];rfl
theorem JJ.step {n dn:Nat} {q:Int} (hj:j+1<=n) (hn:xs.length=n) (hqs:qs.length=n-(j+1)) (hr:r<d) (hl:eB qs)
  (hv:au qs*d+r=au (xs.drop (j+1))) (aY:wr.ownsRow B 78 1 (.slice (some ⟨g,0,none⟩) n cap) n (ints .u32 (xs.take (j+1)++qs))) (hb:Below B w wr)
  (hx:xs[j]? =some x) (pP:x<4294967296) (he:q=(((r*4294967296+x)/d:Nat):Int)) (hs:s=(((r*4294967296+x)%d:Nat):Int)):
  JJ w B (.slice (some ⟨g,0,none⟩) n cap) n d xs (.int .i64 ((j:Int)-1)) (.int .u32 s) ((wr.drewN dn).setCell ⟨g,j,none⟩ (.int .u32 q)):=by
 subst he;subst hs;refine⟨j,(r*4294967296+x)%d,(r*4294967296+x)/d::qs,ae,by simp;omega,rfl,rfl,fY _ ae,eB.cons (div_lt d r x hr pP) hl,?_,?_,?_⟩
 ·rw[ia,Ed hx,<-hv];exact Xx d r x _ _ aa
 ·have h1:=Own.jy (j:=j) (x:=(r*4294967296+x)/d) (Own.drewN aY dn)
  rwa [JK ae] at h1
 ·exact (Below.drewN hb dn).setCell (Own.lt aY).1 _
set_option maxRecDepth 100000 in
theorem yr (va:Value) (n d:Nat) (xs:List Nat) (w:World) (hr:Rd w 1 va n (ints .u32 xs)) (hx:eB xs) (hn:n<=1073741824) (hd:d<4294967296):
  Calls Tryz.prog 271 #[va,.int .u32 (d:Int)] w λe w'=>((d=0/\e=.returned (.tuple #[.slice none 0 0,.int .u32 0,.int .i64 20]))\/
   (d≠0/\∃ v',e=.returned (.tuple #[v',.int .u32 ((au xs%d:Nat):Int),.int .i64 0])/\w'.ownsRow w.heap.size 78 1 v' (limbs (au xs/d)).length (ints .u32 (limbs (au xs/d)))))/\Below w.heap.size w w':=by
 obtain⟨p,c,rfl,eS,gv,gU⟩:=hr.u32;have Hr:=ag hr;have HL:=ag hx;have HX:=ag gU;clear gU hx hr;by_cases hd0:d=0
 ·have hdb:((d:Int) == 0)=true:=by rw[beq_iff_eq];omega
  have HD:=ag hd0;clear hd0;refine bI λR' dm=> ?_;go_enter Tryz.func271,Tryz.ntmps271
  go_wp2
  go_ret3
  exact dm.out _ _ ⟨.inl ⟨HD.out,aa⟩,gY _ _⟩
 ·obtain⟨B,hB⟩:∃ B,B=w.heap.size:=⟨_,aa⟩;have HB:=ag hB;rw[<-hB];clear hB;have hdb:((d:Int) == 0)=false:=by rw[eQ];omega
  refine bI λR' dm=> ?_;go_enter Tryz.func271,Tryz.ntmps271
  go_wp2_with fail
  refine (mr _ n xs _ Hr.out hn).mono ?_;rintro e w1 ⟨qv,rfl,aY,hb⟩;rw[<-HB.out] at aY hb;obtain⟨qp,qc,rfl,_,_,_⟩:=Own.form aY;have HO:=ag aY;have kc:=ag hb;clear aY hb;go_wp2_with fail
  go_loopw [7,5] (λiv rv wr=>JJ w B (.slice qp n qc) n d xs iv rv wr) (λiv _ _=>(intOf iv+1).toNat)
  case atStart=>exact⟨n,0,[],bl _,cZ,aa,aa,ae,eB.nil,by rw[pU (gX HX.out)];simp[fQ],by rw[dM (gX HX.out),jQ];exact HO.out,kc.out⟩
  case round=>
   obtain⟨k,r,qs,hk,hqs,rfl,rfl,Bu,hl,hv,aY,hb⟩:=hrel;have ug:=ag aY;have HQS:=ag hqs;have HV:=ag hv;have Ib:=ag hl;have uO:=ag hb;clear aY hqs hv hl hb;by_cases h0:k=0
   ·subst h0;go_wp2_with fail
    refine (eW _ n qc qs _ (by have:=Rd.own ug.out;simpa using this) Ib.out).mono ?_;rintro e w2 ⟨⟨m,hm,rfl,Gw⟩,rfl⟩;have Xw:=ag Gw;clear Gw;go_wp2_with fail
    go_ret3
    have hv:=HV.out;rw[List.drop_zero] at hv;have hq:au xs/d=au qs:=by rw[<-hv,xZ,Nat.add_mul_div_right _ _ ae,Bc Bu,jR]
    have hm':au xs%d=r:=by rw[<-hv,xZ,Xd,xW Bu]
    refine dm.out _ _ ⟨.inr ⟨hd0,.slice qp m qc,by rw[hm'];rfl,?_⟩,uO.out⟩;have h2:=ug.out;rw[List.take_zero,pX] at h2;have h3:=Own.limbs h2 hm Xw.out;have e:(limbs (au qs)).length=m:=by rw[Xw.out,cw,HQS.out];omega
    rw[hq,e];exact h3
   ·obtain⟨j,rfl⟩:∃ j,k=j+1:=⟨k-1,ae⟩;obtain⟨g,qc',hv,hbg,Ig⟩:=Own.Da ug.out ae;simp only[Value.slice.injEq,true_and] at hv;obtain⟨rfl,rfl⟩:=hv;obtain⟨x,hx,hcell,Gy⟩:=Own.jT ug.out (j:=j) ae
    have im:xs[j]? =some x:=by
     rw[jG (by rw[cw,HX.out];omega),AY] at hx;simpa using hx
    have Dd:=ag im;have pP:=HL.out.at im;have hjj:((j+1:Nat):Int)-1=(j:Int):=ae;rw[hjj];clear hx im h0 hjj;go_wp2_with fail
    refine (Tx r x d _ Bu pP hd).mono ?_;rintro e w2 ⟨rfl,dn,rfl⟩;go_wp2_with fail
    go_roundw
    case rel=>exact JJ.step ae HX.out HQS.out Bu Ib.out HV.out ug.out uO.out Dd.out pP cZ cZ
    case measure=>simp[intOf]
def Ee (w:World) (B:Nat) (ov:Value) (n:Nat) (xs ys:List Nat) (bv iv:Value) (wr:World):Prop:=
 ∃ (k r:Nat) (ds:List Nat),k<=n/\ds.length=k/\iv=.int .i64 (k:Int)/\bv=.int .u32 (r:Int)/\r<=1/\eB ds/\
   au ds+au (ys.take k)=au (xs.take k)+4294967296^k*r/\wr.ownsRow B 78 1 ov n (ints .u32 (ds++xs.drop k))/\Below B w wr
theorem JL (hk:ds.length<xs.length):(ds++xs.drop ds.length).set ds.length x=(ds++[x])++xs.drop (ds.length+1):=by
 rw[xV _ _ (bl _),oJ,tN hk,List.set_cons_zero,uF];rfl
theorem Xy (p x y r d r' X Y D:Nat) (h:D+Y=X+p*r) (hs:x+4294967296*r'=d+y+r):(D+p*d)+(Y+p*y)=(X+p*x)+p*4294967296*r':=by
 have h2:p*(x+4294967296*r')=p*(d+y+r):=by rw[hs]
 rw[dp,dp,dp,<-fX] at h2;omega
theorem Ee.step {n k r':Nat} (hk:k<n) (hn:xs.length=n) (HW:ds.length=k) (hl:eB ds)
  (hv:au ds+au (ys.take k)=au (xs.take k)+4294967296^k*r) (aY:wr.ownsRow B 78 1 (.slice (some ⟨g,0,none⟩) n cap) n (ints .u32 (ds++xs.drop k))) (hb:Below B w wr)
  (hx:xs.getD k 0=x) (hy:ys.getD k 0=y) (hd:d<4294967296) (OX:r'<=1) (he:x+4294967296*r'=d+y+r):
  Ee w B (.slice (some ⟨g,0,none⟩) n cap) n xs ys (.int .u32 (r':Int)) (.int .i64 ((k:Int)+1)) (wr.setCell ⟨g,k,none⟩ (.int .u32 (d:Int))):=by
 subst HW;have h1:=Own.jy (j:=ds.length) (x:=d) aY;rw[JL ae] at h1;refine⟨ds.length+1,r',ds++[d],ae,cZ,aa,aa,OX,hl.append (eB.cons hd eB.nil),?_,h1,hb.setCell (Own.lt aY).1 _⟩;rw[fI,cH,cH,hx,hy,ir];exact Xy _ x y r d r' _ _ _ hv he
set_option maxRecDepth 100000 in
theorem JM (va vb:Value) (n m:Nat) (xs ys:List Nat) (w:World) (hr:Rd w 1 va n (ints .u32 xs)) (hs:Rd w 1 vb m (ints .u32 ys)) (hx:eB xs) (hy:eB ys) (hn:n<=1073741824):
  Calls Tryz.prog 270 #[va,vb] w λe w'=>((au xs<au ys/\e=.returned (.tuple #[.slice none 0 0,.int .i64 2]))\/
   (au ys<=au xs/\∃ v',e=.returned (.tuple #[v',.int .i64 0])/\w'.ownsRow w.heap.size 78 1 v' (limbs (au xs-au ys)).length (ints .u32 (limbs (au xs-au ys)))))/\Below w.heap.size w w':=by
 obtain⟨p,c,rfl,eS,gv,gU⟩:=hr.u32;obtain⟨q,d,rfl,Tz,Ov,si⟩:=hs.u32;obtain⟨a,ha⟩:∃ a,a=au xs:=⟨_,aa⟩;obtain⟨b,hb⟩:∃ b,b=au ys:=⟨_,aa⟩;have Hr:=ag hr;have Hs:=ag hs;have HL:=ag hx;have HM:=ag hy;have HX:=ag gU;have HY:=ag si;rw[<-ha,<-hb];have HA:=ag ha;have HB:=ag hb;clear gU si hx hy hr hs ha hb;refine bI λR' dm=> ?_;go_enter Tryz.func270,Tryz.ntmps270
 go_wp2_with fail
 refine (eW p n c xs _ Hr.out HL.out).mono ?_;rintro e w1 ⟨⟨n',hn',rfl,Xv⟩,rfl⟩;have HLN:=ag Xv;clear Xv;go_wp2_with fail
 refine (eW q m d ys _ Hs.out HM.out).mono ?_;rintro e w1 ⟨⟨m',hm',rfl,Gw⟩,rfl⟩;have Xw:=ag Gw;clear Gw;have HN:Hid ((limbs a).length=n'):=by show _=_;rw[HA.out,HLN.out,cw,HX.out];omega
 have HMM:Hid ((limbs b).length=m'):=by show _=_;rw[HB.out,Xw.out,cw,HY.out];omega
 have hra:=Hr.out.limbs hn' HLN.out;have TA:=Hs.out.limbs hm' Xw.out;rw[<-HA.out] at hra;rw[<-HB.out] at TA;have Hra:=ag hra;have Hrb:=ag TA;clear hra TA;go_wp2_with fail
 refine (JF _ _ n' m' (limbs a) (limbs b) _ Hra.out Hrb.out (aF a) (aF b)).mono ?_;rintro e w1 ⟨rfl,dn,rfl⟩;rw[ax,ax];by_cases CX:a<b
 ·have hc:jx a b<0:=mZ.2 CX;generalize jx a b=cv at hc ⊢;go_wp2_with fail
  exact dm.out _ _ ⟨.inl ⟨CX,aa⟩,Below.drewN (gY _ _) _⟩
 ·have hc:0<=jx a b:=by have:=mt (@mZ a b).1 CX;omega
  generalize jx a b=cv at hc ⊢;have hmn:m'<=n':=by rw[<-HN.out,<-HMM.out];exact eN ae
  obtain⟨B,hB⟩:∃ B,B=w.heap.size:=⟨_,aa⟩;have HBB:=ag hB;rw[<-hB] at dm;clear hB;go_wp2_with fail
  refine (mr _ n' (limbs a) _ (Rd.drewN Hra.out dn) ae).mono ?_;rintro e w1 ⟨qv,rfl,aY,hb⟩;have hb:Below B w w1:=by rw[HBB.out];exact (Below.drewN (gY _ _) dn).trans hb
  have aY:w1.ownsRow B 78 1 qv n' (ints .u32 (limbs a)):=by rw[HBB.out];exact aY
  obtain⟨qp,qc,rfl,_,_,_⟩:=Own.form aY;have HO:=ag aY;have kc:=ag hb;clear aY hb;go_wp2_with fail
  go_loopw [7,22] (λbv iv wr=>Ee w B (.slice qp n' qc) n' (limbs a) (limbs b) bv iv wr) (λ_ iv _=>n' -(intOf iv).toNat)
  case atStart=>exact⟨0,0,[],eK _,aa,aa,aa,ae,eB.nil,by simp[fQ],by simpa using HO.out,kc.out⟩
  case round=>
   obtain⟨k,r,ds,hk,HW,rfl,rfl,qj,hl,hv,aY,hb⟩:=hrel;have ug:=ag aY;have JG:=ag HW;have HV:=ag hv;have Ib:=ag hl;have uO:=ag hb;clear aY HW hv hl hb;by_cases yp:k<n'
   ·obtain⟨g,qc',hv,hbg,Ig⟩:=Own.Da ug.out ae;simp only[Value.slice.injEq,true_and] at hv;obtain⟨rfl,rfl⟩:=hv;obtain⟨x,hx,hcell,Gy⟩:=Own.jT ug.out (j:=k) ae
    have im:(limbs a)[k]? =some x:=by
     rw[tM (by rw[JG.out];omega),JG.out,uD] at hx;simpa using hx
    have Dd:=ag im;have pP:=(aF a).at im;clear hx im;by_cases OW:k<m'
    ·obtain⟨b2,o2,y,rfl,bu,uf,Gx⟩:=(Hrb.out.mn HBB.out uO.out).cellAt OW;have RO:=ag uf;have Ia:=(aF b).at uf;clear uf;go_wp2_with fail
     refine (HT x y r _ pP Ia ae).mono ?_;rintro e w2 ⟨⟨dd,rr,rfl,hdd,hrr,heq⟩,rfl⟩;have HEQ:=ag heq;clear heq;go_wp2_with fail
     go_roundw
     case rel=>exact Ee.step yp HN.out JG.out Ib.out HV.out ug.out uO.out (by simp[List.getD,Dd.out]) (by simp[List.getD,RO.out]) hdd hrr HEQ.out
     case measure=>simp[intOf];omega
    ·have Xk:Hid ((limbs b).getD k 0=0):=by show _=_;rw[List.getD,ru (by rw[HMM.out];omega)];rfl
     go_wp2_with fail
     refine (HT x 0 r _ pP ae ae).mono ?_;rintro e w2 ⟨⟨dd,rr,rfl,hdd,hrr,heq⟩,rfl⟩;have HEQ:=ag heq;clear heq;go_wp2_with fail
     go_roundw
     case rel=>exact Ee.step yp HN.out JG.out Ib.out HV.out ug.out uO.out (by simp[List.getD,Dd.out]) Xk.out hdd hrr HEQ.out
     case measure=>simp[intOf];omega
   ·obtain rfl:k=n':=by omega
    go_wp2_with fail
    have h2:=ug.out;rw[pU (gX HN.out),jQ] at h2;refine (eW _ k qc ds _ (Rd.own h2) Ib.out).mono ?_;rintro e w2 ⟨⟨s,hs,rfl,hls⟩,rfl⟩;have HLS:=ag hls;clear hls;go_wp2_with fail
    have hval:au ds=a-b:=by
     have h1:=HV.out;rw[cU (gX HN.out),cU (by rw[HMM.out];exact hmn),ax,ax] at h1;have h3:=jZ Ib.out;rw[JG.out] at h3
     have:r=0:=by
      rcases oH r with h|h
      ·exact h
      ·have:r=1:=by omega
       subst this;omega
     subst this;omega
    refine dm.out _ _ ⟨.inr ⟨ae,.slice qp s qc,aa,?_⟩,uO.out⟩;have h3:=Own.limbs h2 hs HLS.out;have e:(limbs (au ds)).length=s:=by rw[HLS.out,cw,JG.out];omega
    rw[hval] at h3 e;rw[e];exact h3
def lj (w:World) (v:Value) (rows:List (List Nat)):Prop:=
 ∃ vs:List Value,Rd w 1 v rows.length vs/\∀ (i:Nat) (xs:List Nat),rows[i]? =some xs->∃ u,vs[i]? =some u/\Rd w 1 u xs.length (ints .u32 xs)
theorem lj.below {rows:List (List Nat)} (h:lj w v rows) (hb:Below w.heap.size w w'):lj w' v rows:=by
 obtain⟨vs,h1,h2⟩:=h;refine⟨vs,h1.below hb,λi xs hi=> ?_⟩;obtain⟨u,hu,hr⟩:=h2 i xs hi;exact⟨u,hu,hr.below hb⟩
theorem lj.at {n k:Nat} {rows:List (List Nat)} (h:lj w (.slice p n c) rows) (hk:k<rows.length):
  ∃ b off u xs,p=some ⟨b,off,none⟩/\rows[k]? =some xs/\w.cell? ⟨b,off+k,none⟩=some u/\Rd w 1 u xs.length (ints .u32 xs):=by
 obtain⟨vs,⟨p',c',hv,_,_,h3,h4⟩,h2⟩:=h;simp only[Value.slice.injEq] at hv;obtain⟨rfl,rfl,rfl⟩:=hv;obtain⟨b,off,hp,hc⟩:=h4 ae;obtain⟨u,hu,hr⟩:=h2 k _ (bj hk);exact⟨b,off,u,_,hp,bj hk,hc k u hu,hr⟩
theorem lj.form {rows:List (List Nat)} (h:lj w v rows):∃ p c,v=.slice p rows.length c/\rows.length<=c/\c<=9223372036854775807:=by
 obtain⟨vs,h1,_⟩:=h;obtain⟨p,c,hv,h2,h3,_⟩:=h1.form;unfold maxLen at h3;exact⟨p,c,hv,h2,ae⟩
theorem wZ {q:Nat} (h:q<4294967296):(q:Int)%4294967296=q:=ae
theorem Ef {n:Nat} (h:n<32):2^n<4294967296:=by
 have:=Nat.pow_lt_pow_right (show 1<2 by omega) h;omega
theorem Bv (x n:Nat) (hn:n<32):(limbs (x*2^n)).length<=(limbs x).length+1:=by
 apply nH;rw[ir];exact Nat.mul_lt_mul_of_lt_of_le (sw x) (Nat.le_of_lt (Ef hn)) ae
set_option maxRecDepth 100000 in
theorem Xz (va:Value) (m n x:Nat) (w:World) (hr:Rd w 1 va m (ints .u32 (limbs x))) (hm:m<=1073741824) (hn:n<32):
  Calls Tryz.prog 305 #[va,.int .i64 (n:Int)] w λe w'=>∃ v',e=.returned v'/\Rd w' 1 v' (limbs (x*2^n)).length (ints .u32 (limbs (x*2^n)))/\Below w.heap.size w w':=by
 obtain⟨p,c,rfl,eS,gv,gU⟩:=hr.u32;have Hr:=ag hr;have HX:=ag gU;clear gU hr;by_cases h0:n=0
 ·subst h0;refine bI λR' dm=> ?_;go_enter Tryz.func305,Tryz.ntmps305
  go_wp2
  refine dm.out _ _ ⟨_,aa,?_,gY _ _⟩;have:=Hr.out;rw[Nat.pow_zero,rB,HX.out];exact this
 ·have hnb:((n:Int) == 0)=false:=by rw[eQ];omega
  refine bI λR' dm=> ?_;go_enter Tryz.func305,Tryz.ntmps305
  have hpl:=Ef hn
  have hpe:(2:Int)^n%4294967296=((2^n:Nat):Int):=by
   have:(2:Int)^n=((2^n:Nat):Int):=cZ;rw[this];exact wZ hpl
  have HP:=ag hpe;clear hpe;go_wp2_with fail
  rw[HP.out];refine (JI _ m (2^n) (limbs x) _ Hr.out (aF x) hm hpl).mono ?_;rintro e w1 ⟨v',rfl,aY,hb⟩;rw[ax] at aY;go_wp2
  exact dm.out _ _ ⟨_,aa,Rd.own aY,hb⟩
set_option maxRecDepth 100000 in
theorem TD (va:Value) (m n:Nat) (xs:List Nat) (w:World) (hr:Rd w 1 va m (ints .u32 xs)) (hx:eB xs) (hm:m<=1073741824) (hn:n<32):
  Calls Tryz.prog 306 #[va,.int .i64 (n:Int)] w λe w'=>(∃ v' k rs,e=.returned v'/\k<=1073741824/\Rd w' 1 v' k (ints .u32 rs)/\eB rs/\au rs=au xs/2^n)/\Below w.heap.size w w':=by
 obtain⟨p,c,rfl,eS,gv,gU⟩:=hr.u32;have Hr:=ag hr;have HX:=ag gU;have HL:=ag hx;clear gU hr hx;by_cases h0:n=0
 ·subst h0;refine bI λR' dm=> ?_;go_enter Tryz.func306,Tryz.ntmps306
  go_wp2
  exact dm.out _ _ ⟨⟨_,m,xs,aa,hm,Hr.out,HL.out,by rw[Nat.pow_zero,Nat.div_one]⟩,gY _ _⟩
 ·have hnb:((n:Int) == 0)=false:=by rw[eQ];omega
  refine bI λR' dm=> ?_;go_enter Tryz.func306,Tryz.ntmps306
  have hpl:=Ef hn;have hpp:2^n≠0:=by have:=uH (n:=n) (show 0<2 by omega);omega
  have hpe:(2:Int)^n%4294967296=((2^n:Nat):Int):=by
   have:(2:Int)^n=((2^n:Nat):Int):=cZ;rw[this];exact wZ hpl
  have HP:=ag hpe;have HPP:=ag hpp;clear hpe hpp;go_wp2_with fail
  rw[HP.out];refine (yr _ m (2^n) xs _ Hr.out HL.out hm hpl).mono ?_;rintro e w1 ⟨⟨h,_⟩|⟨_,v',rfl,aY⟩,hb⟩
  ·exact absurd h HPP.out
  ·have HO:=ag aY;have hlen:(limbs (au xs/2^n)).length<=m:=bG (eN (Lt _ _)) (by rw[<-HX.out];exact lg HL.out);clear aY;go_wp2
   exact dm.out _ _ ⟨⟨_,_,_,aa,bG hlen hm,Rd.own HO.out,aF _,ax _⟩,hb⟩
set_option maxRecDepth 100000 in
theorem XA (n:Nat) (w:World) (hn:n<=2147483648):
  Calls Tryz.prog 316 #[.slice none 0 0,.int .i64 (n:Int)] w λe w'=>∃ v',e=.returned v'/\w'.ownsRow w.heap.size 78 1 v' 0 []/\Below w.heap.size w w':=by
 by_cases h0:n=0
 ·subst h0;refine bI λR' dm=> ?_;go_enter Tryz.func316,Tryz.ntmps316
  go_wp2
  exact dm.out _ _ ⟨_,aa,oI _ _ _ _,gY _ _⟩
 ·obtain⟨i0,hi,nW,sH,uN⟩:=info_parts mP;obtain⟨C,hC⟩:∃ C,C=grownCap w n 0 78:=⟨_,aa⟩;have HC:=ag hC;have hap0:=Lib.run_append_nil_zeros (P:=Tryz.prog) w 23 3 23 78 i0 (.int .u32 0) .i64 .i64 pW Tryz.underlying3 hi nW n ae ae ae (by rw[uN];omega);rw[<-hC] at hap0;have HAP:=ag hap0;have hCn:n<=C:=by rw[hC];exact grownCap_ge w n 0 _
  have hCm:C<=9223372036854775807:=by
   have:=grownCap_le_maxLen w n 0 78 (by unfold maxLen;omega);unfold maxLen at this;omega
  have hn0:0<n:=ae;clear hC h0 hap0;refine bI λR' dm=> ?_;go_enter Tryz.func316,Tryz.ntmps316
  go_wp2_with (at_builtin;refine wpList_append_run aa _ _ 23 3 aa _ _ aa aa _ _ HAP.out ?_)
  refine dm.out _ _ ⟨_,aa,?_,?_⟩
  ·exact World.ownsRow_made w.drew _ C (bl _) (by unfold maxLen;omega) (by rw[Array.size_append,size_zeroCells,size_zeroCells];show n*1+(C-n)*1=C*1;omega)
  ·exact (Below.drew (gY _ _)).alloc (bl _) _
def flat (rows:List (List Nat)):List Nat:=rows.flatten
theorem zY (rows:List (List Nat)) (xs:List Nat):flat (rows++[xs])=flat rows++xs:=by simp[flat]
theorem sK (rows:List (List Nat)) (k:Nat):(flat (rows.take k)).length<=(flat rows).length:=by
 conv=>rhs;rw[<-wB k rows]
 simp only[flat,List.flatten_append,List.length_append];omega
def CatA (rows:List (List Nat)) (sv iv:Value):Prop:=∃ k,k<=rows.length/\iv=.int .i64 (k:Int)/\sv=.int .i64 ((flat (rows.take k)).length:Int)
def CatB (w:World) (B:Nat) (rows:List (List Nat)) (ov iv:Value) (wr:World):Prop:=
 ∃ k,k<=rows.length/\iv=.int .i64 (k:Int)/\wr.ownsRow B 78 1 ov (flat (rows.take k)).length (ints .u32 (flat (rows.take k)))/\Below B w wr
set_option maxRecDepth 100000 in
theorem OY (va:Value) (rows:List (List Nat)) (w:World) (hr:lj w va rows) (hn:(flat rows).length<=2147483648):
  Calls Tryz.prog 304 #[va] w λe w'=>∃ v',e=.returned v'/\w'.ownsRow w.heap.size 78 1 v' (flat rows).length (ints .u32 (flat rows))/\Below w.heap.size w w':=by
 obtain⟨p,c,rfl,eS,gv⟩:=hr.form;have Hr:=ag hr;obtain⟨i0,hi,nW,sH,uN⟩:=info_parts mP;obtain⟨B,hB⟩:∃ B,B=w.heap.size:=⟨_,aa⟩;have HB:=ag hB;obtain⟨N,hN⟩:∃ N,N=rows.length:=⟨_,aa⟩;rw[<-hN] at eS ⊢;have HN:=ag hN;rw[<-hB];clear hr hB hN;refine bI λR' dm=> ?_;go_enter Tryz.func304,Tryz.ntmps304
 go_wp2
 go_loop [3,11] (λsv iv=>CatA rows sv iv) (λ_ iv=>N-(intOf iv).toNat)
 case atStart=>exact⟨0,eK _,aa,by simp[flat]⟩
 case round=>
  obtain⟨k,hk,rfl,rfl⟩:=hrel;rw[<-HN.out] at hk;have zZ:=sK rows k;by_cases yp:k<N
  ·obtain⟨b1,o1,u,xs,rfl,im,pO,hru⟩:=Hr.out.at (k:=k) (by rw[<-HN.out];exact yp);obtain⟨q,d,rfl,_,_,_⟩:=hru.u32;have KV:(flat (rows.take (k+1))).length=(flat (rows.take k)).length+xs.length:=by rw[dc im,zY,fH]
   have TE:=sK rows (k+1);have HFS:=ag KV;rw[KV] at TE;clear im hru KV;generalize (flat (rows.take k)).length=L at*;go_wp2
   go_round
   case rel=>exact⟨k+1,by rw[<-HN.out];omega,by go_num,by rw[HFS.out];go_num⟩
   case measure=>simp[intOf];omega
  ·obtain rfl:k=N:=by omega
   have hL:Hid (flat (rows.take k)=flat rows):=by show _=_;rw[dM (by rw[HN.out];exact bl _)]
   rw[hL.out];rw[hL.out] at zZ;generalize hLL:(flat rows).length=L at hn zZ;have HLL:=ag hLL;rw[hLL] at dm;clear hLL;go_wp2_with fail
   refine (XA L _ ae).mono ?_;rintro e w1 ⟨ov,rfl,aY,hb⟩;rw[<-HB.out] at aY hb;have HO:=ag aY;have kc:=ag hb;clear aY hb;go_wp2_with fail
   go_loopw [6,27] (λov iv wr=>CatB w B rows ov iv wr) (λ_ iv _=>k-(intOf iv).toNat)
   case atStart=>exact⟨0,eK _,aa,by simpa [flat,ints] using HO.out,kc.out⟩
   case round=>
    obtain⟨j,hj,rfl,aY,hb⟩:=hrel;have ug:=ag aY;have uO:=ag hb;rw[<-HN.out] at hj;clear aY hb;by_cases hjn:j<k
    ·obtain⟨b1,o1,u,xs,rfl,im,pO,hru⟩:=((Hr.out.below (by have:=uO.out;rwa [HB.out] at this)).at (k:=j) (by rw[<-HN.out];exact hjn));have KV:(flat (rows.take (j+1))).length=(flat (rows.take j)).length+xs.length:=by rw[dc im,zY,fH]
     have TE:=sK rows (j+1);have HFS:=ag KV;have hsz:(flat (rows.take j)).length+xs.length<=2147483648:=by have:=HLL.out;omega
     have Dd:=ag im;have HRU:=ag hru;have Dc:B<=wr.heap.size:=by have:=uO.out.size;have:=HB.out;omega
     clear im hru KV TE;go_wp2_with (at_builtin;refine mo _ aa _ _ 23 aa B 78 i0 (.int .u32 0) 1 4 pW hi nW sH uN aa eL _ _ _ aa ug.out _ xs.length _ aa HRU.out (rD _ _) (by unfold maxLen;omega) ae Dc ?_;intro v' w2 oN hgr2)
     have XB:Hid (w2.ownsRow B 78 1 v' (flat (rows.take (j+1))).length (ints .u32 (flat (rows.take (j+1))))):=by
      show World.ownsRow ..;rw[HFS.out,dc Dd.out,zY,kE];exact oN
     have WI:Hid (Below B w w2):=Below.Xq uO.out hgr2 ug.out Dc (bl _);clear oN hgr2;go_wp2_with fail
     go_roundw
     case rel=>exact⟨j+1,by rw[<-HN.out];omega,by go_num,XB.out,WI.out⟩
     case measure=>simp[intOf];omega
    ·obtain rfl:j=k:=by omega
     go_wp2_with fail
     refine dm.out _ _ ⟨_,aa,?_,uO.out⟩;have:=ug.out;rw[hL.out,HLL.out] at this;exact this
theorem lj.two {t:Nat} {fr:Nat×Nat} (h:w.heap[g]? =some (.cells #[u,v] t fr)) (hx:Rd w 1 u xs.length (ints .u32 xs)) (hy:Rd w 1 v ys.length (ints .u32 ys)):
  lj w (.slice (some ⟨g,0,none⟩) 2 2) [xs,ys]:=by
 refine⟨[u,v],⟨_,2,aa,bl _,by simp[maxLen],rfl,λ_=>⟨g,0,rfl,λj z hj=> ?_⟩⟩,λi zs hi=> ?_⟩
 ·match j,hj with
  | 0,hj=>simp at hj;subst hj;simp[World.cell?,h]
  | 1,hj=>simp at hj;subst hj;simp[World.cell?,h]
 ·match i,hi with
  | 0,hi=>simp at hi;subst hi;exact⟨u,aa,hx⟩
  | 1,hi=>simp at hi;subst hi;exact⟨v,aa,hy⟩
theorem RQ {k:Nat} (h:k=w.heap.size):(w.alloc o).heap[k]? =some o:=by subst h;exact heap_alloc_new w o
variable {z:Obj} {w2 w3:World}
theorem ordA (bu:Below (w.alloc z).drew.heap.size (w.alloc z).drew w2) (dH:Below (w2.alloc o).heap.size (w2.alloc o) w3):Below w.heap.size w w3/\w.heap.size<=(w2.alloc o).heap.size:=by
 have h1:=bu.size;simp at h1;have h0:Below w.heap.size w (w.alloc z).drew:=((gY w.heap.size w).alloc (bl _) z).drew;have h2:Below w.heap.size w w2:=h0.trans (bu.mono cZ);exact⟨(h2.alloc ae o).trans (dH.mono (by simp;omega)),by simp;omega⟩
theorem ordB (bu:Below w.drew.heap.size w.drew w2) (dH:Below ((w2.alloc z).alloc o).heap.size ((w2.alloc z).alloc o) w3):Below w.heap.size w w3/\w.heap.size<=((w2.alloc z).alloc o).heap.size:=by
 have h1:=bu.size;simp at h1;have h2:Below w.heap.size w w2:=(gY w.heap.size w).drew.trans bu;exact⟨((h2.alloc ae z).alloc (by simp;omega) o).trans (dH.mono (by simp;omega)),by simp;omega⟩
theorem yt (w:World) (q:Nat) (h:q<=9223372036854775807):Rd (w.alloc (.cells (madeCells #[Value.int .u32 0] q) 78)) 1 (.slice (some ⟨w.heap.size,0,none⟩) q q) (List.replicate q 0).length (ints .u32 (List.replicate q 0)):=by
 have h1:=World.ownsRow_lit (base:=0) (size:=1) (e:=78) w (madeCells (Value.int .u32 0).cells (q*1)) q (eK _) (by unfold maxLen;omega) (size_madeCells _ _);have h2:=Rd.own (Own.made h1);rw[DJ];rw[rB,pX] at h2;exact h2
set_option maxRecDepth 100000 in
theorem OZ (p:Option Addr) (m c n x:Nat) (xs:List Nat) (w:World) (hr:Rd w 1 (.slice p m c) m (ints .u32 xs)) (hx:eB xs) (hv:au xs=x) (hm:m<=1073741824) (uv:x≠0) (hn:n<=65536):
  Calls Tryz.prog 273 #[.slice p m c,.int .i64 (n:Int)] w λe w'=>∃ v',e=.returned (.tuple #[v',.int .i64 0])/\w'.ownsRow w.heap.size 78 1 v' (limbs (x*2^n)).length (ints .u32 (limbs (x*2^n)))/\Below w.heap.size w w':=by
 obtain⟨p',c',hv',eS,gv,gU⟩:=hr.u32;simp only[Value.slice.injEq,true_and] at hv';obtain⟨rfl,rfl⟩:=hv';have Hr:=ag hr;have HX:=ag gU;have HL:=ag hx;have HV:=ag hv;obtain⟨i0,hi,nW,sH,uN⟩:=info_parts mP
 have hmk:∀ W:World,(Instr.makeSlice 23 (.int .i64 ((n:Int)/32)) (.int .i64 ((n:Int)/32))).run Tryz.prog W=.ok (.slice (some ⟨W.heap.size,0,none⟩) (n/32) (n/32)) (W.alloc (.cells (madeCells (Value.int .u32 0).cells (n/32*1)) 78)):=λW=>by
  have:=run_make (P:=Tryz.prog) W 23 78 i0 (.int .u32 0) pW hi nW .i64 .i64 ((n:Int)/32) ((n:Int)/32) ae (Int.le_refl _) (by rw[uN];omega) ae;rw[sH,show ((n:Int)/32).toNat=n/32 by omega] at this;exact this
 clear gU hr hx hv hi nW sH uN;refine bI λR' dm=> ?_;go_enter Tryz.func273,Tryz.ntmps273
 go_wp2_with fail
 refine (eW p m c xs _ Hr.out HL.out).mono ?_;rintro e w1 ⟨⟨r,hrm,rfl,Ow⟩,rfl⟩
 have zU:Hid ((limbs x).length=r):=by
  show _=_;rw[<-HV.out,Ow,cw,HX.out];omega
 have Bu:=Hr.out.limbs hrm Ow;rw[HV.out] at Bu;have HRD:=ag Bu;clear Ow Bu;have Gr:0<r:=by rw[<-zU.out];exact fp uv
 have Ih:∀ W:World,Rd W 1 (.slice p r c) r (ints .u32 (limbs x))->Calls Tryz.prog 305 #[.slice p r c,.int .i64 ((n:Int)%32)] W λe w'=>∃ v',e=.returned v'/\Rd w' 1 v' (limbs (x*2^(n%32))).length (ints .u32 (limbs (x*2^(n%32))))/\Below W.heap.size W w':=λW h=>by
  have:=Xz (.slice p r c) r (n%32) x W h ae (fY _ ae)
  rwa [show ((n%32:Nat):Int)=(n:Int)%32 by omega] at this
 have HLEFT:=ag Ih;clear Ih
 have zZ:(flat [List.replicate (n/32) 0,limbs (x*2^(n%32))])=limbs (x*2^n):=by
  have h1:=LC (x:=x*2^(n%32)) (n/32) (Nat.mul_ne_zero uv (by have:=uH (n:=n%32) (show 0<2 by omega);omega));simp only[flat,List.flatten_cons,List.flatten_nil,List.append_nil];rw[h1,fX,LA,<-tX,xX]
 have hfn:(flat [List.replicate (n/32) 0,limbs (x*2^(n%32))]).length<=2147483648:=by
  simp only[flat,List.flatten_cons,List.flatten_nil,List.append_nil,List.length_append,List.length_replicate];have:=Bv x (n%32) (fY _ ae);rw[zU.out] at this;omega
 have HFL:=ag zZ;have HFN:=ag hfn;clear zZ hfn uv;go_wp2_with fail
 have De:IntKind.i64.wrap ((n:Int)/32)=(n:Int)/32:=cO _ ae;have hw2:(n:Int).tmod 32=(n:Int)%32:=He ae
 go_region_with (first
  | (go_at_call 305;refine (HLEFT.out _ (by first|exact HRD.out|exact Rd.alloc (Rd.drew HRD.out) _)).mono ?_;rintro e w2 ⟨v2,rfl,hrd2,bu⟩;obtain⟨p2,c2,rfl,_,_,_⟩:=hrd2.form)
  | (go_at_call 304;refine (OY _ [List.replicate (n/32) 0,limbs (x*2^(n%32))] _ (by first|exact lj.two (heap_alloc_new _ _) (Rd.alloc (Rd.below (Rd.drew (yt _ _ ae)) bu) _) (Rd.alloc hrd2 _)|exact lj.two (RQ cZ) (Rd.alloc (yt _ _ ae) _) (Rd.alloc (Rd.alloc hrd2 _) _)) HFN.out).mono ?_;rintro e w3 ⟨v3,rfl,XC,dH⟩))
 all_goals
  go_wp2
  go_ret2
  refine dm.out _ _ ⟨v3,aa,?_,?_⟩
  ·rw[HFL.out] at XC;first|exact Own.mono XC (ordA bu dH).2|exact Own.mono XC (ordB bu dH).2
  ·first|exact (ordA bu dH).1|exact (ordB bu dH).1
theorem Aa {k:Nat} (h:(limbs x).length<=m) (hk:32*m<=k):x/2^k=0:=by
 apply Bc;have h1:=sw x;have h2:=tQ (show 0<4294967296 by omega) h;rw[LA] at h1 h2;have h3:=tQ (show 0<2 by omega) hk;rw[LA] at h2;omega
set_option maxRecDepth 100000 in
theorem Ab (va:Value) (m x:Nat) (n:Int) (xs:List Nat) (w:World) (hr:Rd w 1 va m (ints .u32 xs)) (hx:eB xs) (hv:au xs=x) (hm:m<=1073741824) (hn0: -9223372036854775808<=n) (TF:n<=9223372036854775807):
  Calls Tryz.prog 273 #[va,.int .i64 n] w λe w'=>((x≠0/\65536<n/\e=.returned (.tuple #[.slice none 0 0,.int .i64 3]))\/
   (¬ (x≠0/\65536<n)/\∃ v',e=.returned (.tuple #[v',.int .i64 0])/\w'.ownsRow w.heap.size 78 1 v' (limbs (jI x n)).length (ints .u32 (limbs (jI x n)))))/\Below w.heap.size w w':=by
 obtain⟨p,c,rfl,eS,gv,gU⟩:=hr.u32;have Hr:=ag hr;have HX:=ag gU;have HL:=ag hx;have HV:=ag hv;clear gU hr hx hv;by_cases JD:x≠0/\0<=n/\n<=65536
 ·obtain⟨uv,h0,h1⟩:=JD;obtain⟨k,rfl⟩:=tP h0;refine (OZ p m c k x xs w Hr.out HL.out HV.out hm uv ae).mono ?_;rintro e w' ⟨v',rfl,aY,hb⟩;refine⟨.inr ⟨ae,v',aa,?_⟩,hb⟩;have:jI x (k:Int)=x*2^k:=by simp[jI]
  rw[this];exact aY
 ·refine bI λR' dm=> ?_;go_enter Tryz.func273,Tryz.ntmps273
  go_wp2_with fail
  refine (eW p m c xs _ Hr.out HL.out).mono ?_;rintro e w1 ⟨⟨r,hrm,rfl,Ow⟩,rfl⟩
  have zU:(limbs x).length=r:=by
   rw[<-HV.out,Ow,cw,HX.out];omega
  have Bu:=Hr.out.limbs hrm Ow;rw[HV.out] at Bu;have HRD:=ag Bu;have XD:=ag zU;clear Ow Bu;by_cases uv:x=0
  ·have Gr:r=0:=by rw[<-zU,uv,de];rfl
   have HX0:=ag uv;have TA:((r:Int) == 0)=true:=by rw[beq_iff_eq];omega
   clear uv Gr zU JD;go_wp2_with fail
   refine dm.out _ _ ⟨.inr ⟨λh=>h.1 HX0.out,.slice none 0 0,aa,?_⟩,gY _ _⟩;have:jI x n=0:=by simp[jI,HX0.out]
   rw[this,de];exact oI _ _ _ _
  ·have Gr:0<r:=by rw[<-zU];exact fp uv
   have TA:((r:Int) == 0)=false:=by rw[eQ];omega
   clear zU;by_cases Gz:65536<n
   ·go_wp2_with fail
    exact dm.out _ _ ⟨.inl ⟨uv,Gz,aa⟩,gY _ _⟩
   ·have rG:n<0:=by
     by_cases h:n<0
     ·exact h
     ·exact absurd ⟨uv,ae,ae⟩ JD
    clear JD;have HX0:=ag uv;clear uv;have hmul:IntKind.i64.wrap (-32*(r:Int))= -32*(r:Int):=cO _ ae;by_cases sL:n<=-32*(r:Int)
    ·go_wp2_with fail
     refine dm.out _ _ ⟨.inr ⟨λh=>ae,.slice none 0 0,aa,?_⟩,gY _ _⟩
     have:jI x n=0:=by
      unfold jI;rw[if_neg ae];exact Aa (m:=r) (by rw[XD.out];exact bl _) ae
     rw[this,de];exact oI _ _ _ _
    ·obtain⟨k,rfl⟩:∃ k:Nat,n= -(k:Int):=⟨(-n).toNat,ae⟩;obtain⟨b,off,y,rfl,_,_,_⟩:=HRD.out.cellAt (k:=0) Gr;have hkr:k/32<r:=ae;have hneq:¬ (c=k/32):=ae;have KW:0<k:=ae
     have LG:Rd w 1 (.slice (some ⟨b,off+k/32,none⟩) (r-k/32) (c-k/32)) (r-k/32) (ints .u32 ((limbs x).drop (k/32))):=by
      obtain⟨p',c',hv',h1,h2,h3,h4⟩:=HRD.out;simp only[Value.slice.injEq,true_and] at hv';obtain⟨rfl,rfl⟩:=hv';refine⟨_,_,aa,ae,by unfold maxLen at h2 ⊢;omega,by rw[Bs,Bd,XD.out];omega,λ_=>⟨b,off+k/32,rfl,λj u hj=> ?_⟩⟩;obtain⟨b',off',hp,hc⟩:=h4 ae;simp only[Option.some.injEq,Addr.mk.injEq,and_true] at hp;obtain⟨rfl,rfl⟩:=hp;rw[<-Tu,uD] at hj;have:=hc _ _ hj
      rwa [<-xY] at this
     have HDR:=ag LG;clear LG;have hq1:0<=(k:Int)/32:=ae;have hq2:(k:Int)/32<(r:Int):=ae;go_wp2_with fail
     rw[show (k:Int)%32=((k%32:Nat):Int) by omega];refine (TD _ _ (k%32) _ _ HDR.out ((aF x).drop _) ae (fY _ ae)).mono ?_;rintro e w1 ⟨⟨v1,m1,rs,rfl,hm1,hrd1,GA,Ox⟩,aU⟩;obtain⟨p1,c1,rfl,_,_,hrl⟩:=hrd1.u32;have HR1:=ag hrd1;have HV1:=ag Ox;have HRL:=ag hrl;clear hrd1 Ox hrl;go_wp2_with fail
     refine (eW p1 m1 c1 rs _ HR1.out GA).mono ?_;rintro e w2 ⟨⟨r2,qk,rfl,hlr2⟩,rfl⟩;have hml2:Hid ((limbs (au rs)).length=r2):=by show _=_;rw[hlr2,cw,HRL.out];omega
     have HR2:=ag (HR1.out.limbs qk hlr2);clear hlr2;go_wp2_with fail
     refine (mr _ r2 _ _ HR2.out ae).mono ?_;rintro e w2 ⟨v2,rfl,aY,bu⟩
     have hval:jI x (-(k:Int))=au rs:=by
      unfold jI;rw[if_neg ae,HV1.out,Cj x (k/32) (by rw[XD.out];omega),Nat.div_div_eq_div_mul,LA,<-tX,Ho];simp
     go_wp2_with fail
     refine dm.out _ _ ⟨.inr ⟨λh=>ae,v2,aa,?_⟩,aU.trans (bu.mono aU.size)⟩;rw[hval,hml2.out];exact Own.mono aY aU.size
end
section
theorem LH {xs:List Nat} {j o v:Nat} (h:xs[j]? =some o):au (xs.set j v)+4294967296^j*o=au xs+4294967296^j*v:=by
 obtain⟨hl,he⟩:=cM.1 h;have h1:xs=xs.take j++o::xs.drop (j+1):=by rw[<-he,<-tN hl,wB]
 have h2:xs.set j v=xs.take j++v::xs.drop (j+1):=by
  conv=>lhs;rw[h1]
  rw[xV _ _ (by rw[cw];omega)];rw[cw,gW ae,oJ];rfl
 have e1:au xs=au (xs.take j)+4294967296^j*(o+4294967296*au (xs.drop (j+1))):=by
  conv=>lhs;rw[h1]
  rw[gL,cw,gW ae,ia]
 have e2:au (xs.set j v)=au (xs.take j)+4294967296^j*(v+4294967296*au (xs.drop (j+1))):=by
  rw[h2,gL,cw,gW ae,ia]
 rw[e1,e2,dp,dp];omega
theorem eB.set {xs:List Nat} (h:eB xs) {v:Nat} (hv:v<4294967296) (j:Nat):eB (xs.set j v):=λy hy=>by
 rcases Lf hy with h1|h1
 ·exact h y h1
 ·rw[h1];exact hv
theorem Eg (k:Nat):au (List.replicate k 0)=0:=kf _ k
theorem Eh {xs:List Nat} (k:Nat) (hk:k<=xs.length):au xs=au (xs.take k)+4294967296^k*au (xs.drop k):=mN _ xs k hk
theorem xc {xs:List Nat} {k x:Nat} (h:xs[k]? =some x):au (xs.drop k)=x+4294967296*au (xs.drop (k+1)):=wW h
theorem LI {os:List Nat} {i k x y o c s S Y:Nat} (ho:os[i+k]? =some o) (hs:s=x*y+o+c) (h:au os+4294967296^(i+k)*c=S+4294967296^i*(x*Y)):
  au (os.set (i+k) (s%4294967296))+4294967296^(i+(k+1))*(s/4294967296)=S+4294967296^i*(x*(Y+4294967296^k*y)):=by
 have h1:=LH (v:=s%4294967296) ho;have h2:4294967296^(i+(k+1))=4294967296^(i+k)*4294967296:=by rw[<-xY,ir]
 have h3:4294967296^(i+k)*s=4294967296^(i+k)*(s%4294967296)+4294967296^(i+k)*4294967296*(s/4294967296):=by
  rw[fX,<-dp,xX]
 have h4:4294967296^(i+k)*s=4294967296^(i+k)*(x*y)+4294967296^(i+k)*o+4294967296^(i+k)*c:=by rw[hs,dp,dp]
 have h5:4294967296^i*(x*(Y+4294967296^k*y))=4294967296^i*(x*Y)+4294967296^(i+k)*(x*y):=by
  rw[dp,dp,tX]
  congr 1
  rw[Hm x,fX]
 rw[h2,h5];omega
theorem yv {x y o c:Nat} (hx:x<4294967296) (hy:y<4294967296) (ho:o<4294967296) (hc:c<4294967296):x*y+o+c<18446744073709551616:=by
 have h1:x*y<=4294967295*4294967295:=kD ae ae;omega
def kh (U V:Nat):Nat:=min 4294967295 (U/V)
theorem LJ {U V:Nat}:kh U V*V<=U:=bG (kC _ (Nat.min_le_right _ _)) (Lj U V)
theorem Ii {U V t:Nat} (hV:0<V) (ht:t<=4294967295) (h:t*V<=U):t<=kh U V:=by
 unfold kh;rw[Nat.le_min];exact⟨ht,(Hi hV).2 h⟩
theorem Pa {p U V u b lu lb:Nat} (hp:0<p) (hu:u=U*p+lu) (hlu:lu<p) (hb:b=V*p+lb) (Oy:lb<p) (hV:4294967296<=V) (hub:u<4294967296*b):
  u/b<=kh U V/\kh U V<=u/b+1:=by
 have hV0:0<V:=ae;have sj:0<b:=by have:0<V*p:=Nat.mul_pos hV0 hp;omega
 constructor
 ·refine Ii hV0 ?_ ?_
  ·have:u/b<4294967296:=by rw[Lh sj];exact hub
   omega
  ·have h1:u/b*b<=u:=Lj u b
   have h2:u/b*V*p<=U*p+lu:=by
    rw[hb] at h1;rw[hu,dp,<-fX] at h1;rw[<-hb,<-hu] at h1;have:u/b*V*p<=u:=ae;omega
   rcases tU U (u/b*V) with h|h
   ·have h3:(U+1)*p<=u/b*V*p:=kC _ h;rw[ff] at h3;omega
   ·exact h
 ·have hg:=@LJ U V;have hgB:kh U V<=4294967295:=Nat.min_le_left _ _;generalize kh U V=q at hg hgB;have h1:q*V*p<=U*p:=kC _ hg;have h2:q*lb<=4294967295*lb:=kC _ hgB;have h3:q*b=q*V*p+q*lb:=by rw[hb,dp,<-fX]
  have h4:4294967296*p<=V*p:=kC _ hV;have h5:q*b<u+b:=ae
  have h6:q<u/b+2:=by
   have h7:u<(u/b+1)*b:=by rw[ff];have e1:=Ho u b;have e2:=fY u sj;rw[iu] at e1;omega
   have h8:q*b<(u/b+2)*b:=by rw[ff];rw[ff] at h7;omega
   exact Xe h8
  omega
theorem Pb {B p a y q c r x ux X Y D:Nat} (h:D+q*Y=X+p*(c+r)) (hx:a+B*ux=x+(q*y+c)%B+r):
  (D+p*x)+q*(Y+p*y)=(X+p*a)+p*B*((q*y+c)/B+ux):=by
 have h1:=xX (q*y+c) B;have h2:p*(a+B*ux)=p*x+p*((q*y+c)%B)+p*r:=by rw[hx,dp,dp]
 have h3:p*((q*y+c)%B)+p*(B*((q*y+c)/B))=p*(q*y)+p*c:=by rw[<-dp,h1,dp]
 have h4:q*(Y+p*y)=q*Y+p*(q*y):=by rw[dp,Hm]
 have h5:p*B*((q*y+c)/B+ux)=p*(B*((q*y+c)/B))+p*(B*ux):=by rw[fX,dp,dp]
 rw[dp] at h2 h;rw[h4,h5];omega
end
section
open Go.RowKit
theorem tab_fin:∀ i:Fin 256,(Lib.len8tab[i.val]'(by have:=i.2;have:Lib.len8tab.size=256:=by decide+kernel
                                                    omega)).toNat=kO i.val:=by decide+kernel
theorem LK:Lib.len8tab.size=256:=by decide+kernel
theorem tab_at (i:Nat) (h:i<Lib.len8tab.size):(Lib.len8tab[i]'h).toNat=kO i:=tab_fin ⟨i,by rw[LK] at h;exact h⟩
theorem Ei {t k:Nat} (h:2^k<=t):kO t=k+kO (t/2^k):=by
 have hp:0<2^k:=uH ae
 have hq:t/2^k≠0:=by
  have:=(Hi hp).2 (show 1*2^k<=t by omega);omega
 have h1:=CY (t/2^k);have h2:=CZ hq;have h0:=yj hq;refine RM ?_ (.inr ?_)
 ·rw[tX,iu];exact (Lh hp).1 h1
 ·rw[show k+kO (t/2^k)-1=(kO (t/2^k)-1)+k by omega,tX];exact (Hi hp).1 h2
theorem sM {i:Nat} (h:i<256):kO i<=8:=wU (k:=8) h
set_option maxRecDepth 100000 in
theorem TG (x:Int) (w:World) (h0:0<=x) (h1:x<=4294967295):
  Calls Tryz.prog 257 #[.int .u32 x] w λe w'=>e=.returned (.int .i64 (kO x.toNat:Int))/\w=w':=by
 have hsz:(Lib.len8tab.size:Int)=256:=by rw[LK];rfl
 refine bI λR' dm=> ?_;go_enter Tryz.func257,Tryz.ntmps257
 go_wp2
 all_goals
  refine dm.out _ _ ⟨rE ?_,aa⟩;simp only[tab_at,wrap64]
 all_goals first
  | (have e:=Ei (t:=x.toNat) (k:=24) ae
     have b:=sM (i:=x.toNat/2^24) ae;rw[show (x/65536/256).toNat=x.toNat/2^24 by omega];omega)
  | (have e:=Ei (t:=x.toNat) (k:=16) ae
     have b:=sM (i:=x.toNat/2^16) ae;rw[show (x/65536).toNat=x.toNat/2^16 by omega];omega)
  | (have e:=Ei (t:=x.toNat) (k:=8) ae
     have b:=sM (i:=x.toNat/2^8) ae;rw[show (x/256).toNat=x.toNat/2^8 by omega];omega)
  | (have b:=sM (i:=x.toNat) ae
     omega)
theorem TH (t:Nat) (w:World) (h1:t<4294967296):
  Calls Tryz.prog 257 #[.int .u32 (t:Int)] w λe w'=>e=.returned (.int .i64 (kO t:Int))/\w=w':=by
 have h:=TG (t:Int) w ae ae
 rwa [dV] at h
theorem LL (t:Nat) (w:World) (ht:t<4294967296) (h0:t≠0):
  Calls Tryz.prog 272 #[.int .u32 (t:Int)] w λe w'=>(∃ u:Nat,e=.returned (.int .i64 (u:Int))/\u<32/\t*2^u<4294967296)/\w=w':=by
 have hs:=CY t;have hb:kO t<=32:=wU (k:=32) ht;have sj:=yj h0;refine bI λR' dm=> ?_;go_enter Tryz.func272,Tryz.ntmps272
 go_wp2_with fail
 refine (TH t _ ht).mono ?_;rintro e w1 ⟨rfl,rfl⟩;generalize kO t=L at*;go_wp2_with fail
 refine dm.out _ _ ⟨⟨32-L,rE ae,ae,?_⟩,aa⟩;have h1:t*2^(32-L)<2^L*2^(32-L):=Nat.mul_lt_mul_of_pos_right hs (uH ae);rw[<-tX,show L+(32-L)=32 by omega] at h1;exact h1
def Ej (w:World) (B n m:Nat) (xs ys:List Nat) (v iv:Value) (wr:World):Prop:=
 ∃ (i:Nat) (os:List Nat),i<=n/\iv=.int .i64 (i:Int)/\os.length=n+m/\eB os/\(∀ j,i+m<=j->∀ x,os[j]? =some x->x=0)/\au os=au (xs.take i)*au ys/\
   wr.ownsRow B 78 1 v (n+m) (ints .u32 os)/\Below B w wr
def LM (w:World) (B n m i S x:Nat) (ys:List Nat) (v cv kv:Value) (wr:World):Prop:=
 ∃ (k c:Nat) (os:List Nat),k<=m/\kv=.int .i64 (k:Int)/\cv=.int .u64 (c:Int)/\c<4294967296/\os.length=n+m/\eB os/\(∀ j,i+m<=j->∀ x,os[j]? =some x->x=0)/\
   au os+4294967296^(i+k)*c=S+4294967296^i*(x*au (ys.take k))/\wr.ownsRow B 78 1 v (n+m) (ints .u32 os)/\Below B w wr
theorem XE {os:List Nat} {i m j v:Nat} (h:∀ j,i+m<=j->∀ x,os[j]? =some x->x=0) (hj:j<i+m):∀ l,i+m<=l->∀ x,(os.set j v)[l]? =some x->x=0:=λl hl x hx=>by
 rw[List.getElem?_set_ne ae] at hx;exact h l hl x hx
theorem LM.step {w wr:World} {B n m i S x y o k c g cap:Nat} {ys os:List Nat} {q r:Int} (hk:k<m) (_:i<n) (hl:os.length=n+m) (xl:eB os) (hz:∀ j,i+m<=j->∀ x,os[j]? =some x->x=0)
  (hv:au os+4294967296^(i+k)*c=S+4294967296^i*(x*au (ys.take k))) (aY:wr.ownsRow B 78 1 (.slice (some ⟨g,0,none⟩) (n+m) cap) (n+m) (ints .u32 os)) (hb:Below B w wr)
  (hy:ys[k]? =some y) (ho:os[i+k]? =some o) (pP:x<4294967296) (Ia:y<4294967296) (WJ:c<4294967296) (hq:q=(((x*y+o+c)%4294967296:Nat):Int)) (hr:r=(((x*y+o+c)/4294967296:Nat):Int)):
  LM w B n m i S x ys (.slice (some ⟨g,0,none⟩) (n+m) cap) (.int .u64 r) (.int .i64 ((k:Int)+1)) (wr.setCell ⟨g,i+k,none⟩ (.int .u32 q)):=by
 subst hq;subst hr;have ho4:=xl.at ho;have hs:=yv pP Ia ho4 WJ;refine⟨k+1,(x*y+o+c)/4294967296,os.set (i+k) ((x*y+o+c)%4294967296),ae,aa,aa,ae,by simp[hl],xl.set (fY _ ae) _,XE hz ae,?_,Own.jy aY,hb.setCell (Own.lt aY).1 _⟩;have h1:au (ys.take (k+1))=au (ys.take k)+4294967296^k*y:=by rw[cH,List.getD,hy];rfl
 rw[h1];exact LI ho aa hv
theorem Ej.step {w wr:World} {B n m i x c g cap:Nat} {xs ys os:List Nat} {q:Int} (hi:i<n) (hl:os.length=n+m) (xl:eB os) (hz:∀ j,i+m<=j->∀ x,os[j]? =some x->x=0) (hm:ys.length=m)
  (hv:au os+4294967296^(i+m)*c=au (xs.take i)*au ys+4294967296^i*(x*au (ys.take m))) (aY:wr.ownsRow B 78 1 (.slice (some ⟨g,0,none⟩) (n+m) cap) (n+m) (ints .u32 os)) (hb:Below B w wr)
  (hx:xs[i]? =some x) (WJ:c<4294967296) (hq:q=(c:Int)):
  Ej w B n m xs ys (.slice (some ⟨g,0,none⟩) (n+m) cap) (.int .i64 ((i:Int)+1)) (wr.setCell ⟨g,i+m,none⟩ (.int .u32 q)):=by
 subst hq;obtain⟨o,ho⟩:∃ o,os[i+m]? =some o:=⟨_,bj ae⟩;obtain rfl:=hz (i+m) (bl _) o ho;refine⟨i+1,os.set (i+m) c,ae,aa,by simp[hl],xl.set WJ _,λj hj y hy=> ?_,?_,Own.jy aY,hb.setCell (Own.lt aY).1 _⟩
 ·rw[List.getElem?_set_ne ae] at hy;exact hz j ae y hy
 ·have h1:=LH (v:=c) ho;have h2:au (xs.take (i+1))=au (xs.take i)+4294967296^i*x:=by rw[cH,List.getD,hx];rfl
  rw[cU (gX hm)] at hv;rw[h2,ff,fX];omega
set_option maxRecDepth 100000 in
theorem XF (va vb:Value) (n m:Nat) (xs ys:List Nat) (w:World) (hr:Rd w 1 va n (ints .u32 xs)) (hs:Rd w 1 vb m (ints .u32 ys)) (hx:eB xs) (hy:eB ys) (hn:n<=536870912) (hm:m<=536870912):
  Calls Tryz.prog 167 #[va,vb] w λe w'=>∃ v',e=.returned v'/\w'.ownsRow w.heap.size 78 1 v' (limbs (au xs*au ys)).length (ints .u32 (limbs (au xs*au ys)))/\Below w.heap.size w w':=by
 obtain⟨p,c,rfl,eS,gv,gU⟩:=hr.u32;obtain⟨q,d,rfl,Tz,Ov,si⟩:=hs.u32;obtain⟨i0,hi,nW,sH,uN⟩:=info_parts mP;have Hr:=ag hr;have Hs:=ag hs;have HLX:=ag hx;have HLY:=ag hy;have HX:=ag gU;have HY:=ag si;obtain⟨B,hB⟩:∃ B,B=w.heap.size:=⟨_,aa⟩;have HB:=ag hB;rw[<-hB];clear hr hs hx hy gU si hB;refine bI λR' dm=> ?_;go_enter Tryz.func167,Tryz.ntmps167
 go_wp2_with (at_make;refine wpList_make_full _ aa _ _ 23 aa B 78 i0 (.int .u32 0) 1 pW hi nW sH .i64 .i64 _ _ (n+m) aa aa ae ae (by rw[uN];omega) (by unfold maxLen;omega) (gX HB.out) ?_;intro w1 aY LF)
 have OV:=ag (Own.made aY);have Hb1:Hid (Below B w w1):=(gY _ _).grown LF (gX HB.out) (λk hk=>by cases hk);clear aY LF hi nW sH uN;go_wp2_with fail
 go_loopw [20] (λiv wr=>Ej w B n m xs ys (.slice (some ⟨w.heap.size,0,none⟩) (n+m) (n+m)) iv wr) (λiv _=>n-(intOf iv).toNat)
 case atStart=>exact⟨0,List.replicate (n+m) 0,eK _,aa,cZ,gi.replicate ae _,λj _ x hx=>by rw[List.getElem?_replicate] at hx;split at hx <;> simp_all,by rw[Eg];simp[fQ],by simpa using OV.out,Hb1.out⟩
 case round=>
  obtain⟨i,os,lV,rfl,hl,xl,hz,hv,aY,hb⟩:=hrel;have HLO:=ag hl;have HLIM:=ag xl;have HZ:=ag hz;have HV:=ag hv;have HO:=ag aY;have kc:=ag hb;have hsz:=hb.size;clear hl xl hz hv aY hb;by_cases Pc:i<n
  ·obtain⟨b1,o1,x,rfl,aU,im,pO⟩:=(Hr.out.mn HB.out kc.out).cellAt Pc;have Dd:=ag im;have pP:=HLX.out.at im;clear im;go_wp2_with fail
   obtain⟨wo,rfl⟩:∃ wo:World,wo=wr:=⟨_,aa⟩;go_loopw [8,27] (λcv kv wr'=>LM w B n m i (au (xs.take i)*au ys) x ys (.slice (some ⟨w.heap.size,0,none⟩) (n+m) (n+m)) cv kv wr') (λ_ kv _=>m-(intOf kv).toNat)
   case atStart=>exact⟨0,0,os,eK _,aa,aa,ae,HLO.out,HLIM.out,HZ.out,by rw[HV.out];simp[fQ],HO.out,kc.out⟩
   case round=>
    obtain⟨k,c',os',OW,rfl,rfl,WJ,Pd,LN,Pe,hv',hown',hb'⟩:=hrel;have HLO':=ag Pd;have LO:=ag LN;have HZ':=ag Pe;have HV':=ag hv';have HO':=ag hown';have XG:=ag hb';clear Pd LN Pe hv' hown' hb';obtain⟨o,ho,hco,hfo⟩:=Own.jT HO'.out (j:=i+k) ae;have HOK:=ag ho;have ho4:=LO.out.at ho;clear ho;by_cases hklt:k<m
    ·obtain⟨b2,o2,y,rfl,bu,uf,Gx⟩:=(Hs.out.mn HB.out XG.out).cellAt hklt;have RO:=ag uf;have Ia:=HLY.out.at uf;clear uf;have hsm:=yv pP Ia ho4 WJ;have m0:0<=(x:Int)*(y:Int):=by rw[<-wF];omega
     have m1:(x:Int)*(y:Int)+(o:Int)+(c':Int)<18446744073709551616:=by rw[<-wF];omega
     have TJ:IntKind.i64.wrap ((i:Int)+(k:Int))=((i+k:Nat):Int):=by rw[cO _ ae];simp
     clear hsm;go_wp2_with fail
     go_roundw
     case rel=>
      first
      | exact LM.step hklt Pc HLO'.out LO.out HZ'.out HV'.out HO'.out XG.out RO.out HOK.out pP Ia WJ cZ cZ
      | ((repeat apply Exists.intro);exact⟨LM.step hklt Pc HLO'.out LO.out HZ'.out HV'.out HO'.out XG.out RO.out HOK.out pP Ia WJ cZ cZ,aa⟩)
     case measure=>simp[intOf];omega
    ·obtain rfl:k=m:=by omega
     have TJ:IntKind.i64.wrap ((i:Int)+(k:Int))=((i+k:Nat):Int):=by rw[cO _ ae];simp
     go_wp2_with fail
     go_roundw
     case rel=>
      first
      | exact Ej.step Pc HLO'.out LO.out HZ'.out HY.out HV'.out HO'.out XG.out Dd.out WJ aa
      | ((repeat apply Exists.intro);exact⟨Ej.step Pc HLO'.out LO.out HZ'.out HY.out HV'.out HO'.out XG.out Dd.out WJ aa,aa⟩)
     case measure=>simp[intOf];omega
  ·obtain rfl:i=n:=by omega
   go_wp2_with fail
   refine (na _ (i+m) os _ (Rd.own HO.out) HLIM.out ae).mono ?_;rintro e w2 ⟨v',rfl,oN,bu⟩;go_wp2_with fail
   have h:=HV.out;rw[cU (gX HX.out)] at h;rw[h] at oN;exact dm.out _ _ ⟨v',aa,Own.mono oN (by have:=HB.out;omega),kc.out.trans (bu.mono (by have:=HB.out;omega))⟩
end
section
open Go.RowKit
def LP (w:World) (U2 v1 V U:Nat) (qv rv:Value) (wr:World):Prop:=
 ∃ q r dn:Nat,qv=.int .u64 (q:Int)/\rv=.int .u64 (r:Int)/\q*v1+r=U2/\r<4294967296/\(∀ t:Nat,t<=4294967295->t*V<=U->t<=q)/\wr=w.drewN dn
variable {B U2 v1 v2 low:Nat}
theorem JN (Ox:0<v1) (hl:low<B) (t:Nat) (h:t*(v1*B+v2)<=U2*B+low):t<=U2/v1:=by
 rw[Hi Ox];rw[dp,<-fX] at h;have h1:t*v1*B<(U2+1)*B:=by rw[ff];omega
 have:=Xe h1;omega
theorem LQ (Ox:0<v1) (hl:low<4294967296):∀ t:Nat,t<=4294967295->t*(v1*4294967296+v2)<=U2*4294967296+low->t<=U2/v1:=λt _ h=>JN Ox hl t h
variable {r:Nat}
theorem Ek {q:Nat} (h:q*v1+r=U2) (hf:q*v2<=r*B+low):q*(v1*B+v2)<=U2*B+low:=by
 subst h;rw[dp,<-fX,ff];omega
theorem Pf {q:Nat} (h:q*v1+r=U2) (hf:r*B+low<q*v2):U2*B+low<q*(v1*B+v2):=by
 subst h;rw[dp,<-fX,ff];omega
theorem LR {q V U:Nat} (hV:0<V) (hq:q<=4294967295) (hf:q*V<=U) (hm:∀ t:Nat,t<=4294967295->t*V<=U->t<=q):q=kh U V:=
 Nat.le_antisymm (Ii hV hq hf) (hm _ (Nat.min_le_left _ _) LJ)
theorem LS {q:Nat} (h:q*v1+r=U2) (hr:4294967296<=r) (hU:U2<v1*4294967296+4294967296) (hv2:v2<4294967296):q<=4294967295/\q*v2<=r*4294967296+low:=by
 have h1:q*v1<4294967296*v1:=ae;have h2:q<4294967296:=Xe h1;have h3:q*v2<=4294967295*4294967295:=kD ae ae;omega
set_option maxRecDepth 100000 in
theorem TK (hi mid low v1 v2:Nat) (w:World) (hhi:hi<=v1) (sJ:mid<4294967296) (hlow:low<4294967296) (h1:0<v1) (h14:v1<4294967296) (h2:v2<4294967296):
  Calls Tryz.prog 274 #[.int .u32 (hi:Int),.int .u32 (mid:Int),.int .u32 (low:Int),.int .u32 (v1:Int),.int .u32 (v2:Int)] w λe w'=>
   e=.returned (.int .u64 (kh ((hi*4294967296+mid)*4294967296+low) (v1*4294967296+v2):Int))/\∃ k,w'=w.drewN k:=by
 have hhi4:hi<4294967296:=ae
 have DY:bits BinOp.or IntKind.u64 ((hi:Int)*4294967296) (mid:Int)=((hi*4294967296+mid:Nat):Int):=by
  have e1:((hi:Int)*4294967296)=((hi*4294967296:Nat):Int):=cZ;rw[e1,u64_or_nat _ _ ae ae,nat_join 32 _ _ ae ae]
 obtain⟨U2,hU2⟩:∃ U2,U2=hi*4294967296+mid:=⟨_,aa⟩;have hU:U2<v1*4294967296+4294967296:=ae;rw[<-hU2] at DY ⊢;have RR:((v1:Int) != 0)=true:=by rw[bne_iff_ne];omega
 have hV:0<v1*4294967296+v2:=ae;obtain⟨V,hVe⟩:∃ V,V=v1*4294967296+v2:=⟨_,aa⟩;obtain⟨U,hUe⟩:∃ U,U=U2*4294967296+low:=⟨_,aa⟩;rw[<-hVe,<-hUe];rw[<-hVe] at hV;have HV:=ag hVe;have HU:=ag hUe;have HST:Hid (∀ t:Nat,t<=4294967295->t*V<=U->t<=U2/v1):=by rw[hVe,hUe];exact LQ h1 hlow
 have HUU:=ag hU;have Ov:=Ho U2 v1;have zU:=fY U2 h1;have hU64:U2<18446744073709551616:=ae;have d1:((U2/v1:Nat):Int)=(U2:Int)/(v1:Int):=cZ;have d2:((U2%v1:Nat):Int)=(U2:Int)%(v1:Int):=cZ;have dl:(U2:Int)/(v1:Int)<18446744073709551616:=by rw[<-d1];have:=Lt U2 v1;omega
 have dl0:0<=(U2:Int)/(v1:Int):=Int.ediv_nonneg ae ae;have dm0:0<=(U2:Int)%(v1:Int):=Int.emod_nonneg _ ae;have dm1:(U2:Int)%(v1:Int)<4294967296:=by rw[<-d2];omega
 have HDM:=ag Ov;have XD:=ag zU;have HD1:=ag d1;have HD2:=ag d2;clear hVe hUe hU Ov zU d1 d2 hU2;refine bI λR' dm=> ?_;go_enter Tryz.func274,Tryz.ntmps274
 go_wp2_with fail
 go_step3
 go_wp2_with fail
 go_quiet (fail)
 go_wp2_with fail
 go_step3
 go_wp2_with fail
 go_loopw [12,13] (λqv rv wr=>LP w U2 v1 V U qv rv wr) (λqv _ _=>(intOf qv).toNat)
 case atStart=>exact⟨U2/v1,U2%v1,_,by rw[HD1.out],by rw[HD2.out],by rw[iu];exact HDM.out,Nat.lt_trans XD.out h14,HST.out,aa⟩
 case round=>
  obtain⟨q,r,dn,rfl,rfl,hqr,hr,hmax,rfl⟩:=hrel;have HQR:=ag hqr;have HMAX:=ag hmax
  have hq64:(q:Int)<18446744073709551616:=by
   have h3:q*1<=q*v1:=lZ _ h1;omega
  have hr64:(r:Int)+(v1:Int)<18446744073709551616:=ae;clear hqr hmax dl dl0 dm0 dm1 DY
  have next:(∀ t:Nat,t<=4294967295->t*V<=U->t<=q-1)->1<=q->r+v1<4294967296->LP w U2 v1 V U (.int .u64 ((q:Int)-1)) (.int .u64 ((r:Int)+(v1:Int))) (w.drewN dn):=λa b c=>
   ⟨q-1,r+v1,dn,by rw[show ((q-1:Nat):Int)=(q:Int)-1 by omega],cZ,by
    have h3:=HQR.out;obtain⟨k,rfl⟩:∃ k,q=k+1:=⟨q-1,ae⟩;rw[ff] at h3;simp only[Nat.add_sub_cancel];omega,c,a,rfl⟩
  have stop:(∀ t:Nat,t<=4294967295->t*V<=U->t<=q-1)->1<=q->4294967296<=r+v1->(q:Int)-1=(kh U V:Int):=λa b c=>by
   have h3:=HQR.out;obtain⟨k,rfl⟩:∃ k,q=k+1:=⟨q-1,ae⟩;have h4:k*v1+(r+v1)=U2:=by rw[ff] at h3;omega
   obtain⟨h5,h6⟩:=LS (low:=low) h4 c HUU.out h2;have h7:k=kh U V:=LR hV h5 (by rw[HV.out,HU.out];exact Ek h4 h6) (by simpa using a);omega
  have HNEXT:=ag next
  have HSTOP:=ag stop;clear next stop
  by_cases hqB:4294967296<=q
  ·have c1:4294967295<(q:Int):=by omega
   have hA:Hid (∀ t:Nat,t<=4294967295->t*V<=U->t<=q-1):=λt ht _=>ae;have c2:0<=(q:Int)-1:=ae;by_cases TA:r+v1<4294967296
   ·have c3:decide (4294967295<(r:Int)+(v1:Int))=false:=az ae;go_wp2_with fail
    go_roundw
    case rel=>exact HNEXT.out hA.out ae TA
    case measure=>simp[intOf];omega
   ·have c3:4294967295<(r:Int)+(v1:Int):=by omega
    go_wp2_with fail
    exact dm.out _ _ ⟨rE (HSTOP.out hA.out ae ae),_,aa⟩
  ·have c1:(q:Int)<=4294967295:=by omega
   have m2:q*v2<=4294967295*4294967295:=kD ae ae;have m0:0<=(q:Int)*(v2:Int):=by rw[<-wF];omega
   have m1:(q:Int)*(v2:Int)<18446744073709551616:=by rw[<-wF];omega
   have DY:bits BinOp.or IntKind.u64 ((r:Int)*4294967296) (low:Int)=((r*4294967296+low:Nat):Int):=by
    have e1:((r:Int)*4294967296)=((r*4294967296:Nat):Int):=cZ;rw[e1,u64_or_nat _ _ ae ae,nat_join 32 _ _ ae ae]
   obtain⟨RL,hRL⟩:∃ RL,RL=r*4294967296+low:=⟨_,aa⟩;rw[<-hRL] at DY;have HRL:=ag hRL;by_cases hc:RL<q*v2
   ·have cc:(RL:Int)<(q:Int)*(v2:Int):=by rw[<-wF];omega
    have hq1:1<=q:=by
     rcases oH q with h|h
     ·subst h;rw[DM] at hc;omega
     ·exact h
    have hA:Hid (∀ t:Nat,t<=4294967295->t*V<=U->t<=q-1):=λt ht hf=>by
     have h3:=HMAX.out t ht hf;have h4:=Pf (B:=4294967296) (low:=low) HQR.out (by rw[<-hRL];exact hc);rw[<-HV.out,<-HU.out] at h4;have h5:t≠q:=λe=>by subst e;omega
     omega
    have c2:0<=(q:Int)-1:=ae;clear m2 hc hRL;by_cases TA:r+v1<4294967296
    ·have c3:decide (4294967295<(r:Int)+(v1:Int))=false:=az ae;go_wp2_with fail
     go_roundw
     case rel=>exact HNEXT.out hA.out ae TA
     case measure=>simp[intOf];omega
    ·have c3:4294967295<(r:Int)+(v1:Int):=by omega
     go_wp2_with fail
     exact dm.out _ _ ⟨rE (HSTOP.out hA.out ae ae),_,aa⟩
   ·have cc:decide ((RL:Int)<(q:Int)*(v2:Int))=false:=az (by rw[<-wF];omega);have cx:decide (4294967295<(q:Int))=false:=az ae;have he:q=kh U V:=LR hV ae (by rw[HV.out,HU.out];exact Ek HQR.out (by rw[<-hRL];omega)) HMAX.out;have HE:=ag he;clear m2 hc hRL he c1;go_wp2_with fail
    exact dm.out _ _ ⟨by rw[<-HE.out];rfl,_,rfl⟩
end
section
open Go.RowKit
theorem Rd.yw {w w':World} {g sz n:Nat} {v:Value} {cs:List Value} (h:Rd w sz v n cs) (hg:w.grownBy w' (some g)) (hne:∀ p c a,v=.slice p n c->p=some a->a.block≠g):Rd w' sz v n cs:=by
 obtain⟨p,c,rfl,h1,h2,h3,h4⟩:=h;refine⟨p,c,aa,h1,h2,h3,λhn=> ?_⟩;obtain⟨b,off,hp,hc⟩:=h4 hn;refine⟨b,off,hp,λj u hj=> ?_⟩;exact hg.cell (hc j u hj) (λe=>hne p c _ aa hp (by simpa using e))
theorem qQ (w:World) (row:Option Nat):w.grownBy w row:=⟨rfl,rfl,rfl,bl _,λ_ _ _=>rfl⟩
theorem GB {a b c:World} {row:Option Nat} (h:a.grownBy b row) (k:b.grownBy c row):a.grownBy c row:=
 ⟨k.os.trans h.os,k.tape.trans h.tape,k.output.trans h.output,bG h.size k.size,λj hj hne=>(k.block j (tS hj h.size) hne).trans (h.block j hj hne)⟩
theorem sN {w wr:World} {g j:Nat} {u:Value} (h:w.grownBy wr (some g)):w.grownBy (wr.setCell ⟨g,j,none⟩ u) (some g):=
 ⟨h.os,h.tape,h.output,by simpa [World.setCell] using h.size,λk hk hne=>(uE wr ⟨g,j,none⟩ u k (λe=>hne (by rw[e]))).trans (h.block k hk hne)⟩
theorem Df {pre D A post:List Nat} {i k a:Nat} (hp:pre.length=i) (hD:D.length=k) (ha:A[k]? =some a):(pre++(D++(A.drop k++post)))[i+k]? =some a:=by
 subst hp;subst hD;obtain⟨hl,he⟩:=cM.1 ha;rw[tM ae,Rz,tM (bl _),oJ,tN hl,Lr,List.getElem?_cons_zero,he]
theorem RS {pre D A post:List Nat} {i k x:Nat} (hp:pre.length=i) (hD:D.length=k) (hl:k<A.length):(pre++(D++(A.drop k++post))).set (i+k) x=pre++((D++[x])++(A.drop (k+1)++post)):=by
 subst hp;subst hD;rw[xV _ _ ae,Rz,xV _ _ (bl _),oJ,tN hl,Lr,List.set_cons_zero,uF];rfl
theorem yx (n:Int):IntKind.u64.wrap n=n%18446744073709551616:=by simp[IntKind.wrap,IntKind.bits,IntKind.signed]
theorem LU {a lo r:Nat} (ha:a<4294967296) (hl:lo<4294967296) (hr:r<=1):∃ S1 S2 x r':Nat,IntKind.u64.wrap ((a:Int)-(lo:Int))=(S1:Int)/\IntKind.u64.wrap ((S1:Int)-(r:Int))=(S2:Int)/\
  (S2:Int)%4294967296=(x:Int)/\(S2:Int)/9223372036854775808=(r':Int)/\r'<=1/\x<4294967296/\a+4294967296*r'=x+lo+r/\S1<18446744073709551616/\S2<18446744073709551616:=by
 refine⟨(((a:Int)-lo)%18446744073709551616).toNat,(((a:Int)-lo-r)%18446744073709551616).toNat,(((a:Int)-lo-r)%4294967296).toNat,(if lo+r<=a then 0 else 1),?_,?_,?_,?_,?_,?_,?_,?_,?_⟩
 ·rw[yx];omega
 ·rw[yx];omega
 ·omega
 ·split <;> omega
 ·split <;> omega
 ·omega
 ·split <;> omega
 ·omega
 ·omega
def yy (w:World) (B g N cap L q:Nat) (pre A post ys:List Nat) (cv bv kv:Value) (wr:World):Prop:=
 ∃ (k c r:Nat) (D:List Nat),k<=L/\kv=.int .i64 (k:Int)/\cv=.int .u64 (c:Int)/\bv=.int .u64 (r:Int)/\c<4294967296/\r<=1/\D.length=k/\eB D/\
   au D+q*au (ys.take k)=au (A.take k)+4294967296^k*(c+r)/\4294967296^k*c<=q*au (ys.take k)/\
   wr.ownsRow B 78 1 (.slice (some ⟨g,0,none⟩) N cap) N (ints .u32 (pre++(D++(A.drop k++post))))/\w.grownBy wr (some g)
theorem yy.step {w wr:World} {B g N cap i L q k c r y a x r' P:Nat} {pre A post ys D:List Nat} {xi ci ri:Int} (hk:k<L) (hA:A.length=L) (LV:pre.length=i) (hD:D.length=k) (xl:eB D)
  (hv:au D+q*au (ys.take k)=au (A.take k)+4294967296^k*(c+r)) (hc:4294967296^k*c<=q*au (ys.take k))
  (aY:wr.ownsRow B 78 1 (.slice (some ⟨g,0,none⟩) N cap) N (ints .u32 (pre++(D++(A.drop k++post))))) (hg:w.grownBy wr (some g))
  (hy:ys.getD k 0=y) (ha:A[k]? =some a) (hP:P=q*y+c) (hP64:P<18446744073709551616) (pP:x<4294967296) (OX:r'<=1) (he:a+4294967296*r'=x+P%4294967296+r)
  (hxi:xi=(x:Int)) (hci:ci=((P/4294967296:Nat):Int)) (TL:ri=(r':Int)):
  yy w B g N cap L q pre A post ys (.int .u64 ci) (.int .u64 ri) (.int .i64 ((k:Int)+1)) (wr.setCell ⟨g,i+k,none⟩ (.int .u32 xi)):=by
 subst hxi;subst hci;subst TL;subst hP;have h1:=Own.jy (j:=i+k) (x:=x) aY;rw[RS LV hD ae] at h1;have e1:au (ys.take (k+1))=au (ys.take k)+4294967296^k*y:=by rw[cH,hy]
 have e2:au (A.take (k+1))=au (A.take k)+4294967296^k*a:=by rw[cH,List.getD,ha];rfl
 refine⟨k+1,(q*y+c)/4294967296,r',D++[x],ae,aa,aa,aa,ae,OX,by simp[hD],xl.append (eB.cons pP eB.nil),?_,?_,h1,sN hg⟩
 ·rw[fI,hD,e1,e2,ir];exact Pb hv he
 ·rw[e1,ir,dp]
  have h3:4294967296^k*4294967296*((q*y+c)/4294967296)<=4294967296^k*(q*y+c):=by
   rw[fX];exact lZ _ (Nat.mul_div_le _ _)
  rw[dp,Hm] at h3;omega
def yz (w:World) (B g N cap L:Nat) (pre A post ys:List Nat) (cv kv:Value) (wr:World):Prop:=
 ∃ (k c:Nat) (D:List Nat),k<=L/\kv=.int .i64 (k:Int)/\cv=.int .u32 (c:Int)/\c<=1/\D.length=k/\eB D/\
   au D+4294967296^k*c=au (A.take k)+au (ys.take k)/\
   wr.ownsRow B 78 1 (.slice (some ⟨g,0,none⟩) N cap) N (ints .u32 (pre++(D++(A.drop k++post))))/\w.grownBy wr (some g)
theorem yz.step {w wr:World} {B g N cap i L k c y a:Nat} {pre A post ys D:List Nat} (hk:k<L) (hA:A.length=L) (LV:pre.length=i) (hD:D.length=k) (xl:eB D) (hc:c<=1)
  (hv:au D+4294967296^k*c=au (A.take k)+au (ys.take k))
  (aY:wr.ownsRow B 78 1 (.slice (some ⟨g,0,none⟩) N cap) N (ints .u32 (pre++(D++(A.drop k++post))))) (hg:w.grownBy wr (some g))
  (hy:ys.getD k 0=y) (ha:A[k]? =some a) (ha4:a<4294967296) (Ia:y<4294967296):
  yz w B g N cap L pre A post ys (.int .u32 (((a+y+c)/4294967296:Nat):Int)) (.int .i64 ((k:Int)+1)) (wr.setCell ⟨g,i+k,none⟩ (.int .u32 (((a+y+c)%4294967296:Nat):Int))):=by
 have h1:=Own.jy (j:=i+k) (x:=(a+y+c)%4294967296) aY;rw[RS LV hD ae] at h1;have e1:au (ys.take (k+1))=au (ys.take k)+4294967296^k*y:=by rw[cH,hy]
 have e2:au (A.take (k+1))=au (A.take k)+4294967296^k*a:=by rw[cH,List.getD,ha];rfl
 refine⟨k+1,(a+y+c)/4294967296,D++[(a+y+c)%4294967296],ae,aa,aa,ae,by simp[hD],xl.append (eB.cons (fY _ ae) eB.nil),?_,h1,sN hg⟩;rw[fI,hD,e1,e2,ir];exact Lz _ _ a y c _ _ _ hv aa
def TookAt (w w':World) (B g N cap:Nat) (pre A post ys:List Nat) (q q':Nat):Prop:=
 ∃ A':List Nat,A'.length=A.length/\eB A'/\au A' +q' *au ys=au A/\(q*au ys<=au A/\q'=q\/au A<q*au ys/\q' +1=q)/\
   w'.ownsRow B 78 1 (.slice (some ⟨g,0,none⟩) N cap) N (ints .u32 (pre++(A'++post)))/\w.grownBy w' (some g)
set_option maxRecDepth 100000 in
theorem XH (g N cap i L capw n q B:Nat) (pre A post ys:List Nat) (vb:Value) (w:World) (aY:w.ownsRow B 78 1 (.slice (some ⟨g,0,none⟩) N cap) N (ints .u32 (pre++(A++post))))
  (LV:pre.length=i) (hA:A.length=L) (hlA:eB A) (hs:Rd w 1 vb n (ints .u32 ys)) (qN:eB ys) (hne:∀ p c a,vb=.slice p n c->p=some a->a.block≠g) (hL:L=n+1) (hLc:L<=capw) (hcw:capw<=9223372036854775807)
  (hq:q<4294967296) (hqb:q*au ys<=au A+au ys):
  Calls Tryz.prog 275 #[.slice (some ⟨g,i,none⟩) L capw,vb,.int .u64 (q:Int)] w λe w'=>∃ q':Nat,e=.returned (.int .u32 (q':Int))/\TookAt w w' B g N cap pre A post ys q q':=by
 obtain⟨p,c,rfl,eS,gv,si⟩:=hs.u32;have Hs:=ag hs;have WK:=ag hlA;have HLY:=ag qN;have HNE:=ag hne;have HO:=ag aY;have HA:=ag hA;have HP:=ag LV;have HY:=ag si;have HQB:=ag hqb;have HLL:=ag hL;clear hs hlA qN hne aY hA LV si hqb hL;refine bI λR' dm=> ?_;go_enter Tryz.func275,Tryz.ntmps275
 go_wp2_with fail
 go_loopw [7,8,18] (λcv bv kv wr=>yy w B g N cap L q pre A post ys cv bv kv wr) (λ_ _ kv _=>L-(intOf kv).toNat)
 case atStart=>exact⟨0,0,0,[],eK _,aa,aa,aa,ae,ae,aa,eB.nil,by simp[fQ],cZ,by simpa using HO.out,qQ _ _⟩
 case round=>
  obtain⟨k,c,r,D,hkL,rfl,rfl,rfl,WJ,qj,hD,hlD,hv,hcc,aY,hg⟩:=hrel;have HD:=ag hD;have Ib:=ag hlD;have HV:=ag hv;have HCC:=ag hcc;have HOW:=ag aY;have HG:=ag hg;clear hD hlD hv hcc aY hg;by_cases RT:k<L
  ·obtain⟨a,ha⟩:∃ a,A[k]? =some a:=⟨_,bj (by rw[HA.out];exact RT)⟩;have ha4:=WK.out.at ha;have HAK:=ag ha
   have hlt:i+k<N:=by
    have h1:=HOW.out.1;have h2:=(cM.1 (Df (post:=post) HP.out HD.out ha)).1;simp at h1 h2;omega
   obtain⟨a',ha',hca,hfa⟩:=Own.jT HOW.out (j:=i+k) hlt;rw[Df HP.out HD.out ha] at ha';obtain rfl:=Be ha';have Ig:=mO hca;simp only at Ig;clear ha ha';by_cases yp:k<n
   ·obtain⟨b2,o2,y,rfl,bu,uf,Gx⟩:=(Hs.out.yw HG.out HNE.out).cellAt yp;have RO:Hid (ys.getD k 0=y):=by show _=_;rw[List.getD,uf];rfl
    have Ia:=HLY.out.at uf;clear uf;have m3:q*y<=4294967295*4294967295:=kD ae ae;have m0:0<=(q:Int)*(y:Int):=by rw[<-wF];omega
    have m1:(q:Int)*(y:Int)<18446744073709551616:=by rw[<-wF];omega
    obtain⟨P,hP⟩:∃ P,P=q*y+c:=⟨_,aa⟩;have hP64:P<18446744073709551616:=ae;have hPi:(q:Int)*(y:Int)+(c:Int)=(P:Int):=by rw[hP];simp
    obtain⟨lo,WE⟩:∃ lo,lo=P%4294967296:=⟨_,aa⟩;have hlo4:lo<4294967296:=ae;have hloi:(P:Int)%4294967296=(lo:Int):=ae;obtain⟨S1,S2,x,r',f1,f2,f3,f4,f5,f6,f7,f8,f9⟩:=LU ha4 hlo4 qj;have HF7:=ag f7;have HPE:=ag hP;have HLO:=ag WE;clear m3 hP WE f7;go_wp2_with fail
    go_roundw
    case rel=>exact yy.step RT HA.out HP.out HD.out Ib.out HV.out HCC.out HOW.out HG.out RO.out HAK.out HPE.out hP64 f6 f5 (by rw[<-HLO.out];exact HF7.out) aa cZ aa
    case measure=>simp[intOf];omega
   ·have RO:Hid (ys.getD k 0=0):=by show _=_;rw[List.getD,ru (by rw[HY.out];omega)];rfl
    obtain⟨S1,S2,x,r',f1,f2,f3,f4,f5,f6,f7,f8,f9⟩:=LU ha4 WJ qj;have HF7:=ag f7;clear f7;go_wp2_with fail
    go_roundw
    case rel=>exact yy.step RT HA.out HP.out HD.out Ib.out HV.out HCC.out HOW.out HG.out RO.out HAK.out (P:=c) cZ ae f6 f5 (by rw[xW WJ];exact HF7.out) aa (by first|rfl|(simp;omega)|omega) aa
    case measure=>simp[intOf];omega
  ·obtain rfl:k=L:=by omega
   have hpow:q*au ys<4294967296^k:=by
    have h1:=jZ HLY.out;rw[HY.out] at h1;have h2:q*au ys<=4294967295*au ys:=kC _ ae;have h3:4294967296^k=4294967296^n*4294967296:=by rw[HLL.out,ir]
    omega
   have hyt:au (ys.take k)=au ys:=cU (by rw[HY.out,HLL.out];omega);have KX:au (A.take k)=au A:=cU (by rw[HA.out];omega);have hv:=HV.out;have hcc:=HCC.out;rw[hyt] at hv hcc;rw[KX] at hv;have hDl:=jZ Ib.out;rw[HD.out] at hDl
   obtain rfl:c=0:=by
    rcases oH c with h|h
    ·exact h
    ·have:4294967296^k*1<=4294967296^k*c:=lZ _ h;omega
   rw[jR] at hv;have HV2:=ag hv;have HPW:=ag hpow;have Pg:=ag hDl;have hOW:=HOW.out;rw[pU (by rw[HA.out];omega),pX] at hOW;have HOW2:=ag hOW;clear hv hcc hpow hyt KX hDl hOW HOW HCC HV;rcases (show r=0\/r=1 by omega) with rfl|rfl
   ·go_wp2_with fail
    refine dm.out _ _ ⟨q,?_,D,by rw[HD.out,HA.out],Ib.out,by have:=HV2.out;omega,.inl ⟨by have:=HV2.out;omega,rfl⟩,HOW2.out,HG.out⟩;first|rfl|exact rE ae
   ·have hq1:1<=q:=by
     rcases oH q with h|h
     ·have h1:=HV2.out;have h2:=Pg.out;rw[h,DM] at h1;omega
     ·exact h
    go_wp2_with fail
    rw[show ((0:Nat):Int)=0 from aa,show ((1:Nat):Int)=1 from aa];obtain⟨wo,rfl⟩:∃ wo:World,wo=wr:=⟨_,aa⟩;go_loopw [13,62] (λcv kv wr'=>yz wo B g N cap k pre D post ys cv kv wr') (λ_ kv _=>k-(intOf kv).toNat)
    case atStart=>exact⟨0,0,[],eK _,aa,aa,ae,aa,eB.nil,by simp[fQ],by simpa using HOW2.out,qQ _ _⟩
    case round=>
     obtain⟨l,c,E,hlk,rfl,rfl,rh,hE,hlE,hvE,aY,hg⟩:=hrel;have HE:=ag hE;have HLE:=ag hlE;have HVE:=ag hvE;have HOW:=ag aY;have HG2:=ag hg;clear hE hlE hvE aY hg;by_cases hlt:l<k
     ·obtain⟨a,ha⟩:∃ a,D[l]? =some a:=⟨_,bj (by rw[HD.out];exact hlt)⟩;have ha4:=Ib.out.at ha;have HAK:=ag ha
      have hlN:i+l<N:=by
       have h1:=HOW.out.1;have h2:=(cM.1 (Df (post:=post) HP.out HE.out ha)).1;simp at h1 h2;omega
      obtain⟨a',ha',hca,hfa⟩:=Own.jT HOW.out (j:=i+l) hlN;rw[Df HP.out HE.out ha] at ha';obtain rfl:=Be ha';have Ig:=mO hca;simp only at Ig;clear ha ha';by_cases Xv:l<n
      ·obtain⟨b2,o2,y,rfl,bu,uf,Gx⟩:=((Hs.out.yw HG.out HNE.out).yw HG2.out HNE.out).cellAt Xv;have RO:Hid (ys.getD l 0=y):=by show _=_;rw[List.getD,uf];rfl
       have Ia:=HLY.out.at uf;clear uf;go_wp2_with fail
       refine (rF a y c _ ha4 Ia ae).mono ?_;rintro e w2 ⟨rfl,rfl⟩;go_wp2_with fail
       go_roundw
       case rel=>exact yz.step hlt HD.out HP.out HE.out HLE.out rh HVE.out HOW.out HG2.out RO.out HAK.out ha4 Ia
       case measure=>simp[intOf];omega
      ·have RO:Hid (ys.getD l 0=0):=by show _=_;rw[List.getD,ru (by rw[HY.out];omega)];rfl
       go_wp2_with fail
       refine (rF a 0 c _ ha4 ae ae).mono ?_;rintro e w2 ⟨rfl,rfl⟩;go_wp2_with fail
       go_roundw
       case rel=>exact yz.step hlt HD.out HP.out HE.out HLE.out rh HVE.out HOW.out HG2.out RO.out HAK.out ha4 ae
       case measure=>simp[intOf];omega
     ·obtain rfl:l=k:=by omega
      have hve:=HVE.out;rw[cU (by rw[HD.out];omega),cU (by rw[HY.out,HLL.out];omega)] at hve;have hEl:=jZ HLE.out;rw[HE.out] at hEl;have hOW:=HOW.out;rw[pU (by rw[HD.out];omega),pX] at hOW;have hv2:=HV2.out;have hqb:=HQB.out;obtain⟨m,rfl⟩:∃ m,q=m+1:=⟨q-1,ae⟩;rw[ff,tY] at hv2 hqb
      have hfin:au E+m*au ys=au A:=by
       rcases (show c=0\/c=1 by omega) with rfl|rfl
       ·omega
       ·omega
      have hlt2:au A<(m+1)*au ys:=by
       rw[ff,tY];have:=Pg.out;omega
      have HFIN:=ag hfin;have HLT2:=ag hlt2;have HOW3:=ag hOW;clear hve hEl hOW hv2 hqb hfin hlt2;have hm:((m+1:Nat):Int)-1=(m:Int):=ae;go_wp2_with fail
      refine dm.out _ _ ⟨m,?_,E,by rw[HE.out,HA.out],HLE.out,HFIN.out,.inr ⟨HLT2.out,rfl⟩,HOW3.out,GB HG.out HG2.out⟩;first|rfl|exact rE ae
end
section
theorem getD_some {xs:List Nat} {k x:Nat} (h:xs[k]? =some x):xs.getD k 0=x:=by rw[List.getD,h];rfl
theorem TM {A:List Nat} {m a0 a1 a2:Nat} (hl:A.length=m+3) (h0:A[m]? =some a0) (h1:A[m+1]? =some a1) (h2:A[m+2]? =some a2):
  au A=((a2*4294967296+a1)*4294967296+a0)*4294967296^m+au (A.take m):=by
 have e0:=cH A m;have e1:=cH A (m+1);have e2:=cH A (m+2);rw[getD_some h0] at e0;rw[getD_some h1,e0,ir] at e1;rw[getD_some h2,e1,ir,ir,cU ae] at e2;rw[e2];generalize 4294967296^m=p;rw[ff,ff,ff];rw[show a2*4294967296*4294967296*p=p*4294967296*4294967296*a2 by ac_rfl];rw[show a1*4294967296*p=p*4294967296*a1 by rw[iu p,iu _ a1,fX]];rw[iu a0 p];omega
theorem top_two {Y:List Nat} {m v1 v2:Nat} (hl:Y.length=m+2) (h2:Y[m]? =some v2) (h1:Y[m+1]? =some v1):au Y=(v1*4294967296+v2)*4294967296^m+au (Y.take m):=by
 have e0:=cH Y m;have e1:=cH Y (m+1);rw[getD_some h2] at e0;rw[getD_some h1,e0,ir,cU ae] at e1;rw[e1];generalize 4294967296^m=p;rw[ff];rw[show v1*4294967296*p=p*4294967296*v1 by rw[iu p,iu _ v1,fX]];rw[iu v2 p];omega
theorem uP {xs:List Nat} (h:eB xs) {m:Nat} (hm:m<=xs.length):au (xs.take m)<4294967296^m:=by
 have:=jZ (h.take m)
 rwa [cw,gW hm] at this
structure Window (us ys:List Nat) (i m b hi mid low v1 v2:Nat) (A post:List Nat):Prop where
 split:us=us.take i++(A++post)
 pre:(us.take i).length=i
 len:A.length=m+3
 lim:eB A
 zero:au post=0
 lt:au A<4294967296*b
 hi_le:hi<=v1
 near:au A/b<=kh ((hi*4294967296+mid)*4294967296+low) (v1*4294967296+v2)/\kh ((hi*4294967296+mid)*4294967296+low) (v1*4294967296+v2)<=au A/b+1
theorem TN {us ys:List Nat} {i m b hi mid low v1 v2 N:Nat} (hN:us.length=N) (hlt:i+(m+2)<N) (hu:eB us) (hy:eB ys) (si:ys.length=m+2) (hb:au ys=b) (hd:au (us.drop (i+1))<b)
  (h1:us[i+(m+2)]? =some hi) (h2:us[i+(m+1)]? =some mid) (h3:us[i+m]? =some low) (h4:ys[m+1]? =some v1) (h5:ys[m]? =some v2) (Ox:0<v1):
  Window us ys i m b hi mid low v1 v2 ((us.drop i).take (m+3)) (us.drop (i+(m+3))):=by
 have hA:((us.drop i).take (m+3)).length=m+3:=by rw[cw,Bd];omega
 have hlA:eB ((us.drop i).take (m+3)):=(hu.drop i).take _
 have hsp:us.drop i=(us.drop i).take (m+3)++us.drop (i+(m+3)):=by
  rw[<-List.drop_drop];exact (wB _ _).symm
 have g0:((us.drop i).take (m+3))[m]? =some low:=by rw[AY,if_pos ae,uD];exact h3
 have g1:((us.drop i).take (m+3))[m+1]? =some mid:=by rw[AY,if_pos ae,uD];exact h2
 have g2:((us.drop i).take (m+3))[m+2]? =some hi:=by rw[AY,if_pos ae,uD];exact h1
 have hyp:b<4294967296^(m+2):=by rw[<-hb,<-si];exact jZ hy
 have hz:au (us.drop (i+(m+3)))=0:=by
  have e:=Eh (xs:=us.drop (i+1)) (m+2) (by rw[Bd];omega);rw[List.drop_drop,show i+1+(m+2)=i+(m+3) by omega] at e;rcases oH (au (us.drop (i+(m+3)))) with h|h
  ·exact h
  ·have:4294967296^(m+2)*1<=4294967296^(m+2)*au (us.drop (i+(m+3))):=lZ _ h;omega
 have hAv:au (us.drop i)=au ((us.drop i).take (m+3)):=by
  conv=>lhs;rw[hsp]
  rw[gL,hz,pY,nP]
 obtain⟨u0,hu0⟩:∃ u0,us[i]? =some u0:=⟨_,bj ae⟩;have hu04:=hu.at hu0
 have XI:au ((us.drop i).take (m+3))<4294967296*b:=by
  rw[<-hAv,xc hu0];omega
 have eA:=TM hA g0 g1 g2;have eY:=top_two si h5 h4;rw[hb] at eY;have lA:=uP hlA (m:=m) ae;have lY:=uP hy (m:=m) ae;have hp:0<4294967296^m:=uH ae;refine⟨?_,by rw[cw];omega,hA,hlA,hz,XI,?_,Pa hp eA lA eY lY ae XI⟩
 ·rw[<-hsp];exact (wB _ _).symm
 ·-- hi<=v1
  rcases tU v1 hi with h|h
  ·have k1:au (us.drop (i+1))=au ((us.drop (i+1)).take (m+1))+4294967296^(m+1)*au ((us.drop (i+1)).drop (m+1)):=Eh _ (by rw[Bd];omega);rw[List.drop_drop,show i+1+(m+1)=i+(m+2) by omega,xc h1] at k1;have hv2:=hy.at h5
   have k2:4294967296^(m+1)*hi<=au (us.drop (i+1)):=by
    rw[k1,dp];omega
   have k3:b<4294967296^(m+1)*(v1+1):=by
    rw[eY,ir];have k4:(v1*4294967296+v2+1)*4294967296^m<=((v1+1)*4294967296)*4294967296^m:=kC _ ae;rw[show 4294967296^m*4294967296*(v1+1)=((v1+1)*4294967296)*4294967296^m by rw[iu,iu (4294967296^m),fX]];rw[ff,tY] at k4;omega
   have k5:4294967296^(m+1)*(v1+1)<=4294967296^(m+1)*hi:=lZ _ h;omega
  ·exact h
theorem Ph {u b q q' r:Nat} (hb:0<b) (h1:u/b<=q) (h2:q<=u/b+1) (hv:r+q' *b=u) (h:q*b<=u/\q'=q\/u<q*b/\q' +1=q):q'=u/b/\r<b:=by
 have hq:q'=u/b:=by
  rcases h with ⟨h3,rfl⟩|⟨h3,h4⟩
  ·have:=(Hi hb).2 h3;omega
  ·have:¬ q<=u/b:=λhc=>by have:=(Hi hb).1 hc;omega
   omega
 refine⟨hq,?_⟩;have e:=Ho u b;have m:=fY u hb;rw[iu,<-hq] at e;omega
theorem LW {u b q:Nat} (h:q<=u/b+1):q*b<=u+b:=by
 have h1:q*b<=(u/b+1)*b:=kC _ h;have h2:=Lj u b;rw[ff,tY] at h1;omega
theorem Pj {us pre A A' post qs:List Nat} {i b q' a:Nat} (hsp:us=pre++(A++post)) (LV:pre.length=i) (hz:au post=0) (hv:au A' +q' *b=au A) (hlt:au A' <b)
  (ha:au us+4294967296^(i+1)*(b*au qs)=a):
  au ((pre++(A'++post)).drop i)<b/\au (pre++(A'++post))+4294967296^i*(b*au (q'::qs))=a:=by
 subst hsp;constructor
 ·rw[Xb ae,pU ae,pX,gL,hz,pY,nP];exact hlt
 ·rw[gL,gL,hz,pY,nP] at ha;rw[gL,gL,hz,pY,nP,ia,<-ha,<-hv,LV,dp b,dp,dp,ir];rw[iu q' b,show 4294967296^i*(b*(4294967296*au qs))=4294967296^i*4294967296*(b*au qs) by rw[fX,Hm b]];omega
theorem JO {qs:List Nat} {k x:Nat}:(List.replicate (k+1) 0++qs).set k x=List.replicate k 0++x::qs:=by
 rw[RD,uF,xV _ _ cZ,DJ,oJ];rfl
theorem LX {b t u:Nat} (hb:b≠0) (ht:(limbs b)[(limbs b).length-1]? =some t) (hu:u<32) (htu:t*2^u<4294967296):(limbs (b*2^u)).length=(limbs b).length:=by
 have hn:=fp hb;have hp:0<2^u:=uH ae;refine Nat.le_antisymm (nH _ _ ?_) (eN (Hg _ hp));obtain⟨n,hl⟩:∃ n,(limbs b).length=n+1:=⟨(limbs b).length-1,ae⟩;rw[hl] at ht ⊢;simp only[Nat.add_sub_cancel] at ht;have e:=cH (limbs b) n;rw[getD_some ht,cU ae,ax] at e;have l:=uP (aF b) (m:=n) ae;have h1:b<4294967296^n*(t+1):=by rw[dp];omega
 have h2:(t+1)*2^u<=4294967296:=by
  have h3:4294967296=2^u*2^(32-u):=by rw[<-tX,show u+(32-u)=32 by omega]
  rw[h3,iu t] at htu;have h4:=Nat.lt_of_mul_lt_mul_left htu;rw[iu]
  calc 2^u*(t+1)<=2^u*2^(32-u):=lZ _ h4
   _=4294967296:=h3.symm
 have h5:b*2^u<4294967296^n*(t+1)*2^u:=Nat.mul_lt_mul_of_pos_right h1 hp;have h6:4294967296^n*(t+1)*2^u<=4294967296^n*4294967296:=by rw[fX];exact lZ _ h2
 rw[ir];omega
theorem TP {a b u:Nat}:(a*2^u)/(b*2^u)=a/b:=Nat.mul_div_mul_right a b (uH ae)
theorem TR {a b u:Nat}:(a*2^u)%(b*2^u)=(a%b)*2^u:=Nat.mul_mod_mul_right (2^u) a b
end
section
open Go.RowKit
def Divided (w w':World) (a b:Nat) (e:Ending):Prop:=
 (b=0/\e=.returned (.tuple #[.slice none 0 0,.slice none 0 0,.int .i64 20]))\/
 (b≠0/\∃ vq vr,e=.returned (.tuple #[vq,vr,.int .i64 0])/\w'.ownsRow w.heap.size 78 1 vq (limbs (a/b)).length (ints .u32 (limbs (a/b)))/\w'.ownsRow w.heap.size 78 1 vr (limbs (a%b)).length (ints .u32 (limbs (a%b))))
def XJ (w:World) (B N cap n m b a ga:Nat) (vy vq:Value) (iv:Value) (wr:World):Prop:=
 ∃ (k:Nat) (us qs:List Nat),k<=m/\iv=.int .i64 ((k:Int)-1)/\us.length=N/\eB us/\au (us.drop k)<b/\qs.length=m-k/\eB qs/\au us+4294967296^k*(b*au qs)=a/\
   wr.ownsRow B 78 1 (.slice (some ⟨ga,0,none⟩) N cap) N (ints .u32 us)/\wr.ownsRow B 78 1 vq m (ints .u32 (List.replicate k 0++qs))/\Rd wr 1 vy n (ints .u32 (limbs b))/\Below B w wr
theorem El {w:World} {g j:Nat} {u:Value}:w.grownBy (w.setCell ⟨g,j,none⟩ u) (some g):=sN (qQ _ _)
theorem Pk {P:Program} {f:FuncId} {args:Array Value} {W w:World} {v:Value} (h:Calls P f args W λe w'=>e=.returned v/\∃ k,w'=W.drewN k) (hW:∃ n,W=w.drewN n):
  Calls P f args W λe w''=>e=.returned v/\∃ m,w''=w.drewN m:=
 h.mono λ_ _ ⟨he,k,hk⟩=>⟨he,by obtain⟨n,hn⟩:=hW;exact⟨n+k,by rw[hk,hn,World.drewN_drewN]⟩⟩
theorem Pl {w w':World} (h:w.grownBy w' none):Below w.heap.size w w':=⟨h.os,h.tape,h.output,h.size,λk hk=>h.block k hk cZ⟩
theorem TS {a b N mq lb:Nat} (hN:N=(limbs a).length+1) (hm:N=mq+lb) (Oy:(limbs b).length=lb) (hb:b≠0):au ((limbs a++[0]).drop mq)<b/\au (limbs a++[0])=a:=by
 have hp:=fp hb;refine⟨?_,by rw[fI,pY,ax];rfl⟩;rw[Xb ae,fI,pY,nP];have h1:=jZ ((aF a).drop mq);rw[Bd,show (limbs a).length-mq=(limbs b).length-1 by omega] at h1;exact tS h1 (JC hb)
set_option maxRecDepth 100000 in
theorem Bw (va vb:Value) (n m:Nat) (xs ys:List Nat) (w:World) (hr:Rd w 1 va n (ints .u32 xs)) (hs:Rd w 1 vb m (ints .u32 ys)) (hx:eB xs) (hy:eB ys) (hn:n<=536870912) (hm:m<=536870912):
  Calls Tryz.prog 206 #[va,vb] w λe w'=>Divided w w' (au xs) (au ys) e/\Below w.heap.size w w':=by
 obtain⟨p,c,rfl,eS,gv,gU⟩:=hr.u32;obtain⟨q,d,rfl,Tz,Ov,si⟩:=hs.u32;have Hs:=ag hs;obtain⟨B,hB⟩:∃ B,B=w.heap.size:=⟨_,aa⟩;have HB:=ag hB;obtain⟨a,ha⟩:∃ a,a=au xs:=⟨_,aa⟩;obtain⟨b,hb⟩:∃ b,b=au ys:=⟨_,aa⟩;have Ij:(limbs a).length<=n:=by rw[ha,<-gU];exact lg hx
 have hbl:(limbs b).length<=m:=by rw[hb,<-si];exact lg hy
 refine bI λR' dm=> ?_;go_enter Tryz.func206,Tryz.ntmps206
 go_wp2_with fail
 refine (na _ n xs _ hr hx ae).mono ?_;rintro e w1 ⟨v1,rfl,jd,aU⟩;rw[<-ha] at jd;go_wp2_with fail
 refine (na _ m ys _ (hs.below aU) hy ae).mono ?_;rintro e w2 ⟨v2,rfl,oN,bu⟩;rw[<-hb] at oN;rw[<-ha,<-hb,<-hB] at dm;have xR:Hid (w2.ownsRow B 78 1 v1 (limbs a).length (ints .u32 (limbs a))):=by show World.ownsRow ..;rw[hB];exact Own.below jd bu
 have ug:Hid (w2.ownsRow B 78 1 v2 (limbs b).length (ints .u32 (limbs b))):=Own.mono oN (by rw[hB];exact aU.size);have Bx:Hid (Below B w w2):=by show Below ..;rw[hB];exact Below.aN aU bu
 have hBs:B<=w2.heap.size:=by rw[hB];exact Bx.out.size
 obtain⟨p1,c1,rfl,_,hc1m,_⟩:=Own.form xR.out;obtain⟨p2,c2,rfl,_,hc2m,_⟩:=Own.form ug.out;clear hr hs hx hy jd oN aU bu gU si ha hb hB Hs;unfold maxLen at hc1m hc2m;generalize WL:(limbs a).length=la at*;generalize Oy:(limbs b).length=lb at*;have WK:=ag WL;have WM:=ag Oy;by_cases sj:b=0
 ·obtain rfl:lb=0:=by rw[sj,de] at Oy;exact Oy.symm
  clear WL Oy;go_wp2_with fail
  go_ret3
  exact dm.out _ _ ⟨.inl ⟨sj,aa⟩,Bx.out⟩
 ·have hlb0:lb≠0:=λh=>sj (uL (by rw[WM.out];exact h));have hz:((lb:Int) == 0)=false:=by rw[eQ];omega
  have HNZ:=ag sj;clear sj WL Oy;go_wp2_with fail
  refine (JF _ _ la lb (limbs a) (limbs b) _ (Rd.own xR.out) (Rd.own ug.out) (aF a) (aF b)).mono ?_;rintro e w3 ⟨rfl,k3,rfl⟩;rw[ax,ax];by_cases CX:a<b
  ·have hc:jx a b<0:=mZ.2 CX;generalize jx a b=cv at hc ⊢;go_wp2_with fail
   go_ret3
   refine dm.out _ _ ⟨.inr ⟨HNZ.out,_,_,aa,?_,?_⟩,Below.drewN Bx.out _⟩
   ·rw[Bc CX,de];exact oI _ _ _ _
   ·rw[xW CX,WK.out];exact Own.mono (Own.drewN xR.out _) (by have:=HB.out;omega)
  ·have hc:0<=jx a b:=by have:=mt (@mZ a b).1 CX;omega
   generalize jx a b=cv at hc ⊢;have HAB:=ag CX;have XB:=ag (Own.drewN xR.out k3);have TT:=ag (Own.drewN ug.out k3);have WI:=ag (Below.drewN Bx.out k3);have XK:B<=(w2.drewN k3).heap.size:=hBs;clear xR ug Bx hBs CX;generalize w2.drewN k3=w3 at*;by_cases hlb1:lb=1
   ·have HL1:=ag hlb1;subst hlb1;obtain⟨gb,ob,t,rfl,_,htk,hct⟩:=(Rd.own TT.out).cellAt (k:=0) ae;have ht4:=(aF b).at htk
    have htb:t=b:=by
     have h1:=cH (limbs b) 0;rw[getD_some htk,cU (by rw[WM.out];omega),ax] at h1;simp[fQ] at h1;omega
    have HTB:=ag htb;rw[nP] at hct;have Ig:=mO hct;simp only at Ig;clear htk htb hz hlb0;go_wp2_with fail
    refine (yr _ la t (limbs a) _ (Rd.own XB.out) (aF a) ae ht4).mono ?_;rintro e w4 ⟨⟨h,rfl⟩|⟨h,v4,rfl,yH⟩,gj⟩
    ·exact absurd (by rw[<-HTB.out];exact h) HNZ.out
    rw[ax] at yH ⊢;have HO5:=ag (Own.mono yH XK);have XL:=ag (WI.out.trans (gj.mono XK));have TU:B<=w4.heap.size:=bG XK gj.size;have hrt:a%t<4294967296:=Nat.lt_trans (fY _ ae) ht4;obtain⟨r,hr⟩:∃ r,r=a%t:=⟨_,aa⟩;rw[<-hr] at hrt ⊢;have HR:=ag hr;clear yH gj hct Ig h hr;go_wp2_with fail
    refine (na _ 1 [r] _ (Rd.lit1 aa) (eB.cons hrt eB.nil) ae).mono ?_;rintro e w5 ⟨v5,rfl,Em,Oz⟩;have je:Below w4.heap.size w4 w5:=((gY w4.heap.size w4).alloc (bl _) (.cells #[.int .u32 (r:Int)] 78)).trans (Oz.mono cZ);rw[show au [r]=r by simp[ia,fQ]] at Em;go_wp2_with fail
    go_ret3
    refine dm.out _ _ ⟨.inr ⟨HNZ.out,_,_,aa,?_,?_⟩,XL.out.trans (je.mono TU)⟩
    ·rw[<-HTB.out];exact Own.mono (Own.below HO5.out je) (by have:=HB.out;omega)
    ·rw[<-HTB.out,<-HR.out];exact Own.mono Em (by have:=HB.out;simp;omega)
   ·obtain⟨mm,Ik⟩:∃ mm,lb=mm+2:=⟨lb-2,ae⟩;have HMM:=ag Ik;have sH:((lb:Int) == 1)=false:=by rw[eQ];omega
    obtain⟨l1,GA⟩:∃ l1,lb=l1+1:=⟨lb-1,ae⟩;have HL1:=ag GA;have hwl1:IntKind.i64.wrap ((lb:Int)-1)=(l1:Int):=by rw[cO _ ae];omega
    obtain⟨gb,ob,t,rfl,_,htk,hct⟩:=(Rd.own TT.out).cellAt (k:=l1) ae;have ht4:=(aF b).at htk;have Ig:=mO hct;simp only at Ig;have htk2:(limbs b)[(limbs b).length-1]? =some t:=by rw[WM.out,HL1.out];exact htk
    have ht0:=(LB htk2).2;have HTK:=ag htk2;have hl1lt:(l1:Int)<(lb:Int):=ae;clear htk htk2 hlb1 Ik GA;go_wp2_with fail
    refine (LL t _ ht4 ht0).mono ?_;rintro e w4 ⟨⟨u,rfl,hu32,htu⟩,rfl⟩;go_wp2_with fail
    refine (Ab _ lb b (u:Int) (limbs b) _ (Rd.own TT.out) (aF b) (ax b) ae ae ae).mono ?_;rintro e w4 ⟨⟨_,h,_⟩|⟨_,v4,rfl,yH⟩,gj⟩
    ·omega
    have es:jI b (u:Int)=b*2^u:=by unfold jI;rw[if_pos ae,dV]
    rw[es] at yH;have RU:(limbs (b*2^u)).length=lb:=by rw[LX HNZ.out HTK.out hu32 htu];exact WM.out
    have hnz:b*2^u≠0:=Nat.mul_ne_zero HNZ.out (Nat.pos_iff_ne_zero.1 (uH ae));have hle4:b*2^u<=a*2^u:=kC _ (by have:=HAB.out;omega);have HDV:=ag (TP (a:=a) (b:=b) (u:=u));have HMD:=ag (TR (a:=a) (b:=b) (u:=u));have hla5:=Bv a u hu32;rw[WK.out] at hla5
    have HES:Hid (jI ((a%b)*2^u) (-(u:Int))=a%b):=by
     show _=_;unfold jI;by_cases h0:u=0
     ·subst h0;simp
     ·rw[if_neg ae,Int.neg_neg,dV,Nat.mul_div_cancel _ (uH ae)]
    have HES2:Hid (jI a (u:Int)=a*2^u):=by show _=_;unfold jI;rw[if_pos ae,dV]
    generalize hb':b*2^u=b' at*;generalize ha':a*2^u=a' at*;rw[RU] at yH;have hlb5:lb<=(limbs a').length:=by rw[<-RU];exact eN hle4
    obtain⟨gy,cy,rfl,hgy3,hgy4⟩:=Own.Da yH ae;have HY4:=ag yH;have XL:=ag (WI.out.trans (gj.mono XK));have TU:B<=w4.heap.size:=bG XK gj.size;have HA4:=ag (Own.below XB.out gj);have LY:=ag RU;clear yH gj htu ht0 ht4 hct Ig RU hle4 es HTK XB TT;go_wp2_with fail
    refine (Ab _ la a (u:Int) (limbs a) _ (Rd.own HA4.out) (aF a) (ax a) ae ae ae).mono ?_;rintro e w5 ⟨⟨_,h,_⟩|⟨_,v5,rfl,Em⟩,je⟩
    ·omega
    rw[HES2.out] at Em;generalize hl5:(limbs a').length=la' at*;have HL5:=ag hl5;have HA5:=ag Em;have HY5:=ag (Own.below HY4.out je);have HB5:=ag (XL.out.trans (je.mono TU));have hs5:=je.size;have XM:=ag je;obtain⟨p5,c5,rfl,_,_,_⟩:=Own.form Em;obtain⟨N,hN⟩:∃ N,N=la' +1:=⟨_,aa⟩;have HNN:=ag hN;obtain⟨mq,hmq⟩:∃ mq,N=mq+lb:=⟨N-lb,ae⟩;have HMQ:=ag hmq;have hmq0:0<mq:=ae;have hwm:IntKind.i64.wrap ((N:Int)-(lb:Int))=(mq:Int):=by rw[cO _ ae];omega
    obtain⟨i0,hi,nW,sH,uN⟩:=info_parts mP;have hN30:N<=1073741824:=ae;have hla30:la'<=1073741824:=ae;have hmq30:mq<=1073741824:=ae;clear Em je hl5 hmq HA4 hN
    go_wp2_with (first
     | (at_builtin;refine fJ aa _ _ 23 aa w4.heap.size 78 i0 (.int .u32 0) 4 pW hi nW sH uN aa HA5.out aa aa (d:=0) aa ae ae hs5 ?_;intro v6 w6 RV Pm;rw[<-HNN.out] at RV;obtain⟨ga,ca,rfl,hga5,hga6⟩:=Own.Da RV (by have:=HNN.out;omega))
     | (at_make;refine wpList_make_full _ aa _ _ 23 aa B 78 i0 (.int .u32 0) 1 pW hi nW sH .i64 .i64 _ _ mq aa aa (by have:=HMQ.out;omega) (by have:=HMQ.out;omega) (by rw[uN];have:=HMQ.out;omega) (by unfold maxLen;have:=HMQ.out;omega) (by have:=(Pm w4 XM.out).size;omega) ?_;intro w7 hown7 hgr7))
    obtain⟨gq,hgq⟩:∃ gq,gq=w6.heap.size:=⟨_,aa⟩;have XN:=Pm w4 XM.out;have hb67:=Pl hgr7;have RW:=Own.made hown7;rw[pX] at RW;rw[<-hgq] at RW ⊢;have hne1:ga≠gq:=ae;have hne2:gy≠ga:=ae;have hne3:gy≠gq:=by have:=XN.size;omega
    have HA7:Hid (w7.ownsRow B 78 1 (.slice (some ⟨ga,0,none⟩) N ca) N (ints .u32 (limbs a'++[0]))):=Own.mono (Own.below RV hb67) TU;have HQ7:=ag RW;have HY7:Hid (Rd w7 1 (.slice (some ⟨gy,0,none⟩) lb cy) lb (ints .u32 (limbs b'))):=(Rd.own (Own.below HY4.out XN)).below hb67;have HB7:Hid (Below B w w7):=(XL.out.trans (XN.mono TU)).trans (hb67.mono (bG TU XN.size));have HST:=ag (TS (N:=N) (mq:=mq) (lb:=lb) (a:=a') (b:=b') (by rw[HL5.out];exact HNN.out) HMQ.out LY.out hnz);clear RV hown7 hgr7 Pm XN hb67 RW hgq HA5 HY5 HY4 HB5 XL XM hi nW sH uN;go_loopw [12] (λiv wr=>XJ w B N ca lb mq b' a' ga (.slice (some ⟨gy,0,none⟩) lb cy) (.slice (some ⟨gq,0,none⟩) mq mq) iv wr) (λiv _=>(intOf iv+1).toNat)
    case atStart=>exact⟨mq,_,[],bl _,aa,by rw[fH,HL5.out,HNN.out];rfl,(aF a').append (eB.cons ae eB.nil),HST.out.1,cZ,eB.nil,by rw[HST.out.2];simp[fQ],HA7.out,by simpa using HQ7.out,HY7.out,HB7.out⟩
    case round=>
     obtain⟨k,us,qs,OW,rfl,hul,hulim,LG,hql,hqlim,hval,hoa,LZ,hry,pQ⟩:=hrel;have HUL:=ag hul;have En:=ag hulim;have HDROP:=ag LG;have HQL:=ag hql;have HQLIM:=ag hqlim;have HVAL:=ag hval;have HOA:=ag hoa;have HOQ:=ag LZ;have HRY:=ag hry;have kc:=ag pQ;clear hul hulim LG hql hqlim hval hoa LZ hry pQ;by_cases KW:k=0
     ·subst KW;have hv:=HVAL.out;have hd:=HDROP.out;rw[List.drop_zero] at hd;rw[Nat.pow_zero,tY] at hv
      have hq1:au qs=a/b:=by
       rw[<-HDV.out,<-hv,Nat.add_mul_div_left _ _ ae,Bc hd,jR]
      have qj:au us=(a%b)*2^u:=by
       rw[<-HMD.out,<-hv,Nat.add_mul_mod_self_left,xW hd]
      have HQ1:=ag hq1;have HR1:=ag qj;have hBr:B<=w.heap.size:=by have:=HB.out;omega
      have hBw:=kc.out.size;clear hv hd hq1 qj;go_wp2_with fail
      refine (Ab _ N ((a%b)*2^u) (-(u:Int)) us _ (Rd.own HOA.out) En.out HR1.out ae ae ae).mono ?_;rintro e w8 ⟨⟨_,h,_⟩|⟨_,v8,rfl,Il⟩,Bz⟩
      ·omega
      rw[HES.out] at Il;have HO8:=ag (Own.mono Il (bG hBr hBw));have HB8:=ag (kc.out.trans (Bz.mono (bG hBr hBw)));have hq8:=Own.below HOQ.out Bz;rw[List.replicate_zero,pX] at hq8;have HQ8:=ag hq8;have hs8:=Bz.size;clear Il Bz hq8;go_wp2_with fail
      refine (na _ mq qs _ (Rd.own HQ8.out) HQLIM.out ae).mono ?_;rintro e w9 ⟨v9,rfl,hown9,Dg⟩;rw[HQ1.out] at hown9;go_wp2_with fail
      go_ret3
      refine dm.out _ _ ⟨.inr ⟨HNZ.out,_,_,aa,?_,?_⟩,HB8.out.trans (Dg.mono ae)⟩
      ·exact Own.mono hown9 ae
      ·exact Own.mono (Own.below HO8.out Dg) (by have:=HB.out;omega)
     ·obtain⟨i,hi⟩:∃ i,k=i+1:=⟨k-1,ae⟩;subst hi;have hjj:((i+1:Nat):Int)-1=(i:Int):=ae;rw[hjj];have hmq:=HMQ.out;have Ik:=HMM.out;have GA:=HL1.out;obtain⟨hi,h1⟩:∃ hi,us[i+(mm+2)]? =some hi:=⟨_,bj (by rw[HUL.out];omega)⟩;obtain⟨mid,h2⟩:∃ mid,us[i+(mm+1)]? =some mid:=⟨_,bj (by rw[HUL.out];omega)⟩;obtain⟨low,h3⟩:∃ low,us[i+mm]? =some low:=⟨_,bj (by rw[HUL.out];omega)⟩;obtain⟨v1,h4⟩:∃ v1,(limbs b')[mm+1]? =some v1:=⟨_,bj (by rw[LY.out];omega)⟩;obtain⟨v2,h5⟩:∃ v2,(limbs b')[mm]? =some v2:=⟨_,bj (by rw[LY.out];omega)⟩;have Ox:0<v1:=Nat.pos_iff_ne_zero.2 (LB (n:=b') (t:=v1) (by rw[LY.out,show lb-1=mm+1 by omega];exact h4)).2;have hwin:=TN (m:=mm) HUL.out ae En.out (aF b') (by rw[LY.out];exact Ik) (ax b') HDROP.out h1 h2 h3 h4 h5 Ox;have JP:=ag hwin;have hhi:=hwin.hi_le;have z1:=En.out.at h1;have z2:=En.out.at h2;have z3:=En.out.at h3;have z4:=(aF b').at h4;have z5:=(aF b').at h5;obtain⟨x1,e1,c1',f1⟩:=Own.jT HOA.out (j:=i+(mm+2)) ae;obtain⟨x2,e2,c2',f2⟩:=Own.jT HOA.out (j:=i+(mm+1)) ae;obtain⟨x3,e3,c3',f3⟩:=Own.jT HOA.out (j:=i+mm) ae;rw[h1] at e1;rw[h2] at e2;rw[h3] at e3;obtain rfl:=Be e1;obtain rfl:=Be e2;obtain rfl:=Be e3;obtain⟨g4,o4,x4,hp4,GC,e4,c4'⟩:=HRY.out.cellAt (k:=mm+1) ae;obtain⟨g5,o5,x5,hp5,hg5,e5,c5'⟩:=HRY.out.cellAt (k:=mm) ae;simp only[Option.some.injEq,Addr.mk.injEq,and_true] at hp4 hp5;obtain⟨rfl,rfl⟩:=hp4;obtain⟨rfl,hz5⟩:=hp5;subst hz5;rw[h4] at e4;rw[h5] at e5;obtain rfl:=Be e4;obtain rfl:=Be e5;rw[jR] at c4' c5';obtain⟨J0,hJ0⟩:∃ J0,J0=i+(mm+2):=⟨_,aa⟩;obtain⟨J1,hJ1⟩:∃ J1,J1=i+(mm+1):=⟨_,aa⟩;obtain⟨J2,hJ2⟩:∃ J2,J2=i+mm:=⟨_,aa⟩;rw[<-hJ0] at c1' f1;rw[<-hJ1] at c2' f2;rw[<-hJ2] at c3' f3;rw[show mm+1=l1 by omega] at c4';obtain⟨J3,hJ3⟩:∃ J3,J3=J0+1:=⟨_,aa⟩;have hw0:IntKind.i64.wrap ((i:Int)+(lb:Int))=(J0:Int):=by rw[cO _ ae];omega
      have De:IntKind.i64.wrap ((J0:Int)-1)=(J1:Int):=by rw[cO _ ae];omega
      have hw2:IntKind.i64.wrap ((J0:Int)-2)=(J2:Int):=by rw[cO _ ae];omega
      have hw4:IntKind.i64.wrap ((lb:Int)-2)=(mm:Int):=by rw[cO _ ae];omega
      have hw5:IntKind.i64.wrap ((J0:Int)+1)=(J3:Int):=by rw[cO _ ae];omega
      have b0:(J0:Int)<(N:Int):=ae;have b1:(J1:Int)<(N:Int):=ae;have b2:(J2:Int)<(N:Int):=ae;have b3:(l1:Int)<(lb:Int):=ae;have b4:(mm:Int)<(lb:Int):=ae;have t1:=mO c1';have t4:=mO c4';simp only at t1 t4;have HJ0:=ag hJ0;have HJ3:=ag hJ3;have Pc:i<mq:=ae
      have HCAP:Hid (N<=ca/\ca<=9223372036854775807):=by
       obtain⟨_,_,hv,hcap,hcapm,_⟩:=Own.form HOA.out;simp only[Value.slice.injEq,true_and] at hv;obtain⟨_,rfl⟩:=hv;unfold maxLen at hcapm;exact⟨hcap,ae⟩
      clear e1 e2 e3 e4 e5 h1 h2 h3 h4 h5 hwin hJ0 hJ1 hJ2 hJ3 hmq Ik GA GC hg5;go_wp2_with fail
      go_quiet ((go_at_call 274;exact Pk (TK hi mid low v1 v2 _ hhi z2 z3 Ox z4 z5) ⟨_,aa⟩))
      have hcap:=HCAP.out;have b5:(J3:Int)<=(ca:Int):=by have:=HJ3.out;omega
      have b6:(i:Int)<=(J3:Int):=by have:=HJ3.out;have:=HJ0.out;omega
      have b7:(i:Int)<(ca:Int):=by have:=HJ3.out;have:=HJ0.out;omega
      have b8:¬ ca-i=0:=ae;have b9:ca≠i:=ae;clear c1' c2' c3' c4' c5' f1 f2 f3 De hw2 hw4 b1 b2 b3 b4;go_wp2_with fail
      obtain⟨G,hG⟩:∃ G,G=kh ((hi*4294967296+mid)*4294967296+low) (v1*4294967296+v2):=⟨_,aa⟩;have Ma:=JP.out.near;rw[<-hG] at Ma ⊢;have hG4:G<=4294967295:=by rw[hG];exact Nat.min_le_left _ _
      have hoa:=Own.drewN HOA.out nq;rw[JP.out.split] at hoa;have hJ:J3-i=mm+3:=by have:=HJ3.out;have:=HJ0.out;omega
      refine (XH ga N ca i (J3-i) (ca-i) lb G B (us.take i) _ _ (limbs b') _ _ hoa JP.out.pre (by rw[JP.out.len,hJ]) JP.out.lim (Rd.drewN HRY.out nq) (aF b') (λp c a h1 h2=>by cases h1;cases h2;exact hne2) (by rw[hJ,HMM.out]) (by have:=HJ3.out;omega) ae ae (by rw[ax];exact LW Ma.2)).mono ?_;rintro e w8 ⟨q',rfl,A',hA'l,XO,hA'v,hq',Il,hg8⟩;rw[ax] at hA'v hq';have JD:0<b':=ae;obtain⟨hqd,XI⟩:=Ph JD Ma.1 Ma.2 hA'v hq';have hq4:q' <4294967296:=by rcases hq' with ⟨_,h⟩|⟨_,h⟩ <;> omega
      have hst:=Pj JP.out.split JP.out.pre JP.out.zero hA'v XI HVAL.out;have hq8:=(Own.drewN HOQ.out nq).kept hg8 (.inr (by simp[Value.ownBlock];omega));have hry8:=(Rd.drewN HRY.out nq).yw hg8 (λp c a h1 h2=>by cases h1;cases h2;exact hne2);have hbw8:Below B w w8:=(Below.drewN kc.out nq).grown hg8 (bG (by have:=HB.out;omega) kc.out.size) (λk hk=>by cases hk;exact (Own.lt HOA.out).1);obtain⟨x8,hx8,hc8,hf8⟩:=Own.jT hq8 (j:=i) Pc;have hl8:=mO hc8;simp only at hl8
      have hus':(us.take i++(A'++us.drop (i+(mm+3)))).length=N:=by
       have h1:=ak List.length JP.out.split;rw[HUL.out] at h1;simp only[List.length_append] at h1 ⊢;omega
      have LN:eB (us.take i++(A'++us.drop (i+(mm+3)))):=(En.out.take _).append (XO.append (En.out.drop _));have hq9:=Own.jy (j:=i) (x:=q') hq8;rw[JO] at hq9
      have HREL:Hid (XJ w B N ca lb mq b' a' ga (.slice (some ⟨gy,0,none⟩) lb cy) (.slice (some ⟨gq,0,none⟩) mq mq) (.int .i64 ((i:Int)-1)) (w8.setCell ⟨gq,i,none⟩ (.int .u32 (q':Int)))):=
       ⟨i,_,q'::qs,ae,rfl,hus',LN,hst.1,by rw[wD,HQL.out];omega,eB.cons hq4 HQLIM.out,hst.2,Il.kept El (.inr (by simp[Value.ownBlock];omega)),hq9,hry8.yw El (λp c a h1 h2=>by cases h1;cases h2;exact hne3),hbw8.setCell (p:=⟨gq,i,none⟩) (Own.lt hq8).1 _⟩
      clear hA'l XO hA'v hq' Il hg8 hqd XI hst hq8 hry8 hbw8 hx8 hus' LN hq9 hoa Ma hG hJ;go_wp2_with fail
      go_roundw
      case rel=>exact HREL.out
      case measure=>simp[intOf]
end
end Go.Proofs.YtlifeokjcgngjaaGreat
