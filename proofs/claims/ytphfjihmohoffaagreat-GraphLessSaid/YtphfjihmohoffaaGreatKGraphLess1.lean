/-FR of the proof,laid behind one another. -/
import Derived.Lib.Hide
import Derived.WalkKit
import Derived.WalkSpells
import Derived.WalkLawsBesides
import Derived.Outline
import Derived.Test.YtphfjihmohoffaaGreatRows
import Derived.Deep.QuietTactic
import Derived.BigQuiet
import Derived.Lib.SliceRun
import Derived.Lib.AppendZeros
import Derived.RegionCalls
import Derived.Deep.RegionWith
import Derived.Lib.BitFns
import Derived.WalkMore
set_option linter.all false
set_option maxHeartbeats 64000000
namespace Go.Proofs.YtphfjihmohoffaaGreat
def aa:=@rfl
def ab:=@Go.Lib.hid
def aZ:=@List.getElem?_eq_getElem
def aH:=@List.mem_singleton
def bx:=@List.getElem?_eq_some_iff
def aQ:=@Int.toNat_natCast
def ai:=@congrArg
def aR:=@List.length_take
def cA:=@Array.getD_eq_getD_getElem?
def aW:=@List.all_eq_true
def aj:=@trivial
def aU:=@decide_eq_true
def bo:=@decide_eq_false
def aM:=@Nat.le_refl
def bj:=@Go.IntWalk.i64_in
def du:=@List.take_of_length_le
def bA:=@Nat.le_trans
def bg:=@Nat.mul_add
def eL:=@List.getD_eq_getElem?_getD
def dx:=@List.mem_of_getElem?
def da:=@List.length_append
def cS:=@of_decide_eq_true
def cJ:=@List.length_map
def cT:=@List.map_append
def cf:=@Int.ofNat_lt
def cC:=@Nat.zero_add
def jQ:=@List.eq_nil_of_length_eq_zero
def fi:=@Option.some_ne_none
def iI:=@Array.getElem?_eq_getElem
def dF:=@Nat.min_eq_left
def dR:=@Bool.and_eq_true
def fT:=@Nat.eq_of_beq_eq_true
def db:=@Nat.mul_assoc
def cD:=@Nat.zero_le
def dS:=@List.append_nil
def cU:=@List.mem_map
def eF:=@List.length_set
def gG:=@Nat.mul_le_mul_left
def kZ:=@List.getElem?_append_left
def cV:=@Nat.add_mul
def nk:=@Array.getElem?_setIfInBounds
def mK:=@List.drop_eq_getElem_cons
def cM:=@Nat.mod_lt
def iJ:=@beq_eq_false_iff_ne
def dI:=@Nat.le_of_eq
def np:=@Array.getElem?_eq_some_iff
def nr:=@List.getElem?_append_right
def dT:=@Nat.pow_succ
def jR:=@Nat.mul_le_mul_right
def eh:=@Nat.mul_comm
def fU:=@List.mem_append
def ld:=@List.getElem?_eq_none
def fj:=@List.mem_cons
def mL:=@List.drop_of_length_le
def iK:=@List.getElem?_map
def iL:=@Bool.eq_false_iff
def lf:=@List.mem_of_mem_take
def mM:=@List.mem_append_right
def jg:=@Go.Proofs.Tryz.underlying31
def jh:=@Go.World.ownsRow_nil
def dJ:=@Go.RowKit.Below.refl
def ji:=@List.length_cons
def fV:=@List.map_cons
def lg:=@Nat.eq_zero_or_pos
def eM:=@Nat.mul_one
def nt:=@List.mem_of_mem_drop
def nu:=@Nat.pow_le_pow_right
def jS:=@Array.toList_inj
def vn:=@List.eq_nil_iff_forall_not_mem
def mN:=@Nat.lt_of_lt_of_le
def iM:=@List.mem_range
def oZ:=@List.take_append_drop
def lh:=@Array.toList_map
def lj:=@Go.IntKind.wrap_i64
def pa:=@Go.World.cell?_of_block
def nv:=@List.getElem?_take
def nw:=@Go.RowKit.Below.heap_setCell
def qJ:=@List.set_append_right
def qK:=@List.contains_iff_mem
def pb:=@List.replicate_succ
def ia:=@Nat.add_zero
def tw:=@Go.World.block_lt_of_cell?
def vo:=@Int.tdiv_eq_ediv_of_nonneg
def nx:=@List.append_assoc
def ny:=@List.flatten_cons
def qL:=@List.mem_append_left
def iP:=@Nat.sub_self
def mO:=@List.mem_filter
def nz:=@List.length_drop
def ib:=@Go.Proofs.Tryz.func65
def tx:=@List.length_singleton
def tz:=@List.mem_cons_of_mem
def nA:=@List.all_append
def pc:=@List.cons_append
def jT:=@Nat.mul_zero
def jU:=@Nat.ne_of_lt
def jV:=@Nat.ne_of_gt
def xZ:=@List.mem_or_eq_of_mem_set
def jk:=@Go.RowKit.Below.block
def qM:=@List.getElem?_set
def jl:=@Go.Proofs.Tryz.func10
def vp:=@List.filterMap_append
def pe:=@Int.natCast_mul
def pg:=@List.nil_append
def pj:=@Option.some.inj
def pk:=@Bool.or_eq_true
def tB:=@List.getElem?_drop
def qN:=@Nat.mod_eq_of_lt
def vt:=@List.getElem?_of_mem
def mP:=@Nat.lt_or_ge
def AY:=@Int.tmod_eq_emod_of_nonneg
def tC:=@List.nodup_append
def vv:=@List.map_congr_left
def qO:=@Nat.mod_add_div
def ya:=@List.length_replicate
def yb:=@Nat.le_div_iff_mul_le
def tD:=@Nat.div_eq_of_lt
def vw:=@Int.natAbs_natCast
def vx:=@List.append_of_mem
def mQ:=@Nat.pow_add
def qP:=@Nat.mul_le_mul
def FU:=@List.take_append_of_le_length
def ll:=@Go.Calls.mono
def yc:=@Array.length_toList
def po:=@Nat.add_comm
def pt:=@Nat.sub_zero
def nB:=@Nat.pow_pos
def vz:=@Go.Proofs.Tryz.underlying3
def yd:=@Nat.xor_lt_two_pow
def ye:=@List.pairwise_cons
def AZ:=@Nat.div_lt_iff_lt_mul
def Ki:=@List.set_eq_take_append_cons_drop
def FV:=@List.getLast?_eq_getElem?
def FX:=@Classical.byContradiction
def yf:=@Nat.lt_trichotomy
def pw:=@Int.le_refl
def yg:=@Nat.mul_left_comm
def yh:=@Go.Proofs.Tryz.underlying27
def qQ:=@List.map_map
def yi:=@Go.Proofs.Tryz.underlying57
def FY:=@List.filterMap_cons_some
def Ba:=@List.length_pos_iff
def Bb:=@Nat.div_mul_le_self
def Ga:=@Nat.add_sub_cancel_left
def yj:=@Bool.not_eq_true
def Gb:=@Option.bind_eq_some_iff
def qR:=@Go.Proofs.Tryz.func71
def qS:=@Go.Proofs.Tryz.func68
def qT:=@Go.Proofs.Tryz.func28
def Bc:=@List.mem_cons_self
def Bd:=@List.set_cons_zero
def Gc:=@Array.getElem?_eq_none
def pz:=@Go.Proofs.Tryz.func8
def yk:=@Nat.div_le_self
def yl:=@Nat.div_add_mod
def ym:=@List.nodup_cons
def vA:=@Nat.add_assoc
def Gd:=@Array.getElem?_toList
def Ge:=@List.mem_iff_getElem?
def Be:=@List.ext_getElem?
def Kj:=@Nat.add_mul_mod_self_right
def Kk:=@Nat.lt_of_mul_lt_mul_right
def Gf:=@List.pairwise_append
def Kl:=@Int.fdiv_eq_ediv_of_nonneg
def tE:=@Go.Proofs.Tryz.func95
def Bf:=@List.take_length
def Bg:=@List.any_eq_true
def Bh:=@List.filter_cons
def Gg:=@Int.gcd_eq_zero_iff
def Km:=@Option.isSome_iff_exists
def Gh:=@Nat.and_lt_two_pow
def Gi:=@Nat.add_sub_cancel
def Gj:=@List.mem_filterMap
def Gk:=@Int.lt_or_lt_of_ne
def vB:=@Nat.one_mul
def vC:=@Go.Proofs.Tryz.func51
def Bi:=@List.drop_zero
def Bj:=@List.take_zero
def yn:=@Nat.zero_mul
def Gl:=@Go.IntKind.wrap_u32'
def Gm:=@Go.DataW.trod_struct
def yo:=@Nat.pow_mul
def yp:=@Go.Proofs.Tryz.func84
def yq:=@Go.Proofs.Tryz.func83
def yr:=@Go.Proofs.Tryz.func12
section
def val (B:Nat):List Nat->Nat
 | []=>0
 | x::xs=>x+B*val B xs
def dp (B:Nat) (xs:List Nat):Prop:=∀ x∈xs,x<B
variable {P:Prop}
theorem ae (h:P:=by omega):P:=h
def fW (B:Nat) (n:Nat):List Nat:=
 if _h:n=0\/B<2 then [] else n%B::fW B (n/B)
termination_by n
decreasing_by
 have:n≠0/\2<=B:=ae;exact Nat.div_lt_self ae ae
theorem val_nil (B:Nat):val B []=0:=rfl
theorem ft (B x:Nat) (xs:List Nat):val B (x::xs)=x+B*val B xs:=rfl
theorem de (B:Nat):fW B 0=[]:=by rw[fW];simp
variable {B:Nat}
theorem fX {n:Nat} (hB:2<=B) (hn:n≠0):fW B n=n%B::fW B (n/B):=by
 rw[fW,dif_neg ae]
theorem dp.nil (B:Nat):dp B []:=λ_ h=>by cases h
theorem dp.cons {B x:Nat} {xs:List Nat} (hx:x<B) (h:dp B xs):dp B (x::xs):=by
 intro y hy;cases hy with
 | head=>exact hx
 | tail _ h'=>exact h y h'
variable {xs:List Nat} {x:Nat}
theorem dp.head (h:dp B (x::xs)):x<B:=h x (Bc ..)
theorem dp.tail (h:dp B (x::xs)):dp B xs:=λy hy=>h y (tz _ hy)
theorem dp.take (h:dp B xs) (k:Nat):dp B (xs.take k):=λy hy=>h y (lf hy)
theorem dp.drop (h:dp B xs) (k:Nat):dp B (xs.drop k):=λy hy=>h y (nt hy)
variable {ys:List Nat}
theorem dp.append (h:dp B xs) (h':dp B ys):dp B (xs++ys):=by
 intro y hy;rcases fU.1 hy with hy|hy
 ·exact h y hy
 ·exact h' y hy
variable {k:Nat}
theorem dp.at (h:dp B xs) (hk:xs[k]? =some x):x<B:=h x (dx hk)
theorem dp.replicate (hB:0<B) (k:Nat):dp B (List.replicate k 0):=λy hy=>by
 rw[List.mem_replicate] at hy;omega
theorem nC (hB:2<=B):∀ n,dp B (fW B n):=by
 intro n
 induction n using Nat.strongRecOn with
 | _ n ih=>
   by_cases hn:n=0
   ·subst hn;rw[de];exact dp.nil B
   ·rw[fX hB hn];exact dp.cons (cM _ ae) (ih _ (Nat.div_lt_self ae ae))
theorem jo (hB:2<=B):∀ n,val B (fW B n)=n:=by
 intro n
 induction n using Nat.strongRecOn with
 | _ n ih=>
   by_cases hn:n=0
   ·subst hn;rw[de];rfl
   ·rw[fX hB hn,ft,ih _ (Nat.div_lt_self ae ae)];exact qO n B
theorem nD:∀ {xs:List Nat},dp B xs->val B xs<B^xs.length:=by
 intro xs
 induction xs with
 | nil=>intro _;simp[val]
 | cons x xs ih=>
   intro h;have h1:=ih h.tail;have hx:=h.head;rw[ft,ji,dT,eh (B^xs.length) B]
   calc x+B*val B xs<B+B*val B xs:=by omega
    _=B*(val B xs+1):=by rw[bg];omega
    _<=B*B^xs.length:=gG _ h1
theorem gK (B:Nat):∀ (xs ys:List Nat),val B (xs++ys)=val B xs+B^xs.length*val B ys:=by
 intro xs ys
 induction xs with
 | nil=>simp[val]
 | cons x xs ih=>
   rw[pc,ft,ih,ft,ji,dT,bg,vA]
   congr 2
   rw[<-db,eh B (B^xs.length)]
theorem ln (B:Nat) (xs:List Nat) (x:Nat):val B (xs++[x])=val B xs+B^xs.length*x:=by
 rw[gK];simp[val]
theorem fA (B k:Nat):val B (List.replicate k 0)=0:=by
 induction k with
 | zero=>rfl
 | succ k ih=>rw[pb,ft,ih];simp
theorem bc (h:P:=by simp):P:=h
theorem vD (hB:2<=B):∀ {xs:List Nat},dp B xs->(∀ x,xs.getLast? =some x->x≠0)->fW B (val B xs)=xs:=by
 intro xs
 induction xs with
 | nil=>intro _ _;exact de B
 | cons x xs ih=>
   intro hd hl;have hx:=hd.head
   have hne:val B (x::xs)≠0:=by
    intro h0;rw[ft] at h0;have mR:x=0:=ae;cases xs with
    | nil=>exact hl x bc mR
    | cons y ys=>
      have hv:val B (y::ys)=0:=by
       have:B*val B (y::ys)=0:=ae;rcases Nat.mul_eq_zero.1 this with h|h
       ·omega
       ·exact h
      have:=ih hd.tail (λz hz=>hl z (by rw[List.getLast?_cons_cons];exact hz));rw[hv,de] at this;cases this
   rw[fX hB hne,ft];have h1:(x+B*val B xs)%B=x:=by rw[Nat.add_mul_mod_self_left];exact qN hx
   have h2:(x+B*val B xs)/B=val B xs:=by
    rw[Nat.add_mul_div_left _ _ ae,tD hx];omega
   rw[h1,h2]
   congr 1
   cases xs with
   | nil=>exact de B
   | cons y ys=>exact ih hd.tail (λz hz=>hl z (by rw[List.getLast?_cons_cons];exact hz))
theorem HF (hB:2<=B):∀ n x,(fW B n).getLast? =some x->x≠0:=by
 intro n
 induction n using Nat.strongRecOn with
 | _ n ih=>
   intro x hx;by_cases hn:n=0
   ·subst hn;rw[de] at hx;cases hx
   ·rw[fX hB hn] at hx;by_cases h2:n/B=0
    ·rw[h2,de] at hx;simp at hx
     have:n<B:=by
      rcases mP n B with h|h
      ·exact h
      ·have:=Nat.div_pos h (by omega:0<B);omega
     rw[qN this] at hx;omega
    ·rw[fX hB h2,List.getLast?_cons_cons,<-fX hB h2] at hx;exact ih _ (Nat.div_lt_self ae ae) x hx
variable {m:Nat}
theorem vE (hB:2<=B) {n:Nat} (h:fW B m=fW B n):m=n:=by
 have:=ai (val B) h
 rwa [jo hB,jo hB] at this
theorem dK (hB:2<=B):∀ (k n:Nat),n<B^k->(fW B n).length<=k:=by
 intro k
 induction k with
 | zero=>intro n h;have:n=0:=by simpa using h
         subst this;rw[de];simp
 | succ k ih=>
   intro n h;by_cases hn:n=0
   ·subst hn;rw[de];simp
   ·rw[fX hB hn,ji]
    have:n/B<B^k:=by
     rw[AZ ae]
     rwa [dT] at h
    have:=ih _ this;omega
theorem vF (hB:2<=B) {n:Nat} (h:B^k<=n):k<(fW B n).length:=by
 rcases mP k (fW B n).length with h' |h'
 ·exact h'
 ·have h1:=nD (nC hB n);rw[jo hB] at h1;have:=nu (show 0<B by omega) h';omega
theorem cK (hB:2<=B) {n:Nat} (h:m<=n):(fW B m).length<=(fW B n).length:=by
 apply dK hB;have h1:=nD (nC hB n);rw[jo hB] at h1;omega
theorem zC (hB:2<=B) (h:dp B xs):(fW B (val B xs)).length<=xs.length:=
 dK hB _ _ (nD h)
theorem Bk (hB:2<=B) (n:Nat):n<B^(fW B n).length:=by
 have h1:=nD (nC hB n)
 rwa [jo hB] at h1
theorem tG (hB:2<=B) {n:Nat} (hn:n≠0):B^((fW B n).length-1)<=n:=by
 rcases mP n (B^((fW B n).length-1)) with h|h
 ·have h1:=dK hB _ _ h;have h2:0<(fW B n).length:=by rw[fX hB hn];simp
  omega
 ·exact h
theorem zD (hB:2<=B) {n:Nat}:fW B n=[]↔n=0:=by
 constructor
 ·intro h;exact vE hB (h.trans (de B).symm)
 ·rintro rfl;exact de B
theorem mS (hB:2<=B) {n:Nat} (hn:n≠0):0<(fW B n).length:=by
 rw[fX hB hn];simp
theorem gT (B:Nat) (xs:List Nat) (k:Nat) (hk:k<=xs.length):val B xs=val B (xs.take k)+B^k*val B (xs.drop k):=by
 conv=>lhs;rw[<-oZ k xs]
 rw[gK,aR,dF hk]
theorem bf {α:Type} {xs:List α} {x:α} (h:xs[k]? =some x):xs.take (k+1)=xs.take k++[x]:=by
 rw[List.take_add_one,h];rfl
theorem jW (hk:xs[k]? =some 0):val B (xs.take (k+1))=val B (xs.take k):=by
 rw[bf hk,ln];simp
theorem iY (hB:2<=B) (hd:dp B xs) (hm:m<=xs.length) (hv:val B (xs.take m)=val B xs) (hl:m=0\/∃ x,xs[m-1]? =some x/\x≠0):
  fW B (val B xs)=xs.take m:=by
 rw[<-hv];apply vD hB (hd.take m);intro x hx;rcases hl with rfl|⟨y,hy,Kn⟩
 ·simp at hx
 ·rw[FV,aR,dF hm,nv] at hx
  split at hx
  ·rw[hy] at hx;cases hx;exact Kn
  ·cases hx
variable {a b:Nat}
theorem jq (hx:dp B xs) (ha:xs[k]? =some a) (hb:ys[k]? =some b) (pA:a<b)
  (hh:xs.drop (k+1)=ys.drop (k+1)):val B xs<val B ys:=by
 have sn:k<xs.length:=(bx.1 ha).1;have mY:k<ys.length:=(bx.1 hb).1;rw[gT B xs (k+1) ae,gT B ys (k+1) ae,hh,bf ha,bf hb,ln,ln];have h1:=nD (hx.take k);rw[aR,dF ae] at h1 ⊢;rw[aR,dF ae]
 have h2:B^k*a+B^k<=B^k*b:=by
  calc B^k*a+B^k=B^k*(a+1):=by rw[bg];omega
   _<=B^k*b:=gG _ pA
 omega
def ag (xs:List Nat):Nat:=val 4294967296 xs
def limbs (n:Nat):List Nat:=fW 4294967296 n
def bR (xs:List Nat):Prop:=dp 4294967296 xs
theorem bR.nil:bR []:=dp.nil _
theorem bR.cons {x:Nat} {xs:List Nat} (hx:x<4294967296) (h:bR xs):bR (x::xs):=dp.cons hx h
theorem bR.take (h:bR xs) (k:Nat):bR (xs.take k):=dp.take h k
theorem bR.drop (h:bR xs) (k:Nat):bR (xs.drop k):=dp.drop h k
theorem bR.append (h:bR xs) (h':bR ys):bR (xs++ys):=dp.append h h'
theorem bR.at (h:bR xs) (hk:xs[k]? =some x):x<4294967296:=dp.at h hk
theorem ak (n:Nat):bR (limbs n):=nC ae n
theorem ah (n:Nat):ag (limbs n)=n:=jo ae n
theorem bk:limbs 0=[]:=de _
theorem dz:ag []=0:=rfl
theorem ez (x:Nat) (xs:List Nat):ag (x::xs)=x+4294967296*ag xs:=rfl
theorem df (xs:List Nat) (x:Nat):ag (xs++[x])=ag xs+4294967296^xs.length*x:=ln _ xs x
theorem dA (xs ys:List Nat):ag (xs++ys)=ag xs+4294967296^xs.length*ag ys:=gK _ xs ys
theorem gU (h:bR xs):ag xs<4294967296^xs.length:=nD h
theorem fY (h:bR xs):(limbs (ag xs)).length<=xs.length:=zC ae h
theorem iC (k n:Nat) (h:n<4294967296^k):(limbs n).length<=k:=dK ae k n h
theorem uB {n:Nat} (h:4294967296^k<=n):k<(limbs n).length:=vF ae h
theorem lW (n:Nat):n<4294967296^(limbs n).length:=Bk ae n
theorem zE {n:Nat} (hn:n≠0):4294967296^((limbs n).length-1)<=n:=tG ae hn
theorem bX {n:Nat} (h:m<=n):(limbs m).length<=(limbs n).length:=cK ae h
theorem HI {n:Nat} (h:limbs m=limbs n):m=n:=vE ae h
theorem kK {n:Nat}:limbs n=[]↔n=0:=zD ae
theorem cL {n:Nat} (hn:n≠0):0<(limbs n).length:=mS ae hn
theorem nE {n:Nat} (h:(limbs n).length=0):n=0:=kK.1 (jQ h)
theorem pR (h:bR xs) (hl:∀ x,xs.getLast? =some x->x≠0):limbs (ag xs)=xs:=vD ae h hl
theorem pS (n x:Nat) (h:(limbs n).getLast? =some x):x≠0:=HF ae n x h
def fb (a b:Nat):Int:=if a<b then-1 else if b<a then 1 else 0
theorem jX (h:a<b):fb a b= -1:=by simp[fb,h]
theorem jY (h:b<a):fb a b=1:=by simp[fb,h];omega
theorem qU (a:Nat):fb a a=0:=by simp[fb]
theorem ic {a b:Nat}:(fb a b<0)↔a<b:=by unfold fb;split <;> (try split) <;> omega
theorem aO (xs:List Nat) (k:Nat):ag (xs.take (k+1))=ag (xs.take k)+4294967296^k*xs.getD k 0:=by
 by_cases h:k<xs.length
 ·rw[bf (aZ h),df,aR,dF ae];simp[List.getD,h]
 ·rw[du ae,du ae];simp[List.getD,List.getElem?_eq_none (by omega:xs.length<=k)]
theorem bb (h:xs.length<=k):ag (xs.take k)=ag xs:=by rw[du h]
theorem Bl (p s x y c X Y D:Nat) (h:D+p*c=X+Y) (hs:s=x+y+c):
  D+p*(s%4294967296)+p*4294967296*(s/4294967296)=(X+p*x)+(Y+p*y):=by
 subst hs
 have h2:p*((x+y+c)%4294967296)+p*4294967296*((x+y+c)/4294967296)=p*(x+y+c):=by
  rw[db,<-bg,qO]
 rw[bg,bg] at h2;omega
theorem Ko (p x m c X D:Nat) (h:D+p*c=X*m):
  D+p*((x*m+c)%4294967296)+p*4294967296*((x*m+c)/4294967296)=(X+p*x)*m:=by
 have h2:p*((x*m+c)%4294967296)+p*4294967296*((x*m+c)/4294967296)=p*(x*m+c):=by
  rw[db,<-bg,qO]
 rw[bg] at h2;rw[cV,db p x m];omega
def fN (n:Nat):Nat:=if n=0 then 0 else Nat.log2 n+1
theorem HQ:fN 0=0:=rfl
theorem uH (n:Nat):n<2^fN n:=by
 unfold fN
 split
 ·omega
 ·exact Nat.lt_log2_self
theorem uI {n:Nat} (h:n≠0):2^(fN n-1)<=n:=by
 unfold fN;rw[if_neg h];exact Nat.log2_self_le h
theorem qV {n:Nat} (h:n≠0):0<fN n:=by unfold fN;rw[if_neg h];omega
theorem Gn {n:Nat} (h:n<2^b) (h':b=0\/2^(b-1)<=n):fN n=b:=by
 by_cases h0:n=0
 ·subst h0;rcases h' with rfl|h'
  ·rfl
  ·have:=nB (n:=b-1) (show 0<2 by omega);omega
 ·have h1:=uH n;have h2:=uI h0;have h3:=qV h0;rcases yf (fN n) b with hl|he|hg
  ·rcases h' with rfl|h'
   ·omega
   ·have:=nu (show 0<2 by omega) (show fN n<=b-1 by omega);omega
  ·exact he
  ·have:=nu (show 0<2 by omega) (show b<=fN n-1 by omega);omega
theorem pC {n:Nat} (h:n<2^k):fN n<=k:=by
 by_cases h0:n=0
 ·subst h0;rw[HQ];omega
 ·have h1:=uI h0;rcases mP k (fN n) with hl|hg
  ·have:=nu (show 0<2 by omega) (show k<=fN n-1 by omega);omega
  ·exact hg
theorem Bm (k:Nat):4294967296^k=2^(32*k):=by rw[yo]
theorem Bn {n t:Nat} (hl:(limbs n)[(limbs n).length-1]? =some t):fN n=32*((limbs n).length-1)+fN t/\t≠0:=by
 have Kq:(limbs n).getLast? =some t:=by rw[FV];exact hl
 have ht:=pS n t Kq
 have vG:0<(limbs n).length:=by
  rcases lg (limbs n).length with h|h
  ·rw[jQ h] at hl;cases hl
  ·exact h
 refine⟨?_,ht⟩
 have e:limbs n=(limbs n).take ((limbs n).length-1)++[t]:=by
  have:=bf hl;rw[show (limbs n).length-1+1=(limbs n).length by omega,Bf] at this;exact this
 have hv:n=ag ((limbs n).take ((limbs n).length-1))+4294967296^((limbs n).length-1)*t:=by
  have h1:=ai ag e;rw[ah,df,aR,dF ae] at h1;exact h1
 have JW:=gU ((ak n).take ((limbs n).length-1));rw[aR,dF ae] at JW;generalize ag ((limbs n).take ((limbs n).length-1))=lo at hv JW;generalize (limbs n).length-1=m at hv JW;have h1:=uH t;have h2:=uI ht;have h3:=qV ht;rw[Bm] at hv JW;apply Gn
 ·rw[hv,mQ]
  calc lo+2^(32*m)*t<2^(32*m)+2^(32*m)*t:=by omega
   _=2^(32*m)*(t+1):=by rw[bg];omega
   _<=2^(32*m)*2^fN t:=gG _ h1
 ·right
  rw[hv,show 32*m+fN t-1=32*m+(fN t-1) by omega,mQ];have:=gG (2^(32*m)) h2;omega
theorem Bo (k:Nat) (hx:x≠0):List.replicate k 0++limbs x=limbs (x*4294967296^k):=by
 have h:ag (List.replicate k 0++limbs x)=x*4294967296^k:=by
  rw[dA,ah,show ag (List.replicate k 0)=0 from fA _ k,ya,eh];omega
 rw[<-h]
 symm
 apply pR
 ·exact bR.append (dp.replicate ae k) (ak x)
 ·intro y hy;rw[List.getLast?_append] at hy;have hne:limbs x≠[]:=λh=>hx (kK.1 h);cases hl:(limbs x).getLast? with
  | none=>rw[List.getLast?_eq_none_iff] at hl;exact absurd hl hne
  | some z=>rw[hl] at hy;simp at hy;subst hy;exact pS x z hl
theorem uC (x k:Nat) (hk:k<=(limbs x).length):ag ((limbs x).drop k)=x/4294967296^k:=by
 have h:=gT 4294967296 (limbs x) k hk;have h1:val 4294967296 (limbs x)=x:=ah x;have h2:=gU ((ak x).take k);rw[aR,dF hk] at h2;rw[h1] at h;show val 4294967296 _=_;have h3:val 4294967296 ((limbs x).take k)<4294967296^k:=h2;generalize val 4294967296 ((limbs x).take k)=lo at h h3;generalize val 4294967296 ((limbs x).drop k)=hi at h ⊢;rw[h,Nat.add_mul_div_left _ _ (nB ae),tD h3];omega
def fm (x:Nat) (n:Int):Nat:=if 0<=n then x*2^n.toNat else x/2^(-n).toNat
theorem Bp (hB:2<=B) {ds:List Nat} (hd:dp B ds) (h:ds.length<=(fW B (val B ds)).length):fW B (val B ds)=ds:=by
 apply vD hB hd;intro x hx h0;subst h0;have hne:ds≠[]:=by rintro rfl;cases hx
 have vG:0<ds.length:=Ba.2 hne;have hk:ds[ds.length-1]? =some 0:=by rw[<-FV];exact hx
 have h1:=jW (B:=B) hk;rw[show ds.length-1+1=ds.length by omega,Bf] at h1;have h2:=nD (hd.take (ds.length-1));rw[<-h1,aR,dF ae] at h2;have h3:=dK hB _ _ h2;omega
theorem bE (B:Nat) (xs:List Nat) (k:Nat):val B (xs.take (k+1))=val B (xs.take k)+B^k*xs.getD k 0:=by
 by_cases h:k<xs.length
 ·rw[bf (aZ h),ln,aR,dF ae];simp[List.getD,h]
 ·rw[du ae,du ae];simp[List.getD,List.getElem?_eq_none (by omega:xs.length<=k)]
theorem dW (h:xs.length<=k):val B (xs.take k)=val B xs:=by rw[du h]
theorem HT (B p s x y c X Y D:Nat) (h:D+p*c=X+Y) (hs:s=x+y+c):D+p*(s%B)+p*B*(s/B)=(X+p*x)+(Y+p*y):=by
 subst hs
 have h2:p*((x+y+c)%B)+p*B*((x+y+c)/B)=p*(x+y+c):=by
  rw[db,<-bg,qO]
 rw[bg,bg] at h2;omega
theorem pD (h:xs[k]? =some x):val B (xs.drop k)=x+B*val B (xs.drop (k+1)):=by
 obtain⟨hl,e⟩:=bx.1 h;rw[mK hl,e,ft]
theorem HW (B p x y r d r' X Y D:Nat) (h:D+Y=X+p*r) (hs:x+B*r'=d+y+r):(D+p*d)+(Y+p*y)=(X+p*x)+p*B*r':=by
 have h2:p*(x+B*r')=p*(d+y+r):=by rw[hs]
 rw[bg,bg,bg,<-db] at h2;omega
end
section
open Go.RowKit
def Rd (w:World) (sz:Nat) (v:Value) (n:Nat) (cs:List Value):Prop:=
 ∃ p c,v=.slice p n c/\n<=c/\c<=maxLen/\cs.length=n*sz/\(0<n*sz->∃ b off,p=some ⟨b,off,none⟩/\∀ j u,cs[j]? =some u->w.cell? ⟨b,off+j,none⟩=some u)
theorem Rd.nil (w:World) (sz:Nat):Rd w sz (.slice none 0 0) 0 []:=⟨none,0,rfl,aM _,by simp[maxLen],bc,λh=>ae⟩
variable {cs:List Value} {v:Value} {w w':World}
theorem Rd.keep {sz n:Nat} (h:Rd w sz v n cs) (hk:∀ a u,w.cell? a=some u->w'.cell? a=some u):Rd w' sz v n cs:=by
 obtain⟨p,c,rfl,h1,h2,h3,h4⟩:=h;refine⟨p,c,aa,h1,h2,h3,λhn=> ?_⟩;obtain⟨b,off,hp,hc⟩:=h4 hn;exact⟨b,off,hp,λj u hj=>hk _ _ (hc j u hj)⟩
variable {u:Value}
theorem gV {a:Addr} (h:w.cell? a=some u):a.block<w.heap.size:=tw w a h
theorem Below.keeps (h:Below w.heap.size w w'):∀ a u,w.cell? a=some u->w'.cell? a=some u:=
 λ_ _ hu=>(h.cell (gV hu)).trans hu
theorem Rd.below {sz n:Nat} (h:Rd w sz v n cs) (hb:Below w.heap.size w w'):Rd w' sz v n cs:=h.keep (Below.keeps hb)
theorem Rd.alloc {sz n:Nat} (h:Rd w sz v n cs) (o:Obj):Rd (w.alloc o) sz v n cs:=
 h.below ((dJ _ _).alloc (aM _) o)
theorem Rd.drew {sz n:Nat} (h:Rd w sz v n cs):Rd w.drew sz v n cs:=h
theorem Rd.drewN {sz n:Nat} (h:Rd w sz v n cs) (k:Nat):Rd (w.drewN k) sz v n cs:=h
variable {e:Nat}
theorem Rd.lit {cs:Array Value} {n:Nat} (hn:cs.size=n) (hm:n<=9223372036854775807):Rd (w.alloc (.cells cs e)) 1 (.slice (some ⟨w.heap.size,0,none⟩) n n) n cs.toList:=
 ⟨_,n,rfl,aM _,by unfold maxLen;omega,by simp[hn],λ_=>⟨w.heap.size,0,rfl,λj u hj=>by
   rw[cC,World.cell?_alloc_new];simpa using hj⟩⟩
variable {B:Nat}
theorem Rd.gL {sz n:Nat} (h:Rd w sz v n cs) (hB:B=w.heap.size) (hb:Below B w w'):Rd w' sz v n cs:=h.below (hB▸hb)
theorem Rd.own {sz n:Nat} (h:w.ownsRow B e sz v n cs):Rd w sz v n cs:=by
 rcases h.2 with ⟨rfl,rfl⟩|⟨g,cap,cur,rfl,_,hg,iD,fO,_,Kr⟩
 ·have hx:cs=[]:=jQ (by simpa using h.1);subst hx;exact Rd.nil w sz
 ·refine⟨_,cap,aa,iD,fO,h.1,λ_=>⟨g,0,aa,λj u hj=> ?_⟩⟩;have:=h.cells (g:=g) aa j u hj
  rwa [show (⟨g,0,none⟩:Addr).add j=⟨g,0+j,none⟩ by unfold Addr.add;split <;> simp_all] at this
variable {B':Nat}
theorem Own.mono {sz n:Nat} (h:w.ownsRow B e sz v n cs) (hB:B'<=B):w.ownsRow B' e sz v n cs:=by
 refine⟨h.1,?_⟩;rcases h.2 with h2|⟨g,cap,cur,hv,hb,r⟩
 ·exact .inl h2
 ·exact .inr ⟨g,cap,cur,hv,ae,r⟩
theorem Own.below {sz n:Nat} (h:w.ownsRow B e sz v n cs) (hb:Below w.heap.size w w'):w'.ownsRow B e sz v n cs:=by
 refine⟨h.1,?_⟩;rcases h.2 with h2|⟨g,cap,cur,hv,hg,hh,r⟩
 ·exact .inl h2
 ·exact .inr ⟨g,cap,cur,hv,hg,(hb.block g (np.1 hh).1).trans hh,r⟩
theorem Own.uJ {sz n:Nat} (h:w.ownsRow B e sz v n cs) (hn:0<n):∃ g c,v=.slice (some ⟨g,0,none⟩) n c/\B<=g/\g<w.heap.size:=by
 rcases h.2 with ⟨_,h0⟩|⟨g,cap,cur,rfl,hb,hg,_⟩
 ·omega
 ·exact⟨g,cap,aa,hb,(np.1 hg).1⟩
theorem Own.drewN {sz n:Nat} (h:w.ownsRow B e sz v n cs) (k:Nat):(w.drewN k).ownsRow B e sz v n cs:=h
theorem Below.drewN {a:World} (h:Below B a w) (n:Nat):Below B a (w.drewN n):=⟨h.os,h.tape,h.output,h.size,h.block⟩
variable {c m:Nat} {p:Option Addr}
theorem Own.take {sz n:Nat} (h:w.ownsRow B e sz (.slice p n c) n cs) (hm:m<=n):w.ownsRow B e sz (.slice p m c) m (cs.take (m*sz)):=by
 have hle:m*sz<=n*sz:=jR _ hm;refine⟨by rw[aR,h.1];omega,?_⟩;rcases h.2 with ⟨hv,rfl⟩|⟨g,cap,cur,hv,hb,hg,iD,fO,hcs,Kr⟩
 ·left
  simp only[Value.slice.injEq] at hv;obtain⟨rfl,_,rfl⟩:=hv;exact⟨by rw[show m=0 by omega],ae⟩
 ·right
  simp only[Value.slice.injEq,true_and] at hv;obtain⟨rfl,rfl⟩:=hv;exact⟨g,c,cur,aa,hb,hg,ae,fO,hcs,by rw[<-Kr,List.take_take,dF hle]⟩
theorem Rd.take {sz n:Nat} (h:Rd w sz (.slice p n c) n cs) (hm:m<=n):Rd w sz (.slice p m c) m (cs.take (m*sz)):=by
 obtain⟨p',c',hv,h1,h2,h3,h4⟩:=h;simp only[Value.slice.injEq,true_and] at hv;obtain⟨rfl,rfl⟩:=hv;have hle:m*sz<=n*sz:=jR _ hm;refine⟨p,c,aa,ae,h2,by rw[aR,h3];omega,λhn=> ?_⟩;obtain⟨b,off,hp,hc⟩:=h4 ae;exact⟨b,off,hp,λj u hj=>hc j u (by rw[nv] at hj;split at hj;exact hj;cases hj)⟩
def ints (k:IntKind) (xs:List Nat):List Value:=xs.map λ(x:Nat)=>Value.int k (x:Int)
@[simp] theorem tH (k:IntKind) (xs:List Nat):(ints k xs).length=xs.length:=by simp[ints]
variable {k:IntKind} {xs:List Nat} {j x:Nat}
theorem qW (h:xs[j]? =some x):(ints k xs)[j]? =some (.int k (x:Int)):=by simp[ints,h]
theorem oA (k:IntKind) (xs:List Nat) (m:Nat):(ints k xs).take m=ints k (xs.take m):=by simp[ints,List.map_take]
theorem Ia (k:IntKind) (xs:List Nat) (m:Nat):(ints k xs).drop m=ints k (xs.drop m):=by simp[ints,List.map_drop]
theorem fF (k:IntKind) (xs ys:List Nat):ints k (xs++ys)=ints k xs++ints k ys:=by simp[ints]
theorem ints_set (k:IntKind) (xs:List Nat) (j x:Nat):(ints k xs).set j (.int k (x:Int))=ints k (xs.set j x):=by simp[ints,List.map_set]
theorem lp (k:IntKind) (xs:List Nat):∀ u∈ints k xs,u.oneCell'=true:=by
 intro u hu;obtain⟨_,_,rfl⟩:=cU.1 hu;rfl
variable {a:Nat}
theorem Rd.lit1 {x:Int} (hx:x=(a:Int)):Rd (w.alloc (.cells #[.int k x] e)) 1 (.slice (some ⟨w.heap.size,0,none⟩) 1 1) 1 (ints k [a]):=by
 subst hx;exact Rd.lit aa ae
variable {b:Nat}
theorem Rd.lit2 {x y:Int} (hx:x=(a:Int)) (hy:y=(b:Int)):Rd (w.alloc (.cells #[.int k x,.int k y] e)) 1 (.slice (some ⟨w.heap.size,0,none⟩) 2 2) 2 (ints k [a,b]):=by
 subst hx;subst hy;exact Rd.lit aa ae
theorem Rd.cellAt {n:Nat} {k:Nat} {ki:IntKind} (h:Rd w 1 (.slice p n c) n (ints ki xs)) (hk:k<n):
  ∃ b off x,p=some ⟨b,off,none⟩/\b<w.heap.size/\xs[k]? =some x/\w.cell? ⟨b,off+k,none⟩=some (.int ki (x:Int)):=by
 obtain⟨p',c',hv,h1,h2,h3,h4⟩:=h;simp only[Value.slice.injEq,true_and] at hv;obtain⟨rfl,rfl⟩:=hv;obtain⟨b,off,hp,hc⟩:=h4 ae;rw[tH] at h3;have hx:=aZ (show k<xs.length by omega);have hcell:=hc k _ (qW hx);exact⟨b,off,_,hp,gV hcell,hx,hcell⟩
theorem Rd.form {sz n:Nat} (h:Rd w sz v n cs):∃ p c,v=.slice p n c/\n<=c/\c<=maxLen/\cs.length=n*sz:=by
 obtain⟨p,c,hv,h1,h2,h3,_⟩:=h;exact⟨p,c,hv,h1,h2,h3⟩
theorem Own.form {sz n:Nat} (h:w.ownsRow B e sz v n cs):∃ p c,v=.slice p n c/\n<=c/\c<=maxLen/\cs.length=n*sz:=(Rd.own h).form
variable {P:Program}
theorem kL (w:World) (base t ty e:Nat) (i:TypeInfo) (z:Value) (size bytes:Nat) (ht:P.underlying t=some (.slice e)) (hi:P.info? e=some i) (hz:i.zero=some z)
  (tI:i.size=size) (Ib:i.bytes=bytes) (Bq:z.cells.size=size) (hsz:0<size)
  (v:Value) (n:Nat) (xs:List Value) (ay:w.ownsRow base e size v n xs) (x:Value) (m:Nat) (news:List Value) (hx:Rd w size x m news) (h1:∀ u∈news,u.oneCell'=true)
  (h63:n+m<=maxLen) (fZ:(n+m)*bytes<=140737488355328) (mU:base<=w.heap.size):
  ∃ v' w',(Builtin.append_ #[t,t] ty #[v,x]).run P w=.ok v' w'/\w'.ownsRow base e size v' (n+m) (xs++news)/\w.grownBy w' v.ownBlock:=by
 obtain⟨p,c,rfl,hmc,fO,hl,hp⟩:=hx;by_cases hm:m=0
 ·subst hm;have hn:news=[]:=jQ (by simpa using hl);subst hn;refine⟨v,w,?_,by simpa using ay,⟨rfl,rfl,rfl,aM _,λ_ _ _=>rfl⟩⟩;subst tI;rcases ay.2 with ⟨rfl,rfl⟩|⟨g,cap,cur,rfl,_,hg,iD,hcm',hcs,Kr⟩
  ·cases p <;> simp[Builtin.append_,run_underlying ht,sizeOf,typeInfo,hi,Builtin.lenOf,Builtin.firstCells,loadCells,loadCellsFrom]
  ·cases p <;> simp[Builtin.append_,run_underlying ht,sizeOf,typeInfo,hi,Builtin.lenOf,Builtin.firstCells,loadCells,loadCellsFrom,iD,storeCells]
 ·obtain⟨b,off,rfl,hc⟩:=hp (Nat.mul_pos ae hsz)
  obtain⟨v',w',hr,h2,h3,_⟩:=run_append_own (P:=P) w base t ty e i z size bytes ht hi hz tI Ib Bq hsz v n xs ay ⟨b,off,none⟩ m c news hl
   (λj u hj=>by
    have:=hc j u hj
    rwa [show (⟨b,off,none⟩:Addr).add j=⟨b,off+j,none⟩ by unfold Addr.add;split <;> simp_all]) h1 h63 fZ mU
  exact⟨v',w',hr,h2,h3⟩
variable {ops:Array Oper} {Q:Exit->Act->World->Prop} {rest:List Oper}
theorem gM (w:World) {o:Oper} {a:Act} (hgd:o.guard=none) (s x:Operand) (t:TypeId)
  (ho:o.op=.call { callee:=.builtin .append,args:=#[s,x],argTypes:=#[t,t] })
  (base:Nat) (e:TypeId) (i:TypeInfo) (z:Value) (size bytes:Nat) (ht:P.underlying t=some (.slice e)) (hi:P.info? e=some i) (hz:i.zero=some z)
  (tI:i.size=size) (Ib:i.bytes=bytes) (Bq:z.cells.size=size) (hsz:0<size)
  (v:Value) (n:Nat) (xs:List Value) (hs:a.eval s=v) (ay:w.ownsRow base e size v n xs)
  (xv:Value) (m:Nat) (news:List Value) (hx:a.eval x=xv) (sq:Rd w size xv m news) (h1:∀ u∈news,u.oneCell'=true)
  (h63:n+m<=maxLen) (fZ:(n+m)*bytes<=140737488355328) (mU:base<=w.heap.size)
  (h:∀ v' w',w'.ownsRow base e size v' (n+m) (xs++news)->w.grownBy w' v.ownBlock->wpList P ops Q rest (a.put o.dst v') w'):wpList P ops Q (o::rest) a w:=by
 refine wpList_plain hgd λ_ hK=> ?_;obtain⟨v',w',hr,h2,h3⟩:=kL (P:=P) w base t o.type e i z size bytes ht hi hz tI Ib Bq hsz v n xs ay xv m news sq h1 h63 fZ mU;unfold Oper.wp execOp;simp only[ho,resolve,invoke,builtin,Sem.run_bind,Sem.run_pure,Result.andThen_ok,List.map_toArray,List.map_cons,List.map_nil,hs,hx,hr];exact hK _ _ (h v' w' h2 h3)
theorem nF {o:Oper} {a:Act} {K:Act->World->Prop} {E:Prop} (hgd:o.guard=none) (s x:Operand) (t:TypeId)
  (ho:o.op=.call { callee:=.builtin .append,args:=#[s,x],argTypes:=#[t,t] })
  (base:Nat) (e:TypeId) (i:TypeInfo) (z:Value) (size bytes:Nat) (ht:P.underlying t=some (.slice e)) (hi:P.info? e=some i) (hz:i.zero=some z)
  (tI:i.size=size) (Ib:i.bytes=bytes) (Bq:z.cells.size=size) (hsz:0<size)
  (v:Value) (n:Nat) (xs:List Value) (hs:a.eval s=v) (ay:w.ownsRow base e size v n xs)
  (xv:Value) (m:Nat) (news:List Value) (hx:a.eval x=xv) (sq:Rd w size xv m news) (h1:∀ u∈news,u.oneCell'=true)
  (h63:n+m<=maxLen) (fZ:(n+m)*bytes<=140737488355328) (mU:base<=w.heap.size)
  (h:∀ v' w',w'.ownsRow base e size v' (n+m) (xs++news)->w.grownBy w' v.ownBlock->K (a.put o.dst v') w'):
  if Region.wanted o (yielded ops a.tmps)=true then Oper.wp P o a w K Q else E:=by
 have hw:Region.wanted o (yielded ops a.tmps)=true:=by simp[Region.wanted,hgd]
 rw[if_pos hw];obtain⟨v',w',hr,h2,h3⟩:=kL (P:=P) w base t o.type e i z size bytes ht hi hz tI Ib Bq hsz v n xs ay xv m news sq h1 h63 fZ mU;unfold Oper.wp execOp;simp only[ho,resolve,invoke,builtin,Sem.run_bind,Sem.run_pure,Result.andThen_ok,List.map_toArray,List.map_cons,List.map_nil,hs,hx,hr];exact h v' w' h2 h3
variable {o:Obj} {w1:World}
theorem yt {a:Addr} {row:Option Nat} (hg:(w.alloc o).drew.grownBy w1 row) (hc:w.cell? a=some v) (hne:some a.block≠row):w1.cell? a=some v:=
 hg.cell ((World.cell?_alloc_lt w o a (gV hc)).trans hc) hne
theorem Ks {sz n:Nat} (h:w.ownsRow B e sz v n cs) (hb:b<B):some b≠v.ownBlock:=by
 intro he;have:=(h.lt b he.symm).1;omega
variable {w0:World}
theorem Below.behind {sz n:Nat} (h:Below B w0 w) (hB:B<=w.heap.size) (hg:(w.alloc o).drew.grownBy w1 v.ownBlock) (ho:w.ownsRow B' e sz v n cs) (hBB:B<=B'):Below B w0 w1:=
 ((h.alloc hB o).drew).grown hg (by simp;omega) λk hk=>by have:=(ho.lt k hk).1;omega
theorem Below.aB {a b c:World} (h:Below a.heap.size a b) (k:Below b.heap.size b c):Below a.heap.size a c:=h.trans (k.mono h.size)
theorem wpList_append_run {o:Oper} {a:Act} (hgd:o.guard=none) (s x:Operand) (t t':TypeId)
  (ho:o.op=.call { callee:=.builtin .append,args:=#[s,x],argTypes:=#[t,t'] }) (v xv:Value) (hs:a.eval s=v) (hx:a.eval x=xv) (v':Value) (w':World)
  (hr:(Builtin.append_ #[t,t'] o.type #[v,xv]).run P w=.ok v' w') (h:wpList P ops Q rest (a.put o.dst v') w'):wpList P ops Q (o::rest) a w:=by
 refine wpList_plain hgd λ_ hK=> ?_;unfold Oper.wp execOp;simp only[ho,resolve,invoke,builtin,Sem.run_bind,Sem.run_pure,Result.andThen_ok,List.map_toArray,List.map_cons,List.map_nil,hs,hx,hr];exact hK _ _ h
theorem Below.Kt {sz n:Nat} (h:Below B w0 w) (hg:w.grownBy w' v.ownBlock) (ho:w.ownsRow B' e sz v n cs) (hB:B<=w.heap.size) (hBB:B<=B'):Below B w0 w':=
 h.grown hg hB λk hk=>by have:=(ho.lt k hk).1;omega
variable {f:FuncId}
theorem aE {args:Array Value} {R:Ending->World->Prop} (h:∀ R':Ending->World->Prop,Hid (∀ e w',R e w'->R' e w')->Calls P f args w R'):Calls P f args w R:=h R λ_ _ h=>h
variable {a':Int}
theorem lx {a:Int} (h:a=a'):Ending.returned (.int k a)=.returned (.int k a'):=by rw[h]
theorem ret2 {l:IntKind} {a b b':Int} (h:a=a') (h':b=b'):Ending.returned (.tuple #[.int k a,.int l b])=.returned (.tuple #[.int k a',.int l b']):=by rw[h,h']
theorem Own.made {n:Nat} (h:w.ownsRow B e 1 v n (madeCells (Value.int k 0).cells (n*1)).toList):w.ownsRow B e 1 v n (ints k ([]++List.replicate n 0)):=by
 have:(madeCells (Value.int k 0).cells (n*1)).toList=ints k ([]++List.replicate n 0):=by
  rw[show (Value.int k 0).cells=#[Value.int k 0] from aa,toList_madeCells_one];simp[ints]
 rwa [this] at h
variable {ds:List Nat} {g cap r:Nat}
theorem Own.uK {n:Nat} (h:w.ownsRow B e 1 (.slice (some ⟨g,0,none⟩) n cap) n (ints k (ds++List.replicate (r+1) 0))):
  w.cell? ⟨g,ds.length,none⟩=some (.int k 0)/\w.frozen? ⟨g,ds.length,none⟩=false:=by
 have hl:=h.1;simp at hl;refine⟨?_,h.frozenAt _⟩;rw[h.cellAt _ ae];have:=qW (k:=k) (xs:=ds++List.replicate (r+1) 0) (j:=ds.length) (x:=0) (by simp[List.replicate_succ]);simpa using this
theorem Own.qX {n:Nat} (h:w.ownsRow B e 1 (.slice (some ⟨g,0,none⟩) n cap) n (ints k (ds++List.replicate (r+1) 0))):
  (w.setCell ⟨g,ds.length,none⟩ (.int k (x:Int))).ownsRow B e 1 (.slice (some ⟨g,0,none⟩) n cap) n (ints k ((ds++[x])++List.replicate r 0)):=by
 have h1:=(h.stored ds.length (.int k (x:Int))).1;rw[ints_set] at h1
 have:(ds++List.replicate (r+1) 0).set ds.length x=(ds++[x])++List.replicate r 0:=by
  rw[qJ _ _ (aM _),iP,pb,Bd,nx];rfl
 rwa [this] at h1
theorem Own.fu {n:Nat} (h:w.ownsRow B e 1 (.slice (some ⟨g,0,none⟩) n cap) n (ints k xs)) (hj:j<n):
  ∃ x,xs[j]? =some x/\w.cell? ⟨g,j,none⟩=some (.int k (x:Int))/\w.frozen? ⟨g,j,none⟩=false:=by
 have hl:=h.1;simp at hl;have hx:=aZ (show j<xs.length by omega);refine⟨_,hx,?_,h.frozenAt _⟩;rw[h.cellAt _ ae,qW hx]
theorem Own.fc {n:Nat} (h:w.ownsRow B e 1 (.slice (some ⟨g,0,none⟩) n cap) n (ints k xs)):
  (w.setCell ⟨g,j,none⟩ (.int k (x:Int))).ownsRow B e 1 (.slice (some ⟨g,0,none⟩) n cap) n (ints k (xs.set j x)):=by
 have h1:=(h.stored j (.int k (x:Int))).1
 rwa [ints_set] at h1
theorem Own.lt {sz n:Nat} {p:Nat} (h:w.ownsRow B e sz (.slice (some ⟨g,p,none⟩) n cap) n cs):B<=g/\g<w.heap.size:=World.ownsRow.lt h g rfl
theorem vH {args:Array Value} {W:World} {X:Nat->World} (h:Calls P f args W λe w'=>e=.returned v/\W=w') (hW:∃ n,W=X n):
  Calls P f args W λe w''=>e=.returned v/\∃ m,w''=X m:=
 h.mono λ_ _ ⟨he,hm⟩=>⟨he,hW.imp λ_ hn=>hm▸hn⟩
variable {d:Nat}
theorem cN {o:Oper} {a:Act} (hgd:o.guard=none) (s x:Operand) (t:TypeId)
  (ho:o.op=.call { callee:=.builtin .append,args:=#[s,x],argTypes:=#[t,t] })
  (base:Nat) (e:TypeId) (i:TypeInfo) (z:Value) (bytes:Nat) (ht:P.underlying t=some (.slice e)) (hi:P.info? e=some i) (hz:i.zero=some z)
  (tI:i.size=1) (Ib:i.bytes=bytes) (Bq:z.cells.size=1)
  {n:Nat} {y:Int} {e':TypeId} (ay:w.ownsRow base e 1 v n (ints k ds)) (hs:a.eval s=v) (hx:a.eval x=.slice (some ⟨w.heap.size,0,none⟩) 1 1) (hy:y=(d:Int))
  (h63:n+1<=9223372036854775807) (fZ:(n+1)*bytes<=140737488355328) (mU:base<=w.heap.size)
  (h:∀ v' w',w'.ownsRow base e 1 v' (n+1) (ints k (ds++[d]))->(∀ w0,Below base w0 w->Below base w0 w')->wpList P ops Q rest (a.put o.dst v') w'):wpList P ops Q (o::rest) a (w.alloc (.cells #[.int k y] e')):=by
 refine gM _ hgd s x t ho base e i z 1 bytes ht hi hz tI Ib Bq ae v n _ hs (ay.alloc _) _ 1 (ints k [d]) hx (Rd.lit1 hy) (lp k [d]) (by unfold maxLen;omega) fZ (by simp;omega) ?_;intro v' w' h1 h2;refine h v' w' (by rw[fF];exact h1) λw0 hb=> ?_;exact (hb.alloc mU _).grown h2 (by simp;omega) λj hj=>(ay.lt j hj).1
theorem Ku (a b:Nat) (ha:a<4294967296) (hb:b<4294967296):a*b<18446744065119617026:=by
 have h1:a*b<=4294967295*4294967295:=qP ae ae;omega
set_option maxRecDepth 100000 in
theorem Ic (a b:Nat) (w:World) (ha:a<4294967296) (hb:b<4294967296):
  Calls Tryz.prog 136 #[.int .u32 (a:Int),.int .u32 (b:Int)] w λe w'=>e=.returned (.tuple #[.int .u32 ((a*b/4294967296:Nat):Int),.int .u32 ((a*b%4294967296:Nat):Int)])/\w=w':=by
 have h:=Ku a b ha hb;have h2:(a:Int)*(b:Int)<18446744065119617026:=by rw[<-pe];omega
 have h3:0<=(a:Int)*(b:Int):=by rw[<-pe];omega
 refine aE λR' bh=> ?_;go_enter Tryz.func136,Tryz.ntmps136
 go_wp2
 refine bh.out _ _ ⟨ret2 ?_ ?_,aa⟩ <;> simp
set_option maxRecDepth 100000 in
theorem ly (a b c:Nat) (w:World) (ha:a<4294967296) (hb:b<4294967296) (hc:c<4294967296):
  Calls Tryz.prog 123 #[.int .u32 (a:Int),.int .u32 (b:Int),.int .u32 (c:Int)] w λe w'=>e=.returned (.tuple #[.int .u32 (((a+b+c)%4294967296:Nat):Int),.int .u32 (((a+b+c)/4294967296:Nat):Int)])/\w=w':=by
 refine aE λR' bh=> ?_;go_enter Tryz.func123,Tryz.ntmps123
 go_wp2
 refine bh.out _ _ ⟨ret2 ?_ ?_,aa⟩ <;> simp
set_option maxRecDepth 100000 in
theorem Ie (a b d:Nat) (w:World) (ha:a<d) (hb:b<4294967296) (hd:d<4294967296):
  Calls Tryz.prog 127 #[.int .u32 (a:Int),.int .u32 (b:Int),.int .u32 (d:Int)] w λe w'=>
   e=.returned (.tuple #[.int .u32 (((a*4294967296+b)/d:Nat):Int),.int .u32 (((a*4294967296+b)%d:Nat):Int)])/\∃ k,w'=w.drewN k:=by
 have hd0:((d:Int) != 0)=true:=by rw[bne_iff_ne];omega
 have hd1:1<=(d:Int):=ae;have hle:¬ ((d:Int)<=(a:Int)):=ae
 have vI:bits BinOp.or IntKind.u64 ((a:Int)*4294967296) (b:Int)=((a*4294967296+b:Nat):Int):=by
  have e1:((a:Int)*4294967296)=((a*4294967296:Nat):Int):=bc;rw[e1,u64_or_nat _ _ ae ae,nat_join 32 _ _ ae ae]
 have hq:(a*4294967296+b)/d<4294967296:=by
  rw[AZ ae];have:(a+1)*4294967296<=d*4294967296:=jR _ ha;rw[eh 4294967296 d];omega
 have hq1:((a:Int)*4294967296+(b:Int))/(d:Int)<4294967296:=by
  have:(((a*4294967296+b)/d:Nat):Int)<4294967296:=ae;simpa using this
 have hr:(a*4294967296+b)%d<d:=cM _ ae
 have sx:((a:Int)*4294967296+(b:Int))%(d:Int)<4294967296:=by
  have:(((a*4294967296+b)%d:Nat):Int)<4294967296:=ae;simpa using this
 have hq0:0<=((a:Int)*4294967296+(b:Int))/(d:Int):=by
  exact Int.ediv_nonneg ae ae
 have xE:0<=((a:Int)*4294967296+(b:Int))%(d:Int):=by
  exact Int.emod_nonneg _ ae
 rw[show ((a*4294967296+b:Nat):Int)=(a:Int)*4294967296+(b:Int) by simp] at vI;clear hq hr;refine aE λR' bh=> ?_;go_enter Tryz.func127,Tryz.ntmps127
 go_wp2_with fail
 go_quiet (fail)
 go_wp2
 refine bh.out _ _ ⟨ret2 ?_ ?_,_,aa⟩ <;> simp
theorem qY (n:Nat) (h:n<4294967296):n.testBit 31=decide (2147483648<=n):=by
 rw[Nat.testBit_eq_decide_div_mod_eq];by_cases h':2147483648<=n
 ·have:n/2^31=1:=by omega
  simp[this,h']
 ·have:n/2^31=0:=by omega
  simp[this];omega
theorem by_top (n:Nat) (h:n<4294967296):n/2147483648=(n.testBit 31).toNat:=by
 rw[qY n h];by_cases h':2147483648<=n <;> simp[h'] <;> omega
theorem DX (x y c d:Nat) (hx:x<4294967296) (hy:y<4294967296) (hc:c<2) (hd:d=(x+8589934592-y-c)%4294967296):
  ((4294967295 ^^^x) &&& y |||(4294967295 ^^^(x ^^^y)) &&& d)/2147483648=if x<y+c then 1 else 0:=by
 have pT:d<4294967296:=ae;have h1:4294967295 ^^^x<2^32:=yd ae ae;have h2:x ^^^y<2^32:=yd ae ae;have h3:4294967295 ^^^(x ^^^y)<2^32:=yd ae h2;have h4:(4294967295 ^^^x) &&& y |||(4294967295 ^^^(x ^^^y)) &&& d<2^32:=Nat.or_lt_two_pow (Gh _ ae) (Gh _ ae)
 rw[by_top _ ae];simp only[Nat.testBit_or,Nat.testBit_and,Nat.testBit_xor,qY _ hx,qY _ hy,qY _ pT,qY 4294967295 ae];by_cases a1:2147483648<=x <;> by_cases a2:2147483648<=y <;> by_cases a3:2147483648<=d <;> simp[a1,a2,a3] <;> omega
set_option maxRecDepth 100000 in
theorem yu (a b c:Nat) (w:World) (ha:a<4294967296) (hb:b<4294967296) (hc:c<2):
  Calls Tryz.prog 126 #[.int .u32 (a:Int),.int .u32 (b:Int),.int .u32 (c:Int)] w λe w'=>
   (∃ d r:Nat,e=.returned (.tuple #[.int .u32 (d:Int),.int .u32 (r:Int)])/\d<4294967296/\r<=1/\a+4294967296*r=d+b+c)/\w=w':=by
 obtain⟨d,hd⟩:∃ d,d=(a+8589934592-b-c)%4294967296:=⟨_,aa⟩;have pT:d<4294967296:=ae;have zF:=DX a b c d ha hb hc hd;have hdi:((a:Int)-(b:Int)-(c:Int))%4294967296=(d:Int):=ae;have hm:IntKind.u32.max=((4294967295:Nat):Int):=aa;have h1:4294967295 ^^^a<4294967296:=yd (n:=32) ae ae;have h2:a ^^^b<4294967296:=yd (n:=32) ae ae;have h3:4294967295 ^^^(a ^^^b)<4294967296:=yd (n:=32) ae ae;have h4:(4294967295 ^^^a) &&& b<4294967296:=Gh (n:=32) _ ae;have h5:(4294967295 ^^^(a ^^^b)) &&& d<4294967296:=Gh (n:=32) _ ae
 have H:Hid (bits BinOp.or IntKind.u32 (bits BinOp.and IntKind.u32 (bits BinOp.xor IntKind.u32 IntKind.u32.max (a:Int)) (b:Int))
   (bits BinOp.and IntKind.u32 (bits BinOp.xor IntKind.u32 IntKind.u32.max (bits BinOp.xor IntKind.u32 (a:Int) (b:Int))) (((a:Int)-(b:Int)-(c:Int))%4294967296))/2147483648=((if a<b+c then 1 else 0:Nat):Int)):=by
  show _=_;rw[hdi,hm,u32_xor_nat _ _ ae ha,u32_and_nat _ _ h1 hb,u32_xor_nat _ _ ha hb,u32_xor_nat _ _ ae h2,u32_and_nat _ _ h3 pT,u32_or_nat _ _ h4 h5,<-zF];simp
 have HD:Hid (((a:Int)-(b:Int)-(c:Int))%4294967296=((a+8589934592-b-c)%4294967296:Nat)):=by show _=_;rw[hdi,hd]
 clear hd hdi zF hm h1 h2 h3 h4 h5 pT;refine aE λR' bh=> ?_;go_enter Tryz.func126,Tryz.ntmps126
 go_wp2
 all_goals exact bh.out _ _ ⟨⟨(a+8589934592-b-c)%4294967296,if a<b+c then 1 else 0,ret2 HD.out H.out,cM _ ae,by split <;> omega,by split <;> omega⟩,aa⟩
set_option maxRecDepth 100000 in
theorem cE (p:Option Addr) (n c:Nat) (xs:List Nat) (w:World) (hr:Rd w 1 (.slice p n c) n (ints .u32 xs)) (hl:bR xs):
  Calls Tryz.prog 111 #[.slice p n c] w λe w'=>(∃ m,m<=n/\e=.returned (.slice p m c)/\limbs (ag xs)=xs.take m)/\w=w':=by
 have iD:n<=c/\c<=9223372036854775807/\xs.length=n:=by
  obtain⟨p',c',hv,h1,h2,h3⟩:=hr.form;simp only[Value.slice.injEq,true_and] at hv;obtain⟨rfl,rfl⟩:=hv;unfold maxLen at h2;simp at h3;exact⟨h1,ae,h3⟩
 obtain⟨iD,fO,dv⟩:=iD;have HX:Hid (xs.length=n):=dv;clear dv;refine aE λR' bh=> ?_;go_enter Tryz.func111,Tryz.ntmps111
 go_wp2
 go_loop [0] (λv=>∃ m,m<=n/\v=.slice p m c/\ag (xs.take m)=ag xs) (λv=>match v with | .slice _ m _=>m|_=>0)
 case atStart=>exact⟨n,aM _,aa,by rw[du (dI HX.out)]⟩
 case round=>
  obtain⟨m,hm,rfl,hv⟩:=hrel;have HV:Hid (ag (xs.take m)=ag xs):=hv;clear hv;by_cases h0:m=0
  ·subst h0;go_wp2
   exact bh.out _ _ ⟨⟨0,cD _,aa,iY ae hl (cD _) HV.out (.inl aa)⟩,aa⟩
  ·obtain⟨b,off,x,rfl,hb,hx,hc⟩:=hr.cellAt (k:=m-1) ae;have Kv:Hid (xs[m-1]? =some x):=hx;clear hx;have h0':0<m:=ae;obtain⟨j,rfl⟩:∃ j,m=j+1:=⟨m-1,ae⟩;rw[Gi] at hc;by_cases mR:x=0
   ·subst mR;go_wp2
    go_round
    case rel=>exact⟨j,ae,aa,(jW Kv.out).symm.trans HV.out⟩
    case measure=>simp
   ·have hx0':((x:Int) == 0)=false:=by rw[iJ];omega
    go_wp2
    exact bh.out _ _ ⟨⟨j+1,hm,aa,iY ae hl (by rw[HX.out];exact hm) HV.out (.inr ⟨x,Kv.out,mR⟩)⟩,aa⟩
theorem gW:(Tryz.prog.info? 122).map (λi=>(i.zero,i.size,i.bytes))=some (some (.int .u32 0),1,4):=by kernel_rfl
theorem dh {P:Prop} (h:P:=by decide):P:=h
set_option maxRecDepth 100000 in
theorem iZ (v:Value) (n:Nat) (xs:List Nat) (w:World) (hr:Rd w 1 v n (ints .u32 xs)) (hn:n<=1073741824):
  Calls Tryz.prog 110 #[v] w λe w'=>∃ v',e=.returned v'/\w'.ownsRow w.heap.size 122 1 v' n (ints .u32 xs)/\Below w.heap.size w w':=by
 obtain⟨p,c,rfl,iD,fO,hl⟩:=hr.form;have Hr:=ab hr;have jr:∀ w':World,(binOp .eql 31 (.slice p n c) (.slice none 0 0)).run Tryz.prog w'=.ok (.bool p.isNone) w':=λw'=>Lib.run_eql_slice_nil w' 31 122 p n c 0 0 jg;obtain⟨i0,hi,jN,kM,mZ⟩:=info_parts gW;have HL:=ab hl;clear hl hr;unfold maxLen at fO;cases p with
 | none=>
   refine aE λR' bh=> ?_;go_enter Tryz.func110,Tryz.ntmps110
   go_wp2
   refine bh.out _ _ ⟨_,aa,?_,dJ _ _⟩;obtain⟨p,c',hv,_,_,h3,h4⟩:=Hr.out;simp only[Value.slice.injEq,true_and] at hv;obtain⟨rfl,rfl⟩:=hv
   have h0:n=0:=by
    rcases lg n with h|h
    ·exact h
    ·obtain⟨b,off,hp,_⟩:=h4 ae;cases hp
   subst h0;have hx:ints .u32 xs=[]:=jQ (by simpa using h3);rw[hx];exact jh _ _ _ _
 | some ad=>
   refine aE λR' bh=> ?_;go_enter Tryz.func110,Tryz.ntmps110
   go_wp2_with (at_builtin;refine gM _ aa _ _ 31 aa w.heap.size 122 i0 (.int .u32 0) 1 4 jg hi jN kM mZ aa dh _ 0 [] aa (World.ownsRow_made w #[] 0 (aM _) (by simp[maxLen]) aa) _ n _ aa (Hr.out.alloc _) (lp _ _) (by unfold maxLen;omega) ae bc ?_;intro v' w1 ay Ig)
   simp only[Nat.zero_add,List.nil_append] at ay;refine bh.out _ _ ⟨_,aa,ay,((dJ _ _).alloc (aM _) _).grown Ig bc λk hk=>by injection (show some w.heap.size=some k from hk) with hk;omega⟩
theorem Rd.u32 {n:Nat} (h:Rd w 1 v n (ints .u32 xs)):∃ p c,v=.slice p n c/\n<=c/\c<=9223372036854775807/\xs.length=n:=by
 obtain⟨p,c,hv,h1,h2,h3⟩:=h.form;unfold maxLen at h2;exact⟨p,c,hv,h1,ae,by simpa using h3⟩
theorem Rd.limbs {n:Nat} (h:Rd w 1 (.slice p n c) n (ints .u32 xs)) (hm:m<=n) (hl:limbs (ag xs)=xs.take m):
  Rd w 1 (.slice p m c) m (ints .u32 (limbs (ag xs))):=by
 have:=h.take hm
 rwa [eM,oA,<-hl] at this
theorem Own.limbs {n:Nat} (h:w.ownsRow B e 1 (.slice p n c) n (ints .u32 xs)) (hm:m<=n) (hl:limbs (ag xs)=xs.take m):
  w.ownsRow B e 1 (.slice p m c) m (ints .u32 (limbs (ag xs))):=by
 have:=Own.take h hm
 rwa [eM,oA,<-hl] at this
set_option maxRecDepth 100000 in
theorem ig (v:Value) (n:Nat) (xs:List Nat) (w:World) (hr:Rd w 1 v n (ints .u32 xs)) (hl:bR xs) (hn:n<=1073741824):
  Calls Tryz.prog 101 #[v] w λe w'=>∃ v',e=.returned v'/\w'.ownsRow w.heap.size 122 1 v' (limbs (ag xs)).length (ints .u32 (limbs (ag xs)))/\Below w.heap.size w w':=by
 obtain⟨p,c,rfl,iD,fO,dv⟩:=hr.u32;have Hr:=ab hr;have HL:=ab hl;have HX:=ab dv;clear dv hl hr;refine aE λR' bh=> ?_;go_enter Tryz.func101,Tryz.ntmps101
 go_wp2_with fail
 refine (cE p n c xs _ Hr.out HL.out).mono ?_;rintro e w1 ⟨⟨m,hm,rfl,uL⟩,rfl⟩;have HM:=ab uL;clear uL
 have nc:Hid (m=(limbs (ag xs)).length):=by
  show _=_;rw[HM.out,aR,HX.out];omega
 go_wp2_with fail
 refine (iZ _ m (limbs (ag xs)) _ (Hr.out.limbs hm HM.out) ae).mono ?_;rintro e w1 ⟨v',rfl,ay,hb⟩;go_wp2
 refine bh.out _ _ ⟨_,aa,?_,hb⟩;rw[<-nc.out];exact ay
set_option maxRecDepth 100000 in
theorem vJ (a b:Nat) (w:World):
  Calls Tryz.prog 124 #[.int .i64 (a:Int),.int .i64 (b:Int)] w λe w'=>e=.returned (.int .i64 (fb a b))/\w=w':=by
 rcases yf a b with h|rfl|h
 ·have e1:=ab (jX h);refine aE λR' bh=> ?_;go_enter Tryz.func124,Tryz.ntmps124
  go_wp2
  exact bh.out _ _ ⟨lx e1.out.symm,aa⟩
 ·have e1:=ab (qU a);refine aE λR' bh=> ?_;go_enter Tryz.func124,Tryz.ntmps124
  go_wp2
  exact bh.out _ _ ⟨lx e1.out.symm,aa⟩
 ·have e1:=ab (jY h);refine aE λR' bh=> ?_;go_enter Tryz.func124,Tryz.ntmps124
  go_wp2
  exact bh.out _ _ ⟨lx e1.out.symm,aa⟩
set_option maxRecDepth 100000 in
theorem vK (a b:Nat) (w:World):
  Calls Tryz.prog 125 #[.int .u32 (a:Int),.int .u32 (b:Int)] w λe w'=>e=.returned (.int .i64 (fb a b))/\w=w':=by
 rcases yf a b with h|rfl|h
 ·have e1:=ab (jX h);refine aE λR' bh=> ?_;go_enter Tryz.func125,Tryz.ntmps125
  go_wp2
  exact bh.out _ _ ⟨lx e1.out.symm,aa⟩
 ·have e1:=ab (qU a);refine aE λR' bh=> ?_;go_enter Tryz.func125,Tryz.ntmps125
  go_wp2
  exact bh.out _ _ ⟨lx e1.out.symm,aa⟩
 ·have e1:=ab (jY h);refine aE λR' bh=> ?_;go_enter Tryz.func125,Tryz.ntmps125
  go_wp2
  exact bh.out _ _ ⟨lx e1.out.symm,aa⟩
theorem pE (h:(limbs a).length<(limbs b).length):a<b:=by
 rcases mP a b with h' |h'
 ·exact h'
 ·have:=bX h';omega
theorem Kw (h:(limbs a).length≠(limbs b).length):fb (limbs a).length (limbs b).length=fb a b:=by
 rcases mP (limbs a).length (limbs b).length with h' |h'
 ·rw[jX h',jX (pE h')]
 ·have h'':(limbs b).length<(limbs a).length:=by omega
  rw[jY h'',jY (pE h'')]
variable {y:Nat}
theorem DY {k:Nat} (hx:(limbs a)[k]? =some x) (hy:(limbs b)[k]? =some y) (hne:x≠y) (hd:(limbs a).drop (k+1)=(limbs b).drop (k+1)):fb x y=fb a b:=by
 rcases mP x y with h|h
 ·have:=jq (B:=4294967296) (ak a) hx hy h hd;rw[show val 4294967296 (limbs a)=a from ah a,show val 4294967296 (limbs b)=b from ah b] at this;rw[jX h,jX this]
 ·have h':y<x:=by omega
  have:=jq (B:=4294967296) (ak b) hy hx h' hd.symm;rw[show val 4294967296 (limbs a)=a from ah a,show val 4294967296 (limbs b)=b from ah b] at this;rw[jY h',jY this]
theorem Ih {α:Type} {xs ys:List α} {k:Nat} {x:α} (hx:xs[k]? =some x) (hy:ys[k]? =some x) (h:xs.drop (k+1)=ys.drop (k+1)):xs.drop k=ys.drop k:=by
 have h1:xs.drop k=x::xs.drop (k+1):=by
  obtain⟨hl,e⟩:=bx.1 hx;rw[mK hl,e]
 have h2:ys.drop k=x::ys.drop (k+1):=by
  obtain⟨hl,e⟩:=bx.1 hy;rw[mK hl,e]
 rw[h1,h2,h]
set_option maxRecDepth 100000 in
theorem zG (va vb:Value) (n m:Nat) (xs ys:List Nat) (w:World) (hr:Rd w 1 va n (ints .u32 xs)) (hs:Rd w 1 vb m (ints .u32 ys)) (hx:bR xs) (hy:bR ys):
  Calls Tryz.prog 116 #[va,vb] w λe w'=>e=.returned (.int .i64 (fb (ag xs) (ag ys)))/\∃ k,w'=w.drewN k:=by
 obtain⟨p,c,rfl,iD,fO,dv⟩:=hr.u32;obtain⟨q,d,rfl,JX,DJ,ij⟩:=hs.u32;obtain⟨a,ha⟩:∃ a,a=ag xs:=⟨_,aa⟩;obtain⟨b,hb⟩:∃ b,b=ag ys:=⟨_,aa⟩;have Hr:=ab hr;have Hs:=ab hs;have HL:=ab hx;have HM:=ab hy;have HX:=ab dv;have HY:=ab ij;rw[<-ha,<-hb];have HA:=ab ha;have HB:=ab hb;clear dv ij hx hy hr hs ha hb;refine aE λR' bh=> ?_;go_enter Tryz.func116,Tryz.ntmps116
 go_wp2_with fail
 refine (cE p n c xs _ Hr.out HL.out).mono ?_;rintro e w1 ⟨⟨n',hn',rfl,Ky⟩,rfl⟩;have HLN:=ab Ky;clear Ky;go_wp2_with fail
 refine (cE q m d ys _ Hs.out HM.out).mono ?_;rintro e w1 ⟨⟨m',Gp,rfl,uL⟩,rfl⟩;have Kz:=ab uL;clear uL;have HN:Hid ((limbs a).length=n'):=by show _=_;rw[HA.out,HLN.out,aR,HX.out];omega
 have HMM:Hid ((limbs b).length=m'):=by show _=_;rw[HB.out,Kz.out,aR,HY.out];omega
 have hra:=Hr.out.limbs hn' HLN.out;have Ii:=Hs.out.limbs Gp Kz.out;rw[<-HA.out] at hra;rw[<-HB.out] at Ii;have Hra:=ab hra;have Hrb:=ab Ii;clear hra Ii;by_cases hne:n'=m'
 ·subst hne;go_wp2_with fail
  go_loopw [5] (λiv wr=>∃ k dn:Nat,k<=n'/\iv=.int .i64 ((k:Int)-1)/\(limbs a).drop k=(limbs b).drop k/\wr=w.drewN dn) (λiv _=>(intOf iv+1).toNat)
  case atStart=>exact⟨n',0,aM _,aa,by rw[mL (dI HN.out),mL (dI HMM.out)],rfl⟩
  case round=>
   obtain⟨k,dn,hk,rfl,hd,rfl⟩:=hrel;have HD:=ab hd;clear hd;by_cases h0:k=0
   ·subst h0;go_wp2
    exact bh.out _ _ ⟨lx (by rw[HI (show limbs a=limbs b by simpa using HD.out),qU]),_,aa⟩
   ·obtain⟨j,rfl⟩:∃ j,k=j+1:=⟨k-1,ae⟩;obtain⟨g1,o1,x,rfl,hg1,hx,pU⟩:=Hra.out.cellAt (k:=j) ae;obtain⟨g2,o2,y,rfl,hg2,hy,DZ⟩:=Hrb.out.cellAt (k:=j) ae;have HXX:=ab hx;have HYY:=ab hy;have hjj:((j+1:Nat):Int)-1=(j:Int):=ae;clear hx hy h0 hg1 hg2;rw[hjj];clear hjj;by_cases Gq:x=y
    ·subst Gq;have ng:((x:Int) != (x:Int))=false:=bc;go_wp2_with fail
     go_quiet (fail)
     go_wp2
     go_roundw
     case rel=>exact⟨j,_,ae,aa,Ih HXX.out HYY.out HD.out,aa⟩
     case measure=>simp[intOf]
    ·have ng:((x:Int) != (y:Int))=true:=by rw[bne_iff_ne];omega
     go_wp2_with fail
     go_quiet (fail)
     go_wp2_with fail
     go_quiet ((go_at_call 125;exact vH (vK x y _) ⟨_,aa⟩))
     go_wp2
     exact bh.out _ _ ⟨lx (DY HXX.out HYY.out Gq HD.out),_,by rw[World.drewN_drewN,World.drewN_drewN]⟩
 ·have hne':((n':Int) != (m':Int))=true:=by rw[bne_iff_ne];omega
  go_wp2_with fail
  refine (vJ n' m' _).mono ?_;rintro e w1 ⟨rfl,rfl⟩;go_wp2
  exact bh.out _ _ ⟨lx (by rw[<-HN.out,<-HMM.out];exact Kw (by rw[HN.out,HMM.out];exact hne)),0,aa⟩
def vL (w:World) (B g N:Nat) (xs ys:List Nat) (cv iv:Value) (wr:World):Prop:=
 ∃ (k carry:Nat) (ds:List Nat),k<=N/\ds.length=k/\iv=.int .i64 (k:Int)/\cv=.int .u32 (carry:Int)/\carry<=1/\bR ds/\
   ag ds+4294967296^k*carry=ag (xs.take k)+ag (ys.take k)/\
   wr.ownsRow B 122 1 (.slice (some ⟨g,0,none⟩) (N+1) (N+1)) (N+1) (ints .u32 (ds++List.replicate (N+1-k) 0))/\Below B w wr
variable {ys:List Nat} {N carry:Nat} {wr:World}
theorem vL.step {k:Nat} (hk:k<N) (pF:ds.length=k) (hc:carry<=1) (hl:bR ds)
  (hv:ag ds+4294967296^k*carry=ag (xs.take k)+ag (ys.take k)) (ay:wr.ownsRow B 122 1 (.slice (some ⟨g,0,none⟩) (N+1) (N+1)) (N+1) (ints .u32 (ds++List.replicate (N+1-k) 0)))
  (hb:Below B w wr) (hx:xs.getD k 0=x) (hy:ys.getD k 0=y) (ja:x<4294967296) (yv:y<4294967296):
  vL w B g N xs ys (.int .u32 (((x+y+carry)/4294967296:Nat):Int)) (.int .i64 ((k:Int)+1)) (wr.setCell ⟨g,k,none⟩ (.int .u32 (((x+y+carry)%4294967296:Nat):Int))):=by
 subst pF;have e:N+1-ds.length=(N-ds.length)+1:=ae;rw[e] at ay;have h1:=Own.qX (x:=(x+y+carry)%4294967296) ay;refine⟨ds.length+1,(x+y+carry)/4294967296,ds++[(x+y+carry)%4294967296],ae,bc,aa,aa,?_,?_,?_,?_,?_⟩
 ·omega
 ·exact hl.append (bR.cons (cM _ ae) bR.nil)
 ·rw[df,aO,aO,hx,hy,dT];exact Bl _ _ x y carry _ _ _ hv aa
 ·rw[show N+1-(ds.length+1)=N-ds.length by omega];exact h1
 ·exact hb.setCell (Own.lt ay).1 _
set_option maxRecDepth 100000 in
theorem Gs (p q:Option Addr) (n c m d:Nat) (xs ys:List Nat) (w:World) (hr:Rd w 1 (.slice p n c) n (ints .u32 xs)) (hs:Rd w 1 (.slice q m d) m (ints .u32 ys)) (hx:bR xs) (hy:bR ys)
  (hn:n<=1073741824) (hmn:m<=n) (args:Array Value) (hargs:args=#[.slice p n c,.slice q m d]\/m<n/\args=#[.slice q m d,.slice p n c]):
  Calls Tryz.prog 115 args w λe w'=>∃ v',e=.returned v'/\w'.ownsRow w.heap.size 122 1 v' (limbs (ag xs+ag ys)).length (ints .u32 (limbs (ag xs+ag ys)))/\Below w.heap.size w w':=by
 obtain⟨p',c',hv,iD,fO,dv⟩:=hr.u32;simp only[Value.slice.injEq,true_and] at hv;obtain⟨rfl,rfl⟩:=hv;obtain⟨q',d',hv,JX,DJ,ij⟩:=hs.u32;simp only[Value.slice.injEq,true_and] at hv;obtain⟨rfl,rfl⟩:=hv;have Hr:=ab hr;have Hs:=ab hs;have HL:=ab hx;have HM:=ab hy;have HX:=ab dv;have HY:=ab ij;obtain⟨i0,hi,jN,kM,mZ⟩:=info_parts gW;obtain⟨B,hB⟩:∃ B,B=w.heap.size:=⟨_,aa⟩;have HB:=ab hB;rw[<-hB];clear dv ij hx hy hr hs hB;rcases hargs with rfl|⟨hlt,rfl⟩
 all_goals
  refine aE λR' bh=> ?_;go_enter Tryz.func115,Tryz.ntmps115
  go_wp2_with (at_make;refine wpList_make_full _ aa _ _ 31 aa B 122 i0 (.int .u32 0) 1 jg hi jN kM .i64 .i64 _ _ (n+1) aa aa ae ae (by rw[mZ];omega) (by unfold maxLen;omega) (dI HB.out) ?_;intro w1 ay Ig)
  have Ea:=ab (Own.made ay);have Hb1:Hid (Below B w w1):=(dJ _ _).grown Ig (dI HB.out) (λk hk=>by cases hk);clear ay Ig;go_loopw [6,22] (λcv iv wr=>vL w B w.heap.size n xs ys cv iv wr) (λ_ iv _=>n-(intOf iv).toNat)
  case atStart=>exact⟨0,0,[],cD _,aa,aa,aa,ae,bR.nil,by simp[dz],Ea.out,Hb1.out⟩
  case round=>
   obtain⟨k,carry,ds,hk,pF,rfl,rfl,oC,hl,hv,ay,hb⟩:=hrel;have HO:=ab ay;have zH:=ab pF;have HV:=ab hv;have yw:=ab hl;have fx:=ab hb;clear ay pF hv hl hb;have pV:B<=wr.heap.size:=by have:=fx.out.size;have:=HB.out;omega
   by_cases tJ:k<n
   ·obtain⟨b1,o1,x,rfl,bS,fo,pU⟩:=(Hr.out.gL HB.out fx.out).cellAt tJ;have uM:=ab fo;have ja:=HL.out.at fo;have e:n+1-k=(n-k)+1:=ae;have lX:=HO.out;rw[e] at lX;obtain⟨hcell,xF⟩:=Own.uK lX;rw[zH.out] at hcell xF;clear e lX fo;by_cases Eb:k<m
    ·obtain⟨b2,o2,y,rfl,bO,nG,DZ⟩:=(Hs.out.gL HB.out fx.out).cellAt Eb;have Gt:=ab nG;have yv:=HM.out.at nG;clear nG;go_wp2_with fail
     refine (ly x y carry _ ja yv ae).mono ?_;rintro e w2 ⟨rfl,rfl⟩;go_wp2_with fail
     go_roundw
     case rel=>exact vL.step tJ zH.out oC yw.out HV.out HO.out fx.out (by simp[List.getD,uM.out]) (by simp[List.getD,Gt.out]) ja yv
     case measure=>simp[intOf];omega
    ·have Kn:Hid (ys.getD k 0=0):=by show _=_;rw[List.getD,ld (by rw[HY.out];omega)];rfl
     go_wp2_with fail
     refine (ly x 0 carry _ ja ae ae).mono ?_;rintro e w2 ⟨rfl,rfl⟩;go_wp2_with fail
     go_roundw
     case rel=>exact vL.step tJ zH.out oC yw.out HV.out HO.out fx.out (by simp[List.getD,uM.out]) Kn.out ja ae
     case measure=>simp[intOf];omega
   ·obtain rfl:k=n:=by omega
    have e:k+1-k=0+1:=ae;have lX:=HO.out;rw[e] at lX;obtain⟨hcell,xF⟩:=Own.uK lX;have hst:=Own.qX (x:=carry) lX;rw[zH.out] at hcell xF hst;have HST:=ab hst;clear e lX hst;go_wp2_with fail
    have hval:Hid (ag (ds++[carry])=ag xs+ag ys):=by
     show _=_;rw[df,zH.out,HV.out,bb (dI HX.out),bb (by rw[HY.out];exact hmn)]
    refine (cE _ (k+1) (k+1) (ds++[carry]) _ (by have:=Rd.own HST.out;simpa using this) (yw.out.append (bR.cons ae bR.nil))).mono ?_;rintro e w2 ⟨⟨r,hr,rfl,DK⟩,rfl⟩;have JY:=ab DK;clear DK;go_wp2_with fail
    refine bh.out _ _ ⟨_,aa,?_,fx.out.setCell (p:=⟨w.heap.size,k,none⟩) (dI HB.out) _⟩;have h2:=HST.out;rw[List.replicate_zero,dS] at h2;have h3:=Own.limbs h2 hr JY.out;have e:(limbs (ag (ds++[carry]))).length=r:=by rw[JY.out,aR,da,zH.out];simp;omega
    rw[hval.out] at h3 e;rw[e];exact h3
theorem Gu (va vb:Value) (n m:Nat) (xs ys:List Nat) (w:World) (hr:Rd w 1 va n (ints .u32 xs)) (hs:Rd w 1 vb m (ints .u32 ys)) (hx:bR xs) (hy:bR ys) (hn:n<=1073741824) (hm:m<=1073741824):
  Calls Tryz.prog 115 #[va,vb] w λe w'=>∃ v',e=.returned v'/\w'.ownsRow w.heap.size 122 1 v' (limbs (ag xs+ag ys)).length (ints .u32 (limbs (ag xs+ag ys)))/\Below w.heap.size w w':=by
 obtain⟨p,c,rfl,_,_,_⟩:=hr.u32;obtain⟨q,d,rfl,_,_,_⟩:=hs.u32;rcases mP n m with h|h
 ·rw[po (ag xs)];exact Gs q p m d n c ys xs w hs hr hy hx hm ae _ (.inr ⟨h,aa⟩)
 ·exact Gs p q n c m d xs ys w hr hs hx hy hn h _ (.inl aa)
def zI (w:World) (B g N m:Nat) (xs:List Nat) (cv iv:Value) (wr:World):Prop:=
 ∃ (k carry:Nat) (ds:List Nat),k<=N/\ds.length=k/\iv=.int .i64 (k:Int)/\cv=.int .u32 (carry:Int)/\carry<4294967296/\bR ds/\
   ag ds+4294967296^k*carry=ag (xs.take k)*m/\
   wr.ownsRow B 122 1 (.slice (some ⟨g,0,none⟩) (N+1) (N+1)) (N+1) (ints .u32 (ds++List.replicate (N+1-k) 0))/\Below B w wr
theorem yx (x m c:Nat) (hx:x<4294967296) (hm:m<4294967296) (hc:c<4294967296):(x*m+c)/4294967296<4294967296:=by
 have h1:x*m<=4294967295*4294967295:=qP ae ae;omega
theorem yy (x m c:Nat):x*m/4294967296+(x*m%4294967296+c)/4294967296=(x*m+c)/4294967296/\(x*m%4294967296+c)%4294967296=(x*m+c)%4294967296:=by
 generalize x*m=p;omega
variable {s:Int}
theorem zI.step {k:Nat} {c:Int} (hk:k<N) (pF:ds.length=k) (hm:m<4294967296) (hc:carry<4294967296) (hl:bR ds)
  (hv:ag ds+4294967296^k*carry=ag (xs.take k)*m) (ay:wr.ownsRow B 122 1 (.slice (some ⟨g,0,none⟩) (N+1) (N+1)) (N+1) (ints .u32 (ds++List.replicate (N+1-k) 0)))
  (hb:Below B w wr) (hx:xs[k]? =some x) (ja:x<4294967296) (he:c=(((x*m+carry)/4294967296:Nat):Int)) (hs:s=(((x*m%4294967296+carry)%4294967296:Nat):Int)):
  zI w B g N m xs (.int .u32 c) (.int .i64 ((k:Int)+1)) (wr.setCell ⟨g,k,none⟩ (.int .u32 s)):=by
 subst pF;subst he;subst hs;have e:N+1-ds.length=(N-ds.length)+1:=ae;rw[e] at ay;have h1:=Own.qX (x:=(x*m+carry)%4294967296) ay;rw[(yy x m carry).2];refine⟨ds.length+1,(x*m+carry)/4294967296,ds++[(x*m+carry)%4294967296],ae,bc,aa,aa,yx x m carry ja hm hc,?_,?_,?_,?_⟩
 ·exact hl.append (bR.cons (cM _ ae) bR.nil)
 ·rw[df,aO,dT,List.getD,hx];exact Ko _ x m carry _ _ hv
 ·rw[show N+1-(ds.length+1)=N-ds.length by omega];exact h1
 ·exact hb.setCell (Own.lt ay).1 _
set_option maxRecDepth 100000 in
theorem zJ (va:Value) (n m:Nat) (xs:List Nat) (w:World) (hr:Rd w 1 va n (ints .u32 xs)) (hx:bR xs) (hn:n<=1073741824) (hm:m<4294967296):
  Calls Tryz.prog 135 #[va,.int .u32 (m:Int)] w λe w'=>∃ v',e=.returned v'/\w'.ownsRow w.heap.size 122 1 v' (limbs (ag xs*m)).length (ints .u32 (limbs (ag xs*m)))/\Below w.heap.size w w':=by
 obtain⟨p,c,rfl,iD,fO,dv⟩:=hr.u32;have Hr:=ab hr;have HL:=ab hx;have HX:=ab dv;obtain⟨i0,hi,jN,kM,mZ⟩:=info_parts gW;obtain⟨B,hB⟩:∃ B,B=w.heap.size:=⟨_,aa⟩;have HB:=ab hB;rw[<-hB];clear dv hx hr hB;refine aE λR' bh=> ?_;go_enter Tryz.func135,Tryz.ntmps135
 go_wp2_with (at_make;refine wpList_make_full _ aa _ _ 31 aa B 122 i0 (.int .u32 0) 1 jg hi jN kM .i64 .i64 _ _ (n+1) aa aa ae ae (by rw[mZ];omega) (by unfold maxLen;omega) (dI HB.out) ?_;intro w1 ay Ig)
 have Ea:=ab (Own.made ay);have Hb1:Hid (Below B w w1):=(dJ _ _).grown Ig (dI HB.out) (λk hk=>by cases hk);clear ay Ig;go_loopw [6,19] (λcv iv wr=>zI w B w.heap.size n m xs cv iv wr) (λ_ iv _=>n-(intOf iv).toNat)
 case atStart=>exact⟨0,0,[],cD _,aa,aa,aa,ae,bR.nil,by simp[dz],Ea.out,Hb1.out⟩
 case round=>
  obtain⟨k,carry,ds,hk,pF,rfl,rfl,oC,hl,hv,ay,hb⟩:=hrel;have HO:=ab ay;have zH:=ab pF;have HV:=ab hv;have yw:=ab hl;have fx:=ab hb;clear ay pF hv hl hb;by_cases tJ:k<n
  ·obtain⟨b1,o1,x,rfl,bS,fo,pU⟩:=(Hr.out.gL HB.out fx.out).cellAt tJ;have uM:=ab fo;have ja:=HL.out.at fo;have e:n+1-k=(n-k)+1:=ae;have lX:=HO.out;rw[e] at lX;obtain⟨hcell,xF⟩:=Own.uK lX;rw[zH.out] at hcell xF;clear e lX fo;have h1:(x*m+carry)/4294967296<4294967296:=yx x m carry ja hm oC;have h2:=(yy x m carry).1;have h3:(0:Int)<=((x*m/4294967296:Nat):Int)+(((x*m%4294967296+carry+0)/4294967296:Nat):Int)/\((x*m/4294967296:Nat):Int)+(((x*m%4294967296+carry+0)/4294967296:Nat):Int)<4294967296:=ae;have H2:Hid (((x*m/4294967296:Nat):Int)+(((x*m%4294967296+carry+0)/4294967296:Nat):Int)=(((x*m+carry)/4294967296:Nat):Int)):=by show _=_;omega
   obtain⟨h3a,h3b⟩:=h3;clear h2 h1;go_wp2_with fail
   refine (Ic x m _ ja hm).mono ?_;rintro e w2 ⟨rfl,rfl⟩;go_wp2_with fail
   refine (ly (x*m%4294967296) carry 0 _ (cM _ ae) oC ae).mono ?_;rintro e w2 ⟨rfl,rfl⟩;go_wp2_with fail
   go_roundw
   case rel=>exact zI.step tJ zH.out hm oC yw.out HV.out HO.out fx.out uM.out ja (by have:=H2.out;omega) ae
   case measure=>simp[intOf];omega
  ·obtain rfl:k=n:=by omega
   have e:k+1-k=0+1:=ae;have lX:=HO.out;rw[e] at lX;obtain⟨hcell,xF⟩:=Own.uK lX;have hst:=Own.qX (x:=carry) lX;rw[zH.out] at hcell xF hst;have HST:=ab hst;clear e lX hst;go_wp2_with fail
   have hval:Hid (ag (ds++[carry])=ag xs*m):=by
    show _=_;rw[df,zH.out,HV.out,bb (dI HX.out)]
   refine (cE _ (k+1) (k+1) (ds++[carry]) _ (by have:=Rd.own HST.out;simpa using this) (yw.out.append (bR.cons ae bR.nil))).mono ?_;rintro e w2 ⟨⟨r,hr,rfl,DK⟩,rfl⟩;have JY:=ab DK;clear DK;go_wp2_with fail
   refine bh.out _ _ ⟨_,aa,?_,fx.out.setCell (p:=⟨w.heap.size,k,none⟩) (dI HB.out) _⟩;have h2:=HST.out;rw[List.replicate_zero,dS] at h2;have h3:=Own.limbs h2 hr JY.out;have e:(limbs (ag (ds++[carry]))).length=r:=by rw[JY.out,aR,da,zH.out];simp;omega
   rw[hval.out] at h3 e;rw[e];exact h3
def zK (w:World) (B:Nat) (qv:Value) (n d:Nat) (xs:List Nat) (iv rv:Value) (wr:World):Prop:=
 ∃ (k r:Nat) (qs:List Nat),k<=n/\qs.length=n-k/\iv=.int .i64 ((k:Int)-1)/\rv=.int .u32 (r:Int)/\r<d/\bR qs/\
   ag qs*d+r=ag (xs.drop k)/\wr.ownsRow B 122 1 qv n (ints .u32 (xs.take k++qs))/\Below B w wr
theorem KA (d r x Q X:Nat) (h:Q*d+r=X):
  ((r*4294967296+x)/d+4294967296*Q)*d+(r*4294967296+x)%d=x+4294967296*X:=by
 subst h;have h2:=qO (r*4294967296+x) d;rw[eh d] at h2;rw[cV,bg,db];omega
theorem div_lt (d r x:Nat) (hr:r<d) (hx:x<4294967296):(r*4294967296+x)/d<4294967296:=by
 rw[AZ ae];have:(r+1)*4294967296<=d*4294967296:=jR _ hr;rw[eh 4294967296 d];omega
theorem vM {k:Nat} (h:xs[k]? =some x):ag (xs.drop k)=x+4294967296*ag (xs.drop (k+1)):=by
 obtain⟨hl,e⟩:=bx.1 h;rw[mK hl,e,ez]
variable {qs:List Nat}
theorem zL {k:Nat} (hk:k<xs.length):(xs.take (k+1)++qs).set k x=xs.take k++x::qs:=by
 have h1:xs.take (k+1)=xs.take k++[xs[k]]:=bf (aZ hk);rw[h1,nx,qJ _ _ (by rw[aR];omega)]
 congr 1
 rw[aR,dF ae,iP];rfl
theorem zK.step {n dn:Nat} {q:Int} (hj:j+1<=n) (hn:xs.length=n) (hqs:qs.length=n-(j+1)) (hr:r<d) (hl:bR qs)
  (hv:ag qs*d+r=ag (xs.drop (j+1))) (ay:wr.ownsRow B 122 1 (.slice (some ⟨g,0,none⟩) n cap) n (ints .u32 (xs.take (j+1)++qs))) (hb:Below B w wr)
  (hx:xs[j]? =some x) (ja:x<4294967296) (he:q=(((r*4294967296+x)/d:Nat):Int)) (hs:s=(((r*4294967296+x)%d:Nat):Int)):
  zK w B (.slice (some ⟨g,0,none⟩) n cap) n d xs (.int .i64 ((j:Int)-1)) (.int .u32 s) ((wr.drewN dn).setCell ⟨g,j,none⟩ (.int .u32 q)):=by
 subst he;subst hs;refine⟨j,(r*4294967296+x)%d,(r*4294967296+x)/d::qs,ae,by simp;omega,rfl,rfl,cM _ ae,bR.cons (div_lt d r x hr ja) hl,?_,?_,?_⟩
 ·rw[ez,vM hx,<-hv];exact KA d r x _ _ aa
 ·have h1:=Own.fc (j:=j) (x:=(r*4294967296+x)/d) (Own.drewN ay dn)
  rwa [zL ae] at h1
 ·exact (Below.drewN hb dn).setCell (Own.lt ay).1 _
set_option maxRecDepth 100000 in
theorem qZ (va:Value) (n d:Nat) (xs:List Nat) (w:World) (hr:Rd w 1 va n (ints .u32 xs)) (hx:bR xs) (hn:n<=1073741824) (hd:d<4294967296):
  Calls Tryz.prog 118 #[va,.int .u32 (d:Int)] w λe w'=>((d=0/\e=.returned (.tuple #[.slice none 0 0,.int .u32 0,.int .i64 20]))\/
   (d≠0/\∃ v',e=.returned (.tuple #[v',.int .u32 ((ag xs%d:Nat):Int),.int .i64 0])/\w'.ownsRow w.heap.size 122 1 v' (limbs (ag xs/d)).length (ints .u32 (limbs (ag xs/d)))))/\Below w.heap.size w w':=by
 obtain⟨p,c,rfl,iD,fO,dv⟩:=hr.u32;have Hr:=ab hr;have HL:=ab hx;have HX:=ab dv;clear dv hx hr;by_cases hd0:d=0
 ·have hdb:((d:Int) == 0)=true:=by rw[beq_iff_eq];omega
  have HD:=ab hd0;clear hd0;refine aE λR' bh=> ?_;go_enter Tryz.func118,Tryz.ntmps118
  go_wp2
  go_ret3
  exact bh.out _ _ ⟨.inl ⟨HD.out,aa⟩,dJ _ _⟩
 ·obtain⟨B,hB⟩:∃ B,B=w.heap.size:=⟨_,aa⟩;have HB:=ab hB;rw[<-hB];clear hB;have hdb:((d:Int) == 0)=false:=by rw[iJ];omega
  refine aE λR' bh=> ?_;go_enter Tryz.func118,Tryz.ntmps118
  go_wp2_with fail
  refine (iZ _ n xs _ Hr.out hn).mono ?_;rintro e w1 ⟨qv,rfl,ay,hb⟩;rw[<-HB.out] at ay hb;obtain⟨qp,qc,rfl,_,_,_⟩:=Own.form ay;have HO:=ab ay;have fx:=ab hb;clear ay hb;go_wp2_with fail
  go_loopw [7,5] (λiv rv wr=>zK w B (.slice qp n qc) n d xs iv rv wr) (λiv _ _=>(intOf iv+1).toNat)
  case atStart=>exact⟨n,0,[],aM _,bc,aa,aa,ae,bR.nil,by rw[mL (dI HX.out)];simp[dz],by rw[du (dI HX.out),dS];exact HO.out,fx.out⟩
  case round=>
   obtain⟨k,r,qs,hk,hqs,rfl,rfl,sq,hl,hv,ay,hb⟩:=hrel;have mV:=ab ay;have HQS:=ab hqs;have HV:=ab hv;have yw:=ab hl;have nH:=ab hb;clear ay hqs hv hl hb;by_cases h0:k=0
   ·subst h0;go_wp2_with fail
    refine (cE _ n qc qs _ (by have:=Rd.own mV.out;simpa using this) yw.out).mono ?_;rintro e w2 ⟨⟨m,hm,rfl,uL⟩,rfl⟩;have Kz:=ab uL;clear uL;go_wp2_with fail
    go_ret3
    have hv:=HV.out;rw[Bi] at hv;have hq:ag xs/d=ag qs:=by rw[<-hv,po,Nat.add_mul_div_right _ _ ae,tD sq,cC]
    have Gp:ag xs%d=r:=by rw[<-hv,po,Kj,qN sq]
    refine bh.out _ _ ⟨.inr ⟨hd0,.slice qp m qc,by rw[Gp];rfl,?_⟩,nH.out⟩;have h2:=mV.out;rw[Bj,pg] at h2;have h3:=Own.limbs h2 hm Kz.out;have e:(limbs (ag qs)).length=m:=by rw[Kz.out,aR,HQS.out];omega
    rw[hq,e];exact h3
   ·obtain⟨j,rfl⟩:∃ j,k=j+1:=⟨k-1,ae⟩;obtain⟨g,qc',hv,hbg,Ij⟩:=Own.uJ mV.out ae;simp only[Value.slice.injEq,true_and] at hv;obtain⟨rfl,rfl⟩:=hv;obtain⟨x,hx,hcell,xF⟩:=Own.fu mV.out (j:=j) ae
    have fo:xs[j]? =some x:=by
     rw[kZ (by rw[aR,HX.out];omega),nv] at hx;simpa using hx
    have uM:=ab fo;have ja:=HL.out.at fo;have hjj:((j+1:Nat):Int)-1=(j:Int):=ae;rw[hjj];clear hx fo h0 hjj;go_wp2_with fail
    refine (Ie r x d _ sq ja hd).mono ?_;rintro e w2 ⟨rfl,dn,rfl⟩;go_wp2_with fail
    go_roundw
    case rel=>exact zK.step ae HX.out HQS.out sq yw.out HV.out mV.out nH.out uM.out ja bc bc
    case measure=>simp[intOf]
def vN (w:World) (B:Nat) (ov:Value) (n:Nat) (xs ys:List Nat) (bv iv:Value) (wr:World):Prop:=
 ∃ (k r:Nat) (ds:List Nat),k<=n/\ds.length=k/\iv=.int .i64 (k:Int)/\bv=.int .u32 (r:Int)/\r<=1/\bR ds/\
   ag ds+ag (ys.take k)=ag (xs.take k)+4294967296^k*r/\wr.ownsRow B 122 1 ov n (ints .u32 (ds++xs.drop k))/\Below B w wr
theorem zM (hk:ds.length<xs.length):(ds++xs.drop ds.length).set ds.length x=(ds++[x])++xs.drop (ds.length+1):=by
 rw[qJ _ _ (aM _),iP,mK hk,Bd,nx];rfl
theorem KB (p x y r d r' X Y D:Nat) (h:D+Y=X+p*r) (hs:x+4294967296*r'=d+y+r):(D+p*d)+(Y+p*y)=(X+p*x)+p*4294967296*r':=by
 have h2:p*(x+4294967296*r')=p*(d+y+r):=by rw[hs]
 rw[bg,bg,bg,<-db] at h2;omega
theorem vN.step {n k r':Nat} (hk:k<n) (hn:xs.length=n) (pF:ds.length=k) (hl:bR ds)
  (hv:ag ds+ag (ys.take k)=ag (xs.take k)+4294967296^k*r) (ay:wr.ownsRow B 122 1 (.slice (some ⟨g,0,none⟩) n cap) n (ints .u32 (ds++xs.drop k))) (hb:Below B w wr)
  (hx:xs.getD k 0=x) (hy:ys.getD k 0=y) (hd:d<4294967296) (Br:r'<=1) (he:x+4294967296*r'=d+y+r):
  vN w B (.slice (some ⟨g,0,none⟩) n cap) n xs ys (.int .u32 (r':Int)) (.int .i64 ((k:Int)+1)) (wr.setCell ⟨g,k,none⟩ (.int .u32 (d:Int))):=by
 subst pF;have h1:=Own.fc (j:=ds.length) (x:=d) ay;rw[zM ae] at h1;refine⟨ds.length+1,r',ds++[d],ae,bc,aa,aa,Br,hl.append (bR.cons hd bR.nil),?_,h1,hb.setCell (Own.lt ay).1 _⟩;rw[df,aO,aO,hx,hy,dT];exact KB _ x y r d r' _ _ _ hv he
set_option maxRecDepth 100000 in
theorem zN (va vb:Value) (n m:Nat) (xs ys:List Nat) (w:World) (hr:Rd w 1 va n (ints .u32 xs)) (hs:Rd w 1 vb m (ints .u32 ys)) (hx:bR xs) (hy:bR ys) (hn:n<=1073741824):
  Calls Tryz.prog 117 #[va,vb] w λe w'=>((ag xs<ag ys/\e=.returned (.tuple #[.slice none 0 0,.int .i64 2]))\/
   (ag ys<=ag xs/\∃ v',e=.returned (.tuple #[v',.int .i64 0])/\w'.ownsRow w.heap.size 122 1 v' (limbs (ag xs-ag ys)).length (ints .u32 (limbs (ag xs-ag ys)))))/\Below w.heap.size w w':=by
 obtain⟨p,c,rfl,iD,fO,dv⟩:=hr.u32;obtain⟨q,d,rfl,JX,DJ,ij⟩:=hs.u32;obtain⟨a,ha⟩:∃ a,a=ag xs:=⟨_,aa⟩;obtain⟨b,hb⟩:∃ b,b=ag ys:=⟨_,aa⟩;have Hr:=ab hr;have Hs:=ab hs;have HL:=ab hx;have HM:=ab hy;have HX:=ab dv;have HY:=ab ij;rw[<-ha,<-hb];have HA:=ab ha;have HB:=ab hb;clear dv ij hx hy hr hs ha hb;refine aE λR' bh=> ?_;go_enter Tryz.func117,Tryz.ntmps117
 go_wp2_with fail
 refine (cE p n c xs _ Hr.out HL.out).mono ?_;rintro e w1 ⟨⟨n',hn',rfl,Ky⟩,rfl⟩;have HLN:=ab Ky;clear Ky;go_wp2_with fail
 refine (cE q m d ys _ Hs.out HM.out).mono ?_;rintro e w1 ⟨⟨m',Gp,rfl,uL⟩,rfl⟩;have Kz:=ab uL;clear uL;have HN:Hid ((limbs a).length=n'):=by show _=_;rw[HA.out,HLN.out,aR,HX.out];omega
 have HMM:Hid ((limbs b).length=m'):=by show _=_;rw[HB.out,Kz.out,aR,HY.out];omega
 have hra:=Hr.out.limbs hn' HLN.out;have Ii:=Hs.out.limbs Gp Kz.out;rw[<-HA.out] at hra;rw[<-HB.out] at Ii;have Hra:=ab hra;have Hrb:=ab Ii;clear hra Ii;go_wp2_with fail
 refine (zG _ _ n' m' (limbs a) (limbs b) _ Hra.out Hrb.out (ak a) (ak b)).mono ?_;rintro e w1 ⟨rfl,dn,rfl⟩;rw[ah,ah];by_cases pA:a<b
 ·have hc:fb a b<0:=ic.2 pA;generalize fb a b=cv at hc ⊢;go_wp2_with fail
  exact bh.out _ _ ⟨.inl ⟨pA,aa⟩,Below.drewN (dJ _ _) _⟩
 ·have hc:0<=fb a b:=by have:=mt (@ic a b).1 pA;omega
  generalize fb a b=cv at hc ⊢;have hmn:m'<=n':=by rw[<-HN.out,<-HMM.out];exact bX ae
  obtain⟨B,hB⟩:∃ B,B=w.heap.size:=⟨_,aa⟩;have HBB:=ab hB;rw[<-hB] at bh;clear hB;go_wp2_with fail
  refine (iZ _ n' (limbs a) _ (Rd.drewN Hra.out dn) ae).mono ?_;rintro e w1 ⟨qv,rfl,ay,hb⟩;have hb:Below B w w1:=by rw[HBB.out];exact (Below.drewN (dJ _ _) dn).trans hb
  have ay:w1.ownsRow B 122 1 qv n' (ints .u32 (limbs a)):=by rw[HBB.out];exact ay
  obtain⟨qp,qc,rfl,_,_,_⟩:=Own.form ay;have HO:=ab ay;have fx:=ab hb;clear ay hb;go_wp2_with fail
  go_loopw [7,22] (λbv iv wr=>vN w B (.slice qp n' qc) n' (limbs a) (limbs b) bv iv wr) (λ_ iv _=>n' -(intOf iv).toNat)
  case atStart=>exact⟨0,0,[],cD _,aa,aa,aa,ae,bR.nil,by simp[dz],by simpa using HO.out,fx.out⟩
  case round=>
   obtain⟨k,r,ds,hk,pF,rfl,rfl,sx,hl,hv,ay,hb⟩:=hrel;have mV:=ab ay;have zH:=ab pF;have HV:=ab hv;have yw:=ab hl;have nH:=ab hb;clear ay pF hv hl hb;by_cases tJ:k<n'
   ·obtain⟨g,qc',hv,hbg,Ij⟩:=Own.uJ mV.out ae;simp only[Value.slice.injEq,true_and] at hv;obtain⟨rfl,rfl⟩:=hv;obtain⟨x,hx,hcell,xF⟩:=Own.fu mV.out (j:=k) ae
    have fo:(limbs a)[k]? =some x:=by
     rw[nr (by rw[zH.out];omega),zH.out,tB] at hx;simpa using hx
    have uM:=ab fo;have ja:=(ak a).at fo;clear hx fo;by_cases Eb:k<m'
    ·obtain⟨b2,o2,y,rfl,bO,nG,DZ⟩:=(Hrb.out.gL HBB.out nH.out).cellAt Eb;have Gt:=ab nG;have yv:=(ak b).at nG;clear nG;go_wp2_with fail
     refine (yu x y r _ ja yv ae).mono ?_;rintro e w2 ⟨⟨dd,rr,rfl,hdd,hrr,heq⟩,rfl⟩;have HEQ:=ab heq;clear heq;go_wp2_with fail
     go_roundw
     case rel=>exact vN.step tJ HN.out zH.out yw.out HV.out mV.out nH.out (by simp[List.getD,uM.out]) (by simp[List.getD,Gt.out]) hdd hrr HEQ.out
     case measure=>simp[intOf];omega
    ·have Kn:Hid ((limbs b).getD k 0=0):=by show _=_;rw[List.getD,ld (by rw[HMM.out];omega)];rfl
     go_wp2_with fail
     refine (yu x 0 r _ ja ae ae).mono ?_;rintro e w2 ⟨⟨dd,rr,rfl,hdd,hrr,heq⟩,rfl⟩;have HEQ:=ab heq;clear heq;go_wp2_with fail
     go_roundw
     case rel=>exact vN.step tJ HN.out zH.out yw.out HV.out mV.out nH.out (by simp[List.getD,uM.out]) Kn.out hdd hrr HEQ.out
     case measure=>simp[intOf];omega
   ·obtain rfl:k=n':=by omega
    go_wp2_with fail
    have h2:=mV.out;rw[mL (dI HN.out),dS] at h2;refine (cE _ k qc ds _ (Rd.own h2) yw.out).mono ?_;rintro e w2 ⟨⟨s,hs,rfl,hls⟩,rfl⟩;have HLS:=ab hls;clear hls;go_wp2_with fail
    have hval:ag ds=a-b:=by
     have h1:=HV.out;rw[bb (dI HN.out),bb (by rw[HMM.out];exact hmn),ah,ah] at h1;have h3:=gU yw.out;rw[zH.out] at h3
     have:r=0:=by
      rcases lg r with h|h
      ·exact h
      ·have:r=1:=by omega
       subst this;omega
     subst this;omega
    refine bh.out _ _ ⟨.inr ⟨ae,.slice qp s qc,aa,?_⟩,nH.out⟩;have h3:=Own.limbs h2 hs HLS.out;have e:(limbs (ag ds)).length=s:=by rw[HLS.out,aR,zH.out];omega
    rw[hval] at h3 e;rw[e];exact h3
def gf (w:World) (v:Value) (rows:List (List Nat)):Prop:=
 ∃ vs:List Value,Rd w 1 v rows.length vs/\∀ (i:Nat) (xs:List Nat),rows[i]? =some xs->∃ u,vs[i]? =some u/\Rd w 1 u xs.length (ints .u32 xs)
variable {rows:List (List Nat)}
theorem gf.below (h:gf w v rows) (hb:Below w.heap.size w w'):gf w' v rows:=by
 obtain⟨vs,h1,h2⟩:=h;refine⟨vs,h1.below hb,λi xs hi=> ?_⟩;obtain⟨u,hu,hr⟩:=h2 i xs hi;exact⟨u,hu,hr.below hb⟩
theorem gf.at {n k:Nat} (h:gf w (.slice p n c) rows) (hk:k<rows.length):
  ∃ b off u xs,p=some ⟨b,off,none⟩/\rows[k]? =some xs/\w.cell? ⟨b,off+k,none⟩=some u/\Rd w 1 u xs.length (ints .u32 xs):=by
 obtain⟨vs,⟨p',c',hv,_,_,h3,h4⟩,h2⟩:=h;simp only[Value.slice.injEq] at hv;obtain⟨rfl,rfl,rfl⟩:=hv;obtain⟨b,off,hp,hc⟩:=h4 ae;obtain⟨u,hu,hr⟩:=h2 k _ (aZ hk);exact⟨b,off,u,_,hp,aZ hk,hc k u hu,hr⟩
theorem gf.form (h:gf w v rows):∃ p c,v=.slice p rows.length c/\rows.length<=c/\c<=9223372036854775807:=by
 obtain⟨vs,h1,_⟩:=h;obtain⟨p,c,hv,h2,h3,_⟩:=h1.form;unfold maxLen at h3;exact⟨p,c,hv,h2,ae⟩
theorem pG {q:Nat} (h:q<4294967296):(q:Int)%4294967296=q:=ae
theorem vO {n:Nat} (h:n<32):2^n<4294967296:=by
 have:=Nat.pow_lt_pow_right (show 1<2 by omega) h;omega
theorem tK (x n:Nat) (hn:n<32):(limbs (x*2^n)).length<=(limbs x).length+1:=by
 apply iC;rw[dT];exact Nat.mul_lt_mul_of_lt_of_le (lW x) (Nat.le_of_lt (vO hn)) ae
set_option maxRecDepth 100000 in
theorem KD (va:Value) (m n x:Nat) (w:World) (hr:Rd w 1 va m (ints .u32 (limbs x))) (hm:m<=1073741824) (hn:n<32):
  Calls Tryz.prog 130 #[va,.int .i64 (n:Int)] w λe w'=>∃ v',e=.returned v'/\Rd w' 1 v' (limbs (x*2^n)).length (ints .u32 (limbs (x*2^n)))/\Below w.heap.size w w':=by
 obtain⟨p,c,rfl,iD,fO,dv⟩:=hr.u32;have Hr:=ab hr;have HX:=ab dv;clear dv hr;by_cases h0:n=0
 ·subst h0;refine aE λR' bh=> ?_;go_enter Tryz.func130,Tryz.ntmps130
  go_wp2
  refine bh.out _ _ ⟨_,aa,?_,dJ _ _⟩;have:=Hr.out;rw[Nat.pow_zero,eM,HX.out];exact this
 ·have hnb:((n:Int) == 0)=false:=by rw[iJ];omega
  refine aE λR' bh=> ?_;go_enter Tryz.func130,Tryz.ntmps130
  have zO:=vO hn
  have hpe:(2:Int)^n%4294967296=((2^n:Nat):Int):=by
   have:(2:Int)^n=((2^n:Nat):Int):=bc;rw[this];exact pG zO
  have HP:=ab hpe;clear hpe;go_wp2_with fail
  rw[HP.out];refine (zJ _ m (2^n) (limbs x) _ Hr.out (ak x) hm zO).mono ?_;rintro e w1 ⟨v',rfl,ay,hb⟩;rw[ah] at ay;go_wp2
  exact bh.out _ _ ⟨_,aa,Rd.own ay,hb⟩
set_option maxRecDepth 100000 in
theorem Ik (va:Value) (m n:Nat) (xs:List Nat) (w:World) (hr:Rd w 1 va m (ints .u32 xs)) (hx:bR xs) (hm:m<=1073741824) (hn:n<32):
  Calls Tryz.prog 131 #[va,.int .i64 (n:Int)] w λe w'=>(∃ v' k rs,e=.returned v'/\k<=1073741824/\Rd w' 1 v' k (ints .u32 rs)/\bR rs/\ag rs=ag xs/2^n)/\Below w.heap.size w w':=by
 obtain⟨p,c,rfl,iD,fO,dv⟩:=hr.u32;have Hr:=ab hr;have HX:=ab dv;have HL:=ab hx;clear dv hr hx;by_cases h0:n=0
 ·subst h0;refine aE λR' bh=> ?_;go_enter Tryz.func131,Tryz.ntmps131
  go_wp2
  exact bh.out _ _ ⟨⟨_,m,xs,aa,hm,Hr.out,HL.out,by rw[Nat.pow_zero,Nat.div_one]⟩,dJ _ _⟩
 ·have hnb:((n:Int) == 0)=false:=by rw[iJ];omega
  refine aE λR' bh=> ?_;go_enter Tryz.func131,Tryz.ntmps131
  have zO:=vO hn;have Gv:2^n≠0:=by have:=nB (n:=n) (show 0<2 by omega);omega
  have hpe:(2:Int)^n%4294967296=((2^n:Nat):Int):=by
   have:(2:Int)^n=((2^n:Nat):Int):=bc;rw[this];exact pG zO
  have HP:=ab hpe;have HPP:=ab Gv;clear hpe Gv;go_wp2_with fail
  rw[HP.out];refine (qZ _ m (2^n) xs _ Hr.out HL.out hm zO).mono ?_;rintro e w1 ⟨⟨h,_⟩|⟨_,v',rfl,ay⟩,hb⟩
  ·exact absurd h HPP.out
  ·have HO:=ab ay;have hlen:(limbs (ag xs/2^n)).length<=m:=bA (bX (yk _ _)) (by rw[<-HX.out];exact fY HL.out);clear ay;go_wp2
   exact bh.out _ _ ⟨⟨_,_,_,aa,bA hlen hm,Rd.own HO.out,ak _,ah _⟩,hb⟩
set_option maxRecDepth 100000 in
theorem KE (n:Nat) (w:World) (hn:n<=2147483648):
  Calls Tryz.prog 134 #[.slice none 0 0,.int .i64 (n:Int)] w λe w'=>∃ v',e=.returned v'/\w'.ownsRow w.heap.size 122 1 v' 0 []/\Below w.heap.size w w':=by
 by_cases h0:n=0
 ·subst h0;refine aE λR' bh=> ?_;go_enter Tryz.func134,Tryz.ntmps134
  go_wp2
  exact bh.out _ _ ⟨_,aa,jh _ _ _ _,dJ _ _⟩
 ·obtain⟨i0,hi,jN,kM,mZ⟩:=info_parts gW;obtain⟨C,hC⟩:∃ C,C=grownCap w n 0 122:=⟨_,aa⟩;have HC:=ab hC;have hap0:=Lib.run_append_nil_zeros (P:=Tryz.prog) w 31 3 31 122 i0 (.int .u32 0) .i64 .i64 jg vz hi jN n ae ae ae (by rw[mZ];omega);rw[<-hC] at hap0;have HAP:=ab hap0;have hCn:n<=C:=by rw[hC];exact grownCap_ge w n 0 _
  have hCm:C<=9223372036854775807:=by
   have:=grownCap_le_maxLen w n 0 122 (by unfold maxLen;omega);unfold maxLen at this;omega
  have hn0:0<n:=ae;clear hC h0 hap0;refine aE λR' bh=> ?_;go_enter Tryz.func134,Tryz.ntmps134
  go_wp2_with (at_builtin;refine wpList_append_run aa _ _ 31 3 aa _ _ aa aa _ _ HAP.out ?_)
  refine bh.out _ _ ⟨_,aa,?_,?_⟩
  ·exact World.ownsRow_made w.drew _ C (aM _) (by unfold maxLen;omega) (by rw[Array.size_append,size_zeroCells,size_zeroCells];show n*1+(C-n)*1=C*1;omega)
  ·exact (Below.drew (dJ _ _)).alloc (aM _) _
def flat (rows:List (List Nat)):List Nat:=rows.flatten
theorem sA (rows:List (List Nat)) (xs:List Nat):flat (rows++[xs])=flat rows++xs:=by simp[flat]
theorem lZ (rows:List (List Nat)) (k:Nat):(flat (rows.take k)).length<=(flat rows).length:=by
 conv=>rhs;rw[<-oZ k rows]
 simp only[flat,List.flatten_append,List.length_append];omega
def CatA (rows:List (List Nat)) (sv iv:Value):Prop:=∃ k,k<=rows.length/\iv=.int .i64 (k:Int)/\sv=.int .i64 ((flat (rows.take k)).length:Int)
def CatB (w:World) (B:Nat) (rows:List (List Nat)) (ov iv:Value) (wr:World):Prop:=
 ∃ k,k<=rows.length/\iv=.int .i64 (k:Int)/\wr.ownsRow B 122 1 ov (flat (rows.take k)).length (ints .u32 (flat (rows.take k)))/\Below B w wr
set_option maxRecDepth 100000 in
theorem Ec (va:Value) (rows:List (List Nat)) (w:World) (hr:gf w va rows) (hn:(flat rows).length<=2147483648):
  Calls Tryz.prog 129 #[va] w λe w'=>∃ v',e=.returned v'/\w'.ownsRow w.heap.size 122 1 v' (flat rows).length (ints .u32 (flat rows))/\Below w.heap.size w w':=by
 obtain⟨p,c,rfl,iD,fO⟩:=hr.form;have Hr:=ab hr;obtain⟨i0,hi,jN,kM,mZ⟩:=info_parts gW;obtain⟨B,hB⟩:∃ B,B=w.heap.size:=⟨_,aa⟩;have HB:=ab hB;obtain⟨N,hN⟩:∃ N,N=rows.length:=⟨_,aa⟩;rw[<-hN] at iD ⊢;have HN:=ab hN;rw[<-hB];clear hr hB hN;refine aE λR' bh=> ?_;go_enter Tryz.func129,Tryz.ntmps129
 go_wp2
 go_loop [3,11] (λsv iv=>CatA rows sv iv) (λ_ iv=>N-(intOf iv).toNat)
 case atStart=>exact⟨0,cD _,aa,by simp[flat]⟩
 case round=>
  obtain⟨k,hk,rfl,rfl⟩:=hrel;rw[<-HN.out] at hk;have uN:=lZ rows k;by_cases tJ:k<N
  ·obtain⟨b1,o1,u,xs,rfl,fo,pU,JZ⟩:=Hr.out.at (k:=k) (by rw[<-HN.out];exact tJ);obtain⟨q,d,rfl,_,_,_⟩:=JZ.u32;have hfs:(flat (rows.take (k+1))).length=(flat (rows.take k)).length+xs.length:=by rw[bf fo,sA,da]
   have hfl2:=lZ rows (k+1);have HFS:=ab hfs;rw[hfs] at hfl2;clear fo JZ hfs;generalize (flat (rows.take k)).length=L at*;go_wp2
   go_round
   case rel=>exact⟨k+1,by rw[<-HN.out];omega,by go_num,by rw[HFS.out];go_num⟩
   case measure=>simp[intOf];omega
  ·obtain rfl:k=N:=by omega
   have hL:Hid (flat (rows.take k)=flat rows):=by show _=_;rw[du (by rw[HN.out];exact aM _)]
   rw[hL.out];rw[hL.out] at uN;generalize hLL:(flat rows).length=L at hn uN;have HLL:=ab hLL;rw[hLL] at bh;clear hLL;go_wp2_with fail
   refine (KE L _ ae).mono ?_;rintro e w1 ⟨ov,rfl,ay,hb⟩;rw[<-HB.out] at ay hb;have HO:=ab ay;have fx:=ab hb;clear ay hb;go_wp2_with fail
   go_loopw [6,27] (λov iv wr=>CatB w B rows ov iv wr) (λ_ iv _=>k-(intOf iv).toNat)
   case atStart=>exact⟨0,cD _,aa,by simpa [flat,ints] using HO.out,fx.out⟩
   case round=>
    obtain⟨j,hj,rfl,ay,hb⟩:=hrel;have mV:=ab ay;have nH:=ab hb;rw[<-HN.out] at hj;clear ay hb;by_cases hjn:j<k
    ·obtain⟨b1,o1,u,xs,rfl,fo,pU,JZ⟩:=((Hr.out.below (by have:=nH.out;rwa [HB.out] at this)).at (k:=j) (by rw[<-HN.out];exact hjn));have hfs:(flat (rows.take (j+1))).length=(flat (rows.take j)).length+xs.length:=by rw[bf fo,sA,da]
     have hfl2:=lZ rows (j+1);have HFS:=ab hfs;have hsz:(flat (rows.take j)).length+xs.length<=2147483648:=by have:=HLL.out;omega
     have uM:=ab fo;have HRU:=ab JZ;have pV:B<=wr.heap.size:=by have:=nH.out.size;have:=HB.out;omega
     clear fo JZ hfs hfl2;go_wp2_with (at_builtin;refine gM _ aa _ _ 31 aa B 122 i0 (.int .u32 0) 1 4 jg hi jN kM mZ aa dh _ _ _ aa mV.out _ xs.length _ aa HRU.out (lp _ _) (by unfold maxLen;omega) ae pV ?_;intro v' w2 js hgr2)
     have KF:Hid (w2.ownsRow B 122 1 v' (flat (rows.take (j+1))).length (ints .u32 (flat (rows.take (j+1))))):=by
      show World.ownsRow ..;rw[HFS.out,bf uM.out,sA,fF];exact js
     have Ka:Hid (Below B w w2):=Below.Kt nH.out hgr2 mV.out pV (aM _);clear js hgr2;go_wp2_with fail
     go_roundw
     case rel=>exact⟨j+1,by rw[<-HN.out];omega,by go_num,KF.out,Ka.out⟩
     case measure=>simp[intOf];omega
    ·obtain rfl:j=k:=by omega
     go_wp2_with fail
     refine bh.out _ _ ⟨_,aa,?_,nH.out⟩;have:=mV.out;rw[hL.out,HLL.out] at this;exact this
theorem gf.two {t:Nat} {fr:Nat×Nat} (h:w.heap[g]? =some (.cells #[u,v] t fr)) (hx:Rd w 1 u xs.length (ints .u32 xs)) (hy:Rd w 1 v ys.length (ints .u32 ys)):
  gf w (.slice (some ⟨g,0,none⟩) 2 2) [xs,ys]:=by
 refine⟨[u,v],⟨_,2,aa,aM _,by simp[maxLen],rfl,λ_=>⟨g,0,rfl,λj z hj=> ?_⟩⟩,λi zs hi=> ?_⟩
 ·match j,hj with
  | 0,hj=>simp at hj;subst hj;simp[World.cell?,h]
  | 1,hj=>simp at hj;subst hj;simp[World.cell?,h]
 ·match i,hi with
  | 0,hi=>simp at hi;subst hi;exact⟨u,aa,hx⟩
  | 1,hi=>simp at hi;subst hi;exact⟨v,aa,hy⟩
theorem Gw {k:Nat} (h:k=w.heap.size):(w.alloc o).heap[k]? =some o:=by subst h;exact heap_alloc_new w o
variable {z:Obj} {w2 w3:World}
theorem ordA (bO:Below (w.alloc z).drew.heap.size (w.alloc z).drew w2) (dc:Below (w2.alloc o).heap.size (w2.alloc o) w3):Below w.heap.size w w3/\w.heap.size<=(w2.alloc o).heap.size:=by
 have h1:=bO.size;simp at h1;have h0:Below w.heap.size w (w.alloc z).drew:=((dJ w.heap.size w).alloc (aM _) z).drew;have h2:Below w.heap.size w w2:=h0.trans (bO.mono bc);exact⟨(h2.alloc ae o).trans (dc.mono (by simp;omega)),by simp;omega⟩
theorem ordB (bO:Below w.drew.heap.size w.drew w2) (dc:Below ((w2.alloc z).alloc o).heap.size ((w2.alloc z).alloc o) w3):Below w.heap.size w w3/\w.heap.size<=((w2.alloc z).alloc o).heap.size:=by
 have h1:=bO.size;simp at h1;have h2:Below w.heap.size w w2:=(dJ w.heap.size w).drew.trans bO;exact⟨((h2.alloc ae z).alloc (by simp;omega) o).trans (dc.mono (by simp;omega)),by simp;omega⟩
theorem ra (w:World) (q:Nat) (h:q<=9223372036854775807):Rd (w.alloc (.cells (madeCells #[Value.int .u32 0] q) 122)) 1 (.slice (some ⟨w.heap.size,0,none⟩) q q) (List.replicate q 0).length (ints .u32 (List.replicate q 0)):=by
 have h1:=World.ownsRow_lit (base:=0) (size:=1) (e:=122) w (madeCells (Value.int .u32 0).cells (q*1)) q (cD _) (by unfold maxLen;omega) (size_madeCells _ _);have h2:=Rd.own (Own.made h1);rw[ya];rw[eM,pg] at h2;exact h2
set_option maxRecDepth 100000 in
theorem Ee (p:Option Addr) (m c n x:Nat) (xs:List Nat) (w:World) (hr:Rd w 1 (.slice p m c) m (ints .u32 xs)) (hx:bR xs) (hv:ag xs=x) (hm:m<=1073741824) (mR:x≠0) (hn:n<=65536):
  Calls Tryz.prog 120 #[.slice p m c,.int .i64 (n:Int)] w λe w'=>∃ v',e=.returned (.tuple #[v',.int .i64 0])/\w'.ownsRow w.heap.size 122 1 v' (limbs (x*2^n)).length (ints .u32 (limbs (x*2^n)))/\Below w.heap.size w w':=by
 obtain⟨p',c',hv',iD,fO,dv⟩:=hr.u32;simp only[Value.slice.injEq,true_and] at hv';obtain⟨rfl,rfl⟩:=hv';have Hr:=ab hr;have HX:=ab dv;have HL:=ab hx;have HV:=ab hv;obtain⟨i0,hi,jN,kM,mZ⟩:=info_parts gW
 have hmk:∀ W:World,(Instr.makeSlice 31 (.int .i64 ((n:Int)/32)) (.int .i64 ((n:Int)/32))).run Tryz.prog W=.ok (.slice (some ⟨W.heap.size,0,none⟩) (n/32) (n/32)) (W.alloc (.cells (madeCells (Value.int .u32 0).cells (n/32*1)) 122)):=λW=>by
  have:=run_make (P:=Tryz.prog) W 31 122 i0 (.int .u32 0) jg hi jN .i64 .i64 ((n:Int)/32) ((n:Int)/32) ae (pw _) (by rw[mZ];omega) ae;rw[kM,show ((n:Int)/32).toNat=n/32 by omega] at this;exact this
 clear dv hr hx hv hi jN kM mZ;refine aE λR' bh=> ?_;go_enter Tryz.func120,Tryz.ntmps120
 go_wp2_with fail
 refine (cE p m c xs _ Hr.out HL.out).mono ?_;rintro e w1 ⟨⟨r,hrm,rfl,DK⟩,rfl⟩
 have nc:Hid ((limbs x).length=r):=by
  show _=_;rw[<-HV.out,DK,aR,HX.out];omega
 have sq:=Hr.out.limbs hrm DK;rw[HV.out] at sq;have HRD:=ab sq;clear DK sq;have xE:0<r:=by rw[<-nc.out];exact cL mR
 have Gx:∀ W:World,Rd W 1 (.slice p r c) r (ints .u32 (limbs x))->Calls Tryz.prog 130 #[.slice p r c,.int .i64 ((n:Int)%32)] W λe w'=>∃ v',e=.returned v'/\Rd w' 1 v' (limbs (x*2^(n%32))).length (ints .u32 (limbs (x*2^(n%32))))/\Below W.heap.size W w':=λW h=>by
  have:=KD (.slice p r c) r (n%32) x W h ae (cM _ ae)
  rwa [show ((n%32:Nat):Int)=(n:Int)%32 by omega] at this
 have HLEFT:=ab Gx;clear Gx
 have uN:(flat [List.replicate (n/32) 0,limbs (x*2^(n%32))])=limbs (x*2^n):=by
  have h1:=Bo (x:=x*2^(n%32)) (n/32) (Nat.mul_ne_zero mR (by have:=nB (n:=n%32) (show 0<2 by omega);omega));simp only[flat,List.flatten_cons,List.flatten_nil,List.append_nil];rw[h1,db,Bm,<-mQ,qO]
 have DL:(flat [List.replicate (n/32) 0,limbs (x*2^(n%32))]).length<=2147483648:=by
  simp only[flat,List.flatten_cons,List.flatten_nil,List.append_nil,List.length_append,List.length_replicate];have:=tK x (n%32) (cM _ ae);rw[nc.out] at this;omega
 have HFL:=ab uN;have HFN:=ab DL;clear uN DL mR;go_wp2_with fail
 have ss:IntKind.i64.wrap ((n:Int)/32)=(n:Int)/32:=bj _ ae;have hw2:(n:Int).tmod 32=(n:Int)%32:=AY ae
 go_region_with (first
  | (go_at_call 130;refine (HLEFT.out _ (by first|exact HRD.out|exact Rd.alloc (Rd.drew HRD.out) _)).mono ?_;rintro e w2 ⟨v2,rfl,hrd2,bO⟩;obtain⟨p2,c2,rfl,_,_,_⟩:=hrd2.form)
  | (go_at_call 129;refine (Ec _ [List.replicate (n/32) 0,limbs (x*2^(n%32))] _ (by first|exact gf.two (heap_alloc_new _ _) (Rd.alloc (Rd.below (Rd.drew (ra _ _ ae)) bO) _) (Rd.alloc hrd2 _)|exact gf.two (Gw bc) (Rd.alloc (ra _ _ ae) _) (Rd.alloc (Rd.alloc hrd2 _) _)) HFN.out).mono ?_;rintro e w3 ⟨v3,rfl,KG,dc⟩))
 all_goals
  go_wp2
  go_ret2
  refine bh.out _ _ ⟨v3,aa,?_,?_⟩
  ·rw[HFL.out] at KG;first|exact Own.mono KG (ordA bO dc).2|exact Own.mono KG (ordB bO dc).2
  ·first|exact (ordA bO dc).1|exact (ordB bO dc).1
theorem sC {k:Nat} (h:(limbs x).length<=m) (hk:32*m<=k):x/2^k=0:=by
 apply tD;have h1:=lW x;have h2:=nu (show 0<4294967296 by omega) h;rw[Bm] at h1 h2;have h3:=nu (show 0<2 by omega) hk;rw[Bm] at h2;omega
set_option maxRecDepth 100000 in
theorem sD (va:Value) (m x:Nat) (n:Int) (xs:List Nat) (w:World) (hr:Rd w 1 va m (ints .u32 xs)) (hx:bR xs) (hv:ag xs=x) (hm:m<=1073741824) (hn0: -9223372036854775808<=n) (hn1:n<=9223372036854775807):
  Calls Tryz.prog 120 #[va,.int .i64 n] w λe w'=>((x≠0/\65536<n/\e=.returned (.tuple #[.slice none 0 0,.int .i64 3]))\/
   (¬ (x≠0/\65536<n)/\∃ v',e=.returned (.tuple #[v',.int .i64 0])/\w'.ownsRow w.heap.size 122 1 v' (limbs (fm x n)).length (ints .u32 (limbs (fm x n)))))/\Below w.heap.size w w':=by
 obtain⟨p,c,rfl,iD,fO,dv⟩:=hr.u32;have Hr:=ab hr;have HX:=ab dv;have HL:=ab hx;have HV:=ab hv;clear dv hr hx hv;by_cases vG:x≠0/\0<=n/\n<=65536
 ·obtain⟨mR,h0,h1⟩:=vG;obtain⟨k,rfl⟩:=Int.eq_ofNat_of_zero_le h0;refine (Ee p m c k x xs w Hr.out HL.out HV.out hm mR ae).mono ?_;rintro e w' ⟨v',rfl,ay,hb⟩;refine⟨.inr ⟨ae,v',aa,?_⟩,hb⟩;have:fm x (k:Int)=x*2^k:=by simp[fm]
  rw[this];exact ay
 ·refine aE λR' bh=> ?_;go_enter Tryz.func120,Tryz.ntmps120
  go_wp2_with fail
  refine (cE p m c xs _ Hr.out HL.out).mono ?_;rintro e w1 ⟨⟨r,hrm,rfl,DK⟩,rfl⟩
  have nc:(limbs x).length=r:=by
   rw[<-HV.out,DK,aR,HX.out];omega
  have sq:=Hr.out.limbs hrm DK;rw[HV.out] at sq;have HRD:=ab sq;have KH:=ab nc;clear DK sq;by_cases mR:x=0
  ·have xE:r=0:=by rw[<-nc,mR,bk];rfl
   have HX0:=ab mR;have Ii:((r:Int) == 0)=true:=by rw[beq_iff_eq];omega
   clear mR xE nc vG;go_wp2_with fail
   refine bh.out _ _ ⟨.inr ⟨λh=>h.1 HX0.out,.slice none 0 0,aa,?_⟩,dJ _ _⟩;have:fm x n=0:=by simp[fm,HX0.out]
   rw[this,bk];exact jh _ _ _ _
  ·have xE:0<r:=by rw[<-nc];exact cL mR
   have Ii:((r:Int) == 0)=false:=by rw[iJ];omega
   clear nc;by_cases hbig:65536<n
   ·go_wp2_with fail
    exact bh.out _ _ ⟨.inl ⟨mR,hbig,aa⟩,dJ _ _⟩
   ·have hneg:n<0:=by
     by_cases h:n<0
     ·exact h
     ·exact absurd ⟨mR,ae,ae⟩ vG
    clear vG;have HX0:=ab mR;clear mR;have hmul:IntKind.i64.wrap (-32*(r:Int))= -32*(r:Int):=bj _ ae;by_cases dN:n<=-32*(r:Int)
    ·go_wp2_with fail
     refine bh.out _ _ ⟨.inr ⟨λh=>ae,.slice none 0 0,aa,?_⟩,dJ _ _⟩
     have:fm x n=0:=by
      unfold fm;rw[if_neg ae];exact sC (m:=r) (by rw[KH.out];exact aM _) ae
     rw[this,bk];exact jh _ _ _ _
    ·obtain⟨k,rfl⟩:∃ k:Nat,n= -(k:Int):=⟨(-n).toNat,ae⟩;obtain⟨b,off,y,rfl,_,_,_⟩:=HRD.out.cellAt (k:=0) xE;have hkr:k/32<r:=ae;have hneq:¬ (c=k/32):=ae;have Gy:0<k:=ae
     have Bs:Rd w 1 (.slice (some ⟨b,off+k/32,none⟩) (r-k/32) (c-k/32)) (r-k/32) (ints .u32 ((limbs x).drop (k/32))):=by
      obtain⟨p',c',hv',h1,h2,h3,h4⟩:=HRD.out;simp only[Value.slice.injEq,true_and] at hv';obtain⟨rfl,rfl⟩:=hv';refine⟨_,_,aa,ae,by unfold maxLen at h2 ⊢;omega,by rw[tH,nz,KH.out];omega,λ_=>⟨b,off+k/32,rfl,λj u hj=> ?_⟩⟩;obtain⟨b',off',hp,hc⟩:=h4 ae;simp only[Option.some.injEq,Addr.mk.injEq,and_true] at hp;obtain⟨rfl,rfl⟩:=hp;rw[<-Ia,tB] at hj;have:=hc _ _ hj
      rwa [<-vA] at this
     have HDR:=ab Bs;clear Bs;have hq1:0<=(k:Int)/32:=ae;have hq2:(k:Int)/32<(r:Int):=ae;go_wp2_with fail
     rw[show (k:Int)%32=((k%32:Nat):Int) by omega];refine (Ik _ _ (k%32) _ _ HDR.out ((ak x).drop _) ae (cM _ ae)).mono ?_;rintro e w1 ⟨⟨v1,m1,rs,rfl,hm1,hrd1,zP,vP⟩,bS⟩;obtain⟨p1,c1,rfl,_,_,hrl⟩:=hrd1.u32;have HR1:=ab hrd1;have HV1:=ab vP;have HRL:=ab hrl;clear hrd1 vP hrl;go_wp2_with fail
     refine (cE p1 m1 c1 rs _ HR1.out zP).mono ?_;rintro e w2 ⟨⟨r2,vQ,rfl,hlr2⟩,rfl⟩;have hml2:Hid ((limbs (ag rs)).length=r2):=by show _=_;rw[hlr2,aR,HRL.out];omega
     have HR2:=ab (HR1.out.limbs vQ hlr2);clear hlr2;go_wp2_with fail
     refine (iZ _ r2 _ _ HR2.out ae).mono ?_;rintro e w2 ⟨v2,rfl,ay,bO⟩
     have hval:fm x (-(k:Int))=ag rs:=by
      unfold fm;rw[if_neg ae,HV1.out,uC x (k/32) (by rw[KH.out];omega),Nat.div_div_eq_div_mul,Bm,<-mQ,yl];simp
     go_wp2_with fail
     refine bh.out _ _ ⟨.inr ⟨λh=>ae,v2,aa,?_⟩,bS.trans (bO.mono bS.size)⟩;rw[hval,hml2.out];exact Own.mono ay bS.size
end
section
theorem Bt {xs:List Nat} {j o v:Nat} (h:xs[j]? =some o):ag (xs.set j v)+4294967296^j*o=ag xs+4294967296^j*v:=by
 obtain⟨hl,he⟩:=bx.1 h;have h1:xs=xs.take j++o::xs.drop (j+1):=by rw[<-he,<-mK hl,oZ]
 have h2:xs.set j v=xs.take j++v::xs.drop (j+1):=by
  conv=>lhs;rw[h1]
  rw[qJ _ _ (by rw[aR];omega)];rw[aR,dF ae,iP];rfl
 have e1:ag xs=ag (xs.take j)+4294967296^j*(o+4294967296*ag (xs.drop (j+1))):=by
  conv=>lhs;rw[h1]
  rw[dA,aR,dF ae,ez]
 have e2:ag (xs.set j v)=ag (xs.take j)+4294967296^j*(v+4294967296*ag (xs.drop (j+1))):=by
  rw[h2,dA,aR,dF ae,ez]
 rw[e1,e2,bg,bg];omega
theorem bR.set {xs:List Nat} (h:bR xs) {v:Nat} (hv:v<4294967296) (j:Nat):bR (xs.set j v):=λy hy=>by
 rcases xZ hy with h1|h1
 ·exact h y h1
 ·rw[h1];exact hv
theorem vR (k:Nat):ag (List.replicate k 0)=0:=fA _ k
theorem vS {xs:List Nat} (k:Nat) (hk:k<=xs.length):ag xs=ag (xs.take k)+4294967296^k*ag (xs.drop k):=gT _ xs k hk
theorem pH {xs:List Nat} {k x:Nat} (h:xs[k]? =some x):ag (xs.drop k)=x+4294967296*ag (xs.drop (k+1)):=pD h
theorem Bu {os:List Nat} {i k x y o c s S Y:Nat} (ho:os[i+k]? =some o) (hs:s=x*y+o+c) (h:ag os+4294967296^(i+k)*c=S+4294967296^i*(x*Y)):
  ag (os.set (i+k) (s%4294967296))+4294967296^(i+(k+1))*(s/4294967296)=S+4294967296^i*(x*(Y+4294967296^k*y)):=by
 have h1:=Bt (v:=s%4294967296) ho;have h2:4294967296^(i+(k+1))=4294967296^(i+k)*4294967296:=by rw[<-vA,dT]
 have h3:4294967296^(i+k)*s=4294967296^(i+k)*(s%4294967296)+4294967296^(i+k)*4294967296*(s/4294967296):=by
  rw[db,<-bg,qO]
 have h4:4294967296^(i+k)*s=4294967296^(i+k)*(x*y)+4294967296^(i+k)*o+4294967296^(i+k)*c:=by rw[hs,bg,bg]
 have h5:4294967296^i*(x*(Y+4294967296^k*y))=4294967296^i*(x*Y)+4294967296^(i+k)*(x*y):=by
  rw[bg,bg,mQ]
  congr 1
  rw[yg x,db]
 rw[h2,h5];omega
theorem rb {x y o c:Nat} (hx:x<4294967296) (hy:y<4294967296) (ho:o<4294967296) (hc:c<4294967296):x*y+o+c<18446744073709551616:=by
 have h1:x*y<=4294967295*4294967295:=qP ae ae;omega
def fB (U V:Nat):Nat:=min 4294967295 (U/V)
theorem Bv {U V:Nat}:fB U V*V<=U:=bA (jR _ (Nat.min_le_right _ _)) (Bb U V)
theorem yz {U V t:Nat} (hV:0<V) (ht:t<=4294967295) (h:t*V<=U):t<=fB U V:=by
 unfold fB;rw[Nat.le_min];exact⟨ht,(yb hV).2 h⟩
theorem Ef {p U V u b lu lb:Nat} (hp:0<p) (hu:u=U*p+lu) (hlu:lu<p) (hb:b=V*p+lb) (DM:lb<p) (hV:4294967296<=V) (hub:u<4294967296*b):
  u/b<=fB U V/\fB U V<=u/b+1:=by
 have hV0:0<V:=ae;have ng:0<b:=by have:0<V*p:=Nat.mul_pos hV0 hp;omega
 constructor
 ·refine yz hV0 ?_ ?_
  ·have:u/b<4294967296:=by rw[AZ ng];exact hub
   omega
  ·have h1:u/b*b<=u:=Bb u b
   have h2:u/b*V*p<=U*p+lu:=by
    rw[hb] at h1;rw[hu,bg,<-db] at h1;rw[<-hb,<-hu] at h1;have:u/b*V*p<=u:=ae;omega
   rcases mP U (u/b*V) with h|h
   ·have h3:(U+1)*p<=u/b*V*p:=jR _ h;rw[cV] at h3;omega
   ·exact h
 ·have hg:=@Bv U V;have hgB:fB U V<=4294967295:=Nat.min_le_left _ _;generalize fB U V=q at hg hgB;have h1:q*V*p<=U*p:=jR _ hg;have h2:q*lb<=4294967295*lb:=jR _ hgB;have h3:q*b=q*V*p+q*lb:=by rw[hb,bg,<-db]
  have h4:4294967296*p<=V*p:=jR _ hV;have h5:q*b<u+b:=ae
  have h6:q<u/b+2:=by
   have h7:u<(u/b+1)*b:=by rw[cV];have e1:=yl u b;have e2:=cM u ng;rw[eh] at e1;omega
   have h8:q*b<(u/b+2)*b:=by rw[cV];rw[cV] at h7;omega
   exact Kk h8
  omega
theorem Eg {B p a y q c r x nh X Y D:Nat} (h:D+q*Y=X+p*(c+r)) (hx:a+B*nh=x+(q*y+c)%B+r):
  (D+p*x)+q*(Y+p*y)=(X+p*a)+p*B*((q*y+c)/B+nh):=by
 have h1:=qO (q*y+c) B;have h2:p*(a+B*nh)=p*x+p*((q*y+c)%B)+p*r:=by rw[hx,bg,bg]
 have h3:p*((q*y+c)%B)+p*(B*((q*y+c)/B))=p*(q*y)+p*c:=by rw[<-bg,h1,bg]
 have h4:q*(Y+p*y)=q*Y+p*(q*y):=by rw[bg,yg]
 have h5:p*B*((q*y+c)/B+nh)=p*(B*((q*y+c)/B))+p*(B*nh):=by rw[db,bg,bg]
 rw[bg] at h2 h;rw[h4,h5];omega
end
section
open Go.RowKit
theorem tab_fin:∀ i:Fin 256,(Lib.len8tab[i.val]'(by have:=i.2;have:Lib.len8tab.size=256:=by decide+kernel
                                                    omega)).toNat=fN i.val:=by decide+kernel
theorem Bw:Lib.len8tab.size=256:=by decide+kernel
theorem tab_at (i:Nat) (h:i<Lib.len8tab.size):(Lib.len8tab[i]'h).toNat=fN i:=tab_fin ⟨i,by rw[Bw] at h;exact h⟩
theorem vT {t k:Nat} (h:2^k<=t):fN t=k+fN (t/2^k):=by
 have hp:0<2^k:=nB ae
 have hq:t/2^k≠0:=by
  have:=(yb hp).2 (show 1*2^k<=t by omega);omega
 have h1:=uH (t/2^k);have h2:=uI hq;have h0:=qV hq;refine Gn ?_ (.inr ?_)
 ·rw[mQ,eh];exact (AZ hp).1 h1
 ·rw[show k+fN (t/2^k)-1=(fN (t/2^k)-1)+k by omega,mQ];exact (yb hp).1 h2
theorem ma {i:Nat} (h:i<256):fN i<=8:=pC (k:=8) h
set_option maxRecDepth 100000 in
theorem Il (x:Int) (w:World) (h0:0<=x) (h1:x<=4294967295):
  Calls Tryz.prog 128 #[.int .u32 x] w λe w'=>e=.returned (.int .i64 (fN x.toNat:Int))/\w=w':=by
 have hsz:(Lib.len8tab.size:Int)=256:=by rw[Bw];rfl
 refine aE λR' bh=> ?_;go_enter Tryz.func128,Tryz.ntmps128
 go_wp2
 all_goals
  refine bh.out _ _ ⟨lx ?_,aa⟩;simp only[tab_at,wrap64]
 all_goals first
  | (have e:=vT (t:=x.toNat) (k:=24) ae
     have b:=ma (i:=x.toNat/2^24) ae;rw[show (x/65536/256).toNat=x.toNat/2^24 by omega];omega)
  | (have e:=vT (t:=x.toNat) (k:=16) ae
     have b:=ma (i:=x.toNat/2^16) ae;rw[show (x/65536).toNat=x.toNat/2^16 by omega];omega)
  | (have e:=vT (t:=x.toNat) (k:=8) ae
     have b:=ma (i:=x.toNat/2^8) ae;rw[show (x/256).toNat=x.toNat/2^8 by omega];omega)
  | (have b:=ma (i:=x.toNat) ae
     omega)
theorem Im (t:Nat) (w:World) (h1:t<4294967296):
  Calls Tryz.prog 128 #[.int .u32 (t:Int)] w λe w'=>e=.returned (.int .i64 (fN t:Int))/\w=w':=by
 have h:=Il (t:Int) w ae ae
 rwa [aQ] at h
theorem Bx (t:Nat) (w:World) (ht:t<4294967296) (h0:t≠0):
  Calls Tryz.prog 119 #[.int .u32 (t:Int)] w λe w'=>(∃ u:Nat,e=.returned (.int .i64 (u:Int))/\u<32/\t*2^u<4294967296)/\w=w':=by
 have hs:=uH t;have hb:fN t<=32:=pC (k:=32) ht;have ng:=qV h0;refine aE λR' bh=> ?_;go_enter Tryz.func119,Tryz.ntmps119
 go_wp2_with fail
 refine (Im t _ ht).mono ?_;rintro e w1 ⟨rfl,rfl⟩;generalize fN t=L at*;go_wp2_with fail
 refine bh.out _ _ ⟨⟨32-L,lx ae,ae,?_⟩,aa⟩;have h1:t*2^(32-L)<2^L*2^(32-L):=Nat.mul_lt_mul_of_pos_right hs (nB ae);rw[<-mQ,show L+(32-L)=32 by omega] at h1;exact h1
def vU (w:World) (B n m:Nat) (xs ys:List Nat) (v iv:Value) (wr:World):Prop:=
 ∃ (i:Nat) (os:List Nat),i<=n/\iv=.int .i64 (i:Int)/\os.length=n+m/\bR os/\(∀ j,i+m<=j->∀ x,os[j]? =some x->x=0)/\ag os=ag (xs.take i)*ag ys/\
   wr.ownsRow B 122 1 v (n+m) (ints .u32 os)/\Below B w wr
def Bz (w:World) (B n m i S x:Nat) (ys:List Nat) (v cv kv:Value) (wr:World):Prop:=
 ∃ (k c:Nat) (os:List Nat),k<=m/\kv=.int .i64 (k:Int)/\cv=.int .u64 (c:Int)/\c<4294967296/\os.length=n+m/\bR os/\(∀ j,i+m<=j->∀ x,os[j]? =some x->x=0)/\
   ag os+4294967296^(i+k)*c=S+4294967296^i*(x*ag (ys.take k))/\wr.ownsRow B 122 1 v (n+m) (ints .u32 os)/\Below B w wr
theorem KJ {os:List Nat} {i m j v:Nat} (h:∀ j,i+m<=j->∀ x,os[j]? =some x->x=0) (hj:j<i+m):∀ l,i+m<=l->∀ x,(os.set j v)[l]? =some x->x=0:=λl hl x hx=>by
 rw[List.getElem?_set_ne ae] at hx;exact h l hl x hx
theorem Bz.step {w wr:World} {B n m i S x y o k c g cap:Nat} {ys os:List Nat} {q r:Int} (hk:k<m) (_:i<n) (hl:os.length=n+m) (vV:bR os) (hz:∀ j,i+m<=j->∀ x,os[j]? =some x->x=0)
  (hv:ag os+4294967296^(i+k)*c=S+4294967296^i*(x*ag (ys.take k))) (ay:wr.ownsRow B 122 1 (.slice (some ⟨g,0,none⟩) (n+m) cap) (n+m) (ints .u32 os)) (hb:Below B w wr)
  (hy:ys[k]? =some y) (ho:os[i+k]? =some o) (ja:x<4294967296) (yv:y<4294967296) (xG:c<4294967296) (hq:q=(((x*y+o+c)%4294967296:Nat):Int)) (hr:r=(((x*y+o+c)/4294967296:Nat):Int)):
  Bz w B n m i S x ys (.slice (some ⟨g,0,none⟩) (n+m) cap) (.int .u64 r) (.int .i64 ((k:Int)+1)) (wr.setCell ⟨g,i+k,none⟩ (.int .u32 q)):=by
 subst hq;subst hr;have ho4:=vV.at ho;have hs:=rb ja yv ho4 xG;refine⟨k+1,(x*y+o+c)/4294967296,os.set (i+k) ((x*y+o+c)%4294967296),ae,aa,aa,ae,by simp[hl],vV.set (cM _ ae) _,KJ hz ae,?_,Own.fc ay,hb.setCell (Own.lt ay).1 _⟩;have h1:ag (ys.take (k+1))=ag (ys.take k)+4294967296^k*y:=by rw[aO,List.getD,hy];rfl
 rw[h1];exact Bu ho aa hv
theorem vU.step {w wr:World} {B n m i x c g cap:Nat} {xs ys os:List Nat} {q:Int} (hi:i<n) (hl:os.length=n+m) (vV:bR os) (hz:∀ j,i+m<=j->∀ x,os[j]? =some x->x=0) (hm:ys.length=m)
  (hv:ag os+4294967296^(i+m)*c=ag (xs.take i)*ag ys+4294967296^i*(x*ag (ys.take m))) (ay:wr.ownsRow B 122 1 (.slice (some ⟨g,0,none⟩) (n+m) cap) (n+m) (ints .u32 os)) (hb:Below B w wr)
  (hx:xs[i]? =some x) (xG:c<4294967296) (hq:q=(c:Int)):
  vU w B n m xs ys (.slice (some ⟨g,0,none⟩) (n+m) cap) (.int .i64 ((i:Int)+1)) (wr.setCell ⟨g,i+m,none⟩ (.int .u32 q)):=by
 subst hq;obtain⟨o,ho⟩:∃ o,os[i+m]? =some o:=⟨_,aZ ae⟩;obtain rfl:=hz (i+m) (aM _) o ho;refine⟨i+1,os.set (i+m) c,ae,aa,by simp[hl],vV.set xG _,λj hj y hy=> ?_,?_,Own.fc ay,hb.setCell (Own.lt ay).1 _⟩
 ·rw[List.getElem?_set_ne ae] at hy;exact hz j ae y hy
 ·have h1:=Bt (v:=c) ho;have h2:ag (xs.take (i+1))=ag (xs.take i)+4294967296^i*x:=by rw[aO,List.getD,hx];rfl
  rw[bb (dI hm)] at hv;rw[h2,cV,db];omega
set_option maxRecDepth 100000 in
theorem KL (va vb:Value) (n m:Nat) (xs ys:List Nat) (w:World) (hr:Rd w 1 va n (ints .u32 xs)) (hs:Rd w 1 vb m (ints .u32 ys)) (hx:bR xs) (hy:bR ys) (hn:n<=536870912) (hm:m<=536870912):
  Calls Tryz.prog 100 #[va,vb] w λe w'=>∃ v',e=.returned v'/\w'.ownsRow w.heap.size 122 1 v' (limbs (ag xs*ag ys)).length (ints .u32 (limbs (ag xs*ag ys)))/\Below w.heap.size w w':=by
 obtain⟨p,c,rfl,iD,fO,dv⟩:=hr.u32;obtain⟨q,d,rfl,JX,DJ,ij⟩:=hs.u32;obtain⟨i0,hi,jN,kM,mZ⟩:=info_parts gW;have Hr:=ab hr;have Hs:=ab hs;have HLX:=ab hx;have HLY:=ab hy;have HX:=ab dv;have HY:=ab ij;obtain⟨B,hB⟩:∃ B,B=w.heap.size:=⟨_,aa⟩;have HB:=ab hB;rw[<-hB];clear hr hs hx hy dv ij hB;refine aE λR' bh=> ?_;go_enter Tryz.func100,Tryz.ntmps100
 go_wp2_with (at_make;refine wpList_make_full _ aa _ _ 31 aa B 122 i0 (.int .u32 0) 1 jg hi jN kM .i64 .i64 _ _ (n+m) aa aa ae ae (by rw[mZ];omega) (by unfold maxLen;omega) (dI HB.out) ?_;intro w1 ay Ig)
 have Ea:=ab (Own.made ay);have Hb1:Hid (Below B w w1):=(dJ _ _).grown Ig (dI HB.out) (λk hk=>by cases hk);clear ay Ig hi jN kM mZ;go_wp2_with fail
 go_loopw [20] (λiv wr=>vU w B n m xs ys (.slice (some ⟨w.heap.size,0,none⟩) (n+m) (n+m)) iv wr) (λiv _=>n-(intOf iv).toNat)
 case atStart=>exact⟨0,List.replicate (n+m) 0,cD _,aa,bc,dp.replicate ae _,λj _ x hx=>by rw[List.getElem?_replicate] at hx;split at hx <;> simp_all,by rw[vR];simp[dz],by simpa using Ea.out,Hb1.out⟩
 case round=>
  obtain⟨i,os,tL,rfl,hl,vV,hz,hv,ay,hb⟩:=hrel;have HLO:=ab hl;have HLIM:=ab vV;have HZ:=ab hz;have HV:=ab hv;have HO:=ab ay;have fx:=ab hb;have hsz:=hb.size;clear hl vV hz hv ay hb;by_cases Eh:i<n
  ·obtain⟨b1,o1,x,rfl,bS,fo,pU⟩:=(Hr.out.gL HB.out fx.out).cellAt Eh;have uM:=ab fo;have ja:=HLX.out.at fo;clear fo;go_wp2_with fail
   obtain⟨wo,rfl⟩:∃ wo:World,wo=wr:=⟨_,aa⟩;go_loopw [8,27] (λcv kv wr'=>Bz w B n m i (ag (xs.take i)*ag ys) x ys (.slice (some ⟨w.heap.size,0,none⟩) (n+m) (n+m)) cv kv wr') (λ_ kv _=>m-(intOf kv).toNat)
   case atStart=>exact⟨0,0,os,cD _,aa,aa,ae,HLO.out,HLIM.out,HZ.out,by rw[HV.out];simp[dz],HO.out,fx.out⟩
   case round=>
    obtain⟨k,c',os',Eb,rfl,rfl,xG,Ei,BA,hz',hv',hown',sw⟩:=hrel;have HLO':=ab Ei;have BB:=ab BA;have HZ':=ab hz';have HV':=ab hv';have HO':=ab hown';have KM:=ab sw;clear Ei BA hz' hv' hown' sw;obtain⟨o,ho,hco,hfo⟩:=Own.fu HO'.out (j:=i+k) ae;have HOK:=ab ho;have ho4:=BB.out.at ho;clear ho;by_cases hklt:k<m
    ·obtain⟨b2,o2,y,rfl,bO,nG,DZ⟩:=(Hs.out.gL HB.out KM.out).cellAt hklt;have Gt:=ab nG;have yv:=HLY.out.at nG;clear nG;have hsm:=rb ja yv ho4 xG;have m0:0<=(x:Int)*(y:Int):=by rw[<-pe];omega
     have m1:(x:Int)*(y:Int)+(o:Int)+(c':Int)<18446744073709551616:=by rw[<-pe];omega
     have Ip:IntKind.i64.wrap ((i:Int)+(k:Int))=((i+k:Nat):Int):=by rw[bj _ ae];simp
     clear hsm;go_wp2_with fail
     go_roundw
     case rel=>
      first
      | exact Bz.step hklt Eh HLO'.out BB.out HZ'.out HV'.out HO'.out KM.out Gt.out HOK.out ja yv xG bc bc
      | ((repeat apply Exists.intro);exact⟨Bz.step hklt Eh HLO'.out BB.out HZ'.out HV'.out HO'.out KM.out Gt.out HOK.out ja yv xG bc bc,aa⟩)
     case measure=>simp[intOf];omega
    ·obtain rfl:k=m:=by omega
     have Ip:IntKind.i64.wrap ((i:Int)+(k:Int))=((i+k:Nat):Int):=by rw[bj _ ae];simp
     go_wp2_with fail
     go_roundw
     case rel=>
      first
      | exact vU.step Eh HLO'.out BB.out HZ'.out HY.out HV'.out HO'.out KM.out uM.out xG aa
      | ((repeat apply Exists.intro);exact⟨vU.step Eh HLO'.out BB.out HZ'.out HY.out HV'.out HO'.out KM.out uM.out xG aa,aa⟩)
     case measure=>simp[intOf];omega
  ·obtain rfl:i=n:=by omega
   go_wp2_with fail
   refine (ig _ (i+m) os _ (Rd.own HO.out) HLIM.out ae).mono ?_;rintro e w2 ⟨v',rfl,js,bO⟩;go_wp2_with fail
   have h:=HV.out;rw[bb (dI HX.out)] at h;rw[h] at js;exact bh.out _ _ ⟨v',aa,Own.mono js (by have:=HB.out;omega),fx.out.trans (bO.mono (by have:=HB.out;omega))⟩
end
section
open Go.RowKit
def BC (w:World) (U2 v1 V U:Nat) (qv rv:Value) (wr:World):Prop:=
 ∃ q r dn:Nat,qv=.int .u64 (q:Int)/\rv=.int .u64 (r:Int)/\q*v1+r=U2/\r<4294967296/\(∀ t:Nat,t<=4294967295->t*V<=U->t<=q)/\wr=w.drewN dn
variable {B U2 v1 v2 low:Nat}
theorem zQ (vP:0<v1) (hl:low<B) (t:Nat) (h:t*(v1*B+v2)<=U2*B+low):t<=U2/v1:=by
 rw[yb vP];rw[bg,<-db] at h;have h1:t*v1*B<(U2+1)*B:=by rw[cV];omega
 have:=Kk h1;omega
theorem BD (vP:0<v1) (hl:low<4294967296):∀ t:Nat,t<=4294967295->t*(v1*4294967296+v2)<=U2*4294967296+low->t<=U2/v1:=λt _ h=>zQ vP hl t h
variable {r:Nat}
theorem vW {q:Nat} (h:q*v1+r=U2) (hf:q*v2<=r*B+low):q*(v1*B+v2)<=U2*B+low:=by
 subst h;rw[bg,<-db,cV];omega
theorem Ej {q:Nat} (h:q*v1+r=U2) (hf:r*B+low<q*v2):U2*B+low<q*(v1*B+v2):=by
 subst h;rw[bg,<-db,cV];omega
theorem BF {q V U:Nat} (hV:0<V) (hq:q<=4294967295) (hf:q*V<=U) (hm:∀ t:Nat,t<=4294967295->t*V<=U->t<=q):q=fB U V:=
 Nat.le_antisymm (yz hV hq hf) (hm _ (Nat.min_le_left _ _) Bv)
theorem BG {q:Nat} (h:q*v1+r=U2) (hr:4294967296<=r) (hU:U2<v1*4294967296+4294967296) (hv2:v2<4294967296):q<=4294967295/\q*v2<=r*4294967296+low:=by
 have h1:q*v1<4294967296*v1:=ae;have h2:q<4294967296:=Kk h1;have h3:q*v2<=4294967295*4294967295:=qP ae ae;omega
set_option maxRecDepth 100000 in
theorem Iq (hi mid low v1 v2:Nat) (w:World) (hhi:hi<=v1) (lX:mid<4294967296) (hlow:low<4294967296) (h1:0<v1) (h14:v1<4294967296) (h2:v2<4294967296):
  Calls Tryz.prog 121 #[.int .u32 (hi:Int),.int .u32 (mid:Int),.int .u32 (low:Int),.int .u32 (v1:Int),.int .u32 (v2:Int)] w λe w'=>
   e=.returned (.int .u64 (fB ((hi*4294967296+mid)*4294967296+low) (v1*4294967296+v2):Int))/\∃ k,w'=w.drewN k:=by
 have hhi4:hi<4294967296:=ae
 have vI:bits BinOp.or IntKind.u64 ((hi:Int)*4294967296) (mid:Int)=((hi*4294967296+mid:Nat):Int):=by
  have e1:((hi:Int)*4294967296)=((hi*4294967296:Nat):Int):=bc;rw[e1,u64_or_nat _ _ ae ae,nat_join 32 _ _ ae ae]
 obtain⟨U2,hU2⟩:∃ U2,U2=hi*4294967296+mid:=⟨_,aa⟩;have hU:U2<v1*4294967296+4294967296:=ae;rw[<-hU2] at vI ⊢;have xH:((v1:Int) != 0)=true:=by rw[bne_iff_ne];omega
 have hV:0<v1*4294967296+v2:=ae;obtain⟨V,hVe⟩:∃ V,V=v1*4294967296+v2:=⟨_,aa⟩;obtain⟨U,hUe⟩:∃ U,U=U2*4294967296+low:=⟨_,aa⟩;rw[<-hVe,<-hUe];rw[<-hVe] at hV;have HV:=ab hVe;have HU:=ab hUe;have HST:Hid (∀ t:Nat,t<=4294967295->t*V<=U->t<=U2/v1):=by rw[hVe,hUe];exact BD h1 hlow
 have HUU:=ab hU;have DJ:=yl U2 v1;have nc:=cM U2 h1;have hU64:U2<18446744073709551616:=ae;have d1:((U2/v1:Nat):Int)=(U2:Int)/(v1:Int):=bc;have d2:((U2%v1:Nat):Int)=(U2:Int)%(v1:Int):=bc;have dl:(U2:Int)/(v1:Int)<18446744073709551616:=by rw[<-d1];have:=yk U2 v1;omega
 have dl0:0<=(U2:Int)/(v1:Int):=Int.ediv_nonneg ae ae;have dm0:0<=(U2:Int)%(v1:Int):=Int.emod_nonneg _ ae;have dm1:(U2:Int)%(v1:Int)<4294967296:=by rw[<-d2];omega
 have HDM:=ab DJ;have KH:=ab nc;have HD1:=ab d1;have HD2:=ab d2;clear hVe hUe hU DJ nc d1 d2 hU2;refine aE λR' bh=> ?_;go_enter Tryz.func121,Tryz.ntmps121
 go_wp2_with fail
 go_step3
 go_wp2_with fail
 go_quiet (fail)
 go_wp2_with fail
 go_step3
 go_wp2_with fail
 go_loopw [12,13] (λqv rv wr=>BC w U2 v1 V U qv rv wr) (λqv _ _=>(intOf qv).toNat)
 case atStart=>exact⟨U2/v1,U2%v1,_,by rw[HD1.out],by rw[HD2.out],by rw[eh];exact HDM.out,Nat.lt_trans KH.out h14,HST.out,aa⟩
 case round=>
  obtain⟨q,r,dn,rfl,rfl,hqr,hr,hmax,rfl⟩:=hrel;have HQR:=ab hqr;have HMAX:=ab hmax
  have hq64:(q:Int)<18446744073709551616:=by
   have h3:q*1<=q*v1:=gG _ h1;omega
  have hr64:(r:Int)+(v1:Int)<18446744073709551616:=ae;clear hqr hmax dl dl0 dm0 dm1 vI
  have next:(∀ t:Nat,t<=4294967295->t*V<=U->t<=q-1)->1<=q->r+v1<4294967296->BC w U2 v1 V U (.int .u64 ((q:Int)-1)) (.int .u64 ((r:Int)+(v1:Int))) (w.drewN dn):=λa b c=>
   ⟨q-1,r+v1,dn,by rw[show ((q-1:Nat):Int)=(q:Int)-1 by omega],bc,by
    have h3:=HQR.out;obtain⟨k,rfl⟩:∃ k,q=k+1:=⟨q-1,ae⟩;rw[cV] at h3;simp only[Nat.add_sub_cancel];omega,c,a,rfl⟩
  have stop:(∀ t:Nat,t<=4294967295->t*V<=U->t<=q-1)->1<=q->4294967296<=r+v1->(q:Int)-1=(fB U V:Int):=λa b c=>by
   have h3:=HQR.out;obtain⟨k,rfl⟩:∃ k,q=k+1:=⟨q-1,ae⟩;have h4:k*v1+(r+v1)=U2:=by rw[cV] at h3;omega
   obtain⟨h5,h6⟩:=BG (low:=low) h4 c HUU.out h2;have h7:k=fB U V:=BF hV h5 (by rw[HV.out,HU.out];exact vW h4 h6) (by simpa using a);omega
  have HNEXT:=ab next
  have HSTOP:=ab stop;clear next stop
  by_cases hqB:4294967296<=q
  ·have c1:4294967295<(q:Int):=by omega
   have hA:Hid (∀ t:Nat,t<=4294967295->t*V<=U->t<=q-1):=λt ht _=>ae;have c2:0<=(q:Int)-1:=ae;by_cases Ii:r+v1<4294967296
   ·have c3:decide (4294967295<(r:Int)+(v1:Int))=false:=bo ae;go_wp2_with fail
    go_roundw
    case rel=>exact HNEXT.out hA.out ae Ii
    case measure=>simp[intOf];omega
   ·have c3:4294967295<(r:Int)+(v1:Int):=by omega
    go_wp2_with fail
    exact bh.out _ _ ⟨lx (HSTOP.out hA.out ae ae),_,aa⟩
  ·have c1:(q:Int)<=4294967295:=by omega
   have m2:q*v2<=4294967295*4294967295:=qP ae ae;have m0:0<=(q:Int)*(v2:Int):=by rw[<-pe];omega
   have m1:(q:Int)*(v2:Int)<18446744073709551616:=by rw[<-pe];omega
   have vI:bits BinOp.or IntKind.u64 ((r:Int)*4294967296) (low:Int)=((r*4294967296+low:Nat):Int):=by
    have e1:((r:Int)*4294967296)=((r*4294967296:Nat):Int):=bc;rw[e1,u64_or_nat _ _ ae ae,nat_join 32 _ _ ae ae]
   obtain⟨RL,hRL⟩:∃ RL,RL=r*4294967296+low:=⟨_,aa⟩;rw[<-hRL] at vI;have HRL:=ab hRL;by_cases hc:RL<q*v2
   ·have cc:(RL:Int)<(q:Int)*(v2:Int):=by rw[<-pe];omega
    have hq1:1<=q:=by
     rcases lg q with h|h
     ·subst h;rw[yn] at hc;omega
     ·exact h
    have hA:Hid (∀ t:Nat,t<=4294967295->t*V<=U->t<=q-1):=λt ht hf=>by
     have h3:=HMAX.out t ht hf;have h4:=Ej (B:=4294967296) (low:=low) HQR.out (by rw[<-hRL];exact hc);rw[<-HV.out,<-HU.out] at h4;have h5:t≠q:=λe=>by subst e;omega
     omega
    have c2:0<=(q:Int)-1:=ae;clear m2 hc hRL;by_cases Ii:r+v1<4294967296
    ·have c3:decide (4294967295<(r:Int)+(v1:Int))=false:=bo ae;go_wp2_with fail
     go_roundw
     case rel=>exact HNEXT.out hA.out ae Ii
     case measure=>simp[intOf];omega
    ·have c3:4294967295<(r:Int)+(v1:Int):=by omega
     go_wp2_with fail
     exact bh.out _ _ ⟨lx (HSTOP.out hA.out ae ae),_,aa⟩
   ·have cc:decide ((RL:Int)<(q:Int)*(v2:Int))=false:=bo (by rw[<-pe];omega);have cx:decide (4294967295<(q:Int))=false:=bo ae;have he:q=fB U V:=BF hV ae (by rw[HV.out,HU.out];exact vW HQR.out (by rw[<-hRL];omega)) HMAX.out;have HE:=ab he;clear m2 hc hRL he c1;go_wp2_with fail
    exact bh.out _ _ ⟨by rw[<-HE.out];rfl,_,rfl⟩
end
section
open Go.RowKit
theorem Rd.re {w w':World} {g sz n:Nat} {v:Value} {cs:List Value} (h:Rd w sz v n cs) (hg:w.grownBy w' (some g)) (hne:∀ p c a,v=.slice p n c->p=some a->a.block≠g):Rd w' sz v n cs:=by
 obtain⟨p,c,rfl,h1,h2,h3,h4⟩:=h;refine⟨p,c,aa,h1,h2,h3,λhn=> ?_⟩;obtain⟨b,off,hp,hc⟩:=h4 hn;refine⟨b,off,hp,λj u hj=> ?_⟩;exact hg.cell (hc j u hj) (λe=>hne p c _ aa hp (by simpa using e))
theorem kO (w:World) (row:Option Nat):w.grownBy w row:=⟨rfl,rfl,rfl,aM _,λ_ _ _=>rfl⟩
theorem xI {a b c:World} {row:Option Nat} (h:a.grownBy b row) (k:b.grownBy c row):a.grownBy c row:=
 ⟨k.os.trans h.os,k.tape.trans h.tape,k.output.trans h.output,bA h.size k.size,λj hj hne=>(k.block j (mN hj h.size) hne).trans (h.block j hj hne)⟩
theorem mc {w wr:World} {g j:Nat} {u:Value} (h:w.grownBy wr (some g)):w.grownBy (wr.setCell ⟨g,j,none⟩ u) (some g):=
 ⟨h.os,h.tape,h.output,by simpa [World.setCell] using h.size,λk hk hne=>(nw wr ⟨g,j,none⟩ u k (λe=>hne (by rw[e]))).trans (h.block k hk hne)⟩
theorem uO {pre D A post:List Nat} {i k a:Nat} (hp:pre.length=i) (hD:D.length=k) (ha:A[k]? =some a):(pre++(D++(A.drop k++post)))[i+k]? =some a:=by
 subst hp;subst hD;obtain⟨hl,he⟩:=bx.1 ha;rw[nr ae,Ga,nr (aM _),iP,mK hl,pc,List.getElem?_cons_zero,he]
theorem Gz {pre D A post:List Nat} {i k x:Nat} (hp:pre.length=i) (hD:D.length=k) (hl:k<A.length):(pre++(D++(A.drop k++post))).set (i+k) x=pre++((D++[x])++(A.drop (k+1)++post)):=by
 subst hp;subst hD;rw[qJ _ _ ae,Ga,qJ _ _ (aM _),iP,mK hl,pc,Bd,nx];rfl
theorem rf (n:Int):IntKind.u64.wrap n=n%18446744073709551616:=by simp[IntKind.wrap,IntKind.bits,IntKind.signed]
theorem BH {a lo r:Nat} (ha:a<4294967296) (hl:lo<4294967296) (hr:r<=1):∃ S1 S2 x r':Nat,IntKind.u64.wrap ((a:Int)-(lo:Int))=(S1:Int)/\IntKind.u64.wrap ((S1:Int)-(r:Int))=(S2:Int)/\
  (S2:Int)%4294967296=(x:Int)/\(S2:Int)/9223372036854775808=(r':Int)/\r'<=1/\x<4294967296/\a+4294967296*r'=x+lo+r/\S1<18446744073709551616/\S2<18446744073709551616:=by
 refine⟨(((a:Int)-lo)%18446744073709551616).toNat,(((a:Int)-lo-r)%18446744073709551616).toNat,(((a:Int)-lo-r)%4294967296).toNat,(if lo+r<=a then 0 else 1),?_,?_,?_,?_,?_,?_,?_,?_,?_⟩
 ·rw[rf];omega
 ·rw[rf];omega
 ·omega
 ·split <;> omega
 ·split <;> omega
 ·omega
 ·split <;> omega
 ·omega
 ·omega
def rh (w:World) (B g N cap L q:Nat) (pre A post ys:List Nat) (cv bv kv:Value) (wr:World):Prop:=
 ∃ (k c r:Nat) (D:List Nat),k<=L/\kv=.int .i64 (k:Int)/\cv=.int .u64 (c:Int)/\bv=.int .u64 (r:Int)/\c<4294967296/\r<=1/\D.length=k/\bR D/\
   ag D+q*ag (ys.take k)=ag (A.take k)+4294967296^k*(c+r)/\4294967296^k*c<=q*ag (ys.take k)/\
   wr.ownsRow B 122 1 (.slice (some ⟨g,0,none⟩) N cap) N (ints .u32 (pre++(D++(A.drop k++post))))/\w.grownBy wr (some g)
theorem rh.step {w wr:World} {B g N cap i L q k c r y a x r' P:Nat} {pre A post ys D:List Nat} {xi ci ri:Int} (hk:k<L) (hA:A.length=L) (BI:pre.length=i) (hD:D.length=k) (vV:bR D)
  (hv:ag D+q*ag (ys.take k)=ag (A.take k)+4294967296^k*(c+r)) (hc:4294967296^k*c<=q*ag (ys.take k))
  (ay:wr.ownsRow B 122 1 (.slice (some ⟨g,0,none⟩) N cap) N (ints .u32 (pre++(D++(A.drop k++post))))) (hg:w.grownBy wr (some g))
  (hy:ys.getD k 0=y) (ha:A[k]? =some a) (hP:P=q*y+c) (hP64:P<18446744073709551616) (ja:x<4294967296) (Br:r'<=1) (he:a+4294967296*r'=x+P%4294967296+r)
  (hxi:xi=(x:Int)) (hci:ci=((P/4294967296:Nat):Int)) (Ir:ri=(r':Int)):
  rh w B g N cap L q pre A post ys (.int .u64 ci) (.int .u64 ri) (.int .i64 ((k:Int)+1)) (wr.setCell ⟨g,i+k,none⟩ (.int .u32 xi)):=by
 subst hxi;subst hci;subst Ir;subst hP;have h1:=Own.fc (j:=i+k) (x:=x) ay;rw[Gz BI hD ae] at h1;have e1:ag (ys.take (k+1))=ag (ys.take k)+4294967296^k*y:=by rw[aO,hy]
 have e2:ag (A.take (k+1))=ag (A.take k)+4294967296^k*a:=by rw[aO,List.getD,ha];rfl
 refine⟨k+1,(q*y+c)/4294967296,r',D++[x],ae,aa,aa,aa,ae,Br,by simp[hD],vV.append (bR.cons ja bR.nil),?_,?_,h1,mc hg⟩
 ·rw[df,hD,e1,e2,dT];exact Eg hv he
 ·rw[e1,dT,bg]
  have h3:4294967296^k*4294967296*((q*y+c)/4294967296)<=4294967296^k*(q*y+c):=by
   rw[db];exact gG _ (Nat.mul_div_le _ _)
  rw[bg,yg] at h3;omega
def rj (w:World) (B g N cap L:Nat) (pre A post ys:List Nat) (cv kv:Value) (wr:World):Prop:=
 ∃ (k c:Nat) (D:List Nat),k<=L/\kv=.int .i64 (k:Int)/\cv=.int .u32 (c:Int)/\c<=1/\D.length=k/\bR D/\
   ag D+4294967296^k*c=ag (A.take k)+ag (ys.take k)/\
   wr.ownsRow B 122 1 (.slice (some ⟨g,0,none⟩) N cap) N (ints .u32 (pre++(D++(A.drop k++post))))/\w.grownBy wr (some g)
theorem rj.step {w wr:World} {B g N cap i L k c y a:Nat} {pre A post ys D:List Nat} (hk:k<L) (hA:A.length=L) (BI:pre.length=i) (hD:D.length=k) (vV:bR D) (hc:c<=1)
  (hv:ag D+4294967296^k*c=ag (A.take k)+ag (ys.take k))
  (ay:wr.ownsRow B 122 1 (.slice (some ⟨g,0,none⟩) N cap) N (ints .u32 (pre++(D++(A.drop k++post))))) (hg:w.grownBy wr (some g))
  (hy:ys.getD k 0=y) (ha:A[k]? =some a) (ha4:a<4294967296) (yv:y<4294967296):
  rj w B g N cap L pre A post ys (.int .u32 (((a+y+c)/4294967296:Nat):Int)) (.int .i64 ((k:Int)+1)) (wr.setCell ⟨g,i+k,none⟩ (.int .u32 (((a+y+c)%4294967296:Nat):Int))):=by
 have h1:=Own.fc (j:=i+k) (x:=(a+y+c)%4294967296) ay;rw[Gz BI hD ae] at h1;have e1:ag (ys.take (k+1))=ag (ys.take k)+4294967296^k*y:=by rw[aO,hy]
 have e2:ag (A.take (k+1))=ag (A.take k)+4294967296^k*a:=by rw[aO,List.getD,ha];rfl
 refine⟨k+1,(a+y+c)/4294967296,D++[(a+y+c)%4294967296],ae,aa,aa,ae,by simp[hD],vV.append (bR.cons (cM _ ae) bR.nil),?_,h1,mc hg⟩;rw[df,hD,e1,e2,dT];exact Bl _ _ a y c _ _ _ hv aa
def TookAt (w w':World) (B g N cap:Nat) (pre A post ys:List Nat) (q q':Nat):Prop:=
 ∃ A':List Nat,A'.length=A.length/\bR A'/\ag A' +q' *ag ys=ag A/\(q*ag ys<=ag A/\q'=q\/ag A<q*ag ys/\q' +1=q)/\
   w'.ownsRow B 122 1 (.slice (some ⟨g,0,none⟩) N cap) N (ints .u32 (pre++(A'++post)))/\w.grownBy w' (some g)
set_option maxRecDepth 100000 in
theorem KN (g N cap i L capw n q B:Nat) (pre A post ys:List Nat) (vb:Value) (w:World) (ay:w.ownsRow B 122 1 (.slice (some ⟨g,0,none⟩) N cap) N (ints .u32 (pre++(A++post))))
  (BI:pre.length=i) (hA:A.length=L) (hlA:bR A) (hs:Rd w 1 vb n (ints .u32 ys)) (mY:bR ys) (hne:∀ p c a,vb=.slice p n c->p=some a->a.block≠g) (hL:L=n+1) (hLc:L<=capw) (GA:capw<=9223372036854775807)
  (hq:q<4294967296) (hqb:q*ag ys<=ag A+ag ys):
  Calls Tryz.prog 122 #[.slice (some ⟨g,i,none⟩) L capw,vb,.int .u64 (q:Int)] w λe w'=>∃ q':Nat,e=.returned (.int .u32 (q':Int))/\TookAt w w' B g N cap pre A post ys q q':=by
 obtain⟨p,c,rfl,iD,fO,ij⟩:=hs.u32;have Hs:=ab hs;have Kb:=ab hlA;have HLY:=ab mY;have HNE:=ab hne;have HO:=ab ay;have HA:=ab hA;have HP:=ab BI;have HY:=ab ij;have HQB:=ab hqb;have HLL:=ab hL;clear hs hlA mY hne ay hA BI ij hqb hL;refine aE λR' bh=> ?_;go_enter Tryz.func122,Tryz.ntmps122
 go_wp2_with fail
 go_loopw [7,8,18] (λcv bv kv wr=>rh w B g N cap L q pre A post ys cv bv kv wr) (λ_ _ kv _=>L-(intOf kv).toNat)
 case atStart=>exact⟨0,0,0,[],cD _,aa,aa,aa,ae,ae,aa,bR.nil,by simp[dz],bc,by simpa using HO.out,kO _ _⟩
 case round=>
  obtain⟨k,c,r,D,hkL,rfl,rfl,rfl,xG,sx,hD,hlD,hv,hcc,ay,hg⟩:=hrel;have HD:=ab hD;have yw:=ab hlD;have HV:=ab hv;have HCC:=ab hcc;have HOW:=ab ay;have HG:=ab hg;clear hD hlD hv hcc ay hg;by_cases DN:k<L
  ·obtain⟨a,ha⟩:∃ a,A[k]? =some a:=⟨_,aZ (by rw[HA.out];exact DN)⟩;have ha4:=Kb.out.at ha;have HAK:=ab ha
   have hlt:i+k<N:=by
    have h1:=HOW.out.1;have h2:=(bx.1 (uO (post:=post) HP.out HD.out ha)).1;simp at h1 h2;omega
   obtain⟨a',ha',hca,hfa⟩:=Own.fu HOW.out (j:=i+k) hlt;rw[uO HP.out HD.out ha] at ha';obtain rfl:=pj ha';have Ij:=gV hca;simp only at Ij;clear ha ha';by_cases tJ:k<n
   ·obtain⟨b2,o2,y,rfl,bO,nG,DZ⟩:=(Hs.out.re HG.out HNE.out).cellAt tJ;have Gt:Hid (ys.getD k 0=y):=by show _=_;rw[List.getD,nG];rfl
    have yv:=HLY.out.at nG;clear nG;have m3:q*y<=4294967295*4294967295:=qP ae ae;have m0:0<=(q:Int)*(y:Int):=by rw[<-pe];omega
    have m1:(q:Int)*(y:Int)<18446744073709551616:=by rw[<-pe];omega
    obtain⟨P,hP⟩:∃ P,P=q*y+c:=⟨_,aa⟩;have hP64:P<18446744073709551616:=ae;have hPi:(q:Int)*(y:Int)+(c:Int)=(P:Int):=by rw[hP];simp
    obtain⟨lo,JW⟩:∃ lo,lo=P%4294967296:=⟨_,aa⟩;have hlo4:lo<4294967296:=ae;have hloi:(P:Int)%4294967296=(lo:Int):=ae;obtain⟨S1,S2,x,r',f1,f2,f3,f4,f5,f6,f7,f8,f9⟩:=BH ha4 hlo4 sx;have HF7:=ab f7;have HPE:=ab hP;have HLO:=ab JW;clear m3 hP JW f7;go_wp2_with fail
    go_roundw
    case rel=>exact rh.step DN HA.out HP.out HD.out yw.out HV.out HCC.out HOW.out HG.out Gt.out HAK.out HPE.out hP64 f6 f5 (by rw[<-HLO.out];exact HF7.out) aa bc aa
    case measure=>simp[intOf];omega
   ·have Gt:Hid (ys.getD k 0=0):=by show _=_;rw[List.getD,ld (by rw[HY.out];omega)];rfl
    obtain⟨S1,S2,x,r',f1,f2,f3,f4,f5,f6,f7,f8,f9⟩:=BH ha4 xG sx;have HF7:=ab f7;clear f7;go_wp2_with fail
    go_roundw
    case rel=>exact rh.step DN HA.out HP.out HD.out yw.out HV.out HCC.out HOW.out HG.out Gt.out HAK.out (P:=c) bc ae f6 f5 (by rw[qN xG];exact HF7.out) aa (by first|rfl|(simp;omega)|omega) aa
    case measure=>simp[intOf];omega
  ·obtain rfl:k=L:=by omega
   have hpow:q*ag ys<4294967296^k:=by
    have h1:=gU HLY.out;rw[HY.out] at h1;have h2:q*ag ys<=4294967295*ag ys:=jR _ ae;have h3:4294967296^k=4294967296^n*4294967296:=by rw[HLL.out,dT]
    omega
   have hyt:ag (ys.take k)=ag ys:=bb (by rw[HY.out,HLL.out];omega);have rk:ag (A.take k)=ag A:=bb (by rw[HA.out];omega);have hv:=HV.out;have hcc:=HCC.out;rw[hyt] at hv hcc;rw[rk] at hv;have hDl:=gU yw.out;rw[HD.out] at hDl
   obtain rfl:c=0:=by
    rcases lg c with h|h
    ·exact h
    ·have:4294967296^k*1<=4294967296^k*c:=gG _ h;omega
   rw[cC] at hv;have HV2:=ab hv;have HPW:=ab hpow;have Ek:=ab hDl;have hOW:=HOW.out;rw[mL (by rw[HA.out];omega),pg] at hOW;have HOW2:=ab hOW;clear hv hcc hpow hyt rk hDl hOW HOW HCC HV;rcases (show r=0\/r=1 by omega) with rfl|rfl
   ·go_wp2_with fail
    refine bh.out _ _ ⟨q,?_,D,by rw[HD.out,HA.out],yw.out,by have:=HV2.out;omega,.inl ⟨by have:=HV2.out;omega,rfl⟩,HOW2.out,HG.out⟩;first|rfl|exact lx ae
   ·have hq1:1<=q:=by
     rcases lg q with h|h
     ·have h1:=HV2.out;have h2:=Ek.out;rw[h,yn] at h1;omega
     ·exact h
    go_wp2_with fail
    rw[show ((0:Nat):Int)=0 from aa,show ((1:Nat):Int)=1 from aa];obtain⟨wo,rfl⟩:∃ wo:World,wo=wr:=⟨_,aa⟩;go_loopw [13,62] (λcv kv wr'=>rj wo B g N cap k pre D post ys cv kv wr') (λ_ kv _=>k-(intOf kv).toNat)
    case atStart=>exact⟨0,0,[],cD _,aa,aa,ae,aa,bR.nil,by simp[dz],by simpa using HOW2.out,kO _ _⟩
    case round=>
     obtain⟨l,c,E,hlk,rfl,rfl,oC,hE,hlE,hvE,ay,hg⟩:=hrel;have HE:=ab hE;have HLE:=ab hlE;have HVE:=ab hvE;have HOW:=ab ay;have HG2:=ab hg;clear hE hlE hvE ay hg;by_cases hlt:l<k
     ·obtain⟨a,ha⟩:∃ a,D[l]? =some a:=⟨_,aZ (by rw[HD.out];exact hlt)⟩;have ha4:=yw.out.at ha;have HAK:=ab ha
      have hlN:i+l<N:=by
       have h1:=HOW.out.1;have h2:=(bx.1 (uO (post:=post) HP.out HE.out ha)).1;simp at h1 h2;omega
      obtain⟨a',ha',hca,hfa⟩:=Own.fu HOW.out (j:=i+l) hlN;rw[uO HP.out HE.out ha] at ha';obtain rfl:=pj ha';have Ij:=gV hca;simp only at Ij;clear ha ha';by_cases Ky:l<n
      ·obtain⟨b2,o2,y,rfl,bO,nG,DZ⟩:=((Hs.out.re HG.out HNE.out).re HG2.out HNE.out).cellAt Ky;have Gt:Hid (ys.getD l 0=y):=by show _=_;rw[List.getD,nG];rfl
       have yv:=HLY.out.at nG;clear nG;go_wp2_with fail
       refine (ly a y c _ ha4 yv ae).mono ?_;rintro e w2 ⟨rfl,rfl⟩;go_wp2_with fail
       go_roundw
       case rel=>exact rj.step hlt HD.out HP.out HE.out HLE.out oC HVE.out HOW.out HG2.out Gt.out HAK.out ha4 yv
       case measure=>simp[intOf];omega
      ·have Gt:Hid (ys.getD l 0=0):=by show _=_;rw[List.getD,ld (by rw[HY.out];omega)];rfl
       go_wp2_with fail
       refine (ly a 0 c _ ha4 ae ae).mono ?_;rintro e w2 ⟨rfl,rfl⟩;go_wp2_with fail
       go_roundw
       case rel=>exact rj.step hlt HD.out HP.out HE.out HLE.out oC HVE.out HOW.out HG2.out Gt.out HAK.out ha4 ae
       case measure=>simp[intOf];omega
     ·obtain rfl:l=k:=by omega
      have hve:=HVE.out;rw[bb (by rw[HD.out];omega),bb (by rw[HY.out,HLL.out];omega)] at hve;have hEl:=gU HLE.out;rw[HE.out] at hEl;have hOW:=HOW.out;rw[mL (by rw[HD.out];omega),pg] at hOW;have hv2:=HV2.out;have hqb:=HQB.out;obtain⟨m,rfl⟩:∃ m,q=m+1:=⟨q-1,ae⟩;rw[cV,vB] at hv2 hqb
      have hfin:ag E+m*ag ys=ag A:=by
       rcases (show c=0\/c=1 by omega) with rfl|rfl
       ·omega
       ·omega
      have hlt2:ag A<(m+1)*ag ys:=by
       rw[cV,vB];have:=Ek.out;omega
      have HFIN:=ab hfin;have HLT2:=ab hlt2;have HOW3:=ab hOW;clear hve hEl hOW hv2 hqb hfin hlt2;have hm:((m+1:Nat):Int)-1=(m:Int):=ae;go_wp2_with fail
      refine bh.out _ _ ⟨m,?_,E,by rw[HE.out,HA.out],HLE.out,HFIN.out,.inr ⟨HLT2.out,rfl⟩,HOW3.out,xI HG.out HG2.out⟩;first|rfl|exact lx ae
end
section
theorem getD_some {xs:List Nat} {k x:Nat} (h:xs[k]? =some x):xs.getD k 0=x:=by rw[List.getD,h];rfl
theorem Iu {A:List Nat} {m a0 a1 a2:Nat} (hl:A.length=m+3) (h0:A[m]? =some a0) (h1:A[m+1]? =some a1) (h2:A[m+2]? =some a2):
  ag A=((a2*4294967296+a1)*4294967296+a0)*4294967296^m+ag (A.take m):=by
 have e0:=aO A m;have e1:=aO A (m+1);have e2:=aO A (m+2);rw[getD_some h0] at e0;rw[getD_some h1,e0,dT] at e1;rw[getD_some h2,e1,dT,dT,bb ae] at e2;rw[e2];generalize 4294967296^m=p;rw[cV,cV,cV];rw[show a2*4294967296*4294967296*p=p*4294967296*4294967296*a2 by ac_rfl];rw[show a1*4294967296*p=p*4294967296*a1 by rw[eh p,eh _ a1,db]];rw[eh a0 p];omega
theorem top_two {Y:List Nat} {m v1 v2:Nat} (hl:Y.length=m+2) (h2:Y[m]? =some v2) (h1:Y[m+1]? =some v1):ag Y=(v1*4294967296+v2)*4294967296^m+ag (Y.take m):=by
 have e0:=aO Y m;have e1:=aO Y (m+1);rw[getD_some h2] at e0;rw[getD_some h1,e0,dT,bb ae] at e1;rw[e1];generalize 4294967296^m=p;rw[cV];rw[show v1*4294967296*p=p*4294967296*v1 by rw[eh p,eh _ v1,db]];rw[eh v2 p];omega
theorem nI {xs:List Nat} (h:bR xs) {m:Nat} (hm:m<=xs.length):ag (xs.take m)<4294967296^m:=by
 have:=gU (h.take m)
 rwa [aR,dF hm] at this
structure Window (us ys:List Nat) (i m b hi mid low v1 v2:Nat) (A post:List Nat):Prop where
 split:us=us.take i++(A++post)
 pre:(us.take i).length=i
 len:A.length=m+3
 lim:bR A
 zero:ag post=0
 lt:ag A<4294967296*b
 hi_le:hi<=v1
 near:ag A/b<=fB ((hi*4294967296+mid)*4294967296+low) (v1*4294967296+v2)/\fB ((hi*4294967296+mid)*4294967296+low) (v1*4294967296+v2)<=ag A/b+1
theorem Iv {us ys:List Nat} {i m b hi mid low v1 v2 N:Nat} (hN:us.length=N) (hlt:i+(m+2)<N) (hu:bR us) (hy:bR ys) (ij:ys.length=m+2) (hb:ag ys=b) (hd:ag (us.drop (i+1))<b)
  (h1:us[i+(m+2)]? =some hi) (h2:us[i+(m+1)]? =some mid) (h3:us[i+m]? =some low) (h4:ys[m+1]? =some v1) (h5:ys[m]? =some v2) (vP:0<v1):
  Window us ys i m b hi mid low v1 v2 ((us.drop i).take (m+3)) (us.drop (i+(m+3))):=by
 have hA:((us.drop i).take (m+3)).length=m+3:=by rw[aR,nz];omega
 have hlA:bR ((us.drop i).take (m+3)):=(hu.drop i).take _
 have hsp:us.drop i=(us.drop i).take (m+3)++us.drop (i+(m+3)):=by
  rw[<-List.drop_drop];exact (oZ _ _).symm
 have g0:((us.drop i).take (m+3))[m]? =some low:=by rw[nv,if_pos ae,tB];exact h3
 have g1:((us.drop i).take (m+3))[m+1]? =some mid:=by rw[nv,if_pos ae,tB];exact h2
 have g2:((us.drop i).take (m+3))[m+2]? =some hi:=by rw[nv,if_pos ae,tB];exact h1
 have hyp:b<4294967296^(m+2):=by rw[<-hb,<-ij];exact gU hy
 have hz:ag (us.drop (i+(m+3)))=0:=by
  have e:=vS (xs:=us.drop (i+1)) (m+2) (by rw[nz];omega);rw[List.drop_drop,show i+1+(m+2)=i+(m+3) by omega] at e;rcases lg (ag (us.drop (i+(m+3)))) with h|h
  ·exact h
  ·have:4294967296^(m+2)*1<=4294967296^(m+2)*ag (us.drop (i+(m+3))):=gG _ h;omega
 have hAv:ag (us.drop i)=ag ((us.drop i).take (m+3)):=by
  conv=>lhs;rw[hsp]
  rw[dA,hz,jT,ia]
 obtain⟨u0,hu0⟩:∃ u0,us[i]? =some u0:=⟨_,aZ ae⟩;have hu04:=hu.at hu0
 have KO:ag ((us.drop i).take (m+3))<4294967296*b:=by
  rw[<-hAv,pH hu0];omega
 have eA:=Iu hA g0 g1 g2;have eY:=top_two ij h5 h4;rw[hb] at eY;have lA:=nI hlA (m:=m) ae;have lY:=nI hy (m:=m) ae;have hp:0<4294967296^m:=nB ae;refine⟨?_,by rw[aR];omega,hA,hlA,hz,KO,?_,Ef hp eA lA eY lY ae KO⟩
 ·rw[<-hsp];exact (oZ _ _).symm
 ·-- hi<=v1
  rcases mP v1 hi with h|h
  ·have k1:ag (us.drop (i+1))=ag ((us.drop (i+1)).take (m+1))+4294967296^(m+1)*ag ((us.drop (i+1)).drop (m+1)):=vS _ (by rw[nz];omega);rw[List.drop_drop,show i+1+(m+1)=i+(m+2) by omega,pH h1] at k1;have hv2:=hy.at h5
   have k2:4294967296^(m+1)*hi<=ag (us.drop (i+1)):=by
    rw[k1,bg];omega
   have k3:b<4294967296^(m+1)*(v1+1):=by
    rw[eY,dT];have k4:(v1*4294967296+v2+1)*4294967296^m<=((v1+1)*4294967296)*4294967296^m:=jR _ ae;rw[show 4294967296^m*4294967296*(v1+1)=((v1+1)*4294967296)*4294967296^m by rw[eh,eh (4294967296^m),db]];rw[cV,vB] at k4;omega
   have k5:4294967296^(m+1)*(v1+1)<=4294967296^(m+1)*hi:=gG _ h;omega
  ·exact h
theorem El {u b q q' r:Nat} (hb:0<b) (h1:u/b<=q) (h2:q<=u/b+1) (hv:r+q' *b=u) (h:q*b<=u/\q'=q\/u<q*b/\q' +1=q):q'=u/b/\r<b:=by
 have hq:q'=u/b:=by
  rcases h with ⟨h3,rfl⟩|⟨h3,h4⟩
  ·have:=(yb hb).2 h3;omega
  ·have:¬ q<=u/b:=λhc=>by have:=(yb hb).1 hc;omega
   omega
 refine⟨hq,?_⟩;have e:=yl u b;have m:=cM u hb;rw[eh,<-hq] at e;omega
theorem BJ {u b q:Nat} (h:q<=u/b+1):q*b<=u+b:=by
 have h1:q*b<=(u/b+1)*b:=jR _ h;have h2:=Bb u b;rw[cV,vB] at h1;omega
theorem Em {us pre A A' post qs:List Nat} {i b q' a:Nat} (hsp:us=pre++(A++post)) (BI:pre.length=i) (hz:ag post=0) (hv:ag A' +q' *b=ag A) (hlt:ag A' <b)
  (ha:ag us+4294967296^(i+1)*(b*ag qs)=a):
  ag ((pre++(A'++post)).drop i)<b/\ag (pre++(A'++post))+4294967296^i*(b*ag (q'::qs))=a:=by
 subst hsp;constructor
 ·rw[List.drop_append_of_le_length ae,mL ae,pg,dA,hz,jT,ia];exact hlt
 ·rw[dA,dA,hz,jT,ia] at ha;rw[dA,dA,hz,jT,ia,ez,<-ha,<-hv,BI,bg b,bg,bg,dT];rw[eh q' b,show 4294967296^i*(b*(4294967296*ag qs))=4294967296^i*4294967296*(b*ag qs) by rw[db,yg b]];omega
theorem zR {qs:List Nat} {k x:Nat}:(List.replicate (k+1) 0++qs).set k x=List.replicate k 0++x::qs:=by
 rw[List.replicate_succ',nx,qJ _ _ bc,ya,iP];rfl
theorem BK {b t u:Nat} (hb:b≠0) (ht:(limbs b)[(limbs b).length-1]? =some t) (hu:u<32) (htu:t*2^u<4294967296):(limbs (b*2^u)).length=(limbs b).length:=by
 have hn:=cL hb;have hp:0<2^u:=nB ae;refine Nat.le_antisymm (iC _ _ ?_) (bX (Nat.le_mul_of_pos_right _ hp));obtain⟨n,hl⟩:∃ n,(limbs b).length=n+1:=⟨(limbs b).length-1,ae⟩;rw[hl] at ht ⊢;simp only[Nat.add_sub_cancel] at ht;have e:=aO (limbs b) n;rw[getD_some ht,bb ae,ah] at e;have l:=nI (ak b) (m:=n) ae;have h1:b<4294967296^n*(t+1):=by rw[bg];omega
 have h2:(t+1)*2^u<=4294967296:=by
  have h3:4294967296=2^u*2^(32-u):=by rw[<-mQ,show u+(32-u)=32 by omega]
  rw[h3,eh t] at htu;have h4:=Nat.lt_of_mul_lt_mul_left htu;rw[eh]
  calc 2^u*(t+1)<=2^u*2^(32-u):=gG _ h4
   _=4294967296:=h3.symm
 have h5:b*2^u<4294967296^n*(t+1)*2^u:=Nat.mul_lt_mul_of_pos_right h1 hp;have h6:4294967296^n*(t+1)*2^u<=4294967296^n*4294967296:=by rw[db];exact gG _ h2
 rw[dT];omega
theorem Iw {a b u:Nat}:(a*2^u)/(b*2^u)=a/b:=Nat.mul_div_mul_right a b (nB ae)
theorem Ix {a b u:Nat}:(a*2^u)%(b*2^u)=(a%b)*2^u:=Nat.mul_mod_mul_right (2^u) a b
end
section
open Go.RowKit
def Divided (w w':World) (a b:Nat) (e:Ending):Prop:=
 (b=0/\e=.returned (.tuple #[.slice none 0 0,.slice none 0 0,.int .i64 20]))\/
 (b≠0/\∃ vq vr,e=.returned (.tuple #[vq,vr,.int .i64 0])/\w'.ownsRow w.heap.size 122 1 vq (limbs (a/b)).length (ints .u32 (limbs (a/b)))/\w'.ownsRow w.heap.size 122 1 vr (limbs (a%b)).length (ints .u32 (limbs (a%b))))
def KP (w:World) (B N cap n m b a ga:Nat) (vy vq:Value) (iv:Value) (wr:World):Prop:=
 ∃ (k:Nat) (us qs:List Nat),k<=m/\iv=.int .i64 ((k:Int)-1)/\us.length=N/\bR us/\ag (us.drop k)<b/\qs.length=m-k/\bR qs/\ag us+4294967296^k*(b*ag qs)=a/\
   wr.ownsRow B 122 1 (.slice (some ⟨ga,0,none⟩) N cap) N (ints .u32 us)/\wr.ownsRow B 122 1 vq m (ints .u32 (List.replicate k 0++qs))/\Rd wr 1 vy n (ints .u32 (limbs b))/\Below B w wr
theorem vX {w:World} {g j:Nat} {u:Value}:w.grownBy (w.setCell ⟨g,j,none⟩ u) (some g):=mc (kO _ _)
theorem En {P:Program} {f:FuncId} {args:Array Value} {W w:World} {v:Value} (h:Calls P f args W λe w'=>e=.returned v/\∃ k,w'=W.drewN k) (hW:∃ n,W=w.drewN n):
  Calls P f args W λe w''=>e=.returned v/\∃ m,w''=w.drewN m:=
 h.mono λ_ _ ⟨he,k,hk⟩=>⟨he,by obtain⟨n,hn⟩:=hW;exact⟨n+k,by rw[hk,hn,World.drewN_drewN]⟩⟩
theorem Eo {w w':World} (h:w.grownBy w' none):Below w.heap.size w w':=⟨h.os,h.tape,h.output,h.size,λk hk=>h.block k hk bc⟩
theorem Iy {a b N mq lb:Nat} (hN:N=(limbs a).length+1) (hm:N=mq+lb) (DM:(limbs b).length=lb) (hb:b≠0):ag ((limbs a++[0]).drop mq)<b/\ag (limbs a++[0])=a:=by
 have hp:=cL hb;refine⟨?_,by rw[df,jT,ah];rfl⟩;rw[List.drop_append_of_le_length ae,df,jT,ia];have h1:=gU ((ak a).drop mq);rw[nz,show (limbs a).length-mq=(limbs b).length-1 by omega] at h1;exact mN h1 (zE hb)
set_option maxRecDepth 100000 in
theorem tM (va vb:Value) (n m:Nat) (xs ys:List Nat) (w:World) (hr:Rd w 1 va n (ints .u32 xs)) (hs:Rd w 1 vb m (ints .u32 ys)) (hx:bR xs) (hy:bR ys) (hn:n<=536870912) (hm:m<=536870912):
  Calls Tryz.prog 109 #[va,vb] w λe w'=>Divided w w' (ag xs) (ag ys) e/\Below w.heap.size w w':=by
 obtain⟨p,c,rfl,iD,fO,dv⟩:=hr.u32;obtain⟨q,d,rfl,JX,DJ,ij⟩:=hs.u32;have Hs:=ab hs;obtain⟨B,hB⟩:∃ B,B=w.heap.size:=⟨_,aa⟩;have HB:=ab hB;obtain⟨a,ha⟩:∃ a,a=ag xs:=⟨_,aa⟩;obtain⟨b,hb⟩:∃ b,b=ag ys:=⟨_,aa⟩;have hal:(limbs a).length<=n:=by rw[ha,<-dv];exact fY hx
 have hbl:(limbs b).length<=m:=by rw[hb,<-ij];exact fY hy
 refine aE λR' bh=> ?_;go_enter Tryz.func109,Tryz.ntmps109
 go_wp2_with fail
 refine (ig _ n xs _ hr hx ae).mono ?_;rintro e w1 ⟨v1,rfl,eG,bS⟩;rw[<-ha] at eG;go_wp2_with fail
 refine (ig _ m ys _ (hs.below bS) hy ae).mono ?_;rintro e w2 ⟨v2,rfl,js,bO⟩;rw[<-hb] at js;rw[<-ha,<-hb,<-hB] at bh;have qH:Hid (w2.ownsRow B 122 1 v1 (limbs a).length (ints .u32 (limbs a))):=by show World.ownsRow ..;rw[hB];exact Own.below eG bO
 have mV:Hid (w2.ownsRow B 122 1 v2 (limbs b).length (ints .u32 (limbs b))):=Own.mono js (by rw[hB];exact bS.size);have tN:Hid (Below B w w2):=by show Below ..;rw[hB];exact Below.aB bS bO
 have hBs:B<=w2.heap.size:=by rw[hB];exact tN.out.size
 obtain⟨p1,c1,rfl,_,hc1m,_⟩:=Own.form qH.out;obtain⟨p2,c2,rfl,_,hc2m,_⟩:=Own.form mV.out;clear hr hs hx hy eG js bS bO dv ij ha hb hB Hs;unfold maxLen at hc1m hc2m;generalize Kc:(limbs a).length=la at*;generalize DM:(limbs b).length=lb at*;have Kb:=ab Kc;have Kd:=ab DM;by_cases ng:b=0
 ·obtain rfl:lb=0:=by rw[ng,bk] at DM;exact DM.symm
  clear Kc DM;go_wp2_with fail
  go_ret3
  exact bh.out _ _ ⟨.inl ⟨ng,aa⟩,tN.out⟩
 ·have hlb0:lb≠0:=λh=>ng (nE (by rw[Kd.out];exact h));have hz:((lb:Int) == 0)=false:=by rw[iJ];omega
  have HNZ:=ab ng;clear ng Kc DM;go_wp2_with fail
  refine (zG _ _ la lb (limbs a) (limbs b) _ (Rd.own qH.out) (Rd.own mV.out) (ak a) (ak b)).mono ?_;rintro e w3 ⟨rfl,k3,rfl⟩;rw[ah,ah];by_cases pA:a<b
  ·have hc:fb a b<0:=ic.2 pA;generalize fb a b=cv at hc ⊢;go_wp2_with fail
   go_ret3
   refine bh.out _ _ ⟨.inr ⟨HNZ.out,_,_,aa,?_,?_⟩,Below.drewN tN.out _⟩
   ·rw[tD pA,bk];exact jh _ _ _ _
   ·rw[qN pA,Kb.out];exact Own.mono (Own.drewN qH.out _) (by have:=HB.out;omega)
  ·have hc:0<=fb a b:=by have:=mt (@ic a b).1 pA;omega
   generalize fb a b=cv at hc ⊢;have HAB:=ab pA;have KF:=ab (Own.drewN qH.out k3);have Iz:=ab (Own.drewN mV.out k3);have Ka:=ab (Below.drewN tN.out k3);have KQ:B<=(w2.drewN k3).heap.size:=hBs;clear qH mV tN hBs pA;generalize w2.drewN k3=w3 at*;by_cases hlb1:lb=1
   ·have HL1:=ab hlb1;subst hlb1;obtain⟨gb,ob,t,rfl,_,htk,hct⟩:=(Rd.own Iz.out).cellAt (k:=0) ae;have ht4:=(ak b).at htk
    have htb:t=b:=by
     have h1:=aO (limbs b) 0;rw[getD_some htk,bb (by rw[Kd.out];omega),ah] at h1;simp[dz] at h1;omega
    have HTB:=ab htb;rw[ia] at hct;have Ij:=gV hct;simp only at Ij;clear htk htb hz hlb0;go_wp2_with fail
    refine (qZ _ la t (limbs a) _ (Rd.own KF.out) (ak a) ae ht4).mono ?_;rintro e w4 ⟨⟨h,rfl⟩|⟨h,v4,rfl,rn⟩,fv⟩
    ·exact absurd (by rw[<-HTB.out];exact h) HNZ.out
    rw[ah] at rn ⊢;have HO5:=ab (Own.mono rn KQ);have KR:=ab (Ka.out.trans (fv.mono KQ));have IA:B<=w4.heap.size:=bA KQ fv.size;have hrt:a%t<4294967296:=Nat.lt_trans (cM _ ae) ht4;obtain⟨r,hr⟩:∃ r,r=a%t:=⟨_,aa⟩;rw[<-hr] at hrt ⊢;have HR:=ab hr;clear rn fv hct Ij h hr;go_wp2_with fail
    refine (ig _ 1 [r] _ (Rd.lit1 aa) (bR.cons hrt bR.nil) ae).mono ?_;rintro e w5 ⟨v5,rfl,vY,hbx⟩;have jJ:Below w4.heap.size w4 w5:=((dJ w4.heap.size w4).alloc (aM _) (.cells #[.int .u32 (r:Int)] 122)).trans (hbx.mono bc);rw[show ag [r]=r by simp[ez,dz]] at vY;go_wp2_with fail
    go_ret3
    refine bh.out _ _ ⟨.inr ⟨HNZ.out,_,_,aa,?_,?_⟩,KR.out.trans (jJ.mono IA)⟩
    ·rw[<-HTB.out];exact Own.mono (Own.below HO5.out jJ) (by have:=HB.out;omega)
    ·rw[<-HTB.out,<-HR.out];exact Own.mono vY (by have:=HB.out;simp;omega)
   ·obtain⟨mm,yA⟩:∃ mm,lb=mm+2:=⟨lb-2,ae⟩;have HMM:=ab yA;have kM:((lb:Int) == 1)=false:=by rw[iJ];omega
    obtain⟨l1,zP⟩:∃ l1,lb=l1+1:=⟨lb-1,ae⟩;have HL1:=ab zP;have hwl1:IntKind.i64.wrap ((lb:Int)-1)=(l1:Int):=by rw[bj _ ae];omega
    obtain⟨gb,ob,t,rfl,_,htk,hct⟩:=(Rd.own Iz.out).cellAt (k:=l1) ae;have ht4:=(ak b).at htk;have Ij:=gV hct;simp only at Ij;have htk2:(limbs b)[(limbs b).length-1]? =some t:=by rw[Kd.out,HL1.out];exact htk
    have ht0:=(Bn htk2).2;have HTK:=ab htk2;have hl1lt:(l1:Int)<(lb:Int):=ae;clear htk htk2 hlb1 yA zP;go_wp2_with fail
    refine (Bx t _ ht4 ht0).mono ?_;rintro e w4 ⟨⟨u,rfl,hu32,htu⟩,rfl⟩;go_wp2_with fail
    refine (sD _ lb b (u:Int) (limbs b) _ (Rd.own Iz.out) (ak b) (ah b) ae ae ae).mono ?_;rintro e w4 ⟨⟨_,h,_⟩|⟨_,v4,rfl,rn⟩,fv⟩
    ·omega
    have es:fm b (u:Int)=b*2^u:=by unfold fm;rw[if_pos ae,aQ]
    rw[es] at rn;have GB:(limbs (b*2^u)).length=lb:=by rw[BK HNZ.out HTK.out hu32 htu];exact Kd.out
    have hnz:b*2^u≠0:=Nat.mul_ne_zero HNZ.out (Nat.pos_iff_ne_zero.1 (nB ae));have hle4:b*2^u<=a*2^u:=jR _ (by have:=HAB.out;omega);have HDV:=ab (Iw (a:=a) (b:=b) (u:=u));have HMD:=ab (Ix (a:=a) (b:=b) (u:=u));have hla5:=tK a u hu32;rw[Kb.out] at hla5
    have HES:Hid (fm ((a%b)*2^u) (-(u:Int))=a%b):=by
     show _=_;unfold fm;by_cases h0:u=0
     ·subst h0;simp
     ·rw[if_neg ae,Int.neg_neg,aQ,Nat.mul_div_cancel _ (nB ae)]
    have HES2:Hid (fm a (u:Int)=a*2^u):=by show _=_;unfold fm;rw[if_pos ae,aQ]
    generalize sw:b*2^u=b' at*;generalize ha':a*2^u=a' at*;rw[GB] at rn;have hlb5:lb<=(limbs a').length:=by rw[<-GB];exact bX hle4
    obtain⟨gy,cy,rfl,hgy3,hgy4⟩:=Own.uJ rn ae;have HY4:=ab rn;have KR:=ab (Ka.out.trans (fv.mono KQ));have IA:B<=w4.heap.size:=bA KQ fv.size;have HA4:=ab (Own.below KF.out fv);have BL:=ab GB;clear rn fv htu ht0 ht4 hct Ij GB hle4 es HTK KF Iz;go_wp2_with fail
    refine (sD _ la a (u:Int) (limbs a) _ (Rd.own HA4.out) (ak a) (ah a) ae ae ae).mono ?_;rintro e w5 ⟨⟨_,h,_⟩|⟨_,v5,rfl,vY⟩,jJ⟩
    ·omega
    rw[HES2.out] at vY;generalize hl5:(limbs a').length=la' at*;have HL5:=ab hl5;have HA5:=ab vY;have HY5:=ab (Own.below HY4.out jJ);have HB5:=ab (KR.out.trans (jJ.mono IA));have hs5:=jJ.size;have KS:=ab jJ;obtain⟨p5,c5,rfl,_,_,_⟩:=Own.form vY;obtain⟨N,hN⟩:∃ N,N=la' +1:=⟨_,aa⟩;have HNN:=ab hN;obtain⟨mq,hmq⟩:∃ mq,N=mq+lb:=⟨N-lb,ae⟩;have HMQ:=ab hmq;have hmq0:0<mq:=ae;have hwm:IntKind.i64.wrap ((N:Int)-(lb:Int))=(mq:Int):=by rw[bj _ ae];omega
    obtain⟨i0,hi,jN,kM,mZ⟩:=info_parts gW;have hN30:N<=1073741824:=ae;have hla30:la'<=1073741824:=ae;have hmq30:mq<=1073741824:=ae;clear vY jJ hl5 hmq HA4 hN
    go_wp2_with (first
     | (at_builtin;refine cN aa _ _ 31 aa w4.heap.size 122 i0 (.int .u32 0) 4 jg hi jN kM mZ aa HA5.out aa aa (d:=0) aa ae ae hs5 ?_;intro v6 w6 GC Ep;rw[<-HNN.out] at GC;obtain⟨ga,ca,rfl,hga5,hga6⟩:=Own.uJ GC (by have:=HNN.out;omega))
     | (at_make;refine wpList_make_full _ aa _ _ 31 aa B 122 i0 (.int .u32 0) 1 jg hi jN kM .i64 .i64 _ _ mq aa aa (by have:=HMQ.out;omega) (by have:=HMQ.out;omega) (by rw[mZ];have:=HMQ.out;omega) (by unfold maxLen;have:=HMQ.out;omega) (by have:=(Ep w4 KS.out).size;omega) ?_;intro w7 hown7 hgr7))
    obtain⟨gq,hgq⟩:∃ gq,gq=w6.heap.size:=⟨_,aa⟩;have KT:=Ep w4 KS.out;have hb67:=Eo hgr7;have GD:=Own.made hown7;rw[pg] at GD;rw[<-hgq] at GD ⊢;have hne1:ga≠gq:=ae;have hne2:gy≠ga:=ae;have hne3:gy≠gq:=by have:=KT.size;omega
    have HA7:Hid (w7.ownsRow B 122 1 (.slice (some ⟨ga,0,none⟩) N ca) N (ints .u32 (limbs a'++[0]))):=Own.mono (Own.below GC hb67) IA;have HQ7:=ab GD;have HY7:Hid (Rd w7 1 (.slice (some ⟨gy,0,none⟩) lb cy) lb (ints .u32 (limbs b'))):=(Rd.own (Own.below HY4.out KT)).below hb67;have HB7:Hid (Below B w w7):=(KR.out.trans (KT.mono IA)).trans (hb67.mono (bA IA KT.size));have HST:=ab (Iy (N:=N) (mq:=mq) (lb:=lb) (a:=a') (b:=b') (by rw[HL5.out];exact HNN.out) HMQ.out BL.out hnz);clear GC hown7 hgr7 Ep KT hb67 GD hgq HA5 HY5 HY4 HB5 KR KS hi jN kM mZ;go_loopw [12] (λiv wr=>KP w B N ca lb mq b' a' ga (.slice (some ⟨gy,0,none⟩) lb cy) (.slice (some ⟨gq,0,none⟩) mq mq) iv wr) (λiv _=>(intOf iv+1).toNat)
    case atStart=>exact⟨mq,_,[],aM _,aa,by rw[da,HL5.out,HNN.out];rfl,(ak a').append (bR.cons ae bR.nil),HST.out.1,bc,bR.nil,by rw[HST.out.2];simp[dz],HA7.out,by simpa using HQ7.out,HY7.out,HB7.out⟩
    case round=>
     obtain⟨k,us,qs,Eb,rfl,hul,hulim,Bs,hql,hqlim,hval,hoa,BM,hry,ni⟩:=hrel;have HUL:=ab hul;have vZ:=ab hulim;have HDROP:=ab Bs;have HQL:=ab hql;have HQLIM:=ab hqlim;have HVAL:=ab hval;have HOA:=ab hoa;have HOQ:=ab BM;have HRY:=ab hry;have fx:=ab ni;clear hul hulim Bs hql hqlim hval hoa BM hry ni;by_cases Gy:k=0
     ·subst Gy;have hv:=HVAL.out;have hd:=HDROP.out;rw[Bi] at hd;rw[Nat.pow_zero,vB] at hv
      have hq1:ag qs=a/b:=by
       rw[<-HDV.out,<-hv,Nat.add_mul_div_left _ _ ae,tD hd,cC]
      have sx:ag us=(a%b)*2^u:=by
       rw[<-HMD.out,<-hv,Nat.add_mul_mod_self_left,qN hd]
      have HQ1:=ab hq1;have HR1:=ab sx;have hBr:B<=w.heap.size:=by have:=HB.out;omega
      have hBw:=fx.out.size;clear hv hd hq1 sx;go_wp2_with fail
      refine (sD _ N ((a%b)*2^u) (-(u:Int)) us _ (Rd.own HOA.out) vZ.out HR1.out ae ae ae).mono ?_;rintro e w8 ⟨⟨_,h,_⟩|⟨_,v8,rfl,yB⟩,AL⟩
      ·omega
      rw[HES.out] at yB;have HO8:=ab (Own.mono yB (bA hBr hBw));have HB8:=ab (fx.out.trans (AL.mono (bA hBr hBw)));have hq8:=Own.below HOQ.out AL;rw[List.replicate_zero,pg] at hq8;have HQ8:=ab hq8;have hs8:=AL.size;clear yB AL hq8;go_wp2_with fail
      refine (ig _ mq qs _ (Rd.own HQ8.out) HQLIM.out ae).mono ?_;rintro e w9 ⟨v9,rfl,hown9,hb9⟩;rw[HQ1.out] at hown9;go_wp2_with fail
      go_ret3
      refine bh.out _ _ ⟨.inr ⟨HNZ.out,_,_,aa,?_,?_⟩,HB8.out.trans (hb9.mono ae)⟩
      ·exact Own.mono hown9 ae
      ·exact Own.mono (Own.below HO8.out hb9) (by have:=HB.out;omega)
     ·obtain⟨i,hi⟩:∃ i,k=i+1:=⟨k-1,ae⟩;subst hi;have hjj:((i+1:Nat):Int)-1=(i:Int):=ae;rw[hjj];have hmq:=HMQ.out;have yA:=HMM.out;have zP:=HL1.out;obtain⟨hi,h1⟩:∃ hi,us[i+(mm+2)]? =some hi:=⟨_,aZ (by rw[HUL.out];omega)⟩;obtain⟨mid,h2⟩:∃ mid,us[i+(mm+1)]? =some mid:=⟨_,aZ (by rw[HUL.out];omega)⟩;obtain⟨low,h3⟩:∃ low,us[i+mm]? =some low:=⟨_,aZ (by rw[HUL.out];omega)⟩;obtain⟨v1,h4⟩:∃ v1,(limbs b')[mm+1]? =some v1:=⟨_,aZ (by rw[BL.out];omega)⟩;obtain⟨v2,h5⟩:∃ v2,(limbs b')[mm]? =some v2:=⟨_,aZ (by rw[BL.out];omega)⟩;have vP:0<v1:=Nat.pos_iff_ne_zero.2 (Bn (n:=b') (t:=v1) (by rw[BL.out,show lb-1=mm+1 by omega];exact h4)).2;have hwin:=Iv (m:=mm) HUL.out ae vZ.out (ak b') (by rw[BL.out];exact yA) (ah b') HDROP.out h1 h2 h3 h4 h5 vP;have zS:=ab hwin;have hhi:=hwin.hi_le;have z1:=vZ.out.at h1;have z2:=vZ.out.at h2;have z3:=vZ.out.at h3;have z4:=(ak b').at h4;have z5:=(ak b').at h5;obtain⟨x1,e1,c1',f1⟩:=Own.fu HOA.out (j:=i+(mm+2)) ae;obtain⟨x2,e2,c2',f2⟩:=Own.fu HOA.out (j:=i+(mm+1)) ae;obtain⟨x3,e3,c3',f3⟩:=Own.fu HOA.out (j:=i+mm) ae;rw[h1] at e1;rw[h2] at e2;rw[h3] at e3;obtain rfl:=pj e1;obtain rfl:=pj e2;obtain rfl:=pj e3;obtain⟨g4,o4,x4,hp4,hg4,e4,c4'⟩:=HRY.out.cellAt (k:=mm+1) ae;obtain⟨g5,o5,x5,hp5,hg5,e5,c5'⟩:=HRY.out.cellAt (k:=mm) ae;simp only[Option.some.injEq,Addr.mk.injEq,and_true] at hp4 hp5;obtain⟨rfl,rfl⟩:=hp4;obtain⟨rfl,hz5⟩:=hp5;subst hz5;rw[h4] at e4;rw[h5] at e5;obtain rfl:=pj e4;obtain rfl:=pj e5;rw[cC] at c4' c5';obtain⟨J0,hJ0⟩:∃ J0,J0=i+(mm+2):=⟨_,aa⟩;obtain⟨J1,hJ1⟩:∃ J1,J1=i+(mm+1):=⟨_,aa⟩;obtain⟨J2,hJ2⟩:∃ J2,J2=i+mm:=⟨_,aa⟩;rw[<-hJ0] at c1' f1;rw[<-hJ1] at c2' f2;rw[<-hJ2] at c3' f3;rw[show mm+1=l1 by omega] at c4';obtain⟨J3,hJ3⟩:∃ J3,J3=J0+1:=⟨_,aa⟩;have hw0:IntKind.i64.wrap ((i:Int)+(lb:Int))=(J0:Int):=by rw[bj _ ae];omega
      have ss:IntKind.i64.wrap ((J0:Int)-1)=(J1:Int):=by rw[bj _ ae];omega
      have hw2:IntKind.i64.wrap ((J0:Int)-2)=(J2:Int):=by rw[bj _ ae];omega
      have hw4:IntKind.i64.wrap ((lb:Int)-2)=(mm:Int):=by rw[bj _ ae];omega
      have hw5:IntKind.i64.wrap ((J0:Int)+1)=(J3:Int):=by rw[bj _ ae];omega
      have b0:(J0:Int)<(N:Int):=ae;have b1:(J1:Int)<(N:Int):=ae;have b2:(J2:Int)<(N:Int):=ae;have b3:(l1:Int)<(lb:Int):=ae;have b4:(mm:Int)<(lb:Int):=ae;have t1:=gV c1';have t4:=gV c4';simp only at t1 t4;have HJ0:=ab hJ0;have HJ3:=ab hJ3;have Eh:i<mq:=ae
      have HCAP:Hid (N<=ca/\ca<=9223372036854775807):=by
       obtain⟨_,_,hv,hcap,hcapm,_⟩:=Own.form HOA.out;simp only[Value.slice.injEq,true_and] at hv;obtain⟨_,rfl⟩:=hv;unfold maxLen at hcapm;exact⟨hcap,ae⟩
      clear e1 e2 e3 e4 e5 h1 h2 h3 h4 h5 hwin hJ0 hJ1 hJ2 hJ3 hmq yA zP hg4 hg5;go_wp2_with fail
      go_quiet ((go_at_call 121;exact En (Iq hi mid low v1 v2 _ hhi z2 z3 vP z4 z5) ⟨_,aa⟩))
      have hcap:=HCAP.out;have b5:(J3:Int)<=(ca:Int):=by have:=HJ3.out;omega
      have b6:(i:Int)<=(J3:Int):=by have:=HJ3.out;have:=HJ0.out;omega
      have b7:(i:Int)<(ca:Int):=by have:=HJ3.out;have:=HJ0.out;omega
      have b8:¬ ca-i=0:=ae;have b9:ca≠i:=ae;clear c1' c2' c3' c4' c5' f1 f2 f3 ss hw2 hw4 b1 b2 b3 b4;go_wp2_with fail
      obtain⟨G,hG⟩:∃ G,G=fB ((hi*4294967296+mid)*4294967296+low) (v1*4294967296+v2):=⟨_,aa⟩;have BN:=zS.out.near;rw[<-hG] at BN ⊢;have hG4:G<=4294967295:=by rw[hG];exact Nat.min_le_left _ _
      have hoa:=Own.drewN HOA.out nq;rw[zS.out.split] at hoa;have hJ:J3-i=mm+3:=by have:=HJ3.out;have:=HJ0.out;omega
      refine (KN ga N ca i (J3-i) (ca-i) lb G B (us.take i) _ _ (limbs b') _ _ hoa zS.out.pre (by rw[zS.out.len,hJ]) zS.out.lim (Rd.drewN HRY.out nq) (ak b') (λp c a h1 h2=>by cases h1;cases h2;exact hne2) (by rw[hJ,HMM.out]) (by have:=HJ3.out;omega) ae ae (by rw[ah];exact BJ BN.2)).mono ?_;rintro e w8 ⟨q',rfl,A',hA'l,KV,hA'v,hq',yB,hg8⟩;rw[ah] at hA'v hq';have vG:0<b':=ae;obtain⟨hqd,KO⟩:=El vG BN.1 BN.2 hA'v hq';have hq4:q' <4294967296:=by rcases hq' with ⟨_,h⟩|⟨_,h⟩ <;> omega
      have hst:=Em zS.out.split zS.out.pre zS.out.zero hA'v KO HVAL.out;have hq8:=(Own.drewN HOQ.out nq).kept hg8 (.inr (by simp[Value.ownBlock];omega));have hry8:=(Rd.drewN HRY.out nq).re hg8 (λp c a h1 h2=>by cases h1;cases h2;exact hne2);have hbw8:Below B w w8:=(Below.drewN fx.out nq).grown hg8 (bA (by have:=HB.out;omega) fx.out.size) (λk hk=>by cases hk;exact (Own.lt HOA.out).1);obtain⟨x8,hx8,hc8,hf8⟩:=Own.fu hq8 (j:=i) Eh;have hl8:=gV hc8;simp only at hl8
      have hus':(us.take i++(A'++us.drop (i+(mm+3)))).length=N:=by
       have h1:=ai List.length zS.out.split;rw[HUL.out] at h1;simp only[List.length_append] at h1 ⊢;omega
      have BA:bR (us.take i++(A'++us.drop (i+(mm+3)))):=(vZ.out.take _).append (KV.append (vZ.out.drop _));have hq9:=Own.fc (j:=i) (x:=q') hq8;rw[zR] at hq9
      have HREL:Hid (KP w B N ca lb mq b' a' ga (.slice (some ⟨gy,0,none⟩) lb cy) (.slice (some ⟨gq,0,none⟩) mq mq) (.int .i64 ((i:Int)-1)) (w8.setCell ⟨gq,i,none⟩ (.int .u32 (q':Int)))):=
       ⟨i,_,q'::qs,ae,rfl,hus',BA,hst.1,by rw[ji,HQL.out];omega,bR.cons hq4 HQLIM.out,hst.2,yB.kept vX (.inr (by simp[Value.ownBlock];omega)),hq9,hry8.re vX (λp c a h1 h2=>by cases h1;cases h2;exact hne3),hbw8.setCell (p:=⟨gq,i,none⟩) (Own.lt hq8).1 _⟩
      clear hA'l KV hA'v hq' yB hg8 hqd KO hst hq8 hry8 hbw8 hx8 hus' BA hq9 hoa BN hG hJ;go_wp2_with fail
      go_roundw
      case rel=>exact HREL.out
      case measure=>simp[intOf]
end
end Go.Proofs.YtphfjihmohoffaaGreat
