/-BN of the proof,laid behind one another. -/
import Derived.Lib.Hide
import Derived.WalkKit
import Derived.WalkSpells
import Derived.WalkLawsBesides
import Derived.Outline
import Derived.Test.YtlifeokjcgngjaaGreatRows
import Derived.Deep.QuietTactic
import Derived.BigQuiet
import Derived.Lib.SliceRun
import Derived.Lib.AppendZeros
import Derived.RegionCalls
import Derived.Deep.RegionWith
import Derived.Lib.BitFns
import Derived.WalkMore
set_option linter.all false
set_option maxHeartbeats 64000000
namespace Go.Proofs.YtlifeokjcgngjaaGreat
def aa:=@rfl
def ak:=@List.mem_singleton
def aH:=@List.getElem?_eq_getElem
def af:=@Go.Lib.hid
def bd:=@List.getElem?_eq_some_iff
def aF:=@List.map_append
def aj:=@trivial
def aM:=@List.length_map
def bg:=@List.length_append
def aR:=@decide_eq_false
def bh:=@Int.toNat_natCast
def aU:=@decide_eq_true
def au:=@congrArg
def cO:=@List.take_of_length_le
def aV:=@Nat.le_trans
def aW:=@Int.ofNat_lt
def aP:=@Nat.le_refl
def bP:=@List.all_eq_true
def dc:=@List.mem_of_getElem?
def cE:=@List.length_take
def bQ:=@Go.IntWalk.i64_in
def fy:=@Array.getD_eq_getD_getElem?
def gh:=@Array.getElem?_eq_some_iff
def ct:=@Nat.mul_add
def eQ:=@Nat.mul_le_mul_right
def dK:=@List.all_append
def gP:=@Go.World.block_lt_of_cell?
def dV:=@List.length_set
def gD:=@List.getElem?_eq_none
def jo:=@List.getElem?_append_left
def dG:=@List.mem_cons
def eX:=@List.append_nil
def mR:=@List.eq_nil_of_length_eq_zero
def lU:=@List.getD_eq_getElem?_getD
def eJ:=@Nat.mul_assoc
def gQ:=@List.append_assoc
def lV:=@Array.getElem?_eq_getElem
def mS:=@List.getElem?_append_right
def gF:=@Bool.and_eq_true
def ey:=@List.mem_map
def mU:=@List.mem_or_eq_of_mem_set
def gG:=@Nat.min_eq_left
def jM:=@Nat.mul_le_mul_left
def ek:=@Nat.add_mul
def oh:=@List.drop_eq_getElem_cons
def fe:=@Nat.zero_add
def lW:=@Nat.eq_of_beq_eq_true
def jq:=@List.getElem?_map
def mV:=@List.drop_of_length_le
def lX:=@List.mem_of_mem_take
def fA:=@Nat.le_of_eq
def iD:=@List.take_zero
def fP:=@Nat.pow_succ
def lZ:=@beq_eq_false_iff_ne
def jN:=@List.length_drop
def gi:=@Nat.mul_comm
def eR:=@Nat.mod_lt
def oi:=@List.take_append_drop
def om:=@List.mem_append_right
def ll:=@List.getElem?_set
def mW:=@List.map_congr_left
def fQ:=@Nat.zero_le
def qG:=@Int.eq_ofNat_of_zero_le
def ma:=@Go.Proofs.Tryz.underlying23
def mc:=@Go.World.ownsRow_nil
def mX:=@Nat.eq_zero_or_pos
def ln:=@Go.Proofs.Tryz.underlying9
def fB:=@Go.RowKit.Below.refl
def mY:=@of_decide_eq_true
def mZ:=@Go.DataW.trod_string
def na:=@Nat.succ_le_of_lt
def lp:=@List.mem_append
def oo:=@List.getElem?_drop
def lx:=@Option.some.inj
def xc:=@Array.getElem?_setIfInBounds
def qH:=@List.mem_cons_of_mem
def qI:=@List.mem_of_mem_drop
def qJ:=@Nat.pow_le_pow_right
def nc:=@List.flatMap_nil
def qj:=@Nat.lt_of_lt_of_le
def ng:=@List.nil_append
def ot:=@Array.toList_inj
def ou:=@Array.toList_map
def jO:=@Nat.succ_mul
def sE:=@List.getElem?_of_mem
def qk:=@List.ext_getElem?
def me:=@List.mem_range
def ql:=@List.flatten_cons
def qK:=@List.getElem?_take
def qL:=@Go.RowKit.Below.heap_setCell
def tV:=@List.set_append_right
def ku:=@Go.Proofs.Tryz.func191
def yH:=@Int.tdiv_eq_ediv_of_nonneg
def mf:=@List.map_cons
def qM:=@Go.DataW.trod_struct
def lz:=@Nat.add_zero
def ky:=@Go.RowKit.Below.block
def tW:=@List.mem_cons_self
def ni:=@Nat.mul_zero
def Fb:=@List.eq_nil_iff_forall_not_mem
def nj:=@Nat.ne_of_lt
def nk:=@Nat.ne_of_gt
def oy:=@Nat.sub_self
def sG:=@Int.natCast_mul
def oz:=@List.map_map
def xd:=@Int.natAbs_natCast
def tX:=@List.length_cons
def tY:=@Nat.mod_eq_of_lt
def np:=@Nat.mul_one
def yJ:=@List.mem_append_left
def nr:=@Go.Proofs.Tryz.func91
def qm:=@Nat.lt_or_ge
def Fc:=@Int.tmod_eq_emod_of_nonneg
def xe:=@List.length_range
def yK:=@Array.length_toList
def tZ:=@Nat.mod_add_div
def BO:=@Nat.le_div_iff_mul_le
def xf:=@Nat.div_eq_of_lt
def qn:=@Nat.pow_add
def uc:=@Nat.mul_le_mul
def BP:=@Go.World.cell?_of_block
def qo:=@Go.Proofs.Tryz.func45
def BQ:=@Option.some_ne_none
def BR:=@List.getElem?_range
def Ff:=@Option.map_eq_some_iff
def sH:=@Rat.add_zero
def qN:=@Nat.pow_pos
def qO:=@Go.Proofs.Tryz.func90
def yL:=@Go.Proofs.Tryz.underlying3
def BS:=@Nat.xor_lt_two_pow
def BU:=@List.pairwise_cons
def BV:=@Go.Proofs.Tryz.underlying315
def Fg:=@Nat.div_lt_iff_lt_mul
def Fh:=@List.length_replicate
def KG:=@List.getLast?_eq_getElem?
def yM:=@List.foldl_cons
def ud:=@Nat.add_comm
def BW:=@Nat.mul_left_comm
def uf:=@Nat.zero_mul
def ug:=@Go.Proofs.Tryz.func196
def uh:=@Go.Proofs.Tryz.func197
def xg:=@Nat.add_assoc
def Fi:=@Nat.div_mul_le_self
def BX:=@List.take_length
def KH:=@Nat.add_sub_cancel_left
def KJ:=@Nat.le_mul_of_pos_right
def KL:=@Option.bind_eq_some_iff
def Ou:=@List.drop_append_of_le_length
def Ov:=@List.take_append_of_le_length
def xh:=@Go.Proofs.Tryz.func267
def BZ:=@Nat.div_add_mod
def Ca:=@List.mem_filter
def Fj:=@Nat.lt_trichotomy
def Ow:=@Nat.add_mul_mod_self_right
def Ox:=@Nat.lt_of_mul_lt_mul_right
def xj:=@Nat.one_mul
def KM:=@List.replicate_succ'
def KN:=@List.pairwise_append
def KO:=@List.getElem?_modify
def Cc:=@Go.DataW.trod_int
def Fk:=@List.cons_append
def Fl:=@Bool.not_eq_true
def yN:=@Go.Proofs.Tryz.func142
def Oy:=@Classical.byContradiction
def KP:=@List.replicate_succ
def KQ:=@Int.gcd_eq_zero_iff
def Oz:=@List.filterMap_cons_some
def Fm:=@Nat.div_le_self
def KR:=@List.mem_replicate
def KS:=@Nat.and_lt_two_pow
def KT:=@Int.lt_or_lt_of_ne
def yO:=@Go.Proofs.Tryz.func30
def Fo:=@List.drop_zero
def Ce:=@Go.Proofs.Tryz.func100
def KV:=@Go.IntKind.wrap_u32'
def Cf:=@List.set_set
def Fp:=@List.foldl_nil
def Cg:=@Nat.pow_mul
def Ch:=@Go.Proofs.Tryz.func85
def Ci:=@Go.Proofs.Tryz.func37
def Cj:=@Go.Proofs.Tryz.func63
def Ck:=@Go.Proofs.Tryz.func10
section
def val (B:Nat):List Nat->Nat
 | []=>0
 | x::xs=>x+B*val B xs
def eP (B:Nat) (xs:List Nat):Prop:=∀ x∈xs,x<B
variable {P:Prop}
theorem ae (h:P:=by omega):P:=h
def jr (B:Nat) (n:Nat):List Nat:=
 if _h:n=0\/B<2 then [] else n%B::jr B (n/B)
termination_by n
decreasing_by
 have:n≠0/\2<=B:=ae;exact Nat.div_lt_self ae ae
theorem val_nil (B:Nat):val B []=0:=rfl
theorem iQ (B x:Nat) (xs:List Nat):val B (x::xs)=x+B*val B xs:=rfl
theorem eM (B:Nat):jr B 0=[]:=by rw[jr];simp
variable {B:Nat}
theorem js {n:Nat} (hB:2<=B) (hn:n≠0):jr B n=n%B::jr B (n/B):=by
 rw[jr,dif_neg ae]
theorem eP.nil (B:Nat):eP B []:=λ_ h=>by cases h
theorem eP.cons {B x:Nat} {xs:List Nat} (hx:x<B) (h:eP B xs):eP B (x::xs):=by
 intro y hy;cases hy with
 | head=>exact hx
 | tail _ h'=>exact h y h'
variable {xs:List Nat} {x:Nat}
theorem eP.head (h:eP B (x::xs)):x<B:=h x (tW ..)
theorem eP.tail (h:eP B (x::xs)):eP B xs:=λy hy=>h y (qH _ hy)
theorem eP.take (h:eP B xs) (k:Nat):eP B (xs.take k):=λy hy=>h y (lX hy)
theorem eP.drop (h:eP B xs) (k:Nat):eP B (xs.drop k):=λy hy=>h y (qI hy)
variable {ys:List Nat}
theorem eP.append (h:eP B xs) (h':eP B ys):eP B (xs++ys):=by
 intro y hy;rcases lp.1 hy with hy|hy
 ·exact h y hy
 ·exact h' y hy
theorem eP.at (h:eP B xs) {k:Nat} (hk:xs[k]? =some x):x<B:=h x (dc hk)
theorem eP.replicate (hB:0<B) (k:Nat):eP B (List.replicate k 0):=λy hy=>by
 rw[KR] at hy;omega
theorem qP (hB:2<=B):∀ n,eP B (jr B n):=by
 intro n
 induction n using Nat.strongRecOn with
 | _ n ih=>
   by_cases hn:n=0
   ·subst hn;rw[eM];exact eP.nil B
   ·rw[js hB hn];exact eP.cons (eR _ ae) (ih _ (Nat.div_lt_self ae ae))
theorem mg (hB:2<=B):∀ n,val B (jr B n)=n:=by
 intro n
 induction n using Nat.strongRecOn with
 | _ n ih=>
   by_cases hn:n=0
   ·subst hn;rw[eM];rfl
   ·rw[js hB hn,iQ,ih _ (Nat.div_lt_self ae ae)];exact tZ n B
theorem qQ:∀ {xs:List Nat},eP B xs->val B xs<B^xs.length:=by
 intro xs
 induction xs with
 | nil=>intro _;simp[val]
 | cons x xs ih=>
   intro h;have h1:=ih h.tail;have hx:=h.head;rw[iQ,tX,fP,gi (B^xs.length) B]
   calc x+B*val B xs<B+B*val B xs:=by omega
    _=B*(val B xs+1):=by rw[ct];omega
    _<=B*B^xs.length:=jM _ h1
theorem jT (B:Nat):∀ (xs ys:List Nat),val B (xs++ys)=val B xs+B^xs.length*val B ys:=by
 intro xs ys
 induction xs with
 | nil=>simp[val]
 | cons x xs ih=>
   rw[Fk,iQ,ih,iQ,tX,fP,ct,xg]
   congr 2
   rw[<-eJ,gi B (B^xs.length)]
theorem oA (B:Nat) (xs:List Nat) (x:Nat):val B (xs++[x])=val B xs+B^xs.length*x:=by
 rw[jT];simp[val]
theorem ja (B k:Nat):val B (List.replicate k 0)=0:=by
 induction k with
 | zero=>rfl
 | succ k ih=>rw[KP,iQ,ih];simp
theorem cf (h:P:=by simp):P:=h
theorem yP (hB:2<=B):∀ {xs:List Nat},eP B xs->(∀ x,xs.getLast? =some x->x≠0)->jr B (val B xs)=xs:=by
 intro xs
 induction xs with
 | nil=>intro _ _;exact eM B
 | cons x xs ih=>
   intro hd hl;have hx:=hd.head
   have hne:val B (x::xs)≠0:=by
    intro h0;rw[iQ] at h0;have pA:x=0:=ae;cases xs with
    | nil=>exact hl x cf pA
    | cons y ys=>
      have hv:val B (y::ys)=0:=by
       have:B*val B (y::ys)=0:=ae;rcases Nat.mul_eq_zero.1 this with h|h
       ·omega
       ·exact h
      have:=ih hd.tail (λz hz=>hl z (by rw[List.getLast?_cons_cons];exact hz));rw[hv,eM] at this;cases this
   rw[js hB hne,iQ];have h1:(x+B*val B xs)%B=x:=by rw[Nat.add_mul_mod_self_left];exact tY hx
   have h2:(x+B*val B xs)/B=val B xs:=by
    rw[Nat.add_mul_div_left _ _ ae,xf hx];omega
   rw[h1,h2]
   congr 1
   cases xs with
   | nil=>exact eM B
   | cons y ys=>exact ih hd.tail (λz hz=>hl z (by rw[List.getLast?_cons_cons];exact hz))
theorem Mg (hB:2<=B):∀ n x,(jr B n).getLast? =some x->x≠0:=by
 intro n
 induction n using Nat.strongRecOn with
 | _ n ih=>
   intro x hx;by_cases hn:n=0
   ·subst hn;rw[eM] at hx;cases hx
   ·rw[js hB hn] at hx;by_cases h2:n/B=0
    ·rw[h2,eM] at hx;simp at hx
     have:n<B:=by
      rcases qm n B with h|h
      ·exact h
      ·have:=Nat.div_pos h (by omega:0<B);omega
     rw[tY this] at hx;omega
    ·rw[js hB h2,List.getLast?_cons_cons,<-js hB h2] at hx;exact ih _ (Nat.div_lt_self ae ae) x hx
variable {m:Nat}
theorem yQ (hB:2<=B) {n:Nat} (h:jr B m=jr B n):m=n:=by
 have:=au (val B) h
 rwa [mg hB,mg hB] at this
theorem fC (hB:2<=B):∀ (k n:Nat),n<B^k->(jr B n).length<=k:=by
 intro k
 induction k with
 | zero=>intro n h;have:n=0:=by simpa using h
         subst this;rw[eM];simp
 | succ k ih=>
   intro n h;by_cases hn:n=0
   ·subst hn;rw[eM];simp
   ·rw[js hB hn,tX]
    have:n/B<B^k:=by
     rw[Fg ae]
     rwa [fP] at h
    have:=ih _ this;omega
theorem yR (hB:2<=B) {k n:Nat} (h:B^k<=n):k<(jr B n).length:=by
 rcases qm k (jr B n).length with h' |h'
 ·exact h'
 ·have h1:=qQ (qP hB n);rw[mg hB] at h1;have:=qJ (show 0<B by omega) h';omega
theorem dX (hB:2<=B) {n:Nat} (h:m<=n):(jr B m).length<=(jr B n).length:=by
 apply fC hB;have h1:=qQ (qP hB n);rw[mg hB] at h1;omega
theorem Dr (hB:2<=B) (h:eP B xs):(jr B (val B xs)).length<=xs.length:=
 fC hB _ _ (qQ h)
theorem Fq (hB:2<=B) (n:Nat):n<B^(jr B n).length:=by
 have h1:=qQ (qP hB n)
 rwa [mg hB] at h1
theorem xk (hB:2<=B) {n:Nat} (hn:n≠0):B^((jr B n).length-1)<=n:=by
 rcases qm n (B^((jr B n).length-1)) with h|h
 ·have h1:=fC hB _ _ h;have h2:0<(jr B n).length:=by rw[js hB hn];simp
  omega
 ·exact h
theorem Dt (hB:2<=B) {n:Nat}:jr B n=[]↔n=0:=by
 constructor
 ·intro h;exact yQ hB (h.trans (eM B).symm)
 ·rintro rfl;exact eM B
theorem qq (hB:2<=B) {n:Nat} (hn:n≠0):0<(jr B n).length:=by
 rw[js hB hn];simp
theorem kf (B:Nat) (xs:List Nat) (k:Nat) (hk:k<=xs.length):val B xs=val B (xs.take k)+B^k*val B (xs.drop k):=by
 conv=>lhs;rw[<-oi k xs]
 rw[jT,cE,gG hk]
theorem bW {α:Type} {xs:List α} {k:Nat} {x:α} (h:xs[k]? =some x):xs.take (k+1)=xs.take k++[x]:=by
 rw[List.take_add_one,h];rfl
theorem nt {k:Nat} (hk:xs[k]? =some 0):val B (xs.take (k+1))=val B (xs.take k):=by
 rw[bW hk,oA];simp
theorem lK (hB:2<=B) (hd:eP B xs) (hm:m<=xs.length) (hv:val B (xs.take m)=val B xs) (hl:m=0\/∃ x,xs[m-1]? =some x/\x≠0):
  jr B (val B xs)=xs.take m:=by
 rw[<-hv];apply yP hB (hd.take m);intro x hx;rcases hl with rfl|⟨y,hy,Du⟩
 ·simp at hx
 ·rw[KG,cE,gG hm,qK] at hx
  split at hx
  ·rw[hy] at hx;cases hx;exact Du
  ·cases hx
variable {a:Nat}
theorem mh (hx:eP B xs) {k b:Nat} (ha:xs[k]? =some a) (hb:ys[k]? =some b) (xX:a<b)
  (hh:xs.drop (k+1)=ys.drop (k+1)):val B xs<val B ys:=by
 have vu:k<xs.length:=(bd.1 ha).1;have qy:k<ys.length:=(bd.1 hb).1;rw[kf B xs (k+1) ae,kf B ys (k+1) ae,hh,bW ha,bW hb,oA,oA];have h1:=qQ (hx.take k);rw[cE,gG ae] at h1 ⊢;rw[cE,gG ae]
 have h2:B^k*a+B^k<=B^k*b:=by
  calc B^k*a+B^k=B^k*(a+1):=by rw[ct];omega
   _<=B^k*b:=jM _ xX
 omega
def ar (xs:List Nat):Nat:=val 4294967296 xs
def limbs (n:Nat):List Nat:=jr 4294967296 n
def da (xs:List Nat):Prop:=eP 4294967296 xs
theorem da.nil:da []:=eP.nil _
theorem da.cons {x:Nat} {xs:List Nat} (hx:x<4294967296) (h:da xs):da (x::xs):=eP.cons hx h
theorem da.take (h:da xs) (k:Nat):da (xs.take k):=eP.take h k
theorem da.drop (h:da xs) (k:Nat):da (xs.drop k):=eP.drop h k
theorem da.append (h:da xs) (h':da ys):da (xs++ys):=eP.append h h'
theorem da.at (h:da xs) {k:Nat} (hk:xs[k]? =some x):x<4294967296:=eP.at h hk
theorem aC (n:Nat):da (limbs n):=qP ae n
theorem aw (n:Nat):ar (limbs n)=n:=mg ae n
theorem cz:limbs 0=[]:=eM _
theorem ff:ar []=0:=rfl
theorem gr (x:Nat) (xs:List Nat):ar (x::xs)=x+4294967296*ar xs:=rfl
theorem eN (xs:List Nat) (x:Nat):ar (xs++[x])=ar xs+4294967296^xs.length*x:=oA _ xs x
theorem fh (xs ys:List Nat):ar (xs++ys)=ar xs+4294967296^xs.length*ar ys:=jT _ xs ys
theorem kh (h:da xs):ar xs<4294967296^xs.length:=qQ h
theorem jt (h:da xs):(limbs (ar xs)).length<=xs.length:=Dr ae h
theorem kQ (k n:Nat) (h:n<4294967296^k):(limbs n).length<=k:=fC ae k n h
theorem xM {k n:Nat} (h:4294967296^k<=n):k<(limbs n).length:=yR ae h
theorem pH (n:Nat):n<4294967296^(limbs n).length:=Fq ae n
theorem Dv {n:Nat} (hn:n≠0):4294967296^((limbs n).length-1)<=n:=xk ae hn
theorem dt {n:Nat} (h:m<=n):(limbs m).length<=(limbs n).length:=dX ae h
theorem Mh {n:Nat} (h:limbs m=limbs n):m=n:=yQ ae h
theorem nQ {n:Nat}:limbs n=[]↔n=0:=Dt ae
theorem dY {n:Nat} (hn:n≠0):0<(limbs n).length:=qq ae hn
theorem qR {n:Nat} (h:(limbs n).length=0):n=0:=nQ.1 (mR h)
theorem sS (h:da xs) (hl:∀ x,xs.getLast? =some x->x≠0):limbs (ar xs)=xs:=yP ae h hl
theorem sU (n x:Nat) (h:(limbs n).getLast? =some x):x≠0:=Mg ae n x h
def im (a b:Nat):Int:=if a<b then-1 else if b<a then 1 else 0
theorem nu {b:Nat} (h:a<b):im a b= -1:=by simp[im,h]
theorem nw {b:Nat} (h:b<a):im a b=1:=by simp[im,h];omega
theorem ui (a:Nat):im a a=0:=by simp[im]
theorem kA {a b:Nat}:(im a b<0)↔a<b:=by unfold im;split <;> (try split) <;> omega
theorem bA (xs:List Nat) (k:Nat):ar (xs.take (k+1))=ar (xs.take k)+4294967296^k*xs.getD k 0:=by
 by_cases h:k<xs.length
 ·rw[bW (aH h),eN,cE,gG ae];simp[List.getD,h]
 ·rw[cO ae,cO ae];simp[List.getD,List.getElem?_eq_none (by omega:xs.length<=k)]
theorem bS {k:Nat} (h:xs.length<=k):ar (xs.take k)=ar xs:=by rw[cO h]
theorem Fs (p s x y c X Y D:Nat) (h:D+p*c=X+Y) (hs:s=x+y+c):
  D+p*(s%4294967296)+p*4294967296*(s/4294967296)=(X+p*x)+(Y+p*y):=by
 subst hs
 have h2:p*((x+y+c)%4294967296)+p*4294967296*((x+y+c)/4294967296)=p*(x+y+c):=by
  rw[eJ,<-ct,tZ]
 rw[ct,ct] at h2;omega
theorem OA (p x m c X D:Nat) (h:D+p*c=X*m):
  D+p*((x*m+c)%4294967296)+p*4294967296*((x*m+c)/4294967296)=(X+p*x)*m:=by
 have h2:p*((x*m+c)%4294967296)+p*4294967296*((x*m+c)/4294967296)=p*(x*m+c):=by
  rw[eJ,<-ct,tZ]
 rw[ct] at h2;rw[ek,eJ p x m];omega
def jl (n:Nat):Nat:=if n=0 then 0 else Nat.log2 n+1
theorem Mj:jl 0=0:=rfl
theorem xY (n:Nat):n<2^jl n:=by
 unfold jl
 split
 ·omega
 ·exact Nat.lt_log2_self
theorem xZ {n:Nat} (h:n≠0):2^(jl n-1)<=n:=by
 unfold jl;rw[if_neg h];exact Nat.log2_self_le h
theorem uj {n:Nat} (h:n≠0):0<jl n:=by unfold jl;rw[if_neg h];omega
theorem KW {n b:Nat} (h:n<2^b) (h':b=0\/2^(b-1)<=n):jl n=b:=by
 by_cases h0:n=0
 ·subst h0;rcases h' with rfl|h'
  ·rfl
  ·have:=qN (n:=b-1) (show 0<2 by omega);omega
 ·have h1:=xY n;have h2:=xZ h0;have h3:=uj h0;rcases Fj (jl n) b with hl|he|hg
  ·rcases h' with rfl|h'
   ·omega
   ·have:=qJ (show 0<2 by omega) (show jl n<=b-1 by omega);omega
  ·exact he
  ·have:=qJ (show 0<2 by omega) (show b<=jl n-1 by omega);omega
theorem sJ {n k:Nat} (h:n<2^k):jl n<=k:=by
 by_cases h0:n=0
 ·subst h0;rw[Mj];omega
 ·have h1:=xZ h0;rcases qm k (jl n) with hl|hg
  ·have:=qJ (show 0<2 by omega) (show k<=jl n-1 by omega);omega
  ·exact hg
theorem Ft (k:Nat):4294967296^k=2^(32*k):=by rw[Cg]
theorem Fu {n t:Nat} (hl:(limbs n)[(limbs n).length-1]? =some t):jl n=32*((limbs n).length-1)+jl t/\t≠0:=by
 have hlast:(limbs n).getLast? =some t:=by rw[KG];exact hl
 have ht:=sU n t hlast
 have yS:0<(limbs n).length:=by
  rcases mX (limbs n).length with h|h
  ·rw[mR h] at hl;cases hl
  ·exact h
 refine⟨?_,ht⟩
 have e:limbs n=(limbs n).take ((limbs n).length-1)++[t]:=by
  have:=bW hl;rw[show (limbs n).length-1+1=(limbs n).length by omega,BX] at this;exact this
 have hv:n=ar ((limbs n).take ((limbs n).length-1))+4294967296^((limbs n).length-1)*t:=by
  have h1:=au ar e;rw[aw,eN,cE,gG ae] at h1;exact h1
 have gN:=kh ((aC n).take ((limbs n).length-1));rw[cE,gG ae] at gN;generalize ar ((limbs n).take ((limbs n).length-1))=lo at hv gN;generalize (limbs n).length-1=m at hv gN;have h1:=xY t;have h2:=xZ ht;have h3:=uj ht;rw[Ft] at hv gN;apply KW
 ·rw[hv,qn]
  calc lo+2^(32*m)*t<2^(32*m)+2^(32*m)*t:=by omega
   _=2^(32*m)*(t+1):=by rw[ct];omega
   _<=2^(32*m)*2^jl t:=jM _ h1
 ·right
  rw[hv,show 32*m+jl t-1=32*m+(jl t-1) by omega,qn];have:=jM (2^(32*m)) h2;omega
theorem Fv (k:Nat) (hx:x≠0):List.replicate k 0++limbs x=limbs (x*4294967296^k):=by
 have h:ar (List.replicate k 0++limbs x)=x*4294967296^k:=by
  rw[fh,aw,show ar (List.replicate k 0)=0 from ja _ k,Fh,gi];omega
 rw[<-h]
 symm
 apply sS
 ·exact da.append (eP.replicate ae k) (aC x)
 ·intro y hy;rw[List.getLast?_append] at hy;have hne:limbs x≠[]:=λh=>hx (nQ.1 h);cases hl:(limbs x).getLast? with
  | none=>rw[List.getLast?_eq_none_iff] at hl;exact absurd hl hne
  | some z=>rw[hl] at hy;simp at hy;subst hy;exact sU x z hl
theorem xN (x k:Nat) (hk:k<=(limbs x).length):ar ((limbs x).drop k)=x/4294967296^k:=by
 have h:=kf 4294967296 (limbs x) k hk;have h1:val 4294967296 (limbs x)=x:=aw x;have h2:=kh ((aC x).take k);rw[cE,gG hk] at h2;rw[h1] at h;show val 4294967296 _=_;have h3:val 4294967296 ((limbs x).take k)<4294967296^k:=h2;generalize val 4294967296 ((limbs x).take k)=lo at h h3;generalize val 4294967296 ((limbs x).drop k)=hi at h ⊢;rw[h,Nat.add_mul_div_left _ _ (qN ae),xf h3];omega
def iH (x:Nat) (n:Int):Nat:=if 0<=n then x*2^n.toNat else x/2^(-n).toNat
theorem Fw (hB:2<=B) {ds:List Nat} (hd:eP B ds) (h:ds.length<=(jr B (val B ds)).length):jr B (val B ds)=ds:=by
 apply yP hB hd;intro x hx h0;subst h0;have hne:ds≠[]:=by rintro rfl;cases hx
 have yS:0<ds.length:=List.length_pos_iff.2 hne;have hk:ds[ds.length-1]? =some 0:=by rw[<-KG];exact hx
 have h1:=nt (B:=B) hk;rw[show ds.length-1+1=ds.length by omega,BX] at h1;have h2:=qQ (hd.take (ds.length-1));rw[<-h1,cE,gG ae] at h2;have h3:=fC hB _ _ h2;omega
theorem cN (B:Nat) (xs:List Nat) (k:Nat):val B (xs.take (k+1))=val B (xs.take k)+B^k*xs.getD k 0:=by
 by_cases h:k<xs.length
 ·rw[bW (aH h),oA,cE,gG ae];simp[List.getD,h]
 ·rw[cO ae,cO ae];simp[List.getD,List.getElem?_eq_none (by omega:xs.length<=k)]
theorem fU {k:Nat} (h:xs.length<=k):val B (xs.take k)=val B xs:=by rw[cO h]
theorem Mk (B p s x y c X Y D:Nat) (h:D+p*c=X+Y) (hs:s=x+y+c):D+p*(s%B)+p*B*(s/B)=(X+p*x)+(Y+p*y):=by
 subst hs
 have h2:p*((x+y+c)%B)+p*B*((x+y+c)/B)=p*(x+y+c):=by
  rw[eJ,<-ct,tZ]
 rw[ct,ct] at h2;omega
theorem sK {k:Nat} (h:xs[k]? =some x):val B (xs.drop k)=x+B*val B (xs.drop (k+1)):=by
 obtain⟨hl,e⟩:=bd.1 h;rw[oh hl,e,iQ]
theorem Ml (B p x y r d r' X Y D:Nat) (h:D+Y=X+p*r) (hs:x+B*r'=d+y+r):(D+p*d)+(Y+p*y)=(X+p*x)+p*B*r':=by
 have h2:p*(x+B*r')=p*(d+y+r):=by rw[hs]
 rw[ct,ct,ct,<-eJ] at h2;omega
end
section
open Go.RowKit
def Rd (w:World) (sz:Nat) (v:Value) (n:Nat) (cs:List Value):Prop:=
 ∃ p c,v=.slice p n c/\n<=c/\c<=maxLen/\cs.length=n*sz/\(0<n*sz->∃ b off,p=some ⟨b,off,none⟩/\∀ j u,cs[j]? =some u->w.cell? ⟨b,off+j,none⟩=some u)
theorem Rd.nil (w:World) (sz:Nat):Rd w sz (.slice none 0 0) 0 []:=⟨none,0,rfl,aP _,by simp[maxLen],cf,λh=>ae⟩
variable {cs:List Value} {v:Value} {w w':World}
theorem Rd.keep {sz n:Nat} (h:Rd w sz v n cs) (hk:∀ a u,w.cell? a=some u->w'.cell? a=some u):Rd w' sz v n cs:=by
 obtain⟨p,c,rfl,h1,h2,h3,h4⟩:=h;refine⟨p,c,aa,h1,h2,h3,λhn=> ?_⟩;obtain⟨b,off,hp,hc⟩:=h4 hn;exact⟨b,off,hp,λj u hj=>hk _ _ (hc j u hj)⟩
variable {u:Value}
theorem kj {a:Addr} (h:w.cell? a=some u):a.block<w.heap.size:=gP w a h
theorem Below.keeps (h:Below w.heap.size w w'):∀ a u,w.cell? a=some u->w'.cell? a=some u:=
 λ_ _ hu=>(h.cell (kj hu)).trans hu
theorem Rd.below {sz n:Nat} (h:Rd w sz v n cs) (hb:Below w.heap.size w w'):Rd w' sz v n cs:=h.keep (Below.keeps hb)
theorem Rd.alloc {sz n:Nat} (h:Rd w sz v n cs) (o:Obj):Rd (w.alloc o) sz v n cs:=
 h.below ((fB _ _).alloc (aP _) o)
theorem Rd.drew {sz n:Nat} (h:Rd w sz v n cs):Rd w.drew sz v n cs:=h
theorem Rd.drewN {sz n:Nat} (h:Rd w sz v n cs) (k:Nat):Rd (w.drewN k) sz v n cs:=h
variable {e:Nat}
theorem Rd.lit {cs:Array Value} {n:Nat} (hn:cs.size=n) (hm:n<=9223372036854775807):Rd (w.alloc (.cells cs e)) 1 (.slice (some ⟨w.heap.size,0,none⟩) n n) n cs.toList:=
 ⟨_,n,rfl,aP _,by unfold maxLen;omega,by simp[hn],λ_=>⟨w.heap.size,0,rfl,λj u hj=>by
   rw[fe,World.cell?_alloc_new];simpa using hj⟩⟩
variable {B:Nat}
theorem Rd.jU {sz n:Nat} (h:Rd w sz v n cs) (hB:B=w.heap.size) (hb:Below B w w'):Rd w' sz v n cs:=h.below (hB▸hb)
theorem Rd.own {sz n:Nat} (h:w.ownsRow B e sz v n cs):Rd w sz v n cs:=by
 rcases h.2 with ⟨rfl,rfl⟩|⟨g,cap,cur,rfl,_,hg,fV,gj,_,OB⟩
 ·have hx:cs=[]:=mR (by simpa using h.1);subst hx;exact Rd.nil w sz
 ·refine⟨_,cap,aa,fV,gj,h.1,λ_=>⟨g,0,aa,λj u hj=> ?_⟩⟩;have:=h.cells (g:=g) aa j u hj
  rwa [show (⟨g,0,none⟩:Addr).add j=⟨g,0+j,none⟩ by unfold Addr.add;split <;> simp_all] at this
variable {B':Nat}
theorem Own.mono {sz n:Nat} (h:w.ownsRow B e sz v n cs) (hB:B'<=B):w.ownsRow B' e sz v n cs:=by
 refine⟨h.1,?_⟩;rcases h.2 with h2|⟨g,cap,cur,hv,hb,r⟩
 ·exact .inl h2
 ·exact .inr ⟨g,cap,cur,hv,ae,r⟩
theorem Own.below {sz n:Nat} (h:w.ownsRow B e sz v n cs) (hb:Below w.heap.size w w'):w'.ownsRow B e sz v n cs:=by
 refine⟨h.1,?_⟩;rcases h.2 with h2|⟨g,cap,cur,hv,hg,hh,r⟩
 ·exact .inl h2
 ·exact .inr ⟨g,cap,cur,hv,hg,(hb.block g (gh.1 hh).1).trans hh,r⟩
theorem Own.ya {sz n:Nat} (h:w.ownsRow B e sz v n cs) (hn:0<n):∃ g c,v=.slice (some ⟨g,0,none⟩) n c/\B<=g/\g<w.heap.size:=by
 rcases h.2 with ⟨_,h0⟩|⟨g,cap,cur,rfl,hb,hg,_⟩
 ·omega
 ·exact⟨g,cap,aa,hb,(gh.1 hg).1⟩
theorem Own.drewN {sz n:Nat} (h:w.ownsRow B e sz v n cs) (k:Nat):(w.drewN k).ownsRow B e sz v n cs:=h
theorem Below.drewN {a:World} (h:Below B a w) (n:Nat):Below B a (w.drewN n):=⟨h.os,h.tape,h.output,h.size,h.block⟩
variable {c m:Nat} {p:Option Addr}
theorem Own.take {sz n:Nat} (h:w.ownsRow B e sz (.slice p n c) n cs) (hm:m<=n):w.ownsRow B e sz (.slice p m c) m (cs.take (m*sz)):=by
 have hle:m*sz<=n*sz:=eQ _ hm;refine⟨by rw[cE,h.1];omega,?_⟩;rcases h.2 with ⟨hv,rfl⟩|⟨g,cap,cur,hv,hb,hg,fV,gj,hcs,OB⟩
 ·left
  simp only[Value.slice.injEq] at hv;obtain⟨rfl,_,rfl⟩:=hv;exact⟨by rw[show m=0 by omega],ae⟩
 ·right
  simp only[Value.slice.injEq,true_and] at hv;obtain⟨rfl,rfl⟩:=hv;exact⟨g,c,cur,aa,hb,hg,ae,gj,hcs,by rw[<-OB,List.take_take,gG hle]⟩
theorem Rd.take {sz n:Nat} (h:Rd w sz (.slice p n c) n cs) (hm:m<=n):Rd w sz (.slice p m c) m (cs.take (m*sz)):=by
 obtain⟨p',c',hv,h1,h2,h3,h4⟩:=h;simp only[Value.slice.injEq,true_and] at hv;obtain⟨rfl,rfl⟩:=hv;have hle:m*sz<=n*sz:=eQ _ hm;refine⟨p,c,aa,ae,h2,by rw[cE,h3];omega,λhn=> ?_⟩;obtain⟨b,off,hp,hc⟩:=h4 ae;exact⟨b,off,hp,λj u hj=>hc j u (by rw[qK] at hj;split at hj;exact hj;cases hj)⟩
def ints (k:IntKind) (xs:List Nat):List Value:=xs.map λ(x:Nat)=>Value.int k (x:Int)
@[simp] theorem xl (k:IntKind) (xs:List Nat):(ints k xs).length=xs.length:=by simp[ints]
variable {xs:List Nat} {j x:Nat}
theorem um {k:IntKind} (h:xs[j]? =some x):(ints k xs)[j]? =some (.int k (x:Int)):=by simp[ints,h]
theorem rR (k:IntKind) (xs:List Nat) (m:Nat):(ints k xs).take m=ints k (xs.take m):=by simp[ints,List.map_take]
theorem Mm (k:IntKind) (xs:List Nat) (m:Nat):(ints k xs).drop m=ints k (xs.drop m):=by simp[ints,List.map_drop]
theorem jg (k:IntKind) (xs ys:List Nat):ints k (xs++ys)=ints k xs++ints k ys:=by simp[ints]
theorem ints_set (k:IntKind) (xs:List Nat) (j x:Nat):(ints k xs).set j (.int k (x:Int))=ints k (xs.set j x):=by simp[ints,List.map_set]
theorem oD (k:IntKind) (xs:List Nat):∀ u∈ints k xs,u.oneCell'=true:=by
 intro u hu;obtain⟨_,_,rfl⟩:=ey.1 hu;rfl
variable {a:Nat}
theorem Rd.lit1 {k:IntKind} {x:Int} (hx:x=(a:Int)):Rd (w.alloc (.cells #[.int k x] e)) 1 (.slice (some ⟨w.heap.size,0,none⟩) 1 1) 1 (ints k [a]):=by
 subst hx;exact Rd.lit aa ae
theorem Rd.lit2 {k:IntKind} {b:Nat} {x y:Int} (hx:x=(a:Int)) (hy:y=(b:Int)):Rd (w.alloc (.cells #[.int k x,.int k y] e)) 1 (.slice (some ⟨w.heap.size,0,none⟩) 2 2) 2 (ints k [a,b]):=by
 subst hx;subst hy;exact Rd.lit aa ae
theorem Rd.cellAt {n:Nat} {k:Nat} {ki:IntKind} (h:Rd w 1 (.slice p n c) n (ints ki xs)) (hk:k<n):
  ∃ b off x,p=some ⟨b,off,none⟩/\b<w.heap.size/\xs[k]? =some x/\w.cell? ⟨b,off+k,none⟩=some (.int ki (x:Int)):=by
 obtain⟨p',c',hv,h1,h2,h3,h4⟩:=h;simp only[Value.slice.injEq,true_and] at hv;obtain⟨rfl,rfl⟩:=hv;obtain⟨b,off,hp,hc⟩:=h4 ae;rw[xl] at h3;have hx:=aH (show k<xs.length by omega);have hcell:=hc k _ (um hx);exact⟨b,off,_,hp,kj hcell,hx,hcell⟩
theorem Rd.form {sz n:Nat} (h:Rd w sz v n cs):∃ p c,v=.slice p n c/\n<=c/\c<=maxLen/\cs.length=n*sz:=by
 obtain⟨p,c,hv,h1,h2,h3,_⟩:=h;exact⟨p,c,hv,h1,h2,h3⟩
theorem Own.form {sz n:Nat} (h:w.ownsRow B e sz v n cs):∃ p c,v=.slice p n c/\n<=c/\c<=maxLen/\cs.length=n*sz:=(Rd.own h).form
variable {P:Program}
theorem nR (w:World) (base t ty e:Nat) (i:TypeInfo) (z:Value) (size bytes:Nat) (ht:P.underlying t=some (.slice e)) (hi:P.info? e=some i) (hz:i.zero=some z)
  (xm:i.size=size) (Mn:i.bytes=bytes) (hzs:z.cells.size=size) (hsz:0<size)
  (v:Value) (n:Nat) (xs:List Value) (aN:w.ownsRow base e size v n xs) (x:Value) (m:Nat) (news:List Value) (hx:Rd w size x m news) (h1:∀ u∈news,u.oneCell'=true)
  (h63:n+m<=maxLen) (gz:(n+m)*bytes<=140737488355328) (qu:base<=w.heap.size):
  ∃ v' w',(Builtin.append_ #[t,t] ty #[v,x]).run P w=.ok v' w'/\w'.ownsRow base e size v' (n+m) (xs++news)/\w.grownBy w' v.ownBlock:=by
 obtain⟨p,c,rfl,hmc,gj,hl,hp⟩:=hx;by_cases hm:m=0
 ·subst hm;have hn:news=[]:=mR (by simpa using hl);subst hn;refine⟨v,w,?_,by simpa using aN,⟨rfl,rfl,rfl,aP _,λ_ _ _=>rfl⟩⟩;subst xm;rcases aN.2 with ⟨rfl,rfl⟩|⟨g,cap,cur,rfl,_,hg,fV,hcm',hcs,OB⟩
  ·cases p <;> simp[Builtin.append_,run_underlying ht,sizeOf,typeInfo,hi,Builtin.lenOf,Builtin.firstCells,loadCells,loadCellsFrom]
  ·cases p <;> simp[Builtin.append_,run_underlying ht,sizeOf,typeInfo,hi,Builtin.lenOf,Builtin.firstCells,loadCells,loadCellsFrom,fV,storeCells]
 ·obtain⟨b,off,rfl,hc⟩:=hp (Nat.mul_pos ae hsz)
  obtain⟨v',w',hr,h2,h3,_⟩:=run_append_own (P:=P) w base t ty e i z size bytes ht hi hz xm Mn hzs hsz v n xs aN ⟨b,off,none⟩ m c news hl
   (λj u hj=>by
    have:=hc j u hj
    rwa [show (⟨b,off,none⟩:Addr).add j=⟨b,off+j,none⟩ by unfold Addr.add;split <;> simp_all]) h1 h63 gz qu
  exact⟨v',w',hr,h2,h3⟩
variable {ops:Array Oper} {Q:Exit->Act->World->Prop} {rest:List Oper}
theorem jV (w:World) {o:Oper} {a:Act} (hgd:o.guard=none) (s x:Operand) (t:TypeId)
  (ho:o.op=.call { callee:=.builtin .append,args:=#[s,x],argTypes:=#[t,t] })
  (base:Nat) (e:TypeId) (i:TypeInfo) (z:Value) (size bytes:Nat) (ht:P.underlying t=some (.slice e)) (hi:P.info? e=some i) (hz:i.zero=some z)
  (xm:i.size=size) (Mn:i.bytes=bytes) (hzs:z.cells.size=size) (hsz:0<size)
  (v:Value) (n:Nat) (xs:List Value) (hs:a.eval s=v) (aN:w.ownsRow base e size v n xs)
  (xv:Value) (m:Nat) (news:List Value) (hx:a.eval x=xv) (vw:Rd w size xv m news) (h1:∀ u∈news,u.oneCell'=true)
  (h63:n+m<=maxLen) (gz:(n+m)*bytes<=140737488355328) (qu:base<=w.heap.size)
  (h:∀ v' w',w'.ownsRow base e size v' (n+m) (xs++news)->w.grownBy w' v.ownBlock->wpList P ops Q rest (a.put o.dst v') w'):wpList P ops Q (o::rest) a w:=by
 refine wpList_plain hgd λ_ hK=> ?_;obtain⟨v',w',hr,h2,h3⟩:=nR (P:=P) w base t o.type e i z size bytes ht hi hz xm Mn hzs hsz v n xs aN xv m news vw h1 h63 gz qu;unfold Oper.wp execOp;simp only[ho,resolve,invoke,builtin,Sem.run_bind,Sem.run_pure,Result.andThen_ok,List.map_toArray,List.map_cons,List.map_nil,hs,hx,hr];exact hK _ _ (h v' w' h2 h3)
theorem qS {o:Oper} {a:Act} {K:Act->World->Prop} {E:Prop} (hgd:o.guard=none) (s x:Operand) (t:TypeId)
  (ho:o.op=.call { callee:=.builtin .append,args:=#[s,x],argTypes:=#[t,t] })
  (base:Nat) (e:TypeId) (i:TypeInfo) (z:Value) (size bytes:Nat) (ht:P.underlying t=some (.slice e)) (hi:P.info? e=some i) (hz:i.zero=some z)
  (xm:i.size=size) (Mn:i.bytes=bytes) (hzs:z.cells.size=size) (hsz:0<size)
  (v:Value) (n:Nat) (xs:List Value) (hs:a.eval s=v) (aN:w.ownsRow base e size v n xs)
  (xv:Value) (m:Nat) (news:List Value) (hx:a.eval x=xv) (vw:Rd w size xv m news) (h1:∀ u∈news,u.oneCell'=true)
  (h63:n+m<=maxLen) (gz:(n+m)*bytes<=140737488355328) (qu:base<=w.heap.size)
  (h:∀ v' w',w'.ownsRow base e size v' (n+m) (xs++news)->w.grownBy w' v.ownBlock->K (a.put o.dst v') w'):
  if Region.wanted o (yielded ops a.tmps)=true then Oper.wp P o a w K Q else E:=by
 have hw:Region.wanted o (yielded ops a.tmps)=true:=by simp[Region.wanted,hgd]
 rw[if_pos hw];obtain⟨v',w',hr,h2,h3⟩:=nR (P:=P) w base t o.type e i z size bytes ht hi hz xm Mn hzs hsz v n xs aN xv m news vw h1 h63 gz qu;unfold Oper.wp execOp;simp only[ho,resolve,invoke,builtin,Sem.run_bind,Sem.run_pure,Result.andThen_ok,List.map_toArray,List.map_cons,List.map_nil,hs,hx,hr];exact h v' w' h2 h3
variable {w1:World}
theorem Cl {o:Obj} {a:Addr} {row:Option Nat} (hg:(w.alloc o).drew.grownBy w1 row) (hc:w.cell? a=some v) (hne:some a.block≠row):w1.cell? a=some v:=
 hg.cell ((World.cell?_alloc_lt w o a (kj hc)).trans hc) hne
theorem OC {sz n b:Nat} (h:w.ownsRow B e sz v n cs) (hb:b<B):some b≠v.ownBlock:=by
 intro he;have:=(h.lt b he.symm).1;omega
variable {w0:World}
theorem Below.behind {sz n:Nat} {o:Obj} (h:Below B w0 w) (hB:B<=w.heap.size) (hg:(w.alloc o).drew.grownBy w1 v.ownBlock) (ho:w.ownsRow B' e sz v n cs) (hBB:B<=B'):Below B w0 w1:=
 ((h.alloc hB o).drew).grown hg (by simp;omega) λk hk=>by have:=(ho.lt k hk).1;omega
theorem Below.aG {a b c:World} (h:Below a.heap.size a b) (k:Below b.heap.size b c):Below a.heap.size a c:=h.trans (k.mono h.size)
theorem wpList_append_run {o:Oper} {a:Act} (hgd:o.guard=none) (s x:Operand) (t t':TypeId)
  (ho:o.op=.call { callee:=.builtin .append,args:=#[s,x],argTypes:=#[t,t'] }) (v xv:Value) (hs:a.eval s=v) (hx:a.eval x=xv) (v':Value) (w':World)
  (hr:(Builtin.append_ #[t,t'] o.type #[v,xv]).run P w=.ok v' w') (h:wpList P ops Q rest (a.put o.dst v') w'):wpList P ops Q (o::rest) a w:=by
 refine wpList_plain hgd λ_ hK=> ?_;unfold Oper.wp execOp;simp only[ho,resolve,invoke,builtin,Sem.run_bind,Sem.run_pure,Result.andThen_ok,List.map_toArray,List.map_cons,List.map_nil,hs,hx,hr];exact hK _ _ h
theorem Below.OD {sz n:Nat} (h:Below B w0 w) (hg:w.grownBy w' v.ownBlock) (ho:w.ownsRow B' e sz v n cs) (hB:B<=w.heap.size) (hBB:B<=B'):Below B w0 w':=
 h.grown hg hB λk hk=>by have:=(ho.lt k hk).1;omega
theorem aZ {f:FuncId} {args:Array Value} {R:Ending->World->Prop} (h:∀ R':Ending->World->Prop,Hid (∀ e w',R e w'->R' e w')->Calls P f args w R'):Calls P f args w R:=h R λ_ _ h=>h
variable {a':Int}
theorem oG {k:IntKind} {a:Int} (h:a=a'):Ending.returned (.int k a)=.returned (.int k a'):=by rw[h]
theorem ret2 {k l:IntKind} {a b b':Int} (h:a=a') (h':b=b'):Ending.returned (.tuple #[.int k a,.int l b])=.returned (.tuple #[.int k a',.int l b']):=by rw[h,h']
theorem Own.made {n:Nat} {k:IntKind} (h:w.ownsRow B e 1 v n (madeCells (Value.int k 0).cells (n*1)).toList):w.ownsRow B e 1 v n (ints k ([]++List.replicate n 0)):=by
 have:(madeCells (Value.int k 0).cells (n*1)).toList=ints k ([]++List.replicate n 0):=by
  rw[show (Value.int k 0).cells=#[Value.int k 0] from aa,toList_madeCells_one];simp[ints]
 rwa [this] at h
variable {ds:List Nat} {g cap r:Nat}
theorem Own.yc {n:Nat} {k:IntKind} (h:w.ownsRow B e 1 (.slice (some ⟨g,0,none⟩) n cap) n (ints k (ds++List.replicate (r+1) 0))):
  w.cell? ⟨g,ds.length,none⟩=some (.int k 0)/\w.frozen? ⟨g,ds.length,none⟩=false:=by
 have hl:=h.1;simp at hl;refine⟨?_,h.frozenAt _⟩;rw[h.cellAt _ ae];have:=um (k:=k) (xs:=ds++List.replicate (r+1) 0) (j:=ds.length) (x:=0) (by simp[List.replicate_succ]);simpa using this
theorem Own.uq {n:Nat} {k:IntKind} (h:w.ownsRow B e 1 (.slice (some ⟨g,0,none⟩) n cap) n (ints k (ds++List.replicate (r+1) 0))):
  (w.setCell ⟨g,ds.length,none⟩ (.int k (x:Int))).ownsRow B e 1 (.slice (some ⟨g,0,none⟩) n cap) n (ints k ((ds++[x])++List.replicate r 0)):=by
 have h1:=(h.stored ds.length (.int k (x:Int))).1;rw[ints_set] at h1
 have:(ds++List.replicate (r+1) 0).set ds.length x=(ds++[x])++List.replicate r 0:=by
  rw[tV _ _ (aP _),oy,KP,List.set_cons_zero,gQ];rfl
 rwa [this] at h1
theorem Own.iR {n:Nat} {k:IntKind} (h:w.ownsRow B e 1 (.slice (some ⟨g,0,none⟩) n cap) n (ints k xs)) (hj:j<n):
  ∃ x,xs[j]? =some x/\w.cell? ⟨g,j,none⟩=some (.int k (x:Int))/\w.frozen? ⟨g,j,none⟩=false:=by
 have hl:=h.1;simp at hl;have hx:=aH (show j<xs.length by omega);refine⟨_,hx,?_,h.frozenAt _⟩;rw[h.cellAt _ ae,um hx]
theorem Own.iq {n:Nat} {k:IntKind} (h:w.ownsRow B e 1 (.slice (some ⟨g,0,none⟩) n cap) n (ints k xs)):
  (w.setCell ⟨g,j,none⟩ (.int k (x:Int))).ownsRow B e 1 (.slice (some ⟨g,0,none⟩) n cap) n (ints k (xs.set j x)):=by
 have h1:=(h.stored j (.int k (x:Int))).1
 rwa [ints_set] at h1
theorem Own.lt {sz n:Nat} {p:Nat} (h:w.ownsRow B e sz (.slice (some ⟨g,p,none⟩) n cap) n cs):B<=g/\g<w.heap.size:=World.ownsRow.lt h g rfl
theorem yU {f:FuncId} {args:Array Value} {W:World} {X:Nat->World} (h:Calls P f args W λe w'=>e=.returned v/\W=w') (hW:∃ n,W=X n):
  Calls P f args W λe w''=>e=.returned v/\∃ m,w''=X m:=
 h.mono λ_ _ ⟨he,hm⟩=>⟨he,hW.imp λ_ hn=>hm▸hn⟩
variable {d:Nat}
theorem er {o:Oper} {a:Act} (hgd:o.guard=none) (s x:Operand) (t:TypeId)
  (ho:o.op=.call { callee:=.builtin .append,args:=#[s,x],argTypes:=#[t,t] })
  (base:Nat) (e:TypeId) (i:TypeInfo) (z:Value) (bytes:Nat) (ht:P.underlying t=some (.slice e)) (hi:P.info? e=some i) (hz:i.zero=some z)
  (xm:i.size=1) (Mn:i.bytes=bytes) (hzs:z.cells.size=1)
  {n:Nat} {k:IntKind} {y:Int} {e':TypeId} (aN:w.ownsRow base e 1 v n (ints k ds)) (hs:a.eval s=v) (hx:a.eval x=.slice (some ⟨w.heap.size,0,none⟩) 1 1) (hy:y=(d:Int))
  (h63:n+1<=9223372036854775807) (gz:(n+1)*bytes<=140737488355328) (qu:base<=w.heap.size)
  (h:∀ v' w',w'.ownsRow base e 1 v' (n+1) (ints k (ds++[d]))->(∀ w0,Below base w0 w->Below base w0 w')->wpList P ops Q rest (a.put o.dst v') w'):wpList P ops Q (o::rest) a (w.alloc (.cells #[.int k y] e')):=by
 refine jV _ hgd s x t ho base e i z 1 bytes ht hi hz xm Mn hzs ae v n _ hs (aN.alloc _) _ 1 (ints k [d]) hx (Rd.lit1 hy) (oD k [d]) (by unfold maxLen;omega) gz (by simp;omega) ?_;intro v' w' h1 h2;refine h v' w' (by rw[jg];exact h1) λw0 hb=> ?_;exact (hb.alloc qu _).grown h2 (by simp;omega) λj hj=>(aN.lt j hj).1
theorem OE (a b:Nat) (ha:a<4294967296) (hb:b<4294967296):a*b<18446744065119617026:=by
 have h1:a*b<=4294967295*4294967295:=uc ae ae;omega
set_option maxRecDepth 100000 in
theorem Mo (a b:Nat) (w:World) (ha:a<4294967296) (hb:b<4294967296):
  Calls Tryz.prog 318 #[.int .u32 (a:Int),.int .u32 (b:Int)] w λe w'=>e=.returned (.tuple #[.int .u32 ((a*b/4294967296:Nat):Int),.int .u32 ((a*b%4294967296:Nat):Int)])/\w=w':=by
 have h:=OE a b ha hb;have h2:(a:Int)*(b:Int)<18446744065119617026:=by rw[<-sG];omega
 have h3:0<=(a:Int)*(b:Int):=by rw[<-sG];omega
 refine aZ λR' cj=> ?_;go_enter Tryz.func318,Tryz.ntmps318
 go_wp2
 refine cj.out _ _ ⟨ret2 ?_ ?_,aa⟩ <;> simp
set_option maxRecDepth 100000 in
theorem oH (a b c:Nat) (w:World) (ha:a<4294967296) (hb:b<4294967296) (hc:c<4294967296):
  Calls Tryz.prog 299 #[.int .u32 (a:Int),.int .u32 (b:Int),.int .u32 (c:Int)] w λe w'=>e=.returned (.tuple #[.int .u32 (((a+b+c)%4294967296:Nat):Int),.int .u32 (((a+b+c)/4294967296:Nat):Int)])/\w=w':=by
 refine aZ λR' cj=> ?_;go_enter Tryz.func299,Tryz.ntmps299
 go_wp2
 refine cj.out _ _ ⟨ret2 ?_ ?_,aa⟩ <;> simp
set_option maxRecDepth 100000 in
theorem Mp (a b d:Nat) (w:World) (ha:a<d) (hb:b<4294967296) (hd:d<4294967296):
  Calls Tryz.prog 303 #[.int .u32 (a:Int),.int .u32 (b:Int),.int .u32 (d:Int)] w λe w'=>
   e=.returned (.tuple #[.int .u32 (((a*4294967296+b)/d:Nat):Int),.int .u32 (((a*4294967296+b)%d:Nat):Int)])/\∃ k,w'=w.drewN k:=by
 have hd0:((d:Int) != 0)=true:=by rw[bne_iff_ne];omega
 have hd1:1<=(d:Int):=ae;have hle:¬ ((d:Int)<=(a:Int)):=ae
 have xO:bits BinOp.or IntKind.u64 ((a:Int)*4294967296) (b:Int)=((a*4294967296+b:Nat):Int):=by
  have e1:((a:Int)*4294967296)=((a*4294967296:Nat):Int):=cf;rw[e1,u64_or_nat _ _ ae ae,nat_join 32 _ _ ae ae]
 have hq:(a*4294967296+b)/d<4294967296:=by
  rw[Fg ae];have:(a+1)*4294967296<=d*4294967296:=eQ _ ha;rw[gi 4294967296 d];omega
 have hq1:((a:Int)*4294967296+(b:Int))/(d:Int)<4294967296:=by
  have:(((a*4294967296+b)/d:Nat):Int)<4294967296:=ae;simpa using this
 have hr:(a*4294967296+b)%d<d:=eR _ ae
 have yV:((a:Int)*4294967296+(b:Int))%(d:Int)<4294967296:=by
  have:(((a*4294967296+b)%d:Nat):Int)<4294967296:=ae;simpa using this
 have hq0:0<=((a:Int)*4294967296+(b:Int))/(d:Int):=by
  exact Int.ediv_nonneg ae ae
 have yW:0<=((a:Int)*4294967296+(b:Int))%(d:Int):=by
  exact Int.emod_nonneg _ ae
 rw[show ((a*4294967296+b:Nat):Int)=(a:Int)*4294967296+(b:Int) by simp] at xO;clear hq hr;refine aZ λR' cj=> ?_;go_enter Tryz.func303,Tryz.ntmps303
 go_wp2_with fail
 go_quiet (fail)
 go_wp2
 refine cj.out _ _ ⟨ret2 ?_ ?_,_,aa⟩ <;> simp
theorem ur (n:Nat) (h:n<4294967296):n.testBit 31=decide (2147483648<=n):=by
 rw[Nat.testBit_eq_decide_div_mod_eq];by_cases h':2147483648<=n
 ·have:n/2^31=1:=by omega
  simp[this,h']
 ·have:n/2^31=0:=by omega
  simp[this];omega
theorem by_top (n:Nat) (h:n<4294967296):n/2147483648=(n.testBit 31).toNat:=by
 rw[ur n h];by_cases h':2147483648<=n <;> simp[h'] <;> omega
theorem IH (x y c d:Nat) (hx:x<4294967296) (hy:y<4294967296) (hc:c<2) (hd:d=(x+8589934592-y-c)%4294967296):
  ((4294967295 ^^^x) &&& y |||(4294967295 ^^^(x ^^^y)) &&& d)/2147483648=if x<y+c then 1 else 0:=by
 have vx:d<4294967296:=ae;have h1:4294967295 ^^^x<2^32:=BS ae ae;have h2:x ^^^y<2^32:=BS ae ae;have h3:4294967295 ^^^(x ^^^y)<2^32:=BS ae h2;have h4:(4294967295 ^^^x) &&& y |||(4294967295 ^^^(x ^^^y)) &&& d<2^32:=Nat.or_lt_two_pow (KS _ ae) (KS _ ae)
 rw[by_top _ ae];simp only[Nat.testBit_or,Nat.testBit_and,Nat.testBit_xor,ur _ hx,ur _ hy,ur _ vx,ur 4294967295 ae];by_cases a1:2147483648<=x <;> by_cases a2:2147483648<=y <;> by_cases a3:2147483648<=d <;> simp[a1,a2,a3] <;> omega
set_option maxRecDepth 100000 in
theorem Cm (a b c:Nat) (w:World) (ha:a<4294967296) (hb:b<4294967296) (hc:c<2):
  Calls Tryz.prog 302 #[.int .u32 (a:Int),.int .u32 (b:Int),.int .u32 (c:Int)] w λe w'=>
   (∃ d r:Nat,e=.returned (.tuple #[.int .u32 (d:Int),.int .u32 (r:Int)])/\d<4294967296/\r<=1/\a+4294967296*r=d+b+c)/\w=w':=by
 obtain⟨d,hd⟩:∃ d,d=(a+8589934592-b-c)%4294967296:=⟨_,aa⟩;have vx:d<4294967296:=ae;have ye:=IH a b c d ha hb hc hd;have hdi:((a:Int)-(b:Int)-(c:Int))%4294967296=(d:Int):=ae;have hm:IntKind.u32.max=((4294967295:Nat):Int):=aa;have h1:4294967295 ^^^a<4294967296:=BS (n:=32) ae ae;have h2:a ^^^b<4294967296:=BS (n:=32) ae ae;have h3:4294967295 ^^^(a ^^^b)<4294967296:=BS (n:=32) ae ae;have h4:(4294967295 ^^^a) &&& b<4294967296:=KS (n:=32) _ ae;have h5:(4294967295 ^^^(a ^^^b)) &&& d<4294967296:=KS (n:=32) _ ae
 have H:Hid (bits BinOp.or IntKind.u32 (bits BinOp.and IntKind.u32 (bits BinOp.xor IntKind.u32 IntKind.u32.max (a:Int)) (b:Int))
   (bits BinOp.and IntKind.u32 (bits BinOp.xor IntKind.u32 IntKind.u32.max (bits BinOp.xor IntKind.u32 (a:Int) (b:Int))) (((a:Int)-(b:Int)-(c:Int))%4294967296))/2147483648=((if a<b+c then 1 else 0:Nat):Int)):=by
  show _=_;rw[hdi,hm,u32_xor_nat _ _ ae ha,u32_and_nat _ _ h1 hb,u32_xor_nat _ _ ha hb,u32_xor_nat _ _ ae h2,u32_and_nat _ _ h3 vx,u32_or_nat _ _ h4 h5,<-ye];simp
 have HD:Hid (((a:Int)-(b:Int)-(c:Int))%4294967296=((a+8589934592-b-c)%4294967296:Nat)):=by show _=_;rw[hdi,hd]
 clear hd hdi ye hm h1 h2 h3 h4 h5 vx;refine aZ λR' cj=> ?_;go_enter Tryz.func302,Tryz.ntmps302
 go_wp2
 all_goals exact cj.out _ _ ⟨⟨(a+8589934592-b-c)%4294967296,if a<b+c then 1 else 0,ret2 HD.out H.out,eR _ ae,by split <;> omega,by split <;> omega⟩,aa⟩
set_option maxRecDepth 100000 in
theorem dL (p:Option Addr) (n c:Nat) (xs:List Nat) (w:World) (hr:Rd w 1 (.slice p n c) n (ints .u32 xs)) (hl:da xs):
  Calls Tryz.prog 207 #[.slice p n c] w λe w'=>(∃ m,m<=n/\e=.returned (.slice p m c)/\limbs (ar xs)=xs.take m)/\w=w':=by
 have fV:n<=c/\c<=9223372036854775807/\xs.length=n:=by
  obtain⟨p',c',hv,h1,h2,h3⟩:=hr.form;simp only[Value.slice.injEq,true_and] at hv;obtain⟨rfl,rfl⟩:=hv;unfold maxLen at h2;simp at h3;exact⟨h1,ae,h3⟩
 obtain⟨fV,gj,fv⟩:=fV;have HX:Hid (xs.length=n):=fv;clear fv;refine aZ λR' cj=> ?_;go_enter Tryz.func207,Tryz.ntmps207
 go_wp2
 go_loop [0] (λv=>∃ m,m<=n/\v=.slice p m c/\ar (xs.take m)=ar xs) (λv=>match v with | .slice _ m _=>m|_=>0)
 case atStart=>exact⟨n,aP _,aa,by rw[cO (fA HX.out)]⟩
 case round=>
  obtain⟨m,hm,rfl,hv⟩:=hrel;have HV:Hid (ar (xs.take m)=ar xs):=hv;clear hv;by_cases h0:m=0
  ·subst h0;go_wp2
   exact cj.out _ _ ⟨⟨0,fQ _,aa,lK ae hl (fQ _) HV.out (.inl aa)⟩,aa⟩
  ·obtain⟨b,off,x,rfl,hb,hx,hc⟩:=hr.cellAt (k:=m-1) ae;have OG:Hid (xs[m-1]? =some x):=hx;clear hx;have h0':0<m:=ae;obtain⟨j,rfl⟩:∃ j,m=j+1:=⟨m-1,ae⟩;rw[Nat.add_sub_cancel] at hc;by_cases pA:x=0
   ·subst pA;go_wp2
    go_round
    case rel=>exact⟨j,ae,aa,(nt OG.out).symm.trans HV.out⟩
    case measure=>simp
   ·have hx0':((x:Int) == 0)=false:=by rw[lZ];omega
    go_wp2
    exact cj.out _ _ ⟨⟨j+1,hm,aa,lK ae hl (by rw[HX.out];exact hm) HV.out (.inr ⟨x,OG.out,pA⟩)⟩,aa⟩
theorem km:(Tryz.prog.info? 78).map (λi=>(i.zero,i.size,i.bytes))=some (some (.int .u32 0),1,4):=by kernel_rfl
theorem cW {P:Prop} (h:P:=by decide):P:=h
set_option maxRecDepth 100000 in
theorem ir (v:Value) (n:Nat) (xs:List Nat) (w:World) (hr:Rd w 1 v n (ints .u32 xs)) (hn:n<=1073741824):
  Calls Tryz.prog 151 #[v] w λe w'=>∃ v',e=.returned v'/\w'.ownsRow w.heap.size 78 1 v' n (ints .u32 xs)/\Below w.heap.size w w':=by
 obtain⟨p,c,rfl,fV,gj,hl⟩:=hr.form;have Hr:=af hr;have dZ:∀ w':World,(binOp .eql 23 (.slice p n c) (.slice none 0 0)).run Tryz.prog w'=.ok (.bool p.isNone) w':=λw'=>Lib.run_eql_slice_nil w' 23 78 p n c 0 0 ma;obtain⟨i0,hi,jI,gu,jP⟩:=info_parts km;have HL:=af hl;clear hl hr;unfold maxLen at gj;cases p with
 | none=>
   refine aZ λR' cj=> ?_;go_enter Tryz.func151,Tryz.ntmps151
   go_wp2
   refine cj.out _ _ ⟨_,aa,?_,fB _ _⟩;obtain⟨p,c',hv,_,_,h3,h4⟩:=Hr.out;simp only[Value.slice.injEq,true_and] at hv;obtain⟨rfl,rfl⟩:=hv
   have h0:n=0:=by
    rcases mX n with h|h
    ·exact h
    ·obtain⟨b,off,hp,_⟩:=h4 ae;cases hp
   subst h0;have hx:ints .u32 xs=[]:=mR (by simpa using h3);rw[hx];exact mc _ _ _ _
 | some ad=>
   refine aZ λR' cj=> ?_;go_enter Tryz.func151,Tryz.ntmps151
   go_wp2_with (at_builtin;refine jV _ aa _ _ 23 aa w.heap.size 78 i0 (.int .u32 0) 1 4 ma hi jI gu jP aa cW _ 0 [] aa (World.ownsRow_made w #[] 0 (aP _) (by simp[maxLen]) aa) _ n _ aa (Hr.out.alloc _) (oD _ _) (by unfold maxLen;omega) ae cf ?_;intro v' w1 aN Mq)
   simp only[Nat.zero_add,List.nil_append] at aN;refine cj.out _ _ ⟨_,aa,aN,((fB _ _).alloc (aP _) _).grown Mq cf λk hk=>by injection (show some w.heap.size=some k from hk) with hk;omega⟩
theorem Rd.u32 {n:Nat} (h:Rd w 1 v n (ints .u32 xs)):∃ p c,v=.slice p n c/\n<=c/\c<=9223372036854775807/\xs.length=n:=by
 obtain⟨p,c,hv,h1,h2,h3⟩:=h.form;unfold maxLen at h2;exact⟨p,c,hv,h1,ae,by simpa using h3⟩
theorem Rd.limbs {n:Nat} (h:Rd w 1 (.slice p n c) n (ints .u32 xs)) (hm:m<=n) (hl:limbs (ar xs)=xs.take m):
  Rd w 1 (.slice p m c) m (ints .u32 (limbs (ar xs))):=by
 have:=h.take hm
 rwa [np,rR,<-hl] at this
theorem Own.limbs {n:Nat} (h:w.ownsRow B e 1 (.slice p n c) n (ints .u32 xs)) (hm:m<=n) (hl:limbs (ar xs)=xs.take m):
  w.ownsRow B e 1 (.slice p m c) m (ints .u32 (limbs (ar xs))):=by
 have:=Own.take h hm
 rwa [np,rR,<-hl] at this
set_option maxRecDepth 100000 in
theorem kB (v:Value) (n:Nat) (xs:List Nat) (w:World) (hr:Rd w 1 v n (ints .u32 xs)) (hl:da xs) (hn:n<=1073741824):
  Calls Tryz.prog 148 #[v] w λe w'=>∃ v',e=.returned v'/\w'.ownsRow w.heap.size 78 1 v' (limbs (ar xs)).length (ints .u32 (limbs (ar xs)))/\Below w.heap.size w w':=by
 obtain⟨p,c,rfl,fV,gj,fv⟩:=hr.u32;have Hr:=af hr;have HL:=af hl;have HX:=af fv;clear fv hl hr;refine aZ λR' cj=> ?_;go_enter Tryz.func148,Tryz.ntmps148
 go_wp2_with fail
 refine (dL p n c xs _ Hr.out HL.out).mono ?_;rintro e w1 ⟨⟨m,hm,rfl,Ba⟩,rfl⟩;have HM:=af Ba;clear Ba
 have vz:Hid (m=(limbs (ar xs)).length):=by
  show _=_;rw[HM.out,cE,HX.out];omega
 go_wp2_with fail
 refine (ir _ m (limbs (ar xs)) _ (Hr.out.limbs hm HM.out) ae).mono ?_;rintro e w1 ⟨v',rfl,aN,hb⟩;go_wp2
 refine cj.out _ _ ⟨_,aa,?_,hb⟩;rw[<-vz.out];exact aN
set_option maxRecDepth 100000 in
theorem yX (a b:Nat) (w:World):
  Calls Tryz.prog 300 #[.int .i64 (a:Int),.int .i64 (b:Int)] w λe w'=>e=.returned (.int .i64 (im a b))/\w=w':=by
 rcases Fj a b with h|rfl|h
 ·have e1:=af (nu h);refine aZ λR' cj=> ?_;go_enter Tryz.func300,Tryz.ntmps300
  go_wp2
  exact cj.out _ _ ⟨oG e1.out.symm,aa⟩
 ·have e1:=af (ui a);refine aZ λR' cj=> ?_;go_enter Tryz.func300,Tryz.ntmps300
  go_wp2
  exact cj.out _ _ ⟨oG e1.out.symm,aa⟩
 ·have e1:=af (nw h);refine aZ λR' cj=> ?_;go_enter Tryz.func300,Tryz.ntmps300
  go_wp2
  exact cj.out _ _ ⟨oG e1.out.symm,aa⟩
set_option maxRecDepth 100000 in
theorem yY (a b:Nat) (w:World):
  Calls Tryz.prog 301 #[.int .u32 (a:Int),.int .u32 (b:Int)] w λe w'=>e=.returned (.int .i64 (im a b))/\w=w':=by
 rcases Fj a b with h|rfl|h
 ·have e1:=af (nu h);refine aZ λR' cj=> ?_;go_enter Tryz.func301,Tryz.ntmps301
  go_wp2
  exact cj.out _ _ ⟨oG e1.out.symm,aa⟩
 ·have e1:=af (ui a);refine aZ λR' cj=> ?_;go_enter Tryz.func301,Tryz.ntmps301
  go_wp2
  exact cj.out _ _ ⟨oG e1.out.symm,aa⟩
 ·have e1:=af (nw h);refine aZ λR' cj=> ?_;go_enter Tryz.func301,Tryz.ntmps301
  go_wp2
  exact cj.out _ _ ⟨oG e1.out.symm,aa⟩
theorem sL {b:Nat} (h:(limbs a).length<(limbs b).length):a<b:=by
 rcases qm a b with h' |h'
 ·exact h'
 ·have:=dt h';omega
theorem OH {b:Nat} (h:(limbs a).length≠(limbs b).length):im (limbs a).length (limbs b).length=im a b:=by
 rcases qm (limbs a).length (limbs b).length with h' |h'
 ·rw[nu h',nu (sL h')]
 ·have h'':(limbs b).length<(limbs a).length:=by omega
  rw[nw h'',nw (sL h'')]
variable {y:Nat}
theorem II {b k:Nat} (hx:(limbs a)[k]? =some x) (hy:(limbs b)[k]? =some y) (hne:x≠y) (hd:(limbs a).drop (k+1)=(limbs b).drop (k+1)):im x y=im a b:=by
 rcases qm x y with h|h
 ·have:=mh (B:=4294967296) (aC a) hx hy h hd;rw[show val 4294967296 (limbs a)=a from aw a,show val 4294967296 (limbs b)=b from aw b] at this;rw[nu h,nu this]
 ·have h':y<x:=by omega
  have:=mh (B:=4294967296) (aC b) hy hx h' hd.symm;rw[show val 4294967296 (limbs a)=a from aw a,show val 4294967296 (limbs b)=b from aw b] at this;rw[nw h',nw this]
theorem Mr {α:Type} {xs ys:List α} {k:Nat} {x:α} (hx:xs[k]? =some x) (hy:ys[k]? =some x) (h:xs.drop (k+1)=ys.drop (k+1)):xs.drop k=ys.drop k:=by
 have h1:xs.drop k=x::xs.drop (k+1):=by
  obtain⟨hl,e⟩:=bd.1 hx;rw[oh hl,e]
 have h2:ys.drop k=x::ys.drop (k+1):=by
  obtain⟨hl,e⟩:=bd.1 hy;rw[oh hl,e]
 rw[h1,h2,h]
set_option maxRecDepth 100000 in
theorem Dw (va vb:Value) (n m:Nat) (xs ys:List Nat) (w:World) (hr:Rd w 1 va n (ints .u32 xs)) (hs:Rd w 1 vb m (ints .u32 ys)) (hx:da xs) (hy:da ys):
  Calls Tryz.prog 269 #[va,vb] w λe w'=>e=.returned (.int .i64 (im (ar xs) (ar ys)))/\∃ k,w'=w.drewN k:=by
 obtain⟨p,c,rfl,fV,gj,fv⟩:=hr.u32;obtain⟨q,d,rfl,NY,IJ,iU⟩:=hs.u32;obtain⟨a,ha⟩:∃ a,a=ar xs:=⟨_,aa⟩;obtain⟨b,hb⟩:∃ b,b=ar ys:=⟨_,aa⟩;have Hr:=af hr;have Hs:=af hs;have HL:=af hx;have HM:=af hy;have HX:=af fv;have HY:=af iU;rw[<-ha,<-hb];have HA:=af ha;have HB:=af hb;clear fv iU hx hy hr hs ha hb;refine aZ λR' cj=> ?_;go_enter Tryz.func269,Tryz.ntmps269
 go_wp2_with fail
 refine (dL p n c xs _ Hr.out HL.out).mono ?_;rintro e w1 ⟨⟨n',hn',rfl,kS⟩,rfl⟩;have HLN:=af kS;clear kS;go_wp2_with fail
 refine (dL q m d ys _ Hs.out HM.out).mono ?_;rintro e w1 ⟨⟨m',hm',rfl,Ba⟩,rfl⟩;have OI:=af Ba;clear Ba;have HN:Hid ((limbs a).length=n'):=by show _=_;rw[HA.out,HLN.out,cE,HX.out];omega
 have HMM:Hid ((limbs b).length=m'):=by show _=_;rw[HB.out,OI.out,cE,HY.out];omega
 have OJ:=Hr.out.limbs hn' HLN.out;have Fx:=Hs.out.limbs hm' OI.out;rw[<-HA.out] at OJ;rw[<-HB.out] at Fx;have Hra:=af OJ;have Hrb:=af Fx;clear OJ Fx;by_cases hne:n'=m'
 ·subst hne;go_wp2_with fail
  go_loopw [5] (λiv wr=>∃ k dn:Nat,k<=n'/\iv=.int .i64 ((k:Int)-1)/\(limbs a).drop k=(limbs b).drop k/\wr=w.drewN dn) (λiv _=>(intOf iv+1).toNat)
  case atStart=>exact⟨n',0,aP _,aa,by rw[mV (fA HN.out),mV (fA HMM.out)],rfl⟩
  case round=>
   obtain⟨k,dn,hk,rfl,hd,rfl⟩:=hrel;have HD:=af hd;clear hd;by_cases h0:k=0
   ·subst h0;go_wp2
    exact cj.out _ _ ⟨oG (by rw[Mh (show limbs a=limbs b by simpa using HD.out),ui]),_,aa⟩
   ·obtain⟨j,rfl⟩:∃ j,k=j+1:=⟨k-1,ae⟩;obtain⟨g1,o1,x,rfl,hg1,hx,qz⟩:=Hra.out.cellAt (k:=j) ae;obtain⟨g2,o2,y,rfl,hg2,hy,vE⟩:=Hrb.out.cellAt (k:=j) ae;have HXX:=af hx;have HYY:=af hy;have hjj:((j+1:Nat):Int)-1=(j:Int):=ae;clear hx hy h0 hg1 hg2;rw[hjj];clear hjj;by_cases Dx:x=y
    ·subst Dx;have rS:((x:Int) != (x:Int))=false:=cf;go_wp2_with fail
     go_quiet (fail)
     go_wp2
     go_roundw
     case rel=>exact⟨j,_,ae,aa,Mr HXX.out HYY.out HD.out,aa⟩
     case measure=>simp[intOf]
    ·have rS:((x:Int) != (y:Int))=true:=by rw[bne_iff_ne];omega
     go_wp2_with fail
     go_quiet (fail)
     go_wp2_with fail
     go_quiet ((go_at_call 301;exact yU (yY x y _) ⟨_,aa⟩))
     go_wp2
     exact cj.out _ _ ⟨oG (II HXX.out HYY.out Dx HD.out),_,by rw[World.drewN_drewN,World.drewN_drewN]⟩
 ·have hne':((n':Int) != (m':Int))=true:=by rw[bne_iff_ne];omega
  go_wp2_with fail
  refine (yX n' m' _).mono ?_;rintro e w1 ⟨rfl,rfl⟩;go_wp2
  exact cj.out _ _ ⟨oG (by rw[<-HN.out,<-HMM.out];exact OH (by rw[HN.out,HMM.out];exact hne)),0,aa⟩
def yZ (w:World) (B g N:Nat) (xs ys:List Nat) (cv iv:Value) (wr:World):Prop:=
 ∃ (k carry:Nat) (ds:List Nat),k<=N/\ds.length=k/\iv=.int .i64 (k:Int)/\cv=.int .u32 (carry:Int)/\carry<=1/\da ds/\
   ar ds+4294967296^k*carry=ar (xs.take k)+ar (ys.take k)/\
   wr.ownsRow B 78 1 (.slice (some ⟨g,0,none⟩) (N+1) (N+1)) (N+1) (ints .u32 (ds++List.replicate (N+1-k) 0))/\Below B w wr
variable {ys:List Nat} {N carry:Nat} {wr:World}
theorem yZ.step {k:Nat} (hk:k<N) (oI:ds.length=k) (hc:carry<=1) (hl:da ds)
  (hv:ar ds+4294967296^k*carry=ar (xs.take k)+ar (ys.take k)) (aN:wr.ownsRow B 78 1 (.slice (some ⟨g,0,none⟩) (N+1) (N+1)) (N+1) (ints .u32 (ds++List.replicate (N+1-k) 0)))
  (hb:Below B w wr) (hx:xs.getD k 0=x) (hy:ys.getD k 0=y) (lE:x<4294967296) (yf:y<4294967296):
  yZ w B g N xs ys (.int .u32 (((x+y+carry)/4294967296:Nat):Int)) (.int .i64 ((k:Int)+1)) (wr.setCell ⟨g,k,none⟩ (.int .u32 (((x+y+carry)%4294967296:Nat):Int))):=by
 subst oI;have e:N+1-ds.length=(N-ds.length)+1:=ae;rw[e] at aN;have h1:=Own.uq (x:=(x+y+carry)%4294967296) aN;refine⟨ds.length+1,(x+y+carry)/4294967296,ds++[(x+y+carry)%4294967296],ae,cf,aa,aa,?_,?_,?_,?_,?_⟩
 ·omega
 ·exact hl.append (da.cons (eR _ ae) da.nil)
 ·rw[eN,bA,bA,hx,hy,fP];exact Fs _ _ x y carry _ _ _ hv aa
 ·rw[show N+1-(ds.length+1)=N-ds.length by omega];exact h1
 ·exact hb.setCell (Own.lt aN).1 _
set_option maxRecDepth 100000 in
theorem KX (p q:Option Addr) (n c m d:Nat) (xs ys:List Nat) (w:World) (hr:Rd w 1 (.slice p n c) n (ints .u32 xs)) (hs:Rd w 1 (.slice q m d) m (ints .u32 ys)) (hx:da xs) (hy:da ys)
  (hn:n<=1073741824) (hmn:m<=n) (args:Array Value) (hargs:args=#[.slice p n c,.slice q m d]\/m<n/\args=#[.slice q m d,.slice p n c]):
  Calls Tryz.prog 268 args w λe w'=>∃ v',e=.returned v'/\w'.ownsRow w.heap.size 78 1 v' (limbs (ar xs+ar ys)).length (ints .u32 (limbs (ar xs+ar ys)))/\Below w.heap.size w w':=by
 obtain⟨p',c',hv,fV,gj,fv⟩:=hr.u32;simp only[Value.slice.injEq,true_and] at hv;obtain⟨rfl,rfl⟩:=hv;obtain⟨q',d',hv,NY,IJ,iU⟩:=hs.u32;simp only[Value.slice.injEq,true_and] at hv;obtain⟨rfl,rfl⟩:=hv;have Hr:=af hr;have Hs:=af hs;have HL:=af hx;have HM:=af hy;have HX:=af fv;have HY:=af iU;obtain⟨i0,hi,jI,gu,jP⟩:=info_parts km;obtain⟨B,hB⟩:∃ B,B=w.heap.size:=⟨_,aa⟩;have HB:=af hB;rw[<-hB];clear fv iU hx hy hr hs hB;rcases hargs with rfl|⟨hlt,rfl⟩
 all_goals
  refine aZ λR' cj=> ?_;go_enter Tryz.func268,Tryz.ntmps268
  go_wp2_with (at_make;refine wpList_make_full _ aa _ _ 23 aa B 78 i0 (.int .u32 0) 1 ma hi jI gu .i64 .i64 _ _ (n+1) aa aa ae ae (by rw[jP];omega) (by unfold maxLen;omega) (fA HB.out) ?_;intro w1 aN Mq)
  have IK:=af (Own.made aN);have Hb1:Hid (Below B w w1):=(fB _ _).grown Mq (fA HB.out) (λk hk=>by cases hk);clear aN Mq;go_loopw [6,22] (λcv iv wr=>yZ w B w.heap.size n xs ys cv iv wr) (λ_ iv _=>n-(intOf iv).toNat)
  case atStart=>exact⟨0,0,[],fQ _,aa,aa,aa,ae,da.nil,by simp[ff],IK.out,Hb1.out⟩
  case round=>
   obtain⟨k,carry,ds,hk,oI,rfl,rfl,pJ,hl,hv,aN,hb⟩:=hrel;have HO:=af aN;have Dy:=af oI;have HV:=af hv;have Cn:=af hl;have iV:=af hb;clear aN oI hv hl hb;have yg:B<=wr.heap.size:=by have:=iV.out.size;have:=HB.out;omega
   by_cases hkn:k<n
   ·obtain⟨b1,o1,x,rfl,bF,iI,qz⟩:=(Hr.out.jU HB.out iV.out).cellAt hkn;have yi:=af iI;have lE:=HL.out.at iI;have e:n+1-k=(n-k)+1:=ae;have pK:=HO.out;rw[e] at pK;obtain⟨hcell,Bb⟩:=Own.yc pK;rw[Dy.out] at hcell Bb;clear e pK iI;by_cases IL:k<m
    ·obtain⟨b2,o2,y,rfl,cJ,qT,vE⟩:=(Hs.out.jU HB.out iV.out).cellAt IL;have KY:=af qT;have yf:=HM.out.at qT;clear qT;go_wp2_with fail
     refine (oH x y carry _ lE yf ae).mono ?_;rintro e w2 ⟨rfl,rfl⟩;go_wp2_with fail
     go_roundw
     case rel=>exact yZ.step hkn Dy.out pJ Cn.out HV.out HO.out iV.out (by simp[List.getD,yi.out]) (by simp[List.getD,KY.out]) lE yf
     case measure=>simp[intOf];omega
    ·have Du:Hid (ys.getD k 0=0):=by show _=_;rw[List.getD,gD (by rw[HY.out];omega)];rfl
     go_wp2_with fail
     refine (oH x 0 carry _ lE ae ae).mono ?_;rintro e w2 ⟨rfl,rfl⟩;go_wp2_with fail
     go_roundw
     case rel=>exact yZ.step hkn Dy.out pJ Cn.out HV.out HO.out iV.out (by simp[List.getD,yi.out]) Du.out lE ae
     case measure=>simp[intOf];omega
   ·obtain rfl:k=n:=by omega
    have e:k+1-k=0+1:=ae;have pK:=HO.out;rw[e] at pK;obtain⟨hcell,Bb⟩:=Own.yc pK;have hst:=Own.uq (x:=carry) pK;rw[Dy.out] at hcell Bb hst;have HST:=af hst;clear e pK hst;go_wp2_with fail
    have hval:Hid (ar (ds++[carry])=ar xs+ar ys):=by
     show _=_;rw[eN,Dy.out,HV.out,bS (fA HX.out),bS (by rw[HY.out];exact hmn)]
    refine (dL _ (k+1) (k+1) (ds++[carry]) _ (by have:=Rd.own HST.out;simpa using this) (Cn.out.append (da.cons ae da.nil))).mono ?_;rintro e w2 ⟨⟨r,hr,rfl,Iy⟩,rfl⟩;have NZ:=af Iy;clear Iy;go_wp2_with fail
    refine cj.out _ _ ⟨_,aa,?_,iV.out.setCell (p:=⟨w.heap.size,k,none⟩) (fA HB.out) _⟩;have h2:=HST.out;rw[List.replicate_zero,eX] at h2;have h3:=Own.limbs h2 hr NZ.out;have e:(limbs (ar (ds++[carry]))).length=r:=by rw[NZ.out,cE,bg,Dy.out];simp;omega
    rw[hval.out] at h3 e;rw[e];exact h3
theorem KZ (va vb:Value) (n m:Nat) (xs ys:List Nat) (w:World) (hr:Rd w 1 va n (ints .u32 xs)) (hs:Rd w 1 vb m (ints .u32 ys)) (hx:da xs) (hy:da ys) (hn:n<=1073741824) (hm:m<=1073741824):
  Calls Tryz.prog 268 #[va,vb] w λe w'=>∃ v',e=.returned v'/\w'.ownsRow w.heap.size 78 1 v' (limbs (ar xs+ar ys)).length (ints .u32 (limbs (ar xs+ar ys)))/\Below w.heap.size w w':=by
 obtain⟨p,c,rfl,_,_,_⟩:=hr.u32;obtain⟨q,d,rfl,_,_,_⟩:=hs.u32;rcases qm n m with h|h
 ·rw[ud (ar xs)];exact KX q p m d n c ys xs w hs hr hy hx hm ae _ (.inr ⟨h,aa⟩)
 ·exact KX p q n c m d xs ys w hr hs hx hy hn h _ (.inl aa)
def Dz (w:World) (B g N m:Nat) (xs:List Nat) (cv iv:Value) (wr:World):Prop:=
 ∃ (k carry:Nat) (ds:List Nat),k<=N/\ds.length=k/\iv=.int .i64 (k:Int)/\cv=.int .u32 (carry:Int)/\carry<4294967296/\da ds/\
   ar ds+4294967296^k*carry=ar (xs.take k)*m/\
   wr.ownsRow B 78 1 (.slice (some ⟨g,0,none⟩) (N+1) (N+1)) (N+1) (ints .u32 (ds++List.replicate (N+1-k) 0))/\Below B w wr
theorem Co (x m c:Nat) (hx:x<4294967296) (hm:m<4294967296) (hc:c<4294967296):(x*m+c)/4294967296<4294967296:=by
 have h1:x*m<=4294967295*4294967295:=uc ae ae;omega
theorem Cp (x m c:Nat):x*m/4294967296+(x*m%4294967296+c)/4294967296=(x*m+c)/4294967296/\(x*m%4294967296+c)%4294967296=(x*m+c)%4294967296:=by
 generalize x*m=p;omega
theorem Dz.step {k:Nat} {c s:Int} (hk:k<N) (oI:ds.length=k) (hm:m<4294967296) (hc:carry<4294967296) (hl:da ds)
  (hv:ar ds+4294967296^k*carry=ar (xs.take k)*m) (aN:wr.ownsRow B 78 1 (.slice (some ⟨g,0,none⟩) (N+1) (N+1)) (N+1) (ints .u32 (ds++List.replicate (N+1-k) 0)))
  (hb:Below B w wr) (hx:xs[k]? =some x) (lE:x<4294967296) (he:c=(((x*m+carry)/4294967296:Nat):Int)) (hs:s=(((x*m%4294967296+carry)%4294967296:Nat):Int)):
  Dz w B g N m xs (.int .u32 c) (.int .i64 ((k:Int)+1)) (wr.setCell ⟨g,k,none⟩ (.int .u32 s)):=by
 subst oI;subst he;subst hs;have e:N+1-ds.length=(N-ds.length)+1:=ae;rw[e] at aN;have h1:=Own.uq (x:=(x*m+carry)%4294967296) aN;rw[(Cp x m carry).2];refine⟨ds.length+1,(x*m+carry)/4294967296,ds++[(x*m+carry)%4294967296],ae,cf,aa,aa,Co x m carry lE hm hc,?_,?_,?_,?_⟩
 ·exact hl.append (da.cons (eR _ ae) da.nil)
 ·rw[eN,bA,fP,List.getD,hx];exact OA _ x m carry _ _ hv
 ·rw[show N+1-(ds.length+1)=N-ds.length by omega];exact h1
 ·exact hb.setCell (Own.lt aN).1 _
set_option maxRecDepth 100000 in
theorem DA (va:Value) (n m:Nat) (xs:List Nat) (w:World) (hr:Rd w 1 va n (ints .u32 xs)) (hx:da xs) (hn:n<=1073741824) (hm:m<4294967296):
  Calls Tryz.prog 317 #[va,.int .u32 (m:Int)] w λe w'=>∃ v',e=.returned v'/\w'.ownsRow w.heap.size 78 1 v' (limbs (ar xs*m)).length (ints .u32 (limbs (ar xs*m)))/\Below w.heap.size w w':=by
 obtain⟨p,c,rfl,fV,gj,fv⟩:=hr.u32;have Hr:=af hr;have HL:=af hx;have HX:=af fv;obtain⟨i0,hi,jI,gu,jP⟩:=info_parts km;obtain⟨B,hB⟩:∃ B,B=w.heap.size:=⟨_,aa⟩;have HB:=af hB;rw[<-hB];clear fv hx hr hB;refine aZ λR' cj=> ?_;go_enter Tryz.func317,Tryz.ntmps317
 go_wp2_with (at_make;refine wpList_make_full _ aa _ _ 23 aa B 78 i0 (.int .u32 0) 1 ma hi jI gu .i64 .i64 _ _ (n+1) aa aa ae ae (by rw[jP];omega) (by unfold maxLen;omega) (fA HB.out) ?_;intro w1 aN Mq)
 have IK:=af (Own.made aN);have Hb1:Hid (Below B w w1):=(fB _ _).grown Mq (fA HB.out) (λk hk=>by cases hk);clear aN Mq;go_loopw [6,19] (λcv iv wr=>Dz w B w.heap.size n m xs cv iv wr) (λ_ iv _=>n-(intOf iv).toNat)
 case atStart=>exact⟨0,0,[],fQ _,aa,aa,aa,ae,da.nil,by simp[ff],IK.out,Hb1.out⟩
 case round=>
  obtain⟨k,carry,ds,hk,oI,rfl,rfl,pJ,hl,hv,aN,hb⟩:=hrel;have HO:=af aN;have Dy:=af oI;have HV:=af hv;have Cn:=af hl;have iV:=af hb;clear aN oI hv hl hb;by_cases hkn:k<n
  ·obtain⟨b1,o1,x,rfl,bF,iI,qz⟩:=(Hr.out.jU HB.out iV.out).cellAt hkn;have yi:=af iI;have lE:=HL.out.at iI;have e:n+1-k=(n-k)+1:=ae;have pK:=HO.out;rw[e] at pK;obtain⟨hcell,Bb⟩:=Own.yc pK;rw[Dy.out] at hcell Bb;clear e pK iI;have h1:(x*m+carry)/4294967296<4294967296:=Co x m carry lE hm pJ;have h2:=(Cp x m carry).1;have h3:(0:Int)<=((x*m/4294967296:Nat):Int)+(((x*m%4294967296+carry+0)/4294967296:Nat):Int)/\((x*m/4294967296:Nat):Int)+(((x*m%4294967296+carry+0)/4294967296:Nat):Int)<4294967296:=ae;have H2:Hid (((x*m/4294967296:Nat):Int)+(((x*m%4294967296+carry+0)/4294967296:Nat):Int)=(((x*m+carry)/4294967296:Nat):Int)):=by show _=_;omega
   obtain⟨h3a,h3b⟩:=h3;clear h2 h1;go_wp2_with fail
   refine (Mo x m _ lE hm).mono ?_;rintro e w2 ⟨rfl,rfl⟩;go_wp2_with fail
   refine (oH (x*m%4294967296) carry 0 _ (eR _ ae) pJ ae).mono ?_;rintro e w2 ⟨rfl,rfl⟩;go_wp2_with fail
   go_roundw
   case rel=>exact Dz.step hkn Dy.out hm pJ Cn.out HV.out HO.out iV.out yi.out lE (by have:=H2.out;omega) ae
   case measure=>simp[intOf];omega
  ·obtain rfl:k=n:=by omega
   have e:k+1-k=0+1:=ae;have pK:=HO.out;rw[e] at pK;obtain⟨hcell,Bb⟩:=Own.yc pK;have hst:=Own.uq (x:=carry) pK;rw[Dy.out] at hcell Bb hst;have HST:=af hst;clear e pK hst;go_wp2_with fail
   have hval:Hid (ar (ds++[carry])=ar xs*m):=by
    show _=_;rw[eN,Dy.out,HV.out,bS (fA HX.out)]
   refine (dL _ (k+1) (k+1) (ds++[carry]) _ (by have:=Rd.own HST.out;simpa using this) (Cn.out.append (da.cons ae da.nil))).mono ?_;rintro e w2 ⟨⟨r,hr,rfl,Iy⟩,rfl⟩;have NZ:=af Iy;clear Iy;go_wp2_with fail
   refine cj.out _ _ ⟨_,aa,?_,iV.out.setCell (p:=⟨w.heap.size,k,none⟩) (fA HB.out) _⟩;have h2:=HST.out;rw[List.replicate_zero,eX] at h2;have h3:=Own.limbs h2 hr NZ.out;have e:(limbs (ar (ds++[carry]))).length=r:=by rw[NZ.out,cE,bg,Dy.out];simp;omega
   rw[hval.out] at h3 e;rw[e];exact h3
def DB (w:World) (B:Nat) (qv:Value) (n d:Nat) (xs:List Nat) (iv rv:Value) (wr:World):Prop:=
 ∃ (k r:Nat) (qs:List Nat),k<=n/\qs.length=n-k/\iv=.int .i64 ((k:Int)-1)/\rv=.int .u32 (r:Int)/\r<d/\da qs/\
   ar qs*d+r=ar (xs.drop k)/\wr.ownsRow B 78 1 qv n (ints .u32 (xs.take k++qs))/\Below B w wr
theorem OK (d r x Q X:Nat) (h:Q*d+r=X):
  ((r*4294967296+x)/d+4294967296*Q)*d+(r*4294967296+x)%d=x+4294967296*X:=by
 subst h;have h2:=tZ (r*4294967296+x) d;rw[gi d] at h2;rw[ek,ct,eJ];omega
theorem div_lt (d r x:Nat) (hr:r<d) (hx:x<4294967296):(r*4294967296+x)/d<4294967296:=by
 rw[Fg ae];have:(r+1)*4294967296<=d*4294967296:=eQ _ hr;rw[gi 4294967296 d];omega
theorem za {k:Nat} (h:xs[k]? =some x):ar (xs.drop k)=x+4294967296*ar (xs.drop (k+1)):=by
 obtain⟨hl,e⟩:=bd.1 h;rw[oh hl,e,gr]
variable {qs:List Nat}
theorem DC {k:Nat} (hk:k<xs.length):(xs.take (k+1)++qs).set k x=xs.take k++x::qs:=by
 have h1:xs.take (k+1)=xs.take k++[xs[k]]:=bW (aH hk);rw[h1,gQ,tV _ _ (by rw[cE];omega)]
 congr 1
 rw[cE,gG ae,oy];rfl
theorem DB.step {n dn:Nat} {q s:Int} (hj:j+1<=n) (hn:xs.length=n) (La:qs.length=n-(j+1)) (hr:r<d) (hl:da qs)
  (hv:ar qs*d+r=ar (xs.drop (j+1))) (aN:wr.ownsRow B 78 1 (.slice (some ⟨g,0,none⟩) n cap) n (ints .u32 (xs.take (j+1)++qs))) (hb:Below B w wr)
  (hx:xs[j]? =some x) (lE:x<4294967296) (he:q=(((r*4294967296+x)/d:Nat):Int)) (hs:s=(((r*4294967296+x)%d:Nat):Int)):
  DB w B (.slice (some ⟨g,0,none⟩) n cap) n d xs (.int .i64 ((j:Int)-1)) (.int .u32 s) ((wr.drewN dn).setCell ⟨g,j,none⟩ (.int .u32 q)):=by
 subst he;subst hs;refine⟨j,(r*4294967296+x)%d,(r*4294967296+x)/d::qs,ae,by simp;omega,rfl,rfl,eR _ ae,da.cons (div_lt d r x hr lE) hl,?_,?_,?_⟩
 ·rw[gr,za hx,<-hv];exact OK d r x _ _ aa
 ·have h1:=Own.iq (j:=j) (x:=(r*4294967296+x)/d) (Own.drewN aN dn)
  rwa [DC ae] at h1
 ·exact (Below.drewN hb dn).setCell (Own.lt aN).1 _
set_option maxRecDepth 100000 in
theorem uu (va:Value) (n d:Nat) (xs:List Nat) (w:World) (hr:Rd w 1 va n (ints .u32 xs)) (hx:da xs) (hn:n<=1073741824) (hd:d<4294967296):
  Calls Tryz.prog 271 #[va,.int .u32 (d:Int)] w λe w'=>((d=0/\e=.returned (.tuple #[.slice none 0 0,.int .u32 0,.int .i64 20]))\/
   (d≠0/\∃ v',e=.returned (.tuple #[v',.int .u32 ((ar xs%d:Nat):Int),.int .i64 0])/\w'.ownsRow w.heap.size 78 1 v' (limbs (ar xs/d)).length (ints .u32 (limbs (ar xs/d)))))/\Below w.heap.size w w':=by
 obtain⟨p,c,rfl,fV,gj,fv⟩:=hr.u32;have Hr:=af hr;have HL:=af hx;have HX:=af fv;clear fv hx hr;by_cases hd0:d=0
 ·have hdb:((d:Int) == 0)=true:=by rw[beq_iff_eq];omega
  have HD:=af hd0;clear hd0;refine aZ λR' cj=> ?_;go_enter Tryz.func271,Tryz.ntmps271
  go_wp2
  go_ret3
  exact cj.out _ _ ⟨.inl ⟨HD.out,aa⟩,fB _ _⟩
 ·obtain⟨B,hB⟩:∃ B,B=w.heap.size:=⟨_,aa⟩;have HB:=af hB;rw[<-hB];clear hB;have hdb:((d:Int) == 0)=false:=by rw[lZ];omega
  refine aZ λR' cj=> ?_;go_enter Tryz.func271,Tryz.ntmps271
  go_wp2_with fail
  refine (ir _ n xs _ Hr.out hn).mono ?_;rintro e w1 ⟨qv,rfl,aN,hb⟩;rw[<-HB.out] at aN hb;obtain⟨qp,qc,rfl,_,_,_⟩:=Own.form aN;have HO:=af aN;have iV:=af hb;clear aN hb;go_wp2_with fail
  go_loopw [7,5] (λiv rv wr=>DB w B (.slice qp n qc) n d xs iv rv wr) (λiv _ _=>(intOf iv+1).toNat)
  case atStart=>exact⟨n,0,[],aP _,cf,aa,aa,ae,da.nil,by rw[mV (fA HX.out)];simp[ff],by rw[cO (fA HX.out),eX];exact HO.out,iV.out⟩
  case round=>
   obtain⟨k,r,qs,hk,La,rfl,rfl,vw,hl,hv,aN,hb⟩:=hrel;have qw:=af aN;have HQS:=af La;have HV:=af hv;have Cn:=af hl;have qU:=af hb;clear aN La hv hl hb;by_cases h0:k=0
   ·subst h0;go_wp2_with fail
    refine (dL _ n qc qs _ (by have:=Rd.own qw.out;simpa using this) Cn.out).mono ?_;rintro e w2 ⟨⟨m,hm,rfl,Ba⟩,rfl⟩;have OI:=af Ba;clear Ba;go_wp2_with fail
    go_ret3
    have hv:=HV.out;rw[Fo] at hv;have hq:ar xs/d=ar qs:=by rw[<-hv,ud,Nat.add_mul_div_right _ _ ae,xf vw,fe]
    have hm':ar xs%d=r:=by rw[<-hv,ud,Ow,tY vw]
    refine cj.out _ _ ⟨.inr ⟨hd0,.slice qp m qc,by rw[hm'];rfl,?_⟩,qU.out⟩;have h2:=qw.out;rw[iD,ng] at h2;have h3:=Own.limbs h2 hm OI.out;have e:(limbs (ar qs)).length=m:=by rw[OI.out,cE,HQS.out];omega
    rw[hq,e];exact h3
   ·obtain⟨j,rfl⟩:∃ j,k=j+1:=⟨k-1,ae⟩;obtain⟨g,qc',hv,hbg,AX⟩:=Own.ya qw.out ae;simp only[Value.slice.injEq,true_and] at hv;obtain⟨rfl,rfl⟩:=hv;obtain⟨x,hx,hcell,Bb⟩:=Own.iR qw.out (j:=j) ae
    have iI:xs[j]? =some x:=by
     rw[jo (by rw[cE,HX.out];omega),qK] at hx;simpa using hx
    have yi:=af iI;have lE:=HL.out.at iI;have hjj:((j+1:Nat):Int)-1=(j:Int):=ae;rw[hjj];clear hx iI h0 hjj;go_wp2_with fail
    refine (Mp r x d _ vw lE hd).mono ?_;rintro e w2 ⟨rfl,dn,rfl⟩;go_wp2_with fail
    go_roundw
    case rel=>exact DB.step ae HX.out HQS.out vw Cn.out HV.out qw.out qU.out yi.out lE cf cf
    case measure=>simp[intOf]
def zc (w:World) (B:Nat) (ov:Value) (n:Nat) (xs ys:List Nat) (bv iv:Value) (wr:World):Prop:=
 ∃ (k r:Nat) (ds:List Nat),k<=n/\ds.length=k/\iv=.int .i64 (k:Int)/\bv=.int .u32 (r:Int)/\r<=1/\da ds/\
   ar ds+ar (ys.take k)=ar (xs.take k)+4294967296^k*r/\wr.ownsRow B 78 1 ov n (ints .u32 (ds++xs.drop k))/\Below B w wr
theorem DD (hk:ds.length<xs.length):(ds++xs.drop ds.length).set ds.length x=(ds++[x])++xs.drop (ds.length+1):=by
 rw[tV _ _ (aP _),oy,oh hk,List.set_cons_zero,gQ];rfl
theorem OL (p x y r d r' X Y D:Nat) (h:D+Y=X+p*r) (hs:x+4294967296*r'=d+y+r):(D+p*d)+(Y+p*y)=(X+p*x)+p*4294967296*r':=by
 have h2:p*(x+4294967296*r')=p*(d+y+r):=by rw[hs]
 rw[ct,ct,ct,<-eJ] at h2;omega
theorem zc.step {n k r':Nat} (hk:k<n) (hn:xs.length=n) (oI:ds.length=k) (hl:da ds)
  (hv:ar ds+ar (ys.take k)=ar (xs.take k)+4294967296^k*r) (aN:wr.ownsRow B 78 1 (.slice (some ⟨g,0,none⟩) n cap) n (ints .u32 (ds++xs.drop k))) (hb:Below B w wr)
  (hx:xs.getD k 0=x) (hy:ys.getD k 0=y) (hd:d<4294967296) (Bc:r'<=1) (he:x+4294967296*r'=d+y+r):
  zc w B (.slice (some ⟨g,0,none⟩) n cap) n xs ys (.int .u32 (r':Int)) (.int .i64 ((k:Int)+1)) (wr.setCell ⟨g,k,none⟩ (.int .u32 (d:Int))):=by
 subst oI;have h1:=Own.iq (j:=ds.length) (x:=d) aN;rw[DD ae] at h1;refine⟨ds.length+1,r',ds++[d],ae,cf,aa,aa,Bc,hl.append (da.cons hd da.nil),?_,h1,hb.setCell (Own.lt aN).1 _⟩;rw[eN,bA,bA,hx,hy,fP];exact OL _ x y r d r' _ _ _ hv he
set_option maxRecDepth 100000 in
theorem DF (va vb:Value) (n m:Nat) (xs ys:List Nat) (w:World) (hr:Rd w 1 va n (ints .u32 xs)) (hs:Rd w 1 vb m (ints .u32 ys)) (hx:da xs) (hy:da ys) (hn:n<=1073741824):
  Calls Tryz.prog 270 #[va,vb] w λe w'=>((ar xs<ar ys/\e=.returned (.tuple #[.slice none 0 0,.int .i64 2]))\/
   (ar ys<=ar xs/\∃ v',e=.returned (.tuple #[v',.int .i64 0])/\w'.ownsRow w.heap.size 78 1 v' (limbs (ar xs-ar ys)).length (ints .u32 (limbs (ar xs-ar ys)))))/\Below w.heap.size w w':=by
 obtain⟨p,c,rfl,fV,gj,fv⟩:=hr.u32;obtain⟨q,d,rfl,NY,IJ,iU⟩:=hs.u32;obtain⟨a,ha⟩:∃ a,a=ar xs:=⟨_,aa⟩;obtain⟨b,hb⟩:∃ b,b=ar ys:=⟨_,aa⟩;have Hr:=af hr;have Hs:=af hs;have HL:=af hx;have HM:=af hy;have HX:=af fv;have HY:=af iU;rw[<-ha,<-hb];have HA:=af ha;have HB:=af hb;clear fv iU hx hy hr hs ha hb;refine aZ λR' cj=> ?_;go_enter Tryz.func270,Tryz.ntmps270
 go_wp2_with fail
 refine (dL p n c xs _ Hr.out HL.out).mono ?_;rintro e w1 ⟨⟨n',hn',rfl,kS⟩,rfl⟩;have HLN:=af kS;clear kS;go_wp2_with fail
 refine (dL q m d ys _ Hs.out HM.out).mono ?_;rintro e w1 ⟨⟨m',hm',rfl,Ba⟩,rfl⟩;have OI:=af Ba;clear Ba;have HN:Hid ((limbs a).length=n'):=by show _=_;rw[HA.out,HLN.out,cE,HX.out];omega
 have HMM:Hid ((limbs b).length=m'):=by show _=_;rw[HB.out,OI.out,cE,HY.out];omega
 have OJ:=Hr.out.limbs hn' HLN.out;have Fx:=Hs.out.limbs hm' OI.out;rw[<-HA.out] at OJ;rw[<-HB.out] at Fx;have Hra:=af OJ;have Hrb:=af Fx;clear OJ Fx;go_wp2_with fail
 refine (Dw _ _ n' m' (limbs a) (limbs b) _ Hra.out Hrb.out (aC a) (aC b)).mono ?_;rintro e w1 ⟨rfl,dn,rfl⟩;rw[aw,aw];by_cases xX:a<b
 ·have hc:im a b<0:=kA.2 xX;generalize im a b=cv at hc ⊢;go_wp2_with fail
  exact cj.out _ _ ⟨.inl ⟨xX,aa⟩,Below.drewN (fB _ _) _⟩
 ·have hc:0<=im a b:=by have:=mt (@kA a b).1 xX;omega
  generalize im a b=cv at hc ⊢;have hmn:m'<=n':=by rw[<-HN.out,<-HMM.out];exact dt ae
  obtain⟨B,hB⟩:∃ B,B=w.heap.size:=⟨_,aa⟩;have HBB:=af hB;rw[<-hB] at cj;clear hB;go_wp2_with fail
  refine (ir _ n' (limbs a) _ (Rd.drewN Hra.out dn) ae).mono ?_;rintro e w1 ⟨qv,rfl,aN,hb⟩;have hb:Below B w w1:=by rw[HBB.out];exact (Below.drewN (fB _ _) dn).trans hb
  have aN:w1.ownsRow B 78 1 qv n' (ints .u32 (limbs a)):=by rw[HBB.out];exact aN
  obtain⟨qp,qc,rfl,_,_,_⟩:=Own.form aN;have HO:=af aN;have iV:=af hb;clear aN hb;go_wp2_with fail
  go_loopw [7,22] (λbv iv wr=>zc w B (.slice qp n' qc) n' (limbs a) (limbs b) bv iv wr) (λ_ iv _=>n' -(intOf iv).toNat)
  case atStart=>exact⟨0,0,[],fQ _,aa,aa,aa,ae,da.nil,by simp[ff],by simpa using HO.out,iV.out⟩
  case round=>
   obtain⟨k,r,ds,hk,oI,rfl,rfl,yV,hl,hv,aN,hb⟩:=hrel;have qw:=af aN;have Dy:=af oI;have HV:=af hv;have Cn:=af hl;have qU:=af hb;clear aN oI hv hl hb;by_cases hkn:k<n'
   ·obtain⟨g,qc',hv,hbg,AX⟩:=Own.ya qw.out ae;simp only[Value.slice.injEq,true_and] at hv;obtain⟨rfl,rfl⟩:=hv;obtain⟨x,hx,hcell,Bb⟩:=Own.iR qw.out (j:=k) ae
    have iI:(limbs a)[k]? =some x:=by
     rw[mS (by rw[Dy.out];omega),Dy.out,oo] at hx;simpa using hx
    have yi:=af iI;have lE:=(aC a).at iI;clear hx iI;by_cases IL:k<m'
    ·obtain⟨b2,o2,y,rfl,cJ,qT,vE⟩:=(Hrb.out.jU HBB.out qU.out).cellAt IL;have KY:=af qT;have yf:=(aC b).at qT;clear qT;go_wp2_with fail
     refine (Cm x y r _ lE yf ae).mono ?_;rintro e w2 ⟨⟨dd,rr,rfl,hdd,hrr,heq⟩,rfl⟩;have HEQ:=af heq;clear heq;go_wp2_with fail
     go_roundw
     case rel=>exact zc.step hkn HN.out Dy.out Cn.out HV.out qw.out qU.out (by simp[List.getD,yi.out]) (by simp[List.getD,KY.out]) hdd hrr HEQ.out
     case measure=>simp[intOf];omega
    ·have Du:Hid ((limbs b).getD k 0=0):=by show _=_;rw[List.getD,gD (by rw[HMM.out];omega)];rfl
     go_wp2_with fail
     refine (Cm x 0 r _ lE ae ae).mono ?_;rintro e w2 ⟨⟨dd,rr,rfl,hdd,hrr,heq⟩,rfl⟩;have HEQ:=af heq;clear heq;go_wp2_with fail
     go_roundw
     case rel=>exact zc.step hkn HN.out Dy.out Cn.out HV.out qw.out qU.out (by simp[List.getD,yi.out]) Du.out hdd hrr HEQ.out
     case measure=>simp[intOf];omega
   ·obtain rfl:k=n':=by omega
    go_wp2_with fail
    have h2:=qw.out;rw[mV (fA HN.out),eX] at h2;refine (dL _ k qc ds _ (Rd.own h2) Cn.out).mono ?_;rintro e w2 ⟨⟨s,hs,rfl,hls⟩,rfl⟩;have HLS:=af hls;clear hls;go_wp2_with fail
    have hval:ar ds=a-b:=by
     have h1:=HV.out;rw[bS (fA HN.out),bS (by rw[HMM.out];exact hmn),aw,aw] at h1;have h3:=kh Cn.out;rw[Dy.out] at h3
     have:r=0:=by
      rcases mX r with h|h
      ·exact h
      ·have:r=1:=by omega
       subst this;omega
     subst this;omega
    refine cj.out _ _ ⟨.inr ⟨ae,.slice qp s qc,aa,?_⟩,qU.out⟩;have h3:=Own.limbs h2 hs HLS.out;have e:(limbs (ar ds)).length=s:=by rw[HLS.out,cE,Dy.out];omega
    rw[hval] at h3 e;rw[e];exact h3
def ju (w:World) (v:Value) (rows:List (List Nat)):Prop:=
 ∃ vs:List Value,Rd w 1 v rows.length vs/\∀ (i:Nat) (xs:List Nat),rows[i]? =some xs->∃ u,vs[i]? =some u/\Rd w 1 u xs.length (ints .u32 xs)
theorem ju.below {rows:List (List Nat)} (h:ju w v rows) (hb:Below w.heap.size w w'):ju w' v rows:=by
 obtain⟨vs,h1,h2⟩:=h;refine⟨vs,h1.below hb,λi xs hi=> ?_⟩;obtain⟨u,hu,hr⟩:=h2 i xs hi;exact⟨u,hu,hr.below hb⟩
theorem ju.at {n k:Nat} {rows:List (List Nat)} (h:ju w (.slice p n c) rows) (hk:k<rows.length):
  ∃ b off u xs,p=some ⟨b,off,none⟩/\rows[k]? =some xs/\w.cell? ⟨b,off+k,none⟩=some u/\Rd w 1 u xs.length (ints .u32 xs):=by
 obtain⟨vs,⟨p',c',hv,_,_,h3,h4⟩,h2⟩:=h;simp only[Value.slice.injEq] at hv;obtain⟨rfl,rfl,rfl⟩:=hv;obtain⟨b,off,hp,hc⟩:=h4 ae;obtain⟨u,hu,hr⟩:=h2 k _ (aH hk);exact⟨b,off,u,_,hp,aH hk,hc k u hu,hr⟩
theorem ju.form {rows:List (List Nat)} (h:ju w v rows):∃ p c,v=.slice p rows.length c/\rows.length<=c/\c<=9223372036854775807:=by
 obtain⟨vs,h1,_⟩:=h;obtain⟨p,c,hv,h2,h3,_⟩:=h1.form;unfold maxLen at h3;exact⟨p,c,hv,h2,ae⟩
theorem sM {q:Nat} (h:q<4294967296):(q:Int)%4294967296=q:=ae
theorem ze {n:Nat} (h:n<32):2^n<4294967296:=by
 have:=Nat.pow_lt_pow_right (show 1<2 by omega) h;omega
theorem xn (x n:Nat) (hn:n<32):(limbs (x*2^n)).length<=(limbs x).length+1:=by
 apply kQ;rw[fP];exact Nat.mul_lt_mul_of_lt_of_le (pH x) (Nat.le_of_lt (ze hn)) ae
set_option maxRecDepth 100000 in
theorem OM (va:Value) (m n x:Nat) (w:World) (hr:Rd w 1 va m (ints .u32 (limbs x))) (hm:m<=1073741824) (hn:n<32):
  Calls Tryz.prog 305 #[va,.int .i64 (n:Int)] w λe w'=>∃ v',e=.returned v'/\Rd w' 1 v' (limbs (x*2^n)).length (ints .u32 (limbs (x*2^n)))/\Below w.heap.size w w':=by
 obtain⟨p,c,rfl,fV,gj,fv⟩:=hr.u32;have Hr:=af hr;have HX:=af fv;clear fv hr;by_cases h0:n=0
 ·subst h0;refine aZ λR' cj=> ?_;go_enter Tryz.func305,Tryz.ntmps305
  go_wp2
  refine cj.out _ _ ⟨_,aa,?_,fB _ _⟩;have:=Hr.out;rw[Nat.pow_zero,np,HX.out];exact this
 ·have Lb:((n:Int) == 0)=false:=by rw[lZ];omega
  refine aZ λR' cj=> ?_;go_enter Tryz.func305,Tryz.ntmps305
  have Oa:=ze hn
  have hpe:(2:Int)^n%4294967296=((2^n:Nat):Int):=by
   have:(2:Int)^n=((2^n:Nat):Int):=cf;rw[this];exact sM Oa
  have HP:=af hpe;clear hpe;go_wp2_with fail
  rw[HP.out];refine (DA _ m (2^n) (limbs x) _ Hr.out (aC x) hm Oa).mono ?_;rintro e w1 ⟨v',rfl,aN,hb⟩;rw[aw] at aN;go_wp2
  exact cj.out _ _ ⟨_,aa,Rd.own aN,hb⟩
set_option maxRecDepth 100000 in
theorem Ms (va:Value) (m n:Nat) (xs:List Nat) (w:World) (hr:Rd w 1 va m (ints .u32 xs)) (hx:da xs) (hm:m<=1073741824) (hn:n<32):
  Calls Tryz.prog 306 #[va,.int .i64 (n:Int)] w λe w'=>(∃ v' k rs,e=.returned v'/\k<=1073741824/\Rd w' 1 v' k (ints .u32 rs)/\da rs/\ar rs=ar xs/2^n)/\Below w.heap.size w w':=by
 obtain⟨p,c,rfl,fV,gj,fv⟩:=hr.u32;have Hr:=af hr;have HX:=af fv;have HL:=af hx;clear fv hr hx;by_cases h0:n=0
 ·subst h0;refine aZ λR' cj=> ?_;go_enter Tryz.func306,Tryz.ntmps306
  go_wp2
  exact cj.out _ _ ⟨⟨_,m,xs,aa,hm,Hr.out,HL.out,by rw[Nat.pow_zero,Nat.div_one]⟩,fB _ _⟩
 ·have Lb:((n:Int) == 0)=false:=by rw[lZ];omega
  refine aZ λR' cj=> ?_;go_enter Tryz.func306,Tryz.ntmps306
  have Oa:=ze hn;have Iz:2^n≠0:=by have:=qN (n:=n) (show 0<2 by omega);omega
  have hpe:(2:Int)^n%4294967296=((2^n:Nat):Int):=by
   have:(2:Int)^n=((2^n:Nat):Int):=cf;rw[this];exact sM Oa
  have HP:=af hpe;have HPP:=af Iz;clear hpe Iz;go_wp2_with fail
  rw[HP.out];refine (uu _ m (2^n) xs _ Hr.out HL.out hm Oa).mono ?_;rintro e w1 ⟨⟨h,_⟩|⟨_,v',rfl,aN⟩,hb⟩
  ·exact absurd h HPP.out
  ·have HO:=af aN;have hlen:(limbs (ar xs/2^n)).length<=m:=aV (dt (Fm _ _)) (by rw[<-HX.out];exact jt HL.out);clear aN;go_wp2
   exact cj.out _ _ ⟨⟨_,_,_,aa,aV hlen hm,Rd.own HO.out,aC _,aw _⟩,hb⟩
set_option maxRecDepth 100000 in
theorem OO (n:Nat) (w:World) (hn:n<=2147483648):
  Calls Tryz.prog 316 #[.slice none 0 0,.int .i64 (n:Int)] w λe w'=>∃ v',e=.returned v'/\w'.ownsRow w.heap.size 78 1 v' 0 []/\Below w.heap.size w w':=by
 by_cases h0:n=0
 ·subst h0;refine aZ λR' cj=> ?_;go_enter Tryz.func316,Tryz.ntmps316
  go_wp2
  exact cj.out _ _ ⟨_,aa,mc _ _ _ _,fB _ _⟩
 ·obtain⟨i0,hi,jI,gu,jP⟩:=info_parts km;obtain⟨C,hC⟩:∃ C,C=grownCap w n 0 78:=⟨_,aa⟩;have HC:=af hC;have hap0:=Lib.run_append_nil_zeros (P:=Tryz.prog) w 23 3 23 78 i0 (.int .u32 0) .i64 .i64 ma yL hi jI n ae ae ae (by rw[jP];omega);rw[<-hC] at hap0;have HAP:=af hap0;have hCn:n<=C:=by rw[hC];exact grownCap_ge w n 0 _
  have hCm:C<=9223372036854775807:=by
   have:=grownCap_le_maxLen w n 0 78 (by unfold maxLen;omega);unfold maxLen at this;omega
  have hn0:0<n:=ae;clear hC h0 hap0;refine aZ λR' cj=> ?_;go_enter Tryz.func316,Tryz.ntmps316
  go_wp2_with (at_builtin;refine wpList_append_run aa _ _ 23 3 aa _ _ aa aa _ _ HAP.out ?_)
  refine cj.out _ _ ⟨_,aa,?_,?_⟩
  ·exact World.ownsRow_made w.drew _ C (aP _) (by unfold maxLen;omega) (by rw[Array.size_append,size_zeroCells,size_zeroCells];show n*1+(C-n)*1=C*1;omega)
  ·exact (Below.drew (fB _ _)).alloc (aP _) _
def flat (rows:List (List Nat)):List Nat:=rows.flatten
theorem vF (rows:List (List Nat)) (xs:List Nat):flat (rows++[xs])=flat rows++xs:=by simp[flat]
theorem pL (rows:List (List Nat)) (k:Nat):(flat (rows.take k)).length<=(flat rows).length:=by
 conv=>rhs;rw[<-oi k rows]
 simp only[flat,List.flatten_append,List.length_append];omega
def CatA (rows:List (List Nat)) (sv iv:Value):Prop:=∃ k,k<=rows.length/\iv=.int .i64 (k:Int)/\sv=.int .i64 ((flat (rows.take k)).length:Int)
def CatB (w:World) (B:Nat) (rows:List (List Nat)) (ov iv:Value) (wr:World):Prop:=
 ∃ k,k<=rows.length/\iv=.int .i64 (k:Int)/\wr.ownsRow B 78 1 ov (flat (rows.take k)).length (ints .u32 (flat (rows.take k)))/\Below B w wr
set_option maxRecDepth 100000 in
theorem IM (va:Value) (rows:List (List Nat)) (w:World) (hr:ju w va rows) (hn:(flat rows).length<=2147483648):
  Calls Tryz.prog 304 #[va] w λe w'=>∃ v',e=.returned v'/\w'.ownsRow w.heap.size 78 1 v' (flat rows).length (ints .u32 (flat rows))/\Below w.heap.size w w':=by
 obtain⟨p,c,rfl,fV,gj⟩:=hr.form;have Hr:=af hr;obtain⟨i0,hi,jI,gu,jP⟩:=info_parts km;obtain⟨B,hB⟩:∃ B,B=w.heap.size:=⟨_,aa⟩;have HB:=af hB;obtain⟨N,hN⟩:∃ N,N=rows.length:=⟨_,aa⟩;rw[<-hN] at fV ⊢;have HN:=af hN;rw[<-hB];clear hr hB hN;refine aZ λR' cj=> ?_;go_enter Tryz.func304,Tryz.ntmps304
 go_wp2
 go_loop [3,11] (λsv iv=>CatA rows sv iv) (λ_ iv=>N-(intOf iv).toNat)
 case atStart=>exact⟨0,fQ _,aa,by simp[flat]⟩
 case round=>
  obtain⟨k,hk,rfl,rfl⟩:=hrel;rw[<-HN.out] at hk;have gR:=pL rows k;by_cases hkn:k<N
  ·obtain⟨b1,o1,u,xs,rfl,iI,qz,Mt⟩:=Hr.out.at (k:=k) (by rw[<-HN.out];exact hkn);obtain⟨q,d,rfl,_,_,_⟩:=Mt.u32;have hfs:(flat (rows.take (k+1))).length=(flat (rows.take k)).length+xs.length:=by rw[bW iI,vF,bg]
   have hfl2:=pL rows (k+1);have HFS:=af hfs;rw[hfs] at hfl2;clear iI Mt hfs;generalize (flat (rows.take k)).length=L at*;go_wp2
   go_round
   case rel=>exact⟨k+1,by rw[<-HN.out];omega,by go_num,by rw[HFS.out];go_num⟩
   case measure=>simp[intOf];omega
  ·obtain rfl:k=N:=by omega
   have hL:Hid (flat (rows.take k)=flat rows):=by show _=_;rw[cO (by rw[HN.out];exact aP _)]
   rw[hL.out];rw[hL.out] at gR;generalize hLL:(flat rows).length=L at hn gR;have HLL:=af hLL;rw[hLL] at cj;clear hLL;go_wp2_with fail
   refine (OO L _ ae).mono ?_;rintro e w1 ⟨ov,rfl,aN,hb⟩;rw[<-HB.out] at aN hb;have HO:=af aN;have iV:=af hb;clear aN hb;go_wp2_with fail
   go_loopw [6,27] (λov iv wr=>CatB w B rows ov iv wr) (λ_ iv _=>k-(intOf iv).toNat)
   case atStart=>exact⟨0,fQ _,aa,by simpa [flat,ints] using HO.out,iV.out⟩
   case round=>
    obtain⟨j,hj,rfl,aN,hb⟩:=hrel;have qw:=af aN;have qU:=af hb;rw[<-HN.out] at hj;clear aN hb;by_cases hjn:j<k
    ·obtain⟨b1,o1,u,xs,rfl,iI,qz,Mt⟩:=((Hr.out.below (by have:=qU.out;rwa [HB.out] at this)).at (k:=j) (by rw[<-HN.out];exact hjn));have hfs:(flat (rows.take (j+1))).length=(flat (rows.take j)).length+xs.length:=by rw[bW iI,vF,bg]
     have hfl2:=pL rows (j+1);have HFS:=af hfs;have hsz:(flat (rows.take j)).length+xs.length<=2147483648:=by have:=HLL.out;omega
     have yi:=af iI;have HRU:=af Mt;have yg:B<=wr.heap.size:=by have:=qU.out.size;have:=HB.out;omega
     clear iI Mt hfs hfl2;go_wp2_with (at_builtin;refine jV _ aa _ _ 23 aa B 78 i0 (.int .u32 0) 1 4 ma hi jI gu jP aa cW _ _ _ aa qw.out _ xs.length _ aa HRU.out (oD _ _) (by unfold maxLen;omega) ae yg ?_;intro v' w2 mi hgr2)
     have OP:Hid (w2.ownsRow B 78 1 v' (flat (rows.take (j+1))).length (ints .u32 (flat (rows.take (j+1))))):=by
      show World.ownsRow ..;rw[HFS.out,bW yi.out,vF,jg];exact mi
     have Ob:Hid (Below B w w2):=Below.OD qU.out hgr2 qw.out yg (aP _);clear mi hgr2;go_wp2_with fail
     go_roundw
     case rel=>exact⟨j+1,by rw[<-HN.out];omega,by go_num,OP.out,Ob.out⟩
     case measure=>simp[intOf];omega
    ·obtain rfl:j=k:=by omega
     go_wp2_with fail
     refine cj.out _ _ ⟨_,aa,?_,qU.out⟩;have:=qw.out;rw[hL.out,HLL.out] at this;exact this
theorem ju.two {t:Nat} {fr:Nat×Nat} (h:w.heap[g]? =some (.cells #[u,v] t fr)) (hx:Rd w 1 u xs.length (ints .u32 xs)) (hy:Rd w 1 v ys.length (ints .u32 ys)):
  ju w (.slice (some ⟨g,0,none⟩) 2 2) [xs,ys]:=by
 refine⟨[u,v],⟨_,2,aa,aP _,by simp[maxLen],rfl,λ_=>⟨g,0,rfl,λj z hj=> ?_⟩⟩,λi zs hi=> ?_⟩
 ·match j,hj with
  | 0,hj=>simp at hj;subst hj;simp[World.cell?,h]
  | 1,hj=>simp at hj;subst hj;simp[World.cell?,h]
 ·match i,hi with
  | 0,hi=>simp at hi;subst hi;exact⟨u,aa,hx⟩
  | 1,hi=>simp at hi;subst hi;exact⟨v,aa,hy⟩
theorem Lc {o:Obj} {k:Nat} (h:k=w.heap.size):(w.alloc o).heap[k]? =some o:=by subst h;exact heap_alloc_new w o
variable {z:Obj} {w2 w3:World}
theorem ordA {o:Obj} (cJ:Below (w.alloc z).drew.heap.size (w.alloc z).drew w2) (ee:Below (w2.alloc o).heap.size (w2.alloc o) w3):Below w.heap.size w w3/\w.heap.size<=(w2.alloc o).heap.size:=by
 have h1:=cJ.size;simp at h1;have h0:Below w.heap.size w (w.alloc z).drew:=((fB w.heap.size w).alloc (aP _) z).drew;have h2:Below w.heap.size w w2:=h0.trans (cJ.mono cf);exact⟨(h2.alloc ae o).trans (ee.mono (by simp;omega)),by simp;omega⟩
theorem ordB {o:Obj} (cJ:Below w.drew.heap.size w.drew w2) (ee:Below ((w2.alloc z).alloc o).heap.size ((w2.alloc z).alloc o) w3):Below w.heap.size w w3/\w.heap.size<=((w2.alloc z).alloc o).heap.size:=by
 have h1:=cJ.size;simp at h1;have h2:Below w.heap.size w w2:=(fB w.heap.size w).drew.trans cJ;exact⟨((h2.alloc ae z).alloc (by simp;omega) o).trans (ee.mono (by simp;omega)),by simp;omega⟩
theorem uv (w:World) (q:Nat) (h:q<=9223372036854775807):Rd (w.alloc (.cells (madeCells #[Value.int .u32 0] q) 78)) 1 (.slice (some ⟨w.heap.size,0,none⟩) q q) (List.replicate q 0).length (ints .u32 (List.replicate q 0)):=by
 have h1:=World.ownsRow_lit (base:=0) (size:=1) (e:=78) w (madeCells (Value.int .u32 0).cells (q*1)) q (fQ _) (by unfold maxLen;omega) (size_madeCells _ _);have h2:=Rd.own (Own.made h1);rw[Fh];rw[np,ng] at h2;exact h2
set_option maxRecDepth 100000 in
theorem IP (p:Option Addr) (m c n x:Nat) (xs:List Nat) (w:World) (hr:Rd w 1 (.slice p m c) m (ints .u32 xs)) (hx:da xs) (hv:ar xs=x) (hm:m<=1073741824) (pA:x≠0) (hn:n<=65536):
  Calls Tryz.prog 273 #[.slice p m c,.int .i64 (n:Int)] w λe w'=>∃ v',e=.returned (.tuple #[v',.int .i64 0])/\w'.ownsRow w.heap.size 78 1 v' (limbs (x*2^n)).length (ints .u32 (limbs (x*2^n)))/\Below w.heap.size w w':=by
 obtain⟨p',c',hv',fV,gj,fv⟩:=hr.u32;simp only[Value.slice.injEq,true_and] at hv';obtain⟨rfl,rfl⟩:=hv';have Hr:=af hr;have HX:=af fv;have HL:=af hx;have HV:=af hv;obtain⟨i0,hi,jI,gu,jP⟩:=info_parts km
 have hmk:∀ W:World,(Instr.makeSlice 23 (.int .i64 ((n:Int)/32)) (.int .i64 ((n:Int)/32))).run Tryz.prog W=.ok (.slice (some ⟨W.heap.size,0,none⟩) (n/32) (n/32)) (W.alloc (.cells (madeCells (Value.int .u32 0).cells (n/32*1)) 78)):=λW=>by
  have:=run_make (P:=Tryz.prog) W 23 78 i0 (.int .u32 0) ma hi jI .i64 .i64 ((n:Int)/32) ((n:Int)/32) ae (Int.le_refl _) (by rw[jP];omega) ae;rw[gu,show ((n:Int)/32).toNat=n/32 by omega] at this;exact this
 clear fv hr hx hv hi jI gu jP;refine aZ λR' cj=> ?_;go_enter Tryz.func273,Tryz.ntmps273
 go_wp2_with fail
 refine (dL p m c xs _ Hr.out HL.out).mono ?_;rintro e w1 ⟨⟨r,hrm,rfl,Iy⟩,rfl⟩
 have vz:Hid ((limbs x).length=r):=by
  show _=_;rw[<-HV.out,Iy,cE,HX.out];omega
 have vw:=Hr.out.limbs hrm Iy;rw[HV.out] at vw;have HRD:=af vw;clear Iy vw;have yW:0<r:=by rw[<-vz.out];exact dY pA
 have Ld:∀ W:World,Rd W 1 (.slice p r c) r (ints .u32 (limbs x))->Calls Tryz.prog 305 #[.slice p r c,.int .i64 ((n:Int)%32)] W λe w'=>∃ v',e=.returned v'/\Rd w' 1 v' (limbs (x*2^(n%32))).length (ints .u32 (limbs (x*2^(n%32))))/\Below W.heap.size W w':=λW h=>by
  have:=OM (.slice p r c) r (n%32) x W h ae (eR _ ae)
  rwa [show ((n%32:Nat):Int)=(n:Int)%32 by omega] at this
 have HLEFT:=af Ld;clear Ld
 have gR:(flat [List.replicate (n/32) 0,limbs (x*2^(n%32))])=limbs (x*2^n):=by
  have h1:=Fv (x:=x*2^(n%32)) (n/32) (Nat.mul_ne_zero pA (by have:=qN (n:=n%32) (show 0<2 by omega);omega));simp only[flat,List.flatten_cons,List.flatten_nil,List.append_nil];rw[h1,eJ,Ft,<-qn,tZ]
 have hfn:(flat [List.replicate (n/32) 0,limbs (x*2^(n%32))]).length<=2147483648:=by
  simp only[flat,List.flatten_cons,List.flatten_nil,List.append_nil,List.length_append,List.length_replicate];have:=xn x (n%32) (eR _ ae);rw[vz.out] at this;omega
 have HFL:=af gR;have HFN:=af hfn;clear gR hfn pA;go_wp2_with fail
 have yj:IntKind.i64.wrap ((n:Int)/32)=(n:Int)/32:=bQ _ ae;have hw2:(n:Int).tmod 32=(n:Int)%32:=Fc ae
 go_region_with (first
  | (go_at_call 305;refine (HLEFT.out _ (by first|exact HRD.out|exact Rd.alloc (Rd.drew HRD.out) _)).mono ?_;rintro e w2 ⟨v2,rfl,hrd2,cJ⟩;obtain⟨p2,c2,rfl,_,_,_⟩:=hrd2.form)
  | (go_at_call 304;refine (IM _ [List.replicate (n/32) 0,limbs (x*2^(n%32))] _ (by first|exact ju.two (heap_alloc_new _ _) (Rd.alloc (Rd.below (Rd.drew (uv _ _ ae)) cJ) _) (Rd.alloc hrd2 _)|exact ju.two (Lc cf) (Rd.alloc (uv _ _ ae) _) (Rd.alloc (Rd.alloc hrd2 _) _)) HFN.out).mono ?_;rintro e w3 ⟨v3,rfl,OQ,ee⟩))
 all_goals
  go_wp2
  go_ret2
  refine cj.out _ _ ⟨v3,aa,?_,?_⟩
  ·rw[HFL.out] at OQ;first|exact Own.mono OQ (ordA cJ ee).2|exact Own.mono OQ (ordB cJ ee).2
  ·first|exact (ordA cJ ee).1|exact (ordB cJ ee).1
theorem vG {k:Nat} (h:(limbs x).length<=m) (hk:32*m<=k):x/2^k=0:=by
 apply xf;have h1:=pH x;have h2:=qJ (show 0<4294967296 by omega) h;rw[Ft] at h1 h2;have h3:=qJ (show 0<2 by omega) hk;rw[Ft] at h2;omega
set_option maxRecDepth 100000 in
theorem vH (va:Value) (m x:Nat) (n:Int) (xs:List Nat) (w:World) (hr:Rd w 1 va m (ints .u32 xs)) (hx:da xs) (hv:ar xs=x) (hm:m<=1073741824) (hn0: -9223372036854775808<=n) (OS:n<=9223372036854775807):
  Calls Tryz.prog 273 #[va,.int .i64 n] w λe w'=>((x≠0/\65536<n/\e=.returned (.tuple #[.slice none 0 0,.int .i64 3]))\/
   (¬ (x≠0/\65536<n)/\∃ v',e=.returned (.tuple #[v',.int .i64 0])/\w'.ownsRow w.heap.size 78 1 v' (limbs (iH x n)).length (ints .u32 (limbs (iH x n)))))/\Below w.heap.size w w':=by
 obtain⟨p,c,rfl,fV,gj,fv⟩:=hr.u32;have Hr:=af hr;have HX:=af fv;have HL:=af hx;have HV:=af hv;clear fv hr hx hv;by_cases yS:x≠0/\0<=n/\n<=65536
 ·obtain⟨pA,h0,h1⟩:=yS;obtain⟨k,rfl⟩:=qG h0;refine (IP p m c k x xs w Hr.out HL.out HV.out hm pA ae).mono ?_;rintro e w' ⟨v',rfl,aN,hb⟩;refine⟨.inr ⟨ae,v',aa,?_⟩,hb⟩;have:iH x (k:Int)=x*2^k:=by simp[iH]
  rw[this];exact aN
 ·refine aZ λR' cj=> ?_;go_enter Tryz.func273,Tryz.ntmps273
  go_wp2_with fail
  refine (dL p m c xs _ Hr.out HL.out).mono ?_;rintro e w1 ⟨⟨r,hrm,rfl,Iy⟩,rfl⟩
  have vz:(limbs x).length=r:=by
   rw[<-HV.out,Iy,cE,HX.out];omega
  have vw:=Hr.out.limbs hrm Iy;rw[HV.out] at vw;have HRD:=af vw;have OT:=af vz;clear Iy vw;by_cases pA:x=0
  ·have yW:r=0:=by rw[<-vz,pA,cz];rfl
   have HX0:=af pA;have Fx:((r:Int) == 0)=true:=by rw[beq_iff_eq];omega
   clear pA yW vz yS;go_wp2_with fail
   refine cj.out _ _ ⟨.inr ⟨λh=>h.1 HX0.out,.slice none 0 0,aa,?_⟩,fB _ _⟩;have:iH x n=0:=by simp[iH,HX0.out]
   rw[this,cz];exact mc _ _ _ _
  ·have yW:0<r:=by rw[<-vz];exact dY pA
   have Fx:((r:Int) == 0)=false:=by rw[lZ];omega
   clear vz;by_cases OU:65536<n
   ·go_wp2_with fail
    exact cj.out _ _ ⟨.inl ⟨pA,OU,aa⟩,fB _ _⟩
   ·have OV:n<0:=by
     by_cases h:n<0
     ·exact h
     ·exact absurd ⟨pA,ae,ae⟩ yS
    clear yS;have HX0:=af pA;clear pA;have hmul:IntKind.i64.wrap (-32*(r:Int))= -32*(r:Int):=bQ _ ae;by_cases vI:n<=-32*(r:Int)
    ·go_wp2_with fail
     refine cj.out _ _ ⟨.inr ⟨λh=>ae,.slice none 0 0,aa,?_⟩,fB _ _⟩
     have:iH x n=0:=by
      unfold iH;rw[if_neg ae];exact vG (m:=r) (by rw[OT.out];exact aP _) ae
     rw[this,cz];exact mc _ _ _ _
    ·obtain⟨k,rfl⟩:∃ k:Nat,n= -(k:Int):=⟨(-n).toNat,ae⟩;obtain⟨b,off,y,rfl,_,_,_⟩:=HRD.out.cellAt (k:=0) yW;have hkr:k/32<r:=ae;have hneq:¬ (c=k/32):=ae;have Cq:0<k:=ae
     have Fy:Rd w 1 (.slice (some ⟨b,off+k/32,none⟩) (r-k/32) (c-k/32)) (r-k/32) (ints .u32 ((limbs x).drop (k/32))):=by
      obtain⟨p',c',hv',h1,h2,h3,h4⟩:=HRD.out;simp only[Value.slice.injEq,true_and] at hv';obtain⟨rfl,rfl⟩:=hv';refine⟨_,_,aa,ae,by unfold maxLen at h2 ⊢;omega,by rw[xl,jN,OT.out];omega,λ_=>⟨b,off+k/32,rfl,λj u hj=> ?_⟩⟩;obtain⟨b',off',hp,hc⟩:=h4 ae;simp only[Option.some.injEq,Addr.mk.injEq,and_true] at hp;obtain⟨rfl,rfl⟩:=hp;rw[<-Mm,oo] at hj;have:=hc _ _ hj
      rwa [<-xg] at this
     have HDR:=af Fy;clear Fy;have hq1:0<=(k:Int)/32:=ae;have hq2:(k:Int)/32<(r:Int):=ae;go_wp2_with fail
     rw[show (k:Int)%32=((k%32:Nat):Int) by omega];refine (Ms _ _ (k%32) _ _ HDR.out ((aC x).drop _) ae (eR _ ae)).mono ?_;rintro e w1 ⟨⟨v1,m1,rs,rfl,hm1,hrd1,yk,IA⟩,bF⟩;obtain⟨p1,c1,rfl,_,_,hrl⟩:=hrd1.u32;have HR1:=af hrd1;have HV1:=af IA;have HRL:=af hrl;clear hrd1 IA hrl;go_wp2_with fail
     refine (dL p1 m1 c1 rs _ HR1.out yk).mono ?_;rintro e w2 ⟨⟨r2,sn,rfl,hlr2⟩,rfl⟩;have hml2:Hid ((limbs (ar rs)).length=r2):=by show _=_;rw[hlr2,cE,HRL.out];omega
     have HR2:=af (HR1.out.limbs sn hlr2);clear hlr2;go_wp2_with fail
     refine (ir _ r2 _ _ HR2.out ae).mono ?_;rintro e w2 ⟨v2,rfl,aN,cJ⟩
     have hval:iH x (-(k:Int))=ar rs:=by
      unfold iH;rw[if_neg ae,HV1.out,xN x (k/32) (by rw[OT.out];omega),Nat.div_div_eq_div_mul,Ft,<-qn,BZ];simp
     go_wp2_with fail
     refine cj.out _ _ ⟨.inr ⟨λh=>ae,v2,aa,?_⟩,bF.trans (cJ.mono bF.size)⟩;rw[hval,hml2.out];exact Own.mono aN bF.size
end
section
theorem Fz {xs:List Nat} {j o v:Nat} (h:xs[j]? =some o):ar (xs.set j v)+4294967296^j*o=ar xs+4294967296^j*v:=by
 obtain⟨hl,he⟩:=bd.1 h;have h1:xs=xs.take j++o::xs.drop (j+1):=by rw[<-he,<-oh hl,oi]
 have h2:xs.set j v=xs.take j++v::xs.drop (j+1):=by
  conv=>lhs;rw[h1]
  rw[tV _ _ (by rw[cE];omega)];rw[cE,gG ae,oy];rfl
 have e1:ar xs=ar (xs.take j)+4294967296^j*(o+4294967296*ar (xs.drop (j+1))):=by
  conv=>lhs;rw[h1]
  rw[fh,cE,gG ae,gr]
 have e2:ar (xs.set j v)=ar (xs.take j)+4294967296^j*(v+4294967296*ar (xs.drop (j+1))):=by
  rw[h2,fh,cE,gG ae,gr]
 rw[e1,e2,ct,ct];omega
theorem da.set {xs:List Nat} (h:da xs) {v:Nat} (hv:v<4294967296) (j:Nat):da (xs.set j v):=λy hy=>by
 rcases mU hy with h1|h1
 ·exact h y h1
 ·rw[h1];exact hv
theorem zf (k:Nat):ar (List.replicate k 0)=0:=ja _ k
theorem zg {xs:List Nat} (k:Nat) (hk:k<=xs.length):ar xs=ar (xs.take k)+4294967296^k*ar (xs.drop k):=kf _ xs k hk
theorem sN {xs:List Nat} {k x:Nat} (h:xs[k]? =some x):ar (xs.drop k)=x+4294967296*ar (xs.drop (k+1)):=sK h
theorem FA {os:List Nat} {i k x y o c s S Y:Nat} (ho:os[i+k]? =some o) (hs:s=x*y+o+c) (h:ar os+4294967296^(i+k)*c=S+4294967296^i*(x*Y)):
  ar (os.set (i+k) (s%4294967296))+4294967296^(i+(k+1))*(s/4294967296)=S+4294967296^i*(x*(Y+4294967296^k*y)):=by
 have h1:=Fz (v:=s%4294967296) ho;have h2:4294967296^(i+(k+1))=4294967296^(i+k)*4294967296:=by rw[<-xg,fP]
 have h3:4294967296^(i+k)*s=4294967296^(i+k)*(s%4294967296)+4294967296^(i+k)*4294967296*(s/4294967296):=by
  rw[eJ,<-ct,tZ]
 have h4:4294967296^(i+k)*s=4294967296^(i+k)*(x*y)+4294967296^(i+k)*o+4294967296^(i+k)*c:=by rw[hs,ct,ct]
 have h5:4294967296^i*(x*(Y+4294967296^k*y))=4294967296^i*(x*Y)+4294967296^(i+k)*(x*y):=by
  rw[ct,ct,qn]
  congr 1
  rw[BW x,eJ]
 rw[h2,h5];omega
theorem uw {x y o c:Nat} (hx:x<4294967296) (hy:y<4294967296) (ho:o<4294967296) (hc:c<4294967296):x*y+o+c<18446744073709551616:=by
 have h1:x*y<=4294967295*4294967295:=uc ae ae;omega
def jb (U V:Nat):Nat:=min 4294967295 (U/V)
theorem FD {U V:Nat}:jb U V*V<=U:=aV (eQ _ (Nat.min_le_right _ _)) (Fi U V)
theorem Cr {U V t:Nat} (hV:0<V) (ht:t<=4294967295) (h:t*V<=U):t<=jb U V:=by
 unfold jb;rw[Nat.le_min];exact⟨ht,(BO hV).2 h⟩
theorem IQ {p U V u b lu lb:Nat} (hp:0<p) (hu:u=U*p+lu) (hlu:lu<p) (hb:b=V*p+lb) (IB:lb<p) (hV:4294967296<=V) (hub:u<4294967296*b):
  u/b<=jb U V/\jb U V<=u/b+1:=by
 have hV0:0<V:=ae;have rS:0<b:=by have:0<V*p:=Nat.mul_pos hV0 hp;omega
 constructor
 ·refine Cr hV0 ?_ ?_
  ·have:u/b<4294967296:=by rw[Fg rS];exact hub
   omega
  ·have h1:u/b*b<=u:=Fi u b
   have h2:u/b*V*p<=U*p+lu:=by
    rw[hb] at h1;rw[hu,ct,<-eJ] at h1;rw[<-hb,<-hu] at h1;have:u/b*V*p<=u:=ae;omega
   rcases qm U (u/b*V) with h|h
   ·have h3:(U+1)*p<=u/b*V*p:=eQ _ h;rw[ek] at h3;omega
   ·exact h
 ·have hg:=@FD U V;have hgB:jb U V<=4294967295:=Nat.min_le_left _ _;generalize jb U V=q at hg hgB;have h1:q*V*p<=U*p:=eQ _ hg;have h2:q*lb<=4294967295*lb:=eQ _ hgB;have h3:q*b=q*V*p+q*lb:=by rw[hb,ct,<-eJ]
  have h4:4294967296*p<=V*p:=eQ _ hV;have h5:q*b<u+b:=ae
  have h6:q<u/b+2:=by
   have h7:u<(u/b+1)*b:=by rw[ek];have e1:=BZ u b;have e2:=eR u rS;rw[gi] at e1;omega
   have h8:q*b<(u/b+2)*b:=by rw[ek];rw[ek] at h7;omega
   exact Ox h8
  omega
theorem IU {B p a y q c r x qD X Y D:Nat} (h:D+q*Y=X+p*(c+r)) (hx:a+B*qD=x+(q*y+c)%B+r):
  (D+p*x)+q*(Y+p*y)=(X+p*a)+p*B*((q*y+c)/B+qD):=by
 have h1:=tZ (q*y+c) B;have h2:p*(a+B*qD)=p*x+p*((q*y+c)%B)+p*r:=by rw[hx,ct,ct]
 have h3:p*((q*y+c)%B)+p*(B*((q*y+c)/B))=p*(q*y)+p*c:=by rw[<-ct,h1,ct]
 have h4:q*(Y+p*y)=q*Y+p*(q*y):=by rw[ct,BW]
 have h5:p*B*((q*y+c)/B+qD)=p*(B*((q*y+c)/B))+p*(B*qD):=by rw[eJ,ct,ct]
 rw[ct] at h2 h;rw[h4,h5];omega
end
section
open Go.RowKit
theorem tab_fin:∀ i:Fin 256,(Lib.len8tab[i.val]'(by have:=i.2;have:Lib.len8tab.size=256:=by decide+kernel
                                                    omega)).toNat=jl i.val:=by decide+kernel
theorem FE:Lib.len8tab.size=256:=by decide+kernel
theorem tab_at (i:Nat) (h:i<Lib.len8tab.size):(Lib.len8tab[i]'h).toNat=jl i:=tab_fin ⟨i,by rw[FE] at h;exact h⟩
theorem zi {t k:Nat} (h:2^k<=t):jl t=k+jl (t/2^k):=by
 have hp:0<2^k:=qN ae
 have hq:t/2^k≠0:=by
  have:=(BO hp).2 (show 1*2^k<=t by omega);omega
 have h1:=xY (t/2^k);have h2:=xZ hq;have h0:=uj hq;refine KW ?_ (.inr ?_)
 ·rw[qn,gi];exact (Fg hp).1 h1
 ·rw[show k+jl (t/2^k)-1=(jl (t/2^k)-1)+k by omega,qn];exact (BO hp).1 h2
theorem pM {i:Nat} (h:i<256):jl i<=8:=sJ (k:=8) h
set_option maxRecDepth 100000 in
theorem Mu (x:Int) (w:World) (h0:0<=x) (h1:x<=4294967295):
  Calls Tryz.prog 257 #[.int .u32 x] w λe w'=>e=.returned (.int .i64 (jl x.toNat:Int))/\w=w':=by
 have hsz:(Lib.len8tab.size:Int)=256:=by rw[FE];rfl
 refine aZ λR' cj=> ?_;go_enter Tryz.func257,Tryz.ntmps257
 go_wp2
 all_goals
  refine cj.out _ _ ⟨oG ?_,aa⟩;simp only[tab_at,wrap64]
 all_goals first
  | (have e:=zi (t:=x.toNat) (k:=24) ae
     have b:=pM (i:=x.toNat/2^24) ae;rw[show (x/65536/256).toNat=x.toNat/2^24 by omega];omega)
  | (have e:=zi (t:=x.toNat) (k:=16) ae
     have b:=pM (i:=x.toNat/2^16) ae;rw[show (x/65536).toNat=x.toNat/2^16 by omega];omega)
  | (have e:=zi (t:=x.toNat) (k:=8) ae
     have b:=pM (i:=x.toNat/2^8) ae;rw[show (x/256).toNat=x.toNat/2^8 by omega];omega)
  | (have b:=pM (i:=x.toNat) ae
     omega)
theorem Mw (t:Nat) (w:World) (h1:t<4294967296):
  Calls Tryz.prog 257 #[.int .u32 (t:Int)] w λe w'=>e=.returned (.int .i64 (jl t:Int))/\w=w':=by
 have h:=Mu (t:Int) w ae ae
 rwa [bh] at h
theorem FF (t:Nat) (w:World) (ht:t<4294967296) (h0:t≠0):
  Calls Tryz.prog 272 #[.int .u32 (t:Int)] w λe w'=>(∃ u:Nat,e=.returned (.int .i64 (u:Int))/\u<32/\t*2^u<4294967296)/\w=w':=by
 have hs:=xY t;have hb:jl t<=32:=sJ (k:=32) ht;have rS:=uj h0;refine aZ λR' cj=> ?_;go_enter Tryz.func272,Tryz.ntmps272
 go_wp2_with fail
 refine (Mw t _ ht).mono ?_;rintro e w1 ⟨rfl,rfl⟩;generalize jl t=L at*;go_wp2_with fail
 refine cj.out _ _ ⟨⟨32-L,oG ae,ae,?_⟩,aa⟩;have h1:t*2^(32-L)<2^L*2^(32-L):=Nat.mul_lt_mul_of_pos_right hs (qN ae);rw[<-qn,show L+(32-L)=32 by omega] at h1;exact h1
def zj (w:World) (B n m:Nat) (xs ys:List Nat) (v iv:Value) (wr:World):Prop:=
 ∃ (i:Nat) (os:List Nat),i<=n/\iv=.int .i64 (i:Int)/\os.length=n+m/\da os/\(∀ j,i+m<=j->∀ x,os[j]? =some x->x=0)/\ar os=ar (xs.take i)*ar ys/\
   wr.ownsRow B 78 1 v (n+m) (ints .u32 os)/\Below B w wr
def FG (w:World) (B n m i S x:Nat) (ys:List Nat) (v cv kv:Value) (wr:World):Prop:=
 ∃ (k c:Nat) (os:List Nat),k<=m/\kv=.int .i64 (k:Int)/\cv=.int .u64 (c:Int)/\c<4294967296/\os.length=n+m/\da os/\(∀ j,i+m<=j->∀ x,os[j]? =some x->x=0)/\
   ar os+4294967296^(i+k)*c=S+4294967296^i*(x*ar (ys.take k))/\wr.ownsRow B 78 1 v (n+m) (ints .u32 os)/\Below B w wr
theorem OW {os:List Nat} {i m j v:Nat} (h:∀ j,i+m<=j->∀ x,os[j]? =some x->x=0) (hj:j<i+m):∀ l,i+m<=l->∀ x,(os.set j v)[l]? =some x->x=0:=λl hl x hx=>by
 rw[List.getElem?_set_ne ae] at hx;exact h l hl x hx
theorem FG.step {w wr:World} {B n m i S x y o k c g cap:Nat} {ys os:List Nat} {q r:Int} (hk:k<m) (_:i<n) (hl:os.length=n+m) (zk:da os) (hz:∀ j,i+m<=j->∀ x,os[j]? =some x->x=0)
  (hv:ar os+4294967296^(i+k)*c=S+4294967296^i*(x*ar (ys.take k))) (aN:wr.ownsRow B 78 1 (.slice (some ⟨g,0,none⟩) (n+m) cap) (n+m) (ints .u32 os)) (hb:Below B w wr)
  (hy:ys[k]? =some y) (ho:os[i+k]? =some o) (lE:x<4294967296) (yf:y<4294967296) (Cs:c<4294967296) (hq:q=(((x*y+o+c)%4294967296:Nat):Int)) (hr:r=(((x*y+o+c)/4294967296:Nat):Int)):
  FG w B n m i S x ys (.slice (some ⟨g,0,none⟩) (n+m) cap) (.int .u64 r) (.int .i64 ((k:Int)+1)) (wr.setCell ⟨g,i+k,none⟩ (.int .u32 q)):=by
 subst hq;subst hr;have ho4:=zk.at ho;have hs:=uw lE yf ho4 Cs;refine⟨k+1,(x*y+o+c)/4294967296,os.set (i+k) ((x*y+o+c)%4294967296),ae,aa,aa,ae,by simp[hl],zk.set (eR _ ae) _,OW hz ae,?_,Own.iq aN,hb.setCell (Own.lt aN).1 _⟩;have h1:ar (ys.take (k+1))=ar (ys.take k)+4294967296^k*y:=by rw[bA,List.getD,hy];rfl
 rw[h1];exact FA ho aa hv
theorem zj.step {w wr:World} {B n m i x c g cap:Nat} {xs ys os:List Nat} {q:Int} (hi:i<n) (hl:os.length=n+m) (zk:da os) (hz:∀ j,i+m<=j->∀ x,os[j]? =some x->x=0) (hm:ys.length=m)
  (hv:ar os+4294967296^(i+m)*c=ar (xs.take i)*ar ys+4294967296^i*(x*ar (ys.take m))) (aN:wr.ownsRow B 78 1 (.slice (some ⟨g,0,none⟩) (n+m) cap) (n+m) (ints .u32 os)) (hb:Below B w wr)
  (hx:xs[i]? =some x) (Cs:c<4294967296) (hq:q=(c:Int)):
  zj w B n m xs ys (.slice (some ⟨g,0,none⟩) (n+m) cap) (.int .i64 ((i:Int)+1)) (wr.setCell ⟨g,i+m,none⟩ (.int .u32 q)):=by
 subst hq;obtain⟨o,ho⟩:∃ o,os[i+m]? =some o:=⟨_,aH ae⟩;obtain rfl:=hz (i+m) (aP _) o ho;refine⟨i+1,os.set (i+m) c,ae,aa,by simp[hl],zk.set Cs _,λj hj y hy=> ?_,?_,Own.iq aN,hb.setCell (Own.lt aN).1 _⟩
 ·rw[List.getElem?_set_ne ae] at hy;exact hz j ae y hy
 ·have h1:=Fz (v:=c) ho;have h2:ar (xs.take (i+1))=ar (xs.take i)+4294967296^i*x:=by rw[bA,List.getD,hx];rfl
  rw[bS (fA hm)] at hv;rw[h2,ek,eJ];omega
set_option maxRecDepth 100000 in
theorem OX (va vb:Value) (n m:Nat) (xs ys:List Nat) (w:World) (hr:Rd w 1 va n (ints .u32 xs)) (hs:Rd w 1 vb m (ints .u32 ys)) (hx:da xs) (hy:da ys) (hn:n<=536870912) (hm:m<=536870912):
  Calls Tryz.prog 167 #[va,vb] w λe w'=>∃ v',e=.returned v'/\w'.ownsRow w.heap.size 78 1 v' (limbs (ar xs*ar ys)).length (ints .u32 (limbs (ar xs*ar ys)))/\Below w.heap.size w w':=by
 obtain⟨p,c,rfl,fV,gj,fv⟩:=hr.u32;obtain⟨q,d,rfl,NY,IJ,iU⟩:=hs.u32;obtain⟨i0,hi,jI,gu,jP⟩:=info_parts km;have Hr:=af hr;have Hs:=af hs;have HLX:=af hx;have HLY:=af hy;have HX:=af fv;have HY:=af iU;obtain⟨B,hB⟩:∃ B,B=w.heap.size:=⟨_,aa⟩;have HB:=af hB;rw[<-hB];clear hr hs hx hy fv iU hB;refine aZ λR' cj=> ?_;go_enter Tryz.func167,Tryz.ntmps167
 go_wp2_with (at_make;refine wpList_make_full _ aa _ _ 23 aa B 78 i0 (.int .u32 0) 1 ma hi jI gu .i64 .i64 _ _ (n+m) aa aa ae ae (by rw[jP];omega) (by unfold maxLen;omega) (fA HB.out) ?_;intro w1 aN Mq)
 have IK:=af (Own.made aN);have Hb1:Hid (Below B w w1):=(fB _ _).grown Mq (fA HB.out) (λk hk=>by cases hk);clear aN Mq hi jI gu jP;go_wp2_with fail
 go_loopw [20] (λiv wr=>zj w B n m xs ys (.slice (some ⟨w.heap.size,0,none⟩) (n+m) (n+m)) iv wr) (λiv _=>n-(intOf iv).toNat)
 case atStart=>exact⟨0,List.replicate (n+m) 0,fQ _,aa,cf,eP.replicate ae _,λj _ x hx=>by rw[List.getElem?_replicate] at hx;split at hx <;> simp_all,by rw[zf];simp[ff],by simpa using IK.out,Hb1.out⟩
 case round=>
  obtain⟨i,os,xP,rfl,hl,zk,hz,hv,aN,hb⟩:=hrel;have HLO:=af hl;have HLIM:=af zk;have HZ:=af hz;have HV:=af hv;have HO:=af aN;have iV:=af hb;have hsz:=hb.size;clear hl zk hz hv aN hb;by_cases IV:i<n
  ·obtain⟨b1,o1,x,rfl,bF,iI,qz⟩:=(Hr.out.jU HB.out iV.out).cellAt IV;have yi:=af iI;have lE:=HLX.out.at iI;clear iI;go_wp2_with fail
   obtain⟨wo,rfl⟩:∃ wo:World,wo=wr:=⟨_,aa⟩;go_loopw [8,27] (λcv kv wr'=>FG w B n m i (ar (xs.take i)*ar ys) x ys (.slice (some ⟨w.heap.size,0,none⟩) (n+m) (n+m)) cv kv wr') (λ_ kv _=>m-(intOf kv).toNat)
   case atStart=>exact⟨0,0,os,fQ _,aa,aa,ae,HLO.out,HLIM.out,HZ.out,by rw[HV.out];simp[ff],HO.out,iV.out⟩
   case round=>
    obtain⟨k,c',os',IL,rfl,rfl,Cs,IW,FH,hz',hv',hown',hb'⟩:=hrel;have HLO':=af IW;have FI:=af FH;have HZ':=af hz';have HV':=af hv';have HO':=af hown';have OY:=af hb';clear IW FH hz' hv' hown' hb';obtain⟨o,ho,hco,hfo⟩:=Own.iR HO'.out (j:=i+k) ae;have HOK:=af ho;have ho4:=FI.out.at ho;clear ho;by_cases hklt:k<m
    ·obtain⟨b2,o2,y,rfl,cJ,qT,vE⟩:=(Hs.out.jU HB.out OY.out).cellAt hklt;have KY:=af qT;have yf:=HLY.out.at qT;clear qT;have hsm:=uw lE yf ho4 Cs;have m0:0<=(x:Int)*(y:Int):=by rw[<-sG];omega
     have m1:(x:Int)*(y:Int)+(o:Int)+(c':Int)<18446744073709551616:=by rw[<-sG];omega
     have Mx:IntKind.i64.wrap ((i:Int)+(k:Int))=((i+k:Nat):Int):=by rw[bQ _ ae];simp
     clear hsm;go_wp2_with fail
     go_roundw
     case rel=>
      first
      | exact FG.step hklt IV HLO'.out FI.out HZ'.out HV'.out HO'.out OY.out KY.out HOK.out lE yf Cs cf cf
      | ((repeat apply Exists.intro);exact⟨FG.step hklt IV HLO'.out FI.out HZ'.out HV'.out HO'.out OY.out KY.out HOK.out lE yf Cs cf cf,aa⟩)
     case measure=>simp[intOf];omega
    ·obtain rfl:k=m:=by omega
     have Mx:IntKind.i64.wrap ((i:Int)+(k:Int))=((i+k:Nat):Int):=by rw[bQ _ ae];simp
     go_wp2_with fail
     go_roundw
     case rel=>
      first
      | exact zj.step IV HLO'.out FI.out HZ'.out HY.out HV'.out HO'.out OY.out yi.out Cs aa
      | ((repeat apply Exists.intro);exact⟨zj.step IV HLO'.out FI.out HZ'.out HY.out HV'.out HO'.out OY.out yi.out Cs aa,aa⟩)
     case measure=>simp[intOf];omega
  ·obtain rfl:i=n:=by omega
   go_wp2_with fail
   refine (kB _ (i+m) os _ (Rd.own HO.out) HLIM.out ae).mono ?_;rintro e w2 ⟨v',rfl,mi,cJ⟩;go_wp2_with fail
   have h:=HV.out;rw[bS (fA HX.out)] at h;rw[h] at mi;exact cj.out _ _ ⟨v',aa,Own.mono mi (by have:=HB.out;omega),iV.out.trans (cJ.mono (by have:=HB.out;omega))⟩
end
section
open Go.RowKit
def FJ (w:World) (U2 v1 V U:Nat) (qv rv:Value) (wr:World):Prop:=
 ∃ q r dn:Nat,qv=.int .u64 (q:Int)/\rv=.int .u64 (r:Int)/\q*v1+r=U2/\r<4294967296/\(∀ t:Nat,t<=4294967295->t*V<=U->t<=q)/\wr=w.drewN dn
variable {B U2 v1 v2 low:Nat}
theorem DG (IA:0<v1) (hl:low<B) (t:Nat) (h:t*(v1*B+v2)<=U2*B+low):t<=U2/v1:=by
 rw[BO IA];rw[ct,<-eJ] at h;have h1:t*v1*B<(U2+1)*B:=by rw[ek];omega
 have:=Ox h1;omega
theorem FK (IA:0<v1) (hl:low<4294967296):∀ t:Nat,t<=4294967295->t*(v1*4294967296+v2)<=U2*4294967296+low->t<=U2/v1:=λt _ h=>DG IA hl t h
variable {r:Nat}
theorem zl {q:Nat} (h:q*v1+r=U2) (hf:q*v2<=r*B+low):q*(v1*B+v2)<=U2*B+low:=by
 subst h;rw[ct,<-eJ,ek];omega
theorem IX {q:Nat} (h:q*v1+r=U2) (hf:r*B+low<q*v2):U2*B+low<q*(v1*B+v2):=by
 subst h;rw[ct,<-eJ,ek];omega
theorem FL {q V U:Nat} (hV:0<V) (hq:q<=4294967295) (hf:q*V<=U) (hm:∀ t:Nat,t<=4294967295->t*V<=U->t<=q):q=jb U V:=
 Nat.le_antisymm (Cr hV hq hf) (hm _ (Nat.min_le_left _ _) FD)
theorem FM {q:Nat} (h:q*v1+r=U2) (hr:4294967296<=r) (hU:U2<v1*4294967296+4294967296) (hv2:v2<4294967296):q<=4294967295/\q*v2<=r*4294967296+low:=by
 have h1:q*v1<4294967296*v1:=ae;have h2:q<4294967296:=Ox h1;have h3:q*v2<=4294967295*4294967295:=uc ae ae;omega
set_option maxRecDepth 100000 in
theorem My (hi mid low v1 v2:Nat) (w:World) (hhi:hi<=v1) (pK:mid<4294967296) (hlow:low<4294967296) (h1:0<v1) (h14:v1<4294967296) (h2:v2<4294967296):
  Calls Tryz.prog 274 #[.int .u32 (hi:Int),.int .u32 (mid:Int),.int .u32 (low:Int),.int .u32 (v1:Int),.int .u32 (v2:Int)] w λe w'=>
   e=.returned (.int .u64 (jb ((hi*4294967296+mid)*4294967296+low) (v1*4294967296+v2):Int))/\∃ k,w'=w.drewN k:=by
 have hhi4:hi<4294967296:=ae
 have xO:bits BinOp.or IntKind.u64 ((hi:Int)*4294967296) (mid:Int)=((hi*4294967296+mid:Nat):Int):=by
  have e1:((hi:Int)*4294967296)=((hi*4294967296:Nat):Int):=cf;rw[e1,u64_or_nat _ _ ae ae,nat_join 32 _ _ ae ae]
 obtain⟨U2,hU2⟩:∃ U2,U2=hi*4294967296+mid:=⟨_,aa⟩;have hU:U2<v1*4294967296+4294967296:=ae;rw[<-hU2] at xO ⊢;have hv0:((v1:Int) != 0)=true:=by rw[bne_iff_ne];omega
 have hV:0<v1*4294967296+v2:=ae;obtain⟨V,hVe⟩:∃ V,V=v1*4294967296+v2:=⟨_,aa⟩;obtain⟨U,hUe⟩:∃ U,U=U2*4294967296+low:=⟨_,aa⟩;rw[<-hVe,<-hUe];rw[<-hVe] at hV;have HV:=af hVe;have HU:=af hUe;have HST:Hid (∀ t:Nat,t<=4294967295->t*V<=U->t<=U2/v1):=by rw[hVe,hUe];exact FK h1 hlow
 have HUU:=af hU;have IJ:=BZ U2 v1;have vz:=eR U2 h1;have hU64:U2<18446744073709551616:=ae;have d1:((U2/v1:Nat):Int)=(U2:Int)/(v1:Int):=cf;have d2:((U2%v1:Nat):Int)=(U2:Int)%(v1:Int):=cf;have dl:(U2:Int)/(v1:Int)<18446744073709551616:=by rw[<-d1];have:=Fm U2 v1;omega
 have dl0:0<=(U2:Int)/(v1:Int):=Int.ediv_nonneg ae ae;have dm0:0<=(U2:Int)%(v1:Int):=Int.emod_nonneg _ ae;have dm1:(U2:Int)%(v1:Int)<4294967296:=by rw[<-d2];omega
 have HDM:=af IJ;have OT:=af vz;have HD1:=af d1;have HD2:=af d2;clear hVe hUe hU IJ vz d1 d2 hU2;refine aZ λR' cj=> ?_;go_enter Tryz.func274,Tryz.ntmps274
 go_wp2_with fail
 go_step3
 go_wp2_with fail
 go_quiet (fail)
 go_wp2_with fail
 go_step3
 go_wp2_with fail
 go_loopw [12,13] (λqv rv wr=>FJ w U2 v1 V U qv rv wr) (λqv _ _=>(intOf qv).toNat)
 case atStart=>exact⟨U2/v1,U2%v1,_,by rw[HD1.out],by rw[HD2.out],by rw[gi];exact HDM.out,Nat.lt_trans OT.out h14,HST.out,aa⟩
 case round=>
  obtain⟨q,r,dn,rfl,rfl,hqr,hr,hmax,rfl⟩:=hrel;have HQR:=af hqr;have HMAX:=af hmax
  have hq64:(q:Int)<18446744073709551616:=by
   have h3:q*1<=q*v1:=jM _ h1;omega
  have hr64:(r:Int)+(v1:Int)<18446744073709551616:=ae;clear hqr hmax dl dl0 dm0 dm1 xO
  have next:(∀ t:Nat,t<=4294967295->t*V<=U->t<=q-1)->1<=q->r+v1<4294967296->FJ w U2 v1 V U (.int .u64 ((q:Int)-1)) (.int .u64 ((r:Int)+(v1:Int))) (w.drewN dn):=λa b c=>
   ⟨q-1,r+v1,dn,by rw[show ((q-1:Nat):Int)=(q:Int)-1 by omega],cf,by
    have h3:=HQR.out;obtain⟨k,rfl⟩:∃ k,q=k+1:=⟨q-1,ae⟩;rw[ek] at h3;simp only[Nat.add_sub_cancel];omega,c,a,rfl⟩
  have stop:(∀ t:Nat,t<=4294967295->t*V<=U->t<=q-1)->1<=q->4294967296<=r+v1->(q:Int)-1=(jb U V:Int):=λa b c=>by
   have h3:=HQR.out;obtain⟨k,rfl⟩:∃ k,q=k+1:=⟨q-1,ae⟩;have h4:k*v1+(r+v1)=U2:=by rw[ek] at h3;omega
   obtain⟨h5,h6⟩:=FM (low:=low) h4 c HUU.out h2;have h7:k=jb U V:=FL hV h5 (by rw[HV.out,HU.out];exact zl h4 h6) (by simpa using a);omega
  have HNEXT:=af next
  have HSTOP:=af stop;clear next stop
  by_cases hqB:4294967296<=q
  ·have c1:4294967295<(q:Int):=by omega
   have hA:Hid (∀ t:Nat,t<=4294967295->t*V<=U->t<=q-1):=λt ht _=>ae;have c2:0<=(q:Int)-1:=ae;by_cases Fx:r+v1<4294967296
   ·have c3:decide (4294967295<(r:Int)+(v1:Int))=false:=aR ae;go_wp2_with fail
    go_roundw
    case rel=>exact HNEXT.out hA.out ae Fx
    case measure=>simp[intOf];omega
   ·have c3:4294967295<(r:Int)+(v1:Int):=by omega
    go_wp2_with fail
    exact cj.out _ _ ⟨oG (HSTOP.out hA.out ae ae),_,aa⟩
  ·have c1:(q:Int)<=4294967295:=by omega
   have m2:q*v2<=4294967295*4294967295:=uc ae ae;have m0:0<=(q:Int)*(v2:Int):=by rw[<-sG];omega
   have m1:(q:Int)*(v2:Int)<18446744073709551616:=by rw[<-sG];omega
   have xO:bits BinOp.or IntKind.u64 ((r:Int)*4294967296) (low:Int)=((r*4294967296+low:Nat):Int):=by
    have e1:((r:Int)*4294967296)=((r*4294967296:Nat):Int):=cf;rw[e1,u64_or_nat _ _ ae ae,nat_join 32 _ _ ae ae]
   obtain⟨RL,hRL⟩:∃ RL,RL=r*4294967296+low:=⟨_,aa⟩;rw[<-hRL] at xO;have HRL:=af hRL;by_cases hc:RL<q*v2
   ·have cc:(RL:Int)<(q:Int)*(v2:Int):=by rw[<-sG];omega
    have hq1:1<=q:=by
     rcases mX q with h|h
     ·subst h;rw[uf] at hc;omega
     ·exact h
    have hA:Hid (∀ t:Nat,t<=4294967295->t*V<=U->t<=q-1):=λt ht hf=>by
     have h3:=HMAX.out t ht hf;have h4:=IX (B:=4294967296) (low:=low) HQR.out (by rw[<-hRL];exact hc);rw[<-HV.out,<-HU.out] at h4;have h5:t≠q:=λe=>by subst e;omega
     omega
    have c2:0<=(q:Int)-1:=ae;clear m2 hc hRL;by_cases Fx:r+v1<4294967296
    ·have c3:decide (4294967295<(r:Int)+(v1:Int))=false:=aR ae;go_wp2_with fail
     go_roundw
     case rel=>exact HNEXT.out hA.out ae Fx
     case measure=>simp[intOf];omega
    ·have c3:4294967295<(r:Int)+(v1:Int):=by omega
     go_wp2_with fail
     exact cj.out _ _ ⟨oG (HSTOP.out hA.out ae ae),_,aa⟩
   ·have cc:decide ((RL:Int)<(q:Int)*(v2:Int))=false:=aR (by rw[<-sG];omega);have cx:decide (4294967295<(q:Int))=false:=aR ae;have he:q=jb U V:=FL hV ae (by rw[HV.out,HU.out];exact zl HQR.out (by rw[<-hRL];omega)) HMAX.out;have HE:=af he;clear m2 hc hRL he c1;go_wp2_with fail
    exact cj.out _ _ ⟨by rw[<-HE.out];rfl,_,rfl⟩
end
section
open Go.RowKit
theorem Rd.ux {w w':World} {g sz n:Nat} {v:Value} {cs:List Value} (h:Rd w sz v n cs) (hg:w.grownBy w' (some g)) (hne:∀ p c a,v=.slice p n c->p=some a->a.block≠g):Rd w' sz v n cs:=by
 obtain⟨p,c,rfl,h1,h2,h3,h4⟩:=h;refine⟨p,c,aa,h1,h2,h3,λhn=> ?_⟩;obtain⟨b,off,hp,hc⟩:=h4 hn;refine⟨b,off,hp,λj u hj=> ?_⟩;exact hg.cell (hc j u hj) (λe=>hne p c _ aa hp (by simpa using e))
theorem nS (w:World) (row:Option Nat):w.grownBy w row:=⟨rfl,rfl,rfl,aP _,λ_ _ _=>rfl⟩
theorem Bd {a b c:World} {row:Option Nat} (h:a.grownBy b row) (k:b.grownBy c row):a.grownBy c row:=
 ⟨k.os.trans h.os,k.tape.trans h.tape,k.output.trans h.output,aV h.size k.size,λj hj hne=>(k.block j (qj hj h.size) hne).trans (h.block j hj hne)⟩
theorem pN {w wr:World} {g j:Nat} {u:Value} (h:w.grownBy wr (some g)):w.grownBy (wr.setCell ⟨g,j,none⟩ u) (some g):=
 ⟨h.os,h.tape,h.output,by simpa [World.setCell] using h.size,λk hk hne=>(qL wr ⟨g,j,none⟩ u k (λe=>hne (by rw[e]))).trans (h.block k hk hne)⟩
theorem yl {pre D A post:List Nat} {i k a:Nat} (hp:pre.length=i) (hD:D.length=k) (ha:A[k]? =some a):(pre++(D++(A.drop k++post)))[i+k]? =some a:=by
 subst hp;subst hD;obtain⟨hl,he⟩:=bd.1 ha;rw[mS ae,KH,mS (aP _),oy,oh hl,Fk,List.getElem?_cons_zero,he]
theorem Le {pre D A post:List Nat} {i k x:Nat} (hp:pre.length=i) (hD:D.length=k) (hl:k<A.length):(pre++(D++(A.drop k++post))).set (i+k) x=pre++((D++[x])++(A.drop (k+1)++post)):=by
 subst hp;subst hD;rw[tV _ _ ae,KH,tV _ _ (aP _),oy,oh hl,Fk,List.set_cons_zero,gQ];rfl
theorem uy (n:Int):IntKind.u64.wrap n=n%18446744073709551616:=by simp[IntKind.wrap,IntKind.bits,IntKind.signed]
theorem FN {a lo r:Nat} (ha:a<4294967296) (hl:lo<4294967296) (hr:r<=1):∃ S1 S2 x r':Nat,IntKind.u64.wrap ((a:Int)-(lo:Int))=(S1:Int)/\IntKind.u64.wrap ((S1:Int)-(r:Int))=(S2:Int)/\
  (S2:Int)%4294967296=(x:Int)/\(S2:Int)/9223372036854775808=(r':Int)/\r'<=1/\x<4294967296/\a+4294967296*r'=x+lo+r/\S1<18446744073709551616/\S2<18446744073709551616:=by
 refine⟨(((a:Int)-lo)%18446744073709551616).toNat,(((a:Int)-lo-r)%18446744073709551616).toNat,(((a:Int)-lo-r)%4294967296).toNat,(if lo+r<=a then 0 else 1),?_,?_,?_,?_,?_,?_,?_,?_,?_⟩
 ·rw[uy];omega
 ·rw[uy];omega
 ·omega
 ·split <;> omega
 ·split <;> omega
 ·omega
 ·split <;> omega
 ·omega
 ·omega
def uz (w:World) (B g N cap L q:Nat) (pre A post ys:List Nat) (cv bv kv:Value) (wr:World):Prop:=
 ∃ (k c r:Nat) (D:List Nat),k<=L/\kv=.int .i64 (k:Int)/\cv=.int .u64 (c:Int)/\bv=.int .u64 (r:Int)/\c<4294967296/\r<=1/\D.length=k/\da D/\
   ar D+q*ar (ys.take k)=ar (A.take k)+4294967296^k*(c+r)/\4294967296^k*c<=q*ar (ys.take k)/\
   wr.ownsRow B 78 1 (.slice (some ⟨g,0,none⟩) N cap) N (ints .u32 (pre++(D++(A.drop k++post))))/\w.grownBy wr (some g)
theorem uz.step {w wr:World} {B g N cap i L q k c r y a x r' P:Nat} {pre A post ys D:List Nat} {xi ci ri:Int} (hk:k<L) (hA:A.length=L) (FO:pre.length=i) (hD:D.length=k) (zk:da D)
  (hv:ar D+q*ar (ys.take k)=ar (A.take k)+4294967296^k*(c+r)) (hc:4294967296^k*c<=q*ar (ys.take k))
  (aN:wr.ownsRow B 78 1 (.slice (some ⟨g,0,none⟩) N cap) N (ints .u32 (pre++(D++(A.drop k++post))))) (hg:w.grownBy wr (some g))
  (hy:ys.getD k 0=y) (ha:A[k]? =some a) (hP:P=q*y+c) (hP64:P<18446744073709551616) (lE:x<4294967296) (Bc:r'<=1) (he:a+4294967296*r'=x+P%4294967296+r)
  (hxi:xi=(x:Int)) (hci:ci=((P/4294967296:Nat):Int)) (FP:ri=(r':Int)):
  uz w B g N cap L q pre A post ys (.int .u64 ci) (.int .u64 ri) (.int .i64 ((k:Int)+1)) (wr.setCell ⟨g,i+k,none⟩ (.int .u32 xi)):=by
 subst hxi;subst hci;subst FP;subst hP;have h1:=Own.iq (j:=i+k) (x:=x) aN;rw[Le FO hD ae] at h1;have e1:ar (ys.take (k+1))=ar (ys.take k)+4294967296^k*y:=by rw[bA,hy]
 have e2:ar (A.take (k+1))=ar (A.take k)+4294967296^k*a:=by rw[bA,List.getD,ha];rfl
 refine⟨k+1,(q*y+c)/4294967296,r',D++[x],ae,aa,aa,aa,ae,Bc,by simp[hD],zk.append (da.cons lE da.nil),?_,?_,h1,pN hg⟩
 ·rw[eN,hD,e1,e2,fP];exact IU hv he
 ·rw[e1,fP,ct]
  have h3:4294967296^k*4294967296*((q*y+c)/4294967296)<=4294967296^k*(q*y+c):=by
   rw[eJ];exact jM _ (Nat.mul_div_le _ _)
  rw[ct,BW] at h3;omega
def uA (w:World) (B g N cap L:Nat) (pre A post ys:List Nat) (cv kv:Value) (wr:World):Prop:=
 ∃ (k c:Nat) (D:List Nat),k<=L/\kv=.int .i64 (k:Int)/\cv=.int .u32 (c:Int)/\c<=1/\D.length=k/\da D/\
   ar D+4294967296^k*c=ar (A.take k)+ar (ys.take k)/\
   wr.ownsRow B 78 1 (.slice (some ⟨g,0,none⟩) N cap) N (ints .u32 (pre++(D++(A.drop k++post))))/\w.grownBy wr (some g)
theorem uA.step {w wr:World} {B g N cap i L k c y a:Nat} {pre A post ys D:List Nat} (hk:k<L) (hA:A.length=L) (FO:pre.length=i) (hD:D.length=k) (zk:da D) (hc:c<=1)
  (hv:ar D+4294967296^k*c=ar (A.take k)+ar (ys.take k))
  (aN:wr.ownsRow B 78 1 (.slice (some ⟨g,0,none⟩) N cap) N (ints .u32 (pre++(D++(A.drop k++post))))) (hg:w.grownBy wr (some g))
  (hy:ys.getD k 0=y) (ha:A[k]? =some a) (ha4:a<4294967296) (yf:y<4294967296):
  uA w B g N cap L pre A post ys (.int .u32 (((a+y+c)/4294967296:Nat):Int)) (.int .i64 ((k:Int)+1)) (wr.setCell ⟨g,i+k,none⟩ (.int .u32 (((a+y+c)%4294967296:Nat):Int))):=by
 have h1:=Own.iq (j:=i+k) (x:=(a+y+c)%4294967296) aN;rw[Le FO hD ae] at h1;have e1:ar (ys.take (k+1))=ar (ys.take k)+4294967296^k*y:=by rw[bA,hy]
 have e2:ar (A.take (k+1))=ar (A.take k)+4294967296^k*a:=by rw[bA,List.getD,ha];rfl
 refine⟨k+1,(a+y+c)/4294967296,D++[(a+y+c)%4294967296],ae,aa,aa,ae,by simp[hD],zk.append (da.cons (eR _ ae) da.nil),?_,h1,pN hg⟩;rw[eN,hD,e1,e2,fP];exact Fs _ _ a y c _ _ _ hv aa
def TookAt (w w':World) (B g N cap:Nat) (pre A post ys:List Nat) (q q':Nat):Prop:=
 ∃ A':List Nat,A'.length=A.length/\da A'/\ar A' +q' *ar ys=ar A/\(q*ar ys<=ar A/\q'=q\/ar A<q*ar ys/\q' +1=q)/\
   w'.ownsRow B 78 1 (.slice (some ⟨g,0,none⟩) N cap) N (ints .u32 (pre++(A'++post)))/\w.grownBy w' (some g)
set_option maxRecDepth 100000 in
theorem OZ (g N cap i L capw n q B:Nat) (pre A post ys:List Nat) (vb:Value) (w:World) (aN:w.ownsRow B 78 1 (.slice (some ⟨g,0,none⟩) N cap) N (ints .u32 (pre++(A++post))))
  (FO:pre.length=i) (hA:A.length=L) (hlA:da A) (hs:Rd w 1 vb n (ints .u32 ys)) (qy:da ys) (hne:∀ p c a,vb=.slice p n c->p=some a->a.block≠g) (hL:L=n+1) (hLc:L<=capw) (hcw:capw<=9223372036854775807)
  (hq:q<4294967296) (hqb:q*ar ys<=ar A+ar ys):
  Calls Tryz.prog 275 #[.slice (some ⟨g,i,none⟩) L capw,vb,.int .u64 (q:Int)] w λe w'=>∃ q':Nat,e=.returned (.int .u32 (q':Int))/\TookAt w w' B g N cap pre A post ys q q':=by
 obtain⟨p,c,rfl,fV,gj,iU⟩:=hs.u32;have Hs:=af hs;have Oc:=af hlA;have HLY:=af qy;have HNE:=af hne;have HO:=af aN;have HA:=af hA;have HP:=af FO;have HY:=af iU;have HQB:=af hqb;have HLL:=af hL;clear hs hlA qy hne aN hA FO iU hqb hL;refine aZ λR' cj=> ?_;go_enter Tryz.func275,Tryz.ntmps275
 go_wp2_with fail
 go_loopw [7,8,18] (λcv bv kv wr=>uz w B g N cap L q pre A post ys cv bv kv wr) (λ_ _ kv _=>L-(intOf kv).toNat)
 case atStart=>exact⟨0,0,0,[],fQ _,aa,aa,aa,ae,ae,aa,da.nil,by simp[ff],cf,by simpa using HO.out,nS _ _⟩
 case round=>
  obtain⟨k,c,r,D,hkL,rfl,rfl,rfl,Cs,yV,hD,hlD,hv,hcc,aN,hg⟩:=hrel;have HD:=af hD;have Cn:=af hlD;have HV:=af hv;have HCC:=af hcc;have HOW:=af aN;have HG:=af hg;clear hD hlD hv hcc aN hg;by_cases ET:k<L
  ·obtain⟨a,ha⟩:∃ a,A[k]? =some a:=⟨_,aH (by rw[HA.out];exact ET)⟩;have ha4:=Oc.out.at ha;have HAK:=af ha
   have hlt:i+k<N:=by
    have h1:=HOW.out.1;have h2:=(bd.1 (yl (post:=post) HP.out HD.out ha)).1;simp at h1 h2;omega
   obtain⟨a',ha',hca,hfa⟩:=Own.iR HOW.out (j:=i+k) hlt;rw[yl HP.out HD.out ha] at ha';obtain rfl:=lx ha';have AX:=kj hca;simp only at AX;clear ha ha';by_cases hkn:k<n
   ·obtain⟨b2,o2,y,rfl,cJ,qT,vE⟩:=(Hs.out.ux HG.out HNE.out).cellAt hkn;have KY:Hid (ys.getD k 0=y):=by show _=_;rw[List.getD,qT];rfl
    have yf:=HLY.out.at qT;clear qT;have m3:q*y<=4294967295*4294967295:=uc ae ae;have m0:0<=(q:Int)*(y:Int):=by rw[<-sG];omega
    have m1:(q:Int)*(y:Int)<18446744073709551616:=by rw[<-sG];omega
    obtain⟨P,hP⟩:∃ P,P=q*y+c:=⟨_,aa⟩;have hP64:P<18446744073709551616:=ae;have hPi:(q:Int)*(y:Int)+(c:Int)=(P:Int):=by rw[hP];simp
    obtain⟨lo,gN⟩:∃ lo,lo=P%4294967296:=⟨_,aa⟩;have hlo4:lo<4294967296:=ae;have hloi:(P:Int)%4294967296=(lo:Int):=ae;obtain⟨S1,S2,x,r',f1,f2,f3,f4,f5,f6,f7,f8,f9⟩:=FN ha4 hlo4 yV;have HF7:=af f7;have HPE:=af hP;have HLO:=af gN;clear m3 hP gN f7;go_wp2_with fail
    go_roundw
    case rel=>exact uz.step ET HA.out HP.out HD.out Cn.out HV.out HCC.out HOW.out HG.out KY.out HAK.out HPE.out hP64 f6 f5 (by rw[<-HLO.out];exact HF7.out) aa cf aa
    case measure=>simp[intOf];omega
   ·have KY:Hid (ys.getD k 0=0):=by show _=_;rw[List.getD,gD (by rw[HY.out];omega)];rfl
    obtain⟨S1,S2,x,r',f1,f2,f3,f4,f5,f6,f7,f8,f9⟩:=FN ha4 Cs yV;have HF7:=af f7;clear f7;go_wp2_with fail
    go_roundw
    case rel=>exact uz.step ET HA.out HP.out HD.out Cn.out HV.out HCC.out HOW.out HG.out KY.out HAK.out (P:=c) cf ae f6 f5 (by rw[tY Cs];exact HF7.out) aa (by first|rfl|(simp;omega)|omega) aa
    case measure=>simp[intOf];omega
  ·obtain rfl:k=L:=by omega
   have hpow:q*ar ys<4294967296^k:=by
    have h1:=kh HLY.out;rw[HY.out] at h1;have h2:q*ar ys<=4294967295*ar ys:=eQ _ ae;have h3:4294967296^k=4294967296^n*4294967296:=by rw[HLL.out,fP]
    omega
   have hyt:ar (ys.take k)=ar ys:=bS (by rw[HY.out,HLL.out];omega);have Ct:ar (A.take k)=ar A:=bS (by rw[HA.out];omega);have hv:=HV.out;have hcc:=HCC.out;rw[hyt] at hv hcc;rw[Ct] at hv;have hDl:=kh Cn.out;rw[HD.out] at hDl
   obtain rfl:c=0:=by
    rcases mX c with h|h
    ·exact h
    ·have:4294967296^k*1<=4294967296^k*c:=jM _ h;omega
   rw[fe] at hv;have HV2:=af hv;have HPW:=af hpow;have IY:=af hDl;have hOW:=HOW.out;rw[mV (by rw[HA.out];omega),ng] at hOW;have HOW2:=af hOW;clear hv hcc hpow hyt Ct hDl hOW HOW HCC HV;rcases (show r=0\/r=1 by omega) with rfl|rfl
   ·go_wp2_with fail
    refine cj.out _ _ ⟨q,?_,D,by rw[HD.out,HA.out],Cn.out,by have:=HV2.out;omega,.inl ⟨by have:=HV2.out;omega,rfl⟩,HOW2.out,HG.out⟩;first|rfl|exact oG ae
   ·have hq1:1<=q:=by
     rcases mX q with h|h
     ·have h1:=HV2.out;have h2:=IY.out;rw[h,uf] at h1;omega
     ·exact h
    go_wp2_with fail
    rw[show ((0:Nat):Int)=0 from aa,show ((1:Nat):Int)=1 from aa];obtain⟨wo,rfl⟩:∃ wo:World,wo=wr:=⟨_,aa⟩;go_loopw [13,62] (λcv kv wr'=>uA wo B g N cap k pre D post ys cv kv wr') (λ_ kv _=>k-(intOf kv).toNat)
    case atStart=>exact⟨0,0,[],fQ _,aa,aa,ae,aa,da.nil,by simp[ff],by simpa using HOW2.out,nS _ _⟩
    case round=>
     obtain⟨l,c,E,hlk,rfl,rfl,pJ,hE,hlE,hvE,aN,hg⟩:=hrel;have HE:=af hE;have HLE:=af hlE;have HVE:=af hvE;have HOW:=af aN;have HG2:=af hg;clear hE hlE hvE aN hg;by_cases hlt:l<k
     ·obtain⟨a,ha⟩:∃ a,D[l]? =some a:=⟨_,aH (by rw[HD.out];exact hlt)⟩;have ha4:=Cn.out.at ha;have HAK:=af ha
      have hlN:i+l<N:=by
       have h1:=HOW.out.1;have h2:=(bd.1 (yl (post:=post) HP.out HE.out ha)).1;simp at h1 h2;omega
      obtain⟨a',ha',hca,hfa⟩:=Own.iR HOW.out (j:=i+l) hlN;rw[yl HP.out HE.out ha] at ha';obtain rfl:=lx ha';have AX:=kj hca;simp only at AX;clear ha ha';by_cases kS:l<n
      ·obtain⟨b2,o2,y,rfl,cJ,qT,vE⟩:=((Hs.out.ux HG.out HNE.out).ux HG2.out HNE.out).cellAt kS;have KY:Hid (ys.getD l 0=y):=by show _=_;rw[List.getD,qT];rfl
       have yf:=HLY.out.at qT;clear qT;go_wp2_with fail
       refine (oH a y c _ ha4 yf ae).mono ?_;rintro e w2 ⟨rfl,rfl⟩;go_wp2_with fail
       go_roundw
       case rel=>exact uA.step hlt HD.out HP.out HE.out HLE.out pJ HVE.out HOW.out HG2.out KY.out HAK.out ha4 yf
       case measure=>simp[intOf];omega
      ·have KY:Hid (ys.getD l 0=0):=by show _=_;rw[List.getD,gD (by rw[HY.out];omega)];rfl
       go_wp2_with fail
       refine (oH a 0 c _ ha4 ae ae).mono ?_;rintro e w2 ⟨rfl,rfl⟩;go_wp2_with fail
       go_roundw
       case rel=>exact uA.step hlt HD.out HP.out HE.out HLE.out pJ HVE.out HOW.out HG2.out KY.out HAK.out ha4 ae
       case measure=>simp[intOf];omega
     ·obtain rfl:l=k:=by omega
      have hve:=HVE.out;rw[bS (by rw[HD.out];omega),bS (by rw[HY.out,HLL.out];omega)] at hve;have hEl:=kh HLE.out;rw[HE.out] at hEl;have hOW:=HOW.out;rw[mV (by rw[HD.out];omega),ng] at hOW;have hv2:=HV2.out;have hqb:=HQB.out;obtain⟨m,rfl⟩:∃ m,q=m+1:=⟨q-1,ae⟩;rw[ek,xj] at hv2 hqb
      have Pa:ar E+m*ar ys=ar A:=by
       rcases (show c=0\/c=1 by omega) with rfl|rfl
       ·omega
       ·omega
      have hlt2:ar A<(m+1)*ar ys:=by
       rw[ek,xj];have:=IY.out;omega
      have HFIN:=af Pa;have HLT2:=af hlt2;have HOW3:=af hOW;clear hve hEl hOW hv2 hqb Pa hlt2;have hm:((m+1:Nat):Int)-1=(m:Int):=ae;go_wp2_with fail
      refine cj.out _ _ ⟨m,?_,E,by rw[HE.out,HA.out],HLE.out,HFIN.out,.inr ⟨HLT2.out,rfl⟩,HOW3.out,Bd HG.out HG2.out⟩;first|rfl|exact oG ae
end
section
theorem getD_some {xs:List Nat} {k x:Nat} (h:xs[k]? =some x):xs.getD k 0=x:=by rw[List.getD,h];rfl
theorem Mz {A:List Nat} {m a0 a1 a2:Nat} (hl:A.length=m+3) (h0:A[m]? =some a0) (h1:A[m+1]? =some a1) (h2:A[m+2]? =some a2):
  ar A=((a2*4294967296+a1)*4294967296+a0)*4294967296^m+ar (A.take m):=by
 have e0:=bA A m;have e1:=bA A (m+1);have e2:=bA A (m+2);rw[getD_some h0] at e0;rw[getD_some h1,e0,fP] at e1;rw[getD_some h2,e1,fP,fP,bS ae] at e2;rw[e2];generalize 4294967296^m=p;rw[ek,ek,ek];rw[show a2*4294967296*4294967296*p=p*4294967296*4294967296*a2 by ac_rfl];rw[show a1*4294967296*p=p*4294967296*a1 by rw[gi p,gi _ a1,eJ]];rw[gi a0 p];omega
theorem top_two {Y:List Nat} {m v1 v2:Nat} (hl:Y.length=m+2) (h2:Y[m]? =some v2) (h1:Y[m+1]? =some v1):ar Y=(v1*4294967296+v2)*4294967296^m+ar (Y.take m):=by
 have e0:=bA Y m;have e1:=bA Y (m+1);rw[getD_some h2] at e0;rw[getD_some h1,e0,fP,bS ae] at e1;rw[e1];generalize 4294967296^m=p;rw[ek];rw[show v1*4294967296*p=p*4294967296*v1 by rw[gi p,gi _ v1,eJ]];rw[gi v2 p];omega
theorem qV {xs:List Nat} (h:da xs) {m:Nat} (hm:m<=xs.length):ar (xs.take m)<4294967296^m:=by
 have:=kh (h.take m)
 rwa [cE,gG hm] at this
structure Window (us ys:List Nat) (i m b hi mid low v1 v2:Nat) (A post:List Nat):Prop where
 split:us=us.take i++(A++post)
 pre:(us.take i).length=i
 len:A.length=m+3
 lim:da A
 zero:ar post=0
 lt:ar A<4294967296*b
 hi_le:hi<=v1
 near:ar A/b<=jb ((hi*4294967296+mid)*4294967296+low) (v1*4294967296+v2)/\jb ((hi*4294967296+mid)*4294967296+low) (v1*4294967296+v2)<=ar A/b+1
theorem MA {us ys:List Nat} {i m b hi mid low v1 v2 N:Nat} (hN:us.length=N) (hlt:i+(m+2)<N) (hu:da us) (hy:da ys) (iU:ys.length=m+2) (hb:ar ys=b) (hd:ar (us.drop (i+1))<b)
  (h1:us[i+(m+2)]? =some hi) (h2:us[i+(m+1)]? =some mid) (h3:us[i+m]? =some low) (h4:ys[m+1]? =some v1) (h5:ys[m]? =some v2) (IA:0<v1):
  Window us ys i m b hi mid low v1 v2 ((us.drop i).take (m+3)) (us.drop (i+(m+3))):=by
 have hA:((us.drop i).take (m+3)).length=m+3:=by rw[cE,jN];omega
 have hlA:da ((us.drop i).take (m+3)):=(hu.drop i).take _
 have hsp:us.drop i=(us.drop i).take (m+3)++us.drop (i+(m+3)):=by
  rw[<-List.drop_drop];exact (oi _ _).symm
 have g0:((us.drop i).take (m+3))[m]? =some low:=by rw[qK,if_pos ae,oo];exact h3
 have g1:((us.drop i).take (m+3))[m+1]? =some mid:=by rw[qK,if_pos ae,oo];exact h2
 have g2:((us.drop i).take (m+3))[m+2]? =some hi:=by rw[qK,if_pos ae,oo];exact h1
 have hyp:b<4294967296^(m+2):=by rw[<-hb,<-iU];exact kh hy
 have hz:ar (us.drop (i+(m+3)))=0:=by
  have e:=zg (xs:=us.drop (i+1)) (m+2) (by rw[jN];omega);rw[List.drop_drop,show i+1+(m+2)=i+(m+3) by omega] at e;rcases mX (ar (us.drop (i+(m+3)))) with h|h
  ·exact h
  ·have:4294967296^(m+2)*1<=4294967296^(m+2)*ar (us.drop (i+(m+3))):=jM _ h;omega
 have hAv:ar (us.drop i)=ar ((us.drop i).take (m+3)):=by
  conv=>lhs;rw[hsp]
  rw[fh,hz,ni,lz]
 obtain⟨u0,hu0⟩:∃ u0,us[i]? =some u0:=⟨_,aH ae⟩;have hu04:=hu.at hu0
 have Pb:ar ((us.drop i).take (m+3))<4294967296*b:=by
  rw[<-hAv,sN hu0];omega
 have eA:=Mz hA g0 g1 g2;have eY:=top_two iU h5 h4;rw[hb] at eY;have lA:=qV hlA (m:=m) ae;have lY:=qV hy (m:=m) ae;have hp:0<4294967296^m:=qN ae;refine⟨?_,by rw[cE];omega,hA,hlA,hz,Pb,?_,IQ hp eA lA eY lY ae Pb⟩
 ·rw[<-hsp];exact (oi _ _).symm
 ·-- hi<=v1
  rcases qm v1 hi with h|h
  ·have k1:ar (us.drop (i+1))=ar ((us.drop (i+1)).take (m+1))+4294967296^(m+1)*ar ((us.drop (i+1)).drop (m+1)):=zg _ (by rw[jN];omega);rw[List.drop_drop,show i+1+(m+1)=i+(m+2) by omega,sN h1] at k1;have hv2:=hy.at h5
   have k2:4294967296^(m+1)*hi<=ar (us.drop (i+1)):=by
    rw[k1,ct];omega
   have k3:b<4294967296^(m+1)*(v1+1):=by
    rw[eY,fP];have k4:(v1*4294967296+v2+1)*4294967296^m<=((v1+1)*4294967296)*4294967296^m:=eQ _ ae;rw[show 4294967296^m*4294967296*(v1+1)=((v1+1)*4294967296)*4294967296^m by rw[gi,gi (4294967296^m),eJ]];rw[ek,xj] at k4;omega
   have k5:4294967296^(m+1)*(v1+1)<=4294967296^(m+1)*hi:=jM _ h;omega
  ·exact h
theorem IZ {u b q q' r:Nat} (hb:0<b) (h1:u/b<=q) (h2:q<=u/b+1) (hv:r+q' *b=u) (h:q*b<=u/\q'=q\/u<q*b/\q' +1=q):q'=u/b/\r<b:=by
 have hq:q'=u/b:=by
  rcases h with ⟨h3,rfl⟩|⟨h3,h4⟩
  ·have:=(BO hb).2 h3;omega
  ·have:¬ q<=u/b:=λhc=>by have:=(BO hb).1 hc;omega
   omega
 refine⟨hq,?_⟩;have e:=BZ u b;have m:=eR u hb;rw[gi,<-hq] at e;omega
theorem FQ {u b q:Nat} (h:q<=u/b+1):q*b<=u+b:=by
 have h1:q*b<=(u/b+1)*b:=eQ _ h;have h2:=Fi u b;rw[ek,xj] at h1;omega
theorem Ja {us pre A A' post qs:List Nat} {i b q' a:Nat} (hsp:us=pre++(A++post)) (FO:pre.length=i) (hz:ar post=0) (hv:ar A' +q' *b=ar A) (hlt:ar A' <b)
  (ha:ar us+4294967296^(i+1)*(b*ar qs)=a):
  ar ((pre++(A'++post)).drop i)<b/\ar (pre++(A'++post))+4294967296^i*(b*ar (q'::qs))=a:=by
 subst hsp;constructor
 ·rw[Ou ae,mV ae,ng,fh,hz,ni,lz];exact hlt
 ·rw[fh,fh,hz,ni,lz] at ha;rw[fh,fh,hz,ni,lz,gr,<-ha,<-hv,FO,ct b,ct,ct,fP];rw[gi q' b,show 4294967296^i*(b*(4294967296*ar qs))=4294967296^i*4294967296*(b*ar qs) by rw[eJ,BW b]];omega
theorem DI {qs:List Nat} {k x:Nat}:(List.replicate (k+1) 0++qs).set k x=List.replicate k 0++x::qs:=by
 rw[KM,gQ,tV _ _ cf,Fh,oy];rfl
theorem FR {b t u:Nat} (hb:b≠0) (ht:(limbs b)[(limbs b).length-1]? =some t) (hu:u<32) (htu:t*2^u<4294967296):(limbs (b*2^u)).length=(limbs b).length:=by
 have hn:=dY hb;have hp:0<2^u:=qN ae;refine Nat.le_antisymm (kQ _ _ ?_) (dt (KJ _ hp));obtain⟨n,hl⟩:∃ n,(limbs b).length=n+1:=⟨(limbs b).length-1,ae⟩;rw[hl] at ht ⊢;simp only[Nat.add_sub_cancel] at ht;have e:=bA (limbs b) n;rw[getD_some ht,bS ae,aw] at e;have l:=qV (aC b) (m:=n) ae;have h1:b<4294967296^n*(t+1):=by rw[ct];omega
 have h2:(t+1)*2^u<=4294967296:=by
  have h3:4294967296=2^u*2^(32-u):=by rw[<-qn,show u+(32-u)=32 by omega]
  rw[h3,gi t] at htu;have h4:=Nat.lt_of_mul_lt_mul_left htu;rw[gi]
  calc 2^u*(t+1)<=2^u*2^(32-u):=jM _ h4
   _=4294967296:=h3.symm
 have h5:b*2^u<4294967296^n*(t+1)*2^u:=Nat.mul_lt_mul_of_pos_right h1 hp;have h6:4294967296^n*(t+1)*2^u<=4294967296^n*4294967296:=by rw[eJ];exact jM _ h2
 rw[fP];omega
theorem MB {a b u:Nat}:(a*2^u)/(b*2^u)=a/b:=Nat.mul_div_mul_right a b (qN ae)
theorem MC {a b u:Nat}:(a*2^u)%(b*2^u)=(a%b)*2^u:=Nat.mul_mod_mul_right (2^u) a b
end
section
open Go.RowKit
def Divided (w w':World) (a b:Nat) (e:Ending):Prop:=
 (b=0/\e=.returned (.tuple #[.slice none 0 0,.slice none 0 0,.int .i64 20]))\/
 (b≠0/\∃ vq vr,e=.returned (.tuple #[vq,vr,.int .i64 0])/\w'.ownsRow w.heap.size 78 1 vq (limbs (a/b)).length (ints .u32 (limbs (a/b)))/\w'.ownsRow w.heap.size 78 1 vr (limbs (a%b)).length (ints .u32 (limbs (a%b))))
def Pc (w:World) (B N cap n m b a ga:Nat) (vy vq:Value) (iv:Value) (wr:World):Prop:=
 ∃ (k:Nat) (us qs:List Nat),k<=m/\iv=.int .i64 ((k:Int)-1)/\us.length=N/\da us/\ar (us.drop k)<b/\qs.length=m-k/\da qs/\ar us+4294967296^k*(b*ar qs)=a/\
   wr.ownsRow B 78 1 (.slice (some ⟨ga,0,none⟩) N cap) N (ints .u32 us)/\wr.ownsRow B 78 1 vq m (ints .u32 (List.replicate k 0++qs))/\Rd wr 1 vy n (ints .u32 (limbs b))/\Below B w wr
theorem zm {w:World} {g j:Nat} {u:Value}:w.grownBy (w.setCell ⟨g,j,none⟩ u) (some g):=pN (nS _ _)
theorem Jb {P:Program} {f:FuncId} {args:Array Value} {W w:World} {v:Value} (h:Calls P f args W λe w'=>e=.returned v/\∃ k,w'=W.drewN k) (hW:∃ n,W=w.drewN n):
  Calls P f args W λe w''=>e=.returned v/\∃ m,w''=w.drewN m:=
 h.mono λ_ _ ⟨he,k,hk⟩=>⟨he,by obtain⟨n,hn⟩:=hW;exact⟨n+k,by rw[hk,hn,World.drewN_drewN]⟩⟩
theorem Jc {w w':World} (h:w.grownBy w' none):Below w.heap.size w w':=⟨h.os,h.tape,h.output,h.size,λk hk=>h.block k hk cf⟩
theorem MD {a b N mq lb:Nat} (hN:N=(limbs a).length+1) (hm:N=mq+lb) (IB:(limbs b).length=lb) (hb:b≠0):ar ((limbs a++[0]).drop mq)<b/\ar (limbs a++[0])=a:=by
 have hp:=dY hb;refine⟨?_,by rw[eN,ni,aw];rfl⟩;rw[Ou ae,eN,ni,lz];have h1:=kh ((aC a).drop mq);rw[jN,show (limbs a).length-mq=(limbs b).length-1 by omega] at h1;exact qj h1 (Dv hb)
set_option maxRecDepth 100000 in
theorem xo (va vb:Value) (n m:Nat) (xs ys:List Nat) (w:World) (hr:Rd w 1 va n (ints .u32 xs)) (hs:Rd w 1 vb m (ints .u32 ys)) (hx:da xs) (hy:da ys) (hn:n<=536870912) (hm:m<=536870912):
  Calls Tryz.prog 206 #[va,vb] w λe w'=>Divided w w' (ar xs) (ar ys) e/\Below w.heap.size w w':=by
 obtain⟨p,c,rfl,fV,gj,fv⟩:=hr.u32;obtain⟨q,d,rfl,NY,IJ,iU⟩:=hs.u32;have Hs:=af hs;obtain⟨B,hB⟩:∃ B,B=w.heap.size:=⟨_,aa⟩;have HB:=af hB;obtain⟨a,ha⟩:∃ a,a=ar xs:=⟨_,aa⟩;obtain⟨b,hb⟩:∃ b,b=ar ys:=⟨_,aa⟩;have hal:(limbs a).length<=n:=by rw[ha,<-fv];exact jt hx
 have hbl:(limbs b).length<=m:=by rw[hb,<-iU];exact jt hy
 refine aZ λR' cj=> ?_;go_enter Tryz.func206,Tryz.ntmps206
 go_wp2_with fail
 refine (kB _ n xs _ hr hx ae).mono ?_;rintro e w1 ⟨v1,rfl,gI,bF⟩;rw[<-ha] at gI;go_wp2_with fail
 refine (kB _ m ys _ (hs.below bF) hy ae).mono ?_;rintro e w2 ⟨v2,rfl,mi,cJ⟩;rw[<-hb] at mi;rw[<-ha,<-hb,<-hB] at cj;have tR:Hid (w2.ownsRow B 78 1 v1 (limbs a).length (ints .u32 (limbs a))):=by show World.ownsRow ..;rw[hB];exact Own.below gI cJ
 have qw:Hid (w2.ownsRow B 78 1 v2 (limbs b).length (ints .u32 (limbs b))):=Own.mono mi (by rw[hB];exact bF.size);have xp:Hid (Below B w w2):=by show Below ..;rw[hB];exact Below.aG bF cJ
 have hBs:B<=w2.heap.size:=by rw[hB];exact xp.out.size
 obtain⟨p1,c1,rfl,_,hc1m,_⟩:=Own.form tR.out;obtain⟨p2,c2,rfl,_,hc2m,_⟩:=Own.form qw.out;clear hr hs hx hy gI mi bF cJ fv iU ha hb hB Hs;unfold maxLen at hc1m hc2m;generalize Jd:(limbs a).length=la at*;generalize IB:(limbs b).length=lb at*;have Oc:=af Jd;have Od:=af IB;by_cases rS:b=0
 ·obtain rfl:lb=0:=by rw[rS,cz] at IB;exact IB.symm
  clear Jd IB;go_wp2_with fail
  go_ret3
  exact cj.out _ _ ⟨.inl ⟨rS,aa⟩,xp.out⟩
 ·have hlb0:lb≠0:=λh=>rS (qR (by rw[Od.out];exact h));have hz:((lb:Int) == 0)=false:=by rw[lZ];omega
  have HNZ:=af rS;clear rS Jd IB;go_wp2_with fail
  refine (Dw _ _ la lb (limbs a) (limbs b) _ (Rd.own tR.out) (Rd.own qw.out) (aC a) (aC b)).mono ?_;rintro e w3 ⟨rfl,k3,rfl⟩;rw[aw,aw];by_cases xX:a<b
  ·have hc:im a b<0:=kA.2 xX;generalize im a b=cv at hc ⊢;go_wp2_with fail
   go_ret3
   refine cj.out _ _ ⟨.inr ⟨HNZ.out,_,_,aa,?_,?_⟩,Below.drewN xp.out _⟩
   ·rw[xf xX,cz];exact mc _ _ _ _
   ·rw[tY xX,Oc.out];exact Own.mono (Own.drewN tR.out _) (by have:=HB.out;omega)
  ·have hc:0<=im a b:=by have:=mt (@kA a b).1 xX;omega
   generalize im a b=cv at hc ⊢;have HAB:=af xX;have OP:=af (Own.drewN tR.out k3);have ME:=af (Own.drewN qw.out k3);have Ob:=af (Below.drewN xp.out k3);have Pd:B<=(w2.drewN k3).heap.size:=hBs;clear tR qw xp hBs xX;generalize w2.drewN k3=w3 at*;by_cases hlb1:lb=1
   ·have HL1:=af hlb1;subst hlb1;obtain⟨gb,ob,t,rfl,_,htk,hct⟩:=(Rd.own ME.out).cellAt (k:=0) ae;have ht4:=(aC b).at htk
    have htb:t=b:=by
     have h1:=bA (limbs b) 0;rw[getD_some htk,bS (by rw[Od.out];omega),aw] at h1;simp[ff] at h1;omega
    have HTB:=af htb;rw[lz] at hct;have AX:=kj hct;simp only at AX;clear htk htb hz hlb0;go_wp2_with fail
    refine (uu _ la t (limbs a) _ (Rd.own OP.out) (aC a) ae ht4).mono ?_;rintro e w4 ⟨⟨h,rfl⟩|⟨h,v4,rfl,uB⟩,jJ⟩
    ·exact absurd (by rw[<-HTB.out];exact h) HNZ.out
    rw[aw] at uB ⊢;have HO5:=af (Own.mono uB Pd);have Pe:=af (Ob.out.trans (jJ.mono Pd));have MF:B<=w4.heap.size:=aV Pd jJ.size;have hrt:a%t<4294967296:=Nat.lt_trans (eR _ ae) ht4;obtain⟨r,hr⟩:∃ r,r=a%t:=⟨_,aa⟩;rw[<-hr] at hrt ⊢;have HR:=af hr;clear uB jJ hct AX h hr;go_wp2_with fail
    refine (kB _ 1 [r] _ (Rd.lit1 aa) (da.cons hrt da.nil) ae).mono ?_;rintro e w5 ⟨v5,rfl,zn,IC⟩;have lL:Below w4.heap.size w4 w5:=((fB w4.heap.size w4).alloc (aP _) (.cells #[.int .u32 (r:Int)] 78)).trans (IC.mono cf);rw[show ar [r]=r by simp[gr,ff]] at zn;go_wp2_with fail
    go_ret3
    refine cj.out _ _ ⟨.inr ⟨HNZ.out,_,_,aa,?_,?_⟩,Pe.out.trans (lL.mono MF)⟩
    ·rw[<-HTB.out];exact Own.mono (Own.below HO5.out lL) (by have:=HB.out;omega)
    ·rw[<-HTB.out,<-HR.out];exact Own.mono zn (by have:=HB.out;simp;omega)
   ·obtain⟨mm,Cu⟩:∃ mm,lb=mm+2:=⟨lb-2,ae⟩;have HMM:=af Cu;have gu:((lb:Int) == 1)=false:=by rw[lZ];omega
    obtain⟨l1,yk⟩:∃ l1,lb=l1+1:=⟨lb-1,ae⟩;have HL1:=af yk;have hwl1:IntKind.i64.wrap ((lb:Int)-1)=(l1:Int):=by rw[bQ _ ae];omega
    obtain⟨gb,ob,t,rfl,_,htk,hct⟩:=(Rd.own ME.out).cellAt (k:=l1) ae;have ht4:=(aC b).at htk;have AX:=kj hct;simp only at AX;have htk2:(limbs b)[(limbs b).length-1]? =some t:=by rw[Od.out,HL1.out];exact htk
    have ht0:=(Fu htk2).2;have HTK:=af htk2;have hl1lt:(l1:Int)<(lb:Int):=ae;clear htk htk2 hlb1 Cu yk;go_wp2_with fail
    refine (FF t _ ht4 ht0).mono ?_;rintro e w4 ⟨⟨u,rfl,hu32,htu⟩,rfl⟩;go_wp2_with fail
    refine (vH _ lb b (u:Int) (limbs b) _ (Rd.own ME.out) (aC b) (aw b) ae ae ae).mono ?_;rintro e w4 ⟨⟨_,h,_⟩|⟨_,v4,rfl,uB⟩,jJ⟩
    ·omega
    have es:iH b (u:Int)=b*2^u:=by unfold iH;rw[if_pos ae,bh]
    rw[es] at uB;have Lf:(limbs (b*2^u)).length=lb:=by rw[FR HNZ.out HTK.out hu32 htu];exact Od.out
    have hnz:b*2^u≠0:=Nat.mul_ne_zero HNZ.out (Nat.pos_iff_ne_zero.1 (qN ae));have hle4:b*2^u<=a*2^u:=eQ _ (by have:=HAB.out;omega);have HDV:=af (MB (a:=a) (b:=b) (u:=u));have HMD:=af (MC (a:=a) (b:=b) (u:=u));have hla5:=xn a u hu32;rw[Oc.out] at hla5
    have HES:Hid (iH ((a%b)*2^u) (-(u:Int))=a%b):=by
     show _=_;unfold iH;by_cases h0:u=0
     ·subst h0;simp
     ·rw[if_neg ae,Int.neg_neg,bh,Nat.mul_div_cancel _ (qN ae)]
    have HES2:Hid (iH a (u:Int)=a*2^u):=by show _=_;unfold iH;rw[if_pos ae,bh]
    generalize hb':b*2^u=b' at*;generalize ha':a*2^u=a' at*;rw[Lf] at uB;have hlb5:lb<=(limbs a').length:=by rw[<-Lf];exact dt hle4
    obtain⟨gy,cy,rfl,hgy3,hgy4⟩:=Own.ya uB ae;have HY4:=af uB;have Pe:=af (Ob.out.trans (jJ.mono Pd));have MF:B<=w4.heap.size:=aV Pd jJ.size;have HA4:=af (Own.below OP.out jJ);have FU:=af Lf;clear uB jJ htu ht0 ht4 hct AX Lf hle4 es HTK OP ME;go_wp2_with fail
    refine (vH _ la a (u:Int) (limbs a) _ (Rd.own HA4.out) (aC a) (aw a) ae ae ae).mono ?_;rintro e w5 ⟨⟨_,h,_⟩|⟨_,v5,rfl,zn⟩,lL⟩
    ·omega
    rw[HES2.out] at zn;generalize hl5:(limbs a').length=la' at*;have HL5:=af hl5;have HA5:=af zn;have HY5:=af (Own.below HY4.out lL);have HB5:=af (Pe.out.trans (lL.mono MF));have hs5:=lL.size;have Pf:=af lL;obtain⟨p5,c5,rfl,_,_,_⟩:=Own.form zn;obtain⟨N,hN⟩:∃ N,N=la' +1:=⟨_,aa⟩;have HNN:=af hN;obtain⟨mq,hmq⟩:∃ mq,N=mq+lb:=⟨N-lb,ae⟩;have HMQ:=af hmq;have hmq0:0<mq:=ae;have hwm:IntKind.i64.wrap ((N:Int)-(lb:Int))=(mq:Int):=by rw[bQ _ ae];omega
    obtain⟨i0,hi,jI,gu,jP⟩:=info_parts km;have hN30:N<=1073741824:=ae;have hla30:la'<=1073741824:=ae;have hmq30:mq<=1073741824:=ae;clear zn lL hl5 hmq HA4 hN
    go_wp2_with (first
     | (at_builtin;refine er aa _ _ 23 aa w4.heap.size 78 i0 (.int .u32 0) 4 ma hi jI gu jP aa HA5.out aa aa (d:=0) aa ae ae hs5 ?_;intro v6 w6 Lg Je;rw[<-HNN.out] at Lg;obtain⟨ga,ca,rfl,hga5,hga6⟩:=Own.ya Lg (by have:=HNN.out;omega))
     | (at_make;refine wpList_make_full _ aa _ _ 23 aa B 78 i0 (.int .u32 0) 1 ma hi jI gu .i64 .i64 _ _ mq aa aa (by have:=HMQ.out;omega) (by have:=HMQ.out;omega) (by rw[jP];have:=HMQ.out;omega) (by unfold maxLen;have:=HMQ.out;omega) (by have:=(Je w4 Pf.out).size;omega) ?_;intro w7 hown7 hgr7))
    obtain⟨gq,hgq⟩:∃ gq,gq=w6.heap.size:=⟨_,aa⟩;have Pg:=Je w4 Pf.out;have hb67:=Jc hgr7;have Lh:=Own.made hown7;rw[ng] at Lh;rw[<-hgq] at Lh ⊢;have hne1:ga≠gq:=ae;have hne2:gy≠ga:=ae;have hne3:gy≠gq:=by have:=Pg.size;omega
    have HA7:Hid (w7.ownsRow B 78 1 (.slice (some ⟨ga,0,none⟩) N ca) N (ints .u32 (limbs a'++[0]))):=Own.mono (Own.below Lg hb67) MF;have HQ7:=af Lh;have HY7:Hid (Rd w7 1 (.slice (some ⟨gy,0,none⟩) lb cy) lb (ints .u32 (limbs b'))):=(Rd.own (Own.below HY4.out Pg)).below hb67;have HB7:Hid (Below B w w7):=(Pe.out.trans (Pg.mono MF)).trans (hb67.mono (aV MF Pg.size));have HST:=af (MD (N:=N) (mq:=mq) (lb:=lb) (a:=a') (b:=b') (by rw[HL5.out];exact HNN.out) HMQ.out FU.out hnz);clear Lg hown7 hgr7 Je Pg hb67 Lh hgq HA5 HY5 HY4 HB5 Pe Pf hi jI gu jP;go_loopw [12] (λiv wr=>Pc w B N ca lb mq b' a' ga (.slice (some ⟨gy,0,none⟩) lb cy) (.slice (some ⟨gq,0,none⟩) mq mq) iv wr) (λiv _=>(intOf iv+1).toNat)
    case atStart=>exact⟨mq,_,[],aP _,aa,by rw[bg,HL5.out,HNN.out];rfl,(aC a').append (da.cons ae da.nil),HST.out.1,cf,da.nil,by rw[HST.out.2];simp[ff],HA7.out,by simpa using HQ7.out,HY7.out,HB7.out⟩
    case round=>
     obtain⟨k,us,qs,IL,rfl,Jf,hulim,Fy,hql,hqlim,hval,hoa,FV,hry,lM⟩:=hrel;have HUL:=af Jf;have zo:=af hulim;have HDROP:=af Fy;have HQL:=af hql;have HQLIM:=af hqlim;have HVAL:=af hval;have HOA:=af hoa;have HOQ:=af FV;have HRY:=af hry;have iV:=af lM;clear Jf hulim Fy hql hqlim hval hoa FV hry lM;by_cases Cq:k=0
     ·subst Cq;have hv:=HVAL.out;have hd:=HDROP.out;rw[Fo] at hd;rw[Nat.pow_zero,xj] at hv
      have hq1:ar qs=a/b:=by
       rw[<-HDV.out,<-hv,Nat.add_mul_div_left _ _ ae,xf hd,fe]
      have yV:ar us=(a%b)*2^u:=by
       rw[<-HMD.out,<-hv,Nat.add_mul_mod_self_left,tY hd]
      have HQ1:=af hq1;have HR1:=af yV;have hBr:B<=w.heap.size:=by have:=HB.out;omega
      have hBw:=iV.out.size;clear hv hd hq1 yV;go_wp2_with fail
      refine (vH _ N ((a%b)*2^u) (-(u:Int)) us _ (Rd.own HOA.out) zo.out HR1.out ae ae ae).mono ?_;rintro e w8 ⟨⟨_,h,_⟩|⟨_,v8,rfl,Cv⟩,hb8⟩
      ·omega
      rw[HES.out] at Cv;have HO8:=af (Own.mono Cv (aV hBr hBw));have HB8:=af (iV.out.trans (hb8.mono (aV hBr hBw)));have hq8:=Own.below HOQ.out hb8;rw[List.replicate_zero,ng] at hq8;have HQ8:=af hq8;have hs8:=hb8.size;clear Cv hb8 hq8;go_wp2_with fail
      refine (kB _ mq qs _ (Rd.own HQ8.out) HQLIM.out ae).mono ?_;rintro e w9 ⟨v9,rfl,hown9,hb9⟩;rw[HQ1.out] at hown9;go_wp2_with fail
      go_ret3
      refine cj.out _ _ ⟨.inr ⟨HNZ.out,_,_,aa,?_,?_⟩,HB8.out.trans (hb9.mono ae)⟩
      ·exact Own.mono hown9 ae
      ·exact Own.mono (Own.below HO8.out hb9) (by have:=HB.out;omega)
     ·obtain⟨i,hi⟩:∃ i,k=i+1:=⟨k-1,ae⟩;subst hi;have hjj:((i+1:Nat):Int)-1=(i:Int):=ae;rw[hjj];have hmq:=HMQ.out;have Cu:=HMM.out;have yk:=HL1.out;obtain⟨hi,h1⟩:∃ hi,us[i+(mm+2)]? =some hi:=⟨_,aH (by rw[HUL.out];omega)⟩;obtain⟨mid,h2⟩:∃ mid,us[i+(mm+1)]? =some mid:=⟨_,aH (by rw[HUL.out];omega)⟩;obtain⟨low,h3⟩:∃ low,us[i+mm]? =some low:=⟨_,aH (by rw[HUL.out];omega)⟩;obtain⟨v1,h4⟩:∃ v1,(limbs b')[mm+1]? =some v1:=⟨_,aH (by rw[FU.out];omega)⟩;obtain⟨v2,h5⟩:∃ v2,(limbs b')[mm]? =some v2:=⟨_,aH (by rw[FU.out];omega)⟩;have IA:0<v1:=Nat.pos_iff_ne_zero.2 (Fu (n:=b') (t:=v1) (by rw[FU.out,show lb-1=mm+1 by omega];exact h4)).2;have hwin:=MA (m:=mm) HUL.out ae zo.out (aC b') (by rw[FU.out];exact Cu) (aw b') HDROP.out h1 h2 h3 h4 h5 IA;have DJ:=af hwin;have hhi:=hwin.hi_le;have z1:=zo.out.at h1;have z2:=zo.out.at h2;have z3:=zo.out.at h3;have z4:=(aC b').at h4;have z5:=(aC b').at h5;obtain⟨x1,e1,c1',f1⟩:=Own.iR HOA.out (j:=i+(mm+2)) ae;obtain⟨x2,e2,c2',f2⟩:=Own.iR HOA.out (j:=i+(mm+1)) ae;obtain⟨x3,e3,c3',f3⟩:=Own.iR HOA.out (j:=i+mm) ae;rw[h1] at e1;rw[h2] at e2;rw[h3] at e3;obtain rfl:=lx e1;obtain rfl:=lx e2;obtain rfl:=lx e3;obtain⟨g4,o4,x4,hp4,vA,e4,c4'⟩:=HRY.out.cellAt (k:=mm+1) ae;obtain⟨g5,o5,x5,hp5,hg5,e5,c5'⟩:=HRY.out.cellAt (k:=mm) ae;simp only[Option.some.injEq,Addr.mk.injEq,and_true] at hp4 hp5;obtain⟨rfl,rfl⟩:=hp4;obtain⟨rfl,hz5⟩:=hp5;subst hz5;rw[h4] at e4;rw[h5] at e5;obtain rfl:=lx e4;obtain rfl:=lx e5;rw[fe] at c4' c5';obtain⟨J0,hJ0⟩:∃ J0,J0=i+(mm+2):=⟨_,aa⟩;obtain⟨J1,hJ1⟩:∃ J1,J1=i+(mm+1):=⟨_,aa⟩;obtain⟨J2,hJ2⟩:∃ J2,J2=i+mm:=⟨_,aa⟩;rw[<-hJ0] at c1' f1;rw[<-hJ1] at c2' f2;rw[<-hJ2] at c3' f3;rw[show mm+1=l1 by omega] at c4';obtain⟨J3,hJ3⟩:∃ J3,J3=J0+1:=⟨_,aa⟩;have hw0:IntKind.i64.wrap ((i:Int)+(lb:Int))=(J0:Int):=by rw[bQ _ ae];omega
      have yj:IntKind.i64.wrap ((J0:Int)-1)=(J1:Int):=by rw[bQ _ ae];omega
      have hw2:IntKind.i64.wrap ((J0:Int)-2)=(J2:Int):=by rw[bQ _ ae];omega
      have hw4:IntKind.i64.wrap ((lb:Int)-2)=(mm:Int):=by rw[bQ _ ae];omega
      have hw5:IntKind.i64.wrap ((J0:Int)+1)=(J3:Int):=by rw[bQ _ ae];omega
      have b0:(J0:Int)<(N:Int):=ae;have b1:(J1:Int)<(N:Int):=ae;have b2:(J2:Int)<(N:Int):=ae;have b3:(l1:Int)<(lb:Int):=ae;have b4:(mm:Int)<(lb:Int):=ae;have t1:=kj c1';have t4:=kj c4';simp only at t1 t4;have HJ0:=af hJ0;have HJ3:=af hJ3;have IV:i<mq:=ae
      have HCAP:Hid (N<=ca/\ca<=9223372036854775807):=by
       obtain⟨_,_,hv,Jg,hcapm,_⟩:=Own.form HOA.out;simp only[Value.slice.injEq,true_and] at hv;obtain⟨_,rfl⟩:=hv;unfold maxLen at hcapm;exact⟨Jg,ae⟩
      clear e1 e2 e3 e4 e5 h1 h2 h3 h4 h5 hwin hJ0 hJ1 hJ2 hJ3 hmq Cu yk vA hg5;go_wp2_with fail
      go_quiet ((go_at_call 274;exact Jb (My hi mid low v1 v2 _ hhi z2 z3 IA z4 z5) ⟨_,aa⟩))
      have Jg:=HCAP.out;have b5:(J3:Int)<=(ca:Int):=by have:=HJ3.out;omega
      have b6:(i:Int)<=(J3:Int):=by have:=HJ3.out;have:=HJ0.out;omega
      have b7:(i:Int)<(ca:Int):=by have:=HJ3.out;have:=HJ0.out;omega
      have b8:¬ ca-i=0:=ae;have b9:ca≠i:=ae;clear c1' c2' c3' c4' c5' f1 f2 f3 yj hw2 hw4 b1 b2 b3 b4;go_wp2_with fail
      obtain⟨G,hG⟩:∃ G,G=jb ((hi*4294967296+mid)*4294967296+low) (v1*4294967296+v2):=⟨_,aa⟩;have FX:=DJ.out.near;rw[<-hG] at FX ⊢;have hG4:G<=4294967295:=by rw[hG];exact Nat.min_le_left _ _
      have hoa:=Own.drewN HOA.out nq;rw[DJ.out.split] at hoa;have hJ:J3-i=mm+3:=by have:=HJ3.out;have:=HJ0.out;omega
      refine (OZ ga N ca i (J3-i) (ca-i) lb G B (us.take i) _ _ (limbs b') _ _ hoa DJ.out.pre (by rw[DJ.out.len,hJ]) DJ.out.lim (Rd.drewN HRY.out nq) (aC b') (λp c a h1 h2=>by cases h1;cases h2;exact hne2) (by rw[hJ,HMM.out]) (by have:=HJ3.out;omega) ae ae (by rw[aw];exact FQ FX.2)).mono ?_;rintro e w8 ⟨q',rfl,A',hA'l,Ph,hA'v,hq',Cv,hg8⟩;rw[aw] at hA'v hq';have yS:0<b':=ae;obtain⟨hqd,Pb⟩:=IZ yS FX.1 FX.2 hA'v hq';have hq4:q' <4294967296:=by rcases hq' with ⟨_,h⟩|⟨_,h⟩ <;> omega
      have hst:=Ja DJ.out.split DJ.out.pre DJ.out.zero hA'v Pb HVAL.out;have hq8:=(Own.drewN HOQ.out nq).kept hg8 (.inr (by simp[Value.ownBlock];omega));have hry8:=(Rd.drewN HRY.out nq).ux hg8 (λp c a h1 h2=>by cases h1;cases h2;exact hne2);have hbw8:Below B w w8:=(Below.drewN iV.out nq).grown hg8 (aV (by have:=HB.out;omega) iV.out.size) (λk hk=>by cases hk;exact (Own.lt HOA.out).1);obtain⟨x8,hx8,hc8,hf8⟩:=Own.iR hq8 (j:=i) IV;have hl8:=kj hc8;simp only at hl8
      have hus':(us.take i++(A'++us.drop (i+(mm+3)))).length=N:=by
       have h1:=au List.length DJ.out.split;rw[HUL.out] at h1;simp only[List.length_append] at h1 ⊢;omega
      have FH:da (us.take i++(A'++us.drop (i+(mm+3)))):=(zo.out.take _).append (Ph.append (zo.out.drop _));have hq9:=Own.iq (j:=i) (x:=q') hq8;rw[DI] at hq9
      have HREL:Hid (Pc w B N ca lb mq b' a' ga (.slice (some ⟨gy,0,none⟩) lb cy) (.slice (some ⟨gq,0,none⟩) mq mq) (.int .i64 ((i:Int)-1)) (w8.setCell ⟨gq,i,none⟩ (.int .u32 (q':Int)))):=
       ⟨i,_,q'::qs,ae,rfl,hus',FH,hst.1,by rw[tX,HQL.out];omega,da.cons hq4 HQLIM.out,hst.2,Cv.kept zm (.inr (by simp[Value.ownBlock];omega)),hq9,hry8.ux zm (λp c a h1 h2=>by cases h1;cases h2;exact hne3),hbw8.setCell (p:=⟨gq,i,none⟩) (Own.lt hq8).1 _⟩
      clear hA'l Ph hA'v hq' Cv hg8 hqd Pb hst hq8 hry8 hbw8 hx8 hus' FH hq9 hoa FX hG hJ;go_wp2_with fail
      go_roundw
      case rel=>exact HREL.out
      case measure=>simp[intOf]
end
end Go.Proofs.YtlifeokjcgngjaaGreat
