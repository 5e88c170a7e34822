/-Ek of the proof,laid behind one another. -/
import Derived.Lib.Hide
import Derived.WalkKit
import Derived.WalkSpells
import Derived.WalkLawsBesides
import Derived.Outline
import Derived.Test.YtlfdmhfhkgpmbaaGreatRows
import Derived.Deep.QuietTactic
import Derived.BigQuiet
import Derived.Lib.SliceRun
import Derived.Lib.AppendZeros
import Derived.RegionCalls
import Derived.Deep.RegionWith
import Derived.Lib.BitFns
import Derived.WalkMore
import Derived.RangeFuncBox
import Derived.Orders
import Derived.Deep.MidRow
import Derived.Laws.MakeOwn
import Derived.RegionTactic
import Derived.Laws.Slices
import Derived.Deep.LoopGhost
import Derived.Scope
import Derived.Deep.AppendSrc
import Derived.Laws.AppendOwn
import Derived.MapKept
import Derived.Deep.RegionHeld3
import Derived.Deep.RegionLaw
import Derived.Deep.DeepCutAuto
import Derived.BigRegion
import Derived.OpenShut
import Derived.WideShapes
import Derived.ChangeArms
import Derived.ChangeSlices
import Derived.Lib.VarintBits
import Derived.RangeFuncNested
import Derived.RangeFuncLeaves
import Derived.OrdersIn
import Derived.TacticsIn
set_option linter.all false
set_option maxHeartbeats 64000000
namespace Go.Proofs.YtlfdmhfhkgpmbaaGreat
section
def val (B:Nat):List Nat->Nat
 | []=>0
 | x::xs=>x+B*val B xs
def dp (B:Nat) (xs:List Nat):Prop:=∀ x∈xs,x<B
theorem aa {P:Prop} (h:P:=by omega):P:=h
def fR (B:Nat) (n:Nat):List Nat:=
 if _h:n=0\/B<2 then [] else n%B::fR B (n/B)
termination_by n
decreasing_by
 have:n≠0/\2<=B:=by omega
 exact Nat.div_lt_self aa aa
theorem val_nil (B:Nat):val B []=0:=rfl
theorem fp (B x:Nat) (xs:List Nat):val B (x::xs)=x+B*val B xs:=rfl
theorem dh (B:Nat):fR B 0=[]:=by rw[fR];simp
theorem fS {B n:Nat} (hB:2<=B) (hn:n≠0):fR B n=n%B::fR B (n/B):=by
 rw[fR,dif_neg aa]
theorem dp.nil (B:Nat):dp B []:=λ_ h=>by cases h
theorem dp.cons {B x:Nat} {xs:List Nat} (hx:x<B) (h:dp B xs):dp B (x::xs):=by
 intro y hy;cases hy with
 | head=>exact hx
 | tail _ h'=>exact h y h'
theorem dp.head {B x:Nat} {xs:List Nat} (h:dp B (x::xs)):x<B:=h x (List.mem_cons_self ..)
theorem dp.tail {B x:Nat} {xs:List Nat} (h:dp B (x::xs)):dp B xs:=λy hy=>h y (List.mem_cons_of_mem _ hy)
theorem dp.take {B:Nat} {xs:List Nat} (h:dp B xs) (k:Nat):dp B (xs.take k):=λy hy=>h y (List.mem_of_mem_take hy)
theorem dp.drop {B:Nat} {xs:List Nat} (h:dp B xs) (k:Nat):dp B (xs.drop k):=λy hy=>h y (List.mem_of_mem_drop hy)
theorem dp.append {B:Nat} {xs ys:List Nat} (h:dp B xs) (h':dp B ys):dp B (xs++ys):=by
 intro y hy;rcases List.mem_append.1 hy with hy|hy
 ·exact h y hy
 ·exact h' y hy
theorem dp.at {B:Nat} {xs:List Nat} (h:dp B xs) {k x:Nat} (hk:xs[k]? =some x):x<B:=h x (List.mem_of_getElem? hk)
theorem dp.replicate {B:Nat} (hB:0<B) (k:Nat):dp B (List.replicate k 0):=λy hy=>by
 rw[List.mem_replicate] at hy;omega
theorem mw {B:Nat} (hB:2<=B):∀ n,dp B (fR B n):=by
 intro n
 induction n using Nat.strongRecOn with
 | _ n ih=>
   by_cases hn:n=0
   ·subst hn;rw[dh];exact dp.nil B
   ·rw[fS hB hn]
    exact dp.cons (Nat.mod_lt _ aa) (ih _ (Nat.div_lt_self aa aa))
theorem jc {B:Nat} (hB:2<=B):∀ n,val B (fR B n)=n:=by
 intro n
 induction n using Nat.strongRecOn with
 | _ n ih=>
   by_cases hn:n=0
   ·subst hn;rw[dh];rfl
   ·rw[fS hB hn,fp,ih _ (Nat.div_lt_self aa aa)]
    exact Nat.mod_add_div n B
theorem my {B:Nat}:∀ {xs:List Nat},dp B xs->val B xs<B^xs.length:=by
 intro xs
 induction xs with
 | nil=>intro _;simp[val]
 | cons x xs ih=>
   intro h
   have h1:=ih h.tail
   have hx:=h.head
   rw[fp,List.length_cons,Nat.pow_succ,Nat.mul_comm (B^xs.length) B]
   calc x+B*val B xs<B+B*val B xs:=by omega
    _=B*(val B xs+1):=by rw[Nat.mul_add];omega
    _<=B*B^xs.length:=Nat.mul_le_mul_left _ h1
theorem gJ (B:Nat):∀ (xs ys:List Nat),val B (xs++ys)=val B xs+B^xs.length*val B ys:=by
 intro xs ys
 induction xs with
 | nil=>simp[val]
 | cons x xs ih=>
   rw[List.cons_append,fp,ih,fp,List.length_cons,Nat.pow_succ,Nat.mul_add,Nat.add_assoc]
   congr 2
   rw[<-Nat.mul_assoc,Nat.mul_comm B (B^xs.length)]
theorem kx (B:Nat) (xs:List Nat) (x:Nat):val B (xs++[x])=val B xs+B^xs.length*x:=by
 rw[gJ];simp[val]
theorem fy (B k:Nat):val B (List.replicate k 0)=0:=by
 induction k with
 | zero=>rfl
 | succ k ih=>rw[List.replicate_succ,fp,ih];simp
theorem cS {P:Prop} (h:P:=by simp):P:=h
theorem tX {B:Nat} (hB:2<=B):∀ {xs:List Nat},dp B xs->(∀ x,xs.getLast? =some x->x≠0)->fR B (val B xs)=xs:=by
 intro xs
 induction xs with
 | nil=>intro _ _;exact dh B
 | cons x xs ih=>
   intro hd hl
   have hx:=hd.head
   have hne:val B (x::xs)≠0:=by
    intro h0
    rw[fp] at h0
    have nQ:x=0:=by omega
    cases xs with
    | nil=>exact hl x cS nQ
    | cons y ys=>
      have hv:val B (y::ys)=0:=by
       have:B*val B (y::ys)=0:=by omega
       rcases Nat.mul_eq_zero.1 this with h|h
       ·omega
       ·exact h
      have:=ih hd.tail (λz hz=>hl z (by rw[List.getLast?_cons_cons];exact hz))
      rw[hv,dh] at this
      cases this
   rw[fS hB hne,fp]
   have h1:(x+B*val B xs)%B=x:=by rw[Nat.add_mul_mod_self_left];exact Nat.mod_eq_of_lt hx
   have h2:(x+B*val B xs)/B=val B xs:=by
    rw[Nat.add_mul_div_left _ _ aa,Nat.div_eq_of_lt hx];omega
   rw[h1,h2]
   congr 1
   cases xs with
   | nil=>exact dh B
   | cons y ys=>exact ih hd.tail (λz hz=>hl z (by rw[List.getLast?_cons_cons];exact hz))
theorem Fu {B:Nat} (hB:2<=B):∀ n x,(fR B n).getLast? =some x->x≠0:=by
 intro n
 induction n using Nat.strongRecOn with
 | _ n ih=>
   intro x hx
   by_cases hn:n=0
   ·subst hn;rw[dh] at hx;cases hx
   ·rw[fS hB hn] at hx
    by_cases h2:n/B=0
    ·rw[h2,dh] at hx
     simp at hx
     have:n<B:=by
      rcases Nat.lt_or_ge n B with h|h
      ·exact h
      ·have:=Nat.div_pos h (by omega:0<B);omega
     rw[Nat.mod_eq_of_lt this] at hx
     omega
    ·rw[fS hB h2,List.getLast?_cons_cons,<-fS hB h2] at hx
     exact ih _ (Nat.div_lt_self aa aa) x hx
theorem tY {B:Nat} (hB:2<=B) {m n:Nat} (h:fR B m=fR B n):m=n:=by
 have:=congrArg (val B) h
 rwa [jc hB,jc hB] at this
theorem dR {B:Nat} (hB:2<=B):∀ (k n:Nat),n<B^k->(fR B n).length<=k:=by
 intro k
 induction k with
 | zero=>intro n h;have:n=0:=by simpa using h
         subst this;rw[dh];simp
 | succ k ih=>
   intro n h
   by_cases hn:n=0
   ·subst hn;rw[dh];simp
   ·rw[fS hB hn,List.length_cons]
    have:n/B<B^k:=by
     rw[Nat.div_lt_iff_lt_mul aa]
     rwa [Nat.pow_succ] at h
    have:=ih _ this
    omega
theorem tZ {B:Nat} (hB:2<=B) {k n:Nat} (h:B^k<=n):k<(fR B n).length:=by
 rcases Nat.lt_or_ge k (fR B n).length with h' |h'
 ·exact h'
 ·have h1:=my (mw hB n)
  rw[jc hB] at h1
  have:=Nat.pow_le_pow_right (show 0<B by omega) h'
  omega
theorem cN {B:Nat} (hB:2<=B) {m n:Nat} (h:m<=n):(fR B m).length<=(fR B n).length:=by
 apply dR hB
 have h1:=my (mw hB n)
 rw[jc hB] at h1
 omega
theorem xV {B:Nat} (hB:2<=B) {xs:List Nat} (h:dp B xs):(fR B (val B xs)).length<=xs.length:=
 dR hB _ _ (my h)
theorem zm {B:Nat} (hB:2<=B) (n:Nat):n<B^(fR B n).length:=by
 have h1:=my (mw hB n)
 rwa [jc hB] at h1
theorem rS {B:Nat} (hB:2<=B) {n:Nat} (hn:n≠0):B^((fR B n).length-1)<=n:=by
 rcases Nat.lt_or_ge n (B^((fR B n).length-1)) with h|h
 ·have h1:=dR hB _ _ h
  have h2:0<(fR B n).length:=by rw[fS hB hn];simp
  omega
 ·exact h
theorem xW {B:Nat} (hB:2<=B) {n:Nat}:fR B n=[]↔n=0:=by
 constructor
 ·intro h;exact tY hB (h.trans (dh B).symm)
 ·rintro rfl;exact dh B
theorem me {B:Nat} (hB:2<=B) {n:Nat} (hn:n≠0):0<(fR B n).length:=by
 rw[fS hB hn];simp
theorem gV (B:Nat) (xs:List Nat) (k:Nat) (hk:k<=xs.length):val B xs=val B (xs.take k)+B^k*val B (xs.drop k):=by
 conv=>lhs;rw[<-List.take_append_drop k xs]
 rw[gJ,List.length_take,Nat.min_eq_left hk]
theorem bb {α:Type} {xs:List α} {k:Nat} {x:α} (h:xs[k]? =some x):xs.take (k+1)=xs.take k++[x]:=by
 rw[List.take_add_one,h];rfl
theorem jC {B:Nat} {xs:List Nat} {k:Nat} (hk:xs[k]? =some 0):val B (xs.take (k+1))=val B (xs.take k):=by
 rw[bb hk,kx];simp
theorem iQ {B:Nat} (hB:2<=B) {xs:List Nat} (hd:dp B xs) {m:Nat} (hm:m<=xs.length) (hv:val B (xs.take m)=val B xs) (hl:m=0\/∃ x,xs[m-1]? =some x/\x≠0):
  fR B (val B xs)=xs.take m:=by
 rw[<-hv]
 apply tX hB (hd.take m)
 intro x hx
 rcases hl with rfl|⟨y,hy,Fv⟩
 ·simp at hx
 ·rw[List.getLast?_eq_getElem?,List.length_take,Nat.min_eq_left hm,List.getElem?_take] at hx
  split at hx
  ·rw[hy] at hx;cases hx;exact Fv
  ·cases hx
theorem jd {B:Nat} {xs ys:List Nat} (hx:dp B xs) {k a b:Nat} (ha:xs[k]? =some a) (hb:ys[k]? =some b) (tf:a<b)
  (hh:xs.drop (k+1)=ys.drop (k+1)):val B xs<val B ys:=by
 have qK:k<xs.length:=(List.getElem?_eq_some_iff.1 ha).1
 have mz:k<ys.length:=(List.getElem?_eq_some_iff.1 hb).1
 rw[gV B xs (k+1) aa,gV B ys (k+1) aa,hh,bb ha,bb hb,kx,kx]
 have h1:=my (hx.take k)
 rw[List.length_take,Nat.min_eq_left aa] at h1 ⊢
 rw[List.length_take,Nat.min_eq_left aa]
 have h2:B^k*a+B^k<=B^k*b:=by
  calc B^k*a+B^k=B^k*(a+1):=by rw[Nat.mul_add];omega
   _<=B^k*b:=Nat.mul_le_mul_left _ tf
 omega
def af (xs:List Nat):Nat:=val 4294967296 xs
def limbs (n:Nat):List Nat:=fR 4294967296 n
def bI (xs:List Nat):Prop:=dp 4294967296 xs
theorem bI.nil:bI []:=dp.nil _
theorem bI.cons {x:Nat} {xs:List Nat} (hx:x<4294967296) (h:bI xs):bI (x::xs):=dp.cons hx h
theorem bI.take {xs:List Nat} (h:bI xs) (k:Nat):bI (xs.take k):=dp.take h k
theorem bI.drop {xs:List Nat} (h:bI xs) (k:Nat):bI (xs.drop k):=dp.drop h k
theorem bI.append {xs ys:List Nat} (h:bI xs) (h':bI ys):bI (xs++ys):=dp.append h h'
theorem bI.at {xs:List Nat} (h:bI xs) {k x:Nat} (hk:xs[k]? =some x):x<4294967296:=dp.at h hk
theorem ai (n:Nat):bI (limbs n):=mw aa n
theorem ag (n:Nat):af (limbs n)=n:=jc aa n
theorem bc:limbs 0=[]:=dh _
theorem da:af []=0:=rfl
theorem dS (x:Nat) (xs:List Nat):af (x::xs)=x+4294967296*af xs:=rfl
theorem cT (xs:List Nat) (x:Nat):af (xs++[x])=af xs+4294967296^xs.length*x:=kx _ xs x
theorem dx (xs ys:List Nat):af (xs++ys)=af xs+4294967296^xs.length*af ys:=gJ _ xs ys
theorem fv {xs:List Nat} (h:bI xs):af xs<4294967296^xs.length:=my h
theorem fT {xs:List Nat} (h:bI xs):(limbs (af xs)).length<=xs.length:=xV aa h
theorem iz (k n:Nat) (h:n<4294967296^k):(limbs n).length<=k:=dR aa k n h
theorem sR {k n:Nat} (h:4294967296^k<=n):k<(limbs n).length:=tZ aa h
theorem ll (n:Nat):n<4294967296^(limbs n).length:=zm aa n
theorem xX {n:Nat} (hn:n≠0):4294967296^((limbs n).length-1)<=n:=rS aa hn
theorem cd {m n:Nat} (h:m<=n):(limbs m).length<=(limbs n).length:=cN aa h
theorem Fw {m n:Nat} (h:limbs m=limbs n):m=n:=tY aa h
theorem jX {n:Nat}:limbs n=[]↔n=0:=xW aa
theorem cO {n:Nat} (hn:n≠0):0<(limbs n).length:=me aa hn
theorem mH {n:Nat} (h:(limbs n).length=0):n=0:=jX.1 (List.eq_nil_of_length_eq_zero h)
theorem ln {xs:List Nat} (h:bI xs) (hl:∀ x,xs.getLast? =some x->x≠0):limbs (af xs)=xs:=tX aa h hl
theorem ou (n x:Nat) (h:(limbs n).getLast? =some x):x≠0:=Fu aa n x h
def eT (a b:Nat):Int:=if a<b then-1 else if b<a then 1 else 0
theorem jD {a b:Nat} (h:a<b):eT a b= -1:=by simp[eT,h]
theorem jE {a b:Nat} (h:b<a):eT a b=1:=by simp[eT,h];omega
theorem pI (a:Nat):eT a a=0:=by simp[eT]
theorem gZ {a b:Nat}:(eT a b<0)↔a<b:=by unfold eT;split <;> (try split) <;> omega
theorem aL (xs:List Nat) (k:Nat):af (xs.take (k+1))=af (xs.take k)+4294967296^k*xs.getD k 0:=by
 by_cases h:k<xs.length
 ·rw[bb (List.getElem?_eq_getElem h),cT,List.length_take,Nat.min_eq_left aa]
  simp[List.getD,h]
 ·rw[List.take_of_length_le aa,List.take_of_length_le aa]
  simp[List.getD,List.getElem?_eq_none (by omega:xs.length<=k)]
theorem aU {xs:List Nat} {k:Nat} (h:xs.length<=k):af (xs.take k)=af xs:=by rw[List.take_of_length_le h]
theorem zn (p s x y c X Y D:Nat) (h:D+p*c=X+Y) (hs:s=x+y+c):
  D+p*(s%4294967296)+p*4294967296*(s/4294967296)=(X+p*x)+(Y+p*y):=by
 subst hs
 have h2:p*((x+y+c)%4294967296)+p*4294967296*((x+y+c)/4294967296)=p*(x+y+c):=by
  rw[Nat.mul_assoc,<-Nat.mul_add,Nat.mod_add_div]
 rw[Nat.mul_add,Nat.mul_add] at h2
 omega
theorem Iu (p x m c X D:Nat) (h:D+p*c=X*m):
  D+p*((x*m+c)%4294967296)+p*4294967296*((x*m+c)/4294967296)=(X+p*x)*m:=by
 have h2:p*((x*m+c)%4294967296)+p*4294967296*((x*m+c)/4294967296)=p*(x*m+c):=by
  rw[Nat.mul_assoc,<-Nat.mul_add,Nat.mod_add_div]
 rw[Nat.mul_add] at h2
 rw[Nat.add_mul,Nat.mul_assoc p x m]
 omega
def fJ (n:Nat):Nat:=if n=0 then 0 else Nat.log2 n+1
theorem Fx:fJ 0=0:=rfl
theorem tg (n:Nat):n<2^fJ n:=by
 unfold fJ
 split
 ·omega
 ·exact Nat.lt_log2_self
theorem th {n:Nat} (h:n≠0):2^(fJ n-1)<=n:=by
 unfold fJ
 rw[if_neg h]
 exact Nat.log2_self_le h
theorem pJ {n:Nat} (h:n≠0):0<fJ n:=by unfold fJ;rw[if_neg h];omega
theorem El {n b:Nat} (h:n<2^b) (h':b=0\/2^(b-1)<=n):fJ n=b:=by
 by_cases h0:n=0
 ·subst h0
  rcases h' with rfl|h'
  ·rfl
  ·have:=Nat.pow_pos (n:=b-1) (show 0<2 by omega);omega
 ·have h1:=tg n
  have h2:=th h0
  have h3:=pJ h0
  rcases Nat.lt_trichotomy (fJ n) b with hl|he|hg
  ·rcases h' with rfl|h'
   ·omega
   ·have:=Nat.pow_le_pow_right (show 0<2 by omega) (show fJ n<=b-1 by omega)
    omega
  ·exact he
  ·have:=Nat.pow_le_pow_right (show 0<2 by omega) (show b<=fJ n-1 by omega)
   omega
theorem od {n k:Nat} (h:n<2^k):fJ n<=k:=by
 by_cases h0:n=0
 ·subst h0;rw[Fx];omega
 ·have h1:=th h0
  rcases Nat.lt_or_ge k (fJ n) with hl|hg
  ·have:=Nat.pow_le_pow_right (show 0<2 by omega) (show k<=fJ n-1 by omega)
   omega
  ·exact hg
theorem zp (k:Nat):4294967296^k=2^(32*k):=by rw[Nat.pow_mul]
theorem zt {n t:Nat} (hl:(limbs n)[(limbs n).length-1]? =some t):fJ n=32*((limbs n).length-1)+fJ t/\t≠0:=by
 have hlast:(limbs n).getLast? =some t:=by rw[List.getLast?_eq_getElem?];exact hl
 have ht:=ou n t hlast
 have qO:0<(limbs n).length:=by
  rcases Nat.eq_zero_or_pos (limbs n).length with h|h
  ·rw[List.eq_nil_of_length_eq_zero h] at hl;cases hl
  ·exact h
 refine⟨?_,ht⟩
 have e:limbs n=(limbs n).take ((limbs n).length-1)++[t]:=by
  have:=bb hl
  rw[show (limbs n).length-1+1=(limbs n).length by omega,List.take_length] at this
  exact this
 have hv:n=af ((limbs n).take ((limbs n).length-1))+4294967296^((limbs n).length-1)*t:=by
  have h1:=congrArg af e
  rw[ag,cT,List.length_take,Nat.min_eq_left aa] at h1
  exact h1
 have HQ:=fv ((ai n).take ((limbs n).length-1))
 rw[List.length_take,Nat.min_eq_left aa] at HQ
 generalize af ((limbs n).take ((limbs n).length-1))=lo at hv HQ
 generalize (limbs n).length-1=m at hv HQ
 have h1:=tg t
 have h2:=th ht
 have h3:=pJ ht
 rw[zp] at hv HQ
 apply El
 ·rw[hv,Nat.pow_add]
  calc lo+2^(32*m)*t<2^(32*m)+2^(32*m)*t:=by omega
   _=2^(32*m)*(t+1):=by rw[Nat.mul_add];omega
   _<=2^(32*m)*2^fJ t:=Nat.mul_le_mul_left _ h1
 ·right
  rw[hv,show 32*m+fJ t-1=32*m+(fJ t-1) by omega,Nat.pow_add]
  have:=Nat.mul_le_mul_left (2^(32*m)) h2
  omega
theorem zu {x:Nat} (k:Nat) (hx:x≠0):List.replicate k 0++limbs x=limbs (x*4294967296^k):=by
 have h:af (List.replicate k 0++limbs x)=x*4294967296^k:=by
  rw[dx,ag,show af (List.replicate k 0)=0 from fy _ k,List.length_replicate,Nat.mul_comm];omega
 rw[<-h]
 symm
 apply ln
 ·exact bI.append (dp.replicate aa k) (ai x)
 ·intro y hy
  rw[List.getLast?_append] at hy
  have hne:limbs x≠[]:=λh=>hx (jX.1 h)
  cases hl:(limbs x).getLast? with
  | none=>rw[List.getLast?_eq_none_iff] at hl;exact absurd hl hne
  | some z=>rw[hl] at hy;simp at hy;subst hy;exact ou x z hl
theorem sS (x k:Nat) (hk:k<=(limbs x).length):af ((limbs x).drop k)=x/4294967296^k:=by
 have h:=gV 4294967296 (limbs x) k hk
 have h1:val 4294967296 (limbs x)=x:=ag x
 have h2:=fv ((ai x).take k)
 rw[List.length_take,Nat.min_eq_left hk] at h2
 rw[h1] at h
 show val 4294967296 _=_
 have h3:val 4294967296 ((limbs x).take k)<4294967296^k:=h2
 generalize val 4294967296 ((limbs x).take k)=lo at h h3
 generalize val 4294967296 ((limbs x).drop k)=hi at h ⊢
 rw[h,Nat.add_mul_div_left _ _ (Nat.pow_pos aa),Nat.div_eq_of_lt h3];omega
def fe (x:Nat) (n:Int):Nat:=if 0<=n then x*2^n.toNat else x/2^(-n).toNat
theorem zv {B:Nat} (hB:2<=B) {ds:List Nat} (hd:dp B ds) (h:ds.length<=(fR B (val B ds)).length):fR B (val B ds)=ds:=by
 apply tX hB hd
 intro x hx h0
 subst h0
 have hne:ds≠[]:=by rintro rfl;cases hx
 have qO:0<ds.length:=List.length_pos_iff.2 hne
 have hk:ds[ds.length-1]? =some 0:=by rw[<-List.getLast?_eq_getElem?];exact hx
 have h1:=jC (B:=B) hk
 rw[show ds.length-1+1=ds.length by omega,List.take_length] at h1
 have h2:=my (hd.take (ds.length-1))
 rw[<-h1,List.length_take,Nat.min_eq_left aa] at h2
 have h3:=dR hB _ _ h2
 omega
theorem bu (B:Nat) (xs:List Nat) (k:Nat):val B (xs.take (k+1))=val B (xs.take k)+B^k*xs.getD k 0:=by
 by_cases h:k<xs.length
 ·rw[bb (List.getElem?_eq_getElem h),kx,List.length_take,Nat.min_eq_left aa]
  simp[List.getD,h]
 ·rw[List.take_of_length_le aa,List.take_of_length_le aa]
  simp[List.getD,List.getElem?_eq_none (by omega:xs.length<=k)]
theorem eb {B:Nat} {xs:List Nat} {k:Nat} (h:xs.length<=k):val B (xs.take k)=val B xs:=by rw[List.take_of_length_le h]
theorem Fy (B p s x y c X Y D:Nat) (h:D+p*c=X+Y) (hs:s=x+y+c):D+p*(s%B)+p*B*(s/B)=(X+p*x)+(Y+p*y):=by
 subst hs
 have h2:p*((x+y+c)%B)+p*B*((x+y+c)/B)=p*(x+y+c):=by
  rw[Nat.mul_assoc,<-Nat.mul_add,Nat.mod_add_div]
 rw[Nat.mul_add,Nat.mul_add] at h2
 omega
theorem oe {B:Nat} {xs:List Nat} {k x:Nat} (h:xs[k]? =some x):val B (xs.drop k)=x+B*val B (xs.drop (k+1)):=by
 obtain⟨hl,e⟩:=List.getElem?_eq_some_iff.1 h
 rw[List.drop_eq_getElem_cons hl,e,fp]
theorem Fz (B p x y r d r' X Y D:Nat) (h:D+Y=X+p*r) (hs:x+B*r'=d+y+r):(D+p*d)+(Y+p*y)=(X+p*x)+p*B*r':=by
 have h2:p*(x+B*r')=p*(d+y+r):=by rw[hs]
 rw[Nat.mul_add,Nat.mul_add,Nat.mul_add,<-Nat.mul_assoc] at h2
 omega
end
section
open Go.RowKit
def Rd (w:World) (sz:Nat) (v:Value) (n:Nat) (cs:List Value):Prop:=
 ∃ p c,v=.slice p n c/\n<=c/\c<=maxLen/\cs.length=n*sz/\(0<n*sz->∃ b off,p=some ⟨b,off,none⟩/\∀ j u,cs[j]? =some u->w.cell? ⟨b,off+j,none⟩=some u)
theorem Rd.nil (w:World) (sz:Nat):Rd w sz (.slice none 0 0) 0 []:=⟨none,0,rfl,Nat.le_refl _,by simp[maxLen],by simp,λh=>by omega⟩
theorem Rd.keep {w w':World} {sz n:Nat} {v:Value} {cs:List Value} (h:Rd w sz v n cs) (hk:∀ a u,w.cell? a=some u->w'.cell? a=some u):Rd w' sz v n cs:=by
 obtain⟨p,c,rfl,h1,h2,h3,h4⟩:=h
 refine⟨p,c,rfl,h1,h2,h3,λhn=> ?_⟩
 obtain⟨b,off,hp,hc⟩:=h4 hn
 exact⟨b,off,hp,λj u hj=>hk _ _ (hc j u hj)⟩
theorem gW {w:World} {a:Addr} {u:Value} (h:w.cell? a=some u):a.block<w.heap.size:=World.block_lt_of_cell? w a h
theorem Below.keeps {w w':World} (h:Below w.heap.size w w'):∀ a u,w.cell? a=some u->w'.cell? a=some u:=
 λ_ _ hu=>(h.cell (gW hu)).trans hu
theorem Rd.below {w w':World} {sz n:Nat} {v:Value} {cs:List Value} (h:Rd w sz v n cs) (hb:Below w.heap.size w w'):Rd w' sz v n cs:=h.keep (Below.keeps hb)
theorem Rd.alloc {w:World} {sz n:Nat} {v:Value} {cs:List Value} (h:Rd w sz v n cs) (o:Obj):Rd (w.alloc o) sz v n cs:=
 h.below ((Below.refl _ _).alloc (Nat.le_refl _) o)
theorem Rd.drew {w:World} {sz n:Nat} {v:Value} {cs:List Value} (h:Rd w sz v n cs):Rd w.drew sz v n cs:=h
theorem Rd.drewN {w:World} {sz n:Nat} {v:Value} {cs:List Value} (h:Rd w sz v n cs) (k:Nat):Rd (w.drewN k) sz v n cs:=h
theorem Rd.lit {w:World} {cs:Array Value} {e n:Nat} (hn:cs.size=n) (hm:n<=9223372036854775807):Rd (w.alloc (.cells cs e)) 1 (.slice (some ⟨w.heap.size,0,none⟩) n n) n cs.toList:=
 ⟨_,n,rfl,Nat.le_refl _,by unfold maxLen;omega,by simp[hn],λ_=>⟨w.heap.size,0,rfl,λj u hj=>by
   rw[Nat.zero_add,World.cell?_alloc_new];simpa using hj⟩⟩
theorem Rd.gK {B:Nat} {w w':World} {sz n:Nat} {v:Value} {cs:List Value} (h:Rd w sz v n cs) (hB:B=w.heap.size) (hb:Below B w w'):Rd w' sz v n cs:=h.below (hB▸hb)
theorem Rd.own {w:World} {B e sz n:Nat} {v:Value} {cs:List Value} (h:w.ownsRow B e sz v n cs):Rd w sz v n cs:=by
 rcases h.2 with ⟨rfl,rfl⟩|⟨g,cap,cur,rfl,_,hg,dK,eE,_,Iv⟩
 ·have hx:cs=[]:=List.eq_nil_of_length_eq_zero (by simpa using h.1)
  subst hx;exact Rd.nil w sz
 ·refine⟨_,cap,rfl,dK,eE,h.1,λ_=>⟨g,0,rfl,λj u hj=> ?_⟩⟩
  have:=h.cells (g:=g) rfl j u hj
  rwa [show (⟨g,0,none⟩:Addr).add j=⟨g,0+j,none⟩ by unfold Addr.add;split <;> simp_all] at this
theorem Own.mono {w:World} {B B' e sz n:Nat} {v:Value} {cs:List Value} (h:w.ownsRow B e sz v n cs) (hB:B'<=B):w.ownsRow B' e sz v n cs:=by
 refine⟨h.1,?_⟩
 rcases h.2 with h2|⟨g,cap,cur,hv,hb,r⟩
 ·exact .inl h2
 ·exact .inr ⟨g,cap,cur,hv,by omega,r⟩
theorem Own.below {w w':World} {B e sz n:Nat} {v:Value} {cs:List Value} (h:w.ownsRow B e sz v n cs) (hb:Below w.heap.size w w'):w'.ownsRow B e sz v n cs:=by
 refine⟨h.1,?_⟩
 rcases h.2 with h2|⟨g,cap,cur,hv,hg,hh,r⟩
 ·exact .inl h2
 ·exact .inr ⟨g,cap,cur,hv,hg,(hb.block g (Array.getElem?_eq_some_iff.1 hh).1).trans hh,r⟩
theorem Own.tj {w:World} {B e sz n:Nat} {v:Value} {cs:List Value} (h:w.ownsRow B e sz v n cs) (hn:0<n):∃ g c,v=.slice (some ⟨g,0,none⟩) n c/\B<=g/\g<w.heap.size:=by
 rcases h.2 with ⟨_,h0⟩|⟨g,cap,cur,rfl,hb,hg,_⟩
 ·omega
 ·exact⟨g,cap,rfl,hb,(Array.getElem?_eq_some_iff.1 hg).1⟩
theorem Own.drewN {w:World} {B e sz n:Nat} {v:Value} {cs:List Value} (h:w.ownsRow B e sz v n cs) (k:Nat):(w.drewN k).ownsRow B e sz v n cs:=h
theorem Below.drewN {B:Nat} {a w:World} (h:Below B a w) (n:Nat):Below B a (w.drewN n):=⟨h.os,h.tape,h.output,h.size,h.block⟩
theorem Own.take {w:World} {B e sz n c:Nat} {p:Option Addr} {cs:List Value} (h:w.ownsRow B e sz (.slice p n c) n cs) {m:Nat} (hm:m<=n):w.ownsRow B e sz (.slice p m c) m (cs.take (m*sz)):=by
 have hle:m*sz<=n*sz:=Nat.mul_le_mul_right _ hm
 refine⟨by rw[List.length_take,h.1];omega,?_⟩
 rcases h.2 with ⟨hv,rfl⟩|⟨g,cap,cur,hv,hb,hg,dK,eE,hcs,Iv⟩
 ·left
  simp only[Value.slice.injEq] at hv
  obtain⟨rfl,_,rfl⟩:=hv
  exact⟨by rw[show m=0 by omega],by omega⟩
 ·right
  simp only[Value.slice.injEq,true_and] at hv
  obtain⟨rfl,rfl⟩:=hv
  exact⟨g,c,cur,rfl,hb,hg,by omega,eE,hcs,by rw[<-Iv,List.take_take,Nat.min_eq_left hle]⟩
theorem Rd.take {w:World} {sz n c:Nat} {p:Option Addr} {cs:List Value} (h:Rd w sz (.slice p n c) n cs) {m:Nat} (hm:m<=n):Rd w sz (.slice p m c) m (cs.take (m*sz)):=by
 obtain⟨p',c',hv,h1,h2,h3,h4⟩:=h
 simp only[Value.slice.injEq,true_and] at hv
 obtain⟨rfl,rfl⟩:=hv
 have hle:m*sz<=n*sz:=Nat.mul_le_mul_right _ hm
 refine⟨p,c,rfl,by omega,h2,by rw[List.length_take,h3];omega,λhn=> ?_⟩
 obtain⟨b,off,hp,hc⟩:=h4 aa
 exact⟨b,off,hp,λj u hj=>hc j u (by rw[List.getElem?_take] at hj;split at hj;exact hj;cases hj)⟩
def ints (k:IntKind) (xs:List Nat):List Value:=xs.map λ(x:Nat)=>Value.int k (x:Int)
@[simp] theorem rT (k:IntKind) (xs:List Nat):(ints k xs).length=xs.length:=by simp[ints]
theorem pK {k:IntKind} {xs:List Nat} {j x:Nat} (h:xs[j]? =some x):(ints k xs)[j]? =some (.int k (x:Int)):=by simp[ints,h]
theorem nu (k:IntKind) (xs:List Nat) (m:Nat):(ints k xs).take m=ints k (xs.take m):=by simp[ints,List.map_take]
theorem FA (k:IntKind) (xs:List Nat) (m:Nat):(ints k xs).drop m=ints k (xs.drop m):=by simp[ints,List.map_drop]
theorem fG (k:IntKind) (xs ys:List Nat):ints k (xs++ys)=ints k xs++ints k ys:=by simp[ints]
theorem ints_set (k:IntKind) (xs:List Nat) (j x:Nat):(ints k xs).set j (.int k (x:Int))=ints k (xs.set j x):=by simp[ints,List.map_set]
theorem ky (k:IntKind) (xs:List Nat):∀ u∈ints k xs,u.oneCell'=true:=by
 intro u hu;obtain⟨_,_,rfl⟩:=List.mem_map.1 hu;rfl
theorem Rd.lit1 {w:World} {k:IntKind} {e a:Nat} {x:Int} (hx:x=(a:Int)):Rd (w.alloc (.cells #[.int k x] e)) 1 (.slice (some ⟨w.heap.size,0,none⟩) 1 1) 1 (ints k [a]):=by
 subst hx;exact Rd.lit rfl aa
theorem Rd.lit2 {w:World} {k:IntKind} {e a b:Nat} {x y:Int} (hx:x=(a:Int)) (hy:y=(b:Int)):Rd (w.alloc (.cells #[.int k x,.int k y] e)) 1 (.slice (some ⟨w.heap.size,0,none⟩) 2 2) 2 (ints k [a,b]):=by
 subst hx;subst hy;exact Rd.lit rfl aa
theorem Rd.cellAt {w:World} {n:Nat} {p:Option Addr} {c k:Nat} {ki:IntKind} {xs:List Nat} (h:Rd w 1 (.slice p n c) n (ints ki xs)) (hk:k<n):
  ∃ b off x,p=some ⟨b,off,none⟩/\b<w.heap.size/\xs[k]? =some x/\w.cell? ⟨b,off+k,none⟩=some (.int ki (x:Int)):=by
 obtain⟨p',c',hv,h1,h2,h3,h4⟩:=h
 simp only[Value.slice.injEq,true_and] at hv
 obtain⟨rfl,rfl⟩:=hv
 obtain⟨b,off,hp,hc⟩:=h4 aa
 rw[rT] at h3
 have hx:=List.getElem?_eq_getElem (show k<xs.length by omega)
 have hcell:=hc k _ (pK hx)
 exact⟨b,off,_,hp,gW hcell,hx,hcell⟩
theorem Rd.form {w:World} {sz n:Nat} {v:Value} {cs:List Value} (h:Rd w sz v n cs):∃ p c,v=.slice p n c/\n<=c/\c<=maxLen/\cs.length=n*sz:=by
 obtain⟨p,c,hv,h1,h2,h3,_⟩:=h
 exact⟨p,c,hv,h1,h2,h3⟩
theorem Own.form {w:World} {B e sz n:Nat} {v:Value} {cs:List Value} (h:w.ownsRow B e sz v n cs):∃ p c,v=.slice p n c/\n<=c/\c<=maxLen/\cs.length=n*sz:=(Rd.own h).form
theorem jY {P:Program} (w:World) (base t ty e:Nat) (i:TypeInfo) (z:Value) (size bytes:Nat) (ht:P.underlying t=some (.slice e)) (hi:P.info? e=some i) (hz:i.zero=some z)
  (rU:i.size=size) (FD:i.bytes=bytes) (HT:z.cells.size=size) (hsz:0<size)
  (v:Value) (n:Nat) (xs:List Value) (aw:w.ownsRow base e size v n xs) (x:Value) (m:Nat) (news:List Value) (hx:Rd w size x m news) (h1:∀ u∈news,u.oneCell'=true)
  (h63:n+m<=maxLen) (fU:(n+m)*bytes<=140737488355328) (mf:base<=w.heap.size):
  ∃ v' w',(Builtin.append_ #[t,t] ty #[v,x]).run P w=.ok v' w'/\w'.ownsRow base e size v' (n+m) (xs++news)/\w.grownBy w' v.ownBlock:=by
 obtain⟨p,c,rfl,hmc,eE,hl,hp⟩:=hx
 by_cases hm:m=0
 ·subst hm
  have hn:news=[]:=List.eq_nil_of_length_eq_zero (by simpa using hl)
  subst hn
  refine⟨v,w,?_,by simpa using aw,⟨rfl,rfl,rfl,Nat.le_refl _,λ_ _ _=>rfl⟩⟩
  subst rU
  rcases aw.2 with ⟨rfl,rfl⟩|⟨g,cap,cur,rfl,_,hg,dK,hcm',hcs,Iv⟩
  ·cases p <;> simp[Builtin.append_,run_underlying ht,sizeOf,typeInfo,hi,Builtin.lenOf,Builtin.firstCells,loadCells,loadCellsFrom]
  ·cases p <;> simp[Builtin.append_,run_underlying ht,sizeOf,typeInfo,hi,Builtin.lenOf,Builtin.firstCells,loadCells,loadCellsFrom,dK,storeCells]
 ·obtain⟨b,off,rfl,hc⟩:=hp (Nat.mul_pos aa hsz)
  obtain⟨v',w',hr,h2,h3,_⟩:=run_append_own (P:=P) w base t ty e i z size bytes ht hi hz rU FD HT hsz v n xs aw ⟨b,off,none⟩ m c news hl
   (λj u hj=>by
    have:=hc j u hj
    rwa [show (⟨b,off,none⟩:Addr).add j=⟨b,off+j,none⟩ by unfold Addr.add;split <;> simp_all]) h1 h63 fU mf
  exact⟨v',w',hr,h2,h3⟩
theorem gL {P:Program} (w:World) {ops:Array Oper} {rest:List Oper} {o:Oper} {a:Act} {Q:Exit->Act->World->Prop} (hgd:o.guard=none) (s x:Operand) (t:TypeId)
  (ho:o.op=.call { callee:=.builtin .append,args:=#[s,x],argTypes:=#[t,t] })
  (base:Nat) (e:TypeId) (i:TypeInfo) (z:Value) (size bytes:Nat) (ht:P.underlying t=some (.slice e)) (hi:P.info? e=some i) (hz:i.zero=some z)
  (rU:i.size=size) (FD:i.bytes=bytes) (HT:z.cells.size=size) (hsz:0<size)
  (v:Value) (n:Nat) (xs:List Value) (hs:a.eval s=v) (aw:w.ownsRow base e size v n xs)
  (xv:Value) (m:Nat) (news:List Value) (hx:a.eval x=xv) (qL:Rd w size xv m news) (h1:∀ u∈news,u.oneCell'=true)
  (h63:n+m<=maxLen) (fU:(n+m)*bytes<=140737488355328) (mf:base<=w.heap.size)
  (h:∀ v' w',w'.ownsRow base e size v' (n+m) (xs++news)->w.grownBy w' v.ownBlock->wpList P ops Q rest (a.put o.dst v') w'):wpList P ops Q (o::rest) a w:=by
 refine wpList_plain hgd λ_ hK=> ?_
 obtain⟨v',w',hr,h2,h3⟩:=jY (P:=P) w base t o.type e i z size bytes ht hi hz rU FD HT hsz v n xs aw xv m news qL h1 h63 fU mf
 unfold Oper.wp execOp
 simp only[ho,resolve,invoke,builtin,Sem.run_bind,Sem.run_pure,Result.andThen_ok,List.map_toArray,List.map_cons,List.map_nil,hs,hx,hr]
 exact hK _ _ (h v' w' h2 h3)
theorem mI {P:Program} {w:World} {ops:Array Oper} {o:Oper} {a:Act} {K:Act->World->Prop} {Q:Exit->Act->World->Prop} {E:Prop} (hgd:o.guard=none) (s x:Operand) (t:TypeId)
  (ho:o.op=.call { callee:=.builtin .append,args:=#[s,x],argTypes:=#[t,t] })
  (base:Nat) (e:TypeId) (i:TypeInfo) (z:Value) (size bytes:Nat) (ht:P.underlying t=some (.slice e)) (hi:P.info? e=some i) (hz:i.zero=some z)
  (rU:i.size=size) (FD:i.bytes=bytes) (HT:z.cells.size=size) (hsz:0<size)
  (v:Value) (n:Nat) (xs:List Value) (hs:a.eval s=v) (aw:w.ownsRow base e size v n xs)
  (xv:Value) (m:Nat) (news:List Value) (hx:a.eval x=xv) (qL:Rd w size xv m news) (h1:∀ u∈news,u.oneCell'=true)
  (h63:n+m<=maxLen) (fU:(n+m)*bytes<=140737488355328) (mf:base<=w.heap.size)
  (h:∀ v' w',w'.ownsRow base e size v' (n+m) (xs++news)->w.grownBy w' v.ownBlock->K (a.put o.dst v') w'):
  if Region.wanted o (yielded ops a.tmps)=true then Oper.wp P o a w K Q else E:=by
 have hw:Region.wanted o (yielded ops a.tmps)=true:=by simp[Region.wanted,hgd]
 rw[if_pos hw]
 obtain⟨v',w',hr,h2,h3⟩:=jY (P:=P) w base t o.type e i z size bytes ht hi hz rU FD HT hsz v n xs aw xv m news qL h1 h63 fU mf
 unfold Oper.wp execOp
 simp only[ho,resolve,invoke,builtin,Sem.run_bind,Sem.run_pure,Result.andThen_ok,List.map_toArray,List.map_cons,List.map_nil,hs,hx,hr]
 exact h v' w' h2 h3
theorem wR {w w1:World} {o:Obj} {a:Addr} {v:Value} {row:Option Nat} (hg:(w.alloc o).drew.grownBy w1 row) (hc:w.cell? a=some v) (hne:some a.block≠row):w1.cell? a=some v:=
 hg.cell ((World.cell?_alloc_lt w o a (gW hc)).trans hc) hne
theorem Iw {w:World} {B e sz n b:Nat} {v:Value} {cs:List Value} (h:w.ownsRow B e sz v n cs) (hb:b<B):some b≠v.ownBlock:=by
 intro he
 have:=(h.lt b he.symm).1
 omega
theorem Below.behind {B B' e sz n:Nat} {w0 w w1:World} {o:Obj} {v:Value} {cs:List Value} (h:Below B w0 w) (hB:B<=w.heap.size) (hg:(w.alloc o).drew.grownBy w1 v.ownBlock) (ho:w.ownsRow B' e sz v n cs) (hBB:B<=B'):Below B w0 w1:=
 ((h.alloc hB o).drew).grown hg (by simp;omega) λk hk=>by have:=(ho.lt k hk).1;omega
theorem Below.ay {a b c:World} (h:Below a.heap.size a b) (k:Below b.heap.size b c):Below a.heap.size a c:=h.trans (k.mono h.size)
theorem wpList_append_run {P:Program} {w:World} {ops:Array Oper} {rest:List Oper} {o:Oper} {a:Act} {Q:Exit->Act->World->Prop} (hgd:o.guard=none) (s x:Operand) (t t':TypeId)
  (ho:o.op=.call { callee:=.builtin .append,args:=#[s,x],argTypes:=#[t,t'] }) (v xv:Value) (hs:a.eval s=v) (hx:a.eval x=xv) (v':Value) (w':World)
  (hr:(Builtin.append_ #[t,t'] o.type #[v,xv]).run P w=.ok v' w') (h:wpList P ops Q rest (a.put o.dst v') w'):wpList P ops Q (o::rest) a w:=by
 refine wpList_plain hgd λ_ hK=> ?_
 unfold Oper.wp execOp
 simp only[ho,resolve,invoke,builtin,Sem.run_bind,Sem.run_pure,Result.andThen_ok,List.map_toArray,List.map_cons,List.map_nil,hs,hx,hr]
 exact hK _ _ h
theorem Below.Ix {B B':Nat} {w0 w w':World} {e sz n:Nat} {v:Value} {cs:List Value} (h:Below B w0 w) (hg:w.grownBy w' v.ownBlock) (ho:w.ownsRow B' e sz v n cs) (hB:B<=w.heap.size) (hBB:B<=B'):Below B w0 w':=
 h.grown hg hB λk hk=>by have:=(ho.lt k hk).1;omega
theorem aA {P:Program} {f:FuncId} {args:Array Value} {w:World} {R:Ending->World->Prop} (h:∀ R':Ending->World->Prop,Hid (∀ e w',R e w'->R' e w')->Calls P f args w R'):Calls P f args w R:=h R λ_ _ h=>h
theorem kA {k:IntKind} {a a':Int} (h:a=a'):Ending.returned (.int k a)=.returned (.int k a'):=by rw[h]
theorem ret2 {k l:IntKind} {a a' b b':Int} (h:a=a') (h':b=b'):Ending.returned (.tuple #[.int k a,.int l b])=.returned (.tuple #[.int k a',.int l b']):=by rw[h,h']
theorem Own.made {w:World} {B e n:Nat} {v:Value} {k:IntKind} (h:w.ownsRow B e 1 v n (madeCells (Value.int k 0).cells (n*1)).toList):w.ownsRow B e 1 v n (ints k ([]++List.replicate n 0)):=by
 have:(madeCells (Value.int k 0).cells (n*1)).toList=ints k ([]++List.replicate n 0):=by
  rw[show (Value.int k 0).cells=#[Value.int k 0] from rfl,toList_madeCells_one];simp[ints]
 rwa [this] at h
theorem Own.tn {w:World} {B e g n cap r:Nat} {k:IntKind} {ds:List Nat} (h:w.ownsRow B e 1 (.slice (some ⟨g,0,none⟩) n cap) n (ints k (ds++List.replicate (r+1) 0))):
  w.cell? ⟨g,ds.length,none⟩=some (.int k 0)/\w.frozen? ⟨g,ds.length,none⟩=false:=by
 have hl:=h.1
 simp at hl
 refine⟨?_,h.frozenAt _⟩
 rw[h.cellAt _ aa]
 have:=pK (k:=k) (xs:=ds++List.replicate (r+1) 0) (j:=ds.length) (x:=0) (by simp[List.replicate_succ])
 simpa using this
theorem Own.pL {w:World} {B e g n cap r x:Nat} {k:IntKind} {ds:List Nat} (h:w.ownsRow B e 1 (.slice (some ⟨g,0,none⟩) n cap) n (ints k (ds++List.replicate (r+1) 0))):
  (w.setCell ⟨g,ds.length,none⟩ (.int k (x:Int))).ownsRow B e 1 (.slice (some ⟨g,0,none⟩) n cap) n (ints k ((ds++[x])++List.replicate r 0)):=by
 have h1:=(h.stored ds.length (.int k (x:Int))).1
 rw[ints_set] at h1
 have:(ds++List.replicate (r+1) 0).set ds.length x=(ds++[x])++List.replicate r 0:=by
  rw[List.set_append_right _ _ (Nat.le_refl _),Nat.sub_self,List.replicate_succ,List.set_cons_zero,List.append_assoc];rfl
 rwa [this] at h1
theorem Own.fq {w:World} {B e g n cap:Nat} {k:IntKind} {xs:List Nat} (h:w.ownsRow B e 1 (.slice (some ⟨g,0,none⟩) n cap) n (ints k xs)) {j:Nat} (hj:j<n):
  ∃ x,xs[j]? =some x/\w.cell? ⟨g,j,none⟩=some (.int k (x:Int))/\w.frozen? ⟨g,j,none⟩=false:=by
 have hl:=h.1
 simp at hl
 have hx:=List.getElem?_eq_getElem (show j<xs.length by omega)
 refine⟨_,hx,?_,h.frozenAt _⟩
 rw[h.cellAt _ aa,pK hx]
theorem Own.eU {w:World} {B e g n cap j x:Nat} {k:IntKind} {xs:List Nat} (h:w.ownsRow B e 1 (.slice (some ⟨g,0,none⟩) n cap) n (ints k xs)):
  (w.setCell ⟨g,j,none⟩ (.int k (x:Int))).ownsRow B e 1 (.slice (some ⟨g,0,none⟩) n cap) n (ints k (xs.set j x)):=by
 have h1:=(h.stored j (.int k (x:Int))).1
 rwa [ints_set] at h1
theorem Own.lt {w:World} {B e sz g n cap:Nat} {p:Nat} {cs:List Value} (h:w.ownsRow B e sz (.slice (some ⟨g,p,none⟩) n cap) n cs):B<=g/\g<w.heap.size:=World.ownsRow.lt h g rfl
theorem uc {P:Program} {f:FuncId} {args:Array Value} {W:World} {X:Nat->World} {v:Value} (h:Calls P f args W λe w'=>e=.returned v/\W=w') (hW:∃ n,W=X n):
  Calls P f args W λe w''=>e=.returned v/\∃ m,w''=X m:=
 h.mono λ_ _ ⟨he,hm⟩=>⟨he,hW.imp λ_ hn=>hm▸hn⟩
theorem cU {P:Program} {w:World} {ops:Array Oper} {rest:List Oper} {o:Oper} {a:Act} {Q:Exit->Act->World->Prop} (hgd:o.guard=none) (s x:Operand) (t:TypeId)
  (ho:o.op=.call { callee:=.builtin .append,args:=#[s,x],argTypes:=#[t,t] })
  (base:Nat) (e:TypeId) (i:TypeInfo) (z:Value) (bytes:Nat) (ht:P.underlying t=some (.slice e)) (hi:P.info? e=some i) (hz:i.zero=some z)
  (rU:i.size=1) (FD:i.bytes=bytes) (HT:z.cells.size=1)
  {v:Value} {n:Nat} {k:IntKind} {ds:List Nat} {y:Int} {d:Nat} {e':TypeId} (aw:w.ownsRow base e 1 v n (ints k ds)) (hs:a.eval s=v) (hx:a.eval x=.slice (some ⟨w.heap.size,0,none⟩) 1 1) (hy:y=(d:Int))
  (h63:n+1<=9223372036854775807) (fU:(n+1)*bytes<=140737488355328) (mf:base<=w.heap.size)
  (h:∀ v' w',w'.ownsRow base e 1 v' (n+1) (ints k (ds++[d]))->(∀ w0,Below base w0 w->Below base w0 w')->wpList P ops Q rest (a.put o.dst v') w'):wpList P ops Q (o::rest) a (w.alloc (.cells #[.int k y] e')):=by
 refine gL _ hgd s x t ho base e i z 1 bytes ht hi hz rU FD HT aa v n _ hs (aw.alloc _) _ 1 (ints k [d]) hx (Rd.lit1 hy) (ky k [d]) (by unfold maxLen;omega) fU (by simp;omega) ?_
 intro v' w' h1 h2
 refine h v' w' (by rw[fG];exact h1) λw0 hb=> ?_
 exact (hb.alloc mf _).grown h2 (by simp;omega) λj hj=>(aw.lt j hj).1
theorem Iy (a b:Nat) (ha:a<4294967296) (hb:b<4294967296):a*b<18446744065119617026:=by
 have h1:a*b<=4294967295*4294967295:=Nat.mul_le_mul aa aa
 omega
set_option maxRecDepth 100000 in
theorem FE (a b:Nat) (w:World) (ha:a<4294967296) (hb:b<4294967296):
  Calls Tryz.prog 240 #[.int .u32 (a:Int),.int .u32 (b:Int)] w λe w'=>e=.returned (.tuple #[.int .u32 ((a*b/4294967296:Nat):Int),.int .u32 ((a*b%4294967296:Nat):Int)])/\w=w':=by
 have h:=Iy a b ha hb
 have h2:(a:Int)*(b:Int)<18446744065119617026:=by rw[<-Int.natCast_mul];omega
 have h3:0<=(a:Int)*(b:Int):=by rw[<-Int.natCast_mul];omega
 refine aA λR' bg=> ?_
 go_enter Tryz.func240,Tryz.ntmps240
 go_wp2
 refine bg.out _ _ ⟨ret2 ?_ ?_,rfl⟩ <;> simp
set_option maxRecDepth 100000 in
theorem kC (a b c:Nat) (w:World) (ha:a<4294967296) (hb:b<4294967296) (hc:c<4294967296):
  Calls Tryz.prog 212 #[.int .u32 (a:Int),.int .u32 (b:Int),.int .u32 (c:Int)] w λe w'=>e=.returned (.tuple #[.int .u32 (((a+b+c)%4294967296:Nat):Int),.int .u32 (((a+b+c)/4294967296:Nat):Int)])/\w=w':=by
 refine aA λR' bg=> ?_
 go_enter Tryz.func212,Tryz.ntmps212
 go_wp2
 refine bg.out _ _ ⟨ret2 ?_ ?_,rfl⟩ <;> simp
set_option maxRecDepth 100000 in
theorem FF (a b d:Nat) (w:World) (ha:a<d) (hb:b<4294967296) (hd:d<4294967296):
  Calls Tryz.prog 229 #[.int .u32 (a:Int),.int .u32 (b:Int),.int .u32 (d:Int)] w λe w'=>
   e=.returned (.tuple #[.int .u32 (((a*4294967296+b)/d:Nat):Int),.int .u32 (((a*4294967296+b)%d:Nat):Int)])/\∃ k,w'=w.drewN k:=by
 have hd0:((d:Int) != 0)=true:=by rw[bne_iff_ne];omega
 have hd1:1<=(d:Int):=by omega
 have hle:¬ ((d:Int)<=(a:Int)):=by omega
 have ud:bits BinOp.or IntKind.u64 ((a:Int)*4294967296) (b:Int)=((a*4294967296+b:Nat):Int):=by
  have e1:((a:Int)*4294967296)=((a*4294967296:Nat):Int):=by simp
  rw[e1,u64_or_nat _ _ aa aa,nat_join 32 _ _ aa aa]
 have hq:(a*4294967296+b)/d<4294967296:=by
  rw[Nat.div_lt_iff_lt_mul aa]
  have:(a+1)*4294967296<=d*4294967296:=Nat.mul_le_mul_right _ ha
  rw[Nat.mul_comm 4294967296 d];omega
 have hq1:((a:Int)*4294967296+(b:Int))/(d:Int)<4294967296:=by
  have:(((a*4294967296+b)/d:Nat):Int)<4294967296:=by omega
  simpa using this
 have hr:(a*4294967296+b)%d<d:=Nat.mod_lt _ aa
 have jF:((a:Int)*4294967296+(b:Int))%(d:Int)<4294967296:=by
  have:(((a*4294967296+b)%d:Nat):Int)<4294967296:=by omega
  simpa using this
 have zc:0<=((a:Int)*4294967296+(b:Int))/(d:Int):=by
  exact Int.ediv_nonneg aa aa
 have tp:0<=((a:Int)*4294967296+(b:Int))%(d:Int):=by
  exact Int.emod_nonneg _ aa
 rw[show ((a*4294967296+b:Nat):Int)=(a:Int)*4294967296+(b:Int) by simp] at ud
 clear hq hr
 refine aA λR' bg=> ?_
 go_enter Tryz.func229,Tryz.ntmps229
 go_wp2_with fail
 go_quiet (fail)
 go_wp2
 refine bg.out _ _ ⟨ret2 ?_ ?_,_,rfl⟩ <;> simp
theorem pM (n:Nat) (h:n<4294967296):n.testBit 31=decide (2147483648<=n):=by
 rw[Nat.testBit_eq_decide_div_mod_eq]
 by_cases h':2147483648<=n
 ·have:n/2^31=1:=by omega
  simp[this,h']
 ·have:n/2^31=0:=by omega
  simp[this];omega
theorem by_top (n:Nat) (h:n<4294967296):n/2147483648=(n.testBit 31).toNat:=by
 rw[pM n h]
 by_cases h':2147483648<=n <;> simp[h'] <;> omega
theorem Cr (x y c d:Nat) (hx:x<4294967296) (hy:y<4294967296) (hc:c<2) (hd:d=(x+8589934592-y-c)%4294967296):
  ((4294967295 ^^^x) &&& y |||(4294967295 ^^^(x ^^^y)) &&& d)/2147483648=if x<y+c then 1 else 0:=by
 have sT:d<4294967296:=by omega
 have h1:4294967295 ^^^x<2^32:=Nat.xor_lt_two_pow aa aa
 have h2:x ^^^y<2^32:=Nat.xor_lt_two_pow aa aa
 have h3:4294967295 ^^^(x ^^^y)<2^32:=Nat.xor_lt_two_pow aa h2
 have h4:(4294967295 ^^^x) &&& y |||(4294967295 ^^^(x ^^^y)) &&& d<2^32:=Nat.or_lt_two_pow (Nat.and_lt_two_pow _ aa) (Nat.and_lt_two_pow _ aa)
 rw[by_top _ aa]
 simp only[Nat.testBit_or,Nat.testBit_and,Nat.testBit_xor,pM _ hx,pM _ hy,pM _ sT,pM 4294967295 aa]
 by_cases a1:2147483648<=x <;> by_cases a2:2147483648<=y <;> by_cases a3:2147483648<=d <;> simp[a1,a2,a3] <;> omega
set_option maxRecDepth 100000 in
theorem wS (a b c:Nat) (w:World) (ha:a<4294967296) (hb:b<4294967296) (hc:c<2):
  Calls Tryz.prog 213 #[.int .u32 (a:Int),.int .u32 (b:Int),.int .u32 (c:Int)] w λe w'=>
   (∃ d r:Nat,e=.returned (.tuple #[.int .u32 (d:Int),.int .u32 (r:Int)])/\d<4294967296/\r<=1/\a+4294967296*r=d+b+c)/\w=w':=by
 obtain⟨d,hd⟩:∃ d,d=(a+8589934592-b-c)%4294967296:=⟨_,rfl⟩
 have sT:d<4294967296:=by omega
 have xY:=Cr a b c d ha hb hc hd
 have hdi:((a:Int)-(b:Int)-(c:Int))%4294967296=(d:Int):=by omega
 have hm:IntKind.u32.max=((4294967295:Nat):Int):=rfl
 have h1:4294967295 ^^^a<4294967296:=Nat.xor_lt_two_pow (n:=32) aa aa
 have h2:a ^^^b<4294967296:=Nat.xor_lt_two_pow (n:=32) aa aa
 have h3:4294967295 ^^^(a ^^^b)<4294967296:=Nat.xor_lt_two_pow (n:=32) aa aa
 have h4:(4294967295 ^^^a) &&& b<4294967296:=Nat.and_lt_two_pow (n:=32) _ aa
 have h5:(4294967295 ^^^(a ^^^b)) &&& d<4294967296:=Nat.and_lt_two_pow (n:=32) _ aa
 have H:Hid (bits BinOp.or IntKind.u32 (bits BinOp.and IntKind.u32 (bits BinOp.xor IntKind.u32 IntKind.u32.max (a:Int)) (b:Int))
   (bits BinOp.and IntKind.u32 (bits BinOp.xor IntKind.u32 IntKind.u32.max (bits BinOp.xor IntKind.u32 (a:Int) (b:Int))) (((a:Int)-(b:Int)-(c:Int))%4294967296))/2147483648=((if a<b+c then 1 else 0:Nat):Int)):=by
  show _=_
  rw[hdi,hm,u32_xor_nat _ _ aa ha,u32_and_nat _ _ h1 hb,u32_xor_nat _ _ ha hb,u32_xor_nat _ _ aa h2,u32_and_nat _ _ h3 sT,u32_or_nat _ _ h4 h5,<-xY]
  simp
 have HD:Hid (((a:Int)-(b:Int)-(c:Int))%4294967296=((a+8589934592-b-c)%4294967296:Nat)):=by show _=_;rw[hdi,hd]
 clear hd hdi xY hm h1 h2 h3 h4 h5 sT
 refine aA λR' bg=> ?_
 go_enter Tryz.func213,Tryz.ntmps213
 go_wp2
 all_goals exact bg.out _ _ ⟨⟨(a+8589934592-b-c)%4294967296,if a<b+c then 1 else 0,ret2 HD.out H.out,Nat.mod_lt _ aa,by split <;> omega,by split <;> omega⟩,rfl⟩
set_option maxRecDepth 100000 in
theorem cK (p:Option Addr) (n c:Nat) (xs:List Nat) (w:World) (hr:Rd w 1 (.slice p n c) n (ints .u32 xs)) (hl:bI xs):
  Calls Tryz.prog 145 #[.slice p n c] w λe w'=>(∃ m,m<=n/\e=.returned (.slice p m c)/\limbs (af xs)=xs.take m)/\w=w':=by
 have dK:n<=c/\c<=9223372036854775807/\xs.length=n:=by
  obtain⟨p',c',hv,h1,h2,h3⟩:=hr.form
  simp only[Value.slice.injEq,true_and] at hv
  obtain⟨rfl,rfl⟩:=hv
  unfold maxLen at h2
  simp at h3
  exact⟨h1,by omega,h3⟩
 obtain⟨dK,eE,dT⟩:=dK
 have HX:Hid (xs.length=n):=dT
 clear dT
 refine aA λR' bg=> ?_
 go_enter Tryz.func145,Tryz.ntmps145
 go_wp2
 go_loop [0] (λv=>∃ m,m<=n/\v=.slice p m c/\af (xs.take m)=af xs) (λv=>match v with | .slice _ m _=>m|_=>0)
 case atStart=>exact⟨n,Nat.le_refl _,rfl,by rw[List.take_of_length_le (Nat.le_of_eq HX.out)]⟩
 case round=>
  obtain⟨m,hm,rfl,hv⟩:=hrel
  have HV:Hid (af (xs.take m)=af xs):=hv
  clear hv
  by_cases h0:m=0
  ·subst h0
   go_wp2
   exact bg.out _ _ ⟨⟨0,Nat.zero_le _,rfl,iQ aa hl (Nat.zero_le _) HV.out (.inl rfl)⟩,rfl⟩
  ·obtain⟨b,off,x,rfl,hb,hx,hc⟩:=hr.cellAt (k:=m-1) aa
   have Iz:Hid (xs[m-1]? =some x):=hx
   clear hx
   have h0':0<m:=by omega
   obtain⟨j,rfl⟩:∃ j,m=j+1:=⟨m-1,by omega⟩
   rw[Nat.add_sub_cancel] at hc
   by_cases nQ:x=0
   ·subst nQ
    go_wp2
    go_round
    case rel=>exact⟨j,by omega,rfl,(jC Iz.out).symm.trans HV.out⟩
    case measure=>simp
   ·have hx0':((x:Int) == 0)=false:=by rw[beq_eq_false_iff_ne];omega
    go_wp2
    exact bg.out _ _ ⟨⟨j+1,hm,rfl,iQ aa hl (by rw[HX.out];exact hm) HV.out (.inr ⟨x,Iz.out,nQ⟩)⟩,rfl⟩
theorem gX:(Tryz.prog.info? 191).map (λi=>(i.zero,i.size,i.bytes))=some (some (.int .u32 0),1,4):=by kernel_rfl
theorem ff {P:Prop} (h:P:=by decide):P:=h
set_option maxRecDepth 100000 in
theorem gM (v:Value) (n:Nat) (xs:List Nat) (w:World) (hr:Rd w 1 v n (ints .u32 xs)) (hn:n<=1073741824):
  Calls Tryz.prog 144 #[v] w λe w'=>∃ v',e=.returned v'/\w'.ownsRow w.heap.size 191 1 v' n (ints .u32 xs)/\Below w.heap.size w w':=by
 obtain⟨p,c,rfl,dK,eE,hl⟩:=hr.form
 have Hr:=Lib.hid hr
 have fK:∀ w':World,(binOp .eql 30 (.slice p n c) (.slice none 0 0)).run Tryz.prog w'=.ok (.bool p.isNone) w':=λw'=>Lib.run_eql_slice_nil w' 30 191 p n c 0 0 Tryz.underlying30
 obtain⟨i0,hi,jA,lp,mj⟩:=info_parts gX
 have HL:=Lib.hid hl
 clear hl hr
 unfold maxLen at eE
 cases p with
 | none=>
   refine aA λR' bg=> ?_
   go_enter Tryz.func144,Tryz.ntmps144
   go_wp2
   refine bg.out _ _ ⟨_,rfl,?_,Below.refl _ _⟩
   obtain⟨p,c',hv,_,_,h3,h4⟩:=Hr.out
   simp only[Value.slice.injEq,true_and] at hv
   obtain⟨rfl,rfl⟩:=hv
   have h0:n=0:=by
    rcases Nat.eq_zero_or_pos n with h|h
    ·exact h
    ·obtain⟨b,off,hp,_⟩:=h4 aa;cases hp
   subst h0
   have hx:ints .u32 xs=[]:=List.eq_nil_of_length_eq_zero (by simpa using h3)
   rw[hx]
   exact World.ownsRow_nil _ _ _ _
 | some ad=>
   refine aA λR' bg=> ?_
   go_enter Tryz.func144,Tryz.ntmps144
   go_wp2_with (at_builtin;refine gL _ rfl _ _ 30 rfl w.heap.size 191 i0 (.int .u32 0) 1 4 Tryz.underlying30 hi jA lp mj rfl ff _ 0 [] rfl (World.ownsRow_made w #[] 0 (Nat.le_refl _) (by simp[maxLen]) rfl) _ n _ rfl (Hr.out.alloc _) (ky _ _) (by unfold maxLen;omega) aa cS ?_;intro v' w1 aw zw)
   simp only[Nat.zero_add,List.nil_append] at aw
   refine bg.out _ _ ⟨_,rfl,aw,((Below.refl _ _).alloc (Nat.le_refl _) _).grown zw cS λk hk=>by injection (show some w.heap.size=some k from hk) with hk;omega⟩
theorem Rd.u32 {w:World} {v:Value} {n:Nat} {xs:List Nat} (h:Rd w 1 v n (ints .u32 xs)):∃ p c,v=.slice p n c/\n<=c/\c<=9223372036854775807/\xs.length=n:=by
 obtain⟨p,c,hv,h1,h2,h3⟩:=h.form
 unfold maxLen at h2
 exact⟨p,c,hv,h1,by omega,by simpa using h3⟩
theorem Rd.limbs {w:World} {n c m:Nat} {p:Option Addr} {xs:List Nat} (h:Rd w 1 (.slice p n c) n (ints .u32 xs)) (hm:m<=n) (hl:limbs (af xs)=xs.take m):
  Rd w 1 (.slice p m c) m (ints .u32 (limbs (af xs))):=by
 have:=h.take hm
 rwa [Nat.mul_one,nu,<-hl] at this
theorem Own.limbs {w:World} {B e n c m:Nat} {p:Option Addr} {xs:List Nat} (h:w.ownsRow B e 1 (.slice p n c) n (ints .u32 xs)) (hm:m<=n) (hl:limbs (af xs)=xs.take m):
  w.ownsRow B e 1 (.slice p m c) m (ints .u32 (limbs (af xs))):=by
 have:=Own.take h hm
 rwa [Nat.mul_one,nu,<-hl] at this
set_option maxRecDepth 100000 in
theorem ia (v:Value) (n:Nat) (xs:List Nat) (w:World) (hr:Rd w 1 v n (ints .u32 xs)) (hl:bI xs) (hn:n<=1073741824):
  Calls Tryz.prog 93 #[v] w λe w'=>∃ v',e=.returned v'/\w'.ownsRow w.heap.size 191 1 v' (limbs (af xs)).length (ints .u32 (limbs (af xs)))/\Below w.heap.size w w':=by
 obtain⟨p,c,rfl,dK,eE,dT⟩:=hr.u32
 have Hr:=Lib.hid hr
 have HL:=Lib.hid hl
 have HX:=Lib.hid dT
 clear dT hl hr
 refine aA λR' bg=> ?_
 go_enter Tryz.func93,Tryz.ntmps93
 go_wp2_with fail
 refine (cK p n c xs _ Hr.out HL.out).mono ?_
 rintro e w1 ⟨⟨m,hm,rfl,vZ⟩,rfl⟩
 have HM:=Lib.hid vZ
 clear vZ
 have qM:Hid (m=(limbs (af xs)).length):=by
  show _=_
  rw[HM.out,List.length_take,HX.out];omega
 go_wp2_with fail
 refine (gM _ m (limbs (af xs)) _ (Hr.out.limbs hm HM.out) aa).mono ?_
 rintro e w1 ⟨v',rfl,aw,hb⟩
 go_wp2
 refine bg.out _ _ ⟨_,rfl,?_,hb⟩
 rw[<-qM.out];exact aw
set_option maxRecDepth 100000 in
theorem ue (a b:Nat) (w:World):
  Calls Tryz.prog 214 #[.int .i64 (a:Int),.int .i64 (b:Int)] w λe w'=>e=.returned (.int .i64 (eT a b))/\w=w':=by
 rcases Nat.lt_trichotomy a b with h|rfl|h
 ·have e1:=Lib.hid (jD h)
  refine aA λR' bg=> ?_
  go_enter Tryz.func214,Tryz.ntmps214
  go_wp2
  exact bg.out _ _ ⟨kA e1.out.symm,rfl⟩
 ·have e1:=Lib.hid (pI a)
  refine aA λR' bg=> ?_
  go_enter Tryz.func214,Tryz.ntmps214
  go_wp2
  exact bg.out _ _ ⟨kA e1.out.symm,rfl⟩
 ·have e1:=Lib.hid (jE h)
  refine aA λR' bg=> ?_
  go_enter Tryz.func214,Tryz.ntmps214
  go_wp2
  exact bg.out _ _ ⟨kA e1.out.symm,rfl⟩
set_option maxRecDepth 100000 in
theorem uf (a b:Nat) (w:World):
  Calls Tryz.prog 215 #[.int .u32 (a:Int),.int .u32 (b:Int)] w λe w'=>e=.returned (.int .i64 (eT a b))/\w=w':=by
 rcases Nat.lt_trichotomy a b with h|rfl|h
 ·have e1:=Lib.hid (jD h)
  refine aA λR' bg=> ?_
  go_enter Tryz.func215,Tryz.ntmps215
  go_wp2
  exact bg.out _ _ ⟨kA e1.out.symm,rfl⟩
 ·have e1:=Lib.hid (pI a)
  refine aA λR' bg=> ?_
  go_enter Tryz.func215,Tryz.ntmps215
  go_wp2
  exact bg.out _ _ ⟨kA e1.out.symm,rfl⟩
 ·have e1:=Lib.hid (jE h)
  refine aA λR' bg=> ?_
  go_enter Tryz.func215,Tryz.ntmps215
  go_wp2
  exact bg.out _ _ ⟨kA e1.out.symm,rfl⟩
theorem og {a b:Nat} (h:(limbs a).length<(limbs b).length):a<b:=by
 rcases Nat.lt_or_ge a b with h' |h'
 ·exact h'
 ·have:=cd h';omega
theorem IA {a b:Nat} (h:(limbs a).length≠(limbs b).length):eT (limbs a).length (limbs b).length=eT a b:=by
 rcases Nat.lt_or_ge (limbs a).length (limbs b).length with h' |h'
 ·rw[jD h',jD (og h')]
 ·have h'':(limbs b).length<(limbs a).length:=by omega
  rw[jE h'',jE (og h'')]
theorem Cs {a b k x y:Nat} (hx:(limbs a)[k]? =some x) (hy:(limbs b)[k]? =some y) (hne:x≠y) (hd:(limbs a).drop (k+1)=(limbs b).drop (k+1)):eT x y=eT a b:=by
 rcases Nat.lt_or_ge x y with h|h
 ·have:=jd (B:=4294967296) (ai a) hx hy h hd
  rw[show val 4294967296 (limbs a)=a from ag a,show val 4294967296 (limbs b)=b from ag b] at this
  rw[jD h,jD this]
 ·have h':y<x:=by omega
  have:=jd (B:=4294967296) (ai b) hy hx h' hd.symm
  rw[show val 4294967296 (limbs a)=a from ag a,show val 4294967296 (limbs b)=b from ag b] at this
  rw[jE h',jE this]
theorem FG {α:Type} {xs ys:List α} {k:Nat} {x:α} (hx:xs[k]? =some x) (hy:ys[k]? =some x) (h:xs.drop (k+1)=ys.drop (k+1)):xs.drop k=ys.drop k:=by
 have h1:xs.drop k=x::xs.drop (k+1):=by
  obtain⟨hl,e⟩:=List.getElem?_eq_some_iff.1 hx
  rw[List.drop_eq_getElem_cons hl,e]
 have h2:ys.drop k=x::ys.drop (k+1):=by
  obtain⟨hl,e⟩:=List.getElem?_eq_some_iff.1 hy
  rw[List.drop_eq_getElem_cons hl,e]
 rw[h1,h2,h]
set_option maxRecDepth 100000 in
theorem xZ (va vb:Value) (n m:Nat) (xs ys:List Nat) (w:World) (hr:Rd w 1 va n (ints .u32 xs)) (hs:Rd w 1 vb m (ints .u32 ys)) (hx:bI xs) (hy:bI ys):
  Calls Tryz.prog 179 #[va,vb] w λe w'=>e=.returned (.int .i64 (eT (af xs) (af ys)))/\∃ k,w'=w.drewN k:=by
 obtain⟨p,c,rfl,dK,eE,dT⟩:=hr.u32
 obtain⟨q,d,rfl,FH,Ci,iR⟩:=hs.u32
 obtain⟨a,ha⟩:∃ a,a=af xs:=⟨_,rfl⟩
 obtain⟨b,hb⟩:∃ b,b=af ys:=⟨_,rfl⟩
 have Hr:=Lib.hid hr
 have Hs:=Lib.hid hs
 have HL:=Lib.hid hx
 have HM:=Lib.hid hy
 have HX:=Lib.hid dT
 have HY:=Lib.hid iR
 rw[<-ha,<-hb]
 have HA:=Lib.hid ha
 have HB:=Lib.hid hb
 clear dT iR hx hy hr hs ha hb
 refine aA λR' bg=> ?_
 go_enter Tryz.func179,Tryz.ntmps179
 go_wp2_with fail
 refine (cK p n c xs _ Hr.out HL.out).mono ?_
 rintro e w1 ⟨⟨n',hn',rfl,IB⟩,rfl⟩
 have HLN:=Lib.hid IB
 clear IB
 go_wp2_with fail
 refine (cK q m d ys _ Hs.out HM.out).mono ?_
 rintro e w1 ⟨⟨m',hm',rfl,vZ⟩,rfl⟩
 have IC:=Lib.hid vZ
 clear vZ
 have HN:Hid ((limbs a).length=n'):=by show _=_;rw[HA.out,HLN.out,List.length_take,HX.out];omega
 have HMM:Hid ((limbs b).length=m'):=by show _=_;rw[HB.out,IC.out,List.length_take,HY.out];omega
 have hra:=Hr.out.limbs hn' HLN.out
 have FI:=Hs.out.limbs hm' IC.out
 rw[<-HA.out] at hra
 rw[<-HB.out] at FI
 have Hra:=Lib.hid hra
 have Hrb:=Lib.hid FI
 clear hra FI
 by_cases hne:n'=m'
 ·subst hne
  go_wp2_with fail
  go_loopw [5] (λiv wr=>∃ k dn:Nat,k<=n'/\iv=.int .i64 ((k:Int)-1)/\(limbs a).drop k=(limbs b).drop k/\wr=w.drewN dn) (λiv _=>(intOf iv+1).toNat)
  case atStart=>exact⟨n',0,Nat.le_refl _,rfl,by rw[List.drop_of_length_le (Nat.le_of_eq HN.out),List.drop_of_length_le (Nat.le_of_eq HMM.out)],rfl⟩
  case round=>
   obtain⟨k,dn,hk,rfl,hd,rfl⟩:=hrel
   have HD:=Lib.hid hd
   clear hd
   by_cases h0:k=0
   ·subst h0
    go_wp2
    exact bg.out _ _ ⟨kA (by rw[Fw (show limbs a=limbs b by simpa using HD.out),pI]),_,rfl⟩
   ·obtain⟨j,rfl⟩:∃ j,k=j+1:=⟨k-1,by omega⟩
    obtain⟨g1,o1,x,rfl,hg1,hx,kD⟩:=Hra.out.cellAt (k:=j) aa
    obtain⟨g2,o2,y,rfl,hg2,hy,zx⟩:=Hrb.out.cellAt (k:=j) aa
    have HXX:=Lib.hid hx
    have HYY:=Lib.hid hy
    have hjj:((j+1:Nat):Int)-1=(j:Int):=by omega
    clear hx hy h0 hg1 hg2
    rw[hjj]
    clear hjj
    by_cases Cj:x=y
    ·subst Cj
     have lg:((x:Int) != (x:Int))=false:=by simp
     go_wp2_with fail
     go_quiet (fail)
     go_wp2
     go_roundw
     case rel=>exact⟨j,_,by omega,rfl,FG HXX.out HYY.out HD.out,rfl⟩
     case measure=>simp[intOf]
    ·have lg:((x:Int) != (y:Int))=true:=by rw[bne_iff_ne];omega
     go_wp2_with fail
     go_quiet (fail)
     go_wp2_with fail
     go_quiet ((go_at_call 215;exact uc (uf x y _) ⟨_,rfl⟩))
     go_wp2
     exact bg.out _ _ ⟨kA (Cs HXX.out HYY.out Cj HD.out),_,by rw[World.drewN_drewN,World.drewN_drewN]⟩
 ·have FJ:((n':Int) != (m':Int))=true:=by rw[bne_iff_ne];omega
  go_wp2_with fail
  refine (ue n' m' _).mono ?_
  rintro e w1 ⟨rfl,rfl⟩
  go_wp2
  exact bg.out _ _ ⟨kA (by rw[<-HN.out,<-HMM.out];exact IA (by rw[HN.out,HMM.out];exact hne)),0,rfl⟩
def ug (w:World) (B g N:Nat) (xs ys:List Nat) (cv iv:Value) (wr:World):Prop:=
 ∃ (k carry:Nat) (ds:List Nat),k<=N/\ds.length=k/\iv=.int .i64 (k:Int)/\cv=.int .u32 (carry:Int)/\carry<=1/\bI ds/\
   af ds+4294967296^k*carry=af (xs.take k)+af (ys.take k)/\
   wr.ownsRow B 191 1 (.slice (some ⟨g,0,none⟩) (N+1) (N+1)) (N+1) (ints .u32 (ds++List.replicate (N+1-k) 0))/\Below B w wr
theorem ug.step {w wr:World} {B g N k carry x y:Nat} {xs ys ds:List Nat} (hk:k<N) (zy:ds.length=k) (hc:carry<=1) (hl:bI ds)
  (hv:af ds+4294967296^k*carry=af (xs.take k)+af (ys.take k)) (aw:wr.ownsRow B 191 1 (.slice (some ⟨g,0,none⟩) (N+1) (N+1)) (N+1) (ints .u32 (ds++List.replicate (N+1-k) 0)))
  (hb:Below B w wr) (hx:xs.getD k 0=x) (hy:ys.getD k 0=y) (jz:x<4294967296) (wT:y<4294967296):
  ug w B g N xs ys (.int .u32 (((x+y+carry)/4294967296:Nat):Int)) (.int .i64 ((k:Int)+1)) (wr.setCell ⟨g,k,none⟩ (.int .u32 (((x+y+carry)%4294967296:Nat):Int))):=by
 subst zy
 have e:N+1-ds.length=(N-ds.length)+1:=by omega
 rw[e] at aw
 have h1:=Own.pL (x:=(x+y+carry)%4294967296) aw
 refine⟨ds.length+1,(x+y+carry)/4294967296,ds++[(x+y+carry)%4294967296],by omega,by simp,rfl,rfl,?_,?_,?_,?_,?_⟩
 ·omega
 ·exact hl.append (bI.cons (Nat.mod_lt _ aa) bI.nil)
 ·rw[cT,aL,aL,hx,hy,Nat.pow_succ]
  exact zn _ _ x y carry _ _ _ hv rfl
 ·rw[show N+1-(ds.length+1)=N-ds.length by omega];exact h1
 ·exact hb.setCell (Own.lt aw).1 _
set_option maxRecDepth 100000 in
theorem Em (p q:Option Addr) (n c m d:Nat) (xs ys:List Nat) (w:World) (hr:Rd w 1 (.slice p n c) n (ints .u32 xs)) (hs:Rd w 1 (.slice q m d) m (ints .u32 ys)) (hx:bI xs) (hy:bI ys)
  (hn:n<=1073741824) (hmn:m<=n) (args:Array Value) (hargs:args=#[.slice p n c,.slice q m d]\/m<n/\args=#[.slice q m d,.slice p n c]):
  Calls Tryz.prog 177 args w λe w'=>∃ v',e=.returned v'/\w'.ownsRow w.heap.size 191 1 v' (limbs (af xs+af ys)).length (ints .u32 (limbs (af xs+af ys)))/\Below w.heap.size w w':=by
 obtain⟨p',c',hv,dK,eE,dT⟩:=hr.u32
 simp only[Value.slice.injEq,true_and] at hv
 obtain⟨rfl,rfl⟩:=hv
 obtain⟨q',d',hv,FH,Ci,iR⟩:=hs.u32
 simp only[Value.slice.injEq,true_and] at hv
 obtain⟨rfl,rfl⟩:=hv
 have Hr:=Lib.hid hr
 have Hs:=Lib.hid hs
 have HL:=Lib.hid hx
 have HM:=Lib.hid hy
 have HX:=Lib.hid dT
 have HY:=Lib.hid iR
 obtain⟨i0,hi,jA,lp,mj⟩:=info_parts gX
 obtain⟨B,hB⟩:∃ B,B=w.heap.size:=⟨_,rfl⟩
 have HB:=Lib.hid hB
 rw[<-hB]
 clear dT iR hx hy hr hs hB
 rcases hargs with rfl|⟨hlt,rfl⟩
 all_goals
  refine aA λR' bg=> ?_
  go_enter Tryz.func177,Tryz.ntmps177
  go_wp2_with (at_make;refine wpList_make_full _ rfl _ _ 30 rfl B 191 i0 (.int .u32 0) 1 Tryz.underlying30 hi jA lp .i64 .i64 _ _ (n+1) rfl rfl aa aa (by rw[mj];omega) (by unfold maxLen;omega) (Nat.le_of_eq HB.out) ?_;intro w1 aw zw)
  have Ct:=Lib.hid (Own.made aw)
  have Hb1:Hid (Below B w w1):=(Below.refl _ _).grown zw (Nat.le_of_eq HB.out) (λk hk=>by cases hk)
  clear aw zw
  go_loopw [6,22] (λcv iv wr=>ug w B w.heap.size n xs ys cv iv wr) (λ_ iv _=>n-(intOf iv).toNat)
  case atStart=>exact⟨0,0,[],Nat.zero_le _,rfl,rfl,rfl,by omega,bI.nil,by simp[da],Ct.out,Hb1.out⟩
  case round=>
   obtain⟨k,carry,ds,hk,zy,rfl,rfl,nR,hl,hv,aw,hb⟩:=hrel
   have HO:=Lib.hid aw
   have ya:=Lib.hid zy
   have HV:=Lib.hid hv
   have wU:=Lib.hid hl
   have fw:=Lib.hid hb
   clear aw zy hv hl hb
   have tq:B<=wr.heap.size:=by have:=fw.out.size;have:=HB.out;omega
   by_cases qP:k<n
   ·obtain⟨b1,o1,x,rfl,aB,ew,kD⟩:=(Hr.out.gK HB.out fw.out).cellAt qP
    have tr:=Lib.hid ew
    have jz:=HL.out.at ew
    have e:n+1-k=(n-k)+1:=by omega
    have lz:=HO.out
    rw[e] at lz
    obtain⟨hcell,wh⟩:=Own.tn lz
    rw[ya.out] at hcell wh
    clear e lz ew
    by_cases Cu:k<m
    ·obtain⟨b2,o2,y,rfl,aQ,mg,zx⟩:=(Hs.out.gK HB.out fw.out).cellAt Cu
     have En:=Lib.hid mg
     have wT:=HM.out.at mg
     clear mg
     go_wp2_with fail
     refine (kC x y carry _ jz wT aa).mono ?_
     rintro e w2 ⟨rfl,rfl⟩
     go_wp2_with fail
     go_roundw
     case rel=>exact ug.step qP ya.out nR wU.out HV.out HO.out fw.out (by simp[List.getD,tr.out]) (by simp[List.getD,En.out]) jz wT
     case measure=>simp[intOf];omega
    ·have Fv:Hid (ys.getD k 0=0):=by show _=_;rw[List.getD,List.getElem?_eq_none (by rw[HY.out];omega)];rfl
     go_wp2_with fail
     refine (kC x 0 carry _ jz aa aa).mono ?_
     rintro e w2 ⟨rfl,rfl⟩
     go_wp2_with fail
     go_roundw
     case rel=>exact ug.step qP ya.out nR wU.out HV.out HO.out fw.out (by simp[List.getD,tr.out]) Fv.out jz aa
     case measure=>simp[intOf];omega
   ·obtain rfl:k=n:=by omega
    have e:k+1-k=0+1:=by omega
    have lz:=HO.out
    rw[e] at lz
    obtain⟨hcell,wh⟩:=Own.tn lz
    have hst:=Own.pL (x:=carry) lz
    rw[ya.out] at hcell wh hst
    have HST:=Lib.hid hst
    clear e lz hst
    go_wp2_with fail
    have hval:Hid (af (ds++[carry])=af xs+af ys):=by
     show _=_
     rw[cT,ya.out,HV.out,aU (Nat.le_of_eq HX.out),aU (by rw[HY.out];exact hmn)]
    refine (cK _ (k+1) (k+1) (ds++[carry]) _ (by have:=Rd.own HST.out;simpa using this) (wU.out.append (bI.cons aa bI.nil))).mono ?_
    rintro e w2 ⟨⟨r,hr,rfl,Ck⟩,rfl⟩
    have HW:=Lib.hid Ck
    clear Ck
    go_wp2_with fail
    refine bg.out _ _ ⟨_,rfl,?_,fw.out.setCell (p:=⟨w.heap.size,k,none⟩) (Nat.le_of_eq HB.out) _⟩
    have h2:=HST.out
    rw[List.replicate_zero,List.append_nil] at h2
    have h3:=Own.limbs h2 hr HW.out
    have e:(limbs (af (ds++[carry]))).length=r:=by rw[HW.out,List.length_take,List.length_append,ya.out];simp;omega
    rw[hval.out] at h3 e
    rw[e];exact h3
theorem Eo (va vb:Value) (n m:Nat) (xs ys:List Nat) (w:World) (hr:Rd w 1 va n (ints .u32 xs)) (hs:Rd w 1 vb m (ints .u32 ys)) (hx:bI xs) (hy:bI ys) (hn:n<=1073741824) (hm:m<=1073741824):
  Calls Tryz.prog 177 #[va,vb] w λe w'=>∃ v',e=.returned v'/\w'.ownsRow w.heap.size 191 1 v' (limbs (af xs+af ys)).length (ints .u32 (limbs (af xs+af ys)))/\Below w.heap.size w w':=by
 obtain⟨p,c,rfl,_,_,_⟩:=hr.u32
 obtain⟨q,d,rfl,_,_,_⟩:=hs.u32
 rcases Nat.lt_or_ge n m with h|h
 ·rw[Nat.add_comm (af xs)]
  exact Em q p m d n c ys xs w hs hr hy hx hm aa _ (.inr ⟨h,rfl⟩)
 ·exact Em p q n c m d xs ys w hr hs hx hy hn h _ (.inl rfl)
def yb (w:World) (B g N m:Nat) (xs:List Nat) (cv iv:Value) (wr:World):Prop:=
 ∃ (k carry:Nat) (ds:List Nat),k<=N/\ds.length=k/\iv=.int .i64 (k:Int)/\cv=.int .u32 (carry:Int)/\carry<4294967296/\bI ds/\
   af ds+4294967296^k*carry=af (xs.take k)*m/\
   wr.ownsRow B 191 1 (.slice (some ⟨g,0,none⟩) (N+1) (N+1)) (N+1) (ints .u32 (ds++List.replicate (N+1-k) 0))/\Below B w wr
theorem wW (x m c:Nat) (hx:x<4294967296) (hm:m<4294967296) (hc:c<4294967296):(x*m+c)/4294967296<4294967296:=by
 have h1:x*m<=4294967295*4294967295:=Nat.mul_le_mul aa aa
 omega
theorem wY (x m c:Nat):x*m/4294967296+(x*m%4294967296+c)/4294967296=(x*m+c)/4294967296/\(x*m%4294967296+c)%4294967296=(x*m+c)%4294967296:=by
 generalize x*m=p;omega
theorem yb.step {w wr:World} {B g N k carry x m:Nat} {xs ds:List Nat} {c s:Int} (hk:k<N) (zy:ds.length=k) (hm:m<4294967296) (hc:carry<4294967296) (hl:bI ds)
  (hv:af ds+4294967296^k*carry=af (xs.take k)*m) (aw:wr.ownsRow B 191 1 (.slice (some ⟨g,0,none⟩) (N+1) (N+1)) (N+1) (ints .u32 (ds++List.replicate (N+1-k) 0)))
  (hb:Below B w wr) (hx:xs[k]? =some x) (jz:x<4294967296) (he:c=(((x*m+carry)/4294967296:Nat):Int)) (hs:s=(((x*m%4294967296+carry)%4294967296:Nat):Int)):
  yb w B g N m xs (.int .u32 c) (.int .i64 ((k:Int)+1)) (wr.setCell ⟨g,k,none⟩ (.int .u32 s)):=by
 subst zy
 subst he
 subst hs
 have e:N+1-ds.length=(N-ds.length)+1:=by omega
 rw[e] at aw
 have h1:=Own.pL (x:=(x*m+carry)%4294967296) aw
 rw[(wY x m carry).2]
 refine⟨ds.length+1,(x*m+carry)/4294967296,ds++[(x*m+carry)%4294967296],by omega,by simp,rfl,rfl,wW x m carry jz hm hc,?_,?_,?_,?_⟩
 ·exact hl.append (bI.cons (Nat.mod_lt _ aa) bI.nil)
 ·rw[cT,aL,Nat.pow_succ,List.getD,hx]
  exact Iu _ x m carry _ _ hv
 ·rw[show N+1-(ds.length+1)=N-ds.length by omega];exact h1
 ·exact hb.setCell (Own.lt aw).1 _
set_option maxRecDepth 100000 in
theorem yc (va:Value) (n m:Nat) (xs:List Nat) (w:World) (hr:Rd w 1 va n (ints .u32 xs)) (hx:bI xs) (hn:n<=1073741824) (hm:m<4294967296):
  Calls Tryz.prog 239 #[va,.int .u32 (m:Int)] w λe w'=>∃ v',e=.returned v'/\w'.ownsRow w.heap.size 191 1 v' (limbs (af xs*m)).length (ints .u32 (limbs (af xs*m)))/\Below w.heap.size w w':=by
 obtain⟨p,c,rfl,dK,eE,dT⟩:=hr.u32
 have Hr:=Lib.hid hr
 have HL:=Lib.hid hx
 have HX:=Lib.hid dT
 obtain⟨i0,hi,jA,lp,mj⟩:=info_parts gX
 obtain⟨B,hB⟩:∃ B,B=w.heap.size:=⟨_,rfl⟩
 have HB:=Lib.hid hB
 rw[<-hB]
 clear dT hx hr hB
 refine aA λR' bg=> ?_
 go_enter Tryz.func239,Tryz.ntmps239
 go_wp2_with (at_make;refine wpList_make_full _ rfl _ _ 30 rfl B 191 i0 (.int .u32 0) 1 Tryz.underlying30 hi jA lp .i64 .i64 _ _ (n+1) rfl rfl aa aa (by rw[mj];omega) (by unfold maxLen;omega) (Nat.le_of_eq HB.out) ?_;intro w1 aw zw)
 have Ct:=Lib.hid (Own.made aw)
 have Hb1:Hid (Below B w w1):=(Below.refl _ _).grown zw (Nat.le_of_eq HB.out) (λk hk=>by cases hk)
 clear aw zw
 go_loopw [6,19] (λcv iv wr=>yb w B w.heap.size n m xs cv iv wr) (λ_ iv _=>n-(intOf iv).toNat)
 case atStart=>exact⟨0,0,[],Nat.zero_le _,rfl,rfl,rfl,by omega,bI.nil,by simp[da],Ct.out,Hb1.out⟩
 case round=>
  obtain⟨k,carry,ds,hk,zy,rfl,rfl,nR,hl,hv,aw,hb⟩:=hrel
  have HO:=Lib.hid aw
  have ya:=Lib.hid zy
  have HV:=Lib.hid hv
  have wU:=Lib.hid hl
  have fw:=Lib.hid hb
  clear aw zy hv hl hb
  by_cases qP:k<n
  ·obtain⟨b1,o1,x,rfl,aB,ew,kD⟩:=(Hr.out.gK HB.out fw.out).cellAt qP
   have tr:=Lib.hid ew
   have jz:=HL.out.at ew
   have e:n+1-k=(n-k)+1:=by omega
   have lz:=HO.out
   rw[e] at lz
   obtain⟨hcell,wh⟩:=Own.tn lz
   rw[ya.out] at hcell wh
   clear e lz ew
   have h1:(x*m+carry)/4294967296<4294967296:=wW x m carry jz hm nR
   have h2:=(wY x m carry).1
   have h3:(0:Int)<=((x*m/4294967296:Nat):Int)+(((x*m%4294967296+carry+0)/4294967296:Nat):Int)/\((x*m/4294967296:Nat):Int)+(((x*m%4294967296+carry+0)/4294967296:Nat):Int)<4294967296:=by omega
   have H2:Hid (((x*m/4294967296:Nat):Int)+(((x*m%4294967296+carry+0)/4294967296:Nat):Int)=(((x*m+carry)/4294967296:Nat):Int)):=by show _=_;omega
   obtain⟨h3a,h3b⟩:=h3
   clear h2 h1
   go_wp2_with fail
   refine (FE x m _ jz hm).mono ?_
   rintro e w2 ⟨rfl,rfl⟩
   go_wp2_with fail
   refine (kC (x*m%4294967296) carry 0 _ (Nat.mod_lt _ aa) nR aa).mono ?_
   rintro e w2 ⟨rfl,rfl⟩
   go_wp2_with fail
   go_roundw
   case rel=>exact yb.step qP ya.out hm nR wU.out HV.out HO.out fw.out tr.out jz (by have:=H2.out;omega) aa
   case measure=>simp[intOf];omega
  ·obtain rfl:k=n:=by omega
   have e:k+1-k=0+1:=by omega
   have lz:=HO.out
   rw[e] at lz
   obtain⟨hcell,wh⟩:=Own.tn lz
   have hst:=Own.pL (x:=carry) lz
   rw[ya.out] at hcell wh hst
   have HST:=Lib.hid hst
   clear e lz hst
   go_wp2_with fail
   have hval:Hid (af (ds++[carry])=af xs*m):=by
    show _=_
    rw[cT,ya.out,HV.out,aU (Nat.le_of_eq HX.out)]
   refine (cK _ (k+1) (k+1) (ds++[carry]) _ (by have:=Rd.own HST.out;simpa using this) (wU.out.append (bI.cons aa bI.nil))).mono ?_
   rintro e w2 ⟨⟨r,hr,rfl,Ck⟩,rfl⟩
   have HW:=Lib.hid Ck
   clear Ck
   go_wp2_with fail
   refine bg.out _ _ ⟨_,rfl,?_,fw.out.setCell (p:=⟨w.heap.size,k,none⟩) (Nat.le_of_eq HB.out) _⟩
   have h2:=HST.out
   rw[List.replicate_zero,List.append_nil] at h2
   have h3:=Own.limbs h2 hr HW.out
   have e:(limbs (af (ds++[carry]))).length=r:=by rw[HW.out,List.length_take,List.length_append,ya.out];simp;omega
   rw[hval.out] at h3 e
   rw[e];exact h3
def yd (w:World) (B:Nat) (qv:Value) (n d:Nat) (xs:List Nat) (iv rv:Value) (wr:World):Prop:=
 ∃ (k r:Nat) (qs:List Nat),k<=n/\qs.length=n-k/\iv=.int .i64 ((k:Int)-1)/\rv=.int .u32 (r:Int)/\r<d/\bI qs/\
   af qs*d+r=af (xs.drop k)/\wr.ownsRow B 191 1 qv n (ints .u32 (xs.take k++qs))/\Below B w wr
theorem ID (d r x Q X:Nat) (h:Q*d+r=X):
  ((r*4294967296+x)/d+4294967296*Q)*d+(r*4294967296+x)%d=x+4294967296*X:=by
 subst h
 have h2:=Nat.mod_add_div (r*4294967296+x) d
 rw[Nat.mul_comm d] at h2
 rw[Nat.add_mul,Nat.mul_add,Nat.mul_assoc]
 omega
theorem div_lt (d r x:Nat) (hr:r<d) (hx:x<4294967296):(r*4294967296+x)/d<4294967296:=by
 rw[Nat.div_lt_iff_lt_mul aa]
 have:(r+1)*4294967296<=d*4294967296:=Nat.mul_le_mul_right _ hr
 rw[Nat.mul_comm 4294967296 d];omega
theorem uh {xs:List Nat} {k x:Nat} (h:xs[k]? =some x):af (xs.drop k)=x+4294967296*af (xs.drop (k+1)):=by
 obtain⟨hl,e⟩:=List.getElem?_eq_some_iff.1 h
 rw[List.drop_eq_getElem_cons hl,e,dS]
theorem ye {xs qs:List Nat} {k x:Nat} (hk:k<xs.length):(xs.take (k+1)++qs).set k x=xs.take k++x::qs:=by
 have h1:xs.take (k+1)=xs.take k++[xs[k]]:=bb (List.getElem?_eq_getElem hk)
 rw[h1,List.append_assoc,List.set_append_right _ _ (by rw[List.length_take];omega)]
 congr 1
 rw[List.length_take,Nat.min_eq_left aa,Nat.sub_self];rfl
theorem yd.step {w wr:World} {B g cap n d j r x dn:Nat} {xs qs:List Nat} {q s:Int} (hj:j+1<=n) (hn:xs.length=n) (hqs:qs.length=n-(j+1)) (hr:r<d) (hl:bI qs)
  (hv:af qs*d+r=af (xs.drop (j+1))) (aw:wr.ownsRow B 191 1 (.slice (some ⟨g,0,none⟩) n cap) n (ints .u32 (xs.take (j+1)++qs))) (hb:Below B w wr)
  (hx:xs[j]? =some x) (jz:x<4294967296) (he:q=(((r*4294967296+x)/d:Nat):Int)) (hs:s=(((r*4294967296+x)%d:Nat):Int)):
  yd w B (.slice (some ⟨g,0,none⟩) n cap) n d xs (.int .i64 ((j:Int)-1)) (.int .u32 s) ((wr.drewN dn).setCell ⟨g,j,none⟩ (.int .u32 q)):=by
 subst he
 subst hs
 refine⟨j,(r*4294967296+x)%d,(r*4294967296+x)/d::qs,by omega,by simp;omega,rfl,rfl,Nat.mod_lt _ aa,bI.cons (div_lt d r x hr jz) hl,?_,?_,?_⟩
 ·rw[dS,uh hx,<-hv]
  exact ID d r x _ _ rfl
 ·have h1:=Own.eU (j:=j) (x:=(r*4294967296+x)/d) (Own.drewN aw dn)
  rwa [ye aa] at h1
 ·exact (Below.drewN hb dn).setCell (Own.lt aw).1 _
set_option maxRecDepth 100000 in
theorem pN (va:Value) (n d:Nat) (xs:List Nat) (w:World) (hr:Rd w 1 va n (ints .u32 xs)) (hx:bI xs) (hn:n<=1073741824) (hd:d<4294967296):
  Calls Tryz.prog 207 #[va,.int .u32 (d:Int)] w λe w'=>((d=0/\e=.returned (.tuple #[.slice none 0 0,.int .u32 0,.int .i64 20]))\/
   (d≠0/\∃ v',e=.returned (.tuple #[v',.int .u32 ((af xs%d:Nat):Int),.int .i64 0])/\w'.ownsRow w.heap.size 191 1 v' (limbs (af xs/d)).length (ints .u32 (limbs (af xs/d)))))/\Below w.heap.size w w':=by
 obtain⟨p,c,rfl,dK,eE,dT⟩:=hr.u32
 have Hr:=Lib.hid hr
 have HL:=Lib.hid hx
 have HX:=Lib.hid dT
 clear dT hx hr
 by_cases hd0:d=0
 ·have hdb:((d:Int) == 0)=true:=by rw[beq_iff_eq];omega
  have HD:=Lib.hid hd0
  clear hd0
  refine aA λR' bg=> ?_
  go_enter Tryz.func207,Tryz.ntmps207
  go_wp2
  go_ret3
  exact bg.out _ _ ⟨.inl ⟨HD.out,rfl⟩,Below.refl _ _⟩
 ·obtain⟨B,hB⟩:∃ B,B=w.heap.size:=⟨_,rfl⟩
  have HB:=Lib.hid hB
  rw[<-hB]
  clear hB
  have hdb:((d:Int) == 0)=false:=by rw[beq_eq_false_iff_ne];omega
  refine aA λR' bg=> ?_
  go_enter Tryz.func207,Tryz.ntmps207
  go_wp2_with fail
  refine (gM _ n xs _ Hr.out hn).mono ?_
  rintro e w1 ⟨qv,rfl,aw,hb⟩
  rw[<-HB.out] at aw hb
  obtain⟨qp,qc,rfl,_,_,_⟩:=Own.form aw
  have HO:=Lib.hid aw
  have fw:=Lib.hid hb
  clear aw hb
  go_wp2_with fail
  go_loopw [7,5] (λiv rv wr=>yd w B (.slice qp n qc) n d xs iv rv wr) (λiv _ _=>(intOf iv+1).toNat)
  case atStart=>exact⟨n,0,[],Nat.le_refl _,by simp,rfl,rfl,by omega,bI.nil,by rw[List.drop_of_length_le (Nat.le_of_eq HX.out)];simp[da],by rw[List.take_of_length_le (Nat.le_of_eq HX.out),List.append_nil];exact HO.out,fw.out⟩
  case round=>
   obtain⟨k,r,qs,hk,hqs,rfl,rfl,qL,hl,hv,aw,hb⟩:=hrel
   have mh:=Lib.hid aw
   have HQS:=Lib.hid hqs
   have HV:=Lib.hid hv
   have wU:=Lib.hid hl
   have mJ:=Lib.hid hb
   clear aw hqs hv hl hb
   by_cases h0:k=0
   ·subst h0
    go_wp2_with fail
    refine (cK _ n qc qs _ (by have:=Rd.own mh.out;simpa using this) wU.out).mono ?_
    rintro e w2 ⟨⟨m,hm,rfl,vZ⟩,rfl⟩
    have IC:=Lib.hid vZ
    clear vZ
    go_wp2_with fail
    go_ret3
    have hv:=HV.out
    rw[List.drop_zero] at hv
    have hq:af xs/d=af qs:=by rw[<-hv,Nat.add_comm,Nat.add_mul_div_right _ _ aa,Nat.div_eq_of_lt qL,Nat.zero_add]
    have hm':af xs%d=r:=by rw[<-hv,Nat.add_comm,Nat.add_mul_mod_self_right,Nat.mod_eq_of_lt qL]
    refine bg.out _ _ ⟨.inr ⟨hd0,.slice qp m qc,by rw[hm'];rfl,?_⟩,mJ.out⟩
    have h2:=mh.out
    rw[List.take_zero,List.nil_append] at h2
    have h3:=Own.limbs h2 hm IC.out
    have e:(limbs (af qs)).length=m:=by rw[IC.out,List.length_take,HQS.out];omega
    rw[hq,e];exact h3
   ·obtain⟨j,rfl⟩:∃ j,k=j+1:=⟨k-1,by omega⟩
    obtain⟨g,qc',hv,hbg,Cv⟩:=Own.tj mh.out aa
    simp only[Value.slice.injEq,true_and] at hv
    obtain⟨rfl,rfl⟩:=hv
    obtain⟨x,hx,hcell,wh⟩:=Own.fq mh.out (j:=j) aa
    have ew:xs[j]? =some x:=by
     rw[List.getElem?_append_left (by rw[List.length_take,HX.out];omega),List.getElem?_take] at hx
     simpa using hx
    have tr:=Lib.hid ew
    have jz:=HL.out.at ew
    have hjj:((j+1:Nat):Int)-1=(j:Int):=by omega
    rw[hjj]
    clear hx ew h0 hjj
    go_wp2_with fail
    refine (FF r x d _ qL jz hd).mono ?_
    rintro e w2 ⟨rfl,dn,rfl⟩
    go_wp2_with fail
    go_roundw
    case rel=>exact yd.step aa HX.out HQS.out qL wU.out HV.out mh.out mJ.out tr.out jz cS cS
    case measure=>simp[intOf]
def ui (w:World) (B:Nat) (ov:Value) (n:Nat) (xs ys:List Nat) (bv iv:Value) (wr:World):Prop:=
 ∃ (k r:Nat) (ds:List Nat),k<=n/\ds.length=k/\iv=.int .i64 (k:Int)/\bv=.int .u32 (r:Int)/\r<=1/\bI ds/\
   af ds+af (ys.take k)=af (xs.take k)+4294967296^k*r/\wr.ownsRow B 191 1 ov n (ints .u32 (ds++xs.drop k))/\Below B w wr
theorem yf {xs ds:List Nat} {x:Nat} (hk:ds.length<xs.length):(ds++xs.drop ds.length).set ds.length x=(ds++[x])++xs.drop (ds.length+1):=by
 rw[List.set_append_right _ _ (Nat.le_refl _),Nat.sub_self,List.drop_eq_getElem_cons hk,List.set_cons_zero,List.append_assoc];rfl
theorem IE (p x y r d r' X Y D:Nat) (h:D+Y=X+p*r) (hs:x+4294967296*r'=d+y+r):(D+p*d)+(Y+p*y)=(X+p*x)+p*4294967296*r':=by
 have h2:p*(x+4294967296*r')=p*(d+y+r):=by rw[hs]
 rw[Nat.mul_add,Nat.mul_add,Nat.mul_add,<-Nat.mul_assoc] at h2
 omega
theorem ui.step {w wr:World} {B g cap n k r x y d r':Nat} {xs ys ds:List Nat} (hk:k<n) (hn:xs.length=n) (zy:ds.length=k) (hl:bI ds)
  (hv:af ds+af (ys.take k)=af (xs.take k)+4294967296^k*r) (aw:wr.ownsRow B 191 1 (.slice (some ⟨g,0,none⟩) n cap) n (ints .u32 (ds++xs.drop k))) (hb:Below B w wr)
  (hx:xs.getD k 0=x) (hy:ys.getD k 0=y) (hd:d<4294967296) (Cw:r'<=1) (he:x+4294967296*r'=d+y+r):
  ui w B (.slice (some ⟨g,0,none⟩) n cap) n xs ys (.int .u32 (r':Int)) (.int .i64 ((k:Int)+1)) (wr.setCell ⟨g,k,none⟩ (.int .u32 (d:Int))):=by
 subst zy
 have h1:=Own.eU (j:=ds.length) (x:=d) aw
 rw[yf aa] at h1
 refine⟨ds.length+1,r',ds++[d],by omega,by simp,rfl,rfl,Cw,hl.append (bI.cons hd bI.nil),?_,h1,hb.setCell (Own.lt aw).1 _⟩
 rw[cT,aL,aL,hx,hy,Nat.pow_succ]
 exact IE _ x y r d r' _ _ _ hv he
set_option maxRecDepth 100000 in
theorem yg (va vb:Value) (n m:Nat) (xs ys:List Nat) (w:World) (hr:Rd w 1 va n (ints .u32 xs)) (hs:Rd w 1 vb m (ints .u32 ys)) (hx:bI xs) (hy:bI ys) (hn:n<=1073741824):
  Calls Tryz.prog 178 #[va,vb] w λe w'=>((af xs<af ys/\e=.returned (.tuple #[.slice none 0 0,.int .i64 2]))\/
   (af ys<=af xs/\∃ v',e=.returned (.tuple #[v',.int .i64 0])/\w'.ownsRow w.heap.size 191 1 v' (limbs (af xs-af ys)).length (ints .u32 (limbs (af xs-af ys)))))/\Below w.heap.size w w':=by
 obtain⟨p,c,rfl,dK,eE,dT⟩:=hr.u32
 obtain⟨q,d,rfl,FH,Ci,iR⟩:=hs.u32
 obtain⟨a,ha⟩:∃ a,a=af xs:=⟨_,rfl⟩
 obtain⟨b,hb⟩:∃ b,b=af ys:=⟨_,rfl⟩
 have Hr:=Lib.hid hr
 have Hs:=Lib.hid hs
 have HL:=Lib.hid hx
 have HM:=Lib.hid hy
 have HX:=Lib.hid dT
 have HY:=Lib.hid iR
 rw[<-ha,<-hb]
 have HA:=Lib.hid ha
 have HB:=Lib.hid hb
 clear dT iR hx hy hr hs ha hb
 refine aA λR' bg=> ?_
 go_enter Tryz.func178,Tryz.ntmps178
 go_wp2_with fail
 refine (cK p n c xs _ Hr.out HL.out).mono ?_
 rintro e w1 ⟨⟨n',hn',rfl,IB⟩,rfl⟩
 have HLN:=Lib.hid IB
 clear IB
 go_wp2_with fail
 refine (cK q m d ys _ Hs.out HM.out).mono ?_
 rintro e w1 ⟨⟨m',hm',rfl,vZ⟩,rfl⟩
 have IC:=Lib.hid vZ
 clear vZ
 have HN:Hid ((limbs a).length=n'):=by show _=_;rw[HA.out,HLN.out,List.length_take,HX.out];omega
 have HMM:Hid ((limbs b).length=m'):=by show _=_;rw[HB.out,IC.out,List.length_take,HY.out];omega
 have hra:=Hr.out.limbs hn' HLN.out
 have FI:=Hs.out.limbs hm' IC.out
 rw[<-HA.out] at hra
 rw[<-HB.out] at FI
 have Hra:=Lib.hid hra
 have Hrb:=Lib.hid FI
 clear hra FI
 go_wp2_with fail
 refine (xZ _ _ n' m' (limbs a) (limbs b) _ Hra.out Hrb.out (ai a) (ai b)).mono ?_
 rintro e w1 ⟨rfl,dn,rfl⟩
 rw[ag,ag]
 by_cases tf:a<b
 ·have hc:eT a b<0:=gZ.2 tf
  generalize eT a b=cv at hc ⊢
  go_wp2_with fail
  exact bg.out _ _ ⟨.inl ⟨tf,rfl⟩,Below.drewN (Below.refl _ _) _⟩
 ·have hc:0<=eT a b:=by have:=mt (@gZ a b).1 tf;omega
  generalize eT a b=cv at hc ⊢
  have hmn:m'<=n':=by rw[<-HN.out,<-HMM.out];exact cd aa
  obtain⟨B,hB⟩:∃ B,B=w.heap.size:=⟨_,rfl⟩
  have HBB:=Lib.hid hB
  rw[<-hB] at bg
  clear hB
  go_wp2_with fail
  refine (gM _ n' (limbs a) _ (Rd.drewN Hra.out dn) aa).mono ?_
  rintro e w1 ⟨qv,rfl,aw,hb⟩
  have hb:Below B w w1:=by rw[HBB.out];exact (Below.drewN (Below.refl _ _) dn).trans hb
  have aw:w1.ownsRow B 191 1 qv n' (ints .u32 (limbs a)):=by rw[HBB.out];exact aw
  obtain⟨qp,qc,rfl,_,_,_⟩:=Own.form aw
  have HO:=Lib.hid aw
  have fw:=Lib.hid hb
  clear aw hb
  go_wp2_with fail
  go_loopw [7,22] (λbv iv wr=>ui w B (.slice qp n' qc) n' (limbs a) (limbs b) bv iv wr) (λ_ iv _=>n' -(intOf iv).toNat)
  case atStart=>exact⟨0,0,[],Nat.zero_le _,rfl,rfl,rfl,by omega,bI.nil,by simp[da],by simpa using HO.out,fw.out⟩
  case round=>
   obtain⟨k,r,ds,hk,zy,rfl,rfl,jF,hl,hv,aw,hb⟩:=hrel
   have mh:=Lib.hid aw
   have ya:=Lib.hid zy
   have HV:=Lib.hid hv
   have wU:=Lib.hid hl
   have mJ:=Lib.hid hb
   clear aw zy hv hl hb
   by_cases qP:k<n'
   ·obtain⟨g,qc',hv,hbg,Cv⟩:=Own.tj mh.out aa
    simp only[Value.slice.injEq,true_and] at hv
    obtain⟨rfl,rfl⟩:=hv
    obtain⟨x,hx,hcell,wh⟩:=Own.fq mh.out (j:=k) aa
    have ew:(limbs a)[k]? =some x:=by
     rw[List.getElem?_append_right (by rw[ya.out];omega),ya.out,List.getElem?_drop] at hx
     simpa using hx
    have tr:=Lib.hid ew
    have jz:=(ai a).at ew
    clear hx ew
    by_cases Cu:k<m'
    ·obtain⟨b2,o2,y,rfl,aQ,mg,zx⟩:=(Hrb.out.gK HBB.out mJ.out).cellAt Cu
     have En:=Lib.hid mg
     have wT:=(ai b).at mg
     clear mg
     go_wp2_with fail
     refine (wS x y r _ jz wT aa).mono ?_
     rintro e w2 ⟨⟨dd,rr,rfl,hdd,hrr,heq⟩,rfl⟩
     have HEQ:=Lib.hid heq
     clear heq
     go_wp2_with fail
     go_roundw
     case rel=>exact ui.step qP HN.out ya.out wU.out HV.out mh.out mJ.out (by simp[List.getD,tr.out]) (by simp[List.getD,En.out]) hdd hrr HEQ.out
     case measure=>simp[intOf];omega
    ·have Fv:Hid ((limbs b).getD k 0=0):=by show _=_;rw[List.getD,List.getElem?_eq_none (by rw[HMM.out];omega)];rfl
     go_wp2_with fail
     refine (wS x 0 r _ jz aa aa).mono ?_
     rintro e w2 ⟨⟨dd,rr,rfl,hdd,hrr,heq⟩,rfl⟩
     have HEQ:=Lib.hid heq
     clear heq
     go_wp2_with fail
     go_roundw
     case rel=>exact ui.step qP HN.out ya.out wU.out HV.out mh.out mJ.out (by simp[List.getD,tr.out]) Fv.out hdd hrr HEQ.out
     case measure=>simp[intOf];omega
   ·obtain rfl:k=n':=by omega
    go_wp2_with fail
    have h2:=mh.out
    rw[List.drop_of_length_le (Nat.le_of_eq HN.out),List.append_nil] at h2
    refine (cK _ k qc ds _ (Rd.own h2) wU.out).mono ?_
    rintro e w2 ⟨⟨s,hs,rfl,hls⟩,rfl⟩
    have HLS:=Lib.hid hls
    clear hls
    go_wp2_with fail
    have hval:af ds=a-b:=by
     have h1:=HV.out
     rw[aU (Nat.le_of_eq HN.out),aU (by rw[HMM.out];exact hmn),ag,ag] at h1
     have h3:=fv wU.out
     rw[ya.out] at h3
     have:r=0:=by
      rcases Nat.eq_zero_or_pos r with h|h
      ·exact h
      ·have:r=1:=by omega
       subst this
       omega
     subst this
     omega
    refine bg.out _ _ ⟨.inr ⟨by omega,.slice qp s qc,rfl,?_⟩,mJ.out⟩
    have h3:=Own.limbs h2 hs HLS.out
    have e:(limbs (af ds)).length=s:=by rw[HLS.out,List.length_take,ya.out];omega
    rw[hval] at h3 e
    rw[e];exact h3
def fV (w:World) (v:Value) (rows:List (List Nat)):Prop:=
 ∃ vs:List Value,Rd w 1 v rows.length vs/\∀ (i:Nat) (xs:List Nat),rows[i]? =some xs->∃ u,vs[i]? =some u/\Rd w 1 u xs.length (ints .u32 xs)
theorem fV.below {w w':World} {v:Value} {rows:List (List Nat)} (h:fV w v rows) (hb:Below w.heap.size w w'):fV w' v rows:=by
 obtain⟨vs,h1,h2⟩:=h
 refine⟨vs,h1.below hb,λi xs hi=> ?_⟩
 obtain⟨u,hu,hr⟩:=h2 i xs hi
 exact⟨u,hu,hr.below hb⟩
theorem fV.at {w:World} {p:Option Addr} {n c k:Nat} {rows:List (List Nat)} (h:fV w (.slice p n c) rows) (hk:k<rows.length):
  ∃ b off u xs,p=some ⟨b,off,none⟩/\rows[k]? =some xs/\w.cell? ⟨b,off+k,none⟩=some u/\Rd w 1 u xs.length (ints .u32 xs):=by
 obtain⟨vs,⟨p',c',hv,_,_,h3,h4⟩,h2⟩:=h
 simp only[Value.slice.injEq] at hv
 obtain⟨rfl,rfl,rfl⟩:=hv
 obtain⟨b,off,hp,hc⟩:=h4 aa
 obtain⟨u,hu,hr⟩:=h2 k _ (List.getElem?_eq_getElem hk)
 exact⟨b,off,u,_,hp,List.getElem?_eq_getElem hk,hc k u hu,hr⟩
theorem fV.form {w:World} {v:Value} {rows:List (List Nat)} (h:fV w v rows):∃ p c,v=.slice p rows.length c/\rows.length<=c/\c<=9223372036854775807:=by
 obtain⟨vs,h1,_⟩:=h
 obtain⟨p,c,hv,h2,h3,_⟩:=h1.form
 unfold maxLen at h3
 exact⟨p,c,hv,h2,by omega⟩
theorem oh {q:Nat} (h:q<4294967296):(q:Int)%4294967296=q:=by omega
theorem uj {n:Nat} (h:n<32):2^n<4294967296:=by
 have:=Nat.pow_lt_pow_right (show 1<2 by omega) h
 omega
theorem rV (x n:Nat) (hn:n<32):(limbs (x*2^n)).length<=(limbs x).length+1:=by
 apply iz
 rw[Nat.pow_succ]
 exact Nat.mul_lt_mul_of_lt_of_le (ll x) (Nat.le_of_lt (uj hn)) aa
set_option maxRecDepth 100000 in
theorem IG (va:Value) (m n x:Nat) (w:World) (hr:Rd w 1 va m (ints .u32 (limbs x))) (hm:m<=1073741824) (hn:n<32):
  Calls Tryz.prog 231 #[va,.int .i64 (n:Int)] w λe w'=>∃ v',e=.returned v'/\Rd w' 1 v' (limbs (x*2^n)).length (ints .u32 (limbs (x*2^n)))/\Below w.heap.size w w':=by
 obtain⟨p,c,rfl,dK,eE,dT⟩:=hr.u32
 have Hr:=Lib.hid hr
 have HX:=Lib.hid dT
 clear dT hr
 by_cases h0:n=0
 ·subst h0
  refine aA λR' bg=> ?_
  go_enter Tryz.func231,Tryz.ntmps231
  go_wp2
  refine bg.out _ _ ⟨_,rfl,?_,Below.refl _ _⟩
  have:=Hr.out
  rw[Nat.pow_zero,Nat.mul_one,HX.out];exact this
 ·have hnb:((n:Int) == 0)=false:=by rw[beq_eq_false_iff_ne];omega
  refine aA λR' bg=> ?_
  go_enter Tryz.func231,Tryz.ntmps231
  have hpl:=uj hn
  have hpe:(2:Int)^n%4294967296=((2^n:Nat):Int):=by
   have:(2:Int)^n=((2^n:Nat):Int):=by simp
   rw[this];exact oh hpl
  have HP:=Lib.hid hpe
  clear hpe
  go_wp2_with fail
  rw[HP.out]
  refine (yc _ m (2^n) (limbs x) _ Hr.out (ai x) hm hpl).mono ?_
  rintro e w1 ⟨v',rfl,aw,hb⟩
  rw[ag] at aw
  go_wp2
  exact bg.out _ _ ⟨_,rfl,Rd.own aw,hb⟩
set_option maxRecDepth 100000 in
theorem FK (va:Value) (m n:Nat) (xs:List Nat) (w:World) (hr:Rd w 1 va m (ints .u32 xs)) (hx:bI xs) (hm:m<=1073741824) (hn:n<32):
  Calls Tryz.prog 232 #[va,.int .i64 (n:Int)] w λe w'=>(∃ v' k rs,e=.returned v'/\k<=1073741824/\Rd w' 1 v' k (ints .u32 rs)/\bI rs/\af rs=af xs/2^n)/\Below w.heap.size w w':=by
 obtain⟨p,c,rfl,dK,eE,dT⟩:=hr.u32
 have Hr:=Lib.hid hr
 have HX:=Lib.hid dT
 have HL:=Lib.hid hx
 clear dT hr hx
 by_cases h0:n=0
 ·subst h0
  refine aA λR' bg=> ?_
  go_enter Tryz.func232,Tryz.ntmps232
  go_wp2
  exact bg.out _ _ ⟨⟨_,m,xs,rfl,hm,Hr.out,HL.out,by rw[Nat.pow_zero,Nat.div_one]⟩,Below.refl _ _⟩
 ·have hnb:((n:Int) == 0)=false:=by rw[beq_eq_false_iff_ne];omega
  refine aA λR' bg=> ?_
  go_enter Tryz.func232,Tryz.ntmps232
  have hpl:=uj hn
  have hpp:2^n≠0:=by have:=Nat.pow_pos (n:=n) (show 0<2 by omega);omega
  have hpe:(2:Int)^n%4294967296=((2^n:Nat):Int):=by
   have:(2:Int)^n=((2^n:Nat):Int):=by simp
   rw[this];exact oh hpl
  have HP:=Lib.hid hpe
  have HPP:=Lib.hid hpp
  clear hpe hpp
  go_wp2_with fail
  rw[HP.out]
  refine (pN _ m (2^n) xs _ Hr.out HL.out hm hpl).mono ?_
  rintro e w1 ⟨⟨h,_⟩|⟨_,v',rfl,aw⟩,hb⟩
  ·exact absurd h HPP.out
  ·have HO:=Lib.hid aw
   have hlen:(limbs (af xs/2^n)).length<=m:=Nat.le_trans (cd (Nat.div_le_self _ _)) (by rw[<-HX.out];exact fT HL.out)
   clear aw
   go_wp2
   exact bg.out _ _ ⟨⟨_,_,_,rfl,Nat.le_trans hlen hm,Rd.own HO.out,ai _,ag _⟩,hb⟩
set_option maxRecDepth 100000 in
theorem IH (n:Nat) (w:World) (hn:n<=2147483648):
  Calls Tryz.prog 238 #[.slice none 0 0,.int .i64 (n:Int)] w λe w'=>∃ v',e=.returned v'/\w'.ownsRow w.heap.size 191 1 v' 0 []/\Below w.heap.size w w':=by
 by_cases h0:n=0
 ·subst h0
  refine aA λR' bg=> ?_
  go_enter Tryz.func238,Tryz.ntmps238
  go_wp2
  exact bg.out _ _ ⟨_,rfl,World.ownsRow_nil _ _ _ _,Below.refl _ _⟩
 ·obtain⟨i0,hi,jA,lp,mj⟩:=info_parts gX
  obtain⟨C,hC⟩:∃ C,C=grownCap w n 0 191:=⟨_,rfl⟩
  have HC:=Lib.hid hC
  have hap0:=Lib.run_append_nil_zeros (P:=Tryz.prog) w 30 3 30 191 i0 (.int .u32 0) .i64 .i64 Tryz.underlying30 Tryz.underlying3 hi jA n aa aa aa (by rw[mj];omega)
  rw[<-hC] at hap0
  have HAP:=Lib.hid hap0
  have hCn:n<=C:=by rw[hC];exact grownCap_ge w n 0 _
  have hCm:C<=9223372036854775807:=by
   have:=grownCap_le_maxLen w n 0 191 (by unfold maxLen;omega)
   unfold maxLen at this
   omega
  have hn0:0<n:=by omega
  clear hC h0 hap0
  refine aA λR' bg=> ?_
  go_enter Tryz.func238,Tryz.ntmps238
  go_wp2_with (at_builtin;refine wpList_append_run rfl _ _ 30 3 rfl _ _ rfl rfl _ _ HAP.out ?_)
  refine bg.out _ _ ⟨_,rfl,?_,?_⟩
  ·exact World.ownsRow_made w.drew _ C (Nat.le_refl _) (by unfold maxLen;omega) (by rw[Array.size_append,size_zeroCells,size_zeroCells];show n*1+(C-n)*1=C*1;omega)
  ·exact (Below.drew (Below.refl _ _)).alloc (Nat.le_refl _) _
def flat (rows:List (List Nat)):List Nat:=rows.flatten
theorem qQ (rows:List (List Nat)) (xs:List Nat):flat (rows++[xs])=flat rows++xs:=by simp[flat]
theorem lB (rows:List (List Nat)) (k:Nat):(flat (rows.take k)).length<=(flat rows).length:=by
 conv=>rhs;rw[<-List.take_append_drop k rows]
 simp only[flat,List.flatten_append,List.length_append]
 omega
def CatA (rows:List (List Nat)) (sv iv:Value):Prop:=∃ k,k<=rows.length/\iv=.int .i64 (k:Int)/\sv=.int .i64 ((flat (rows.take k)).length:Int)
def CatB (w:World) (B:Nat) (rows:List (List Nat)) (ov iv:Value) (wr:World):Prop:=
 ∃ k,k<=rows.length/\iv=.int .i64 (k:Int)/\wr.ownsRow B 191 1 ov (flat (rows.take k)).length (ints .u32 (flat (rows.take k)))/\Below B w wr
set_option maxRecDepth 100000 in
theorem Cy (va:Value) (rows:List (List Nat)) (w:World) (hr:fV w va rows) (hn:(flat rows).length<=2147483648):
  Calls Tryz.prog 230 #[va] w λe w'=>∃ v',e=.returned v'/\w'.ownsRow w.heap.size 191 1 v' (flat rows).length (ints .u32 (flat rows))/\Below w.heap.size w w':=by
 obtain⟨p,c,rfl,dK,eE⟩:=hr.form
 have Hr:=Lib.hid hr
 obtain⟨i0,hi,jA,lp,mj⟩:=info_parts gX
 obtain⟨B,hB⟩:∃ B,B=w.heap.size:=⟨_,rfl⟩
 have HB:=Lib.hid hB
 obtain⟨N,hN⟩:∃ N,N=rows.length:=⟨_,rfl⟩
 rw[<-hN] at dK ⊢
 have HN:=Lib.hid hN
 rw[<-hB]
 clear hr hB hN
 refine aA λR' bg=> ?_
 go_enter Tryz.func230,Tryz.ntmps230
 go_wp2
 go_loop [3,11] (λsv iv=>CatA rows sv iv) (λ_ iv=>N-(intOf iv).toNat)
 case atStart=>exact⟨0,Nat.zero_le _,rfl,by simp[flat]⟩
 case round=>
  obtain⟨k,hk,rfl,rfl⟩:=hrel
  rw[<-HN.out] at hk
  have ze:=lB rows k
  by_cases qP:k<N
  ·obtain⟨b1,o1,u,xs,rfl,ew,kD,hru⟩:=Hr.out.at (k:=k) (by rw[<-HN.out];exact qP)
   obtain⟨q,d,rfl,_,_,_⟩:=hru.u32
   have Ia:(flat (rows.take (k+1))).length=(flat (rows.take k)).length+xs.length:=by rw[bb ew,qQ,List.length_append]
   have hfl2:=lB rows (k+1)
   have HFS:=Lib.hid Ia
   rw[Ia] at hfl2
   clear ew hru Ia
   generalize (flat (rows.take k)).length=L at*
   go_wp2
   go_round
   case rel=>exact⟨k+1,by rw[<-HN.out];omega,by go_num,by rw[HFS.out];go_num⟩
   case measure=>simp[intOf];omega
  ·obtain rfl:k=N:=by omega
   have hL:Hid (flat (rows.take k)=flat rows):=by show _=_;rw[List.take_of_length_le (by rw[HN.out];exact Nat.le_refl _)]
   rw[hL.out]
   rw[hL.out] at ze
   generalize hLL:(flat rows).length=L at hn ze
   have HLL:=Lib.hid hLL
   rw[hLL] at bg
   clear hLL
   go_wp2_with fail
   refine (IH L _ aa).mono ?_
   rintro e w1 ⟨ov,rfl,aw,hb⟩
   rw[<-HB.out] at aw hb
   have HO:=Lib.hid aw
   have fw:=Lib.hid hb
   clear aw hb
   go_wp2_with fail
   go_loopw [6,27] (λov iv wr=>CatB w B rows ov iv wr) (λ_ iv _=>k-(intOf iv).toNat)
   case atStart=>exact⟨0,Nat.zero_le _,rfl,by simpa [flat,ints] using HO.out,fw.out⟩
   case round=>
    obtain⟨j,hj,rfl,aw,hb⟩:=hrel
    have mh:=Lib.hid aw
    have mJ:=Lib.hid hb
    rw[<-HN.out] at hj
    clear aw hb
    by_cases hjn:j<k
    ·obtain⟨b1,o1,u,xs,rfl,ew,kD,hru⟩:=((Hr.out.below (by have:=mJ.out;rwa [HB.out] at this)).at (k:=j) (by rw[<-HN.out];exact hjn))
     have Ia:(flat (rows.take (j+1))).length=(flat (rows.take j)).length+xs.length:=by rw[bb ew,qQ,List.length_append]
     have hfl2:=lB rows (j+1)
     have HFS:=Lib.hid Ia
     have hsz:(flat (rows.take j)).length+xs.length<=2147483648:=by have:=HLL.out;omega
     have tr:=Lib.hid ew
     have HRU:=Lib.hid hru
     have tq:B<=wr.heap.size:=by have:=mJ.out.size;have:=HB.out;omega
     clear ew hru Ia hfl2
     go_wp2_with (at_builtin;refine gL _ rfl _ _ 30 rfl B 191 i0 (.int .u32 0) 1 4 Tryz.underlying30 hi jA lp mj rfl ff _ _ _ rfl mh.out _ xs.length _ rfl HRU.out (ky _ _) (by unfold maxLen;omega) aa tq ?_;intro v' w2 je hgr2)
     have II:Hid (w2.ownsRow B 191 1 v' (flat (rows.take (j+1))).length (ints .u32 (flat (rows.take (j+1))))):=by
      show World.ownsRow ..
      rw[HFS.out,bb tr.out,qQ,fG];exact je
     have Ib:Hid (Below B w w2):=Below.Ix mJ.out hgr2 mh.out tq (Nat.le_refl _)
     clear je hgr2
     go_wp2_with fail
     go_roundw
     case rel=>exact⟨j+1,by rw[<-HN.out];omega,by go_num,II.out,Ib.out⟩
     case measure=>simp[intOf];omega
    ·obtain rfl:j=k:=by omega
     go_wp2_with fail
     refine bg.out _ _ ⟨_,rfl,?_,mJ.out⟩
     have:=mh.out
     rw[hL.out,HLL.out] at this
     exact this
theorem fV.two {w:World} {g:Nat} {u v:Value} {xs ys:List Nat} {t:Nat} {fr:Nat×Nat} (h:w.heap[g]? =some (.cells #[u,v] t fr)) (hx:Rd w 1 u xs.length (ints .u32 xs)) (hy:Rd w 1 v ys.length (ints .u32 ys)):
  fV w (.slice (some ⟨g,0,none⟩) 2 2) [xs,ys]:=by
 refine⟨[u,v],⟨_,2,rfl,Nat.le_refl _,by simp[maxLen],rfl,λ_=>⟨g,0,rfl,λj z hj=> ?_⟩⟩,λi zs hi=> ?_⟩
 ·match j,hj with
  | 0,hj=>simp at hj;subst hj;simp[World.cell?,h]
  | 1,hj=>simp at hj;subst hj;simp[World.cell?,h]
 ·match i,hi with
  | 0,hi=>simp at hi;subst hi;exact⟨u,rfl,hx⟩
  | 1,hi=>simp at hi;subst hi;exact⟨v,rfl,hy⟩
theorem Ep {w:World} {o:Obj} {k:Nat} (h:k=w.heap.size):(w.alloc o).heap[k]? =some o:=by subst h;exact heap_alloc_new w o
theorem ordA {w w2 w3:World} {z o:Obj} (aQ:Below (w.alloc z).drew.heap.size (w.alloc z).drew w2) (cu:Below (w2.alloc o).heap.size (w2.alloc o) w3):Below w.heap.size w w3/\w.heap.size<=(w2.alloc o).heap.size:=by
 have h1:=aQ.size
 simp at h1
 have h0:Below w.heap.size w (w.alloc z).drew:=((Below.refl w.heap.size w).alloc (Nat.le_refl _) z).drew
 have h2:Below w.heap.size w w2:=h0.trans (aQ.mono cS)
 exact⟨(h2.alloc aa o).trans (cu.mono (by simp;omega)),by simp;omega⟩
theorem ordB {w w2 w3:World} {z o:Obj} (aQ:Below w.drew.heap.size w.drew w2) (cu:Below ((w2.alloc z).alloc o).heap.size ((w2.alloc z).alloc o) w3):Below w.heap.size w w3/\w.heap.size<=((w2.alloc z).alloc o).heap.size:=by
 have h1:=aQ.size
 simp at h1
 have h2:Below w.heap.size w w2:=(Below.refl w.heap.size w).drew.trans aQ
 exact⟨((h2.alloc aa z).alloc (by simp;omega) o).trans (cu.mono (by simp;omega)),by simp;omega⟩
theorem pO (w:World) (q:Nat) (h:q<=9223372036854775807):Rd (w.alloc (.cells (madeCells #[Value.int .u32 0] q) 191)) 1 (.slice (some ⟨w.heap.size,0,none⟩) q q) (List.replicate q 0).length (ints .u32 (List.replicate q 0)):=by
 have h1:=World.ownsRow_lit (base:=0) (size:=1) (e:=191) w (madeCells (Value.int .u32 0).cells (q*1)) q (Nat.zero_le _) (by unfold maxLen;omega) (size_madeCells _ _)
 have h2:=Rd.own (Own.made h1)
 rw[List.length_replicate]
 rw[Nat.mul_one,List.nil_append] at h2
 exact h2
set_option maxRecDepth 100000 in
theorem Cz (p:Option Addr) (m c n x:Nat) (xs:List Nat) (w:World) (hr:Rd w 1 (.slice p m c) m (ints .u32 xs)) (hx:bI xs) (hv:af xs=x) (hm:m<=1073741824) (nQ:x≠0) (hn:n<=65536):
  Calls Tryz.prog 209 #[.slice p m c,.int .i64 (n:Int)] w λe w'=>∃ v',e=.returned (.tuple #[v',.int .i64 0])/\w'.ownsRow w.heap.size 191 1 v' (limbs (x*2^n)).length (ints .u32 (limbs (x*2^n)))/\Below w.heap.size w w':=by
 obtain⟨p',c',hv',dK,eE,dT⟩:=hr.u32
 simp only[Value.slice.injEq,true_and] at hv'
 obtain⟨rfl,rfl⟩:=hv'
 have Hr:=Lib.hid hr
 have HX:=Lib.hid dT
 have HL:=Lib.hid hx
 have HV:=Lib.hid hv
 obtain⟨i0,hi,jA,lp,mj⟩:=info_parts gX
 have hmk:∀ W:World,(Instr.makeSlice 30 (.int .i64 ((n:Int)/32)) (.int .i64 ((n:Int)/32))).run Tryz.prog W=.ok (.slice (some ⟨W.heap.size,0,none⟩) (n/32) (n/32)) (W.alloc (.cells (madeCells (Value.int .u32 0).cells (n/32*1)) 191)):=λW=>by
  have:=run_make (P:=Tryz.prog) W 30 191 i0 (.int .u32 0) Tryz.underlying30 hi jA .i64 .i64 ((n:Int)/32) ((n:Int)/32) aa (Int.le_refl _) (by rw[mj];omega) aa
  rw[lp,show ((n:Int)/32).toNat=n/32 by omega] at this
  exact this
 clear dT hr hx hv hi jA lp mj
 refine aA λR' bg=> ?_
 go_enter Tryz.func209,Tryz.ntmps209
 go_wp2_with fail
 refine (cK p m c xs _ Hr.out HL.out).mono ?_
 rintro e w1 ⟨⟨r,hrm,rfl,Ck⟩,rfl⟩
 have qM:Hid ((limbs x).length=r):=by
  show _=_
  rw[<-HV.out,Ck,List.length_take,HX.out];omega
 have qL:=Hr.out.limbs hrm Ck
 rw[HV.out] at qL
 have HRD:=Lib.hid qL
 clear Ck qL
 have tp:0<r:=by rw[<-qM.out];exact cO nQ
 have wZ:∀ W:World,Rd W 1 (.slice p r c) r (ints .u32 (limbs x))->Calls Tryz.prog 231 #[.slice p r c,.int .i64 ((n:Int)%32)] W λe w'=>∃ v',e=.returned v'/\Rd w' 1 v' (limbs (x*2^(n%32))).length (ints .u32 (limbs (x*2^(n%32))))/\Below W.heap.size W w':=λW h=>by
  have:=IG (.slice p r c) r (n%32) x W h aa (Nat.mod_lt _ aa)
  rwa [show ((n%32:Nat):Int)=(n:Int)%32 by omega] at this
 have HLEFT:=Lib.hid wZ
 clear wZ
 have ze:(flat [List.replicate (n/32) 0,limbs (x*2^(n%32))])=limbs (x*2^n):=by
  have h1:=zu (x:=x*2^(n%32)) (n/32) (Nat.mul_ne_zero nQ (by have:=Nat.pow_pos (n:=n%32) (show 0<2 by omega);omega))
  simp only[flat,List.flatten_cons,List.flatten_nil,List.append_nil]
  rw[h1,Nat.mul_assoc,zp,<-Nat.pow_add,Nat.mod_add_div]
 have hfn:(flat [List.replicate (n/32) 0,limbs (x*2^(n%32))]).length<=2147483648:=by
  simp only[flat,List.flatten_cons,List.flatten_nil,List.append_nil,List.length_append,List.length_replicate]
  have:=rV x (n%32) (Nat.mod_lt _ aa)
  rw[qM.out] at this
  omega
 have HFL:=Lib.hid ze
 have HFN:=Lib.hid hfn
 clear ze hfn nQ
 go_wp2_with fail
 have vT:IntKind.i64.wrap ((n:Int)/32)=(n:Int)/32:=IntWalk.i64_in _ aa
 have hw2:(n:Int).tmod 32=(n:Int)%32:=Int.tmod_eq_emod_of_nonneg aa
 go_region_with (first
  | (go_at_call 231;refine (HLEFT.out _ (by first|exact HRD.out|exact Rd.alloc (Rd.drew HRD.out) _)).mono ?_;rintro e w2 ⟨v2,rfl,hrd2,aQ⟩;obtain⟨p2,c2,rfl,_,_,_⟩:=hrd2.form)
  | (go_at_call 230;refine (Cy _ [List.replicate (n/32) 0,limbs (x*2^(n%32))] _ (by first|exact fV.two (heap_alloc_new _ _) (Rd.alloc (Rd.below (Rd.drew (pO _ _ aa)) aQ) _) (Rd.alloc hrd2 _)|exact fV.two (Ep cS) (Rd.alloc (pO _ _ aa) _) (Rd.alloc (Rd.alloc hrd2 _) _)) HFN.out).mono ?_;rintro e w3 ⟨v3,rfl,IJ,cu⟩))
 all_goals
  go_wp2
  go_ret2
  refine bg.out _ _ ⟨v3,rfl,?_,?_⟩
  ·rw[HFL.out] at IJ
   first|exact Own.mono IJ (ordA aQ cu).2|exact Own.mono IJ (ordB aQ cu).2
  ·first|exact (ordA aQ cu).1|exact (ordB aQ cu).1
theorem qR {x m k:Nat} (h:(limbs x).length<=m) (hk:32*m<=k):x/2^k=0:=by
 apply Nat.div_eq_of_lt
 have h1:=ll x
 have h2:=Nat.pow_le_pow_right (show 0<4294967296 by omega) h
 rw[zp] at h1 h2
 have h3:=Nat.pow_le_pow_right (show 0<2 by omega) hk
 rw[zp] at h2
 omega
set_option maxRecDepth 100000 in
theorem qS (va:Value) (m x:Nat) (n:Int) (xs:List Nat) (w:World) (hr:Rd w 1 va m (ints .u32 xs)) (hx:bI xs) (hv:af xs=x) (hm:m<=1073741824) (hn0: -9223372036854775808<=n) (IK:n<=9223372036854775807):
  Calls Tryz.prog 209 #[va,.int .i64 n] w λe w'=>((x≠0/\65536<n/\e=.returned (.tuple #[.slice none 0 0,.int .i64 3]))\/
   (¬ (x≠0/\65536<n)/\∃ v',e=.returned (.tuple #[v',.int .i64 0])/\w'.ownsRow w.heap.size 191 1 v' (limbs (fe x n)).length (ints .u32 (limbs (fe x n)))))/\Below w.heap.size w w':=by
 obtain⟨p,c,rfl,dK,eE,dT⟩:=hr.u32
 have Hr:=Lib.hid hr
 have HX:=Lib.hid dT
 have HL:=Lib.hid hx
 have HV:=Lib.hid hv
 clear dT hr hx hv
 by_cases qO:x≠0/\0<=n/\n<=65536
 ·obtain⟨nQ,h0,h1⟩:=qO
  obtain⟨k,rfl⟩:=Int.eq_ofNat_of_zero_le h0
  refine (Cz p m c k x xs w Hr.out HL.out HV.out hm nQ aa).mono ?_
  rintro e w' ⟨v',rfl,aw,hb⟩
  refine⟨.inr ⟨by omega,v',rfl,?_⟩,hb⟩
  have:fe x (k:Int)=x*2^k:=by simp[fe]
  rw[this];exact aw
 ·refine aA λR' bg=> ?_
  go_enter Tryz.func209,Tryz.ntmps209
  go_wp2_with fail
  refine (cK p m c xs _ Hr.out HL.out).mono ?_
  rintro e w1 ⟨⟨r,hrm,rfl,Ck⟩,rfl⟩
  have qM:(limbs x).length=r:=by
   rw[<-HV.out,Ck,List.length_take,HX.out];omega
  have qL:=Hr.out.limbs hrm Ck
  rw[HV.out] at qL
  have HRD:=Lib.hid qL
  have IL:=Lib.hid qM
  clear Ck qL
  by_cases nQ:x=0
  ·have tp:r=0:=by rw[<-qM,nQ,bc];rfl
   have HX0:=Lib.hid nQ
   have FI:((r:Int) == 0)=true:=by rw[beq_iff_eq];omega
   clear nQ tp qM qO
   go_wp2_with fail
   refine bg.out _ _ ⟨.inr ⟨λh=>h.1 HX0.out,.slice none 0 0,rfl,?_⟩,Below.refl _ _⟩
   have:fe x n=0:=by simp[fe,HX0.out]
   rw[this,bc];exact World.ownsRow_nil _ _ _ _
  ·have tp:0<r:=by rw[<-qM];exact cO nQ
   have FI:((r:Int) == 0)=false:=by rw[beq_eq_false_iff_ne];omega
   clear qM
   by_cases FL:65536<n
   ·go_wp2_with fail
    exact bg.out _ _ ⟨.inl ⟨nQ,FL,rfl⟩,Below.refl _ _⟩
   ·have zz:n<0:=by
     by_cases h:n<0
     ·exact h
     ·exact absurd ⟨nQ,by omega,by omega⟩ qO
    clear qO
    have HX0:=Lib.hid nQ
    clear nQ
    have hmul:IntKind.i64.wrap (-32*(r:Int))= -32*(r:Int):=IntWalk.i64_in _ aa
    by_cases qT:n<=-32*(r:Int)
    ·go_wp2_with fail
     refine bg.out _ _ ⟨.inr ⟨λh=>by omega,.slice none 0 0,rfl,?_⟩,Below.refl _ _⟩
     have:fe x n=0:=by
      unfold fe
      rw[if_neg aa]
      exact qR (m:=r) (by rw[IL.out];exact Nat.le_refl _) aa
     rw[this,bc];exact World.ownsRow_nil _ _ _ _
    ·obtain⟨k,rfl⟩:∃ k:Nat,n= -(k:Int):=⟨(-n).toNat,by omega⟩
     obtain⟨b,off,y,rfl,_,_,_⟩:=HRD.out.cellAt (k:=0) tp
     have hkr:k/32<r:=by omega
     have hneq:¬ (c=k/32):=by omega
     have Ic:0<k:=by omega
     have zH:Rd w 1 (.slice (some ⟨b,off+k/32,none⟩) (r-k/32) (c-k/32)) (r-k/32) (ints .u32 ((limbs x).drop (k/32))):=by
      obtain⟨p',c',hv',h1,h2,h3,h4⟩:=HRD.out
      simp only[Value.slice.injEq,true_and] at hv'
      obtain⟨rfl,rfl⟩:=hv'
      refine⟨_,_,rfl,by omega,by unfold maxLen at h2 ⊢;omega,by rw[rT,List.length_drop,IL.out];omega,λ_=>⟨b,off+k/32,rfl,λj u hj=> ?_⟩⟩
      obtain⟨b',off',hp,hc⟩:=h4 aa
      simp only[Option.some.injEq,Addr.mk.injEq,and_true] at hp
      obtain⟨rfl,rfl⟩:=hp
      rw[<-FA,List.getElem?_drop] at hj
      have:=hc _ _ hj
      rwa [<-Nat.add_assoc] at this
     have HDR:=Lib.hid zH
     clear zH
     have hq1:0<=(k:Int)/32:=by omega
     have hq2:(k:Int)/32<(r:Int):=by omega
     go_wp2_with fail
     rw[show (k:Int)%32=((k%32:Nat):Int) by omega]
     refine (FK _ _ (k%32) _ _ HDR.out ((ai x).drop _) aa (Nat.mod_lt _ aa)).mono ?_
     rintro e w1 ⟨⟨v1,m1,rs,rfl,hm1,hrd1,wi,Cl⟩,aB⟩
     obtain⟨p1,c1,rfl,_,_,hrl⟩:=hrd1.u32
     have HR1:=Lib.hid hrd1
     have HV1:=Lib.hid Cl
     have HRL:=Lib.hid hrl
     clear hrd1 Cl hrl
     go_wp2_with fail
     refine (cK p1 m1 c1 rs _ HR1.out wi).mono ?_
     rintro e w2 ⟨⟨r2,lC,rfl,hlr2⟩,rfl⟩
     have hml2:Hid ((limbs (af rs)).length=r2):=by show _=_;rw[hlr2,List.length_take,HRL.out];omega
     have HR2:=Lib.hid (HR1.out.limbs lC hlr2)
     clear hlr2
     go_wp2_with fail
     refine (gM _ r2 _ _ HR2.out aa).mono ?_
     rintro e w2 ⟨v2,rfl,aw,aQ⟩
     have hval:fe x (-(k:Int))=af rs:=by
      unfold fe
      rw[if_neg aa,HV1.out,sS x (k/32) (by rw[IL.out];omega),Nat.div_div_eq_div_mul,zp,<-Nat.pow_add,Nat.div_add_mod]
      simp
     go_wp2_with fail
     refine bg.out _ _ ⟨.inr ⟨λh=>by omega,v2,rfl,?_⟩,aB.trans (aQ.mono aB.size)⟩
     rw[hval,hml2.out]
     exact Own.mono aw aB.size
end
section
theorem zI {xs:List Nat} {j o v:Nat} (h:xs[j]? =some o):af (xs.set j v)+4294967296^j*o=af xs+4294967296^j*v:=by
 obtain⟨hl,he⟩:=List.getElem?_eq_some_iff.1 h
 have h1:xs=xs.take j++o::xs.drop (j+1):=by rw[<-he,<-List.drop_eq_getElem_cons hl,List.take_append_drop]
 have h2:xs.set j v=xs.take j++v::xs.drop (j+1):=by
  conv=>lhs;rw[h1]
  rw[List.set_append_right _ _ (by rw[List.length_take];omega)]
  rw[List.length_take,Nat.min_eq_left aa,Nat.sub_self];rfl
 have e1:af xs=af (xs.take j)+4294967296^j*(o+4294967296*af (xs.drop (j+1))):=by
  conv=>lhs;rw[h1]
  rw[dx,List.length_take,Nat.min_eq_left aa,dS]
 have e2:af (xs.set j v)=af (xs.take j)+4294967296^j*(v+4294967296*af (xs.drop (j+1))):=by
  rw[h2,dx,List.length_take,Nat.min_eq_left aa,dS]
 rw[e1,e2,Nat.mul_add,Nat.mul_add]
 omega
theorem bI.set {xs:List Nat} (h:bI xs) {v:Nat} (hv:v<4294967296) (j:Nat):bI (xs.set j v):=λy hy=>by
 rcases List.mem_or_eq_of_mem_set hy with h1|h1
 ·exact h y h1
 ·rw[h1];exact hv
theorem um (k:Nat):af (List.replicate k 0)=0:=fy _ k
theorem uq {xs:List Nat} (k:Nat) (hk:k<=xs.length):af xs=af (xs.take k)+4294967296^k*af (xs.drop k):=gV _ xs k hk
theorem oi {xs:List Nat} {k x:Nat} (h:xs[k]? =some x):af (xs.drop k)=x+4294967296*af (xs.drop (k+1)):=oe h
theorem zJ {os:List Nat} {i k x y o c s S Y:Nat} (ho:os[i+k]? =some o) (hs:s=x*y+o+c) (h:af os+4294967296^(i+k)*c=S+4294967296^i*(x*Y)):
  af (os.set (i+k) (s%4294967296))+4294967296^(i+(k+1))*(s/4294967296)=S+4294967296^i*(x*(Y+4294967296^k*y)):=by
 have h1:=zI (v:=s%4294967296) ho
 have h2:4294967296^(i+(k+1))=4294967296^(i+k)*4294967296:=by rw[<-Nat.add_assoc,Nat.pow_succ]
 have h3:4294967296^(i+k)*s=4294967296^(i+k)*(s%4294967296)+4294967296^(i+k)*4294967296*(s/4294967296):=by
  rw[Nat.mul_assoc,<-Nat.mul_add,Nat.mod_add_div]
 have h4:4294967296^(i+k)*s=4294967296^(i+k)*(x*y)+4294967296^(i+k)*o+4294967296^(i+k)*c:=by rw[hs,Nat.mul_add,Nat.mul_add]
 have h5:4294967296^i*(x*(Y+4294967296^k*y))=4294967296^i*(x*Y)+4294967296^(i+k)*(x*y):=by
  rw[Nat.mul_add,Nat.mul_add,Nat.pow_add]
  congr 1
  rw[Nat.mul_left_comm x,Nat.mul_assoc]
 rw[h2,h5]
 omega
theorem pP {x y o c:Nat} (hx:x<4294967296) (hy:y<4294967296) (ho:o<4294967296) (hc:c<4294967296):x*y+o+c<18446744073709551616:=by
 have h1:x*y<=4294967295*4294967295:=Nat.mul_le_mul aa aa
 omega
def fA (U V:Nat):Nat:=min 4294967295 (U/V)
theorem zK {U V:Nat}:fA U V*V<=U:=Nat.le_trans (Nat.mul_le_mul_right _ (Nat.min_le_right _ _)) (Nat.div_mul_le_self U V)
theorem xc {U V t:Nat} (hV:0<V) (ht:t<=4294967295) (h:t*V<=U):t<=fA U V:=by
 unfold fA
 rw[Nat.le_min]
 exact⟨ht,(Nat.le_div_iff_mul_le hV).2 h⟩
theorem CA {p U V u b lu lb:Nat} (hp:0<p) (hu:u=U*p+lu) (hlu:lu<p) (hb:b=V*p+lb) (Cm:lb<p) (hV:4294967296<=V) (hub:u<4294967296*b):
  u/b<=fA U V/\fA U V<=u/b+1:=by
 have hV0:0<V:=by omega
 have lg:0<b:=by have:0<V*p:=Nat.mul_pos hV0 hp;omega
 constructor
 ·refine xc hV0 ?_ ?_
  ·have:u/b<4294967296:=by rw[Nat.div_lt_iff_lt_mul lg];exact hub
   omega
  ·have h1:u/b*b<=u:=Nat.div_mul_le_self u b
   have h2:u/b*V*p<=U*p+lu:=by
    rw[hb] at h1
    rw[hu,Nat.mul_add,<-Nat.mul_assoc] at h1
    rw[<-hb,<-hu] at h1
    have:u/b*V*p<=u:=by omega
    omega
   rcases Nat.lt_or_ge U (u/b*V) with h|h
   ·have h3:(U+1)*p<=u/b*V*p:=Nat.mul_le_mul_right _ h
    rw[Nat.add_mul] at h3
    omega
   ·exact h
 ·have hg:=@zK U V
  have hgB:fA U V<=4294967295:=Nat.min_le_left _ _
  generalize fA U V=q at hg hgB
  have h1:q*V*p<=U*p:=Nat.mul_le_mul_right _ hg
  have h2:q*lb<=4294967295*lb:=Nat.mul_le_mul_right _ hgB
  have h3:q*b=q*V*p+q*lb:=by rw[hb,Nat.mul_add,<-Nat.mul_assoc]
  have h4:4294967296*p<=V*p:=Nat.mul_le_mul_right _ hV
  have h5:q*b<u+b:=by omega
  have h6:q<u/b+2:=by
   have h7:u<(u/b+1)*b:=by rw[Nat.add_mul];have e1:=Nat.div_add_mod u b;have e2:=Nat.mod_lt u lg;rw[Nat.mul_comm] at e1;omega
   have h8:q*b<(u/b+2)*b:=by rw[Nat.add_mul];rw[Nat.add_mul] at h7;omega
   exact Nat.lt_of_mul_lt_mul_right h8
  omega
theorem CB {B p a y q c r x mv X Y D:Nat} (h:D+q*Y=X+p*(c+r)) (hx:a+B*mv=x+(q*y+c)%B+r):
  (D+p*x)+q*(Y+p*y)=(X+p*a)+p*B*((q*y+c)/B+mv):=by
 have h1:=Nat.mod_add_div (q*y+c) B
 have h2:p*(a+B*mv)=p*x+p*((q*y+c)%B)+p*r:=by rw[hx,Nat.mul_add,Nat.mul_add]
 have h3:p*((q*y+c)%B)+p*(B*((q*y+c)/B))=p*(q*y)+p*c:=by rw[<-Nat.mul_add,h1,Nat.mul_add]
 have h4:q*(Y+p*y)=q*Y+p*(q*y):=by rw[Nat.mul_add,Nat.mul_left_comm]
 have h5:p*B*((q*y+c)/B+mv)=p*(B*((q*y+c)/B))+p*(B*mv):=by rw[Nat.mul_assoc,Nat.mul_add,Nat.mul_add]
 rw[Nat.mul_add] at h2 h
 rw[h4,h5]
 omega
end
section
open Go.RowKit
theorem tab_fin:∀ i:Fin 256,(Lib.len8tab[i.val]'(by have:=i.2;have:Lib.len8tab.size=256:=by decide+kernel
                                                    omega)).toNat=fJ i.val:=by decide+kernel
theorem zL:Lib.len8tab.size=256:=by decide+kernel
theorem tab_at (i:Nat) (h:i<Lib.len8tab.size):(Lib.len8tab[i]'h).toNat=fJ i:=tab_fin ⟨i,by rw[zL] at h;exact h⟩
theorem ur {t k:Nat} (h:2^k<=t):fJ t=k+fJ (t/2^k):=by
 have hp:0<2^k:=Nat.pow_pos aa
 have hq:t/2^k≠0:=by
  have:=(Nat.le_div_iff_mul_le hp).2 (show 1*2^k<=t by omega)
  omega
 have h1:=tg (t/2^k)
 have h2:=th hq
 have h0:=pJ hq
 refine El ?_ (.inr ?_)
 ·rw[Nat.pow_add,Nat.mul_comm]
  exact (Nat.div_lt_iff_lt_mul hp).1 h1
 ·rw[show k+fJ (t/2^k)-1=(fJ (t/2^k)-1)+k by omega,Nat.pow_add]
  exact (Nat.le_div_iff_mul_le hp).1 h2
theorem lD {i:Nat} (h:i<256):fJ i<=8:=od (k:=8) h
set_option maxRecDepth 100000 in
theorem FM (x:Int) (w:World) (h0:0<=x) (h1:x<=4294967295):
  Calls Tryz.prog 201 #[.int .u32 x] w λe w'=>e=.returned (.int .i64 (fJ x.toNat:Int))/\w=w':=by
 have hsz:(Lib.len8tab.size:Int)=256:=by rw[zL];rfl
 refine aA λR' bg=> ?_
 go_enter Tryz.func201,Tryz.ntmps201
 go_wp2
 all_goals
  refine bg.out _ _ ⟨kA ?_,rfl⟩
  simp only[tab_at,wrap64]
 all_goals first
  | (have e:=ur (t:=x.toNat) (k:=24) aa
     have b:=lD (i:=x.toNat/2^24) aa
     rw[show (x/65536/256).toNat=x.toNat/2^24 by omega]
     omega)
  | (have e:=ur (t:=x.toNat) (k:=16) aa
     have b:=lD (i:=x.toNat/2^16) aa
     rw[show (x/65536).toNat=x.toNat/2^16 by omega]
     omega)
  | (have e:=ur (t:=x.toNat) (k:=8) aa
     have b:=lD (i:=x.toNat/2^8) aa
     rw[show (x/256).toNat=x.toNat/2^8 by omega]
     omega)
  | (have b:=lD (i:=x.toNat) aa
     omega)
theorem FN (t:Nat) (w:World) (h1:t<4294967296):
  Calls Tryz.prog 201 #[.int .u32 (t:Int)] w λe w'=>e=.returned (.int .i64 (fJ t:Int))/\w=w':=by
 have h:=FM (t:Int) w aa aa
 rwa [Int.toNat_natCast] at h
theorem zM (t:Nat) (w:World) (ht:t<4294967296) (h0:t≠0):
  Calls Tryz.prog 208 #[.int .u32 (t:Int)] w λe w'=>(∃ u:Nat,e=.returned (.int .i64 (u:Int))/\u<32/\t*2^u<4294967296)/\w=w':=by
 have hs:=tg t
 have hb:fJ t<=32:=od (k:=32) ht
 have lg:=pJ h0
 refine aA λR' bg=> ?_
 go_enter Tryz.func208,Tryz.ntmps208
 go_wp2_with fail
 refine (FN t _ ht).mono ?_
 rintro e w1 ⟨rfl,rfl⟩
 generalize fJ t=L at*
 go_wp2_with fail
 refine bg.out _ _ ⟨⟨32-L,kA aa,by omega,?_⟩,rfl⟩
 have h1:t*2^(32-L)<2^L*2^(32-L):=Nat.mul_lt_mul_of_pos_right hs (Nat.pow_pos aa)
 rw[<-Nat.pow_add,show L+(32-L)=32 by omega] at h1
 exact h1
def uu (w:World) (B n m:Nat) (xs ys:List Nat) (v iv:Value) (wr:World):Prop:=
 ∃ (i:Nat) (os:List Nat),i<=n/\iv=.int .i64 (i:Int)/\os.length=n+m/\bI os/\(∀ j,i+m<=j->∀ x,os[j]? =some x->x=0)/\af os=af (xs.take i)*af ys/\
   wr.ownsRow B 191 1 v (n+m) (ints .u32 os)/\Below B w wr
def zN (w:World) (B n m i S x:Nat) (ys:List Nat) (v cv kv:Value) (wr:World):Prop:=
 ∃ (k c:Nat) (os:List Nat),k<=m/\kv=.int .i64 (k:Int)/\cv=.int .u64 (c:Int)/\c<4294967296/\os.length=n+m/\bI os/\(∀ j,i+m<=j->∀ x,os[j]? =some x->x=0)/\
   af os+4294967296^(i+k)*c=S+4294967296^i*(x*af (ys.take k))/\wr.ownsRow B 191 1 v (n+m) (ints .u32 os)/\Below B w wr
theorem IM {os:List Nat} {i m j v:Nat} (h:∀ j,i+m<=j->∀ x,os[j]? =some x->x=0) (hj:j<i+m):∀ l,i+m<=l->∀ x,(os.set j v)[l]? =some x->x=0:=λl hl x hx=>by
 rw[List.getElem?_set_ne aa] at hx
 exact h l hl x hx
theorem zN.step {w wr:World} {B n m i S x y o k c g cap:Nat} {ys os:List Nat} {q r:Int} (hk:k<m) (_:i<n) (hl:os.length=n+m) (ow:bI os) (hz:∀ j,i+m<=j->∀ x,os[j]? =some x->x=0)
  (hv:af os+4294967296^(i+k)*c=S+4294967296^i*(x*af (ys.take k))) (aw:wr.ownsRow B 191 1 (.slice (some ⟨g,0,none⟩) (n+m) cap) (n+m) (ints .u32 os)) (hb:Below B w wr)
  (hy:ys[k]? =some y) (ho:os[i+k]? =some o) (jz:x<4294967296) (wT:y<4294967296) (Ie:c<4294967296) (hq:q=(((x*y+o+c)%4294967296:Nat):Int)) (hr:r=(((x*y+o+c)/4294967296:Nat):Int)):
  zN w B n m i S x ys (.slice (some ⟨g,0,none⟩) (n+m) cap) (.int .u64 r) (.int .i64 ((k:Int)+1)) (wr.setCell ⟨g,i+k,none⟩ (.int .u32 q)):=by
 subst hq;subst hr
 have ho4:=ow.at ho
 have hs:=pP jz wT ho4 Ie
 refine⟨k+1,(x*y+o+c)/4294967296,os.set (i+k) ((x*y+o+c)%4294967296),by omega,rfl,rfl,by omega,by simp[hl],ow.set (Nat.mod_lt _ aa) _,IM hz aa,?_,Own.eU aw,hb.setCell (Own.lt aw).1 _⟩
 have h1:af (ys.take (k+1))=af (ys.take k)+4294967296^k*y:=by rw[aL,List.getD,hy];rfl
 rw[h1]
 exact zJ ho rfl hv
theorem uu.step {w wr:World} {B n m i x c g cap:Nat} {xs ys os:List Nat} {q:Int} (hi:i<n) (hl:os.length=n+m) (ow:bI os) (hz:∀ j,i+m<=j->∀ x,os[j]? =some x->x=0) (hm:ys.length=m)
  (hv:af os+4294967296^(i+m)*c=af (xs.take i)*af ys+4294967296^i*(x*af (ys.take m))) (aw:wr.ownsRow B 191 1 (.slice (some ⟨g,0,none⟩) (n+m) cap) (n+m) (ints .u32 os)) (hb:Below B w wr)
  (hx:xs[i]? =some x) (Ie:c<4294967296) (hq:q=(c:Int)):
  uu w B n m xs ys (.slice (some ⟨g,0,none⟩) (n+m) cap) (.int .i64 ((i:Int)+1)) (wr.setCell ⟨g,i+m,none⟩ (.int .u32 q)):=by
 subst hq
 obtain⟨o,ho⟩:∃ o,os[i+m]? =some o:=⟨_,List.getElem?_eq_getElem aa⟩
 obtain rfl:=hz (i+m) (Nat.le_refl _) o ho
 refine⟨i+1,os.set (i+m) c,by omega,rfl,by simp[hl],ow.set Ie _,λj hj y hy=> ?_,?_,Own.eU aw,hb.setCell (Own.lt aw).1 _⟩
 ·rw[List.getElem?_set_ne aa] at hy
  exact hz j aa y hy
 ·have h1:=zI (v:=c) ho
  have h2:af (xs.take (i+1))=af (xs.take i)+4294967296^i*x:=by rw[aL,List.getD,hx];rfl
  rw[aU (Nat.le_of_eq hm)] at hv
  rw[h2,Nat.add_mul,Nat.mul_assoc]
  omega
set_option maxRecDepth 100000 in
theorem IP (va vb:Value) (n m:Nat) (xs ys:List Nat) (w:World) (hr:Rd w 1 va n (ints .u32 xs)) (hs:Rd w 1 vb m (ints .u32 ys)) (hx:bI xs) (hy:bI ys) (hn:n<=536870912) (hm:m<=536870912):
  Calls Tryz.prog 149 #[va,vb] w λe w'=>∃ v',e=.returned v'/\w'.ownsRow w.heap.size 191 1 v' (limbs (af xs*af ys)).length (ints .u32 (limbs (af xs*af ys)))/\Below w.heap.size w w':=by
 obtain⟨p,c,rfl,dK,eE,dT⟩:=hr.u32
 obtain⟨q,d,rfl,FH,Ci,iR⟩:=hs.u32
 obtain⟨i0,hi,jA,lp,mj⟩:=info_parts gX
 have Hr:=Lib.hid hr
 have Hs:=Lib.hid hs
 have HLX:=Lib.hid hx
 have HLY:=Lib.hid hy
 have HX:=Lib.hid dT
 have HY:=Lib.hid iR
 obtain⟨B,hB⟩:∃ B,B=w.heap.size:=⟨_,rfl⟩
 have HB:=Lib.hid hB
 rw[<-hB]
 clear hr hs hx hy dT iR hB
 refine aA λR' bg=> ?_
 go_enter Tryz.func149,Tryz.ntmps149
 go_wp2_with (at_make;refine wpList_make_full _ rfl _ _ 30 rfl B 191 i0 (.int .u32 0) 1 Tryz.underlying30 hi jA lp .i64 .i64 _ _ (n+m) rfl rfl aa aa (by rw[mj];omega) (by unfold maxLen;omega) (Nat.le_of_eq HB.out) ?_;intro w1 aw zw)
 have Ct:=Lib.hid (Own.made aw)
 have Hb1:Hid (Below B w w1):=(Below.refl _ _).grown zw (Nat.le_of_eq HB.out) (λk hk=>by cases hk)
 clear aw zw hi jA lp mj
 go_wp2_with fail
 go_loopw [20] (λiv wr=>uu w B n m xs ys (.slice (some ⟨w.heap.size,0,none⟩) (n+m) (n+m)) iv wr) (λiv _=>n-(intOf iv).toNat)
 case atStart=>exact⟨0,List.replicate (n+m) 0,Nat.zero_le _,rfl,by simp,dp.replicate aa _,λj _ x hx=>by rw[List.getElem?_replicate] at hx;split at hx <;> simp_all,by rw[um];simp[da],by simpa using Ct.out,Hb1.out⟩
 case round=>
  obtain⟨i,os,lh,rfl,hl,ow,hz,hv,aw,hb⟩:=hrel
  have HLO:=Lib.hid hl
  have HLIM:=Lib.hid ow
  have HZ:=Lib.hid hz
  have HV:=Lib.hid hv
  have HO:=Lib.hid aw
  have fw:=Lib.hid hb
  have hsz:=hb.size
  clear hl ow hz hv aw hb
  by_cases CC:i<n
  ·obtain⟨b1,o1,x,rfl,aB,ew,kD⟩:=(Hr.out.gK HB.out fw.out).cellAt CC
   have tr:=Lib.hid ew
   have jz:=HLX.out.at ew
   clear ew
   go_wp2_with fail
   obtain⟨wo,rfl⟩:∃ wo:World,wo=wr:=⟨_,rfl⟩
   go_loopw [8,27] (λcv kv wr'=>zN w B n m i (af (xs.take i)*af ys) x ys (.slice (some ⟨w.heap.size,0,none⟩) (n+m) (n+m)) cv kv wr') (λ_ kv _=>m-(intOf kv).toNat)
   case atStart=>exact⟨0,0,os,Nat.zero_le _,rfl,rfl,by omega,HLO.out,HLIM.out,HZ.out,by rw[HV.out];simp[da],HO.out,fw.out⟩
   case round=>
    obtain⟨k,c',os',Cu,rfl,rfl,Ie,CD,zO,hz',hv',hown',hb'⟩:=hrel
    have HLO':=Lib.hid CD
    have zP:=Lib.hid zO
    have HZ':=Lib.hid hz'
    have HV':=Lib.hid hv'
    have HO':=Lib.hid hown'
    have IQ:=Lib.hid hb'
    clear CD zO hz' hv' hown' hb'
    obtain⟨o,ho,hco,hfo⟩:=Own.fq HO'.out (j:=i+k) aa
    have HOK:=Lib.hid ho
    have ho4:=zP.out.at ho
    clear ho
    by_cases hklt:k<m
    ·obtain⟨b2,o2,y,rfl,aQ,mg,zx⟩:=(Hs.out.gK HB.out IQ.out).cellAt hklt
     have En:=Lib.hid mg
     have wT:=HLY.out.at mg
     clear mg
     have hsm:=pP jz wT ho4 Ie
     have m0:0<=(x:Int)*(y:Int):=by rw[<-Int.natCast_mul];omega
     have m1:(x:Int)*(y:Int)+(o:Int)+(c':Int)<18446744073709551616:=by rw[<-Int.natCast_mul];omega
     have FO:IntKind.i64.wrap ((i:Int)+(k:Int))=((i+k:Nat):Int):=by rw[IntWalk.i64_in _ aa];simp
     clear hsm
     go_wp2_with fail
     go_roundw
     case rel=>
      first
      | exact zN.step hklt CC HLO'.out zP.out HZ'.out HV'.out HO'.out IQ.out En.out HOK.out jz wT Ie cS cS
      | ((repeat apply Exists.intro);exact⟨zN.step hklt CC HLO'.out zP.out HZ'.out HV'.out HO'.out IQ.out En.out HOK.out jz wT Ie cS cS,rfl⟩)
     case measure=>simp[intOf];omega
    ·obtain rfl:k=m:=by omega
     have FO:IntKind.i64.wrap ((i:Int)+(k:Int))=((i+k:Nat):Int):=by rw[IntWalk.i64_in _ aa];simp
     go_wp2_with fail
     go_roundw
     case rel=>
      first
      | exact uu.step CC HLO'.out zP.out HZ'.out HY.out HV'.out HO'.out IQ.out tr.out Ie rfl
      | ((repeat apply Exists.intro);exact⟨uu.step CC HLO'.out zP.out HZ'.out HY.out HV'.out HO'.out IQ.out tr.out Ie rfl,rfl⟩)
     case measure=>simp[intOf];omega
  ·obtain rfl:i=n:=by omega
   go_wp2_with fail
   refine (ia _ (i+m) os _ (Rd.own HO.out) HLIM.out aa).mono ?_
   rintro e w2 ⟨v',rfl,je,aQ⟩
   go_wp2_with fail
   have h:=HV.out
   rw[aU (Nat.le_of_eq HX.out)] at h
   rw[h] at je
   exact bg.out _ _ ⟨v',rfl,Own.mono je (by have:=HB.out;omega),fw.out.trans (aQ.mono (by have:=HB.out;omega))⟩
end
section
open Go.RowKit
def zQ (w:World) (U2 v1 V U:Nat) (qv rv:Value) (wr:World):Prop:=
 ∃ q r dn:Nat,qv=.int .u64 (q:Int)/\rv=.int .u64 (r:Int)/\q*v1+r=U2/\r<4294967296/\(∀ t:Nat,t<=4294967295->t*V<=U->t<=q)/\wr=w.drewN dn
theorem yh {B U2 v1 v2 low:Nat} (Cl:0<v1) (hl:low<B) (t:Nat) (h:t*(v1*B+v2)<=U2*B+low):t<=U2/v1:=by
 rw[Nat.le_div_iff_mul_le Cl]
 rw[Nat.mul_add,<-Nat.mul_assoc] at h
 have h1:t*v1*B<(U2+1)*B:=by rw[Nat.add_mul];omega
 have:=Nat.lt_of_mul_lt_mul_right h1
 omega
theorem zR {U2 v1 v2 low:Nat} (Cl:0<v1) (hl:low<4294967296):∀ t:Nat,t<=4294967295->t*(v1*4294967296+v2)<=U2*4294967296+low->t<=U2/v1:=λt _ h=>yh Cl hl t h
theorem uv {B q v1 v2 r U2 low:Nat} (h:q*v1+r=U2) (hf:q*v2<=r*B+low):q*(v1*B+v2)<=U2*B+low:=by
 subst h
 rw[Nat.mul_add,<-Nat.mul_assoc,Nat.add_mul]
 omega
theorem CE {B q v1 v2 r U2 low:Nat} (h:q*v1+r=U2) (hf:r*B+low<q*v2):U2*B+low<q*(v1*B+v2):=by
 subst h
 rw[Nat.mul_add,<-Nat.mul_assoc,Nat.add_mul]
 omega
theorem zS {q V U:Nat} (hV:0<V) (hq:q<=4294967295) (hf:q*V<=U) (hm:∀ t:Nat,t<=4294967295->t*V<=U->t<=q):q=fA U V:=
 Nat.le_antisymm (xc hV hq hf) (hm _ (Nat.min_le_left _ _) zK)
theorem zT {q v1 v2 r U2 low:Nat} (h:q*v1+r=U2) (hr:4294967296<=r) (hU:U2<v1*4294967296+4294967296) (hv2:v2<4294967296):q<=4294967295/\q*v2<=r*4294967296+low:=by
 have h1:q*v1<4294967296*v1:=by omega
 have h2:q<4294967296:=Nat.lt_of_mul_lt_mul_right h1
 have h3:q*v2<=4294967295*4294967295:=Nat.mul_le_mul aa aa
 omega
set_option maxRecDepth 100000 in
theorem FP (hi mid low v1 v2:Nat) (w:World) (hhi:hi<=v1) (lz:mid<4294967296) (hlow:low<4294967296) (h1:0<v1) (h14:v1<4294967296) (h2:v2<4294967296):
  Calls Tryz.prog 210 #[.int .u32 (hi:Int),.int .u32 (mid:Int),.int .u32 (low:Int),.int .u32 (v1:Int),.int .u32 (v2:Int)] w λe w'=>
   e=.returned (.int .u64 (fA ((hi*4294967296+mid)*4294967296+low) (v1*4294967296+v2):Int))/\∃ k,w'=w.drewN k:=by
 have hhi4:hi<4294967296:=by omega
 have ud:bits BinOp.or IntKind.u64 ((hi:Int)*4294967296) (mid:Int)=((hi*4294967296+mid:Nat):Int):=by
  have e1:((hi:Int)*4294967296)=((hi*4294967296:Nat):Int):=by simp
  rw[e1,u64_or_nat _ _ aa aa,nat_join 32 _ _ aa aa]
 obtain⟨U2,hU2⟩:∃ U2,U2=hi*4294967296+mid:=⟨_,rfl⟩
 have hU:U2<v1*4294967296+4294967296:=by omega
 rw[<-hU2] at ud ⊢
 have FQ:((v1:Int) != 0)=true:=by rw[bne_iff_ne];omega
 have hV:0<v1*4294967296+v2:=by omega
 obtain⟨V,hVe⟩:∃ V,V=v1*4294967296+v2:=⟨_,rfl⟩
 obtain⟨U,hUe⟩:∃ U,U=U2*4294967296+low:=⟨_,rfl⟩
 rw[<-hVe,<-hUe]
 rw[<-hVe] at hV
 have HV:=Lib.hid hVe
 have HU:=Lib.hid hUe
 have HST:Hid (∀ t:Nat,t<=4294967295->t*V<=U->t<=U2/v1):=by rw[hVe,hUe];exact zR h1 hlow
 have HUU:=Lib.hid hU
 have Ci:=Nat.div_add_mod U2 v1
 have qM:=Nat.mod_lt U2 h1
 have hU64:U2<18446744073709551616:=by omega
 have d1:((U2/v1:Nat):Int)=(U2:Int)/(v1:Int):=by simp
 have d2:((U2%v1:Nat):Int)=(U2:Int)%(v1:Int):=by simp
 have dl:(U2:Int)/(v1:Int)<18446744073709551616:=by rw[<-d1];have:=Nat.div_le_self U2 v1;omega
 have dl0:0<=(U2:Int)/(v1:Int):=Int.ediv_nonneg aa aa
 have dm0:0<=(U2:Int)%(v1:Int):=Int.emod_nonneg _ aa
 have dm1:(U2:Int)%(v1:Int)<4294967296:=by rw[<-d2];omega
 have HDM:=Lib.hid Ci
 have IL:=Lib.hid qM
 have HD1:=Lib.hid d1
 have HD2:=Lib.hid d2
 clear hVe hUe hU Ci qM d1 d2 hU2
 refine aA λR' bg=> ?_
 go_enter Tryz.func210,Tryz.ntmps210
 go_wp2_with fail
 go_step3
 go_wp2_with fail
 go_quiet (fail)
 go_wp2_with fail
 go_step3
 go_wp2_with fail
 go_loopw [12,13] (λqv rv wr=>zQ w U2 v1 V U qv rv wr) (λqv _ _=>(intOf qv).toNat)
 case atStart=>exact⟨U2/v1,U2%v1,_,by rw[HD1.out],by rw[HD2.out],by rw[Nat.mul_comm];exact HDM.out,Nat.lt_trans IL.out h14,HST.out,rfl⟩
 case round=>
  obtain⟨q,r,dn,rfl,rfl,hqr,hr,hmax,rfl⟩:=hrel
  have HQR:=Lib.hid hqr
  have HMAX:=Lib.hid hmax
  have hq64:(q:Int)<18446744073709551616:=by
   have h3:q*1<=q*v1:=Nat.mul_le_mul_left _ h1
   omega
  have hr64:(r:Int)+(v1:Int)<18446744073709551616:=by omega
  clear hqr hmax dl dl0 dm0 dm1 ud
  have next:(∀ t:Nat,t<=4294967295->t*V<=U->t<=q-1)->1<=q->r+v1<4294967296->zQ w U2 v1 V U (.int .u64 ((q:Int)-1)) (.int .u64 ((r:Int)+(v1:Int))) (w.drewN dn):=λa b c=>
   ⟨q-1,r+v1,dn,by rw[show ((q-1:Nat):Int)=(q:Int)-1 by omega],by simp,by
    have h3:=HQR.out
    obtain⟨k,rfl⟩:∃ k,q=k+1:=⟨q-1,by omega⟩
    rw[Nat.add_mul] at h3
    simp only[Nat.add_sub_cancel]
    omega,c,a,rfl⟩
  have stop:(∀ t:Nat,t<=4294967295->t*V<=U->t<=q-1)->1<=q->4294967296<=r+v1->(q:Int)-1=(fA U V:Int):=λa b c=>by
   have h3:=HQR.out
   obtain⟨k,rfl⟩:∃ k,q=k+1:=⟨q-1,by omega⟩
   have h4:k*v1+(r+v1)=U2:=by rw[Nat.add_mul] at h3;omega
   obtain⟨h5,h6⟩:=zT (low:=low) h4 c HUU.out h2
   have h7:k=fA U V:=zS hV h5 (by rw[HV.out,HU.out];exact uv h4 h6) (by simpa using a)
   omega
  have HNEXT:=Lib.hid next
  have HSTOP:=Lib.hid stop
  clear next stop
  by_cases hqB:4294967296<=q
  ·have c1:4294967295<(q:Int):=by omega
   have hA:Hid (∀ t:Nat,t<=4294967295->t*V<=U->t<=q-1):=λt ht _=>by omega
   have c2:0<=(q:Int)-1:=by omega
   by_cases FI:r+v1<4294967296
   ·have c3:decide (4294967295<(r:Int)+(v1:Int))=false:=decide_eq_false aa
    go_wp2_with fail
    go_roundw
    case rel=>exact HNEXT.out hA.out aa FI
    case measure=>simp[intOf];omega
   ·have c3:4294967295<(r:Int)+(v1:Int):=by omega
    go_wp2_with fail
    exact bg.out _ _ ⟨kA (HSTOP.out hA.out aa aa),_,rfl⟩
  ·have c1:(q:Int)<=4294967295:=by omega
   have m2:q*v2<=4294967295*4294967295:=Nat.mul_le_mul aa aa
   have m0:0<=(q:Int)*(v2:Int):=by rw[<-Int.natCast_mul];omega
   have m1:(q:Int)*(v2:Int)<18446744073709551616:=by rw[<-Int.natCast_mul];omega
   have ud:bits BinOp.or IntKind.u64 ((r:Int)*4294967296) (low:Int)=((r*4294967296+low:Nat):Int):=by
    have e1:((r:Int)*4294967296)=((r*4294967296:Nat):Int):=by simp
    rw[e1,u64_or_nat _ _ aa aa,nat_join 32 _ _ aa aa]
   obtain⟨RL,hRL⟩:∃ RL,RL=r*4294967296+low:=⟨_,rfl⟩
   rw[<-hRL] at ud
   have HRL:=Lib.hid hRL
   by_cases hc:RL<q*v2
   ·have cc:(RL:Int)<(q:Int)*(v2:Int):=by rw[<-Int.natCast_mul];omega
    have hq1:1<=q:=by
     rcases Nat.eq_zero_or_pos q with h|h
     ·subst h;rw[Nat.zero_mul] at hc;omega
     ·exact h
    have hA:Hid (∀ t:Nat,t<=4294967295->t*V<=U->t<=q-1):=λt ht hf=>by
     have h3:=HMAX.out t ht hf
     have h4:=CE (B:=4294967296) (low:=low) HQR.out (by rw[<-hRL];exact hc)
     rw[<-HV.out,<-HU.out] at h4
     have h5:t≠q:=λe=>by subst e;omega
     omega
    have c2:0<=(q:Int)-1:=by omega
    clear m2 hc hRL
    by_cases FI:r+v1<4294967296
    ·have c3:decide (4294967295<(r:Int)+(v1:Int))=false:=decide_eq_false aa
     go_wp2_with fail
     go_roundw
     case rel=>exact HNEXT.out hA.out aa FI
     case measure=>simp[intOf];omega
    ·have c3:4294967295<(r:Int)+(v1:Int):=by omega
     go_wp2_with fail
     exact bg.out _ _ ⟨kA (HSTOP.out hA.out aa aa),_,rfl⟩
   ·have cc:decide ((RL:Int)<(q:Int)*(v2:Int))=false:=decide_eq_false (by rw[<-Int.natCast_mul];omega)
    have cx:decide (4294967295<(q:Int))=false:=decide_eq_false aa
    have he:q=fA U V:=zS hV aa (by rw[HV.out,HU.out];exact uv HQR.out (by rw[<-hRL];omega)) HMAX.out
    have HE:=Lib.hid he
    clear m2 hc hRL he c1
    go_wp2_with fail
    exact bg.out _ _ ⟨by rw[<-HE.out];rfl,_,rfl⟩
end
section
open Go.RowKit
theorem Rd.pQ {w w':World} {g sz n:Nat} {v:Value} {cs:List Value} (h:Rd w sz v n cs) (hg:w.grownBy w' (some g)) (hne:∀ p c a,v=.slice p n c->p=some a->a.block≠g):Rd w' sz v n cs:=by
 obtain⟨p,c,rfl,h1,h2,h3,h4⟩:=h
 refine⟨p,c,rfl,h1,h2,h3,λhn=> ?_⟩
 obtain⟨b,off,hp,hc⟩:=h4 hn
 refine⟨b,off,hp,λj u hj=> ?_⟩
 exact hg.cell (hc j u hj) (λe=>hne p c _ rfl hp (by simpa using e))
theorem jZ (w:World) (row:Option Nat):w.grownBy w row:=⟨rfl,rfl,rfl,Nat.le_refl _,λ_ _ _=>rfl⟩
theorem wj {a b c:World} {row:Option Nat} (h:a.grownBy b row) (k:b.grownBy c row):a.grownBy c row:=
 ⟨k.os.trans h.os,k.tape.trans h.tape,k.output.trans h.output,Nat.le_trans h.size k.size,λj hj hne=>(k.block j (Nat.lt_of_lt_of_le hj h.size) hne).trans (h.block j hj hne)⟩
theorem lE {w wr:World} {g j:Nat} {u:Value} (h:w.grownBy wr (some g)):w.grownBy (wr.setCell ⟨g,j,none⟩ u) (some g):=
 ⟨h.os,h.tape,h.output,by simpa [World.setCell] using h.size,λk hk hne=>(Below.heap_setCell wr ⟨g,j,none⟩ u k (λe=>hne (by rw[e]))).trans (h.block k hk hne)⟩
theorem tu {pre D A post:List Nat} {i k a:Nat} (hp:pre.length=i) (hD:D.length=k) (ha:A[k]? =some a):(pre++(D++(A.drop k++post)))[i+k]? =some a:=by
 subst hp;subst hD
 obtain⟨hl,he⟩:=List.getElem?_eq_some_iff.1 ha
 rw[List.getElem?_append_right aa,Nat.add_sub_cancel_left,List.getElem?_append_right (Nat.le_refl _),Nat.sub_self,List.drop_eq_getElem_cons hl,List.cons_append,List.getElem?_cons_zero,he]
theorem Er {pre D A post:List Nat} {i k x:Nat} (hp:pre.length=i) (hD:D.length=k) (hl:k<A.length):(pre++(D++(A.drop k++post))).set (i+k) x=pre++((D++[x])++(A.drop (k+1)++post)):=by
 subst hp;subst hD
 rw[List.set_append_right _ _ aa,Nat.add_sub_cancel_left,List.set_append_right _ _ (Nat.le_refl _),Nat.sub_self,List.drop_eq_getElem_cons hl,List.cons_append,List.set_cons_zero,List.append_assoc];rfl
theorem pR (n:Int):IntKind.u64.wrap n=n%18446744073709551616:=by simp[IntKind.wrap,IntKind.bits,IntKind.signed]
theorem zU {a lo r:Nat} (ha:a<4294967296) (hl:lo<4294967296) (hr:r<=1):∃ S1 S2 x r':Nat,IntKind.u64.wrap ((a:Int)-(lo:Int))=(S1:Int)/\IntKind.u64.wrap ((S1:Int)-(r:Int))=(S2:Int)/\
  (S2:Int)%4294967296=(x:Int)/\(S2:Int)/9223372036854775808=(r':Int)/\r'<=1/\x<4294967296/\a+4294967296*r'=x+lo+r/\S1<18446744073709551616/\S2<18446744073709551616:=by
 refine⟨(((a:Int)-lo)%18446744073709551616).toNat,(((a:Int)-lo-r)%18446744073709551616).toNat,(((a:Int)-lo-r)%4294967296).toNat,(if lo+r<=a then 0 else 1),?_,?_,?_,?_,?_,?_,?_,?_,?_⟩
 ·rw[pR];omega
 ·rw[pR];omega
 ·omega
 ·split <;> omega
 ·split <;> omega
 ·omega
 ·split <;> omega
 ·omega
 ·omega
def pS (w:World) (B g N cap L q:Nat) (pre A post ys:List Nat) (cv bv kv:Value) (wr:World):Prop:=
 ∃ (k c r:Nat) (D:List Nat),k<=L/\kv=.int .i64 (k:Int)/\cv=.int .u64 (c:Int)/\bv=.int .u64 (r:Int)/\c<4294967296/\r<=1/\D.length=k/\bI D/\
   af D+q*af (ys.take k)=af (A.take k)+4294967296^k*(c+r)/\4294967296^k*c<=q*af (ys.take k)/\
   wr.ownsRow B 191 1 (.slice (some ⟨g,0,none⟩) N cap) N (ints .u32 (pre++(D++(A.drop k++post))))/\w.grownBy wr (some g)
theorem pS.step {w wr:World} {B g N cap i L q k c r y a x r' P:Nat} {pre A post ys D:List Nat} {xi ci ri:Int} (hk:k<L) (hA:A.length=L) (zV:pre.length=i) (hD:D.length=k) (ow:bI D)
  (hv:af D+q*af (ys.take k)=af (A.take k)+4294967296^k*(c+r)) (hc:4294967296^k*c<=q*af (ys.take k))
  (aw:wr.ownsRow B 191 1 (.slice (some ⟨g,0,none⟩) N cap) N (ints .u32 (pre++(D++(A.drop k++post))))) (hg:w.grownBy wr (some g))
  (hy:ys.getD k 0=y) (ha:A[k]? =some a) (hP:P=q*y+c) (hP64:P<18446744073709551616) (jz:x<4294967296) (Cw:r'<=1) (he:a+4294967296*r'=x+P%4294967296+r)
  (hxi:xi=(x:Int)) (hci:ci=((P/4294967296:Nat):Int)) (FR:ri=(r':Int)):
  pS w B g N cap L q pre A post ys (.int .u64 ci) (.int .u64 ri) (.int .i64 ((k:Int)+1)) (wr.setCell ⟨g,i+k,none⟩ (.int .u32 xi)):=by
 subst hxi;subst hci;subst FR;subst hP
 have h1:=Own.eU (j:=i+k) (x:=x) aw
 rw[Er zV hD aa] at h1
 have e1:af (ys.take (k+1))=af (ys.take k)+4294967296^k*y:=by rw[aL,hy]
 have e2:af (A.take (k+1))=af (A.take k)+4294967296^k*a:=by rw[aL,List.getD,ha];rfl
 refine⟨k+1,(q*y+c)/4294967296,r',D++[x],by omega,rfl,rfl,rfl,by omega,Cw,by simp[hD],ow.append (bI.cons jz bI.nil),?_,?_,h1,lE hg⟩
 ·rw[cT,hD,e1,e2,Nat.pow_succ]
  exact CB hv he
 ·rw[e1,Nat.pow_succ,Nat.mul_add]
  have h3:4294967296^k*4294967296*((q*y+c)/4294967296)<=4294967296^k*(q*y+c):=by
   rw[Nat.mul_assoc];exact Nat.mul_le_mul_left _ (Nat.mul_div_le _ _)
  rw[Nat.mul_add,Nat.mul_left_comm] at h3
  omega
def pT (w:World) (B g N cap L:Nat) (pre A post ys:List Nat) (cv kv:Value) (wr:World):Prop:=
 ∃ (k c:Nat) (D:List Nat),k<=L/\kv=.int .i64 (k:Int)/\cv=.int .u32 (c:Int)/\c<=1/\D.length=k/\bI D/\
   af D+4294967296^k*c=af (A.take k)+af (ys.take k)/\
   wr.ownsRow B 191 1 (.slice (some ⟨g,0,none⟩) N cap) N (ints .u32 (pre++(D++(A.drop k++post))))/\w.grownBy wr (some g)
theorem pT.step {w wr:World} {B g N cap i L k c y a:Nat} {pre A post ys D:List Nat} (hk:k<L) (hA:A.length=L) (zV:pre.length=i) (hD:D.length=k) (ow:bI D) (hc:c<=1)
  (hv:af D+4294967296^k*c=af (A.take k)+af (ys.take k))
  (aw:wr.ownsRow B 191 1 (.slice (some ⟨g,0,none⟩) N cap) N (ints .u32 (pre++(D++(A.drop k++post))))) (hg:w.grownBy wr (some g))
  (hy:ys.getD k 0=y) (ha:A[k]? =some a) (ha4:a<4294967296) (wT:y<4294967296):
  pT w B g N cap L pre A post ys (.int .u32 (((a+y+c)/4294967296:Nat):Int)) (.int .i64 ((k:Int)+1)) (wr.setCell ⟨g,i+k,none⟩ (.int .u32 (((a+y+c)%4294967296:Nat):Int))):=by
 have h1:=Own.eU (j:=i+k) (x:=(a+y+c)%4294967296) aw
 rw[Er zV hD aa] at h1
 have e1:af (ys.take (k+1))=af (ys.take k)+4294967296^k*y:=by rw[aL,hy]
 have e2:af (A.take (k+1))=af (A.take k)+4294967296^k*a:=by rw[aL,List.getD,ha];rfl
 refine⟨k+1,(a+y+c)/4294967296,D++[(a+y+c)%4294967296],by omega,rfl,rfl,by omega,by simp[hD],ow.append (bI.cons (Nat.mod_lt _ aa) bI.nil),?_,h1,lE hg⟩
 rw[cT,hD,e1,e2,Nat.pow_succ]
 exact zn _ _ a y c _ _ _ hv rfl
def TookAt (w w':World) (B g N cap:Nat) (pre A post ys:List Nat) (q q':Nat):Prop:=
 ∃ A':List Nat,A'.length=A.length/\bI A'/\af A' +q' *af ys=af A/\(q*af ys<=af A/\q'=q\/af A<q*af ys/\q' +1=q)/\
   w'.ownsRow B 191 1 (.slice (some ⟨g,0,none⟩) N cap) N (ints .u32 (pre++(A'++post)))/\w.grownBy w' (some g)
set_option maxRecDepth 100000 in
theorem IU (g N cap i L capw n q B:Nat) (pre A post ys:List Nat) (vb:Value) (w:World) (aw:w.ownsRow B 191 1 (.slice (some ⟨g,0,none⟩) N cap) N (ints .u32 (pre++(A++post))))
  (zV:pre.length=i) (hA:A.length=L) (hlA:bI A) (hs:Rd w 1 vb n (ints .u32 ys)) (mz:bI ys) (hne:∀ p c a,vb=.slice p n c->p=some a->a.block≠g) (hL:L=n+1) (hLc:L<=capw) (hcw:capw<=9223372036854775807)
  (hq:q<4294967296) (hqb:q*af ys<=af A+af ys):
  Calls Tryz.prog 211 #[.slice (some ⟨g,i,none⟩) L capw,vb,.int .u64 (q:Int)] w λe w'=>∃ q':Nat,e=.returned (.int .u32 (q':Int))/\TookAt w w' B g N cap pre A post ys q q':=by
 obtain⟨p,c,rfl,dK,eE,iR⟩:=hs.u32
 have Hs:=Lib.hid hs
 have Ig:=Lib.hid hlA
 have HLY:=Lib.hid mz
 have HNE:=Lib.hid hne
 have HO:=Lib.hid aw
 have HA:=Lib.hid hA
 have HP:=Lib.hid zV
 have HY:=Lib.hid iR
 have HQB:=Lib.hid hqb
 have HLL:=Lib.hid hL
 clear hs hlA mz hne aw hA zV iR hqb hL
 refine aA λR' bg=> ?_
 go_enter Tryz.func211,Tryz.ntmps211
 go_wp2_with fail
 go_loopw [7,8,18] (λcv bv kv wr=>pS w B g N cap L q pre A post ys cv bv kv wr) (λ_ _ kv _=>L-(intOf kv).toNat)
 case atStart=>exact⟨0,0,0,[],Nat.zero_le _,rfl,rfl,rfl,by omega,by omega,rfl,bI.nil,by simp[da],by simp,by simpa using HO.out,jZ _ _⟩
 case round=>
  obtain⟨k,c,r,D,hkL,rfl,rfl,rfl,Ie,jF,hD,hlD,hv,hcc,aw,hg⟩:=hrel
  have HD:=Lib.hid hD
  have wU:=Lib.hid hlD
  have HV:=Lib.hid hv
  have HCC:=Lib.hid hcc
  have HOW:=Lib.hid aw
  have HG:=Lib.hid hg
  clear hD hlD hv hcc aw hg
  by_cases Es:k<L
  ·obtain⟨a,ha⟩:∃ a,A[k]? =some a:=⟨_,List.getElem?_eq_getElem (by rw[HA.out];exact Es)⟩
   have ha4:=Ig.out.at ha
   have HAK:=Lib.hid ha
   have hlt:i+k<N:=by
    have h1:=HOW.out.1
    have h2:=(List.getElem?_eq_some_iff.1 (tu (post:=post) HP.out HD.out ha)).1
    simp at h1 h2
    omega
   obtain⟨a',ha',hca,hfa⟩:=Own.fq HOW.out (j:=i+k) hlt
   rw[tu HP.out HD.out ha] at ha'
   obtain rfl:=Option.some.inj ha'
   have Cv:=gW hca
   simp only at Cv
   clear ha ha'
   by_cases qP:k<n
   ·obtain⟨b2,o2,y,rfl,aQ,mg,zx⟩:=(Hs.out.pQ HG.out HNE.out).cellAt qP
    have En:Hid (ys.getD k 0=y):=by show _=_;rw[List.getD,mg];rfl
    have wT:=HLY.out.at mg
    clear mg
    have m3:q*y<=4294967295*4294967295:=Nat.mul_le_mul aa aa
    have m0:0<=(q:Int)*(y:Int):=by rw[<-Int.natCast_mul];omega
    have m1:(q:Int)*(y:Int)<18446744073709551616:=by rw[<-Int.natCast_mul];omega
    obtain⟨P,hP⟩:∃ P,P=q*y+c:=⟨_,rfl⟩
    have hP64:P<18446744073709551616:=by omega
    have hPi:(q:Int)*(y:Int)+(c:Int)=(P:Int):=by rw[hP];simp
    obtain⟨lo,HQ⟩:∃ lo,lo=P%4294967296:=⟨_,rfl⟩
    have hlo4:lo<4294967296:=by omega
    have hloi:(P:Int)%4294967296=(lo:Int):=by omega
    obtain⟨S1,S2,x,r',f1,f2,f3,f4,f5,f6,f7,f8,f9⟩:=zU ha4 hlo4 jF
    have HF7:=Lib.hid f7
    have HPE:=Lib.hid hP
    have HLO:=Lib.hid HQ
    clear m3 hP HQ f7
    go_wp2_with fail
    go_roundw
    case rel=>exact pS.step Es HA.out HP.out HD.out wU.out HV.out HCC.out HOW.out HG.out En.out HAK.out HPE.out hP64 f6 f5 (by rw[<-HLO.out];exact HF7.out) rfl cS rfl
    case measure=>simp[intOf];omega
   ·have En:Hid (ys.getD k 0=0):=by show _=_;rw[List.getD,List.getElem?_eq_none (by rw[HY.out];omega)];rfl
    obtain⟨S1,S2,x,r',f1,f2,f3,f4,f5,f6,f7,f8,f9⟩:=zU ha4 Ie jF
    have HF7:=Lib.hid f7
    clear f7
    go_wp2_with fail
    go_roundw
    case rel=>exact pS.step Es HA.out HP.out HD.out wU.out HV.out HCC.out HOW.out HG.out En.out HAK.out (P:=c) cS aa f6 f5 (by rw[Nat.mod_eq_of_lt Ie];exact HF7.out) rfl (by first|rfl|(simp;omega)|omega) rfl
    case measure=>simp[intOf];omega
  ·obtain rfl:k=L:=by omega
   have hpow:q*af ys<4294967296^k:=by
    have h1:=fv HLY.out
    rw[HY.out] at h1
    have h2:q*af ys<=4294967295*af ys:=Nat.mul_le_mul_right _ aa
    have h3:4294967296^k=4294967296^n*4294967296:=by rw[HLL.out,Nat.pow_succ]
    omega
   have hyt:af (ys.take k)=af ys:=aU (by rw[HY.out,HLL.out];omega)
   have rW:af (A.take k)=af A:=aU (by rw[HA.out];omega)
   have hv:=HV.out
   have hcc:=HCC.out
   rw[hyt] at hv hcc
   rw[rW] at hv
   have hDl:=fv wU.out
   rw[HD.out] at hDl
   obtain rfl:c=0:=by
    rcases Nat.eq_zero_or_pos c with h|h
    ·exact h
    ·have:4294967296^k*1<=4294967296^k*c:=Nat.mul_le_mul_left _ h
     omega
   rw[Nat.zero_add] at hv
   have HV2:=Lib.hid hv
   have HPW:=Lib.hid hpow
   have CF:=Lib.hid hDl
   have hOW:=HOW.out
   rw[List.drop_of_length_le (by rw[HA.out];omega),List.nil_append] at hOW
   have HOW2:=Lib.hid hOW
   clear hv hcc hpow hyt rW hDl hOW HOW HCC HV
   rcases (show r=0\/r=1 by omega) with rfl|rfl
   ·go_wp2_with fail
    refine bg.out _ _ ⟨q,?_,D,by rw[HD.out,HA.out],wU.out,by have:=HV2.out;omega,.inl ⟨by have:=HV2.out;omega,rfl⟩,HOW2.out,HG.out⟩
    first|rfl|exact kA aa
   ·have hq1:1<=q:=by
     rcases Nat.eq_zero_or_pos q with h|h
     ·have h1:=HV2.out;have h2:=CF.out;rw[h,Nat.zero_mul] at h1;omega
     ·exact h
    go_wp2_with fail
    rw[show ((0:Nat):Int)=0 from rfl,show ((1:Nat):Int)=1 from rfl]
    obtain⟨wo,rfl⟩:∃ wo:World,wo=wr:=⟨_,rfl⟩
    go_loopw [13,62] (λcv kv wr'=>pT wo B g N cap k pre D post ys cv kv wr') (λ_ kv _=>k-(intOf kv).toNat)
    case atStart=>exact⟨0,0,[],Nat.zero_le _,rfl,rfl,by omega,rfl,bI.nil,by simp[da],by simpa using HOW2.out,jZ _ _⟩
    case round=>
     obtain⟨l,c,E,hlk,rfl,rfl,nR,hE,hlE,hvE,aw,hg⟩:=hrel
     have HE:=Lib.hid hE
     have HLE:=Lib.hid hlE
     have HVE:=Lib.hid hvE
     have HOW:=Lib.hid aw
     have HG2:=Lib.hid hg
     clear hE hlE hvE aw hg
     by_cases hlt:l<k
     ·obtain⟨a,ha⟩:∃ a,D[l]? =some a:=⟨_,List.getElem?_eq_getElem (by rw[HD.out];exact hlt)⟩
      have ha4:=wU.out.at ha
      have HAK:=Lib.hid ha
      have hlN:i+l<N:=by
       have h1:=HOW.out.1
       have h2:=(List.getElem?_eq_some_iff.1 (tu (post:=post) HP.out HE.out ha)).1
       simp at h1 h2
       omega
      obtain⟨a',ha',hca,hfa⟩:=Own.fq HOW.out (j:=i+l) hlN
      rw[tu HP.out HE.out ha] at ha'
      obtain rfl:=Option.some.inj ha'
      have Cv:=gW hca
      simp only at Cv
      clear ha ha'
      by_cases IB:l<n
      ·obtain⟨b2,o2,y,rfl,aQ,mg,zx⟩:=((Hs.out.pQ HG.out HNE.out).pQ HG2.out HNE.out).cellAt IB
       have En:Hid (ys.getD l 0=y):=by show _=_;rw[List.getD,mg];rfl
       have wT:=HLY.out.at mg
       clear mg
       go_wp2_with fail
       refine (kC a y c _ ha4 wT aa).mono ?_
       rintro e w2 ⟨rfl,rfl⟩
       go_wp2_with fail
       go_roundw
       case rel=>exact pT.step hlt HD.out HP.out HE.out HLE.out nR HVE.out HOW.out HG2.out En.out HAK.out ha4 wT
       case measure=>simp[intOf];omega
      ·have En:Hid (ys.getD l 0=0):=by show _=_;rw[List.getD,List.getElem?_eq_none (by rw[HY.out];omega)];rfl
       go_wp2_with fail
       refine (kC a 0 c _ ha4 aa aa).mono ?_
       rintro e w2 ⟨rfl,rfl⟩
       go_wp2_with fail
       go_roundw
       case rel=>exact pT.step hlt HD.out HP.out HE.out HLE.out nR HVE.out HOW.out HG2.out En.out HAK.out ha4 aa
       case measure=>simp[intOf];omega
     ·obtain rfl:l=k:=by omega
      have hve:=HVE.out
      rw[aU (by rw[HD.out];omega),aU (by rw[HY.out,HLL.out];omega)] at hve
      have hEl:=fv HLE.out
      rw[HE.out] at hEl
      have hOW:=HOW.out
      rw[List.drop_of_length_le (by rw[HD.out];omega),List.nil_append] at hOW
      have hv2:=HV2.out
      have hqb:=HQB.out
      obtain⟨m,rfl⟩:∃ m,q=m+1:=⟨q-1,by omega⟩
      rw[Nat.add_mul,Nat.one_mul] at hv2 hqb
      have hfin:af E+m*af ys=af A:=by
       rcases (show c=0\/c=1 by omega) with rfl|rfl
       ·omega
       ·omega
      have hlt2:af A<(m+1)*af ys:=by
       rw[Nat.add_mul,Nat.one_mul]
       have:=CF.out
       omega
      have HFIN:=Lib.hid hfin
      have HLT2:=Lib.hid hlt2
      have HOW3:=Lib.hid hOW
      clear hve hEl hOW hv2 hqb hfin hlt2
      have hm:((m+1:Nat):Int)-1=(m:Int):=by omega
      go_wp2_with fail
      refine bg.out _ _ ⟨m,?_,E,by rw[HE.out,HA.out],HLE.out,HFIN.out,.inr ⟨HLT2.out,rfl⟩,HOW3.out,wj HG.out HG2.out⟩
      first|rfl|exact kA aa
end
section
theorem getD_some {xs:List Nat} {k x:Nat} (h:xs[k]? =some x):xs.getD k 0=x:=by rw[List.getD,h];rfl
theorem FU {A:List Nat} {m a0 a1 a2:Nat} (hl:A.length=m+3) (h0:A[m]? =some a0) (h1:A[m+1]? =some a1) (h2:A[m+2]? =some a2):
  af A=((a2*4294967296+a1)*4294967296+a0)*4294967296^m+af (A.take m):=by
 have e0:=aL A m
 have e1:=aL A (m+1)
 have e2:=aL A (m+2)
 rw[getD_some h0] at e0
 rw[getD_some h1,e0,Nat.pow_succ] at e1
 rw[getD_some h2,e1,Nat.pow_succ,Nat.pow_succ,aU aa] at e2
 rw[e2]
 generalize 4294967296^m=p
 rw[Nat.add_mul,Nat.add_mul,Nat.add_mul]
 rw[show a2*4294967296*4294967296*p=p*4294967296*4294967296*a2 by ac_rfl]
 rw[show a1*4294967296*p=p*4294967296*a1 by rw[Nat.mul_comm p,Nat.mul_comm _ a1,Nat.mul_assoc]]
 rw[Nat.mul_comm a0 p]
 omega
theorem top_two {Y:List Nat} {m v1 v2:Nat} (hl:Y.length=m+2) (h2:Y[m]? =some v2) (h1:Y[m+1]? =some v1):af Y=(v1*4294967296+v2)*4294967296^m+af (Y.take m):=by
 have e0:=aL Y m
 have e1:=aL Y (m+1)
 rw[getD_some h2] at e0
 rw[getD_some h1,e0,Nat.pow_succ,aU aa] at e1
 rw[e1]
 generalize 4294967296^m=p
 rw[Nat.add_mul]
 rw[show v1*4294967296*p=p*4294967296*v1 by rw[Nat.mul_comm p,Nat.mul_comm _ v1,Nat.mul_assoc]]
 rw[Nat.mul_comm v2 p]
 omega
theorem mK {xs:List Nat} (h:bI xs) {m:Nat} (hm:m<=xs.length):af (xs.take m)<4294967296^m:=by
 have:=fv (h.take m)
 rwa [List.length_take,Nat.min_eq_left hm] at this
structure Window (us ys:List Nat) (i m b hi mid low v1 v2:Nat) (A post:List Nat):Prop where
 split:us=us.take i++(A++post)
 pre:(us.take i).length=i
 len:A.length=m+3
 lim:bI A
 zero:af post=0
 lt:af A<4294967296*b
 hi_le:hi<=v1
 near:af A/b<=fA ((hi*4294967296+mid)*4294967296+low) (v1*4294967296+v2)/\fA ((hi*4294967296+mid)*4294967296+low) (v1*4294967296+v2)<=af A/b+1
theorem FV {us ys:List Nat} {i m b hi mid low v1 v2 N:Nat} (hN:us.length=N) (hlt:i+(m+2)<N) (hu:bI us) (hy:bI ys) (iR:ys.length=m+2) (hb:af ys=b) (hd:af (us.drop (i+1))<b)
  (h1:us[i+(m+2)]? =some hi) (h2:us[i+(m+1)]? =some mid) (h3:us[i+m]? =some low) (h4:ys[m+1]? =some v1) (h5:ys[m]? =some v2) (Cl:0<v1):
  Window us ys i m b hi mid low v1 v2 ((us.drop i).take (m+3)) (us.drop (i+(m+3))):=by
 have hA:((us.drop i).take (m+3)).length=m+3:=by rw[List.length_take,List.length_drop];omega
 have hlA:bI ((us.drop i).take (m+3)):=(hu.drop i).take _
 have hsp:us.drop i=(us.drop i).take (m+3)++us.drop (i+(m+3)):=by
  rw[<-List.drop_drop];exact (List.take_append_drop _ _).symm
 have g0:((us.drop i).take (m+3))[m]? =some low:=by rw[List.getElem?_take,if_pos aa,List.getElem?_drop];exact h3
 have g1:((us.drop i).take (m+3))[m+1]? =some mid:=by rw[List.getElem?_take,if_pos aa,List.getElem?_drop];exact h2
 have g2:((us.drop i).take (m+3))[m+2]? =some hi:=by rw[List.getElem?_take,if_pos aa,List.getElem?_drop];exact h1
 have hyp:b<4294967296^(m+2):=by rw[<-hb,<-iR];exact fv hy
 have hz:af (us.drop (i+(m+3)))=0:=by
  have e:=uq (xs:=us.drop (i+1)) (m+2) (by rw[List.length_drop];omega)
  rw[List.drop_drop,show i+1+(m+2)=i+(m+3) by omega] at e
  rcases Nat.eq_zero_or_pos (af (us.drop (i+(m+3)))) with h|h
  ·exact h
  ·have:4294967296^(m+2)*1<=4294967296^(m+2)*af (us.drop (i+(m+3))):=Nat.mul_le_mul_left _ h
   omega
 have hAv:af (us.drop i)=af ((us.drop i).take (m+3)):=by
  conv=>lhs;rw[hsp]
  rw[dx,hz,Nat.mul_zero,Nat.add_zero]
 obtain⟨u0,hu0⟩:∃ u0,us[i]? =some u0:=⟨_,List.getElem?_eq_getElem aa⟩
 have hu04:=hu.at hu0
 have IV:af ((us.drop i).take (m+3))<4294967296*b:=by
  rw[<-hAv,oi hu0]
  omega
 have eA:=FU hA g0 g1 g2
 have eY:=top_two iR h5 h4
 rw[hb] at eY
 have lA:=mK hlA (m:=m) aa
 have lY:=mK hy (m:=m) aa
 have hp:0<4294967296^m:=Nat.pow_pos aa
 refine⟨?_,by rw[List.length_take];omega,hA,hlA,hz,IV,?_,CA hp eA lA eY lY aa IV⟩
 ·rw[<-hsp];exact (List.take_append_drop _ _).symm
 ·-- hi<=v1
  rcases Nat.lt_or_ge v1 hi with h|h
  ·have k1:af (us.drop (i+1))=af ((us.drop (i+1)).take (m+1))+4294967296^(m+1)*af ((us.drop (i+1)).drop (m+1)):=uq _ (by rw[List.length_drop];omega)
   rw[List.drop_drop,show i+1+(m+1)=i+(m+2) by omega,oi h1] at k1
   have hv2:=hy.at h5
   have k2:4294967296^(m+1)*hi<=af (us.drop (i+1)):=by
    rw[k1,Nat.mul_add];omega
   have k3:b<4294967296^(m+1)*(v1+1):=by
    rw[eY,Nat.pow_succ]
    have k4:(v1*4294967296+v2+1)*4294967296^m<=((v1+1)*4294967296)*4294967296^m:=Nat.mul_le_mul_right _ aa
    rw[show 4294967296^m*4294967296*(v1+1)=((v1+1)*4294967296)*4294967296^m by rw[Nat.mul_comm,Nat.mul_comm (4294967296^m),Nat.mul_assoc]]
    rw[Nat.add_mul,Nat.one_mul] at k4
    omega
   have k5:4294967296^(m+1)*(v1+1)<=4294967296^(m+1)*hi:=Nat.mul_le_mul_left _ h
   omega
  ·exact h
theorem CG {u b q q' r:Nat} (hb:0<b) (h1:u/b<=q) (h2:q<=u/b+1) (hv:r+q' *b=u) (h:q*b<=u/\q'=q\/u<q*b/\q' +1=q):q'=u/b/\r<b:=by
 have hq:q'=u/b:=by
  rcases h with ⟨h3,rfl⟩|⟨h3,h4⟩
  ·have:=(Nat.le_div_iff_mul_le hb).2 h3;omega
  ·have:¬ q<=u/b:=λhc=>by have:=(Nat.le_div_iff_mul_le hb).1 hc;omega
   omega
 refine⟨hq,?_⟩
 have e:=Nat.div_add_mod u b
 have m:=Nat.mod_lt u hb
 rw[Nat.mul_comm,<-hq] at e
 omega
theorem zW {u b q:Nat} (h:q<=u/b+1):q*b<=u+b:=by
 have h1:q*b<=(u/b+1)*b:=Nat.mul_le_mul_right _ h
 have h2:=Nat.div_mul_le_self u b
 rw[Nat.add_mul,Nat.one_mul] at h1
 omega
theorem CH {us pre A A' post qs:List Nat} {i b q' a:Nat} (hsp:us=pre++(A++post)) (zV:pre.length=i) (hz:af post=0) (hv:af A' +q' *b=af A) (hlt:af A' <b)
  (ha:af us+4294967296^(i+1)*(b*af qs)=a):
  af ((pre++(A'++post)).drop i)<b/\af (pre++(A'++post))+4294967296^i*(b*af (q'::qs))=a:=by
 subst hsp
 constructor
 ·rw[List.drop_append_of_le_length aa,List.drop_of_length_le aa,List.nil_append,dx,hz,Nat.mul_zero,Nat.add_zero];exact hlt
 ·rw[dx,dx,hz,Nat.mul_zero,Nat.add_zero] at ha
  rw[dx,dx,hz,Nat.mul_zero,Nat.add_zero,dS,<-ha,<-hv,zV,Nat.mul_add b,Nat.mul_add,Nat.mul_add,Nat.pow_succ]
  rw[Nat.mul_comm q' b,show 4294967296^i*(b*(4294967296*af qs))=4294967296^i*4294967296*(b*af qs) by rw[Nat.mul_assoc,Nat.mul_left_comm b]]
  omega
theorem yi {qs:List Nat} {k x:Nat}:(List.replicate (k+1) 0++qs).set k x=List.replicate k 0++x::qs:=by
 rw[List.replicate_succ',List.append_assoc,List.set_append_right _ _ cS,List.length_replicate,Nat.sub_self];rfl
theorem zX {b t u:Nat} (hb:b≠0) (ht:(limbs b)[(limbs b).length-1]? =some t) (hu:u<32) (htu:t*2^u<4294967296):(limbs (b*2^u)).length=(limbs b).length:=by
 have hn:=cO hb
 have hp:0<2^u:=Nat.pow_pos aa
 refine Nat.le_antisymm (iz _ _ ?_) (cd (Nat.le_mul_of_pos_right _ hp))
 obtain⟨n,hl⟩:∃ n,(limbs b).length=n+1:=⟨(limbs b).length-1,by omega⟩
 rw[hl] at ht ⊢
 simp only[Nat.add_sub_cancel] at ht
 have e:=aL (limbs b) n
 rw[getD_some ht,aU aa,ag] at e
 have l:=mK (ai b) (m:=n) aa
 have h1:b<4294967296^n*(t+1):=by rw[Nat.mul_add];omega
 have h2:(t+1)*2^u<=4294967296:=by
  have h3:4294967296=2^u*2^(32-u):=by rw[<-Nat.pow_add,show u+(32-u)=32 by omega]
  rw[h3,Nat.mul_comm t] at htu
  have h4:=Nat.lt_of_mul_lt_mul_left htu
  rw[Nat.mul_comm]
  calc 2^u*(t+1)<=2^u*2^(32-u):=Nat.mul_le_mul_left _ h4
   _=4294967296:=h3.symm
 have h5:b*2^u<4294967296^n*(t+1)*2^u:=Nat.mul_lt_mul_of_pos_right h1 hp
 have h6:4294967296^n*(t+1)*2^u<=4294967296^n*4294967296:=by rw[Nat.mul_assoc];exact Nat.mul_le_mul_left _ h2
 rw[Nat.pow_succ]
 omega
theorem FX {a b u:Nat}:(a*2^u)/(b*2^u)=a/b:=Nat.mul_div_mul_right a b (Nat.pow_pos aa)
theorem FY {a b u:Nat}:(a*2^u)%(b*2^u)=(a%b)*2^u:=Nat.mul_mod_mul_right (2^u) a b
end
section
open Go.RowKit
def Divided (w w':World) (a b:Nat) (e:Ending):Prop:=
 (b=0/\e=.returned (.tuple #[.slice none 0 0,.slice none 0 0,.int .i64 20]))\/
 (b≠0/\∃ vq vr,e=.returned (.tuple #[vq,vr,.int .i64 0])/\w'.ownsRow w.heap.size 191 1 vq (limbs (a/b)).length (ints .u32 (limbs (a/b)))/\w'.ownsRow w.heap.size 191 1 vr (limbs (a%b)).length (ints .u32 (limbs (a%b))))
def IW (w:World) (B N cap n m b a ga:Nat) (vy vq:Value) (iv:Value) (wr:World):Prop:=
 ∃ (k:Nat) (us qs:List Nat),k<=m/\iv=.int .i64 ((k:Int)-1)/\us.length=N/\bI us/\af (us.drop k)<b/\qs.length=m-k/\bI qs/\af us+4294967296^k*(b*af qs)=a/\
   wr.ownsRow B 191 1 (.slice (some ⟨ga,0,none⟩) N cap) N (ints .u32 us)/\wr.ownsRow B 191 1 vq m (ints .u32 (List.replicate k 0++qs))/\Rd wr 1 vy n (ints .u32 (limbs b))/\Below B w wr
theorem uw {w:World} {g j:Nat} {u:Value}:w.grownBy (w.setCell ⟨g,j,none⟩ u) (some g):=lE (jZ _ _)
theorem CI {P:Program} {f:FuncId} {args:Array Value} {W w:World} {v:Value} (h:Calls P f args W λe w'=>e=.returned v/\∃ k,w'=W.drewN k) (hW:∃ n,W=w.drewN n):
  Calls P f args W λe w''=>e=.returned v/\∃ m,w''=w.drewN m:=
 h.mono λ_ _ ⟨he,k,hk⟩=>⟨he,by obtain⟨n,hn⟩:=hW;exact⟨n+k,by rw[hk,hn,World.drewN_drewN]⟩⟩
theorem CJ {w w':World} (h:w.grownBy w' none):Below w.heap.size w w':=⟨h.os,h.tape,h.output,h.size,λk hk=>h.block k hk cS⟩
theorem Ga {a b N mq lb:Nat} (hN:N=(limbs a).length+1) (hm:N=mq+lb) (Cm:(limbs b).length=lb) (hb:b≠0):af ((limbs a++[0]).drop mq)<b/\af (limbs a++[0])=a:=by
 have hp:=cO hb
 refine⟨?_,by rw[cT,Nat.mul_zero,ag];rfl⟩
 rw[List.drop_append_of_le_length aa,cT,Nat.mul_zero,Nat.add_zero]
 have h1:=fv ((ai a).drop mq)
 rw[List.length_drop,show (limbs a).length-mq=(limbs b).length-1 by omega] at h1
 exact Nat.lt_of_lt_of_le h1 (xX hb)
set_option maxRecDepth 100000 in
theorem rX (va vb:Value) (n m:Nat) (xs ys:List Nat) (w:World) (hr:Rd w 1 va n (ints .u32 xs)) (hs:Rd w 1 vb m (ints .u32 ys)) (hx:bI xs) (hy:bI ys) (hn:n<=536870912) (hm:m<=536870912):
  Calls Tryz.prog 176 #[va,vb] w λe w'=>Divided w w' (af xs) (af ys) e/\Below w.heap.size w w':=by
 obtain⟨p,c,rfl,dK,eE,dT⟩:=hr.u32
 obtain⟨q,d,rfl,FH,Ci,iR⟩:=hs.u32
 have Hs:=Lib.hid hs
 obtain⟨B,hB⟩:∃ B,B=w.heap.size:=⟨_,rfl⟩
 have HB:=Lib.hid hB
 obtain⟨a,ha⟩:∃ a,a=af xs:=⟨_,rfl⟩
 obtain⟨b,hb⟩:∃ b,b=af ys:=⟨_,rfl⟩
 have IX:(limbs a).length<=n:=by rw[ha,<-dT];exact fT hx
 have hbl:(limbs b).length<=m:=by rw[hb,<-iR];exact fT hy
 refine aA λR' bg=> ?_
 go_enter Tryz.func176,Tryz.ntmps176
 go_wp2_with fail
 refine (ia _ n xs _ hr hx aa).mono ?_
 rintro e w1 ⟨v1,rfl,eF,aB⟩
 rw[<-ha] at eF
 go_wp2_with fail
 refine (ia _ m ys _ (hs.below aB) hy aa).mono ?_
 rintro e w2 ⟨v2,rfl,je,aQ⟩
 rw[<-hb] at je
 rw[<-ha,<-hb,<-hB] at bg
 have pw:Hid (w2.ownsRow B 191 1 v1 (limbs a).length (ints .u32 (limbs a))):=by show World.ownsRow ..;rw[hB];exact Own.below eF aQ
 have mh:Hid (w2.ownsRow B 191 1 v2 (limbs b).length (ints .u32 (limbs b))):=Own.mono je (by rw[hB];exact aB.size)
 have rY:Hid (Below B w w2):=by show Below ..;rw[hB];exact Below.ay aB aQ
 have hBs:B<=w2.heap.size:=by rw[hB];exact rY.out.size
 obtain⟨p1,c1,rfl,_,hc1m,_⟩:=Own.form pw.out
 obtain⟨p2,c2,rfl,_,hc2m,_⟩:=Own.form mh.out
 clear hr hs hx hy eF je aB aQ dT iR ha hb hB Hs
 unfold maxLen at hc1m hc2m
 generalize Ih:(limbs a).length=la at*
 generalize Cm:(limbs b).length=lb at*
 have Ig:=Lib.hid Ih
 have Ii:=Lib.hid Cm
 by_cases lg:b=0
 ·obtain rfl:lb=0:=by rw[lg,bc] at Cm;exact Cm.symm
  clear Ih Cm
  go_wp2_with fail
  go_ret3
  exact bg.out _ _ ⟨.inl ⟨lg,rfl⟩,rY.out⟩
 ·have hlb0:lb≠0:=λh=>lg (mH (by rw[Ii.out];exact h))
  have hz:((lb:Int) == 0)=false:=by rw[beq_eq_false_iff_ne];omega
  have HNZ:=Lib.hid lg
  clear lg Ih Cm
  go_wp2_with fail
  refine (xZ _ _ la lb (limbs a) (limbs b) _ (Rd.own pw.out) (Rd.own mh.out) (ai a) (ai b)).mono ?_
  rintro e w3 ⟨rfl,k3,rfl⟩
  rw[ag,ag]
  by_cases tf:a<b
  ·have hc:eT a b<0:=gZ.2 tf
   generalize eT a b=cv at hc ⊢
   go_wp2_with fail
   go_ret3
   refine bg.out _ _ ⟨.inr ⟨HNZ.out,_,_,rfl,?_,?_⟩,Below.drewN rY.out _⟩
   ·rw[Nat.div_eq_of_lt tf,bc];exact World.ownsRow_nil _ _ _ _
   ·rw[Nat.mod_eq_of_lt tf,Ig.out];exact Own.mono (Own.drewN pw.out _) (by have:=HB.out;omega)
  ·have hc:0<=eT a b:=by have:=mt (@gZ a b).1 tf;omega
   generalize eT a b=cv at hc ⊢
   have HAB:=Lib.hid tf
   have II:=Lib.hid (Own.drewN pw.out k3)
   have Gb:=Lib.hid (Own.drewN mh.out k3)
   have Ib:=Lib.hid (Below.drewN rY.out k3)
   have IY:B<=(w2.drewN k3).heap.size:=hBs
   clear pw mh rY hBs tf
   generalize w2.drewN k3=w3 at*
   by_cases hlb1:lb=1
   ·have HL1:=Lib.hid hlb1
    subst hlb1
    obtain⟨gb,ob,t,rfl,_,htk,hct⟩:=(Rd.own Gb.out).cellAt (k:=0) aa
    have ht4:=(ai b).at htk
    have htb:t=b:=by
     have h1:=aL (limbs b) 0
     rw[getD_some htk,aU (by rw[Ii.out];omega),ag] at h1
     simp[da] at h1
     omega
    have HTB:=Lib.hid htb
    rw[Nat.add_zero] at hct
    have Cv:=gW hct
    simp only at Cv
    clear htk htb hz hlb0
    go_wp2_with fail
    refine (pN _ la t (limbs a) _ (Rd.own II.out) (ai a) aa ht4).mono ?_
    rintro e w4 ⟨⟨h,rfl⟩|⟨h,v4,rfl,pU⟩,fW⟩
    ·exact absurd (by rw[<-HTB.out];exact h) HNZ.out
    rw[ag] at pU ⊢
    have HO5:=Lib.hid (Own.mono pU IY)
    have IZ:=Lib.hid (Ib.out.trans (fW.mono IY))
    have Gc:B<=w4.heap.size:=Nat.le_trans IY fW.size
    have hrt:a%t<4294967296:=Nat.lt_trans (Nat.mod_lt _ aa) ht4
    obtain⟨r,hr⟩:∃ r,r=a%t:=⟨_,rfl⟩
    rw[<-hr] at hrt ⊢
    have HR:=Lib.hid hr
    clear pU fW hct Cv h hr
    go_wp2_with fail
    refine (ia _ 1 [r] _ (Rd.lit1 rfl) (bI.cons hrt bI.nil) aa).mono ?_
    rintro e w5 ⟨v5,rfl,ux,hbx⟩
    have jf:Below w4.heap.size w4 w5:=((Below.refl w4.heap.size w4).alloc (Nat.le_refl _) (.cells #[.int .u32 (r:Int)] 191)).trans (hbx.mono cS)
    rw[show af [r]=r by simp[dS,da]] at ux
    go_wp2_with fail
    go_ret3
    refine bg.out _ _ ⟨.inr ⟨HNZ.out,_,_,rfl,?_,?_⟩,IZ.out.trans (jf.mono Gc)⟩
    ·rw[<-HTB.out];exact Own.mono (Own.below HO5.out jf) (by have:=HB.out;omega)
    ·rw[<-HTB.out,<-HR.out];exact Own.mono ux (by have:=HB.out;simp;omega)
   ·obtain⟨mm,xd⟩:∃ mm,lb=mm+2:=⟨lb-2,by omega⟩
    have HMM:=Lib.hid xd
    have lp:((lb:Int) == 1)=false:=by rw[beq_eq_false_iff_ne];omega
    obtain⟨l1,wi⟩:∃ l1,lb=l1+1:=⟨lb-1,by omega⟩
    have HL1:=Lib.hid wi
    have hwl1:IntKind.i64.wrap ((lb:Int)-1)=(l1:Int):=by rw[IntWalk.i64_in _ aa];omega
    obtain⟨gb,ob,t,rfl,_,htk,hct⟩:=(Rd.own Gb.out).cellAt (k:=l1) aa
    have ht4:=(ai b).at htk
    have Cv:=gW hct
    simp only at Cv
    have htk2:(limbs b)[(limbs b).length-1]? =some t:=by rw[Ii.out,HL1.out];exact htk
    have ht0:=(zt htk2).2
    have HTK:=Lib.hid htk2
    have hl1lt:(l1:Int)<(lb:Int):=by omega
    clear htk htk2 hlb1 xd wi
    go_wp2_with fail
    refine (zM t _ ht4 ht0).mono ?_
    rintro e w4 ⟨⟨u,rfl,hu32,htu⟩,rfl⟩
    go_wp2_with fail
    refine (qS _ lb b (u:Int) (limbs b) _ (Rd.own Gb.out) (ai b) (ag b) aa aa aa).mono ?_
    rintro e w4 ⟨⟨_,h,_⟩|⟨_,v4,rfl,pU⟩,fW⟩
    ·omega
    have es:fe b (u:Int)=b*2^u:=by unfold fe;rw[if_pos aa,Int.toNat_natCast]
    rw[es] at pU
    have Et:(limbs (b*2^u)).length=lb:=by rw[zX HNZ.out HTK.out hu32 htu];exact Ii.out
    have hnz:b*2^u≠0:=Nat.mul_ne_zero HNZ.out (Nat.pos_iff_ne_zero.1 (Nat.pow_pos aa))
    have hle4:b*2^u<=a*2^u:=Nat.mul_le_mul_right _ (by have:=HAB.out;omega)
    have HDV:=Lib.hid (FX (a:=a) (b:=b) (u:=u))
    have HMD:=Lib.hid (FY (a:=a) (b:=b) (u:=u))
    have hla5:=rV a u hu32
    rw[Ig.out] at hla5
    have HES:Hid (fe ((a%b)*2^u) (-(u:Int))=a%b):=by
     show _=_
     unfold fe
     by_cases h0:u=0
     ·subst h0;simp
     ·rw[if_neg aa,Int.neg_neg,Int.toNat_natCast,Nat.mul_div_cancel _ (Nat.pow_pos aa)]
    have HES2:Hid (fe a (u:Int)=a*2^u):=by show _=_;unfold fe;rw[if_pos aa,Int.toNat_natCast]
    generalize hb':b*2^u=b' at*
    generalize ha':a*2^u=a' at*
    rw[Et] at pU
    have hlb5:lb<=(limbs a').length:=by rw[<-Et];exact cd hle4
    obtain⟨gy,cy,rfl,hgy3,hgy4⟩:=Own.tj pU aa
    have HY4:=Lib.hid pU
    have IZ:=Lib.hid (Ib.out.trans (fW.mono IY))
    have Gc:B<=w4.heap.size:=Nat.le_trans IY fW.size
    have HA4:=Lib.hid (Own.below II.out fW)
    have zY:=Lib.hid Et
    clear pU fW htu ht0 ht4 hct Cv Et hle4 es HTK II Gb
    go_wp2_with fail
    refine (qS _ la a (u:Int) (limbs a) _ (Rd.own HA4.out) (ai a) (ag a) aa aa aa).mono ?_
    rintro e w5 ⟨⟨_,h,_⟩|⟨_,v5,rfl,ux⟩,jf⟩
    ·omega
    rw[HES2.out] at ux
    generalize hl5:(limbs a').length=la' at*
    have HL5:=Lib.hid hl5
    have HA5:=Lib.hid ux
    have HY5:=Lib.hid (Own.below HY4.out jf)
    have HB5:=Lib.hid (IZ.out.trans (jf.mono Gc))
    have hs5:=jf.size
    have Ja:=Lib.hid jf
    obtain⟨p5,c5,rfl,_,_,_⟩:=Own.form ux
    obtain⟨N,hN⟩:∃ N,N=la' +1:=⟨_,rfl⟩
    have HNN:=Lib.hid hN
    obtain⟨mq,hmq⟩:∃ mq,N=mq+lb:=⟨N-lb,by omega⟩
    have HMQ:=Lib.hid hmq
    have hmq0:0<mq:=by omega
    have hwm:IntKind.i64.wrap ((N:Int)-(lb:Int))=(mq:Int):=by rw[IntWalk.i64_in _ aa];omega
    obtain⟨i0,hi,jA,lp,mj⟩:=info_parts gX
    have hN30:N<=1073741824:=by omega
    have hla30:la'<=1073741824:=by omega
    have hmq30:mq<=1073741824:=by omega
    clear ux jf hl5 hmq HA4 hN
    go_wp2_with (first
     | (at_builtin;refine cU rfl _ _ 30 rfl w4.heap.size 191 i0 (.int .u32 0) 4 Tryz.underlying30 hi jA lp mj rfl HA5.out rfl rfl (d:=0) rfl aa aa hs5 ?_;intro v6 w6 Eu CK;rw[<-HNN.out] at Eu;obtain⟨ga,ca,rfl,hga5,hga6⟩:=Own.tj Eu (by have:=HNN.out;omega))
     | (at_make;refine wpList_make_full _ rfl _ _ 30 rfl B 191 i0 (.int .u32 0) 1 Tryz.underlying30 hi jA lp .i64 .i64 _ _ mq rfl rfl (by have:=HMQ.out;omega) (by have:=HMQ.out;omega) (by rw[mj];have:=HMQ.out;omega) (by unfold maxLen;have:=HMQ.out;omega) (by have:=(CK w4 Ja.out).size;omega) ?_;intro w7 hown7 hgr7))
    obtain⟨gq,hgq⟩:∃ gq,gq=w6.heap.size:=⟨_,rfl⟩
    have Jb:=CK w4 Ja.out
    have hb67:=CJ hgr7
    have Ev:=Own.made hown7
    rw[List.nil_append] at Ev
    rw[<-hgq] at Ev ⊢
    have hne1:ga≠gq:=by omega
    have hne2:gy≠ga:=by omega
    have hne3:gy≠gq:=by have:=Jb.size;omega
    have HA7:Hid (w7.ownsRow B 191 1 (.slice (some ⟨ga,0,none⟩) N ca) N (ints .u32 (limbs a'++[0]))):=Own.mono (Own.below Eu hb67) Gc
    have HQ7:=Lib.hid Ev
    have HY7:Hid (Rd w7 1 (.slice (some ⟨gy,0,none⟩) lb cy) lb (ints .u32 (limbs b'))):=(Rd.own (Own.below HY4.out Jb)).below hb67
    have HB7:Hid (Below B w w7):=(IZ.out.trans (Jb.mono Gc)).trans (hb67.mono (Nat.le_trans Gc Jb.size))
    have HST:=Lib.hid (Ga (N:=N) (mq:=mq) (lb:=lb) (a:=a') (b:=b') (by rw[HL5.out];exact HNN.out) HMQ.out zY.out hnz)
    clear Eu hown7 hgr7 CK Jb hb67 Ev hgq HA5 HY5 HY4 HB5 IZ Ja hi jA lp mj
    go_loopw [12] (λiv wr=>IW w B N ca lb mq b' a' ga (.slice (some ⟨gy,0,none⟩) lb cy) (.slice (some ⟨gq,0,none⟩) mq mq) iv wr) (λiv _=>(intOf iv+1).toNat)
    case atStart=>exact⟨mq,_,[],Nat.le_refl _,rfl,by rw[List.length_append,HL5.out,HNN.out];rfl,(ai a').append (bI.cons aa bI.nil),HST.out.1,by simp,bI.nil,by rw[HST.out.2];simp[da],HA7.out,by simpa using HQ7.out,HY7.out,HB7.out⟩
    case round=>
     obtain⟨k,us,qs,Cu,rfl,hul,hulim,zH,hql,hqlim,hval,hoa,zZ,hry,kE⟩:=hrel
     have HUL:=Lib.hid hul
     have uy:=Lib.hid hulim
     have HDROP:=Lib.hid zH
     have HQL:=Lib.hid hql
     have HQLIM:=Lib.hid hqlim
     have HVAL:=Lib.hid hval
     have HOA:=Lib.hid hoa
     have HOQ:=Lib.hid zZ
     have HRY:=Lib.hid hry
     have fw:=Lib.hid kE
     clear hul hulim zH hql hqlim hval hoa zZ hry kE
     by_cases Ic:k=0
     ·subst Ic
      have hv:=HVAL.out
      have hd:=HDROP.out
      rw[List.drop_zero] at hd
      rw[Nat.pow_zero,Nat.one_mul] at hv
      have hq1:af qs=a/b:=by
       rw[<-HDV.out,<-hv,Nat.add_mul_div_left _ _ aa,Nat.div_eq_of_lt hd,Nat.zero_add]
      have jF:af us=(a%b)*2^u:=by
       rw[<-HMD.out,<-hv,Nat.add_mul_mod_self_left,Nat.mod_eq_of_lt hd]
      have HQ1:=Lib.hid hq1
      have HR1:=Lib.hid jF
      have hBr:B<=w.heap.size:=by have:=HB.out;omega
      have hBw:=fw.out.size
      clear hv hd hq1 jF
      go_wp2_with fail
      refine (qS _ N ((a%b)*2^u) (-(u:Int)) us _ (Rd.own HOA.out) uy.out HR1.out aa aa aa).mono ?_
      rintro e w8 ⟨⟨_,h,_⟩|⟨_,v8,rfl,xe⟩,Ew⟩
      ·omega
      rw[HES.out] at xe
      have HO8:=Lib.hid (Own.mono xe (Nat.le_trans hBr hBw))
      have HB8:=Lib.hid (fw.out.trans (Ew.mono (Nat.le_trans hBr hBw)))
      have hq8:=Own.below HOQ.out Ew
      rw[List.replicate_zero,List.nil_append] at hq8
      have HQ8:=Lib.hid hq8
      have hs8:=Ew.size
      clear xe Ew hq8
      go_wp2_with fail
      refine (ia _ mq qs _ (Rd.own HQ8.out) HQLIM.out aa).mono ?_
      rintro e w9 ⟨v9,rfl,hown9,hb9⟩
      rw[HQ1.out] at hown9
      go_wp2_with fail
      go_ret3
      refine bg.out _ _ ⟨.inr ⟨HNZ.out,_,_,rfl,?_,?_⟩,HB8.out.trans (hb9.mono aa)⟩
      ·exact Own.mono hown9 aa
      ·exact Own.mono (Own.below HO8.out hb9) (by have:=HB.out;omega)
     ·obtain⟨i,hi⟩:∃ i,k=i+1:=⟨k-1,by omega⟩
      subst hi
      have hjj:((i+1:Nat):Int)-1=(i:Int):=by omega
      rw[hjj]
      have hmq:=HMQ.out
      have xd:=HMM.out
      have wi:=HL1.out
      obtain⟨hi,h1⟩:∃ hi,us[i+(mm+2)]? =some hi:=⟨_,List.getElem?_eq_getElem (by rw[HUL.out];omega)⟩
      obtain⟨mid,h2⟩:∃ mid,us[i+(mm+1)]? =some mid:=⟨_,List.getElem?_eq_getElem (by rw[HUL.out];omega)⟩
      obtain⟨low,h3⟩:∃ low,us[i+mm]? =some low:=⟨_,List.getElem?_eq_getElem (by rw[HUL.out];omega)⟩
      obtain⟨v1,h4⟩:∃ v1,(limbs b')[mm+1]? =some v1:=⟨_,List.getElem?_eq_getElem (by rw[zY.out];omega)⟩
      obtain⟨v2,h5⟩:∃ v2,(limbs b')[mm]? =some v2:=⟨_,List.getElem?_eq_getElem (by rw[zY.out];omega)⟩
      have Cl:0<v1:=Nat.pos_iff_ne_zero.2 (zt (n:=b') (t:=v1) (by rw[zY.out,show lb-1=mm+1 by omega];exact h4)).2
      have hwin:=FV (m:=mm) HUL.out aa uy.out (ai b') (by rw[zY.out];exact xd) (ag b') HDROP.out h1 h2 h3 h4 h5 Cl
      have yj:=Lib.hid hwin
      have hhi:=hwin.hi_le
      have z1:=uy.out.at h1
      have z2:=uy.out.at h2
      have z3:=uy.out.at h3
      have z4:=(ai b').at h4
      have z5:=(ai b').at h5
      obtain⟨x1,e1,c1',f1⟩:=Own.fq HOA.out (j:=i+(mm+2)) aa
      obtain⟨x2,e2,c2',f2⟩:=Own.fq HOA.out (j:=i+(mm+1)) aa
      obtain⟨x3,e3,c3',f3⟩:=Own.fq HOA.out (j:=i+mm) aa
      rw[h1] at e1;rw[h2] at e2;rw[h3] at e3
      obtain rfl:=Option.some.inj e1
      obtain rfl:=Option.some.inj e2
      obtain rfl:=Option.some.inj e3
      obtain⟨g4,o4,x4,hp4,hg4,e4,c4'⟩:=HRY.out.cellAt (k:=mm+1) aa
      obtain⟨g5,o5,x5,hp5,hg5,e5,c5'⟩:=HRY.out.cellAt (k:=mm) aa
      simp only[Option.some.injEq,Addr.mk.injEq,and_true] at hp4 hp5
      obtain⟨rfl,rfl⟩:=hp4
      obtain⟨rfl,hz5⟩:=hp5
      subst hz5
      rw[h4] at e4;rw[h5] at e5
      obtain rfl:=Option.some.inj e4
      obtain rfl:=Option.some.inj e5
      rw[Nat.zero_add] at c4' c5'
      obtain⟨J0,hJ0⟩:∃ J0,J0=i+(mm+2):=⟨_,rfl⟩
      obtain⟨J1,hJ1⟩:∃ J1,J1=i+(mm+1):=⟨_,rfl⟩
      obtain⟨J2,hJ2⟩:∃ J2,J2=i+mm:=⟨_,rfl⟩
      rw[<-hJ0] at c1' f1;rw[<-hJ1] at c2' f2;rw[<-hJ2] at c3' f3
      rw[show mm+1=l1 by omega] at c4'
      obtain⟨J3,hJ3⟩:∃ J3,J3=J0+1:=⟨_,rfl⟩
      have hw0:IntKind.i64.wrap ((i:Int)+(lb:Int))=(J0:Int):=by rw[IntWalk.i64_in _ aa];omega
      have vT:IntKind.i64.wrap ((J0:Int)-1)=(J1:Int):=by rw[IntWalk.i64_in _ aa];omega
      have hw2:IntKind.i64.wrap ((J0:Int)-2)=(J2:Int):=by rw[IntWalk.i64_in _ aa];omega
      have hw4:IntKind.i64.wrap ((lb:Int)-2)=(mm:Int):=by rw[IntWalk.i64_in _ aa];omega
      have hw5:IntKind.i64.wrap ((J0:Int)+1)=(J3:Int):=by rw[IntWalk.i64_in _ aa];omega
      have b0:(J0:Int)<(N:Int):=by omega
      have b1:(J1:Int)<(N:Int):=by omega
      have b2:(J2:Int)<(N:Int):=by omega
      have b3:(l1:Int)<(lb:Int):=by omega
      have b4:(mm:Int)<(lb:Int):=by omega
      have t1:=gW c1'
      have t4:=gW c4'
      simp only at t1 t4
      have HJ0:=Lib.hid hJ0
      have HJ3:=Lib.hid hJ3
      have CC:i<mq:=by omega
      have HCAP:Hid (N<=ca/\ca<=9223372036854775807):=by
       obtain⟨_,_,hv,hcap,hcapm,_⟩:=Own.form HOA.out
       simp only[Value.slice.injEq,true_and] at hv
       obtain⟨_,rfl⟩:=hv
       unfold maxLen at hcapm
       exact⟨hcap,by omega⟩
      clear e1 e2 e3 e4 e5 h1 h2 h3 h4 h5 hwin hJ0 hJ1 hJ2 hJ3 hmq xd wi hg4 hg5
      go_wp2_with fail
      go_quiet ((go_at_call 210;exact CI (FP hi mid low v1 v2 _ hhi z2 z3 Cl z4 z5) ⟨_,rfl⟩))
      have hcap:=HCAP.out
      have b5:(J3:Int)<=(ca:Int):=by have:=HJ3.out;omega
      have b6:(i:Int)<=(J3:Int):=by have:=HJ3.out;have:=HJ0.out;omega
      have b7:(i:Int)<(ca:Int):=by have:=HJ3.out;have:=HJ0.out;omega
      have b8:¬ ca-i=0:=by omega
      have b9:ca≠i:=by omega
      clear c1' c2' c3' c4' c5' f1 f2 f3 vT hw2 hw4 b1 b2 b3 b4
      go_wp2_with fail
      obtain⟨G,hG⟩:∃ G,G=fA ((hi*4294967296+mid)*4294967296+low) (v1*4294967296+v2):=⟨_,rfl⟩
      have Aa:=yj.out.near
      rw[<-hG] at Aa ⊢
      have hG4:G<=4294967295:=by rw[hG];exact Nat.min_le_left _ _
      have hoa:=Own.drewN HOA.out nq
      rw[yj.out.split] at hoa
      have hJ:J3-i=mm+3:=by have:=HJ3.out;have:=HJ0.out;omega
      refine (IU ga N ca i (J3-i) (ca-i) lb G B (us.take i) _ _ (limbs b') _ _ hoa yj.out.pre (by rw[yj.out.len,hJ]) yj.out.lim (Rd.drewN HRY.out nq) (ai b') (λp c a h1 h2=>by cases h1;cases h2;exact hne2) (by rw[hJ,HMM.out]) (by have:=HJ3.out;omega) aa aa (by rw[ag];exact zW Aa.2)).mono ?_
      rintro e w8 ⟨q',rfl,A',hA'l,Jc,hA'v,hq',xe,hg8⟩
      rw[ag] at hA'v hq'
      have qO:0<b':=by omega
      obtain⟨hqd,IV⟩:=CG qO Aa.1 Aa.2 hA'v hq'
      have hq4:q' <4294967296:=by rcases hq' with ⟨_,h⟩|⟨_,h⟩ <;> omega
      have hst:=CH yj.out.split yj.out.pre yj.out.zero hA'v IV HVAL.out
      have hq8:=(Own.drewN HOQ.out nq).kept hg8 (.inr (by simp[Value.ownBlock];omega))
      have hry8:=(Rd.drewN HRY.out nq).pQ hg8 (λp c a h1 h2=>by cases h1;cases h2;exact hne2)
      have hbw8:Below B w w8:=(Below.drewN fw.out nq).grown hg8 (Nat.le_trans (by have:=HB.out;omega) fw.out.size) (λk hk=>by cases hk;exact (Own.lt HOA.out).1)
      obtain⟨x8,hx8,hc8,hf8⟩:=Own.fq hq8 (j:=i) CC
      have hl8:=gW hc8
      simp only at hl8
      have hus':(us.take i++(A'++us.drop (i+(mm+3)))).length=N:=by
       have h1:=congrArg List.length yj.out.split
       rw[HUL.out] at h1
       simp only[List.length_append] at h1 ⊢
       omega
      have zO:bI (us.take i++(A'++us.drop (i+(mm+3)))):=(uy.out.take _).append (Jc.append (uy.out.drop _))
      have hq9:=Own.eU (j:=i) (x:=q') hq8
      rw[yi] at hq9
      have HREL:Hid (IW w B N ca lb mq b' a' ga (.slice (some ⟨gy,0,none⟩) lb cy) (.slice (some ⟨gq,0,none⟩) mq mq) (.int .i64 ((i:Int)-1)) (w8.setCell ⟨gq,i,none⟩ (.int .u32 (q':Int)))):=
       ⟨i,_,q'::qs,by omega,rfl,hus',zO,hst.1,by rw[List.length_cons,HQL.out];omega,bI.cons hq4 HQLIM.out,hst.2,xe.kept uw (.inr (by simp[Value.ownBlock];omega)),hq9,hry8.pQ uw (λp c a h1 h2=>by cases h1;cases h2;exact hne3),hbw8.setCell (p:=⟨gq,i,none⟩) (Own.lt hq8).1 _⟩
      clear hA'l Jc hA'v hq' xe hg8 hqd IV hst hq8 hry8 hbw8 hx8 hus' zO hq9 hoa Aa hG hJ
      go_wp2_with fail
      go_roundw
      case rel=>exact HREL.out
      case measure=>simp[intOf]
end
end Go.Proofs.YtlfdmhfhkgpmbaaGreat
