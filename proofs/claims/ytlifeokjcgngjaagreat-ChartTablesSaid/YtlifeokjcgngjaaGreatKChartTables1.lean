/-AU of the proof,laid behind one another. -/
import Derived.Lib.Hide
import Derived.WalkKit
import Derived.WalkSpells
import Derived.WalkLawsBesides
import Derived.Outline
import Derived.Test.YtlifeokjcgngjaaGreatRows
import Derived.Deep.QuietTactic
import Derived.BigQuiet
import Derived.Lib.SliceRun
import Derived.Lib.AppendZeros
import Derived.RegionCalls
import Derived.Deep.RegionWith
import Derived.Lib.BitFns
import Derived.WalkMore
set_option linter.all false
set_option maxHeartbeats 64000000
namespace Go.Proofs.YtlifeokjcgngjaaGreat
section
def val (B:Nat):List Nat->Nat
 | []=>0
 | x::xs=>x+B*val B xs
def dy (B:Nat) (xs:List Nat):Prop:=∀ x∈xs,x<B
theorem aa {P:Prop} (h:P:=by omega):P:=h
def gv (B:Nat) (n:Nat):List Nat:=
 if _h:n=0\/B<2 then [] else n%B::gv B (n/B)
termination_by n
decreasing_by
 have:n≠0/\2<=B:=by omega
 exact Nat.div_lt_self aa aa
theorem val_nil (B:Nat):val B []=0:=rfl
theorem fC (B x:Nat) (xs:List Nat):val B (x::xs)=x+B*val B xs:=rfl
theorem dv (B:Nat):gv B 0=[]:=by rw[gv];simp
theorem gw {B n:Nat} (hB:2<=B) (hn:n≠0):gv B n=n%B::gv B (n/B):=by
 rw[gv,dif_neg aa]
theorem dy.nil (B:Nat):dy B []:=λ_ h=>by cases h
theorem dy.cons {B x:Nat} {xs:List Nat} (hx:x<B) (h:dy B xs):dy B (x::xs):=by
 intro y hy;cases hy with
 | head=>exact hx
 | tail _ h'=>exact h y h'
theorem dy.head {B x:Nat} {xs:List Nat} (h:dy B (x::xs)):x<B:=h x (List.mem_cons_self ..)
theorem dy.tail {B x:Nat} {xs:List Nat} (h:dy B (x::xs)):dy B xs:=λy hy=>h y (List.mem_cons_of_mem _ hy)
theorem dy.take {B:Nat} {xs:List Nat} (h:dy B xs) (k:Nat):dy B (xs.take k):=λy hy=>h y (List.mem_of_mem_take hy)
theorem dy.drop {B:Nat} {xs:List Nat} (h:dy B xs) (k:Nat):dy B (xs.drop k):=λy hy=>h y (List.mem_of_mem_drop hy)
theorem dy.append {B:Nat} {xs ys:List Nat} (h:dy B xs) (h':dy B ys):dy B (xs++ys):=by
 intro y hy;rcases List.mem_append.1 hy with hy|hy
 ·exact h y hy
 ·exact h' y hy
theorem dy.at {B:Nat} {xs:List Nat} (h:dy B xs) {k x:Nat} (hk:xs[k]? =some x):x<B:=h x (List.mem_of_getElem? hk)
theorem dy.replicate {B:Nat} (hB:0<B) (k:Nat):dy B (List.replicate k 0):=λy hy=>by
 rw[List.mem_replicate] at hy;omega
theorem mQ {B:Nat} (hB:2<=B):∀ n,dy B (gv B n):=by
 intro n
 induction n using Nat.strongRecOn with
 | _ n ih=>
   by_cases hn:n=0
   ·subst hn;rw[dv];exact dy.nil B
   ·rw[gw hB hn]
    exact dy.cons (Nat.mod_lt _ aa) (ih _ (Nat.div_lt_self aa aa))
theorem jE {B:Nat} (hB:2<=B):∀ n,val B (gv B n)=n:=by
 intro n
 induction n using Nat.strongRecOn with
 | _ n ih=>
   by_cases hn:n=0
   ·subst hn;rw[dv];rfl
   ·rw[gw hB hn,fC,ih _ (Nat.div_lt_self aa aa)]
    exact Nat.mod_add_div n B
theorem mR {B:Nat}:∀ {xs:List Nat},dy B xs->val B xs<B^xs.length:=by
 intro xs
 induction xs with
 | nil=>intro _;simp[val]
 | cons x xs ih=>
   intro h
   have h1:=ih h.tail
   have hx:=h.head
   rw[fC,List.length_cons,Nat.pow_succ,Nat.mul_comm (B^xs.length) B]
   calc x+B*val B xs<B+B*val B xs:=by omega
    _=B*(val B xs+1):=by rw[Nat.mul_add];omega
    _<=B*B^xs.length:=Nat.mul_le_mul_left _ h1
theorem ib (B:Nat):∀ (xs ys:List Nat),val B (xs++ys)=val B xs+B^xs.length*val B ys:=by
 intro xs ys
 induction xs with
 | nil=>simp[val]
 | cons x xs ih=>
   rw[List.cons_append,fC,ih,fC,List.length_cons,Nat.pow_succ,Nat.mul_add,Nat.add_assoc]
   congr 2
   rw[<-Nat.mul_assoc,Nat.mul_comm B (B^xs.length)]
theorem kI (B:Nat) (xs:List Nat) (x:Nat):val B (xs++[x])=val B xs+B^xs.length*x:=by
 rw[ib];simp[val]
theorem fO (B k:Nat):val B (List.replicate k 0)=0:=by
 induction k with
 | zero=>rfl
 | succ k ih=>rw[List.replicate_succ,fC,ih];simp
theorem dU {P:Prop} (h:P:=by simp):P:=h
theorem vm {B:Nat} (hB:2<=B):∀ {xs:List Nat},dy B xs->(∀ x,xs.getLast? =some x->x≠0)->gv B (val B xs)=xs:=by
 intro xs
 induction xs with
 | nil=>intro _ _;exact dv B
 | cons x xs ih=>
   intro hd hl
   have hx:=hd.head
   have hne:val B (x::xs)≠0:=by
    intro h0
    rw[fC] at h0
    have lG:x=0:=by omega
    cases xs with
    | nil=>exact hl x dU lG
    | cons y ys=>
      have hv:val B (y::ys)=0:=by
       have:B*val B (y::ys)=0:=by omega
       rcases Nat.mul_eq_zero.1 this with h|h
       ·omega
       ·exact h
      have:=ih hd.tail (λz hz=>hl z (by rw[List.getLast?_cons_cons];exact hz))
      rw[hv,dv] at this
      cases this
   rw[gw hB hne,fC]
   have h1:(x+B*val B xs)%B=x:=by rw[Nat.add_mul_mod_self_left];exact Nat.mod_eq_of_lt hx
   have h2:(x+B*val B xs)/B=val B xs:=by
    rw[Nat.add_mul_div_left _ _ aa,Nat.div_eq_of_lt hx];omega
   rw[h1,h2]
   congr 1
   cases xs with
   | nil=>exact dv B
   | cons y ys=>exact ih hd.tail (λz hz=>hl z (by rw[List.getLast?_cons_cons];exact hz))
theorem Ha {B:Nat} (hB:2<=B):∀ n x,(gv B n).getLast? =some x->x≠0:=by
 intro n
 induction n using Nat.strongRecOn with
 | _ n ih=>
   intro x hx
   by_cases hn:n=0
   ·subst hn;rw[dv] at hx;cases hx
   ·rw[gw hB hn] at hx
    by_cases h2:n/B=0
    ·rw[h2,dv] at hx
     simp at hx
     have:n<B:=by
      rcases Nat.lt_or_ge n B with h|h
      ·exact h
      ·have:=Nat.div_pos h (by omega:0<B);omega
     rw[Nat.mod_eq_of_lt this] at hx
     omega
    ·rw[gw hB h2,List.getLast?_cons_cons,<-gw hB h2] at hx
     exact ih _ (Nat.div_lt_self aa aa) x hx
theorem vn {B:Nat} (hB:2<=B) {m n:Nat} (h:gv B m=gv B n):m=n:=by
 have:=congrArg (val B) h
 rwa [jE hB,jE hB] at this
theorem eb {B:Nat} (hB:2<=B):∀ (k n:Nat),n<B^k->(gv B n).length<=k:=by
 intro k
 induction k with
 | zero=>intro n h;have:n=0:=by simpa using h
         subst this;rw[dv];simp
 | succ k ih=>
   intro n h
   by_cases hn:n=0
   ·subst hn;rw[dv];simp
   ·rw[gw hB hn,List.length_cons]
    have:n/B<B^k:=by
     rw[Nat.div_lt_iff_lt_mul aa]
     rwa [Nat.pow_succ] at h
    have:=ih _ this
    omega
theorem vo {B:Nat} (hB:2<=B) {k n:Nat} (h:B^k<=n):k<(gv B n).length:=by
 rcases Nat.lt_or_ge k (gv B n).length with h' |h'
 ·exact h'
 ·have h1:=mR (mQ hB n)
  rw[jE hB] at h1
  have:=Nat.pow_le_pow_right (show 0<B by omega) h'
  omega
theorem cN {B:Nat} (hB:2<=B) {m n:Nat} (h:m<=n):(gv B m).length<=(gv B n).length:=by
 apply eb hB
 have h1:=mR (mQ hB n)
 rw[jE hB] at h1
 omega
theorem zB {B:Nat} (hB:2<=B) {xs:List Nat} (h:dy B xs):(gv B (val B xs)).length<=xs.length:=
 eb hB _ _ (mR h)
theorem AW {B:Nat} (hB:2<=B) (n:Nat):n<B^(gv B n).length:=by
 have h1:=mR (mQ hB n)
 rwa [jE hB] at h1
theorem th {B:Nat} (hB:2<=B) {n:Nat} (hn:n≠0):B^((gv B n).length-1)<=n:=by
 rcases Nat.lt_or_ge n (B^((gv B n).length-1)) with h|h
 ·have h1:=eb hB _ _ h
  have h2:0<(gv B n).length:=by rw[gw hB hn];simp
  omega
 ·exact h
theorem zC {B:Nat} (hB:2<=B) {n:Nat}:gv B n=[]↔n=0:=by
 constructor
 ·intro h;exact vn hB (h.trans (dv B).symm)
 ·rintro rfl;exact dv B
theorem mj {B:Nat} (hB:2<=B) {n:Nat} (hn:n≠0):0<(gv B n).length:=by
 rw[gw hB hn];simp
theorem il (B:Nat) (xs:List Nat) (k:Nat) (hk:k<=xs.length):val B xs=val B (xs.take k)+B^k*val B (xs.drop k):=by
 conv=>lhs;rw[<-List.take_append_drop k xs]
 rw[ib,List.length_take,Nat.min_eq_left hk]
theorem bf {α:Type} {xs:List α} {k:Nat} {x:α} (h:xs[k]? =some x):xs.take (k+1)=xs.take k++[x]:=by
 rw[List.take_add_one,h];rfl
theorem jP {B:Nat} {xs:List Nat} {k:Nat} (hk:xs[k]? =some 0):val B (xs.take (k+1))=val B (xs.take k):=by
 rw[bf hk,kI];simp
theorem js {B:Nat} (hB:2<=B) {xs:List Nat} (hd:dy B xs) {m:Nat} (hm:m<=xs.length) (hv:val B (xs.take m)=val B xs) (hl:m=0\/∃ x,xs[m-1]? =some x/\x≠0):
  gv B (val B xs)=xs.take m:=by
 rw[<-hv]
 apply vm hB (hd.take m)
 intro x hx
 rcases hl with rfl|⟨y,hy,xE⟩
 ·simp at hx
 ·rw[List.getLast?_eq_getElem?,List.length_take,Nat.min_eq_left hm,List.getElem?_take] at hx
  split at hx
  ·rw[hy] at hx;cases hx;exact xE
  ·cases hx
theorem jF {B:Nat} {xs ys:List Nat} (hx:dy B xs) {k a b:Nat} (ha:xs[k]? =some a) (hb:ys[k]? =some b) (uB:a<b)
  (hh:xs.drop (k+1)=ys.drop (k+1)):val B xs<val B ys:=by
 have qo:k<xs.length:=(List.getElem?_eq_some_iff.1 ha).1
 have kJ:k<ys.length:=(List.getElem?_eq_some_iff.1 hb).1
 rw[il B xs (k+1) aa,il B ys (k+1) aa,hh,bf ha,bf hb,kI,kI]
 have h1:=mR (hx.take k)
 rw[List.length_take,Nat.min_eq_left aa] at h1 ⊢
 rw[List.length_take,Nat.min_eq_left aa]
 have h2:B^k*a+B^k<=B^k*b:=by
  calc B^k*a+B^k=B^k*(a+1):=by rw[Nat.mul_add];omega
   _<=B^k*b:=Nat.mul_le_mul_left _ uB
 omega
def ag (xs:List Nat):Nat:=val 4294967296 xs
def limbs (n:Nat):List Nat:=gv 4294967296 n
def bS (xs:List Nat):Prop:=dy 4294967296 xs
theorem bS.nil:bS []:=dy.nil _
theorem bS.cons {x:Nat} {xs:List Nat} (hx:x<4294967296) (h:bS xs):bS (x::xs):=dy.cons hx h
theorem bS.take {xs:List Nat} (h:bS xs) (k:Nat):bS (xs.take k):=dy.take h k
theorem bS.drop {xs:List Nat} (h:bS xs) (k:Nat):bS (xs.drop k):=dy.drop h k
theorem bS.append {xs ys:List Nat} (h:bS xs) (h':bS ys):bS (xs++ys):=dy.append h h'
theorem bS.at {xs:List Nat} (h:bS xs) {k x:Nat} (hk:xs[k]? =some x):x<4294967296:=dy.at h hk
theorem aj (n:Nat):bS (limbs n):=mQ aa n
theorem ai (n:Nat):ag (limbs n)=n:=jE aa n
theorem bn:limbs 0=[]:=dv _
theorem dL:ag []=0:=rfl
theorem eO (x:Nat) (xs:List Nat):ag (x::xs)=x+4294967296*ag xs:=rfl
theorem dw (xs:List Nat) (x:Nat):ag (xs++[x])=ag xs+4294967296^xs.length*x:=kI _ xs x
theorem dM (xs ys:List Nat):ag (xs++ys)=ag xs+4294967296^xs.length*ag ys:=ib _ xs ys
theorem im {xs:List Nat} (h:bS xs):ag xs<4294967296^xs.length:=mR h
theorem gz {xs:List Nat} (h:bS xs):(limbs (ag xs)).length<=xs.length:=zB aa h
theorem iQ (k n:Nat) (h:n<4294967296^k):(limbs n).length<=k:=eb aa k n h
theorem uh {k n:Nat} (h:4294967296^k<=n):k<(limbs n).length:=vo aa h
theorem lH (n:Nat):n<4294967296^(limbs n).length:=AW aa n
theorem zD {n:Nat} (hn:n≠0):4294967296^((limbs n).length-1)<=n:=th aa hn
theorem bX {m n:Nat} (h:m<=n):(limbs m).length<=(limbs n).length:=cN aa h
theorem Hb {m n:Nat} (h:limbs m=limbs n):m=n:=vn aa h
theorem ko {n:Nat}:limbs n=[]↔n=0:=zC aa
theorem cO {n:Nat} (hn:n≠0):0<(limbs n).length:=mj aa hn
theorem mS {n:Nat} (h:(limbs n).length=0):n=0:=ko.1 (List.eq_nil_of_length_eq_zero h)
theorem pg {xs:List Nat} (h:bS xs) (hl:∀ x,xs.getLast? =some x->x≠0):limbs (ag xs)=xs:=vm aa h hl
theorem pj (n x:Nat) (h:(limbs n).getLast? =some x):x≠0:=Ha aa n x h
def fo (a b:Nat):Int:=if a<b then-1 else if b<a then 1 else 0
theorem jQ {a b:Nat} (h:a<b):fo a b= -1:=by simp[fo,h]
theorem jR {a b:Nat} (h:b<a):fo a b=1:=by simp[fo,h];omega
theorem qu (a:Nat):fo a a=0:=by simp[fo]
theorem iA {a b:Nat}:(fo a b<0)↔a<b:=by unfold fo;split <;> (try split) <;> omega
theorem aN (xs:List Nat) (k:Nat):ag (xs.take (k+1))=ag (xs.take k)+4294967296^k*xs.getD k 0:=by
 by_cases h:k<xs.length
 ·rw[bf (List.getElem?_eq_getElem h),dw,List.length_take,Nat.min_eq_left aa]
  simp[List.getD,h]
 ·rw[List.take_of_length_le aa,List.take_of_length_le aa]
  simp[List.getD,List.getElem?_eq_none (by omega:xs.length<=k)]
theorem bc {xs:List Nat} {k:Nat} (h:xs.length<=k):ag (xs.take k)=ag xs:=by rw[List.take_of_length_le h]
theorem AX (p s x y c X Y D:Nat) (h:D+p*c=X+Y) (hs:s=x+y+c):
  D+p*(s%4294967296)+p*4294967296*(s/4294967296)=(X+p*x)+(Y+p*y):=by
 subst hs
 have h2:p*((x+y+c)%4294967296)+p*4294967296*((x+y+c)/4294967296)=p*(x+y+c):=by
  rw[Nat.mul_assoc,<-Nat.mul_add,Nat.mod_add_div]
 rw[Nat.mul_add,Nat.mul_add] at h2
 omega
theorem JE (p x m c X D:Nat) (h:D+p*c=X*m):
  D+p*((x*m+c)%4294967296)+p*4294967296*((x*m+c)/4294967296)=(X+p*x)*m:=by
 have h2:p*((x*m+c)%4294967296)+p*4294967296*((x*m+c)/4294967296)=p*(x*m+c):=by
  rw[Nat.mul_assoc,<-Nat.mul_add,Nat.mod_add_div]
 rw[Nat.mul_add] at h2
 rw[Nat.add_mul,Nat.mul_assoc p x m]
 omega
def gi (n:Nat):Nat:=if n=0 then 0 else Nat.log2 n+1
theorem Hc:gi 0=0:=rfl
theorem uC (n:Nat):n<2^gi n:=by
 unfold gi
 split
 ·omega
 ·exact Nat.lt_log2_self
theorem uD {n:Nat} (h:n≠0):2^(gi n-1)<=n:=by
 unfold gi
 rw[if_neg h]
 exact Nat.log2_self_le h
theorem qw {n:Nat} (h:n≠0):0<gi n:=by unfold gi;rw[if_neg h];omega
theorem FL {n b:Nat} (h:n<2^b) (h':b=0\/2^(b-1)<=n):gi n=b:=by
 by_cases h0:n=0
 ·subst h0
  rcases h' with rfl|h'
  ·rfl
  ·have:=Nat.pow_pos (n:=b-1) (show 0<2 by omega);omega
 ·have h1:=uC n
  have h2:=uD h0
  have h3:=qw h0
  rcases Nat.lt_trichotomy (gi n) b with hl|he|hg
  ·rcases h' with rfl|h'
   ·omega
   ·have:=Nat.pow_le_pow_right (show 0<2 by omega) (show gi n<=b-1 by omega)
    omega
  ·exact he
  ·have:=Nat.pow_le_pow_right (show 0<2 by omega) (show b<=gi n-1 by omega)
   omega
theorem oN {n k:Nat} (h:n<2^k):gi n<=k:=by
 by_cases h0:n=0
 ·subst h0;rw[Hc];omega
 ·have h1:=uD h0
  rcases Nat.lt_or_ge k (gi n) with hl|hg
  ·have:=Nat.pow_le_pow_right (show 0<2 by omega) (show k<=gi n-1 by omega)
   omega
  ·exact hg
theorem AY (k:Nat):4294967296^k=2^(32*k):=by rw[Nat.pow_mul]
theorem AZ {n t:Nat} (hl:(limbs n)[(limbs n).length-1]? =some t):gi n=32*((limbs n).length-1)+gi t/\t≠0:=by
 have hlast:(limbs n).getLast? =some t:=by rw[List.getLast?_eq_getElem?];exact hl
 have ht:=pj n t hlast
 have oH:0<(limbs n).length:=by
  rcases Nat.eq_zero_or_pos (limbs n).length with h|h
  ·rw[List.eq_nil_of_length_eq_zero h] at hl;cases hl
  ·exact h
 refine⟨?_,ht⟩
 have e:limbs n=(limbs n).take ((limbs n).length-1)++[t]:=by
  have:=bf hl
  rw[show (limbs n).length-1+1=(limbs n).length by omega,List.take_length] at this
  exact this
 have hv:n=ag ((limbs n).take ((limbs n).length-1))+4294967296^((limbs n).length-1)*t:=by
  have h1:=congrArg ag e
  rw[ai,dw,List.length_take,Nat.min_eq_left aa] at h1
  exact h1
 have Jo:=im ((aj n).take ((limbs n).length-1))
 rw[List.length_take,Nat.min_eq_left aa] at Jo
 generalize ag ((limbs n).take ((limbs n).length-1))=lo at hv Jo
 generalize (limbs n).length-1=m at hv Jo
 have h1:=uC t
 have h2:=uD ht
 have h3:=qw ht
 rw[AY] at hv Jo
 apply FL
 ·rw[hv,Nat.pow_add]
  calc lo+2^(32*m)*t<2^(32*m)+2^(32*m)*t:=by omega
   _=2^(32*m)*(t+1):=by rw[Nat.mul_add];omega
   _<=2^(32*m)*2^gi t:=Nat.mul_le_mul_left _ h1
 ·right
  rw[hv,show 32*m+gi t-1=32*m+(gi t-1) by omega,Nat.pow_add]
  have:=Nat.mul_le_mul_left (2^(32*m)) h2
  omega
theorem Ba {x:Nat} (k:Nat) (hx:x≠0):List.replicate k 0++limbs x=limbs (x*4294967296^k):=by
 have h:ag (List.replicate k 0++limbs x)=x*4294967296^k:=by
  rw[dM,ai,show ag (List.replicate k 0)=0 from fO _ k,List.length_replicate,Nat.mul_comm];omega
 rw[<-h]
 symm
 apply pg
 ·exact bS.append (dy.replicate aa k) (aj x)
 ·intro y hy
  rw[List.getLast?_append] at hy
  have hne:limbs x≠[]:=λh=>hx (ko.1 h)
  cases hl:(limbs x).getLast? with
  | none=>rw[List.getLast?_eq_none_iff] at hl;exact absurd hl hne
  | some z=>rw[hl] at hy;simp at hy;subst hy;exact pj x z hl
theorem uj (x k:Nat) (hk:k<=(limbs x).length):ag ((limbs x).drop k)=x/4294967296^k:=by
 have h:=il 4294967296 (limbs x) k hk
 have h1:val 4294967296 (limbs x)=x:=ai x
 have h2:=im ((aj x).take k)
 rw[List.length_take,Nat.min_eq_left hk] at h2
 rw[h1] at h
 show val 4294967296 _=_
 have h3:val 4294967296 ((limbs x).take k)<4294967296^k:=h2
 generalize val 4294967296 ((limbs x).take k)=lo at h h3
 generalize val 4294967296 ((limbs x).drop k)=hi at h ⊢
 rw[h,Nat.add_mul_div_left _ _ (Nat.pow_pos aa),Nat.div_eq_of_lt h3];omega
def fx (x:Nat) (n:Int):Nat:=if 0<=n then x*2^n.toNat else x/2^(-n).toNat
theorem Bb {B:Nat} (hB:2<=B) {ds:List Nat} (hd:dy B ds) (h:ds.length<=(gv B (val B ds)).length):gv B (val B ds)=ds:=by
 apply vm hB hd
 intro x hx h0
 subst h0
 have hne:ds≠[]:=by rintro rfl;cases hx
 have oH:0<ds.length:=List.length_pos_iff.2 hne
 have hk:ds[ds.length-1]? =some 0:=by rw[<-List.getLast?_eq_getElem?];exact hx
 have h1:=jP (B:=B) hk
 rw[show ds.length-1+1=ds.length by omega,List.take_length] at h1
 have h2:=mR (hd.take (ds.length-1))
 rw[<-h1,List.length_take,Nat.min_eq_left aa] at h2
 have h3:=eb hB _ _ h2
 omega
theorem bF (B:Nat) (xs:List Nat) (k:Nat):val B (xs.take (k+1))=val B (xs.take k)+B^k*xs.getD k 0:=by
 by_cases h:k<xs.length
 ·rw[bf (List.getElem?_eq_getElem h),kI,List.length_take,Nat.min_eq_left aa]
  simp[List.getD,h]
 ·rw[List.take_of_length_le aa,List.take_of_length_le aa]
  simp[List.getD,List.getElem?_eq_none (by omega:xs.length<=k)]
theorem eG {B:Nat} {xs:List Nat} {k:Nat} (h:xs.length<=k):val B (xs.take k)=val B xs:=by rw[List.take_of_length_le h]
theorem Hd (B p s x y c X Y D:Nat) (h:D+p*c=X+Y) (hs:s=x+y+c):D+p*(s%B)+p*B*(s/B)=(X+p*x)+(Y+p*y):=by
 subst hs
 have h2:p*((x+y+c)%B)+p*B*((x+y+c)/B)=p*(x+y+c):=by
  rw[Nat.mul_assoc,<-Nat.mul_add,Nat.mod_add_div]
 rw[Nat.mul_add,Nat.mul_add] at h2
 omega
theorem oO {B:Nat} {xs:List Nat} {k x:Nat} (h:xs[k]? =some x):val B (xs.drop k)=x+B*val B (xs.drop (k+1)):=by
 obtain⟨hl,e⟩:=List.getElem?_eq_some_iff.1 h
 rw[List.drop_eq_getElem_cons hl,e,fC]
theorem He (B p x y r d r' X Y D:Nat) (h:D+Y=X+p*r) (hs:x+B*r'=d+y+r):(D+p*d)+(Y+p*y)=(X+p*x)+p*B*r':=by
 have h2:p*(x+B*r')=p*(d+y+r):=by rw[hs]
 rw[Nat.mul_add,Nat.mul_add,Nat.mul_add,<-Nat.mul_assoc] at h2
 omega
end
section
open Go.RowKit
def Rd (w:World) (sz:Nat) (v:Value) (n:Nat) (cs:List Value):Prop:=
 ∃ p c,v=.slice p n c/\n<=c/\c<=maxLen/\cs.length=n*sz/\(0<n*sz->∃ b off,p=some ⟨b,off,none⟩/\∀ j u,cs[j]? =some u->w.cell? ⟨b,off+j,none⟩=some u)
theorem Rd.nil (w:World) (sz:Nat):Rd w sz (.slice none 0 0) 0 []:=⟨none,0,rfl,Nat.le_refl _,by simp[maxLen],by simp,λh=>by omega⟩
theorem Rd.keep {w w':World} {sz n:Nat} {v:Value} {cs:List Value} (h:Rd w sz v n cs) (hk:∀ a u,w.cell? a=some u->w'.cell? a=some u):Rd w' sz v n cs:=by
 obtain⟨p,c,rfl,h1,h2,h3,h4⟩:=h
 refine⟨p,c,rfl,h1,h2,h3,λhn=> ?_⟩
 obtain⟨b,off,hp,hc⟩:=h4 hn
 exact⟨b,off,hp,λj u hj=>hk _ _ (hc j u hj)⟩
theorem fJ {w:World} {a:Addr} {u:Value} (h:w.cell? a=some u):a.block<w.heap.size:=World.block_lt_of_cell? w a h
theorem Below.keeps {w w':World} (h:Below w.heap.size w w'):∀ a u,w.cell? a=some u->w'.cell? a=some u:=
 λ_ _ hu=>(h.cell (fJ hu)).trans hu
theorem Rd.below {w w':World} {sz n:Nat} {v:Value} {cs:List Value} (h:Rd w sz v n cs) (hb:Below w.heap.size w w'):Rd w' sz v n cs:=h.keep (Below.keeps hb)
theorem Rd.alloc {w:World} {sz n:Nat} {v:Value} {cs:List Value} (h:Rd w sz v n cs) (o:Obj):Rd (w.alloc o) sz v n cs:=
 h.below ((Below.refl _ _).alloc (Nat.le_refl _) o)
theorem Rd.drew {w:World} {sz n:Nat} {v:Value} {cs:List Value} (h:Rd w sz v n cs):Rd w.drew sz v n cs:=h
theorem Rd.drewN {w:World} {sz n:Nat} {v:Value} {cs:List Value} (h:Rd w sz v n cs) (k:Nat):Rd (w.drewN k) sz v n cs:=h
theorem Rd.lit {w:World} {cs:Array Value} {e n:Nat} (hn:cs.size=n) (hm:n<=9223372036854775807):Rd (w.alloc (.cells cs e)) 1 (.slice (some ⟨w.heap.size,0,none⟩) n n) n cs.toList:=
 ⟨_,n,rfl,Nat.le_refl _,by unfold maxLen;omega,by simp[hn],λ_=>⟨w.heap.size,0,rfl,λj u hj=>by
   rw[Nat.zero_add,World.cell?_alloc_new];simpa using hj⟩⟩
theorem Rd.ic {B:Nat} {w w':World} {sz n:Nat} {v:Value} {cs:List Value} (h:Rd w sz v n cs) (hB:B=w.heap.size) (hb:Below B w w'):Rd w' sz v n cs:=h.below (hB▸hb)
theorem Rd.own {w:World} {B e sz n:Nat} {v:Value} {cs:List Value} (h:w.ownsRow B e sz v n cs):Rd w sz v n cs:=by
 rcases h.2 with ⟨rfl,rfl⟩|⟨g,cap,cur,rfl,_,hg,eV,fm,_,JF⟩
 ·have hx:cs=[]:=List.eq_nil_of_length_eq_zero (by simpa using h.1)
  subst hx;exact Rd.nil w sz
 ·refine⟨_,cap,rfl,eV,fm,h.1,λ_=>⟨g,0,rfl,λj u hj=> ?_⟩⟩
  have:=h.cells (g:=g) rfl j u hj
  rwa [show (⟨g,0,none⟩:Addr).add j=⟨g,0+j,none⟩ by unfold Addr.add;split <;> simp_all] at this
theorem Own.mono {w:World} {B B' e sz n:Nat} {v:Value} {cs:List Value} (h:w.ownsRow B e sz v n cs) (hB:B'<=B):w.ownsRow B' e sz v n cs:=by
 refine⟨h.1,?_⟩
 rcases h.2 with h2|⟨g,cap,cur,hv,hb,r⟩
 ·exact .inl h2
 ·exact .inr ⟨g,cap,cur,hv,by omega,r⟩
theorem Own.below {w w':World} {B e sz n:Nat} {v:Value} {cs:List Value} (h:w.ownsRow B e sz v n cs) (hb:Below w.heap.size w w'):w'.ownsRow B e sz v n cs:=by
 refine⟨h.1,?_⟩
 rcases h.2 with h2|⟨g,cap,cur,hv,hg,hh,r⟩
 ·exact .inl h2
 ·exact .inr ⟨g,cap,cur,hv,hg,(hb.block g (Array.getElem?_eq_some_iff.1 hh).1).trans hh,r⟩
theorem Own.uE {w:World} {B e sz n:Nat} {v:Value} {cs:List Value} (h:w.ownsRow B e sz v n cs) (hn:0<n):∃ g c,v=.slice (some ⟨g,0,none⟩) n c/\B<=g/\g<w.heap.size:=by
 rcases h.2 with ⟨_,h0⟩|⟨g,cap,cur,rfl,hb,hg,_⟩
 ·omega
 ·exact⟨g,cap,rfl,hb,(Array.getElem?_eq_some_iff.1 hg).1⟩
theorem Own.drewN {w:World} {B e sz n:Nat} {v:Value} {cs:List Value} (h:w.ownsRow B e sz v n cs) (k:Nat):(w.drewN k).ownsRow B e sz v n cs:=h
theorem Below.drewN {B:Nat} {a w:World} (h:Below B a w) (n:Nat):Below B a (w.drewN n):=⟨h.os,h.tape,h.output,h.size,h.block⟩
theorem Own.take {w:World} {B e sz n c:Nat} {p:Option Addr} {cs:List Value} (h:w.ownsRow B e sz (.slice p n c) n cs) {m:Nat} (hm:m<=n):w.ownsRow B e sz (.slice p m c) m (cs.take (m*sz)):=by
 have hle:m*sz<=n*sz:=Nat.mul_le_mul_right _ hm
 refine⟨by rw[List.length_take,h.1];omega,?_⟩
 rcases h.2 with ⟨hv,rfl⟩|⟨g,cap,cur,hv,hb,hg,eV,fm,hcs,JF⟩
 ·left
  simp only[Value.slice.injEq] at hv
  obtain⟨rfl,_,rfl⟩:=hv
  exact⟨by rw[show m=0 by omega],by omega⟩
 ·right
  simp only[Value.slice.injEq,true_and] at hv
  obtain⟨rfl,rfl⟩:=hv
  exact⟨g,c,cur,rfl,hb,hg,by omega,fm,hcs,by rw[<-JF,List.take_take,Nat.min_eq_left hle]⟩
theorem Rd.take {w:World} {sz n c:Nat} {p:Option Addr} {cs:List Value} (h:Rd w sz (.slice p n c) n cs) {m:Nat} (hm:m<=n):Rd w sz (.slice p m c) m (cs.take (m*sz)):=by
 obtain⟨p',c',hv,h1,h2,h3,h4⟩:=h
 simp only[Value.slice.injEq,true_and] at hv
 obtain⟨rfl,rfl⟩:=hv
 have hle:m*sz<=n*sz:=Nat.mul_le_mul_right _ hm
 refine⟨p,c,rfl,by omega,h2,by rw[List.length_take,h3];omega,λhn=> ?_⟩
 obtain⟨b,off,hp,hc⟩:=h4 aa
 exact⟨b,off,hp,λj u hj=>hc j u (by rw[List.getElem?_take] at hj;split at hj;exact hj;cases hj)⟩
def ints (k:IntKind) (xs:List Nat):List Value:=xs.map λ(x:Nat)=>Value.int k (x:Int)
@[simp] theorem tj (k:IntKind) (xs:List Nat):(ints k xs).length=xs.length:=by simp[ints]
theorem qx {k:IntKind} {xs:List Nat} {j x:Nat} (h:xs[j]? =some x):(ints k xs)[j]? =some (.int k (x:Int)):=by simp[ints,h]
theorem nR (k:IntKind) (xs:List Nat) (m:Nat):(ints k xs).take m=ints k (xs.take m):=by simp[ints,List.map_take]
theorem Hf (k:IntKind) (xs:List Nat) (m:Nat):(ints k xs).drop m=ints k (xs.drop m):=by simp[ints,List.map_drop]
theorem fU (k:IntKind) (xs ys:List Nat):ints k (xs++ys)=ints k xs++ints k ys:=by simp[ints]
theorem ints_set (k:IntKind) (xs:List Nat) (j x:Nat):(ints k xs).set j (.int k (x:Int))=ints k (xs.set j x):=by simp[ints,List.map_set]
theorem kK (k:IntKind) (xs:List Nat):∀ u∈ints k xs,u.oneCell'=true:=by
 intro u hu;obtain⟨_,_,rfl⟩:=List.mem_map.1 hu;rfl
theorem Rd.lit1 {w:World} {k:IntKind} {e a:Nat} {x:Int} (hx:x=(a:Int)):Rd (w.alloc (.cells #[.int k x] e)) 1 (.slice (some ⟨w.heap.size,0,none⟩) 1 1) 1 (ints k [a]):=by
 subst hx;exact Rd.lit rfl aa
theorem Rd.lit2 {w:World} {k:IntKind} {e a b:Nat} {x y:Int} (hx:x=(a:Int)) (hy:y=(b:Int)):Rd (w.alloc (.cells #[.int k x,.int k y] e)) 1 (.slice (some ⟨w.heap.size,0,none⟩) 2 2) 2 (ints k [a,b]):=by
 subst hx;subst hy;exact Rd.lit rfl aa
theorem Rd.cellAt {w:World} {n:Nat} {p:Option Addr} {c k:Nat} {ki:IntKind} {xs:List Nat} (h:Rd w 1 (.slice p n c) n (ints ki xs)) (hk:k<n):
  ∃ b off x,p=some ⟨b,off,none⟩/\b<w.heap.size/\xs[k]? =some x/\w.cell? ⟨b,off+k,none⟩=some (.int ki (x:Int)):=by
 obtain⟨p',c',hv,h1,h2,h3,h4⟩:=h
 simp only[Value.slice.injEq,true_and] at hv
 obtain⟨rfl,rfl⟩:=hv
 obtain⟨b,off,hp,hc⟩:=h4 aa
 rw[tj] at h3
 have hx:=List.getElem?_eq_getElem (show k<xs.length by omega)
 have hcell:=hc k _ (qx hx)
 exact⟨b,off,_,hp,fJ hcell,hx,hcell⟩
theorem Rd.form {w:World} {sz n:Nat} {v:Value} {cs:List Value} (h:Rd w sz v n cs):∃ p c,v=.slice p n c/\n<=c/\c<=maxLen/\cs.length=n*sz:=by
 obtain⟨p,c,hv,h1,h2,h3,_⟩:=h
 exact⟨p,c,hv,h1,h2,h3⟩
theorem Own.form {w:World} {B e sz n:Nat} {v:Value} {cs:List Value} (h:w.ownsRow B e sz v n cs):∃ p c,v=.slice p n c/\n<=c/\c<=maxLen/\cs.length=n*sz:=(Rd.own h).form
theorem kt {P:Program} (w:World) (base t ty e:Nat) (i:TypeInfo) (z:Value) (size bytes:Nat) (ht:P.underlying t=some (.slice e)) (hi:P.info? e=some i) (hz:i.zero=some z)
  (tk:i.size=size) (Hg:i.bytes=bytes) (hzs:z.cells.size=size) (hsz:0<size)
  (v:Value) (n:Nat) (xs:List Value) (az:w.ownsRow base e size v n xs) (x:Value) (m:Nat) (news:List Value) (hx:Rd w size x m news) (h1:∀ u∈news,u.oneCell'=true)
  (h63:n+m<=maxLen) (gA:(n+m)*bytes<=140737488355328) (mn:base<=w.heap.size):
  ∃ v' w',(Builtin.append_ #[t,t] ty #[v,x]).run P w=.ok v' w'/\w'.ownsRow base e size v' (n+m) (xs++news)/\w.grownBy w' v.ownBlock:=by
 obtain⟨p,c,rfl,hmc,fm,hl,hp⟩:=hx
 by_cases hm:m=0
 ·subst hm
  have hn:news=[]:=List.eq_nil_of_length_eq_zero (by simpa using hl)
  subst hn
  refine⟨v,w,?_,by simpa using az,⟨rfl,rfl,rfl,Nat.le_refl _,λ_ _ _=>rfl⟩⟩
  subst tk
  rcases az.2 with ⟨rfl,rfl⟩|⟨g,cap,cur,rfl,_,hg,eV,hcm',hcs,JF⟩
  ·cases p <;> simp[Builtin.append_,run_underlying ht,sizeOf,typeInfo,hi,Builtin.lenOf,Builtin.firstCells,loadCells,loadCellsFrom]
  ·cases p <;> simp[Builtin.append_,run_underlying ht,sizeOf,typeInfo,hi,Builtin.lenOf,Builtin.firstCells,loadCells,loadCellsFrom,eV,storeCells]
 ·obtain⟨b,off,rfl,hc⟩:=hp (Nat.mul_pos aa hsz)
  obtain⟨v',w',hr,h2,h3,_⟩:=run_append_own (P:=P) w base t ty e i z size bytes ht hi hz tk Hg hzs hsz v n xs az ⟨b,off,none⟩ m c news hl
   (λj u hj=>by
    have:=hc j u hj
    rwa [show (⟨b,off,none⟩:Addr).add j=⟨b,off+j,none⟩ by unfold Addr.add;split <;> simp_all]) h1 h63 gA mn
  exact⟨v',w',hr,h2,h3⟩
theorem ig {P:Program} (w:World) {ops:Array Oper} {rest:List Oper} {o:Oper} {a:Act} {Q:Exit->Act->World->Prop} (hgd:o.guard=none) (s x:Operand) (t:TypeId)
  (ho:o.op=.call { callee:=.builtin .append,args:=#[s,x],argTypes:=#[t,t] })
  (base:Nat) (e:TypeId) (i:TypeInfo) (z:Value) (size bytes:Nat) (ht:P.underlying t=some (.slice e)) (hi:P.info? e=some i) (hz:i.zero=some z)
  (tk:i.size=size) (Hg:i.bytes=bytes) (hzs:z.cells.size=size) (hsz:0<size)
  (v:Value) (n:Nat) (xs:List Value) (hs:a.eval s=v) (az:w.ownsRow base e size v n xs)
  (xv:Value) (m:Nat) (news:List Value) (hx:a.eval x=xv) (rT:Rd w size xv m news) (h1:∀ u∈news,u.oneCell'=true)
  (h63:n+m<=maxLen) (gA:(n+m)*bytes<=140737488355328) (mn:base<=w.heap.size)
  (h:∀ v' w',w'.ownsRow base e size v' (n+m) (xs++news)->w.grownBy w' v.ownBlock->wpList P ops Q rest (a.put o.dst v') w'):wpList P ops Q (o::rest) a w:=by
 refine wpList_plain hgd λ_ hK=> ?_
 obtain⟨v',w',hr,h2,h3⟩:=kt (P:=P) w base t o.type e i z size bytes ht hi hz tk Hg hzs hsz v n xs az xv m news rT h1 h63 gA mn
 unfold Oper.wp execOp
 simp only[ho,resolve,invoke,builtin,Sem.run_bind,Sem.run_pure,Result.andThen_ok,List.map_toArray,List.map_cons,List.map_nil,hs,hx,hr]
 exact hK _ _ (h v' w' h2 h3)
theorem mU {P:Program} {w:World} {ops:Array Oper} {o:Oper} {a:Act} {K:Act->World->Prop} {Q:Exit->Act->World->Prop} {E:Prop} (hgd:o.guard=none) (s x:Operand) (t:TypeId)
  (ho:o.op=.call { callee:=.builtin .append,args:=#[s,x],argTypes:=#[t,t] })
  (base:Nat) (e:TypeId) (i:TypeInfo) (z:Value) (size bytes:Nat) (ht:P.underlying t=some (.slice e)) (hi:P.info? e=some i) (hz:i.zero=some z)
  (tk:i.size=size) (Hg:i.bytes=bytes) (hzs:z.cells.size=size) (hsz:0<size)
  (v:Value) (n:Nat) (xs:List Value) (hs:a.eval s=v) (az:w.ownsRow base e size v n xs)
  (xv:Value) (m:Nat) (news:List Value) (hx:a.eval x=xv) (rT:Rd w size xv m news) (h1:∀ u∈news,u.oneCell'=true)
  (h63:n+m<=maxLen) (gA:(n+m)*bytes<=140737488355328) (mn:base<=w.heap.size)
  (h:∀ v' w',w'.ownsRow base e size v' (n+m) (xs++news)->w.grownBy w' v.ownBlock->K (a.put o.dst v') w'):
  if Region.wanted o (yielded ops a.tmps)=true then Oper.wp P o a w K Q else E:=by
 have hw:Region.wanted o (yielded ops a.tmps)=true:=by simp[Region.wanted,hgd]
 rw[if_pos hw]
 obtain⟨v',w',hr,h2,h3⟩:=kt (P:=P) w base t o.type e i z size bytes ht hi hz tk Hg hzs hsz v n xs az xv m news rT h1 h63 gA mn
 unfold Oper.wp execOp
 simp only[ho,resolve,invoke,builtin,Sem.run_bind,Sem.run_pure,Result.andThen_ok,List.map_toArray,List.map_cons,List.map_nil,hs,hx,hr]
 exact h v' w' h2 h3
theorem ym {w w1:World} {o:Obj} {a:Addr} {v:Value} {row:Option Nat} (hg:(w.alloc o).drew.grownBy w1 row) (hc:w.cell? a=some v) (hne:some a.block≠row):w1.cell? a=some v:=
 hg.cell ((World.cell?_alloc_lt w o a (fJ hc)).trans hc) hne
theorem JG {w:World} {B e sz n b:Nat} {v:Value} {cs:List Value} (h:w.ownsRow B e sz v n cs) (hb:b<B):some b≠v.ownBlock:=by
 intro he
 have:=(h.lt b he.symm).1
 omega
theorem Below.behind {B B' e sz n:Nat} {w0 w w1:World} {o:Obj} {v:Value} {cs:List Value} (h:Below B w0 w) (hB:B<=w.heap.size) (hg:(w.alloc o).drew.grownBy w1 v.ownBlock) (ho:w.ownsRow B' e sz v n cs) (hBB:B<=B'):Below B w0 w1:=
 ((h.alloc hB o).drew).grown hg (by simp;omega) λk hk=>by have:=(ho.lt k hk).1;omega
theorem Below.aw {a b c:World} (h:Below a.heap.size a b) (k:Below b.heap.size b c):Below a.heap.size a c:=h.trans (k.mono h.size)
theorem wpList_append_run {P:Program} {w:World} {ops:Array Oper} {rest:List Oper} {o:Oper} {a:Act} {Q:Exit->Act->World->Prop} (hgd:o.guard=none) (s x:Operand) (t t':TypeId)
  (ho:o.op=.call { callee:=.builtin .append,args:=#[s,x],argTypes:=#[t,t'] }) (v xv:Value) (hs:a.eval s=v) (hx:a.eval x=xv) (v':Value) (w':World)
  (hr:(Builtin.append_ #[t,t'] o.type #[v,xv]).run P w=.ok v' w') (h:wpList P ops Q rest (a.put o.dst v') w'):wpList P ops Q (o::rest) a w:=by
 refine wpList_plain hgd λ_ hK=> ?_
 unfold Oper.wp execOp
 simp only[ho,resolve,invoke,builtin,Sem.run_bind,Sem.run_pure,Result.andThen_ok,List.map_toArray,List.map_cons,List.map_nil,hs,hx,hr]
 exact hK _ _ h
theorem Below.JH {B B':Nat} {w0 w w':World} {e sz n:Nat} {v:Value} {cs:List Value} (h:Below B w0 w) (hg:w.grownBy w' v.ownBlock) (ho:w.ownsRow B' e sz v n cs) (hB:B<=w.heap.size) (hBB:B<=B'):Below B w0 w':=
 h.grown hg hB λk hk=>by have:=(ho.lt k hk).1;omega
theorem aG {P:Program} {f:FuncId} {args:Array Value} {w:World} {R:Ending->World->Prop} (h:∀ R':Ending->World->Prop,Hid (∀ e w',R e w'->R' e w')->Calls P f args w R'):Calls P f args w R:=h R λ_ _ h=>h
theorem kL {k:IntKind} {a a':Int} (h:a=a'):Ending.returned (.int k a)=.returned (.int k a'):=by rw[h]
theorem ret2 {k l:IntKind} {a a' b b':Int} (h:a=a') (h':b=b'):Ending.returned (.tuple #[.int k a,.int l b])=.returned (.tuple #[.int k a',.int l b']):=by rw[h,h']
theorem Own.made {w:World} {B e n:Nat} {v:Value} {k:IntKind} (h:w.ownsRow B e 1 v n (madeCells (Value.int k 0).cells (n*1)).toList):w.ownsRow B e 1 v n (ints k ([]++List.replicate n 0)):=by
 have:(madeCells (Value.int k 0).cells (n*1)).toList=ints k ([]++List.replicate n 0):=by
  rw[show (Value.int k 0).cells=#[Value.int k 0] from rfl,toList_madeCells_one];simp[ints]
 rwa [this] at h
theorem Own.uF {w:World} {B e g n cap r:Nat} {k:IntKind} {ds:List Nat} (h:w.ownsRow B e 1 (.slice (some ⟨g,0,none⟩) n cap) n (ints k (ds++List.replicate (r+1) 0))):
  w.cell? ⟨g,ds.length,none⟩=some (.int k 0)/\w.frozen? ⟨g,ds.length,none⟩=false:=by
 have hl:=h.1
 simp at hl
 refine⟨?_,h.frozenAt _⟩
 rw[h.cellAt _ aa]
 have:=qx (k:=k) (xs:=ds++List.replicate (r+1) 0) (j:=ds.length) (x:=0) (by simp[List.replicate_succ])
 simpa using this
theorem Own.qy {w:World} {B e g n cap r x:Nat} {k:IntKind} {ds:List Nat} (h:w.ownsRow B e 1 (.slice (some ⟨g,0,none⟩) n cap) n (ints k (ds++List.replicate (r+1) 0))):
  (w.setCell ⟨g,ds.length,none⟩ (.int k (x:Int))).ownsRow B e 1 (.slice (some ⟨g,0,none⟩) n cap) n (ints k ((ds++[x])++List.replicate r 0)):=by
 have h1:=(h.stored ds.length (.int k (x:Int))).1
 rw[ints_set] at h1
 have:(ds++List.replicate (r+1) 0).set ds.length x=(ds++[x])++List.replicate r 0:=by
  rw[List.set_append_right _ _ (Nat.le_refl _),Nat.sub_self,List.replicate_succ,List.set_cons_zero,List.append_assoc];rfl
 rwa [this] at h1
theorem Own.fD {w:World} {B e g n cap:Nat} {k:IntKind} {xs:List Nat} (h:w.ownsRow B e 1 (.slice (some ⟨g,0,none⟩) n cap) n (ints k xs)) {j:Nat} (hj:j<n):
  ∃ x,xs[j]? =some x/\w.cell? ⟨g,j,none⟩=some (.int k (x:Int))/\w.frozen? ⟨g,j,none⟩=false:=by
 have hl:=h.1
 simp at hl
 have hx:=List.getElem?_eq_getElem (show j<xs.length by omega)
 refine⟨_,hx,?_,h.frozenAt _⟩
 rw[h.cellAt _ aa,qx hx]
theorem Own.fp {w:World} {B e g n cap j x:Nat} {k:IntKind} {xs:List Nat} (h:w.ownsRow B e 1 (.slice (some ⟨g,0,none⟩) n cap) n (ints k xs)):
  (w.setCell ⟨g,j,none⟩ (.int k (x:Int))).ownsRow B e 1 (.slice (some ⟨g,0,none⟩) n cap) n (ints k (xs.set j x)):=by
 have h1:=(h.stored j (.int k (x:Int))).1
 rwa [ints_set] at h1
theorem Own.lt {w:World} {B e sz g n cap:Nat} {p:Nat} {cs:List Value} (h:w.ownsRow B e sz (.slice (some ⟨g,p,none⟩) n cap) n cs):B<=g/\g<w.heap.size:=World.ownsRow.lt h g rfl
theorem vp {P:Program} {f:FuncId} {args:Array Value} {W:World} {X:Nat->World} {v:Value} (h:Calls P f args W λe w'=>e=.returned v/\W=w') (hW:∃ n,W=X n):
  Calls P f args W λe w''=>e=.returned v/\∃ m,w''=X m:=
 h.mono λ_ _ ⟨he,hm⟩=>⟨he,hW.imp λ_ hn=>hm▸hn⟩
theorem cW {P:Program} {w:World} {ops:Array Oper} {rest:List Oper} {o:Oper} {a:Act} {Q:Exit->Act->World->Prop} (hgd:o.guard=none) (s x:Operand) (t:TypeId)
  (ho:o.op=.call { callee:=.builtin .append,args:=#[s,x],argTypes:=#[t,t] })
  (base:Nat) (e:TypeId) (i:TypeInfo) (z:Value) (bytes:Nat) (ht:P.underlying t=some (.slice e)) (hi:P.info? e=some i) (hz:i.zero=some z)
  (tk:i.size=1) (Hg:i.bytes=bytes) (hzs:z.cells.size=1)
  {v:Value} {n:Nat} {k:IntKind} {ds:List Nat} {y:Int} {d:Nat} {e':TypeId} (az:w.ownsRow base e 1 v n (ints k ds)) (hs:a.eval s=v) (hx:a.eval x=.slice (some ⟨w.heap.size,0,none⟩) 1 1) (hy:y=(d:Int))
  (h63:n+1<=9223372036854775807) (gA:(n+1)*bytes<=140737488355328) (mn:base<=w.heap.size)
  (h:∀ v' w',w'.ownsRow base e 1 v' (n+1) (ints k (ds++[d]))->(∀ w0,Below base w0 w->Below base w0 w')->wpList P ops Q rest (a.put o.dst v') w'):wpList P ops Q (o::rest) a (w.alloc (.cells #[.int k y] e')):=by
 refine ig _ hgd s x t ho base e i z 1 bytes ht hi hz tk Hg hzs aa v n _ hs (az.alloc _) _ 1 (ints k [d]) hx (Rd.lit1 hy) (kK k [d]) (by unfold maxLen;omega) gA (by simp;omega) ?_
 intro v' w' h1 h2
 refine h v' w' (by rw[fU];exact h1) λw0 hb=> ?_
 exact (hb.alloc mn _).grown h2 (by simp;omega) λj hj=>(az.lt j hj).1
theorem JI (a b:Nat) (ha:a<4294967296) (hb:b<4294967296):a*b<18446744065119617026:=by
 have h1:a*b<=4294967295*4294967295:=Nat.mul_le_mul aa aa
 omega
set_option maxRecDepth 100000 in
theorem Hh (a b:Nat) (w:World) (ha:a<4294967296) (hb:b<4294967296):
  Calls Tryz.prog 318 #[.int .u32 (a:Int),.int .u32 (b:Int)] w λe w'=>e=.returned (.tuple #[.int .u32 ((a*b/4294967296:Nat):Int),.int .u32 ((a*b%4294967296:Nat):Int)])/\w=w':=by
 have h:=JI a b ha hb
 have h2:(a:Int)*(b:Int)<18446744065119617026:=by rw[<-Int.natCast_mul];omega
 have h3:0<=(a:Int)*(b:Int):=by rw[<-Int.natCast_mul];omega
 refine aG λR' bm=> ?_
 go_enter Tryz.func318,Tryz.ntmps318
 go_wp2
 refine bm.out _ _ ⟨ret2 ?_ ?_,rfl⟩ <;> simp
set_option maxRecDepth 100000 in
theorem kM (a b c:Nat) (w:World) (ha:a<4294967296) (hb:b<4294967296) (hc:c<4294967296):
  Calls Tryz.prog 299 #[.int .u32 (a:Int),.int .u32 (b:Int),.int .u32 (c:Int)] w λe w'=>e=.returned (.tuple #[.int .u32 (((a+b+c)%4294967296:Nat):Int),.int .u32 (((a+b+c)/4294967296:Nat):Int)])/\w=w':=by
 refine aG λR' bm=> ?_
 go_enter Tryz.func299,Tryz.ntmps299
 go_wp2
 refine bm.out _ _ ⟨ret2 ?_ ?_,rfl⟩ <;> simp
set_option maxRecDepth 100000 in
theorem Hi (a b d:Nat) (w:World) (ha:a<d) (hb:b<4294967296) (hd:d<4294967296):
  Calls Tryz.prog 303 #[.int .u32 (a:Int),.int .u32 (b:Int),.int .u32 (d:Int)] w λe w'=>
   e=.returned (.tuple #[.int .u32 (((a*4294967296+b)/d:Nat):Int),.int .u32 (((a*4294967296+b)%d:Nat):Int)])/\∃ k,w'=w.drewN k:=by
 have hd0:((d:Int) != 0)=true:=by rw[bne_iff_ne];omega
 have hd1:1<=(d:Int):=by omega
 have hle:¬ ((d:Int)<=(a:Int)):=by omega
 have vt:bits BinOp.or IntKind.u64 ((a:Int)*4294967296) (b:Int)=((a*4294967296+b:Nat):Int):=by
  have e1:((a:Int)*4294967296)=((a*4294967296:Nat):Int):=by simp
  rw[e1,u64_or_nat _ _ aa aa,nat_join 32 _ _ aa aa]
 have hq:(a*4294967296+b)/d<4294967296:=by
  rw[Nat.div_lt_iff_lt_mul aa]
  have:(a+1)*4294967296<=d*4294967296:=Nat.mul_le_mul_right _ ha
  rw[Nat.mul_comm 4294967296 d];omega
 have hq1:((a:Int)*4294967296+(b:Int))/(d:Int)<4294967296:=by
  have:(((a*4294967296+b)/d:Nat):Int)<4294967296:=by omega
  simpa using this
 have hr:(a*4294967296+b)%d<d:=Nat.mod_lt _ aa
 have pk:((a:Int)*4294967296+(b:Int))%(d:Int)<4294967296:=by
  have:(((a*4294967296+b)%d:Nat):Int)<4294967296:=by omega
  simpa using this
 have hq0:0<=((a:Int)*4294967296+(b:Int))/(d:Int):=by
  exact Int.ediv_nonneg aa aa
 have mM:0<=((a:Int)*4294967296+(b:Int))%(d:Int):=by
  exact Int.emod_nonneg _ aa
 rw[show ((a*4294967296+b:Nat):Int)=(a:Int)*4294967296+(b:Int) by simp] at vt
 clear hq hr
 refine aG λR' bm=> ?_
 go_enter Tryz.func303,Tryz.ntmps303
 go_wp2_with fail
 go_quiet (fail)
 go_wp2
 refine bm.out _ _ ⟨ret2 ?_ ?_,_,rfl⟩ <;> simp
theorem qz (n:Nat) (h:n<4294967296):n.testBit 31=decide (2147483648<=n):=by
 rw[Nat.testBit_eq_decide_div_mod_eq]
 by_cases h':2147483648<=n
 ·have:n/2^31=1:=by omega
  simp[this,h']
 ·have:n/2^31=0:=by omega
  simp[this];omega
theorem by_top (n:Nat) (h:n<4294967296):n/2147483648=(n.testBit 31).toNat:=by
 rw[qz n h]
 by_cases h':2147483648<=n <;> simp[h'] <;> omega
theorem DR (x y c d:Nat) (hx:x<4294967296) (hy:y<4294967296) (hc:c<2) (hd:d=(x+8589934592-y-c)%4294967296):
  ((4294967295 ^^^x) &&& y |||(4294967295 ^^^(x ^^^y)) &&& d)/2147483648=if x<y+c then 1 else 0:=by
 have um:d<4294967296:=by omega
 have h1:4294967295 ^^^x<2^32:=Nat.xor_lt_two_pow aa aa
 have h2:x ^^^y<2^32:=Nat.xor_lt_two_pow aa aa
 have h3:4294967295 ^^^(x ^^^y)<2^32:=Nat.xor_lt_two_pow aa h2
 have h4:(4294967295 ^^^x) &&& y |||(4294967295 ^^^(x ^^^y)) &&& d<2^32:=Nat.or_lt_two_pow (Nat.and_lt_two_pow _ aa) (Nat.and_lt_two_pow _ aa)
 rw[by_top _ aa]
 simp only[Nat.testBit_or,Nat.testBit_and,Nat.testBit_xor,qz _ hx,qz _ hy,qz _ um,qz 4294967295 aa]
 by_cases a1:2147483648<=x <;> by_cases a2:2147483648<=y <;> by_cases a3:2147483648<=d <;> simp[a1,a2,a3] <;> omega
set_option maxRecDepth 100000 in
theorem yo (a b c:Nat) (w:World) (ha:a<4294967296) (hb:b<4294967296) (hc:c<2):
  Calls Tryz.prog 302 #[.int .u32 (a:Int),.int .u32 (b:Int),.int .u32 (c:Int)] w λe w'=>
   (∃ d r:Nat,e=.returned (.tuple #[.int .u32 (d:Int),.int .u32 (r:Int)])/\d<4294967296/\r<=1/\a+4294967296*r=d+b+c)/\w=w':=by
 obtain⟨d,hd⟩:∃ d,d=(a+8589934592-b-c)%4294967296:=⟨_,rfl⟩
 have um:d<4294967296:=by omega
 have zE:=DR a b c d ha hb hc hd
 have hdi:((a:Int)-(b:Int)-(c:Int))%4294967296=(d:Int):=by omega
 have hm:IntKind.u32.max=((4294967295:Nat):Int):=rfl
 have h1:4294967295 ^^^a<4294967296:=Nat.xor_lt_two_pow (n:=32) aa aa
 have h2:a ^^^b<4294967296:=Nat.xor_lt_two_pow (n:=32) aa aa
 have h3:4294967295 ^^^(a ^^^b)<4294967296:=Nat.xor_lt_two_pow (n:=32) aa aa
 have h4:(4294967295 ^^^a) &&& b<4294967296:=Nat.and_lt_two_pow (n:=32) _ aa
 have h5:(4294967295 ^^^(a ^^^b)) &&& d<4294967296:=Nat.and_lt_two_pow (n:=32) _ aa
 have H:Hid (bits BinOp.or IntKind.u32 (bits BinOp.and IntKind.u32 (bits BinOp.xor IntKind.u32 IntKind.u32.max (a:Int)) (b:Int))
   (bits BinOp.and IntKind.u32 (bits BinOp.xor IntKind.u32 IntKind.u32.max (bits BinOp.xor IntKind.u32 (a:Int) (b:Int))) (((a:Int)-(b:Int)-(c:Int))%4294967296))/2147483648=((if a<b+c then 1 else 0:Nat):Int)):=by
  show _=_
  rw[hdi,hm,u32_xor_nat _ _ aa ha,u32_and_nat _ _ h1 hb,u32_xor_nat _ _ ha hb,u32_xor_nat _ _ aa h2,u32_and_nat _ _ h3 um,u32_or_nat _ _ h4 h5,<-zE]
  simp
 have HD:Hid (((a:Int)-(b:Int)-(c:Int))%4294967296=((a+8589934592-b-c)%4294967296:Nat)):=by show _=_;rw[hdi,hd]
 clear hd hdi zE hm h1 h2 h3 h4 h5 um
 refine aG λR' bm=> ?_
 go_enter Tryz.func302,Tryz.ntmps302
 go_wp2
 all_goals exact bm.out _ _ ⟨⟨(a+8589934592-b-c)%4294967296,if a<b+c then 1 else 0,ret2 HD.out H.out,Nat.mod_lt _ aa,by split <;> omega,by split <;> omega⟩,rfl⟩
set_option maxRecDepth 100000 in
theorem cG (p:Option Addr) (n c:Nat) (xs:List Nat) (w:World) (hr:Rd w 1 (.slice p n c) n (ints .u32 xs)) (hl:bS xs):
  Calls Tryz.prog 207 #[.slice p n c] w λe w'=>(∃ m,m<=n/\e=.returned (.slice p m c)/\limbs (ag xs)=xs.take m)/\w=w':=by
 have eV:n<=c/\c<=9223372036854775807/\xs.length=n:=by
  obtain⟨p',c',hv,h1,h2,h3⟩:=hr.form
  simp only[Value.slice.injEq,true_and] at hv
  obtain⟨rfl,rfl⟩:=hv
  unfold maxLen at h2
  simp at h3
  exact⟨h1,by omega,h3⟩
 obtain⟨eV,fm,ed⟩:=eV
 have HX:Hid (xs.length=n):=ed
 clear ed
 refine aG λR' bm=> ?_
 go_enter Tryz.func207,Tryz.ntmps207
 go_wp2
 go_loop [0] (λv=>∃ m,m<=n/\v=.slice p m c/\ag (xs.take m)=ag xs) (λv=>match v with | .slice _ m _=>m|_=>0)
 case atStart=>exact⟨n,Nat.le_refl _,rfl,by rw[List.take_of_length_le (Nat.le_of_eq HX.out)]⟩
 case round=>
  obtain⟨m,hm,rfl,hv⟩:=hrel
  have HV:Hid (ag (xs.take m)=ag xs):=hv
  clear hv
  by_cases h0:m=0
  ·subst h0
   go_wp2
   exact bm.out _ _ ⟨⟨0,Nat.zero_le _,rfl,js aa hl (Nat.zero_le _) HV.out (.inl rfl)⟩,rfl⟩
  ·obtain⟨b,off,x,rfl,hb,hx,hc⟩:=hr.cellAt (k:=m-1) aa
   have JJ:Hid (xs[m-1]? =some x):=hx
   clear hx
   have h0':0<m:=by omega
   obtain⟨j,rfl⟩:∃ j,m=j+1:=⟨m-1,by omega⟩
   rw[Nat.add_sub_cancel] at hc
   by_cases lG:x=0
   ·subst lG
    go_wp2
    go_round
    case rel=>exact⟨j,by omega,rfl,(jP JJ.out).symm.trans HV.out⟩
    case measure=>simp
   ·have hx0':((x:Int) == 0)=false:=by rw[beq_eq_false_iff_ne];omega
    go_wp2
    exact bm.out _ _ ⟨⟨j+1,hm,rfl,js aa hl (by rw[HX.out];exact hm) HV.out (.inr ⟨x,JJ.out,lG⟩)⟩,rfl⟩
theorem iq:(Tryz.prog.info? 78).map (λi=>(i.zero,i.size,i.bytes))=some (some (.int .u32 0),1,4):=by kernel_rfl
theorem bZ {P:Prop} (h:P:=by decide):P:=h
set_option maxRecDepth 100000 in
theorem jt (v:Value) (n:Nat) (xs:List Nat) (w:World) (hr:Rd w 1 v n (ints .u32 xs)) (hn:n<=1073741824):
  Calls Tryz.prog 151 #[v] w λe w'=>∃ v',e=.returned v'/\w'.ownsRow w.heap.size 78 1 v' n (ints .u32 xs)/\Below w.heap.size w w':=by
 obtain⟨p,c,rfl,eV,fm,hl⟩:=hr.form
 have Hr:=Lib.hid hr
 have kO:∀ w':World,(binOp .eql 23 (.slice p n c) (.slice none 0 0)).run Tryz.prog w'=.ok (.bool p.isNone) w':=λw'=>Lib.run_eql_slice_nil w' 23 78 p n c 0 0 Tryz.underlying23
 obtain⟨i0,hi,kP,mA,mN⟩:=info_parts iq
 have HL:=Lib.hid hl
 clear hl hr
 unfold maxLen at fm
 cases p with
 | none=>
   refine aG λR' bm=> ?_
   go_enter Tryz.func151,Tryz.ntmps151
   go_wp2
   refine bm.out _ _ ⟨_,rfl,?_,Below.refl _ _⟩
   obtain⟨p,c',hv,_,_,h3,h4⟩:=Hr.out
   simp only[Value.slice.injEq,true_and] at hv
   obtain⟨rfl,rfl⟩:=hv
   have h0:n=0:=by
    rcases Nat.eq_zero_or_pos n with h|h
    ·exact h
    ·obtain⟨b,off,hp,_⟩:=h4 aa;cases hp
   subst h0
   have hx:ints .u32 xs=[]:=List.eq_nil_of_length_eq_zero (by simpa using h3)
   rw[hx]
   exact World.ownsRow_nil _ _ _ _
 | some ad=>
   refine aG λR' bm=> ?_
   go_enter Tryz.func151,Tryz.ntmps151
   go_wp2_with (at_builtin;refine ig _ rfl _ _ 23 rfl w.heap.size 78 i0 (.int .u32 0) 1 4 Tryz.underlying23 hi kP mA mN rfl bZ _ 0 [] rfl (World.ownsRow_made w #[] 0 (Nat.le_refl _) (by simp[maxLen]) rfl) _ n _ rfl (Hr.out.alloc _) (kK _ _) (by unfold maxLen;omega) aa dU ?_;intro v' w1 az Hj)
   simp only[Nat.zero_add,List.nil_append] at az
   refine bm.out _ _ ⟨_,rfl,az,((Below.refl _ _).alloc (Nat.le_refl _) _).grown Hj dU λk hk=>by injection (show some w.heap.size=some k from hk) with hk;omega⟩
theorem Rd.u32 {w:World} {v:Value} {n:Nat} {xs:List Nat} (h:Rd w 1 v n (ints .u32 xs)):∃ p c,v=.slice p n c/\n<=c/\c<=9223372036854775807/\xs.length=n:=by
 obtain⟨p,c,hv,h1,h2,h3⟩:=h.form
 unfold maxLen at h2
 exact⟨p,c,hv,h1,by omega,by simpa using h3⟩
theorem Rd.limbs {w:World} {n c m:Nat} {p:Option Addr} {xs:List Nat} (h:Rd w 1 (.slice p n c) n (ints .u32 xs)) (hm:m<=n) (hl:limbs (ag xs)=xs.take m):
  Rd w 1 (.slice p m c) m (ints .u32 (limbs (ag xs))):=by
 have:=h.take hm
 rwa [Nat.mul_one,nR,<-hl] at this
theorem Own.limbs {w:World} {B e n c m:Nat} {p:Option Addr} {xs:List Nat} (h:w.ownsRow B e 1 (.slice p n c) n (ints .u32 xs)) (hm:m<=n) (hl:limbs (ag xs)=xs.take m):
  w.ownsRow B e 1 (.slice p m c) m (ints .u32 (limbs (ag xs))):=by
 have:=Own.take h hm
 rwa [Nat.mul_one,nR,<-hl] at this
set_option maxRecDepth 100000 in
theorem iB (v:Value) (n:Nat) (xs:List Nat) (w:World) (hr:Rd w 1 v n (ints .u32 xs)) (hl:bS xs) (hn:n<=1073741824):
  Calls Tryz.prog 148 #[v] w λe w'=>∃ v',e=.returned v'/\w'.ownsRow w.heap.size 78 1 v' (limbs (ag xs)).length (ints .u32 (limbs (ag xs)))/\Below w.heap.size w w':=by
 obtain⟨p,c,rfl,eV,fm,ed⟩:=hr.u32
 have Hr:=Lib.hid hr
 have HL:=Lib.hid hl
 have HX:=Lib.hid ed
 clear ed hl hr
 refine aG λR' bm=> ?_
 go_enter Tryz.func148,Tryz.ntmps148
 go_wp2_with fail
 refine (cG p n c xs _ Hr.out HL.out).mono ?_
 rintro e w1 ⟨⟨m,hm,rfl,xF⟩,rfl⟩
 have HM:=Lib.hid xF
 clear xF
 have rU:Hid (m=(limbs (ag xs)).length):=by
  show _=_
  rw[HM.out,List.length_take,HX.out];omega
 go_wp2_with fail
 refine (jt _ m (limbs (ag xs)) _ (Hr.out.limbs hm HM.out) aa).mono ?_
 rintro e w1 ⟨v',rfl,az,hb⟩
 go_wp2
 refine bm.out _ _ ⟨_,rfl,?_,hb⟩
 rw[<-rU.out];exact az
set_option maxRecDepth 100000 in
theorem vu (a b:Nat) (w:World):
  Calls Tryz.prog 300 #[.int .i64 (a:Int),.int .i64 (b:Int)] w λe w'=>e=.returned (.int .i64 (fo a b))/\w=w':=by
 rcases Nat.lt_trichotomy a b with h|rfl|h
 ·have e1:=Lib.hid (jQ h)
  refine aG λR' bm=> ?_
  go_enter Tryz.func300,Tryz.ntmps300
  go_wp2
  exact bm.out _ _ ⟨kL e1.out.symm,rfl⟩
 ·have e1:=Lib.hid (qu a)
  refine aG λR' bm=> ?_
  go_enter Tryz.func300,Tryz.ntmps300
  go_wp2
  exact bm.out _ _ ⟨kL e1.out.symm,rfl⟩
 ·have e1:=Lib.hid (jR h)
  refine aG λR' bm=> ?_
  go_enter Tryz.func300,Tryz.ntmps300
  go_wp2
  exact bm.out _ _ ⟨kL e1.out.symm,rfl⟩
set_option maxRecDepth 100000 in
theorem vw (a b:Nat) (w:World):
  Calls Tryz.prog 301 #[.int .u32 (a:Int),.int .u32 (b:Int)] w λe w'=>e=.returned (.int .i64 (fo a b))/\w=w':=by
 rcases Nat.lt_trichotomy a b with h|rfl|h
 ·have e1:=Lib.hid (jQ h)
  refine aG λR' bm=> ?_
  go_enter Tryz.func301,Tryz.ntmps301
  go_wp2
  exact bm.out _ _ ⟨kL e1.out.symm,rfl⟩
 ·have e1:=Lib.hid (qu a)
  refine aG λR' bm=> ?_
  go_enter Tryz.func301,Tryz.ntmps301
  go_wp2
  exact bm.out _ _ ⟨kL e1.out.symm,rfl⟩
 ·have e1:=Lib.hid (jR h)
  refine aG λR' bm=> ?_
  go_enter Tryz.func301,Tryz.ntmps301
  go_wp2
  exact bm.out _ _ ⟨kL e1.out.symm,rfl⟩
theorem oP {a b:Nat} (h:(limbs a).length<(limbs b).length):a<b:=by
 rcases Nat.lt_or_ge a b with h' |h'
 ·exact h'
 ·have:=bX h';omega
theorem JK {a b:Nat} (h:(limbs a).length≠(limbs b).length):fo (limbs a).length (limbs b).length=fo a b:=by
 rcases Nat.lt_or_ge (limbs a).length (limbs b).length with h' |h'
 ·rw[jQ h',jQ (oP h')]
 ·have h'':(limbs b).length<(limbs a).length:=by omega
  rw[jR h'',jR (oP h'')]
theorem DT {a b k x y:Nat} (hx:(limbs a)[k]? =some x) (hy:(limbs b)[k]? =some y) (hne:x≠y) (hd:(limbs a).drop (k+1)=(limbs b).drop (k+1)):fo x y=fo a b:=by
 rcases Nat.lt_or_ge x y with h|h
 ·have:=jF (B:=4294967296) (aj a) hx hy h hd
  rw[show val 4294967296 (limbs a)=a from ai a,show val 4294967296 (limbs b)=b from ai b] at this
  rw[jQ h,jQ this]
 ·have h':y<x:=by omega
  have:=jF (B:=4294967296) (aj b) hy hx h' hd.symm
  rw[show val 4294967296 (limbs a)=a from ai a,show val 4294967296 (limbs b)=b from ai b] at this
  rw[jR h',jR this]
theorem Hl {α:Type} {xs ys:List α} {k:Nat} {x:α} (hx:xs[k]? =some x) (hy:ys[k]? =some x) (h:xs.drop (k+1)=ys.drop (k+1)):xs.drop k=ys.drop k:=by
 have h1:xs.drop k=x::xs.drop (k+1):=by
  obtain⟨hl,e⟩:=List.getElem?_eq_some_iff.1 hx
  rw[List.drop_eq_getElem_cons hl,e]
 have h2:ys.drop k=x::ys.drop (k+1):=by
  obtain⟨hl,e⟩:=List.getElem?_eq_some_iff.1 hy
  rw[List.drop_eq_getElem_cons hl,e]
 rw[h1,h2,h]
set_option maxRecDepth 100000 in
theorem zF (va vb:Value) (n m:Nat) (xs ys:List Nat) (w:World) (hr:Rd w 1 va n (ints .u32 xs)) (hs:Rd w 1 vb m (ints .u32 ys)) (hx:bS xs) (hy:bS ys):
  Calls Tryz.prog 269 #[va,vb] w λe w'=>e=.returned (.int .i64 (fo (ag xs) (ag ys)))/\∃ k,w'=w.drewN k:=by
 obtain⟨p,c,rfl,eV,fm,ed⟩:=hr.u32
 obtain⟨q,d,rfl,Hm,DC,ju⟩:=hs.u32
 obtain⟨a,ha⟩:∃ a,a=ag xs:=⟨_,rfl⟩
 obtain⟨b,hb⟩:∃ b,b=ag ys:=⟨_,rfl⟩
 have Hr:=Lib.hid hr
 have Hs:=Lib.hid hs
 have HL:=Lib.hid hx
 have HM:=Lib.hid hy
 have HX:=Lib.hid ed
 have HY:=Lib.hid ju
 rw[<-ha,<-hb]
 have HA:=Lib.hid ha
 have HB:=Lib.hid hb
 clear ed ju hx hy hr hs ha hb
 refine aG λR' bm=> ?_
 go_enter Tryz.func269,Tryz.ntmps269
 go_wp2_with fail
 refine (cG p n c xs _ Hr.out HL.out).mono ?_
 rintro e w1 ⟨⟨n',hn',rfl,JL⟩,rfl⟩
 have HLN:=Lib.hid JL
 clear JL
 go_wp2_with fail
 refine (cG q m d ys _ Hs.out HM.out).mono ?_
 rintro e w1 ⟨⟨m',hm',rfl,xF⟩,rfl⟩
 have JM:=Lib.hid xF
 clear xF
 have HN:Hid ((limbs a).length=n'):=by show _=_;rw[HA.out,HLN.out,List.length_take,HX.out];omega
 have HMM:Hid ((limbs b).length=m'):=by show _=_;rw[HB.out,JM.out,List.length_take,HY.out];omega
 have JN:=Hr.out.limbs hn' HLN.out
 have Bc:=Hs.out.limbs hm' JM.out
 rw[<-HA.out] at JN
 rw[<-HB.out] at Bc
 have Hra:=Lib.hid JN
 have Hrb:=Lib.hid Bc
 clear JN Bc
 by_cases hne:n'=m'
 ·subst hne
  go_wp2_with fail
  go_loopw [5] (λiv wr=>∃ k dn:Nat,k<=n'/\iv=.int .i64 ((k:Int)-1)/\(limbs a).drop k=(limbs b).drop k/\wr=w.drewN dn) (λiv _=>(intOf iv+1).toNat)
  case atStart=>exact⟨n',0,Nat.le_refl _,rfl,by rw[List.drop_of_length_le (Nat.le_of_eq HN.out),List.drop_of_length_le (Nat.le_of_eq HMM.out)],rfl⟩
  case round=>
   obtain⟨k,dn,hk,rfl,hd,rfl⟩:=hrel
   have HD:=Lib.hid hd
   clear hd
   by_cases h0:k=0
   ·subst h0
    go_wp2
    exact bm.out _ _ ⟨kL (by rw[Hb (show limbs a=limbs b by simpa using HD.out),qu]),_,rfl⟩
   ·obtain⟨j,rfl⟩:∃ j,k=j+1:=⟨k-1,by omega⟩
    obtain⟨g1,o1,x,rfl,xG,hx,ku⟩:=Hra.out.cellAt (k:=j) aa
    obtain⟨g2,o2,y,rfl,DD,hy,xH⟩:=Hrb.out.cellAt (k:=j) aa
    have HXX:=Lib.hid hx
    have HYY:=Lib.hid hy
    have hjj:((j+1:Nat):Int)-1=(j:Int):=by omega
    clear hx hy h0 xG DD
    rw[hjj]
    clear hjj
    by_cases uG:x=y
    ·subst uG
     have mB:((x:Int) != (x:Int))=false:=by simp
     go_wp2_with fail
     go_quiet (fail)
     go_wp2
     go_roundw
     case rel=>exact⟨j,_,by omega,rfl,Hl HXX.out HYY.out HD.out,rfl⟩
     case measure=>simp[intOf]
    ·have mB:((x:Int) != (y:Int))=true:=by rw[bne_iff_ne];omega
     go_wp2_with fail
     go_quiet (fail)
     go_wp2_with fail
     go_quiet ((go_at_call 301;exact vp (vw x y _) ⟨_,rfl⟩))
     go_wp2
     exact bm.out _ _ ⟨kL (DT HXX.out HYY.out uG HD.out),_,by rw[World.drewN_drewN,World.drewN_drewN]⟩
 ·have hne':((n':Int) != (m':Int))=true:=by rw[bne_iff_ne];omega
  go_wp2_with fail
  refine (vu n' m' _).mono ?_
  rintro e w1 ⟨rfl,rfl⟩
  go_wp2
  exact bm.out _ _ ⟨kL (by rw[<-HN.out,<-HMM.out];exact JK (by rw[HN.out,HMM.out];exact hne)),0,rfl⟩
def vx (w:World) (B g N:Nat) (xs ys:List Nat) (cv iv:Value) (wr:World):Prop:=
 ∃ (k carry:Nat) (ds:List Nat),k<=N/\ds.length=k/\iv=.int .i64 (k:Int)/\cv=.int .u32 (carry:Int)/\carry<=1/\bS ds/\
   ag ds+4294967296^k*carry=ag (xs.take k)+ag (ys.take k)/\
   wr.ownsRow B 78 1 (.slice (some ⟨g,0,none⟩) (N+1) (N+1)) (N+1) (ints .u32 (ds++List.replicate (N+1-k) 0))/\Below B w wr
theorem vx.step {w wr:World} {B g N k carry x y:Nat} {xs ys ds:List Nat} (hk:k<N) (kQ:ds.length=k) (hc:carry<=1) (hl:bS ds)
  (hv:ag ds+4294967296^k*carry=ag (xs.take k)+ag (ys.take k)) (az:wr.ownsRow B 78 1 (.slice (some ⟨g,0,none⟩) (N+1) (N+1)) (N+1) (ints .u32 (ds++List.replicate (N+1-k) 0)))
  (hb:Below B w wr) (hx:xs.getD k 0=x) (hy:ys.getD k 0=y) (jv:x<4294967296) (uq:y<4294967296):
  vx w B g N xs ys (.int .u32 (((x+y+carry)/4294967296:Nat):Int)) (.int .i64 ((k:Int)+1)) (wr.setCell ⟨g,k,none⟩ (.int .u32 (((x+y+carry)%4294967296:Nat):Int))):=by
 subst kQ
 have e:N+1-ds.length=(N-ds.length)+1:=by omega
 rw[e] at az
 have h1:=Own.qy (x:=(x+y+carry)%4294967296) az
 refine⟨ds.length+1,(x+y+carry)/4294967296,ds++[(x+y+carry)%4294967296],by omega,by simp,rfl,rfl,?_,?_,?_,?_,?_⟩
 ·omega
 ·exact hl.append (bS.cons (Nat.mod_lt _ aa) bS.nil)
 ·rw[dw,aN,aN,hx,hy,Nat.pow_succ]
  exact AX _ _ x y carry _ _ _ hv rfl
 ·rw[show N+1-(ds.length+1)=N-ds.length by omega];exact h1
 ·exact hb.setCell (Own.lt az).1 _
set_option maxRecDepth 100000 in
theorem FM (p q:Option Addr) (n c m d:Nat) (xs ys:List Nat) (w:World) (hr:Rd w 1 (.slice p n c) n (ints .u32 xs)) (hs:Rd w 1 (.slice q m d) m (ints .u32 ys)) (hx:bS xs) (hy:bS ys)
  (hn:n<=1073741824) (hmn:m<=n) (args:Array Value) (hargs:args=#[.slice p n c,.slice q m d]\/m<n/\args=#[.slice q m d,.slice p n c]):
  Calls Tryz.prog 268 args w λe w'=>∃ v',e=.returned v'/\w'.ownsRow w.heap.size 78 1 v' (limbs (ag xs+ag ys)).length (ints .u32 (limbs (ag xs+ag ys)))/\Below w.heap.size w w':=by
 obtain⟨p',c',hv,eV,fm,ed⟩:=hr.u32
 simp only[Value.slice.injEq,true_and] at hv
 obtain⟨rfl,rfl⟩:=hv
 obtain⟨q',d',hv,Hm,DC,ju⟩:=hs.u32
 simp only[Value.slice.injEq,true_and] at hv
 obtain⟨rfl,rfl⟩:=hv
 have Hr:=Lib.hid hr
 have Hs:=Lib.hid hs
 have HL:=Lib.hid hx
 have HM:=Lib.hid hy
 have HX:=Lib.hid ed
 have HY:=Lib.hid ju
 obtain⟨i0,hi,kP,mA,mN⟩:=info_parts iq
 obtain⟨B,hB⟩:∃ B,B=w.heap.size:=⟨_,rfl⟩
 have HB:=Lib.hid hB
 rw[<-hB]
 clear ed ju hx hy hr hs hB
 rcases hargs with rfl|⟨hlt,rfl⟩
 all_goals
  refine aG λR' bm=> ?_
  go_enter Tryz.func268,Tryz.ntmps268
  go_wp2_with (at_make;refine wpList_make_full _ rfl _ _ 23 rfl B 78 i0 (.int .u32 0) 1 Tryz.underlying23 hi kP mA .i64 .i64 _ _ (n+1) rfl rfl aa aa (by rw[mN];omega) (by unfold maxLen;omega) (Nat.le_of_eq HB.out) ?_;intro w1 az Hj)
  have DU:=Lib.hid (Own.made az)
  have Hb1:Hid (Below B w w1):=(Below.refl _ _).grown Hj (Nat.le_of_eq HB.out) (λk hk=>by cases hk)
  clear az Hj
  go_loopw [6,22] (λcv iv wr=>vx w B w.heap.size n xs ys cv iv wr) (λ_ iv _=>n-(intOf iv).toNat)
  case atStart=>exact⟨0,0,[],Nat.zero_le _,rfl,rfl,rfl,by omega,bS.nil,by simp[dL],DU.out,Hb1.out⟩
  case round=>
   obtain⟨k,carry,ds,hk,kQ,rfl,rfl,kS,hl,hv,az,hb⟩:=hrel
   have HO:=Lib.hid az
   have zG:=Lib.hid kQ
   have HV:=Lib.hid hv
   have yp:=Lib.hid hl
   have fK:=Lib.hid hb
   clear az kQ hv hl hb
   have uH:B<=wr.heap.size:=by have:=fK.out.size;have:=HB.out;omega
   by_cases hkn:k<n
   ·obtain⟨b1,o1,x,rfl,aL,fq,ku⟩:=(Hr.out.ic HB.out fK.out).cellAt hkn
    have uI:=Lib.hid fq
    have jv:=HL.out.at fq
    have e:n+1-k=(n-k)+1:=by omega
    have lI:=HO.out
    rw[e] at lI
    obtain⟨hcell,xI⟩:=Own.uF lI
    rw[zG.out] at hcell xI
    clear e lI fq
    by_cases DV:k<m
    ·obtain⟨b2,o2,y,rfl,aY,mo,xH⟩:=(Hs.out.ic HB.out fK.out).cellAt DV
     have FN:=Lib.hid mo
     have uq:=HM.out.at mo
     clear mo
     go_wp2_with fail
     refine (kM x y carry _ jv uq aa).mono ?_
     rintro e w2 ⟨rfl,rfl⟩
     go_wp2_with fail
     go_roundw
     case rel=>exact vx.step hkn zG.out kS yp.out HV.out HO.out fK.out (by simp[List.getD,uI.out]) (by simp[List.getD,FN.out]) jv uq
     case measure=>simp[intOf];omega
    ·have xE:Hid (ys.getD k 0=0):=by show _=_;rw[List.getD,List.getElem?_eq_none (by rw[HY.out];omega)];rfl
     go_wp2_with fail
     refine (kM x 0 carry _ jv aa aa).mono ?_
     rintro e w2 ⟨rfl,rfl⟩
     go_wp2_with fail
     go_roundw
     case rel=>exact vx.step hkn zG.out kS yp.out HV.out HO.out fK.out (by simp[List.getD,uI.out]) xE.out jv aa
     case measure=>simp[intOf];omega
   ·obtain rfl:k=n:=by omega
    have e:k+1-k=0+1:=by omega
    have lI:=HO.out
    rw[e] at lI
    obtain⟨hcell,xI⟩:=Own.uF lI
    have hst:=Own.qy (x:=carry) lI
    rw[zG.out] at hcell xI hst
    have HST:=Lib.hid hst
    clear e lI hst
    go_wp2_with fail
    have hval:Hid (ag (ds++[carry])=ag xs+ag ys):=by
     show _=_
     rw[dw,zG.out,HV.out,bc (Nat.le_of_eq HX.out),bc (by rw[HY.out];exact hmn)]
    refine (cG _ (k+1) (k+1) (ds++[carry]) _ (by have:=Rd.own HST.out;simpa using this) (yp.out.append (bS.cons aa bS.nil))).mono ?_
    rintro e w2 ⟨⟨r,hr,rfl,DF⟩,rfl⟩
    have Jp:=Lib.hid DF
    clear DF
    go_wp2_with fail
    refine bm.out _ _ ⟨_,rfl,?_,fK.out.setCell (p:=⟨w.heap.size,k,none⟩) (Nat.le_of_eq HB.out) _⟩
    have h2:=HST.out
    rw[List.replicate_zero,List.append_nil] at h2
    have h3:=Own.limbs h2 hr Jp.out
    have e:(limbs (ag (ds++[carry]))).length=r:=by rw[Jp.out,List.length_take,List.length_append,zG.out];simp;omega
    rw[hval.out] at h3 e
    rw[e];exact h3
theorem FO (va vb:Value) (n m:Nat) (xs ys:List Nat) (w:World) (hr:Rd w 1 va n (ints .u32 xs)) (hs:Rd w 1 vb m (ints .u32 ys)) (hx:bS xs) (hy:bS ys) (hn:n<=1073741824) (hm:m<=1073741824):
  Calls Tryz.prog 268 #[va,vb] w λe w'=>∃ v',e=.returned v'/\w'.ownsRow w.heap.size 78 1 v' (limbs (ag xs+ag ys)).length (ints .u32 (limbs (ag xs+ag ys)))/\Below w.heap.size w w':=by
 obtain⟨p,c,rfl,_,_,_⟩:=hr.u32
 obtain⟨q,d,rfl,_,_,_⟩:=hs.u32
 rcases Nat.lt_or_ge n m with h|h
 ·rw[Nat.add_comm (ag xs)]
  exact FM q p m d n c ys xs w hs hr hy hx hm aa _ (.inr ⟨h,rfl⟩)
 ·exact FM p q n c m d xs ys w hr hs hx hy hn h _ (.inl rfl)
def zH (w:World) (B g N m:Nat) (xs:List Nat) (cv iv:Value) (wr:World):Prop:=
 ∃ (k carry:Nat) (ds:List Nat),k<=N/\ds.length=k/\iv=.int .i64 (k:Int)/\cv=.int .u32 (carry:Int)/\carry<4294967296/\bS ds/\
   ag ds+4294967296^k*carry=ag (xs.take k)*m/\
   wr.ownsRow B 78 1 (.slice (some ⟨g,0,none⟩) (N+1) (N+1)) (N+1) (ints .u32 (ds++List.replicate (N+1-k) 0))/\Below B w wr
theorem yr (x m c:Nat) (hx:x<4294967296) (hm:m<4294967296) (hc:c<4294967296):(x*m+c)/4294967296<4294967296:=by
 have h1:x*m<=4294967295*4294967295:=Nat.mul_le_mul aa aa
 omega
theorem yt (x m c:Nat):x*m/4294967296+(x*m%4294967296+c)/4294967296=(x*m+c)/4294967296/\(x*m%4294967296+c)%4294967296=(x*m+c)%4294967296:=by
 generalize x*m=p;omega
theorem zH.step {w wr:World} {B g N k carry x m:Nat} {xs ds:List Nat} {c s:Int} (hk:k<N) (kQ:ds.length=k) (hm:m<4294967296) (hc:carry<4294967296) (hl:bS ds)
  (hv:ag ds+4294967296^k*carry=ag (xs.take k)*m) (az:wr.ownsRow B 78 1 (.slice (some ⟨g,0,none⟩) (N+1) (N+1)) (N+1) (ints .u32 (ds++List.replicate (N+1-k) 0)))
  (hb:Below B w wr) (hx:xs[k]? =some x) (jv:x<4294967296) (he:c=(((x*m+carry)/4294967296:Nat):Int)) (hs:s=(((x*m%4294967296+carry)%4294967296:Nat):Int)):
  zH w B g N m xs (.int .u32 c) (.int .i64 ((k:Int)+1)) (wr.setCell ⟨g,k,none⟩ (.int .u32 s)):=by
 subst kQ
 subst he
 subst hs
 have e:N+1-ds.length=(N-ds.length)+1:=by omega
 rw[e] at az
 have h1:=Own.qy (x:=(x*m+carry)%4294967296) az
 rw[(yt x m carry).2]
 refine⟨ds.length+1,(x*m+carry)/4294967296,ds++[(x*m+carry)%4294967296],by omega,by simp,rfl,rfl,yr x m carry jv hm hc,?_,?_,?_,?_⟩
 ·exact hl.append (bS.cons (Nat.mod_lt _ aa) bS.nil)
 ·rw[dw,aN,Nat.pow_succ,List.getD,hx]
  exact JE _ x m carry _ _ hv
 ·rw[show N+1-(ds.length+1)=N-ds.length by omega];exact h1
 ·exact hb.setCell (Own.lt az).1 _
set_option maxRecDepth 100000 in
theorem zI (va:Value) (n m:Nat) (xs:List Nat) (w:World) (hr:Rd w 1 va n (ints .u32 xs)) (hx:bS xs) (hn:n<=1073741824) (hm:m<4294967296):
  Calls Tryz.prog 317 #[va,.int .u32 (m:Int)] w λe w'=>∃ v',e=.returned v'/\w'.ownsRow w.heap.size 78 1 v' (limbs (ag xs*m)).length (ints .u32 (limbs (ag xs*m)))/\Below w.heap.size w w':=by
 obtain⟨p,c,rfl,eV,fm,ed⟩:=hr.u32
 have Hr:=Lib.hid hr
 have HL:=Lib.hid hx
 have HX:=Lib.hid ed
 obtain⟨i0,hi,kP,mA,mN⟩:=info_parts iq
 obtain⟨B,hB⟩:∃ B,B=w.heap.size:=⟨_,rfl⟩
 have HB:=Lib.hid hB
 rw[<-hB]
 clear ed hx hr hB
 refine aG λR' bm=> ?_
 go_enter Tryz.func317,Tryz.ntmps317
 go_wp2_with (at_make;refine wpList_make_full _ rfl _ _ 23 rfl B 78 i0 (.int .u32 0) 1 Tryz.underlying23 hi kP mA .i64 .i64 _ _ (n+1) rfl rfl aa aa (by rw[mN];omega) (by unfold maxLen;omega) (Nat.le_of_eq HB.out) ?_;intro w1 az Hj)
 have DU:=Lib.hid (Own.made az)
 have Hb1:Hid (Below B w w1):=(Below.refl _ _).grown Hj (Nat.le_of_eq HB.out) (λk hk=>by cases hk)
 clear az Hj
 go_loopw [6,19] (λcv iv wr=>zH w B w.heap.size n m xs cv iv wr) (λ_ iv _=>n-(intOf iv).toNat)
 case atStart=>exact⟨0,0,[],Nat.zero_le _,rfl,rfl,rfl,by omega,bS.nil,by simp[dL],DU.out,Hb1.out⟩
 case round=>
  obtain⟨k,carry,ds,hk,kQ,rfl,rfl,kS,hl,hv,az,hb⟩:=hrel
  have HO:=Lib.hid az
  have zG:=Lib.hid kQ
  have HV:=Lib.hid hv
  have yp:=Lib.hid hl
  have fK:=Lib.hid hb
  clear az kQ hv hl hb
  by_cases hkn:k<n
  ·obtain⟨b1,o1,x,rfl,aL,fq,ku⟩:=(Hr.out.ic HB.out fK.out).cellAt hkn
   have uI:=Lib.hid fq
   have jv:=HL.out.at fq
   have e:n+1-k=(n-k)+1:=by omega
   have lI:=HO.out
   rw[e] at lI
   obtain⟨hcell,xI⟩:=Own.uF lI
   rw[zG.out] at hcell xI
   clear e lI fq
   have h1:(x*m+carry)/4294967296<4294967296:=yr x m carry jv hm kS
   have h2:=(yt x m carry).1
   have h3:(0:Int)<=((x*m/4294967296:Nat):Int)+(((x*m%4294967296+carry+0)/4294967296:Nat):Int)/\((x*m/4294967296:Nat):Int)+(((x*m%4294967296+carry+0)/4294967296:Nat):Int)<4294967296:=by omega
   have H2:Hid (((x*m/4294967296:Nat):Int)+(((x*m%4294967296+carry+0)/4294967296:Nat):Int)=(((x*m+carry)/4294967296:Nat):Int)):=by show _=_;omega
   obtain⟨h3a,h3b⟩:=h3
   clear h2 h1
   go_wp2_with fail
   refine (Hh x m _ jv hm).mono ?_
   rintro e w2 ⟨rfl,rfl⟩
   go_wp2_with fail
   refine (kM (x*m%4294967296) carry 0 _ (Nat.mod_lt _ aa) kS aa).mono ?_
   rintro e w2 ⟨rfl,rfl⟩
   go_wp2_with fail
   go_roundw
   case rel=>exact zH.step hkn zG.out hm kS yp.out HV.out HO.out fK.out uI.out jv (by have:=H2.out;omega) aa
   case measure=>simp[intOf];omega
  ·obtain rfl:k=n:=by omega
   have e:k+1-k=0+1:=by omega
   have lI:=HO.out
   rw[e] at lI
   obtain⟨hcell,xI⟩:=Own.uF lI
   have hst:=Own.qy (x:=carry) lI
   rw[zG.out] at hcell xI hst
   have HST:=Lib.hid hst
   clear e lI hst
   go_wp2_with fail
   have hval:Hid (ag (ds++[carry])=ag xs*m):=by
    show _=_
    rw[dw,zG.out,HV.out,bc (Nat.le_of_eq HX.out)]
   refine (cG _ (k+1) (k+1) (ds++[carry]) _ (by have:=Rd.own HST.out;simpa using this) (yp.out.append (bS.cons aa bS.nil))).mono ?_
   rintro e w2 ⟨⟨r,hr,rfl,DF⟩,rfl⟩
   have Jp:=Lib.hid DF
   clear DF
   go_wp2_with fail
   refine bm.out _ _ ⟨_,rfl,?_,fK.out.setCell (p:=⟨w.heap.size,k,none⟩) (Nat.le_of_eq HB.out) _⟩
   have h2:=HST.out
   rw[List.replicate_zero,List.append_nil] at h2
   have h3:=Own.limbs h2 hr Jp.out
   have e:(limbs (ag (ds++[carry]))).length=r:=by rw[Jp.out,List.length_take,List.length_append,zG.out];simp;omega
   rw[hval.out] at h3 e
   rw[e];exact h3
def zJ (w:World) (B:Nat) (qv:Value) (n d:Nat) (xs:List Nat) (iv rv:Value) (wr:World):Prop:=
 ∃ (k r:Nat) (qs:List Nat),k<=n/\qs.length=n-k/\iv=.int .i64 ((k:Int)-1)/\rv=.int .u32 (r:Int)/\r<d/\bS qs/\
   ag qs*d+r=ag (xs.drop k)/\wr.ownsRow B 78 1 qv n (ints .u32 (xs.take k++qs))/\Below B w wr
theorem JO (d r x Q X:Nat) (h:Q*d+r=X):
  ((r*4294967296+x)/d+4294967296*Q)*d+(r*4294967296+x)%d=x+4294967296*X:=by
 subst h
 have h2:=Nat.mod_add_div (r*4294967296+x) d
 rw[Nat.mul_comm d] at h2
 rw[Nat.add_mul,Nat.mul_add,Nat.mul_assoc]
 omega
theorem div_lt (d r x:Nat) (hr:r<d) (hx:x<4294967296):(r*4294967296+x)/d<4294967296:=by
 rw[Nat.div_lt_iff_lt_mul aa]
 have:(r+1)*4294967296<=d*4294967296:=Nat.mul_le_mul_right _ hr
 rw[Nat.mul_comm 4294967296 d];omega
theorem vA {xs:List Nat} {k x:Nat} (h:xs[k]? =some x):ag (xs.drop k)=x+4294967296*ag (xs.drop (k+1)):=by
 obtain⟨hl,e⟩:=List.getElem?_eq_some_iff.1 h
 rw[List.drop_eq_getElem_cons hl,e,eO]
theorem zK {xs qs:List Nat} {k x:Nat} (hk:k<xs.length):(xs.take (k+1)++qs).set k x=xs.take k++x::qs:=by
 have h1:xs.take (k+1)=xs.take k++[xs[k]]:=bf (List.getElem?_eq_getElem hk)
 rw[h1,List.append_assoc,List.set_append_right _ _ (by rw[List.length_take];omega)]
 congr 1
 rw[List.length_take,Nat.min_eq_left aa,Nat.sub_self];rfl
theorem zJ.step {w wr:World} {B g cap n d j r x dn:Nat} {xs qs:List Nat} {q s:Int} (hj:j+1<=n) (hn:xs.length=n) (hqs:qs.length=n-(j+1)) (hr:r<d) (hl:bS qs)
  (hv:ag qs*d+r=ag (xs.drop (j+1))) (az:wr.ownsRow B 78 1 (.slice (some ⟨g,0,none⟩) n cap) n (ints .u32 (xs.take (j+1)++qs))) (hb:Below B w wr)
  (hx:xs[j]? =some x) (jv:x<4294967296) (he:q=(((r*4294967296+x)/d:Nat):Int)) (hs:s=(((r*4294967296+x)%d:Nat):Int)):
  zJ w B (.slice (some ⟨g,0,none⟩) n cap) n d xs (.int .i64 ((j:Int)-1)) (.int .u32 s) ((wr.drewN dn).setCell ⟨g,j,none⟩ (.int .u32 q)):=by
 subst he
 subst hs
 refine⟨j,(r*4294967296+x)%d,(r*4294967296+x)/d::qs,by omega,by simp;omega,rfl,rfl,Nat.mod_lt _ aa,bS.cons (div_lt d r x hr jv) hl,?_,?_,?_⟩
 ·rw[eO,vA hx,<-hv]
  exact JO d r x _ _ rfl
 ·have h1:=Own.fp (j:=j) (x:=(r*4294967296+x)/d) (Own.drewN az dn)
  rwa [zK aa] at h1
 ·exact (Below.drewN hb dn).setCell (Own.lt az).1 _
set_option maxRecDepth 100000 in
theorem qA (va:Value) (n d:Nat) (xs:List Nat) (w:World) (hr:Rd w 1 va n (ints .u32 xs)) (hx:bS xs) (hn:n<=1073741824) (hd:d<4294967296):
  Calls Tryz.prog 271 #[va,.int .u32 (d:Int)] w λe w'=>((d=0/\e=.returned (.tuple #[.slice none 0 0,.int .u32 0,.int .i64 20]))\/
   (d≠0/\∃ v',e=.returned (.tuple #[v',.int .u32 ((ag xs%d:Nat):Int),.int .i64 0])/\w'.ownsRow w.heap.size 78 1 v' (limbs (ag xs/d)).length (ints .u32 (limbs (ag xs/d)))))/\Below w.heap.size w w':=by
 obtain⟨p,c,rfl,eV,fm,ed⟩:=hr.u32
 have Hr:=Lib.hid hr
 have HL:=Lib.hid hx
 have HX:=Lib.hid ed
 clear ed hx hr
 by_cases hd0:d=0
 ·have hdb:((d:Int) == 0)=true:=by rw[beq_iff_eq];omega
  have HD:=Lib.hid hd0
  clear hd0
  refine aG λR' bm=> ?_
  go_enter Tryz.func271,Tryz.ntmps271
  go_wp2
  go_ret3
  exact bm.out _ _ ⟨.inl ⟨HD.out,rfl⟩,Below.refl _ _⟩
 ·obtain⟨B,hB⟩:∃ B,B=w.heap.size:=⟨_,rfl⟩
  have HB:=Lib.hid hB
  rw[<-hB]
  clear hB
  have hdb:((d:Int) == 0)=false:=by rw[beq_eq_false_iff_ne];omega
  refine aG λR' bm=> ?_
  go_enter Tryz.func271,Tryz.ntmps271
  go_wp2_with fail
  refine (jt _ n xs _ Hr.out hn).mono ?_
  rintro e w1 ⟨qv,rfl,az,hb⟩
  rw[<-HB.out] at az hb
  obtain⟨qp,qc,rfl,_,_,_⟩:=Own.form az
  have HO:=Lib.hid az
  have fK:=Lib.hid hb
  clear az hb
  go_wp2_with fail
  go_loopw [7,5] (λiv rv wr=>zJ w B (.slice qp n qc) n d xs iv rv wr) (λiv _ _=>(intOf iv+1).toNat)
  case atStart=>exact⟨n,0,[],Nat.le_refl _,by simp,rfl,rfl,by omega,bS.nil,by rw[List.drop_of_length_le (Nat.le_of_eq HX.out)];simp[dL],by rw[List.take_of_length_le (Nat.le_of_eq HX.out),List.append_nil];exact HO.out,fK.out⟩
  case round=>
   obtain⟨k,r,qs,hk,hqs,rfl,rfl,rT,hl,hv,az,hb⟩:=hrel
   have mr:=Lib.hid az
   have HQS:=Lib.hid hqs
   have HV:=Lib.hid hv
   have yp:=Lib.hid hl
   have mV:=Lib.hid hb
   clear az hqs hv hl hb
   by_cases h0:k=0
   ·subst h0
    go_wp2_with fail
    refine (cG _ n qc qs _ (by have:=Rd.own mr.out;simpa using this) yp.out).mono ?_
    rintro e w2 ⟨⟨m,hm,rfl,xF⟩,rfl⟩
    have JM:=Lib.hid xF
    clear xF
    go_wp2_with fail
    go_ret3
    have hv:=HV.out
    rw[List.drop_zero] at hv
    have hq:ag xs/d=ag qs:=by rw[<-hv,Nat.add_comm,Nat.add_mul_div_right _ _ aa,Nat.div_eq_of_lt rT,Nat.zero_add]
    have hm':ag xs%d=r:=by rw[<-hv,Nat.add_comm,Nat.add_mul_mod_self_right,Nat.mod_eq_of_lt rT]
    refine bm.out _ _ ⟨.inr ⟨hd0,.slice qp m qc,by rw[hm'];rfl,?_⟩,mV.out⟩
    have h2:=mr.out
    rw[List.take_zero,List.nil_append] at h2
    have h3:=Own.limbs h2 hm JM.out
    have e:(limbs (ag qs)).length=m:=by rw[JM.out,List.length_take,HQS.out];omega
    rw[hq,e];exact h3
   ·obtain⟨j,rfl⟩:∃ j,k=j+1:=⟨k-1,by omega⟩
    obtain⟨g,qc',hv,hbg,xy⟩:=Own.uE mr.out aa
    simp only[Value.slice.injEq,true_and] at hv
    obtain⟨rfl,rfl⟩:=hv
    obtain⟨x,hx,hcell,xI⟩:=Own.fD mr.out (j:=j) aa
    have fq:xs[j]? =some x:=by
     rw[List.getElem?_append_left (by rw[List.length_take,HX.out];omega),List.getElem?_take] at hx
     simpa using hx
    have uI:=Lib.hid fq
    have jv:=HL.out.at fq
    have hjj:((j+1:Nat):Int)-1=(j:Int):=by omega
    rw[hjj]
    clear hx fq h0 hjj
    go_wp2_with fail
    refine (Hi r x d _ rT jv hd).mono ?_
    rintro e w2 ⟨rfl,dn,rfl⟩
    go_wp2_with fail
    go_roundw
    case rel=>exact zJ.step aa HX.out HQS.out rT yp.out HV.out mr.out mV.out uI.out jv dU dU
    case measure=>simp[intOf]
def vB (w:World) (B:Nat) (ov:Value) (n:Nat) (xs ys:List Nat) (bv iv:Value) (wr:World):Prop:=
 ∃ (k r:Nat) (ds:List Nat),k<=n/\ds.length=k/\iv=.int .i64 (k:Int)/\bv=.int .u32 (r:Int)/\r<=1/\bS ds/\
   ag ds+ag (ys.take k)=ag (xs.take k)+4294967296^k*r/\wr.ownsRow B 78 1 ov n (ints .u32 (ds++xs.drop k))/\Below B w wr
theorem zL {xs ds:List Nat} {x:Nat} (hk:ds.length<xs.length):(ds++xs.drop ds.length).set ds.length x=(ds++[x])++xs.drop (ds.length+1):=by
 rw[List.set_append_right _ _ (Nat.le_refl _),Nat.sub_self,List.drop_eq_getElem_cons hk,List.set_cons_zero,List.append_assoc];rfl
theorem JP (p x y r d r' X Y D:Nat) (h:D+Y=X+p*r) (hs:x+4294967296*r'=d+y+r):(D+p*d)+(Y+p*y)=(X+p*x)+p*4294967296*r':=by
 have h2:p*(x+4294967296*r')=p*(d+y+r):=by rw[hs]
 rw[Nat.mul_add,Nat.mul_add,Nat.mul_add,<-Nat.mul_assoc] at h2
 omega
theorem vB.step {w wr:World} {B g cap n k r x y d r':Nat} {xs ys ds:List Nat} (hk:k<n) (hn:xs.length=n) (kQ:ds.length=k) (hl:bS ds)
  (hv:ag ds+ag (ys.take k)=ag (xs.take k)+4294967296^k*r) (az:wr.ownsRow B 78 1 (.slice (some ⟨g,0,none⟩) n cap) n (ints .u32 (ds++xs.drop k))) (hb:Below B w wr)
  (hx:xs.getD k 0=x) (hy:ys.getD k 0=y) (hd:d<4294967296) (ur:r'<=1) (he:x+4294967296*r'=d+y+r):
  vB w B (.slice (some ⟨g,0,none⟩) n cap) n xs ys (.int .u32 (r':Int)) (.int .i64 ((k:Int)+1)) (wr.setCell ⟨g,k,none⟩ (.int .u32 (d:Int))):=by
 subst kQ
 have h1:=Own.fp (j:=ds.length) (x:=d) az
 rw[zL aa] at h1
 refine⟨ds.length+1,r',ds++[d],by omega,by simp,rfl,rfl,ur,hl.append (bS.cons hd bS.nil),?_,h1,hb.setCell (Own.lt az).1 _⟩
 rw[dw,aN,aN,hx,hy,Nat.pow_succ]
 exact JP _ x y r d r' _ _ _ hv he
set_option maxRecDepth 100000 in
theorem zM (va vb:Value) (n m:Nat) (xs ys:List Nat) (w:World) (hr:Rd w 1 va n (ints .u32 xs)) (hs:Rd w 1 vb m (ints .u32 ys)) (hx:bS xs) (hy:bS ys) (hn:n<=1073741824):
  Calls Tryz.prog 270 #[va,vb] w λe w'=>((ag xs<ag ys/\e=.returned (.tuple #[.slice none 0 0,.int .i64 2]))\/
   (ag ys<=ag xs/\∃ v',e=.returned (.tuple #[v',.int .i64 0])/\w'.ownsRow w.heap.size 78 1 v' (limbs (ag xs-ag ys)).length (ints .u32 (limbs (ag xs-ag ys)))))/\Below w.heap.size w w':=by
 obtain⟨p,c,rfl,eV,fm,ed⟩:=hr.u32
 obtain⟨q,d,rfl,Hm,DC,ju⟩:=hs.u32
 obtain⟨a,ha⟩:∃ a,a=ag xs:=⟨_,rfl⟩
 obtain⟨b,hb⟩:∃ b,b=ag ys:=⟨_,rfl⟩
 have Hr:=Lib.hid hr
 have Hs:=Lib.hid hs
 have HL:=Lib.hid hx
 have HM:=Lib.hid hy
 have HX:=Lib.hid ed
 have HY:=Lib.hid ju
 rw[<-ha,<-hb]
 have HA:=Lib.hid ha
 have HB:=Lib.hid hb
 clear ed ju hx hy hr hs ha hb
 refine aG λR' bm=> ?_
 go_enter Tryz.func270,Tryz.ntmps270
 go_wp2_with fail
 refine (cG p n c xs _ Hr.out HL.out).mono ?_
 rintro e w1 ⟨⟨n',hn',rfl,JL⟩,rfl⟩
 have HLN:=Lib.hid JL
 clear JL
 go_wp2_with fail
 refine (cG q m d ys _ Hs.out HM.out).mono ?_
 rintro e w1 ⟨⟨m',hm',rfl,xF⟩,rfl⟩
 have JM:=Lib.hid xF
 clear xF
 have HN:Hid ((limbs a).length=n'):=by show _=_;rw[HA.out,HLN.out,List.length_take,HX.out];omega
 have HMM:Hid ((limbs b).length=m'):=by show _=_;rw[HB.out,JM.out,List.length_take,HY.out];omega
 have JN:=Hr.out.limbs hn' HLN.out
 have Bc:=Hs.out.limbs hm' JM.out
 rw[<-HA.out] at JN
 rw[<-HB.out] at Bc
 have Hra:=Lib.hid JN
 have Hrb:=Lib.hid Bc
 clear JN Bc
 go_wp2_with fail
 refine (zF _ _ n' m' (limbs a) (limbs b) _ Hra.out Hrb.out (aj a) (aj b)).mono ?_
 rintro e w1 ⟨rfl,dn,rfl⟩
 rw[ai,ai]
 by_cases uB:a<b
 ·have hc:fo a b<0:=iA.2 uB
  generalize fo a b=cv at hc ⊢
  go_wp2_with fail
  exact bm.out _ _ ⟨.inl ⟨uB,rfl⟩,Below.drewN (Below.refl _ _) _⟩
 ·have hc:0<=fo a b:=by have:=mt (@iA a b).1 uB;omega
  generalize fo a b=cv at hc ⊢
  have hmn:m'<=n':=by rw[<-HN.out,<-HMM.out];exact bX aa
  obtain⟨B,hB⟩:∃ B,B=w.heap.size:=⟨_,rfl⟩
  have HBB:=Lib.hid hB
  rw[<-hB] at bm
  clear hB
  go_wp2_with fail
  refine (jt _ n' (limbs a) _ (Rd.drewN Hra.out dn) aa).mono ?_
  rintro e w1 ⟨qv,rfl,az,hb⟩
  have hb:Below B w w1:=by rw[HBB.out];exact (Below.drewN (Below.refl _ _) dn).trans hb
  have az:w1.ownsRow B 78 1 qv n' (ints .u32 (limbs a)):=by rw[HBB.out];exact az
  obtain⟨qp,qc,rfl,_,_,_⟩:=Own.form az
  have HO:=Lib.hid az
  have fK:=Lib.hid hb
  clear az hb
  go_wp2_with fail
  go_loopw [7,22] (λbv iv wr=>vB w B (.slice qp n' qc) n' (limbs a) (limbs b) bv iv wr) (λ_ iv _=>n' -(intOf iv).toNat)
  case atStart=>exact⟨0,0,[],Nat.zero_le _,rfl,rfl,rfl,by omega,bS.nil,by simp[dL],by simpa using HO.out,fK.out⟩
  case round=>
   obtain⟨k,r,ds,hk,kQ,rfl,rfl,pk,hl,hv,az,hb⟩:=hrel
   have mr:=Lib.hid az
   have zG:=Lib.hid kQ
   have HV:=Lib.hid hv
   have yp:=Lib.hid hl
   have mV:=Lib.hid hb
   clear az kQ hv hl hb
   by_cases hkn:k<n'
   ·obtain⟨g,qc',hv,hbg,xy⟩:=Own.uE mr.out aa
    simp only[Value.slice.injEq,true_and] at hv
    obtain⟨rfl,rfl⟩:=hv
    obtain⟨x,hx,hcell,xI⟩:=Own.fD mr.out (j:=k) aa
    have fq:(limbs a)[k]? =some x:=by
     rw[List.getElem?_append_right (by rw[zG.out];omega),zG.out,List.getElem?_drop] at hx
     simpa using hx
    have uI:=Lib.hid fq
    have jv:=(aj a).at fq
    clear hx fq
    by_cases DV:k<m'
    ·obtain⟨b2,o2,y,rfl,aY,mo,xH⟩:=(Hrb.out.ic HBB.out mV.out).cellAt DV
     have FN:=Lib.hid mo
     have uq:=(aj b).at mo
     clear mo
     go_wp2_with fail
     refine (yo x y r _ jv uq aa).mono ?_
     rintro e w2 ⟨⟨dd,rr,rfl,hdd,hrr,heq⟩,rfl⟩
     have HEQ:=Lib.hid heq
     clear heq
     go_wp2_with fail
     go_roundw
     case rel=>exact vB.step hkn HN.out zG.out yp.out HV.out mr.out mV.out (by simp[List.getD,uI.out]) (by simp[List.getD,FN.out]) hdd hrr HEQ.out
     case measure=>simp[intOf];omega
    ·have xE:Hid ((limbs b).getD k 0=0):=by show _=_;rw[List.getD,List.getElem?_eq_none (by rw[HMM.out];omega)];rfl
     go_wp2_with fail
     refine (yo x 0 r _ jv aa aa).mono ?_
     rintro e w2 ⟨⟨dd,rr,rfl,hdd,hrr,heq⟩,rfl⟩
     have HEQ:=Lib.hid heq
     clear heq
     go_wp2_with fail
     go_roundw
     case rel=>exact vB.step hkn HN.out zG.out yp.out HV.out mr.out mV.out (by simp[List.getD,uI.out]) xE.out hdd hrr HEQ.out
     case measure=>simp[intOf];omega
   ·obtain rfl:k=n':=by omega
    go_wp2_with fail
    have h2:=mr.out
    rw[List.drop_of_length_le (Nat.le_of_eq HN.out),List.append_nil] at h2
    refine (cG _ k qc ds _ (Rd.own h2) yp.out).mono ?_
    rintro e w2 ⟨⟨s,hs,rfl,hls⟩,rfl⟩
    have HLS:=Lib.hid hls
    clear hls
    go_wp2_with fail
    have hval:ag ds=a-b:=by
     have h1:=HV.out
     rw[bc (Nat.le_of_eq HN.out),bc (by rw[HMM.out];exact hmn),ai,ai] at h1
     have h3:=im yp.out
     rw[zG.out] at h3
     have:r=0:=by
      rcases Nat.eq_zero_or_pos r with h|h
      ·exact h
      ·have:r=1:=by omega
       subst this
       omega
     subst this
     omega
    refine bm.out _ _ ⟨.inr ⟨by omega,.slice qp s qc,rfl,?_⟩,mV.out⟩
    have h3:=Own.limbs h2 hs HLS.out
    have e:(limbs (ag ds)).length=s:=by rw[HLS.out,List.length_take,zG.out];omega
    rw[hval] at h3 e
    rw[e];exact h3
def gD (w:World) (v:Value) (rows:List (List Nat)):Prop:=
 ∃ vs:List Value,Rd w 1 v rows.length vs/\∀ (i:Nat) (xs:List Nat),rows[i]? =some xs->∃ u,vs[i]? =some u/\Rd w 1 u xs.length (ints .u32 xs)
theorem gD.below {w w':World} {v:Value} {rows:List (List Nat)} (h:gD w v rows) (hb:Below w.heap.size w w'):gD w' v rows:=by
 obtain⟨vs,h1,h2⟩:=h
 refine⟨vs,h1.below hb,λi xs hi=> ?_⟩
 obtain⟨u,hu,hr⟩:=h2 i xs hi
 exact⟨u,hu,hr.below hb⟩
theorem gD.at {w:World} {p:Option Addr} {n c k:Nat} {rows:List (List Nat)} (h:gD w (.slice p n c) rows) (hk:k<rows.length):
  ∃ b off u xs,p=some ⟨b,off,none⟩/\rows[k]? =some xs/\w.cell? ⟨b,off+k,none⟩=some u/\Rd w 1 u xs.length (ints .u32 xs):=by
 obtain⟨vs,⟨p',c',hv,_,_,h3,h4⟩,h2⟩:=h
 simp only[Value.slice.injEq] at hv
 obtain⟨rfl,rfl,rfl⟩:=hv
 obtain⟨b,off,hp,hc⟩:=h4 aa
 obtain⟨u,hu,hr⟩:=h2 k _ (List.getElem?_eq_getElem hk)
 exact⟨b,off,u,_,hp,List.getElem?_eq_getElem hk,hc k u hu,hr⟩
theorem gD.form {w:World} {v:Value} {rows:List (List Nat)} (h:gD w v rows):∃ p c,v=.slice p rows.length c/\rows.length<=c/\c<=9223372036854775807:=by
 obtain⟨vs,h1,_⟩:=h
 obtain⟨p,c,hv,h2,h3,_⟩:=h1.form
 unfold maxLen at h3
 exact⟨p,c,hv,h2,by omega⟩
theorem oQ {q:Nat} (h:q<4294967296):(q:Int)%4294967296=q:=by omega
theorem vC {n:Nat} (h:n<32):2^n<4294967296:=by
 have:=Nat.pow_lt_pow_right (show 1<2 by omega) h
 omega
theorem tn (x n:Nat) (hn:n<32):(limbs (x*2^n)).length<=(limbs x).length+1:=by
 apply iQ
 rw[Nat.pow_succ]
 exact Nat.mul_lt_mul_of_lt_of_le (lH x) (Nat.le_of_lt (vC hn)) aa
set_option maxRecDepth 100000 in
theorem JQ (va:Value) (m n x:Nat) (w:World) (hr:Rd w 1 va m (ints .u32 (limbs x))) (hm:m<=1073741824) (hn:n<32):
  Calls Tryz.prog 305 #[va,.int .i64 (n:Int)] w λe w'=>∃ v',e=.returned v'/\Rd w' 1 v' (limbs (x*2^n)).length (ints .u32 (limbs (x*2^n)))/\Below w.heap.size w w':=by
 obtain⟨p,c,rfl,eV,fm,ed⟩:=hr.u32
 have Hr:=Lib.hid hr
 have HX:=Lib.hid ed
 clear ed hr
 by_cases h0:n=0
 ·subst h0
  refine aG λR' bm=> ?_
  go_enter Tryz.func305,Tryz.ntmps305
  go_wp2
  refine bm.out _ _ ⟨_,rfl,?_,Below.refl _ _⟩
  have:=Hr.out
  rw[Nat.pow_zero,Nat.mul_one,HX.out];exact this
 ·have hnb:((n:Int) == 0)=false:=by rw[beq_eq_false_iff_ne];omega
  refine aG λR' bm=> ?_
  go_enter Tryz.func305,Tryz.ntmps305
  have hpl:=vC hn
  have hpe:(2:Int)^n%4294967296=((2^n:Nat):Int):=by
   have:(2:Int)^n=((2^n:Nat):Int):=by simp
   rw[this];exact oQ hpl
  have HP:=Lib.hid hpe
  clear hpe
  go_wp2_with fail
  rw[HP.out]
  refine (zI _ m (2^n) (limbs x) _ Hr.out (aj x) hm hpl).mono ?_
  rintro e w1 ⟨v',rfl,az,hb⟩
  rw[ai] at az
  go_wp2
  exact bm.out _ _ ⟨_,rfl,Rd.own az,hb⟩
set_option maxRecDepth 100000 in
theorem Hn (va:Value) (m n:Nat) (xs:List Nat) (w:World) (hr:Rd w 1 va m (ints .u32 xs)) (hx:bS xs) (hm:m<=1073741824) (hn:n<32):
  Calls Tryz.prog 306 #[va,.int .i64 (n:Int)] w λe w'=>(∃ v' k rs,e=.returned v'/\k<=1073741824/\Rd w' 1 v' k (ints .u32 rs)/\bS rs/\ag rs=ag xs/2^n)/\Below w.heap.size w w':=by
 obtain⟨p,c,rfl,eV,fm,ed⟩:=hr.u32
 have Hr:=Lib.hid hr
 have HX:=Lib.hid ed
 have HL:=Lib.hid hx
 clear ed hr hx
 by_cases h0:n=0
 ·subst h0
  refine aG λR' bm=> ?_
  go_enter Tryz.func306,Tryz.ntmps306
  go_wp2
  exact bm.out _ _ ⟨⟨_,m,xs,rfl,hm,Hr.out,HL.out,by rw[Nat.pow_zero,Nat.div_one]⟩,Below.refl _ _⟩
 ·have hnb:((n:Int) == 0)=false:=by rw[beq_eq_false_iff_ne];omega
  refine aG λR' bm=> ?_
  go_enter Tryz.func306,Tryz.ntmps306
  have hpl:=vC hn
  have hpp:2^n≠0:=by have:=Nat.pow_pos (n:=n) (show 0<2 by omega);omega
  have hpe:(2:Int)^n%4294967296=((2^n:Nat):Int):=by
   have:(2:Int)^n=((2^n:Nat):Int):=by simp
   rw[this];exact oQ hpl
  have HP:=Lib.hid hpe
  have HPP:=Lib.hid hpp
  clear hpe hpp
  go_wp2_with fail
  rw[HP.out]
  refine (qA _ m (2^n) xs _ Hr.out HL.out hm hpl).mono ?_
  rintro e w1 ⟨⟨h,_⟩|⟨_,v',rfl,az⟩,hb⟩
  ·exact absurd h HPP.out
  ·have HO:=Lib.hid az
   have hlen:(limbs (ag xs/2^n)).length<=m:=Nat.le_trans (bX (Nat.div_le_self _ _)) (by rw[<-HX.out];exact gz HL.out)
   clear az
   go_wp2
   exact bm.out _ _ ⟨⟨_,_,_,rfl,Nat.le_trans hlen hm,Rd.own HO.out,aj _,ai _⟩,hb⟩
set_option maxRecDepth 100000 in
theorem JR (n:Nat) (w:World) (hn:n<=2147483648):
  Calls Tryz.prog 316 #[.slice none 0 0,.int .i64 (n:Int)] w λe w'=>∃ v',e=.returned v'/\w'.ownsRow w.heap.size 78 1 v' 0 []/\Below w.heap.size w w':=by
 by_cases h0:n=0
 ·subst h0
  refine aG λR' bm=> ?_
  go_enter Tryz.func316,Tryz.ntmps316
  go_wp2
  exact bm.out _ _ ⟨_,rfl,World.ownsRow_nil _ _ _ _,Below.refl _ _⟩
 ·obtain⟨i0,hi,kP,mA,mN⟩:=info_parts iq
  obtain⟨C,hC⟩:∃ C,C=grownCap w n 0 78:=⟨_,rfl⟩
  have HC:=Lib.hid hC
  have hap0:=Lib.run_append_nil_zeros (P:=Tryz.prog) w 23 3 23 78 i0 (.int .u32 0) .i64 .i64 Tryz.underlying23 Tryz.underlying3 hi kP n aa aa aa (by rw[mN];omega)
  rw[<-hC] at hap0
  have HAP:=Lib.hid hap0
  have hCn:n<=C:=by rw[hC];exact grownCap_ge w n 0 _
  have hCm:C<=9223372036854775807:=by
   have:=grownCap_le_maxLen w n 0 78 (by unfold maxLen;omega)
   unfold maxLen at this
   omega
  have hn0:0<n:=by omega
  clear hC h0 hap0
  refine aG λR' bm=> ?_
  go_enter Tryz.func316,Tryz.ntmps316
  go_wp2_with (at_builtin;refine wpList_append_run rfl _ _ 23 3 rfl _ _ rfl rfl _ _ HAP.out ?_)
  refine bm.out _ _ ⟨_,rfl,?_,?_⟩
  ·exact World.ownsRow_made w.drew _ C (Nat.le_refl _) (by unfold maxLen;omega) (by rw[Array.size_append,size_zeroCells,size_zeroCells];show n*1+(C-n)*1=C*1;omega)
  ·exact (Below.drew (Below.refl _ _)).alloc (Nat.le_refl _) _
def flat (rows:List (List Nat)):List Nat:=rows.flatten
theorem rY (rows:List (List Nat)) (xs:List Nat):flat (rows++[xs])=flat rows++xs:=by simp[flat]
theorem lJ (rows:List (List Nat)) (k:Nat):(flat (rows.take k)).length<=(flat rows).length:=by
 conv=>rhs;rw[<-List.take_append_drop k rows]
 simp only[flat,List.flatten_append,List.length_append]
 omega
def CatA (rows:List (List Nat)) (sv iv:Value):Prop:=∃ k,k<=rows.length/\iv=.int .i64 (k:Int)/\sv=.int .i64 ((flat (rows.take k)).length:Int)
def CatB (w:World) (B:Nat) (rows:List (List Nat)) (ov iv:Value) (wr:World):Prop:=
 ∃ k,k<=rows.length/\iv=.int .i64 (k:Int)/\wr.ownsRow B 78 1 ov (flat (rows.take k)).length (ints .u32 (flat (rows.take k)))/\Below B w wr
set_option maxRecDepth 100000 in
theorem DW (va:Value) (rows:List (List Nat)) (w:World) (hr:gD w va rows) (hn:(flat rows).length<=2147483648):
  Calls Tryz.prog 304 #[va] w λe w'=>∃ v',e=.returned v'/\w'.ownsRow w.heap.size 78 1 v' (flat rows).length (ints .u32 (flat rows))/\Below w.heap.size w w':=by
 obtain⟨p,c,rfl,eV,fm⟩:=hr.form
 have Hr:=Lib.hid hr
 obtain⟨i0,hi,kP,mA,mN⟩:=info_parts iq
 obtain⟨B,hB⟩:∃ B,B=w.heap.size:=⟨_,rfl⟩
 have HB:=Lib.hid hB
 obtain⟨N,hN⟩:∃ N,N=rows.length:=⟨_,rfl⟩
 rw[<-hN] at eV ⊢
 have HN:=Lib.hid hN
 rw[<-hB]
 clear hr hB hN
 refine aG λR' bm=> ?_
 go_enter Tryz.func304,Tryz.ntmps304
 go_wp2
 go_loop [3,11] (λsv iv=>CatA rows sv iv) (λ_ iv=>N-(intOf iv).toNat)
 case atStart=>exact⟨0,Nat.zero_le _,rfl,by simp[flat]⟩
 case round=>
  obtain⟨k,hk,rfl,rfl⟩:=hrel
  rw[<-HN.out] at hk
  have uu:=lJ rows k
  by_cases hkn:k<N
  ·obtain⟨b1,o1,u,xs,rfl,fq,ku,mO⟩:=Hr.out.at (k:=k) (by rw[<-HN.out];exact hkn)
   obtain⟨q,d,rfl,_,_,_⟩:=mO.u32
   have hfs:(flat (rows.take (k+1))).length=(flat (rows.take k)).length+xs.length:=by rw[bf fq,rY,List.length_append]
   have hfl2:=lJ rows (k+1)
   have HFS:=Lib.hid hfs
   rw[hfs] at hfl2
   clear fq mO hfs
   generalize (flat (rows.take k)).length=L at*
   go_wp2
   go_round
   case rel=>exact⟨k+1,by rw[<-HN.out];omega,by go_num,by rw[HFS.out];go_num⟩
   case measure=>simp[intOf];omega
  ·obtain rfl:k=N:=by omega
   have hL:Hid (flat (rows.take k)=flat rows):=by show _=_;rw[List.take_of_length_le (by rw[HN.out];exact Nat.le_refl _)]
   rw[hL.out]
   rw[hL.out] at uu
   generalize hLL:(flat rows).length=L at hn uu
   have HLL:=Lib.hid hLL
   rw[hLL] at bm
   clear hLL
   go_wp2_with fail
   refine (JR L _ aa).mono ?_
   rintro e w1 ⟨ov,rfl,az,hb⟩
   rw[<-HB.out] at az hb
   have HO:=Lib.hid az
   have fK:=Lib.hid hb
   clear az hb
   go_wp2_with fail
   go_loopw [6,27] (λov iv wr=>CatB w B rows ov iv wr) (λ_ iv _=>k-(intOf iv).toNat)
   case atStart=>exact⟨0,Nat.zero_le _,rfl,by simpa [flat,ints] using HO.out,fK.out⟩
   case round=>
    obtain⟨j,hj,rfl,az,hb⟩:=hrel
    have mr:=Lib.hid az
    have mV:=Lib.hid hb
    rw[<-HN.out] at hj
    clear az hb
    by_cases hjn:j<k
    ·obtain⟨b1,o1,u,xs,rfl,fq,ku,mO⟩:=((Hr.out.below (by have:=mV.out;rwa [HB.out] at this)).at (k:=j) (by rw[<-HN.out];exact hjn))
     have hfs:(flat (rows.take (j+1))).length=(flat (rows.take j)).length+xs.length:=by rw[bf fq,rY,List.length_append]
     have hfl2:=lJ rows (j+1)
     have HFS:=Lib.hid hfs
     have hsz:(flat (rows.take j)).length+xs.length<=2147483648:=by have:=HLL.out;omega
     have uI:=Lib.hid fq
     have HRU:=Lib.hid mO
     have uH:B<=wr.heap.size:=by have:=mV.out.size;have:=HB.out;omega
     clear fq mO hfs hfl2
     go_wp2_with (at_builtin;refine ig _ rfl _ _ 23 rfl B 78 i0 (.int .u32 0) 1 4 Tryz.underlying23 hi kP mA mN rfl bZ _ _ _ rfl mr.out _ xs.length _ rfl HRU.out (kK _ _) (by unfold maxLen;omega) aa uH ?_;intro v' w2 jG hgr2)
     have JS:Hid (w2.ownsRow B 78 1 v' (flat (rows.take (j+1))).length (ints .u32 (flat (rows.take (j+1))))):=by
      show World.ownsRow ..
      rw[HFS.out,bf uI.out,rY,fU];exact jG
     have Jq:Hid (Below B w w2):=Below.JH mV.out hgr2 mr.out uH (Nat.le_refl _)
     clear jG hgr2
     go_wp2_with fail
     go_roundw
     case rel=>exact⟨j+1,by rw[<-HN.out];omega,by go_num,JS.out,Jq.out⟩
     case measure=>simp[intOf];omega
    ·obtain rfl:j=k:=by omega
     go_wp2_with fail
     refine bm.out _ _ ⟨_,rfl,?_,mV.out⟩
     have:=mr.out
     rw[hL.out,HLL.out] at this
     exact this
theorem gD.two {w:World} {g:Nat} {u v:Value} {xs ys:List Nat} {t:Nat} {fr:Nat×Nat} (h:w.heap[g]? =some (.cells #[u,v] t fr)) (hx:Rd w 1 u xs.length (ints .u32 xs)) (hy:Rd w 1 v ys.length (ints .u32 ys)):
  gD w (.slice (some ⟨g,0,none⟩) 2 2) [xs,ys]:=by
 refine⟨[u,v],⟨_,2,rfl,Nat.le_refl _,by simp[maxLen],rfl,λ_=>⟨g,0,rfl,λj z hj=> ?_⟩⟩,λi zs hi=> ?_⟩
 ·match j,hj with
  | 0,hj=>simp at hj;subst hj;simp[World.cell?,h]
  | 1,hj=>simp at hj;subst hj;simp[World.cell?,h]
 ·match i,hi with
  | 0,hi=>simp at hi;subst hi;exact⟨u,rfl,hx⟩
  | 1,hi=>simp at hi;subst hi;exact⟨v,rfl,hy⟩
theorem FP {w:World} {o:Obj} {k:Nat} (h:k=w.heap.size):(w.alloc o).heap[k]? =some o:=by subst h;exact heap_alloc_new w o
theorem ordA {w w2 w3:World} {z o:Obj} (aY:Below (w.alloc z).drew.heap.size (w.alloc z).drew w2) (cK:Below (w2.alloc o).heap.size (w2.alloc o) w3):Below w.heap.size w w3/\w.heap.size<=(w2.alloc o).heap.size:=by
 have h1:=aY.size
 simp at h1
 have h0:Below w.heap.size w (w.alloc z).drew:=((Below.refl w.heap.size w).alloc (Nat.le_refl _) z).drew
 have h2:Below w.heap.size w w2:=h0.trans (aY.mono dU)
 exact⟨(h2.alloc aa o).trans (cK.mono (by simp;omega)),by simp;omega⟩
theorem ordB {w w2 w3:World} {z o:Obj} (aY:Below w.drew.heap.size w.drew w2) (cK:Below ((w2.alloc z).alloc o).heap.size ((w2.alloc z).alloc o) w3):Below w.heap.size w w3/\w.heap.size<=((w2.alloc z).alloc o).heap.size:=by
 have h1:=aY.size
 simp at h1
 have h2:Below w.heap.size w w2:=(Below.refl w.heap.size w).drew.trans aY
 exact⟨((h2.alloc aa z).alloc (by simp;omega) o).trans (cK.mono (by simp;omega)),by simp;omega⟩
theorem qB (w:World) (q:Nat) (h:q<=9223372036854775807):Rd (w.alloc (.cells (madeCells #[Value.int .u32 0] q) 78)) 1 (.slice (some ⟨w.heap.size,0,none⟩) q q) (List.replicate q 0).length (ints .u32 (List.replicate q 0)):=by
 have h1:=World.ownsRow_lit (base:=0) (size:=1) (e:=78) w (madeCells (Value.int .u32 0).cells (q*1)) q (Nat.zero_le _) (by unfold maxLen;omega) (size_madeCells _ _)
 have h2:=Rd.own (Own.made h1)
 rw[List.length_replicate]
 rw[Nat.mul_one,List.nil_append] at h2
 exact h2
set_option maxRecDepth 100000 in
theorem DX (p:Option Addr) (m c n x:Nat) (xs:List Nat) (w:World) (hr:Rd w 1 (.slice p m c) m (ints .u32 xs)) (hx:bS xs) (hv:ag xs=x) (hm:m<=1073741824) (lG:x≠0) (hn:n<=65536):
  Calls Tryz.prog 273 #[.slice p m c,.int .i64 (n:Int)] w λe w'=>∃ v',e=.returned (.tuple #[v',.int .i64 0])/\w'.ownsRow w.heap.size 78 1 v' (limbs (x*2^n)).length (ints .u32 (limbs (x*2^n)))/\Below w.heap.size w w':=by
 obtain⟨p',c',hv',eV,fm,ed⟩:=hr.u32
 simp only[Value.slice.injEq,true_and] at hv'
 obtain⟨rfl,rfl⟩:=hv'
 have Hr:=Lib.hid hr
 have HX:=Lib.hid ed
 have HL:=Lib.hid hx
 have HV:=Lib.hid hv
 obtain⟨i0,hi,kP,mA,mN⟩:=info_parts iq
 have hmk:∀ W:World,(Instr.makeSlice 23 (.int .i64 ((n:Int)/32)) (.int .i64 ((n:Int)/32))).run Tryz.prog W=.ok (.slice (some ⟨W.heap.size,0,none⟩) (n/32) (n/32)) (W.alloc (.cells (madeCells (Value.int .u32 0).cells (n/32*1)) 78)):=λW=>by
  have:=run_make (P:=Tryz.prog) W 23 78 i0 (.int .u32 0) Tryz.underlying23 hi kP .i64 .i64 ((n:Int)/32) ((n:Int)/32) aa (Int.le_refl _) (by rw[mN];omega) aa
  rw[mA,show ((n:Int)/32).toNat=n/32 by omega] at this
  exact this
 clear ed hr hx hv hi kP mA mN
 refine aG λR' bm=> ?_
 go_enter Tryz.func273,Tryz.ntmps273
 go_wp2_with fail
 refine (cG p m c xs _ Hr.out HL.out).mono ?_
 rintro e w1 ⟨⟨r,hrm,rfl,DF⟩,rfl⟩
 have rU:Hid ((limbs x).length=r):=by
  show _=_
  rw[<-HV.out,DF,List.length_take,HX.out];omega
 have rT:=Hr.out.limbs hrm DF
 rw[HV.out] at rT
 have HRD:=Lib.hid rT
 clear DF rT
 have mM:0<r:=by rw[<-rU.out];exact cO lG
 have FQ:∀ W:World,Rd W 1 (.slice p r c) r (ints .u32 (limbs x))->Calls Tryz.prog 305 #[.slice p r c,.int .i64 ((n:Int)%32)] W λe w'=>∃ v',e=.returned v'/\Rd w' 1 v' (limbs (x*2^(n%32))).length (ints .u32 (limbs (x*2^(n%32))))/\Below W.heap.size W w':=λW h=>by
  have:=JQ (.slice p r c) r (n%32) x W h aa (Nat.mod_lt _ aa)
  rwa [show ((n%32:Nat):Int)=(n:Int)%32 by omega] at this
 have HLEFT:=Lib.hid FQ
 clear FQ
 have uu:(flat [List.replicate (n/32) 0,limbs (x*2^(n%32))])=limbs (x*2^n):=by
  have h1:=Ba (x:=x*2^(n%32)) (n/32) (Nat.mul_ne_zero lG (by have:=Nat.pow_pos (n:=n%32) (show 0<2 by omega);omega))
  simp only[flat,List.flatten_cons,List.flatten_nil,List.append_nil]
  rw[h1,Nat.mul_assoc,AY,<-Nat.pow_add,Nat.mod_add_div]
 have hfn:(flat [List.replicate (n/32) 0,limbs (x*2^(n%32))]).length<=2147483648:=by
  simp only[flat,List.flatten_cons,List.flatten_nil,List.append_nil,List.length_append,List.length_replicate]
  have:=tn x (n%32) (Nat.mod_lt _ aa)
  rw[rU.out] at this
  omega
 have HFL:=Lib.hid uu
 have HFN:=Lib.hid hfn
 clear uu hfn lG
 go_wp2_with fail
 have rV:IntKind.i64.wrap ((n:Int)/32)=(n:Int)/32:=IntWalk.i64_in _ aa
 have hw2:(n:Int).tmod 32=(n:Int)%32:=Int.tmod_eq_emod_of_nonneg aa
 go_region_with (first
  | (go_at_call 305;refine (HLEFT.out _ (by first|exact HRD.out|exact Rd.alloc (Rd.drew HRD.out) _)).mono ?_;rintro e w2 ⟨v2,rfl,hrd2,aY⟩;obtain⟨p2,c2,rfl,_,_,_⟩:=hrd2.form)
  | (go_at_call 304;refine (DW _ [List.replicate (n/32) 0,limbs (x*2^(n%32))] _ (by first|exact gD.two (heap_alloc_new _ _) (Rd.alloc (Rd.below (Rd.drew (qB _ _ aa)) aY) _) (Rd.alloc hrd2 _)|exact gD.two (FP dU) (Rd.alloc (qB _ _ aa) _) (Rd.alloc (Rd.alloc hrd2 _) _)) HFN.out).mono ?_;rintro e w3 ⟨v3,rfl,JT,cK⟩))
 all_goals
  go_wp2
  go_ret2
  refine bm.out _ _ ⟨v3,rfl,?_,?_⟩
  ·rw[HFL.out] at JT
   first|exact Own.mono JT (ordA aY cK).2|exact Own.mono JT (ordB aY cK).2
  ·first|exact (ordA aY cK).1|exact (ordB aY cK).1
theorem rZ {x m k:Nat} (h:(limbs x).length<=m) (hk:32*m<=k):x/2^k=0:=by
 apply Nat.div_eq_of_lt
 have h1:=lH x
 have h2:=Nat.pow_le_pow_right (show 0<4294967296 by omega) h
 rw[AY] at h1 h2
 have h3:=Nat.pow_le_pow_right (show 0<2 by omega) hk
 rw[AY] at h2
 omega
set_option maxRecDepth 100000 in
theorem sc (va:Value) (m x:Nat) (n:Int) (xs:List Nat) (w:World) (hr:Rd w 1 va m (ints .u32 xs)) (hx:bS xs) (hv:ag xs=x) (hm:m<=1073741824) (hn0: -9223372036854775808<=n) (JU:n<=9223372036854775807):
  Calls Tryz.prog 273 #[va,.int .i64 n] w λe w'=>((x≠0/\65536<n/\e=.returned (.tuple #[.slice none 0 0,.int .i64 3]))\/
   (¬ (x≠0/\65536<n)/\∃ v',e=.returned (.tuple #[v',.int .i64 0])/\w'.ownsRow w.heap.size 78 1 v' (limbs (fx x n)).length (ints .u32 (limbs (fx x n)))))/\Below w.heap.size w w':=by
 obtain⟨p,c,rfl,eV,fm,ed⟩:=hr.u32
 have Hr:=Lib.hid hr
 have HX:=Lib.hid ed
 have HL:=Lib.hid hx
 have HV:=Lib.hid hv
 clear ed hr hx hv
 by_cases oH:x≠0/\0<=n/\n<=65536
 ·obtain⟨lG,h0,h1⟩:=oH
  obtain⟨k,rfl⟩:=Int.eq_ofNat_of_zero_le h0
  refine (DX p m c k x xs w Hr.out HL.out HV.out hm lG aa).mono ?_
  rintro e w' ⟨v',rfl,az,hb⟩
  refine⟨.inr ⟨by omega,v',rfl,?_⟩,hb⟩
  have:fx x (k:Int)=x*2^k:=by simp[fx]
  rw[this];exact az
 ·refine aG λR' bm=> ?_
  go_enter Tryz.func273,Tryz.ntmps273
  go_wp2_with fail
  refine (cG p m c xs _ Hr.out HL.out).mono ?_
  rintro e w1 ⟨⟨r,hrm,rfl,DF⟩,rfl⟩
  have rU:(limbs x).length=r:=by
   rw[<-HV.out,DF,List.length_take,HX.out];omega
  have rT:=Hr.out.limbs hrm DF
  rw[HV.out] at rT
  have HRD:=Lib.hid rT
  have JV:=Lib.hid rU
  clear DF rT
  by_cases lG:x=0
  ·have mM:r=0:=by rw[<-rU,lG,bn];rfl
   have HX0:=Lib.hid lG
   have Bc:((r:Int) == 0)=true:=by rw[beq_iff_eq];omega
   clear lG mM rU oH
   go_wp2_with fail
   refine bm.out _ _ ⟨.inr ⟨λh=>h.1 HX0.out,.slice none 0 0,rfl,?_⟩,Below.refl _ _⟩
   have:fx x n=0:=by simp[fx,HX0.out]
   rw[this,bn];exact World.ownsRow_nil _ _ _ _
  ·have mM:0<r:=by rw[<-rU];exact cO lG
   have Bc:((r:Int) == 0)=false:=by rw[beq_eq_false_iff_ne];omega
   clear rU
   by_cases JW:65536<n
   ·go_wp2_with fail
    exact bm.out _ _ ⟨.inl ⟨lG,JW,rfl⟩,Below.refl _ _⟩
   ·have JY:n<0:=by
     by_cases h:n<0
     ·exact h
     ·exact absurd ⟨lG,by omega,by omega⟩ oH
    clear oH
    have HX0:=Lib.hid lG
    clear lG
    have hmul:IntKind.i64.wrap (-32*(r:Int))= -32*(r:Int):=IntWalk.i64_in _ aa
    by_cases zN:n<=-32*(r:Int)
    ·go_wp2_with fail
     refine bm.out _ _ ⟨.inr ⟨λh=>by omega,.slice none 0 0,rfl,?_⟩,Below.refl _ _⟩
     have:fx x n=0:=by
      unfold fx
      rw[if_neg aa]
      exact rZ (m:=r) (by rw[JV.out];exact Nat.le_refl _) aa
     rw[this,bn];exact World.ownsRow_nil _ _ _ _
    ·obtain⟨k,rfl⟩:∃ k:Nat,n= -(k:Int):=⟨(-n).toNat,by omega⟩
     obtain⟨b,off,y,rfl,_,_,_⟩:=HRD.out.cellAt (k:=0) mM
     have hkr:k/32<r:=by omega
     have hneq:¬ (c=k/32):=by omega
     have yu:0<k:=by omega
     have Bd:Rd w 1 (.slice (some ⟨b,off+k/32,none⟩) (r-k/32) (c-k/32)) (r-k/32) (ints .u32 ((limbs x).drop (k/32))):=by
      obtain⟨p',c',hv',h1,h2,h3,h4⟩:=HRD.out
      simp only[Value.slice.injEq,true_and] at hv'
      obtain⟨rfl,rfl⟩:=hv'
      refine⟨_,_,rfl,by omega,by unfold maxLen at h2 ⊢;omega,by rw[tj,List.length_drop,JV.out];omega,λ_=>⟨b,off+k/32,rfl,λj u hj=> ?_⟩⟩
      obtain⟨b',JZ,hp,hc⟩:=h4 aa
      simp only[Option.some.injEq,Addr.mk.injEq,and_true] at hp
      obtain⟨rfl,rfl⟩:=hp
      rw[<-Hf,List.getElem?_drop] at hj
      have:=hc _ _ hj
      rwa [<-Nat.add_assoc] at this
     have HDR:=Lib.hid Bd
     clear Bd
     have hq1:0<=(k:Int)/32:=by omega
     have hq2:(k:Int)/32<(r:Int):=by omega
     go_wp2_with fail
     rw[show (k:Int)%32=((k%32:Nat):Int) by omega]
     refine (Hn _ _ (k%32) _ _ HDR.out ((aj x).drop _) aa (Nat.mod_lt _ aa)).mono ?_
     rintro e w1 ⟨⟨v1,m1,rs,rfl,hm1,hrd1,vD,xz⟩,aL⟩
     obtain⟨p1,c1,rfl,_,_,hrl⟩:=hrd1.u32
     have HR1:=Lib.hid hrd1
     have HV1:=Lib.hid xz
     have HRL:=Lib.hid hrl
     clear hrd1 xz hrl
     go_wp2_with fail
     refine (cG p1 m1 c1 rs _ HR1.out vD).mono ?_
     rintro e w2 ⟨⟨r2,ky,rfl,hlr2⟩,rfl⟩
     have hml2:Hid ((limbs (ag rs)).length=r2):=by show _=_;rw[hlr2,List.length_take,HRL.out];omega
     have HR2:=Lib.hid (HR1.out.limbs ky hlr2)
     clear hlr2
     go_wp2_with fail
     refine (jt _ r2 _ _ HR2.out aa).mono ?_
     rintro e w2 ⟨v2,rfl,az,aY⟩
     have hval:fx x (-(k:Int))=ag rs:=by
      unfold fx
      rw[if_neg aa,HV1.out,uj x (k/32) (by rw[JV.out];omega),Nat.div_div_eq_div_mul,AY,<-Nat.pow_add,Nat.div_add_mod]
      simp
     go_wp2_with fail
     refine bm.out _ _ ⟨.inr ⟨λh=>by omega,v2,rfl,?_⟩,aL.trans (aY.mono aL.size)⟩
     rw[hval,hml2.out]
     exact Own.mono az aL.size
end
section
theorem Be {xs:List Nat} {j o v:Nat} (h:xs[j]? =some o):ag (xs.set j v)+4294967296^j*o=ag xs+4294967296^j*v:=by
 obtain⟨hl,he⟩:=List.getElem?_eq_some_iff.1 h
 have h1:xs=xs.take j++o::xs.drop (j+1):=by rw[<-he,<-List.drop_eq_getElem_cons hl,List.take_append_drop]
 have h2:xs.set j v=xs.take j++v::xs.drop (j+1):=by
  conv=>lhs;rw[h1]
  rw[List.set_append_right _ _ (by rw[List.length_take];omega)]
  rw[List.length_take,Nat.min_eq_left aa,Nat.sub_self];rfl
 have e1:ag xs=ag (xs.take j)+4294967296^j*(o+4294967296*ag (xs.drop (j+1))):=by
  conv=>lhs;rw[h1]
  rw[dM,List.length_take,Nat.min_eq_left aa,eO]
 have e2:ag (xs.set j v)=ag (xs.take j)+4294967296^j*(v+4294967296*ag (xs.drop (j+1))):=by
  rw[h2,dM,List.length_take,Nat.min_eq_left aa,eO]
 rw[e1,e2,Nat.mul_add,Nat.mul_add]
 omega
theorem bS.set {xs:List Nat} (h:bS xs) {v:Nat} (hv:v<4294967296) (j:Nat):bS (xs.set j v):=λy hy=>by
 rcases List.mem_or_eq_of_mem_set hy with h1|h1
 ·exact h y h1
 ·rw[h1];exact hv
theorem vE (k:Nat):ag (List.replicate k 0)=0:=fO _ k
theorem vF {xs:List Nat} (k:Nat) (hk:k<=xs.length):ag xs=ag (xs.take k)+4294967296^k*ag (xs.drop k):=il _ xs k hk
theorem oU {xs:List Nat} {k x:Nat} (h:xs[k]? =some x):ag (xs.drop k)=x+4294967296*ag (xs.drop (k+1)):=oO h
theorem Bf {os:List Nat} {i k x y o c s S Y:Nat} (ho:os[i+k]? =some o) (hs:s=x*y+o+c) (h:ag os+4294967296^(i+k)*c=S+4294967296^i*(x*Y)):
  ag (os.set (i+k) (s%4294967296))+4294967296^(i+(k+1))*(s/4294967296)=S+4294967296^i*(x*(Y+4294967296^k*y)):=by
 have h1:=Be (v:=s%4294967296) ho
 have h2:4294967296^(i+(k+1))=4294967296^(i+k)*4294967296:=by rw[<-Nat.add_assoc,Nat.pow_succ]
 have h3:4294967296^(i+k)*s=4294967296^(i+k)*(s%4294967296)+4294967296^(i+k)*4294967296*(s/4294967296):=by
  rw[Nat.mul_assoc,<-Nat.mul_add,Nat.mod_add_div]
 have h4:4294967296^(i+k)*s=4294967296^(i+k)*(x*y)+4294967296^(i+k)*o+4294967296^(i+k)*c:=by rw[hs,Nat.mul_add,Nat.mul_add]
 have h5:4294967296^i*(x*(Y+4294967296^k*y))=4294967296^i*(x*Y)+4294967296^(i+k)*(x*y):=by
  rw[Nat.mul_add,Nat.mul_add,Nat.pow_add]
  congr 1
  rw[Nat.mul_left_comm x,Nat.mul_assoc]
 rw[h2,h5]
 omega
theorem qC {x y o c:Nat} (hx:x<4294967296) (hy:y<4294967296) (ho:o<4294967296) (hc:c<4294967296):x*y+o+c<18446744073709551616:=by
 have h1:x*y<=4294967295*4294967295:=Nat.mul_le_mul aa aa
 omega
def fP (U V:Nat):Nat:=min 4294967295 (U/V)
theorem Bg {U V:Nat}:fP U V*V<=U:=Nat.le_trans (Nat.mul_le_mul_right _ (Nat.min_le_right _ _)) (Nat.div_mul_le_self U V)
theorem yv {U V t:Nat} (hV:0<V) (ht:t<=4294967295) (h:t*V<=U):t<=fP U V:=by
 unfold fP
 rw[Nat.le_min]
 exact⟨ht,(Nat.le_div_iff_mul_le hV).2 h⟩
theorem DY {p U V u b lu lb:Nat} (hp:0<p) (hu:u=U*p+lu) (hlu:lu<p) (hb:b=V*p+lb) (DG:lb<p) (hV:4294967296<=V) (hub:u<4294967296*b):
  u/b<=fP U V/\fP U V<=u/b+1:=by
 have hV0:0<V:=by omega
 have mB:0<b:=by have:0<V*p:=Nat.mul_pos hV0 hp;omega
 constructor
 ·refine yv hV0 ?_ ?_
  ·have:u/b<4294967296:=by rw[Nat.div_lt_iff_lt_mul mB];exact hub
   omega
  ·have h1:u/b*b<=u:=Nat.div_mul_le_self u b
   have h2:u/b*V*p<=U*p+lu:=by
    rw[hb] at h1
    rw[hu,Nat.mul_add,<-Nat.mul_assoc] at h1
    rw[<-hb,<-hu] at h1
    have:u/b*V*p<=u:=by omega
    omega
   rcases Nat.lt_or_ge U (u/b*V) with h|h
   ·have h3:(U+1)*p<=u/b*V*p:=Nat.mul_le_mul_right _ h
    rw[Nat.add_mul] at h3
    omega
   ·exact h
 ·have hg:=@Bg U V
  have hgB:fP U V<=4294967295:=Nat.min_le_left _ _
  generalize fP U V=q at hg hgB
  have h1:q*V*p<=U*p:=Nat.mul_le_mul_right _ hg
  have h2:q*lb<=4294967295*lb:=Nat.mul_le_mul_right _ hgB
  have h3:q*b=q*V*p+q*lb:=by rw[hb,Nat.mul_add,<-Nat.mul_assoc]
  have h4:4294967296*p<=V*p:=Nat.mul_le_mul_right _ hV
  have h5:q*b<u+b:=by omega
  have h6:q<u/b+2:=by
   have h7:u<(u/b+1)*b:=by rw[Nat.add_mul];have e1:=Nat.div_add_mod u b;have e2:=Nat.mod_lt u mB;rw[Nat.mul_comm] at e1;omega
   have h8:q*b<(u/b+2)*b:=by rw[Nat.add_mul];rw[Nat.add_mul] at h7;omega
   exact Nat.lt_of_mul_lt_mul_right h8
  omega
theorem DZ {B p a y q c r x mP X Y D:Nat} (h:D+q*Y=X+p*(c+r)) (hx:a+B*mP=x+(q*y+c)%B+r):
  (D+p*x)+q*(Y+p*y)=(X+p*a)+p*B*((q*y+c)/B+mP):=by
 have h1:=Nat.mod_add_div (q*y+c) B
 have h2:p*(a+B*mP)=p*x+p*((q*y+c)%B)+p*r:=by rw[hx,Nat.mul_add,Nat.mul_add]
 have h3:p*((q*y+c)%B)+p*(B*((q*y+c)/B))=p*(q*y)+p*c:=by rw[<-Nat.mul_add,h1,Nat.mul_add]
 have h4:q*(Y+p*y)=q*Y+p*(q*y):=by rw[Nat.mul_add,Nat.mul_left_comm]
 have h5:p*B*((q*y+c)/B+mP)=p*(B*((q*y+c)/B))+p*(B*mP):=by rw[Nat.mul_assoc,Nat.mul_add,Nat.mul_add]
 rw[Nat.mul_add] at h2 h
 rw[h4,h5]
 omega
end
section
open Go.RowKit
theorem tab_fin:∀ i:Fin 256,(Lib.len8tab[i.val]'(by have:=i.2;have:Lib.len8tab.size=256:=by decide+kernel
                                                    omega)).toNat=gi i.val:=by decide+kernel
theorem Bh:Lib.len8tab.size=256:=by decide+kernel
theorem tab_at (i:Nat) (h:i<Lib.len8tab.size):(Lib.len8tab[i]'h).toNat=gi i:=tab_fin ⟨i,by rw[Bh] at h;exact h⟩
theorem vG {t k:Nat} (h:2^k<=t):gi t=k+gi (t/2^k):=by
 have hp:0<2^k:=Nat.pow_pos aa
 have hq:t/2^k≠0:=by
  have:=(Nat.le_div_iff_mul_le hp).2 (show 1*2^k<=t by omega)
  omega
 have h1:=uC (t/2^k)
 have h2:=uD hq
 have h0:=qw hq
 refine FL ?_ (.inr ?_)
 ·rw[Nat.pow_add,Nat.mul_comm]
  exact (Nat.div_lt_iff_lt_mul hp).1 h1
 ·rw[show k+gi (t/2^k)-1=(gi (t/2^k)-1)+k by omega,Nat.pow_add]
  exact (Nat.le_div_iff_mul_le hp).1 h2
theorem lK {i:Nat} (h:i<256):gi i<=8:=oN (k:=8) h
set_option maxRecDepth 100000 in
theorem Ho (x:Int) (w:World) (h0:0<=x) (h1:x<=4294967295):
  Calls Tryz.prog 257 #[.int .u32 x] w λe w'=>e=.returned (.int .i64 (gi x.toNat:Int))/\w=w':=by
 have hsz:(Lib.len8tab.size:Int)=256:=by rw[Bh];rfl
 refine aG λR' bm=> ?_
 go_enter Tryz.func257,Tryz.ntmps257
 go_wp2
 all_goals
  refine bm.out _ _ ⟨kL ?_,rfl⟩
  simp only[tab_at,wrap64]
 all_goals first
  | (have e:=vG (t:=x.toNat) (k:=24) aa
     have b:=lK (i:=x.toNat/2^24) aa
     rw[show (x/65536/256).toNat=x.toNat/2^24 by omega]
     omega)
  | (have e:=vG (t:=x.toNat) (k:=16) aa
     have b:=lK (i:=x.toNat/2^16) aa
     rw[show (x/65536).toNat=x.toNat/2^16 by omega]
     omega)
  | (have e:=vG (t:=x.toNat) (k:=8) aa
     have b:=lK (i:=x.toNat/2^8) aa
     rw[show (x/256).toNat=x.toNat/2^8 by omega]
     omega)
  | (have b:=lK (i:=x.toNat) aa
     omega)
theorem Hq (t:Nat) (w:World) (h1:t<4294967296):
  Calls Tryz.prog 257 #[.int .u32 (t:Int)] w λe w'=>e=.returned (.int .i64 (gi t:Int))/\w=w':=by
 have h:=Ho (t:Int) w aa aa
 rwa [Int.toNat_natCast] at h
theorem Bi (t:Nat) (w:World) (ht:t<4294967296) (h0:t≠0):
  Calls Tryz.prog 272 #[.int .u32 (t:Int)] w λe w'=>(∃ u:Nat,e=.returned (.int .i64 (u:Int))/\u<32/\t*2^u<4294967296)/\w=w':=by
 have hs:=uC t
 have hb:gi t<=32:=oN (k:=32) ht
 have mB:=qw h0
 refine aG λR' bm=> ?_
 go_enter Tryz.func272,Tryz.ntmps272
 go_wp2_with fail
 refine (Hq t _ ht).mono ?_
 rintro e w1 ⟨rfl,rfl⟩
 generalize gi t=L at*
 go_wp2_with fail
 refine bm.out _ _ ⟨⟨32-L,kL aa,by omega,?_⟩,rfl⟩
 have h1:t*2^(32-L)<2^L*2^(32-L):=Nat.mul_lt_mul_of_pos_right hs (Nat.pow_pos aa)
 rw[<-Nat.pow_add,show L+(32-L)=32 by omega] at h1
 exact h1
def vH (w:World) (B n m:Nat) (xs ys:List Nat) (v iv:Value) (wr:World):Prop:=
 ∃ (i:Nat) (os:List Nat),i<=n/\iv=.int .i64 (i:Int)/\os.length=n+m/\bS os/\(∀ j,i+m<=j->∀ x,os[j]? =some x->x=0)/\ag os=ag (xs.take i)*ag ys/\
   wr.ownsRow B 78 1 v (n+m) (ints .u32 os)/\Below B w wr
def Bj (w:World) (B n m i S x:Nat) (ys:List Nat) (v cv kv:Value) (wr:World):Prop:=
 ∃ (k c:Nat) (os:List Nat),k<=m/\kv=.int .i64 (k:Int)/\cv=.int .u64 (c:Int)/\c<4294967296/\os.length=n+m/\bS os/\(∀ j,i+m<=j->∀ x,os[j]? =some x->x=0)/\
   ag os+4294967296^(i+k)*c=S+4294967296^i*(x*ag (ys.take k))/\wr.ownsRow B 78 1 v (n+m) (ints .u32 os)/\Below B w wr
theorem Ka {os:List Nat} {i m j v:Nat} (h:∀ j,i+m<=j->∀ x,os[j]? =some x->x=0) (hj:j<i+m):∀ l,i+m<=l->∀ x,(os.set j v)[l]? =some x->x=0:=λl hl x hx=>by
 rw[List.getElem?_set_ne aa] at hx
 exact h l hl x hx
theorem Bj.step {w wr:World} {B n m i S x y o k c g cap:Nat} {ys os:List Nat} {q r:Int} (hk:k<m) (_:i<n) (hl:os.length=n+m) (vI:bS os) (hz:∀ j,i+m<=j->∀ x,os[j]? =some x->x=0)
  (hv:ag os+4294967296^(i+k)*c=S+4294967296^i*(x*ag (ys.take k))) (az:wr.ownsRow B 78 1 (.slice (some ⟨g,0,none⟩) (n+m) cap) (n+m) (ints .u32 os)) (hb:Below B w wr)
  (hy:ys[k]? =some y) (ho:os[i+k]? =some o) (jv:x<4294967296) (uq:y<4294967296) (yw:c<4294967296) (hq:q=(((x*y+o+c)%4294967296:Nat):Int)) (hr:r=(((x*y+o+c)/4294967296:Nat):Int)):
  Bj w B n m i S x ys (.slice (some ⟨g,0,none⟩) (n+m) cap) (.int .u64 r) (.int .i64 ((k:Int)+1)) (wr.setCell ⟨g,i+k,none⟩ (.int .u32 q)):=by
 subst hq;subst hr
 have ho4:=vI.at ho
 have hs:=qC jv uq ho4 yw
 refine⟨k+1,(x*y+o+c)/4294967296,os.set (i+k) ((x*y+o+c)%4294967296),by omega,rfl,rfl,by omega,by simp[hl],vI.set (Nat.mod_lt _ aa) _,Ka hz aa,?_,Own.fp az,hb.setCell (Own.lt az).1 _⟩
 have h1:ag (ys.take (k+1))=ag (ys.take k)+4294967296^k*y:=by rw[aN,List.getD,hy];rfl
 rw[h1]
 exact Bf ho rfl hv
theorem vH.step {w wr:World} {B n m i x c g cap:Nat} {xs ys os:List Nat} {q:Int} (hi:i<n) (hl:os.length=n+m) (vI:bS os) (hz:∀ j,i+m<=j->∀ x,os[j]? =some x->x=0) (hm:ys.length=m)
  (hv:ag os+4294967296^(i+m)*c=ag (xs.take i)*ag ys+4294967296^i*(x*ag (ys.take m))) (az:wr.ownsRow B 78 1 (.slice (some ⟨g,0,none⟩) (n+m) cap) (n+m) (ints .u32 os)) (hb:Below B w wr)
  (hx:xs[i]? =some x) (yw:c<4294967296) (hq:q=(c:Int)):
  vH w B n m xs ys (.slice (some ⟨g,0,none⟩) (n+m) cap) (.int .i64 ((i:Int)+1)) (wr.setCell ⟨g,i+m,none⟩ (.int .u32 q)):=by
 subst hq
 obtain⟨o,ho⟩:∃ o,os[i+m]? =some o:=⟨_,List.getElem?_eq_getElem aa⟩
 obtain rfl:=hz (i+m) (Nat.le_refl _) o ho
 refine⟨i+1,os.set (i+m) c,by omega,rfl,by simp[hl],vI.set yw _,λj hj y hy=> ?_,?_,Own.fp az,hb.setCell (Own.lt az).1 _⟩
 ·rw[List.getElem?_set_ne aa] at hy
  exact hz j aa y hy
 ·have h1:=Be (v:=c) ho
  have h2:ag (xs.take (i+1))=ag (xs.take i)+4294967296^i*x:=by rw[aN,List.getD,hx];rfl
  rw[bc (Nat.le_of_eq hm)] at hv
  rw[h2,Nat.add_mul,Nat.mul_assoc]
  omega
set_option maxRecDepth 100000 in
theorem Kb (va vb:Value) (n m:Nat) (xs ys:List Nat) (w:World) (hr:Rd w 1 va n (ints .u32 xs)) (hs:Rd w 1 vb m (ints .u32 ys)) (hx:bS xs) (hy:bS ys) (hn:n<=536870912) (hm:m<=536870912):
  Calls Tryz.prog 167 #[va,vb] w λe w'=>∃ v',e=.returned v'/\w'.ownsRow w.heap.size 78 1 v' (limbs (ag xs*ag ys)).length (ints .u32 (limbs (ag xs*ag ys)))/\Below w.heap.size w w':=by
 obtain⟨p,c,rfl,eV,fm,ed⟩:=hr.u32
 obtain⟨q,d,rfl,Hm,DC,ju⟩:=hs.u32
 obtain⟨i0,hi,kP,mA,mN⟩:=info_parts iq
 have Hr:=Lib.hid hr
 have Hs:=Lib.hid hs
 have HLX:=Lib.hid hx
 have HLY:=Lib.hid hy
 have HX:=Lib.hid ed
 have HY:=Lib.hid ju
 obtain⟨B,hB⟩:∃ B,B=w.heap.size:=⟨_,rfl⟩
 have HB:=Lib.hid hB
 rw[<-hB]
 clear hr hs hx hy ed ju hB
 refine aG λR' bm=> ?_
 go_enter Tryz.func167,Tryz.ntmps167
 go_wp2_with (at_make;refine wpList_make_full _ rfl _ _ 23 rfl B 78 i0 (.int .u32 0) 1 Tryz.underlying23 hi kP mA .i64 .i64 _ _ (n+m) rfl rfl aa aa (by rw[mN];omega) (by unfold maxLen;omega) (Nat.le_of_eq HB.out) ?_;intro w1 az Hj)
 have DU:=Lib.hid (Own.made az)
 have Hb1:Hid (Below B w w1):=(Below.refl _ _).grown Hj (Nat.le_of_eq HB.out) (λk hk=>by cases hk)
 clear az Hj hi kP mA mN
 go_wp2_with fail
 go_loopw [20] (λiv wr=>vH w B n m xs ys (.slice (some ⟨w.heap.size,0,none⟩) (n+m) (n+m)) iv wr) (λiv _=>n-(intOf iv).toNat)
 case atStart=>exact⟨0,List.replicate (n+m) 0,Nat.zero_le _,rfl,by simp,dy.replicate aa _,λj _ x hx=>by rw[List.getElem?_replicate] at hx;split at hx <;> simp_all,by rw[vE];simp[dL],by simpa using DU.out,Hb1.out⟩
 case round=>
  obtain⟨i,os,tp,rfl,hl,vI,hz,hv,az,hb⟩:=hrel
  have HLO:=Lib.hid hl
  have HLIM:=Lib.hid vI
  have HZ:=Lib.hid hz
  have HV:=Lib.hid hv
  have HO:=Lib.hid az
  have fK:=Lib.hid hb
  have hsz:=hb.size
  clear hl vI hz hv az hb
  by_cases Ea:i<n
  ·obtain⟨b1,o1,x,rfl,aL,fq,ku⟩:=(Hr.out.ic HB.out fK.out).cellAt Ea
   have uI:=Lib.hid fq
   have jv:=HLX.out.at fq
   clear fq
   go_wp2_with fail
   obtain⟨wo,rfl⟩:∃ wo:World,wo=wr:=⟨_,rfl⟩
   go_loopw [8,27] (λcv kv wr'=>Bj w B n m i (ag (xs.take i)*ag ys) x ys (.slice (some ⟨w.heap.size,0,none⟩) (n+m) (n+m)) cv kv wr') (λ_ kv _=>m-(intOf kv).toNat)
   case atStart=>exact⟨0,0,os,Nat.zero_le _,rfl,rfl,by omega,HLO.out,HLIM.out,HZ.out,by rw[HV.out];simp[dL],HO.out,fK.out⟩
   case round=>
    obtain⟨k,c',os',DV,rfl,rfl,yw,Ht,Bk,hz',hv',hown',hb'⟩:=hrel
    have HLO':=Lib.hid Ht
    have Bl:=Lib.hid Bk
    have HZ':=Lib.hid hz'
    have HV':=Lib.hid hv'
    have HO':=Lib.hid hown'
    have Kd:=Lib.hid hb'
    clear Ht Bk hz' hv' hown' hb'
    obtain⟨o,ho,hco,hfo⟩:=Own.fD HO'.out (j:=i+k) aa
    have HOK:=Lib.hid ho
    have ho4:=Bl.out.at ho
    clear ho
    by_cases hklt:k<m
    ·obtain⟨b2,o2,y,rfl,aY,mo,xH⟩:=(Hs.out.ic HB.out Kd.out).cellAt hklt
     have FN:=Lib.hid mo
     have uq:=HLY.out.at mo
     clear mo
     have hsm:=qC jv uq ho4 yw
     have m0:0<=(x:Int)*(y:Int):=by rw[<-Int.natCast_mul];omega
     have m1:(x:Int)*(y:Int)+(o:Int)+(c':Int)<18446744073709551616:=by rw[<-Int.natCast_mul];omega
     have Hu:IntKind.i64.wrap ((i:Int)+(k:Int))=((i+k:Nat):Int):=by rw[IntWalk.i64_in _ aa];simp
     clear hsm
     go_wp2_with fail
     go_roundw
     case rel=>
      first
      | exact Bj.step hklt Ea HLO'.out Bl.out HZ'.out HV'.out HO'.out Kd.out FN.out HOK.out jv uq yw dU dU
      | ((repeat apply Exists.intro);exact⟨Bj.step hklt Ea HLO'.out Bl.out HZ'.out HV'.out HO'.out Kd.out FN.out HOK.out jv uq yw dU dU,rfl⟩)
     case measure=>simp[intOf];omega
    ·obtain rfl:k=m:=by omega
     have Hu:IntKind.i64.wrap ((i:Int)+(k:Int))=((i+k:Nat):Int):=by rw[IntWalk.i64_in _ aa];simp
     go_wp2_with fail
     go_roundw
     case rel=>
      first
      | exact vH.step Ea HLO'.out Bl.out HZ'.out HY.out HV'.out HO'.out Kd.out uI.out yw rfl
      | ((repeat apply Exists.intro);exact⟨vH.step Ea HLO'.out Bl.out HZ'.out HY.out HV'.out HO'.out Kd.out uI.out yw rfl,rfl⟩)
     case measure=>simp[intOf];omega
  ·obtain rfl:i=n:=by omega
   go_wp2_with fail
   refine (iB _ (i+m) os _ (Rd.own HO.out) HLIM.out aa).mono ?_
   rintro e w2 ⟨v',rfl,jG,aY⟩
   go_wp2_with fail
   have h:=HV.out
   rw[bc (Nat.le_of_eq HX.out)] at h
   rw[h] at jG
   exact bm.out _ _ ⟨v',rfl,Own.mono jG (by have:=HB.out;omega),fK.out.trans (aY.mono (by have:=HB.out;omega))⟩
end
section
open Go.RowKit
def Bm (w:World) (U2 v1 V U:Nat) (qv rv:Value) (wr:World):Prop:=
 ∃ q r dn:Nat,qv=.int .u64 (q:Int)/\rv=.int .u64 (r:Int)/\q*v1+r=U2/\r<4294967296/\(∀ t:Nat,t<=4294967295->t*V<=U->t<=q)/\wr=w.drewN dn
theorem zO {B U2 v1 v2 low:Nat} (xz:0<v1) (hl:low<B) (t:Nat) (h:t*(v1*B+v2)<=U2*B+low):t<=U2/v1:=by
 rw[Nat.le_div_iff_mul_le xz]
 rw[Nat.mul_add,<-Nat.mul_assoc] at h
 have h1:t*v1*B<(U2+1)*B:=by rw[Nat.add_mul];omega
 have:=Nat.lt_of_mul_lt_mul_right h1
 omega
theorem Bn {U2 v1 v2 low:Nat} (xz:0<v1) (hl:low<4294967296):∀ t:Nat,t<=4294967295->t*(v1*4294967296+v2)<=U2*4294967296+low->t<=U2/v1:=λt _ h=>zO xz hl t h
theorem vJ {B q v1 v2 r U2 low:Nat} (h:q*v1+r=U2) (hf:q*v2<=r*B+low):q*(v1*B+v2)<=U2*B+low:=by
 subst h
 rw[Nat.mul_add,<-Nat.mul_assoc,Nat.add_mul]
 omega
theorem Eb {B q v1 v2 r U2 low:Nat} (h:q*v1+r=U2) (hf:r*B+low<q*v2):U2*B+low<q*(v1*B+v2):=by
 subst h
 rw[Nat.mul_add,<-Nat.mul_assoc,Nat.add_mul]
 omega
theorem Bo {q V U:Nat} (hV:0<V) (hq:q<=4294967295) (hf:q*V<=U) (hm:∀ t:Nat,t<=4294967295->t*V<=U->t<=q):q=fP U V:=
 Nat.le_antisymm (yv hV hq hf) (hm _ (Nat.min_le_left _ _) Bg)
theorem Bp {q v1 v2 r U2 low:Nat} (h:q*v1+r=U2) (hr:4294967296<=r) (hU:U2<v1*4294967296+4294967296) (hv2:v2<4294967296):q<=4294967295/\q*v2<=r*4294967296+low:=by
 have h1:q*v1<4294967296*v1:=by omega
 have h2:q<4294967296:=Nat.lt_of_mul_lt_mul_right h1
 have h3:q*v2<=4294967295*4294967295:=Nat.mul_le_mul aa aa
 omega
set_option maxRecDepth 100000 in
theorem Hv (hi mid low v1 v2:Nat) (w:World) (hhi:hi<=v1) (lI:mid<4294967296) (hlow:low<4294967296) (h1:0<v1) (h14:v1<4294967296) (h2:v2<4294967296):
  Calls Tryz.prog 274 #[.int .u32 (hi:Int),.int .u32 (mid:Int),.int .u32 (low:Int),.int .u32 (v1:Int),.int .u32 (v2:Int)] w λe w'=>
   e=.returned (.int .u64 (fP ((hi*4294967296+mid)*4294967296+low) (v1*4294967296+v2):Int))/\∃ k,w'=w.drewN k:=by
 have hhi4:hi<4294967296:=by omega
 have vt:bits BinOp.or IntKind.u64 ((hi:Int)*4294967296) (mid:Int)=((hi*4294967296+mid:Nat):Int):=by
  have e1:((hi:Int)*4294967296)=((hi*4294967296:Nat):Int):=by simp
  rw[e1,u64_or_nat _ _ aa aa,nat_join 32 _ _ aa aa]
 obtain⟨U2,hU2⟩:∃ U2,U2=hi*4294967296+mid:=⟨_,rfl⟩
 have hU:U2<v1*4294967296+4294967296:=by omega
 rw[<-hU2] at vt ⊢
 have xJ:((v1:Int) != 0)=true:=by rw[bne_iff_ne];omega
 have hV:0<v1*4294967296+v2:=by omega
 obtain⟨V,hVe⟩:∃ V,V=v1*4294967296+v2:=⟨_,rfl⟩
 obtain⟨U,hUe⟩:∃ U,U=U2*4294967296+low:=⟨_,rfl⟩
 rw[<-hVe,<-hUe]
 rw[<-hVe] at hV
 have HV:=Lib.hid hVe
 have HU:=Lib.hid hUe
 have HST:Hid (∀ t:Nat,t<=4294967295->t*V<=U->t<=U2/v1):=by rw[hVe,hUe];exact Bn h1 hlow
 have HUU:=Lib.hid hU
 have DC:=Nat.div_add_mod U2 v1
 have rU:=Nat.mod_lt U2 h1
 have hU64:U2<18446744073709551616:=by omega
 have d1:((U2/v1:Nat):Int)=(U2:Int)/(v1:Int):=by simp
 have d2:((U2%v1:Nat):Int)=(U2:Int)%(v1:Int):=by simp
 have dl:(U2:Int)/(v1:Int)<18446744073709551616:=by rw[<-d1];have:=Nat.div_le_self U2 v1;omega
 have dl0:0<=(U2:Int)/(v1:Int):=Int.ediv_nonneg aa aa
 have dm0:0<=(U2:Int)%(v1:Int):=Int.emod_nonneg _ aa
 have dm1:(U2:Int)%(v1:Int)<4294967296:=by rw[<-d2];omega
 have HDM:=Lib.hid DC
 have JV:=Lib.hid rU
 have HD1:=Lib.hid d1
 have HD2:=Lib.hid d2
 clear hVe hUe hU DC rU d1 d2 hU2
 refine aG λR' bm=> ?_
 go_enter Tryz.func274,Tryz.ntmps274
 go_wp2_with fail
 go_step3
 go_wp2_with fail
 go_quiet (fail)
 go_wp2_with fail
 go_step3
 go_wp2_with fail
 go_loopw [12,13] (λqv rv wr=>Bm w U2 v1 V U qv rv wr) (λqv _ _=>(intOf qv).toNat)
 case atStart=>exact⟨U2/v1,U2%v1,_,by rw[HD1.out],by rw[HD2.out],by rw[Nat.mul_comm];exact HDM.out,Nat.lt_trans JV.out h14,HST.out,rfl⟩
 case round=>
  obtain⟨q,r,dn,rfl,rfl,hqr,hr,hmax,rfl⟩:=hrel
  have HQR:=Lib.hid hqr
  have HMAX:=Lib.hid hmax
  have hq64:(q:Int)<18446744073709551616:=by
   have h3:q*1<=q*v1:=Nat.mul_le_mul_left _ h1
   omega
  have hr64:(r:Int)+(v1:Int)<18446744073709551616:=by omega
  clear hqr hmax dl dl0 dm0 dm1 vt
  have next:(∀ t:Nat,t<=4294967295->t*V<=U->t<=q-1)->1<=q->r+v1<4294967296->Bm w U2 v1 V U (.int .u64 ((q:Int)-1)) (.int .u64 ((r:Int)+(v1:Int))) (w.drewN dn):=λa b c=>
   ⟨q-1,r+v1,dn,by rw[show ((q-1:Nat):Int)=(q:Int)-1 by omega],by simp,by
    have h3:=HQR.out
    obtain⟨k,rfl⟩:∃ k,q=k+1:=⟨q-1,by omega⟩
    rw[Nat.add_mul] at h3
    simp only[Nat.add_sub_cancel]
    omega,c,a,rfl⟩
  have stop:(∀ t:Nat,t<=4294967295->t*V<=U->t<=q-1)->1<=q->4294967296<=r+v1->(q:Int)-1=(fP U V:Int):=λa b c=>by
   have h3:=HQR.out
   obtain⟨k,rfl⟩:∃ k,q=k+1:=⟨q-1,by omega⟩
   have h4:k*v1+(r+v1)=U2:=by rw[Nat.add_mul] at h3;omega
   obtain⟨h5,h6⟩:=Bp (low:=low) h4 c HUU.out h2
   have h7:k=fP U V:=Bo hV h5 (by rw[HV.out,HU.out];exact vJ h4 h6) (by simpa using a)
   omega
  have HNEXT:=Lib.hid next
  have HSTOP:=Lib.hid stop
  clear next stop
  by_cases hqB:4294967296<=q
  ·have c1:4294967295<(q:Int):=by omega
   have hA:Hid (∀ t:Nat,t<=4294967295->t*V<=U->t<=q-1):=λt ht _=>by omega
   have c2:0<=(q:Int)-1:=by omega
   by_cases Bc:r+v1<4294967296
   ·have c3:decide (4294967295<(r:Int)+(v1:Int))=false:=decide_eq_false aa
    go_wp2_with fail
    go_roundw
    case rel=>exact HNEXT.out hA.out aa Bc
    case measure=>simp[intOf];omega
   ·have c3:4294967295<(r:Int)+(v1:Int):=by omega
    go_wp2_with fail
    exact bm.out _ _ ⟨kL (HSTOP.out hA.out aa aa),_,rfl⟩
  ·have c1:(q:Int)<=4294967295:=by omega
   have m2:q*v2<=4294967295*4294967295:=Nat.mul_le_mul aa aa
   have m0:0<=(q:Int)*(v2:Int):=by rw[<-Int.natCast_mul];omega
   have m1:(q:Int)*(v2:Int)<18446744073709551616:=by rw[<-Int.natCast_mul];omega
   have vt:bits BinOp.or IntKind.u64 ((r:Int)*4294967296) (low:Int)=((r*4294967296+low:Nat):Int):=by
    have e1:((r:Int)*4294967296)=((r*4294967296:Nat):Int):=by simp
    rw[e1,u64_or_nat _ _ aa aa,nat_join 32 _ _ aa aa]
   obtain⟨RL,hRL⟩:∃ RL,RL=r*4294967296+low:=⟨_,rfl⟩
   rw[<-hRL] at vt
   have HRL:=Lib.hid hRL
   by_cases hc:RL<q*v2
   ·have cc:(RL:Int)<(q:Int)*(v2:Int):=by rw[<-Int.natCast_mul];omega
    have hq1:1<=q:=by
     rcases Nat.eq_zero_or_pos q with h|h
     ·subst h;rw[Nat.zero_mul] at hc;omega
     ·exact h
    have hA:Hid (∀ t:Nat,t<=4294967295->t*V<=U->t<=q-1):=λt ht hf=>by
     have h3:=HMAX.out t ht hf
     have h4:=Eb (B:=4294967296) (low:=low) HQR.out (by rw[<-hRL];exact hc)
     rw[<-HV.out,<-HU.out] at h4
     have h5:t≠q:=λe=>by subst e;omega
     omega
    have c2:0<=(q:Int)-1:=by omega
    clear m2 hc hRL
    by_cases Bc:r+v1<4294967296
    ·have c3:decide (4294967295<(r:Int)+(v1:Int))=false:=decide_eq_false aa
     go_wp2_with fail
     go_roundw
     case rel=>exact HNEXT.out hA.out aa Bc
     case measure=>simp[intOf];omega
    ·have c3:4294967295<(r:Int)+(v1:Int):=by omega
     go_wp2_with fail
     exact bm.out _ _ ⟨kL (HSTOP.out hA.out aa aa),_,rfl⟩
   ·have cc:decide ((RL:Int)<(q:Int)*(v2:Int))=false:=decide_eq_false (by rw[<-Int.natCast_mul];omega)
    have cx:decide (4294967295<(q:Int))=false:=decide_eq_false aa
    have he:q=fP U V:=Bo hV aa (by rw[HV.out,HU.out];exact vJ HQR.out (by rw[<-hRL];omega)) HMAX.out
    have HE:=Lib.hid he
    clear m2 hc hRL he c1
    go_wp2_with fail
    exact bm.out _ _ ⟨by rw[<-HE.out];rfl,_,rfl⟩
end
section
open Go.RowKit
theorem Rd.qD {w w':World} {g sz n:Nat} {v:Value} {cs:List Value} (h:Rd w sz v n cs) (hg:w.grownBy w' (some g)) (hne:∀ p c a,v=.slice p n c->p=some a->a.block≠g):Rd w' sz v n cs:=by
 obtain⟨p,c,rfl,h1,h2,h3,h4⟩:=h
 refine⟨p,c,rfl,h1,h2,h3,λhn=> ?_⟩
 obtain⟨b,off,hp,hc⟩:=h4 hn
 refine⟨b,off,hp,λj u hj=> ?_⟩
 exact hg.cell (hc j u hj) (λe=>hne p c _ rfl hp (by simpa using e))
theorem kA (w:World) (row:Option Nat):w.grownBy w row:=⟨rfl,rfl,rfl,Nat.le_refl _,λ_ _ _=>rfl⟩
theorem xK {a b c:World} {row:Option Nat} (h:a.grownBy b row) (k:b.grownBy c row):a.grownBy c row:=
 ⟨k.os.trans h.os,k.tape.trans h.tape,k.output.trans h.output,Nat.le_trans h.size k.size,λj hj hne=>(k.block j (Nat.lt_of_lt_of_le hj h.size) hne).trans (h.block j hj hne)⟩
theorem lL {w wr:World} {g j:Nat} {u:Value} (h:w.grownBy wr (some g)):w.grownBy (wr.setCell ⟨g,j,none⟩ u) (some g):=
 ⟨h.os,h.tape,h.output,by simpa [World.setCell] using h.size,λk hk hne=>(Below.heap_setCell wr ⟨g,j,none⟩ u k (λe=>hne (by rw[e]))).trans (h.block k hk hne)⟩
theorem uJ {pre D A post:List Nat} {i k a:Nat} (hp:pre.length=i) (hD:D.length=k) (ha:A[k]? =some a):(pre++(D++(A.drop k++post)))[i+k]? =some a:=by
 subst hp;subst hD
 obtain⟨hl,he⟩:=List.getElem?_eq_some_iff.1 ha
 rw[List.getElem?_append_right aa,Nat.add_sub_cancel_left,List.getElem?_append_right (Nat.le_refl _),Nat.sub_self,List.drop_eq_getElem_cons hl,List.cons_append,List.getElem?_cons_zero,he]
theorem FR {pre D A post:List Nat} {i k x:Nat} (hp:pre.length=i) (hD:D.length=k) (hl:k<A.length):(pre++(D++(A.drop k++post))).set (i+k) x=pre++((D++[x])++(A.drop (k+1)++post)):=by
 subst hp;subst hD
 rw[List.set_append_right _ _ aa,Nat.add_sub_cancel_left,List.set_append_right _ _ (Nat.le_refl _),Nat.sub_self,List.drop_eq_getElem_cons hl,List.cons_append,List.set_cons_zero,List.append_assoc];rfl
theorem qE (n:Int):IntKind.u64.wrap n=n%18446744073709551616:=by simp[IntKind.wrap,IntKind.bits,IntKind.signed]
theorem Bq {a lo r:Nat} (ha:a<4294967296) (hl:lo<4294967296) (hr:r<=1):∃ S1 S2 x r':Nat,IntKind.u64.wrap ((a:Int)-(lo:Int))=(S1:Int)/\IntKind.u64.wrap ((S1:Int)-(r:Int))=(S2:Int)/\
  (S2:Int)%4294967296=(x:Int)/\(S2:Int)/9223372036854775808=(r':Int)/\r'<=1/\x<4294967296/\a+4294967296*r'=x+lo+r/\S1<18446744073709551616/\S2<18446744073709551616:=by
 refine⟨(((a:Int)-lo)%18446744073709551616).toNat,(((a:Int)-lo-r)%18446744073709551616).toNat,(((a:Int)-lo-r)%4294967296).toNat,(if lo+r<=a then 0 else 1),?_,?_,?_,?_,?_,?_,?_,?_,?_⟩
 ·rw[qE];omega
 ·rw[qE];omega
 ·omega
 ·split <;> omega
 ·split <;> omega
 ·omega
 ·split <;> omega
 ·omega
 ·omega
def qF (w:World) (B g N cap L q:Nat) (pre A post ys:List Nat) (cv bv kv:Value) (wr:World):Prop:=
 ∃ (k c r:Nat) (D:List Nat),k<=L/\kv=.int .i64 (k:Int)/\cv=.int .u64 (c:Int)/\bv=.int .u64 (r:Int)/\c<4294967296/\r<=1/\D.length=k/\bS D/\
   ag D+q*ag (ys.take k)=ag (A.take k)+4294967296^k*(c+r)/\4294967296^k*c<=q*ag (ys.take k)/\
   wr.ownsRow B 78 1 (.slice (some ⟨g,0,none⟩) N cap) N (ints .u32 (pre++(D++(A.drop k++post))))/\w.grownBy wr (some g)
theorem qF.step {w wr:World} {B g N cap i L q k c r y a x r' P:Nat} {pre A post ys D:List Nat} {xi ci ri:Int} (hk:k<L) (hA:A.length=L) (Br:pre.length=i) (hD:D.length=k) (vI:bS D)
  (hv:ag D+q*ag (ys.take k)=ag (A.take k)+4294967296^k*(c+r)) (hc:4294967296^k*c<=q*ag (ys.take k))
  (az:wr.ownsRow B 78 1 (.slice (some ⟨g,0,none⟩) N cap) N (ints .u32 (pre++(D++(A.drop k++post))))) (hg:w.grownBy wr (some g))
  (hy:ys.getD k 0=y) (ha:A[k]? =some a) (hP:P=q*y+c) (hP64:P<18446744073709551616) (jv:x<4294967296) (ur:r'<=1) (he:a+4294967296*r'=x+P%4294967296+r)
  (hxi:xi=(x:Int)) (Jr:ci=((P/4294967296:Nat):Int)) (Hw:ri=(r':Int)):
  qF w B g N cap L q pre A post ys (.int .u64 ci) (.int .u64 ri) (.int .i64 ((k:Int)+1)) (wr.setCell ⟨g,i+k,none⟩ (.int .u32 xi)):=by
 subst hxi;subst Jr;subst Hw;subst hP
 have h1:=Own.fp (j:=i+k) (x:=x) az
 rw[FR Br hD aa] at h1
 have e1:ag (ys.take (k+1))=ag (ys.take k)+4294967296^k*y:=by rw[aN,hy]
 have e2:ag (A.take (k+1))=ag (A.take k)+4294967296^k*a:=by rw[aN,List.getD,ha];rfl
 refine⟨k+1,(q*y+c)/4294967296,r',D++[x],by omega,rfl,rfl,rfl,by omega,ur,by simp[hD],vI.append (bS.cons jv bS.nil),?_,?_,h1,lL hg⟩
 ·rw[dw,hD,e1,e2,Nat.pow_succ]
  exact DZ hv he
 ·rw[e1,Nat.pow_succ,Nat.mul_add]
  have h3:4294967296^k*4294967296*((q*y+c)/4294967296)<=4294967296^k*(q*y+c):=by
   rw[Nat.mul_assoc];exact Nat.mul_le_mul_left _ (Nat.mul_div_le _ _)
  rw[Nat.mul_add,Nat.mul_left_comm] at h3
  omega
def qG (w:World) (B g N cap L:Nat) (pre A post ys:List Nat) (cv kv:Value) (wr:World):Prop:=
 ∃ (k c:Nat) (D:List Nat),k<=L/\kv=.int .i64 (k:Int)/\cv=.int .u32 (c:Int)/\c<=1/\D.length=k/\bS D/\
   ag D+4294967296^k*c=ag (A.take k)+ag (ys.take k)/\
   wr.ownsRow B 78 1 (.slice (some ⟨g,0,none⟩) N cap) N (ints .u32 (pre++(D++(A.drop k++post))))/\w.grownBy wr (some g)
theorem qG.step {w wr:World} {B g N cap i L k c y a:Nat} {pre A post ys D:List Nat} (hk:k<L) (hA:A.length=L) (Br:pre.length=i) (hD:D.length=k) (vI:bS D) (hc:c<=1)
  (hv:ag D+4294967296^k*c=ag (A.take k)+ag (ys.take k))
  (az:wr.ownsRow B 78 1 (.slice (some ⟨g,0,none⟩) N cap) N (ints .u32 (pre++(D++(A.drop k++post))))) (hg:w.grownBy wr (some g))
  (hy:ys.getD k 0=y) (ha:A[k]? =some a) (ha4:a<4294967296) (uq:y<4294967296):
  qG w B g N cap L pre A post ys (.int .u32 (((a+y+c)/4294967296:Nat):Int)) (.int .i64 ((k:Int)+1)) (wr.setCell ⟨g,i+k,none⟩ (.int .u32 (((a+y+c)%4294967296:Nat):Int))):=by
 have h1:=Own.fp (j:=i+k) (x:=(a+y+c)%4294967296) az
 rw[FR Br hD aa] at h1
 have e1:ag (ys.take (k+1))=ag (ys.take k)+4294967296^k*y:=by rw[aN,hy]
 have e2:ag (A.take (k+1))=ag (A.take k)+4294967296^k*a:=by rw[aN,List.getD,ha];rfl
 refine⟨k+1,(a+y+c)/4294967296,D++[(a+y+c)%4294967296],by omega,rfl,rfl,by omega,by simp[hD],vI.append (bS.cons (Nat.mod_lt _ aa) bS.nil),?_,h1,lL hg⟩
 rw[dw,hD,e1,e2,Nat.pow_succ]
 exact AX _ _ a y c _ _ _ hv rfl
def TookAt (w w':World) (B g N cap:Nat) (pre A post ys:List Nat) (q q':Nat):Prop:=
 ∃ A':List Nat,A'.length=A.length/\bS A'/\ag A' +q' *ag ys=ag A/\(q*ag ys<=ag A/\q'=q\/ag A<q*ag ys/\q' +1=q)/\
   w'.ownsRow B 78 1 (.slice (some ⟨g,0,none⟩) N cap) N (ints .u32 (pre++(A'++post)))/\w.grownBy w' (some g)
set_option maxRecDepth 100000 in
theorem Ke (g N cap i L capw n q B:Nat) (pre A post ys:List Nat) (vb:Value) (w:World) (az:w.ownsRow B 78 1 (.slice (some ⟨g,0,none⟩) N cap) N (ints .u32 (pre++(A++post))))
  (Br:pre.length=i) (hA:A.length=L) (hlA:bS A) (hs:Rd w 1 vb n (ints .u32 ys)) (kJ:bS ys) (hne:∀ p c a,vb=.slice p n c->p=some a->a.block≠g) (hL:L=n+1) (hLc:L<=capw) (hcw:capw<=9223372036854775807)
  (hq:q<4294967296) (hqb:q*ag ys<=ag A+ag ys):
  Calls Tryz.prog 275 #[.slice (some ⟨g,i,none⟩) L capw,vb,.int .u64 (q:Int)] w λe w'=>∃ q':Nat,e=.returned (.int .u32 (q':Int))/\TookAt w w' B g N cap pre A post ys q q':=by
 obtain⟨p,c,rfl,eV,fm,ju⟩:=hs.u32
 have Hs:=Lib.hid hs
 have Js:=Lib.hid hlA
 have HLY:=Lib.hid kJ
 have HNE:=Lib.hid hne
 have HO:=Lib.hid az
 have HA:=Lib.hid hA
 have HP:=Lib.hid Br
 have HY:=Lib.hid ju
 have HQB:=Lib.hid hqb
 have HLL:=Lib.hid hL
 clear hs hlA kJ hne az hA Br ju hqb hL
 refine aG λR' bm=> ?_
 go_enter Tryz.func275,Tryz.ntmps275
 go_wp2_with fail
 go_loopw [7,8,18] (λcv bv kv wr=>qF w B g N cap L q pre A post ys cv bv kv wr) (λ_ _ kv _=>L-(intOf kv).toNat)
 case atStart=>exact⟨0,0,0,[],Nat.zero_le _,rfl,rfl,rfl,by omega,by omega,rfl,bS.nil,by simp[dL],by simp,by simpa using HO.out,kA _ _⟩
 case round=>
  obtain⟨k,c,r,D,hkL,rfl,rfl,rfl,yw,pk,hD,hlD,hv,hcc,az,hg⟩:=hrel
  have HD:=Lib.hid hD
  have yp:=Lib.hid hlD
  have HV:=Lib.hid hv
  have HCC:=Lib.hid hcc
  have HOW:=Lib.hid az
  have HG:=Lib.hid hg
  clear hD hlD hv hcc az hg
  by_cases FU:k<L
  ·obtain⟨a,ha⟩:∃ a,A[k]? =some a:=⟨_,List.getElem?_eq_getElem (by rw[HA.out];exact FU)⟩
   have ha4:=Js.out.at ha
   have HAK:=Lib.hid ha
   have hlt:i+k<N:=by
    have h1:=HOW.out.1
    have h2:=(List.getElem?_eq_some_iff.1 (uJ (post:=post) HP.out HD.out ha)).1
    simp at h1 h2
    omega
   obtain⟨a',ha',hca,hfa⟩:=Own.fD HOW.out (j:=i+k) hlt
   rw[uJ HP.out HD.out ha] at ha'
   obtain rfl:=Option.some.inj ha'
   have xy:=fJ hca
   simp only at xy
   clear ha ha'
   by_cases hkn:k<n
   ·obtain⟨b2,o2,y,rfl,aY,mo,xH⟩:=(Hs.out.qD HG.out HNE.out).cellAt hkn
    have FN:Hid (ys.getD k 0=y):=by show _=_;rw[List.getD,mo];rfl
    have uq:=HLY.out.at mo
    clear mo
    have m3:q*y<=4294967295*4294967295:=Nat.mul_le_mul aa aa
    have m0:0<=(q:Int)*(y:Int):=by rw[<-Int.natCast_mul];omega
    have m1:(q:Int)*(y:Int)<18446744073709551616:=by rw[<-Int.natCast_mul];omega
    obtain⟨P,hP⟩:∃ P,P=q*y+c:=⟨_,rfl⟩
    have hP64:P<18446744073709551616:=by omega
    have hPi:(q:Int)*(y:Int)+(c:Int)=(P:Int):=by rw[hP];simp
    obtain⟨lo,Jo⟩:∃ lo,lo=P%4294967296:=⟨_,rfl⟩
    have hlo4:lo<4294967296:=by omega
    have hloi:(P:Int)%4294967296=(lo:Int):=by omega
    obtain⟨S1,S2,x,r',f1,f2,f3,f4,f5,f6,f7,f8,f9⟩:=Bq ha4 hlo4 pk
    have HF7:=Lib.hid f7
    have HPE:=Lib.hid hP
    have HLO:=Lib.hid Jo
    clear m3 hP Jo f7
    go_wp2_with fail
    go_roundw
    case rel=>exact qF.step FU HA.out HP.out HD.out yp.out HV.out HCC.out HOW.out HG.out FN.out HAK.out HPE.out hP64 f6 f5 (by rw[<-HLO.out];exact HF7.out) rfl dU rfl
    case measure=>simp[intOf];omega
   ·have FN:Hid (ys.getD k 0=0):=by show _=_;rw[List.getD,List.getElem?_eq_none (by rw[HY.out];omega)];rfl
    obtain⟨S1,S2,x,r',f1,f2,f3,f4,f5,f6,f7,f8,f9⟩:=Bq ha4 yw pk
    have HF7:=Lib.hid f7
    clear f7
    go_wp2_with fail
    go_roundw
    case rel=>exact qF.step FU HA.out HP.out HD.out yp.out HV.out HCC.out HOW.out HG.out FN.out HAK.out (P:=c) dU aa f6 f5 (by rw[Nat.mod_eq_of_lt yw];exact HF7.out) rfl (by first|rfl|(simp;omega)|omega) rfl
    case measure=>simp[intOf];omega
  ·obtain rfl:k=L:=by omega
   have hpow:q*ag ys<4294967296^k:=by
    have h1:=im HLY.out
    rw[HY.out] at h1
    have h2:q*ag ys<=4294967295*ag ys:=Nat.mul_le_mul_right _ aa
    have h3:4294967296^k=4294967296^n*4294967296:=by rw[HLL.out,Nat.pow_succ]
    omega
   have hyt:ag (ys.take k)=ag ys:=bc (by rw[HY.out,HLL.out];omega)
   have uK:ag (A.take k)=ag A:=bc (by rw[HA.out];omega)
   have hv:=HV.out
   have hcc:=HCC.out
   rw[hyt] at hv hcc
   rw[uK] at hv
   have hDl:=im yp.out
   rw[HD.out] at hDl
   obtain rfl:c=0:=by
    rcases Nat.eq_zero_or_pos c with h|h
    ·exact h
    ·have:4294967296^k*1<=4294967296^k*c:=Nat.mul_le_mul_left _ h
     omega
   rw[Nat.zero_add] at hv
   have HV2:=Lib.hid hv
   have HPW:=Lib.hid hpow
   have Ec:=Lib.hid hDl
   have hOW:=HOW.out
   rw[List.drop_of_length_le (by rw[HA.out];omega),List.nil_append] at hOW
   have HOW2:=Lib.hid hOW
   clear hv hcc hpow hyt uK hDl hOW HOW HCC HV
   rcases (show r=0\/r=1 by omega) with rfl|rfl
   ·go_wp2_with fail
    refine bm.out _ _ ⟨q,?_,D,by rw[HD.out,HA.out],yp.out,by have:=HV2.out;omega,.inl ⟨by have:=HV2.out;omega,rfl⟩,HOW2.out,HG.out⟩
    first|rfl|exact kL aa
   ·have hq1:1<=q:=by
     rcases Nat.eq_zero_or_pos q with h|h
     ·have h1:=HV2.out;have h2:=Ec.out;rw[h,Nat.zero_mul] at h1;omega
     ·exact h
    go_wp2_with fail
    rw[show ((0:Nat):Int)=0 from rfl,show ((1:Nat):Int)=1 from rfl]
    obtain⟨wo,rfl⟩:∃ wo:World,wo=wr:=⟨_,rfl⟩
    go_loopw [13,62] (λcv kv wr'=>qG wo B g N cap k pre D post ys cv kv wr') (λ_ kv _=>k-(intOf kv).toNat)
    case atStart=>exact⟨0,0,[],Nat.zero_le _,rfl,rfl,by omega,rfl,bS.nil,by simp[dL],by simpa using HOW2.out,kA _ _⟩
    case round=>
     obtain⟨l,c,E,hlk,rfl,rfl,kS,hE,hlE,hvE,az,hg⟩:=hrel
     have HE:=Lib.hid hE
     have HLE:=Lib.hid hlE
     have HVE:=Lib.hid hvE
     have HOW:=Lib.hid az
     have HG2:=Lib.hid hg
     clear hE hlE hvE az hg
     by_cases hlt:l<k
     ·obtain⟨a,ha⟩:∃ a,D[l]? =some a:=⟨_,List.getElem?_eq_getElem (by rw[HD.out];exact hlt)⟩
      have ha4:=yp.out.at ha
      have HAK:=Lib.hid ha
      have hlN:i+l<N:=by
       have h1:=HOW.out.1
       have h2:=(List.getElem?_eq_some_iff.1 (uJ (post:=post) HP.out HE.out ha)).1
       simp at h1 h2
       omega
      obtain⟨a',ha',hca,hfa⟩:=Own.fD HOW.out (j:=i+l) hlN
      rw[uJ HP.out HE.out ha] at ha'
      obtain rfl:=Option.some.inj ha'
      have xy:=fJ hca
      simp only at xy
      clear ha ha'
      by_cases JL:l<n
      ·obtain⟨b2,o2,y,rfl,aY,mo,xH⟩:=((Hs.out.qD HG.out HNE.out).qD HG2.out HNE.out).cellAt JL
       have FN:Hid (ys.getD l 0=y):=by show _=_;rw[List.getD,mo];rfl
       have uq:=HLY.out.at mo
       clear mo
       go_wp2_with fail
       refine (kM a y c _ ha4 uq aa).mono ?_
       rintro e w2 ⟨rfl,rfl⟩
       go_wp2_with fail
       go_roundw
       case rel=>exact qG.step hlt HD.out HP.out HE.out HLE.out kS HVE.out HOW.out HG2.out FN.out HAK.out ha4 uq
       case measure=>simp[intOf];omega
      ·have FN:Hid (ys.getD l 0=0):=by show _=_;rw[List.getD,List.getElem?_eq_none (by rw[HY.out];omega)];rfl
       go_wp2_with fail
       refine (kM a 0 c _ ha4 aa aa).mono ?_
       rintro e w2 ⟨rfl,rfl⟩
       go_wp2_with fail
       go_roundw
       case rel=>exact qG.step hlt HD.out HP.out HE.out HLE.out kS HVE.out HOW.out HG2.out FN.out HAK.out ha4 aa
       case measure=>simp[intOf];omega
     ·obtain rfl:l=k:=by omega
      have hve:=HVE.out
      rw[bc (by rw[HD.out];omega),bc (by rw[HY.out,HLL.out];omega)] at hve
      have hEl:=im HLE.out
      rw[HE.out] at hEl
      have hOW:=HOW.out
      rw[List.drop_of_length_le (by rw[HD.out];omega),List.nil_append] at hOW
      have hv2:=HV2.out
      have hqb:=HQB.out
      obtain⟨m,rfl⟩:∃ m,q=m+1:=⟨q-1,by omega⟩
      rw[Nat.add_mul,Nat.one_mul] at hv2 hqb
      have Kf:ag E+m*ag ys=ag A:=by
       rcases (show c=0\/c=1 by omega) with rfl|rfl
       ·omega
       ·omega
      have Kg:ag A<(m+1)*ag ys:=by
       rw[Nat.add_mul,Nat.one_mul]
       have:=Ec.out
       omega
      have HFIN:=Lib.hid Kf
      have HLT2:=Lib.hid Kg
      have HOW3:=Lib.hid hOW
      clear hve hEl hOW hv2 hqb Kf Kg
      have hm:((m+1:Nat):Int)-1=(m:Int):=by omega
      go_wp2_with fail
      refine bm.out _ _ ⟨m,?_,E,by rw[HE.out,HA.out],HLE.out,HFIN.out,.inr ⟨HLT2.out,rfl⟩,HOW3.out,xK HG.out HG2.out⟩
      first|rfl|exact kL aa
end
section
theorem getD_some {xs:List Nat} {k x:Nat} (h:xs[k]? =some x):xs.getD k 0=x:=by rw[List.getD,h];rfl
theorem Hx {A:List Nat} {m a0 a1 a2:Nat} (hl:A.length=m+3) (h0:A[m]? =some a0) (h1:A[m+1]? =some a1) (h2:A[m+2]? =some a2):
  ag A=((a2*4294967296+a1)*4294967296+a0)*4294967296^m+ag (A.take m):=by
 have e0:=aN A m
 have e1:=aN A (m+1)
 have e2:=aN A (m+2)
 rw[getD_some h0] at e0
 rw[getD_some h1,e0,Nat.pow_succ] at e1
 rw[getD_some h2,e1,Nat.pow_succ,Nat.pow_succ,bc aa] at e2
 rw[e2]
 generalize 4294967296^m=p
 rw[Nat.add_mul,Nat.add_mul,Nat.add_mul]
 rw[show a2*4294967296*4294967296*p=p*4294967296*4294967296*a2 by ac_rfl]
 rw[show a1*4294967296*p=p*4294967296*a1 by rw[Nat.mul_comm p,Nat.mul_comm _ a1,Nat.mul_assoc]]
 rw[Nat.mul_comm a0 p]
 omega
theorem top_two {Y:List Nat} {m v1 v2:Nat} (hl:Y.length=m+2) (h2:Y[m]? =some v2) (h1:Y[m+1]? =some v1):ag Y=(v1*4294967296+v2)*4294967296^m+ag (Y.take m):=by
 have e0:=aN Y m
 have e1:=aN Y (m+1)
 rw[getD_some h2] at e0
 rw[getD_some h1,e0,Nat.pow_succ,bc aa] at e1
 rw[e1]
 generalize 4294967296^m=p
 rw[Nat.add_mul]
 rw[show v1*4294967296*p=p*4294967296*v1 by rw[Nat.mul_comm p,Nat.mul_comm _ v1,Nat.mul_assoc]]
 rw[Nat.mul_comm v2 p]
 omega
theorem mW {xs:List Nat} (h:bS xs) {m:Nat} (hm:m<=xs.length):ag (xs.take m)<4294967296^m:=by
 have:=im (h.take m)
 rwa [List.length_take,Nat.min_eq_left hm] at this
structure Window (us ys:List Nat) (i m b hi mid low v1 v2:Nat) (A post:List Nat):Prop where
 split:us=us.take i++(A++post)
 pre:(us.take i).length=i
 len:A.length=m+3
 lim:bS A
 zero:ag post=0
 lt:ag A<4294967296*b
 hi_le:hi<=v1
 near:ag A/b<=fP ((hi*4294967296+mid)*4294967296+low) (v1*4294967296+v2)/\fP ((hi*4294967296+mid)*4294967296+low) (v1*4294967296+v2)<=ag A/b+1
theorem Hy {us ys:List Nat} {i m b hi mid low v1 v2 N:Nat} (hN:us.length=N) (hlt:i+(m+2)<N) (hu:bS us) (hy:bS ys) (ju:ys.length=m+2) (hb:ag ys=b) (hd:ag (us.drop (i+1))<b)
  (h1:us[i+(m+2)]? =some hi) (h2:us[i+(m+1)]? =some mid) (h3:us[i+m]? =some low) (h4:ys[m+1]? =some v1) (h5:ys[m]? =some v2) (xz:0<v1):
  Window us ys i m b hi mid low v1 v2 ((us.drop i).take (m+3)) (us.drop (i+(m+3))):=by
 have hA:((us.drop i).take (m+3)).length=m+3:=by rw[List.length_take,List.length_drop];omega
 have hlA:bS ((us.drop i).take (m+3)):=(hu.drop i).take _
 have hsp:us.drop i=(us.drop i).take (m+3)++us.drop (i+(m+3)):=by
  rw[<-List.drop_drop];exact (List.take_append_drop _ _).symm
 have g0:((us.drop i).take (m+3))[m]? =some low:=by rw[List.getElem?_take,if_pos aa,List.getElem?_drop];exact h3
 have g1:((us.drop i).take (m+3))[m+1]? =some mid:=by rw[List.getElem?_take,if_pos aa,List.getElem?_drop];exact h2
 have g2:((us.drop i).take (m+3))[m+2]? =some hi:=by rw[List.getElem?_take,if_pos aa,List.getElem?_drop];exact h1
 have hyp:b<4294967296^(m+2):=by rw[<-hb,<-ju];exact im hy
 have hz:ag (us.drop (i+(m+3)))=0:=by
  have e:=vF (xs:=us.drop (i+1)) (m+2) (by rw[List.length_drop];omega)
  rw[List.drop_drop,show i+1+(m+2)=i+(m+3) by omega] at e
  rcases Nat.eq_zero_or_pos (ag (us.drop (i+(m+3)))) with h|h
  ·exact h
  ·have:4294967296^(m+2)*1<=4294967296^(m+2)*ag (us.drop (i+(m+3))):=Nat.mul_le_mul_left _ h
   omega
 have hAv:ag (us.drop i)=ag ((us.drop i).take (m+3)):=by
  conv=>lhs;rw[hsp]
  rw[dM,hz,Nat.mul_zero,Nat.add_zero]
 obtain⟨u0,Kh⟩:∃ u0,us[i]? =some u0:=⟨_,List.getElem?_eq_getElem aa⟩
 have hu04:=hu.at Kh
 have Ki:ag ((us.drop i).take (m+3))<4294967296*b:=by
  rw[<-hAv,oU Kh]
  omega
 have eA:=Hx hA g0 g1 g2
 have eY:=top_two ju h5 h4
 rw[hb] at eY
 have lA:=mW hlA (m:=m) aa
 have lY:=mW hy (m:=m) aa
 have hp:0<4294967296^m:=Nat.pow_pos aa
 refine⟨?_,by rw[List.length_take];omega,hA,hlA,hz,Ki,?_,DY hp eA lA eY lY aa Ki⟩
 ·rw[<-hsp];exact (List.take_append_drop _ _).symm
 ·-- hi<=v1
  rcases Nat.lt_or_ge v1 hi with h|h
  ·have k1:ag (us.drop (i+1))=ag ((us.drop (i+1)).take (m+1))+4294967296^(m+1)*ag ((us.drop (i+1)).drop (m+1)):=vF _ (by rw[List.length_drop];omega)
   rw[List.drop_drop,show i+1+(m+1)=i+(m+2) by omega,oU h1] at k1
   have hv2:=hy.at h5
   have k2:4294967296^(m+1)*hi<=ag (us.drop (i+1)):=by
    rw[k1,Nat.mul_add];omega
   have k3:b<4294967296^(m+1)*(v1+1):=by
    rw[eY,Nat.pow_succ]
    have k4:(v1*4294967296+v2+1)*4294967296^m<=((v1+1)*4294967296)*4294967296^m:=Nat.mul_le_mul_right _ aa
    rw[show 4294967296^m*4294967296*(v1+1)=((v1+1)*4294967296)*4294967296^m by rw[Nat.mul_comm,Nat.mul_comm (4294967296^m),Nat.mul_assoc]]
    rw[Nat.add_mul,Nat.one_mul] at k4
    omega
   have k5:4294967296^(m+1)*(v1+1)<=4294967296^(m+1)*hi:=Nat.mul_le_mul_left _ h
   omega
  ·exact h
theorem Ed {u b q q' r:Nat} (hb:0<b) (h1:u/b<=q) (h2:q<=u/b+1) (hv:r+q' *b=u) (h:q*b<=u/\q'=q\/u<q*b/\q' +1=q):q'=u/b/\r<b:=by
 have hq:q'=u/b:=by
  rcases h with ⟨h3,rfl⟩|⟨h3,h4⟩
  ·have:=(Nat.le_div_iff_mul_le hb).2 h3;omega
  ·have:¬ q<=u/b:=λhc=>by have:=(Nat.le_div_iff_mul_le hb).1 hc;omega
   omega
 refine⟨hq,?_⟩
 have e:=Nat.div_add_mod u b
 have m:=Nat.mod_lt u hb
 rw[Nat.mul_comm,<-hq] at e
 omega
theorem Bs {u b q:Nat} (h:q<=u/b+1):q*b<=u+b:=by
 have h1:q*b<=(u/b+1)*b:=Nat.mul_le_mul_right _ h
 have h2:=Nat.div_mul_le_self u b
 rw[Nat.add_mul,Nat.one_mul] at h1
 omega
theorem Ee {us pre A A' post qs:List Nat} {i b q' a:Nat} (hsp:us=pre++(A++post)) (Br:pre.length=i) (hz:ag post=0) (hv:ag A' +q' *b=ag A) (hlt:ag A' <b)
  (ha:ag us+4294967296^(i+1)*(b*ag qs)=a):
  ag ((pre++(A'++post)).drop i)<b/\ag (pre++(A'++post))+4294967296^i*(b*ag (q'::qs))=a:=by
 subst hsp
 constructor
 ·rw[List.drop_append_of_le_length aa,List.drop_of_length_le aa,List.nil_append,dM,hz,Nat.mul_zero,Nat.add_zero];exact hlt
 ·rw[dM,dM,hz,Nat.mul_zero,Nat.add_zero] at ha
  rw[dM,dM,hz,Nat.mul_zero,Nat.add_zero,eO,<-ha,<-hv,Br,Nat.mul_add b,Nat.mul_add,Nat.mul_add,Nat.pow_succ]
  rw[Nat.mul_comm q' b,show 4294967296^i*(b*(4294967296*ag qs))=4294967296^i*4294967296*(b*ag qs) by rw[Nat.mul_assoc,Nat.mul_left_comm b]]
  omega
theorem zP {qs:List Nat} {k x:Nat}:(List.replicate (k+1) 0++qs).set k x=List.replicate k 0++x::qs:=by
 rw[List.replicate_succ',List.append_assoc,List.set_append_right _ _ dU,List.length_replicate,Nat.sub_self];rfl
theorem Bt {b t u:Nat} (hb:b≠0) (ht:(limbs b)[(limbs b).length-1]? =some t) (hu:u<32) (htu:t*2^u<4294967296):(limbs (b*2^u)).length=(limbs b).length:=by
 have hn:=cO hb
 have hp:0<2^u:=Nat.pow_pos aa
 refine Nat.le_antisymm (iQ _ _ ?_) (bX (Nat.le_mul_of_pos_right _ hp))
 obtain⟨n,hl⟩:∃ n,(limbs b).length=n+1:=⟨(limbs b).length-1,by omega⟩
 rw[hl] at ht ⊢
 simp only[Nat.add_sub_cancel] at ht
 have e:=aN (limbs b) n
 rw[getD_some ht,bc aa,ai] at e
 have l:=mW (aj b) (m:=n) aa
 have h1:b<4294967296^n*(t+1):=by rw[Nat.mul_add];omega
 have h2:(t+1)*2^u<=4294967296:=by
  have h3:4294967296=2^u*2^(32-u):=by rw[<-Nat.pow_add,show u+(32-u)=32 by omega]
  rw[h3,Nat.mul_comm t] at htu
  have h4:=Nat.lt_of_mul_lt_mul_left htu
  rw[Nat.mul_comm]
  calc 2^u*(t+1)<=2^u*2^(32-u):=Nat.mul_le_mul_left _ h4
   _=4294967296:=h3.symm
 have h5:b*2^u<4294967296^n*(t+1)*2^u:=Nat.mul_lt_mul_of_pos_right h1 hp
 have h6:4294967296^n*(t+1)*2^u<=4294967296^n*4294967296:=by rw[Nat.mul_assoc];exact Nat.mul_le_mul_left _ h2
 rw[Nat.pow_succ]
 omega
theorem Hz {a b u:Nat}:(a*2^u)/(b*2^u)=a/b:=Nat.mul_div_mul_right a b (Nat.pow_pos aa)
theorem HF {a b u:Nat}:(a*2^u)%(b*2^u)=(a%b)*2^u:=Nat.mul_mod_mul_right (2^u) a b
end
section
open Go.RowKit
def Divided (w w':World) (a b:Nat) (e:Ending):Prop:=
 (b=0/\e=.returned (.tuple #[.slice none 0 0,.slice none 0 0,.int .i64 20]))\/
 (b≠0/\∃ vq vr,e=.returned (.tuple #[vq,vr,.int .i64 0])/\w'.ownsRow w.heap.size 78 1 vq (limbs (a/b)).length (ints .u32 (limbs (a/b)))/\w'.ownsRow w.heap.size 78 1 vr (limbs (a%b)).length (ints .u32 (limbs (a%b))))
def Kj (w:World) (B N cap n m b a ga:Nat) (vy vq:Value) (iv:Value) (wr:World):Prop:=
 ∃ (k:Nat) (us qs:List Nat),k<=m/\iv=.int .i64 ((k:Int)-1)/\us.length=N/\bS us/\ag (us.drop k)<b/\qs.length=m-k/\bS qs/\ag us+4294967296^k*(b*ag qs)=a/\
   wr.ownsRow B 78 1 (.slice (some ⟨ga,0,none⟩) N cap) N (ints .u32 us)/\wr.ownsRow B 78 1 vq m (ints .u32 (List.replicate k 0++qs))/\Rd wr 1 vy n (ints .u32 (limbs b))/\Below B w wr
theorem vK {w:World} {g j:Nat} {u:Value}:w.grownBy (w.setCell ⟨g,j,none⟩ u) (some g):=lL (kA _ _)
theorem Ef {P:Program} {f:FuncId} {args:Array Value} {W w:World} {v:Value} (h:Calls P f args W λe w'=>e=.returned v/\∃ k,w'=W.drewN k) (hW:∃ n,W=w.drewN n):
  Calls P f args W λe w''=>e=.returned v/\∃ m,w''=w.drewN m:=
 h.mono λ_ _ ⟨he,k,hk⟩=>⟨he,by obtain⟨n,hn⟩:=hW;exact⟨n+k,by rw[hk,hn,World.drewN_drewN]⟩⟩
theorem Eg {w w':World} (h:w.grownBy w' none):Below w.heap.size w w':=⟨h.os,h.tape,h.output,h.size,λk hk=>h.block k hk dU⟩
theorem HI {a b N mq lb:Nat} (hN:N=(limbs a).length+1) (hm:N=mq+lb) (DG:(limbs b).length=lb) (hb:b≠0):ag ((limbs a++[0]).drop mq)<b/\ag (limbs a++[0])=a:=by
 have hp:=cO hb
 refine⟨?_,by rw[dw,Nat.mul_zero,ai];rfl⟩
 rw[List.drop_append_of_le_length aa,dw,Nat.mul_zero,Nat.add_zero]
 have h1:=im ((aj a).drop mq)
 rw[List.length_drop,show (limbs a).length-mq=(limbs b).length-1 by omega] at h1
 exact Nat.lt_of_lt_of_le h1 (zD hb)
set_option maxRecDepth 100000 in
theorem tq (va vb:Value) (n m:Nat) (xs ys:List Nat) (w:World) (hr:Rd w 1 va n (ints .u32 xs)) (hs:Rd w 1 vb m (ints .u32 ys)) (hx:bS xs) (hy:bS ys) (hn:n<=536870912) (hm:m<=536870912):
  Calls Tryz.prog 206 #[va,vb] w λe w'=>Divided w w' (ag xs) (ag ys) e/\Below w.heap.size w w':=by
 obtain⟨p,c,rfl,eV,fm,ed⟩:=hr.u32
 obtain⟨q,d,rfl,Hm,DC,ju⟩:=hs.u32
 have Hs:=Lib.hid hs
 obtain⟨B,hB⟩:∃ B,B=w.heap.size:=⟨_,rfl⟩
 have HB:=Lib.hid hB
 obtain⟨a,ha⟩:∃ a,a=ag xs:=⟨_,rfl⟩
 obtain⟨b,hb⟩:∃ b,b=ag ys:=⟨_,rfl⟩
 have hal:(limbs a).length<=n:=by rw[ha,<-ed];exact gz hx
 have hbl:(limbs b).length<=m:=by rw[hb,<-ju];exact gz hy
 refine aG λR' bm=> ?_
 go_enter Tryz.func206,Tryz.ntmps206
 go_wp2_with fail
 refine (iB _ n xs _ hr hx aa).mono ?_
 rintro e w1 ⟨v1,rfl,eT,aL⟩
 rw[<-ha] at eT
 go_wp2_with fail
 refine (iB _ m ys _ (hs.below aL) hy aa).mono ?_
 rintro e w2 ⟨v2,rfl,jG,aY⟩
 rw[<-hb] at jG
 rw[<-ha,<-hb,<-hB] at bm
 have ql:Hid (w2.ownsRow B 78 1 v1 (limbs a).length (ints .u32 (limbs a))):=by show World.ownsRow ..;rw[hB];exact Own.below eT aY
 have mr:Hid (w2.ownsRow B 78 1 v2 (limbs b).length (ints .u32 (limbs b))):=Own.mono jG (by rw[hB];exact aL.size)
 have tr:Hid (Below B w w2):=by show Below ..;rw[hB];exact Below.aw aL aY
 have hBs:B<=w2.heap.size:=by rw[hB];exact tr.out.size
 obtain⟨p1,c1,rfl,_,hc1m,_⟩:=Own.form ql.out
 obtain⟨p2,c2,rfl,_,hc2m,_⟩:=Own.form mr.out
 clear hr hs hx hy eT jG aL aY ed ju ha hb hB Hs
 unfold maxLen at hc1m hc2m
 generalize Eh:(limbs a).length=la at*
 generalize DG:(limbs b).length=lb at*
 have Js:=Lib.hid Eh
 have Jt:=Lib.hid DG
 by_cases mB:b=0
 ·obtain rfl:lb=0:=by rw[mB,bn] at DG;exact DG.symm
  clear Eh DG
  go_wp2_with fail
  go_ret3
  exact bm.out _ _ ⟨.inl ⟨mB,rfl⟩,tr.out⟩
 ·have hlb0:lb≠0:=λh=>mB (mS (by rw[Jt.out];exact h))
  have hz:((lb:Int) == 0)=false:=by rw[beq_eq_false_iff_ne];omega
  have HNZ:=Lib.hid mB
  clear mB Eh DG
  go_wp2_with fail
  refine (zF _ _ la lb (limbs a) (limbs b) _ (Rd.own ql.out) (Rd.own mr.out) (aj a) (aj b)).mono ?_
  rintro e w3 ⟨rfl,k3,rfl⟩
  rw[ai,ai]
  by_cases uB:a<b
  ·have hc:fo a b<0:=iA.2 uB
   generalize fo a b=cv at hc ⊢
   go_wp2_with fail
   go_ret3
   refine bm.out _ _ ⟨.inr ⟨HNZ.out,_,_,rfl,?_,?_⟩,Below.drewN tr.out _⟩
   ·rw[Nat.div_eq_of_lt uB,bn];exact World.ownsRow_nil _ _ _ _
   ·rw[Nat.mod_eq_of_lt uB,Js.out];exact Own.mono (Own.drewN ql.out _) (by have:=HB.out;omega)
  ·have hc:0<=fo a b:=by have:=mt (@iA a b).1 uB;omega
   generalize fo a b=cv at hc ⊢
   have HAB:=Lib.hid uB
   have JS:=Lib.hid (Own.drewN ql.out k3)
   have HQ:=Lib.hid (Own.drewN mr.out k3)
   have Jq:=Lib.hid (Below.drewN tr.out k3)
   have Kk:B<=(w2.drewN k3).heap.size:=hBs
   clear ql mr tr hBs uB
   generalize w2.drewN k3=w3 at*
   by_cases hlb1:lb=1
   ·have HL1:=Lib.hid hlb1
    subst hlb1
    obtain⟨gb,ob,t,rfl,_,htk,hct⟩:=(Rd.own HQ.out).cellAt (k:=0) aa
    have ht4:=(aj b).at htk
    have htb:t=b:=by
     have h1:=aN (limbs b) 0
     rw[getD_some htk,bc (by rw[Jt.out];omega),ai] at h1
     simp[dL] at h1
     omega
    have HTB:=Lib.hid htb
    rw[Nat.add_zero] at hct
    have xy:=fJ hct
    simp only at xy
    clear htk htb hz hlb0
    go_wp2_with fail
    refine (qA _ la t (limbs a) _ (Rd.own JS.out) (aj a) aa ht4).mono ?_
    rintro e w4 ⟨⟨h,rfl⟩|⟨h,v4,rfl,qH⟩,gj⟩
    ·exact absurd (by rw[<-HTB.out];exact h) HNZ.out
    rw[ai] at qH ⊢
    have HO5:=Lib.hid (Own.mono qH Kk)
    have Kl:=Lib.hid (Jq.out.trans (gj.mono Kk))
    have HT:B<=w4.heap.size:=Nat.le_trans Kk gj.size
    have hrt:a%t<4294967296:=Nat.lt_trans (Nat.mod_lt _ aa) ht4
    obtain⟨r,hr⟩:∃ r,r=a%t:=⟨_,rfl⟩
    rw[<-hr] at hrt ⊢
    have HR:=Lib.hid hr
    clear qH gj hct xy h hr
    go_wp2_with fail
    refine (iB _ 1 [r] _ (Rd.lit1 rfl) (bS.cons hrt bS.nil) aa).mono ?_
    rintro e w5 ⟨v5,rfl,vL,nS⟩
    have iR:Below w4.heap.size w4 w5:=((Below.refl w4.heap.size w4).alloc (Nat.le_refl _) (.cells #[.int .u32 (r:Int)] 78)).trans (nS.mono dU)
    rw[show ag [r]=r by simp[eO,dL]] at vL
    go_wp2_with fail
    go_ret3
    refine bm.out _ _ ⟨.inr ⟨HNZ.out,_,_,rfl,?_,?_⟩,Kl.out.trans (iR.mono HT)⟩
    ·rw[<-HTB.out];exact Own.mono (Own.below HO5.out iR) (by have:=HB.out;omega)
    ·rw[<-HTB.out,<-HR.out];exact Own.mono vL (by have:=HB.out;simp;omega)
   ·obtain⟨mm,xL⟩:∃ mm,lb=mm+2:=⟨lb-2,by omega⟩
    have HMM:=Lib.hid xL
    have mA:((lb:Int) == 1)=false:=by rw[beq_eq_false_iff_ne];omega
    obtain⟨l1,vD⟩:∃ l1,lb=l1+1:=⟨lb-1,by omega⟩
    have HL1:=Lib.hid vD
    have hwl1:IntKind.i64.wrap ((lb:Int)-1)=(l1:Int):=by rw[IntWalk.i64_in _ aa];omega
    obtain⟨gb,ob,t,rfl,_,htk,hct⟩:=(Rd.own HQ.out).cellAt (k:=l1) aa
    have ht4:=(aj b).at htk
    have xy:=fJ hct
    simp only at xy
    have htk2:(limbs b)[(limbs b).length-1]? =some t:=by rw[Jt.out,HL1.out];exact htk
    have ht0:=(AZ htk2).2
    have HTK:=Lib.hid htk2
    have hl1lt:(l1:Int)<(lb:Int):=by omega
    clear htk htk2 hlb1 xL vD
    go_wp2_with fail
    refine (Bi t _ ht4 ht0).mono ?_
    rintro e w4 ⟨⟨u,rfl,hu32,htu⟩,rfl⟩
    go_wp2_with fail
    refine (sc _ lb b (u:Int) (limbs b) _ (Rd.own HQ.out) (aj b) (ai b) aa aa aa).mono ?_
    rintro e w4 ⟨⟨_,h,_⟩|⟨_,v4,rfl,qH⟩,gj⟩
    ·omega
    have es:fx b (u:Int)=b*2^u:=by unfold fx;rw[if_pos aa,Int.toNat_natCast]
    rw[es] at qH
    have FV:(limbs (b*2^u)).length=lb:=by rw[Bt HNZ.out HTK.out hu32 htu];exact Jt.out
    have hnz:b*2^u≠0:=Nat.mul_ne_zero HNZ.out (Nat.pos_iff_ne_zero.1 (Nat.pow_pos aa))
    have hle4:b*2^u<=a*2^u:=Nat.mul_le_mul_right _ (by have:=HAB.out;omega)
    have HDV:=Lib.hid (Hz (a:=a) (b:=b) (u:=u))
    have HMD:=Lib.hid (HF (a:=a) (b:=b) (u:=u))
    have hla5:=tn a u hu32
    rw[Js.out] at hla5
    have HES:Hid (fx ((a%b)*2^u) (-(u:Int))=a%b):=by
     show _=_
     unfold fx
     by_cases h0:u=0
     ·subst h0;simp
     ·rw[if_neg aa,Int.neg_neg,Int.toNat_natCast,Nat.mul_div_cancel _ (Nat.pow_pos aa)]
    have HES2:Hid (fx a (u:Int)=a*2^u):=by show _=_;unfold fx;rw[if_pos aa,Int.toNat_natCast]
    generalize hb':b*2^u=b' at*
    generalize ha':a*2^u=a' at*
    rw[FV] at qH
    have hlb5:lb<=(limbs a').length:=by rw[<-FV];exact bX hle4
    obtain⟨gy,cy,rfl,hgy3,hgy4⟩:=Own.uE qH aa
    have HY4:=Lib.hid qH
    have Kl:=Lib.hid (Jq.out.trans (gj.mono Kk))
    have HT:B<=w4.heap.size:=Nat.le_trans Kk gj.size
    have HA4:=Lib.hid (Own.below JS.out gj)
    have Bu:=Lib.hid FV
    clear qH gj htu ht0 ht4 hct xy FV hle4 es HTK JS HQ
    go_wp2_with fail
    refine (sc _ la a (u:Int) (limbs a) _ (Rd.own HA4.out) (aj a) (ai a) aa aa aa).mono ?_
    rintro e w5 ⟨⟨_,h,_⟩|⟨_,v5,rfl,vL⟩,iR⟩
    ·omega
    rw[HES2.out] at vL
    generalize hl5:(limbs a').length=la' at*
    have HL5:=Lib.hid hl5
    have HA5:=Lib.hid vL
    have HY5:=Lib.hid (Own.below HY4.out iR)
    have HB5:=Lib.hid (Kl.out.trans (iR.mono HT))
    have hs5:=iR.size
    have Km:=Lib.hid iR
    obtain⟨p5,c5,rfl,_,_,_⟩:=Own.form vL
    obtain⟨N,hN⟩:∃ N,N=la' +1:=⟨_,rfl⟩
    have HNN:=Lib.hid hN
    obtain⟨mq,hmq⟩:∃ mq,N=mq+lb:=⟨N-lb,by omega⟩
    have HMQ:=Lib.hid hmq
    have hmq0:0<mq:=by omega
    have hwm:IntKind.i64.wrap ((N:Int)-(lb:Int))=(mq:Int):=by rw[IntWalk.i64_in _ aa];omega
    obtain⟨i0,hi,kP,mA,mN⟩:=info_parts iq
    have hN30:N<=1073741824:=by omega
    have hla30:la'<=1073741824:=by omega
    have hmq30:mq<=1073741824:=by omega
    clear vL iR hl5 hmq HA4 hN
    go_wp2_with (first
     | (at_builtin;refine cW rfl _ _ 23 rfl w4.heap.size 78 i0 (.int .u32 0) 4 Tryz.underlying23 hi kP mA mN rfl HA5.out rfl rfl (d:=0) rfl aa aa hs5 ?_;intro v6 w6 FX Ei;rw[<-HNN.out] at FX;obtain⟨ga,ca,rfl,hga5,hga6⟩:=Own.uE FX (by have:=HNN.out;omega))
     | (at_make;refine wpList_make_full _ rfl _ _ 23 rfl B 78 i0 (.int .u32 0) 1 Tryz.underlying23 hi kP mA .i64 .i64 _ _ mq rfl rfl (by have:=HMQ.out;omega) (by have:=HMQ.out;omega) (by rw[mN];have:=HMQ.out;omega) (by unfold maxLen;have:=HMQ.out;omega) (by have:=(Ei w4 Km.out).size;omega) ?_;intro w7 hown7 hgr7))
    obtain⟨gq,hgq⟩:∃ gq,gq=w6.heap.size:=⟨_,rfl⟩
    have Kn:=Ei w4 Km.out
    have hb67:=Eg hgr7
    have FY:=Own.made hown7
    rw[List.nil_append] at FY
    rw[<-hgq] at FY ⊢
    have hne1:ga≠gq:=by omega
    have hne2:gy≠ga:=by omega
    have hne3:gy≠gq:=by have:=Kn.size;omega
    have HA7:Hid (w7.ownsRow B 78 1 (.slice (some ⟨ga,0,none⟩) N ca) N (ints .u32 (limbs a'++[0]))):=Own.mono (Own.below FX hb67) HT
    have HQ7:=Lib.hid FY
    have HY7:Hid (Rd w7 1 (.slice (some ⟨gy,0,none⟩) lb cy) lb (ints .u32 (limbs b'))):=(Rd.own (Own.below HY4.out Kn)).below hb67
    have HB7:Hid (Below B w w7):=(Kl.out.trans (Kn.mono HT)).trans (hb67.mono (Nat.le_trans HT Kn.size))
    have HST:=Lib.hid (HI (N:=N) (mq:=mq) (lb:=lb) (a:=a') (b:=b') (by rw[HL5.out];exact HNN.out) HMQ.out Bu.out hnz)
    clear FX hown7 hgr7 Ei Kn hb67 FY hgq HA5 HY5 HY4 HB5 Kl Km hi kP mA mN
    go_loopw [12] (λiv wr=>Kj w B N ca lb mq b' a' ga (.slice (some ⟨gy,0,none⟩) lb cy) (.slice (some ⟨gq,0,none⟩) mq mq) iv wr) (λiv _=>(intOf iv+1).toNat)
    case atStart=>exact⟨mq,_,[],Nat.le_refl _,rfl,by rw[List.length_append,HL5.out,HNN.out];rfl,(aj a').append (bS.cons aa bS.nil),HST.out.1,by simp,bS.nil,by rw[HST.out.2];simp[dL],HA7.out,by simpa using HQ7.out,HY7.out,HB7.out⟩
    case round=>
     obtain⟨k,us,qs,DV,rfl,zQ,hulim,Bd,hql,hqlim,hval,hoa,Bv,hry,iX⟩:=hrel
     have HUL:=Lib.hid zQ
     have vM:=Lib.hid hulim
     have HDROP:=Lib.hid Bd
     have HQL:=Lib.hid hql
     have HQLIM:=Lib.hid hqlim
     have HVAL:=Lib.hid hval
     have HOA:=Lib.hid hoa
     have HOQ:=Lib.hid Bv
     have HRY:=Lib.hid hry
     have fK:=Lib.hid iX
     clear zQ hulim Bd hql hqlim hval hoa Bv hry iX
     by_cases yu:k=0
     ·subst yu
      have hv:=HVAL.out
      have hd:=HDROP.out
      rw[List.drop_zero] at hd
      rw[Nat.pow_zero,Nat.one_mul] at hv
      have hq1:ag qs=a/b:=by
       rw[<-HDV.out,<-hv,Nat.add_mul_div_left _ _ aa,Nat.div_eq_of_lt hd,Nat.zero_add]
      have pk:ag us=(a%b)*2^u:=by
       rw[<-HMD.out,<-hv,Nat.add_mul_mod_self_left,Nat.mod_eq_of_lt hd]
      have HQ1:=Lib.hid hq1
      have HR1:=Lib.hid pk
      have hBr:B<=w.heap.size:=by have:=HB.out;omega
      have hBw:=fK.out.size
      clear hv hd hq1 pk
      go_wp2_with fail
      refine (sc _ N ((a%b)*2^u) (-(u:Int)) us _ (Rd.own HOA.out) vM.out HR1.out aa aa aa).mono ?_
      rintro e w8 ⟨⟨_,h,_⟩|⟨_,v8,rfl,yy⟩,Ko⟩
      ·omega
      rw[HES.out] at yy
      have HO8:=Lib.hid (Own.mono yy (Nat.le_trans hBr hBw))
      have HB8:=Lib.hid (fK.out.trans (Ko.mono (Nat.le_trans hBr hBw)))
      have hq8:=Own.below HOQ.out Ko
      rw[List.replicate_zero,List.nil_append] at hq8
      have HQ8:=Lib.hid hq8
      have hs8:=Ko.size
      clear yy Ko hq8
      go_wp2_with fail
      refine (iB _ mq qs _ (Rd.own HQ8.out) HQLIM.out aa).mono ?_
      rintro e w9 ⟨v9,rfl,hown9,AL⟩
      rw[HQ1.out] at hown9
      go_wp2_with fail
      go_ret3
      refine bm.out _ _ ⟨.inr ⟨HNZ.out,_,_,rfl,?_,?_⟩,HB8.out.trans (AL.mono aa)⟩
      ·exact Own.mono hown9 aa
      ·exact Own.mono (Own.below HO8.out AL) (by have:=HB.out;omega)
     ·obtain⟨i,hi⟩:∃ i,k=i+1:=⟨k-1,by omega⟩
      subst hi
      have hjj:((i+1:Nat):Int)-1=(i:Int):=by omega
      rw[hjj]
      have hmq:=HMQ.out
      have xL:=HMM.out
      have vD:=HL1.out
      obtain⟨hi,h1⟩:∃ hi,us[i+(mm+2)]? =some hi:=⟨_,List.getElem?_eq_getElem (by rw[HUL.out];omega)⟩
      obtain⟨mid,h2⟩:∃ mid,us[i+(mm+1)]? =some mid:=⟨_,List.getElem?_eq_getElem (by rw[HUL.out];omega)⟩
      obtain⟨low,h3⟩:∃ low,us[i+mm]? =some low:=⟨_,List.getElem?_eq_getElem (by rw[HUL.out];omega)⟩
      obtain⟨v1,h4⟩:∃ v1,(limbs b')[mm+1]? =some v1:=⟨_,List.getElem?_eq_getElem (by rw[Bu.out];omega)⟩
      obtain⟨v2,h5⟩:∃ v2,(limbs b')[mm]? =some v2:=⟨_,List.getElem?_eq_getElem (by rw[Bu.out];omega)⟩
      have xz:0<v1:=Nat.pos_iff_ne_zero.2 (AZ (n:=b') (t:=v1) (by rw[Bu.out,show lb-1=mm+1 by omega];exact h4)).2
      have hwin:=Hy (m:=mm) HUL.out aa vM.out (aj b') (by rw[Bu.out];exact xL) (ai b') HDROP.out h1 h2 h3 h4 h5 xz
      have zR:=Lib.hid hwin
      have hhi:=hwin.hi_le
      have z1:=vM.out.at h1
      have z2:=vM.out.at h2
      have z3:=vM.out.at h3
      have z4:=(aj b').at h4
      have z5:=(aj b').at h5
      obtain⟨x1,e1,c1',f1⟩:=Own.fD HOA.out (j:=i+(mm+2)) aa
      obtain⟨x2,e2,c2',f2⟩:=Own.fD HOA.out (j:=i+(mm+1)) aa
      obtain⟨x3,e3,c3',f3⟩:=Own.fD HOA.out (j:=i+mm) aa
      rw[h1] at e1;rw[h2] at e2;rw[h3] at e3
      obtain rfl:=Option.some.inj e1
      obtain rfl:=Option.some.inj e2
      obtain rfl:=Option.some.inj e3
      obtain⟨g4,o4,x4,hp4,jd,e4,c4'⟩:=HRY.out.cellAt (k:=mm+1) aa
      obtain⟨g5,o5,x5,hp5,hg5,e5,c5'⟩:=HRY.out.cellAt (k:=mm) aa
      simp only[Option.some.injEq,Addr.mk.injEq,and_true] at hp4 hp5
      obtain⟨rfl,rfl⟩:=hp4
      obtain⟨rfl,hz5⟩:=hp5
      subst hz5
      rw[h4] at e4;rw[h5] at e5
      obtain rfl:=Option.some.inj e4
      obtain rfl:=Option.some.inj e5
      rw[Nat.zero_add] at c4' c5'
      obtain⟨J0,hJ0⟩:∃ J0,J0=i+(mm+2):=⟨_,rfl⟩
      obtain⟨J1,hJ1⟩:∃ J1,J1=i+(mm+1):=⟨_,rfl⟩
      obtain⟨J2,hJ2⟩:∃ J2,J2=i+mm:=⟨_,rfl⟩
      rw[<-hJ0] at c1' f1;rw[<-hJ1] at c2' f2;rw[<-hJ2] at c3' f3
      rw[show mm+1=l1 by omega] at c4'
      obtain⟨J3,hJ3⟩:∃ J3,J3=J0+1:=⟨_,rfl⟩
      have hw0:IntKind.i64.wrap ((i:Int)+(lb:Int))=(J0:Int):=by rw[IntWalk.i64_in _ aa];omega
      have rV:IntKind.i64.wrap ((J0:Int)-1)=(J1:Int):=by rw[IntWalk.i64_in _ aa];omega
      have hw2:IntKind.i64.wrap ((J0:Int)-2)=(J2:Int):=by rw[IntWalk.i64_in _ aa];omega
      have hw4:IntKind.i64.wrap ((lb:Int)-2)=(mm:Int):=by rw[IntWalk.i64_in _ aa];omega
      have hw5:IntKind.i64.wrap ((J0:Int)+1)=(J3:Int):=by rw[IntWalk.i64_in _ aa];omega
      have b0:(J0:Int)<(N:Int):=by omega
      have b1:(J1:Int)<(N:Int):=by omega
      have b2:(J2:Int)<(N:Int):=by omega
      have b3:(l1:Int)<(lb:Int):=by omega
      have b4:(mm:Int)<(lb:Int):=by omega
      have t1:=fJ c1'
      have t4:=fJ c4'
      simp only at t1 t4
      have HJ0:=Lib.hid hJ0
      have HJ3:=Lib.hid hJ3
      have Ea:i<mq:=by omega
      have HCAP:Hid (N<=ca/\ca<=9223372036854775807):=by
       obtain⟨_,_,hv,Ej,hcapm,_⟩:=Own.form HOA.out
       simp only[Value.slice.injEq,true_and] at hv
       obtain⟨_,rfl⟩:=hv
       unfold maxLen at hcapm
       exact⟨Ej,by omega⟩
      clear e1 e2 e3 e4 e5 h1 h2 h3 h4 h5 hwin hJ0 hJ1 hJ2 hJ3 hmq xL vD jd hg5
      go_wp2_with fail
      go_quiet ((go_at_call 274;exact Ef (Hv hi mid low v1 v2 _ hhi z2 z3 xz z4 z5) ⟨_,rfl⟩))
      have Ej:=HCAP.out
      have b5:(J3:Int)<=(ca:Int):=by have:=HJ3.out;omega
      have b6:(i:Int)<=(J3:Int):=by have:=HJ3.out;have:=HJ0.out;omega
      have b7:(i:Int)<(ca:Int):=by have:=HJ3.out;have:=HJ0.out;omega
      have b8:¬ ca-i=0:=by omega
      have b9:ca≠i:=by omega
      clear c1' c2' c3' c4' c5' f1 f2 f3 rV hw2 hw4 b1 b2 b3 b4
      go_wp2_with fail
      obtain⟨G,hG⟩:∃ G,G=fP ((hi*4294967296+mid)*4294967296+low) (v1*4294967296+v2):=⟨_,rfl⟩
      have Bw:=zR.out.near
      rw[<-hG] at Bw ⊢
      have hG4:G<=4294967295:=by rw[hG];exact Nat.min_le_left _ _
      have hoa:=Own.drewN HOA.out nq
      rw[zR.out.split] at hoa
      have hJ:J3-i=mm+3:=by have:=HJ3.out;have:=HJ0.out;omega
      refine (Ke ga N ca i (J3-i) (ca-i) lb G B (us.take i) _ _ (limbs b') _ _ hoa zR.out.pre (by rw[zR.out.len,hJ]) zR.out.lim (Rd.drewN HRY.out nq) (aj b') (λp c a h1 h2=>by cases h1;cases h2;exact hne2) (by rw[hJ,HMM.out]) (by have:=HJ3.out;omega) aa aa (by rw[ai];exact Bs Bw.2)).mono ?_
      rintro e w8 ⟨q',rfl,A',hA'l,Kq,hA'v,hq',yy,hg8⟩
      rw[ai] at hA'v hq'
      have oH:0<b':=by omega
      obtain⟨hqd,Ki⟩:=Ed oH Bw.1 Bw.2 hA'v hq'
      have hq4:q' <4294967296:=by rcases hq' with ⟨_,h⟩|⟨_,h⟩ <;> omega
      have hst:=Ee zR.out.split zR.out.pre zR.out.zero hA'v Ki HVAL.out
      have hq8:=(Own.drewN HOQ.out nq).kept hg8 (.inr (by simp[Value.ownBlock];omega))
      have hry8:=(Rd.drewN HRY.out nq).qD hg8 (λp c a h1 h2=>by cases h1;cases h2;exact hne2)
      have hbw8:Below B w w8:=(Below.drewN fK.out nq).grown hg8 (Nat.le_trans (by have:=HB.out;omega) fK.out.size) (λk hk=>by cases hk;exact (Own.lt HOA.out).1)
      obtain⟨x8,hx8,hc8,hf8⟩:=Own.fD hq8 (j:=i) Ea
      have hl8:=fJ hc8
      simp only at hl8
      have hus':(us.take i++(A'++us.drop (i+(mm+3)))).length=N:=by
       have h1:=congrArg List.length zR.out.split
       rw[HUL.out] at h1
       simp only[List.length_append] at h1 ⊢
       omega
      have Bk:bS (us.take i++(A'++us.drop (i+(mm+3)))):=(vM.out.take _).append (Kq.append (vM.out.drop _))
      have hq9:=Own.fp (j:=i) (x:=q') hq8
      rw[zP] at hq9
      have HREL:Hid (Kj w B N ca lb mq b' a' ga (.slice (some ⟨gy,0,none⟩) lb cy) (.slice (some ⟨gq,0,none⟩) mq mq) (.int .i64 ((i:Int)-1)) (w8.setCell ⟨gq,i,none⟩ (.int .u32 (q':Int)))):=
       ⟨i,_,q'::qs,by omega,rfl,hus',Bk,hst.1,by rw[List.length_cons,HQL.out];omega,bS.cons hq4 HQLIM.out,hst.2,yy.kept vK (.inr (by simp[Value.ownBlock];omega)),hq9,hry8.qD vK (λp c a h1 h2=>by cases h1;cases h2;exact hne3),hbw8.setCell (p:=⟨gq,i,none⟩) (Own.lt hq8).1 _⟩
      clear hA'l Kq hA'v hq' yy hg8 hqd Ki hst hq8 hry8 hbw8 hx8 hus' Bk hq9 hoa Bw hG hJ
      go_wp2_with fail
      go_roundw
      case rel=>exact HREL.out
      case measure=>simp[intOf]
end
end Go.Proofs.YtlifeokjcgngjaaGreat
