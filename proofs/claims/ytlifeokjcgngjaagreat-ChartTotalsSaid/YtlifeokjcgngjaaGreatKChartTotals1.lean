/-yV of the proof,laid behind one another. -/
import Derived.Lib.Hide
import Derived.WalkKit
import Derived.WalkSpells
import Derived.WalkLawsBesides
import Derived.Outline
import Derived.Test.YtlifeokjcgngjaaGreatRows
import Derived.Deep.QuietTactic
import Derived.BigQuiet
import Derived.Lib.SliceRun
import Derived.Lib.AppendZeros
import Derived.RegionCalls
import Derived.Deep.RegionWith
import Derived.Lib.BitFns
import Derived.WalkMore
set_option linter.all false
set_option maxHeartbeats 64000000
namespace Go.Proofs.YtlifeokjcgngjaaGreat
section
def val (B:Nat):List Nat->Nat
 | []=>0
 | x::xs=>x+B*val B xs
def eu (B:Nat) (xs:List Nat):Prop:=∀ x∈xs,x<B
theorem aa {P:Prop} (h:P:=by omega):P:=h
def iz (B:Nat) (n:Nat):List Nat:=
 if _h:n=0\/B<2 then [] else n%B::iz B (n/B)
termination_by n
decreasing_by
 have:n≠0/\2<=B:=by omega
 exact Nat.div_lt_self aa aa
theorem val_nil (B:Nat):val B []=0:=rfl
theorem gD (B x:Nat) (xs:List Nat):val B (x::xs)=x+B*val B xs:=rfl
theorem ek (B:Nat):iz B 0=[]:=by rw[iz];simp
theorem iA {B n:Nat} (hB:2<=B) (hn:n≠0):iz B n=n%B::iz B (n/B):=by
 rw[iz,dif_neg aa]
theorem eu.nil (B:Nat):eu B []:=λ_ h=>by cases h
theorem eu.cons {B x:Nat} {xs:List Nat} (hx:x<B) (h:eu B xs):eu B (x::xs):=by
 intro y hy;cases hy with
 | head=>exact hx
 | tail _ h'=>exact h y h'
theorem eu.head {B x:Nat} {xs:List Nat} (h:eu B (x::xs)):x<B:=h x (List.mem_cons_self ..)
theorem eu.tail {B x:Nat} {xs:List Nat} (h:eu B (x::xs)):eu B xs:=λy hy=>h y (List.mem_cons_of_mem _ hy)
theorem eu.take {B:Nat} {xs:List Nat} (h:eu B xs) (k:Nat):eu B (xs.take k):=λy hy=>h y (List.mem_of_mem_take hy)
theorem eu.drop {B:Nat} {xs:List Nat} (h:eu B xs) (k:Nat):eu B (xs.drop k):=λy hy=>h y (List.mem_of_mem_drop hy)
theorem eu.append {B:Nat} {xs ys:List Nat} (h:eu B xs) (h':eu B ys):eu B (xs++ys):=by
 intro y hy;rcases List.mem_append.1 hy with hy|hy
 ·exact h y hy
 ·exact h' y hy
theorem eu.at {B:Nat} {xs:List Nat} (h:eu B xs) {k x:Nat} (hk:xs[k]? =some x):x<B:=h x (List.mem_of_getElem? hk)
theorem eu.replicate {B:Nat} (hB:0<B) (k:Nat):eu B (List.replicate k 0):=λy hy=>by
 rw[List.mem_replicate] at hy;omega
theorem nY {B:Nat} (hB:2<=B):∀ n,eu B (iz B n):=by
 intro n
 induction n using Nat.strongRecOn with
 | _ n ih=>
   by_cases hn:n=0
   ·subst hn;rw[ek];exact eu.nil B
   ·rw[iA hB hn]
    exact eu.cons (Nat.mod_lt _ aa) (ih _ (Nat.div_lt_self aa aa))
theorem kB {B:Nat} (hB:2<=B):∀ n,val B (iz B n)=n:=by
 intro n
 induction n using Nat.strongRecOn with
 | _ n ih=>
   by_cases hn:n=0
   ·subst hn;rw[ek];rfl
   ·rw[iA hB hn,gD,ih _ (Nat.div_lt_self aa aa)]
    exact Nat.mod_add_div n B
theorem nZ {B:Nat}:∀ {xs:List Nat},eu B xs->val B xs<B^xs.length:=by
 intro xs
 induction xs with
 | nil=>intro _;simp[val]
 | cons x xs ih=>
   intro h
   have h1:=ih h.tail
   have hx:=h.head
   rw[gD,List.length_cons,Nat.pow_succ,Nat.mul_comm (B^xs.length) B]
   calc x+B*val B xs<B+B*val B xs:=by omega
    _=B*(val B xs+1):=by rw[Nat.mul_add];omega
    _<=B*B^xs.length:=Nat.mul_le_mul_left _ h1
theorem jc (B:Nat):∀ (xs ys:List Nat),val B (xs++ys)=val B xs+B^xs.length*val B ys:=by
 intro xs ys
 induction xs with
 | nil=>simp[val]
 | cons x xs ih=>
   rw[List.cons_append,gD,ih,gD,List.length_cons,Nat.pow_succ,Nat.mul_add,Nat.add_assoc]
   congr 2
   rw[<-Nat.mul_assoc,Nat.mul_comm B (B^xs.length)]
theorem lT (B:Nat) (xs:List Nat) (x:Nat):val B (xs++[x])=val B xs+B^xs.length*x:=by
 rw[jc];simp[val]
theorem gR (B k:Nat):val B (List.replicate k 0)=0:=by
 induction k with
 | zero=>rfl
 | succ k ih=>rw[List.replicate_succ,gD,ih];simp
theorem ew {P:Prop} (h:P:=by simp):P:=h
theorem vO {B:Nat} (hB:2<=B):∀ {xs:List Nat},eu B xs->(∀ x,xs.getLast? =some x->x≠0)->iz B (val B xs)=xs:=by
 intro xs
 induction xs with
 | nil=>intro _ _;exact ek B
 | cons x xs ih=>
   intro hd hl
   have hx:=hd.head
   have hne:val B (x::xs)≠0:=by
    intro h0
    rw[gD] at h0
    have nG:x=0:=by omega
    cases xs with
    | nil=>exact hl x ew nG
    | cons y ys=>
      have hv:val B (y::ys)=0:=by
       have:B*val B (y::ys)=0:=by omega
       rcases Nat.mul_eq_zero.1 this with h|h
       ·omega
       ·exact h
      have:=ih hd.tail (λz hz=>hl z (by rw[List.getLast?_cons_cons];exact hz))
      rw[hv,ek] at this
      cases this
   rw[iA hB hne,gD]
   have h1:(x+B*val B xs)%B=x:=by rw[Nat.add_mul_mod_self_left];exact Nat.mod_eq_of_lt hx
   have h2:(x+B*val B xs)/B=val B xs:=by
    rw[Nat.add_mul_div_left _ _ aa,Nat.div_eq_of_lt hx];omega
   rw[h1,h2]
   congr 1
   cases xs with
   | nil=>exact ek B
   | cons y ys=>exact ih hd.tail (λz hz=>hl z (by rw[List.getLast?_cons_cons];exact hz))
theorem IW {B:Nat} (hB:2<=B):∀ n x,(iz B n).getLast? =some x->x≠0:=by
 intro n
 induction n using Nat.strongRecOn with
 | _ n ih=>
   intro x hx
   by_cases hn:n=0
   ·subst hn;rw[ek] at hx;cases hx
   ·rw[iA hB hn] at hx
    by_cases h2:n/B=0
    ·rw[h2,ek] at hx
     simp at hx
     have:n<B:=by
      rcases Nat.lt_or_ge n B with h|h
      ·exact h
      ·have:=Nat.div_pos h (by omega:0<B);omega
     rw[Nat.mod_eq_of_lt this] at hx
     omega
    ·rw[iA hB h2,List.getLast?_cons_cons,<-iA hB h2] at hx
     exact ih _ (Nat.div_lt_self aa aa) x hx
theorem vP {B:Nat} (hB:2<=B) {m n:Nat} (h:iz B m=iz B n):m=n:=by
 have:=congrArg (val B) h
 rwa [kB hB,kB hB] at this
theorem ff {B:Nat} (hB:2<=B):∀ (k n:Nat),n<B^k->(iz B n).length<=k:=by
 intro k
 induction k with
 | zero=>intro n h;have:n=0:=by simpa using h
         subst this;rw[ek];simp
 | succ k ih=>
   intro n h
   by_cases hn:n=0
   ·subst hn;rw[ek];simp
   ·rw[iA hB hn,List.length_cons]
    have:n/B<B^k:=by
     rw[Nat.div_lt_iff_lt_mul aa]
     rwa [Nat.pow_succ] at h
    have:=ih _ this
    omega
theorem vQ {B:Nat} (hB:2<=B) {k n:Nat} (h:B^k<=n):k<(iz B n).length:=by
 rcases Nat.lt_or_ge k (iz B n).length with h' |h'
 ·exact h'
 ·have h1:=nZ (nY hB n)
  rw[kB hB] at h1
  have:=Nat.pow_le_pow_right (show 0<B by omega) h'
  omega
theorem dL {B:Nat} (hB:2<=B) {m n:Nat} (h:m<=n):(iz B m).length<=(iz B n).length:=by
 apply ff hB
 have h1:=nZ (nY hB n)
 rw[kB hB] at h1
 omega
theorem zX {B:Nat} (hB:2<=B) {xs:List Nat} (h:eu B xs):(iz B (val B xs)).length<=xs.length:=
 ff hB _ _ (nZ h)
theorem BX {B:Nat} (hB:2<=B) (n:Nat):n<B^(iz B n).length:=by
 have h1:=nZ (nY hB n)
 rwa [kB hB] at h1
theorem tV {B:Nat} (hB:2<=B) {n:Nat} (hn:n≠0):B^((iz B n).length-1)<=n:=by
 rcases Nat.lt_or_ge n (B^((iz B n).length-1)) with h|h
 ·have h1:=ff hB _ _ h
  have h2:0<(iz B n).length:=by rw[iA hB hn];simp
  omega
 ·exact h
theorem zY {B:Nat} (hB:2<=B) {n:Nat}:iz B n=[]↔n=0:=by
 constructor
 ·intro h;exact vP hB (h.trans (ek B).symm)
 ·rintro rfl;exact ek B
theorem nH {B:Nat} (hB:2<=B) {n:Nat} (hn:n≠0):0<(iz B n).length:=by
 rw[iA hB hn];simp
theorem jq (B:Nat) (xs:List Nat) (k:Nat) (hk:k<=xs.length):val B xs=val B (xs.take k)+B^k*val B (xs.drop k):=by
 conv=>lhs;rw[<-List.take_append_drop k xs]
 rw[jc,List.length_take,Nat.min_eq_left hk]
theorem bG {α:Type} {xs:List α} {k:Nat} {x:α} (h:xs[k]? =some x):xs.take (k+1)=xs.take k++[x]:=by
 rw[List.take_add_one,h];rfl
theorem lf {B:Nat} {xs:List Nat} {k:Nat} (hk:xs[k]? =some 0):val B (xs.take (k+1))=val B (xs.take k):=by
 rw[bG hk,lT];simp
theorem kf {B:Nat} (hB:2<=B) {xs:List Nat} (hd:eu B xs) {m:Nat} (hm:m<=xs.length) (hv:val B (xs.take m)=val B xs) (hl:m=0\/∃ x,xs[m-1]? =some x/\x≠0):
  iz B (val B xs)=xs.take m:=by
 rw[<-hv]
 apply vO hB (hd.take m)
 intro x hx
 rcases hl with rfl|⟨y,hy,yl⟩
 ·simp at hx
 ·rw[List.getLast?_eq_getElem?,List.length_take,Nat.min_eq_left hm,List.getElem?_take] at hx
  split at hx
  ·rw[hy] at hx;cases hx;exact yl
  ·cases hx
theorem kC {B:Nat} {xs ys:List Nat} (hx:eu B xs) {k a b:Nat} (ha:xs[k]? =some a) (hb:ys[k]? =some b) (qd:a<b)
  (hh:xs.drop (k+1)=ys.drop (k+1)):val B xs<val B ys:=by
 have rj:k<xs.length:=(List.getElem?_eq_some_iff.1 ha).1
 have nM:k<ys.length:=(List.getElem?_eq_some_iff.1 hb).1
 rw[jq B xs (k+1) aa,jq B ys (k+1) aa,hh,bG ha,bG hb,lT,lT]
 have h1:=nZ (hx.take k)
 rw[List.length_take,Nat.min_eq_left aa] at h1 ⊢
 rw[List.length_take,Nat.min_eq_left aa]
 have h2:B^k*a+B^k<=B^k*b:=by
  calc B^k*a+B^k=B^k*(a+1):=by rw[Nat.mul_add];omega
   _<=B^k*b:=Nat.mul_le_mul_left _ qd
 omega
def aj (xs:List Nat):Nat:=val 4294967296 xs
def limbs (n:Nat):List Nat:=iz 4294967296 n
def cL (xs:List Nat):Prop:=eu 4294967296 xs
theorem cL.nil:cL []:=eu.nil _
theorem cL.cons {x:Nat} {xs:List Nat} (hx:x<4294967296) (h:cL xs):cL (x::xs):=eu.cons hx h
theorem cL.take {xs:List Nat} (h:cL xs) (k:Nat):cL (xs.take k):=eu.take h k
theorem cL.drop {xs:List Nat} (h:cL xs) (k:Nat):cL (xs.drop k):=eu.drop h k
theorem cL.append {xs ys:List Nat} (h:cL xs) (h':cL ys):cL (xs++ys):=eu.append h h'
theorem cL.at {xs:List Nat} (h:cL xs) {k x:Nat} (hk:xs[k]? =some x):x<4294967296:=eu.at h hk
theorem aA (n:Nat):cL (limbs n):=nY aa n
theorem ak (n:Nat):aj (limbs n)=n:=kB aa n
theorem bP:limbs 0=[]:=ek _
theorem eN:aj []=0:=rfl
theorem fH (x:Nat) (xs:List Nat):aj (x::xs)=x+4294967296*aj xs:=rfl
theorem er (xs:List Nat) (x:Nat):aj (xs++[x])=aj xs+4294967296^xs.length*x:=lT _ xs x
theorem eO (xs ys:List Nat):aj (xs++ys)=aj xs+4294967296^xs.length*aj ys:=jc _ xs ys
theorem jr {xs:List Nat} (h:cL xs):aj xs<4294967296^xs.length:=nZ h
theorem iB {xs:List Nat} (h:cL xs):(limbs (aj xs)).length<=xs.length:=zX aa h
theorem jL (k n:Nat) (h:n<4294967296^k):(limbs n).length<=k:=ff aa k n h
theorem uP {k n:Nat} (h:4294967296^k<=n):k<(limbs n).length:=vQ aa h
theorem mL (n:Nat):n<4294967296^(limbs n).length:=BX aa n
theorem zZ {n:Nat} (hn:n≠0):4294967296^((limbs n).length-1)<=n:=tV aa hn
theorem cY {m n:Nat} (h:m<=n):(limbs m).length<=(limbs n).length:=dL aa h
theorem IX {m n:Nat} (h:limbs m=limbs n):m=n:=vP aa h
theorem lG {n:Nat}:limbs n=[]↔n=0:=zY aa
theorem dM {n:Nat} (hn:n≠0):0<(limbs n).length:=nH aa hn
theorem oc {n:Nat} (h:(limbs n).length=0):n=0:=lG.1 (List.eq_nil_of_length_eq_zero h)
theorem qy {xs:List Nat} (h:cL xs) (hl:∀ x,xs.getLast? =some x->x≠0):limbs (aj xs)=xs:=vO aa h hl
theorem qz (n x:Nat) (h:(limbs n).getLast? =some x):x≠0:=IW aa n x h
def gh (a b:Nat):Int:=if a<b then-1 else if b<a then 1 else 0
theorem lg {a b:Nat} (h:a<b):gh a b= -1:=by simp[gh,h]
theorem lh {a b:Nat} (h:b<a):gh a b=1:=by simp[gh,h];omega
theorem rk (a:Nat):gh a a=0:=by simp[gh]
theorem jz {a b:Nat}:(gh a b<0)↔a<b:=by unfold gh;split <;> (try split) <;> omega
theorem bh (xs:List Nat) (k:Nat):aj (xs.take (k+1))=aj (xs.take k)+4294967296^k*xs.getD k 0:=by
 by_cases h:k<xs.length
 ·rw[bG (List.getElem?_eq_getElem h),er,List.length_take,Nat.min_eq_left aa]
  simp[List.getD,h]
 ·rw[List.take_of_length_le aa,List.take_of_length_le aa]
  simp[List.getD,List.getElem?_eq_none (by omega:xs.length<=k)]
theorem bD {xs:List Nat} {k:Nat} (h:xs.length<=k):aj (xs.take k)=aj xs:=by rw[List.take_of_length_le h]
theorem BZ (p s x y c X Y D:Nat) (h:D+p*c=X+Y) (hs:s=x+y+c):
  D+p*(s%4294967296)+p*4294967296*(s/4294967296)=(X+p*x)+(Y+p*y):=by
 subst hs
 have h2:p*((x+y+c)%4294967296)+p*4294967296*((x+y+c)/4294967296)=p*(x+y+c):=by
  rw[Nat.mul_assoc,<-Nat.mul_add,Nat.mod_add_div]
 rw[Nat.mul_add,Nat.mul_add] at h2
 omega
theorem Lm (p x m c X D:Nat) (h:D+p*c=X*m):
  D+p*((x*m+c)%4294967296)+p*4294967296*((x*m+c)/4294967296)=(X+p*x)*m:=by
 have h2:p*((x*m+c)%4294967296)+p*4294967296*((x*m+c)/4294967296)=p*(x*m+c):=by
  rw[Nat.mul_assoc,<-Nat.mul_add,Nat.mod_add_div]
 rw[Nat.mul_add] at h2
 rw[Nat.add_mul,Nat.mul_assoc p x m]
 omega
def ij (n:Nat):Nat:=if n=0 then 0 else Nat.log2 n+1
theorem IY:ij 0=0:=rfl
theorem vf (n:Nat):n<2^ij n:=by
 unfold ij
 split
 ·omega
 ·exact Nat.lt_log2_self
theorem vh {n:Nat} (h:n≠0):2^(ij n-1)<=n:=by
 unfold ij
 rw[if_neg h]
 exact Nat.log2_self_le h
theorem rn {n:Nat} (h:n≠0):0<ij n:=by unfold ij;rw[if_neg h];omega
theorem Hb {n b:Nat} (h:n<2^b) (h':b=0\/2^(b-1)<=n):ij n=b:=by
 by_cases h0:n=0
 ·subst h0
  rcases h' with rfl|h'
  ·rfl
  ·have:=Nat.pow_pos (n:=b-1) (show 0<2 by omega);omega
 ·have h1:=vf n
  have h2:=vh h0
  have h3:=rn h0
  rcases Nat.lt_trichotomy (ij n) b with hl|he|hg
  ·rcases h' with rfl|h'
   ·omega
   ·have:=Nat.pow_le_pow_right (show 0<2 by omega) (show ij n<=b-1 by omega)
    omega
  ·exact he
  ·have:=Nat.pow_le_pow_right (show 0<2 by omega) (show b<=ij n-1 by omega)
   omega
theorem ql {n k:Nat} (h:n<2^k):ij n<=k:=by
 by_cases h0:n=0
 ·subst h0;rw[IY];omega
 ·have h1:=vh h0
  rcases Nat.lt_or_ge k (ij n) with hl|hg
  ·have:=Nat.pow_le_pow_right (show 0<2 by omega) (show k<=ij n-1 by omega)
   omega
  ·exact hg
theorem Ca (k:Nat):4294967296^k=2^(32*k):=by rw[Nat.pow_mul]
theorem Cc {n t:Nat} (hl:(limbs n)[(limbs n).length-1]? =some t):ij n=32*((limbs n).length-1)+ij t/\t≠0:=by
 have hlast:(limbs n).getLast? =some t:=by rw[List.getLast?_eq_getElem?];exact hl
 have ht:=qz n t hlast
 have vR:0<(limbs n).length:=by
  rcases Nat.eq_zero_or_pos (limbs n).length with h|h
  ·rw[List.eq_nil_of_length_eq_zero h] at hl;cases hl
  ·exact h
 refine⟨?_,ht⟩
 have e:limbs n=(limbs n).take ((limbs n).length-1)++[t]:=by
  have:=bG hl
  rw[show (limbs n).length-1+1=(limbs n).length by omega,List.take_length] at this
  exact this
 have hv:n=aj ((limbs n).take ((limbs n).length-1))+4294967296^((limbs n).length-1)*t:=by
  have h1:=congrArg aj e
  rw[ak,er,List.length_take,Nat.min_eq_left aa] at h1
  exact h1
 have fO:=jr ((aA n).take ((limbs n).length-1))
 rw[List.length_take,Nat.min_eq_left aa] at fO
 generalize aj ((limbs n).take ((limbs n).length-1))=lo at hv fO
 generalize (limbs n).length-1=m at hv fO
 have h1:=vf t
 have h2:=vh ht
 have h3:=rn ht
 rw[Ca] at hv fO
 apply Hb
 ·rw[hv,Nat.pow_add]
  calc lo+2^(32*m)*t<2^(32*m)+2^(32*m)*t:=by omega
   _=2^(32*m)*(t+1):=by rw[Nat.mul_add];omega
   _<=2^(32*m)*2^ij t:=Nat.mul_le_mul_left _ h1
 ·right
  rw[hv,show 32*m+ij t-1=32*m+(ij t-1) by omega,Nat.pow_add]
  have:=Nat.mul_le_mul_left (2^(32*m)) h2
  omega
theorem Ce {x:Nat} (k:Nat) (hx:x≠0):List.replicate k 0++limbs x=limbs (x*4294967296^k):=by
 have h:aj (List.replicate k 0++limbs x)=x*4294967296^k:=by
  rw[eO,ak,show aj (List.replicate k 0)=0 from gR _ k,List.length_replicate,Nat.mul_comm];omega
 rw[<-h]
 symm
 apply qy
 ·exact cL.append (eu.replicate aa k) (aA x)
 ·intro y hy
  rw[List.getLast?_append] at hy
  have hne:limbs x≠[]:=λh=>hx (lG.1 h)
  cases hl:(limbs x).getLast? with
  | none=>rw[List.getLast?_eq_none_iff] at hl;exact absurd hl hne
  | some z=>rw[hl] at hy;simp at hy;subst hy;exact qz x z hl
theorem uQ (x k:Nat) (hk:k<=(limbs x).length):aj ((limbs x).drop k)=x/4294967296^k:=by
 have h:=jq 4294967296 (limbs x) k hk
 have h1:val 4294967296 (limbs x)=x:=ak x
 have h2:=jr ((aA x).take k)
 rw[List.length_take,Nat.min_eq_left hk] at h2
 rw[h1] at h
 show val 4294967296 _=_
 have h3:val 4294967296 ((limbs x).take k)<4294967296^k:=h2
 generalize val 4294967296 ((limbs x).take k)=lo at h h3
 generalize val 4294967296 ((limbs x).drop k)=hi at h ⊢
 rw[h,Nat.add_mul_div_left _ _ (Nat.pow_pos aa),Nat.div_eq_of_lt h3];omega
def gu (x:Nat) (n:Int):Nat:=if 0<=n then x*2^n.toNat else x/2^(-n).toNat
theorem Cf {B:Nat} (hB:2<=B) {ds:List Nat} (hd:eu B ds) (h:ds.length<=(iz B (val B ds)).length):iz B (val B ds)=ds:=by
 apply vO hB hd
 intro x hx h0
 subst h0
 have hne:ds≠[]:=by rintro rfl;cases hx
 have vR:0<ds.length:=List.length_pos_iff.2 hne
 have hk:ds[ds.length-1]? =some 0:=by rw[<-List.getLast?_eq_getElem?];exact hx
 have h1:=lf (B:=B) hk
 rw[show ds.length-1+1=ds.length by omega,List.take_length] at h1
 have h2:=nZ (hd.take (ds.length-1))
 rw[<-h1,List.length_take,Nat.min_eq_left aa] at h2
 have h3:=ff hB _ _ h2
 omega
theorem cw (B:Nat) (xs:List Nat) (k:Nat):val B (xs.take (k+1))=val B (xs.take k)+B^k*xs.getD k 0:=by
 by_cases h:k<xs.length
 ·rw[bG (List.getElem?_eq_getElem h),lT,List.length_take,Nat.min_eq_left aa]
  simp[List.getD,h]
 ·rw[List.take_of_length_le aa,List.take_of_length_le aa]
  simp[List.getD,List.getElem?_eq_none (by omega:xs.length<=k)]
theorem fy {B:Nat} {xs:List Nat} {k:Nat} (h:xs.length<=k):val B (xs.take k)=val B xs:=by rw[List.take_of_length_le h]
theorem IZ (B p s x y c X Y D:Nat) (h:D+p*c=X+Y) (hs:s=x+y+c):D+p*(s%B)+p*B*(s/B)=(X+p*x)+(Y+p*y):=by
 subst hs
 have h2:p*((x+y+c)%B)+p*B*((x+y+c)/B)=p*(x+y+c):=by
  rw[Nat.mul_assoc,<-Nat.mul_add,Nat.mod_add_div]
 rw[Nat.mul_add,Nat.mul_add] at h2
 omega
theorem qm {B:Nat} {xs:List Nat} {k x:Nat} (h:xs[k]? =some x):val B (xs.drop k)=x+B*val B (xs.drop (k+1)):=by
 obtain⟨hl,e⟩:=List.getElem?_eq_some_iff.1 h
 rw[List.drop_eq_getElem_cons hl,e,gD]
theorem Ja (B p x y r d r' X Y D:Nat) (h:D+Y=X+p*r) (hs:x+B*r'=d+y+r):(D+p*d)+(Y+p*y)=(X+p*x)+p*B*r':=by
 have h2:p*(x+B*r')=p*(d+y+r):=by rw[hs]
 rw[Nat.mul_add,Nat.mul_add,Nat.mul_add,<-Nat.mul_assoc] at h2
 omega
end
section
open Go.RowKit
def Rd (w:World) (sz:Nat) (v:Value) (n:Nat) (cs:List Value):Prop:=
 ∃ p c,v=.slice p n c/\n<=c/\c<=maxLen/\cs.length=n*sz/\(0<n*sz->∃ b off,p=some ⟨b,off,none⟩/\∀ j u,cs[j]? =some u->w.cell? ⟨b,off+j,none⟩=some u)
theorem Rd.nil (w:World) (sz:Nat):Rd w sz (.slice none 0 0) 0 []:=⟨none,0,rfl,Nat.le_refl _,by simp[maxLen],by simp,λh=>by omega⟩
theorem Rd.keep {w w':World} {sz n:Nat} {v:Value} {cs:List Value} (h:Rd w sz v n cs) (hk:∀ a u,w.cell? a=some u->w'.cell? a=some u):Rd w' sz v n cs:=by
 obtain⟨p,c,rfl,h1,h2,h3,h4⟩:=h
 refine⟨p,c,rfl,h1,h2,h3,λhn=> ?_⟩
 obtain⟨b,off,hp,hc⟩:=h4 hn
 exact⟨b,off,hp,λj u hj=>hk _ _ (hc j u hj)⟩
theorem gL {w:World} {a:Addr} {u:Value} (h:w.cell? a=some u):a.block<w.heap.size:=World.block_lt_of_cell? w a h
theorem Below.keeps {w w':World} (h:Below w.heap.size w w'):∀ a u,w.cell? a=some u->w'.cell? a=some u:=
 λ_ _ hu=>(h.cell (gL hu)).trans hu
theorem Rd.below {w w':World} {sz n:Nat} {v:Value} {cs:List Value} (h:Rd w sz v n cs) (hb:Below w.heap.size w w'):Rd w' sz v n cs:=h.keep (Below.keeps hb)
theorem Rd.alloc {w:World} {sz n:Nat} {v:Value} {cs:List Value} (h:Rd w sz v n cs) (o:Obj):Rd (w.alloc o) sz v n cs:=
 h.below ((Below.refl _ _).alloc (Nat.le_refl _) o)
theorem Rd.drew {w:World} {sz n:Nat} {v:Value} {cs:List Value} (h:Rd w sz v n cs):Rd w.drew sz v n cs:=h
theorem Rd.drewN {w:World} {sz n:Nat} {v:Value} {cs:List Value} (h:Rd w sz v n cs) (k:Nat):Rd (w.drewN k) sz v n cs:=h
theorem Rd.lit {w:World} {cs:Array Value} {e n:Nat} (hn:cs.size=n) (hm:n<=9223372036854775807):Rd (w.alloc (.cells cs e)) 1 (.slice (some ⟨w.heap.size,0,none⟩) n n) n cs.toList:=
 ⟨_,n,rfl,Nat.le_refl _,by unfold maxLen;omega,by simp[hn],λ_=>⟨w.heap.size,0,rfl,λj u hj=>by
   rw[Nat.zero_add,World.cell?_alloc_new];simpa using hj⟩⟩
theorem Rd.jd {B:Nat} {w w':World} {sz n:Nat} {v:Value} {cs:List Value} (h:Rd w sz v n cs) (hB:B=w.heap.size) (hb:Below B w w'):Rd w' sz v n cs:=h.below (hB▸hb)
theorem Rd.own {w:World} {B e sz n:Nat} {v:Value} {cs:List Value} (h:w.ownsRow B e sz v n cs):Rd w sz v n cs:=by
 rcases h.2 with ⟨rfl,rfl⟩|⟨g,cap,cur,rfl,_,hg,gg,gF,_,Ln⟩
 ·have hx:cs=[]:=List.eq_nil_of_length_eq_zero (by simpa using h.1)
  subst hx;exact Rd.nil w sz
 ·refine⟨_,cap,rfl,gg,gF,h.1,λ_=>⟨g,0,rfl,λj u hj=> ?_⟩⟩
  have:=h.cells (g:=g) rfl j u hj
  rwa [show (⟨g,0,none⟩:Addr).add j=⟨g,0+j,none⟩ by unfold Addr.add;split <;> simp_all] at this
theorem Own.mono {w:World} {B B' e sz n:Nat} {v:Value} {cs:List Value} (h:w.ownsRow B e sz v n cs) (hB:B'<=B):w.ownsRow B' e sz v n cs:=by
 refine⟨h.1,?_⟩
 rcases h.2 with h2|⟨g,cap,cur,hv,hb,r⟩
 ·exact .inl h2
 ·exact .inr ⟨g,cap,cur,hv,by omega,r⟩
theorem Own.below {w w':World} {B e sz n:Nat} {v:Value} {cs:List Value} (h:w.ownsRow B e sz v n cs) (hb:Below w.heap.size w w'):w'.ownsRow B e sz v n cs:=by
 refine⟨h.1,?_⟩
 rcases h.2 with h2|⟨g,cap,cur,hv,hg,hh,r⟩
 ·exact .inl h2
 ·exact .inr ⟨g,cap,cur,hv,hg,(hb.block g (Array.getElem?_eq_some_iff.1 hh).1).trans hh,r⟩
theorem Own.vi {w:World} {B e sz n:Nat} {v:Value} {cs:List Value} (h:w.ownsRow B e sz v n cs) (hn:0<n):∃ g c,v=.slice (some ⟨g,0,none⟩) n c/\B<=g/\g<w.heap.size:=by
 rcases h.2 with ⟨_,h0⟩|⟨g,cap,cur,rfl,hb,hg,_⟩
 ·omega
 ·exact⟨g,cap,rfl,hb,(Array.getElem?_eq_some_iff.1 hg).1⟩
theorem Own.drewN {w:World} {B e sz n:Nat} {v:Value} {cs:List Value} (h:w.ownsRow B e sz v n cs) (k:Nat):(w.drewN k).ownsRow B e sz v n cs:=h
theorem Below.drewN {B:Nat} {a w:World} (h:Below B a w) (n:Nat):Below B a (w.drewN n):=⟨h.os,h.tape,h.output,h.size,h.block⟩
theorem Own.take {w:World} {B e sz n c:Nat} {p:Option Addr} {cs:List Value} (h:w.ownsRow B e sz (.slice p n c) n cs) {m:Nat} (hm:m<=n):w.ownsRow B e sz (.slice p m c) m (cs.take (m*sz)):=by
 have hle:m*sz<=n*sz:=Nat.mul_le_mul_right _ hm
 refine⟨by rw[List.length_take,h.1];omega,?_⟩
 rcases h.2 with ⟨hv,rfl⟩|⟨g,cap,cur,hv,hb,hg,gg,gF,hcs,Ln⟩
 ·left
  simp only[Value.slice.injEq] at hv
  obtain⟨rfl,_,rfl⟩:=hv
  exact⟨by rw[show m=0 by omega],by omega⟩
 ·right
  simp only[Value.slice.injEq,true_and] at hv
  obtain⟨rfl,rfl⟩:=hv
  exact⟨g,c,cur,rfl,hb,hg,by omega,gF,hcs,by rw[<-Ln,List.take_take,Nat.min_eq_left hle]⟩
theorem Rd.take {w:World} {sz n c:Nat} {p:Option Addr} {cs:List Value} (h:Rd w sz (.slice p n c) n cs) {m:Nat} (hm:m<=n):Rd w sz (.slice p m c) m (cs.take (m*sz)):=by
 obtain⟨p',c',hv,h1,h2,h3,h4⟩:=h
 simp only[Value.slice.injEq,true_and] at hv
 obtain⟨rfl,rfl⟩:=hv
 have hle:m*sz<=n*sz:=Nat.mul_le_mul_right _ hm
 refine⟨p,c,rfl,by omega,h2,by rw[List.length_take,h3];omega,λhn=> ?_⟩
 obtain⟨b,off,hp,hc⟩:=h4 aa
 exact⟨b,off,hp,λj u hj=>hc j u (by rw[List.getElem?_take] at hj;split at hj;exact hj;cases hj)⟩
def ints (k:IntKind) (xs:List Nat):List Value:=xs.map λ(x:Nat)=>Value.int k (x:Int)
@[simp] theorem tW (k:IntKind) (xs:List Nat):(ints k xs).length=xs.length:=by simp[ints]
theorem rp {k:IntKind} {xs:List Nat} {j x:Nat} (h:xs[j]? =some x):(ints k xs)[j]? =some (.int k (x:Int)):=by simp[ints,h]
theorem pG (k:IntKind) (xs:List Nat) (m:Nat):(ints k xs).take m=ints k (xs.take m):=by simp[ints,List.map_take]
theorem Jb (k:IntKind) (xs:List Nat) (m:Nat):(ints k xs).drop m=ints k (xs.drop m):=by simp[ints,List.map_drop]
theorem gW (k:IntKind) (xs ys:List Nat):ints k (xs++ys)=ints k xs++ints k ys:=by simp[ints]
theorem ints_set (k:IntKind) (xs:List Nat) (j x:Nat):(ints k xs).set j (.int k (x:Int))=ints k (xs.set j x):=by simp[ints,List.map_set]
theorem lU (k:IntKind) (xs:List Nat):∀ u∈ints k xs,u.oneCell'=true:=by
 intro u hu;obtain⟨_,_,rfl⟩:=List.mem_map.1 hu;rfl
theorem Rd.lit1 {w:World} {k:IntKind} {e a:Nat} {x:Int} (hx:x=(a:Int)):Rd (w.alloc (.cells #[.int k x] e)) 1 (.slice (some ⟨w.heap.size,0,none⟩) 1 1) 1 (ints k [a]):=by
 subst hx;exact Rd.lit rfl aa
theorem Rd.lit2 {w:World} {k:IntKind} {e a b:Nat} {x y:Int} (hx:x=(a:Int)) (hy:y=(b:Int)):Rd (w.alloc (.cells #[.int k x,.int k y] e)) 1 (.slice (some ⟨w.heap.size,0,none⟩) 2 2) 2 (ints k [a,b]):=by
 subst hx;subst hy;exact Rd.lit rfl aa
theorem Rd.cellAt {w:World} {n:Nat} {p:Option Addr} {c k:Nat} {ki:IntKind} {xs:List Nat} (h:Rd w 1 (.slice p n c) n (ints ki xs)) (hk:k<n):
  ∃ b off x,p=some ⟨b,off,none⟩/\b<w.heap.size/\xs[k]? =some x/\w.cell? ⟨b,off+k,none⟩=some (.int ki (x:Int)):=by
 obtain⟨p',c',hv,h1,h2,h3,h4⟩:=h
 simp only[Value.slice.injEq,true_and] at hv
 obtain⟨rfl,rfl⟩:=hv
 obtain⟨b,off,hp,hc⟩:=h4 aa
 rw[tW] at h3
 have hx:=List.getElem?_eq_getElem (show k<xs.length by omega)
 have hcell:=hc k _ (rp hx)
 exact⟨b,off,_,hp,gL hcell,hx,hcell⟩
theorem Rd.form {w:World} {sz n:Nat} {v:Value} {cs:List Value} (h:Rd w sz v n cs):∃ p c,v=.slice p n c/\n<=c/\c<=maxLen/\cs.length=n*sz:=by
 obtain⟨p,c,hv,h1,h2,h3,_⟩:=h
 exact⟨p,c,hv,h1,h2,h3⟩
theorem Own.form {w:World} {B e sz n:Nat} {v:Value} {cs:List Value} (h:w.ownsRow B e sz v n cs):∃ p c,v=.slice p n c/\n<=c/\c<=maxLen/\cs.length=n*sz:=(Rd.own h).form
theorem lH {P:Program} (w:World) (base t ty e:Nat) (i:TypeInfo) (z:Value) (size bytes:Nat) (ht:P.underlying t=some (.slice e)) (hi:P.info? e=some i) (hz:i.zero=some z)
  (tY:i.size=size) (Jc:i.bytes=bytes) (hzs:z.cells.size=size) (hsz:0<size)
  (v:Value) (n:Nat) (xs:List Value) (aI:w.ownsRow base e size v n xs) (x:Value) (m:Nat) (news:List Value) (hx:Rd w size x m news) (h1:∀ u∈news,u.oneCell'=true)
  (h63:n+m<=maxLen) (fh:(n+m)*bytes<=140737488355328) (nJ:base<=w.heap.size):
  ∃ v' w',(Builtin.append_ #[t,t] ty #[v,x]).run P w=.ok v' w'/\w'.ownsRow base e size v' (n+m) (xs++news)/\w.grownBy w' v.ownBlock:=by
 obtain⟨p,c,rfl,hmc,gF,hl,hp⟩:=hx
 by_cases hm:m=0
 ·subst hm
  have hn:news=[]:=List.eq_nil_of_length_eq_zero (by simpa using hl)
  subst hn
  refine⟨v,w,?_,by simpa using aI,⟨rfl,rfl,rfl,Nat.le_refl _,λ_ _ _=>rfl⟩⟩
  subst tY
  rcases aI.2 with ⟨rfl,rfl⟩|⟨g,cap,cur,rfl,_,hg,gg,hcm',hcs,Ln⟩
  ·cases p <;> simp[Builtin.append_,run_underlying ht,sizeOf,typeInfo,hi,Builtin.lenOf,Builtin.firstCells,loadCells,loadCellsFrom]
  ·cases p <;> simp[Builtin.append_,run_underlying ht,sizeOf,typeInfo,hi,Builtin.lenOf,Builtin.firstCells,loadCells,loadCellsFrom,gg,storeCells]
 ·obtain⟨b,off,rfl,hc⟩:=hp (Nat.mul_pos aa hsz)
  obtain⟨v',w',hr,h2,h3,_⟩:=run_append_own (P:=P) w base t ty e i z size bytes ht hi hz tY Jc hzs hsz v n xs aI ⟨b,off,none⟩ m c news hl
   (λj u hj=>by
    have:=hc j u hj
    rwa [show (⟨b,off,none⟩:Addr).add j=⟨b,off+j,none⟩ by unfold Addr.add;split <;> simp_all]) h1 h63 fh nJ
  exact⟨v',w',hr,h2,h3⟩
theorem je {P:Program} (w:World) {ops:Array Oper} {rest:List Oper} {o:Oper} {a:Act} {Q:Exit->Act->World->Prop} (hgd:o.guard=none) (s x:Operand) (t:TypeId)
  (ho:o.op=.call { callee:=.builtin .append,args:=#[s,x],argTypes:=#[t,t] })
  (base:Nat) (e:TypeId) (i:TypeInfo) (z:Value) (size bytes:Nat) (ht:P.underlying t=some (.slice e)) (hi:P.info? e=some i) (hz:i.zero=some z)
  (tY:i.size=size) (Jc:i.bytes=bytes) (hzs:z.cells.size=size) (hsz:0<size)
  (v:Value) (n:Nat) (xs:List Value) (hs:a.eval s=v) (aI:w.ownsRow base e size v n xs)
  (xv:Value) (m:Nat) (news:List Value) (hx:a.eval x=xv) (sK:Rd w size xv m news) (h1:∀ u∈news,u.oneCell'=true)
  (h63:n+m<=maxLen) (fh:(n+m)*bytes<=140737488355328) (nJ:base<=w.heap.size)
  (h:∀ v' w',w'.ownsRow base e size v' (n+m) (xs++news)->w.grownBy w' v.ownBlock->wpList P ops Q rest (a.put o.dst v') w'):wpList P ops Q (o::rest) a w:=by
 refine wpList_plain hgd λ_ hK=> ?_
 obtain⟨v',w',hr,h2,h3⟩:=lH (P:=P) w base t o.type e i z size bytes ht hi hz tY Jc hzs hsz v n xs aI xv m news sK h1 h63 fh nJ
 unfold Oper.wp execOp
 simp only[ho,resolve,invoke,builtin,Sem.run_bind,Sem.run_pure,Result.andThen_ok,List.map_toArray,List.map_cons,List.map_nil,hs,hx,hr]
 exact hK _ _ (h v' w' h2 h3)
theorem od {P:Program} {w:World} {ops:Array Oper} {o:Oper} {a:Act} {K:Act->World->Prop} {Q:Exit->Act->World->Prop} {E:Prop} (hgd:o.guard=none) (s x:Operand) (t:TypeId)
  (ho:o.op=.call { callee:=.builtin .append,args:=#[s,x],argTypes:=#[t,t] })
  (base:Nat) (e:TypeId) (i:TypeInfo) (z:Value) (size bytes:Nat) (ht:P.underlying t=some (.slice e)) (hi:P.info? e=some i) (hz:i.zero=some z)
  (tY:i.size=size) (Jc:i.bytes=bytes) (hzs:z.cells.size=size) (hsz:0<size)
  (v:Value) (n:Nat) (xs:List Value) (hs:a.eval s=v) (aI:w.ownsRow base e size v n xs)
  (xv:Value) (m:Nat) (news:List Value) (hx:a.eval x=xv) (sK:Rd w size xv m news) (h1:∀ u∈news,u.oneCell'=true)
  (h63:n+m<=maxLen) (fh:(n+m)*bytes<=140737488355328) (nJ:base<=w.heap.size)
  (h:∀ v' w',w'.ownsRow base e size v' (n+m) (xs++news)->w.grownBy w' v.ownBlock->K (a.put o.dst v') w'):
  if Region.wanted o (yielded ops a.tmps)=true then Oper.wp P o a w K Q else E:=by
 have hw:Region.wanted o (yielded ops a.tmps)=true:=by simp[Region.wanted,hgd]
 rw[if_pos hw]
 obtain⟨v',w',hr,h2,h3⟩:=lH (P:=P) w base t o.type e i z size bytes ht hi hz tY Jc hzs hsz v n xs aI xv m news sK h1 h63 fh nJ
 unfold Oper.wp execOp
 simp only[ho,resolve,invoke,builtin,Sem.run_bind,Sem.run_pure,Result.andThen_ok,List.map_toArray,List.map_cons,List.map_nil,hs,hx,hr]
 exact h v' w' h2 h3
theorem yW {w w1:World} {o:Obj} {a:Addr} {v:Value} {row:Option Nat} (hg:(w.alloc o).drew.grownBy w1 row) (hc:w.cell? a=some v) (hne:some a.block≠row):w1.cell? a=some v:=
 hg.cell ((World.cell?_alloc_lt w o a (gL hc)).trans hc) hne
theorem Lp {w:World} {B e sz n b:Nat} {v:Value} {cs:List Value} (h:w.ownsRow B e sz v n cs) (hb:b<B):some b≠v.ownBlock:=by
 intro he
 have:=(h.lt b he.symm).1
 omega
theorem Below.behind {B B' e sz n:Nat} {w0 w w1:World} {o:Obj} {v:Value} {cs:List Value} (h:Below B w0 w) (hB:B<=w.heap.size) (hg:(w.alloc o).drew.grownBy w1 v.ownBlock) (ho:w.ownsRow B' e sz v n cs) (hBB:B<=B'):Below B w0 w1:=
 ((h.alloc hB o).drew).grown hg (by simp;omega) λk hk=>by have:=(ho.lt k hk).1;omega
theorem Below.aH {a b c:World} (h:Below a.heap.size a b) (k:Below b.heap.size b c):Below a.heap.size a c:=h.trans (k.mono h.size)
theorem wpList_append_run {P:Program} {w:World} {ops:Array Oper} {rest:List Oper} {o:Oper} {a:Act} {Q:Exit->Act->World->Prop} (hgd:o.guard=none) (s x:Operand) (t t':TypeId)
  (ho:o.op=.call { callee:=.builtin .append,args:=#[s,x],argTypes:=#[t,t'] }) (v xv:Value) (hs:a.eval s=v) (hx:a.eval x=xv) (v':Value) (w':World)
  (hr:(Builtin.append_ #[t,t'] o.type #[v,xv]).run P w=.ok v' w') (h:wpList P ops Q rest (a.put o.dst v') w'):wpList P ops Q (o::rest) a w:=by
 refine wpList_plain hgd λ_ hK=> ?_
 unfold Oper.wp execOp
 simp only[ho,resolve,invoke,builtin,Sem.run_bind,Sem.run_pure,Result.andThen_ok,List.map_toArray,List.map_cons,List.map_nil,hs,hx,hr]
 exact hK _ _ h
theorem Below.Lq {B B':Nat} {w0 w w':World} {e sz n:Nat} {v:Value} {cs:List Value} (h:Below B w0 w) (hg:w.grownBy w' v.ownBlock) (ho:w.ownsRow B' e sz v n cs) (hB:B<=w.heap.size) (hBB:B<=B'):Below B w0 w':=
 h.grown hg hB λk hk=>by have:=(ho.lt k hk).1;omega
theorem aV {P:Program} {f:FuncId} {args:Array Value} {w:World} {R:Ending->World->Prop} (h:∀ R':Ending->World->Prop,Hid (∀ e w',R e w'->R' e w')->Calls P f args w R'):Calls P f args w R:=h R λ_ _ h=>h
theorem lV {k:IntKind} {a a':Int} (h:a=a'):Ending.returned (.int k a)=.returned (.int k a'):=by rw[h]
theorem ret2 {k l:IntKind} {a a' b b':Int} (h:a=a') (h':b=b'):Ending.returned (.tuple #[.int k a,.int l b])=.returned (.tuple #[.int k a',.int l b']):=by rw[h,h']
theorem Own.made {w:World} {B e n:Nat} {v:Value} {k:IntKind} (h:w.ownsRow B e 1 v n (madeCells (Value.int k 0).cells (n*1)).toList):w.ownsRow B e 1 v n (ints k ([]++List.replicate n 0)):=by
 have:(madeCells (Value.int k 0).cells (n*1)).toList=ints k ([]++List.replicate n 0):=by
  rw[show (Value.int k 0).cells=#[Value.int k 0] from rfl,toList_madeCells_one];simp[ints]
 rwa [this] at h
theorem Own.vm {w:World} {B e g n cap r:Nat} {k:IntKind} {ds:List Nat} (h:w.ownsRow B e 1 (.slice (some ⟨g,0,none⟩) n cap) n (ints k (ds++List.replicate (r+1) 0))):
  w.cell? ⟨g,ds.length,none⟩=some (.int k 0)/\w.frozen? ⟨g,ds.length,none⟩=false:=by
 have hl:=h.1
 simp at hl
 refine⟨?_,h.frozenAt _⟩
 rw[h.cellAt _ aa]
 have:=rp (k:=k) (xs:=ds++List.replicate (r+1) 0) (j:=ds.length) (x:=0) (by simp[List.replicate_succ])
 simpa using this
theorem Own.ry {w:World} {B e g n cap r x:Nat} {k:IntKind} {ds:List Nat} (h:w.ownsRow B e 1 (.slice (some ⟨g,0,none⟩) n cap) n (ints k (ds++List.replicate (r+1) 0))):
  (w.setCell ⟨g,ds.length,none⟩ (.int k (x:Int))).ownsRow B e 1 (.slice (some ⟨g,0,none⟩) n cap) n (ints k ((ds++[x])++List.replicate r 0)):=by
 have h1:=(h.stored ds.length (.int k (x:Int))).1
 rw[ints_set] at h1
 have:(ds++List.replicate (r+1) 0).set ds.length x=(ds++[x])++List.replicate r 0:=by
  rw[List.set_append_right _ _ (Nat.le_refl _),Nat.sub_self,List.replicate_succ,List.set_cons_zero,List.append_assoc];rfl
 rwa [this] at h1
theorem Own.gG {w:World} {B e g n cap:Nat} {k:IntKind} {xs:List Nat} (h:w.ownsRow B e 1 (.slice (some ⟨g,0,none⟩) n cap) n (ints k xs)) {j:Nat} (hj:j<n):
  ∃ x,xs[j]? =some x/\w.cell? ⟨g,j,none⟩=some (.int k (x:Int))/\w.frozen? ⟨g,j,none⟩=false:=by
 have hl:=h.1
 simp at hl
 have hx:=List.getElem?_eq_getElem (show j<xs.length by omega)
 refine⟨_,hx,?_,h.frozenAt _⟩
 rw[h.cellAt _ aa,rp hx]
theorem Own.gi {w:World} {B e g n cap j x:Nat} {k:IntKind} {xs:List Nat} (h:w.ownsRow B e 1 (.slice (some ⟨g,0,none⟩) n cap) n (ints k xs)):
  (w.setCell ⟨g,j,none⟩ (.int k (x:Int))).ownsRow B e 1 (.slice (some ⟨g,0,none⟩) n cap) n (ints k (xs.set j x)):=by
 have h1:=(h.stored j (.int k (x:Int))).1
 rwa [ints_set] at h1
theorem Own.lt {w:World} {B e sz g n cap:Nat} {p:Nat} {cs:List Value} (h:w.ownsRow B e sz (.slice (some ⟨g,p,none⟩) n cap) n cs):B<=g/\g<w.heap.size:=World.ownsRow.lt h g rfl
theorem vS {P:Program} {f:FuncId} {args:Array Value} {W:World} {X:Nat->World} {v:Value} (h:Calls P f args W λe w'=>e=.returned v/\W=w') (hW:∃ n,W=X n):
  Calls P f args W λe w''=>e=.returned v/\∃ m,w''=X m:=
 h.mono λ_ _ ⟨he,hm⟩=>⟨he,hW.imp λ_ hn=>hm▸hn⟩
theorem dS {P:Program} {w:World} {ops:Array Oper} {rest:List Oper} {o:Oper} {a:Act} {Q:Exit->Act->World->Prop} (hgd:o.guard=none) (s x:Operand) (t:TypeId)
  (ho:o.op=.call { callee:=.builtin .append,args:=#[s,x],argTypes:=#[t,t] })
  (base:Nat) (e:TypeId) (i:TypeInfo) (z:Value) (bytes:Nat) (ht:P.underlying t=some (.slice e)) (hi:P.info? e=some i) (hz:i.zero=some z)
  (tY:i.size=1) (Jc:i.bytes=bytes) (hzs:z.cells.size=1)
  {v:Value} {n:Nat} {k:IntKind} {ds:List Nat} {y:Int} {d:Nat} {e':TypeId} (aI:w.ownsRow base e 1 v n (ints k ds)) (hs:a.eval s=v) (hx:a.eval x=.slice (some ⟨w.heap.size,0,none⟩) 1 1) (hy:y=(d:Int))
  (h63:n+1<=9223372036854775807) (fh:(n+1)*bytes<=140737488355328) (nJ:base<=w.heap.size)
  (h:∀ v' w',w'.ownsRow base e 1 v' (n+1) (ints k (ds++[d]))->(∀ w0,Below base w0 w->Below base w0 w')->wpList P ops Q rest (a.put o.dst v') w'):wpList P ops Q (o::rest) a (w.alloc (.cells #[.int k y] e')):=by
 refine je _ hgd s x t ho base e i z 1 bytes ht hi hz tY Jc hzs aa v n _ hs (aI.alloc _) _ 1 (ints k [d]) hx (Rd.lit1 hy) (lU k [d]) (by unfold maxLen;omega) fh (by simp;omega) ?_
 intro v' w' h1 h2
 refine h v' w' (by rw[gW];exact h1) λw0 hb=> ?_
 exact (hb.alloc nJ _).grown h2 (by simp;omega) λj hj=>(aI.lt j hj).1
theorem Lr (a b:Nat) (ha:a<4294967296) (hb:b<4294967296):a*b<18446744065119617026:=by
 have h1:a*b<=4294967295*4294967295:=Nat.mul_le_mul aa aa
 omega
set_option maxRecDepth 100000 in
theorem Jd (a b:Nat) (w:World) (ha:a<4294967296) (hb:b<4294967296):
  Calls Tryz.prog 318 #[.int .u32 (a:Int),.int .u32 (b:Int)] w λe w'=>e=.returned (.tuple #[.int .u32 ((a*b/4294967296:Nat):Int),.int .u32 ((a*b%4294967296:Nat):Int)])/\w=w':=by
 have h:=Lr a b ha hb
 have h2:(a:Int)*(b:Int)<18446744065119617026:=by rw[<-Int.natCast_mul];omega
 have h3:0<=(a:Int)*(b:Int):=by rw[<-Int.natCast_mul];omega
 refine aV λR' bK=> ?_
 go_enter Tryz.func318,Tryz.ntmps318
 go_wp2
 refine bK.out _ _ ⟨ret2 ?_ ?_,rfl⟩ <;> simp
set_option maxRecDepth 100000 in
theorem lW (a b c:Nat) (w:World) (ha:a<4294967296) (hb:b<4294967296) (hc:c<4294967296):
  Calls Tryz.prog 299 #[.int .u32 (a:Int),.int .u32 (b:Int),.int .u32 (c:Int)] w λe w'=>e=.returned (.tuple #[.int .u32 (((a+b+c)%4294967296:Nat):Int),.int .u32 (((a+b+c)/4294967296:Nat):Int)])/\w=w':=by
 refine aV λR' bK=> ?_
 go_enter Tryz.func299,Tryz.ntmps299
 go_wp2
 refine bK.out _ _ ⟨ret2 ?_ ?_,rfl⟩ <;> simp
set_option maxRecDepth 100000 in
theorem Je (a b d:Nat) (w:World) (ha:a<d) (hb:b<4294967296) (hd:d<4294967296):
  Calls Tryz.prog 303 #[.int .u32 (a:Int),.int .u32 (b:Int),.int .u32 (d:Int)] w λe w'=>
   e=.returned (.tuple #[.int .u32 (((a*4294967296+b)/d:Nat):Int),.int .u32 (((a*4294967296+b)%d:Nat):Int)])/\∃ k,w'=w.drewN k:=by
 have hd0:((d:Int) != 0)=true:=by rw[bne_iff_ne];omega
 have hd1:1<=(d:Int):=by omega
 have hle:¬ ((d:Int)<=(a:Int)):=by omega
 have sQ:bits BinOp.or IntKind.u64 ((a:Int)*4294967296) (b:Int)=((a*4294967296+b:Nat):Int):=by
  have e1:((a:Int)*4294967296)=((a*4294967296:Nat):Int):=by simp
  rw[e1,u64_or_nat _ _ aa aa,nat_join 32 _ _ aa aa]
 have hq:(a*4294967296+b)/d<4294967296:=by
  rw[Nat.div_lt_iff_lt_mul aa]
  have:(a+1)*4294967296<=d*4294967296:=Nat.mul_le_mul_right _ ha
  rw[Nat.mul_comm 4294967296 d];omega
 have hq1:((a:Int)*4294967296+(b:Int))/(d:Int)<4294967296:=by
  have:(((a*4294967296+b)/d:Nat):Int)<4294967296:=by omega
  simpa using this
 have hr:(a*4294967296+b)%d<d:=Nat.mod_lt _ aa
 have sR:((a:Int)*4294967296+(b:Int))%(d:Int)<4294967296:=by
  have:(((a*4294967296+b)%d:Nat):Int)<4294967296:=by omega
  simpa using this
 have hq0:0<=((a:Int)*4294967296+(b:Int))/(d:Int):=by
  exact Int.ediv_nonneg aa aa
 have sL:0<=((a:Int)*4294967296+(b:Int))%(d:Int):=by
  exact Int.emod_nonneg _ aa
 rw[show ((a*4294967296+b:Nat):Int)=(a:Int)*4294967296+(b:Int) by simp] at sQ
 clear hq hr
 refine aV λR' bK=> ?_
 go_enter Tryz.func303,Tryz.ntmps303
 go_wp2_with fail
 go_quiet (fail)
 go_wp2
 refine bK.out _ _ ⟨ret2 ?_ ?_,_,rfl⟩ <;> simp
theorem rz (n:Nat) (h:n<4294967296):n.testBit 31=decide (2147483648<=n):=by
 rw[Nat.testBit_eq_decide_div_mod_eq]
 by_cases h':2147483648<=n
 ·have:n/2^31=1:=by omega
  simp[this,h']
 ·have:n/2^31=0:=by omega
  simp[this];omega
theorem by_top (n:Nat) (h:n<4294967296):n/2147483648=(n.testBit 31).toNat:=by
 rw[rz n h]
 by_cases h':2147483648<=n <;> simp[h'] <;> omega
theorem EW (x y c d:Nat) (hx:x<4294967296) (hy:y<4294967296) (hc:c<2) (hd:d=(x+8589934592-y-c)%4294967296):
  ((4294967295 ^^^x) &&& y |||(4294967295 ^^^(x ^^^y)) &&& d)/2147483648=if x<y+c then 1 else 0:=by
 have sM:d<4294967296:=by omega
 have h1:4294967295 ^^^x<2^32:=Nat.xor_lt_two_pow aa aa
 have h2:x ^^^y<2^32:=Nat.xor_lt_two_pow aa aa
 have h3:4294967295 ^^^(x ^^^y)<2^32:=Nat.xor_lt_two_pow aa h2
 have h4:(4294967295 ^^^x) &&& y |||(4294967295 ^^^(x ^^^y)) &&& d<2^32:=Nat.or_lt_two_pow (Nat.and_lt_two_pow _ aa) (Nat.and_lt_two_pow _ aa)
 rw[by_top _ aa]
 simp only[Nat.testBit_or,Nat.testBit_and,Nat.testBit_xor,rz _ hx,rz _ hy,rz _ sM,rz 4294967295 aa]
 by_cases a1:2147483648<=x <;> by_cases a2:2147483648<=y <;> by_cases a3:2147483648<=d <;> simp[a1,a2,a3] <;> omega
set_option maxRecDepth 100000 in
theorem yY (a b c:Nat) (w:World) (ha:a<4294967296) (hb:b<4294967296) (hc:c<2):
  Calls Tryz.prog 302 #[.int .u32 (a:Int),.int .u32 (b:Int),.int .u32 (c:Int)] w λe w'=>
   (∃ d r:Nat,e=.returned (.tuple #[.int .u32 (d:Int),.int .u32 (r:Int)])/\d<4294967296/\r<=1/\a+4294967296*r=d+b+c)/\w=w':=by
 obtain⟨d,hd⟩:∃ d,d=(a+8589934592-b-c)%4294967296:=⟨_,rfl⟩
 have sM:d<4294967296:=by omega
 have Aa:=EW a b c d ha hb hc hd
 have hdi:((a:Int)-(b:Int)-(c:Int))%4294967296=(d:Int):=by omega
 have hm:IntKind.u32.max=((4294967295:Nat):Int):=rfl
 have h1:4294967295 ^^^a<4294967296:=Nat.xor_lt_two_pow (n:=32) aa aa
 have h2:a ^^^b<4294967296:=Nat.xor_lt_two_pow (n:=32) aa aa
 have h3:4294967295 ^^^(a ^^^b)<4294967296:=Nat.xor_lt_two_pow (n:=32) aa aa
 have h4:(4294967295 ^^^a) &&& b<4294967296:=Nat.and_lt_two_pow (n:=32) _ aa
 have h5:(4294967295 ^^^(a ^^^b)) &&& d<4294967296:=Nat.and_lt_two_pow (n:=32) _ aa
 have H:Hid (bits BinOp.or IntKind.u32 (bits BinOp.and IntKind.u32 (bits BinOp.xor IntKind.u32 IntKind.u32.max (a:Int)) (b:Int))
   (bits BinOp.and IntKind.u32 (bits BinOp.xor IntKind.u32 IntKind.u32.max (bits BinOp.xor IntKind.u32 (a:Int) (b:Int))) (((a:Int)-(b:Int)-(c:Int))%4294967296))/2147483648=((if a<b+c then 1 else 0:Nat):Int)):=by
  show _=_
  rw[hdi,hm,u32_xor_nat _ _ aa ha,u32_and_nat _ _ h1 hb,u32_xor_nat _ _ ha hb,u32_xor_nat _ _ aa h2,u32_and_nat _ _ h3 sM,u32_or_nat _ _ h4 h5,<-Aa]
  simp
 have HD:Hid (((a:Int)-(b:Int)-(c:Int))%4294967296=((a+8589934592-b-c)%4294967296:Nat)):=by show _=_;rw[hdi,hd]
 clear hd hdi Aa hm h1 h2 h3 h4 h5 sM
 refine aV λR' bK=> ?_
 go_enter Tryz.func302,Tryz.ntmps302
 go_wp2
 all_goals exact bK.out _ _ ⟨⟨(a+8589934592-b-c)%4294967296,if a<b+c then 1 else 0,ret2 HD.out H.out,Nat.mod_lt _ aa,by split <;> omega,by split <;> omega⟩,rfl⟩
set_option maxRecDepth 100000 in
theorem dA (p:Option Addr) (n c:Nat) (xs:List Nat) (w:World) (hr:Rd w 1 (.slice p n c) n (ints .u32 xs)) (hl:cL xs):
  Calls Tryz.prog 207 #[.slice p n c] w λe w'=>(∃ m,m<=n/\e=.returned (.slice p m c)/\limbs (aj xs)=xs.take m)/\w=w':=by
 have gg:n<=c/\c<=9223372036854775807/\xs.length=n:=by
  obtain⟨p',c',hv,h1,h2,h3⟩:=hr.form
  simp only[Value.slice.injEq,true_and] at hv
  obtain⟨rfl,rfl⟩:=hv
  unfold maxLen at h2
  simp at h3
  exact⟨h1,by omega,h3⟩
 obtain⟨gg,gF,fc⟩:=gg
 have HX:Hid (xs.length=n):=fc
 clear fc
 refine aV λR' bK=> ?_
 go_enter Tryz.func207,Tryz.ntmps207
 go_wp2
 go_loop [0] (λv=>∃ m,m<=n/\v=.slice p m c/\aj (xs.take m)=aj xs) (λv=>match v with | .slice _ m _=>m|_=>0)
 case atStart=>exact⟨n,Nat.le_refl _,rfl,by rw[List.take_of_length_le (Nat.le_of_eq HX.out)]⟩
 case round=>
  obtain⟨m,hm,rfl,hv⟩:=hrel
  have HV:Hid (aj (xs.take m)=aj xs):=hv
  clear hv
  by_cases h0:m=0
  ·subst h0
   go_wp2
   exact bK.out _ _ ⟨⟨0,Nat.zero_le _,rfl,kf aa hl (Nat.zero_le _) HV.out (.inl rfl)⟩,rfl⟩
  ·obtain⟨b,off,x,rfl,hb,hx,hc⟩:=hr.cellAt (k:=m-1) aa
   have Ls:Hid (xs[m-1]? =some x):=hx
   clear hx
   have h0':0<m:=by omega
   obtain⟨j,rfl⟩:∃ j,m=j+1:=⟨m-1,by omega⟩
   rw[Nat.add_sub_cancel] at hc
   by_cases nG:x=0
   ·subst nG
    go_wp2
    go_round
    case rel=>exact⟨j,by omega,rfl,(lf Ls.out).symm.trans HV.out⟩
    case measure=>simp
   ·have hx0':((x:Int) == 0)=false:=by rw[beq_eq_false_iff_ne];omega
    go_wp2
    exact bK.out _ _ ⟨⟨j+1,hm,rfl,kf aa hl (by rw[HX.out];exact hm) HV.out (.inr ⟨x,Ls.out,nG⟩)⟩,rfl⟩
theorem js:(Tryz.prog.info? 78).map (λi=>(i.zero,i.size,i.bytes))=some (some (.int .u32 0),1,4):=by kernel_rfl
theorem cH {P:Prop} (h:P:=by decide):P:=h
set_option maxRecDepth 100000 in
theorem kh (v:Value) (n:Nat) (xs:List Nat) (w:World) (hr:Rd w 1 v n (ints .u32 xs)) (hn:n<=1073741824):
  Calls Tryz.prog 151 #[v] w λe w'=>∃ v',e=.returned v'/\w'.ownsRow w.heap.size 78 1 v' n (ints .u32 xs)/\Below w.heap.size w w':=by
 obtain⟨p,c,rfl,gg,gF,hl⟩:=hr.form
 have Hr:=Lib.hid hr
 have dc:∀ w':World,(binOp .eql 23 (.slice p n c) (.slice none 0 0)).run Tryz.prog w'=.ok (.bool p.isNone) w':=λw'=>Lib.run_eql_slice_nil w' 23 78 p n c 0 0 Tryz.underlying23
 obtain⟨i0,hi,iW,fI,jf⟩:=info_parts js
 have HL:=Lib.hid hl
 clear hl hr
 unfold maxLen at gF
 cases p with
 | none=>
   refine aV λR' bK=> ?_
   go_enter Tryz.func151,Tryz.ntmps151
   go_wp2
   refine bK.out _ _ ⟨_,rfl,?_,Below.refl _ _⟩
   obtain⟨p,c',hv,_,_,h3,h4⟩:=Hr.out
   simp only[Value.slice.injEq,true_and] at hv
   obtain⟨rfl,rfl⟩:=hv
   have h0:n=0:=by
    rcases Nat.eq_zero_or_pos n with h|h
    ·exact h
    ·obtain⟨b,off,hp,_⟩:=h4 aa;cases hp
   subst h0
   have hx:ints .u32 xs=[]:=List.eq_nil_of_length_eq_zero (by simpa using h3)
   rw[hx]
   exact World.ownsRow_nil _ _ _ _
 | some ad=>
   refine aV λR' bK=> ?_
   go_enter Tryz.func151,Tryz.ntmps151
   go_wp2_with (at_builtin;refine je _ rfl _ _ 23 rfl w.heap.size 78 i0 (.int .u32 0) 1 4 Tryz.underlying23 hi iW fI jf rfl cH _ 0 [] rfl (World.ownsRow_made w #[] 0 (Nat.le_refl _) (by simp[maxLen]) rfl) _ n _ rfl (Hr.out.alloc _) (lU _ _) (by unfold maxLen;omega) aa ew ?_;intro v' w1 aI Jf)
   simp only[Nat.zero_add,List.nil_append] at aI
   refine bK.out _ _ ⟨_,rfl,aI,((Below.refl _ _).alloc (Nat.le_refl _) _).grown Jf ew λk hk=>by injection (show some w.heap.size=some k from hk) with hk;omega⟩
theorem Rd.u32 {w:World} {v:Value} {n:Nat} {xs:List Nat} (h:Rd w 1 v n (ints .u32 xs)):∃ p c,v=.slice p n c/\n<=c/\c<=9223372036854775807/\xs.length=n:=by
 obtain⟨p,c,hv,h1,h2,h3⟩:=h.form
 unfold maxLen at h2
 exact⟨p,c,hv,h1,by omega,by simpa using h3⟩
theorem Rd.limbs {w:World} {n c m:Nat} {p:Option Addr} {xs:List Nat} (h:Rd w 1 (.slice p n c) n (ints .u32 xs)) (hm:m<=n) (hl:limbs (aj xs)=xs.take m):
  Rd w 1 (.slice p m c) m (ints .u32 (limbs (aj xs))):=by
 have:=h.take hm
 rwa [Nat.mul_one,pG,<-hl] at this
theorem Own.limbs {w:World} {B e n c m:Nat} {p:Option Addr} {xs:List Nat} (h:w.ownsRow B e 1 (.slice p n c) n (ints .u32 xs)) (hm:m<=n) (hl:limbs (aj xs)=xs.take m):
  w.ownsRow B e 1 (.slice p m c) m (ints .u32 (limbs (aj xs))):=by
 have:=Own.take h hm
 rwa [Nat.mul_one,pG,<-hl] at this
set_option maxRecDepth 100000 in
theorem jA (v:Value) (n:Nat) (xs:List Nat) (w:World) (hr:Rd w 1 v n (ints .u32 xs)) (hl:cL xs) (hn:n<=1073741824):
  Calls Tryz.prog 148 #[v] w λe w'=>∃ v',e=.returned v'/\w'.ownsRow w.heap.size 78 1 v' (limbs (aj xs)).length (ints .u32 (limbs (aj xs)))/\Below w.heap.size w w':=by
 obtain⟨p,c,rfl,gg,gF,fc⟩:=hr.u32
 have Hr:=Lib.hid hr
 have HL:=Lib.hid hl
 have HX:=Lib.hid fc
 clear fc hl hr
 refine aV λR' bK=> ?_
 go_enter Tryz.func148,Tryz.ntmps148
 go_wp2_with fail
 refine (dA p n c xs _ Hr.out HL.out).mono ?_
 rintro e w1 ⟨⟨m,hm,rfl,yr⟩,rfl⟩
 have HM:=Lib.hid yr
 clear yr
 have sN:Hid (m=(limbs (aj xs)).length):=by
  show _=_
  rw[HM.out,List.length_take,HX.out];omega
 go_wp2_with fail
 refine (kh _ m (limbs (aj xs)) _ (Hr.out.limbs hm HM.out) aa).mono ?_
 rintro e w1 ⟨v',rfl,aI,hb⟩
 go_wp2
 refine bK.out _ _ ⟨_,rfl,?_,hb⟩
 rw[<-sN.out];exact aI
set_option maxRecDepth 100000 in
theorem vT (a b:Nat) (w:World):
  Calls Tryz.prog 300 #[.int .i64 (a:Int),.int .i64 (b:Int)] w λe w'=>e=.returned (.int .i64 (gh a b))/\w=w':=by
 rcases Nat.lt_trichotomy a b with h|rfl|h
 ·have e1:=Lib.hid (lg h)
  refine aV λR' bK=> ?_
  go_enter Tryz.func300,Tryz.ntmps300
  go_wp2
  exact bK.out _ _ ⟨lV e1.out.symm,rfl⟩
 ·have e1:=Lib.hid (rk a)
  refine aV λR' bK=> ?_
  go_enter Tryz.func300,Tryz.ntmps300
  go_wp2
  exact bK.out _ _ ⟨lV e1.out.symm,rfl⟩
 ·have e1:=Lib.hid (lh h)
  refine aV λR' bK=> ?_
  go_enter Tryz.func300,Tryz.ntmps300
  go_wp2
  exact bK.out _ _ ⟨lV e1.out.symm,rfl⟩
set_option maxRecDepth 100000 in
theorem vU (a b:Nat) (w:World):
  Calls Tryz.prog 301 #[.int .u32 (a:Int),.int .u32 (b:Int)] w λe w'=>e=.returned (.int .i64 (gh a b))/\w=w':=by
 rcases Nat.lt_trichotomy a b with h|rfl|h
 ·have e1:=Lib.hid (lg h)
  refine aV λR' bK=> ?_
  go_enter Tryz.func301,Tryz.ntmps301
  go_wp2
  exact bK.out _ _ ⟨lV e1.out.symm,rfl⟩
 ·have e1:=Lib.hid (rk a)
  refine aV λR' bK=> ?_
  go_enter Tryz.func301,Tryz.ntmps301
  go_wp2
  exact bK.out _ _ ⟨lV e1.out.symm,rfl⟩
 ·have e1:=Lib.hid (lh h)
  refine aV λR' bK=> ?_
  go_enter Tryz.func301,Tryz.ntmps301
  go_wp2
  exact bK.out _ _ ⟨lV e1.out.symm,rfl⟩
theorem qn {a b:Nat} (h:(limbs a).length<(limbs b).length):a<b:=by
 rcases Nat.lt_or_ge a b with h' |h'
 ·exact h'
 ·have:=cY h';omega
theorem Lu {a b:Nat} (h:(limbs a).length≠(limbs b).length):gh (limbs a).length (limbs b).length=gh a b:=by
 rcases Nat.lt_or_ge (limbs a).length (limbs b).length with h' |h'
 ·rw[lg h',lg (qn h')]
 ·have h'':(limbs b).length<(limbs a).length:=by omega
  rw[lh h'',lh (qn h'')]
theorem EX {a b k x y:Nat} (hx:(limbs a)[k]? =some x) (hy:(limbs b)[k]? =some y) (hne:x≠y) (hd:(limbs a).drop (k+1)=(limbs b).drop (k+1)):gh x y=gh a b:=by
 rcases Nat.lt_or_ge x y with h|h
 ·have:=kC (B:=4294967296) (aA a) hx hy h hd
  rw[show val 4294967296 (limbs a)=a from ak a,show val 4294967296 (limbs b)=b from ak b] at this
  rw[lg h,lg this]
 ·have h':y<x:=by omega
  have:=kC (B:=4294967296) (aA b) hy hx h' hd.symm
  rw[show val 4294967296 (limbs a)=a from ak a,show val 4294967296 (limbs b)=b from ak b] at this
  rw[lh h',lh this]
theorem Jg {α:Type} {xs ys:List α} {k:Nat} {x:α} (hx:xs[k]? =some x) (hy:ys[k]? =some x) (h:xs.drop (k+1)=ys.drop (k+1)):xs.drop k=ys.drop k:=by
 have h1:xs.drop k=x::xs.drop (k+1):=by
  obtain⟨hl,e⟩:=List.getElem?_eq_some_iff.1 hx
  rw[List.drop_eq_getElem_cons hl,e]
 have h2:ys.drop k=x::ys.drop (k+1):=by
  obtain⟨hl,e⟩:=List.getElem?_eq_some_iff.1 hy
  rw[List.drop_eq_getElem_cons hl,e]
 rw[h1,h2,h]
set_option maxRecDepth 100000 in
theorem Ab (va vb:Value) (n m:Nat) (xs ys:List Nat) (w:World) (hr:Rd w 1 va n (ints .u32 xs)) (hs:Rd w 1 vb m (ints .u32 ys)) (hx:cL xs) (hy:cL ys):
  Calls Tryz.prog 269 #[va,vb] w λe w'=>e=.returned (.int .i64 (gh (aj xs) (aj ys)))/\∃ k,w'=w.drewN k:=by
 obtain⟨p,c,rfl,gg,gF,fc⟩:=hr.u32
 obtain⟨q,d,rfl,Hc,Cg,gX⟩:=hs.u32
 obtain⟨a,ha⟩:∃ a,a=aj xs:=⟨_,rfl⟩
 obtain⟨b,hb⟩:∃ b,b=aj ys:=⟨_,rfl⟩
 have Hr:=Lib.hid hr
 have Hs:=Lib.hid hs
 have HL:=Lib.hid hx
 have HM:=Lib.hid hy
 have HX:=Lib.hid fc
 have HY:=Lib.hid gX
 rw[<-ha,<-hb]
 have HA:=Lib.hid ha
 have HB:=Lib.hid hb
 clear fc gX hx hy hr hs ha hb
 refine aV λR' bK=> ?_
 go_enter Tryz.func269,Tryz.ntmps269
 go_wp2_with fail
 refine (dA p n c xs _ Hr.out HL.out).mono ?_
 rintro e w1 ⟨⟨n',hn',rfl,Lv⟩,rfl⟩
 have HLN:=Lib.hid Lv
 clear Lv
 go_wp2_with fail
 refine (dA q m d ys _ Hs.out HM.out).mono ?_
 rintro e w1 ⟨⟨m',hm',rfl,yr⟩,rfl⟩
 have Lw:=Lib.hid yr
 clear yr
 have HN:Hid ((limbs a).length=n'):=by show _=_;rw[HA.out,HLN.out,List.length_take,HX.out];omega
 have HMM:Hid ((limbs b).length=m'):=by show _=_;rw[HB.out,Lw.out,List.length_take,HY.out];omega
 have hra:=Hr.out.limbs hn' HLN.out
 have Jh:=Hs.out.limbs hm' Lw.out
 rw[<-HA.out] at hra
 rw[<-HB.out] at Jh
 have Hra:=Lib.hid hra
 have Hrb:=Lib.hid Jh
 clear hra Jh
 by_cases hne:n'=m'
 ·subst hne
  go_wp2_with fail
  go_loopw [5] (λiv wr=>∃ k dn:Nat,k<=n'/\iv=.int .i64 ((k:Int)-1)/\(limbs a).drop k=(limbs b).drop k/\wr=w.drewN dn) (λiv _=>(intOf iv+1).toNat)
  case atStart=>exact⟨n',0,Nat.le_refl _,rfl,by rw[List.drop_of_length_le (Nat.le_of_eq HN.out),List.drop_of_length_le (Nat.le_of_eq HMM.out)],rfl⟩
  case round=>
   obtain⟨k,dn,hk,rfl,hd,rfl⟩:=hrel
   have HD:=Lib.hid hd
   clear hd
   by_cases h0:k=0
   ·subst h0
    go_wp2
    exact bK.out _ _ ⟨lV (by rw[IX (show limbs a=limbs b by simpa using HD.out),rk]),_,rfl⟩
   ·obtain⟨j,rfl⟩:∃ j,k=j+1:=⟨k-1,by omega⟩
    obtain⟨g1,o1,x,rfl,Ji,hx,nN⟩:=Hra.out.cellAt (k:=j) aa
    obtain⟨g2,o2,y,rfl,Ci,hy,qA⟩:=Hrb.out.cellAt (k:=j) aa
    have HXX:=Lib.hid hx
    have HYY:=Lib.hid hy
    have hjj:((j+1:Nat):Int)-1=(j:Int):=by omega
    clear hx hy h0 Ji Ci
    rw[hjj]
    clear hjj
    by_cases Hd:x=y
    ·subst Hd
     have pH:((x:Int) != (x:Int))=false:=by simp
     go_wp2_with fail
     go_quiet (fail)
     go_wp2
     go_roundw
     case rel=>exact⟨j,_,by omega,rfl,Jg HXX.out HYY.out HD.out,rfl⟩
     case measure=>simp[intOf]
    ·have pH:((x:Int) != (y:Int))=true:=by rw[bne_iff_ne];omega
     go_wp2_with fail
     go_quiet (fail)
     go_wp2_with fail
     go_quiet ((go_at_call 301;exact vS (vU x y _) ⟨_,rfl⟩))
     go_wp2
     exact bK.out _ _ ⟨lV (EX HXX.out HYY.out Hd HD.out),_,by rw[World.drewN_drewN,World.drewN_drewN]⟩
 ·have hne':((n':Int) != (m':Int))=true:=by rw[bne_iff_ne];omega
  go_wp2_with fail
  refine (vT n' m' _).mono ?_
  rintro e w1 ⟨rfl,rfl⟩
  go_wp2
  exact bK.out _ _ ⟨lV (by rw[<-HN.out,<-HMM.out];exact Lu (by rw[HN.out,HMM.out];exact hne)),0,rfl⟩
def vV (w:World) (B g N:Nat) (xs ys:List Nat) (cv iv:Value) (wr:World):Prop:=
 ∃ (k carry:Nat) (ds:List Nat),k<=N/\ds.length=k/\iv=.int .i64 (k:Int)/\cv=.int .u32 (carry:Int)/\carry<=1/\cL ds/\
   aj ds+4294967296^k*carry=aj (xs.take k)+aj (ys.take k)/\
   wr.ownsRow B 78 1 (.slice (some ⟨g,0,none⟩) (N+1) (N+1)) (N+1) (ints .u32 (ds++List.replicate (N+1-k) 0))/\Below B w wr
theorem vV.step {w wr:World} {B g N k carry x y:Nat} {xs ys ds:List Nat} (hk:k<N) (rb:ds.length=k) (hc:carry<=1) (hl:cL ds)
  (hv:aj ds+4294967296^k*carry=aj (xs.take k)+aj (ys.take k)) (aI:wr.ownsRow B 78 1 (.slice (some ⟨g,0,none⟩) (N+1) (N+1)) (N+1) (ints .u32 (ds++List.replicate (N+1-k) 0)))
  (hb:Below B w wr) (hx:xs.getD k 0=x) (hy:ys.getD k 0=y) (jV:x<4294967296) (tZ:y<4294967296):
  vV w B g N xs ys (.int .u32 (((x+y+carry)/4294967296:Nat):Int)) (.int .i64 ((k:Int)+1)) (wr.setCell ⟨g,k,none⟩ (.int .u32 (((x+y+carry)%4294967296:Nat):Int))):=by
 subst rb
 have e:N+1-ds.length=(N-ds.length)+1:=by omega
 rw[e] at aI
 have h1:=Own.ry (x:=(x+y+carry)%4294967296) aI
 refine⟨ds.length+1,(x+y+carry)/4294967296,ds++[(x+y+carry)%4294967296],by omega,by simp,rfl,rfl,?_,?_,?_,?_,?_⟩
 ·omega
 ·exact hl.append (cL.cons (Nat.mod_lt _ aa) cL.nil)
 ·rw[er,bh,bh,hx,hy,Nat.pow_succ]
  exact BZ _ _ x y carry _ _ _ hv rfl
 ·rw[show N+1-(ds.length+1)=N-ds.length by omega];exact h1
 ·exact hb.setCell (Own.lt aI).1 _
set_option maxRecDepth 100000 in
theorem He (p q:Option Addr) (n c m d:Nat) (xs ys:List Nat) (w:World) (hr:Rd w 1 (.slice p n c) n (ints .u32 xs)) (hs:Rd w 1 (.slice q m d) m (ints .u32 ys)) (hx:cL xs) (hy:cL ys)
  (hn:n<=1073741824) (hmn:m<=n) (args:Array Value) (hargs:args=#[.slice p n c,.slice q m d]\/m<n/\args=#[.slice q m d,.slice p n c]):
  Calls Tryz.prog 268 args w λe w'=>∃ v',e=.returned v'/\w'.ownsRow w.heap.size 78 1 v' (limbs (aj xs+aj ys)).length (ints .u32 (limbs (aj xs+aj ys)))/\Below w.heap.size w w':=by
 obtain⟨p',c',hv,gg,gF,fc⟩:=hr.u32
 simp only[Value.slice.injEq,true_and] at hv
 obtain⟨rfl,rfl⟩:=hv
 obtain⟨q',d',hv,Hc,Cg,gX⟩:=hs.u32
 simp only[Value.slice.injEq,true_and] at hv
 obtain⟨rfl,rfl⟩:=hv
 have Hr:=Lib.hid hr
 have Hs:=Lib.hid hs
 have HL:=Lib.hid hx
 have HM:=Lib.hid hy
 have HX:=Lib.hid fc
 have HY:=Lib.hid gX
 obtain⟨i0,hi,iW,fI,jf⟩:=info_parts js
 obtain⟨B,hB⟩:∃ B,B=w.heap.size:=⟨_,rfl⟩
 have HB:=Lib.hid hB
 rw[<-hB]
 clear fc gX hx hy hr hs hB
 rcases hargs with rfl|⟨hlt,rfl⟩
 all_goals
  refine aV λR' bK=> ?_
  go_enter Tryz.func268,Tryz.ntmps268
  go_wp2_with (at_make;refine wpList_make_full _ rfl _ _ 23 rfl B 78 i0 (.int .u32 0) 1 Tryz.underlying23 hi iW fI .i64 .i64 _ _ (n+1) rfl rfl aa aa (by rw[jf];omega) (by unfold maxLen;omega) (Nat.le_of_eq HB.out) ?_;intro w1 aI Jf)
  have EY:=Lib.hid (Own.made aI)
  have Hb1:Hid (Below B w w1):=(Below.refl _ _).grown Jf (Nat.le_of_eq HB.out) (λk hk=>by cases hk)
  clear aI Jf
  go_loopw [6,22] (λcv iv wr=>vV w B w.heap.size n xs ys cv iv wr) (λ_ iv _=>n-(intOf iv).toNat)
  case atStart=>exact⟨0,0,[],Nat.zero_le _,rfl,rfl,rfl,by omega,cL.nil,by simp[eN],EY.out,Hb1.out⟩
  case round=>
   obtain⟨k,carry,ds,hk,rb,rfl,rfl,ik,hl,hv,aI,hb⟩:=hrel
   have HO:=Lib.hid aI
   have Ac:=Lib.hid rb
   have HV:=Lib.hid hv
   have yZ:=Lib.hid hl
   have gM:=Lib.hid hb
   clear aI rb hv hl hb
   have sS:B<=wr.heap.size:=by have:=gM.out.size;have:=HB.out;omega
   by_cases nO:k<n
   ·obtain⟨b1,o1,x,rfl,bl,fP,nN⟩:=(Hr.out.jd HB.out gM.out).cellAt nO
    have vn:=Lib.hid fP
    have jV:=HL.out.at fP
    have e:n+1-k=(n-k)+1:=by omega
    have mM:=HO.out
    rw[e] at mM
    obtain⟨hcell,yt⟩:=Own.vm mM
    rw[Ac.out] at hcell yt
    clear e mM fP
    by_cases EZ:k<m
    ·obtain⟨b2,o2,y,rfl,bM,lX,qA⟩:=(Hs.out.jd HB.out gM.out).cellAt EZ
     have Hf:=Lib.hid lX
     have tZ:=HM.out.at lX
     clear lX
     go_wp2_with fail
     refine (lW x y carry _ jV tZ aa).mono ?_
     rintro e w2 ⟨rfl,rfl⟩
     go_wp2_with fail
     go_roundw
     case rel=>exact vV.step nO Ac.out ik yZ.out HV.out HO.out gM.out (by simp[List.getD,vn.out]) (by simp[List.getD,Hf.out]) jV tZ
     case measure=>simp[intOf];omega
    ·have yl:Hid (ys.getD k 0=0):=by show _=_;rw[List.getD,List.getElem?_eq_none (by rw[HY.out];omega)];rfl
     go_wp2_with fail
     refine (lW x 0 carry _ jV aa aa).mono ?_
     rintro e w2 ⟨rfl,rfl⟩
     go_wp2_with fail
     go_roundw
     case rel=>exact vV.step nO Ac.out ik yZ.out HV.out HO.out gM.out (by simp[List.getD,vn.out]) yl.out jV aa
     case measure=>simp[intOf];omega
   ·obtain rfl:k=n:=by omega
    have e:k+1-k=0+1:=by omega
    have mM:=HO.out
    rw[e] at mM
    obtain⟨hcell,yt⟩:=Own.vm mM
    have hst:=Own.ry (x:=carry) mM
    rw[Ac.out] at hcell yt hst
    have HST:=Lib.hid hst
    clear e mM hst
    go_wp2_with fail
    have hval:Hid (aj (ds++[carry])=aj xs+aj ys):=by
     show _=_
     rw[er,Ac.out,HV.out,bD (Nat.le_of_eq HX.out),bD (by rw[HY.out];exact hmn)]
    refine (dA _ (k+1) (k+1) (ds++[carry]) _ (by have:=Rd.own HST.out;simpa using this) (yZ.out.append (cL.cons aa cL.nil))).mono ?_
    rintro e w2 ⟨⟨r,hr,rfl,ER⟩,rfl⟩
    have KT:=Lib.hid ER
    clear ER
    go_wp2_with fail
    refine bK.out _ _ ⟨_,rfl,?_,gM.out.setCell (p:=⟨w.heap.size,k,none⟩) (Nat.le_of_eq HB.out) _⟩
    have h2:=HST.out
    rw[List.replicate_zero,List.append_nil] at h2
    have h3:=Own.limbs h2 hr KT.out
    have e:(limbs (aj (ds++[carry]))).length=r:=by rw[KT.out,List.length_take,List.length_append,Ac.out];simp;omega
    rw[hval.out] at h3 e
    rw[e];exact h3
theorem Hg (va vb:Value) (n m:Nat) (xs ys:List Nat) (w:World) (hr:Rd w 1 va n (ints .u32 xs)) (hs:Rd w 1 vb m (ints .u32 ys)) (hx:cL xs) (hy:cL ys) (hn:n<=1073741824) (hm:m<=1073741824):
  Calls Tryz.prog 268 #[va,vb] w λe w'=>∃ v',e=.returned v'/\w'.ownsRow w.heap.size 78 1 v' (limbs (aj xs+aj ys)).length (ints .u32 (limbs (aj xs+aj ys)))/\Below w.heap.size w w':=by
 obtain⟨p,c,rfl,_,_,_⟩:=hr.u32
 obtain⟨q,d,rfl,_,_,_⟩:=hs.u32
 rcases Nat.lt_or_ge n m with h|h
 ·rw[Nat.add_comm (aj xs)]
  exact He q p m d n c ys xs w hs hr hy hx hm aa _ (.inr ⟨h,rfl⟩)
 ·exact He p q n c m d xs ys w hr hs hx hy hn h _ (.inl rfl)
def Ad (w:World) (B g N m:Nat) (xs:List Nat) (cv iv:Value) (wr:World):Prop:=
 ∃ (k carry:Nat) (ds:List Nat),k<=N/\ds.length=k/\iv=.int .i64 (k:Int)/\cv=.int .u32 (carry:Int)/\carry<4294967296/\cL ds/\
   aj ds+4294967296^k*carry=aj (xs.take k)*m/\
   wr.ownsRow B 78 1 (.slice (some ⟨g,0,none⟩) (N+1) (N+1)) (N+1) (ints .u32 (ds++List.replicate (N+1-k) 0))/\Below B w wr
theorem za (x m c:Nat) (hx:x<4294967296) (hm:m<4294967296) (hc:c<4294967296):(x*m+c)/4294967296<4294967296:=by
 have h1:x*m<=4294967295*4294967295:=Nat.mul_le_mul aa aa
 omega
theorem zb (x m c:Nat):x*m/4294967296+(x*m%4294967296+c)/4294967296=(x*m+c)/4294967296/\(x*m%4294967296+c)%4294967296=(x*m+c)%4294967296:=by
 generalize x*m=p;omega
theorem Ad.step {w wr:World} {B g N k carry x m:Nat} {xs ds:List Nat} {c s:Int} (hk:k<N) (rb:ds.length=k) (hm:m<4294967296) (hc:carry<4294967296) (hl:cL ds)
  (hv:aj ds+4294967296^k*carry=aj (xs.take k)*m) (aI:wr.ownsRow B 78 1 (.slice (some ⟨g,0,none⟩) (N+1) (N+1)) (N+1) (ints .u32 (ds++List.replicate (N+1-k) 0)))
  (hb:Below B w wr) (hx:xs[k]? =some x) (jV:x<4294967296) (he:c=(((x*m+carry)/4294967296:Nat):Int)) (hs:s=(((x*m%4294967296+carry)%4294967296:Nat):Int)):
  Ad w B g N m xs (.int .u32 c) (.int .i64 ((k:Int)+1)) (wr.setCell ⟨g,k,none⟩ (.int .u32 s)):=by
 subst rb
 subst he
 subst hs
 have e:N+1-ds.length=(N-ds.length)+1:=by omega
 rw[e] at aI
 have h1:=Own.ry (x:=(x*m+carry)%4294967296) aI
 rw[(zb x m carry).2]
 refine⟨ds.length+1,(x*m+carry)/4294967296,ds++[(x*m+carry)%4294967296],by omega,by simp,rfl,rfl,za x m carry jV hm hc,?_,?_,?_,?_⟩
 ·exact hl.append (cL.cons (Nat.mod_lt _ aa) cL.nil)
 ·rw[er,bh,Nat.pow_succ,List.getD,hx]
  exact Lm _ x m carry _ _ hv
 ·rw[show N+1-(ds.length+1)=N-ds.length by omega];exact h1
 ·exact hb.setCell (Own.lt aI).1 _
set_option maxRecDepth 100000 in
theorem Ae (va:Value) (n m:Nat) (xs:List Nat) (w:World) (hr:Rd w 1 va n (ints .u32 xs)) (hx:cL xs) (hn:n<=1073741824) (hm:m<4294967296):
  Calls Tryz.prog 317 #[va,.int .u32 (m:Int)] w λe w'=>∃ v',e=.returned v'/\w'.ownsRow w.heap.size 78 1 v' (limbs (aj xs*m)).length (ints .u32 (limbs (aj xs*m)))/\Below w.heap.size w w':=by
 obtain⟨p,c,rfl,gg,gF,fc⟩:=hr.u32
 have Hr:=Lib.hid hr
 have HL:=Lib.hid hx
 have HX:=Lib.hid fc
 obtain⟨i0,hi,iW,fI,jf⟩:=info_parts js
 obtain⟨B,hB⟩:∃ B,B=w.heap.size:=⟨_,rfl⟩
 have HB:=Lib.hid hB
 rw[<-hB]
 clear fc hx hr hB
 refine aV λR' bK=> ?_
 go_enter Tryz.func317,Tryz.ntmps317
 go_wp2_with (at_make;refine wpList_make_full _ rfl _ _ 23 rfl B 78 i0 (.int .u32 0) 1 Tryz.underlying23 hi iW fI .i64 .i64 _ _ (n+1) rfl rfl aa aa (by rw[jf];omega) (by unfold maxLen;omega) (Nat.le_of_eq HB.out) ?_;intro w1 aI Jf)
 have EY:=Lib.hid (Own.made aI)
 have Hb1:Hid (Below B w w1):=(Below.refl _ _).grown Jf (Nat.le_of_eq HB.out) (λk hk=>by cases hk)
 clear aI Jf
 go_loopw [6,19] (λcv iv wr=>Ad w B w.heap.size n m xs cv iv wr) (λ_ iv _=>n-(intOf iv).toNat)
 case atStart=>exact⟨0,0,[],Nat.zero_le _,rfl,rfl,rfl,by omega,cL.nil,by simp[eN],EY.out,Hb1.out⟩
 case round=>
  obtain⟨k,carry,ds,hk,rb,rfl,rfl,ik,hl,hv,aI,hb⟩:=hrel
  have HO:=Lib.hid aI
  have Ac:=Lib.hid rb
  have HV:=Lib.hid hv
  have yZ:=Lib.hid hl
  have gM:=Lib.hid hb
  clear aI rb hv hl hb
  by_cases nO:k<n
  ·obtain⟨b1,o1,x,rfl,bl,fP,nN⟩:=(Hr.out.jd HB.out gM.out).cellAt nO
   have vn:=Lib.hid fP
   have jV:=HL.out.at fP
   have e:n+1-k=(n-k)+1:=by omega
   have mM:=HO.out
   rw[e] at mM
   obtain⟨hcell,yt⟩:=Own.vm mM
   rw[Ac.out] at hcell yt
   clear e mM fP
   have h1:(x*m+carry)/4294967296<4294967296:=za x m carry jV hm ik
   have h2:=(zb x m carry).1
   have h3:(0:Int)<=((x*m/4294967296:Nat):Int)+(((x*m%4294967296+carry+0)/4294967296:Nat):Int)/\((x*m/4294967296:Nat):Int)+(((x*m%4294967296+carry+0)/4294967296:Nat):Int)<4294967296:=by omega
   have H2:Hid (((x*m/4294967296:Nat):Int)+(((x*m%4294967296+carry+0)/4294967296:Nat):Int)=(((x*m+carry)/4294967296:Nat):Int)):=by show _=_;omega
   obtain⟨h3a,h3b⟩:=h3
   clear h2 h1
   go_wp2_with fail
   refine (Jd x m _ jV hm).mono ?_
   rintro e w2 ⟨rfl,rfl⟩
   go_wp2_with fail
   refine (lW (x*m%4294967296) carry 0 _ (Nat.mod_lt _ aa) ik aa).mono ?_
   rintro e w2 ⟨rfl,rfl⟩
   go_wp2_with fail
   go_roundw
   case rel=>exact Ad.step nO Ac.out hm ik yZ.out HV.out HO.out gM.out vn.out jV (by have:=H2.out;omega) aa
   case measure=>simp[intOf];omega
  ·obtain rfl:k=n:=by omega
   have e:k+1-k=0+1:=by omega
   have mM:=HO.out
   rw[e] at mM
   obtain⟨hcell,yt⟩:=Own.vm mM
   have hst:=Own.ry (x:=carry) mM
   rw[Ac.out] at hcell yt hst
   have HST:=Lib.hid hst
   clear e mM hst
   go_wp2_with fail
   have hval:Hid (aj (ds++[carry])=aj xs*m):=by
    show _=_
    rw[er,Ac.out,HV.out,bD (Nat.le_of_eq HX.out)]
   refine (dA _ (k+1) (k+1) (ds++[carry]) _ (by have:=Rd.own HST.out;simpa using this) (yZ.out.append (cL.cons aa cL.nil))).mono ?_
   rintro e w2 ⟨⟨r,hr,rfl,ER⟩,rfl⟩
   have KT:=Lib.hid ER
   clear ER
   go_wp2_with fail
   refine bK.out _ _ ⟨_,rfl,?_,gM.out.setCell (p:=⟨w.heap.size,k,none⟩) (Nat.le_of_eq HB.out) _⟩
   have h2:=HST.out
   rw[List.replicate_zero,List.append_nil] at h2
   have h3:=Own.limbs h2 hr KT.out
   have e:(limbs (aj (ds++[carry]))).length=r:=by rw[KT.out,List.length_take,List.length_append,Ac.out];simp;omega
   rw[hval.out] at h3 e
   rw[e];exact h3
def Af (w:World) (B:Nat) (qv:Value) (n d:Nat) (xs:List Nat) (iv rv:Value) (wr:World):Prop:=
 ∃ (k r:Nat) (qs:List Nat),k<=n/\qs.length=n-k/\iv=.int .i64 ((k:Int)-1)/\rv=.int .u32 (r:Int)/\r<d/\cL qs/\
   aj qs*d+r=aj (xs.drop k)/\wr.ownsRow B 78 1 qv n (ints .u32 (xs.take k++qs))/\Below B w wr
theorem Lx (d r x Q X:Nat) (h:Q*d+r=X):
  ((r*4294967296+x)/d+4294967296*Q)*d+(r*4294967296+x)%d=x+4294967296*X:=by
 subst h
 have h2:=Nat.mod_add_div (r*4294967296+x) d
 rw[Nat.mul_comm d] at h2
 rw[Nat.add_mul,Nat.mul_add,Nat.mul_assoc]
 omega
theorem div_lt (d r x:Nat) (hr:r<d) (hx:x<4294967296):(r*4294967296+x)/d<4294967296:=by
 rw[Nat.div_lt_iff_lt_mul aa]
 have:(r+1)*4294967296<=d*4294967296:=Nat.mul_le_mul_right _ hr
 rw[Nat.mul_comm 4294967296 d];omega
theorem vW {xs:List Nat} {k x:Nat} (h:xs[k]? =some x):aj (xs.drop k)=x+4294967296*aj (xs.drop (k+1)):=by
 obtain⟨hl,e⟩:=List.getElem?_eq_some_iff.1 h
 rw[List.drop_eq_getElem_cons hl,e,fH]
theorem Ag {xs qs:List Nat} {k x:Nat} (hk:k<xs.length):(xs.take (k+1)++qs).set k x=xs.take k++x::qs:=by
 have h1:xs.take (k+1)=xs.take k++[xs[k]]:=bG (List.getElem?_eq_getElem hk)
 rw[h1,List.append_assoc,List.set_append_right _ _ (by rw[List.length_take];omega)]
 congr 1
 rw[List.length_take,Nat.min_eq_left aa,Nat.sub_self];rfl
theorem Af.step {w wr:World} {B g cap n d j r x dn:Nat} {xs qs:List Nat} {q s:Int} (hj:j+1<=n) (hn:xs.length=n) (hqs:qs.length=n-(j+1)) (hr:r<d) (hl:cL qs)
  (hv:aj qs*d+r=aj (xs.drop (j+1))) (aI:wr.ownsRow B 78 1 (.slice (some ⟨g,0,none⟩) n cap) n (ints .u32 (xs.take (j+1)++qs))) (hb:Below B w wr)
  (hx:xs[j]? =some x) (jV:x<4294967296) (he:q=(((r*4294967296+x)/d:Nat):Int)) (hs:s=(((r*4294967296+x)%d:Nat):Int)):
  Af w B (.slice (some ⟨g,0,none⟩) n cap) n d xs (.int .i64 ((j:Int)-1)) (.int .u32 s) ((wr.drewN dn).setCell ⟨g,j,none⟩ (.int .u32 q)):=by
 subst he
 subst hs
 refine⟨j,(r*4294967296+x)%d,(r*4294967296+x)/d::qs,by omega,by simp;omega,rfl,rfl,Nat.mod_lt _ aa,cL.cons (div_lt d r x hr jV) hl,?_,?_,?_⟩
 ·rw[fH,vW hx,<-hv]
  exact Lx d r x _ _ rfl
 ·have h1:=Own.gi (j:=j) (x:=(r*4294967296+x)/d) (Own.drewN aI dn)
  rwa [Ag aa] at h1
 ·exact (Below.drewN hb dn).setCell (Own.lt aI).1 _
set_option maxRecDepth 100000 in
theorem rA (va:Value) (n d:Nat) (xs:List Nat) (w:World) (hr:Rd w 1 va n (ints .u32 xs)) (hx:cL xs) (hn:n<=1073741824) (hd:d<4294967296):
  Calls Tryz.prog 271 #[va,.int .u32 (d:Int)] w λe w'=>((d=0/\e=.returned (.tuple #[.slice none 0 0,.int .u32 0,.int .i64 20]))\/
   (d≠0/\∃ v',e=.returned (.tuple #[v',.int .u32 ((aj xs%d:Nat):Int),.int .i64 0])/\w'.ownsRow w.heap.size 78 1 v' (limbs (aj xs/d)).length (ints .u32 (limbs (aj xs/d)))))/\Below w.heap.size w w':=by
 obtain⟨p,c,rfl,gg,gF,fc⟩:=hr.u32
 have Hr:=Lib.hid hr
 have HL:=Lib.hid hx
 have HX:=Lib.hid fc
 clear fc hx hr
 by_cases hd0:d=0
 ·have hdb:((d:Int) == 0)=true:=by rw[beq_iff_eq];omega
  have HD:=Lib.hid hd0
  clear hd0
  refine aV λR' bK=> ?_
  go_enter Tryz.func271,Tryz.ntmps271
  go_wp2
  go_ret3
  exact bK.out _ _ ⟨.inl ⟨HD.out,rfl⟩,Below.refl _ _⟩
 ·obtain⟨B,hB⟩:∃ B,B=w.heap.size:=⟨_,rfl⟩
  have HB:=Lib.hid hB
  rw[<-hB]
  clear hB
  have hdb:((d:Int) == 0)=false:=by rw[beq_eq_false_iff_ne];omega
  refine aV λR' bK=> ?_
  go_enter Tryz.func271,Tryz.ntmps271
  go_wp2_with fail
  refine (kh _ n xs _ Hr.out hn).mono ?_
  rintro e w1 ⟨qv,rfl,aI,hb⟩
  rw[<-HB.out] at aI hb
  obtain⟨qp,qc,rfl,_,_,_⟩:=Own.form aI
  have HO:=Lib.hid aI
  have gM:=Lib.hid hb
  clear aI hb
  go_wp2_with fail
  go_loopw [7,5] (λiv rv wr=>Af w B (.slice qp n qc) n d xs iv rv wr) (λiv _ _=>(intOf iv+1).toNat)
  case atStart=>exact⟨n,0,[],Nat.le_refl _,by simp,rfl,rfl,by omega,cL.nil,by rw[List.drop_of_length_le (Nat.le_of_eq HX.out)];simp[eN],by rw[List.take_of_length_le (Nat.le_of_eq HX.out),List.append_nil];exact HO.out,gM.out⟩
  case round=>
   obtain⟨k,r,qs,hk,hqs,rfl,rfl,sK,hl,hv,aI,hb⟩:=hrel
   have nK:=Lib.hid aI
   have HQS:=Lib.hid hqs
   have HV:=Lib.hid hv
   have yZ:=Lib.hid hl
   have oe:=Lib.hid hb
   clear aI hqs hv hl hb
   by_cases h0:k=0
   ·subst h0
    go_wp2_with fail
    refine (dA _ n qc qs _ (by have:=Rd.own nK.out;simpa using this) yZ.out).mono ?_
    rintro e w2 ⟨⟨m,hm,rfl,yr⟩,rfl⟩
    have Lw:=Lib.hid yr
    clear yr
    go_wp2_with fail
    go_ret3
    have hv:=HV.out
    rw[List.drop_zero] at hv
    have hq:aj xs/d=aj qs:=by rw[<-hv,Nat.add_comm,Nat.add_mul_div_right _ _ aa,Nat.div_eq_of_lt sK,Nat.zero_add]
    have hm':aj xs%d=r:=by rw[<-hv,Nat.add_comm,Nat.add_mul_mod_self_right,Nat.mod_eq_of_lt sK]
    refine bK.out _ _ ⟨.inr ⟨hd0,.slice qp m qc,by rw[hm'];rfl,?_⟩,oe.out⟩
    have h2:=nK.out
    rw[List.take_zero,List.nil_append] at h2
    have h3:=Own.limbs h2 hm Lw.out
    have e:(limbs (aj qs)).length=m:=by rw[Lw.out,List.length_take,HQS.out];omega
    rw[hq,e];exact h3
   ·obtain⟨j,rfl⟩:∃ j,k=j+1:=⟨k-1,by omega⟩
    obtain⟨g,qc',hv,hbg,Bu⟩:=Own.vi nK.out aa
    simp only[Value.slice.injEq,true_and] at hv
    obtain⟨rfl,rfl⟩:=hv
    obtain⟨x,hx,hcell,yt⟩:=Own.gG nK.out (j:=j) aa
    have fP:xs[j]? =some x:=by
     rw[List.getElem?_append_left (by rw[List.length_take,HX.out];omega),List.getElem?_take] at hx
     simpa using hx
    have vn:=Lib.hid fP
    have jV:=HL.out.at fP
    have hjj:((j+1:Nat):Int)-1=(j:Int):=by omega
    rw[hjj]
    clear hx fP h0 hjj
    go_wp2_with fail
    refine (Je r x d _ sK jV hd).mono ?_
    rintro e w2 ⟨rfl,dn,rfl⟩
    go_wp2_with fail
    go_roundw
    case rel=>exact Af.step aa HX.out HQS.out sK yZ.out HV.out nK.out oe.out vn.out jV ew ew
    case measure=>simp[intOf]
def vX (w:World) (B:Nat) (ov:Value) (n:Nat) (xs ys:List Nat) (bv iv:Value) (wr:World):Prop:=
 ∃ (k r:Nat) (ds:List Nat),k<=n/\ds.length=k/\iv=.int .i64 (k:Int)/\bv=.int .u32 (r:Int)/\r<=1/\cL ds/\
   aj ds+aj (ys.take k)=aj (xs.take k)+4294967296^k*r/\wr.ownsRow B 78 1 ov n (ints .u32 (ds++xs.drop k))/\Below B w wr
theorem Ah {xs ds:List Nat} {x:Nat} (hk:ds.length<xs.length):(ds++xs.drop ds.length).set ds.length x=(ds++[x])++xs.drop (ds.length+1):=by
 rw[List.set_append_right _ _ (Nat.le_refl _),Nat.sub_self,List.drop_eq_getElem_cons hk,List.set_cons_zero,List.append_assoc];rfl
theorem Ly (p x y r d r' X Y D:Nat) (h:D+Y=X+p*r) (hs:x+4294967296*r'=d+y+r):(D+p*d)+(Y+p*y)=(X+p*x)+p*4294967296*r':=by
 have h2:p*(x+4294967296*r')=p*(d+y+r):=by rw[hs]
 rw[Nat.mul_add,Nat.mul_add,Nat.mul_add,<-Nat.mul_assoc] at h2
 omega
theorem vX.step {w wr:World} {B g cap n k r x y d r':Nat} {xs ys ds:List Nat} (hk:k<n) (hn:xs.length=n) (rb:ds.length=k) (hl:cL ds)
  (hv:aj ds+aj (ys.take k)=aj (xs.take k)+4294967296^k*r) (aI:wr.ownsRow B 78 1 (.slice (some ⟨g,0,none⟩) n cap) n (ints .u32 (ds++xs.drop k))) (hb:Below B w wr)
  (hx:xs.getD k 0=x) (hy:ys.getD k 0=y) (hd:d<4294967296) (Cj:r'<=1) (he:x+4294967296*r'=d+y+r):
  vX w B (.slice (some ⟨g,0,none⟩) n cap) n xs ys (.int .u32 (r':Int)) (.int .i64 ((k:Int)+1)) (wr.setCell ⟨g,k,none⟩ (.int .u32 (d:Int))):=by
 subst rb
 have h1:=Own.gi (j:=ds.length) (x:=d) aI
 rw[Ah aa] at h1
 refine⟨ds.length+1,r',ds++[d],by omega,by simp,rfl,rfl,Cj,hl.append (cL.cons hd cL.nil),?_,h1,hb.setCell (Own.lt aI).1 _⟩
 rw[er,bh,bh,hx,hy,Nat.pow_succ]
 exact Ly _ x y r d r' _ _ _ hv he
set_option maxRecDepth 100000 in
theorem Ai (va vb:Value) (n m:Nat) (xs ys:List Nat) (w:World) (hr:Rd w 1 va n (ints .u32 xs)) (hs:Rd w 1 vb m (ints .u32 ys)) (hx:cL xs) (hy:cL ys) (hn:n<=1073741824):
  Calls Tryz.prog 270 #[va,vb] w λe w'=>((aj xs<aj ys/\e=.returned (.tuple #[.slice none 0 0,.int .i64 2]))\/
   (aj ys<=aj xs/\∃ v',e=.returned (.tuple #[v',.int .i64 0])/\w'.ownsRow w.heap.size 78 1 v' (limbs (aj xs-aj ys)).length (ints .u32 (limbs (aj xs-aj ys)))))/\Below w.heap.size w w':=by
 obtain⟨p,c,rfl,gg,gF,fc⟩:=hr.u32
 obtain⟨q,d,rfl,Hc,Cg,gX⟩:=hs.u32
 obtain⟨a,ha⟩:∃ a,a=aj xs:=⟨_,rfl⟩
 obtain⟨b,hb⟩:∃ b,b=aj ys:=⟨_,rfl⟩
 have Hr:=Lib.hid hr
 have Hs:=Lib.hid hs
 have HL:=Lib.hid hx
 have HM:=Lib.hid hy
 have HX:=Lib.hid fc
 have HY:=Lib.hid gX
 rw[<-ha,<-hb]
 have HA:=Lib.hid ha
 have HB:=Lib.hid hb
 clear fc gX hx hy hr hs ha hb
 refine aV λR' bK=> ?_
 go_enter Tryz.func270,Tryz.ntmps270
 go_wp2_with fail
 refine (dA p n c xs _ Hr.out HL.out).mono ?_
 rintro e w1 ⟨⟨n',hn',rfl,Lv⟩,rfl⟩
 have HLN:=Lib.hid Lv
 clear Lv
 go_wp2_with fail
 refine (dA q m d ys _ Hs.out HM.out).mono ?_
 rintro e w1 ⟨⟨m',hm',rfl,yr⟩,rfl⟩
 have Lw:=Lib.hid yr
 clear yr
 have HN:Hid ((limbs a).length=n'):=by show _=_;rw[HA.out,HLN.out,List.length_take,HX.out];omega
 have HMM:Hid ((limbs b).length=m'):=by show _=_;rw[HB.out,Lw.out,List.length_take,HY.out];omega
 have hra:=Hr.out.limbs hn' HLN.out
 have Jh:=Hs.out.limbs hm' Lw.out
 rw[<-HA.out] at hra
 rw[<-HB.out] at Jh
 have Hra:=Lib.hid hra
 have Hrb:=Lib.hid Jh
 clear hra Jh
 go_wp2_with fail
 refine (Ab _ _ n' m' (limbs a) (limbs b) _ Hra.out Hrb.out (aA a) (aA b)).mono ?_
 rintro e w1 ⟨rfl,dn,rfl⟩
 rw[ak,ak]
 by_cases qd:a<b
 ·have hc:gh a b<0:=jz.2 qd
  generalize gh a b=cv at hc ⊢
  go_wp2_with fail
  exact bK.out _ _ ⟨.inl ⟨qd,rfl⟩,Below.drewN (Below.refl _ _) _⟩
 ·have hc:0<=gh a b:=by have:=mt (@jz a b).1 qd;omega
  generalize gh a b=cv at hc ⊢
  have hmn:m'<=n':=by rw[<-HN.out,<-HMM.out];exact cY aa
  obtain⟨B,hB⟩:∃ B,B=w.heap.size:=⟨_,rfl⟩
  have HBB:=Lib.hid hB
  rw[<-hB] at bK
  clear hB
  go_wp2_with fail
  refine (kh _ n' (limbs a) _ (Rd.drewN Hra.out dn) aa).mono ?_
  rintro e w1 ⟨qv,rfl,aI,hb⟩
  have hb:Below B w w1:=by rw[HBB.out];exact (Below.drewN (Below.refl _ _) dn).trans hb
  have aI:w1.ownsRow B 78 1 qv n' (ints .u32 (limbs a)):=by rw[HBB.out];exact aI
  obtain⟨qp,qc,rfl,_,_,_⟩:=Own.form aI
  have HO:=Lib.hid aI
  have gM:=Lib.hid hb
  clear aI hb
  go_wp2_with fail
  go_loopw [7,22] (λbv iv wr=>vX w B (.slice qp n' qc) n' (limbs a) (limbs b) bv iv wr) (λ_ iv _=>n' -(intOf iv).toNat)
  case atStart=>exact⟨0,0,[],Nat.zero_le _,rfl,rfl,rfl,by omega,cL.nil,by simp[eN],by simpa using HO.out,gM.out⟩
  case round=>
   obtain⟨k,r,ds,hk,rb,rfl,rfl,sR,hl,hv,aI,hb⟩:=hrel
   have nK:=Lib.hid aI
   have Ac:=Lib.hid rb
   have HV:=Lib.hid hv
   have yZ:=Lib.hid hl
   have oe:=Lib.hid hb
   clear aI rb hv hl hb
   by_cases nO:k<n'
   ·obtain⟨g,qc',hv,hbg,Bu⟩:=Own.vi nK.out aa
    simp only[Value.slice.injEq,true_and] at hv
    obtain⟨rfl,rfl⟩:=hv
    obtain⟨x,hx,hcell,yt⟩:=Own.gG nK.out (j:=k) aa
    have fP:(limbs a)[k]? =some x:=by
     rw[List.getElem?_append_right (by rw[Ac.out];omega),Ac.out,List.getElem?_drop] at hx
     simpa using hx
    have vn:=Lib.hid fP
    have jV:=(aA a).at fP
    clear hx fP
    by_cases EZ:k<m'
    ·obtain⟨b2,o2,y,rfl,bM,lX,qA⟩:=(Hrb.out.jd HBB.out oe.out).cellAt EZ
     have Hf:=Lib.hid lX
     have tZ:=(aA b).at lX
     clear lX
     go_wp2_with fail
     refine (yY x y r _ jV tZ aa).mono ?_
     rintro e w2 ⟨⟨dd,rr,rfl,hdd,hrr,heq⟩,rfl⟩
     have HEQ:=Lib.hid heq
     clear heq
     go_wp2_with fail
     go_roundw
     case rel=>exact vX.step nO HN.out Ac.out yZ.out HV.out nK.out oe.out (by simp[List.getD,vn.out]) (by simp[List.getD,Hf.out]) hdd hrr HEQ.out
     case measure=>simp[intOf];omega
    ·have yl:Hid ((limbs b).getD k 0=0):=by show _=_;rw[List.getD,List.getElem?_eq_none (by rw[HMM.out];omega)];rfl
     go_wp2_with fail
     refine (yY x 0 r _ jV aa aa).mono ?_
     rintro e w2 ⟨⟨dd,rr,rfl,hdd,hrr,heq⟩,rfl⟩
     have HEQ:=Lib.hid heq
     clear heq
     go_wp2_with fail
     go_roundw
     case rel=>exact vX.step nO HN.out Ac.out yZ.out HV.out nK.out oe.out (by simp[List.getD,vn.out]) yl.out hdd hrr HEQ.out
     case measure=>simp[intOf];omega
   ·obtain rfl:k=n':=by omega
    go_wp2_with fail
    have h2:=nK.out
    rw[List.drop_of_length_le (Nat.le_of_eq HN.out),List.append_nil] at h2
    refine (dA _ k qc ds _ (Rd.own h2) yZ.out).mono ?_
    rintro e w2 ⟨⟨s,hs,rfl,hls⟩,rfl⟩
    have HLS:=Lib.hid hls
    clear hls
    go_wp2_with fail
    have hval:aj ds=a-b:=by
     have h1:=HV.out
     rw[bD (Nat.le_of_eq HN.out),bD (by rw[HMM.out];exact hmn),ak,ak] at h1
     have h3:=jr yZ.out
     rw[Ac.out] at h3
     have:r=0:=by
      rcases Nat.eq_zero_or_pos r with h|h
      ·exact h
      ·have:r=1:=by omega
       subst this
       omega
     subst this
     omega
    refine bK.out _ _ ⟨.inr ⟨by omega,.slice qp s qc,rfl,?_⟩,oe.out⟩
    have h3:=Own.limbs h2 hs HLS.out
    have e:(limbs (aj ds)).length=s:=by rw[HLS.out,List.length_take,Ac.out];omega
    rw[hval] at h3 e
    rw[e];exact h3
def iC (w:World) (v:Value) (rows:List (List Nat)):Prop:=
 ∃ vs:List Value,Rd w 1 v rows.length vs/\∀ (i:Nat) (xs:List Nat),rows[i]? =some xs->∃ u,vs[i]? =some u/\Rd w 1 u xs.length (ints .u32 xs)
theorem iC.below {w w':World} {v:Value} {rows:List (List Nat)} (h:iC w v rows) (hb:Below w.heap.size w w'):iC w' v rows:=by
 obtain⟨vs,h1,h2⟩:=h
 refine⟨vs,h1.below hb,λi xs hi=> ?_⟩
 obtain⟨u,hu,hr⟩:=h2 i xs hi
 exact⟨u,hu,hr.below hb⟩
theorem iC.at {w:World} {p:Option Addr} {n c k:Nat} {rows:List (List Nat)} (h:iC w (.slice p n c) rows) (hk:k<rows.length):
  ∃ b off u xs,p=some ⟨b,off,none⟩/\rows[k]? =some xs/\w.cell? ⟨b,off+k,none⟩=some u/\Rd w 1 u xs.length (ints .u32 xs):=by
 obtain⟨vs,⟨p',c',hv,_,_,h3,h4⟩,h2⟩:=h
 simp only[Value.slice.injEq] at hv
 obtain⟨rfl,rfl,rfl⟩:=hv
 obtain⟨b,off,hp,hc⟩:=h4 aa
 obtain⟨u,hu,hr⟩:=h2 k _ (List.getElem?_eq_getElem hk)
 exact⟨b,off,u,_,hp,List.getElem?_eq_getElem hk,hc k u hu,hr⟩
theorem iC.form {w:World} {v:Value} {rows:List (List Nat)} (h:iC w v rows):∃ p c,v=.slice p rows.length c/\rows.length<=c/\c<=9223372036854775807:=by
 obtain⟨vs,h1,_⟩:=h
 obtain⟨p,c,hv,h2,h3,_⟩:=h1.form
 unfold maxLen at h3
 exact⟨p,c,hv,h2,by omega⟩
theorem qo {q:Nat} (h:q<4294967296):(q:Int)%4294967296=q:=by omega
theorem vY {n:Nat} (h:n<32):2^n<4294967296:=by
 have:=Nat.pow_lt_pow_right (show 1<2 by omega) h
 omega
theorem uc (x n:Nat) (hn:n<32):(limbs (x*2^n)).length<=(limbs x).length+1:=by
 apply jL
 rw[Nat.pow_succ]
 exact Nat.mul_lt_mul_of_lt_of_le (mL x) (Nat.le_of_lt (vY hn)) aa
set_option maxRecDepth 100000 in
theorem Lz (va:Value) (m n x:Nat) (w:World) (hr:Rd w 1 va m (ints .u32 (limbs x))) (hm:m<=1073741824) (hn:n<32):
  Calls Tryz.prog 305 #[va,.int .i64 (n:Int)] w λe w'=>∃ v',e=.returned v'/\Rd w' 1 v' (limbs (x*2^n)).length (ints .u32 (limbs (x*2^n)))/\Below w.heap.size w w':=by
 obtain⟨p,c,rfl,gg,gF,fc⟩:=hr.u32
 have Hr:=Lib.hid hr
 have HX:=Lib.hid fc
 clear fc hr
 by_cases h0:n=0
 ·subst h0
  refine aV λR' bK=> ?_
  go_enter Tryz.func305,Tryz.ntmps305
  go_wp2
  refine bK.out _ _ ⟨_,rfl,?_,Below.refl _ _⟩
  have:=Hr.out
  rw[Nat.pow_zero,Nat.mul_one,HX.out];exact this
 ·have Aj:((n:Int) == 0)=false:=by rw[beq_eq_false_iff_ne];omega
  refine aV λR' bK=> ?_
  go_enter Tryz.func305,Tryz.ntmps305
  have KV:=vY hn
  have hpe:(2:Int)^n%4294967296=((2^n:Nat):Int):=by
   have:(2:Int)^n=((2^n:Nat):Int):=by simp
   rw[this];exact qo KV
  have HP:=Lib.hid hpe
  clear hpe
  go_wp2_with fail
  rw[HP.out]
  refine (Ae _ m (2^n) (limbs x) _ Hr.out (aA x) hm KV).mono ?_
  rintro e w1 ⟨v',rfl,aI,hb⟩
  rw[ak] at aI
  go_wp2
  exact bK.out _ _ ⟨_,rfl,Rd.own aI,hb⟩
set_option maxRecDepth 100000 in
theorem Jj (va:Value) (m n:Nat) (xs:List Nat) (w:World) (hr:Rd w 1 va m (ints .u32 xs)) (hx:cL xs) (hm:m<=1073741824) (hn:n<32):
  Calls Tryz.prog 306 #[va,.int .i64 (n:Int)] w λe w'=>(∃ v' k rs,e=.returned v'/\k<=1073741824/\Rd w' 1 v' k (ints .u32 rs)/\cL rs/\aj rs=aj xs/2^n)/\Below w.heap.size w w':=by
 obtain⟨p,c,rfl,gg,gF,fc⟩:=hr.u32
 have Hr:=Lib.hid hr
 have HX:=Lib.hid fc
 have HL:=Lib.hid hx
 clear fc hr hx
 by_cases h0:n=0
 ·subst h0
  refine aV λR' bK=> ?_
  go_enter Tryz.func306,Tryz.ntmps306
  go_wp2
  exact bK.out _ _ ⟨⟨_,m,xs,rfl,hm,Hr.out,HL.out,by rw[Nat.pow_zero,Nat.div_one]⟩,Below.refl _ _⟩
 ·have Aj:((n:Int) == 0)=false:=by rw[beq_eq_false_iff_ne];omega
  refine aV λR' bK=> ?_
  go_enter Tryz.func306,Tryz.ntmps306
  have KV:=vY hn
  have Hh:2^n≠0:=by have:=Nat.pow_pos (n:=n) (show 0<2 by omega);omega
  have hpe:(2:Int)^n%4294967296=((2^n:Nat):Int):=by
   have:(2:Int)^n=((2^n:Nat):Int):=by simp
   rw[this];exact qo KV
  have HP:=Lib.hid hpe
  have HPP:=Lib.hid Hh
  clear hpe Hh
  go_wp2_with fail
  rw[HP.out]
  refine (rA _ m (2^n) xs _ Hr.out HL.out hm KV).mono ?_
  rintro e w1 ⟨⟨h,_⟩|⟨_,v',rfl,aI⟩,hb⟩
  ·exact absurd h HPP.out
  ·have HO:=Lib.hid aI
   have hlen:(limbs (aj xs/2^n)).length<=m:=Nat.le_trans (cY (Nat.div_le_self _ _)) (by rw[<-HX.out];exact iB HL.out)
   clear aI
   go_wp2
   exact bK.out _ _ ⟨⟨_,_,_,rfl,Nat.le_trans hlen hm,Rd.own HO.out,aA _,ak _⟩,hb⟩
set_option maxRecDepth 100000 in
theorem LA (n:Nat) (w:World) (hn:n<=2147483648):
  Calls Tryz.prog 316 #[.slice none 0 0,.int .i64 (n:Int)] w λe w'=>∃ v',e=.returned v'/\w'.ownsRow w.heap.size 78 1 v' 0 []/\Below w.heap.size w w':=by
 by_cases h0:n=0
 ·subst h0
  refine aV λR' bK=> ?_
  go_enter Tryz.func316,Tryz.ntmps316
  go_wp2
  exact bK.out _ _ ⟨_,rfl,World.ownsRow_nil _ _ _ _,Below.refl _ _⟩
 ·obtain⟨i0,hi,iW,fI,jf⟩:=info_parts js
  obtain⟨C,hC⟩:∃ C,C=grownCap w n 0 78:=⟨_,rfl⟩
  have HC:=Lib.hid hC
  have hap0:=Lib.run_append_nil_zeros (P:=Tryz.prog) w 23 3 23 78 i0 (.int .u32 0) .i64 .i64 Tryz.underlying23 Tryz.underlying3 hi iW n aa aa aa (by rw[jf];omega)
  rw[<-hC] at hap0
  have HAP:=Lib.hid hap0
  have hCn:n<=C:=by rw[hC];exact grownCap_ge w n 0 _
  have hCm:C<=9223372036854775807:=by
   have:=grownCap_le_maxLen w n 0 78 (by unfold maxLen;omega)
   unfold maxLen at this
   omega
  have hn0:0<n:=by omega
  clear hC h0 hap0
  refine aV λR' bK=> ?_
  go_enter Tryz.func316,Tryz.ntmps316
  go_wp2_with (at_builtin;refine wpList_append_run rfl _ _ 23 3 rfl _ _ rfl rfl _ _ HAP.out ?_)
  refine bK.out _ _ ⟨_,rfl,?_,?_⟩
  ·exact World.ownsRow_made w.drew _ C (Nat.le_refl _) (by unfold maxLen;omega) (by rw[Array.size_append,size_zeroCells,size_zeroCells];show n*1+(C-n)*1=C*1;omega)
  ·exact (Below.drew (Below.refl _ _)).alloc (Nat.le_refl _) _
def flat (rows:List (List Nat)):List Nat:=rows.flatten
theorem sU (rows:List (List Nat)) (xs:List Nat):flat (rows++[xs])=flat rows++xs:=by simp[flat]
theorem mN (rows:List (List Nat)) (k:Nat):(flat (rows.take k)).length<=(flat rows).length:=by
 conv=>rhs;rw[<-List.take_append_drop k rows]
 simp only[flat,List.flatten_append,List.length_append]
 omega
def CatA (rows:List (List Nat)) (sv iv:Value):Prop:=∃ k,k<=rows.length/\iv=.int .i64 (k:Int)/\sv=.int .i64 ((flat (rows.take k)).length:Int)
def CatB (w:World) (B:Nat) (rows:List (List Nat)) (ov iv:Value) (wr:World):Prop:=
 ∃ k,k<=rows.length/\iv=.int .i64 (k:Int)/\wr.ownsRow B 78 1 ov (flat (rows.take k)).length (ints .u32 (flat (rows.take k)))/\Below B w wr
set_option maxRecDepth 100000 in
theorem Fa (va:Value) (rows:List (List Nat)) (w:World) (hr:iC w va rows) (hn:(flat rows).length<=2147483648):
  Calls Tryz.prog 304 #[va] w λe w'=>∃ v',e=.returned v'/\w'.ownsRow w.heap.size 78 1 v' (flat rows).length (ints .u32 (flat rows))/\Below w.heap.size w w':=by
 obtain⟨p,c,rfl,gg,gF⟩:=hr.form
 have Hr:=Lib.hid hr
 obtain⟨i0,hi,iW,fI,jf⟩:=info_parts js
 obtain⟨B,hB⟩:∃ B,B=w.heap.size:=⟨_,rfl⟩
 have HB:=Lib.hid hB
 obtain⟨N,hN⟩:∃ N,N=rows.length:=⟨_,rfl⟩
 rw[<-hN] at gg ⊢
 have HN:=Lib.hid hN
 rw[<-hB]
 clear hr hB hN
 refine aV λR' bK=> ?_
 go_enter Tryz.func304,Tryz.ntmps304
 go_wp2
 go_loop [3,11] (λsv iv=>CatA rows sv iv) (λ_ iv=>N-(intOf iv).toNat)
 case atStart=>exact⟨0,Nat.zero_le _,rfl,by simp[flat]⟩
 case round=>
  obtain⟨k,hk,rfl,rfl⟩:=hrel
  rw[<-HN.out] at hk
  have jM:=mN rows k
  by_cases nO:k<N
  ·obtain⟨b1,o1,u,xs,rfl,fP,nN,uR⟩:=Hr.out.at (k:=k) (by rw[<-HN.out];exact nO)
   obtain⟨q,d,rfl,_,_,_⟩:=uR.u32
   have hfs:(flat (rows.take (k+1))).length=(flat (rows.take k)).length+xs.length:=by rw[bG fP,sU,List.length_append]
   have hfl2:=mN rows (k+1)
   have HFS:=Lib.hid hfs
   rw[hfs] at hfl2
   clear fP uR hfs
   generalize (flat (rows.take k)).length=L at*
   go_wp2
   go_round
   case rel=>exact⟨k+1,by rw[<-HN.out];omega,by go_num,by rw[HFS.out];go_num⟩
   case measure=>simp[intOf];omega
  ·obtain rfl:k=N:=by omega
   have hL:Hid (flat (rows.take k)=flat rows):=by show _=_;rw[List.take_of_length_le (by rw[HN.out];exact Nat.le_refl _)]
   rw[hL.out]
   rw[hL.out] at jM
   generalize hLL:(flat rows).length=L at hn jM
   have HLL:=Lib.hid hLL
   rw[hLL] at bK
   clear hLL
   go_wp2_with fail
   refine (LA L _ aa).mono ?_
   rintro e w1 ⟨ov,rfl,aI,hb⟩
   rw[<-HB.out] at aI hb
   have HO:=Lib.hid aI
   have gM:=Lib.hid hb
   clear aI hb
   go_wp2_with fail
   go_loopw [6,27] (λov iv wr=>CatB w B rows ov iv wr) (λ_ iv _=>k-(intOf iv).toNat)
   case atStart=>exact⟨0,Nat.zero_le _,rfl,by simpa [flat,ints] using HO.out,gM.out⟩
   case round=>
    obtain⟨j,hj,rfl,aI,hb⟩:=hrel
    have nK:=Lib.hid aI
    have oe:=Lib.hid hb
    rw[<-HN.out] at hj
    clear aI hb
    by_cases hjn:j<k
    ·obtain⟨b1,o1,u,xs,rfl,fP,nN,uR⟩:=((Hr.out.below (by have:=oe.out;rwa [HB.out] at this)).at (k:=j) (by rw[<-HN.out];exact hjn))
     have hfs:(flat (rows.take (j+1))).length=(flat (rows.take j)).length+xs.length:=by rw[bG fP,sU,List.length_append]
     have hfl2:=mN rows (j+1)
     have HFS:=Lib.hid hfs
     have hsz:(flat (rows.take j)).length+xs.length<=2147483648:=by have:=HLL.out;omega
     have vn:=Lib.hid fP
     have HRU:=Lib.hid uR
     have sS:B<=wr.heap.size:=by have:=oe.out.size;have:=HB.out;omega
     clear fP uR hfs hfl2
     go_wp2_with (at_builtin;refine je _ rfl _ _ 23 rfl B 78 i0 (.int .u32 0) 1 4 Tryz.underlying23 hi iW fI jf rfl cH _ _ _ rfl nK.out _ xs.length _ rfl HRU.out (lU _ _) (by unfold maxLen;omega) aa sS ?_;intro v' w2 kD hgr2)
     have LB:Hid (w2.ownsRow B 78 1 v' (flat (rows.take (j+1))).length (ints .u32 (flat (rows.take (j+1))))):=by
      show World.ownsRow ..
      rw[HFS.out,bG vn.out,sU,gW];exact kD
     have KW:Hid (Below B w w2):=Below.Lq oe.out hgr2 nK.out sS (Nat.le_refl _)
     clear kD hgr2
     go_wp2_with fail
     go_roundw
     case rel=>exact⟨j+1,by rw[<-HN.out];omega,by go_num,LB.out,KW.out⟩
     case measure=>simp[intOf];omega
    ·obtain rfl:j=k:=by omega
     go_wp2_with fail
     refine bK.out _ _ ⟨_,rfl,?_,oe.out⟩
     have:=nK.out
     rw[hL.out,HLL.out] at this
     exact this
theorem iC.two {w:World} {g:Nat} {u v:Value} {xs ys:List Nat} {t:Nat} {fr:Nat×Nat} (h:w.heap[g]? =some (.cells #[u,v] t fr)) (hx:Rd w 1 u xs.length (ints .u32 xs)) (hy:Rd w 1 v ys.length (ints .u32 ys)):
  iC w (.slice (some ⟨g,0,none⟩) 2 2) [xs,ys]:=by
 refine⟨[u,v],⟨_,2,rfl,Nat.le_refl _,by simp[maxLen],rfl,λ_=>⟨g,0,rfl,λj z hj=> ?_⟩⟩,λi zs hi=> ?_⟩
 ·match j,hj with
  | 0,hj=>simp at hj;subst hj;simp[World.cell?,h]
  | 1,hj=>simp at hj;subst hj;simp[World.cell?,h]
 ·match i,hi with
  | 0,hi=>simp at hi;subst hi;exact⟨u,rfl,hx⟩
  | 1,hi=>simp at hi;subst hi;exact⟨v,rfl,hy⟩
theorem Hi {w:World} {o:Obj} {k:Nat} (h:k=w.heap.size):(w.alloc o).heap[k]? =some o:=by subst h;exact heap_alloc_new w o
theorem ordA {w w2 w3:World} {z o:Obj} (bM:Below (w.alloc z).drew.heap.size (w.alloc z).drew w2) (dU:Below (w2.alloc o).heap.size (w2.alloc o) w3):Below w.heap.size w w3/\w.heap.size<=(w2.alloc o).heap.size:=by
 have h1:=bM.size
 simp at h1
 have h0:Below w.heap.size w (w.alloc z).drew:=((Below.refl w.heap.size w).alloc (Nat.le_refl _) z).drew
 have h2:Below w.heap.size w w2:=h0.trans (bM.mono ew)
 exact⟨(h2.alloc aa o).trans (dU.mono (by simp;omega)),by simp;omega⟩
theorem ordB {w w2 w3:World} {z o:Obj} (bM:Below w.drew.heap.size w.drew w2) (dU:Below ((w2.alloc z).alloc o).heap.size ((w2.alloc z).alloc o) w3):Below w.heap.size w w3/\w.heap.size<=((w2.alloc z).alloc o).heap.size:=by
 have h1:=bM.size
 simp at h1
 have h2:Below w.heap.size w w2:=(Below.refl w.heap.size w).drew.trans bM
 exact⟨((h2.alloc aa z).alloc (by simp;omega) o).trans (dU.mono (by simp;omega)),by simp;omega⟩
theorem rB (w:World) (q:Nat) (h:q<=9223372036854775807):Rd (w.alloc (.cells (madeCells #[Value.int .u32 0] q) 78)) 1 (.slice (some ⟨w.heap.size,0,none⟩) q q) (List.replicate q 0).length (ints .u32 (List.replicate q 0)):=by
 have h1:=World.ownsRow_lit (base:=0) (size:=1) (e:=78) w (madeCells (Value.int .u32 0).cells (q*1)) q (Nat.zero_le _) (by unfold maxLen;omega) (size_madeCells _ _)
 have h2:=Rd.own (Own.made h1)
 rw[List.length_replicate]
 rw[Nat.mul_one,List.nil_append] at h2
 exact h2
set_option maxRecDepth 100000 in
theorem Fb (p:Option Addr) (m c n x:Nat) (xs:List Nat) (w:World) (hr:Rd w 1 (.slice p m c) m (ints .u32 xs)) (hx:cL xs) (hv:aj xs=x) (hm:m<=1073741824) (nG:x≠0) (hn:n<=65536):
  Calls Tryz.prog 273 #[.slice p m c,.int .i64 (n:Int)] w λe w'=>∃ v',e=.returned (.tuple #[v',.int .i64 0])/\w'.ownsRow w.heap.size 78 1 v' (limbs (x*2^n)).length (ints .u32 (limbs (x*2^n)))/\Below w.heap.size w w':=by
 obtain⟨p',c',hv',gg,gF,fc⟩:=hr.u32
 simp only[Value.slice.injEq,true_and] at hv'
 obtain⟨rfl,rfl⟩:=hv'
 have Hr:=Lib.hid hr
 have HX:=Lib.hid fc
 have HL:=Lib.hid hx
 have HV:=Lib.hid hv
 obtain⟨i0,hi,iW,fI,jf⟩:=info_parts js
 have hmk:∀ W:World,(Instr.makeSlice 23 (.int .i64 ((n:Int)/32)) (.int .i64 ((n:Int)/32))).run Tryz.prog W=.ok (.slice (some ⟨W.heap.size,0,none⟩) (n/32) (n/32)) (W.alloc (.cells (madeCells (Value.int .u32 0).cells (n/32*1)) 78)):=λW=>by
  have:=run_make (P:=Tryz.prog) W 23 78 i0 (.int .u32 0) Tryz.underlying23 hi iW .i64 .i64 ((n:Int)/32) ((n:Int)/32) aa (Int.le_refl _) (by rw[jf];omega) aa
  rw[fI,show ((n:Int)/32).toNat=n/32 by omega] at this
  exact this
 clear fc hr hx hv hi iW fI jf
 refine aV λR' bK=> ?_
 go_enter Tryz.func273,Tryz.ntmps273
 go_wp2_with fail
 refine (dA p m c xs _ Hr.out HL.out).mono ?_
 rintro e w1 ⟨⟨r,hrm,rfl,ER⟩,rfl⟩
 have sN:Hid ((limbs x).length=r):=by
  show _=_
  rw[<-HV.out,ER,List.length_take,HX.out];omega
 have sK:=Hr.out.limbs hrm ER
 rw[HV.out] at sK
 have HRD:=Lib.hid sK
 clear ER sK
 have sL:0<r:=by rw[<-sN.out];exact dM nG
 have Hj:∀ W:World,Rd W 1 (.slice p r c) r (ints .u32 (limbs x))->Calls Tryz.prog 305 #[.slice p r c,.int .i64 ((n:Int)%32)] W λe w'=>∃ v',e=.returned v'/\Rd w' 1 v' (limbs (x*2^(n%32))).length (ints .u32 (limbs (x*2^(n%32))))/\Below W.heap.size W w':=λW h=>by
  have:=Lz (.slice p r c) r (n%32) x W h aa (Nat.mod_lt _ aa)
  rwa [show ((n%32:Nat):Int)=(n:Int)%32 by omega] at this
 have HLEFT:=Lib.hid Hj
 clear Hj
 have jM:(flat [List.replicate (n/32) 0,limbs (x*2^(n%32))])=limbs (x*2^n):=by
  have h1:=Ce (x:=x*2^(n%32)) (n/32) (Nat.mul_ne_zero nG (by have:=Nat.pow_pos (n:=n%32) (show 0<2 by omega);omega))
  simp only[flat,List.flatten_cons,List.flatten_nil,List.append_nil]
  rw[h1,Nat.mul_assoc,Ca,<-Nat.pow_add,Nat.mod_add_div]
 have hfn:(flat [List.replicate (n/32) 0,limbs (x*2^(n%32))]).length<=2147483648:=by
  simp only[flat,List.flatten_cons,List.flatten_nil,List.append_nil,List.length_append,List.length_replicate]
  have:=uc x (n%32) (Nat.mod_lt _ aa)
  rw[sN.out] at this
  omega
 have HFL:=Lib.hid jM
 have HFN:=Lib.hid hfn
 clear jM hfn nG
 go_wp2_with fail
 have sO:IntKind.i64.wrap ((n:Int)/32)=(n:Int)/32:=IntWalk.i64_in _ aa
 have hw2:(n:Int).tmod 32=(n:Int)%32:=Int.tmod_eq_emod_of_nonneg aa
 go_region_with (first
  | (go_at_call 305;refine (HLEFT.out _ (by first|exact HRD.out|exact Rd.alloc (Rd.drew HRD.out) _)).mono ?_;rintro e w2 ⟨v2,rfl,hrd2,bM⟩;obtain⟨p2,c2,rfl,_,_,_⟩:=hrd2.form)
  | (go_at_call 304;refine (Fa _ [List.replicate (n/32) 0,limbs (x*2^(n%32))] _ (by first|exact iC.two (heap_alloc_new _ _) (Rd.alloc (Rd.below (Rd.drew (rB _ _ aa)) bM) _) (Rd.alloc hrd2 _)|exact iC.two (Hi ew) (Rd.alloc (rB _ _ aa) _) (Rd.alloc (Rd.alloc hrd2 _) _)) HFN.out).mono ?_;rintro e w3 ⟨v3,rfl,LC,dU⟩))
 all_goals
  go_wp2
  go_ret2
  refine bK.out _ _ ⟨v3,rfl,?_,?_⟩
  ·rw[HFL.out] at LC
   first|exact Own.mono LC (ordA bM dU).2|exact Own.mono LC (ordB bM dU).2
  ·first|exact (ordA bM dU).1|exact (ordB bM dU).1
theorem sV {x m k:Nat} (h:(limbs x).length<=m) (hk:32*m<=k):x/2^k=0:=by
 apply Nat.div_eq_of_lt
 have h1:=mL x
 have h2:=Nat.pow_le_pow_right (show 0<4294967296 by omega) h
 rw[Ca] at h1 h2
 have h3:=Nat.pow_le_pow_right (show 0<2 by omega) hk
 rw[Ca] at h2
 omega
set_option maxRecDepth 100000 in
theorem sW (va:Value) (m x:Nat) (n:Int) (xs:List Nat) (w:World) (hr:Rd w 1 va m (ints .u32 xs)) (hx:cL xs) (hv:aj xs=x) (hm:m<=1073741824) (hn0: -9223372036854775808<=n) (nP:n<=9223372036854775807):
  Calls Tryz.prog 273 #[va,.int .i64 n] w λe w'=>((x≠0/\65536<n/\e=.returned (.tuple #[.slice none 0 0,.int .i64 3]))\/
   (¬ (x≠0/\65536<n)/\∃ v',e=.returned (.tuple #[v',.int .i64 0])/\w'.ownsRow w.heap.size 78 1 v' (limbs (gu x n)).length (ints .u32 (limbs (gu x n)))))/\Below w.heap.size w w':=by
 obtain⟨p,c,rfl,gg,gF,fc⟩:=hr.u32
 have Hr:=Lib.hid hr
 have HX:=Lib.hid fc
 have HL:=Lib.hid hx
 have HV:=Lib.hid hv
 clear fc hr hx hv
 by_cases vR:x≠0/\0<=n/\n<=65536
 ·obtain⟨nG,h0,h1⟩:=vR
  obtain⟨k,rfl⟩:=Int.eq_ofNat_of_zero_le h0
  refine (Fb p m c k x xs w Hr.out HL.out HV.out hm nG aa).mono ?_
  rintro e w' ⟨v',rfl,aI,hb⟩
  refine⟨.inr ⟨by omega,v',rfl,?_⟩,hb⟩
  have:gu x (k:Int)=x*2^k:=by simp[gu]
  rw[this];exact aI
 ·refine aV λR' bK=> ?_
  go_enter Tryz.func273,Tryz.ntmps273
  go_wp2_with fail
  refine (dA p m c xs _ Hr.out HL.out).mono ?_
  rintro e w1 ⟨⟨r,hrm,rfl,ER⟩,rfl⟩
  have sN:(limbs x).length=r:=by
   rw[<-HV.out,ER,List.length_take,HX.out];omega
  have sK:=Hr.out.limbs hrm ER
  rw[HV.out] at sK
  have HRD:=Lib.hid sK
  have LD:=Lib.hid sN
  clear ER sK
  by_cases nG:x=0
  ·have sL:r=0:=by rw[<-sN,nG,bP];rfl
   have HX0:=Lib.hid nG
   have Jh:((r:Int) == 0)=true:=by rw[beq_iff_eq];omega
   clear nG sL sN vR
   go_wp2_with fail
   refine bK.out _ _ ⟨.inr ⟨λh=>h.1 HX0.out,.slice none 0 0,rfl,?_⟩,Below.refl _ _⟩
   have:gu x n=0:=by simp[gu,HX0.out]
   rw[this,bP];exact World.ownsRow_nil _ _ _ _
  ·have sL:0<r:=by rw[<-sN];exact dM nG
   have Jh:((r:Int) == 0)=false:=by rw[beq_eq_false_iff_ne];omega
   clear sN
   by_cases Ak:65536<n
   ·go_wp2_with fail
    exact bK.out _ _ ⟨.inl ⟨nG,Ak,rfl⟩,Below.refl _ _⟩
   ·have Al:n<0:=by
     by_cases h:n<0
     ·exact h
     ·exact absurd ⟨nG,by omega,by omega⟩ vR
    clear vR
    have HX0:=Lib.hid nG
    clear nG
    have hmul:IntKind.i64.wrap (-32*(r:Int))= -32*(r:Int):=IntWalk.i64_in _ aa
    by_cases Am:n<=-32*(r:Int)
    ·go_wp2_with fail
     refine bK.out _ _ ⟨.inr ⟨λh=>by omega,.slice none 0 0,rfl,?_⟩,Below.refl _ _⟩
     have:gu x n=0:=by
      unfold gu
      rw[if_neg aa]
      exact sV (m:=r) (by rw[LD.out];exact Nat.le_refl _) aa
     rw[this,bP];exact World.ownsRow_nil _ _ _ _
    ·obtain⟨k,rfl⟩:∃ k:Nat,n= -(k:Int):=⟨(-n).toNat,by omega⟩
     obtain⟨b,off,y,rfl,_,_,_⟩:=HRD.out.cellAt (k:=0) sL
     have hkr:k/32<r:=by omega
     have hneq:¬ (c=k/32):=by omega
     have zc:0<k:=by omega
     have Ck:Rd w 1 (.slice (some ⟨b,off+k/32,none⟩) (r-k/32) (c-k/32)) (r-k/32) (ints .u32 ((limbs x).drop (k/32))):=by
      obtain⟨p',c',hv',h1,h2,h3,h4⟩:=HRD.out
      simp only[Value.slice.injEq,true_and] at hv'
      obtain⟨rfl,rfl⟩:=hv'
      refine⟨_,_,rfl,by omega,by unfold maxLen at h2 ⊢;omega,by rw[tW,List.length_drop,LD.out];omega,λ_=>⟨b,off+k/32,rfl,λj u hj=> ?_⟩⟩
      obtain⟨b',off',hp,hc⟩:=h4 aa
      simp only[Option.some.injEq,Addr.mk.injEq,and_true] at hp
      obtain⟨rfl,rfl⟩:=hp
      rw[<-Jb,List.getElem?_drop] at hj
      have:=hc _ _ hj
      rwa [<-Nat.add_assoc] at this
     have HDR:=Lib.hid Ck
     clear Ck
     have hq1:0<=(k:Int)/32:=by omega
     have hq2:(k:Int)/32<(r:Int):=by omega
     go_wp2_with fail
     rw[show (k:Int)%32=((k%32:Nat):Int) by omega]
     refine (Jj _ _ (k%32) _ _ HDR.out ((aA x).drop _) aa (Nat.mod_lt _ aa)).mono ?_
     rintro e w1 ⟨⟨v1,m1,rs,rfl,hm1,hrd1,yu,Bv⟩,bl⟩
     obtain⟨p1,c1,rfl,_,_,hrl⟩:=hrd1.u32
     have HR1:=Lib.hid hrd1
     have HV1:=Lib.hid Bv
     have HRL:=Lib.hid hrl
     clear hrd1 Bv hrl
     go_wp2_with fail
     refine (dA p1 m1 c1 rs _ HR1.out yu).mono ?_
     rintro e w2 ⟨⟨r2,qe,rfl,hlr2⟩,rfl⟩
     have hml2:Hid ((limbs (aj rs)).length=r2):=by show _=_;rw[hlr2,List.length_take,HRL.out];omega
     have HR2:=Lib.hid (HR1.out.limbs qe hlr2)
     clear hlr2
     go_wp2_with fail
     refine (kh _ r2 _ _ HR2.out aa).mono ?_
     rintro e w2 ⟨v2,rfl,aI,bM⟩
     have hval:gu x (-(k:Int))=aj rs:=by
      unfold gu
      rw[if_neg aa,HV1.out,uQ x (k/32) (by rw[LD.out];omega),Nat.div_div_eq_div_mul,Ca,<-Nat.pow_add,Nat.div_add_mod]
      simp
     go_wp2_with fail
     refine bK.out _ _ ⟨.inr ⟨λh=>by omega,v2,rfl,?_⟩,bl.trans (bM.mono bl.size)⟩
     rw[hval,hml2.out]
     exact Own.mono aI bl.size
end
section
theorem Cl {xs:List Nat} {j o v:Nat} (h:xs[j]? =some o):aj (xs.set j v)+4294967296^j*o=aj xs+4294967296^j*v:=by
 obtain⟨hl,he⟩:=List.getElem?_eq_some_iff.1 h
 have h1:xs=xs.take j++o::xs.drop (j+1):=by rw[<-he,<-List.drop_eq_getElem_cons hl,List.take_append_drop]
 have h2:xs.set j v=xs.take j++v::xs.drop (j+1):=by
  conv=>lhs;rw[h1]
  rw[List.set_append_right _ _ (by rw[List.length_take];omega)]
  rw[List.length_take,Nat.min_eq_left aa,Nat.sub_self];rfl
 have e1:aj xs=aj (xs.take j)+4294967296^j*(o+4294967296*aj (xs.drop (j+1))):=by
  conv=>lhs;rw[h1]
  rw[eO,List.length_take,Nat.min_eq_left aa,fH]
 have e2:aj (xs.set j v)=aj (xs.take j)+4294967296^j*(v+4294967296*aj (xs.drop (j+1))):=by
  rw[h2,eO,List.length_take,Nat.min_eq_left aa,fH]
 rw[e1,e2,Nat.mul_add,Nat.mul_add]
 omega
theorem cL.set {xs:List Nat} (h:cL xs) {v:Nat} (hv:v<4294967296) (j:Nat):cL (xs.set j v):=λy hy=>by
 rcases List.mem_or_eq_of_mem_set hy with h1|h1
 ·exact h y h1
 ·rw[h1];exact hv
theorem vZ (k:Nat):aj (List.replicate k 0)=0:=gR _ k
theorem wh {xs:List Nat} (k:Nat) (hk:k<=xs.length):aj xs=aj (xs.take k)+4294967296^k*aj (xs.drop k):=jq _ xs k hk
theorem qq {xs:List Nat} {k x:Nat} (h:xs[k]? =some x):aj (xs.drop k)=x+4294967296*aj (xs.drop (k+1)):=qm h
theorem Cm {os:List Nat} {i k x y o c s S Y:Nat} (ho:os[i+k]? =some o) (hs:s=x*y+o+c) (h:aj os+4294967296^(i+k)*c=S+4294967296^i*(x*Y)):
  aj (os.set (i+k) (s%4294967296))+4294967296^(i+(k+1))*(s/4294967296)=S+4294967296^i*(x*(Y+4294967296^k*y)):=by
 have h1:=Cl (v:=s%4294967296) ho
 have h2:4294967296^(i+(k+1))=4294967296^(i+k)*4294967296:=by rw[<-Nat.add_assoc,Nat.pow_succ]
 have h3:4294967296^(i+k)*s=4294967296^(i+k)*(s%4294967296)+4294967296^(i+k)*4294967296*(s/4294967296):=by
  rw[Nat.mul_assoc,<-Nat.mul_add,Nat.mod_add_div]
 have h4:4294967296^(i+k)*s=4294967296^(i+k)*(x*y)+4294967296^(i+k)*o+4294967296^(i+k)*c:=by rw[hs,Nat.mul_add,Nat.mul_add]
 have h5:4294967296^i*(x*(Y+4294967296^k*y))=4294967296^i*(x*Y)+4294967296^(i+k)*(x*y):=by
  rw[Nat.mul_add,Nat.mul_add,Nat.pow_add]
  congr 1
  rw[Nat.mul_left_comm x,Nat.mul_assoc]
 rw[h2,h5]
 omega
theorem rC {x y o c:Nat} (hx:x<4294967296) (hy:y<4294967296) (ho:o<4294967296) (hc:c<4294967296):x*y+o+c<18446744073709551616:=by
 have h1:x*y<=4294967295*4294967295:=Nat.mul_le_mul aa aa
 omega
def gS (U V:Nat):Nat:=min 4294967295 (U/V)
theorem Cn {U V:Nat}:gS U V*V<=U:=Nat.le_trans (Nat.mul_le_mul_right _ (Nat.min_le_right _ _)) (Nat.div_mul_le_self U V)
theorem zd {U V t:Nat} (hV:0<V) (ht:t<=4294967295) (h:t*V<=U):t<=gS U V:=by
 unfold gS
 rw[Nat.le_min]
 exact⟨ht,(Nat.le_div_iff_mul_le hV).2 h⟩
theorem Fc {p U V u b lu lb:Nat} (hp:0<p) (hu:u=U*p+lu) (hlu:lu<p) (hb:b=V*p+lb) (ES:lb<p) (hV:4294967296<=V) (hub:u<4294967296*b):
  u/b<=gS U V/\gS U V<=u/b+1:=by
 have hV0:0<V:=by omega
 have pH:0<b:=by have:0<V*p:=Nat.mul_pos hV0 hp;omega
 constructor
 ·refine zd hV0 ?_ ?_
  ·have:u/b<4294967296:=by rw[Nat.div_lt_iff_lt_mul pH];exact hub
   omega
  ·have h1:u/b*b<=u:=Nat.div_mul_le_self u b
   have h2:u/b*V*p<=U*p+lu:=by
    rw[hb] at h1
    rw[hu,Nat.mul_add,<-Nat.mul_assoc] at h1
    rw[<-hb,<-hu] at h1
    have:u/b*V*p<=u:=by omega
    omega
   rcases Nat.lt_or_ge U (u/b*V) with h|h
   ·have h3:(U+1)*p<=u/b*V*p:=Nat.mul_le_mul_right _ h
    rw[Nat.add_mul] at h3
    omega
   ·exact h
 ·have hg:=@Cn U V
  have hgB:gS U V<=4294967295:=Nat.min_le_left _ _
  generalize gS U V=q at hg hgB
  have h1:q*V*p<=U*p:=Nat.mul_le_mul_right _ hg
  have h2:q*lb<=4294967295*lb:=Nat.mul_le_mul_right _ hgB
  have h3:q*b=q*V*p+q*lb:=by rw[hb,Nat.mul_add,<-Nat.mul_assoc]
  have h4:4294967296*p<=V*p:=Nat.mul_le_mul_right _ hV
  have h5:q*b<u+b:=by omega
  have h6:q<u/b+2:=by
   have h7:u<(u/b+1)*b:=by rw[Nat.add_mul];have e1:=Nat.div_add_mod u b;have e2:=Nat.mod_lt u pH;rw[Nat.mul_comm] at e1;omega
   have h8:q*b<(u/b+2)*b:=by rw[Nat.add_mul];rw[Nat.add_mul] at h7;omega
   exact Nat.lt_of_mul_lt_mul_right h8
  omega
theorem Ff {B p a y q c r x nV X Y D:Nat} (h:D+q*Y=X+p*(c+r)) (hx:a+B*nV=x+(q*y+c)%B+r):
  (D+p*x)+q*(Y+p*y)=(X+p*a)+p*B*((q*y+c)/B+nV):=by
 have h1:=Nat.mod_add_div (q*y+c) B
 have h2:p*(a+B*nV)=p*x+p*((q*y+c)%B)+p*r:=by rw[hx,Nat.mul_add,Nat.mul_add]
 have h3:p*((q*y+c)%B)+p*(B*((q*y+c)/B))=p*(q*y)+p*c:=by rw[<-Nat.mul_add,h1,Nat.mul_add]
 have h4:q*(Y+p*y)=q*Y+p*(q*y):=by rw[Nat.mul_add,Nat.mul_left_comm]
 have h5:p*B*((q*y+c)/B+nV)=p*(B*((q*y+c)/B))+p*(B*nV):=by rw[Nat.mul_assoc,Nat.mul_add,Nat.mul_add]
 rw[Nat.mul_add] at h2 h
 rw[h4,h5]
 omega
end
section
open Go.RowKit
theorem tab_fin:∀ i:Fin 256,(Lib.len8tab[i.val]'(by have:=i.2;have:Lib.len8tab.size=256:=by decide+kernel
                                                    omega)).toNat=ij i.val:=by decide+kernel
theorem Co:Lib.len8tab.size=256:=by decide+kernel
theorem tab_at (i:Nat) (h:i<Lib.len8tab.size):(Lib.len8tab[i]'h).toNat=ij i:=tab_fin ⟨i,by rw[Co] at h;exact h⟩
theorem wi {t k:Nat} (h:2^k<=t):ij t=k+ij (t/2^k):=by
 have hp:0<2^k:=Nat.pow_pos aa
 have hq:t/2^k≠0:=by
  have:=(Nat.le_div_iff_mul_le hp).2 (show 1*2^k<=t by omega)
  omega
 have h1:=vf (t/2^k)
 have h2:=vh hq
 have h0:=rn hq
 refine Hb ?_ (.inr ?_)
 ·rw[Nat.pow_add,Nat.mul_comm]
  exact (Nat.div_lt_iff_lt_mul hp).1 h1
 ·rw[show k+ij (t/2^k)-1=(ij (t/2^k)-1)+k by omega,Nat.pow_add]
  exact (Nat.le_div_iff_mul_le hp).1 h2
theorem mO {i:Nat} (h:i<256):ij i<=8:=ql (k:=8) h
set_option maxRecDepth 100000 in
theorem Jk (x:Int) (w:World) (h0:0<=x) (h1:x<=4294967295):
  Calls Tryz.prog 257 #[.int .u32 x] w λe w'=>e=.returned (.int .i64 (ij x.toNat:Int))/\w=w':=by
 have hsz:(Lib.len8tab.size:Int)=256:=by rw[Co];rfl
 refine aV λR' bK=> ?_
 go_enter Tryz.func257,Tryz.ntmps257
 go_wp2
 all_goals
  refine bK.out _ _ ⟨lV ?_,rfl⟩
  simp only[tab_at,wrap64]
 all_goals first
  | (have e:=wi (t:=x.toNat) (k:=24) aa
     have b:=mO (i:=x.toNat/2^24) aa
     rw[show (x/65536/256).toNat=x.toNat/2^24 by omega]
     omega)
  | (have e:=wi (t:=x.toNat) (k:=16) aa
     have b:=mO (i:=x.toNat/2^16) aa
     rw[show (x/65536).toNat=x.toNat/2^16 by omega]
     omega)
  | (have e:=wi (t:=x.toNat) (k:=8) aa
     have b:=mO (i:=x.toNat/2^8) aa
     rw[show (x/256).toNat=x.toNat/2^8 by omega]
     omega)
  | (have b:=mO (i:=x.toNat) aa
     omega)
theorem Jl (t:Nat) (w:World) (h1:t<4294967296):
  Calls Tryz.prog 257 #[.int .u32 (t:Int)] w λe w'=>e=.returned (.int .i64 (ij t:Int))/\w=w':=by
 have h:=Jk (t:Int) w aa aa
 rwa [Int.toNat_natCast] at h
theorem Cp (t:Nat) (w:World) (ht:t<4294967296) (h0:t≠0):
  Calls Tryz.prog 272 #[.int .u32 (t:Int)] w λe w'=>(∃ u:Nat,e=.returned (.int .i64 (u:Int))/\u<32/\t*2^u<4294967296)/\w=w':=by
 have hs:=vf t
 have hb:ij t<=32:=ql (k:=32) ht
 have pH:=rn h0
 refine aV λR' bK=> ?_
 go_enter Tryz.func272,Tryz.ntmps272
 go_wp2_with fail
 refine (Jl t _ ht).mono ?_
 rintro e w1 ⟨rfl,rfl⟩
 generalize ij t=L at*
 go_wp2_with fail
 refine bK.out _ _ ⟨⟨32-L,lV aa,by omega,?_⟩,rfl⟩
 have h1:t*2^(32-L)<2^L*2^(32-L):=Nat.mul_lt_mul_of_pos_right hs (Nat.pow_pos aa)
 rw[<-Nat.pow_add,show L+(32-L)=32 by omega] at h1
 exact h1
def wj (w:World) (B n m:Nat) (xs ys:List Nat) (v iv:Value) (wr:World):Prop:=
 ∃ (i:Nat) (os:List Nat),i<=n/\iv=.int .i64 (i:Int)/\os.length=n+m/\cL os/\(∀ j,i+m<=j->∀ x,os[j]? =some x->x=0)/\aj os=aj (xs.take i)*aj ys/\
   wr.ownsRow B 78 1 v (n+m) (ints .u32 os)/\Below B w wr
def Cr (w:World) (B n m i S x:Nat) (ys:List Nat) (v cv kv:Value) (wr:World):Prop:=
 ∃ (k c:Nat) (os:List Nat),k<=m/\kv=.int .i64 (k:Int)/\cv=.int .u64 (c:Int)/\c<4294967296/\os.length=n+m/\cL os/\(∀ j,i+m<=j->∀ x,os[j]? =some x->x=0)/\
   aj os+4294967296^(i+k)*c=S+4294967296^i*(x*aj (ys.take k))/\wr.ownsRow B 78 1 v (n+m) (ints .u32 os)/\Below B w wr
theorem LF {os:List Nat} {i m j v:Nat} (h:∀ j,i+m<=j->∀ x,os[j]? =some x->x=0) (hj:j<i+m):∀ l,i+m<=l->∀ x,(os.set j v)[l]? =some x->x=0:=λl hl x hx=>by
 rw[List.getElem?_set_ne aa] at hx
 exact h l hl x hx
theorem Cr.step {w wr:World} {B n m i S x y o k c g cap:Nat} {ys os:List Nat} {q r:Int} (hk:k<m) (_:i<n) (hl:os.length=n+m) (wk:cL os) (hz:∀ j,i+m<=j->∀ x,os[j]? =some x->x=0)
  (hv:aj os+4294967296^(i+k)*c=S+4294967296^i*(x*aj (ys.take k))) (aI:wr.ownsRow B 78 1 (.slice (some ⟨g,0,none⟩) (n+m) cap) (n+m) (ints .u32 os)) (hb:Below B w wr)
  (hy:ys[k]? =some y) (ho:os[i+k]? =some o) (jV:x<4294967296) (tZ:y<4294967296) (KX:c<4294967296) (hq:q=(((x*y+o+c)%4294967296:Nat):Int)) (hr:r=(((x*y+o+c)/4294967296:Nat):Int)):
  Cr w B n m i S x ys (.slice (some ⟨g,0,none⟩) (n+m) cap) (.int .u64 r) (.int .i64 ((k:Int)+1)) (wr.setCell ⟨g,i+k,none⟩ (.int .u32 q)):=by
 subst hq;subst hr
 have ho4:=wk.at ho
 have hs:=rC jV tZ ho4 KX
 refine⟨k+1,(x*y+o+c)/4294967296,os.set (i+k) ((x*y+o+c)%4294967296),by omega,rfl,rfl,by omega,by simp[hl],wk.set (Nat.mod_lt _ aa) _,LF hz aa,?_,Own.gi aI,hb.setCell (Own.lt aI).1 _⟩
 have h1:aj (ys.take (k+1))=aj (ys.take k)+4294967296^k*y:=by rw[bh,List.getD,hy];rfl
 rw[h1]
 exact Cm ho rfl hv
theorem wj.step {w wr:World} {B n m i x c g cap:Nat} {xs ys os:List Nat} {q:Int} (hi:i<n) (hl:os.length=n+m) (wk:cL os) (hz:∀ j,i+m<=j->∀ x,os[j]? =some x->x=0) (hm:ys.length=m)
  (hv:aj os+4294967296^(i+m)*c=aj (xs.take i)*aj ys+4294967296^i*(x*aj (ys.take m))) (aI:wr.ownsRow B 78 1 (.slice (some ⟨g,0,none⟩) (n+m) cap) (n+m) (ints .u32 os)) (hb:Below B w wr)
  (hx:xs[i]? =some x) (KX:c<4294967296) (hq:q=(c:Int)):
  wj w B n m xs ys (.slice (some ⟨g,0,none⟩) (n+m) cap) (.int .i64 ((i:Int)+1)) (wr.setCell ⟨g,i+m,none⟩ (.int .u32 q)):=by
 subst hq
 obtain⟨o,ho⟩:∃ o,os[i+m]? =some o:=⟨_,List.getElem?_eq_getElem aa⟩
 obtain rfl:=hz (i+m) (Nat.le_refl _) o ho
 refine⟨i+1,os.set (i+m) c,by omega,rfl,by simp[hl],wk.set KX _,λj hj y hy=> ?_,?_,Own.gi aI,hb.setCell (Own.lt aI).1 _⟩
 ·rw[List.getElem?_set_ne aa] at hy
  exact hz j aa y hy
 ·have h1:=Cl (v:=c) ho
  have h2:aj (xs.take (i+1))=aj (xs.take i)+4294967296^i*x:=by rw[bh,List.getD,hx];rfl
  rw[bD (Nat.le_of_eq hm)] at hv
  rw[h2,Nat.add_mul,Nat.mul_assoc]
  omega
set_option maxRecDepth 100000 in
theorem LG (va vb:Value) (n m:Nat) (xs ys:List Nat) (w:World) (hr:Rd w 1 va n (ints .u32 xs)) (hs:Rd w 1 vb m (ints .u32 ys)) (hx:cL xs) (hy:cL ys) (hn:n<=536870912) (hm:m<=536870912):
  Calls Tryz.prog 167 #[va,vb] w λe w'=>∃ v',e=.returned v'/\w'.ownsRow w.heap.size 78 1 v' (limbs (aj xs*aj ys)).length (ints .u32 (limbs (aj xs*aj ys)))/\Below w.heap.size w w':=by
 obtain⟨p,c,rfl,gg,gF,fc⟩:=hr.u32
 obtain⟨q,d,rfl,Hc,Cg,gX⟩:=hs.u32
 obtain⟨i0,hi,iW,fI,jf⟩:=info_parts js
 have Hr:=Lib.hid hr
 have Hs:=Lib.hid hs
 have HLX:=Lib.hid hx
 have HLY:=Lib.hid hy
 have HX:=Lib.hid fc
 have HY:=Lib.hid gX
 obtain⟨B,hB⟩:∃ B,B=w.heap.size:=⟨_,rfl⟩
 have HB:=Lib.hid hB
 rw[<-hB]
 clear hr hs hx hy fc gX hB
 refine aV λR' bK=> ?_
 go_enter Tryz.func167,Tryz.ntmps167
 go_wp2_with (at_make;refine wpList_make_full _ rfl _ _ 23 rfl B 78 i0 (.int .u32 0) 1 Tryz.underlying23 hi iW fI .i64 .i64 _ _ (n+m) rfl rfl aa aa (by rw[jf];omega) (by unfold maxLen;omega) (Nat.le_of_eq HB.out) ?_;intro w1 aI Jf)
 have EY:=Lib.hid (Own.made aI)
 have Hb1:Hid (Below B w w1):=(Below.refl _ _).grown Jf (Nat.le_of_eq HB.out) (λk hk=>by cases hk)
 clear aI Jf hi iW fI jf
 go_wp2_with fail
 go_loopw [20] (λiv wr=>wj w B n m xs ys (.slice (some ⟨w.heap.size,0,none⟩) (n+m) (n+m)) iv wr) (λiv _=>n-(intOf iv).toNat)
 case atStart=>exact⟨0,List.replicate (n+m) 0,Nat.zero_le _,rfl,by simp,eu.replicate aa _,λj _ x hx=>by rw[List.getElem?_replicate] at hx;split at hx <;> simp_all,by rw[vZ];simp[eN],by simpa using EY.out,Hb1.out⟩
 case round=>
  obtain⟨i,os,vo,rfl,hl,wk,hz,hv,aI,hb⟩:=hrel
  have HLO:=Lib.hid hl
  have HLIM:=Lib.hid wk
  have HZ:=Lib.hid hz
  have HV:=Lib.hid hv
  have HO:=Lib.hid aI
  have gM:=Lib.hid hb
  have hsz:=hb.size
  clear hl wk hz hv aI hb
  by_cases Fg:i<n
  ·obtain⟨b1,o1,x,rfl,bl,fP,nN⟩:=(Hr.out.jd HB.out gM.out).cellAt Fg
   have vn:=Lib.hid fP
   have jV:=HLX.out.at fP
   clear fP
   go_wp2_with fail
   obtain⟨wo,rfl⟩:∃ wo:World,wo=wr:=⟨_,rfl⟩
   go_loopw [8,27] (λcv kv wr'=>Cr w B n m i (aj (xs.take i)*aj ys) x ys (.slice (some ⟨w.heap.size,0,none⟩) (n+m) (n+m)) cv kv wr') (λ_ kv _=>m-(intOf kv).toNat)
   case atStart=>exact⟨0,0,os,Nat.zero_le _,rfl,rfl,by omega,HLO.out,HLIM.out,HZ.out,by rw[HV.out];simp[eN],HO.out,gM.out⟩
   case round=>
    obtain⟨k,c',os',EZ,rfl,rfl,KX,Fh,Ct,hz',hv',hown',hb'⟩:=hrel
    have HLO':=Lib.hid Fh
    have Cu:=Lib.hid Ct
    have HZ':=Lib.hid hz'
    have HV':=Lib.hid hv'
    have HO':=Lib.hid hown'
    have LH:=Lib.hid hb'
    clear Fh Ct hz' hv' hown' hb'
    obtain⟨o,ho,hco,hfo⟩:=Own.gG HO'.out (j:=i+k) aa
    have HOK:=Lib.hid ho
    have ho4:=Cu.out.at ho
    clear ho
    by_cases hklt:k<m
    ·obtain⟨b2,o2,y,rfl,bM,lX,qA⟩:=(Hs.out.jd HB.out LH.out).cellAt hklt
     have Hf:=Lib.hid lX
     have tZ:=HLY.out.at lX
     clear lX
     have hsm:=rC jV tZ ho4 KX
     have m0:0<=(x:Int)*(y:Int):=by rw[<-Int.natCast_mul];omega
     have m1:(x:Int)*(y:Int)+(o:Int)+(c':Int)<18446744073709551616:=by rw[<-Int.natCast_mul];omega
     have Jm:IntKind.i64.wrap ((i:Int)+(k:Int))=((i+k:Nat):Int):=by rw[IntWalk.i64_in _ aa];simp
     clear hsm
     go_wp2_with fail
     go_roundw
     case rel=>
      first
      | exact Cr.step hklt Fg HLO'.out Cu.out HZ'.out HV'.out HO'.out LH.out Hf.out HOK.out jV tZ KX ew ew
      | ((repeat apply Exists.intro);exact⟨Cr.step hklt Fg HLO'.out Cu.out HZ'.out HV'.out HO'.out LH.out Hf.out HOK.out jV tZ KX ew ew,rfl⟩)
     case measure=>simp[intOf];omega
    ·obtain rfl:k=m:=by omega
     have Jm:IntKind.i64.wrap ((i:Int)+(k:Int))=((i+k:Nat):Int):=by rw[IntWalk.i64_in _ aa];simp
     go_wp2_with fail
     go_roundw
     case rel=>
      first
      | exact wj.step Fg HLO'.out Cu.out HZ'.out HY.out HV'.out HO'.out LH.out vn.out KX rfl
      | ((repeat apply Exists.intro);exact⟨wj.step Fg HLO'.out Cu.out HZ'.out HY.out HV'.out HO'.out LH.out vn.out KX rfl,rfl⟩)
     case measure=>simp[intOf];omega
  ·obtain rfl:i=n:=by omega
   go_wp2_with fail
   refine (jA _ (i+m) os _ (Rd.own HO.out) HLIM.out aa).mono ?_
   rintro e w2 ⟨v',rfl,kD,bM⟩
   go_wp2_with fail
   have h:=HV.out
   rw[bD (Nat.le_of_eq HX.out)] at h
   rw[h] at kD
   exact bK.out _ _ ⟨v',rfl,Own.mono kD (by have:=HB.out;omega),gM.out.trans (bM.mono (by have:=HB.out;omega))⟩
end
section
open Go.RowKit
def Cv (w:World) (U2 v1 V U:Nat) (qv rv:Value) (wr:World):Prop:=
 ∃ q r dn:Nat,qv=.int .u64 (q:Int)/\rv=.int .u64 (r:Int)/\q*v1+r=U2/\r<4294967296/\(∀ t:Nat,t<=4294967295->t*V<=U->t<=q)/\wr=w.drewN dn
theorem Ao {B U2 v1 v2 low:Nat} (Bv:0<v1) (hl:low<B) (t:Nat) (h:t*(v1*B+v2)<=U2*B+low):t<=U2/v1:=by
 rw[Nat.le_div_iff_mul_le Bv]
 rw[Nat.mul_add,<-Nat.mul_assoc] at h
 have h1:t*v1*B<(U2+1)*B:=by rw[Nat.add_mul];omega
 have:=Nat.lt_of_mul_lt_mul_right h1
 omega
theorem Cw {U2 v1 v2 low:Nat} (Bv:0<v1) (hl:low<4294967296):∀ t:Nat,t<=4294967295->t*(v1*4294967296+v2)<=U2*4294967296+low->t<=U2/v1:=λt _ h=>Ao Bv hl t h
theorem wm {B q v1 v2 r U2 low:Nat} (h:q*v1+r=U2) (hf:q*v2<=r*B+low):q*(v1*B+v2)<=U2*B+low:=by
 subst h
 rw[Nat.mul_add,<-Nat.mul_assoc,Nat.add_mul]
 omega
theorem Fi {B q v1 v2 r U2 low:Nat} (h:q*v1+r=U2) (hf:r*B+low<q*v2):U2*B+low<q*(v1*B+v2):=by
 subst h
 rw[Nat.mul_add,<-Nat.mul_assoc,Nat.add_mul]
 omega
theorem Cy {q V U:Nat} (hV:0<V) (hq:q<=4294967295) (hf:q*V<=U) (hm:∀ t:Nat,t<=4294967295->t*V<=U->t<=q):q=gS U V:=
 Nat.le_antisymm (zd hV hq hf) (hm _ (Nat.min_le_left _ _) Cn)
theorem Cz {q v1 v2 r U2 low:Nat} (h:q*v1+r=U2) (hr:4294967296<=r) (hU:U2<v1*4294967296+4294967296) (hv2:v2<4294967296):q<=4294967295/\q*v2<=r*4294967296+low:=by
 have h1:q*v1<4294967296*v1:=by omega
 have h2:q<4294967296:=Nat.lt_of_mul_lt_mul_right h1
 have h3:q*v2<=4294967295*4294967295:=Nat.mul_le_mul aa aa
 omega
set_option maxRecDepth 100000 in
theorem Jn (hi mid low v1 v2:Nat) (w:World) (hhi:hi<=v1) (mM:mid<4294967296) (hlow:low<4294967296) (h1:0<v1) (h14:v1<4294967296) (h2:v2<4294967296):
  Calls Tryz.prog 274 #[.int .u32 (hi:Int),.int .u32 (mid:Int),.int .u32 (low:Int),.int .u32 (v1:Int),.int .u32 (v2:Int)] w λe w'=>
   e=.returned (.int .u64 (gS ((hi*4294967296+mid)*4294967296+low) (v1*4294967296+v2):Int))/\∃ k,w'=w.drewN k:=by
 have hhi4:hi<4294967296:=by omega
 have sQ:bits BinOp.or IntKind.u64 ((hi:Int)*4294967296) (mid:Int)=((hi*4294967296+mid:Nat):Int):=by
  have e1:((hi:Int)*4294967296)=((hi*4294967296:Nat):Int):=by simp
  rw[e1,u64_or_nat _ _ aa aa,nat_join 32 _ _ aa aa]
 obtain⟨U2,hU2⟩:∃ U2,U2=hi*4294967296+mid:=⟨_,rfl⟩
 have hU:U2<v1*4294967296+4294967296:=by omega
 rw[<-hU2] at sQ ⊢
 have KY:((v1:Int) != 0)=true:=by rw[bne_iff_ne];omega
 have hV:0<v1*4294967296+v2:=by omega
 obtain⟨V,hVe⟩:∃ V,V=v1*4294967296+v2:=⟨_,rfl⟩
 obtain⟨U,hUe⟩:∃ U,U=U2*4294967296+low:=⟨_,rfl⟩
 rw[<-hVe,<-hUe]
 rw[<-hVe] at hV
 have HV:=Lib.hid hVe
 have HU:=Lib.hid hUe
 have HST:Hid (∀ t:Nat,t<=4294967295->t*V<=U->t<=U2/v1):=by rw[hVe,hUe];exact Cw h1 hlow
 have HUU:=Lib.hid hU
 have Cg:=Nat.div_add_mod U2 v1
 have sN:=Nat.mod_lt U2 h1
 have hU64:U2<18446744073709551616:=by omega
 have d1:((U2/v1:Nat):Int)=(U2:Int)/(v1:Int):=by simp
 have d2:((U2%v1:Nat):Int)=(U2:Int)%(v1:Int):=by simp
 have dl:(U2:Int)/(v1:Int)<18446744073709551616:=by rw[<-d1];have:=Nat.div_le_self U2 v1;omega
 have dl0:0<=(U2:Int)/(v1:Int):=Int.ediv_nonneg aa aa
 have dm0:0<=(U2:Int)%(v1:Int):=Int.emod_nonneg _ aa
 have dm1:(U2:Int)%(v1:Int)<4294967296:=by rw[<-d2];omega
 have HDM:=Lib.hid Cg
 have LD:=Lib.hid sN
 have HD1:=Lib.hid d1
 have HD2:=Lib.hid d2
 clear hVe hUe hU Cg sN d1 d2 hU2
 refine aV λR' bK=> ?_
 go_enter Tryz.func274,Tryz.ntmps274
 go_wp2_with fail
 go_step3
 go_wp2_with fail
 go_quiet (fail)
 go_wp2_with fail
 go_step3
 go_wp2_with fail
 go_loopw [12,13] (λqv rv wr=>Cv w U2 v1 V U qv rv wr) (λqv _ _=>(intOf qv).toNat)
 case atStart=>exact⟨U2/v1,U2%v1,_,by rw[HD1.out],by rw[HD2.out],by rw[Nat.mul_comm];exact HDM.out,Nat.lt_trans LD.out h14,HST.out,rfl⟩
 case round=>
  obtain⟨q,r,dn,rfl,rfl,hqr,hr,hmax,rfl⟩:=hrel
  have HQR:=Lib.hid hqr
  have HMAX:=Lib.hid hmax
  have hq64:(q:Int)<18446744073709551616:=by
   have h3:q*1<=q*v1:=Nat.mul_le_mul_left _ h1
   omega
  have hr64:(r:Int)+(v1:Int)<18446744073709551616:=by omega
  clear hqr hmax dl dl0 dm0 dm1 sQ
  have next:(∀ t:Nat,t<=4294967295->t*V<=U->t<=q-1)->1<=q->r+v1<4294967296->Cv w U2 v1 V U (.int .u64 ((q:Int)-1)) (.int .u64 ((r:Int)+(v1:Int))) (w.drewN dn):=λa b c=>
   ⟨q-1,r+v1,dn,by rw[show ((q-1:Nat):Int)=(q:Int)-1 by omega],by simp,by
    have h3:=HQR.out
    obtain⟨k,rfl⟩:∃ k,q=k+1:=⟨q-1,by omega⟩
    rw[Nat.add_mul] at h3
    simp only[Nat.add_sub_cancel]
    omega,c,a,rfl⟩
  have stop:(∀ t:Nat,t<=4294967295->t*V<=U->t<=q-1)->1<=q->4294967296<=r+v1->(q:Int)-1=(gS U V:Int):=λa b c=>by
   have h3:=HQR.out
   obtain⟨k,rfl⟩:∃ k,q=k+1:=⟨q-1,by omega⟩
   have h4:k*v1+(r+v1)=U2:=by rw[Nat.add_mul] at h3;omega
   obtain⟨h5,h6⟩:=Cz (low:=low) h4 c HUU.out h2
   have h7:k=gS U V:=Cy hV h5 (by rw[HV.out,HU.out];exact wm h4 h6) (by simpa using a)
   omega
  have HNEXT:=Lib.hid next
  have HSTOP:=Lib.hid stop
  clear next stop
  by_cases hqB:4294967296<=q
  ·have c1:4294967295<(q:Int):=by omega
   have hA:Hid (∀ t:Nat,t<=4294967295->t*V<=U->t<=q-1):=λt ht _=>by omega
   have c2:0<=(q:Int)-1:=by omega
   by_cases Jh:r+v1<4294967296
   ·have c3:decide (4294967295<(r:Int)+(v1:Int))=false:=decide_eq_false aa
    go_wp2_with fail
    go_roundw
    case rel=>exact HNEXT.out hA.out aa Jh
    case measure=>simp[intOf];omega
   ·have c3:4294967295<(r:Int)+(v1:Int):=by omega
    go_wp2_with fail
    exact bK.out _ _ ⟨lV (HSTOP.out hA.out aa aa),_,rfl⟩
  ·have c1:(q:Int)<=4294967295:=by omega
   have m2:q*v2<=4294967295*4294967295:=Nat.mul_le_mul aa aa
   have m0:0<=(q:Int)*(v2:Int):=by rw[<-Int.natCast_mul];omega
   have m1:(q:Int)*(v2:Int)<18446744073709551616:=by rw[<-Int.natCast_mul];omega
   have sQ:bits BinOp.or IntKind.u64 ((r:Int)*4294967296) (low:Int)=((r*4294967296+low:Nat):Int):=by
    have e1:((r:Int)*4294967296)=((r*4294967296:Nat):Int):=by simp
    rw[e1,u64_or_nat _ _ aa aa,nat_join 32 _ _ aa aa]
   obtain⟨RL,hRL⟩:∃ RL,RL=r*4294967296+low:=⟨_,rfl⟩
   rw[<-hRL] at sQ
   have HRL:=Lib.hid hRL
   by_cases hc:RL<q*v2
   ·have cc:(RL:Int)<(q:Int)*(v2:Int):=by rw[<-Int.natCast_mul];omega
    have hq1:1<=q:=by
     rcases Nat.eq_zero_or_pos q with h|h
     ·subst h;rw[Nat.zero_mul] at hc;omega
     ·exact h
    have hA:Hid (∀ t:Nat,t<=4294967295->t*V<=U->t<=q-1):=λt ht hf=>by
     have h3:=HMAX.out t ht hf
     have h4:=Fi (B:=4294967296) (low:=low) HQR.out (by rw[<-hRL];exact hc)
     rw[<-HV.out,<-HU.out] at h4
     have h5:t≠q:=λe=>by subst e;omega
     omega
    have c2:0<=(q:Int)-1:=by omega
    clear m2 hc hRL
    by_cases Jh:r+v1<4294967296
    ·have c3:decide (4294967295<(r:Int)+(v1:Int))=false:=decide_eq_false aa
     go_wp2_with fail
     go_roundw
     case rel=>exact HNEXT.out hA.out aa Jh
     case measure=>simp[intOf];omega
    ·have c3:4294967295<(r:Int)+(v1:Int):=by omega
     go_wp2_with fail
     exact bK.out _ _ ⟨lV (HSTOP.out hA.out aa aa),_,rfl⟩
   ·have cc:decide ((RL:Int)<(q:Int)*(v2:Int))=false:=decide_eq_false (by rw[<-Int.natCast_mul];omega)
    have cx:decide (4294967295<(q:Int))=false:=decide_eq_false aa
    have he:q=gS U V:=Cy hV aa (by rw[HV.out,HU.out];exact wm HQR.out (by rw[<-hRL];omega)) HMAX.out
    have HE:=Lib.hid he
    clear m2 hc hRL he c1
    go_wp2_with fail
    exact bK.out _ _ ⟨by rw[<-HE.out];rfl,_,rfl⟩
end
section
open Go.RowKit
theorem Rd.rD {w w':World} {g sz n:Nat} {v:Value} {cs:List Value} (h:Rd w sz v n cs) (hg:w.grownBy w' (some g)) (hne:∀ p c a,v=.slice p n c->p=some a->a.block≠g):Rd w' sz v n cs:=by
 obtain⟨p,c,rfl,h1,h2,h3,h4⟩:=h
 refine⟨p,c,rfl,h1,h2,h3,λhn=> ?_⟩
 obtain⟨b,off,hp,hc⟩:=h4 hn
 refine⟨b,off,hp,λj u hj=> ?_⟩
 exact hg.cell (hc j u hj) (λe=>hne p c _ rfl hp (by simpa using e))
theorem lI (w:World) (row:Option Nat):w.grownBy w row:=⟨rfl,rfl,rfl,Nat.le_refl _,λ_ _ _=>rfl⟩
theorem yv {a b c:World} {row:Option Nat} (h:a.grownBy b row) (k:b.grownBy c row):a.grownBy c row:=
 ⟨k.os.trans h.os,k.tape.trans h.tape,k.output.trans h.output,Nat.le_trans h.size k.size,λj hj hne=>(k.block j (Nat.lt_of_lt_of_le hj h.size) hne).trans (h.block j hj hne)⟩
theorem mP {w wr:World} {g j:Nat} {u:Value} (h:w.grownBy wr (some g)):w.grownBy (wr.setCell ⟨g,j,none⟩ u) (some g):=
 ⟨h.os,h.tape,h.output,by simpa [World.setCell] using h.size,λk hk hne=>(Below.heap_setCell wr ⟨g,j,none⟩ u k (λe=>hne (by rw[e]))).trans (h.block k hk hne)⟩
theorem vp {pre D A post:List Nat} {i k a:Nat} (hp:pre.length=i) (hD:D.length=k) (ha:A[k]? =some a):(pre++(D++(A.drop k++post)))[i+k]? =some a:=by
 subst hp;subst hD
 obtain⟨hl,he⟩:=List.getElem?_eq_some_iff.1 ha
 rw[List.getElem?_append_right aa,Nat.add_sub_cancel_left,List.getElem?_append_right (Nat.le_refl _),Nat.sub_self,List.drop_eq_getElem_cons hl,List.cons_append,List.getElem?_cons_zero,he]
theorem Hl {pre D A post:List Nat} {i k x:Nat} (hp:pre.length=i) (hD:D.length=k) (hl:k<A.length):(pre++(D++(A.drop k++post))).set (i+k) x=pre++((D++[x])++(A.drop (k+1)++post)):=by
 subst hp;subst hD
 rw[List.set_append_right _ _ aa,Nat.add_sub_cancel_left,List.set_append_right _ _ (Nat.le_refl _),Nat.sub_self,List.drop_eq_getElem_cons hl,List.cons_append,List.set_cons_zero,List.append_assoc];rfl
theorem rE (n:Int):IntKind.u64.wrap n=n%18446744073709551616:=by simp[IntKind.wrap,IntKind.bits,IntKind.signed]
theorem CA {a lo r:Nat} (ha:a<4294967296) (hl:lo<4294967296) (hr:r<=1):∃ S1 S2 x r':Nat,IntKind.u64.wrap ((a:Int)-(lo:Int))=(S1:Int)/\IntKind.u64.wrap ((S1:Int)-(r:Int))=(S2:Int)/\
  (S2:Int)%4294967296=(x:Int)/\(S2:Int)/9223372036854775808=(r':Int)/\r'<=1/\x<4294967296/\a+4294967296*r'=x+lo+r/\S1<18446744073709551616/\S2<18446744073709551616:=by
 refine⟨(((a:Int)-lo)%18446744073709551616).toNat,(((a:Int)-lo-r)%18446744073709551616).toNat,(((a:Int)-lo-r)%4294967296).toNat,(if lo+r<=a then 0 else 1),?_,?_,?_,?_,?_,?_,?_,?_,?_⟩
 ·rw[rE];omega
 ·rw[rE];omega
 ·omega
 ·split <;> omega
 ·split <;> omega
 ·omega
 ·split <;> omega
 ·omega
 ·omega
def rF (w:World) (B g N cap L q:Nat) (pre A post ys:List Nat) (cv bv kv:Value) (wr:World):Prop:=
 ∃ (k c r:Nat) (D:List Nat),k<=L/\kv=.int .i64 (k:Int)/\cv=.int .u64 (c:Int)/\bv=.int .u64 (r:Int)/\c<4294967296/\r<=1/\D.length=k/\cL D/\
   aj D+q*aj (ys.take k)=aj (A.take k)+4294967296^k*(c+r)/\4294967296^k*c<=q*aj (ys.take k)/\
   wr.ownsRow B 78 1 (.slice (some ⟨g,0,none⟩) N cap) N (ints .u32 (pre++(D++(A.drop k++post))))/\w.grownBy wr (some g)
theorem rF.step {w wr:World} {B g N cap i L q k c r y a x r' P:Nat} {pre A post ys D:List Nat} {xi ci ri:Int} (hk:k<L) (hA:A.length=L) (CB:pre.length=i) (hD:D.length=k) (wk:cL D)
  (hv:aj D+q*aj (ys.take k)=aj (A.take k)+4294967296^k*(c+r)) (hc:4294967296^k*c<=q*aj (ys.take k))
  (aI:wr.ownsRow B 78 1 (.slice (some ⟨g,0,none⟩) N cap) N (ints .u32 (pre++(D++(A.drop k++post))))) (hg:w.grownBy wr (some g))
  (hy:ys.getD k 0=y) (ha:A[k]? =some a) (hP:P=q*y+c) (hP64:P<18446744073709551616) (jV:x<4294967296) (Cj:r'<=1) (he:a+4294967296*r'=x+P%4294967296+r)
  (hxi:xi=(x:Int)) (hci:ci=((P/4294967296:Nat):Int)) (CC:ri=(r':Int)):
  rF w B g N cap L q pre A post ys (.int .u64 ci) (.int .u64 ri) (.int .i64 ((k:Int)+1)) (wr.setCell ⟨g,i+k,none⟩ (.int .u32 xi)):=by
 subst hxi;subst hci;subst CC;subst hP
 have h1:=Own.gi (j:=i+k) (x:=x) aI
 rw[Hl CB hD aa] at h1
 have e1:aj (ys.take (k+1))=aj (ys.take k)+4294967296^k*y:=by rw[bh,hy]
 have e2:aj (A.take (k+1))=aj (A.take k)+4294967296^k*a:=by rw[bh,List.getD,ha];rfl
 refine⟨k+1,(q*y+c)/4294967296,r',D++[x],by omega,rfl,rfl,rfl,by omega,Cj,by simp[hD],wk.append (cL.cons jV cL.nil),?_,?_,h1,mP hg⟩
 ·rw[er,hD,e1,e2,Nat.pow_succ]
  exact Ff hv he
 ·rw[e1,Nat.pow_succ,Nat.mul_add]
  have h3:4294967296^k*4294967296*((q*y+c)/4294967296)<=4294967296^k*(q*y+c):=by
   rw[Nat.mul_assoc];exact Nat.mul_le_mul_left _ (Nat.mul_div_le _ _)
  rw[Nat.mul_add,Nat.mul_left_comm] at h3
  omega
def rG (w:World) (B g N cap L:Nat) (pre A post ys:List Nat) (cv kv:Value) (wr:World):Prop:=
 ∃ (k c:Nat) (D:List Nat),k<=L/\kv=.int .i64 (k:Int)/\cv=.int .u32 (c:Int)/\c<=1/\D.length=k/\cL D/\
   aj D+4294967296^k*c=aj (A.take k)+aj (ys.take k)/\
   wr.ownsRow B 78 1 (.slice (some ⟨g,0,none⟩) N cap) N (ints .u32 (pre++(D++(A.drop k++post))))/\w.grownBy wr (some g)
theorem rG.step {w wr:World} {B g N cap i L k c y a:Nat} {pre A post ys D:List Nat} (hk:k<L) (hA:A.length=L) (CB:pre.length=i) (hD:D.length=k) (wk:cL D) (hc:c<=1)
  (hv:aj D+4294967296^k*c=aj (A.take k)+aj (ys.take k))
  (aI:wr.ownsRow B 78 1 (.slice (some ⟨g,0,none⟩) N cap) N (ints .u32 (pre++(D++(A.drop k++post))))) (hg:w.grownBy wr (some g))
  (hy:ys.getD k 0=y) (ha:A[k]? =some a) (ha4:a<4294967296) (tZ:y<4294967296):
  rG w B g N cap L pre A post ys (.int .u32 (((a+y+c)/4294967296:Nat):Int)) (.int .i64 ((k:Int)+1)) (wr.setCell ⟨g,i+k,none⟩ (.int .u32 (((a+y+c)%4294967296:Nat):Int))):=by
 have h1:=Own.gi (j:=i+k) (x:=(a+y+c)%4294967296) aI
 rw[Hl CB hD aa] at h1
 have e1:aj (ys.take (k+1))=aj (ys.take k)+4294967296^k*y:=by rw[bh,hy]
 have e2:aj (A.take (k+1))=aj (A.take k)+4294967296^k*a:=by rw[bh,List.getD,ha];rfl
 refine⟨k+1,(a+y+c)/4294967296,D++[(a+y+c)%4294967296],by omega,rfl,rfl,by omega,by simp[hD],wk.append (cL.cons (Nat.mod_lt _ aa) cL.nil),?_,h1,mP hg⟩
 rw[er,hD,e1,e2,Nat.pow_succ]
 exact BZ _ _ a y c _ _ _ hv rfl
def TookAt (w w':World) (B g N cap:Nat) (pre A post ys:List Nat) (q q':Nat):Prop:=
 ∃ A':List Nat,A'.length=A.length/\cL A'/\aj A' +q' *aj ys=aj A/\(q*aj ys<=aj A/\q'=q\/aj A<q*aj ys/\q' +1=q)/\
   w'.ownsRow B 78 1 (.slice (some ⟨g,0,none⟩) N cap) N (ints .u32 (pre++(A'++post)))/\w.grownBy w' (some g)
set_option maxRecDepth 100000 in
theorem LI (g N cap i L capw n q B:Nat) (pre A post ys:List Nat) (vb:Value) (w:World) (aI:w.ownsRow B 78 1 (.slice (some ⟨g,0,none⟩) N cap) N (ints .u32 (pre++(A++post))))
  (CB:pre.length=i) (hA:A.length=L) (hlA:cL A) (hs:Rd w 1 vb n (ints .u32 ys)) (nM:cL ys) (hne:∀ p c a,vb=.slice p n c->p=some a->a.block≠g) (hL:L=n+1) (hLc:L<=capw) (hcw:capw<=9223372036854775807)
  (hq:q<4294967296) (hqb:q*aj ys<=aj A+aj ys):
  Calls Tryz.prog 275 #[.slice (some ⟨g,i,none⟩) L capw,vb,.int .u64 (q:Int)] w λe w'=>∃ q':Nat,e=.returned (.int .u32 (q':Int))/\TookAt w w' B g N cap pre A post ys q q':=by
 obtain⟨p,c,rfl,gg,gF,gX⟩:=hs.u32
 have Hs:=Lib.hid hs
 have KZ:=Lib.hid hlA
 have HLY:=Lib.hid nM
 have HNE:=Lib.hid hne
 have HO:=Lib.hid aI
 have HA:=Lib.hid hA
 have HP:=Lib.hid CB
 have HY:=Lib.hid gX
 have HQB:=Lib.hid hqb
 have HLL:=Lib.hid hL
 clear hs hlA nM hne aI hA CB gX hqb hL
 refine aV λR' bK=> ?_
 go_enter Tryz.func275,Tryz.ntmps275
 go_wp2_with fail
 go_loopw [7,8,18] (λcv bv kv wr=>rF w B g N cap L q pre A post ys cv bv kv wr) (λ_ _ kv _=>L-(intOf kv).toNat)
 case atStart=>exact⟨0,0,0,[],Nat.zero_le _,rfl,rfl,rfl,by omega,by omega,rfl,cL.nil,by simp[eN],by simp,by simpa using HO.out,lI _ _⟩
 case round=>
  obtain⟨k,c,r,D,hkL,rfl,rfl,rfl,KX,sR,hD,hlD,hv,hcc,aI,hg⟩:=hrel
  have HD:=Lib.hid hD
  have yZ:=Lib.hid hlD
  have HV:=Lib.hid hv
  have HCC:=Lib.hid hcc
  have HOW:=Lib.hid aI
  have HG:=Lib.hid hg
  clear hD hlD hv hcc aI hg
  by_cases Ap:k<L
  ·obtain⟨a,ha⟩:∃ a,A[k]? =some a:=⟨_,List.getElem?_eq_getElem (by rw[HA.out];exact Ap)⟩
   have ha4:=KZ.out.at ha
   have HAK:=Lib.hid ha
   have hlt:i+k<N:=by
    have h1:=HOW.out.1
    have h2:=(List.getElem?_eq_some_iff.1 (vp (post:=post) HP.out HD.out ha)).1
    simp at h1 h2
    omega
   obtain⟨a',ha',hca,hfa⟩:=Own.gG HOW.out (j:=i+k) hlt
   rw[vp HP.out HD.out ha] at ha'
   obtain rfl:=Option.some.inj ha'
   have Bu:=gL hca
   simp only at Bu
   clear ha ha'
   by_cases nO:k<n
   ·obtain⟨b2,o2,y,rfl,bM,lX,qA⟩:=(Hs.out.rD HG.out HNE.out).cellAt nO
    have Hf:Hid (ys.getD k 0=y):=by show _=_;rw[List.getD,lX];rfl
    have tZ:=HLY.out.at lX
    clear lX
    have m3:q*y<=4294967295*4294967295:=Nat.mul_le_mul aa aa
    have m0:0<=(q:Int)*(y:Int):=by rw[<-Int.natCast_mul];omega
    have m1:(q:Int)*(y:Int)<18446744073709551616:=by rw[<-Int.natCast_mul];omega
    obtain⟨P,hP⟩:∃ P,P=q*y+c:=⟨_,rfl⟩
    have hP64:P<18446744073709551616:=by omega
    have hPi:(q:Int)*(y:Int)+(c:Int)=(P:Int):=by rw[hP];simp
    obtain⟨lo,fO⟩:∃ lo,lo=P%4294967296:=⟨_,rfl⟩
    have hlo4:lo<4294967296:=by omega
    have hloi:(P:Int)%4294967296=(lo:Int):=by omega
    obtain⟨S1,S2,x,r',f1,f2,f3,f4,f5,f6,f7,f8,f9⟩:=CA ha4 hlo4 sR
    have HF7:=Lib.hid f7
    have HPE:=Lib.hid hP
    have HLO:=Lib.hid fO
    clear m3 hP fO f7
    go_wp2_with fail
    go_roundw
    case rel=>exact rF.step Ap HA.out HP.out HD.out yZ.out HV.out HCC.out HOW.out HG.out Hf.out HAK.out HPE.out hP64 f6 f5 (by rw[<-HLO.out];exact HF7.out) rfl ew rfl
    case measure=>simp[intOf];omega
   ·have Hf:Hid (ys.getD k 0=0):=by show _=_;rw[List.getD,List.getElem?_eq_none (by rw[HY.out];omega)];rfl
    obtain⟨S1,S2,x,r',f1,f2,f3,f4,f5,f6,f7,f8,f9⟩:=CA ha4 KX sR
    have HF7:=Lib.hid f7
    clear f7
    go_wp2_with fail
    go_roundw
    case rel=>exact rF.step Ap HA.out HP.out HD.out yZ.out HV.out HCC.out HOW.out HG.out Hf.out HAK.out (P:=c) ew aa f6 f5 (by rw[Nat.mod_eq_of_lt KX];exact HF7.out) rfl (by first|rfl|(simp;omega)|omega) rfl
    case measure=>simp[intOf];omega
  ·obtain rfl:k=L:=by omega
   have hpow:q*aj ys<4294967296^k:=by
    have h1:=jr HLY.out
    rw[HY.out] at h1
    have h2:q*aj ys<=4294967295*aj ys:=Nat.mul_le_mul_right _ aa
    have h3:4294967296^k=4294967296^n*4294967296:=by rw[HLL.out,Nat.pow_succ]
    omega
   have hyt:aj (ys.take k)=aj ys:=bD (by rw[HY.out,HLL.out];omega)
   have CD:aj (A.take k)=aj A:=bD (by rw[HA.out];omega)
   have hv:=HV.out
   have hcc:=HCC.out
   rw[hyt] at hv hcc
   rw[CD] at hv
   have hDl:=jr yZ.out
   rw[HD.out] at hDl
   obtain rfl:c=0:=by
    rcases Nat.eq_zero_or_pos c with h|h
    ·exact h
    ·have:4294967296^k*1<=4294967296^k*c:=Nat.mul_le_mul_left _ h
     omega
   rw[Nat.zero_add] at hv
   have HV2:=Lib.hid hv
   have HPW:=Lib.hid hpow
   have Fj:=Lib.hid hDl
   have hOW:=HOW.out
   rw[List.drop_of_length_le (by rw[HA.out];omega),List.nil_append] at hOW
   have HOW2:=Lib.hid hOW
   clear hv hcc hpow hyt CD hDl hOW HOW HCC HV
   rcases (show r=0\/r=1 by omega) with rfl|rfl
   ·go_wp2_with fail
    refine bK.out _ _ ⟨q,?_,D,by rw[HD.out,HA.out],yZ.out,by have:=HV2.out;omega,.inl ⟨by have:=HV2.out;omega,rfl⟩,HOW2.out,HG.out⟩
    first|rfl|exact lV aa
   ·have hq1:1<=q:=by
     rcases Nat.eq_zero_or_pos q with h|h
     ·have h1:=HV2.out;have h2:=Fj.out;rw[h,Nat.zero_mul] at h1;omega
     ·exact h
    go_wp2_with fail
    rw[show ((0:Nat):Int)=0 from rfl,show ((1:Nat):Int)=1 from rfl]
    obtain⟨wo,rfl⟩:∃ wo:World,wo=wr:=⟨_,rfl⟩
    go_loopw [13,62] (λcv kv wr'=>rG wo B g N cap k pre D post ys cv kv wr') (λ_ kv _=>k-(intOf kv).toNat)
    case atStart=>exact⟨0,0,[],Nat.zero_le _,rfl,rfl,by omega,rfl,cL.nil,by simp[eN],by simpa using HOW2.out,lI _ _⟩
    case round=>
     obtain⟨l,c,E,hlk,rfl,rfl,ik,hE,hlE,hvE,aI,hg⟩:=hrel
     have HE:=Lib.hid hE
     have HLE:=Lib.hid hlE
     have HVE:=Lib.hid hvE
     have HOW:=Lib.hid aI
     have HG2:=Lib.hid hg
     clear hE hlE hvE aI hg
     by_cases hlt:l<k
     ·obtain⟨a,ha⟩:∃ a,D[l]? =some a:=⟨_,List.getElem?_eq_getElem (by rw[HD.out];exact hlt)⟩
      have ha4:=yZ.out.at ha
      have HAK:=Lib.hid ha
      have hlN:i+l<N:=by
       have h1:=HOW.out.1
       have h2:=(List.getElem?_eq_some_iff.1 (vp (post:=post) HP.out HE.out ha)).1
       simp at h1 h2
       omega
      obtain⟨a',ha',hca,hfa⟩:=Own.gG HOW.out (j:=i+l) hlN
      rw[vp HP.out HE.out ha] at ha'
      obtain rfl:=Option.some.inj ha'
      have Bu:=gL hca
      simp only at Bu
      clear ha ha'
      by_cases Lv:l<n
      ·obtain⟨b2,o2,y,rfl,bM,lX,qA⟩:=((Hs.out.rD HG.out HNE.out).rD HG2.out HNE.out).cellAt Lv
       have Hf:Hid (ys.getD l 0=y):=by show _=_;rw[List.getD,lX];rfl
       have tZ:=HLY.out.at lX
       clear lX
       go_wp2_with fail
       refine (lW a y c _ ha4 tZ aa).mono ?_
       rintro e w2 ⟨rfl,rfl⟩
       go_wp2_with fail
       go_roundw
       case rel=>exact rG.step hlt HD.out HP.out HE.out HLE.out ik HVE.out HOW.out HG2.out Hf.out HAK.out ha4 tZ
       case measure=>simp[intOf];omega
      ·have Hf:Hid (ys.getD l 0=0):=by show _=_;rw[List.getD,List.getElem?_eq_none (by rw[HY.out];omega)];rfl
       go_wp2_with fail
       refine (lW a 0 c _ ha4 aa aa).mono ?_
       rintro e w2 ⟨rfl,rfl⟩
       go_wp2_with fail
       go_roundw
       case rel=>exact rG.step hlt HD.out HP.out HE.out HLE.out ik HVE.out HOW.out HG2.out Hf.out HAK.out ha4 aa
       case measure=>simp[intOf];omega
     ·obtain rfl:l=k:=by omega
      have hve:=HVE.out
      rw[bD (by rw[HD.out];omega),bD (by rw[HY.out,HLL.out];omega)] at hve
      have hEl:=jr HLE.out
      rw[HE.out] at hEl
      have hOW:=HOW.out
      rw[List.drop_of_length_le (by rw[HD.out];omega),List.nil_append] at hOW
      have hv2:=HV2.out
      have hqb:=HQB.out
      obtain⟨m,rfl⟩:∃ m,q=m+1:=⟨q-1,by omega⟩
      rw[Nat.add_mul,Nat.one_mul] at hv2 hqb
      have hfin:aj E+m*aj ys=aj A:=by
       rcases (show c=0\/c=1 by omega) with rfl|rfl
       ·omega
       ·omega
      have LJ:aj A<(m+1)*aj ys:=by
       rw[Nat.add_mul,Nat.one_mul]
       have:=Fj.out
       omega
      have HFIN:=Lib.hid hfin
      have HLT2:=Lib.hid LJ
      have HOW3:=Lib.hid hOW
      clear hve hEl hOW hv2 hqb hfin LJ
      have hm:((m+1:Nat):Int)-1=(m:Int):=by omega
      go_wp2_with fail
      refine bK.out _ _ ⟨m,?_,E,by rw[HE.out,HA.out],HLE.out,HFIN.out,.inr ⟨HLT2.out,rfl⟩,HOW3.out,yv HG.out HG2.out⟩
      first|rfl|exact lV aa
end
section
theorem getD_some {xs:List Nat} {k x:Nat} (h:xs[k]? =some x):xs.getD k 0=x:=by rw[List.getD,h];rfl
theorem Jo {A:List Nat} {m a0 a1 a2:Nat} (hl:A.length=m+3) (h0:A[m]? =some a0) (h1:A[m+1]? =some a1) (h2:A[m+2]? =some a2):
  aj A=((a2*4294967296+a1)*4294967296+a0)*4294967296^m+aj (A.take m):=by
 have e0:=bh A m
 have e1:=bh A (m+1)
 have e2:=bh A (m+2)
 rw[getD_some h0] at e0
 rw[getD_some h1,e0,Nat.pow_succ] at e1
 rw[getD_some h2,e1,Nat.pow_succ,Nat.pow_succ,bD aa] at e2
 rw[e2]
 generalize 4294967296^m=p
 rw[Nat.add_mul,Nat.add_mul,Nat.add_mul]
 rw[show a2*4294967296*4294967296*p=p*4294967296*4294967296*a2 by ac_rfl]
 rw[show a1*4294967296*p=p*4294967296*a1 by rw[Nat.mul_comm p,Nat.mul_comm _ a1,Nat.mul_assoc]]
 rw[Nat.mul_comm a0 p]
 omega
theorem top_two {Y:List Nat} {m v1 v2:Nat} (hl:Y.length=m+2) (h2:Y[m]? =some v2) (h1:Y[m+1]? =some v1):aj Y=(v1*4294967296+v2)*4294967296^m+aj (Y.take m):=by
 have e0:=bh Y m
 have e1:=bh Y (m+1)
 rw[getD_some h2] at e0
 rw[getD_some h1,e0,Nat.pow_succ,bD aa] at e1
 rw[e1]
 generalize 4294967296^m=p
 rw[Nat.add_mul]
 rw[show v1*4294967296*p=p*4294967296*v1 by rw[Nat.mul_comm p,Nat.mul_comm _ v1,Nat.mul_assoc]]
 rw[Nat.mul_comm v2 p]
 omega
theorem og {xs:List Nat} (h:cL xs) {m:Nat} (hm:m<=xs.length):aj (xs.take m)<4294967296^m:=by
 have:=jr (h.take m)
 rwa [List.length_take,Nat.min_eq_left hm] at this
structure Window (us ys:List Nat) (i m b hi mid low v1 v2:Nat) (A post:List Nat):Prop where
 split:us=us.take i++(A++post)
 pre:(us.take i).length=i
 len:A.length=m+3
 lim:cL A
 zero:aj post=0
 lt:aj A<4294967296*b
 hi_le:hi<=v1
 near:aj A/b<=gS ((hi*4294967296+mid)*4294967296+low) (v1*4294967296+v2)/\gS ((hi*4294967296+mid)*4294967296+low) (v1*4294967296+v2)<=aj A/b+1
theorem Jp {us ys:List Nat} {i m b hi mid low v1 v2 N:Nat} (hN:us.length=N) (hlt:i+(m+2)<N) (hu:cL us) (hy:cL ys) (gX:ys.length=m+2) (hb:aj ys=b) (hd:aj (us.drop (i+1))<b)
  (h1:us[i+(m+2)]? =some hi) (h2:us[i+(m+1)]? =some mid) (h3:us[i+m]? =some low) (h4:ys[m+1]? =some v1) (h5:ys[m]? =some v2) (Bv:0<v1):
  Window us ys i m b hi mid low v1 v2 ((us.drop i).take (m+3)) (us.drop (i+(m+3))):=by
 have hA:((us.drop i).take (m+3)).length=m+3:=by rw[List.length_take,List.length_drop];omega
 have hlA:cL ((us.drop i).take (m+3)):=(hu.drop i).take _
 have hsp:us.drop i=(us.drop i).take (m+3)++us.drop (i+(m+3)):=by
  rw[<-List.drop_drop];exact (List.take_append_drop _ _).symm
 have g0:((us.drop i).take (m+3))[m]? =some low:=by rw[List.getElem?_take,if_pos aa,List.getElem?_drop];exact h3
 have g1:((us.drop i).take (m+3))[m+1]? =some mid:=by rw[List.getElem?_take,if_pos aa,List.getElem?_drop];exact h2
 have g2:((us.drop i).take (m+3))[m+2]? =some hi:=by rw[List.getElem?_take,if_pos aa,List.getElem?_drop];exact h1
 have hyp:b<4294967296^(m+2):=by rw[<-hb,<-gX];exact jr hy
 have hz:aj (us.drop (i+(m+3)))=0:=by
  have e:=wh (xs:=us.drop (i+1)) (m+2) (by rw[List.length_drop];omega)
  rw[List.drop_drop,show i+1+(m+2)=i+(m+3) by omega] at e
  rcases Nat.eq_zero_or_pos (aj (us.drop (i+(m+3)))) with h|h
  ·exact h
  ·have:4294967296^(m+2)*1<=4294967296^(m+2)*aj (us.drop (i+(m+3))):=Nat.mul_le_mul_left _ h
   omega
 have hAv:aj (us.drop i)=aj ((us.drop i).take (m+3)):=by
  conv=>lhs;rw[hsp]
  rw[eO,hz,Nat.mul_zero,Nat.add_zero]
 obtain⟨u0,hu0⟩:∃ u0,us[i]? =some u0:=⟨_,List.getElem?_eq_getElem aa⟩
 have hu04:=hu.at hu0
 have LK:aj ((us.drop i).take (m+3))<4294967296*b:=by
  rw[<-hAv,qq hu0]
  omega
 have eA:=Jo hA g0 g1 g2
 have eY:=top_two gX h5 h4
 rw[hb] at eY
 have lA:=og hlA (m:=m) aa
 have lY:=og hy (m:=m) aa
 have hp:0<4294967296^m:=Nat.pow_pos aa
 refine⟨?_,by rw[List.length_take];omega,hA,hlA,hz,LK,?_,Fc hp eA lA eY lY aa LK⟩
 ·rw[<-hsp];exact (List.take_append_drop _ _).symm
 ·-- hi<=v1
  rcases Nat.lt_or_ge v1 hi with h|h
  ·have k1:aj (us.drop (i+1))=aj ((us.drop (i+1)).take (m+1))+4294967296^(m+1)*aj ((us.drop (i+1)).drop (m+1)):=wh _ (by rw[List.length_drop];omega)
   rw[List.drop_drop,show i+1+(m+1)=i+(m+2) by omega,qq h1] at k1
   have hv2:=hy.at h5
   have k2:4294967296^(m+1)*hi<=aj (us.drop (i+1)):=by
    rw[k1,Nat.mul_add];omega
   have k3:b<4294967296^(m+1)*(v1+1):=by
    rw[eY,Nat.pow_succ]
    have k4:(v1*4294967296+v2+1)*4294967296^m<=((v1+1)*4294967296)*4294967296^m:=Nat.mul_le_mul_right _ aa
    rw[show 4294967296^m*4294967296*(v1+1)=((v1+1)*4294967296)*4294967296^m by rw[Nat.mul_comm,Nat.mul_comm (4294967296^m),Nat.mul_assoc]]
    rw[Nat.add_mul,Nat.one_mul] at k4
    omega
   have k5:4294967296^(m+1)*(v1+1)<=4294967296^(m+1)*hi:=Nat.mul_le_mul_left _ h
   omega
  ·exact h
theorem Fk {u b q q' r:Nat} (hb:0<b) (h1:u/b<=q) (h2:q<=u/b+1) (hv:r+q' *b=u) (h:q*b<=u/\q'=q\/u<q*b/\q' +1=q):q'=u/b/\r<b:=by
 have hq:q'=u/b:=by
  rcases h with ⟨h3,rfl⟩|⟨h3,h4⟩
  ·have:=(Nat.le_div_iff_mul_le hb).2 h3;omega
  ·have:¬ q<=u/b:=λhc=>by have:=(Nat.le_div_iff_mul_le hb).1 hc;omega
   omega
 refine⟨hq,?_⟩
 have e:=Nat.div_add_mod u b
 have m:=Nat.mod_lt u hb
 rw[Nat.mul_comm,<-hq] at e
 omega
theorem CF {u b q:Nat} (h:q<=u/b+1):q*b<=u+b:=by
 have h1:q*b<=(u/b+1)*b:=Nat.mul_le_mul_right _ h
 have h2:=Nat.div_mul_le_self u b
 rw[Nat.add_mul,Nat.one_mul] at h1
 omega
theorem Fl {us pre A A' post qs:List Nat} {i b q' a:Nat} (hsp:us=pre++(A++post)) (CB:pre.length=i) (hz:aj post=0) (hv:aj A' +q' *b=aj A) (hlt:aj A' <b)
  (ha:aj us+4294967296^(i+1)*(b*aj qs)=a):
  aj ((pre++(A'++post)).drop i)<b/\aj (pre++(A'++post))+4294967296^i*(b*aj (q'::qs))=a:=by
 subst hsp
 constructor
 ·rw[List.drop_append_of_le_length aa,List.drop_of_length_le aa,List.nil_append,eO,hz,Nat.mul_zero,Nat.add_zero];exact hlt
 ·rw[eO,eO,hz,Nat.mul_zero,Nat.add_zero] at ha
  rw[eO,eO,hz,Nat.mul_zero,Nat.add_zero,fH,<-ha,<-hv,CB,Nat.mul_add b,Nat.mul_add,Nat.mul_add,Nat.pow_succ]
  rw[Nat.mul_comm q' b,show 4294967296^i*(b*(4294967296*aj qs))=4294967296^i*4294967296*(b*aj qs) by rw[Nat.mul_assoc,Nat.mul_left_comm b]]
  omega
theorem Aq {qs:List Nat} {k x:Nat}:(List.replicate (k+1) 0++qs).set k x=List.replicate k 0++x::qs:=by
 rw[List.replicate_succ',List.append_assoc,List.set_append_right _ _ ew,List.length_replicate,Nat.sub_self];rfl
theorem CG {b t u:Nat} (hb:b≠0) (ht:(limbs b)[(limbs b).length-1]? =some t) (hu:u<32) (htu:t*2^u<4294967296):(limbs (b*2^u)).length=(limbs b).length:=by
 have hn:=dM hb
 have hp:0<2^u:=Nat.pow_pos aa
 refine Nat.le_antisymm (jL _ _ ?_) (cY (Nat.le_mul_of_pos_right _ hp))
 obtain⟨n,hl⟩:∃ n,(limbs b).length=n+1:=⟨(limbs b).length-1,by omega⟩
 rw[hl] at ht ⊢
 simp only[Nat.add_sub_cancel] at ht
 have e:=bh (limbs b) n
 rw[getD_some ht,bD aa,ak] at e
 have l:=og (aA b) (m:=n) aa
 have h1:b<4294967296^n*(t+1):=by rw[Nat.mul_add];omega
 have h2:(t+1)*2^u<=4294967296:=by
  have h3:4294967296=2^u*2^(32-u):=by rw[<-Nat.pow_add,show u+(32-u)=32 by omega]
  rw[h3,Nat.mul_comm t] at htu
  have h4:=Nat.lt_of_mul_lt_mul_left htu
  rw[Nat.mul_comm]
  calc 2^u*(t+1)<=2^u*2^(32-u):=Nat.mul_le_mul_left _ h4
   _=4294967296:=h3.symm
 have h5:b*2^u<4294967296^n*(t+1)*2^u:=Nat.mul_lt_mul_of_pos_right h1 hp
 have h6:4294967296^n*(t+1)*2^u<=4294967296^n*4294967296:=by rw[Nat.mul_assoc];exact Nat.mul_le_mul_left _ h2
 rw[Nat.pow_succ]
 omega
theorem Jq {a b u:Nat}:(a*2^u)/(b*2^u)=a/b:=Nat.mul_div_mul_right a b (Nat.pow_pos aa)
theorem Jr {a b u:Nat}:(a*2^u)%(b*2^u)=(a%b)*2^u:=Nat.mul_mod_mul_right (2^u) a b
end
section
open Go.RowKit
def Divided (w w':World) (a b:Nat) (e:Ending):Prop:=
 (b=0/\e=.returned (.tuple #[.slice none 0 0,.slice none 0 0,.int .i64 20]))\/
 (b≠0/\∃ vq vr,e=.returned (.tuple #[vq,vr,.int .i64 0])/\w'.ownsRow w.heap.size 78 1 vq (limbs (a/b)).length (ints .u32 (limbs (a/b)))/\w'.ownsRow w.heap.size 78 1 vr (limbs (a%b)).length (ints .u32 (limbs (a%b))))
def LL (w:World) (B N cap n m b a ga:Nat) (vy vq:Value) (iv:Value) (wr:World):Prop:=
 ∃ (k:Nat) (us qs:List Nat),k<=m/\iv=.int .i64 ((k:Int)-1)/\us.length=N/\cL us/\aj (us.drop k)<b/\qs.length=m-k/\cL qs/\aj us+4294967296^k*(b*aj qs)=a/\
   wr.ownsRow B 78 1 (.slice (some ⟨ga,0,none⟩) N cap) N (ints .u32 us)/\wr.ownsRow B 78 1 vq m (ints .u32 (List.replicate k 0++qs))/\Rd wr 1 vy n (ints .u32 (limbs b))/\Below B w wr
theorem wq {w:World} {g j:Nat} {u:Value}:w.grownBy (w.setCell ⟨g,j,none⟩ u) (some g):=mP (lI _ _)
theorem Fm {P:Program} {f:FuncId} {args:Array Value} {W w:World} {v:Value} (h:Calls P f args W λe w'=>e=.returned v/\∃ k,w'=W.drewN k) (hW:∃ n,W=w.drewN n):
  Calls P f args W λe w''=>e=.returned v/\∃ m,w''=w.drewN m:=
 h.mono λ_ _ ⟨he,k,hk⟩=>⟨he,by obtain⟨n,hn⟩:=hW;exact⟨n+k,by rw[hk,hn,World.drewN_drewN]⟩⟩
theorem Fo {w w':World} (h:w.grownBy w' none):Below w.heap.size w w':=⟨h.os,h.tape,h.output,h.size,λk hk=>h.block k hk ew⟩
theorem Js {a b N mq lb:Nat} (hN:N=(limbs a).length+1) (hm:N=mq+lb) (ES:(limbs b).length=lb) (hb:b≠0):aj ((limbs a++[0]).drop mq)<b/\aj (limbs a++[0])=a:=by
 have hp:=dM hb
 refine⟨?_,by rw[er,Nat.mul_zero,ak];rfl⟩
 rw[List.drop_append_of_le_length aa,er,Nat.mul_zero,Nat.add_zero]
 have h1:=jr ((aA a).drop mq)
 rw[List.length_drop,show (limbs a).length-mq=(limbs b).length-1 by omega] at h1
 exact Nat.lt_of_lt_of_le h1 (zZ hb)
set_option maxRecDepth 100000 in
theorem uf (va vb:Value) (n m:Nat) (xs ys:List Nat) (w:World) (hr:Rd w 1 va n (ints .u32 xs)) (hs:Rd w 1 vb m (ints .u32 ys)) (hx:cL xs) (hy:cL ys) (hn:n<=536870912) (hm:m<=536870912):
  Calls Tryz.prog 206 #[va,vb] w λe w'=>Divided w w' (aj xs) (aj ys) e/\Below w.heap.size w w':=by
 obtain⟨p,c,rfl,gg,gF,fc⟩:=hr.u32
 obtain⟨q,d,rfl,Hc,Cg,gX⟩:=hs.u32
 have Hs:=Lib.hid hs
 obtain⟨B,hB⟩:∃ B,B=w.heap.size:=⟨_,rfl⟩
 have HB:=Lib.hid hB
 obtain⟨a,ha⟩:∃ a,a=aj xs:=⟨_,rfl⟩
 obtain⟨b,hb⟩:∃ b,b=aj ys:=⟨_,rfl⟩
 have hal:(limbs a).length<=n:=by rw[ha,<-fc];exact iB hx
 have hbl:(limbs b).length<=m:=by rw[hb,<-gX];exact iB hy
 refine aV λR' bK=> ?_
 go_enter Tryz.func206,Tryz.ntmps206
 go_wp2_with fail
 refine (jA _ n xs _ hr hx aa).mono ?_
 rintro e w1 ⟨v1,rfl,fM,bl⟩
 rw[<-ha] at fM
 go_wp2_with fail
 refine (jA _ m ys _ (hs.below bl) hy aa).mono ?_
 rintro e w2 ⟨v2,rfl,kD,bM⟩
 rw[<-hb] at kD
 rw[<-ha,<-hb,<-hB] at bK
 have re:Hid (w2.ownsRow B 78 1 v1 (limbs a).length (ints .u32 (limbs a))):=by show World.ownsRow ..;rw[hB];exact Own.below fM bM
 have nK:Hid (w2.ownsRow B 78 1 v2 (limbs b).length (ints .u32 (limbs b))):=Own.mono kD (by rw[hB];exact bl.size)
 have ug:Hid (Below B w w2):=by show Below ..;rw[hB];exact Below.aH bl bM
 have hBs:B<=w2.heap.size:=by rw[hB];exact ug.out.size
 obtain⟨p1,c1,rfl,_,hc1m,_⟩:=Own.form re.out
 obtain⟨p2,c2,rfl,_,hc2m,_⟩:=Own.form nK.out
 clear hr hs hx hy fM kD bl bM fc gX ha hb hB Hs
 unfold maxLen at hc1m hc2m
 generalize La:(limbs a).length=la at*
 generalize ES:(limbs b).length=lb at*
 have KZ:=Lib.hid La
 have Lb:=Lib.hid ES
 by_cases pH:b=0
 ·obtain rfl:lb=0:=by rw[pH,bP] at ES;exact ES.symm
  clear La ES
  go_wp2_with fail
  go_ret3
  exact bK.out _ _ ⟨.inl ⟨pH,rfl⟩,ug.out⟩
 ·have hlb0:lb≠0:=λh=>pH (oc (by rw[Lb.out];exact h))
  have hz:((lb:Int) == 0)=false:=by rw[beq_eq_false_iff_ne];omega
  have HNZ:=Lib.hid pH
  clear pH La ES
  go_wp2_with fail
  refine (Ab _ _ la lb (limbs a) (limbs b) _ (Rd.own re.out) (Rd.own nK.out) (aA a) (aA b)).mono ?_
  rintro e w3 ⟨rfl,k3,rfl⟩
  rw[ak,ak]
  by_cases qd:a<b
  ·have hc:gh a b<0:=jz.2 qd
   generalize gh a b=cv at hc ⊢
   go_wp2_with fail
   go_ret3
   refine bK.out _ _ ⟨.inr ⟨HNZ.out,_,_,rfl,?_,?_⟩,Below.drewN ug.out _⟩
   ·rw[Nat.div_eq_of_lt qd,bP];exact World.ownsRow_nil _ _ _ _
   ·rw[Nat.mod_eq_of_lt qd,KZ.out];exact Own.mono (Own.drewN re.out _) (by have:=HB.out;omega)
  ·have hc:0<=gh a b:=by have:=mt (@jz a b).1 qd;omega
   generalize gh a b=cv at hc ⊢
   have HAB:=Lib.hid qd
   have LB:=Lib.hid (Own.drewN re.out k3)
   have Jt:=Lib.hid (Own.drewN nK.out k3)
   have KW:=Lib.hid (Below.drewN ug.out k3)
   have LM:B<=(w2.drewN k3).heap.size:=hBs
   clear re nK ug hBs qd
   generalize w2.drewN k3=w3 at*
   by_cases hlb1:lb=1
   ·have HL1:=Lib.hid hlb1
    subst hlb1
    obtain⟨gb,ob,t,rfl,_,htk,hct⟩:=(Rd.own Jt.out).cellAt (k:=0) aa
    have ht4:=(aA b).at htk
    have htb:t=b:=by
     have h1:=bh (limbs b) 0
     rw[getD_some htk,bD (by rw[Lb.out];omega),ak] at h1
     simp[eN] at h1
     omega
    have HTB:=Lib.hid htb
    rw[Nat.add_zero] at hct
    have Bu:=gL hct
    simp only at Bu
    clear htk htb hz hlb0
    go_wp2_with fail
    refine (rA _ la t (limbs a) _ (Rd.own LB.out) (aA a) aa ht4).mono ?_
    rintro e w4 ⟨⟨h,rfl⟩|⟨h,v4,rfl,rH⟩,iX⟩
    ·exact absurd (by rw[<-HTB.out];exact h) HNZ.out
    rw[ak] at rH ⊢
    have HO5:=Lib.hid (Own.mono rH LM)
    have LN:=Lib.hid (KW.out.trans (iX.mono LM))
    have Ju:B<=w4.heap.size:=Nat.le_trans LM iX.size
    have hrt:a%t<4294967296:=Nat.lt_trans (Nat.mod_lt _ aa) ht4
    obtain⟨r,hr⟩:∃ r,r=a%t:=⟨_,rfl⟩
    rw[<-hr] at hrt ⊢
    have HR:=Lib.hid hr
    clear rH iX hct Bu h hr
    go_wp2_with fail
    refine (jA _ 1 [r] _ (Rd.lit1 rfl) (cL.cons hrt cL.nil) aa).mono ?_
    rintro e w5 ⟨v5,rfl,wu,sP⟩
    have kj:Below w4.heap.size w4 w5:=((Below.refl w4.heap.size w4).alloc (Nat.le_refl _) (.cells #[.int .u32 (r:Int)] 78)).trans (sP.mono ew)
    rw[show aj [r]=r by simp[fH,eN]] at wu
    go_wp2_with fail
    go_ret3
    refine bK.out _ _ ⟨.inr ⟨HNZ.out,_,_,rfl,?_,?_⟩,LN.out.trans (kj.mono Ju)⟩
    ·rw[<-HTB.out];exact Own.mono (Own.below HO5.out kj) (by have:=HB.out;omega)
    ·rw[<-HTB.out,<-HR.out];exact Own.mono wu (by have:=HB.out;simp;omega)
   ·obtain⟨mm,yw⟩:∃ mm,lb=mm+2:=⟨lb-2,by omega⟩
    have HMM:=Lib.hid yw
    have fI:((lb:Int) == 1)=false:=by rw[beq_eq_false_iff_ne];omega
    obtain⟨l1,yu⟩:∃ l1,lb=l1+1:=⟨lb-1,by omega⟩
    have HL1:=Lib.hid yu
    have hwl1:IntKind.i64.wrap ((lb:Int)-1)=(l1:Int):=by rw[IntWalk.i64_in _ aa];omega
    obtain⟨gb,ob,t,rfl,_,htk,hct⟩:=(Rd.own Jt.out).cellAt (k:=l1) aa
    have ht4:=(aA b).at htk
    have Bu:=gL hct
    simp only at Bu
    have htk2:(limbs b)[(limbs b).length-1]? =some t:=by rw[Lb.out,HL1.out];exact htk
    have ht0:=(Cc htk2).2
    have HTK:=Lib.hid htk2
    have hl1lt:(l1:Int)<(lb:Int):=by omega
    clear htk htk2 hlb1 yw yu
    go_wp2_with fail
    refine (Cp t _ ht4 ht0).mono ?_
    rintro e w4 ⟨⟨u,rfl,hu32,htu⟩,rfl⟩
    go_wp2_with fail
    refine (sW _ lb b (u:Int) (limbs b) _ (Rd.own Jt.out) (aA b) (ak b) aa aa aa).mono ?_
    rintro e w4 ⟨⟨_,h,_⟩|⟨_,v4,rfl,rH⟩,iX⟩
    ·omega
    have es:gu b (u:Int)=b*2^u:=by unfold gu;rw[if_pos aa,Int.toNat_natCast]
    rw[es] at rH
    have Hm:(limbs (b*2^u)).length=lb:=by rw[CG HNZ.out HTK.out hu32 htu];exact Lb.out
    have hnz:b*2^u≠0:=Nat.mul_ne_zero HNZ.out (Nat.pos_iff_ne_zero.1 (Nat.pow_pos aa))
    have hle4:b*2^u<=a*2^u:=Nat.mul_le_mul_right _ (by have:=HAB.out;omega)
    have HDV:=Lib.hid (Jq (a:=a) (b:=b) (u:=u))
    have HMD:=Lib.hid (Jr (a:=a) (b:=b) (u:=u))
    have hla5:=uc a u hu32
    rw[KZ.out] at hla5
    have HES:Hid (gu ((a%b)*2^u) (-(u:Int))=a%b):=by
     show _=_
     unfold gu
     by_cases h0:u=0
     ·subst h0;simp
     ·rw[if_neg aa,Int.neg_neg,Int.toNat_natCast,Nat.mul_div_cancel _ (Nat.pow_pos aa)]
    have HES2:Hid (gu a (u:Int)=a*2^u):=by show _=_;unfold gu;rw[if_pos aa,Int.toNat_natCast]
    generalize hb':b*2^u=b' at*
    generalize ha':a*2^u=a' at*
    rw[Hm] at rH
    have hlb5:lb<=(limbs a').length:=by rw[<-Hm];exact cY hle4
    obtain⟨gy,cy,rfl,hgy3,hgy4⟩:=Own.vi rH aa
    have HY4:=Lib.hid rH
    have LN:=Lib.hid (KW.out.trans (iX.mono LM))
    have Ju:B<=w4.heap.size:=Nat.le_trans LM iX.size
    have HA4:=Lib.hid (Own.below LB.out iX)
    have CH:=Lib.hid Hm
    clear rH iX htu ht0 ht4 hct Bu Hm hle4 es HTK LB Jt
    go_wp2_with fail
    refine (sW _ la a (u:Int) (limbs a) _ (Rd.own HA4.out) (aA a) (ak a) aa aa aa).mono ?_
    rintro e w5 ⟨⟨_,h,_⟩|⟨_,v5,rfl,wu⟩,kj⟩
    ·omega
    rw[HES2.out] at wu
    generalize hl5:(limbs a').length=la' at*
    have HL5:=Lib.hid hl5
    have HA5:=Lib.hid wu
    have HY5:=Lib.hid (Own.below HY4.out kj)
    have HB5:=Lib.hid (LN.out.trans (kj.mono Ju))
    have hs5:=kj.size
    have LO:=Lib.hid kj
    obtain⟨p5,c5,rfl,_,_,_⟩:=Own.form wu
    obtain⟨N,hN⟩:∃ N,N=la' +1:=⟨_,rfl⟩
    have HNN:=Lib.hid hN
    obtain⟨mq,hmq⟩:∃ mq,N=mq+lb:=⟨N-lb,by omega⟩
    have HMQ:=Lib.hid hmq
    have hmq0:0<mq:=by omega
    have hwm:IntKind.i64.wrap ((N:Int)-(lb:Int))=(mq:Int):=by rw[IntWalk.i64_in _ aa];omega
    obtain⟨i0,hi,iW,fI,jf⟩:=info_parts js
    have hN30:N<=1073741824:=by omega
    have hla30:la'<=1073741824:=by omega
    have hmq30:mq<=1073741824:=by omega
    clear wu kj hl5 hmq HA4 hN
    go_wp2_with (first
     | (at_builtin;refine dS rfl _ _ 23 rfl w4.heap.size 78 i0 (.int .u32 0) 4 Tryz.underlying23 hi iW fI jf rfl HA5.out rfl rfl (d:=0) rfl aa aa hs5 ?_;intro v6 w6 Hn Fp;rw[<-HNN.out] at Hn;obtain⟨ga,ca,rfl,hga5,hga6⟩:=Own.vi Hn (by have:=HNN.out;omega))
     | (at_make;refine wpList_make_full _ rfl _ _ 23 rfl B 78 i0 (.int .u32 0) 1 Tryz.underlying23 hi iW fI .i64 .i64 _ _ mq rfl rfl (by have:=HMQ.out;omega) (by have:=HMQ.out;omega) (by rw[jf];have:=HMQ.out;omega) (by unfold maxLen;have:=HMQ.out;omega) (by have:=(Fp w4 LO.out).size;omega) ?_;intro w7 hown7 hgr7))
    obtain⟨gq,hgq⟩:∃ gq,gq=w6.heap.size:=⟨_,rfl⟩
    have LP:=Fp w4 LO.out
    have hb67:=Fo hgr7
    have Ho:=Own.made hown7
    rw[List.nil_append] at Ho
    rw[<-hgq] at Ho ⊢
    have hne1:ga≠gq:=by omega
    have hne2:gy≠ga:=by omega
    have hne3:gy≠gq:=by have:=LP.size;omega
    have HA7:Hid (w7.ownsRow B 78 1 (.slice (some ⟨ga,0,none⟩) N ca) N (ints .u32 (limbs a'++[0]))):=Own.mono (Own.below Hn hb67) Ju
    have HQ7:=Lib.hid Ho
    have HY7:Hid (Rd w7 1 (.slice (some ⟨gy,0,none⟩) lb cy) lb (ints .u32 (limbs b'))):=(Rd.own (Own.below HY4.out LP)).below hb67
    have HB7:Hid (Below B w w7):=(LN.out.trans (LP.mono Ju)).trans (hb67.mono (Nat.le_trans Ju LP.size))
    have HST:=Lib.hid (Js (N:=N) (mq:=mq) (lb:=lb) (a:=a') (b:=b') (by rw[HL5.out];exact HNN.out) HMQ.out CH.out hnz)
    clear Hn hown7 hgr7 Fp LP hb67 Ho hgq HA5 HY5 HY4 HB5 LN LO hi iW fI jf
    go_loopw [12] (λiv wr=>LL w B N ca lb mq b' a' ga (.slice (some ⟨gy,0,none⟩) lb cy) (.slice (some ⟨gq,0,none⟩) mq mq) iv wr) (λiv _=>(intOf iv+1).toNat)
    case atStart=>exact⟨mq,_,[],Nat.le_refl _,rfl,by rw[List.length_append,HL5.out,HNN.out];rfl,(aA a').append (cL.cons aa cL.nil),HST.out.1,by simp,cL.nil,by rw[HST.out.2];simp[eN],HA7.out,by simpa using HQ7.out,HY7.out,HB7.out⟩
    case round=>
     obtain⟨k,us,qs,EZ,rfl,ze,hulim,Ck,hql,hqlim,hval,hoa,CI,hry,lZ⟩:=hrel
     have HUL:=Lib.hid ze
     have wv:=Lib.hid hulim
     have HDROP:=Lib.hid Ck
     have HQL:=Lib.hid hql
     have HQLIM:=Lib.hid hqlim
     have HVAL:=Lib.hid hval
     have HOA:=Lib.hid hoa
     have HOQ:=Lib.hid CI
     have HRY:=Lib.hid hry
     have gM:=Lib.hid lZ
     clear ze hulim Ck hql hqlim hval hoa CI hry lZ
     by_cases zc:k=0
     ·subst zc
      have hv:=HVAL.out
      have hd:=HDROP.out
      rw[List.drop_zero] at hd
      rw[Nat.pow_zero,Nat.one_mul] at hv
      have hq1:aj qs=a/b:=by
       rw[<-HDV.out,<-hv,Nat.add_mul_div_left _ _ aa,Nat.div_eq_of_lt hd,Nat.zero_add]
      have sR:aj us=(a%b)*2^u:=by
       rw[<-HMD.out,<-hv,Nat.add_mul_mod_self_left,Nat.mod_eq_of_lt hd]
      have HQ1:=Lib.hid hq1
      have HR1:=Lib.hid sR
      have hBr:B<=w.heap.size:=by have:=HB.out;omega
      have hBw:=gM.out.size
      clear hv hd hq1 sR
      go_wp2_with fail
      refine (sW _ N ((a%b)*2^u) (-(u:Int)) us _ (Rd.own HOA.out) wv.out HR1.out aa aa aa).mono ?_
      rintro e w8 ⟨⟨_,h,_⟩|⟨_,v8,rfl,zf⟩,hb8⟩
      ·omega
      rw[HES.out] at zf
      have HO8:=Lib.hid (Own.mono zf (Nat.le_trans hBr hBw))
      have HB8:=Lib.hid (gM.out.trans (hb8.mono (Nat.le_trans hBr hBw)))
      have hq8:=Own.below HOQ.out hb8
      rw[List.replicate_zero,List.nil_append] at hq8
      have HQ8:=Lib.hid hq8
      have hs8:=hb8.size
      clear zf hb8 hq8
      go_wp2_with fail
      refine (jA _ mq qs _ (Rd.own HQ8.out) HQLIM.out aa).mono ?_
      rintro e w9 ⟨v9,rfl,hown9,Jv⟩
      rw[HQ1.out] at hown9
      go_wp2_with fail
      go_ret3
      refine bK.out _ _ ⟨.inr ⟨HNZ.out,_,_,rfl,?_,?_⟩,HB8.out.trans (Jv.mono aa)⟩
      ·exact Own.mono hown9 aa
      ·exact Own.mono (Own.below HO8.out Jv) (by have:=HB.out;omega)
     ·obtain⟨i,hi⟩:∃ i,k=i+1:=⟨k-1,by omega⟩
      subst hi
      have hjj:((i+1:Nat):Int)-1=(i:Int):=by omega
      rw[hjj]
      have hmq:=HMQ.out
      have yw:=HMM.out
      have yu:=HL1.out
      obtain⟨hi,h1⟩:∃ hi,us[i+(mm+2)]? =some hi:=⟨_,List.getElem?_eq_getElem (by rw[HUL.out];omega)⟩
      obtain⟨mid,h2⟩:∃ mid,us[i+(mm+1)]? =some mid:=⟨_,List.getElem?_eq_getElem (by rw[HUL.out];omega)⟩
      obtain⟨low,h3⟩:∃ low,us[i+mm]? =some low:=⟨_,List.getElem?_eq_getElem (by rw[HUL.out];omega)⟩
      obtain⟨v1,h4⟩:∃ v1,(limbs b')[mm+1]? =some v1:=⟨_,List.getElem?_eq_getElem (by rw[CH.out];omega)⟩
      obtain⟨v2,h5⟩:∃ v2,(limbs b')[mm]? =some v2:=⟨_,List.getElem?_eq_getElem (by rw[CH.out];omega)⟩
      have Bv:0<v1:=Nat.pos_iff_ne_zero.2 (Cc (n:=b') (t:=v1) (by rw[CH.out,show lb-1=mm+1 by omega];exact h4)).2
      have hwin:=Jp (m:=mm) HUL.out aa wv.out (aA b') (by rw[CH.out];exact yw) (ak b') HDROP.out h1 h2 h3 h4 h5 Bv
      have Ar:=Lib.hid hwin
      have hhi:=hwin.hi_le
      have z1:=wv.out.at h1
      have z2:=wv.out.at h2
      have z3:=wv.out.at h3
      have z4:=(aA b').at h4
      have z5:=(aA b').at h5
      obtain⟨x1,e1,c1',f1⟩:=Own.gG HOA.out (j:=i+(mm+2)) aa
      obtain⟨x2,e2,c2',f2⟩:=Own.gG HOA.out (j:=i+(mm+1)) aa
      obtain⟨x3,e3,c3',f3⟩:=Own.gG HOA.out (j:=i+mm) aa
      rw[h1] at e1;rw[h2] at e2;rw[h3] at e3
      obtain rfl:=Option.some.inj e1
      obtain rfl:=Option.some.inj e2
      obtain rfl:=Option.some.inj e3
      obtain⟨g4,o4,x4,hp4,lS,e4,c4'⟩:=HRY.out.cellAt (k:=mm+1) aa
      obtain⟨g5,o5,x5,hp5,hg5,e5,c5'⟩:=HRY.out.cellAt (k:=mm) aa
      simp only[Option.some.injEq,Addr.mk.injEq,and_true] at hp4 hp5
      obtain⟨rfl,rfl⟩:=hp4
      obtain⟨rfl,hz5⟩:=hp5
      subst hz5
      rw[h4] at e4;rw[h5] at e5
      obtain rfl:=Option.some.inj e4
      obtain rfl:=Option.some.inj e5
      rw[Nat.zero_add] at c4' c5'
      obtain⟨J0,hJ0⟩:∃ J0,J0=i+(mm+2):=⟨_,rfl⟩
      obtain⟨J1,hJ1⟩:∃ J1,J1=i+(mm+1):=⟨_,rfl⟩
      obtain⟨J2,hJ2⟩:∃ J2,J2=i+mm:=⟨_,rfl⟩
      rw[<-hJ0] at c1' f1;rw[<-hJ1] at c2' f2;rw[<-hJ2] at c3' f3
      rw[show mm+1=l1 by omega] at c4'
      obtain⟨J3,hJ3⟩:∃ J3,J3=J0+1:=⟨_,rfl⟩
      have hw0:IntKind.i64.wrap ((i:Int)+(lb:Int))=(J0:Int):=by rw[IntWalk.i64_in _ aa];omega
      have sO:IntKind.i64.wrap ((J0:Int)-1)=(J1:Int):=by rw[IntWalk.i64_in _ aa];omega
      have hw2:IntKind.i64.wrap ((J0:Int)-2)=(J2:Int):=by rw[IntWalk.i64_in _ aa];omega
      have hw4:IntKind.i64.wrap ((lb:Int)-2)=(mm:Int):=by rw[IntWalk.i64_in _ aa];omega
      have hw5:IntKind.i64.wrap ((J0:Int)+1)=(J3:Int):=by rw[IntWalk.i64_in _ aa];omega
      have b0:(J0:Int)<(N:Int):=by omega
      have b1:(J1:Int)<(N:Int):=by omega
      have b2:(J2:Int)<(N:Int):=by omega
      have b3:(l1:Int)<(lb:Int):=by omega
      have b4:(mm:Int)<(lb:Int):=by omega
      have t1:=gL c1'
      have t4:=gL c4'
      simp only at t1 t4
      have HJ0:=Lib.hid hJ0
      have HJ3:=Lib.hid hJ3
      have Fg:i<mq:=by omega
      have HCAP:Hid (N<=ca/\ca<=9223372036854775807):=by
       obtain⟨_,_,hv,hcap,hcapm,_⟩:=Own.form HOA.out
       simp only[Value.slice.injEq,true_and] at hv
       obtain⟨_,rfl⟩:=hv
       unfold maxLen at hcapm
       exact⟨hcap,by omega⟩
      clear e1 e2 e3 e4 e5 h1 h2 h3 h4 h5 hwin hJ0 hJ1 hJ2 hJ3 hmq yw yu lS hg5
      go_wp2_with fail
      go_quiet ((go_at_call 274;exact Fm (Jn hi mid low v1 v2 _ hhi z2 z3 Bv z4 z5) ⟨_,rfl⟩))
      have hcap:=HCAP.out
      have b5:(J3:Int)<=(ca:Int):=by have:=HJ3.out;omega
      have b6:(i:Int)<=(J3:Int):=by have:=HJ3.out;have:=HJ0.out;omega
      have b7:(i:Int)<(ca:Int):=by have:=HJ3.out;have:=HJ0.out;omega
      have b8:¬ ca-i=0:=by omega
      have b9:ca≠i:=by omega
      clear c1' c2' c3' c4' c5' f1 f2 f3 sO hw2 hw4 b1 b2 b3 b4
      go_wp2_with fail
      obtain⟨G,hG⟩:∃ G,G=gS ((hi*4294967296+mid)*4294967296+low) (v1*4294967296+v2):=⟨_,rfl⟩
      have CJ:=Ar.out.near
      rw[<-hG] at CJ ⊢
      have hG4:G<=4294967295:=by rw[hG];exact Nat.min_le_left _ _
      have hoa:=Own.drewN HOA.out nq
      rw[Ar.out.split] at hoa
      have hJ:J3-i=mm+3:=by have:=HJ3.out;have:=HJ0.out;omega
      refine (LI ga N ca i (J3-i) (ca-i) lb G B (us.take i) _ _ (limbs b') _ _ hoa Ar.out.pre (by rw[Ar.out.len,hJ]) Ar.out.lim (Rd.drewN HRY.out nq) (aA b') (λp c a h1 h2=>by cases h1;cases h2;exact hne2) (by rw[hJ,HMM.out]) (by have:=HJ3.out;omega) aa aa (by rw[ak];exact CF CJ.2)).mono ?_
      rintro e w8 ⟨q',rfl,A',hA'l,LQ,hA'v,hq',zf,hg8⟩
      rw[ak] at hA'v hq'
      have vR:0<b':=by omega
      obtain⟨hqd,LK⟩:=Fk vR CJ.1 CJ.2 hA'v hq'
      have hq4:q' <4294967296:=by rcases hq' with ⟨_,h⟩|⟨_,h⟩ <;> omega
      have hst:=Fl Ar.out.split Ar.out.pre Ar.out.zero hA'v LK HVAL.out
      have hq8:=(Own.drewN HOQ.out nq).kept hg8 (.inr (by simp[Value.ownBlock];omega))
      have hry8:=(Rd.drewN HRY.out nq).rD hg8 (λp c a h1 h2=>by cases h1;cases h2;exact hne2)
      have hbw8:Below B w w8:=(Below.drewN gM.out nq).grown hg8 (Nat.le_trans (by have:=HB.out;omega) gM.out.size) (λk hk=>by cases hk;exact (Own.lt HOA.out).1)
      obtain⟨x8,hx8,hc8,hf8⟩:=Own.gG hq8 (j:=i) Fg
      have hl8:=gL hc8
      simp only at hl8
      have hus':(us.take i++(A'++us.drop (i+(mm+3)))).length=N:=by
       have h1:=congrArg List.length Ar.out.split
       rw[HUL.out] at h1
       simp only[List.length_append] at h1 ⊢
       omega
      have Ct:cL (us.take i++(A'++us.drop (i+(mm+3)))):=(wv.out.take _).append (LQ.append (wv.out.drop _))
      have hq9:=Own.gi (j:=i) (x:=q') hq8
      rw[Aq] at hq9
      have HREL:Hid (LL w B N ca lb mq b' a' ga (.slice (some ⟨gy,0,none⟩) lb cy) (.slice (some ⟨gq,0,none⟩) mq mq) (.int .i64 ((i:Int)-1)) (w8.setCell ⟨gq,i,none⟩ (.int .u32 (q':Int)))):=
       ⟨i,_,q'::qs,by omega,rfl,hus',Ct,hst.1,by rw[List.length_cons,HQL.out];omega,cL.cons hq4 HQLIM.out,hst.2,zf.kept wq (.inr (by simp[Value.ownBlock];omega)),hq9,hry8.rD wq (λp c a h1 h2=>by cases h1;cases h2;exact hne3),hbw8.setCell (p:=⟨gq,i,none⟩) (Own.lt hq8).1 _⟩
      clear hA'l LQ hA'v hq' zf hg8 hqd LK hst hq8 hry8 hbw8 hx8 hus' Ct hq9 hoa CJ hG hJ
      go_wp2_with fail
      go_roundw
      case rel=>exact HREL.out
      case measure=>simp[intOf]
end
end Go.Proofs.YtlifeokjcgngjaaGreat
