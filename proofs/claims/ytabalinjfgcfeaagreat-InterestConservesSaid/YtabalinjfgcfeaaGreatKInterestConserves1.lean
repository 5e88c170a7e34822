/- AP of the proof,laid behind one another. -/
import Derived.Lib.Hide
import Derived.WalkKit
import Derived.WalkSpells
import Derived.WalkLawsBesides
import Derived.Outline
import Derived.Test.YtabalinjfgcfeaaGreatRows
import Derived.Deep.QuietTactic
import Derived.BigQuiet
import Derived.Lib.SliceRun
import Derived.Lib.AppendZeros
import Derived.RegionCalls
import Derived.Deep.RegionWith
import Derived.Lib.BitFns
import Derived.WalkMore
import Derived.RangeFuncBox
import Derived.Orders
import Derived.Deep.MidRow
import Derived.Laws.MakeOwn
import Derived.RegionTactic
import Derived.Laws.Slices
import Derived.Deep.LoopGhost
import Derived.Scope
import Derived.Deep.AppendSrc
import Derived.Laws.AppendOwn
import Derived.MapKept
import Derived.Deep.RegionHeld3
import Derived.Deep.RegionLaw
import Derived.Deep.DeepCutAuto
import Derived.BigRegion
import Derived.OpenShut
import Derived.WideShapes
import Derived.ChangeArms
import Derived.ChangeSlices
import Derived.RangeFuncNested
import Derived.RangeFuncLeaves
import Derived.OrdersIn
import Derived.TacticsIn
set_option linter.all false
namespace Go.Proofs.YtabalinjfgcfeaaGreat
def val (B:Nat):List Nat→Nat
 | []=>0
 | x::xs=>x + B * val B xs
def dM (B:Nat) (xs:List Nat):Prop:=∀ x∈xs,x < B
def gY (B:Nat) (n:Nat):List Nat:=
 if _h:n=0∨B < 2 then [] else n % B::gY B (n / B)
termination_by n
decreasing_by
 have:n≠0∧2≤B:=by omega
 exact Nat.div_lt_self (by omega) (by omega)
theorem val_nil (B:Nat):val B []=0:=rfl
theorem gl (B x:Nat) (xs:List Nat):val B (x::xs)=x + B * val B xs:=rfl
theorem dG (B:Nat):gY B 0=[]:=by rw [gY];simp
theorem gZ {B n:Nat} (hB:2≤B) (hn:n≠0):gY B n=n % B::gY B (n / B):=by
 rw [gY,dif_neg (by omega)]
theorem dM.nil (B:Nat):dM B []:=fun _ h=>by cases h
theorem dM.cons {B x:Nat} {xs:List Nat} (hx:x < B) (h:dM B xs):dM B (x::xs):=by
 intro y hy;cases hy with
 | head=>exact hx
 | tail _ h'=>exact h y h'
theorem dM.head {B x:Nat} {xs:List Nat} (h:dM B (x::xs)):x < B:=h x (List.mem_cons_self ..)
theorem dM.tail {B x:Nat} {xs:List Nat} (h:dM B (x::xs)):dM B xs:=fun y hy=>h y (List.mem_cons_of_mem _ hy)
theorem dM.take {B:Nat} {xs:List Nat} (h:dM B xs) (k:Nat):dM B (xs.take k):=fun y hy=>h y (List.mem_of_mem_take hy)
theorem dM.drop {B:Nat} {xs:List Nat} (h:dM B xs) (k:Nat):dM B (xs.drop k):=fun y hy=>h y (List.mem_of_mem_drop hy)
theorem dM.append {B:Nat} {xs ys:List Nat} (h:dM B xs) (h':dM B ys):dM B (xs++ys):=by
 intro y hy;rcases List.mem_append.1 hy with hy | hy
 ·exact h y hy
 ·exact h' y hy
theorem dM.at {B:Nat} {xs:List Nat} (h:dM B xs) {k x:Nat} (hk:xs[k]? =some x):x < B:=h x (List.mem_of_getElem? hk)
theorem dM.replicate {B:Nat} (hB:0 < B) (k:Nat):dM B (List.replicate k 0):=fun y hy=>by
 rw [List.mem_replicate] at hy;omega
theorem ny {B:Nat} (hB:2≤B):∀ n,dM B (gY B n):=by
 intro n
 induction n using Nat.strongRecOn with
 | _ n ih=>
  by_cases hn:n=0
  ·subst hn;rw [dG];exact dM.nil B
  ·rw [gZ hB hn]
   exact dM.cons (Nat.mod_lt _ (by omega)) (ih _ (Nat.div_lt_self (by omega) (by omega)))
theorem jR {B:Nat} (hB:2≤B):∀ n,val B (gY B n)=n:=by
 intro n
 induction n using Nat.strongRecOn with
 | _ n ih=>
  by_cases hn:n=0
  ·subst hn;rw [dG];rfl
  ·rw [gZ hB hn,gl,ih _ (Nat.div_lt_self (by omega) (by omega))]
   exact Nat.mod_add_div n B
theorem nA {B:Nat}:∀ {xs:List Nat},dM B xs→val B xs < B ^ xs.length:=by
 intro xs
 induction xs with
 | nil=>intro _;simp [val]
 | cons x xs ih=>
  intro h
  have h1:=ih h.tail
  have hx:=h.head
  rw [gl,List.length_cons,Nat.pow_succ,Nat.mul_comm (B ^ xs.length) B]
  calc x + B * val B xs < B + B * val B xs:=by omega
   _=B * (val B xs + 1):=by rw [Nat.mul_add];omega
   _≤B * B ^ xs.length:=Nat.mul_le_mul_left _ h1
theorem iG (B:Nat):∀ (xs ys:List Nat),val B (xs++ys)=val B xs + B ^ xs.length * val B ys:=by
 intro xs ys
 induction xs with
 | nil=>simp [val]
 | cons x xs ih=>
  rw [List.cons_append,gl,ih,gl,List.length_cons,Nat.pow_succ,Nat.mul_add,Nat.add_assoc]
  congr 2
  rw [←Nat.mul_assoc,Nat.mul_comm B (B ^ xs.length)]
theorem lF (B:Nat) (xs:List Nat) (x:Nat):val B (xs++[x])=val B xs + B ^ xs.length * x:=by
 rw [iG];simp [val]
theorem gE (B k:Nat):val B (List.replicate k 0)=0:=by
 induction k with
 | zero=>rfl
 | succ k ih=>rw [List.replicate_succ,gl,ih];simp
theorem vI {B:Nat} (hB:2≤B):∀ {xs:List Nat},dM B xs→(∀ x,xs.getLast? =some x→x≠0)→gY B (val B xs)=xs:=by
 intro xs
 induction xs with
 | nil=>intro _ _;exact dG B
 | cons x xs ih=>
  intro hd hl
  have hx:=hd.head
  have hne:val B (x::xs)≠0:=by
   intro h0
   rw [gl] at h0
   have gK:x=0:=by omega
   cases xs with
   | nil=>exact hl x (by simp) gK
   | cons y ys=>
    have hv:val B (y::ys)=0:=by
     have:B * val B (y::ys)=0:=by omega
     rcases Nat.mul_eq_zero.1 this with h | h
     ·omega
     ·exact h
    have:=ih hd.tail (fun z hz=>hl z (by rw [List.getLast?_cons_cons];exact hz))
    rw [hv,dG] at this
    cases this
  rw [gZ hB hne,gl]
  have h1:(x + B * val B xs) % B=x:=by rw [Nat.add_mul_mod_self_left];exact Nat.mod_eq_of_lt hx
  have h2:(x + B * val B xs) / B=val B xs:=by
   rw [Nat.add_mul_div_left _ _ (by omega),Nat.div_eq_of_lt hx];omega
  rw [h1,h2]
  congr 1
  cases xs with
  | nil=>exact dG B
  | cons y ys=>exact ih hd.tail (fun z hz=>hl z (by rw [List.getLast?_cons_cons];exact hz))
theorem F8 {B:Nat} (hB:2≤B):∀ n x,(gY B n).getLast? =some x→x≠0:=by
 intro n
 induction n using Nat.strongRecOn with
 | _ n ih=>
  intro x hx
  by_cases hn:n=0
  ·subst hn;rw [dG] at hx;cases hx
  ·rw [gZ hB hn] at hx
   by_cases h2:n / B=0
   ·rw [h2,dG] at hx
    simp at hx
    have:n < B:=by
     rcases Nat.lt_or_ge n B with h | h
     ·exact h
     ·have:=Nat.div_pos h (by omega:0 < B);omega
    rw [Nat.mod_eq_of_lt this] at hx
    omega
   ·rw [gZ hB h2,List.getLast?_cons_cons,←gZ hB h2] at hx
    exact ih _ (Nat.div_lt_self (by omega) (by omega)) x hx
theorem vJ {B:Nat} (hB:2≤B) {m n:Nat} (h:gY B m=gY B n):m=n:=by
 have:=congrArg (val B) h
 rwa [jR hB,jR hB] at this
theorem ez {B:Nat} (hB:2≤B):∀ (k n:Nat),n < B ^ k→(gY B n).length≤k:=by
 intro k
 induction k with
 | zero=>intro n h;have:n=0:=by simpa using h
         subst this;rw [dG];simp
 | succ k ih=>
  intro n h
  by_cases hn:n=0
  ·subst hn;rw [dG];simp
  ·rw [gZ hB hn,List.length_cons]
   have:n / B < B ^ k:=by
    rw [Nat.div_lt_iff_lt_mul (by omega)]
    rwa [Nat.pow_succ] at h
   have:=ih _ this
   omega
theorem vK {B:Nat} (hB:2≤B) {k n:Nat} (h:B ^ k≤n):k < (gY B n).length:=by
 rcases Nat.lt_or_ge k (gY B n).length with h' | h'
 ·exact h'
 ·have h1:=nA (ny hB n)
  rw [jR hB] at h1
  have:=Nat.pow_le_pow_right (show 0 < B by omega) h'
  omega
theorem cZ {B:Nat} (hB:2≤B) {m n:Nat} (h:m≤n):(gY B m).length≤(gY B n).length:=by
 apply ez hB
 have h1:=nA (ny hB n)
 rw [jR hB] at h1
 omega
theorem zj {B:Nat} (hB:2≤B) {xs:List Nat} (h:dM B xs):(gY B (val B xs)).length≤xs.length:=
 ez hB _ _ (nA h)
theorem tG {B:Nat} (hB:2≤B) (n:Nat):n < B ^ (gY B n).length:=by
 have h1:=nA (ny hB n)
 rwa [jR hB] at h1
theorem tH {B:Nat} (hB:2≤B) {n:Nat} (hn:n≠0):B ^ ((gY B n).length - 1)≤n:=by
 rcases Nat.lt_or_ge n (B ^ ((gY B n).length - 1)) with h | h
 ·have h1:=ez hB _ _ h
  have h2:0 < (gY B n).length:=by rw [gZ hB hn];simp
  omega
 ·exact h
theorem zl {B:Nat} (hB:2≤B) {n:Nat}:gY B n=[]↔n=0:=by
 constructor
 ·intro h;exact vJ hB (h.trans (dG B).symm)
 ·rintro rfl;exact dG B
theorem mK {B:Nat} (hB:2≤B) {n:Nat} (hn:n≠0):0 < (gY B n).length:=by
 rw [gZ hB hn];simp
theorem iQ (B:Nat) (xs:List Nat) (k:Nat) (hk:k≤xs.length):val B xs=val B (xs.take k) + B ^ k * val B (xs.drop k):=by
 conv=>lhs;rw [←List.take_append_drop k xs]
 rw [iG,List.length_take,Nat.min_eq_left hk]
theorem bq {α:Type} {xs:List α} {k:Nat} {x:α} (h:xs[k]? =some x):xs.take (k + 1)=xs.take k++[x]:=by
 rw [List.take_add_one,h];rfl
theorem kx {B:Nat} {xs:List Nat} {k:Nat} (hk:xs[k]? =some 0):val B (xs.take (k + 1))=val B (xs.take k):=by
 rw [bq hk,lF];simp
theorem jG {B:Nat} (hB:2≤B) {xs:List Nat} (hd:dM B xs) {m:Nat} (hm:m≤xs.length) (hv:val B (xs.take m)=val B xs) (hl:m=0∨∃ x,xs[m - 1]? =some x∧x≠0):
  gY B (val B xs)=xs.take m:=by
 rw [←hv]
 apply vI hB (hd.take m)
 intro x hx
 rcases hl with rfl | ⟨y,hy,Iu⟩
 ·simp at hx
 ·rw [List.getLast?_eq_getElem?,List.length_take,Nat.min_eq_left hm,List.getElem?_take] at hx
  split at hx
  ·rw [hy] at hx;cases hx;exact Iu
  ·cases hx
theorem jS {B:Nat} {xs ys:List Nat} (hx:dM B xs) {k a b:Nat} (ha:xs[k]? =some a) (hb:ys[k]? =some b) (uR:a < b)
  (hh:xs.drop (k + 1)=ys.drop (k + 1)):val B xs < val B ys:=by
 have sC:k < xs.length:=(List.getElem?_eq_some_iff.1 ha).1
 have nB:k < ys.length:=(List.getElem?_eq_some_iff.1 hb).1
 rw [iQ B xs (k + 1) (by omega),iQ B ys (k + 1) (by omega),hh,bq ha,bq hb,lF,lF]
 have h1:=nA (hx.take k)
 rw [List.length_take,Nat.min_eq_left (by omega)] at h1 ⊢
 rw [List.length_take,Nat.min_eq_left (by omega)]
 have h2:B ^ k * a + B ^ k≤B ^ k * b:=by
  calc B ^ k * a + B ^ k=B ^ k * (a + 1):=by rw [Nat.mul_add];omega
   _≤B ^ k * b:=Nat.mul_le_mul_left _ uR
 omega
def aq (xs:List Nat):Nat:=val 4294967296 xs
def limbs (n:Nat):List Nat:=gY 4294967296 n
def bU (xs:List Nat):Prop:=dM 4294967296 xs
theorem bU.nil:bU []:=dM.nil _
theorem bU.cons {x:Nat} {xs:List Nat} (hx:x < 4294967296) (h:bU xs):bU (x::xs):=dM.cons hx h
theorem bU.take {xs:List Nat} (h:bU xs) (k:Nat):bU (xs.take k):=dM.take h k
theorem bU.drop {xs:List Nat} (h:bU xs) (k:Nat):bU (xs.drop k):=dM.drop h k
theorem bU.append {xs ys:List Nat} (h:bU xs) (h':bU ys):bU (xs++ys):=dM.append h h'
theorem bU.at {xs:List Nat} (h:bU xs) {k x:Nat} (hk:xs[k]? =some x):x < 4294967296:=dM.at h hk
theorem ay (n:Nat):bU (limbs n):=ny (by omega) n
theorem au (n:Nat):aq (limbs n)=n:=jR (by omega) n
theorem bB:limbs 0=[]:=dG _
theorem dX:aq []=0:=rfl
theorem fh (x:Nat) (xs:List Nat):aq (x::xs)=x + 4294967296 * aq xs:=rfl
theorem dH (xs:List Nat) (x:Nat):aq (xs++[x])=aq xs + 4294967296 ^ xs.length * x:=lF _ xs x
theorem dY (xs ys:List Nat):aq (xs++ys)=aq xs + 4294967296 ^ xs.length * aq ys:=iG _ xs ys
theorem iR {xs:List Nat} (h:bU xs):aq xs < 4294967296 ^ xs.length:=nA h
theorem ia {xs:List Nat} (h:bU xs):(limbs (aq xs)).length≤xs.length:=zj (by omega) h
theorem gz (k n:Nat) (h:n < 4294967296 ^ k):(limbs n).length≤k:=ez (by omega) k n h
theorem uC {k n:Nat} (h:4294967296 ^ k≤n):k < (limbs n).length:=vK (by omega) h
theorem l9 (n:Nat):n < 4294967296 ^ (limbs n).length:=tG (by omega) n
theorem zm {n:Nat} (hn:n≠0):4294967296 ^ ((limbs n).length - 1)≤n:=tH (by omega) hn
theorem ct {m n:Nat} (h:m≤n):(limbs m).length≤(limbs n).length:=cZ (by omega) h
theorem F9 {m n:Nat} (h:limbs m=limbs n):m=n:=vJ (by omega) h
theorem kX {n:Nat}:limbs n=[]↔n=0:=zl (by omega)
theorem de {n:Nat} (hn:n≠0):0 < (limbs n).length:=mK (by omega) hn
theorem nC {n:Nat} (h:(limbs n).length=0):n=0:=kX.1 (List.eq_nil_of_length_eq_zero h)
theorem pV {xs:List Nat} (h:bU xs) (hl:∀ x,xs.getLast? =some x→x≠0):limbs (aq xs)=xs:=vI (by omega) h hl
theorem pW (n x:Nat) (h:(limbs n).getLast? =some x):x≠0:=F8 (by omega) n x h
def fQ (a b:Nat):Int:=if a < b then -1 else if b < a then 1 else 0
theorem ky {a b:Nat} (h:a < b):fQ a b= -1:=by simp [fQ,h]
theorem kA {a b:Nat} (h:b < a):fQ a b=1:=by simp [fQ,h];omega
theorem qP (a:Nat):fQ a a=0:=by simp [fQ]
theorem iY {a b:Nat}:(fQ a b < 0)↔a < b:=by unfold fQ;split <;> (try split) <;> omega
theorem a9 (xs:List Nat) (k:Nat):aq (xs.take (k + 1))=aq (xs.take k) + 4294967296 ^ k * xs.getD k 0:=by
 by_cases h:k < xs.length
 ·rw [bq (List.getElem?_eq_getElem h),dH,List.length_take,Nat.min_eq_left (by omega)]
  simp [List.getD,h]
 ·rw [List.take_of_length_le (by omega),List.take_of_length_le (by omega)]
  simp [List.getD,List.getElem?_eq_none (by omega:xs.length≤k)]
theorem bm {xs:List Nat} {k:Nat} (h:xs.length≤k):aq (xs.take k)=aq xs:=by rw [List.take_of_length_le h]
theorem AQ (p s x y c X Y D:Nat) (h:D + p * c=X + Y) (hs:s=x + y + c):
  D + p * (s % 4294967296) + p * 4294967296 * (s / 4294967296)=(X + p * x) + (Y + p * y):=by
 subst hs
 have h2:p * ((x + y + c) % 4294967296) + p * 4294967296 * ((x + y + c) / 4294967296)=p * (x + y + c):=by
  rw [Nat.mul_assoc,←Nat.mul_add,Nat.mod_add_div]
 rw [Nat.mul_add,Nat.mul_add] at h2
 omega
theorem Iv (p x m c X D:Nat) (h:D + p * c=X * m):
  D + p * ((x * m + c) % 4294967296) + p * 4294967296 * ((x * m + c) / 4294967296)=(X + p * x) * m:=by
 have h2:p * ((x * m + c) % 4294967296) + p * 4294967296 * ((x * m + c) / 4294967296)=p * (x * m + c):=by
  rw [Nat.mul_assoc,←Nat.mul_add,Nat.mod_add_div]
 rw [Nat.mul_add] at h2
 rw [Nat.add_mul,Nat.mul_assoc p x m]
 omega
def gS (n:Nat):Nat:=if n=0 then 0 else Nat.log2 n + 1
theorem Ga:gS 0=0:=rfl
theorem uS (n:Nat):n < 2 ^ gS n:=by
 unfold gS
 split
 ·omega
 ·exact Nat.lt_log2_self
theorem uT {n:Nat} (h:n≠0):2 ^ (gS n - 1)≤n:=by
 unfold gS
 rw [if_neg h]
 exact Nat.log2_self_le h
theorem qQ {n:Nat} (h:n≠0):0 < gS n:=by unfold gS;rw [if_neg h];omega
theorem ER {n b:Nat} (h:n < 2 ^ b) (h':b=0∨2 ^ (b - 1)≤n):gS n=b:=by
 by_cases h0:n=0
 ·subst h0
  rcases h' with rfl | h'
  ·rfl
  ·have:=Nat.pow_pos (n:=b - 1) (show 0 < 2 by omega);omega
 ·have h1:=uS n
  have h2:=uT h0
  have h3:=qQ h0
  rcases Nat.lt_trichotomy (gS n) b with hl | he | hg
  ·rcases h' with rfl | h'
   ·omega
   ·have:=Nat.pow_le_pow_right (show 0 < 2 by omega) (show gS n≤b - 1 by omega)
    omega
  ·exact he
  ·have:=Nat.pow_le_pow_right (show 0 < 2 by omega) (show b≤gS n - 1 by omega)
   omega
theorem pI {n k:Nat} (h:n < 2 ^ k):gS n≤k:=by
 by_cases h0:n=0
 ·subst h0;rw [Ga];omega
 ·have h1:=uT h0
  rcases Nat.lt_or_ge k (gS n) with hl | hg
  ·have:=Nat.pow_le_pow_right (show 0 < 2 by omega) (show k≤gS n - 1 by omega)
   omega
  ·exact hg
theorem AR (k:Nat):4294967296 ^ k=2 ^ (32 * k):=by rw [Nat.pow_mul]
theorem AU {n t:Nat} (hl:(limbs n)[(limbs n).length - 1]? =some t):gS n=32 * ((limbs n).length - 1) + gS t∧t≠0:=by
 have hlast:(limbs n).getLast? =some t:=by rw [List.getLast?_eq_getElem?];exact hl
 have ht:=pW n t hlast
 have uD:0 < (limbs n).length:=by
  rcases Nat.eq_zero_or_pos (limbs n).length with h | h
  ·rw [List.eq_nil_of_length_eq_zero h] at hl;cases hl
  ·exact h
 refine ⟨?_,ht⟩
 have e:limbs n=(limbs n).take ((limbs n).length - 1)++[t]:=by
  have:=bq hl
  rw [show (limbs n).length - 1 + 1=(limbs n).length by omega,List.take_length] at this
  exact this
 have hv:n=aq ((limbs n).take ((limbs n).length - 1)) + 4294967296 ^ ((limbs n).length - 1) * t:=by
  have h1:=congrArg aq e
  rw [au,dH,List.length_take,Nat.min_eq_left (by omega)] at h1
  exact h1
 have AW:=iR ((ay n).take ((limbs n).length - 1))
 rw [List.length_take,Nat.min_eq_left (by omega)] at AW
 generalize aq ((limbs n).take ((limbs n).length - 1))=lo at hv AW
 generalize (limbs n).length - 1=m at hv AW
 have h1:=uS t
 have h2:=uT ht
 have h3:=qQ ht
 rw [AR] at hv AW
 apply ER
 ·rw [hv,Nat.pow_add]
  calc lo + 2 ^ (32 * m) * t < 2 ^ (32 * m) + 2 ^ (32 * m) * t:=by omega
   _=2 ^ (32 * m) * (t + 1):=by rw [Nat.mul_add];omega
   _≤2 ^ (32 * m) * 2 ^ gS t:=Nat.mul_le_mul_left _ h1
 ·right
  rw [hv,show 32 * m + gS t - 1=32 * m + (gS t - 1) by omega,Nat.pow_add]
  have:=Nat.mul_le_mul_left (2 ^ (32 * m)) h2
  omega
theorem AX {x:Nat} (k:Nat) (hx:x≠0):List.replicate k 0++limbs x=limbs (x * 4294967296 ^ k):=by
 have h:aq (List.replicate k 0++limbs x)=x * 4294967296 ^ k:=by
  rw [dY,au,show aq (List.replicate k 0)=0 from gE _ k,List.length_replicate,Nat.mul_comm];omega
 rw [←h]
 symm
 apply pV
 ·exact bU.append (dM.replicate (by omega) k) (ay x)
 ·intro y hy
  rw [List.getLast?_append] at hy
  have hne:limbs x≠[]:=fun h=>hx (kX.1 h)
  cases hl:(limbs x).getLast? with
  | none=>rw [List.getLast?_eq_none_iff] at hl;exact absurd hl hne
  | some z=>rw [hl] at hy;simp at hy;subst hy;exact pW x z hl
theorem uE (x k:Nat) (hk:k≤(limbs x).length):aq ((limbs x).drop k)=x / 4294967296 ^ k:=by
 have h:=iQ 4294967296 (limbs x) k hk
 have h1:val 4294967296 (limbs x)=x:=au x
 have h2:=iR ((ay x).take k)
 rw [List.length_take,Nat.min_eq_left hk] at h2
 rw [h1] at h
 show val 4294967296 _=_
 have h3:val 4294967296 ((limbs x).take k) < 4294967296 ^ k:=h2
 generalize val 4294967296 ((limbs x).take k)=lo at h h3
 generalize val 4294967296 ((limbs x).drop k)=hi at h ⊢
 rw [h,Nat.add_mul_div_left _ _ (Nat.pow_pos (by omega)),Nat.div_eq_of_lt h3];omega
def fZ (x:Nat) (n:Int):Nat:=if 0≤n then x * 2 ^ n.toNat else x / 2 ^ (-n).toNat
theorem AY {B:Nat} (hB:2≤B) {ds:List Nat} (hd:dM B ds) (h:ds.length≤(gY B (val B ds)).length):gY B (val B ds)=ds:=by
 apply vI hB hd
 intro x hx h0
 subst h0
 have hne:ds≠[]:=by rintro rfl;cases hx
 have uD:0 < ds.length:=List.length_pos_iff.2 hne
 have hk:ds[ds.length - 1]? =some 0:=by rw [←List.getLast?_eq_getElem?];exact hx
 have h1:=kx (B:=B) hk
 rw [show ds.length - 1 + 1=ds.length by omega,List.take_length] at h1
 have h2:=nA (hd.take (ds.length - 1))
 rw [←h1,List.length_take,Nat.min_eq_left (by omega)] at h2
 have h3:=ez hB _ _ h2
 omega
theorem bL (B:Nat) (xs:List Nat) (k:Nat):val B (xs.take (k + 1))=val B (xs.take k) + B ^ k * xs.getD k 0:=by
 by_cases h:k < xs.length
 ·rw [bq (List.getElem?_eq_getElem h),lF,List.length_take,Nat.min_eq_left (by omega)]
  simp [List.getD,h]
 ·rw [List.take_of_length_le (by omega),List.take_of_length_le (by omega)]
  simp [List.getD,List.getElem?_eq_none (by omega:xs.length≤k)]
theorem eJ {B:Nat} {xs:List Nat} {k:Nat} (h:xs.length≤k):val B (xs.take k)=val B xs:=by rw [List.take_of_length_le h]
theorem Gb (B p s x y c X Y D:Nat) (h:D + p * c=X + Y) (hs:s=x + y + c):D + p * (s % B) + p * B * (s / B)=(X + p * x) + (Y + p * y):=by
 subst hs
 have h2:p * ((x + y + c) % B) + p * B * ((x + y + c) / B)=p * (x + y + c):=by
  rw [Nat.mul_assoc,←Nat.mul_add,Nat.mod_add_div]
 rw [Nat.mul_add,Nat.mul_add] at h2
 omega
theorem pJ {B:Nat} {xs:List Nat} {k x:Nat} (h:xs[k]? =some x):val B (xs.drop k)=x + B * val B (xs.drop (k + 1)):=by
 obtain ⟨hl,e⟩:=List.getElem?_eq_some_iff.1 h
 rw [List.drop_eq_getElem_cons hl,e,gl]
theorem Gc (B p x y r d r' X Y D:Nat) (h:D + Y=X + p * r) (hs:x + B * r'=d + y + r):(D + p * d) + (Y + p * y)=(X + p * x) + p * B * r':=by
 have h2:p * (x + B * r')=p * (d + y + r):=by rw [hs]
 rw [Nat.mul_add,Nat.mul_add,Nat.mul_add,←Nat.mul_assoc] at h2
 omega
end Go.Proofs.YtabalinjfgcfeaaGreat
namespace Go.Proofs.YtabalinjfgcfeaaGreat
open Go.RowKit
def Rd (w:World) (sz:Nat) (v:Value) (n:Nat) (cs:List Value):Prop:=
 ∃ p c,v=.slice p n c∧n≤c∧c≤maxLen∧cs.length=n * sz∧(0 < n * sz→∃ b off,p=some ⟨b,off,none⟩∧∀ j u,cs[j]? =some u→w.cell? ⟨b,off + j,none⟩=some u)
theorem Rd.nil (w:World) (sz:Nat):Rd w sz (.slice none 0 0) 0 []:=⟨none,0,rfl,Nat.le_refl _,by simp [maxLen],by simp,fun h=>by omega⟩
theorem Rd.keep {w w':World} {sz n:Nat} {v:Value} {cs:List Value} (h:Rd w sz v n cs) (hk:∀ a u,w.cell? a=some u→w'.cell? a=some u):Rd w' sz v n cs:=by
 obtain ⟨p,c,rfl,h1,h2,h3,h4⟩:=h
 refine ⟨p,c,rfl,h1,h2,h3,fun hn=> ?_⟩
 obtain ⟨b,off,hp,hc⟩:=h4 hn
 exact ⟨b,off,hp,fun j u hj=>hk _ _ (hc j u hj)⟩
theorem iT {w:World} {a:Addr} {u:Value} (h:w.cell? a=some u):a.block < w.heap.size:=World.block_lt_of_cell? w a h
theorem Below.keeps {w w':World} (h:Below w.heap.size w w'):∀ a u,w.cell? a=some u→w'.cell? a=some u:=
 fun _ _ hu=>(h.cell (iT hu)).trans hu
theorem Rd.below {w w':World} {sz n:Nat} {v:Value} {cs:List Value} (h:Rd w sz v n cs) (hb:Below w.heap.size w w'):Rd w' sz v n cs:=h.keep (Below.keeps hb)
theorem Rd.alloc {w:World} {sz n:Nat} {v:Value} {cs:List Value} (h:Rd w sz v n cs) (o:Obj):Rd (w.alloc o) sz v n cs:=
 h.below ((Below.refl _ _).alloc (Nat.le_refl _) o)
theorem Rd.drew {w:World} {sz n:Nat} {v:Value} {cs:List Value} (h:Rd w sz v n cs):Rd w.drew sz v n cs:=h
theorem Rd.drewN {w:World} {sz n:Nat} {v:Value} {cs:List Value} (h:Rd w sz v n cs) (k:Nat):Rd (w.drewN k) sz v n cs:=h
theorem Rd.lit {w:World} {cs:Array Value} {e n:Nat} (hn:cs.size=n) (hm:n≤9223372036854775807):Rd (w.alloc (.cells cs e)) 1 (.slice (some ⟨w.heap.size,0,none⟩) n n) n cs.toList:=
 ⟨_,n,rfl,Nat.le_refl _,by unfold maxLen;omega,by simp [hn],fun _=>⟨w.heap.size,0,rfl,fun j u hj=>by
  rw [Nat.zero_add,World.cell?_alloc_new];simpa using hj⟩⟩
theorem Rd.iH {B:Nat} {w w':World} {sz n:Nat} {v:Value} {cs:List Value} (h:Rd w sz v n cs) (hB:B=w.heap.size) (hb:Below B w w'):Rd w' sz v n cs:=h.below (hB▸hb)
theorem Rd.own {w:World} {B e sz n:Nat} {v:Value} {cs:List Value} (h:w.ownsRow B e sz v n cs):Rd w sz v n cs:=by
 rcases h.2 with ⟨rfl,rfl⟩ | ⟨g,cap,cur,rfl,_,hg,eR,eT,_,Iw⟩
 ·have hx:cs=[]:=List.eq_nil_of_length_eq_zero (by simpa using h.1)
  subst hx;exact Rd.nil w sz
 ·refine ⟨_,cap,rfl,eR,eT,h.1,fun _=>⟨g,0,rfl,fun j u hj=> ?_⟩⟩
  have:=h.cells (g:=g) rfl j u hj
  rwa [show (⟨g,0,none⟩:Addr).add j=⟨g,0 + j,none⟩ by unfold Addr.add;split <;> simp_all] at this
theorem Own.mono {w:World} {B B' e sz n:Nat} {v:Value} {cs:List Value} (h:w.ownsRow B e sz v n cs) (hB:B'≤B):w.ownsRow B' e sz v n cs:=by
 refine ⟨h.1,?_⟩
 rcases h.2 with h2 | ⟨g,cap,cur,hv,hb,r⟩
 ·exact .inl h2
 ·exact .inr ⟨g,cap,cur,hv,by omega,r⟩
theorem Own.below {w w':World} {B e sz n:Nat} {v:Value} {cs:List Value} (h:w.ownsRow B e sz v n cs) (hb:Below w.heap.size w w'):w'.ownsRow B e sz v n cs:=by
 refine ⟨h.1,?_⟩
 rcases h.2 with h2 | ⟨g,cap,cur,hv,hg,hh,r⟩
 ·exact .inl h2
 ·exact .inr ⟨g,cap,cur,hv,hg,(hb.block g (Array.getElem?_eq_some_iff.1 hh).1).trans hh,r⟩
theorem Own.uU {w:World} {B e sz n:Nat} {v:Value} {cs:List Value} (h:w.ownsRow B e sz v n cs) (hn:0 < n):∃ g c,v=.slice (some ⟨g,0,none⟩) n c∧B≤g∧g < w.heap.size:=by
 rcases h.2 with ⟨_,h0⟩ | ⟨g,cap,cur,rfl,hb,hg,_⟩
 ·omega
 ·exact ⟨g,cap,rfl,hb,(Array.getElem?_eq_some_iff.1 hg).1⟩
theorem Own.drewN {w:World} {B e sz n:Nat} {v:Value} {cs:List Value} (h:w.ownsRow B e sz v n cs) (k:Nat):(w.drewN k).ownsRow B e sz v n cs:=h
theorem Below.drewN {B:Nat} {a w:World} (h:Below B a w) (n:Nat):Below B a (w.drewN n):=⟨h.os,h.tape,h.output,h.size,h.block⟩
theorem Own.take {w:World} {B e sz n c:Nat} {p:Option Addr} {cs:List Value} (h:w.ownsRow B e sz (.slice p n c) n cs) {m:Nat} (hm:m≤n):w.ownsRow B e sz (.slice p m c) m (cs.take (m * sz)):=by
 have hle:m * sz≤n * sz:=Nat.mul_le_mul_right _ hm
 refine ⟨by rw [List.length_take,h.1];omega,?_⟩
 rcases h.2 with ⟨hv,rfl⟩ | ⟨g,cap,cur,hv,hb,hg,eR,eT,hcs,Iw⟩
 ·left
  simp only [Value.slice.injEq] at hv
  obtain ⟨rfl,_,rfl⟩:=hv
  exact ⟨by rw [show m=0 by omega],by omega⟩
 ·right
  simp only [Value.slice.injEq,true_and] at hv
  obtain ⟨rfl,rfl⟩:=hv
  exact ⟨g,c,cur,rfl,hb,hg,by omega,eT,hcs,by rw [←Iw,List.take_take,Nat.min_eq_left hle]⟩
theorem Rd.take {w:World} {sz n c:Nat} {p:Option Addr} {cs:List Value} (h:Rd w sz (.slice p n c) n cs) {m:Nat} (hm:m≤n):Rd w sz (.slice p m c) m (cs.take (m * sz)):=by
 obtain ⟨p',c',hv,h1,h2,h3,h4⟩:=h
 simp only [Value.slice.injEq,true_and] at hv
 obtain ⟨rfl,rfl⟩:=hv
 have hle:m * sz≤n * sz:=Nat.mul_le_mul_right _ hm
 refine ⟨p,c,rfl,by omega,h2,by rw [List.length_take,h3];omega,fun hn=> ?_⟩
 obtain ⟨b,off,hp,hc⟩:=h4 (by omega)
 exact ⟨b,off,hp,fun j u hj=>hc j u (by rw [List.getElem?_take] at hj;split at hj;exact hj;cases hj)⟩
def ints (k:IntKind) (xs:List Nat):List Value:=xs.map fun (x:Nat)=>Value.int k (x:Int)
@[simp] theorem tI (k:IntKind) (xs:List Nat):(ints k xs).length=xs.length:=by simp [ints]
theorem qR {k:IntKind} {xs:List Nat} {j x:Nat} (h:xs[j]? =some x):(ints k xs)[j]? =some (.int k (x:Int)):=by simp [ints,h]
theorem oG (k:IntKind) (xs:List Nat) (m:Nat):(ints k xs).take m=ints k (xs.take m):=by simp [ints,List.map_take]
theorem Gd (k:IntKind) (xs:List Nat) (m:Nat):(ints k xs).drop m=ints k (xs.drop m):=by simp [ints,List.map_drop]
theorem gL (k:IntKind) (xs ys:List Nat):ints k (xs++ys)=ints k xs++ints k ys:=by simp [ints]
theorem ints_set (k:IntKind) (xs:List Nat) (j x:Nat):(ints k xs).set j (.int k (x:Int))=ints k (xs.set j x):=by simp [ints,List.map_set]
theorem lG (k:IntKind) (xs:List Nat):∀ u∈ints k xs,u.oneCell'=true:=by
 intro u hu;obtain ⟨_,_,rfl⟩:=List.mem_map.1 hu;rfl
theorem Rd.lit1 {w:World} {k:IntKind} {e a:Nat} {x:Int} (hx:x=(a:Int)):Rd (w.alloc (.cells #[.int k x] e)) 1 (.slice (some ⟨w.heap.size,0,none⟩) 1 1) 1 (ints k [a]):=by
 subst hx;exact Rd.lit rfl (by omega)
theorem Rd.lit2 {w:World} {k:IntKind} {e a b:Nat} {x y:Int} (hx:x=(a:Int)) (hy:y=(b:Int)):Rd (w.alloc (.cells #[.int k x,.int k y] e)) 1 (.slice (some ⟨w.heap.size,0,none⟩) 2 2) 2 (ints k [a,b]):=by
 subst hx;subst hy;exact Rd.lit rfl (by omega)
theorem Rd.cellAt {w:World} {n:Nat} {p:Option Addr} {c k:Nat} {ki:IntKind} {xs:List Nat} (h:Rd w 1 (.slice p n c) n (ints ki xs)) (hk:k < n):
  ∃ b off x,p=some ⟨b,off,none⟩∧b < w.heap.size∧xs[k]? =some x∧w.cell? ⟨b,off + k,none⟩=some (.int ki (x:Int)):=by
 obtain ⟨p',c',hv,h1,h2,h3,h4⟩:=h
 simp only [Value.slice.injEq,true_and] at hv
 obtain ⟨rfl,rfl⟩:=hv
 obtain ⟨b,off,hp,hc⟩:=h4 (by omega)
 rw [tI] at h3
 have hx:=List.getElem?_eq_getElem (show k < xs.length by omega)
 have hcell:=hc k _ (qR hx)
 exact ⟨b,off,_,hp,iT hcell,hx,hcell⟩
theorem Rd.form {w:World} {sz n:Nat} {v:Value} {cs:List Value} (h:Rd w sz v n cs):∃ p c,v=.slice p n c∧n≤c∧c≤maxLen∧cs.length=n * sz:=by
 obtain ⟨p,c,hv,h1,h2,h3,_⟩:=h
 exact ⟨p,c,hv,h1,h2,h3⟩
theorem Own.form {w:World} {B e sz n:Nat} {v:Value} {cs:List Value} (h:w.ownsRow B e sz v n cs):∃ p c,v=.slice p n c∧n≤c∧c≤maxLen∧cs.length=n * sz:=(Rd.own h).form
theorem kY {P:Program} (w:World) (base t ty e:Nat) (i:TypeInfo) (z:Value) (size bytes:Nat) (ht:P.underlying t=some (.slice e)) (hi:P.info? e=some i) (hz:i.zero=some z)
  (tJ:i.size=size) (Dj:i.bytes=bytes) (H6:z.cells.size=size) (hsz:0 < size)
  (v:Value) (n:Nat) (xs:List Value) (aI:w.ownsRow base e size v n xs) (x:Value) (m:Nat) (news:List Value) (hx:Rd w size x m news) (h1:∀ u∈news,u.oneCell'=true)
  (h63:n + m≤maxLen) (iI:(n + m) * bytes≤140737488355328) (iZ:base≤w.heap.size):
  ∃ v' w',(Builtin.append_ #[t,t] ty #[v,x]).run P w=.ok v' w'∧w'.ownsRow base e size v' (n + m) (xs++news)∧w.grownBy w' v.ownBlock:=by
 obtain ⟨p,c,rfl,hmc,eT,hl,hp⟩:=hx
 by_cases hm:m=0
 ·subst hm
  have hn:news=[]:=List.eq_nil_of_length_eq_zero (by simpa using hl)
  subst hn
  refine ⟨v,w,?_,by simpa using aI,⟨rfl,rfl,rfl,Nat.le_refl _,fun _ _ _=>rfl⟩⟩
  subst tJ
  rcases aI.2 with ⟨rfl,rfl⟩ | ⟨g,cap,cur,rfl,_,hg,eR,uF,hcs,Iw⟩
  ·cases p <;> simp [Builtin.append_,run_underlying ht,sizeOf,typeInfo,hi,Builtin.lenOf,Builtin.firstCells,loadCells,loadCellsFrom]
  ·cases p <;> simp [Builtin.append_,run_underlying ht,sizeOf,typeInfo,hi,Builtin.lenOf,Builtin.firstCells,loadCells,loadCellsFrom,eR,storeCells]
 ·obtain ⟨b,off,rfl,hc⟩:=hp (Nat.mul_pos (by omega) hsz)
  obtain ⟨v',w',hr,h2,h3,_⟩:=run_append_own (P:=P) w base t ty e i z size bytes ht hi hz tJ Dj H6 hsz v n xs aI ⟨b,off,none⟩ m c news hl
   (fun j u hj=>by
    have:=hc j u hj
    rwa [show (⟨b,off,none⟩:Addr).add j=⟨b,off + j,none⟩ by unfold Addr.add;split <;> simp_all]) h1 h63 iI iZ
  exact ⟨v',w',hr,h2,h3⟩
theorem iJ {P:Program} (w:World) {ops:Array Oper} {rest:List Oper} {o:Oper} {a:Act} {Q:Exit→Act→World→Prop} (Ix:o.guard=none) (s x:Operand) (t:TypeId)
  (ho:o.op=.call { callee:=.builtin .append,args:=#[s,x],argTypes:=#[t,t] })
  (base:Nat) (e:TypeId) (i:TypeInfo) (z:Value) (size bytes:Nat) (ht:P.underlying t=some (.slice e)) (hi:P.info? e=some i) (hz:i.zero=some z)
  (tJ:i.size=size) (Dj:i.bytes=bytes) (H6:z.cells.size=size) (hsz:0 < size)
  (v:Value) (n:Nat) (xs:List Value) (hs:a.eval s=v) (aI:w.ownsRow base e size v n xs)
  (xv:Value) (m:Nat) (news:List Value) (hx:a.eval x=xv) (sD:Rd w size xv m news) (h1:∀ u∈news,u.oneCell'=true)
  (h63:n + m≤maxLen) (iI:(n + m) * bytes≤140737488355328) (iZ:base≤w.heap.size)
  (h:∀ v' w',w'.ownsRow base e size v' (n + m) (xs++news)→w.grownBy w' v.ownBlock→wpList P ops Q rest (a.put o.dst v') w'):wpList P ops Q (o::rest) a w:=by
 refine wpList_plain Ix fun _ hK=> ?_
 obtain ⟨v',w',hr,h2,h3⟩:=kY (P:=P) w base t o.type e i z size bytes ht hi hz tJ Dj H6 hsz v n xs aI xv m news sD h1 h63 iI iZ
 unfold Oper.wp execOp
 simp only [ho,resolve,invoke,builtin,Sem.run_bind,Sem.run_pure,Result.andThen_ok,List.map_toArray,List.map_cons,List.map_nil,hs,hx,hr]
 exact hK _ _ (h v' w' h2 h3)
theorem nD {P:Program} {w:World} {ops:Array Oper} {o:Oper} {a:Act} {K:Act→World→Prop} {Q:Exit→Act→World→Prop} {E:Prop} (Ix:o.guard=none) (s x:Operand) (t:TypeId)
  (ho:o.op=.call { callee:=.builtin .append,args:=#[s,x],argTypes:=#[t,t] })
  (base:Nat) (e:TypeId) (i:TypeInfo) (z:Value) (size bytes:Nat) (ht:P.underlying t=some (.slice e)) (hi:P.info? e=some i) (hz:i.zero=some z)
  (tJ:i.size=size) (Dj:i.bytes=bytes) (H6:z.cells.size=size) (hsz:0 < size)
  (v:Value) (n:Nat) (xs:List Value) (hs:a.eval s=v) (aI:w.ownsRow base e size v n xs)
  (xv:Value) (m:Nat) (news:List Value) (hx:a.eval x=xv) (sD:Rd w size xv m news) (h1:∀ u∈news,u.oneCell'=true)
  (h63:n + m≤maxLen) (iI:(n + m) * bytes≤140737488355328) (iZ:base≤w.heap.size)
  (h:∀ v' w',w'.ownsRow base e size v' (n + m) (xs++news)→w.grownBy w' v.ownBlock→K (a.put o.dst v') w'):
  if Region.wanted o (yielded ops a.tmps)=true then Oper.wp P o a w K Q else E:=by
 have hw:Region.wanted o (yielded ops a.tmps)=true:=by simp [Region.wanted,Ix]
 rw [if_pos hw]
 obtain ⟨v',w',hr,h2,h3⟩:=kY (P:=P) w base t o.type e i z size bytes ht hi hz tJ Dj H6 hsz v n xs aI xv m news sD h1 h63 iI iZ
 unfold Oper.wp execOp
 simp only [ho,resolve,invoke,builtin,Sem.run_bind,Sem.run_pure,Result.andThen_ok,List.map_toArray,List.map_cons,List.map_nil,hs,hx,hr]
 exact h v' w' h2 h3
theorem yj {w w1:World} {o:Obj} {a:Addr} {v:Value} {row:Option Nat} (hg:(w.alloc o).drew.grownBy w1 row) (hc:w.cell? a=some v) (hne:some a.block≠row):w1.cell? a=some v:=
 hg.cell ((World.cell?_alloc_lt w o a (iT hc)).trans hc) hne
theorem Iy {w:World} {B e sz n b:Nat} {v:Value} {cs:List Value} (h:w.ownsRow B e sz v n cs) (hb:b < B):some b≠v.ownBlock:=by
 intro he
 have:=(h.lt b he.symm).1
 omega
theorem Below.behind {B B' e sz n:Nat} {w0 w w1:World} {o:Obj} {v:Value} {cs:List Value} (h:Below B w0 w) (hB:B≤w.heap.size) (hg:(w.alloc o).drew.grownBy w1 v.ownBlock) (ho:w.ownsRow B' e sz v n cs) (hBB:B≤B'):Below B w0 w1:=
 ((h.alloc hB o).drew).grown hg (by simp;omega) fun k hk=>by have:=(ho.lt k hk).1;omega
theorem Below.aJ {a b c:World} (h:Below a.heap.size a b) (k:Below b.heap.size b c):Below a.heap.size a c:=h.trans (k.mono h.size)
theorem wpList_append_run {P:Program} {w:World} {ops:Array Oper} {rest:List Oper} {o:Oper} {a:Act} {Q:Exit→Act→World→Prop} (Ix:o.guard=none) (s x:Operand) (t t':TypeId)
  (ho:o.op=.call { callee:=.builtin .append,args:=#[s,x],argTypes:=#[t,t'] }) (v xv:Value) (hs:a.eval s=v) (hx:a.eval x=xv) (v':Value) (w':World)
  (hr:(Builtin.append_ #[t,t'] o.type #[v,xv]).run P w=.ok v' w') (h:wpList P ops Q rest (a.put o.dst v') w'):wpList P ops Q (o::rest) a w:=by
 refine wpList_plain Ix fun _ hK=> ?_
 unfold Oper.wp execOp
 simp only [ho,resolve,invoke,builtin,Sem.run_bind,Sem.run_pure,Result.andThen_ok,List.map_toArray,List.map_cons,List.map_nil,hs,hx,hr]
 exact hK _ _ h
theorem Below.IA {B B':Nat} {w0 w w':World} {e sz n:Nat} {v:Value} {cs:List Value} (h:Below B w0 w) (hg:w.grownBy w' v.ownBlock) (ho:w.ownsRow B' e sz v n cs) (hB:B≤w.heap.size) (hBB:B≤B'):Below B w0 w':=
 h.grown hg hB fun k hk=>by have:=(ho.lt k hk).1;omega
theorem aO {P:Program} {f:FuncId} {args:Array Value} {w:World} {R:Ending→World→Prop} (h:∀ R':Ending→World→Prop,Hid (∀ e w',R e w'→R' e w')→Calls P f args w R'):Calls P f args w R:=h R fun _ _ h=>h
theorem lH {k:IntKind} {a a':Int} (h:a=a'):Ending.returned (.int k a)=.returned (.int k a'):=by rw [h]
theorem ret2 {k l:IntKind} {a a' b b':Int} (h:a=a') (h':b=b'):Ending.returned (.tuple #[.int k a,.int l b])=.returned (.tuple #[.int k a',.int l b']):=by rw [h,h']
theorem Own.made {w:World} {B e n:Nat} {v:Value} {k:IntKind} (h:w.ownsRow B e 1 v n (madeCells (Value.int k 0).cells (n * 1)).toList):w.ownsRow B e 1 v n (ints k ([]++List.replicate n 0)):=by
 have:(madeCells (Value.int k 0).cells (n * 1)).toList=ints k ([]++List.replicate n 0):=by
  rw [show (Value.int k 0).cells=#[Value.int k 0] from rfl,toList_madeCells_one];simp [ints]
 rwa [this] at h
theorem Own.uV {w:World} {B e g n cap r:Nat} {k:IntKind} {ds:List Nat} (h:w.ownsRow B e 1 (.slice (some ⟨g,0,none⟩) n cap) n (ints k (ds++List.replicate (r + 1) 0))):
  w.cell? ⟨g,ds.length,none⟩=some (.int k 0)∧w.frozen? ⟨g,ds.length,none⟩=false:=by
 have hl:=h.1
 simp at hl
 refine ⟨?_,h.frozenAt _⟩
 rw [h.cellAt _ (by omega)]
 have:=qR (k:=k) (xs:=ds++List.replicate (r + 1) 0) (j:=ds.length) (x:=0) (by simp [List.replicate_succ])
 simpa using this
theorem Own.qS {w:World} {B e g n cap r x:Nat} {k:IntKind} {ds:List Nat} (h:w.ownsRow B e 1 (.slice (some ⟨g,0,none⟩) n cap) n (ints k (ds++List.replicate (r + 1) 0))):
  (w.setCell ⟨g,ds.length,none⟩ (.int k (x:Int))).ownsRow B e 1 (.slice (some ⟨g,0,none⟩) n cap) n (ints k ((ds++[x])++List.replicate r 0)):=by
 have h1:=(h.stored ds.length (.int k (x:Int))).1
 rw [ints_set] at h1
 have:(ds++List.replicate (r + 1) 0).set ds.length x=(ds++[x])++List.replicate r 0:=by
  rw [List.set_append_right _ _ (Nat.le_refl _),Nat.sub_self,List.replicate_succ,List.set_cons_zero,List.append_assoc];rfl
 rwa [this] at h1
theorem Own.gm {w:World} {B e g n cap:Nat} {k:IntKind} {xs:List Nat} (h:w.ownsRow B e 1 (.slice (some ⟨g,0,none⟩) n cap) n (ints k xs)) {j:Nat} (hj:j < n):
  ∃ x,xs[j]? =some x∧w.cell? ⟨g,j,none⟩=some (.int k (x:Int))∧w.frozen? ⟨g,j,none⟩=false:=by
 have hl:=h.1
 simp at hl
 have hx:=List.getElem?_eq_getElem (show j < xs.length by omega)
 refine ⟨_,hx,?_,h.frozenAt _⟩
 rw [h.cellAt _ (by omega),qR hx]
theorem Own.fR {w:World} {B e g n cap j x:Nat} {k:IntKind} {xs:List Nat} (h:w.ownsRow B e 1 (.slice (some ⟨g,0,none⟩) n cap) n (ints k xs)):
  (w.setCell ⟨g,j,none⟩ (.int k (x:Int))).ownsRow B e 1 (.slice (some ⟨g,0,none⟩) n cap) n (ints k (xs.set j x)):=by
 have h1:=(h.stored j (.int k (x:Int))).1
 rwa [ints_set] at h1
theorem Own.lt {w:World} {B e sz g n cap:Nat} {p:Nat} {cs:List Value} (h:w.ownsRow B e sz (.slice (some ⟨g,p,none⟩) n cap) n cs):B≤g∧g < w.heap.size:=World.ownsRow.lt h g rfl
theorem vL {P:Program} {f:FuncId} {args:Array Value} {W:World} {X:Nat→World} {v:Value} (h:Calls P f args W fun e w'=>e=.returned v∧W=w') (hW:∃ n,W=X n):
  Calls P f args W fun e w''=>e=.returned v∧∃ m,w''=X m:=
 h.mono fun _ _ ⟨he,hm⟩=>⟨he,hW.imp fun _ hn=>hm▸hn⟩
theorem dm {P:Program} {w:World} {ops:Array Oper} {rest:List Oper} {o:Oper} {a:Act} {Q:Exit→Act→World→Prop} (Ix:o.guard=none) (s x:Operand) (t:TypeId)
  (ho:o.op=.call { callee:=.builtin .append,args:=#[s,x],argTypes:=#[t,t] })
  (base:Nat) (e:TypeId) (i:TypeInfo) (z:Value) (bytes:Nat) (ht:P.underlying t=some (.slice e)) (hi:P.info? e=some i) (hz:i.zero=some z)
  (tJ:i.size=1) (Dj:i.bytes=bytes) (H6:z.cells.size=1)
  {v:Value} {n:Nat} {k:IntKind} {ds:List Nat} {y:Int} {d:Nat} {e':TypeId} (aI:w.ownsRow base e 1 v n (ints k ds)) (hs:a.eval s=v) (hx:a.eval x=.slice (some ⟨w.heap.size,0,none⟩) 1 1) (hy:y=(d:Int))
  (h63:n + 1≤9223372036854775807) (iI:(n + 1) * bytes≤140737488355328) (iZ:base≤w.heap.size)
  (h:∀ v' w',w'.ownsRow base e 1 v' (n + 1) (ints k (ds++[d]))→(∀ w0,Below base w0 w→Below base w0 w')→wpList P ops Q rest (a.put o.dst v') w'):wpList P ops Q (o::rest) a (w.alloc (.cells #[.int k y] e')):=by
 refine iJ _ Ix s x t ho base e i z 1 bytes ht hi hz tJ Dj H6 (by omega) v n _ hs (aI.alloc _) _ 1 (ints k [d]) hx (Rd.lit1 hy) (lG k [d]) (by unfold maxLen;omega) iI (by simp;omega) ?_
 intro v' w' h1 h2
 refine h v' w' (by rw [gL];exact h1) fun w0 hb=> ?_
 exact (hb.alloc iZ _).grown h2 (by simp;omega) fun j hj=>(aI.lt j hj).1
end Go.Proofs.YtabalinjfgcfeaaGreat
namespace Go.Proofs.YtabalinjfgcfeaaGreat
open Go.RowKit
theorem IB (a b:Nat) (ha:a < 4294967296) (hb:b < 4294967296):a * b < 18446744065119617026:=by
 have h1:a * b≤4294967295 * 4294967295:=Nat.mul_le_mul (by omega) (by omega)
 omega
set_option maxRecDepth 100000 in
set_option maxHeartbeats 400000 in
theorem Ge (a b:Nat) (w:World) (ha:a < 4294967296) (hb:b < 4294967296):
  Calls Tryz.prog 158 #[.int .u32 (a:Int),.int .u32 (b:Int)] w fun e w'=>e=.returned (.tuple #[.int .u32 ((a * b / 4294967296:Nat):Int),.int .u32 ((a * b % 4294967296:Nat):Int)])∧w=w':=by
 have h:=IB a b ha hb
 have h2:(a:Int) * (b:Int) < 18446744065119617026:=by rw [←Int.natCast_mul];omega
 have h3:0≤(a:Int) * (b:Int):=by rw [←Int.natCast_mul];omega
 refine aO fun R' bu=> ?_
 go_enter Tryz.func158,Tryz.ntmps158
 go_wp2
 refine bu.out _ _ ⟨ret2 ?_ ?_,rfl⟩ <;> simp
set_option maxRecDepth 100000 in
set_option maxHeartbeats 400000 in
theorem lI (a b c:Nat) (w:World) (ha:a < 4294967296) (hb:b < 4294967296) (hc:c < 4294967296):
  Calls Tryz.prog 139 #[.int .u32 (a:Int),.int .u32 (b:Int),.int .u32 (c:Int)] w fun e w'=>e=.returned (.tuple #[.int .u32 (((a + b + c) % 4294967296:Nat):Int),.int .u32 (((a + b + c) / 4294967296:Nat):Int)])∧w=w':=by
 refine aO fun R' bu=> ?_
 go_enter Tryz.func139,Tryz.ntmps139
 go_wp2
 refine bu.out _ _ ⟨ret2 ?_ ?_,rfl⟩ <;> simp
set_option maxRecDepth 100000 in
set_option maxHeartbeats 400000 in
theorem Gf (a b d:Nat) (w:World) (ha:a < d) (hb:b < 4294967296) (hd:d < 4294967296):
  Calls Tryz.prog 151 #[.int .u32 (a:Int),.int .u32 (b:Int),.int .u32 (d:Int)] w fun e w'=>
   e=.returned (.tuple #[.int .u32 (((a * 4294967296 + b) / d:Nat):Int),.int .u32 (((a * 4294967296 + b) % d:Nat):Int)])∧∃ k,w'=w.drewN k:=by
 have C4:((d:Int) != 0)=true:=by rw [bne_iff_ne];omega
 have hd1:1≤(d:Int):=by omega
 have hle:¬ ((d:Int)≤(a:Int)):=by omega
 have vM:bits BinOp.or IntKind.u64 ((a:Int) * 4294967296) (b:Int)=((a * 4294967296 + b:Nat):Int):=by
  have e1:((a:Int) * 4294967296)=((a * 4294967296:Nat):Int):=by simp
  rw [e1,u64_or_nat _ _ (by omega) (by omega),nat_join 32 _ _ (by omega) (by omega)]
 have hq:(a * 4294967296 + b) / d < 4294967296:=by
  rw [Nat.div_lt_iff_lt_mul (by omega)]
  have:(a + 1) * 4294967296≤d * 4294967296:=Nat.mul_le_mul_right _ ha
  rw [Nat.mul_comm 4294967296 d];omega
 have hq1:((a:Int) * 4294967296 + (b:Int)) / (d:Int) < 4294967296:=by
  have:(((a * 4294967296 + b) / d:Nat):Int) < 4294967296:=by omega
  simpa using this
 have hr:(a * 4294967296 + b) % d < d:=Nat.mod_lt _ (by omega)
 have iC:((a:Int) * 4294967296 + (b:Int)) % (d:Int) < 4294967296:=by
  have:(((a * 4294967296 + b) % d:Nat):Int) < 4294967296:=by omega
  simpa using this
 have C5:0≤((a:Int) * 4294967296 + (b:Int)) / (d:Int):=by
  exact Int.ediv_nonneg (by omega) (by omega)
 have xR:0≤((a:Int) * 4294967296 + (b:Int)) % (d:Int):=by
  exact Int.emod_nonneg _ (by omega)
 rw [show ((a * 4294967296 + b:Nat):Int)=(a:Int) * 4294967296 + (b:Int) by simp] at vM
 clear hq hr
 refine aO fun R' bu=> ?_
 go_enter Tryz.func151,Tryz.ntmps151
 go_wp2_with fail
 go_quiet (fail)
 go_wp2
 refine bu.out _ _ ⟨ret2 ?_ ?_,_,rfl⟩ <;> simp
theorem qT (n:Nat) (h:n < 4294967296):n.testBit 31=decide (2147483648≤n):=by
 rw [Nat.testBit_eq_decide_div_mod_eq]
 by_cases h':2147483648≤n
 ·have:n / 2 ^ 31=1:=by omega
  simp [this,h']
 ·have:n / 2 ^ 31=0:=by omega
  simp [this];omega
theorem by_top (n:Nat) (h:n < 4294967296):n / 2147483648=(n.testBit 31).toNat:=by
 rw [qT n h]
 by_cases h':2147483648≤n <;> simp [h'] <;> omega
theorem Dk (x y c d:Nat) (hx:x < 4294967296) (hy:y < 4294967296) (hc:c < 2) (hd:d=(x + 8589934592 - y - c) % 4294967296):
  ((4294967295 ^^^ x) &&& y ||| (4294967295 ^^^ (x ^^^ y)) &&& d) / 2147483648=if x < y + c then 1 else 0:=by
 have iU:d < 4294967296:=by omega
 have h1:4294967295 ^^^ x < 2 ^ 32:=Nat.xor_lt_two_pow (by omega) (by omega)
 have h2:x ^^^ y < 2 ^ 32:=Nat.xor_lt_two_pow (by omega) (by omega)
 have h3:4294967295 ^^^ (x ^^^ y) < 2 ^ 32:=Nat.xor_lt_two_pow (by omega) h2
 have h4:(4294967295 ^^^ x) &&& y ||| (4294967295 ^^^ (x ^^^ y)) &&& d < 2 ^ 32:=Nat.or_lt_two_pow (Nat.and_lt_two_pow _ (by omega)) (Nat.and_lt_two_pow _ (by omega))
 rw [by_top _ (by omega)]
 simp only [Nat.testBit_or,Nat.testBit_and,Nat.testBit_xor,qT _ hx,qT _ hy,qT _ iU,qT 4294967295 (by omega)]
 by_cases a1:2147483648≤x <;> by_cases a2:2147483648≤y <;> by_cases a3:2147483648≤d <;> simp [a1,a2,a3] <;> omega
set_option maxRecDepth 100000 in
set_option maxHeartbeats 400000 in
theorem yk (a b c:Nat) (w:World) (ha:a < 4294967296) (hb:b < 4294967296) (hc:c < 2):
  Calls Tryz.prog 142 #[.int .u32 (a:Int),.int .u32 (b:Int),.int .u32 (c:Int)] w fun e w'=>
   (∃ d r:Nat,e=.returned (.tuple #[.int .u32 (d:Int),.int .u32 (r:Int)])∧d < 4294967296∧r≤1∧a + 4294967296 * r=d + b + c)∧w=w':=by
 obtain ⟨d,hd⟩:∃ d,d=(a + 8589934592 - b - c) % 4294967296:=⟨_,rfl⟩
 have iU:d < 4294967296:=by omega
 have xS:=Dk a b c d ha hb hc hd
 have hdi:((a:Int) - (b:Int) - (c:Int)) % 4294967296=(d:Int):=by omega
 have hm:IntKind.u32.max=((4294967295:Nat):Int):=rfl
 have h1:4294967295 ^^^ a < 4294967296:=Nat.xor_lt_two_pow (n:=32) (by omega) (by omega)
 have h2:a ^^^ b < 4294967296:=Nat.xor_lt_two_pow (n:=32) (by omega) (by omega)
 have h3:4294967295 ^^^ (a ^^^ b) < 4294967296:=Nat.xor_lt_two_pow (n:=32) (by omega) (by omega)
 have h4:(4294967295 ^^^ a) &&& b < 4294967296:=Nat.and_lt_two_pow (n:=32) _ (by omega)
 have h5:(4294967295 ^^^ (a ^^^ b)) &&& d < 4294967296:=Nat.and_lt_two_pow (n:=32) _ (by omega)
 have H:Hid (bits BinOp.or IntKind.u32 (bits BinOp.and IntKind.u32 (bits BinOp.xor IntKind.u32 IntKind.u32.max (a:Int)) (b:Int))
   (bits BinOp.and IntKind.u32 (bits BinOp.xor IntKind.u32 IntKind.u32.max (bits BinOp.xor IntKind.u32 (a:Int) (b:Int))) (((a:Int) - (b:Int) - (c:Int)) % 4294967296)) / 2147483648=((if a < b + c then 1 else 0:Nat):Int)):=by
  show _=_
  rw [hdi,hm,u32_xor_nat _ _ (by omega) ha,u32_and_nat _ _ h1 hb,u32_xor_nat _ _ ha hb,u32_xor_nat _ _ (by omega) h2,u32_and_nat _ _ h3 iU,u32_or_nat _ _ h4 h5,←xS]
  simp
 have HD:Hid (((a:Int) - (b:Int) - (c:Int)) % 4294967296=((a + 8589934592 - b - c) % 4294967296:Nat)):=by show _=_;rw [hdi,hd]
 clear hd hdi xS hm h1 h2 h3 h4 h5 iU
 refine aO fun R' bu=> ?_
 go_enter Tryz.func142,Tryz.ntmps142
 go_wp2
 all_goals exact bu.out _ _ ⟨⟨(a + 8589934592 - b - c) % 4294967296,if a < b + c then 1 else 0,ret2 HD.out H.out,Nat.mod_lt _ (by omega),by split <;> omega,by split <;> omega⟩,rfl⟩
set_option maxRecDepth 100000 in
set_option maxHeartbeats 400000 in
theorem cT (p:Option Addr) (n c:Nat) (xs:List Nat) (w:World) (hr:Rd w 1 (.slice p n c) n (ints .u32 xs)) (hl:bU xs):
  Calls Tryz.prog 134 #[.slice p n c] w fun e w'=>(∃ m,m≤n∧e=.returned (.slice p m c)∧limbs (aq xs)=xs.take m)∧w=w':=by
 have eR:n≤c∧c≤9223372036854775807∧xs.length=n:=by
  obtain ⟨p',c',hv,h1,h2,h3⟩:=hr.form
  simp only [Value.slice.injEq,true_and] at hv
  obtain ⟨rfl,rfl⟩:=hv
  unfold maxLen at h2
  simp at h3
  exact ⟨h1,by omega,h3⟩
 obtain ⟨eR,eT,eu⟩:=eR
 have HX:Hid (xs.length=n):=eu
 clear eu
 refine aO fun R' bu=> ?_
 go_enter Tryz.func134,Tryz.ntmps134
 go_wp2
 go_loop [0] (fun v=>∃ m,m≤n∧v=.slice p m c∧aq (xs.take m)=aq xs) (fun v=>match v with | .slice _ m _=>m | _=>0)
 case atStart=>exact ⟨n,Nat.le_refl _,rfl,by rw [List.take_of_length_le (Nat.le_of_eq HX.out)]⟩
 case round=>
  obtain ⟨m,hm,rfl,hv⟩:=hrel
  have HV:Hid (aq (xs.take m)=aq xs):=hv
  clear hv
  by_cases h0:m=0
  ·subst h0
   go_wp2
   exact bu.out _ _ ⟨⟨0,Nat.zero_le _,rfl,jG (by omega) hl (Nat.zero_le _) HV.out (.inl rfl)⟩,rfl⟩
  ·obtain ⟨b,off,x,rfl,hb,hx,hc⟩:=hr.cellAt (k:=m - 1) (by omega)
   have IC:Hid (xs[m-1]? =some x):=hx
   clear hx
   have h0':0 < m:=by omega
   obtain ⟨j,rfl⟩:∃ j,m=j + 1:=⟨m - 1,by omega⟩
   rw [Nat.add_sub_cancel] at hc
   by_cases gK:x=0
   ·subst gK
    go_wp2
    go_round
    case rel=>exact ⟨j,by omega,rfl,(kx IC.out).symm.trans HV.out⟩
    case measure=>simp
   ·have hx0':((x:Int) == 0)=false:=by rw [beq_eq_false_iff_ne];omega
    go_wp2
    exact bu.out _ _ ⟨⟨j + 1,hm,rfl,jG (by omega) hl (by rw [HX.out];exact hm) HV.out (.inr ⟨x,IC.out,gK⟩)⟩,rfl⟩
end Go.Proofs.YtabalinjfgcfeaaGreat
namespace Go.Proofs.YtabalinjfgcfeaaGreat
open Go.RowKit
theorem iV:(Tryz.prog.info? 117).map (fun i=>(i.zero,i.size,i.bytes))=some (some (.int .u32 0),1,4):=by kernel_rfl
set_option maxRecDepth 100000 in
set_option maxHeartbeats 400000 in
theorem iK (v:Value) (n:Nat) (xs:List Nat) (w:World) (hr:Rd w 1 v n (ints .u32 xs)) (hn:n≤1073741824):
  Calls Tryz.prog 133 #[v] w fun e w'=>∃ v',e=.returned v'∧w'.ownsRow w.heap.size 117 1 v' n (ints .u32 xs)∧Below w.heap.size w w':=by
 obtain ⟨p,c,rfl,eR,eT,hl⟩:=hr.form
 have Hr:=Lib.hid hr
 have Gg:∀ w':World,(binOp .eql 22 (.slice p n c) (.slice none 0 0)).run Tryz.prog w'=.ok (.bool p.isNone) w':=fun w'=>Lib.run_eql_slice_nil w' 22 117 p n c 0 0 Tryz.underlying22
 obtain ⟨i0,hi,kC,kZ,lJ⟩:=info_parts iV
 have HL:=Lib.hid hl
 clear hl hr
 unfold maxLen at eT
 cases p with
 | none=>
  refine aO fun R' bu=> ?_
  go_enter Tryz.func133,Tryz.ntmps133
  go_wp2
  refine bu.out _ _ ⟨_,rfl,?_,Below.refl _ _⟩
  obtain ⟨p,c',hv,_,_,h3,h4⟩:=Hr.out
  simp only [Value.slice.injEq,true_and] at hv
  obtain ⟨rfl,rfl⟩:=hv
  have h0:n=0:=by
   rcases Nat.eq_zero_or_pos n with h | h
   ·exact h
   ·obtain ⟨b,off,hp,_⟩:=h4 (by omega);cases hp
  subst h0
  have hx:ints .u32 xs=[]:=List.eq_nil_of_length_eq_zero (by simpa using h3)
  rw [hx]
  exact World.ownsRow_nil _ _ _ _
 | some ad=>
  refine aO fun R' bu=> ?_
  go_enter Tryz.func133,Tryz.ntmps133
  go_wp2_with (at_builtin;refine iJ _ rfl _ _ 22 rfl w.heap.size 117 i0 (.int .u32 0) 1 4 Tryz.underlying22 hi kC kZ lJ rfl (by decide) _ 0 [] rfl (World.ownsRow_made w #[] 0 (Nat.le_refl _) (by simp [maxLen]) rfl) _ n _ rfl (Hr.out.alloc _) (lG _ _) (by unfold maxLen;omega) (by omega) (by simp) ?_;intro v' w1 aI Gh)
  simp only [Nat.zero_add,List.nil_append] at aI
  refine bu.out _ _ ⟨_,rfl,aI,((Below.refl _ _).alloc (Nat.le_refl _) _).grown Gh (by simp) fun k hk=>by injection (show some w.heap.size=some k from hk) with hk;omega⟩
theorem Rd.u32 {w:World} {v:Value} {n:Nat} {xs:List Nat} (h:Rd w 1 v n (ints .u32 xs)):∃ p c,v=.slice p n c∧n≤c∧c≤9223372036854775807∧xs.length=n:=by
 obtain ⟨p,c,hv,h1,h2,h3⟩:=h.form
 unfold maxLen at h2
 exact ⟨p,c,hv,h1,by omega,by simpa using h3⟩
theorem Rd.limbs {w:World} {n c m:Nat} {p:Option Addr} {xs:List Nat} (h:Rd w 1 (.slice p n c) n (ints .u32 xs)) (hm:m≤n) (hl:limbs (aq xs)=xs.take m):
  Rd w 1 (.slice p m c) m (ints .u32 (limbs (aq xs))):=by
 have:=h.take hm
 rwa [Nat.mul_one,oG,←hl] at this
theorem Own.limbs {w:World} {B e n c m:Nat} {p:Option Addr} {xs:List Nat} (h:w.ownsRow B e 1 (.slice p n c) n (ints .u32 xs)) (hm:m≤n) (hl:limbs (aq xs)=xs.take m):
  w.ownsRow B e 1 (.slice p m c) m (ints .u32 (limbs (aq xs))):=by
 have:=Own.take h hm
 rwa [Nat.mul_one,oG,←hl] at this
set_option maxRecDepth 100000 in
set_option maxHeartbeats 400000 in
theorem ja (v:Value) (n:Nat) (xs:List Nat) (w:World) (hr:Rd w 1 v n (ints .u32 xs)) (hl:bU xs) (hn:n≤1073741824):
  Calls Tryz.prog 112 #[v] w fun e w'=>∃ v',e=.returned v'∧w'.ownsRow w.heap.size 117 1 v' (limbs (aq xs)).length (ints .u32 (limbs (aq xs)))∧Below w.heap.size w w':=by
 obtain ⟨p,c,rfl,eR,eT,eu⟩:=hr.u32
 have Hr:=Lib.hid hr
 have HL:=Lib.hid hl
 have HX:=Lib.hid eu
 clear eu hl hr
 refine aO fun R' bu=> ?_
 go_enter Tryz.func112,Tryz.ntmps112
 go_wp2_with fail
 refine (cT p n c xs _ Hr.out HL.out).mono ?_
 rintro e w1 ⟨⟨m,hm,rfl,xT⟩,rfl⟩
 have HM:=Lib.hid xT
 clear xT
 have pK:Hid (m=(limbs (aq xs)).length):=by
  show _=_
  rw [HM.out,List.length_take,HX.out];omega
 go_wp2_with fail
 refine (iK _ m (limbs (aq xs)) _ (Hr.out.limbs hm HM.out) (by omega)).mono ?_
 rintro e w1 ⟨v',rfl,aI,hb⟩
 go_wp2
 refine bu.out _ _ ⟨_,rfl,?_,hb⟩
 rw [←pK.out];exact aI
set_option maxRecDepth 100000 in
set_option maxHeartbeats 400000 in
theorem vN (a b:Nat) (w:World):
  Calls Tryz.prog 140 #[.int .i64 (a:Int),.int .i64 (b:Int)] w fun e w'=>e=.returned (.int .i64 (fQ a b))∧w=w':=by
 rcases Nat.lt_trichotomy a b with h | rfl | h
 ·have e1:=Lib.hid (ky h)
  refine aO fun R' bu=> ?_
  go_enter Tryz.func140,Tryz.ntmps140
  go_wp2
  exact bu.out _ _ ⟨lH e1.out.symm,rfl⟩
 ·have e1:=Lib.hid (qP a)
  refine aO fun R' bu=> ?_
  go_enter Tryz.func140,Tryz.ntmps140
  go_wp2
  exact bu.out _ _ ⟨lH e1.out.symm,rfl⟩
 ·have e1:=Lib.hid (kA h)
  refine aO fun R' bu=> ?_
  go_enter Tryz.func140,Tryz.ntmps140
  go_wp2
  exact bu.out _ _ ⟨lH e1.out.symm,rfl⟩
set_option maxRecDepth 100000 in
set_option maxHeartbeats 400000 in
theorem vO (a b:Nat) (w:World):
  Calls Tryz.prog 141 #[.int .u32 (a:Int),.int .u32 (b:Int)] w fun e w'=>e=.returned (.int .i64 (fQ a b))∧w=w':=by
 rcases Nat.lt_trichotomy a b with h | rfl | h
 ·have e1:=Lib.hid (ky h)
  refine aO fun R' bu=> ?_
  go_enter Tryz.func141,Tryz.ntmps141
  go_wp2
  exact bu.out _ _ ⟨lH e1.out.symm,rfl⟩
 ·have e1:=Lib.hid (qP a)
  refine aO fun R' bu=> ?_
  go_enter Tryz.func141,Tryz.ntmps141
  go_wp2
  exact bu.out _ _ ⟨lH e1.out.symm,rfl⟩
 ·have e1:=Lib.hid (kA h)
  refine aO fun R' bu=> ?_
  go_enter Tryz.func141,Tryz.ntmps141
  go_wp2
  exact bu.out _ _ ⟨lH e1.out.symm,rfl⟩
theorem pL {a b:Nat} (h:(limbs a).length < (limbs b).length):a < b:=by
 rcases Nat.lt_or_ge a b with h' | h'
 ·exact h'
 ·have:=ct h';omega
theorem ID {a b:Nat} (h:(limbs a).length≠(limbs b).length):fQ (limbs a).length (limbs b).length=fQ a b:=by
 rcases Nat.lt_or_ge (limbs a).length (limbs b).length with h' | h'
 ·rw [ky h',ky (pL h')]
 ·have h'':(limbs b).length < (limbs a).length:=by omega
  rw [kA h'',kA (pL h'')]
theorem Dl {a b k x y:Nat} (hx:(limbs a)[k]? =some x) (hy:(limbs b)[k]? =some y) (hne:x≠y) (hd:(limbs a).drop (k + 1)=(limbs b).drop (k + 1)):fQ x y=fQ a b:=by
 rcases Nat.lt_or_ge x y with h | h
 ·have:=jS (B:=4294967296) (ay a) hx hy h hd
  rw [show val 4294967296 (limbs a)=a from au a,show val 4294967296 (limbs b)=b from au b] at this
  rw [ky h,ky this]
 ·have h':y < x:=by omega
  have:=jS (B:=4294967296) (ay b) hy hx h' hd.symm
  rw [show val 4294967296 (limbs a)=a from au a,show val 4294967296 (limbs b)=b from au b] at this
  rw [kA h',kA this]
theorem Gi {α:Type} {xs ys:List α} {k:Nat} {x:α} (hx:xs[k]? =some x) (hy:ys[k]? =some x) (h:xs.drop (k + 1)=ys.drop (k + 1)):xs.drop k=ys.drop k:=by
 have h1:xs.drop k=x::xs.drop (k + 1):=by
  obtain ⟨hl,e⟩:=List.getElem?_eq_some_iff.1 hx
  rw [List.drop_eq_getElem_cons hl,e]
 have h2:ys.drop k=x::ys.drop (k + 1):=by
  obtain ⟨hl,e⟩:=List.getElem?_eq_some_iff.1 hy
  rw [List.drop_eq_getElem_cons hl,e]
 rw [h1,h2,h]
set_option maxRecDepth 100000 in
set_option maxHeartbeats 800000 in
theorem zn (va vb:Value) (n m:Nat) (xs ys:List Nat) (w:World) (hr:Rd w 1 va n (ints .u32 xs)) (hs:Rd w 1 vb m (ints .u32 ys)) (hx:bU xs) (hy:bU ys):
  Calls Tryz.prog 131 #[va,vb] w fun e w'=>e=.returned (.int .i64 (fQ (aq xs) (aq ys)))∧∃ k,w'=w.drewN k:=by
 obtain ⟨p,c,rfl,eR,eT,eu⟩:=hr.u32
 obtain ⟨q,d,rfl,H7,Dm,jH⟩:=hs.u32
 obtain ⟨a,ha⟩:∃ a,a=aq xs:=⟨_,rfl⟩
 obtain ⟨b,hb⟩:∃ b,b=aq ys:=⟨_,rfl⟩
 have Hr:=Lib.hid hr
 have Hs:=Lib.hid hs
 have HL:=Lib.hid hx
 have HM:=Lib.hid hy
 have HX:=Lib.hid eu
 have HY:=Lib.hid jH
 rw [←ha,←hb]
 have HA:=Lib.hid ha
 have HB:=Lib.hid hb
 clear eu jH hx hy hr hs ha hb
 refine aO fun R' bu=> ?_
 go_enter Tryz.func131,Tryz.ntmps131
 go_wp2_with fail
 refine (cT p n c xs _ Hr.out HL.out).mono ?_
 rintro e w1 ⟨⟨n',hn',rfl,Dn⟩,rfl⟩
 have HLN:=Lib.hid Dn
 clear Dn
 go_wp2_with fail
 refine (cT q m d ys _ Hs.out HM.out).mono ?_
 rintro e w1 ⟨⟨m',IE,rfl,xT⟩,rfl⟩
 have IG:=Lib.hid xT
 clear xT
 have HN:Hid ((limbs a).length=n'):=by show _=_;rw [HA.out,HLN.out,List.length_take,HX.out];omega
 have HMM:Hid ((limbs b).length=m'):=by show _=_;rw [HB.out,IG.out,List.length_take,HY.out];omega
 have hra:=Hr.out.limbs hn' HLN.out
 have Gj:=Hs.out.limbs IE IG.out
 rw [←HA.out] at hra
 rw [←HB.out] at Gj
 have Hra:=Lib.hid hra
 have Hrb:=Lib.hid Gj
 clear hra Gj
 by_cases hne:n'=m'
 ·subst hne
  go_wp2_with fail
  go_loopw [5] (fun iv wr=>∃ k dn:Nat,k≤n'∧iv=.int .i64 ((k:Int) - 1)∧(limbs a).drop k=(limbs b).drop k∧wr=w.drewN dn) (fun iv _=>(intOf iv + 1).toNat)
  case atStart=>exact ⟨n',0,Nat.le_refl _,rfl,by rw [List.drop_of_length_le (Nat.le_of_eq HN.out),List.drop_of_length_le (Nat.le_of_eq HMM.out)],rfl⟩
  case round=>
   obtain ⟨k,dn,hk,rfl,hd,rfl⟩:=hrel
   have HD:=Lib.hid hd
   clear hd
   by_cases h0:k=0
   ·subst h0
    go_wp2
    exact bu.out _ _ ⟨lH (by rw [F9 (show limbs a=limbs b by simpa using HD.out),qP]),_,rfl⟩
   ·obtain ⟨j,rfl⟩:∃ j,k=j + 1:=⟨k - 1,by omega⟩
    obtain ⟨g1,o1,x,rfl,hg1,hx,pX⟩:=Hra.out.cellAt (k:=j) (by omega)
    obtain ⟨g2,o2,y,rfl,hg2,hy,Dp⟩:=Hrb.out.cellAt (k:=j) (by omega)
    have HXX:=Lib.hid hx
    have HYY:=Lib.hid hy
    have hjj:((j + 1:Nat):Int) - 1=(j:Int):=by omega
    clear hx hy h0 hg1 hg2
    rw [hjj]
    clear hjj
    by_cases ES:x=y
    ·subst ES
     have oH:((x:Int) != (x:Int))=false:=by simp
     go_wp2_with fail
     go_quiet (fail)
     go_wp2
     go_roundw
     case rel=>exact ⟨j,_,by omega,rfl,Gi HXX.out HYY.out HD.out,rfl⟩
     case measure=>simp [intOf]
    ·have oH:((x:Int) != (y:Int))=true:=by rw [bne_iff_ne];omega
     go_wp2_with fail
     go_quiet (fail)
     go_wp2_with fail
     go_quiet ((go_at_call 141;exact vL (vO x y _) ⟨_,rfl⟩))
     go_wp2
     exact bu.out _ _ ⟨lH (Dl HXX.out HYY.out ES HD.out),_,by rw [World.drewN_drewN,World.drewN_drewN]⟩
 ·have hne':((n':Int) != (m':Int))=true:=by rw [bne_iff_ne];omega
  go_wp2_with fail
  refine (vN n' m' _).mono ?_
  rintro e w1 ⟨rfl,rfl⟩
  go_wp2
  exact bu.out _ _ ⟨lH (by rw [←HN.out,←HMM.out];exact ID (by rw [HN.out,HMM.out];exact hne)),0,rfl⟩
def vP (w:World) (B g N:Nat) (xs ys:List Nat) (cv iv:Value) (wr:World):Prop:=
 ∃ (k carry:Nat) (ds:List Nat),k≤N∧ds.length=k∧iv=.int .i64 (k:Int)∧cv=.int .u32 (carry:Int)∧carry≤1∧bU ds∧
  aq ds + 4294967296 ^ k * carry=aq (xs.take k) + aq (ys.take k)∧
  wr.ownsRow B 117 1 (.slice (some ⟨g,0,none⟩) (N + 1) (N + 1)) (N + 1) (ints .u32 (ds++List.replicate (N + 1 - k) 0))∧Below B w wr
theorem vP.step {w wr:World} {B g N k carry x y:Nat} {xs ys ds:List Nat} (hk:k < N) (C6:ds.length=k) (hc:carry≤1) (hl:bU ds)
  (hv:aq ds + 4294967296 ^ k * carry=aq (xs.take k) + aq (ys.take k)) (aI:wr.ownsRow B 117 1 (.slice (some ⟨g,0,none⟩) (N + 1) (N + 1)) (N + 1) (ints .u32 (ds++List.replicate (N + 1 - k) 0)))
  (hb:Below B w wr) (hx:xs.getD k 0=x) (hy:ys.getD k 0=y) (kf:x < 4294967296) (yl:y < 4294967296):
  vP w B g N xs ys (.int .u32 (((x + y + carry) / 4294967296:Nat):Int)) (.int .i64 ((k:Int) + 1)) (wr.setCell ⟨g,k,none⟩ (.int .u32 (((x + y + carry) % 4294967296:Nat):Int))):=by
 subst C6
 have e:N + 1 - ds.length=(N - ds.length) + 1:=by omega
 rw [e] at aI
 have h1:=Own.qS (x:=(x + y + carry) % 4294967296) aI
 refine ⟨ds.length + 1,(x + y + carry) / 4294967296,ds++[(x + y + carry) % 4294967296],by omega,by simp,rfl,rfl,?_,?_,?_,?_,?_⟩
 ·omega
 ·exact hl.append (bU.cons (Nat.mod_lt _ (by omega)) bU.nil)
 ·rw [dH,a9,a9,hx,hy,Nat.pow_succ]
  exact AQ _ _ x y carry _ _ _ hv rfl
 ·rw [show N + 1 - (ds.length + 1)=N - ds.length by omega];exact h1
 ·exact hb.setCell (Own.lt aI).1 _
set_option maxRecDepth 100000 in
set_option maxHeartbeats 1000000 in
theorem ET (p q:Option Addr) (n c m d:Nat) (xs ys:List Nat) (w:World) (hr:Rd w 1 (.slice p n c) n (ints .u32 xs)) (hs:Rd w 1 (.slice q m d) m (ints .u32 ys)) (hx:bU xs) (hy:bU ys)
  (hn:n≤1073741824) (hmn:m≤n) (args:Array Value) (hargs:args=#[.slice p n c,.slice q m d]∨m < n∧args=#[.slice q m d,.slice p n c]):
  Calls Tryz.prog 130 args w fun e w'=>∃ v',e=.returned v'∧w'.ownsRow w.heap.size 117 1 v' (limbs (aq xs + aq ys)).length (ints .u32 (limbs (aq xs + aq ys)))∧Below w.heap.size w w':=by
 obtain ⟨p',c',hv,eR,eT,eu⟩:=hr.u32
 simp only [Value.slice.injEq,true_and] at hv
 obtain ⟨rfl,rfl⟩:=hv
 obtain ⟨q',d',hv,H7,Dm,jH⟩:=hs.u32
 simp only [Value.slice.injEq,true_and] at hv
 obtain ⟨rfl,rfl⟩:=hv
 have Hr:=Lib.hid hr
 have Hs:=Lib.hid hs
 have HL:=Lib.hid hx
 have HM:=Lib.hid hy
 have HX:=Lib.hid eu
 have HY:=Lib.hid jH
 obtain ⟨i0,hi,kC,kZ,lJ⟩:=info_parts iV
 obtain ⟨B,hB⟩:∃ B,B=w.heap.size:=⟨_,rfl⟩
 have HB:=Lib.hid hB
 rw [←hB]
 clear eu jH hx hy hr hs hB
 rcases hargs with rfl | ⟨hlt,rfl⟩
 all_goals
  refine aO fun R' bu=> ?_
  go_enter Tryz.func130,Tryz.ntmps130
  go_wp2_with (at_make;refine wpList_make_full _ rfl _ _ 22 rfl B 117 i0 (.int .u32 0) 1 Tryz.underlying22 hi kC kZ .i64 .i64 _ _ (n + 1) rfl rfl (by omega) (by omega) (by rw [lJ];omega) (by unfold maxLen;omega) (Nat.le_of_eq HB.out) ?_;intro w1 aI Gh)
  have Dq:=Lib.hid (Own.made aI)
  have Hb1:Hid (Below B w w1):=(Below.refl _ _).grown Gh (Nat.le_of_eq HB.out) (fun k hk=>by cases hk)
  clear aI Gh
  go_loopw [6,22] (fun cv iv wr=>vP w B w.heap.size n xs ys cv iv wr) (fun _ iv _=>n - (intOf iv).toNat)
  case atStart=>exact ⟨0,0,[],Nat.zero_le _,rfl,rfl,rfl,by omega,bU.nil,by simp [dX],Dq.out,Hb1.out⟩
  case round=>
   obtain ⟨k,carry,ds,hk,C6,rfl,rfl,jb,hl,hv,aI,hb⟩:=hrel
   have HO:=Lib.hid aI
   have zo:=Lib.hid C6
   have HV:=Lib.hid hv
   have ym:=Lib.hid hl
   have gA:=Lib.hid hb
   clear aI C6 hv hl hb
   have uW:B≤wr.heap.size:=by have:=gA.out.size;have:=HB.out;omega
   by_cases qU:k < n
   ·obtain ⟨b1,o1,x,rfl,aV,gf,pX⟩:=(Hr.out.iH HB.out gA.out).cellAt qU
    have uX:=Lib.hid gf
    have kf:=HL.out.at gf
    have e:n + 1 - k=(n - k) + 1:=by omega
    have iL:=HO.out
    rw [e] at iL
    obtain ⟨hcell,xU⟩:=Own.uV iL
    rw [zo.out] at hcell xU
    clear e iL gf
    by_cases Dr:k < m
    ·obtain ⟨b2,o2,y,rfl,bl,nH,Dp⟩:=(Hs.out.iH HB.out gA.out).cellAt Dr
     have EU:=Lib.hid nH
     have yl:=HM.out.at nH
     clear nH
     go_wp2_with fail
     refine (lI x y carry _ kf yl (by omega)).mono ?_
     rintro e w2 ⟨rfl,rfl⟩
     go_wp2_with fail
     go_roundw
     case rel=>exact vP.step qU zo.out jb ym.out HV.out HO.out gA.out (by simp [List.getD,uX.out]) (by simp [List.getD,EU.out]) kf yl
     case measure=>simp [intOf];omega
    ·have Iu:Hid (ys.getD k 0=0):=by show _=_;rw [List.getD,List.getElem?_eq_none (by rw [HY.out];omega)];rfl
     go_wp2_with fail
     refine (lI x 0 carry _ kf (by omega) (by omega)).mono ?_
     rintro e w2 ⟨rfl,rfl⟩
     go_wp2_with fail
     go_roundw
     case rel=>exact vP.step qU zo.out jb ym.out HV.out HO.out gA.out (by simp [List.getD,uX.out]) Iu.out kf (by omega)
     case measure=>simp [intOf];omega
   ·obtain rfl:k=n:=by omega
    have e:k + 1 - k=0 + 1:=by omega
    have iL:=HO.out
    rw [e] at iL
    obtain ⟨hcell,xU⟩:=Own.uV iL
    have hst:=Own.qS (x:=carry) iL
    rw [zo.out] at hcell xU hst
    have HST:=Lib.hid hst
    clear e iL hst
    go_wp2_with fail
    have hval:Hid (aq (ds++[carry])=aq xs + aq ys):=by
     show _=_
     rw [dH,zo.out,HV.out,bm (Nat.le_of_eq HX.out),bm (by rw [HY.out];exact hmn)]
    refine (cT _ (k + 1) (k + 1) (ds++[carry]) _ (by have:=Rd.own HST.out;simpa using this) (ym.out.append (bU.cons (by omega) bU.nil))).mono ?_
    rintro e w2 ⟨⟨r,hr,rfl,C7⟩,rfl⟩
    have H8:=Lib.hid C7
    clear C7
    go_wp2_with fail
    refine bu.out _ _ ⟨_,rfl,?_,gA.out.setCell (p:=⟨w.heap.size,k,none⟩) (Nat.le_of_eq HB.out) _⟩
    have h2:=HST.out
    rw [List.replicate_zero,List.append_nil] at h2
    have h3:=Own.limbs h2 hr H8.out
    have e:(limbs (aq (ds++[carry]))).length=r:=by rw [H8.out,List.length_take,List.length_append,zo.out];simp;omega
    rw [hval.out] at h3 e
    rw [e];exact h3
theorem EW (va vb:Value) (n m:Nat) (xs ys:List Nat) (w:World) (hr:Rd w 1 va n (ints .u32 xs)) (hs:Rd w 1 vb m (ints .u32 ys)) (hx:bU xs) (hy:bU ys) (hn:n≤1073741824) (hm:m≤1073741824):
  Calls Tryz.prog 130 #[va,vb] w fun e w'=>∃ v',e=.returned v'∧w'.ownsRow w.heap.size 117 1 v' (limbs (aq xs + aq ys)).length (ints .u32 (limbs (aq xs + aq ys)))∧Below w.heap.size w w':=by
 obtain ⟨p,c,rfl,_,_,_⟩:=hr.u32
 obtain ⟨q,d,rfl,_,_,_⟩:=hs.u32
 rcases Nat.lt_or_ge n m with h | h
 ·rw [Nat.add_comm (aq xs)]
  exact ET q p m d n c ys xs w hs hr hy hx hm (by omega) _ (.inr ⟨h,rfl⟩)
 ·exact ET p q n c m d xs ys w hr hs hx hy hn h _ (.inl rfl)
end Go.Proofs.YtabalinjfgcfeaaGreat
namespace Go.Proofs.YtabalinjfgcfeaaGreat
open Go.RowKit
def zp (w:World) (B g N m:Nat) (xs:List Nat) (cv iv:Value) (wr:World):Prop:=
 ∃ (k carry:Nat) (ds:List Nat),k≤N∧ds.length=k∧iv=.int .i64 (k:Int)∧cv=.int .u32 (carry:Int)∧carry < 4294967296∧bU ds∧
  aq ds + 4294967296 ^ k * carry=aq (xs.take k) * m∧
  wr.ownsRow B 117 1 (.slice (some ⟨g,0,none⟩) (N + 1) (N + 1)) (N + 1) (ints .u32 (ds++List.replicate (N + 1 - k) 0))∧Below B w wr
theorem yn (x m c:Nat) (hx:x < 4294967296) (hm:m < 4294967296) (hc:c < 4294967296):(x * m + c) / 4294967296 < 4294967296:=by
 have h1:x * m≤4294967295 * 4294967295:=Nat.mul_le_mul (by omega) (by omega)
 omega
theorem yo (x m c:Nat):x * m / 4294967296 + (x * m % 4294967296 + c) / 4294967296=(x * m + c) / 4294967296∧(x * m % 4294967296 + c) % 4294967296=(x * m + c) % 4294967296:=by
 generalize x * m=p;omega
theorem zp.step {w wr:World} {B g N k carry x m:Nat} {xs ds:List Nat} {c s:Int} (hk:k < N) (C6:ds.length=k) (hm:m < 4294967296) (hc:carry < 4294967296) (hl:bU ds)
  (hv:aq ds + 4294967296 ^ k * carry=aq (xs.take k) * m) (aI:wr.ownsRow B 117 1 (.slice (some ⟨g,0,none⟩) (N + 1) (N + 1)) (N + 1) (ints .u32 (ds++List.replicate (N + 1 - k) 0)))
  (hb:Below B w wr) (hx:xs[k]? =some x) (kf:x < 4294967296) (he:c=(((x * m + carry) / 4294967296:Nat):Int)) (hs:s=(((x * m % 4294967296 + carry) % 4294967296:Nat):Int)):
  zp w B g N m xs (.int .u32 c) (.int .i64 ((k:Int) + 1)) (wr.setCell ⟨g,k,none⟩ (.int .u32 s)):=by
 subst C6
 subst he
 subst hs
 have e:N + 1 - ds.length=(N - ds.length) + 1:=by omega
 rw [e] at aI
 have h1:=Own.qS (x:=(x * m + carry) % 4294967296) aI
 rw [(yo x m carry).2]
 refine ⟨ds.length + 1,(x * m + carry) / 4294967296,ds++[(x * m + carry) % 4294967296],by omega,by simp,rfl,rfl,yn x m carry kf hm hc,?_,?_,?_,?_⟩
 ·exact hl.append (bU.cons (Nat.mod_lt _ (by omega)) bU.nil)
 ·rw [dH,a9,Nat.pow_succ,List.getD,hx]
  exact Iv _ x m carry _ _ hv
 ·rw [show N + 1 - (ds.length + 1)=N - ds.length by omega];exact h1
 ·exact hb.setCell (Own.lt aI).1 _
set_option maxRecDepth 100000 in
set_option maxHeartbeats 1000000 in
theorem zt (va:Value) (n m:Nat) (xs:List Nat) (w:World) (hr:Rd w 1 va n (ints .u32 xs)) (hx:bU xs) (hn:n≤1073741824) (hm:m < 4294967296):
  Calls Tryz.prog 157 #[va,.int .u32 (m:Int)] w fun e w'=>∃ v',e=.returned v'∧w'.ownsRow w.heap.size 117 1 v' (limbs (aq xs * m)).length (ints .u32 (limbs (aq xs * m)))∧Below w.heap.size w w':=by
 obtain ⟨p,c,rfl,eR,eT,eu⟩:=hr.u32
 have Hr:=Lib.hid hr
 have HL:=Lib.hid hx
 have HX:=Lib.hid eu
 obtain ⟨i0,hi,kC,kZ,lJ⟩:=info_parts iV
 obtain ⟨B,hB⟩:∃ B,B=w.heap.size:=⟨_,rfl⟩
 have HB:=Lib.hid hB
 rw [←hB]
 clear eu hx hr hB
 refine aO fun R' bu=> ?_
 go_enter Tryz.func157,Tryz.ntmps157
 go_wp2_with (at_make;refine wpList_make_full _ rfl _ _ 22 rfl B 117 i0 (.int .u32 0) 1 Tryz.underlying22 hi kC kZ .i64 .i64 _ _ (n + 1) rfl rfl (by omega) (by omega) (by rw [lJ];omega) (by unfold maxLen;omega) (Nat.le_of_eq HB.out) ?_;intro w1 aI Gh)
 have Dq:=Lib.hid (Own.made aI)
 have Hb1:Hid (Below B w w1):=(Below.refl _ _).grown Gh (Nat.le_of_eq HB.out) (fun k hk=>by cases hk)
 clear aI Gh
 go_loopw [6,19] (fun cv iv wr=>zp w B w.heap.size n m xs cv iv wr) (fun _ iv _=>n - (intOf iv).toNat)
 case atStart=>exact ⟨0,0,[],Nat.zero_le _,rfl,rfl,rfl,by omega,bU.nil,by simp [dX],Dq.out,Hb1.out⟩
 case round=>
  obtain ⟨k,carry,ds,hk,C6,rfl,rfl,jb,hl,hv,aI,hb⟩:=hrel
  have HO:=Lib.hid aI
  have zo:=Lib.hid C6
  have HV:=Lib.hid hv
  have ym:=Lib.hid hl
  have gA:=Lib.hid hb
  clear aI C6 hv hl hb
  by_cases qU:k < n
  ·obtain ⟨b1,o1,x,rfl,aV,gf,pX⟩:=(Hr.out.iH HB.out gA.out).cellAt qU
   have uX:=Lib.hid gf
   have kf:=HL.out.at gf
   have e:n + 1 - k=(n - k) + 1:=by omega
   have iL:=HO.out
   rw [e] at iL
   obtain ⟨hcell,xU⟩:=Own.uV iL
   rw [zo.out] at hcell xU
   clear e iL gf
   have h1:(x * m + carry) / 4294967296 < 4294967296:=yn x m carry kf hm jb
   have h2:=(yo x m carry).1
   have h3:(0:Int)≤((x * m / 4294967296:Nat):Int) + (((x * m % 4294967296 + carry + 0) / 4294967296:Nat):Int)∧((x * m / 4294967296:Nat):Int) + (((x * m % 4294967296 + carry + 0) / 4294967296:Nat):Int) < 4294967296:=by omega
   have H2:Hid (((x * m / 4294967296:Nat):Int) + (((x * m % 4294967296 + carry + 0) / 4294967296:Nat):Int)=(((x * m + carry) / 4294967296:Nat):Int)):=by show _=_;omega
   obtain ⟨h3a,h3b⟩:=h3
   clear h2 h1
   go_wp2_with fail
   refine (Ge x m _ kf hm).mono ?_
   rintro e w2 ⟨rfl,rfl⟩
   go_wp2_with fail
   refine (lI (x * m % 4294967296) carry 0 _ (Nat.mod_lt _ (by omega)) jb (by omega)).mono ?_
   rintro e w2 ⟨rfl,rfl⟩
   go_wp2_with fail
   go_roundw
   case rel=>exact zp.step qU zo.out hm jb ym.out HV.out HO.out gA.out uX.out kf (by have:=H2.out;omega) (by omega)
   case measure=>simp [intOf];omega
  ·obtain rfl:k=n:=by omega
   have e:k + 1 - k=0 + 1:=by omega
   have iL:=HO.out
   rw [e] at iL
   obtain ⟨hcell,xU⟩:=Own.uV iL
   have hst:=Own.qS (x:=carry) iL
   rw [zo.out] at hcell xU hst
   have HST:=Lib.hid hst
   clear e iL hst
   go_wp2_with fail
   have hval:Hid (aq (ds++[carry])=aq xs * m):=by
    show _=_
    rw [dH,zo.out,HV.out,bm (Nat.le_of_eq HX.out)]
   refine (cT _ (k + 1) (k + 1) (ds++[carry]) _ (by have:=Rd.own HST.out;simpa using this) (ym.out.append (bU.cons (by omega) bU.nil))).mono ?_
   rintro e w2 ⟨⟨r,hr,rfl,C7⟩,rfl⟩
   have H8:=Lib.hid C7
   clear C7
   go_wp2_with fail
   refine bu.out _ _ ⟨_,rfl,?_,gA.out.setCell (p:=⟨w.heap.size,k,none⟩) (Nat.le_of_eq HB.out) _⟩
   have h2:=HST.out
   rw [List.replicate_zero,List.append_nil] at h2
   have h3:=Own.limbs h2 hr H8.out
   have e:(limbs (aq (ds++[carry]))).length=r:=by rw [H8.out,List.length_take,List.length_append,zo.out];simp;omega
   rw [hval.out] at h3 e
   rw [e];exact h3
def zu (w:World) (B:Nat) (qv:Value) (n d:Nat) (xs:List Nat) (iv rv:Value) (wr:World):Prop:=
 ∃ (k r:Nat) (qs:List Nat),k≤n∧qs.length=n - k∧iv=.int .i64 ((k:Int) - 1)∧rv=.int .u32 (r:Int)∧r < d∧bU qs∧
  aq qs * d + r=aq (xs.drop k)∧wr.ownsRow B 117 1 qv n (ints .u32 (xs.take k++qs))∧Below B w wr
theorem IH (d r x Q X:Nat) (h:Q * d + r=X):
  ((r * 4294967296 + x) / d + 4294967296 * Q) * d + (r * 4294967296 + x) % d=x + 4294967296 * X:=by
 subst h
 have h2:=Nat.mod_add_div (r * 4294967296 + x) d
 rw [Nat.mul_comm d] at h2
 rw [Nat.add_mul,Nat.mul_add,Nat.mul_assoc]
 omega
theorem div_lt (d r x:Nat) (hr:r < d) (hx:x < 4294967296):(r * 4294967296 + x) / d < 4294967296:=by
 rw [Nat.div_lt_iff_lt_mul (by omega)]
 have:(r + 1) * 4294967296≤d * 4294967296:=Nat.mul_le_mul_right _ hr
 rw [Nat.mul_comm 4294967296 d];omega
theorem vQ {xs:List Nat} {k x:Nat} (h:xs[k]? =some x):aq (xs.drop k)=x + 4294967296 * aq (xs.drop (k + 1)):=by
 obtain ⟨hl,e⟩:=List.getElem?_eq_some_iff.1 h
 rw [List.drop_eq_getElem_cons hl,e,fh]
theorem zv {xs qs:List Nat} {k x:Nat} (hk:k < xs.length):(xs.take (k + 1)++qs).set k x=xs.take k++x::qs:=by
 have h1:xs.take (k + 1)=xs.take k++[xs[k]]:=bq (List.getElem?_eq_getElem hk)
 rw [h1,List.append_assoc,List.set_append_right _ _ (by rw [List.length_take];omega)]
 congr 1
 rw [List.length_take,Nat.min_eq_left (by omega),Nat.sub_self];rfl
theorem zu.step {w wr:World} {B g cap n d j r x dn:Nat} {xs qs:List Nat} {q s:Int} (hj:j + 1≤n) (hn:xs.length=n) (hqs:qs.length=n - (j + 1)) (hr:r < d) (hl:bU qs)
  (hv:aq qs * d + r=aq (xs.drop (j + 1))) (aI:wr.ownsRow B 117 1 (.slice (some ⟨g,0,none⟩) n cap) n (ints .u32 (xs.take (j + 1)++qs))) (hb:Below B w wr)
  (hx:xs[j]? =some x) (kf:x < 4294967296) (he:q=(((r * 4294967296 + x) / d:Nat):Int)) (hs:s=(((r * 4294967296 + x) % d:Nat):Int)):
  zu w B (.slice (some ⟨g,0,none⟩) n cap) n d xs (.int .i64 ((j:Int) - 1)) (.int .u32 s) ((wr.drewN dn).setCell ⟨g,j,none⟩ (.int .u32 q)):=by
 subst he
 subst hs
 refine ⟨j,(r * 4294967296 + x) % d,(r * 4294967296 + x) / d::qs,by omega,by simp;omega,rfl,rfl,Nat.mod_lt _ (by omega),bU.cons (div_lt d r x hr kf) hl,?_,?_,?_⟩
 ·rw [fh,vQ hx,←hv]
  exact IH d r x _ _ rfl
 ·have h1:=Own.fR (j:=j) (x:=(r * 4294967296 + x) / d) (Own.drewN aI dn)
  rwa [zv (by omega)] at h1
 ·exact (Below.drewN hb dn).setCell (Own.lt aI).1 _
set_option maxRecDepth 100000 in
set_option maxHeartbeats 1000000 in
theorem qV (va:Value) (n d:Nat) (xs:List Nat) (w:World) (hr:Rd w 1 va n (ints .u32 xs)) (hx:bU xs) (hn:n≤1073741824) (hd:d < 4294967296):
  Calls Tryz.prog 143 #[va,.int .u32 (d:Int)] w fun e w'=>((d=0∧e=.returned (.tuple #[.slice none 0 0,.int .u32 0,.int .i64 20]))∨
   (d≠0∧∃ v',e=.returned (.tuple #[v',.int .u32 ((aq xs % d:Nat):Int),.int .i64 0])∧w'.ownsRow w.heap.size 117 1 v' (limbs (aq xs / d)).length (ints .u32 (limbs (aq xs / d)))))∧Below w.heap.size w w':=by
 obtain ⟨p,c,rfl,eR,eT,eu⟩:=hr.u32
 have Hr:=Lib.hid hr
 have HL:=Lib.hid hx
 have HX:=Lib.hid eu
 clear eu hx hr
 by_cases C4:d=0
 ·have hdb:((d:Int) == 0)=true:=by rw [beq_iff_eq];omega
  have HD:=Lib.hid C4
  clear C4
  refine aO fun R' bu=> ?_
  go_enter Tryz.func143,Tryz.ntmps143
  go_wp2
  go_ret3
  exact bu.out _ _ ⟨.inl ⟨HD.out,rfl⟩,Below.refl _ _⟩
 ·obtain ⟨B,hB⟩:∃ B,B=w.heap.size:=⟨_,rfl⟩
  have HB:=Lib.hid hB
  rw [←hB]
  clear hB
  have hdb:((d:Int) == 0)=false:=by rw [beq_eq_false_iff_ne];omega
  refine aO fun R' bu=> ?_
  go_enter Tryz.func143,Tryz.ntmps143
  go_wp2_with fail
  refine (iK _ n xs _ Hr.out hn).mono ?_
  rintro e w1 ⟨qv,rfl,aI,hb⟩
  rw [←HB.out] at aI hb
  obtain ⟨qp,qc,rfl,_,_,_⟩:=Own.form aI
  have HO:=Lib.hid aI
  have gA:=Lib.hid hb
  clear aI hb
  go_wp2_with fail
  go_loopw [7,5] (fun iv rv wr=>zu w B (.slice qp n qc) n d xs iv rv wr) (fun iv _ _=>(intOf iv + 1).toNat)
  case atStart=>exact ⟨n,0,[],Nat.le_refl _,by simp,rfl,rfl,by omega,bU.nil,by rw [List.drop_of_length_le (Nat.le_of_eq HX.out)];simp [dX],by rw [List.take_of_length_le (Nat.le_of_eq HX.out),List.append_nil];exact HO.out,gA.out⟩
  case round=>
   obtain ⟨k,r,qs,hk,hqs,rfl,rfl,sD,hl,hv,aI,hb⟩:=hrel
   have mL:=Lib.hid aI
   have HQS:=Lib.hid hqs
   have HV:=Lib.hid hv
   have ym:=Lib.hid hl
   have nI:=Lib.hid hb
   clear aI hqs hv hl hb
   by_cases h0:k=0
   ·subst h0
    go_wp2_with fail
    refine (cT _ n qc qs _ (by have:=Rd.own mL.out;simpa using this) ym.out).mono ?_
    rintro e w2 ⟨⟨m,hm,rfl,xT⟩,rfl⟩
    have IG:=Lib.hid xT
    clear xT
    go_wp2_with fail
    go_ret3
    have hv:=HV.out
    rw [List.drop_zero] at hv
    have hq:aq xs / d=aq qs:=by rw [←hv,Nat.add_comm,Nat.add_mul_div_right _ _ (by omega),Nat.div_eq_of_lt sD,Nat.zero_add]
    have IE:aq xs % d=r:=by rw [←hv,Nat.add_comm,Nat.add_mul_mod_self_right,Nat.mod_eq_of_lt sD]
    refine bu.out _ _ ⟨.inr ⟨C4,.slice qp m qc,by rw [IE];rfl,?_⟩,nI.out⟩
    have h2:=mL.out
    rw [List.take_zero,List.nil_append] at h2
    have h3:=Own.limbs h2 hm IG.out
    have e:(limbs (aq qs)).length=m:=by rw [IG.out,List.length_take,HQS.out];omega
    rw [hq,e];exact h3
   ·obtain ⟨j,rfl⟩:∃ j,k=j + 1:=⟨k - 1,by omega⟩
    obtain ⟨g,qc',hv,hbg,Gk⟩:=Own.uU mL.out (by omega)
    simp only [Value.slice.injEq,true_and] at hv
    obtain ⟨rfl,rfl⟩:=hv
    obtain ⟨x,hx,hcell,xU⟩:=Own.gm mL.out (j:=j) (by omega)
    have gf:xs[j]? =some x:=by
     rw [List.getElem?_append_left (by rw [List.length_take,HX.out];omega),List.getElem?_take] at hx
     simpa using hx
    have uX:=Lib.hid gf
    have kf:=HL.out.at gf
    have hjj:((j + 1:Nat):Int) - 1=(j:Int):=by omega
    rw [hjj]
    clear hx gf h0 hjj
    go_wp2_with fail
    refine (Gf r x d _ sD kf hd).mono ?_
    rintro e w2 ⟨rfl,dn,rfl⟩
    go_wp2_with fail
    go_roundw
    case rel=>exact zu.step (by omega) HX.out HQS.out sD ym.out HV.out mL.out nI.out uX.out kf (by simp) (by simp)
    case measure=>simp [intOf]
def vR (w:World) (B:Nat) (ov:Value) (n:Nat) (xs ys:List Nat) (bv iv:Value) (wr:World):Prop:=
 ∃ (k r:Nat) (ds:List Nat),k≤n∧ds.length=k∧iv=.int .i64 (k:Int)∧bv=.int .u32 (r:Int)∧r≤1∧bU ds∧
  aq ds + aq (ys.take k)=aq (xs.take k) + 4294967296 ^ k * r∧wr.ownsRow B 117 1 ov n (ints .u32 (ds++xs.drop k))∧Below B w wr
theorem zw {xs ds:List Nat} {x:Nat} (hk:ds.length < xs.length):(ds++xs.drop ds.length).set ds.length x=(ds++[x])++xs.drop (ds.length + 1):=by
 rw [List.set_append_right _ _ (Nat.le_refl _),Nat.sub_self,List.drop_eq_getElem_cons hk,List.set_cons_zero,List.append_assoc];rfl
theorem II (p x y r d r' X Y D:Nat) (h:D + Y=X + p * r) (hs:x + 4294967296 * r'=d + y + r):(D + p * d) + (Y + p * y)=(X + p * x) + p * 4294967296 * r':=by
 have h2:p * (x + 4294967296 * r')=p * (d + y + r):=by rw [hs]
 rw [Nat.mul_add,Nat.mul_add,Nat.mul_add,←Nat.mul_assoc] at h2
 omega
theorem vR.step {w wr:World} {B g cap n k r x y d r':Nat} {xs ys ds:List Nat} (hk:k < n) (hn:xs.length=n) (C6:ds.length=k) (hl:bU ds)
  (hv:aq ds + aq (ys.take k)=aq (xs.take k) + 4294967296 ^ k * r) (aI:wr.ownsRow B 117 1 (.slice (some ⟨g,0,none⟩) n cap) n (ints .u32 (ds++xs.drop k))) (hb:Below B w wr)
  (hx:xs.getD k 0=x) (hy:ys.getD k 0=y) (hd:d < 4294967296) (mW:r'≤1) (he:x + 4294967296 * r'=d + y + r):
  vR w B (.slice (some ⟨g,0,none⟩) n cap) n xs ys (.int .u32 (r':Int)) (.int .i64 ((k:Int) + 1)) (wr.setCell ⟨g,k,none⟩ (.int .u32 (d:Int))):=by
 subst C6
 have h1:=Own.fR (j:=ds.length) (x:=d) aI
 rw [zw (by omega)] at h1
 refine ⟨ds.length + 1,r',ds++[d],by omega,by simp,rfl,rfl,mW,hl.append (bU.cons hd bU.nil),?_,h1,hb.setCell (Own.lt aI).1 _⟩
 rw [dH,a9,a9,hx,hy,Nat.pow_succ]
 exact II _ x y r d r' _ _ _ hv he
set_option maxRecDepth 100000 in
set_option maxHeartbeats 1000000 in
theorem zx (va vb:Value) (n m:Nat) (xs ys:List Nat) (w:World) (hr:Rd w 1 va n (ints .u32 xs)) (hs:Rd w 1 vb m (ints .u32 ys)) (hx:bU xs) (hy:bU ys) (hn:n≤1073741824):
  Calls Tryz.prog 132 #[va,vb] w fun e w'=>((aq xs < aq ys∧e=.returned (.tuple #[.slice none 0 0,.int .i64 2]))∨
   (aq ys≤aq xs∧∃ v',e=.returned (.tuple #[v',.int .i64 0])∧w'.ownsRow w.heap.size 117 1 v' (limbs (aq xs - aq ys)).length (ints .u32 (limbs (aq xs - aq ys)))))∧Below w.heap.size w w':=by
 obtain ⟨p,c,rfl,eR,eT,eu⟩:=hr.u32
 obtain ⟨q,d,rfl,H7,Dm,jH⟩:=hs.u32
 obtain ⟨a,ha⟩:∃ a,a=aq xs:=⟨_,rfl⟩
 obtain ⟨b,hb⟩:∃ b,b=aq ys:=⟨_,rfl⟩
 have Hr:=Lib.hid hr
 have Hs:=Lib.hid hs
 have HL:=Lib.hid hx
 have HM:=Lib.hid hy
 have HX:=Lib.hid eu
 have HY:=Lib.hid jH
 rw [←ha,←hb]
 have HA:=Lib.hid ha
 have HB:=Lib.hid hb
 clear eu jH hx hy hr hs ha hb
 refine aO fun R' bu=> ?_
 go_enter Tryz.func132,Tryz.ntmps132
 go_wp2_with fail
 refine (cT p n c xs _ Hr.out HL.out).mono ?_
 rintro e w1 ⟨⟨n',hn',rfl,Dn⟩,rfl⟩
 have HLN:=Lib.hid Dn
 clear Dn
 go_wp2_with fail
 refine (cT q m d ys _ Hs.out HM.out).mono ?_
 rintro e w1 ⟨⟨m',IE,rfl,xT⟩,rfl⟩
 have IG:=Lib.hid xT
 clear xT
 have HN:Hid ((limbs a).length=n'):=by show _=_;rw [HA.out,HLN.out,List.length_take,HX.out];omega
 have HMM:Hid ((limbs b).length=m'):=by show _=_;rw [HB.out,IG.out,List.length_take,HY.out];omega
 have hra:=Hr.out.limbs hn' HLN.out
 have Gj:=Hs.out.limbs IE IG.out
 rw [←HA.out] at hra
 rw [←HB.out] at Gj
 have Hra:=Lib.hid hra
 have Hrb:=Lib.hid Gj
 clear hra Gj
 go_wp2_with fail
 refine (zn _ _ n' m' (limbs a) (limbs b) _ Hra.out Hrb.out (ay a) (ay b)).mono ?_
 rintro e w1 ⟨rfl,dn,rfl⟩
 rw [au,au]
 by_cases uR:a < b
 ·have hc:fQ a b < 0:=iY.2 uR
  generalize fQ a b=cv at hc ⊢
  go_wp2_with fail
  exact bu.out _ _ ⟨.inl ⟨uR,rfl⟩,Below.drewN (Below.refl _ _) _⟩
 ·have hc:0≤fQ a b:=by have:=mt (@iY a b).1 uR;omega
  generalize fQ a b=cv at hc ⊢
  have hmn:m'≤n':=by rw [←HN.out,←HMM.out];exact ct (by omega)
  obtain ⟨B,hB⟩:∃ B,B=w.heap.size:=⟨_,rfl⟩
  have HBB:=Lib.hid hB
  rw [←hB] at bu
  clear hB
  go_wp2_with fail
  refine (iK _ n' (limbs a) _ (Rd.drewN Hra.out dn) (by omega)).mono ?_
  rintro e w1 ⟨qv,rfl,aI,hb⟩
  have hb:Below B w w1:=by rw [HBB.out];exact (Below.drewN (Below.refl _ _) dn).trans hb
  have aI:w1.ownsRow B 117 1 qv n' (ints .u32 (limbs a)):=by rw [HBB.out];exact aI
  obtain ⟨qp,qc,rfl,_,_,_⟩:=Own.form aI
  have HO:=Lib.hid aI
  have gA:=Lib.hid hb
  clear aI hb
  go_wp2_with fail
  go_loopw [7,22] (fun bv iv wr=>vR w B (.slice qp n' qc) n' (limbs a) (limbs b) bv iv wr) (fun _ iv _=>n' - (intOf iv).toNat)
  case atStart=>exact ⟨0,0,[],Nat.zero_le _,rfl,rfl,rfl,by omega,bU.nil,by simp [dX],by simpa using HO.out,gA.out⟩
  case round=>
   obtain ⟨k,r,ds,hk,C6,rfl,rfl,iC,hl,hv,aI,hb⟩:=hrel
   have mL:=Lib.hid aI
   have zo:=Lib.hid C6
   have HV:=Lib.hid hv
   have ym:=Lib.hid hl
   have nI:=Lib.hid hb
   clear aI C6 hv hl hb
   by_cases qU:k < n'
   ·obtain ⟨g,qc',hv,hbg,Gk⟩:=Own.uU mL.out (by omega)
    simp only [Value.slice.injEq,true_and] at hv
    obtain ⟨rfl,rfl⟩:=hv
    obtain ⟨x,hx,hcell,xU⟩:=Own.gm mL.out (j:=k) (by omega)
    have gf:(limbs a)[k]? =some x:=by
     rw [List.getElem?_append_right (by rw [zo.out];omega),zo.out,List.getElem?_drop] at hx
     simpa using hx
    have uX:=Lib.hid gf
    have kf:=(ay a).at gf
    clear hx gf
    by_cases Dr:k < m'
    ·obtain ⟨b2,o2,y,rfl,bl,nH,Dp⟩:=(Hrb.out.iH HBB.out nI.out).cellAt Dr
     have EU:=Lib.hid nH
     have yl:=(ay b).at nH
     clear nH
     go_wp2_with fail
     refine (yk x y r _ kf yl (by omega)).mono ?_
     rintro e w2 ⟨⟨dd,rr,rfl,hdd,hrr,heq⟩,rfl⟩
     have HEQ:=Lib.hid heq
     clear heq
     go_wp2_with fail
     go_roundw
     case rel=>exact vR.step qU HN.out zo.out ym.out HV.out mL.out nI.out (by simp [List.getD,uX.out]) (by simp [List.getD,EU.out]) hdd hrr HEQ.out
     case measure=>simp [intOf];omega
    ·have Iu:Hid ((limbs b).getD k 0=0):=by show _=_;rw [List.getD,List.getElem?_eq_none (by rw [HMM.out];omega)];rfl
     go_wp2_with fail
     refine (yk x 0 r _ kf (by omega) (by omega)).mono ?_
     rintro e w2 ⟨⟨dd,rr,rfl,hdd,hrr,heq⟩,rfl⟩
     have HEQ:=Lib.hid heq
     clear heq
     go_wp2_with fail
     go_roundw
     case rel=>exact vR.step qU HN.out zo.out ym.out HV.out mL.out nI.out (by simp [List.getD,uX.out]) Iu.out hdd hrr HEQ.out
     case measure=>simp [intOf];omega
   ·obtain rfl:k=n':=by omega
    go_wp2_with fail
    have h2:=mL.out
    rw [List.drop_of_length_le (Nat.le_of_eq HN.out),List.append_nil] at h2
    refine (cT _ k qc ds _ (Rd.own h2) ym.out).mono ?_
    rintro e w2 ⟨⟨s,hs,rfl,hls⟩,rfl⟩
    have HLS:=Lib.hid hls
    clear hls
    go_wp2_with fail
    have hval:aq ds=a - b:=by
     have h1:=HV.out
     rw [bm (Nat.le_of_eq HN.out),bm (by rw [HMM.out];exact hmn),au,au] at h1
     have h3:=iR ym.out
     rw [zo.out] at h3
     have:r=0:=by
      rcases Nat.eq_zero_or_pos r with h | h
      ·exact h
      ·have:r=1:=by omega
       subst this
       omega
     subst this
     omega
    refine bu.out _ _ ⟨.inr ⟨by omega,.slice qp s qc,rfl,?_⟩,nI.out⟩
    have h3:=Own.limbs h2 hs HLS.out
    have e:(limbs (aq ds)).length=s:=by rw [HLS.out,List.length_take,zo.out];omega
    rw [hval] at h3 e
    rw [e];exact h3
end Go.Proofs.YtabalinjfgcfeaaGreat
namespace Go.Proofs.YtabalinjfgcfeaaGreat
open Go.RowKit
def ib (w:World) (v:Value) (rows:List (List Nat)):Prop:=
 ∃ vs:List Value,Rd w 1 v rows.length vs∧∀ (i:Nat) (xs:List Nat),rows[i]? =some xs→∃ u,vs[i]? =some u∧Rd w 1 u xs.length (ints .u32 xs)
theorem ib.below {w w':World} {v:Value} {rows:List (List Nat)} (h:ib w v rows) (hb:Below w.heap.size w w'):ib w' v rows:=by
 obtain ⟨vs,h1,h2⟩:=h
 refine ⟨vs,h1.below hb,fun i xs hi=> ?_⟩
 obtain ⟨u,hu,hr⟩:=h2 i xs hi
 exact ⟨u,hu,hr.below hb⟩
theorem ib.at {w:World} {p:Option Addr} {n c k:Nat} {rows:List (List Nat)} (h:ib w (.slice p n c) rows) (hk:k < rows.length):
  ∃ b off u xs,p=some ⟨b,off,none⟩∧rows[k]? =some xs∧w.cell? ⟨b,off + k,none⟩=some u∧Rd w 1 u xs.length (ints .u32 xs):=by
 obtain ⟨vs,⟨p',c',hv,_,_,h3,h4⟩,h2⟩:=h
 simp only [Value.slice.injEq] at hv
 obtain ⟨rfl,rfl,rfl⟩:=hv
 obtain ⟨b,off,hp,hc⟩:=h4 (by omega)
 obtain ⟨u,hu,hr⟩:=h2 k _ (List.getElem?_eq_getElem hk)
 exact ⟨b,off,u,_,hp,List.getElem?_eq_getElem hk,hc k u hu,hr⟩
theorem ib.form {w:World} {v:Value} {rows:List (List Nat)} (h:ib w v rows):∃ p c,v=.slice p rows.length c∧rows.length≤c∧c≤9223372036854775807:=by
 obtain ⟨vs,h1,_⟩:=h
 obtain ⟨p,c,hv,h2,h3,_⟩:=h1.form
 unfold maxLen at h3
 exact ⟨p,c,hv,h2,by omega⟩
theorem pM {q:Nat} (h:q < 4294967296):(q:Int) % 4294967296=q:=by omega
theorem vS {n:Nat} (h:n < 32):2 ^ n < 4294967296:=by
 have:=Nat.pow_lt_pow_right (show 1 < 2 by omega) h
 omega
theorem tK (x n:Nat) (hn:n < 32):(limbs (x * 2 ^ n)).length≤(limbs x).length + 1:=by
 apply gz
 rw [Nat.pow_succ]
 exact Nat.mul_lt_mul_of_lt_of_le (l9 x) (Nat.le_of_lt (vS hn)) (by omega)
set_option maxRecDepth 100000 in
set_option maxHeartbeats 400000 in
theorem IJ (va:Value) (m n x:Nat) (w:World) (hr:Rd w 1 va m (ints .u32 (limbs x))) (hm:m≤1073741824) (hn:n < 32):
  Calls Tryz.prog 154 #[va,.int .i64 (n:Int)] w fun e w'=>∃ v',e=.returned v'∧Rd w' 1 v' (limbs (x * 2 ^ n)).length (ints .u32 (limbs (x * 2 ^ n)))∧Below w.heap.size w w':=by
 obtain ⟨p,c,rfl,eR,eT,eu⟩:=hr.u32
 have Hr:=Lib.hid hr
 have HX:=Lib.hid eu
 clear eu hr
 by_cases h0:n=0
 ·subst h0
  refine aO fun R' bu=> ?_
  go_enter Tryz.func154,Tryz.ntmps154
  go_wp2
  refine bu.out _ _ ⟨_,rfl,?_,Below.refl _ _⟩
  have:=Hr.out
  rw [Nat.pow_zero,Nat.mul_one,HX.out];exact this
 ·have hnb:((n:Int) == 0)=false:=by rw [beq_eq_false_iff_ne];omega
  refine aO fun R' bu=> ?_
  go_enter Tryz.func154,Tryz.ntmps154
  have iM:=vS hn
  have hpe:(2:Int) ^ n % 4294967296=((2 ^ n:Nat):Int):=by
   have:(2:Int) ^ n=((2 ^ n:Nat):Int):=by simp
   rw [this];exact pM iM
  have HP:=Lib.hid hpe
  clear hpe
  go_wp2_with fail
  rw [HP.out]
  refine (zt _ m (2 ^ n) (limbs x) _ Hr.out (ay x) hm iM).mono ?_
  rintro e w1 ⟨v',rfl,aI,hb⟩
  rw [au] at aI
  go_wp2
  exact bu.out _ _ ⟨_,rfl,Rd.own aI,hb⟩
set_option maxRecDepth 100000 in
set_option maxHeartbeats 400000 in
theorem Gl (va:Value) (m n:Nat) (xs:List Nat) (w:World) (hr:Rd w 1 va m (ints .u32 xs)) (hx:bU xs) (hm:m≤1073741824) (hn:n < 32):
  Calls Tryz.prog 155 #[va,.int .i64 (n:Int)] w fun e w'=>(∃ v' k rs,e=.returned v'∧k≤1073741824∧Rd w' 1 v' k (ints .u32 rs)∧bU rs∧aq rs=aq xs / 2 ^ n)∧Below w.heap.size w w':=by
 obtain ⟨p,c,rfl,eR,eT,eu⟩:=hr.u32
 have Hr:=Lib.hid hr
 have HX:=Lib.hid eu
 have HL:=Lib.hid hx
 clear eu hr hx
 by_cases h0:n=0
 ·subst h0
  refine aO fun R' bu=> ?_
  go_enter Tryz.func155,Tryz.ntmps155
  go_wp2
  exact bu.out _ _ ⟨⟨_,m,xs,rfl,hm,Hr.out,HL.out,by rw [Nat.pow_zero,Nat.div_one]⟩,Below.refl _ _⟩
 ·have hnb:((n:Int) == 0)=false:=by rw [beq_eq_false_iff_ne];omega
  refine aO fun R' bu=> ?_
  go_enter Tryz.func155,Tryz.ntmps155
  have iM:=vS hn
  have ma:2 ^ n≠0:=by have:=Nat.pow_pos (n:=n) (show 0 < 2 by omega);omega
  have hpe:(2:Int) ^ n % 4294967296=((2 ^ n:Nat):Int):=by
   have:(2:Int) ^ n=((2 ^ n:Nat):Int):=by simp
   rw [this];exact pM iM
  have HP:=Lib.hid hpe
  have HPP:=Lib.hid ma
  clear hpe ma
  go_wp2_with fail
  rw [HP.out]
  refine (qV _ m (2 ^ n) xs _ Hr.out HL.out hm iM).mono ?_
  rintro e w1 ⟨⟨h,_⟩ | ⟨_,v',rfl,aI⟩,hb⟩
  ·exact absurd h HPP.out
  ·have HO:=Lib.hid aI
   have hlen:(limbs (aq xs / 2 ^ n)).length≤m:=Nat.le_trans (ct (Nat.div_le_self _ _)) (by rw [←HX.out];exact ia HL.out)
   clear aI
   go_wp2
   exact bu.out _ _ ⟨⟨_,_,_,rfl,Nat.le_trans hlen hm,Rd.own HO.out,ay _,au _⟩,hb⟩
set_option maxRecDepth 100000 in
set_option maxHeartbeats 400000 in
theorem IK (n:Nat) (w:World) (hn:n≤2147483648):
  Calls Tryz.prog 156 #[.slice none 0 0,.int .i64 (n:Int)] w fun e w'=>∃ v',e=.returned v'∧w'.ownsRow w.heap.size 117 1 v' 0 []∧Below w.heap.size w w':=by
 by_cases h0:n=0
 ·subst h0
  refine aO fun R' bu=> ?_
  go_enter Tryz.func156,Tryz.ntmps156
  go_wp2
  exact bu.out _ _ ⟨_,rfl,World.ownsRow_nil _ _ _ _,Below.refl _ _⟩
 ·obtain ⟨i0,hi,kC,kZ,lJ⟩:=info_parts iV
  obtain ⟨C,hC⟩:∃ C,C=grownCap w n 0 117:=⟨_,rfl⟩
  have HC:=Lib.hid hC
  have hap0:=Lib.run_append_nil_zeros (P:=Tryz.prog) w 22 3 22 117 i0 (.int .u32 0) .i64 .i64 Tryz.underlying22 Tryz.underlying3 hi kC n (by omega) (by omega) (by omega) (by rw [lJ];omega)
  rw [←hC] at hap0
  have HAP:=Lib.hid hap0
  have hCn:n≤C:=by rw [hC];exact grownCap_ge w n 0 _
  have hCm:C≤9223372036854775807:=by
   have:=grownCap_le_maxLen w n 0 117 (by unfold maxLen;omega)
   unfold maxLen at this
   omega
  have lC:0 < n:=by omega
  clear hC h0 hap0
  refine aO fun R' bu=> ?_
  go_enter Tryz.func156,Tryz.ntmps156
  go_wp2_with (at_builtin;refine wpList_append_run rfl _ _ 22 3 rfl _ _ rfl rfl _ _ HAP.out ?_)
  refine bu.out _ _ ⟨_,rfl,?_,?_⟩
  ·exact World.ownsRow_made w.drew _ C (Nat.le_refl _) (by unfold maxLen;omega) (by rw [Array.size_append,size_zeroCells,size_zeroCells];show n * 1 + (C - n) * 1=C * 1;omega)
  ·exact (Below.drew (Below.refl _ _)).alloc (Nat.le_refl _) _
def flat (rows:List (List Nat)):List Nat:=rows.flatten
theorem sL (rows:List (List Nat)) (xs:List Nat):flat (rows++[xs])=flat rows++xs:=by simp [flat]
theorem mc (rows:List (List Nat)) (k:Nat):(flat (rows.take k)).length≤(flat rows).length:=by
 conv=>rhs;rw [←List.take_append_drop k rows]
 simp only [flat,List.flatten_append,List.length_append]
 omega
def CatA (rows:List (List Nat)) (sv iv:Value):Prop:=∃ k,k≤rows.length∧iv=.int .i64 (k:Int)∧sv=.int .i64 ((flat (rows.take k)).length:Int)
def CatB (w:World) (B:Nat) (rows:List (List Nat)) (ov iv:Value) (wr:World):Prop:=
 ∃ k,k≤rows.length∧iv=.int .i64 (k:Int)∧wr.ownsRow B 117 1 ov (flat (rows.take k)).length (ints .u32 (flat (rows.take k)))∧Below B w wr
set_option maxRecDepth 100000 in
set_option maxHeartbeats 1000000 in
theorem Ds (va:Value) (rows:List (List Nat)) (w:World) (hr:ib w va rows) (hn:(flat rows).length≤2147483648):
  Calls Tryz.prog 153 #[va] w fun e w'=>∃ v',e=.returned v'∧w'.ownsRow w.heap.size 117 1 v' (flat rows).length (ints .u32 (flat rows))∧Below w.heap.size w w':=by
 obtain ⟨p,c,rfl,eR,eT⟩:=hr.form
 have Hr:=Lib.hid hr
 obtain ⟨i0,hi,kC,kZ,lJ⟩:=info_parts iV
 obtain ⟨B,hB⟩:∃ B,B=w.heap.size:=⟨_,rfl⟩
 have HB:=Lib.hid hB
 obtain ⟨N,hN⟩:∃ N,N=rows.length:=⟨_,rfl⟩
 rw [←hN] at eR ⊢
 have HN:=Lib.hid hN
 rw [←hB]
 clear hr hB hN
 refine aO fun R' bu=> ?_
 go_enter Tryz.func153,Tryz.ntmps153
 go_wp2
 go_loop [3,11] (fun sv iv=>CatA rows sv iv) (fun _ iv=>N - (intOf iv).toNat)
 case atStart=>exact ⟨0,Nat.zero_le _,rfl,by simp [flat]⟩
 case round=>
  obtain ⟨k,hk,rfl,rfl⟩:=hrel
  rw [←HN.out] at hk
  have sG:=mc rows k
  by_cases qU:k < N
  ·obtain ⟨b1,o1,u,xs,rfl,gf,pX,hru⟩:=Hr.out.at (k:=k) (by rw [←HN.out];exact qU)
   obtain ⟨q,d,rfl,_,_,_⟩:=hru.u32
   have hfs:(flat (rows.take (k + 1))).length=(flat (rows.take k)).length + xs.length:=by rw [bq gf,sL,List.length_append]
   have gF:=mc rows (k + 1)
   have HFS:=Lib.hid hfs
   rw [hfs] at gF
   clear gf hru hfs
   generalize (flat (rows.take k)).length=L at *
   go_wp2
   go_round
   case rel=>exact ⟨k + 1,by rw [←HN.out];omega,by go_num,by rw [HFS.out];go_num⟩
   case measure=>simp [intOf];omega
  ·obtain rfl:k=N:=by omega
   have hL:Hid (flat (rows.take k)=flat rows):=by show _=_;rw [List.take_of_length_le (by rw [HN.out];exact Nat.le_refl _)]
   rw [hL.out]
   rw [hL.out] at sG
   generalize hLL:(flat rows).length=L at hn sG
   have HLL:=Lib.hid hLL
   rw [hLL] at bu
   clear hLL
   go_wp2_with fail
   refine (IK L _ (by omega)).mono ?_
   rintro e w1 ⟨ov,rfl,aI,hb⟩
   rw [←HB.out] at aI hb
   have HO:=Lib.hid aI
   have gA:=Lib.hid hb
   clear aI hb
   go_wp2_with fail
   go_loopw [6,27] (fun ov iv wr=>CatB w B rows ov iv wr) (fun _ iv _=>k - (intOf iv).toNat)
   case atStart=>exact ⟨0,Nat.zero_le _,rfl,by simpa [flat,ints] using HO.out,gA.out⟩
   case round=>
    obtain ⟨j,hj,rfl,aI,hb⟩:=hrel
    have mL:=Lib.hid aI
    have nI:=Lib.hid hb
    rw [←HN.out] at hj
    clear aI hb
    by_cases hjn:j < k
    ·obtain ⟨b1,o1,u,xs,rfl,gf,pX,hru⟩:=((Hr.out.below (by have:=nI.out;rwa [HB.out] at this)).at (k:=j) (by rw [←HN.out];exact hjn))
     have hfs:(flat (rows.take (j + 1))).length=(flat (rows.take j)).length + xs.length:=by rw [bq gf,sL,List.length_append]
     have gF:=mc rows (j + 1)
     have HFS:=Lib.hid hfs
     have hsz:(flat (rows.take j)).length + xs.length≤2147483648:=by have:=HLL.out;omega
     have uX:=Lib.hid gf
     have HRU:=Lib.hid hru
     have uW:B≤wr.heap.size:=by have:=nI.out.size;have:=HB.out;omega
     clear gf hru hfs gF
     go_wp2_with (at_builtin;refine iJ _ rfl _ _ 22 rfl B 117 i0 (.int .u32 0) 1 4 Tryz.underlying22 hi kC kZ lJ rfl (by decide) _ _ _ rfl mL.out _ xs.length _ rfl HRU.out (lG _ _) (by unfold maxLen;omega) (by omega) uW ?_;intro v' w2 jT hgr2)
     have IL:Hid (w2.ownsRow B 117 1 v' (flat (rows.take (j + 1))).length (ints .u32 (flat (rows.take (j + 1))))):=by
      show World.ownsRow ..
      rw [HFS.out,bq uX.out,sL,gL];exact jT
     have H9:Hid (Below B w w2):=Below.IA nI.out hgr2 mL.out uW (Nat.le_refl _)
     clear jT hgr2
     go_wp2_with fail
     go_roundw
     case rel=>exact ⟨j + 1,by rw [←HN.out];omega,by go_num,IL.out,H9.out⟩
     case measure=>simp [intOf];omega
    ·obtain rfl:j=k:=by omega
     go_wp2_with fail
     refine bu.out _ _ ⟨_,rfl,?_,nI.out⟩
     have:=mL.out
     rw [hL.out,HLL.out] at this
     exact this
end Go.Proofs.YtabalinjfgcfeaaGreat
namespace Go.Proofs.YtabalinjfgcfeaaGreat
open Go.RowKit
theorem ib.two {w:World} {g:Nat} {u v:Value} {xs ys:List Nat} {t:Nat} {fr:Nat×Nat} (h:w.heap[g]? =some (.cells #[u,v] t fr)) (hx:Rd w 1 u xs.length (ints .u32 xs)) (hy:Rd w 1 v ys.length (ints .u32 ys)):
  ib w (.slice (some ⟨g,0,none⟩) 2 2) [xs,ys]:=by
 refine ⟨[u,v],⟨_,2,rfl,Nat.le_refl _,by simp [maxLen],rfl,fun _=>⟨g,0,rfl,fun j z hj=> ?_⟩⟩,fun i zs hi=> ?_⟩
 ·match j,hj with
  | 0,hj=>simp at hj;subst hj;simp [World.cell?,h]
  | 1,hj=>simp at hj;subst hj;simp [World.cell?,h]
 ·match i,hi with
  | 0,hi=>simp at hi;subst hi;exact ⟨u,rfl,hx⟩
  | 1,hi=>simp at hi;subst hi;exact ⟨v,rfl,hy⟩
theorem EX {w:World} {o:Obj} {k:Nat} (h:k=w.heap.size):(w.alloc o).heap[k]? =some o:=by subst h;exact heap_alloc_new w o
theorem ordA {w w2 w3:World} {z o:Obj} (bl:Below (w.alloc z).drew.heap.size (w.alloc z).drew w2) (cC:Below (w2.alloc o).heap.size (w2.alloc o) w3):Below w.heap.size w w3∧w.heap.size≤(w2.alloc o).heap.size:=by
 have h1:=bl.size
 simp at h1
 have h0:Below w.heap.size w (w.alloc z).drew:=((Below.refl w.heap.size w).alloc (Nat.le_refl _) z).drew
 have h2:Below w.heap.size w w2:=h0.trans (bl.mono (by simp))
 exact ⟨(h2.alloc (by omega) o).trans (cC.mono (by simp;omega)),by simp;omega⟩
theorem ordB {w w2 w3:World} {z o:Obj} (bl:Below w.drew.heap.size w.drew w2) (cC:Below ((w2.alloc z).alloc o).heap.size ((w2.alloc z).alloc o) w3):Below w.heap.size w w3∧w.heap.size≤((w2.alloc z).alloc o).heap.size:=by
 have h1:=bl.size
 simp at h1
 have h2:Below w.heap.size w w2:=(Below.refl w.heap.size w).drew.trans bl
 exact ⟨((h2.alloc (by omega) z).alloc (by simp;omega) o).trans (cC.mono (by simp;omega)),by simp;omega⟩
theorem qW (w:World) (q:Nat) (h:q≤9223372036854775807):Rd (w.alloc (.cells (madeCells #[Value.int .u32 0] q) 117)) 1 (.slice (some ⟨w.heap.size,0,none⟩) q q) (List.replicate q 0).length (ints .u32 (List.replicate q 0)):=by
 have h1:=World.ownsRow_lit (base:=0) (size:=1) (e:=117) w (madeCells (Value.int .u32 0).cells (q * 1)) q (Nat.zero_le _) (by unfold maxLen;omega) (size_madeCells _ _)
 have h2:=Rd.own (Own.made h1)
 rw [List.length_replicate]
 rw [Nat.mul_one,List.nil_append] at h2
 exact h2
set_option maxRecDepth 100000 in
set_option maxHeartbeats 1000000 in
theorem Dt (p:Option Addr) (m c n x:Nat) (xs:List Nat) (w:World) (hr:Rd w 1 (.slice p m c) m (ints .u32 xs)) (hx:bU xs) (hv:aq xs=x) (hm:m≤1073741824) (gK:x≠0) (hn:n≤65536):
  Calls Tryz.prog 145 #[.slice p m c,.int .i64 (n:Int)] w fun e w'=>∃ v',e=.returned (.tuple #[v',.int .i64 0])∧w'.ownsRow w.heap.size 117 1 v' (limbs (x * 2 ^ n)).length (ints .u32 (limbs (x * 2 ^ n)))∧Below w.heap.size w w':=by
 obtain ⟨p',c',hv',eR,eT,eu⟩:=hr.u32
 simp only [Value.slice.injEq,true_and] at hv'
 obtain ⟨rfl,rfl⟩:=hv'
 have Hr:=Lib.hid hr
 have HX:=Lib.hid eu
 have HL:=Lib.hid hx
 have HV:=Lib.hid hv
 obtain ⟨i0,hi,kC,kZ,lJ⟩:=info_parts iV
 have hmk:∀ W:World,(Instr.makeSlice 22 (.int .i64 ((n:Int) / 32)) (.int .i64 ((n:Int) / 32))).run Tryz.prog W=.ok (.slice (some ⟨W.heap.size,0,none⟩) (n / 32) (n / 32)) (W.alloc (.cells (madeCells (Value.int .u32 0).cells (n / 32 * 1)) 117)):=fun W=>by
  have:=run_make (P:=Tryz.prog) W 22 117 i0 (.int .u32 0) Tryz.underlying22 hi kC .i64 .i64 ((n:Int) / 32) ((n:Int) / 32) (by omega) (Int.le_refl _) (by rw [lJ];omega) (by omega)
  rw [kZ,show ((n:Int) / 32).toNat=n / 32 by omega] at this
  exact this
 clear eu hr hx hv hi kC kZ lJ
 refine aO fun R' bu=> ?_
 go_enter Tryz.func145,Tryz.ntmps145
 go_wp2_with fail
 refine (cT p m c xs _ Hr.out HL.out).mono ?_
 rintro e w1 ⟨⟨r,hrm,rfl,C7⟩,rfl⟩
 have pK:Hid ((limbs x).length=r):=by
  show _=_
  rw [←HV.out,C7,List.length_take,HX.out];omega
 have sD:=Hr.out.limbs hrm C7
 rw [HV.out] at sD
 have HRD:=Lib.hid sD
 clear C7 sD
 have xR:0 < r:=by rw [←pK.out];exact de gK
 have yp:∀ W:World,Rd W 1 (.slice p r c) r (ints .u32 (limbs x))→Calls Tryz.prog 154 #[.slice p r c,.int .i64 ((n:Int) % 32)] W fun e w'=>∃ v',e=.returned v'∧Rd w' 1 v' (limbs (x * 2 ^ (n % 32))).length (ints .u32 (limbs (x * 2 ^ (n % 32))))∧Below W.heap.size W w':=fun W h=>by
  have:=IJ (.slice p r c) r (n % 32) x W h (by omega) (Nat.mod_lt _ (by omega))
  rwa [show ((n % 32:Nat):Int)=(n:Int) % 32 by omega] at this
 have HLEFT:=Lib.hid yp
 clear yp
 have sG:(flat [List.replicate (n / 32) 0,limbs (x * 2 ^ (n % 32))])=limbs (x * 2 ^ n):=by
  have h1:=AX (x:=x * 2 ^ (n % 32)) (n / 32) (Nat.mul_ne_zero gK (by have:=Nat.pow_pos (n:=n % 32) (show 0 < 2 by omega);omega))
  simp only [flat,List.flatten_cons,List.flatten_nil,List.append_nil]
  rw [h1,Nat.mul_assoc,AR,←Nat.pow_add,Nat.mod_add_div]
 have hfn:(flat [List.replicate (n / 32) 0,limbs (x * 2 ^ (n % 32))]).length≤2147483648:=by
  simp only [flat,List.flatten_cons,List.flatten_nil,List.append_nil,List.length_append,List.length_replicate]
  have:=tK x (n % 32) (Nat.mod_lt _ (by omega))
  rw [pK.out] at this
  omega
 have HFL:=Lib.hid sG
 have HFN:=Lib.hid hfn
 clear sG hfn gK
 go_wp2_with fail
 have uY:IntKind.i64.wrap ((n:Int) / 32)=(n:Int) / 32:=IntWalk.i64_in _ (by omega)
 have hw2:(n:Int).tmod 32=(n:Int) % 32:=Int.tmod_eq_emod_of_nonneg (by omega)
 go_region_with (first
  | (go_at_call 154;refine (HLEFT.out _ (by first | exact HRD.out | exact Rd.alloc (Rd.drew HRD.out) _)).mono ?_;rintro e w2 ⟨v2,rfl,hrd2,bl⟩;obtain ⟨p2,c2,rfl,_,_,_⟩:=hrd2.form)
  | (go_at_call 153;refine (Ds _ [List.replicate (n / 32) 0,limbs (x * 2 ^ (n % 32))] _ (by first | exact ib.two (heap_alloc_new _ _) (Rd.alloc (Rd.below (Rd.drew (qW _ _ (by omega))) bl) _) (Rd.alloc hrd2 _) | exact ib.two (EX (by simp)) (Rd.alloc (qW _ _ (by omega)) _) (Rd.alloc (Rd.alloc hrd2 _) _)) HFN.out).mono ?_;rintro e w3 ⟨v3,rfl,IM,cC⟩))
 all_goals
  go_wp2
  go_ret2
  refine bu.out _ _ ⟨v3,rfl,?_,?_⟩
  ·rw [HFL.out] at IM
   first | exact Own.mono IM (ordA bl cC).2 | exact Own.mono IM (ordB bl cC).2
  ·first | exact (ordA bl cC).1 | exact (ordB bl cC).1
theorem sM {x m k:Nat} (h:(limbs x).length≤m) (hk:32 * m≤k):x / 2 ^ k=0:=by
 apply Nat.div_eq_of_lt
 have h1:=l9 x
 have h2:=Nat.pow_le_pow_right (show 0 < 4294967296 by omega) h
 rw [AR] at h1 h2
 have h3:=Nat.pow_le_pow_right (show 0 < 2 by omega) hk
 rw [AR] at h2
 omega
set_option maxRecDepth 100000 in
set_option maxHeartbeats 1000000 in
theorem sO (va:Value) (m x:Nat) (n:Int) (xs:List Nat) (w:World) (hr:Rd w 1 va m (ints .u32 xs)) (hx:bU xs) (hv:aq xs=x) (hm:m≤1073741824) (lC: -9223372036854775808≤n) (sH:n≤9223372036854775807):
  Calls Tryz.prog 145 #[va,.int .i64 n] w fun e w'=>((x≠0∧65536 < n∧e=.returned (.tuple #[.slice none 0 0,.int .i64 3]))∨
   (¬ (x≠0∧65536 < n)∧∃ v',e=.returned (.tuple #[v',.int .i64 0])∧w'.ownsRow w.heap.size 117 1 v' (limbs (fZ x n)).length (ints .u32 (limbs (fZ x n)))))∧Below w.heap.size w w':=by
 obtain ⟨p,c,rfl,eR,eT,eu⟩:=hr.u32
 have Hr:=Lib.hid hr
 have HX:=Lib.hid eu
 have HL:=Lib.hid hx
 have HV:=Lib.hid hv
 clear eu hr hx hv
 by_cases uD:x≠0∧0≤n∧n≤65536
 ·obtain ⟨gK,h0,h1⟩:=uD
  obtain ⟨k,rfl⟩:=Int.eq_ofNat_of_zero_le h0
  refine (Dt p m c k x xs w Hr.out HL.out HV.out hm gK (by omega)).mono ?_
  rintro e w' ⟨v',rfl,aI,hb⟩
  refine ⟨.inr ⟨by omega,v',rfl,?_⟩,hb⟩
  have:fZ x (k:Int)=x * 2 ^ k:=by simp [fZ]
  rw [this];exact aI
 ·refine aO fun R' bu=> ?_
  go_enter Tryz.func145,Tryz.ntmps145
  go_wp2_with fail
  refine (cT p m c xs _ Hr.out HL.out).mono ?_
  rintro e w1 ⟨⟨r,hrm,rfl,C7⟩,rfl⟩
  have pK:(limbs x).length=r:=by
   rw [←HV.out,C7,List.length_take,HX.out];omega
  have sD:=Hr.out.limbs hrm C7
  rw [HV.out] at sD
  have HRD:=Lib.hid sD
  have IP:=Lib.hid pK
  clear C7 sD
  by_cases gK:x=0
  ·have xR:r=0:=by rw [←pK,gK,bB];rfl
   have HX0:=Lib.hid gK
   have Gj:((r:Int) == 0)=true:=by rw [beq_iff_eq];omega
   clear gK xR pK uD
   go_wp2_with fail
   refine bu.out _ _ ⟨.inr ⟨fun h=>h.1 HX0.out,.slice none 0 0,rfl,?_⟩,Below.refl _ _⟩
   have:fZ x n=0:=by simp [fZ,HX0.out]
   rw [this,bB];exact World.ownsRow_nil _ _ _ _
  ·have xR:0 < r:=by rw [←pK];exact de gK
   have Gj:((r:Int) == 0)=false:=by rw [beq_eq_false_iff_ne];omega
   clear pK
   by_cases hbig:65536 < n
   ·go_wp2_with fail
    exact bu.out _ _ ⟨.inl ⟨gK,hbig,rfl⟩,Below.refl _ _⟩
   ·have hneg:n < 0:=by
     by_cases h:n < 0
     ·exact h
     ·exact absurd ⟨gK,by omega,by omega⟩ uD
    clear uD
    have HX0:=Lib.hid gK
    clear gK
    have hmul:IntKind.i64.wrap (-32 * (r:Int))= -32 * (r:Int):=IntWalk.i64_in _ (by omega)
    by_cases me:n≤-32 * (r:Int)
    ·go_wp2_with fail
     refine bu.out _ _ ⟨.inr ⟨fun h=>by omega,.slice none 0 0,rfl,?_⟩,Below.refl _ _⟩
     have:fZ x n=0:=by
      unfold fZ
      rw [if_neg (by omega)]
      exact sM (m:=r) (by rw [IP.out];exact Nat.le_refl _) (by omega)
     rw [this,bB];exact World.ownsRow_nil _ _ _ _
    ·obtain ⟨k,rfl⟩:∃ k:Nat,n= -(k:Int):=⟨(-n).toNat,by omega⟩
     obtain ⟨b,off,y,rfl,_,_,_⟩:=HRD.out.cellAt (k:=0) xR
     have hkr:k / 32 < r:=by omega
     have hneq:¬ (c=k / 32):=by omega
     have xV:0 < k:=by omega
     have AZ:Rd w 1 (.slice (some ⟨b,off + k / 32,none⟩) (r - k / 32) (c - k / 32)) (r - k / 32) (ints .u32 ((limbs x).drop (k / 32))):=by
      obtain ⟨p',c',hv',h1,h2,h3,h4⟩:=HRD.out
      simp only [Value.slice.injEq,true_and] at hv'
      obtain ⟨rfl,rfl⟩:=hv'
      refine ⟨_,_,rfl,by omega,by unfold maxLen at h2 ⊢;omega,by rw [tI,List.length_drop,IP.out];omega,fun _=>⟨b,off + k / 32,rfl,fun j u hj=> ?_⟩⟩
      obtain ⟨b',aR,hp,hc⟩:=h4 (by omega)
      simp only [Option.some.injEq,Addr.mk.injEq,and_true] at hp
      obtain ⟨rfl,rfl⟩:=hp
      rw [←Gd,List.getElem?_drop] at hj
      have:=hc _ _ hj
      rwa [←Nat.add_assoc] at this
     have HDR:=Lib.hid AZ
     clear AZ
     have hq1:0≤(k:Int) / 32:=by omega
     have uZ:(k:Int) / 32 < (r:Int):=by omega
     go_wp2_with fail
     rw [show (k:Int) % 32=((k % 32:Nat):Int) by omega]
     refine (Gl _ _ (k % 32) _ _ HDR.out ((ay x).drop _) (by omega) (Nat.mod_lt _ (by omega))).mono ?_
     rintro e w1 ⟨⟨v1,m1,rs,rfl,hm1,hrd1,zy,AG⟩,aV⟩
     obtain ⟨p1,c1,rfl,_,_,qX⟩:=hrd1.u32
     have HR1:=Lib.hid hrd1
     have HV1:=Lib.hid AG
     have HRL:=Lib.hid qX
     clear hrd1 AG qX
     go_wp2_with fail
     refine (cT p1 m1 c1 rs _ HR1.out zy).mono ?_
     rintro e w2 ⟨⟨r2,ju,rfl,hlr2⟩,rfl⟩
     have hml2:Hid ((limbs (aq rs)).length=r2):=by show _=_;rw [hlr2,List.length_take,HRL.out];omega
     have HR2:=Lib.hid (HR1.out.limbs ju hlr2)
     clear hlr2
     go_wp2_with fail
     refine (iK _ r2 _ _ HR2.out (by omega)).mono ?_
     rintro e w2 ⟨v2,rfl,aI,bl⟩
     have hval:fZ x (-(k:Int))=aq rs:=by
      unfold fZ
      rw [if_neg (by omega),HV1.out,uE x (k / 32) (by rw [IP.out];omega),Nat.div_div_eq_div_mul,AR,←Nat.pow_add,Nat.div_add_mod]
      simp
     go_wp2_with fail
     refine bu.out _ _ ⟨.inr ⟨fun h=>by omega,v2,rfl,?_⟩,aV.trans (bl.mono aV.size)⟩
     rw [hval,hml2.out]
     exact Own.mono aI aV.size
end Go.Proofs.YtabalinjfgcfeaaGreat
namespace Go.Proofs.YtabalinjfgcfeaaGreat
theorem A0 {xs:List Nat} {j o v:Nat} (h:xs[j]? =some o):aq (xs.set j v) + 4294967296 ^ j * o=aq xs + 4294967296 ^ j * v:=by
 obtain ⟨hl,he⟩:=List.getElem?_eq_some_iff.1 h
 have h1:xs=xs.take j++o::xs.drop (j + 1):=by rw [←he,←List.drop_eq_getElem_cons hl,List.take_append_drop]
 have h2:xs.set j v=xs.take j++v::xs.drop (j + 1):=by
  conv=>lhs;rw [h1]
  rw [List.set_append_right _ _ (by rw [List.length_take];omega)]
  rw [List.length_take,Nat.min_eq_left (by omega),Nat.sub_self];rfl
 have e1:aq xs=aq (xs.take j) + 4294967296 ^ j * (o + 4294967296 * aq (xs.drop (j + 1))):=by
  conv=>lhs;rw [h1]
  rw [dY,List.length_take,Nat.min_eq_left (by omega),fh]
 have e2:aq (xs.set j v)=aq (xs.take j) + 4294967296 ^ j * (v + 4294967296 * aq (xs.drop (j + 1))):=by
  rw [h2,dY,List.length_take,Nat.min_eq_left (by omega),fh]
 rw [e1,e2,Nat.mul_add,Nat.mul_add]
 omega
theorem bU.set {xs:List Nat} (h:bU xs) {v:Nat} (hv:v < 4294967296) (j:Nat):bU (xs.set j v):=fun y hy=>by
 rcases List.mem_or_eq_of_mem_set hy with h1 | h1
 ·exact h y h1
 ·rw [h1];exact hv
theorem vT (k:Nat):aq (List.replicate k 0)=0:=gE _ k
theorem vU {xs:List Nat} (k:Nat) (hk:k≤xs.length):aq xs=aq (xs.take k) + 4294967296 ^ k * aq (xs.drop k):=iQ _ xs k hk
theorem pO {xs:List Nat} {k x:Nat} (h:xs[k]? =some x):aq (xs.drop k)=x + 4294967296 * aq (xs.drop (k + 1)):=pJ h
theorem A1 {os:List Nat} {i k x y o c s S Y:Nat} (ho:os[i + k]? =some o) (hs:s=x * y + o + c) (h:aq os + 4294967296 ^ (i + k) * c=S + 4294967296 ^ i * (x * Y)):
  aq (os.set (i + k) (s % 4294967296)) + 4294967296 ^ (i + (k + 1)) * (s / 4294967296)=S + 4294967296 ^ i * (x * (Y + 4294967296 ^ k * y)):=by
 have h1:=A0 (v:=s % 4294967296) ho
 have h2:4294967296 ^ (i + (k + 1))=4294967296 ^ (i + k) * 4294967296:=by rw [←Nat.add_assoc,Nat.pow_succ]
 have h3:4294967296 ^ (i + k) * s=4294967296 ^ (i + k) * (s % 4294967296) + 4294967296 ^ (i + k) * 4294967296 * (s / 4294967296):=by
  rw [Nat.mul_assoc,←Nat.mul_add,Nat.mod_add_div]
 have h4:4294967296 ^ (i + k) * s=4294967296 ^ (i + k) * (x * y) + 4294967296 ^ (i + k) * o + 4294967296 ^ (i + k) * c:=by rw [hs,Nat.mul_add,Nat.mul_add]
 have h5:4294967296 ^ i * (x * (Y + 4294967296 ^ k * y))=4294967296 ^ i * (x * Y) + 4294967296 ^ (i + k) * (x * y):=by
  rw [Nat.mul_add,Nat.mul_add,Nat.pow_add]
  congr 1
  rw [Nat.mul_left_comm x,Nat.mul_assoc]
 rw [h2,h5]
 omega
theorem qY {x y o c:Nat} (hx:x < 4294967296) (hy:y < 4294967296) (ho:o < 4294967296) (hc:c < 4294967296):x * y + o + c < 18446744073709551616:=by
 have h1:x * y≤4294967295 * 4294967295:=Nat.mul_le_mul (by omega) (by omega)
 omega
def gG (U V:Nat):Nat:=min 4294967295 (U / V)
theorem A2 {U V:Nat}:gG U V * V≤U:=Nat.le_trans (Nat.mul_le_mul_right _ (Nat.min_le_right _ _)) (Nat.div_mul_le_self U V)
theorem yq {U V t:Nat} (hV:0 < V) (ht:t≤4294967295) (h:t * V≤U):t≤gG U V:=by
 unfold gG
 rw [Nat.le_min]
 exact ⟨ht,(Nat.le_div_iff_mul_le hV).2 h⟩
theorem Du {p U V u b lu lb:Nat} (hp:0 < p) (hu:u=U * p + lu) (hlu:lu < p) (hb:b=V * p + lb) (C8:lb < p) (hV:4294967296≤V) (IQ:u < 4294967296 * b):
  u / b≤gG U V∧gG U V≤u / b + 1:=by
 have hV0:0 < V:=by omega
 have oH:0 < b:=by have:0 < V * p:=Nat.mul_pos hV0 hp;omega
 constructor
 ·refine yq hV0 ?_ ?_
  ·have:u / b < 4294967296:=by rw [Nat.div_lt_iff_lt_mul oH];exact IQ
   omega
  ·have h1:u / b * b≤u:=Nat.div_mul_le_self u b
   have h2:u / b * V * p≤U * p + lu:=by
    rw [hb] at h1
    rw [hu,Nat.mul_add,←Nat.mul_assoc] at h1
    rw [←hb,←hu] at h1
    have:u / b * V * p≤u:=by omega
    omega
   rcases Nat.lt_or_ge U (u / b * V) with h | h
   ·have h3:(U + 1) * p≤u / b * V * p:=Nat.mul_le_mul_right _ h
    rw [Nat.add_mul] at h3
    omega
   ·exact h
 ·have hg:=@A2 U V
  have hgB:gG U V≤4294967295:=Nat.min_le_left _ _
  generalize gG U V=q at hg hgB
  have h1:q * V * p≤U * p:=Nat.mul_le_mul_right _ hg
  have h2:q * lb≤4294967295 * lb:=Nat.mul_le_mul_right _ hgB
  have h3:q * b=q * V * p + q * lb:=by rw [hb,Nat.mul_add,←Nat.mul_assoc]
  have h4:4294967296 * p≤V * p:=Nat.mul_le_mul_right _ hV
  have h5:q * b < u + b:=by omega
  have h6:q < u / b + 2:=by
   have h7:u < (u / b + 1) * b:=by rw [Nat.add_mul];have e1:=Nat.div_add_mod u b;have e2:=Nat.mod_lt u oH;rw [Nat.mul_comm] at e1;omega
   have h8:q * b < (u / b + 2) * b:=by rw [Nat.add_mul];rw [Nat.add_mul] at h7;omega
   exact Nat.lt_of_mul_lt_mul_right h8
  omega
theorem Dv {B p a y q c r x np X Y D:Nat} (h:D + q * Y=X + p * (c + r)) (hx:a + B * np=x + (q * y + c) % B + r):
  (D + p * x) + q * (Y + p * y)=(X + p * a) + p * B * ((q * y + c) / B + np):=by
 have h1:=Nat.mod_add_div (q * y + c) B
 have h2:p * (a + B * np)=p * x + p * ((q * y + c) % B) + p * r:=by rw [hx,Nat.mul_add,Nat.mul_add]
 have h3:p * ((q * y + c) % B) + p * (B * ((q * y + c) / B))=p * (q * y) + p * c:=by rw [←Nat.mul_add,h1,Nat.mul_add]
 have h4:q * (Y + p * y)=q * Y + p * (q * y):=by rw [Nat.mul_add,Nat.mul_left_comm]
 have h5:p * B * ((q * y + c) / B + np)=p * (B * ((q * y + c) / B)) + p * (B * np):=by rw [Nat.mul_assoc,Nat.mul_add,Nat.mul_add]
 rw [Nat.mul_add] at h2 h
 rw [h4,h5]
 omega
end Go.Proofs.YtabalinjfgcfeaaGreat
namespace Go.Proofs.YtabalinjfgcfeaaGreat
open Go.RowKit
theorem tab_fin:∀ i:Fin 256,(Lib.len8tab[i.val]'(by have:=i.2;have:Lib.len8tab.size=256:=by decide +kernel
                                                    omega)).toNat=gS i.val:=by decide +kernel
theorem A3:Lib.len8tab.size=256:=by decide +kernel
theorem tab_at (i:Nat) (h:i < Lib.len8tab.size):(Lib.len8tab[i]'h).toNat=gS i:=tab_fin ⟨i,by rw [A3] at h;exact h⟩
theorem vV {t k:Nat} (h:2 ^ k≤t):gS t=k + gS (t / 2 ^ k):=by
 have hp:0 < 2 ^ k:=Nat.pow_pos (by omega)
 have hq:t / 2 ^ k≠0:=by
  have:=(Nat.le_div_iff_mul_le hp).2 (show 1 * 2 ^ k≤t by omega)
  omega
 have h1:=uS (t / 2 ^ k)
 have h2:=uT hq
 have h0:=qQ hq
 refine ER ?_ (.inr ?_)
 ·rw [Nat.pow_add,Nat.mul_comm]
  exact (Nat.div_lt_iff_lt_mul hp).1 h1
 ·rw [show k + gS (t / 2 ^ k) - 1=(gS (t / 2 ^ k) - 1) + k by omega,Nat.pow_add]
  exact (Nat.le_div_iff_mul_le hp).1 h2
theorem mf {i:Nat} (h:i < 256):gS i≤8:=pI (k:=8) h
set_option maxRecDepth 100000 in
set_option maxHeartbeats 4000000 in
theorem Gm (x:Int) (w:World) (h0:0≤x) (h1:x≤4294967295):
  Calls Tryz.prog 152 #[.int .u32 x] w fun e w'=>e=.returned (.int .i64 (gS x.toNat:Int))∧w=w':=by
 have hsz:(Lib.len8tab.size:Int)=256:=by rw [A3];rfl
 refine aO fun R' bu=> ?_
 go_enter Tryz.func152,Tryz.ntmps152
 go_wp2
 all_goals
  refine bu.out _ _ ⟨lH ?_,rfl⟩
  simp only [tab_at,wrap64]
 all_goals first
  | (have e:=vV (t:=x.toNat) (k:=24) (by omega)
     have b:=mf (i:=x.toNat / 2 ^ 24) (by omega)
     rw [show (x / 65536 / 256).toNat=x.toNat / 2 ^ 24 by omega]
     omega)
  | (have e:=vV (t:=x.toNat) (k:=16) (by omega)
     have b:=mf (i:=x.toNat / 2 ^ 16) (by omega)
     rw [show (x / 65536).toNat=x.toNat / 2 ^ 16 by omega]
     omega)
  | (have e:=vV (t:=x.toNat) (k:=8) (by omega)
     have b:=mf (i:=x.toNat / 2 ^ 8) (by omega)
     rw [show (x / 256).toNat=x.toNat / 2 ^ 8 by omega]
     omega)
  | (have b:=mf (i:=x.toNat) (by omega)
     omega)
theorem Gn (t:Nat) (w:World) (h1:t < 4294967296):
  Calls Tryz.prog 152 #[.int .u32 (t:Int)] w fun e w'=>e=.returned (.int .i64 (gS t:Int))∧w=w':=by
 have h:=Gm (t:Int) w (by omega) (by omega)
 rwa [Int.toNat_natCast] at h
theorem A4 (t:Nat) (w:World) (ht:t < 4294967296) (h0:t≠0):
  Calls Tryz.prog 144 #[.int .u32 (t:Int)] w fun e w'=>(∃ u:Nat,e=.returned (.int .i64 (u:Int))∧u < 32∧t * 2 ^ u < 4294967296)∧w=w':=by
 have hs:=uS t
 have hb:gS t≤32:=pI (k:=32) ht
 have oH:=qQ h0
 refine aO fun R' bu=> ?_
 go_enter Tryz.func144,Tryz.ntmps144
 go_wp2_with fail
 refine (Gn t _ ht).mono ?_
 rintro e w1 ⟨rfl,rfl⟩
 generalize gS t=L at *
 go_wp2_with fail
 refine bu.out _ _ ⟨⟨32 - L,lH (by omega),by omega,?_⟩,rfl⟩
 have h1:t * 2 ^ (32 - L) < 2 ^ L * 2 ^ (32 - L):=Nat.mul_lt_mul_of_pos_right hs (Nat.pow_pos (by omega))
 rw [←Nat.pow_add,show L + (32 - L)=32 by omega] at h1
 exact h1
def vW (w:World) (B n m:Nat) (xs ys:List Nat) (v iv:Value) (wr:World):Prop:=
 ∃ (i:Nat) (os:List Nat),i≤n∧iv=.int .i64 (i:Int)∧os.length=n + m∧bU os∧(∀ j,i + m≤j→∀ x,os[j]? =some x→x=0)∧aq os=aq (xs.take i) * aq ys∧
  wr.ownsRow B 117 1 v (n + m) (ints .u32 os)∧Below B w wr
def A5 (w:World) (B n m i S x:Nat) (ys:List Nat) (v cv kv:Value) (wr:World):Prop:=
 ∃ (k c:Nat) (os:List Nat),k≤m∧kv=.int .i64 (k:Int)∧cv=.int .u64 (c:Int)∧c < 4294967296∧os.length=n + m∧bU os∧(∀ j,i + m≤j→∀ x,os[j]? =some x→x=0)∧
  aq os + 4294967296 ^ (i + k) * c=S + 4294967296 ^ i * (x * aq (ys.take k))∧wr.ownsRow B 117 1 v (n + m) (ints .u32 os)∧Below B w wr
theorem IU {os:List Nat} {i m j v:Nat} (h:∀ j,i + m≤j→∀ x,os[j]? =some x→x=0) (hj:j < i + m):∀ l,i + m≤l→∀ x,(os.set j v)[l]? =some x→x=0:=fun l hl x hx=>by
 rw [List.getElem?_set_ne (by omega)] at hx
 exact h l hl x hx
theorem A5.step {w wr:World} {B n m i S x y o k c g cap:Nat} {ys os:List Nat} {q r:Int} (hk:k < m) (_:i < n) (hl:os.length=n + m) (vX:bU os) (hz:∀ j,i + m≤j→∀ x,os[j]? =some x→x=0)
  (hv:aq os + 4294967296 ^ (i + k) * c=S + 4294967296 ^ i * (x * aq (ys.take k))) (aI:wr.ownsRow B 117 1 (.slice (some ⟨g,0,none⟩) (n + m) cap) (n + m) (ints .u32 os)) (hb:Below B w wr)
  (hy:ys[k]? =some y) (ho:os[i + k]? =some o) (kf:x < 4294967296) (yl:y < 4294967296) (uG:c < 4294967296) (hq:q=(((x * y + o + c) % 4294967296:Nat):Int)) (hr:r=(((x * y + o + c) / 4294967296:Nat):Int)):
  A5 w B n m i S x ys (.slice (some ⟨g,0,none⟩) (n + m) cap) (.int .u64 r) (.int .i64 ((k:Int) + 1)) (wr.setCell ⟨g,i + k,none⟩ (.int .u32 q)):=by
 subst hq;subst hr
 have ho4:=vX.at ho
 have hs:=qY kf yl ho4 uG
 refine ⟨k + 1,(x * y + o + c) / 4294967296,os.set (i + k) ((x * y + o + c) % 4294967296),by omega,rfl,rfl,by omega,by simp [hl],vX.set (Nat.mod_lt _ (by omega)) _,IU hz (by omega),?_,Own.fR aI,hb.setCell (Own.lt aI).1 _⟩
 have h1:aq (ys.take (k + 1))=aq (ys.take k) + 4294967296 ^ k * y:=by rw [a9,List.getD,hy];rfl
 rw [h1]
 exact A1 ho rfl hv
theorem vW.step {w wr:World} {B n m i x c g cap:Nat} {xs ys os:List Nat} {q:Int} (hi:i < n) (hl:os.length=n + m) (vX:bU os) (hz:∀ j,i + m≤j→∀ x,os[j]? =some x→x=0) (hm:ys.length=m)
  (hv:aq os + 4294967296 ^ (i + m) * c=aq (xs.take i) * aq ys + 4294967296 ^ i * (x * aq (ys.take m))) (aI:wr.ownsRow B 117 1 (.slice (some ⟨g,0,none⟩) (n + m) cap) (n + m) (ints .u32 os)) (hb:Below B w wr)
  (hx:xs[i]? =some x) (uG:c < 4294967296) (hq:q=(c:Int)):
  vW w B n m xs ys (.slice (some ⟨g,0,none⟩) (n + m) cap) (.int .i64 ((i:Int) + 1)) (wr.setCell ⟨g,i + m,none⟩ (.int .u32 q)):=by
 subst hq
 obtain ⟨o,ho⟩:∃ o,os[i + m]? =some o:=⟨_,List.getElem?_eq_getElem (by omega)⟩
 obtain rfl:=hz (i + m) (Nat.le_refl _) o ho
 refine ⟨i + 1,os.set (i + m) c,by omega,rfl,by simp [hl],vX.set uG _,fun j hj y hy=> ?_,?_,Own.fR aI,hb.setCell (Own.lt aI).1 _⟩
 ·rw [List.getElem?_set_ne (by omega)] at hy
  exact hz j (by omega) y hy
 ·have h1:=A0 (v:=c) ho
  have h2:aq (xs.take (i + 1))=aq (xs.take i) + 4294967296 ^ i * x:=by rw [a9,List.getD,hx];rfl
  rw [bm (Nat.le_of_eq hm)] at hv
  rw [h2,Nat.add_mul,Nat.mul_assoc]
  omega
set_option maxRecDepth 100000 in
set_option maxHeartbeats 4000000 in
theorem IV (va vb:Value) (n m:Nat) (xs ys:List Nat) (w:World) (hr:Rd w 1 va n (ints .u32 xs)) (hs:Rd w 1 vb m (ints .u32 ys)) (hx:bU xs) (hy:bU ys) (hn:n≤536870912) (hm:m≤536870912):
  Calls Tryz.prog 81 #[va,vb] w fun e w'=>∃ v',e=.returned v'∧w'.ownsRow w.heap.size 117 1 v' (limbs (aq xs * aq ys)).length (ints .u32 (limbs (aq xs * aq ys)))∧Below w.heap.size w w':=by
 obtain ⟨p,c,rfl,eR,eT,eu⟩:=hr.u32
 obtain ⟨q,d,rfl,H7,Dm,jH⟩:=hs.u32
 obtain ⟨i0,hi,kC,kZ,lJ⟩:=info_parts iV
 have Hr:=Lib.hid hr
 have Hs:=Lib.hid hs
 have HLX:=Lib.hid hx
 have HLY:=Lib.hid hy
 have HX:=Lib.hid eu
 have HY:=Lib.hid jH
 obtain ⟨B,hB⟩:∃ B,B=w.heap.size:=⟨_,rfl⟩
 have HB:=Lib.hid hB
 rw [←hB]
 clear hr hs hx hy eu jH hB
 refine aO fun R' bu=> ?_
 go_enter Tryz.func81,Tryz.ntmps81
 go_wp2_with (at_make;refine wpList_make_full _ rfl _ _ 22 rfl B 117 i0 (.int .u32 0) 1 Tryz.underlying22 hi kC kZ .i64 .i64 _ _ (n + m) rfl rfl (by omega) (by omega) (by rw [lJ];omega) (by unfold maxLen;omega) (Nat.le_of_eq HB.out) ?_;intro w1 aI Gh)
 have Dq:=Lib.hid (Own.made aI)
 have Hb1:Hid (Below B w w1):=(Below.refl _ _).grown Gh (Nat.le_of_eq HB.out) (fun k hk=>by cases hk)
 clear aI Gh hi kC kZ lJ
 go_wp2_with fail
 go_loopw [20] (fun iv wr=>vW w B n m xs ys (.slice (some ⟨w.heap.size,0,none⟩) (n + m) (n + m)) iv wr) (fun iv _=>n - (intOf iv).toNat)
 case atStart=>exact ⟨0,List.replicate (n + m) 0,Nat.zero_le _,rfl,by simp,dM.replicate (by omega) _,fun j _ x hx=>by rw [List.getElem?_replicate] at hx;split at hx <;> simp_all,by rw [vT];simp [dX],by simpa using Dq.out,Hb1.out⟩
 case round=>
  obtain ⟨i,os,tL,rfl,hl,vX,hz,hv,aI,hb⟩:=hrel
  have HLO:=Lib.hid hl
  have HLIM:=Lib.hid vX
  have HZ:=Lib.hid hz
  have HV:=Lib.hid hv
  have HO:=Lib.hid aI
  have gA:=Lib.hid hb
  have hsz:=hb.size
  clear hl vX hz hv aI hb
  by_cases Dw:i < n
  ·obtain ⟨b1,o1,x,rfl,aV,gf,pX⟩:=(Hr.out.iH HB.out gA.out).cellAt Dw
   have uX:=Lib.hid gf
   have kf:=HLX.out.at gf
   clear gf
   go_wp2_with fail
   obtain ⟨wo,rfl⟩:∃ wo:World,wo=wr:=⟨_,rfl⟩
   go_loopw [8,27] (fun cv kv wr'=>A5 w B n m i (aq (xs.take i) * aq ys) x ys (.slice (some ⟨w.heap.size,0,none⟩) (n + m) (n + m)) cv kv wr') (fun _ kv _=>m - (intOf kv).toNat)
   case atStart=>exact ⟨0,0,os,Nat.zero_le _,rfl,rfl,by omega,HLO.out,HLIM.out,HZ.out,by rw [HV.out];simp [dX],HO.out,gA.out⟩
   case round=>
    obtain ⟨k,c',os',Dr,rfl,rfl,uG,hl',A6,C9,hv',hown',xJ⟩:=hrel
    have HLO':=Lib.hid hl'
    have A7:=Lib.hid A6
    have HZ':=Lib.hid C9
    have HV':=Lib.hid hv'
    have HO':=Lib.hid hown'
    have IW:=Lib.hid xJ
    clear hl' A6 C9 hv' hown' xJ
    obtain ⟨o,ho,hco,hfo⟩:=Own.gm HO'.out (j:=i + k) (by omega)
    have HOK:=Lib.hid ho
    have ho4:=A7.out.at ho
    clear ho
    by_cases hklt:k < m
    ·obtain ⟨b2,o2,y,rfl,bl,nH,Dp⟩:=(Hs.out.iH HB.out IW.out).cellAt hklt
     have EU:=Lib.hid nH
     have yl:=HLY.out.at nH
     clear nH
     have hsm:=qY kf yl ho4 uG
     have m0:0≤(x:Int) * (y:Int):=by rw [←Int.natCast_mul];omega
     have m1:(x:Int) * (y:Int) + (o:Int) + (c':Int) < 18446744073709551616:=by rw [←Int.natCast_mul];omega
     have Gp:IntKind.i64.wrap ((i:Int) + (k:Int))=((i + k:Nat):Int):=by rw [IntWalk.i64_in _ (by omega)];simp
     clear hsm
     go_wp2_with fail
     go_roundw
     case rel=>
      first
      | exact A5.step hklt Dw HLO'.out A7.out HZ'.out HV'.out HO'.out IW.out EU.out HOK.out kf yl uG (by simp) (by simp)
      | ((repeat apply Exists.intro);exact ⟨A5.step hklt Dw HLO'.out A7.out HZ'.out HV'.out HO'.out IW.out EU.out HOK.out kf yl uG (by simp) (by simp),rfl⟩)
     case measure=>simp [intOf];omega
    ·obtain rfl:k=m:=by omega
     have Gp:IntKind.i64.wrap ((i:Int) + (k:Int))=((i + k:Nat):Int):=by rw [IntWalk.i64_in _ (by omega)];simp
     go_wp2_with fail
     go_roundw
     case rel=>
      first
      | exact vW.step Dw HLO'.out A7.out HZ'.out HY.out HV'.out HO'.out IW.out uX.out uG rfl
      | ((repeat apply Exists.intro);exact ⟨vW.step Dw HLO'.out A7.out HZ'.out HY.out HV'.out HO'.out IW.out uX.out uG rfl,rfl⟩)
     case measure=>simp [intOf];omega
  ·obtain rfl:i=n:=by omega
   go_wp2_with fail
   refine (ja _ (i + m) os _ (Rd.own HO.out) HLIM.out (by omega)).mono ?_
   rintro e w2 ⟨v',rfl,jT,bl⟩
   go_wp2_with fail
   have h:=HV.out
   rw [bm (Nat.le_of_eq HX.out)] at h
   rw [h] at jT
   exact bu.out _ _ ⟨v',rfl,Own.mono jT (by have:=HB.out;omega),gA.out.trans (bl.mono (by have:=HB.out;omega))⟩
end Go.Proofs.YtabalinjfgcfeaaGreat
namespace Go.Proofs.YtabalinjfgcfeaaGreat
open Go.RowKit
def A8 (w:World) (U2 v1 V U:Nat) (qv rv:Value) (wr:World):Prop:=
 ∃ q r dn:Nat,qv=.int .u64 (q:Int)∧rv=.int .u64 (r:Int)∧q * v1 + r=U2∧r < 4294967296∧(∀ t:Nat,t≤4294967295→t * V≤U→t≤q)∧wr=w.drewN dn
theorem zz {B U2 v1 v2 low:Nat} (AG:0 < v1) (hl:low < B) (t:Nat) (h:t * (v1 * B + v2)≤U2 * B + low):t≤U2 / v1:=by
 rw [Nat.le_div_iff_mul_le AG]
 rw [Nat.mul_add,←Nat.mul_assoc] at h
 have h1:t * v1 * B < (U2 + 1) * B:=by rw [Nat.add_mul];omega
 have:=Nat.lt_of_mul_lt_mul_right h1
 omega
theorem A9 {U2 v1 v2 low:Nat} (AG:0 < v1) (hl:low < 4294967296):∀ t:Nat,t≤4294967295→t * (v1 * 4294967296 + v2)≤U2 * 4294967296 + low→t≤U2 / v1:=fun t _ h=>zz AG hl t h
theorem vY {B q v1 v2 r U2 low:Nat} (h:q * v1 + r=U2) (hf:q * v2≤r * B + low):q * (v1 * B + v2)≤U2 * B + low:=by
 subst h
 rw [Nat.mul_add,←Nat.mul_assoc,Nat.add_mul]
 omega
theorem Dx {B q v1 v2 r U2 low:Nat} (h:q * v1 + r=U2) (hf:r * B + low < q * v2):U2 * B + low < q * (v1 * B + v2):=by
 subst h
 rw [Nat.mul_add,←Nat.mul_assoc,Nat.add_mul]
 omega
theorem Ba {q V U:Nat} (hV:0 < V) (hq:q≤4294967295) (hf:q * V≤U) (hm:∀ t:Nat,t≤4294967295→t * V≤U→t≤q):q=gG U V:=
 Nat.le_antisymm (yq hV hq hf) (hm _ (Nat.min_le_left _ _) A2)
theorem Bb {q v1 v2 r U2 low:Nat} (h:q * v1 + r=U2) (hr:4294967296≤r) (hU:U2 < v1 * 4294967296 + 4294967296) (hv2:v2 < 4294967296):q≤4294967295∧q * v2≤r * 4294967296 + low:=by
 have h1:q * v1 < 4294967296 * v1:=by omega
 have h2:q < 4294967296:=Nat.lt_of_mul_lt_mul_right h1
 have h3:q * v2≤4294967295 * 4294967295:=Nat.mul_le_mul (by omega) (by omega)
 omega
set_option maxRecDepth 100000 in
set_option maxHeartbeats 4000000 in
theorem Gq (hi mid low v1 v2:Nat) (w:World) (hhi:hi≤v1) (iL:mid < 4294967296) (hlow:low < 4294967296) (h1:0 < v1) (h14:v1 < 4294967296) (h2:v2 < 4294967296):
  Calls Tryz.prog 146 #[.int .u32 (hi:Int),.int .u32 (mid:Int),.int .u32 (low:Int),.int .u32 (v1:Int),.int .u32 (v2:Int)] w fun e w'=>
   e=.returned (.int .u64 (gG ((hi * 4294967296 + mid) * 4294967296 + low) (v1 * 4294967296 + v2):Int))∧∃ k,w'=w.drewN k:=by
 have hhi4:hi < 4294967296:=by omega
 have vM:bits BinOp.or IntKind.u64 ((hi:Int) * 4294967296) (mid:Int)=((hi * 4294967296 + mid:Nat):Int):=by
  have e1:((hi:Int) * 4294967296)=((hi * 4294967296:Nat):Int):=by simp
  rw [e1,u64_or_nat _ _ (by omega) (by omega),nat_join 32 _ _ (by omega) (by omega)]
 obtain ⟨U2,xK⟩:∃ U2,U2=hi * 4294967296 + mid:=⟨_,rfl⟩
 have hU:U2 < v1 * 4294967296 + 4294967296:=by omega
 rw [←xK] at vM ⊢
 have hv0:((v1:Int) != 0)=true:=by rw [bne_iff_ne];omega
 have hV:0 < v1 * 4294967296 + v2:=by omega
 obtain ⟨V,hVe⟩:∃ V,V=v1 * 4294967296 + v2:=⟨_,rfl⟩
 obtain ⟨U,hUe⟩:∃ U,U=U2 * 4294967296 + low:=⟨_,rfl⟩
 rw [←hVe,←hUe]
 rw [←hVe] at hV
 have HV:=Lib.hid hVe
 have HU:=Lib.hid hUe
 have HST:Hid (∀ t:Nat,t≤4294967295→t * V≤U→t≤U2 / v1):=by rw [hVe,hUe];exact A9 h1 hlow
 have HUU:=Lib.hid hU
 have Dm:=Nat.div_add_mod U2 v1
 have pK:=Nat.mod_lt U2 h1
 have hU64:U2 < 18446744073709551616:=by omega
 have d1:((U2 / v1:Nat):Int)=(U2:Int) / (v1:Int):=by simp
 have d2:((U2 % v1:Nat):Int)=(U2:Int) % (v1:Int):=by simp
 have dl:(U2:Int) / (v1:Int) < 18446744073709551616:=by rw [←d1];have:=Nat.div_le_self U2 v1;omega
 have dl0:0≤(U2:Int) / (v1:Int):=Int.ediv_nonneg (by omega) (by omega)
 have dm0:0≤(U2:Int) % (v1:Int):=Int.emod_nonneg _ (by omega)
 have dm1:(U2:Int) % (v1:Int) < 4294967296:=by rw [←d2];omega
 have HDM:=Lib.hid Dm
 have IP:=Lib.hid pK
 have HD1:=Lib.hid d1
 have HD2:=Lib.hid d2
 clear hVe hUe hU Dm pK d1 d2 xK
 refine aO fun R' bu=> ?_
 go_enter Tryz.func146,Tryz.ntmps146
 go_wp2_with fail
 go_step3
 go_wp2_with fail
 go_quiet (fail)
 go_wp2_with fail
 go_step3
 go_wp2_with fail
 go_loopw [12,13] (fun qv rv wr=>A8 w U2 v1 V U qv rv wr) (fun qv _ _=>(intOf qv).toNat)
 case atStart=>exact ⟨U2 / v1,U2 % v1,_,by rw [HD1.out],by rw [HD2.out],by rw [Nat.mul_comm];exact HDM.out,Nat.lt_trans IP.out h14,HST.out,rfl⟩
 case round=>
  obtain ⟨q,r,dn,rfl,rfl,hqr,hr,hmax,rfl⟩:=hrel
  have HQR:=Lib.hid hqr
  have HMAX:=Lib.hid hmax
  have hq64:(q:Int) < 18446744073709551616:=by
   have h3:q * 1≤q * v1:=Nat.mul_le_mul_left _ h1
   omega
  have hr64:(r:Int) + (v1:Int) < 18446744073709551616:=by omega
  clear hqr hmax dl dl0 dm0 dm1 vM
  have next:(∀ t:Nat,t≤4294967295→t * V≤U→t≤q - 1)→1≤q→r + v1 < 4294967296→A8 w U2 v1 V U (.int .u64 ((q:Int) - 1)) (.int .u64 ((r:Int) + (v1:Int))) (w.drewN dn):=fun a b c=>
   ⟨q - 1,r + v1,dn,by rw [show ((q - 1:Nat):Int)=(q:Int) - 1 by omega],by simp,by
    have h3:=HQR.out
    obtain ⟨k,rfl⟩:∃ k,q=k + 1:=⟨q - 1,by omega⟩
    rw [Nat.add_mul] at h3
    simp only [Nat.add_sub_cancel]
    omega,c,a,rfl⟩
  have stop:(∀ t:Nat,t≤4294967295→t * V≤U→t≤q - 1)→1≤q→4294967296≤r + v1→(q:Int) - 1=(gG U V:Int):=fun a b c=>by
   have h3:=HQR.out
   obtain ⟨k,rfl⟩:∃ k,q=k + 1:=⟨q - 1,by omega⟩
   have h4:k * v1 + (r + v1)=U2:=by rw [Nat.add_mul] at h3;omega
   obtain ⟨h5,h6⟩:=Bb (low:=low) h4 c HUU.out h2
   have h7:k=gG U V:=Ba hV h5 (by rw [HV.out,HU.out];exact vY h4 h6) (by simpa using a)
   omega
  have HNEXT:=Lib.hid next
  have HSTOP:=Lib.hid stop
  clear next stop
  by_cases hqB:4294967296≤q
  ·have c1:4294967295 < (q:Int):=by omega
   have hA:Hid (∀ t:Nat,t≤4294967295→t * V≤U→t≤q - 1):=fun t ht _=>by omega
   have c2:0≤(q:Int) - 1:=by omega
   by_cases Gj:r + v1 < 4294967296
   ·have c3:decide (4294967295 < (r:Int) + (v1:Int))=false:=decide_eq_false (by omega)
    go_wp2_with fail
    go_roundw
    case rel=>exact HNEXT.out hA.out (by omega) Gj
    case measure=>simp [intOf];omega
   ·have c3:4294967295 < (r:Int) + (v1:Int):=by omega
    go_wp2_with fail
    exact bu.out _ _ ⟨lH (HSTOP.out hA.out (by omega) (by omega)),_,rfl⟩
  ·have c1:(q:Int)≤4294967295:=by omega
   have m2:q * v2≤4294967295 * 4294967295:=Nat.mul_le_mul (by omega) (by omega)
   have m0:0≤(q:Int) * (v2:Int):=by rw [←Int.natCast_mul];omega
   have m1:(q:Int) * (v2:Int) < 18446744073709551616:=by rw [←Int.natCast_mul];omega
   have vM:bits BinOp.or IntKind.u64 ((r:Int) * 4294967296) (low:Int)=((r * 4294967296 + low:Nat):Int):=by
    have e1:((r:Int) * 4294967296)=((r * 4294967296:Nat):Int):=by simp
    rw [e1,u64_or_nat _ _ (by omega) (by omega),nat_join 32 _ _ (by omega) (by omega)]
   obtain ⟨RL,hRL⟩:∃ RL,RL=r * 4294967296 + low:=⟨_,rfl⟩
   rw [←hRL] at vM
   have HRL:=Lib.hid hRL
   by_cases hc:RL < q * v2
   ·have cc:(RL:Int) < (q:Int) * (v2:Int):=by rw [←Int.natCast_mul];omega
    have hq1:1≤q:=by
     rcases Nat.eq_zero_or_pos q with h | h
     ·subst h;rw [Nat.zero_mul] at hc;omega
     ·exact h
    have hA:Hid (∀ t:Nat,t≤4294967295→t * V≤U→t≤q - 1):=fun t ht hf=>by
     have h3:=HMAX.out t ht hf
     have h4:=Dx (B:=4294967296) (low:=low) HQR.out (by rw [←hRL];exact hc)
     rw [←HV.out,←HU.out] at h4
     have h5:t≠q:=fun e=>by subst e;omega
     omega
    have c2:0≤(q:Int) - 1:=by omega
    clear m2 hc hRL
    by_cases Gj:r + v1 < 4294967296
    ·have c3:decide (4294967295 < (r:Int) + (v1:Int))=false:=decide_eq_false (by omega)
     go_wp2_with fail
     go_roundw
     case rel=>exact HNEXT.out hA.out (by omega) Gj
     case measure=>simp [intOf];omega
    ·have c3:4294967295 < (r:Int) + (v1:Int):=by omega
     go_wp2_with fail
     exact bu.out _ _ ⟨lH (HSTOP.out hA.out (by omega) (by omega)),_,rfl⟩
   ·have cc:decide ((RL:Int) < (q:Int) * (v2:Int))=false:=decide_eq_false (by rw [←Int.natCast_mul];omega)
    have cx:decide (4294967295 < (q:Int))=false:=decide_eq_false (by omega)
    have he:q=gG U V:=Ba hV (by omega) (by rw [HV.out,HU.out];exact vY HQR.out (by rw [←hRL];omega)) HMAX.out
    have HE:=Lib.hid he
    clear m2 hc hRL he c1
    go_wp2_with fail
    exact bu.out _ _ ⟨by rw [←HE.out];rfl,_,rfl⟩
end Go.Proofs.YtabalinjfgcfeaaGreat
namespace Go.Proofs.YtabalinjfgcfeaaGreat
open Go.RowKit
theorem Rd.qZ {w w':World} {g sz n:Nat} {v:Value} {cs:List Value} (h:Rd w sz v n cs) (hg:w.grownBy w' (some g)) (hne:∀ p c a,v=.slice p n c→p=some a→a.block≠g):Rd w' sz v n cs:=by
 obtain ⟨p,c,rfl,h1,h2,h3,h4⟩:=h
 refine ⟨p,c,rfl,h1,h2,h3,fun hn=> ?_⟩
 obtain ⟨b,off,hp,hc⟩:=h4 hn
 refine ⟨b,off,hp,fun j u hj=> ?_⟩
 exact hg.cell (hc j u hj) (fun e=>hne p c _ rfl hp (by simpa using e))
theorem k8 (w:World) (row:Option Nat):w.grownBy w row:=⟨rfl,rfl,rfl,Nat.le_refl _,fun _ _ _=>rfl⟩
theorem xW {a b c:World} {row:Option Nat} (h:a.grownBy b row) (k:b.grownBy c row):a.grownBy c row:=
 ⟨k.os.trans h.os,k.tape.trans h.tape,k.output.trans h.output,Nat.le_trans h.size k.size,fun j hj hne=>(k.block j (Nat.lt_of_lt_of_le hj h.size) hne).trans (h.block j hj hne)⟩
theorem mg {w wr:World} {g j:Nat} {u:Value} (h:w.grownBy wr (some g)):w.grownBy (wr.setCell ⟨g,j,none⟩ u) (some g):=
 ⟨h.os,h.tape,h.output,by simpa [World.setCell] using h.size,fun k hk hne=>(Below.heap_setCell wr ⟨g,j,none⟩ u k (fun e=>hne (by rw [e]))).trans (h.block k hk hne)⟩
theorem u9 {pre D A post:List Nat} {i k a:Nat} (hp:pre.length=i) (hD:D.length=k) (ha:A[k]? =some a):(pre++(D++(A.drop k++post)))[i + k]? =some a:=by
 subst hp;subst hD
 obtain ⟨hl,he⟩:=List.getElem?_eq_some_iff.1 ha
 rw [List.getElem?_append_right (by omega),Nat.add_sub_cancel_left,List.getElem?_append_right (Nat.le_refl _),Nat.sub_self,List.drop_eq_getElem_cons hl,List.cons_append,List.getElem?_cons_zero,he]
theorem EY {pre D A post:List Nat} {i k x:Nat} (hp:pre.length=i) (hD:D.length=k) (hl:k < A.length):(pre++(D++(A.drop k++post))).set (i + k) x=pre++((D++[x])++(A.drop (k + 1)++post)):=by
 subst hp;subst hD
 rw [List.set_append_right _ _ (by omega),Nat.add_sub_cancel_left,List.set_append_right _ _ (Nat.le_refl _),Nat.sub_self,List.drop_eq_getElem_cons hl,List.cons_append,List.set_cons_zero,List.append_assoc];rfl
theorem re (n:Int):IntKind.u64.wrap n=n % 18446744073709551616:=by simp [IntKind.wrap,IntKind.bits,IntKind.signed]
theorem Bc {a lo r:Nat} (ha:a < 4294967296) (hl:lo < 4294967296) (hr:r≤1):∃ S1 S2 x r':Nat,IntKind.u64.wrap ((a:Int) - (lo:Int))=(S1:Int)∧IntKind.u64.wrap ((S1:Int) - (r:Int))=(S2:Int)∧
  (S2:Int) % 4294967296=(x:Int)∧(S2:Int) / 9223372036854775808=(r':Int)∧r'≤1∧x < 4294967296∧a + 4294967296 * r'=x + lo + r∧S1 < 18446744073709551616∧S2 < 18446744073709551616:=by
 refine ⟨(((a:Int) - lo) % 18446744073709551616).toNat,(((a:Int) - lo - r) % 18446744073709551616).toNat,(((a:Int) - lo - r) % 4294967296).toNat,(if lo + r≤a then 0 else 1),?_,?_,?_,?_,?_,?_,?_,?_,?_⟩
 ·rw [re];omega
 ·rw [re];omega
 ·omega
 ·split <;> omega
 ·split <;> omega
 ·omega
 ·split <;> omega
 ·omega
 ·omega
def rf (w:World) (B g N cap L q:Nat) (pre A post ys:List Nat) (cv bv kv:Value) (wr:World):Prop:=
 ∃ (k c r:Nat) (D:List Nat),k≤L∧kv=.int .i64 (k:Int)∧cv=.int .u64 (c:Int)∧bv=.int .u64 (r:Int)∧c < 4294967296∧r≤1∧D.length=k∧bU D∧
  aq D + q * aq (ys.take k)=aq (A.take k) + 4294967296 ^ k * (c + r)∧4294967296 ^ k * c≤q * aq (ys.take k)∧
  wr.ownsRow B 117 1 (.slice (some ⟨g,0,none⟩) N cap) N (ints .u32 (pre++(D++(A.drop k++post))))∧w.grownBy wr (some g)
theorem rf.step {w wr:World} {B g N cap i L q k c r y a x r' P:Nat} {pre A post ys D:List Nat} {xi ci ri:Int} (hk:k < L) (hA:A.length=L) (pk:pre.length=i) (hD:D.length=k) (vX:bU D)
  (hv:aq D + q * aq (ys.take k)=aq (A.take k) + 4294967296 ^ k * (c + r)) (hc:4294967296 ^ k * c≤q * aq (ys.take k))
  (aI:wr.ownsRow B 117 1 (.slice (some ⟨g,0,none⟩) N cap) N (ints .u32 (pre++(D++(A.drop k++post))))) (hg:w.grownBy wr (some g))
  (hy:ys.getD k 0=y) (ha:A[k]? =some a) (hP:P=q * y + c) (hP64:P < 18446744073709551616) (kf:x < 4294967296) (mW:r'≤1) (he:a + 4294967296 * r'=x + P % 4294967296 + r)
  (hxi:xi=(x:Int)) (hci:ci=((P / 4294967296:Nat):Int)) (Gr:ri=(r':Int)):
  rf w B g N cap L q pre A post ys (.int .u64 ci) (.int .u64 ri) (.int .i64 ((k:Int) + 1)) (wr.setCell ⟨g,i + k,none⟩ (.int .u32 xi)):=by
 subst hxi;subst hci;subst Gr;subst hP
 have h1:=Own.fR (j:=i + k) (x:=x) aI
 rw [EY pk hD (by omega)] at h1
 have e1:aq (ys.take (k + 1))=aq (ys.take k) + 4294967296 ^ k * y:=by rw [a9,hy]
 have e2:aq (A.take (k + 1))=aq (A.take k) + 4294967296 ^ k * a:=by rw [a9,List.getD,ha];rfl
 refine ⟨k + 1,(q * y + c) / 4294967296,r',D++[x],by omega,rfl,rfl,rfl,by omega,mW,by simp [hD],vX.append (bU.cons kf bU.nil),?_,?_,h1,mg hg⟩
 ·rw [dH,hD,e1,e2,Nat.pow_succ]
  exact Dv hv he
 ·rw [e1,Nat.pow_succ,Nat.mul_add]
  have h3:4294967296 ^ k * 4294967296 * ((q * y + c) / 4294967296)≤4294967296 ^ k * (q * y + c):=by
   rw [Nat.mul_assoc];exact Nat.mul_le_mul_left _ (Nat.mul_div_le _ _)
  rw [Nat.mul_add,Nat.mul_left_comm] at h3
  omega
def rh (w:World) (B g N cap L:Nat) (pre A post ys:List Nat) (cv kv:Value) (wr:World):Prop:=
 ∃ (k c:Nat) (D:List Nat),k≤L∧kv=.int .i64 (k:Int)∧cv=.int .u32 (c:Int)∧c≤1∧D.length=k∧bU D∧
  aq D + 4294967296 ^ k * c=aq (A.take k) + aq (ys.take k)∧
  wr.ownsRow B 117 1 (.slice (some ⟨g,0,none⟩) N cap) N (ints .u32 (pre++(D++(A.drop k++post))))∧w.grownBy wr (some g)
theorem rh.step {w wr:World} {B g N cap i L k c y a:Nat} {pre A post ys D:List Nat} (hk:k < L) (hA:A.length=L) (pk:pre.length=i) (hD:D.length=k) (vX:bU D) (hc:c≤1)
  (hv:aq D + 4294967296 ^ k * c=aq (A.take k) + aq (ys.take k))
  (aI:wr.ownsRow B 117 1 (.slice (some ⟨g,0,none⟩) N cap) N (ints .u32 (pre++(D++(A.drop k++post))))) (hg:w.grownBy wr (some g))
  (hy:ys.getD k 0=y) (ha:A[k]? =some a) (ha4:a < 4294967296) (yl:y < 4294967296):
  rh w B g N cap L pre A post ys (.int .u32 (((a + y + c) / 4294967296:Nat):Int)) (.int .i64 ((k:Int) + 1)) (wr.setCell ⟨g,i + k,none⟩ (.int .u32 (((a + y + c) % 4294967296:Nat):Int))):=by
 have h1:=Own.fR (j:=i + k) (x:=(a + y + c) % 4294967296) aI
 rw [EY pk hD (by omega)] at h1
 have e1:aq (ys.take (k + 1))=aq (ys.take k) + 4294967296 ^ k * y:=by rw [a9,hy]
 have e2:aq (A.take (k + 1))=aq (A.take k) + 4294967296 ^ k * a:=by rw [a9,List.getD,ha];rfl
 refine ⟨k + 1,(a + y + c) / 4294967296,D++[(a + y + c) % 4294967296],by omega,rfl,rfl,by omega,by simp [hD],vX.append (bU.cons (Nat.mod_lt _ (by omega)) bU.nil),?_,h1,mg hg⟩
 rw [dH,hD,e1,e2,Nat.pow_succ]
 exact AQ _ _ a y c _ _ _ hv rfl
def TookAt (w w':World) (B g N cap:Nat) (pre A post ys:List Nat) (q q':Nat):Prop:=
 ∃ A':List Nat,A'.length=A.length∧bU A'∧aq A' + q' * aq ys=aq A∧(q * aq ys≤aq A∧q'=q∨aq A < q * aq ys∧q' + 1=q)∧
  w'.ownsRow B 117 1 (.slice (some ⟨g,0,none⟩) N cap) N (ints .u32 (pre++(A'++post)))∧w.grownBy w' (some g)
set_option maxRecDepth 100000 in
set_option maxHeartbeats 4000000 in
theorem IX (g N cap i L capw n q B:Nat) (pre A post ys:List Nat) (vb:Value) (w:World) (aI:w.ownsRow B 117 1 (.slice (some ⟨g,0,none⟩) N cap) N (ints .u32 (pre++(A++post))))
  (pk:pre.length=i) (hA:A.length=L) (hlA:bU A) (hs:Rd w 1 vb n (ints .u32 ys)) (nB:bU ys) (hne:∀ p c a,vb=.slice p n c→p=some a→a.block≠g) (hL:L=n + 1) (hLc:L≤capw) (hcw:capw≤9223372036854775807)
  (hq:q < 4294967296) (hqb:q * aq ys≤aq A + aq ys):
  Calls Tryz.prog 147 #[.slice (some ⟨g,i,none⟩) L capw,vb,.int .u64 (q:Int)] w fun e w'=>∃ q':Nat,e=.returned (.int .u32 (q':Int))∧TookAt w w' B g N cap pre A post ys q q':=by
 obtain ⟨p,c,rfl,eR,eT,jH⟩:=hs.u32
 have Hs:=Lib.hid hs
 have Ia:=Lib.hid hlA
 have HLY:=Lib.hid nB
 have HNE:=Lib.hid hne
 have HO:=Lib.hid aI
 have HA:=Lib.hid hA
 have HP:=Lib.hid pk
 have HY:=Lib.hid jH
 have HQB:=Lib.hid hqb
 have HLL:=Lib.hid hL
 clear hs hlA nB hne aI hA pk jH hqb hL
 refine aO fun R' bu=> ?_
 go_enter Tryz.func147,Tryz.ntmps147
 go_wp2_with fail
 go_loopw [7,8,18] (fun cv bv kv wr=>rf w B g N cap L q pre A post ys cv bv kv wr) (fun _ _ kv _=>L - (intOf kv).toNat)
 case atStart=>exact ⟨0,0,0,[],Nat.zero_le _,rfl,rfl,rfl,by omega,by omega,rfl,bU.nil,by simp [dX],by simp,by simpa using HO.out,k8 _ _⟩
 case round=>
  obtain ⟨k,c,r,D,hkL,rfl,rfl,rfl,uG,iC,hD,hlD,hv,hcc,aI,hg⟩:=hrel
  have HD:=Lib.hid hD
  have ym:=Lib.hid hlD
  have HV:=Lib.hid hv
  have HCC:=Lib.hid hcc
  have HOW:=Lib.hid aI
  have HG:=Lib.hid hg
  clear hD hlD hv hcc aI hg
  by_cases Da:k < L
  ·obtain ⟨a,ha⟩:∃ a,A[k]? =some a:=⟨_,List.getElem?_eq_getElem (by rw [HA.out];exact Da)⟩
   have ha4:=Ia.out.at ha
   have HAK:=Lib.hid ha
   have hlt:i + k < N:=by
    have h1:=HOW.out.1
    have h2:=(List.getElem?_eq_some_iff.1 (u9 (post:=post) HP.out HD.out ha)).1
    simp at h1 h2
    omega
   obtain ⟨a',ha',hca,hfa⟩:=Own.gm HOW.out (j:=i + k) hlt
   rw [u9 HP.out HD.out ha] at ha'
   obtain rfl:=Option.some.inj ha'
   have Gk:=iT hca
   simp only at Gk
   clear ha ha'
   by_cases qU:k < n
   ·obtain ⟨b2,o2,y,rfl,bl,nH,Dp⟩:=(Hs.out.qZ HG.out HNE.out).cellAt qU
    have EU:Hid (ys.getD k 0=y):=by show _=_;rw [List.getD,nH];rfl
    have yl:=HLY.out.at nH
    clear nH
    have m3:q * y≤4294967295 * 4294967295:=Nat.mul_le_mul (by omega) (by omega)
    have m0:0≤(q:Int) * (y:Int):=by rw [←Int.natCast_mul];omega
    have m1:(q:Int) * (y:Int) < 18446744073709551616:=by rw [←Int.natCast_mul];omega
    obtain ⟨P,hP⟩:∃ P,P=q * y + c:=⟨_,rfl⟩
    have hP64:P < 18446744073709551616:=by omega
    have hPi:(q:Int) * (y:Int) + (c:Int)=(P:Int):=by rw [hP];simp
    obtain ⟨lo,AW⟩:∃ lo,lo=P % 4294967296:=⟨_,rfl⟩
    have hlo4:lo < 4294967296:=by omega
    have hloi:(P:Int) % 4294967296=(lo:Int):=by omega
    obtain ⟨S1,S2,x,r',f1,f2,f3,f4,f5,f6,f7,f8,f9⟩:=Bc ha4 hlo4 iC
    have HF7:=Lib.hid f7
    have HPE:=Lib.hid hP
    have HLO:=Lib.hid AW
    clear m3 hP AW f7
    go_wp2_with fail
    go_roundw
    case rel=>exact rf.step Da HA.out HP.out HD.out ym.out HV.out HCC.out HOW.out HG.out EU.out HAK.out HPE.out hP64 f6 f5 (by rw [←HLO.out];exact HF7.out) rfl (by simp) rfl
    case measure=>simp [intOf];omega
   ·have EU:Hid (ys.getD k 0=0):=by show _=_;rw [List.getD,List.getElem?_eq_none (by rw [HY.out];omega)];rfl
    obtain ⟨S1,S2,x,r',f1,f2,f3,f4,f5,f6,f7,f8,f9⟩:=Bc ha4 uG iC
    have HF7:=Lib.hid f7
    clear f7
    go_wp2_with fail
    go_roundw
    case rel=>exact rf.step Da HA.out HP.out HD.out ym.out HV.out HCC.out HOW.out HG.out EU.out HAK.out (P:=c) (by simp) (by omega) f6 f5 (by rw [Nat.mod_eq_of_lt uG];exact HF7.out) rfl (by first | rfl | (simp;omega) | omega) rfl
    case measure=>simp [intOf];omega
  ·obtain rfl:k=L:=by omega
   have hpow:q * aq ys < 4294967296 ^ k:=by
    have h1:=iR HLY.out
    rw [HY.out] at h1
    have h2:q * aq ys≤4294967295 * aq ys:=Nat.mul_le_mul_right _ (by omega)
    have h3:4294967296 ^ k=4294967296 ^ n * 4294967296:=by rw [HLL.out,Nat.pow_succ]
    omega
   have hyt:aq (ys.take k)=aq ys:=bm (by rw [HY.out,HLL.out];omega)
   have xL:aq (A.take k)=aq A:=bm (by rw [HA.out];omega)
   have hv:=HV.out
   have hcc:=HCC.out
   rw [hyt] at hv hcc
   rw [xL] at hv
   have hDl:=iR ym.out
   rw [HD.out] at hDl
   obtain rfl:c=0:=by
    rcases Nat.eq_zero_or_pos c with h | h
    ·exact h
    ·have:4294967296 ^ k * 1≤4294967296 ^ k * c:=Nat.mul_le_mul_left _ h
     omega
   rw [Nat.zero_add] at hv
   have HV2:=Lib.hid hv
   have HPW:=Lib.hid hpow
   have Dy:=Lib.hid hDl
   have hOW:=HOW.out
   rw [List.drop_of_length_le (by rw [HA.out];omega),List.nil_append] at hOW
   have HOW2:=Lib.hid hOW
   clear hv hcc hpow hyt xL hDl hOW HOW HCC HV
   rcases (show r=0∨r=1 by omega) with rfl | rfl
   ·go_wp2_with fail
    refine bu.out _ _ ⟨q,?_,D,by rw [HD.out,HA.out],ym.out,by have:=HV2.out;omega,.inl ⟨by have:=HV2.out;omega,rfl⟩,HOW2.out,HG.out⟩
    first | rfl | exact lH (by omega)
   ·have hq1:1≤q:=by
     rcases Nat.eq_zero_or_pos q with h | h
     ·have h1:=HV2.out;have h2:=Dy.out;rw [h,Nat.zero_mul] at h1;omega
     ·exact h
    go_wp2_with fail
    rw [show ((0:Nat):Int)=0 from rfl,show ((1:Nat):Int)=1 from rfl]
    obtain ⟨wo,rfl⟩:∃ wo:World,wo=wr:=⟨_,rfl⟩
    go_loopw [13,62] (fun cv kv wr'=>rh wo B g N cap k pre D post ys cv kv wr') (fun _ kv _=>k - (intOf kv).toNat)
    case atStart=>exact ⟨0,0,[],Nat.zero_le _,rfl,rfl,by omega,rfl,bU.nil,by simp [dX],by simpa using HOW2.out,k8 _ _⟩
    case round=>
     obtain ⟨l,c,E,hlk,rfl,rfl,jb,hE,hlE,hvE,aI,hg⟩:=hrel
     have HE:=Lib.hid hE
     have HLE:=Lib.hid hlE
     have HVE:=Lib.hid hvE
     have HOW:=Lib.hid aI
     have HG2:=Lib.hid hg
     clear hE hlE hvE aI hg
     by_cases hlt:l < k
     ·obtain ⟨a,ha⟩:∃ a,D[l]? =some a:=⟨_,List.getElem?_eq_getElem (by rw [HD.out];exact hlt)⟩
      have ha4:=ym.out.at ha
      have HAK:=Lib.hid ha
      have hlN:i + l < N:=by
       have h1:=HOW.out.1
       have h2:=(List.getElem?_eq_some_iff.1 (u9 (post:=post) HP.out HE.out ha)).1
       simp at h1 h2
       omega
      obtain ⟨a',ha',hca,hfa⟩:=Own.gm HOW.out (j:=i + l) hlN
      rw [u9 HP.out HE.out ha] at ha'
      obtain rfl:=Option.some.inj ha'
      have Gk:=iT hca
      simp only at Gk
      clear ha ha'
      by_cases Dn:l < n
      ·obtain ⟨b2,o2,y,rfl,bl,nH,Dp⟩:=((Hs.out.qZ HG.out HNE.out).qZ HG2.out HNE.out).cellAt Dn
       have EU:Hid (ys.getD l 0=y):=by show _=_;rw [List.getD,nH];rfl
       have yl:=HLY.out.at nH
       clear nH
       go_wp2_with fail
       refine (lI a y c _ ha4 yl (by omega)).mono ?_
       rintro e w2 ⟨rfl,rfl⟩
       go_wp2_with fail
       go_roundw
       case rel=>exact rh.step hlt HD.out HP.out HE.out HLE.out jb HVE.out HOW.out HG2.out EU.out HAK.out ha4 yl
       case measure=>simp [intOf];omega
      ·have EU:Hid (ys.getD l 0=0):=by show _=_;rw [List.getD,List.getElem?_eq_none (by rw [HY.out];omega)];rfl
       go_wp2_with fail
       refine (lI a 0 c _ ha4 (by omega) (by omega)).mono ?_
       rintro e w2 ⟨rfl,rfl⟩
       go_wp2_with fail
       go_roundw
       case rel=>exact rh.step hlt HD.out HP.out HE.out HLE.out jb HVE.out HOW.out HG2.out EU.out HAK.out ha4 (by omega)
       case measure=>simp [intOf];omega
     ·obtain rfl:l=k:=by omega
      have hve:=HVE.out
      rw [bm (by rw [HD.out];omega),bm (by rw [HY.out,HLL.out];omega)] at hve
      have hEl:=iR HLE.out
      rw [HE.out] at hEl
      have hOW:=HOW.out
      rw [List.drop_of_length_le (by rw [HD.out];omega),List.nil_append] at hOW
      have hv2:=HV2.out
      have hqb:=HQB.out
      obtain ⟨m,rfl⟩:∃ m,q=m + 1:=⟨q - 1,by omega⟩
      rw [Nat.add_mul,Nat.one_mul] at hv2 hqb
      have hfin:aq E + m * aq ys=aq A:=by
       rcases (show c=0∨c=1 by omega) with rfl | rfl
       ·omega
       ·omega
      have IY:aq A < (m + 1) * aq ys:=by
       rw [Nat.add_mul,Nat.one_mul]
       have:=Dy.out
       omega
      have HFIN:=Lib.hid hfin
      have HLT2:=Lib.hid IY
      have HOW3:=Lib.hid hOW
      clear hve hEl hOW hv2 hqb hfin IY
      have hm:((m + 1:Nat):Int) - 1=(m:Int):=by omega
      go_wp2_with fail
      refine bu.out _ _ ⟨m,?_,E,by rw [HE.out,HA.out],HLE.out,HFIN.out,.inr ⟨HLT2.out,rfl⟩,HOW3.out,xW HG.out HG2.out⟩
      first | rfl | exact lH (by omega)
end Go.Proofs.YtabalinjfgcfeaaGreat
namespace Go.Proofs.YtabalinjfgcfeaaGreat
theorem getD_some {xs:List Nat} {k x:Nat} (h:xs[k]? =some x):xs.getD k 0=x:=by rw [List.getD,h];rfl
theorem Gs {A:List Nat} {m a0 a1 a2:Nat} (hl:A.length=m + 3) (h0:A[m]? =some a0) (h1:A[m + 1]? =some a1) (h2:A[m + 2]? =some a2):
  aq A=((a2 * 4294967296 + a1) * 4294967296 + a0) * 4294967296 ^ m + aq (A.take m):=by
 have e0:=a9 A m
 have e1:=a9 A (m + 1)
 have e2:=a9 A (m + 2)
 rw [getD_some h0] at e0
 rw [getD_some h1,e0,Nat.pow_succ] at e1
 rw [getD_some h2,e1,Nat.pow_succ,Nat.pow_succ,bm (by omega)] at e2
 rw [e2]
 generalize 4294967296 ^ m=p
 rw [Nat.add_mul,Nat.add_mul,Nat.add_mul]
 rw [show a2 * 4294967296 * 4294967296 * p=p * 4294967296 * 4294967296 * a2 by ac_rfl]
 rw [show a1 * 4294967296 * p=p * 4294967296 * a1 by rw [Nat.mul_comm p,Nat.mul_comm _ a1,Nat.mul_assoc]]
 rw [Nat.mul_comm a0 p]
 omega
theorem top_two {Y:List Nat} {m v1 v2:Nat} (hl:Y.length=m + 2) (h2:Y[m]? =some v2) (h1:Y[m + 1]? =some v1):aq Y=(v1 * 4294967296 + v2) * 4294967296 ^ m + aq (Y.take m):=by
 have e0:=a9 Y m
 have e1:=a9 Y (m + 1)
 rw [getD_some h2] at e0
 rw [getD_some h1,e0,Nat.pow_succ,bm (by omega)] at e1
 rw [e1]
 generalize 4294967296 ^ m=p
 rw [Nat.add_mul]
 rw [show v1 * 4294967296 * p=p * 4294967296 * v1 by rw [Nat.mul_comm p,Nat.mul_comm _ v1,Nat.mul_assoc]]
 rw [Nat.mul_comm v2 p]
 omega
theorem nJ {xs:List Nat} (h:bU xs) {m:Nat} (hm:m≤xs.length):aq (xs.take m) < 4294967296 ^ m:=by
 have:=iR (h.take m)
 rwa [List.length_take,Nat.min_eq_left hm] at this
structure Window (us ys:List Nat) (i m b hi mid low v1 v2:Nat) (A post:List Nat):Prop where
 split:us=us.take i++(A++post)
 pre:(us.take i).length=i
 len:A.length=m + 3
 lim:bU A
 zero:aq post=0
 lt:aq A < 4294967296 * b
 hi_le:hi≤v1
 near:aq A / b≤gG ((hi * 4294967296 + mid) * 4294967296 + low) (v1 * 4294967296 + v2)∧gG ((hi * 4294967296 + mid) * 4294967296 + low) (v1 * 4294967296 + v2)≤aq A / b + 1
theorem Gt {us ys:List Nat} {i m b hi mid low v1 v2 N:Nat} (hN:us.length=N) (hlt:i + (m + 2) < N) (hu:bU us) (hy:bU ys) (jH:ys.length=m + 2) (hb:aq ys=b) (hd:aq (us.drop (i + 1)) < b)
  (h1:us[i + (m + 2)]? =some hi) (h2:us[i + (m + 1)]? =some mid) (h3:us[i + m]? =some low) (h4:ys[m + 1]? =some v1) (h5:ys[m]? =some v2) (AG:0 < v1):
  Window us ys i m b hi mid low v1 v2 ((us.drop i).take (m + 3)) (us.drop (i + (m + 3))):=by
 have hA:((us.drop i).take (m + 3)).length=m + 3:=by rw [List.length_take,List.length_drop];omega
 have hlA:bU ((us.drop i).take (m + 3)):=(hu.drop i).take _
 have hsp:us.drop i=(us.drop i).take (m + 3)++us.drop (i + (m + 3)):=by
  rw [←List.drop_drop];exact (List.take_append_drop _ _).symm
 have g0:((us.drop i).take (m + 3))[m]? =some low:=by rw [List.getElem?_take,if_pos (by omega),List.getElem?_drop];exact h3
 have g1:((us.drop i).take (m + 3))[m + 1]? =some mid:=by rw [List.getElem?_take,if_pos (by omega),List.getElem?_drop];exact h2
 have g2:((us.drop i).take (m + 3))[m + 2]? =some hi:=by rw [List.getElem?_take,if_pos (by omega),List.getElem?_drop];exact h1
 have hyp:b < 4294967296 ^ (m + 2):=by rw [←hb,←jH];exact iR hy
 have hz:aq (us.drop (i + (m + 3)))=0:=by
  have e:=vU (xs:=us.drop (i + 1)) (m + 2) (by rw [List.length_drop];omega)
  rw [List.drop_drop,show i + 1 + (m + 2)=i + (m + 3) by omega] at e
  rcases Nat.eq_zero_or_pos (aq (us.drop (i + (m + 3)))) with h | h
  ·exact h
  ·have:4294967296 ^ (m + 2) * 1≤4294967296 ^ (m + 2) * aq (us.drop (i + (m + 3))):=Nat.mul_le_mul_left _ h
   omega
 have hAv:aq (us.drop i)=aq ((us.drop i).take (m + 3)):=by
  conv=>lhs;rw [hsp]
  rw [dY,hz,Nat.mul_zero,Nat.add_zero]
 obtain ⟨u0,hu0⟩:∃ u0,us[i]? =some u0:=⟨_,List.getElem?_eq_getElem (by omega)⟩
 have hu04:=hu.at hu0
 have IZ:aq ((us.drop i).take (m + 3)) < 4294967296 * b:=by
  rw [←hAv,pO hu0]
  omega
 have eA:=Gs hA g0 g1 g2
 have eY:=top_two jH h5 h4
 rw [hb] at eY
 have lA:=nJ hlA (m:=m) (by omega)
 have lY:=nJ hy (m:=m) (by omega)
 have hp:0 < 4294967296 ^ m:=Nat.pow_pos (by omega)
 refine ⟨?_,by rw [List.length_take];omega,hA,hlA,hz,IZ,?_,Du hp eA lA eY lY (by omega) IZ⟩
 ·rw [←hsp];exact (List.take_append_drop _ _).symm
 ·-- hi≤v1
  rcases Nat.lt_or_ge v1 hi with h | h
  ·have k1:aq (us.drop (i + 1))=aq ((us.drop (i + 1)).take (m + 1)) + 4294967296 ^ (m + 1) * aq ((us.drop (i + 1)).drop (m + 1)):=vU _ (by rw [List.length_drop];omega)
   rw [List.drop_drop,show i + 1 + (m + 1)=i + (m + 2) by omega,pO h1] at k1
   have hv2:=hy.at h5
   have k2:4294967296 ^ (m + 1) * hi≤aq (us.drop (i + 1)):=by
    rw [k1,Nat.mul_add];omega
   have k3:b < 4294967296 ^ (m + 1) * (v1 + 1):=by
    rw [eY,Nat.pow_succ]
    have k4:(v1 * 4294967296 + v2 + 1) * 4294967296 ^ m≤((v1 + 1) * 4294967296) * 4294967296 ^ m:=Nat.mul_le_mul_right _ (by omega)
    rw [show 4294967296 ^ m * 4294967296 * (v1 + 1)=((v1 + 1) * 4294967296) * 4294967296 ^ m by rw [Nat.mul_comm,Nat.mul_comm (4294967296 ^ m),Nat.mul_assoc]]
    rw [Nat.add_mul,Nat.one_mul] at k4
    omega
   have k5:4294967296 ^ (m + 1) * (v1 + 1)≤4294967296 ^ (m + 1) * hi:=Nat.mul_le_mul_left _ h
   omega
  ·exact h
theorem Dz {u b q q' r:Nat} (hb:0 < b) (h1:u / b≤q) (h2:q≤u / b + 1) (hv:r + q' * b=u) (h:q * b≤u∧q'=q∨u < q * b∧q' + 1=q):q'=u / b∧r < b:=by
 have hq:q'=u / b:=by
  rcases h with ⟨h3,rfl⟩ | ⟨h3,h4⟩
  ·have:=(Nat.le_div_iff_mul_le hb).2 h3;omega
  ·have:¬ q≤u / b:=fun hc=>by have:=(Nat.le_div_iff_mul_le hb).1 hc;omega
   omega
 refine ⟨hq,?_⟩
 have e:=Nat.div_add_mod u b
 have m:=Nat.mod_lt u hb
 rw [Nat.mul_comm,←hq] at e
 omega
theorem Bd {u b q:Nat} (h:q≤u / b + 1):q * b≤u + b:=by
 have h1:q * b≤(u / b + 1) * b:=Nat.mul_le_mul_right _ h
 have h2:=Nat.div_mul_le_self u b
 rw [Nat.add_mul,Nat.one_mul] at h1
 omega
theorem DA {us pre A A' post qs:List Nat} {i b q' a:Nat} (hsp:us=pre++(A++post)) (pk:pre.length=i) (hz:aq post=0) (hv:aq A' + q' * b=aq A) (hlt:aq A' < b)
  (ha:aq us + 4294967296 ^ (i + 1) * (b * aq qs)=a):
  aq ((pre++(A'++post)).drop i) < b∧aq (pre++(A'++post)) + 4294967296 ^ i * (b * aq (q'::qs))=a:=by
 subst hsp
 constructor
 ·rw [List.drop_append_of_le_length (by omega),List.drop_of_length_le (by omega),List.nil_append,dY,hz,Nat.mul_zero,Nat.add_zero];exact hlt
 ·rw [dY,dY,hz,Nat.mul_zero,Nat.add_zero] at ha
  rw [dY,dY,hz,Nat.mul_zero,Nat.add_zero,fh,←ha,←hv,pk,Nat.mul_add b,Nat.mul_add,Nat.mul_add,Nat.pow_succ]
  rw [Nat.mul_comm q' b,show 4294967296 ^ i * (b * (4294967296 * aq qs))=4294967296 ^ i * 4294967296 * (b * aq qs) by rw [Nat.mul_assoc,Nat.mul_left_comm b]]
  omega
theorem zA {qs:List Nat} {k x:Nat}:(List.replicate (k + 1) 0++qs).set k x=List.replicate k 0++x::qs:=by
 rw [List.replicate_succ',List.append_assoc,List.set_append_right _ _ (by simp),List.length_replicate,Nat.sub_self];rfl
theorem Be {b t u:Nat} (hb:b≠0) (ht:(limbs b)[(limbs b).length - 1]? =some t) (hu:u < 32) (htu:t * 2 ^ u < 4294967296):(limbs (b * 2 ^ u)).length=(limbs b).length:=by
 have hn:=de hb
 have hp:0 < 2 ^ u:=Nat.pow_pos (by omega)
 refine Nat.le_antisymm (gz _ _ ?_) (ct (Nat.le_mul_of_pos_right _ hp))
 obtain ⟨n,hl⟩:∃ n,(limbs b).length=n + 1:=⟨(limbs b).length - 1,by omega⟩
 rw [hl] at ht ⊢
 simp only [Nat.add_sub_cancel] at ht
 have e:=a9 (limbs b) n
 rw [getD_some ht,bm (by omega),au] at e
 have l:=nJ (ay b) (m:=n) (by omega)
 have h1:b < 4294967296 ^ n * (t + 1):=by rw [Nat.mul_add];omega
 have h2:(t + 1) * 2 ^ u≤4294967296:=by
  have h3:4294967296=2 ^ u * 2 ^ (32 - u):=by rw [←Nat.pow_add,show u + (32 - u)=32 by omega]
  rw [h3,Nat.mul_comm t] at htu
  have h4:=Nat.lt_of_mul_lt_mul_left htu
  rw [Nat.mul_comm]
  calc 2 ^ u * (t + 1)≤2 ^ u * 2 ^ (32 - u):=Nat.mul_le_mul_left _ h4
   _=4294967296:=h3.symm
 have h5:b * 2 ^ u < 4294967296 ^ n * (t + 1) * 2 ^ u:=Nat.mul_lt_mul_of_pos_right h1 hp
 have h6:4294967296 ^ n * (t + 1) * 2 ^ u≤4294967296 ^ n * 4294967296:=by rw [Nat.mul_assoc];exact Nat.mul_le_mul_left _ h2
 rw [Nat.pow_succ]
 omega
theorem Gu {a b u:Nat}:(a * 2 ^ u) / (b * 2 ^ u)=a / b:=Nat.mul_div_mul_right a b (Nat.pow_pos (by omega))
theorem Gv {a b u:Nat}:(a * 2 ^ u) % (b * 2 ^ u)=(a % b) * 2 ^ u:=Nat.mul_mod_mul_right (2 ^ u) a b
end Go.Proofs.YtabalinjfgcfeaaGreat
namespace Go.Proofs.YtabalinjfgcfeaaGreat
open Go.RowKit
def Divided (w w':World) (a b:Nat) (e:Ending):Prop:=
 (b=0∧e=.returned (.tuple #[.slice none 0 0,.slice none 0 0,.int .i64 20]))∨
 (b≠0∧∃ vq vr,e=.returned (.tuple #[vq,vr,.int .i64 0])∧w'.ownsRow w.heap.size 117 1 vq (limbs (a / b)).length (ints .u32 (limbs (a / b)))∧w'.ownsRow w.heap.size 117 1 vr (limbs (a % b)).length (ints .u32 (limbs (a % b))))
def I0 (w:World) (B N cap n m b a ga:Nat) (vy vq:Value) (iv:Value) (wr:World):Prop:=
 ∃ (k:Nat) (us qs:List Nat),k≤m∧iv=.int .i64 ((k:Int) - 1)∧us.length=N∧bU us∧aq (us.drop k) < b∧qs.length=m - k∧bU qs∧aq us + 4294967296 ^ k * (b * aq qs)=a∧
  wr.ownsRow B 117 1 (.slice (some ⟨ga,0,none⟩) N cap) N (ints .u32 us)∧wr.ownsRow B 117 1 vq m (ints .u32 (List.replicate k 0++qs))∧Rd wr 1 vy n (ints .u32 (limbs b))∧Below B w wr
theorem vZ {w:World} {g j:Nat} {u:Value}:w.grownBy (w.setCell ⟨g,j,none⟩ u) (some g):=mg (k8 _ _)
theorem DB {P:Program} {f:FuncId} {args:Array Value} {W w:World} {v:Value} (h:Calls P f args W fun e w'=>e=.returned v∧∃ k,w'=W.drewN k) (hW:∃ n,W=w.drewN n):
  Calls P f args W fun e w''=>e=.returned v∧∃ m,w''=w.drewN m:=
 h.mono fun _ _ ⟨he,k,hk⟩=>⟨he,by obtain ⟨n,hn⟩:=hW;exact ⟨n + k,by rw [hk,hn,World.drewN_drewN]⟩⟩
theorem DC {w w':World} (h:w.grownBy w' none):Below w.heap.size w w':=⟨h.os,h.tape,h.output,h.size,fun k hk=>h.block k hk (by simp)⟩
theorem Gw {a b N mq lb:Nat} (hN:N=(limbs a).length + 1) (hm:N=mq + lb) (C8:(limbs b).length=lb) (hb:b≠0):aq ((limbs a++[0]).drop mq) < b∧aq (limbs a++[0])=a:=by
 have hp:=de hb
 refine ⟨?_,by rw [dH,Nat.mul_zero,au];rfl⟩
 rw [List.drop_append_of_le_length (by omega),dH,Nat.mul_zero,Nat.add_zero]
 have h1:=iR ((ay a).drop mq)
 rw [List.length_drop,show (limbs a).length - mq=(limbs b).length - 1 by omega] at h1
 exact Nat.lt_of_lt_of_le h1 (zm hb)
set_option maxRecDepth 100000 in
set_option maxHeartbeats 4000000 in
theorem tM (va vb:Value) (n m:Nat) (xs ys:List Nat) (w:World) (hr:Rd w 1 va n (ints .u32 xs)) (hs:Rd w 1 vb m (ints .u32 ys)) (hx:bU xs) (hy:bU ys) (hn:n≤536870912) (hm:m≤536870912):
  Calls Tryz.prog 135 #[va,vb] w fun e w'=>Divided w w' (aq xs) (aq ys) e∧Below w.heap.size w w':=by
 obtain ⟨p,c,rfl,eR,eT,eu⟩:=hr.u32
 obtain ⟨q,d,rfl,H7,Dm,jH⟩:=hs.u32
 have Hs:=Lib.hid hs
 obtain ⟨B,hB⟩:∃ B,B=w.heap.size:=⟨_,rfl⟩
 have HB:=Lib.hid hB
 obtain ⟨a,ha⟩:∃ a,a=aq xs:=⟨_,rfl⟩
 obtain ⟨b,hb⟩:∃ b,b=aq ys:=⟨_,rfl⟩
 have hal:(limbs a).length≤n:=by rw [ha,←eu];exact ia hx
 have hbl:(limbs b).length≤m:=by rw [hb,←jH];exact ia hy
 refine aO fun R' bu=> ?_
 go_enter Tryz.func135,Tryz.ntmps135
 go_wp2_with fail
 refine (ja _ n xs _ hr hx (by omega)).mono ?_
 rintro e w1 ⟨v1,rfl,fv,aV⟩
 rw [←ha] at fv
 go_wp2_with fail
 refine (ja _ m ys _ (hs.below aV) hy (by omega)).mono ?_
 rintro e w2 ⟨v2,rfl,jT,bl⟩
 rw [←hb] at jT
 rw [←ha,←hb,←hB] at bu
 have qL:Hid (w2.ownsRow B 117 1 v1 (limbs a).length (ints .u32 (limbs a))):=by show World.ownsRow ..;rw [hB];exact Own.below fv bl
 have mL:Hid (w2.ownsRow B 117 1 v2 (limbs b).length (ints .u32 (limbs b))):=Own.mono jT (by rw [hB];exact aV.size)
 have tP:Hid (Below B w w2):=by show Below ..;rw [hB];exact Below.aJ aV bl
 have hBs:B≤w2.heap.size:=by rw [hB];exact tP.out.size
 obtain ⟨p1,c1,rfl,_,hc1m,_⟩:=Own.form qL.out
 obtain ⟨p2,c2,rfl,_,hc2m,_⟩:=Own.form mL.out
 clear hr hs hx hy fv jT aV bl eu jH ha hb hB Hs
 unfold maxLen at hc1m hc2m
 generalize Ib:(limbs a).length=la at *
 generalize C8:(limbs b).length=lb at *
 have Ia:=Lib.hid Ib
 have Ic:=Lib.hid C8
 by_cases oH:b=0
 ·obtain rfl:lb=0:=by rw [oH,bB] at C8;exact C8.symm
  clear Ib C8
  go_wp2_with fail
  go_ret3
  exact bu.out _ _ ⟨.inl ⟨oH,rfl⟩,tP.out⟩
 ·have hlb0:lb≠0:=fun h=>oH (nC (by rw [Ic.out];exact h))
  have hz:((lb:Int) == 0)=false:=by rw [beq_eq_false_iff_ne];omega
  have HNZ:=Lib.hid oH
  clear oH Ib C8
  go_wp2_with fail
  refine (zn _ _ la lb (limbs a) (limbs b) _ (Rd.own qL.out) (Rd.own mL.out) (ay a) (ay b)).mono ?_
  rintro e w3 ⟨rfl,k3,rfl⟩
  rw [au,au]
  by_cases uR:a < b
  ·have hc:fQ a b < 0:=iY.2 uR
   generalize fQ a b=cv at hc ⊢
   go_wp2_with fail
   go_ret3
   refine bu.out _ _ ⟨.inr ⟨HNZ.out,_,_,rfl,?_,?_⟩,Below.drewN tP.out _⟩
   ·rw [Nat.div_eq_of_lt uR,bB];exact World.ownsRow_nil _ _ _ _
   ·rw [Nat.mod_eq_of_lt uR,Ia.out];exact Own.mono (Own.drewN qL.out _) (by have:=HB.out;omega)
  ·have hc:0≤fQ a b:=by have:=mt (@iY a b).1 uR;omega
   generalize fQ a b=cv at hc ⊢
   have HAB:=Lib.hid uR
   have IL:=Lib.hid (Own.drewN qL.out k3)
   have Gx:=Lib.hid (Own.drewN mL.out k3)
   have H9:=Lib.hid (Below.drewN tP.out k3)
   have I1:B≤(w2.drewN k3).heap.size:=hBs
   clear qL mL tP hBs uR
   generalize w2.drewN k3=w3 at *
   by_cases hlb1:lb=1
   ·have HL1:=Lib.hid hlb1
    subst hlb1
    obtain ⟨gb,ob,t,rfl,_,htk,hct⟩:=(Rd.own Gx.out).cellAt (k:=0) (by omega)
    have ht4:=(ay b).at htk
    have htb:t=b:=by
     have h1:=a9 (limbs b) 0
     rw [getD_some htk,bm (by rw [Ic.out];omega),au] at h1
     simp [dX] at h1
     omega
    have HTB:=Lib.hid htb
    rw [Nat.add_zero] at hct
    have Gk:=iT hct
    simp only at Gk
    clear htk htb hz hlb0
    go_wp2_with fail
    refine (qV _ la t (limbs a) _ (Rd.own IL.out) (ay a) (by omega) ht4).mono ?_
    rintro e w4 ⟨⟨h,rfl⟩ | ⟨h,v4,rfl,rj⟩,gT⟩
    ·exact absurd (by rw [←HTB.out];exact h) HNZ.out
    rw [au] at rj ⊢
    have HO5:=Lib.hid (Own.mono rj I1)
    have I2:=Lib.hid (H9.out.trans (gT.mono I1))
    have Gy:B≤w4.heap.size:=Nat.le_trans I1 gT.size
    have hrt:a % t < 4294967296:=Nat.lt_trans (Nat.mod_lt _ (by omega)) ht4
    obtain ⟨r,hr⟩:∃ r,r=a % t:=⟨_,rfl⟩
    rw [←hr] at hrt ⊢
    have HR:=Lib.hid hr
    clear rj gT hct Gk h hr
    go_wp2_with fail
    refine (ja _ 1 [r] _ (Rd.lit1 rfl) (bU.cons hrt bU.nil) (by omega)).mono ?_
    rintro e w5 ⟨v5,rfl,wh,hbx⟩
    have gg:Below w4.heap.size w4 w5:=((Below.refl w4.heap.size w4).alloc (Nat.le_refl _) (.cells #[.int .u32 (r:Int)] 117)).trans (hbx.mono (by simp))
    rw [show aq [r]=r by simp [fh,dX]] at wh
    go_wp2_with fail
    go_ret3
    refine bu.out _ _ ⟨.inr ⟨HNZ.out,_,_,rfl,?_,?_⟩,I2.out.trans (gg.mono Gy)⟩
    ·rw [←HTB.out];exact Own.mono (Own.below HO5.out gg) (by have:=HB.out;omega)
    ·rw [←HTB.out,←HR.out];exact Own.mono wh (by have:=HB.out;simp;omega)
   ·obtain ⟨mm,yr⟩:∃ mm,lb=mm + 2:=⟨lb - 2,by omega⟩
    have HMM:=Lib.hid yr
    have kZ:((lb:Int) == 1)=false:=by rw [beq_eq_false_iff_ne];omega
    obtain ⟨l1,zy⟩:∃ l1,lb=l1 + 1:=⟨lb - 1,by omega⟩
    have HL1:=Lib.hid zy
    have hwl1:IntKind.i64.wrap ((lb:Int) - 1)=(l1:Int):=by rw [IntWalk.i64_in _ (by omega)];omega
    obtain ⟨gb,ob,t,rfl,_,htk,hct⟩:=(Rd.own Gx.out).cellAt (k:=l1) (by omega)
    have ht4:=(ay b).at htk
    have Gk:=iT hct
    simp only at Gk
    have htk2:(limbs b)[(limbs b).length - 1]? =some t:=by rw [Ic.out,HL1.out];exact htk
    have ht0:=(AU htk2).2
    have HTK:=Lib.hid htk2
    have hl1lt:(l1:Int) < (lb:Int):=by omega
    clear htk htk2 hlb1 yr zy
    go_wp2_with fail
    refine (A4 t _ ht4 ht0).mono ?_
    rintro e w4 ⟨⟨u,rfl,hu32,htu⟩,rfl⟩
    go_wp2_with fail
    refine (sO _ lb b (u:Int) (limbs b) _ (Rd.own Gx.out) (ay b) (au b) (by omega) (by omega) (by omega)).mono ?_
    rintro e w4 ⟨⟨_,h,_⟩ | ⟨_,v4,rfl,rj⟩,gT⟩
    ·omega
    have es:fZ b (u:Int)=b * 2 ^ u:=by unfold fZ;rw [if_pos (by omega),Int.toNat_natCast]
    rw [es] at rj
    have EZ:(limbs (b * 2 ^ u)).length=lb:=by rw [Be HNZ.out HTK.out hu32 htu];exact Ic.out
    have lD:b * 2 ^ u≠0:=Nat.mul_ne_zero HNZ.out (Nat.pos_iff_ne_zero.1 (Nat.pow_pos (by omega)))
    have hle4:b * 2 ^ u≤a * 2 ^ u:=Nat.mul_le_mul_right _ (by have:=HAB.out;omega)
    have HDV:=Lib.hid (Gu (a:=a) (b:=b) (u:=u))
    have HMD:=Lib.hid (Gv (a:=a) (b:=b) (u:=u))
    have hla5:=tK a u hu32
    rw [Ia.out] at hla5
    have HES:Hid (fZ ((a % b) * 2 ^ u) (-(u:Int))=a % b):=by
     show _=_
     unfold fZ
     by_cases h0:u=0
     ·subst h0;simp
     ·rw [if_neg (by omega),Int.neg_neg,Int.toNat_natCast,Nat.mul_div_cancel _ (Nat.pow_pos (by omega))]
    have HES2:Hid (fZ a (u:Int)=a * 2 ^ u):=by show _=_;unfold fZ;rw [if_pos (by omega),Int.toNat_natCast]
    generalize xJ:b * 2 ^ u=b' at *
    generalize ha':a * 2 ^ u=a' at *
    rw [EZ] at rj
    have hlb5:lb≤(limbs a').length:=by rw [←EZ];exact ct hle4
    obtain ⟨gy,cy,rfl,hgy3,hgy4⟩:=Own.uU rj (by omega)
    have HY4:=Lib.hid rj
    have I2:=Lib.hid (H9.out.trans (gT.mono I1))
    have Gy:B≤w4.heap.size:=Nat.le_trans I1 gT.size
    have HA4:=Lib.hid (Own.below IL.out gT)
    have Bf:=Lib.hid EZ
    clear rj gT htu ht0 ht4 hct Gk EZ hle4 es HTK IL Gx
    go_wp2_with fail
    refine (sO _ la a (u:Int) (limbs a) _ (Rd.own HA4.out) (ay a) (au a) (by omega) (by omega) (by omega)).mono ?_
    rintro e w5 ⟨⟨_,h,_⟩ | ⟨_,v5,rfl,wh⟩,gg⟩
    ·omega
    rw [HES2.out] at wh
    generalize hl5:(limbs a').length=la' at *
    have HL5:=Lib.hid hl5
    have HA5:=Lib.hid wh
    have HY5:=Lib.hid (Own.below HY4.out gg)
    have HB5:=Lib.hid (I2.out.trans (gg.mono Gy))
    have hs5:=gg.size
    have I3:=Lib.hid gg
    obtain ⟨p5,c5,rfl,_,_,_⟩:=Own.form wh
    obtain ⟨N,hN⟩:∃ N,N=la' + 1:=⟨_,rfl⟩
    have HNN:=Lib.hid hN
    obtain ⟨mq,hmq⟩:∃ mq,N=mq + lb:=⟨N - lb,by omega⟩
    have HMQ:=Lib.hid hmq
    have hmq0:0 < mq:=by omega
    have hwm:IntKind.i64.wrap ((N:Int) - (lb:Int))=(mq:Int):=by rw [IntWalk.i64_in _ (by omega)];omega
    obtain ⟨i0,hi,kC,kZ,lJ⟩:=info_parts iV
    have hN30:N≤1073741824:=by omega
    have hla30:la'≤1073741824:=by omega
    have hmq30:mq≤1073741824:=by omega
    clear wh gg hl5 hmq HA4 hN
    go_wp2_with (first
     | (at_builtin;refine dm rfl _ _ 22 rfl w4.heap.size 117 i0 (.int .u32 0) 4 Tryz.underlying22 hi kC kZ lJ rfl HA5.out rfl rfl (d:=0) rfl (by omega) (by omega) hs5 ?_;intro v6 w6 E0 DD;rw [←HNN.out] at E0;obtain ⟨ga,ca,rfl,hga5,hga6⟩:=Own.uU E0 (by have:=HNN.out;omega))
     | (at_make;refine wpList_make_full _ rfl _ _ 22 rfl B 117 i0 (.int .u32 0) 1 Tryz.underlying22 hi kC kZ .i64 .i64 _ _ mq rfl rfl (by have:=HMQ.out;omega) (by have:=HMQ.out;omega) (by rw [lJ];have:=HMQ.out;omega) (by unfold maxLen;have:=HMQ.out;omega) (by have:=(DD w4 I3.out).size;omega) ?_;intro w7 hown7 hgr7))
    obtain ⟨gq,hgq⟩:∃ gq,gq=w6.heap.size:=⟨_,rfl⟩
    have I4:=DD w4 I3.out
    have hb67:=DC hgr7
    have E5:=Own.made hown7
    rw [List.nil_append] at E5
    rw [←hgq] at E5 ⊢
    have hne1:ga≠gq:=by omega
    have hne2:gy≠ga:=by omega
    have hne3:gy≠gq:=by have:=I4.size;omega
    have HA7:Hid (w7.ownsRow B 117 1 (.slice (some ⟨ga,0,none⟩) N ca) N (ints .u32 (limbs a'++[0]))):=Own.mono (Own.below E0 hb67) Gy
    have HQ7:=Lib.hid E5
    have HY7:Hid (Rd w7 1 (.slice (some ⟨gy,0,none⟩) lb cy) lb (ints .u32 (limbs b'))):=(Rd.own (Own.below HY4.out I4)).below hb67
    have HB7:Hid (Below B w w7):=(I2.out.trans (I4.mono Gy)).trans (hb67.mono (Nat.le_trans Gy I4.size))
    have HST:=Lib.hid (Gw (N:=N) (mq:=mq) (lb:=lb) (a:=a') (b:=b') (by rw [HL5.out];exact HNN.out) HMQ.out Bf.out lD)
    clear E0 hown7 hgr7 DD I4 hb67 E5 hgq HA5 HY5 HY4 HB5 I2 I3 hi kC kZ lJ
    go_loopw [12] (fun iv wr=>I0 w B N ca lb mq b' a' ga (.slice (some ⟨gy,0,none⟩) lb cy) (.slice (some ⟨gq,0,none⟩) mq mq) iv wr) (fun iv _=>(intOf iv + 1).toNat)
    case atStart=>exact ⟨mq,_,[],Nat.le_refl _,rfl,by rw [List.length_append,HL5.out,HNN.out];rfl,(ay a').append (bU.cons (by omega) bU.nil),HST.out.1,by simp,bU.nil,by rw [HST.out.2];simp [dX],HA7.out,by simpa using HQ7.out,HY7.out,HB7.out⟩
    case round=>
     obtain ⟨k,us,qs,Dr,rfl,Db,hulim,AZ,zB,hqlim,hval,hoa,Bg,hry,jI⟩:=hrel
     have HUL:=Lib.hid Db
     have wi:=Lib.hid hulim
     have HDROP:=Lib.hid AZ
     have HQL:=Lib.hid zB
     have HQLIM:=Lib.hid hqlim
     have HVAL:=Lib.hid hval
     have HOA:=Lib.hid hoa
     have HOQ:=Lib.hid Bg
     have HRY:=Lib.hid hry
     have gA:=Lib.hid jI
     clear Db hulim AZ zB hqlim hval hoa Bg hry jI
     by_cases xV:k=0
     ·subst xV
      have hv:=HVAL.out
      have hd:=HDROP.out
      rw [List.drop_zero] at hd
      rw [Nat.pow_zero,Nat.one_mul] at hv
      have hq1:aq qs=a / b:=by
       rw [←HDV.out,←hv,Nat.add_mul_div_left _ _ (by omega),Nat.div_eq_of_lt hd,Nat.zero_add]
      have iC:aq us=(a % b) * 2 ^ u:=by
       rw [←HMD.out,←hv,Nat.add_mul_mod_self_left,Nat.mod_eq_of_lt hd]
      have HQ1:=Lib.hid hq1
      have HR1:=Lib.hid iC
      have hBr:B≤w.heap.size:=by have:=HB.out;omega
      have hBw:=gA.out.size
      clear hv hd hq1 iC
      go_wp2_with fail
      refine (sO _ N ((a % b) * 2 ^ u) (-(u:Int)) us _ (Rd.own HOA.out) wi.out HR1.out (by omega) (by omega) (by omega)).mono ?_
      rintro e w8 ⟨⟨_,h,_⟩ | ⟨_,v8,rfl,yt⟩,qM⟩
      ·omega
      rw [HES.out] at yt
      have HO8:=Lib.hid (Own.mono yt (Nat.le_trans hBr hBw))
      have HB8:=Lib.hid (gA.out.trans (qM.mono (Nat.le_trans hBr hBw)))
      have hq8:=Own.below HOQ.out qM
      rw [List.replicate_zero,List.nil_append] at hq8
      have HQ8:=Lib.hid hq8
      have hs8:=qM.size
      clear yt qM hq8
      go_wp2_with fail
      refine (ja _ mq qs _ (Rd.own HQ8.out) HQLIM.out (by omega)).mono ?_
      rintro e w9 ⟨v9,rfl,hown9,E6⟩
      rw [HQ1.out] at hown9
      go_wp2_with fail
      go_ret3
      refine bu.out _ _ ⟨.inr ⟨HNZ.out,_,_,rfl,?_,?_⟩,HB8.out.trans (E6.mono (by omega))⟩
      ·exact Own.mono hown9 (by omega)
      ·exact Own.mono (Own.below HO8.out E6) (by have:=HB.out;omega)
     ·obtain ⟨i,hi⟩:∃ i,k=i + 1:=⟨k - 1,by omega⟩
      subst hi
      have hjj:((i + 1:Nat):Int) - 1=(i:Int):=by omega
      rw [hjj]
      have hmq:=HMQ.out
      have yr:=HMM.out
      have zy:=HL1.out
      obtain ⟨hi,h1⟩:∃ hi,us[i + (mm + 2)]? =some hi:=⟨_,List.getElem?_eq_getElem (by rw [HUL.out];omega)⟩
      obtain ⟨mid,h2⟩:∃ mid,us[i + (mm + 1)]? =some mid:=⟨_,List.getElem?_eq_getElem (by rw [HUL.out];omega)⟩
      obtain ⟨low,h3⟩:∃ low,us[i + mm]? =some low:=⟨_,List.getElem?_eq_getElem (by rw [HUL.out];omega)⟩
      obtain ⟨v1,h4⟩:∃ v1,(limbs b')[mm + 1]? =some v1:=⟨_,List.getElem?_eq_getElem (by rw [Bf.out];omega)⟩
      obtain ⟨v2,h5⟩:∃ v2,(limbs b')[mm]? =some v2:=⟨_,List.getElem?_eq_getElem (by rw [Bf.out];omega)⟩
      have AG:0 < v1:=Nat.pos_iff_ne_zero.2 (AU (n:=b') (t:=v1) (by rw [Bf.out,show lb - 1=mm + 1 by omega];exact h4)).2
      have hwin:=Gt (m:=mm) HUL.out (by omega) wi.out (ay b') (by rw [Bf.out];exact yr) (au b') HDROP.out h1 h2 h3 h4 h5 AG
      have zC:=Lib.hid hwin
      have hhi:=hwin.hi_le
      have z1:=wi.out.at h1
      have z2:=wi.out.at h2
      have z3:=wi.out.at h3
      have z4:=(ay b').at h4
      have z5:=(ay b').at h5
      obtain ⟨x1,e1,c1',f1⟩:=Own.gm HOA.out (j:=i + (mm + 2)) (by omega)
      obtain ⟨x2,e2,c2',f2⟩:=Own.gm HOA.out (j:=i + (mm + 1)) (by omega)
      obtain ⟨x3,e3,nt,f3⟩:=Own.gm HOA.out (j:=i + mm) (by omega)
      rw [h1] at e1;rw [h2] at e2;rw [h3] at e3
      obtain rfl:=Option.some.inj e1
      obtain rfl:=Option.some.inj e2
      obtain rfl:=Option.some.inj e3
      obtain ⟨g4,o4,x4,hp4,hg4,e4,c4'⟩:=HRY.out.cellAt (k:=mm + 1) (by omega)
      obtain ⟨g5,o5,x5,hp5,Dc,e5,c5'⟩:=HRY.out.cellAt (k:=mm) (by omega)
      simp only [Option.some.injEq,Addr.mk.injEq,and_true] at hp4 hp5
      obtain ⟨rfl,rfl⟩:=hp4
      obtain ⟨rfl,hz5⟩:=hp5
      subst hz5
      rw [h4] at e4;rw [h5] at e5
      obtain rfl:=Option.some.inj e4
      obtain rfl:=Option.some.inj e5
      rw [Nat.zero_add] at c4' c5'
      obtain ⟨J0,hJ0⟩:∃ J0,J0=i + (mm + 2):=⟨_,rfl⟩
      obtain ⟨J1,hJ1⟩:∃ J1,J1=i + (mm + 1):=⟨_,rfl⟩
      obtain ⟨J2,hJ2⟩:∃ J2,J2=i + mm:=⟨_,rfl⟩
      rw [←hJ0] at c1' f1;rw [←hJ1] at c2' f2;rw [←hJ2] at nt f3
      rw [show mm + 1=l1 by omega] at c4'
      obtain ⟨J3,hJ3⟩:∃ J3,J3=J0 + 1:=⟨_,rfl⟩
      have hw0:IntKind.i64.wrap ((i:Int) + (lb:Int))=(J0:Int):=by rw [IntWalk.i64_in _ (by omega)];omega
      have uY:IntKind.i64.wrap ((J0:Int) - 1)=(J1:Int):=by rw [IntWalk.i64_in _ (by omega)];omega
      have hw2:IntKind.i64.wrap ((J0:Int) - 2)=(J2:Int):=by rw [IntWalk.i64_in _ (by omega)];omega
      have hw4:IntKind.i64.wrap ((lb:Int) - 2)=(mm:Int):=by rw [IntWalk.i64_in _ (by omega)];omega
      have hw5:IntKind.i64.wrap ((J0:Int) + 1)=(J3:Int):=by rw [IntWalk.i64_in _ (by omega)];omega
      have b0:(J0:Int) < (N:Int):=by omega
      have b1:(J1:Int) < (N:Int):=by omega
      have b2:(J2:Int) < (N:Int):=by omega
      have b3:(l1:Int) < (lb:Int):=by omega
      have b4:(mm:Int) < (lb:Int):=by omega
      have t1:=iT c1'
      have t4:=iT c4'
      simp only at t1 t4
      have HJ0:=Lib.hid hJ0
      have HJ3:=Lib.hid hJ3
      have Dw:i < mq:=by omega
      have HCAP:Hid (N≤ca∧ca≤9223372036854775807):=by
       obtain ⟨_,_,hv,hcap,hcapm,_⟩:=Own.form HOA.out
       simp only [Value.slice.injEq,true_and] at hv
       obtain ⟨_,rfl⟩:=hv
       unfold maxLen at hcapm
       exact ⟨hcap,by omega⟩
      clear e1 e2 e3 e4 e5 h1 h2 h3 h4 h5 hwin hJ0 hJ1 hJ2 hJ3 hmq yr zy hg4 Dc
      go_wp2_with fail
      go_quiet ((go_at_call 146;exact DB (Gq hi mid low v1 v2 _ hhi z2 z3 AG z4 z5) ⟨_,rfl⟩))
      have hcap:=HCAP.out
      have b5:(J3:Int)≤(ca:Int):=by have:=HJ3.out;omega
      have b6:(i:Int)≤(J3:Int):=by have:=HJ3.out;have:=HJ0.out;omega
      have b7:(i:Int) < (ca:Int):=by have:=HJ3.out;have:=HJ0.out;omega
      have b8:¬ ca - i=0:=by omega
      have b9:ca≠i:=by omega
      clear c1' c2' nt c4' c5' f1 f2 f3 uY hw2 hw4 b1 b2 b3 b4
      go_wp2_with fail
      obtain ⟨G,hG⟩:∃ G,G=gG ((hi * 4294967296 + mid) * 4294967296 + low) (v1 * 4294967296 + v2):=⟨_,rfl⟩
      have Bh:=zC.out.near
      rw [←hG] at Bh ⊢
      have hG4:G≤4294967295:=by rw [hG];exact Nat.min_le_left _ _
      have hoa:=Own.drewN HOA.out nq
      rw [zC.out.split] at hoa
      have hJ:J3 - i=mm + 3:=by have:=HJ3.out;have:=HJ0.out;omega
      refine (IX ga N ca i (J3 - i) (ca - i) lb G B (us.take i) _ _ (limbs b') _ _ hoa zC.out.pre (by rw [zC.out.len,hJ]) zC.out.lim (Rd.drewN HRY.out nq) (ay b') (fun p c a h1 h2=>by cases h1;cases h2;exact hne2) (by rw [hJ,HMM.out]) (by have:=HJ3.out;omega) (by omega) (by omega) (by rw [au];exact Bd Bh.2)).mono ?_
      rintro e w8 ⟨q',rfl,A',hA'l,I5,hA'v,hq',yt,hg8⟩
      rw [au] at hA'v hq'
      have uD:0 < b':=by omega
      obtain ⟨hqd,IZ⟩:=Dz uD Bh.1 Bh.2 hA'v hq'
      have hq4:q' < 4294967296:=by rcases hq' with ⟨_,h⟩ | ⟨_,h⟩ <;> omega
      have hst:=DA zC.out.split zC.out.pre zC.out.zero hA'v IZ HVAL.out
      have hq8:=(Own.drewN HOQ.out nq).kept hg8 (.inr (by simp [Value.ownBlock];omega))
      have hry8:=(Rd.drewN HRY.out nq).qZ hg8 (fun p c a h1 h2=>by cases h1;cases h2;exact hne2)
      have hbw8:Below B w w8:=(Below.drewN gA.out nq).grown hg8 (Nat.le_trans (by have:=HB.out;omega) gA.out.size) (fun k hk=>by cases hk;exact (Own.lt HOA.out).1)
      obtain ⟨x8,hx8,hc8,hf8⟩:=Own.gm hq8 (j:=i) Dw
      have hl8:=iT hc8
      simp only at hl8
      have Bi:(us.take i++(A'++us.drop (i + (mm + 3)))).length=N:=by
       have h1:=congrArg List.length zC.out.split
       rw [HUL.out] at h1
       simp only [List.length_append] at h1 ⊢
       omega
      have A6:bU (us.take i++(A'++us.drop (i + (mm + 3)))):=(wi.out.take _).append (I5.append (wi.out.drop _))
      have hq9:=Own.fR (j:=i) (x:=q') hq8
      rw [zA] at hq9
      have HREL:Hid (I0 w B N ca lb mq b' a' ga (.slice (some ⟨gy,0,none⟩) lb cy) (.slice (some ⟨gq,0,none⟩) mq mq) (.int .i64 ((i:Int) - 1)) (w8.setCell ⟨gq,i,none⟩ (.int .u32 (q':Int)))):=
       ⟨i,_,q'::qs,by omega,rfl,Bi,A6,hst.1,by rw [List.length_cons,HQL.out];omega,bU.cons hq4 HQLIM.out,hst.2,yt.kept vZ (.inr (by simp [Value.ownBlock];omega)),hq9,hry8.qZ vZ (fun p c a h1 h2=>by cases h1;cases h2;exact hne3),hbw8.setCell (p:=⟨gq,i,none⟩) (Own.lt hq8).1 _⟩
      clear hA'l I5 hA'v hq' yt hg8 hqd IZ hst hq8 hry8 hbw8 hx8 Bi A6 hq9 hoa Bh hG hJ
      go_wp2_with fail
      go_roundw
      case rel=>exact HREL.out
      case measure=>simp [intOf]
end Go.Proofs.YtabalinjfgcfeaaGreat
namespace Go.Proofs.YtabalinjfgcfeaaGreat
open Go.RowKit
def xX (neg:Bool) (xs:List Nat):Int:=if neg=true then -(aq xs:Int) else (aq xs:Int)
def dv (neg:Bool) (xs:List Nat):Bool:=match xs.getLast? with | none=> !neg | some x=>decide (x≠0)
def numOf (neg:Bool) (xs:List Nat):Int:=if dv neg xs=true then xX neg xs else 0
theorem pY (neg:Bool):dv neg []= !neg:=rfl
theorem tQ {neg:Bool} {xs:List Nat} {x:Nat} (h:xs[xs.length - 1]? =some x):dv neg xs=decide (x≠0):=by
 unfold dv
 rw [List.getLast?_eq_getElem?,h]
theorem E7 {neg:Bool} {xs:List Nat} (h:dv neg xs=true):∀ x,xs.getLast? =some x→x≠0:=by
 intro x hx
 unfold dv at h
 rw [hx] at h
 simpa using h
theorem rk {neg:Bool} {xs:List Nat} (hl:bU xs) (h:dv neg xs=true) (hx:xs≠[]):aq xs≠0:=by
 intro h0
 have:=pV hl (E7 h)
 rw [h0,bB] at this
 exact hx this.symm
theorem canon {neg:Bool} {xs:List Nat} (hl:bU xs) (h:dv neg xs=true):neg=decide (xX neg xs < 0)∧xs=limbs (xX neg xs).natAbs:=by
 have h1:=pV hl (E7 h)
 have h2:(xX neg xs).natAbs=aq xs:=by unfold xX;split <;> simp
 refine ⟨?_,by rw [h2,h1]⟩
 by_cases hx:xs=[]
 ·subst hx
  rw [pY] at h
  cases neg
  ·simp [xX,dX]
  ·cases h
 ·have:=rk hl h hx
  cases neg
  ·simp [xX]
  ·simp [xX];omega
theorem mh (X:Int):dv (decide (X < 0)) (limbs X.natAbs)=true:=by
 by_cases h:X=0
 ·subst h;simp [bB,dv]
 ·unfold dv
  cases hl:(limbs X.natAbs).getLast? with
  | none=>rw [List.getLast?_eq_none_iff,kX] at hl;omega
  | some x=>simpa using pW _ _ hl
theorem DF (X:Int):xX (decide (X < 0)) (limbs X.natAbs)=X:=by
 unfold xX
 rw [au]
 by_cases h:X < 0
 ·rw [if_pos (by simpa using h)];omega
 ·rw [if_neg (by simpa using h)];omega
theorem fA (X:Int):numOf (decide (X < 0)) (limbs X.natAbs)=X:=by
 unfold numOf;rw [if_pos (mh X),DF]
theorem yu {neg:Bool} {xs:List Nat} (hl:bU xs):(limbs (numOf neg xs).natAbs).length≤xs.length:=by
 unfold numOf
 split
 ·rename_i h
  rw [←(canon hl h).2];exact Nat.le_refl _
 ·rw [show (0:Int).natAbs=0 from rfl,bB];exact Nat.zero_le _
def eV (w:World) (v:Value) (neg:Bool) (xs:List Nat):Prop:=∃ p c,v=.agg #[.bool neg,.slice p xs.length c]∧Rd w 1 (.slice p xs.length c) xs.length (ints .u32 xs)∧bU xs
def bO (w:World) (v:Value) (X:Int) (k:Nat):Prop:=∃ neg xs,eV w v neg xs∧X=numOf neg xs∧xs.length≤k
def bN (w:World) (v:Value) (X:Int):Prop:=eV w v (decide (X < 0)) (limbs X.natAbs)
def aC (w:World) (B:Nat) (v:Value) (X:Int):Prop:=∃ p c,v=.agg #[.bool (decide (X < 0)),.slice p (limbs X.natAbs).length c]∧w.ownsRow B 117 1 (.slice p (limbs X.natAbs).length c) (limbs X.natAbs).length (ints .u32 (limbs X.natAbs))
def aj (w w':World):Prop:=Below w.heap.size w w'
theorem aj.refl (w:World):aj w w:=Below.refl _ _
theorem aj.alloc {w w':World} (h:aj w w') (o:Obj):aj w (w'.alloc o):=Below.alloc h h.size o
theorem aj.drew {w w':World} (h:aj w w'):aj w w'.drew:=Below.drew h
theorem aj.drewN {w w':World} (h:aj w w') (n:Nat):aj w (w'.drewN n):=Below.drewN h n
theorem aj.aJ {a b c:World} (h:aj a b) (k:aj b c):aj a c:=Below.aJ h k
theorem aj.setCell {w w':World} (h:aj w w') {p:Addr} (hp:w.heap.size≤p.block) (v:Value):aj w (w'.setCell p v):=Below.setCell h hp v
theorem aj.cell {w w':World} (h:aj w w') {a:Addr} {u:Value} (hc:w.cell? a=some u):w'.cell? a=some u:=Below.keeps h _ _ hc
theorem aj.size {w w':World} (h:aj w w'):w.heap.size≤w'.heap.size:=Below.size h
theorem eV.bh {w w':World} {v:Value} {neg:Bool} {xs:List Nat} (h:eV w v neg xs) (hb:aj w w'):eV w' v neg xs:=by
 obtain ⟨p,c,hv,hr,hl⟩:=h
 exact ⟨p,c,hv,hr.below hb,hl⟩
theorem bO.bh {w w':World} {v:Value} {X:Int} {k:Nat} (h:bO w v X k) (hb:aj w w'):bO w' v X k:=by
 obtain ⟨neg,xs,hn,hx,hk⟩:=h
 exact ⟨neg,xs,hn.bh hb,hx,hk⟩
theorem bN.bh {w w':World} {v:Value} {X:Int} (h:bN w v X) (hb:aj w w'):bN w' v X:=eV.bh h hb
theorem aC.rd {w:World} {B:Nat} {v:Value} {X:Int} (h:aC w B v X):bN w v X:=by
 obtain ⟨p,c,hv,ho⟩:=h
 exact ⟨p,c,hv,Rd.own ho,ay _⟩
theorem aC.mono {w:World} {B B':Nat} {v:Value} {X:Int} (h:aC w B v X) (hB:B'≤B):aC w B' v X:=by
 obtain ⟨p,c,hv,ho⟩:=h
 exact ⟨p,c,hv,Own.mono ho hB⟩
theorem bN.to {w:World} {v:Value} {X:Int} {k:Nat} (h:bN w v X) (hk:(limbs X.natAbs).length≤k):bO w v X k:=⟨_,_,h,(fA X).symm,hk⟩
theorem bO.len {w:World} {v:Value} {X:Int} {k:Nat} (h:bO w v X k):(limbs X.natAbs).length≤k:=by
 obtain ⟨neg,xs,⟨_,_,_,_,hl⟩,rfl,hk⟩:=h
 exact Nat.le_trans (yu hl) hk
theorem bN.zero (w:World):bN w (.agg #[.bool false,.slice none 0 0]) 0:=by
 refine ⟨none,0,?_,?_,ay _⟩
 ·simp [bB]
 ·simp only [show (0:Int).natAbs=0 from rfl,bB];exact Rd.nil w 1
theorem aC.zero (w:World) (B:Nat):aC w B (.agg #[.bool false,.slice none 0 0]) 0:=by
 refine ⟨none,0,?_,?_⟩
 ·simp [bB]
 ·simp only [show (0:Int).natAbs=0 from rfl,bB];exact World.ownsRow_nil _ _ _ _
theorem aC.of {w:World} {B:Nat} {neg:Bool} {p:Option Addr} {n c m:Nat} (h:w.ownsRow B 117 1 (.slice p n c) (limbs m).length (ints .u32 (limbs m))) (hn:n=(limbs m).length) (X:Int) (hX:X=if neg=true then -(m:Int) else m):
  aC w B (.agg #[.bool (neg && decide (0 < n)),.slice p n c]) X:=by
 subst hn
 have h1:X.natAbs=m:=by rw [hX];split <;> simp
 refine ⟨p,c,?_,by rw [h1];exact h⟩
 rw [h1]
 congr 3
 by_cases hm:m=0
 ·subst hm
  have:X=0:=by omega
  rw [this];simp [bB]
 ·have:=de hm
  cases neg
  ·simp at hX;simp [hX]
  ·simp at hX;simp [hX];omega
theorem bN.of {w:World} {neg:Bool} {p:Option Addr} {n c m:Nat} (h:Rd w 1 (.slice p n c) (limbs m).length (ints .u32 (limbs m))) (hn:n=(limbs m).length) (X:Int) (hX:X=if neg=true then -(m:Int) else m):
  bN w (.agg #[.bool (neg && decide (0 < n)),.slice p n c]) X:=by
 subst hn
 have h1:X.natAbs=m:=by rw [hX];split <;> simp
 refine ⟨p,c,?_,by rw [h1];exact h,ay _⟩
 rw [h1]
 congr 3
 by_cases hm:m=0
 ·subst hm
  have:X=0:=by omega
  rw [this];simp [bB]
 ·have:=de hm
  cases neg
  ·simp at hX;simp [hX]
  ·simp at hX;simp [hX];omega
def Sz (X:Int) (k:Nat):Prop:=(limbs X.natAbs).length≤k
theorem Sz.lt {X:Int} {k:Nat} (h:Sz X k):X.natAbs < 4294967296 ^ k:=Nat.lt_of_lt_of_le (l9 _) (Nat.pow_le_pow_right (by omega) h)
theorem Sz.of_lt {X:Int} {k:Nat} (h:X.natAbs < 4294967296 ^ k):Sz X k:=gz k _ h
theorem Sz.mono {X:Int} {k l:Nat} (h:Sz X k) (Da:k≤l):Sz X l:=Nat.le_trans h Da
theorem Sz.le {X Y:Int} {k:Nat} (h:Sz Y k) (ES:X.natAbs≤Y.natAbs):Sz X k:=Nat.le_trans (ct ES) h
theorem Sz.neg {X:Int} {k:Nat} (h:Sz X k):Sz (-X) k:=Sz.le h (by rw [Int.natAbs_neg];exact Nat.le_refl _)
theorem Sz.add {X Y:Int} {k l m:Nat} (hx:Sz X k) (hy:Sz Y l) (hk:k≤m) (hl:l≤m):Sz (X + Y) (m + 1):=by
 refine Sz.of_lt ?_
 have h1:=Nat.lt_of_lt_of_le hx.lt (Nat.pow_le_pow_right (by omega) hk)
 have h2:=Nat.lt_of_lt_of_le hy.lt (Nat.pow_le_pow_right (by omega) hl)
 have h3:(X + Y).natAbs≤X.natAbs + Y.natAbs:=Int.natAbs_add_le X Y
 rw [Nat.pow_succ];omega
theorem Sz.mul {X Y:Int} {k l:Nat} (hx:Sz X k) (hy:Sz Y l):Sz (X * Y) (k + l):=by
 refine Sz.of_lt ?_
 rw [Int.natAbs_mul,Nat.pow_add]
 exact Nat.mul_lt_mul'' hx.lt hy.lt
theorem Sz.zero:Sz 0 0:=by show (limbs 0).length≤0;rw [bB];exact Nat.le_refl _
theorem Sz.small {X:Int} (h:X.natAbs < 4294967296):Sz X 1:=Sz.of_lt (by simpa using h)
def aW (w:World) (b:Nat) (t:TypeId) (cs:Array Value):Prop:=w.heap[b]? =some (.cells cs t (0,0))
theorem aW.lt {w:World} {b:Nat} {t:TypeId} {cs:Array Value} (h:aW w b t cs):b < w.heap.size:=(Array.getElem?_eq_some_iff.1 h).1
theorem aW.new (w:World) (t:TypeId) (cs:Array Value):aW (w.alloc (.cells cs t)) w.heap.size t cs:=World.alloc_heap_new w _
theorem aW.newAt {w:World} {b:Nat} (hb:b=w.heap.size) (t:TypeId) (cs:Array Value):aW (w.alloc (.cells cs t)) b t cs:=hb▸aW.new w t cs
theorem aW.bh {w w':World} {b:Nat} {t:TypeId} {cs:Array Value} (h:aW w b t cs) (hb:aj w w'):aW w' b t cs:=(Below.block hb b h.lt).trans h
theorem aW.alloc {w:World} {b:Nat} {t:TypeId} {cs:Array Value} (h:aW w b t cs) (o:Obj):aW (w.alloc o) b t cs:=h.bh ((aj.refl w).alloc o)
theorem aW.drew {w:World} {b:Nat} {t:TypeId} {cs:Array Value} (h:aW w b t cs):aW w.drew b t cs:=h
theorem aW.drewN {w:World} {b:Nat} {t:TypeId} {cs:Array Value} (h:aW w b t cs) (n:Nat):aW (w.drewN n) b t cs:=h
theorem aW.cell {w:World} {b j:Nat} {t:TypeId} {cs:Array Value} {u:Value} (h:aW w b t cs) (hj:cs[j]? =some u):w.cell? ⟨b,j,none⟩=some u:=by
 simp [World.cell?,show w.heap[b]? =_ from h,hj]
theorem aW.frozen {w:World} {b:Nat} {t:TypeId} {cs:Array Value} (h:aW w b t cs) (j:Nat):w.frozen? ⟨b,j,none⟩=false:=by
 simp [World.frozen?,show w.heap[b]? =_ from h]
theorem aW.set {w:World} {b j:Nat} {t:TypeId} {cs:Array Value} (h:aW w b t cs) (v:Value):aW (w.setCell ⟨b,j,none⟩ v) b t (cs.setIfInBounds j v):=by
 obtain ⟨hlt,hk⟩:=Array.getElem?_eq_some_iff.1 h
 show (w.heap.modify b _)[b]? =_
 rw [Array.getElem?_eq_getElem (by rw [Array.size_modify];exact hlt),Array.getElem_modify_self,hk]
 rfl
theorem aW.other {w:World} {b b' j:Nat} {t:TypeId} {cs:Array Value} (h:aW w b t cs) (hne:b≠b') (v:Value):aW (w.setCell ⟨b',j,none⟩ v) b t cs:=
 (Below.heap_setCell _ _ _ b hne).trans h
theorem aW.two {w:World} {b:Nat} {t:TypeId} {u v:Value} (h:aW w b t #[u,v]):w.cell? ⟨b,0,none⟩=some u∧w.cell? ⟨b,1,none⟩=some v∧w.frozen? ⟨b,0,none⟩=false∧w.frozen? ⟨b,1,none⟩=false:=
 ⟨h.cell rfl,h.cell rfl,h.frozen 0,h.frozen 1⟩
theorem aW.bA {w:World} {b:Nat} {t:TypeId} {u v:Value} (h:aW w b t #[u,v]) (u' v':Value):aW ((w.setCell ⟨b,0,none⟩ u').setCell ⟨b,1,none⟩ v') b t #[u',v']:=(h.set (j:=0) u').set (j:=1) v'
theorem aj.bA {w w':World} (h:aj w w') {b:Nat} (hb:w.heap.size≤b) (u v:Value):aj w ((w'.setCell ⟨b,0,none⟩ u).setCell ⟨b,1,none⟩ v):=(h.setCell (p:=⟨b,0,none⟩) hb u).setCell (p:=⟨b,1,none⟩) hb v
theorem ld (w:World) (t t':TypeId) (cs ic:Array Value):aW ((w.alloc (.cells cs t)).alloc (.cells ic t')) w.heap.size t cs∧aW ((w.alloc (.cells cs t)).alloc (.cells ic t')) (w.heap.size + 1) t' ic∧aj w ((w.alloc (.cells cs t)).alloc (.cells ic t')):=
 ⟨(aW.new _ _ _).alloc _,aW.newAt (by simp) _ _,((aj.refl w).alloc _).alloc _⟩
theorem mi (w:World) (t t' Dd:TypeId) (cs ic pt:Array Value):aW (((w.alloc (.cells cs t)).alloc (.cells ic t')).alloc (.cells pt Dd)) w.heap.size t cs∧aW (((w.alloc (.cells cs t)).alloc (.cells ic t')).alloc (.cells pt Dd)) (w.heap.size + 1) t' ic∧
  aW (((w.alloc (.cells cs t)).alloc (.cells ic t')).alloc (.cells pt Dd)) (w.heap.size + 2) Dd pt∧aj w (((w.alloc (.cells cs t)).alloc (.cells ic t')).alloc (.cells pt Dd)):=
 ⟨(ld w t t' cs ic).1.alloc _,(ld w t t' cs ic).2.1.alloc _,aW.newAt (by simp) _ _,(ld w t t' cs ic).2.2.alloc _⟩
def aA (W:World) (r:Nat) (w':World):Prop:=W.heap.size≤w'.heap.size∧∀ b,b < W.heap.size→b≠r→w'.heap[b]? =W.heap[b]?
theorem aA.refl (W:World) (r:Nat):aA W r W:=⟨Nat.le_refl _,fun _ _ _=>rfl⟩
theorem aA.drew {W w':World} {r:Nat} (h:aA W r w'):aA W r w'.drew:=h
theorem aA.aJ {W a b:World} {r:Nat} (h:aA W r a) (k:aj a b):aA W r b:=
 ⟨Nat.le_trans h.1 k.size,fun j hj hr=>(Below.block k j (Nat.lt_of_lt_of_le hj h.1)).trans (h.2 j hj hr)⟩
theorem aA.alloc {W a:World} {r:Nat} (h:aA W r a) (o:Obj):aA W r (a.alloc o):=h.aJ ((aj.refl a).alloc o)
theorem aA.set {W a:World} {r j:Nat} (h:aA W r a) (v:Value):aA W r (a.setCell ⟨r,j,none⟩ v):=
 ⟨Nat.le_trans h.1 (by simp),fun b hb hr=>(Below.heap_setCell _ _ _ b hr).trans (h.2 b hb hr)⟩
theorem aA.cls {W w':World} {r b:Nat} {t:TypeId} {cs:Array Value} (h:aA W r w') (hc:aW W b t cs) (hr:b≠r):aW w' b t cs:=(h.2 b hc.lt hr).trans hc
theorem aA.cells {W w':World} {r b:Nat} {t:TypeId} {u v:Value} (h:aA W r w') (hc:aW W b t #[u,v]) (hr:b≠r):w'.cell? ⟨b,0,none⟩=some u∧w'.cell? ⟨b,1,none⟩=some v:=
 ⟨(h.cls hc hr).cell rfl,(h.cls hc hr).cell rfl⟩
theorem aW.notRow {w:World} {b base e sz n:Nat} {t:TypeId} {cs:Array Value} {v:Value} {xs:List Value} (h:aW w b t cs) (hte:t≠e) (hr:w.ownsRow base e sz v n xs):some b≠v.ownBlock:=by
 rcases hr.2 with ⟨rfl,rfl⟩ | ⟨g,cap,cur,rfl,_,hg,_⟩
 ·simp [Value.ownBlock]
 ·intro e'
  obtain rfl:b=g:=by simpa [Value.ownBlock] using e'
  have:=(show w.heap[b]? =_ from h).symm.trans hg
  simp at this
  exact hte this.2
theorem Own.I6 {w:World} {b base e sz n j:Nat} {t:TypeId} {cs:Array Value} {v:Value} {xs:List Value} (hr:w.ownsRow base e sz v n xs) (h:aW w b t cs) (hte:t≠e) (u:Value):(w.setCell ⟨b,j,none⟩ u).ownsRow base e sz v n xs:=by
 refine ⟨hr.1,?_⟩
 rcases hr.2 with h2 | ⟨g,cap,cur,hv,hb,hg,r⟩
 ·exact .inl h2
 ·refine .inr ⟨g,cap,cur,hv,hb,?_,r⟩
  have hne:g≠b:=fun e'=>by
   have:=h.notRow hte hr
   rw [hv] at this
   simp [Value.ownBlock,e'] at this
  exact (Below.heap_setCell _ _ _ g hne).trans hg
theorem Own.bA {w:World} {b base e sz n:Nat} {t:TypeId} {x y:Value} {v:Value} {xs:List Value} (hr:w.ownsRow base e sz v n xs) (h:aW w b t #[x,y]) (hte:t≠e) (u u':Value):((w.setCell ⟨b,0,none⟩ u).setCell ⟨b,1,none⟩ u').ownsRow base e sz v n xs:=
 Own.I6 (Own.I6 hr h hte u) (h.set (j:=0) u) hte u'
theorem aW.dy {w:World} {b b':Nat} {t:TypeId} {cs:Array Value} (h:aW w b t cs) (hne:b≠b') (u v:Value):aW ((w.setCell ⟨b',0,none⟩ u).setCell ⟨b',1,none⟩ v) b t cs:=(h.other hne u).other hne v
theorem aC.bA {w:World} {B b:Nat} {t:TypeId} {x y v:Value} {X:Int} (h:aC w B v X) (hc:aW w b t #[x,y]) (ht:t≠117) (u u':Value):aC ((w.setCell ⟨b,0,none⟩ u).setCell ⟨b,1,none⟩ u') B v X:=by
 obtain ⟨p,c,hv,ho⟩:=h
 exact ⟨p,c,hv,Own.bA ho hc ht u u'⟩
theorem aC.form {w:World} {B:Nat} {v:Value} {X:Int} (h:aC w B v X):∃ s p n c,v=.agg #[.bool s,.slice p n c]:=by
 obtain ⟨p,c,hv,_⟩:=h
 exact ⟨_,_,_,_,hv⟩
theorem bN.ig {w:World} {v:Value} {X:Int} (h:bN w v X):∃ s p n c,v=.agg #[.bool s,.slice p n c]:=by
 obtain ⟨p,c,hv,_⟩:=h
 exact ⟨_,_,_,_,hv⟩
theorem bO.form {w:World} {v:Value} {X:Int} {k:Nat} (h:bO w v X k):∃ s p n c,v=.agg #[.bool s,.slice p n c]:=by
 obtain ⟨neg,xs,⟨p,c,hv,_⟩,_⟩:=h
 exact ⟨_,_,_,_,hv⟩
theorem aA.nK {W a:World} {r b j:Nat} (h:aA W r a) (hb:W.heap.size≤b) (v:Value):aA W r (a.setCell ⟨b,j,none⟩ v):=
 ⟨Nat.le_trans h.1 (by simp),fun k hk hr=>(Below.heap_setCell _ _ _ k (by show k≠b;omega)).trans (h.2 k hk hr)⟩
theorem bN.parts {w:World} {s:Bool} {p:Option Addr} {n c:Nat} {X:Int} (h:bN w (.agg #[.bool s,.slice p n c]) X):n=(limbs X.natAbs).length∧Rd w 1 (.slice p n c) n (ints .u32 (limbs X.natAbs))∧X=if s=true then -(X.natAbs:Int) else (X.natAbs:Int):=by
 obtain ⟨p',c',hv,hr,_⟩:=h
 simp only [Value.agg.injEq,Array.mk.injEq,List.cons.injEq,Value.bool.injEq,Value.slice.injEq,and_true] at hv
 obtain ⟨rfl,rfl,rfl,rfl⟩:=hv
 refine ⟨rfl,hr,?_⟩
 split
 ·rename_i h;have:=of_decide_eq_true h;omega
 ·rename_i h;have:¬ X < 0:=fun h'=>h (decide_eq_true h');omega
theorem bN.own {w w':World} {B:Nat} {s:Bool} {p p':Option Addr} {n c c':Nat} {X:Int} (h:bN w (.agg #[.bool s,.slice p n c]) X) (ho:w'.ownsRow B 117 1 (.slice p' n c') n (ints .u32 (limbs X.natAbs))):
  aC w' B (.agg #[.bool s,.slice p' n c']) X:=by
 obtain ⟨p1,c1,hv,hr,_⟩:=h
 simp only [Value.agg.injEq,Array.mk.injEq,List.cons.injEq,Value.bool.injEq,Value.slice.injEq,and_true] at hv
 obtain ⟨rfl,rfl,rfl,rfl⟩:=hv
 exact ⟨p',c',rfl,ho⟩
theorem aC.ofNat {w:World} {B:Nat} {p:Option Addr} {n c m:Nat} (h:w.ownsRow B 117 1 (.slice p n c) n (ints .u32 (limbs m))) (hn:n=(limbs m).length):aC w B (.agg #[.bool false,.slice p n c]) (m:Int):=by
 subst hn
 refine ⟨p,c,?_,by simpa using h⟩
 congr 3
theorem sign_neg {X:Int} (h:X < 0):X.sign= -1:=Int.sign_eq_neg_one_of_neg h
theorem eW {X:Int} (h:0 < X):X.sign=1:=Int.sign_eq_one_of_pos h
theorem bN.sgn {w:World} {s:Bool} {p:Option Addr} {n c:Nat} {X:Int} (h:bN w (.agg #[.bool s,.slice p n c]) X):s=decide (X < 0):=by
 obtain ⟨p',c',hv,hr,_⟩:=h
 simp only [Value.agg.injEq,Array.mk.injEq,List.cons.injEq,Value.bool.injEq,Value.slice.injEq,and_true] at hv
 exact hv.1
def aX (W:World) (r q:Nat) (w':World):Prop:=W.heap.size≤w'.heap.size∧∀ b,b < W.heap.size→b≠r→b≠q→w'.heap[b]? =W.heap[b]?
theorem aX.refl (W:World) (r q:Nat):aX W r q W:=⟨Nat.le_refl _,fun _ _ _ _=>rfl⟩
theorem aX.drew {W w':World} {r q:Nat} (h:aX W r q w'):aX W r q w'.drew:=h
theorem aX.aJ {W a b:World} {r q:Nat} (h:aX W r q a) (k:aj a b):aX W r q b:=
 ⟨Nat.le_trans h.1 k.size,fun j hj hr hq=>(Below.block k j (Nat.lt_of_lt_of_le hj h.1)).trans (h.2 j hj hr hq)⟩
theorem aX.I7 {W a:World} {r q j:Nat} (h:aX W r q a) (v:Value):aX W r q (a.setCell ⟨r,j,none⟩ v):=
 ⟨Nat.le_trans h.1 (by simp),fun b hb hr hq=>(Below.heap_setCell _ _ _ b hr).trans (h.2 b hb hr hq)⟩
theorem aX.pw {W a:World} {r q j:Nat} (h:aX W r q a) (v:Value):aX W r q (a.setCell ⟨q,j,none⟩ v):=
 ⟨Nat.le_trans h.1 (by simp),fun b hb hr hq=>(Below.heap_setCell _ _ _ b hq).trans (h.2 b hb hr hq)⟩
theorem aX.cls {W w':World} {r q b:Nat} {t:TypeId} {cs:Array Value} (h:aX W r q w') (hc:aW W b t cs) (hr:b≠r) (hq:b≠q):aW w' b t cs:=(h.2 b hc.lt hr hq).trans hc
theorem aW.apart {w:World} {a b:Nat} {t t':TypeId} {cs ic:Array Value} (h:aW w a t cs) (h':aW w b t' ic) (ht:t≠t'):a≠b:=fun e=>by
 subst e
 have:=(show w.heap[_]? =_ from h).symm.trans h'
 simp at this
 exact ht this.2
theorem aC.cast {w:World} {B:Nat} {v:Value} {X Y:Int} (h:aC w B v X) (e:X=Y):aC w B v Y:=e▸h
theorem sum_len {a b n m:Nat} (hn:n=(limbs a).length) (hm:m=(limbs b).length):(limbs (a + b)).length≤n + m + 1:=by
 have:=Sz.add (X:=(a:Int)) (Y:=(b:Int)) (k:=n) (l:=m) (m:=n + m) (by show (limbs _).length≤_;rw [Int.natAbs_natCast];omega) (by show (limbs _).length≤_;rw [Int.natAbs_natCast];omega) (by omega) (by omega)
 have e:((a:Int) + (b:Int)).natAbs=a + b:=by omega
 unfold Sz at this
 rwa [e] at this
end Go.Proofs.YtabalinjfgcfeaaGreat
namespace Go.Proofs.YtabalinjfgcfeaaGreat
open Go.RowKit
inductive AV where
 | val (v:Value)
 | box (i off:Nat)
 | km (i off:Nat)
 | row (i o n c:Nat)
 | fn (g:FuncId) (first:List Value) (cap:List (Nat×Nat))
 | agg (l:List AV)
 | iB (l:List AV)
def AV.leaf (β:Nat→Nat):AV→Value
 | .val v=>v
 | .box i off=>.pointer (some ⟨β i,off,none⟩)
 | .km i off=>.pointer (some ⟨β i,off,none⟩)
 | .row i o n c=>.slice (some ⟨β i,o,none⟩) n c
 | .fn g first cap=>.func (.func g) first.toArray (cap.map fun p=>Value.pointer (some ⟨β p.1,p.2,none⟩)).toArray
 | .agg _=>undef
 | .iB _=>undef
def AV.jv (β:Nat→Nat):AV→Value
 | .val v=>v
 | .box i off=>.pointer (some ⟨β i,off,none⟩)
 | .km i off=>.pointer (some ⟨β i,off,none⟩)
 | .row i o n c=>.slice (some ⟨β i,o,none⟩) n c
 | .fn g first cap=>.func (.func g) first.toArray (cap.map fun p=>Value.pointer (some ⟨β p.1,p.2,none⟩)).toArray
 | .agg l=>.agg (l.map (AV.leaf β)).toArray
 | .iB _=>undef
def AV.aY (β:Nat→Nat):AV→Value
 | .val v=>v
 | .box i off=>.pointer (some ⟨β i,off,none⟩)
 | .km i off=>.pointer (some ⟨β i,off,none⟩)
 | .row i o n c=>.slice (some ⟨β i,o,none⟩) n c
 | .fn g first cap=>.func (.func g) first.toArray (cap.map fun p=>Value.pointer (some ⟨β p.1,p.2,none⟩)).toArray
 | .agg l=>.agg (l.map (AV.leaf β)).toArray
 | .iB l=>.tuple (l.map (AV.jv β)).toArray
def AV.cK:AV→List Nat
 | .box i _=>[i]
 | .km i _=>[i]
 | .row i _ _ _=>[i]
 | .fn _ _ cap=>cap.map (·.1)
 | _=>[]
def ax:List AV→List Nat
 | []=>[]
 | v::r=>v.cK++ax r
def AV.sP:AV→List Nat
 | .box i _=>[i]
 | .km i _=>[i]
 | .row i _ _ _=>[i]
 | .fn _ _ cap=>cap.map (·.1)
 | .agg l=>ax l
 | _=>[]
def zD:List AV→List Nat
 | []=>[]
 | v::r=>v.sP++zD r
def AV.ids:AV→List Nat
 | .box i _=>[i]
 | .km i _=>[i]
 | .row i _ _ _=>[i]
 | .fn _ _ cap=>cap.map (·.1)
 | .agg l=>ax l
 | .iB l=>zD l
 | .val _=>[]
def fw:List AV→List Nat
 | []=>[]
 | v::r=>v.ids++fw r
theorem aQ {l:List AV} {i:Nat}:i∈ax l↔∃ v∈l,i∈v.cK:=by
 induction l with
 | nil=>exact ⟨fun h=>(by cases h),fun ⟨_,h,_⟩=>(by cases h)⟩
 | cons x r ih=>rw [ax,List.mem_append,ih];simp
theorem mj {l:List AV} {i:Nat}:i∈zD l↔∃ v∈l,i∈v.sP:=by
 induction l with
 | nil=>exact ⟨fun h=>(by cases h),fun ⟨_,h,_⟩=>(by cases h)⟩
 | cons x r ih=>rw [zD,List.mem_append,ih];simp
theorem xY {l:List AV} {i:Nat}:i∈fw l↔∃ v∈l,i∈v.ids:=by
 induction l with
 | nil=>exact ⟨fun h=>(by cases h),fun ⟨_,h,_⟩=>(by cases h)⟩
 | cons x r ih=>rw [fw,List.mem_append,ih];simp
theorem sQ {β bF:Nat→Nat} {cap:List (Nat×Nat)} (h:∀ i∈cap.map (·.1),bF i=β i):(cap.map fun p=>Value.pointer (some ⟨bF p.1,p.2,none⟩))=cap.map fun p=>Value.pointer (some ⟨β p.1,p.2,none⟩):=
 List.map_congr_left fun p hp=>by rw [h p.1 (List.mem_map.2 ⟨p,hp,rfl⟩)]
theorem AV.mn {β bF:Nat→Nat}:∀ {v:AV},(∀ i∈v.cK,bF i=β i)→v.leaf bF=v.leaf β
 | .val _,_=>rfl
 | .box i off,h=>by simp only [AV.leaf,h i (by simp [AV.cK])]
 | .km i off,h=>by simp only [AV.leaf,h i (by simp [AV.cK])]
 | .row i o n c,h=>by simp only [AV.leaf,h i (by simp [AV.cK])]
 | .fn g first cap,h=>by simp only [AV.leaf,sQ h]
 | .agg _,_=>rfl
 | .iB _,_=>rfl
theorem gM {β bF:Nat→Nat} {l:List AV} (h:∀ i∈ax l,bF i=β i):l.map (AV.leaf bF)=l.map (AV.leaf β):=
 List.map_congr_left fun v hv=>AV.mn fun i hi=>h i (aQ.2 ⟨v,hv,hi⟩)
theorem AV.Bj {β bF:Nat→Nat}:∀ {v:AV},(∀ i∈v.sP,bF i=β i)→v.jv bF=v.jv β
 | .val _,_=>rfl
 | .box i off,h=>by simp only [AV.jv,h i (by simp [AV.sP])]
 | .km i off,h=>by simp only [AV.jv,h i (by simp [AV.sP])]
 | .row i o n c,h=>by simp only [AV.jv,h i (by simp [AV.sP])]
 | .fn g first cap,h=>by simp only [AV.jv,sQ h]
 | .agg l,h=>by simp only [AV.jv,gM (l:=l) h]
 | .iB _,_=>rfl
theorem AV.wj {β bF:Nat→Nat}:∀ {v:AV},(∀ i∈v.ids,bF i=β i)→v.aY bF=v.aY β
 | .val _,_=>rfl
 | .box i off,h=>by simp only [AV.aY,h i (by simp [AV.ids])]
 | .km i off,h=>by simp only [AV.aY,h i (by simp [AV.ids])]
 | .row i o n c,h=>by simp only [AV.aY,h i (by simp [AV.ids])]
 | .fn g first cap,h=>by simp only [AV.aY,sQ h]
 | .agg l,h=>by simp only [AV.aY,gM (l:=l) h]
 | .iB l,h=>by
  have:l.map (AV.jv bF)=l.map (AV.jv β):=List.map_congr_left fun v hv=>AV.Bj fun i hi=>h i (mj.2 ⟨v,hv,hi⟩)
  simp only [AV.aY,this]
def Fr:=Nat→Option AV
def Hp:=Nat→Option (TypeId×List AV)
def Fr.put (F:Fr) (d:Nat) (v:AV):Fr:=fun n=>bif Nat.beq n d then some v else F n
def Fr.bC (F:Fr):Option Nat→AV→Fr
 | none,_=>F
 | some d,v=>F.put d v
def Hp.put (H:Hp) (d:Nat) (c:TypeId×List AV):Hp:=fun n=>bif Nat.beq n d then some c else H n
def Hp.upd (H:Hp):Option (Nat×(TypeId×List AV))→Hp
 | none=>H
 | some x=>H.put x.1 x.2
def Hp.eK (H:Hp):List (Nat×(TypeId×List AV))→Hp
 | []=>H
 | x::r=>(H.put x.1 x.2).eK r
def AV.qN (i:Nat) (ρ:AV→Value) (x:AV):AV:=bif x.cK.any (Nat.beq i) then .val (ρ x) else x
def AV.fg1 (i:Nat) (ρ:AV→Value):AV→AV
 | .agg l=>.agg (l.map (AV.qN i ρ))
 | x=>x.qN i ρ
def AV.fg (i:Nat) (ρ:AV→Value):AV→AV
 | .agg l=>.agg (l.map (AV.qN i ρ))
 | .iB l=>.iB (l.map (AV.fg1 i ρ))
 | x=>x.qN i ρ
def Fr.forget (F:Fr):Option Nat→(AV→Value)→Fr
 | none,_=>F
 | some i,ρ=>fun n=>match F n with
  | some v=>some (v.fg i ρ)
  | none=>none
def Hp.forget (H:Hp):Option Nat→(AV→Value)→Hp
 | none,_=>H
 | some i,ρ=>fun n=>bif Nat.beq n i then none else match H n with
  | some (t,cs)=>some (t,cs.map (AV.qN i ρ))
  | none=>none
structure TI where
 size:Nat
 agg:Bool
 zero:Value
 places:Array (Nat×Nat)
 dz:Array Bool
 bool:Bool
 elem:Option (TypeId×Nat)
 kind:Option IntKind
 ptr:Bool:=false
structure TI.Ok (P:Program) (t:TypeId) (i:TI):Prop where
 row:∃ d,P.underlying t=some d∧d.isRow=i.agg
 size:(P.info? t).map (·.size)=some i.size
 isBool:i.bool=true→P.underlying t=some .bool
 isSlice:∀ e n,i.elem=some (e,n)→P.underlying t=some (.slice e)∧∀ w,(sizeOf e).run P w=.ok n w
 isInt:∀ k,i.kind=some k→P.underlying t=some (.int k)
 wk:i.ptr=true→P.underlying t=some (.pointer (P.pointee t)):=by exact fun h=>by cases h
 lone:i.agg=false→i.size=1
 bP:i.zero.cells.size=i.size
 bS:(P.info? t).map (·.zero)=some (some i.zero)
 bytes:(P.info? t).map (fun q=>Nat.ble q.bytes (24 * i.size))=some true
 pos:0 < i.size
 zero:∀ w,(zeroValue t).run P w=.ok i.zero w
 dI:∀ k p,i.places[k]? =some p→∀ b o w,(Instr.fieldAt t (.pointer (some ⟨b,o,none⟩)) k).run P w=.ok (.pointer (some ⟨b,o + p.1,none⟩)) w
 gW:∀ k p,i.places[k]? =some p→∀ cs w v,(match i.dz[k]? with | some true=>some (Value.agg (cs.extract p.1 (p.1 + p.2))) | some false=>cs[p.1]? | none=>none)=some v→(Instr.field t (.agg cs) k).run P w=.ok v w
 kg:i.agg=true→∀ ps w cs,Instr.fill (i.places[·]?) i.zero.cells ps.toList=some cs→(Instr.build t ps).run P w=.ok (.agg cs) w
structure KC where
 U:TypeId
 S:Nat→Prop
 T:TypeId→Bool
def KC.fz (K:KC) (t:TypeId):Bool:=Nat.beq t K.U || K.T t
abbrev KU (U:TypeId):KC:=⟨U,fun _=>True,fun _=>false⟩
def aU:Value→Bool
 | .agg _=>false
 | .tuple _=>false
 | .int .u32 _=>false
 | _=>true
def aH:AV→Bool
 | .val v=>aU v
 | .agg _=>false
 | .iB _=>false
 | _=>true
theorem pZ {v:Value} (h:aU v=true):v.oneCell'=true:=by
 unfold aU at h
 split at h <;> first | cases h | skip
 unfold Value.oneCell'
 split <;> simp_all
theorem nL {β:Nat→Nat}:∀ {x:AV},aH x=true→aU (x.leaf β)=true
 | .val _,h=>h
 | .box _ _,_=>rfl
 | .km _ _,_=>rfl
 | .row _ _ _ _,_=>rfl
 | .fn _ _ _,_=>rfl
 | .agg _,h=>by cases h
 | .iB _,h=>by cases h
theorem cI {β:Nat→Nat} {l:List AV} (h:l.all aH=true):(l.map (AV.leaf β)).all aU=true:=
 List.all_eq_true.2 fun x hx=>by
  obtain ⟨y,hy,rfl⟩:=List.mem_map.1 hx
  exact nL (List.all_eq_true.1 h y hy)
structure aF (K:KC) (w w':World):Prop where
 size:w.heap.size≤w'.heap.size
 cell:∀ a x,K.S a.block→w.cell? a=some (.int .u32 x)→w'.cell? a=some (.int .u32 x)
 block:∀ (t:TypeId) (g:Nat) (cur:Array Value),K.fz t=true→K.S g→w.heap[g]? =some (Obj.cells cur t (0,0))→w'.heap[g]? =some (Obj.cells cur t (0,0))
 map:∀ (g:Nat) es c,w.heap[g]? =some (Obj.map es c)→w'.heap[g]? =some (Obj.map es c)
abbrev Kp (U:TypeId) (w w':World):Prop:=aF (KU U) w w'
theorem aF.refl (K:KC) (w:World):aF K w w:=⟨Nat.le_refl _,fun _ _ _ h=>h,fun _ _ _ _ _ h=>h,fun _ _ _ h=>h⟩
theorem aF.aJ {K:KC} {a b c:World} (h:aF K a b) (k:aF K b c):aF K a c:=
 ⟨Nat.le_trans h.size k.size,fun _ _ s h1=>k.cell _ _ s (h.cell _ _ s h1),fun _ _ _ f s h1=>k.block _ _ _ f s (h.block _ _ _ f s h1),fun _ _ _ h1=>k.map _ _ _ (h.map _ _ _ h1)⟩
theorem aF.of {K:KC} {w w':World} (h:aj w w'):aF K w w':=
 ⟨h.size,fun _ _ _ hc=>h.cell hc,fun _ g _ _ _ hg=>(Below.block h g (Array.getElem?_eq_some_iff.1 hg).1).trans hg,fun g _ _ hg=>(Below.block h g (Array.getElem?_eq_some_iff.1 hg).1).trans hg⟩
theorem Kp.aJ {U:TypeId} {a b c:World} (h:Kp U a b) (k:Kp U b c):Kp U a c:=aF.aJ h k
theorem Kp.of {U:TypeId} {w w':World} (h:aj w w'):Kp U w w':=aF.of h
theorem aF.xZ {K:KC} {w w':World} (h:aF K w w'):aF ⟨K.U,K.S,fun _=>false⟩ w w':=
 ⟨h.size,h.cell,fun t g cur f s hg=>h.block t g cur (by
  unfold KC.fz at f ⊢
  rw [Bool.or_eq_true] at f ⊢
  exact f.imp id (fun e=>by cases e)) s hg,h.map⟩
def mX (H:Hp) (β:Nat→Nat) (i:Nat):Obj:=match H i with
 | some (t,cs)=>.cells (cs.map (AV.leaf β)).toArray t
 | none=>.cells #[] 0
def mkW (H:Hp) (β:Nat→Nat):Nat→World→World
 | 0,w=>w
 | n + 1,w=>(mkW H β n w).alloc (mX H β n)
theorem Bk (H:Hp) (β:Nat→Nat) (w:World):∀ n,(mkW H β n w).heap.size=w.heap.size + n
 | 0=>rfl
 | n + 1=>by show ((mkW H β n w).alloc _).heap.size=_;simp [Bk H β w n];omega
theorem vc (H:Hp) (β:Nat→Nat) (w:World):∀ n,aj w (mkW H β n w)
 | 0=>aj.refl w
 | n + 1=>(vc H β w n).alloc _
theorem DG (H:Hp) (β:Nat→Nat) (w:World) {i:Nat} {t:TypeId} {cs:List AV} (h:H i=some (t,cs)):∀ n,i < n→aW (mkW H β n w) (w.heap.size + i) t (cs.map (AV.leaf β)).toArray
 | 0,hi=>by omega
 | n + 1,hi=>by
  by_cases e:i=n
  ·subst e
   show aW ((mkW H β i w).alloc (mX H β i)) _ _ _
   have hb:mX H β i=.cells (cs.map (AV.leaf β)).toArray t:=by unfold mX;rw [h]
   rw [hb,←Bk H β w i]
   exact aW.new _ _ _
  ·exact (DG H β w h n (by omega)).alloc _
structure Stp (K:KC) (yv:Nat→Nat→Prop) (w w':World):Prop where
 os:w'.os=w.os
 tape:w'.tape=w.tape
 output:w'.output=w.output
 size:w.heap.size≤w'.heap.size
 mX:∀ g,g < w.heap.size→w'.heap[g]? =w.heap[g]?∨((∃ i,yv i g)∧∃ t cs,aW w' g t (List.toArray cs)∧K.fz t=false∧cs.all aU=true)∨¬ K.S g
theorem Stp.bh {K:KC} {yv:Nat→Nat→Prop} {w w':World} (h:aj w w'):Stp K yv w w':=⟨h.os,h.tape,h.output,h.size,fun g hg=>.inl (Below.block h g hg)⟩
theorem DI {K:KC} {w0 w w':World} (h:aj w0 w) (keep:∀ b,b < w0.heap.size→K.S b) (s:Stp K (fun _ g=>w0.heap.size≤g) w w'):aj w0 w':=
 Below.trans h ⟨s.os,s.tape,s.output,s.size,fun g hg=>by
  rcases s.mX g (Nat.lt_of_lt_of_le hg h.size) with e | ⟨⟨_,hi⟩,_⟩ | e
  ·exact e
  ·exact absurd hi (Nat.not_le.2 hg)
  ·exact absurd (keep g hg) e⟩
theorem Gz {K:KC} {w0 w1:World} {top:Nat} (h:aj w0 w1) (H:Hp) (hf:∀ i,top≤i→H i=none):
  ∃ β w2,aF K w1 w2∧aj w0 w2∧(∀ i t cs,H i=some (t,cs)→w0.heap.size≤β i∧aW w2 (β i) t (cs.map (AV.leaf β)).toArray)∧∀ i j,H i≠none→H j≠none→β i=β j→i=j:=by
 let β:Nat→Nat:=fun i=>w1.heap.size + i
 refine ⟨β,mkW H β top w1,aF.of (vc H β w1 _),h.aJ (vc H β w1 _),fun i t cs hi=>⟨?_,DG H β w1 hi _ ?_⟩,fun i j _ _ e=> ?_⟩
 ·have:=h.size;show w0.heap.size≤w1.heap.size + i;omega
 ·apply Classical.byContradiction
  intro e
  rw [hf i (by omega)] at hi
  cases hi
 ·change w1.heap.size + i=w1.heap.size + j at e;omega
structure Cx where
 P:Program
 w0:World
 N:Nat
 K:KC
 SU:TypeId→Bool
 ti:TypeId→Option TI
 keep:∀ b,b < w0.heap.size→K.S b
 yv:Nat→Nat→Prop:=fun _ g=>w0.heap.size≤g
 Old:World→Prop:=fun w=>aj w0 w
 top:Nat:=2 * N
 topN:2 * N≤top:=by exact Nat.le_refl _
 rn:∀ i g,i < 2 * N→w0.heap.size≤g→yv i g:=by exact fun _ _ _ h=>h
 Bl:∀ i j g,yv i g→j < 2 * N→yv j g:=by exact fun _ _ _ h _=>h
 ew:∀ w,Old w→w0.heap.size≤w.heap.size:=by exact fun _ h=>aj.size h
 oI:Old w0:=by exact aj.refl _
 vd:∀ w w',Old w→(∀ b,b < w0.heap.size→K.S b)→aF K w w'→Stp K yv w w'→Old w':=by exact fun _ _ h k _ s=>DI h k s
 E8:∀ w a u,Old w→(∀ i,¬ yv i a.block)→w0.cell? a=some u→w.cell? a=some u:=by exact fun _ _ _ h _ hc=>aj.cell h hc
 lay:∀ w1 (H:Hp),Old w1→(∀ i t cs,H i=some (t,cs)→K.fz t=false∧cs.all aH=true)→(∀ i,top≤i→H i=none)→
  ∃ β w2,aF K w1 w2∧Old w2∧(∀ i t cs,H i=some (t,cs)→yv i (β i)∧aW w2 (β i) t (cs.map (AV.leaf β)).toArray)∧∀ i j,H i≠none→H j≠none→β i=β j→i=j:=by exact fun _ H h _ hf=>Gz h H hf
theorem Cx.aJ (C:Cx) {w w':World} (h:C.Old w) (k:aj w w'):C.Old w':=C.vd _ _ h C.keep (aF.of k) (Stp.bh k)
def Cx.At (C:Cx) (a:Addr) (u:Value):Prop:=∀ w,C.Old w→w.cell? a=some u
def Cx.Ok (C:Cx):Prop:=∀ t i,C.ti t=some i→TI.Ok C.P t i
def ev (F:Fr):Operand→Option AV
 | .tmp t=>F t
 | .const v=>some (.val v)
 | .func f=>some (.val (.func (.func f) #[] #[]))
 | .global _=>none
def jw (F:Fr) (x:Operand):Option Value:=match ev F x with | some (.val v)=>some v | _=>none
def evs (F:Fr):List Operand→Option (List Value)
 | []=>some []
 | x::r=>match jw F x,evs F r with | some v,some l=>some (v::l) | _,_=>none
def tR (F:Fr):List Operand→Option (List AV)
 | []=>some []
 | x::r=>match ev F x,tR F r with | some v,some l=>some (v::l) | _,_=>none
def ve:List AV→Option (List (Nat×Nat))
 | []=>some []
 | .box i off::r=>(match ve r with | some l=>some ((i,off)::l) | none=>none)
 | _::_=>none
def E9 (F:Fr) (x:Operand):Option (FuncId×List AV×List AV):=match ev F x with
 | some (.val (.func (.func g) first cap))=>some (g,first.toList.map .val,cap.toList.map .val)
 | some (.fn g first cap)=>some (g,first.map .val,cap.map fun p=>.box p.1 p.2)
 | _=>none
def zE (F:Fr):List (Nat×Operand)→Option (List (Nat×AV))
 | []=>some []
 | (k,x)::r=>match ev F x,zE F r with | some v,some l=>some ((k,v)::l) | _,_=>none
def evo (F:Fr):Option Operand→Option (Option Int)
 | none=>some none
 | some x=>match jw F x with | some (.int _ k)=>some (some k) | _=>none
def binI (op:BinOp) (k:IntKind) (a b:Int):Option Value:=
 match op with
 | .eql=>some (.bool (a == b))
 | .neq=>some (.bool (a != b))
 | .lss=>some (.bool (decide (a < b)))
 | .leq=>some (.bool (decide (a≤b)))
 | .gtr=>some (.bool (decide (a > b)))
 | .geq=>some (.bool (decide (a≥b)))
 | .add=>some (.int k (k.wrap (a + b)))
 | .sub=>some (.int k (k.wrap (a - b)))
 | .mul=>some (.int k (k.wrap (a * b)))
 | .quo=>bif decide (b=0) then none else some (.int k (k.wrap (a.tdiv b)))
 | .rem=>bif decide (b=0) then none else some (.int k (a.tmod b))
 | .and=>some (.int k (bits .and k a b))
 | .or=>some (.int k (bits .or k a b))
 | .xor=>some (.int k (bits .xor k a b))
 | .andNot=>some (.int k (bits .andNot k a b))
 | _=>none
def shI (op:BinOp) (k:IntKind) (a b:Int):Option Value:=
 match op with
 | .shl=>some (.int k (k.wrap (a * 2 ^ min b.toNat k.bits)))
 | .shr=>some (.int k (a.fdiv (2 ^ min b.toNat k.bits)))
 | _=>none
def isSh:BinOp→Bool
 | .shl=>true
 | .shr=>true
 | _=>false
def binS (op:BinOp) (a b:ByteArray):Option Value:=
 match op with
 | .eql=>some (.bool (a.toList == b.toList))
 | .neq=>some (.bool !(a.toList == b.toList))
 | _=>none
def binB (op:BinOp) (a b:Bool):Option Value:=
 match op with
 | .eql=>some (.bool (a == b))
 | .neq=>some (.bool (!(a == b)))
 | _=>none
def ru (op:BinOp) (a:Bool):Option Value:=
 match op with
 | .eql=>some (.bool a)
 | .neq=>some (.bool (!a))
 | _=>none
def sameKind:IntKind→IntKind→Bool:=fun k l=>decide (k=l)
def binA (op:BinOp):Value→Value→Option Value
 | .int k a,.int l b=>bif isSh op then (bif decide (b < 0) then none else shI op k a b) else bif sameKind k l then binI op k a b else none
 | .string a,.string b=>binS op a b
 | _,_=>none
inductive ee where
 | fn (g:FuncId) (args:List AV)
 | op (o:Oper) (vs:List AV)
def ee.ids:ee→List Nat
 | .fn _ l=>fw l
 | .op _ l=>fw l
inductive Step where
 | eg (v:AV) (u:Option (Nat×(TypeId×List AV)))
 | read (i:TI) (a:Addr)
 | df (i:TI) (cs:List AV) (off:Nat)
 | cond (φ:Prop) (v:AV) (u:Option (Nat×(TypeId×List AV)))
 | call (d:ee)
 | bad
def x7:Option AV→Step
 | some v=>.eg v none
 | none=>.bad
def ry:Option Value→Step
 | some v=>.eg (.val v) none
 | none=>.bad
def lg (i:TI) (cs:List Value):Value:=bif i.agg then .agg cs.toArray else cs.headD undef
def ij:List AV→Option (List Value)
 | []=>some []
 | .val v::r=>(match ij r with | some l=>some (v::l) | none=>none)
 | _::_=>none
def Fa {α:Type}:List AV→(List Value→α)→α→α
 | [],k,_=>k []
 | .val v::r,k,e=>Fa r (fun l=>k (v::l)) e
 | _::_,_,e=>e
theorem Bm {α:Type}:∀ (l:List AV) (k:List Value→α) (e:α),Fa l k e=match ij l with | some vs=>k vs | none=>e
 | [],_,_=>rfl
 | .val v::r,k,e=>by
  show Fa r (fun l=>k (v::l)) e=match (match ij r with | some l=>some (v::l) | none=>none) with | some vs=>k vs | none=>e
  rw [Bm r]
  cases ij r <;> rfl
 | .box _ _::_,_,_=>rfl
 | .km _ _::_,_,_=>rfl
 | .row _ _ _ _::_,_,_=>rfl
 | .fn _ _ _::_,_,_=>rfl
 | .agg _::_,_,_=>rfl
 | .iB _::_,_,_=>rfl
def tT (l:List AV):AV:=match ij l with | some vs=>.val (.agg vs.toArray) | none=>.agg l
def GA {α:Type} (l:List AV) (k:AV→α):α:=Fa l (fun vs=>k (.val (.agg vs.toArray))) (k (.agg l))
theorem kD {α:Type} (l:List AV) (k:AV→α):GA l k=k (tT l):=by
 unfold GA tT
 rw [Bm]
 cases ij l <;> rfl
def lK (i:TI) (cs:List AV):AV:=bif i.agg then tT cs else cs.headD (.val undef)
def ik {α:Type} {γ:Type}:List γ→(List γ→α)→α
 | [],k=>k []
 | x::r,k=>ik r fun l=>k (x::l)
theorem cd {α γ:Type}:∀ (l:List γ) (k:List γ→α),ik l k=k l
 | [],_=>rfl
 | x::r,k=>cd r fun l=>k (x::l)
def GB {γ:Type}:List γ→Nat→Option γ
 | [],_=>none
 | x::_,0=>some x
 | _::r,k + 1=>GB r k
theorem vf {γ:Type}:∀ (l:List γ) (k:Nat),GB l k=l[k]?
 | [],_=>rfl
 | _::_,0=>rfl
 | _::r,k + 1=>by rw [GB,vf r k];rfl
def fC:AV→Bool
 | .iB _=>false
 | _=>true
def jU:AV→Bool
 | .agg _=>false
 | .iB _=>false
 | _=>true
def cellsOf:AV→List AV
 | .val v=>v.cells.toList.map .val
 | .agg l=>l
 | x=>[x]
def wm (i:TI) (cs:List AV) (off:Nat):Step:=
 bif Nat.ble (off + i.size) cs.length then ik ((cs.drop off).take i.size) (fun l=>bif i.agg then GA l (fun v=>.eg v none) else (match l with | x::_=>.eg x none | []=>.bad)) else .bad
def nM (i:TI) (b:Nat) (t:TypeId) (cs:List AV) (off:Nat) (v:AV):Step:=
 bif Nat.ble (off + i.size) cs.length && Nat.beq (cellsOf v).length i.size && (cellsOf v).all aH
 then ik (cs.take off++(cellsOf v++cs.drop (off + i.size))) (fun l=>.eg (.val undef) (some (b,(t,l)))) else .bad
def Bn (i:TI) (b:Nat) (t:TypeId) (cs:List AV) (off:Nat) (v:AV):Step:=
 bif Nat.beq (cellsOf v).length i.size && (cellsOf v).all aH
 then .cond (off + i.size≤cs.length) (.val undef) (some (b,(t,cs.take off++(cellsOf v++cs.drop (off + i.size))))) else .bad
def nO (K:KC) (d:Nat) (t:TypeId) (cs:List AV):Option (TypeId×List AV)→Step
 | none=>bif !K.fz t && cs.all aH then ik cs (fun l=>.eg (.box d 0) (some (d,(t,l)))) else .bad
 | some _=>.bad
def Bo (sz:Nat):Nat→List (Nat×AV)→Option (List AV)
 | _,[]=>some []
 | k,(j,v)::r=>bif Nat.beq j k && Nat.beq (cellsOf v).length sz && fC v then (match Bo sz (k + 1) r with | some l=>some (cellsOf v++l) | none=>none) else none
def tU (K:KC) (d:Nat) (e:TypeId) (n:Nat) (cs:List AV):Option (TypeId×List AV)→Step
 | none=>bif !K.fz e && cs.all aH then ik cs (fun l=>.eg (.row d 0 n n) (some (d,(e,l)))) else .bad
 | some _=>.bad
def yw (places:Array (Nat×Nat)) (cells:List AV):List (Nat×AV)→Option (List AV)
 | []=>some cells
 | (i,v)::rest=>match places[i]? with
  | none=>none
  | some p=>bif Nat.beq (cellsOf v).length p.2 && Nat.ble (p.1 + p.2) cells.length && fC v then yw places (cells.take p.1++(cellsOf v++cells.drop (p.1 + p.2))) rest else none
def jo:Nat→List AV→List AV
 | 0,_=>[]
 | n + 1,z=>z++jo n z
def nP (F:Fr) (o:Oper):Step:=match tR F o.op.operands.toList with | some vs=>.call (.op o vs) | none=>.bad
def wq:List Value→Option (IntKind×List Int)
 | []=>none
 | [.int k a]=>some (k,[a])
 | .int k a::r=>(match wq r with | some (l,xs)=>bif sameKind k l then some (k,a::xs) else none | none=>none)
 | _=>none
def rz:Int→List Int→Int
 | x,[]=>x
 | x,y::r=>rz (if y > x then y else x) r
def I8:Int→List Int→Int
 | x,[]=>x
 | x,y::r=>I8 (if y < x then y else x) r
def lh (i:TI) (cs:List AV) (k:Nat):Step:=match i.places[k]?,i.dz[k]? with
 | some p,some true=>ik ((cs.drop p.1).take p.2) (fun l=>GA l (fun v=>.eg v none))
 | some p,some false=>(match GB cs p.1 with | some x=>bif jU x then .eg x none else .bad | none=>.bad)
 | _,_=>.bad
def act (C:Cx) (F:Fr) (H:Hp) (o:Oper):Step:=
 match o.op with
 | .move x=>x7 (ev F x)
 | .assign x=>x7 (ev F x)
 | .pick c x y=>match jw F c with | some (.bool t)=>x7 (bif t then ev F x else ev F y) | _=>.bad
 | .unOp .not _ x=>match jw F x with | some (.bool t)=>.eg (.val (.bool !t)) none | _=>.bad
 | .unOp .neg _ x=>match jw F x with | some (.int k n)=>.eg (.val (.int k (k.wrap (0 - n)))) none | _=>.bad
 | .binOp op t x y _=>match jw F x,jw F y with
  | some (.bool a),some (.bool b)=>(match C.ti t with | some i=>ry (bif i.bool then binB op a b else none) | none=>.bad)
  | some (.pointer p),some (.pointer none)=>(match C.ti t with | some i=>ry (bif i.ptr then ru op p.isNone else none) | none=>.bad)
  | some (.slice p _ _),some (.slice none n c)=>(match C.ti t with | some i=>ry (bif i.elem.isSome && (Nat.beq n 0 && Nat.beq c 0) then ru op p.isNone else none) | none=>.bad)
  | some a,some b=>ry (binA op a b)
  | none,some (.pointer none)=>(match ev F x,C.ti t with
   | some (.box _ _),some i=>ry (bif i.ptr then ru op false else none)
   | some (.km _ _),some i=>ry (bif i.ptr then ru op false else none)
   | _,_=>.bad)
  | none,some (.slice none n c)=>(match ev F x,C.ti t with
   | some (.row _ _ _ _),some i=>ry (bif i.elem.isSome && (Nat.beq n 0 && Nat.beq c 0) then ru op false else none)
   | _,_=>.bad)
  | _,_=>.bad
 | .convert s t x=>match C.ti s,C.ti t,jw F x with
  | some _,some i,some (.int _ n)=>(match i.kind with | some k=>.eg (.val (.int k (k.wrap n))) none | none=>.bad)
  | _,_,_=>.bad
 | .extract x k=>match ev F x with
  | some (.val (.tuple vs))=>ry (GB vs.toList k)
  | some (.iB l)=>(match GB l k with | some x=>bif fC x then .eg x none else .bad | none=>.bad)
  | _=>.bad
 | .field t x k=>match ev F x,C.ti t with
  | some (.val (.agg cs)),some i=>lh i (cs.toList.map .val) k
  | some (.agg l),some i=>lh i l k
  | _,_=>.bad
 | .fieldAddr t x k=>match ev F x,C.ti t with
  | some (.box b off),some i=>match i.places[k]? with | some p=>.eg (.box b (off + p.1)) none | none=>.bad
  | some (.km b off),some i=>match i.places[k]? with | some p=>.eg (.km b (off + p.1)) none | none=>.bad
  | some (.val (.pointer (some ⟨b,off,none⟩))),some i=>match i.places[k]? with | some p=>.eg (.val (.pointer (some ⟨b,off + p.1,none⟩))) none | none=>.bad
  | _,_=>.bad
 | .nilCheck x=>match ev F x with
  | some (.box b off)=>.eg (.box b off) none
  | some (.km b off)=>.eg (.km b off) none
  | some (.val (.pointer (some a)))=>.eg (.val (.pointer (some a))) none
  | _=>.bad
 | .build t ps=>match C.ti t,zE F ps.toList with
  | some i,some l=>match (bif i.agg then yw i.places (i.zero.cells.toList.map .val) l else none) with | some cs=>ik cs (fun l=>GA l (fun v=>.eg v none)) | none=>.bad
  | _,_=>.bad
 | .alloc t=>match o.dst,C.ti t with
  | some d,some i=>nO C.K d t (i.zero.cells.toList.map .val) (H d)
  | _,_=>.bad
 | .box t x=>match o.dst,ev F x with
  | some d,some v=>nO C.K d t (cellsOf v) (H d)
  | _,_=>.bad
 | .load t x=>match ev F x,C.ti t with
  | some (.box b off),some i=>match H b with | some (_,cs)=>wm i cs off | none=>.bad
  | some (.km b off),some i=>match H b with | some (_,cs)=>.df i cs off | none=>.bad
  | some (.val (.pointer (some a))),some i=>.read i a
  | _,_=>.bad
 | .store t x y=>match ev F x,ev F y,C.ti t with
  | some (.box b off),some v,some i=>match H b with | some (tb,cs)=>nM i b tb cs off v | none=>.bad
  | some (.km b off),some v,some i=>match H b with | some (tb,cs)=>Bn i b tb cs off v | none=>.bad
  | _,_,_=>.bad
 | .makeFunc (.func g) first cap=>match evs F first.toList,tR F cap.toList with
  | some l,some []=>.eg (.val (.func (.func g) l.toArray #[])) none
  | some l,some m=>(match ve m with | some bs=>.eg (.fn g l bs) none | none=>.bad)
  | _,_=>.bad
 | .buildSlice t n ps=>bif C.SU t then nP F o else match o.dst,C.ti t,zE F ps.toList with
  | some d,some i,some l=>(match i.elem with
   | some (e,sz)=>(match C.ti e,Bo sz 0 l with
    | some _,some cs=>bif Nat.beq ps.size n && Nat.ble (n * sz) 16777216 then tU C.K d e n cs (H d) else .bad
    | _,_=>.bad)
   | none=>.bad)
  | _,_,_=>.bad
 | .indexAddr t x ix=>match ev F x,jw F ix,C.ti t with
  | some (.val (.slice (some ⟨b,off,none⟩) n _)),some (.int _ k),some i=>(match i.elem with
   | some (_,sz)=>.cond ((0:Int)≤k∧k < (n:Int)) (.val (.pointer (some ⟨b,off + k.toNat * sz,none⟩))) none
   | none=>.bad)
  | some (.row b off n _),some (.int _ k),some i=>(match i.elem with
   | some (_,sz)=>.cond ((0:Int)≤k∧k < (n:Int)) (.km b (off + k.toNat * sz)) none
   | none=>.bad)
  | _,_,_=>.bad
 | .makeSlice t l c=>match o.dst,C.ti t,jw F l,jw F c with
  | some d,some i,some (.int _ n),some (.int _ m)=>(match i.elem with
   | some (e,sz)=>(match C.ti e,H d with
    | some ie,none=>bif !C.K.fz e && ie.zero.cells.toList.all aU then
      .cond (n=m∧0≤n∧n * (24 * (ie.size:Int))≤140737488355328) (.row d 0 n.toNat n.toNat) (some (d,(e,jo n.toNat (ie.zero.cells.toList.map .val)))) else .bad
    | _,_=>.bad)
   | none=>.bad)
  | _,_,_,_=>.bad
 | .slice t x lo hi none=>match ev F x,C.ti t,evo F lo,evo F hi with
  | some (.row b off n c),some i,some l,some h=>(match i.elem with
   | some (_,sz)=>.cond (0≤l.getD 0∧l.getD 0≤h.getD (n:Int)∧h.getD (n:Int)≤(c:Int)∧(c:Int)≤9223372036854775807) (.row b (if c=(l.getD 0).toNat then off else off + (l.getD 0).toNat * sz) ((h.getD (n:Int)).toNat - (l.getD 0).toNat) (c - (l.getD 0).toNat)) none
   | none=>.bad)
  | some (.val (.slice p n c)),some i,some l,some h=>(match i.elem with
   | some (_,sz)=>.cond (0≤l.getD 0∧l.getD 0≤h.getD (n:Int)∧h.getD (n:Int)≤(c:Int)∧(c:Int)≤9223372036854775807) (.val (.slice (if c=(l.getD 0).toNat then p else p.map (·.add ((l.getD 0).toNat * sz))) ((h.getD (n:Int)).toNat - (l.getD 0).toNat) (c - (l.getD 0).toNat))) none
   | none=>.bad)
  | _,_,_,_=>.bad
 | .call c=>match c.callee with
  | .builtin .len=>match c.args.toList,c.argTypes.toList with
   | [x],[t]=>(match ev F x,C.ti t with
    | some (.val (.slice _ n _)),some i=>(match i.elem with | some _=>.eg (.val (.int .i64 (n:Int))) none | none=>.bad)
    | some (.row _ _ n _),some i=>(match i.elem with | some _=>.eg (.val (.int .i64 (n:Int))) none | none=>.bad)
    | _,_=>.bad)
   | _,_=>.bad
  | .builtin .max=>match (evs F c.args.toList).bind wq with
   | some (k,x::r)=>.eg (.val (.int k (rz x r))) none
   | _=>.bad
  | .builtin .min=>match (evs F c.args.toList).bind wq with
   | some (k,x::r)=>.eg (.val (.int k (I8 x r))) none
   | _=>.bad
  | .value f=>match E9 F f,tR F c.args.toList with
   | some (g,first,cap),some l=>ik (first++(l++cap)) (fun l=>.call (.fn g l))
   | _,_=>.bad
  | _=>nP F o
 | _=>nP F o
def wants (full:Array Oper) (F:Fr) (o:Oper):Option Bool:=
 match o.guard with
 | none=>some true
 | some (g,b)=>match (full[g]?).bind (·.dst) with
  | none=>none
  | some d=>match F d with
   | some (.val (.bool c))=>some (c == b)
   | some (.val (.tuple _))=>some false
   | _=>none
def jV (N:Nat):Option Nat→Bool
 | none=>true
 | some d=>Nat.blt d N
def stepOf (C:Cx) (full:Array Oper) (F:Fr) (H:Hp) (o:Oper):Step:=
 bif jV C.N o.dst then (match wants full F o with
  | none=>.bad
  | some false=>.eg (.val undef) none
  | some true=>act C F H o) else .bad
def I9 (l:List FuncId) (c:Call):Bool:=match c.callee with | .value (.func g)=>l.any (Nat.beq g) | _=>false
def DJ (l:List FuncId) (c:Call):Bool:=match c.callee with | .value (.func g)=>l.any (Nat.beq (g + 1000000)) | _=>false
def aE (su:TypeId→Bool) (l:List FuncId) (o:Oper):Nat:=match o.op with
 | .move _=>0
 | .assign _=>0
 | .pick _ _ _=>0
 | .unOp .not _ _=>0
 | .unOp .neg _ _=>0
 | .binOp _ _ _ _ _=>0
 | .convert _ _ _=>0
 | .extract _ _=>0
 | .field _ _ _=>0
 | .fieldAddr _ _ _=>0
 | .nilCheck _=>0
 | .build _ _=>0
 | .makeFunc (.func _) _ _=>0
 | .indexAddr _ _ _=>0
 | .slice _ _ _ _ none=>0
 | .load _ _=>1
 | .alloc _=>2
 | .box _ _=>2
 | .makeSlice _ _ _=>2
 | .buildSlice t _ _=>bif su t then 4 else 2
 | .store _ _ _=>3
 | .call c=>(match c.callee with
  | .builtin .len=>0
  | .builtin .max=>0
  | .builtin .min=>0
  | .builtin .copy=>3
  | .value _=>bif DJ l c then 5 else bif I9 l c then 3 else 4
  | _=>5)
 | .lookup _ _ _ _=>4
 | _=>5
def Ja:Nat→Nat
 | 3=>1
 | 5=>2
 | _=>0
def lvl (su:TypeId→Bool) (m:Option (List FuncId)) (o:Oper):Nat:=match m with
 | none=>2
 | some l=>Ja (aE su l o)
def nQ (P:Program) (g:FuncId):Prop:=∃ fn,P.funcs[g]? =some fn∧(fn.name == "runtime.NumGoroutine")=false∧fn.body.isNone=false
structure lL (C:Cx) (β:Nat→Nat) (w:World) (i:Nat) (t:TypeId) (cs:List AV):Prop where
 new:C.yv i (β i)
 ty:C.K.fz t=false
 cls:aW w (β i) t (cs.map (AV.leaf β)).toArray
 ok:cs.all aH=true
inductive Reach (H:Hp) (ids:List Nat):Nat→Prop
 | base {i:Nat}:i∈ids→Reach H ids i
 | step {i j:Nat} {t:TypeId} {cs:List AV}:Reach H ids i→H i=some (t,cs)→j∈ax cs→Reach H ids j
structure lM (C:Cx) (β:Nat→Nat) (H:Hp) (ids:List Nat) (w:World):Prop where
 own:∀ i,Reach H ids i→∀ t cs,H i=some (t,cs)→lL C β w i t cs
 apart:∀ i j,Reach H ids i→Reach H ids j→H i≠none→H j≠none→β i=β j→i=j
structure wu (C:Cx) (β bF:Nat→Nat) (H:Hp) (ids:List Nat) (del:Option Nat) (ups:List (Nat×(TypeId×List AV))) (w w':World):Prop where
 os:w'.os=w.os
 tape:w'.tape=w.tape
 output:w'.output=w.output
 size:w.heap.size≤w'.heap.size
 block:∀ b,b < w.heap.size→(∀ x∈ups,b≠bF x.1)→(∀ i,del=some i→b≠β i)→(C.K.S b∨∀ t cur,C.K.fz t=true→w.heap[b]?≠some (Obj.cells cur t (0,0)))→w'.heap[b]? =w.heap[b]?
 Fb:∀ i,i∉ups.map (·.1)→bF i=β i
 gone:∀ i,del=some i→Reach H ids i∧H i≠none
 left:∀ i,del=some i→(w'.heap[β i]? =w.heap[β i]?∨∃ t cs,aW w' (β i) t (List.toArray cs)∧C.K.fz t=false∧cs.all aU=true)∨∃ x∈ups,bF x.1=β i
 own:∀ x∈ups,lL C bF w' x.1 x.2.1 x.2.2
 GC:∀ x∈ups,(H x.1≠none∧del≠some x.1∧Reach H ids x.1∧bF x.1=β x.1)∨((H x.1=none∨del=some x.1)∧x.1 < 2 * C.N∧(w.heap.size≤bF x.1∨∃ i,del=some i∧bF x.1=β i))
 once:(ups.map (·.1)).Nodup
 apart:∀ x∈ups,∀ y∈ups,bF x.1=bF y.1→x.1=y.1
 closed:∀ x∈ups,∀ j∈ax x.2.2,j∈ups.map (·.1)∨(H j≠none∧del≠some j)
def sR (P:Program) (d:ee) (β:Nat→Nat) (w:World) (R:Ending→World→Prop):Prop:=match d with
 | .fn g args=>nQ P g∧Calls P g (args.map (AV.aY β)).toArray w R
 | .op o vs=>∃ v w2,(∀ ρ:Operand→Value,o.op.operands.toList.map ρ=vs.map (AV.aY β)→(execOp ρ o).run P w=.ok (.value v) w2∨((execOp ρ o).run P w=.ok .skip w2∧v=undef))∧R (.returned v) w2
def cw (C:Cx) (lv:Nat) (F:Fr) (H:Hp) (d:ee) (w:World) (k:AV→Fr→Hp→World→Prop):Prop:=
 ∀ w1 β,aF C.K w w1→C.Old w1→lM C β H d.ids w1→sR C.P d β w1 fun e w2=>∃ bF r del ups,e=.returned (r.aY bF)∧(∀ i∈r.ids,i∈ups.map (·.1)∨(Reach H d.ids i∧H i≠none∧del≠some i))∧(1≤lv∨ups=[])∧(2≤lv∨del=none)∧
  wu C β bF H d.ids del ups w1 w2∧(aF C.K w w2→aF C.K w1 w2→C.Old w2→∀ ρ,(∀ x,aU (ρ x)=true)→k r (F.forget del ρ) ((H.forget del ρ).eK ups) w2)
def ReadVC (C:Cx) (seq:Bool) (i:TI) (a:Addr) (w:World) (k:Value→Prop):Prop:=
 ∃ cs:List Value,cs.length=i.size∧((∀ j u,cs[j]? =some u→C.At (a.add j) u)∨(seq=true∧∀ w1,aF C.K w w1→C.Old w1→∀ j u,cs[j]? =some u→w1.cell? (a.add j)=some u))∧k (lg i cs)
def seqOf:Option (List FuncId)→Bool
 | none=>true
 | some _=>false
def one (C:Cx) (m:Option (List FuncId)) (full:Array Oper) (o:Oper) (k:Fr→Hp→World→Prop) (F:Fr) (H:Hp) (w:World):Prop:=
 match stepOf C full F H o with
 | .eg v u=>k (F.bC o.dst v) (H.upd u) w
 | .read i a=>ReadVC C (seqOf m) i a w fun v=>k (F.bC o.dst (.val v)) H w
 | .df i cs off=>∃ vs:List AV,vs.length=i.size∧(∀ j u,vs[j]? =some u→cs[off + j]? =some u)∧k (F.bC o.dst (lK i vs)) H w
 | .cond φ v u=>φ∧k (F.bC o.dst v) (H.upd u) w
 | .call d=>cw C (lvl C.SU m o) F H d w fun r F' H' w2=>k (F'.bC o.dst r) H' w2
 | .bad=>False
def aB (C:Cx) (m:Option (List FuncId)) (full:Array Oper):List Oper→(Fr→Hp→World→Prop)→Fr→Hp→World→Prop
 | [],K,F,H,w=>K F H w
 | o::r,K,F,H,w=>one C m full o (aB C m full r K) F H w
def il (F:Fr) (H:Hp):Prop:=∀ d v,F d=some v→∀ i∈v.ids,H i≠none
structure zF (C:Cx) (H:Hp):Prop where
 ok:∀ i t cs,H i=some (t,cs)→C.K.fz t=false∧cs.all aH=true
 closed:∀ i t cs,H i=some (t,cs)→∀ j∈ax cs,H j≠none
 mM:∀ i,C.top≤i→H i=none
structure Rel (C:Cx) (β:Nat→Nat) (F:Fr) (H:Hp) (a:Act) (w:World):Prop where
 defers:a.defers=[]
 size:a.tmps.size=C.N
 tmp:∀ d v,F d=some v→a.tmps.getD d undef=v.aY β
 own:∀ i t cs,H i=some (t,cs)→lL C β w i t cs
 apart:∀ i j,H i≠none→H j≠none→β i=β j→i=j
 closed:il F H
 fits:∀ d v,F d=some v→d < C.N
 hp:zF C H
 old:C.Old w
theorem Fr.cO (F:Fr) (d n:Nat) (v:AV):(F.put d v) n=if n=d then some v else F n:=by
 unfold Fr.put
 by_cases h:n=d
 ·subst h;simp
 ·have:Nat.beq n d=false:=by rw [←Bool.not_eq_true,Nat.beq_eq];exact h
  simp [this,h]
theorem Hp.cO (H:Hp) (d n:Nat) (c:TypeId×List AV):(H.put d c) n=if n=d then some c else H n:=by
 unfold Hp.put
 by_cases h:n=d
 ·subst h;simp
 ·have:Nat.beq n d=false:=by rw [←Bool.not_eq_true,Nat.beq_eq];exact h
  simp [this,h]
theorem jc:∀ {l:List AV} {vs:List Value},ij l=some vs→l=vs.map .val
 | [],vs,h=>by cases h;rfl
 | .val v::r,vs,h=>by
  unfold ij at h
  split at h
  ·rename_i l hl
   cases h
   rw [jc hl];rfl
  ·cases h
 | .box _ _::_,_,h=>by cases h
 | .km _ _::_,_,h=>by cases h
 | .row _ _ _ _::_,_,h=>by cases h
 | .fn _ _ _::_,_,h=>by cases h
 | .agg _::_,_,h=>by cases h
 | .iB _::_,_,h=>by cases h
theorem ah (β:Nat→Nat) (vs:List Value):(vs.map AV.val).map (AV.leaf β)=vs:=by rw [List.map_map];exact List.map_id vs
theorem gN (β:Nat→Nat) (vs:List Value):(vs.map AV.val).map (AV.aY β)=vs:=by rw [List.map_map];exact List.map_id vs
theorem ao (vs:List Value):ax (vs.map AV.val)=[]:=by
 induction vs with
 | nil=>rfl
 | cons v r ih=>rw [List.map_cons,ax,ih];rfl
theorem qa (β:Nat→Nat) (l:List AV):(tT l).aY β=.agg (l.map (AV.leaf β)).toArray:=by
 unfold tT
 cases h:ij l with
 | none=>rfl
 | some vs=>
  have:=jc h
  subst this
  rw [ah];rfl
theorem sT {l:List AV} {i:Nat} (h:i∈(tT l).ids):i∈ax l:=by
 unfold tT at h
 cases hv:ij l with
 | none=>rw [hv] at h;exact h
 | some vs=>rw [hv] at h;cases h
theorem im (β:Nat→Nat):∀ (v:AV),(∀ l,v≠.iB l)→(cellsOf v).map (AV.leaf β)=(v.aY β).cells.toList
 | .val v,_=>by unfold cellsOf;rw [ah];rfl
 | .box _ _,_=>rfl
 | .km _ _,_=>rfl
 | .row _ _ _ _,_=>rfl
 | .fn _ _ _,_=>rfl
 | .agg l,_=>by simp [cellsOf,AV.aY,Value.cells]
 | .iB l,h=>absurd rfl (h l)
theorem lN {v:AV} (h:fC v=true):∀ l,v≠.iB l:=fun l e=>by subst e;cases h
theorem Fc {v:AV} (h:(cellsOf v).all aH=true):∀ l,v≠.iB l:=fun l e=>by subst e;simp [cellsOf,aH] at h
theorem jd {v:AV} (h:∀ l,v≠.iB l) {i:Nat} (hi:i∈ax (cellsOf v)):i∈v.ids:=by
 cases v with
 | val v=>rw [cellsOf,ao] at hi;cases hi
 | iB l=>exact absurd rfl (h l)
 | agg l=>exact hi
 | box i off=>simpa [cellsOf,ax,AV.cK,AV.ids] using hi
 | km i off=>simpa [cellsOf,ax,AV.cK,AV.ids] using hi
 | row i o n c=>simpa [cellsOf,ax,AV.cK,AV.ids] using hi
 | fn g f c=>simpa [cellsOf,ax,AV.cK,AV.ids] using hi
theorem cz (l r:List AV):ax (l++r)=ax l++ax r:=by
 induction l with
 | nil=>rfl
 | cons v l ih=>rw [List.cons_append,ax,ax,ih,List.append_assoc]
theorem GD {β:Nat→Nat}:∀ {v:AV},aH v=true→v.leaf β=v.aY β
 | .val _,_=>rfl
 | .box _ _,_=>rfl
 | .km _ _,_=>rfl
 | .row _ _ _ _,_=>rfl
 | .fn _ _ _,_=>rfl
 | .agg _,h=>by cases h
 | .iB _,h=>by cases h
theorem nT {β:Nat→Nat}:∀ {v:AV},jU v=true→v.leaf β=v.aY β
 | .val _,_=>rfl
 | .box _ _,_=>rfl
 | .km _ _,_=>rfl
 | .row _ _ _ _,_=>rfl
 | .fn _ _ _,_=>rfl
 | .agg _,h=>by cases h
 | .iB _,h=>by cases h
theorem qb {v:AV} (h:jU v=true):v.cK=v.ids:=by cases v <;> first | rfl | cases h
theorem nW {β:Nat→Nat} {v:AV} (h:fC v=true):v.jv β=v.aY β:=by cases v <;> first | rfl | cases h
theorem qd {v:AV} (h:fC v=true):v.sP=v.ids:=by cases v <;> first | rfl | cases h
theorem Jb {v:AV} (h:aH v=true):v.cK=v.ids:=by
 cases v <;> first | rfl | cases h
section
variable {C:Cx} {β:Nat→Nat} {F:Fr} {H:Hp} {a:Act} {w:World}
theorem Rel.ev (hr:Rel C β F H a w) {x:Operand} {v:AV} (h:Proofs.YtabalinjfgcfeaaGreat.ev F x=some v):a.eval x=v.aY β:=by
 cases x with
 | tmp t=>exact hr.tmp t v h
 | const c=>cases h;rfl
 | func f=>cases h;rfl
 | global g=>cases h
theorem evv_ev {x:Operand} {v:Value} (h:Proofs.YtabalinjfgcfeaaGreat.jw F x=some v):Proofs.YtabalinjfgcfeaaGreat.ev F x=some (.val v):=by
 unfold Proofs.YtabalinjfgcfeaaGreat.jw at h
 split at h
 ·rename_i u hu
  cases h
  exact hu
 ·cases h
theorem Rel.jw (hr:Rel C β F H a w) {x:Operand} {v:Value} (h:Proofs.YtabalinjfgcfeaaGreat.jw F x=some v):a.eval x=v:=hr.ev (evv_ev h)
theorem Rel.evs (hr:Rel C β F H a w):∀ {l:List Operand} {vs:List Value},Proofs.YtabalinjfgcfeaaGreat.evs F l=some vs→l.map a.eval=vs
 | [],vs,h=>by cases h;rfl
 | x::r,vs,h=>by
  unfold Proofs.YtabalinjfgcfeaaGreat.evs at h
  split at h
  ·rename_i v l hv hl
   cases h
   rw [List.map_cons,hr.jw hv,hr.evs hl]
  ·cases h
theorem Rel.tR (hr:Rel C β F H a w):∀ {l:List Operand} {vs:List AV},Proofs.YtabalinjfgcfeaaGreat.tR F l=some vs→l.map a.eval=vs.map (AV.aY β)
 | [],vs,h=>by cases h;rfl
 | x::r,vs,h=>by
  unfold Proofs.YtabalinjfgcfeaaGreat.tR at h
  split at h
  ·rename_i v l hv hl
   cases h
   rw [List.map_cons,hr.ev hv,hr.tR hl];rfl
  ·cases h
theorem Rel.zE (hr:Rel C β F H a w):∀ {l:List (Nat×Operand)} {vs:List (Nat×AV)},Proofs.YtabalinjfgcfeaaGreat.zE F l=some vs→l.map (fun p=>(p.1,a.eval p.2))=vs.map (fun p=>(p.1,p.2.aY β))
 | [],vs,h=>by cases h;rfl
 | (k,x)::r,vs,h=>by
  unfold Proofs.YtabalinjfgcfeaaGreat.zE at h
  split at h
  ·rename_i v l hv hl
   cases h
   rw [List.map_cons,hr.zE hl]
   simp [hr.ev hv]
  ·cases h
theorem il.ev (hc:il F H) {x:Operand} {v:AV} (h:Proofs.YtabalinjfgcfeaaGreat.ev F x=some v):∀ i∈v.ids,H i≠none:=by
 cases x with
 | tmp t=>exact hc t v h
 | const c=>cases h;intro i hi;cases hi
 | func f=>cases h;intro i hi;cases hi
 | global g=>cases h
theorem il.tR (hc:il F H):∀ {l:List Operand} {vs:List AV},Proofs.YtabalinjfgcfeaaGreat.tR F l=some vs→∀ v∈vs,∀ i∈v.ids,H i≠none
 | [],vs,h=>by cases h;intro v hv;cases hv
 | x::r,vs,h=>by
  unfold Proofs.YtabalinjfgcfeaaGreat.tR at h
  split at h
  ·rename_i v l hv hl
   cases h
   intro u hu
   rcases List.mem_cons.1 hu with rfl | hu
   ·exact hc.ev hv
   ·exact hc.tR hl u hu
  ·cases h
theorem il.zE (hc:il F H):∀ {l:List (Nat×Operand)} {vs:List (Nat×AV)},Proofs.YtabalinjfgcfeaaGreat.zE F l=some vs→∀ v∈vs,∀ i∈v.2.ids,H i≠none
 | [],vs,h=>by cases h;intro v hv;cases hv
 | (k,x)::r,vs,h=>by
  unfold Proofs.YtabalinjfgcfeaaGreat.zE at h
  split at h
  ·rename_i v l hv hl
   cases h
   intro u hu
   rcases List.mem_cons.1 hu with rfl | hu
   ·exact hc.ev hv
   ·exact hc.zE hl u hu
  ·cases h
theorem Rel.dP (hr:Rel C β F H a w) {x:Operand} {v:AV} (h:Proofs.YtabalinjfgcfeaaGreat.ev F x=some v):∀ i∈v.ids,H i≠none:=hr.closed.ev h
theorem Rel.put (hr:Rel C β F H a w) {dst:Option Nat} (hd:jV C.N dst=true) {v:AV} (hc:∀ i∈v.ids,H i≠none):Rel C β (F.bC dst v) H (a.put dst (v.aY β)) w:=by
 cases dst with
 | none=>exact hr
 | some d=>
  have hlt:d < C.N:=by simpa [jV,Nat.blt_eq] using hd
  refine ⟨hr.defers,by simp [Act.put,hr.size],fun n u hn=> ?_,hr.own,hr.apart,fun n u hn=> ?_,fun n u hn=> ?_,hr.hp,hr.old⟩
  ·change (F.put d v) n=some u at hn
   rw [Fr.cO] at hn
   show (a.tmps.setIfInBounds d (v.aY β)).getD n undef=_
   by_cases h:n=d
   ·subst h
    rw [if_pos rfl] at hn
    cases hn
    simp [Array.getD_eq_getD_getElem?,Array.getElem?_setIfInBounds,hr.size,hlt]
   ·rw [if_neg h] at hn
    have:=hr.tmp n u hn
    rw [Array.getD_eq_getD_getElem?] at this ⊢
    rw [Array.getElem?_setIfInBounds,if_neg (fun e=>h e.symm)]
    exact this
  ·change (F.put d v) n=some u at hn
   rw [Fr.cO] at hn
   by_cases h:n=d
   ·rw [if_pos h] at hn;cases hn;exact hc
   ·rw [if_neg h] at hn;exact hr.closed n u hn
  ·change (F.put d v) n=some u at hn
   rw [Fr.cO] at hn
   by_cases h:n=d
   ·rw [h];exact hlt
   ·rw [if_neg h] at hn;exact hr.fits n u hn
theorem gB {P:Program} {t:TypeId} {i:TI} (hi:TI.Ok P t i) (a:Addr) (cs:List Value) (hl:cs.length=i.size) (w:World) (hc:∀ j u,cs[j]? =some u→w.cell? (a.add j)=some u):
  (loadVar t a).run P w=.ok (lg i cs) w:=by
 obtain ⟨d,hu,hd⟩:=hi.row
 have hz:=hi.size
 cases hq:P.info? t with
 | none=>rw [hq] at hz;simp at hz
 | some ti=>
  rw [hq] at hz
  simp at hz
  unfold loadVar lg
  cases hg:i.agg
  ·have h1:=hi.lone hg
   rw [hg] at hd
   obtain ⟨u,rfl⟩:∃ u,cs=[u]:=List.length_eq_one_iff.1 (by omega)
   have:=hc 0 u rfl
   have ha:a.add 0=a:=by unfold Addr.add;split <;> simp_all
   rw [ha] at this
   cases d <;> simp_all [isAgg,run_underlying hu,TypeDesc.isRow]
  ·rw [hg] at hd
   have hld:=run_loadCells_list (P:=P) w a cs hc
   rw [hl,←hz] at hld
   cases d <;> simp_all [isAgg,run_underlying hu,TypeDesc.isRow,sizeOf,typeInfo]
theorem qe {P:Program} {t:TypeId} {i:TI} (hi:TI.Ok P t i) {cs:List AV} (hl:cs.length=i.size) (hk:cs.all aH=true):(lK i cs).aY β=lg i (cs.map (AV.leaf β)):=by
 unfold lK lg
 cases hg:i.agg with
 | true=>exact qa β cs
 | false=>
  have h1:=hi.lone hg
  obtain ⟨u,rfl⟩:∃ u,cs=[u]:=List.length_eq_one_iff.1 (by omega)
  simp at hk
  simp [GD hk]
theorem sU {i:TI} {cs:List AV} {j:Nat} (hk:cs.all aH=true) (h:j∈(lK i cs).ids):j∈ax cs:=by
 unfold lK at h
 cases hg:i.agg with
 | true=>rw [hg] at h;exact sT h
 | false=>
  rw [hg] at h
  cases cs with
  | nil=>cases h
  | cons x r=>
   simp only [cond_false,List.headD_cons] at h
   simp at hk
   rw [ax,Jb hk.1]
   exact List.mem_append_left _ h
end
end Go.Proofs.YtabalinjfgcfeaaGreat
