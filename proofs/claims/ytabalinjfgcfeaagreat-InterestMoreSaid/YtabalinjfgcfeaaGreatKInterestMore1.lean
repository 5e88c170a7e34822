/- BD of the proof,laid behind one another. -/
import Derived.Lib.Hide
import Derived.WalkKit
import Derived.WalkSpells
import Derived.WalkLawsBesides
import Derived.Outline
import Derived.Test.YtabalinjfgcfeaaGreatRows
import Derived.Deep.QuietTactic
import Derived.BigQuiet
import Derived.Lib.SliceRun
import Derived.Lib.AppendZeros
import Derived.RegionCalls
import Derived.Deep.RegionWith
import Derived.Lib.BitFns
import Derived.WalkMore
import Derived.RangeFuncBox
import Derived.Orders
import Derived.Deep.MidRow
import Derived.Laws.MakeOwn
import Derived.RegionTactic
import Derived.Laws.Slices
import Derived.Deep.LoopGhost
import Derived.Scope
import Derived.Deep.AppendSrc
import Derived.Laws.AppendOwn
import Derived.MapKept
import Derived.Deep.RegionHeld3
import Derived.Deep.RegionLaw
import Derived.Deep.DeepCutAuto
import Derived.BigRegion
import Derived.OpenShut
import Derived.WideShapes
import Derived.ChangeArms
import Derived.ChangeSlices
import Derived.RangeFuncNested
import Derived.RangeFuncLeaves
import Derived.OrdersIn
import Derived.TacticsIn
set_option linter.all false
namespace Go.Proofs.YtabalinjfgcfeaaGreat
def val (B:Nat):List Nat→Nat
 | []=>0
 | x::xs=>x + B * val B xs
def dH (B:Nat) (xs:List Nat):Prop:=∀ x∈xs,x < B
def gZ (B:Nat) (n:Nat):List Nat:=
 if _h:n=0∨B < 2 then [] else n % B::gZ B (n / B)
termination_by n
decreasing_by
 have:n≠0∧2≤B:=by omega
 exact Nat.div_lt_self (by omega) (by omega)
theorem val_nil (B:Nat):val B []=0:=rfl
theorem gp (B x:Nat) (xs:List Nat):val B (x::xs)=x + B * val B xs:=rfl
theorem dB (B:Nat):gZ B 0=[]:=by rw [gZ];simp
theorem ia {B n:Nat} (hB:2≤B) (hn:n≠0):gZ B n=n % B::gZ B (n / B):=by
 rw [gZ,dif_neg (by omega)]
theorem dH.nil (B:Nat):dH B []:=fun _ h=>by cases h
theorem dH.cons {B x:Nat} {xs:List Nat} (hx:x < B) (h:dH B xs):dH B (x::xs):=by
 intro y hy;cases hy with
 | head=>exact hx
 | tail _ h'=>exact h y h'
theorem dH.head {B x:Nat} {xs:List Nat} (h:dH B (x::xs)):x < B:=h x (List.mem_cons_self ..)
theorem dH.tail {B x:Nat} {xs:List Nat} (h:dH B (x::xs)):dH B xs:=fun y hy=>h y (List.mem_cons_of_mem _ hy)
theorem dH.take {B:Nat} {xs:List Nat} (h:dH B xs) (k:Nat):dH B (xs.take k):=fun y hy=>h y (List.mem_of_mem_take hy)
theorem dH.drop {B:Nat} {xs:List Nat} (h:dH B xs) (k:Nat):dH B (xs.drop k):=fun y hy=>h y (List.mem_of_mem_drop hy)
theorem dH.append {B:Nat} {xs ys:List Nat} (h:dH B xs) (h':dH B ys):dH B (xs++ys):=by
 intro y hy;rcases List.mem_append.1 hy with hy | hy
 ·exact h y hy
 ·exact h' y hy
theorem dH.at {B:Nat} {xs:List Nat} (h:dH B xs) {k x:Nat} (hk:xs[k]? =some x):x < B:=h x (List.mem_of_getElem? hk)
theorem dH.replicate {B:Nat} (hB:0 < B) (k:Nat):dH B (List.replicate k 0):=fun y hy=>by
 rw [List.mem_replicate] at hy;omega
theorem nY {B:Nat} (hB:2≤B):∀ n,dH B (gZ B n):=by
 intro n
 induction n using Nat.strongRecOn with
 | _ n ih=>
   by_cases hn:n=0
   ·subst hn;rw [dB];exact dH.nil B
   ·rw [ia hB hn]
    exact dH.cons (Nat.mod_lt _ (by omega)) (ih _ (Nat.div_lt_self (by omega) (by omega)))
theorem jV {B:Nat} (hB:2≤B):∀ n,val B (gZ B n)=n:=by
 intro n
 induction n using Nat.strongRecOn with
 | _ n ih=>
   by_cases hn:n=0
   ·subst hn;rw [dB];rfl
   ·rw [ia hB hn,gp,ih _ (Nat.div_lt_self (by omega) (by omega))]
    exact Nat.mod_add_div n B
theorem nZ {B:Nat}:∀ {xs:List Nat},dH B xs→val B xs < B ^ xs.length:=by
 intro xs
 induction xs with
 | nil=>intro _;simp [val]
 | cons x xs ih=>
   intro h
   have h1:=ih h.tail
   have hx:=h.head
   rw [gp,List.length_cons,Nat.pow_succ,Nat.mul_comm (B ^ xs.length) B]
   calc x + B * val B xs < B + B * val B xs:=by omega
    _=B * (val B xs + 1):=by rw [Nat.mul_add];omega
    _≤B * B ^ xs.length:=Nat.mul_le_mul_left _ h1
theorem iJ (B:Nat):∀ (xs ys:List Nat),val B (xs++ys)=val B xs + B ^ xs.length * val B ys:=by
 intro xs ys
 induction xs with
 | nil=>simp [val]
 | cons x xs ih=>
   rw [List.cons_append,gp,ih,gp,List.length_cons,Nat.pow_succ,Nat.mul_add,Nat.add_assoc]
   congr 2
   rw [←Nat.mul_assoc,Nat.mul_comm B (B ^ xs.length)]
theorem lP (B:Nat) (xs:List Nat) (x:Nat):val B (xs++[x])=val B xs + B ^ xs.length * x:=by
 rw [iJ];simp [val]
theorem gF (B k:Nat):val B (List.replicate k 0)=0:=by
 induction k with
 | zero=>rfl
 | succ k ih=>rw [List.replicate_succ,gp,ih];simp
theorem wk {B:Nat} (hB:2≤B):∀ {xs:List Nat},dH B xs→(∀ x,xs.getLast? =some x→x≠0)→gZ B (val B xs)=xs:=by
 intro xs
 induction xs with
 | nil=>intro _ _;exact dB B
 | cons x xs ih=>
   intro hd hl
   have hx:=hd.head
   have hne:val B (x::xs)≠0:=by
    intro h0
    rw [gp] at h0
    have gB:x=0:=by omega
    cases xs with
    | nil=>exact hl x (by simp) gB
    | cons y ys=>
      have hv:val B (y::ys)=0:=by
       have:B * val B (y::ys)=0:=by omega
       rcases Nat.mul_eq_zero.1 this with h | h
       ·omega
       ·exact h
      have:=ih hd.tail (fun z hz=>hl z (by rw [List.getLast?_cons_cons];exact hz))
      rw [hv,dB] at this
      cases this
   rw [ia hB hne,gp]
   have h1:(x + B * val B xs) % B=x:=by rw [Nat.add_mul_mod_self_left];exact Nat.mod_eq_of_lt hx
   have h2:(x + B * val B xs) / B=val B xs:=by
    rw [Nat.add_mul_div_left _ _ (by omega),Nat.div_eq_of_lt hx];omega
   rw [h1,h2]
   congr 1
   cases xs with
   | nil=>exact dB B
   | cons y ys=>exact ih hd.tail (fun z hz=>hl z (by rw [List.getLast?_cons_cons];exact hz))
theorem HF {B:Nat} (hB:2≤B):∀ n x,(gZ B n).getLast? =some x→x≠0:=by
 intro n
 induction n using Nat.strongRecOn with
 | _ n ih=>
   intro x hx
   by_cases hn:n=0
   ·subst hn;rw [dB] at hx;cases hx
   ·rw [ia hB hn] at hx
    by_cases h2:n / B=0
    ·rw [h2,dB] at hx
     simp at hx
     have:n < B:=by
      rcases Nat.lt_or_ge n B with h | h
      ·exact h
      ·have:=Nat.div_pos h (by omega:0 < B);omega
     rw [Nat.mod_eq_of_lt this] at hx
     omega
    ·rw [ia hB h2,List.getLast?_cons_cons,←ia hB h2] at hx
     exact ih _ (Nat.div_lt_self (by omega) (by omega)) x hx
theorem wm {B:Nat} (hB:2≤B) {m n:Nat} (h:gZ B m=gZ B n):m=n:=by
 have:=congrArg (val B) h
 rwa [jV hB,jV hB] at this
theorem eC {B:Nat} (hB:2≤B):∀ (k n:Nat),n < B ^ k→(gZ B n).length≤k:=by
 intro k
 induction k with
 | zero=>intro n h;have:n=0:=by simpa using h
         subst this;rw [dB];simp
 | succ k ih=>
   intro n h
   by_cases hn:n=0
   ·subst hn;rw [dB];simp
   ·rw [ia hB hn,List.length_cons]
    have:n / B < B ^ k:=by
     rw [Nat.div_lt_iff_lt_mul (by omega)]
     rwa [Nat.pow_succ] at h
    have:=ih _ this
    omega
theorem wq {B:Nat} (hB:2≤B) {k n:Nat} (h:B ^ k≤n):k < (gZ B n).length:=by
 rcases Nat.lt_or_ge k (gZ B n).length with h' | h'
 ·exact h'
 ·have h1:=nZ (nY hB n)
  rw [jV hB] at h1
  have:=Nat.pow_le_pow_right (show 0 < B by omega) h'
  omega
theorem cZ {B:Nat} (hB:2≤B) {m n:Nat} (h:m≤n):(gZ B m).length≤(gZ B n).length:=by
 apply eC hB
 have h1:=nZ (nY hB n)
 rw [jV hB] at h1
 omega
theorem zX {B:Nat} (hB:2≤B) {xs:List Nat} (h:dH B xs):(gZ B (val B xs)).length≤xs.length:=
 eC hB _ _ (nZ h)
theorem BF {B:Nat} (hB:2≤B) (n:Nat):n < B ^ (gZ B n).length:=by
 have h1:=nZ (nY hB n)
 rwa [jV hB] at h1
theorem tU {B:Nat} (hB:2≤B) {n:Nat} (hn:n≠0):B ^ ((gZ B n).length - 1)≤n:=by
 rcases Nat.lt_or_ge n (B ^ ((gZ B n).length - 1)) with h | h
 ·have h1:=eC hB _ _ h
  have h2:0 < (gZ B n).length:=by rw [ia hB hn];simp
  omega
 ·exact h
theorem zY {B:Nat} (hB:2≤B) {n:Nat}:gZ B n=[]↔n=0:=by
 constructor
 ·intro h;exact wm hB (h.trans (dB B).symm)
 ·rintro rfl;exact dB B
theorem nv {B:Nat} (hB:2≤B) {n:Nat} (hn:n≠0):0 < (gZ B n).length:=by
 rw [ia hB hn];simp
theorem iW (B:Nat) (xs:List Nat) (k:Nat) (hk:k≤xs.length):val B xs=val B (xs.take k) + B ^ k * val B (xs.drop k):=by
 conv=>lhs;rw [←List.take_append_drop k xs]
 rw [iJ,List.length_take,Nat.min_eq_left hk]
theorem bu {α:Type} {xs:List α} {k:Nat} {x:α} (h:xs[k]? =some x):xs.take (k + 1)=xs.take k++[x]:=by
 rw [List.take_add_one,h];rfl
theorem kI {B:Nat} {xs:List Nat} {k:Nat} (hk:xs[k]? =some 0):val B (xs.take (k + 1))=val B (xs.take k):=by
 rw [bu hk,lP];simp
theorem jO {B:Nat} (hB:2≤B) {xs:List Nat} (hd:dH B xs) {m:Nat} (hm:m≤xs.length) (hv:val B (xs.take m)=val B xs) (hl:m=0∨∃ x,xs[m - 1]? =some x∧x≠0):
  gZ B (val B xs)=xs.take m:=by
 rw [←hv]
 apply wk hB (hd.take m)
 intro x hx
 rcases hl with rfl | ⟨y,hy,Kf⟩
 ·simp at hx
 ·rw [List.getLast?_eq_getElem?,List.length_take,Nat.min_eq_left hm,List.getElem?_take] at hx
  split at hx
  ·rw [hy] at hx;cases hx;exact Kf
  ·cases hx
theorem jW {B:Nat} {xs ys:List Nat} (hx:dH B xs) {k a b:Nat} (ha:xs[k]? =some a) (hb:ys[k]? =some b) (vo:a < b)
  (hh:xs.drop (k + 1)=ys.drop (k + 1)):val B xs < val B ys:=by
 have sP:k < xs.length:=(List.getElem?_eq_some_iff.1 ha).1
 have oc:k < ys.length:=(List.getElem?_eq_some_iff.1 hb).1
 rw [iW B xs (k + 1) (by omega),iW B ys (k + 1) (by omega),hh,bu ha,bu hb,lP,lP]
 have h1:=nZ (hx.take k)
 rw [List.length_take,Nat.min_eq_left (by omega)] at h1 ⊢
 rw [List.length_take,Nat.min_eq_left (by omega)]
 have h2:B ^ k * a + B ^ k≤B ^ k * b:=by
  calc B ^ k * a + B ^ k=B ^ k * (a + 1):=by rw [Nat.mul_add];omega
   _≤B ^ k * b:=Nat.mul_le_mul_left _ vo
 omega
def aq (xs:List Nat):Nat:=val 4294967296 xs
def limbs (n:Nat):List Nat:=gZ 4294967296 n
def cd (xs:List Nat):Prop:=dH 4294967296 xs
theorem cd.nil:cd []:=dH.nil _
theorem cd.cons {x:Nat} {xs:List Nat} (hx:x < 4294967296) (h:cd xs):cd (x::xs):=dH.cons hx h
theorem cd.take {xs:List Nat} (h:cd xs) (k:Nat):cd (xs.take k):=dH.take h k
theorem cd.drop {xs:List Nat} (h:cd xs) (k:Nat):cd (xs.drop k):=dH.drop h k
theorem cd.append {xs ys:List Nat} (h:cd xs) (h':cd ys):cd (xs++ys):=dH.append h h'
theorem cd.at {xs:List Nat} (h:cd xs) {k x:Nat} (hk:xs[k]? =some x):x < 4294967296:=dH.at h hk
theorem az (n:Nat):cd (limbs n):=nY (by omega) n
theorem au (n:Nat):aq (limbs n)=n:=jV (by omega) n
theorem bB:limbs 0=[]:=dB _
theorem dW:aq []=0:=rfl
theorem fi (x:Nat) (xs:List Nat):aq (x::xs)=x + 4294967296 * aq xs:=rfl
theorem dC (xs:List Nat) (x:Nat):aq (xs++[x])=aq xs + 4294967296 ^ xs.length * x:=lP _ xs x
theorem dX (xs ys:List Nat):aq (xs++ys)=aq xs + 4294967296 ^ xs.length * aq ys:=iJ _ xs ys
theorem iX {xs:List Nat} (h:cd xs):aq xs < 4294967296 ^ xs.length:=nZ h
theorem ib {xs:List Nat} (h:cd xs):(limbs (aq xs)).length≤xs.length:=zX (by omega) h
theorem jv (k n:Nat) (h:n < 4294967296 ^ k):(limbs n).length≤k:=eC (by omega) k n h
theorem uP {k n:Nat} (h:4294967296 ^ k≤n):k < (limbs n).length:=wq (by omega) h
theorem mG (n:Nat):n < 4294967296 ^ (limbs n).length:=BF (by omega) n
theorem zZ {n:Nat} (hn:n≠0):4294967296 ^ ((limbs n).length - 1)≤n:=tU (by omega) hn
theorem cw {m n:Nat} (h:m≤n):(limbs m).length≤(limbs n).length:=cZ (by omega) h
theorem HI {m n:Nat} (h:limbs m=limbs n):m=n:=wm (by omega) h
theorem ll {n:Nat}:limbs n=[]↔n=0:=zY (by omega)
theorem dc {n:Nat} (hn:n≠0):0 < (limbs n).length:=nv (by omega) hn
theorem od {n:Nat} (h:(limbs n).length=0):n=0:=ll.1 (List.eq_nil_of_length_eq_zero h)
theorem qq {xs:List Nat} (h:cd xs) (hl:∀ x,xs.getLast? =some x→x≠0):limbs (aq xs)=xs:=wk (by omega) h hl
theorem qu (n x:Nat) (h:(limbs n).getLast? =some x):x≠0:=HF (by omega) n x h
def fW (a b:Nat):Int:=if a < b then -1 else if b < a then 1 else 0
theorem kJ {a b:Nat} (h:a < b):fW a b= -1:=by simp [fW,h]
theorem kK {a b:Nat} (h:b < a):fW a b=1:=by simp [fW,h];omega
theorem rj (a:Nat):fW a a=0:=by simp [fW]
theorem je {a b:Nat}:(fW a b < 0)↔a < b:=by unfold fW;split <;> (try split) <;> omega
theorem aY (xs:List Nat) (k:Nat):aq (xs.take (k + 1))=aq (xs.take k) + 4294967296 ^ k * xs.getD k 0:=by
 by_cases h:k < xs.length
 ·rw [bu (List.getElem?_eq_getElem h),dC,List.length_take,Nat.min_eq_left (by omega)]
  simp [List.getD,h]
 ·rw [List.take_of_length_le (by omega),List.take_of_length_le (by omega)]
  simp [List.getD,List.getElem?_eq_none (by omega:xs.length≤k)]
theorem bm {xs:List Nat} {k:Nat} (h:xs.length≤k):aq (xs.take k)=aq xs:=by rw [List.take_of_length_le h]
theorem BG (p s x y c X Y D:Nat) (h:D + p * c=X + Y) (hs:s=x + y + c):
  D + p * (s % 4294967296) + p * 4294967296 * (s / 4294967296)=(X + p * x) + (Y + p * y):=by
 subst hs
 have h2:p * ((x + y + c) % 4294967296) + p * 4294967296 * ((x + y + c) / 4294967296)=p * (x + y + c):=by
  rw [Nat.mul_assoc,←Nat.mul_add,Nat.mod_add_div]
 rw [Nat.mul_add,Nat.mul_add] at h2
 omega
theorem Kg (p x m c X D:Nat) (h:D + p * c=X * m):
  D + p * ((x * m + c) % 4294967296) + p * 4294967296 * ((x * m + c) / 4294967296)=(X + p * x) * m:=by
 have h2:p * ((x * m + c) % 4294967296) + p * 4294967296 * ((x * m + c) / 4294967296)=p * (x * m + c):=by
  rw [Nat.mul_assoc,←Nat.mul_add,Nat.mod_add_div]
 rw [Nat.mul_add] at h2
 rw [Nat.add_mul,Nat.mul_assoc p x m]
 omega
def gX (n:Nat):Nat:=if n=0 then 0 else Nat.log2 n + 1
theorem HQ:gX 0=0:=rfl
theorem vp (n:Nat):n < 2 ^ gX n:=by
 unfold gX
 split
 ·omega
 ·exact Nat.lt_log2_self
theorem vt {n:Nat} (h:n≠0):2 ^ (gX n - 1)≤n:=by
 unfold gX
 rw [if_neg h]
 exact Nat.log2_self_le h
theorem rk {n:Nat} (h:n≠0):0 < gX n:=by unfold gX;rw [if_neg h];omega
theorem Gi {n b:Nat} (h:n < 2 ^ b) (h':b=0∨2 ^ (b - 1)≤n):gX n=b:=by
 by_cases h0:n=0
 ·subst h0
  rcases h' with rfl | h'
  ·rfl
  ·have:=Nat.pow_pos (n:=b - 1) (show 0 < 2 by omega);omega
 ·have h1:=vp n
  have h2:=vt h0
  have h3:=rk h0
  rcases Nat.lt_trichotomy (gX n) b with hl | he | hg
  ·rcases h' with rfl | h'
   ·omega
   ·have:=Nat.pow_le_pow_right (show 0 < 2 by omega) (show gX n≤b - 1 by omega)
    omega
  ·exact he
  ·have:=Nat.pow_le_pow_right (show 0 < 2 by omega) (show b≤gX n - 1 by omega)
   omega
theorem qd {n k:Nat} (h:n < 2 ^ k):gX n≤k:=by
 by_cases h0:n=0
 ·subst h0;rw [HQ];omega
 ·have h1:=vt h0
  rcases Nat.lt_or_ge k (gX n) with hl | hg
  ·have:=Nat.pow_le_pow_right (show 0 < 2 by omega) (show k≤gX n - 1 by omega)
   omega
  ·exact hg
theorem BH (k:Nat):4294967296 ^ k=2 ^ (32 * k):=by rw [Nat.pow_mul]
theorem BI {n t:Nat} (hl:(limbs n)[(limbs n).length - 1]? =some t):gX n=32 * ((limbs n).length - 1) + gX t∧t≠0:=by
 have hlast:(limbs n).getLast? =some t:=by rw [List.getLast?_eq_getElem?];exact hl
 have ht:=qu n t hlast
 have uQ:0 < (limbs n).length:=by
  rcases Nat.eq_zero_or_pos (limbs n).length with h | h
  ·rw [List.eq_nil_of_length_eq_zero h] at hl;cases hl
  ·exact h
 refine ⟨?_,ht⟩
 have e:limbs n=(limbs n).take ((limbs n).length - 1)++[t]:=by
  have:=bu hl
  rw [show (limbs n).length - 1 + 1=(limbs n).length by omega,List.take_length] at this
  exact this
 have hv:n=aq ((limbs n).take ((limbs n).length - 1)) + 4294967296 ^ ((limbs n).length - 1) * t:=by
  have h1:=congrArg aq e
  rw [au,dC,List.length_take,Nat.min_eq_left (by omega)] at h1
  exact h1
 have Aa:=iX ((az n).take ((limbs n).length - 1))
 rw [List.length_take,Nat.min_eq_left (by omega)] at Aa
 generalize aq ((limbs n).take ((limbs n).length - 1))=lo at hv Aa
 generalize (limbs n).length - 1=m at hv Aa
 have h1:=vp t
 have h2:=vt ht
 have h3:=rk ht
 rw [BH] at hv Aa
 apply Gi
 ·rw [hv,Nat.pow_add]
  calc lo + 2 ^ (32 * m) * t < 2 ^ (32 * m) + 2 ^ (32 * m) * t:=by omega
   _=2 ^ (32 * m) * (t + 1):=by rw [Nat.mul_add];omega
   _≤2 ^ (32 * m) * 2 ^ gX t:=Nat.mul_le_mul_left _ h1
 ·right
  rw [hv,show 32 * m + gX t - 1=32 * m + (gX t - 1) by omega,Nat.pow_add]
  have:=Nat.mul_le_mul_left (2 ^ (32 * m)) h2
  omega
theorem BJ {x:Nat} (k:Nat) (hx:x≠0):List.replicate k 0++limbs x=limbs (x * 4294967296 ^ k):=by
 have h:aq (List.replicate k 0++limbs x)=x * 4294967296 ^ k:=by
  rw [dX,au,show aq (List.replicate k 0)=0 from gF _ k,List.length_replicate,Nat.mul_comm];omega
 rw [←h]
 symm
 apply qq
 ·exact cd.append (dH.replicate (by omega) k) (az x)
 ·intro y hy
  rw [List.getLast?_append] at hy
  have hne:limbs x≠[]:=fun h=>hx (ll.1 h)
  cases hl:(limbs x).getLast? with
  | none=>rw [List.getLast?_eq_none_iff] at hl;exact absurd hl hne
  | some z=>rw [hl] at hy;simp at hy;subst hy;exact qu x z hl
theorem uR (x k:Nat) (hk:k≤(limbs x).length):aq ((limbs x).drop k)=x / 4294967296 ^ k:=by
 have h:=iW 4294967296 (limbs x) k hk
 have h1:val 4294967296 (limbs x)=x:=au x
 have h2:=iX ((az x).take k)
 rw [List.length_take,Nat.min_eq_left hk] at h2
 rw [h1] at h
 show val 4294967296 _=_
 have h3:val 4294967296 ((limbs x).take k) < 4294967296 ^ k:=h2
 generalize val 4294967296 ((limbs x).take k)=lo at h h3
 generalize val 4294967296 ((limbs x).drop k)=hi at h ⊢
 rw [h,Nat.add_mul_div_left _ _ (Nat.pow_pos (by omega)),Nat.div_eq_of_lt h3];omega
def gj (x:Nat) (n:Int):Nat:=if 0≤n then x * 2 ^ n.toNat else x / 2 ^ (-n).toNat
theorem BK {B:Nat} (hB:2≤B) {ds:List Nat} (hd:dH B ds) (h:ds.length≤(gZ B (val B ds)).length):gZ B (val B ds)=ds:=by
 apply wk hB hd
 intro x hx h0
 subst h0
 have hne:ds≠[]:=by rintro rfl;cases hx
 have uQ:0 < ds.length:=List.length_pos_iff.2 hne
 have hk:ds[ds.length - 1]? =some 0:=by rw [←List.getLast?_eq_getElem?];exact hx
 have h1:=kI (B:=B) hk
 rw [show ds.length - 1 + 1=ds.length by omega,List.take_length] at h1
 have h2:=nZ (hd.take (ds.length - 1))
 rw [←h1,List.length_take,Nat.min_eq_left (by omega)] at h2
 have h3:=eC hB _ _ h2
 omega
theorem bJ (B:Nat) (xs:List Nat) (k:Nat):val B (xs.take (k + 1))=val B (xs.take k) + B ^ k * xs.getD k 0:=by
 by_cases h:k < xs.length
 ·rw [bu (List.getElem?_eq_getElem h),lP,List.length_take,Nat.min_eq_left (by omega)]
  simp [List.getD,h]
 ·rw [List.take_of_length_le (by omega),List.take_of_length_le (by omega)]
  simp [List.getD,List.getElem?_eq_none (by omega:xs.length≤k)]
theorem eJ {B:Nat} {xs:List Nat} {k:Nat} (h:xs.length≤k):val B (xs.take k)=val B xs:=by rw [List.take_of_length_le h]
theorem HT (B p s x y c X Y D:Nat) (h:D + p * c=X + Y) (hs:s=x + y + c):D + p * (s % B) + p * B * (s / B)=(X + p * x) + (Y + p * y):=by
 subst hs
 have h2:p * ((x + y + c) % B) + p * B * ((x + y + c) / B)=p * (x + y + c):=by
  rw [Nat.mul_assoc,←Nat.mul_add,Nat.mod_add_div]
 rw [Nat.mul_add,Nat.mul_add] at h2
 omega
theorem qe {B:Nat} {xs:List Nat} {k x:Nat} (h:xs[k]? =some x):val B (xs.drop k)=x + B * val B (xs.drop (k + 1)):=by
 obtain ⟨hl,e⟩:=List.getElem?_eq_some_iff.1 h
 rw [List.drop_eq_getElem_cons hl,e,gp]
theorem HW (B p x y r d r' X Y D:Nat) (h:D + Y=X + p * r) (hs:x + B * r'=d + y + r):(D + p * d) + (Y + p * y)=(X + p * x) + p * B * r':=by
 have h2:p * (x + B * r')=p * (d + y + r):=by rw [hs]
 rw [Nat.mul_add,Nat.mul_add,Nat.mul_add,←Nat.mul_assoc] at h2
 omega
end Go.Proofs.YtabalinjfgcfeaaGreat
namespace Go.Proofs.YtabalinjfgcfeaaGreat
open Go.RowKit
def Rd (w:World) (sz:Nat) (v:Value) (n:Nat) (cs:List Value):Prop:=
 ∃ p c,v=.slice p n c∧n≤c∧c≤maxLen∧cs.length=n * sz∧(0 < n * sz→∃ b off,p=some ⟨b,off,none⟩∧∀ j u,cs[j]? =some u→w.cell? ⟨b,off + j,none⟩=some u)
theorem Rd.nil (w:World) (sz:Nat):Rd w sz (.slice none 0 0) 0 []:=⟨none,0,rfl,Nat.le_refl _,by simp [maxLen],by simp,fun h=>by omega⟩
theorem Rd.keep {w w':World} {sz n:Nat} {v:Value} {cs:List Value} (h:Rd w sz v n cs) (hk:∀ a u,w.cell? a=some u→w'.cell? a=some u):Rd w' sz v n cs:=by
 obtain ⟨p,c,rfl,h1,h2,h3,h4⟩:=h
 refine ⟨p,c,rfl,h1,h2,h3,fun hn=> ?_⟩
 obtain ⟨b,off,hp,hc⟩:=h4 hn
 exact ⟨b,off,hp,fun j u hj=>hk _ _ (hc j u hj)⟩
theorem iY {w:World} {a:Addr} {u:Value} (h:w.cell? a=some u):a.block < w.heap.size:=World.block_lt_of_cell? w a h
theorem Below.keeps {w w':World} (h:Below w.heap.size w w'):∀ a u,w.cell? a=some u→w'.cell? a=some u:=
 fun _ _ hu=>(h.cell (iY hu)).trans hu
theorem Rd.below {w w':World} {sz n:Nat} {v:Value} {cs:List Value} (h:Rd w sz v n cs) (hb:Below w.heap.size w w'):Rd w' sz v n cs:=h.keep (Below.keeps hb)
theorem Rd.alloc {w:World} {sz n:Nat} {v:Value} {cs:List Value} (h:Rd w sz v n cs) (o:Obj):Rd (w.alloc o) sz v n cs:=
 h.below ((Below.refl _ _).alloc (Nat.le_refl _) o)
theorem Rd.drew {w:World} {sz n:Nat} {v:Value} {cs:List Value} (h:Rd w sz v n cs):Rd w.drew sz v n cs:=h
theorem Rd.drewN {w:World} {sz n:Nat} {v:Value} {cs:List Value} (h:Rd w sz v n cs) (k:Nat):Rd (w.drewN k) sz v n cs:=h
theorem Rd.lit {w:World} {cs:Array Value} {e n:Nat} (hn:cs.size=n) (hm:n≤9223372036854775807):Rd (w.alloc (.cells cs e)) 1 (.slice (some ⟨w.heap.size,0,none⟩) n n) n cs.toList:=
 ⟨_,n,rfl,Nat.le_refl _,by unfold maxLen;omega,by simp [hn],fun _=>⟨w.heap.size,0,rfl,fun j u hj=>by
   rw [Nat.zero_add,World.cell?_alloc_new];simpa using hj⟩⟩
theorem Rd.iK {B:Nat} {w w':World} {sz n:Nat} {v:Value} {cs:List Value} (h:Rd w sz v n cs) (hB:B=w.heap.size) (hb:Below B w w'):Rd w' sz v n cs:=h.below (hB▸hb)
theorem Rd.own {w:World} {B e sz n:Nat} {v:Value} {cs:List Value} (h:w.ownsRow B e sz v n cs):Rd w sz v n cs:=by
 rcases h.2 with ⟨rfl,rfl⟩ | ⟨g,cap,cur,rfl,_,hg,fH,fy,_,Kh⟩
 ·have hx:cs=[]:=List.eq_nil_of_length_eq_zero (by simpa using h.1)
  subst hx;exact Rd.nil w sz
 ·refine ⟨_,cap,rfl,fH,fy,h.1,fun _=>⟨g,0,rfl,fun j u hj=> ?_⟩⟩
  have:=h.cells (g:=g) rfl j u hj
  rwa [show (⟨g,0,none⟩:Addr).add j=⟨g,0 + j,none⟩ by unfold Addr.add;split <;> simp_all] at this
theorem Own.mono {w:World} {B B' e sz n:Nat} {v:Value} {cs:List Value} (h:w.ownsRow B e sz v n cs) (hB:B'≤B):w.ownsRow B' e sz v n cs:=by
 refine ⟨h.1,?_⟩
 rcases h.2 with h2 | ⟨g,cap,cur,hv,hb,r⟩
 ·exact .inl h2
 ·exact .inr ⟨g,cap,cur,hv,by omega,r⟩
theorem Own.below {w w':World} {B e sz n:Nat} {v:Value} {cs:List Value} (h:w.ownsRow B e sz v n cs) (hb:Below w.heap.size w w'):w'.ownsRow B e sz v n cs:=by
 refine ⟨h.1,?_⟩
 rcases h.2 with h2 | ⟨g,cap,cur,hv,hg,hh,r⟩
 ·exact .inl h2
 ·exact .inr ⟨g,cap,cur,hv,hg,(hb.block g (Array.getElem?_eq_some_iff.1 hh).1).trans hh,r⟩
theorem Own.vu {w:World} {B e sz n:Nat} {v:Value} {cs:List Value} (h:w.ownsRow B e sz v n cs) (hn:0 < n):∃ g c,v=.slice (some ⟨g,0,none⟩) n c∧B≤g∧g < w.heap.size:=by
 rcases h.2 with ⟨_,h0⟩ | ⟨g,cap,cur,rfl,hb,hg,_⟩
 ·omega
 ·exact ⟨g,cap,rfl,hb,(Array.getElem?_eq_some_iff.1 hg).1⟩
theorem Own.drewN {w:World} {B e sz n:Nat} {v:Value} {cs:List Value} (h:w.ownsRow B e sz v n cs) (k:Nat):(w.drewN k).ownsRow B e sz v n cs:=h
theorem Below.drewN {B:Nat} {a w:World} (h:Below B a w) (n:Nat):Below B a (w.drewN n):=⟨h.os,h.tape,h.output,h.size,h.block⟩
theorem Own.take {w:World} {B e sz n c:Nat} {p:Option Addr} {cs:List Value} (h:w.ownsRow B e sz (.slice p n c) n cs) {m:Nat} (hm:m≤n):w.ownsRow B e sz (.slice p m c) m (cs.take (m * sz)):=by
 have hle:m * sz≤n * sz:=Nat.mul_le_mul_right _ hm
 refine ⟨by rw [List.length_take,h.1];omega,?_⟩
 rcases h.2 with ⟨hv,rfl⟩ | ⟨g,cap,cur,hv,hb,hg,fH,fy,hcs,Kh⟩
 ·left
  simp only [Value.slice.injEq] at hv
  obtain ⟨rfl,_,rfl⟩:=hv
  exact ⟨by rw [show m=0 by omega],by omega⟩
 ·right
  simp only [Value.slice.injEq,true_and] at hv
  obtain ⟨rfl,rfl⟩:=hv
  exact ⟨g,c,cur,rfl,hb,hg,by omega,fy,hcs,by rw [←Kh,List.take_take,Nat.min_eq_left hle]⟩
theorem Rd.take {w:World} {sz n c:Nat} {p:Option Addr} {cs:List Value} (h:Rd w sz (.slice p n c) n cs) {m:Nat} (hm:m≤n):Rd w sz (.slice p m c) m (cs.take (m * sz)):=by
 obtain ⟨p',c',hv,h1,h2,h3,h4⟩:=h
 simp only [Value.slice.injEq,true_and] at hv
 obtain ⟨rfl,rfl⟩:=hv
 have hle:m * sz≤n * sz:=Nat.mul_le_mul_right _ hm
 refine ⟨p,c,rfl,by omega,h2,by rw [List.length_take,h3];omega,fun hn=> ?_⟩
 obtain ⟨b,off,hp,hc⟩:=h4 (by omega)
 exact ⟨b,off,hp,fun j u hj=>hc j u (by rw [List.getElem?_take] at hj;split at hj;exact hj;cases hj)⟩
def ints (k:IntKind) (xs:List Nat):List Value:=xs.map fun (x:Nat)=>Value.int k (x:Int)
@[simp] theorem tV (k:IntKind) (xs:List Nat):(ints k xs).length=xs.length:=by simp [ints]
theorem rn {k:IntKind} {xs:List Nat} {j x:Nat} (h:xs[j]? =some x):(ints k xs)[j]? =some (.int k (x:Int)):=by simp [ints,h]
theorem pc (k:IntKind) (xs:List Nat) (m:Nat):(ints k xs).take m=ints k (xs.take m):=by simp [ints,List.map_take]
theorem Ia (k:IntKind) (xs:List Nat) (m:Nat):(ints k xs).drop m=ints k (xs.drop m):=by simp [ints,List.map_drop]
theorem gO (k:IntKind) (xs ys:List Nat):ints k (xs++ys)=ints k xs++ints k ys:=by simp [ints]
theorem ints_set (k:IntKind) (xs:List Nat) (j x:Nat):(ints k xs).set j (.int k (x:Int))=ints k (xs.set j x):=by simp [ints,List.map_set]
theorem lQ (k:IntKind) (xs:List Nat):∀ u∈ints k xs,u.oneCell'=true:=by
 intro u hu;obtain ⟨_,_,rfl⟩:=List.mem_map.1 hu;rfl
theorem Rd.lit1 {w:World} {k:IntKind} {e a:Nat} {x:Int} (hx:x=(a:Int)):Rd (w.alloc (.cells #[.int k x] e)) 1 (.slice (some ⟨w.heap.size,0,none⟩) 1 1) 1 (ints k [a]):=by
 subst hx;exact Rd.lit rfl (by omega)
theorem Rd.lit2 {w:World} {k:IntKind} {e a b:Nat} {x y:Int} (hx:x=(a:Int)) (hy:y=(b:Int)):Rd (w.alloc (.cells #[.int k x,.int k y] e)) 1 (.slice (some ⟨w.heap.size,0,none⟩) 2 2) 2 (ints k [a,b]):=by
 subst hx;subst hy;exact Rd.lit rfl (by omega)
theorem Rd.cellAt {w:World} {n:Nat} {p:Option Addr} {c k:Nat} {ki:IntKind} {xs:List Nat} (h:Rd w 1 (.slice p n c) n (ints ki xs)) (hk:k < n):
  ∃ b off x,p=some ⟨b,off,none⟩∧b < w.heap.size∧xs[k]? =some x∧w.cell? ⟨b,off + k,none⟩=some (.int ki (x:Int)):=by
 obtain ⟨p',c',hv,h1,h2,h3,h4⟩:=h
 simp only [Value.slice.injEq,true_and] at hv
 obtain ⟨rfl,rfl⟩:=hv
 obtain ⟨b,off,hp,hc⟩:=h4 (by omega)
 rw [tV] at h3
 have hx:=List.getElem?_eq_getElem (show k < xs.length by omega)
 have hcell:=hc k _ (rn hx)
 exact ⟨b,off,_,hp,iY hcell,hx,hcell⟩
theorem Rd.form {w:World} {sz n:Nat} {v:Value} {cs:List Value} (h:Rd w sz v n cs):∃ p c,v=.slice p n c∧n≤c∧c≤maxLen∧cs.length=n * sz:=by
 obtain ⟨p,c,hv,h1,h2,h3,_⟩:=h
 exact ⟨p,c,hv,h1,h2,h3⟩
theorem Own.form {w:World} {B e sz n:Nat} {v:Value} {cs:List Value} (h:w.ownsRow B e sz v n cs):∃ p c,v=.slice p n c∧n≤c∧c≤maxLen∧cs.length=n * sz:=(Rd.own h).form
theorem ln {P:Program} (w:World) (base t ty e:Nat) (i:TypeInfo) (z:Value) (size bytes:Nat) (ht:P.underlying t=some (.slice e)) (hi:P.info? e=some i) (hz:i.zero=some z)
  (tW:i.size=size) (Es:i.bytes=bytes) (JQ:z.cells.size=size) (hsz:0 < size)
  (v:Value) (n:Nat) (xs:List Value) (aH:w.ownsRow base e size v n xs) (x:Value) (m:Nat) (news:List Value) (hx:Rd w size x m news) (h1:∀ u∈news,u.oneCell'=true)
  (h63:n + m≤maxLen) (iL:(n + m) * bytes≤140737488355328) (jf:base≤w.heap.size):
  ∃ v' w',(Builtin.append_ #[t,t] ty #[v,x]).run P w=.ok v' w'∧w'.ownsRow base e size v' (n + m) (xs++news)∧w.grownBy w' v.ownBlock:=by
 obtain ⟨p,c,rfl,hmc,fy,hl,hp⟩:=hx
 by_cases hm:m=0
 ·subst hm
  have hn:news=[]:=List.eq_nil_of_length_eq_zero (by simpa using hl)
  subst hn
  refine ⟨v,w,?_,by simpa using aH,⟨rfl,rfl,rfl,Nat.le_refl _,fun _ _ _=>rfl⟩⟩
  subst tW
  rcases aH.2 with ⟨rfl,rfl⟩ | ⟨g,cap,cur,rfl,_,hg,fH,uS,hcs,Kh⟩
  ·cases p <;> simp [Builtin.append_,run_underlying ht,sizeOf,typeInfo,hi,Builtin.lenOf,Builtin.firstCells,loadCells,loadCellsFrom]
  ·cases p <;> simp [Builtin.append_,run_underlying ht,sizeOf,typeInfo,hi,Builtin.lenOf,Builtin.firstCells,loadCells,loadCellsFrom,fH,storeCells]
 ·obtain ⟨b,off,rfl,hc⟩:=hp (Nat.mul_pos (by omega) hsz)
  obtain ⟨v',w',hr,h2,h3,_⟩:=run_append_own (P:=P) w base t ty e i z size bytes ht hi hz tW Es JQ hsz v n xs aH ⟨b,off,none⟩ m c news hl
   (fun j u hj=>by
    have:=hc j u hj
    rwa [show (⟨b,off,none⟩:Addr).add j=⟨b,off + j,none⟩ by unfold Addr.add;split <;> simp_all]) h1 h63 iL jf
  exact ⟨v',w',hr,h2,h3⟩
theorem iM {P:Program} (w:World) {ops:Array Oper} {rest:List Oper} {o:Oper} {a:Act} {Q:Exit→Act→World→Prop} (Ki:o.guard=none) (s x:Operand) (t:TypeId)
  (ho:o.op=.call { callee:=.builtin .append,args:=#[s,x],argTypes:=#[t,t] })
  (base:Nat) (e:TypeId) (i:TypeInfo) (z:Value) (size bytes:Nat) (ht:P.underlying t=some (.slice e)) (hi:P.info? e=some i) (hz:i.zero=some z)
  (tW:i.size=size) (Es:i.bytes=bytes) (JQ:z.cells.size=size) (hsz:0 < size)
  (v:Value) (n:Nat) (xs:List Value) (hs:a.eval s=v) (aH:w.ownsRow base e size v n xs)
  (xv:Value) (m:Nat) (news:List Value) (hx:a.eval x=xv) (sQ:Rd w size xv m news) (h1:∀ u∈news,u.oneCell'=true)
  (h63:n + m≤maxLen) (iL:(n + m) * bytes≤140737488355328) (jf:base≤w.heap.size)
  (h:∀ v' w',w'.ownsRow base e size v' (n + m) (xs++news)→w.grownBy w' v.ownBlock→wpList P ops Q rest (a.put o.dst v') w'):wpList P ops Q (o::rest) a w:=by
 refine wpList_plain Ki fun _ hK=> ?_
 obtain ⟨v',w',hr,h2,h3⟩:=ln (P:=P) w base t o.type e i z size bytes ht hi hz tW Es JQ hsz v n xs aH xv m news sQ h1 h63 iL jf
 unfold Oper.wp execOp
 simp only [ho,resolve,invoke,builtin,Sem.run_bind,Sem.run_pure,Result.andThen_ok,List.map_toArray,List.map_cons,List.map_nil,hs,hx,hr]
 exact hK _ _ (h v' w' h2 h3)
theorem oe {P:Program} {w:World} {ops:Array Oper} {o:Oper} {a:Act} {K:Act→World→Prop} {Q:Exit→Act→World→Prop} {E:Prop} (Ki:o.guard=none) (s x:Operand) (t:TypeId)
  (ho:o.op=.call { callee:=.builtin .append,args:=#[s,x],argTypes:=#[t,t] })
  (base:Nat) (e:TypeId) (i:TypeInfo) (z:Value) (size bytes:Nat) (ht:P.underlying t=some (.slice e)) (hi:P.info? e=some i) (hz:i.zero=some z)
  (tW:i.size=size) (Es:i.bytes=bytes) (JQ:z.cells.size=size) (hsz:0 < size)
  (v:Value) (n:Nat) (xs:List Value) (hs:a.eval s=v) (aH:w.ownsRow base e size v n xs)
  (xv:Value) (m:Nat) (news:List Value) (hx:a.eval x=xv) (sQ:Rd w size xv m news) (h1:∀ u∈news,u.oneCell'=true)
  (h63:n + m≤maxLen) (iL:(n + m) * bytes≤140737488355328) (jf:base≤w.heap.size)
  (h:∀ v' w',w'.ownsRow base e size v' (n + m) (xs++news)→w.grownBy w' v.ownBlock→K (a.put o.dst v') w'):
  if Region.wanted o (yielded ops a.tmps)=true then Oper.wp P o a w K Q else E:=by
 have hw:Region.wanted o (yielded ops a.tmps)=true:=by simp [Region.wanted,Ki]
 rw [if_pos hw]
 obtain ⟨v',w',hr,h2,h3⟩:=ln (P:=P) w base t o.type e i z size bytes ht hi hz tW Es JQ hsz v n xs aH xv m news sQ h1 h63 iL jf
 unfold Oper.wp execOp
 simp only [ho,resolve,invoke,builtin,Sem.run_bind,Sem.run_pure,Result.andThen_ok,List.map_toArray,List.map_cons,List.map_nil,hs,hx,hr]
 exact h v' w' h2 h3
theorem yR {w w1:World} {o:Obj} {a:Addr} {v:Value} {row:Option Nat} (hg:(w.alloc o).drew.grownBy w1 row) (hc:w.cell? a=some v) (hne:some a.block≠row):w1.cell? a=some v:=
 hg.cell ((World.cell?_alloc_lt w o a (iY hc)).trans hc) hne
theorem Kj {w:World} {B e sz n b:Nat} {v:Value} {cs:List Value} (h:w.ownsRow B e sz v n cs) (hb:b < B):some b≠v.ownBlock:=by
 intro he
 have:=(h.lt b he.symm).1
 omega
theorem Below.behind {B B' e sz n:Nat} {w0 w w1:World} {o:Obj} {v:Value} {cs:List Value} (h:Below B w0 w) (hB:B≤w.heap.size) (hg:(w.alloc o).drew.grownBy w1 v.ownBlock) (ho:w.ownsRow B' e sz v n cs) (hBB:B≤B'):Below B w0 w1:=
 ((h.alloc hB o).drew).grown hg (by simp;omega) fun k hk=>by have:=(ho.lt k hk).1;omega
theorem Below.aI {a b c:World} (h:Below a.heap.size a b) (k:Below b.heap.size b c):Below a.heap.size a c:=h.trans (k.mono h.size)
theorem wpList_append_run {P:Program} {w:World} {ops:Array Oper} {rest:List Oper} {o:Oper} {a:Act} {Q:Exit→Act→World→Prop} (Ki:o.guard=none) (s x:Operand) (t t':TypeId)
  (ho:o.op=.call { callee:=.builtin .append,args:=#[s,x],argTypes:=#[t,t'] }) (v xv:Value) (hs:a.eval s=v) (hx:a.eval x=xv) (v':Value) (w':World)
  (hr:(Builtin.append_ #[t,t'] o.type #[v,xv]).run P w=.ok v' w') (h:wpList P ops Q rest (a.put o.dst v') w'):wpList P ops Q (o::rest) a w:=by
 refine wpList_plain Ki fun _ hK=> ?_
 unfold Oper.wp execOp
 simp only [ho,resolve,invoke,builtin,Sem.run_bind,Sem.run_pure,Result.andThen_ok,List.map_toArray,List.map_cons,List.map_nil,hs,hx,hr]
 exact hK _ _ h
theorem Below.Kk {B B':Nat} {w0 w w':World} {e sz n:Nat} {v:Value} {cs:List Value} (h:Below B w0 w) (hg:w.grownBy w' v.ownBlock) (ho:w.ownsRow B' e sz v n cs) (hB:B≤w.heap.size) (hBB:B≤B'):Below B w0 w':=
 h.grown hg hB fun k hk=>by have:=(ho.lt k hk).1;omega
theorem aN {P:Program} {f:FuncId} {args:Array Value} {w:World} {R:Ending→World→Prop} (h:∀ R':Ending→World→Prop,Hid (∀ e w',R e w'→R' e w')→Calls P f args w R'):Calls P f args w R:=h R fun _ _ h=>h
theorem lR {k:IntKind} {a a':Int} (h:a=a'):Ending.returned (.int k a)=.returned (.int k a'):=by rw [h]
theorem ret2 {k l:IntKind} {a a' b b':Int} (h:a=a') (h':b=b'):Ending.returned (.tuple #[.int k a,.int l b])=.returned (.tuple #[.int k a',.int l b']):=by rw [h,h']
theorem Own.made {w:World} {B e n:Nat} {v:Value} {k:IntKind} (h:w.ownsRow B e 1 v n (madeCells (Value.int k 0).cells (n * 1)).toList):w.ownsRow B e 1 v n (ints k ([]++List.replicate n 0)):=by
 have:(madeCells (Value.int k 0).cells (n * 1)).toList=ints k ([]++List.replicate n 0):=by
  rw [show (Value.int k 0).cells=#[Value.int k 0] from rfl,toList_madeCells_one];simp [ints]
 rwa [this] at h
theorem Own.vw {w:World} {B e g n cap r:Nat} {k:IntKind} {ds:List Nat} (h:w.ownsRow B e 1 (.slice (some ⟨g,0,none⟩) n cap) n (ints k (ds++List.replicate (r + 1) 0))):
  w.cell? ⟨g,ds.length,none⟩=some (.int k 0)∧w.frozen? ⟨g,ds.length,none⟩=false:=by
 have hl:=h.1
 simp at hl
 refine ⟨?_,h.frozenAt _⟩
 rw [h.cellAt _ (by omega)]
 have:=rn (k:=k) (xs:=ds++List.replicate (r + 1) 0) (j:=ds.length) (x:=0) (by simp [List.replicate_succ])
 simpa using this
theorem Own.rp {w:World} {B e g n cap r x:Nat} {k:IntKind} {ds:List Nat} (h:w.ownsRow B e 1 (.slice (some ⟨g,0,none⟩) n cap) n (ints k (ds++List.replicate (r + 1) 0))):
  (w.setCell ⟨g,ds.length,none⟩ (.int k (x:Int))).ownsRow B e 1 (.slice (some ⟨g,0,none⟩) n cap) n (ints k ((ds++[x])++List.replicate r 0)):=by
 have h1:=(h.stored ds.length (.int k (x:Int))).1
 rw [ints_set] at h1
 have:(ds++List.replicate (r + 1) 0).set ds.length x=(ds++[x])++List.replicate r 0:=by
  rw [List.set_append_right _ _ (Nat.le_refl _),Nat.sub_self,List.replicate_succ,List.set_cons_zero,List.append_assoc];rfl
 rwa [this] at h1
theorem Own.gr {w:World} {B e g n cap:Nat} {k:IntKind} {xs:List Nat} (h:w.ownsRow B e 1 (.slice (some ⟨g,0,none⟩) n cap) n (ints k xs)) {j:Nat} (hj:j < n):
  ∃ x,xs[j]? =some x∧w.cell? ⟨g,j,none⟩=some (.int k (x:Int))∧w.frozen? ⟨g,j,none⟩=false:=by
 have hl:=h.1
 simp at hl
 have hx:=List.getElem?_eq_getElem (show j < xs.length by omega)
 refine ⟨_,hx,?_,h.frozenAt _⟩
 rw [h.cellAt _ (by omega),rn hx]
theorem Own.fX {w:World} {B e g n cap j x:Nat} {k:IntKind} {xs:List Nat} (h:w.ownsRow B e 1 (.slice (some ⟨g,0,none⟩) n cap) n (ints k xs)):
  (w.setCell ⟨g,j,none⟩ (.int k (x:Int))).ownsRow B e 1 (.slice (some ⟨g,0,none⟩) n cap) n (ints k (xs.set j x)):=by
 have h1:=(h.stored j (.int k (x:Int))).1
 rwa [ints_set] at h1
theorem Own.lt {w:World} {B e sz g n cap:Nat} {p:Nat} {cs:List Value} (h:w.ownsRow B e sz (.slice (some ⟨g,p,none⟩) n cap) n cs):B≤g∧g < w.heap.size:=World.ownsRow.lt h g rfl
theorem wu {P:Program} {f:FuncId} {args:Array Value} {W:World} {X:Nat→World} {v:Value} (h:Calls P f args W fun e w'=>e=.returned v∧W=w') (hW:∃ n,W=X n):
  Calls P f args W fun e w''=>e=.returned v∧∃ m,w''=X m:=
 h.mono fun _ _ ⟨he,hm⟩=>⟨he,hW.imp fun _ hn=>hm▸hn⟩
theorem dm {P:Program} {w:World} {ops:Array Oper} {rest:List Oper} {o:Oper} {a:Act} {Q:Exit→Act→World→Prop} (Ki:o.guard=none) (s x:Operand) (t:TypeId)
  (ho:o.op=.call { callee:=.builtin .append,args:=#[s,x],argTypes:=#[t,t] })
  (base:Nat) (e:TypeId) (i:TypeInfo) (z:Value) (bytes:Nat) (ht:P.underlying t=some (.slice e)) (hi:P.info? e=some i) (hz:i.zero=some z)
  (tW:i.size=1) (Es:i.bytes=bytes) (JQ:z.cells.size=1)
  {v:Value} {n:Nat} {k:IntKind} {ds:List Nat} {y:Int} {d:Nat} {e':TypeId} (aH:w.ownsRow base e 1 v n (ints k ds)) (hs:a.eval s=v) (hx:a.eval x=.slice (some ⟨w.heap.size,0,none⟩) 1 1) (hy:y=(d:Int))
  (h63:n + 1≤9223372036854775807) (iL:(n + 1) * bytes≤140737488355328) (jf:base≤w.heap.size)
  (h:∀ v' w',w'.ownsRow base e 1 v' (n + 1) (ints k (ds++[d]))→(∀ w0,Below base w0 w→Below base w0 w')→wpList P ops Q rest (a.put o.dst v') w'):wpList P ops Q (o::rest) a (w.alloc (.cells #[.int k y] e')):=by
 refine iM _ Ki s x t ho base e i z 1 bytes ht hi hz tW Es JQ (by omega) v n _ hs (aH.alloc _) _ 1 (ints k [d]) hx (Rd.lit1 hy) (lQ k [d]) (by unfold maxLen;omega) iL (by simp;omega) ?_
 intro v' w' h1 h2
 refine h v' w' (by rw [gO];exact h1) fun w0 hb=> ?_
 exact (hb.alloc jf _).grown h2 (by simp;omega) fun j hj=>(aH.lt j hj).1
end Go.Proofs.YtabalinjfgcfeaaGreat
namespace Go.Proofs.YtabalinjfgcfeaaGreat
open Go.RowKit
theorem Kl (a b:Nat) (ha:a < 4294967296) (hb:b < 4294967296):a * b < 18446744065119617026:=by
 have h1:a * b≤4294967295 * 4294967295:=Nat.mul_le_mul (by omega) (by omega)
 omega
set_option maxRecDepth 100000 in
set_option maxHeartbeats 400000 in
theorem Ib (a b:Nat) (w:World) (ha:a < 4294967296) (hb:b < 4294967296):
  Calls Tryz.prog 158 #[.int .u32 (a:Int),.int .u32 (b:Int)] w fun e w'=>e=.returned (.tuple #[.int .u32 ((a * b / 4294967296:Nat):Int),.int .u32 ((a * b % 4294967296:Nat):Int)])∧w=w':=by
 have h:=Kl a b ha hb
 have h2:(a:Int) * (b:Int) < 18446744065119617026:=by rw [←Int.natCast_mul];omega
 have h3:0≤(a:Int) * (b:Int):=by rw [←Int.natCast_mul];omega
 refine aN fun R' bt=> ?_
 go_enter Tryz.func158,Tryz.ntmps158
 go_wp2
 refine bt.out _ _ ⟨ret2 ?_ ?_,rfl⟩ <;> simp
set_option maxRecDepth 100000 in
set_option maxHeartbeats 400000 in
theorem lS (a b c:Nat) (w:World) (ha:a < 4294967296) (hb:b < 4294967296) (hc:c < 4294967296):
  Calls Tryz.prog 139 #[.int .u32 (a:Int),.int .u32 (b:Int),.int .u32 (c:Int)] w fun e w'=>e=.returned (.tuple #[.int .u32 (((a + b + c) % 4294967296:Nat):Int),.int .u32 (((a + b + c) / 4294967296:Nat):Int)])∧w=w':=by
 refine aN fun R' bt=> ?_
 go_enter Tryz.func139,Tryz.ntmps139
 go_wp2
 refine bt.out _ _ ⟨ret2 ?_ ?_,rfl⟩ <;> simp
set_option maxRecDepth 100000 in
set_option maxHeartbeats 400000 in
theorem Ic (a b d:Nat) (w:World) (ha:a < d) (hb:b < 4294967296) (hd:d < 4294967296):
  Calls Tryz.prog 151 #[.int .u32 (a:Int),.int .u32 (b:Int),.int .u32 (d:Int)] w fun e w'=>
   e=.returned (.tuple #[.int .u32 (((a * 4294967296 + b) / d:Nat):Int),.int .u32 (((a * 4294967296 + b) % d:Nat):Int)])∧∃ k,w'=w.drewN k:=by
 have Gj:((d:Int) != 0)=true:=by rw [bne_iff_ne];omega
 have hd1:1≤(d:Int):=by omega
 have hle:¬ ((d:Int)≤(a:Int)):=by omega
 have wv:bits BinOp.or IntKind.u64 ((a:Int) * 4294967296) (b:Int)=((a * 4294967296 + b:Nat):Int):=by
  have e1:((a:Int) * 4294967296)=((a * 4294967296:Nat):Int):=by simp
  rw [e1,u64_or_nat _ _ (by omega) (by omega),nat_join 32 _ _ (by omega) (by omega)]
 have hq:(a * 4294967296 + b) / d < 4294967296:=by
  rw [Nat.div_lt_iff_lt_mul (by omega)]
  have:(a + 1) * 4294967296≤d * 4294967296:=Nat.mul_le_mul_right _ ha
  rw [Nat.mul_comm 4294967296 d];omega
 have hq1:((a:Int) * 4294967296 + (b:Int)) / (d:Int) < 4294967296:=by
  have:(((a * 4294967296 + b) / d:Nat):Int) < 4294967296:=by omega
  simpa using this
 have hr:(a * 4294967296 + b) % d < d:=Nat.mod_lt _ (by omega)
 have ic:((a:Int) * 4294967296 + (b:Int)) % (d:Int) < 4294967296:=by
  have:(((a * 4294967296 + b) % d:Nat):Int) < 4294967296:=by omega
  simpa using this
 have Ef:0≤((a:Int) * 4294967296 + (b:Int)) / (d:Int):=by
  exact Int.ediv_nonneg (by omega) (by omega)
 have wx:0≤((a:Int) * 4294967296 + (b:Int)) % (d:Int):=by
  exact Int.emod_nonneg _ (by omega)
 rw [show ((a * 4294967296 + b:Nat):Int)=(a:Int) * 4294967296 + (b:Int) by simp] at wv
 clear hq hr
 refine aN fun R' bt=> ?_
 go_enter Tryz.func151,Tryz.ntmps151
 go_wp2_with fail
 go_quiet (fail)
 go_wp2
 refine bt.out _ _ ⟨ret2 ?_ ?_,_,rfl⟩ <;> simp
theorem ru (n:Nat) (h:n < 4294967296):n.testBit 31=decide (2147483648≤n):=by
 rw [Nat.testBit_eq_decide_div_mod_eq]
 by_cases h':2147483648≤n
 ·have:n / 2 ^ 31=1:=by omega
  simp [this,h']
 ·have:n / 2 ^ 31=0:=by omega
  simp [this];omega
theorem by_top (n:Nat) (h:n < 4294967296):n / 2147483648=(n.testBit 31).toNat:=by
 rw [ru n h]
 by_cases h':2147483648≤n <;> simp [h'] <;> omega
theorem Et (x y c d:Nat) (hx:x < 4294967296) (hy:y < 4294967296) (hc:c < 2) (hd:d=(x + 8589934592 - y - c) % 4294967296):
  ((4294967295 ^^^ x) &&& y ||| (4294967295 ^^^ (x ^^^ y)) &&& d) / 2147483648=if x < y + c then 1 else 0:=by
 have iE:d < 4294967296:=by omega
 have h1:4294967295 ^^^ x < 2 ^ 32:=Nat.xor_lt_two_pow (by omega) (by omega)
 have h2:x ^^^ y < 2 ^ 32:=Nat.xor_lt_two_pow (by omega) (by omega)
 have h3:4294967295 ^^^ (x ^^^ y) < 2 ^ 32:=Nat.xor_lt_two_pow (by omega) h2
 have h4:(4294967295 ^^^ x) &&& y ||| (4294967295 ^^^ (x ^^^ y)) &&& d < 2 ^ 32:=Nat.or_lt_two_pow (Nat.and_lt_two_pow _ (by omega)) (Nat.and_lt_two_pow _ (by omega))
 rw [by_top _ (by omega)]
 simp only [Nat.testBit_or,Nat.testBit_and,Nat.testBit_xor,ru _ hx,ru _ hy,ru _ iE,ru 4294967295 (by omega)]
 by_cases a1:2147483648≤x <;> by_cases a2:2147483648≤y <;> by_cases a3:2147483648≤d <;> simp [a1,a2,a3] <;> omega
set_option maxRecDepth 100000 in
set_option maxHeartbeats 400000 in
theorem yT (a b c:Nat) (w:World) (ha:a < 4294967296) (hb:b < 4294967296) (hc:c < 2):
  Calls Tryz.prog 142 #[.int .u32 (a:Int),.int .u32 (b:Int),.int .u32 (c:Int)] w fun e w'=>
   (∃ d r:Nat,e=.returned (.tuple #[.int .u32 (d:Int),.int .u32 (r:Int)])∧d < 4294967296∧r≤1∧a + 4294967296 * r=d + b + c)∧w=w':=by
 obtain ⟨d,hd⟩:∃ d,d=(a + 8589934592 - b - c) % 4294967296:=⟨_,rfl⟩
 have iE:d < 4294967296:=by omega
 have yU:=Et a b c d ha hb hc hd
 have hdi:((a:Int) - (b:Int) - (c:Int)) % 4294967296=(d:Int):=by omega
 have hm:IntKind.u32.max=((4294967295:Nat):Int):=rfl
 have h1:4294967295 ^^^ a < 4294967296:=Nat.xor_lt_two_pow (n:=32) (by omega) (by omega)
 have h2:a ^^^ b < 4294967296:=Nat.xor_lt_two_pow (n:=32) (by omega) (by omega)
 have h3:4294967295 ^^^ (a ^^^ b) < 4294967296:=Nat.xor_lt_two_pow (n:=32) (by omega) (by omega)
 have h4:(4294967295 ^^^ a) &&& b < 4294967296:=Nat.and_lt_two_pow (n:=32) _ (by omega)
 have h5:(4294967295 ^^^ (a ^^^ b)) &&& d < 4294967296:=Nat.and_lt_two_pow (n:=32) _ (by omega)
 have H:Hid (bits BinOp.or IntKind.u32 (bits BinOp.and IntKind.u32 (bits BinOp.xor IntKind.u32 IntKind.u32.max (a:Int)) (b:Int))
   (bits BinOp.and IntKind.u32 (bits BinOp.xor IntKind.u32 IntKind.u32.max (bits BinOp.xor IntKind.u32 (a:Int) (b:Int))) (((a:Int) - (b:Int) - (c:Int)) % 4294967296)) / 2147483648=((if a < b + c then 1 else 0:Nat):Int)):=by
  show _=_
  rw [hdi,hm,u32_xor_nat _ _ (by omega) ha,u32_and_nat _ _ h1 hb,u32_xor_nat _ _ ha hb,u32_xor_nat _ _ (by omega) h2,u32_and_nat _ _ h3 iE,u32_or_nat _ _ h4 h5,←yU]
  simp
 have HD:Hid (((a:Int) - (b:Int) - (c:Int)) % 4294967296=((a + 8589934592 - b - c) % 4294967296:Nat)):=by show _=_;rw [hdi,hd]
 clear hd hdi yU hm h1 h2 h3 h4 h5 iE
 refine aN fun R' bt=> ?_
 go_enter Tryz.func142,Tryz.ntmps142
 go_wp2
 all_goals exact bt.out _ _ ⟨⟨(a + 8589934592 - b - c) % 4294967296,if a < b + c then 1 else 0,ret2 HD.out H.out,Nat.mod_lt _ (by omega),by split <;> omega,by split <;> omega⟩,rfl⟩
set_option maxRecDepth 100000 in
set_option maxHeartbeats 400000 in
theorem cU (p:Option Addr) (n c:Nat) (xs:List Nat) (w:World) (hr:Rd w 1 (.slice p n c) n (ints .u32 xs)) (hl:cd xs):
  Calls Tryz.prog 134 #[.slice p n c] w fun e w'=>(∃ m,m≤n∧e=.returned (.slice p m c)∧limbs (aq xs)=xs.take m)∧w=w':=by
 have fH:n≤c∧c≤9223372036854775807∧xs.length=n:=by
  obtain ⟨p',c',hv,h1,h2,h3⟩:=hr.form
  simp only [Value.slice.injEq,true_and] at hv
  obtain ⟨rfl,rfl⟩:=hv
  unfold maxLen at h2
  simp at h3
  exact ⟨h1,by omega,h3⟩
 obtain ⟨fH,fy,ew⟩:=fH
 have HX:Hid (xs.length=n):=ew
 clear ew
 refine aN fun R' bt=> ?_
 go_enter Tryz.func134,Tryz.ntmps134
 go_wp2
 go_loop [0] (fun v=>∃ m,m≤n∧v=.slice p m c∧aq (xs.take m)=aq xs) (fun v=>match v with | .slice _ m _=>m | _=>0)
 case atStart=>exact ⟨n,Nat.le_refl _,rfl,by rw [List.take_of_length_le (Nat.le_of_eq HX.out)]⟩
 case round=>
  obtain ⟨m,hm,rfl,hv⟩:=hrel
  have HV:Hid (aq (xs.take m)=aq xs):=hv
  clear hv
  by_cases h0:m=0
  ·subst h0
   go_wp2
   exact bt.out _ _ ⟨⟨0,Nat.zero_le _,rfl,jO (by omega) hl (Nat.zero_le _) HV.out (.inl rfl)⟩,rfl⟩
  ·obtain ⟨b,off,x,rfl,hb,hx,hc⟩:=hr.cellAt (k:=m - 1) (by omega)
   have Km:Hid (xs[m-1]? =some x):=hx
   clear hx
   have h0':0 < m:=by omega
   obtain ⟨j,rfl⟩:∃ j,m=j + 1:=⟨m - 1,by omega⟩
   rw [Nat.add_sub_cancel] at hc
   by_cases gB:x=0
   ·subst gB
    go_wp2
    go_round
    case rel=>exact ⟨j,by omega,rfl,(kI Km.out).symm.trans HV.out⟩
    case measure=>simp
   ·have hx0':((x:Int) == 0)=false:=by rw [beq_eq_false_iff_ne];omega
    go_wp2
    exact bt.out _ _ ⟨⟨j + 1,hm,rfl,jO (by omega) hl (by rw [HX.out];exact hm) HV.out (.inr ⟨x,Km.out,gB⟩)⟩,rfl⟩
end Go.Proofs.YtabalinjfgcfeaaGreat
namespace Go.Proofs.YtabalinjfgcfeaaGreat
open Go.RowKit
theorem iZ:(Tryz.prog.info? 117).map (fun i=>(i.zero,i.size,i.bytes))=some (some (.int .u32 0),1,4):=by kernel_rfl
set_option maxRecDepth 100000 in
set_option maxHeartbeats 400000 in
theorem iP (v:Value) (n:Nat) (xs:List Nat) (w:World) (hr:Rd w 1 v n (ints .u32 xs)) (hn:n≤1073741824):
  Calls Tryz.prog 133 #[v] w fun e w'=>∃ v',e=.returned v'∧w'.ownsRow w.heap.size 117 1 v' n (ints .u32 xs)∧Below w.heap.size w w':=by
 obtain ⟨p,c,rfl,fH,fy,hl⟩:=hr.form
 have Hr:=Lib.hid hr
 have Ie:∀ w':World,(binOp .eql 22 (.slice p n c) (.slice none 0 0)).run Tryz.prog w'=.ok (.bool p.isNone) w':=fun w'=>Lib.run_eql_slice_nil w' 22 117 p n c 0 0 Tryz.underlying22
 obtain ⟨i0,hi,lp,lx,lT⟩:=info_parts iZ
 have HL:=Lib.hid hl
 clear hl hr
 unfold maxLen at fy
 cases p with
 | none=>
   refine aN fun R' bt=> ?_
   go_enter Tryz.func133,Tryz.ntmps133
   go_wp2
   refine bt.out _ _ ⟨_,rfl,?_,Below.refl _ _⟩
   obtain ⟨p,c',hv,_,_,h3,h4⟩:=Hr.out
   simp only [Value.slice.injEq,true_and] at hv
   obtain ⟨rfl,rfl⟩:=hv
   have h0:n=0:=by
    rcases Nat.eq_zero_or_pos n with h | h
    ·exact h
    ·obtain ⟨b,off,hp,_⟩:=h4 (by omega);cases hp
   subst h0
   have hx:ints .u32 xs=[]:=List.eq_nil_of_length_eq_zero (by simpa using h3)
   rw [hx]
   exact World.ownsRow_nil _ _ _ _
 | some ad=>
   refine aN fun R' bt=> ?_
   go_enter Tryz.func133,Tryz.ntmps133
   go_wp2_with (at_builtin;refine iM _ rfl _ _ 22 rfl w.heap.size 117 i0 (.int .u32 0) 1 4 Tryz.underlying22 hi lp lx lT rfl (by decide) _ 0 [] rfl (World.ownsRow_made w #[] 0 (Nat.le_refl _) (by simp [maxLen]) rfl) _ n _ rfl (Hr.out.alloc _) (lQ _ _) (by unfold maxLen;omega) (by omega) (by simp) ?_;intro v' w1 aH Ig)
   simp only [Nat.zero_add,List.nil_append] at aH
   refine bt.out _ _ ⟨_,rfl,aH,((Below.refl _ _).alloc (Nat.le_refl _) _).grown Ig (by simp) fun k hk=>by injection (show some w.heap.size=some k from hk) with hk;omega⟩
theorem Rd.u32 {w:World} {v:Value} {n:Nat} {xs:List Nat} (h:Rd w 1 v n (ints .u32 xs)):∃ p c,v=.slice p n c∧n≤c∧c≤9223372036854775807∧xs.length=n:=by
 obtain ⟨p,c,hv,h1,h2,h3⟩:=h.form
 unfold maxLen at h2
 exact ⟨p,c,hv,h1,by omega,by simpa using h3⟩
theorem Rd.limbs {w:World} {n c m:Nat} {p:Option Addr} {xs:List Nat} (h:Rd w 1 (.slice p n c) n (ints .u32 xs)) (hm:m≤n) (hl:limbs (aq xs)=xs.take m):
  Rd w 1 (.slice p m c) m (ints .u32 (limbs (aq xs))):=by
 have:=h.take hm
 rwa [Nat.mul_one,pc,←hl] at this
theorem Own.limbs {w:World} {B e n c m:Nat} {p:Option Addr} {xs:List Nat} (h:w.ownsRow B e 1 (.slice p n c) n (ints .u32 xs)) (hm:m≤n) (hl:limbs (aq xs)=xs.take m):
  w.ownsRow B e 1 (.slice p m c) m (ints .u32 (limbs (aq xs))):=by
 have:=Own.take h hm
 rwa [Nat.mul_one,pc,←hl] at this
set_option maxRecDepth 100000 in
set_option maxHeartbeats 400000 in
theorem jg (v:Value) (n:Nat) (xs:List Nat) (w:World) (hr:Rd w 1 v n (ints .u32 xs)) (hl:cd xs) (hn:n≤1073741824):
  Calls Tryz.prog 112 #[v] w fun e w'=>∃ v',e=.returned v'∧w'.ownsRow w.heap.size 117 1 v' (limbs (aq xs)).length (ints .u32 (limbs (aq xs)))∧Below w.heap.size w w':=by
 obtain ⟨p,c,rfl,fH,fy,ew⟩:=hr.u32
 have Hr:=Lib.hid hr
 have HL:=Lib.hid hl
 have HX:=Lib.hid ew
 clear ew hl hr
 refine aN fun R' bt=> ?_
 go_enter Tryz.func112,Tryz.ntmps112
 go_wp2_with fail
 refine (cU p n c xs _ Hr.out HL.out).mono ?_
 rintro e w1 ⟨⟨m,hm,rfl,yr⟩,rfl⟩
 have HM:=Lib.hid yr
 clear yr
 have qf:Hid (m=(limbs (aq xs)).length):=by
  show _=_
  rw [HM.out,List.length_take,HX.out];omega
 go_wp2_with fail
 refine (iP _ m (limbs (aq xs)) _ (Hr.out.limbs hm HM.out) (by omega)).mono ?_
 rintro e w1 ⟨v',rfl,aH,hb⟩
 go_wp2
 refine bt.out _ _ ⟨_,rfl,?_,hb⟩
 rw [←qf.out];exact aH
set_option maxRecDepth 100000 in
set_option maxHeartbeats 400000 in
theorem wy (a b:Nat) (w:World):
  Calls Tryz.prog 140 #[.int .i64 (a:Int),.int .i64 (b:Int)] w fun e w'=>e=.returned (.int .i64 (fW a b))∧w=w':=by
 rcases Nat.lt_trichotomy a b with h | rfl | h
 ·have e1:=Lib.hid (kJ h)
  refine aN fun R' bt=> ?_
  go_enter Tryz.func140,Tryz.ntmps140
  go_wp2
  exact bt.out _ _ ⟨lR e1.out.symm,rfl⟩
 ·have e1:=Lib.hid (rj a)
  refine aN fun R' bt=> ?_
  go_enter Tryz.func140,Tryz.ntmps140
  go_wp2
  exact bt.out _ _ ⟨lR e1.out.symm,rfl⟩
 ·have e1:=Lib.hid (kK h)
  refine aN fun R' bt=> ?_
  go_enter Tryz.func140,Tryz.ntmps140
  go_wp2
  exact bt.out _ _ ⟨lR e1.out.symm,rfl⟩
set_option maxRecDepth 100000 in
set_option maxHeartbeats 400000 in
theorem wA (a b:Nat) (w:World):
  Calls Tryz.prog 141 #[.int .u32 (a:Int),.int .u32 (b:Int)] w fun e w'=>e=.returned (.int .i64 (fW a b))∧w=w':=by
 rcases Nat.lt_trichotomy a b with h | rfl | h
 ·have e1:=Lib.hid (kJ h)
  refine aN fun R' bt=> ?_
  go_enter Tryz.func141,Tryz.ntmps141
  go_wp2
  exact bt.out _ _ ⟨lR e1.out.symm,rfl⟩
 ·have e1:=Lib.hid (rj a)
  refine aN fun R' bt=> ?_
  go_enter Tryz.func141,Tryz.ntmps141
  go_wp2
  exact bt.out _ _ ⟨lR e1.out.symm,rfl⟩
 ·have e1:=Lib.hid (kK h)
  refine aN fun R' bt=> ?_
  go_enter Tryz.func141,Tryz.ntmps141
  go_wp2
  exact bt.out _ _ ⟨lR e1.out.symm,rfl⟩
theorem qg {a b:Nat} (h:(limbs a).length < (limbs b).length):a < b:=by
 rcases Nat.lt_or_ge a b with h' | h'
 ·exact h'
 ·have:=cw h';omega
theorem Kn {a b:Nat} (h:(limbs a).length≠(limbs b).length):fW (limbs a).length (limbs b).length=fW a b:=by
 rcases Nat.lt_or_ge (limbs a).length (limbs b).length with h' | h'
 ·rw [kJ h',kJ (qg h')]
 ·have h'':(limbs b).length < (limbs a).length:=by omega
  rw [kK h'',kK (qg h'')]
theorem Eu {a b k x y:Nat} (hx:(limbs a)[k]? =some x) (hy:(limbs b)[k]? =some y) (hne:x≠y) (hd:(limbs a).drop (k + 1)=(limbs b).drop (k + 1)):fW x y=fW a b:=by
 rcases Nat.lt_or_ge x y with h | h
 ·have:=jW (B:=4294967296) (az a) hx hy h hd
  rw [show val 4294967296 (limbs a)=a from au a,show val 4294967296 (limbs b)=b from au b] at this
  rw [kJ h,kJ this]
 ·have h':y < x:=by omega
  have:=jW (B:=4294967296) (az b) hy hx h' hd.symm
  rw [show val 4294967296 (limbs a)=a from au a,show val 4294967296 (limbs b)=b from au b] at this
  rw [kK h',kK this]
theorem Ih {α:Type} {xs ys:List α} {k:Nat} {x:α} (hx:xs[k]? =some x) (hy:ys[k]? =some x) (h:xs.drop (k + 1)=ys.drop (k + 1)):xs.drop k=ys.drop k:=by
 have h1:xs.drop k=x::xs.drop (k + 1):=by
  obtain ⟨hl,e⟩:=List.getElem?_eq_some_iff.1 hx
  rw [List.drop_eq_getElem_cons hl,e]
 have h2:ys.drop k=x::ys.drop (k + 1):=by
  obtain ⟨hl,e⟩:=List.getElem?_eq_some_iff.1 hy
  rw [List.drop_eq_getElem_cons hl,e]
 rw [h1,h2,h]
set_option maxRecDepth 100000 in
set_option maxHeartbeats 800000 in
theorem Ab (va vb:Value) (n m:Nat) (xs ys:List Nat) (w:World) (hr:Rd w 1 va n (ints .u32 xs)) (hs:Rd w 1 vb m (ints .u32 ys)) (hx:cd xs) (hy:cd ys):
  Calls Tryz.prog 131 #[va,vb] w fun e w'=>e=.returned (.int .i64 (fW (aq xs) (aq ys)))∧∃ k,w'=w.drewN k:=by
 obtain ⟨p,c,rfl,fH,fy,ew⟩:=hr.u32
 obtain ⟨q,d,rfl,JR,Ev,jt⟩:=hs.u32
 obtain ⟨a,ha⟩:∃ a,a=aq xs:=⟨_,rfl⟩
 obtain ⟨b,hb⟩:∃ b,b=aq ys:=⟨_,rfl⟩
 have Hr:=Lib.hid hr
 have Hs:=Lib.hid hs
 have HL:=Lib.hid hx
 have HM:=Lib.hid hy
 have HX:=Lib.hid ew
 have HY:=Lib.hid jt
 rw [←ha,←hb]
 have HA:=Lib.hid ha
 have HB:=Lib.hid hb
 clear ew jt hx hy hr hs ha hb
 refine aN fun R' bt=> ?_
 go_enter Tryz.func131,Tryz.ntmps131
 go_wp2_with fail
 refine (cU p n c xs _ Hr.out HL.out).mono ?_
 rintro e w1 ⟨⟨n',hn',rfl,Ew⟩,rfl⟩
 have HLN:=Lib.hid Ew
 clear Ew
 go_wp2_with fail
 refine (cU q m d ys _ Hs.out HM.out).mono ?_
 rintro e w1 ⟨⟨m',Ko,rfl,yr⟩,rfl⟩
 have Kq:=Lib.hid yr
 clear yr
 have HN:Hid ((limbs a).length=n'):=by show _=_;rw [HA.out,HLN.out,List.length_take,HX.out];omega
 have HMM:Hid ((limbs b).length=m'):=by show _=_;rw [HB.out,Kq.out,List.length_take,HY.out];omega
 have hra:=Hr.out.limbs hn' HLN.out
 have Ii:=Hs.out.limbs Ko Kq.out
 rw [←HA.out] at hra
 rw [←HB.out] at Ii
 have Hra:=Lib.hid hra
 have Hrb:=Lib.hid Ii
 clear hra Ii
 by_cases hne:n'=m'
 ·subst hne
  go_wp2_with fail
  go_loopw [5] (fun iv wr=>∃ k dn:Nat,k≤n'∧iv=.int .i64 ((k:Int) - 1)∧(limbs a).drop k=(limbs b).drop k∧wr=w.drewN dn) (fun iv _=>(intOf iv + 1).toNat)
  case atStart=>exact ⟨n',0,Nat.le_refl _,rfl,by rw [List.drop_of_length_le (Nat.le_of_eq HN.out),List.drop_of_length_le (Nat.le_of_eq HMM.out)],rfl⟩
  case round=>
   obtain ⟨k,dn,hk,rfl,hd,rfl⟩:=hrel
   have HD:=Lib.hid hd
   clear hd
   by_cases h0:k=0
   ·subst h0
    go_wp2
    exact bt.out _ _ ⟨lR (by rw [HI (show limbs a=limbs b by simpa using HD.out),rj]),_,rfl⟩
   ·obtain ⟨j,rfl⟩:∃ j,k=j + 1:=⟨k - 1,by omega⟩
    obtain ⟨g1,o1,x,rfl,hg1,hx,qw⟩:=Hra.out.cellAt (k:=j) (by omega)
    obtain ⟨g2,o2,y,rfl,hg2,hy,Ex⟩:=Hrb.out.cellAt (k:=j) (by omega)
    have HXX:=Lib.hid hx
    have HYY:=Lib.hid hy
    have hjj:((j + 1:Nat):Int) - 1=(j:Int):=by omega
    clear hx hy h0 hg1 hg2
    rw [hjj]
    clear hjj
    by_cases Gk:x=y
    ·subst Gk
     have pd:((x:Int) != (x:Int))=false:=by simp
     go_wp2_with fail
     go_quiet (fail)
     go_wp2
     go_roundw
     case rel=>exact ⟨j,_,by omega,rfl,Ih HXX.out HYY.out HD.out,rfl⟩
     case measure=>simp [intOf]
    ·have pd:((x:Int) != (y:Int))=true:=by rw [bne_iff_ne];omega
     go_wp2_with fail
     go_quiet (fail)
     go_wp2_with fail
     go_quiet ((go_at_call 141;exact wu (wA x y _) ⟨_,rfl⟩))
     go_wp2
     exact bt.out _ _ ⟨lR (Eu HXX.out HYY.out Gk HD.out),_,by rw [World.drewN_drewN,World.drewN_drewN]⟩
 ·have hne':((n':Int) != (m':Int))=true:=by rw [bne_iff_ne];omega
  go_wp2_with fail
  refine (wy n' m' _).mono ?_
  rintro e w1 ⟨rfl,rfl⟩
  go_wp2
  exact bt.out _ _ ⟨lR (by rw [←HN.out,←HMM.out];exact Kn (by rw [HN.out,HMM.out];exact hne)),0,rfl⟩
def wB (w:World) (B g N:Nat) (xs ys:List Nat) (cv iv:Value) (wr:World):Prop:=
 ∃ (k carry:Nat) (ds:List Nat),k≤N∧ds.length=k∧iv=.int .i64 (k:Int)∧cv=.int .u32 (carry:Int)∧carry≤1∧cd ds∧
   aq ds + 4294967296 ^ k * carry=aq (xs.take k) + aq (ys.take k)∧
   wr.ownsRow B 117 1 (.slice (some ⟨g,0,none⟩) (N + 1) (N + 1)) (N + 1) (ints .u32 (ds++List.replicate (N + 1 - k) 0))∧Below B w wr
theorem wB.step {w wr:World} {B g N k carry x y:Nat} {xs ys ds:List Nat} (hk:k < N) (Gl:ds.length=k) (hc:carry≤1) (hl:cd ds)
  (hv:aq ds + 4294967296 ^ k * carry=aq (xs.take k) + aq (ys.take k)) (aH:wr.ownsRow B 117 1 (.slice (some ⟨g,0,none⟩) (N + 1) (N + 1)) (N + 1) (ints .u32 (ds++List.replicate (N + 1 - k) 0)))
  (hb:Below B w wr) (hx:xs.getD k 0=x) (hy:ys.getD k 0=y) (ku:x < 4294967296) (yV:y < 4294967296):
  wB w B g N xs ys (.int .u32 (((x + y + carry) / 4294967296:Nat):Int)) (.int .i64 ((k:Int) + 1)) (wr.setCell ⟨g,k,none⟩ (.int .u32 (((x + y + carry) % 4294967296:Nat):Int))):=by
 subst Gl
 have e:N + 1 - ds.length=(N - ds.length) + 1:=by omega
 rw [e] at aH
 have h1:=Own.rp (x:=(x + y + carry) % 4294967296) aH
 refine ⟨ds.length + 1,(x + y + carry) / 4294967296,ds++[(x + y + carry) % 4294967296],by omega,by simp,rfl,rfl,?_,?_,?_,?_,?_⟩
 ·omega
 ·exact hl.append (cd.cons (Nat.mod_lt _ (by omega)) cd.nil)
 ·rw [dC,aY,aY,hx,hy,Nat.pow_succ]
  exact BG _ _ x y carry _ _ _ hv rfl
 ·rw [show N + 1 - (ds.length + 1)=N - ds.length by omega];exact h1
 ·exact hb.setCell (Own.lt aH).1 _
set_option maxRecDepth 100000 in
set_option maxHeartbeats 1000000 in
theorem Gm (p q:Option Addr) (n c m d:Nat) (xs ys:List Nat) (w:World) (hr:Rd w 1 (.slice p n c) n (ints .u32 xs)) (hs:Rd w 1 (.slice q m d) m (ints .u32 ys)) (hx:cd xs) (hy:cd ys)
  (hn:n≤1073741824) (hmn:m≤n) (args:Array Value) (hargs:args=#[.slice p n c,.slice q m d]∨m < n∧args=#[.slice q m d,.slice p n c]):
  Calls Tryz.prog 130 args w fun e w'=>∃ v',e=.returned v'∧w'.ownsRow w.heap.size 117 1 v' (limbs (aq xs + aq ys)).length (ints .u32 (limbs (aq xs + aq ys)))∧Below w.heap.size w w':=by
 obtain ⟨p',c',hv,fH,fy,ew⟩:=hr.u32
 simp only [Value.slice.injEq,true_and] at hv
 obtain ⟨rfl,rfl⟩:=hv
 obtain ⟨q',d',hv,JR,Ev,jt⟩:=hs.u32
 simp only [Value.slice.injEq,true_and] at hv
 obtain ⟨rfl,rfl⟩:=hv
 have Hr:=Lib.hid hr
 have Hs:=Lib.hid hs
 have HL:=Lib.hid hx
 have HM:=Lib.hid hy
 have HX:=Lib.hid ew
 have HY:=Lib.hid jt
 obtain ⟨i0,hi,lp,lx,lT⟩:=info_parts iZ
 obtain ⟨B,hB⟩:∃ B,B=w.heap.size:=⟨_,rfl⟩
 have HB:=Lib.hid hB
 rw [←hB]
 clear ew jt hx hy hr hs hB
 rcases hargs with rfl | ⟨hlt,rfl⟩
 all_goals
  refine aN fun R' bt=> ?_
  go_enter Tryz.func130,Tryz.ntmps130
  go_wp2_with (at_make;refine wpList_make_full _ rfl _ _ 22 rfl B 117 i0 (.int .u32 0) 1 Tryz.underlying22 hi lp lx .i64 .i64 _ _ (n + 1) rfl rfl (by omega) (by omega) (by rw [lT];omega) (by unfold maxLen;omega) (Nat.le_of_eq HB.out) ?_;intro w1 aH Ig)
  have Ey:=Lib.hid (Own.made aH)
  have Hb1:Hid (Below B w w1):=(Below.refl _ _).grown Ig (Nat.le_of_eq HB.out) (fun k hk=>by cases hk)
  clear aH Ig
  go_loopw [6,22] (fun cv iv wr=>wB w B w.heap.size n xs ys cv iv wr) (fun _ iv _=>n - (intOf iv).toNat)
  case atStart=>exact ⟨0,0,[],Nat.zero_le _,rfl,rfl,rfl,by omega,cd.nil,by simp [dW],Ey.out,Hb1.out⟩
  case round=>
   obtain ⟨k,carry,ds,hk,Gl,rfl,rfl,jh,hl,hv,aH,hb⟩:=hrel
   have HO:=Lib.hid aH
   have Ac:=Lib.hid Gl
   have HV:=Lib.hid hv
   have yW:=Lib.hid hl
   have gC:=Lib.hid hb
   clear aH Gl hv hl hb
   have vx:B≤wr.heap.size:=by have:=gC.out.size;have:=HB.out;omega
   by_cases sR:k < n
   ·obtain ⟨b1,o1,x,rfl,aU,gl,qw⟩:=(Hr.out.iK HB.out gC.out).cellAt sR
    have vz:=Lib.hid gl
    have ku:=HL.out.at gl
    have e:n + 1 - k=(n - k) + 1:=by omega
    have iQ:=HO.out
    rw [e] at iQ
    obtain ⟨hcell,yt⟩:=Own.vw iQ
    rw [Ac.out] at hcell yt
    clear e iQ gl
    by_cases Ez:k < m
    ·obtain ⟨b2,o2,y,rfl,bn,og,Ex⟩:=(Hs.out.iK HB.out gC.out).cellAt Ez
     have Gn:=Lib.hid og
     have yV:=HM.out.at og
     clear og
     go_wp2_with fail
     refine (lS x y carry _ ku yV (by omega)).mono ?_
     rintro e w2 ⟨rfl,rfl⟩
     go_wp2_with fail
     go_roundw
     case rel=>exact wB.step sR Ac.out jh yW.out HV.out HO.out gC.out (by simp [List.getD,vz.out]) (by simp [List.getD,Gn.out]) ku yV
     case measure=>simp [intOf];omega
    ·have Kf:Hid (ys.getD k 0=0):=by show _=_;rw [List.getD,List.getElem?_eq_none (by rw [HY.out];omega)];rfl
     go_wp2_with fail
     refine (lS x 0 carry _ ku (by omega) (by omega)).mono ?_
     rintro e w2 ⟨rfl,rfl⟩
     go_wp2_with fail
     go_roundw
     case rel=>exact wB.step sR Ac.out jh yW.out HV.out HO.out gC.out (by simp [List.getD,vz.out]) Kf.out ku (by omega)
     case measure=>simp [intOf];omega
   ·obtain rfl:k=n:=by omega
    have e:k + 1 - k=0 + 1:=by omega
    have iQ:=HO.out
    rw [e] at iQ
    obtain ⟨hcell,yt⟩:=Own.vw iQ
    have hst:=Own.rp (x:=carry) iQ
    rw [Ac.out] at hcell yt hst
    have HST:=Lib.hid hst
    clear e iQ hst
    go_wp2_with fail
    have hval:Hid (aq (ds++[carry])=aq xs + aq ys):=by
     show _=_
     rw [dC,Ac.out,HV.out,bm (Nat.le_of_eq HX.out),bm (by rw [HY.out];exact hmn)]
    refine (cU _ (k + 1) (k + 1) (ds++[carry]) _ (by have:=Rd.own HST.out;simpa using this) (yW.out.append (cd.cons (by omega) cd.nil))).mono ?_
    rintro e w2 ⟨⟨r,hr,rfl,Eg⟩,rfl⟩
    have JS:=Lib.hid Eg
    clear Eg
    go_wp2_with fail
    refine bt.out _ _ ⟨_,rfl,?_,gC.out.setCell (p:=⟨w.heap.size,k,none⟩) (Nat.le_of_eq HB.out) _⟩
    have h2:=HST.out
    rw [List.replicate_zero,List.append_nil] at h2
    have h3:=Own.limbs h2 hr JS.out
    have e:(limbs (aq (ds++[carry]))).length=r:=by rw [JS.out,List.length_take,List.length_append,Ac.out];simp;omega
    rw [hval.out] at h3 e
    rw [e];exact h3
theorem Gp (va vb:Value) (n m:Nat) (xs ys:List Nat) (w:World) (hr:Rd w 1 va n (ints .u32 xs)) (hs:Rd w 1 vb m (ints .u32 ys)) (hx:cd xs) (hy:cd ys) (hn:n≤1073741824) (hm:m≤1073741824):
  Calls Tryz.prog 130 #[va,vb] w fun e w'=>∃ v',e=.returned v'∧w'.ownsRow w.heap.size 117 1 v' (limbs (aq xs + aq ys)).length (ints .u32 (limbs (aq xs + aq ys)))∧Below w.heap.size w w':=by
 obtain ⟨p,c,rfl,_,_,_⟩:=hr.u32
 obtain ⟨q,d,rfl,_,_,_⟩:=hs.u32
 rcases Nat.lt_or_ge n m with h | h
 ·rw [Nat.add_comm (aq xs)]
  exact Gm q p m d n c ys xs w hs hr hy hx hm (by omega) _ (.inr ⟨h,rfl⟩)
 ·exact Gm p q n c m d xs ys w hr hs hx hy hn h _ (.inl rfl)
end Go.Proofs.YtabalinjfgcfeaaGreat
namespace Go.Proofs.YtabalinjfgcfeaaGreat
open Go.RowKit
def Ad (w:World) (B g N m:Nat) (xs:List Nat) (cv iv:Value) (wr:World):Prop:=
 ∃ (k carry:Nat) (ds:List Nat),k≤N∧ds.length=k∧iv=.int .i64 (k:Int)∧cv=.int .u32 (carry:Int)∧carry < 4294967296∧cd ds∧
   aq ds + 4294967296 ^ k * carry=aq (xs.take k) * m∧
   wr.ownsRow B 117 1 (.slice (some ⟨g,0,none⟩) (N + 1) (N + 1)) (N + 1) (ints .u32 (ds++List.replicate (N + 1 - k) 0))∧Below B w wr
theorem yX (x m c:Nat) (hx:x < 4294967296) (hm:m < 4294967296) (hc:c < 4294967296):(x * m + c) / 4294967296 < 4294967296:=by
 have h1:x * m≤4294967295 * 4294967295:=Nat.mul_le_mul (by omega) (by omega)
 omega
theorem yY (x m c:Nat):x * m / 4294967296 + (x * m % 4294967296 + c) / 4294967296=(x * m + c) / 4294967296∧(x * m % 4294967296 + c) % 4294967296=(x * m + c) % 4294967296:=by
 generalize x * m=p;omega
theorem Ad.step {w wr:World} {B g N k carry x m:Nat} {xs ds:List Nat} {c s:Int} (hk:k < N) (Gl:ds.length=k) (hm:m < 4294967296) (hc:carry < 4294967296) (hl:cd ds)
  (hv:aq ds + 4294967296 ^ k * carry=aq (xs.take k) * m) (aH:wr.ownsRow B 117 1 (.slice (some ⟨g,0,none⟩) (N + 1) (N + 1)) (N + 1) (ints .u32 (ds++List.replicate (N + 1 - k) 0)))
  (hb:Below B w wr) (hx:xs[k]? =some x) (ku:x < 4294967296) (he:c=(((x * m + carry) / 4294967296:Nat):Int)) (hs:s=(((x * m % 4294967296 + carry) % 4294967296:Nat):Int)):
  Ad w B g N m xs (.int .u32 c) (.int .i64 ((k:Int) + 1)) (wr.setCell ⟨g,k,none⟩ (.int .u32 s)):=by
 subst Gl
 subst he
 subst hs
 have e:N + 1 - ds.length=(N - ds.length) + 1:=by omega
 rw [e] at aH
 have h1:=Own.rp (x:=(x * m + carry) % 4294967296) aH
 rw [(yY x m carry).2]
 refine ⟨ds.length + 1,(x * m + carry) / 4294967296,ds++[(x * m + carry) % 4294967296],by omega,by simp,rfl,rfl,yX x m carry ku hm hc,?_,?_,?_,?_⟩
 ·exact hl.append (cd.cons (Nat.mod_lt _ (by omega)) cd.nil)
 ·rw [dC,aY,Nat.pow_succ,List.getD,hx]
  exact Kg _ x m carry _ _ hv
 ·rw [show N + 1 - (ds.length + 1)=N - ds.length by omega];exact h1
 ·exact hb.setCell (Own.lt aH).1 _
set_option maxRecDepth 100000 in
set_option maxHeartbeats 1000000 in
theorem Ae (va:Value) (n m:Nat) (xs:List Nat) (w:World) (hr:Rd w 1 va n (ints .u32 xs)) (hx:cd xs) (hn:n≤1073741824) (hm:m < 4294967296):
  Calls Tryz.prog 157 #[va,.int .u32 (m:Int)] w fun e w'=>∃ v',e=.returned v'∧w'.ownsRow w.heap.size 117 1 v' (limbs (aq xs * m)).length (ints .u32 (limbs (aq xs * m)))∧Below w.heap.size w w':=by
 obtain ⟨p,c,rfl,fH,fy,ew⟩:=hr.u32
 have Hr:=Lib.hid hr
 have HL:=Lib.hid hx
 have HX:=Lib.hid ew
 obtain ⟨i0,hi,lp,lx,lT⟩:=info_parts iZ
 obtain ⟨B,hB⟩:∃ B,B=w.heap.size:=⟨_,rfl⟩
 have HB:=Lib.hid hB
 rw [←hB]
 clear ew hx hr hB
 refine aN fun R' bt=> ?_
 go_enter Tryz.func157,Tryz.ntmps157
 go_wp2_with (at_make;refine wpList_make_full _ rfl _ _ 22 rfl B 117 i0 (.int .u32 0) 1 Tryz.underlying22 hi lp lx .i64 .i64 _ _ (n + 1) rfl rfl (by omega) (by omega) (by rw [lT];omega) (by unfold maxLen;omega) (Nat.le_of_eq HB.out) ?_;intro w1 aH Ig)
 have Ey:=Lib.hid (Own.made aH)
 have Hb1:Hid (Below B w w1):=(Below.refl _ _).grown Ig (Nat.le_of_eq HB.out) (fun k hk=>by cases hk)
 clear aH Ig
 go_loopw [6,19] (fun cv iv wr=>Ad w B w.heap.size n m xs cv iv wr) (fun _ iv _=>n - (intOf iv).toNat)
 case atStart=>exact ⟨0,0,[],Nat.zero_le _,rfl,rfl,rfl,by omega,cd.nil,by simp [dW],Ey.out,Hb1.out⟩
 case round=>
  obtain ⟨k,carry,ds,hk,Gl,rfl,rfl,jh,hl,hv,aH,hb⟩:=hrel
  have HO:=Lib.hid aH
  have Ac:=Lib.hid Gl
  have HV:=Lib.hid hv
  have yW:=Lib.hid hl
  have gC:=Lib.hid hb
  clear aH Gl hv hl hb
  by_cases sR:k < n
  ·obtain ⟨b1,o1,x,rfl,aU,gl,qw⟩:=(Hr.out.iK HB.out gC.out).cellAt sR
   have vz:=Lib.hid gl
   have ku:=HL.out.at gl
   have e:n + 1 - k=(n - k) + 1:=by omega
   have iQ:=HO.out
   rw [e] at iQ
   obtain ⟨hcell,yt⟩:=Own.vw iQ
   rw [Ac.out] at hcell yt
   clear e iQ gl
   have h1:(x * m + carry) / 4294967296 < 4294967296:=yX x m carry ku hm jh
   have h2:=(yY x m carry).1
   have h3:(0:Int)≤((x * m / 4294967296:Nat):Int) + (((x * m % 4294967296 + carry + 0) / 4294967296:Nat):Int)∧((x * m / 4294967296:Nat):Int) + (((x * m % 4294967296 + carry + 0) / 4294967296:Nat):Int) < 4294967296:=by omega
   have H2:Hid (((x * m / 4294967296:Nat):Int) + (((x * m % 4294967296 + carry + 0) / 4294967296:Nat):Int)=(((x * m + carry) / 4294967296:Nat):Int)):=by show _=_;omega
   obtain ⟨h3a,h3b⟩:=h3
   clear h2 h1
   go_wp2_with fail
   refine (Ib x m _ ku hm).mono ?_
   rintro e w2 ⟨rfl,rfl⟩
   go_wp2_with fail
   refine (lS (x * m % 4294967296) carry 0 _ (Nat.mod_lt _ (by omega)) jh (by omega)).mono ?_
   rintro e w2 ⟨rfl,rfl⟩
   go_wp2_with fail
   go_roundw
   case rel=>exact Ad.step sR Ac.out hm jh yW.out HV.out HO.out gC.out vz.out ku (by have:=H2.out;omega) (by omega)
   case measure=>simp [intOf];omega
  ·obtain rfl:k=n:=by omega
   have e:k + 1 - k=0 + 1:=by omega
   have iQ:=HO.out
   rw [e] at iQ
   obtain ⟨hcell,yt⟩:=Own.vw iQ
   have hst:=Own.rp (x:=carry) iQ
   rw [Ac.out] at hcell yt hst
   have HST:=Lib.hid hst
   clear e iQ hst
   go_wp2_with fail
   have hval:Hid (aq (ds++[carry])=aq xs * m):=by
    show _=_
    rw [dC,Ac.out,HV.out,bm (Nat.le_of_eq HX.out)]
   refine (cU _ (k + 1) (k + 1) (ds++[carry]) _ (by have:=Rd.own HST.out;simpa using this) (yW.out.append (cd.cons (by omega) cd.nil))).mono ?_
   rintro e w2 ⟨⟨r,hr,rfl,Eg⟩,rfl⟩
   have JS:=Lib.hid Eg
   clear Eg
   go_wp2_with fail
   refine bt.out _ _ ⟨_,rfl,?_,gC.out.setCell (p:=⟨w.heap.size,k,none⟩) (Nat.le_of_eq HB.out) _⟩
   have h2:=HST.out
   rw [List.replicate_zero,List.append_nil] at h2
   have h3:=Own.limbs h2 hr JS.out
   have e:(limbs (aq (ds++[carry]))).length=r:=by rw [JS.out,List.length_take,List.length_append,Ac.out];simp;omega
   rw [hval.out] at h3 e
   rw [e];exact h3
def Af (w:World) (B:Nat) (qv:Value) (n d:Nat) (xs:List Nat) (iv rv:Value) (wr:World):Prop:=
 ∃ (k r:Nat) (qs:List Nat),k≤n∧qs.length=n - k∧iv=.int .i64 ((k:Int) - 1)∧rv=.int .u32 (r:Int)∧r < d∧cd qs∧
   aq qs * d + r=aq (xs.drop k)∧wr.ownsRow B 117 1 qv n (ints .u32 (xs.take k++qs))∧Below B w wr
theorem Kr (d r x Q X:Nat) (h:Q * d + r=X):
  ((r * 4294967296 + x) / d + 4294967296 * Q) * d + (r * 4294967296 + x) % d=x + 4294967296 * X:=by
 subst h
 have h2:=Nat.mod_add_div (r * 4294967296 + x) d
 rw [Nat.mul_comm d] at h2
 rw [Nat.add_mul,Nat.mul_add,Nat.mul_assoc]
 omega
theorem div_lt (d r x:Nat) (hr:r < d) (hx:x < 4294967296):(r * 4294967296 + x) / d < 4294967296:=by
 rw [Nat.div_lt_iff_lt_mul (by omega)]
 have:(r + 1) * 4294967296≤d * 4294967296:=Nat.mul_le_mul_right _ hr
 rw [Nat.mul_comm 4294967296 d];omega
theorem wC {xs:List Nat} {k x:Nat} (h:xs[k]? =some x):aq (xs.drop k)=x + 4294967296 * aq (xs.drop (k + 1)):=by
 obtain ⟨hl,e⟩:=List.getElem?_eq_some_iff.1 h
 rw [List.drop_eq_getElem_cons hl,e,fi]
theorem Ag {xs qs:List Nat} {k x:Nat} (hk:k < xs.length):(xs.take (k + 1)++qs).set k x=xs.take k++x::qs:=by
 have h1:xs.take (k + 1)=xs.take k++[xs[k]]:=bu (List.getElem?_eq_getElem hk)
 rw [h1,List.append_assoc,List.set_append_right _ _ (by rw [List.length_take];omega)]
 congr 1
 rw [List.length_take,Nat.min_eq_left (by omega),Nat.sub_self];rfl
theorem Af.step {w wr:World} {B g cap n d j r x dn:Nat} {xs qs:List Nat} {q s:Int} (hj:j + 1≤n) (hn:xs.length=n) (hqs:qs.length=n - (j + 1)) (hr:r < d) (hl:cd qs)
  (hv:aq qs * d + r=aq (xs.drop (j + 1))) (aH:wr.ownsRow B 117 1 (.slice (some ⟨g,0,none⟩) n cap) n (ints .u32 (xs.take (j + 1)++qs))) (hb:Below B w wr)
  (hx:xs[j]? =some x) (ku:x < 4294967296) (he:q=(((r * 4294967296 + x) / d:Nat):Int)) (hs:s=(((r * 4294967296 + x) % d:Nat):Int)):
  Af w B (.slice (some ⟨g,0,none⟩) n cap) n d xs (.int .i64 ((j:Int) - 1)) (.int .u32 s) ((wr.drewN dn).setCell ⟨g,j,none⟩ (.int .u32 q)):=by
 subst he
 subst hs
 refine ⟨j,(r * 4294967296 + x) % d,(r * 4294967296 + x) / d::qs,by omega,by simp;omega,rfl,rfl,Nat.mod_lt _ (by omega),cd.cons (div_lt d r x hr ku) hl,?_,?_,?_⟩
 ·rw [fi,wC hx,←hv]
  exact Kr d r x _ _ rfl
 ·have h1:=Own.fX (j:=j) (x:=(r * 4294967296 + x) / d) (Own.drewN aH dn)
  rwa [Ag (by omega)] at h1
 ·exact (Below.drewN hb dn).setCell (Own.lt aH).1 _
set_option maxRecDepth 100000 in
set_option maxHeartbeats 1000000 in
theorem ry (va:Value) (n d:Nat) (xs:List Nat) (w:World) (hr:Rd w 1 va n (ints .u32 xs)) (hx:cd xs) (hn:n≤1073741824) (hd:d < 4294967296):
  Calls Tryz.prog 143 #[va,.int .u32 (d:Int)] w fun e w'=>((d=0∧e=.returned (.tuple #[.slice none 0 0,.int .u32 0,.int .i64 20]))∨
   (d≠0∧∃ v',e=.returned (.tuple #[v',.int .u32 ((aq xs % d:Nat):Int),.int .i64 0])∧w'.ownsRow w.heap.size 117 1 v' (limbs (aq xs / d)).length (ints .u32 (limbs (aq xs / d)))))∧Below w.heap.size w w':=by
 obtain ⟨p,c,rfl,fH,fy,ew⟩:=hr.u32
 have Hr:=Lib.hid hr
 have HL:=Lib.hid hx
 have HX:=Lib.hid ew
 clear ew hx hr
 by_cases Gj:d=0
 ·have hdb:((d:Int) == 0)=true:=by rw [beq_iff_eq];omega
  have HD:=Lib.hid Gj
  clear Gj
  refine aN fun R' bt=> ?_
  go_enter Tryz.func143,Tryz.ntmps143
  go_wp2
  go_ret3
  exact bt.out _ _ ⟨.inl ⟨HD.out,rfl⟩,Below.refl _ _⟩
 ·obtain ⟨B,hB⟩:∃ B,B=w.heap.size:=⟨_,rfl⟩
  have HB:=Lib.hid hB
  rw [←hB]
  clear hB
  have hdb:((d:Int) == 0)=false:=by rw [beq_eq_false_iff_ne];omega
  refine aN fun R' bt=> ?_
  go_enter Tryz.func143,Tryz.ntmps143
  go_wp2_with fail
  refine (iP _ n xs _ Hr.out hn).mono ?_
  rintro e w1 ⟨qv,rfl,aH,hb⟩
  rw [←HB.out] at aH hb
  obtain ⟨qp,qc,rfl,_,_,_⟩:=Own.form aH
  have HO:=Lib.hid aH
  have gC:=Lib.hid hb
  clear aH hb
  go_wp2_with fail
  go_loopw [7,5] (fun iv rv wr=>Af w B (.slice qp n qc) n d xs iv rv wr) (fun iv _ _=>(intOf iv + 1).toNat)
  case atStart=>exact ⟨n,0,[],Nat.le_refl _,by simp,rfl,rfl,by omega,cd.nil,by rw [List.drop_of_length_le (Nat.le_of_eq HX.out)];simp [dW],by rw [List.take_of_length_le (Nat.le_of_eq HX.out),List.append_nil];exact HO.out,gC.out⟩
  case round=>
   obtain ⟨k,r,qs,hk,hqs,rfl,rfl,sQ,hl,hv,aH,hb⟩:=hrel
   have nw:=Lib.hid aH
   have HQS:=Lib.hid hqs
   have HV:=Lib.hid hv
   have yW:=Lib.hid hl
   have oh:=Lib.hid hb
   clear aH hqs hv hl hb
   by_cases h0:k=0
   ·subst h0
    go_wp2_with fail
    refine (cU _ n qc qs _ (by have:=Rd.own nw.out;simpa using this) yW.out).mono ?_
    rintro e w2 ⟨⟨m,hm,rfl,yr⟩,rfl⟩
    have Kq:=Lib.hid yr
    clear yr
    go_wp2_with fail
    go_ret3
    have hv:=HV.out
    rw [List.drop_zero] at hv
    have hq:aq xs / d=aq qs:=by rw [←hv,Nat.add_comm,Nat.add_mul_div_right _ _ (by omega),Nat.div_eq_of_lt sQ,Nat.zero_add]
    have Ko:aq xs % d=r:=by rw [←hv,Nat.add_comm,Nat.add_mul_mod_self_right,Nat.mod_eq_of_lt sQ]
    refine bt.out _ _ ⟨.inr ⟨Gj,.slice qp m qc,by rw [Ko];rfl,?_⟩,oh.out⟩
    have h2:=nw.out
    rw [List.take_zero,List.nil_append] at h2
    have h3:=Own.limbs h2 hm Kq.out
    have e:(limbs (aq qs)).length=m:=by rw [Kq.out,List.length_take,HQS.out];omega
    rw [hq,e];exact h3
   ·obtain ⟨j,rfl⟩:∃ j,k=j + 1:=⟨k - 1,by omega⟩
    obtain ⟨g,qc',hv,hbg,Ij⟩:=Own.vu nw.out (by omega)
    simp only [Value.slice.injEq,true_and] at hv
    obtain ⟨rfl,rfl⟩:=hv
    obtain ⟨x,hx,hcell,yt⟩:=Own.gr nw.out (j:=j) (by omega)
    have gl:xs[j]? =some x:=by
     rw [List.getElem?_append_left (by rw [List.length_take,HX.out];omega),List.getElem?_take] at hx
     simpa using hx
    have vz:=Lib.hid gl
    have ku:=HL.out.at gl
    have hjj:((j + 1:Nat):Int) - 1=(j:Int):=by omega
    rw [hjj]
    clear hx gl h0 hjj
    go_wp2_with fail
    refine (Ic r x d _ sQ ku hd).mono ?_
    rintro e w2 ⟨rfl,dn,rfl⟩
    go_wp2_with fail
    go_roundw
    case rel=>exact Af.step (by omega) HX.out HQS.out sQ yW.out HV.out nw.out oh.out vz.out ku (by simp) (by simp)
    case measure=>simp [intOf]
def wD (w:World) (B:Nat) (ov:Value) (n:Nat) (xs ys:List Nat) (bv iv:Value) (wr:World):Prop:=
 ∃ (k r:Nat) (ds:List Nat),k≤n∧ds.length=k∧iv=.int .i64 (k:Int)∧bv=.int .u32 (r:Int)∧r≤1∧cd ds∧
   aq ds + aq (ys.take k)=aq (xs.take k) + 4294967296 ^ k * r∧wr.ownsRow B 117 1 ov n (ints .u32 (ds++xs.drop k))∧Below B w wr
theorem Ah {xs ds:List Nat} {x:Nat} (hk:ds.length < xs.length):(ds++xs.drop ds.length).set ds.length x=(ds++[x])++xs.drop (ds.length + 1):=by
 rw [List.set_append_right _ _ (Nat.le_refl _),Nat.sub_self,List.drop_eq_getElem_cons hk,List.set_cons_zero,List.append_assoc];rfl
theorem Ks (p x y r d r' X Y D:Nat) (h:D + Y=X + p * r) (hs:x + 4294967296 * r'=d + y + r):(D + p * d) + (Y + p * y)=(X + p * x) + p * 4294967296 * r':=by
 have h2:p * (x + 4294967296 * r')=p * (d + y + r):=by rw [hs]
 rw [Nat.mul_add,Nat.mul_add,Nat.mul_add,←Nat.mul_assoc] at h2
 omega
theorem wD.step {w wr:World} {B g cap n k r x y d r':Nat} {xs ys ds:List Nat} (hk:k < n) (hn:xs.length=n) (Gl:ds.length=k) (hl:cd ds)
  (hv:aq ds + aq (ys.take k)=aq (xs.take k) + 4294967296 ^ k * r) (aH:wr.ownsRow B 117 1 (.slice (some ⟨g,0,none⟩) n cap) n (ints .u32 (ds++xs.drop k))) (hb:Below B w wr)
  (hx:xs.getD k 0=x) (hy:ys.getD k 0=y) (hd:d < 4294967296) (kA:r'≤1) (he:x + 4294967296 * r'=d + y + r):
  wD w B (.slice (some ⟨g,0,none⟩) n cap) n xs ys (.int .u32 (r':Int)) (.int .i64 ((k:Int) + 1)) (wr.setCell ⟨g,k,none⟩ (.int .u32 (d:Int))):=by
 subst Gl
 have h1:=Own.fX (j:=ds.length) (x:=d) aH
 rw [Ah (by omega)] at h1
 refine ⟨ds.length + 1,r',ds++[d],by omega,by simp,rfl,rfl,kA,hl.append (cd.cons hd cd.nil),?_,h1,hb.setCell (Own.lt aH).1 _⟩
 rw [dC,aY,aY,hx,hy,Nat.pow_succ]
 exact Ks _ x y r d r' _ _ _ hv he
set_option maxRecDepth 100000 in
set_option maxHeartbeats 1000000 in
theorem Ai (va vb:Value) (n m:Nat) (xs ys:List Nat) (w:World) (hr:Rd w 1 va n (ints .u32 xs)) (hs:Rd w 1 vb m (ints .u32 ys)) (hx:cd xs) (hy:cd ys) (hn:n≤1073741824):
  Calls Tryz.prog 132 #[va,vb] w fun e w'=>((aq xs < aq ys∧e=.returned (.tuple #[.slice none 0 0,.int .i64 2]))∨
   (aq ys≤aq xs∧∃ v',e=.returned (.tuple #[v',.int .i64 0])∧w'.ownsRow w.heap.size 117 1 v' (limbs (aq xs - aq ys)).length (ints .u32 (limbs (aq xs - aq ys)))))∧Below w.heap.size w w':=by
 obtain ⟨p,c,rfl,fH,fy,ew⟩:=hr.u32
 obtain ⟨q,d,rfl,JR,Ev,jt⟩:=hs.u32
 obtain ⟨a,ha⟩:∃ a,a=aq xs:=⟨_,rfl⟩
 obtain ⟨b,hb⟩:∃ b,b=aq ys:=⟨_,rfl⟩
 have Hr:=Lib.hid hr
 have Hs:=Lib.hid hs
 have HL:=Lib.hid hx
 have HM:=Lib.hid hy
 have HX:=Lib.hid ew
 have HY:=Lib.hid jt
 rw [←ha,←hb]
 have HA:=Lib.hid ha
 have HB:=Lib.hid hb
 clear ew jt hx hy hr hs ha hb
 refine aN fun R' bt=> ?_
 go_enter Tryz.func132,Tryz.ntmps132
 go_wp2_with fail
 refine (cU p n c xs _ Hr.out HL.out).mono ?_
 rintro e w1 ⟨⟨n',hn',rfl,Ew⟩,rfl⟩
 have HLN:=Lib.hid Ew
 clear Ew
 go_wp2_with fail
 refine (cU q m d ys _ Hs.out HM.out).mono ?_
 rintro e w1 ⟨⟨m',Ko,rfl,yr⟩,rfl⟩
 have Kq:=Lib.hid yr
 clear yr
 have HN:Hid ((limbs a).length=n'):=by show _=_;rw [HA.out,HLN.out,List.length_take,HX.out];omega
 have HMM:Hid ((limbs b).length=m'):=by show _=_;rw [HB.out,Kq.out,List.length_take,HY.out];omega
 have hra:=Hr.out.limbs hn' HLN.out
 have Ii:=Hs.out.limbs Ko Kq.out
 rw [←HA.out] at hra
 rw [←HB.out] at Ii
 have Hra:=Lib.hid hra
 have Hrb:=Lib.hid Ii
 clear hra Ii
 go_wp2_with fail
 refine (Ab _ _ n' m' (limbs a) (limbs b) _ Hra.out Hrb.out (az a) (az b)).mono ?_
 rintro e w1 ⟨rfl,dn,rfl⟩
 rw [au,au]
 by_cases vo:a < b
 ·have hc:fW a b < 0:=je.2 vo
  generalize fW a b=cv at hc ⊢
  go_wp2_with fail
  exact bt.out _ _ ⟨.inl ⟨vo,rfl⟩,Below.drewN (Below.refl _ _) _⟩
 ·have hc:0≤fW a b:=by have:=mt (@je a b).1 vo;omega
  generalize fW a b=cv at hc ⊢
  have hmn:m'≤n':=by rw [←HN.out,←HMM.out];exact cw (by omega)
  obtain ⟨B,hB⟩:∃ B,B=w.heap.size:=⟨_,rfl⟩
  have HBB:=Lib.hid hB
  rw [←hB] at bt
  clear hB
  go_wp2_with fail
  refine (iP _ n' (limbs a) _ (Rd.drewN Hra.out dn) (by omega)).mono ?_
  rintro e w1 ⟨qv,rfl,aH,hb⟩
  have hb:Below B w w1:=by rw [HBB.out];exact (Below.drewN (Below.refl _ _) dn).trans hb
  have aH:w1.ownsRow B 117 1 qv n' (ints .u32 (limbs a)):=by rw [HBB.out];exact aH
  obtain ⟨qp,qc,rfl,_,_,_⟩:=Own.form aH
  have HO:=Lib.hid aH
  have gC:=Lib.hid hb
  clear aH hb
  go_wp2_with fail
  go_loopw [7,22] (fun bv iv wr=>wD w B (.slice qp n' qc) n' (limbs a) (limbs b) bv iv wr) (fun _ iv _=>n' - (intOf iv).toNat)
  case atStart=>exact ⟨0,0,[],Nat.zero_le _,rfl,rfl,rfl,by omega,cd.nil,by simp [dW],by simpa using HO.out,gC.out⟩
  case round=>
   obtain ⟨k,r,ds,hk,Gl,rfl,rfl,ic,hl,hv,aH,hb⟩:=hrel
   have nw:=Lib.hid aH
   have Ac:=Lib.hid Gl
   have HV:=Lib.hid hv
   have yW:=Lib.hid hl
   have oh:=Lib.hid hb
   clear aH Gl hv hl hb
   by_cases sR:k < n'
   ·obtain ⟨g,qc',hv,hbg,Ij⟩:=Own.vu nw.out (by omega)
    simp only [Value.slice.injEq,true_and] at hv
    obtain ⟨rfl,rfl⟩:=hv
    obtain ⟨x,hx,hcell,yt⟩:=Own.gr nw.out (j:=k) (by omega)
    have gl:(limbs a)[k]? =some x:=by
     rw [List.getElem?_append_right (by rw [Ac.out];omega),Ac.out,List.getElem?_drop] at hx
     simpa using hx
    have vz:=Lib.hid gl
    have ku:=(az a).at gl
    clear hx gl
    by_cases Ez:k < m'
    ·obtain ⟨b2,o2,y,rfl,bn,og,Ex⟩:=(Hrb.out.iK HBB.out oh.out).cellAt Ez
     have Gn:=Lib.hid og
     have yV:=(az b).at og
     clear og
     go_wp2_with fail
     refine (yT x y r _ ku yV (by omega)).mono ?_
     rintro e w2 ⟨⟨dd,rr,rfl,hdd,hrr,heq⟩,rfl⟩
     have HEQ:=Lib.hid heq
     clear heq
     go_wp2_with fail
     go_roundw
     case rel=>exact wD.step sR HN.out Ac.out yW.out HV.out nw.out oh.out (by simp [List.getD,vz.out]) (by simp [List.getD,Gn.out]) hdd hrr HEQ.out
     case measure=>simp [intOf];omega
    ·have Kf:Hid ((limbs b).getD k 0=0):=by show _=_;rw [List.getD,List.getElem?_eq_none (by rw [HMM.out];omega)];rfl
     go_wp2_with fail
     refine (yT x 0 r _ ku (by omega) (by omega)).mono ?_
     rintro e w2 ⟨⟨dd,rr,rfl,hdd,hrr,heq⟩,rfl⟩
     have HEQ:=Lib.hid heq
     clear heq
     go_wp2_with fail
     go_roundw
     case rel=>exact wD.step sR HN.out Ac.out yW.out HV.out nw.out oh.out (by simp [List.getD,vz.out]) Kf.out hdd hrr HEQ.out
     case measure=>simp [intOf];omega
   ·obtain rfl:k=n':=by omega
    go_wp2_with fail
    have h2:=nw.out
    rw [List.drop_of_length_le (Nat.le_of_eq HN.out),List.append_nil] at h2
    refine (cU _ k qc ds _ (Rd.own h2) yW.out).mono ?_
    rintro e w2 ⟨⟨s,hs,rfl,hls⟩,rfl⟩
    have HLS:=Lib.hid hls
    clear hls
    go_wp2_with fail
    have hval:aq ds=a - b:=by
     have h1:=HV.out
     rw [bm (Nat.le_of_eq HN.out),bm (by rw [HMM.out];exact hmn),au,au] at h1
     have h3:=iX yW.out
     rw [Ac.out] at h3
     have:r=0:=by
      rcases Nat.eq_zero_or_pos r with h | h
      ·exact h
      ·have:r=1:=by omega
       subst this
       omega
     subst this
     omega
    refine bt.out _ _ ⟨.inr ⟨by omega,.slice qp s qc,rfl,?_⟩,oh.out⟩
    have h3:=Own.limbs h2 hs HLS.out
    have e:(limbs (aq ds)).length=s:=by rw [HLS.out,List.length_take,Ac.out];omega
    rw [hval] at h3 e
    rw [e];exact h3
end Go.Proofs.YtabalinjfgcfeaaGreat
namespace Go.Proofs.YtabalinjfgcfeaaGreat
open Go.RowKit
def ig (w:World) (v:Value) (rows:List (List Nat)):Prop:=
 ∃ vs:List Value,Rd w 1 v rows.length vs∧∀ (i:Nat) (xs:List Nat),rows[i]? =some xs→∃ u,vs[i]? =some u∧Rd w 1 u xs.length (ints .u32 xs)
theorem ig.below {w w':World} {v:Value} {rows:List (List Nat)} (h:ig w v rows) (hb:Below w.heap.size w w'):ig w' v rows:=by
 obtain ⟨vs,h1,h2⟩:=h
 refine ⟨vs,h1.below hb,fun i xs hi=> ?_⟩
 obtain ⟨u,hu,hr⟩:=h2 i xs hi
 exact ⟨u,hu,hr.below hb⟩
theorem ig.at {w:World} {p:Option Addr} {n c k:Nat} {rows:List (List Nat)} (h:ig w (.slice p n c) rows) (hk:k < rows.length):
  ∃ b off u xs,p=some ⟨b,off,none⟩∧rows[k]? =some xs∧w.cell? ⟨b,off + k,none⟩=some u∧Rd w 1 u xs.length (ints .u32 xs):=by
 obtain ⟨vs,⟨p',c',hv,_,_,h3,h4⟩,h2⟩:=h
 simp only [Value.slice.injEq] at hv
 obtain ⟨rfl,rfl,rfl⟩:=hv
 obtain ⟨b,off,hp,hc⟩:=h4 (by omega)
 obtain ⟨u,hu,hr⟩:=h2 k _ (List.getElem?_eq_getElem hk)
 exact ⟨b,off,u,_,hp,List.getElem?_eq_getElem hk,hc k u hu,hr⟩
theorem ig.form {w:World} {v:Value} {rows:List (List Nat)} (h:ig w v rows):∃ p c,v=.slice p rows.length c∧rows.length≤c∧c≤9223372036854775807:=by
 obtain ⟨vs,h1,_⟩:=h
 obtain ⟨p,c,hv,h2,h3,_⟩:=h1.form
 unfold maxLen at h3
 exact ⟨p,c,hv,h2,by omega⟩
theorem qh {q:Nat} (h:q < 4294967296):(q:Int) % 4294967296=q:=by omega
theorem wE {n:Nat} (h:n < 32):2 ^ n < 4294967296:=by
 have:=Nat.pow_lt_pow_right (show 1 < 2 by omega) h
 omega
theorem tX (x n:Nat) (hn:n < 32):(limbs (x * 2 ^ n)).length≤(limbs x).length + 1:=by
 apply jv
 rw [Nat.pow_succ]
 exact Nat.mul_lt_mul_of_lt_of_le (mG x) (Nat.le_of_lt (wE hn)) (by omega)
set_option maxRecDepth 100000 in
set_option maxHeartbeats 400000 in
theorem Kt (va:Value) (m n x:Nat) (w:World) (hr:Rd w 1 va m (ints .u32 (limbs x))) (hm:m≤1073741824) (hn:n < 32):
  Calls Tryz.prog 154 #[va,.int .i64 (n:Int)] w fun e w'=>∃ v',e=.returned v'∧Rd w' 1 v' (limbs (x * 2 ^ n)).length (ints .u32 (limbs (x * 2 ^ n)))∧Below w.heap.size w w':=by
 obtain ⟨p,c,rfl,fH,fy,ew⟩:=hr.u32
 have Hr:=Lib.hid hr
 have HX:=Lib.hid ew
 clear ew hr
 by_cases h0:n=0
 ·subst h0
  refine aN fun R' bt=> ?_
  go_enter Tryz.func154,Tryz.ntmps154
  go_wp2
  refine bt.out _ _ ⟨_,rfl,?_,Below.refl _ _⟩
  have:=Hr.out
  rw [Nat.pow_zero,Nat.mul_one,HX.out];exact this
 ·have hnb:((n:Int) == 0)=false:=by rw [beq_eq_false_iff_ne];omega
  refine aN fun R' bt=> ?_
  go_enter Tryz.func154,Tryz.ntmps154
  have iB:=wE hn
  have hpe:(2:Int) ^ n % 4294967296=((2 ^ n:Nat):Int):=by
   have:(2:Int) ^ n=((2 ^ n:Nat):Int):=by simp
   rw [this];exact qh iB
  have HP:=Lib.hid hpe
  clear hpe
  go_wp2_with fail
  rw [HP.out]
  refine (Ae _ m (2 ^ n) (limbs x) _ Hr.out (az x) hm iB).mono ?_
  rintro e w1 ⟨v',rfl,aH,hb⟩
  rw [au] at aH
  go_wp2
  exact bt.out _ _ ⟨_,rfl,Rd.own aH,hb⟩
set_option maxRecDepth 100000 in
set_option maxHeartbeats 400000 in
theorem Ik (va:Value) (m n:Nat) (xs:List Nat) (w:World) (hr:Rd w 1 va m (ints .u32 xs)) (hx:cd xs) (hm:m≤1073741824) (hn:n < 32):
  Calls Tryz.prog 155 #[va,.int .i64 (n:Int)] w fun e w'=>(∃ v' k rs,e=.returned v'∧k≤1073741824∧Rd w' 1 v' k (ints .u32 rs)∧cd rs∧aq rs=aq xs / 2 ^ n)∧Below w.heap.size w w':=by
 obtain ⟨p,c,rfl,fH,fy,ew⟩:=hr.u32
 have Hr:=Lib.hid hr
 have HX:=Lib.hid ew
 have HL:=Lib.hid hx
 clear ew hr hx
 by_cases h0:n=0
 ·subst h0
  refine aN fun R' bt=> ?_
  go_enter Tryz.func155,Tryz.ntmps155
  go_wp2
  exact bt.out _ _ ⟨⟨_,m,xs,rfl,hm,Hr.out,HL.out,by rw [Nat.pow_zero,Nat.div_one]⟩,Below.refl _ _⟩
 ·have hnb:((n:Int) == 0)=false:=by rw [beq_eq_false_iff_ne];omega
  refine aN fun R' bt=> ?_
  go_enter Tryz.func155,Tryz.ntmps155
  have iB:=wE hn
  have nx:2 ^ n≠0:=by have:=Nat.pow_pos (n:=n) (show 0 < 2 by omega);omega
  have hpe:(2:Int) ^ n % 4294967296=((2 ^ n:Nat):Int):=by
   have:(2:Int) ^ n=((2 ^ n:Nat):Int):=by simp
   rw [this];exact qh iB
  have HP:=Lib.hid hpe
  have HPP:=Lib.hid nx
  clear hpe nx
  go_wp2_with fail
  rw [HP.out]
  refine (ry _ m (2 ^ n) xs _ Hr.out HL.out hm iB).mono ?_
  rintro e w1 ⟨⟨h,_⟩ | ⟨_,v',rfl,aH⟩,hb⟩
  ·exact absurd h HPP.out
  ·have HO:=Lib.hid aH
   have hlen:(limbs (aq xs / 2 ^ n)).length≤m:=Nat.le_trans (cw (Nat.div_le_self _ _)) (by rw [←HX.out];exact ib HL.out)
   clear aH
   go_wp2
   exact bt.out _ _ ⟨⟨_,_,_,rfl,Nat.le_trans hlen hm,Rd.own HO.out,az _,au _⟩,hb⟩
set_option maxRecDepth 100000 in
set_option maxHeartbeats 400000 in
theorem Ku (n:Nat) (w:World) (hn:n≤2147483648):
  Calls Tryz.prog 156 #[.slice none 0 0,.int .i64 (n:Int)] w fun e w'=>∃ v',e=.returned v'∧w'.ownsRow w.heap.size 117 1 v' 0 []∧Below w.heap.size w w':=by
 by_cases h0:n=0
 ·subst h0
  refine aN fun R' bt=> ?_
  go_enter Tryz.func156,Tryz.ntmps156
  go_wp2
  exact bt.out _ _ ⟨_,rfl,World.ownsRow_nil _ _ _ _,Below.refl _ _⟩
 ·obtain ⟨i0,hi,lp,lx,lT⟩:=info_parts iZ
  obtain ⟨C,hC⟩:∃ C,C=grownCap w n 0 117:=⟨_,rfl⟩
  have HC:=Lib.hid hC
  have hap0:=Lib.run_append_nil_zeros (P:=Tryz.prog) w 22 3 22 117 i0 (.int .u32 0) .i64 .i64 Tryz.underlying22 Tryz.underlying3 hi lp n (by omega) (by omega) (by omega) (by rw [lT];omega)
  rw [←hC] at hap0
  have HAP:=Lib.hid hap0
  have hCn:n≤C:=by rw [hC];exact grownCap_ge w n 0 _
  have hCm:C≤9223372036854775807:=by
   have:=grownCap_le_maxLen w n 0 117 (by unfold maxLen;omega)
   unfold maxLen at this
   omega
  have lU:0 < n:=by omega
  clear hC h0 hap0
  refine aN fun R' bt=> ?_
  go_enter Tryz.func156,Tryz.ntmps156
  go_wp2_with (at_builtin;refine wpList_append_run rfl _ _ 22 3 rfl _ _ rfl rfl _ _ HAP.out ?_)
  refine bt.out _ _ ⟨_,rfl,?_,?_⟩
  ·exact World.ownsRow_made w.drew _ C (Nat.le_refl _) (by unfold maxLen;omega) (by rw [Array.size_append,size_zeroCells,size_zeroCells];show n * 1 + (C - n) * 1=C * 1;omega)
  ·exact (Below.drew (Below.refl _ _)).alloc (Nat.le_refl _) _
def flat (rows:List (List Nat)):List Nat:=rows.flatten
theorem sZ (rows:List (List Nat)) (xs:List Nat):flat (rows++[xs])=flat rows++xs:=by simp [flat]
theorem mH (rows:List (List Nat)) (k:Nat):(flat (rows.take k)).length≤(flat rows).length:=by
 conv=>rhs;rw [←List.take_append_drop k rows]
 simp only [flat,List.flatten_append,List.length_append]
 omega
def CatA (rows:List (List Nat)) (sv iv:Value):Prop:=∃ k,k≤rows.length∧iv=.int .i64 (k:Int)∧sv=.int .i64 ((flat (rows.take k)).length:Int)
def CatB (w:World) (B:Nat) (rows:List (List Nat)) (ov iv:Value) (wr:World):Prop:=
 ∃ k,k≤rows.length∧iv=.int .i64 (k:Int)∧wr.ownsRow B 117 1 ov (flat (rows.take k)).length (ints .u32 (flat (rows.take k)))∧Below B w wr
set_option maxRecDepth 100000 in
set_option maxHeartbeats 1000000 in
theorem EA (va:Value) (rows:List (List Nat)) (w:World) (hr:ig w va rows) (hn:(flat rows).length≤2147483648):
  Calls Tryz.prog 153 #[va] w fun e w'=>∃ v',e=.returned v'∧w'.ownsRow w.heap.size 117 1 v' (flat rows).length (ints .u32 (flat rows))∧Below w.heap.size w w':=by
 obtain ⟨p,c,rfl,fH,fy⟩:=hr.form
 have Hr:=Lib.hid hr
 obtain ⟨i0,hi,lp,lx,lT⟩:=info_parts iZ
 obtain ⟨B,hB⟩:∃ B,B=w.heap.size:=⟨_,rfl⟩
 have HB:=Lib.hid hB
 obtain ⟨N,hN⟩:∃ N,N=rows.length:=⟨_,rfl⟩
 rw [←hN] at fH ⊢
 have HN:=Lib.hid hN
 rw [←hB]
 clear hr hB hN
 refine aN fun R' bt=> ?_
 go_enter Tryz.func153,Tryz.ntmps153
 go_wp2
 go_loop [3,11] (fun sv iv=>CatA rows sv iv) (fun _ iv=>N - (intOf iv).toNat)
 case atStart=>exact ⟨0,Nat.zero_le _,rfl,by simp [flat]⟩
 case round=>
  obtain ⟨k,hk,rfl,rfl⟩:=hrel
  rw [←HN.out] at hk
  have sT:=mH rows k
  by_cases sR:k < N
  ·obtain ⟨b1,o1,u,xs,rfl,gl,qw,hru⟩:=Hr.out.at (k:=k) (by rw [←HN.out];exact sR)
   obtain ⟨q,d,rfl,_,_,_⟩:=hru.u32
   have hfs:(flat (rows.take (k + 1))).length=(flat (rows.take k)).length + xs.length:=by rw [bu gl,sZ,List.length_append]
   have gG:=mH rows (k + 1)
   have HFS:=Lib.hid hfs
   rw [hfs] at gG
   clear gl hru hfs
   generalize (flat (rows.take k)).length=L at *
   go_wp2
   go_round
   case rel=>exact ⟨k + 1,by rw [←HN.out];omega,by go_num,by rw [HFS.out];go_num⟩
   case measure=>simp [intOf];omega
  ·obtain rfl:k=N:=by omega
   have hL:Hid (flat (rows.take k)=flat rows):=by show _=_;rw [List.take_of_length_le (by rw [HN.out];exact Nat.le_refl _)]
   rw [hL.out]
   rw [hL.out] at sT
   generalize hLL:(flat rows).length=L at hn sT
   have HLL:=Lib.hid hLL
   rw [hLL] at bt
   clear hLL
   go_wp2_with fail
   refine (Ku L _ (by omega)).mono ?_
   rintro e w1 ⟨ov,rfl,aH,hb⟩
   rw [←HB.out] at aH hb
   have HO:=Lib.hid aH
   have gC:=Lib.hid hb
   clear aH hb
   go_wp2_with fail
   go_loopw [6,27] (fun ov iv wr=>CatB w B rows ov iv wr) (fun _ iv _=>k - (intOf iv).toNat)
   case atStart=>exact ⟨0,Nat.zero_le _,rfl,by simpa [flat,ints] using HO.out,gC.out⟩
   case round=>
    obtain ⟨j,hj,rfl,aH,hb⟩:=hrel
    have nw:=Lib.hid aH
    have oh:=Lib.hid hb
    rw [←HN.out] at hj
    clear aH hb
    by_cases hjn:j < k
    ·obtain ⟨b1,o1,u,xs,rfl,gl,qw,hru⟩:=((Hr.out.below (by have:=oh.out;rwa [HB.out] at this)).at (k:=j) (by rw [←HN.out];exact hjn))
     have hfs:(flat (rows.take (j + 1))).length=(flat (rows.take j)).length + xs.length:=by rw [bu gl,sZ,List.length_append]
     have gG:=mH rows (j + 1)
     have HFS:=Lib.hid hfs
     have hsz:(flat (rows.take j)).length + xs.length≤2147483648:=by have:=HLL.out;omega
     have vz:=Lib.hid gl
     have HRU:=Lib.hid hru
     have vx:B≤wr.heap.size:=by have:=oh.out.size;have:=HB.out;omega
     clear gl hru hfs gG
     go_wp2_with (at_builtin;refine iM _ rfl _ _ 22 rfl B 117 i0 (.int .u32 0) 1 4 Tryz.underlying22 hi lp lx lT rfl (by decide) _ _ _ rfl nw.out _ xs.length _ rfl HRU.out (lQ _ _) (by unfold maxLen;omega) (by omega) vx ?_;intro v' w2 jX hgr2)
     have Kv:Hid (w2.ownsRow B 117 1 v' (flat (rows.take (j + 1))).length (ints .u32 (flat (rows.take (j + 1))))):=by
      show World.ownsRow ..
      rw [HFS.out,bu vz.out,sZ,gO];exact jX
     have JT:Hid (Below B w w2):=Below.Kk oh.out hgr2 nw.out vx (Nat.le_refl _)
     clear jX hgr2
     go_wp2_with fail
     go_roundw
     case rel=>exact ⟨j + 1,by rw [←HN.out];omega,by go_num,Kv.out,JT.out⟩
     case measure=>simp [intOf];omega
    ·obtain rfl:j=k:=by omega
     go_wp2_with fail
     refine bt.out _ _ ⟨_,rfl,?_,oh.out⟩
     have:=nw.out
     rw [hL.out,HLL.out] at this
     exact this
end Go.Proofs.YtabalinjfgcfeaaGreat
namespace Go.Proofs.YtabalinjfgcfeaaGreat
open Go.RowKit
theorem ig.two {w:World} {g:Nat} {u v:Value} {xs ys:List Nat} {t:Nat} {fr:Nat×Nat} (h:w.heap[g]? =some (.cells #[u,v] t fr)) (hx:Rd w 1 u xs.length (ints .u32 xs)) (hy:Rd w 1 v ys.length (ints .u32 ys)):
  ig w (.slice (some ⟨g,0,none⟩) 2 2) [xs,ys]:=by
 refine ⟨[u,v],⟨_,2,rfl,Nat.le_refl _,by simp [maxLen],rfl,fun _=>⟨g,0,rfl,fun j z hj=> ?_⟩⟩,fun i zs hi=> ?_⟩
 ·match j,hj with
  | 0,hj=>simp at hj;subst hj;simp [World.cell?,h]
  | 1,hj=>simp at hj;subst hj;simp [World.cell?,h]
 ·match i,hi with
  | 0,hi=>simp at hi;subst hi;exact ⟨u,rfl,hx⟩
  | 1,hi=>simp at hi;subst hi;exact ⟨v,rfl,hy⟩
theorem Gq {w:World} {o:Obj} {k:Nat} (h:k=w.heap.size):(w.alloc o).heap[k]? =some o:=by subst h;exact heap_alloc_new w o
theorem ordA {w w2 w3:World} {z o:Obj} (bn:Below (w.alloc z).drew.heap.size (w.alloc z).drew w2) (cI:Below (w2.alloc o).heap.size (w2.alloc o) w3):Below w.heap.size w w3∧w.heap.size≤(w2.alloc o).heap.size:=by
 have h1:=bn.size
 simp at h1
 have h0:Below w.heap.size w (w.alloc z).drew:=((Below.refl w.heap.size w).alloc (Nat.le_refl _) z).drew
 have h2:Below w.heap.size w w2:=h0.trans (bn.mono (by simp))
 exact ⟨(h2.alloc (by omega) o).trans (cI.mono (by simp;omega)),by simp;omega⟩
theorem ordB {w w2 w3:World} {z o:Obj} (bn:Below w.drew.heap.size w.drew w2) (cI:Below ((w2.alloc z).alloc o).heap.size ((w2.alloc z).alloc o) w3):Below w.heap.size w w3∧w.heap.size≤((w2.alloc z).alloc o).heap.size:=by
 have h1:=bn.size
 simp at h1
 have h2:Below w.heap.size w w2:=(Below.refl w.heap.size w).drew.trans bn
 exact ⟨((h2.alloc (by omega) z).alloc (by simp;omega) o).trans (cI.mono (by simp;omega)),by simp;omega⟩
theorem rz (w:World) (q:Nat) (h:q≤9223372036854775807):Rd (w.alloc (.cells (madeCells #[Value.int .u32 0] q) 117)) 1 (.slice (some ⟨w.heap.size,0,none⟩) q q) (List.replicate q 0).length (ints .u32 (List.replicate q 0)):=by
 have h1:=World.ownsRow_lit (base:=0) (size:=1) (e:=117) w (madeCells (Value.int .u32 0).cells (q * 1)) q (Nat.zero_le _) (by unfold maxLen;omega) (size_madeCells _ _)
 have h2:=Rd.own (Own.made h1)
 rw [List.length_replicate]
 rw [Nat.mul_one,List.nil_append] at h2
 exact h2
set_option maxRecDepth 100000 in
set_option maxHeartbeats 1000000 in
theorem EB (p:Option Addr) (m c n x:Nat) (xs:List Nat) (w:World) (hr:Rd w 1 (.slice p m c) m (ints .u32 xs)) (hx:cd xs) (hv:aq xs=x) (hm:m≤1073741824) (gB:x≠0) (hn:n≤65536):
  Calls Tryz.prog 145 #[.slice p m c,.int .i64 (n:Int)] w fun e w'=>∃ v',e=.returned (.tuple #[v',.int .i64 0])∧w'.ownsRow w.heap.size 117 1 v' (limbs (x * 2 ^ n)).length (ints .u32 (limbs (x * 2 ^ n)))∧Below w.heap.size w w':=by
 obtain ⟨p',c',hv',fH,fy,ew⟩:=hr.u32
 simp only [Value.slice.injEq,true_and] at hv'
 obtain ⟨rfl,rfl⟩:=hv'
 have Hr:=Lib.hid hr
 have HX:=Lib.hid ew
 have HL:=Lib.hid hx
 have HV:=Lib.hid hv
 obtain ⟨i0,hi,lp,lx,lT⟩:=info_parts iZ
 have hmk:∀ W:World,(Instr.makeSlice 22 (.int .i64 ((n:Int) / 32)) (.int .i64 ((n:Int) / 32))).run Tryz.prog W=.ok (.slice (some ⟨W.heap.size,0,none⟩) (n / 32) (n / 32)) (W.alloc (.cells (madeCells (Value.int .u32 0).cells (n / 32 * 1)) 117)):=fun W=>by
  have:=run_make (P:=Tryz.prog) W 22 117 i0 (.int .u32 0) Tryz.underlying22 hi lp .i64 .i64 ((n:Int) / 32) ((n:Int) / 32) (by omega) (Int.le_refl _) (by rw [lT];omega) (by omega)
  rw [lx,show ((n:Int) / 32).toNat=n / 32 by omega] at this
  exact this
 clear ew hr hx hv hi lp lx lT
 refine aN fun R' bt=> ?_
 go_enter Tryz.func145,Tryz.ntmps145
 go_wp2_with fail
 refine (cU p m c xs _ Hr.out HL.out).mono ?_
 rintro e w1 ⟨⟨r,hrm,rfl,Eg⟩,rfl⟩
 have qf:Hid ((limbs x).length=r):=by
  show _=_
  rw [←HV.out,Eg,List.length_take,HX.out];omega
 have sQ:=Hr.out.limbs hrm Eg
 rw [HV.out] at sQ
 have HRD:=Lib.hid sQ
 clear Eg sQ
 have wx:0 < r:=by rw [←qf.out];exact dc gB
 have yZ:∀ W:World,Rd W 1 (.slice p r c) r (ints .u32 (limbs x))→Calls Tryz.prog 154 #[.slice p r c,.int .i64 ((n:Int) % 32)] W fun e w'=>∃ v',e=.returned v'∧Rd w' 1 v' (limbs (x * 2 ^ (n % 32))).length (ints .u32 (limbs (x * 2 ^ (n % 32))))∧Below W.heap.size W w':=fun W h=>by
  have:=Kt (.slice p r c) r (n % 32) x W h (by omega) (Nat.mod_lt _ (by omega))
  rwa [show ((n % 32:Nat):Int)=(n:Int) % 32 by omega] at this
 have HLEFT:=Lib.hid yZ
 clear yZ
 have sT:(flat [List.replicate (n / 32) 0,limbs (x * 2 ^ (n % 32))])=limbs (x * 2 ^ n):=by
  have h1:=BJ (x:=x * 2 ^ (n % 32)) (n / 32) (Nat.mul_ne_zero gB (by have:=Nat.pow_pos (n:=n % 32) (show 0 < 2 by omega);omega))
  simp only [flat,List.flatten_cons,List.flatten_nil,List.append_nil]
  rw [h1,Nat.mul_assoc,BH,←Nat.pow_add,Nat.mod_add_div]
 have hfn:(flat [List.replicate (n / 32) 0,limbs (x * 2 ^ (n % 32))]).length≤2147483648:=by
  simp only [flat,List.flatten_cons,List.flatten_nil,List.append_nil,List.length_append,List.length_replicate]
  have:=tX x (n % 32) (Nat.mod_lt _ (by omega))
  rw [qf.out] at this
  omega
 have HFL:=Lib.hid sT
 have HFN:=Lib.hid hfn
 clear sT hfn gB
 go_wp2_with fail
 have vA:IntKind.i64.wrap ((n:Int) / 32)=(n:Int) / 32:=IntWalk.i64_in _ (by omega)
 have hw2:(n:Int).tmod 32=(n:Int) % 32:=Int.tmod_eq_emod_of_nonneg (by omega)
 go_region_with (first
  | (go_at_call 154;refine (HLEFT.out _ (by first | exact HRD.out | exact Rd.alloc (Rd.drew HRD.out) _)).mono ?_;rintro e w2 ⟨v2,rfl,hrd2,bn⟩;obtain ⟨p2,c2,rfl,_,_,_⟩:=hrd2.form)
  | (go_at_call 153;refine (EA _ [List.replicate (n / 32) 0,limbs (x * 2 ^ (n % 32))] _ (by first | exact ig.two (heap_alloc_new _ _) (Rd.alloc (Rd.below (Rd.drew (rz _ _ (by omega))) bn) _) (Rd.alloc hrd2 _) | exact ig.two (Gq (by simp)) (Rd.alloc (rz _ _ (by omega)) _) (Rd.alloc (Rd.alloc hrd2 _) _)) HFN.out).mono ?_;rintro e w3 ⟨v3,rfl,Kw,cI⟩))
 all_goals
  go_wp2
  go_ret2
  refine bt.out _ _ ⟨v3,rfl,?_,?_⟩
  ·rw [HFL.out] at Kw
   first | exact Own.mono Kw (ordA bn cI).2 | exact Own.mono Kw (ordB bn cI).2
  ·first | exact (ordA bn cI).1 | exact (ordB bn cI).1
theorem ta {x m k:Nat} (h:(limbs x).length≤m) (hk:32 * m≤k):x / 2 ^ k=0:=by
 apply Nat.div_eq_of_lt
 have h1:=mG x
 have h2:=Nat.pow_le_pow_right (show 0 < 4294967296 by omega) h
 rw [BH] at h1 h2
 have h3:=Nat.pow_le_pow_right (show 0 < 2 by omega) hk
 rw [BH] at h2
 omega
set_option maxRecDepth 100000 in
set_option maxHeartbeats 1000000 in
theorem tc (va:Value) (m x:Nat) (n:Int) (xs:List Nat) (w:World) (hr:Rd w 1 va m (ints .u32 xs)) (hx:cd xs) (hv:aq xs=x) (hm:m≤1073741824) (lU: -9223372036854775808≤n) (sU:n≤9223372036854775807):
  Calls Tryz.prog 145 #[va,.int .i64 n] w fun e w'=>((x≠0∧65536 < n∧e=.returned (.tuple #[.slice none 0 0,.int .i64 3]))∨
   (¬ (x≠0∧65536 < n)∧∃ v',e=.returned (.tuple #[v',.int .i64 0])∧w'.ownsRow w.heap.size 117 1 v' (limbs (gj x n)).length (ints .u32 (limbs (gj x n)))))∧Below w.heap.size w w':=by
 obtain ⟨p,c,rfl,fH,fy,ew⟩:=hr.u32
 have Hr:=Lib.hid hr
 have HX:=Lib.hid ew
 have HL:=Lib.hid hx
 have HV:=Lib.hid hv
 clear ew hr hx hv
 by_cases uQ:x≠0∧0≤n∧n≤65536
 ·obtain ⟨gB,h0,h1⟩:=uQ
  obtain ⟨k,rfl⟩:=Int.eq_ofNat_of_zero_le h0
  refine (EB p m c k x xs w Hr.out HL.out HV.out hm gB (by omega)).mono ?_
  rintro e w' ⟨v',rfl,aH,hb⟩
  refine ⟨.inr ⟨by omega,v',rfl,?_⟩,hb⟩
  have:gj x (k:Int)=x * 2 ^ k:=by simp [gj]
  rw [this];exact aH
 ·refine aN fun R' bt=> ?_
  go_enter Tryz.func145,Tryz.ntmps145
  go_wp2_with fail
  refine (cU p m c xs _ Hr.out HL.out).mono ?_
  rintro e w1 ⟨⟨r,hrm,rfl,Eg⟩,rfl⟩
  have qf:(limbs x).length=r:=by
   rw [←HV.out,Eg,List.length_take,HX.out];omega
  have sQ:=Hr.out.limbs hrm Eg
  rw [HV.out] at sQ
  have HRD:=Lib.hid sQ
  have Ky:=Lib.hid qf
  clear Eg sQ
  by_cases gB:x=0
  ·have wx:r=0:=by rw [←qf,gB,bB];rfl
   have HX0:=Lib.hid gB
   have Ii:((r:Int) == 0)=true:=by rw [beq_iff_eq];omega
   clear gB wx qf uQ
   go_wp2_with fail
   refine bt.out _ _ ⟨.inr ⟨fun h=>h.1 HX0.out,.slice none 0 0,rfl,?_⟩,Below.refl _ _⟩
   have:gj x n=0:=by simp [gj,HX0.out]
   rw [this,bB];exact World.ownsRow_nil _ _ _ _
  ·have wx:0 < r:=by rw [←qf];exact dc gB
   have Ii:((r:Int) == 0)=false:=by rw [beq_eq_false_iff_ne];omega
   clear qf
   by_cases hbig:65536 < n
   ·go_wp2_with fail
    exact bt.out _ _ ⟨.inl ⟨gB,hbig,rfl⟩,Below.refl _ _⟩
   ·have hneg:n < 0:=by
     by_cases h:n < 0
     ·exact h
     ·exact absurd ⟨gB,by omega,by omega⟩ uQ
    clear uQ
    have HX0:=Lib.hid gB
    clear gB
    have hmul:IntKind.i64.wrap (-32 * (r:Int))= -32 * (r:Int):=IntWalk.i64_in _ (by omega)
    by_cases mI:n≤-32 * (r:Int)
    ·go_wp2_with fail
     refine bt.out _ _ ⟨.inr ⟨fun h=>by omega,.slice none 0 0,rfl,?_⟩,Below.refl _ _⟩
     have:gj x n=0:=by
      unfold gj
      rw [if_neg (by omega)]
      exact ta (m:=r) (by rw [Ky.out];exact Nat.le_refl _) (by omega)
     rw [this,bB];exact World.ownsRow_nil _ _ _ _
    ·obtain ⟨k,rfl⟩:∃ k:Nat,n= -(k:Int):=⟨(-n).toNat,by omega⟩
     obtain ⟨b,off,y,rfl,_,_,_⟩:=HRD.out.cellAt (k:=0) wx
     have hkr:k / 32 < r:=by omega
     have hneq:¬ (c=k / 32):=by omega
     have yu:0 < k:=by omega
     have BL:Rd w 1 (.slice (some ⟨b,off + k / 32,none⟩) (r - k / 32) (c - k / 32)) (r - k / 32) (ints .u32 ((limbs x).drop (k / 32))):=by
      obtain ⟨p',c',hv',h1,h2,h3,h4⟩:=HRD.out
      simp only [Value.slice.injEq,true_and] at hv'
      obtain ⟨rfl,rfl⟩:=hv'
      refine ⟨_,_,rfl,by omega,by unfold maxLen at h2 ⊢;omega,by rw [tV,List.length_drop,Ky.out];omega,fun _=>⟨b,off + k / 32,rfl,fun j u hj=> ?_⟩⟩
      obtain ⟨b',aQ,hp,hc⟩:=h4 (by omega)
      simp only [Option.some.injEq,Addr.mk.injEq,and_true] at hp
      obtain ⟨rfl,rfl⟩:=hp
      rw [←Ia,List.getElem?_drop] at hj
      have:=hc _ _ hj
      rwa [←Nat.add_assoc] at this
     have HDR:=Lib.hid BL
     clear BL
     have hq1:0≤(k:Int) / 32:=by omega
     have vB:(k:Int) / 32 < (r:Int):=by omega
     go_wp2_with fail
     rw [show (k:Int) % 32=((k % 32:Nat):Int) by omega]
     refine (Ik _ _ (k % 32) _ _ HDR.out ((az x).drop _) (by omega) (Nat.mod_lt _ (by omega))).mono ?_
     rintro e w1 ⟨⟨v1,m1,rs,rfl,hm1,hrd1,yv,Bu⟩,aU⟩
     obtain ⟨p1,c1,rfl,_,_,sV⟩:=hrd1.u32
     have HR1:=Lib.hid hrd1
     have HV1:=Lib.hid Bu
     have HRL:=Lib.hid sV
     clear hrd1 Bu sV
     go_wp2_with fail
     refine (cU p1 m1 c1 rs _ HR1.out yv).mono ?_
     rintro e w2 ⟨⟨r2,ji,rfl,hlr2⟩,rfl⟩
     have hml2:Hid ((limbs (aq rs)).length=r2):=by show _=_;rw [hlr2,List.length_take,HRL.out];omega
     have HR2:=Lib.hid (HR1.out.limbs ji hlr2)
     clear hlr2
     go_wp2_with fail
     refine (iP _ r2 _ _ HR2.out (by omega)).mono ?_
     rintro e w2 ⟨v2,rfl,aH,bn⟩
     have hval:gj x (-(k:Int))=aq rs:=by
      unfold gj
      rw [if_neg (by omega),HV1.out,uR x (k / 32) (by rw [Ky.out];omega),Nat.div_div_eq_div_mul,BH,←Nat.pow_add,Nat.div_add_mod]
      simp
     go_wp2_with fail
     refine bt.out _ _ ⟨.inr ⟨fun h=>by omega,v2,rfl,?_⟩,aU.trans (bn.mono aU.size)⟩
     rw [hval,hml2.out]
     exact Own.mono aH aU.size
end Go.Proofs.YtabalinjfgcfeaaGreat
namespace Go.Proofs.YtabalinjfgcfeaaGreat
theorem BM {xs:List Nat} {j o v:Nat} (h:xs[j]? =some o):aq (xs.set j v) + 4294967296 ^ j * o=aq xs + 4294967296 ^ j * v:=by
 obtain ⟨hl,he⟩:=List.getElem?_eq_some_iff.1 h
 have h1:xs=xs.take j++o::xs.drop (j + 1):=by rw [←he,←List.drop_eq_getElem_cons hl,List.take_append_drop]
 have h2:xs.set j v=xs.take j++v::xs.drop (j + 1):=by
  conv=>lhs;rw [h1]
  rw [List.set_append_right _ _ (by rw [List.length_take];omega)]
  rw [List.length_take,Nat.min_eq_left (by omega),Nat.sub_self];rfl
 have e1:aq xs=aq (xs.take j) + 4294967296 ^ j * (o + 4294967296 * aq (xs.drop (j + 1))):=by
  conv=>lhs;rw [h1]
  rw [dX,List.length_take,Nat.min_eq_left (by omega),fi]
 have e2:aq (xs.set j v)=aq (xs.take j) + 4294967296 ^ j * (v + 4294967296 * aq (xs.drop (j + 1))):=by
  rw [h2,dX,List.length_take,Nat.min_eq_left (by omega),fi]
 rw [e1,e2,Nat.mul_add,Nat.mul_add]
 omega
theorem cd.set {xs:List Nat} (h:cd xs) {v:Nat} (hv:v < 4294967296) (j:Nat):cd (xs.set j v):=fun y hy=>by
 rcases List.mem_or_eq_of_mem_set hy with h1 | h1
 ·exact h y h1
 ·rw [h1];exact hv
theorem wF (k:Nat):aq (List.replicate k 0)=0:=gF _ k
theorem wG {xs:List Nat} (k:Nat) (hk:k≤xs.length):aq xs=aq (xs.take k) + 4294967296 ^ k * aq (xs.drop k):=iW _ xs k hk
theorem qi {xs:List Nat} {k x:Nat} (h:xs[k]? =some x):aq (xs.drop k)=x + 4294967296 * aq (xs.drop (k + 1)):=qe h
theorem BN {os:List Nat} {i k x y o c s S Y:Nat} (ho:os[i + k]? =some o) (hs:s=x * y + o + c) (h:aq os + 4294967296 ^ (i + k) * c=S + 4294967296 ^ i * (x * Y)):
  aq (os.set (i + k) (s % 4294967296)) + 4294967296 ^ (i + (k + 1)) * (s / 4294967296)=S + 4294967296 ^ i * (x * (Y + 4294967296 ^ k * y)):=by
 have h1:=BM (v:=s % 4294967296) ho
 have h2:4294967296 ^ (i + (k + 1))=4294967296 ^ (i + k) * 4294967296:=by rw [←Nat.add_assoc,Nat.pow_succ]
 have h3:4294967296 ^ (i + k) * s=4294967296 ^ (i + k) * (s % 4294967296) + 4294967296 ^ (i + k) * 4294967296 * (s / 4294967296):=by
  rw [Nat.mul_assoc,←Nat.mul_add,Nat.mod_add_div]
 have h4:4294967296 ^ (i + k) * s=4294967296 ^ (i + k) * (x * y) + 4294967296 ^ (i + k) * o + 4294967296 ^ (i + k) * c:=by rw [hs,Nat.mul_add,Nat.mul_add]
 have h5:4294967296 ^ i * (x * (Y + 4294967296 ^ k * y))=4294967296 ^ i * (x * Y) + 4294967296 ^ (i + k) * (x * y):=by
  rw [Nat.mul_add,Nat.mul_add,Nat.pow_add]
  congr 1
  rw [Nat.mul_left_comm x,Nat.mul_assoc]
 rw [h2,h5]
 omega
theorem rA {x y o c:Nat} (hx:x < 4294967296) (hy:y < 4294967296) (ho:o < 4294967296) (hc:c < 4294967296):x * y + o + c < 18446744073709551616:=by
 have h1:x * y≤4294967295 * 4294967295:=Nat.mul_le_mul (by omega) (by omega)
 omega
def gH (U V:Nat):Nat:=min 4294967295 (U / V)
theorem BO {U V:Nat}:gH U V * V≤U:=Nat.le_trans (Nat.mul_le_mul_right _ (Nat.min_le_right _ _)) (Nat.div_mul_le_self U V)
theorem za {U V t:Nat} (hV:0 < V) (ht:t≤4294967295) (h:t * V≤U):t≤gH U V:=by
 unfold gH
 rw [Nat.le_min]
 exact ⟨ht,(Nat.le_div_iff_mul_le hV).2 h⟩
theorem EC {p U V u b lu lb:Nat} (hp:0 < p) (hu:u=U * p + lu) (hlu:lu < p) (hb:b=V * p + lb) (Eh:lb < p) (hV:4294967296≤V) (Kz:u < 4294967296 * b):
  u / b≤gH U V∧gH U V≤u / b + 1:=by
 have hV0:0 < V:=by omega
 have pd:0 < b:=by have:0 < V * p:=Nat.mul_pos hV0 hp;omega
 constructor
 ·refine za hV0 ?_ ?_
  ·have:u / b < 4294967296:=by rw [Nat.div_lt_iff_lt_mul pd];exact Kz
   omega
  ·have h1:u / b * b≤u:=Nat.div_mul_le_self u b
   have h2:u / b * V * p≤U * p + lu:=by
    rw [hb] at h1
    rw [hu,Nat.mul_add,←Nat.mul_assoc] at h1
    rw [←hb,←hu] at h1
    have:u / b * V * p≤u:=by omega
    omega
   rcases Nat.lt_or_ge U (u / b * V) with h | h
   ·have h3:(U + 1) * p≤u / b * V * p:=Nat.mul_le_mul_right _ h
    rw [Nat.add_mul] at h3
    omega
   ·exact h
 ·have hg:=@BO U V
  have hgB:gH U V≤4294967295:=Nat.min_le_left _ _
  generalize gH U V=q at hg hgB
  have h1:q * V * p≤U * p:=Nat.mul_le_mul_right _ hg
  have h2:q * lb≤4294967295 * lb:=Nat.mul_le_mul_right _ hgB
  have h3:q * b=q * V * p + q * lb:=by rw [hb,Nat.mul_add,←Nat.mul_assoc]
  have h4:4294967296 * p≤V * p:=Nat.mul_le_mul_right _ hV
  have h5:q * b < u + b:=by omega
  have h6:q < u / b + 2:=by
   have h7:u < (u / b + 1) * b:=by rw [Nat.add_mul];have e1:=Nat.div_add_mod u b;have e2:=Nat.mod_lt u pd;rw [Nat.mul_comm] at e1;omega
   have h8:q * b < (u / b + 2) * b:=by rw [Nat.add_mul];rw [Nat.add_mul] at h7;omega
   exact Nat.lt_of_mul_lt_mul_right h8
  omega
theorem ED {B p a y q c r x nQ X Y D:Nat} (h:D + q * Y=X + p * (c + r)) (hx:a + B * nQ=x + (q * y + c) % B + r):
  (D + p * x) + q * (Y + p * y)=(X + p * a) + p * B * ((q * y + c) / B + nQ):=by
 have h1:=Nat.mod_add_div (q * y + c) B
 have h2:p * (a + B * nQ)=p * x + p * ((q * y + c) % B) + p * r:=by rw [hx,Nat.mul_add,Nat.mul_add]
 have h3:p * ((q * y + c) % B) + p * (B * ((q * y + c) / B))=p * (q * y) + p * c:=by rw [←Nat.mul_add,h1,Nat.mul_add]
 have h4:q * (Y + p * y)=q * Y + p * (q * y):=by rw [Nat.mul_add,Nat.mul_left_comm]
 have h5:p * B * ((q * y + c) / B + nQ)=p * (B * ((q * y + c) / B)) + p * (B * nQ):=by rw [Nat.mul_assoc,Nat.mul_add,Nat.mul_add]
 rw [Nat.mul_add] at h2 h
 rw [h4,h5]
 omega
end Go.Proofs.YtabalinjfgcfeaaGreat
namespace Go.Proofs.YtabalinjfgcfeaaGreat
open Go.RowKit
theorem tab_fin:∀ i:Fin 256,(Lib.len8tab[i.val]'(by have:=i.2;have:Lib.len8tab.size=256:=by decide +kernel
                                                    omega)).toNat=gX i.val:=by decide +kernel
theorem BP:Lib.len8tab.size=256:=by decide +kernel
theorem tab_at (i:Nat) (h:i < Lib.len8tab.size):(Lib.len8tab[i]'h).toNat=gX i:=tab_fin ⟨i,by rw [BP] at h;exact h⟩
theorem wH {t k:Nat} (h:2 ^ k≤t):gX t=k + gX (t / 2 ^ k):=by
 have hp:0 < 2 ^ k:=Nat.pow_pos (by omega)
 have hq:t / 2 ^ k≠0:=by
  have:=(Nat.le_div_iff_mul_le hp).2 (show 1 * 2 ^ k≤t by omega)
  omega
 have h1:=vp (t / 2 ^ k)
 have h2:=vt hq
 have h0:=rk hq
 refine Gi ?_ (.inr ?_)
 ·rw [Nat.pow_add,Nat.mul_comm]
  exact (Nat.div_lt_iff_lt_mul hp).1 h1
 ·rw [show k + gX (t / 2 ^ k) - 1=(gX (t / 2 ^ k) - 1) + k by omega,Nat.pow_add]
  exact (Nat.le_div_iff_mul_le hp).1 h2
theorem mJ {i:Nat} (h:i < 256):gX i≤8:=qd (k:=8) h
set_option maxRecDepth 100000 in
set_option maxHeartbeats 4000000 in
theorem Il (x:Int) (w:World) (h0:0≤x) (h1:x≤4294967295):
  Calls Tryz.prog 152 #[.int .u32 x] w fun e w'=>e=.returned (.int .i64 (gX x.toNat:Int))∧w=w':=by
 have hsz:(Lib.len8tab.size:Int)=256:=by rw [BP];rfl
 refine aN fun R' bt=> ?_
 go_enter Tryz.func152,Tryz.ntmps152
 go_wp2
 all_goals
  refine bt.out _ _ ⟨lR ?_,rfl⟩
  simp only [tab_at,wrap64]
 all_goals first
  | (have e:=wH (t:=x.toNat) (k:=24) (by omega)
     have b:=mJ (i:=x.toNat / 2 ^ 24) (by omega)
     rw [show (x / 65536 / 256).toNat=x.toNat / 2 ^ 24 by omega]
     omega)
  | (have e:=wH (t:=x.toNat) (k:=16) (by omega)
     have b:=mJ (i:=x.toNat / 2 ^ 16) (by omega)
     rw [show (x / 65536).toNat=x.toNat / 2 ^ 16 by omega]
     omega)
  | (have e:=wH (t:=x.toNat) (k:=8) (by omega)
     have b:=mJ (i:=x.toNat / 2 ^ 8) (by omega)
     rw [show (x / 256).toNat=x.toNat / 2 ^ 8 by omega]
     omega)
  | (have b:=mJ (i:=x.toNat) (by omega)
     omega)
theorem Im (t:Nat) (w:World) (h1:t < 4294967296):
  Calls Tryz.prog 152 #[.int .u32 (t:Int)] w fun e w'=>e=.returned (.int .i64 (gX t:Int))∧w=w':=by
 have h:=Il (t:Int) w (by omega) (by omega)
 rwa [Int.toNat_natCast] at h
theorem BQ (t:Nat) (w:World) (ht:t < 4294967296) (h0:t≠0):
  Calls Tryz.prog 144 #[.int .u32 (t:Int)] w fun e w'=>(∃ u:Nat,e=.returned (.int .i64 (u:Int))∧u < 32∧t * 2 ^ u < 4294967296)∧w=w':=by
 have hs:=vp t
 have hb:gX t≤32:=qd (k:=32) ht
 have pd:=rk h0
 refine aN fun R' bt=> ?_
 go_enter Tryz.func144,Tryz.ntmps144
 go_wp2_with fail
 refine (Im t _ ht).mono ?_
 rintro e w1 ⟨rfl,rfl⟩
 generalize gX t=L at *
 go_wp2_with fail
 refine bt.out _ _ ⟨⟨32 - L,lR (by omega),by omega,?_⟩,rfl⟩
 have h1:t * 2 ^ (32 - L) < 2 ^ L * 2 ^ (32 - L):=Nat.mul_lt_mul_of_pos_right hs (Nat.pow_pos (by omega))
 rw [←Nat.pow_add,show L + (32 - L)=32 by omega] at h1
 exact h1
def wI (w:World) (B n m:Nat) (xs ys:List Nat) (v iv:Value) (wr:World):Prop:=
 ∃ (i:Nat) (os:List Nat),i≤n∧iv=.int .i64 (i:Int)∧os.length=n + m∧cd os∧(∀ j,i + m≤j→∀ x,os[j]? =some x→x=0)∧aq os=aq (xs.take i) * aq ys∧
   wr.ownsRow B 117 1 v (n + m) (ints .u32 os)∧Below B w wr
def BR (w:World) (B n m i S x:Nat) (ys:List Nat) (v cv kv:Value) (wr:World):Prop:=
 ∃ (k c:Nat) (os:List Nat),k≤m∧kv=.int .i64 (k:Int)∧cv=.int .u64 (c:Int)∧c < 4294967296∧os.length=n + m∧cd os∧(∀ j,i + m≤j→∀ x,os[j]? =some x→x=0)∧
   aq os + 4294967296 ^ (i + k) * c=S + 4294967296 ^ i * (x * aq (ys.take k))∧wr.ownsRow B 117 1 v (n + m) (ints .u32 os)∧Below B w wr
theorem KA {os:List Nat} {i m j v:Nat} (h:∀ j,i + m≤j→∀ x,os[j]? =some x→x=0) (hj:j < i + m):∀ l,i + m≤l→∀ x,(os.set j v)[l]? =some x→x=0:=fun l hl x hx=>by
 rw [List.getElem?_set_ne (by omega)] at hx
 exact h l hl x hx
theorem BR.step {w wr:World} {B n m i S x y o k c g cap:Nat} {ys os:List Nat} {q r:Int} (hk:k < m) (_:i < n) (hl:os.length=n + m) (wK:cd os) (hz:∀ j,i + m≤j→∀ x,os[j]? =some x→x=0)
  (hv:aq os + 4294967296 ^ (i + k) * c=S + 4294967296 ^ i * (x * aq (ys.take k))) (aH:wr.ownsRow B 117 1 (.slice (some ⟨g,0,none⟩) (n + m) cap) (n + m) (ints .u32 os)) (hb:Below B w wr)
  (hy:ys[k]? =some y) (ho:os[i + k]? =some o) (ku:x < 4294967296) (yV:y < 4294967296) (uT:c < 4294967296) (hq:q=(((x * y + o + c) % 4294967296:Nat):Int)) (hr:r=(((x * y + o + c) / 4294967296:Nat):Int)):
  BR w B n m i S x ys (.slice (some ⟨g,0,none⟩) (n + m) cap) (.int .u64 r) (.int .i64 ((k:Int) + 1)) (wr.setCell ⟨g,i + k,none⟩ (.int .u32 q)):=by
 subst hq;subst hr
 have ho4:=wK.at ho
 have hs:=rA ku yV ho4 uT
 refine ⟨k + 1,(x * y + o + c) / 4294967296,os.set (i + k) ((x * y + o + c) % 4294967296),by omega,rfl,rfl,by omega,by simp [hl],wK.set (Nat.mod_lt _ (by omega)) _,KA hz (by omega),?_,Own.fX aH,hb.setCell (Own.lt aH).1 _⟩
 have h1:aq (ys.take (k + 1))=aq (ys.take k) + 4294967296 ^ k * y:=by rw [aY,List.getD,hy];rfl
 rw [h1]
 exact BN ho rfl hv
theorem wI.step {w wr:World} {B n m i x c g cap:Nat} {xs ys os:List Nat} {q:Int} (hi:i < n) (hl:os.length=n + m) (wK:cd os) (hz:∀ j,i + m≤j→∀ x,os[j]? =some x→x=0) (hm:ys.length=m)
  (hv:aq os + 4294967296 ^ (i + m) * c=aq (xs.take i) * aq ys + 4294967296 ^ i * (x * aq (ys.take m))) (aH:wr.ownsRow B 117 1 (.slice (some ⟨g,0,none⟩) (n + m) cap) (n + m) (ints .u32 os)) (hb:Below B w wr)
  (hx:xs[i]? =some x) (uT:c < 4294967296) (hq:q=(c:Int)):
  wI w B n m xs ys (.slice (some ⟨g,0,none⟩) (n + m) cap) (.int .i64 ((i:Int) + 1)) (wr.setCell ⟨g,i + m,none⟩ (.int .u32 q)):=by
 subst hq
 obtain ⟨o,ho⟩:∃ o,os[i + m]? =some o:=⟨_,List.getElem?_eq_getElem (by omega)⟩
 obtain rfl:=hz (i + m) (Nat.le_refl _) o ho
 refine ⟨i + 1,os.set (i + m) c,by omega,rfl,by simp [hl],wK.set uT _,fun j hj y hy=> ?_,?_,Own.fX aH,hb.setCell (Own.lt aH).1 _⟩
 ·rw [List.getElem?_set_ne (by omega)] at hy
  exact hz j (by omega) y hy
 ·have h1:=BM (v:=c) ho
  have h2:aq (xs.take (i + 1))=aq (xs.take i) + 4294967296 ^ i * x:=by rw [aY,List.getD,hx];rfl
  rw [bm (Nat.le_of_eq hm)] at hv
  rw [h2,Nat.add_mul,Nat.mul_assoc]
  omega
set_option maxRecDepth 100000 in
set_option maxHeartbeats 4000000 in
theorem KB (va vb:Value) (n m:Nat) (xs ys:List Nat) (w:World) (hr:Rd w 1 va n (ints .u32 xs)) (hs:Rd w 1 vb m (ints .u32 ys)) (hx:cd xs) (hy:cd ys) (hn:n≤536870912) (hm:m≤536870912):
  Calls Tryz.prog 81 #[va,vb] w fun e w'=>∃ v',e=.returned v'∧w'.ownsRow w.heap.size 117 1 v' (limbs (aq xs * aq ys)).length (ints .u32 (limbs (aq xs * aq ys)))∧Below w.heap.size w w':=by
 obtain ⟨p,c,rfl,fH,fy,ew⟩:=hr.u32
 obtain ⟨q,d,rfl,JR,Ev,jt⟩:=hs.u32
 obtain ⟨i0,hi,lp,lx,lT⟩:=info_parts iZ
 have Hr:=Lib.hid hr
 have Hs:=Lib.hid hs
 have HLX:=Lib.hid hx
 have HLY:=Lib.hid hy
 have HX:=Lib.hid ew
 have HY:=Lib.hid jt
 obtain ⟨B,hB⟩:∃ B,B=w.heap.size:=⟨_,rfl⟩
 have HB:=Lib.hid hB
 rw [←hB]
 clear hr hs hx hy ew jt hB
 refine aN fun R' bt=> ?_
 go_enter Tryz.func81,Tryz.ntmps81
 go_wp2_with (at_make;refine wpList_make_full _ rfl _ _ 22 rfl B 117 i0 (.int .u32 0) 1 Tryz.underlying22 hi lp lx .i64 .i64 _ _ (n + m) rfl rfl (by omega) (by omega) (by rw [lT];omega) (by unfold maxLen;omega) (Nat.le_of_eq HB.out) ?_;intro w1 aH Ig)
 have Ey:=Lib.hid (Own.made aH)
 have Hb1:Hid (Below B w w1):=(Below.refl _ _).grown Ig (Nat.le_of_eq HB.out) (fun k hk=>by cases hk)
 clear aH Ig hi lp lx lT
 go_wp2_with fail
 go_loopw [20] (fun iv wr=>wI w B n m xs ys (.slice (some ⟨w.heap.size,0,none⟩) (n + m) (n + m)) iv wr) (fun iv _=>n - (intOf iv).toNat)
 case atStart=>exact ⟨0,List.replicate (n + m) 0,Nat.zero_le _,rfl,by simp,dH.replicate (by omega) _,fun j _ x hx=>by rw [List.getElem?_replicate] at hx;split at hx <;> simp_all,by rw [wF];simp [dW],by simpa using Ey.out,Hb1.out⟩
 case round=>
  obtain ⟨i,os,tY,rfl,hl,wK,hz,hv,aH,hb⟩:=hrel
  have HLO:=Lib.hid hl
  have HLIM:=Lib.hid wK
  have HZ:=Lib.hid hz
  have HV:=Lib.hid hv
  have HO:=Lib.hid aH
  have gC:=Lib.hid hb
  have hsz:=hb.size
  clear hl wK hz hv aH hb
  by_cases EE:i < n
  ·obtain ⟨b1,o1,x,rfl,aU,gl,qw⟩:=(Hr.out.iK HB.out gC.out).cellAt EE
   have vz:=Lib.hid gl
   have ku:=HLX.out.at gl
   clear gl
   go_wp2_with fail
   obtain ⟨wo,rfl⟩:∃ wo:World,wo=wr:=⟨_,rfl⟩
   go_loopw [8,27] (fun cv kv wr'=>BR w B n m i (aq (xs.take i) * aq ys) x ys (.slice (some ⟨w.heap.size,0,none⟩) (n + m) (n + m)) cv kv wr') (fun _ kv _=>m - (intOf kv).toNat)
   case atStart=>exact ⟨0,0,os,Nat.zero_le _,rfl,rfl,by omega,HLO.out,HLIM.out,HZ.out,by rw [HV.out];simp [dW],HO.out,gC.out⟩
   case round=>
    obtain ⟨k,c',os',Ez,rfl,rfl,uT,hl',BS,Ei,hv',hown',yn⟩:=hrel
    have HLO':=Lib.hid hl'
    have BU:=Lib.hid BS
    have HZ':=Lib.hid Ei
    have HV':=Lib.hid hv'
    have HO':=Lib.hid hown'
    have KD:=Lib.hid yn
    clear hl' BS Ei hv' hown' yn
    obtain ⟨o,ho,hco,hfo⟩:=Own.gr HO'.out (j:=i + k) (by omega)
    have HOK:=Lib.hid ho
    have ho4:=BU.out.at ho
    clear ho
    by_cases hklt:k < m
    ·obtain ⟨b2,o2,y,rfl,bn,og,Ex⟩:=(Hs.out.iK HB.out KD.out).cellAt hklt
     have Gn:=Lib.hid og
     have yV:=HLY.out.at og
     clear og
     have hsm:=rA ku yV ho4 uT
     have m0:0≤(x:Int) * (y:Int):=by rw [←Int.natCast_mul];omega
     have m1:(x:Int) * (y:Int) + (o:Int) + (c':Int) < 18446744073709551616:=by rw [←Int.natCast_mul];omega
     have Ip:IntKind.i64.wrap ((i:Int) + (k:Int))=((i + k:Nat):Int):=by rw [IntWalk.i64_in _ (by omega)];simp
     clear hsm
     go_wp2_with fail
     go_roundw
     case rel=>
      first
      | exact BR.step hklt EE HLO'.out BU.out HZ'.out HV'.out HO'.out KD.out Gn.out HOK.out ku yV uT (by simp) (by simp)
      | ((repeat apply Exists.intro);exact ⟨BR.step hklt EE HLO'.out BU.out HZ'.out HV'.out HO'.out KD.out Gn.out HOK.out ku yV uT (by simp) (by simp),rfl⟩)
     case measure=>simp [intOf];omega
    ·obtain rfl:k=m:=by omega
     have Ip:IntKind.i64.wrap ((i:Int) + (k:Int))=((i + k:Nat):Int):=by rw [IntWalk.i64_in _ (by omega)];simp
     go_wp2_with fail
     go_roundw
     case rel=>
      first
      | exact wI.step EE HLO'.out BU.out HZ'.out HY.out HV'.out HO'.out KD.out vz.out uT rfl
      | ((repeat apply Exists.intro);exact ⟨wI.step EE HLO'.out BU.out HZ'.out HY.out HV'.out HO'.out KD.out vz.out uT rfl,rfl⟩)
     case measure=>simp [intOf];omega
  ·obtain rfl:i=n:=by omega
   go_wp2_with fail
   refine (jg _ (i + m) os _ (Rd.own HO.out) HLIM.out (by omega)).mono ?_
   rintro e w2 ⟨v',rfl,jX,bn⟩
   go_wp2_with fail
   have h:=HV.out
   rw [bm (Nat.le_of_eq HX.out)] at h
   rw [h] at jX
   exact bt.out _ _ ⟨v',rfl,Own.mono jX (by have:=HB.out;omega),gC.out.trans (bn.mono (by have:=HB.out;omega))⟩
end Go.Proofs.YtabalinjfgcfeaaGreat
namespace Go.Proofs.YtabalinjfgcfeaaGreat
open Go.RowKit
def BV (w:World) (U2 v1 V U:Nat) (qv rv:Value) (wr:World):Prop:=
 ∃ q r dn:Nat,qv=.int .u64 (q:Int)∧rv=.int .u64 (r:Int)∧q * v1 + r=U2∧r < 4294967296∧(∀ t:Nat,t≤4294967295→t * V≤U→t≤q)∧wr=w.drewN dn
theorem Aj {B U2 v1 v2 low:Nat} (Bu:0 < v1) (hl:low < B) (t:Nat) (h:t * (v1 * B + v2)≤U2 * B + low):t≤U2 / v1:=by
 rw [Nat.le_div_iff_mul_le Bu]
 rw [Nat.mul_add,←Nat.mul_assoc] at h
 have h1:t * v1 * B < (U2 + 1) * B:=by rw [Nat.add_mul];omega
 have:=Nat.lt_of_mul_lt_mul_right h1
 omega
theorem BW {U2 v1 v2 low:Nat} (Bu:0 < v1) (hl:low < 4294967296):∀ t:Nat,t≤4294967295→t * (v1 * 4294967296 + v2)≤U2 * 4294967296 + low→t≤U2 / v1:=fun t _ h=>Aj Bu hl t h
theorem wL {B q v1 v2 r U2 low:Nat} (h:q * v1 + r=U2) (hf:q * v2≤r * B + low):q * (v1 * B + v2)≤U2 * B + low:=by
 subst h
 rw [Nat.mul_add,←Nat.mul_assoc,Nat.add_mul]
 omega
theorem EF {B q v1 v2 r U2 low:Nat} (h:q * v1 + r=U2) (hf:r * B + low < q * v2):U2 * B + low < q * (v1 * B + v2):=by
 subst h
 rw [Nat.mul_add,←Nat.mul_assoc,Nat.add_mul]
 omega
theorem BX {q V U:Nat} (hV:0 < V) (hq:q≤4294967295) (hf:q * V≤U) (hm:∀ t:Nat,t≤4294967295→t * V≤U→t≤q):q=gH U V:=
 Nat.le_antisymm (za hV hq hf) (hm _ (Nat.min_le_left _ _) BO)
theorem BZ {q v1 v2 r U2 low:Nat} (h:q * v1 + r=U2) (hr:4294967296≤r) (hU:U2 < v1 * 4294967296 + 4294967296) (hv2:v2 < 4294967296):q≤4294967295∧q * v2≤r * 4294967296 + low:=by
 have h1:q * v1 < 4294967296 * v1:=by omega
 have h2:q < 4294967296:=Nat.lt_of_mul_lt_mul_right h1
 have h3:q * v2≤4294967295 * 4294967295:=Nat.mul_le_mul (by omega) (by omega)
 omega
set_option maxRecDepth 100000 in
set_option maxHeartbeats 4000000 in
theorem Iq (hi mid low v1 v2:Nat) (w:World) (hhi:hi≤v1) (iQ:mid < 4294967296) (hlow:low < 4294967296) (h1:0 < v1) (h14:v1 < 4294967296) (h2:v2 < 4294967296):
  Calls Tryz.prog 146 #[.int .u32 (hi:Int),.int .u32 (mid:Int),.int .u32 (low:Int),.int .u32 (v1:Int),.int .u32 (v2:Int)] w fun e w'=>
   e=.returned (.int .u64 (gH ((hi * 4294967296 + mid) * 4294967296 + low) (v1 * 4294967296 + v2):Int))∧∃ k,w'=w.drewN k:=by
 have hhi4:hi < 4294967296:=by omega
 have wv:bits BinOp.or IntKind.u64 ((hi:Int) * 4294967296) (mid:Int)=((hi * 4294967296 + mid:Nat):Int):=by
  have e1:((hi:Int) * 4294967296)=((hi * 4294967296:Nat):Int):=by simp
  rw [e1,u64_or_nat _ _ (by omega) (by omega),nat_join 32 _ _ (by omega) (by omega)]
 obtain ⟨U2,yo⟩:∃ U2,U2=hi * 4294967296 + mid:=⟨_,rfl⟩
 have hU:U2 < v1 * 4294967296 + 4294967296:=by omega
 rw [←yo] at wv ⊢
 have hv0:((v1:Int) != 0)=true:=by rw [bne_iff_ne];omega
 have hV:0 < v1 * 4294967296 + v2:=by omega
 obtain ⟨V,hVe⟩:∃ V,V=v1 * 4294967296 + v2:=⟨_,rfl⟩
 obtain ⟨U,hUe⟩:∃ U,U=U2 * 4294967296 + low:=⟨_,rfl⟩
 rw [←hVe,←hUe]
 rw [←hVe] at hV
 have HV:=Lib.hid hVe
 have HU:=Lib.hid hUe
 have HST:Hid (∀ t:Nat,t≤4294967295→t * V≤U→t≤U2 / v1):=by rw [hVe,hUe];exact BW h1 hlow
 have HUU:=Lib.hid hU
 have Ev:=Nat.div_add_mod U2 v1
 have qf:=Nat.mod_lt U2 h1
 have hU64:U2 < 18446744073709551616:=by omega
 have d1:((U2 / v1:Nat):Int)=(U2:Int) / (v1:Int):=by simp
 have d2:((U2 % v1:Nat):Int)=(U2:Int) % (v1:Int):=by simp
 have dl:(U2:Int) / (v1:Int) < 18446744073709551616:=by rw [←d1];have:=Nat.div_le_self U2 v1;omega
 have dl0:0≤(U2:Int) / (v1:Int):=Int.ediv_nonneg (by omega) (by omega)
 have dm0:0≤(U2:Int) % (v1:Int):=Int.emod_nonneg _ (by omega)
 have dm1:(U2:Int) % (v1:Int) < 4294967296:=by rw [←d2];omega
 have HDM:=Lib.hid Ev
 have Ky:=Lib.hid qf
 have HD1:=Lib.hid d1
 have HD2:=Lib.hid d2
 clear hVe hUe hU Ev qf d1 d2 yo
 refine aN fun R' bt=> ?_
 go_enter Tryz.func146,Tryz.ntmps146
 go_wp2_with fail
 go_step3
 go_wp2_with fail
 go_quiet (fail)
 go_wp2_with fail
 go_step3
 go_wp2_with fail
 go_loopw [12,13] (fun qv rv wr=>BV w U2 v1 V U qv rv wr) (fun qv _ _=>(intOf qv).toNat)
 case atStart=>exact ⟨U2 / v1,U2 % v1,_,by rw [HD1.out],by rw [HD2.out],by rw [Nat.mul_comm];exact HDM.out,Nat.lt_trans Ky.out h14,HST.out,rfl⟩
 case round=>
  obtain ⟨q,r,dn,rfl,rfl,hqr,hr,hmax,rfl⟩:=hrel
  have HQR:=Lib.hid hqr
  have HMAX:=Lib.hid hmax
  have hq64:(q:Int) < 18446744073709551616:=by
   have h3:q * 1≤q * v1:=Nat.mul_le_mul_left _ h1
   omega
  have hr64:(r:Int) + (v1:Int) < 18446744073709551616:=by omega
  clear hqr hmax dl dl0 dm0 dm1 wv
  have next:(∀ t:Nat,t≤4294967295→t * V≤U→t≤q - 1)→1≤q→r + v1 < 4294967296→BV w U2 v1 V U (.int .u64 ((q:Int) - 1)) (.int .u64 ((r:Int) + (v1:Int))) (w.drewN dn):=fun a b c=>
   ⟨q - 1,r + v1,dn,by rw [show ((q - 1:Nat):Int)=(q:Int) - 1 by omega],by simp,by
    have h3:=HQR.out
    obtain ⟨k,rfl⟩:∃ k,q=k + 1:=⟨q - 1,by omega⟩
    rw [Nat.add_mul] at h3
    simp only [Nat.add_sub_cancel]
    omega,c,a,rfl⟩
  have stop:(∀ t:Nat,t≤4294967295→t * V≤U→t≤q - 1)→1≤q→4294967296≤r + v1→(q:Int) - 1=(gH U V:Int):=fun a b c=>by
   have h3:=HQR.out
   obtain ⟨k,rfl⟩:∃ k,q=k + 1:=⟨q - 1,by omega⟩
   have h4:k * v1 + (r + v1)=U2:=by rw [Nat.add_mul] at h3;omega
   obtain ⟨h5,h6⟩:=BZ (low:=low) h4 c HUU.out h2
   have h7:k=gH U V:=BX hV h5 (by rw [HV.out,HU.out];exact wL h4 h6) (by simpa using a)
   omega
  have HNEXT:=Lib.hid next
  have HSTOP:=Lib.hid stop
  clear next stop
  by_cases hqB:4294967296≤q
  ·have c1:4294967295 < (q:Int):=by omega
   have hA:Hid (∀ t:Nat,t≤4294967295→t * V≤U→t≤q - 1):=fun t ht _=>by omega
   have c2:0≤(q:Int) - 1:=by omega
   by_cases Ii:r + v1 < 4294967296
   ·have c3:decide (4294967295 < (r:Int) + (v1:Int))=false:=decide_eq_false (by omega)
    go_wp2_with fail
    go_roundw
    case rel=>exact HNEXT.out hA.out (by omega) Ii
    case measure=>simp [intOf];omega
   ·have c3:4294967295 < (r:Int) + (v1:Int):=by omega
    go_wp2_with fail
    exact bt.out _ _ ⟨lR (HSTOP.out hA.out (by omega) (by omega)),_,rfl⟩
  ·have c1:(q:Int)≤4294967295:=by omega
   have m2:q * v2≤4294967295 * 4294967295:=Nat.mul_le_mul (by omega) (by omega)
   have m0:0≤(q:Int) * (v2:Int):=by rw [←Int.natCast_mul];omega
   have m1:(q:Int) * (v2:Int) < 18446744073709551616:=by rw [←Int.natCast_mul];omega
   have wv:bits BinOp.or IntKind.u64 ((r:Int) * 4294967296) (low:Int)=((r * 4294967296 + low:Nat):Int):=by
    have e1:((r:Int) * 4294967296)=((r * 4294967296:Nat):Int):=by simp
    rw [e1,u64_or_nat _ _ (by omega) (by omega),nat_join 32 _ _ (by omega) (by omega)]
   obtain ⟨RL,hRL⟩:∃ RL,RL=r * 4294967296 + low:=⟨_,rfl⟩
   rw [←hRL] at wv
   have HRL:=Lib.hid hRL
   by_cases hc:RL < q * v2
   ·have cc:(RL:Int) < (q:Int) * (v2:Int):=by rw [←Int.natCast_mul];omega
    have hq1:1≤q:=by
     rcases Nat.eq_zero_or_pos q with h | h
     ·subst h;rw [Nat.zero_mul] at hc;omega
     ·exact h
    have hA:Hid (∀ t:Nat,t≤4294967295→t * V≤U→t≤q - 1):=fun t ht hf=>by
     have h3:=HMAX.out t ht hf
     have h4:=EF (B:=4294967296) (low:=low) HQR.out (by rw [←hRL];exact hc)
     rw [←HV.out,←HU.out] at h4
     have h5:t≠q:=fun e=>by subst e;omega
     omega
    have c2:0≤(q:Int) - 1:=by omega
    clear m2 hc hRL
    by_cases Ii:r + v1 < 4294967296
    ·have c3:decide (4294967295 < (r:Int) + (v1:Int))=false:=decide_eq_false (by omega)
     go_wp2_with fail
     go_roundw
     case rel=>exact HNEXT.out hA.out (by omega) Ii
     case measure=>simp [intOf];omega
    ·have c3:4294967295 < (r:Int) + (v1:Int):=by omega
     go_wp2_with fail
     exact bt.out _ _ ⟨lR (HSTOP.out hA.out (by omega) (by omega)),_,rfl⟩
   ·have cc:decide ((RL:Int) < (q:Int) * (v2:Int))=false:=decide_eq_false (by rw [←Int.natCast_mul];omega)
    have cx:decide (4294967295 < (q:Int))=false:=decide_eq_false (by omega)
    have he:q=gH U V:=BX hV (by omega) (by rw [HV.out,HU.out];exact wL HQR.out (by rw [←hRL];omega)) HMAX.out
    have HE:=Lib.hid he
    clear m2 hc hRL he c1
    go_wp2_with fail
    exact bt.out _ _ ⟨by rw [←HE.out];rfl,_,rfl⟩
end Go.Proofs.YtabalinjfgcfeaaGreat
namespace Go.Proofs.YtabalinjfgcfeaaGreat
open Go.RowKit
theorem Rd.rB {w w':World} {g sz n:Nat} {v:Value} {cs:List Value} (h:Rd w sz v n cs) (hg:w.grownBy w' (some g)) (hne:∀ p c a,v=.slice p n c→p=some a→a.block≠g):Rd w' sz v n cs:=by
 obtain ⟨p,c,rfl,h1,h2,h3,h4⟩:=h
 refine ⟨p,c,rfl,h1,h2,h3,fun hn=> ?_⟩
 obtain ⟨b,off,hp,hc⟩:=h4 hn
 refine ⟨b,off,hp,fun j u hj=> ?_⟩
 exact hg.cell (hc j u hj) (fun e=>hne p c _ rfl hp (by simpa using e))
theorem ly (w:World) (row:Option Nat):w.grownBy w row:=⟨rfl,rfl,rfl,Nat.le_refl _,fun _ _ _=>rfl⟩
theorem yw {a b c:World} {row:Option Nat} (h:a.grownBy b row) (k:b.grownBy c row):a.grownBy c row:=
 ⟨k.os.trans h.os,k.tape.trans h.tape,k.output.trans h.output,Nat.le_trans h.size k.size,fun j hj hne=>(k.block j (Nat.lt_of_lt_of_le hj h.size) hne).trans (h.block j hj hne)⟩
theorem mK {w wr:World} {g j:Nat} {u:Value} (h:w.grownBy wr (some g)):w.grownBy (wr.setCell ⟨g,j,none⟩ u) (some g):=
 ⟨h.os,h.tape,h.output,by simpa [World.setCell] using h.size,fun k hk hne=>(Below.heap_setCell wr ⟨g,j,none⟩ u k (fun e=>hne (by rw [e]))).trans (h.block k hk hne)⟩
theorem vC {pre D A post:List Nat} {i k a:Nat} (hp:pre.length=i) (hD:D.length=k) (ha:A[k]? =some a):(pre++(D++(A.drop k++post)))[i + k]? =some a:=by
 subst hp;subst hD
 obtain ⟨hl,he⟩:=List.getElem?_eq_some_iff.1 ha
 rw [List.getElem?_append_right (by omega),Nat.add_sub_cancel_left,List.getElem?_append_right (Nat.le_refl _),Nat.sub_self,List.drop_eq_getElem_cons hl,List.cons_append,List.getElem?_cons_zero,he]
theorem Gr {pre D A post:List Nat} {i k x:Nat} (hp:pre.length=i) (hD:D.length=k) (hl:k < A.length):(pre++(D++(A.drop k++post))).set (i + k) x=pre++((D++[x])++(A.drop (k + 1)++post)):=by
 subst hp;subst hD
 rw [List.set_append_right _ _ (by omega),Nat.add_sub_cancel_left,List.set_append_right _ _ (Nat.le_refl _),Nat.sub_self,List.drop_eq_getElem_cons hl,List.cons_append,List.set_cons_zero,List.append_assoc];rfl
theorem rC (n:Int):IntKind.u64.wrap n=n % 18446744073709551616:=by simp [IntKind.wrap,IntKind.bits,IntKind.signed]
theorem Ca {a lo r:Nat} (ha:a < 4294967296) (hl:lo < 4294967296) (hr:r≤1):∃ S1 S2 x r':Nat,IntKind.u64.wrap ((a:Int) - (lo:Int))=(S1:Int)∧IntKind.u64.wrap ((S1:Int) - (r:Int))=(S2:Int)∧
  (S2:Int) % 4294967296=(x:Int)∧(S2:Int) / 9223372036854775808=(r':Int)∧r'≤1∧x < 4294967296∧a + 4294967296 * r'=x + lo + r∧S1 < 18446744073709551616∧S2 < 18446744073709551616:=by
 refine ⟨(((a:Int) - lo) % 18446744073709551616).toNat,(((a:Int) - lo - r) % 18446744073709551616).toNat,(((a:Int) - lo - r) % 4294967296).toNat,(if lo + r≤a then 0 else 1),?_,?_,?_,?_,?_,?_,?_,?_,?_⟩
 ·rw [rC];omega
 ·rw [rC];omega
 ·omega
 ·split <;> omega
 ·split <;> omega
 ·omega
 ·split <;> omega
 ·omega
 ·omega
def rD (w:World) (B g N cap L q:Nat) (pre A post ys:List Nat) (cv bv kv:Value) (wr:World):Prop:=
 ∃ (k c r:Nat) (D:List Nat),k≤L∧kv=.int .i64 (k:Int)∧cv=.int .u64 (c:Int)∧bv=.int .u64 (r:Int)∧c < 4294967296∧r≤1∧D.length=k∧cd D∧
   aq D + q * aq (ys.take k)=aq (A.take k) + 4294967296 ^ k * (c + r)∧4294967296 ^ k * c≤q * aq (ys.take k)∧
   wr.ownsRow B 117 1 (.slice (some ⟨g,0,none⟩) N cap) N (ints .u32 (pre++(D++(A.drop k++post))))∧w.grownBy wr (some g)
theorem rD.step {w wr:World} {B g N cap i L q k c r y a x r' P:Nat} {pre A post ys D:List Nat} {xi ci ri:Int} (hk:k < L) (hA:A.length=L) (lz:pre.length=i) (hD:D.length=k) (wK:cd D)
  (hv:aq D + q * aq (ys.take k)=aq (A.take k) + 4294967296 ^ k * (c + r)) (hc:4294967296 ^ k * c≤q * aq (ys.take k))
  (aH:wr.ownsRow B 117 1 (.slice (some ⟨g,0,none⟩) N cap) N (ints .u32 (pre++(D++(A.drop k++post))))) (hg:w.grownBy wr (some g))
  (hy:ys.getD k 0=y) (ha:A[k]? =some a) (hP:P=q * y + c) (hP64:P < 18446744073709551616) (ku:x < 4294967296) (kA:r'≤1) (he:a + 4294967296 * r'=x + P % 4294967296 + r)
  (hxi:xi=(x:Int)) (hci:ci=((P / 4294967296:Nat):Int)) (Cb:ri=(r':Int)):
  rD w B g N cap L q pre A post ys (.int .u64 ci) (.int .u64 ri) (.int .i64 ((k:Int) + 1)) (wr.setCell ⟨g,i + k,none⟩ (.int .u32 xi)):=by
 subst hxi;subst hci;subst Cb;subst hP
 have h1:=Own.fX (j:=i + k) (x:=x) aH
 rw [Gr lz hD (by omega)] at h1
 have e1:aq (ys.take (k + 1))=aq (ys.take k) + 4294967296 ^ k * y:=by rw [aY,hy]
 have e2:aq (A.take (k + 1))=aq (A.take k) + 4294967296 ^ k * a:=by rw [aY,List.getD,ha];rfl
 refine ⟨k + 1,(q * y + c) / 4294967296,r',D++[x],by omega,rfl,rfl,rfl,by omega,kA,by simp [hD],wK.append (cd.cons ku cd.nil),?_,?_,h1,mK hg⟩
 ·rw [dC,hD,e1,e2,Nat.pow_succ]
  exact ED hv he
 ·rw [e1,Nat.pow_succ,Nat.mul_add]
  have h3:4294967296 ^ k * 4294967296 * ((q * y + c) / 4294967296)≤4294967296 ^ k * (q * y + c):=by
   rw [Nat.mul_assoc];exact Nat.mul_le_mul_left _ (Nat.mul_div_le _ _)
  rw [Nat.mul_add,Nat.mul_left_comm] at h3
  omega
def rE (w:World) (B g N cap L:Nat) (pre A post ys:List Nat) (cv kv:Value) (wr:World):Prop:=
 ∃ (k c:Nat) (D:List Nat),k≤L∧kv=.int .i64 (k:Int)∧cv=.int .u32 (c:Int)∧c≤1∧D.length=k∧cd D∧
   aq D + 4294967296 ^ k * c=aq (A.take k) + aq (ys.take k)∧
   wr.ownsRow B 117 1 (.slice (some ⟨g,0,none⟩) N cap) N (ints .u32 (pre++(D++(A.drop k++post))))∧w.grownBy wr (some g)
theorem rE.step {w wr:World} {B g N cap i L k c y a:Nat} {pre A post ys D:List Nat} (hk:k < L) (hA:A.length=L) (lz:pre.length=i) (hD:D.length=k) (wK:cd D) (hc:c≤1)
  (hv:aq D + 4294967296 ^ k * c=aq (A.take k) + aq (ys.take k))
  (aH:wr.ownsRow B 117 1 (.slice (some ⟨g,0,none⟩) N cap) N (ints .u32 (pre++(D++(A.drop k++post))))) (hg:w.grownBy wr (some g))
  (hy:ys.getD k 0=y) (ha:A[k]? =some a) (ha4:a < 4294967296) (yV:y < 4294967296):
  rE w B g N cap L pre A post ys (.int .u32 (((a + y + c) / 4294967296:Nat):Int)) (.int .i64 ((k:Int) + 1)) (wr.setCell ⟨g,i + k,none⟩ (.int .u32 (((a + y + c) % 4294967296:Nat):Int))):=by
 have h1:=Own.fX (j:=i + k) (x:=(a + y + c) % 4294967296) aH
 rw [Gr lz hD (by omega)] at h1
 have e1:aq (ys.take (k + 1))=aq (ys.take k) + 4294967296 ^ k * y:=by rw [aY,hy]
 have e2:aq (A.take (k + 1))=aq (A.take k) + 4294967296 ^ k * a:=by rw [aY,List.getD,ha];rfl
 refine ⟨k + 1,(a + y + c) / 4294967296,D++[(a + y + c) % 4294967296],by omega,rfl,rfl,by omega,by simp [hD],wK.append (cd.cons (Nat.mod_lt _ (by omega)) cd.nil),?_,h1,mK hg⟩
 rw [dC,hD,e1,e2,Nat.pow_succ]
 exact BG _ _ a y c _ _ _ hv rfl
def TookAt (w w':World) (B g N cap:Nat) (pre A post ys:List Nat) (q q':Nat):Prop:=
 ∃ A':List Nat,A'.length=A.length∧cd A'∧aq A' + q' * aq ys=aq A∧(q * aq ys≤aq A∧q'=q∨aq A < q * aq ys∧q' + 1=q)∧
   w'.ownsRow B 117 1 (.slice (some ⟨g,0,none⟩) N cap) N (ints .u32 (pre++(A'++post)))∧w.grownBy w' (some g)
set_option maxRecDepth 100000 in
set_option maxHeartbeats 4000000 in
theorem KE (g N cap i L capw n q B:Nat) (pre A post ys:List Nat) (vb:Value) (w:World) (aH:w.ownsRow B 117 1 (.slice (some ⟨g,0,none⟩) N cap) N (ints .u32 (pre++(A++post))))
  (lz:pre.length=i) (hA:A.length=L) (hlA:cd A) (hs:Rd w 1 vb n (ints .u32 ys)) (oc:cd ys) (hne:∀ p c a,vb=.slice p n c→p=some a→a.block≠g) (hL:L=n + 1) (hLc:L≤capw) (hcw:capw≤9223372036854775807)
  (hq:q < 4294967296) (hqb:q * aq ys≤aq A + aq ys):
  Calls Tryz.prog 147 #[.slice (some ⟨g,i,none⟩) L capw,vb,.int .u64 (q:Int)] w fun e w'=>∃ q':Nat,e=.returned (.int .u32 (q':Int))∧TookAt w w' B g N cap pre A post ys q q':=by
 obtain ⟨p,c,rfl,fH,fy,jt⟩:=hs.u32
 have Hs:=Lib.hid hs
 have JU:=Lib.hid hlA
 have HLY:=Lib.hid oc
 have HNE:=Lib.hid hne
 have HO:=Lib.hid aH
 have HA:=Lib.hid hA
 have HP:=Lib.hid lz
 have HY:=Lib.hid jt
 have HQB:=Lib.hid hqb
 have HLL:=Lib.hid hL
 clear hs hlA oc hne aH hA lz jt hqb hL
 refine aN fun R' bt=> ?_
 go_enter Tryz.func147,Tryz.ntmps147
 go_wp2_with fail
 go_loopw [7,8,18] (fun cv bv kv wr=>rD w B g N cap L q pre A post ys cv bv kv wr) (fun _ _ kv _=>L - (intOf kv).toNat)
 case atStart=>exact ⟨0,0,0,[],Nat.zero_le _,rfl,rfl,rfl,by omega,by omega,rfl,cd.nil,by simp [dW],by simp,by simpa using HO.out,ly _ _⟩
 case round=>
  obtain ⟨k,c,r,D,hkL,rfl,rfl,rfl,uT,ic,hD,hlD,hv,hcc,aH,hg⟩:=hrel
  have HD:=Lib.hid hD
  have yW:=Lib.hid hlD
  have HV:=Lib.hid hv
  have HCC:=Lib.hid hcc
  have HOW:=Lib.hid aH
  have HG:=Lib.hid hg
  clear hD hlD hv hcc aH hg
  by_cases Ej:k < L
  ·obtain ⟨a,ha⟩:∃ a,A[k]? =some a:=⟨_,List.getElem?_eq_getElem (by rw [HA.out];exact Ej)⟩
   have ha4:=JU.out.at ha
   have HAK:=Lib.hid ha
   have hlt:i + k < N:=by
    have h1:=HOW.out.1
    have h2:=(List.getElem?_eq_some_iff.1 (vC (post:=post) HP.out HD.out ha)).1
    simp at h1 h2
    omega
   obtain ⟨a',ha',hca,hfa⟩:=Own.gr HOW.out (j:=i + k) hlt
   rw [vC HP.out HD.out ha] at ha'
   obtain rfl:=Option.some.inj ha'
   have Ij:=iY hca
   simp only at Ij
   clear ha ha'
   by_cases sR:k < n
   ·obtain ⟨b2,o2,y,rfl,bn,og,Ex⟩:=(Hs.out.rB HG.out HNE.out).cellAt sR
    have Gn:Hid (ys.getD k 0=y):=by show _=_;rw [List.getD,og];rfl
    have yV:=HLY.out.at og
    clear og
    have m3:q * y≤4294967295 * 4294967295:=Nat.mul_le_mul (by omega) (by omega)
    have m0:0≤(q:Int) * (y:Int):=by rw [←Int.natCast_mul];omega
    have m1:(q:Int) * (y:Int) < 18446744073709551616:=by rw [←Int.natCast_mul];omega
    obtain ⟨P,hP⟩:∃ P,P=q * y + c:=⟨_,rfl⟩
    have hP64:P < 18446744073709551616:=by omega
    have hPi:(q:Int) * (y:Int) + (c:Int)=(P:Int):=by rw [hP];simp
    obtain ⟨lo,Aa⟩:∃ lo,lo=P % 4294967296:=⟨_,rfl⟩
    have hlo4:lo < 4294967296:=by omega
    have hloi:(P:Int) % 4294967296=(lo:Int):=by omega
    obtain ⟨S1,S2,x,r',f1,f2,f3,f4,f5,f6,f7,f8,f9⟩:=Ca ha4 hlo4 ic
    have HF7:=Lib.hid f7
    have HPE:=Lib.hid hP
    have HLO:=Lib.hid Aa
    clear m3 hP Aa f7
    go_wp2_with fail
    go_roundw
    case rel=>exact rD.step Ej HA.out HP.out HD.out yW.out HV.out HCC.out HOW.out HG.out Gn.out HAK.out HPE.out hP64 f6 f5 (by rw [←HLO.out];exact HF7.out) rfl (by simp) rfl
    case measure=>simp [intOf];omega
   ·have Gn:Hid (ys.getD k 0=0):=by show _=_;rw [List.getD,List.getElem?_eq_none (by rw [HY.out];omega)];rfl
    obtain ⟨S1,S2,x,r',f1,f2,f3,f4,f5,f6,f7,f8,f9⟩:=Ca ha4 uT ic
    have HF7:=Lib.hid f7
    clear f7
    go_wp2_with fail
    go_roundw
    case rel=>exact rD.step Ej HA.out HP.out HD.out yW.out HV.out HCC.out HOW.out HG.out Gn.out HAK.out (P:=c) (by simp) (by omega) f6 f5 (by rw [Nat.mod_eq_of_lt uT];exact HF7.out) rfl (by first | rfl | (simp;omega) | omega) rfl
    case measure=>simp [intOf];omega
  ·obtain rfl:k=L:=by omega
   have hpow:q * aq ys < 4294967296 ^ k:=by
    have h1:=iX HLY.out
    rw [HY.out] at h1
    have h2:q * aq ys≤4294967295 * aq ys:=Nat.mul_le_mul_right _ (by omega)
    have h3:4294967296 ^ k=4294967296 ^ n * 4294967296:=by rw [HLL.out,Nat.pow_succ]
    omega
   have hyt:aq (ys.take k)=aq ys:=bm (by rw [HY.out,HLL.out];omega)
   have yp:aq (A.take k)=aq A:=bm (by rw [HA.out];omega)
   have hv:=HV.out
   have hcc:=HCC.out
   rw [hyt] at hv hcc
   rw [yp] at hv
   have hDl:=iX yW.out
   rw [HD.out] at hDl
   obtain rfl:c=0:=by
    rcases Nat.eq_zero_or_pos c with h | h
    ·exact h
    ·have:4294967296 ^ k * 1≤4294967296 ^ k * c:=Nat.mul_le_mul_left _ h
     omega
   rw [Nat.zero_add] at hv
   have HV2:=Lib.hid hv
   have HPW:=Lib.hid hpow
   have EG:=Lib.hid hDl
   have hOW:=HOW.out
   rw [List.drop_of_length_le (by rw [HA.out];omega),List.nil_append] at hOW
   have HOW2:=Lib.hid hOW
   clear hv hcc hpow hyt yp hDl hOW HOW HCC HV
   rcases (show r=0∨r=1 by omega) with rfl | rfl
   ·go_wp2_with fail
    refine bt.out _ _ ⟨q,?_,D,by rw [HD.out,HA.out],yW.out,by have:=HV2.out;omega,.inl ⟨by have:=HV2.out;omega,rfl⟩,HOW2.out,HG.out⟩
    first | rfl | exact lR (by omega)
   ·have hq1:1≤q:=by
     rcases Nat.eq_zero_or_pos q with h | h
     ·have h1:=HV2.out;have h2:=EG.out;rw [h,Nat.zero_mul] at h1;omega
     ·exact h
    go_wp2_with fail
    rw [show ((0:Nat):Int)=0 from rfl,show ((1:Nat):Int)=1 from rfl]
    obtain ⟨wo,rfl⟩:∃ wo:World,wo=wr:=⟨_,rfl⟩
    go_loopw [13,62] (fun cv kv wr'=>rE wo B g N cap k pre D post ys cv kv wr') (fun _ kv _=>k - (intOf kv).toNat)
    case atStart=>exact ⟨0,0,[],Nat.zero_le _,rfl,rfl,by omega,rfl,cd.nil,by simp [dW],by simpa using HOW2.out,ly _ _⟩
    case round=>
     obtain ⟨l,c,E,hlk,rfl,rfl,jh,hE,hlE,hvE,aH,hg⟩:=hrel
     have HE:=Lib.hid hE
     have HLE:=Lib.hid hlE
     have HVE:=Lib.hid hvE
     have HOW:=Lib.hid aH
     have HG2:=Lib.hid hg
     clear hE hlE hvE aH hg
     by_cases hlt:l < k
     ·obtain ⟨a,ha⟩:∃ a,D[l]? =some a:=⟨_,List.getElem?_eq_getElem (by rw [HD.out];exact hlt)⟩
      have ha4:=yW.out.at ha
      have HAK:=Lib.hid ha
      have hlN:i + l < N:=by
       have h1:=HOW.out.1
       have h2:=(List.getElem?_eq_some_iff.1 (vC (post:=post) HP.out HE.out ha)).1
       simp at h1 h2
       omega
      obtain ⟨a',ha',hca,hfa⟩:=Own.gr HOW.out (j:=i + l) hlN
      rw [vC HP.out HE.out ha] at ha'
      obtain rfl:=Option.some.inj ha'
      have Ij:=iY hca
      simp only at Ij
      clear ha ha'
      by_cases Ew:l < n
      ·obtain ⟨b2,o2,y,rfl,bn,og,Ex⟩:=((Hs.out.rB HG.out HNE.out).rB HG2.out HNE.out).cellAt Ew
       have Gn:Hid (ys.getD l 0=y):=by show _=_;rw [List.getD,og];rfl
       have yV:=HLY.out.at og
       clear og
       go_wp2_with fail
       refine (lS a y c _ ha4 yV (by omega)).mono ?_
       rintro e w2 ⟨rfl,rfl⟩
       go_wp2_with fail
       go_roundw
       case rel=>exact rE.step hlt HD.out HP.out HE.out HLE.out jh HVE.out HOW.out HG2.out Gn.out HAK.out ha4 yV
       case measure=>simp [intOf];omega
      ·have Gn:Hid (ys.getD l 0=0):=by show _=_;rw [List.getD,List.getElem?_eq_none (by rw [HY.out];omega)];rfl
       go_wp2_with fail
       refine (lS a 0 c _ ha4 (by omega) (by omega)).mono ?_
       rintro e w2 ⟨rfl,rfl⟩
       go_wp2_with fail
       go_roundw
       case rel=>exact rE.step hlt HD.out HP.out HE.out HLE.out jh HVE.out HOW.out HG2.out Gn.out HAK.out ha4 (by omega)
       case measure=>simp [intOf];omega
     ·obtain rfl:l=k:=by omega
      have hve:=HVE.out
      rw [bm (by rw [HD.out];omega),bm (by rw [HY.out,HLL.out];omega)] at hve
      have hEl:=iX HLE.out
      rw [HE.out] at hEl
      have hOW:=HOW.out
      rw [List.drop_of_length_le (by rw [HD.out];omega),List.nil_append] at hOW
      have hv2:=HV2.out
      have hqb:=HQB.out
      obtain ⟨m,rfl⟩:∃ m,q=m + 1:=⟨q - 1,by omega⟩
      rw [Nat.add_mul,Nat.one_mul] at hv2 hqb
      have hfin:aq E + m * aq ys=aq A:=by
       rcases (show c=0∨c=1 by omega) with rfl | rfl
       ·omega
       ·omega
      have KF:aq A < (m + 1) * aq ys:=by
       rw [Nat.add_mul,Nat.one_mul]
       have:=EG.out
       omega
      have HFIN:=Lib.hid hfin
      have HLT2:=Lib.hid KF
      have HOW3:=Lib.hid hOW
      clear hve hEl hOW hv2 hqb hfin KF
      have hm:((m + 1:Nat):Int) - 1=(m:Int):=by omega
      go_wp2_with fail
      refine bt.out _ _ ⟨m,?_,E,by rw [HE.out,HA.out],HLE.out,HFIN.out,.inr ⟨HLT2.out,rfl⟩,HOW3.out,yw HG.out HG2.out⟩
      first | rfl | exact lR (by omega)
end Go.Proofs.YtabalinjfgcfeaaGreat
namespace Go.Proofs.YtabalinjfgcfeaaGreat
theorem getD_some {xs:List Nat} {k x:Nat} (h:xs[k]? =some x):xs.getD k 0=x:=by rw [List.getD,h];rfl
theorem Ir {A:List Nat} {m a0 a1 a2:Nat} (hl:A.length=m + 3) (h0:A[m]? =some a0) (h1:A[m + 1]? =some a1) (h2:A[m + 2]? =some a2):
  aq A=((a2 * 4294967296 + a1) * 4294967296 + a0) * 4294967296 ^ m + aq (A.take m):=by
 have e0:=aY A m
 have e1:=aY A (m + 1)
 have e2:=aY A (m + 2)
 rw [getD_some h0] at e0
 rw [getD_some h1,e0,Nat.pow_succ] at e1
 rw [getD_some h2,e1,Nat.pow_succ,Nat.pow_succ,bm (by omega)] at e2
 rw [e2]
 generalize 4294967296 ^ m=p
 rw [Nat.add_mul,Nat.add_mul,Nat.add_mul]
 rw [show a2 * 4294967296 * 4294967296 * p=p * 4294967296 * 4294967296 * a2 by ac_rfl]
 rw [show a1 * 4294967296 * p=p * 4294967296 * a1 by rw [Nat.mul_comm p,Nat.mul_comm _ a1,Nat.mul_assoc]]
 rw [Nat.mul_comm a0 p]
 omega
theorem top_two {Y:List Nat} {m v1 v2:Nat} (hl:Y.length=m + 2) (h2:Y[m]? =some v2) (h1:Y[m + 1]? =some v1):aq Y=(v1 * 4294967296 + v2) * 4294967296 ^ m + aq (Y.take m):=by
 have e0:=aY Y m
 have e1:=aY Y (m + 1)
 rw [getD_some h2] at e0
 rw [getD_some h1,e0,Nat.pow_succ,bm (by omega)] at e1
 rw [e1]
 generalize 4294967296 ^ m=p
 rw [Nat.add_mul]
 rw [show v1 * 4294967296 * p=p * 4294967296 * v1 by rw [Nat.mul_comm p,Nat.mul_comm _ v1,Nat.mul_assoc]]
 rw [Nat.mul_comm v2 p]
 omega
theorem oi {xs:List Nat} (h:cd xs) {m:Nat} (hm:m≤xs.length):aq (xs.take m) < 4294967296 ^ m:=by
 have:=iX (h.take m)
 rwa [List.length_take,Nat.min_eq_left hm] at this
structure Window (us ys:List Nat) (i m b hi mid low v1 v2:Nat) (A post:List Nat):Prop where
 split:us=us.take i++(A++post)
 pre:(us.take i).length=i
 len:A.length=m + 3
 lim:cd A
 zero:aq post=0
 lt:aq A < 4294967296 * b
 hi_le:hi≤v1
 near:aq A / b≤gH ((hi * 4294967296 + mid) * 4294967296 + low) (v1 * 4294967296 + v2)∧gH ((hi * 4294967296 + mid) * 4294967296 + low) (v1 * 4294967296 + v2)≤aq A / b + 1
theorem Iu {us ys:List Nat} {i m b hi mid low v1 v2 N:Nat} (hN:us.length=N) (hlt:i + (m + 2) < N) (hu:cd us) (hy:cd ys) (jt:ys.length=m + 2) (hb:aq ys=b) (hd:aq (us.drop (i + 1)) < b)
  (h1:us[i + (m + 2)]? =some hi) (h2:us[i + (m + 1)]? =some mid) (h3:us[i + m]? =some low) (h4:ys[m + 1]? =some v1) (h5:ys[m]? =some v2) (Bu:0 < v1):
  Window us ys i m b hi mid low v1 v2 ((us.drop i).take (m + 3)) (us.drop (i + (m + 3))):=by
 have hA:((us.drop i).take (m + 3)).length=m + 3:=by rw [List.length_take,List.length_drop];omega
 have hlA:cd ((us.drop i).take (m + 3)):=(hu.drop i).take _
 have hsp:us.drop i=(us.drop i).take (m + 3)++us.drop (i + (m + 3)):=by
  rw [←List.drop_drop];exact (List.take_append_drop _ _).symm
 have g0:((us.drop i).take (m + 3))[m]? =some low:=by rw [List.getElem?_take,if_pos (by omega),List.getElem?_drop];exact h3
 have g1:((us.drop i).take (m + 3))[m + 1]? =some mid:=by rw [List.getElem?_take,if_pos (by omega),List.getElem?_drop];exact h2
 have g2:((us.drop i).take (m + 3))[m + 2]? =some hi:=by rw [List.getElem?_take,if_pos (by omega),List.getElem?_drop];exact h1
 have hyp:b < 4294967296 ^ (m + 2):=by rw [←hb,←jt];exact iX hy
 have hz:aq (us.drop (i + (m + 3)))=0:=by
  have e:=wG (xs:=us.drop (i + 1)) (m + 2) (by rw [List.length_drop];omega)
  rw [List.drop_drop,show i + 1 + (m + 2)=i + (m + 3) by omega] at e
  rcases Nat.eq_zero_or_pos (aq (us.drop (i + (m + 3)))) with h | h
  ·exact h
  ·have:4294967296 ^ (m + 2) * 1≤4294967296 ^ (m + 2) * aq (us.drop (i + (m + 3))):=Nat.mul_le_mul_left _ h
   omega
 have hAv:aq (us.drop i)=aq ((us.drop i).take (m + 3)):=by
  conv=>lhs;rw [hsp]
  rw [dX,hz,Nat.mul_zero,Nat.add_zero]
 obtain ⟨u0,hu0⟩:∃ u0,us[i]? =some u0:=⟨_,List.getElem?_eq_getElem (by omega)⟩
 have hu04:=hu.at hu0
 have KG:aq ((us.drop i).take (m + 3)) < 4294967296 * b:=by
  rw [←hAv,qi hu0]
  omega
 have eA:=Ir hA g0 g1 g2
 have eY:=top_two jt h5 h4
 rw [hb] at eY
 have lA:=oi hlA (m:=m) (by omega)
 have lY:=oi hy (m:=m) (by omega)
 have hp:0 < 4294967296 ^ m:=Nat.pow_pos (by omega)
 refine ⟨?_,by rw [List.length_take];omega,hA,hlA,hz,KG,?_,EC hp eA lA eY lY (by omega) KG⟩
 ·rw [←hsp];exact (List.take_append_drop _ _).symm
 ·-- hi≤v1
  rcases Nat.lt_or_ge v1 hi with h | h
  ·have k1:aq (us.drop (i + 1))=aq ((us.drop (i + 1)).take (m + 1)) + 4294967296 ^ (m + 1) * aq ((us.drop (i + 1)).drop (m + 1)):=wG _ (by rw [List.length_drop];omega)
   rw [List.drop_drop,show i + 1 + (m + 1)=i + (m + 2) by omega,qi h1] at k1
   have hv2:=hy.at h5
   have k2:4294967296 ^ (m + 1) * hi≤aq (us.drop (i + 1)):=by
    rw [k1,Nat.mul_add];omega
   have k3:b < 4294967296 ^ (m + 1) * (v1 + 1):=by
    rw [eY,Nat.pow_succ]
    have k4:(v1 * 4294967296 + v2 + 1) * 4294967296 ^ m≤((v1 + 1) * 4294967296) * 4294967296 ^ m:=Nat.mul_le_mul_right _ (by omega)
    rw [show 4294967296 ^ m * 4294967296 * (v1 + 1)=((v1 + 1) * 4294967296) * 4294967296 ^ m by rw [Nat.mul_comm,Nat.mul_comm (4294967296 ^ m),Nat.mul_assoc]]
    rw [Nat.add_mul,Nat.one_mul] at k4
    omega
   have k5:4294967296 ^ (m + 1) * (v1 + 1)≤4294967296 ^ (m + 1) * hi:=Nat.mul_le_mul_left _ h
   omega
  ·exact h
theorem EH {u b q q' r:Nat} (hb:0 < b) (h1:u / b≤q) (h2:q≤u / b + 1) (hv:r + q' * b=u) (h:q * b≤u∧q'=q∨u < q * b∧q' + 1=q):q'=u / b∧r < b:=by
 have hq:q'=u / b:=by
  rcases h with ⟨h3,rfl⟩ | ⟨h3,h4⟩
  ·have:=(Nat.le_div_iff_mul_le hb).2 h3;omega
  ·have:¬ q≤u / b:=fun hc=>by have:=(Nat.le_div_iff_mul_le hb).1 hc;omega
   omega
 refine ⟨hq,?_⟩
 have e:=Nat.div_add_mod u b
 have m:=Nat.mod_lt u hb
 rw [Nat.mul_comm,←hq] at e
 omega
theorem Cc {u b q:Nat} (h:q≤u / b + 1):q * b≤u + b:=by
 have h1:q * b≤(u / b + 1) * b:=Nat.mul_le_mul_right _ h
 have h2:=Nat.div_mul_le_self u b
 rw [Nat.add_mul,Nat.one_mul] at h1
 omega
theorem EI {us pre A A' post qs:List Nat} {i b q' a:Nat} (hsp:us=pre++(A++post)) (lz:pre.length=i) (hz:aq post=0) (hv:aq A' + q' * b=aq A) (hlt:aq A' < b)
  (ha:aq us + 4294967296 ^ (i + 1) * (b * aq qs)=a):
  aq ((pre++(A'++post)).drop i) < b∧aq (pre++(A'++post)) + 4294967296 ^ i * (b * aq (q'::qs))=a:=by
 subst hsp
 constructor
 ·rw [List.drop_append_of_le_length (by omega),List.drop_of_length_le (by omega),List.nil_append,dX,hz,Nat.mul_zero,Nat.add_zero];exact hlt
 ·rw [dX,dX,hz,Nat.mul_zero,Nat.add_zero] at ha
  rw [dX,dX,hz,Nat.mul_zero,Nat.add_zero,fi,←ha,←hv,lz,Nat.mul_add b,Nat.mul_add,Nat.mul_add,Nat.pow_succ]
  rw [Nat.mul_comm q' b,show 4294967296 ^ i * (b * (4294967296 * aq qs))=4294967296 ^ i * 4294967296 * (b * aq qs) by rw [Nat.mul_assoc,Nat.mul_left_comm b]]
  omega
theorem Ak {qs:List Nat} {k x:Nat}:(List.replicate (k + 1) 0++qs).set k x=List.replicate k 0++x::qs:=by
 rw [List.replicate_succ',List.append_assoc,List.set_append_right _ _ (by simp),List.length_replicate,Nat.sub_self];rfl
theorem Ce {b t u:Nat} (hb:b≠0) (ht:(limbs b)[(limbs b).length - 1]? =some t) (hu:u < 32) (htu:t * 2 ^ u < 4294967296):(limbs (b * 2 ^ u)).length=(limbs b).length:=by
 have hn:=dc hb
 have hp:0 < 2 ^ u:=Nat.pow_pos (by omega)
 refine Nat.le_antisymm (jv _ _ ?_) (cw (Nat.le_mul_of_pos_right _ hp))
 obtain ⟨n,hl⟩:∃ n,(limbs b).length=n + 1:=⟨(limbs b).length - 1,by omega⟩
 rw [hl] at ht ⊢
 simp only [Nat.add_sub_cancel] at ht
 have e:=aY (limbs b) n
 rw [getD_some ht,bm (by omega),au] at e
 have l:=oi (az b) (m:=n) (by omega)
 have h1:b < 4294967296 ^ n * (t + 1):=by rw [Nat.mul_add];omega
 have h2:(t + 1) * 2 ^ u≤4294967296:=by
  have h3:4294967296=2 ^ u * 2 ^ (32 - u):=by rw [←Nat.pow_add,show u + (32 - u)=32 by omega]
  rw [h3,Nat.mul_comm t] at htu
  have h4:=Nat.lt_of_mul_lt_mul_left htu
  rw [Nat.mul_comm]
  calc 2 ^ u * (t + 1)≤2 ^ u * 2 ^ (32 - u):=Nat.mul_le_mul_left _ h4
   _=4294967296:=h3.symm
 have h5:b * 2 ^ u < 4294967296 ^ n * (t + 1) * 2 ^ u:=Nat.mul_lt_mul_of_pos_right h1 hp
 have h6:4294967296 ^ n * (t + 1) * 2 ^ u≤4294967296 ^ n * 4294967296:=by rw [Nat.mul_assoc];exact Nat.mul_le_mul_left _ h2
 rw [Nat.pow_succ]
 omega
theorem Iv {a b u:Nat}:(a * 2 ^ u) / (b * 2 ^ u)=a / b:=Nat.mul_div_mul_right a b (Nat.pow_pos (by omega))
theorem Iw {a b u:Nat}:(a * 2 ^ u) % (b * 2 ^ u)=(a % b) * 2 ^ u:=Nat.mul_mod_mul_right (2 ^ u) a b
end Go.Proofs.YtabalinjfgcfeaaGreat
namespace Go.Proofs.YtabalinjfgcfeaaGreat
open Go.RowKit
def Divided (w w':World) (a b:Nat) (e:Ending):Prop:=
 (b=0∧e=.returned (.tuple #[.slice none 0 0,.slice none 0 0,.int .i64 20]))∨
 (b≠0∧∃ vq vr,e=.returned (.tuple #[vq,vr,.int .i64 0])∧w'.ownsRow w.heap.size 117 1 vq (limbs (a / b)).length (ints .u32 (limbs (a / b)))∧w'.ownsRow w.heap.size 117 1 vr (limbs (a % b)).length (ints .u32 (limbs (a % b))))
def KH (w:World) (B N cap n m b a ga:Nat) (vy vq:Value) (iv:Value) (wr:World):Prop:=
 ∃ (k:Nat) (us qs:List Nat),k≤m∧iv=.int .i64 ((k:Int) - 1)∧us.length=N∧cd us∧aq (us.drop k) < b∧qs.length=m - k∧cd qs∧aq us + 4294967296 ^ k * (b * aq qs)=a∧
   wr.ownsRow B 117 1 (.slice (some ⟨ga,0,none⟩) N cap) N (ints .u32 us)∧wr.ownsRow B 117 1 vq m (ints .u32 (List.replicate k 0++qs))∧Rd wr 1 vy n (ints .u32 (limbs b))∧Below B w wr
theorem wM {w:World} {g j:Nat} {u:Value}:w.grownBy (w.setCell ⟨g,j,none⟩ u) (some g):=mK (ly _ _)
theorem EJ {P:Program} {f:FuncId} {args:Array Value} {W w:World} {v:Value} (h:Calls P f args W fun e w'=>e=.returned v∧∃ k,w'=W.drewN k) (hW:∃ n,W=w.drewN n):
  Calls P f args W fun e w''=>e=.returned v∧∃ m,w''=w.drewN m:=
 h.mono fun _ _ ⟨he,k,hk⟩=>⟨he,by obtain ⟨n,hn⟩:=hW;exact ⟨n + k,by rw [hk,hn,World.drewN_drewN]⟩⟩
theorem EK {w w':World} (h:w.grownBy w' none):Below w.heap.size w w':=⟨h.os,h.tape,h.output,h.size,fun k hk=>h.block k hk (by simp)⟩
theorem Ix {a b N mq lb:Nat} (hN:N=(limbs a).length + 1) (hm:N=mq + lb) (Eh:(limbs b).length=lb) (hb:b≠0):aq ((limbs a++[0]).drop mq) < b∧aq (limbs a++[0])=a:=by
 have hp:=dc hb
 refine ⟨?_,by rw [dC,Nat.mul_zero,au];rfl⟩
 rw [List.drop_append_of_le_length (by omega),dC,Nat.mul_zero,Nat.add_zero]
 have h1:=iX ((az a).drop mq)
 rw [List.length_drop,show (limbs a).length - mq=(limbs b).length - 1 by omega] at h1
 exact Nat.lt_of_lt_of_le h1 (zZ hb)
set_option maxRecDepth 100000 in
set_option maxHeartbeats 4000000 in
theorem tZ (va vb:Value) (n m:Nat) (xs ys:List Nat) (w:World) (hr:Rd w 1 va n (ints .u32 xs)) (hs:Rd w 1 vb m (ints .u32 ys)) (hx:cd xs) (hy:cd ys) (hn:n≤536870912) (hm:m≤536870912):
  Calls Tryz.prog 135 #[va,vb] w fun e w'=>Divided w w' (aq xs) (aq ys) e∧Below w.heap.size w w':=by
 obtain ⟨p,c,rfl,fH,fy,ew⟩:=hr.u32
 obtain ⟨q,d,rfl,JR,Ev,jt⟩:=hs.u32
 have Hs:=Lib.hid hs
 obtain ⟨B,hB⟩:∃ B,B=w.heap.size:=⟨_,rfl⟩
 have HB:=Lib.hid hB
 obtain ⟨a,ha⟩:∃ a,a=aq xs:=⟨_,rfl⟩
 obtain ⟨b,hb⟩:∃ b,b=aq ys:=⟨_,rfl⟩
 have hal:(limbs a).length≤n:=by rw [ha,←ew];exact ib hx
 have hbl:(limbs b).length≤m:=by rw [hb,←jt];exact ib hy
 refine aN fun R' bt=> ?_
 go_enter Tryz.func135,Tryz.ntmps135
 go_wp2_with fail
 refine (jg _ n xs _ hr hx (by omega)).mono ?_
 rintro e w1 ⟨v1,rfl,fA,aU⟩
 rw [←ha] at fA
 go_wp2_with fail
 refine (jg _ m ys _ (hs.below aU) hy (by omega)).mono ?_
 rintro e w2 ⟨v2,rfl,jX,bn⟩
 rw [←hb] at jX
 rw [←ha,←hb,←hB] at bt
 have qZ:Hid (w2.ownsRow B 117 1 v1 (limbs a).length (ints .u32 (limbs a))):=by show World.ownsRow ..;rw [hB];exact Own.below fA bn
 have nw:Hid (w2.ownsRow B 117 1 v2 (limbs b).length (ints .u32 (limbs b))):=Own.mono jX (by rw [hB];exact aU.size)
 have ud:Hid (Below B w w2):=by show Below ..;rw [hB];exact Below.aI aU bn
 have hBs:B≤w2.heap.size:=by rw [hB];exact ud.out.size
 obtain ⟨p1,c1,rfl,_,hc1m,_⟩:=Own.form qZ.out
 obtain ⟨p2,c2,rfl,_,hc2m,_⟩:=Own.form nw.out
 clear hr hs hx hy fA jX aU bn ew jt ha hb hB Hs
 unfold maxLen at hc1m hc2m
 generalize JV:(limbs a).length=la at *
 generalize Eh:(limbs b).length=lb at *
 have JU:=Lib.hid JV
 have JW:=Lib.hid Eh
 by_cases pd:b=0
 ·obtain rfl:lb=0:=by rw [pd,bB] at Eh;exact Eh.symm
  clear JV Eh
  go_wp2_with fail
  go_ret3
  exact bt.out _ _ ⟨.inl ⟨pd,rfl⟩,ud.out⟩
 ·have hlb0:lb≠0:=fun h=>pd (od (by rw [JW.out];exact h))
  have hz:((lb:Int) == 0)=false:=by rw [beq_eq_false_iff_ne];omega
  have HNZ:=Lib.hid pd
  clear pd JV Eh
  go_wp2_with fail
  refine (Ab _ _ la lb (limbs a) (limbs b) _ (Rd.own qZ.out) (Rd.own nw.out) (az a) (az b)).mono ?_
  rintro e w3 ⟨rfl,k3,rfl⟩
  rw [au,au]
  by_cases vo:a < b
  ·have hc:fW a b < 0:=je.2 vo
   generalize fW a b=cv at hc ⊢
   go_wp2_with fail
   go_ret3
   refine bt.out _ _ ⟨.inr ⟨HNZ.out,_,_,rfl,?_,?_⟩,Below.drewN ud.out _⟩
   ·rw [Nat.div_eq_of_lt vo,bB];exact World.ownsRow_nil _ _ _ _
   ·rw [Nat.mod_eq_of_lt vo,JU.out];exact Own.mono (Own.drewN qZ.out _) (by have:=HB.out;omega)
  ·have hc:0≤fW a b:=by have:=mt (@je a b).1 vo;omega
   generalize fW a b=cv at hc ⊢
   have HAB:=Lib.hid vo
   have Kv:=Lib.hid (Own.drewN qZ.out k3)
   have Iy:=Lib.hid (Own.drewN nw.out k3)
   have JT:=Lib.hid (Below.drewN ud.out k3)
   have KJ:B≤(w2.drewN k3).heap.size:=hBs
   clear qZ nw ud hBs vo
   generalize w2.drewN k3=w3 at *
   by_cases hlb1:lb=1
   ·have HL1:=Lib.hid hlb1
    subst hlb1
    obtain ⟨gb,ob,t,rfl,_,htk,hct⟩:=(Rd.own Iy.out).cellAt (k:=0) (by omega)
    have ht4:=(az b).at htk
    have htb:t=b:=by
     have h1:=aY (limbs b) 0
     rw [getD_some htk,bm (by rw [JW.out];omega),au] at h1
     simp [dW] at h1
     omega
    have HTB:=Lib.hid htb
    rw [Nat.add_zero] at hct
    have Ij:=iY hct
    simp only at Ij
    clear htk htb hz hlb0
    go_wp2_with fail
    refine (ry _ la t (limbs a) _ (Rd.own Kv.out) (az a) (by omega) ht4).mono ?_
    rintro e w4 ⟨⟨h,rfl⟩ | ⟨h,v4,rfl,rF⟩,gI⟩
    ·exact absurd (by rw [←HTB.out];exact h) HNZ.out
    rw [au] at rF ⊢
    have HO5:=Lib.hid (Own.mono rF KJ)
    have KL:=Lib.hid (JT.out.trans (gI.mono KJ))
    have IA:B≤w4.heap.size:=Nat.le_trans KJ gI.size
    have hrt:a % t < 4294967296:=Nat.lt_trans (Nat.mod_lt _ (by omega)) ht4
    obtain ⟨r,hr⟩:∃ r,r=a % t:=⟨_,rfl⟩
    rw [←hr] at hrt ⊢
    have HR:=Lib.hid hr
    clear rF gI hct Ij h hr
    go_wp2_with fail
    refine (jg _ 1 [r] _ (Rd.lit1 rfl) (cd.cons hrt cd.nil) (by omega)).mono ?_
    rintro e w5 ⟨v5,rfl,wQ,hbx⟩
    have fY:Below w4.heap.size w4 w5:=((Below.refl w4.heap.size w4).alloc (Nat.le_refl _) (.cells #[.int .u32 (r:Int)] 117)).trans (hbx.mono (by simp))
    rw [show aq [r]=r by simp [fi,dW]] at wQ
    go_wp2_with fail
    go_ret3
    refine bt.out _ _ ⟨.inr ⟨HNZ.out,_,_,rfl,?_,?_⟩,KL.out.trans (fY.mono IA)⟩
    ·rw [←HTB.out];exact Own.mono (Own.below HO5.out fY) (by have:=HB.out;omega)
    ·rw [←HTB.out,←HR.out];exact Own.mono wQ (by have:=HB.out;simp;omega)
   ·obtain ⟨mm,zb⟩:∃ mm,lb=mm + 2:=⟨lb - 2,by omega⟩
    have HMM:=Lib.hid zb
    have lx:((lb:Int) == 1)=false:=by rw [beq_eq_false_iff_ne];omega
    obtain ⟨l1,yv⟩:∃ l1,lb=l1 + 1:=⟨lb - 1,by omega⟩
    have HL1:=Lib.hid yv
    have hwl1:IntKind.i64.wrap ((lb:Int) - 1)=(l1:Int):=by rw [IntWalk.i64_in _ (by omega)];omega
    obtain ⟨gb,ob,t,rfl,_,htk,hct⟩:=(Rd.own Iy.out).cellAt (k:=l1) (by omega)
    have ht4:=(az b).at htk
    have Ij:=iY hct
    simp only at Ij
    have htk2:(limbs b)[(limbs b).length - 1]? =some t:=by rw [JW.out,HL1.out];exact htk
    have ht0:=(BI htk2).2
    have HTK:=Lib.hid htk2
    have hl1lt:(l1:Int) < (lb:Int):=by omega
    clear htk htk2 hlb1 zb yv
    go_wp2_with fail
    refine (BQ t _ ht4 ht0).mono ?_
    rintro e w4 ⟨⟨u,rfl,hu32,htu⟩,rfl⟩
    go_wp2_with fail
    refine (tc _ lb b (u:Int) (limbs b) _ (Rd.own Iy.out) (az b) (au b) (by omega) (by omega) (by omega)).mono ?_
    rintro e w4 ⟨⟨_,h,_⟩ | ⟨_,v4,rfl,rF⟩,gI⟩
    ·omega
    have es:gj b (u:Int)=b * 2 ^ u:=by unfold gj;rw [if_pos (by omega),Int.toNat_natCast]
    rw [es] at rF
    have Gs:(limbs (b * 2 ^ u)).length=lb:=by rw [Ce HNZ.out HTK.out hu32 htu];exact JW.out
    have lN:b * 2 ^ u≠0:=Nat.mul_ne_zero HNZ.out (Nat.pos_iff_ne_zero.1 (Nat.pow_pos (by omega)))
    have hle4:b * 2 ^ u≤a * 2 ^ u:=Nat.mul_le_mul_right _ (by have:=HAB.out;omega)
    have HDV:=Lib.hid (Iv (a:=a) (b:=b) (u:=u))
    have HMD:=Lib.hid (Iw (a:=a) (b:=b) (u:=u))
    have hla5:=tX a u hu32
    rw [JU.out] at hla5
    have HES:Hid (gj ((a % b) * 2 ^ u) (-(u:Int))=a % b):=by
     show _=_
     unfold gj
     by_cases h0:u=0
     ·subst h0;simp
     ·rw [if_neg (by omega),Int.neg_neg,Int.toNat_natCast,Nat.mul_div_cancel _ (Nat.pow_pos (by omega))]
    have HES2:Hid (gj a (u:Int)=a * 2 ^ u):=by show _=_;unfold gj;rw [if_pos (by omega),Int.toNat_natCast]
    generalize yn:b * 2 ^ u=b' at *
    generalize ha':a * 2 ^ u=a' at *
    rw [Gs] at rF
    have hlb5:lb≤(limbs a').length:=by rw [←Gs];exact cw hle4
    obtain ⟨gy,cy,rfl,hgy3,hgy4⟩:=Own.vu rF (by omega)
    have HY4:=Lib.hid rF
    have KL:=Lib.hid (JT.out.trans (gI.mono KJ))
    have IA:B≤w4.heap.size:=Nat.le_trans KJ gI.size
    have HA4:=Lib.hid (Own.below Kv.out gI)
    have Cf:=Lib.hid Gs
    clear rF gI htu ht0 ht4 hct Ij Gs hle4 es HTK Kv Iy
    go_wp2_with fail
    refine (tc _ la a (u:Int) (limbs a) _ (Rd.own HA4.out) (az a) (au a) (by omega) (by omega) (by omega)).mono ?_
    rintro e w5 ⟨⟨_,h,_⟩ | ⟨_,v5,rfl,wQ⟩,fY⟩
    ·omega
    rw [HES2.out] at wQ
    generalize hl5:(limbs a').length=la' at *
    have HL5:=Lib.hid hl5
    have HA5:=Lib.hid wQ
    have HY5:=Lib.hid (Own.below HY4.out fY)
    have HB5:=Lib.hid (KL.out.trans (fY.mono IA))
    have hs5:=fY.size
    have KM:=Lib.hid fY
    obtain ⟨p5,c5,rfl,_,_,_⟩:=Own.form wQ
    obtain ⟨N,hN⟩:∃ N,N=la' + 1:=⟨_,rfl⟩
    have HNN:=Lib.hid hN
    obtain ⟨mq,hmq⟩:∃ mq,N=mq + lb:=⟨N - lb,by omega⟩
    have HMQ:=Lib.hid hmq
    have hmq0:0 < mq:=by omega
    have hwm:IntKind.i64.wrap ((N:Int) - (lb:Int))=(mq:Int):=by rw [IntWalk.i64_in _ (by omega)];omega
    obtain ⟨i0,hi,lp,lx,lT⟩:=info_parts iZ
    have hN30:N≤1073741824:=by omega
    have hla30:la'≤1073741824:=by omega
    have hmq30:mq≤1073741824:=by omega
    clear wQ fY hl5 hmq HA4 hN
    go_wp2_with (first
     | (at_builtin;refine dm rfl _ _ 22 rfl w4.heap.size 117 i0 (.int .u32 0) 4 Tryz.underlying22 hi lp lx lT rfl HA5.out rfl rfl (d:=0) rfl (by omega) (by omega) hs5 ?_;intro v6 w6 Gt EL;rw [←HNN.out] at Gt;obtain ⟨ga,ca,rfl,hga5,hga6⟩:=Own.vu Gt (by have:=HNN.out;omega))
     | (at_make;refine wpList_make_full _ rfl _ _ 22 rfl B 117 i0 (.int .u32 0) 1 Tryz.underlying22 hi lp lx .i64 .i64 _ _ mq rfl rfl (by have:=HMQ.out;omega) (by have:=HMQ.out;omega) (by rw [lT];have:=HMQ.out;omega) (by unfold maxLen;have:=HMQ.out;omega) (by have:=(EL w4 KM.out).size;omega) ?_;intro w7 hown7 hgr7))
    obtain ⟨gq,hgq⟩:∃ gq,gq=w6.heap.size:=⟨_,rfl⟩
    have KN:=EL w4 KM.out
    have hb67:=EK hgr7
    have Gu:=Own.made hown7
    rw [List.nil_append] at Gu
    rw [←hgq] at Gu ⊢
    have hne1:ga≠gq:=by omega
    have hne2:gy≠ga:=by omega
    have hne3:gy≠gq:=by have:=KN.size;omega
    have HA7:Hid (w7.ownsRow B 117 1 (.slice (some ⟨ga,0,none⟩) N ca) N (ints .u32 (limbs a'++[0]))):=Own.mono (Own.below Gt hb67) IA
    have HQ7:=Lib.hid Gu
    have HY7:Hid (Rd w7 1 (.slice (some ⟨gy,0,none⟩) lb cy) lb (ints .u32 (limbs b'))):=(Rd.own (Own.below HY4.out KN)).below hb67
    have HB7:Hid (Below B w w7):=(KL.out.trans (KN.mono IA)).trans (hb67.mono (Nat.le_trans IA KN.size))
    have HST:=Lib.hid (Ix (N:=N) (mq:=mq) (lb:=lb) (a:=a') (b:=b') (by rw [HL5.out];exact HNN.out) HMQ.out Cf.out lN)
    clear Gt hown7 hgr7 EL KN hb67 Gu hgq HA5 HY5 HY4 HB5 KL KM hi lp lx lT
    go_loopw [12] (fun iv wr=>KH w B N ca lb mq b' a' ga (.slice (some ⟨gy,0,none⟩) lb cy) (.slice (some ⟨gq,0,none⟩) mq mq) iv wr) (fun iv _=>(intOf iv + 1).toNat)
    case atStart=>exact ⟨mq,_,[],Nat.le_refl _,rfl,by rw [List.length_append,HL5.out,HNN.out];rfl,(az a').append (cd.cons (by omega) cd.nil),HST.out.1,by simp,cd.nil,by rw [HST.out.2];simp [dW],HA7.out,by simpa using HQ7.out,HY7.out,HB7.out⟩
    case round=>
     obtain ⟨k,us,qs,Ez,rfl,EM,hulim,BL,Al,hqlim,hval,hoa,Cg,hry,jP⟩:=hrel
     have HUL:=Lib.hid EM
     have wR:=Lib.hid hulim
     have HDROP:=Lib.hid BL
     have HQL:=Lib.hid Al
     have HQLIM:=Lib.hid hqlim
     have HVAL:=Lib.hid hval
     have HOA:=Lib.hid hoa
     have HOQ:=Lib.hid Cg
     have HRY:=Lib.hid hry
     have gC:=Lib.hid jP
     clear EM hulim BL Al hqlim hval hoa Cg hry jP
     by_cases yu:k=0
     ·subst yu
      have hv:=HVAL.out
      have hd:=HDROP.out
      rw [List.drop_zero] at hd
      rw [Nat.pow_zero,Nat.one_mul] at hv
      have hq1:aq qs=a / b:=by
       rw [←HDV.out,←hv,Nat.add_mul_div_left _ _ (by omega),Nat.div_eq_of_lt hd,Nat.zero_add]
      have ic:aq us=(a % b) * 2 ^ u:=by
       rw [←HMD.out,←hv,Nat.add_mul_mod_self_left,Nat.mod_eq_of_lt hd]
      have HQ1:=Lib.hid hq1
      have HR1:=Lib.hid ic
      have hBr:B≤w.heap.size:=by have:=HB.out;omega
      have hBw:=gC.out.size
      clear hv hd hq1 ic
      go_wp2_with fail
      refine (tc _ N ((a % b) * 2 ^ u) (-(u:Int)) us _ (Rd.own HOA.out) wR.out HR1.out (by omega) (by omega) (by omega)).mono ?_
      rintro e w8 ⟨⟨_,h,_⟩ | ⟨_,v8,rfl,zc⟩,re⟩
      ·omega
      rw [HES.out] at zc
      have HO8:=Lib.hid (Own.mono zc (Nat.le_trans hBr hBw))
      have HB8:=Lib.hid (gC.out.trans (re.mono (Nat.le_trans hBr hBw)))
      have hq8:=Own.below HOQ.out re
      rw [List.replicate_zero,List.nil_append] at hq8
      have HQ8:=Lib.hid hq8
      have hs8:=re.size
      clear zc re hq8
      go_wp2_with fail
      refine (jg _ mq qs _ (Rd.own HQ8.out) HQLIM.out (by omega)).mono ?_
      rintro e w9 ⟨v9,rfl,hown9,Gv⟩
      rw [HQ1.out] at hown9
      go_wp2_with fail
      go_ret3
      refine bt.out _ _ ⟨.inr ⟨HNZ.out,_,_,rfl,?_,?_⟩,HB8.out.trans (Gv.mono (by omega))⟩
      ·exact Own.mono hown9 (by omega)
      ·exact Own.mono (Own.below HO8.out Gv) (by have:=HB.out;omega)
     ·obtain ⟨i,hi⟩:∃ i,k=i + 1:=⟨k - 1,by omega⟩
      subst hi
      have hjj:((i + 1:Nat):Int) - 1=(i:Int):=by omega
      rw [hjj]
      have hmq:=HMQ.out
      have zb:=HMM.out
      have yv:=HL1.out
      obtain ⟨hi,h1⟩:∃ hi,us[i + (mm + 2)]? =some hi:=⟨_,List.getElem?_eq_getElem (by rw [HUL.out];omega)⟩
      obtain ⟨mid,h2⟩:∃ mid,us[i + (mm + 1)]? =some mid:=⟨_,List.getElem?_eq_getElem (by rw [HUL.out];omega)⟩
      obtain ⟨low,h3⟩:∃ low,us[i + mm]? =some low:=⟨_,List.getElem?_eq_getElem (by rw [HUL.out];omega)⟩
      obtain ⟨v1,h4⟩:∃ v1,(limbs b')[mm + 1]? =some v1:=⟨_,List.getElem?_eq_getElem (by rw [Cf.out];omega)⟩
      obtain ⟨v2,h5⟩:∃ v2,(limbs b')[mm]? =some v2:=⟨_,List.getElem?_eq_getElem (by rw [Cf.out];omega)⟩
      have Bu:0 < v1:=Nat.pos_iff_ne_zero.2 (BI (n:=b') (t:=v1) (by rw [Cf.out,show lb - 1=mm + 1 by omega];exact h4)).2
      have hwin:=Iu (m:=mm) HUL.out (by omega) wR.out (az b') (by rw [Cf.out];exact zb) (au b') HDROP.out h1 h2 h3 h4 h5 Bu
      have Am:=Lib.hid hwin
      have hhi:=hwin.hi_le
      have z1:=wR.out.at h1
      have z2:=wR.out.at h2
      have z3:=wR.out.at h3
      have z4:=(az b').at h4
      have z5:=(az b').at h5
      obtain ⟨x1,e1,c1',f1⟩:=Own.gr HOA.out (j:=i + (mm + 2)) (by omega)
      obtain ⟨x2,e2,c2',f2⟩:=Own.gr HOA.out (j:=i + (mm + 1)) (by omega)
      obtain ⟨x3,e3,nT,f3⟩:=Own.gr HOA.out (j:=i + mm) (by omega)
      rw [h1] at e1;rw [h2] at e2;rw [h3] at e3
      obtain rfl:=Option.some.inj e1
      obtain rfl:=Option.some.inj e2
      obtain rfl:=Option.some.inj e3
      obtain ⟨g4,o4,x4,hp4,hg4,e4,c4'⟩:=HRY.out.cellAt (k:=mm + 1) (by omega)
      obtain ⟨g5,o5,x5,hp5,Ek,e5,c5'⟩:=HRY.out.cellAt (k:=mm) (by omega)
      simp only [Option.some.injEq,Addr.mk.injEq,and_true] at hp4 hp5
      obtain ⟨rfl,rfl⟩:=hp4
      obtain ⟨rfl,hz5⟩:=hp5
      subst hz5
      rw [h4] at e4;rw [h5] at e5
      obtain rfl:=Option.some.inj e4
      obtain rfl:=Option.some.inj e5
      rw [Nat.zero_add] at c4' c5'
      obtain ⟨J0,hJ0⟩:∃ J0,J0=i + (mm + 2):=⟨_,rfl⟩
      obtain ⟨J1,hJ1⟩:∃ J1,J1=i + (mm + 1):=⟨_,rfl⟩
      obtain ⟨J2,hJ2⟩:∃ J2,J2=i + mm:=⟨_,rfl⟩
      rw [←hJ0] at c1' f1;rw [←hJ1] at c2' f2;rw [←hJ2] at nT f3
      rw [show mm + 1=l1 by omega] at c4'
      obtain ⟨J3,hJ3⟩:∃ J3,J3=J0 + 1:=⟨_,rfl⟩
      have hw0:IntKind.i64.wrap ((i:Int) + (lb:Int))=(J0:Int):=by rw [IntWalk.i64_in _ (by omega)];omega
      have vA:IntKind.i64.wrap ((J0:Int) - 1)=(J1:Int):=by rw [IntWalk.i64_in _ (by omega)];omega
      have hw2:IntKind.i64.wrap ((J0:Int) - 2)=(J2:Int):=by rw [IntWalk.i64_in _ (by omega)];omega
      have hw4:IntKind.i64.wrap ((lb:Int) - 2)=(mm:Int):=by rw [IntWalk.i64_in _ (by omega)];omega
      have hw5:IntKind.i64.wrap ((J0:Int) + 1)=(J3:Int):=by rw [IntWalk.i64_in _ (by omega)];omega
      have b0:(J0:Int) < (N:Int):=by omega
      have b1:(J1:Int) < (N:Int):=by omega
      have b2:(J2:Int) < (N:Int):=by omega
      have b3:(l1:Int) < (lb:Int):=by omega
      have b4:(mm:Int) < (lb:Int):=by omega
      have t1:=iY c1'
      have t4:=iY c4'
      simp only at t1 t4
      have HJ0:=Lib.hid hJ0
      have HJ3:=Lib.hid hJ3
      have EE:i < mq:=by omega
      have HCAP:Hid (N≤ca∧ca≤9223372036854775807):=by
       obtain ⟨_,_,hv,hcap,hcapm,_⟩:=Own.form HOA.out
       simp only [Value.slice.injEq,true_and] at hv
       obtain ⟨_,rfl⟩:=hv
       unfold maxLen at hcapm
       exact ⟨hcap,by omega⟩
      clear e1 e2 e3 e4 e5 h1 h2 h3 h4 h5 hwin hJ0 hJ1 hJ2 hJ3 hmq zb yv hg4 Ek
      go_wp2_with fail
      go_quiet ((go_at_call 146;exact EJ (Iq hi mid low v1 v2 _ hhi z2 z3 Bu z4 z5) ⟨_,rfl⟩))
      have hcap:=HCAP.out
      have b5:(J3:Int)≤(ca:Int):=by have:=HJ3.out;omega
      have b6:(i:Int)≤(J3:Int):=by have:=HJ3.out;have:=HJ0.out;omega
      have b7:(i:Int) < (ca:Int):=by have:=HJ3.out;have:=HJ0.out;omega
      have b8:¬ ca - i=0:=by omega
      have b9:ca≠i:=by omega
      clear c1' c2' nT c4' c5' f1 f2 f3 vA hw2 hw4 b1 b2 b3 b4
      go_wp2_with fail
      obtain ⟨G,hG⟩:∃ G,G=gH ((hi * 4294967296 + mid) * 4294967296 + low) (v1 * 4294967296 + v2):=⟨_,rfl⟩
      have Ch:=Am.out.near
      rw [←hG] at Ch ⊢
      have hG4:G≤4294967295:=by rw [hG];exact Nat.min_le_left _ _
      have hoa:=Own.drewN HOA.out nq
      rw [Am.out.split] at hoa
      have hJ:J3 - i=mm + 3:=by have:=HJ3.out;have:=HJ0.out;omega
      refine (KE ga N ca i (J3 - i) (ca - i) lb G B (us.take i) _ _ (limbs b') _ _ hoa Am.out.pre (by rw [Am.out.len,hJ]) Am.out.lim (Rd.drewN HRY.out nq) (az b') (fun p c a h1 h2=>by cases h1;cases h2;exact hne2) (by rw [hJ,HMM.out]) (by have:=HJ3.out;omega) (by omega) (by omega) (by rw [au];exact Cc Ch.2)).mono ?_
      rintro e w8 ⟨q',rfl,A',hA'l,KO,hA'v,hq',zc,hg8⟩
      rw [au] at hA'v hq'
      have uQ:0 < b':=by omega
      obtain ⟨hqd,KG⟩:=EH uQ Ch.1 Ch.2 hA'v hq'
      have hq4:q' < 4294967296:=by rcases hq' with ⟨_,h⟩ | ⟨_,h⟩ <;> omega
      have hst:=EI Am.out.split Am.out.pre Am.out.zero hA'v KG HVAL.out
      have hq8:=(Own.drewN HOQ.out nq).kept hg8 (.inr (by simp [Value.ownBlock];omega))
      have hry8:=(Rd.drewN HRY.out nq).rB hg8 (fun p c a h1 h2=>by cases h1;cases h2;exact hne2)
      have hbw8:Below B w w8:=(Below.drewN gC.out nq).grown hg8 (Nat.le_trans (by have:=HB.out;omega) gC.out.size) (fun k hk=>by cases hk;exact (Own.lt HOA.out).1)
      obtain ⟨x8,hx8,hc8,hf8⟩:=Own.gr hq8 (j:=i) EE
      have hl8:=iY hc8
      simp only at hl8
      have Ci:(us.take i++(A'++us.drop (i + (mm + 3)))).length=N:=by
       have h1:=congrArg List.length Am.out.split
       rw [HUL.out] at h1
       simp only [List.length_append] at h1 ⊢
       omega
      have BS:cd (us.take i++(A'++us.drop (i + (mm + 3)))):=(wR.out.take _).append (KO.append (wR.out.drop _))
      have hq9:=Own.fX (j:=i) (x:=q') hq8
      rw [Ak] at hq9
      have HREL:Hid (KH w B N ca lb mq b' a' ga (.slice (some ⟨gy,0,none⟩) lb cy) (.slice (some ⟨gq,0,none⟩) mq mq) (.int .i64 ((i:Int) - 1)) (w8.setCell ⟨gq,i,none⟩ (.int .u32 (q':Int)))):=
       ⟨i,_,q'::qs,by omega,rfl,Ci,BS,hst.1,by rw [List.length_cons,HQL.out];omega,cd.cons hq4 HQLIM.out,hst.2,zc.kept wM (.inr (by simp [Value.ownBlock];omega)),hq9,hry8.rB wM (fun p c a h1 h2=>by cases h1;cases h2;exact hne3),hbw8.setCell (p:=⟨gq,i,none⟩) (Own.lt hq8).1 _⟩
      clear hA'l KO hA'v hq' zc hg8 hqd KG hst hq8 hry8 hbw8 hx8 Ci BS hq9 hoa Ch hG hJ
      go_wp2_with fail
      go_roundw
      case rel=>exact HREL.out
      case measure=>simp [intOf]
end Go.Proofs.YtabalinjfgcfeaaGreat
namespace Go.Proofs.YtabalinjfgcfeaaGreat
open Go.RowKit
def yx (neg:Bool) (xs:List Nat):Int:=if neg=true then -(aq xs:Int) else (aq xs:Int)
def dp (neg:Bool) (xs:List Nat):Bool:=match xs.getLast? with | none=> !neg | some x=>decide (x≠0)
def numOf (neg:Bool) (xs:List Nat):Int:=if dp neg xs=true then yx neg xs else 0
theorem qx (neg:Bool):dp neg []= !neg:=rfl
theorem ue {neg:Bool} {xs:List Nat} {x:Nat} (h:xs[xs.length - 1]? =some x):dp neg xs=decide (x≠0):=by
 unfold dp
 rw [List.getLast?_eq_getElem?,h]
theorem Gw {neg:Bool} {xs:List Nat} (h:dp neg xs=true):∀ x,xs.getLast? =some x→x≠0:=by
 intro x hx
 unfold dp at h
 rw [hx] at h
 simpa using h
theorem rG {neg:Bool} {xs:List Nat} (hl:cd xs) (h:dp neg xs=true) (hx:xs≠[]):aq xs≠0:=by
 intro h0
 have:=qq hl (Gw h)
 rw [h0,bB] at this
 exact hx this.symm
theorem canon {neg:Bool} {xs:List Nat} (hl:cd xs) (h:dp neg xs=true):neg=decide (yx neg xs < 0)∧xs=limbs (yx neg xs).natAbs:=by
 have h1:=qq hl (Gw h)
 have h2:(yx neg xs).natAbs=aq xs:=by unfold yx;split <;> simp
 refine ⟨?_,by rw [h2,h1]⟩
 by_cases hx:xs=[]
 ·subst hx
  rw [qx] at h
  cases neg
  ·simp [yx,dW]
  ·cases h
 ·have:=rG hl h hx
  cases neg
  ·simp [yx]
  ·simp [yx];omega
theorem mL (X:Int):dp (decide (X < 0)) (limbs X.natAbs)=true:=by
 by_cases h:X=0
 ·subst h;simp [bB,dp]
 ·unfold dp
  cases hl:(limbs X.natAbs).getLast? with
  | none=>rw [List.getLast?_eq_none_iff,ll] at hl;omega
  | some x=>simpa using qu _ _ hl
theorem EN (X:Int):yx (decide (X < 0)) (limbs X.natAbs)=X:=by
 unfold yx
 rw [au]
 by_cases h:X < 0
 ·rw [if_pos (by simpa using h)];omega
 ·rw [if_neg (by simpa using h)];omega
theorem fI (X:Int):numOf (decide (X < 0)) (limbs X.natAbs)=X:=by
 unfold numOf;rw [if_pos (mL X),EN]
theorem zd {neg:Bool} {xs:List Nat} (hl:cd xs):(limbs (numOf neg xs).natAbs).length≤xs.length:=by
 unfold numOf
 split
 ·rename_i h
  rw [←(canon hl h).2];exact Nat.le_refl _
 ·rw [show (0:Int).natAbs=0 from rfl,bB];exact Nat.zero_le _
def eX (w:World) (v:Value) (neg:Bool) (xs:List Nat):Prop:=∃ p c,v=.agg #[.bool neg,.slice p xs.length c]∧Rd w 1 (.slice p xs.length c) xs.length (ints .u32 xs)∧cd xs
def bS (w:World) (v:Value) (X:Int) (k:Nat):Prop:=∃ neg xs,eX w v neg xs∧X=numOf neg xs∧xs.length≤k
def bQ (w:World) (v:Value) (X:Int):Prop:=eX w v (decide (X < 0)) (limbs X.natAbs)
def aE (w:World) (B:Nat) (v:Value) (X:Int):Prop:=∃ p c,v=.agg #[.bool (decide (X < 0)),.slice p (limbs X.natAbs).length c]∧w.ownsRow B 117 1 (.slice p (limbs X.natAbs).length c) (limbs X.natAbs).length (ints .u32 (limbs X.natAbs))
def aj (w w':World):Prop:=Below w.heap.size w w'
theorem aj.refl (w:World):aj w w:=Below.refl _ _
theorem aj.alloc {w w':World} (h:aj w w') (o:Obj):aj w (w'.alloc o):=Below.alloc h h.size o
theorem aj.drew {w w':World} (h:aj w w'):aj w w'.drew:=Below.drew h
theorem aj.drewN {w w':World} (h:aj w w') (n:Nat):aj w (w'.drewN n):=Below.drewN h n
theorem aj.aI {a b c:World} (h:aj a b) (k:aj b c):aj a c:=Below.aI h k
theorem aj.setCell {w w':World} (h:aj w w') {p:Addr} (hp:w.heap.size≤p.block) (v:Value):aj w (w'.setCell p v):=Below.setCell h hp v
theorem aj.cell {w w':World} (h:aj w w') {a:Addr} {u:Value} (hc:w.cell? a=some u):w'.cell? a=some u:=Below.keeps h _ _ hc
theorem aj.size {w w':World} (h:aj w w'):w.heap.size≤w'.heap.size:=Below.size h
theorem eX.bk {w w':World} {v:Value} {neg:Bool} {xs:List Nat} (h:eX w v neg xs) (hb:aj w w'):eX w' v neg xs:=by
 obtain ⟨p,c,hv,hr,hl⟩:=h
 exact ⟨p,c,hv,hr.below hb,hl⟩
theorem bS.bk {w w':World} {v:Value} {X:Int} {k:Nat} (h:bS w v X k) (hb:aj w w'):bS w' v X k:=by
 obtain ⟨neg,xs,hn,hx,hk⟩:=h
 exact ⟨neg,xs,hn.bk hb,hx,hk⟩
theorem bQ.bk {w w':World} {v:Value} {X:Int} (h:bQ w v X) (hb:aj w w'):bQ w' v X:=eX.bk h hb
theorem aE.rd {w:World} {B:Nat} {v:Value} {X:Int} (h:aE w B v X):bQ w v X:=by
 obtain ⟨p,c,hv,ho⟩:=h
 exact ⟨p,c,hv,Rd.own ho,az _⟩
theorem aE.mono {w:World} {B B':Nat} {v:Value} {X:Int} (h:aE w B v X) (hB:B'≤B):aE w B' v X:=by
 obtain ⟨p,c,hv,ho⟩:=h
 exact ⟨p,c,hv,Own.mono ho hB⟩
theorem bQ.to {w:World} {v:Value} {X:Int} {k:Nat} (h:bQ w v X) (hk:(limbs X.natAbs).length≤k):bS w v X k:=⟨_,_,h,(fI X).symm,hk⟩
theorem bS.len {w:World} {v:Value} {X:Int} {k:Nat} (h:bS w v X k):(limbs X.natAbs).length≤k:=by
 obtain ⟨neg,xs,⟨_,_,_,_,hl⟩,rfl,hk⟩:=h
 exact Nat.le_trans (zd hl) hk
theorem bQ.zero (w:World):bQ w (.agg #[.bool false,.slice none 0 0]) 0:=by
 refine ⟨none,0,?_,?_,az _⟩
 ·simp [bB]
 ·simp only [show (0:Int).natAbs=0 from rfl,bB];exact Rd.nil w 1
theorem aE.zero (w:World) (B:Nat):aE w B (.agg #[.bool false,.slice none 0 0]) 0:=by
 refine ⟨none,0,?_,?_⟩
 ·simp [bB]
 ·simp only [show (0:Int).natAbs=0 from rfl,bB];exact World.ownsRow_nil _ _ _ _
theorem aE.of {w:World} {B:Nat} {neg:Bool} {p:Option Addr} {n c m:Nat} (h:w.ownsRow B 117 1 (.slice p n c) (limbs m).length (ints .u32 (limbs m))) (hn:n=(limbs m).length) (X:Int) (hX:X=if neg=true then -(m:Int) else m):
  aE w B (.agg #[.bool (neg && decide (0 < n)),.slice p n c]) X:=by
 subst hn
 have h1:X.natAbs=m:=by rw [hX];split <;> simp
 refine ⟨p,c,?_,by rw [h1];exact h⟩
 rw [h1]
 congr 3
 by_cases hm:m=0
 ·subst hm
  have:X=0:=by omega
  rw [this];simp [bB]
 ·have:=dc hm
  cases neg
  ·simp at hX;simp [hX]
  ·simp at hX;simp [hX];omega
theorem bQ.of {w:World} {neg:Bool} {p:Option Addr} {n c m:Nat} (h:Rd w 1 (.slice p n c) (limbs m).length (ints .u32 (limbs m))) (hn:n=(limbs m).length) (X:Int) (hX:X=if neg=true then -(m:Int) else m):
  bQ w (.agg #[.bool (neg && decide (0 < n)),.slice p n c]) X:=by
 subst hn
 have h1:X.natAbs=m:=by rw [hX];split <;> simp
 refine ⟨p,c,?_,by rw [h1];exact h,az _⟩
 rw [h1]
 congr 3
 by_cases hm:m=0
 ·subst hm
  have:X=0:=by omega
  rw [this];simp [bB]
 ·have:=dc hm
  cases neg
  ·simp at hX;simp [hX]
  ·simp at hX;simp [hX];omega
def Sz (X:Int) (k:Nat):Prop:=(limbs X.natAbs).length≤k
theorem Sz.lt {X:Int} {k:Nat} (h:Sz X k):X.natAbs < 4294967296 ^ k:=Nat.lt_of_lt_of_le (mG _) (Nat.pow_le_pow_right (by omega) h)
theorem Sz.of_lt {X:Int} {k:Nat} (h:X.natAbs < 4294967296 ^ k):Sz X k:=jv k _ h
theorem Sz.mono {X:Int} {k l:Nat} (h:Sz X k) (Ej:k≤l):Sz X l:=Nat.le_trans h Ej
theorem Sz.le {X Y:Int} {k:Nat} (h:Sz Y k) (Gk:X.natAbs≤Y.natAbs):Sz X k:=Nat.le_trans (cw Gk) h
theorem Sz.neg {X:Int} {k:Nat} (h:Sz X k):Sz (-X) k:=Sz.le h (by rw [Int.natAbs_neg];exact Nat.le_refl _)
theorem Sz.add {X Y:Int} {k l m:Nat} (hx:Sz X k) (hy:Sz Y l) (hk:k≤m) (hl:l≤m):Sz (X + Y) (m + 1):=by
 refine Sz.of_lt ?_
 have h1:=Nat.lt_of_lt_of_le hx.lt (Nat.pow_le_pow_right (by omega) hk)
 have h2:=Nat.lt_of_lt_of_le hy.lt (Nat.pow_le_pow_right (by omega) hl)
 have h3:(X + Y).natAbs≤X.natAbs + Y.natAbs:=Int.natAbs_add_le X Y
 rw [Nat.pow_succ];omega
theorem Sz.mul {X Y:Int} {k l:Nat} (hx:Sz X k) (hy:Sz Y l):Sz (X * Y) (k + l):=by
 refine Sz.of_lt ?_
 rw [Int.natAbs_mul,Nat.pow_add]
 exact Nat.mul_lt_mul'' hx.lt hy.lt
theorem Sz.zero:Sz 0 0:=by show (limbs 0).length≤0;rw [bB];exact Nat.le_refl _
theorem Sz.small {X:Int} (h:X.natAbs < 4294967296):Sz X 1:=Sz.of_lt (by simpa using h)
def aV (w:World) (b:Nat) (t:TypeId) (cs:Array Value):Prop:=w.heap[b]? =some (.cells cs t (0,0))
theorem aV.lt {w:World} {b:Nat} {t:TypeId} {cs:Array Value} (h:aV w b t cs):b < w.heap.size:=(Array.getElem?_eq_some_iff.1 h).1
theorem aV.new (w:World) (t:TypeId) (cs:Array Value):aV (w.alloc (.cells cs t)) w.heap.size t cs:=World.alloc_heap_new w _
theorem aV.newAt {w:World} {b:Nat} (hb:b=w.heap.size) (t:TypeId) (cs:Array Value):aV (w.alloc (.cells cs t)) b t cs:=hb▸aV.new w t cs
theorem aV.bk {w w':World} {b:Nat} {t:TypeId} {cs:Array Value} (h:aV w b t cs) (hb:aj w w'):aV w' b t cs:=(Below.block hb b h.lt).trans h
theorem aV.alloc {w:World} {b:Nat} {t:TypeId} {cs:Array Value} (h:aV w b t cs) (o:Obj):aV (w.alloc o) b t cs:=h.bk ((aj.refl w).alloc o)
theorem aV.drew {w:World} {b:Nat} {t:TypeId} {cs:Array Value} (h:aV w b t cs):aV w.drew b t cs:=h
theorem aV.drewN {w:World} {b:Nat} {t:TypeId} {cs:Array Value} (h:aV w b t cs) (n:Nat):aV (w.drewN n) b t cs:=h
theorem aV.cell {w:World} {b j:Nat} {t:TypeId} {cs:Array Value} {u:Value} (h:aV w b t cs) (hj:cs[j]? =some u):w.cell? ⟨b,j,none⟩=some u:=by
 simp [World.cell?,show w.heap[b]? =_ from h,hj]
theorem aV.frozen {w:World} {b:Nat} {t:TypeId} {cs:Array Value} (h:aV w b t cs) (j:Nat):w.frozen? ⟨b,j,none⟩=false:=by
 simp [World.frozen?,show w.heap[b]? =_ from h]
theorem aV.set {w:World} {b j:Nat} {t:TypeId} {cs:Array Value} (h:aV w b t cs) (v:Value):aV (w.setCell ⟨b,j,none⟩ v) b t (cs.setIfInBounds j v):=by
 obtain ⟨hlt,hk⟩:=Array.getElem?_eq_some_iff.1 h
 show (w.heap.modify b _)[b]? =_
 rw [Array.getElem?_eq_getElem (by rw [Array.size_modify];exact hlt),Array.getElem_modify_self,hk]
 rfl
theorem aV.other {w:World} {b b' j:Nat} {t:TypeId} {cs:Array Value} (h:aV w b t cs) (hne:b≠b') (v:Value):aV (w.setCell ⟨b',j,none⟩ v) b t cs:=
 (Below.heap_setCell _ _ _ b hne).trans h
theorem aV.two {w:World} {b:Nat} {t:TypeId} {u v:Value} (h:aV w b t #[u,v]):w.cell? ⟨b,0,none⟩=some u∧w.cell? ⟨b,1,none⟩=some v∧w.frozen? ⟨b,0,none⟩=false∧w.frozen? ⟨b,1,none⟩=false:=
 ⟨h.cell rfl,h.cell rfl,h.frozen 0,h.frozen 1⟩
theorem aV.bA {w:World} {b:Nat} {t:TypeId} {u v:Value} (h:aV w b t #[u,v]) (u' v':Value):aV ((w.setCell ⟨b,0,none⟩ u').setCell ⟨b,1,none⟩ v') b t #[u',v']:=(h.set (j:=0) u').set (j:=1) v'
theorem aj.bA {w w':World} (h:aj w w') {b:Nat} (hb:w.heap.size≤b) (u v:Value):aj w ((w'.setCell ⟨b,0,none⟩ u).setCell ⟨b,1,none⟩ v):=(h.setCell (p:=⟨b,0,none⟩) hb u).setCell (p:=⟨b,1,none⟩) hb v
theorem lB (w:World) (t t':TypeId) (cs iH:Array Value):aV ((w.alloc (.cells cs t)).alloc (.cells iH t')) w.heap.size t cs∧aV ((w.alloc (.cells cs t)).alloc (.cells iH t')) (w.heap.size + 1) t' iH∧aj w ((w.alloc (.cells cs t)).alloc (.cells iH t')):=
 ⟨(aV.new _ _ _).alloc _,aV.newAt (by simp) _ _,((aj.refl w).alloc _).alloc _⟩
theorem mM (w:World) (t t' El:TypeId) (cs iH pR:Array Value):aV (((w.alloc (.cells cs t)).alloc (.cells iH t')).alloc (.cells pR El)) w.heap.size t cs∧aV (((w.alloc (.cells cs t)).alloc (.cells iH t')).alloc (.cells pR El)) (w.heap.size + 1) t' iH∧
  aV (((w.alloc (.cells cs t)).alloc (.cells iH t')).alloc (.cells pR El)) (w.heap.size + 2) El pR∧aj w (((w.alloc (.cells cs t)).alloc (.cells iH t')).alloc (.cells pR El)):=
 ⟨(lB w t t' cs iH).1.alloc _,(lB w t t' cs iH).2.1.alloc _,aV.newAt (by simp) _ _,(lB w t t' cs iH).2.2.alloc _⟩
def aC (W:World) (r:Nat) (w':World):Prop:=W.heap.size≤w'.heap.size∧∀ b,b < W.heap.size→b≠r→w'.heap[b]? =W.heap[b]?
theorem aC.refl (W:World) (r:Nat):aC W r W:=⟨Nat.le_refl _,fun _ _ _=>rfl⟩
theorem aC.drew {W w':World} {r:Nat} (h:aC W r w'):aC W r w'.drew:=h
theorem aC.aI {W a b:World} {r:Nat} (h:aC W r a) (k:aj a b):aC W r b:=
 ⟨Nat.le_trans h.1 k.size,fun j hj hr=>(Below.block k j (Nat.lt_of_lt_of_le hj h.1)).trans (h.2 j hj hr)⟩
theorem aC.alloc {W a:World} {r:Nat} (h:aC W r a) (o:Obj):aC W r (a.alloc o):=h.aI ((aj.refl a).alloc o)
theorem aC.set {W a:World} {r j:Nat} (h:aC W r a) (v:Value):aC W r (a.setCell ⟨r,j,none⟩ v):=
 ⟨Nat.le_trans h.1 (by simp),fun b hb hr=>(Below.heap_setCell _ _ _ b hr).trans (h.2 b hb hr)⟩
theorem aC.cls {W w':World} {r b:Nat} {t:TypeId} {cs:Array Value} (h:aC W r w') (hc:aV W b t cs) (hr:b≠r):aV w' b t cs:=(h.2 b hc.lt hr).trans hc
theorem aC.cells {W w':World} {r b:Nat} {t:TypeId} {u v:Value} (h:aC W r w') (hc:aV W b t #[u,v]) (hr:b≠r):w'.cell? ⟨b,0,none⟩=some u∧w'.cell? ⟨b,1,none⟩=some v:=
 ⟨(h.cls hc hr).cell rfl,(h.cls hc hr).cell rfl⟩
theorem aV.notRow {w:World} {b base e sz n:Nat} {t:TypeId} {cs:Array Value} {v:Value} {xs:List Value} (h:aV w b t cs) (hte:t≠e) (hr:w.ownsRow base e sz v n xs):some b≠v.ownBlock:=by
 rcases hr.2 with ⟨rfl,rfl⟩ | ⟨g,cap,cur,rfl,_,hg,_⟩
 ·simp [Value.ownBlock]
 ·intro e'
  obtain rfl:b=g:=by simpa [Value.ownBlock] using e'
  have:=(show w.heap[b]? =_ from h).symm.trans hg
  simp at this
  exact hte this.2
theorem Own.KP {w:World} {b base e sz n j:Nat} {t:TypeId} {cs:Array Value} {v:Value} {xs:List Value} (hr:w.ownsRow base e sz v n xs) (h:aV w b t cs) (hte:t≠e) (u:Value):(w.setCell ⟨b,j,none⟩ u).ownsRow base e sz v n xs:=by
 refine ⟨hr.1,?_⟩
 rcases hr.2 with h2 | ⟨g,cap,cur,hv,hb,hg,r⟩
 ·exact .inl h2
 ·refine .inr ⟨g,cap,cur,hv,hb,?_,r⟩
  have hne:g≠b:=fun e'=>by
   have:=h.notRow hte hr
   rw [hv] at this
   simp [Value.ownBlock,e'] at this
  exact (Below.heap_setCell _ _ _ g hne).trans hg
theorem Own.bA {w:World} {b base e sz n:Nat} {t:TypeId} {x y:Value} {v:Value} {xs:List Value} (hr:w.ownsRow base e sz v n xs) (h:aV w b t #[x,y]) (hte:t≠e) (u u':Value):((w.setCell ⟨b,0,none⟩ u).setCell ⟨b,1,none⟩ u').ownsRow base e sz v n xs:=
 Own.KP (Own.KP hr h hte u) (h.set (j:=0) u) hte u'
theorem aV.dx {w:World} {b b':Nat} {t:TypeId} {cs:Array Value} (h:aV w b t cs) (hne:b≠b') (u v:Value):aV ((w.setCell ⟨b',0,none⟩ u).setCell ⟨b',1,none⟩ v) b t cs:=(h.other hne u).other hne v
theorem aE.bA {w:World} {B b:Nat} {t:TypeId} {x y v:Value} {X:Int} (h:aE w B v X) (hc:aV w b t #[x,y]) (ht:t≠117) (u u':Value):aE ((w.setCell ⟨b,0,none⟩ u).setCell ⟨b,1,none⟩ u') B v X:=by
 obtain ⟨p,c,hv,ho⟩:=h
 exact ⟨p,c,hv,Own.bA ho hc ht u u'⟩
theorem aE.form {w:World} {B:Nat} {v:Value} {X:Int} (h:aE w B v X):∃ s p n c,v=.agg #[.bool s,.slice p n c]:=by
 obtain ⟨p,c,hv,_⟩:=h
 exact ⟨_,_,_,_,hv⟩
theorem bQ.ij {w:World} {v:Value} {X:Int} (h:bQ w v X):∃ s p n c,v=.agg #[.bool s,.slice p n c]:=by
 obtain ⟨p,c,hv,_⟩:=h
 exact ⟨_,_,_,_,hv⟩
theorem bS.form {w:World} {v:Value} {X:Int} {k:Nat} (h:bS w v X k):∃ s p n c,v=.agg #[.bool s,.slice p n c]:=by
 obtain ⟨neg,xs,⟨p,c,hv,_⟩,_⟩:=h
 exact ⟨_,_,_,_,hv⟩
theorem aC.om {W a:World} {r b j:Nat} (h:aC W r a) (hb:W.heap.size≤b) (v:Value):aC W r (a.setCell ⟨b,j,none⟩ v):=
 ⟨Nat.le_trans h.1 (by simp),fun k hk hr=>(Below.heap_setCell _ _ _ k (by show k≠b;omega)).trans (h.2 k hk hr)⟩
theorem bQ.parts {w:World} {s:Bool} {p:Option Addr} {n c:Nat} {X:Int} (h:bQ w (.agg #[.bool s,.slice p n c]) X):n=(limbs X.natAbs).length∧Rd w 1 (.slice p n c) n (ints .u32 (limbs X.natAbs))∧X=if s=true then -(X.natAbs:Int) else (X.natAbs:Int):=by
 obtain ⟨p',c',hv,hr,_⟩:=h
 simp only [Value.agg.injEq,Array.mk.injEq,List.cons.injEq,Value.bool.injEq,Value.slice.injEq,and_true] at hv
 obtain ⟨rfl,rfl,rfl,rfl⟩:=hv
 refine ⟨rfl,hr,?_⟩
 split
 ·rename_i h;have:=of_decide_eq_true h;omega
 ·rename_i h;have:¬ X < 0:=fun h'=>h (decide_eq_true h');omega
theorem bQ.own {w w':World} {B:Nat} {s:Bool} {p p':Option Addr} {n c c':Nat} {X:Int} (h:bQ w (.agg #[.bool s,.slice p n c]) X) (ho:w'.ownsRow B 117 1 (.slice p' n c') n (ints .u32 (limbs X.natAbs))):
  aE w' B (.agg #[.bool s,.slice p' n c']) X:=by
 obtain ⟨p1,c1,hv,hr,_⟩:=h
 simp only [Value.agg.injEq,Array.mk.injEq,List.cons.injEq,Value.bool.injEq,Value.slice.injEq,and_true] at hv
 obtain ⟨rfl,rfl,rfl,rfl⟩:=hv
 exact ⟨p',c',rfl,ho⟩
theorem aE.ofNat {w:World} {B:Nat} {p:Option Addr} {n c m:Nat} (h:w.ownsRow B 117 1 (.slice p n c) n (ints .u32 (limbs m))) (hn:n=(limbs m).length):aE w B (.agg #[.bool false,.slice p n c]) (m:Int):=by
 subst hn
 refine ⟨p,c,?_,by simpa using h⟩
 congr 3
theorem sign_neg {X:Int} (h:X < 0):X.sign= -1:=Int.sign_eq_neg_one_of_neg h
theorem eZ {X:Int} (h:0 < X):X.sign=1:=Int.sign_eq_one_of_pos h
theorem bQ.sgn {w:World} {s:Bool} {p:Option Addr} {n c:Nat} {X:Int} (h:bQ w (.agg #[.bool s,.slice p n c]) X):s=decide (X < 0):=by
 obtain ⟨p',c',hv,hr,_⟩:=h
 simp only [Value.agg.injEq,Array.mk.injEq,List.cons.injEq,Value.bool.injEq,Value.slice.injEq,and_true] at hv
 exact hv.1
def aW (W:World) (r q:Nat) (w':World):Prop:=W.heap.size≤w'.heap.size∧∀ b,b < W.heap.size→b≠r→b≠q→w'.heap[b]? =W.heap[b]?
theorem aW.refl (W:World) (r q:Nat):aW W r q W:=⟨Nat.le_refl _,fun _ _ _ _=>rfl⟩
theorem aW.drew {W w':World} {r q:Nat} (h:aW W r q w'):aW W r q w'.drew:=h
theorem aW.aI {W a b:World} {r q:Nat} (h:aW W r q a) (k:aj a b):aW W r q b:=
 ⟨Nat.le_trans h.1 k.size,fun j hj hr hq=>(Below.block k j (Nat.lt_of_lt_of_le hj h.1)).trans (h.2 j hj hr hq)⟩
theorem aW.KQ {W a:World} {r q j:Nat} (h:aW W r q a) (v:Value):aW W r q (a.setCell ⟨r,j,none⟩ v):=
 ⟨Nat.le_trans h.1 (by simp),fun b hb hr hq=>(Below.heap_setCell _ _ _ b hr).trans (h.2 b hb hr hq)⟩
theorem aW.pT {W a:World} {r q j:Nat} (h:aW W r q a) (v:Value):aW W r q (a.setCell ⟨q,j,none⟩ v):=
 ⟨Nat.le_trans h.1 (by simp),fun b hb hr hq=>(Below.heap_setCell _ _ _ b hq).trans (h.2 b hb hr hq)⟩
theorem aW.cls {W w':World} {r q b:Nat} {t:TypeId} {cs:Array Value} (h:aW W r q w') (hc:aV W b t cs) (hr:b≠r) (hq:b≠q):aV w' b t cs:=(h.2 b hc.lt hr hq).trans hc
theorem aV.apart {w:World} {a b:Nat} {t t':TypeId} {cs iH:Array Value} (h:aV w a t cs) (h':aV w b t' iH) (ht:t≠t'):a≠b:=fun e=>by
 subst e
 have:=(show w.heap[_]? =_ from h).symm.trans h'
 simp at this
 exact ht this.2
theorem aE.cast {w:World} {B:Nat} {v:Value} {X Y:Int} (h:aE w B v X) (e:X=Y):aE w B v Y:=e▸h
theorem sum_len {a b n m:Nat} (hn:n=(limbs a).length) (hm:m=(limbs b).length):(limbs (a + b)).length≤n + m + 1:=by
 have:=Sz.add (X:=(a:Int)) (Y:=(b:Int)) (k:=n) (l:=m) (m:=n + m) (by show (limbs _).length≤_;rw [Int.natAbs_natCast];omega) (by show (limbs _).length≤_;rw [Int.natAbs_natCast];omega) (by omega) (by omega)
 have e:((a:Int) + (b:Int)).natAbs=a + b:=by omega
 unfold Sz at this
 rwa [e] at this
end Go.Proofs.YtabalinjfgcfeaaGreat
namespace Go.Proofs.YtabalinjfgcfeaaGreat
open Go.RowKit
inductive AV where
 | val (v:Value)
 | box (i off:Nat)
 | kC (i off:Nat)
 | row (i o n c:Nat)
 | fn (g:FuncId) (first:List Value) (cap:List (Nat×Nat))
 | agg (l:List AV)
 | iC (l:List AV)
def AV.leaf (β:Nat→Nat):AV→Value
 | .val v=>v
 | .box i off=>.pointer (some ⟨β i,off,none⟩)
 | .kC i off=>.pointer (some ⟨β i,off,none⟩)
 | .row i o n c=>.slice (some ⟨β i,o,none⟩) n c
 | .fn g first cap=>.func (.func g) first.toArray (cap.map fun p=>Value.pointer (some ⟨β p.1,p.2,none⟩)).toArray
 | .agg _=>undef
 | .iC _=>undef
def AV.jB (β:Nat→Nat):AV→Value
 | .val v=>v
 | .box i off=>.pointer (some ⟨β i,off,none⟩)
 | .kC i off=>.pointer (some ⟨β i,off,none⟩)
 | .row i o n c=>.slice (some ⟨β i,o,none⟩) n c
 | .fn g first cap=>.func (.func g) first.toArray (cap.map fun p=>Value.pointer (some ⟨β p.1,p.2,none⟩)).toArray
 | .agg l=>.agg (l.map (AV.leaf β)).toArray
 | .iC _=>undef
def AV.aX (β:Nat→Nat):AV→Value
 | .val v=>v
 | .box i off=>.pointer (some ⟨β i,off,none⟩)
 | .kC i off=>.pointer (some ⟨β i,off,none⟩)
 | .row i o n c=>.slice (some ⟨β i,o,none⟩) n c
 | .fn g first cap=>.func (.func g) first.toArray (cap.map fun p=>Value.pointer (some ⟨β p.1,p.2,none⟩)).toArray
 | .agg l=>.agg (l.map (AV.leaf β)).toArray
 | .iC l=>.tuple (l.map (AV.jB β)).toArray
def AV.cL:AV→List Nat
 | .box i _=>[i]
 | .kC i _=>[i]
 | .row i _ _ _=>[i]
 | .fn _ _ cap=>cap.map (·.1)
 | _=>[]
def ay:List AV→List Nat
 | []=>[]
 | v::r=>v.cL++ay r
def AV.td:AV→List Nat
 | .box i _=>[i]
 | .kC i _=>[i]
 | .row i _ _ _=>[i]
 | .fn _ _ cap=>cap.map (·.1)
 | .agg l=>ay l
 | _=>[]
def Ao:List AV→List Nat
 | []=>[]
 | v::r=>v.td++Ao r
def AV.ids:AV→List Nat
 | .box i _=>[i]
 | .kC i _=>[i]
 | .row i _ _ _=>[i]
 | .fn _ _ cap=>cap.map (·.1)
 | .agg l=>ay l
 | .iC l=>Ao l
 | .val _=>[]
def fC:List AV→List Nat
 | []=>[]
 | v::r=>v.ids++fC r
theorem aP {l:List AV} {i:Nat}:i∈ay l↔∃ v∈l,i∈v.cL:=by
 induction l with
 | nil=>exact ⟨fun h=>(by cases h),fun ⟨_,h,_⟩=>(by cases h)⟩
 | cons x r ih=>rw [ay,List.mem_append,ih];simp
theorem mO {l:List AV} {i:Nat}:i∈Ao l↔∃ v∈l,i∈v.td:=by
 induction l with
 | nil=>exact ⟨fun h=>(by cases h),fun ⟨_,h,_⟩=>(by cases h)⟩
 | cons x r ih=>rw [Ao,List.mem_append,ih];simp
theorem yy {l:List AV} {i:Nat}:i∈fC l↔∃ v∈l,i∈v.ids:=by
 induction l with
 | nil=>exact ⟨fun h=>(by cases h),fun ⟨_,h,_⟩=>(by cases h)⟩
 | cons x r ih=>rw [fC,List.mem_append,ih];simp
theorem te {β bC:Nat→Nat} {cap:List (Nat×Nat)} (h:∀ i∈cap.map (·.1),bC i=β i):(cap.map fun p=>Value.pointer (some ⟨bC p.1,p.2,none⟩))=cap.map fun p=>Value.pointer (some ⟨β p.1,p.2,none⟩):=
 List.map_congr_left fun p hp=>by rw [h p.1 (List.mem_map.2 ⟨p,hp,rfl⟩)]
theorem AV.mP {β bC:Nat→Nat}:∀ {v:AV},(∀ i∈v.cL,bC i=β i)→v.leaf bC=v.leaf β
 | .val _,_=>rfl
 | .box i off,h=>by simp only [AV.leaf,h i (by simp [AV.cL])]
 | .kC i off,h=>by simp only [AV.leaf,h i (by simp [AV.cL])]
 | .row i o n c,h=>by simp only [AV.leaf,h i (by simp [AV.cL])]
 | .fn g first cap,h=>by simp only [AV.leaf,te h]
 | .agg _,_=>rfl
 | .iC _,_=>rfl
theorem gP {β bC:Nat→Nat} {l:List AV} (h:∀ i∈ay l,bC i=β i):l.map (AV.leaf bC)=l.map (AV.leaf β):=
 List.map_congr_left fun v hv=>AV.mP fun i hi=>h i (aP.2 ⟨v,hv,hi⟩)
theorem AV.Cj {β bC:Nat→Nat}:∀ {v:AV},(∀ i∈v.td,bC i=β i)→v.jB bC=v.jB β
 | .val _,_=>rfl
 | .box i off,h=>by simp only [AV.jB,h i (by simp [AV.td])]
 | .kC i off,h=>by simp only [AV.jB,h i (by simp [AV.td])]
 | .row i o n c,h=>by simp only [AV.jB,h i (by simp [AV.td])]
 | .fn g first cap,h=>by simp only [AV.jB,te h]
 | .agg l,h=>by simp only [AV.jB,gP (l:=l) h]
 | .iC _,_=>rfl
theorem AV.wS {β bC:Nat→Nat}:∀ {v:AV},(∀ i∈v.ids,bC i=β i)→v.aX bC=v.aX β
 | .val _,_=>rfl
 | .box i off,h=>by simp only [AV.aX,h i (by simp [AV.ids])]
 | .kC i off,h=>by simp only [AV.aX,h i (by simp [AV.ids])]
 | .row i o n c,h=>by simp only [AV.aX,h i (by simp [AV.ids])]
 | .fn g first cap,h=>by simp only [AV.aX,te h]
 | .agg l,h=>by simp only [AV.aX,gP (l:=l) h]
 | .iC l,h=>by
   have:l.map (AV.jB bC)=l.map (AV.jB β):=List.map_congr_left fun v hv=>AV.Cj fun i hi=>h i (mO.2 ⟨v,hv,hi⟩)
   simp only [AV.aX,this]
def Fr:=Nat→Option AV
def Hp:=Nat→Option (TypeId×List AV)
def Fr.put (F:Fr) (d:Nat) (v:AV):Fr:=fun n=>bif Nat.beq n d then some v else F n
def Fr.bh (F:Fr):Option Nat→AV→Fr
 | none,_=>F
 | some d,v=>F.put d v
def Hp.put (H:Hp) (d:Nat) (c:TypeId×List AV):Hp:=fun n=>bif Nat.beq n d then some c else H n
def Hp.upd (H:Hp):Option (Nat×(TypeId×List AV))→Hp
 | none=>H
 | some x=>H.put x.1 x.2
def Hp.eK (H:Hp):List (Nat×(TypeId×List AV))→Hp
 | []=>H
 | x::r=>(H.put x.1 x.2).eK r
def AV.rf (i:Nat) (ρ:AV→Value) (x:AV):AV:=bif x.cL.any (Nat.beq i) then .val (ρ x) else x
def AV.fg1 (i:Nat) (ρ:AV→Value):AV→AV
 | .agg l=>.agg (l.map (AV.rf i ρ))
 | x=>x.rf i ρ
def AV.fg (i:Nat) (ρ:AV→Value):AV→AV
 | .agg l=>.agg (l.map (AV.rf i ρ))
 | .iC l=>.iC (l.map (AV.fg1 i ρ))
 | x=>x.rf i ρ
def Fr.forget (F:Fr):Option Nat→(AV→Value)→Fr
 | none,_=>F
 | some i,ρ=>fun n=>match F n with
   | some v=>some (v.fg i ρ)
   | none=>none
def Hp.forget (H:Hp):Option Nat→(AV→Value)→Hp
 | none,_=>H
 | some i,ρ=>fun n=>bif Nat.beq n i then none else match H n with
   | some (t,cs)=>some (t,cs.map (AV.rf i ρ))
   | none=>none
structure TI where
 size:Nat
 agg:Bool
 zero:Value
 places:Array (Nat×Nat)
 dy:Array Bool
 bool:Bool
 elem:Option (TypeId×Nat)
 kind:Option IntKind
 ptr:Bool:=false
structure TI.Ok (P:Program) (t:TypeId) (i:TI):Prop where
 row:∃ d,P.underlying t=some d∧d.isRow=i.agg
 size:(P.info? t).map (·.size)=some i.size
 isBool:i.bool=true→P.underlying t=some .bool
 isSlice:∀ e n,i.elem=some (e,n)→P.underlying t=some (.slice e)∧∀ w,(sizeOf e).run P w=.ok n w
 isInt:∀ k,i.kind=some k→P.underlying t=some (.int k)
 wT:i.ptr=true→P.underlying t=some (.pointer (P.pointee t)):=by exact fun h=>by cases h
 lone:i.agg=false→i.size=1
 bT:i.zero.cells.size=i.size
 bV:(P.info? t).map (·.zero)=some (some i.zero)
 bytes:(P.info? t).map (fun q=>Nat.ble q.bytes (24 * i.size))=some true
 pos:0 < i.size
 zero:∀ w,(zeroValue t).run P w=.ok i.zero w
 dD:∀ k p,i.places[k]? =some p→∀ b o w,(Instr.fieldAt t (.pointer (some ⟨b,o,none⟩)) k).run P w=.ok (.pointer (some ⟨b,o + p.1,none⟩)) w
 jC:∀ k p,i.places[k]? =some p→∀ cs w v,(match i.dy[k]? with | some true=>some (Value.agg (cs.extract p.1 (p.1 + p.2))) | some false=>cs[p.1]? | none=>none)=some v→(Instr.field t (.agg cs) k).run P w=.ok v w
 kx:i.agg=true→∀ ps w cs,Instr.fill (i.places[·]?) i.zero.cells ps.toList=some cs→(Instr.build t ps).run P w=.ok (.agg cs) w
structure KC where
 U:TypeId
 S:Nat→Prop
 T:TypeId→Bool
def KC.fz (K:KC) (t:TypeId):Bool:=Nat.beq t K.U || K.T t
abbrev KU (U:TypeId):KC:=⟨U,fun _=>True,fun _=>false⟩
def aR:Value→Bool
 | .agg _=>false
 | .tuple _=>false
 | .int .u32 _=>false
 | _=>true
def aG:AV→Bool
 | .val v=>aR v
 | .agg _=>false
 | .iC _=>false
 | _=>true
theorem qy {v:Value} (h:aR v=true):v.oneCell'=true:=by
 unfold aR at h
 split at h <;> first | cases h | skip
 unfold Value.oneCell'
 split <;> simp_all
theorem oo {β:Nat→Nat}:∀ {x:AV},aG x=true→aR (x.leaf β)=true
 | .val _,h=>h
 | .box _ _,_=>rfl
 | .kC _ _,_=>rfl
 | .row _ _ _ _,_=>rfl
 | .fn _ _ _,_=>rfl
 | .agg _,h=>by cases h
 | .iC _,h=>by cases h
theorem cJ {β:Nat→Nat} {l:List AV} (h:l.all aG=true):(l.map (AV.leaf β)).all aR=true:=
 List.all_eq_true.2 fun x hx=>by
  obtain ⟨y,hy,rfl⟩:=List.mem_map.1 hx
  exact oo (List.all_eq_true.1 h y hy)
structure aF (K:KC) (w w':World):Prop where
 size:w.heap.size≤w'.heap.size
 cell:∀ a x,K.S a.block→w.cell? a=some (.int .u32 x)→w'.cell? a=some (.int .u32 x)
 block:∀ (t:TypeId) (g:Nat) (cur:Array Value),K.fz t=true→K.S g→w.heap[g]? =some (Obj.cells cur t (0,0))→w'.heap[g]? =some (Obj.cells cur t (0,0))
 map:∀ (g:Nat) es c,w.heap[g]? =some (Obj.map es c)→w'.heap[g]? =some (Obj.map es c)
abbrev Kp (U:TypeId) (w w':World):Prop:=aF (KU U) w w'
theorem aF.refl (K:KC) (w:World):aF K w w:=⟨Nat.le_refl _,fun _ _ _ h=>h,fun _ _ _ _ _ h=>h,fun _ _ _ h=>h⟩
theorem aF.aI {K:KC} {a b c:World} (h:aF K a b) (k:aF K b c):aF K a c:=
 ⟨Nat.le_trans h.size k.size,fun _ _ s h1=>k.cell _ _ s (h.cell _ _ s h1),fun _ _ _ f s h1=>k.block _ _ _ f s (h.block _ _ _ f s h1),fun _ _ _ h1=>k.map _ _ _ (h.map _ _ _ h1)⟩
theorem aF.of {K:KC} {w w':World} (h:aj w w'):aF K w w':=
 ⟨h.size,fun _ _ _ hc=>h.cell hc,fun _ g _ _ _ hg=>(Below.block h g (Array.getElem?_eq_some_iff.1 hg).1).trans hg,fun g _ _ hg=>(Below.block h g (Array.getElem?_eq_some_iff.1 hg).1).trans hg⟩
theorem Kp.aI {U:TypeId} {a b c:World} (h:Kp U a b) (k:Kp U b c):Kp U a c:=aF.aI h k
theorem Kp.of {U:TypeId} {w w':World} (h:aj w w'):Kp U w w':=aF.of h
theorem aF.wU {K:KC} {w w':World} (h:aF K w w'):aF ⟨K.U,K.S,fun _=>false⟩ w w':=
 ⟨h.size,h.cell,fun t g cur f s hg=>h.block t g cur (by
   unfold KC.fz at f ⊢
   rw [Bool.or_eq_true] at f ⊢
   exact f.imp id (fun e=>by cases e)) s hg,h.map⟩
def nH (H:Hp) (β:Nat→Nat) (i:Nat):Obj:=match H i with
 | some (t,cs)=>.cells (cs.map (AV.leaf β)).toArray t
 | none=>.cells #[] 0
def mkW (H:Hp) (β:Nat→Nat):Nat→World→World
 | 0,w=>w
 | n + 1,w=>(mkW H β n w).alloc (nH H β n)
theorem Ck (H:Hp) (β:Nat→Nat) (w:World):∀ n,(mkW H β n w).heap.size=w.heap.size + n
 | 0=>rfl
 | n + 1=>by show ((mkW H β n w).alloc _).heap.size=_;simp [Ck H β w n];omega
theorem vD (H:Hp) (β:Nat→Nat) (w:World):∀ n,aj w (mkW H β n w)
 | 0=>aj.refl w
 | n + 1=>(vD H β w n).alloc _
theorem EO (H:Hp) (β:Nat→Nat) (w:World) {i:Nat} {t:TypeId} {cs:List AV} (h:H i=some (t,cs)):∀ n,i < n→aV (mkW H β n w) (w.heap.size + i) t (cs.map (AV.leaf β)).toArray
 | 0,hi=>by omega
 | n + 1,hi=>by
   by_cases e:i=n
   ·subst e
    show aV ((mkW H β i w).alloc (nH H β i)) _ _ _
    have hb:nH H β i=.cells (cs.map (AV.leaf β)).toArray t:=by unfold nH;rw [h]
    rw [hb,←Ck H β w i]
    exact aV.new _ _ _
   ·exact (EO H β w h n (by omega)).alloc _
structure Stp (K:KC) (ze:Nat→Nat→Prop) (w w':World):Prop where
 os:w'.os=w.os
 tape:w'.tape=w.tape
 output:w'.output=w.output
 size:w.heap.size≤w'.heap.size
 nH:∀ g,g < w.heap.size→w'.heap[g]? =w.heap[g]?∨((∃ i,ze i g)∧∃ t cs,aV w' g t (List.toArray cs)∧K.fz t=false∧cs.all aR=true)∨¬ K.S g
theorem Stp.bk {K:KC} {ze:Nat→Nat→Prop} {w w':World} (h:aj w w'):Stp K ze w w':=⟨h.os,h.tape,h.output,h.size,fun g hg=>.inl (Below.block h g hg)⟩
theorem EP {K:KC} {w0 w w':World} (h:aj w0 w) (keep:∀ b,b < w0.heap.size→K.S b) (s:Stp K (fun _ g=>w0.heap.size≤g) w w'):aj w0 w':=
 Below.trans h ⟨s.os,s.tape,s.output,s.size,fun g hg=>by
  rcases s.nH g (Nat.lt_of_lt_of_le hg h.size) with e | ⟨⟨_,hi⟩,_⟩ | e
  ·exact e
  ·exact absurd hi (Nat.not_le.2 hg)
  ·exact absurd (keep g hg) e⟩
theorem IB {K:KC} {w0 w1:World} {top:Nat} (h:aj w0 w1) (H:Hp) (hf:∀ i,top≤i→H i=none):
  ∃ β w2,aF K w1 w2∧aj w0 w2∧(∀ i t cs,H i=some (t,cs)→w0.heap.size≤β i∧aV w2 (β i) t (cs.map (AV.leaf β)).toArray)∧∀ i j,H i≠none→H j≠none→β i=β j→i=j:=by
 let β:Nat→Nat:=fun i=>w1.heap.size + i
 refine ⟨β,mkW H β top w1,aF.of (vD H β w1 _),h.aI (vD H β w1 _),fun i t cs hi=>⟨?_,EO H β w1 hi _ ?_⟩,fun i j _ _ e=> ?_⟩
 ·have:=h.size;show w0.heap.size≤w1.heap.size + i;omega
 ·apply Classical.byContradiction
  intro e
  rw [hf i (by omega)] at hi
  cases hi
 ·change w1.heap.size + i=w1.heap.size + j at e;omega
structure Cx where
 P:Program
 w0:World
 N:Nat
 K:KC
 SU:TypeId→Bool
 ti:TypeId→Option TI
 keep:∀ b,b < w0.heap.size→K.S b
 ze:Nat→Nat→Prop:=fun _ g=>w0.heap.size≤g
 Old:World→Prop:=fun w=>aj w0 w
 top:Nat:=2 * N
 topN:2 * N≤top:=by exact Nat.le_refl _
 rH:∀ i g,i < 2 * N→w0.heap.size≤g→ze i g:=by exact fun _ _ _ h=>h
 Cl:∀ i j g,ze i g→j < 2 * N→ze j g:=by exact fun _ _ _ h _=>h
 ez:∀ w,Old w→w0.heap.size≤w.heap.size:=by exact fun _ h=>aj.size h
 pe:Old w0:=by exact aj.refl _
 vE:∀ w w',Old w→(∀ b,b < w0.heap.size→K.S b)→aF K w w'→Stp K ze w w'→Old w':=by exact fun _ _ h k _ s=>EP h k s
 Gx:∀ w a u,Old w→(∀ i,¬ ze i a.block)→w0.cell? a=some u→w.cell? a=some u:=by exact fun _ _ _ h _ hc=>aj.cell h hc
 lay:∀ w1 (H:Hp),Old w1→(∀ i t cs,H i=some (t,cs)→K.fz t=false∧cs.all aG=true)→(∀ i,top≤i→H i=none)→
  ∃ β w2,aF K w1 w2∧Old w2∧(∀ i t cs,H i=some (t,cs)→ze i (β i)∧aV w2 (β i) t (cs.map (AV.leaf β)).toArray)∧∀ i j,H i≠none→H j≠none→β i=β j→i=j:=by exact fun _ H h _ hf=>IB h H hf
theorem Cx.aI (C:Cx) {w w':World} (h:C.Old w) (k:aj w w'):C.Old w':=C.vE _ _ h C.keep (aF.of k) (Stp.bk k)
def Cx.At (C:Cx) (a:Addr) (u:Value):Prop:=∀ w,C.Old w→w.cell? a=some u
def Cx.Ok (C:Cx):Prop:=∀ t i,C.ti t=some i→TI.Ok C.P t i
def ev (F:Fr):Operand→Option AV
 | .tmp t=>F t
 | .const v=>some (.val v)
 | .func f=>some (.val (.func (.func f) #[] #[]))
 | .global _=>none
def jD (F:Fr) (x:Operand):Option Value:=match ev F x with | some (.val v)=>some v | _=>none
def evs (F:Fr):List Operand→Option (List Value)
 | []=>some []
 | x::r=>match jD F x,evs F r with | some v,some l=>some (v::l) | _,_=>none
def uf (F:Fr):List Operand→Option (List AV)
 | []=>some []
 | x::r=>match ev F x,uf F r with | some v,some l=>some (v::l) | _,_=>none
def vF:List AV→Option (List (Nat×Nat))
 | []=>some []
 | .box i off::r=>(match vF r with | some l=>some ((i,off)::l) | none=>none)
 | _::_=>none
def Gy (F:Fr) (x:Operand):Option (FuncId×List AV×List AV):=match ev F x with
 | some (.val (.func (.func g) first cap))=>some (g,first.toList.map .val,cap.toList.map .val)
 | some (.fn g first cap)=>some (g,first.map .val,cap.map fun p=>.box p.1 p.2)
 | _=>none
def Ap (F:Fr):List (Nat×Operand)→Option (List (Nat×AV))
 | []=>some []
 | (k,x)::r=>match ev F x,Ap F r with | some v,some l=>some ((k,v)::l) | _,_=>none
def evo (F:Fr):Option Operand→Option (Option Int)
 | none=>some none
 | some x=>match jD F x with | some (.int _ k)=>some (some k) | _=>none
def binI (op:BinOp) (k:IntKind) (a b:Int):Option Value:=
 match op with
 | .eql=>some (.bool (a == b))
 | .neq=>some (.bool (a != b))
 | .lss=>some (.bool (decide (a < b)))
 | .leq=>some (.bool (decide (a≤b)))
 | .gtr=>some (.bool (decide (a > b)))
 | .geq=>some (.bool (decide (a≥b)))
 | .add=>some (.int k (k.wrap (a + b)))
 | .sub=>some (.int k (k.wrap (a - b)))
 | .mul=>some (.int k (k.wrap (a * b)))
 | .quo=>bif decide (b=0) then none else some (.int k (k.wrap (a.tdiv b)))
 | .rem=>bif decide (b=0) then none else some (.int k (a.tmod b))
 | .and=>some (.int k (bits .and k a b))
 | .or=>some (.int k (bits .or k a b))
 | .xor=>some (.int k (bits .xor k a b))
 | .andNot=>some (.int k (bits .andNot k a b))
 | _=>none
def shI (op:BinOp) (k:IntKind) (a b:Int):Option Value:=
 match op with
 | .shl=>some (.int k (k.wrap (a * 2 ^ min b.toNat k.bits)))
 | .shr=>some (.int k (a.fdiv (2 ^ min b.toNat k.bits)))
 | _=>none
def isSh:BinOp→Bool
 | .shl=>true
 | .shr=>true
 | _=>false
def binS (op:BinOp) (a b:ByteArray):Option Value:=
 match op with
 | .eql=>some (.bool (a.toList == b.toList))
 | .neq=>some (.bool !(a.toList == b.toList))
 | _=>none
def binB (op:BinOp) (a b:Bool):Option Value:=
 match op with
 | .eql=>some (.bool (a == b))
 | .neq=>some (.bool (!(a == b)))
 | _=>none
def rI (op:BinOp) (a:Bool):Option Value:=
 match op with
 | .eql=>some (.bool a)
 | .neq=>some (.bool (!a))
 | _=>none
def sameKind:IntKind→IntKind→Bool:=fun k l=>decide (k=l)
def binA (op:BinOp):Value→Value→Option Value
 | .int k a,.int l b=>bif isSh op then (bif decide (b < 0) then none else shI op k a b) else bif sameKind k l then binI op k a b else none
 | .string a,.string b=>binS op a b
 | _,_=>none
inductive eg where
 | fn (g:FuncId) (args:List AV)
 | op (o:Oper) (vs:List AV)
def eg.ids:eg→List Nat
 | .fn _ l=>fC l
 | .op _ l=>fC l
inductive Step where
 | ee (v:AV) (u:Option (Nat×(TypeId×List AV)))
 | read (i:TI) (a:Addr)
 | de (i:TI) (cs:List AV) (off:Nat)
 | cond (φ:Prop) (v:AV) (u:Option (Nat×(TypeId×List AV)))
 | call (d:eg)
 | bad
def yz:Option AV→Step
 | some v=>.ee v none
 | none=>.bad
def rJ:Option Value→Step
 | some v=>.ee (.val v) none
 | none=>.bad
def lC (i:TI) (cs:List Value):Value:=bif i.agg then .agg cs.toArray else cs.headD undef
def ik:List AV→Option (List Value)
 | []=>some []
 | .val v::r=>(match ik r with | some l=>some (v::l) | none=>none)
 | _::_=>none
def Gz {α:Type}:List AV→(List Value→α)→α→α
 | [],k,_=>k []
 | .val v::r,k,e=>Gz r (fun l=>k (v::l)) e
 | _::_,_,e=>e
theorem Cm {α:Type}:∀ (l:List AV) (k:List Value→α) (e:α),Gz l k e=match ik l with | some vs=>k vs | none=>e
 | [],_,_=>rfl
 | .val v::r,k,e=>by
   show Gz r (fun l=>k (v::l)) e=match (match ik r with | some l=>some (v::l) | none=>none) with | some vs=>k vs | none=>e
   rw [Cm r]
   cases ik r <;> rfl
 | .box _ _::_,_,_=>rfl
 | .kC _ _::_,_,_=>rfl
 | .row _ _ _ _::_,_,_=>rfl
 | .fn _ _ _::_,_,_=>rfl
 | .agg _::_,_,_=>rfl
 | .iC _::_,_,_=>rfl
def ug (l:List AV):AV:=match ik l with | some vs=>.val (.agg vs.toArray) | none=>.agg l
def IC {α:Type} (l:List AV) (k:AV→α):α:=Gz l (fun vs=>k (.val (.agg vs.toArray))) (k (.agg l))
theorem kM {α:Type} (l:List AV) (k:AV→α):IC l k=k (ug l):=by
 unfold IC ug
 rw [Cm]
 cases ik l <;> rfl
def lV (i:TI) (cs:List AV):AV:=bif i.agg then ug cs else cs.headD (.val undef)
def il {α:Type} {γ:Type}:List γ→(List γ→α)→α
 | [],k=>k []
 | x::r,k=>il r fun l=>k (x::l)
theorem cf {α γ:Type}:∀ (l:List γ) (k:List γ→α),il l k=k l
 | [],_=>rfl
 | x::r,k=>cf r fun l=>k (x::l)
def ID {γ:Type}:List γ→Nat→Option γ
 | [],_=>none
 | x::_,0=>some x
 | _::r,k + 1=>ID r k
theorem vG {γ:Type}:∀ (l:List γ) (k:Nat),ID l k=l[k]?
 | [],_=>rfl
 | _::_,0=>rfl
 | _::r,k + 1=>by rw [ID,vG r k];rfl
def fJ:AV→Bool
 | .iC _=>false
 | _=>true
def jY:AV→Bool
 | .agg _=>false
 | .iC _=>false
 | _=>true
def cellsOf:AV→List AV
 | .val v=>v.cells.toList.map .val
 | .agg l=>l
 | x=>[x]
def wW (i:TI) (cs:List AV) (off:Nat):Step:=
 bif Nat.ble (off + i.size) cs.length then il ((cs.drop off).take i.size) (fun l=>bif i.agg then IC l (fun v=>.ee v none) else (match l with | x::_=>.ee x none | []=>.bad)) else .bad
def lD (i:TI) (b:Nat) (t:TypeId) (cs:List AV) (off:Nat) (v:AV):Step:=
 bif Nat.ble (off + i.size) cs.length && Nat.beq (cellsOf v).length i.size && (cellsOf v).all aG
 then il (cs.take off++(cellsOf v++cs.drop (off + i.size))) (fun l=>.ee (.val undef) (some (b,(t,l)))) else .bad
def Cn (i:TI) (b:Nat) (t:TypeId) (cs:List AV) (off:Nat) (v:AV):Step:=
 bif Nat.beq (cellsOf v).length i.size && (cellsOf v).all aG
 then .cond (off + i.size≤cs.length) (.val undef) (some (b,(t,cs.take off++(cellsOf v++cs.drop (off + i.size))))) else .bad
def oq (K:KC) (d:Nat) (t:TypeId) (cs:List AV):Option (TypeId×List AV)→Step
 | none=>bif !K.fz t && cs.all aG then il cs (fun l=>.ee (.box d 0) (some (d,(t,l)))) else .bad
 | some _=>.bad
def Co (sz:Nat):Nat→List (Nat×AV)→Option (List AV)
 | _,[]=>some []
 | k,(j,v)::r=>bif Nat.beq j k && Nat.beq (cellsOf v).length sz && fJ v then (match Co sz (k + 1) r with | some l=>some (cellsOf v++l) | none=>none) else none
def uh (K:KC) (d:Nat) (e:TypeId) (n:Nat) (cs:List AV):Option (TypeId×List AV)→Step
 | none=>bif !K.fz e && cs.all aG then il cs (fun l=>.ee (.row d 0 n n) (some (d,(e,l)))) else .bad
 | some _=>.bad
def zf (places:Array (Nat×Nat)) (cells:List AV):List (Nat×AV)→Option (List AV)
 | []=>some cells
 | (i,v)::rest=>match places[i]? with
   | none=>none
   | some p=>bif Nat.beq (cellsOf v).length p.2 && Nat.ble (p.1 + p.2) cells.length && fJ v then zf places (cells.take p.1++(cellsOf v++cells.drop (p.1 + p.2))) rest else none
def jw:Nat→List AV→List AV
 | 0,_=>[]
 | n + 1,z=>z++jw n z
def ot (F:Fr) (o:Oper):Step:=match uf F o.op.operands.toList with | some vs=>.call (.op o vs) | none=>.bad
def wX:List Value→Option (IntKind×List Int)
 | []=>none
 | [.int k a]=>some (k,[a])
 | .int k a::r=>(match wX r with | some (l,xs)=>bif sameKind k l then some (k,a::xs) else none | none=>none)
 | _=>none
def tf:Int→List Int→Int
 | x,[]=>x
 | x,y::r=>tf (if y > x then y else x) r
def KR:Int→List Int→Int
 | x,[]=>x
 | x,y::r=>KR (if y < x then y else x) r
def lE (i:TI) (cs:List AV) (k:Nat):Step:=match i.places[k]?,i.dy[k]? with
 | some p,some true=>il ((cs.drop p.1).take p.2) (fun l=>IC l (fun v=>.ee v none))
 | some p,some false=>(match ID cs p.1 with | some x=>bif jY x then .ee x none else .bad | none=>.bad)
 | _,_=>.bad
def act (C:Cx) (F:Fr) (H:Hp) (o:Oper):Step:=
 match o.op with
 | .move x=>yz (ev F x)
 | .assign x=>yz (ev F x)
 | .pick c x y=>match jD F c with | some (.bool t)=>yz (bif t then ev F x else ev F y) | _=>.bad
 | .unOp .not _ x=>match jD F x with | some (.bool t)=>.ee (.val (.bool !t)) none | _=>.bad
 | .unOp .neg _ x=>match jD F x with | some (.int k n)=>.ee (.val (.int k (k.wrap (0 - n)))) none | _=>.bad
 | .binOp op t x y _=>match jD F x,jD F y with
   | some (.bool a),some (.bool b)=>(match C.ti t with | some i=>rJ (bif i.bool then binB op a b else none) | none=>.bad)
   | some (.pointer p),some (.pointer none)=>(match C.ti t with | some i=>rJ (bif i.ptr then rI op p.isNone else none) | none=>.bad)
   | some (.slice p _ _),some (.slice none n c)=>(match C.ti t with | some i=>rJ (bif i.elem.isSome && (Nat.beq n 0 && Nat.beq c 0) then rI op p.isNone else none) | none=>.bad)
   | some a,some b=>rJ (binA op a b)
   | none,some (.pointer none)=>(match ev F x,C.ti t with
     | some (.box _ _),some i=>rJ (bif i.ptr then rI op false else none)
     | some (.kC _ _),some i=>rJ (bif i.ptr then rI op false else none)
     | _,_=>.bad)
   | none,some (.slice none n c)=>(match ev F x,C.ti t with
     | some (.row _ _ _ _),some i=>rJ (bif i.elem.isSome && (Nat.beq n 0 && Nat.beq c 0) then rI op false else none)
     | _,_=>.bad)
   | _,_=>.bad
 | .convert s t x=>match C.ti s,C.ti t,jD F x with
   | some _,some i,some (.int _ n)=>(match i.kind with | some k=>.ee (.val (.int k (k.wrap n))) none | none=>.bad)
   | _,_,_=>.bad
 | .extract x k=>match ev F x with
   | some (.val (.tuple vs))=>rJ (ID vs.toList k)
   | some (.iC l)=>(match ID l k with | some x=>bif fJ x then .ee x none else .bad | none=>.bad)
   | _=>.bad
 | .field t x k=>match ev F x,C.ti t with
   | some (.val (.agg cs)),some i=>lE i (cs.toList.map .val) k
   | some (.agg l),some i=>lE i l k
   | _,_=>.bad
 | .fieldAddr t x k=>match ev F x,C.ti t with
   | some (.box b off),some i=>match i.places[k]? with | some p=>.ee (.box b (off + p.1)) none | none=>.bad
   | some (.kC b off),some i=>match i.places[k]? with | some p=>.ee (.kC b (off + p.1)) none | none=>.bad
   | some (.val (.pointer (some ⟨b,off,none⟩))),some i=>match i.places[k]? with | some p=>.ee (.val (.pointer (some ⟨b,off + p.1,none⟩))) none | none=>.bad
   | _,_=>.bad
 | .nilCheck x=>match ev F x with
   | some (.box b off)=>.ee (.box b off) none
   | some (.kC b off)=>.ee (.kC b off) none
   | some (.val (.pointer (some a)))=>.ee (.val (.pointer (some a))) none
   | _=>.bad
 | .build t ps=>match C.ti t,Ap F ps.toList with
   | some i,some l=>match (bif i.agg then zf i.places (i.zero.cells.toList.map .val) l else none) with | some cs=>il cs (fun l=>IC l (fun v=>.ee v none)) | none=>.bad
   | _,_=>.bad
 | .alloc t=>match o.dst,C.ti t with
   | some d,some i=>oq C.K d t (i.zero.cells.toList.map .val) (H d)
   | _,_=>.bad
 | .box t x=>match o.dst,ev F x with
   | some d,some v=>oq C.K d t (cellsOf v) (H d)
   | _,_=>.bad
 | .load t x=>match ev F x,C.ti t with
   | some (.box b off),some i=>match H b with | some (_,cs)=>wW i cs off | none=>.bad
   | some (.kC b off),some i=>match H b with | some (_,cs)=>.de i cs off | none=>.bad
   | some (.val (.pointer (some a))),some i=>.read i a
   | _,_=>.bad
 | .store t x y=>match ev F x,ev F y,C.ti t with
   | some (.box b off),some v,some i=>match H b with | some (tb,cs)=>lD i b tb cs off v | none=>.bad
   | some (.kC b off),some v,some i=>match H b with | some (tb,cs)=>Cn i b tb cs off v | none=>.bad
   | _,_,_=>.bad
 | .makeFunc (.func g) first cap=>match evs F first.toList,uf F cap.toList with
   | some l,some []=>.ee (.val (.func (.func g) l.toArray #[])) none
   | some l,some m=>(match vF m with | some bs=>.ee (.fn g l bs) none | none=>.bad)
   | _,_=>.bad
 | .buildSlice t n ps=>bif C.SU t then ot F o else match o.dst,C.ti t,Ap F ps.toList with
   | some d,some i,some l=>(match i.elem with
     | some (e,sz)=>(match C.ti e,Co sz 0 l with
       | some _,some cs=>bif Nat.beq ps.size n && Nat.ble (n * sz) 16777216 then uh C.K d e n cs (H d) else .bad
       | _,_=>.bad)
     | none=>.bad)
   | _,_,_=>.bad
 | .indexAddr t x ix=>match ev F x,jD F ix,C.ti t with
   | some (.val (.slice (some ⟨b,off,none⟩) n _)),some (.int _ k),some i=>(match i.elem with
     | some (_,sz)=>.cond ((0:Int)≤k∧k < (n:Int)) (.val (.pointer (some ⟨b,off + k.toNat * sz,none⟩))) none
     | none=>.bad)
   | some (.row b off n _),some (.int _ k),some i=>(match i.elem with
     | some (_,sz)=>.cond ((0:Int)≤k∧k < (n:Int)) (.kC b (off + k.toNat * sz)) none
     | none=>.bad)
   | _,_,_=>.bad
 | .makeSlice t l c=>match o.dst,C.ti t,jD F l,jD F c with
   | some d,some i,some (.int _ n),some (.int _ m)=>(match i.elem with
     | some (e,sz)=>(match C.ti e,H d with
       | some ie,none=>bif !C.K.fz e && ie.zero.cells.toList.all aR then
        .cond (n=m∧0≤n∧n * (24 * (ie.size:Int))≤140737488355328) (.row d 0 n.toNat n.toNat) (some (d,(e,jw n.toNat (ie.zero.cells.toList.map .val)))) else .bad
       | _,_=>.bad)
     | none=>.bad)
   | _,_,_,_=>.bad
 | .slice t x lo hi none=>match ev F x,C.ti t,evo F lo,evo F hi with
   | some (.row b off n c),some i,some l,some h=>(match i.elem with
     | some (_,sz)=>.cond (0≤l.getD 0∧l.getD 0≤h.getD (n:Int)∧h.getD (n:Int)≤(c:Int)∧(c:Int)≤9223372036854775807) (.row b (if c=(l.getD 0).toNat then off else off + (l.getD 0).toNat * sz) ((h.getD (n:Int)).toNat - (l.getD 0).toNat) (c - (l.getD 0).toNat)) none
     | none=>.bad)
   | some (.val (.slice p n c)),some i,some l,some h=>(match i.elem with
     | some (_,sz)=>.cond (0≤l.getD 0∧l.getD 0≤h.getD (n:Int)∧h.getD (n:Int)≤(c:Int)∧(c:Int)≤9223372036854775807) (.val (.slice (if c=(l.getD 0).toNat then p else p.map (·.add ((l.getD 0).toNat * sz))) ((h.getD (n:Int)).toNat - (l.getD 0).toNat) (c - (l.getD 0).toNat))) none
     | none=>.bad)
   | _,_,_,_=>.bad
 | .call c=>match c.callee with
   | .builtin .len=>match c.args.toList,c.argTypes.toList with
     | [x],[t]=>(match ev F x,C.ti t with
       | some (.val (.slice _ n _)),some i=>(match i.elem with | some _=>.ee (.val (.int .i64 (n:Int))) none | none=>.bad)
       | some (.row _ _ n _),some i=>(match i.elem with | some _=>.ee (.val (.int .i64 (n:Int))) none | none=>.bad)
       | _,_=>.bad)
     | _,_=>.bad
   | .builtin .max=>match (evs F c.args.toList).bind wX with
     | some (k,x::r)=>.ee (.val (.int k (tf x r))) none
     | _=>.bad
   | .builtin .min=>match (evs F c.args.toList).bind wX with
     | some (k,x::r)=>.ee (.val (.int k (KR x r))) none
     | _=>.bad
   | .value f=>match Gy F f,uf F c.args.toList with
     | some (g,first,cap),some l=>il (first++(l++cap)) (fun l=>.call (.fn g l))
     | _,_=>.bad
   | _=>ot F o
 | _=>ot F o
def wants (full:Array Oper) (F:Fr) (o:Oper):Option Bool:=
 match o.guard with
 | none=>some true
 | some (g,b)=>match (full[g]?).bind (·.dst) with
   | none=>none
   | some d=>match F d with
     | some (.val (.bool c))=>some (c == b)
     | some (.val (.tuple _))=>some false
     | _=>none
def jE (N:Nat):Option Nat→Bool
 | none=>true
 | some d=>Nat.blt d N
def stepOf (C:Cx) (full:Array Oper) (F:Fr) (H:Hp) (o:Oper):Step:=
 bif jE C.N o.dst then (match wants full F o with
  | none=>.bad
  | some false=>.ee (.val undef) none
  | some true=>act C F H o) else .bad
def GA (l:List FuncId) (c:Call):Bool:=match c.callee with | .value (.func g)=>l.any (Nat.beq g) | _=>false
def Aq (l:List FuncId) (c:Call):Bool:=match c.callee with | .value (.func g)=>l.any (Nat.beq (g + 1000000)) | _=>false
def ax (su:TypeId→Bool) (l:List FuncId) (o:Oper):Nat:=match o.op with
 | .move _=>0
 | .assign _=>0
 | .pick _ _ _=>0
 | .unOp .not _ _=>0
 | .unOp .neg _ _=>0
 | .binOp _ _ _ _ _=>0
 | .convert _ _ _=>0
 | .extract _ _=>0
 | .field _ _ _=>0
 | .fieldAddr _ _ _=>0
 | .nilCheck _=>0
 | .build _ _=>0
 | .makeFunc (.func _) _ _=>0
 | .indexAddr _ _ _=>0
 | .slice _ _ _ _ none=>0
 | .load _ _=>1
 | .alloc _=>2
 | .box _ _=>2
 | .makeSlice _ _ _=>2
 | .buildSlice t _ _=>bif su t then 4 else 2
 | .store _ _ _=>3
 | .call c=>(match c.callee with
   | .builtin .len=>0
   | .builtin .max=>0
   | .builtin .min=>0
   | .builtin .copy=>3
   | .value _=>bif Aq l c then 5 else bif GA l c then 3 else 4
   | _=>5)
 | .lookup _ _ _ _=>4
 | _=>5
def wY:Nat→Nat
 | 3=>1
 | 5=>2
 | _=>0
def lvl (su:TypeId→Bool) (m:Option (List FuncId)) (o:Oper):Nat:=match m with
 | none=>2
 | some l=>wY (ax su l o)
def ou (P:Program) (g:FuncId):Prop:=∃ fn,P.funcs[g]? =some fn∧(fn.name == "runtime.NumGoroutine")=false∧fn.body.isNone=false
structure lW (C:Cx) (β:Nat→Nat) (w:World) (i:Nat) (t:TypeId) (cs:List AV):Prop where
 new:C.ze i (β i)
 ty:C.K.fz t=false
 cls:aV w (β i) t (cs.map (AV.leaf β)).toArray
 ok:cs.all aG=true
inductive Reach (H:Hp) (ids:List Nat):Nat→Prop
 | base {i:Nat}:i∈ids→Reach H ids i
 | step {i j:Nat} {t:TypeId} {cs:List AV}:Reach H ids i→H i=some (t,cs)→j∈ay cs→Reach H ids j
structure lX (C:Cx) (β:Nat→Nat) (H:Hp) (ids:List Nat) (w:World):Prop where
 own:∀ i,Reach H ids i→∀ t cs,H i=some (t,cs)→lW C β w i t cs
 apart:∀ i j,Reach H ids i→Reach H ids j→H i≠none→H j≠none→β i=β j→i=j
structure wZ (C:Cx) (β bC:Nat→Nat) (H:Hp) (ids:List Nat) (del:Option Nat) (ups:List (Nat×(TypeId×List AV))) (w w':World):Prop where
 os:w'.os=w.os
 tape:w'.tape=w.tape
 output:w'.output=w.output
 size:w.heap.size≤w'.heap.size
 block:∀ b,b < w.heap.size→(∀ x∈ups,b≠bC x.1)→(∀ i,del=some i→b≠β i)→(C.K.S b∨∀ t cur,C.K.fz t=true→w.heap[b]?≠some (Obj.cells cur t (0,0)))→w'.heap[b]? =w.heap[b]?
 lZ:∀ i,i∉ups.map (·.1)→bC i=β i
 gone:∀ i,del=some i→Reach H ids i∧H i≠none
 left:∀ i,del=some i→(w'.heap[β i]? =w.heap[β i]?∨∃ t cs,aV w' (β i) t (List.toArray cs)∧C.K.fz t=false∧cs.all aR=true)∨∃ x∈ups,bC x.1=β i
 own:∀ x∈ups,lW C bC w' x.1 x.2.1 x.2.2
 IE:∀ x∈ups,(H x.1≠none∧del≠some x.1∧Reach H ids x.1∧bC x.1=β x.1)∨((H x.1=none∨del=some x.1)∧x.1 < 2 * C.N∧(w.heap.size≤bC x.1∨∃ i,del=some i∧bC x.1=β i))
 once:(ups.map (·.1)).Nodup
 apart:∀ x∈ups,∀ y∈ups,bC x.1=bC y.1→x.1=y.1
 closed:∀ x∈ups,∀ j∈ay x.2.2,j∈ups.map (·.1)∨(H j≠none∧del≠some j)
def tg (P:Program) (d:eg) (β:Nat→Nat) (w:World) (R:Ending→World→Prop):Prop:=match d with
 | .fn g args=>ou P g∧Calls P g (args.map (AV.aX β)).toArray w R
 | .op o vs=>∃ v w2,(∀ ρ:Operand→Value,o.op.operands.toList.map ρ=vs.map (AV.aX β)→(execOp ρ o).run P w=.ok (.value v) w2∨((execOp ρ o).run P w=.ok .skip w2∧v=undef))∧R (.returned v) w2
def bN (C:Cx) (lv:Nat) (F:Fr) (H:Hp) (d:eg) (w:World) (k:AV→Fr→Hp→World→Prop):Prop:=
 ∀ w1 β,aF C.K w w1→C.Old w1→lX C β H d.ids w1→tg C.P d β w1 fun e w2=>∃ bC r del ups,e=.returned (r.aX bC)∧(∀ i∈r.ids,i∈ups.map (·.1)∨(Reach H d.ids i∧H i≠none∧del≠some i))∧(1≤lv∨ups=[])∧(2≤lv∨del=none)∧
   wZ C β bC H d.ids del ups w1 w2∧(aF C.K w w2→aF C.K w1 w2→C.Old w2→∀ ρ,(∀ x,aR (ρ x)=true)→k r (F.forget del ρ) ((H.forget del ρ).eK ups) w2)
def ReadVC (C:Cx) (seq:Bool) (i:TI) (a:Addr) (w:World) (k:Value→Prop):Prop:=
 ∃ cs:List Value,cs.length=i.size∧((∀ j u,cs[j]? =some u→C.At (a.add j) u)∨(seq=true∧∀ w1,aF C.K w w1→C.Old w1→∀ j u,cs[j]? =some u→w1.cell? (a.add j)=some u))∧k (lC i cs)
def seqOf:Option (List FuncId)→Bool
 | none=>true
 | some _=>false
def one (C:Cx) (m:Option (List FuncId)) (full:Array Oper) (o:Oper) (k:Fr→Hp→World→Prop) (F:Fr) (H:Hp) (w:World):Prop:=
 match stepOf C full F H o with
 | .ee v u=>k (F.bh o.dst v) (H.upd u) w
 | .read i a=>ReadVC C (seqOf m) i a w fun v=>k (F.bh o.dst (.val v)) H w
 | .de i cs off=>∃ vs:List AV,vs.length=i.size∧(∀ j u,vs[j]? =some u→cs[off + j]? =some u)∧k (F.bh o.dst (lV i vs)) H w
 | .cond φ v u=>φ∧k (F.bh o.dst v) (H.upd u) w
 | .call d=>bN C (lvl C.SU m o) F H d w fun r F' H' w2=>k (F'.bh o.dst r) H' w2
 | .bad=>False
def aA (C:Cx) (m:Option (List FuncId)) (full:Array Oper):List Oper→(Fr→Hp→World→Prop)→Fr→Hp→World→Prop
 | [],K,F,H,w=>K F H w
 | o::r,K,F,H,w=>one C m full o (aA C m full r K) F H w
def gJ (F:Fr) (H:Hp):Prop:=∀ d v,F d=some v→∀ i∈v.ids,H i≠none
structure Ar (C:Cx) (H:Hp):Prop where
 ok:∀ i t cs,H i=some (t,cs)→C.K.fz t=false∧cs.all aG=true
 closed:∀ i t cs,H i=some (t,cs)→∀ j∈ay cs,H j≠none
 mC:∀ i,C.top≤i→H i=none
structure Rel (C:Cx) (β:Nat→Nat) (F:Fr) (H:Hp) (a:Act) (w:World):Prop where
 defers:a.defers=[]
 size:a.tmps.size=C.N
 tmp:∀ d v,F d=some v→a.tmps.getD d undef=v.aX β
 own:∀ i t cs,H i=some (t,cs)→lW C β w i t cs
 apart:∀ i j,H i≠none→H j≠none→β i=β j→i=j
 closed:gJ F H
 fits:∀ d v,F d=some v→d < C.N
 hp:Ar C H
 old:C.Old w
theorem Fr.cj (F:Fr) (d n:Nat) (v:AV):(F.put d v) n=if n=d then some v else F n:=by
 unfold Fr.put
 by_cases h:n=d
 ·subst h;simp
 ·have:Nat.beq n d=false:=by rw [←Bool.not_eq_true,Nat.beq_eq];exact h
  simp [this,h]
theorem Hp.cj (H:Hp) (d n:Nat) (c:TypeId×List AV):(H.put d c) n=if n=d then some c else H n:=by
 unfold Hp.put
 by_cases h:n=d
 ·subst h;simp
 ·have:Nat.beq n d=false:=by rw [←Bool.not_eq_true,Nat.beq_eq];exact h
  simp [this,h]
theorem jj:∀ {l:List AV} {vs:List Value},ik l=some vs→l=vs.map .val
 | [],vs,h=>by cases h;rfl
 | .val v::r,vs,h=>by
   unfold ik at h
   split at h
   ·rename_i l hl
    cases h
    rw [jj hl];rfl
   ·cases h
 | .box _ _::_,_,h=>by cases h
 | .kC _ _::_,_,h=>by cases h
 | .row _ _ _ _::_,_,h=>by cases h
 | .fn _ _ _::_,_,h=>by cases h
 | .agg _::_,_,h=>by cases h
 | .iC _::_,_,h=>by cases h
theorem ah (β:Nat→Nat) (vs:List Value):(vs.map AV.val).map (AV.leaf β)=vs:=by rw [List.map_map];exact List.map_id vs
theorem gQ (β:Nat→Nat) (vs:List Value):(vs.map AV.val).map (AV.aX β)=vs:=by rw [List.map_map];exact List.map_id vs
theorem ao (vs:List Value):ay (vs.map AV.val)=[]:=by
 induction vs with
 | nil=>rfl
 | cons v r ih=>rw [List.map_cons,ay,ih];rfl
theorem qz (β:Nat→Nat) (l:List AV):(ug l).aX β=.agg (l.map (AV.leaf β)).toArray:=by
 unfold ug
 cases h:ik l with
 | none=>rfl
 | some vs=>
   have:=jj h
   subst this
   rw [ah];rfl
theorem th {l:List AV} {i:Nat} (h:i∈(ug l).ids):i∈ay l:=by
 unfold ug at h
 cases hv:ik l with
 | none=>rw [hv] at h;exact h
 | some vs=>rw [hv] at h;cases h
theorem im (β:Nat→Nat):∀ (v:AV),(∀ l,v≠.iC l)→(cellsOf v).map (AV.leaf β)=(v.aX β).cells.toList
 | .val v,_=>by unfold cellsOf;rw [ah];rfl
 | .box _ _,_=>rfl
 | .kC _ _,_=>rfl
 | .row _ _ _ _,_=>rfl
 | .fn _ _ _,_=>rfl
 | .agg l,_=>by simp [cellsOf,AV.aX,Value.cells]
 | .iC l,h=>absurd rfl (h l)
theorem ma {v:AV} (h:fJ v=true):∀ l,v≠.iC l:=fun l e=>by subst e;cases h
theorem GB {v:AV} (h:(cellsOf v).all aG=true):∀ l,v≠.iC l:=fun l e=>by subst e;simp [cellsOf,aG] at h
theorem jk {v:AV} (h:∀ l,v≠.iC l) {i:Nat} (hi:i∈ay (cellsOf v)):i∈v.ids:=by
 cases v with
 | val v=>rw [cellsOf,ao] at hi;cases hi
 | iC l=>exact absurd rfl (h l)
 | agg l=>exact hi
 | box i off=>simpa [cellsOf,ay,AV.cL,AV.ids] using hi
 | kC i off=>simpa [cellsOf,ay,AV.cL,AV.ids] using hi
 | row i o n c=>simpa [cellsOf,ay,AV.cL,AV.ids] using hi
 | fn g f c=>simpa [cellsOf,ay,AV.cL,AV.ids] using hi
theorem cz (l r:List AV):ay (l++r)=ay l++ay r:=by
 induction l with
 | nil=>rfl
 | cons v l ih=>rw [List.cons_append,ay,ay,ih,List.append_assoc]
theorem IG {β:Nat→Nat}:∀ {v:AV},aG v=true→v.leaf β=v.aX β
 | .val _,_=>rfl
 | .box _ _,_=>rfl
 | .kC _ _,_=>rfl
 | .row _ _ _ _,_=>rfl
 | .fn _ _ _,_=>rfl
 | .agg _,h=>by cases h
 | .iC _,h=>by cases h
theorem ow {β:Nat→Nat}:∀ {v:AV},jY v=true→v.leaf β=v.aX β
 | .val _,_=>rfl
 | .box _ _,_=>rfl
 | .kC _ _,_=>rfl
 | .row _ _ _ _,_=>rfl
 | .fn _ _ _,_=>rfl
 | .agg _,h=>by cases h
 | .iC _,h=>by cases h
theorem qA {v:AV} (h:jY v=true):v.cL=v.ids:=by cases v <;> first | rfl | cases h
theorem ox {β:Nat→Nat} {v:AV} (h:fJ v=true):v.jB β=v.aX β:=by cases v <;> first | rfl | cases h
theorem qB {v:AV} (h:fJ v=true):v.td=v.ids:=by cases v <;> first | rfl | cases h
theorem KS {v:AV} (h:aG v=true):v.cL=v.ids:=by
 cases v <;> first | rfl | cases h
section
variable {C:Cx} {β:Nat→Nat} {F:Fr} {H:Hp} {a:Act} {w:World}
theorem Rel.ev (hr:Rel C β F H a w) {x:Operand} {v:AV} (h:Proofs.YtabalinjfgcfeaaGreat.ev F x=some v):a.eval x=v.aX β:=by
 cases x with
 | tmp t=>exact hr.tmp t v h
 | const c=>cases h;rfl
 | func f=>cases h;rfl
 | global g=>cases h
theorem evv_ev {x:Operand} {v:Value} (h:Proofs.YtabalinjfgcfeaaGreat.jD F x=some v):Proofs.YtabalinjfgcfeaaGreat.ev F x=some (.val v):=by
 unfold Proofs.YtabalinjfgcfeaaGreat.jD at h
 split at h
 ·rename_i u hu
  cases h
  exact hu
 ·cases h
theorem Rel.jD (hr:Rel C β F H a w) {x:Operand} {v:Value} (h:Proofs.YtabalinjfgcfeaaGreat.jD F x=some v):a.eval x=v:=hr.ev (evv_ev h)
theorem Rel.evs (hr:Rel C β F H a w):∀ {l:List Operand} {vs:List Value},Proofs.YtabalinjfgcfeaaGreat.evs F l=some vs→l.map a.eval=vs
 | [],vs,h=>by cases h;rfl
 | x::r,vs,h=>by
   unfold Proofs.YtabalinjfgcfeaaGreat.evs at h
   split at h
   ·rename_i v l hv hl
    cases h
    rw [List.map_cons,hr.jD hv,hr.evs hl]
   ·cases h
theorem Rel.uf (hr:Rel C β F H a w):∀ {l:List Operand} {vs:List AV},Proofs.YtabalinjfgcfeaaGreat.uf F l=some vs→l.map a.eval=vs.map (AV.aX β)
 | [],vs,h=>by cases h;rfl
 | x::r,vs,h=>by
   unfold Proofs.YtabalinjfgcfeaaGreat.uf at h
   split at h
   ·rename_i v l hv hl
    cases h
    rw [List.map_cons,hr.ev hv,hr.uf hl];rfl
   ·cases h
theorem Rel.Ap (hr:Rel C β F H a w):∀ {l:List (Nat×Operand)} {vs:List (Nat×AV)},Proofs.YtabalinjfgcfeaaGreat.Ap F l=some vs→l.map (fun p=>(p.1,a.eval p.2))=vs.map (fun p=>(p.1,p.2.aX β))
 | [],vs,h=>by cases h;rfl
 | (k,x)::r,vs,h=>by
   unfold Proofs.YtabalinjfgcfeaaGreat.Ap at h
   split at h
   ·rename_i v l hv hl
    cases h
    rw [List.map_cons,hr.Ap hl]
    simp [hr.ev hv]
   ·cases h
theorem gJ.ev (hc:gJ F H) {x:Operand} {v:AV} (h:Proofs.YtabalinjfgcfeaaGreat.ev F x=some v):∀ i∈v.ids,H i≠none:=by
 cases x with
 | tmp t=>exact hc t v h
 | const c=>cases h;intro i hi;cases hi
 | func f=>cases h;intro i hi;cases hi
 | global g=>cases h
theorem gJ.uf (hc:gJ F H):∀ {l:List Operand} {vs:List AV},Proofs.YtabalinjfgcfeaaGreat.uf F l=some vs→∀ v∈vs,∀ i∈v.ids,H i≠none
 | [],vs,h=>by cases h;intro v hv;cases hv
 | x::r,vs,h=>by
   unfold Proofs.YtabalinjfgcfeaaGreat.uf at h
   split at h
   ·rename_i v l hv hl
    cases h
    intro u hu
    rcases List.mem_cons.1 hu with rfl | hu
    ·exact hc.ev hv
    ·exact hc.uf hl u hu
   ·cases h
theorem gJ.Ap (hc:gJ F H):∀ {l:List (Nat×Operand)} {vs:List (Nat×AV)},Proofs.YtabalinjfgcfeaaGreat.Ap F l=some vs→∀ v∈vs,∀ i∈v.2.ids,H i≠none
 | [],vs,h=>by cases h;intro v hv;cases hv
 | (k,x)::r,vs,h=>by
   unfold Proofs.YtabalinjfgcfeaaGreat.Ap at h
   split at h
   ·rename_i v l hv hl
    cases h
    intro u hu
    rcases List.mem_cons.1 hu with rfl | hu
    ·exact hc.ev hv
    ·exact hc.Ap hl u hu
   ·cases h
theorem Rel.dI (hr:Rel C β F H a w) {x:Operand} {v:AV} (h:Proofs.YtabalinjfgcfeaaGreat.ev F x=some v):∀ i∈v.ids,H i≠none:=hr.closed.ev h
theorem Rel.put (hr:Rel C β F H a w) {dst:Option Nat} (hd:jE C.N dst=true) {v:AV} (hc:∀ i∈v.ids,H i≠none):Rel C β (F.bh dst v) H (a.put dst (v.aX β)) w:=by
 cases dst with
 | none=>exact hr
 | some d=>
   have hlt:d < C.N:=by simpa [jE,Nat.blt_eq] using hd
   refine ⟨hr.defers,by simp [Act.put,hr.size],fun n u hn=> ?_,hr.own,hr.apart,fun n u hn=> ?_,fun n u hn=> ?_,hr.hp,hr.old⟩
   ·change (F.put d v) n=some u at hn
    rw [Fr.cj] at hn
    show (a.tmps.setIfInBounds d (v.aX β)).getD n undef=_
    by_cases h:n=d
    ·subst h
     rw [if_pos rfl] at hn
     cases hn
     simp [Array.getD_eq_getD_getElem?,Array.getElem?_setIfInBounds,hr.size,hlt]
    ·rw [if_neg h] at hn
     have:=hr.tmp n u hn
     rw [Array.getD_eq_getD_getElem?] at this ⊢
     rw [Array.getElem?_setIfInBounds,if_neg (fun e=>h e.symm)]
     exact this
   ·change (F.put d v) n=some u at hn
    rw [Fr.cj] at hn
    by_cases h:n=d
    ·rw [if_pos h] at hn;cases hn;exact hc
    ·rw [if_neg h] at hn;exact hr.closed n u hn
   ·change (F.put d v) n=some u at hn
    rw [Fr.cj] at hn
    by_cases h:n=d
    ·rw [h];exact hlt
    ·rw [if_neg h] at hn;exact hr.fits n u hn
theorem gD {P:Program} {t:TypeId} {i:TI} (hi:TI.Ok P t i) (a:Addr) (cs:List Value) (hl:cs.length=i.size) (w:World) (hc:∀ j u,cs[j]? =some u→w.cell? (a.add j)=some u):
  (loadVar t a).run P w=.ok (lC i cs) w:=by
 obtain ⟨d,hu,hd⟩:=hi.row
 have hz:=hi.size
 cases hq:P.info? t with
 | none=>rw [hq] at hz;simp at hz
 | some ti=>
   rw [hq] at hz
   simp at hz
   unfold loadVar lC
   cases hg:i.agg
   ·have h1:=hi.lone hg
    rw [hg] at hd
    obtain ⟨u,rfl⟩:∃ u,cs=[u]:=List.length_eq_one_iff.1 (by omega)
    have:=hc 0 u rfl
    have ha:a.add 0=a:=by unfold Addr.add;split <;> simp_all
    rw [ha] at this
    cases d <;> simp_all [isAgg,run_underlying hu,TypeDesc.isRow]
   ·rw [hg] at hd
    have hld:=run_loadCells_list (P:=P) w a cs hc
    rw [hl,←hz] at hld
    cases d <;> simp_all [isAgg,run_underlying hu,TypeDesc.isRow,sizeOf,typeInfo]
theorem qC {P:Program} {t:TypeId} {i:TI} (hi:TI.Ok P t i) {cs:List AV} (hl:cs.length=i.size) (hk:cs.all aG=true):(lV i cs).aX β=lC i (cs.map (AV.leaf β)):=by
 unfold lV lC
 cases hg:i.agg with
 | true=>exact qz β cs
 | false=>
   have h1:=hi.lone hg
   obtain ⟨u,rfl⟩:∃ u,cs=[u]:=List.length_eq_one_iff.1 (by omega)
   simp at hk
   simp [IG hk]
theorem tj {i:TI} {cs:List AV} {j:Nat} (hk:cs.all aG=true) (h:j∈(lV i cs).ids):j∈ay cs:=by
 unfold lV at h
 cases hg:i.agg with
 | true=>rw [hg] at h;exact th h
 | false=>
   rw [hg] at h
   cases cs with
   | nil=>cases h
   | cons x r=>
     simp only [cond_false,List.headD_cons] at h
     simp at hk
     rw [ay,KS hk.1]
     exact List.mem_append_left _ h
end
end Go.Proofs.YtabalinjfgcfeaaGreat
