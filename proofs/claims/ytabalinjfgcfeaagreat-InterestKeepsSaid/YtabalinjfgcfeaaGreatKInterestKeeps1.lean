/- Df of the proof,laid behind one another. -/
import Derived.Lib.Hide
import Derived.WalkKit
import Derived.WalkSpells
import Derived.WalkLawsBesides
import Derived.Outline
import Derived.Test.YtabalinjfgcfeaaGreatRows
import Derived.Deep.QuietTactic
import Derived.BigQuiet
import Derived.Lib.SliceRun
import Derived.Lib.AppendZeros
import Derived.RegionCalls
import Derived.Deep.RegionWith
import Derived.Lib.BitFns
import Derived.WalkMore
import Derived.RangeFuncBox
import Derived.Orders
import Derived.Deep.MidRow
import Derived.Laws.MakeOwn
import Derived.RegionTactic
import Derived.Laws.Slices
import Derived.Deep.LoopGhost
import Derived.Scope
import Derived.Deep.AppendSrc
import Derived.Laws.AppendOwn
import Derived.MapKept
import Derived.Deep.RegionHeld3
import Derived.Deep.RegionLaw
import Derived.Deep.DeepCutAuto
import Derived.BigRegion
import Derived.OpenShut
import Derived.WideShapes
import Derived.ChangeArms
import Derived.ChangeSlices
import Derived.RangeFuncNested
import Derived.RangeFuncLeaves
import Derived.OrdersIn
import Derived.TacticsIn
set_option linter.all false
set_option maxHeartbeats 64000000
namespace Go.Proofs.YtabalinjfgcfeaaGreat
section
def val (B:Nat):List Nat->Nat
 | []=>0
 | x::xs=>x + B * val B xs
def eO (B:Nat) (xs:List Nat):Prop:=∀ x∈xs,x < B
theorem ab {P:Prop} (h:P:=by omega):P:=h
def jx (B:Nat) (n:Nat):List Nat:=
 if _h:n=0\/B < 2 then [] else n % B::jx B (n / B)
termination_by n
decreasing_by
 have:n≠0/\2≤B:=by omega
 exact Nat.div_lt_self ab ab
theorem val_nil (B:Nat):val B []=0:=rfl
theorem iE (B x:Nat) (xs:List Nat):val B (x::xs)=x + B * val B xs:=rfl
theorem eJ (B:Nat):jx B 0=[]:=by rw [jx];simp
theorem jy {B n:Nat} (hB:2≤B) (hn:n≠0):jx B n=n % B::jx B (n / B):=by
 rw [jx,dif_neg ab]
theorem eO.nil (B:Nat):eO B []:=fun _ h=>by cases h
theorem eO.cons {B x:Nat} {xs:List Nat} (hx:x < B) (h:eO B xs):eO B (x::xs):=by
 intro y hy;cases hy with
 | head=>exact hx
 | tail _ h'=>exact h y h'
theorem eO.head {B x:Nat} {xs:List Nat} (h:eO B (x::xs)):x < B:=h x (List.mem_cons_self ..)
theorem eO.tail {B x:Nat} {xs:List Nat} (h:eO B (x::xs)):eO B xs:=fun y hy=>h y (List.mem_cons_of_mem _ hy)
theorem eO.take {B:Nat} {xs:List Nat} (h:eO B xs) (k:Nat):eO B (xs.take k):=fun y hy=>h y (List.mem_of_mem_take hy)
theorem eO.drop {B:Nat} {xs:List Nat} (h:eO B xs) (k:Nat):eO B (xs.drop k):=fun y hy=>h y (List.mem_of_mem_drop hy)
theorem eO.append {B:Nat} {xs ys:List Nat} (h:eO B xs) (h':eO B ys):eO B (xs++ys):=by
 intro y hy;rcases List.mem_append.1 hy with hy | hy
 ·exact h y hy
 ·exact h' y hy
theorem eO.at {B:Nat} {xs:List Nat} (h:eO B xs) {k x:Nat} (hk:xs[k]? =some x):x < B:=h x (List.mem_of_getElem? hk)
theorem eO.replicate {B:Nat} (hB:0 < B) (k:Nat):eO B (List.replicate k 0):=fun y hy=>by
 rw [List.mem_replicate] at hy;omega
theorem qK {B:Nat} (hB:2≤B):∀ n,eO B (jx B n):=by
 intro n
 induction n using Nat.strongRecOn with
 | _ n ih=>
   by_cases hn:n=0
   ·subst hn;rw [eJ];exact eO.nil B
   ·rw [jy hB hn]
    exact eO.cons (Nat.mod_lt _ ab) (ih _ (Nat.div_lt_self ab ab))
theorem mn {B:Nat} (hB:2≤B):∀ n,val B (jx B n)=n:=by
 intro n
 induction n using Nat.strongRecOn with
 | _ n ih=>
   by_cases hn:n=0
   ·subst hn;rw [eJ];rfl
   ·rw [jy hB hn,iE,ih _ (Nat.div_lt_self ab ab)]
    exact Nat.mod_add_div n B
theorem qL {B:Nat}:∀ {xs:List Nat},eO B xs->val B xs < B ^ xs.length:=by
 intro xs
 induction xs with
 | nil=>intro _;simp [val]
 | cons x xs ih=>
   intro h
   have h1:=ih h.tail
   have hx:=h.head
   rw [iE,List.length_cons,Nat.pow_succ,Nat.mul_comm (B ^ xs.length) B]
   calc x + B * val B xs < B + B * val B xs:=by omega
    _=B * (val B xs + 1):=by rw [Nat.mul_add];omega
    _≤B * B ^ xs.length:=Nat.mul_le_mul_left _ h1
theorem jZ (B:Nat):∀ (xs ys:List Nat),val B (xs++ys)=val B xs + B ^ xs.length * val B ys:=by
 intro xs ys
 induction xs with
 | nil=>simp [val]
 | cons x xs ih=>
   rw [List.cons_append,iE,ih,iE,List.length_cons,Nat.pow_succ,Nat.mul_add,Nat.add_assoc]
   congr 2
   rw [<-Nat.mul_assoc,Nat.mul_comm B (B ^ xs.length)]
theorem om (B:Nat) (xs:List Nat) (x:Nat):val B (xs++[x])=val B xs + B ^ xs.length * x:=by
 rw [jZ];simp [val]
theorem iZ (B k:Nat):val B (List.replicate k 0)=0:=by
 induction k with
 | zero=>rfl
 | succ k ih=>rw [List.replicate_succ,iE,ih];simp
theorem cw {P:Prop} (h:P:=by simp):P:=h
theorem Al {B:Nat} (hB:2≤B):∀ {xs:List Nat},eO B xs->(∀ x,xs.getLast? =some x->x≠0)->jx B (val B xs)=xs:=by
 intro xs
 induction xs with
 | nil=>intro _ _;exact eJ B
 | cons x xs ih=>
   intro hd hl
   have hx:=hd.head
   have hne:val B (x::xs)≠0:=by
    intro h0
    rw [iE] at h0
    have iA:x=0:=by omega
    cases xs with
    | nil=>exact hl x cw iA
    | cons y ys=>
      have hv:val B (y::ys)=0:=by
       have:B * val B (y::ys)=0:=by omega
       rcases Nat.mul_eq_zero.1 this with h | h
       ·omega
       ·exact h
      have:=ih hd.tail (fun z hz=>hl z (by rw [List.getLast?_cons_cons];exact hz))
      rw [hv,eJ] at this
      cases this
   rw [jy hB hne,iE]
   have h1:(x + B * val B xs) % B=x:=by rw [Nat.add_mul_mod_self_left];exact Nat.mod_eq_of_lt hx
   have h2:(x + B * val B xs) / B=val B xs:=by
    rw [Nat.add_mul_div_left _ _ ab,Nat.div_eq_of_lt hx];omega
   rw [h1,h2]
   congr 1
   cases xs with
   | nil=>exact eJ B
   | cons y ys=>exact ih hd.tail (fun z hz=>hl z (by rw [List.getLast?_cons_cons];exact hz))
theorem Ox {B:Nat} (hB:2≤B):∀ n x,(jx B n).getLast? =some x->x≠0:=by
 intro n
 induction n using Nat.strongRecOn with
 | _ n ih=>
   intro x hx
   by_cases hn:n=0
   ·subst hn;rw [eJ] at hx;cases hx
   ·rw [jy hB hn] at hx
    by_cases h2:n / B=0
    ·rw [h2,eJ] at hx
     simp at hx
     have:n < B:=by
      rcases Nat.lt_or_ge n B with h | h
      ·exact h
      ·have:=Nat.div_pos h (by omega:0 < B);omega
     rw [Nat.mod_eq_of_lt this] at hx
     omega
    ·rw [jy hB h2,List.getLast?_cons_cons,<-jy hB h2] at hx
     exact ih _ (Nat.div_lt_self ab ab) x hx
theorem Am {B:Nat} (hB:2≤B) {m n:Nat} (h:jx B m=jx B n):m=n:=by
 have:=congrArg (val B) h
 rwa [mn hB,mn hB] at this
theorem fD {B:Nat} (hB:2≤B):∀ (k n:Nat),n < B ^ k->(jx B n).length≤k:=by
 intro k
 induction k with
 | zero=>intro n h;have:n=0:=by simpa using h
         subst this;rw [eJ];simp
 | succ k ih=>
   intro n h
   by_cases hn:n=0
   ·subst hn;rw [eJ];simp
   ·rw [jy hB hn,List.length_cons]
    have:n / B < B ^ k:=by
     rw [Nat.div_lt_iff_lt_mul ab]
     rwa [Nat.pow_succ] at h
    have:=ih _ this
    omega
theorem Ao {B:Nat} (hB:2≤B) {k n:Nat} (h:B ^ k≤n):k < (jx B n).length:=by
 rcases Nat.lt_or_ge k (jx B n).length with h' | h'
 ·exact h'
 ·have h1:=qL (qK hB n)
  rw [mn hB] at h1
  have:=Nat.pow_le_pow_right (show 0 < B by omega) h'
  omega
theorem dY {B:Nat} (hB:2≤B) {m n:Nat} (h:m≤n):(jx B m).length≤(jx B n).length:=by
 apply fD hB
 have h1:=qL (qK hB n)
 rw [mn hB] at h1
 omega
theorem Et {B:Nat} (hB:2≤B) {xs:List Nat} (h:eO B xs):(jx B (val B xs)).length≤xs.length:=
 fD hB _ _ (qL h)
theorem GG {B:Nat} (hB:2≤B) (n:Nat):n < B ^ (jx B n).length:=by
 have h1:=qL (qK hB n)
 rwa [mn hB] at h1
theorem xx {B:Nat} (hB:2≤B) {n:Nat} (hn:n≠0):B ^ ((jx B n).length - 1)≤n:=by
 rcases Nat.lt_or_ge n (B ^ ((jx B n).length - 1)) with h | h
 ·have h1:=fD hB _ _ h
  have h2:0 < (jx B n).length:=by rw [jy hB hn];simp
  omega
 ·exact h
theorem Eu {B:Nat} (hB:2≤B) {n:Nat}:jx B n=[]↔n=0:=by
 constructor
 ·intro h;exact Am hB (h.trans (eJ B).symm)
 ·rintro rfl;exact eJ B
theorem qb {B:Nat} (hB:2≤B) {n:Nat} (hn:n≠0):0 < (jx B n).length:=by
 rw [jy hB hn];simp
theorem kx (B:Nat) (xs:List Nat) (k:Nat) (hk:k≤xs.length):val B xs=val B (xs.take k) + B ^ k * val B (xs.drop k):=by
 conv=>lhs;rw [<-List.take_append_drop k xs]
 rw [jZ,List.length_take,Nat.min_eq_left hk]
theorem bQ {α:Type} {xs:List α} {k:Nat} {x:α} (h:xs[k]? =some x):xs.take (k + 1)=xs.take k++[x]:=by
 rw [List.take_add_one,h];rfl
theorem nb {B:Nat} {xs:List Nat} {k:Nat} (hk:xs[k]? =some 0):val B (xs.take (k + 1))=val B (xs.take k):=by
 rw [bQ hk,om];simp
theorem lV {B:Nat} (hB:2≤B) {xs:List Nat} (hd:eO B xs) {m:Nat} (hm:m≤xs.length) (hv:val B (xs.take m)=val B xs) (hl:m=0\/∃ x,xs[m - 1]? =some x/\x≠0):
  jx B (val B xs)=xs.take m:=by
 rw [<-hv]
 apply Al hB (hd.take m)
 intro x hx
 rcases hl with rfl | ⟨y,hy,Oy⟩
 ·simp at hx
 ·rw [List.getLast?_eq_getElem?,List.length_take,Nat.min_eq_left hm,List.getElem?_take] at hx
  split at hx
  ·rw [hy] at hx;cases hx;exact Oy
  ·cases hx
theorem mo {B:Nat} {xs ys:List Nat} (hx:eO B xs) {k a b:Nat} (ha:xs[k]? =some a) (hb:ys[k]? =some b) (zA:a < b)
  (hh:xs.drop (k + 1)=ys.drop (k + 1)):val B xs < val B ys:=by
 have mr:k < xs.length:=(List.getElem?_eq_some_iff.1 ha).1
 have qm:k < ys.length:=(List.getElem?_eq_some_iff.1 hb).1
 rw [kx B xs (k + 1) ab,kx B ys (k + 1) ab,hh,bQ ha,bQ hb,om,om]
 have h1:=qL (hx.take k)
 rw [List.length_take,Nat.min_eq_left ab] at h1 ⊢
 rw [List.length_take,Nat.min_eq_left ab]
 have h2:B ^ k * a + B ^ k≤B ^ k * b:=by
  calc B ^ k * a + B ^ k=B ^ k * (a + 1):=by rw [Nat.mul_add];omega
   _≤B ^ k * b:=Nat.mul_le_mul_left _ zA
 omega
def ak (xs:List Nat):Nat:=val 4294967296 xs
def limbs (n:Nat):List Nat:=jx 4294967296 n
def cR (xs:List Nat):Prop:=eO 4294967296 xs
theorem cR.nil:cR []:=eO.nil _
theorem cR.cons {x:Nat} {xs:List Nat} (hx:x < 4294967296) (h:cR xs):cR (x::xs):=eO.cons hx h
theorem cR.take {xs:List Nat} (h:cR xs) (k:Nat):cR (xs.take k):=eO.take h k
theorem cR.drop {xs:List Nat} (h:cR xs) (k:Nat):cR (xs.drop k):=eO.drop h k
theorem cR.append {xs ys:List Nat} (h:cR xs) (h':cR ys):cR (xs++ys):=eO.append h h'
theorem cR.at {xs:List Nat} (h:cR xs) {k x:Nat} (hk:xs[k]? =some x):x < 4294967296:=eO.at h hk
theorem az (n:Nat):cR (limbs n):=qK ab n
theorem aq (n:Nat):ak (limbs n)=n:=mn ab n
theorem bV:limbs 0=[]:=eJ _
theorem fe:ak []=0:=rfl
theorem gw (x:Nat) (xs:List Nat):ak (x::xs)=x + 4294967296 * ak xs:=rfl
theorem eK (xs:List Nat) (x:Nat):ak (xs++[x])=ak xs + 4294967296 ^ xs.length * x:=om _ xs x
theorem ff (xs ys:List Nat):ak (xs++ys)=ak xs + 4294967296 ^ xs.length * ak ys:=jZ _ xs ys
theorem ky {xs:List Nat} (h:cR xs):ak xs < 4294967296 ^ xs.length:=qL h
theorem jz {xs:List Nat} (h:cR xs):(limbs (ak xs)).length≤xs.length:=Et ab h
theorem ll (k n:Nat) (h:n < 4294967296 ^ k):(limbs n).length≤k:=fD ab k n h
theorem ym {k n:Nat} (h:4294967296 ^ k≤n):k < (limbs n).length:=Ao ab h
theorem pd (n:Nat):n < 4294967296 ^ (limbs n).length:=GG ab n
theorem Ev {n:Nat} (hn:n≠0):4294967296 ^ ((limbs n).length - 1)≤n:=xx ab hn
theorem dk {m n:Nat} (h:m≤n):(limbs m).length≤(limbs n).length:=dY ab h
theorem Oz {m n:Nat} (h:limbs m=limbs n):m=n:=Am ab h
theorem nK {n:Nat}:limbs n=[]↔n=0:=Eu ab
theorem dZ {n:Nat} (hn:n≠0):0 < (limbs n).length:=qb ab hn
theorem qM {n:Nat} (h:(limbs n).length=0):n=0:=nK.1 (List.eq_nil_of_length_eq_zero h)
theorem sY {xs:List Nat} (h:cR xs) (hl:∀ x,xs.getLast? =some x->x≠0):limbs (ak xs)=xs:=Al ab h hl
theorem sZ (n x:Nat) (h:(limbs n).getLast? =some x):x≠0:=Ox ab n x h
def ib (a b:Nat):Int:=if a < b then -1 else if b < a then 1 else 0
theorem nc {a b:Nat} (h:a < b):ib a b= -1:=by simp [ib,h]
theorem nd {a b:Nat} (h:b < a):ib a b=1:=by simp [ib,h];omega
theorem uj (a:Nat):ib a a=0:=by simp [ib]
theorem kO {a b:Nat}:(ib a b < 0)↔a < b:=by unfold ib;split <;> (try split) <;> omega
theorem bq (xs:List Nat) (k:Nat):ak (xs.take (k + 1))=ak (xs.take k) + 4294967296 ^ k * xs.getD k 0:=by
 by_cases h:k < xs.length
 ·rw [bQ (List.getElem?_eq_getElem h),eK,List.length_take,Nat.min_eq_left ab]
  simp [List.getD,h]
 ·rw [List.take_of_length_le ab,List.take_of_length_le ab]
  simp [List.getD,List.getElem?_eq_none (by omega:xs.length≤k)]
theorem bM {xs:List Nat} {k:Nat} (h:xs.length≤k):ak (xs.take k)=ak xs:=by rw [List.take_of_length_le h]
theorem GH (p s x y c X Y D:Nat) (h:D + p * c=X + Y) (hs:s=x + y + c):
  D + p * (s % 4294967296) + p * 4294967296 * (s / 4294967296)=(X + p * x) + (Y + p * y):=by
 subst hs
 have h2:p * ((x + y + c) % 4294967296) + p * 4294967296 * ((x + y + c) / 4294967296)=p * (x + y + c):=by
  rw [Nat.mul_assoc,<-Nat.mul_add,Nat.mod_add_div]
 rw [Nat.mul_add,Nat.mul_add] at h2
 omega
theorem Re (p x m c X D:Nat) (h:D + p * c=X * m):
  D + p * ((x * m + c) % 4294967296) + p * 4294967296 * ((x * m + c) / 4294967296)=(X + p * x) * m:=by
 have h2:p * ((x * m + c) % 4294967296) + p * 4294967296 * ((x * m + c) / 4294967296)=p * (x * m + c):=by
  rw [Nat.mul_assoc,<-Nat.mul_add,Nat.mod_add_div]
 rw [Nat.mul_add] at h2
 rw [Nat.add_mul,Nat.mul_assoc p x m]
 omega
def jt (n:Nat):Nat:=if n=0 then 0 else Nat.log2 n + 1
theorem OA:jt 0=0:=rfl
theorem zB (n:Nat):n < 2 ^ jt n:=by
 unfold jt
 split
 ·omega
 ·exact Nat.lt_log2_self
theorem zC {n:Nat} (h:n≠0):2 ^ (jt n - 1)≤n:=by
 unfold jt
 rw [if_neg h]
 exact Nat.log2_self_le h
theorem um {n:Nat} (h:n≠0):0 < jt n:=by unfold jt;rw [if_neg h];omega
theorem Mr {n b:Nat} (h:n < 2 ^ b) (h':b=0\/2 ^ (b - 1)≤n):jt n=b:=by
 by_cases h0:n=0
 ·subst h0
  rcases h' with rfl | h'
  ·rfl
  ·have:=Nat.pow_pos (n:=b - 1) (show 0 < 2 by omega);omega
 ·have h1:=zB n
  have h2:=zC h0
  have h3:=um h0
  rcases Nat.lt_trichotomy (jt n) b with hl | he | hg
  ·rcases h' with rfl | h'
   ·omega
   ·have:=Nat.pow_le_pow_right (show 0 < 2 by omega) (show jt n≤b - 1 by omega)
    omega
  ·exact he
  ·have:=Nat.pow_le_pow_right (show 0 < 2 by omega) (show b≤jt n - 1 by omega)
   omega
theorem sK {n k:Nat} (h:n < 2 ^ k):jt n≤k:=by
 by_cases h0:n=0
 ·subst h0;rw [OA];omega
 ·have h1:=zC h0
  rcases Nat.lt_or_ge k (jt n) with hl | hg
  ·have:=Nat.pow_le_pow_right (show 0 < 2 by omega) (show k≤jt n - 1 by omega)
   omega
  ·exact hg
theorem GI (k:Nat):4294967296 ^ k=2 ^ (32 * k):=by rw [Nat.pow_mul]
theorem GJ {n t:Nat} (hl:(limbs n)[(limbs n).length - 1]? =some t):jt n=32 * ((limbs n).length - 1) + jt t/\t≠0:=by
 have hlast:(limbs n).getLast? =some t:=by rw [List.getLast?_eq_getElem?];exact hl
 have ht:=sZ n t hlast
 have lI:0 < (limbs n).length:=by
  rcases Nat.eq_zero_or_pos (limbs n).length with h | h
  ·rw [List.eq_nil_of_length_eq_zero h] at hl;cases hl
  ·exact h
 refine ⟨?_,ht⟩
 have e:limbs n=(limbs n).take ((limbs n).length - 1)++[t]:=by
  have:=bQ hl
  rw [show (limbs n).length - 1 + 1=(limbs n).length by omega,List.take_length] at this
  exact this
 have hv:n=ak ((limbs n).take ((limbs n).length - 1)) + 4294967296 ^ ((limbs n).length - 1) * t:=by
  have h1:=congrArg ak e
  rw [aq,eK,List.length_take,Nat.min_eq_left ab] at h1
  exact h1
 have GK:=ky ((az n).take ((limbs n).length - 1))
 rw [List.length_take,Nat.min_eq_left ab] at GK
 generalize ak ((limbs n).take ((limbs n).length - 1))=lo at hv GK
 generalize (limbs n).length - 1=m at hv GK
 have h1:=zB t
 have h2:=zC ht
 have h3:=um ht
 rw [GI] at hv GK
 apply Mr
 ·rw [hv,Nat.pow_add]
  calc lo + 2 ^ (32 * m) * t < 2 ^ (32 * m) + 2 ^ (32 * m) * t:=by omega
   _=2 ^ (32 * m) * (t + 1):=by rw [Nat.mul_add];omega
   _≤2 ^ (32 * m) * 2 ^ jt t:=Nat.mul_le_mul_left _ h1
 ·right
  rw [hv,show 32 * m + jt t - 1=32 * m + (jt t - 1) by omega,Nat.pow_add]
  have:=Nat.mul_le_mul_left (2 ^ (32 * m)) h2
  omega
theorem GL {x:Nat} (k:Nat) (hx:x≠0):List.replicate k 0++limbs x=limbs (x * 4294967296 ^ k):=by
 have h:ak (List.replicate k 0++limbs x)=x * 4294967296 ^ k:=by
  rw [ff,aq,show ak (List.replicate k 0)=0 from iZ _ k,List.length_replicate,Nat.mul_comm];omega
 rw [<-h]
 symm
 apply sY
 ·exact cR.append (eO.replicate ab k) (az x)
 ·intro y hy
  rw [List.getLast?_append] at hy
  have hne:limbs x≠[]:=fun h=>hx (nK.1 h)
  cases hl:(limbs x).getLast? with
  | none=>rw [List.getLast?_eq_none_iff] at hl;exact absurd hl hne
  | some z=>rw [hl] at hy;simp at hy;subst hy;exact sZ x z hl
theorem yn (x k:Nat) (hk:k≤(limbs x).length):ak ((limbs x).drop k)=x / 4294967296 ^ k:=by
 have h:=kx 4294967296 (limbs x) k hk
 have h1:val 4294967296 (limbs x)=x:=aq x
 have h2:=ky ((az x).take k)
 rw [List.length_take,Nat.min_eq_left hk] at h2
 rw [h1] at h
 show val 4294967296 _=_
 have h3:val 4294967296 ((limbs x).take k) < 4294967296 ^ k:=h2
 generalize val 4294967296 ((limbs x).take k)=lo at h h3
 generalize val 4294967296 ((limbs x).drop k)=hi at h ⊢
 rw [h,Nat.add_mul_div_left _ _ (Nat.pow_pos ab),Nat.div_eq_of_lt h3];omega
def ir (x:Nat) (n:Int):Nat:=if 0≤n then x * 2 ^ n.toNat else x / 2 ^ (-n).toNat
theorem GM {B:Nat} (hB:2≤B) {ds:List Nat} (hd:eO B ds) (h:ds.length≤(jx B (val B ds)).length):jx B (val B ds)=ds:=by
 apply Al hB hd
 intro x hx h0
 subst h0
 have hne:ds≠[]:=by rintro rfl;cases hx
 have lI:0 < ds.length:=List.length_pos_iff.2 hne
 have hk:ds[ds.length - 1]? =some 0:=by rw [<-List.getLast?_eq_getElem?];exact hx
 have h1:=nb (B:=B) hk
 rw [show ds.length - 1 + 1=ds.length by omega,List.take_length] at h1
 have h2:=qL (hd.take (ds.length - 1))
 rw [<-h1,List.length_take,Nat.min_eq_left ab] at h2
 have h3:=fD hB _ _ h2
 omega
theorem cz (B:Nat) (xs:List Nat) (k:Nat):val B (xs.take (k + 1))=val B (xs.take k) + B ^ k * xs.getD k 0:=by
 by_cases h:k < xs.length
 ·rw [bQ (List.getElem?_eq_getElem h),om,List.length_take,Nat.min_eq_left ab]
  simp [List.getD,h]
 ·rw [List.take_of_length_le ab,List.take_of_length_le ab]
  simp [List.getD,List.getElem?_eq_none (by omega:xs.length≤k)]
theorem fW {B:Nat} {xs:List Nat} {k:Nat} (h:xs.length≤k):val B (xs.take k)=val B xs:=by rw [List.take_of_length_le h]
theorem OB (B p s x y c X Y D:Nat) (h:D + p * c=X + Y) (hs:s=x + y + c):D + p * (s % B) + p * B * (s / B)=(X + p * x) + (Y + p * y):=by
 subst hs
 have h2:p * ((x + y + c) % B) + p * B * ((x + y + c) / B)=p * (x + y + c):=by
  rw [Nat.mul_assoc,<-Nat.mul_add,Nat.mod_add_div]
 rw [Nat.mul_add,Nat.mul_add] at h2
 omega
theorem sL {B:Nat} {xs:List Nat} {k x:Nat} (h:xs[k]? =some x):val B (xs.drop k)=x + B * val B (xs.drop (k + 1)):=by
 obtain ⟨hl,e⟩:=List.getElem?_eq_some_iff.1 h
 rw [List.drop_eq_getElem_cons hl,e,iE]
theorem OC (B p x y r d r' X Y D:Nat) (h:D + Y=X + p * r) (hs:x + B * r'=d + y + r):(D + p * d) + (Y + p * y)=(X + p * x) + p * B * r':=by
 have h2:p * (x + B * r')=p * (d + y + r):=by rw [hs]
 rw [Nat.mul_add,Nat.mul_add,Nat.mul_add,<-Nat.mul_assoc] at h2
 omega
end
section
open Go.RowKit
def Rd (w:World) (sz:Nat) (v:Value) (n:Nat) (cs:List Value):Prop:=
 ∃ p c,v=.slice p n c/\n≤c/\c≤maxLen/\cs.length=n * sz/\(0 < n * sz->∃ b off,p=some ⟨b,off,none⟩/\∀ j u,cs[j]? =some u->w.cell? ⟨b,off + j,none⟩=some u)
theorem Rd.nil (w:World) (sz:Nat):Rd w sz (.slice none 0 0) 0 []:=⟨none,0,rfl,Nat.le_refl _,by simp [maxLen],by simp,fun h=>by omega⟩
theorem Rd.keep {w w':World} {sz n:Nat} {v:Value} {cs:List Value} (h:Rd w sz v n cs) (hk:∀ a u,w.cell? a=some u->w'.cell? a=some u):Rd w' sz v n cs:=by
 obtain ⟨p,c,rfl,h1,h2,h3,h4⟩:=h
 refine ⟨p,c,rfl,h1,h2,h3,fun hn=> ?_⟩
 obtain ⟨b,off,hp,hc⟩:=h4 hn
 exact ⟨b,off,hp,fun j u hj=>hk _ _ (hc j u hj)⟩
theorem kA {w:World} {a:Addr} {u:Value} (h:w.cell? a=some u):a.block < w.heap.size:=World.block_lt_of_cell? w a h
theorem Below.keeps {w w':World} (h:Below w.heap.size w w'):∀ a u,w.cell? a=some u->w'.cell? a=some u:=
 fun _ _ hu=>(h.cell (kA hu)).trans hu
theorem Rd.below {w w':World} {sz n:Nat} {v:Value} {cs:List Value} (h:Rd w sz v n cs) (hb:Below w.heap.size w w'):Rd w' sz v n cs:=h.keep (Below.keeps hb)
theorem Rd.alloc {w:World} {sz n:Nat} {v:Value} {cs:List Value} (h:Rd w sz v n cs) (o:Obj):Rd (w.alloc o) sz v n cs:=
 h.below ((Below.refl _ _).alloc (Nat.le_refl _) o)
theorem Rd.drew {w:World} {sz n:Nat} {v:Value} {cs:List Value} (h:Rd w sz v n cs):Rd w.drew sz v n cs:=h
theorem Rd.drewN {w:World} {sz n:Nat} {v:Value} {cs:List Value} (h:Rd w sz v n cs) (k:Nat):Rd (w.drewN k) sz v n cs:=h
theorem Rd.lit {w:World} {cs:Array Value} {e n:Nat} (hn:cs.size=n) (hm:n≤9223372036854775807):Rd (w.alloc (.cells cs e)) 1 (.slice (some ⟨w.heap.size,0,none⟩) n n) n cs.toList:=
 ⟨_,n,rfl,Nat.le_refl _,by unfold maxLen;omega,by simp [hn],fun _=>⟨w.heap.size,0,rfl,fun j u hj=>by
   rw [Nat.zero_add,World.cell?_alloc_new];simpa using hj⟩⟩
theorem Rd.kc {B:Nat} {w w':World} {sz n:Nat} {v:Value} {cs:List Value} (h:Rd w sz v n cs) (hB:B=w.heap.size) (hb:Below B w w'):Rd w' sz v n cs:=h.below (hB▸hb)
theorem Rd.own {w:World} {B e sz n:Nat} {v:Value} {cs:List Value} (h:w.ownsRow B e sz v n cs):Rd w sz v n cs:=by
 rcases h.2 with ⟨rfl,rfl⟩ | ⟨g,cap,cur,rfl,_,hg,fE,fX,_,Rf⟩
 ·have hx:cs=[]:=List.eq_nil_of_length_eq_zero (by simpa using h.1)
  subst hx;exact Rd.nil w sz
 ·refine ⟨_,cap,rfl,fE,fX,h.1,fun _=>⟨g,0,rfl,fun j u hj=> ?_⟩⟩
  have:=h.cells (g:=g) rfl j u hj
  rwa [show (⟨g,0,none⟩:Addr).add j=⟨g,0 + j,none⟩ by unfold Addr.add;split <;> simp_all] at this
theorem Own.mono {w:World} {B B' e sz n:Nat} {v:Value} {cs:List Value} (h:w.ownsRow B e sz v n cs) (hB:B'≤B):w.ownsRow B' e sz v n cs:=by
 refine ⟨h.1,?_⟩
 rcases h.2 with h2 | ⟨g,cap,cur,hv,hb,r⟩
 ·exact .inl h2
 ·exact .inr ⟨g,cap,cur,hv,by omega,r⟩
theorem Own.below {w w':World} {B e sz n:Nat} {v:Value} {cs:List Value} (h:w.ownsRow B e sz v n cs) (hb:Below w.heap.size w w'):w'.ownsRow B e sz v n cs:=by
 refine ⟨h.1,?_⟩
 rcases h.2 with h2 | ⟨g,cap,cur,hv,hg,hh,r⟩
 ·exact .inl h2
 ·exact .inr ⟨g,cap,cur,hv,hg,(hb.block g (Array.getElem?_eq_some_iff.1 hh).1).trans hh,r⟩
theorem Own.zD {w:World} {B e sz n:Nat} {v:Value} {cs:List Value} (h:w.ownsRow B e sz v n cs) (hn:0 < n):∃ g c,v=.slice (some ⟨g,0,none⟩) n c/\B≤g/\g < w.heap.size:=by
 rcases h.2 with ⟨_,h0⟩ | ⟨g,cap,cur,rfl,hb,hg,_⟩
 ·omega
 ·exact ⟨g,cap,rfl,hb,(Array.getElem?_eq_some_iff.1 hg).1⟩
theorem Own.drewN {w:World} {B e sz n:Nat} {v:Value} {cs:List Value} (h:w.ownsRow B e sz v n cs) (k:Nat):(w.drewN k).ownsRow B e sz v n cs:=h
theorem Below.drewN {B:Nat} {a w:World} (h:Below B a w) (n:Nat):Below B a (w.drewN n):=⟨h.os,h.tape,h.output,h.size,h.block⟩
theorem Own.take {w:World} {B e sz n c:Nat} {p:Option Addr} {cs:List Value} (h:w.ownsRow B e sz (.slice p n c) n cs) {m:Nat} (hm:m≤n):w.ownsRow B e sz (.slice p m c) m (cs.take (m * sz)):=by
 have hle:m * sz≤n * sz:=Nat.mul_le_mul_right _ hm
 refine ⟨by rw [List.length_take,h.1];omega,?_⟩
 rcases h.2 with ⟨hv,rfl⟩ | ⟨g,cap,cur,hv,hb,hg,fE,fX,hcs,Rf⟩
 ·left
  simp only [Value.slice.injEq] at hv
  obtain ⟨rfl,_,rfl⟩:=hv
  exact ⟨by rw [show m=0 by omega],by omega⟩
 ·right
  simp only [Value.slice.injEq,true_and] at hv
  obtain ⟨rfl,rfl⟩:=hv
  exact ⟨g,c,cur,rfl,hb,hg,by omega,fX,hcs,by rw [<-Rf,List.take_take,Nat.min_eq_left hle]⟩
theorem Rd.take {w:World} {sz n c:Nat} {p:Option Addr} {cs:List Value} (h:Rd w sz (.slice p n c) n cs) {m:Nat} (hm:m≤n):Rd w sz (.slice p m c) m (cs.take (m * sz)):=by
 obtain ⟨p',c',hv,h1,h2,h3,h4⟩:=h
 simp only [Value.slice.injEq,true_and] at hv
 obtain ⟨rfl,rfl⟩:=hv
 have hle:m * sz≤n * sz:=Nat.mul_le_mul_right _ hm
 refine ⟨p,c,rfl,by omega,h2,by rw [List.length_take,h3];omega,fun hn=> ?_⟩
 obtain ⟨b,off,hp,hc⟩:=h4 ab
 exact ⟨b,off,hp,fun j u hj=>hc j u (by rw [List.getElem?_take] at hj;split at hj;exact hj;cases hj)⟩
def ints (k:IntKind) (xs:List Nat):List Value:=xs.map fun (x:Nat)=>Value.int k (x:Int)
@[simp] theorem xy (k:IntKind) (xs:List Nat):(ints k xs).length=xs.length:=by simp [ints]
theorem ur {k:IntKind} {xs:List Nat} {j x:Nat} (h:xs[j]? =some x):(ints k xs)[j]? =some (.int k (x:Int)):=by simp [ints,h]
theorem rR (k:IntKind) (xs:List Nat) (m:Nat):(ints k xs).take m=ints k (xs.take m):=by simp [ints,List.map_take]
theorem OD (k:IntKind) (xs:List Nat) (m:Nat):(ints k xs).drop m=ints k (xs.drop m):=by simp [ints,List.map_drop]
theorem jj (k:IntKind) (xs ys:List Nat):ints k (xs++ys)=ints k xs++ints k ys:=by simp [ints]
theorem ints_set (k:IntKind) (xs:List Nat) (j x:Nat):(ints k xs).set j (.int k (x:Int))=ints k (xs.set j x):=by simp [ints,List.map_set]
theorem oo (k:IntKind) (xs:List Nat):∀ u∈ints k xs,u.oneCell'=true:=by
 intro u hu;obtain ⟨_,_,rfl⟩:=List.mem_map.1 hu;rfl
theorem Rd.lit1 {w:World} {k:IntKind} {e a:Nat} {x:Int} (hx:x=(a:Int)):Rd (w.alloc (.cells #[.int k x] e)) 1 (.slice (some ⟨w.heap.size,0,none⟩) 1 1) 1 (ints k [a]):=by
 subst hx;exact Rd.lit rfl ab
theorem Rd.lit2 {w:World} {k:IntKind} {e a b:Nat} {x y:Int} (hx:x=(a:Int)) (hy:y=(b:Int)):Rd (w.alloc (.cells #[.int k x,.int k y] e)) 1 (.slice (some ⟨w.heap.size,0,none⟩) 2 2) 2 (ints k [a,b]):=by
 subst hx;subst hy;exact Rd.lit rfl ab
theorem Rd.cellAt {w:World} {n:Nat} {p:Option Addr} {c k:Nat} {ki:IntKind} {xs:List Nat} (h:Rd w 1 (.slice p n c) n (ints ki xs)) (hk:k < n):
  ∃ b off x,p=some ⟨b,off,none⟩/\b < w.heap.size/\xs[k]? =some x/\w.cell? ⟨b,off + k,none⟩=some (.int ki (x:Int)):=by
 obtain ⟨p',c',hv,h1,h2,h3,h4⟩:=h
 simp only [Value.slice.injEq,true_and] at hv
 obtain ⟨rfl,rfl⟩:=hv
 obtain ⟨b,off,hp,hc⟩:=h4 ab
 rw [xy] at h3
 have hx:=List.getElem?_eq_getElem (show k < xs.length by omega)
 have hcell:=hc k _ (ur hx)
 exact ⟨b,off,_,hp,kA hcell,hx,hcell⟩
theorem Rd.form {w:World} {sz n:Nat} {v:Value} {cs:List Value} (h:Rd w sz v n cs):∃ p c,v=.slice p n c/\n≤c/\c≤maxLen/\cs.length=n * sz:=by
 obtain ⟨p,c,hv,h1,h2,h3,_⟩:=h
 exact ⟨p,c,hv,h1,h2,h3⟩
theorem Own.form {w:World} {B e sz n:Nat} {v:Value} {cs:List Value} (h:w.ownsRow B e sz v n cs):∃ p c,v=.slice p n c/\n≤c/\c≤maxLen/\cs.length=n * sz:=(Rd.own h).form
theorem nL {P:Program} (w:World) (base t ty e:Nat) (i:TypeInfo) (z:Value) (size bytes:Nat) (ht:P.underlying t=some (.slice e)) (hi:P.info? e=some i) (hz:i.zero=some z)
  (xz:i.size=size) (Kh:i.bytes=bytes) (QN:z.cells.size=size) (hsz:0 < size)
  (v:Value) (n:Nat) (xs:List Value) (aJ:w.ownsRow base e size v n xs) (x:Value) (m:Nat) (news:List Value) (hx:Rd w size x m news) (h1:∀ u∈news,u.oneCell'=true)
  (h63:n + m≤maxLen) (iu:(n + m) * bytes≤140737488355328) (kP:base≤w.heap.size):
  ∃ v' w',(Builtin.append_ #[t,t] ty #[v,x]).run P w=.ok v' w'/\w'.ownsRow base e size v' (n + m) (xs++news)/\w.grownBy w' v.ownBlock:=by
 obtain ⟨p,c,rfl,hmc,fX,hl,hp⟩:=hx
 by_cases hm:m=0
 ·subst hm
  have hn:news=[]:=List.eq_nil_of_length_eq_zero (by simpa using hl)
  subst hn
  refine ⟨v,w,?_,by simpa using aJ,⟨rfl,rfl,rfl,Nat.le_refl _,fun _ _ _=>rfl⟩⟩
  subst xz
  rcases aJ.2 with ⟨rfl,rfl⟩ | ⟨g,cap,cur,rfl,_,hg,fE,yo,hcs,Rf⟩
  ·cases p <;> simp [Builtin.append_,run_underlying ht,sizeOf,typeInfo,hi,Builtin.lenOf,Builtin.firstCells,loadCells,loadCellsFrom]
  ·cases p <;> simp [Builtin.append_,run_underlying ht,sizeOf,typeInfo,hi,Builtin.lenOf,Builtin.firstCells,loadCells,loadCellsFrom,fE,storeCells]
 ·obtain ⟨b,off,rfl,hc⟩:=hp (Nat.mul_pos ab hsz)
  obtain ⟨v',w',hr,h2,h3,_⟩:=run_append_own (P:=P) w base t ty e i z size bytes ht hi hz xz Kh QN hsz v n xs aJ ⟨b,off,none⟩ m c news hl
   (fun j u hj=>by
    have:=hc j u hj
    rwa [show (⟨b,off,none⟩:Addr).add j=⟨b,off + j,none⟩ by unfold Addr.add;split <;> simp_all]) h1 h63 iu kP
  exact ⟨v',w',hr,h2,h3⟩
theorem ke {P:Program} (w:World) {ops:Array Oper} {rest:List Oper} {o:Oper} {a:Act} {Q:Exit->Act->World->Prop} (Rg:o.guard=none) (s x:Operand) (t:TypeId)
  (ho:o.op=.call { callee:=.builtin .append,args:=#[s,x],argTypes:=#[t,t] })
  (base:Nat) (e:TypeId) (i:TypeInfo) (z:Value) (size bytes:Nat) (ht:P.underlying t=some (.slice e)) (hi:P.info? e=some i) (hz:i.zero=some z)
  (xz:i.size=size) (Kh:i.bytes=bytes) (QN:z.cells.size=size) (hsz:0 < size)
  (v:Value) (n:Nat) (xs:List Value) (hs:a.eval s=v) (aJ:w.ownsRow base e size v n xs)
  (xv:Value) (m:Nat) (news:List Value) (hx:a.eval x=xv) (vY:Rd w size xv m news) (h1:∀ u∈news,u.oneCell'=true)
  (h63:n + m≤maxLen) (iu:(n + m) * bytes≤140737488355328) (kP:base≤w.heap.size)
  (h:∀ v' w',w'.ownsRow base e size v' (n + m) (xs++news)->w.grownBy w' v.ownBlock->wpList P ops Q rest (a.put o.dst v') w'):wpList P ops Q (o::rest) a w:=by
 refine wpList_plain Rg fun _ hK=> ?_
 obtain ⟨v',w',hr,h2,h3⟩:=nL (P:=P) w base t o.type e i z size bytes ht hi hz xz Kh QN hsz v n xs aJ xv m news vY h1 h63 iu kP
 unfold Oper.wp execOp
 simp only [ho,resolve,invoke,builtin,Sem.run_bind,Sem.run_pure,Result.andThen_ok,List.map_toArray,List.map_cons,List.map_nil,hs,hx,hr]
 exact hK _ _ (h v' w' h2 h3)
theorem qN {P:Program} {w:World} {ops:Array Oper} {o:Oper} {a:Act} {K:Act->World->Prop} {Q:Exit->Act->World->Prop} {E:Prop} (Rg:o.guard=none) (s x:Operand) (t:TypeId)
  (ho:o.op=.call { callee:=.builtin .append,args:=#[s,x],argTypes:=#[t,t] })
  (base:Nat) (e:TypeId) (i:TypeInfo) (z:Value) (size bytes:Nat) (ht:P.underlying t=some (.slice e)) (hi:P.info? e=some i) (hz:i.zero=some z)
  (xz:i.size=size) (Kh:i.bytes=bytes) (QN:z.cells.size=size) (hsz:0 < size)
  (v:Value) (n:Nat) (xs:List Value) (hs:a.eval s=v) (aJ:w.ownsRow base e size v n xs)
  (xv:Value) (m:Nat) (news:List Value) (hx:a.eval x=xv) (vY:Rd w size xv m news) (h1:∀ u∈news,u.oneCell'=true)
  (h63:n + m≤maxLen) (iu:(n + m) * bytes≤140737488355328) (kP:base≤w.heap.size)
  (h:∀ v' w',w'.ownsRow base e size v' (n + m) (xs++news)->w.grownBy w' v.ownBlock->K (a.put o.dst v') w'):
  if Region.wanted o (yielded ops a.tmps)=true then Oper.wp P o a w K Q else E:=by
 have hw:Region.wanted o (yielded ops a.tmps)=true:=by simp [Region.wanted,Rg]
 rw [if_pos hw]
 obtain ⟨v',w',hr,h2,h3⟩:=nL (P:=P) w base t o.type e i z size bytes ht hi hz xz Kh QN hsz v n xs aJ xv m news vY h1 h63 iu kP
 unfold Oper.wp execOp
 simp only [ho,resolve,invoke,builtin,Sem.run_bind,Sem.run_pure,Result.andThen_ok,List.map_toArray,List.map_cons,List.map_nil,hs,hx,hr]
 exact h v' w' h2 h3
theorem Dg {w w1:World} {o:Obj} {a:Addr} {v:Value} {row:Option Nat} (hg:(w.alloc o).drew.grownBy w1 row) (hc:w.cell? a=some v) (hne:some a.block≠row):w1.cell? a=some v:=
 hg.cell ((World.cell?_alloc_lt w o a (kA hc)).trans hc) hne
theorem Rh {w:World} {B e sz n b:Nat} {v:Value} {cs:List Value} (h:w.ownsRow B e sz v n cs) (hb:b < B):some b≠v.ownBlock:=by
 intro he
 have:=(h.lt b he.symm).1
 omega
theorem Below.behind {B B' e sz n:Nat} {w0 w w1:World} {o:Obj} {v:Value} {cs:List Value} (h:Below B w0 w) (hB:B≤w.heap.size) (hg:(w.alloc o).drew.grownBy w1 v.ownBlock) (ho:w.ownsRow B' e sz v n cs) (hBB:B≤B'):Below B w0 w1:=
 ((h.alloc hB o).drew).grown hg (by simp;omega) fun k hk=>by have:=(ho.lt k hk).1;omega
theorem Below.aN {a b c:World} (h:Below a.heap.size a b) (k:Below b.heap.size b c):Below a.heap.size a c:=h.trans (k.mono h.size)
theorem wpList_append_run {P:Program} {w:World} {ops:Array Oper} {rest:List Oper} {o:Oper} {a:Act} {Q:Exit->Act->World->Prop} (Rg:o.guard=none) (s x:Operand) (t t':TypeId)
  (ho:o.op=.call { callee:=.builtin .append,args:=#[s,x],argTypes:=#[t,t'] }) (v xv:Value) (hs:a.eval s=v) (hx:a.eval x=xv) (v':Value) (w':World)
  (hr:(Builtin.append_ #[t,t'] o.type #[v,xv]).run P w=.ok v' w') (h:wpList P ops Q rest (a.put o.dst v') w'):wpList P ops Q (o::rest) a w:=by
 refine wpList_plain Rg fun _ hK=> ?_
 unfold Oper.wp execOp
 simp only [ho,resolve,invoke,builtin,Sem.run_bind,Sem.run_pure,Result.andThen_ok,List.map_toArray,List.map_cons,List.map_nil,hs,hx,hr]
 exact hK _ _ h
theorem Below.Ri {B B':Nat} {w0 w w':World} {e sz n:Nat} {v:Value} {cs:List Value} (h:Below B w0 w) (hg:w.grownBy w' v.ownBlock) (ho:w.ownsRow B' e sz v n cs) (hB:B≤w.heap.size) (hBB:B≤B'):Below B w0 w':=
 h.grown hg hB fun k hk=>by have:=(ho.lt k hk).1;omega
theorem aY {P:Program} {f:FuncId} {args:Array Value} {w:World} {R:Ending->World->Prop} (h:∀ R':Ending->World->Prop,Hid (∀ e w',R e w'->R' e w')->Calls P f args w R'):Calls P f args w R:=h R fun _ _ h=>h
theorem oq {k:IntKind} {a a':Int} (h:a=a'):Ending.returned (.int k a)=.returned (.int k a'):=by rw [h]
theorem ret2 {k l:IntKind} {a a' b b':Int} (h:a=a') (h':b=b'):Ending.returned (.tuple #[.int k a,.int l b])=.returned (.tuple #[.int k a',.int l b']):=by rw [h,h']
theorem Own.made {w:World} {B e n:Nat} {v:Value} {k:IntKind} (h:w.ownsRow B e 1 v n (madeCells (Value.int k 0).cells (n * 1)).toList):w.ownsRow B e 1 v n (ints k ([]++List.replicate n 0)):=by
 have:(madeCells (Value.int k 0).cells (n * 1)).toList=ints k ([]++List.replicate n 0):=by
  rw [show (Value.int k 0).cells=#[Value.int k 0] from rfl,toList_madeCells_one];simp [ints]
 rwa [this] at h
theorem Own.zE {w:World} {B e g n cap r:Nat} {k:IntKind} {ds:List Nat} (h:w.ownsRow B e 1 (.slice (some ⟨g,0,none⟩) n cap) n (ints k (ds++List.replicate (r + 1) 0))):
  w.cell? ⟨g,ds.length,none⟩=some (.int k 0)/\w.frozen? ⟨g,ds.length,none⟩=false:=by
 have hl:=h.1
 simp at hl
 refine ⟨?_,h.frozenAt _⟩
 rw [h.cellAt _ ab]
 have:=ur (k:=k) (xs:=ds++List.replicate (r + 1) 0) (j:=ds.length) (x:=0) (by simp [List.replicate_succ])
 simpa using this
theorem Own.uw {w:World} {B e g n cap r x:Nat} {k:IntKind} {ds:List Nat} (h:w.ownsRow B e 1 (.slice (some ⟨g,0,none⟩) n cap) n (ints k (ds++List.replicate (r + 1) 0))):
  (w.setCell ⟨g,ds.length,none⟩ (.int k (x:Int))).ownsRow B e 1 (.slice (some ⟨g,0,none⟩) n cap) n (ints k ((ds++[x])++List.replicate r 0)):=by
 have h1:=(h.stored ds.length (.int k (x:Int))).1
 rw [ints_set] at h1
 have:(ds++List.replicate (r + 1) 0).set ds.length x=(ds++[x])++List.replicate r 0:=by
  rw [List.set_append_right _ _ (Nat.le_refl _),Nat.sub_self,List.replicate_succ,List.set_cons_zero,List.append_assoc];rfl
 rwa [this] at h1
theorem Own.iG {w:World} {B e g n cap:Nat} {k:IntKind} {xs:List Nat} (h:w.ownsRow B e 1 (.slice (some ⟨g,0,none⟩) n cap) n (ints k xs)) {j:Nat} (hj:j < n):
  ∃ x,xs[j]? =some x/\w.cell? ⟨g,j,none⟩=some (.int k (x:Int))/\w.frozen? ⟨g,j,none⟩=false:=by
 have hl:=h.1
 simp at hl
 have hx:=List.getElem?_eq_getElem (show j < xs.length by omega)
 refine ⟨_,hx,?_,h.frozenAt _⟩
 rw [h.cellAt _ ab,ur hx]
theorem Own.ic {w:World} {B e g n cap j x:Nat} {k:IntKind} {xs:List Nat} (h:w.ownsRow B e 1 (.slice (some ⟨g,0,none⟩) n cap) n (ints k xs)):
  (w.setCell ⟨g,j,none⟩ (.int k (x:Int))).ownsRow B e 1 (.slice (some ⟨g,0,none⟩) n cap) n (ints k (xs.set j x)):=by
 have h1:=(h.stored j (.int k (x:Int))).1
 rwa [ints_set] at h1
theorem Own.lt {w:World} {B e sz g n cap:Nat} {p:Nat} {cs:List Value} (h:w.ownsRow B e sz (.slice (some ⟨g,p,none⟩) n cap) n cs):B≤g/\g < w.heap.size:=World.ownsRow.lt h g rfl
theorem Ap {P:Program} {f:FuncId} {args:Array Value} {W:World} {X:Nat->World} {v:Value} (h:Calls P f args W fun e w'=>e=.returned v/\W=w') (hW:∃ n,W=X n):
  Calls P f args W fun e w''=>e=.returned v/\∃ m,w''=X m:=
 h.mono fun _ _ ⟨he,hm⟩=>⟨he,hW.imp fun _ hn=>hm▸hn⟩
theorem er {P:Program} {w:World} {ops:Array Oper} {rest:List Oper} {o:Oper} {a:Act} {Q:Exit->Act->World->Prop} (Rg:o.guard=none) (s x:Operand) (t:TypeId)
  (ho:o.op=.call { callee:=.builtin .append,args:=#[s,x],argTypes:=#[t,t] })
  (base:Nat) (e:TypeId) (i:TypeInfo) (z:Value) (bytes:Nat) (ht:P.underlying t=some (.slice e)) (hi:P.info? e=some i) (hz:i.zero=some z)
  (xz:i.size=1) (Kh:i.bytes=bytes) (QN:z.cells.size=1)
  {v:Value} {n:Nat} {k:IntKind} {ds:List Nat} {y:Int} {d:Nat} {e':TypeId} (aJ:w.ownsRow base e 1 v n (ints k ds)) (hs:a.eval s=v) (hx:a.eval x=.slice (some ⟨w.heap.size,0,none⟩) 1 1) (hy:y=(d:Int))
  (h63:n + 1≤9223372036854775807) (iu:(n + 1) * bytes≤140737488355328) (kP:base≤w.heap.size)
  (h:∀ v' w',w'.ownsRow base e 1 v' (n + 1) (ints k (ds++[d]))->(∀ w0,Below base w0 w->Below base w0 w')->wpList P ops Q rest (a.put o.dst v') w'):wpList P ops Q (o::rest) a (w.alloc (.cells #[.int k y] e')):=by
 refine ke _ Rg s x t ho base e i z 1 bytes ht hi hz xz Kh QN ab v n _ hs (aJ.alloc _) _ 1 (ints k [d]) hx (Rd.lit1 hy) (oo k [d]) (by unfold maxLen;omega) iu (by simp;omega) ?_
 intro v' w' h1 h2
 refine h v' w' (by rw [jj];exact h1) fun w0 hb=> ?_
 exact (hb.alloc kP _).grown h2 (by simp;omega) fun j hj=>(aJ.lt j hj).1
theorem Rj (a b:Nat) (ha:a < 4294967296) (hb:b < 4294967296):a * b < 18446744065119617026:=by
 have h1:a * b≤4294967295 * 4294967295:=Nat.mul_le_mul ab ab
 omega
set_option maxRecDepth 100000 in
theorem OE (a b:Nat) (w:World) (ha:a < 4294967296) (hb:b < 4294967296):
  Calls Tryz.prog 158 #[.int .u32 (a:Int),.int .u32 (b:Int)] w fun e w'=>e=.returned (.tuple #[.int .u32 ((a * b / 4294967296:Nat):Int),.int .u32 ((a * b % 4294967296:Nat):Int)])/\w=w':=by
 have h:=Rj a b ha hb
 have h2:(a:Int) * (b:Int) < 18446744065119617026:=by rw [<-Int.natCast_mul];omega
 have h3:0≤(a:Int) * (b:Int):=by rw [<-Int.natCast_mul];omega
 refine aY fun R' bR=> ?_
 go_enter Tryz.func158,Tryz.ntmps158
 go_wp2
 refine bR.out _ _ ⟨ret2 ?_ ?_,rfl⟩ <;> simp
set_option maxRecDepth 100000 in
theorem ot (a b c:Nat) (w:World) (ha:a < 4294967296) (hb:b < 4294967296) (hc:c < 4294967296):
  Calls Tryz.prog 139 #[.int .u32 (a:Int),.int .u32 (b:Int),.int .u32 (c:Int)] w fun e w'=>e=.returned (.tuple #[.int .u32 (((a + b + c) % 4294967296:Nat):Int),.int .u32 (((a + b + c) / 4294967296:Nat):Int)])/\w=w':=by
 refine aY fun R' bR=> ?_
 go_enter Tryz.func139,Tryz.ntmps139
 go_wp2
 refine bR.out _ _ ⟨ret2 ?_ ?_,rfl⟩ <;> simp
set_option maxRecDepth 100000 in
theorem OG (a b d:Nat) (w:World) (ha:a < d) (hb:b < 4294967296) (hd:d < 4294967296):
  Calls Tryz.prog 151 #[.int .u32 (a:Int),.int .u32 (b:Int),.int .u32 (d:Int)] w fun e w'=>
   e=.returned (.tuple #[.int .u32 (((a * 4294967296 + b) / d:Nat):Int),.int .u32 (((a * 4294967296 + b) % d:Nat):Int)])/\∃ k,w'=w.drewN k:=by
 have Ms:((d:Int) != 0)=true:=by rw [bne_iff_ne];omega
 have hd1:1≤(d:Int):=by omega
 have hle:¬ ((d:Int)≤(a:Int)):=by omega
 have Aq:bits BinOp.or IntKind.u64 ((a:Int) * 4294967296) (b:Int)=((a * 4294967296 + b:Nat):Int):=by
  have e1:((a:Int) * 4294967296)=((a * 4294967296:Nat):Int):=by simp
  rw [e1,u64_or_nat _ _ ab ab,nat_join 32 _ _ ab ab]
 have hq:(a * 4294967296 + b) / d < 4294967296:=by
  rw [Nat.div_lt_iff_lt_mul ab]
  have:(a + 1) * 4294967296≤d * 4294967296:=Nat.mul_le_mul_right _ ha
  rw [Nat.mul_comm 4294967296 d];omega
 have hq1:((a:Int) * 4294967296 + (b:Int)) / (d:Int) < 4294967296:=by
  have:(((a * 4294967296 + b) / d:Nat):Int) < 4294967296:=by omega
  simpa using this
 have hr:(a * 4294967296 + b) % d < d:=Nat.mod_lt _ ab
 have jA:((a:Int) * 4294967296 + (b:Int)) % (d:Int) < 4294967296:=by
  have:(((a * 4294967296 + b) % d:Nat):Int) < 4294967296:=by omega
  simpa using this
 have JW:0≤((a:Int) * 4294967296 + (b:Int)) / (d:Int):=by
  exact Int.ediv_nonneg ab ab
 have Ar:0≤((a:Int) * 4294967296 + (b:Int)) % (d:Int):=by
  exact Int.emod_nonneg _ ab
 rw [show ((a * 4294967296 + b:Nat):Int)=(a:Int) * 4294967296 + (b:Int) by simp] at Aq
 clear hq hr
 refine aY fun R' bR=> ?_
 go_enter Tryz.func151,Tryz.ntmps151
 go_wp2_with fail
 go_quiet (fail)
 go_wp2
 refine bR.out _ _ ⟨ret2 ?_ ?_,_,rfl⟩ <;> simp
theorem ux (n:Nat) (h:n < 4294967296):n.testBit 31=decide (2147483648≤n):=by
 rw [Nat.testBit_eq_decide_div_mod_eq]
 by_cases h':2147483648≤n
 ·have:n / 2 ^ 31=1:=by omega
  simp [this,h']
 ·have:n / 2 ^ 31=0:=by omega
  simp [this];omega
theorem by_top (n:Nat) (h:n < 4294967296):n / 2147483648=(n.testBit 31).toNat:=by
 rw [ux n h]
 by_cases h':2147483648≤n <;> simp [h'] <;> omega
theorem Ki (x y c d:Nat) (hx:x < 4294967296) (hy:y < 4294967296) (hc:c < 2) (hd:d=(x + 8589934592 - y - c) % 4294967296):
  ((4294967295 ^^^ x) &&& y ||| (4294967295 ^^^ (x ^^^ y)) &&& d) / 2147483648=if x < y + c then 1 else 0:=by
 have jR:d < 4294967296:=by omega
 have h1:4294967295 ^^^ x < 2 ^ 32:=Nat.xor_lt_two_pow ab ab
 have h2:x ^^^ y < 2 ^ 32:=Nat.xor_lt_two_pow ab ab
 have h3:4294967295 ^^^ (x ^^^ y) < 2 ^ 32:=Nat.xor_lt_two_pow ab h2
 have h4:(4294967295 ^^^ x) &&& y ||| (4294967295 ^^^ (x ^^^ y)) &&& d < 2 ^ 32:=Nat.or_lt_two_pow (Nat.and_lt_two_pow _ ab) (Nat.and_lt_two_pow _ ab)
 rw [by_top _ ab]
 simp only [Nat.testBit_or,Nat.testBit_and,Nat.testBit_xor,ux _ hx,ux _ hy,ux _ jR,ux 4294967295 ab]
 by_cases a1:2147483648≤x <;> by_cases a2:2147483648≤y <;> by_cases a3:2147483648≤d <;> simp [a1,a2,a3] <;> omega
set_option maxRecDepth 100000 in
theorem Dh (a b c:Nat) (w:World) (ha:a < 4294967296) (hb:b < 4294967296) (hc:c < 2):
  Calls Tryz.prog 142 #[.int .u32 (a:Int),.int .u32 (b:Int),.int .u32 (c:Int)] w fun e w'=>
   (∃ d r:Nat,e=.returned (.tuple #[.int .u32 (d:Int),.int .u32 (r:Int)])/\d < 4294967296/\r≤1/\a + 4294967296 * r=d + b + c)/\w=w':=by
 obtain ⟨d,hd⟩:∃ d,d=(a + 8589934592 - b - c) % 4294967296:=⟨_,rfl⟩
 have jR:d < 4294967296:=by omega
 have jU:=Ki a b c d ha hb hc hd
 have hdi:((a:Int) - (b:Int) - (c:Int)) % 4294967296=(d:Int):=by omega
 have hm:IntKind.u32.max=((4294967295:Nat):Int):=rfl
 have h1:4294967295 ^^^ a < 4294967296:=Nat.xor_lt_two_pow (n:=32) ab ab
 have h2:a ^^^ b < 4294967296:=Nat.xor_lt_two_pow (n:=32) ab ab
 have h3:4294967295 ^^^ (a ^^^ b) < 4294967296:=Nat.xor_lt_two_pow (n:=32) ab ab
 have h4:(4294967295 ^^^ a) &&& b < 4294967296:=Nat.and_lt_two_pow (n:=32) _ ab
 have h5:(4294967295 ^^^ (a ^^^ b)) &&& d < 4294967296:=Nat.and_lt_two_pow (n:=32) _ ab
 have H:Hid (bits BinOp.or IntKind.u32 (bits BinOp.and IntKind.u32 (bits BinOp.xor IntKind.u32 IntKind.u32.max (a:Int)) (b:Int))
   (bits BinOp.and IntKind.u32 (bits BinOp.xor IntKind.u32 IntKind.u32.max (bits BinOp.xor IntKind.u32 (a:Int) (b:Int))) (((a:Int) - (b:Int) - (c:Int)) % 4294967296)) / 2147483648=((if a < b + c then 1 else 0:Nat):Int)):=by
  show _=_
  rw [hdi,hm,u32_xor_nat _ _ ab ha,u32_and_nat _ _ h1 hb,u32_xor_nat _ _ ha hb,u32_xor_nat _ _ ab h2,u32_and_nat _ _ h3 jR,u32_or_nat _ _ h4 h5,<-jU]
  simp
 have HD:Hid (((a:Int) - (b:Int) - (c:Int)) % 4294967296=((a + 8589934592 - b - c) % 4294967296:Nat)):=by show _=_;rw [hdi,hd]
 clear hd hdi jU hm h1 h2 h3 h4 h5 jR
 refine aY fun R' bR=> ?_
 go_enter Tryz.func142,Tryz.ntmps142
 go_wp2
 all_goals exact bR.out _ _ ⟨⟨(a + 8589934592 - b - c) % 4294967296,if a < b + c then 1 else 0,ret2 HD.out H.out,Nat.mod_lt _ ab,by split <;> omega,by split <;> omega⟩,rfl⟩
set_option maxRecDepth 100000 in
theorem dJ (p:Option Addr) (n c:Nat) (xs:List Nat) (w:World) (hr:Rd w 1 (.slice p n c) n (ints .u32 xs)) (hl:cR xs):
  Calls Tryz.prog 134 #[.slice p n c] w fun e w'=>(∃ m,m≤n/\e=.returned (.slice p m c)/\limbs (ak xs)=xs.take m)/\w=w':=by
 have fE:n≤c/\c≤9223372036854775807/\xs.length=n:=by
  obtain ⟨p',c',hv,h1,h2,h3⟩:=hr.form
  simp only [Value.slice.injEq,true_and] at hv
  obtain ⟨rfl,rfl⟩:=hv
  unfold maxLen at h2
  simp at h3
  exact ⟨h1,by omega,h3⟩
 obtain ⟨fE,fX,fA⟩:=fE
 have HX:Hid (xs.length=n):=fA
 clear fA
 refine aY fun R' bR=> ?_
 go_enter Tryz.func134,Tryz.ntmps134
 go_wp2
 go_loop [0] (fun v=>∃ m,m≤n/\v=.slice p m c/\ak (xs.take m)=ak xs) (fun v=>match v with | .slice _ m _=>m | _=>0)
 case atStart=>exact ⟨n,Nat.le_refl _,rfl,by rw [List.take_of_length_le (Nat.le_of_eq HX.out)]⟩
 case round=>
  obtain ⟨m,hm,rfl,hv⟩:=hrel
  have HV:Hid (ak (xs.take m)=ak xs):=hv
  clear hv
  by_cases h0:m=0
  ·subst h0
   go_wp2
   exact bR.out _ _ ⟨⟨0,Nat.zero_le _,rfl,lV ab hl (Nat.zero_le _) HV.out (.inl rfl)⟩,rfl⟩
  ·obtain ⟨b,off,x,rfl,hb,hx,hc⟩:=hr.cellAt (k:=m - 1) ab
   have Rk:Hid (xs[m-1]? =some x):=hx
   clear hx
   have h0':0 < m:=by omega
   obtain ⟨j,rfl⟩:∃ j,m=j + 1:=⟨m - 1,by omega⟩
   rw [Nat.add_sub_cancel] at hc
   by_cases iA:x=0
   ·subst iA
    go_wp2
    go_round
    case rel=>exact ⟨j,by omega,rfl,(nb Rk.out).symm.trans HV.out⟩
    case measure=>simp
   ·have hx0':((x:Int) == 0)=false:=by rw [beq_eq_false_iff_ne];omega
    go_wp2
    exact bR.out _ _ ⟨⟨j + 1,hm,rfl,lV ab hl (by rw [HX.out];exact hm) HV.out (.inr ⟨x,Rk.out,iA⟩)⟩,rfl⟩
theorem kC:(Tryz.prog.info? 117).map (fun i=>(i.zero,i.size,i.bytes))=some (some (.int .u32 0),1,4):=by kernel_rfl
theorem bW {P:Prop} (h:P:=by decide):P:=h
set_option maxRecDepth 100000 in
theorem kf (v:Value) (n:Nat) (xs:List Nat) (w:World) (hr:Rd w 1 v n (ints .u32 xs)) (hn:n≤1073741824):
  Calls Tryz.prog 133 #[v] w fun e w'=>∃ v',e=.returned v'/\w'.ownsRow w.heap.size 117 1 v' n (ints .u32 xs)/\Below w.heap.size w w':=by
 obtain ⟨p,c,rfl,fE,fX,hl⟩:=hr.form
 have Hr:=Lib.hid hr
 have OH:∀ w':World,(binOp .eql 22 (.slice p n c) (.slice none 0 0)).run Tryz.prog w'=.ok (.bool p.isNone) w':=fun w'=>Lib.run_eql_slice_nil w' 22 117 p n c 0 0 Tryz.underlying22
 obtain ⟨i0,hi,jB,gC,mO⟩:=info_parts kC
 have HL:=Lib.hid hl
 clear hl hr
 unfold maxLen at fX
 cases p with
 | none=>
   refine aY fun R' bR=> ?_
   go_enter Tryz.func133,Tryz.ntmps133
   go_wp2
   refine bR.out _ _ ⟨_,rfl,?_,Below.refl _ _⟩
   obtain ⟨p,c',hv,_,_,h3,h4⟩:=Hr.out
   simp only [Value.slice.injEq,true_and] at hv
   obtain ⟨rfl,rfl⟩:=hv
   have h0:n=0:=by
    rcases Nat.eq_zero_or_pos n with h | h
    ·exact h
    ·obtain ⟨b,off,hp,_⟩:=h4 ab;cases hp
   subst h0
   have hx:ints .u32 xs=[]:=List.eq_nil_of_length_eq_zero (by simpa using h3)
   rw [hx]
   exact World.ownsRow_nil _ _ _ _
 | some ad=>
   refine aY fun R' bR=> ?_
   go_enter Tryz.func133,Tryz.ntmps133
   go_wp2_with (at_builtin;refine ke _ rfl _ _ 22 rfl w.heap.size 117 i0 (.int .u32 0) 1 4 Tryz.underlying22 hi jB gC mO rfl bW _ 0 [] rfl (World.ownsRow_made w #[] 0 (Nat.le_refl _) (by simp [maxLen]) rfl) _ n _ rfl (Hr.out.alloc _) (oo _ _) (by unfold maxLen;omega) ab cw ?_;intro v' w1 aJ OI)
   simp only [Nat.zero_add,List.nil_append] at aJ
   refine bR.out _ _ ⟨_,rfl,aJ,((Below.refl _ _).alloc (Nat.le_refl _) _).grown OI cw fun k hk=>by injection (show some w.heap.size=some k from hk) with hk;omega⟩
theorem Rd.u32 {w:World} {v:Value} {n:Nat} {xs:List Nat} (h:Rd w 1 v n (ints .u32 xs)):∃ p c,v=.slice p n c/\n≤c/\c≤9223372036854775807/\xs.length=n:=by
 obtain ⟨p,c,hv,h1,h2,h3⟩:=h.form
 unfold maxLen at h2
 exact ⟨p,c,hv,h1,by omega,by simpa using h3⟩
theorem Rd.limbs {w:World} {n c m:Nat} {p:Option Addr} {xs:List Nat} (h:Rd w 1 (.slice p n c) n (ints .u32 xs)) (hm:m≤n) (hl:limbs (ak xs)=xs.take m):
  Rd w 1 (.slice p m c) m (ints .u32 (limbs (ak xs))):=by
 have:=h.take hm
 rwa [Nat.mul_one,rR,<-hl] at this
theorem Own.limbs {w:World} {B e n c m:Nat} {p:Option Addr} {xs:List Nat} (h:w.ownsRow B e 1 (.slice p n c) n (ints .u32 xs)) (hm:m≤n) (hl:limbs (ak xs)=xs.take m):
  w.ownsRow B e 1 (.slice p m c) m (ints .u32 (limbs (ak xs))):=by
 have:=Own.take h hm
 rwa [Nat.mul_one,rR,<-hl] at this
set_option maxRecDepth 100000 in
theorem kQ (v:Value) (n:Nat) (xs:List Nat) (w:World) (hr:Rd w 1 v n (ints .u32 xs)) (hl:cR xs) (hn:n≤1073741824):
  Calls Tryz.prog 112 #[v] w fun e w'=>∃ v',e=.returned v'/\w'.ownsRow w.heap.size 117 1 v' (limbs (ak xs)).length (ints .u32 (limbs (ak xs)))/\Below w.heap.size w w':=by
 obtain ⟨p,c,rfl,fE,fX,fA⟩:=hr.u32
 have Hr:=Lib.hid hr
 have HL:=Lib.hid hl
 have HX:=Lib.hid fA
 clear fA hl hr
 refine aY fun R' bR=> ?_
 go_enter Tryz.func112,Tryz.ntmps112
 go_wp2_with fail
 refine (dJ p n c xs _ Hr.out HL.out).mono ?_
 rintro e w1 ⟨⟨m,hm,rfl,CB⟩,rfl⟩
 have HM:=Lib.hid CB
 clear CB
 have sM:Hid (m=(limbs (ak xs)).length):=by
  show _=_
  rw [HM.out,List.length_take,HX.out];omega
 go_wp2_with fail
 refine (kf _ m (limbs (ak xs)) _ (Hr.out.limbs hm HM.out) ab).mono ?_
 rintro e w1 ⟨v',rfl,aJ,hb⟩
 go_wp2
 refine bR.out _ _ ⟨_,rfl,?_,hb⟩
 rw [<-sM.out];exact aJ
set_option maxRecDepth 100000 in
theorem Au (a b:Nat) (w:World):
  Calls Tryz.prog 140 #[.int .i64 (a:Int),.int .i64 (b:Int)] w fun e w'=>e=.returned (.int .i64 (ib a b))/\w=w':=by
 rcases Nat.lt_trichotomy a b with h | rfl | h
 ·have e1:=Lib.hid (nc h)
  refine aY fun R' bR=> ?_
  go_enter Tryz.func140,Tryz.ntmps140
  go_wp2
  exact bR.out _ _ ⟨oq e1.out.symm,rfl⟩
 ·have e1:=Lib.hid (uj a)
  refine aY fun R' bR=> ?_
  go_enter Tryz.func140,Tryz.ntmps140
  go_wp2
  exact bR.out _ _ ⟨oq e1.out.symm,rfl⟩
 ·have e1:=Lib.hid (nd h)
  refine aY fun R' bR=> ?_
  go_enter Tryz.func140,Tryz.ntmps140
  go_wp2
  exact bR.out _ _ ⟨oq e1.out.symm,rfl⟩
set_option maxRecDepth 100000 in
theorem Av (a b:Nat) (w:World):
  Calls Tryz.prog 141 #[.int .u32 (a:Int),.int .u32 (b:Int)] w fun e w'=>e=.returned (.int .i64 (ib a b))/\w=w':=by
 rcases Nat.lt_trichotomy a b with h | rfl | h
 ·have e1:=Lib.hid (nc h)
  refine aY fun R' bR=> ?_
  go_enter Tryz.func141,Tryz.ntmps141
  go_wp2
  exact bR.out _ _ ⟨oq e1.out.symm,rfl⟩
 ·have e1:=Lib.hid (uj a)
  refine aY fun R' bR=> ?_
  go_enter Tryz.func141,Tryz.ntmps141
  go_wp2
  exact bR.out _ _ ⟨oq e1.out.symm,rfl⟩
 ·have e1:=Lib.hid (nd h)
  refine aY fun R' bR=> ?_
  go_enter Tryz.func141,Tryz.ntmps141
  go_wp2
  exact bR.out _ _ ⟨oq e1.out.symm,rfl⟩
theorem sO {a b:Nat} (h:(limbs a).length < (limbs b).length):a < b:=by
 rcases Nat.lt_or_ge a b with h' | h'
 ·exact h'
 ·have:=dk h';omega
theorem Rl {a b:Nat} (h:(limbs a).length≠(limbs b).length):ib (limbs a).length (limbs b).length=ib a b:=by
 rcases Nat.lt_or_ge (limbs a).length (limbs b).length with h' | h'
 ·rw [nc h',nc (sO h')]
 ·have h'':(limbs b).length < (limbs a).length:=by omega
  rw [nd h'',nd (sO h'')]
theorem Kj {a b k x y:Nat} (hx:(limbs a)[k]? =some x) (hy:(limbs b)[k]? =some y) (hne:x≠y) (hd:(limbs a).drop (k + 1)=(limbs b).drop (k + 1)):ib x y=ib a b:=by
 rcases Nat.lt_or_ge x y with h | h
 ·have:=mo (B:=4294967296) (az a) hx hy h hd
  rw [show val 4294967296 (limbs a)=a from aq a,show val 4294967296 (limbs b)=b from aq b] at this
  rw [nc h,nc this]
 ·have h':y < x:=by omega
  have:=mo (B:=4294967296) (az b) hy hx h' hd.symm
  rw [show val 4294967296 (limbs a)=a from aq a,show val 4294967296 (limbs b)=b from aq b] at this
  rw [nd h',nd this]
theorem OJ {α:Type} {xs ys:List α} {k:Nat} {x:α} (hx:xs[k]? =some x) (hy:ys[k]? =some x) (h:xs.drop (k + 1)=ys.drop (k + 1)):xs.drop k=ys.drop k:=by
 have h1:xs.drop k=x::xs.drop (k + 1):=by
  obtain ⟨hl,e⟩:=List.getElem?_eq_some_iff.1 hx
  rw [List.drop_eq_getElem_cons hl,e]
 have h2:ys.drop k=x::ys.drop (k + 1):=by
  obtain ⟨hl,e⟩:=List.getElem?_eq_some_iff.1 hy
  rw [List.drop_eq_getElem_cons hl,e]
 rw [h1,h2,h]
set_option maxRecDepth 100000 in
theorem Ew (va vb:Value) (n m:Nat) (xs ys:List Nat) (w:World) (hr:Rd w 1 va n (ints .u32 xs)) (hs:Rd w 1 vb m (ints .u32 ys)) (hx:cR xs) (hy:cR ys):
  Calls Tryz.prog 131 #[va,vb] w fun e w'=>e=.returned (.int .i64 (ib (ak xs) (ak ys)))/\∃ k,w'=w.drewN k:=by
 obtain ⟨p,c,rfl,fE,fX,fA⟩:=hr.u32
 obtain ⟨q,d,rfl,OK,JX,kD⟩:=hs.u32
 obtain ⟨a,ha⟩:∃ a,a=ak xs:=⟨_,rfl⟩
 obtain ⟨b,hb⟩:∃ b,b=ak ys:=⟨_,rfl⟩
 have Hr:=Lib.hid hr
 have Hs:=Lib.hid hs
 have HL:=Lib.hid hx
 have HM:=Lib.hid hy
 have HX:=Lib.hid fA
 have HY:=Lib.hid kD
 rw [<-ha,<-hb]
 have HA:=Lib.hid ha
 have HB:=Lib.hid hb
 clear fA kD hx hy hr hs ha hb
 refine aY fun R' bR=> ?_
 go_enter Tryz.func131,Tryz.ntmps131
 go_wp2_with fail
 refine (dJ p n c xs _ Hr.out HL.out).mono ?_
 rintro e w1 ⟨⟨n',hn',rfl,Kk⟩,rfl⟩
 have HLN:=Lib.hid Kk
 clear Kk
 go_wp2_with fail
 refine (dJ q m d ys _ Hs.out HM.out).mono ?_
 rintro e w1 ⟨⟨m',Rm,rfl,CB⟩,rfl⟩
 have Rn:=Lib.hid CB
 clear CB
 have HN:Hid ((limbs a).length=n'):=by show _=_;rw [HA.out,HLN.out,List.length_take,HX.out];omega
 have HMM:Hid ((limbs b).length=m'):=by show _=_;rw [HB.out,Rn.out,List.length_take,HY.out];omega
 have hra:=Hr.out.limbs hn' HLN.out
 have OL:=Hs.out.limbs Rm Rn.out
 rw [<-HA.out] at hra
 rw [<-HB.out] at OL
 have Hra:=Lib.hid hra
 have Hrb:=Lib.hid OL
 clear hra OL
 by_cases hne:n'=m'
 ·subst hne
  go_wp2_with fail
  go_loopw [5] (fun iv wr=>∃ k dn:Nat,k≤n'/\iv=.int .i64 ((k:Int) - 1)/\(limbs a).drop k=(limbs b).drop k/\wr=w.drewN dn) (fun iv _=>(intOf iv + 1).toNat)
  case atStart=>exact ⟨n',0,Nat.le_refl _,rfl,by rw [List.drop_of_length_le (Nat.le_of_eq HN.out),List.drop_of_length_le (Nat.le_of_eq HMM.out)],rfl⟩
  case round=>
   obtain ⟨k,dn,hk,rfl,hd,rfl⟩:=hrel
   have HD:=Lib.hid hd
   clear hd
   by_cases h0:k=0
   ·subst h0
    go_wp2
    exact bR.out _ _ ⟨oq (by rw [Oz (show limbs a=limbs b by simpa using HD.out),uj]),_,rfl⟩
   ·obtain ⟨j,rfl⟩:∃ j,k=j + 1:=⟨k - 1,by omega⟩
    obtain ⟨g1,o1,x,rfl,hg1,hx,ss⟩:=Hra.out.cellAt (k:=j) ab
    obtain ⟨g2,o2,y,rfl,hg2,hy,GN⟩:=Hrb.out.cellAt (k:=j) ab
    have HXX:=Lib.hid hx
    have HYY:=Lib.hid hy
    have hjj:((j + 1:Nat):Int) - 1=(j:Int):=by omega
    clear hx hy h0 hg1 hg2
    rw [hjj]
    clear hjj
    by_cases Mt:x=y
    ·subst Mt
     have ou:((x:Int) != (x:Int))=false:=by simp
     go_wp2_with fail
     go_quiet (fail)
     go_wp2
     go_roundw
     case rel=>exact ⟨j,_,by omega,rfl,OJ HXX.out HYY.out HD.out,rfl⟩
     case measure=>simp [intOf]
    ·have ou:((x:Int) != (y:Int))=true:=by rw [bne_iff_ne];omega
     go_wp2_with fail
     go_quiet (fail)
     go_wp2_with fail
     go_quiet ((go_at_call 141;exact Ap (Av x y _) ⟨_,rfl⟩))
     go_wp2
     exact bR.out _ _ ⟨oq (Kj HXX.out HYY.out Mt HD.out),_,by rw [World.drewN_drewN,World.drewN_drewN]⟩
 ·have hne':((n':Int) != (m':Int))=true:=by rw [bne_iff_ne];omega
  go_wp2_with fail
  refine (Au n' m' _).mono ?_
  rintro e w1 ⟨rfl,rfl⟩
  go_wp2
  exact bR.out _ _ ⟨oq (by rw [<-HN.out,<-HMM.out];exact Rl (by rw [HN.out,HMM.out];exact hne)),0,rfl⟩
def Aw (w:World) (B g N:Nat) (xs ys:List Nat) (cv iv:Value) (wr:World):Prop:=
 ∃ (k carry:Nat) (ds:List Nat),k≤N/\ds.length=k/\iv=.int .i64 (k:Int)/\cv=.int .u32 (carry:Int)/\carry≤1/\cR ds/\
   ak ds + 4294967296 ^ k * carry=ak (xs.take k) + ak (ys.take k)/\
   wr.ownsRow B 117 1 (.slice (some ⟨g,0,none⟩) (N + 1) (N + 1)) (N + 1) (ints .u32 (ds++List.replicate (N + 1 - k) 0))/\Below B w wr
theorem Aw.step {w wr:World} {B g N k carry x y:Nat} {xs ys ds:List Nat} (hk:k < N) (Mu:ds.length=k) (hc:carry≤1) (hl:cR ds)
  (hv:ak ds + 4294967296 ^ k * carry=ak (xs.take k) + ak (ys.take k)) (aJ:wr.ownsRow B 117 1 (.slice (some ⟨g,0,none⟩) (N + 1) (N + 1)) (N + 1) (ints .u32 (ds++List.replicate (N + 1 - k) 0)))
  (hb:Below B w wr) (hx:xs.getD k 0=x) (hy:ys.getD k 0=y) (lW:x < 4294967296) (Di:y < 4294967296):
  Aw w B g N xs ys (.int .u32 (((x + y + carry) / 4294967296:Nat):Int)) (.int .i64 ((k:Int) + 1)) (wr.setCell ⟨g,k,none⟩ (.int .u32 (((x + y + carry) % 4294967296:Nat):Int))):=by
 subst Mu
 have e:N + 1 - ds.length=(N - ds.length) + 1:=by omega
 rw [e] at aJ
 have h1:=Own.uw (x:=(x + y + carry) % 4294967296) aJ
 refine ⟨ds.length + 1,(x + y + carry) / 4294967296,ds++[(x + y + carry) % 4294967296],by omega,by simp,rfl,rfl,?_,?_,?_,?_,?_⟩
 ·omega
 ·exact hl.append (cR.cons (Nat.mod_lt _ ab) cR.nil)
 ·rw [eK,bq,bq,hx,hy,Nat.pow_succ]
  exact GH _ _ x y carry _ _ _ hv rfl
 ·rw [show N + 1 - (ds.length + 1)=N - ds.length by omega];exact h1
 ·exact hb.setCell (Own.lt aJ).1 _
set_option maxRecDepth 100000 in
theorem Mv (p q:Option Addr) (n c m d:Nat) (xs ys:List Nat) (w:World) (hr:Rd w 1 (.slice p n c) n (ints .u32 xs)) (hs:Rd w 1 (.slice q m d) m (ints .u32 ys)) (hx:cR xs) (hy:cR ys)
  (hn:n≤1073741824) (hmn:m≤n) (args:Array Value) (hargs:args=#[.slice p n c,.slice q m d]\/m < n/\args=#[.slice q m d,.slice p n c]):
  Calls Tryz.prog 130 args w fun e w'=>∃ v',e=.returned v'/\w'.ownsRow w.heap.size 117 1 v' (limbs (ak xs + ak ys)).length (ints .u32 (limbs (ak xs + ak ys)))/\Below w.heap.size w w':=by
 obtain ⟨p',c',hv,fE,fX,fA⟩:=hr.u32
 simp only [Value.slice.injEq,true_and] at hv
 obtain ⟨rfl,rfl⟩:=hv
 obtain ⟨q',d',hv,OK,JX,kD⟩:=hs.u32
 simp only [Value.slice.injEq,true_and] at hv
 obtain ⟨rfl,rfl⟩:=hv
 have Hr:=Lib.hid hr
 have Hs:=Lib.hid hs
 have HL:=Lib.hid hx
 have HM:=Lib.hid hy
 have HX:=Lib.hid fA
 have HY:=Lib.hid kD
 obtain ⟨i0,hi,jB,gC,mO⟩:=info_parts kC
 obtain ⟨B,hB⟩:∃ B,B=w.heap.size:=⟨_,rfl⟩
 have HB:=Lib.hid hB
 rw [<-hB]
 clear fA kD hx hy hr hs hB
 rcases hargs with rfl | ⟨hlt,rfl⟩
 all_goals
  refine aY fun R' bR=> ?_
  go_enter Tryz.func130,Tryz.ntmps130
  go_wp2_with (at_make;refine wpList_make_full _ rfl _ _ 22 rfl B 117 i0 (.int .u32 0) 1 Tryz.underlying22 hi jB gC .i64 .i64 _ _ (n + 1) rfl rfl ab ab (by rw [mO];omega) (by unfold maxLen;omega) (Nat.le_of_eq HB.out) ?_;intro w1 aJ OI)
  have Kl:=Lib.hid (Own.made aJ)
  have Hb1:Hid (Below B w w1):=(Below.refl _ _).grown OI (Nat.le_of_eq HB.out) (fun k hk=>by cases hk)
  clear aJ OI
  go_loopw [6,22] (fun cv iv wr=>Aw w B w.heap.size n xs ys cv iv wr) (fun _ iv _=>n - (intOf iv).toNat)
  case atStart=>exact ⟨0,0,[],Nat.zero_le _,rfl,rfl,rfl,by omega,cR.nil,by simp [fe],Kl.out,Hb1.out⟩
  case round=>
   obtain ⟨k,carry,ds,hk,Mu,rfl,rfl,jS,hl,hv,aJ,hb⟩:=hrel
   have HO:=Lib.hid aJ
   have Ex:=Lib.hid Mu
   have HV:=Lib.hid hv
   have Dj:=Lib.hid hl
   have iQ:=Lib.hid hb
   clear aJ Mu hv hl hb
   have zF:B≤wr.heap.size:=by have:=iQ.out.size;have:=HB.out;omega
   by_cases qO:k < n
   ·obtain ⟨b1,o1,x,rfl,aI,ig,ss⟩:=(Hr.out.kc HB.out iQ.out).cellAt qO
    have zG:=Lib.hid ig
    have lW:=HL.out.at ig
    have e:n + 1 - k=(n - k) + 1:=by omega
    have kg:=HO.out
    rw [e] at kg
    obtain ⟨hcell,CC⟩:=Own.zE kg
    rw [Ex.out] at hcell CC
    clear e kg ig
    by_cases Km:k < m
    ·obtain ⟨b2,o2,y,rfl,ba,qd,GN⟩:=(Hs.out.kc HB.out iQ.out).cellAt Km
     have Mw:=Lib.hid qd
     have Di:=HM.out.at qd
     clear qd
     go_wp2_with fail
     refine (ot x y carry _ lW Di ab).mono ?_
     rintro e w2 ⟨rfl,rfl⟩
     go_wp2_with fail
     go_roundw
     case rel=>exact Aw.step qO Ex.out jS Dj.out HV.out HO.out iQ.out (by simp [List.getD,zG.out]) (by simp [List.getD,Mw.out]) lW Di
     case measure=>simp [intOf];omega
    ·have Oy:Hid (ys.getD k 0=0):=by show _=_;rw [List.getD,List.getElem?_eq_none (by rw [HY.out];omega)];rfl
     go_wp2_with fail
     refine (ot x 0 carry _ lW ab ab).mono ?_
     rintro e w2 ⟨rfl,rfl⟩
     go_wp2_with fail
     go_roundw
     case rel=>exact Aw.step qO Ex.out jS Dj.out HV.out HO.out iQ.out (by simp [List.getD,zG.out]) Oy.out lW ab
     case measure=>simp [intOf];omega
   ·obtain rfl:k=n:=by omega
    have e:k + 1 - k=0 + 1:=by omega
    have kg:=HO.out
    rw [e] at kg
    obtain ⟨hcell,CC⟩:=Own.zE kg
    have hst:=Own.uw (x:=carry) kg
    rw [Ex.out] at hcell CC hst
    have HST:=Lib.hid hst
    clear e kg hst
    go_wp2_with fail
    have hval:Hid (ak (ds++[carry])=ak xs + ak ys):=by
     show _=_
     rw [eK,Ex.out,HV.out,bM (Nat.le_of_eq HX.out),bM (by rw [HY.out];exact hmn)]
    refine (dJ _ (k + 1) (k + 1) (ds++[carry]) _ (by have:=Rd.own HST.out;simpa using this) (Dj.out.append (cR.cons ab cR.nil))).mono ?_
    rintro e w2 ⟨⟨r,hr,rfl,CD⟩,rfl⟩
    have QO:=Lib.hid CD
    clear CD
    go_wp2_with fail
    refine bR.out _ _ ⟨_,rfl,?_,iQ.out.setCell (p:=⟨w.heap.size,k,none⟩) (Nat.le_of_eq HB.out) _⟩
    have h2:=HST.out
    rw [List.replicate_zero,List.append_nil] at h2
    have h3:=Own.limbs h2 hr QO.out
    have e:(limbs (ak (ds++[carry]))).length=r:=by rw [QO.out,List.length_take,List.length_append,Ex.out];simp;omega
    rw [hval.out] at h3 e
    rw [e];exact h3
theorem Mx (va vb:Value) (n m:Nat) (xs ys:List Nat) (w:World) (hr:Rd w 1 va n (ints .u32 xs)) (hs:Rd w 1 vb m (ints .u32 ys)) (hx:cR xs) (hy:cR ys) (hn:n≤1073741824) (hm:m≤1073741824):
  Calls Tryz.prog 130 #[va,vb] w fun e w'=>∃ v',e=.returned v'/\w'.ownsRow w.heap.size 117 1 v' (limbs (ak xs + ak ys)).length (ints .u32 (limbs (ak xs + ak ys)))/\Below w.heap.size w w':=by
 obtain ⟨p,c,rfl,_,_,_⟩:=hr.u32
 obtain ⟨q,d,rfl,_,_,_⟩:=hs.u32
 rcases Nat.lt_or_ge n m with h | h
 ·rw [Nat.add_comm (ak xs)]
  exact Mv q p m d n c ys xs w hs hr hy hx hm ab _ (.inr ⟨h,rfl⟩)
 ·exact Mv p q n c m d xs ys w hr hs hx hy hn h _ (.inl rfl)
def Ey (w:World) (B g N m:Nat) (xs:List Nat) (cv iv:Value) (wr:World):Prop:=
 ∃ (k carry:Nat) (ds:List Nat),k≤N/\ds.length=k/\iv=.int .i64 (k:Int)/\cv=.int .u32 (carry:Int)/\carry < 4294967296/\cR ds/\
   ak ds + 4294967296 ^ k * carry=ak (xs.take k) * m/\
   wr.ownsRow B 117 1 (.slice (some ⟨g,0,none⟩) (N + 1) (N + 1)) (N + 1) (ints .u32 (ds++List.replicate (N + 1 - k) 0))/\Below B w wr
theorem Dk (x m c:Nat) (hx:x < 4294967296) (hm:m < 4294967296) (hc:c < 4294967296):(x * m + c) / 4294967296 < 4294967296:=by
 have h1:x * m≤4294967295 * 4294967295:=Nat.mul_le_mul ab ab
 omega
theorem Dl (x m c:Nat):x * m / 4294967296 + (x * m % 4294967296 + c) / 4294967296=(x * m + c) / 4294967296/\(x * m % 4294967296 + c) % 4294967296=(x * m + c) % 4294967296:=by
 generalize x * m=p;omega
theorem Ey.step {w wr:World} {B g N k carry x m:Nat} {xs ds:List Nat} {c s:Int} (hk:k < N) (Mu:ds.length=k) (hm:m < 4294967296) (hc:carry < 4294967296) (hl:cR ds)
  (hv:ak ds + 4294967296 ^ k * carry=ak (xs.take k) * m) (aJ:wr.ownsRow B 117 1 (.slice (some ⟨g,0,none⟩) (N + 1) (N + 1)) (N + 1) (ints .u32 (ds++List.replicate (N + 1 - k) 0)))
  (hb:Below B w wr) (hx:xs[k]? =some x) (lW:x < 4294967296) (he:c=(((x * m + carry) / 4294967296:Nat):Int)) (hs:s=(((x * m % 4294967296 + carry) % 4294967296:Nat):Int)):
  Ey w B g N m xs (.int .u32 c) (.int .i64 ((k:Int) + 1)) (wr.setCell ⟨g,k,none⟩ (.int .u32 s)):=by
 subst Mu
 subst he
 subst hs
 have e:N + 1 - ds.length=(N - ds.length) + 1:=by omega
 rw [e] at aJ
 have h1:=Own.uw (x:=(x * m + carry) % 4294967296) aJ
 rw [(Dl x m carry).2]
 refine ⟨ds.length + 1,(x * m + carry) / 4294967296,ds++[(x * m + carry) % 4294967296],by omega,by simp,rfl,rfl,Dk x m carry lW hm hc,?_,?_,?_,?_⟩
 ·exact hl.append (cR.cons (Nat.mod_lt _ ab) cR.nil)
 ·rw [eK,bq,Nat.pow_succ,List.getD,hx]
  exact Re _ x m carry _ _ hv
 ·rw [show N + 1 - (ds.length + 1)=N - ds.length by omega];exact h1
 ·exact hb.setCell (Own.lt aJ).1 _
set_option maxRecDepth 100000 in
theorem Ez (va:Value) (n m:Nat) (xs:List Nat) (w:World) (hr:Rd w 1 va n (ints .u32 xs)) (hx:cR xs) (hn:n≤1073741824) (hm:m < 4294967296):
  Calls Tryz.prog 157 #[va,.int .u32 (m:Int)] w fun e w'=>∃ v',e=.returned v'/\w'.ownsRow w.heap.size 117 1 v' (limbs (ak xs * m)).length (ints .u32 (limbs (ak xs * m)))/\Below w.heap.size w w':=by
 obtain ⟨p,c,rfl,fE,fX,fA⟩:=hr.u32
 have Hr:=Lib.hid hr
 have HL:=Lib.hid hx
 have HX:=Lib.hid fA
 obtain ⟨i0,hi,jB,gC,mO⟩:=info_parts kC
 obtain ⟨B,hB⟩:∃ B,B=w.heap.size:=⟨_,rfl⟩
 have HB:=Lib.hid hB
 rw [<-hB]
 clear fA hx hr hB
 refine aY fun R' bR=> ?_
 go_enter Tryz.func157,Tryz.ntmps157
 go_wp2_with (at_make;refine wpList_make_full _ rfl _ _ 22 rfl B 117 i0 (.int .u32 0) 1 Tryz.underlying22 hi jB gC .i64 .i64 _ _ (n + 1) rfl rfl ab ab (by rw [mO];omega) (by unfold maxLen;omega) (Nat.le_of_eq HB.out) ?_;intro w1 aJ OI)
 have Kl:=Lib.hid (Own.made aJ)
 have Hb1:Hid (Below B w w1):=(Below.refl _ _).grown OI (Nat.le_of_eq HB.out) (fun k hk=>by cases hk)
 clear aJ OI
 go_loopw [6,19] (fun cv iv wr=>Ey w B w.heap.size n m xs cv iv wr) (fun _ iv _=>n - (intOf iv).toNat)
 case atStart=>exact ⟨0,0,[],Nat.zero_le _,rfl,rfl,rfl,by omega,cR.nil,by simp [fe],Kl.out,Hb1.out⟩
 case round=>
  obtain ⟨k,carry,ds,hk,Mu,rfl,rfl,jS,hl,hv,aJ,hb⟩:=hrel
  have HO:=Lib.hid aJ
  have Ex:=Lib.hid Mu
  have HV:=Lib.hid hv
  have Dj:=Lib.hid hl
  have iQ:=Lib.hid hb
  clear aJ Mu hv hl hb
  by_cases qO:k < n
  ·obtain ⟨b1,o1,x,rfl,aI,ig,ss⟩:=(Hr.out.kc HB.out iQ.out).cellAt qO
   have zG:=Lib.hid ig
   have lW:=HL.out.at ig
   have e:n + 1 - k=(n - k) + 1:=by omega
   have kg:=HO.out
   rw [e] at kg
   obtain ⟨hcell,CC⟩:=Own.zE kg
   rw [Ex.out] at hcell CC
   clear e kg ig
   have h1:(x * m + carry) / 4294967296 < 4294967296:=Dk x m carry lW hm jS
   have h2:=(Dl x m carry).1
   have h3:(0:Int)≤((x * m / 4294967296:Nat):Int) + (((x * m % 4294967296 + carry + 0) / 4294967296:Nat):Int)/\((x * m / 4294967296:Nat):Int) + (((x * m % 4294967296 + carry + 0) / 4294967296:Nat):Int) < 4294967296:=by omega
   have H2:Hid (((x * m / 4294967296:Nat):Int) + (((x * m % 4294967296 + carry + 0) / 4294967296:Nat):Int)=(((x * m + carry) / 4294967296:Nat):Int)):=by show _=_;omega
   obtain ⟨h3a,h3b⟩:=h3
   clear h2 h1
   go_wp2_with fail
   refine (OE x m _ lW hm).mono ?_
   rintro e w2 ⟨rfl,rfl⟩
   go_wp2_with fail
   refine (ot (x * m % 4294967296) carry 0 _ (Nat.mod_lt _ ab) jS ab).mono ?_
   rintro e w2 ⟨rfl,rfl⟩
   go_wp2_with fail
   go_roundw
   case rel=>exact Ey.step qO Ex.out hm jS Dj.out HV.out HO.out iQ.out zG.out lW (by have:=H2.out;omega) ab
   case measure=>simp [intOf];omega
  ·obtain rfl:k=n:=by omega
   have e:k + 1 - k=0 + 1:=by omega
   have kg:=HO.out
   rw [e] at kg
   obtain ⟨hcell,CC⟩:=Own.zE kg
   have hst:=Own.uw (x:=carry) kg
   rw [Ex.out] at hcell CC hst
   have HST:=Lib.hid hst
   clear e kg hst
   go_wp2_with fail
   have hval:Hid (ak (ds++[carry])=ak xs * m):=by
    show _=_
    rw [eK,Ex.out,HV.out,bM (Nat.le_of_eq HX.out)]
   refine (dJ _ (k + 1) (k + 1) (ds++[carry]) _ (by have:=Rd.own HST.out;simpa using this) (Dj.out.append (cR.cons ab cR.nil))).mono ?_
   rintro e w2 ⟨⟨r,hr,rfl,CD⟩,rfl⟩
   have QO:=Lib.hid CD
   clear CD
   go_wp2_with fail
   refine bR.out _ _ ⟨_,rfl,?_,iQ.out.setCell (p:=⟨w.heap.size,k,none⟩) (Nat.le_of_eq HB.out) _⟩
   have h2:=HST.out
   rw [List.replicate_zero,List.append_nil] at h2
   have h3:=Own.limbs h2 hr QO.out
   have e:(limbs (ak (ds++[carry]))).length=r:=by rw [QO.out,List.length_take,List.length_append,Ex.out];simp;omega
   rw [hval.out] at h3 e
   rw [e];exact h3
def EA (w:World) (B:Nat) (qv:Value) (n d:Nat) (xs:List Nat) (iv rv:Value) (wr:World):Prop:=
 ∃ (k r:Nat) (qs:List Nat),k≤n/\qs.length=n - k/\iv=.int .i64 ((k:Int) - 1)/\rv=.int .u32 (r:Int)/\r < d/\cR qs/\
   ak qs * d + r=ak (xs.drop k)/\wr.ownsRow B 117 1 qv n (ints .u32 (xs.take k++qs))/\Below B w wr
theorem Ro (d r x Q X:Nat) (h:Q * d + r=X):
  ((r * 4294967296 + x) / d + 4294967296 * Q) * d + (r * 4294967296 + x) % d=x + 4294967296 * X:=by
 subst h
 have h2:=Nat.mod_add_div (r * 4294967296 + x) d
 rw [Nat.mul_comm d] at h2
 rw [Nat.add_mul,Nat.mul_add,Nat.mul_assoc]
 omega
theorem div_lt (d r x:Nat) (hr:r < d) (hx:x < 4294967296):(r * 4294967296 + x) / d < 4294967296:=by
 rw [Nat.div_lt_iff_lt_mul ab]
 have:(r + 1) * 4294967296≤d * 4294967296:=Nat.mul_le_mul_right _ hr
 rw [Nat.mul_comm 4294967296 d];omega
theorem Ax {xs:List Nat} {k x:Nat} (h:xs[k]? =some x):ak (xs.drop k)=x + 4294967296 * ak (xs.drop (k + 1)):=by
 obtain ⟨hl,e⟩:=List.getElem?_eq_some_iff.1 h
 rw [List.drop_eq_getElem_cons hl,e,gw]
theorem EB {xs qs:List Nat} {k x:Nat} (hk:k < xs.length):(xs.take (k + 1)++qs).set k x=xs.take k++x::qs:=by
 have h1:xs.take (k + 1)=xs.take k++[xs[k]]:=bQ (List.getElem?_eq_getElem hk)
 rw [h1,List.append_assoc,List.set_append_right _ _ (by rw [List.length_take];omega)]
 congr 1
 rw [List.length_take,Nat.min_eq_left ab,Nat.sub_self];rfl
theorem EA.step {w wr:World} {B g cap n d j r x dn:Nat} {xs qs:List Nat} {q s:Int} (hj:j + 1≤n) (hn:xs.length=n) (hqs:qs.length=n - (j + 1)) (hr:r < d) (hl:cR qs)
  (hv:ak qs * d + r=ak (xs.drop (j + 1))) (aJ:wr.ownsRow B 117 1 (.slice (some ⟨g,0,none⟩) n cap) n (ints .u32 (xs.take (j + 1)++qs))) (hb:Below B w wr)
  (hx:xs[j]? =some x) (lW:x < 4294967296) (he:q=(((r * 4294967296 + x) / d:Nat):Int)) (hs:s=(((r * 4294967296 + x) % d:Nat):Int)):
  EA w B (.slice (some ⟨g,0,none⟩) n cap) n d xs (.int .i64 ((j:Int) - 1)) (.int .u32 s) ((wr.drewN dn).setCell ⟨g,j,none⟩ (.int .u32 q)):=by
 subst he
 subst hs
 refine ⟨j,(r * 4294967296 + x) % d,(r * 4294967296 + x) / d::qs,by omega,by simp;omega,rfl,rfl,Nat.mod_lt _ ab,cR.cons (div_lt d r x hr lW) hl,?_,?_,?_⟩
 ·rw [gw,Ax hx,<-hv]
  exact Ro d r x _ _ rfl
 ·have h1:=Own.ic (j:=j) (x:=(r * 4294967296 + x) / d) (Own.drewN aJ dn)
  rwa [EB ab] at h1
 ·exact (Below.drewN hb dn).setCell (Own.lt aJ).1 _
set_option maxRecDepth 100000 in
theorem uy (va:Value) (n d:Nat) (xs:List Nat) (w:World) (hr:Rd w 1 va n (ints .u32 xs)) (hx:cR xs) (hn:n≤1073741824) (hd:d < 4294967296):
  Calls Tryz.prog 143 #[va,.int .u32 (d:Int)] w fun e w'=>((d=0/\e=.returned (.tuple #[.slice none 0 0,.int .u32 0,.int .i64 20]))\/
   (d≠0/\∃ v',e=.returned (.tuple #[v',.int .u32 ((ak xs % d:Nat):Int),.int .i64 0])/\w'.ownsRow w.heap.size 117 1 v' (limbs (ak xs / d)).length (ints .u32 (limbs (ak xs / d)))))/\Below w.heap.size w w':=by
 obtain ⟨p,c,rfl,fE,fX,fA⟩:=hr.u32
 have Hr:=Lib.hid hr
 have HL:=Lib.hid hx
 have HX:=Lib.hid fA
 clear fA hx hr
 by_cases Ms:d=0
 ·have hdb:((d:Int) == 0)=true:=by rw [beq_iff_eq];omega
  have HD:=Lib.hid Ms
  clear Ms
  refine aY fun R' bR=> ?_
  go_enter Tryz.func143,Tryz.ntmps143
  go_wp2
  go_ret3
  exact bR.out _ _ ⟨.inl ⟨HD.out,rfl⟩,Below.refl _ _⟩
 ·obtain ⟨B,hB⟩:∃ B,B=w.heap.size:=⟨_,rfl⟩
  have HB:=Lib.hid hB
  rw [<-hB]
  clear hB
  have hdb:((d:Int) == 0)=false:=by rw [beq_eq_false_iff_ne];omega
  refine aY fun R' bR=> ?_
  go_enter Tryz.func143,Tryz.ntmps143
  go_wp2_with fail
  refine (kf _ n xs _ Hr.out hn).mono ?_
  rintro e w1 ⟨qv,rfl,aJ,hb⟩
  rw [<-HB.out] at aJ hb
  obtain ⟨qp,qc,rfl,_,_,_⟩:=Own.form aJ
  have HO:=Lib.hid aJ
  have iQ:=Lib.hid hb
  clear aJ hb
  go_wp2_with fail
  go_loopw [7,5] (fun iv rv wr=>EA w B (.slice qp n qc) n d xs iv rv wr) (fun iv _ _=>(intOf iv + 1).toNat)
  case atStart=>exact ⟨n,0,[],Nat.le_refl _,by simp,rfl,rfl,by omega,cR.nil,by rw [List.drop_of_length_le (Nat.le_of_eq HX.out)];simp [fe],by rw [List.take_of_length_le (Nat.le_of_eq HX.out),List.append_nil];exact HO.out,iQ.out⟩
  case round=>
   obtain ⟨k,r,qs,hk,hqs,rfl,rfl,vY,hl,hv,aJ,hb⟩:=hrel
   have qe:=Lib.hid aJ
   have HQS:=Lib.hid hqs
   have HV:=Lib.hid hv
   have Dj:=Lib.hid hl
   have qP:=Lib.hid hb
   clear aJ hqs hv hl hb
   by_cases h0:k=0
   ·subst h0
    go_wp2_with fail
    refine (dJ _ n qc qs _ (by have:=Rd.own qe.out;simpa using this) Dj.out).mono ?_
    rintro e w2 ⟨⟨m,hm,rfl,CB⟩,rfl⟩
    have Rn:=Lib.hid CB
    clear CB
    go_wp2_with fail
    go_ret3
    have hv:=HV.out
    rw [List.drop_zero] at hv
    have hq:ak xs / d=ak qs:=by rw [<-hv,Nat.add_comm,Nat.add_mul_div_right _ _ ab,Nat.div_eq_of_lt vY,Nat.zero_add]
    have Rm:ak xs % d=r:=by rw [<-hv,Nat.add_comm,Nat.add_mul_mod_self_right,Nat.mod_eq_of_lt vY]
    refine bR.out _ _ ⟨.inr ⟨Ms,.slice qp m qc,by rw [Rm];rfl,?_⟩,qP.out⟩
    have h2:=qe.out
    rw [List.take_zero,List.nil_append] at h2
    have h3:=Own.limbs h2 hm Rn.out
    have e:(limbs (ak qs)).length=m:=by rw [Rn.out,List.length_take,HQS.out];omega
    rw [hq,e];exact h3
   ·obtain ⟨j,rfl⟩:∃ j,k=j + 1:=⟨k - 1,by omega⟩
    obtain ⟨g,qc',hv,hbg,OM⟩:=Own.zD qe.out ab
    simp only [Value.slice.injEq,true_and] at hv
    obtain ⟨rfl,rfl⟩:=hv
    obtain ⟨x,hx,hcell,CC⟩:=Own.iG qe.out (j:=j) ab
    have ig:xs[j]? =some x:=by
     rw [List.getElem?_append_left (by rw [List.length_take,HX.out];omega),List.getElem?_take] at hx
     simpa using hx
    have zG:=Lib.hid ig
    have lW:=HL.out.at ig
    have hjj:((j + 1:Nat):Int) - 1=(j:Int):=by omega
    rw [hjj]
    clear hx ig h0 hjj
    go_wp2_with fail
    refine (OG r x d _ vY lW hd).mono ?_
    rintro e w2 ⟨rfl,dn,rfl⟩
    go_wp2_with fail
    go_roundw
    case rel=>exact EA.step ab HX.out HQS.out vY Dj.out HV.out qe.out qP.out zG.out lW cw cw
    case measure=>simp [intOf]
def Ay (w:World) (B:Nat) (ov:Value) (n:Nat) (xs ys:List Nat) (bv iv:Value) (wr:World):Prop:=
 ∃ (k r:Nat) (ds:List Nat),k≤n/\ds.length=k/\iv=.int .i64 (k:Int)/\bv=.int .u32 (r:Int)/\r≤1/\cR ds/\
   ak ds + ak (ys.take k)=ak (xs.take k) + 4294967296 ^ k * r/\wr.ownsRow B 117 1 ov n (ints .u32 (ds++xs.drop k))/\Below B w wr
theorem EC {xs ds:List Nat} {x:Nat} (hk:ds.length < xs.length):(ds++xs.drop ds.length).set ds.length x=(ds++[x])++xs.drop (ds.length + 1):=by
 rw [List.set_append_right _ _ (Nat.le_refl _),Nat.sub_self,List.drop_eq_getElem_cons hk,List.set_cons_zero,List.append_assoc];rfl
theorem Rp (p x y r d r' X Y D:Nat) (h:D + Y=X + p * r) (hs:x + 4294967296 * r'=d + y + r):(D + p * d) + (Y + p * y)=(X + p * x) + p * 4294967296 * r':=by
 have h2:p * (x + 4294967296 * r')=p * (d + y + r):=by rw [hs]
 rw [Nat.mul_add,Nat.mul_add,Nat.mul_add,<-Nat.mul_assoc] at h2
 omega
theorem Ay.step {w wr:World} {B g cap n k r x y d r':Nat} {xs ys ds:List Nat} (hk:k < n) (hn:xs.length=n) (Mu:ds.length=k) (hl:cR ds)
  (hv:ak ds + ak (ys.take k)=ak (xs.take k) + 4294967296 ^ k * r) (aJ:wr.ownsRow B 117 1 (.slice (some ⟨g,0,none⟩) n cap) n (ints .u32 (ds++xs.drop k))) (hb:Below B w wr)
  (hx:xs.getD k 0=x) (hy:ys.getD k 0=y) (hd:d < 4294967296) (qn:r'≤1) (he:x + 4294967296 * r'=d + y + r):
  Ay w B (.slice (some ⟨g,0,none⟩) n cap) n xs ys (.int .u32 (r':Int)) (.int .i64 ((k:Int) + 1)) (wr.setCell ⟨g,k,none⟩ (.int .u32 (d:Int))):=by
 subst Mu
 have h1:=Own.ic (j:=ds.length) (x:=d) aJ
 rw [EC ab] at h1
 refine ⟨ds.length + 1,r',ds++[d],by omega,by simp,rfl,rfl,qn,hl.append (cR.cons hd cR.nil),?_,h1,hb.setCell (Own.lt aJ).1 _⟩
 rw [eK,bq,bq,hx,hy,Nat.pow_succ]
 exact Rp _ x y r d r' _ _ _ hv he
set_option maxRecDepth 100000 in
theorem ED (va vb:Value) (n m:Nat) (xs ys:List Nat) (w:World) (hr:Rd w 1 va n (ints .u32 xs)) (hs:Rd w 1 vb m (ints .u32 ys)) (hx:cR xs) (hy:cR ys) (hn:n≤1073741824):
  Calls Tryz.prog 132 #[va,vb] w fun e w'=>((ak xs < ak ys/\e=.returned (.tuple #[.slice none 0 0,.int .i64 2]))\/
   (ak ys≤ak xs/\∃ v',e=.returned (.tuple #[v',.int .i64 0])/\w'.ownsRow w.heap.size 117 1 v' (limbs (ak xs - ak ys)).length (ints .u32 (limbs (ak xs - ak ys)))))/\Below w.heap.size w w':=by
 obtain ⟨p,c,rfl,fE,fX,fA⟩:=hr.u32
 obtain ⟨q,d,rfl,OK,JX,kD⟩:=hs.u32
 obtain ⟨a,ha⟩:∃ a,a=ak xs:=⟨_,rfl⟩
 obtain ⟨b,hb⟩:∃ b,b=ak ys:=⟨_,rfl⟩
 have Hr:=Lib.hid hr
 have Hs:=Lib.hid hs
 have HL:=Lib.hid hx
 have HM:=Lib.hid hy
 have HX:=Lib.hid fA
 have HY:=Lib.hid kD
 rw [<-ha,<-hb]
 have HA:=Lib.hid ha
 have HB:=Lib.hid hb
 clear fA kD hx hy hr hs ha hb
 refine aY fun R' bR=> ?_
 go_enter Tryz.func132,Tryz.ntmps132
 go_wp2_with fail
 refine (dJ p n c xs _ Hr.out HL.out).mono ?_
 rintro e w1 ⟨⟨n',hn',rfl,Kk⟩,rfl⟩
 have HLN:=Lib.hid Kk
 clear Kk
 go_wp2_with fail
 refine (dJ q m d ys _ Hs.out HM.out).mono ?_
 rintro e w1 ⟨⟨m',Rm,rfl,CB⟩,rfl⟩
 have Rn:=Lib.hid CB
 clear CB
 have HN:Hid ((limbs a).length=n'):=by show _=_;rw [HA.out,HLN.out,List.length_take,HX.out];omega
 have HMM:Hid ((limbs b).length=m'):=by show _=_;rw [HB.out,Rn.out,List.length_take,HY.out];omega
 have hra:=Hr.out.limbs hn' HLN.out
 have OL:=Hs.out.limbs Rm Rn.out
 rw [<-HA.out] at hra
 rw [<-HB.out] at OL
 have Hra:=Lib.hid hra
 have Hrb:=Lib.hid OL
 clear hra OL
 go_wp2_with fail
 refine (Ew _ _ n' m' (limbs a) (limbs b) _ Hra.out Hrb.out (az a) (az b)).mono ?_
 rintro e w1 ⟨rfl,dn,rfl⟩
 rw [aq,aq]
 by_cases zA:a < b
 ·have hc:ib a b < 0:=kO.2 zA
  generalize ib a b=cv at hc ⊢
  go_wp2_with fail
  exact bR.out _ _ ⟨.inl ⟨zA,rfl⟩,Below.drewN (Below.refl _ _) _⟩
 ·have hc:0≤ib a b:=by have:=mt (@kO a b).1 zA;omega
  generalize ib a b=cv at hc ⊢
  have hmn:m'≤n':=by rw [<-HN.out,<-HMM.out];exact dk ab
  obtain ⟨B,hB⟩:∃ B,B=w.heap.size:=⟨_,rfl⟩
  have HBB:=Lib.hid hB
  rw [<-hB] at bR
  clear hB
  go_wp2_with fail
  refine (kf _ n' (limbs a) _ (Rd.drewN Hra.out dn) ab).mono ?_
  rintro e w1 ⟨qv,rfl,aJ,hb⟩
  have hb:Below B w w1:=by rw [HBB.out];exact (Below.drewN (Below.refl _ _) dn).trans hb
  have aJ:w1.ownsRow B 117 1 qv n' (ints .u32 (limbs a)):=by rw [HBB.out];exact aJ
  obtain ⟨qp,qc,rfl,_,_,_⟩:=Own.form aJ
  have HO:=Lib.hid aJ
  have iQ:=Lib.hid hb
  clear aJ hb
  go_wp2_with fail
  go_loopw [7,22] (fun bv iv wr=>Ay w B (.slice qp n' qc) n' (limbs a) (limbs b) bv iv wr) (fun _ iv _=>n' - (intOf iv).toNat)
  case atStart=>exact ⟨0,0,[],Nat.zero_le _,rfl,rfl,rfl,by omega,cR.nil,by simp [fe],by simpa using HO.out,iQ.out⟩
  case round=>
   obtain ⟨k,r,ds,hk,Mu,rfl,rfl,jA,hl,hv,aJ,hb⟩:=hrel
   have qe:=Lib.hid aJ
   have Ex:=Lib.hid Mu
   have HV:=Lib.hid hv
   have Dj:=Lib.hid hl
   have qP:=Lib.hid hb
   clear aJ Mu hv hl hb
   by_cases qO:k < n'
   ·obtain ⟨g,qc',hv,hbg,OM⟩:=Own.zD qe.out ab
    simp only [Value.slice.injEq,true_and] at hv
    obtain ⟨rfl,rfl⟩:=hv
    obtain ⟨x,hx,hcell,CC⟩:=Own.iG qe.out (j:=k) ab
    have ig:(limbs a)[k]? =some x:=by
     rw [List.getElem?_append_right (by rw [Ex.out];omega),Ex.out,List.getElem?_drop] at hx
     simpa using hx
    have zG:=Lib.hid ig
    have lW:=(az a).at ig
    clear hx ig
    by_cases Km:k < m'
    ·obtain ⟨b2,o2,y,rfl,ba,qd,GN⟩:=(Hrb.out.kc HBB.out qP.out).cellAt Km
     have Mw:=Lib.hid qd
     have Di:=(az b).at qd
     clear qd
     go_wp2_with fail
     refine (Dh x y r _ lW Di ab).mono ?_
     rintro e w2 ⟨⟨dd,rr,rfl,hdd,hrr,heq⟩,rfl⟩
     have HEQ:=Lib.hid heq
     clear heq
     go_wp2_with fail
     go_roundw
     case rel=>exact Ay.step qO HN.out Ex.out Dj.out HV.out qe.out qP.out (by simp [List.getD,zG.out]) (by simp [List.getD,Mw.out]) hdd hrr HEQ.out
     case measure=>simp [intOf];omega
    ·have Oy:Hid ((limbs b).getD k 0=0):=by show _=_;rw [List.getD,List.getElem?_eq_none (by rw [HMM.out];omega)];rfl
     go_wp2_with fail
     refine (Dh x 0 r _ lW ab ab).mono ?_
     rintro e w2 ⟨⟨dd,rr,rfl,hdd,hrr,heq⟩,rfl⟩
     have HEQ:=Lib.hid heq
     clear heq
     go_wp2_with fail
     go_roundw
     case rel=>exact Ay.step qO HN.out Ex.out Dj.out HV.out qe.out qP.out (by simp [List.getD,zG.out]) Oy.out hdd hrr HEQ.out
     case measure=>simp [intOf];omega
   ·obtain rfl:k=n':=by omega
    go_wp2_with fail
    have h2:=qe.out
    rw [List.drop_of_length_le (Nat.le_of_eq HN.out),List.append_nil] at h2
    refine (dJ _ k qc ds _ (Rd.own h2) Dj.out).mono ?_
    rintro e w2 ⟨⟨s,hs,rfl,hls⟩,rfl⟩
    have HLS:=Lib.hid hls
    clear hls
    go_wp2_with fail
    have hval:ak ds=a - b:=by
     have h1:=HV.out
     rw [bM (Nat.le_of_eq HN.out),bM (by rw [HMM.out];exact hmn),aq,aq] at h1
     have h3:=ky Dj.out
     rw [Ex.out] at h3
     have:r=0:=by
      rcases Nat.eq_zero_or_pos r with h | h
      ·exact h
      ·have:r=1:=by omega
       subst this
       omega
     subst this
     omega
    refine bR.out _ _ ⟨.inr ⟨by omega,.slice qp s qc,rfl,?_⟩,qP.out⟩
    have h3:=Own.limbs h2 hs HLS.out
    have e:(limbs (ak ds)).length=s:=by rw [HLS.out,List.length_take,Ex.out];omega
    rw [hval] at h3 e
    rw [e];exact h3
def jC (w:World) (v:Value) (rows:List (List Nat)):Prop:=
 ∃ vs:List Value,Rd w 1 v rows.length vs/\∀ (i:Nat) (xs:List Nat),rows[i]? =some xs->∃ u,vs[i]? =some u/\Rd w 1 u xs.length (ints .u32 xs)
theorem jC.below {w w':World} {v:Value} {rows:List (List Nat)} (h:jC w v rows) (hb:Below w.heap.size w w'):jC w' v rows:=by
 obtain ⟨vs,h1,h2⟩:=h
 refine ⟨vs,h1.below hb,fun i xs hi=> ?_⟩
 obtain ⟨u,hu,hr⟩:=h2 i xs hi
 exact ⟨u,hu,hr.below hb⟩
theorem jC.at {w:World} {p:Option Addr} {n c k:Nat} {rows:List (List Nat)} (h:jC w (.slice p n c) rows) (hk:k < rows.length):
  ∃ b off u xs,p=some ⟨b,off,none⟩/\rows[k]? =some xs/\w.cell? ⟨b,off + k,none⟩=some u/\Rd w 1 u xs.length (ints .u32 xs):=by
 obtain ⟨vs,⟨p',c',hv,_,_,h3,h4⟩,h2⟩:=h
 simp only [Value.slice.injEq] at hv
 obtain ⟨rfl,rfl,rfl⟩:=hv
 obtain ⟨b,off,hp,hc⟩:=h4 ab
 obtain ⟨u,hu,hr⟩:=h2 k _ (List.getElem?_eq_getElem hk)
 exact ⟨b,off,u,_,hp,List.getElem?_eq_getElem hk,hc k u hu,hr⟩
theorem jC.form {w:World} {v:Value} {rows:List (List Nat)} (h:jC w v rows):∃ p c,v=.slice p rows.length c/\rows.length≤c/\c≤9223372036854775807:=by
 obtain ⟨vs,h1,_⟩:=h
 obtain ⟨p,c,hv,h2,h3,_⟩:=h1.form
 unfold maxLen at h3
 exact ⟨p,c,hv,h2,by omega⟩
theorem sP {q:Nat} (h:q < 4294967296):(q:Int) % 4294967296=q:=by omega
theorem Az {n:Nat} (h:n < 32):2 ^ n < 4294967296:=by
 have:=Nat.pow_lt_pow_right (show 1 < 2 by omega) h
 omega
theorem xA (x n:Nat) (hn:n < 32):(limbs (x * 2 ^ n)).length≤(limbs x).length + 1:=by
 apply ll
 rw [Nat.pow_succ]
 exact Nat.mul_lt_mul_of_lt_of_le (pd x) (Nat.le_of_lt (Az hn)) ab
set_option maxRecDepth 100000 in
theorem Rq (va:Value) (m n x:Nat) (w:World) (hr:Rd w 1 va m (ints .u32 (limbs x))) (hm:m≤1073741824) (hn:n < 32):
  Calls Tryz.prog 154 #[va,.int .i64 (n:Int)] w fun e w'=>∃ v',e=.returned v'/\Rd w' 1 v' (limbs (x * 2 ^ n)).length (ints .u32 (limbs (x * 2 ^ n)))/\Below w.heap.size w w':=by
 obtain ⟨p,c,rfl,fE,fX,fA⟩:=hr.u32
 have Hr:=Lib.hid hr
 have HX:=Lib.hid fA
 clear fA hr
 by_cases h0:n=0
 ·subst h0
  refine aY fun R' bR=> ?_
  go_enter Tryz.func154,Tryz.ntmps154
  go_wp2
  refine bR.out _ _ ⟨_,rfl,?_,Below.refl _ _⟩
  have:=Hr.out
  rw [Nat.pow_zero,Nat.mul_one,HX.out];exact this
 ·have hnb:((n:Int) == 0)=false:=by rw [beq_eq_false_iff_ne];omega
  refine aY fun R' bR=> ?_
  go_enter Tryz.func154,Tryz.ntmps154
  have jQ:=Az hn
  have hpe:(2:Int) ^ n % 4294967296=((2 ^ n:Nat):Int):=by
   have:(2:Int) ^ n=((2 ^ n:Nat):Int):=by simp
   rw [this];exact sP jQ
  have HP:=Lib.hid hpe
  clear hpe
  go_wp2_with fail
  rw [HP.out]
  refine (Ez _ m (2 ^ n) (limbs x) _ Hr.out (az x) hm jQ).mono ?_
  rintro e w1 ⟨v',rfl,aJ,hb⟩
  rw [aq] at aJ
  go_wp2
  exact bR.out _ _ ⟨_,rfl,Rd.own aJ,hb⟩
set_option maxRecDepth 100000 in
theorem OO (va:Value) (m n:Nat) (xs:List Nat) (w:World) (hr:Rd w 1 va m (ints .u32 xs)) (hx:cR xs) (hm:m≤1073741824) (hn:n < 32):
  Calls Tryz.prog 155 #[va,.int .i64 (n:Int)] w fun e w'=>(∃ v' k rs,e=.returned v'/\k≤1073741824/\Rd w' 1 v' k (ints .u32 rs)/\cR rs/\ak rs=ak xs / 2 ^ n)/\Below w.heap.size w w':=by
 obtain ⟨p,c,rfl,fE,fX,fA⟩:=hr.u32
 have Hr:=Lib.hid hr
 have HX:=Lib.hid fA
 have HL:=Lib.hid hx
 clear fA hr hx
 by_cases h0:n=0
 ·subst h0
  refine aY fun R' bR=> ?_
  go_enter Tryz.func155,Tryz.ntmps155
  go_wp2
  exact bR.out _ _ ⟨⟨_,m,xs,rfl,hm,Hr.out,HL.out,by rw [Nat.pow_zero,Nat.div_one]⟩,Below.refl _ _⟩
 ·have hnb:((n:Int) == 0)=false:=by rw [beq_eq_false_iff_ne];omega
  refine aY fun R' bR=> ?_
  go_enter Tryz.func155,Tryz.ntmps155
  have jQ:=Az hn
  have fQ:2 ^ n≠0:=by have:=Nat.pow_pos (n:=n) (show 0 < 2 by omega);omega
  have hpe:(2:Int) ^ n % 4294967296=((2 ^ n:Nat):Int):=by
   have:(2:Int) ^ n=((2 ^ n:Nat):Int):=by simp
   rw [this];exact sP jQ
  have HP:=Lib.hid hpe
  have HPP:=Lib.hid fQ
  clear hpe fQ
  go_wp2_with fail
  rw [HP.out]
  refine (uy _ m (2 ^ n) xs _ Hr.out HL.out hm jQ).mono ?_
  rintro e w1 ⟨⟨h,_⟩ | ⟨_,v',rfl,aJ⟩,hb⟩
  ·exact absurd h HPP.out
  ·have HO:=Lib.hid aJ
   have hlen:(limbs (ak xs / 2 ^ n)).length≤m:=Nat.le_trans (dk (Nat.div_le_self _ _)) (by rw [<-HX.out];exact jz HL.out)
   clear aJ
   go_wp2
   exact bR.out _ _ ⟨⟨_,_,_,rfl,Nat.le_trans hlen hm,Rd.own HO.out,az _,aq _⟩,hb⟩
set_option maxRecDepth 100000 in
theorem Rr (n:Nat) (w:World) (hn:n≤2147483648):
  Calls Tryz.prog 156 #[.slice none 0 0,.int .i64 (n:Int)] w fun e w'=>∃ v',e=.returned v'/\w'.ownsRow w.heap.size 117 1 v' 0 []/\Below w.heap.size w w':=by
 by_cases h0:n=0
 ·subst h0
  refine aY fun R' bR=> ?_
  go_enter Tryz.func156,Tryz.ntmps156
  go_wp2
  exact bR.out _ _ ⟨_,rfl,World.ownsRow_nil _ _ _ _,Below.refl _ _⟩
 ·obtain ⟨i0,hi,jB,gC,mO⟩:=info_parts kC
  obtain ⟨C,hC⟩:∃ C,C=grownCap w n 0 117:=⟨_,rfl⟩
  have HC:=Lib.hid hC
  have hap0:=Lib.run_append_nil_zeros (P:=Tryz.prog) w 22 3 22 117 i0 (.int .u32 0) .i64 .i64 Tryz.underlying22 Tryz.underlying3 hi jB n ab ab ab (by rw [mO];omega)
  rw [<-hC] at hap0
  have HAP:=Lib.hid hap0
  have hCn:n≤C:=by rw [hC];exact grownCap_ge w n 0 _
  have hCm:C≤9223372036854775807:=by
   have:=grownCap_le_maxLen w n 0 117 (by unfold maxLen;omega)
   unfold maxLen at this
   omega
  have nM:0 < n:=by omega
  clear hC h0 hap0
  refine aY fun R' bR=> ?_
  go_enter Tryz.func156,Tryz.ntmps156
  go_wp2_with (at_builtin;refine wpList_append_run rfl _ _ 22 3 rfl _ _ rfl rfl _ _ HAP.out ?_)
  refine bR.out _ _ ⟨_,rfl,?_,?_⟩
  ·exact World.ownsRow_made w.drew _ C (Nat.le_refl _) (by unfold maxLen;omega) (by rw [Array.size_append,size_zeroCells,size_zeroCells];show n * 1 + (C - n) * 1=C * 1;omega)
  ·exact (Below.drew (Below.refl _ _)).alloc (Nat.le_refl _) _
def flat (rows:List (List Nat)):List Nat:=rows.flatten
theorem wu (rows:List (List Nat)) (xs:List Nat):flat (rows++[xs])=flat rows++xs:=by simp [flat]
theorem pe (rows:List (List Nat)) (k:Nat):(flat (rows.take k)).length≤(flat rows).length:=by
 conv=>rhs;rw [<-List.take_append_drop k rows]
 simp only [flat,List.flatten_append,List.length_append]
 omega
def CatA (rows:List (List Nat)) (sv iv:Value):Prop:=∃ k,k≤rows.length/\iv=.int .i64 (k:Int)/\sv=.int .i64 ((flat (rows.take k)).length:Int)
def CatB (w:World) (B:Nat) (rows:List (List Nat)) (ov iv:Value) (wr:World):Prop:=
 ∃ k,k≤rows.length/\iv=.int .i64 (k:Int)/\wr.ownsRow B 117 1 ov (flat (rows.take k)).length (ints .u32 (flat (rows.take k)))/\Below B w wr
set_option maxRecDepth 100000 in
theorem Kn (va:Value) (rows:List (List Nat)) (w:World) (hr:jC w va rows) (hn:(flat rows).length≤2147483648):
  Calls Tryz.prog 153 #[va] w fun e w'=>∃ v',e=.returned v'/\w'.ownsRow w.heap.size 117 1 v' (flat rows).length (ints .u32 (flat rows))/\Below w.heap.size w w':=by
 obtain ⟨p,c,rfl,fE,fX⟩:=hr.form
 have Hr:=Lib.hid hr
 obtain ⟨i0,hi,jB,gC,mO⟩:=info_parts kC
 obtain ⟨B,hB⟩:∃ B,B=w.heap.size:=⟨_,rfl⟩
 have HB:=Lib.hid hB
 obtain ⟨N,hN⟩:∃ N,N=rows.length:=⟨_,rfl⟩
 rw [<-hN] at fE ⊢
 have HN:=Lib.hid hN
 rw [<-hB]
 clear hr hB hN
 refine aY fun R' bR=> ?_
 go_enter Tryz.func153,Tryz.ntmps153
 go_wp2
 go_loop [3,11] (fun sv iv=>CatA rows sv iv) (fun _ iv=>N - (intOf iv).toNat)
 case atStart=>exact ⟨0,Nat.zero_le _,rfl,by simp [flat]⟩
 case round=>
  obtain ⟨k,hk,rfl,rfl⟩:=hrel
  rw [<-HN.out] at hk
  have vZ:=pe rows k
  by_cases qO:k < N
  ·obtain ⟨b1,o1,u,xs,rfl,ig,ss,hru⟩:=Hr.out.at (k:=k) (by rw [<-HN.out];exact qO)
   obtain ⟨q,d,rfl,_,_,_⟩:=hru.u32
   have hfs:(flat (rows.take (k + 1))).length=(flat (rows.take k)).length + xs.length:=by rw [bQ ig,wu,List.length_append]
   have ja:=pe rows (k + 1)
   have HFS:=Lib.hid hfs
   rw [hfs] at ja
   clear ig hru hfs
   generalize (flat (rows.take k)).length=L at *
   go_wp2
   go_round
   case rel=>exact ⟨k + 1,by rw [<-HN.out];omega,by go_num,by rw [HFS.out];go_num⟩
   case measure=>simp [intOf];omega
  ·obtain rfl:k=N:=by omega
   have hL:Hid (flat (rows.take k)=flat rows):=by show _=_;rw [List.take_of_length_le (by rw [HN.out];exact Nat.le_refl _)]
   rw [hL.out]
   rw [hL.out] at vZ
   generalize OP:(flat rows).length=L at hn vZ
   have HLL:=Lib.hid OP
   rw [OP] at bR
   clear OP
   go_wp2_with fail
   refine (Rr L _ ab).mono ?_
   rintro e w1 ⟨ov,rfl,aJ,hb⟩
   rw [<-HB.out] at aJ hb
   have HO:=Lib.hid aJ
   have iQ:=Lib.hid hb
   clear aJ hb
   go_wp2_with fail
   go_loopw [6,27] (fun ov iv wr=>CatB w B rows ov iv wr) (fun _ iv _=>k - (intOf iv).toNat)
   case atStart=>exact ⟨0,Nat.zero_le _,rfl,by simpa [flat,ints] using HO.out,iQ.out⟩
   case round=>
    obtain ⟨j,hj,rfl,aJ,hb⟩:=hrel
    have qe:=Lib.hid aJ
    have qP:=Lib.hid hb
    rw [<-HN.out] at hj
    clear aJ hb
    by_cases hjn:j < k
    ·obtain ⟨b1,o1,u,xs,rfl,ig,ss,hru⟩:=((Hr.out.below (by have:=qP.out;rwa [HB.out] at this)).at (k:=j) (by rw [<-HN.out];exact hjn))
     have hfs:(flat (rows.take (j + 1))).length=(flat (rows.take j)).length + xs.length:=by rw [bQ ig,wu,List.length_append]
     have ja:=pe rows (j + 1)
     have HFS:=Lib.hid hfs
     have hsz:(flat (rows.take j)).length + xs.length≤2147483648:=by have:=HLL.out;omega
     have zG:=Lib.hid ig
     have HRU:=Lib.hid hru
     have zF:B≤wr.heap.size:=by have:=qP.out.size;have:=HB.out;omega
     clear ig hru hfs ja
     go_wp2_with (at_builtin;refine ke _ rfl _ _ 22 rfl B 117 i0 (.int .u32 0) 1 4 Tryz.underlying22 hi jB gC mO rfl bW _ _ _ rfl qe.out _ xs.length _ rfl HRU.out (oo _ _) (by unfold maxLen;omega) ab zF ?_;intro v' w2 mv hgr2)
     have Rs:Hid (w2.ownsRow B 117 1 v' (flat (rows.take (j + 1))).length (ints .u32 (flat (rows.take (j + 1))))):=by
      show World.ownsRow ..
      rw [HFS.out,bQ zG.out,wu,jj];exact mv
     have QP:Hid (Below B w w2):=Below.Ri qP.out hgr2 qe.out zF (Nat.le_refl _)
     clear mv hgr2
     go_wp2_with fail
     go_roundw
     case rel=>exact ⟨j + 1,by rw [<-HN.out];omega,by go_num,Rs.out,QP.out⟩
     case measure=>simp [intOf];omega
    ·obtain rfl:j=k:=by omega
     go_wp2_with fail
     refine bR.out _ _ ⟨_,rfl,?_,qP.out⟩
     have:=qe.out
     rw [hL.out,HLL.out] at this
     exact this
theorem jC.two {w:World} {g:Nat} {u v:Value} {xs ys:List Nat} {t:Nat} {fr:Nat×Nat} (h:w.heap[g]? =some (.cells #[u,v] t fr)) (hx:Rd w 1 u xs.length (ints .u32 xs)) (hy:Rd w 1 v ys.length (ints .u32 ys)):
  jC w (.slice (some ⟨g,0,none⟩) 2 2) [xs,ys]:=by
 refine ⟨[u,v],⟨_,2,rfl,Nat.le_refl _,by simp [maxLen],rfl,fun _=>⟨g,0,rfl,fun j z hj=> ?_⟩⟩,fun i zs hi=> ?_⟩
 ·match j,hj with
  | 0,hj=>simp at hj;subst hj;simp [World.cell?,h]
  | 1,hj=>simp at hj;subst hj;simp [World.cell?,h]
 ·match i,hi with
  | 0,hi=>simp at hi;subst hi;exact ⟨u,rfl,hx⟩
  | 1,hi=>simp at hi;subst hi;exact ⟨v,rfl,hy⟩
theorem My {w:World} {o:Obj} {k:Nat} (h:k=w.heap.size):(w.alloc o).heap[k]? =some o:=by subst h;exact heap_alloc_new w o
theorem ordA {w w2 w3:World} {z o:Obj} (ba:Below (w.alloc z).drew.heap.size (w.alloc z).drew w2) (cC:Below (w2.alloc o).heap.size (w2.alloc o) w3):Below w.heap.size w w3/\w.heap.size≤(w2.alloc o).heap.size:=by
 have h1:=ba.size
 simp at h1
 have h0:Below w.heap.size w (w.alloc z).drew:=((Below.refl w.heap.size w).alloc (Nat.le_refl _) z).drew
 have h2:Below w.heap.size w w2:=h0.trans (ba.mono cw)
 exact ⟨(h2.alloc ab o).trans (cC.mono (by simp;omega)),by simp;omega⟩
theorem ordB {w w2 w3:World} {z o:Obj} (ba:Below w.drew.heap.size w.drew w2) (cC:Below ((w2.alloc z).alloc o).heap.size ((w2.alloc z).alloc o) w3):Below w.heap.size w w3/\w.heap.size≤((w2.alloc z).alloc o).heap.size:=by
 have h1:=ba.size
 simp at h1
 have h2:Below w.heap.size w w2:=(Below.refl w.heap.size w).drew.trans ba
 exact ⟨((h2.alloc ab z).alloc (by simp;omega) o).trans (cC.mono (by simp;omega)),by simp;omega⟩
theorem uz (w:World) (q:Nat) (h:q≤9223372036854775807):Rd (w.alloc (.cells (madeCells #[Value.int .u32 0] q) 117)) 1 (.slice (some ⟨w.heap.size,0,none⟩) q q) (List.replicate q 0).length (ints .u32 (List.replicate q 0)):=by
 have h1:=World.ownsRow_lit (base:=0) (size:=1) (e:=117) w (madeCells (Value.int .u32 0).cells (q * 1)) q (Nat.zero_le _) (by unfold maxLen;omega) (size_madeCells _ _)
 have h2:=Rd.own (Own.made h1)
 rw [List.length_replicate]
 rw [Nat.mul_one,List.nil_append] at h2
 exact h2
set_option maxRecDepth 100000 in
theorem Ko (p:Option Addr) (m c n x:Nat) (xs:List Nat) (w:World) (hr:Rd w 1 (.slice p m c) m (ints .u32 xs)) (hx:cR xs) (hv:ak xs=x) (hm:m≤1073741824) (iA:x≠0) (hn:n≤65536):
  Calls Tryz.prog 145 #[.slice p m c,.int .i64 (n:Int)] w fun e w'=>∃ v',e=.returned (.tuple #[v',.int .i64 0])/\w'.ownsRow w.heap.size 117 1 v' (limbs (x * 2 ^ n)).length (ints .u32 (limbs (x * 2 ^ n)))/\Below w.heap.size w w':=by
 obtain ⟨p',c',hv',fE,fX,fA⟩:=hr.u32
 simp only [Value.slice.injEq,true_and] at hv'
 obtain ⟨rfl,rfl⟩:=hv'
 have Hr:=Lib.hid hr
 have HX:=Lib.hid fA
 have HL:=Lib.hid hx
 have HV:=Lib.hid hv
 obtain ⟨i0,hi,jB,gC,mO⟩:=info_parts kC
 have hmk:∀ W:World,(Instr.makeSlice 22 (.int .i64 ((n:Int) / 32)) (.int .i64 ((n:Int) / 32))).run Tryz.prog W=.ok (.slice (some ⟨W.heap.size,0,none⟩) (n / 32) (n / 32)) (W.alloc (.cells (madeCells (Value.int .u32 0).cells (n / 32 * 1)) 117)):=fun W=>by
  have:=run_make (P:=Tryz.prog) W 22 117 i0 (.int .u32 0) Tryz.underlying22 hi jB .i64 .i64 ((n:Int) / 32) ((n:Int) / 32) ab (Int.le_refl _) (by rw [mO];omega) ab
  rw [gC,show ((n:Int) / 32).toNat=n / 32 by omega] at this
  exact this
 clear fA hr hx hv hi jB gC mO
 refine aY fun R' bR=> ?_
 go_enter Tryz.func145,Tryz.ntmps145
 go_wp2_with fail
 refine (dJ p m c xs _ Hr.out HL.out).mono ?_
 rintro e w1 ⟨⟨r,hrm,rfl,CD⟩,rfl⟩
 have sM:Hid ((limbs x).length=r):=by
  show _=_
  rw [<-HV.out,CD,List.length_take,HX.out];omega
 have vY:=Hr.out.limbs hrm CD
 rw [HV.out] at vY
 have HRD:=Lib.hid vY
 clear CD vY
 have Ar:0 < r:=by rw [<-sM.out];exact dZ iA
 have Dm:∀ W:World,Rd W 1 (.slice p r c) r (ints .u32 (limbs x))->Calls Tryz.prog 154 #[.slice p r c,.int .i64 ((n:Int) % 32)] W fun e w'=>∃ v',e=.returned v'/\Rd w' 1 v' (limbs (x * 2 ^ (n % 32))).length (ints .u32 (limbs (x * 2 ^ (n % 32))))/\Below W.heap.size W w':=fun W h=>by
  have:=Rq (.slice p r c) r (n % 32) x W h ab (Nat.mod_lt _ ab)
  rwa [show ((n % 32:Nat):Int)=(n:Int) % 32 by omega] at this
 have HLEFT:=Lib.hid Dm
 clear Dm
 have vZ:(flat [List.replicate (n / 32) 0,limbs (x * 2 ^ (n % 32))])=limbs (x * 2 ^ n):=by
  have h1:=GL (x:=x * 2 ^ (n % 32)) (n / 32) (Nat.mul_ne_zero iA (by have:=Nat.pow_pos (n:=n % 32) (show 0 < 2 by omega);omega))
  simp only [flat,List.flatten_cons,List.flatten_nil,List.append_nil]
  rw [h1,Nat.mul_assoc,GI,<-Nat.pow_add,Nat.mod_add_div]
 have hfn:(flat [List.replicate (n / 32) 0,limbs (x * 2 ^ (n % 32))]).length≤2147483648:=by
  simp only [flat,List.flatten_cons,List.flatten_nil,List.append_nil,List.length_append,List.length_replicate]
  have:=xA x (n % 32) (Nat.mod_lt _ ab)
  rw [sM.out] at this
  omega
 have HFL:=Lib.hid vZ
 have HFN:=Lib.hid hfn
 clear vZ hfn iA
 go_wp2_with fail
 have zH:IntKind.i64.wrap ((n:Int) / 32)=(n:Int) / 32:=IntWalk.i64_in _ ab
 have hw2:(n:Int).tmod 32=(n:Int) % 32:=Int.tmod_eq_emod_of_nonneg ab
 go_region_with (first
  | (go_at_call 154;refine (HLEFT.out _ (by first | exact HRD.out | exact Rd.alloc (Rd.drew HRD.out) _)).mono ?_;rintro e w2 ⟨v2,rfl,hrd2,ba⟩;obtain ⟨p2,c2,rfl,_,_,_⟩:=hrd2.form)
  | (go_at_call 153;refine (Kn _ [List.replicate (n / 32) 0,limbs (x * 2 ^ (n % 32))] _ (by first | exact jC.two (heap_alloc_new _ _) (Rd.alloc (Rd.below (Rd.drew (uz _ _ ab)) ba) _) (Rd.alloc hrd2 _) | exact jC.two (My cw) (Rd.alloc (uz _ _ ab) _) (Rd.alloc (Rd.alloc hrd2 _) _)) HFN.out).mono ?_;rintro e w3 ⟨v3,rfl,Rt,cC⟩))
 all_goals
  go_wp2
  go_ret2
  refine bR.out _ _ ⟨v3,rfl,?_,?_⟩
  ·rw [HFL.out] at Rt
   first | exact Own.mono Rt (ordA ba cC).2 | exact Own.mono Rt (ordB ba cC).2
  ·first | exact (ordA ba cC).1 | exact (ordB ba cC).1
theorem wv {x m k:Nat} (h:(limbs x).length≤m) (hk:32 * m≤k):x / 2 ^ k=0:=by
 apply Nat.div_eq_of_lt
 have h1:=pd x
 have h2:=Nat.pow_le_pow_right (show 0 < 4294967296 by omega) h
 rw [GI] at h1 h2
 have h3:=Nat.pow_le_pow_right (show 0 < 2 by omega) hk
 rw [GI] at h2
 omega
set_option maxRecDepth 100000 in
theorem wx (va:Value) (m x:Nat) (n:Int) (xs:List Nat) (w:World) (hr:Rd w 1 va m (ints .u32 xs)) (hx:cR xs) (hv:ak xs=x) (hm:m≤1073741824) (nM: -9223372036854775808≤n) (rS:n≤9223372036854775807):
  Calls Tryz.prog 145 #[va,.int .i64 n] w fun e w'=>((x≠0/\65536 < n/\e=.returned (.tuple #[.slice none 0 0,.int .i64 3]))\/
   (¬ (x≠0/\65536 < n)/\∃ v',e=.returned (.tuple #[v',.int .i64 0])/\w'.ownsRow w.heap.size 117 1 v' (limbs (ir x n)).length (ints .u32 (limbs (ir x n)))))/\Below w.heap.size w w':=by
 obtain ⟨p,c,rfl,fE,fX,fA⟩:=hr.u32
 have Hr:=Lib.hid hr
 have HX:=Lib.hid fA
 have HL:=Lib.hid hx
 have HV:=Lib.hid hv
 clear fA hr hx hv
 by_cases lI:x≠0/\0≤n/\n≤65536
 ·obtain ⟨iA,h0,h1⟩:=lI
  obtain ⟨k,rfl⟩:=Int.eq_ofNat_of_zero_le h0
  refine (Ko p m c k x xs w Hr.out HL.out HV.out hm iA ab).mono ?_
  rintro e w' ⟨v',rfl,aJ,hb⟩
  refine ⟨.inr ⟨by omega,v',rfl,?_⟩,hb⟩
  have:ir x (k:Int)=x * 2 ^ k:=by simp [ir]
  rw [this];exact aJ
 ·refine aY fun R' bR=> ?_
  go_enter Tryz.func145,Tryz.ntmps145
  go_wp2_with fail
  refine (dJ p m c xs _ Hr.out HL.out).mono ?_
  rintro e w1 ⟨⟨r,hrm,rfl,CD⟩,rfl⟩
  have sM:(limbs x).length=r:=by
   rw [<-HV.out,CD,List.length_take,HX.out];omega
  have vY:=Hr.out.limbs hrm CD
  rw [HV.out] at vY
  have HRD:=Lib.hid vY
  have Ru:=Lib.hid sM
  clear CD vY
  by_cases iA:x=0
  ·have Ar:r=0:=by rw [<-sM,iA,bV];rfl
   have HX0:=Lib.hid iA
   have OL:((r:Int) == 0)=true:=by rw [beq_iff_eq];omega
   clear iA Ar sM lI
   go_wp2_with fail
   refine bR.out _ _ ⟨.inr ⟨fun h=>h.1 HX0.out,.slice none 0 0,rfl,?_⟩,Below.refl _ _⟩
   have:ir x n=0:=by simp [ir,HX0.out]
   rw [this,bV];exact World.ownsRow_nil _ _ _ _
  ·have Ar:0 < r:=by rw [<-sM];exact dZ iA
   have OL:((r:Int) == 0)=false:=by rw [beq_eq_false_iff_ne];omega
   clear sM
   by_cases hbig:65536 < n
   ·go_wp2_with fail
    exact bR.out _ _ ⟨.inl ⟨iA,hbig,rfl⟩,Below.refl _ _⟩
   ·have hneg:n < 0:=by
     by_cases h:n < 0
     ·exact h
     ·exact absurd ⟨iA,by omega,by omega⟩ lI
    clear lI
    have HX0:=Lib.hid iA
    clear iA
    have hmul:IntKind.i64.wrap (-32 * (r:Int))= -32 * (r:Int):=IntWalk.i64_in _ ab
    by_cases fY:n≤-32 * (r:Int)
    ·go_wp2_with fail
     refine bR.out _ _ ⟨.inr ⟨fun h=>by omega,.slice none 0 0,rfl,?_⟩,Below.refl _ _⟩
     have:ir x n=0:=by
      unfold ir
      rw [if_neg ab]
      exact wv (m:=r) (by rw [Ru.out];exact Nat.le_refl _) ab
     rw [this,bV];exact World.ownsRow_nil _ _ _ _
    ·obtain ⟨k,rfl⟩:∃ k:Nat,n= -(k:Int):=⟨(-n).toNat,by omega⟩
     obtain ⟨b,off,y,rfl,_,_,_⟩:=HRD.out.cellAt (k:=0) Ar
     have hkr:k / 32 < r:=by omega
     have hneq:¬ (c=k / 32):=by omega
     have AA:0 < k:=by omega
     have GO:Rd w 1 (.slice (some ⟨b,off + k / 32,none⟩) (r - k / 32) (c - k / 32)) (r - k / 32) (ints .u32 ((limbs x).drop (k / 32))):=by
      obtain ⟨p',c',hv',h1,h2,h3,h4⟩:=HRD.out
      simp only [Value.slice.injEq,true_and] at hv'
      obtain ⟨rfl,rfl⟩:=hv'
      refine ⟨_,_,rfl,by omega,by unfold maxLen at h2 ⊢;omega,by rw [xy,List.length_drop,Ru.out];omega,fun _=>⟨b,off + k / 32,rfl,fun j u hj=> ?_⟩⟩
      obtain ⟨b',aX,hp,hc⟩:=h4 ab
      simp only [Option.some.injEq,Addr.mk.injEq,and_true] at hp
      obtain ⟨rfl,rfl⟩:=hp
      rw [<-OD,List.getElem?_drop] at hj
      have:=hc _ _ hj
      rwa [<-Nat.add_assoc] at this
     have HDR:=Lib.hid GO
     clear GO
     have hq1:0≤(k:Int) / 32:=by omega
     have zI:(k:Int) / 32 < (r:Int):=by omega
     go_wp2_with fail
     rw [show (k:Int) % 32=((k % 32:Nat):Int) by omega]
     refine (OO _ _ (k % 32) _ _ HDR.out ((az x).drop _) ab (Nat.mod_lt _ ab)).mono ?_
     rintro e w1 ⟨⟨v1,m1,rs,rfl,hm1,hrd1,CE,Gs⟩,aI⟩
     obtain ⟨p1,c1,rfl,_,_,pj⟩:=hrd1.u32
     have HR1:=Lib.hid hrd1
     have HV1:=Lib.hid Gs
     have HRL:=Lib.hid pj
     clear hrd1 Gs pj
     go_wp2_with fail
     refine (dJ p1 m1 c1 rs _ HR1.out CE).mono ?_
     rintro e w2 ⟨⟨r2,kE,rfl,hlr2⟩,rfl⟩
     have hml2:Hid ((limbs (ak rs)).length=r2):=by show _=_;rw [hlr2,List.length_take,HRL.out];omega
     have HR2:=Lib.hid (HR1.out.limbs kE hlr2)
     clear hlr2
     go_wp2_with fail
     refine (kf _ r2 _ _ HR2.out ab).mono ?_
     rintro e w2 ⟨v2,rfl,aJ,ba⟩
     have hval:ir x (-(k:Int))=ak rs:=by
      unfold ir
      rw [if_neg ab,HV1.out,yn x (k / 32) (by rw [Ru.out];omega),Nat.div_div_eq_div_mul,GI,<-Nat.pow_add,Nat.div_add_mod]
      simp
     go_wp2_with fail
     refine bR.out _ _ ⟨.inr ⟨fun h=>by omega,v2,rfl,?_⟩,aI.trans (ba.mono aI.size)⟩
     rw [hval,hml2.out]
     exact Own.mono aJ aI.size
end
section
theorem GP {xs:List Nat} {j o v:Nat} (h:xs[j]? =some o):ak (xs.set j v) + 4294967296 ^ j * o=ak xs + 4294967296 ^ j * v:=by
 obtain ⟨hl,he⟩:=List.getElem?_eq_some_iff.1 h
 have h1:xs=xs.take j++o::xs.drop (j + 1):=by rw [<-he,<-List.drop_eq_getElem_cons hl,List.take_append_drop]
 have h2:xs.set j v=xs.take j++v::xs.drop (j + 1):=by
  conv=>lhs;rw [h1]
  rw [List.set_append_right _ _ (by rw [List.length_take];omega)]
  rw [List.length_take,Nat.min_eq_left ab,Nat.sub_self];rfl
 have e1:ak xs=ak (xs.take j) + 4294967296 ^ j * (o + 4294967296 * ak (xs.drop (j + 1))):=by
  conv=>lhs;rw [h1]
  rw [ff,List.length_take,Nat.min_eq_left ab,gw]
 have e2:ak (xs.set j v)=ak (xs.take j) + 4294967296 ^ j * (v + 4294967296 * ak (xs.drop (j + 1))):=by
  rw [h2,ff,List.length_take,Nat.min_eq_left ab,gw]
 rw [e1,e2,Nat.mul_add,Nat.mul_add]
 omega
theorem cR.set {xs:List Nat} (h:cR xs) {v:Nat} (hv:v < 4294967296) (j:Nat):cR (xs.set j v):=fun y hy=>by
 rcases List.mem_or_eq_of_mem_set hy with h1 | h1
 ·exact h y h1
 ·rw [h1];exact hv
theorem AB (k:Nat):ak (List.replicate k 0)=0:=iZ _ k
theorem AD {xs:List Nat} (k:Nat) (hk:k≤xs.length):ak xs=ak (xs.take k) + 4294967296 ^ k * ak (xs.drop k):=kx _ xs k hk
theorem sQ {xs:List Nat} {k x:Nat} (h:xs[k]? =some x):ak (xs.drop k)=x + 4294967296 * ak (xs.drop (k + 1)):=sL h
theorem GQ {os:List Nat} {i k x y o c s S Y:Nat} (ho:os[i + k]? =some o) (hs:s=x * y + o + c) (h:ak os + 4294967296 ^ (i + k) * c=S + 4294967296 ^ i * (x * Y)):
  ak (os.set (i + k) (s % 4294967296)) + 4294967296 ^ (i + (k + 1)) * (s / 4294967296)=S + 4294967296 ^ i * (x * (Y + 4294967296 ^ k * y)):=by
 have h1:=GP (v:=s % 4294967296) ho
 have h2:4294967296 ^ (i + (k + 1))=4294967296 ^ (i + k) * 4294967296:=by rw [<-Nat.add_assoc,Nat.pow_succ]
 have h3:4294967296 ^ (i + k) * s=4294967296 ^ (i + k) * (s % 4294967296) + 4294967296 ^ (i + k) * 4294967296 * (s / 4294967296):=by
  rw [Nat.mul_assoc,<-Nat.mul_add,Nat.mod_add_div]
 have h4:4294967296 ^ (i + k) * s=4294967296 ^ (i + k) * (x * y) + 4294967296 ^ (i + k) * o + 4294967296 ^ (i + k) * c:=by rw [hs,Nat.mul_add,Nat.mul_add]
 have h5:4294967296 ^ i * (x * (Y + 4294967296 ^ k * y))=4294967296 ^ i * (x * Y) + 4294967296 ^ (i + k) * (x * y):=by
  rw [Nat.mul_add,Nat.mul_add,Nat.pow_add]
  congr 1
  rw [Nat.mul_left_comm x,Nat.mul_assoc]
 rw [h2,h5]
 omega
theorem uA {x y o c:Nat} (hx:x < 4294967296) (hy:y < 4294967296) (ho:o < 4294967296) (hc:c < 4294967296):x * y + o + c < 18446744073709551616:=by
 have h1:x * y≤4294967295 * 4294967295:=Nat.mul_le_mul ab ab
 omega
def jb (U V:Nat):Nat:=min 4294967295 (U / V)
theorem GR {U V:Nat}:jb U V * V≤U:=Nat.le_trans (Nat.mul_le_mul_right _ (Nat.min_le_right _ _)) (Nat.div_mul_le_self U V)
theorem Dn {U V t:Nat} (hV:0 < V) (ht:t≤4294967295) (h:t * V≤U):t≤jb U V:=by
 unfold jb
 rw [Nat.le_min]
 exact ⟨ht,(Nat.le_div_iff_mul_le hV).2 h⟩
theorem Kq {p U V u b lu lb:Nat} (hp:0 < p) (hu:u=U * p + lu) (hlu:lu < p) (hb:b=V * p + lb) (JY:lb < p) (hV:4294967296≤V) (Rv:u < 4294967296 * b):
  u / b≤jb U V/\jb U V≤u / b + 1:=by
 have hV0:0 < V:=by omega
 have ou:0 < b:=by have:0 < V * p:=Nat.mul_pos hV0 hp;omega
 constructor
 ·refine Dn hV0 ?_ ?_
  ·have:u / b < 4294967296:=by rw [Nat.div_lt_iff_lt_mul ou];exact Rv
   omega
  ·have h1:u / b * b≤u:=Nat.div_mul_le_self u b
   have h2:u / b * V * p≤U * p + lu:=by
    rw [hb] at h1
    rw [hu,Nat.mul_add,<-Nat.mul_assoc] at h1
    rw [<-hb,<-hu] at h1
    have:u / b * V * p≤u:=by omega
    omega
   rcases Nat.lt_or_ge U (u / b * V) with h | h
   ·have h3:(U + 1) * p≤u / b * V * p:=Nat.mul_le_mul_right _ h
    rw [Nat.add_mul] at h3
    omega
   ·exact h
 ·have hg:=@GR U V
  have hgB:jb U V≤4294967295:=Nat.min_le_left _ _
  generalize jb U V=q at hg hgB
  have h1:q * V * p≤U * p:=Nat.mul_le_mul_right _ hg
  have h2:q * lb≤4294967295 * lb:=Nat.mul_le_mul_right _ hgB
  have h3:q * b=q * V * p + q * lb:=by rw [hb,Nat.mul_add,<-Nat.mul_assoc]
  have h4:4294967296 * p≤V * p:=Nat.mul_le_mul_right _ hV
  have h5:q * b < u + b:=by omega
  have h6:q < u / b + 2:=by
   have h7:u < (u / b + 1) * b:=by rw [Nat.add_mul];have e1:=Nat.div_add_mod u b;have e2:=Nat.mod_lt u ou;rw [Nat.mul_comm] at e1;omega
   have h8:q * b < (u / b + 2) * b:=by rw [Nat.add_mul];rw [Nat.add_mul] at h7;omega
   exact Nat.lt_of_mul_lt_mul_right h8
  omega
theorem Kr {B p a y q c r x qE X Y D:Nat} (h:D + q * Y=X + p * (c + r)) (hx:a + B * qE=x + (q * y + c) % B + r):
  (D + p * x) + q * (Y + p * y)=(X + p * a) + p * B * ((q * y + c) / B + qE):=by
 have h1:=Nat.mod_add_div (q * y + c) B
 have h2:p * (a + B * qE)=p * x + p * ((q * y + c) % B) + p * r:=by rw [hx,Nat.mul_add,Nat.mul_add]
 have h3:p * ((q * y + c) % B) + p * (B * ((q * y + c) / B))=p * (q * y) + p * c:=by rw [<-Nat.mul_add,h1,Nat.mul_add]
 have h4:q * (Y + p * y)=q * Y + p * (q * y):=by rw [Nat.mul_add,Nat.mul_left_comm]
 have h5:p * B * ((q * y + c) / B + qE)=p * (B * ((q * y + c) / B)) + p * (B * qE):=by rw [Nat.mul_assoc,Nat.mul_add,Nat.mul_add]
 rw [Nat.mul_add] at h2 h
 rw [h4,h5]
 omega
end
section
open Go.RowKit
theorem tab_fin:∀ i:Fin 256,(Lib.len8tab[i.val]'(by have:=i.2;have:Lib.len8tab.size=256:=by decide +kernel
                                                    omega)).toNat=jt i.val:=by decide +kernel
theorem GS:Lib.len8tab.size=256:=by decide +kernel
theorem tab_at (i:Nat) (h:i < Lib.len8tab.size):(Lib.len8tab[i]'h).toNat=jt i:=tab_fin ⟨i,by rw [GS] at h;exact h⟩
theorem AE {t k:Nat} (h:2 ^ k≤t):jt t=k + jt (t / 2 ^ k):=by
 have hp:0 < 2 ^ k:=Nat.pow_pos ab
 have hq:t / 2 ^ k≠0:=by
  have:=(Nat.le_div_iff_mul_le hp).2 (show 1 * 2 ^ k≤t by omega)
  omega
 have h1:=zB (t / 2 ^ k)
 have h2:=zC hq
 have h0:=um hq
 refine Mr ?_ (.inr ?_)
 ·rw [Nat.pow_add,Nat.mul_comm]
  exact (Nat.div_lt_iff_lt_mul hp).1 h1
 ·rw [show k + jt (t / 2 ^ k) - 1=(jt (t / 2 ^ k) - 1) + k by omega,Nat.pow_add]
  exact (Nat.le_div_iff_mul_le hp).1 h2
theorem pk {i:Nat} (h:i < 256):jt i≤8:=sK (k:=8) h
set_option maxRecDepth 100000 in
theorem OQ (x:Int) (w:World) (h0:0≤x) (h1:x≤4294967295):
  Calls Tryz.prog 152 #[.int .u32 x] w fun e w'=>e=.returned (.int .i64 (jt x.toNat:Int))/\w=w':=by
 have hsz:(Lib.len8tab.size:Int)=256:=by rw [GS];rfl
 refine aY fun R' bR=> ?_
 go_enter Tryz.func152,Tryz.ntmps152
 go_wp2
 all_goals
  refine bR.out _ _ ⟨oq ?_,rfl⟩
  simp only [tab_at,wrap64]
 all_goals first
  | (have e:=AE (t:=x.toNat) (k:=24) ab
     have b:=pk (i:=x.toNat / 2 ^ 24) ab
     rw [show (x / 65536 / 256).toNat=x.toNat / 2 ^ 24 by omega]
     omega)
  | (have e:=AE (t:=x.toNat) (k:=16) ab
     have b:=pk (i:=x.toNat / 2 ^ 16) ab
     rw [show (x / 65536).toNat=x.toNat / 2 ^ 16 by omega]
     omega)
  | (have e:=AE (t:=x.toNat) (k:=8) ab
     have b:=pk (i:=x.toNat / 2 ^ 8) ab
     rw [show (x / 256).toNat=x.toNat / 2 ^ 8 by omega]
     omega)
  | (have b:=pk (i:=x.toNat) ab
     omega)
theorem OS (t:Nat) (w:World) (h1:t < 4294967296):
  Calls Tryz.prog 152 #[.int .u32 (t:Int)] w fun e w'=>e=.returned (.int .i64 (jt t:Int))/\w=w':=by
 have h:=OQ (t:Int) w ab ab
 rwa [Int.toNat_natCast] at h
theorem GU (t:Nat) (w:World) (ht:t < 4294967296) (h0:t≠0):
  Calls Tryz.prog 144 #[.int .u32 (t:Int)] w fun e w'=>(∃ u:Nat,e=.returned (.int .i64 (u:Int))/\u < 32/\t * 2 ^ u < 4294967296)/\w=w':=by
 have hs:=zB t
 have hb:jt t≤32:=sK (k:=32) ht
 have ou:=um h0
 refine aY fun R' bR=> ?_
 go_enter Tryz.func144,Tryz.ntmps144
 go_wp2_with fail
 refine (OS t _ ht).mono ?_
 rintro e w1 ⟨rfl,rfl⟩
 generalize jt t=L at *
 go_wp2_with fail
 refine bR.out _ _ ⟨⟨32 - L,oq ab,by omega,?_⟩,rfl⟩
 have h1:t * 2 ^ (32 - L) < 2 ^ L * 2 ^ (32 - L):=Nat.mul_lt_mul_of_pos_right hs (Nat.pow_pos ab)
 rw [<-Nat.pow_add,show L + (32 - L)=32 by omega] at h1
 exact h1
def AG (w:World) (B n m:Nat) (xs ys:List Nat) (v iv:Value) (wr:World):Prop:=
 ∃ (i:Nat) (os:List Nat),i≤n/\iv=.int .i64 (i:Int)/\os.length=n + m/\cR os/\(∀ j,i + m≤j->∀ x,os[j]? =some x->x=0)/\ak os=ak (xs.take i) * ak ys/\
   wr.ownsRow B 117 1 v (n + m) (ints .u32 os)/\Below B w wr
def GV (w:World) (B n m i S x:Nat) (ys:List Nat) (v cv kv:Value) (wr:World):Prop:=
 ∃ (k c:Nat) (os:List Nat),k≤m/\kv=.int .i64 (k:Int)/\cv=.int .u64 (c:Int)/\c < 4294967296/\os.length=n + m/\cR os/\(∀ j,i + m≤j->∀ x,os[j]? =some x->x=0)/\
   ak os + 4294967296 ^ (i + k) * c=S + 4294967296 ^ i * (x * ak (ys.take k))/\wr.ownsRow B 117 1 v (n + m) (ints .u32 os)/\Below B w wr
theorem Rx {os:List Nat} {i m j v:Nat} (h:∀ j,i + m≤j->∀ x,os[j]? =some x->x=0) (hj:j < i + m):∀ l,i + m≤l->∀ x,(os.set j v)[l]? =some x->x=0:=fun l hl x hx=>by
 rw [List.getElem?_set_ne ab] at hx
 exact h l hl x hx
theorem GV.step {w wr:World} {B n m i S x y o k c g cap:Nat} {ys os:List Nat} {q r:Int} (hk:k < m) (_:i < n) (hl:os.length=n + m) (AH:cR os) (hz:∀ j,i + m≤j->∀ x,os[j]? =some x->x=0)
  (hv:ak os + 4294967296 ^ (i + k) * c=S + 4294967296 ^ i * (x * ak (ys.take k))) (aJ:wr.ownsRow B 117 1 (.slice (some ⟨g,0,none⟩) (n + m) cap) (n + m) (ints .u32 os)) (hb:Below B w wr)
  (hy:ys[k]? =some y) (ho:os[i + k]? =some o) (lW:x < 4294967296) (Di:y < 4294967296) (uB:c < 4294967296) (hq:q=(((x * y + o + c) % 4294967296:Nat):Int)) (hr:r=(((x * y + o + c) / 4294967296:Nat):Int)):
  GV w B n m i S x ys (.slice (some ⟨g,0,none⟩) (n + m) cap) (.int .u64 r) (.int .i64 ((k:Int) + 1)) (wr.setCell ⟨g,i + k,none⟩ (.int .u32 q)):=by
 subst hq;subst hr
 have ho4:=AH.at ho
 have hs:=uA lW Di ho4 uB
 refine ⟨k + 1,(x * y + o + c) / 4294967296,os.set (i + k) ((x * y + o + c) % 4294967296),by omega,rfl,rfl,by omega,by simp [hl],AH.set (Nat.mod_lt _ ab) _,Rx hz ab,?_,Own.ic aJ,hb.setCell (Own.lt aJ).1 _⟩
 have h1:ak (ys.take (k + 1))=ak (ys.take k) + 4294967296 ^ k * y:=by rw [bq,List.getD,hy];rfl
 rw [h1]
 exact GQ ho rfl hv
theorem AG.step {w wr:World} {B n m i x c g cap:Nat} {xs ys os:List Nat} {q:Int} (hi:i < n) (hl:os.length=n + m) (AH:cR os) (hz:∀ j,i + m≤j->∀ x,os[j]? =some x->x=0) (hm:ys.length=m)
  (hv:ak os + 4294967296 ^ (i + m) * c=ak (xs.take i) * ak ys + 4294967296 ^ i * (x * ak (ys.take m))) (aJ:wr.ownsRow B 117 1 (.slice (some ⟨g,0,none⟩) (n + m) cap) (n + m) (ints .u32 os)) (hb:Below B w wr)
  (hx:xs[i]? =some x) (uB:c < 4294967296) (hq:q=(c:Int)):
  AG w B n m xs ys (.slice (some ⟨g,0,none⟩) (n + m) cap) (.int .i64 ((i:Int) + 1)) (wr.setCell ⟨g,i + m,none⟩ (.int .u32 q)):=by
 subst hq
 obtain ⟨o,ho⟩:∃ o,os[i + m]? =some o:=⟨_,List.getElem?_eq_getElem ab⟩
 obtain rfl:=hz (i + m) (Nat.le_refl _) o ho
 refine ⟨i + 1,os.set (i + m) c,by omega,rfl,by simp [hl],AH.set uB _,fun j hj y hy=> ?_,?_,Own.ic aJ,hb.setCell (Own.lt aJ).1 _⟩
 ·rw [List.getElem?_set_ne ab] at hy
  exact hz j ab y hy
 ·have h1:=GP (v:=c) ho
  have h2:ak (xs.take (i + 1))=ak (xs.take i) + 4294967296 ^ i * x:=by rw [bq,List.getD,hx];rfl
  rw [bM (Nat.le_of_eq hm)] at hv
  rw [h2,Nat.add_mul,Nat.mul_assoc]
  omega
set_option maxRecDepth 100000 in
theorem Ry (va vb:Value) (n m:Nat) (xs ys:List Nat) (w:World) (hr:Rd w 1 va n (ints .u32 xs)) (hs:Rd w 1 vb m (ints .u32 ys)) (hx:cR xs) (hy:cR ys) (hn:n≤536870912) (hm:m≤536870912):
  Calls Tryz.prog 81 #[va,vb] w fun e w'=>∃ v',e=.returned v'/\w'.ownsRow w.heap.size 117 1 v' (limbs (ak xs * ak ys)).length (ints .u32 (limbs (ak xs * ak ys)))/\Below w.heap.size w w':=by
 obtain ⟨p,c,rfl,fE,fX,fA⟩:=hr.u32
 obtain ⟨q,d,rfl,OK,JX,kD⟩:=hs.u32
 obtain ⟨i0,hi,jB,gC,mO⟩:=info_parts kC
 have Hr:=Lib.hid hr
 have Hs:=Lib.hid hs
 have HLX:=Lib.hid hx
 have HLY:=Lib.hid hy
 have HX:=Lib.hid fA
 have HY:=Lib.hid kD
 obtain ⟨B,hB⟩:∃ B,B=w.heap.size:=⟨_,rfl⟩
 have HB:=Lib.hid hB
 rw [<-hB]
 clear hr hs hx hy fA kD hB
 refine aY fun R' bR=> ?_
 go_enter Tryz.func81,Tryz.ntmps81
 go_wp2_with (at_make;refine wpList_make_full _ rfl _ _ 22 rfl B 117 i0 (.int .u32 0) 1 Tryz.underlying22 hi jB gC .i64 .i64 _ _ (n + m) rfl rfl ab ab (by rw [mO];omega) (by unfold maxLen;omega) (Nat.le_of_eq HB.out) ?_;intro w1 aJ OI)
 have Kl:=Lib.hid (Own.made aJ)
 have Hb1:Hid (Below B w w1):=(Below.refl _ _).grown OI (Nat.le_of_eq HB.out) (fun k hk=>by cases hk)
 clear aJ OI hi jB gC mO
 go_wp2_with fail
 go_loopw [20] (fun iv wr=>AG w B n m xs ys (.slice (some ⟨w.heap.size,0,none⟩) (n + m) (n + m)) iv wr) (fun iv _=>n - (intOf iv).toNat)
 case atStart=>exact ⟨0,List.replicate (n + m) 0,Nat.zero_le _,rfl,by simp,eO.replicate ab _,fun j _ x hx=>by rw [List.getElem?_replicate] at hx;split at hx <;> simp_all,by rw [AB];simp [fe],by simpa using Kl.out,Hb1.out⟩
 case round=>
  obtain ⟨i,os,rT,rfl,hl,AH,hz,hv,aJ,hb⟩:=hrel
  have HLO:=Lib.hid hl
  have HLIM:=Lib.hid AH
  have HZ:=Lib.hid hz
  have HV:=Lib.hid hv
  have HO:=Lib.hid aJ
  have iQ:=Lib.hid hb
  have hsz:=hb.size
  clear hl AH hz hv aJ hb
  by_cases Ks:i < n
  ·obtain ⟨b1,o1,x,rfl,aI,ig,ss⟩:=(Hr.out.kc HB.out iQ.out).cellAt Ks
   have zG:=Lib.hid ig
   have lW:=HLX.out.at ig
   clear ig
   go_wp2_with fail
   obtain ⟨wo,rfl⟩:∃ wo:World,wo=wr:=⟨_,rfl⟩
   go_loopw [8,27] (fun cv kv wr'=>GV w B n m i (ak (xs.take i) * ak ys) x ys (.slice (some ⟨w.heap.size,0,none⟩) (n + m) (n + m)) cv kv wr') (fun _ kv _=>m - (intOf kv).toNat)
   case atStart=>exact ⟨0,0,os,Nat.zero_le _,rfl,rfl,by omega,HLO.out,HLIM.out,HZ.out,by rw [HV.out];simp [fe],HO.out,iQ.out⟩
   case round=>
    obtain ⟨k,c',os',Km,rfl,rfl,uB,Rz,GW,JZ,hv',hown',Cs⟩:=hrel
    have HLO':=Lib.hid Rz
    have GX:=Lib.hid GW
    have HZ':=Lib.hid JZ
    have HV':=Lib.hid hv'
    have HO':=Lib.hid hown'
    have RA:=Lib.hid Cs
    clear Rz GW JZ hv' hown' Cs
    obtain ⟨o,ho,hco,hfo⟩:=Own.iG HO'.out (j:=i + k) ab
    have HOK:=Lib.hid ho
    have ho4:=GX.out.at ho
    clear ho
    by_cases hklt:k < m
    ·obtain ⟨b2,o2,y,rfl,ba,qd,GN⟩:=(Hs.out.kc HB.out RA.out).cellAt hklt
     have Mw:=Lib.hid qd
     have Di:=HLY.out.at qd
     clear qd
     have hsm:=uA lW Di ho4 uB
     have m0:0≤(x:Int) * (y:Int):=by rw [<-Int.natCast_mul];omega
     have m1:(x:Int) * (y:Int) + (o:Int) + (c':Int) < 18446744073709551616:=by rw [<-Int.natCast_mul];omega
     have OT:IntKind.i64.wrap ((i:Int) + (k:Int))=((i + k:Nat):Int):=by rw [IntWalk.i64_in _ ab];simp
     clear hsm
     go_wp2_with fail
     go_roundw
     case rel=>
      first
      | exact GV.step hklt Ks HLO'.out GX.out HZ'.out HV'.out HO'.out RA.out Mw.out HOK.out lW Di uB cw cw
      | ((repeat apply Exists.intro);exact ⟨GV.step hklt Ks HLO'.out GX.out HZ'.out HV'.out HO'.out RA.out Mw.out HOK.out lW Di uB cw cw,rfl⟩)
     case measure=>simp [intOf];omega
    ·obtain rfl:k=m:=by omega
     have OT:IntKind.i64.wrap ((i:Int) + (k:Int))=((i + k:Nat):Int):=by rw [IntWalk.i64_in _ ab];simp
     go_wp2_with fail
     go_roundw
     case rel=>
      first
      | exact AG.step Ks HLO'.out GX.out HZ'.out HY.out HV'.out HO'.out RA.out zG.out uB rfl
      | ((repeat apply Exists.intro);exact ⟨AG.step Ks HLO'.out GX.out HZ'.out HY.out HV'.out HO'.out RA.out zG.out uB rfl,rfl⟩)
     case measure=>simp [intOf];omega
  ·obtain rfl:i=n:=by omega
   go_wp2_with fail
   refine (kQ _ (i + m) os _ (Rd.own HO.out) HLIM.out ab).mono ?_
   rintro e w2 ⟨v',rfl,mv,ba⟩
   go_wp2_with fail
   have h:=HV.out
   rw [bM (Nat.le_of_eq HX.out)] at h
   rw [h] at mv
   exact bR.out _ _ ⟨v',rfl,Own.mono mv (by have:=HB.out;omega),iQ.out.trans (ba.mono (by have:=HB.out;omega))⟩
end
section
open Go.RowKit
def GY (w:World) (U2 v1 V U:Nat) (qv rv:Value) (wr:World):Prop:=
 ∃ q r dn:Nat,qv=.int .u64 (q:Int)/\rv=.int .u64 (r:Int)/\q * v1 + r=U2/\r < 4294967296/\(∀ t:Nat,t≤4294967295->t * V≤U->t≤q)/\wr=w.drewN dn
theorem EE {B U2 v1 v2 low:Nat} (Gs:0 < v1) (hl:low < B) (t:Nat) (h:t * (v1 * B + v2)≤U2 * B + low):t≤U2 / v1:=by
 rw [Nat.le_div_iff_mul_le Gs]
 rw [Nat.mul_add,<-Nat.mul_assoc] at h
 have h1:t * v1 * B < (U2 + 1) * B:=by rw [Nat.add_mul];omega
 have:=Nat.lt_of_mul_lt_mul_right h1
 omega
theorem GZ {U2 v1 v2 low:Nat} (Gs:0 < v1) (hl:low < 4294967296):∀ t:Nat,t≤4294967295->t * (v1 * 4294967296 + v2)≤U2 * 4294967296 + low->t≤U2 / v1:=fun t _ h=>EE Gs hl t h
theorem AJ {B q v1 v2 r U2 low:Nat} (h:q * v1 + r=U2) (hf:q * v2≤r * B + low):q * (v1 * B + v2)≤U2 * B + low:=by
 subst h
 rw [Nat.mul_add,<-Nat.mul_assoc,Nat.add_mul]
 omega
theorem Kt {B q v1 v2 r U2 low:Nat} (h:q * v1 + r=U2) (hf:r * B + low < q * v2):U2 * B + low < q * (v1 * B + v2):=by
 subst h
 rw [Nat.mul_add,<-Nat.mul_assoc,Nat.add_mul]
 omega
theorem Ha {q V U:Nat} (hV:0 < V) (hq:q≤4294967295) (hf:q * V≤U) (hm:∀ t:Nat,t≤4294967295->t * V≤U->t≤q):q=jb U V:=
 Nat.le_antisymm (Dn hV hq hf) (hm _ (Nat.min_le_left _ _) GR)
theorem Hb {q v1 v2 r U2 low:Nat} (h:q * v1 + r=U2) (hr:4294967296≤r) (hU:U2 < v1 * 4294967296 + 4294967296) (hv2:v2 < 4294967296):q≤4294967295/\q * v2≤r * 4294967296 + low:=by
 have h1:q * v1 < 4294967296 * v1:=by omega
 have h2:q < 4294967296:=Nat.lt_of_mul_lt_mul_right h1
 have h3:q * v2≤4294967295 * 4294967295:=Nat.mul_le_mul ab ab
 omega
set_option maxRecDepth 100000 in
theorem OU (hi mid low v1 v2:Nat) (w:World) (hhi:hi≤v1) (kg:mid < 4294967296) (hlow:low < 4294967296) (h1:0 < v1) (h14:v1 < 4294967296) (h2:v2 < 4294967296):
  Calls Tryz.prog 146 #[.int .u32 (hi:Int),.int .u32 (mid:Int),.int .u32 (low:Int),.int .u32 (v1:Int),.int .u32 (v2:Int)] w fun e w'=>
   e=.returned (.int .u64 (jb ((hi * 4294967296 + mid) * 4294967296 + low) (v1 * 4294967296 + v2):Int))/\∃ k,w'=w.drewN k:=by
 have hhi4:hi < 4294967296:=by omega
 have Aq:bits BinOp.or IntKind.u64 ((hi:Int) * 4294967296) (mid:Int)=((hi * 4294967296 + mid:Nat):Int):=by
  have e1:((hi:Int) * 4294967296)=((hi * 4294967296:Nat):Int):=by simp
  rw [e1,u64_or_nat _ _ ab ab,nat_join 32 _ _ ab ab]
 obtain ⟨U2,Ct⟩:∃ U2,U2=hi * 4294967296 + mid:=⟨_,rfl⟩
 have hU:U2 < v1 * 4294967296 + 4294967296:=by omega
 rw [<-Ct] at Aq ⊢
 have hv0:((v1:Int) != 0)=true:=by rw [bne_iff_ne];omega
 have hV:0 < v1 * 4294967296 + v2:=by omega
 obtain ⟨V,hVe⟩:∃ V,V=v1 * 4294967296 + v2:=⟨_,rfl⟩
 obtain ⟨U,hUe⟩:∃ U,U=U2 * 4294967296 + low:=⟨_,rfl⟩
 rw [<-hVe,<-hUe]
 rw [<-hVe] at hV
 have HV:=Lib.hid hVe
 have HU:=Lib.hid hUe
 have HST:Hid (∀ t:Nat,t≤4294967295->t * V≤U->t≤U2 / v1):=by rw [hVe,hUe];exact GZ h1 hlow
 have HUU:=Lib.hid hU
 have JX:=Nat.div_add_mod U2 v1
 have sM:=Nat.mod_lt U2 h1
 have hU64:U2 < 18446744073709551616:=by omega
 have d1:((U2 / v1:Nat):Int)=(U2:Int) / (v1:Int):=by simp
 have d2:((U2 % v1:Nat):Int)=(U2:Int) % (v1:Int):=by simp
 have dl:(U2:Int) / (v1:Int) < 18446744073709551616:=by rw [<-d1];have:=Nat.div_le_self U2 v1;omega
 have dl0:0≤(U2:Int) / (v1:Int):=Int.ediv_nonneg ab ab
 have dm0:0≤(U2:Int) % (v1:Int):=Int.emod_nonneg _ ab
 have dm1:(U2:Int) % (v1:Int) < 4294967296:=by rw [<-d2];omega
 have HDM:=Lib.hid JX
 have Ru:=Lib.hid sM
 have HD1:=Lib.hid d1
 have HD2:=Lib.hid d2
 clear hVe hUe hU JX sM d1 d2 Ct
 refine aY fun R' bR=> ?_
 go_enter Tryz.func146,Tryz.ntmps146
 go_wp2_with fail
 go_step3
 go_wp2_with fail
 go_quiet (fail)
 go_wp2_with fail
 go_step3
 go_wp2_with fail
 go_loopw [12,13] (fun qv rv wr=>GY w U2 v1 V U qv rv wr) (fun qv _ _=>(intOf qv).toNat)
 case atStart=>exact ⟨U2 / v1,U2 % v1,_,by rw [HD1.out],by rw [HD2.out],by rw [Nat.mul_comm];exact HDM.out,Nat.lt_trans Ru.out h14,HST.out,rfl⟩
 case round=>
  obtain ⟨q,r,dn,rfl,rfl,hqr,hr,hmax,rfl⟩:=hrel
  have HQR:=Lib.hid hqr
  have HMAX:=Lib.hid hmax
  have hq64:(q:Int) < 18446744073709551616:=by
   have h3:q * 1≤q * v1:=Nat.mul_le_mul_left _ h1
   omega
  have hr64:(r:Int) + (v1:Int) < 18446744073709551616:=by omega
  clear hqr hmax dl dl0 dm0 dm1 Aq
  have next:(∀ t:Nat,t≤4294967295->t * V≤U->t≤q - 1)->1≤q->r + v1 < 4294967296->GY w U2 v1 V U (.int .u64 ((q:Int) - 1)) (.int .u64 ((r:Int) + (v1:Int))) (w.drewN dn):=fun a b c=>
   ⟨q - 1,r + v1,dn,by rw [show ((q - 1:Nat):Int)=(q:Int) - 1 by omega],by simp,by
    have h3:=HQR.out
    obtain ⟨k,rfl⟩:∃ k,q=k + 1:=⟨q - 1,by omega⟩
    rw [Nat.add_mul] at h3
    simp only [Nat.add_sub_cancel]
    omega,c,a,rfl⟩
  have stop:(∀ t:Nat,t≤4294967295->t * V≤U->t≤q - 1)->1≤q->4294967296≤r + v1->(q:Int) - 1=(jb U V:Int):=fun a b c=>by
   have h3:=HQR.out
   obtain ⟨k,rfl⟩:∃ k,q=k + 1:=⟨q - 1,by omega⟩
   have h4:k * v1 + (r + v1)=U2:=by rw [Nat.add_mul] at h3;omega
   obtain ⟨h5,h6⟩:=Hb (low:=low) h4 c HUU.out h2
   have h7:k=jb U V:=Ha hV h5 (by rw [HV.out,HU.out];exact AJ h4 h6) (by simpa using a)
   omega
  have HNEXT:=Lib.hid next
  have HSTOP:=Lib.hid stop
  clear next stop
  by_cases hqB:4294967296≤q
  ·have c1:4294967295 < (q:Int):=by omega
   have hA:Hid (∀ t:Nat,t≤4294967295->t * V≤U->t≤q - 1):=fun t ht _=>by omega
   have c2:0≤(q:Int) - 1:=by omega
   by_cases OL:r + v1 < 4294967296
   ·have c3:decide (4294967295 < (r:Int) + (v1:Int))=false:=decide_eq_false ab
    go_wp2_with fail
    go_roundw
    case rel=>exact HNEXT.out hA.out ab OL
    case measure=>simp [intOf];omega
   ·have c3:4294967295 < (r:Int) + (v1:Int):=by omega
    go_wp2_with fail
    exact bR.out _ _ ⟨oq (HSTOP.out hA.out ab ab),_,rfl⟩
  ·have c1:(q:Int)≤4294967295:=by omega
   have m2:q * v2≤4294967295 * 4294967295:=Nat.mul_le_mul ab ab
   have m0:0≤(q:Int) * (v2:Int):=by rw [<-Int.natCast_mul];omega
   have m1:(q:Int) * (v2:Int) < 18446744073709551616:=by rw [<-Int.natCast_mul];omega
   have Aq:bits BinOp.or IntKind.u64 ((r:Int) * 4294967296) (low:Int)=((r * 4294967296 + low:Nat):Int):=by
    have e1:((r:Int) * 4294967296)=((r * 4294967296:Nat):Int):=by simp
    rw [e1,u64_or_nat _ _ ab ab,nat_join 32 _ _ ab ab]
   obtain ⟨RL,hRL⟩:∃ RL,RL=r * 4294967296 + low:=⟨_,rfl⟩
   rw [<-hRL] at Aq
   have HRL:=Lib.hid hRL
   by_cases hc:RL < q * v2
   ·have cc:(RL:Int) < (q:Int) * (v2:Int):=by rw [<-Int.natCast_mul];omega
    have hq1:1≤q:=by
     rcases Nat.eq_zero_or_pos q with h | h
     ·subst h;rw [Nat.zero_mul] at hc;omega
     ·exact h
    have hA:Hid (∀ t:Nat,t≤4294967295->t * V≤U->t≤q - 1):=fun t ht hf=>by
     have h3:=HMAX.out t ht hf
     have h4:=Kt (B:=4294967296) (low:=low) HQR.out (by rw [<-hRL];exact hc)
     rw [<-HV.out,<-HU.out] at h4
     have h5:t≠q:=fun e=>by subst e;omega
     omega
    have c2:0≤(q:Int) - 1:=by omega
    clear m2 hc hRL
    by_cases OL:r + v1 < 4294967296
    ·have c3:decide (4294967295 < (r:Int) + (v1:Int))=false:=decide_eq_false ab
     go_wp2_with fail
     go_roundw
     case rel=>exact HNEXT.out hA.out ab OL
     case measure=>simp [intOf];omega
    ·have c3:4294967295 < (r:Int) + (v1:Int):=by omega
     go_wp2_with fail
     exact bR.out _ _ ⟨oq (HSTOP.out hA.out ab ab),_,rfl⟩
   ·have cc:decide ((RL:Int) < (q:Int) * (v2:Int))=false:=decide_eq_false (by rw [<-Int.natCast_mul];omega)
    have cx:decide (4294967295 < (q:Int))=false:=decide_eq_false ab
    have he:q=jb U V:=Ha hV ab (by rw [HV.out,HU.out];exact AJ HQR.out (by rw [<-hRL];omega)) HMAX.out
    have HE:=Lib.hid he
    clear m2 hc hRL he c1
    go_wp2_with fail
    exact bR.out _ _ ⟨by rw [<-HE.out];rfl,_,rfl⟩
end
section
open Go.RowKit
theorem Rd.uC {w w':World} {g sz n:Nat} {v:Value} {cs:List Value} (h:Rd w sz v n cs) (hg:w.grownBy w' (some g)) (hne:∀ p c a,v=.slice p n c->p=some a->a.block≠g):Rd w' sz v n cs:=by
 obtain ⟨p,c,rfl,h1,h2,h3,h4⟩:=h
 refine ⟨p,c,rfl,h1,h2,h3,fun hn=> ?_⟩
 obtain ⟨b,off,hp,hc⟩:=h4 hn
 refine ⟨b,off,hp,fun j u hj=> ?_⟩
 exact hg.cell (hc j u hj) (fun e=>hne p c _ rfl hp (by simpa using e))
theorem nO (w:World) (row:Option Nat):w.grownBy w row:=⟨rfl,rfl,rfl,Nat.le_refl _,fun _ _ _=>rfl⟩
theorem CF {a b c:World} {row:Option Nat} (h:a.grownBy b row) (k:b.grownBy c row):a.grownBy c row:=
 ⟨k.os.trans h.os,k.tape.trans h.tape,k.output.trans h.output,Nat.le_trans h.size k.size,fun j hj hne=>(k.block j (Nat.lt_of_lt_of_le hj h.size) hne).trans (h.block j hj hne)⟩
theorem pt {w wr:World} {g j:Nat} {u:Value} (h:w.grownBy wr (some g)):w.grownBy (wr.setCell ⟨g,j,none⟩ u) (some g):=
 ⟨h.os,h.tape,h.output,by simpa [World.setCell] using h.size,fun k hk hne=>(Below.heap_setCell wr ⟨g,j,none⟩ u k (fun e=>hne (by rw [e]))).trans (h.block k hk hne)⟩
theorem zJ {pre D A post:List Nat} {i k a:Nat} (hp:pre.length=i) (hD:D.length=k) (ha:A[k]? =some a):(pre++(D++(A.drop k++post)))[i + k]? =some a:=by
 subst hp;subst hD
 obtain ⟨hl,he⟩:=List.getElem?_eq_some_iff.1 ha
 rw [List.getElem?_append_right ab,Nat.add_sub_cancel_left,List.getElem?_append_right (Nat.le_refl _),Nat.sub_self,List.drop_eq_getElem_cons hl,List.cons_append,List.getElem?_cons_zero,he]
theorem Mz {pre D A post:List Nat} {i k x:Nat} (hp:pre.length=i) (hD:D.length=k) (hl:k < A.length):(pre++(D++(A.drop k++post))).set (i + k) x=pre++((D++[x])++(A.drop (k + 1)++post)):=by
 subst hp;subst hD
 rw [List.set_append_right _ _ ab,Nat.add_sub_cancel_left,List.set_append_right _ _ (Nat.le_refl _),Nat.sub_self,List.drop_eq_getElem_cons hl,List.cons_append,List.set_cons_zero,List.append_assoc];rfl
theorem uD (n:Int):IntKind.u64.wrap n=n % 18446744073709551616:=by simp [IntKind.wrap,IntKind.bits,IntKind.signed]
theorem Hc {a lo r:Nat} (ha:a < 4294967296) (hl:lo < 4294967296) (hr:r≤1):∃ S1 S2 x r':Nat,IntKind.u64.wrap ((a:Int) - (lo:Int))=(S1:Int)/\IntKind.u64.wrap ((S1:Int) - (r:Int))=(S2:Int)/\
  (S2:Int) % 4294967296=(x:Int)/\(S2:Int) / 9223372036854775808=(r':Int)/\r'≤1/\x < 4294967296/\a + 4294967296 * r'=x + lo + r/\S1 < 18446744073709551616/\S2 < 18446744073709551616:=by
 refine ⟨(((a:Int) - lo) % 18446744073709551616).toNat,(((a:Int) - lo - r) % 18446744073709551616).toNat,(((a:Int) - lo - r) % 4294967296).toNat,(if lo + r≤a then 0 else 1),?_,?_,?_,?_,?_,?_,?_,?_,?_⟩
 ·rw [uD];omega
 ·rw [uD];omega
 ·omega
 ·split <;> omega
 ·split <;> omega
 ·omega
 ·split <;> omega
 ·omega
 ·omega
def uE (w:World) (B g N cap L q:Nat) (pre A post ys:List Nat) (cv bv kv:Value) (wr:World):Prop:=
 ∃ (k c r:Nat) (D:List Nat),k≤L/\kv=.int .i64 (k:Int)/\cv=.int .u64 (c:Int)/\bv=.int .u64 (r:Int)/\c < 4294967296/\r≤1/\D.length=k/\cR D/\
   ak D + q * ak (ys.take k)=ak (A.take k) + 4294967296 ^ k * (c + r)/\4294967296 ^ k * c≤q * ak (ys.take k)/\
   wr.ownsRow B 117 1 (.slice (some ⟨g,0,none⟩) N cap) N (ints .u32 (pre++(D++(A.drop k++post))))/\w.grownBy wr (some g)
theorem uE.step {w wr:World} {B g N cap i L q k c r y a x r' P:Nat} {pre A post ys D:List Nat} {xi ci ri:Int} (hk:k < L) (hA:A.length=L) (uF:pre.length=i) (hD:D.length=k) (AH:cR D)
  (hv:ak D + q * ak (ys.take k)=ak (A.take k) + 4294967296 ^ k * (c + r)) (hc:4294967296 ^ k * c≤q * ak (ys.take k))
  (aJ:wr.ownsRow B 117 1 (.slice (some ⟨g,0,none⟩) N cap) N (ints .u32 (pre++(D++(A.drop k++post))))) (hg:w.grownBy wr (some g))
  (hy:ys.getD k 0=y) (ha:A[k]? =some a) (hP:P=q * y + c) (hP64:P < 18446744073709551616) (lW:x < 4294967296) (qn:r'≤1) (he:a + 4294967296 * r'=x + P % 4294967296 + r)
  (hxi:xi=(x:Int)) (hci:ci=((P / 4294967296:Nat):Int)) (Hd:ri=(r':Int)):
  uE w B g N cap L q pre A post ys (.int .u64 ci) (.int .u64 ri) (.int .i64 ((k:Int) + 1)) (wr.setCell ⟨g,i + k,none⟩ (.int .u32 xi)):=by
 subst hxi;subst hci;subst Hd;subst hP
 have h1:=Own.ic (j:=i + k) (x:=x) aJ
 rw [Mz uF hD ab] at h1
 have e1:ak (ys.take (k + 1))=ak (ys.take k) + 4294967296 ^ k * y:=by rw [bq,hy]
 have e2:ak (A.take (k + 1))=ak (A.take k) + 4294967296 ^ k * a:=by rw [bq,List.getD,ha];rfl
 refine ⟨k + 1,(q * y + c) / 4294967296,r',D++[x],by omega,rfl,rfl,rfl,by omega,qn,by simp [hD],AH.append (cR.cons lW cR.nil),?_,?_,h1,pt hg⟩
 ·rw [eK,hD,e1,e2,Nat.pow_succ]
  exact Kr hv he
 ·rw [e1,Nat.pow_succ,Nat.mul_add]
  have h3:4294967296 ^ k * 4294967296 * ((q * y + c) / 4294967296)≤4294967296 ^ k * (q * y + c):=by
   rw [Nat.mul_assoc];exact Nat.mul_le_mul_left _ (Nat.mul_div_le _ _)
  rw [Nat.mul_add,Nat.mul_left_comm] at h3
  omega
def uG (w:World) (B g N cap L:Nat) (pre A post ys:List Nat) (cv kv:Value) (wr:World):Prop:=
 ∃ (k c:Nat) (D:List Nat),k≤L/\kv=.int .i64 (k:Int)/\cv=.int .u32 (c:Int)/\c≤1/\D.length=k/\cR D/\
   ak D + 4294967296 ^ k * c=ak (A.take k) + ak (ys.take k)/\
   wr.ownsRow B 117 1 (.slice (some ⟨g,0,none⟩) N cap) N (ints .u32 (pre++(D++(A.drop k++post))))/\w.grownBy wr (some g)
theorem uG.step {w wr:World} {B g N cap i L k c y a:Nat} {pre A post ys D:List Nat} (hk:k < L) (hA:A.length=L) (uF:pre.length=i) (hD:D.length=k) (AH:cR D) (hc:c≤1)
  (hv:ak D + 4294967296 ^ k * c=ak (A.take k) + ak (ys.take k))
  (aJ:wr.ownsRow B 117 1 (.slice (some ⟨g,0,none⟩) N cap) N (ints .u32 (pre++(D++(A.drop k++post))))) (hg:w.grownBy wr (some g))
  (hy:ys.getD k 0=y) (ha:A[k]? =some a) (ha4:a < 4294967296) (Di:y < 4294967296):
  uG w B g N cap L pre A post ys (.int .u32 (((a + y + c) / 4294967296:Nat):Int)) (.int .i64 ((k:Int) + 1)) (wr.setCell ⟨g,i + k,none⟩ (.int .u32 (((a + y + c) % 4294967296:Nat):Int))):=by
 have h1:=Own.ic (j:=i + k) (x:=(a + y + c) % 4294967296) aJ
 rw [Mz uF hD ab] at h1
 have e1:ak (ys.take (k + 1))=ak (ys.take k) + 4294967296 ^ k * y:=by rw [bq,hy]
 have e2:ak (A.take (k + 1))=ak (A.take k) + 4294967296 ^ k * a:=by rw [bq,List.getD,ha];rfl
 refine ⟨k + 1,(a + y + c) / 4294967296,D++[(a + y + c) % 4294967296],by omega,rfl,rfl,by omega,by simp [hD],AH.append (cR.cons (Nat.mod_lt _ ab) cR.nil),?_,h1,pt hg⟩
 rw [eK,hD,e1,e2,Nat.pow_succ]
 exact GH _ _ a y c _ _ _ hv rfl
def TookAt (w w':World) (B g N cap:Nat) (pre A post ys:List Nat) (q q':Nat):Prop:=
 ∃ A':List Nat,A'.length=A.length/\cR A'/\ak A' + q' * ak ys=ak A/\(q * ak ys≤ak A/\q'=q\/ak A < q * ak ys/\q' + 1=q)/\
   w'.ownsRow B 117 1 (.slice (some ⟨g,0,none⟩) N cap) N (ints .u32 (pre++(A'++post)))/\w.grownBy w' (some g)
set_option maxRecDepth 100000 in
theorem RB (g N cap i L capw n q B:Nat) (pre A post ys:List Nat) (vb:Value) (w:World) (aJ:w.ownsRow B 117 1 (.slice (some ⟨g,0,none⟩) N cap) N (ints .u32 (pre++(A++post))))
  (uF:pre.length=i) (hA:A.length=L) (hlA:cR A) (hs:Rd w 1 vb n (ints .u32 ys)) (qm:cR ys) (hne:∀ p c a,vb=.slice p n c->p=some a->a.block≠g) (hL:L=n + 1) (hLc:L≤capw) (hcw:capw≤9223372036854775807)
  (hq:q < 4294967296) (hqb:q * ak ys≤ak A + ak ys):
  Calls Tryz.prog 147 #[.slice (some ⟨g,i,none⟩) L capw,vb,.int .u64 (q:Int)] w fun e w'=>∃ q':Nat,e=.returned (.int .u32 (q':Int))/\TookAt w w' B g N cap pre A post ys q q':=by
 obtain ⟨p,c,rfl,fE,fX,kD⟩:=hs.u32
 have Hs:=Lib.hid hs
 have QQ:=Lib.hid hlA
 have HLY:=Lib.hid qm
 have HNE:=Lib.hid hne
 have HO:=Lib.hid aJ
 have HA:=Lib.hid hA
 have HP:=Lib.hid uF
 have HY:=Lib.hid kD
 have HQB:=Lib.hid hqb
 have HLL:=Lib.hid hL
 clear hs hlA qm hne aJ hA uF kD hqb hL
 refine aY fun R' bR=> ?_
 go_enter Tryz.func147,Tryz.ntmps147
 go_wp2_with fail
 go_loopw [7,8,18] (fun cv bv kv wr=>uE w B g N cap L q pre A post ys cv bv kv wr) (fun _ _ kv _=>L - (intOf kv).toNat)
 case atStart=>exact ⟨0,0,0,[],Nat.zero_le _,rfl,rfl,rfl,by omega,by omega,rfl,cR.nil,by simp [fe],by simp,by simpa using HO.out,nO _ _⟩
 case round=>
  obtain ⟨k,c,r,D,hkL,rfl,rfl,rfl,uB,jA,hD,hlD,hv,hcc,aJ,hg⟩:=hrel
  have HD:=Lib.hid hD
  have Dj:=Lib.hid hlD
  have HV:=Lib.hid hv
  have HCC:=Lib.hid hcc
  have HOW:=Lib.hid aJ
  have HG:=Lib.hid hg
  clear hD hlD hv hcc aJ hg
  by_cases He:k < L
  ·obtain ⟨a,ha⟩:∃ a,A[k]? =some a:=⟨_,List.getElem?_eq_getElem (by rw [HA.out];exact He)⟩
   have ha4:=QQ.out.at ha
   have HAK:=Lib.hid ha
   have hlt:i + k < N:=by
    have h1:=HOW.out.1
    have h2:=(List.getElem?_eq_some_iff.1 (zJ (post:=post) HP.out HD.out ha)).1
    simp at h1 h2
    omega
   obtain ⟨a',ha',hca,hfa⟩:=Own.iG HOW.out (j:=i + k) hlt
   rw [zJ HP.out HD.out ha] at ha'
   obtain rfl:=Option.some.inj ha'
   have OM:=kA hca
   simp only at OM
   clear ha ha'
   by_cases qO:k < n
   ·obtain ⟨b2,o2,y,rfl,ba,qd,GN⟩:=(Hs.out.uC HG.out HNE.out).cellAt qO
    have Mw:Hid (ys.getD k 0=y):=by show _=_;rw [List.getD,qd];rfl
    have Di:=HLY.out.at qd
    clear qd
    have m3:q * y≤4294967295 * 4294967295:=Nat.mul_le_mul ab ab
    have m0:0≤(q:Int) * (y:Int):=by rw [<-Int.natCast_mul];omega
    have m1:(q:Int) * (y:Int) < 18446744073709551616:=by rw [<-Int.natCast_mul];omega
    obtain ⟨P,hP⟩:∃ P,P=q * y + c:=⟨_,rfl⟩
    have hP64:P < 18446744073709551616:=by omega
    have hPi:(q:Int) * (y:Int) + (c:Int)=(P:Int):=by rw [hP];simp
    obtain ⟨lo,GK⟩:∃ lo,lo=P % 4294967296:=⟨_,rfl⟩
    have hlo4:lo < 4294967296:=by omega
    have hloi:(P:Int) % 4294967296=(lo:Int):=by omega
    obtain ⟨S1,S2,x,r',f1,f2,f3,f4,f5,f6,f7,f8,f9⟩:=Hc ha4 hlo4 jA
    have HF7:=Lib.hid f7
    have HPE:=Lib.hid hP
    have HLO:=Lib.hid GK
    clear m3 hP GK f7
    go_wp2_with fail
    go_roundw
    case rel=>exact uE.step He HA.out HP.out HD.out Dj.out HV.out HCC.out HOW.out HG.out Mw.out HAK.out HPE.out hP64 f6 f5 (by rw [<-HLO.out];exact HF7.out) rfl cw rfl
    case measure=>simp [intOf];omega
   ·have Mw:Hid (ys.getD k 0=0):=by show _=_;rw [List.getD,List.getElem?_eq_none (by rw [HY.out];omega)];rfl
    obtain ⟨S1,S2,x,r',f1,f2,f3,f4,f5,f6,f7,f8,f9⟩:=Hc ha4 uB jA
    have HF7:=Lib.hid f7
    clear f7
    go_wp2_with fail
    go_roundw
    case rel=>exact uE.step He HA.out HP.out HD.out Dj.out HV.out HCC.out HOW.out HG.out Mw.out HAK.out (P:=c) cw ab f6 f5 (by rw [Nat.mod_eq_of_lt uB];exact HF7.out) rfl (by first | rfl | (simp;omega) | omega) rfl
    case measure=>simp [intOf];omega
  ·obtain rfl:k=L:=by omega
   have hpow:q * ak ys < 4294967296 ^ k:=by
    have h1:=ky HLY.out
    rw [HY.out] at h1
    have h2:q * ak ys≤4294967295 * ak ys:=Nat.mul_le_mul_right _ ab
    have h3:4294967296 ^ k=4294967296 ^ n * 4294967296:=by rw [HLL.out,Nat.pow_succ]
    omega
   have hyt:ak (ys.take k)=ak ys:=bM (by rw [HY.out,HLL.out];omega)
   have xB:ak (A.take k)=ak A:=bM (by rw [HA.out];omega)
   have hv:=HV.out
   have hcc:=HCC.out
   rw [hyt] at hv hcc
   rw [xB] at hv
   have hDl:=ky Dj.out
   rw [HD.out] at hDl
   obtain rfl:c=0:=by
    rcases Nat.eq_zero_or_pos c with h | h
    ·exact h
    ·have:4294967296 ^ k * 1≤4294967296 ^ k * c:=Nat.mul_le_mul_left _ h
     omega
   rw [Nat.zero_add] at hv
   have HV2:=Lib.hid hv
   have HPW:=Lib.hid hpow
   have Ku:=Lib.hid hDl
   have hOW:=HOW.out
   rw [List.drop_of_length_le (by rw [HA.out];omega),List.nil_append] at hOW
   have HOW2:=Lib.hid hOW
   clear hv hcc hpow hyt xB hDl hOW HOW HCC HV
   rcases (show r=0\/r=1 by omega) with rfl | rfl
   ·go_wp2_with fail
    refine bR.out _ _ ⟨q,?_,D,by rw [HD.out,HA.out],Dj.out,by have:=HV2.out;omega,.inl ⟨by have:=HV2.out;omega,rfl⟩,HOW2.out,HG.out⟩
    first | rfl | exact oq ab
   ·have hq1:1≤q:=by
     rcases Nat.eq_zero_or_pos q with h | h
     ·have h1:=HV2.out;have h2:=Ku.out;rw [h,Nat.zero_mul] at h1;omega
     ·exact h
    go_wp2_with fail
    rw [show ((0:Nat):Int)=0 from rfl,show ((1:Nat):Int)=1 from rfl]
    obtain ⟨wo,rfl⟩:∃ wo:World,wo=wr:=⟨_,rfl⟩
    go_loopw [13,62] (fun cv kv wr'=>uG wo B g N cap k pre D post ys cv kv wr') (fun _ kv _=>k - (intOf kv).toNat)
    case atStart=>exact ⟨0,0,[],Nat.zero_le _,rfl,rfl,by omega,rfl,cR.nil,by simp [fe],by simpa using HOW2.out,nO _ _⟩
    case round=>
     obtain ⟨l,c,E,hlk,rfl,rfl,jS,hE,hlE,hvE,aJ,hg⟩:=hrel
     have HE:=Lib.hid hE
     have HLE:=Lib.hid hlE
     have HVE:=Lib.hid hvE
     have HOW:=Lib.hid aJ
     have HG2:=Lib.hid hg
     clear hE hlE hvE aJ hg
     by_cases hlt:l < k
     ·obtain ⟨a,ha⟩:∃ a,D[l]? =some a:=⟨_,List.getElem?_eq_getElem (by rw [HD.out];exact hlt)⟩
      have ha4:=Dj.out.at ha
      have HAK:=Lib.hid ha
      have hlN:i + l < N:=by
       have h1:=HOW.out.1
       have h2:=(List.getElem?_eq_some_iff.1 (zJ (post:=post) HP.out HE.out ha)).1
       simp at h1 h2
       omega
      obtain ⟨a',ha',hca,hfa⟩:=Own.iG HOW.out (j:=i + l) hlN
      rw [zJ HP.out HE.out ha] at ha'
      obtain rfl:=Option.some.inj ha'
      have OM:=kA hca
      simp only at OM
      clear ha ha'
      by_cases Kk:l < n
      ·obtain ⟨b2,o2,y,rfl,ba,qd,GN⟩:=((Hs.out.uC HG.out HNE.out).uC HG2.out HNE.out).cellAt Kk
       have Mw:Hid (ys.getD l 0=y):=by show _=_;rw [List.getD,qd];rfl
       have Di:=HLY.out.at qd
       clear qd
       go_wp2_with fail
       refine (ot a y c _ ha4 Di ab).mono ?_
       rintro e w2 ⟨rfl,rfl⟩
       go_wp2_with fail
       go_roundw
       case rel=>exact uG.step hlt HD.out HP.out HE.out HLE.out jS HVE.out HOW.out HG2.out Mw.out HAK.out ha4 Di
       case measure=>simp [intOf];omega
      ·have Mw:Hid (ys.getD l 0=0):=by show _=_;rw [List.getD,List.getElem?_eq_none (by rw [HY.out];omega)];rfl
       go_wp2_with fail
       refine (ot a 0 c _ ha4 ab ab).mono ?_
       rintro e w2 ⟨rfl,rfl⟩
       go_wp2_with fail
       go_roundw
       case rel=>exact uG.step hlt HD.out HP.out HE.out HLE.out jS HVE.out HOW.out HG2.out Mw.out HAK.out ha4 ab
       case measure=>simp [intOf];omega
     ·obtain rfl:l=k:=by omega
      have hve:=HVE.out
      rw [bM (by rw [HD.out];omega),bM (by rw [HY.out,HLL.out];omega)] at hve
      have QR:=ky HLE.out
      rw [HE.out] at QR
      have hOW:=HOW.out
      rw [List.drop_of_length_le (by rw [HD.out];omega),List.nil_append] at hOW
      have hv2:=HV2.out
      have hqb:=HQB.out
      obtain ⟨m,rfl⟩:∃ m,q=m + 1:=⟨q - 1,by omega⟩
      rw [Nat.add_mul,Nat.one_mul] at hv2 hqb
      have hfin:ak E + m * ak ys=ak A:=by
       rcases (show c=0\/c=1 by omega) with rfl | rfl
       ·omega
       ·omega
      have mQ:ak A < (m + 1) * ak ys:=by
       rw [Nat.add_mul,Nat.one_mul]
       have:=Ku.out
       omega
      have HFIN:=Lib.hid hfin
      have HLT2:=Lib.hid mQ
      have HOW3:=Lib.hid hOW
      clear hve QR hOW hv2 hqb hfin mQ
      have hm:((m + 1:Nat):Int) - 1=(m:Int):=by omega
      go_wp2_with fail
      refine bR.out _ _ ⟨m,?_,E,by rw [HE.out,HA.out],HLE.out,HFIN.out,.inr ⟨HLT2.out,rfl⟩,HOW3.out,CF HG.out HG2.out⟩
      first | rfl | exact oq ab
end
section
theorem getD_some {xs:List Nat} {k x:Nat} (h:xs[k]? =some x):xs.getD k 0=x:=by rw [List.getD,h];rfl
theorem OV {A:List Nat} {m a0 a1 a2:Nat} (hl:A.length=m + 3) (h0:A[m]? =some a0) (h1:A[m + 1]? =some a1) (h2:A[m + 2]? =some a2):
  ak A=((a2 * 4294967296 + a1) * 4294967296 + a0) * 4294967296 ^ m + ak (A.take m):=by
 have e0:=bq A m
 have e1:=bq A (m + 1)
 have e2:=bq A (m + 2)
 rw [getD_some h0] at e0
 rw [getD_some h1,e0,Nat.pow_succ] at e1
 rw [getD_some h2,e1,Nat.pow_succ,Nat.pow_succ,bM ab] at e2
 rw [e2]
 generalize 4294967296 ^ m=p
 rw [Nat.add_mul,Nat.add_mul,Nat.add_mul]
 rw [show a2 * 4294967296 * 4294967296 * p=p * 4294967296 * 4294967296 * a2 by ac_rfl]
 rw [show a1 * 4294967296 * p=p * 4294967296 * a1 by rw [Nat.mul_comm p,Nat.mul_comm _ a1,Nat.mul_assoc]]
 rw [Nat.mul_comm a0 p]
 omega
theorem top_two {Y:List Nat} {m v1 v2:Nat} (hl:Y.length=m + 2) (h2:Y[m]? =some v2) (h1:Y[m + 1]? =some v1):ak Y=(v1 * 4294967296 + v2) * 4294967296 ^ m + ak (Y.take m):=by
 have e0:=bq Y m
 have e1:=bq Y (m + 1)
 rw [getD_some h2] at e0
 rw [getD_some h1,e0,Nat.pow_succ,bM ab] at e1
 rw [e1]
 generalize 4294967296 ^ m=p
 rw [Nat.add_mul]
 rw [show v1 * 4294967296 * p=p * 4294967296 * v1 by rw [Nat.mul_comm p,Nat.mul_comm _ v1,Nat.mul_assoc]]
 rw [Nat.mul_comm v2 p]
 omega
theorem qQ {xs:List Nat} (h:cR xs) {m:Nat} (hm:m≤xs.length):ak (xs.take m) < 4294967296 ^ m:=by
 have:=ky (h.take m)
 rwa [List.length_take,Nat.min_eq_left hm] at this
structure Window (us ys:List Nat) (i m b hi mid low v1 v2:Nat) (A post:List Nat):Prop where
 split:us=us.take i++(A++post)
 pre:(us.take i).length=i
 len:A.length=m + 3
 lim:cR A
 zero:ak post=0
 lt:ak A < 4294967296 * b
 hi_le:hi≤v1
 near:ak A / b≤jb ((hi * 4294967296 + mid) * 4294967296 + low) (v1 * 4294967296 + v2)/\jb ((hi * 4294967296 + mid) * 4294967296 + low) (v1 * 4294967296 + v2)≤ak A / b + 1
theorem OW {us ys:List Nat} {i m b hi mid low v1 v2 N:Nat} (hN:us.length=N) (hlt:i + (m + 2) < N) (hu:cR us) (hy:cR ys) (kD:ys.length=m + 2) (hb:ak ys=b) (hd:ak (us.drop (i + 1)) < b)
  (h1:us[i + (m + 2)]? =some hi) (h2:us[i + (m + 1)]? =some mid) (h3:us[i + m]? =some low) (h4:ys[m + 1]? =some v1) (h5:ys[m]? =some v2) (Gs:0 < v1):
  Window us ys i m b hi mid low v1 v2 ((us.drop i).take (m + 3)) (us.drop (i + (m + 3))):=by
 have hA:((us.drop i).take (m + 3)).length=m + 3:=by rw [List.length_take,List.length_drop];omega
 have hlA:cR ((us.drop i).take (m + 3)):=(hu.drop i).take _
 have hsp:us.drop i=(us.drop i).take (m + 3)++us.drop (i + (m + 3)):=by
  rw [<-List.drop_drop];exact (List.take_append_drop _ _).symm
 have g0:((us.drop i).take (m + 3))[m]? =some low:=by rw [List.getElem?_take,if_pos ab,List.getElem?_drop];exact h3
 have g1:((us.drop i).take (m + 3))[m + 1]? =some mid:=by rw [List.getElem?_take,if_pos ab,List.getElem?_drop];exact h2
 have g2:((us.drop i).take (m + 3))[m + 2]? =some hi:=by rw [List.getElem?_take,if_pos ab,List.getElem?_drop];exact h1
 have hyp:b < 4294967296 ^ (m + 2):=by rw [<-hb,<-kD];exact ky hy
 have hz:ak (us.drop (i + (m + 3)))=0:=by
  have e:=AD (xs:=us.drop (i + 1)) (m + 2) (by rw [List.length_drop];omega)
  rw [List.drop_drop,show i + 1 + (m + 2)=i + (m + 3) by omega] at e
  rcases Nat.eq_zero_or_pos (ak (us.drop (i + (m + 3)))) with h | h
  ·exact h
  ·have:4294967296 ^ (m + 2) * 1≤4294967296 ^ (m + 2) * ak (us.drop (i + (m + 3))):=Nat.mul_le_mul_left _ h
   omega
 have hAv:ak (us.drop i)=ak ((us.drop i).take (m + 3)):=by
  conv=>lhs;rw [hsp]
  rw [ff,hz,Nat.mul_zero,Nat.add_zero]
 obtain ⟨u0,hu0⟩:∃ u0,us[i]? =some u0:=⟨_,List.getElem?_eq_getElem ab⟩
 have hu04:=hu.at hu0
 have RD:ak ((us.drop i).take (m + 3)) < 4294967296 * b:=by
  rw [<-hAv,sQ hu0]
  omega
 have eA:=OV hA g0 g1 g2
 have eY:=top_two kD h5 h4
 rw [hb] at eY
 have lA:=qQ hlA (m:=m) ab
 have lY:=qQ hy (m:=m) ab
 have hp:0 < 4294967296 ^ m:=Nat.pow_pos ab
 refine ⟨?_,by rw [List.length_take];omega,hA,hlA,hz,RD,?_,Kq hp eA lA eY lY ab RD⟩
 ·rw [<-hsp];exact (List.take_append_drop _ _).symm
 ·-- hi≤v1
  rcases Nat.lt_or_ge v1 hi with h | h
  ·have k1:ak (us.drop (i + 1))=ak ((us.drop (i + 1)).take (m + 1)) + 4294967296 ^ (m + 1) * ak ((us.drop (i + 1)).drop (m + 1)):=AD _ (by rw [List.length_drop];omega)
   rw [List.drop_drop,show i + 1 + (m + 1)=i + (m + 2) by omega,sQ h1] at k1
   have hv2:=hy.at h5
   have k2:4294967296 ^ (m + 1) * hi≤ak (us.drop (i + 1)):=by
    rw [k1,Nat.mul_add];omega
   have k3:b < 4294967296 ^ (m + 1) * (v1 + 1):=by
    rw [eY,Nat.pow_succ]
    have k4:(v1 * 4294967296 + v2 + 1) * 4294967296 ^ m≤((v1 + 1) * 4294967296) * 4294967296 ^ m:=Nat.mul_le_mul_right _ ab
    rw [show 4294967296 ^ m * 4294967296 * (v1 + 1)=((v1 + 1) * 4294967296) * 4294967296 ^ m by rw [Nat.mul_comm,Nat.mul_comm (4294967296 ^ m),Nat.mul_assoc]]
    rw [Nat.add_mul,Nat.one_mul] at k4
    omega
   have k5:4294967296 ^ (m + 1) * (v1 + 1)≤4294967296 ^ (m + 1) * hi:=Nat.mul_le_mul_left _ h
   omega
  ·exact h
theorem Kv {u b q q' r:Nat} (hb:0 < b) (h1:u / b≤q) (h2:q≤u / b + 1) (hv:r + q' * b=u) (h:q * b≤u/\q'=q\/u < q * b/\q' + 1=q):q'=u / b/\r < b:=by
 have hq:q'=u / b:=by
  rcases h with ⟨h3,rfl⟩ | ⟨h3,h4⟩
  ·have:=(Nat.le_div_iff_mul_le hb).2 h3;omega
  ·have:¬ q≤u / b:=fun hc=>by have:=(Nat.le_div_iff_mul_le hb).1 hc;omega
   omega
 refine ⟨hq,?_⟩
 have e:=Nat.div_add_mod u b
 have m:=Nat.mod_lt u hb
 rw [Nat.mul_comm,<-hq] at e
 omega
theorem Hf {u b q:Nat} (h:q≤u / b + 1):q * b≤u + b:=by
 have h1:q * b≤(u / b + 1) * b:=Nat.mul_le_mul_right _ h
 have h2:=Nat.div_mul_le_self u b
 rw [Nat.add_mul,Nat.one_mul] at h1
 omega
theorem Kw {us pre A A' post qs:List Nat} {i b q' a:Nat} (hsp:us=pre++(A++post)) (uF:pre.length=i) (hz:ak post=0) (hv:ak A' + q' * b=ak A) (hlt:ak A' < b)
  (ha:ak us + 4294967296 ^ (i + 1) * (b * ak qs)=a):
  ak ((pre++(A'++post)).drop i) < b/\ak (pre++(A'++post)) + 4294967296 ^ i * (b * ak (q'::qs))=a:=by
 subst hsp
 constructor
 ·rw [List.drop_append_of_le_length ab,List.drop_of_length_le ab,List.nil_append,ff,hz,Nat.mul_zero,Nat.add_zero];exact hlt
 ·rw [ff,ff,hz,Nat.mul_zero,Nat.add_zero] at ha
  rw [ff,ff,hz,Nat.mul_zero,Nat.add_zero,gw,<-ha,<-hv,uF,Nat.mul_add b,Nat.mul_add,Nat.mul_add,Nat.pow_succ]
  rw [Nat.mul_comm q' b,show 4294967296 ^ i * (b * (4294967296 * ak qs))=4294967296 ^ i * 4294967296 * (b * ak qs) by rw [Nat.mul_assoc,Nat.mul_left_comm b]]
  omega
theorem EF {qs:List Nat} {k x:Nat}:(List.replicate (k + 1) 0++qs).set k x=List.replicate k 0++x::qs:=by
 rw [List.replicate_succ',List.append_assoc,List.set_append_right _ _ cw,List.length_replicate,Nat.sub_self];rfl
theorem Hg {b t u:Nat} (hb:b≠0) (ht:(limbs b)[(limbs b).length - 1]? =some t) (hu:u < 32) (htu:t * 2 ^ u < 4294967296):(limbs (b * 2 ^ u)).length=(limbs b).length:=by
 have hn:=dZ hb
 have hp:0 < 2 ^ u:=Nat.pow_pos ab
 refine Nat.le_antisymm (ll _ _ ?_) (dk (Nat.le_mul_of_pos_right _ hp))
 obtain ⟨n,hl⟩:∃ n,(limbs b).length=n + 1:=⟨(limbs b).length - 1,by omega⟩
 rw [hl] at ht ⊢
 simp only [Nat.add_sub_cancel] at ht
 have e:=bq (limbs b) n
 rw [getD_some ht,bM ab,aq] at e
 have l:=qQ (az b) (m:=n) ab
 have h1:b < 4294967296 ^ n * (t + 1):=by rw [Nat.mul_add];omega
 have h2:(t + 1) * 2 ^ u≤4294967296:=by
  have h3:4294967296=2 ^ u * 2 ^ (32 - u):=by rw [<-Nat.pow_add,show u + (32 - u)=32 by omega]
  rw [h3,Nat.mul_comm t] at htu
  have h4:=Nat.lt_of_mul_lt_mul_left htu
  rw [Nat.mul_comm]
  calc 2 ^ u * (t + 1)≤2 ^ u * 2 ^ (32 - u):=Nat.mul_le_mul_left _ h4
   _=4294967296:=h3.symm
 have h5:b * 2 ^ u < 4294967296 ^ n * (t + 1) * 2 ^ u:=Nat.mul_lt_mul_of_pos_right h1 hp
 have h6:4294967296 ^ n * (t + 1) * 2 ^ u≤4294967296 ^ n * 4294967296:=by rw [Nat.mul_assoc];exact Nat.mul_le_mul_left _ h2
 rw [Nat.pow_succ]
 omega
theorem OX {a b u:Nat}:(a * 2 ^ u) / (b * 2 ^ u)=a / b:=Nat.mul_div_mul_right a b (Nat.pow_pos ab)
theorem OY {a b u:Nat}:(a * 2 ^ u) % (b * 2 ^ u)=(a % b) * 2 ^ u:=Nat.mul_mod_mul_right (2 ^ u) a b
end
section
open Go.RowKit
def Divided (w w':World) (a b:Nat) (e:Ending):Prop:=
 (b=0/\e=.returned (.tuple #[.slice none 0 0,.slice none 0 0,.int .i64 20]))\/
 (b≠0/\∃ vq vr,e=.returned (.tuple #[vq,vr,.int .i64 0])/\w'.ownsRow w.heap.size 117 1 vq (limbs (a / b)).length (ints .u32 (limbs (a / b)))/\w'.ownsRow w.heap.size 117 1 vr (limbs (a % b)).length (ints .u32 (limbs (a % b))))
def RE (w:World) (B N cap n m b a ga:Nat) (vy vq:Value) (iv:Value) (wr:World):Prop:=
 ∃ (k:Nat) (us qs:List Nat),k≤m/\iv=.int .i64 ((k:Int) - 1)/\us.length=N/\cR us/\ak (us.drop k) < b/\qs.length=m - k/\cR qs/\ak us + 4294967296 ^ k * (b * ak qs)=a/\
   wr.ownsRow B 117 1 (.slice (some ⟨ga,0,none⟩) N cap) N (ints .u32 us)/\wr.ownsRow B 117 1 vq m (ints .u32 (List.replicate k 0++qs))/\Rd wr 1 vy n (ints .u32 (limbs b))/\Below B w wr
theorem AK {w:World} {g j:Nat} {u:Value}:w.grownBy (w.setCell ⟨g,j,none⟩ u) (some g):=pt (nO _ _)
theorem Ky {P:Program} {f:FuncId} {args:Array Value} {W w:World} {v:Value} (h:Calls P f args W fun e w'=>e=.returned v/\∃ k,w'=W.drewN k) (hW:∃ n,W=w.drewN n):
  Calls P f args W fun e w''=>e=.returned v/\∃ m,w''=w.drewN m:=
 h.mono fun _ _ ⟨he,k,hk⟩=>⟨he,by obtain ⟨n,hn⟩:=hW;exact ⟨n + k,by rw [hk,hn,World.drewN_drewN]⟩⟩
theorem Kz {w w':World} (h:w.grownBy w' none):Below w.heap.size w w':=⟨h.os,h.tape,h.output,h.size,fun k hk=>h.block k hk cw⟩
theorem OZ {a b N mq lb:Nat} (hN:N=(limbs a).length + 1) (hm:N=mq + lb) (JY:(limbs b).length=lb) (hb:b≠0):ak ((limbs a++[0]).drop mq) < b/\ak (limbs a++[0])=a:=by
 have hp:=dZ hb
 refine ⟨?_,by rw [eK,Nat.mul_zero,aq];rfl⟩
 rw [List.drop_append_of_le_length ab,eK,Nat.mul_zero,Nat.add_zero]
 have h1:=ky ((az a).drop mq)
 rw [List.length_drop,show (limbs a).length - mq=(limbs b).length - 1 by omega] at h1
 exact Nat.lt_of_lt_of_le h1 (Ev hb)
set_option maxRecDepth 100000 in
theorem xC (va vb:Value) (n m:Nat) (xs ys:List Nat) (w:World) (hr:Rd w 1 va n (ints .u32 xs)) (hs:Rd w 1 vb m (ints .u32 ys)) (hx:cR xs) (hy:cR ys) (hn:n≤536870912) (hm:m≤536870912):
  Calls Tryz.prog 135 #[va,vb] w fun e w'=>Divided w w' (ak xs) (ak ys) e/\Below w.heap.size w w':=by
 obtain ⟨p,c,rfl,fE,fX,fA⟩:=hr.u32
 obtain ⟨q,d,rfl,OK,JX,kD⟩:=hs.u32
 have Hs:=Lib.hid hs
 obtain ⟨B,hB⟩:∃ B,B=w.heap.size:=⟨_,rfl⟩
 have HB:=Lib.hid hB
 obtain ⟨a,ha⟩:∃ a,a=ak xs:=⟨_,rfl⟩
 obtain ⟨b,hb⟩:∃ b,b=ak ys:=⟨_,rfl⟩
 have hal:(limbs a).length≤n:=by rw [ha,<-fA];exact jz hx
 have hbl:(limbs b).length≤m:=by rw [hb,<-kD];exact jz hy
 refine aY fun R' bR=> ?_
 go_enter Tryz.func135,Tryz.ntmps135
 go_wp2_with fail
 refine (kQ _ n xs _ hr hx ab).mono ?_
 rintro e w1 ⟨v1,rfl,gI,aI⟩
 rw [<-ha] at gI
 go_wp2_with fail
 refine (kQ _ m ys _ (hs.below aI) hy ab).mono ?_
 rintro e w2 ⟨v2,rfl,mv,ba⟩
 rw [<-hb] at mv
 rw [<-ha,<-hb,<-hB] at bR
 have uf:Hid (w2.ownsRow B 117 1 v1 (limbs a).length (ints .u32 (limbs a))):=by show World.ownsRow ..;rw [hB];exact Own.below gI ba
 have qe:Hid (w2.ownsRow B 117 1 v2 (limbs b).length (ints .u32 (limbs b))):=Own.mono mv (by rw [hB];exact aI.size)
 have xD:Hid (Below B w w2):=by show Below ..;rw [hB];exact Below.aN aI ba
 have hBs:B≤w2.heap.size:=by rw [hB];exact xD.out.size
 obtain ⟨p1,c1,rfl,_,hc1m,_⟩:=Own.form uf.out
 obtain ⟨p2,c2,rfl,_,hc2m,_⟩:=Own.form qe.out
 clear hr hs hx hy gI mv aI ba fA kD ha hb hB Hs
 unfold maxLen at hc1m hc2m
 generalize QS:(limbs a).length=la at *
 generalize JY:(limbs b).length=lb at *
 have QQ:=Lib.hid QS
 have QT:=Lib.hid JY
 by_cases ou:b=0
 ·obtain rfl:lb=0:=by rw [ou,bV] at JY;exact JY.symm
  clear QS JY
  go_wp2_with fail
  go_ret3
  exact bR.out _ _ ⟨.inl ⟨ou,rfl⟩,xD.out⟩
 ·have hlb0:lb≠0:=fun h=>ou (qM (by rw [QT.out];exact h))
  have hz:((lb:Int) == 0)=false:=by rw [beq_eq_false_iff_ne];omega
  have HNZ:=Lib.hid ou
  clear ou QS JY
  go_wp2_with fail
  refine (Ew _ _ la lb (limbs a) (limbs b) _ (Rd.own uf.out) (Rd.own qe.out) (az a) (az b)).mono ?_
  rintro e w3 ⟨rfl,k3,rfl⟩
  rw [aq,aq]
  by_cases zA:a < b
  ·have hc:ib a b < 0:=kO.2 zA
   generalize ib a b=cv at hc ⊢
   go_wp2_with fail
   go_ret3
   refine bR.out _ _ ⟨.inr ⟨HNZ.out,_,_,rfl,?_,?_⟩,Below.drewN xD.out _⟩
   ·rw [Nat.div_eq_of_lt zA,bV];exact World.ownsRow_nil _ _ _ _
   ·rw [Nat.mod_eq_of_lt zA,QQ.out];exact Own.mono (Own.drewN uf.out _) (by have:=HB.out;omega)
  ·have hc:0≤ib a b:=by have:=mt (@kO a b).1 zA;omega
   generalize ib a b=cv at hc ⊢
   have HAB:=Lib.hid zA
   have Rs:=Lib.hid (Own.drewN uf.out k3)
   have Pa:=Lib.hid (Own.drewN qe.out k3)
   have QP:=Lib.hid (Below.drewN xD.out k3)
   have RF:B≤(w2.drewN k3).heap.size:=hBs
   clear uf qe xD hBs zA
   generalize w2.drewN k3=w3 at *
   by_cases hlb1:lb=1
   ·have HL1:=Lib.hid hlb1
    subst hlb1
    obtain ⟨gb,ob,t,rfl,_,htk,hct⟩:=(Rd.own Pa.out).cellAt (k:=0) ab
    have ht4:=(az b).at htk
    have htb:t=b:=by
     have h1:=bq (limbs b) 0
     rw [getD_some htk,bM (by rw [QT.out];omega),aq] at h1
     simp [fe] at h1
     omega
    have HTB:=Lib.hid htb
    rw [Nat.add_zero] at hct
    have OM:=kA hct
    simp only at OM
    clear htk htb hz hlb0
    go_wp2_with fail
    refine (uy _ la t (limbs a) _ (Rd.own Rs.out) (az a) ab ht4).mono ?_
    rintro e w4 ⟨⟨h,rfl⟩ | ⟨h,v4,rfl,uH⟩,fq⟩
    ·exact absurd (by rw [<-HTB.out];exact h) HNZ.out
    rw [aq] at uH ⊢
    have HO5:=Lib.hid (Own.mono uH RF)
    have RG:=Lib.hid (QP.out.trans (fq.mono RF))
    have Pb:B≤w4.heap.size:=Nat.le_trans RF fq.size
    have hrt:a % t < 4294967296:=Nat.lt_trans (Nat.mod_lt _ ab) ht4
    obtain ⟨r,hr⟩:∃ r,r=a % t:=⟨_,rfl⟩
    rw [<-hr] at hrt ⊢
    have HR:=Lib.hid hr
    clear uH fq hct OM h hr
    go_wp2_with fail
    refine (kQ _ 1 [r] _ (Rd.lit1 rfl) (cR.cons hrt cR.nil) ab).mono ?_
    rintro e w5 ⟨v5,rfl,AM,hbx⟩
    have eP:Below w4.heap.size w4 w5:=((Below.refl w4.heap.size w4).alloc (Nat.le_refl _) (.cells #[.int .u32 (r:Int)] 117)).trans (hbx.mono cw)
    rw [show ak [r]=r by simp [gw,fe]] at AM
    go_wp2_with fail
    go_ret3
    refine bR.out _ _ ⟨.inr ⟨HNZ.out,_,_,rfl,?_,?_⟩,RG.out.trans (eP.mono Pb)⟩
    ·rw [<-HTB.out];exact Own.mono (Own.below HO5.out eP) (by have:=HB.out;omega)
    ·rw [<-HTB.out,<-HR.out];exact Own.mono AM (by have:=HB.out;simp;omega)
   ·obtain ⟨mm,Dp⟩:∃ mm,lb=mm + 2:=⟨lb - 2,by omega⟩
    have HMM:=Lib.hid Dp
    have gC:((lb:Int) == 1)=false:=by rw [beq_eq_false_iff_ne];omega
    obtain ⟨l1,CE⟩:∃ l1,lb=l1 + 1:=⟨lb - 1,by omega⟩
    have HL1:=Lib.hid CE
    have hwl1:IntKind.i64.wrap ((lb:Int) - 1)=(l1:Int):=by rw [IntWalk.i64_in _ ab];omega
    obtain ⟨gb,ob,t,rfl,_,htk,hct⟩:=(Rd.own Pa.out).cellAt (k:=l1) ab
    have ht4:=(az b).at htk
    have OM:=kA hct
    simp only at OM
    have htk2:(limbs b)[(limbs b).length - 1]? =some t:=by rw [QT.out,HL1.out];exact htk
    have ht0:=(GJ htk2).2
    have HTK:=Lib.hid htk2
    have hl1lt:(l1:Int) < (lb:Int):=by omega
    clear htk htk2 hlb1 Dp CE
    go_wp2_with fail
    refine (GU t _ ht4 ht0).mono ?_
    rintro e w4 ⟨⟨u,rfl,hu32,htu⟩,rfl⟩
    go_wp2_with fail
    refine (wx _ lb b (u:Int) (limbs b) _ (Rd.own Pa.out) (az b) (aq b) ab ab ab).mono ?_
    rintro e w4 ⟨⟨_,h,_⟩ | ⟨_,v4,rfl,uH⟩,fq⟩
    ·omega
    have es:ir b (u:Int)=b * 2 ^ u:=by unfold ir;rw [if_pos ab,Int.toNat_natCast]
    rw [es] at uH
    have MA:(limbs (b * 2 ^ u)).length=lb:=by rw [Hg HNZ.out HTK.out hu32 htu];exact QT.out
    have og:b * 2 ^ u≠0:=Nat.mul_ne_zero HNZ.out (Nat.pos_iff_ne_zero.1 (Nat.pow_pos ab))
    have hle4:b * 2 ^ u≤a * 2 ^ u:=Nat.mul_le_mul_right _ (by have:=HAB.out;omega)
    have HDV:=Lib.hid (OX (a:=a) (b:=b) (u:=u))
    have HMD:=Lib.hid (OY (a:=a) (b:=b) (u:=u))
    have hla5:=xA a u hu32
    rw [QQ.out] at hla5
    have HES:Hid (ir ((a % b) * 2 ^ u) (-(u:Int))=a % b):=by
     show _=_
     unfold ir
     by_cases h0:u=0
     ·subst h0;simp
     ·rw [if_neg ab,Int.neg_neg,Int.toNat_natCast,Nat.mul_div_cancel _ (Nat.pow_pos ab)]
    have HES2:Hid (ir a (u:Int)=a * 2 ^ u):=by show _=_;unfold ir;rw [if_pos ab,Int.toNat_natCast]
    generalize Cs:b * 2 ^ u=b' at *
    generalize ha':a * 2 ^ u=a' at *
    rw [MA] at uH
    have hlb5:lb≤(limbs a').length:=by rw [<-MA];exact dk hle4
    obtain ⟨gy,cy,rfl,hgy3,hgy4⟩:=Own.zD uH ab
    have HY4:=Lib.hid uH
    have RG:=Lib.hid (QP.out.trans (fq.mono RF))
    have Pb:B≤w4.heap.size:=Nat.le_trans RF fq.size
    have HA4:=Lib.hid (Own.below Rs.out fq)
    have Hh:=Lib.hid MA
    clear uH fq htu ht0 ht4 hct OM MA hle4 es HTK Rs Pa
    go_wp2_with fail
    refine (wx _ la a (u:Int) (limbs a) _ (Rd.own HA4.out) (az a) (aq a) ab ab ab).mono ?_
    rintro e w5 ⟨⟨_,h,_⟩ | ⟨_,v5,rfl,AM⟩,eP⟩
    ·omega
    rw [HES2.out] at AM
    generalize hl5:(limbs a').length=la' at *
    have HL5:=Lib.hid hl5
    have HA5:=Lib.hid AM
    have HY5:=Lib.hid (Own.below HY4.out eP)
    have HB5:=Lib.hid (RG.out.trans (eP.mono Pb))
    have hs5:=eP.size
    have RH:=Lib.hid eP
    obtain ⟨p5,c5,rfl,_,_,_⟩:=Own.form AM
    obtain ⟨N,hN⟩:∃ N,N=la' + 1:=⟨_,rfl⟩
    have HNN:=Lib.hid hN
    obtain ⟨mq,hmq⟩:∃ mq,N=mq + lb:=⟨N - lb,by omega⟩
    have HMQ:=Lib.hid hmq
    have hmq0:0 < mq:=by omega
    have hwm:IntKind.i64.wrap ((N:Int) - (lb:Int))=(mq:Int):=by rw [IntWalk.i64_in _ ab];omega
    obtain ⟨i0,hi,jB,gC,mO⟩:=info_parts kC
    have hN30:N≤1073741824:=by omega
    have hla30:la'≤1073741824:=by omega
    have hmq30:mq≤1073741824:=by omega
    clear AM eP hl5 hmq HA4 hN
    go_wp2_with (first
     | (at_builtin;refine er rfl _ _ 22 rfl w4.heap.size 117 i0 (.int .u32 0) 4 Tryz.underlying22 hi jB gC mO rfl HA5.out rfl rfl (d:=0) rfl ab ab hs5 ?_;intro v6 w6 MB KA;rw [<-HNN.out] at MB;obtain ⟨ga,ca,rfl,hga5,hga6⟩:=Own.zD MB (by have:=HNN.out;omega))
     | (at_make;refine wpList_make_full _ rfl _ _ 22 rfl B 117 i0 (.int .u32 0) 1 Tryz.underlying22 hi jB gC .i64 .i64 _ _ mq rfl rfl (by have:=HMQ.out;omega) (by have:=HMQ.out;omega) (by rw [mO];have:=HMQ.out;omega) (by unfold maxLen;have:=HMQ.out;omega) (by have:=(KA w4 RH.out).size;omega) ?_;intro w7 hown7 hgr7))
    obtain ⟨gq,hgq⟩:∃ gq,gq=w6.heap.size:=⟨_,rfl⟩
    have RI:=KA w4 RH.out
    have hb67:=Kz hgr7
    have MC:=Own.made hown7
    rw [List.nil_append] at MC
    rw [<-hgq] at MC ⊢
    have hne1:ga≠gq:=by omega
    have hne2:gy≠ga:=by omega
    have hne3:gy≠gq:=by have:=RI.size;omega
    have HA7:Hid (w7.ownsRow B 117 1 (.slice (some ⟨ga,0,none⟩) N ca) N (ints .u32 (limbs a'++[0]))):=Own.mono (Own.below MB hb67) Pb
    have HQ7:=Lib.hid MC
    have HY7:Hid (Rd w7 1 (.slice (some ⟨gy,0,none⟩) lb cy) lb (ints .u32 (limbs b'))):=(Rd.own (Own.below HY4.out RI)).below hb67
    have HB7:Hid (Below B w w7):=(RG.out.trans (RI.mono Pb)).trans (hb67.mono (Nat.le_trans Pb RI.size))
    have HST:=Lib.hid (OZ (N:=N) (mq:=mq) (lb:=lb) (a:=a') (b:=b') (by rw [HL5.out];exact HNN.out) HMQ.out Hh.out og)
    clear MB hown7 hgr7 KA RI hb67 MC hgq HA5 HY5 HY4 HB5 RG RH hi jB gC mO
    go_loopw [12] (fun iv wr=>RE w B N ca lb mq b' a' ga (.slice (some ⟨gy,0,none⟩) lb cy) (.slice (some ⟨gq,0,none⟩) mq mq) iv wr) (fun iv _=>(intOf iv + 1).toNat)
    case atStart=>exact ⟨mq,_,[],Nat.le_refl _,rfl,by rw [List.length_append,HL5.out,HNN.out];rfl,(az a').append (cR.cons ab cR.nil),HST.out.1,by simp,cR.nil,by rw [HST.out.2];simp [fe],HA7.out,by simpa using HQ7.out,HY7.out,HB7.out⟩
    case round=>
     obtain ⟨k,us,qs,Km,rfl,MD,hulim,GO,CG,hqlim,hval,hoa,Hi,hry,lX⟩:=hrel
     have HUL:=Lib.hid MD
     have AO:=Lib.hid hulim
     have HDROP:=Lib.hid GO
     have HQL:=Lib.hid CG
     have HQLIM:=Lib.hid hqlim
     have HVAL:=Lib.hid hval
     have HOA:=Lib.hid hoa
     have HOQ:=Lib.hid Hi
     have HRY:=Lib.hid hry
     have iQ:=Lib.hid lX
     clear MD hulim GO CG hqlim hval hoa Hi hry lX
     by_cases AA:k=0
     ·subst AA
      have hv:=HVAL.out
      have hd:=HDROP.out
      rw [List.drop_zero] at hd
      rw [Nat.pow_zero,Nat.one_mul] at hv
      have hq1:ak qs=a / b:=by
       rw [<-HDV.out,<-hv,Nat.add_mul_div_left _ _ ab,Nat.div_eq_of_lt hd,Nat.zero_add]
      have jA:ak us=(a % b) * 2 ^ u:=by
       rw [<-HMD.out,<-hv,Nat.add_mul_mod_self_left,Nat.mod_eq_of_lt hd]
      have HQ1:=Lib.hid hq1
      have HR1:=Lib.hid jA
      have hBr:B≤w.heap.size:=by have:=HB.out;omega
      have hBw:=iQ.out.size
      clear hv hd hq1 jA
      go_wp2_with fail
      refine (wx _ N ((a % b) * 2 ^ u) (-(u:Int)) us _ (Rd.own HOA.out) AO.out HR1.out ab ab ab).mono ?_
      rintro e w8 ⟨⟨_,h,_⟩ | ⟨_,v8,rfl,Dq⟩,qf⟩
      ·omega
      rw [HES.out] at Dq
      have HO8:=Lib.hid (Own.mono Dq (Nat.le_trans hBr hBw))
      have HB8:=Lib.hid (iQ.out.trans (qf.mono (Nat.le_trans hBr hBw)))
      have hq8:=Own.below HOQ.out qf
      rw [List.replicate_zero,List.nil_append] at hq8
      have HQ8:=Lib.hid hq8
      have hs8:=qf.size
      clear Dq qf hq8
      go_wp2_with fail
      refine (kQ _ mq qs _ (Rd.own HQ8.out) HQLIM.out ab).mono ?_
      rintro e w9 ⟨v9,rfl,hown9,ME⟩
      rw [HQ1.out] at hown9
      go_wp2_with fail
      go_ret3
      refine bR.out _ _ ⟨.inr ⟨HNZ.out,_,_,rfl,?_,?_⟩,HB8.out.trans (ME.mono ab)⟩
      ·exact Own.mono hown9 ab
      ·exact Own.mono (Own.below HO8.out ME) (by have:=HB.out;omega)
     ·obtain ⟨i,hi⟩:∃ i,k=i + 1:=⟨k - 1,by omega⟩
      subst hi
      have hjj:((i + 1:Nat):Int) - 1=(i:Int):=by omega
      rw [hjj]
      have hmq:=HMQ.out
      have Dp:=HMM.out
      have CE:=HL1.out
      obtain ⟨hi,h1⟩:∃ hi,us[i + (mm + 2)]? =some hi:=⟨_,List.getElem?_eq_getElem (by rw [HUL.out];omega)⟩
      obtain ⟨mid,h2⟩:∃ mid,us[i + (mm + 1)]? =some mid:=⟨_,List.getElem?_eq_getElem (by rw [HUL.out];omega)⟩
      obtain ⟨low,h3⟩:∃ low,us[i + mm]? =some low:=⟨_,List.getElem?_eq_getElem (by rw [HUL.out];omega)⟩
      obtain ⟨v1,h4⟩:∃ v1,(limbs b')[mm + 1]? =some v1:=⟨_,List.getElem?_eq_getElem (by rw [Hh.out];omega)⟩
      obtain ⟨v2,h5⟩:∃ v2,(limbs b')[mm]? =some v2:=⟨_,List.getElem?_eq_getElem (by rw [Hh.out];omega)⟩
      have Gs:0 < v1:=Nat.pos_iff_ne_zero.2 (GJ (n:=b') (t:=v1) (by rw [Hh.out,show lb - 1=mm + 1 by omega];exact h4)).2
      have hwin:=OW (m:=mm) HUL.out ab AO.out (az b') (by rw [Hh.out];exact Dp) (aq b') HDROP.out h1 h2 h3 h4 h5 Gs
      have EG:=Lib.hid hwin
      have hhi:=hwin.hi_le
      have z1:=AO.out.at h1
      have z2:=AO.out.at h2
      have z3:=AO.out.at h3
      have z4:=(az b').at h4
      have z5:=(az b').at h5
      obtain ⟨x1,e1,c1',f1⟩:=Own.iG HOA.out (j:=i + (mm + 2)) ab
      obtain ⟨x2,e2,c2',f2⟩:=Own.iG HOA.out (j:=i + (mm + 1)) ab
      obtain ⟨x3,e3,qF,f3⟩:=Own.iG HOA.out (j:=i + mm) ab
      rw [h1] at e1;rw [h2] at e2;rw [h3] at e3
      obtain rfl:=Option.some.inj e1
      obtain rfl:=Option.some.inj e2
      obtain rfl:=Option.some.inj e3
      obtain ⟨g4,o4,x4,hp4,hg4,e4,c4'⟩:=HRY.out.cellAt (k:=mm + 1) ab
      obtain ⟨g5,o5,x5,hp5,Ka,e5,c5'⟩:=HRY.out.cellAt (k:=mm) ab
      simp only [Option.some.injEq,Addr.mk.injEq,and_true] at hp4 hp5
      obtain ⟨rfl,rfl⟩:=hp4
      obtain ⟨rfl,hz5⟩:=hp5
      subst hz5
      rw [h4] at e4;rw [h5] at e5
      obtain rfl:=Option.some.inj e4
      obtain rfl:=Option.some.inj e5
      rw [Nat.zero_add] at c4' c5'
      obtain ⟨J0,hJ0⟩:∃ J0,J0=i + (mm + 2):=⟨_,rfl⟩
      obtain ⟨J1,hJ1⟩:∃ J1,J1=i + (mm + 1):=⟨_,rfl⟩
      obtain ⟨J2,hJ2⟩:∃ J2,J2=i + mm:=⟨_,rfl⟩
      rw [<-hJ0] at c1' f1;rw [<-hJ1] at c2' f2;rw [<-hJ2] at qF f3
      rw [show mm + 1=l1 by omega] at c4'
      obtain ⟨J3,hJ3⟩:∃ J3,J3=J0 + 1:=⟨_,rfl⟩
      have hw0:IntKind.i64.wrap ((i:Int) + (lb:Int))=(J0:Int):=by rw [IntWalk.i64_in _ ab];omega
      have zH:IntKind.i64.wrap ((J0:Int) - 1)=(J1:Int):=by rw [IntWalk.i64_in _ ab];omega
      have hw2:IntKind.i64.wrap ((J0:Int) - 2)=(J2:Int):=by rw [IntWalk.i64_in _ ab];omega
      have hw4:IntKind.i64.wrap ((lb:Int) - 2)=(mm:Int):=by rw [IntWalk.i64_in _ ab];omega
      have hw5:IntKind.i64.wrap ((J0:Int) + 1)=(J3:Int):=by rw [IntWalk.i64_in _ ab];omega
      have b0:(J0:Int) < (N:Int):=by omega
      have b1:(J1:Int) < (N:Int):=by omega
      have b2:(J2:Int) < (N:Int):=by omega
      have b3:(l1:Int) < (lb:Int):=by omega
      have b4:(mm:Int) < (lb:Int):=by omega
      have t1:=kA c1'
      have t4:=kA c4'
      simp only at t1 t4
      have HJ0:=Lib.hid hJ0
      have HJ3:=Lib.hid hJ3
      have Ks:i < mq:=by omega
      have HCAP:Hid (N≤ca/\ca≤9223372036854775807):=by
       obtain ⟨_,_,hv,hcap,hcapm,_⟩:=Own.form HOA.out
       simp only [Value.slice.injEq,true_and] at hv
       obtain ⟨_,rfl⟩:=hv
       unfold maxLen at hcapm
       exact ⟨hcap,by omega⟩
      clear e1 e2 e3 e4 e5 h1 h2 h3 h4 h5 hwin hJ0 hJ1 hJ2 hJ3 hmq Dp CE hg4 Ka
      go_wp2_with fail
      go_quiet ((go_at_call 146;exact Ky (OU hi mid low v1 v2 _ hhi z2 z3 Gs z4 z5) ⟨_,rfl⟩))
      have hcap:=HCAP.out
      have b5:(J3:Int)≤(ca:Int):=by have:=HJ3.out;omega
      have b6:(i:Int)≤(J3:Int):=by have:=HJ3.out;have:=HJ0.out;omega
      have b7:(i:Int) < (ca:Int):=by have:=HJ3.out;have:=HJ0.out;omega
      have b8:¬ ca - i=0:=by omega
      have b9:ca≠i:=by omega
      clear c1' c2' qF c4' c5' f1 f2 f3 zH hw2 hw4 b1 b2 b3 b4
      go_wp2_with fail
      obtain ⟨G,hG⟩:∃ G,G=jb ((hi * 4294967296 + mid) * 4294967296 + low) (v1 * 4294967296 + v2):=⟨_,rfl⟩
      have Hj:=EG.out.near
      rw [<-hG] at Hj ⊢
      have hG4:G≤4294967295:=by rw [hG];exact Nat.min_le_left _ _
      have hoa:=Own.drewN HOA.out nq
      rw [EG.out.split] at hoa
      have hJ:J3 - i=mm + 3:=by have:=HJ3.out;have:=HJ0.out;omega
      refine (RB ga N ca i (J3 - i) (ca - i) lb G B (us.take i) _ _ (limbs b') _ _ hoa EG.out.pre (by rw [EG.out.len,hJ]) EG.out.lim (Rd.drewN HRY.out nq) (az b') (fun p c a h1 h2=>by cases h1;cases h2;exact hne2) (by rw [hJ,HMM.out]) (by have:=HJ3.out;omega) ab ab (by rw [aq];exact Hf Hj.2)).mono ?_
      rintro e w8 ⟨q',rfl,A',hA'l,RJ,hA'v,hq',Dq,hg8⟩
      rw [aq] at hA'v hq'
      have lI:0 < b':=by omega
      obtain ⟨hqd,RD⟩:=Kv lI Hj.1 Hj.2 hA'v hq'
      have hq4:q' < 4294967296:=by rcases hq' with ⟨_,h⟩ | ⟨_,h⟩ <;> omega
      have hst:=Kw EG.out.split EG.out.pre EG.out.zero hA'v RD HVAL.out
      have hq8:=(Own.drewN HOQ.out nq).kept hg8 (.inr (by simp [Value.ownBlock];omega))
      have hry8:=(Rd.drewN HRY.out nq).uC hg8 (fun p c a h1 h2=>by cases h1;cases h2;exact hne2)
      have hbw8:Below B w w8:=(Below.drewN iQ.out nq).grown hg8 (Nat.le_trans (by have:=HB.out;omega) iQ.out.size) (fun k hk=>by cases hk;exact (Own.lt HOA.out).1)
      obtain ⟨x8,hx8,hc8,hf8⟩:=Own.iG hq8 (j:=i) Ks
      have hl8:=kA hc8
      simp only at hl8
      have Hk:(us.take i++(A'++us.drop (i + (mm + 3)))).length=N:=by
       have h1:=congrArg List.length EG.out.split
       rw [HUL.out] at h1
       simp only [List.length_append] at h1 ⊢
       omega
      have GW:cR (us.take i++(A'++us.drop (i + (mm + 3)))):=(AO.out.take _).append (RJ.append (AO.out.drop _))
      have hq9:=Own.ic (j:=i) (x:=q') hq8
      rw [EF] at hq9
      have HREL:Hid (RE w B N ca lb mq b' a' ga (.slice (some ⟨gy,0,none⟩) lb cy) (.slice (some ⟨gq,0,none⟩) mq mq) (.int .i64 ((i:Int) - 1)) (w8.setCell ⟨gq,i,none⟩ (.int .u32 (q':Int)))):=
       ⟨i,_,q'::qs,by omega,rfl,Hk,GW,hst.1,by rw [List.length_cons,HQL.out];omega,cR.cons hq4 HQLIM.out,hst.2,Dq.kept AK (.inr (by simp [Value.ownBlock];omega)),hq9,hry8.uC AK (fun p c a h1 h2=>by cases h1;cases h2;exact hne3),hbw8.setCell (p:=⟨gq,i,none⟩) (Own.lt hq8).1 _⟩
      clear hA'l RJ hA'v hq' Dq hg8 hqd RD hst hq8 hry8 hbw8 hx8 Hk GW hq9 hoa Hj hG hJ
      go_wp2_with fail
      go_roundw
      case rel=>exact HREL.out
      case measure=>simp [intOf]
end
end Go.Proofs.YtabalinjfgcfeaaGreat
