/-AU of the proof,laid behind one another. -/
import Derived.Test.YtlifeokjcgngjaaGreatKChartTables5
set_option linter.all false
set_option maxHeartbeats 64000000
set_option maxRecDepth 4000
namespace Go.Proofs.YtlifeokjcgngjaaGreat
section
open Go.RowKit
attribute [local irreducible] ar VS
theorem GS {α:Type} {P:α->Bool}:∀ {l:List α},decide (mK P l>=0)=l.any P:=by
 intro l
 by_cases h:∀ (i:Nat) (y:α),l[i]? =some y->P y=false
 ·rw[jC h]
  have:l.any P=false:=by
   rw[List.any_eq_false]
   intro x hx
   obtain⟨i,hi⟩:=List.getElem?_of_mem hx
   rw[h i x hi];simp
  rw[this];rfl
 ·obtain⟨x,hx,hp⟩:∃ x∈l,P x=true:=Classical.byContradiction λhn=>h λi y hy=>by
   cases hP:P y with
   | false=>rfl
   | true=>exact absurd ⟨y,List.mem_of_getElem? hy,hP⟩ hn
  have hany:l.any P=true:=List.any_eq_true.2 ⟨x,hx,hp⟩
  rw[hany]
  obtain⟨i,hi⟩:=List.getElem?_of_mem hx
  have:∀ n,n<=l.length->(∃ (i:Nat) (y:α),i<n/\l[i]? =some y/\P y=true)->∃ (z:Nat) (y:α),l[z]? =some y/\P y=true/\∀ (j:Nat) (u:α),j<z->l[j]? =some u->P u=false:=by
   intro n
   induction n with
   | zero=>rintro _ ⟨i,y,h,_⟩;omega
   | succ n ih=>
     rintro hn ⟨i,y,hi,hy,hp⟩
     by_cases hex:∃ (i:Nat) (y:α),i<n/\l[i]? =some y/\P y=true
     ·exact ih aa hex
     ·refine⟨i,y,hy,hp,λj u hj hu=> ?_⟩
      cases hP:P u with
      | false=>rfl
      | true=>exact absurd ⟨j,u,by omega,hu,hP⟩ hex
  obtain⟨z,y,hz,hp',hno⟩:=this l.length (Nat.le_refl _) ⟨i,x,(List.getElem?_eq_some_iff.1 hi).1,hi,hp⟩
  rw[oo hz (λi y hi hy=>hno i y hi hy) hp']
  exact decide_eq_true aa
theorem MH (g:FuncId) (c1:Value) (P:List Rat->Bool) (kk:Nat) (kg:ng Tryz.prog g) (v:Value) (es:List (List Rat)) (w:World) (hv:aO (cM kk) 1 w v es) (hg:∀ (u:Value) (a:List Rat) (w1:World),ak w w1->aO (sV kk) 4 w1 u a->a∈es->Calls Tryz.prog g #[u,c1] w1 λe w'=>e=.returned (.bool (P a))/\ak w1 w'):
  Calls Tryz.prog 134 #[v,.func (.func g) #[] #[c1]] w λe w'=>e=.returned (.int .i64 (mK P es))/\ak w w':=by
 obtain⟨p,c,rfl,eV,fm⟩:=hv.form
 obtain⟨N,hN⟩:∃ N,N=es.length:=⟨_,rfl⟩
 rw[<-hN] at hv eV ⊢
 refine af (C:=aW Tryz.prog w _) (args:=[_,_]) Tryz.func134 rfl Tryz.ntmps134 (bP rfl) ?_
 refine ae ?_
 refine VS.loop (J:=λmm L M w'=>∃ z:Nat,z<=N/\mm=N-z/\L=[(0,.val (.slice p N c)),(1,.val (.func (.func g) #[] #[c1])),(7,.val (.int .i64 (N:Int))),(8,.val (.int .i64 (z:Int)))]/\M=[]/\∀ (i:Nat) (y:List Rat),i<z->es[i]? =some y->P y=false) N ⟨_,_,?_,?_,?_,?_,⟨0,by omega,rfl,rfl,rfl,λi y hi=>aa⟩⟩ ?_
 ·exact ew
 ·exact ew
 ·rfl
 ·exact kH
 rintro mm L M wJ ⟨z,hz,rfl,rfl,rfl,hno⟩
 refine ae ?_
 by_cases hlt:z<N
 ·obtain⟨a,hx⟩:∃ x,es[z]? =some x:=⟨_,List.getElem?_eq_getElem aa⟩
  obtain⟨b,off,cs,rfl,hc,⟨u,rfl,hu⟩⟩:=hv.at hx
  have Kh:=hu
  obtain⟨p0,c0,rfl⟩:=hu.sl
  refine VS.aR rfl (decide_eq_true (Int.ofNat_lt.2 hlt)) ?_
  refine ae ?_
  refine VO.cond rfl dc ?_
  refine wV rfl ?_
  refine ae ?_
  refine VO.read rfl [.slice p0 a.length c0] rfl (ax hc) (wV rfl ?_)
  refine VO.call rfl rfl kg (λbo cj bD=>(hg _ a bo bD (Kh.aB (xc kk) bD) (List.mem_of_getElem? hx)).mono ?_)
  rintro e w1 ⟨rfl,aL⟩
  cases hP:P a with
  | true=>
    refine bA aL ?_
    intro dh _ bb1
    refine aX ?_;intro wz kz bz
    exact⟨by rw[oo hx hno hP];rfl,bz⟩
  | false=>
    refine bA aL ?_
    intro dh _ bb1
    refine VS.back (N-(z+1)) aa ⟨_,_,?_,?_,?_,?_,⟨z+1,by omega,rfl,rfl,rfl,λi y hi hy=>(by
     by_cases Ma:i<z
     ·exact hno i y Ma hy
     ·rw[show i=z by omega,hx] at hy;cases hy;exact hP)⟩⟩
    ·refine⟨rfl,rfl,rfl,?_,trivial⟩
     rw[<-aD aa];rfl
    ·exact ew
    ·rfl
    ·exact kH
 ·refine VS.aP rfl (decide_eq_false (λe=>hlt (Int.ofNat_lt.1 e))) ?_
  obtain rfl:z=N:=by omega
  refine ae ?_
  refine aX ?_;intro wz kz bz
  exact⟨by rw[jC (λi y hy=>hno i y (by have:=(List.getElem?_eq_some_iff.1 hy).1;omega) hy)];rfl,bz⟩
theorem MI (g:FuncId) (c1:Value) (P:List Rat->Bool) (kk:Nat) (kg:ng Tryz.prog g) (v:Value) (es:List (List Rat)) (w:World) (hv:aO (cM kk) 1 w v es) (hg:∀ (u:Value) (a:List Rat) (w1:World),ak w w1->aO (sV kk) 4 w1 u a->a∈es->Calls Tryz.prog g #[u,c1] w1 λe w'=>e=.returned (.bool (P a))/\ak w1 w'):
  Calls Tryz.prog 72 #[v,.func (.func g) #[] #[c1]] w λe w'=>e=.returned (.bool (es.any P))/\ak w w':=by
 obtain⟨p,c,rfl⟩:=hv.sl
 refine af (C:=aW Tryz.prog w _) (args:=[_,_]) Tryz.func72 rfl Tryz.ntmps72 (bP rfl) ?_
 refine ae ?_
 refine VO.call rfl rfl (fk Tryz.func134) (λbo cj bD=>(MH g c1 P kk kg _ es bo (hv.cP (bG kk) bD) (λu a w1 hb hE hm=>hg u a w1 (ak.aw bD hb) hE hm)).mono ?_)
 rintro o w1 ⟨rfl,aL⟩
 refine bA aL ?_
 intro dh _ bb1
 refine aX ?_;intro wz kz bz
 exact⟨by rw[<-GS];rfl,bz⟩
theorem MJ (g:FuncId) (c1:Value) (P:db->Bool) (kk:Nat) (kg:ng Tryz.prog g) (v:Value) (es:List (db)) (w:World) (hv:aO (yg kk) 1 w v es) (hg:∀ (u:Value) (a:db) (w1:World),ak w w1->aO (cM kk) 1 w1 u a->a∈es->Calls Tryz.prog g #[.agg #[u],c1] w1 λe w'=>e=.returned (.bool (P a))/\ak w1 w'):
  Calls Tryz.prog 135 #[v,.func (.func g) #[] #[c1]] w λe w'=>e=.returned (.int .i64 (mK P es))/\ak w w':=by
 obtain⟨p,c,rfl,eV,fm⟩:=hv.form
 obtain⟨N,hN⟩:∃ N,N=es.length:=⟨_,rfl⟩
 rw[<-hN] at hv eV ⊢
 refine af (C:=aW Tryz.prog w _) (args:=[_,_]) Tryz.func135 rfl Tryz.ntmps135 (bP rfl) ?_
 refine ae ?_
 refine VS.loop (J:=λmm L M w'=>∃ z:Nat,z<=N/\mm=N-z/\L=[(0,.val (.slice p N c)),(1,.val (.func (.func g) #[] #[c1])),(7,.val (.int .i64 (N:Int))),(8,.val (.int .i64 (z:Int)))]/\M=[]/\∀ (i:Nat) (y:db),i<z->es[i]? =some y->P y=false) N ⟨_,_,?_,?_,?_,?_,⟨0,by omega,rfl,rfl,rfl,λi y hi=>aa⟩⟩ ?_
 ·exact ew
 ·exact ew
 ·rfl
 ·exact kH
 rintro mm L M wJ ⟨z,hz,rfl,rfl,rfl,hno⟩
 refine ae ?_
 by_cases hlt:z<N
 ·obtain⟨a,hx⟩:∃ x,es[z]? =some x:=⟨_,List.getElem?_eq_getElem aa⟩
  obtain⟨b,off,cs,rfl,hc,⟨u,rfl,hu⟩⟩:=hv.at hx
  have Kh:=hu
  obtain⟨p0,c0,rfl⟩:=hu.sl
  refine VS.aR rfl (decide_eq_true (Int.ofNat_lt.2 hlt)) ?_
  refine ae ?_
  refine VO.cond rfl dc ?_
  refine wV rfl ?_
  refine ae ?_
  refine VO.read rfl [.slice p0 a.length c0] rfl (ax hc) (wV rfl ?_)
  refine VO.call rfl rfl kg (λbo cj bD=>(hg _ a bo bD (Kh.cP (bG kk) bD) (List.mem_of_getElem? hx)).mono ?_)
  rintro e w1 ⟨rfl,aL⟩
  cases hP:P a with
  | true=>
    refine bA aL ?_
    intro dh _ bb1
    refine aX ?_;intro wz kz bz
    exact⟨by rw[oo hx hno hP];rfl,bz⟩
  | false=>
    refine bA aL ?_
    intro dh _ bb1
    refine VS.back (N-(z+1)) aa ⟨_,_,?_,?_,?_,?_,⟨z+1,by omega,rfl,rfl,rfl,λi y hi hy=>(by
     by_cases Ma:i<z
     ·exact hno i y Ma hy
     ·rw[show i=z by omega,hx] at hy;cases hy;exact hP)⟩⟩
    ·refine⟨rfl,rfl,rfl,?_,trivial⟩
     rw[<-aD aa];rfl
    ·exact ew
    ·rfl
    ·exact kH
 ·refine VS.aP rfl (decide_eq_false (λe=>hlt (Int.ofNat_lt.1 e))) ?_
  obtain rfl:z=N:=by omega
  refine ae ?_
  refine aX ?_;intro wz kz bz
  exact⟨by rw[jC (λi y hy=>hno i y (by have:=(List.getElem?_eq_some_iff.1 hy).1;omega) hy)];rfl,bz⟩
theorem ML (g:FuncId) (c1:Value) (P:db->Bool) (kk:Nat) (kg:ng Tryz.prog g) (v:Value) (es:List (db)) (w:World) (hv:aO (yg kk) 1 w v es) (hg:∀ (u:Value) (a:db) (w1:World),ak w w1->aO (cM kk) 1 w1 u a->a∈es->Calls Tryz.prog g #[.agg #[u],c1] w1 λe w'=>e=.returned (.bool (P a))/\ak w1 w'):
  Calls Tryz.prog 74 #[v,.func (.func g) #[] #[c1]] w λe w'=>e=.returned (.bool (es.any P))/\ak w w':=by
 obtain⟨p,c,rfl⟩:=hv.sl
 refine af (C:=aW Tryz.prog w _) (args:=[_,_]) Tryz.func74 rfl Tryz.ntmps74 (bP rfl) ?_
 refine ae ?_
 refine VO.call rfl rfl (fk Tryz.func135) (λbo cj bD=>(MJ g c1 P kk kg _ es bo (hv.cP (xd kk) bD) (λu a w1 hb hE hm=>hg u a w1 (ak.aw bD hb) hE hm)).mono ?_)
 rintro o w1 ⟨rfl,aL⟩
 refine bA aL ?_
 intro dh _ bb1
 refine aX ?_;intro wz kz bz
 exact⟨by rw[<-GS];rfl,bz⟩
theorem Jj (p p2:Option Addr) (n c m d:Nat) (w:World):
  Calls Tryz.prog 137 #[.slice p n c,.slice p2 m d] w λo w'=>o=.returned (.bool (decide (n=m)))/\ak w w':=by
 refine af (C:=aW Tryz.prog w _) (args:=[_,_]) Tryz.func137 rfl Tryz.ntmps137 (bP rfl) ?_
 refine ae ?_
 refine aX ?_;intro wz kz bz
 exact⟨by
  by_cases h:n=m
  ·subst h;simp[ir]
  ·have:¬ ((n:Int)=(m:Int)):=by omega
   simp[ir,h,this],bz⟩
def cJ (t:db):List Nat:=t.map List.length
theorem kn {t:db} {i:Nat} {r:List Rat} (h:t[i]? =some r):(cJ t)[i]? =some r.length:=by unfold cJ;rw[List.getElem?_map,h];rfl
theorem lens_ne {t u:db} (h:t.length≠u.length):decide (cJ t=cJ u)=false:=decide_eq_false (λe=>h (by have:=congrArg List.length e;simpa [cJ] using this))
theorem Fy {t u:db} {i:Nat} {r s:List Rat} (h1:t[i]? =some r) (h2:u[i]? =some s) (h:r.length≠s.length):decide (cJ t=cJ u)=false:=decide_eq_false (λe=>h (by
 have h3:=kn h1
 rw[e,kn h2] at h3
 exact (Option.some.inj h3).symm))
theorem lens_eq {t u:db} (hl:t.length=u.length) (h:∀ (i:Nat) (r s:List Rat),t[i]? =some r->u[i]? =some s->r.length=s.length):decide (cJ t=cJ u)=true:=decide_eq_true (List.ext_getElem? λi=>by
 cases hi:t[i]? with
 | none=>
   have:=List.getElem?_eq_none_iff.1 hi
   rw[List.getElem?_eq_none (by simp[cJ];omega),List.getElem?_eq_none (by simp[cJ];omega)]
 | some r=>
   obtain⟨s,hs⟩:∃ s,u[i]? =some s:=⟨_,List.getElem?_eq_getElem (by have:=(List.getElem?_eq_some_iff.1 hi).1;omega)⟩
   rw[kn hi,kn hs,h i r s hi hs])
theorem MM (v u:Value) (t t2:db) (j k:Nat) (w:World) (hv:aO (cM j) 1 w v t) (hu:aO (cM k) 1 w u t2):
  Calls Tryz.prog 136 #[v,u,.func (.func 137) #[] #[]] w λo w'=>o=.returned (.bool (decide (cJ t=cJ t2)))/\ak w w':=by
 obtain⟨p,c,rfl,eV,fm⟩:=hv.form
 obtain⟨p2,c2,rfl,hnc2,hcm2⟩:=hu.form
 obtain⟨R,hR⟩:∃ R,R=t.length:=⟨_,rfl⟩
 obtain⟨R2,hR2⟩:∃ R,R=t2.length:=⟨_,rfl⟩
 rw[<-hR] at hv eV
 rw[<-hR2] at hu hnc2
 rw[<-hR,<-hR2]
 refine af (C:=aW Tryz.prog w _) (args:=[_,_,_]) Tryz.func136 rfl Tryz.ntmps136 (bP rfl) ?_
 refine ae ?_
 by_cases hRR:R=R2
 rotate_left
 ·refine VS.aR rfl (CZ aa) ?_
  refine ae ?_
  refine aX ?_;intro wz kz bz
  exact⟨by rw[lens_ne aa];rfl,bz⟩
 subst hRR
 refine VS.aP rfl (tQ aa) ?_
 refine ae ?_
 refine VS.loop (J:=λmm L M w'=>∃ z:Nat,z<=R/\mm=R-z/\L=[(0,.val (.slice p R c)),(1,.val (.slice p2 R c2)),(2,.val (.func (.func 137) #[] #[])),(15,.val (.slice p R c)),(16,.val (.int .i64 (R:Int))),(17,.val (.int .i64 (z:Int)))]/\M=[]/\∀ (i:Nat) (r s:List Rat),i<z->t[i]? =some r->t2[i]? =some s->r.length=s.length) R ⟨_,_,?_,?_,?_,?_,⟨0,by omega,rfl,rfl,rfl,λi r s hi=>aa⟩⟩ ?_
 ·exact ew
 ·exact ew
 ·rfl
 ·exact kH
 rintro mm L M wJ ⟨z,hz,rfl,rfl,rfl,hno⟩
 refine ae ?_
 by_cases hlt:z<R
 rotate_left
 ·refine VS.aP rfl (decide_eq_false (λe=>hlt (Int.ofNat_lt.1 e))) ?_
  refine ae ?_
  refine aX ?_;intro wz kz bz
  exact⟨by rw[lens_eq aa (λi r s h1 h2=>hno i r s (by have:=(List.getElem?_eq_some_iff.1 h1).1;omega) h1 h2)];rfl,bz⟩
 obtain⟨ra,JN⟩:∃ x,t[z]? =some x:=⟨_,List.getElem?_eq_getElem aa⟩
 obtain⟨rb,Bc⟩:∃ x,t2[z]? =some x:=⟨_,List.getElem?_eq_getElem aa⟩
 obtain⟨b,off,cs,rfl,hc,⟨xa,rfl,ha⟩⟩:=hv.at JN
 obtain⟨b2,rj,cs2,rfl,nG,⟨xb,rfl,hb⟩⟩:=hu.at Bc
 obtain⟨pa,ca,rfl⟩:=ha.sl
 obtain⟨pb,cb,rfl⟩:=hb.sl
 refine VS.aR rfl (decide_eq_true (Int.ofNat_lt.2 hlt)) ?_
 refine ae ?_
 refine VO.cond rfl dc ?_
 refine wV rfl ?_
 refine ae ?_
 refine VO.read rfl [.slice pa ra.length ca] rfl (ax hc) (wV rfl ?_)
 refine ae ?_
 refine VO.cond rfl dc ?_
 refine wV rfl ?_
 refine ae ?_
 refine VO.read rfl [.slice pb rb.length cb] rfl (ax nG) (wV rfl ?_)
 refine ae ?_
 refine VO.call rfl rfl (fk Tryz.func137) (λbo cj bD=>(Jj _ _ _ _ _ _ bo).mono ?_)
 rintro o w1 ⟨rfl,aL⟩
 by_cases hll:ra.length=rb.length
 rotate_left
 ·rw[decide_eq_false hll]
  refine bA aL ?_
  intro dh _ bb1
  refine aX ?_;intro wz kz bz
  exact⟨by rw[Fy JN Bc hll];rfl,bz⟩
 rw[decide_eq_true hll]
 refine bA aL ?_
 intro dh _ bb1
 refine VS.back (R-(z+1)) aa ⟨_,_,?_,?_,?_,?_,⟨z+1,by omega,rfl,rfl,rfl,λi r s hi h1 h2=> ?_⟩⟩
 ·refine⟨rfl,rfl,rfl,rfl,rfl,?_,trivial⟩
  rw[<-aD (i:=z) aa];rfl
 ·exact ew
 ·rfl
 ·exact kH
 ·by_cases Ma:i=z
  ·subst Ma;rw[JN] at h1;rw[Bc] at h2;cases h1;cases h2;exact hll
  ·exact hno i r s aa h1 h2
theorem zy (v u:Value) (t t2:db) (j k:Nat) (w:World) (hv:aO (cM j) 1 w v t) (hu:aO (cM k) 1 w u t2):
  Calls Tryz.prog 76 #[.agg #[v],.agg #[u]] w λo w'=>o=.returned (.bool (decide (cJ t=cJ t2)))/\ak w w':=by
 obtain⟨p,c,rfl⟩:=hv.sl
 obtain⟨p2,c2,rfl⟩:=hu.sl
 refine af (C:=aW Tryz.prog w _) (args:=[_,_]) Tryz.func76 rfl Tryz.ntmps76 (bP rfl) ?_
 refine ae ?_
 refine VO.cB rfl rfl (fk Tryz.func136) (λbo cj bD=>MM _ _ t t2 j k bo (hv.cP (bG j) bD) (hu.cP (bG k) bD)) (λbo cj bD w1 aL dh _ bb1=>wV rfl ?_)
 refine ae ?_
 refine aX ?_;intro wz kz bz
 exact⟨rfl,bz⟩
theorem GU (p:Option Addr) (n c:Nat) (w:World):
  Calls Tryz.prog 78 #[.agg #[.slice p n c]] w λo w'=>∃ B1,o=.returned (.func (.func 138) #[] #[.pointer (some ⟨B1,0,none⟩)])/\aE w' B1 52 #[.slice p n c]/\w.heap.size<=B1/\ak w w':=by
 refine af (C:=aW Tryz.prog w _) (args:=[_]) Tryz.func78 rfl Tryz.ntmps78 (bP rfl) ?_
 refine ae ?_
 refine VS.pP (bO _ _) rfl (λwz β kz bz en=> ?_)
 exact⟨β 1,rfl,(en.own 1 _ _ rfl).cls,(en.own 1 _ _ rfl).new,bz⟩
theorem Fz {P:Program} {l:Nat} {args:Array Value} {W:World} {R R':Ending->World->Prop} (h:YieldAt Fence.wide 0 P l args W R) (hr:∀ e W',R e W'->R' e W'):YieldAt Fence.wide 0 P l args W R':=by
 obtain⟨fn,tmps,assign,body,h1,h2⟩:=h
 exact⟨fn,tmps,assign,body,h1,h2.mono hr⟩
def MN (kk:Nat) (us:List Value) (t:db) (v:Value) (W:World):Prop:=us.length=t.length/\aO VE 1 W v us/\∀ (i:Nat) (u:Value) (r:List Rat),us[i]? =some u->t[i]? =some r->aO (sV kk) 4 W u r
theorem GV {kk:Nat} {w:World} {v:Value} {t:db} (h:aO (cM kk) 1 w v t):∃ us,MN kk us t v w:=by
 obtain⟨p,c,rfl,h1,h2,h3⟩:=h
 have hex:∀ i:Nat,∃ u:Value,∀ r,t[i]? =some r->aO (sV kk) 4 w u r/\∃ b off,p=some ⟨b,off,none⟩/\w.cell? ⟨b,off+i*1+0,none⟩=some u:=λi=>by
  cases hi:t[i]? with
  | none=>exact⟨undef,λr hr=>(by cases hr)⟩
  | some r=>
    obtain⟨b,off,cs,hp,hc,⟨u,rfl,hu⟩⟩:=h3 i r hi
    exact⟨u,λr' hr=>by cases hr;exact⟨hu,b,off,hp,hc 0 u rfl⟩⟩
 refine⟨(List.range t.length).map λi=>(hex i).choose,by rw[List.length_map,List.length_range],⟨p,c,by rw[List.length_map,List.length_range],by rw[List.length_map,List.length_range];exact h1,h2,λi u hu=> ?_⟩,λi u r hu hr=> ?_⟩
 ·have hlt:i<t.length:=by have:=(List.getElem?_eq_some_iff.1 hu).1;simpa using this
  rw[List.getElem?_map,List.getElem?_range hlt] at hu
  cases hu
  obtain⟨r,hr⟩:∃ r,t[i]? =some r:=⟨_,List.getElem?_eq_getElem hlt⟩
  obtain⟨hs,b,off,hp,hc⟩:=(hex i).choose_spec r hr
  obtain⟨pp,cc,hf⟩:=hs.sl
  refine⟨b,off,_,hp,λj x hj=> ?_,rfl,pp,_,cc,hf⟩
  match j,hj with
  | 0,hj=>cases hj;exact hc
  | j+1,hj=>cases hj
 ·have hlt:i<t.length:=(List.getElem?_eq_some_iff.1 hr).1
  rw[List.getElem?_map,List.getElem?_range hlt] at hu
  cases hu
  exact ((hex i).choose_spec r hr).1
theorem MN.aB {kk:Nat} {us:List Value} {t:db} {v:Value} {w w':World} (h:MN kk us t v w) (hb:ak w w'):MN kk us t v w':=⟨h.1,h.2.1.aB bB hb,λi u r hu hr=>(h.2.2 i u r hu hr).aB (xc kk) hb⟩
def PrT (t:db) (kk:Nat) (i i':Nat×Nat) (vs:Array Value) (W:World):Prop:=∃ r x s p n c t' y m d,t[i.1]? =some r/\r[i.2]? =some x/\vs=#[.agg #[.int .i64 (i.1:Int),.int .i64 (i.2:Int)],.agg #[.bool s,.slice p n c,.bool t',.slice y m d]]/\sV kk W [.bool s,.slice p n c,.bool t',.slice y m d] x/\i'=(i.1,i.2+1)
def MvT (t:db) (i i':Nat×Nat):Prop:=∃ r,t[i.1]? =some r/\i.2=r.length/\i'=(i.1+1,0)
def FinT (t:db) (i:Nat×Nat):Prop:=i=(t.length,0)
theorem Dv (us:List Value) (t:db) (kk ly B1:Nat) (p:Option Addr) (R c:Nat) (J':Nat×Nat->World->Prop) (AP:World->Prop)
  (hR:R=t.length)
  (Ej:∀ i W,J' i W->MN kk us t (.slice p R c) W/\aE W B1 52 #[.slice p R c])
  (hmv:∀ i i' W,MvT t i i'->J' i W->J' i' W) (hbeh:∀ i W W',J' i W->ak W W'->J' i W') (hbehX:∀ W W',AP W->ak W W'->AP W')
  (hy:∀ i i' vs W1,J' i W1->PrT t kk i i' vs W1->YieldAt Fence.wide 0 Tryz.prog ly vs W1 λe W'=>(e=.returned (.bool true)/\J' i' W')\/(e=.returned (.bool false)/\AP W'))
  (w:World) (h0:J' (0,0) w):
  Calls Tryz.prog 138 #[.func (.yield ly) #[] #[],.pointer (some ⟨B1,0,none⟩)] w λe W'=>(∃ v,e=.returned v)/\((∃ i,FinT t i/\J' i W')\/AP W'):=by
 obtain⟨⟨zQ,hus0,-⟩,hB0⟩:=Ej _ _ h0
 obtain⟨p',c',e1,eV,fm⟩:=hus0.form
 rw[zQ,<-hR] at e1 eV
 cases e1
 refine af (C:=aW Tryz.prog w _) (args:=[_,_]) Tryz.func138 rfl Tryz.ntmps138 (bP rfl) ?_
 refine ae ?_
 refine VO.read rfl [.slice p R c] rfl (bQ (hB0.cell (j:=0) rfl)) (wV rfl ?_)
 refine ae ?_
 refine VS.loopR (J:=λm L W=>∃ e:Nat,e<=R/\m=R-e/\L=[(0,.func (.yield ly) #[] #[]),(1,.pointer (some ⟨B1,0,none⟩)),(8,.slice p R c),(9,.int .i64 (R:Int)),(10,.int .i64 (e:Int))]/\J' (e,0) W) (λW=>aW Tryz.prog W _) (λ_=>rfl) (λ_=>rfl) (λW=>ak.refl W) R
  (λw' hkw how=>⟨_,?hL,0,by omega,rfl,rfl,hbeh _ w w' h0 how⟩) ?_
 case hL=>exact⟨rfl,rfl,rfl,rfl,rfl,trivial⟩
 rintro m L W ⟨e,he,rfl,rfl,hJ⟩
 obtain⟨⟨-,lz,GW⟩,hB⟩:=Ej _ _ hJ
 refine ae ?_
 by_cases hlt:e<R
 rotate_left
 ·refine VS.aP rfl (decide_eq_false (λe=>hlt (Int.ofNat_lt.1 e))) ?_
  refine ae ?_
  refine VS.endA (bO _ _) rfl λwz β kz bz en=> ?_
  exact⟨⟨_,rfl⟩,.inl ⟨(e,0),by unfold FinT;rw[<-hR];congr 1;omega,hbeh _ W wz hJ bz⟩⟩
 obtain⟨r,hr⟩:∃ x,t[e]? =some x:=⟨_,List.getElem?_eq_getElem aa⟩
 obtain⟨u,hu⟩:∃ x,us[e]? =some x:=⟨_,List.getElem?_eq_getElem aa⟩
 obtain⟨b,off,cs,rfl,hc,⟨rfl,-⟩⟩:=lz.at hu
 have cf:=GW e u r hu hr
 obtain⟨pr,cr,rfl,hKc,hKm⟩:=cf.form
 obtain⟨K,hK⟩:∃ K,K=r.length:=⟨_,rfl⟩
 rw[<-hK] at cf hc hKc
 refine VS.aR rfl (decide_eq_true (Int.ofNat_lt.2 hlt)) ?_
 refine ae ?_
 refine VO.cond rfl dc ?_
 refine wV rfl ?_
 refine ae ?_
 refine VO.read rfl [.slice pr K cr] rfl (ax hc) (wV rfl ?_)
 refine ae ?_
 refine VS.loopR (J:=λm L W=>∃ z:Nat,z<=K/\m=K-z/\L=[(0,.func (.yield ly) #[] #[]),(1,.pointer (some ⟨B1,0,none⟩)),(8,.slice (some ⟨b,off,none⟩) R c),(9,.int .i64 (R:Int)),(10,.int .i64 (e:Int)),(3,.int .i64 (e:Int)),(15,.slice pr K cr),(16,.int .i64 (K:Int)),(17,.int .i64 (z:Int))]/\J' (e,z) W) (λW=>aW Tryz.prog W _) (λ_=>rfl) (λ_=>rfl) (λW=>ak.refl W) K
  (λw' hkw how=>⟨_,?hL2,0,by omega,rfl,rfl,hbeh _ W w' hJ how⟩) ?_
 case hL2=>exact⟨rfl,rfl,rfl,rfl,rfl,rfl,rfl,rfl,rfl,trivial⟩
 rintro m L W2 ⟨z,hz,rfl,rfl,hJ2⟩
 obtain⟨⟨-,hus2,hrows2⟩,hB2⟩:=Ej _ _ hJ2
 have Dw:=hrows2 e _ r hu hr
 rw[<-hK] at Dw
 refine ae ?_
 by_cases hlz:z<K
 rotate_left
 ·refine VS.aP rfl (decide_eq_false (λe=>hlz (Int.ofNat_lt.1 e))) ?_
  refine ae ?_
  refine VS.backR rfl (R-(e+1)) aa [(0,.func (.yield ly) #[] #[]),(1,.pointer (some ⟨B1,0,none⟩)),(8,.slice (some ⟨b,off,none⟩) R c),(9,.int .i64 (R:Int)),(10,.int .i64 ((e+1:Nat):Int))] ⟨rfl,rfl,rfl,rfl,?_,trivial⟩ (λw' xA ho'=>⟨e+1,by omega,rfl,rfl,hmv (e,z) (e+1,0) w' ⟨r,hr,by omega,rfl⟩ (hbeh _ W2 w' hJ2 ho')⟩)
  rw[<-aD (i:=e) aa];rfl
 obtain⟨x,hx⟩:∃ x,r[z]? =some x:=⟨_,List.getElem?_eq_getElem aa⟩
 obtain⟨bx,ox,Jx,rfl,ku,gr⟩:=Dw.at hx
 have Jf:=gr
 obtain⟨s,q,n,l,t',y,m',d,rfl,-⟩:=gr
 refine VS.aR rfl (decide_eq_true (Int.ofNat_lt.2 hlz)) ?_
 refine ae ?_
 refine VO.cond rfl dc ?_
 refine wV rfl ?_
 refine ae ?_
 refine VO.read rfl [.bool s,.slice q n l,.bool t',.slice y m' d] rfl (er ku 0 _ ⟨[],rfl⟩) (wV rfl ?_)
 (repeat (first|refine wN ?_|refine wP rfl ?_|refine wO rfl rfl ?_))
 refine VS.LU (bO _ _) 5 rfl rfl rfl rfl rfl rfl rfl rfl (wV rfl ?_)
 refine wN ?_
 refine⟨ly,_,λW=>aW Tryz.prog W _,rfl,rfl,λ_=>rfl,λ_=>rfl,λW=>ak.refl W,(show 27<31 by decide),(show 28<31 by decide),λw9 kw ow=> ?_⟩
 refine Fz (hy (e,z) (e,z+1) _ w9 (hbeh _ W2 w9 hJ2 ow) ⟨r,x,_,_,_,_,_,_,_,_,hr,hx,rfl,(xc kk).kp Jf (Kp.of (U:=UU) ow),rfl⟩) ?_
 rintro o w3 (⟨rfl,hJ3⟩|⟨rfl,hJx⟩)
 ·refine⟨true,rfl,[(0,.func (.yield ly) #[] #[]),(1,.pointer (some ⟨B1,0,none⟩)),(8,.slice (some ⟨b,off,none⟩) R c),(9,.int .i64 (R:Int)),(10,.int .i64 (e:Int)),(3,.int .i64 (e:Int)),(15,.slice (some ⟨bx,ox,none⟩) K cr),(16,.int .i64 (K:Int)),(17,.int .i64 (z:Int))],⟨rfl,rfl,rfl,rfl,rfl,rfl,rfl,rfl,rfl,trivial⟩,rfl,?_⟩
  refine ae ?_
  refine VS.backR rfl (K-(z+1)) aa [(0,.func (.yield ly) #[] #[]),(1,.pointer (some ⟨B1,0,none⟩)),(8,.slice (some ⟨b,off,none⟩) R c),(9,.int .i64 (R:Int)),(10,.int .i64 (e:Int)),(3,.int .i64 (e:Int)),(15,.slice (some ⟨bx,ox,none⟩) K cr),(16,.int .i64 (K:Int)),(17,.int .i64 ((z+1:Nat):Int))] ⟨rfl,rfl,rfl,rfl,rfl,rfl,rfl,rfl,?_,trivial⟩ (λw' xA ho'=>⟨z+1,by omega,rfl,rfl,hbeh _ w3 w' hJ3 ho'⟩)
  rw[<-aD (i:=z) aa];rfl
 ·refine⟨false,rfl,[],trivial,rfl,?_⟩
  refine ae ?_
  refine VS.pP (bO _ _) rfl (λwz β kz bz en=> ?_)
  exact⟨⟨_,rfl⟩,.inr (hbehX _ _ hJx bz)⟩
set_option maxRecDepth 4000
abbrev cxA1 (P:Program) (w:World) (N:Nat) (g:Nat) (ha:gm (KU UU) [g] w):Cx:=pQ P w N (KU UU) (λt=>Nat.beq t UU) table (λ_ _=>trivial) [g] (fX g) ha
theorem mi (w:World) (N g:Nat) (ha:gm (KU UU) [g] w):(cxA1 Tryz.prog w N g ha).Ok:=dA
theorem FA (w:World) (N g:Nat) (ha:gm (KU UU) [g] w):(cxA1 Tryz.prog w N g ha).P.follows .mixedOrders=true:=by show Tryz.prog.follows .mixedOrders=true;kernel_rfl
theorem kF {w:World} {b:Nat} {t:TypeId} {cs:List Value} (h:aE w b t cs.toArray) (off:Nat) (ds:List Value) (hd:ds <+:cs.drop off):∀ (j:Nat) (u:Value),ds[j]? =some u->w.cell? ((⟨b,off,none⟩:Addr).add j)=some u:=by
 intro j u hj
 obtain⟨t,ht⟩:=hd
 rw[Addr.add_mid]
 refine aE.cell (b:=b) h ?_
 rw[List.getElem?_toArray,<-List.getElem?_drop,<-ht,List.getElem?_append_left (List.getElem?_eq_some_iff.1 hj).1]
 exact hj
theorem xu {C:Cx} {l:List Deferred} (h:C.Ok):(IU C l).Ok:=h
theorem FD {t u:db} (h:decide (cJ t=cJ u)=false):decide (t=u)=false:=decide_eq_false (λe=>of_decide_eq_false h (by rw[e]))
set_option maxRecDepth 4000 in
theorem zz (v u:Value) (t t2:db) (j k:Nat) (w:World) (hv:aO (cM j) 1 w v t) (hu:aO (cM k) 1 w u t2) (hj1:1<=j) (qn:1<=k) (hj:j<=1000) (hk:k<=1000):
  Calls Tryz.prog 32 #[.agg #[v],.agg #[u]] w λo w'=>o=.returned (.bool (decide (t=t2)))/\ak w w':=by
 obtain⟨p,c,rfl⟩:=hv.sl
 obtain⟨p2,c2,rfl⟩:=hu.sl
 refine tR (C:=aW Tryz.prog w _) (args:=[_,_]) Tryz.func32 rfl Tryz.ntmps32 (bP rfl) ?_
 refine ae ?_
 refine VO.call rfl rfl (fk Tryz.func76) (λbo cj bD=>(zy _ _ t t2 j k bo (hv.cP (bG j) bD) (hu.cP (bG k) bD)).mono ?_)
 rintro o w1 ⟨rfl,aL⟩
 cases hl:decide (cJ t=cJ t2) with
 | false=>
   refine bA aL ?_
   intro dh _ bb1
   refine VS.retM (bO _ _) rfl rfl (λwz kz bz=> ?_)
   exact⟨by rw[FD hl];rfl,bz⟩
 | true=>
 have hll:cJ t=cJ t2:=of_decide_eq_true hl
 refine⟨_,rfl,aL,λdh _ bb1=>wV rfl ?_⟩
 (repeat (first|refine wN ?_|refine wP rfl ?_|refine wO rfl rfl ?_))
 refine VS.nL (λw=>aW Tryz.prog w 28) (λ_=>rfl) (λ_=>rfl) (λ_=>ak.refl _) (λw9 β k9 b9 en=> ?_)
 have AL:ak w w9:=b9
 have h2:aE w9 (β 2) 52 #[.slice p t.length c]:=(en.own 2 _ _ rfl).cls
 have h3:aE w9 (β 3) 52 #[.slice p2 t2.length c2]:=(en.own 3 _ _ rfl).cls
 have h4:aE w9 (β 4) 4 #[.bool false]:=(en.own 4 _ _ rfl).cls
 have hn4:w.heap.size<=β 4:=(en.own 4 _ _ rfl).new
 refine⟨[(2,.val (.pointer (some ⟨β 2,0,none⟩))),(3,.val (.pointer (some ⟨β 3,0,none⟩))),(4,.val (.pointer (some ⟨β 4,0,none⟩)))],⟨⟨_,_,rfl,rfl,rfl⟩,⟨_,_,rfl,rfl,rfl⟩,⟨_,_,rfl,rfl,rfl⟩,trivial⟩,?_⟩
 generalize β 2=g2 at h2 ⊢
 generalize β 3=g3 at h3 ⊢
 generalize β 4=g4 at h4 hn4 ⊢
 refine VS.GD (bO _ _) 1 rfl rfl rfl (wV rfl ?_)
 refine VO.read rfl [.slice p t.length c] rfl (bQ (h2.cell (j:=0) rfl)) (wV rfl ?_)
 refine wN ?_
 refine⟨_,_,_,rfl,rfl,fk Tryz.func78,λw3 k3 o3=>(GU p t.length c w3).mono ?_⟩
 rintro e w4 ⟨B1,rfl,Mg,vD,gj⟩
 refine⟨_,rfl,gj,λβ a3 a4 hr3 MO k4=> ?_⟩
 have xS:ak w9 w4:=ak.aw o3 gj
 have iX:ak w w4:=AL.aw xS
 have h34:=h3.aB xS
 have h44:=h4.aB xS
 have FE:a4.tmps.size=28:=MO.size
 have ht3:a4.tmps.getD 3 undef=.pointer (some ⟨g3,0,none⟩):=MO.tmp 3 _ rfl
 have ht4:a4.tmps.getD 4 undef=.pointer (some ⟨g4,0,none⟩):=MO.tmp 4 _ rfl
 obtain⟨us,lz⟩:=GV hv
 have hg43:g3≠g4:=λh=>by rw[h] at h3;exact absurd (cZ h3 h4) bZ
 have hgB:B1≠g4:=λh=>by rw[h] at Mg;exact absurd (cZ Mg h44) bZ
 have hold:∀ W,eK [g4] w4 W->ak w W:=λW h=>eK.aB iX h (λg hg=>by rw[List.mem_singleton.1 hg];exact hn4)
 refine VS.goB ?_
 refine tS .ret .ret (.inl ⟨rfl,rfl⟩) (MO.tmp 12 _ rfl) (enters_of Tryz.func138 (by kernel_rfl) rfl) (0,0) (MvT t)
  (λi W=>eK [g4] w4 W/\aE W g4 4 #[.bool false]/\(∀ n,n<i.1->t[n]? =t2[n]?)/\(∀ r s,t[i.1]? =some r->t2[i.1]? =some s->∀ n,n<i.2->r[n]? =s[n]?))
  (λW=>eK [g4] w4 W/\aE W g4 4 #[.bool false]/\t≠t2) (PrT t j) (FinT t) ?hput ?hputX ?hmv ?hbeh ?hbehX ?h0 ?hps ?hseq ?hround ?hdone ?hleave
 case hput=>
  rintro i W l r r' ⟨g1,g2',g3',g4'⟩ hl hq
  exact⟨g1.put hl _,g2'.put hq _,g3',g4'⟩
 case hputX=>
  rintro W l r r' ⟨g1,g2',g3'⟩ hl hq
  exact⟨g1.put hl _,g2'.put hq _,g3'⟩
 case hmv=>
  rintro⟨e,z⟩ i' W ⟨r,hr,hz,rfl⟩ ⟨g1,g2',g3',g4'⟩
  have hz':z=r.length:=hz
  have ur:t[e]? =some r:=hr
  refine⟨g1,g2',λn hn=> ?_,λr s _ _ n hn=>by have:n<0:=hn;omega⟩
  have hn':n<e+1:=hn
  by_cases hne:n=e
  ·subst hne
   have h5:=kn ur
   rw[hll] at h5
   obtain⟨s,hs⟩:∃ s,t2[n]? =some s:=by
    cases hs:t2[n]? with
    | some s=>exact⟨s,rfl⟩
    | none=>unfold cJ at h5;rw[List.getElem?_map,hs] at h5;cases h5
   have h6:=kn hs
   rw[h6] at h5
   have h7:s.length=r.length:=Option.some.inj h5
   rw[ur,hs,MB h7.symm (λi hi=>g4' r s ur hs i (show i<z by omega))]
  ·exact g3' n (show n<e by omega)
 case hbeh=>
  rintro i W W' ⟨g1,g2',g3',g4'⟩ hb
  exact⟨g1.aw (eK.of hb),g2'.aB hb,g3',g4'⟩
 case hbehX=>
  rintro W W' ⟨g1,g2',g3'⟩ hb
  exact⟨g1.aw (eK.of hb),g2'.aB hb,g3'⟩
 case h0=>exact⟨eK.of (ak.refl _),h44,λn hn=>absurd hn (Nat.not_lt_zero n),λr s _ _ n hn=>absurd hn (Nat.not_lt_zero n)⟩
 case hps=>
  rintro i i' vs W ⟨r,x,s,q,n,l,t',y,m,d,-,-,rfl,-⟩
  rfl
 case hseq=>
  intro ly J' AP W kG hmv' hJ' Fk hJJ hY h0'
  refine callsIn_wide.2 (Dv us t j ly B1 p t.length c J' AP rfl (λi W2 h=> ?_) hmv' hJ' Fk hY W h0')
  obtain⟨g1,-⟩:=hJJ i W2 h
  exact⟨lz.aB (hold W2 g1),(g1.du _ Mg.lt (λhm=>hgB (List.mem_singleton.1 hm))).trans Mg⟩
 case hdone=>
  rintro D i W hD hi ⟨g1,fI,Dx,-⟩ JC
  cases hi
  have heq:t=t2:=List.ext_getElem? λn=>by
   by_cases hn:n<t.length
   ·exact Dx n hn
   ·have:(cJ t).length=(cJ t2).length:=by rw[hll]
    unfold cJ at this
    rw[List.length_map,List.length_map] at this
    rw[List.getElem?_eq_none aa,List.getElem?_eq_none aa]
  refine VS.goA (K:=KU UU) (SU:=λt=>Nat.beq t UU) (ti:=table) (keep:=λ_ _=>trivial) (L:=[]) 4 MO ⟨⟨_,_,rfl,rfl,rfl⟩,trivial⟩ fI rfl rfl ?_
  refine VS.du ?_
  refine VS.seq (VS.region (xu (mi _ _ _ _)) (wV rfl (wN ?_)))
  refine VS.retD [D] (xu (mi _ _ _ _)) rfl rfl rfl (λw' ho=>⟨by simp,λd hd=> ?_⟩) (λ_=>trivial) (λw' w'' k' o' hs=>⟨by rw[decide_eq_true heq];rfl,?_⟩)
  ·rw[List.mem_singleton.1 hd]
   exact (ho.1.du _ (Array.getElem?_eq_some_iff.1 JC).1 (λhm=>by
    rw[List.mem_singleton.1 hm] at JC
    have:=JC.symm.trans fI
    cases this)).trans JC
  ·refine hs.aB (eK.aB (hold W g1) o'.1 (λg hg=>by rw[List.mem_singleton.1 hg];exact hn4)) (λd hd=> ?_)
   rw[List.mem_singleton.1 hd]
   exact Nat.le_trans iX.size hD
 case hleave=>
  rintro D W hD ⟨g1,fI,hne⟩ JC
  refine VS.goAJ (K:=KU UU) (SU:=λt=>Nat.beq t UU) (ti:=table) (keep:=λ_ _=>trivial) (L:=[]) 4 MO ⟨⟨_,_,rfl,rfl,rfl⟩,trivial⟩ fI rfl rfl ?_
  refine VS.retD [D] (xu (mi _ _ _ _)) rfl rfl rfl (λw' ho=>⟨by simp,λd hd=> ?_⟩) (λ_=>trivial) (λw' w'' k' o' hs=>⟨by rw[decide_eq_false hne];rfl,?_⟩)
  ·rw[List.mem_singleton.1 hd]
   exact (ho.1.du _ (Array.getElem?_eq_some_iff.1 JC).1 (λhm=>by
    rw[List.mem_singleton.1 hm] at JC
    have:=JC.symm.trans fI
    cases this)).trans JC
  ·refine hs.aB (eK.aB (hold W g1) o'.1 (λg hg=>by rw[List.mem_singleton.1 hg];exact hn4)) (λd hd=> ?_)
   rw[List.mem_singleton.1 hd]
   exact Nat.le_trans iX.size hD
 case hround=>
  rintro ly ⟨e,z⟩ i' vs W kJ ⟨g1,fI,Dx,LW⟩ ⟨r,x,s,q,n,l,t',y,m,d,hr,hx,rfl,gr,rfl⟩ ⟨rr,hrr⟩
  replace hr:t[e]? =some r:=hr
  replace hx:r[z]? =some x:=hx
  replace Dx:∀ n,n<e->t[n]? =t2[n]? :=Dx
  replace LW:∀ r s,t[e]? =some r->t2[e]? =some s->∀ n,n<z->r[n]? =s[n]? :=LW
  obtain⟨r2,ky,hrl⟩:∃ r2,t2[e]? =some r2/\r2.length=r.length:=by
   have h5:=kn hr
   rw[hll] at h5
   cases hs:t2[e]? with
   | some s=>rw[kn hs] at h5;exact⟨s,rfl,Option.some.inj h5⟩
   | none=>unfold cJ at h5;rw[List.getElem?_map,hs] at h5;cases h5
  obtain⟨y2,LL⟩:∃ y2,r2[z]? =some y2:=⟨_,List.getElem?_eq_getElem (by rw[hrl];exact (List.getElem?_eq_some_iff.1 hx).1)⟩
  have hbwW:=hold W g1
  refine fB.start (C:=aW Tryz.prog W 28) ?_ (Knows.rel (L:=[(3,.pointer (some ⟨g3,0,none⟩)),(4,.pointer (some ⟨g4,0,none⟩)),(13,.agg #[.int .i64 (e:Int),.int .i64 (z:Int)]),(14,.agg #[.bool s,.slice q n l,.bool t',.slice y m d])]) ?hkn (ak.refl W)) (aF.refl _ _)
  case hkn=>
   refine⟨rfl,by simp[FE],λq hq=> ?_⟩
   simp only[List.mem_cons,List.not_mem_nil,or_false] at hq
   rw[Array.getD_eq_getD_getElem?] at ht3 ht4 ⊢
   rcases hq with rfl|rfl|rfl|rfl
   ·refine⟨show 3<28 by decide,?_⟩
    simpa [Array.getElem?_setIfInBounds] using ht3
   ·refine⟨show 4<28 by decide,?_⟩
    simpa [Array.getElem?_setIfInBounds] using ht4
   ·refine⟨show 13<28 by decide,?_⟩
    simp[Array.getElem?_setIfInBounds,FE]
   ·refine⟨show 14<28 by decide,?_⟩
    simp[Array.getElem?_setIfInBounds,FE]
  refine fB.seq (fB.region (cw.round _) (bO _ _) rfl rfl (wN (fB.region (cw.round _) (bO _ _) rfl rfl (wN (fB.done λFF a2 W2 jr Gu=> ?_)))))
  refine⟨jr.old,λr'=> ?_⟩
  have aY:ak W W2:=jr.old
  have xw:W2.heap[ly]? =some (.loop rr):=(Below.block aY _ (Array.getElem?_eq_some_iff.1 hrr).1).trans hrr
  have hB3:eK [g4] w4 (W2.putObj ly (.loop r')):=(g1.aw (eK.of aY)).put kJ _
  have yw:=(fI.aB aY).put xw (.loop r')
  have ET:=(jr.own 5 _ _ rfl).cls.put xw (.loop r')
  have hc6:=(jr.own 6 _ _ rfl).cls.put xw (.loop r')
  have hk3:Kp UU W (W2.putObj ly (.loop r')):=Gu.aw (aF.put xw)
  have hn5:W.heap.size<=FF 5:=(jr.own 5 _ _ rfl).new
  have hn6:W.heap.size<=FF 6:=(jr.own 6 _ _ rfl).new
  have FG:Knows 28 ((4,.pointer (some ⟨g4,0,none⟩))::[(3,.pointer (some ⟨g3,0,none⟩)),(5,.pointer (some ⟨FF 5,0,none⟩)),(6,.pointer (some ⟨FF 6,0,none⟩))]) a2:=by
   refine⟨jr.defers,jr.size,λq hq=> ?_⟩
   simp only[List.mem_cons,List.not_mem_nil,or_false] at hq
   rcases hq with rfl|rfl|rfl|rfl
   ·exact⟨show 4<28 by decide,jr.tmp 4 _ rfl⟩
   ·exact⟨show 3<28 by decide,jr.tmp 3 _ rfl⟩
   ·exact⟨show 5<28 by decide,jr.tmp 5 _ rfl⟩
   ·exact⟨show 6<28 by decide,jr.tmp 6 _ rfl⟩
  have xy:=fI.lt
  replace ET:aE (W2.putObj ly (.loop r')) (FF 5) 144 #[.int .i64 (e:Int),.int .i64 (z:Int)]:=ET
  replace hc6:aE (W2.putObj ly (.loop r')) (FF 6) 27 #[.bool s,.slice q n l,.bool t',.slice y m d]:=hc6
  replace yw:aE (W2.putObj ly (.loop r')) g4 4 [.bool false].toArray:=yw
  generalize FF 5=b5 at ET hn5 FG
  generalize FF 6=b6 at hc6 hn6 FG
  clear jr Gu
  generalize W2.putObj ly (.loop r')=W3 at*
  have Iv:=hold W3 hB3
  have hc3:aE W3 g3 52 #[.slice p2 t2.length c2]:=(hB3.du _ h34.lt (λhm=>hg43 (List.mem_singleton.1 hm))).trans h34
  obtain⟨bq,oq,csq,rfl,hcq,⟨rv2,rfl,Dw⟩⟩:=hu.at ky
  obtain⟨jb,iW,rfl,hKc2,hKm2⟩:=Dw.form
  obtain⟨bx,ox,Jx,rfl,ku,hel2⟩:=Dw.at LL
  obtain⟨s2,q2,n2,l2,t2',y2',m2,d2,rfl,hel2'⟩:=hel2
  have mN:=(List.getElem?_eq_some_iff.1 LL).1
  have he2:=(List.getElem?_eq_some_iff.1 ky).1
  have uK:∀ {b off:Nat} {cs:List Value},(∀ (j:Nat) (u:Value),cs[j]? =some u->w.cell? ((⟨b,off,none⟩:Addr).add j)=some u)->∀ (j:Nat) (u:Value),cs[j]? =some u->Cx.At (cxA1 Tryz.prog W3 28 g4 (ad1 yw rfl rfl)) ((⟨b,off,none⟩:Addr).add j) u:=λh j u hj=>ik (λhm=>by
   have:=World.block_lt_of_cell? w _ (h j u hj)
   omega) (Iv.cell (h j u hj))
  refine fB.start (C:=cxA1 Tryz.prog W3 28 g4 (ad1 yw rfl rfl)) ?_ (Av _ _ FG yw rfl rfl) (aF.refl _ _)
  refine fB.block (fB.seq (fB.draw (cw.round _) (λ⟨_,_,h⟩=>(by rcases h.2 with h|h <;> cases h.1)) (mi _ _ _ _) (FA _ _ _ _) rfl rfl ?_))
  obtain⟨s0,q0,n0,l0,t0,y0,m0,d0,e0,tp⟩:=gr
  cases e0
  refine VO.eJ rfl [.bool s,.slice q n l,.bool t',.slice y m d] rfl (λj u hj=>ik (by rw[Addr.add_mid];show b6≠g4;omega) (kF (cs:=[.bool s,.slice q n l,.bool t',.slice y m d]) hc6 0 _ ⟨[],rfl⟩ j u hj)) (wV rfl ?_)
  refine VO.eJ rfl [.slice (some ⟨bq,oq,none⟩) t2.length c2] rfl (λj u hj=>ik (by rw[Addr.add_mid];exact hg43) (kF (cs:=[.slice (some ⟨bq,oq,none⟩) t2.length c2]) hc3 0 _ ⟨[],rfl⟩ j u hj)) (wV rfl ?_)
  refine VO.eJ rfl [.int .i64 (e:Int)] rfl (λj u hj=>ik (by rw[Addr.add_mid];show b5≠g4;omega) (kF (cs:=[.int .i64 (e:Int),.int .i64 (z:Int)]) ET 0 _ ⟨_,rfl⟩ j u hj)) (wV rfl ?_)
  refine VO.cond rfl dc (wV rfl ?_)
  refine VO.eJ rfl [.slice (some ⟨bx,ox,none⟩) r2.length iW] rfl (uK (ax hcq)) (wV rfl ?_)
  refine VO.eJ rfl [.int .i64 (z:Int)] rfl (λj u hj=>ik (by rw[Addr.add_mid];show b5≠g4;omega) (kF (cs:=[.int .i64 (e:Int),.int .i64 (z:Int)]) ET 1 _ ⟨_,rfl⟩ j u hj)) (wV rfl ?_)
  refine VO.cond rfl dc (wV rfl ?_)
  refine VO.eJ rfl [.bool s2,.slice q2 n2 l2,.bool t2',.slice y2' m2 d2] rfl (uK (er ku 0 _ ⟨[],rfl⟩)) (wV rfl ?_)
  refine VO.call rfl rfl (fk Tryz.func81) (λjj jk kD=>(CU _ _ x y2 j k jj (tp.kp (T:=λ_=>false) (kT hk3 jk)) ((hel2'.kp (Kp.of (U:=UU) Iv)).kp (T:=λ_=>false) jk) aa aa).mono ?_)
  rintro o w5 ⟨rfl,iR⟩
  by_cases uG:x=y2
  ·rw[decide_eq_true uG]
   refine⟨_,rfl,iR,λmE _ xT=>wV rfl ?_⟩
   refine wN (fB.aP rfl rfl (fB.skip (fB.du (fB.done λβ3 a5 W4 hr5 hk5=> ?_))))
   have hoc:aE W4 g4 4 #[.bool false]:=own1 (hr5.own 56 _ _ rfl) rfl
   have MP:eK [g4] W3 W4:=hr5.old.1
   refine⟨Cb.but MP (λg hg=>by rw[List.mem_singleton.1 hg];exact⟨_,_,yw⟩),.inl ⟨rfl,hB3.aw MP,hoc,Dx,λra sa h1 h2 n hn=> ?_⟩⟩
   have hn':n<z+1:=hn
   by_cases hnz:n=z
   ·subst hnz
    have e1:ra=r:=Option.some.inj (h1.symm.trans hr)
    have e2:sa=r2:=Option.some.inj (h2.symm.trans ky)
    rw[e1,e2,hx,LL,uG]
   ·exact LW ra sa h1 h2 n aa
  ·rw[decide_eq_false uG]
   refine⟨_,rfl,iR,λmE _ xT=>wV rfl ?_⟩
   refine wN (fB.aR rfl rfl (fB.seq (fB.region (cw.round _) (mi _ _ _ _) rfl rfl (wN (fB.ret λβ3 a5 W4 hr5 hk5=> ?_)))))
   have hoc:aE W4 g4 4 #[.bool false]:=own1 (hr5.own 56 _ _ rfl) rfl
   have MP:eK [g4] W3 W4:=hr5.old.1
   refine⟨Cb.but MP (λg hg=>by rw[List.mem_singleton.1 hg];exact⟨_,_,yw⟩),.inr ⟨rfl,hB3.aw MP,hoc,λheq=>uG ?_⟩⟩
   have e1:r=r2:=by
    rw[heq] at hr
    exact Option.some.inj (hr.symm.trans ky)
   rw[e1] at hx
   exact Option.some.inj (hx.symm.trans LL)
set_option maxRecDepth 4000
theorem aO.dropK {α:Type} {E:World->List Value->α->Prop} {sz:Nat} {w:World} {p:Option Addr} {n c k:Nat} {es:List α} (h:aO E sz w (.slice p n c) es) (hk:k<=n):aO E sz w (.slice (if c=k then p else p.map (·.add (k*sz))) (n-k) (c-k)) (es.drop k):=by
 obtain⟨p',d,e,h1,h2,h3⟩:=h
 cases e
 refine⟨_,_,by rw[List.length_drop],by rw[List.length_drop];omega,by omega,λi q hq=> ?_⟩
 have hlt:=(List.getElem?_eq_some_iff.1 hq).1
 rw[List.length_drop] at hlt
 rw[List.getElem?_drop,Nat.add_comm] at hq
 obtain⟨b',JZ,cs,rfl,h4,h5⟩:=h3 (i+k) q hq
 rw[if_neg aa]
 refine⟨b',JZ +k*sz,cs,by rw[Option.map_some,Addr.add_mid],λj u hj=> ?_,h5⟩
 have:=h4 j u hj
 rw[Nat.add_mul] at this
 rw[show JZ +k*sz+i*sz+j=JZ +(i*sz+k*sz)+j by omega]
 exact this
theorem Dy {kk:Nat} {w:World} {v:Value} {t:db} (h:aO (cM kk) 1 w v t) (hk:1<=kk):my t kk:=λr hr x hx=>by
 obtain⟨i,hi⟩:=List.getElem?_of_mem hr
 obtain⟨j,hj⟩:=List.getElem?_of_mem hx
 obtain⟨p,c,rfl⟩:=h.sl
 obtain⟨b,off,cs,rfl,hc,⟨u,rfl,hu⟩⟩:=h.at hi
 obtain⟨p2,c2,rfl⟩:=hu.sl
 obtain⟨_,_,_,_,_,⟨_,_,_,_,_,_,_,_,_,tp⟩⟩:=hu.at hj
 exact tp.sz hk
theorem MQ (u:Value) (a:List Rat) (kk g1:Nat) (p:Option Addr) (c:Nat) (l:List db) (t0:db) (r0:List Rat) (w:World) (hu:aO (sV kk) 4 w u a) (hg:w.cell? ⟨g1,0,none⟩=some (.slice p l.length c)) (hv:aO (yg kk) 1 w (.slice p l.length c) l) (h0:l[0]? =some t0) (h1:t0[0]? =some r0):
  Calls Tryz.prog 73 #[u,.pointer (some ⟨g1,0,none⟩)] w λo w'=>o=.returned (.bool (!decide (a.length=r0.length)))/\ak w w':=by
 obtain⟨pa,ca,rfl⟩:=hu.sl
 obtain⟨b,off,cs,rfl,hc,⟨v0,rfl,xJ⟩⟩:=hv.at h0
 obtain⟨p0,c0,rfl⟩:=xJ.sl
 obtain⟨b1,off1,cs1,rfl,kS,⟨v1,rfl,xz⟩⟩:=xJ.at h1
 obtain⟨p1,c1,rfl⟩:=xz.sl
 have e0:=(List.getElem?_eq_some_iff.1 h0).1
 have e1:=(List.getElem?_eq_some_iff.1 h1).1
 refine af (C:=aW Tryz.prog w _) (args:=[_,_]) Tryz.func73 rfl Tryz.ntmps73 (bP rfl) ?_
 refine ae ?_
 refine VO.read rfl [.slice (some ⟨b,off,none⟩) l.length c] rfl (bQ hg) (wV rfl ?_)
 refine ae ?_
 refine VO.cond rfl dc ?_
 refine wV rfl ?_
 refine ae ?_
 refine VO.read rfl [.slice (some ⟨b1,off1,none⟩) t0.length c0] rfl (ax (z:=0) hc) (wV rfl ?_)
 refine ae ?_
 refine VO.cond rfl dc ?_
 refine wV rfl ?_
 refine ae ?_
 refine VO.read rfl [.slice p1 r0.length c1] rfl (ax (z:=0) kS) (wV rfl ?_)
 refine ae ?_
 refine aX ?_;intro wz kz bz
 refine⟨?_,bz⟩
 by_cases h:a.length=r0.length
 ·rw[h];simp[ir]
 ·have:¬ ((a.length:Int)=(r0.length:Int)):=by omega
  simp[ir,h,this]
theorem MR (u:Value) (t:db) (kk g1:Nat) (p:Option Addr) (c:Nat) (l:List db) (t0:db) (w:World) (hu:aO (cM kk) 1 w u t) (hg:w.cell? ⟨g1,0,none⟩=some (.slice p l.length c)) (hv:aO (yg kk) 1 w (.slice p l.length c) l) (h0:l[0]? =some t0):
  Calls Tryz.prog 75 #[.agg #[u],.pointer (some ⟨g1,0,none⟩)] w λo w'=>o=.returned (.bool (!decide (cJ t=cJ t0)))/\ak w w':=by
 obtain⟨pa,ca,rfl⟩:=hu.sl
 obtain⟨b,off,cs,rfl,hc,⟨v0,rfl,xJ⟩⟩:=hv.at h0
 obtain⟨p0,c0,rfl⟩:=xJ.sl
 have e0:=(List.getElem?_eq_some_iff.1 h0).1
 refine af (C:=aW Tryz.prog w _) (args:=[_,_]) Tryz.func75 rfl Tryz.ntmps75 (bP rfl) ?_
 refine ae ?_
 refine VO.read rfl [.slice (some ⟨b,off,none⟩) l.length c] rfl (bQ hg) (wV rfl ?_)
 refine ae ?_
 refine VO.cond rfl dc ?_
 refine wV rfl ?_
 refine ae ?_
 refine VO.read rfl [.slice p0 t0.length c0] rfl (ax (z:=0) hc) (wV rfl ?_)
 refine ae ?_
 refine VO.cB rfl rfl (fk Tryz.func76) (λbo cj bD=>zy _ _ t t0 kk kk bo (hu.cP (bG kk) bD) (xJ.cP (bG kk) bD)) (λbo cj bD w1 aL dh _ bb1=>wV rfl ?_)
 refine ae ?_
 refine aX ?_;intro wz kz bz
 exact⟨rfl,bz⟩
abbrev FH (P:Program) (w:World) (N:Nat) (ds:List Deferred):Cx:=IU (yk P w N) ds
theorem GX (w:World) (N:Nat) {ds:List Deferred}:(FH Tryz.prog w N ds).Ok:=dA
section
variable {F F':Fr} {H H':Hp} {w w1:World} {N:Nat} {l':List Oper} {Q:Exit->Act->World->Prop} {k:List It} {id:Nat} {ops:Array Oper} {ds:List Deferred}
theorem cxDQ_r (e:gl (FH Tryz.prog w1 N ds) ops 80 ops.toList F H=(l',F',H')) (h:ar (FH Tryz.prog w1 N ds) none ops l' (VS (FH Tryz.prog w1 N ds) Q k) F' H' w):VS (FH Tryz.prog w1 N ds) Q (.code (.region id ops false)::k) F H w:=VS.region (GX _ _) (VO.run 80 e h)
end
theorem tg {n k:Nat} {t:db} (h:lE n k t):cJ t=List.replicate n k:=by
 unfold cJ
 apply List.ext_getElem?
 intro i
 rw[List.getElem?_map,List.getElem?_replicate]
 by_cases hi:i<n
 ·obtain⟨r,hr⟩:∃ r,t[i]? =some r:=⟨_,List.getElem?_eq_getElem (by rw[h.1];exact hi)⟩
  rw[if_pos hi,hr,Option.map_some,h.2 r (List.mem_of_getElem? hr)]
 ·rw[if_neg hi,List.getElem?_eq_none (by rw[h.1];omega)];rfl
theorem AJ {n k:Nat} {t u:db} (h:lE n k t) (hl:cJ u=cJ t):lE n k u:=by
 rw[tg h] at hl
 have h1:u.length=n:=by have:=congrArg List.length hl;simpa [cJ] using this
 refine⟨h1,λr hr=> ?_⟩
 have:r.length∈cJ u:=List.mem_map.2 ⟨r,hr,rfl⟩
 rw[hl] at this
 exact (List.mem_replicate.1 this).2
theorem AK {P Q:Prop} (h:Q) (i:Q->P:=by intro h;(repeat first|refine wN ?_|refine wP rfl ?_|refine cxDQ_r rfl ?_|refine cxDQ_d rfl ?_|refine wO rfl rfl ?_);exact h):P:=i h
set_option maxRecDepth 4000 in
theorem MS (v:Value) (l:List db) (kk:Nat) (w:World) (hv:aO (yg kk) 1 w v l) (qn:1<=kk) (hk:kk<=100) (hl:l.length<=100) (hb:∀ t∈l,t.length<=100000) (aY:∀ t∈l,∀ r∈t,r.length<=100000):
  Calls Tryz.prog 26 #[v] w λo w'=>∃ r,o=.returned (.tuple #[.agg #[r],.int .i64 (Mj (uz l))])/\di (1+(l.length+1)*(kk+1)) w.heap.size w' r ((uz l).getD [])/\ak w w':=by
 obtain⟨p,c,rfl,hNc,fm⟩:=hv.form
 obtain⟨KK,Ml⟩:∃ KK,KK=1+(l.length+1)*(kk+1):=⟨_,rfl⟩
 have hKb:KK<=1000000:=by
  have:(l.length+1)*(kk+1)<=101*101:=Nat.mul_le_mul aa aa
  omega
 rw[<-Ml]
 refine tR (C:=yk Tryz.prog w _) (args:=[_]) Tryz.func26 rfl Tryz.ntmps26 (bP rfl) ?_
 refine bL ?_
 cases l with
 | nil=>
   refine VS.aR rfl (GB rfl) ?_
   refine bL ?_
   refine VS.retM (kE _ _) rfl rfl (λwz kz bz=> ?_)
   exact⟨_,rfl,di.nil _ _ _,bz⟩
 | cons t0 rest=>
 refine VS.aP rfl (GC (by rw[List.length_cons];omega)) ?_
 obtain⟨l,Jk⟩:∃ l,l=t0::rest:=⟨_,rfl⟩
 have h0:l[0]? =some t0:=by rw[Jk];rfl
 have sW:1<=l.length:=by rw[Jk,List.length_cons];omega
 have hsn:szN l=t0.length:=by rw[Jk];rfl
 have hsk:szK l=(t0.headD []).length:=by rw[Jk];rfl
 rw[<-Jk] at hv hNc hl hb aY Ml ⊢
 clear Jk rest
 have hv':=hv
 obtain⟨b,off,cs,rfl,hc,⟨v0,rfl,xJ⟩⟩:=hv'.at h0
 obtain⟨p0,c0,rfl⟩:=xJ.sl
 obtain⟨r00,hr00⟩:∃ r,r=t0.headD []:=⟨_,rfl⟩
 have hhd:∀ a∈t0,t0[0]? =some r00:=λa ha=>by
  cases t0 with
  | nil=>cases ha
  | cons x y=>rw[hr00];rfl
 have hm0:=List.mem_of_getElem? h0
 refine bL ?_
 refine VO.cond rfl dc ?_
 refine wV rfl ?_
 refine bL ?_
 refine VO.read rfl [.slice p0 t0.length c0] rfl (ax (z:=0) hc) (wV rfl ?_)
 refine bL ?_
 refine VO.wq rfl (fk Tryz.func72) (λbo β cj bD ho=>(MI 73 (.pointer (some ⟨β 1,0,none⟩)) (λa=> !decide (a.length=r00.length)) kk (fk Tryz.func73) _ t0 bo (xJ.cP (bG kk) bD) (λu a w1 aL hE hm=>MQ u a kk (β 1) (some ⟨b,off,none⟩) c l t0 r00 w1 hE (aL.cell ((ho.own 1 (.base (List.mem_singleton.2 rfl)) _ _ rfl).cls.cell (j:=0) rfl)) (hv.cP (xd kk) (ak.aw bD aL)) h0 (hhd a hm))).mono ?_)
 rintro o w1 ⟨rfl,aL⟩
 cases hany:t0.any (λa=> !decide (a.length=r00.length)) with
 | true=>
   refine xn aL ?_
   intro dh _ bb1
   refine VS.retM (kE _ _) rfl rfl (λwz kz bz=> ?_)
   have wj:uz l=none:=oG h0 (λhe=>by
    obtain⟨a,ha,hq⟩:=List.any_eq_true.1 hany
    have:=he.2 a ha
    rw[hsk,<-hr00] at this
    simp[this] at hq)
   rw[wj]
   exact⟨_,rfl,di.nil _ _ _,bz⟩
 | false=>
 have hev0:lE (szN l) (szK l) t0:=⟨hsn.symm,λa ha=>by
  have:=List.any_eq_false.1 hany a ha
  simp at this
  rw[hsk,<-hr00];exact this⟩
 refine xn aL ?_
 intro dh _ bb1
 refine VO.wq rfl (fk Tryz.func74) (λcA β dG cV ho=>(ML 75 (.pointer (some ⟨β 1,0,none⟩)) (λt=> !decide (cJ t=cJ t0)) kk (fk Tryz.func75) _ l cA (hv.cP (xd kk) cV) (λu a w1 aL hE hm=>MR u a kk (β 1) (some ⟨b,off,none⟩) c l t0 w1 hE (aL.cell ((ho.own 1 (.base (List.mem_singleton.2 rfl)) _ _ rfl).cls.cell (j:=0) rfl)) (hv.cP (xd kk) (ak.aw cV aL)) h0)).mono ?_)
 rintro o w2 ⟨rfl,hb2'⟩
 cases hany2:l.any (λt=> !decide (cJ t=cJ t0)) with
 | true=>
   refine⟨_,rfl,hb2',λeU _ bb2=>wV rfl ?_⟩
   refine bL ?_
   refine VS.retM (kE _ _) rfl rfl (λwz kz bz=> ?_)
   have wj:uz l=none:=by
    obtain⟨t,ht,hq⟩:=List.any_eq_true.1 hany2
    obtain⟨i,hi⟩:=List.getElem?_of_mem ht
    refine oG hi (λhe=> ?_)
    rw[tg he,tg hev0] at hq
    simp at hq
   rw[wj]
   exact⟨_,rfl,di.nil _ _ _,bz⟩
 | false=>
 have hev:∀ (i:Nat) (t:db),l[i]? =some t->lE (szN l) (szK l) t:=λi t hi=>AJ hev0 (by
  have:=List.any_eq_false.1 hany2 t (List.mem_of_getElem? hi)
  simpa using this)
 have hsum:=zx hev
 rw[hsum]
 refine⟨_,rfl,hb2',λeU _ bb2=>wV rfl ?_⟩
 refine bL ?_
 refine VO.cond rfl dc ?_
 refine wV rfl ?_
 refine bL ?_
 refine VO.read rfl [.slice p0 t0.length c0] rfl (ax (z:=0) hc) (wV rfl ?_)
 refine bL ?_
 refine VO.call rfl rfl (fk Tryz.func77) (λeD eW fN=>(tY _ t0 kk eD (xJ.cP (bG kk) fN) qn aa (hb t0 hm0) (aY t0 hm0)).mono ?_)
 rintro o w3 ⟨r3,rfl,q3,cK⟩
 obtain⟨p3,c3,rfl⟩:=q3.form
 refine xn cK ?_
 intro iM _ bb3
 obtain⟨pt,hpt⟩:∃ pt,pt=if c=1 then some ⟨b,off,none⟩ else (some ⟨b,off,none⟩:Option Addr).map (·.add (1*1)):=⟨_,rfl⟩
 have hvd:=hv.dropK (k:=1) sW
 rw[<-hpt] at hvd
 obtain⟨N1,hN1'⟩:∃ N1,N1=l.length-1:=⟨_,rfl⟩
 rw[<-hN1'] at hvd
 refine VO.cond rfl ⟨by decide,by show (1:Int)<=(l.length:Int);omega,by show (l.length:Int)<=(c:Int);omega,by omega⟩ ?_
 refine VO.fix 34 rfl (congrArg AV.val (show Value.slice (if c=1 then some ⟨b,off,none⟩ else (some ⟨b,off,none⟩:Option Addr).map (·.add (1*1))) (l.length-1) (c-1)=Value.slice pt N1 (c-1) by rw[hpt,hN1'])) ?_
 refine wV rfl ?_
 refine bL ?_
 obtain⟨n,hn⟩:∃ n,n=szN l:=⟨_,rfl⟩
 obtain⟨k,xA⟩:∃ k,k=szK l:=⟨_,rfl⟩
 rw[<-hn,<-xA] at hev0
 rw[<-hn,<-xA]
 have hev':∀ (i:Nat) (t:db),l[i]? =some t->lE n k t:=λi t hi=>by rw[hn,xA];exact hev i t hi
 have hsz:∀ t∈l,my t kk:=λt ht=>by
  obtain⟨i,hi⟩:=List.getElem?_of_mem ht
  obtain⟨_,_,_,he,hcz,⟨vz,rfl,hz⟩⟩:=hv.at hi
  exact Dy hz qn
 refine VS.loopD (J:=λm L ds W=>∃ (z:Nat) (Ds:List Nat) (g2 g5:Nat) (tv:Value),z<=N1/\m=N1-z/\L=[(2,.pointer (some ⟨g2,0,none⟩)),(5,.pointer (some ⟨g5,0,none⟩)),(34,.slice pt N1 (c-1)),(35,.int .i64 (N1:Int)),(36,.int .i64 (z:Int))]/\ds=marks Ds/\Opn Ds W/\(∀ D∈Ds,w.heap.size<=D)/\ak w W/\w.heap.size<=g2/\g2≠g5/\aE W g2 52 #[.slice none 0 0]/\aE W g5 52 #[tv]/\di KK w.heap.size W tv (kh n k (fu l (z+1) 0 0)))
  (λds W=>FH Tryz.prog W 50 ds) (λ_ _=>rfl) (λ_ _=>rfl) (λ_ _=>ak.refl _) N1 (λw' β k' o en=> ?_) ?_
 ·refine⟨[(2,.pointer (some ⟨β 2,0,none⟩)),(5,.pointer (some ⟨β 5,0,none⟩)),(34,.slice pt N1 (c-1)),(35,.int .i64 (N1:Int)),(36,.int .i64 ((0:Nat):Int))],⟨⟨_,_,rfl,rfl,rfl⟩,⟨_,_,rfl,rfl,rfl⟩,⟨_,_,rfl,rfl,rfl⟩,⟨_,_,rfl,rfl,rfl⟩,⟨_,_,rfl,rfl,rfl⟩,trivial⟩,0,[],β 2,β 5,_,by omega,rfl,rfl,rfl,⟨List.nodup_nil,λD h=>(by cases h)⟩,λD h=>(by cases h),o,(en.own 2 _ _ rfl).new,(λh=>absurd (en.apart 2 5 (by intro h;cases h) (by intro h;cases h) h) bZ),(en.own 2 _ _ rfl).cls,(en.own 5 _ _ rfl).cls,?_⟩
  rw[mid_one h0 hev0]
  have hle:kk<=KK:=by
   have:1*(kk+1)<=(l.length+1)*(kk+1):=Nat.mul_le_mul_right _ aa
   omega
  exact ((q3.o.kp (show jB TQ w3 w' from eS) rfl rfl).up hle).mono fN.size
 rintro m L ds W ⟨z,Ds,g2,g5,tv,hz,rfl,rfl,rfl,hop,hDs,fT,hg2W,hg25,DD,hg5,hT⟩
 obtain⟨pv,cv,rfl⟩:=hT.form
 rw[km] at hg5 hT
 refine AK ?_
 by_cases hlt:z<N1
 rotate_left
 ·refine VS.aP rfl (decide_eq_false (λe=>hlt (Int.ofNat_lt.1 e))) ?_
  (repeat (first|refine wN ?_|refine wP rfl ?_|refine wO rfl rfl ?_))
  have hzl:z+1=l.length:=by omega
  rw[hzl,Dt] at hT
  refine VS.adopt1 (KU UU) (λt=>Nat.beq t UU) table (λ_ _ _=>trivial) 2 g2 52 [.slice none 0 0] rfl rfl (λw' β k' o' oy=>⟨[(5,.pointer (some ⟨g5,0,none⟩))],DD.aB o',⟨⟨_,_,rfl,rfl,rfl⟩,⟨_,_,rfl,rfl,rfl⟩,trivial⟩,?_⟩)
  have o9:ak W w':=o'
  have hopn:∀ w1,eK [g2] w' w1->Opn Ds w1:=λw1 h1=>⟨hop.nodup,λD hD=>by
   have hlD:=(Array.getElem?_eq_some_iff.1 (hop.at_ D hD)).1
   refine (h1.du _ (Nat.lt_of_lt_of_le hlD o9.size) (λhm=> ?_)).trans ((Below.block o9 _ hlD).trans (hop.at_ D hD))
   rw[List.mem_singleton.1 hm] at hD
   have:=(hop.at_ g2 hD).symm.trans DD
   cases this⟩
  refine VS.region (xu (mi _ _ _ _)) (wV rfl ?_)
  refine VO.eJ rfl [.slice pv n cv] rfl (λj u hj w1 h1=>bQ (((hg5.aB o9).but (show eK [g2] w' w1 from h1.1) (by simp;exact λh=>hg25 h.symm)).cell (j:=0) rfl) j u hj) (wV rfl ?_)
  refine wN ?_
  refine VS.retD Ds (xu (mi _ _ _ _)) rfl rfl rfl (λw1 h1=>hopn w1 h1.1) (λ_=>trivial) (λw1 w2 k1 h1 hs=>⟨_,rfl,?_,?_⟩)
  ·exact hT.kp (T:=λt=> !Nat.beq t 52) (((aF.of o9).aw (eK.kp h1.1 (λx hx=>⟨52,[.slice none 0 0],by rw[List.mem_singleton.1 hx];exact DD.aB o9,rfl,rfl⟩))).aw (hs.kps (hopn w1 h1.1).at_)) rfl rfl
  ·exact hs.aB (eK.aB (fT.aw o9) h1.1 (λx hx=>by rw[List.mem_singleton.1 hx];exact hg2W)) hDs
 obtain⟨tz,htz⟩:∃ x,(l.drop 1)[z]? =some x:=⟨_,List.getElem?_eq_getElem (by rw[List.length_drop];omega)⟩
 have htz1:l[z+1]? =some tz:=by rw[List.getElem?_drop,Nat.add_comm] at htz;exact htz
 have hevz:=hev' (z+1) tz htz1
 obtain⟨bz,oz,csz,rfl,hcz,⟨vz,rfl,hvz⟩⟩:=hvd.at htz
 obtain⟨pz,cz,rfl⟩:=hvz.sl
 refine VS.aR rfl (decide_eq_true (Int.ofNat_lt.2 hlt)) ?_
 refine AK ?_
 refine VO.cond rfl dc ?_
 refine wV rfl ?_
 refine AK ?_
 refine VO.read rfl [.slice pz tz.length cz] rfl (λj u hj=>fT.cell (ax hcz j u hj)) (wV rfl ?_)
 (repeat (first|refine wN ?_|refine wP rfl ?_|refine wO rfl rfl ?_))
 refine VS.GD (GX _ _) 1 rfl rfl rfl (wV rfl ?_)
 refine wN ?_
 refine⟨_,_,_,rfl,rfl,fk Tryz.func78,λw3 k3 o3=>(GU pz tz.length cz w3).mono ?_⟩
 rintro e w4 ⟨B1,rfl,Mg,vD,gj⟩
 refine⟨_,rfl,gj,λβ a3 a4 hr3 MO k4=> ?_⟩
 have hW4:ak W w4:=ak.aw o3 gj
 have iX:ak w w4:=fT.aw hW4
 have hg24:=DD.aB hW4
 have hg54:=hg5.aB hW4
 have hop4:Opn Ds w4:=⟨hop.nodup,λD hD=>(Below.block hW4 _ (Array.getElem?_eq_some_iff.1 (hop.at_ D hD)).1).trans (hop.at_ D hD)⟩
 have FE:a4.tmps.size=50:=MO.size
 have ht5:a4.tmps.getD 5 undef=.pointer (some ⟨g5,0,none⟩):=MO.tmp 5 _ rfl
 obtain⟨us,lz⟩:=GV hvz
 have htzl:tz.length=n:=hevz.1
 refine VS.goB ?_
 refine tS .ret .ret (.inl ⟨rfl,rfl⟩) (MO.tmp 41 _ rfl) (enters_of Tryz.func138 (by kernel_rfl) rfl) (0,0) (MvT tz)
  (λi W'=>ak w W'/\Opn Ds W'/\jB TX w4 W'/\di KK w.heap.size W' (.slice pv n cv) (kh n k (fu l (z+1) i.1 i.2)))
  (λ_=>False) (PrT tz kk) (FinT tz) ?hput ?hputX ?hmv ?hbeh ?hbehX ?h0 ?hps ?hseq ?hround ?hdone ?hleave
 case hput=>
  rintro i W' l' r r' ⟨j1,j2,j3,j4⟩ Ht hq
  refine⟨eK.aB (ak.refl w) ((eK.of j1:eK [] w W').put (Nat.le_trans iX.size Ht) _) (λg hg=>by cases hg),⟨j2.nodup,λD hD=> ?_⟩,j3.aw (aF.put hq),j4.kp (T:=λ_=>true) (aF.put hq) rfl rfl⟩
  refine (World.putObj_heap_other (λh=> ?_)).trans (j2.at_ D hD)
  have:=(j2.at_ D hD)
  rw[h,hq] at this
  cases this
 case hputX=>exact λW' l' r r' h=>h.elim
 case hmv=>
  rintro⟨e,q⟩ i' W' ⟨r,hr,hq,rfl⟩ ⟨j1,j2,j3,j4⟩
  refine⟨j1,j2,j3,?_⟩
  have hrk:r.length=k:=hevz.2 r (List.mem_of_getElem? hr)
  have hq':q=k:=Eq.trans hq hrk
  rw[<-GP]
  rw[hq'] at j4
  exact j4
 case hbeh=>
  rintro i W' W'' ⟨j1,j2,j3,j4⟩ hb
  exact⟨j1.aw hb,⟨j2.nodup,λD hD=>(Below.block hb _ (Array.getElem?_eq_some_iff.1 (j2.at_ D hD)).1).trans (j2.at_ D hD)⟩,j3.aw (aF.of hb),j4.aB hb⟩
 case hbehX=>exact λW' W'' h=>h.elim
 case h0=>exact⟨iX,hop4,aF.refl _ _,hT.aB hW4⟩
 case hps=>
  rintro i i' vs W' ⟨r,x,s,q,n',l',t',y,m,d,-,-,rfl,-⟩
  rfl
 case hseq=>
  intro ly J' AP W' kG hmv' hJ' Fk hJJ hY h0'
  refine callsIn_wide.2 (Dv us tz kk ly B1 pz tz.length cz J' AP rfl (λi W2 h=> ?_) hmv' hJ' Fk hY W' h0')
  obtain⟨j1,-,j3,-⟩:=hJJ i W2 h
  exact⟨lz.aB j1,j3.block _ B1 _ rfl trivial Mg⟩
 case hleave=>exact λD W' _ h=>h.elim
 case hdone=>
  rintro D i W' hD hi ⟨j1,j2,j3,j4⟩ JC
  cases hi
  rw[htzl] at j4
  rw[GQ htz1] at j4
  refine VS.goD (D:=FH Tryz.prog W' 50 (marks (D::Ds))) (L:=[(2,.pointer (some ⟨g2,0,none⟩)),(5,.pointer (some ⟨g5,0,none⟩)),(34,.slice (some ⟨bz,oz,none⟩) N1 (c-1)),(35,.int .i64 (N1:Int)),(36,.int .i64 (z:Int))]) rfl rfl (ak.refl _) MO ⟨⟨_,_,rfl,rfl,rfl⟩,⟨_,_,rfl,rfl,rfl⟩,⟨_,_,rfl,rfl,rfl⟩,⟨_,_,rfl,rfl,rfl⟩,⟨_,_,rfl,rfl,rfl⟩,trivial⟩ ?_
  refine AK ?_
  refine VS.backD rfl (N1-(z+1)) aa (λw' bu k' o' oy=> ?_)
  have o9:ak W' w':=o'
  have hnD:D∉Ds:=λhm=>by
   have:=(Array.getElem?_eq_some_iff.1 (hop4.at_ D hm)).1
   omega
  refine⟨[(2,.pointer (some ⟨g2,0,none⟩)),(5,.pointer (some ⟨g5,0,none⟩)),(34,.slice (some ⟨bz,oz,none⟩) N1 (c-1)),(35,.int .i64 (N1:Int)),(36,.int .i64 ((z+1:Nat):Int))],⟨⟨_,_,rfl,rfl,rfl⟩,⟨_,_,rfl,rfl,rfl⟩,⟨_,_,rfl,rfl,rfl⟩,⟨_,_,rfl,rfl,rfl⟩,⟨_,_,rfl,congrArg (λz=>Value.int .i64 z) (aD (i:=z) aa),rfl⟩,trivial⟩,z+1,D::Ds,g2,g5,_,by omega,rfl,rfl,rfl,⟨List.nodup_cons.2 ⟨hnD,j2.nodup⟩,λE hE=> ?_⟩,λE hE=> ?_,j1.aw o9,hg2W,hg25,(show aE W' g2 52 #[.slice none 0 0] from j3.block _ g2 _ rfl trivial hg24).aB o9,(show aE W' g5 52 #[.slice pv n cv] from j3.block _ g5 _ rfl trivial hg54).aB o9,j4.aB o9⟩
  ·rcases List.mem_cons.1 hE with rfl|hE
   ·exact (Below.block o9 _ (Array.getElem?_eq_some_iff.1 JC).1).trans JC
   ·exact (Below.block o9 _ (Array.getElem?_eq_some_iff.1 (j2.at_ E hE)).1).trans (j2.at_ E hE)
  ·rcases List.mem_cons.1 hE with rfl|hE
   ·exact Nat.le_trans iX.size hD
   ·exact hDs E hE
 case hround=>
  rintro ly ⟨e,q⟩ i' vs W' kJ ⟨j1,j2,j3,j4⟩ ⟨r,x,s,qq,n',l',t',y,m,d,hr,hx,rfl,gr,rfl⟩ ⟨rr,hrr⟩
  replace hr:tz[e]? =some r:=hr
  replace hx:r[q]? =some x:=hx
  replace j4:di KK w.heap.size W' (.slice pv n cv) (kh n k (fu l (z+1) e q)):=j4
  have hen:e<n:=by rw[<-htzl];exact (List.getElem?_eq_some_iff.1 hr).1
  have hqk:q<k:=by rw[<-hevz.2 r (List.mem_of_getElem? hr)];exact (List.getElem?_eq_some_iff.1 hx).1
  refine fB.start (C:=aW Tryz.prog W' 50) ?_ (Knows.rel (L:=[(5,.pointer (some ⟨g5,0,none⟩)),(42,.agg #[.int .i64 (e:Int),.int .i64 (q:Int)]),(43,.agg #[.bool s,.slice qq n' l',.bool t',.slice y m d])]) ?hkn (ak.refl W')) (aF.refl _ _)
  case hkn=>
   refine⟨rfl,by simp[FE],λq hq=> ?_⟩
   simp only[List.mem_cons,List.not_mem_nil,or_false] at hq
   rw[Array.getD_eq_getD_getElem?] at ht5 ⊢
   rcases hq with rfl|rfl|rfl
   ·refine⟨show 5<50 by decide,?_⟩
    simpa [Array.getElem?_setIfInBounds] using ht5
   ·refine⟨show 42<50 by decide,?_⟩
    simp[Array.getElem?_setIfInBounds,FE]
   ·refine⟨show 43<50 by decide,?_⟩
    simp[Array.getElem?_setIfInBounds,FE]
  refine fB.seq (fB.region (cw.round _) (bO _ _) rfl rfl (wN (fB.region (cw.round _) (bO _ _) rfl rfl (wN (fB.done λFF a2 W2 jr Gu=> ?_)))))
  refine⟨jr.old,λr'=> ?_⟩
  have Jl:ak W' W2:=jr.old
  have xw:W2.heap[ly]? =some (.loop rr):=(Below.block Jl _ (Array.getElem?_eq_some_iff.1 hrr).1).trans hrr
  have hc8:=(jr.own 8 _ _ rfl).cls.put xw (.loop r')
  have hc9:=(jr.own 9 _ _ rfl).cls.put xw (.loop r')
  have ET:=((show aE W' g5 52 #[.slice pv n cv] from j3.block _ g5 _ rfl trivial hg54).aB Jl).put xw (.loop r')
  have FG:Knows 50 [(5,.pointer (some ⟨g5,0,none⟩)),(8,.pointer (some ⟨FF 8,0,none⟩)),(9,.pointer (some ⟨FF 9,0,none⟩))] a2:=by
   refine⟨jr.defers,jr.size,λq hq=> ?_⟩
   simp only[List.mem_cons,List.not_mem_nil,or_false] at hq
   rcases hq with rfl|rfl|rfl
   ·exact⟨show 5<50 by decide,jr.tmp 5 _ rfl⟩
   ·exact⟨show 8<50 by decide,jr.tmp 8 _ rfl⟩
   ·exact⟨show 9<50 by decide,jr.tmp 9 _ rfl⟩
  have cK:ak w (W2.putObj ly (.loop r')):=eK.aB (ak.refl w) ((eK.of (j1.aw Jl):eK [] w W2).put (Nat.le_trans iX.size kJ) _) (λg hg=>by cases hg)
  have hop3:Opn Ds (W2.putObj ly (.loop r')):=⟨j2.nodup,λD hD=>by
   refine (World.putObj_heap_other (λh=> ?_)).trans ((Below.block Jl _ (Array.getElem?_eq_some_iff.1 (j2.at_ D hD)).1).trans (j2.at_ D hD))
   have:=j2.at_ D hD
   rw[h,hrr] at this
   cases this⟩
  have hk3:jB TX w4 (W2.putObj ly (.loop r')):=(j3.aw (aF.of Jl)).aw (aF.put xw)
  have hT3:di KK w.heap.size (W2.putObj ly (.loop r')) (.slice pv n cv) (kh n k (fu l (z+1) e q)):=(j4.aB Jl).kp (T:=λ_=>true) (aF.put xw) rfl rfl
  have hkx3:Kp UU W' (W2.putObj ly (.loop r')):=Gu.aw (aF.put xw)
  replace hc8:aE (W2.putObj ly (.loop r')) (FF 8) 144 #[.int .i64 (e:Int),.int .i64 (q:Int)]:=hc8
  replace hc9:aE (W2.putObj ly (.loop r')) (FF 9) 27 #[.bool s,.slice qq n' l',.bool t',.slice y m d]:=hc9
  replace ET:aE (W2.putObj ly (.loop r')) g5 52 #[.slice pv n cv]:=ET
  generalize FF 8=b8 at hc8 FG
  generalize FF 9=b9 at hc9 FG
  clear jr Gu
  generalize W2.putObj ly (.loop r')=W3 at*
  refine fB.start (C:=aW Tryz.prog W3 50) ?_ (FG.rel (C:=aW Tryz.prog W3 50) (ak.refl W3)) (aF.refl _ _)
  refine fB.block (fB.regionE (cw.round _) (bO _ _) 3 rfl rfl rfl (wV rfl ?_))
  refine VO.read rfl [.slice pv n cv] rfl (kF (cs:=[.slice pv n cv]) ET 0 _ ⟨[],rfl⟩) (wV rfl ?_)
  refine VO.read rfl [.int .i64 (e:Int),.int .i64 (q:Int)] rfl (kF (cs:=[.int .i64 (e:Int),.int .i64 (q:Int)]) hc8 0 _ ⟨[],rfl⟩) (wV rfl ?_)
  refine VO.read rfl [.bool s,.slice qq n' l',.bool t',.slice y m d] rfl (kF (cs:=[.bool s,.slice qq n' l',.bool t',.slice y m d]) hc9 0 _ ⟨[],rfl⟩) (wV rfl ?_)
  refine wN ?_
  refine⟨_,_,_,rfl,rfl,fk Tryz.func64,λw6 k6 o6=> ?_⟩
  have og:ak W3 w6:=o6
  obtain⟨s0,q0,n0,l0,t0',y0,m0,d0,e0,tp⟩:=gr
  cases e0
  have hcell:kj tz e q=x:=xt hr hx
  have hnext:qh (kh n k (fu l (z+1) e q)) e q x=kh n k (fu l (z+1) e (q+1)):=by
   rw[xr hen hqk,<-hcell,Dr htz1]
  have hRS:gn (fu l (z+1) e q e q+x) KK:=by
   have h9:=MG (n:=n) (k:=k) (e:=e) (c:=q+1) hsz qn (i:=z+1) aa
   rw[<-hnext,xr hen hqk] at h9
   have h10:=h9 _ (List.mem_of_getElem? (td hen)) _ (List.mem_of_getElem? (xq (f:=λe' c'=>if e'=e/\c'=q then fu l (z+1) e q e' c' +x else fu l (z+1) e q e' c') (e:=e) hqk))
   rw[if_pos ⟨rfl,rfl⟩] at h10
   refine h10.mono ?_
   have:(z+1+1)*(kk+1)<=(l.length+1)*(kk+1):=Nat.mul_le_mul_right _ aa
   omega
  refine (zo (.slice pv n cv) _ (kh n k (fu l (z+1) e q)) _ _ x e q w.heap.size KK kk w6 (hT3.aB og) ((tp.kp (T:=λ_=>false) hkx3).kp (Kp.of (U:=UU) og)) (td hen) (xq hqk) hKb aa hRS).mono ?_
  rintro o w7 ⟨rfl,hT7,hkx,hold,hcb⟩
  refine⟨_,rfl,λa'=>⟨(Cb.aB og).aw hcb,.inl ⟨rfl,hold w (cK.aw og) (Nat.le_refl _),⟨hop3.nodup,λD hD=> ?_⟩,(hk3.aw (aF.of og)).aw hkx,?_⟩⟩⟩
  ·exact ((Cb.aB og).aw hcb).du D _ (hop3.at_ D hD) (by intro _ _ _ e;cases e)
  ·rw[hnext] at hT7
   exact hT7
set_option maxRecDepth 4000
theorem mJ.tight {j k:Nat} {w:World} {cs:List Value} {q:Rat} (h:mJ j w cs q) (hs:gn q k):mJ k w cs q:=by
 obtain⟨s,p,n,c,t,y,m,d,hv,h1,_⟩:=h
 exact⟨_,_,_,_,_,_,_,_,hv,h1,hs⟩
theorem dW.impM {α:Type} {E E':World->List Value->α->Prop} {w:World}:∀ {es:List α} {vs:List (List Value)},dW E w es vs->(∀ a∈es,∀ cs,E w cs a->E' w cs a)->dW E' w es vs
 | _,_,.nil,_=>.nil
 | _,_,.cons h t,hm=>.cons (hm _ (List.mem_cons_self ..) _ h) (t.impM λa ha=>hm a (List.mem_cons_of_mem _ ha))
theorem aC.impM {α:Type} {E E':World->List Value->α->Prop} {sz B:Nat} {t:TypeId} {w:World} {v:Value} {es:List α} (h:aC E sz t B w v es) (hm:∀ a∈es,∀ cs,E w cs a->E' w cs a):aC E' sz t B w v es:=by
 rcases h with h|⟨b,c,vs,sp,g1,g2,g3,g4,g5⟩
 ·exact .inl h
 ·exact .inr ⟨b,c,vs,sp,g1,g2,g3,g4.impM hm,g5⟩
theorem eu.tight {j k B:Nat} {t1 t2:TypeId} {w:World} {v:Value} {t:db} (h:eu (mJ j) t1 t2 B w v t) (hs:my t k):eu (mJ k) t1 t2 B w v t:=by
 obtain⟨us,g1,g2,g3,g4⟩:=h
 exact⟨us,g1,g2,λi u r hi hr=>(g3 i u r hi hr).impM (λa ha cs hE=>hE.tight (hs r (List.mem_of_getElem? hr) a ha)),g4⟩
theorem rowsA_e {kk:Nat} {w:World} {v:Value} {t:db} (h:aO (iL (mJ kk)) 1 w v t):aO (cM kk) 1 w v t:=h.mono (λi r cs hr hb=>by
 obtain⟨u,rfl,h1⟩:=hb
 exact⟨u,rfl,h1.mono (λk x cs hx hb=>by
  obtain⟨s,p,n,c,t,y,m,d,rfl,g1,g2⟩:=hb
  exact⟨_,_,_,_,_,_,_,_,rfl,g1.in g2⟩)⟩)
theorem bj {P Q:Prop} (h:Q) (i:Q->P:=by intro h;(repeat first|refine wN ?_|refine wP rfl ?_|refine cxE2_r rfl ?_|refine cxE2_d rfl ?_|refine wO rfl rfl ?_);exact h):P:=i h
theorem qk {P Q X:Prop} (hb:X) (h:Q) (i:X->Q->P:=by intro hb h;refine⟨_,rfl,hb,λa b c=>wV rfl ?_⟩;refine bj ?_;revert a b c;exact h):P:=i hb h
set_option maxRecDepth 4000 in
theorem MT (v:Value) (l:List db) (kk:Nat) (w:World) (hv:aO (yg kk) 1 w v l) (qn:1<=kk) (hk:kk<=8) (hl:l.length<=8) (hb:∀ t∈l,t.length<=100000) (aY:∀ t∈l,∀ r∈t,r.length<=100000):
  Calls Tryz.prog 27 #[v] w λo w'=>∃ r,o=.returned (.tuple #[.agg #[r],.int .i64 (Mj (uz l))])/\eu (mJ (1+(l.length+1)*(kk+1))) 147 38 w.heap.size w' r ((uz l).getD [])/\ak w w':=by
 obtain⟨p,c,rfl,hNc,fm⟩:=hv.form
 obtain⟨KK,Ml⟩:∃ KK,KK=1+(l.length+1)*(kk+1):=⟨_,rfl⟩
 have hKb:KK<=100:=by
  have:(l.length+1)*(kk+1)<=9*9:=Nat.mul_le_mul aa aa
  omega
 rw[<-Ml]
 refine af (C:=rO Tryz.prog w _) (args:=[_]) Tryz.func27 rfl Tryz.ntmps27 (bP rfl) ?_
 refine bj ?_
 cases l with
 | nil=>
   refine VS.aR rfl (GB rfl) ?_
   refine bj ?_
   refine VS.ret (gR _ _) rfl rfl (λwz kz bz=> ?_)
   exact⟨_,rfl,.nil,bz⟩
 | cons t0 rest=>
 refine VS.aP rfl (GC (by rw[List.length_cons];omega)) ?_
 obtain⟨l,Jk⟩:∃ l,l=t0::rest:=⟨_,rfl⟩
 have h0:l[0]? =some t0:=by rw[Jk];rfl
 have sW:1<=l.length:=by rw[Jk,List.length_cons];omega
 obtain⟨n,hn⟩:∃ n,n=szN l:=⟨_,rfl⟩
 obtain⟨k,xA⟩:∃ k,k=szK l:=⟨_,rfl⟩
 have hsn:n=t0.length:=by rw[hn,Jk];rfl
 have hsk:k=(t0.headD []).length:=by rw[xA,Jk];rfl
 rw[<-Jk] at hv hNc hl hb aY Ml ⊢
 clear Jk rest
 obtain⟨N,hN⟩:∃ N,N=l.length:=⟨_,rfl⟩
 rw[<-hN] at hv hNc hl sW Ml ⊢
 have hv':=hv
 obtain⟨b,off,cs,rfl,hc,⟨v0,rfl,xJ⟩⟩:=hv'.at h0
 have hm0:=List.mem_of_getElem? h0
 have hn0:=hb t0 hm0
 have hsz:∀ t∈l,my t kk:=λt ht=>by
  obtain⟨i,hi⟩:=List.getElem?_of_mem ht
  obtain⟨_,_,_,he,hcz,⟨vz,rfl,hz⟩⟩:=hv.at hi
  exact Dy hz qn
 obtain⟨p0,c0,rfl,hnc0,hcm0⟩:=xJ.form
 rw[<-hsn] at xJ hc hnc0 hn0
 refine bj ?_
 refine VO.cond rfl dc ?_
 refine wV rfl ?_
 refine bj ?_
 refine VO.read rfl [.slice p0 n c0] rfl (ax (z:=0) hc) (wV rfl ?_)
 refine bj ?_
 apply VS.hop (P:=λF' H' w'=>tH F' [(0,.val (.slice (some ⟨b,off,none⟩) N c)),(2,.box 2 0),(4,.val (.int .i64 (n:Int))),(5,.val (.int .i64 (k:Int)))]/\nt H' [(2,(46,[.val (.slice none 0 0)]))])
 ·intro cont
  by_cases oH:0<n
  ·obtain⟨r0,mM⟩:∃ r,t0[0]? =some r:=⟨_,List.getElem?_eq_getElem aa⟩
   have hkr:k=r0.length:=by
    rw[hsk]
    cases t0 with
    | nil=>cases mM
    | cons x y=>cases mM;rfl
   obtain⟨b1,off1,cs1,rfl,kS,⟨v1,rfl,xz⟩⟩:=xJ.at mM
   obtain⟨p1,c1,rfl⟩:=xz.sl
   refine VS.aR rfl (decide_eq_true (show (n:Int)>0 by omega)) ?_
   refine bj ?_
   refine VO.cond rfl dc ?_
   refine wV rfl ?_
   refine bj ?_
   refine VO.read rfl [.slice (some ⟨b1,off1,none⟩) n c0] rfl (ax (z:=0) hc) (wV rfl ?_)
   refine bj ?_
   refine VO.cond rfl dc ?_
   refine wV rfl ?_
   refine bj ?_
   refine VO.read rfl [.slice p1 r0.length c1] rfl (ax (z:=0) kS) (wV rfl ?_)
   (repeat (first|refine wN ?_|refine wP rfl ?_|refine wO rfl rfl ?_))
   rw[hkr] at cont
   refine cont _ _ _ ?_
   exact⟨⟨rfl,rfl,rfl,rfl,trivial⟩,⟨rfl,trivial⟩⟩
  ·have yu:k=0:=by
    rw[hsk]
    cases t0 with
    | nil=>rfl
    | cons x y=>rw[hsn] at oH;simp at oH
   refine VS.aP rfl (decide_eq_false (show ¬ (n:Int)>0 by omega)) ?_
   (repeat (first|refine wN ?_|refine wP rfl ?_|refine wO rfl rfl ?_))
   rw[yu] at cont
   refine cont _ _ _ ?_
   exact⟨⟨rfl,rfl,rfl,rfl,trivial⟩,⟨rfl,trivial⟩⟩
 rintro F' H' wH ⟨hA,hM⟩
 refine VS.narrow _ _ hA hM rfl (by (repeat first|exact trivial|refine⟨aA.lit rfl,?_⟩|refine⟨aA.vals _,?_⟩)) ?_
 have hkb:k<=100000:=by
  rw[hsk]
  cases ht0:t0 with
  | nil=>exact Nat.zero_le _
  | cons x y=>exact aY t0 hm0 x (by rw[ht0];exact List.mem_cons_self ..)
 refine bj ?_
 refine VO.call rfl rfl (fk Tryz.func35) (λbo cj bD=>(xp (n:Int) (k:Int) bo aa aa).mono ?_)
 rintro o w1 ⟨r1,rfl,q1,aL⟩
 rw[Int.toNat_natCast,Int.toNat_natCast,<-ME (l:=l)] at q1
 obtain⟨p1,c1,rfl⟩:=q1.form
 rw[km] at q1 ⊢
 refine qk aL ?_
 intro dh _ bb1
 refine VS.loop (J:=λm L M w'=>∃ (i:Nat) (pv:Option Addr) (cv:Nat),i<=N/\m=N-i/\L=[(0,.val (.slice (some ⟨b,off,none⟩) N c)),(2,.box 2 0),(4,.val (.int .i64 (n:Int))),(5,.val (.int .i64 (k:Int))),(6,.box 6 0),(7,.val (.int .i64 (i:Int)))]/\M=[(2,(46,[.val (.slice none 0 0)])),(6,(46,[.val (.slice pv n cv)]))]/\eu (mJ KK) 147 38 w.heap.size w' (.slice pv n cv) (kh n k (fu l i 0 0))/\∀ (j:Nat) (t:db),j<i->l[j]? =some t->lE n k t) N ⟨_,_,?_,?_,?_,?_,⟨0,p1,c1,by omega,rfl,rfl,rfl,(((q1.imp (λ_ _ h=>h.up (show 1<=KK by omega))).kp (ba KK) (show jB AR w1 _ from eS) rfl rfl).mono bD.size),λj t hj=>by omega⟩⟩ ?_
 ·exact ew
 ·exact ew
 ·rfl
 ·exact kH
 rintro m L M wJ ⟨i,pv,cv,hi,rfl,rfl,rfl,hT,hev⟩
 refine VS.now (λwX kN bN=> ?_)
 replace hT:=hT.kp (ba KK) (show jB AR wJ wX from kN) rfl rfl
 refine bj ?_
 by_cases hlt:i<N
 rotate_left
 ·refine VS.aP rfl (decide_eq_false (λe=>hlt (Int.ofNat_lt.1 e))) ?_
  have hiN:i=l.length:=by omega
  rw[hiN,Dt] at hT
  refine bj ?_
  refine VS.ret (gR _ _) rfl rfl (λwz kz bz=> ?_)
  have hs:uz l=some (kh n k (AH l)):=by
   rw[hn,xA]
   exact zx (λj t hj=>by rw[<-hn,<-xA];exact hev j t (by have:=(List.getElem?_eq_some_iff.1 hj).1;omega) hj)
  rw[hs]
  exact⟨_,rfl,hT.kp (ba KK) (show jB AR wX wz from eS) rfl rfl,bz⟩
 obtain⟨ti,nY⟩:∃ x,l[i]? =some x:=⟨_,List.getElem?_eq_getElem aa⟩
 obtain⟨b',JZ,csi,hpe,Jr,⟨vi,rfl,hvi⟩⟩:=hv.at nY
 cases hpe
 obtain⟨pi,ci,rfl⟩:=hvi.sl
 refine VS.aR rfl (decide_eq_true (Int.ofNat_lt.2 hlt)) ?_
 refine bj ?_
 refine VO.cond rfl dc ?_
 refine wV rfl ?_
 refine bj ?_
 refine VO.read rfl [.slice pi ti.length ci] rfl (ax Jr) (wV rfl ?_)
 refine bj ?_
 by_cases rW:ti.length=n
 rotate_left
 ·refine VS.aR rfl (CZ aa) ?_
  refine bj ?_
  refine VS.ret (gR _ _) rfl rfl (λwz kz bz=> ?_)
  rw[oG nY (λhe=>rW (by rw[hn];exact he.1))]
  exact⟨_,rfl,.nil,bz⟩
 refine VS.aP rfl (tQ aa) ?_
 rw[rW] at hvi Jr
 refine bj ?_
 refine VS.loop (J:=λm L M w'=>∃ (e:Nat) (pv:Option Addr) (cv:Nat),e<=n/\m=n-e/\L=[(0,.val (.slice (some ⟨b,off,none⟩) N c)),(2,.box 2 0),(4,.val (.int .i64 (n:Int))),(5,.val (.int .i64 (k:Int))),(6,.box 6 0),(7,.val (.int .i64 (i:Int))),(8,.val (.int .i64 (e:Int)))]/\M=[(2,(46,[.val (.slice none 0 0)])),(6,(46,[.val (.slice pv n cv)]))]/\eu (mJ KK) 147 38 w.heap.size w' (.slice pv n cv) (kh n k (fu l i e 0))/\∀ (x:Nat) (r:List Rat),x<e->ti[x]? =some r->r.length=k) n ⟨_,_,?_,?_,?_,?_,⟨0,pv,cv,by omega,rfl,rfl,rfl,hT.kp (ba KK) (show jB AR wX _ from eS) rfl rfl,λx r hx=>by omega⟩⟩ ?_
 ·exact ew
 ·exact ew
 ·rfl
 ·exact kH
 rintro m L M wJ ⟨e,pv,cv,he,rfl,rfl,rfl,hT,GW⟩
 refine VS.now (λwX kN bN=> ?_)
 replace hT:=hT.kp (ba KK) (show jB AR wJ wX from kN) rfl rfl
 refine bj ?_
 by_cases hle:e<n
 rotate_left
 ·refine VS.aP rfl (decide_eq_false (λh=>hle (Int.ofNat_lt.1 h))) ?_
  obtain rfl:e=n:=by omega
  rw[GQ nY] at hT
  refine bj ?_
  refine VS.back (N-(i+1)) aa ⟨_,_,?_,?_,?_,?_,⟨i+1,pv,cv,by omega,rfl,rfl,rfl,hT.kp (ba _) (show jB AR wX _ from eS) rfl rfl,λj t hj ht=>(by
   by_cases hji:j=i
   ·subst hji;rw[nY] at ht;cases ht
    exact⟨rW,λr hr=>(by
     obtain⟨x,hx⟩:=List.getElem?_of_mem hr
     exact GW x r (by have:=(List.getElem?_eq_some_iff.1 hx).1;omega) hx)⟩
   ·exact hev j t aa ht)⟩⟩
  ·refine⟨rfl,rfl,rfl,rfl,rfl,?_,trivial⟩;rw[<-aD (i:=i) aa];rfl
  ·exact ew
  ·rfl
  ·exact kH
 obtain⟨re,hre⟩:∃ x,ti[e]? =some x:=⟨_,List.getElem?_eq_getElem aa⟩
 have hvi0:=hvi
 obtain⟨br,ofr,csr,hpi,xD,⟨vr,rfl,hvr⟩⟩:=hvi0.at hre
 obtain⟨pr,cr,rfl⟩:=hvr.sl
 refine VS.aR rfl (decide_eq_true (Int.ofNat_lt.2 hle)) ?_
 refine bj ?_
 refine VO.cond rfl dc ?_
 refine wV rfl ?_
 refine bj ?_
 refine VO.read rfl [.slice pi n ci] rfl (ax Jr) (wV rfl ?_)
 subst hpi
 refine wV rfl ?_
 refine bj ?_
 refine VO.cond rfl dc ?_
 refine wV rfl ?_
 refine bj ?_
 refine VO.read rfl [.slice pr re.length cr] rfl (ax xD) (wV rfl ?_)
 refine bj ?_
 by_cases hrk:re.length=k
 rotate_left
 ·refine VS.aR rfl (CZ aa) ?_
  refine bj ?_
  refine VS.ret (gR _ _) rfl rfl (λwz kz bz=> ?_)
  rw[oG nY (λhe=>hrk (by rw[xA];exact he.2 re (List.mem_of_getElem? hre)))]
  exact⟨_,rfl,.nil,bz⟩
 refine VS.aP rfl (tQ aa) ?_
 refine bj ?_
 refine VS.loop (J:=λm L M w'=>∃ (q:Nat) (pv:Option Addr) (cv:Nat),q<=k/\m=k-q/\L=[(0,.val (.slice (some ⟨b,off,none⟩) N c)),(2,.box 2 0),(4,.val (.int .i64 (n:Int))),(5,.val (.int .i64 (k:Int))),(6,.box 6 0),(7,.val (.int .i64 (i:Int))),(8,.val (.int .i64 (e:Int))),(9,.val (.int .i64 (q:Int)))]/\M=[(2,(46,[.val (.slice none 0 0)])),(6,(46,[.val (.slice pv n cv)]))]/\eu (mJ KK) 147 38 w.heap.size w' (.slice pv n cv) (kh n k (fu l i e q))) k ⟨_,_,?_,?_,?_,?_,⟨0,pv,cv,by omega,rfl,rfl,rfl,hT.kp (ba KK) (show jB AR wX _ from eS) rfl rfl⟩⟩ ?_
 ·exact ew
 ·exact ew
 ·rfl
 ·exact kH
 rintro m L M wJ ⟨q,pv,cv,hq,rfl,rfl,rfl,hT⟩
 refine VS.now (λwX kN bN=> ?_)
 replace hT:=hT.kp (ba KK) (show jB AR wJ wX from kN) rfl rfl
 refine bj ?_
 by_cases EF:q<k
 rotate_left
 ·refine VS.aP rfl (decide_eq_false (λe=>EF (Int.ofNat_lt.1 e))) ?_
  obtain rfl:q=k:=by omega
  rw[GP] at hT
  refine bj ?_
  refine VS.back (n-(e+1)) aa ⟨_,_,?_,?_,?_,?_,⟨e+1,pv,cv,by omega,rfl,rfl,rfl,hT.kp (ba _) (show jB AR wX _ from eS) rfl rfl,λx r' hx ur=>(by
   by_cases hxe:x=e
   ·subst hxe;rw[hre] at ur;cases ur;exact hrk
   ·exact GW x r' aa ur)⟩⟩
  ·refine⟨rfl,rfl,rfl,rfl,rfl,rfl,?_,trivial⟩;rw[<-aD (i:=e) aa];rfl
  ·exact ew
  ·rfl
  ·exact kH
 obtain⟨x,hx⟩:∃ x,re[q]? =some x:=⟨_,List.getElem?_eq_getElem aa⟩
 refine VS.aR rfl (decide_eq_true (Int.ofNat_lt.2 EF)) ?_
 refine bj ?_
 refine VO.cond rfl dc ?_
 refine wV rfl ?_
 refine bj ?_
 refine VO.read rfl [.slice (some ⟨br,ofr,none⟩) n ci] rfl (ax Jr) (wV rfl ?_)
 refine bj ?_
 refine VO.call rfl rfl (fk Tryz.func31) (λcA dG cV=>(ll _ ti re x e q kk cA (hvi.cP (bG kk) cV) hre hx aa).mono ?_)
 rintro o w2 ⟨r2,rfl,q2,hb2'⟩
 obtain⟨s2,p2,n2,c2,t2,y2,m2,d2,rfl⟩:=q2.form
 refine⟨_,rfl,hb2',λeU _ bb2=>wV rfl ?_⟩
 refine bj ?_
 have xP:gn x kk:=hsz ti (List.mem_of_getElem? nY) re (List.mem_of_getElem? hre) x (List.mem_of_getElem? hx)
 have hst:ia (kh n k (fu l i e q)) (e:Int) (q:Int) x=kh n k (fu l i e (q+1)):=by
  rw[Jh hle EF,<-xt hre hx,Dr nY]
 refine VO.call rfl rfl (fk Tryz.func29) (λeD eW fN=>(zv _ _ (kh n k (fu l i e q)) e q x KK kk eD (rowsA_e ((hT.kp (ba KK) (show jB AR wX eD from eS) rfl rfl).rows (ba KK))) ((q2.kp (T:=λ_=>false) kE2).to xP) aa qn aa aa (by rw[km];omega) (λr hr=>by rw[(GN hr).1];omega)).mono ?_)
 rintro o w3 ⟨r3,rfl,q3,cK⟩
 rw[hst] at q3
 have q3':=q3.tight (MG (n:=n) (k:=k) (e:=e) (c:=q+1) hsz qn (i:=i) aa)
 obtain⟨p3,c3,rfl⟩:=q3'.form
 rw[km] at q3' ⊢
 refine qk cK ?_
 intro iM _ bb3
 have hle2:1+(i+1)*(kk+1)<=KK:=by
  have:(i+1)*(kk+1)<=(N+1)*(kk+1):=Nat.mul_le_mul_right _ aa
  omega
 refine VS.back (k-(q+1)) aa ⟨_,_,?_,?_,?_,?_,⟨q+1,p3,c3,by omega,rfl,rfl,rfl,((q3'.imp (λ_ _ h=>h.up hle2)).kp (ba KK) (show jB AR w3 _ from eS) rfl rfl).mono fN.size⟩⟩
 ·refine⟨rfl,rfl,rfl,rfl,rfl,rfl,rfl,?_,trivial⟩;rw[<-aD (i:=q) aa];rfl
 ·exact ew
 ·rfl
 ·exact kH
end
section
open Go.RowKit
section
variable {H:Type} {enc:TypeId×Value->H} {w:World} {held:Bool}
def TabW (kk:Nat) (w:World) (cs:List Value) (t:List (List Rw)):Prop:=∃ v,cs=[v]/\aO (iL (dk kk)) 1 w v t
set_option maxRecDepth 100000 in
theorem GY {fuel:Nat} {cs:List Value} {x:DataW H×List MemPlace} (h:DataW.trod enc Tryz.prog w 0 (λ_=>true) held fuel 27 cs=some x):∃ a:Rw,dk nM w cs a:=by
 obtain⟨s,p,n,c,t,r,m,d,xs,ys,rfl,hr⟩:=LM h
 have ur:=hr
 obtain⟨p',c',r',d',hv,h1,h2⟩:=hr
 simp only[Value.agg.injEq,Array.mk.injEq,List.cons.injEq,and_true,Value.slice.injEq,Value.bool.injEq] at hv
 obtain⟨_,⟨rfl,rfl,rfl⟩,_,rfl,rfl,rfl⟩:=hv
 obtain⟨_,_,_,pk,_⟩:=h1
 obtain⟨_,_,_,ky,_⟩:=h2
 obtain⟨_,_,_,a1,a2,_⟩:=pk.u32
 obtain⟨_,_,_,b1,b2,_⟩:=ky.u32
 exact⟨⟨s,xs,t,ys⟩,_,_,_,_,_,_,_,_,rfl,ur,(show xs.length<=nM by unfold nM;omega),(show ys.length<=nM by unfold nM;omega)⟩
set_option maxRecDepth 100000 in
theorem Dz {v:Value} {d:DataW H} {ps:List MemPlace} {r:_root_.Go.Reach} {b0:Nat} (hv:Value.okWide Tryz.prog w r b0 27 v) (h:DataW.Trod enc Tryz.prog w 0 (λ_=>true) held 27 v d ps):∃ (cs:List Value) (x:Rw),v=.agg cs.toArray/\dk nM w cs x:=by
 obtain⟨cs,rfl,_⟩:=WideShapes.okWide_struct Tryz.underlying27 hv
 obtain⟨fuel,hf⟩:=h
 obtain⟨e,he⟩:=GY hf
 exact⟨cs.toList,e,by simp,by simpa [Value.cells] using he⟩
set_option maxRecDepth 100000 in
theorem FI {fuel:Nat} {cs:List Value} {x:DataW H×List MemPlace} (h:DataW.trod enc Tryz.prog w 0 (λ_=>true) held fuel 105 cs=some x):∃ r:List Rw,iL (dk nM) w cs r:=by
 obtain⟨p,n,c,es,rfl,hs⟩:=Dd (E:=dk nM) (sz:=4) Tryz.underlying105 (by kernel_rfl) aa (λh=>GY h) h
 exact⟨es,_,rfl,hs⟩
set_option maxRecDepth 100000 in
theorem Jm {fuel:Nat} {cs:List Value} {x:DataW H×List MemPlace} (h:DataW.trod enc Tryz.prog w 0 (λ_=>true) held fuel 52 cs=some x):∃ e:List (List Rw),TabW nM w cs e:=by
 obtain⟨zs,n,rfl,rfl,hl,ju,hf⟩:=DataW.trod_struct Tryz.underlying52 h
 have xQ:cs.length=1:=by
  have c:Tryz.prog.cellsOf 52=1:=by kernel_rfl
  rw[c] at hl;exact hl
 have LL:zs.length=1:=ju
 obtain⟨z0,kP⟩:∃ z,zs[0]? =some z:=⟨_,List.getElem?_eq_getElem aa⟩
 have cc0:Tryz.prog.cellsOf 50=1:=by kernel_rfl
 have h0:=hf 0 _ rfl
 rw[kP] at h0
 change DataW.trod enc Tryz.prog w 0 (λ_=>true) held n 50 ((cs.drop 0).take (Tryz.prog.cellsOf 50))=some z0 at h0
 rw[cc0] at h0
 obtain⟨p0,n0,d0,es0,e0,g0⟩:=Dd (E:=iL (dk nM)) (sz:=1) Tryz.underlying50 (by kernel_rfl) aa (λh=>FI h) h0
 have a0:cs.drop 0=(cs.drop 0).take 1:=by rw[List.take_of_length_le];rw[List.length_drop];omega
 have ecs:cs=(cs.drop 0).take 1:=by
  have a:cs=cs.drop 0:=rfl
  rw[a0] at a
  exact a
 rw[ecs,e0]
 exact⟨es0,_,rfl,g0⟩
set_option maxRecDepth 100000 in
theorem xx {v:Value} {d:DataW H} {ps:List MemPlace} {r:_root_.Go.Reach} {b0:Nat} (hv:Value.okWide Tryz.prog w r b0 80 v) (h:DataW.Trod enc Tryz.prog w 0 (λ_=>true) held 80 v d ps):∃ es:List (List (List Rw)),aO (TabW nM) 1 w v es:=
 open_sl Tryz.underlying80 (by kernel_rfl) aa (λh=>Jm h) hv h
end
end
set_option maxRecDepth 4000
section
open Go.RowKit
attribute [local irreducible] ar VS
abbrev JD:TypeId->Bool:=λt=>(Nat.beq t 105 || (Nat.beq t 27 || (Nat.beq t 147 || Nat.beq t 38)))
abbrev oM (P:Program) (w:World) (N:Nat):Cx:={ P:=P,w0:=w,N:=N,K:=⟨UU,λ_=>True,λt=>JD t⟩,SU:=λt=>Nat.beq t 23,ti:=table,keep:=λ_ _=>trivial }
theorem rS (w:World) (N:Nat):(oM Tryz.prog w N).Ok:=dA
theorem FJ (w:World) (N:Nat):(oM Tryz.prog w N).P.follows .mixedOrders=true:=by show Tryz.prog.follows .mixedOrders=true;kernel_rfl
section
variable {F F':Fr} {H H':Hp} {w w1:World} {N:Nat} {l':List Oper} {Q:Exit->Act->World->Prop} {k:List It} {id:Nat} {ops:Array Oper}
theorem cxT5_r (e:gl (oM Tryz.prog w1 N) ops 80 ops.toList F H=(l',F',H')) (h:ar (oM Tryz.prog w1 N) none ops l' (VS (oM Tryz.prog w1 N) Q k) F' H' w):VS (oM Tryz.prog w1 N) Q (.code (.region id ops false)::k) F H w:=VS.region (rS _ _) (VO.run 80 e h)
theorem cxT5_d (e:gl (oM Tryz.prog w1 N) ops 80 ops.toList F H=(l',F',H')) (h:ar (oM Tryz.prog w1 N) (some []) ops l' (VS (oM Tryz.prog w1 N) Q k) F' H' w) (jh:ij (oM Tryz.prog w1 N).SU [] ops=true:=by kernel_rfl):VS (oM Tryz.prog w1 N) Q (.code (.region id ops true)::k) F H w:=VS.draw (rS _ _) (FJ _ _) [] jh (VO.run 80 e h)
end
theorem MU (t:db):gS (yl t)=t:=by
 unfold gS yl
 rw[List.map_map]
 conv=>rhs;rw[<-List.map_id t]
 refine List.map_congr_left λr _=> ?_
 show (r.map Rw.of).map Rw.q=r
 rw[List.map_map]
 conv=>rhs;rw[<-List.map_id r]
 exact List.map_congr_left λx _=>LO x
theorem di.sp {kk B:Nat} {w:World} {v:Value} {t:db} (h:di kk B w v t):SpTab B w v:=by
 obtain⟨us,g1,g2,g3,-⟩:=h
 refine⟨us,g1.mono (Nat.zero_le _),λu hu=> ?_⟩
 obtain⟨i,hi⟩:=List.getElem?_of_mem hu
 obtain⟨r,hr⟩:∃ r,t[i]? =some r:=⟨_,List.getElem?_eq_getElem (by rw[<-g2];exact (List.getElem?_eq_some_iff.1 hi).1)⟩
 have h3:=g3 i u r hi hr
 have h4:=h3.sl (bU B kk)
 obtain⟨p,c,rfl,eV,fm⟩:=h4.form
 refine⟨p,r.length,c,rfl,eV,fm,λhn=> ?_⟩
 rcases h3 with ⟨hv,he⟩|⟨b,c',vs,sp,hv,hB,gU,hre,hso,hle,hcm',uu⟩
 ·rw[he] at hn;simp at hn
 ·cases hv
  refine⟨b,_,rfl,hB,gU,?_,λj hj=> ?_⟩
  ·rw[List.size_toArray,uu];exact Nat.mul_le_mul_right _ hle
  ·obtain⟨x,hx⟩:∃ x,r[j]? =some x:=⟨_,List.getElem?_eq_getElem hj⟩
   obtain⟨cs,hcs,⟨s,q,k,l,t',y,m,d,rfl,az,-⟩⟩:=hre.at j x hx
   obtain⟨s',p',n',c2,t2,r',m',d',hv',-,-,h5,h6⟩:=az.husk
   cases hv'
   refine⟨s,q,k,l,t',y,m,d,λa u hu=> ?_,h5,h6⟩
   have h7:=hre.cell (bU B kk) j _ hcs a u hu
   rw[List.getElem?_toArray,List.getElem?_append_left (List.getElem?_eq_some_iff.1 h7).1]
   exact h7
theorem zA {w w6 w7:World} {B:Nat} (h:ak w w6) (hB:w.heap.size<=B) (k:Below B w6 w7):ak w w7:=Below.trans h ⟨k.os,k.tape,k.output,k.size,λb hb=>k.block b aa⟩
theorem FK {t:db} {e c:Int} {x:Rat} {n k:Nat} (h:t.length<=n/\∀ r∈t,r.length<=k):(ia t e c x).length<=n/\∀ r∈ia t e c x,r.length<=k:=by
 unfold ia
 split
 ·refine⟨by rw[lx];exact h.1,λr hr=> ?_⟩
  have h1:r.length∈(qh t e.toNat c.toNat x).map List.length:=List.mem_map.2 ⟨r,hr,rfl⟩
  rw[IW] at h1
  obtain⟨r0,h2,h3⟩:=List.mem_map.1 h1
  rw[<-h3];exact h.2 r0 h2
 ·exact h
theorem kT5 {w0 w w':World} {N:Nat} (h:aF (oM Tryz.prog w0 N).K w w':=by exact eS):Kp UU w w':=h.eH
theorem DA (b:Bool):(!(b == b))=false:=by cases b <;> rfl
theorem vh (n:Int):sj n [20]<=20:=by simp[sj];omega
theorem Jn {kk:Nat} {w:World} {v:Value} {l:List (List (List Rw))} (h:aO (TabW kk) 1 w v l) (hs:∀ (i:Nat) (t:List (List Rw)),l[i]? =some t->tc t):aO (yg 4) 1 w v (l.map gS):=by
 obtain⟨p,c,rfl,h1,h2,h3⟩:=h
 refine⟨p,c,by rw[List.length_map],by rw[List.length_map];exact h1,h2,λi a ha=> ?_⟩
 rw[List.getElem?_map] at ha
 obtain⟨t,ht,rfl⟩:=Option.map_eq_some_iff.1 ha
 obtain⟨b,off,cs,hp,hc,⟨u,rfl,hu⟩⟩:=h3 i t ht
 exact⟨b,off,_,hp,hc,u,rfl,qj (vf (j:=4) hu (λr hr x hx=>((hs i t ht).2 r hr).2 x hx))⟩
theorem bM {P Q:Prop} (h:Q) (i:Q->P:=by intro h;(repeat first|refine wN ?_|refine wP rfl ?_|refine cxT5_r rfl ?_|refine cxT5_d rfl ?_|refine wO rfl rfl ?_);exact h):P:=i h
theorem gT {P Q X:Prop} (hb:X) (h:Q) (i:X->Q->P:=by intro hb h;refine⟨_,rfl,hb,λa b c=>wV rfl ?_⟩;refine bM ?_;revert a b c;exact h):P:=i hb h
set_option maxRecDepth 8000 in
theorem uA (v:Value) (Jx:List Value) (l:List (List (List Rw))) (x0:Rw) (e cc:Int) (kk:Nat) (w:World) (hv:aO (TabW kk) 1 w v l) (hx:dk kk w Jx x0):
  Calls Tryz.prog 5 #[v,.int .i64 e,.int .i64 cc,.agg Jx.toArray] w λo w'=>o=.returned (.bool true)/\ak w w':=by
 obtain⟨p,c,rfl,hNc,fm⟩:=hv.form
 have lG:=hx
 obtain⟨_,px,cx,_,yx,dx,rfl,lS⟩:=hx.form
 obtain⟨rfl,rfl⟩:_=x0.s/\_=x0.t:=by
  obtain⟨_,_,_,_,hv',_⟩:=lS
  simp only[Value.agg.injEq,Array.mk.injEq,List.cons.injEq,Value.bool.injEq,and_true] at hv'
  exact⟨hv'.1,hv'.2.2.1⟩
 obtain⟨N,hN⟩:∃ N,N=l.length:=⟨_,rfl⟩
 rw[<-hN] at hv hNc
 rw[<-hN]
 refine af (C:=rO Tryz.prog w _) (args:=[_,_,_,_]) Tryz.func5 rfl Tryz.ntmps5 (bP rfl) ?_
 refine bj ?_
 by_cases h4:(N:Int)>4
 ·refine VO.fix 23 rfl (congrArg (λb=>AV.val (.bool b)) (decide_eq_true h4)) ?_
  refine bj ?_
  refine VO.cB rfl rfl (fk Tryz.func10) (λcA dG cV=>ke cA) (λcA dG cV w2 aY eU _ bb2=>wV rfl ?_)
  refine bj ?_
  refine VS.ret (gR _ _) rfl rfl (λwz kz bz=> ?_)
  exact⟨rfl,bz⟩
 refine VO.fix 23 rfl (congrArg (λb=>AV.val (.bool b)) (decide_eq_false h4)) ?_
 refine bj ?_
 refine VO.call rfl rfl (fk Tryz.func20) (λbo cj bD=>(tZ _ x0 kk bo (lG.kp (Kp.of (U:=UU) bD))).mono ?_)
 rintro o w1 ⟨b1,rfl,l1,aL⟩
 cases b1 with
 | false=>
   refine qk aL ?_
   intro dh _ bb1
   refine VO.cB rfl rfl (fk Tryz.func10) (λcA dG cV=>ke cA) (λcA dG cV w2 aY eU _ bb2=>wV rfl ?_)
   refine bj ?_
   refine VS.ret (gR _ _) rfl rfl (λwz kz bz=> ?_)
   exact⟨rfl,bz⟩
 | true=>
 have hsx:=l1 rfl
 clear l1
 refine qk aL ?_
 intro dh _ bb1
 refine VS.loop (J:=λm L M w'=>∃ (z:Nat) (X:AV) (Mi:List (Nat×(TypeId×List AV))) (us:List Value),z<=N/\m=N-z/\L=[(0,.val (.slice p N c)),(1,.val (.int .i64 e)),(2,.val (.int .i64 cc)),(7,.box 7 0),(9,X),(10,.val (.int .i64 (z:Int)))]/\M=(7,(27,[.val (.bool x0.s),.val (.slice px x0.xs.length cx),.val (.bool x0.t),.val (.slice yx x0.ys.length dx)]))::Mi/\fH VE 1 46 49 X Mi w' us/\us.length=z/\(∀ (i:Nat) (u:Value) (t:List (List Rw)),us[i]? =some u->l[i]? =some t->eu (dk 4) 147 38 0 w' u t)/\∀ (i:Nat) (t:List (List Rw)),i<z->l[i]? =some t->tc t) N ⟨_,_,?_,?_,?_,?_,⟨0,_,[],[],by omega,rfl,rfl,rfl,.inl ⟨rfl,rfl,rfl⟩,rfl,λi u t hu=>(by simp at hu),λi x hi=>by omega⟩⟩ ?_
 ·exact ew
 ·exact ew
 ·rfl
 ·exact kH
 rintro m L M wJ ⟨z,X,Mi,us,hz,rfl,rfl,rfl,hR0,zQ,hus0,hsh⟩
 refine VS.now (λwX kN bN=> ?_)
 replace hR0:=hR0.kp bB (aF.eH kN)
 have lz:∀ (i:Nat) (u:Value) (t:List (List Rw)),us[i]? =some u->l[i]? =some t->eu (dk 4) 147 38 0 wX u t:=λi u t h1 h2=>(hus0 i u t h1 h2).kp (dk.el 4) (show jB AR wJ wX from kN) rfl rfl
 clear hus0
 refine VS.mask [48] (by rcases hR0 with ⟨_,rfl,rfl⟩|⟨_,_,_,_,rfl,rfl,_⟩ <;> (repeat first|exact trivial|refine⟨rfl,?_⟩)) ?_
 refine bj ?_
 by_cases hlt:z<N
 ·obtain⟨tz,htz⟩:∃ t,l[z]? =some t:=⟨_,List.getElem?_eq_getElem aa⟩
  obtain⟨b,off,gF,rfl,hc,⟨vz,rfl,hvz⟩⟩:=hv.at htz
  obtain⟨pz,cz,rfl⟩:=hvz.sl
  refine VS.aR rfl (decide_eq_true (Int.ofNat_lt.2 hlt)) ?_
  refine bj ?_
  refine VO.cond rfl dc ?_
  refine wV rfl ?_
  refine bj ?_
  refine VO.read rfl [.slice pz tz.length cz] rfl (ax hc) (wV rfl ?_)
  refine bj ?_
  refine VO.call rfl rfl (fk Tryz.func19) (λcA dG cV=>(Dn _ tz kk cA (hvz.cP (rM (dk.el kk)) cV)).mono ?_)
  rintro o w2 ⟨b2,rfl,l2,aY⟩
  cases b2 with
  | false=>
    refine qk aY ?_
    intro eU _ bb2
    refine VO.cB rfl rfl (fk Tryz.func10) (λeD eW fN=>ke eD) (λeD eW fN w3 cK iM _ bb3=>wV rfl ?_)
    refine bj ?_
    refine VS.ret (gR _ _) rfl rfl (λwz kz bz=> ?_)
    exact⟨rfl,bz⟩
  | true=>
  have hs4:=l2 rfl
  refine qk aY ?_
  intro eU _ bb2
  refine VO.cond rfl dc ?_
  refine wV rfl ?_
  refine bj ?_
  refine VO.read rfl [.slice pz tz.length cz] rfl (ax hc) (wV rfl ?_)
  refine bj ?_
  have hvz4:=vf (j:=4) hvz (λr hr x hx=>(hs4.2 r hr).2 x hx)
  refine VO.call rfl rfl (fk Tryz.func22) (λeD eW fN=>(zu _ tz 4 eD (hvz4.cP (rM (dk.el 4)) fN) aa (Nat.le_trans hs4.1 aa) (λr hr=>Nat.le_trans (hs4.2 r hr).1 aa)).mono ?_)
  rintro o w3 ⟨r3,rfl,q3,cK⟩
  obtain⟨p3,c3,rfl⟩:=q3.form
  refine qk cK ?_
  intro iM _ bb3
  have hsh2:∀ (i:Nat) (x:List (List Rw)),i<z+1->l[i]? =some x->tc x:=λi x hi hx2=>by
   by_cases Ma:i=z
   ·subst Ma;rw[htz] at hx2;cases hx2;exact hs4
   ·exact hsh i x aa hx2
  rcases hR0 with ⟨kO,rfl,rfl⟩|⟨n',c',vs,sp,rfl,rfl,sW⟩
  ·skip
   refine VO.lh (gR _ _) bB (t:=81) (e:=46) (s:=48) (a:=.slice p3 tz.length c3) (cs:=[.slice p3 tz.length c3]) rfl rfl rfl rfl rfl rfl rfl rfl (bP rfl) rfl rfl rfl ⟨rfl,_,_,_,rfl⟩ aa (λw9 cap sp k9 b9 iV=>wV rfl ?_)
   refine bj ?_
   refine VS.back (N-(z+1)) aa ⟨_,_,?_,?_,?_,?_,⟨z+1,_,_,us++[Value.slice p3 tz.length c3],by omega,rfl,rfl,rfl,.inr ⟨1,cap,_,sp,rfl,rfl,by rw[kO];exact iV⟩,by simp;omega,?_,hsh2⟩⟩
   ·(refine⟨rfl,rfl,rfl,rfl,rfl,?_,trivial⟩;rw[<-aD (i:=z) aa];rfl)
   ·(repeat first|exact trivial|refine⟨rfl,?_⟩|refine⟨congrArg (λl=>some (_,l)) (cQ (by first|exact dE.de (by assumption)|exact ah _|(rw[<-List.map_append];exact ah _)) _ _),?_⟩)
   ·rfl
   ·(repeat first|exact trivial|refine⟨aA.lit rfl,?_⟩|refine⟨dE.DN (by assumption),?_⟩|refine⟨aA.append (.vals _) (.vals _),?_⟩|refine⟨aA.vals _,?_⟩)
   ·exact iy (vs:=us) (l:=l) (P:=λu t=>eu (dk 4) 147 38 0 _ u t) (λi u t h1 h2=>(lz i u t h1 h2).kp (dk.el 4) (show jB AR wX _ from eS) rfl rfl) (by rw[zQ];exact htz) ((q3.kp (dk.el 4) (show jB AR w3 _ from eS) rfl rfl).mono (Nat.zero_le _))
  ·have rW:=sW.len
   refine VO.lj (gR _ _) bB (t:=81) (e:=46) (s:=48) (i:=49) (n:=n') (c:=c') (vs:=vs) (sp:=sp) (es:=us) (a:=.slice p3 tz.length c3) (cs:=[.slice p3 tz.length c3]) rfl rfl rfl rfl rfl rfl rfl rfl (bP rfl) rfl (.inr rfl) rfl (sW.kp bB kE2) rfl ⟨rfl,_,_,_,rfl⟩ aa (λw9 qi zj ρ k9 b9 fv iV=>wV rfl ?_)
   refine bj ?_
   refine VS.back (N-(z+1)) aa ⟨_,_,?_,?_,?_,?_,⟨z+1,_,_,us++[Value.slice p3 tz.length c3],by omega,rfl,rfl,rfl,.inr ⟨n' +1,qi,_,zj,rfl,rfl,iV⟩,by simp;omega,?_,hsh2⟩⟩
   ·(refine⟨rfl,rfl,rfl,rfl,rfl,?_,trivial⟩;rw[<-aD (i:=z) aa];rfl)
   ·(repeat first|exact trivial|refine⟨rfl,?_⟩|refine⟨congrArg (λl=>some (_,l)) (cQ (by first|exact dE.de (by assumption)|exact ah _|(rw[<-List.map_append];exact ah _)) _ _),?_⟩)
   ·rfl
   ·(repeat first|exact trivial|refine⟨aA.lit rfl,?_⟩|refine⟨dE.DN (by assumption),?_⟩|refine⟨aA.append (.vals _) (.vals _),?_⟩|refine⟨aA.vals _,?_⟩)
   ·exact iy (vs:=us) (l:=l) (P:=λu t=>eu (dk 4) 147 38 0 _ u t) (λi u t h1 h2=>(lz i u t h1 h2).kp (dk.el 4) (show jB AR wX _ from eS) rfl rfl) (by rw[zQ];exact htz) ((q3.kp (dk.el 4) (show jB AR w3 _ from eS) rfl rfl).mono (Nat.zero_le _))
 refine VS.aP rfl (decide_eq_false (λe=>hlt (Int.ofNat_lt.1 e))) ?_
 obtain rfl:z=N:=by omega
 have hsh':∀ (i:Nat) (t:List (List Rw)),l[i]? =some t->tc t:=λi t ht=>hsh i t (by rw[hN];exact (List.getElem?_eq_some_iff.1 ht).1) ht
 have hsm:∀ t∈l,tc t:=λt ht=>by
  obtain⟨i,hi⟩:=List.getElem?_of_mem ht
  exact hsh' i t hi
 have hvE:=Jn hv hsh'
 (repeat (first|refine wN ?_|refine wP rfl ?_|refine wO rfl rfl ?_))
 refine VS.nL (λw=>aW Tryz.prog w 177) (λ_=>rfl) (λ_=>rfl) (λ_=>ak.refl _) (λw9 β k9 b9 en=> ?_)
 have AL:ak w w9:=b9
 have cf:=hR0.told bB en (by intro q hq;rcases hR0 with ⟨_,rfl,rfl⟩|⟨_,_,_,_,rfl,rfl,_⟩ <;> first|(cases hq;done)|(cases List.mem_singleton.1 hq;rfl)) kE2 w.heap.size (λh=>h)
 have hus9:∀ (i:Nat) (u:Value) (t:List (List Rw)),us[i]? =some u->l[i]? =some t->eu (dk 4) 147 38 0 w9 u t:=λi u t h1 h2=>(lz i u t h1 h2).kp (dk.el 4) (show jB AR wX w9 from eS) rfl rfl
 have h7:aE w9 (β 7) 27 #[.bool x0.s,.slice px x0.xs.length cx,.bool x0.t,.slice yx x0.ys.length dx]:=(en.own 7 _ _ rfl).cls
 refine⟨[(0,.val (.slice p z c)),(1,.val (.int .i64 e)),(2,.val (.int .i64 cc)),(7,.val (.pointer (some ⟨β 7,0,none⟩))),(9,.val (X.aI β))],⟨⟨_,_,rfl,rfl,rfl⟩,⟨_,_,rfl,rfl,rfl⟩,⟨_,_,rfl,rfl,rfl⟩,⟨_,_,rfl,rfl,rfl⟩,⟨_,_,rfl,rfl,rfl⟩,trivial⟩,?_⟩
 generalize β 7=g7 at h7 ⊢
 generalize X.aI β=xv at cf ⊢
 obtain⟨pr,cr,rfl⟩:=cf.form
 rw[zQ] at cf ⊢
 refine ae ?_
 refine VO.read rfl [.bool x0.s,.slice px x0.xs.length cx,.bool x0.t,.slice yx x0.ys.length dx] rfl (kF (cs:=[.bool x0.s,.slice px x0.xs.length cx,.bool x0.t,.slice yx x0.ys.length dx]) h7 0 _ ⟨[],rfl⟩) (wV rfl ?_)
 refine ae ?_
 refine VO.call rfl rfl (fk Tryz.func21) (λeD eW fN=>(wW _ _ _ _ _ eD ((lS.kp (Kp.of (U:=UU) AL)).kp (Kp.of (U:=UU) fN)) (by have:=hsx.1;omega) (by have:=hsx.2;omega)).mono ?_)
 rintro o w3 ⟨r3,rfl,q3,cK⟩
 obtain⟨p3,c3,y3,d3,rfl,_⟩:=q3.raw.Gz
 refine⟨_,rfl,cK,λiM _ bb3=>wV rfl ?_⟩
 (repeat (first|refine wN ?_|refine wP rfl ?_|refine wO rfl rfl ?_))
 refine VS.nL (λw=>oM Tryz.prog w 177) (λ_=>rfl) (λ_=>rfl) (λ_=>ak.refl _) (λoK β k10 b10 en=> ?_)
 have GZ:ak w9 oK:=b10
 have mG:ak w oK:=AL.aw GZ
 have h7':=h7.aB GZ
 have h11:aE oK (β 11) 38 #[.bool x0.s,.slice p3 x0.xs.length c3,.bool x0.t,.slice y3 x0.ys.length d3]:=(en.own 11 _ _ rfl).cls
 have hyin:bE oK (.agg #[.bool x0.s,.slice p3 x0.xs.length c3,.bool x0.t,.slice y3 x0.ys.length d3]) x0.q 4:=(q3.raw.in hsx.1 hsx.2).kp (T:=λ_=>false) eS
 have hxin:bE oK (.agg #[.bool x0.s,.slice px x0.xs.length cx,.bool x0.t,.slice yx x0.ys.length dx]) x0.q 4:=(lS.in hsx.1 hsx.2).kp (Kp.of (U:=UU) mG)
 refine⟨[(0,.val (.slice p z c)),(1,.val (.int .i64 e)),(2,.val (.int .i64 cc)),(7,.val (.pointer (some ⟨g7,0,none⟩))),(9,.val (.slice pr z cr)),(11,.val (.pointer (some ⟨β 11,0,none⟩)))],⟨⟨_,_,rfl,rfl,rfl⟩,⟨_,_,rfl,rfl,rfl⟩,⟨_,_,rfl,rfl,rfl⟩,⟨_,_,rfl,rfl,rfl⟩,⟨_,_,rfl,rfl,rfl⟩,⟨_,_,rfl,rfl,rfl⟩,trivial⟩,?_⟩
 generalize β 11=g11 at h11 ⊢
 have hvE10:aO (yg 4) 1 oK (.slice p z c) (l.map gS):=hvE.cP (xd 4) mG
 have MV:∀ (i:Nat) (u:Value) (t:List (List Rw)),us[i]? =some u->l[i]? =some t->eu (dk 4) 147 38 0 oK u t:=λi u t h1 h2=>(hus9 i u t h1 h2).aB (dk.el 4) GZ
 have MW:aO VE 1 oK (.slice pr z cr) us:=(cf.sl bB).aB bB GZ
 have hrE10:aO (yg 4) 1 oK (.slice pr z cr) (l.map gS):=uY MW (by rw[List.length_map];omega) (λi u a h1 h2=>by
  rw[List.getElem?_map] at h2
  obtain⟨t,ht,rfl⟩:=Option.map_eq_some_iff.1 h2
  exact⟨u,rfl,qj ((MV i u t h1 ht).rows (dk.el 4))⟩)
 have DB:∀ t∈l.map gS,t.length<=8/\∀ r∈t,r.length<=12:=λt ht=>by
  obtain⟨t0,h0,rfl⟩:=List.mem_map.1 ht
  refine⟨by unfold gS;rw[List.length_map];exact (hsm t0 h0).1,λr hr=> ?_⟩
  obtain⟨r0,mM,rfl⟩:=List.mem_map.1 hr
  rw[List.length_map];exact ((hsm t0 h0).2 r0 mM).1
 have hll:(l.map gS).length<=4:=by rw[List.length_map];omega
 clear hus9 cf k9 en
 refine bM ?_
 refine VO.call rfl rfl (fk Tryz.func26) (λiP jA jX=>(MS _ (l.map gS) 4 iP (hvE10.cP (xd 4) jX) aa aa aa (λt ht=>by have:=(DB t ht).1;omega) (λt ht r hr=>by have:=(DB t ht).2 r hr;omega)).mono ?_)
 rintro o w4 ⟨r4,rfl,q4,gj⟩
 obtain⟨SS,hSS⟩:∃ SS,SS=uz (l.map gS):=⟨_,rfl⟩
 rw[<-hSS] at q4 ⊢
 obtain⟨p4,c4,rfl⟩:=q4.form
 refine gT gj ?_
 intro nD _ Ah
 refine VO.call rfl rfl (fk Tryz.func27) (λjj jk kD=>(MT _ (l.map gS) 4 jj (hrE10.cP (xd 4) kD) aa aa aa (λt ht=>by have:=(DB t ht).1;omega) (λt ht r hr=>by have:=(DB t ht).2 r hr;omega)).mono ?_)
 rintro o w5 ⟨r5,rfl,q5,iR⟩
 rw[<-hSS] at q5 ⊢
 obtain⟨p5,c5,rfl⟩:=q5.form
 refine gT iR ?_
 intro mE _ xT
 refine VO.fix 65 rfl (congrArg (λb=>AV.val (.bool b)) (tQ rfl)) ?_
 refine bM ?_
 refine VO.call rfl rfl (fk Tryz.func14) (λpZ oZ zd=>(rQ _ _ (yl (SS.getD [])) _ _ pZ (di.raw (q4.kp (show jB JD w4 pZ from eS) rfl rfl)) (rP ((q5.kp (ba _) (show jB JD w5 pZ from eS) rfl rfl).rows (ba _)))).mono ?_)
 rintro o w6 ⟨rfl,og⟩
 refine⟨_,rfl,og,λuy _ Gw=>wV rfl ?_⟩
 (repeat (first|refine wN ?_|refine wP rfl ?_|refine wO rfl rfl ?_))
 refine VS.ry (rS _ _) 1 rfl rfl rfl (VO.run 80 rfl ?_)
 refine VO.nil ⟨_,_,_,λw=>oM Tryz.prog w 177,rfl,rfl,fk Tryz.func15,λ_=>rfl,λ_=>rfl,λ_=>ak.refl _,λw7 k7 b7=> ?_⟩
 have b7':ak oK w7:=b7
 have k47:jB JD w4 w7:=by exact eS
 refine (uf _ iP.heap.size w7 (Nat.le_trans gj.size k47.size) (di.sp (q4.kp k47 rfl rfl))).mono ?_
 rintro o w8 ⟨rfl,hbl⟩
 refine⟨_,[(0,.slice p z c),(1,.int .i64 e),(2,.int .i64 cc),(7,.pointer (some ⟨g7,0,none⟩)),(9,.slice pr z cr),(11,.pointer (some ⟨g11,0,none⟩))],rfl,⟨rfl,rfl,rfl,rfl,rfl,rfl,trivial⟩,(λp hp e=>by
  simp only[List.mem_cons,List.not_mem_nil,or_false] at hp
  rcases hp with rfl|rfl|rfl|rfl|rfl|rfl <;> cases e),?_⟩
 have Ko:ak oK w8:=zA b7' (show oK.heap.size<=iP.heap.size from (show ak oK iP from jX).size) hbl
 clear hbl k47 q4 q5 k7 jA jk oZ nD mE uy
 refine bM ?_
 refine VS.rA (J:=λm L W=>∃ i:Nat,i<=z/\m=z-i/\L=[(0,.slice p z c),(1,.int .i64 e),(2,.int .i64 cc),(7,.pointer (some ⟨g7,0,none⟩)),(9,.slice pr z cr),(11,.pointer (some ⟨g11,0,none⟩)),(16,.int .i64 (i:Int))]/\ak oK W)
  (λW=>oM Tryz.prog W 177) (λ_=>rfl) (λ_=>rfl) (λ_=>ak.refl _) z (λw' β k' o' en=>⟨[(0,.slice p z c),(1,.int .i64 e),(2,.int .i64 cc),(7,.pointer (some ⟨g7,0,none⟩)),(9,.slice pr z cr),(11,.pointer (some ⟨g11,0,none⟩)),(16,.int .i64 ((0:Nat):Int))],⟨⟨_,_,rfl,rfl,rfl⟩,⟨_,_,rfl,rfl,rfl⟩,⟨_,_,rfl,rfl,rfl⟩,⟨_,_,rfl,rfl,rfl⟩,⟨_,_,rfl,rfl,rfl⟩,⟨_,_,rfl,rfl,rfl⟩,⟨_,_,rfl,rfl,rfl⟩,trivial⟩,0,by omega,rfl,rfl,Ko.aw o'⟩) ?_
 rintro m L W ⟨i,hi,rfl,rfl,fT⟩
 have h7W:=h7'.aB fT
 have h11W:=h11.aB fT
 have hyW:bE W _ x0.q 4:=hyin.kp (Kp.of (U:=UU) fT)
 have hxW:bE W _ x0.q 4:=hxin.kp (Kp.of (U:=UU) fT)
 refine bM ?_
 by_cases hlt:i<z
 rotate_left
 ·refine VS.aP rfl (decide_eq_false (λe=>hlt (Int.ofNat_lt.1 e))) ?_
  refine bM ?_
  refine VO.call rfl rfl (fk Tryz.func34) (λbo cj bD=>(xj (sj e [20]) (sj cc [20]) bo (by have:=vh e;omega) (by have:=vh cc;omega)).mono ?_)
  rintro o w1 ⟨r1,rfl,q1,aL⟩
  obtain⟨p1,c1,rfl⟩:=q1.form
  refine gT aL ?_
  intro dh _ bb1
  refine VO.call rfl rfl (fk Tryz.func35) (λcA dG cV=>(xp (sj e [20]) (sj cc [20]) cA (by have:=vh e;omega) (by have:=vh cc;omega)).mono ?_)
  rintro o w2 ⟨r2,rfl,q2,aY⟩
  obtain⟨p2,c2,rfl⟩:=q2.form
  refine gT aY ?_
  intro eU _ bb2
  refine VO.cB rfl rfl (fk Tryz.func14) (λeD eW fN=>rQ _ _ (yl (dK (sj e [20]).toNat (sj cc [20]).toNat)) _ _ eD (di.raw (q1.kp (show jB JD w1 eD from eS) rfl rfl)) (rP ((q2.kp (ba _) (show jB JD w2 eD from eS) rfl rfl).rows (ba _)))) (λeD eW fN w3 cK iM _ bb3=>wV rfl ?_)
  refine bM ?_
  refine VO.cB rfl rfl (fk Tryz.func10) (λiP jA jX=>ke iP) (λiP jA jX w4 gj nD _ Ah=>wV rfl ?_)
  refine bM ?_
  refine VS.ret (rS _ _) rfl rfl (λwz kz bz=> ?_)
  exact⟨rfl,mG.aw (fT.aw bz)⟩
 refine VS.aR rfl (decide_eq_true (Int.ofNat_lt.2 hlt)) ?_
 obtain⟨ti,nY⟩:∃ t,l[i]? =some t:=⟨_,List.getElem?_eq_getElem aa⟩
 obtain⟨t00,h00⟩:∃ t,l[0]? =some t:=⟨_,List.getElem?_eq_getElem aa⟩
 obtain⟨ui,hui⟩:∃ u,us[i]? =some u:=⟨_,List.getElem?_eq_getElem aa⟩
 obtain⟨u0,Kh⟩:∃ u,us[0]? =some u:=⟨_,List.getElem?_eq_getElem aa⟩
 have hsi:=hsh' i ti nY
 have hs0:=hsh' 0 t00 h00
 obtain⟨bi,oi,csi,rfl,Jr,⟨vi,rfl,hvi⟩⟩:=hv.at nY
 obtain⟨b',o',cs0,hp',Lp,⟨v0,rfl,xJ⟩⟩:=hv.at h00
 cases hp'
 obtain⟨pi,ci,rfl⟩:=hvi.sl
 obtain⟨p0,c0,rfl⟩:=xJ.sl
 obtain⟨br,orr,csr,rfl,xD,⟨rfl,-⟩⟩:=MW.at hui
 obtain⟨b',o',csr0,hp',hcr0,⟨rfl,-⟩⟩:=MW.at Kh
 cases hp'
 have hTi:=MV i ui ti hui nY
 have hT0:=MV 0 u0 t00 Kh h00
 obtain⟨pu,cu,rfl⟩:=hTi.form
 obtain⟨pu0,cu0,rfl⟩:=hT0.form
 have hvi4:=vf (j:=4) hvi (λr hr x hx=>(hsi.2 r hr).2 x hx)
 have hv04:=vf (j:=4) xJ (λr hr x hx=>(hs0.2 r hr).2 x hx)
 have hBw:ak w W:=mG.aw fT
 have hviW:aO (cM 4) 1 W (.slice pi ti.length ci) (gS ti):=(qj hvi4).cP (bG 4) hBw
 have hv0W:aO (cM 4) 1 W (.slice p0 t00.length c0) (gS t00):=(qj hv04).cP (bG 4) hBw
 have hTiW:aO (cM 4) 1 W (.slice pu ti.length cu) (gS ti):=(qj (hTi.rows (dk.el 4))).cP (bG 4) fT
 have hT0W:aO (cM 4) 1 W (.slice pu0 t00.length cu0) (gS t00):=(qj (hT0.rows (dk.el 4))).cP (bG 4) fT
 have MX:=DB (gS ti) (List.mem_map.2 ⟨ti,List.mem_of_getElem? nY,rfl⟩)
 refine bM ?_
 refine VO.cond rfl dc ?_
 refine wV rfl ?_
 refine bM ?_
 refine VO.read rfl [.slice pi ti.length ci] rfl (λj u hj=>(mG.aw fT).cell (ax Jr j u hj)) (wV rfl ?_)
 refine bM ?_
 refine VO.read rfl [.bool x0.s,.slice px x0.xs.length cx,.bool x0.t,.slice yx x0.ys.length dx] rfl (kF (cs:=[.bool x0.s,.slice px x0.xs.length cx,.bool x0.t,.slice yx x0.ys.length dx]) h7W 0 _ ⟨[],rfl⟩) (wV rfl ?_)
 refine bM ?_
 refine VO.call rfl rfl (fk Tryz.func28) (λbo cj bD=>(zt _ _ (gS ti) e cc x0.q 4 4 bo (hviW.cP (bG 4) bD) (hxW.kp (Kp.of (U:=UU) bD)) aa aa aa aa (by have:=MX.1;omega) (λr hr=>by have:=MX.2 r hr;omega)).mono ?_)
 rintro o w1 ⟨r1,rfl,q1,aL⟩
 obtain⟨TW,hTW⟩:∃ T,T=ia (gS ti) e cc x0.q:=⟨_,rfl⟩
 have hTW8:TW.length<=8/\∀ r∈TW,r.length<=12:=by rw[hTW];exact FK MX
 rw[<-hTW] at q1
 obtain⟨p1,c1,rfl⟩:=q1.form
 refine gT aL ?_
 intro dh _ bb1
 refine VO.cond rfl dc ?_
 refine wV rfl ?_
 refine bM ?_
 refine VO.read rfl [.slice pu ti.length cu] rfl (λj u hj=>fT.cell (ax xD j u hj)) (wV rfl ?_)
 refine bM ?_
 refine VO.read rfl [.bool x0.s,.slice p3 x0.xs.length c3,.bool x0.t,.slice y3 x0.ys.length d3] rfl (kF (cs:=[.bool x0.s,.slice p3 x0.xs.length c3,.bool x0.t,.slice y3 x0.ys.length d3]) h11W 0 _ ⟨[],rfl⟩) (wV rfl ?_)
 refine bM ?_
 refine VO.call rfl rfl (fk Tryz.func29) (λcA dG cV=>(zv _ _ (gS ti) e cc x0.q 4 4 cA (hTiW.cP (bG 4) cV) (hyW.kp (Kp.of (U:=UU) cV)) aa aa aa aa (by have:=MX.1;omega) (λr hr=>by have:=MX.2 r hr;omega)).mono ?_)
 rintro o w2 ⟨r2,rfl,q2,aY⟩
 rw[<-hTW] at q2
 obtain⟨p2,c2,rfl⟩:=q2.form
 refine gT aY ?_
 intro eU _ bb2
 refine VO.call rfl rfl (fk Tryz.func14) (λeD eW fN=>(rQ _ _ (yl TW) _ _ eD (di.raw (q1.kp (show jB JD w1 eD from eS) rfl rfl)) (rP ((q2.kp (ba _) (show jB JD w2 eD from eS) rfl rfl).rows (ba _)))).mono ?_)
 rintro o w3 ⟨rfl,cK⟩
 refine gT cK ?_
 intro iM _ bb3
 refine VO.cond rfl dc ?_
 refine wV rfl ?_
 refine bM ?_
 refine VO.read rfl [.slice pi ti.length ci] rfl (λj u hj=>(mG.aw fT).cell (ax Jr j u hj)) (wV rfl ?_)
 refine bM ?_
 refine VO.call rfl rfl (fk Tryz.func30) (λiP jA jX=>(oD _ (gS ti) e cc 4 iP (hviW.cP (bG 4) jX) aa).mono ?_)
 rintro o w4 ⟨r4,rfl,q4,gj⟩
 obtain⟨s4,p4,n4,c4,t4,y4,m4,d4,rfl⟩:=q4.form
 refine gT gj ?_
 intro nD _ Ah
 refine VO.cond rfl dc ?_
 refine wV rfl ?_
 refine bM ?_
 refine VO.read rfl [.slice pu ti.length cu] rfl (λj u hj=>fT.cell (ax xD j u hj)) (wV rfl ?_)
 refine bM ?_
 refine VO.call rfl rfl (fk Tryz.func31) (λjj jk kD=>(Mz _ (gS ti) e cc 4 jj (hTiW.cP (bG 4) kD) aa).mono ?_)
 rintro o w5 ⟨r5,rfl,q5,iR⟩
 obtain⟨s5,p5,n5,c5,t5,y5,m5,d5,rfl⟩:=q5.form
 refine gT iR ?_
 intro mE _ xT
 refine VO.call rfl rfl (fk Tryz.func25) (λpZ oZ zd=>(IM (rN (gS ti) e cc) _ _ pZ (q4.rd.kp (T:=λ_=>false) kT5) (q5.kp (T:=λ_=>false) kT5)).mono ?_)
 rintro o w6 ⟨rfl,og⟩
 refine gT og ?_
 intro uy _ Gw
 refine VO.cond rfl dc ?_
 refine wV rfl ?_
 refine bM ?_
 refine VO.read rfl [.slice pi ti.length ci] rfl (λj u hj=>(mG.aw fT).cell (ax Jr j u hj)) (wV rfl ?_)
 refine bM ?_
 refine VO.cond rfl dc ?_
 refine wV rfl ?_
 refine bM ?_
 refine VO.read rfl [.slice p0 t00.length c0] rfl (λj u hj=>hBw.cell (ax (z:=0) Lp j u hj)) (wV rfl ?_)
 refine bM ?_
 refine VO.call rfl rfl (fk Tryz.func32) (λAj Ak uW=>(zz _ _ (gS ti) (gS t00) 4 4 Aj (hviW.cP (bG 4) uW) (hv0W.cP (bG 4) uW) aa aa aa aa).mono ?_)
 rintro o w7 ⟨rfl,DK⟩
 refine gT DK ?_
 intro DL _ bb7
 refine VO.cond rfl dc ?_
 refine wV rfl ?_
 refine bM ?_
 refine VO.read rfl [.slice pu ti.length cu] rfl (λj u hj=>fT.cell (ax xD j u hj)) (wV rfl ?_)
 refine bM ?_
 refine VO.cond rfl dc ?_
 refine wV rfl ?_
 refine bM ?_
 refine VO.read rfl [.slice pu0 t00.length cu0] rfl (λj u hj=>fT.cell (ax (z:=0) hcr0 j u hj)) (wV rfl ?_)
 refine bM ?_
 refine VO.call rfl rfl (fk Tryz.func33) (λwa8 ka8 ba8=>(ug _ _ (gS ti) (gS t00) 4 4 wa8 (hTiW.cP (bG 4) ba8) (hT0W.cP (bG 4) ba8) aa aa aa aa).mono ?_)
 rintro o w8 ⟨rfl,Ko⟩
 refine gT Ko ?_
 intro ID _ bb8
 refine VO.fix 135 rfl (congrArg (λb=>AV.val (.bool b)) (DA _)) ?_
 refine bM ?_
 refine VO.cond rfl dc ?_
 refine wV rfl ?_
 refine bM ?_
 refine VO.read rfl [.slice pi ti.length ci] rfl (λj u hj=>(mG.aw fT).cell (ax Jr j u hj)) (wV rfl ?_)
 refine bM ?_
 refine VO.call rfl rfl (fk Tryz.func32) (λwa9 ka9 ba9=>(zz _ _ TW (gS ti) 9 4 wa9 (di.Mc (q1.kp (show jB JD w1 wa9 from eS) rfl rfl)) (hviW.cP (bG 4) ba9) aa aa aa aa).mono ?_)
 rintro o w9' ⟨rfl,hb9'⟩
 refine⟨_,rfl,hb9',λIE _ bb9=>wV rfl ?_⟩
 refine bM ?_
 refine VO.call rfl rfl (fk Tryz.func22) (λsO xX EU=>(zu _ (yl TW) 9 sO (di.raw (q1.kp (show jB JD w1 sO from eS) rfl rfl)) aa (by unfold yl;rw[List.length_map];omega) (λr hr=>by
  unfold yl at hr
  obtain⟨r0,mM,rfl⟩:=List.mem_map.1 hr
  rw[List.length_map];have:=hTW8.2 r0 mM;omega)).mono ?_)
 rintro o w11 ⟨r11,rfl,q11,xY⟩
 obtain⟨p11,c11,rfl⟩:=q11.form
 refine gT xY ?_
 intro mc _ LC
 refine VO.cond rfl dc ?_
 refine wV rfl ?_
 refine bM ?_
 refine VO.read rfl [.slice pu ti.length cu] rfl (λj u hj=>fT.cell (ax xD j u hj)) (wV rfl ?_)
 refine bM ?_
 refine VO.call rfl rfl (fk Tryz.func33) (λsP xZ EW=>(ug _ _ TW (gS ti) 9 4 sP (by
  have:=qj ((q11.kp (dk.el 9) (show jB JD w11 sP from eS) rfl rfl).rows (dk.el 9))
  rw[MU] at this
  exact this) (hTiW.cP (bG 4) EW) aa aa aa aa).mono ?_)
 rintro o w12 ⟨rfl,ya⟩
 refine⟨_,rfl,ya,λqa _ LD=>wV rfl ?_⟩
 (repeat (first|refine wN ?_|refine wP rfl ?_|refine wO rfl rfl ?_))
 refine VS.aP rfl (DA _) ?_
 (repeat (first|refine wN ?_|refine wP rfl ?_|refine wO rfl rfl ?_))
 refine VS.ry (rS _ _) 1 rfl rfl rfl (VO.run 80 rfl ?_)
 refine VO.nil ⟨_,_,_,λw=>oM Tryz.prog w 177,rfl,rfl,fk Tryz.func15,λ_=>rfl,λ_=>rfl,λ_=>ak.refl _,λmH LX Jy=> ?_⟩
 have b13':ak W mH:=Jy
 have k113:jB JD w1 mH:=by exact eS
 refine (uf _ bo.heap.size mH (Nat.le_trans aL.size k113.size) (di.sp (q1.kp k113 rfl rfl))).mono ?_
 rintro o w14 ⟨rfl,hbl⟩
 refine⟨_,[(0,.slice (some ⟨bi,oi,none⟩) z c),(1,.int .i64 e),(2,.int .i64 cc),(7,.pointer (some ⟨g7,0,none⟩)),(9,.slice (some ⟨br,orr,none⟩) z cr),(11,.pointer (some ⟨g11,0,none⟩)),(16,.int .i64 (i:Int))],rfl,⟨rfl,rfl,rfl,rfl,rfl,rfl,rfl,trivial⟩,(λp hp e=>by
  simp only[List.mem_cons,List.not_mem_nil,or_false] at hp
  rcases hp with rfl|rfl|rfl|rfl|rfl|rfl|rfl <;> cases e),?_⟩
 have hb14:ak W w14:=zA b13' (show W.heap.size<=bo.heap.size from (show ak W bo from bD).size) hbl
 have hB14:ak oK w14:=fT.aw hb14
 have hBw14:ak w w14:=mG.aw hB14
 refine bM ?_
 refine VO.cond rfl dc ?_
 refine wV rfl ?_
 refine bM ?_
 refine VO.read rfl [.slice pi ti.length ci] rfl (λj u hj=>hBw14.cell (ax Jr j u hj)) (wV rfl ?_)
 refine bM ?_
 refine VO.cond rfl dc ?_
 refine wV rfl ?_
 refine bM ?_
 refine VO.read rfl [.slice pu ti.length cu] rfl (λj u hj=>hB14.cell (ax xD j u hj)) (wV rfl ?_)
 refine bM ?_
 refine VO.call rfl rfl (fk Tryz.func14) (λyc ye yf=>(rQ _ _ ti _ _ yc (hvi4.cP (rM (dk.el 4)) (hBw14.aw yf)) ((hTi.rows (dk.el 4)).cP (rM (dk.el 4)) (hB14.aw yf))).mono ?_)
 rintro o w15 ⟨rfl,hb15⟩
 refine gT hb15 ?_
 intro LG _ bb15
 refine VS.kc rfl (z-(i+1)) aa (λw' bu k' o' oy=> ?_)
 exact⟨[(0,.slice (some ⟨bi,oi,none⟩) z c),(1,.int .i64 e),(2,.int .i64 cc),(7,.pointer (some ⟨g7,0,none⟩)),(9,.slice (some ⟨br,orr,none⟩) z cr),(11,.pointer (some ⟨g11,0,none⟩)),(16,.int .i64 ((i+1:Nat):Int))],⟨⟨_,_,rfl,rfl,rfl⟩,⟨_,_,rfl,rfl,rfl⟩,⟨_,_,rfl,rfl,rfl⟩,⟨_,_,rfl,rfl,rfl⟩,⟨_,_,rfl,rfl,rfl⟩,⟨_,_,rfl,rfl,rfl⟩,⟨_,_,rfl,congrArg (λz=>Value.int .i64 z) (aD (i:=i) aa),rfl⟩,trivial⟩,i+1,by omega,rfl,rfl,hB14.aw o'⟩
end
end Go.Proofs.YtlifeokjcgngjaaGreat
