/-FR of the proof,laid behind one another. -/
import Derived.Test.YtphfjihmohoffaaGreatKGraphLess4
set_option linter.all false
set_option maxHeartbeats 64000000
set_option maxRecDepth 4000
namespace Go.Proofs.YtphfjihmohoffaaGreat
section
open Go.RowKit
attribute [local irreducible] aq VS
theorem kH (N:Int) (p:Option Addr) (n c:Nat) (v:Int) (w:World) (b:Bool) (hb:decide (0<=v/\v<N)=b):
 Calls Tryz.prog 28 #[.agg #[.int .i64 N,.slice p n c],.int .i64 v] w λo w'=>o=.returned (.bool b)/\ax w w':=hb▸Mz N p n c v w
theorem Dp {kk:Nat} {s t:Bool} {p y:Option Addr} {n c m d:Nat} {r:Rw} (w:World) (h:Aw kk w [.bool s,.slice p n c,.bool t,.slice y m d] r) (hk:kk<=100000) (b:Bool) (hb:Da r.s r.xs r.t r.ys=b):
  Calls Tryz.prog 57 #[.agg #[.bool s,.slice p n c,.bool t,.slice y m d]] w λo w'=>o=.returned (.bool b)/\ax w w':=by
 obtain⟨h1,h2,h3⟩:=h.raw;exact hb▸rU r.s r.t r.xs r.ys _ w h1 ae ae
def Dq (p:Int×Int):Value:=jE p.1 p.2
theorem zo:xk Tryz.prog 106 107 108 Dq:=JD Tryz.underlying106 Tryz.underlying107 vz (λw=>by kernel_rfl) (λw=>by kernel_rfl)
theorem JF (w:World):(zeroValue 108).run Tryz.prog w=.ok (.agg #[]) w:=by kernel_rfl
def oQ (l:List ((Int×Int)×Value)) (es:List iB):Prop:=(∀ k v,l.lookup k=some v->v=.agg #[])/\∀ k,(l.lookup k).isSome=es.any λe=>e.fr == k.1 && e.tt == k.2
theorem oQ.nil:oQ [] []:=⟨λk v h=>by simp at h,λk=>rfl⟩
variable {es:List iB}
theorem oQ.snoc {l l':List ((Int×Int)×Value)} {e:iB} (h:oQ l es) (hl:∀ k',l'.lookup k'=if k' == (e.fr,e.tt) then some (.agg #[]) else l.lookup k'):oQ l' (es++[e]):=by
 refine⟨λk v hv=> ?_,λk=> ?_⟩
 ·rw[hl] at hv
  split at hv
  ·cases hv;rfl
  ·exact h.1 k v hv
 ·rw[hl,List.any_append,<-h.2 k];by_cases q:k=(e.fr,e.tt)
  ·subst q;simp
  ·have:(k == (e.fr,e.tt))=false:=iL.2 λe=>q (eq_of_beq e);rw[this]
   have:(e.fr == k.1 && e.tt == k.2)=false:=by
    rw[iL];intro e';rw[dR,beq_iff_eq,beq_iff_eq] at e';exact q (by rw[e'.1,e'.2])
   simp[this]
variable {x:iB} {z:Nat}
theorem FA {b:Bool} (h:((es.take z).any λe=>e.fr == x.fr && e.tt == x.tt)=b):(b=true->¬ ∀ e∈(aX es).take z,¬ (e.fr=x.fr/\e.tt=x.tt))/\(b=false->∀ e∈(aX es).take z,¬ (e.fr=x.fr/\e.tt=x.tt)):=by
 subst h;rw[<-qz];refine⟨λh k=> ?_,λh e he hx=> ?_⟩
 ·obtain⟨e,he,hx⟩:=Bg.1 h;rw[dR,beq_iff_eq,beq_iff_eq] at hx;exact k e.ed (cU.2 ⟨e,he,aa⟩) hx
 ·obtain⟨y,hy,rfl⟩:=cU.1 he;have:((es.take z).any λe=>e.fr == x.fr && e.tt == x.tt)=true:=Bg.2 ⟨y,hy,by rw[dR,beq_iff_eq,beq_iff_eq];exact hx⟩;rw[h] at this;cases this
theorem ML (kk:Nat) (v:Value) (N:Int) (es:List iB) (w:World) (hv:gE kk w v N es) (hk:kk<=1000):
  Calls Tryz.prog 45 #[v] w λo w'=>∃ j:Int,o=.returned (.int .i64 j)/\((j= -1/\Gr.lQ (aX es) λi x=>¬ Gr.iG N (aX es) i x)\/∃ i:Nat,j=(i:Int)/\Gr.jD (aX es) (λi x=>¬ Gr.iG N (aX es) i x) i)/\ax w w':=by
 obtain⟨p,c,rfl,hs⟩:=hv;obtain⟨p',c',hv',hle,fO⟩:=hs.form;cases hv';obtain⟨E,hE⟩:∃ E,E=es.length:=⟨_,aa⟩;rw[<-hE] at hs hle ⊢;rw[show ((9223372036854775807:Nat):Nat)=9223372036854775807 from aa] at fO;refine ar (C:=bD Tryz.prog w _) (args:=[_]) Tryz.func45 aa Tryz.ntmps45 (cz aa) ?_;refine af ?_;refine VO.mkMap Dq aa aa (λw1 rr k1 b1 hrr hm1=>wV aa ?_);refine af ?_
 refine VS.uq (J:=λm L W=>∃ (z gb:Nat) (l:List ((Int×Int)×Value)),z<=E/\m=E-z/\L=[(1,.pointer (some ⟨gb,0,none⟩)),(3,.map (some rr)),(11,.slice p E c),(12,.int .i64 (E:Int)),(13,.int .i64 (z:Int))]/\ax w W/\w.heap.size<=gb/\aI W gb 24 #[.int .i64 N,.slice p E c]/\fw Dq W rr l/\oQ l (es.take z)/\∀ i x,i<z->(aX es)[i]? =some x->Gr.iG N (aX es) i x)
  (λW=>bD Tryz.prog W 75) (λ_=>rfl) (λ_=>rfl) (λ_=>ax.refl _) E (λw' β k o en=>⟨[(1,.pointer (some ⟨β 1,0,none⟩)),(3,.map (some rr)),(11,.slice p E c),(12,.int .i64 (E:Int)),(13,.int .i64 ((0:Nat):Int))],⟨⟨_,_,rfl,rfl,rfl⟩,⟨_,_,rfl,rfl,rfl⟩,⟨_,_,rfl,rfl,rfl⟩,⟨_,_,rfl,rfl,rfl⟩,⟨_,_,rfl,rfl,rfl⟩,aj⟩,0,β 1,[],ae,rfl,rfl,o,(en.own 1 _ _ rfl).new,(en.own 1 _ _ rfl).cls,hm1.kp k,.nil,λi x hi=>ae⟩) ?_
 rintro m L W ⟨z,gb,l,hz,rfl,rfl,mX,hgb,hcg,nc,zO,dN⟩;have hsW:=hs.aD (mF.el kk) mX;refine af ?_;by_cases xX:z<E
 ·obtain⟨x,hx⟩:∃ x,es[z]? =some x:=⟨_,aZ ae⟩;obtain⟨b0,ee,cs0,rfl,ry,⟨s0,p0,n0,c0,t0,y0,m0,d0,rfl,AW⟩⟩:=hsW.at hx;refine VS.bJ aa (aU (cf.2 xX)) ?_;refine af ?_;refine VO.cond aa eH ?_;refine wV aa ?_;refine af ?_;refine VO.read aa [.int .i64 x.fr,.int .i64 x.tt,.bool s0,.slice p0 n0 c0,.bool t0,.slice y0 m0 d0] aa (dk ry 0 _ ⟨[],aa⟩) (wV aa ?_);refine af ?_;refine VO.lookB (κ:=Dq) (k:=(x.fr,x.tt)) aa aa zo JF (λw2 k2 b2=>nc.aD b2) (λw2 k2 b2=> ?_);obtain⟨b,hb⟩:∃ b,((es.take z).any λe=>e.fr == x.fr && e.tt == x.tt)=b:=⟨_,aa⟩
  refine VO.fix 26 aa (ai AV.val (show Value.tuple #[(l.lookup (x.fr,x.tt)).getD (.agg #[]),.bool (l.lookup (x.fr,x.tt)).isSome]=.tuple #[.agg #[],.bool b] by
   rw[zO.2,hb];cases hlk:l.lookup (x.fr,x.tt) with
   | none=>rfl
   | some v=>rw[zO.1 _ _ hlk];rfl)) (wV rfl ?_)
  have hpt:=FA hb;refine af ?_
  have bad:∀ wz,ax W wz->¬ Gr.iG N (aX es) z x.ed->∃ j:Int,Ending.returned (.int .i64 (z:Int))=.returned (.int .i64 j)/\((j= -1/\Gr.lQ (aX es) λi x=>¬ Gr.iG N (aX es) i x)\/∃ i:Nat,j=(i:Int)/\Gr.jD (aX es) (λi x=>¬ Gr.iG N (aX es) i x) i)/\ax w wz:=λwz hz' hn=>
   ⟨_,rfl,.inr ⟨z,rfl,⟨_,eX hx,hn⟩,λi y hi hy hn'=>hn' (dN i y hi hy)⟩,ax.aB mX hz'⟩
  cases b with
  | true=>
    refine af ?_;refine bH ?_;intro wz kz bz;exact bad _ bz λh=>hpt.1 aa h.1
  | false=>
  refine af ?_;refine VO.read aa [.int .i64 N,.slice (some ⟨b0,ee,none⟩) E c] aa (jF hcg) (wV aa ?_);refine af ?_;by_cases h1:0<=x.fr/\x.fr<N
  case neg=>
   refine VO.cB aa aa (fk qT) (λfS gR gY=>kH N _ _ _ x.fr fS false (bo h1)) (λfS gR gY w3 dc nj _ bb3=>wV aa ?_);refine af ?_;refine bH ?_;intro wz kz bz;exact bad _ bz λh=>h1 ⟨h.2.1,h.2.2.1⟩
  refine VO.cB aa aa (fk qT) (λfS gR gY=>kH N _ _ _ x.fr fS true (aU h1)) (λfS gR gY w3 dc nj _ bb3=>wV aa ?_);refine af ?_;refine VO.read aa [.int .i64 N,.slice (some ⟨b0,ee,none⟩) E c] aa (jF hcg) (wV aa ?_);refine af ?_;by_cases h2:0<=x.tt/\x.tt<N
  case neg=>
   refine VO.cB aa aa (fk qT) (λjL lV mz=>kH N _ _ _ x.tt jL false (bo h2)) (λjL lV mz w4 fv rQ _ CO=>wV aa ?_);refine af ?_;refine bH ?_;intro wz kz bz;exact bad _ bz λh=>h2 ⟨h.2.2.2.1,h.2.2.2.2.1⟩
  refine VO.cB aa aa (fk qT) (λjL lV mz=>kH N _ _ _ x.tt jL true (aU h2)) (λjL lV mz w4 fv rQ _ CO=>wV aa ?_);refine af ?_;by_cases h3:x.fr=x.tt
  case pos=>
   refine VO.fix 51 aa (ai (λb=>AV.val (.bool b)) ((by simpa using h3:(x.fr == x.tt)=true))) ?_;refine af ?_;refine bH ?_;intro wz kz bz;exact bad _ bz λh=>h.2.2.2.2.2.1 h3
  refine VO.fix 51 aa (ai (λb=>AV.val (.bool b)) ((by simpa using h3:(x.fr == x.tt)=false))) ?_;refine af ?_;by_cases h4:Da x.r.s x.r.xs x.r.t x.r.ys=true
  case neg=>
   refine VO.cB aa aa (fk Tryz.func57) (λjM lI kY=>Dp jM (AW.kp Mk) ae false (iL.2 h4)) (λjM lI kY w5 jJ qI _ CP=>wV aa ?_);refine af ?_;refine bH ?_;intro wz kz bz;exact bad _ bz λh=>h4 h.2.2.2.2.2.2.1
  refine VO.cB aa aa (fk Tryz.func57) (λjM lI kY=>Dp jM (AW.kp Mk) ae true h4) (λjM lI kY w5 jJ qI _ CP=>wV aa ?_);refine af ?_;by_cases h5:0<x.r.q
  case neg=>
   refine VO.cB aa aa (fk Tryz.func58) (λrT ui xA=>um _ x.r.q kk rT (AW.kp Mk).in ae) (λrT ui xA w6 rO xB _ Kf=>wV aa ?_);refine af ?_;refine VO.fix 63 aa (ai (λb=>AV.val (.bool b)) (aU (JE h5))) ?_;refine af ?_;refine bH ?_;intro wz kz bz;exact bad _ bz λh=>h5 h.2.2.2.2.2.2.2.1
  refine VO.cB aa aa (fk Tryz.func58) (λrT ui xA=>Fo _ x.r.q kk rT (AW.kp Mk).in ae 1 (MK h5)) (λrT ui xA w6 rO xB _ Kf=>wV aa ?_);refine af ?_;refine VO.cR aa aa (fk Tryz.func60) (λDU Fb AU=>rV 1 DU ae ae) (λDU Fb AU w7 s7 p7 n7 c7 t7 y7 m7 d7 q7 zd Hg _ bb7=>wV aa ?_);refine af ?_;refine VO.cB aa aa (fk Tryz.func59) (λwa8 ka8 ba8=>xd _ _ x.r.q ((1:Int):Rat) kk 1 wa8 (AW.kp Mk).in (q7.ki (show oX ((1:Int):Rat) 1 from oX.one)) ae ae) (λwa8 ka8 ba8 w8 AL Hh _ bb8=>wV aa ?_);refine af ?_;by_cases h6:x.r.q<=((1:Int):Rat)
  case neg=>
   refine VS.bJ aa (aU (by rw[Ht h6];omega)) ?_;refine af ?_;refine bH ?_;intro wz kz bz;exact bad _ bz λh=>h6 h.2.2.2.2.2.2.2.2
  refine VS.cd aa (bo (Hq h6)) ?_
  (repeat (first|refine wN ?_|refine wP aa ?_|refine wO aa aa ?_))
  refine VS.eb (bQ _ _) 3 aa (wV aa (wN ?_));refine⟨_,λW=>bD Tryz.prog W 75,aa,λ_=>aa,λ_=>aa,λ_=>ax.refl _,λw9 β k9 b9 en=>Dn (κ:=Dq) (k:=(x.fr,x.tt)) (v:=.agg #[]) aa zo (nc.aD b9) (λl' o' Gp Ei=>⟨_,[(1,.pointer (some ⟨gb,0,none⟩)),(3,.map (some rr)),(11,.slice (some ⟨b0,ee,none⟩) E c),(12,.int .i64 (E:Int)),(13,.int .i64 (z:Int))],aa,⟨⟨_,_,aa,aa,aa⟩,⟨_,_,aa,aa,aa⟩,⟨_,_,aa,aa,aa⟩,⟨_,_,aa,aa,aa⟩,⟨_,_,aa,aa,aa⟩,aj⟩,λp hp=>bc,?_⟩)⟩;have hB9:ax w (dX w9 rr o'):=(ax.aB mX b9).dX hrr o';have hc9:aI (dX w9 rr o') gb 24 #[.int .i64 N,.slice (some ⟨b0,ee,none⟩) E c]:=(hcg.aD b9).dX (nc.aD b9) o';refine af ?_;refine VS.iw aa (E-(z+1)) ae (λwq bG kq oq fE=>⟨[(1,.pointer (some ⟨gb,0,none⟩)),(3,.map (some rr)),(11,.slice (some ⟨b0,ee,none⟩) E c),(12,.int .i64 (E:Int)),(13,.int .i64 ((z+1:Nat):Int))],⟨⟨_,_,aa,aa,aa⟩,⟨_,_,aa,aa,aa⟩,⟨_,_,aa,aa,aa⟩,⟨_,_,aa,aa,aa⟩,⟨_,_,aa,ai (λz=>Value.int .i64 z) (bM ae),aa⟩,aj⟩,z+1,gb,l',ae,aa,aa,ax.aB hB9 oq,hgb,hc9.aD oq,Gp.aD oq,by rw[mB hx];exact zO.snoc Ei,λi y hi hy=> ?_⟩);by_cases e:i<z
  ·exact dN i y e hy
  ·obtain rfl:i=z:=by omega
   rw[eX hx] at hy;cases hy;exact⟨hpt.2 aa,h1.1,h1.2,h2.1,h2.2,h3,h4,h5,h6⟩
 refine VS.cd aa (bo (λe=>xX (cf.1 e))) ?_;refine af ?_;refine bH ?_;intro wz kz bz;exact⟨-1,aa,.inl ⟨aa,λi x hi hn=>hn (dN i x (by have:=(bx.1 hi).1;rw[dy] at this;omega) hi)⟩,ax.aB mX bz⟩
set_option maxRecDepth 4000
def Hu:Value:=.agg #[.bool false,.slice none 0 0,.bool false,.slice none 0 0]
theorem MM (w:World) (k:Nat):cP w Hu 0 k:=(Mu (kk:=0) w).in.mono' (cD k)
def JG (a:Int):Value:=.int .i64 a
theorem xm:xk Tryz.prog 114 3 35 JG:=MJ Tryz.underlying114 vz
theorem zp (w:World):(zeroValue 35).run Tryz.prog w=.ok Hu w:=by kernel_rfl
theorem Dr (hx:es[z]? =some x):Gr.eW (aX es) z x.ed↔¬ Gr.sumTo ((aX es).take (z+1)) x.tt<=((1:Int):Rat):=by
 unfold Gr.eW;rw[Rat.not_le];exact Iff.rfl
variable {w:World}
theorem xn {α:Type} {κ:α->Value} [BEq α] [LawfulBEq α] {rr:Nat} {m:List (α×Value)} (hm:fw κ w rr m) (o:Obj) (a:Addr) (u:Value) (h:w.cell? a=some u):(dX w rr o).cell? a=some u:=by
 obtain⟨es,c,h1,_⟩:=hm
 have hne:a.block≠rr:=λe=>by
  simp only[World.cell?,e,h1] at h;cases h
 rw[pa (w:=w) (oJ o hne)];exact h
theorem cP.cells {w':World} {v:Value} {q:Rat} {k:Nat} (h:cP w v q k) (hk:∀ a u,w.cell? a=some u->w'.cell? a=some u):cP w' v q k:=by
 obtain⟨s,xs,t,ys,⟨p,c,r,d,hv,⟨p1,c1,e1,h1,l1⟩,⟨p2,c2,e2,h2,l2⟩⟩,h4⟩:=h;exact⟨s,xs,t,ys,⟨p,c,r,d,hv,⟨p1,c1,e1,h1.keep hk,l1⟩,⟨p2,c2,e2,h2.keep hk,l2⟩⟩,h4⟩
theorem FD (kk:Nat) (v:Value) (N:Int) (es:List iB) (w:World) (hv:gE kk w v N es) (uQ:1<=kk) (hk:kk<=1000) (hE0:es.length<=4096):
  Calls Tryz.prog 46 #[v] w λo w'=>∃ j:Int,o=.returned (.int .i64 j)/\((j= -1/\Gr.lQ (aX es) (Gr.eW (aX es)))\/∃ i:Nat,j=(i:Int)/\Gr.jD (aX es) (Gr.eW (aX es)) i)/\ax w w':=by
 obtain⟨p,c,rfl,hs⟩:=hv;obtain⟨p',c',hv',hle,fO⟩:=hs.form;cases hv';obtain⟨E,hE⟩:∃ E,E=es.length:=⟨_,aa⟩;rw[<-hE] at hs hle hE0 ⊢;refine ar (C:=bD Tryz.prog w _) (args:=[_]) Tryz.func46 aa Tryz.ntmps46 (cz aa) ?_;refine af ?_;refine VO.mkMap JG aa aa (λw1 rr k1 b1 hrr hm1=>wV aa ?_);refine af ?_
 refine VS.uq (J:=λm L W=>∃ (z gb:Nat) (l:List (Int×Value)),z<=E/\m=E-z/\L=[(1,.pointer (some ⟨gb,0,none⟩)),(3,.map (some rr)),(8,.slice p E c),(9,.int .i64 (E:Int)),(10,.int .i64 (z:Int))]/\ax w W/\fw JG W rr l/\(∀ k:Int,cP W ((l.lookup k).getD Hu) (Gr.sumTo ((aX es).take z) k) (z*(kk+1)+1))/\∀ i x,i<z->(aX es)[i]? =some x->¬ Gr.eW (aX es) i x)
  (λW=>bD Tryz.prog W 34) (λ_=>rfl) (λ_=>rfl) (λ_=>ax.refl _) E (λw' β k o en=>⟨[(1,.pointer (some ⟨β 1,0,none⟩)),(3,.map (some rr)),(8,.slice p E c),(9,.int .i64 (E:Int)),(10,.int .i64 ((0:Nat):Int))],⟨⟨_,_,rfl,rfl,rfl⟩,⟨_,_,rfl,rfl,rfl⟩,⟨_,_,rfl,rfl,rfl⟩,⟨_,_,rfl,rfl,rfl⟩,⟨_,_,rfl,rfl,rfl⟩,aj⟩,0,β 1,[],ae,rfl,rfl,o,hm1.kp k,λk=>MM _ _,λi x hi=>ae⟩) ?_
 rintro m L W ⟨z,gb,l,hz,rfl,rfl,mX,nc,LX,dN⟩;have hsW:=hs.aD (mF.el kk) mX;refine af ?_;by_cases xX:z<E
 ·obtain⟨x,hx⟩:∃ x,es[z]? =some x:=⟨_,aZ ae⟩;obtain⟨b0,ee,cs0,rfl,ry,⟨s0,p0,n0,c0,t0,y0,m0,d0,rfl,AW⟩⟩:=hsW.at hx;have yP:=(AW.in).sz uQ;have uD:z*(kk+1)<=4096*1001:=qP ae ae;have hstep:(z+1)*(kk+1)+1=z*(kk+1)+1+kk+1:=by rw[cV];omega
  refine VS.bJ aa (aU (cf.2 xX)) ?_;refine af ?_;refine VO.cond aa eH ?_;refine wV aa ?_;refine af ?_;refine VO.read aa [.int .i64 x.fr,.int .i64 x.tt,.bool s0,.slice p0 n0 c0,.bool t0,.slice y0 m0 d0] aa (dk ry 0 _ ⟨[],aa⟩) (wV aa ?_)
  (repeat (first|refine wN ?_|refine wP aa ?_|refine wO aa aa ?_))
  refine VS.MG (bQ _ _) (rN _ _) [] 10 aa (by kernel_rfl) (wV aa ?_);refine VO.lookM (κ:=JG) (k:=x.tt) aa aa xm zp (λw2 k2 b2=>nc.aD b2) (λw2 k2 b2=>wV aa ?_);have IX:=(LX x.tt).sz ae;refine VO.call aa aa (fk Tryz.func61) (λfS gR gY=>(Fl _ _ _ x.r.q (z*(kk+1)+1) kk fS ((LX x.tt).kp Mk) (AW.kp Mk).in ae ae).mono ?_);rintro e w3 ⟨r3,rfl,q3,dc⟩;refine⟨_,aa,dc,λnj _ bb3=>wV aa (wN ?_)⟩;refine⟨_,λW=>bD Tryz.prog W 34,aa,λ_=>aa,λ_=>aa,λ_=>ax.refl _,λw9 β k9 b9 en=>Dn (κ:=JG) (k:=x.tt) (v:=r3) aa xm (nc.aD b9) (λl' o' Gp Ei=>⟨_,[(1,.pointer (some ⟨gb,0,none⟩)),(3,.map (some rr)),(4,.int .i64 (z:Int)),(5,.pointer (some ⟨β 5,0,none⟩)),(8,.slice (some ⟨b0,ee,none⟩) E c),(9,.int .i64 (E:Int)),(10,.int .i64 (z:Int))],aa,⟨⟨_,_,aa,aa,aa⟩,⟨_,_,aa,aa,aa⟩,⟨_,_,aa,aa,aa⟩,⟨_,_,aa,aa,aa⟩,⟨_,_,aa,aa,aa⟩,⟨_,_,aa,aa,aa⟩,⟨_,_,aa,aa,aa⟩,aj⟩,λp hp=>bc,?_⟩)⟩;have hm9:=nc.aD b9;have hce:=(en.own 5 _ _ aa).cls.dX hm9 o';have hB9:ax w (dX w9 rr o'):=(ax.aB mX b9).dX hrr o';have JH:=Gr.xj (v:=x.tt) (eX hx);rw[show (x.ed).tt=x.tt from aa,if_pos aa,show (x.ed).q=x.r.q from aa] at JH
  have hq9:cP (dX w9 rr o') r3 (Gr.sumTo ((aX es).take (z+1)) x.tt) ((z+1)*(kk+1)+1):=by
   rw[JH,hstep];exact ((q3.in (IX.add yP)).kp k9).cells (xn hm9 o')
  have hsum9:∀ k:Int,cP (dX w9 rr o') ((l'.lookup k).getD Hu) (Gr.sumTo ((aX es).take (z+1)) k) ((z+1)*(kk+1)+1):=λk=>by
   rw[Ei];by_cases e:k=x.tt
   ·subst e;rw[if_pos bc];exact hq9
   ·rw[if_neg (by simpa using e),Gr.xj (eX hx),if_neg (λh=>e h.symm),Rat.add_zero];exact (((LX k).kp (aY.of (K:=KU UU) b9)).cells (xn hm9 o')).mono' ae
  obtain⟨cv,hcv⟩:∃ cv,oY (Gr.sumTo ((aX es).take (z+1)) x.tt) ((1:Int):Rat)=cv:=⟨_,aa⟩
  have hcell:∀ (j:Nat) (u:Value),[Value.int .i64 x.tt][j]? =some u->(dX w9 rr o').cell? ((⟨β 5,1,none⟩:Addr).add j)=some u:=λj u hj=>by
   rw[Addr.add_mid];cases j with
   | zero=>cases hj;exact hce.cell aa
   | succ j=>simp at hj
  (repeat (first|refine wN ?_|refine wP aa ?_|refine wO aa aa ?_))
  apply VS.hopL (P:=λF' _ w'=>pM F' [(1,.val (.pointer (some ⟨gb,0,none⟩))),(3,.val (.map (some rr))),(4,.val (.int .i64 (z:Int))),(8,.val (.slice (some ⟨b0,ee,none⟩) E c)),(9,.val (.int .i64 (E:Int))),(10,.val (.int .i64 (z:Int))),(31,.val (.bool (decide (cv>0))))]/\ax (dX w9 rr o') w')
  ·intro fin;refine VS.yW (bQ _ _) (rN _ _) 7 aa ?_
   repeat' (first
    | exact VA.nil aa
    | refine VA.cons aa ?_ ?_
    | refine VA.dt aa ?_
    | refine VA.go aa ?_
    | refine VA.fin aa ?_
    | exact fin _ _ _ ⟨⟨aa,aa,aa,aa,aa,aa,aa,aj⟩,by assumption⟩
    | refine VA.op (VO.read aa [.int .i64 x.tt] aa hcell (wN ?_))
    | refine VA.op (VO.lookM (κ:=JG) (k:=x.tt) aa aa xm zp (λ_ _ b2=>Gp.aD b2) (λw2 k2 b2=>wN ?_))
    | (refine VA.op (VO.call aa aa (fk Tryz.func60) (λwa ka ba=>(rV 1 wa ae ae).mono ?_))
       rintro e w7 ⟨r7,rfl,q7,zd⟩;refine⟨_,aa,zd,λk7 _ b7=>wN ?_⟩)
    | (refine VA.op (VO.call aa aa (fk Tryz.func59) (λwa ka ba=>(Jp _ _ _ ((1:Int):Rat) _ 1 wa ((hsum9 x.tt).kp Mk) (q7.ki (show oX ((1:Int):Rat) 1 from oX.one)) ae ae cv hcv).mono ?_))
       rintro e w8 ⟨rfl,AL⟩;refine⟨_,aa,AL,λk8 _ b8=>wN ?_⟩))
  rintro F' H' w' ⟨hF',hB'⟩;refine VS.narrow [(1,.val (.pointer (some ⟨gb,0,none⟩))),(3,.val (.map (some rr))),(4,.val (.int .i64 (z:Int))),(8,.val (.slice (some ⟨b0,ee,none⟩) E c)),(9,.val (.int .i64 (E:Int))),(10,.val (.int .i64 (z:Int))),(31,.val (.bool (decide (cv>0))))] [] hF' aj aa aj ?_;by_cases h6:Gr.sumTo ((aX es).take (z+1)) x.tt<=((1:Int):Rat)
  case neg=>
   refine VS.bJ aa (aU (by rw[<-hcv,Ht h6];omega)) ?_;refine af ?_;refine bH ?_;intro wz kz bz;exact⟨_,aa,.inr ⟨z,aa,⟨_,eX hx,(Dr hx).2 h6⟩,λi y hi hy=>dN i y hi hy⟩,ax.aB hB9 bz⟩
  refine VS.cd aa (bo (by rw[<-hcv];exact Hq h6)) ?_;refine af ?_;refine VS.iw aa (E-(z+1)) ae (λwq bG kq oq fE=>⟨[(1,.pointer (some ⟨gb,0,none⟩)),(3,.map (some rr)),(8,.slice (some ⟨b0,ee,none⟩) E c),(9,.int .i64 (E:Int)),(10,.int .i64 ((z+1:Nat):Int))],⟨⟨_,_,aa,aa,aa⟩,⟨_,_,aa,aa,aa⟩,⟨_,_,aa,aa,aa⟩,⟨_,_,aa,aa,aa⟩,⟨_,_,aa,ai (λz=>Value.int .i64 z) (bM ae),aa⟩,aj⟩,z+1,gb,l',ae,aa,aa,ax.aB hB9 oq,Gp.aD oq,λk=>(hsum9 k).kp (aY.of (K:=KU UU) oq),λi y hi hy=> ?_⟩);by_cases e:i<z
  ·exact dN i y e hy
  ·obtain rfl:i=z:=by omega
   rw[eX hx] at hy;cases hy;exact λh=>(Dr hx).1 h h6
 refine VS.cd aa (bo (λe=>xX (cf.1 e))) ?_;refine af ?_;refine bH ?_;intro wz kz bz;exact⟨-1,aa,.inl ⟨aa,λi x hi=>dN i x (by have:=(bx.1 hi).1;rw[dy] at this;omega) hi⟩,ax.aB mX bz⟩
set_option maxRecDepth 4000
structure uu (cs:List Value) (bs:List (List Nat)):Prop where
 len:cs.length=bs.length*4
 ok:cs.all aK=true
 at_:∀ (v:Nat) (xs:List Nat),bs[v]? =some xs->jP xs/\∀ (j x:Nat),xs[j]? =some x->cs[v*4+j]? =some (cj x)
variable {v:Nat}
theorem uu.set {cs:List Value} {bs:List (List Nat)} (h:uu cs bs) {ys:List Nat} (hv:v<bs.length) (hy:jP ys):uu (gN cs (v*4) (ys.map cj)) (bs.set v ys) where
 len:=by rw[sc,eF];exact h.len
 ok:=setL_ok h.ok (u64_ok ys)
 at_:=λu xs hu=>by
  have hl:=h.len;have ij:(ys.map cj).length=4:=by rw[cJ];exact hy.len
  rw[qM] at hu;by_cases e:v=u
  ·subst e;rw[if_pos rfl,if_pos hv] at hu;cases hu;refine⟨hy,λj x hj=>Hn _ _ _ ae (by rw[iK,hj];rfl)⟩
  ·rw[if_neg e] at hu;obtain⟨h1,h2⟩:=h.at_ u xs hu;refine⟨h1,λj x hj=> ?_⟩;have hj4:=(bx.1 hj).1;rw[h1.len] at hj4;rw[se _ _ _ ae];exact h2 j x hj
theorem uv (z:List Value):∀ n,dE n (z.map AV.val)=((List.replicate n z).flatten).map .val
 | 0=>rfl
 | n+1=>by rw[dE,uv z n,pb,ny,cT]
def uw:List Value:=[.int .u64 0,.int .u64 0,.int .u64 0,.int .u64 0]
theorem FE (n:Nat):uu ((List.replicate n uw).flatten) (List.replicate n [0,0,0,0]):=by
 induction n with
 | zero=>exact⟨aa,aa,λv xs h=>by simp at h⟩
 | succ n ih=>
   refine⟨?_,?_,λv xs h=> ?_⟩
   ·rw[pb,ny,da,ih.len,pb,ji,cV,po];rfl
   ·rw[pb,ny,nA,ih.ok];rfl
   ·rw[pb] at h;cases v with
    | zero=>
      cases h;refine⟨.zero,λj x hj=> ?_⟩;rw[pb,ny,kZ (by have:=(bx.1 hj).1;simpa [uw] using this)]
      match j,hj with
      | 0,h=>cases h;rfl
      | 1,h=>cases h;rfl
      | 2,h=>cases h;rfl
      | 3,h=>cases h;rfl
    | succ v=>
      obtain⟨h1,h2⟩:=ih.at_ v xs (by simpa using h);refine⟨h1,λj x hj=> ?_⟩;rw[pb,ny,nr (by simp[uw];omega)];rw[show (v+1)*4+j-uw.length=v*4+j by simp[uw];omega];exact h2 j x hj
def Hv (bs:List (List Nat)) (n:Nat) (R:Nat->Nat->Prop):Prop:=bs.length=n/\∀ (u v:Nat) (xs:List Nat),u<n->v<n->bs[u]? =some xs->(iz xs v=true↔R u v)
variable {xs:List Nat}
theorem bits4 (h:jP xs):∃ a b c d,xs=[a,b,c,d]:=by
 have hl:=h.len
 match xs,hl with
 | [a,b,c,d],_=>exact⟨a,b,c,d,aa⟩
theorem put_map (h:jP xs) (hv:v<256):(xs.map cj).set (0+v/64) (cj (xs.getD (v/64) 0 |||2^(v%64)))=(ot xs v).map cj:=by
 unfold ot;rw[cC,List.map_set]
theorem JI (kk:Nat) (v:Value) (n:Nat) (es:List iB) (w:World) (hv:gE kk w v (n:Int) es) (hn:n<=256) (tL:∀ e∈es,0<=e.fr/\e.fr<(n:Int)/\0<=e.tt/\e.tt<(n:Int)):
  Calls Tryz.prog 47 #[v] w λo w'=>∃ (r:Value) (j:Int),o=.returned (.tuple #[r,.int .i64 j])/\ax w w'/\
   ((j= -1/\Gr.lQ (aX es) (Gr.pP (aX es))/\∃ b cs bs,r=.slice (some ⟨b,0,none⟩) n n/\w.heap.size<=b/\aI w' b iR (List.toArray cs)/\uu cs bs/\Hv bs n λu v=>Gr.iy (aX es) es.length (u:Int) (v:Int))\/∃ i:Nat,j=(i:Int)/\r=.slice none 0 0/\Gr.jD (aX es) (Gr.pP (aX es)) i):=by
 obtain⟨p,c,rfl,hs⟩:=hv;obtain⟨p',c',hv',hle,fO⟩:=hs.form;cases hv';obtain⟨E,hE⟩:∃ E,E=es.length:=⟨_,aa⟩;rw[<-hE] at hs hle ⊢;refine ar (C:=bD Tryz.prog w _) (args:=[_]) Tryz.func47 aa Tryz.ntmps47 (cz aa) ?_;refine af ?_;refine VO.cond aa ⟨aa,ae,by show (n:Int)*(24*((4:Nat):Int))<=140737488355328;omega⟩ ?_;have jN:=uv uw n;refine VO.fix 11 aa (show AV.row 11 0 ((n:Int)).toNat ((n:Int)).toNat=.row 11 0 n n by rw[aQ]) ?_;refine VO.eU 11 aa (show dE ((n:Int)).toNat (uw.map AV.val)=((List.replicate n uw).flatten).map .val by rw[aQ];exact jN) (wV aa ?_);refine af ?_;refine VS.loop (J:=λm L M w'=>∃ (z:Nat) (cs:List Value) (bs:List (List Nat)),z<=E/\m=E-z/\L=[(1,.box 1 0),(4,.row 11 0 n n),(13,.val (.slice p E c)),(14,.val (.int .i64 (E:Int))),(15,.val (.int .i64 (z:Int)))]/\M=[(1,(24,[.val (.int .i64 (n:Int)),.val (.slice p E c)])),(11,(iR,cs.map .val))]/\uu cs bs/\(Hv bs n λu v=>Gr.iy (aX es) z (u:Int) (v:Int))/\∀ i x,i<z->(aX es)[i]? =some x->¬ Gr.pP (aX es) i x) E ⟨_,_,?_,?_,?_,?_,⟨0,_,_,ae,aa,aa,aa,FE n,⟨ya,λu v xs hu hv hx=> ?_⟩,λi x hi=>ae⟩⟩ ?_
 ·exact lK
 ·exact lK
 ·rfl
 ·exact CY
 ·rw[List.getElem?_replicate,if_pos hu] at hx;cases hx;rw[Fw];exact⟨λh=>(by cases h),λh=>absurd h Gr.lP⟩
 rintro m L M W ⟨z,cs,bs,hz,rfl,rfl,rfl,hcs,pV,dN⟩;refine VS.now (λw3 k3 b3=> ?_);have hsW:=hs.aD (mF.el kk) b3;refine af ?_;by_cases xX:z<E
 ·obtain⟨x,hx⟩:∃ x,es[z]? =some x:=⟨_,aZ ae⟩;obtain⟨h1,h2,h3,h4⟩:=tL x (dx hx);obtain⟨f,hf⟩:∃ f:Nat,x.fr=(f:Int):=⟨x.fr.toNat,ae⟩;obtain⟨t,ht⟩:∃ t:Nat,x.tt=(t:Int):=⟨x.tt.toNat,ae⟩;have DL:f<n:=ae;have htn:t<n:=ae;obtain⟨b0,ee,cs0,rfl,ry,⟨s0,p0,n0,c0,t0,y0,m0,d0,rfl,AW⟩⟩:=hs.at hx;rw[hf,ht] at ry;obtain⟨bt,hbt⟩:∃ xs,bs[t]? =some xs:=⟨_,aZ (by rw[pV.1];omega)⟩;obtain⟨JJ,hbt2⟩:=hcs.at_ t bt hbt;have hbtR:=pV.2 t f bt htn DL hbt;refine VS.bJ aa (aU (cf.2 xX)) ?_;refine af ?_;refine VO.cond aa eH ?_;refine wV aa ?_;refine af ?_;refine VO.read aa [.int .i64 (f:Int),.int .i64 (t:Int),.bool s0,.slice p0 n0 c0,.bool t0,.slice y0 m0 d0] aa (dk ry 0 _ ⟨[],aa⟩) (wV aa ?_);refine af ?_;refine VO.cond aa eH (wV aa ?_);obtain⟨rg,hrg⟩:∃ rg,iz bt f=rg:=⟨_,aa⟩;refine VO.ud aa (fk Tryz.func29) (λw1 β a1 a2 a3=>ll (show Calls _ _ #[.pointer (some ⟨β 11,0+((t:Int)).toNat*4,none⟩),.int .i64 (f:Int)] w1 _ from Ay (β 11) (0+((t:Int)).toNat*4) f bt w1 JJ (λj y hj=> ?_) ae) ?_)
  ·have hc:=(a3.own 11 (.base (by simp[dG,AV.ids])) _ _ aa).cls;rw[aA] at hc;rw[aQ,cC];exact hc.cell (by simpa using hbt2 j y hj)
  rintro e w2 ⟨rfl,bO⟩;rw[hrg];refine ck bO ?_;intro k4 _ b4
  have hring:Gr.pP (aX es) z x.ed↔rg=true:=by
   unfold Gr.pP;rw[<-hrg,hbtR,show (x.ed).tt=x.tt from aa,show (x.ed).fr=x.fr from aa,hf,ht]
  cases rg with
  | true=>
    refine af ?_;refine bH ?_;intro wz kz bz;exact⟨_,_,aa,bz,.inr ⟨z,aa,aa,⟨_,eX hx,hring.2 aa⟩,λi y hi hy=>dN i y hi hy⟩⟩
  | false=>
  refine af ?_;refine VO.cond aa eH (wV aa ?_);obtain⟨x0,x1,x2,x3,rfl⟩:=bits4 JJ;refine VO.dQ aa [.val (cj x0),.val (cj x1),.val (cj x2),.val (cj x3)] aa (λj u hj=> ?_) (wV aa ?_)
  ·have:([x0,x1,x2,x3].map (λy=>AV.val (cj y)))[j]? =some u:=hj;rw[iK] at this;obtain⟨y,hy,rfl⟩:=Option.map_eq_some_iff.1 this;rw[aQ,cC,iK,hbt2 j y hy];rfl
  refine af ?_;obtain⟨mo,hmo⟩:∃ mo,ot [x0,x1,x2,x3] t=mo:=⟨_,aa⟩;have hmoB:jP mo:=hmo▸JJ.put t
  have hmoR:∀ u,u<n->(iz mo u=true↔u=t\/Gr.iy (aX es) z (t:Int) (u:Int)):=λu hu=>by
   rw[<-hmo,JA JJ ae ae,pk,decide_eq_true_eq,pV.2 t u _ htn hu hbt]
  obtain⟨m0',m1',m2',m3',rfl⟩:=bits4 hmoB;refine VO.callM (i:=7) aa aa (by simp[dG,AV.ids]) (fk Tryz.func62) (cz aa) (λw1 β a1 a2 a3=>ll (show Calls _ _ #[.pointer (some ⟨β 7,0,none⟩),.int .i64 (t:Int)] w1 _ from put_any (β 7) 0 t ([x0,x1,x2,x3].map cj) ([x0,x1,x2,x3].getD (t/64) 0) w1 (a3.own 7 (.base (by simp[dG,AV.ids])) _ _ aa).cls aa ?_ (JJ.getD _) ae) ?_)
  ·rw[cC,iK,eL];obtain⟨y,hy⟩:∃ y,[x0,x1,x2,x3][t/64]? =some y:=⟨_,aZ (by simp;omega)⟩;rw[hy];rfl
  rintro e w4 ⟨rfl,fv,xG⟩;rw[put_map JJ ae,hmo] at xG;refine⟨_,[cj m0',cj m1',cj m2',cj m3'],aa,fv,xG,aa,λk5 _ b5=>wV aa ?_⟩;refine af ?_
  have JH:∀ u y:Nat,Gr.iy (aX es) (z+1) (u:Int) (y:Int)↔Gr.iy (aX es) z (u:Int) (y:Int)\/((u=f\/Gr.iy (aX es) z (u:Int) (f:Int))/\(y=t\/Gr.iy (aX es) z (t:Int) (y:Int))):=λu y=>by
   rw[Gr.lO (eX hx),show (x.ed).tt=x.tt from aa,show (x.ed).fr=x.fr from aa,hf,ht,Int.ofNat_inj,Int.ofNat_inj]
  refine VS.loop (J:=λm L M w'=>∃ (v:Nat) (cs:List Value) (bs:List (List Nat)),v<=n/\m=n-v/\L=[(1,.box 1 0),(4,.row 11 0 n n),(6,.box 6 0),(7,.box 7 0),(13,.val (.slice (some ⟨b0,ee,none⟩) E c)),(14,.val (.int .i64 (E:Int))),(15,.val (.int .i64 (z:Int))),(37,.val (.int .i64 (n:Int))),(38,.val (.int .i64 (v:Int)))]/\M=[(1,(24,[.val (.int .i64 (n:Int)),.val (.slice (some ⟨b0,ee,none⟩) E c)])),(6,(37,[.val (.int .i64 (f:Int)),.val (.int .i64 (t:Int)),.val (.bool s0),.val (.slice p0 n0 c0),.val (.bool t0),.val (.slice y0 m0 d0)])),(7,(iR,[.val (cj m0'),.val (cj m1'),.val (cj m2'),.val (cj m3')])),(11,(iR,cs.map .val))]/\uu cs bs/\(Hv bs n λu y=>if u<v then Gr.iy (aX es) (z+1) (u:Int) (y:Int) else Gr.iy (aX es) z (u:Int) (y:Int))) n ⟨_,_,?_,?_,?_,?_,⟨0,_,_,ae,aa,aa,aa,hcs,pV.1,λu y xs hu hy yP=>by dsimp only;rw[if_neg ae];exact pV.2 u y xs hu hy yP⟩⟩ ?_
  ·exact lK
  ·exact lK
  ·rfl
  ·exact CY
  rintro m L M W2 ⟨v,cs2,bs2,hvn,rfl,rfl,rfl,MN,wM⟩;refine af ?_;by_cases hv:v<n
  ·obtain⟨xs,yP⟩:∃ xs,bs2[v]? =some xs:=⟨_,aZ (by rw[wM.1];omega)⟩;obtain⟨hxsB,hxsA⟩:=MN.at_ v xs yP
   have hxsR:∀ y,y<n->(iz xs y=true↔Gr.iy (aX es) z (v:Int) (y:Int)):=λy hy=>by
    have:=wM.2 v y xs hv hy yP
    dsimp only at this
    rwa [if_neg ae] at this
   refine VS.bJ aa (aU (cf.2 hv)) ?_;obtain⟨ve,hve⟩:∃ ve,((v:Int) == (f:Int))=ve:=⟨_,aa⟩;obtain⟨hb,hhb⟩:∃ hb,iz xs f=hb:=⟨_,aa⟩;apply VS.hopL (P:=λF' H' w'=>pM F' [(1,.box 1 0),(4,.row 11 0 n n),(6,.box 6 0),(7,.box 7 0),(8,.val (.int .i64 (v:Int))),(13,.val (.slice (some ⟨b0,ee,none⟩) E c)),(14,.val (.int .i64 (E:Int))),(15,.val (.int .i64 (z:Int))),(37,.val (.int .i64 (n:Int))),(38,.val (.int .i64 (v:Int))),(52,.val (.bool (ve || hb)))]/\nV H' [(1,(24,[.val (.int .i64 (n:Int)),.val (.slice (some ⟨b0,ee,none⟩) E c)])),(6,(37,[.val (.int .i64 (f:Int)),.val (.int .i64 (t:Int)),.val (.bool s0),.val (.slice p0 n0 c0),.val (.bool t0),.val (.slice y0 m0 d0)])),(7,(iR,[.val (cj m0'),.val (cj m1'),.val (cj m2'),.val (cj m3')])),(11,(iR,cs2.map .val))])
   ·intro fin;refine af ?_;cases ve with
    | true=>
      refine VO.fix 45 aa (ai (λb=>AV.val (.bool b)) (hve)) ?_
      (repeat refine wO aa aa ?_)
      refine wN (fin _ _ _ ?_);exact⟨⟨aa,aa,aa,aa,aa,aa,aa,aa,aa,aa,aa,aj⟩,aa,aa,aa,aa,aj⟩
    | false=>
      refine VO.fix 45 aa (ai (λb=>AV.val (.bool b)) (hve)) ?_
      (repeat refine wO aa aa ?_)
      refine VO.cond aa eH (wV aa ?_)
      (repeat refine wO aa aa ?_)
      refine VO.ud aa (fk Tryz.func29) (λw1 β a1 a2 a3=>ll (show Calls _ _ #[.pointer (some ⟨β 11,0+((v:Int)).toNat*4,none⟩),.int .i64 (f:Int)] w1 _ from Ay (β 11) (0+((v:Int)).toNat*4) f xs w1 hxsB (λj y hj=> ?_) ae) ?_)
      ·have hc:=(a3.own 11 (.base (by simp[dG,AV.ids])) _ _ aa).cls;rw[aA] at hc;rw[aQ,cC];exact hc.cell (by simpa using hxsA j y hj)
      rintro e w6 ⟨rfl,rO⟩;rw[hhb];refine⟨_,aa,rO,λk6 _ b6=>wV aa (wN (fin _ _ _ ?_))⟩;exact⟨⟨aa,aa,aa,aa,aa,aa,aa,aa,aa,aa,aa,aj⟩,aa,aa,aa,aa,aj⟩
   rintro F' H' w' ⟨hF',hH'⟩;refine VS.narrow _ _ hF' hH' aa (by (repeat first|exact aj|refine⟨cr.lit aa,?_⟩|refine⟨cr.vals _,?_⟩)) ?_
   (repeat (first|refine wN ?_|refine wP aa ?_|refine wO aa aa ?_))
   by_cases hc:(ve || hb)=true
   case neg=>
    refine VS.cd aa (iL.2 hc) ?_;rw[pk,<-hve,<-hhb,beq_iff_eq,Int.ofNat_inj,hxsR f DL] at hc;refine af ?_;refine VS.back (n-(v+1)) ae ⟨_,_,?_,?_,?_,?_,⟨v+1,cs2,bs2,ae,aa,aa,aa,MN,wM.1,λu y xs hu hy FF=> ?_⟩⟩
    ·(refine⟨aa,aa,aa,aa,aa,aa,aa,aa,?_,aj⟩;rw[<-bM (i:=v) ae];rfl)
    ·exact lK
    ·rfl
    ·exact CY
    ·have:=wM.2 u y xs hu hy FF
     dsimp only at this ⊢
     by_cases e:u=v
     ·subst e;rw[if_neg ae] at this;rw[if_pos ae,this,JH];exact⟨.inl,λh=>h.resolve_right λh=>hc h.1⟩
     ·by_cases e2:u<v
      ·rw[if_pos e2] at this;rw[if_pos ae];exact this
      ·rw[if_neg e2] at this;rw[if_neg ae];exact this
   refine VS.bJ aa hc ?_;rw[pk,<-hve,<-hhb,beq_iff_eq,Int.ofNat_inj,hxsR f DL] at hc
   (repeat (first|refine wN ?_|refine wP aa ?_|refine wO aa aa ?_))
   refine VS.draw (bQ _ _) (rN _ _) [63] (by kernel_rfl) (wV aa ?_);refine VO.cond aa eH (wV aa ?_);refine VO.callM (i:=11) aa aa (by simp[dG,AV.ids]) (fk Tryz.func63) (cz aa) (λw1 β a1 a2 a3=>ll (show Calls _ _ #[.pointer (some ⟨β 11,0+((v:Int)).toNat*4,none⟩),.agg (([m0',m1',m2',m3']:List Nat).map cj).toArray] w1 _ from MB (β 11) (0+((v:Int)).toNat*4) cs2 xs [m0',m1',m2',m3'] w1 (by have hc:=(a3.own 11 (.base (by simp[dG,AV.ids])) _ _ aa).cls;rw[aA] at hc;exact hc) MN.ok hxsB hmoB (λj y hj=>by rw[aQ,cC];exact hxsA j y hj)) ?_);rintro e w7 ⟨rfl,zd,hc7⟩;have hjB:=hxsB.join hmoB;have hR:=MN.set (v:=v) (by rw[wM.1];exact hv) hjB;rw[aQ,cC] at hc7;refine⟨_,_,aa,zd,hc7,hR.ok,λk7 _ b7=>wV aa ?_⟩;refine af ?_;refine VS.back (n-(v+1)) ae ⟨_,_,?_,?_,?_,?_,⟨v+1,_,_,ae,aa,aa,aa,hR,by rw[eF];exact wM.1,λu y xs' hu hy FF=> ?_⟩⟩
   ·(refine⟨aa,aa,aa,aa,aa,aa,aa,aa,?_,aj⟩;rw[<-bM (i:=v) ae];rfl)
   ·exact lK
   ·rfl
   ·exact CY
   ·dsimp only
    rw[qM] at FF;by_cases e:v=u
    ·subst e;rw[if_pos rfl,if_pos (by rw[wM.1];exact hv)] at FF;cases FF;rw[if_pos ae,JH,Fx hxsB hmoB ae,pk,hxsR y hy,hmoR y hy];exact⟨λh=>h.imp id λh=>⟨hc,h⟩,λh=>h.imp id λh=>h.2⟩
    ·rw[if_neg e] at FF;have:=wM.2 u y xs' hu hy FF
     dsimp only at this
     by_cases e2:u<v
     ·rw[if_pos e2] at this;rw[if_pos ae];exact this
     ·rw[if_neg e2] at this;rw[if_neg ae];exact this
  refine VS.cd aa (bo (λe=>hv (cf.1 e))) ?_;obtain rfl:v=n:=ae;refine af ?_;refine VS.back (E-(z+1)) ae ⟨_,_,?_,?_,?_,?_,⟨z+1,cs2,bs2,ae,aa,aa,aa,MN,⟨wM.1,λu y xs hu hy yP=> ?_⟩,λi y hi hy=> ?_⟩⟩
  ·(refine⟨aa,aa,aa,aa,?_,aj⟩;rw[<-bM (i:=z) ae];rfl)
  ·exact lK
  ·rfl
  ·exact CY
  ·have:=wM.2 u y xs hu hy yP
   dsimp only at this
   rwa [if_pos hu] at this
  ·by_cases e:i<z
   ·exact dN i y e hy
   ·obtain rfl:i=z:=by omega
    rw[eX hx] at hy;cases hy;exact λh=>by cases hring.1 h
 refine VS.cd aa (bo (λe=>xX (cf.1 e))) ?_;obtain rfl:z=E:=ae;refine af ?_;refine VS.Af (bQ _ _) aa (λwz β kz bz en=> ?_);have ho:=en.own 11 _ _ aa;have hc:=ho.cls;rw[aA] at hc;exact⟨_,_,aa,bz,.inl ⟨aa,λi x hi=>dN i x (by have:=(bx.1 hi).1;rw[dy] at this;omega) hi,β 11,cs,bs,aa,ho.new,hc,hcs,pV⟩⟩
set_option maxRecDepth 4000
def Reached (B:Nat) (w:World) (r:Value) (N:Int) (es:List iB):Prop:=∃ n b cs bs,N=((n:Nat):Int)/\n<=256/\r=.slice (some ⟨b,0,none⟩) n n/\B<=b/\aI w b iR (List.toArray cs)/\uu cs bs/\Hv bs n λu v=>Gr.iy (aX es) es.length (u:Int) (v:Int)
abbrev KBt:KC:=⟨UU,λ_=>True,λt=>Nat.beq t iR⟩
abbrev cxB (P:Program) (w:World) (N:Nat):Cx:={ P:=P,w0:=w,N:=N,K:=KBt,SU:=λt=>Nat.beq t 31,ti:=table,keep:=λ_ _=>trivial }
theorem iH (w:World) (N:Nat):(cxB Tryz.prog w N).Ok:=lG
section
variable {F F':Fr} {H H':Hp} {w w1:World} {N:Nat} {l':List Oper} {Q:Exit->Act->World->Prop} {k:List It} {id:Nat} {ops:Array Oper}
theorem cxB_r (e:qj (cxB Tryz.prog w1 N) ops 80 ops.toList F H=(l',F',H')) (h:aq (cxB Tryz.prog w1 N) none ops l' (VS (cxB Tryz.prog w1 N) Q k) F' H' w):VS (cxB Tryz.prog w1 N) Q (.code (.region id ops false)::k) F H w:=VS.region (iH _ _) (VO.run 80 e h)
end
abbrev mG (N:Int) (es:List iB) (a e:Int):Prop:=Gr.Fu 3 2 120 121 N (aX es) a e
variable {P Q:Prop}
theorem eZ (h:Q) (i:Q->P:=by intro h;(repeat first|refine wN ?_|refine wP rfl ?_|refine cxB_r rfl ?_|refine cxB_d rfl ?_|refine wO rfl rfl ?_);exact h):P:=i h
theorem Hw {X:Prop} (hb:X) (h:Q) (i:X->Q->P:=by intro hb h;refine⟨_,rfl,hb,λa b c=>wV rfl ?_⟩;refine eZ ?_;revert a b c;exact h):P:=i hb h
theorem Ds (kk:Nat) (v:Value) (N:Int) (es:List iB) (w:World) (hv:gE kk w v N es) (uQ:1<=kk) (hk:kk<=1000):
  Calls Tryz.prog 27 #[v] w λo w'=>∃ (r:Value) (a e:Int),o=.returned (.tuple #[r,.int .i64 a,.int .i64 e])/\mG N es a e/\(e=0->Reached w.heap.size w' r N es)/\(e≠0->r=.slice none 0 0)/\ax w w':=by
 have xH:=hv;obtain⟨p,c,rfl,hs⟩:=hv;obtain⟨p',c',hv',hle,fO⟩:=hs.form;cases hv';obtain⟨E,hE⟩:∃ E,E=es.length:=⟨_,aa⟩;have hEl:(aX es).length=E:=by rw[dy,hE]
 have vP:∀ w',ax w w'->gE kk w' (.agg #[.int .i64 N,.slice p E c]) N es:=λw' hb=>hE▸xH.aD hb;rw[<-hE] at hs hle ⊢;clear xH;refine ar (C:=cxB Tryz.prog w _) (args:=[_]) Tryz.func27 aa Tryz.ntmps27 (cz aa) ?_;refine eZ ?_;by_cases h1:N<0
 case pos=>
  refine VO.fix 12 aa (ai (λb=>AV.val (.bool b)) (aU h1)) ?_;refine eZ ?_;refine VS.ret (iH _ _) aa aa (λwz kz bz=> ?_);exact⟨_,_,_,aa,.lim (.inl h1),λh=>(by cases h),λ_=>aa,bz⟩
 refine VO.fix 12 aa (ai (λb=>AV.val (.bool b)) (bo h1)) ?_;refine eZ ?_;by_cases h2:N>256
 case pos=>
  refine VO.fix 17 aa (ai (λb=>AV.val (.bool b)) (aU h2)) ?_;refine eZ ?_;refine VS.ret (iH _ _) aa aa (λwz kz bz=> ?_);exact⟨_,_,_,aa,.lim (.inr (.inl h2)),λh=>(by cases h),λ_=>aa,bz⟩
 refine VO.fix 17 aa (ai (λb=>AV.val (.bool b)) (bo h2)) ?_;refine eZ ?_;by_cases h3:(E:Int)>4096
 case pos=>
  refine VS.bJ aa (aU h3) ?_;refine eZ ?_;refine VS.ret (iH _ _) aa aa (λwz kz bz=> ?_);exact⟨_,_,_,aa,.lim (.inr (.inr ae)),λh=>(by cases h),λ_=>aa,bz⟩
 refine VS.cd aa (bo h3) ?_;refine eZ ?_;refine VO.call aa aa (fk Tryz.func45) (λfS gR gY=>(ML kk _ N es fS (vP _ gY) hk).mono ?_);rintro e w3 ⟨j3,rfl,q3,dc⟩
 skip
 refine Hw dc ?_;intro nj _ bb3;rcases q3 with ⟨rfl,q3⟩|⟨i3,rfl,q3⟩
 case inr=>
  refine VS.bJ aa (aU ae) ?_;refine eZ ?_;refine VS.ret (iH _ _) aa aa (λwz kz bz=> ?_);exact⟨_,_,_,aa,.arg ae ae ae q3,λh=>(by cases h),λ_=>aa,bz⟩
 refine eZ ?_;refine VO.call aa aa (fk Tryz.func46) (λjL lV mz=>(FD kk _ N es jL (vP _ mz) uQ hk ae).mono ?_);rintro e w4 ⟨j4,rfl,q4,fv⟩
 skip
 refine Hw fv ?_;intro rQ _ CO;rcases q4 with ⟨rfl,q4⟩|⟨i4,rfl,q4⟩
 case inr=>
  refine VS.bJ aa (aU ae) ?_;refine eZ ?_;refine VS.ret (iH _ _) aa aa (λwz kz bz=> ?_);exact⟨_,_,_,aa,.share ae ae ae q3 q4,λh=>(by cases h),λ_=>aa,bz⟩
 refine eZ ?_;obtain⟨n,hn⟩:∃ n:Nat,N=(n:Int):=⟨N.toNat,ae⟩;subst hn
 have tL:∀ e∈es,0<=e.fr/\e.fr<(n:Int)/\0<=e.tt/\e.tt<(n:Int):=λe he=>by
  obtain⟨i,hi⟩:=Ge.1 he;have:=Classical.not_not.1 (q3 i _ (eX hi));exact⟨this.2.1,this.2.2.1,this.2.2.2.1,this.2.2.2.2.1⟩
 refine VO.call aa aa (fk Tryz.func47) (λjM lI kY=>(JI kk _ n es jM (vP _ kY) ae tL).mono ?_);rintro e w5 ⟨r5,j5,rfl,jJ,q5⟩
 skip
 refine Hw jJ ?_;intro qI _ CP;rcases q5 with ⟨rfl,q5,b5,cs5,bs5,rfl,hB5,hc5,hR5,hT5⟩|⟨i5,rfl,rfl,q5⟩
 case inr=>
  refine VS.bJ aa (aU ae) ?_;refine eZ ?_;refine VS.ret (iH _ _) aa aa (λwz kz bz=> ?_);exact⟨_,_,_,aa,.ring ae ae ae q3 q4 q5,λh=>(by cases h),λ_=>aa,bz⟩
 refine eZ ?_;refine VS.ret (iH _ _) aa aa (λwz kz bz=> ?_);exact⟨_,_,_,aa,.ok ae ae ae q3 q4 q5,λ_=>⟨n,b5,cs5,bs5,aa,ae,aa,by have:=ax.size kY;omega,kz.block _ _ _ rfl aj hc5,hR5,hT5⟩,λh=>absurd aa h,bz⟩
theorem tf (kk:Nat) (v:Value) (N:Int) (es:List iB) (w:World) (hv:gE kk w v N es) (uQ:1<=kk) (hk:kk<=1000):
  Calls Tryz.prog 12 #[v] w λo w'=>∃ a e:Int,o=.returned (.tuple #[.int .i64 a,.int .i64 e])/\mG N es a e/\ax w w':=by
 have xH:=hv;obtain⟨p,c,rfl,hs⟩:=hv;refine ar (C:=bD Tryz.prog w _) (args:=[_]) yr aa Tryz.ntmps12 (cz aa) ?_;refine af ?_;refine VO.call aa aa (fk Tryz.func27) (λfS gR gY=>(Ds kk _ N es fS (xH.aD gY) uQ hk).mono ?_);rintro e w3 ⟨r3,a3,e3,rfl,q3,_,_,dc⟩
 skip
 refine ck dc ?_;intro nj _ bb3;refine bH ?_;intro wz kz bz;exact⟨_,_,aa,q3,bz⟩
theorem xo (kk:Nat) (v:Value) (N:Int) (es:List iB) (a e:Int) (w:World) (hv:gE kk w v N es) (uQ:1<=kk) (hk:kk<=1000) (h:mG N es a e):
  Calls Tryz.prog 12 #[v] w λo w'=>o=.returned (.tuple #[.int .i64 a,.int .i64 e])/\ax w w':=by
 refine (tf kk v N es w hv uQ hk).mono ?_;rintro o w' ⟨a',e',rfl,h',hb⟩;obtain⟨rfl,rfl⟩:=h.uniq h';exact⟨aa,hb⟩
def uF (N:Int) (es:List iB) (f t:Int):Prop:=Gr.qw N (aX es)/\(0<=f/\f<N)/\(0<=t/\t<N)/\Gr.iy (aX es) es.length f t
variable {N a:Int} {es:List iB}
theorem mG.Mx (h:mG N es a 0):Gr.qw N (aX es)/\a=0:=Gr.Fu.Mx h dh dh dh dh
theorem mG.not {e:Int} (h:mG N es a e) (he:e≠0):¬ Gr.qw N (aX es):=λk=>he (h.uniq k.chk).2
theorem bV (kk:Nat) (v:Value) (N:Int) (es:List iB) (f t:Int) (w:World) (hv:gE kk w v N es) (uQ:1<=kk) (hk:kk<=1000):
  Calls Tryz.prog 10 #[v,.int .i64 f,.int .i64 t] w λo w'=>∃ b,o=.returned (.bool b)/\(b=true↔uF N es f t)/\ax w w':=by
 have xH:=hv;obtain⟨p,c,rfl,hs⟩:=hv;refine ar (C:=cxB Tryz.prog w _) (args:=[_,_,_]) jl aa Tryz.ntmps10 (cz aa) ?_;refine eZ ?_;refine VO.call aa aa (fk Tryz.func27) (λfS gR gY=>(Ds kk _ N es fS (xH.aD gY) uQ hk).mono ?_);rintro e w3 ⟨r3,a3,e3,rfl,q3,q3r,_,dc⟩
 skip
 refine Hw dc ?_;intro nj _ bb3;by_cases h1:e3=0
 case neg=>
  refine VO.fix 18 aa (ai (λb=>AV.val (.bool b)) ((by simpa using h1:(e3 == 0)=false))) ?_;refine eZ ?_;refine VS.ret (iH _ _) aa aa (λwz kz bz=> ?_);exact⟨_,aa,⟨λh=>(by cases h),λh=>absurd h.1 (q3.not h1)⟩,bz⟩
 subst h1;obtain⟨pQ,rfl⟩:=q3.Mx;refine eZ ?_;by_cases h2:0<=f/\f<N
 case neg=>
  refine VO.cB aa aa (fk qT) (λjL lV mz=>kH N _ _ _ f jL false (bo h2)) (λjL lV mz w4 fv rQ _ CO=>wV aa ?_);refine eZ ?_;refine VS.ret (iH _ _) aa aa (λwz kz bz=> ?_);exact⟨_,aa,⟨λh=>(by cases h),λh=>absurd h.2.1 h2⟩,bz⟩
 refine VO.cB aa aa (fk qT) (λjL lV mz=>kH N _ _ _ f jL true (aU h2)) (λjL lV mz w4 fv rQ _ CO=>wV aa ?_);refine eZ ?_;by_cases h3:0<=t/\t<N
 case neg=>
  refine VO.cB aa aa (fk qT) (λjM lI kY=>kH N _ _ _ t jM false (bo h3)) (λjM lI kY w5 jJ qI _ CP=>wV aa ?_);refine eZ ?_;refine VS.ret (iH _ _) aa aa (λwz kz bz=> ?_);exact⟨_,aa,⟨λh=>(by cases h),λh=>absurd h.2.2.1 h3⟩,bz⟩
 refine VO.cB aa aa (fk qT) (λjM lI kY=>kH N _ _ _ t jM true (aU h3)) (λjM lI kY w5 jJ qI _ CP=>wV aa ?_);refine eZ ?_;obtain⟨n,b,cs,bs,rfl,hn,rfl,hB,hc,hR,hT⟩:=q3r aa;obtain⟨f',rfl⟩:∃ f':Nat,f=(f':Int):=⟨f.toNat,ae⟩;obtain⟨t',rfl⟩:∃ t':Nat,t=(t':Int):=⟨t.toNat,ae⟩;refine eZ ?_;refine VO.cond aa eH (wV aa ?_)
 (repeat refine wO aa aa ?_)
 obtain⟨xs,yP⟩:∃ xs,bs[f']? =some xs:=⟨_,aZ (by rw[hT.1];omega)⟩;obtain⟨hxB,hxA⟩:=hR.at_ f' xs yP;refine VO.cB aa aa (fk Tryz.func29) (λrT ui xA=>Ay b (0+((f':Int)).toNat*4) t' xs rT hxB (λj y hj=>by rw[aQ,cC];exact aI.cell (t:=iR) ((show aY KBt w3 rT from Mk).block _ _ _ aa aj hc) (by simpa using hxA j y hj)) ae) (λrT ui xA w6 rO xB _ Kf=>wV aa ?_);refine eZ ?_;refine VS.ret (iH _ _) aa aa (λwz kz bz=> ?_);exact⟨_,aa,⟨λh=>⟨pQ,h2,h3,(hT.2 f' t' xs ae ae yP).1 h⟩,λh=>(hT.2 f' t' xs ae ae yP).2 h.2.2.2⟩,bz⟩
set_option maxRecDepth 4000
def IE (_:World) (cs:List Value) (x:Int):Prop:=cs=[.int .i64 x]
theorem bW:mC IE 1 where
 kp:=λh _=>h
 len:=λh=>by rw[h];rfl
 ok:=λh=>by rw[h];rfl
abbrev bF:TypeId:=3
def qA (pr:iB->Bool):Nat->List iB->List Int
 | _,[]=>[]
 | i,e::r=>if pr e=true then (i:Int)::qA pr (i+1) r else qA pr (i+1) r
theorem zt (pr:iB->Bool) (x:iB):∀ (i:Nat) (l:List iB),qA pr i (l++[x])=qA pr i l++if pr x=true then [((i+l.length:Nat):Int)] else []
 | i,[]=>by
   rw[pg];unfold qA
   split <;> simp[qA]
 | i,e::r=>by
   rw[pc];unfold qA;rw[zt pr x (i+1) r,ji,show i+1+r.length=i+(r.length+1) by omega]
   split <;> simp
theorem Dt (pr:iB->Bool):∀ (i:Nat) (l:List iB),(qA pr i l).length<=l.length
 | _,[]=>aM _
 | i,e::r=>by
   unfold qA;have:=Dt pr (i+1) r
   split <;> simp <;> omega
theorem JK (b:Nat) (i:Int) (kk:Nat) (cs:List Value) (e:iB) (w:World) (hc:w.cell? ⟨b,0,none⟩=some (.int .i64 i)) (he:mF kk w cs e):
  Calls Tryz.prog 39 #[.agg cs.toArray,.pointer (some ⟨b,0,none⟩)] w λo w'=>o=.returned (.bool (e.tt == i))/\ax w w':=by
 obtain⟨s,p,n,c,t,y,m,d,rfl,_⟩:=he;refine ar (C:=bD Tryz.prog w _) (args:=[_,_]) Tryz.func39 aa Tryz.ntmps39 (cz aa) ?_;refine af ?_;refine VO.read aa [.int .i64 i] aa (λj u hj=> ?_) (wV aa ?_)
 ·cases j with
  | zero=>cases hj;exact hc
  | succ j=>simp at hj
 refine af ?_;refine bH ?_;intro wz kz bz;exact⟨aa,bz⟩
theorem FG (kk:Nat) (v:Value) (N:Int) (es:List iB) (g:FuncId) (q:Value) (pr:iB->Bool) (w:World) (hv:gE kk w v N es) (hE0:es.length<=1000000) (hg:rC Tryz.prog g)
  (Ms:∀ (w1:World) (cs:List Value) (e:iB),ax w w1->mF kk w1 cs e->Calls Tryz.prog g #[.agg cs.toArray,q] w1 λo w'=>o=.returned (.bool (pr e))/\ax w1 w'):
  Calls Tryz.prog 38 #[v,.func (.func g) #[] #[q]] w λo w'=>∃ r,o=.returned r/\bn IE 1 bF w.heap.size w' r (qA pr 0 es)/\ax w w':=by
 obtain⟨p,c,rfl,hs⟩:=hv;obtain⟨p',c',hv',hle,fO⟩:=hs.form;cases hv';obtain⟨E,hE⟩:∃ E,E=es.length:=⟨_,aa⟩;rw[<-hE] at hs hle hE0 ⊢;refine ar (C:=bD Tryz.prog w _) (args:=[_,_]) Tryz.func38 aa Tryz.ntmps38 (cz aa) ?_;refine af ?_;refine VS.loop (J:=λm L M w'=>∃ (z:Nat) (X:AV) (Mi:List (Nat×(TypeId×List AV))),z<=E/\m=E-z/\L=[(1,.val (.func (.func g) #[] #[q])),(4,X),(8,.val (.slice p E c)),(9,.val (.int .i64 (E:Int))),(10,.val (.int .i64 (z:Int)))]/\M=Mi/\Hk IE 1 bF 21 X Mi w' (qA pr 0 (es.take z))) E ⟨_,_,?_,?_,?_,?_,⟨0,_,[],ae,aa,aa,aa,.inl ⟨aa,aa,aa⟩⟩⟩ ?_
 ·exact lK
 ·exact lK
 ·rfl
 ·exact CY
 rintro m L M wI ⟨z,X,Mi,hz,rfl,rfl,rfl,hI⟩;refine VS.now (λwX kN bN=> ?_);have hsX:=hs.aD (mF.el kk) bN;replace hI:=hI.kp bW (aY.xL kN);refine VS.mask [6,20] (by rcases hI with ⟨_,rfl,rfl⟩|⟨_,_,_,_,rfl,rfl,_⟩ <;> (repeat first|exact aj|refine⟨aa,?_⟩)) ?_;refine af ?_;by_cases xX:z<E
 ·obtain⟨x,hx⟩:∃ x,es[z]? =some x:=⟨_,aZ ae⟩;obtain⟨b0,ee,cs0,rfl,ry,⟨s0,p0,n0,c0,t0,y0,m0,d0,rfl,AW⟩⟩:=hs.at hx;have JH:=zt pr x 0 (es.take z);rw[<-mB hx,aR,dF (show z<=es.length by omega),cC] at JH;refine VS.bJ aa (aU (cf.2 xX)) ?_;refine af ?_;refine VO.cond aa eH ?_;refine wV aa ?_;refine af ?_;refine VO.read aa [.int .i64 x.fr,.int .i64 x.tt,.bool s0,.slice p0 n0 c0,.bool t0,.slice y0 m0 d0] aa (dk ry 0 _ ⟨[],aa⟩) (wV aa ?_);refine af ?_;refine VO.call aa aa hg (λw1 k1 b1=>(Ms w1 [.int .i64 x.fr,.int .i64 x.tt,.bool s0,.slice p0 n0 c0,.bool t0,.slice y0 m0 d0] x b1 ⟨s0,p0,n0,c0,t0,y0,m0,d0,aa,AW.kp (aY.of (K:=KU UU) b1)⟩).mono ?_);rintro e w2 ⟨rfl,bO⟩;refine⟨_,aa,bO,λk2 _ b2=>wV aa ?_⟩;replace hI:=hI.kp bW (aY.xL k2);refine af ?_;by_cases hp:pr x=true
  ·rw[if_pos hp] at JH;refine VS.bJ aa hp ?_;refine af ?_;rcases hI with ⟨jr,rfl,rfl⟩|⟨n',c',vs,sp,rfl,rfl,hN1⟩
   ·refine VO.xe (bQ _ _) bW (t:=27) (e:=bF) (s:=20) (a:=(z:Int)) (cs:=[.int .i64 (z:Int)]) aa aa aa aa aa aa aa aa (cz aa) aa aa aa aa ae (λw9 cap sp k9 b9 qB=>wV aa ?_);refine af ?_;refine VS.back (E-(z+1)) ae ⟨_,_,?_,?_,?_,?_,⟨z+1,_,_,ae,aa,aa,aa,.inr ⟨1,cap,_,sp,aa,aa,by rw[JH,jr];exact qB⟩⟩⟩
    ·(refine⟨aa,aa,aa,aa,?_,aj⟩;rw[<-bM (i:=z) ae];rfl)
    ·(repeat first|exact aj|refine⟨aa,?_⟩|refine⟨ai (λl=>some (_,l)) (wZ (by first|exact gD.dP (by assumption)|exact aG _|(rw[<-cT];exact aG _)) _ _),?_⟩)
    ·rfl
    ·(repeat first|exact aj|refine⟨cr.lit aa,?_⟩|refine⟨gD.clo (by assumption),?_⟩|refine⟨cr.append (.vals _) (.vals _),?_⟩|refine⟨cr.vals _,?_⟩)
   ·have IV:=hN1.len;have zO:=Dt pr 0 (es.take z);rw[aR] at zO;refine VO.rX (bQ _ _) bW (t:=27) (e:=bF) (s:=20) (i:=21) (n:=n') (c:=c') (vs:=vs) (sp:=sp) (es:=qA pr 0 (es.take z)) (a:=(z:Int)) (cs:=[.int .i64 (z:Int)]) aa aa aa aa aa aa aa aa (cz aa) aa (.inr aa) aa hN1 aa aa ae (λw9 cap2 Ar ρ k9 b9 dH qB=>wV aa ?_);refine af ?_;refine VS.back (E-(z+1)) ae ⟨_,_,?_,?_,?_,?_,⟨z+1,_,_,ae,aa,aa,aa,.inr ⟨n' +1,cap2,_,Ar,aa,aa,by rw[JH];exact qB⟩⟩⟩
    ·(refine⟨aa,aa,aa,aa,?_,aj⟩;rw[<-bM (i:=z) ae];rfl)
    ·(repeat first|exact aj|refine⟨aa,?_⟩|refine⟨ai (λl=>some (_,l)) (wZ (by first|exact gD.dP (by assumption)|exact aG _|(rw[<-cT];exact aG _)) _ _),?_⟩)
    ·rfl
    ·(repeat first|exact aj|refine⟨cr.lit aa,?_⟩|refine⟨gD.clo (by assumption),?_⟩|refine⟨cr.append (.vals _) (.vals _),?_⟩|refine⟨cr.vals _,?_⟩)
  ·rw[if_neg hp,dS] at JH;refine VS.cd aa (iL.2 hp) ?_;refine af ?_;rcases hI with ⟨jr,rfl,rfl⟩|⟨n',c',vs,sp,rfl,rfl,hN1⟩
   ·refine VS.back (E-(z+1)) ae ⟨_,_,?_,?_,?_,?_,⟨z+1,_,[],ae,aa,aa,aa,.inl ⟨by rw[JH,jr],rfl,rfl⟩⟩⟩
    ·(refine⟨aa,aa,aa,aa,?_,aj⟩;rw[<-bM (i:=z) ae];rfl)
    ·exact lK
    ·rfl
    ·exact CY
   ·refine VS.back (E-(z+1)) ae ⟨_,_,?_,?_,?_,?_,⟨z+1,_,_,ae,aa,aa,aa,.inr ⟨n',c',vs,sp,aa,aa,by rw[JH];exact hN1⟩⟩⟩
    ·(refine⟨aa,aa,aa,aa,?_,aj⟩;rw[<-bM (i:=z) ae];rfl)
    ·exact lK
    ·rfl
    ·exact⟨hN1.clo,aj⟩
 refine VS.cd aa (bo (λe=>xX (cf.1 e))) ?_;obtain rfl:z=E:=ae;rw[du ae] at hI;refine af ?_;rcases hI with ⟨jr,rfl,rfl⟩|⟨n',c',vs,sp,rfl,rfl,hN1⟩
 ·refine bH ?_;intro wz kz bz;exact⟨_,aa,.inl ⟨aa,jr⟩,bz⟩
 ·refine VS.Af (bQ _ _) aa (λwz β kz bz en=> ?_);exact⟨_,aa,hN1.new bW (en.own 21 _ _ aa) kz,bz⟩
theorem mH {α:Type} {E:World->List Value->α->Prop} {sz c:Nat} {w:World} {vs:List (List Value)} {spare:List Value} {es:List α} (h1:fD E w es vs) (h2:spare.all aK=true) (h3:es.length<=c) (h4:c<=9223372036854775807) (h5:(vs.flatten++spare).length=c*sz):gD E sz w es.length c vs (spare.map .val) es:=
 ⟨rfl,h1,cO h2,aG spare,h3,h4,by rw[<-h5,da,da,cJ,cJ]⟩
theorem MO (kk:Nat) (v:Value) (N:Int) (es:List iB) (i:Int) (w:World) (hv:gE kk w v N es) (hE0:es.length<=1000000):
  Calls Tryz.prog 17 #[v,.int .i64 i] w λo w'=>∃ r,o=.returned r/\bn IE 1 bF w.heap.size w' r (qA (λe=>e.tt == i) 0 es)/\ax w w':=by
 have xH:=hv;obtain⟨p,c,rfl,hs⟩:=hv;refine ar (C:=bD Tryz.prog w _) (args:=[_,_]) Tryz.func17 aa Tryz.ntmps17 (cz aa) ?_;refine af ?_;refine VO.callX bW (dst:=7) (t:=bF) (es:=qA (λe=>e.tt == i) 0 es) aa aa aa (cz aa) (cz aa) aa (λw1 β a1 a2 a3=>⟨fk Tryz.func38,ll (show Calls _ _ #[.agg #[.int .i64 N,.slice p es.length c],.func (.func 39) #[] #[.pointer (some ⟨β 3,0,none⟩)]] w1 _ from FG kk _ N es _ _ (λe=>e.tt == i) w1 (xH.aD a2) hE0 (fk Tryz.func39) (λw2 cs e hb he=>JK (β 3) i kk cs e w2 (((a3.own 3 (.base (by simp[jt.ids,dG,AV.ids])) _ _ aa).cls.aD hb).cell aa) he)) ?_⟩);rintro e w2 ⟨r,rfl,hr,bO⟩;refine⟨_,aa,bO,hr,λk2 _ b2 jr=>wV aa ?_,λc2 vs sp k2 _ b2 Ag hsp hle2 hcm2 uN=>wV aa ?_⟩
 ·refine af ?_;refine bH ?_;intro wz kz bz;exact⟨_,aa,.inl ⟨aa,jr⟩,bz⟩
 ·refine af ?_;refine VS.Af (bQ _ _) aa (λwz β kz bz en=> ?_);exact⟨_,aa,gD.new bW (mH Ag hsp hle2 hcm2 uN) (en.own 7 _ _ aa) kz,bz⟩
end
section
namespace Gr
def kI (g:Nat->Int) (i j:Nat):Nat->Int:=λk=>if k=i then g j else if k=j then g i else g k
def ou (g:Nat->Int) (n:Nat):Prop:=∀ k,0<k->k<n->g ((k-1)/2)<=g k
def UpF (g:Nat->Int) (n j:Nat):Prop:=(∀ k,0<k->k<n->k≠j->g ((k-1)/2)<=g k)/\∀ k,0<k->k<n->(k-1)/2=j->0<j->g ((j-1)/2)<=g k
variable {j:Nat} {g:Nat->Int}
theorem Hx {n:Nat} (h:UpF g n j) (hj:j=0\/g ((j-1)/2)<=g j):ou g n:=λk h0 hk=>by
 by_cases e:k=j
 ·subst e;rcases hj with hj|hj
  ·omega
  ·exact hj
 ·exact h.1 k h0 hk e
theorem up_step {n:Nat} (h:UpF g n j) (h0:0<j) (hn:j<n) (hlt:g j<g ((j-1)/2)):UpF (kI g ((j-1)/2) j) n ((j-1)/2):=by
 obtain⟨i,hi⟩:∃ i,(j-1)/2=i:=⟨_,aa⟩;have hij:i<j:=ae;rw[hi] at hlt ⊢;refine⟨λk k0 kn ki=> ?_,λk k0 kn kp i0=> ?_⟩
 ·unfold kI;by_cases e:k=j
  ·subst e;rw[if_pos hi,if_neg ae,if_pos rfl];exact Int.le_of_lt hlt
  ·rw[if_neg ki,if_neg e];by_cases q:(k-1)/2=i
   ·rw[if_pos q];have:=h.1 k k0 kn e;rw[q] at this;exact Int.le_trans (Int.le_of_lt hlt) this
   ·rw[if_neg q];by_cases q2:(k-1)/2=j
    ·rw[if_pos q2];have:=h.2 k k0 kn q2 h0
     rwa [hi] at this
    ·rw[if_neg q2];exact h.1 k k0 kn e
 ·unfold kI;have hp:((i-1)/2)<i:=ae;rw[if_neg ae,if_neg ae,if_neg ae];have hpi:=h.1 i i0 ae ae;by_cases e:k=j
  ·subst e;rw[if_pos rfl];exact hpi
  ·rw[if_neg e];have:=h.1 k k0 kn e;rw[kp] at this;exact Int.le_trans hpi this
def zu (g:Nat->Int) (n i:Nat):Prop:=(∀ k,0<k->k<n->(k-1)/2≠i->g ((k-1)/2)<=g k)/\∀ k,0<k->k<n->(k-1)/2=i->0<i->g ((i-1)/2)<=g k
variable {i:Nat}
theorem zv {n:Nat} (h:zu g n i) (hi:∀ k,0<k->k<n->(k-1)/2=i->g i<=g k):ou g n:=λk h0 hk=>by
 by_cases e:(k-1)/2=i
 ·rw[e];exact hi k h0 hk e
 ·exact h.1 k h0 hk e
theorem JL {n:Nat} (h:zu g n i) (h0:0<j) (hn:j<n) (hj:(j-1)/2=i) (hlt:g j<g i) (ho:∀ k,0<k->k<n->(k-1)/2=i->g j<=g k):zu (kI g i j) n j:=by
 have hij:i<j:=ae;refine⟨λk k0 kn kp=> ?_,λk k0 kn kp _=> ?_⟩
 ·unfold kI;by_cases e:k=i
  ·subst e;rw[if_pos rfl,if_neg ae,if_neg ae];exact h.2 j h0 hn hj k0
  ·rw[if_neg e];by_cases q:(k-1)/2=i
   ·rw[if_pos q];by_cases e2:k=j
    ·subst e2;rw[if_pos rfl];exact Int.le_of_lt hlt
    ·rw[if_neg e2];exact ho k k0 kn q
   ·rw[if_neg q,if_neg kp];by_cases e2:k=j
    ·subst e2;exact absurd hj q
    ·rw[if_neg e2];exact h.1 k k0 kn q
 ·unfold kI;rw[hj,if_pos rfl,if_neg ae,if_neg ae];have:=h.1 k k0 kn ae
  rwa [kp] at this
theorem MP {n:Nat} (h:ou g n):∀ k,k<n->g 0<=g k:=by
 intro k
 induction k using Nat.strongRecOn with
 | ind k ih=>
   intro hk;by_cases e:k=0
   ·subst e;exact pw _
   ·exact Int.le_trans (ih ((k-1)/2) ae ae) (h k ae hk)
def gF (xs:List Int):Nat->Int:=λk=>xs.getD k 0
def gJ (xs:List Int) (i j:Nat):List Int:=(xs.set i (gF xs j)).set j (gF xs i)
theorem fL (xs:List Int) (i j:Nat):(gJ xs i j).length=xs.length:=by unfold gJ;simp
variable {xs:List Int}
theorem xp (hi:i<xs.length) (hj:j<xs.length) (k:Nat):gF (gJ xs i j) k=kI (gF xs) i j k:=by
 unfold gF gJ kI;simp only[List.getD_eq_getElem?_getD,List.getElem?_set,List.length_set];by_cases e1:k=i
 ·subst e1;by_cases e2:j=k
  ·subst e2;simp[hi,gF,List.getD_eq_getElem?_getD]
  ·rw[if_neg e2,if_pos rfl,if_pos hi,if_pos rfl];simp[gF,List.getD_eq_getElem?_getD]
 ·rw[if_neg e1];by_cases e2:j=k
  ·subst e2;rw[if_pos rfl,if_pos hj,if_pos rfl];simp[gF,List.getD_eq_getElem?_getD]
  ·rw[if_neg e2,if_neg (λe=>e1 e.symm),if_neg (λe=>e2 e.symm)]
theorem set_perm:∀ (xs:List Int) (i:Nat) (v:Int),i<xs.length->(xs.set i v).Perm (v::xs.eraseIdx i)
 | [],_,_,h=>by simp at h
 | x::r,0,v,_=>bc
 | x::r,i+1,v,h=>by
   rw[List.set_cons_succ,List.eraseIdx_cons_succ];exact ((set_perm r i v (by simpa using h)).cons x).trans (List.Perm.swap v x _)
theorem qC:∀ (xs:List Int) (i:Nat),i<xs.length->xs.Perm (gF xs i::xs.eraseIdx i)
 | [],_,h=>by simp at h
 | x::r,0,_=>by simp[gF]
 | x::r,i+1,h=>by
   rw[List.eraseIdx_cons_succ];have:=qC r i (by simpa using h);have e:gF (x::r) (i+1)=gF r i:=by simp[gF]
   rw[e];exact (this.cons x).trans (List.Perm.swap _ _ _)
theorem qD (hi:i<xs.length) (hj:j<xs.length):(gJ xs i j).Perm xs:=by
 by_cases e:i=j
 ·subst e
  have:gJ xs i i=xs:=by
   apply Be;intro k;unfold gJ;simp only[List.getElem?_set,List.length_set];by_cases q:i=k
   ·subst q;rw[if_pos rfl,if_pos hi,aZ hi];simp[gF,List.getD_eq_getElem?_getD,hi]
   ·rw[if_neg q,if_neg q]
  rw[this]
 ·have h1:=set_perm (xs.set i (gF xs j)) j (gF xs i) (by rw[eF];exact hj);have h2:=qC (xs.set i (gF xs j)) j (by rw[eF];exact hj)
  have e2:gF (xs.set i (gF xs j)) j=gF xs j:=by
   unfold gF;simp[List.getD_eq_getElem?_getD,List.getElem?_set,e]
  rw[e2] at h2;have h3:=set_perm xs i (gF xs j) hi;have h4:=qC xs i hi;have h5:((xs.set i (gF xs j)).eraseIdx j).Perm (xs.eraseIdx i):=(List.perm_cons _).1 (h2.symm.trans h3);exact (h1.trans (h5.cons _)).trans h4.symm
end Gr
end
section
open Go.RowKit
def vd (P:Program) (t:TypeId) (nm:String) (f:FuncId) (pr:Bool):Bool:=match P.info? t with
 | some ti=>(match ti.methods.find? (·.name == nm) with
   | some m=>m.path.isEmpty && (match m.func with|some (g,q)=>Nat.beq g f && (q == pr)|none=>false)
   | none=>false)
 | none=>false
variable {f:FuncId} {P:Program} {nm:String} {t:TypeId}
theorem ux {pr:Bool} (h:vd P t nm f pr=true):∃ ti m,P.info? t=some ti/\ti.methods.find? (·.name == nm)=some m/\m.path=#[]/\m.func=some (f,pr):=by
 unfold vd at h
 split at h
 ·rename_i ti wC
  split at h
  ·rename_i m hm;rw[dR] at h;obtain⟨h1,h2⟩:=h
   split at h2
   ·rename_i g q hf;rw[dR,beq_iff_eq] at h2;obtain⟨h2,rfl⟩:=h2;have:=fT h2;subst this;exact⟨ti,m,wC,hm,by simpa using h1,hf⟩
   ·cases h2
  ·cases h
 ·cases h
variable {e:TypeId}
theorem zw (h:vd P t nm f true=true) (hu:P.underlying t=some (.pointer e)) (v:Value) (w:World) (n:Nat):(method (n+1) t v nm).run P w=.ok (f,v) w:=by
 obtain⟨ti,m,h1,h2,h3,h4⟩:=ux h;unfold method;simp[typeInfo,h1,h2,h3,h4,follow,receiverAt,run_underlying hu,Place.get,Result.andThen]
variable {v:Value}
theorem tg (h:vd P t nm f false=true) (hu:P.underlying t=some (.pointer e)) (a:Addr) (w:World) (n:Nat) (hv:(loadVar e a).run P w=.ok v w):(method (n+1) t (.pointer (some a)) nm).run P w=.ok (f,v) w:=by
 obtain⟨ti,m,h1,h2,h3,h4⟩:=ux h;have h5:∀ s:String,(Builtin.ssaWrapNilChk_ #[t] t #[.pointer (some a),strVal "",strVal s]).run P w=.ok (.pointer (some a)) w:=λs=>aa
 unfold method;simp[typeInfo,h1,h2,h3,h4,follow,receiverAt,run_underlying hu,Place.get,Result.andThen,h5,asAddr,hv]
variable {az:Array Operand} {ts:Array TypeId} {us:List Value} {o:Oper} {x:Operand} {rcv:Value} {w:World}
theorem xq (ho:o.op=.call { callee:=.invoke x nm,args:=az,argTypes:=ts }) (hf:rC P f) (hm:(method (P.types.size+Made.depth) t v nm).run P w=.ok (f,rcv) w) (ρ:Operand->Value) (dH:o.op.operands.toList.map ρ=.iface t v::us):
  (execOp ρ o).run P w=.ok (.enter f (rcv::us).toArray) w:=by
 rw[ho] at dH;simp[Op.operands,Call.operands] at dH;obtain⟨h1,h2⟩:=dH;have h3:az.map ρ=us.toArray:=jS.1 (by rw[lh,h2]);unfold execOp;rw[ho];simp only[resolve,h1,h3,Sem.run_bind,Sem.run_pure,Result.andThen_ok];unfold invoke;have e1:(#[Value.iface t v]++us.toArray)[0]? =some (.iface t v):=bc
 have e2:(#[Value.iface t v]++us.toArray).extract 1 (#[Value.iface t v]++us.toArray).size=us.toArray:=by
  apply jS.1;simp
 simp only[e1,e2,callMethod,Sem.run_bind];have hp:(program:Sem Program).run P w=.ok P w:=aa;simp only[hp,Result.andThen_ok,hm];have e3:(#[rcv]++us.toArray:Array Value)=(rcv::us).toArray:=bc;rw[e3];exact rI hf _ _
variable {l:List AV}
theorem VO.inv {C:Cx} {F:Fr} {H:Hp} {m:Option (List FuncId)} {full:Array Oper} {K:Fr->Hp->World->Prop} {r:List Oper}
  (e:stepOf C full F H o=.call (.inv o l)) (hl:eE l=some (.iface t v::us)) (ho:o.op=.call { callee:=.invoke x nm,args:=az,argTypes:=ts }) (hf:rC C.P f)
  (h:∀ w1,aY C.K w w1->C.Old w1->∃ rcv,(method (C.P.types.size+Made.depth) t v nm).run C.P w1=.ok (f,rcv) w1/\Calls C.P f (rcv::us).toArray w1 λe w2=>∃ u,e=.returned u/\ax w1 w2/\(aY C.K w w2->aY C.K w1 w2->C.Old w2->aq C m full r K (F.bm o.dst (.val u)) H w2)):aq C m full (o::r) K F H w:=by
 refine VO.uc e λw1 β h1 h2 _=> ?_;obtain⟨rcv,g1,g2⟩:=h w1 h1 h2;refine⟨f,_,λρ dH=>xq ho hf g1 ρ ?_,g2⟩;rw[dH,fH hl,eB]
theorem ow {β:Nat->Nat} {R:Ending->World->Prop}
  (hl:eE l=some (.iface t v::us)) (ho:o.op=.call { callee:=.invoke x nm,args:=az,argTypes:=ts }) (hf:rC P f) (hm:(method (P.types.size+Made.depth) t v nm).run P w=.ok (f,rcv) w) (h:Calls P f (rcv::us).toArray w R):oV P (.inv o l) β w R:=
 ⟨f,_,λρ dH=>xq ho hf hm ρ (by rw[dH,fH hl,eB]),h⟩
abbrev fM:TypeId:=58
abbrev JM:TypeId:=57
def xr (p:Nat):Value:=.iface JM (.pointer (some ⟨p,0,none⟩))
theorem lS (P:Program):∃ n,P.types.size+Made.depth=n+1:=⟨P.types.size+99,rfl⟩
theorem th (p:Nat) (sv:Value) (w:World) (hc:w.cell? ⟨p,0,none⟩=some sv):(loadVar fM ⟨p,0,none⟩).run Tryz.prog w=.ok sv w:=by
 have hi:TI.Ok Tryz.prog fM _:=lG fM _ aa
 exact ew hi ⟨p,0,none⟩ [sv] aa w (λj u hj=>by
  cases j with
  | zero=>cases hj;exact hc
  | succ j=>simp at hj)
theorem Du (p:Nat) (sv:Value) (w:World) (hc:w.cell? ⟨p,0,none⟩=some sv):(method ((Tryz.prog).types.size+Made.depth) JM (.pointer (some ⟨p,0,none⟩)) "Len").run Tryz.prog w=.ok (25,sv) w:=by
 obtain⟨n,hn⟩:=lS Tryz.prog;rw[hn];exact tg (by kernel_rfl) yi _ w n (th p sv w hc)
theorem tj (p:Nat) (sv:Value) (w:World) (hc:w.cell? ⟨p,0,none⟩=some sv):(method ((Tryz.prog).types.size+Made.depth) JM (.pointer (some ⟨p,0,none⟩)) "Less").run Tryz.prog w=.ok (154,sv) w:=by
 obtain⟨n,hn⟩:=lS Tryz.prog;rw[hn];exact tg (by kernel_rfl) yi _ w n (th p sv w hc)
theorem tk (p:Nat) (sv:Value) (w:World) (hc:w.cell? ⟨p,0,none⟩=some sv):(method ((Tryz.prog).types.size+Made.depth) JM (.pointer (some ⟨p,0,none⟩)) "Swap").run Tryz.prog w=.ok (157,sv) w:=by
 obtain⟨n,hn⟩:=lS Tryz.prog;rw[hn];exact tg (by kernel_rfl) yi _ w n (th p sv w hc)
theorem JN (v:Value) (w:World):(method ((Tryz.prog).types.size+Made.depth) JM v "Push").run Tryz.prog w=.ok (156,v) w:=by
 obtain⟨n,hn⟩:=lS Tryz.prog;rw[hn];exact zw (by kernel_rfl) yi v w n
theorem MQ (v:Value) (w:World):(method ((Tryz.prog).types.size+Made.depth) JM v "Pop").run Tryz.prog w=.ok (155,v) w:=by
 obtain⟨n,hn⟩:=lS Tryz.prog;rw[hn];exact zw (by kernel_rfl) yi v w n
end
set_option maxRecDepth 4000
section
open Go.RowKit
attribute [local irreducible] aq VS
def dm (xs:List Int):List Value:=xs.map (Value.int .i64)
theorem ey (xs:List Int):(dm xs).length=xs.length:=cJ _
theorem vg (xs:List Int):(dm xs).all aK=true:=aW.2 λx hx=>by
 obtain⟨y,_,rfl⟩:=cU.1 hx;rfl
variable {xs:List Int} {i:Nat}
theorem oT (h:i<xs.length) (sp:List Value):(dm xs++sp)[i]? =some (.int .i64 (Gr.gF xs i)):=by
 rw[kZ (by rw[ey];exact h)];unfold dm Gr.gF;rw[iK,aZ h,eL,aZ h];rfl
theorem si (h:i<xs.length) (x:Int) (sp:List Value):(dm xs++sp).set i (.int .i64 x)=dm (xs.set i x)++sp:=by
 rw[List.set_append_left _ _ (by rw[ey];exact h)];unfold dm;rw[List.map_set]
theorem xu (p:Option Addr) (n c:Nat) (w:World):Calls Tryz.prog 25 #[.slice p n c] w λo w'=>o=.returned (.int .i64 (n:Int))/\ax w w':=by
 refine ar (C:=bD Tryz.prog w _) (args:=[_]) Tryz.func25 aa Tryz.ntmps25 (cz aa) ?_;refine af ?_;refine bH ?_;intro wz kz bz;exact⟨aa,bz⟩
theorem tn (b c i j:Nat) (xs:List Int) (sp:List Value) (w:World) (hc:aI w b bF (dm xs++sp).toArray) (hi:i<xs.length) (hj:j<xs.length) (r:Bool) (hr:decide (Gr.gF xs i<Gr.gF xs j)=r):
  Calls Tryz.prog 154 #[.slice (some ⟨b,0,none⟩) xs.length c,.int .i64 (i:Int),.int .i64 (j:Int)] w λo w'=>o=.returned (.bool r)/\ax w w':=by
 have cell:∀ i,i<xs.length->∀ (k:Nat) (u:Value),[Value.int .i64 (Gr.gF xs i)][k]? =some u->w.cell? ((⟨b,0+((i:Int)).toNat*1,none⟩:Addr).add k)=some u:=λi hi k u hk=>by
  rw[Addr.add_mid,aQ,cC,eM];cases k with
  | zero=>cases hk;exact hc.cell (by simpa using oT hi sp)
  | succ k=>simp at hk
 obtain⟨n,hn⟩:∃ n,n=xs.length:=⟨_,aa⟩;rw[<-hn];refine ar (C:=bD Tryz.prog w _) (args:=[_,_,_]) Tryz.func154 aa Tryz.ntmps154 (cz aa) ?_;refine af ?_;refine VO.cond aa eH (wV aa ?_);refine VO.read aa [.int .i64 (Gr.gF xs i)] aa (cell i hi) (wV aa ?_);refine VO.cond aa eH (wV aa ?_);refine VO.read aa [.int .i64 (Gr.gF xs j)] aa (cell j hj) (wV aa ?_);refine af ?_;refine bH ?_;intro wz kz bz;exact⟨ai (λb=>Ending.returned (.bool b)) hr,bz⟩
theorem tp (b c i j:Nat) (xs:List Int) (sp:List Value) (w:World) (hc:aI w b bF (dm xs++sp).toArray) (hsp:sp.all aK=true) (hi:i<xs.length) (hj:j<xs.length):
  Calls Tryz.prog 157 #[.slice (some ⟨b,0,none⟩) xs.length c,.int .i64 (i:Int),.int .i64 (j:Int)] w λo w'=>o=.returned (.tuple #[])/\fq [b] w w'/\aI w' b bF (dm (Gr.gJ xs i j)++sp).toArray:=by
 have jw:(dm xs++sp).all aK=true:=by rw[nA,vg,hsp];rfl
 obtain⟨n,hn⟩:∃ n,n=xs.length:=⟨_,aa⟩;rw[<-hn];refine iX (.row 40 0 n c) Tryz.prog w _ (KU UU) (λt=>Nat.beq t 31) table (λ_ _=>trivial) (us:=[_,_]) Tryz.func157 aa Tryz.ntmps157 (cz aa) hc aa jw (λi hi=>by simpa [AV.ids] using hi) ?_
 have cell:∀ i,i<xs.length->∀ (k:Nat) (u:AV),[AV.val (Value.int .i64 (Gr.gF xs i))][k]? =some u->((dm xs++sp).map AV.val)[(0+((i:Int)).toNat*1)+k]? =some u:=λi hi k u hk=>by
  rw[aQ,cC,eM];cases k with
  | zero=>cases hk;rw[ia,iK,oT hi];rfl
  | succ k=>simp at hk
 have hlen:((dm xs++sp).map AV.val).length=xs.length+sp.length:=by rw[cJ,da,ey]
 have vP:∀ (x:Int),((dm xs++sp).map AV.val).take (0+((i:Int)).toNat*1)++([AV.val (.int .i64 x)]++((dm xs++sp).map AV.val).drop (0+((i:Int)).toNat*1+1))=(dm (xs.set i x)++sp).map .val:=λx=>by
  rw[aQ,cC,eM,lR _ (by rw[da,ey];omega),si hi]
 refine bT ?_;refine VO.cond aa eH (wV aa ?_);refine VO.dQ aa [.val (.int .i64 (Gr.gF xs j))] aa (cell j hj) (wV aa ?_);refine VO.cond aa eH (wV aa ?_);refine VO.dQ aa [.val (.int .i64 (Gr.gF xs i))] aa (cell i hi) (wV aa ?_);refine VO.cond aa eH (wV aa ?_);refine VO.cond aa (by rw[hlen,aQ];show 0+i*1+1<=_;omega) ?_;refine VO.eU 40 aa (vP (Gr.gF xs j)) (wV aa ?_);refine VO.cond aa eH (wV aa ?_);refine VO.cond aa (by rw[cJ,da,ey,eF,aQ];show 0+j*1+1<=_;omega) (wV aa ?_);refine bT ?_;refine VS.fin (cu _ _) aa (λwz β kz oz en=>⟨aa,oz.1,?_⟩);have h1:=Ja (en.own 40 _ _ aa) aa
 have h2:((dm (xs.set i (Gr.gF xs j))++sp).map AV.val).take (0+((j:Int)).toNat*1)++([AV.val (.int .i64 (Gr.gF xs i))]++((dm (xs.set i (Gr.gF xs j))++sp).map AV.val).drop (0+((j:Int)).toNat*1+1))=(dm (Gr.gJ xs i j)++sp).map .val:=by
  rw[aQ,cC,eM,lR _ (by rw[da,ey,eF];omega),si (by rw[eF];exact hj)];rfl
 have h3:aI wz b bF (((dm (Gr.gJ xs i j)++sp).map AV.val).map (AV.leaf β)).toArray:=by
  rw[<-h2];exact h1
 rw[aA] at h3;exact h3
theorem MR (p b c:Nat) (xs:List Int) (x:Int) (sp:List Value) (w:World) (hp:aI w p fM #[.slice (some ⟨b,0,none⟩) (xs.length+1) c]) (hc:aI w b bF (dm (xs++[x])++sp).toArray) (hle:xs.length+1<=c) (fO:c<=9223372036854775807):
  Calls Tryz.prog 155 #[.pointer (some ⟨p,0,none⟩)] w λo w'=>o=.returned (.iface bF (.int .i64 x))/\fq [p] w w'/\aI w' p fM #[.slice (some ⟨b,0,none⟩) xs.length c]:=by
 have hb:b≠p:=λe=>by
  subst e;have:=(show w.heap[b]? =_ from hp).symm.trans (show w.heap[b]? =_ from hc);injection this with this
  injection this with _ this
  revert this
  decide
 obtain⟨n,hn⟩:∃ n,n=xs.length:=⟨_,aa⟩
 have hcell:∀ (k:Nat) (u:Value),[Value.int .i64 x][k]? =some u->w.cell? ((⟨b,0+((n:Int)).toNat*1,none⟩:Addr).add k)=some u:=λk u hk=>by
  rw[Addr.add_mid,aQ,cC,eM];cases k with
  | zero=>
    cases hk;refine hc.cell ?_;have:=oT (xs:=xs++[x]) (i:=n) (by rw[da];simp;omega) sp;have e:Gr.gF (xs++[x]) n=x:=by unfold Gr.gF;rw[hn,eL,nr (aM _),iP];rfl
    rw[e] at this;simpa using this
  | succ k=>simp at hk
 rw[<-hn] at hp hle ⊢;refine iX (.box 50 0) Tryz.prog w _ (KU UU) (λt=>Nat.beq t 31) table (λ_ _=>trivial) (us:=[]) (cs:=[.slice (some ⟨b,0,none⟩) (n+1) c]) Tryz.func155 aa Tryz.ntmps155 (cz aa) hp aa aa (λi hi=>by simpa [AV.ids] using hi) ?_;refine bT ?_;have e1:IntKind.i64.wrap (((n+1:Nat):Int)-1)=(n:Int):=by rw[lj];omega
 refine VO.fix 3 aa (ai (λz=>AV.val (.int .i64 z)) (e1)) ?_;refine VO.fix 13 aa (ai (λz=>AV.val (.int .i64 z)) (e1)) ?_;refine VO.cond aa eH (wV aa ?_)
 refine VO.qk aa [.int .i64 x] aa (λk u hk w1 ss=>by
  have h:=hcell k u hk;rw[Addr.add_mid] at h ⊢;rw[pa (w:=w) (ss.1.kX _ hc.lt (by simpa using hb))];exact h) (wV aa ?_)
 refine bT ?_;refine VO.cond aa ⟨pw 0,by show (0:Int)<=(n:Int);omega,by show (n:Int)<=(c:Int);omega,ae⟩ ?_
 refine VO.fix 21 aa (show AV.val (.slice (if c=(0:Int).toNat then some ⟨b,0,none⟩ else (some (⟨b,0,none⟩:Addr)).map (·.add ((0:Int).toNat*1))) ((n:Int).toNat-(0:Int).toNat) (c-(0:Int).toNat))=.val (.slice (some ⟨b,0,none⟩) n c) by
  rw[aQ,Int.toNat_zero,pt,pt,Option.map_some,Addr.add_mid];simp) (wV rfl ?_)
 refine bT ?_;refine VS.Af (cu _ _) aa (λwz β kz oz en=>⟨aa,oz.1,?_⟩);exact Ja (en.own 50 _ _ aa) aa
theorem AA {P M R:List Nat} {A x:Nat} {T:Nat->Bool}:jB P [x] M R A T=(P++((bif T x then [x] else [])++M))++A::((bif T x then [] else [x])++R):=by
 unfold jB;rw[Bh,Bh,List.filter_nil,List.filter_nil];cases T x <;> rfl
variable {vs:List (List Value)} {c:Nat} {t:TypeId} {w w':World}
theorem gD.uG {α:Type} {E:World->List Value->α->Prop} {sz n:Nat} {sp:List AV} {es:List α} {C:Cx} {β:Nat->Nat} (hE:mC E sz) (h:gD E sz w n c vs sp es) (o:jv C β w' i t (vs.flatten.map .val++sp)) (k:Kp UU w w'):bn E sz t 0 w' (.slice (some ⟨β i,0,none⟩) n c) es:=by
 have hk:=o.ok;rw[nA,dR] at hk;have hn:=h.len;subst hn;refine .inr ⟨β i,c,vs,sp.map (AV.leaf β),aa,cD _,?_,h.el.kp hE k,dZ hk.2,h.le,h.cm,by rw[<-h.fl];simp only[List.length_append,List.length_map]⟩;have:=o.cls;rw[cT,aA] at this;exact this
variable {cs gA:Array Value} {b:Nat}
theorem vh {t':TypeId} (h:aI w b t cs) (k:aI w b t' gA):t=t':=by
 have:=(show w.heap[b]? =_ from h).symm.trans (show w.heap[b]? =_ from k);injection this with this
 injection this
variable {p:Nat}
theorem gv (h:aI w b bF cs) (k:aI w p fM gA):b≠p:=λe=>by
 subst e;have:=vh h k
 revert this
 decide
def eg:Value->Option Nat
 | .slice (some a) _ _=>some a.block
 | _=>none
def MS (p:Nat) (w w':World) (sv:Value) (xs:List Int):Prop:=∃ Dv,aI w' p fM #[Dv]/\bn IE 1 bF 0 w' Dv xs/\fq (p::(eg sv).toList) w w'/\(eg Dv=eg sv\/∃ b,eg Dv=some b/\w.heap.size<=b)
theorem JO (p:Nat) (x:Int) (w:World) (hp:aI w p fM #[.slice none 0 0]):
  Calls Tryz.prog 156 #[.pointer (some ⟨p,0,none⟩),.iface bF (.int .i64 x)] w λo w'=>o=.returned (.tuple #[])/\MS p w w' (.slice none 0 0) [x]:=by
 refine iX (.box 26 0) Tryz.prog w _ (KU UU) (λt=>Nat.beq t 31) table (λ_ _=>trivial) (us:=[_]) (cs:=[.slice none 0 0]) Tryz.func156 aa Tryz.ntmps156 (cz aa) hp aa aa (λi hi=>by simpa [AV.ids] using hi) ?_
 (repeat (first|refine wN ?_|refine wP aa ?_|refine wO aa aa ?_))
 refine VS.Hj (cu _ _) (lH _ _) [] [0] [8] [1,2,3,4,5,6] [9] 7 (by kernel_rfl) (λT=> ?_) (λT=> ?_)
 ·rw[AA];generalize T.1 8=t8;cases t8 <;> (show ur _ _ _ _ _ _=true;kernel_rfl)
 rw[AA];generalize T.1 8=t8;cases t8
 all_goals
  refine wV aa ?_;refine VO.xe (cu _ _) bW (t:=fM) (e:=bF) (s:=10) (a:=x) (cs:=[.int .i64 x]) aa aa aa aa aa aa aa aa (cz aa) aa aa aa aa ae (λw9 cap sp k9 b9 qB=>wV aa ?_);refine bT ?_;refine VS.fin (cu _ _) aa (λwz β kz oz en=>⟨aa,_,Ja (en.own 26 _ _ aa) aa,?_,oz.1,.inr ⟨β 11,aa,?_⟩⟩)
  ·exact qB.uG bW (en.own 11 _ _ aa) kz
  ·have hne:=gv (en.own 11 _ _ aa).cls (Ja (en.own 26 _ _ aa) aa);rcases ct (show eK 13 [p] w 11 (β 11) from (en.own 11 _ _ aa).new) with h|h
   ·exact h
   ·exact absurd (aH.1 h) hne
theorem JP (p b n c:Nat) (vs:List (List Value)) (spare:List Value) (xs:List Int) (x:Int) (w:World) (hp:aI w p fM #[.slice (some ⟨b,0,none⟩) xs.length c]) (hc:aI w b bF (vs.flatten++spare).toArray) (Ag:fD IE w xs vs) (hsp:spare.all aK=true) (hle:xs.length<=c) (fO:c<=9223372036854775807) (uN:(vs.flatten++spare).length=c*1) (hx:xs.length<=1000000):
  Calls Tryz.prog 156 #[.pointer (some ⟨p,0,none⟩),.iface bF (.int .i64 x)] w λo w'=>o=.returned (.tuple #[])/\MS p w w' (.slice (some ⟨b,0,none⟩) xs.length c) (xs++[x]):=by
 have hN:=mH Ag hsp hle fO uN
 have hl:kF (KU UU) 13 [p,b] [(fM,[.row 27 0 xs.length c]),(bF,vs.flatten.map .val++spare.map .val)] w:=by
  refine⟨aa,?_,λj g c' hj hc'=> ?_,λc' hc'=> ?_,λc' hc' k hk=> ?_⟩
  ·have:=gv hc hp;simp;exact λe=>this e.symm
  ·match j,hj,hc' with
   | 0,hj,hc'=>cases hj;cases hc';exact hp
   | 1,hj,hc'=>
     cases hj;cases hc';rw[<-cT,aA];exact hc
   | j+2,hj,_=>simp at hj
  ·simp only[List.mem_cons,List.not_mem_nil,or_false] at hc';rcases hc' with rfl|rfl
   ·exact⟨aa,aa⟩
   ·exact⟨aa,hN.ok bW⟩
  ·simp only[List.mem_cons,List.not_mem_nil,or_false] at hc';rcases hc' with rfl|rfl
   ·have:k=27:=by simpa [aC,AV.dP] using hk
    subst this;exact⟨cz aa,by show 27<28;omega⟩
   ·rw[hN.dP] at hk;cases hk
 refine Df Tryz.prog w _ (KU UU) (λt=>Nat.beq t 31) table (λ_ _=>trivial) (ad:=[p,b]) (us:=[_]) Tryz.func156 aa Tryz.ntmps156 (cz aa) hl (cz aa) ?_
 (repeat (first|refine wN ?_|refine wP aa ?_|refine wO aa aa ?_))
 refine VS.Hj (cu _ _) (lH _ _) [] [0] [8] [1,2,3,4,5,6] [9] 7 (by kernel_rfl) (λT=> ?_) (λT=> ?_)
 ·rw[AA];generalize T.1 8=t8;cases t8 <;> (show ur _ _ _ _ _ _=true;kernel_rfl)
 rw[AA];generalize T.1 8=t8;cases t8
 all_goals
  refine wV aa ?_;refine VO.rX (cu _ _) bW (t:=fM) (e:=bF) (s:=10) (i:=27) (n:=xs.length) (c:=c) (vs:=vs) (sp:=spare.map .val) (es:=xs) (a:=x) (cs:=[.int .i64 x]) aa aa aa aa aa aa aa aa (cz aa) aa (.inl aa) aa hN aa aa ae (λw9 cap Ar ρ k9 b9 dH qB=>wV aa ?_);refine bT ?_;refine VS.fin (cu _ _) aa (λwz β kz oz en=>⟨aa,_,(lN (en.own 26 _ _ aa) 0 p aa aa).2,qB.uG bW (en.own 11 _ _ aa) kz,oz.1,?_⟩);have hne:=gv (en.own 11 _ _ aa).cls (lN (en.own 26 _ _ aa) 0 p aa aa).2;rcases ct (show eK 13 [p,b] w 11 (β 11) from (en.own 11 _ _ aa).new) with h|h
  ·exact .inr ⟨_,aa,h⟩
  ·simp only[List.mem_cons,List.not_mem_nil,or_false] at h;rcases h with h|h
   ·exact absurd h hne
   ·exact .inl (ai some h)
set_option maxRecDepth 4000
structure HR (w:World) (p b c:Nat) (xs:List Int) (sp:List Value):Prop where
 box:aI w p fM #[.slice (some ⟨b,0,none⟩) xs.length c]
 row:aI w b bF (dm xs++sp).toArray
 ok:sp.all aK=true
 le:xs.length<=c
 cm:c<=9223372036854775807
 fl:(dm xs++sp).length=c
variable {sp:List Value}
theorem HR.aD (h:HR w p b c xs sp) (hb:ax w w'):HR w' p b c xs sp:=⟨h.box.aD hb,h.row.aD hb,h.ok,h.le,h.cm,h.fl⟩
theorem HR.swap {j:Nat} (h:HR w p b c xs sp) (hb:fq [b] w w') (hr:aI w' b bF (dm (Gr.gJ xs i j)++sp).toArray):HR w' p b c (Gr.gJ xs i j) sp:=by
 have hne:=gv h.row h.box;refine⟨?_,hr,h.ok,by rw[Gr.fL];exact h.le,h.cm,by rw[da,ey,Gr.fL];have:=h.fl;rwa [da,ey] at this⟩;rw[Gr.fL];exact (hb.kX p h.box.lt (by simpa using λe=>hne e.symm)).trans h.box
theorem HR.uy (h:HR w p b c xs sp):w.cell? ⟨p,0,none⟩=some (.slice (some ⟨b,0,none⟩) xs.length c):=h.box.cell rfl
theorem par_val (j:Nat) (hj:j<1000000000):IntKind.i64.wrap (Int.tdiv (IntKind.i64.wrap ((j:Int)-1)) 2)=(((j-1)/2:Nat):Int):=by
 have e1:IntKind.i64.wrap ((j:Int)-1)=(j:Int)-1:=by rw[lj];omega
 rw[e1];cases j with
 | zero=>decide
 | succ j=>
   rw[show (((j+1:Nat):Int)-1)=((j:Nat):Int) by omega,show Int.tdiv ((j:Nat):Int) 2=((j/2:Nat):Int) from aa,Gi,lj];omega
theorem hUp_any (p b c j:Nat) (xs:List Int) (sp:List Value) (w:World) (h:HR w p b c xs sp) (hj:j<xs.length) (hn:xs.length<=1000000) (hu:Gr.UpF (Gr.gF xs) xs.length j):
  Calls Tryz.prog 43 #[xr p,.int .i64 (j:Int)] w λo w'=>o=.returned (.tuple #[])/\fq [b] w w'/\∃ ys,HR w' p b c ys sp/\ys.Perm xs/\Gr.ou (Gr.gF ys) ys.length:=by
 refine ar (C:=bD Tryz.prog w _) (args:=[_,_]) Tryz.func43 aa Tryz.ntmps43 (cz aa) ?_;refine af ?_
 refine VS.uq (J:=λm L W=>∃ (j:Nat) (ys:List Int),m=j/\L=[(0,xr p),(1,.int .i64 (j:Int))]/\fq [b] w W/\HR W p b c ys sp/\ys.Perm xs/\j<ys.length/\Gr.UpF (Gr.gF ys) ys.length j)
  (λW=>bD Tryz.prog W 23) (λ_=>rfl) (λ_=>rfl) (λ_=>ax.refl _) j (λw' β k o en=>⟨[(0,xr p),(1,.int .i64 (j:Int))],⟨⟨_,_,rfl,rfl,rfl⟩,⟨_,_,rfl,rfl,rfl⟩,aj⟩,j,xs,rfl,rfl,fq.of o,h.aD o,.refl _,hj,hu⟩) ?_
 clear hj hu h;rintro m L W ⟨_,ys,rfl,rfl,hB,hR,hP,hj,hU⟩;have hlen:=hP.length_eq;have hpar:=par_val m ae;refine af ?_;by_cases h0:m=0
 ·subst h0;refine VO.fix 11 aa (ai (λb=>AV.val (.bool b)) ((by rw[hpar];rfl:(IntKind.i64.wrap (Int.tdiv (IntKind.i64.wrap (((0:Nat):Int)-1)) 2) == ((0:Nat):Int))=true))) ?_;refine af ?_;refine VS.fin (bQ _ _) aa (λwz β kz bz en=> ?_);exact⟨aa,hB.aB (fq.of bz),ys,hR.aD bz,hP,Gr.Hx hU (.inl aa)⟩
 refine VO.fix 11 aa (ai (λb=>AV.val (.bool b)) ((by rw[hpar,iJ];omega:(IntKind.i64.wrap (Int.tdiv (IntKind.i64.wrap ((m:Int)-1)) 2) == (m:Int))=false))) ?_;refine VO.fix 4 aa (ai (λz=>AV.val (.int .i64 z)) (hpar)) ?_;refine af ?_;obtain⟨r,hr⟩:∃ r,decide (Gr.gF ys m<Gr.gF ys ((m-1)/2))=r:=⟨_,aa⟩;refine VO.inv aa aa aa (fk Tryz.func154) (λw1 k1 b1=>⟨_,tj p _ w1 (hR.aD b1).uy,(tn b c m ((m-1)/2) ys sp w1 (hR.aD b1).row hj ae r hr).mono ?_⟩);rintro e w2 ⟨rfl,bO⟩;refine⟨_,aa,bO,λk2 _ b2=>wV aa ?_⟩;cases r with
 | false=>
   refine af ?_;refine VS.fin (bQ _ _) aa (λwz β kz bz en=> ?_);exact⟨aa,hB.aB (fq.of bz),ys,hR.aD bz,hP,Gr.Hx hU (.inr (Int.not_lt.1 (of_decide_eq_false hr)))⟩
 | true=>
   have hlt:=cS hr
   (repeat (first|refine wN ?_|refine wP aa ?_|refine wO aa aa ?_))
   refine VS.eb (bQ _ _) 3 aa (wV aa (wN ?_));refine⟨_,λW=>bD Tryz.prog W 23,aa,λ_=>aa,λ_=>aa,λ_=>ax.refl _,λw3 β k3 b3 en=>ow aa aa (fk Tryz.func157) (tk p _ w3 (hR.aD b3).uy) ((tp b c ((m-1)/2) m ys sp w3 (hR.aD b3).row hR.ok ae hj).mono ?_)⟩;rintro e w4 ⟨rfl,fv,xG⟩;refine⟨_,[(0,xr p),(4,.int .i64 (((m-1)/2:Nat):Int))],aa,⟨⟨_,_,aa,aa,aa⟩,⟨_,_,aa,aa,aa⟩,aj⟩,λp hp=>(by simp at hp;rcases hp with rfl|rfl <;> exact λe=>(by cases e)),?_⟩;have hR4:=(hR.aD b3).swap fv xG;refine af ?_;refine VS.iw aa ((m-1)/2) ae (λwq bG kq oq fE=>⟨[(0,xr p),(1,.int .i64 (((m-1)/2:Nat):Int))],⟨⟨_,_,aa,aa,aa⟩,⟨_,_,aa,aa,aa⟩,aj⟩,(m-1)/2,_,aa,aa,(hB.aB (fq.of b3)).aB (fv.aB (fq.of oq)),hR4.aD oq,(Gr.qD ae hj).trans hP,by rw[Gr.fL];omega,?_⟩);have:=Gr.up_step hU ae hj hlt;rw[Gr.fL];have e:Gr.gF (Gr.gJ ys ((m-1)/2) m)=Gr.kI (Gr.gF ys) ((m-1)/2) m:=funext λk=>Gr.xp ae hj k;rw[e];exact this
theorem JQ (p b c n:Nat) (xs:List Int) (sp:List Value) (w:World) (h:HR w p b c xs sp) (IV:n<=xs.length) (hn:xs.length<=1000000) (hu:Gr.zu (Gr.gF xs) n 0):
  Calls Tryz.prog 44 #[xr p,.int .i64 0,.int .i64 (n:Int)] w λo w'=>(∃ r,o=.returned (.bool r))/\fq [b] w w'/\∃ ys,HR w' p b c ys sp/\ys.Perm xs/\Gr.ou (Gr.gF ys) n/\∀ k,n<=k->Gr.gF ys k=Gr.gF xs k:=by
 refine ar (C:=bD Tryz.prog w _) (args:=[_,_,_]) Tryz.func44 aa Tryz.ntmps44 (cz aa) ?_;refine af ?_
 refine VS.uq (J:=λm L W=>∃ (i:Nat) (ys:List Int),i<=n/\m=n-i/\L=[(0,xr p),(1,.int .i64 0),(2,.int .i64 (n:Int)),(7,.int .i64 (i:Int))]/\fq [b] w W/\HR W p b c ys sp/\ys.Perm xs/\Gr.zu (Gr.gF ys) n i/\∀ k,n<=k->Gr.gF ys k=Gr.gF xs k)
  (λW=>bD Tryz.prog W 48) (λ_=>rfl) (λ_=>rfl) (λ_=>ax.refl _) n (λw' β k o en=>⟨[(0,xr p),(1,.int .i64 0),(2,.int .i64 (n:Int)),(7,.int .i64 ((0:Nat):Int))],⟨⟨_,_,rfl,rfl,rfl⟩,⟨_,_,rfl,rfl,rfl⟩,⟨_,_,rfl,rfl,rfl⟩,⟨_,_,rfl,rfl,rfl⟩,aj⟩,0,xs,cD _,rfl,rfl,fq.of o,h.aD o,.refl _,hu,λ_ _=>rfl⟩) ?_
 clear hu h;rintro m L W ⟨i,ys,tL,rfl,rfl,hB,hR,hP,hU,hK⟩;have hlen:=hP.length_eq
 have e1:IntKind.i64.wrap (IntKind.i64.wrap (2*(i:Int))+1)=((2*i+1:Nat):Int):=by
  have:IntKind.i64.wrap (2*(i:Int))=2*(i:Int):=by rw[lj];omega
  rw[this,lj];omega
 have e2:IntKind.i64.wrap (((2*i+1:Nat):Int)+1)=((2*i+2:Nat):Int):=by rw[lj];omega
 refine af ?_;by_cases h1:n<=2*i+1
 ·refine VO.fix 18 aa (ai (λb=>AV.val (.bool b)) ((by rw[e1];exact aU ae:decide (IntKind.i64.wrap (IntKind.i64.wrap (2*(i:Int))+1)>=(n:Int))=true))) ?_;refine af ?_;refine bH ?_;intro wz kz bz;exact⟨⟨_,aa⟩,hB.aB (fq.of bz),ys,hR.aD bz,hP,Gr.zv hU (λk _ hk hp=>ae),hK⟩
 refine VO.fix 18 aa (ai (λb=>AV.val (.bool b)) ((by rw[e1];exact bo ae:decide (IntKind.i64.wrap (IntKind.i64.wrap (2*(i:Int))+1)>=(n:Int))=false))) ?_;refine VO.fix 8 aa (ai (λz=>AV.val (.int .i64 z)) (e1)) ?_
 (repeat refine wO aa aa ?_)
 refine wN ?_
 (repeat (first|refine wN ?_|refine wP aa ?_|refine wO aa aa ?_))
 apply VS.hopL (P:=λF' _ w'=>∃ jj:Nat,(0<jj/\jj<n/\(jj-1)/2=i/\∀ k,0<k->k<n->(k-1)/2=i->Gr.gF ys jj<=Gr.gF ys k)/\pM F' [(0,.val (xr p)),(1,.val (.int .i64 0)),(2,.val (.int .i64 (n:Int))),(7,.val (.int .i64 (i:Int))),(9,.val (.int .i64 (jj:Int)))]/\ax W w')
 ·intro fin
  have only1:¬ 2*i+2<n->∀ k,0<k->k<n->(k-1)/2=i->Gr.gF ys (2*i+1)<=Gr.gF ys k:=λh k _ hk hp=>by
   obtain rfl:k=2*i+1:=ae;exact pw _
  refine af ?_;by_cases h2:2*i+2<n
  case neg=>
   refine VO.fix 28 aa (ai (λb=>AV.val (.bool b)) ((by rw[e2];exact bo ae:decide (IntKind.i64.wrap (((2*i+1:Nat):Int)+1)<(n:Int))=false))) ?_
   (repeat refine wO aa aa ?_)
   refine wN ?_
   (repeat (first|refine wN ?_|refine wP aa ?_|refine wO aa aa ?_))
   exact fin _ _ _ ⟨2*i+1,⟨ae,ae,ae,only1 h2⟩,⟨aa,aa,aa,aa,aa,aj⟩,ax.refl _⟩
  refine VO.fix 28 aa (ai (λb=>AV.val (.bool b)) ((by rw[e2];exact aU ae:decide (IntKind.i64.wrap (((2*i+1:Nat):Int)+1)<(n:Int))=true))) ?_;refine VO.fix 10 aa (ai (λz=>AV.val (.int .i64 z)) (e2)) ?_
  (repeat refine wO aa aa ?_)
  obtain⟨r,hr⟩:∃ r,decide (Gr.gF ys (2*i+2)<Gr.gF ys (2*i+1))=r:=⟨_,aa⟩;have both:∀ jj,(∀ q,q=2*i+1\/q=2*i+2->Gr.gF ys jj<=Gr.gF ys q)->∀ k,0<k->k<n->(k-1)/2=i->Gr.gF ys jj<=Gr.gF ys k:=λjj h k _ _ hp=>h k ae;refine VO.inv aa aa aa (fk Tryz.func154) (λw1 k1 b1=>⟨_,tj p _ w1 (hR.aD b1).uy,(tn b c (2*i+2) (2*i+1) ys sp w1 (hR.aD b1).row ae ae r hr).mono ?_⟩);rintro e w2 ⟨rfl,bO⟩;refine⟨_,aa,bO,λk2 _ b2=>wV aa ?_⟩;refine wN ?_;cases r with
  | false=>
    have hge:=Int.not_lt.1 (of_decide_eq_false hr)
    (repeat (first|refine wN ?_|refine wP aa ?_|refine wO aa aa ?_))
    exact fin _ _ _ ⟨2*i+1,⟨ae,ae,ae,both _ λq hq=>by rcases hq with rfl|rfl;exact pw _;exact hge⟩,⟨aa,aa,aa,aa,aa,aj⟩,b2⟩
  | true=>
    have hlt:=cS hr
    (repeat (first|refine wN ?_|refine wP aa ?_|refine wO aa aa ?_))
    refine cx_r aa (wN ?_)
    (repeat (first|refine wN ?_|refine wP aa ?_|refine wO aa aa ?_))
    exact fin _ _ _ ⟨2*i+2,⟨ae,ae,ae,both _ λq hq=>by rcases hq with rfl|rfl;exact Int.le_of_lt hlt;exact pw _⟩,⟨aa,aa,aa,aa,aa,aj⟩,b2⟩
 rintro F' H' w5 ⟨jj,⟨j0,jn,jp,jm⟩,hF',hB5⟩;refine VS.narrow [(0,.val (xr p)),(1,.val (.int .i64 0)),(2,.val (.int .i64 (n:Int))),(7,.val (.int .i64 (i:Int))),(9,.val (.int .i64 (jj:Int)))] [] hF' aj aa aj ?_;refine af ?_;obtain⟨r,hr⟩:∃ r,decide (Gr.gF ys jj<Gr.gF ys i)=r:=⟨_,aa⟩;refine VO.inv aa aa aa (fk Tryz.func154) (λw1 k1 b1=>⟨_,tj p _ w1 (hR.aD b1).uy,(tn b c jj i ys sp w1 (hR.aD b1).row ae ae r hr).mono ?_⟩);rintro e w2 ⟨rfl,bO⟩;refine⟨_,aa,bO,λk2 _ b2=>wV aa ?_⟩;cases r with
 | false=>
   have hge:=Int.not_lt.1 (of_decide_eq_false hr);refine af ?_;refine bH ?_;intro wz kz bz;exact⟨⟨_,aa⟩,hB.aB (fq.of bz),ys,hR.aD bz,hP,Gr.zv hU (λk k0 kn kp=>Int.le_trans hge (jm k k0 kn kp)),hK⟩
 | true=>
   have hlt:=cS hr
   (repeat (first|refine wN ?_|refine wP aa ?_|refine wO aa aa ?_))
   refine VS.eb (bQ _ _) 3 aa (wV aa (wN ?_));refine⟨_,λW=>bD Tryz.prog W 48,aa,λ_=>aa,λ_=>aa,λ_=>ax.refl _,λw3 β k3 b3 en=>ow aa aa (fk Tryz.func157) (tk p _ w3 (hR.aD b3).uy) ((tp b c i jj ys sp w3 (hR.aD b3).row hR.ok ae ae).mono ?_)⟩;rintro e w4 ⟨rfl,fv,xG⟩;refine⟨_,[(0,xr p),(1,.int .i64 0),(2,.int .i64 (n:Int)),(9,.int .i64 (jj:Int))],aa,⟨⟨_,_,aa,aa,aa⟩,⟨_,_,aa,aa,aa⟩,⟨_,_,aa,aa,aa⟩,⟨_,_,aa,aa,aa⟩,aj⟩,λp hp=>(by simp at hp;rcases hp with rfl|rfl|rfl|rfl <;> exact λe=>(by cases e)),?_⟩;have hR4:=(hR.aD b3).swap fv xG;refine af ?_;have e:Gr.gF (Gr.gJ ys i jj)=Gr.kI (Gr.gF ys) i jj:=funext λk=>Gr.xp ae ae k;refine VS.iw aa (n-jj) ae (λwq bG kq oq fE=>⟨[(0,xr p),(1,.int .i64 0),(2,.int .i64 (n:Int)),(7,.int .i64 (jj:Int))],⟨⟨_,_,aa,aa,aa⟩,⟨_,_,aa,aa,aa⟩,⟨_,_,aa,aa,aa⟩,⟨_,_,aa,aa,aa⟩,aj⟩,jj,_,ae,aa,aa,(hB.aB (fq.of b3)).aB (fv.aB (fq.of oq)),hR4.aD oq,(Gr.qD ae ae).trans hP,?_,λk hk=> ?_⟩)
   ·rw[e];exact Gr.JL hU j0 jn jp hlt jm
   ·rw[e];unfold Gr.kI;rw[if_neg ae,if_neg ae];exact hK k hk
theorem ie_flat (h:fD IE w xs vs):vs.flatten=dm xs:=by
 induction h with
 | nil=>rfl
 | cons h1 _ ih=>rw[ny,ih,h1];rfl
theorem MT (w:World):∀ xs:List Int,fD IE w xs (xs.map λx=>[Value.int .i64 x])
 | []=>.nil
 | x::r=>.cons rfl (MT w r)
theorem ox:∀ xs:List Int,(xs.map λx=>[Value.int .i64 x]).flatten=dm xs
 | []=>rfl
 | x::r=>by rw[fV,ny,ox r];rfl
theorem JR (p:Nat) (sv:Value) (xs:List Int) (x:Int) (w:World) (hp:aI w p fM #[sv]) (hr:bn IE 1 bF 0 w sv xs) (hx:xs.length<=1000000):
  Calls Tryz.prog 156 #[.pointer (some ⟨p,0,none⟩),.iface bF (.int .i64 x)] w λo w'=>o=.returned (.tuple #[])/\MS p w w' sv (xs++[x]):=by
 rcases hr with ⟨rfl,rfl⟩|⟨b,c,vs,sp,rfl,_,h1,h2,h3,h4,h5,h6⟩
 ·exact JO p x w hp
 ·exact JP p b xs.length c vs sp xs x w hp h1 h2 h3 h4 h5 h6 hx
theorem HR.of {sv:Value} (hp:aI w p fM #[sv]) (hr:bn IE 1 bF 0 w sv xs) (hx:xs≠[]):∃ b c sp,sv=.slice (some ⟨b,0,none⟩) xs.length c/\HR w p b c xs sp:=by
 rcases hr with ⟨rfl,rfl⟩|⟨b,c,vs,sp,rfl,_,h1,h2,h3,h4,h5,h6⟩
 ·exact absurd aa hx
 ·rw[ie_flat h2] at h1 h6;exact⟨b,c,sp,aa,hp,h1,h3,h4,h5,ae⟩
theorem HR.new (h:HR w p b c xs sp):bn IE 1 bF 0 w (.slice (some ⟨b,0,none⟩) xs.length c) xs:=
 .inr ⟨b,c,xs.map λx=>[Value.int .i64 x],sp,rfl,cD _,by rw[ox];exact h.row,MT w xs,h.ok,h.le,h.cm,by rw[ox,h.fl];omega⟩
theorem vi {x:Int} {k:Nat} (h:k<xs.length):Gr.gF (xs++[x]) k=Gr.gF xs k:=by unfold Gr.gF;rw[eL,eL,kZ h]
theorem up_snoc (x:Int) (h:Gr.ou (Gr.gF xs) xs.length):Gr.UpF (Gr.gF (xs++[x])) (xs++[x]).length xs.length:=by
 rw[da,tx];refine⟨λk k0 kn ke=> ?_,λk k0 kn ke h0=>ae⟩;rw[vi ae,vi ae];exact h k k0 ae
theorem fq.fresh {ad:List Nat} {w0:World} (h:fq ad w0 w) (k:fq [b] w w') (hb:b∈ad\/w0.heap.size<=b):fq ad w0 w':=
 ⟨k.os.trans h.os,k.tape.trans h.tape,k.output.trans h.output,bA h.size k.size,λg hg hn=>(k.kX g (mN hg h.size) (λe=>by
   cases aH.1 e;rcases hb with hb|hb
   ·exact hn hb
   ·omega)).trans (h.kX g hg hn)⟩
def MU (p:Nat) (w w':World) (sv:Value) (xs:List Int):Prop:=∃ Dv ys,aI w' p fM #[Dv]/\bn IE 1 bF 0 w' Dv ys/\ys.Perm xs/\Gr.ou (Gr.gF ys) ys.length/\fq (p::(eg sv).toList) w w'/\(eg Dv=eg sv\/∃ b,eg Dv=some b/\w.heap.size<=b)
theorem zx (p:Nat) (sv:Value) (xs:List Int) (x:Int) (w:World) (hp:aI w p fM #[sv]) (hr:bn IE 1 bF 0 w sv xs) (hx:xs.length<=100000) (hh:Gr.ou (Gr.gF xs) xs.length):
  Calls Tryz.prog 24 #[xr p,.iface bF (.int .i64 x)] w λo w'=>o=.returned (.tuple #[])/\MU p w w' sv (x::xs):=by
 refine ar (C:=bD Tryz.prog w _) (args:=[_,_]) Tryz.func24 aa Tryz.ntmps24 (cz aa) ?_
 (repeat (first|refine wN ?_|refine wP aa ?_|refine wO aa aa ?_))
 refine VS.eb (bQ _ _) 2 aa (wV aa (wN ?_));refine⟨_,λW=>bD Tryz.prog W 12,aa,λ_=>aa,λ_=>aa,λ_=>ax.refl _,λw3 β k3 b3 en=>ow aa aa (fk Tryz.func156) (JN _ w3) ((JR p sv xs x w3 (hp.aD b3) (hr.kp bW (T:=λ_=>true) (aY.of b3) aa) ae).mono ?_)⟩;rintro e w4 ⟨rfl,sv4,hp4,hr4,fv,hf4⟩;refine⟨_,[(0,xr p)],aa,⟨⟨_,_,aa,aa,aa⟩,aj⟩,λp hp=>(by simp at hp;subst hp;exact λe=>(by cases e)),?_⟩;obtain⟨b,c,sp,rfl,hR4⟩:=HR.of hp4 hr4 bc
 have e1:IntKind.i64.wrap ((((xs++[x]).length:Nat):Int)-1)=(xs.length:Int):=by
  rw[da,tx,lj];omega
 (repeat (first|refine wN ?_|refine wP aa ?_|refine wO aa aa ?_))
 refine VS.eb (bQ _ _) 4 aa (wV aa ?_);refine VO.inv aa aa aa (fk Tryz.func25) (λw1 k1 b1=>⟨_,Du p _ w1 (hR4.aD b1).uy,(xu _ _ _ w1).mono ?_⟩);rintro e w5 ⟨rfl,jJ⟩;refine⟨_,aa,jJ,λk5 _ b5=>wV aa ?_⟩;refine VO.fix 10 aa (ai (λz=>AV.val (.int .i64 z)) (e1)) ?_;refine wN ?_;refine⟨_,λW=>bD Tryz.prog W 12,aa,λ_=>aa,λ_=>aa,λ_=>ax.refl _,λw6 β k6 b6 en=>⟨fk Tryz.func43,(show Calls _ _ #[xr p,.int .i64 (xs.length:Int)] w6 _ from hUp_any p b c xs.length (xs++[x]) sp w6 (hR4.aD b6) bc (by simp;omega) (up_snoc x hh)).mono ?_⟩⟩;rintro e w7 ⟨rfl,zd,ys,hR7,hP7,hH7⟩;refine⟨_,[(0,xr p)],aa,⟨⟨_,_,aa,aa,aa⟩,aj⟩,λp hp=>(by simp at hp;subst hp;exact λe=>(by cases e)),?_⟩;refine af ?_;refine VS.fin (bQ _ _) aa (λwz β kz bz en=>⟨aa,_,ys,(hR7.aD bz).box,(hR7.aD bz).new,hP7.trans List.perm_append_comm,hH7,?_,?_⟩)
 ·have h1:=((fq.of (ad:=p::(eg sv).toList) b3).aB fv).aB (fq.of b6);refine (h1.fresh zd ?_).aB (fq.of bz);rcases hf4 with h|⟨b',h,hlt⟩
  ·refine .inl (tz _ ?_);rw[<-h];exact aH.2 aa
  ·cases h;have:=ax.size b3;exact .inr (by show w.heap.size<=b;have h2:w3.heap.size<=b:=hlt;have h3:w.heap.size<=w3.heap.size:=this;omega)
 ·rcases hf4 with h|⟨b',h,hlt⟩
  ·exact .inl h
  ·have:=ax.size b3;exact .inr ⟨b',h,by show w.heap.size<=b';omega⟩
theorem FH {n:Nat} (hn:xs.length=n+1) (hh:Gr.ou (Gr.gF xs) xs.length):Gr.zu (Gr.gF (Gr.gJ xs 0 n)) n 0/\Gr.gF (Gr.gJ xs 0 n) n=Gr.gF xs 0:=by
 have e:∀ k,Gr.gF (Gr.gJ xs 0 n) k=Gr.kI (Gr.gF xs) 0 n k:=λk=>Gr.xp ae ae k;refine⟨⟨λk k0 kn kp=> ?_,λk _ _ _ h=>absurd h (Nat.lt_irrefl 0)⟩,?_⟩
 ·have kn':k<n:=kn;have k0':0<k:=k0;have q:¬ (k-1)/2=0:=kp;have h1:¬ (k-1)/2=n:=ae;have h2:¬ k=0:=ae;have h3:¬ k=n:=ae;rw[e,e];unfold Gr.kI;rw[if_neg q,if_neg h1,if_neg h2,if_neg h3];exact hh k k0 ae
 ·rw[e];unfold Gr.kI;by_cases h:n=0
  ·rw[if_pos h,h]
  ·rw[if_neg h,if_pos rfl]
theorem last_of {ys:List Int} {n:Nat} (hn:ys.length=n+1):ys=ys.take n++[Gr.gF ys n]:=by
 apply Be;intro k;by_cases h:k<n
 ·rw[kZ (by rw[aR];omega),nv,if_pos h]
 ·by_cases e:k=n
  ·subst e;have hk:k<ys.length:=ae;rw[nr (by rw[aR];omega),aR,dF ae,iP,aZ hk];unfold Gr.gF;rw[eL,aZ hk];rfl
  ·rw[ld ae,ld (by rw[da,aR,tx];omega)]
theorem MV (p:Nat) (sv:Value) (xs:List Int) (w:World) (hp:aI w p fM #[sv]) (hr:bn IE 1 bF 0 w sv xs) (hx:xs≠[]) (hn:xs.length<=100000) (hh:Gr.ou (Gr.gF xs) xs.length):
  Calls Tryz.prog 26 #[xr p] w λo w'=>∃ (x:Int) (ys:List Int),o=.returned (.iface bF (.int .i64 x))/\(∀ y∈xs,x<=y)/\xs.Perm (x::ys)/\MU p w w' sv ys:=by
 obtain⟨b,c,sp,rfl,hR⟩:=HR.of hp hr hx;obtain⟨n,IV⟩:∃ n,xs.length=n+1:=⟨xs.length-1,by have:=Ba.2 hx;omega⟩;have e1:IntKind.i64.wrap (((xs.length:Nat):Int)-1)=(n:Int):=by rw[IV,lj];omega
 obtain⟨hd0,Kq⟩:=FH IV hh;refine ar (C:=bD Tryz.prog w _) (args:=[_]) Tryz.func26 aa Tryz.ntmps26 (cz aa) ?_;refine af ?_;refine VO.inv aa aa aa (fk Tryz.func25) (λw1 k1 b1=>⟨_,Du p _ w1 (hR.aD b1).uy,(xu _ _ _ w1).mono ?_⟩);rintro e w2 ⟨rfl,bO⟩;refine⟨_,aa,bO,λk2 _ b2=>wV aa ?_⟩;refine VO.fix 3 aa (ai (λz=>AV.val (.int .i64 z)) (e1)) ?_;refine wN ?_
 (repeat (first|refine wN ?_|refine wP aa ?_|refine wO aa aa ?_))
 refine VS.eb (bQ _ _) 2 aa (wV aa (wN ?_));refine⟨_,λW=>bD Tryz.prog W 15,aa,λ_=>aa,λ_=>aa,λ_=>ax.refl _,λw3 β k3 b3 en=>ow aa aa (fk Tryz.func157) (tk p _ w3 (hR.aD b3).uy) ((tp b c 0 n xs sp w3 (hR.aD b3).row hR.ok ae ae).mono ?_)⟩;rintro e w4 ⟨rfl,fv,xG⟩;refine⟨_,[(0,xr p),(3,.int .i64 (n:Int))],aa,⟨⟨_,_,aa,aa,aa⟩,⟨_,_,aa,aa,aa⟩,aj⟩,λp hp=>(by simp at hp;rcases hp with rfl|rfl <;> exact λe=>(by cases e)),?_⟩;have hR4:=(hR.aD b3).swap fv xG
 (repeat (first|refine wN ?_|refine wP aa ?_|refine wO aa aa ?_))
 refine VS.eb (bQ _ _) 2 aa (wV aa (wN ?_));refine⟨_,λW=>bD Tryz.prog W 15,aa,λ_=>aa,λ_=>aa,λ_=>ax.refl _,λw5 β k5 b5 en=>⟨fk Tryz.func44,(show Calls _ _ #[xr p,.int .i64 0,.int .i64 (n:Int)] w5 _ from JQ p b c n (Gr.gJ xs 0 n) sp w5 (hR4.aD b5) (by rw[Gr.fL];omega) (by rw[Gr.fL];omega) hd0).mono ?_⟩⟩;rintro e w6 ⟨⟨r6,rfl⟩,rO,ys,Kg,hP6,hH6,hK6⟩;refine⟨_,[(0,xr p)],aa,⟨⟨_,_,aa,aa,aa⟩,aj⟩,λp hp=>(by simp at hp;subst hp;exact λe=>(by cases e)),?_⟩;have ij:ys.length=n+1:=by rw[hP6.length_eq,Gr.fL,IV]
 have hyn:Gr.gF ys n=Gr.gF xs 0:=(hK6 n (aM _)).trans Kq;have hys:=last_of ij;rw[hyn] at hys;obtain⟨zs,Bq⟩:∃ zs,zs=ys.take n:=⟨_,aa⟩;rw[<-Bq] at hys;have hzl:zs.length=n:=by rw[Bq,aR];omega
 subst hys
 (repeat (first|refine wN ?_|refine wP aa ?_|refine wO aa aa ?_))
 refine VS.gS (bQ _ _) (λW=>bD Tryz.prog W 15) (λ_=>aa) (λ_=>aa) (λ_=>ax.refl _) (λW=>bQ W 15) 1 aa (wV aa (wN ?_));refine⟨_,aa,λw7 β k7 b7 en=>ow aa aa (fk Tryz.func155) (MQ _ w7) ((MR p b c zs (Gr.gF xs 0) sp w7 (by have:=(Kg.aD b7).box;rwa [da,tx] at this) (Kg.aD b7).row (by have:=Kg.le;rwa [da,tx] at this) Kg.cm).mono ?_)⟩;rintro e w8 ⟨rfl,AL,hc8⟩;refine⟨_,[],aa,aj,λp hp=>(by cases hp),wV aa (wN ?_)⟩;have hne:=gv Kg.row Kg.box
 have hR8:HR w8 p b c zs (.int .i64 (Gr.gF xs 0)::sp):=by
  have e2:dm zs++(.int .i64 (Gr.gF xs 0)::sp)=dm (zs++[Gr.gF xs 0])++sp:=by unfold dm;simp
  refine⟨hc8,?_,by rw[List.all_cons,Kg.ok];rfl,by have:=Kg.le;rw[da,tx] at this;omega,Kg.cm,by rw[e2];exact Kg.fl⟩;rw[e2];exact (AL.kX b (Kg.aD b7).row.lt (by simpa using hne)).trans (Kg.aD b7).row
 refine af ?_;refine bH ?_;intro wz kz bz;refine⟨_,zs,aa,λy hy=> ?_,?_,_,zs,(hR8.aD bz).box,(hR8.aD bz).new,.refl _,?_,?_,.inl aa⟩
 ·obtain⟨k,hk⟩:=Ge.1 hy;have DN:=(bx.1 hk).1;have:=Gr.MP hh k DN;have e3:Gr.gF xs k=y:=by unfold Gr.gF;rw[eL,hk];rfl
  rwa [e3] at this
 ·exact ((hP6.trans (Gr.qD ae ae)).symm).trans List.perm_append_comm
 ·intro k k0 kn;have:=hH6 k k0 ae
  rwa [vi ae,vi ae] at this
 ·have m:∀ {w w':World} {g:Nat},(g=p\/g=b)->fq [g] w w'->fq (p::(eg (.slice (some ⟨b,0,none⟩) xs.length c)).toList) w w':=λhg h=>⟨h.os,h.tape,h.output,h.size,λq hq hn=>h.kX q hq (λhm=>hn (by
   rw[aH.1 hm];show _∈[p,b];rcases hg with rfl|rfl <;> simp))⟩
  exact (((((fq.of b3).aB (m (.inr aa) fv)).aB (fq.of b5)).aB (m (.inr aa) rO)).aB (fq.of b7)).aB ((m (.inl aa) AL).aB (fq.of bz))
end
section
namespace Gr
def aL (l:List Ed) (u:Int):List Int:=(l.filter λe=>e.fr == u).map (·.tt)
variable {l:List Ed} {i:Nat}
theorem uz {x:Ed} (h:l[i]? =some x) (u:Int):aL (l.take (i+1)) u=aL (l.take i) u++if x.fr=u then [x.tt] else []:=by
 unfold aL;rw[fh h,List.filter_append,cT]
 congr 1
 by_cases e:x.fr=u
 ·rw[if_pos e,Bh,if_pos (by simpa using e)];rfl
 ·rw[if_neg e,Bh,if_neg (by simpa using e)];rfl
theorem FI {u y:Int} (h:y∈aL l u):∃ e∈l,e.fr=u/\e.tt=y:=by
 unfold aL at h;obtain⟨e,he,rfl⟩:=cU.1 h;obtain⟨h1,h2⟩:=mO.1 he;exact⟨e,h1,by simpa using h2,rfl⟩
theorem jG (l:List Ed) (u:Int):(aL l u).length<=l.length:=by
 unfold aL;rw[cJ];exact List.length_filter_le _ _
def oy (l:List Ed) (v:Int):Nat:=l.countP λe=>e.tt == v
theorem FJ {x:Ed} (h:l[i]? =some x) (v:Int):oy (l.take (i+1)) v=oy (l.take i) v+if x.tt=v then 1 else 0:=by
 unfold oy;rw[fh h,List.countP_append,List.countP_cons];simp
theorem Dw (l:List Ed) (v:Int):oy l v<=l.length:=List.countP_le_length
def xY (out:List Nat) (u:Int):Bool:=out.any λx=>u == (x:Int)
def xw (l:List Ed) (out:List Nat) (v:Int):Nat:=l.countP λe=>e.tt == v && !xY out e.fr
theorem xx (l:List Ed) (v:Int):xw l [] v=oy l v:=by
 unfold xw oy
 congr 1
 funext e
 simp[xY]
variable {out:List Nat} {x:Nat}
theorem MW (hx:x∉out):xY out (x:Int)=false:=by
 unfold xY;rw[List.any_eq_false];intro y hy e;have e2:(x:Int)=(y:Int):=eq_of_beq e;have:x=y:=ae;exact hx (this▸hy)
theorem tq (hx:x∉out) (v:Int):xw l out v=xw l (out++[x]) v+(aL l (x:Int)).count v:=by
 induction l with
 | nil=>rfl
 | cons e r ih=>
   unfold xw aL at ih ⊢;rw[List.countP_cons,List.countP_cons,Bh,ih];have h1:xY (out++[x]) e.fr=(xY out e.fr || e.fr == (x:Int)):=by unfold xY;rw[List.any_append];simp
   by_cases hf:e.fr=(x:Int)
   ·have h2:xY out e.fr=false:=by rw[hf];exact MW hx
    rw[if_pos (show (e.fr == (x:Int))=true by simpa using hf),fV,List.count_cons,h1,h2];by_cases ht:e.tt=v
    ·simp[ht,hf];omega
    ·simp[ht]
   ·rw[if_neg (show ¬ (e.fr == (x:Int))=true by simpa using hf),h1];by_cases ht:e.tt=v
    ·simp[ht,hf];omega
    ·simp[ht]
theorem qE {v:Nat}:xw l out (v:Int)=0↔jC l out v=true:=by
 unfold xw jC;rw[List.countP_eq_zero,aW];constructor
 ·intro h e he;have:=h e he;unfold xY at this;cases h1:e.tt == (v:Int) <;> cases h2:(out.any λu=>e.fr == (u:Int)) <;> simp_all
 ·intro h e he;have:=h e he;unfold xY;cases h1:e.tt == (v:Int) <;> cases h2:(out.any λu=>e.fr == (u:Int)) <;> simp_all
structure KI (l:List Ed) (n:Nat) (out:List Nat) (hs xs sj:List Int):Prop where
 len:hs.length=n
 cnt:∀ v:Nat,v<n->gF hs v=((xw l out (v:Int)+sj.count (v:Int):Nat):Int)
 nd:xs.Nodup
 mem:∀ y,y∈xs↔∃ v:Nat,y=(v:Int)/\v<n/\v∉out/\xw l out (v:Int)+sj.count (v:Int)=0
 ord:Jy l n out
 part:Mv l n (n-out.length) out=sa l n
 pin:∀ y∈sj,∃ v:Nat,y=(v:Int)/\v<n/\v∉out
section
variable {l:List Ed} {n:Nat} {out:List Nat} {hs xs ys sj:List Int} {x y:Int}
theorem KI.perm (h:KI l n out hs xs sj) (p:xs.Perm ys):KI l n out hs ys sj:=
 ⟨h.len,h.cnt,p.nodup_iff.1 h.nd,λy=>by rw[<-p.mem_iff];exact h.mem y,h.ord,h.part,h.pin⟩
theorem KI.GN (h:KI l n out hs xs sj):xs.length<=n:=by
 have h1:(xs.map Int.toNat).Nodup:=by
  unfold List.Nodup;rw[List.pairwise_map];refine h.nd.imp_of_mem λha hb hne e=>hne ?_;obtain⟨a,rfl,_⟩:=(h.mem _).1 ha;obtain⟨b,rfl,_⟩:=(h.mem _).1 hb;simp at e;rw[e]
 have:=nodup_lt_length h1 (n:=n) (λv hv=>by
  obtain⟨y,hy,rfl⟩:=cU.1 hv;obtain⟨a,rfl,h2,_⟩:=(h.mem _).1 hy;simpa using h2)
 rwa [cJ] at this
theorem KI.pop (h:KI l n out hs xs []) (tL:∀ e∈l,0<=e.tt/\e.tt<(n:Int)) (hmin:∀ y∈xs,x<=y) (hp:xs.Perm (x::ys)):∃ u:Nat,x=(u:Int)/\u<n/\out.length<n/\KI l n (out++[u]) hs ys (aL l (u:Int)):=by
 obtain⟨u,rfl,hun,huo,hu0⟩:=(h.mem x).1 (hp.mem_iff.2 (Bc ..));have hr:jC l out u=true:=qE.1 (by simpa using hu0)
 have hnx:om l n out=some u:=Mw hun huo hr λw hw=>by
  by_cases hm:w∈out
  ·exact .inl hm
  ·refine .inr ?_;rw[<-yj];intro AW;have:=hmin _ ((h.mem (w:Int)).2 ⟨w,aa,ae,hm,by simpa using qE.2 AW⟩);omega
 have ho:=h.ord.snoc hnx
 have hlen:out.length<n:=by
  have:=nodup_lt_length ho.nodup ho.lt;simp at this;omega
 have xC:=hp.nodup_iff.1 h.nd;rw[ym] at xC;refine⟨u,aa,hun,hlen,h.len,λv hv=> ?_,xC.2,λy=> ?_,ho,?_,λy hy=> ?_⟩
 ·rw[h.cnt v hv,<-tq huo];simp
 ·have hiff:y∈ys↔y∈xs/\y≠(u:Int):=by
   rw[hp.mem_iff,fj];constructor
   ·intro hy;exact⟨.inr hy,λe=>xC.1 (e▸hy)⟩
   ·rintro⟨e|e,h2⟩
    ·exact absurd e h2
    ·exact e
  rw[hiff,h.mem];constructor
  ·rintro⟨⟨v,rfl,h1,h2,h3⟩,h4⟩;refine⟨v,aa,h1,?_,?_⟩
   ·rw[fU,aH];rintro (e|e)
    ·exact h2 e
    ·exact h4 (by rw[e])
   ·rw[<-tq huo];simpa using h3
  ·rintro⟨v,rfl,h1,h2,h3⟩;rw[fU,aH] at h2;refine⟨⟨v,aa,h1,λe=>h2 (.inl e),?_⟩,λe=>h2 (.inr ae)⟩;rw[<-tq huo] at h3;simpa using h3
 ·rw[<-h.part];obtain⟨k,hk⟩:∃ k,n-out.length=k+1:=⟨n-out.length-1,ae⟩;have hk2:n-(out++[u]).length=k:=by rw[da,tx];omega
  rw[hk,hk2];show _=(match om l n out with|none=>out|some v=>Mv l n k (out++[v]));rw[hnx]
 ·obtain⟨e,he,hfr,rfl⟩:=FI hy;obtain⟨h1,h2⟩:=tL e he;obtain⟨v,hv⟩:=Int.eq_ofNat_of_zero_le h1;refine⟨v,hv,ae,?_⟩;rw[fU,aH];rintro (hm|rfl)
  ·obtain⟨i,hi⟩:=vt hm;obtain⟨w,hw,h4⟩:=xg.1 (h.ord.ready i v hi) e he hv;have:u=w:=ae;exact huo (this▸lf hw)
  ·obtain⟨w,hw,h4⟩:=xg.1 hr e he hv;have:v=w:=ae;exact huo (this▸hw)
theorem FK {hs:List Int} {v:Nat} {a:Int} (h:v<hs.length) (w:Nat):gF (hs.set v a) w=if w=v then a else gF hs w:=by
 unfold gF;rw[eL,eL,qM];by_cases e:v=w
 ·subst e;rw[if_pos rfl,if_pos h,if_pos rfl];rfl
 ·rw[if_neg e,if_neg (λq=>e q.symm)]
theorem KI.dec (h:KI l n out hs xs (y::sj)):∃ v:Nat,y=(v:Int)/\v<n/\1<=gF hs v/\KI l n out (hs.set v (gF hs v-1)) (if gF hs v-1=0 then xs++[(v:Int)] else xs) sj:=by
 obtain⟨v,rfl,hv,hvo⟩:=h.pin y (Bc ..);have hc:=h.cnt v hv;have hcv:((v:Int)::sj).count (v:Int)=sj.count (v:Int)+1:=by rw[List.count_cons];simp
 have GA:∀ w:Nat,w≠v->((v:Int)::sj).count (w:Int)=sj.count (w:Int):=λw hw=>by
  rw[List.count_cons,if_neg (by simp;omega)];rfl
 rw[hcv] at hc
 have hnot:(v:Int)∉xs:=λhm=>by
  obtain⟨w,e,_,_,h4⟩:=(h.mem _).1 hm;have:w=v:=ae;subst this;rw[hcv] at h4;omega
 refine⟨v,aa,hv,ae,by rw[eF];exact h.len,λw hw=> ?_,?_,λz=> ?_,h.ord,h.part,λz hz=>h.pin z (tz _ hz)⟩
 ·rw[FK (by rw[h.len];exact hv)];by_cases e:w=v
  ·subst e;rw[if_pos rfl];omega
  ·rw[if_neg e,h.cnt w hw,GA w e]
 ·split
  ·rw[tC];exact⟨h.nd,bc,λa ha b hb=>by rw[aH.1 hb];intro e;exact hnot (e▸ha)⟩
  ·exact h.nd
 ·have old:z≠(v:Int)->(z∈xs↔∃ w:Nat,z=(w:Int)/\w<n/\w∉out/\xw l out (w:Int)+sj.count (w:Int)=0):=λhz=>by
   rw[h.mem];constructor
   ·rintro⟨w,rfl,h1,h2,h3⟩;exact⟨w,aa,h1,h2,by rwa [GA w ae] at h3⟩
   ·rintro⟨w,rfl,h1,h2,h3⟩;exact⟨w,aa,h1,h2,by rwa [GA w ae]⟩
  by_cases e0:gF hs v-1=0
  ·rw[if_pos e0,fU,aH];by_cases hz:z=(v:Int)
   ·subst hz;exact⟨λ_=>⟨v,aa,hv,hvo,ae⟩,λ_=>.inr aa⟩
   ·rw[<-old hz];exact⟨λh=>h.resolve_right hz,.inl⟩
  ·rw[if_neg e0];by_cases hz:z=(v:Int)
   ·subst hz;refine⟨λhm=>absurd hm hnot,?_⟩;rintro⟨w,e,_,_,h3⟩;have:w=v:=ae;subst this;omega
   ·exact old hz
theorem KI.done (h:KI l n out hs [] []):out=sa l n:=by
 have hn:om l n out=none:=by
  cases hx:om l n out with
  | none=>rfl
  | some v=>
    obtain⟨h1,h2,h3,_⟩:=xh hx;have:=(h.mem (v:Int)).2 ⟨v,aa,h1,h2,by simpa using qE.2 h3⟩;cases this
 rw[<-h.part];cases n-out.length with
 | zero=>rfl
 | succ k=>
   show out=(match om l n out with|none=>out|some v=>Mv l n k (out++[v]));rw[hn]
theorem KI.start (h1:hs.length=n) (h2:∀ v:Nat,v<n->gF hs v=(oy l (v:Int):Int)) (h3:xs.Nodup) (h4:∀ y,y∈xs↔∃ v:Nat,y=(v:Int)/\v<n/\gF hs v=0):KI l n [] hs xs []:=
 ⟨h1,λv hv=>by rw[h2 v hv,xx];rfl,h3,λy=>by
  rw[h4];constructor
  ·rintro⟨v,rfl,a,b⟩;refine⟨v,aa,a,bc,?_⟩;rw[h2 v a] at b;rw[xx,List.count_nil];omega
  ·rintro⟨v,rfl,a,_,b⟩;refine⟨v,aa,a,?_⟩;rw[xx,List.count_nil] at b;rw[h2 v a];omega,.nil,rfl,λy hy=>by cases hy⟩
end
end Gr
end
section
open Go.RowKit
attribute [local irreducible] aq VS
abbrev Dx:TypeId:=27
structure jH (W:World) (B hb hd:Nat) (cs:List Value) (rows:Nat->List Int) (n:Nat):Prop where
 row:aI W hd Dx cs.toArray
 len:cs.length=n
 new:∀ (i:Nat) (v:Value),cs[i]? =some v->bn IE 1 bF B W v (rows i)
 ap:∀ (i j:Nat) (v u:Value) (b:Nat),i≠j->cs[i]? =some v->cs[j]? =some u->eg v=some b->eg u≠some b
 nb:∀ (i:Nat) (v:Value),cs[i]? =some v->eg v≠some hb
variable {xs:List Int} {B b:Nat} {v:Value} {w:World}
theorem gZ (h:bn IE 1 bF B w v xs) (hb:eg v=some b):B<=b/\∃ cs,aI w b bF cs:=by
 rcases h with ⟨rfl,_⟩|⟨b',c,vs,sp,rfl,h1,h2,_⟩
 ·cases hb
 ·cases hb;exact⟨h1,_,h2⟩
variable {w':World}
theorem mI {ad:List Nat} (h:bn IE 1 bF B w v xs) (k:fq ad w w') (hn:∀ b,eg v=some b->b∉ad):bn IE 1 bF B w' v xs:=by
 rcases h with h|⟨b,c,vs,sp,rfl,g2,g3,g4,g5⟩
 ·exact .inl h
 ·refine .inr ⟨b,c,vs,sp,aa,g2,(k.kX b g3.lt (hn b aa)).trans g3,?_,g5⟩;clear g3 g5 hn
  induction g4 with
  | nil=>exact .nil
  | cons h1 _ ih=>exact .cons h1 ih
variable {gA:Array Value} {p:Nat}
theorem mJ {cs:Array Value} (h:aI w b bF cs) (k:aI w p Dx gA):b≠p:=λe=>by
 subst e;have:=vh h k
 revert this
 decide
theorem MX {cs:Array Value} (h:aI w b fM cs) (k:aI w p Dx gA):b≠p:=λe=>by
 subst e;have:=vh h k
 revert this
 decide
variable {cs:List Value} {hb hd:Nat} {rows:Nat->List Int} {W:World}
theorem jH.ok {n:Nat} (h:jH W B hb hd cs rows n):cs.all aK=true:=aW.2 λv hv=>by
 obtain⟨i,hi⟩:=vt hv;rcases h.new i v hi with ⟨rfl,_⟩|⟨b,c,vs,sp,rfl,_⟩ <;> rfl
variable {f:Nat} {rows':Nat->List Int} {W':World}
theorem jH.put {n:Nat} {v':Value} {ad:List Nat} {hcs:Array Value} (h:jH W B hb hd cs rows n) (AX:aI W hb bF hcs) (hf:cs[f]? =some v) (rM:bn IE 1 bF B W' v' (rows' f)) (hbut:fq ad W W')
  (had:∀ b∈ad,b=hb\/b=hd\/eg v=some b) (hcls:aI W' hd Dx (cs.set f v').toArray) (EO:∀ b,eg v'=some b->W.heap.size<=b\/eg v=some b) (iT:∀ i,i≠f->rows' i=rows i):jH W' B hb hd (cs.set f v') rows' n:=by
 have uN:=(bx.1 hf).1
 have at_:∀ i u,(cs.set f v')[i]? =some u->(i=f/\u=v')\/(i≠f/\cs[i]? =some u):=λi u hi=>by
  rw[qM] at hi;by_cases e:f=i
  ·subst e;rw[if_pos rfl,if_pos uN] at hi;cases hi;exact .inl ⟨aa,aa⟩
  ·rw[if_neg e] at hi;exact .inr ⟨λq=>e q.symm,hi⟩
 have lt:∀ (i:Nat) (u:Value) (b:Nat),cs[i]? =some u->eg u=some b->b<W.heap.size/\b≠hd:=λi u b hi hb=>by
  obtain⟨_,c',hc⟩:=gZ (h.new i u hi) hb;exact⟨hc.lt,mJ hc h.row⟩
 refine⟨hcls,by rw[eF];exact h.len,λi u hi=> ?_,λi j u x b hij hi hj hu hx=> ?_,λi u hi hu=> ?_⟩
 ·rcases at_ i u hi with ⟨rfl,rfl⟩|⟨hif,hi⟩
  ·exact rM
  ·rw[iT i hif];refine mI (h.new i u hi) hbut λb hb hm=> ?_;rcases had b hm with rfl|rfl|hv
   ·exact h.nb i u hi hb
   ·exact (lt i u _ hi hb).2 aa
   ·exact h.ap i f u v b hif hi hf hb hv
 ·rcases at_ i u hi with ⟨ei,eu⟩|⟨hif,pI⟩ <;> rcases at_ j x hj with ⟨ej,ex⟩|⟨hjf,hj'⟩
  ·exact hij (ei.trans ej.symm)
  ·rw[ei] at hij;rw[eu] at hu;rcases EO b hu with hb|hb
   ·have:=(lt j x b hj' hx).1;omega
   ·exact h.ap j f x v b hjf hj' hf hx hb
  ·rw[ex] at hx;rcases EO b hx with hb|hb
   ·have:=(lt i u b pI hu).1;omega
   ·exact h.ap i f u v b hif pI hf hu hb
  ·exact h.ap i j u x b hij pI hj' hu hx
 ·rcases at_ i u hi with ⟨rfl,rfl⟩|⟨hif,hi⟩
  ·rcases EO hb hu with sw |sw
   ·have:=AX.lt;omega
   ·exact h.nb i v hf sw
  ·exact h.nb i u hi hu
theorem jH.but {n:Nat} {ad:List Nat} (h:jH W B hb hd cs rows n) (k:fq ad W W') (hd':hd∉ad) (ha:∀ (i:Nat) (v:Value) (b:Nat),cs[i]? =some v->eg v=some b->b∉ad):jH W' B hb hd cs rows n:=
 ⟨(k.kX hd h.row.lt hd').trans h.row,h.len,λi v hi=>mI (h.new i v hi) k λb hb=>ha i v b hi hb,h.ap,h.nb⟩
variable {N:Nat}
theorem kF.aD {K:KC} {ad:List Nat} {l:List (TypeId×List AV)} (h:kF K N ad l w) (hb:ax w w'):kF K N ad l w':=⟨h.len,h.nodup,λj g c hj hc=>(h.cls j g c hj hc).aD hb,h.ok,h.ids⟩
theorem tr {ad:List Nat} {hd:ad.Nodup} {ha:oW (KU UU) ad w} {off:Nat} (hn:b∉ad) (hc:∀ (j:Nat) (u:Value),cs[j]? =some u->w.cell? ((⟨b,off,none⟩:Addr).add j)=some u):∀ (j:Nat) (u:Value),cs[j]? =some u->(Jc Tryz.prog w N ad hd ha).At ((⟨b,off,none⟩:Addr).add j) u:=λj u hk w1 ss=>by
 have h:=hc j u hk;have hlt:=tw w _ h;rw[Addr.add_mid] at h hlt ⊢;rw[pa (w:=w) (ss.1.kX _ hlt hn)];exact h
def bfr3 (x y z:Nat) (a b c:Bool):List Nat:=(bif a then [x] else [])++((bif b then [y] else [])++(bif c then [z] else []))
theorem AB {P M R:List Nat} {A x y z:Nat} {T:Nat->Bool}:jB P [x,y,z] M R A T=(P++(bfr3 x y z (T x) (T y) (T z)++M))++A::(bfr3 x y z (!T x) (!T y) (!T z)++R):=by
 unfold jB bfr3;simp only[List.filter_cons,List.filter_nil];cases T x <;> cases T y <;> cases T z <;> rfl
theorem gw (β:Nat->Nat) (cs:List Value) (f:Nat) (x:AV):((cs.map AV.val).set f x).map (AV.leaf β)=cs.set f (x.leaf β):=by rw[List.map_set,aA]
theorem MY {α:Type} {cs:List α} {v:α} (h:cs[f]? =some v):cs.set f v=cs:=by
 apply Be;intro k;rw[qM];by_cases e:f=k
 ·subst e;rw[if_pos rfl,h,if_pos (bx.1 h).1]
 ·rw[if_neg e]
theorem Dy {i n c:Nat}:∀ (cs:List Value) (f:Nat),∀ k∈aC ((cs.map AV.val).set f (.row i 0 n c)),k=i
 | [],_,k,hk=>by cases hk
 | v::r,0,k,hk=>by
   rw[fV,Bd,aC,aG,dS] at hk;simpa [AV.dP] using hk
 | v::r,f+1,k,hk=>by
   rw[fV,List.set_cons_succ,aC] at hk;exact Dy r f k (by simpa [AV.dP] using hk)
variable {i c:Nat}
theorem ok_set {n:Nat} (h:cs.all aK=true):((cs.map AV.val).set f (.row i 0 n c)).all aF=true:=aW.2 λx hx=>by
 rcases xZ hx with hx|rfl
 ·exact aW.1 (cO h) x hx
 ·rfl
variable {l:List AV}
theorem kJ {x:AV} (h:l[f]? =some x):∀ (k:Nat) (u:AV),[x][k]? =some u->l[(0+((f:Int)).toNat*1)+k]? =some u:=λk u hk=>by
 rw[aQ,cC,eM];cases k with
 | zero=>cases hk;exact h
 | succ k=>simp at hk
theorem bL (x:AV) (h:f<l.length):l.take (0+((f:Int)).toNat*1)++([x]++l.drop (0+((f:Int)).toNat*1+1))=l.set f x:=by
 rw[aQ,cC,eM,Ki,if_pos h];rfl
theorem MZ {n:Nat} (h:bn IE 1 bF 0 w (.slice (some ⟨b,0,none⟩) n c) xs) (hB:B<=b):bn IE 1 bF B w (.slice (some ⟨b,0,none⟩) n c) xs:=by
 rcases h with ⟨h,_⟩|⟨b',c',vs,sp,e,_,h⟩
 ·cases h
 ·cases e;exact .inr ⟨_,_,vs,sp,aa,hB,h⟩
variable {ρ:AV->Value}
theorem vm {n:Nat} (cs:List Value):((cs.map AV.val).set f (.row i 0 n c)).map (AV.mi i ρ)=(cs.map AV.val).set f ((AV.row i 0 n c).mi i ρ):=by
 rw[List.map_set,qQ];rfl
theorem sk (cs:List Value):(cs.map AV.val).map (AV.mi i ρ)=cs.map AV.val:=by
 rw[qQ];rfl
theorem jH.done {w1 wq:World} {ad:List Nat} {n b6 k cap:Nat} {hh:List Int} {vf:Value}
  (mX:ax w W) (iA:ax W w1) (hH:jH W w.heap.size hb hd cs rows n) (AX:aI W hb bF (dm hh).toArray) (zy:w.heap.size<=hb) (zz:w.heap.size<=hd) (FL:cs[f]? =some vf)
  (hbut:fq ad w1 wq) (had:∀ g∈ad,g=hb\/g=hd\/eg vf=some g) (hn6:w1.heap.size<=b6\/b6∈ad) (h6:b6≠hb)
  (rM:bn IE 1 bF 0 wq (.slice (some ⟨b6,0,none⟩) k cap) (rows' f)) (hcls:aI wq hd Dx (cs.set f (.slice (some ⟨b6,0,none⟩) k cap)).toArray) (iT:∀ i,i≠f->rows' i=rows i):
  ax w wq/\jH wq w.heap.size hb hd (cs.set f (.slice (some ⟨b6,0,none⟩) k cap)) rows' n:=by
 have IX:=iA.size;have hsW:=mX.size
 have h6d:b6≠hd:=by
  obtain⟨_,c',hc'⟩:=gZ rM aa;exact mJ hc' hcls
 have h6v:W.heap.size<=b6\/eg vf=some b6:=by
  rcases hn6 with h|h
  ·exact .inl ae
  ·rcases had b6 h with h|h|h
   ·exact absurd h h6
   ·exact absurd h h6d
   ·exact .inr h
 have hvB:∀ g,eg vf=some g->w.heap.size<=g:=λg hg=>(gZ (hH.new f vf FL) hg).1;refine⟨fq.aD (mX.aB iA) hbut λg hg=> ?_,jH.put hH AX FL (MZ rM ?_) ((fq.of iA).aB hbut) had hcls (λb sw=> ?_) iT⟩
 ·rcases had g hg with rfl|rfl|h
  ·exact zy
  ·exact zz
  ·exact hvB g h
 ·rcases h6v with h|h
  ·omega
  ·exact hvB _ h
 ·cases sw;exact h6v
theorem zA:∀ n:Nat,dE n [AV.val (.int .i64 0)]=(dm (List.replicate n 0)).map .val
 | 0=>rfl
 | n+1=>by rw[dE,zA n];rfl
theorem zB:∀ n:Nat,dE n [AV.val (.slice none 0 0)]=(List.replicate n (Value.slice none 0 0)).map .val
 | 0=>rfl
 | n+1=>by rw[dE,zB n];rfl
structure iU (W:World) (B hb hd p:Nat) (hh:List Int) (cs:List Value) (rows:Nat->List Int) (n:Nat) (sv:Value) (xs:List Int) (ov:Value) (outs:List Int):Prop where
 Dz:jH W B hb hd cs rows n
 FM:aI W hb bF (dm hh).toArray
 box:aI W p fM #[sv]
 row:bn IE 1 bF 0 W sv xs
 heap:Gr.ou (Gr.gF xs) xs.length
 out:bn IE 1 bF B W ov outs
 bB:B<=hb
 dB:B<=hd
 pB:B<=p
 sB:∀ b,eg sv=some b->B<=b/\b≠hb/\∀ (i:Nat) (v:Value),cs[i]? =some v->eg v≠some b
 oB:∀ b,eg ov=some b->b≠hb/\eg sv≠some b/\∀ (i:Nat) (v:Value),cs[i]? =some v->eg v≠some b
theorem VS.hopC {C:Cx} {Q:Exit->Act->World->Prop} {F:Fr} {H:Hp} (D:World->Cx) (P:Fr->World->Prop) {MH MI:List It} (h1:(∀ F' W',P F' W'->VS (D W') Q MI F' (λ_=>none) W')->VS C Q MH F H w) (h2:∀ F' W',P F' W'->VS (D W') Q MI F' (λ_=>none) W'):VS C Q MH F H w:=h1 h2
section
variable {w W W':World} {B hb hd p n:Nat} {hh hh' xs ys outs outs':List Int} {cs:List Value} {rows:Nat->List Int} {sv ov ov':Value}
theorem Hy (h:bn IE 1 bF B W sv xs) (hb:ax W W'):bn IE 1 bF B W' sv xs:=mI h (fq.of (ad:=[]) hb) λ_ _ h=>by cases h
theorem iU.aD (h:iU W B hb hd p hh cs rows n sv xs ov outs) (k:ax W W'):iU W' B hb hd p hh cs rows n sv xs ov outs:=
 ⟨h.Dz.but (fq.of (ad:=[]) k) bc bc,h.FM.aD k,h.box.aD k,Hy h.row k,h.heap,Hy h.out k,h.bB,h.dB,h.pB,h.sB,h.oB⟩
theorem AD (h:jH W B hb hd cs rows n) {i:Nat} {v:Value} {b:Nat} (hi:cs[i]? =some v) (hb:eg v=some b):B<=b/\b<W.heap.size/\∃ c,aI W b bF c:=by
 obtain⟨h1,c',hc⟩:=gZ (h.new i v hi) hb;exact⟨h1,hc.lt,c',hc⟩
theorem iU.waits (h:iU W B hb hd p hh cs rows n sv xs ov outs) (k:MU p W W' sv ys) (hw:ax w W) (hB:w.heap.size<=B):∃ Dv xs',iU W' B hb hd p hh cs rows n Dv xs' ov outs/\xs'.Perm ys/\ax w W':=by
 obtain⟨Dv,ys',k1,k2,k3,k4,k5,k6⟩:=k;have hpd:=MX h.box h.Dz.row;have hpb:=gv h.FM h.box
 have tL:∀ b,b∈p::(eg sv).toList->b=p\/eg sv=some b:=λb hb=>by
  rcases fj.1 hb with hb|hb
  ·exact .inl hb
  ·exact .inr (by simpa using hb)
 have old:∀ b c,aI W b bF c->eg sv≠some b->b∉p::(eg sv).toList:=λb c hc hn hm=>by
  rcases tL b hm with rfl|hb
  ·exact gv hc h.box aa
  ·exact hn hb
 have hsd:hd∉p::(eg sv).toList:=λhm=>by
  rcases tL hd hm with e|hb
  ·exact hpd e.symm
  ·obtain⟨_,c',hc⟩:=gZ h.row hb;exact mJ hc h.Dz.row aa
 have hbn:hb∉p::(eg sv).toList:=old hb _ h.FM λe=>(h.sB hb e).2.1 aa;refine⟨Dv,ys',⟨h.Dz.but k5 hsd λi v b hi hb=> ?_,(k5.kX _ h.FM.lt hbn).trans h.FM,k1,k2,k4,mI h.out k5 λb hb=> ?_,h.bB,h.dB,h.pB,λb hb=> ?_,λb hb=> ?_⟩,k3,fq.aD hw k5 λg hg=> ?_⟩
 ·obtain⟨_,_,c,hc⟩:=AD h.Dz hi hb;exact old b c hc λe=>(h.sB b e).2.2 i v hi hb
 ·obtain⟨_,c,hc⟩:=gZ h.out hb;exact old b c hc (h.oB b hb).2.1
 ·rcases k6 with e|⟨b',e,hlt⟩
  ·exact h.sB b (e▸hb)
  ·rw[e] at hb;cases hb;refine⟨?_,?_,λi v hi hv=> ?_⟩
   ·have:=h.FM.lt;have:=h.bB;omega
   ·have:=h.FM.lt;omega
   ·have:=(AD h.Dz hi hv).2.1;omega
 ·obtain⟨h1,h2,h3⟩:=h.oB b hb;refine⟨h1,λe'=> ?_,h3⟩;rcases k6 with e|⟨b',e,hlt⟩
  ·exact h2 (e▸e')
  ·rw[e] at e';cases e';obtain⟨_,c,hc⟩:=gZ h.out hb;have:=hc.lt;omega
 ·rcases tL g hg with rfl|hb
  ·exact bA hB h.pB
  ·exact bA hB (h.sB g hb).1
theorem iU.holds (h:iU W B hb hd p hh cs rows n sv xs ov outs) (k:fq [hb] W W') (hc:aI W' hb bF (dm hh').toArray):iU W' B hb hd p hh' cs rows n sv xs ov outs:=by
 have ne:∀ {b:Nat},b≠hb->b∉[hb]:=λh e=>h (aH.1 e);refine⟨h.Dz.but k (ne (mJ h.FM h.Dz.row).symm) λi v b hi sw=>ne λe=>h.Dz.nb i v hi (e▸sw),hc,(k.kX _ h.box.lt (ne (gv h.FM h.box).symm)).trans h.box,mI h.row k λb sw=>ne (h.sB b sw).2.1,h.heap,mI h.out k λb sw=>ne (h.oB b sw).1,h.bB,h.dB,h.pB,h.sB,h.oB⟩
theorem iU.comes {ad:List Nat} (h:iU W B hb hd p hh cs rows n sv xs ov outs) (k:fq ad W W') (had:∀ b∈ad,eg ov=some b) (hr:bn IE 1 bF 0 W' ov' outs') (hn:∀ b,eg ov'=some b->W.heap.size<=b\/eg ov=some b):iU W' B hb hd p hh cs rows n sv xs ov' outs':=by
 have ty:∀ b,b∈ad->∃ c,aI W b bF c:=λb hb=>(gZ h.out (had b hb)).2
 have hpn:p∉ad:=λhm=>by
  obtain⟨c,hc⟩:=ty p hm;exact gv hc h.box aa
 have hdn:hd∉ad:=λhm=>by
  obtain⟨c,hc⟩:=ty hd hm;exact mJ hc h.Dz.row aa
 have hbn:hb∉ad:=λhm=>(h.oB hb (had hb hm)).1 aa;refine⟨h.Dz.but k hdn λi v b hi sw hm=>(h.oB b (had b hm)).2.2 i v hi sw,(k.kX _ h.FM.lt hbn).trans h.FM,(k.kX _ h.box.lt hpn).trans h.box,mI h.row k λb sw hm=>(h.oB b (had b hm)).2.1 sw,h.heap,?_,h.bB,h.dB,h.pB,h.sB,λb sw=> ?_⟩
 ·rcases hr with hr|⟨b,c,vs,sp,rfl,_,g⟩
  ·exact .inl hr
  ·refine .inr ⟨b,c,vs,sp,aa,?_,g⟩;rcases hn b rfl with e|e
   ·have:=h.FM.lt;have:=h.bB;omega
   ·exact (gZ h.out e).1
 ·rcases hn b sw with e|e
  ·refine⟨?_,λe'=> ?_,λi v hi hv=> ?_⟩
   ·have:=h.FM.lt;omega
   ·obtain⟨_,c,hc⟩:=gZ h.row e';have:=hc.lt;omega
   ·have:=(AD h.Dz hi hv).2.1;omega
  ·exact h.oB b e
end
set_option maxRecDepth 4000
theorem JS (kk:Nat) (v:Value) (N:Int) (es:List iB) (w:World) (hv:gE kk w v N es) (uQ:1<=kk) (hk:kk<=1000):
  Calls Tryz.prog 9 #[v] w λo w'=>(∃ a e:Int,o=.returned (.tuple #[.slice none 0 0,.int .i64 e])/\e≠0/\mG N es a e/\ax w w')\/
   (mG N es 0 0/\∃ r,o=.returned (.tuple #[r,.int .i64 0])/\bn IE 1 bF w.heap.size w' r ((Gr.sa (aX es) N.toNat).map λv:Nat=>(v:Int))/\ax w w'):=by
 have xH:=hv;obtain⟨p,c,rfl,hs⟩:=hv;obtain⟨p',c',hv',hle,fO⟩:=hs.form;cases hv';obtain⟨E,hE⟩:∃ E,E=es.length:=⟨_,aa⟩;rw[<-hE] at hs hle xH ⊢;refine ar (C:=bD Tryz.prog w _) (args:=[_]) Tryz.func9 aa Tryz.ntmps9 (cz aa) ?_;refine af ?_;refine VO.call aa aa (fk yr) (λfS gR gY=>(tf kk _ N es fS (xH.aD gY) uQ hk).mono ?_);rintro e w3 ⟨a3,e3,rfl,q3,dc⟩
 skip
 refine ck dc ?_;intro nj _ bb3;by_cases h1:e3=0
 case neg=>
  refine VS.bJ aa (show (e3 != 0)=true by simpa using h1) ?_;refine af ?_;refine bH ?_;intro wz kz bz;exact .inl ⟨_,_,aa,h1,q3,bz⟩
 subst h1;obtain⟨pQ,rfl⟩:=q3.Mx;obtain⟨n,hn⟩:∃ n:Nat,N=(n:Int):=⟨N.toNat,by have:=pQ.lo;omega⟩;subst hn;have hn:n<=256:=by have:=pQ.hi;omega
 have hE0:es.length<=4096:=by have:=pQ.GN;rwa [dy] at this
 obtain⟨l,hl⟩:∃ l,l=aX es:=⟨_,aa⟩;rw[<-hl] at pQ
 have tL:∀ e∈l,0<=e.fr/\e.fr<(n:Int)/\0<=e.tt/\e.tt<(n:Int):=λe he=>by
  obtain⟨a1,a2,a3,a4,_⟩:=pQ.edge he;exact⟨a1,a2,a3,a4⟩
 refine af ?_;refine VO.cond aa ⟨aa,ae,by show (n:Int)*(24*((1:Nat):Int))<=140737488355328;omega⟩ ?_;refine VO.fix 27 aa (show AV.row 27 0 ((n:Int)).toNat ((n:Int)).toNat=.row 27 0 n n by rw[aQ]) ?_;refine VO.eU 27 aa (show dE ((n:Int)).toNat [AV.val (.int .i64 0)]=(dm (List.replicate n 0)).map .val by rw[aQ];exact zA n) (wV aa ?_);refine VO.cond aa ⟨aa,ae,by show (n:Int)*(24*((1:Nat):Int))<=140737488355328;omega⟩ ?_;refine VO.fix 30 aa (show AV.row 30 0 ((n:Int)).toNat ((n:Int)).toNat=.row 30 0 n n by rw[aQ]) ?_;refine VO.eU 30 aa (show dE ((n:Int)).toNat [AV.val (.slice none 0 0)]=(List.replicate n (Value.slice none 0 0)).map .val by rw[aQ];exact zB n) (wV aa ?_);refine af ?_
 refine VS.uq (J:=λm L W=>∃ (z hb hd:Nat) (hh:List Int) (cs:List Value),z<=E/\m=E-z/\L=[(6,.slice (some ⟨hb,0,none⟩) n n),(7,.slice (some ⟨hd,0,none⟩) n n),(32,.slice p E c),(33,.int .i64 (E:Int)),(34,.int .i64 (z:Int))]/\ax w W/\w.heap.size<=hb/\w.heap.size<=hd/\aI W hb bF (dm hh).toArray/\hh.length=n/\(∀ v:Nat,v<n->Gr.gF hh v=(Gr.oy (l.take z) (v:Int):Int))/\jH W w.heap.size hb hd cs (λi=>Gr.aL (l.take z) (i:Int)) n)
  (λW=>bD Tryz.prog W 116) (λ_=>rfl) (λ_=>rfl) (λ_=>ax.refl _) E (λw' β k o en=>⟨[(6,.slice (some ⟨β 27,0,none⟩) n n),(7,.slice (some ⟨β 30,0,none⟩) n n),(32,.slice p E c),(33,.int .i64 (E:Int)),(34,.int .i64 ((0:Nat):Int))],⟨⟨_,_,rfl,rfl,rfl⟩,⟨_,_,rfl,rfl,rfl⟩,⟨_,_,rfl,rfl,rfl⟩,⟨_,_,rfl,rfl,rfl⟩,⟨_,_,rfl,rfl,rfl⟩,aj⟩,0,β 27,β 30,List.replicate n 0,List.replicate n (.slice none 0 0),cD _,rfl,rfl,o,(en.own 27 _ _ rfl).new,(en.own 30 _ _ rfl).new,?_,ya,λv hv=> ?_,?_⟩) ?_
 ·have:=(en.own 27 _ _ aa).cls
  rwa [aA] at this
 ·unfold Gr.gF;rw[eL,List.getElem?_replicate,if_pos hv,Bj];rfl
 ·have hc:=(en.own 30 _ _ aa).cls;rw[aA] at hc;have at_:∀ (i:Nat) (v:Value),(List.replicate n (Value.slice none 0 0))[i]? =some v->v=.slice none 0 0:=λi v hi=>(List.mem_replicate.1 (dx hi)).2;refine⟨hc,ya,λi v hi=> ?_,λi j v u b _ hi _ hv=> ?_,λi v hi hv=> ?_⟩
  ·rw[at_ i v hi];exact .inl ⟨aa,by rw[Bj];rfl⟩
  ·rw[at_ i v hi] at hv;cases hv
  ·rw[at_ i v hi] at hv;cases hv
 rintro m L W ⟨z,hb,hd,hh,cs,hz,rfl,rfl,mX,zy,zz,AX,zT,hhc,hH⟩;have hsW:=hs.aD (mF.el kk) mX;refine af ?_;by_cases xX:z<E
 ·obtain⟨x,hx⟩:∃ x,es[z]? =some x:=⟨_,aZ ae⟩;have dv:l[z]? =some x.ed:=by rw[hl];exact eX hx
  obtain⟨h1,h2,h3,h4⟩:=tL x.ed (dx dv);obtain⟨f,hf⟩:∃ f:Nat,x.fr=(f:Int):=⟨x.fr.toNat,by have:x.ed.fr=x.fr:=aa;omega⟩;obtain⟨t,ht⟩:∃ t:Nat,x.tt=(t:Int):=⟨x.tt.toNat,by have:x.ed.tt=x.tt:=aa;omega⟩;have DL:f<n:=by have:x.ed.fr=x.fr:=aa;omega
  have htn:t<n:=by have:x.ed.tt=x.tt:=aa;omega
  obtain⟨b0,ee,cs0,rfl,ry,⟨s0,p0,n0,c0,t0,y0,m0,d0,rfl,AW⟩⟩:=hsW.at hx;rw[hf,ht] at ry;obtain⟨vf,FL⟩:∃ vf,cs[f]? =some vf:=⟨_,aZ (by rw[hH.len];omega)⟩;have EO:=hH.new f vf FL;refine VS.bJ aa (aU (cf.2 xX)) ?_
  have hcell:∀ (q:Nat),q<n->∀ (k:Nat) (u:AV),[AV.val (Value.int .i64 (Gr.gF hh q))][k]? =some u->((dm hh).map AV.val)[(0+((q:Int)).toNat*1)+k]? =some u:=λq hq k u hk=>by
   rw[aQ,cC,eM];cases k with
   | zero=>
     cases hk;have:=oT (xs:=hh) (i:=q) ae [];rw[dS] at this;rw[ia,iK,this];rfl
   | succ k=>simp at hk
  have hlen:((dm hh).map AV.val).length=n:=by rw[cJ,ey];omega
  obtain⟨tv,htv⟩:∃ tv,tv=Gr.gF hh t+1:=⟨_,aa⟩
  have htw:IntKind.i64.wrap (Gr.gF hh t+1)=tv:=by
   have:=hhc t htn;have:=Gr.Dw (l.take z) (t:Int);rw[aR] at this;rw[htv,lj];omega
  have Di:((dm hh).map AV.val).take (0+((t:Int)).toNat*1)++([AV.val (.int .i64 tv)]++((dm hh).map AV.val).drop (0+((t:Int)).toNat*1+1))=(dm (hh.set t tv)).map .val:=by
   rw[aQ,cC,eM,lR _ (by rw[ey];omega)];have:=si (xs:=hh) (i:=t) ae tv [];rw[dS,dS] at this;rw[this]
  have DA:∀ v:Nat,v<n->Gr.gF (hh.set t tv) v=(Gr.oy (l.take (z+1)) (v:Int):Int):=λv hv=>by
   rw[Gr.FK ae,Gr.FJ dv];have e1:x.ed.tt=(t:Int):=ht;by_cases e:v=t
   ·subst e;rw[if_pos rfl,if_pos e1,htv,hhc v htn];omega
   ·rw[if_neg e,if_neg (by rw[e1];omega),hhc v hv];omega
  have uA:Gr.aL (l.take (z+1)) (f:Int)=Gr.aL (l.take z) (f:Int)++[(t:Int)]:=by
   rw[Gr.uz dv,if_pos (show x.ed.fr=(f:Int) from hf)];exact ai (λq=>_++[q]) ht
  have iT:∀ i:Nat,i≠f->Gr.aL (l.take (z+1)) (i:Int)=Gr.aL (l.take z) (i:Int):=λi hi=>by
   rw[Gr.uz dv,if_neg (by rw[show x.ed.fr=(f:Int) from hf];omega),dS]
  have hhd:=mJ AX hH.row
  have hb0w:b0<w.heap.size:=by
   obtain⟨b1,off1,cs1,e1,oC,⟨_,_,_,_,_,_,_,_,rfl,_⟩⟩:=hs.at hx;cases e1;exact tw w _ (oC 0 _ aa)
  rcases EO with ⟨rfl,jr⟩|⟨b,cb,vs,sp,rfl,hbG,GY,hbe,hbo,hble,hbcm,hbfl⟩
  ·have hdummy:=hhd
   have Kh:kF (KU UU) 116 [hb,hd] [(bF,(dm hh).map .val),(Dx,(cs.map AV.val))] W:=by
    refine⟨aa,by simpa using hhd,λj g c' hj hc'=> ?_,λc' hc'=> ?_,λc' hc' k hk=> ?_⟩
    ·match j,hj,hc' with
     | 0,hj,hc'=>cases hj;cases hc';rw[aA];exact AX
     | 1,hj,hc'=>cases hj;cases hc';rw[aA];exact hH.row
     | j+2,hj,_=>simp at hj
    ·simp only[List.mem_cons,List.not_mem_nil,or_false] at hc';rcases hc' with rfl|rfl
     ·exact⟨aa,cO (vg _)⟩
     ·exact⟨aa,cO hH.ok⟩
    ·simp only[List.mem_cons,List.not_mem_nil,or_false] at hc';rcases hc' with rfl|rfl <;> (rw[aG] at hk;cases hk)
   refine VS.mE (KU UU) (λt=>Nat.beq t 31) table (λ_ _ _=>trivial) (λw1 β1 k1 b1 en1=> ?_);have iA:ax W w1:=b1
   have Na:∀ (j:Nat) (u:Value),[Value.int .i64 (f:Int),.int .i64 (t:Int),.bool s0,.slice p0 n0 c0,.bool t0,.slice y0 m0 d0][j]? =some u->w1.cell? ⟨b0,ee+z*6+j,none⟩=some u:=λj u hj=>by
    rw[pa (w:=W) (jk iA _ (by have:=mX.size;show b0<_;omega))];exact ry j u hj
   refine⟨_,_,Kh.aD iA,[(6,.row 232 0 n n),(7,.row 233 0 n n),(32,.val (.slice (some ⟨b0,ee,none⟩) E c)),(33,.val (.int .i64 (E:Int))),(34,.val (.int .i64 (z:Int)))],⟨⟨_,aa,aa,λi hi=>(by cases aH.1 hi;exact⟨by show 232<=232;omega,by show 232<232+2;omega⟩)⟩,⟨_,aa,aa,λi hi=>(by cases aH.1 hi;exact⟨by show 232<=233;omega,by show 233<232+2;omega⟩)⟩,⟨_,aa,aa,λi hi=>(by cases hi)⟩,⟨_,aa,aa,λi hi=>(by cases hi)⟩,⟨_,aa,aa,λi hi=>(by cases hi)⟩,aj⟩,?_⟩;refine bT ?_;refine VO.cond aa eH ?_;refine wV aa ?_;refine bT ?_;refine VO.qk aa [.int .i64 (f:Int),.int .i64 (t:Int),.bool s0,.slice p0 n0 c0,.bool t0,.slice y0 m0 d0] aa (tr (by simp;omega) (dk Na 0 _ ⟨[],aa⟩)) (wV aa ?_);refine bT ?_;refine VO.cond aa eH (wV aa ?_);refine VO.dQ aa [.val (.int .i64 (Gr.gF hh t))] aa (hcell t htn) (wV aa ?_);refine VO.fix 43 aa (ai (λz=>AV.val (.int .i64 z)) (htw)) ?_;refine VO.cond aa eH (wV aa ?_);refine VO.cond aa (by rw[hlen,aQ];show 0+t*1+1<=_;omega) ?_;refine VO.eU 232 aa Di (wV aa ?_)
   (repeat (first|refine wN ?_|refine wP aa ?_|refine wO aa aa ?_))
   refine VS.Hj (cu _ _) (lH _ _) [] [0] [1,2,12] [3,4,5,6,7,8,9,10] [13] 11 (by kernel_rfl) (λT=> ?_) (λT=> ?_)
   ·have hT:T.1 12=true->T.1 2=true:=T.2 12 bc 2 (qK.1 (by kernel_rfl)) bc;have DB:T.1 2=true->T.1 1=true:=T.2 2 bc 1 (qK.1 (by kernel_rfl)) bc;rw[AB];generalize T.1 1=t1 at DB ⊢;generalize T.1 2=t2 at hT DB ⊢;generalize T.1 12=t12 at hT ⊢;cases t1 <;> cases t2 <;> cases t12 <;> first|(exact absurd (hT aa) dh)|(exact absurd (DB aa) dh)|(show ur _ _ _ _ _ _=true;kernel_rfl)
   have hT:T.1 12=true->T.1 2=true:=T.2 12 bc 2 (qK.1 (by kernel_rfl)) bc;have DB:T.1 2=true->T.1 1=true:=T.2 2 bc 1 (qK.1 (by kernel_rfl)) bc;rw[AB];generalize T.1 1=t1 at DB ⊢;generalize T.1 2=t2 at hT DB ⊢;generalize T.1 12=t12 at hT ⊢
   have hpk:(cs.map AV.val)[f]? =some (AV.val (.slice none 0 0)):=by
    rw[iK,FL];rfl
   have lT:((cs.map AV.val):List AV).length=n:=by rw[cJ,hH.len]
   cases t1 <;> cases t2 <;> cases t12
   ·refine wV aa ?_;refine VO.cond aa eH (wV aa ?_);refine VO.dQ aa [.val (.slice none 0 0)] aa (kJ hpk) (wV aa ?_);refine VO.xe (cu _ _) bW (t:=27) (e:=bF) (s:=55) (a:=(t:Int)) (cs:=[.int .i64 (t:Int)]) aa aa aa aa aa aa aa aa (cz aa) aa aa aa aa ae (λw9 cap Ar k9 b9 qB=>wV aa ?_);refine VO.cond aa eH (wV aa ?_);have jI:(cs.map AV.val).length=n:=by simp[hH.len]
    refine VO.cond aa (by rw[jI,aQ];show 0+f*1+1<=_;omega) ?_;refine VO.eU 233 aa ((bL (AV.row 56 0 (1) cap) (by rw[jI];exact DL))) (wV aa ?_);refine bT ?_;refine VS.iw aa (E-(z+1)) ae (λwq bG kq oq fE=> ?_);obtain⟨e0,c0⟩:=lN (fE.own 232 _ _ aa) 0 hb aa aa;obtain⟨e1,c1⟩:=lN (fE.own 233 _ _ aa) 1 hd aa aa;rw[aA] at c0;rw[gw] at c1
    have qF:bn IE 1 bF 0 wq (.slice (some ⟨bG 56,0,none⟩) (1) cap) (Gr.aL (l.take (z+1)) (f:Int)):=by
     rw[uA,jr];exact qB.uG bW (fE.own 56 _ _ aa) kq
    obtain⟨g1,g2⟩:=jH.done (rows':=λi=>Gr.aL (l.take (z+1)) (i:Int)) mX iA hH AX zy zz FL oq.1 (λg hg=>by simp only[List.mem_cons,List.not_mem_nil,or_false] at hg;rcases hg with rfl|rfl;exact .inl aa;exact .inr (.inl aa)) (ct (show eK 116 [hb,hd] w1 56 (bG 56) from (fE.own 56 _ _ aa).new)) (λe=>absurd (fE.apart 56 232 (λh=>fi _ h) (λh=>fi _ h) (e.trans e0.symm)) dh) qF c1 iT;exact⟨[(6,.slice (some ⟨hb,0,none⟩) n n),(7,.slice (some ⟨hd,0,none⟩) n n),(32,.slice (some ⟨b0,ee,none⟩) E c),(33,.int .i64 (E:Int)),(34,.int .i64 ((z+1:Nat):Int))],⟨⟨_,_,aa,ai (λq=>Value.slice (some ⟨q,0,none⟩) n n) e0,aa⟩,⟨_,_,aa,ai (λq=>Value.slice (some ⟨q,0,none⟩) n n) e1,aa⟩,⟨_,_,aa,aa,aa⟩,⟨_,_,aa,aa,aa⟩,⟨_,_,aa,ai (λz=>Value.int .i64 z) (bM ae),aa⟩,aj⟩,z+1,hb,hd,hh.set t tv,_,ae,aa,aa,g1,zy,zz,c0,by rw[eF];exact zT,DA,g2⟩
   ·exact absurd (hT aa) dh
   ·exact absurd (DB aa) dh
   ·exact absurd (DB aa) dh
   ·refine wV aa ?_;refine VO.cond aa eH (wV aa ?_);refine VO.dQ aa [.val (.slice none 0 0)] aa (kJ hpk) (wV aa ?_);refine VO.xe (cu _ _) bW (t:=27) (e:=bF) (s:=55) (a:=(t:Int)) (cs:=[.int .i64 (t:Int)]) aa aa aa aa aa aa aa aa (cz aa) aa aa aa aa ae (λw9 cap Ar k9 b9 qB=>wV aa ?_);refine VO.cond aa eH (wV aa ?_);have jI:(cs.map AV.val).length=n:=by simp[hH.len]
    refine VO.cond aa (by rw[jI,aQ];show 0+f*1+1<=_;omega) ?_;refine VO.eU 233 aa ((bL (AV.row 56 0 (1) cap) (by rw[jI];exact DL))) (wV aa ?_);refine bT ?_;refine VS.iw aa (E-(z+1)) ae (λwq bG kq oq fE=> ?_);obtain⟨e0,c0⟩:=lN (fE.own 232 _ _ aa) 0 hb aa aa;obtain⟨e1,c1⟩:=lN (fE.own 233 _ _ aa) 1 hd aa aa;rw[aA] at c0;rw[gw] at c1
    have qF:bn IE 1 bF 0 wq (.slice (some ⟨bG 56,0,none⟩) (1) cap) (Gr.aL (l.take (z+1)) (f:Int)):=by
     rw[uA,jr];exact qB.uG bW (fE.own 56 _ _ aa) kq
    obtain⟨g1,g2⟩:=jH.done (rows':=λi=>Gr.aL (l.take (z+1)) (i:Int)) mX iA hH AX zy zz FL oq.1 (λg hg=>by simp only[List.mem_cons,List.not_mem_nil,or_false] at hg;rcases hg with rfl|rfl;exact .inl aa;exact .inr (.inl aa)) (ct (show eK 116 [hb,hd] w1 56 (bG 56) from (fE.own 56 _ _ aa).new)) (λe=>absurd (fE.apart 56 232 (λh=>fi _ h) (λh=>fi _ h) (e.trans e0.symm)) dh) qF c1 iT;exact⟨[(6,.slice (some ⟨hb,0,none⟩) n n),(7,.slice (some ⟨hd,0,none⟩) n n),(32,.slice (some ⟨b0,ee,none⟩) E c),(33,.int .i64 (E:Int)),(34,.int .i64 ((z+1:Nat):Int))],⟨⟨_,_,aa,ai (λq=>Value.slice (some ⟨q,0,none⟩) n n) e0,aa⟩,⟨_,_,aa,ai (λq=>Value.slice (some ⟨q,0,none⟩) n n) e1,aa⟩,⟨_,_,aa,aa,aa⟩,⟨_,_,aa,aa,aa⟩,⟨_,_,aa,ai (λz=>Value.int .i64 z) (bM ae),aa⟩,aj⟩,z+1,hb,hd,hh.set t tv,_,ae,aa,aa,g1,zy,zz,c0,by rw[eF];exact zT,DA,g2⟩
   ·exact absurd (hT aa) dh
   ·refine wV aa ?_;refine VO.cond aa eH (wV aa ?_);refine VO.dQ aa [.val (.slice none 0 0)] aa (kJ hpk) (wV aa ?_);refine VO.xe (cu _ _) bW (t:=27) (e:=bF) (s:=55) (a:=(t:Int)) (cs:=[.int .i64 (t:Int)]) aa aa aa aa aa aa aa aa (cz aa) aa aa aa aa ae (λw9 cap Ar k9 b9 qB=>wV aa ?_);refine VO.cond aa eH (wV aa ?_);have jI:(cs.map AV.val).length=n:=by simp[hH.len]
    refine VO.cond aa (by rw[jI,aQ];show 0+f*1+1<=_;omega) ?_;refine VO.eU 233 aa ((bL (AV.row 56 0 (1) cap) (by rw[jI];exact DL))) (wV aa ?_);refine bT ?_;refine VS.iw aa (E-(z+1)) ae (λwq bG kq oq fE=> ?_);obtain⟨e0,c0⟩:=lN (fE.own 232 _ _ aa) 0 hb aa aa;obtain⟨e1,c1⟩:=lN (fE.own 233 _ _ aa) 1 hd aa aa;rw[aA] at c0;rw[gw] at c1
    have qF:bn IE 1 bF 0 wq (.slice (some ⟨bG 56,0,none⟩) (1) cap) (Gr.aL (l.take (z+1)) (f:Int)):=by
     rw[uA,jr];exact qB.uG bW (fE.own 56 _ _ aa) kq
    obtain⟨g1,g2⟩:=jH.done (rows':=λi=>Gr.aL (l.take (z+1)) (i:Int)) mX iA hH AX zy zz FL oq.1 (λg hg=>by simp only[List.mem_cons,List.not_mem_nil,or_false] at hg;rcases hg with rfl|rfl;exact .inl aa;exact .inr (.inl aa)) (ct (show eK 116 [hb,hd] w1 56 (bG 56) from (fE.own 56 _ _ aa).new)) (λe=>absurd (fE.apart 56 232 (λh=>fi _ h) (λh=>fi _ h) (e.trans e0.symm)) dh) qF c1 iT;exact⟨[(6,.slice (some ⟨hb,0,none⟩) n n),(7,.slice (some ⟨hd,0,none⟩) n n),(32,.slice (some ⟨b0,ee,none⟩) E c),(33,.int .i64 (E:Int)),(34,.int .i64 ((z+1:Nat):Int))],⟨⟨_,_,aa,ai (λq=>Value.slice (some ⟨q,0,none⟩) n n) e0,aa⟩,⟨_,_,aa,ai (λq=>Value.slice (some ⟨q,0,none⟩) n n) e1,aa⟩,⟨_,_,aa,aa,aa⟩,⟨_,_,aa,aa,aa⟩,⟨_,_,aa,ai (λz=>Value.int .i64 z) (bM ae),aa⟩,aj⟩,z+1,hb,hd,hh.set t tv,_,ae,aa,aa,g1,zy,zz,c0,by rw[eF];exact zT,DA,g2⟩
   ·refine wV aa ?_;refine VO.cond aa eH (wV aa ?_);refine VO.cond aa eH (wV aa ?_);refine VO.dQ aa [.val (.slice none 0 0)] aa (kJ hpk) (wV aa ?_);refine VO.xe (cu _ _) bW (t:=27) (e:=bF) (s:=55) (a:=(t:Int)) (cs:=[.int .i64 (t:Int)]) aa aa aa aa aa aa aa aa (cz aa) aa aa aa aa ae (λw9 cap Ar k9 b9 qB=>wV aa ?_);have jI:(cs.map AV.val).length=n:=by simp[hH.len]
    refine VO.cond aa (by rw[jI,aQ];show 0+f*1+1<=_;omega) ?_;refine VO.eU 233 aa ((bL (AV.row 56 0 (1) cap) (by rw[jI];exact DL))) (wV aa ?_);refine bT ?_;refine VS.iw aa (E-(z+1)) ae (λwq bG kq oq fE=> ?_);obtain⟨e0,c0⟩:=lN (fE.own 232 _ _ aa) 0 hb aa aa;obtain⟨e1,c1⟩:=lN (fE.own 233 _ _ aa) 1 hd aa aa;rw[aA] at c0;rw[gw] at c1
    have qF:bn IE 1 bF 0 wq (.slice (some ⟨bG 56,0,none⟩) (1) cap) (Gr.aL (l.take (z+1)) (f:Int)):=by
     rw[uA,jr];exact qB.uG bW (fE.own 56 _ _ aa) kq
    obtain⟨g1,g2⟩:=jH.done (rows':=λi=>Gr.aL (l.take (z+1)) (i:Int)) mX iA hH AX zy zz FL oq.1 (λg hg=>by simp only[List.mem_cons,List.not_mem_nil,or_false] at hg;rcases hg with rfl|rfl;exact .inl aa;exact .inr (.inl aa)) (ct (show eK 116 [hb,hd] w1 56 (bG 56) from (fE.own 56 _ _ aa).new)) (λe=>absurd (fE.apart 56 232 (λh=>fi _ h) (λh=>fi _ h) (e.trans e0.symm)) dh) qF c1 iT;exact⟨[(6,.slice (some ⟨hb,0,none⟩) n n),(7,.slice (some ⟨hd,0,none⟩) n n),(32,.slice (some ⟨b0,ee,none⟩) E c),(33,.int .i64 (E:Int)),(34,.int .i64 ((z+1:Nat):Int))],⟨⟨_,_,aa,ai (λq=>Value.slice (some ⟨q,0,none⟩) n n) e0,aa⟩,⟨_,_,aa,ai (λq=>Value.slice (some ⟨q,0,none⟩) n n) e1,aa⟩,⟨_,_,aa,aa,aa⟩,⟨_,_,aa,aa,aa⟩,⟨_,_,aa,ai (λz=>Value.int .i64 z) (bM ae),aa⟩,aj⟩,z+1,hb,hd,hh.set t tv,_,ae,aa,aa,g1,zy,zz,c0,by rw[eF];exact zT,DA,g2⟩
  ·have hbi:=mJ GY hH.row;have hbhb:b≠hb:=λe=>hH.nb f _ FL (by rw[e];rfl);have DC:=mH hbe hbo hble hbcm hbfl
   have Kh:kF (KU UU) 116 [hb,hd,b] [(bF,(dm hh).map .val),(Dx,((cs.map AV.val).set f (AV.row 234 0 (Gr.aL (l.take z) (f:Int)).length cb))),(bF,vs.flatten.map .val++sp.map .val)] W:=by
    refine⟨aa,by simp;exact⟨⟨hhd,λe=>hbhb e.symm⟩,λe=>hbi e.symm⟩,λj g c' hj hc'=> ?_,λc' hc'=> ?_,λc' hc' k hk=> ?_⟩
    ·match j,hj,hc' with
     | 0,hj,hc'=>cases hj;cases hc';rw[aA];exact AX
     | 1,hj,hc'=>cases hj;cases hc';rw[gw];show aI W hd Dx (cs.set f (.slice (some ⟨b,0,none⟩) _ cb)).toArray;rw[MY FL];exact hH.row
     | 2,hj,hc'=>cases hj;cases hc';rw[<-cT,aA];exact GY
     | j+3,hj,_=>simp at hj
    ·simp only[List.mem_cons,List.not_mem_nil,or_false] at hc';rcases hc' with rfl|rfl|rfl
     ·exact⟨aa,cO (vg _)⟩
     ·exact⟨aa,ok_set hH.ok⟩
     ·exact⟨aa,DC.ok bW⟩
    ·simp only[List.mem_cons,List.not_mem_nil,or_false] at hc';rcases hc' with rfl|rfl|rfl
     ·rw[aG] at hk;cases hk
     ·rw[Dy _ _ _ hk];exact⟨by show 232<=234;omega,by show 234<232+3;omega⟩
     ·rw[DC.dP] at hk;cases hk
   refine VS.mE (KU UU) (λt=>Nat.beq t 31) table (λ_ _ _=>trivial) (λw1 β1 k1 b1 en1=> ?_);have iA:ax W w1:=b1
   have Na:∀ (j:Nat) (u:Value),[Value.int .i64 (f:Int),.int .i64 (t:Int),.bool s0,.slice p0 n0 c0,.bool t0,.slice y0 m0 d0][j]? =some u->w1.cell? ⟨b0,ee+z*6+j,none⟩=some u:=λj u hj=>by
    rw[pa (w:=W) (jk iA _ (by have:=mX.size;show b0<_;omega))];exact ry j u hj
   replace DC:=DC.kp bW (Kp.of (U:=UU) iA);refine⟨_,_,Kh.aD iA,[(6,.row 232 0 n n),(7,.row 233 0 n n),(32,.val (.slice (some ⟨b0,ee,none⟩) E c)),(33,.val (.int .i64 (E:Int))),(34,.val (.int .i64 (z:Int)))],⟨⟨_,aa,aa,λi hi=>(by cases aH.1 hi;exact⟨by show 232<=232;omega,by show 232<232+3;omega⟩)⟩,⟨_,aa,aa,λi hi=>(by cases aH.1 hi;exact⟨by show 232<=233;omega,by show 233<232+3;omega⟩)⟩,⟨_,aa,aa,λi hi=>(by cases hi)⟩,⟨_,aa,aa,λi hi=>(by cases hi)⟩,⟨_,aa,aa,λi hi=>(by cases hi)⟩,aj⟩,?_⟩;refine bT ?_;refine VO.cond aa eH ?_;refine wV aa ?_;refine bT ?_;refine VO.qk aa [.int .i64 (f:Int),.int .i64 (t:Int),.bool s0,.slice p0 n0 c0,.bool t0,.slice y0 m0 d0] aa (tr (by simp;omega) (dk Na 0 _ ⟨[],aa⟩)) (wV aa ?_);refine bT ?_;refine VO.cond aa eH (wV aa ?_);refine VO.dQ aa [.val (.int .i64 (Gr.gF hh t))] aa (hcell t htn) (wV aa ?_);refine VO.fix 43 aa (ai (λz=>AV.val (.int .i64 z)) (htw)) ?_;refine VO.cond aa eH (wV aa ?_);refine VO.cond aa (by rw[hlen,aQ];show 0+t*1+1<=_;omega) ?_;refine VO.eU 232 aa Di (wV aa ?_)
   (repeat (first|refine wN ?_|refine wP aa ?_|refine wO aa aa ?_))
   refine VS.Hj (cu _ _) (lH _ _) [] [0] [1,2,12] [3,4,5,6,7,8,9,10] [13] 11 (by kernel_rfl) (λT=> ?_) (λT=> ?_)
   ·have hT:T.1 12=true->T.1 2=true:=T.2 12 bc 2 (qK.1 (by kernel_rfl)) bc;have DB:T.1 2=true->T.1 1=true:=T.2 2 bc 1 (qK.1 (by kernel_rfl)) bc;rw[AB];generalize T.1 1=t1 at DB ⊢;generalize T.1 2=t2 at hT DB ⊢;generalize T.1 12=t12 at hT ⊢;cases t1 <;> cases t2 <;> cases t12 <;> first|(exact absurd (hT aa) dh)|(exact absurd (DB aa) dh)|(show ur _ _ _ _ _ _=true;kernel_rfl)
   have hT:T.1 12=true->T.1 2=true:=T.2 12 bc 2 (qK.1 (by kernel_rfl)) bc;have DB:T.1 2=true->T.1 1=true:=T.2 2 bc 1 (qK.1 (by kernel_rfl)) bc;rw[AB];generalize T.1 1=t1 at DB ⊢;generalize T.1 2=t2 at hT DB ⊢;generalize T.1 12=t12 at hT ⊢
   have hpk:((cs.map AV.val).set f (AV.row 234 0 (Gr.aL (l.take z) (f:Int)).length cb))[f]? =some (AV.row 234 0 (Gr.aL (l.take z) (f:Int)).length cb):=by
    rw[qM,if_pos rfl,if_pos (by rw[cJ,hH.len];exact DL)]
   have lT:(((cs.map AV.val).set f (AV.row 234 0 (Gr.aL (l.take z) (f:Int)).length cb)):List AV).length=n:=by rw[eF,cJ,hH.len]
   cases t1 <;> cases t2 <;> cases t12
   ·refine wV aa ?_;refine VO.cond aa eH (wV aa ?_);refine VO.dQ aa [.row 234 0 (Gr.aL (l.take z) (f:Int)).length cb] aa (kJ hpk) (wV aa ?_);refine VO.rX (cu _ _) bW (t:=27) (e:=bF) (s:=55) (i:=234) (n:=(Gr.aL (l.take z) (f:Int)).length) (c:=cb) (vs:=vs) (sp:=sp.map .val) (es:=Gr.aL (l.take z) (f:Int)) (a:=(t:Int)) (cs:=[.int .i64 (t:Int)]) aa aa aa aa aa aa aa aa (cz aa) aa (.inl aa) aa DC aa aa (by have:=Gr.jG (l.take z) (f:Int);rw[aR] at this;omega) (λw9 cap Ar ρ k9 b9 dH qB=> ?_);refine VO.eU 233 aa (vm cs) ?_;refine VO.eU 232 aa (sk _) (wV aa ?_);refine VO.cond aa eH (wV aa ?_);have jI:((cs.map AV.val).set f ((AV.row 234 0 (Gr.aL (l.take z) (f:Int)).length cb).mi 234 ρ)).length=n:=by simp[hH.len]
    refine VO.cond aa (by rw[jI,aQ];show 0+f*1+1<=_;omega) ?_;refine VO.eU 233 aa ((bL (AV.row 56 0 ((Gr.aL (l.take z) (f:Int)).length+1) cap) (by rw[jI];exact DL)).trans (List.set_set ..)) (wV aa ?_);refine bT ?_;refine VS.iw aa (E-(z+1)) ae (λwq bG kq oq fE=> ?_);obtain⟨e0,c0⟩:=lN (fE.own 232 _ _ aa) 0 hb aa aa;obtain⟨e1,c1⟩:=lN (fE.own 233 _ _ aa) 1 hd aa aa;rw[aA] at c0;rw[gw] at c1
    have qF:bn IE 1 bF 0 wq (.slice (some ⟨bG 56,0,none⟩) ((Gr.aL (l.take z) (f:Int)).length+1) cap) (Gr.aL (l.take (z+1)) (f:Int)):=by
     rw[uA];exact qB.uG bW (fE.own 56 _ _ aa) kq
    obtain⟨g1,g2⟩:=jH.done (rows':=λi=>Gr.aL (l.take (z+1)) (i:Int)) mX iA hH AX zy zz FL oq.1 (λg hg=>by simp only[List.mem_cons,List.not_mem_nil,or_false] at hg;rcases hg with rfl|rfl|rfl;exact .inl aa;exact .inr (.inl aa);exact .inr (.inr aa)) (ct (show eK 116 [hb,hd,b] w1 56 (bG 56) from (fE.own 56 _ _ aa).new)) (λe=>absurd (fE.apart 56 232 (λh=>fi _ h) (λh=>fi _ h) (e.trans e0.symm)) dh) qF c1 iT;exact⟨[(6,.slice (some ⟨hb,0,none⟩) n n),(7,.slice (some ⟨hd,0,none⟩) n n),(32,.slice (some ⟨b0,ee,none⟩) E c),(33,.int .i64 (E:Int)),(34,.int .i64 ((z+1:Nat):Int))],⟨⟨_,_,aa,ai (λq=>Value.slice (some ⟨q,0,none⟩) n n) e0,aa⟩,⟨_,_,aa,ai (λq=>Value.slice (some ⟨q,0,none⟩) n n) e1,aa⟩,⟨_,_,aa,aa,aa⟩,⟨_,_,aa,aa,aa⟩,⟨_,_,aa,ai (λz=>Value.int .i64 z) (bM ae),aa⟩,aj⟩,z+1,hb,hd,hh.set t tv,_,ae,aa,aa,g1,zy,zz,c0,by rw[eF];exact zT,DA,g2⟩
   ·exact absurd (hT aa) dh
   ·exact absurd (DB aa) dh
   ·exact absurd (DB aa) dh
   ·refine wV aa ?_;refine VO.cond aa eH (wV aa ?_);refine VO.dQ aa [.row 234 0 (Gr.aL (l.take z) (f:Int)).length cb] aa (kJ hpk) (wV aa ?_);refine VO.rX (cu _ _) bW (t:=27) (e:=bF) (s:=55) (i:=234) (n:=(Gr.aL (l.take z) (f:Int)).length) (c:=cb) (vs:=vs) (sp:=sp.map .val) (es:=Gr.aL (l.take z) (f:Int)) (a:=(t:Int)) (cs:=[.int .i64 (t:Int)]) aa aa aa aa aa aa aa aa (cz aa) aa (.inl aa) aa DC aa aa (by have:=Gr.jG (l.take z) (f:Int);rw[aR] at this;omega) (λw9 cap Ar ρ k9 b9 dH qB=> ?_);refine VO.eU 233 aa (vm cs) ?_;refine VO.eU 232 aa (sk _) (wV aa ?_);refine VO.cond aa eH (wV aa ?_);have jI:((cs.map AV.val).set f ((AV.row 234 0 (Gr.aL (l.take z) (f:Int)).length cb).mi 234 ρ)).length=n:=by simp[hH.len]
    refine VO.cond aa (by rw[jI,aQ];show 0+f*1+1<=_;omega) ?_;refine VO.eU 233 aa ((bL (AV.row 56 0 ((Gr.aL (l.take z) (f:Int)).length+1) cap) (by rw[jI];exact DL)).trans (List.set_set ..)) (wV aa ?_);refine bT ?_;refine VS.iw aa (E-(z+1)) ae (λwq bG kq oq fE=> ?_);obtain⟨e0,c0⟩:=lN (fE.own 232 _ _ aa) 0 hb aa aa;obtain⟨e1,c1⟩:=lN (fE.own 233 _ _ aa) 1 hd aa aa;rw[aA] at c0;rw[gw] at c1
    have qF:bn IE 1 bF 0 wq (.slice (some ⟨bG 56,0,none⟩) ((Gr.aL (l.take z) (f:Int)).length+1) cap) (Gr.aL (l.take (z+1)) (f:Int)):=by
     rw[uA];exact qB.uG bW (fE.own 56 _ _ aa) kq
    obtain⟨g1,g2⟩:=jH.done (rows':=λi=>Gr.aL (l.take (z+1)) (i:Int)) mX iA hH AX zy zz FL oq.1 (λg hg=>by simp only[List.mem_cons,List.not_mem_nil,or_false] at hg;rcases hg with rfl|rfl|rfl;exact .inl aa;exact .inr (.inl aa);exact .inr (.inr aa)) (ct (show eK 116 [hb,hd,b] w1 56 (bG 56) from (fE.own 56 _ _ aa).new)) (λe=>absurd (fE.apart 56 232 (λh=>fi _ h) (λh=>fi _ h) (e.trans e0.symm)) dh) qF c1 iT;exact⟨[(6,.slice (some ⟨hb,0,none⟩) n n),(7,.slice (some ⟨hd,0,none⟩) n n),(32,.slice (some ⟨b0,ee,none⟩) E c),(33,.int .i64 (E:Int)),(34,.int .i64 ((z+1:Nat):Int))],⟨⟨_,_,aa,ai (λq=>Value.slice (some ⟨q,0,none⟩) n n) e0,aa⟩,⟨_,_,aa,ai (λq=>Value.slice (some ⟨q,0,none⟩) n n) e1,aa⟩,⟨_,_,aa,aa,aa⟩,⟨_,_,aa,aa,aa⟩,⟨_,_,aa,ai (λz=>Value.int .i64 z) (bM ae),aa⟩,aj⟩,z+1,hb,hd,hh.set t tv,_,ae,aa,aa,g1,zy,zz,c0,by rw[eF];exact zT,DA,g2⟩
   ·exact absurd (hT aa) dh
   ·refine wV aa ?_;refine VO.cond aa eH (wV aa ?_);refine VO.dQ aa [.row 234 0 (Gr.aL (l.take z) (f:Int)).length cb] aa (kJ hpk) (wV aa ?_);refine VO.rX (cu _ _) bW (t:=27) (e:=bF) (s:=55) (i:=234) (n:=(Gr.aL (l.take z) (f:Int)).length) (c:=cb) (vs:=vs) (sp:=sp.map .val) (es:=Gr.aL (l.take z) (f:Int)) (a:=(t:Int)) (cs:=[.int .i64 (t:Int)]) aa aa aa aa aa aa aa aa (cz aa) aa (.inl aa) aa DC aa aa (by have:=Gr.jG (l.take z) (f:Int);rw[aR] at this;omega) (λw9 cap Ar ρ k9 b9 dH qB=> ?_);refine VO.eU 233 aa (vm cs) ?_;refine VO.eU 232 aa (sk _) (wV aa ?_);refine VO.cond aa eH (wV aa ?_);have jI:((cs.map AV.val).set f ((AV.row 234 0 (Gr.aL (l.take z) (f:Int)).length cb).mi 234 ρ)).length=n:=by simp[hH.len]
    refine VO.cond aa (by rw[jI,aQ];show 0+f*1+1<=_;omega) ?_;refine VO.eU 233 aa ((bL (AV.row 56 0 ((Gr.aL (l.take z) (f:Int)).length+1) cap) (by rw[jI];exact DL)).trans (List.set_set ..)) (wV aa ?_);refine bT ?_;refine VS.iw aa (E-(z+1)) ae (λwq bG kq oq fE=> ?_);obtain⟨e0,c0⟩:=lN (fE.own 232 _ _ aa) 0 hb aa aa;obtain⟨e1,c1⟩:=lN (fE.own 233 _ _ aa) 1 hd aa aa;rw[aA] at c0;rw[gw] at c1
    have qF:bn IE 1 bF 0 wq (.slice (some ⟨bG 56,0,none⟩) ((Gr.aL (l.take z) (f:Int)).length+1) cap) (Gr.aL (l.take (z+1)) (f:Int)):=by
     rw[uA];exact qB.uG bW (fE.own 56 _ _ aa) kq
    obtain⟨g1,g2⟩:=jH.done (rows':=λi=>Gr.aL (l.take (z+1)) (i:Int)) mX iA hH AX zy zz FL oq.1 (λg hg=>by simp only[List.mem_cons,List.not_mem_nil,or_false] at hg;rcases hg with rfl|rfl|rfl;exact .inl aa;exact .inr (.inl aa);exact .inr (.inr aa)) (ct (show eK 116 [hb,hd,b] w1 56 (bG 56) from (fE.own 56 _ _ aa).new)) (λe=>absurd (fE.apart 56 232 (λh=>fi _ h) (λh=>fi _ h) (e.trans e0.symm)) dh) qF c1 iT;exact⟨[(6,.slice (some ⟨hb,0,none⟩) n n),(7,.slice (some ⟨hd,0,none⟩) n n),(32,.slice (some ⟨b0,ee,none⟩) E c),(33,.int .i64 (E:Int)),(34,.int .i64 ((z+1:Nat):Int))],⟨⟨_,_,aa,ai (λq=>Value.slice (some ⟨q,0,none⟩) n n) e0,aa⟩,⟨_,_,aa,ai (λq=>Value.slice (some ⟨q,0,none⟩) n n) e1,aa⟩,⟨_,_,aa,aa,aa⟩,⟨_,_,aa,aa,aa⟩,⟨_,_,aa,ai (λz=>Value.int .i64 z) (bM ae),aa⟩,aj⟩,z+1,hb,hd,hh.set t tv,_,ae,aa,aa,g1,zy,zz,c0,by rw[eF];exact zT,DA,g2⟩
   ·refine wV aa ?_;refine VO.cond aa eH (wV aa ?_);refine VO.cond aa eH (wV aa ?_);refine VO.dQ aa [.row 234 0 (Gr.aL (l.take z) (f:Int)).length cb] aa (kJ hpk) (wV aa ?_);refine VO.rX (cu _ _) bW (t:=27) (e:=bF) (s:=55) (i:=234) (n:=(Gr.aL (l.take z) (f:Int)).length) (c:=cb) (vs:=vs) (sp:=sp.map .val) (es:=Gr.aL (l.take z) (f:Int)) (a:=(t:Int)) (cs:=[.int .i64 (t:Int)]) aa aa aa aa aa aa aa aa (cz aa) aa (.inl aa) aa DC aa aa (by have:=Gr.jG (l.take z) (f:Int);rw[aR] at this;omega) (λw9 cap Ar ρ k9 b9 dH qB=> ?_);refine VO.eU 233 aa (vm cs) ?_;refine VO.eU 232 aa (sk _) (wV aa ?_);have jI:((cs.map AV.val).set f ((AV.row 234 0 (Gr.aL (l.take z) (f:Int)).length cb).mi 234 ρ)).length=n:=by simp[hH.len]
    refine VO.cond aa (by rw[jI,aQ];show 0+f*1+1<=_;omega) ?_;refine VO.eU 233 aa ((bL (AV.row 56 0 ((Gr.aL (l.take z) (f:Int)).length+1) cap) (by rw[jI];exact DL)).trans (List.set_set ..)) (wV aa ?_);refine bT ?_;refine VS.iw aa (E-(z+1)) ae (λwq bG kq oq fE=> ?_);obtain⟨e0,c0⟩:=lN (fE.own 232 _ _ aa) 0 hb aa aa;obtain⟨e1,c1⟩:=lN (fE.own 233 _ _ aa) 1 hd aa aa;rw[aA] at c0;rw[gw] at c1
    have qF:bn IE 1 bF 0 wq (.slice (some ⟨bG 56,0,none⟩) ((Gr.aL (l.take z) (f:Int)).length+1) cap) (Gr.aL (l.take (z+1)) (f:Int)):=by
     rw[uA];exact qB.uG bW (fE.own 56 _ _ aa) kq
    obtain⟨g1,g2⟩:=jH.done (rows':=λi=>Gr.aL (l.take (z+1)) (i:Int)) mX iA hH AX zy zz FL oq.1 (λg hg=>by simp only[List.mem_cons,List.not_mem_nil,or_false] at hg;rcases hg with rfl|rfl|rfl;exact .inl aa;exact .inr (.inl aa);exact .inr (.inr aa)) (ct (show eK 116 [hb,hd,b] w1 56 (bG 56) from (fE.own 56 _ _ aa).new)) (λe=>absurd (fE.apart 56 232 (λh=>fi _ h) (λh=>fi _ h) (e.trans e0.symm)) dh) qF c1 iT;exact⟨[(6,.slice (some ⟨hb,0,none⟩) n n),(7,.slice (some ⟨hd,0,none⟩) n n),(32,.slice (some ⟨b0,ee,none⟩) E c),(33,.int .i64 (E:Int)),(34,.int .i64 ((z+1:Nat):Int))],⟨⟨_,_,aa,ai (λq=>Value.slice (some ⟨q,0,none⟩) n n) e0,aa⟩,⟨_,_,aa,ai (λq=>Value.slice (some ⟨q,0,none⟩) n n) e1,aa⟩,⟨_,_,aa,aa,aa⟩,⟨_,_,aa,aa,aa⟩,⟨_,_,aa,ai (λz=>Value.int .i64 z) (bM ae),aa⟩,aj⟩,z+1,hb,hd,hh.set t tv,_,ae,aa,aa,g1,zy,zz,c0,by rw[eF];exact zT,DA,g2⟩
 refine VS.cd aa (bo (λe=>xX (cf.1 e))) ?_;obtain rfl:z=E:=ae;have htk:l.take z=l:=du (by rw[hl,dy];omega);rw[htk] at hhc;simp only[htk] at hH;obtain⟨rows,iT⟩:∃ rows:Nat->List Int,rows=λi:Nat=>Gr.aL l (i:Int):=⟨_,aa⟩;rw[<-iT] at hH;have hhN:∀ v:Nat,v<n->Gr.gF hh v=(Gr.oy l (v:Int):Int)/\Gr.oy l (v:Int)<=4096:=λv hv=>⟨hhc v hv,by have:=Gr.Dw l (v:Int);have h2:l.length=es.length:=(by rw[hl,dy]);omega⟩;clear xX hsW hs xH;refine af ?_
 refine VS.uq (J:=λm L W=>∃ (i p:Nat) (sv:Value) (xs:List Int),i<=n/\m=n-i/\L=[(6,.slice (some ⟨hb,0,none⟩) n n),(7,.slice (some ⟨hd,0,none⟩) n n),(10,.pointer (some ⟨p,0,none⟩)),(61,.slice (some ⟨hb,0,none⟩) n n),(62,.int .i64 (n:Int)),(63,.int .i64 (i:Int))]/\ax w W/\iU W w.heap.size hb hd p hh cs rows n sv xs (.slice none 0 0) []/\xs.length<=i/\xs.Nodup/\∀ y,y∈xs↔∃ v:Nat,y=(v:Int)/\v<i/\Gr.gF hh v=0)
  (λW=>bD Tryz.prog W 116) (λ_=>rfl) (λ_=>rfl) (λ_=>ax.refl _) n (λw' β k o en=>⟨[(6,.slice (some ⟨hb,0,none⟩) n n),(7,.slice (some ⟨hd,0,none⟩) n n),(10,.pointer (some ⟨β 60,0,none⟩)),(61,.slice (some ⟨hb,0,none⟩) n n),(62,.int .i64 (n:Int)),(63,.int .i64 ((0:Nat):Int))],⟨⟨_,_,rfl,rfl,rfl⟩,⟨_,_,rfl,rfl,rfl⟩,⟨_,_,rfl,rfl,rfl⟩,⟨_,_,rfl,rfl,rfl⟩,⟨_,_,rfl,rfl,rfl⟩,⟨_,_,rfl,rfl,rfl⟩,aj⟩,0,β 60,.slice (some ⟨β 59,0,none⟩) 0 0,[],cD _,rfl,rfl,mX.aB o,?_,aM _,List.nodup_nil,λy=>⟨λh=>(by cases h),λ⟨v,_,h,_⟩=>ae⟩⟩) ?_
 ·have hWs:=mX.size;have h59:W.heap.size<=β 59:=(en.own 59 _ _ aa).new;have h60:W.heap.size<=β 60:=(en.own 60 _ _ aa).new;refine⟨hH.but (fq.of (ad:=[]) o) bc bc,AX.aD o,(en.own 60 _ _ aa).cls,.inr ⟨β 59,0,[],[],aa,ae,(en.own 59 _ _ aa).cls,.nil,aa,aM _,dh,aa⟩,λk _ hk=>(by simp at hk),.inl ⟨aa,aa⟩,zy,zz,ae,λb sw=> ?_,λb sw=>by cases sw⟩;obtain rfl:β 59=b:=pj sw;refine⟨ae,λe=> ?_,λi v hi hv=> ?_⟩
  ·have:=AX.lt;omega
  ·have:=(AD hH hi hv).2.1;omega
 clear mX AX hH zy zz;rintro m L W ⟨i,q,sv,xs,hi,rfl,rfl,mX,hO,dv,xC,wE⟩;refine af ?_;by_cases hin2:i<n
 ·refine VS.bJ aa (aU (cf.2 hin2)) ?_;refine af ?_;refine VO.cond aa eH ?_;refine wV aa ?_;refine af ?_;refine VO.read aa [.int .i64 (Gr.gF hh i)] aa (λk u hk=> ?_) (wV aa ?_)
  ·rw[Addr.add_mid,aQ,cC,eM];cases k with
   | zero=>
     cases hk;refine hO.FM.cell ?_;have:=oT (xs:=hh) (i:=i) ae [];rw[dS] at this;simpa using this
   | succ k=>simp at hk
  refine af ?_;by_cases h0:Gr.gF hh i=0
  ·refine VS.bJ aa (show (Gr.gF hh i == 0)=true by simpa using h0) ?_
   (repeat (first|refine wN ?_|refine wP aa ?_|refine wO aa aa ?_))
   refine VS.eb (bQ _ _) 4 aa (wV aa (wN ?_));refine⟨_,λW=>bD Tryz.prog W 116,aa,λ_=>aa,λ_=>aa,λ_=>ax.refl _,λw3 β k3 b3 en=>⟨fk Tryz.func24,(show Calls _ _ #[xr q,.iface bF (.int .i64 (i:Int))] w3 _ from zx q sv xs (i:Int) w3 (hO.aD b3).box ((hO.aD b3).row.mono (cD _)) ae hO.heap).mono ?_⟩⟩;rintro e w4 ⟨rfl,hw4⟩;refine⟨_,[(6,.slice (some ⟨hb,0,none⟩) n n),(7,.slice (some ⟨hd,0,none⟩) n n),(10,.pointer (some ⟨q,0,none⟩)),(61,.slice (some ⟨hb,0,none⟩) n n),(62,.int .i64 (n:Int)),(63,.int .i64 (i:Int))],aa,⟨⟨_,_,aa,aa,aa⟩,⟨_,_,aa,aa,aa⟩,⟨_,_,aa,aa,aa⟩,⟨_,_,aa,aa,aa⟩,⟨_,_,aa,aa,aa⟩,⟨_,_,aa,aa,aa⟩,aj⟩,λp hp=>(by simp at hp;rcases hp with rfl|rfl|rfl|rfl|rfl|rfl <;> exact λe=>(by cases e)),?_⟩;obtain⟨Dv,xs',hO',hP',hB'⟩:=(hO.aD b3).waits hw4 (mX.aB b3) (aM _);refine af ?_;refine VS.iw aa (n-(i+1)) ae (λwq bG kq oq fE=>⟨[(6,.slice (some ⟨hb,0,none⟩) n n),(7,.slice (some ⟨hd,0,none⟩) n n),(10,.pointer (some ⟨q,0,none⟩)),(61,.slice (some ⟨hb,0,none⟩) n n),(62,.int .i64 (n:Int)),(63,.int .i64 ((i+1:Nat):Int))],⟨⟨_,_,aa,aa,aa⟩,⟨_,_,aa,aa,aa⟩,⟨_,_,aa,aa,aa⟩,⟨_,_,aa,aa,aa⟩,⟨_,_,aa,aa,aa⟩,⟨_,_,aa,ai (λz=>Value.int .i64 z) (bM ae),aa⟩,aj⟩,i+1,q,Dv,xs',ae,aa,aa,hB'.aB oq,hO'.aD oq,by rw[hP'.length_eq,ji];omega,hP'.nodup_iff.2 (ym.2 ⟨λhm=> ?_,xC⟩),λy=> ?_⟩)
   ·obtain⟨v,e,hv,_⟩:=(wE _).1 hm;omega
   ·rw[hP'.mem_iff,fj,wE];constructor
    ·rintro (rfl|⟨v,rfl,h1,h2⟩)
     ·exact⟨i,aa,ae,h0⟩
     ·exact⟨v,aa,ae,h2⟩
    ·rintro⟨v,rfl,h1,h2⟩;by_cases e:v=i
     ·subst e;exact .inl aa
     ·exact .inr ⟨v,aa,ae,h2⟩
  ·refine VS.cd aa (show (Gr.gF hh i == 0)=false by simpa using h0) ?_;refine af ?_;refine VS.iw aa (n-(i+1)) ae (λwq bG kq oq fE=>⟨[(6,.slice (some ⟨hb,0,none⟩) n n),(7,.slice (some ⟨hd,0,none⟩) n n),(10,.pointer (some ⟨q,0,none⟩)),(61,.slice (some ⟨hb,0,none⟩) n n),(62,.int .i64 (n:Int)),(63,.int .i64 ((i+1:Nat):Int))],⟨⟨_,_,aa,aa,aa⟩,⟨_,_,aa,aa,aa⟩,⟨_,_,aa,aa,aa⟩,⟨_,_,aa,aa,aa⟩,⟨_,_,aa,aa,aa⟩,⟨_,_,aa,ai (λz=>Value.int .i64 z) (bM ae),aa⟩,aj⟩,i+1,q,sv,xs,ae,aa,aa,mX.aB oq,hO.aD oq,ae,xC,λy=> ?_⟩);rw[wE];constructor
   ·rintro⟨v,rfl,h1,h2⟩;exact⟨v,aa,ae,h2⟩
   ·rintro⟨v,rfl,h1,h2⟩;refine⟨v,aa,?_,h2⟩;have:v≠i:=λe=>h0 (e▸h2);omega
 refine VS.cd aa (bo (λe=>hin2 (cf.1 e))) ?_;obtain rfl:i=n:=ae;have hK0:Gr.KI l i [] hh xs []:=Gr.KI.start zT hhc xC wE;clear wE xC dv hin2;obtain⟨n,hni⟩:∃ n,n=i:=⟨_,aa⟩;subst hni;clear hhc hhN hi;refine af ?_
 refine VS.uq (J:=λm L W=>∃ (hh:List Int) (sv:Value) (xs:List Int) (ov:Value) (out:List Nat),m=n-out.length/\L=[(6,.slice (some ⟨hb,0,none⟩) n n),(7,.slice (some ⟨hd,0,none⟩) n n),(10,.pointer (some ⟨q,0,none⟩)),(13,ov)]/\ax w W/\iU W w.heap.size hb hd q hh cs rows n sv xs ov (out.map λv:Nat=>(v:Int))/\Gr.KI l n out hh xs [])
  (λW=>bD Tryz.prog W 116) (λ_=>rfl) (λ_=>rfl) (λ_=>ax.refl _) n (λw' β k o en=>⟨[(6,.slice (some ⟨hb,0,none⟩) n n),(7,.slice (some ⟨hd,0,none⟩) n n),(10,.pointer (some ⟨q,0,none⟩)),(13,.slice none 0 0)],⟨⟨_,_,rfl,rfl,rfl⟩,⟨_,_,rfl,rfl,rfl⟩,⟨_,_,rfl,rfl,rfl⟩,⟨_,_,rfl,rfl,rfl⟩,aj⟩,hh,sv,xs,_,[],rfl,rfl,mX.aB o,hO.aD o,hK0⟩) ?_
 clear hK0 hO mX zT;rintro m L W ⟨hh,sv,xs,ov,out,rfl,rfl,mX,hO,hK⟩;have hfew:=hK.GN;obtain⟨ps,cq,rfl⟩:=hO.row.form;refine af ?_;refine VO.read aa [.slice ps xs.length cq] aa (λk u hk=> ?_) (wV aa ?_)
 ·rw[Addr.add_mid,cC];cases k with
  | zero=>cases hk;exact hO.box.cell aa
  | succ k=>simp at hk
 refine VO.cB aa aa (fk Tryz.func25) (λwa ka ba=>xu ps xs.length cq wa) (λwa ka ba w2 bO k2 _ b2=>wV aa ?_);refine af ?_;by_cases mR:xs=[]
 ·subst mR;refine VS.cd aa (bo bc) ?_;refine af ?_;refine bH ?_;intro wz kz bz;have hdone:=hK.done;refine .inr ⟨q3,ov,aa,?_,mX.aB bz⟩;have:=(hO.aD bz).out;rw[hdone,hl] at this
  rwa [aQ]
 refine VS.bJ aa (aU (by have:=Ba.2 mR;omega)) ?_;have hO2:=hO.aD b2;have hB2:ax w w2:=mX.aB b2
 (repeat (first|refine wN ?_|refine wP aa ?_|refine wO aa aa ?_))
 refine VS.gS (bQ _ _) (λW=>bD Tryz.prog W 116) (λ_=>aa) (λ_=>aa) (λ_=>ax.refl _) (λW=>bQ W 116) 2 aa (wV aa (wN ?_));refine⟨_,aa,λw7 β k7 b7 en=>⟨fk Tryz.func26,(show Calls _ _ #[xr q] w7 _ from MV q _ xs w7 (hO.aD b7).box ((hO.aD b7).row.mono (cD _)) mR ae hO.heap).mono ?_⟩⟩;rintro e w8 ⟨x,ys,rfl,hmin,hperm,hw8⟩;refine⟨_,[(6,.slice (some ⟨hb,0,none⟩) n n),(7,.slice (some ⟨hd,0,none⟩) n n),(10,.pointer (some ⟨q,0,none⟩)),(13,ov)],aa,⟨⟨_,_,aa,aa,aa⟩,⟨_,_,aa,aa,aa⟩,⟨_,_,aa,aa,aa⟩,⟨_,_,aa,aa,aa⟩,aj⟩,λp hp=>(by simp at hp;rcases hp with rfl|rfl|rfl|rfl <;> exact λe=>(by cases e)),wV aa (wN ?_)⟩;obtain⟨u,rfl,hun,hlt,hK8⟩:=hK.pop (λe he=>⟨(tL e he).2.2.1,(tL e he).2.2.2⟩) hmin hperm;obtain⟨sv8,xs8,hO8,hP8,hB8⟩:=(hO.aD b7).waits hw8 (mX.aB b7) (aM _);replace hK8:=hK8.perm hP8.symm;clear hK hO hO2 hB2 hperm hmin hw8 mR hfew hP8 bO b2 k2 b7 k7 en
 (repeat (first|refine wN ?_|refine wP aa ?_|refine wO aa aa ?_))
 apply VS.hopC (λW=>bD Tryz.prog W 116) (λF' W'=>∃ ov':Value,F'=Fr.of [(6,.val (.slice (some ⟨hb,0,none⟩) n n)),(7,.val (.slice (some ⟨hd,0,none⟩) n n)),(10,.val (.pointer (some ⟨q,0,none⟩))),(13,.val ov'),(14,.val (.int .i64 (u:Int)))]/\ax w W'/\iU W' w.heap.size hb hd q hh cs rows n sv8 xs8 ov' ((out++[u]).map λv:Nat=>(v:Int)))
 ·intro fin;have Fp:(out++[u]).map (λv:Nat=>(v:Int))=out.map (λv:Nat=>(v:Int))++[(u:Int)]:=by rw[cT];rfl
  have hol:(out.map λv:Nat=>(v:Int)).length=out.length:=cJ _;obtain⟨os,hos⟩:∃ os,os=out.map λv:Nat=>(v:Int):=⟨_,aa⟩;rw[<-hos] at hO8 Fp hol;clear hos;have hout:=hO8.out;rcases hout with ⟨rfl,jr⟩|⟨b,co,vs,sp,rfl,hbG,GY,hbe,hbo,hble,hbcm,hbfl⟩
  ·refine VS.mE (KU UU) (λt=>Nat.beq t 31) table (λ_ _ _=>trivial) (λw1 β1 k1 b1 en1=> ?_);have Kh:kF (KU UU) 116 [] [] w1:=⟨aa,List.nodup_nil,λj g c hj=>(by simp at hj),λc hc=>(by cases hc),λc hc=>(by cases hc)⟩;refine⟨_,_,Kh,[(6,.val (.slice (some ⟨hb,0,none⟩) n n)),(7,.val (.slice (some ⟨hd,0,none⟩) n n)),(10,.val (.pointer (some ⟨q,0,none⟩))),(13,.val (.slice none 0 0)),(14,.val (.int .i64 (u:Int)))],⟨⟨_,aa,aa,λi hi=>(by cases hi)⟩,⟨_,aa,aa,λi hi=>(by cases hi)⟩,⟨_,aa,aa,λi hi=>(by cases hi)⟩,⟨_,aa,aa,λi hi=>(by cases hi)⟩,⟨_,aa,aa,λi hi=>(by cases hi)⟩,aj⟩,?_⟩;refine bT ?_;refine VO.xe (cu _ _) bW (t:=27) (e:=bF) (s:=87) (a:=(u:Int)) (cs:=[.int .i64 (u:Int)]) aa aa aa aa aa aa aa aa (cz aa) aa aa aa aa ae (λw9 cap Ar k9 b9 qB=>wV aa ?_)
   (repeat (first|refine wN ?_|refine wP aa ?_|refine wO aa aa ?_))
   refine VS.Mo (λw=>bD Tryz.prog w 116) (λ_=>aa) (λ_=>aa) (λ_=>ax.refl _) (λwq bG kq oq fE=>⟨[(6,.val (.slice (some ⟨hb,0,none⟩) n n)),(7,.val (.slice (some ⟨hd,0,none⟩) n n)),(10,.val (.pointer (some ⟨q,0,none⟩))),(13,.val (.slice (some ⟨bG 88,0,none⟩) 1 cap)),(14,.val (.int .i64 (u:Int)))],⟨⟨_,_,aa,aa,aa⟩,⟨_,_,aa,aa,aa⟩,⟨_,_,aa,aa,aa⟩,⟨_,_,aa,aa,aa⟩,⟨_,_,aa,aa,aa⟩,aj⟩,fin _ _ ⟨.slice (some ⟨bG 88,0,none⟩) 1 cap,aa,fq.aD (hB8.aB b1) oq.1 bc,?_⟩⟩);rw[Fp,jr];refine (hO8.aD b1).comes oq.1 bc (qB.uG bW (fE.own 88 _ _ aa) kq) λb sw=> ?_;obtain rfl:bG 88=b:=pj sw;exact .inl ((ct (show eK 116 [] w1 88 (bG 88) from (fE.own 88 _ _ aa).new)).resolve_right bc)
  ·have DC:=mH hbe hbo hble hbcm hbfl
   have Kh:kF (KU UU) 116 [b] [(bF,vs.flatten.map .val++sp.map .val)] w8:=by
    refine⟨aa,bc,λj g c' hj hc'=> ?_,λc' hc'=> ?_,λc' hc' k hk=> ?_⟩
    ·match j,hj,hc' with
     | 0,hj,hc'=>cases hj;cases hc';rw[<-cT,aA];exact GY
     | j+1,hj,_=>simp at hj
    ·cases aH.1 hc';exact⟨aa,DC.ok bW⟩
    ·cases aH.1 hc';rw[DC.dP] at hk;cases hk
   refine VS.mE (KU UU) (λt=>Nat.beq t 31) table (λ_ _ _=>trivial) (λw1 β1 k1 b1 en1=> ?_);have iA:ax w8 w1:=b1;replace DC:=DC.kp bW (Kp.of (U:=UU) iA);refine⟨_,_,Kh.aD iA,[(6,.val (.slice (some ⟨hb,0,none⟩) n n)),(7,.val (.slice (some ⟨hd,0,none⟩) n n)),(10,.val (.pointer (some ⟨q,0,none⟩))),(13,.row 232 0 os.length co),(14,.val (.int .i64 (u:Int)))],⟨⟨_,aa,aa,λi hi=>(by cases hi)⟩,⟨_,aa,aa,λi hi=>(by cases hi)⟩,⟨_,aa,aa,λi hi=>(by cases hi)⟩,⟨_,aa,aa,λi hi=>(by cases aH.1 hi;exact⟨by show 232<=232;omega,by show 232<232+1;omega⟩)⟩,⟨_,aa,aa,λi hi=>(by cases hi)⟩,aj⟩,?_⟩;refine bT ?_;refine VO.rX (cu _ _) bW (t:=27) (e:=bF) (s:=87) (i:=232) (n:=os.length) (c:=co) (vs:=vs) (sp:=sp.map .val) (es:=os) (a:=(u:Int)) (cs:=[.int .i64 (u:Int)]) aa aa aa aa aa aa aa aa (cz aa) aa (.inl aa) aa DC aa aa ae (λw9 cap Ar ρ k9 b9 dH qB=>wV aa ?_)
   (repeat (first|refine wN ?_|refine wP aa ?_|refine wO aa aa ?_))
   refine VS.Mo (λw=>bD Tryz.prog w 116) (λ_=>aa) (λ_=>aa) (λ_=>ax.refl _) (λwq bG kq oq fE=>⟨[(6,.val (.slice (some ⟨hb,0,none⟩) n n)),(7,.val (.slice (some ⟨hd,0,none⟩) n n)),(10,.val (.pointer (some ⟨q,0,none⟩))),(13,.val (.slice (some ⟨bG 88,0,none⟩) (os.length+1) cap)),(14,.val (.int .i64 (u:Int)))],⟨⟨_,_,aa,aa,aa⟩,⟨_,_,aa,aa,aa⟩,⟨_,_,aa,aa,aa⟩,⟨_,_,aa,aa,aa⟩,⟨_,_,aa,aa,aa⟩,aj⟩,fin _ _ ⟨.slice (some ⟨bG 88,0,none⟩) (os.length+1) cap,aa,fq.aD (hB8.aB b1) oq.1 (λg hg=>by rw[aH.1 hg];exact hbG),?_⟩⟩);rw[Fp];refine (hO8.aD b1).comes oq.1 (λg hg=>by rw[aH.1 hg];rfl) (qB.uG bW (fE.own 88 _ _ aa) kq) λb' sw=> ?_;obtain rfl:bG 88=b':=pj sw;rcases ct (show eK 116 [b] w1 88 (bG 88) from (fE.own 88 _ _ aa).new) with h|h
   ·exact .inl h
   ·exact .inr (by rw[aH.1 h];rfl)
 rintro F' W9 ⟨ov9,rfl,hB9,hO9⟩;clear hO8 hB8;obtain⟨vu,hvu⟩:∃ vu,cs[u]? =some vu:=⟨_,aZ (by rw[hO9.Dz.len];omega)⟩;have JZ:=hO9.Dz.new u vu hvu
 have hrl:(rows u).length<=4096:=by
  rw[iT];have:=Gr.jG l (u:Int);have h2:l.length=es.length:=(by rw[hl,dy]);show (Gr.aL l (u:Int)).length<=_;omega
 have hru0:Gr.aL l (u:Int)=rows u:=by rw[iT]
 rw[hru0] at hK8;obtain⟨k,hk⟩:∃ k,k=(rows u).length:=⟨_,aa⟩;obtain⟨pv,cv,rfl⟩:=JZ.form;rw[<-hk] at JZ hvu hrl;refine af ?_;refine VO.cond aa eH ?_;refine wV aa ?_;refine af ?_;refine VO.read aa [.slice pv k cv] aa (λj x hj=> ?_) (wV aa ?_)
 ·rw[Addr.add_mid,aQ,cC,eM];cases j with
  | zero=>cases hj;exact hO9.Dz.row.cell (by simpa using hvu)
  | succ j=>simp at hj
 refine af ?_
 refine VS.uq (J:=λm L W=>∃ (j:Nat) (hh:List Int) (sv:Value) (xs:List Int),j<=k/\m=k-j/\L=[(6,.slice (some ⟨hb,0,none⟩) n n),(7,.slice (some ⟨hd,0,none⟩) n n),(10,.pointer (some ⟨q,0,none⟩)),(13,ov9),(92,.slice pv k cv),(93,.int .i64 (k:Int)),(94,.int .i64 (j:Int))]/\ax w W/\iU W w.heap.size hb hd q hh cs rows n sv xs ov9 ((out++[u]).map λv:Nat=>(v:Int))/\Gr.KI l n (out++[u]) hh xs ((rows u).drop j))
  (λW=>bD Tryz.prog W 116) (λ_=>rfl) (λ_=>rfl) (λ_=>ax.refl _) k (λw' β k' o en=>⟨[(6,.slice (some ⟨hb,0,none⟩) n n),(7,.slice (some ⟨hd,0,none⟩) n n),(10,.pointer (some ⟨q,0,none⟩)),(13,ov9),(92,.slice pv k cv),(93,.int .i64 (k:Int)),(94,.int .i64 ((0:Nat):Int))],⟨⟨_,_,rfl,rfl,rfl⟩,⟨_,_,rfl,rfl,rfl⟩,⟨_,_,rfl,rfl,rfl⟩,⟨_,_,rfl,rfl,rfl⟩,⟨_,_,rfl,rfl,rfl⟩,⟨_,_,rfl,rfl,rfl⟩,⟨_,_,rfl,rfl,rfl⟩,aj⟩,0,hh,sv8,xs8,cD _,rfl,rfl,hB9.aB o,hO9.aD o,by rw[Bi];exact hK8⟩) ?_
 clear hO9 hB9 hK8 JZ;rintro m L W ⟨j,hh,sv,xs,hj,rfl,rfl,mX,hO,hK⟩;refine af ?_;by_cases hjk:j<k
 ·refine VS.bJ aa (aU (cf.2 hjk)) ?_;obtain⟨y,hy⟩:∃ y,(rows u)[j]? =some y:=⟨_,aZ ae⟩;rw[mK ae,(bx.1 hy).2] at hK;have hfew:=hK.GN;have Kh:=(hO.Dz.new u _ hvu).sl bW;rw[show Value.slice pv k cv=.slice pv (rows u).length cv by rw[hk]] at Kh;obtain⟨b0,ee,cs0,rfl,ry,hcs0⟩:=Kh.at hy;obtain⟨v,rfl,hvn,vP,hK'⟩:=hK.dec;cases hcs0;have ng:eg (.slice (some ⟨b0,ee,none⟩) k cv)=some b0:=aa;have hb0h:b0≠hb:=λe=>hO.Dz.nb u _ hvu (e▸ng);obtain⟨tv,htv⟩:∃ tv,tv=Gr.gF hh v-1:=⟨_,aa⟩
  have hle2:Gr.gF hh v<=1000000:=by
   have:=hK.cnt v hvn;have h1:Gr.xw l (out++[u]) (v:Int)<=l.length:=List.countP_le_length;have h2:=List.count_le_length (a:=(v:Int)) (l:=(v:Int)::(rows u).drop (j+1));have h3:l.length=es.length:=(by rw[hl,dy]);rw[ji,nz] at h2;omega
  have htw:IntKind.i64.wrap (Gr.gF hh v-1)=tv:=by rw[htv,lj];omega
  rw[<-htv] at hK';have zT:=hK.len;clear hK
  have hcell:∀ (gg:List Int),gg.length=n->∀ (k:Nat) (u:AV),[AV.val (Value.int .i64 (Gr.gF gg v))][k]? =some u->((dm gg).map AV.val)[(0+((v:Int)).toNat*1)+k]? =some u:=λgg hg k u hk=>by
   rw[aQ,cC,eM];cases k with
   | zero=>
     cases hk;have:=oT (xs:=gg) (i:=v) ae [];rw[dS] at this;rw[ia,iK,this];rfl
   | succ k=>simp at hk
  have hlen:((dm hh).map AV.val).length=n:=by rw[cJ,ey];omega
  have Di:((dm hh).map AV.val).take (0+((v:Int)).toNat*1)++([AV.val (.int .i64 tv)]++((dm hh).map AV.val).drop (0+((v:Int)).toNat*1+1))=(dm (hh.set v tv)).map .val:=by
   rw[aQ,cC,eM,lR _ (by rw[ey];omega)];have:=si (xs:=hh) (i:=v) ae tv [];rw[dS,dS] at this;rw[this]
  have Lb:Gr.gF (hh.set v tv) v=tv:=by rw[Gr.FK ae,if_pos rfl]
  have Kh:kF (KU UU) 116 [hb] [(bF,(dm hh).map .val)] W:=by
   refine⟨aa,bc,λj g c' hj hc'=> ?_,λc' hc'=> ?_,λc' hc' k hk=> ?_⟩
   ·match j,hj,hc' with
    | 0,hj,hc'=>cases hj;cases hc';rw[aA];exact hO.FM
    | j+1,hj,_=>simp at hj
   ·cases aH.1 hc';exact⟨aa,cO (vg _)⟩
   ·cases aH.1 hc';rw[aG] at hk;cases hk
  refine VS.mE (KU UU) (λt=>Nat.beq t 31) table (λ_ _ _=>trivial) (λw1 β1 k1 b1 en1=> ?_);have iA:ax W w1:=b1;have hO1:=hO.aD iA;have hB1:ax w w1:=mX.aB iA
  have Na:∀ (i:Nat) (x:Value),[Value.int .i64 (v:Int)][i]? =some x->w1.cell? ⟨b0,ee+j*1+i,none⟩=some x:=λi x hi=>by
   rw[pa (w:=W) (jk iA _ (by have:=tw W _ (ry i x hi);exact this))];exact ry i x hi
  refine⟨_,_,Kh.aD iA,[(6,.row 232 0 n n),(7,.val (.slice (some ⟨hd,0,none⟩) n n)),(10,.val (.pointer (some ⟨q,0,none⟩))),(13,.val ov9),(92,.val (.slice (some ⟨b0,ee,none⟩) k cv)),(93,.val (.int .i64 (k:Int))),(94,.val (.int .i64 (j:Int)))],⟨⟨_,aa,aa,λi hi=>(by cases aH.1 hi;exact⟨by show 232<=232;omega,by show 232<232+1;omega⟩)⟩,⟨_,aa,aa,λi hi=>(by cases hi)⟩,⟨_,aa,aa,λi hi=>(by cases hi)⟩,⟨_,aa,aa,λi hi=>(by cases hi)⟩,⟨_,aa,aa,λi hi=>(by cases hi)⟩,⟨_,aa,aa,λi hi=>(by cases hi)⟩,⟨_,aa,aa,λi hi=>(by cases hi)⟩,aj⟩,?_⟩;refine bT ?_;refine VO.cond aa eH ?_;refine wV aa ?_;refine bT ?_;refine VO.qk aa [.int .i64 (v:Int)] aa (tr (by simpa using hb0h) (dk Na 0 _ ⟨[],aa⟩)) (wV aa ?_);refine bT ?_;refine VO.cond aa eH (wV aa ?_);refine VO.dQ aa [.val (.int .i64 (Gr.gF hh v))] aa (hcell hh zT) (wV aa ?_);refine VO.fix 102 aa (ai (λz=>AV.val (.int .i64 z)) (htw)) ?_;refine VO.cond aa eH (wV aa ?_);refine VO.cond aa (by rw[hlen,aQ];show 0+v*1+1<=_;omega) ?_;refine VO.eU 232 aa Di (wV aa ?_);refine bT ?_;refine VO.cond aa eH (wV aa ?_);refine VO.dQ aa [.val (.int .i64 (Gr.gF (hh.set v tv) v))] aa (hcell _ (by rw[eF];exact zT)) (wV aa ?_);refine bT ?_;by_cases h0:tv=0
  ·rw[if_pos h0] at hK';refine VS.bJ aa (show (Gr.gF (hh.set v tv) v == 0)=true by rw[Lb];simpa using h0) ?_
   (repeat (first|refine wN ?_|refine wP aa ?_|refine wO aa aa ?_))
   refine VS.eb (cu _ _) 4 aa (wV aa (wN ?_));refine⟨_,λW=>bD Tryz.prog W 116,aa,λ_=>aa,λ_=>aa,λ_=>ax.refl _,λw3 β k3 b3 en=> ?_⟩;obtain⟨e0,c0⟩:=lN (en.own 232 _ _ aa) 0 hb aa aa;rw[aA] at c0;have hO3:=hO1.holds b3.1 c0;have hB3:ax w w3:=fq.aD hB1 b3.1 (λg hg=>by rw[aH.1 hg];exact hO.bB);refine⟨fk Tryz.func24,(show Calls _ _ #[xr q,.iface bF (.int .i64 (v:Int))] w3 _ from zx q sv xs (v:Int) w3 hO3.box (hO3.row.mono (cD _)) ae hO3.heap).mono ?_⟩;rintro e w4 ⟨rfl,hw4⟩;refine⟨_,[(6,.slice (some ⟨hb,0,none⟩) n n),(7,.slice (some ⟨hd,0,none⟩) n n),(10,.pointer (some ⟨q,0,none⟩)),(13,ov9),(92,.slice (some ⟨b0,ee,none⟩) k cv),(93,.int .i64 (k:Int)),(94,.int .i64 (j:Int))],aa,⟨⟨_,_,aa,ai (λq=>Value.slice (some ⟨q,0,none⟩) n n) e0,aa⟩,⟨_,_,aa,aa,aa⟩,⟨_,_,aa,aa,aa⟩,⟨_,_,aa,aa,aa⟩,⟨_,_,aa,aa,aa⟩,⟨_,_,aa,aa,aa⟩,⟨_,_,aa,aa,aa⟩,aj⟩,λp hp=>(by simp at hp;rcases hp with rfl|rfl|rfl|rfl|rfl|rfl|rfl <;> exact λe=>(by cases e)),?_⟩;obtain⟨Dv,xs',hO',hP',hB'⟩:=hO3.waits hw4 hB3 (aM _);refine af ?_;refine VS.iw aa (k-(j+1)) ae (λwq bG kq oq fE=>⟨[(6,.slice (some ⟨hb,0,none⟩) n n),(7,.slice (some ⟨hd,0,none⟩) n n),(10,.pointer (some ⟨q,0,none⟩)),(13,ov9),(92,.slice (some ⟨b0,ee,none⟩) k cv),(93,.int .i64 (k:Int)),(94,.int .i64 ((j+1:Nat):Int))],⟨⟨_,_,aa,aa,aa⟩,⟨_,_,aa,aa,aa⟩,⟨_,_,aa,aa,aa⟩,⟨_,_,aa,aa,aa⟩,⟨_,_,aa,aa,aa⟩,⟨_,_,aa,aa,aa⟩,⟨_,_,aa,ai (λz=>Value.int .i64 z) (bM ae),aa⟩,aj⟩,j+1,_,Dv,xs',ae,aa,aa,hB'.aB oq,hO'.aD oq,hK'.perm (List.perm_append_comm.trans hP'.symm)⟩)
  ·rw[if_neg h0] at hK';refine VS.cd aa (show (Gr.gF (hh.set v tv) v == 0)=false by rw[Lb];simpa using h0) ?_;refine bT ?_;refine VS.iw aa (k-(j+1)) ae (λwq bG kq oq fE=> ?_);obtain⟨e0,c0⟩:=lN (fE.own 232 _ _ aa) 0 hb aa aa;rw[aA] at c0;exact⟨[(6,.slice (some ⟨hb,0,none⟩) n n),(7,.slice (some ⟨hd,0,none⟩) n n),(10,.pointer (some ⟨q,0,none⟩)),(13,ov9),(92,.slice (some ⟨b0,ee,none⟩) k cv),(93,.int .i64 (k:Int)),(94,.int .i64 ((j+1:Nat):Int))],⟨⟨_,_,aa,ai (λq=>Value.slice (some ⟨q,0,none⟩) n n) e0,aa⟩,⟨_,_,aa,aa,aa⟩,⟨_,_,aa,aa,aa⟩,⟨_,_,aa,aa,aa⟩,⟨_,_,aa,aa,aa⟩,⟨_,_,aa,aa,aa⟩,⟨_,_,aa,ai (λz=>Value.int .i64 z) (bM ae),aa⟩,aj⟩,j+1,_,sv,xs,ae,aa,aa,fq.aD hB1 oq.1 (λg hg=>by rw[aH.1 hg];exact hO.bB),hO1.holds oq.1 c0,hK'⟩
 refine VS.cd aa (bo (λe=>hjk (cf.1 e))) ?_;obtain rfl:j=k:=ae;rw[hk,List.drop_length] at hK;refine af ?_;refine VS.iw aa (n-(out++[u]).length) (by rw[da,tx];omega) (λwq bG kq oq fE=>⟨[(6,.slice (some ⟨hb,0,none⟩) n n),(7,.slice (some ⟨hd,0,none⟩) n n),(10,.pointer (some ⟨q,0,none⟩)),(13,ov9)],⟨⟨_,_,aa,aa,aa⟩,⟨_,_,aa,aa,aa⟩,⟨_,_,aa,aa,aa⟩,⟨_,_,aa,aa,aa⟩,aj⟩,hh,sv,xs,ov9,out++[u],aa,aa,mX.aB oq,hO.aD oq,hK⟩)
set_option maxRecDepth 4000
def FewG (N:Int) (es:List iB):Prop:=¬ (N>30/\N<=256)/\es.length<=40/\∀ e∈es,e.r.xs.length<=4/\e.r.ys.length<=4
theorem mF.down {kk j:Nat} {w:World} {cs:List Value} {e:iB} (h:mF kk w cs e) (h1:e.r.xs.length<=j) (h2:e.r.ys.length<=j):mF j w cs e:=by
 obtain⟨s,p,n,c,t,y,m,d,rfl,h⟩:=h;exact⟨s,p,n,c,t,y,m,d,aa,.mk h.raw.1 h1 h2⟩
theorem gE.down {kk j:Nat} {w:World} {v:Value} {N:Int} {es:List iB} (h:gE kk w v N es) (hj:∀ e∈es,e.r.xs.length<=j/\e.r.ys.length<=j):gE j w v N es:=by
 obtain⟨p,c,rfl,p',c',hv,h1,h2,h3⟩:=h;cases hv;refine⟨p,c,aa,p,c,aa,h1,h2,λi q hq=> ?_⟩;obtain⟨b,off,cs,e1,e2,e3⟩:=h3 i q hq;obtain⟨g1,g2⟩:=hj q (dx hq);exact⟨b,off,cs,e1,e2,e3.down g1 g2⟩
theorem JT (kk:Nat) (v:Value) (N:Int) (es:List iB) (w:World) (hv:gE kk w v N es):
  Calls Tryz.prog 7 #[v] w λo w'=>∃ b,o=.returned (.bool b)/\(b=true->FewG N es)/\ax w w':=by
 obtain⟨p,c,rfl,hs⟩:=hv;obtain⟨p',c',hv',hle,fO⟩:=hs.form;cases hv';obtain⟨E,hE⟩:∃ E,E=es.length:=⟨_,aa⟩;rw[<-hE] at hs hle;have bad:∀ wz,ax w wz->∃ b,Ending.returned (.bool false)=.returned (.bool b)/\(b=true->FewG N es)/\ax w wz:=λwz hz=>⟨false,aa,λh=>(by cases h),hz⟩;rw[<-hE];refine ar (C:=bD Tryz.prog w _) (args:=[_]) Tryz.func7 aa Tryz.ntmps7 (cz aa) ?_;refine af ?_;by_cases h1:N>30
 ·refine VO.fix 7 aa (ai (λb=>AV.val (.bool b)) (aU h1)) ?_;refine af ?_;by_cases h2:N<=256
  ·refine VO.fix 12 aa (ai (λb=>AV.val (.bool b)) (aU h2)) ?_;refine af ?_;refine bH ?_;intro wz kz bz;exact bad _ bz
  ·refine VO.fix 12 aa (ai (λb=>AV.val (.bool b)) (bo h2)) ?_;refine af ?_;by_cases hE4:(E:Int)>40
   ·refine VS.bJ aa (aU hE4) ?_;refine af ?_;refine bH ?_;intro wz kz bz;exact bad _ bz
   refine VS.cd aa (bo hE4) ?_;refine af ?_;refine VS.loop (J:=λm L M w'=>∃ (z:Nat),z<=E/\m=E-z/\L=[(1,.box 1 0),(3,.val (.int .i64 (z:Int)))]/\M=[(1,(24,[.val (.int .i64 N),.val (.slice p E c)]))]/\∀ i e,i<z->es[i]? =some e->e.r.xs.length<=4/\e.r.ys.length<=4) E ⟨_,_,?_,?_,?_,?_,⟨0,ae,aa,aa,aa,λi x hi=>ae⟩⟩ ?_
   ·exact lK
   ·exact lK
   ·rfl
   ·exact CY
   rintro m L M wI ⟨z,hz,rfl,rfl,rfl,dN⟩;refine af ?_;by_cases xX:z<E
   ·obtain⟨x,hx⟩:∃ x,es[z]? =some x:=⟨_,aZ ae⟩;obtain⟨b0,ee,cs0,rfl,ry,⟨s0,p0,n0,c0,t0,y0,m0,d0,rfl,AW⟩⟩:=hs.at hx;obtain⟨_,_,_,_,e1,_⟩:=AW.raw.1.Mj;cases e1;refine VS.bJ aa (aU (cf.2 xX)) ?_;refine af ?_;refine VO.cond aa eH ?_;refine wV aa ?_;refine af ?_;refine VO.read aa [.slice p0 x.r.xs.length c0] aa (dk ry 3 _ ⟨_,aa⟩) (wV aa ?_);refine af ?_;by_cases g1:(x.r.xs.length:Int)>4
    ·refine VO.fix 35 aa (ai (λb=>AV.val (.bool b)) (aU g1)) ?_;refine af ?_;refine bH ?_;intro wz kz bz;exact bad _ bz
    refine VO.fix 35 aa (ai (λb=>AV.val (.bool b)) (bo g1)) ?_;refine af ?_;refine VO.cond aa eH ?_;refine wV aa ?_;refine af ?_;refine VO.read aa [.slice y0 x.r.ys.length d0] aa (dk ry 5 _ ⟨_,aa⟩) (wV aa ?_);refine af ?_;by_cases g2:(x.r.ys.length:Int)>4
    ·refine VS.bJ aa (aU g2) ?_;refine af ?_;refine bH ?_;intro wz kz bz;exact bad _ bz
    refine VS.cd aa (bo g2) ?_;refine af ?_;refine VS.back (E-(z+1)) ae ⟨_,_,?_,?_,?_,?_,⟨z+1,ae,aa,aa,aa,λi e hi he=> ?_⟩⟩
    ·(refine⟨aa,?_,aj⟩;rw[<-bM (i:=z) ae];rfl)
    ·exact lK
    ·rfl
    ·exact CY
    ·by_cases q:i<z
     ·exact dN i e q he
     ·obtain rfl:i=z:=by omega
      rw[hx] at he;cases he;exact⟨ae,ae⟩
   refine VS.cd aa (bo (λe=>xX (cf.1 e))) ?_;refine af ?_;refine bH ?_;intro wz kz bz;refine⟨true,aa,λ_=>⟨λh=>h2 h.2,ae,λe he=> ?_⟩,bz⟩;obtain⟨i,hi⟩:=vt he;exact dN i e (by have:=(bx.1 hi).1;omega) hi
 ·refine VO.fix 7 aa (ai (λb=>AV.val (.bool b)) (bo h1)) ?_;refine af ?_;by_cases hE4:(E:Int)>40
  ·refine VS.bJ aa (aU hE4) ?_;refine af ?_;refine bH ?_;intro wz kz bz;exact bad _ bz
  refine VS.cd aa (bo hE4) ?_;refine af ?_;refine VS.loop (J:=λm L M w'=>∃ (z:Nat),z<=E/\m=E-z/\L=[(1,.box 1 0),(3,.val (.int .i64 (z:Int)))]/\M=[(1,(24,[.val (.int .i64 N),.val (.slice p E c)]))]/\∀ i e,i<z->es[i]? =some e->e.r.xs.length<=4/\e.r.ys.length<=4) E ⟨_,_,?_,?_,?_,?_,⟨0,ae,aa,aa,aa,λi x hi=>ae⟩⟩ ?_
  ·exact lK
  ·exact lK
  ·rfl
  ·exact CY
  rintro m L M wI ⟨z,hz,rfl,rfl,rfl,dN⟩;refine af ?_;by_cases xX:z<E
  ·obtain⟨x,hx⟩:∃ x,es[z]? =some x:=⟨_,aZ ae⟩;obtain⟨b0,ee,cs0,rfl,ry,⟨s0,p0,n0,c0,t0,y0,m0,d0,rfl,AW⟩⟩:=hs.at hx;obtain⟨_,_,_,_,e1,_⟩:=AW.raw.1.Mj;cases e1;refine VS.bJ aa (aU (cf.2 xX)) ?_;refine af ?_;refine VO.cond aa eH ?_;refine wV aa ?_;refine af ?_;refine VO.read aa [.slice p0 x.r.xs.length c0] aa (dk ry 3 _ ⟨_,aa⟩) (wV aa ?_);refine af ?_;by_cases g1:(x.r.xs.length:Int)>4
   ·refine VO.fix 35 aa (ai (λb=>AV.val (.bool b)) (aU g1)) ?_;refine af ?_;refine bH ?_;intro wz kz bz;exact bad _ bz
   refine VO.fix 35 aa (ai (λb=>AV.val (.bool b)) (bo g1)) ?_;refine af ?_;refine VO.cond aa eH ?_;refine wV aa ?_;refine af ?_;refine VO.read aa [.slice y0 x.r.ys.length d0] aa (dk ry 5 _ ⟨_,aa⟩) (wV aa ?_);refine af ?_;by_cases g2:(x.r.ys.length:Int)>4
   ·refine VS.bJ aa (aU g2) ?_;refine af ?_;refine bH ?_;intro wz kz bz;exact bad _ bz
   refine VS.cd aa (bo g2) ?_;refine af ?_;refine VS.back (E-(z+1)) ae ⟨_,_,?_,?_,?_,?_,⟨z+1,ae,aa,aa,aa,λi e hi he=> ?_⟩⟩
   ·(refine⟨aa,?_,aj⟩;rw[<-bM (i:=z) ae];rfl)
   ·exact lK
   ·rfl
   ·exact CY
   ·by_cases q:i<z
    ·exact dN i e q he
    ·obtain rfl:i=z:=by omega
     rw[hx] at he;cases he;exact⟨ae,ae⟩
  refine VS.cd aa (bo (λe=>xX (cf.1 e))) ?_;refine af ?_;refine bH ?_;intro wz kz bz;refine⟨true,aa,λ_=>⟨λh=>h1 h.1,ae,λe he=> ?_⟩,bz⟩;obtain⟨i,hi⟩:=vt he;exact dN i e (by have:=(bx.1 hi).1;omega) hi
set_option maxRecDepth 4000
theorem AE {xs ys:List Int} {z:Nat} {a b:Int} (hx:xs[z]? =some a) (hy:ys[z]? =some b):xs.take (z+1)=ys.take (z+1)↔xs.take z=ys.take z/\a=b:=by
 rw[Gr.fh hx,Gr.fh hy];constructor
 ·intro h;have h1:=List.append_inj' h aa;exact⟨h1.1,by simpa using h1.2⟩
 ·rintro⟨h1,rfl⟩;rw[h1]
theorem AG (v u:Value) (xs ys:List Int) (w:World) (hv:iE IE 1 w v xs) (hu:iE IE 1 w u ys):
  Calls Tryz.prog 11 #[v,u] w λo w'=>∃ b,o=.returned (.bool b)/\(b=true↔xs=ys)/\ax w w':=by
 obtain⟨p,c,rfl,hle,fO⟩:=hv.form;obtain⟨q,d,rfl,hle2,DJ⟩:=hu.form;obtain⟨n,hn⟩:∃ n,n=xs.length:=⟨_,aa⟩;obtain⟨m,hm⟩:∃ m,m=ys.length:=⟨_,aa⟩;rw[<-hn] at hv hle ⊢;rw[<-hm] at hu hle2 ⊢;refine ar (C:=bD Tryz.prog w _) (args:=[_,_]) Tryz.func11 aa Tryz.ntmps11 (cz aa) ?_;refine af ?_;by_cases h0:(n:Int)=(m:Int)
 case neg=>
  refine VS.bJ aa (show ((n:Int) != (m:Int))=true by simpa using h0) ?_;refine af ?_;refine bH ?_;intro wz kz bz;exact⟨false,aa,⟨λh=>(by cases h),λh=>absurd (by rw[hn,hm,h]) h0⟩,bz⟩
 refine VS.cd aa (show ((n:Int) != (m:Int))=false by simpa using h0) ?_;obtain rfl:n=m:=ae;refine af ?_;refine VS.loop (J:=λmm L M w'=>∃ (z:Nat),z<=n/\mm=n-z/\L=[(0,.val (.slice p n c)),(1,.val (.slice q n d)),(5,.val (.int .i64 (z:Int)))]/\M=[]/\xs.take z=ys.take z) n ⟨_,_,?_,?_,?_,?_,⟨0,ae,aa,aa,aa,aa⟩⟩ ?_
 ·exact lK
 ·exact lK
 ·rfl
 ·exact CY
 rintro mm L M wI ⟨z,hz,rfl,rfl,rfl,dN⟩;refine af ?_;by_cases hzn:z<n
 ·obtain⟨a,ha⟩:∃ a,xs[z]? =some a:=⟨_,aZ ae⟩;obtain⟨b,hb⟩:∃ b,ys[z]? =some b:=⟨_,aZ ae⟩;obtain⟨b0,ee,cs0,rfl,ry,e0⟩:=hv.at ha;obtain⟨b1,off1,cs1,rfl,oC,e1⟩:=hu.at hb;cases e0;cases e1;refine VS.bJ aa (aU (cf.2 hzn)) ?_;refine af ?_;refine VO.cond aa eH ?_;refine wV aa ?_;refine af ?_;refine VO.read aa [.int .i64 a] aa (dk ry 0 _ ⟨_,aa⟩) (wV aa ?_);refine af ?_;refine VO.cond aa eH ?_;refine wV aa ?_;refine af ?_;refine VO.read aa [.int .i64 b] aa (dk oC 0 _ ⟨_,aa⟩) (wV aa ?_);refine af ?_;have hts:=AE ha hb;by_cases pA:a=b
  case neg=>
   refine VS.bJ aa (show (a != b)=true by simpa using pA) ?_;refine af ?_;refine bH ?_;intro wz kz bz;exact⟨false,aa,⟨λh=>(by cases h),λh=>absurd (hts.1 (by rw[h])).2 pA⟩,bz⟩
  refine VS.cd aa (show (a != b)=false by simpa using pA) ?_;refine af ?_;refine VS.back (n-(z+1)) ae ⟨_,_,?_,?_,?_,?_,⟨z+1,ae,aa,aa,aa,hts.2 ⟨dN,pA⟩⟩⟩
  ·(refine⟨aa,aa,?_,aj⟩;rw[<-bM (i:=z) ae];rfl)
  ·exact lK
  ·rfl
  ·exact CY
 refine VS.cd aa (bo (λe=>hzn (cf.1 e))) ?_;obtain rfl:z=n:=ae;rw[du ae,du ae] at dN;refine af ?_;refine bH ?_;intro wz kz bz;exact⟨true,aa,⟨λ_=>dN,λ_=>aa⟩,bz⟩
def DW (f t:Int) (n d:Int):iB:=⟨f,t,Rw.of (Rat.divInt n d)⟩
def fQ:List iB:=[DW 2 0 1 2,DW 0 1 1 2,DW 2 1 1 2]
theorem kW (w:World):Calls Tryz.prog 23 #[] w λo w'=>∃ b cs vs,o=.returned (.agg #[.int .i64 3,.slice (some ⟨b,0,none⟩) 3 3])/\w.heap.size<=b/\aI w' b 37 (List.toArray cs)/\cs=List.flatten vs/\fD (mF 1) w' fQ vs/\gE 1 w' (.agg #[.int .i64 3,.slice (some ⟨b,0,none⟩) 3 3]) 3 fQ/\ax w w':=by
 refine ar (C:=bD Tryz.prog w _) (args:=[]) Tryz.func23 aa Tryz.ntmps23 (cz aa) ?_;refine af ?_;refine VO.cR aa aa (fk Tryz.func22) (λgQ ky kV=>ta 1 2 gQ ae ae ae ae) (λgQ ky kV w1 s1 p1 n1 c1 t1 y1 m1 d1 q1 bS nZ _ bb1=>wV aa ?_);refine af ?_;refine af ?_;refine VS.Af (bQ _ _) aa (λwz β kz bz en=> ?_);have hc:=(en.own 9 _ _ aa).cls;have hq:=q1.kp kz;have hsz:oX (Rat.divInt 1 2) 1:=oX.of dh dh;have hw:Aw 1 wz [.bool s1,.slice p1 n1 c1,.bool t1,.slice y1 m1 d1] (Rw.of (Rat.divInt 1 2)):=Aw.of hq.rd hsz;have he:∀ f t:Int,mF 1 wz [.int .i64 f,.int .i64 t,.bool s1,.slice p1 n1 c1,.bool t1,.slice y1 m1 d1] (DW f t 1 2):=λf t=>⟨_,_,_,_,_,_,_,_,aa,hw⟩;have rM:fD (mF 1) wz fQ [[.int .i64 2,.int .i64 0,.bool s1,.slice p1 n1 c1,.bool t1,.slice y1 m1 d1],[.int .i64 0,.int .i64 1,.bool s1,.slice p1 n1 c1,.bool t1,.slice y1 m1 d1],[.int .i64 2,.int .i64 1,.bool s1,.slice p1 n1 c1,.bool t1,.slice y1 m1 d1]]:=.cons (he 2 0) (.cons (he 0 1) (.cons (he 2 1) .nil));refine⟨β 9,_,_,aa,(en.own 9 _ _ aa).new,hc,aa,rM,⟨some ⟨β 9,0,none⟩,3,aa,?_⟩,bz⟩;exact lM (mF.el 1) (spare:=[]) hc rM aa (aM _) dh
end
section
open Go.RowKit
theorem Nb:Gr.sa (aX fQ) 3=[2,0,1]:=dh
theorem ex_into:qA (λe=>e.tt == 1) 0 fQ=[1,2]:=dh
variable {a:Gr.Ed} {l:List Gr.Ed}
theorem DD (h0:l[0]? =some a) (f0:a.fr=2) (t0:a.tt=0) (u v:Int):Gr.iy l 1 u v↔u=2/\v=0:=by
 rw[show (1:Nat)=0+1 from aa,Gr.lO h0,f0,t0];simp[Gr.lP]
variable {b:Gr.Ed}
theorem DF (h0:l[0]? =some a) (f0:a.fr=2) (t0:a.tt=0) (h1:l[1]? =some b) (f1:b.fr=0) (t1:b.tt=1) (u v:Int):Gr.iy l 2 u v↔(u=2/\v=0)\/(u=0/\v=1)\/(u=2/\v=1):=by
 rw[show (2:Nat)=1+1 from aa,Gr.lO h1,f1,t1,DD h0 f0 t0,DD h0 f0 t0,DD h0 f0 t0];omega
theorem Nc {c:Gr.Ed} (h0:l[0]? =some a) (f0:a.fr=2) (t0:a.tt=0) (h1:l[1]? =some b) (f1:b.fr=0) (t1:b.tt=1) (h2:l[2]? =some c) (f2:c.fr=2) (t2:c.tt=1) (u v:Int):Gr.iy l 3 u v↔(u=2/\v=0)\/(u=0/\v=1)\/(u=2/\v=1):=by
 rw[show (3:Nat)=2+1 from aa,Gr.lO h2,f2,t2,DF h0 f0 t0 h1 f1 t1,DF h0 f0 t0 h1 f1 t1,DF h0 f0 t0 h1 f1 t1];omega
def DG:List Gr.Ed:=[⟨2,0,true,Rat.divInt 1 2⟩,⟨0,1,true,Rat.divInt 1 2⟩,⟨2,1,true,Rat.divInt 1 2⟩]
def exR:List Gr.Ed:=DG++[⟨1,2,true,Rat.divInt 1 2⟩]
def exO:List Gr.Ed:=DG++[⟨1,0,true,Rat.divInt 2 3⟩]
variable {P:Nat->Gr.Ed->Prop}
theorem ex3 (h0:∀ x,DG[0]? =some x->P 0 x) (h1:∀ x,DG[1]? =some x->P 1 x) (h2:∀ x,DG[2]? =some x->P 2 x):∀ i x,DG[i]? =some x->P i x
 | 0,x,h=>h0 x h
 | 1,x,h=>h1 x h
 | 2,x,h=>h2 x h
 | i+3,x,h=>by cases h
theorem Hz:Gr.qw 3 DG where
 lo:=dh
 hi:=dh
 GN:=dh
 may:=ex3 (λx h=>by cases h;unfold Gr.iG;exact cS (by kernel_rfl)) (λx h=>by cases h;unfold Gr.iG;exact cS (by kernel_rfl)) (λx h=>by cases h;unfold Gr.iG;exact cS (by kernel_rfl))
 over:=ex3 (P:=λi x=>¬ Gr.eW DG i x) (λx h=>by cases h;unfold Gr.eW;exact cS (by kernel_rfl)) (λx h=>by cases h;unfold Gr.eW;exact cS (by kernel_rfl)) (λx h=>by cases h;unfold Gr.eW;exact cS (by kernel_rfl))
 ring:=ex3 (P:=λi x=>¬ Gr.pP DG i x) (λx h hr=>Gr.lP hr) (λx h hr=>by cases h;have:=(DD (l:=DG) aa aa aa _ _).1 hr;revert this;decide) (λx h hr=>by cases h;have:=(DF (l:=DG) aa aa aa aa aa aa _ _).1 hr;revert this;decide)
theorem ex4 (hl:l.length=4) (h0:∀ x,l[0]? =some x->P 0 x) (h1:∀ x,l[1]? =some x->P 1 x) (h2:∀ x,l[2]? =some x->P 2 x) (h3:∀ x,l[3]? =some x->P 3 x):∀ i x,l[i]? =some x->P i x
 | 0,x,h=>h0 x h
 | 1,x,h=>h1 x h
 | 2,x,h=>h2 x h
 | 3,x,h=>h3 x h
 | i+4,x,h=>by
   have:=(bx.1 h).1;omega
theorem ex_ring:Gr.Fu 3 2 120 121 3 exR ((3:Nat):Int) 121:=by
 refine .ring dh dh dh (λi x hx hn=>hn ?_) ?_ ⟨⟨_,aa,?_⟩,?_⟩
 ·exact ex4 (l:=exR) (P:=λi x=>Gr.iG 3 exR i x) aa (λx h=>by cases h;unfold Gr.iG;exact cS (by kernel_rfl)) (λx h=>by cases h;unfold Gr.iG;exact cS (by kernel_rfl)) (λx h=>by cases h;unfold Gr.iG;exact cS (by kernel_rfl)) (λx h=>by cases h;unfold Gr.iG;exact cS (by kernel_rfl)) i x hx
 ·exact ex4 (l:=exR) (P:=λi x=>¬ Gr.eW exR i x) aa (λx h=>by cases h;unfold Gr.eW;exact cS (by kernel_rfl)) (λx h=>by cases h;unfold Gr.eW;exact cS (by kernel_rfl)) (λx h=>by cases h;unfold Gr.eW;exact cS (by kernel_rfl)) (λx h=>by cases h;unfold Gr.eW;exact cS (by kernel_rfl))
 ·exact (Nc (l:=exR) aa aa aa aa aa aa aa aa aa _ _).2 (.inr (.inr ⟨aa,aa⟩))
 ·intro i x hi hx hr
  match i,hi,hx with
  | 0,_,_=>exact Gr.lP hr
  | 1,_,hx=>cases hx;have:=(DD (l:=exR) aa aa aa _ _).1 hr;revert this;decide
  | 2,_,hx=>cases hx;have:=(DF (l:=exR) aa aa aa aa aa aa _ _).1 hr;revert this;decide
  | i+3,hi,_=>omega
theorem ex_over:Gr.Fu 3 2 120 121 3 exO ((3:Nat):Int) 120:=by
 refine .share dh dh dh (λi x hx hn=>hn ?_) ⟨⟨_,aa,?_⟩,?_⟩
 ·exact ex4 (l:=exO) (P:=λi x=>Gr.iG 3 exO i x) aa (λx h=>by cases h;unfold Gr.iG;exact cS (by kernel_rfl)) (λx h=>by cases h;unfold Gr.iG;exact cS (by kernel_rfl)) (λx h=>by cases h;unfold Gr.iG;exact cS (by kernel_rfl)) (λx h=>by cases h;unfold Gr.iG;exact cS (by kernel_rfl)) i x hx
 ·unfold Gr.eW;exact cS (by kernel_rfl)
 ·intro i x hi hx
  match i,hi,hx with
  | 0,_,hx=>cases hx;unfold Gr.eW;exact cS (by kernel_rfl)
  | 1,_,hx=>cases hx;unfold Gr.eW;exact cS (by kernel_rfl)
  | 2,_,hx=>cases hx;unfold Gr.eW;exact cS (by kernel_rfl)
  | i+3,hi,_=>omega
theorem Nd (q:Rat):Da (decide (q.num<0)) (limbs q.num.natAbs) (decide ((q.den:Int)<0)) (limbs (q.den:Int).natAbs)=true:=by
 unfold Da;have h1:=me q.num;have h2:=me (q.den:Int);rw[h1,h2,eN,eN];have h3:(0:Int)<q.den:=by have:=q.den_nz;omega
 have h4:Int.gcd q.num q.den=1:=by have:=q.reduced;simpa [Int.gcd,Nat.Coprime] using this
 rw[aU h3,aU h4];rfl
theorem Nf (q:Rat):rq (decide (q.num<0)) (limbs q.num.natAbs) (decide ((q.den:Int)<0)) (limbs (q.den:Int).natAbs)=q:=by
 unfold rq;rw[eN,eN,zf]
theorem FN (f t n d:Int):(DW f t n d).ed=⟨f,t,true,Rat.divInt n d⟩:=by
 unfold iB.ed DW;simp only[Rw.of,Rw.q,Nd,Nf]
theorem tu:aX fQ=DG:=by
 unfold aX fQ DG;simp only[List.map_cons,List.map_nil,FN]
theorem ex_edsR:aX (fQ++[DW 1 2 1 2])=exR:=by
 unfold aX exR;rw[cT,show fQ.map iB.ed=DG from tu];simp only[List.map_cons,List.map_nil,FN]
theorem ex_edsO:aX (fQ++[DW 1 0 2 3])=exO:=by
 unfold aX exO;rw[cT,show fQ.map iB.ed=DG from tu];simp only[List.map_cons,List.map_nil,FN]
theorem ex_chk:mG 3 fQ 0 0:=by
 unfold mG;rw[tu];exact Hz.chk
theorem ex_chkR:mG 3 (fQ++[DW 1 2 1 2]) 3 121:=by
 unfold mG;rw[ex_edsR];exact ex_ring
theorem ex_chkO:mG 3 (fQ++[DW 1 0 2 3]) 3 120:=by
 unfold mG;rw[ex_edsO];exact ex_over
theorem ex_way:uF 3 fQ 2 1:=⟨by rw[tu];exact Hz,dh,dh,by
 rw[tu];exact (Nc (l:=DG) aa aa aa aa aa aa aa aa aa _ _).2 (.inr (.inr ⟨aa,aa⟩))⟩
theorem Ng:¬ uF 3 fQ 1 2:=λ⟨_,_,_,h⟩=>by
 rw[tu] at h;have:=(Nc (l:=DG) aa aa aa aa aa aa aa aa aa _ _).1 h
 revert this;decide
end
set_option maxRecDepth 4000
section
open Go.RowKit
attribute [local irreducible] aq VS
theorem AH (v:Value) (w:World) (hv:gE 1 w v 3 fQ):Calls Tryz.prog 9 #[v] w λo w'=>∃ p c,o=.returned (.tuple #[.slice p 3 c,.int .i64 0])/\iE IE 1 w' (.slice p 3 c) [2,0,1]/\ax w w':=by
 refine (JS 1 v 3 fQ w hv (aM _) ae).mono ?_;rintro o w' (⟨a,e,rfl,h0,h,hb⟩|⟨_,r,rfl,hr,hb⟩)
 ·exact absurd (h.uniq ex_chk).2 h0
 ·rw[show (3:Int).toNat=3 from aa,Nb] at hr;have hs:=hr.sl bW;obtain⟨p,c,rfl⟩:=hr.form;exact⟨p,c,aa,hs,hb⟩
variable {w:World}
theorem DI {v u:Value} {xs:List Int} (hv:iE IE 1 w v xs) (hu:iE IE 1 w u xs):Calls Tryz.prog 11 #[v,u] w λo w'=>o=.returned (.bool true)/\ax w w':=by
 refine (AG v u xs xs w hv hu).mono ?_;rintro o w' ⟨b,rfl,h,hb⟩;exact⟨by rw[h.2 rfl],hb⟩
theorem FO (v:Value) (w:World) (hv:gE 1 w v 3 fQ):Calls Tryz.prog 10 #[v,.int .i64 2,.int .i64 1] w λo w'=>o=.returned (.bool true)/\ax w w':=by
 refine (bV 1 v 3 fQ 2 1 w hv (aM _) ae).mono ?_;rintro o w' ⟨b,rfl,h,hb⟩;exact⟨by rw[h.2 ex_way],hb⟩
theorem AJ (v:Value) (w:World) (hv:gE 1 w v 3 fQ):Calls Tryz.prog 10 #[v,.int .i64 1,.int .i64 2] w λo w'=>o=.returned (.bool false)/\ax w w':=by
 refine (bV 1 v 3 fQ 1 2 w hv (aM _) ae).mono ?_;rintro o w' ⟨b,rfl,h,hb⟩;refine⟨?_,hb⟩;cases b with
 | false=>rfl
 | true=>exact absurd (h.1 aa) Ng
theorem AK {x g:Nat} {vs:List (List Value)} (hx:aI w x 24 #[.int .i64 3,.slice (some ⟨g,0,none⟩) 3 3]) (hc:aI w g 37 vs.flatten.toArray) (hN:gD (mF 1) 6 w 3 3 vs (([]:List Value).map .val) fQ):
  kF (KU UU) 80 [x,g] [(24,[.val (.int .i64 3),.row 161 0 3 3]),(37,vs.flatten.map .val++([]:List Value).map .val)] w:=by
 have hne:x≠g:=λe=>by
  subst e;have:=vh hx hc
  revert this
  decide
 refine⟨aa,by simpa using hne,λj g c' hj hc'=> ?_,λc' hc'=> ?_,λc' hc' k hk=> ?_⟩
 ·match j,hj,hc' with
  | 0,hj,hc'=>cases hj;cases hc';exact hx
  | 1,hj,hc'=>cases hj;cases hc';rw[<-cT,aA,dS];exact hc
  | j+2,hj,_=>simp at hj
 ·simp only[List.mem_cons,List.not_mem_nil,or_false] at hc';rcases hc' with rfl|rfl
  ·exact⟨aa,aa⟩
  ·exact⟨aa,hN.ok (mF.el 1)⟩
 ·simp only[List.mem_cons,List.not_mem_nil,or_false] at hc';rcases hc' with rfl|rfl
  ·have:k=161:=by simpa [aC,AV.dP] using hk
   subst this;exact⟨by show 160<=161;omega,by show 161<160+2;omega⟩
  ·rw[hN.dP] at hk;cases hk
abbrev cxB0 (P:Program) (W:World):Cx:=bD P W 80
theorem Nh {P Q X:Prop} (hb:X) (h:Q) (i:X->Q->P:=by intro hb h;refine⟨_,rfl,hb,λa b c=>wV rfl ?_⟩;refine bT ?_;revert a b c;exact h):P:=i hb h
theorem dD (w:World):Calls Tryz.prog 8 #[] w λo w'=>o=.returned (.bool true)/\ax w w':=by
 refine ar (C:=bD Tryz.prog w _) (args:=[]) pz aa Tryz.ntmps8 (cz aa) ?_
 (repeat (first|refine wN ?_|refine wP aa ?_|refine wO aa aa ?_))
 refine cx_r aa (wV aa (wN ?_))
 (repeat (first|refine wN ?_|refine wP aa ?_|refine wO aa aa ?_))
 refine VS.gS (bQ _ _) (λW=>bD Tryz.prog W 80) (λ_=>aa) (λ_=>aa) (λ_=>ax.refl _) (λW=>bQ W 80) 0 aa (wN ?_);refine⟨_,aa,λw7 β k7 b7 en=>⟨fk Tryz.func23,(show Calls _ _ #[] w7 _ from kW w7).mono ?_⟩⟩;rintro e w1 ⟨g1,cs1,vs1,rfl,hB1,oC,e1,sx,hg1,bS⟩;have ss:ax w w1:=ax.aB b7 bS;refine⟨_,[],aa,aj,λp hp=>(by cases hp),wV aa (wN ?_)⟩;clear k7 b7 en
 (repeat (first|refine wN ?_|refine wP aa ?_|refine wO aa aa ?_))
 refine VS.gS (bQ _ _) (λW=>bD Tryz.prog W 80) (λ_=>aa) (λ_=>aa) (λ_=>ax.refl _) (λW=>bQ W 80) 1 aa (wV aa (wN ?_));refine⟨_,aa,λw7 β k7 b7 en=>⟨fk Tryz.func9,(show Calls _ _ #[.agg #[.int .i64 3,.slice (some ⟨g1,0,none⟩) 3 3]] w7 _ from AH _ w7 (hg1.aD b7)).mono ?_⟩⟩;have hx7:aI w7 (β 1) 24 #[.int .i64 3,.slice (some ⟨g1,0,none⟩) 3 3]:=(en.own 1 _ _ aa).cls;rintro e w2 ⟨p2,c2,rfl,hs2,bO⟩;have hw2:ax w w2:=(ss.aB b7).aB bO;have AR:=hx7.aD bO;have hg2:=(hg1.aD b7).aD bO;obtain⟨x1,Ai⟩:∃ x1,x1=β 1:=⟨_,aa⟩;rw[<-Ai] at AR;refine⟨_,[(1,.pointer (some ⟨x1,0,none⟩))],aa,⟨⟨_,_,aa,by rw[Ai];rfl,rfl⟩,aj⟩,λp hp=>(by simp at hp;subst hp;exact λe=>(by cases e)),wV aa (wN ?_)⟩;clear k7 b7 en hx7 Ai hg1 oC sx hB1
 (repeat (first|refine wN ?_|refine wP aa ?_|refine wO aa aa ?_))
 refine VS.gS (bQ _ _) (λW=>bD Tryz.prog W 80) (λ_=>aa) (λ_=>aa) (λ_=>ax.refl _) (λW=>bQ W 80) 0 aa (wN ?_);refine⟨_,aa,λw7 β k7 b7 en=>⟨fk Tryz.func23,(show Calls _ _ #[] w7 _ from kW w7).mono ?_⟩⟩;rintro e w3 ⟨g3,cs3,vs3,rfl,hB3,hc3,rfl,hr3,hg3,dc⟩;have h23:ax w2 w3:=ax.aB b7 dc;have hg3B:w2.heap.size<=g3:=bA (ax.size b7) hB3;refine⟨_,[(1,.pointer (some ⟨x1,0,none⟩)),(2,.slice p2 3 c2),(3,.int .i64 0)],aa,⟨⟨_,_,aa,aa,aa⟩,⟨_,_,aa,aa,aa⟩,⟨_,_,aa,aa,aa⟩,aj⟩,λp hp=>(by simp at hp;rcases hp with rfl|rfl|rfl <;> exact λe=>(by cases e)),wV aa (wN ?_)⟩;clear k7 b7 en
 (repeat (first|refine wN ?_|refine wP aa ?_|refine wO aa aa ?_))
 refine VS.mE (KU UU) (λt=>Nat.beq t 31) table (λ_ _ _=>trivial) (λw4 β1 k1 b1 en1=> ?_);have fv:ax w3 w4:=b1;have h24:ax w2 w4:=h23.aB fv;have ja:aI w4 (β1 4) 24 #[.int .i64 3,.slice (some ⟨g3,0,none⟩) 3 3]:=(en1.own 4 _ _ aa).cls;have hx4B:w2.heap.size<=β1 4:=bA (ax.size h23) (en1.own 4 _ _ aa).new;have DC:gD (mF 1) 6 w4 3 3 vs3 (([]:List Value).map .val) fQ:=(mH hr3 aa (aM _) dh (by rw[dS];exact (hr3.ok (mF.el 1)).2)).kp (mF.el 1) (Kp.of (U:=UU) fv);refine⟨_,_,AK ja (hc3.aD fv) DC,[(1,.val (.pointer (some ⟨x1,0,none⟩))),(2,.val (.slice p2 3 c2)),(3,.val (.int .i64 0)),(4,.box 160 0)],⟨⟨_,aa,aa,λi hi=>(by cases hi)⟩,⟨_,aa,aa,λi hi=>(by cases hi)⟩,⟨_,aa,aa,λi hi=>(by cases hi)⟩,⟨_,aa,aa,λi hi=>(by cases aH.1 hi;exact⟨by show 160<=160;omega,by show 160<160+2;omega⟩)⟩,aj⟩,?_⟩;refine bT ?_;refine VO.cR aa aa (fk Tryz.func22) (λjM lI kY=>ta 1 2 jM ae ae ae ae) (λjM lI kY w5 s5 p5 n5 c5 t5 y5 m5 d5 q5 jJ qI _ CP=>wV aa ?_);refine bT ?_;have hed:mF 1 w5 [.int .i64 1,.int .i64 2,.bool s5,.slice p5 n5 c5,.bool t5,.slice y5 m5 d5] (DW 1 2 1 2):=⟨_,_,_,_,_,_,_,_,aa,Aw.of q5.rd (oX.of dh dh)⟩;refine VO.rX (cu _ _) (mF.el 1) (t:=22) (e:=37) (s:=21) (i:=161) (n:=3) (c:=3) (vs:=vs3) (sp:=([]:List Value).map .val) (es:=fQ) (a:=DW 1 2 1 2) (cs:=[.int .i64 1,.int .i64 2,.bool s5,.slice p5 n5 c5,.bool t5,.slice y5 m5 d5]) aa aa aa aa aa aa aa aa (cz aa) aa (.inl aa) aa (DC.kp (mF.el 1) qI) aa hed ae (λw9 cap Ar ρ k9 b9 dH qB=>wV aa ?_);refine bT ?_;refine VO.ud aa (fk yr) (λwc β a1 a2 a3=>ll (show Calls _ _ #[.agg #[.int .i64 3,.slice (some ⟨β 22,0,none⟩) 4 cap]] wc _ from xo 1 _ 3 (fQ++[DW 1 2 1 2]) 3 121 wc ⟨some ⟨β 22,0,none⟩,cap,aa,qB.sl' (mF.el 1) (a3.own 22 (.base (by simp[jt.ids,dG,AV.ids,aC,AV.dP,AV.mi])) _ _ aa) a1⟩ (aM _) ae ex_chkR) ?_);rintro e w6 ⟨rfl,rO⟩;refine⟨_,aa,rO,λk6 _ b6=>wV aa ?_⟩
 (repeat (first|refine wN ?_|refine wP aa ?_|refine wO aa aa ?_))
 refine VS.gS (cu _ _) (λW=>cxB0 Tryz.prog W) (λ_=>aa) (λ_=>aa) (λ_=>ax.refl _) (λW=>lG) 0 aa (wN ?_);refine⟨_,aa,λw7 β k7 b7 en=>⟨fk Tryz.func23,(show Calls _ _ #[] w7 _ from kW w7).mono ?_⟩⟩
 have h27:ax w2 w7:=fq.aD h24 b7.1 (λg hg=>by
  simp only[List.mem_cons,List.not_mem_nil,or_false] at hg;rcases hg with rfl|rfl
  ·exact hx4B
  ·exact hg3B)
 rintro e w8 ⟨g5,cs5,vs5,rfl,hB5,hc5,rfl,hr5,hg5,AL⟩;have h28:ax w2 w8:=h27.aB AL;have hg5B:w2.heap.size<=g5:=bA (ax.size h27) hB5;refine⟨_,[(1,.pointer (some ⟨x1,0,none⟩)),(2,.slice p2 3 c2),(3,.int .i64 0),(5,.int .i64 3),(6,.int .i64 121)],aa,⟨⟨_,_,aa,aa,aa⟩,⟨_,_,aa,aa,aa⟩,⟨_,_,aa,aa,aa⟩,⟨_,_,aa,aa,aa⟩,⟨_,_,aa,aa,aa⟩,aj⟩,λp hp=>(by simp at hp;rcases hp with rfl|rfl|rfl|rfl|rfl <;> exact λe=>(by cases e)),wV aa (wN ?_)⟩;clear k7 b7 en
 (repeat (first|refine wN ?_|refine wP aa ?_|refine wO aa aa ?_))
 refine VS.mE (KU UU) (λt=>Nat.beq t 31) table (λ_ _ _=>trivial) (λDV β3 k3 b3 en3=> ?_);have lL:ax w8 DV:=b3;have h210:ax w2 DV:=h28.aB lL;have hx10:aI DV (β3 7) 24 #[.int .i64 3,.slice (some ⟨g5,0,none⟩) 3 3]:=(en3.own 7 _ _ aa).cls;have hx10B:w2.heap.size<=β3 7:=bA (ax.size h28) (en3.own 7 _ _ aa).new;have hNC:gD (mF 1) 6 DV 3 3 vs5 (([]:List Value).map .val) fQ:=(mH hr5 aa (aM _) dh (by rw[dS];exact (hr5.ok (mF.el 1)).2)).kp (mF.el 1) (Kp.of (U:=UU) lL)
 have hadB:∀ g∈[β3 7,g5],w2.heap.size<=g:=λg hg=>by
  simp only[List.mem_cons,List.not_mem_nil,or_false] at hg;rcases hg with rfl|rfl
  ·exact hx10B
  ·exact hg5B
 refine⟨_,_,AK hx10 (hc5.aD lL) hNC,[(1,.val (.pointer (some ⟨x1,0,none⟩))),(2,.val (.slice p2 3 c2)),(3,.val (.int .i64 0)),(5,.val (.int .i64 3)),(6,.val (.int .i64 121)),(7,.box 160 0)],⟨⟨_,aa,aa,λi hi=>(by cases hi)⟩,⟨_,aa,aa,λi hi=>(by cases hi)⟩,⟨_,aa,aa,λi hi=>(by cases hi)⟩,⟨_,aa,aa,λi hi=>(by cases hi)⟩,⟨_,aa,aa,λi hi=>(by cases hi)⟩,⟨_,aa,aa,λi hi=>(by cases aH.1 hi;exact⟨by show 160<=160;omega,by show 160<160+2;omega⟩)⟩,aj⟩,?_⟩;refine bT ?_;refine VO.cR aa aa (fk Tryz.func22) (λrT ui xA=>ta 2 3 rT ae ae ae ae) (λrT ui xA w6 s6 p6 n6 c6 t6 y6 m6 d6 q6 rO xB _ Kf=>wV aa ?_);refine bT ?_;have hed2:mF 1 w6 [.int .i64 1,.int .i64 0,.bool s6,.slice p6 n6 c6,.bool t6,.slice y6 m6 d6] (DW 1 0 2 3):=⟨_,_,_,_,_,_,_,_,aa,Aw.of q6.rd (oX.of dh dh)⟩;refine VO.rX (cu _ _) (mF.el 1) (t:=22) (e:=37) (s:=34) (i:=161) (n:=3) (c:=3) (vs:=vs5) (sp:=([]:List Value).map .val) (es:=fQ) (a:=DW 1 0 2 3) (cs:=[.int .i64 1,.int .i64 0,.bool s6,.slice p6 n6 c6,.bool t6,.slice y6 m6 d6]) aa aa aa aa aa aa aa aa (cz aa) aa (.inl aa) aa (hNC.kp (mF.el 1) xB) aa hed2 ae (λw9 cap Ar ρ k9 b9 dH qB=>wV aa ?_);refine bT ?_;refine VO.ud aa (fk yr) (λwc β a1 a2 a3=>ll (show Calls _ _ #[.agg #[.int .i64 3,.slice (some ⟨β 35,0,none⟩) 4 cap]] wc _ from xo 1 _ 3 (fQ++[DW 1 0 2 3]) 3 120 wc ⟨some ⟨β 35,0,none⟩,cap,aa,qB.sl' (mF.el 1) (a3.own 35 (.base (by simp[jt.ids,dG,AV.ids,aC,AV.dP,AV.mi])) _ _ aa) a1⟩ (aM _) ae ex_chkO) ?_);rintro e w11 ⟨rfl,Al⟩;refine Nh Al ?_;intro k11 _ b11;have atB:∀ wq,(Jc Tryz.prog DV 80 [β3 7,g5] (AK hx10 (hc5.aD lL) hNC).nodup (AK hx10 (hc5.aD lL) hNC).ad).Old wq->ax w2 wq:=λwq h=>fq.aD h210 h.1 hadB
 have hx1n:x1∉[β3 7,g5]:=λhm=>by
  have:=hadB x1 hm;have:=AR.lt;omega
 refine VO.ud aa (fk Tryz.func11) (λwc β a1 a2 a3=>ll (show Calls _ _ #[.slice p2 3 c2,.slice (some ⟨β 46,0,none⟩) 3 3] wc _ from DI (hs2.aD bW (atB wc a2)) (lM bW (vs:=[[.int .i64 2],[.int .i64 0],[.int .i64 1]]) (spare:=[]) (a3.own 46 (.base (by simp[jt.ids,dG,AV.ids])) _ _ aa).cls (.cons aa (.cons aa (.cons aa .nil))) aa (aM _) dh)) ?_);rintro e w12 ⟨rfl,Am⟩;refine Nh Am ?_;intro k12 _ b12;refine VO.qk aa [.int .i64 3,.slice (some ⟨g1,0,none⟩) 3 3] aa (tr hx1n (jF (AR.aD h210))) (wV aa ?_);refine VO.callX bW (dst:=51) (t:=bF) (es:=[1,2]) aa aa aa (cz aa) (cz aa) aa (λwc β a1 a2 a3=>⟨fk Tryz.func17,ll (show Calls _ _ #[.agg #[.int .i64 3,.slice (some ⟨g1,0,none⟩) 3 3],.int .i64 1] wc _ from MO 1 _ 3 fQ 1 wc (hg2.aD (atB wc a2)) dh) ?_⟩);rintro e w13 ⟨r13,rfl,hr13,hb13⟩;rw[ex_into] at hr13;refine⟨_,aa,hb13,hr13,λk13 _ b13 jr=>(by cases jr),λc13 vs13 sp13 k13 _ b13 Ag hsp hle13 hcm13 uN=>wV aa ?_⟩;refine bT ?_;refine VO.ud aa (fk Tryz.func11) (λwc β a1 a2 a3=>ll (show Calls _ _ #[.slice (some ⟨β 51,0,none⟩) 2 c13,.slice (some ⟨β 52,0,none⟩) 2 2] wc _ from DI ((mH Ag hsp hle13 hcm13 uN).sl' bW (a3.own 51 (.base (by simp[jt.ids,dG,AV.ids])) _ _ aa) a1) (lM bW (vs:=[[.int .i64 1],[.int .i64 2]]) (spare:=[]) (a3.own 52 (.base (by simp[jt.ids,dG,AV.ids])) _ _ aa).cls (.cons aa (.cons aa .nil)) aa (aM _) dh)) ?_);rintro e w14 ⟨rfl,hb14⟩;refine Nh hb14 ?_;intro k14 _ b14;refine VO.qk aa [.int .i64 3,.slice (some ⟨g1,0,none⟩) 3 3] aa (tr hx1n (jF (AR.aD h210))) (wV aa ?_);refine VO.cB aa aa (fk jl) (λAo Ap CX=>FO _ Ao (hg2.aD (atB Ao CX))) (λAo Ap CX w15 hb15 kb15 _ bb15=>wV aa ?_);refine bT ?_;refine VO.qk aa [.int .i64 3,.slice (some ⟨g1,0,none⟩) 3 3] aa (tr hx1n (jF (AR.aD h210))) (wV aa ?_);refine VO.cB aa aa (fk jl) (λwa16 ka16 ba16=>AJ _ wa16 (hg2.aD (atB wa16 ba16))) (λwa16 ka16 ba16 w16 hb16 kb16 _ bb16=>wV aa ?_);refine bT ?_;refine VS.ret (cu _ _) aa aa (λwz kz bz=> ?_);exact⟨aa,hw2.aB (atB wz bz)⟩
set_option maxRecDepth 4000
variable {N:Int} {es:List iB}
theorem mG.place {a e:Int} (h:mG N es a e):0<=a/\(a<(es.length:Int)\/a=0):=by
 have lt:∀ {P:Nat->Gr.Ed->Prop} {j:Nat},Gr.jD (aX es) P j->(j:Int)<(es.length:Int):=λhf=>by
  obtain⟨⟨x,hx,_⟩,_⟩:=hf;have:=(bx.1 hx).1;rw[dy] at this;omega
 cases h with
 | lim _=>exact⟨pw _,.inr aa⟩
 | arg _ _ _ hf=>exact⟨ae,.inl (lt hf)⟩
 | share _ _ _ _ hf=>exact⟨ae,.inl (lt hf)⟩
 | ring _ _ _ _ _ hf=>exact⟨ae,.inl (lt hf)⟩
 | ok _ _ _ _ _ _=>exact⟨pw _,.inr aa⟩
variable {c m:Nat} {p:Option Addr}
theorem iE.less {α:Type} {E:World->List Value->α->Prop} {sz:Nat} {n:Nat} {es:List α} (h:iE E sz w (.slice p n c) es) (hm:m<=n):iE E sz w (.slice p m c) (es.take m):=by
 obtain⟨p',c',hv,h1,h2,h3⟩:=h;cases hv;have hl:(es.take m).length=m:=by rw[aR];omega
 refine⟨p,c,by rw[hl],ae,h2,λi q hq=> ?_⟩;rw[nv] at hq
 split at hq
 ·exact h3 i q hq
 ·cases hq
theorem gE.less {kk:Nat} {E:Nat} (h:gE kk w (.agg #[.int .i64 N,.slice p E c]) N es) (hm:m<=es.length):gE kk w (.agg #[.int .i64 N,.slice p m c]) N (es.take m):=by
 obtain⟨p4,c4,e4,hs4⟩:=h;cases e4;have uL:(es.take m).length=m:=by rw[aR];omega
 exact⟨p,c,by rw[uL],by rw[uL];exact hs4.less hm⟩
variable {i k:Int}
theorem uF.less (h:uF N (es.take m) i k) (hf:Gr.qw N (aX es)):uF N es i k:=by
 obtain⟨_,h1,h2,h3⟩:=h;refine⟨hf,h1,h2,?_⟩;unfold Gr.iy at h3 ⊢;refine h3.mono λa b ⟨e,he,q⟩=>⟨e,?_,q⟩;rw[qz] at he;have:=lf (lf he);rw[<-dy es,Bf];exact this
theorem uF.trans {n:Int} (h:uF N es i k) (g:uF N es k n):uF N es i n:=
 ⟨h.1,h.2.1,g.2.2.1,Gr.xD.trans h.2.2.2 g.2.2.2⟩
theorem uF.self (h:uF N es i i):False:=h.1.acyclic i (by have:=h.2.2.2;rwa [<-dy es] at this)
theorem FP (kk:Nat) (v:Value) (N:Int) (es:List iB) (i k n:Int) (w:World) (hv:gE kk w v N es):
  Calls Tryz.prog 4 #[v,.int .i64 i,.int .i64 k,.int .i64 n] w λo w'=>o=.returned (.bool true)/\ax w w':=by
 have xH:=hv;obtain⟨p,c,rfl,hs⟩:=hv;obtain⟨p',c',hv',hle,fO⟩:=hs.form;cases hv';obtain⟨E,hE⟩:∃ E,E=es.length:=⟨_,aa⟩;rw[<-hE] at hs hle xH ⊢;refine ar (C:=bD Tryz.prog w _) (args:=[_,_,_,_]) Tryz.func4 aa Tryz.ntmps4 (cz aa) ?_;refine af ?_;refine VO.call aa aa (fk Tryz.func7) (λgQ ky kV=>(JT kk _ N es gQ (xH.aD kV)).mono ?_);rintro e w1 ⟨b1,rfl,q1,bS⟩
 skip
 refine ck bS ?_;intro nZ _ bb1;cases b1 with
 | false=>
   refine af ?_;refine VO.cB aa aa (fk pz) (λgI jK iV=>dD gI) (λgI jK iV w2 bO oc _ bb2=>wV aa ?_);refine af ?_;refine bH ?_;intro wz kz bz;exact⟨aa,bz⟩
 | true=>
 obtain⟨f1,f2,f3⟩:=q1 aa;have JU:=xH.down f3;refine af ?_;refine VO.call aa aa (fk yr) (λgI jK iV=>(tf 4 _ N es gI (JU.aD iV) ae ae).mono ?_);rintro e w2 ⟨a2,e2,rfl,q2,bO⟩
 skip
 refine ck bO ?_;intro oc _ bb2;by_cases h2:e2=0
 case neg=>
  refine VS.bJ aa (show (e2 != 0)=true by simpa using h2) ?_;obtain⟨g1,g2⟩:=q2.place;rw[<-hE] at g2;refine af ?_;refine VO.fix 27 aa (ai (λb=>AV.val (.bool b)) (aU (show a2>=0 from g1))) ?_;refine af ?_;have tail:True:=aj;by_cases g3:a2<(E:Int)
  ·refine VO.fix 33 aa (ai (λb=>AV.val (.bool b)) (aU g3)) ?_;refine af ?_;refine VO.call aa aa (fk jl) (λfS gR gY=>(bV 4 _ N es i k fS (JU.aD gY) ae ae).mono ?_);rintro e w3 ⟨b3,rfl,q3,dc⟩
   skip
   refine ck dc ?_;intro nj _ bb3;cases b3 with
   | true=>exact absurd (q3.1 aa).1 (q2.not h2)
   | false=>
   refine af ?_;refine VO.cB aa aa (fk pz) (λjL lV mz=>dD jL) (λjL lV mz w4 fv rQ _ CO=>wV aa ?_);refine af ?_;refine bH ?_;intro wz kz bz;exact⟨aa,bz⟩
  ·refine VO.fix 33 aa (ai (λb=>AV.val (.bool b)) (bo g3)) ?_;refine af ?_;obtain rfl:a2=0:=g2.resolve_left g3;refine af ?_;refine VO.call aa aa (fk jl) (λfS gR gY=>(bV 4 _ N es i k fS (JU.aD gY) ae ae).mono ?_);rintro e w3 ⟨b3,rfl,q3,dc⟩
   skip
   refine ck dc ?_;intro nj _ bb3;cases b3 with
   | true=>exact absurd (q3.1 aa).1 (q2.not h2)
   | false=>
   refine af ?_;refine VO.cB aa aa (fk pz) (λjL lV mz=>dD jL) (λjL lV mz w4 fv rQ _ CO=>wV aa ?_);refine af ?_;refine bH ?_;intro wz kz bz;exact⟨aa,bz⟩
 subst h2;obtain⟨pQ,rfl⟩:=q2.Mx;refine af ?_;obtain⟨m,hm⟩:∃ m,m=E-1:=⟨_,aa⟩
 have hmx:rB 0 [IntKind.i64.wrap ((E:Int)-1)]=(m:Int):=by
  have:IntKind.i64.wrap ((E:Int)-1)=(E:Int)-1:=by rw[lj];omega
  show (if IntKind.i64.wrap ((E:Int)-1)>0 then IntKind.i64.wrap ((E:Int)-1) else 0)=(m:Int);rw[this]
  split <;> omega
 refine VO.fix 56 aa (ai (λz=>AV.val (.int .i64 z)) (hmx)) ?_;refine VO.cond aa ⟨pw 0,by show (0:Int)<=(m:Int);omega,by show (m:Int)<=(c:Int);omega,ae⟩ ?_
 refine VO.fix 57 aa (show AV.val (.slice (if c=(0:Int).toNat then p else p.map (·.add ((0:Int).toNat*6))) ((m:Int).toNat-(0:Int).toNat) (c-(0:Int).toNat))=.val (.slice p m c) by
  have:p.map (λa:Addr=>a.add ((0:Int).toNat*6))=p:=by cases p <;> rfl
  rw[this,aQ,Int.toNat_zero,pt,pt,ite_self]) (wV rfl ?_)
 have hless:=JU.less (m:=m) ae
 have uN:mG N (es.take m) 0 0:=by
  unfold mG;rw[qz];exact (pQ.take m).chk
 refine af ?_;refine VO.call aa aa (fk yr) (λfS gR gY=>(xo 4 _ N (es.take m) 0 0 fS (hless.aD gY) ae ae uN).mono ?_);rintro e w3 ⟨rfl,dc⟩
 skip
 refine ck dc ?_;intro nj _ bb3;refine VO.call aa aa (fk jl) (λjL lV mz=>(bV 4 _ N (es.take m) i k jL (hless.aD mz) ae ae).mono ?_);rintro e w4 ⟨b4,rfl,q4,fv⟩
 skip
 refine ck fv ?_;intro rQ _ CO;cases b4 with
 | true=>
   refine af ?_;refine VO.call aa aa (fk jl) (λjM lI kY=>(bV 4 _ N es i k jM (JU.aD kY) ae ae).mono ?_);rintro e w5 ⟨b5,rfl,q5,jJ⟩
   skip
   refine ck jJ ?_;intro qI _ CP;cases b5 with
   | false=>
     have:=q5.2 ((q4.1 aa).less pQ);cases this
   | true=>
   refine af ?_;refine VO.call aa aa (fk jl) (λrT ui xA=>(bV 4 _ N es i i rT (JU.aD xA) ae ae).mono ?_);rintro e w6 ⟨b6,rfl,q6,rO⟩
   skip
   refine ck rO ?_;intro xB _ Kf;cases b6 with
   | true=>exact ((q6.1 aa).self).elim
   | false=>
   refine af ?_;refine VO.call aa aa (fk jl) (λDU Fb AU=>(bV 4 _ N es i k DU (JU.aD AU) ae ae).mono ?_);rintro e w7 ⟨b7,rfl,q7,zd⟩
   skip
   refine ck zd ?_;intro Hg _ bb7;cases b7 with
   | false=>
     refine af ?_;refine VO.cB aa aa (fk pz) (λgC jO oe=>dD gC) (λgC jO oe DV lL fP _ xW=>wV aa ?_);refine af ?_;refine bH ?_;intro wz kz bz;exact⟨aa,bz⟩
   | true=>
   refine af ?_;refine VO.call aa aa (fk jl) (λwa8 ka8 ba8=>(bV 4 _ N es k n wa8 (JU.aD ba8) ae ae).mono ?_);rintro e w8 ⟨b8,rfl,q8,AL⟩
   skip
   refine ck AL ?_;intro Hh _ bb8;cases b8 with
   | false=>
     refine af ?_;refine VO.cB aa aa (fk pz) (λgC jO oe=>dD gC) (λgC jO oe DV lL fP _ xW=>wV aa ?_);refine af ?_;refine bH ?_;intro wz kz bz;exact⟨aa,bz⟩
   | true=>
   refine af ?_;refine VO.call aa aa (fk jl) (λwa9 ka9 ba9=>(bV 4 _ N es i n wa9 (JU.aD ba9) ae ae).mono ?_);rintro e w9 ⟨b9,rfl,q9,hb9⟩
   skip
   refine ck hb9 ?_;intro Jl _ bb9;cases b9 with
   | false=>
     have:=q9.2 ((q7.1 aa).trans (q8.1 aa));cases this
   | true=>
   refine af ?_;refine VO.cB aa aa (fk pz) (λgC jO oe=>dD gC) (λgC jO oe DV lL fP _ xW=>wV aa ?_);refine af ?_;refine bH ?_;intro wz kz bz;exact⟨aa,bz⟩
 | false=>
 refine af ?_;refine VO.call aa aa (fk jl) (λrT ui xA=>(bV 4 _ N es i i rT (JU.aD xA) ae ae).mono ?_);rintro e w6 ⟨b6,rfl,q6,rO⟩
 skip
 refine ck rO ?_;intro xB _ Kf;cases b6 with
 | true=>exact ((q6.1 aa).self).elim
 | false=>
 refine af ?_;refine VO.call aa aa (fk jl) (λDU Fb AU=>(bV 4 _ N es i k DU (JU.aD AU) ae ae).mono ?_);rintro e w7 ⟨b7,rfl,q7,zd⟩
 skip
 refine ck zd ?_;intro Hg _ bb7;cases b7 with
 | false=>
   refine af ?_;refine VO.cB aa aa (fk pz) (λgC jO oe=>dD gC) (λgC jO oe DV lL fP _ xW=>wV aa ?_);refine af ?_;refine bH ?_;intro wz kz bz;exact⟨aa,bz⟩
 | true=>
 refine af ?_;refine VO.call aa aa (fk jl) (λwa8 ka8 ba8=>(bV 4 _ N es k n wa8 (JU.aD ba8) ae ae).mono ?_);rintro e w8 ⟨b8,rfl,q8,AL⟩
 skip
 refine ck AL ?_;intro Hh _ bb8;cases b8 with
 | false=>
   refine af ?_;refine VO.cB aa aa (fk pz) (λgC jO oe=>dD gC) (λgC jO oe DV lL fP _ xW=>wV aa ?_);refine af ?_;refine bH ?_;intro wz kz bz;exact⟨aa,bz⟩
 | true=>
 refine af ?_;refine VO.call aa aa (fk jl) (λwa9 ka9 ba9=>(bV 4 _ N es i n wa9 (JU.aD ba9) ae ae).mono ?_);rintro e w9 ⟨b9,rfl,q9,hb9⟩
 skip
 refine ck hb9 ?_;intro Jl _ bb9;cases b9 with
 | false=>
   have:=q9.2 ((q7.1 aa).trans (q8.1 aa));cases this
 | true=>
 refine af ?_;refine VO.cB aa aa (fk pz) (λgC jO oe=>dD gC) (λgC jO oe DV lL fP _ xW=>wV aa ?_);refine af ?_;refine bH ?_;intro wz kz bz;exact⟨aa,bz⟩
end
section
open Go.RowKit
section
variable {H:Type} {enc:TypeId×Value->H} {w:World} {held:Bool}
def sm:Nat:=9223372036854775807
theorem qG (cs:List Value) (o n m:Nat) (h:m=o+n):cs.drop o=(cs.drop o).take n++cs.drop m:=by
 rw[h,<-List.drop_drop,oZ]
variable {x:DataW H×List MemPlace} {cs:List Value} {fuel:Nat}
set_option maxRecDepth 100000 in
theorem open_rw (h:DataW.trod enc Tryz.prog w 0 (λ_=>true) held fuel 35 cs=some x):∃ a:Rw,Aw sm w cs a:=by
 obtain⟨s,p,n,c,t,r,m,d,xs,ys,rfl,hr⟩:=Mm h;have Br:=hr;obtain⟨p',c',r',d',hv,h1,h2⟩:=hr;simp only[Value.agg.injEq,Array.mk.injEq,List.cons.injEq,and_true,Value.slice.injEq,Value.bool.injEq] at hv;obtain⟨_,⟨rfl,rfl,rfl⟩,_,rfl,rfl,rfl⟩:=hv;obtain⟨_,_,_,sx,_⟩:=h1;obtain⟨_,_,_,vQ,_⟩:=h2;obtain⟨_,_,_,a1,a2,_⟩:=sx.u32;obtain⟨_,_,_,b1,b2,_⟩:=vQ.u32;exact⟨⟨s,xs,t,ys⟩,_,_,_,_,_,_,_,_,aa,Br,(show xs.length<=sm by unfold sm;omega),(show ys.length<=sm by unfold sm;omega)⟩
set_option maxRecDepth 100000 in
theorem Ni {α:Type} {E:World->List Value->α->Prop} {sz:Nat} {t e:TypeId} (hu:Tryz.prog.underlying t=some (.slice e)) (hc:Tryz.prog.cellsOf e=sz) (vG:0<sz)
  (Ag:∀ {fuel:Nat} {cs:List Value} {x:DataW H×List MemPlace},DataW.trod enc Tryz.prog w 0 (λ_=>true) held fuel e cs=some x->∃ a,E w cs a)
  (hf:DataW.trod enc Tryz.prog w 0 (λ_=>true) held fuel t cs=some x):∃ (p:Option Addr) (n c:Nat) (es:List α),cs=[.slice p n c]/\iE E sz w (.slice p n c) es:=by
 rcases DataW.trod_slice hu hf with ⟨e,_⟩|⟨a,len',cap',elems,rest,n,_,e,_,_,hl,hm,hle,rk,_⟩
 ·exact⟨none,0,0,[],e,iE.nil _ _ _⟩
 ·refine⟨some a,len',cap',?_⟩;rw[hc] at rk
  have each:∀ i,i<len'->∃ q,∃ b off cs,some a=some ⟨b,off,none⟩/\(∀ (j:Nat) (u:Value),cs[j]? =some u->w.cell? ⟨b,off+i*sz+j,none⟩=some u)/\E w cs q:=by
   intro i hi;obtain⟨y,hy⟩:∃ y,elems[i]? =some y:=⟨_,aZ ae⟩;have hb:=rk i hi;rw[hy,Gb] at hb;obtain⟨cs,hcs,ht⟩:=hb;obtain⟨q,hq⟩:=Ag ht;obtain⟨_,hlen,hcell⟩:=World.cells?_some hcs;obtain⟨b,off,spot⟩:=a
   have hspot:spot=none:=by
    obtain⟨y0,Kn⟩:∃ y,elems[0]? =some y:=⟨_,aZ ae⟩;have ng:=rk 0 ae;rw[Kn,Gb] at ng;obtain⟨cs0,hcs0,ht0⟩:=ng;obtain⟨_,hlen0,hcell0⟩:=World.cells?_some hcs0;have h00:=hcell0 0 vG;rw[aZ ae] at h00;have g0:=World.cell?_spot h00;simpa [Addr.add] using g0
   subst hspot;refine⟨q,b,off,cs,aa,λj u hj=> ?_,hq⟩;have hjl:j<sz:=by have:=(bx.1 hj).1;omega
   have:=hcell j hjl;rw[WideShapes.add_plain,WideShapes.add_plain] at this;rw[this];exact hj
  obtain⟨qs,hql,hqs⟩:=Mn len' each;subst hql;exact⟨qs,e,_,_,aa,hl,hm,λi q hq=>hqs i q hq⟩
set_option maxRecDepth 100000 in
theorem JV (h:DataW.trod enc Tryz.prog w 0 (λ_=>true) held fuel 37 cs=some x):∃ e:iB,mF sm w cs e:=by
 obtain⟨zs,n,rfl,rfl,hl,ij,hf⟩:=Gm Tryz.underlying37 h
 have yU:cs.length=6:=by
  have c:Tryz.prog.cellsOf 37=6:=by kernel_rfl
  rw[c] at hl;exact hl
 have hy2:zs.length=3:=ij;obtain⟨z0,jN⟩:∃ z,zs[0]? =some z:=⟨_,aZ ae⟩;obtain⟨z1,kM⟩:∃ z,zs[1]? =some z:=⟨_,aZ ae⟩;obtain⟨z2,mZ⟩:∃ z,zs[2]? =some z:=⟨_,aZ ae⟩;have cc0:Tryz.prog.cellsOf 3=1:=by kernel_rfl
 have h0:=hf 0 _ aa;rw[jN] at h0;change DataW.trod enc Tryz.prog w 0 (λ_=>true) held n 3 ((cs.drop 0).take (Tryz.prog.cellsOf 3))=some z0 at h0;rw[cc0] at h0;have cc1:Tryz.prog.cellsOf 3=1:=by kernel_rfl
 have h1:=hf 1 _ aa;rw[kM] at h1;change DataW.trod enc Tryz.prog w 0 (λ_=>true) held n 3 ((cs.drop 1).take (Tryz.prog.cellsOf 3))=some z1 at h1;rw[cc1] at h1;have cc2:Tryz.prog.cellsOf 35=4:=by kernel_rfl
 have h2:=hf 2 _ aa;rw[mZ] at h2;change DataW.trod enc Tryz.prog w 0 (λ_=>true) held n 35 ((cs.drop 2).take (Tryz.prog.cellsOf 35))=some z2 at h2;rw[cc2] at h2;obtain⟨x0,e0,_,Gy⟩:=DataW.trod_int vz h0;obtain⟨x1,e1,_,uQ⟩:=DataW.trod_int vz h1;obtain⟨x2,AR⟩:=open_rw h2;have a0:cs.drop 0=(cs.drop 0).take 1++cs.drop 1:=qG cs 0 1 1 aa;have a1:cs.drop 1=(cs.drop 1).take 1++cs.drop 2:=qG cs 1 1 2 aa;have a2:cs.drop 2=(cs.drop 2).take 4:=by rw[du];rw[nz];omega
 have ecs:cs=(cs.drop 0).take 1++((cs.drop 1).take 1++((cs.drop 2).take 4)):=by
  have a:cs=cs.drop 0:=aa;rw[a0] at a;rw[a1] at a;rw[a2] at a;exact a
 obtain⟨s,p,n,c,t,y,m,d,e2,h⟩:=AR;rw[ecs,e0,e1,e2];exact⟨⟨x0,x1,x2⟩,s,p,n,c,t,y,m,d,aa,⟨s,p,n,c,t,y,m,d,aa,h⟩⟩
set_option maxRecDepth 100000 in
theorem FQ (h:DataW.trod enc Tryz.prog w 0 (λ_=>true) held fuel 24 cs=some x):∃ (N:Int) (es:List iB),gE sm w (.agg cs.toArray) N es:=by
 obtain⟨zs,n,rfl,rfl,hl,ij,hf⟩:=Gm Tryz.underlying24 h
 have yU:cs.length=2:=by
  have c:Tryz.prog.cellsOf 24=2:=by kernel_rfl
  rw[c] at hl;exact hl
 have hy2:zs.length=2:=ij;obtain⟨z0,jN⟩:∃ z,zs[0]? =some z:=⟨_,aZ ae⟩;obtain⟨z1,kM⟩:∃ z,zs[1]? =some z:=⟨_,aZ ae⟩;have cc0:Tryz.prog.cellsOf 3=1:=by kernel_rfl
 have h0:=hf 0 _ aa;rw[jN] at h0;change DataW.trod enc Tryz.prog w 0 (λ_=>true) held n 3 ((cs.drop 0).take (Tryz.prog.cellsOf 3))=some z0 at h0;rw[cc0] at h0;have cc1:Tryz.prog.cellsOf 22=1:=by kernel_rfl
 have h1:=hf 1 _ aa;rw[kM] at h1;change DataW.trod enc Tryz.prog w 0 (λ_=>true) held n 22 ((cs.drop 1).take (Tryz.prog.cellsOf 22))=some z1 at h1;rw[cc1] at h1;obtain⟨x0,e0,_,Gy⟩:=DataW.trod_int vz h0;obtain⟨p1,n1,d1,x1,e1,g1⟩:=Ni (E:=mF sm) (sz:=6) Tryz.underlying22 (by kernel_rfl) ae (λh=>JV h) h1;have a0:cs.drop 0=(cs.drop 0).take 1++cs.drop 1:=qG cs 0 1 1 aa;have a1:cs.drop 1=(cs.drop 1).take 1:=by rw[du];rw[nz];omega
 have ecs:cs=(cs.drop 0).take 1++((cs.drop 1).take 1):=by
  have a:cs=cs.drop 0:=aa;rw[a0] at a;rw[a1] at a;exact a
 have g2:=g1;obtain⟨p',c',hv',h1,h2,h3⟩:=g2;cases hv';rw[ecs,e0,e1];exact⟨x0,x1,p1,d1,aa,g1⟩
set_option maxRecDepth 100000 in
theorem xy {v:Value} {d:DataW H} {ps:List MemPlace} {r:_root_.Go.Reach} {b0:Nat} (hv:Value.okWide Tryz.prog w r b0 24 v) (h:DataW.Trod enc Tryz.prog w 0 (λ_=>true) held 24 v d ps):∃ (N:Int) (es:List iB),gE sm w v N es:=by
 obtain⟨cs,rfl,_⟩:=WideShapes.okWide_struct Tryz.underlying24 hv;obtain⟨fuel,hf⟩:=h;obtain⟨N,es,he⟩:=FQ hf;exact⟨N,es,by simpa [Value.cells] using he⟩
end
end
end Go.Proofs.YtphfjihmohoffaaGreat
