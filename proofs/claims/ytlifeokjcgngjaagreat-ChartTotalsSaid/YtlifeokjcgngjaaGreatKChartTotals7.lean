/-yV of the proof,laid behind one another. -/
import Derived.Test.YtlifeokjcgngjaaGreatKChartTotals6
set_option linter.all false
set_option maxHeartbeats 64000000
set_option maxRecDepth 4000
namespace Go.Proofs.YtlifeokjcgngjaaGreat
section
open Go.RowKit
attribute [local irreducible] aB VS
theorem fN (a:ByteArray):(!(a.toList == a.toList))=false:=by simp
theorem EN (a:Bool):(!(a == a))=false:=by simp
set_option maxRecDepth 4000 in
theorem yf (s:Bool) (xs:List Nat) (v u:Value) (w:World) (hv:fi w v s xs) (hu:fi w u s xs):
  Calls Tryz.prog 132 #[v,u] w λe w'=>e=.returned (.bool true)/\ax w w':=by
 obtain⟨p,c,rfl,hv⟩:=hv
 obtain⟨q,d,rfl,hu⟩:=hu
 have hr:=hv.1
 have hs:=hu.1
 clear hv hu
 obtain⟨n,hn⟩:∃ n,n=xs.length:=⟨_,rfl⟩
 rw[<-hn] at hr hs
 rw[<-hn]
 obtain⟨_,_,e1,gg,gF,fc⟩:=hr.u32
 obtain⟨_,_,e2,Hc,Cg,_⟩:=hs.u32
 cases e1
 cases e2
 refine ai (C:=bj Tryz.prog w _) (args:=[_,_]) Tryz.func132 rfl Tryz.ntmps132 (cr rfl) ?_
 refine ae ?_
 refine VO.fix 11 rfl (congrArg (λb=>AV.val (.bool b)) (EN _)) ?_
 refine ae ?_
 refine VS.aN rfl (ig rfl) ?_
 refine ae ?_
 refine VS.loop (J:=λms L M w'=>∃ (k:Nat),k<=n/\ms=n-k/\L=[(2,.box 2 0),(3,.box 3 0),(5,.val (.int .i64 (k:Int)))]/\M=[(2,(36,[.val (.bool s),.val (.slice p n c)])),(3,(36,[.val (.bool s),.val (.slice q n d)]))]) n ⟨_,_,?_,?_,?_,?_,⟨0,by omega,rfl,rfl,rfl⟩⟩ ?_
 ·exact du
 ·exact du
 ·rfl
 ·exact iq
 rintro ms L M w' ⟨k,hk,hms,rfl,rfl⟩
 refine ae ?_
 by_cases nO:k<n
 ·refine VS.aU rfl (decide_eq_true (Int.ofNat_lt.2 nO)) ?_
  obtain⟨b1,o1,x,rfl,bl,fP,nN⟩:=hr.cellAt nO
  obtain⟨b2,o2,y,rfl,bM,lX,qA⟩:=hs.cellAt nO
  obtain rfl:x=y:=by rw[fP] at lX;exact Option.some.inj lX
  refine ae ?_
  refine VO.cond rfl cW ?_
  refine wV rfl ?_
  refine ae ?_
  refine VO.read rfl [.int .u32 (x:Int)] rfl (ja rfl nN) (wV rfl ?_)
  refine ae ?_
  refine VO.cond rfl cW ?_
  refine wV rfl ?_
  refine ae ?_
  refine VO.read rfl [.int .u32 (x:Int)] rfl (ja rfl qA) (wV rfl ?_)
  refine ae ?_
  refine VS.aN rfl (ig rfl) ?_
  refine ae ?_
  refine VS.back (n-(k+1)) aa ⟨_,_,?_,?_,?_,?_,⟨k+1,by omega,rfl,rfl,rfl⟩⟩
  ·refine⟨rfl,rfl,?_,trivial⟩
   rw[<-ay aa];rfl
  ·exact du
  ·rfl
  ·exact iq
 ·refine VS.aN rfl (decide_eq_false (λe=>nO (Int.ofNat_lt.1 e))) ?_
  refine ae ?_
  refine bV ?_;intro wz kz bz
  exact⟨rfl,bz⟩
theorem et (s t:Bool) (xs ys:List Nat) (v u:Value) (w:World) (hv:dZ w v s xs t ys) (hu:dZ w u s xs t ys):
  Calls Tryz.prog 67 #[v,u] w λe w'=>e=.returned (.bool true)/\ax w w':=by
 obtain⟨p,c,r,d,rfl,v1,v2⟩:=hv
 obtain⟨p',c',r',d',rfl,u1,u2⟩:=hu
 refine ai (C:=bj Tryz.prog w _) (args:=[_,_]) Tryz.func67 rfl Tryz.ntmps67 (cr rfl) ?_
 refine ae ?_
 refine VO.cB rfl rfl (fk Tryz.func132) (λbL dw bX=>yf s xs _ _ bL (v1.az bX) (u1.az bX)) (λbL dw bX w1 bl eM _ bb1=>wV rfl ?_)
 refine ae ?_
 refine VO.cB rfl rfl (fk Tryz.func132) (λdh eU dQ=>yf t ys _ _ dh (v2.az dQ) (u2.az dQ)) (λdh eU dQ w2 bM gr _ bb2=>wV rfl ?_)
 refine ae ?_
 refine bV ?_;intro wz kz bz
 exact⟨rfl,bz⟩
set_option maxRecDepth 8000 in
theorem Bq (v u:List Value) (y:yO) (j k:Nat) (w:World) (hv:Bg j w v y) (hu:Bg k w u y):
  Calls Tryz.prog 68 #[.agg v.toArray,.agg u.toArray] w λe w'=>e=.returned (.bool true)/\ax w w':=by
 obtain⟨yh,yb,yd,ys,yq,rfl,y1,y2,y3,y4,y5⟩:=hv
 obtain⟨uh,ub,ud,us,uq,rfl,u1,u2,u3,u4,u5⟩:=hu
 obtain⟨ph,nh,ch,rfl,NU⟩:∃ p n c,yh=.slice p n c/\n=y.holds.length:=by obtain⟨p,c,e⟩:=y1.sl;exact⟨_,_,_,e,rfl⟩
 obtain⟨ph',ch',rfl⟩:∃ p c,uh=.slice p nh c:=by obtain⟨p,c,e⟩:=u1.sl;rw[<-NU] at e;exact⟨_,_,e⟩
 obtain⟨pb,nb,cb,rfl,Aj⟩:∃ p n c,yb=.slice p n c/\n=y.cf.length:=by obtain⟨p,c,e⟩:=y2.sl;exact⟨_,_,_,e,rfl⟩
 obtain⟨pb',cb',rfl⟩:∃ p c,ub=.slice p nb c:=by obtain⟨p,c,e⟩:=u2.sl;rw[<-Aj] at e;exact⟨_,_,e⟩
 obtain⟨pd,nd,cd,rfl,Ll⟩:∃ p n c,yd=.slice p n c/\n=y.dG.length:=by obtain⟨p,c,e⟩:=y3.sl;exact⟨_,_,_,e,rfl⟩
 obtain⟨pd',cd',rfl⟩:∃ p c,ud=.slice p nd c:=by obtain⟨p,c,e⟩:=u3.sl;rw[<-Ll] at e;exact⟨_,_,e⟩
 obtain⟨ps,ns,cs,rfl,NV⟩:∃ p n c,ys=.slice p n c/\n=y.dp.length:=by obtain⟨p,c,e⟩:=y4.sl;exact⟨_,_,_,e,rfl⟩
 obtain⟨ps',jg,rfl⟩:∃ p c,us=.slice p ns c:=by obtain⟨p,c,e⟩:=u4.sl;rw[<-NV] at e;exact⟨_,_,e⟩
 obtain⟨pq,nq,cq,rfl,NW⟩:∃ p n c,yq=.slice p n c/\n=y.gf.length:=by obtain⟨p,c,e⟩:=y5.sl;exact⟨_,_,_,e,rfl⟩
 obtain⟨pq',cq',rfl⟩:∃ p c,uq=.slice p nq c:=by obtain⟨p,c,e⟩:=u5.sl;rw[<-NW] at e;exact⟨_,_,e⟩
 have bnh:nh<=9223372036854775807:=by obtain⟨_,_,e,h1,h2⟩:=y1.form;cases e;exact Nat.le_trans h1 h2
 have bnb:nb<=9223372036854775807:=by obtain⟨_,_,e,h1,h2⟩:=y2.form;cases e;exact Nat.le_trans h1 h2
 have bnd:nd<=9223372036854775807:=by obtain⟨_,_,e,h1,h2⟩:=y3.form;cases e;exact Nat.le_trans h1 h2
 have bns:ns<=9223372036854775807:=by obtain⟨_,_,e,h1,h2⟩:=y4.form;cases e;exact Nat.le_trans h1 h2
 have bnq:nq<=9223372036854775807:=by obtain⟨_,_,e,h1,h2⟩:=y5.form;cases e;exact Nat.le_trans h1 h2
 refine ai (C:=bj Tryz.prog w _) (args:=[_,_]) Tryz.func68 rfl Tryz.ntmps68 (cr rfl) ?_
 refine ae ?_
 refine VO.fix 21 rfl (congrArg (λb=>AV.val (.bool b)) (ig rfl)) ?_
 refine ae ?_
 refine VO.fix 30 rfl (congrArg (λb=>AV.val (.bool b)) (ig rfl)) ?_
 refine ae ?_
 refine VO.fix 39 rfl (congrArg (λb=>AV.val (.bool b)) (ig rfl)) ?_
 refine ae ?_
 refine VO.fix 48 rfl (congrArg (λb=>AV.val (.bool b)) (ig rfl)) ?_
 refine ae ?_
 refine VO.fix 57 rfl (congrArg (λb=>AV.val (.bool b)) (ig rfl)) ?_
 refine ae ?_
 refine VS.aN rfl (ig rfl) ?_
 refine ae ?_
 refine VS.loop (J:=λm L M w'=>∃ z:Nat,z<=nh/\m=nh-z/\L=[(2,.box 2 0),(3,.box 3 0),(5,.val (.int .i64 (z:Int)))]/\M=[(2,(136,[.int .i64 y.num,.slice ph nh ch,.slice pb nb cb,.slice pd nd cd,.slice ps ns cs,.slice pq nq cq].map AV.val)),(3,(136,[.int .i64 y.num,.slice ph' nh ch',.slice pb' nb cb',.slice pd' nd cd',.slice ps' ns jg,.slice pq' nq cq'].map AV.val))]) nh ⟨_,_,?_,?_,?_,?_,⟨0,by omega,rfl,rfl,rfl⟩⟩ ?_
 ·exact du
 ·exact du
 ·rfl
 ·exact iq
 rintro m L M wJ ⟨z,hz,rfl,rfl,rfl⟩
 refine ae ?_
 by_cases hlt:z<nh
 ·obtain⟨x,hx⟩:∃ x,(y.holds)[z]? =some x:=⟨_,List.getElem?_eq_getElem aa⟩
  obtain⟨b1,o1,cs1,rfl,ik,nS⟩:=y1.at hx
  obtain⟨b2,o2,Iw,rfl,jl,nU⟩:=u1.at hx
  obtain⟨BF,Gw,Gx,IE,t11,IG,IH,d11,rfl,tS⟩:=nS
  obtain⟨KJ,KL,KM,KN,t21,KO,KP,d21,rfl,tU⟩:=nU
  refine VS.aU rfl (decide_eq_true (Int.ofNat_lt.2 hlt)) ?_
  (repeat (first|refine wN ?_|refine wP rfl ?_|refine wO rfl rfl ?_))
  refine VS.Ot (cV _ _) (rU _ _) [] [1,4,6,9] [12,13] [6,7] (by kernel_rfl) ?_
  refine gK.chunk (l2:=[1,2,3,4,5,6,7,8,9,10,11,12,13]) [0] rfl ?_
  refine ae ?_
  refine gK.l (j:=1) rfl rfl rfl rfl rfl ?_
  refine ae ?_
  refine gK.chunk (l2:=[4,5,6,7,8,9,10,11,12,13]) [2,3] rfl ?_
  refine ae ?_
  refine VO.cond rfl cW ?_
  refine wV rfl ?_
  refine ae ?_
  refine gK.b (j:=4) rfl rfl rfl rfl ?_
  refine VO.read rfl [.string x.1,.string x.2.1,.bool BF,.slice Gw Gx IE,.bool t11,.slice IG IH d11] rfl (aC ik 0 _ ⟨[],rfl⟩) (wV rfl ?_)
  refine ae ?_
  refine gK.chunk (l2:=[6,7,8,9,10,11,12,13]) [5] rfl ?_
  refine ae ?_
  refine gK.l (j:=6) rfl rfl rfl rfl rfl ?_
  refine ae ?_
  refine gK.chunk (l2:=[9,10,11,12,13]) [7,8] rfl ?_
  refine ae ?_
  refine VO.cond rfl cW ?_
  refine wV rfl ?_
  refine ae ?_
  refine gK.b (j:=9) rfl rfl rfl rfl ?_
  refine VO.read rfl [.string x.1,.string x.2.1,.bool KJ,.slice KL KM KN,.bool t21,.slice KO KP d21] rfl (aC jl 0 _ ⟨[],rfl⟩) (wV rfl ?_)
  refine ae ?_
  refine gK.chunk (l2:=[12,13]) [10,11] rfl ?_
  refine ae ?_
  refine gK.s (j:=12) rfl ⟨_,_,_,6,0,rfl,rfl,by simp⟩ rfl ?_
  refine ae ?_
  refine gK.s (j:=13) rfl ⟨_,_,_,7,0,rfl,rfl,by simp⟩ rfl ?_
  refine ae ?_
  refine VO.fix 88 rfl (congrArg (λb=>AV.val (.bool b)) (fN _)) ?_
  refine ae ?_
  refine VO.fix 95 rfl (congrArg (λb=>AV.val (.bool b)) (fN _)) ?_
  refine ae ?_
  refine VO.cB rfl rfl (fk Tryz.func67) (λbL dw bX=>et _ _ _ _ _ _ bL (tS.raw.1.kp (Kp.of (U:=UU) bX)) (tU.raw.1.kp (Kp.of (U:=UU) bX))) (λbL dw bX w1 bl eM _ bb1=>wV rfl ?_)
  refine ae ?_
  refine ae ?_
  refine VS.back (nh-(z+1)) aa ⟨_,_,?_,?_,?_,?_,⟨z+1,by omega,rfl,rfl,rfl⟩⟩
  ·refine⟨rfl,rfl,?_,trivial⟩
   rw[<-ay (i:=z) aa];rfl
  ·exact du
  ·rfl
  ·exact iq
 refine VS.aN rfl (decide_eq_false (λe=>hlt (Int.ofNat_lt.1 e))) ?_
 clear hlt
 refine ae ?_
 refine VS.loop (J:=λm L M w'=>∃ z:Nat,z<=nb/\m=nb-z/\L=[(2,.box 2 0),(3,.box 3 0),(8,.val (.int .i64 (z:Int)))]/\M=[(2,(136,[.int .i64 y.num,.slice ph nh ch,.slice pb nb cb,.slice pd nd cd,.slice ps ns cs,.slice pq nq cq].map AV.val)),(3,(136,[.int .i64 y.num,.slice ph' nh ch',.slice pb' nb cb',.slice pd' nd cd',.slice ps' ns jg,.slice pq' nq cq'].map AV.val))]) nb ⟨_,_,?_,?_,?_,?_,⟨0,by omega,rfl,rfl,rfl⟩⟩ ?_
 ·exact du
 ·exact du
 ·rfl
 ·exact iq
 rintro m L M wJ ⟨z,hz,rfl,rfl,rfl⟩
 refine ae ?_
 by_cases hlt:z<nb
 ·obtain⟨x,hx⟩:∃ x,(y.cf)[z]? =some x:=⟨_,List.getElem?_eq_getElem aa⟩
  obtain⟨b1,o1,cs1,rfl,ik,nS⟩:=y2.at hx
  obtain⟨b2,o2,Iw,rfl,jl,nU⟩:=u2.at hx
  obtain⟨BF,Gw,Gx,IE,t11,IG,IH,d11,rfl,tS⟩:=nS
  obtain⟨KJ,KL,KM,KN,t21,KO,KP,d21,rfl,tU⟩:=nU
  refine VS.aU rfl (decide_eq_true (Int.ofNat_lt.2 hlt)) ?_
  (repeat (first|refine wN ?_|refine wP rfl ?_|refine wO rfl rfl ?_))
  refine VS.Ot (cV _ _) (rU _ _) [] [1,4,6,9] [12,13] [9,10] (by kernel_rfl) ?_
  refine gK.chunk (l2:=[1,2,3,4,5,6,7,8,9,10,11,12,13]) [0] rfl ?_
  refine ae ?_
  refine gK.l (j:=1) rfl rfl rfl rfl rfl ?_
  refine ae ?_
  refine gK.chunk (l2:=[4,5,6,7,8,9,10,11,12,13]) [2,3] rfl ?_
  refine ae ?_
  refine VO.cond rfl cW ?_
  refine wV rfl ?_
  refine ae ?_
  refine gK.b (j:=4) rfl rfl rfl rfl ?_
  refine VO.read rfl [.string x.1,.string x.2.1,.bool BF,.slice Gw Gx IE,.bool t11,.slice IG IH d11] rfl (aC ik 0 _ ⟨[],rfl⟩) (wV rfl ?_)
  refine ae ?_
  refine gK.chunk (l2:=[6,7,8,9,10,11,12,13]) [5] rfl ?_
  refine ae ?_
  refine gK.l (j:=6) rfl rfl rfl rfl rfl ?_
  refine ae ?_
  refine gK.chunk (l2:=[9,10,11,12,13]) [7,8] rfl ?_
  refine ae ?_
  refine VO.cond rfl cW ?_
  refine wV rfl ?_
  refine ae ?_
  refine gK.b (j:=9) rfl rfl rfl rfl ?_
  refine VO.read rfl [.string x.1,.string x.2.1,.bool KJ,.slice KL KM KN,.bool t21,.slice KO KP d21] rfl (aC jl 0 _ ⟨[],rfl⟩) (wV rfl ?_)
  refine ae ?_
  refine gK.chunk (l2:=[12,13]) [10,11] rfl ?_
  refine ae ?_
  refine gK.s (j:=12) rfl ⟨_,_,_,9,0,rfl,rfl,by simp⟩ rfl ?_
  refine ae ?_
  refine gK.s (j:=13) rfl ⟨_,_,_,10,0,rfl,rfl,by simp⟩ rfl ?_
  refine ae ?_
  refine VO.fix 125 rfl (congrArg (λb=>AV.val (.bool b)) (fN _)) ?_
  refine ae ?_
  refine VO.fix 132 rfl (congrArg (λb=>AV.val (.bool b)) (fN _)) ?_
  refine ae ?_
  refine VO.cB rfl rfl (fk Tryz.func67) (λbL dw bX=>et _ _ _ _ _ _ bL (tS.raw.1.kp (Kp.of (U:=UU) bX)) (tU.raw.1.kp (Kp.of (U:=UU) bX))) (λbL dw bX w1 bl eM _ bb1=>wV rfl ?_)
  refine ae ?_
  refine ae ?_
  refine VS.back (nb-(z+1)) aa ⟨_,_,?_,?_,?_,?_,⟨z+1,by omega,rfl,rfl,rfl⟩⟩
  ·refine⟨rfl,rfl,?_,trivial⟩
   rw[<-ay (i:=z) aa];rfl
  ·exact du
  ·rfl
  ·exact iq
 refine VS.aN rfl (decide_eq_false (λe=>hlt (Int.ofNat_lt.1 e))) ?_
 clear hlt
 refine ae ?_
 refine VS.loop (J:=λm L M w'=>∃ z:Nat,z<=nd/\m=nd-z/\L=[(2,.box 2 0),(3,.box 3 0),(11,.val (.int .i64 (z:Int)))]/\M=[(2,(136,[.int .i64 y.num,.slice ph nh ch,.slice pb nb cb,.slice pd nd cd,.slice ps ns cs,.slice pq nq cq].map AV.val)),(3,(136,[.int .i64 y.num,.slice ph' nh ch',.slice pb' nb cb',.slice pd' nd cd',.slice ps' ns jg,.slice pq' nq cq'].map AV.val))]) nd ⟨_,_,?_,?_,?_,?_,⟨0,by omega,rfl,rfl,rfl⟩⟩ ?_
 ·exact du
 ·exact du
 ·rfl
 ·exact iq
 rintro m L M wJ ⟨z,hz,rfl,rfl,rfl⟩
 refine ae ?_
 by_cases hlt:z<nd
 ·obtain⟨x,hx⟩:∃ x,(y.dG)[z]? =some x:=⟨_,List.getElem?_eq_getElem aa⟩
  obtain⟨b1,o1,cs1,rfl,ik,nS⟩:=y3.at hx
  obtain⟨b2,o2,Iw,rfl,jl,nU⟩:=u3.at hx
  obtain⟨BF,Gw,Gx,IE,t11,IG,IH,d11,rfl,tS,-⟩:=nS
  obtain⟨KJ,KL,KM,KN,t21,KO,KP,d21,rfl,tU,-⟩:=nU
  refine VS.aU rfl (decide_eq_true (Int.ofNat_lt.2 hlt)) ?_
  (repeat (first|refine wN ?_|refine wP rfl ?_|refine wO rfl rfl ?_))
  refine VS.Ot (cV _ _) (rU _ _) [] [1,4,6,9] [12,13] [12,13] (by kernel_rfl) ?_
  refine gK.chunk (l2:=[1,2,3,4,5,6,7,8,9,10,11,12,13]) [0] rfl ?_
  refine ae ?_
  refine gK.l (j:=1) rfl rfl rfl rfl rfl ?_
  refine ae ?_
  refine gK.chunk (l2:=[4,5,6,7,8,9,10,11,12,13]) [2,3] rfl ?_
  refine ae ?_
  refine VO.cond rfl cW ?_
  refine wV rfl ?_
  refine ae ?_
  refine gK.b (j:=4) rfl rfl rfl rfl ?_
  refine VO.read rfl [.bool x.Ex,.string x.id,.int .u8 (x.kind:Int),.string x.kO,.string x.kP,.string x.cls,.bool BF,.slice Gw Gx IE,.bool t11,.slice IG IH d11] rfl (aC ik 0 _ ⟨[],rfl⟩) (wV rfl ?_)
  refine ae ?_
  refine gK.chunk (l2:=[6,7,8,9,10,11,12,13]) [5] rfl ?_
  refine ae ?_
  refine gK.l (j:=6) rfl rfl rfl rfl rfl ?_
  refine ae ?_
  refine gK.chunk (l2:=[9,10,11,12,13]) [7,8] rfl ?_
  refine ae ?_
  refine VO.cond rfl cW ?_
  refine wV rfl ?_
  refine ae ?_
  refine gK.b (j:=9) rfl rfl rfl rfl ?_
  refine VO.read rfl [.bool x.Ex,.string x.id,.int .u8 (x.kind:Int),.string x.kO,.string x.kP,.string x.cls,.bool KJ,.slice KL KM KN,.bool t21,.slice KO KP d21] rfl (aC jl 0 _ ⟨[],rfl⟩) (wV rfl ?_)
  refine ae ?_
  refine gK.chunk (l2:=[12,13]) [10,11] rfl ?_
  refine ae ?_
  refine gK.s (j:=12) rfl ⟨_,_,_,12,0,rfl,rfl,by simp⟩ rfl ?_
  refine ae ?_
  refine gK.s (j:=13) rfl ⟨_,_,_,13,0,rfl,rfl,by simp⟩ rfl ?_
  refine ae ?_
  refine VO.fix 162 rfl (congrArg (λb=>AV.val (.bool b)) (EN _)) ?_
  refine ae ?_
  refine VO.fix 169 rfl (congrArg (λb=>AV.val (.bool b)) (fN _)) ?_
  refine ae ?_
  refine VO.fix 176 rfl (congrArg (λb=>AV.val (.bool b)) (ig rfl)) ?_
  refine ae ?_
  refine VO.fix 183 rfl (congrArg (λb=>AV.val (.bool b)) (fN _)) ?_
  refine ae ?_
  refine VO.fix 190 rfl (congrArg (λb=>AV.val (.bool b)) (fN _)) ?_
  refine ae ?_
  refine VO.fix 197 rfl (congrArg (λb=>AV.val (.bool b)) (fN _)) ?_
  refine ae ?_
  refine VO.cB rfl rfl (fk Tryz.func67) (λbL dw bX=>et _ _ _ _ _ _ bL (tS.raw.1.kp (Kp.of (U:=UU) bX)) (tU.raw.1.kp (Kp.of (U:=UU) bX))) (λbL dw bX w1 bl eM _ bb1=>wV rfl ?_)
  refine ae ?_
  refine ae ?_
  refine VS.back (nd-(z+1)) aa ⟨_,_,?_,?_,?_,?_,⟨z+1,by omega,rfl,rfl,rfl⟩⟩
  ·refine⟨rfl,rfl,?_,trivial⟩
   rw[<-ay (i:=z) aa];rfl
  ·exact du
  ·rfl
  ·exact iq
 refine VS.aN rfl (decide_eq_false (λe=>hlt (Int.ofNat_lt.1 e))) ?_
 clear hlt
 refine ae ?_
 refine VS.loop (J:=λm L M w'=>∃ z:Nat,z<=ns/\m=ns-z/\L=[(2,.box 2 0),(3,.box 3 0),(14,.val (.int .i64 (z:Int)))]/\M=[(2,(136,[.int .i64 y.num,.slice ph nh ch,.slice pb nb cb,.slice pd nd cd,.slice ps ns cs,.slice pq nq cq].map AV.val)),(3,(136,[.int .i64 y.num,.slice ph' nh ch',.slice pb' nb cb',.slice pd' nd cd',.slice ps' ns jg,.slice pq' nq cq'].map AV.val))]) ns ⟨_,_,?_,?_,?_,?_,⟨0,by omega,rfl,rfl,rfl⟩⟩ ?_
 ·exact du
 ·exact du
 ·rfl
 ·exact iq
 rintro m L M wJ ⟨z,hz,rfl,rfl,rfl⟩
 refine ae ?_
 by_cases hlt:z<ns
 ·obtain⟨x,hx⟩:∃ x,(y.dp)[z]? =some x:=⟨_,List.getElem?_eq_getElem aa⟩
  obtain⟨b1,o1,cs1,rfl,ik,nS⟩:=y4.at hx
  obtain⟨b2,o2,Iw,rfl,jl,nU⟩:=u4.at hx
  obtain⟨BF,Gw,Gx,IE,t11,IG,IH,d11,s12,p12,n12,c12,t12,y12,m12,d12,rfl,tS,he12⟩:=nS
  obtain⟨KJ,KL,KM,KN,t21,KO,KP,d21,s22,p22,n22,c22,t22,y22,m22,d22,rfl,tU,he22⟩:=nU
  refine VS.aU rfl (decide_eq_true (Int.ofNat_lt.2 hlt)) ?_
  refine ae ?_
  refine VO.cond rfl cW ?_
  refine wV rfl ?_
  refine ae ?_
  refine VO.read rfl [.string x.1] rfl (aC ik 0 _ ⟨_,rfl⟩) (wV rfl ?_)
  refine ae ?_
  refine VO.cond rfl cW ?_
  refine wV rfl ?_
  refine ae ?_
  refine VO.read rfl [.string x.1] rfl (aC jl 0 _ ⟨_,rfl⟩) (wV rfl ?_)
  refine ae ?_
  refine VO.fix 225 rfl (congrArg (λb=>AV.val (.bool b)) (fN _)) ?_
  refine ae ?_
  refine VO.cond rfl cW ?_
  refine wV rfl ?_
  refine ae ?_
  refine VO.read rfl [.bool BF,.slice Gw Gx IE,.bool t11,.slice IG IH d11] rfl (aC ik 1 _ ⟨_,rfl⟩) (wV rfl ?_)
  refine ae ?_
  refine VO.cond rfl cW ?_
  refine wV rfl ?_
  refine ae ?_
  refine VO.read rfl [.bool KJ,.slice KL KM KN,.bool t21,.slice KO KP d21] rfl (aC jl 1 _ ⟨_,rfl⟩) (wV rfl ?_)
  refine ae ?_
  refine VO.cB rfl rfl (fk Tryz.func67) (λbL dw bX=>et _ _ _ _ _ _ bL (tS.raw.1.kp (Kp.of (U:=UU) bX)) (tU.raw.1.kp (Kp.of (U:=UU) bX))) (λbL dw bX w1 bl eM _ bb1=>wV rfl ?_)
  refine ae ?_
  refine VO.cond rfl cW ?_
  refine wV rfl ?_
  refine ae ?_
  refine VO.read rfl [.bool s12,.slice p12 n12 c12,.bool t12,.slice y12 m12 d12] rfl (aC ik 5 _ ⟨[],rfl⟩) (wV rfl ?_)
  refine ae ?_
  refine VO.cond rfl cW ?_
  refine wV rfl ?_
  refine ae ?_
  refine VO.read rfl [.bool s22,.slice p22 n22 c22,.bool t22,.slice y22 m22 d22] rfl (aC jl 5 _ ⟨[],rfl⟩) (wV rfl ?_)
  refine ae ?_
  refine VO.cB rfl rfl (fk Tryz.func67) (λdh eU dQ=>et _ _ _ _ _ _ dh (he12.raw.1.kp (Kp.of (U:=UU) dQ)) (he22.raw.1.kp (Kp.of (U:=UU) dQ))) (λdh eU dQ w2 bM gr _ bb2=>wV rfl ?_)
  refine ae ?_
  refine ae ?_
  refine VS.back (ns-(z+1)) aa ⟨_,_,?_,?_,?_,?_,⟨z+1,by omega,rfl,rfl,rfl⟩⟩
  ·refine⟨rfl,rfl,?_,trivial⟩
   rw[<-ay (i:=z) aa];rfl
  ·exact du
  ·rfl
  ·exact iq
 refine VS.aN rfl (decide_eq_false (λe=>hlt (Int.ofNat_lt.1 e))) ?_
 clear hlt
 refine ae ?_
 refine VS.loop (J:=λm L M w'=>∃ z:Nat,z<=nq/\m=nq-z/\L=[(2,.box 2 0),(3,.box 3 0),(15,.val (.int .i64 (z:Int)))]/\M=[(2,(136,[.int .i64 y.num,.slice ph nh ch,.slice pb nb cb,.slice pd nd cd,.slice ps ns cs,.slice pq nq cq].map AV.val)),(3,(136,[.int .i64 y.num,.slice ph' nh ch',.slice pb' nb cb',.slice pd' nd cd',.slice ps' ns jg,.slice pq' nq cq'].map AV.val))]) nq ⟨_,_,?_,?_,?_,?_,⟨0,by omega,rfl,rfl,rfl⟩⟩ ?_
 ·exact du
 ·exact du
 ·rfl
 ·exact iq
 rintro m L M wJ ⟨z,hz,rfl,rfl,rfl⟩
 refine ae ?_
 by_cases hlt:z<nq
 ·obtain⟨x,hx⟩:∃ x,(y.gf)[z]? =some x:=⟨_,List.getElem?_eq_getElem aa⟩
  obtain⟨b1,o1,cs1,rfl,ik,nS⟩:=y5.at hx
  obtain⟨b2,o2,Iw,rfl,jl,nU⟩:=u5.at hx
  obtain⟨BF,Gw,Gx,IE,t11,IG,IH,d11,rfl,tS⟩:=nS
  obtain⟨KJ,KL,KM,KN,t21,KO,KP,d21,rfl,tU⟩:=nU
  refine VS.aU rfl (decide_eq_true (Int.ofNat_lt.2 hlt)) ?_
  refine ae ?_
  refine VO.cond rfl cW ?_
  refine wV rfl ?_
  refine ae ?_
  refine VO.read rfl [.string x.1] rfl (aC ik 0 _ ⟨_,rfl⟩) (wV rfl ?_)
  refine ae ?_
  refine VO.cond rfl cW ?_
  refine wV rfl ?_
  refine ae ?_
  refine VO.read rfl [.string x.1] rfl (aC jl 0 _ ⟨_,rfl⟩) (wV rfl ?_)
  refine ae ?_
  refine VO.fix 277 rfl (congrArg (λb=>AV.val (.bool b)) (fN _)) ?_
  refine ae ?_
  refine VO.cond rfl cW ?_
  refine wV rfl ?_
  refine ae ?_
  refine VO.read rfl [.bool BF,.slice Gw Gx IE,.bool t11,.slice IG IH d11] rfl (aC ik 1 _ ⟨[],rfl⟩) (wV rfl ?_)
  refine ae ?_
  refine VO.cond rfl cW ?_
  refine wV rfl ?_
  refine ae ?_
  refine VO.read rfl [.bool KJ,.slice KL KM KN,.bool t21,.slice KO KP d21] rfl (aC jl 1 _ ⟨[],rfl⟩) (wV rfl ?_)
  refine ae ?_
  refine VO.cB rfl rfl (fk Tryz.func67) (λbL dw bX=>et _ _ _ _ _ _ bL (tS.raw.1.kp (Kp.of (U:=UU) bX)) (tU.raw.1.kp (Kp.of (U:=UU) bX))) (λbL dw bX w1 bl eM _ bb1=>wV rfl ?_)
  refine ae ?_
  refine ae ?_
  refine VS.back (nq-(z+1)) aa ⟨_,_,?_,?_,?_,?_,⟨z+1,by omega,rfl,rfl,rfl⟩⟩
  ·refine⟨rfl,rfl,?_,trivial⟩
   rw[<-ay (i:=z) aa];rfl
  ·exact du
  ·rfl
  ·exact iq
 refine VS.aN rfl (decide_eq_false (λe=>hlt (Int.ofNat_lt.1 e))) ?_
 clear hlt
 refine ae ?_
 refine bV ?_;intro wz kz bz
 exact⟨rfl,bz⟩
set_option maxRecDepth 8000 in
theorem EO (v u:Value) (f:iU) (j k:Nat) (w:World) (hv:mz j w v f) (hu:mz k w u f):
  Calls Tryz.prog 18 #[v,u] w λe w'=>e=.returned (.bool true)/\ax w w':=by
 obtain⟨pB,nB,cB,sT,pT,nT,cT,tT,yT,mT,dT,sC,pC,nC,cC,tC,yC,mC,dC,sI,pI,nI,cI,tI,yI,mI,dI,sF,pF,nF,cF,tF,yF,mF,dF,pc,Nc,cc,pe,Ne,ce,py,Ny,cy,rfl,h1,h2,h3,h4,h5,h6,h7,h8⟩:=hv
 obtain⟨pB',nB',cB',sT',pT',nT',cT',tT',yT',mT',dT',sC',pC',nC',cC',tC',yC',mC',dC',sI',pI',nI',cI',tI',yI',mI',dI',sF',pF',nF',cF',tF',yF',mF',dF',pc',Nc',cc',pe',Ne',ce',py',Ny',cy',rfl,g1,g2,g3,g4,g5,g6,g7,g8⟩:=hu
 have hnB:nB=f.pZ.length:=by obtain⟨_,_,e,_⟩:=h1.form;cases e;rfl
 have Ev:Nc=f.cls.length:=by obtain⟨_,_,e,_⟩:=h6.form;cases e;rfl
 have NC:Ne=f.bu.length:=by obtain⟨_,_,e,_⟩:=h7.form;cases e;rfl
 have Lk:Ny=f.iy.length:=by obtain⟨_,_,e,_⟩:=h8.form;cases e;rfl
 have bB:nB<=9223372036854775807:=by obtain⟨_,_,e,h1,h2⟩:=h1.form;cases e;exact Nat.le_trans h1 h2
 have bC:Nc<=9223372036854775807:=by obtain⟨_,_,e,h1,h2⟩:=h6.form;cases e;exact Nat.le_trans h1 h2
 have bE:Ne<=9223372036854775807:=by obtain⟨_,_,e,h1,h2⟩:=h7.form;cases e;exact Nat.le_trans h1 h2
 have bY:Ny<=9223372036854775807:=by obtain⟨_,_,e,h1,h2⟩:=h8.form;cases e;exact Nat.le_trans h1 h2
 obtain rfl:nB=nB':=by obtain⟨_,_,e,_⟩:=g1.form;cases e;exact hnB
 obtain rfl:Nc=Nc':=by obtain⟨_,_,e,_⟩:=g6.form;cases e;exact Ev
 obtain rfl:Ne=Ne':=by obtain⟨_,_,e,_⟩:=g7.form;cases e;exact NC
 obtain rfl:Ny=Ny':=by obtain⟨_,_,e,_⟩:=g8.form;cases e;exact Lk
 refine ai (C:=bj Tryz.prog w _) (args:=[_,_]) Tryz.func18 rfl Tryz.ntmps18 (cr rfl) ?_
 refine ae ?_
 refine VO.fix 14 rfl (congrArg (λb=>AV.val (.bool b)) (fN _)) ?_
 refine ae ?_
 refine VO.fix 21 rfl (congrArg (λb=>AV.val (.bool b)) (fN _)) ?_
 refine ae ?_
 refine VO.fix 30 rfl (congrArg (λb=>AV.val (.bool b)) (ig rfl)) ?_
 refine ae ?_
 refine VO.fix 39 rfl (congrArg (λb=>AV.val (.bool b)) (ig rfl)) ?_
 refine ae ?_
 refine VO.fix 48 rfl (congrArg (λb=>AV.val (.bool b)) (ig rfl)) ?_
 refine ae ?_
 refine VS.aN rfl (ig rfl) ?_
 refine ae ?_
 refine VO.cB rfl rfl (fk Tryz.func67) (λbL dw bX=>et _ _ _ _ _ _ bL (h2.raw.1.kp (Kp.of (U:=UU) bX)) (g2.raw.1.kp (Kp.of (U:=UU) bX))) (λbL dw bX w1 bl eM _ bb1=>wV rfl ?_)
 refine ae ?_
 refine VO.cB rfl rfl (fk Tryz.func67) (λdh eU dQ=>et _ _ _ _ _ _ dh (h3.raw.1.kp (Kp.of (U:=UU) dQ)) (g3.raw.1.kp (Kp.of (U:=UU) dQ))) (λdh eU dQ w2 bM gr _ bb2=>wV rfl ?_)
 refine ae ?_
 refine VO.fix 78 rfl (congrArg (λb=>AV.val (.bool b)) (ig rfl)) ?_
 refine ae ?_
 refine VO.fix 85 rfl (congrArg (λb=>AV.val (.bool b)) (ig rfl)) ?_
 refine ae ?_
 refine VO.cB rfl rfl (fk Tryz.func67) (λgz gJ iL=>et _ _ _ _ _ _ gz (h4.raw.1.kp (Kp.of (U:=UU) iL)) (g4.raw.1.kp (Kp.of (U:=UU) iL))) (λgz gJ iL w3 dU lN _ bb3=>wV rfl ?_)
 refine ae ?_
 refine VO.cB rfl rfl (fk Tryz.func67) (λjw kX kY=>et _ _ _ _ _ _ jw (h5.raw.1.kp (Kp.of (U:=UU) kY)) (g5.raw.1.kp (Kp.of (U:=UU) kY))) (λjw kX kY w4 iX oK _ zJ=>wV rfl ?_)
 refine ae ?_
 refine VS.aN rfl (ig rfl) ?_
 refine ae ?_
 refine VS.loop (J:=λm L M w'=>∃ z:Nat,z<=nB/\m=nB-z/\L=[(2,.box 2 0),(3,.box 3 0),(5,.val (.int .i64 (z:Int)))]/\M=[(2,(42,[.string f.name,.string f.parent,.slice pB nB cB,.bool sT,.slice pT nT cT,.bool tT,.slice yT mT dT,.bool sC,.slice pC nC cC,.bool tC,.slice yC mC dC,.int .i64 f.bk,.int .i64 f.fw,.bool sI,.slice pI nI cI,.bool tI,.slice yI mI dI,.bool sF,.slice pF nF cF,.bool tF,.slice yF mF dF,.int .i64 f.kp,.slice pc Nc cc,.slice pe Ne ce,.slice py Ny cy].map AV.val)),(3,(42,[.string f.name,.string f.parent,.slice pB' nB cB',.bool sT',.slice pT' nT' cT',.bool tT',.slice yT' mT' dT',.bool sC',.slice pC' nC' cC',.bool tC',.slice yC' mC' dC',.int .i64 f.bk,.int .i64 f.fw,.bool sI',.slice pI' nI' cI',.bool tI',.slice yI' mI' dI',.bool sF',.slice pF' nF' cF',.bool tF',.slice yF' mF' dF',.int .i64 f.kp,.slice pc' Nc cc',.slice pe' Ne ce',.slice py' Ny cy'].map AV.val))]) nB ⟨_,_,?_,?_,?_,?_,⟨0,by omega,rfl,rfl,rfl⟩⟩ ?_
 ·exact du
 ·exact du
 ·rfl
 ·exact iq
 rintro m L M wJ ⟨z,hz,rfl,rfl,rfl⟩
 refine ae ?_
 by_cases hlt:z<nB
 ·obtain⟨x,hx⟩:∃ x,(f.pZ)[z]? =some x:=⟨_,List.getElem?_eq_getElem aa⟩
  obtain⟨b1,o1,cs1,rfl,ik,nS⟩:=h1.at hx
  obtain⟨b2,o2,Iw,rfl,jl,nU⟩:=g1.at hx
  obtain⟨BF,Gw,Gx,IE,t11,IG,IH,d11,s12,p12,n12,c12,t12,y12,m12,d12,rfl,tS,he12⟩:=nS
  obtain⟨KJ,KL,KM,KN,t21,KO,KP,d21,s22,p22,n22,c22,t22,y22,m22,d22,rfl,tU,he22⟩:=nU
  refine VS.aU rfl (decide_eq_true (Int.ofNat_lt.2 hlt)) ?_
  refine ae ?_
  refine VO.cond rfl cW ?_
  refine wV rfl ?_
  refine ae ?_
  refine VO.read rfl [.bool BF,.slice Gw Gx IE,.bool t11,.slice IG IH d11] rfl (aC ik 0 _ ⟨_,rfl⟩) (wV rfl ?_)
  refine ae ?_
  refine VO.cond rfl cW ?_
  refine wV rfl ?_
  refine ae ?_
  refine VO.read rfl [.bool KJ,.slice KL KM KN,.bool t21,.slice KO KP d21] rfl (aC jl 0 _ ⟨_,rfl⟩) (wV rfl ?_)
  refine ae ?_
  refine VO.cB rfl rfl (fk Tryz.func67) (λbL dw bX=>et _ _ _ _ _ _ bL (tS.raw.1.kp (Kp.of (U:=UU) bX)) (tU.raw.1.kp (Kp.of (U:=UU) bX))) (λbL dw bX w1 bl eM _ bb1=>wV rfl ?_)
  refine ae ?_
  refine VO.cond rfl cW ?_
  refine wV rfl ?_
  refine ae ?_
  refine VO.read rfl [.bool s12,.slice p12 n12 c12,.bool t12,.slice y12 m12 d12] rfl (aC ik 4 _ ⟨[],rfl⟩) (wV rfl ?_)
  refine ae ?_
  refine VO.cond rfl cW ?_
  refine wV rfl ?_
  refine ae ?_
  refine VO.read rfl [.bool s22,.slice p22 n22 c22,.bool t22,.slice y22 m22 d22] rfl (aC jl 4 _ ⟨[],rfl⟩) (wV rfl ?_)
  refine ae ?_
  refine VO.cB rfl rfl (fk Tryz.func67) (λdh eU dQ=>et _ _ _ _ _ _ dh (he12.raw.1.kp (Kp.of (U:=UU) dQ)) (he22.raw.1.kp (Kp.of (U:=UU) dQ))) (λdh eU dQ w2 bM gr _ bb2=>wV rfl ?_)
  refine ae ?_
  refine ae ?_
  refine VS.back (nB-(z+1)) aa ⟨_,_,?_,?_,?_,?_,⟨z+1,by omega,rfl,rfl,rfl⟩⟩
  ·refine⟨rfl,rfl,?_,trivial⟩
   rw[<-ay (i:=z) aa];rfl
  ·exact du
  ·rfl
  ·exact iq
 refine VS.aN rfl (decide_eq_false (λe=>hlt (Int.ofNat_lt.1 e))) ?_
 clear hlt
 refine ae ?_
 refine VS.loop (J:=λm L M w'=>∃ z:Nat,z<=Nc/\m=Nc-z/\L=[(2,.box 2 0),(3,.box 3 0),(6,.val (.int .i64 (z:Int)))]/\M=[(2,(42,[.string f.name,.string f.parent,.slice pB nB cB,.bool sT,.slice pT nT cT,.bool tT,.slice yT mT dT,.bool sC,.slice pC nC cC,.bool tC,.slice yC mC dC,.int .i64 f.bk,.int .i64 f.fw,.bool sI,.slice pI nI cI,.bool tI,.slice yI mI dI,.bool sF,.slice pF nF cF,.bool tF,.slice yF mF dF,.int .i64 f.kp,.slice pc Nc cc,.slice pe Ne ce,.slice py Ny cy].map AV.val)),(3,(42,[.string f.name,.string f.parent,.slice pB' nB cB',.bool sT',.slice pT' nT' cT',.bool tT',.slice yT' mT' dT',.bool sC',.slice pC' nC' cC',.bool tC',.slice yC' mC' dC',.int .i64 f.bk,.int .i64 f.fw,.bool sI',.slice pI' nI' cI',.bool tI',.slice yI' mI' dI',.bool sF',.slice pF' nF' cF',.bool tF',.slice yF' mF' dF',.int .i64 f.kp,.slice pc' Nc cc',.slice pe' Ne ce',.slice py' Ny cy'].map AV.val))]) Nc ⟨_,_,?_,?_,?_,?_,⟨0,by omega,rfl,rfl,rfl⟩⟩ ?_
 ·exact du
 ·exact du
 ·rfl
 ·exact iq
 rintro m L M wJ ⟨z,hz,rfl,rfl,rfl⟩
 refine ae ?_
 by_cases hlt:z<Nc
 ·obtain⟨x,hx⟩:∃ x,(f.cls)[z]? =some x:=⟨_,List.getElem?_eq_getElem aa⟩
  obtain⟨b1,o1,cs1,rfl,ik,nS⟩:=h6.at hx
  obtain⟨b2,o2,Iw,rfl,jl,nU⟩:=g6.at hx
  obtain⟨BF,Gw,Gx,IE,t11,IG,IH,d11,rfl,tS,-⟩:=nS
  obtain⟨KJ,KL,KM,KN,t21,KO,KP,d21,rfl,tU,-⟩:=nU
  refine VS.aU rfl (decide_eq_true (Int.ofNat_lt.2 hlt)) ?_
  refine ae ?_
  refine VO.cond rfl cW ?_
  refine wV rfl ?_
  refine ae ?_
  refine VO.read rfl [.string x.1] rfl (aC ik 0 _ ⟨_,rfl⟩) (wV rfl ?_)
  refine ae ?_
  refine VO.cond rfl cW ?_
  refine wV rfl ?_
  refine ae ?_
  refine VO.read rfl [.string x.1] rfl (aC jl 0 _ ⟨_,rfl⟩) (wV rfl ?_)
  refine ae ?_
  refine VO.fix 165 rfl (congrArg (λb=>AV.val (.bool b)) (fN _)) ?_
  refine ae ?_
  refine VO.cond rfl cW ?_
  refine wV rfl ?_
  refine ae ?_
  refine VO.read rfl [.int .u8 (x.2.1:Int)] rfl (aC ik 1 _ ⟨_,rfl⟩) (wV rfl ?_)
  refine ae ?_
  refine VO.cond rfl cW ?_
  refine wV rfl ?_
  refine ae ?_
  refine VO.read rfl [.int .u8 (x.2.1:Int)] rfl (aC jl 1 _ ⟨_,rfl⟩) (wV rfl ?_)
  refine ae ?_
  refine VO.fix 180 rfl (congrArg (λb=>AV.val (.bool b)) (ig rfl)) ?_
  refine ae ?_
  refine VO.cond rfl cW ?_
  refine wV rfl ?_
  refine ae ?_
  refine VO.read rfl [.bool BF,.slice Gw Gx IE,.bool t11,.slice IG IH d11] rfl (aC ik 2 _ ⟨[],rfl⟩) (wV rfl ?_)
  refine ae ?_
  refine VO.cond rfl cW ?_
  refine wV rfl ?_
  refine ae ?_
  refine VO.read rfl [.bool KJ,.slice KL KM KN,.bool t21,.slice KO KP d21] rfl (aC jl 2 _ ⟨[],rfl⟩) (wV rfl ?_)
  refine ae ?_
  refine VO.cB rfl rfl (fk Tryz.func67) (λbL dw bX=>et _ _ _ _ _ _ bL (tS.raw.1.kp (Kp.of (U:=UU) bX)) (tU.raw.1.kp (Kp.of (U:=UU) bX))) (λbL dw bX w1 bl eM _ bb1=>wV rfl ?_)
  refine ae ?_
  refine ae ?_
  refine VS.back (Nc-(z+1)) aa ⟨_,_,?_,?_,?_,?_,⟨z+1,by omega,rfl,rfl,rfl⟩⟩
  ·refine⟨rfl,rfl,?_,trivial⟩
   rw[<-ay (i:=z) aa];rfl
  ·exact du
  ·rfl
  ·exact iq
 refine VS.aN rfl (decide_eq_false (λe=>hlt (Int.ofNat_lt.1 e))) ?_
 clear hlt
 refine ae ?_
 refine VS.loop (J:=λm L M w'=>∃ z:Nat,z<=Ne/\m=Ne-z/\L=[(2,.box 2 0),(3,.box 3 0),(7,.val (.int .i64 (z:Int)))]/\M=[(2,(42,[.string f.name,.string f.parent,.slice pB nB cB,.bool sT,.slice pT nT cT,.bool tT,.slice yT mT dT,.bool sC,.slice pC nC cC,.bool tC,.slice yC mC dC,.int .i64 f.bk,.int .i64 f.fw,.bool sI,.slice pI nI cI,.bool tI,.slice yI mI dI,.bool sF,.slice pF nF cF,.bool tF,.slice yF mF dF,.int .i64 f.kp,.slice pc Nc cc,.slice pe Ne ce,.slice py Ny cy].map AV.val)),(3,(42,[.string f.name,.string f.parent,.slice pB' nB cB',.bool sT',.slice pT' nT' cT',.bool tT',.slice yT' mT' dT',.bool sC',.slice pC' nC' cC',.bool tC',.slice yC' mC' dC',.int .i64 f.bk,.int .i64 f.fw,.bool sI',.slice pI' nI' cI',.bool tI',.slice yI' mI' dI',.bool sF',.slice pF' nF' cF',.bool tF',.slice yF' mF' dF',.int .i64 f.kp,.slice pc' Nc cc',.slice pe' Ne ce',.slice py' Ny cy'].map AV.val))]) Ne ⟨_,_,?_,?_,?_,?_,⟨0,by omega,rfl,rfl,rfl⟩⟩ ?_
 ·exact du
 ·exact du
 ·rfl
 ·exact iq
 rintro m L M wJ ⟨z,hz,rfl,rfl,rfl⟩
 refine ae ?_
 by_cases hlt:z<Ne
 ·obtain⟨x,hx⟩:∃ x,(f.bu)[z]? =some x:=⟨_,List.getElem?_eq_getElem aa⟩
  obtain⟨b1,o1,cs1,rfl,ik,nS⟩:=h7.at hx
  obtain⟨b2,o2,Iw,rfl,jl,nU⟩:=g7.at hx
  cases nS
  cases nU
  refine VS.aU rfl (decide_eq_true (Int.ofNat_lt.2 hlt)) ?_
  refine ae ?_
  refine VO.cond rfl cW ?_
  refine wV rfl ?_
  refine ae ?_
  refine VO.read rfl [.string x] rfl (cN ik) (wV rfl ?_)
  refine ae ?_
  refine VO.cond rfl cW ?_
  refine wV rfl ?_
  refine ae ?_
  refine VO.read rfl [.string x] rfl (cN jl) (wV rfl ?_)
  refine ae ?_
  refine VS.aN rfl (fN _) ?_
  refine ae ?_
  refine VS.back (Ne-(z+1)) aa ⟨_,_,?_,?_,?_,?_,⟨z+1,by omega,rfl,rfl,rfl⟩⟩
  ·refine⟨rfl,rfl,?_,trivial⟩
   rw[<-ay (i:=z) aa];rfl
  ·exact du
  ·rfl
  ·exact iq
 refine VS.aN rfl (decide_eq_false (λe=>hlt (Int.ofNat_lt.1 e))) ?_
 clear hlt
 refine ae ?_
 refine VS.loop (J:=λm L M w'=>∃ z:Nat,z<=Ny/\m=Ny-z/\L=[(2,.box 2 0),(3,.box 3 0),(8,.val (.int .i64 (z:Int)))]/\M=[(2,(42,[.string f.name,.string f.parent,.slice pB nB cB,.bool sT,.slice pT nT cT,.bool tT,.slice yT mT dT,.bool sC,.slice pC nC cC,.bool tC,.slice yC mC dC,.int .i64 f.bk,.int .i64 f.fw,.bool sI,.slice pI nI cI,.bool tI,.slice yI mI dI,.bool sF,.slice pF nF cF,.bool tF,.slice yF mF dF,.int .i64 f.kp,.slice pc Nc cc,.slice pe Ne ce,.slice py Ny cy].map AV.val)),(3,(42,[.string f.name,.string f.parent,.slice pB' nB cB',.bool sT',.slice pT' nT' cT',.bool tT',.slice yT' mT' dT',.bool sC',.slice pC' nC' cC',.bool tC',.slice yC' mC' dC',.int .i64 f.bk,.int .i64 f.fw,.bool sI',.slice pI' nI' cI',.bool tI',.slice yI' mI' dI',.bool sF',.slice pF' nF' cF',.bool tF',.slice yF' mF' dF',.int .i64 f.kp,.slice pc' Nc cc',.slice pe' Ne ce',.slice py' Ny cy'].map AV.val))]) Ny ⟨_,_,?_,?_,?_,?_,⟨0,by omega,rfl,rfl,rfl⟩⟩ ?_
 ·exact du
 ·exact du
 ·rfl
 ·exact iq
 rintro m L M wJ ⟨z,hz,rfl,rfl,rfl⟩
 refine ae ?_
 by_cases hlt:z<Ny
 ·obtain⟨x,hx⟩:∃ x,(f.iy)[z]? =some x:=⟨_,List.getElem?_eq_getElem aa⟩
  obtain⟨b1,o1,cs1,rfl,ik,nS⟩:=h8.at hx
  obtain⟨b2,o2,Iw,rfl,jl,nU⟩:=g8.at hx
  have hE1:=nS
  have hE2:=nU
  obtain⟨ah,ab,ad,as_,aq,rfl,a1,a2,a3,a4,a5⟩:=nS
  obtain⟨eh,eb,ed,es_,eq,rfl,e1,e2,e3,e4,e5⟩:=nU
  obtain⟨Ph,Nh,Ch,rfl⟩:∃ p n c,ah=.slice p n c:=by obtain⟨p,c,e⟩:=a1.sl;exact⟨_,_,_,e⟩
  obtain⟨Pb,Nb,Cb,rfl⟩:∃ p n c,ab=.slice p n c:=by obtain⟨p,c,e⟩:=a2.sl;exact⟨_,_,_,e⟩
  obtain⟨Pd,Nd,Cd,rfl⟩:∃ p n c,ad=.slice p n c:=by obtain⟨p,c,e⟩:=a3.sl;exact⟨_,_,_,e⟩
  obtain⟨Ps,Ns,Cs,rfl⟩:∃ p n c,as_=.slice p n c:=by obtain⟨p,c,e⟩:=a4.sl;exact⟨_,_,_,e⟩
  obtain⟨Pq,Nq,Cq,rfl⟩:∃ p n c,aq=.slice p n c:=by obtain⟨p,c,e⟩:=a5.sl;exact⟨_,_,_,e⟩
  obtain⟨Ph',Nh',Ch',rfl⟩:∃ p n c,eh=.slice p n c:=by obtain⟨p,c,e⟩:=e1.sl;exact⟨_,_,_,e⟩
  obtain⟨Pb',Nb',Cb',rfl⟩:∃ p n c,eb=.slice p n c:=by obtain⟨p,c,e⟩:=e2.sl;exact⟨_,_,_,e⟩
  obtain⟨Pd',Nd',Cd',rfl⟩:∃ p n c,ed=.slice p n c:=by obtain⟨p,c,e⟩:=e3.sl;exact⟨_,_,_,e⟩
  obtain⟨Ps',Ns',Cs',rfl⟩:∃ p n c,es_=.slice p n c:=by obtain⟨p,c,e⟩:=e4.sl;exact⟨_,_,_,e⟩
  obtain⟨Pq',Nq',Cq',rfl⟩:∃ p n c,eq=.slice p n c:=by obtain⟨p,c,e⟩:=e5.sl;exact⟨_,_,_,e⟩
  refine VS.aU rfl (decide_eq_true (Int.ofNat_lt.2 hlt)) ?_
  refine ae ?_
  refine VO.cond rfl cW ?_
  refine wV rfl ?_
  refine ae ?_
  refine VO.read rfl [.int .i64 x.num,.slice Ph Nh Ch,.slice Pb Nb Cb,.slice Pd Nd Cd,.slice Ps Ns Cs,.slice Pq Nq Cq] rfl (aC ik 0 _ ⟨[],rfl⟩) (wV rfl ?_)
  refine ae ?_
  refine VO.cond rfl cW ?_
  refine wV rfl ?_
  refine ae ?_
  refine VO.read rfl [.int .i64 x.num,.slice Ph' Nh' Ch',.slice Pb' Nb' Cb',.slice Pd' Nd' Cd',.slice Ps' Ns' Cs',.slice Pq' Nq' Cq'] rfl (aC jl 0 _ ⟨[],rfl⟩) (wV rfl ?_)
  refine ae ?_
  refine VO.cB rfl rfl (fk Tryz.func68) (λbL dw bX=>Bq _ _ x _ _ bL (Bg.b _ hE1 bX) (Bg.b _ hE2 bX)) (λbL dw bX w1 bl eM _ bb1=>wV rfl ?_)
  refine ae ?_
  refine ae ?_
  refine VS.back (Ny-(z+1)) aa ⟨_,_,?_,?_,?_,?_,⟨z+1,by omega,rfl,rfl,rfl⟩⟩
  ·refine⟨rfl,rfl,?_,trivial⟩
   rw[<-ay (i:=z) aa];rfl
  ·exact du
  ·rfl
  ·exact iq
 refine VS.aN rfl (decide_eq_false (λe=>hlt (Int.ofNat_lt.1 e))) ?_
 clear hlt
 refine ae ?_
 refine bV ?_;intro wz kz bz
 exact⟨rfl,bz⟩
set_option maxRecDepth 4000
set_option maxRecDepth 4000 in
theorem GX (v:Value) (ss:List ByteArray) (s:ByteArray) (w:World) (hv:cj dv 1 w v ss):
  Calls Tryz.prog 60 #[v,.string s] w λo w'=>o=.returned (.int .i64 (jJ (λx=>s.toList == x.toList) ss))/\ax w w':=by
 obtain⟨p,c,rfl,gg,gF⟩:=hv.form
 obtain⟨N,hN⟩:∃ N,N=ss.length:=⟨_,rfl⟩
 rw[<-hN] at hv gg ⊢
 refine ai (C:=bj Tryz.prog w _) (args:=[_,_]) Tryz.func60 rfl Tryz.ntmps60 (cr rfl) ?_
 refine ae ?_
 refine VS.loop (J:=λmm L M w'=>∃ z:Nat,z<=N/\mm=N-z/\L=[(0,.val (.slice p N c)),(1,.val (.string s)),(5,.val (.int .i64 (z:Int)))]/\M=[]/\∀ (i:Nat) (y:ByteArray),i<z->ss[i]? =some y->(λx=>s.toList == x.toList) y=false) N ⟨_,_,?_,?_,?_,?_,⟨0,by omega,rfl,rfl,rfl,λi y hi=>by omega⟩⟩ ?_
 ·exact du
 ·exact du
 ·rfl
 ·exact iq
 rintro mm L M wJ ⟨z,hz,rfl,rfl,rfl,hno⟩
 refine ae ?_
 by_cases hlt:z<N
 ·obtain⟨x,hx⟩:∃ x,ss[z]? =some x:=⟨_,List.getElem?_eq_getElem aa⟩
  obtain⟨b,off,cs,rfl,hc,dE⟩:=hv.at hx
  cases dE
  refine VS.aU rfl (decide_eq_true (Int.ofNat_lt.2 hlt)) ?_
  refine ae ?_
  refine VO.cond rfl cW ?_
  refine wV rfl ?_
  refine ae ?_
  refine VO.read rfl [.string x] rfl (cN hc) (wV rfl ?_)
  refine ae ?_
  cases hs0:(x.toList == s.toList) with
  | true=>
    have hs:(λx=>s.toList == x.toList) x=true:=by show (s.toList == x.toList)=_;rw[BEq.comm];exact hs0
    refine VS.aU rfl rfl ?_
    refine ae ?_
    refine bV ?_;intro wz kz bz
    exact⟨by rw[sj (P:=λx=>s.toList == x.toList) hx hno hs];rfl,bz⟩
  | false=>
    have hs:(λx=>s.toList == x.toList) x=false:=by show (s.toList == x.toList)=_;rw[BEq.comm];exact hs0
    refine VS.aN rfl rfl ?_
    refine ae ?_
    refine VS.back (N-(z+1)) aa ⟨_,_,?_,?_,?_,?_,⟨z+1,by omega,rfl,rfl,rfl,λi y hi hy=>(by
     by_cases Kk:i<z
     ·exact hno i y Kk hy
     ·rw[show i=z by omega,hx] at hy;cases hy;exact hs)⟩⟩
    ·refine⟨rfl,rfl,?_,trivial⟩
     rw[<-ay aa];rfl
    ·exact du
    ·rfl
    ·exact iq
 ·refine VS.aN rfl (decide_eq_false (λe=>hlt (Int.ofNat_lt.1 e))) ?_
  obtain rfl:z=N:=by omega
  refine ae ?_
  refine bV ?_;intro wz kz bz
  exact⟨by rw[mr (P:=λx=>s.toList == x.toList) (λi y hy=>hno i y (by have:=(List.getElem?_eq_some_iff.1 hy).1;omega) hy)];rfl,bz⟩
set_option maxRecDepth 4000 in
theorem yg (v:Value) (ss:List vM) (s:ByteArray) (kk:Nat) (w:World) (hv:cj (oZ kk) 6 w v ss):
  Calls Tryz.prog 17 #[v,.string s] w λo w'=>o=.returned (.int .i64 (jJ (λx=>x.1.toList == s.toList) ss))/\ax w w':=by
 obtain⟨p,c,rfl,gg,gF⟩:=hv.form
 obtain⟨N,hN⟩:∃ N,N=ss.length:=⟨_,rfl⟩
 rw[<-hN] at hv gg ⊢
 refine ai (C:=bj Tryz.prog w _) (args:=[_,_]) Tryz.func17 rfl Tryz.ntmps17 (cr rfl) ?_
 refine ae ?_
 refine VS.loop (J:=λmm L M w'=>∃ z:Nat,z<=N/\mm=N-z/\L=[(0,.val (.slice p N c)),(1,.val (.string s)),(5,.val (.int .i64 (z:Int)))]/\M=[]/\∀ (i:Nat) (y:vM),i<z->ss[i]? =some y->(λx=>x.1.toList == s.toList) y=false) N ⟨_,_,?_,?_,?_,?_,⟨0,by omega,rfl,rfl,rfl,λi y hi=>by omega⟩⟩ ?_
 ·exact du
 ·exact du
 ·rfl
 ·exact iq
 rintro mm L M wJ ⟨z,hz,rfl,rfl,rfl,hno⟩
 refine ae ?_
 by_cases hlt:z<N
 ·obtain⟨x,hx⟩:∃ x,ss[z]? =some x:=⟨_,List.getElem?_eq_getElem aa⟩
  obtain⟨b,off,cs,rfl,hc,dE⟩:=hv.at hx
  obtain⟨s6,p6,n6,c6,t6,y6,m6,d6,rfl,-⟩:=dE
  refine VS.aU rfl (decide_eq_true (Int.ofNat_lt.2 hlt)) ?_
  refine ae ?_
  refine VO.cond rfl cW ?_
  refine wV rfl ?_
  refine ae ?_
  refine VO.read rfl [.string x.1] rfl (aC hc 0 _ ⟨_,rfl⟩) (wV rfl ?_)
  refine ae ?_
  cases hs0:(x.1.toList == s.toList) with
  | true=>
    have hs:(λx=>x.1.toList == s.toList) x=true:=hs0
    refine VS.aU rfl rfl ?_
    refine ae ?_
    refine bV ?_;intro wz kz bz
    exact⟨by rw[sj (P:=λx=>x.1.toList == s.toList) hx hno hs];rfl,bz⟩
  | false=>
    have hs:(λx=>x.1.toList == s.toList) x=false:=hs0
    refine VS.aN rfl rfl ?_
    refine ae ?_
    refine VS.back (N-(z+1)) aa ⟨_,_,?_,?_,?_,?_,⟨z+1,by omega,rfl,rfl,rfl,λi y hi hy=>(by
     by_cases Kk:i<z
     ·exact hno i y Kk hy
     ·rw[show i=z by omega,hx] at hy;cases hy;exact hs)⟩⟩
    ·refine⟨rfl,rfl,?_,trivial⟩
     rw[<-ay aa];rfl
    ·exact du
    ·rfl
    ·exact iq
 ·refine VS.aN rfl (decide_eq_false (λe=>hlt (Int.ofNat_lt.1 e))) ?_
  obtain rfl:z=N:=by omega
  refine ae ?_
  refine bV ?_;intro wz kz bz
  exact⟨by rw[mr (P:=λx=>x.1.toList == s.toList) (λi y hy=>hno i y (by have:=(List.getElem?_eq_some_iff.1 hy).1;omega) hy)];rfl,bz⟩
def sle (a b:ByteArray):Prop:=a.data.toList<=b.data.toList
theorem KQ {a b c:ByteArray} (h:sle a b) (h':sle b c):sle a c:=List.le_trans h h'
theorem KR (a b:ByteArray):sle a b\/sle b a:=List.le_total _ _
theorem IU:∀ (x y:List UInt8),_root_.Go.Op.bytesLess x y=decide (x<y)
 | _,[]=>by unfold _root_.Go.Op.bytesLess;simp
 | [],_::_=>by unfold _root_.Go.Op.bytesLess;simp
 | x::r,y::t=>by
   unfold _root_.Go.Op.bytesLess
   rw[IU r t]
   simp only[List.cons_lt_cons_iff]
   by_cases h1:x<y <;> by_cases h2:x=y <;> by_cases h3:r<t <;> simp[h1,h2,h3]
theorem Ov (a b:ByteArray):(!(_root_.Go.Op.bytesLess a.toList b.toList || a.toList == b.toList))= !decide (a.data.toList<=b.data.toList):=by
 rw[IU,Lib.toList_data,Lib.toList_data]
 congr 1
 rw[Bool.eq_iff_iff]
 simp only[Bool.or_eq_true,decide_eq_true_eq,beq_iff_eq]
 constructor
 ·rintro (h|h)
  ·exact List.le_of_lt h
  ·rw[h];exact List.le_refl _
 ·intro h
  by_cases e:a.data.toList=b.data.toList
  ·exact .inr e
  ·refine .inl ?_
   by_cases g:a.data.toList<b.data.toList
   ·exact g
   ·exact absurd (List.le_antisymm h (List.not_lt.1 g)) e
def yU (l:List ByteArray) (j:Nat):Prop:=∀ (a b:Nat) (x y:ByteArray),a<b->b≠j->l[a]? =some x->l[b]? =some y->sle x y
def Srt (l:List ByteArray):Prop:=∀ (a b:Nat) (x y:ByteArray),a<b->l[a]? =some x->l[b]? =some y->sle x y
theorem Srt.pw {l:List ByteArray} (h:Srt l):l.Pairwise λx y=>x.data.toList<=y.data.toList:=List.pairwise_iff_getElem.2 λi j hi hj hij=>h i j _ _ hij (List.getElem?_eq_getElem hi) (List.getElem?_eq_getElem hj)
theorem yU.start {l:List ByteArray} {x:ByteArray} (h:Srt l):yU (l++[x]) l.length:=λa b u v qd hb hu hv=>by
 have hbl:=(List.getElem?_eq_some_iff.1 hv).1
 rw[List.length_append,List.length_singleton] at hbl
 rw[List.getElem?_append_left aa] at hu hv
 exact h a b u v qd hu hv
theorem yU.zero {l:List ByteArray} (h:yU l 0):Srt l:=λa b x y qd=>h a b x y qd aa
theorem yU.stop {l:List ByteArray} {k:Nat} {x y:ByteArray} (h:yU l (k+1)) (hx:l[k]? =some x) (hy:l[k+1]? =some y) (hle:sle x y):Srt l:=λa b u v qd hu hv=>by
 by_cases hb:b=k+1
 ·subst hb
  rw[hy] at hv;cases hv
  by_cases ha:a=k
  ·subst ha;rw[hx] at hu;cases hu;exact hle
  ·exact KQ (h a k u x aa aa hu hx) hle
 ·exact h a b u v qd hb hu hv
theorem yU.step {l:List ByteArray} {k:Nat} {x y:ByteArray} (h:yU l (k+1)) (hx:l[k]? =some x) (hy:l[k+1]? =some y) (hle:¬ sle x y):yU ((l.set k y).set (k+1) x) k:=λa b u v qd hb hu hv=>by
 have hyx:sle y x:=(KR x y).resolve_left hle
 rw[List.getElem?_set,List.getElem?_set] at hu hv
 have Ap:=(List.getElem?_eq_some_iff.1 hy).1
 simp only[List.length_set] at hu hv
 by_cases bl:k+1=b
 ·subst bl
  rw[if_pos rfl,if_pos aa] at hv
  cases hv
  rw[if_neg aa] at hu
  by_cases ha:k=a
  ·rw[if_pos ha,if_pos aa] at hu;cases hu;exact hyx
  ·rw[if_neg ha] at hu
   exact h a k u x aa aa hu hx
 ·rw[if_neg bl,if_neg aa] at hv
  by_cases ha1:k+1=a
  ·rw[if_pos ha1,if_pos aa] at hu;cases hu
   exact h k b x v aa aa hx hv
  ·rw[if_neg ha1] at hu
   by_cases ha:k=a
   ·rw[if_pos ha,if_pos aa] at hu;cases hu
    exact h (k+1) b y v aa aa hy hv
   ·rw[if_neg ha] at hu
    exact h a b u v qd aa hu hv
theorem swap_perm {l:List ByteArray} {k:Nat} {x y:ByteArray} (hx:l[k]? =some x) (hy:l[k+1]? =some y):((l.set k y).set (k+1) x).Perm l:=by
 obtain⟨h1,rfl⟩:=List.getElem?_eq_some_iff.1 hx
 obtain⟨h2,rfl⟩:=List.getElem?_eq_some_iff.1 hy
 exact List.set_set_perm h1 h2
abbrev sv (s:ByteArray):AV:=.val (.string s)
structure SR (l:List ByteArray) (cap:Nat) (sp:List AV):Prop where
 so:sp.all aZ=true
 sl:aW sp=[]
 le:l.length<=cap
 cm:cap<=9223372036854775807
 fl:(l.map sv++sp).length=cap
theorem mH (l:List ByteArray) (sp:List AV):(l.map λs=>[Value.string s]).flatten.map AV.val++sp=l.map sv++sp:=by rw[jI,List.map_map];rfl
theorem Ow {w:World}:∀ {es:List ByteArray} {vs:List (List Value)},cJ dv w es vs->vs=es.map λs=>[.string s]
 | _,_,.nil=>rfl
 | _,_,.cons h t=>by cases h;rw[Ow t];rfl
theorem SR.n {l:List ByteArray} {cap:Nat} {sp:List AV} (h:SR l cap sp) (w:World):bO dv 1 w l.length cap (l.map λs=>[.string s]) sp l:=⟨rfl,pV w l,h.so,h.sl,h.le,h.cm,by rw[mH];have:=h.fl;omega⟩
theorem bO.sr {w:World} {n cap:Nat} {vs:List (List Value)} {sp:List AV} {l:List ByteArray} (h:bO dv 1 w n cap vs sp l):n=l.length/\vs=(l.map λs=>[.string s])/\SR l cap sp:=by
 have h1:=Ow h.el
 have h2:=h.len
 have h3:=h.fl
 have h4:=h.le
 subst h1
 rw[mH] at h3
 exact⟨h2,rfl,h.so,h.sl,by omega,h.cm,by omega⟩
theorem SR.set {l:List ByteArray} {cap:Nat} {sp:List AV} (h:SR l cap sp) (i:Nat) (s:ByteArray):SR (l.set i s) cap sp:=⟨h.so,h.sl,by rw[List.length_set];exact h.le,h.cm,by have:=h.fl;simpa using this⟩
theorem IV {l:List ByteArray} {sp:List AV} {i:Nat} {s:ByteArray} (h:l[i]? =some s):∀ (j:Nat) (u:AV),(([.string s]:List Value).map AV.val)[j]? =some u->(l.map sv++sp)[0+((i:Nat):Int).toNat*1+j]? =some u:=λj u hj=>by
 match j,hj with
 | 0,hj=>
   cases hj
   have:=(List.getElem?_eq_some_iff.1 h).1
   rw[Int.toNat_natCast,Nat.zero_add,Nat.mul_one,Nat.add_zero,List.getElem?_append_left (by rw[List.length_map];exact this),List.getElem?_map,h]
   rfl
 | j+1,hj=>simp at hj
theorem Ox {l:List ByteArray} {sp:List AV} {i:Nat} {s:ByteArray} (h:i<l.length):(l.map sv++sp).take (0+((i:Nat):Int).toNat*1)++([sv s]++(l.map sv++sp).drop (0+((i:Nat):Int).toNat*1+1))=(l.set i s).map sv++sp:=by
 rw[Int.toNat_natCast,Nat.zero_add,Nat.mul_one,List.take_append_of_le_length (by rw[List.length_map];omega),List.drop_append_of_le_length (by rw[List.length_map];omega),List.map_set,List.set_eq_take_append_cons_drop,if_pos (by rw[List.length_map];exact h)]
 simp
theorem SR.oO {M:List (Nat×(TypeId×List AV))} {l:List ByteArray} {cap:Nat} {sp:List AV} (h:SR l cap sp):aw M (l.map sv++sp):=by rw[<-mH];exact .append (.vals _) (.none h.sl)
theorem Br {k:Nat} (h:k<1000000):IntKind.i64.wrap (((k+1:Nat):Int)-1)=(k:Int):=by rw[IntWalk.i64_in _ aa];omega
def SrSt (X:AV) (M:List (Nat×(TypeId×List AV))) (l:List ByteArray):Prop:=(l=[]/\X=.val (.slice none 0 0)/\M=[])\/∃ cap sp,X=.row 20 0 l.length cap/\M=[(20,(9,l.map sv++sp))]/\SR l cap sp
set_option maxRecDepth 8000 in
theorem GY (v:Value) (f:iU) (kk:Nat) (w:World) (hv:mz kk w v f) (hb:f.bu.length<=100000):
  Calls Tryz.prog 59 #[v] w λo w'=>∃ r,o=.returned r/\aE dv 1 9 w.heap.size w' r (dt f.bu)/\ax w w':=by
 obtain⟨pB,nB,cB,sT,pT,nT,cT,tT,yT,mT,dT,sC,pC,nC,cC,tC,yC,mC,dC,sI,pI,nI,cI,tI,yI,mI,dI,sF,pF,nF,cF,tF,yF,mF,dF,pc,Nc,cc,pe,Ne,ce,py,Ny,cy,rfl,h1,h2,h3,h4,h5,h6,h7,h8⟩:=hv
 have NC:Ne=f.bu.length:=by obtain⟨_,_,e,_⟩:=h7.form;cases e;rfl
 clear h1 h2 h3 h4 h5 h6 h8
 refine ai (C:=bj Tryz.prog w _) (args:=[_]) Tryz.func59 rfl Tryz.ntmps59 (cr rfl) ?_
 refine ae ?_
 refine VS.loop (J:=λm L M w'=>∃ (z:Nat) (X:AV) (Mi:List (Nat×(TypeId×List AV))) (l:List ByteArray),z<=Ne/\m=Ne-z/\L=[(1,.box 1 0),(3,X),(4,.val (.int .i64 (z:Int)))]/\M=(1,(42,[.string f.name,.string f.parent,.slice pB nB cB,.bool sT,.slice pT nT cT,.bool tT,.slice yT mT dT,.bool sC,.slice pC nC cC,.bool tC,.slice yC mC dC,.int .i64 f.bk,.int .i64 f.fw,.bool sI,.slice pI nI cI,.bool tI,.slice yI mI dI,.bool sF,.slice pF nF cF,.bool tF,.slice yF mF dF,.int .i64 f.kp,.slice pc Nc cc,.slice pe Ne ce,.slice py Ny cy].map AV.val))::Mi/\SrSt X Mi l/\l.length=z/\l.Perm (f.bu.take z)/\Srt l) Ne ⟨_,_,?_,?_,?_,?_,⟨0,_,[],[],by omega,rfl,rfl,rfl,.inl ⟨rfl,rfl,rfl⟩,rfl,.refl _,λa b x y qd hx=>(by simp at hx)⟩⟩ ?_
 ·exact du
 ·exact du
 ·rfl
 ·exact iq
 rintro m L M wJ ⟨z,X,Mi,l,hz,rfl,rfl,rfl,hI,hll,hpm,hsr⟩
 refine VS.mask [19] (by rcases hI with ⟨_,rfl,rfl⟩|⟨_,_,rfl,rfl,_⟩ <;> (repeat first|exact trivial|refine⟨rfl,?_⟩)) ?_
 refine ae ?_
 by_cases hlt:z<Ne
 rotate_left
 ·refine VS.aN rfl (decide_eq_false (λe=>hlt (Int.ofNat_lt.1 e))) ?_
  obtain rfl:Ne=z:=by omega
  rw[List.take_of_length_le aa] at hpm
  have sS:=EA hpm hsr.pw
  rcases hI with ⟨rfl,rfl,rfl⟩|⟨cap,sp,rfl,rfl,hS⟩
  ·refine ae ?_
   refine VS.qh (cV _ _) rfl (λwz β kz bz en=> ?_)
   exact⟨_,rfl,.inl ⟨rfl,sS⟩,bz⟩
  ·refine ae ?_
   refine VS.qh (cV _ _) rfl (λwz β kz bz en=> ?_)
   exact⟨_,rfl,by rw[sS];exact (hS.n wz).new aJ (by rw[mH];exact en.own 20 _ _ rfl) (kR _),bz⟩
 obtain⟨x,hx⟩:∃ x,f.bu[z]? =some x:=⟨_,List.getElem?_eq_getElem aa⟩
 obtain⟨b,off,cs,rfl,hc,dE⟩:=h7.at hx
 cases dE
 refine VS.aU rfl (decide_eq_true (Int.ofNat_lt.2 hlt)) ?_
 (repeat (first|refine wN ?_|refine wP rfl ?_|refine wO rfl rfl ?_))
 subst hll
 have hpm2:(l++[x]).Perm (f.bu.take (l.length+1)):=by rw[aR hx];exact hpm.append_right _
 apply VS.hop (P:=λF' H' w'=>∃ cap sp,F'=Fr.of [(1,.box 1 0),(3,.row 20 0 (l.length+1) cap),(4,.val (.int .i64 (l.length:Int)))]/\H'=Hp.of [(1,(42,[.string f.name,.string f.parent,.slice pB nB cB,.bool sT,.slice pT nT cT,.bool tT,.slice yT mT dT,.bool sC,.slice pC nC cC,.bool tC,.slice yC mC dC,.int .i64 f.bk,.int .i64 f.fw,.bool sI,.slice pI nI cI,.bool tI,.slice yI mI dI,.bool sF,.slice pF nF cF,.bool tF,.slice yF mF dF,.int .i64 f.kp,.slice pc Nc cc,.slice (some ⟨b,off,none⟩) Ne ce,.slice py Ny cy].map AV.val)),(20,(9,(l++[x]).map sv++sp))]/\SR (l++[x]) cap sp)
 ·intro cont
  refine ae ?_
  refine VO.cond rfl cW ?_
  refine wV rfl ?_
  refine ae ?_
  refine VO.read rfl [.string x] rfl (cN hc) (wV rfl ?_)
  refine ae ?_
  rcases hI with ⟨dc,rfl,rfl⟩|⟨cap,sp,rfl,rfl,hS⟩
  ·refine VO.iM (cV _ _) aJ (t:=29) (e:=9) (s:=19) (a:=x) (cs:=[.string x]) rfl rfl rfl rfl rfl rfl rfl rfl (cr rfl) rfl rfl rfl rfl aa (λw9 cap sp k9 b9 dR=>wV rfl ?_)
   obtain⟨-,-,hS⟩:=dR.sr
   replace hS:SR (l++[x]) cap sp:=by rw[dc];exact hS
   (repeat (first|refine wN ?_|refine wP rfl ?_|refine wO rfl rfl ?_))
   refine VS.narrow [(1,.box 1 0),(3,.row 20 0 (l.length+1) cap),(4,.val (.int .i64 (l.length:Int)))] [(1,(42,[.string f.name,.string f.parent,.slice pB nB cB,.bool sT,.slice pT nT cT,.bool tT,.slice yT mT dT,.bool sC,.slice pC nC cC,.bool tC,.slice yC mC dC,.int .i64 f.bk,.int .i64 f.fw,.bool sI,.slice pI nI cI,.bool tI,.slice yI mI dI,.bool sF,.slice pF nF cF,.bool tF,.slice yF mF dF,.int .i64 f.kp,.slice pc Nc cc,.slice (some ⟨b,off,none⟩) Ne ce,.slice py Ny cy].map AV.val)),(20,(9,(l++[x]).map sv++sp))] ?_ ?_ rfl ⟨.lit rfl,hS.oO,trivial⟩ ?_
   ·rw[dc];(repeat first|exact trivial|refine⟨rfl,?_⟩)
   ·rw[dc];(repeat first|exact trivial|refine⟨rfl,?_⟩)
   exact cont _ _ _ ⟨cap,sp,rfl,rfl,hS⟩
  ·refine VO.qi 20 rfl (mH l sp).symm ?_
   refine VO.iP (cV _ _) aJ (t:=29) (e:=9) (s:=19) (i:=20) (n:=l.length) (c:=cap) (vs:=l.map λs=>[.string s]) (sp:=sp) (es:=l) (a:=x) (cs:=[.string x]) rfl rfl rfl rfl rfl rfl rfl rfl (cr rfl) rfl (.inr rfl) rfl (hS.n _) rfl rfl aa (λw9 ir fx ρ k9 b9 dY dR=> ?_)
   obtain⟨-,HF,hS2⟩:=dR.sr
   refine VO.qi 20 rfl (by rw[HF,mH]) (wV rfl ?_)
   (repeat (first|refine wN ?_|refine wP rfl ?_|refine wO rfl rfl ?_))
   refine VS.narrow [(1,.box 1 0),(3,.row 20 0 (l.length+1) ir),(4,.val (.int .i64 (l.length:Int)))] [(1,(42,[.string f.name,.string f.parent,.slice pB nB cB,.bool sT,.slice pT nT cT,.bool tT,.slice yT mT dT,.bool sC,.slice pC nC cC,.bool tC,.slice yC mC dC,.int .i64 f.bk,.int .i64 f.fw,.bool sI,.slice pI nI cI,.bool tI,.slice yI mI dI,.bool sF,.slice pF nF cF,.bool tF,.slice yF mF dF,.int .i64 f.kp,.slice pc Nc cc,.slice (some ⟨b,off,none⟩) Ne ce,.slice py Ny cy].map AV.val)),(20,(9,(l++[x]).map sv++fx))] ?_ ?_ rfl ⟨.lit rfl,hS2.oO,trivial⟩ ?_
   ·exact du
   ·exact du
   exact cont _ _ _ ⟨ir,fx,rfl,rfl,hS2⟩
 rintro F' H' w9 ⟨cap,sp,rfl,rfl,hS⟩
 refine ae ?_
 refine VS.loop (J:=λm L M w'=>∃ (j:Nat) (u:List ByteArray),j<=l.length/\m=j/\L=[(1,.box 1 0),(3,.row 20 0 (l.length+1) cap),(4,.val (.int .i64 (l.length:Int))),(5,.val (.int .i64 (j:Int)))]/\M=[(1,(42,[.string f.name,.string f.parent,.slice pB nB cB,.bool sT,.slice pT nT cT,.bool tT,.slice yT mT dT,.bool sC,.slice pC nC cC,.bool tC,.slice yC mC dC,.int .i64 f.bk,.int .i64 f.fw,.bool sI,.slice pI nI cI,.bool tI,.slice yI mI dI,.bool sF,.slice pF nF cF,.bool tF,.slice yF mF dF,.int .i64 f.kp,.slice pc Nc cc,.slice (some ⟨b,off,none⟩) Ne ce,.slice py Ny cy].map AV.val)),(20,(9,u.map sv++sp))]/\SR u cap sp/\u.length=l.length+1/\u.Perm (f.bu.take (l.length+1))/\yU u j) l.length ⟨_,_,?_,?_,?_,?_,⟨l.length,l++[x],by omega,rfl,rfl,rfl,hS,by simp,hpm2,.start hsr⟩⟩ ?_
 ·exact du
 ·exact du
 ·rfl
 ·exact⟨.lit rfl,hS.oO,trivial⟩
 rintro m L M w2 ⟨j,u,hj,rfl,rfl,rfl,hS,ze,hpu,vo⟩
 refine ae ?_
 cases m with
 | zero=>
   refine VO.fix 24 rfl (congrArg (λb=>AV.val (.bool b)) (decide_eq_false (show ¬ ((0:Nat):Int)>0 by omega))) ?_
   refine ae ?_
   refine VS.back (Ne-(l.length+1)) aa ⟨_,_,?_,?_,?_,?_,⟨l.length+1,.row 20 0 (l.length+1) cap,[(20,(9,u.map sv++sp))],u,by omega,rfl,rfl,rfl,.inr ⟨cap,sp,by rw[ze],rfl,hS⟩,ze,hpu,vo.zero⟩⟩
   ·refine⟨rfl,rfl,?_,trivial⟩
    rw[<-ay (i:=l.length) aa];rfl
   ·exact du
   ·rfl
   ·exact⟨.lit rfl,hS.oO,trivial⟩
 | succ k=>
   refine VO.fix 24 rfl (congrArg (λb=>AV.val (.bool b)) (decide_eq_true (show ((k+1:Nat):Int)>0 by omega))) ?_
   refine ae ?_
   refine VO.fix 27 rfl (congrArg (λz=>AV.val (.int .i64 z)) (Br (k:=k) aa)) ?_
   refine ae ?_
   obtain⟨x0,h0⟩:∃ y,u[k]? =some y:=⟨_,List.getElem?_eq_getElem aa⟩
   obtain⟨y0,h1⟩:∃ y,u[k+1]? =some y:=⟨_,List.getElem?_eq_getElem aa⟩
   refine VO.cond rfl cW ?_
   refine wV rfl ?_
   refine ae ?_
   refine VO.il rfl (([.string x0]:List Value).map .val) rfl (IV h0) (wV rfl ?_)
   refine ae ?_
   refine VO.cond rfl cW ?_
   refine wV rfl ?_
   refine ae ?_
   refine VO.il rfl (([.string y0]:List Value).map .val) rfl (IV h1) (wV rfl ?_)
   refine ae ?_
   by_cases hle:sle x0 y0
   ·refine VS.aN rfl (by rw[Ov,decide_eq_true (show x0.data.toList<=y0.data.toList from hle)];rfl) ?_
    refine ae ?_
    refine VS.back (Ne-(l.length+1)) aa ⟨_,_,?_,?_,?_,?_,⟨l.length+1,.row 20 0 (l.length+1) cap,[(20,(9,u.map sv++sp))],u,by omega,rfl,rfl,rfl,.inr ⟨cap,sp,by rw[ze],rfl,hS⟩,ze,hpu,vo.stop h0 h1 hle⟩⟩
    ·refine⟨rfl,rfl,?_,trivial⟩
     rw[<-ay (i:=l.length) aa];rfl
    ·exact du
    ·rfl
    ·exact⟨.lit rfl,hS.oO,trivial⟩
   refine VS.aU rfl (by rw[Ov,decide_eq_false (show ¬ x0.data.toList<=y0.data.toList from hle)];rfl) ?_
   refine ae ?_
   refine VO.fix 40 rfl (congrArg (λz=>AV.val (.int .i64 z)) (Br (k:=k) aa)) ?_
   refine ae ?_
   refine VO.cond rfl cW ?_
   refine wV rfl ?_
   refine ae ?_
   refine VO.il rfl (([.string y0]:List Value).map .val) rfl (IV h1) (wV rfl ?_)
   refine ae ?_
   refine VO.fix 49 rfl (congrArg (λz=>AV.val (.int .i64 z)) (Br (k:=k) aa)) ?_
   refine ae ?_
   refine VO.cond rfl cW ?_
   refine wV rfl ?_
   refine ae ?_
   refine VO.il rfl (([.string x0]:List Value).map .val) rfl (IV h0) (wV rfl ?_)
   refine ae ?_
   refine VO.cond rfl cW ?_
   refine wV rfl ?_
   refine ae ?_
   refine VO.cond rfl (by show 0+((k:Int)).toNat*1+1<=_;have:=hS.fl;have:=hS.le;omega) (VO.qi 20 rfl (Ox (s:=y0) aa) (wV rfl ?_))
   refine ae ?_
   refine VO.cond rfl cW ?_
   refine wV rfl ?_
   refine ae ?_
   refine VO.cond rfl (by show 0+(((k+1:Nat):Int)).toNat*1+1<=_;have:=(hS.set k y0).fl;have:=hS.le;omega) (VO.qi 20 rfl (Ox (s:=x0) (by rw[List.length_set];omega)) (wV rfl ?_))
   refine ae ?_
   have hS2:=(hS.set k y0).set (k+1) x0
   refine VS.back k aa ⟨_,_,?_,?_,?_,?_,⟨k,(u.set k y0).set (k+1) x0,by omega,rfl,rfl,rfl,hS2,by rw[List.length_set,List.length_set];exact ze,(swap_perm h0 h1).trans hpu,vo.step h0 h1 hle⟩⟩
   ·exact⟨rfl,rfl,rfl,congrArg (λz=>some (AV.val (.int .i64 z))) (Br (k:=k) aa),trivial⟩
   ·exact du
   ·rfl
   ·exact⟨.lit rfl,hS2.oO,trivial⟩
set_option maxRecDepth 4000
theorem Bs {α:Type} {P:α->Bool}:∀ {l:List α},0<=jJ P l->jJ P l<l.length
 | [],h=>by unfold jJ at h;omega
 | x::r,h=>by
   have ih:=Bs (P:=P) (l:=r)
   unfold jJ at h ⊢
   rw[List.length_cons]
   split
   ·omega
   ·rename_i h1
    rw[if_neg h1] at h
    split at h
    ·omega
    ·rename_i h2
     rw[if_neg h2]
     have:=ih aa
     omega
theorem yi {α β:Type} (P:β->Bool) (g:α->β):∀ {l:List α},jJ P (l.map g)=jJ (λx=>P (g x)) l
 | []=>rfl
 | x::r=>by
   rw[List.map_cons]
   unfold jJ
   rw[yi P g]
theorem has_of {t:kL} {n k:Nat} {e c:Int} (h:t.map List.length=List.replicate n k) (h1:0<=e) (h2:e<n) (h3:0<=c) (h4:c<k):mv t e c=true:=by
 have hl:t.length=n:=by have:=congrArg List.length h;simpa using this
 unfold mv
 rw[decide_eq_true_eq]
 refine⟨h1,by omega,h3,?_⟩
 obtain⟨r,hr⟩:∃ r,t[e.toNat]? =some r:=⟨_,List.getElem?_eq_getElem aa⟩
 rw[List.getD_eq_getElem?_getD,hr]
 have:r.length=k:=List.eq_of_mem_replicate (h▸List.mem_map_of_mem (List.mem_of_getElem? hr))
 show c<(r.length:Int)
 omega
abbrev T8:TypeId->Bool:=λt=>(Nat.beq t 9 || (Nat.beq t 147 || Nat.beq t 38))
abbrev vc (P:Program) (w:World) (N:Nat):Cx:={ P:=P,w0:=w,N:=N,K:=⟨UU,λ_=>True,λt=>T8 t⟩,SU:=λt=>Nat.beq t 23,ti:=table,keep:=λ_ _=>trivial }
theorem nE (w:World) (N:Nat):(vc Tryz.prog w N).Ok:=eD
theorem GZ (w:World) (N:Nat):(vc Tryz.prog w N).P.follows .mixedOrders=true:=by show Tryz.prog.follows .mixedOrders=true;kernel_rfl
section
variable {F F':Fr} {H H':Hp} {w w1:World} {N:Nat} {l':List Oper} {Q:Exit->Act->World->Prop} {k:List It} {id:Nat} {ops:Array Oper}
theorem cxT8_r (e:im (vc Tryz.prog w1 N) ops 80 ops.toList F H=(l',F',H')) (h:aB (vc Tryz.prog w1 N) none ops l' (VS (vc Tryz.prog w1 N) Q k) F' H' w):VS (vc Tryz.prog w1 N) Q (.code (.region id ops false)::k) F H w:=VS.region (nE _ _) (VO.run 80 e h)
theorem cxT8_d (e:im (vc Tryz.prog w1 N) ops 80 ops.toList F H=(l',F',H')) (h:aB (vc Tryz.prog w1 N) (some []) ops l' (VS (vc Tryz.prog w1 N) Q k) F' H' w) (iY:jO (vc Tryz.prog w1 N).SU [] ops=true:=by kernel_rfl):VS (vc Tryz.prog w1 N) Q (.code (.region id ops true)::k) F H w:=VS.draw (nE _ _) (GZ _ _) [] iY (VO.run 80 e h)
end
theorem fb {P Q:Prop} (h:Q) (i:Q->P:=by intro h;(repeat first|refine wN ?_|refine wP rfl ?_|refine cxT8_r rfl ?_|refine cxT8_d rfl ?_|refine wO rfl rfl ?_);exact h):P:=i h
theorem yj {P Q X:Prop} (hb:X) (h:Q) (i:X->Q->P:=by intro hb h;refine⟨_,rfl,hb,λa b c=>wV rfl ?_⟩;refine fb ?_;revert a b c;exact h):P:=i hb h
set_option maxRecDepth 8000 in
theorem EP (v:Value) (f:iU) (year:Int) (kk nb:Nat) (w:World) (hv:mz kk w v f) (tw:1<=kk) (Aj:∀ y∈f.iy,y.cf.length<=nb) (hK:1+nb*(kk+1)<=1000) (rh:kk<=1000) (hE:f.bu.length<=1000) (hC:f.cls.length<=1000) (hnb1:nb<=1000):
  Calls Tryz.prog 12 #[v,.int .i64 year] w λo w'=>∃ r,o=.returned (.tuple #[.agg #[r],.int .i64 (xU (f.yN year))])/\jn (qT (1+nb*(kk+1))) 147 38 w.heap.size w' r ((f.yN year).getD [])/\ax w w':=by
 have KY:=hv
 obtain⟨pB,nB,cB,sT,pT,nT,cT,tT,yT,mT,dT,sC,pC,nC,cC,tC,yC,mC,dC,sI,pI,nI,cI,tI,yI,mI,dI,sF,pF,nF,cF,tF,yF,mF,dF,pc,Nc,cc,pe,Ne,ce,py,Ny,cy,rfl,h1,h2,h3,h4,h5,h6,h7,h8⟩:=hv
 have Ev:Nc=f.cls.length:=by obtain⟨_,_,e,_⟩:=h6.form;cases e;rfl
 have NC:Ne=f.bu.length:=by obtain⟨_,_,e,_⟩:=h7.form;cases e;rfl
 have Lk:Ny=f.iy.length:=by obtain⟨_,_,e,_⟩:=h8.form;cases e;rfl
 have bN:Ny<=9223372036854775807:=by obtain⟨_,_,e,h1,h2⟩:=h8.form;cases e;exact Nat.le_trans h1 h2
 have bad:∀ (W:World) (hB:ax w W),f.yN year=none->∃ r,(Ending.returned (.tuple #[.agg #[.slice none 0 0],.int .i64 2]))=.returned (.tuple #[.agg #[r],.int .i64 (xU (f.yN year))])/\jn (qT (1+nb*(kk+1))) 147 38 w.heap.size W r ((f.yN year).getD [])/\ax w W:=λW hB hn=>by
  rw[hn]
  exact⟨_,rfl,jn.nil,hB⟩
 refine ai (C:=vc Tryz.prog w _) (args:=[_,_]) Tryz.func12 rfl Tryz.ntmps12 (cr rfl) ?_
 refine fb ?_
 by_cases Al:year<0
 ·refine VO.fix 14 rfl (congrArg (λb=>AV.val (.bool b)) (decide_eq_true Al)) ?_
  refine fb ?_
  refine VS.ret (nE _ _) rfl rfl (λwz kz bz=> ?_)
  exact bad _ bz (by unfold iU.yN qV;rw[if_pos (.inl Al)])
 refine VO.fix 14 rfl (congrArg (λb=>AV.val (.bool b)) (decide_eq_false Al)) ?_
 refine fb ?_
 by_cases Ak:(Ny:Int)<=year
 ·refine VS.aU rfl (decide_eq_true Ak) ?_
  refine fb ?_
  refine VS.ret (nE _ _) rfl rfl (λwz kz bz=> ?_)
  exact bad _ bz (by unfold iU.yN qV;rw[if_pos (.inr (by rw[List.length_map,<-Lk];exact Ak))])
 refine VS.aN rfl (decide_eq_false Ak) ?_
 obtain⟨Y,rfl⟩:=Int.eq_ofNat_of_zero_le (show 0<=year by omega)
 obtain⟨y,hy⟩:∃ y,f.iy[Y]? =some y:=⟨_,List.getElem?_eq_getElem aa⟩
 have hR:f.yN (Y:Int)=oX (dt f.bu) (f.cls.map vM.k) (y.cf.map Ew.b):=by
  unfold iU.yN qV
  rw[if_neg (by rw[List.length_map];omega),Int.toNat_natCast,List.getD_eq_getElem?_getD,List.getElem?_map,hy];rfl
 have hnbk:=Aj y (List.mem_of_getElem? hy)
 obtain⟨BC,BD,csy,rfl,qA,⟨yh,yb,yd,ys,yq,rfl,y1,Kq,-,-,-⟩⟩:=h8.at hy
 obtain⟨pb,cb,rfl,Bx,hbc2⟩:=Kq.form
 refine fb ?_
 refine VO.call rfl rfl (fk Tryz.func59) (λbL dw bX=>(GY _ f kk bL (KY.az bX) aa).mono ?_)
 rintro e w1 ⟨r1,rfl,q1,bl⟩
 obtain⟨pn,cn,rfl⟩:=q1.form
 refine yj bl ?_
 intro eM _ bb1
 refine VO.cond rfl cW ?_
 refine wV rfl ?_
 refine fb ?_
 refine VO.read rfl [.slice pb y.cf.length cb] rfl (aC qA 2 _ ⟨_,rfl⟩) (wV rfl ?_)
 refine fb ?_
 refine VO.call rfl rfl (fk Tryz.func35) (λdh eU dQ=>(Gy _ _ dh (by rw[kA];omega) aa).mono ?_)
 rintro o w2 ⟨r2,rfl,q2,bM⟩
 obtain⟨p2,L2,c2,rfl⟩:∃ p n c,r2=.slice p n c:=by obtain⟨p,c,e⟩:=q2.form;exact⟨_,_,_,e⟩
 refine yj bM ?_
 intro gr _ bb2
 obtain⟨N,hN⟩:∃ N,N=y.cf.length:=⟨_,rfl⟩
 rw[<-hN] at Kq Bx hnbk ⊢
 refine VS.loop (J:=λm L M w'=>∃ (z:Nat) (tv:Value) (t:kL),z<=N/\m=N-z/\L=[(2,.box 2 0),(4,.box 4 0),(6,.val (.slice pn (dt f.bu).length cn)),(7,.val (.slice pb N cb)),(8,.box 8 0),(9,.val (.int .i64 (z:Int)))]/\M=[(2,(42,[.string f.name,.string f.parent,.slice pB nB cB,.bool sT,.slice pT nT cT,.bool tT,.slice yT mT dT,.bool sC,.slice pC nC cC,.bool tC,.slice yC mC dC,.int .i64 f.bk,.int .i64 f.fw,.bool sI,.slice pI nI cI,.bool tI,.slice yI mI dI,.bool sF,.slice pF nF cF,.bool tF,.slice yF mF dF,.int .i64 f.kp,.slice pc Nc cc,.slice pe Ne ce,.slice (some ⟨BC,BD,none⟩) Ny cy].map AV.val)),(4,(46,[.val (.slice none 0 0)])),(8,(46,[.val tv]))]/\aE dv 1 9 w.heap.size w' (.slice pn (dt f.bu).length cn) (dt f.bu)/\jn (qT (1+z*(kk+1))) 147 38 w.heap.size w' tv t/\oX (dt f.bu) (f.cls.map vM.k) ((y.cf.map Ew.b).take z)=some t/\t.map List.length=List.replicate (dt f.bu).length f.cls.length) N ⟨_,_,?_,?_,?_,?_,⟨0,.slice p2 L2 c2,ft (dt f.bu).length f.cls.length,by omega,rfl,rfl,rfl,(q1.kp aJ (T:=T8) (show jH T8 w1 _ from dz) rfl).mono bX.size,?_,(by rw[List.take_zero];unfold oX;rw[List.foldl_nil,List.length_map]),?_⟩⟩ ?_
 ·exact du
 ·exact du
 ·rfl
 ·exact iq
 ·rw[Nat.zero_mul,Nat.add_zero]
  rw[Ev] at q2
  exact (q2.kp (cE 1) (T:=T8) (show jH T8 w2 _ from dz) rfl rfl).mono dQ.size
 ·unfold ft;rw[List.map_replicate,List.length_replicate]
 rintro m L M wJ ⟨z,tv,t,hz,rfl,rfl,rfl,hnvJ,hTJ,hF,hD⟩
 refine VS.now (λW kW bW=> ?_)
 have hnv:=hnvJ.kp aJ (T:=T8) (show jH T8 wJ W from dz) rfl
 have hT:=hTJ.kp (cE _) (T:=T8) (show jH T8 wJ W from dz) rfl rfl
 clear hnvJ hTJ
 obtain⟨pt,Lt,ct,rfl⟩:∃ p n c,tv=.slice p n c:=by obtain⟨p,c,e⟩:=hT.form;exact⟨_,_,_,e⟩
 have hzk:z*(kk+1)<=nb*(kk+1):=Nat.mul_le_mul_right _ aa
 refine fb ?_
 by_cases hlt:z<N
 rotate_left
 ·refine VS.aN rfl (decide_eq_false (λe=>hlt (Int.ofNat_lt.1 e))) ?_
  obtain rfl:N=z:=by omega
  rw[List.take_of_length_le (by rw[List.length_map];omega)] at hF
  refine fb ?_
  refine VS.ret (nE _ _) rfl rfl (λwz kz bz=> ?_)
  rw[hR,hF]
  exact⟨_,rfl,((hT.kp (cE _) (T:=T8) (show jH T8 W wz from dz) rfl rfl).imp λcs a h=>h.up aa),bz⟩
 obtain⟨x,hx⟩:∃ x,y.cf[z]? =some x:=⟨_,List.getElem?_eq_getElem aa⟩
 obtain⟨b,off,cs,rfl,hc,⟨s9,p9,n9,c9,t9,y9,m9,d9,rfl,oz⟩⟩:=Kq.at hx
 have hst:oX (dt f.bu) (f.cls.map vM.k) ((y.cf.map Ew.b).take (z+1))=if mv t (bkP (dt f.bu) x.b) (bkK (f.cls.map vM.k) x.b)=true then some (qU t (bkP (dt f.bu) x.b).toNat (bkK (f.cls.map vM.k) x.b).toNat x.b.2.2) else none:=by
  rw[zS (by rw[List.getElem?_map,hx];rfl),hF];rfl
 refine VS.aU rfl (decide_eq_true (Int.ofNat_lt.2 hlt)) ?_
 refine fb ?_
 refine VO.cond rfl cW ?_
 refine wV rfl ?_
 refine fb ?_
 refine VO.read rfl [.string x.1] rfl (aC hc 0 _ ⟨_,rfl⟩) (wV rfl ?_)
 refine fb ?_
 refine VO.call rfl rfl (fk Tryz.func60) (λgz gJ iL=>(GX _ (dt f.bu) x.1 gz ((hnv.kp aJ (T:=T8) (show jH T8 W gz from dz) rfl).sl aJ)).mono ?_)
 rintro o w3 ⟨rfl,dU⟩
 have he0:jJ (λu=>x.1.toList == u.toList) (dt f.bu)=bkP (dt f.bu) x.b:=rfl
 rw[he0]
 have heL:=Bs (P:=λu=>x.1.toList == u.toList) (l:=dt f.bu)
 rw[he0] at heL
 generalize bkP (dt f.bu) x.b=ei at hst heL ⊢
 refine yj dU ?_
 intro lN _ bb3
 refine VO.cond rfl cW ?_
 refine wV rfl ?_
 refine fb ?_
 refine VO.read rfl [.string x.2.1] rfl (aC hc 1 _ ⟨_,rfl⟩) (wV rfl ?_)
 refine fb ?_
 refine VO.call rfl rfl (fk Tryz.func17) (λjw kX kY=>(yg _ f.cls x.2.1 kk jw (h6.az (oZ.el kk) kY)).mono ?_)
 rintro o w4 ⟨rfl,iX⟩
 have Lc:jJ (λu=>u.1.toList == x.2.1.toList) f.cls=bkK (f.cls.map vM.k) x.b:=(yi (λu:nt=>u.1.toList == x.2.1.toList) vM.k).symm
 rw[Lc]
 have hcL:=Bs (P:=λu:vM=>u.1.toList == x.2.1.toList) (l:=f.cls)
 rw[Lc] at hcL
 generalize bkK (f.cls.map vM.k) x.b=ci at hst hcL ⊢
 refine yj iX ?_
 intro oK _ zJ
 have stop:ei<0\/ci<0->f.yN (Y:Int)=none:=λh=>by
  rw[hR]
  refine zT (z:=z+1) ?_
  rw[hst,if_neg]
  unfold mv
  rw[decide_eq_true_eq]
  omega
 by_cases he:ei<0
 ·refine VO.fix 59 rfl (congrArg (λb=>AV.val (.bool b)) (decide_eq_true he)) ?_
  refine fb ?_
  refine VS.ret (nE _ _) rfl rfl (λwz kz bz=> ?_)
  exact bad _ bz (stop (.inl he))
 refine VO.fix 59 rfl (congrArg (λb=>AV.val (.bool b)) (decide_eq_false he)) ?_
 refine fb ?_
 by_cases hci:ci<0
 ·refine VS.aU rfl (decide_eq_true hci) ?_
  refine fb ?_
  refine VS.ret (nE _ _) rfl rfl (λwz kz bz=> ?_)
  exact bad _ bz (stop (.inr hci))
 refine VS.aN rfl (decide_eq_false hci) ?_
 refine fb ?_
 refine VO.cond rfl cW ?_
 refine wV rfl ?_
 refine fb ?_
 refine VO.read rfl [.bool s9,.slice p9 n9 c9,.bool t9,.slice y9 m9 d9] rfl (aC hc 2 _ ⟨[],rfl⟩) (wV rfl ?_)
 refine fb ?_
 have hlen:t.length=(dt f.bu).length:=by have:=congrArg List.length hD;simpa using this
 have aQ:∀ r∈t,r.length=f.cls.length:=λr hr=>List.eq_of_mem_replicate (hD▸List.mem_map_of_mem hr)
 have hh:=has_of hD aa (heL aa) aa (hcL aa)
 refine VO.call rfl rfl (fk Tryz.func29) (λjU kZ lO=>(Kw _ _ t ei ci x.2.2.q (1+z*(kk+1)) kk jU (rowsA_e ((hT.kp (cE _) (T:=T8) (show jH T8 W jU from dz) rfl rfl).rows (cE _))) (oz.in.kp (Kp.of (U:=UU) lO)) aa tw aa aa (by rw[hlen,kA];omega) (λr hr=>by rw[aQ r hr];omega)).mono ?_)
 rintro o w5 ⟨r5,rfl,q5,kj⟩
 obtain⟨p5,L5,c5,rfl⟩:∃ p n c,r5=.slice p n c:=by obtain⟨p,c,e⟩:=q5.form;exact⟨_,_,_,e⟩
 refine yj kj ?_
 intro pQ _ AM
 rw[hh,if_pos rfl] at hst
 have htw:mD t ei ci x.2.2.q=qU t ei.toNat ci.toNat x.2.2.q:=by unfold mD;rw[hh,if_pos rfl]
 rw[htw] at q5
 have hsz5:w.heap.size<=jU.heap.size:=lO.size
 refine VS.back (N-(z+1)) aa ⟨_,_,?_,?_,?_,?_,⟨z+1,.slice p5 L5 c5,qU t ei.toNat ci.toNat x.2.2.q,by omega,rfl,rfl,rfl,hnv.kp aJ (T:=T8) (show jH T8 W _ from dz) rfl,?_,hst,?_⟩⟩
 ·refine⟨rfl,rfl,rfl,rfl,rfl,?_,trivial⟩
  rw[<-ay (i:=z) aa];rfl
 ·exact du
 ·rfl
 ·exact iq
 ·have hstep:1+z*(kk+1)+kk+1=1+(z+1)*(kk+1):=by rw[Nat.succ_mul];omega
  rw[<-hstep]
  exact (q5.kp (cE _) (T:=T8) (show jH T8 w5 _ from dz) rfl rfl).mono hsz5
 ·rw[Kl];exact hD
set_option maxRecDepth 4000
theorem qX.qk {kk:Nat} {w:World} {cs:List Value} {x:BrR} (h:qX kk w cs x) (g0:six x.1) (g1:six x.2):qX 6 w cs x:=by
 obtain⟨_,_,_,_,_,_,_,_,_,_,_,_,_,_,_,_,hv,h0,h1⟩:=h
 exact⟨_,_,_,_,_,_,_,_,_,_,_,_,_,_,_,_,hv,h0.to g0.1 g0.2,h1.to g1.1 g1.2⟩
theorem oZ.qk {kk:Nat} {w:World} {cs:List Value} {x:vM} (h:oZ kk w cs x) (g0:six x.2.2):oZ 6 w cs x:=by
 obtain⟨_,_,_,_,_,_,_,_,hv,h0,hx⟩:=h
 exact⟨_,_,_,_,_,_,_,_,hv,h0.to g0.1 g0.2,hx⟩
theorem iT.qk {kk:Nat} {w:World} {cs:List Value} {x:Ew} (h:iT kk w cs x) (g0:six x.2.2):iT 6 w cs x:=by
 obtain⟨_,_,_,_,_,_,_,_,hv,h0⟩:=h
 exact⟨_,_,_,_,_,_,_,_,hv,h0.to g0.1 g0.2⟩
theorem sx.qk {kk:Nat} {w:World} {cs:List Value} {x:DlR} (h:sx kk w cs x) (g0:six x.zU):sx 6 w cs x:=by
 obtain⟨_,_,_,_,_,_,_,_,hv,h0,hx⟩:=h
 exact⟨_,_,_,_,_,_,_,_,hv,h0.to g0.1 g0.2,hx⟩
theorem tN.qk {kk:Nat} {w:World} {cs:List Value} {x:SkR} (h:tN kk w cs x) (g0:six x.2.1) (g1:six x.2.2):tN 6 w cs x:=by
 obtain⟨_,_,_,_,_,_,_,_,_,_,_,_,_,_,_,_,hv,h0,h1⟩:=h
 exact⟨_,_,_,_,_,_,_,_,_,_,_,_,_,_,_,_,hv,h0.to g0.1 g0.2,h1.to g1.1 g1.2⟩
theorem uW.qk {kk:Nat} {w:World} {cs:List Value} {x:SdR} (h:uW kk w cs x) (g0:six x.2):uW 6 w cs x:=by
 obtain⟨_,_,_,_,_,_,_,_,hv,h0⟩:=h
 exact⟨_,_,_,_,_,_,_,_,hv,h0.to g0.1 g0.2⟩
theorem Bg.qk {kk:Nat} {w:World} {cs:List Value} {y:yO} (h:Bg kk w cs y) (g:∀ x∈jR y,six x):Bg 6 w cs y:=by
 obtain⟨a,b,c,d,e,hv,h1,h2,h3,h4,h5⟩:=h
 have g1:∀ x∈y.holds,six x.2.2:=λx hx=>g _ (by unfold jR;simp only[List.mem_append,List.mem_flatMap];exact .inl (.inl (.inl (.inl ⟨x,hx,by simp[jo]⟩))))
 have g2:∀ x∈y.cf,six x.2.2:=λx hx=>g _ (by unfold jR;simp only[List.mem_append,List.mem_flatMap];exact .inl (.inl (.inl (.inr ⟨x,hx,by simp[jo]⟩))))
 have g3:∀ x∈y.dG,six x.zU:=λx hx=>g _ (by unfold jR;simp only[List.mem_append,List.mem_flatMap];exact .inl (.inl (.inr ⟨x,hx,by simp[xX]⟩)))
 have g4:∀ x∈y.dp,six x.2.1/\six x.2.2:=λx hx=>⟨g _ (by unfold jR;simp only[List.mem_append,List.mem_flatMap];exact .inl (.inr ⟨x,hx,by simp[xY]⟩)),g _ (by unfold jR;simp only[List.mem_append,List.mem_flatMap];exact .inl (.inr ⟨x,hx,by simp[xY]⟩))⟩
 have g5:∀ x∈y.gf,six x.2:=λx hx=>g _ (by unfold jR;simp only[List.mem_append,List.mem_flatMap];exact .inr ⟨x,hx,by simp[GC]⟩)
 exact⟨a,b,c,d,e,hv,h1.mono (λi x cs hx h=>h.qk (g1 x (List.mem_of_getElem? hx))),h2.mono (λi x cs hx h=>h.qk (g2 x (List.mem_of_getElem? hx))),h3.mono (λi x cs hx h=>h.qk (g3 x (List.mem_of_getElem? hx))),h4.mono (λi x cs hx h=>h.qk (g4 x (List.mem_of_getElem? hx)).1 (g4 x (List.mem_of_getElem? hx)).2),h5.mono (λi x cs hx h=>h.qk (g5 x (List.mem_of_getElem? hx)))⟩
theorem mz.qk {kk:Nat} {w:World} {v:Value} {f:iU} (h:mz kk w v f) (g:∀ x∈iV f,six x):mz 6 w v f:=by
 obtain⟨pB,nB,cB,sT,pT,nT,cT,tT,yT,mT,dT,sC,pC,nC,cC,tC,yC,mC,dC,sI,pI,nI,cI,tI,yI,mI,dI,sF,pF,nF,cF,tF,yF,mF,dF,pc,Nc,cc,pe,Ne,ce,py,Ny,cy,hv,h1,h2,h3,h4,h5,h6,h7,h8⟩:=h
 have e1:=g f.eW (by unfold iV;simp)
 have e2:=g f.cap (by unfold iV;simp)
 have e3:=g f.eX (by unfold iV;simp)
 have e4:=g f.eZ (by unfold iV;simp)
 have g1:∀ x∈f.pZ,six x.1/\six x.2:=λx hx=>⟨g _ (by unfold iV;simp only[List.mem_append,List.mem_flatMap];exact .inl (.inl (.inr ⟨x,hx,by simp[qY]⟩))),g _ (by unfold iV;simp only[List.mem_append,List.mem_flatMap];exact .inl (.inl (.inr ⟨x,hx,by simp[qY]⟩)))⟩
 have g2:∀ x∈f.cls,six x.2.2:=λx hx=>g _ (by unfold iV;simp only[List.mem_append,List.mem_flatMap];exact .inl (.inr ⟨x,hx,by simp[xW]⟩))
 have g3:∀ y∈f.iy,∀ x∈jR y,six x:=λy hy x hx=>g _ (by unfold iV;simp only[List.mem_append,List.mem_flatMap];exact .inr ⟨y,hy,hx⟩)
 exact⟨pB,nB,cB,sT,pT,nT,cT,tT,yT,mT,dT,sC,pC,nC,cC,tC,yC,mC,dC,sI,pI,nI,cI,tI,yI,mI,dI,sF,pF,nF,cF,tF,yF,mF,dF,pc,Nc,cc,pe,Ne,ce,py,Ny,cy,hv,h1.mono (λi x cs hx h=>h.qk (g1 x (List.mem_of_getElem? hx)).1 (g1 x (List.mem_of_getElem? hx)).2),h2.to e1.1 e1.2,h3.to e2.1 e2.2,h4.to e3.1 e3.2,h5.to e4.1 e4.2,h6.mono (λi x cs hx h=>h.qk (g2 x (List.mem_of_getElem? hx))),h7,h8.mono (λi y cs hy h=>h.qk (g3 y (List.mem_of_getElem? hy)))⟩
abbrev T9:TypeId->Bool:=λt=>(EK t || TT5 t)
abbrev ra (P:Program) (w:World) (N:Nat):Cx:={ P:=P,w0:=w,N:=N,K:=⟨UU,λ_=>True,λt=>T9 t⟩,SU:=λt=>Nat.beq t 23,ti:=table,keep:=λ_ _=>trivial }
theorem qb (w:World) (N:Nat):(ra Tryz.prog w N).Ok:=eD
theorem Ha (w:World) (N:Nat):(ra Tryz.prog w N).P.follows .mixedOrders=true:=by show Tryz.prog.follows .mixedOrders=true;kernel_rfl
section
variable {F F':Fr} {H H':Hp} {w w1:World} {N:Nat} {l':List Oper} {Q:Exit->Act->World->Prop} {k:List It} {id:Nat} {ops:Array Oper}
theorem cxT9_r (e:im (ra Tryz.prog w1 N) ops 80 ops.toList F H=(l',F',H')) (h:aB (ra Tryz.prog w1 N) none ops l' (VS (ra Tryz.prog w1 N) Q k) F' H' w):VS (ra Tryz.prog w1 N) Q (.code (.region id ops false)::k) F H w:=VS.region (qb _ _) (VO.run 80 e h)
theorem cxT9_d (e:im (ra Tryz.prog w1 N) ops 80 ops.toList F H=(l',F',H')) (h:aB (ra Tryz.prog w1 N) (some []) ops l' (VS (ra Tryz.prog w1 N) Q k) F' H' w) (iY:jO (ra Tryz.prog w1 N).SU [] ops=true:=by kernel_rfl):VS (ra Tryz.prog w1 N) Q (.code (.region id ops true)::k) F H w:=VS.draw (qb _ _) (Ha _ _) [] iY (VO.run 80 e h)
end
theorem ee {P Q:Prop} (h:Q) (i:Q->P:=by intro h;(repeat first|refine wN ?_|refine wP rfl ?_|refine cxT9_r rfl ?_|refine cxT9_d rfl ?_|refine wO rfl rfl ?_);exact h):P:=i h
theorem yk {P Q X:Prop} (hb:X) (h:Q) (i:X->Q->P:=by intro hb h;refine⟨_,rfl,hb,λa b c=>wV rfl ?_⟩;refine ee ?_;revert a b c;exact h):P:=i hb h
set_option maxRecDepth 8000 in
theorem vd (v:Value) (f:iU) (year:Int) (name:ByteArray) (kk:Nat) (w:World) (hv:mz kk w v f):
  Calls Tryz.prog 3 #[v,.int .i64 year,.string name] w λo w'=>o=.returned (.bool true)/\ax w w':=by
 have KY:=hv
 obtain⟨pB,nB,cB,sT,pT,nT,cT,tT,yT,mT,dT,sC,pC,nC,cC,tC,yC,mC,dC,sI,pI,nI,cI,tI,yI,mI,dI,sF,pF,nF,cF,tF,yF,mF,dF,pc,Nc,cc,pe,Ne,ce,py,Ny,cy,rfl,h1,h2,h3,h4,h5,hc6,h7,h8⟩:=hv
 clear h1 h2 h3 h4 h5 h7 h8
 refine ai (C:=ra Tryz.prog w _) (args:=[_,_,_]) Tryz.func3 rfl Tryz.ntmps3 (cr rfl) ?_
 refine ee ?_
 refine VO.call rfl rfl (fk Tryz.func9) (λbL dw bX=>(KD _ f kk bL (KY.az bX)).mono ?_)
 rintro e w1 ⟨b1,rfl,q1,bl⟩
 skip
 refine yk bl ?_
 intro eM _ bb1
 cases b1
 ·refine ee ?_
  refine VO.cB rfl rfl (fk Tryz.func10) (λdh eU dQ=>po dh) (λdh eU dQ w2 bM gr _ bb2=>wV rfl ?_)
  refine ee ?_
  refine VS.ret (qb _ _) rfl rfl (λwz kz bz=> ?_)
  exact⟨rfl,bz⟩
 refine ee ?_
 by_cases hn:(name.size:Int)>70
 ·refine VS.aU rfl (decide_eq_true hn) ?_
  refine ee ?_
  refine VO.cB rfl rfl (fk Tryz.func10) (λdh eU dQ=>po dh) (λdh eU dQ w2 bM gr _ bb2=>wV rfl ?_)
  refine ee ?_
  refine VS.ret (qb _ _) rfl rfl (λwz kz bz=> ?_)
  exact⟨rfl,bz⟩
 refine VS.aN rfl (decide_eq_false hn) ?_
 obtain⟨⟨hS,hsix,htxt⟩,hE20,hC20,hY6⟩:=q1 rfl
 have hv6:=KY.qk hsix
 have Kq:∀ y∈f.iy,y.cf.length<=40:=λy hy=>(hS.each y hy).2.1
 refine ee ?_
 refine VO.call rfl rfl (fk Tryz.func11) (λgz gJ iL=>(ye _ f 6 gz (hv6.az iL) hS aa).mono ?_)
 rintro o w3 ⟨r3,rfl,q3,dU⟩
 have hq3:=q3
 obtain⟨pB',nB',cB',sT',pT',nT',cT',tT',yT',mT',dT',sC',pC',nC',cC',tC',yC',mC',dC',sI',pI',nI',cI',tI',yI',mI',dI',sF',pF',nF',cF',tF',yF',mF',dF',pc',Nc',cc',pe',Ne',ce',py',Ny',cy',rfl,-,-,-,-,-,k6,-,-⟩:=hq3
 refine yk dU ?_
 intro lN _ bb3
 refine VO.call rfl rfl (fk Tryz.func12) (λjw kX kY=>(EP _ f year 6 40 jw (q3.kp (T:=T9) (show jH T9 w3 jw from dz) (λt h=>by show (EK t || TT5 t)=true;rw[h];rfl)).e aa Kq aa aa aa aa aa).mono ?_)
 rintro o w4 ⟨r4,rfl,q4,iX⟩
 obtain⟨p4,L4,c4,rfl⟩:∃ p n c,r4=.slice p n c:=by obtain⟨p,c,e⟩:=q4.form;exact⟨_,_,_,e⟩
 refine⟨_,rfl,iX,λoK _ zJ=>wV rfl ?_⟩
 (repeat (first|refine wN ?_|refine wP rfl ?_|refine wO rfl rfl ?_))
 refine VS.eV (λw=>ra Tryz.prog w 69) (λ_=>rfl) (λ_=>rfl) (λ_=>ax.refl _) (λwB β k0 b0 en=> ?_)
 have hB:ax w wB:=b0
 have h3:aL wB (β 3) 32 #[.string f.name,.string f.parent,.slice pB nB cB,.bool sT,.slice pT nT cT,.bool tT,.slice yT mT dT,.bool sC,.slice pC nC cC,.bool tC,.slice yC mC dC,.int .i64 f.bk,.int .i64 f.fw,.bool sI,.slice pI nI cI,.bool tI,.slice yI mI dI,.bool sF,.slice pF nF cF,.bool tF,.slice yF mF dF,.int .i64 f.kp,.slice pc Nc cc,.slice pe Ne ce,.slice py Ny cy]:=(en.own 3 _ _ rfl).cls
 have h7:aL wB (β 7) 42 #[.string f.name,.string f.parent,.slice pB' nB' cB',.bool sT',.slice pT' nT' cT',.bool tT',.slice yT' mT' dT',.bool sC',.slice pC' nC' cC',.bool tC',.slice yC' mC' dC',.int .i64 f.bk,.int .i64 f.fw,.bool sI',.slice pI' nI' cI',.bool tI',.slice yI' mI' dI',.bool sF',.slice pF' nF' cF',.bool tF',.slice yF' mF' dF',.int .i64 f.kp,.slice pc' Nc' cc',.slice pe' Ne' ce',.slice py' Ny' cy']:=(en.own 7 _ _ rfl).cls
 have h8:aL wB (β 8) 46 #[.slice p4 L4 c4]:=(en.own 8 _ _ rfl).cls
 have hRef:=(q3.kp (T:=T9) (show jH T9 w3 wB from dz) (λt h=>by show (EK t || TT5 t)=true;rw[h];rfl)).e
 have hRc:=(k6.kp (oZ.el 6) (T:=T9) (show jH T9 w3 wB from dz) rfl).sl (oZ.el 6)
 have hWt:=EB ((q4.kp (cE _) (T:=T9) (show jH T9 w4 wB from dz) rfl rfl).rows (cE _))
 refine⟨[(1,.val (.int .i64 year)),(2,.val (.string name)),(3,.val (.pointer (some ⟨β 3,0,none⟩))),(7,.val (.pointer (some ⟨β 7,0,none⟩))),(8,.val (.pointer (some ⟨β 8,0,none⟩))),(9,.val (.int .i64 (xU (f.yN year))))],⟨⟨_,_,rfl,rfl,rfl⟩,⟨_,_,rfl,rfl,rfl⟩,⟨_,_,rfl,rfl,rfl⟩,⟨_,_,rfl,rfl,rfl⟩,⟨_,_,rfl,rfl,rfl⟩,⟨_,_,rfl,rfl,rfl⟩,trivial⟩,?_⟩
 generalize β 3=g3 at h3 ⊢
 generalize β 7=g7 at h7 ⊢
 generalize β 8=g8 at h8 ⊢
 clear en q3 q4 k6 k0
 refine ee ?_
 refine VS.fY (J:=λm L W=>∃ i:Nat,i<=2/\m=2-i/\L=[(1,.int .i64 year),(2,.string name),(3,.pointer (some ⟨g3,0,none⟩)),(7,.pointer (some ⟨g7,0,none⟩)),(8,.pointer (some ⟨g8,0,none⟩)),(9,.int .i64 (xU (f.yN year))),(10,.int .i64 (i:Int))]/\ax wB W)
  (λW=>ra Tryz.prog W 69) (λ_=>rfl) (λ_=>rfl) (λ_=>ax.refl _) 2 (λw' β k' o' en=>⟨[(1,.int .i64 year),(2,.string name),(3,.pointer (some ⟨g3,0,none⟩)),(7,.pointer (some ⟨g7,0,none⟩)),(8,.pointer (some ⟨g8,0,none⟩)),(9,.int .i64 (xU (f.yN year))),(10,.int .i64 ((0:Nat):Int))],⟨⟨_,_,rfl,rfl,rfl⟩,⟨_,_,rfl,rfl,rfl⟩,⟨_,_,rfl,rfl,rfl⟩,⟨_,_,rfl,rfl,rfl⟩,⟨_,_,rfl,rfl,rfl⟩,⟨_,_,rfl,rfl,rfl⟩,⟨_,_,rfl,rfl,rfl⟩,trivial⟩,0,by omega,rfl,rfl,o'⟩) ?_
 rintro m L W ⟨i,hi,rfl,rfl,lQ⟩
 have hW:ax w W:=hB.aH lQ
 have h3W:=h3.az lQ
 have h7W:=h7.az lQ
 have h8W:=h8.az lQ
 have hWtW:cj (pj (bZ (1+40*(6+1)))) 1 W (.slice p4 L4 c4) (rawT ((f.yN year).getD [])):=cj.oU (E:=pj (bZ (1+40*(6+1)))) (IC (bZ.el _)) hWt lQ
 refine ee ?_
 by_cases hlt:i<2
 ·refine VS.aU rfl (decide_eq_true (Int.ofNat_lt.2 hlt)) ?_
  refine ee ?_
  refine VO.read rfl [.string f.name,.string f.parent,.slice pB nB cB,.bool sT,.slice pT nT cT,.bool tT,.slice yT mT dT,.bool sC,.slice pC nC cC,.bool tC,.slice yC mC dC,.int .i64 f.bk,.int .i64 f.fw,.bool sI,.slice pI nI cI,.bool tI,.slice yI mI dI,.bool sF,.slice pF nF cF,.bool tF,.slice yF mF dF,.int .i64 f.kp,.slice pc Nc cc,.slice pe Ne ce,.slice py Ny cy] rfl (GA (cs:=[.string f.name,.string f.parent,.slice pB nB cB,.bool sT,.slice pT nT cT,.bool tT,.slice yT mT dT,.bool sC,.slice pC nC cC,.bool tC,.slice yC mC dC,.int .i64 f.bk,.int .i64 f.fw,.bool sI,.slice pI nI cI,.bool tI,.slice yI mI dI,.bool sF,.slice pF nF cF,.bool tF,.slice yF mF dF,.int .i64 f.kp,.slice pc Nc cc,.slice pe Ne ce,.slice py Ny cy]) h3W 0 _ ⟨[],rfl⟩) (wV rfl ?_)
  refine ee ?_
  refine VO.call rfl rfl (fk Tryz.func13) (λbL dw bX=>(Gv _ f year 6 40 bL (hv6.az (hW.aH bX)) aa aa Kq aa aa aa).mono ?_)
  rintro o w1 ⟨r1,rfl,q1,bl⟩
  obtain⟨p1,c1,rfl⟩:=q1.form
  refine yk bl ?_
  intro eM _ bb1
  refine VO.fix 43 rfl (congrArg (λb=>AV.val (.bool b)) (ig rfl)) ?_
  refine ee ?_
  refine VO.read rfl [.slice p4 L4 c4] rfl (aG (h8W.cell (j:=0) rfl)) (wV rfl ?_)
  refine ee ?_
  refine VO.call rfl rfl (fk Tryz.func14) (λdh eU dQ=>(NK _ _ (rawT ((f.yN year).getD [])) _ _ dh (fF.raw (q1.kp (show jH T9 w1 dh from dz) rfl rfl)) (cj.oU (E:=pj (bZ (1+40*(6+1)))) (IC (bZ.el _)) hWtW dQ)).mono ?_)
  rintro o w2 ⟨rfl,bM⟩
  refine⟨_,rfl,bM,λgr _ bb2=>wV rfl ?_⟩
  (repeat (first|refine wN ?_|refine wP rfl ?_|refine wO rfl rfl ?_))
  refine VS.vJ (qb _ _) 1 rfl rfl rfl (VO.run 80 rfl ?_)
  refine VO.nil ⟨_,_,_,λw=>ra Tryz.prog w 69,rfl,rfl,fk Tryz.func15,λ_=>rfl,λ_=>rfl,λ_=>ax.refl _,λw5 k5 b5=> ?_⟩
  have b5':ax W w5:=b5
  have k15:jH T9 w1 w5:=by exact dz
  refine (EC _ bL.heap.size w5 (Nat.le_trans bl.size k15.size) (fF.sp (q1.kp k15 rfl rfl))).mono ?_
  rintro o w6 ⟨rfl,hbl⟩
  refine⟨_,[(1,.int .i64 year),(2,.string name),(3,.pointer (some ⟨g3,0,none⟩)),(7,.pointer (some ⟨g7,0,none⟩)),(8,.pointer (some ⟨g8,0,none⟩)),(9,.int .i64 (xU (f.yN year))),(10,.int .i64 (i:Int))],rfl,⟨rfl,rfl,rfl,rfl,rfl,rfl,rfl,trivial⟩,(λp hp e=>by
   simp only[List.mem_cons,List.not_mem_nil,or_false] at hp
   rcases hp with rfl|rfl|rfl|rfl|rfl|rfl|rfl <;> cases e),?_⟩
  have uT:ax W w6:=Kz b5' (show W.heap.size<=bL.heap.size from (show ax W bL from bX).size) hbl
  refine ee ?_
  refine VS.fq rfl (2-(i+1)) aa (λw' bn k' o' jx=> ?_)
  exact⟨[(1,.int .i64 year),(2,.string name),(3,.pointer (some ⟨g3,0,none⟩)),(7,.pointer (some ⟨g7,0,none⟩)),(8,.pointer (some ⟨g8,0,none⟩)),(9,.int .i64 (xU (f.yN year))),(10,.int .i64 ((i+1:Nat):Int))],⟨⟨_,_,rfl,rfl,rfl⟩,⟨_,_,rfl,rfl,rfl⟩,⟨_,_,rfl,rfl,rfl⟩,⟨_,_,rfl,rfl,rfl⟩,⟨_,_,rfl,rfl,rfl⟩,⟨_,_,rfl,rfl,rfl⟩,⟨_,_,rfl,congrArg (λz=>Value.int .i64 z) (ay (i:=i) aa),rfl⟩,trivial⟩,i+1,by omega,rfl,rfl,lQ.aH (uT.aH o')⟩
 refine VS.aN rfl (decide_eq_false (λe=>hlt (Int.ofNat_lt.1 e))) ?_
 refine ee ?_
 refine VO.read rfl [.slice pc Nc cc] rfl (aG (h3W.cell (j:=22) rfl)) (wV rfl ?_)
 refine ee ?_
 refine VO.cB rfl rfl (fk Tryz.func16) (λbL dw bX=>xN _ (f.cls.map vM.k) name kk bL (mA (hc6.az (oZ.el kk) (hW.aH bX)) (λ_ _ h=>h.n))) (λbL dw bX w1 bl eM _ bb1=>wV rfl ?_)
 refine ee ?_
 refine VO.read rfl [.slice pc' Nc' cc'] rfl (aG (h7W.cell (j:=22) rfl)) (wV rfl ?_)
 refine ee ?_
 refine VO.cB rfl rfl (fk Tryz.func17) (λdh eU dQ=>yg _ f.cls name 6 dh (hRc.az (oZ.el 6) (lQ.aH dQ))) (λdh eU dQ w2 bM gr _ bb2=>wV rfl ?_)
 refine ee ?_
 refine VO.fix 60 rfl (congrArg (λb=>AV.val (.bool b)) (MX (yi (λu:nt=>u.1.toList == name.toList) vM.k))) ?_
 refine ee ?_
 refine VO.read rfl [.string f.name,.string f.parent,.slice pB nB cB,.bool sT,.slice pT nT cT,.bool tT,.slice yT mT dT,.bool sC,.slice pC nC cC,.bool tC,.slice yC mC dC,.int .i64 f.bk,.int .i64 f.fw,.bool sI,.slice pI nI cI,.bool tI,.slice yI mI dI,.bool sF,.slice pF nF cF,.bool tF,.slice yF mF dF,.int .i64 f.kp,.slice pc Nc cc,.slice pe Ne ce,.slice py Ny cy] rfl (GA (cs:=[.string f.name,.string f.parent,.slice pB nB cB,.bool sT,.slice pT nT cT,.bool tT,.slice yT mT dT,.bool sC,.slice pC nC cC,.bool tC,.slice yC mC dC,.int .i64 f.bk,.int .i64 f.fw,.bool sI,.slice pI nI cI,.bool tI,.slice yI mI dI,.bool sF,.slice pF nF cF,.bool tF,.slice yF mF dF,.int .i64 f.kp,.slice pc Nc cc,.slice pe Ne ce,.slice py Ny cy]) h3W 0 _ ⟨[],rfl⟩) (wV rfl ?_)
 refine ee ?_
 refine VO.call rfl rfl (fk Tryz.func11) (λgz gJ iL=>(ye _ f 6 gz (hv6.az (hW.aH iL)) hS aa).mono ?_)
 rintro o w3 ⟨r3,rfl,q3,dU⟩
 have hq3:=q3
 obtain⟨_,_,_,_,_,_,_,_,_,_,_,_,_,_,_,_,_,_,_,_,_,_,_,_,_,_,_,_,_,_,_,_,_,_,_,_,_,_,_,_,_,_,_,_,rfl,-⟩:=hq3
 refine yk dU ?_
 intro lN _ bb3
 refine VO.read rfl [.string f.name,.string f.parent,.slice pB' nB' cB',.bool sT',.slice pT' nT' cT',.bool tT',.slice yT' mT' dT',.bool sC',.slice pC' nC' cC',.bool tC',.slice yC' mC' dC',.int .i64 f.bk,.int .i64 f.fw,.bool sI',.slice pI' nI' cI',.bool tI',.slice yI' mI' dI',.bool sF',.slice pF' nF' cF',.bool tF',.slice yF' mF' dF',.int .i64 f.kp,.slice pc' Nc' cc',.slice pe' Ne' ce',.slice py' Ny' cy'] rfl (GA (cs:=[.string f.name,.string f.parent,.slice pB' nB' cB',.bool sT',.slice pT' nT' cT',.bool tT',.slice yT' mT' dT',.bool sC',.slice pC' nC' cC',.bool tC',.slice yC' mC' dC',.int .i64 f.bk,.int .i64 f.fw,.bool sI',.slice pI' nI' cI',.bool tI',.slice yI' mI' dI',.bool sF',.slice pF' nF' cF',.bool tF',.slice yF' mF' dF',.int .i64 f.kp,.slice pc' Nc' cc',.slice pe' Ne' ce',.slice py' Ny' cy']) h7W 0 _ ⟨[],rfl⟩) (wV rfl ?_)
 refine ee ?_
 refine VO.call rfl rfl (fk Tryz.func18) (λjw kX kY=>(EO _ _ f 6 6 jw (q3.kp (T:=T9) (show jH T9 w3 jw from dz) (λt h=>by show (EK t || TT5 t)=true;rw[h];rfl)).e ((hRef.az lQ).az kY)).mono ?_)
 rintro o w4 ⟨rfl,iX⟩
 refine yk iX ?_
 intro oK _ zJ
 refine VO.cB rfl rfl (fk Tryz.func10) (λjU kZ lO=>po jU) (λjU kZ lO w5 kj pQ _ AM=>wV rfl ?_)
 refine ee ?_
 refine VS.ret (qb _ _) rfl rfl (λwz kz bz=> ?_)
 exact⟨rfl,hW.aH bz⟩
end
section
open Go.RowKit
section
variable {H:Type} {enc:TypeId×Value->H} {w:World} {held:Bool}
set_option maxRecDepth 100000 in
theorem KS {fuel:Nat} {cs:List Value} {x:DataW H×List MemPlace} (h:DataW.trod enc Tryz.prog w 0 (λ_=>true) held fuel 9 cs=some x):∃ s:ByteArray,dv w cs s:=by
 obtain⟨s,e,_,_⟩:=DataW.trod_string Tryz.underlying9 h
 exact⟨s,e⟩
set_option maxRecDepth 100000 in
theorem Oy {fuel:Nat} {cs:List Value} {x:DataW H×List MemPlace} (h:DataW.trod enc Tryz.prog w 0 (λ_=>true) held fuel 127 cs=some x):∃ e:BrR,qX fX w cs e:=by
 obtain⟨zs,n,rfl,rfl,hl,gX,hf⟩:=DataW.trod_struct Tryz.underlying127 h
 have rQ:cs.length=8:=by
  have c:Tryz.prog.cellsOf 127=8:=by kernel_rfl
  rw[c] at hl;exact hl
 have xI:zs.length=2:=gX
 obtain⟨z0,iW⟩:∃ z,zs[0]? =some z:=⟨_,List.getElem?_eq_getElem aa⟩
 obtain⟨z1,fI⟩:∃ z,zs[1]? =some z:=⟨_,List.getElem?_eq_getElem aa⟩
 have EF:Tryz.prog.cellsOf 27=4:=by kernel_rfl
 have h0:=hf 0 _ rfl
 rw[iW] at h0
 change DataW.trod enc Tryz.prog w 0 (λ_=>true) held n 27 ((cs.drop 0).take (Tryz.prog.cellsOf 27))=some z0 at h0
 rw[EF] at h0
 have EG:Tryz.prog.cellsOf 27=4:=by kernel_rfl
 have h1:=hf 1 _ rfl
 rw[fI] at h1
 change DataW.trod enc Tryz.prog w 0 (λ_=>true) held n 27 ((cs.drop 4).take (Tryz.prog.cellsOf 27))=some z1 at h1
 rw[EG] at h1
 obtain⟨x0,nG⟩:=gp h0
 have yl:=nG
 obtain⟨s0,p0,n0,c0,t0,y0,m0,d0,e0,hh0⟩:=nG
 rw[e0] at yl
 obtain⟨x1,FI⟩:=gp h1
 have hy1:=FI
 obtain⟨s1,p1,n1,c1,t1,y1,m1,d1,e1,hh1⟩:=FI
 rw[e1] at hy1
 have a0:cs.drop 0=(cs.drop 0).take 4++cs.drop 4:=aX cs 0 4 4 rfl
 have a1:cs.drop 4=(cs.drop 4).take 4:=by rw[List.take_of_length_le];rw[List.length_drop];omega
 have EH:cs=(cs.drop 0).take 4++((cs.drop 4).take 4):=by
  have a:cs=cs.drop 0:=rfl
  rw[a0] at a
  rw[a1] at a
  exact a
 rw[EH,e0,e1]
 exact⟨(x0,x1),_,_,_,_,_,_,_,_,_,_,_,_,_,_,_,_,rfl,yl,hy1⟩
set_option maxRecDepth 100000 in
theorem Oz {fuel:Nat} {cs:List Value} {x:DataW H×List MemPlace} (h:DataW.trod enc Tryz.prog w 0 (λ_=>true) held fuel 218 cs=some x):∃ e:Ew,iT fX w cs e:=by
 obtain⟨zs,n,rfl,rfl,hl,gX,hf⟩:=DataW.trod_struct Tryz.underlying218 h
 have rQ:cs.length=6:=by
  have c:Tryz.prog.cellsOf 218=6:=by kernel_rfl
  rw[c] at hl;exact hl
 have xI:zs.length=3:=gX
 obtain⟨z0,iW⟩:∃ z,zs[0]? =some z:=⟨_,List.getElem?_eq_getElem aa⟩
 obtain⟨z1,fI⟩:∃ z,zs[1]? =some z:=⟨_,List.getElem?_eq_getElem aa⟩
 obtain⟨z2,jf⟩:∃ z,zs[2]? =some z:=⟨_,List.getElem?_eq_getElem aa⟩
 have EF:Tryz.prog.cellsOf 9=1:=by kernel_rfl
 have h0:=hf 0 _ rfl
 rw[iW] at h0
 change DataW.trod enc Tryz.prog w 0 (λ_=>true) held n 9 ((cs.drop 0).take (Tryz.prog.cellsOf 9))=some z0 at h0
 rw[EF] at h0
 have EG:Tryz.prog.cellsOf 9=1:=by kernel_rfl
 have h1:=hf 1 _ rfl
 rw[fI] at h1
 change DataW.trod enc Tryz.prog w 0 (λ_=>true) held n 9 ((cs.drop 1).take (Tryz.prog.cellsOf 9))=some z1 at h1
 rw[EG] at h1
 have Ky:Tryz.prog.cellsOf 27=4:=by kernel_rfl
 have h2:=hf 2 _ rfl
 rw[jf] at h2
 change DataW.trod enc Tryz.prog w 0 (λ_=>true) held n 27 ((cs.drop 2).take (Tryz.prog.cellsOf 27))=some z2 at h2
 rw[Ky] at h2
 obtain⟨x0,e0,_,_⟩:=DataW.trod_string Tryz.underlying9 h0
 obtain⟨x1,e1,_,_⟩:=DataW.trod_string Tryz.underlying9 h1
 obtain⟨x2,Im⟩:=gp h2
 have xI:=Im
 obtain⟨s2,p2,n2,c2,t2,y2,m2,d2,e2,hh2⟩:=Im
 rw[e2] at xI
 have a0:cs.drop 0=(cs.drop 0).take 1++cs.drop 1:=aX cs 0 1 1 rfl
 have a1:cs.drop 1=(cs.drop 1).take 1++cs.drop 2:=aX cs 1 1 2 rfl
 have a2:cs.drop 2=(cs.drop 2).take 4:=by rw[List.take_of_length_le];rw[List.length_drop];omega
 have EH:cs=(cs.drop 0).take 1++((cs.drop 1).take 1++((cs.drop 2).take 4)):=by
  have a:cs=cs.drop 0:=rfl
  rw[a0] at a
  rw[a1] at a
  rw[a2] at a
  exact a
 rw[EH,e0,e1,e2]
 exact⟨(x0,x1,x2),_,_,_,_,_,_,_,_,rfl,xI⟩
set_option maxRecDepth 100000 in
theorem OA {fuel:Nat} {cs:List Value} {x:DataW H×List MemPlace} (h:DataW.trod enc Tryz.prog w 0 (λ_=>true) held fuel 103 cs=some x):∃ e:Ew,iT fX w cs e:=by
 obtain⟨zs,n,rfl,rfl,hl,gX,hf⟩:=DataW.trod_struct Tryz.underlying103 h
 have rQ:cs.length=6:=by
  have c:Tryz.prog.cellsOf 103=6:=by kernel_rfl
  rw[c] at hl;exact hl
 have xI:zs.length=3:=gX
 obtain⟨z0,iW⟩:∃ z,zs[0]? =some z:=⟨_,List.getElem?_eq_getElem aa⟩
 obtain⟨z1,fI⟩:∃ z,zs[1]? =some z:=⟨_,List.getElem?_eq_getElem aa⟩
 obtain⟨z2,jf⟩:∃ z,zs[2]? =some z:=⟨_,List.getElem?_eq_getElem aa⟩
 have EF:Tryz.prog.cellsOf 9=1:=by kernel_rfl
 have h0:=hf 0 _ rfl
 rw[iW] at h0
 change DataW.trod enc Tryz.prog w 0 (λ_=>true) held n 9 ((cs.drop 0).take (Tryz.prog.cellsOf 9))=some z0 at h0
 rw[EF] at h0
 have EG:Tryz.prog.cellsOf 9=1:=by kernel_rfl
 have h1:=hf 1 _ rfl
 rw[fI] at h1
 change DataW.trod enc Tryz.prog w 0 (λ_=>true) held n 9 ((cs.drop 1).take (Tryz.prog.cellsOf 9))=some z1 at h1
 rw[EG] at h1
 have Ky:Tryz.prog.cellsOf 27=4:=by kernel_rfl
 have h2:=hf 2 _ rfl
 rw[jf] at h2
 change DataW.trod enc Tryz.prog w 0 (λ_=>true) held n 27 ((cs.drop 2).take (Tryz.prog.cellsOf 27))=some z2 at h2
 rw[Ky] at h2
 obtain⟨x0,e0,_,_⟩:=DataW.trod_string Tryz.underlying9 h0
 obtain⟨x1,e1,_,_⟩:=DataW.trod_string Tryz.underlying9 h1
 obtain⟨x2,Im⟩:=gp h2
 have xI:=Im
 obtain⟨s2,p2,n2,c2,t2,y2,m2,d2,e2,hh2⟩:=Im
 rw[e2] at xI
 have a0:cs.drop 0=(cs.drop 0).take 1++cs.drop 1:=aX cs 0 1 1 rfl
 have a1:cs.drop 1=(cs.drop 1).take 1++cs.drop 2:=aX cs 1 1 2 rfl
 have a2:cs.drop 2=(cs.drop 2).take 4:=by rw[List.take_of_length_le];rw[List.length_drop];omega
 have EH:cs=(cs.drop 0).take 1++((cs.drop 1).take 1++((cs.drop 2).take 4)):=by
  have a:cs=cs.drop 0:=rfl
  rw[a0] at a
  rw[a1] at a
  rw[a2] at a
  exact a
 rw[EH,e0,e1,e2]
 exact⟨(x0,x1,x2),_,_,_,_,_,_,_,_,rfl,xI⟩
set_option maxRecDepth 100000 in
theorem OB {fuel:Nat} {cs:List Value} {x:DataW H×List MemPlace} (h:DataW.trod enc Tryz.prog w 0 (λ_=>true) held fuel 222 cs=some x):∃ e:DlR,sx fX w cs e:=by
 obtain⟨zs,n,rfl,rfl,hl,gX,hf⟩:=DataW.trod_struct Tryz.underlying222 h
 have rQ:cs.length=10:=by
  have c:Tryz.prog.cellsOf 222=10:=by kernel_rfl
  rw[c] at hl;exact hl
 have xI:zs.length=7:=gX
 obtain⟨z0,iW⟩:∃ z,zs[0]? =some z:=⟨_,List.getElem?_eq_getElem aa⟩
 obtain⟨z1,fI⟩:∃ z,zs[1]? =some z:=⟨_,List.getElem?_eq_getElem aa⟩
 obtain⟨z2,jf⟩:∃ z,zs[2]? =some z:=⟨_,List.getElem?_eq_getElem aa⟩
 obtain⟨z3,hz3⟩:∃ z,zs[3]? =some z:=⟨_,List.getElem?_eq_getElem aa⟩
 obtain⟨z4,hz4⟩:∃ z,zs[4]? =some z:=⟨_,List.getElem?_eq_getElem aa⟩
 obtain⟨z5,hz5⟩:∃ z,zs[5]? =some z:=⟨_,List.getElem?_eq_getElem aa⟩
 obtain⟨z6,hz6⟩:∃ z,zs[6]? =some z:=⟨_,List.getElem?_eq_getElem aa⟩
 have EF:Tryz.prog.cellsOf 4=1:=by kernel_rfl
 have h0:=hf 0 _ rfl
 rw[iW] at h0
 change DataW.trod enc Tryz.prog w 0 (λ_=>true) held n 4 ((cs.drop 0).take (Tryz.prog.cellsOf 4))=some z0 at h0
 rw[EF] at h0
 have EG:Tryz.prog.cellsOf 9=1:=by kernel_rfl
 have h1:=hf 1 _ rfl
 rw[fI] at h1
 change DataW.trod enc Tryz.prog w 0 (λ_=>true) held n 9 ((cs.drop 1).take (Tryz.prog.cellsOf 9))=some z1 at h1
 rw[EG] at h1
 have Ky:Tryz.prog.cellsOf 5=1:=by kernel_rfl
 have h2:=hf 2 _ rfl
 rw[jf] at h2
 change DataW.trod enc Tryz.prog w 0 (λ_=>true) held n 5 ((cs.drop 2).take (Tryz.prog.cellsOf 5))=some z2 at h2
 rw[Ky] at h2
 have cc3:Tryz.prog.cellsOf 9=1:=by kernel_rfl
 have h3:=hf 3 _ rfl
 rw[hz3] at h3
 change DataW.trod enc Tryz.prog w 0 (λ_=>true) held n 9 ((cs.drop 3).take (Tryz.prog.cellsOf 9))=some z3 at h3
 rw[cc3] at h3
 have cc4:Tryz.prog.cellsOf 9=1:=by kernel_rfl
 have h4:=hf 4 _ rfl
 rw[hz4] at h4
 change DataW.trod enc Tryz.prog w 0 (λ_=>true) held n 9 ((cs.drop 4).take (Tryz.prog.cellsOf 9))=some z4 at h4
 rw[cc4] at h4
 have cc5:Tryz.prog.cellsOf 9=1:=by kernel_rfl
 have h5:=hf 5 _ rfl
 rw[hz5] at h5
 change DataW.trod enc Tryz.prog w 0 (λ_=>true) held n 9 ((cs.drop 5).take (Tryz.prog.cellsOf 9))=some z5 at h5
 rw[cc5] at h5
 have cc6:Tryz.prog.cellsOf 27=4:=by kernel_rfl
 have h6:=hf 6 _ rfl
 rw[hz6] at h6
 change DataW.trod enc Tryz.prog w 0 (λ_=>true) held n 27 ((cs.drop 6).take (Tryz.prog.cellsOf 27))=some z6 at h6
 rw[cc6] at h6
 obtain⟨x0,e0,_⟩:=DataW.trod_bool Tryz.underlying4 h0
 obtain⟨x1,e1,_,_⟩:=DataW.trod_string Tryz.underlying9 h1
 obtain⟨k2,e2,_,hk2⟩:=DataW.trod_int Tryz.underlying5 h2
 have hk'2:=u8_wf hk2
 obtain⟨x2,rfl⟩:=Int.eq_ofNat_of_zero_le hk'2.1
 obtain⟨x3,e3,_,_⟩:=DataW.trod_string Tryz.underlying9 h3
 obtain⟨x4,e4,_,_⟩:=DataW.trod_string Tryz.underlying9 h4
 obtain⟨x5,e5,_,_⟩:=DataW.trod_string Tryz.underlying9 h5
 obtain⟨x6,hx6⟩:=gp h6
 have hy6:=hx6
 obtain⟨s6,p6,n6,c6,t6,y6,m6,d6,e6,hh6⟩:=hx6
 rw[e6] at hy6
 have a0:cs.drop 0=(cs.drop 0).take 1++cs.drop 1:=aX cs 0 1 1 rfl
 have a1:cs.drop 1=(cs.drop 1).take 1++cs.drop 2:=aX cs 1 1 2 rfl
 have a2:cs.drop 2=(cs.drop 2).take 1++cs.drop 3:=aX cs 2 1 3 rfl
 have a3:cs.drop 3=(cs.drop 3).take 1++cs.drop 4:=aX cs 3 1 4 rfl
 have a4:cs.drop 4=(cs.drop 4).take 1++cs.drop 5:=aX cs 4 1 5 rfl
 have a5:cs.drop 5=(cs.drop 5).take 1++cs.drop 6:=aX cs 5 1 6 rfl
 have a6:cs.drop 6=(cs.drop 6).take 4:=by rw[List.take_of_length_le];rw[List.length_drop];omega
 have EH:cs=(cs.drop 0).take 1++((cs.drop 1).take 1++((cs.drop 2).take 1++((cs.drop 3).take 1++((cs.drop 4).take 1++((cs.drop 5).take 1++((cs.drop 6).take 4)))))):=by
  have a:cs=cs.drop 0:=rfl
  rw[a0] at a
  rw[a1] at a
  rw[a2] at a
  rw[a3] at a
  rw[a4] at a
  rw[a5] at a
  rw[a6] at a
  exact a
 rw[EH,e0,e1,e2,e3,e4,e5,e6]
 exact⟨⟨x0,x1,x2,x3,x4,x5,x6⟩,_,_,_,_,_,_,_,_,rfl,hy6,(show x2<256 by omega)⟩
set_option maxRecDepth 100000 in
theorem OC {fuel:Nat} {cs:List Value} {x:DataW H×List MemPlace} (h:DataW.trod enc Tryz.prog w 0 (λ_=>true) held fuel 226 cs=some x):∃ e:SkR,tN fX w cs e:=by
 obtain⟨zs,n,rfl,rfl,hl,gX,hf⟩:=DataW.trod_struct Tryz.underlying226 h
 have rQ:cs.length=9:=by
  have c:Tryz.prog.cellsOf 226=9:=by kernel_rfl
  rw[c] at hl;exact hl
 have xI:zs.length=3:=gX
 obtain⟨z0,iW⟩:∃ z,zs[0]? =some z:=⟨_,List.getElem?_eq_getElem aa⟩
 obtain⟨z1,fI⟩:∃ z,zs[1]? =some z:=⟨_,List.getElem?_eq_getElem aa⟩
 obtain⟨z2,jf⟩:∃ z,zs[2]? =some z:=⟨_,List.getElem?_eq_getElem aa⟩
 have EF:Tryz.prog.cellsOf 9=1:=by kernel_rfl
 have h0:=hf 0 _ rfl
 rw[iW] at h0
 change DataW.trod enc Tryz.prog w 0 (λ_=>true) held n 9 ((cs.drop 0).take (Tryz.prog.cellsOf 9))=some z0 at h0
 rw[EF] at h0
 have EG:Tryz.prog.cellsOf 27=4:=by kernel_rfl
 have h1:=hf 1 _ rfl
 rw[fI] at h1
 change DataW.trod enc Tryz.prog w 0 (λ_=>true) held n 27 ((cs.drop 1).take (Tryz.prog.cellsOf 27))=some z1 at h1
 rw[EG] at h1
 have Ky:Tryz.prog.cellsOf 27=4:=by kernel_rfl
 have h2:=hf 2 _ rfl
 rw[jf] at h2
 change DataW.trod enc Tryz.prog w 0 (λ_=>true) held n 27 ((cs.drop 5).take (Tryz.prog.cellsOf 27))=some z2 at h2
 rw[Ky] at h2
 obtain⟨x0,e0,_,_⟩:=DataW.trod_string Tryz.underlying9 h0
 obtain⟨x1,FI⟩:=gp h1
 have hy1:=FI
 obtain⟨s1,p1,n1,c1,t1,y1,m1,d1,e1,hh1⟩:=FI
 rw[e1] at hy1
 obtain⟨x2,Im⟩:=gp h2
 have xI:=Im
 obtain⟨s2,p2,n2,c2,t2,y2,m2,d2,e2,hh2⟩:=Im
 rw[e2] at xI
 have a0:cs.drop 0=(cs.drop 0).take 1++cs.drop 1:=aX cs 0 1 1 rfl
 have a1:cs.drop 1=(cs.drop 1).take 4++cs.drop 5:=aX cs 1 4 5 rfl
 have a2:cs.drop 5=(cs.drop 5).take 4:=by rw[List.take_of_length_le];rw[List.length_drop];omega
 have EH:cs=(cs.drop 0).take 1++((cs.drop 1).take 4++((cs.drop 5).take 4)):=by
  have a:cs=cs.drop 0:=rfl
  rw[a0] at a
  rw[a1] at a
  rw[a2] at a
  exact a
 rw[EH,e0,e1,e2]
 exact⟨(x0,x1,x2),_,_,_,_,_,_,_,_,_,_,_,_,_,_,_,_,rfl,hy1,xI⟩
set_option maxRecDepth 100000 in
theorem OD {fuel:Nat} {cs:List Value} {x:DataW H×List MemPlace} (h:DataW.trod enc Tryz.prog w 0 (λ_=>true) held fuel 230 cs=some x):∃ e:SdR,uW fX w cs e:=by
 obtain⟨zs,n,rfl,rfl,hl,gX,hf⟩:=DataW.trod_struct Tryz.underlying230 h
 have rQ:cs.length=5:=by
  have c:Tryz.prog.cellsOf 230=5:=by kernel_rfl
  rw[c] at hl;exact hl
 have xI:zs.length=2:=gX
 obtain⟨z0,iW⟩:∃ z,zs[0]? =some z:=⟨_,List.getElem?_eq_getElem aa⟩
 obtain⟨z1,fI⟩:∃ z,zs[1]? =some z:=⟨_,List.getElem?_eq_getElem aa⟩
 have EF:Tryz.prog.cellsOf 9=1:=by kernel_rfl
 have h0:=hf 0 _ rfl
 rw[iW] at h0
 change DataW.trod enc Tryz.prog w 0 (λ_=>true) held n 9 ((cs.drop 0).take (Tryz.prog.cellsOf 9))=some z0 at h0
 rw[EF] at h0
 have EG:Tryz.prog.cellsOf 27=4:=by kernel_rfl
 have h1:=hf 1 _ rfl
 rw[fI] at h1
 change DataW.trod enc Tryz.prog w 0 (λ_=>true) held n 27 ((cs.drop 1).take (Tryz.prog.cellsOf 27))=some z1 at h1
 rw[EG] at h1
 obtain⟨x0,e0,_,_⟩:=DataW.trod_string Tryz.underlying9 h0
 obtain⟨x1,FI⟩:=gp h1
 have hy1:=FI
 obtain⟨s1,p1,n1,c1,t1,y1,m1,d1,e1,hh1⟩:=FI
 rw[e1] at hy1
 have a0:cs.drop 0=(cs.drop 0).take 1++cs.drop 1:=aX cs 0 1 1 rfl
 have a1:cs.drop 1=(cs.drop 1).take 4:=by rw[List.take_of_length_le];rw[List.length_drop];omega
 have EH:cs=(cs.drop 0).take 1++((cs.drop 1).take 4):=by
  have a:cs=cs.drop 0:=rfl
  rw[a0] at a
  rw[a1] at a
  exact a
 rw[EH,e0,e1]
 exact⟨(x0,x1),_,_,_,_,_,_,_,_,rfl,hy1⟩
set_option maxRecDepth 100000 in
theorem OE {fuel:Nat} {cs:List Value} {x:DataW H×List MemPlace} (h:DataW.trod enc Tryz.prog w 0 (λ_=>true) held fuel 99 cs=some x):∃ e:yO,Bg fX w cs e:=by
 obtain⟨zs,n,rfl,rfl,hl,gX,hf⟩:=DataW.trod_struct Tryz.underlying99 h
 have rQ:cs.length=6:=by
  have c:Tryz.prog.cellsOf 99=6:=by kernel_rfl
  rw[c] at hl;exact hl
 have xI:zs.length=6:=gX
 obtain⟨z0,iW⟩:∃ z,zs[0]? =some z:=⟨_,List.getElem?_eq_getElem aa⟩
 obtain⟨z1,fI⟩:∃ z,zs[1]? =some z:=⟨_,List.getElem?_eq_getElem aa⟩
 obtain⟨z2,jf⟩:∃ z,zs[2]? =some z:=⟨_,List.getElem?_eq_getElem aa⟩
 obtain⟨z3,hz3⟩:∃ z,zs[3]? =some z:=⟨_,List.getElem?_eq_getElem aa⟩
 obtain⟨z4,hz4⟩:∃ z,zs[4]? =some z:=⟨_,List.getElem?_eq_getElem aa⟩
 obtain⟨z5,hz5⟩:∃ z,zs[5]? =some z:=⟨_,List.getElem?_eq_getElem aa⟩
 have EF:Tryz.prog.cellsOf 3=1:=by kernel_rfl
 have h0:=hf 0 _ rfl
 rw[iW] at h0
 change DataW.trod enc Tryz.prog w 0 (λ_=>true) held n 3 ((cs.drop 0).take (Tryz.prog.cellsOf 3))=some z0 at h0
 rw[EF] at h0
 have EG:Tryz.prog.cellsOf 93=1:=by kernel_rfl
 have h1:=hf 1 _ rfl
 rw[fI] at h1
 change DataW.trod enc Tryz.prog w 0 (λ_=>true) held n 93 ((cs.drop 1).take (Tryz.prog.cellsOf 93))=some z1 at h1
 rw[EG] at h1
 have Ky:Tryz.prog.cellsOf 94=1:=by kernel_rfl
 have h2:=hf 2 _ rfl
 rw[jf] at h2
 change DataW.trod enc Tryz.prog w 0 (λ_=>true) held n 94 ((cs.drop 2).take (Tryz.prog.cellsOf 94))=some z2 at h2
 rw[Ky] at h2
 have cc3:Tryz.prog.cellsOf 95=1:=by kernel_rfl
 have h3:=hf 3 _ rfl
 rw[hz3] at h3
 change DataW.trod enc Tryz.prog w 0 (λ_=>true) held n 95 ((cs.drop 3).take (Tryz.prog.cellsOf 95))=some z3 at h3
 rw[cc3] at h3
 have cc4:Tryz.prog.cellsOf 96=1:=by kernel_rfl
 have h4:=hf 4 _ rfl
 rw[hz4] at h4
 change DataW.trod enc Tryz.prog w 0 (λ_=>true) held n 96 ((cs.drop 4).take (Tryz.prog.cellsOf 96))=some z4 at h4
 rw[cc4] at h4
 have cc5:Tryz.prog.cellsOf 97=1:=by kernel_rfl
 have h5:=hf 5 _ rfl
 rw[hz5] at h5
 change DataW.trod enc Tryz.prog w 0 (λ_=>true) held n 97 ((cs.drop 5).take (Tryz.prog.cellsOf 97))=some z5 at h5
 rw[cc5] at h5
 obtain⟨x0,e0,_,zc⟩:=DataW.trod_int Tryz.underlying3 h0
 obtain⟨p1,n1,d1,x1,e1,g1⟩:=iQ (E:=iT fX) (sz:=6) Tryz.underlying93 (by kernel_rfl) aa (λh=>Oz h) h1
 obtain⟨p2,n2,d2,x2,e2,g2⟩:=iQ (E:=iT fX) (sz:=6) Tryz.underlying94 (by kernel_rfl) aa (λh=>OA h) h2
 obtain⟨p3,n3,d3,x3,e3,g3⟩:=iQ (E:=sx fX) (sz:=10) Tryz.underlying95 (by kernel_rfl) aa (λh=>OB h) h3
 obtain⟨p4,n4,d4,x4,e4,g4⟩:=iQ (E:=tN fX) (sz:=9) Tryz.underlying96 (by kernel_rfl) aa (λh=>OC h) h4
 obtain⟨p5,n5,d5,x5,e5,g5⟩:=iQ (E:=uW fX) (sz:=5) Tryz.underlying97 (by kernel_rfl) aa (λh=>OD h) h5
 have a0:cs.drop 0=(cs.drop 0).take 1++cs.drop 1:=aX cs 0 1 1 rfl
 have a1:cs.drop 1=(cs.drop 1).take 1++cs.drop 2:=aX cs 1 1 2 rfl
 have a2:cs.drop 2=(cs.drop 2).take 1++cs.drop 3:=aX cs 2 1 3 rfl
 have a3:cs.drop 3=(cs.drop 3).take 1++cs.drop 4:=aX cs 3 1 4 rfl
 have a4:cs.drop 4=(cs.drop 4).take 1++cs.drop 5:=aX cs 4 1 5 rfl
 have a5:cs.drop 5=(cs.drop 5).take 1:=by rw[List.take_of_length_le];rw[List.length_drop];omega
 have EH:cs=(cs.drop 0).take 1++((cs.drop 1).take 1++((cs.drop 2).take 1++((cs.drop 3).take 1++((cs.drop 4).take 1++((cs.drop 5).take 1))))):=by
  have a:cs=cs.drop 0:=rfl
  rw[a0] at a
  rw[a1] at a
  rw[a2] at a
  rw[a3] at a
  rw[a4] at a
  rw[a5] at a
  exact a
 rw[EH,e0,e1,e2,e3,e4,e5]
 exact⟨⟨x0,x1,x2,x3,x4,x5⟩,_,_,_,_,_,rfl,g1,g2,g3,g4,g5⟩
set_option maxRecDepth 100000 in
theorem OG {fuel:Nat} {cs:List Value} {x:DataW H×List MemPlace} (h:DataW.trod enc Tryz.prog w 0 (λ_=>true) held fuel 32 cs=some x):∃ e:iU,mz fX w (.agg cs.toArray) e:=by
 obtain⟨zs,n,rfl,rfl,hl,gX,hf⟩:=DataW.trod_struct Tryz.underlying32 h
 have rQ:cs.length=25:=by
  have c:Tryz.prog.cellsOf 32=25:=by kernel_rfl
  rw[c] at hl;exact hl
 have xI:zs.length=13:=gX
 obtain⟨z0,iW⟩:∃ z,zs[0]? =some z:=⟨_,List.getElem?_eq_getElem aa⟩
 obtain⟨z1,fI⟩:∃ z,zs[1]? =some z:=⟨_,List.getElem?_eq_getElem aa⟩
 obtain⟨z2,jf⟩:∃ z,zs[2]? =some z:=⟨_,List.getElem?_eq_getElem aa⟩
 obtain⟨z3,hz3⟩:∃ z,zs[3]? =some z:=⟨_,List.getElem?_eq_getElem aa⟩
 obtain⟨z4,hz4⟩:∃ z,zs[4]? =some z:=⟨_,List.getElem?_eq_getElem aa⟩
 obtain⟨z5,hz5⟩:∃ z,zs[5]? =some z:=⟨_,List.getElem?_eq_getElem aa⟩
 obtain⟨z6,hz6⟩:∃ z,zs[6]? =some z:=⟨_,List.getElem?_eq_getElem aa⟩
 obtain⟨z7,hz7⟩:∃ z,zs[7]? =some z:=⟨_,List.getElem?_eq_getElem aa⟩
 obtain⟨z8,hz8⟩:∃ z,zs[8]? =some z:=⟨_,List.getElem?_eq_getElem aa⟩
 obtain⟨z9,hz9⟩:∃ z,zs[9]? =some z:=⟨_,List.getElem?_eq_getElem aa⟩
 obtain⟨z10,hz10⟩:∃ z,zs[10]? =some z:=⟨_,List.getElem?_eq_getElem aa⟩
 obtain⟨z11,hz11⟩:∃ z,zs[11]? =some z:=⟨_,List.getElem?_eq_getElem aa⟩
 obtain⟨z12,hz12⟩:∃ z,zs[12]? =some z:=⟨_,List.getElem?_eq_getElem aa⟩
 have EF:Tryz.prog.cellsOf 9=1:=by kernel_rfl
 have h0:=hf 0 _ rfl
 rw[iW] at h0
 change DataW.trod enc Tryz.prog w 0 (λ_=>true) held n 9 ((cs.drop 0).take (Tryz.prog.cellsOf 9))=some z0 at h0
 rw[EF] at h0
 have EG:Tryz.prog.cellsOf 9=1:=by kernel_rfl
 have h1:=hf 1 _ rfl
 rw[fI] at h1
 change DataW.trod enc Tryz.prog w 0 (λ_=>true) held n 9 ((cs.drop 1).take (Tryz.prog.cellsOf 9))=some z1 at h1
 rw[EG] at h1
 have Ky:Tryz.prog.cellsOf 22=1:=by kernel_rfl
 have h2:=hf 2 _ rfl
 rw[jf] at h2
 change DataW.trod enc Tryz.prog w 0 (λ_=>true) held n 22 ((cs.drop 2).take (Tryz.prog.cellsOf 22))=some z2 at h2
 rw[Ky] at h2
 have cc3:Tryz.prog.cellsOf 27=4:=by kernel_rfl
 have h3:=hf 3 _ rfl
 rw[hz3] at h3
 change DataW.trod enc Tryz.prog w 0 (λ_=>true) held n 27 ((cs.drop 3).take (Tryz.prog.cellsOf 27))=some z3 at h3
 rw[cc3] at h3
 have cc4:Tryz.prog.cellsOf 27=4:=by kernel_rfl
 have h4:=hf 4 _ rfl
 rw[hz4] at h4
 change DataW.trod enc Tryz.prog w 0 (λ_=>true) held n 27 ((cs.drop 7).take (Tryz.prog.cellsOf 27))=some z4 at h4
 rw[cc4] at h4
 have cc5:Tryz.prog.cellsOf 3=1:=by kernel_rfl
 have h5:=hf 5 _ rfl
 rw[hz5] at h5
 change DataW.trod enc Tryz.prog w 0 (λ_=>true) held n 3 ((cs.drop 11).take (Tryz.prog.cellsOf 3))=some z5 at h5
 rw[cc5] at h5
 have cc6:Tryz.prog.cellsOf 3=1:=by kernel_rfl
 have h6:=hf 6 _ rfl
 rw[hz6] at h6
 change DataW.trod enc Tryz.prog w 0 (λ_=>true) held n 3 ((cs.drop 12).take (Tryz.prog.cellsOf 3))=some z6 at h6
 rw[cc6] at h6
 have cc7:Tryz.prog.cellsOf 27=4:=by kernel_rfl
 have h7:=hf 7 _ rfl
 rw[hz7] at h7
 change DataW.trod enc Tryz.prog w 0 (λ_=>true) held n 27 ((cs.drop 13).take (Tryz.prog.cellsOf 27))=some z7 at h7
 rw[cc7] at h7
 have cc8:Tryz.prog.cellsOf 27=4:=by kernel_rfl
 have h8:=hf 8 _ rfl
 rw[hz8] at h8
 change DataW.trod enc Tryz.prog w 0 (λ_=>true) held n 27 ((cs.drop 17).take (Tryz.prog.cellsOf 27))=some z8 at h8
 rw[cc8] at h8
 have cc9:Tryz.prog.cellsOf 3=1:=by kernel_rfl
 have h9:=hf 9 _ rfl
 rw[hz9] at h9
 change DataW.trod enc Tryz.prog w 0 (λ_=>true) held n 3 ((cs.drop 21).take (Tryz.prog.cellsOf 3))=some z9 at h9
 rw[cc9] at h9
 have cc10:Tryz.prog.cellsOf 28=1:=by kernel_rfl
 have h10:=hf 10 _ rfl
 rw[hz10] at h10
 change DataW.trod enc Tryz.prog w 0 (λ_=>true) held n 28 ((cs.drop 22).take (Tryz.prog.cellsOf 28))=some z10 at h10
 rw[cc10] at h10
 have cc11:Tryz.prog.cellsOf 29=1:=by kernel_rfl
 have h11:=hf 11 _ rfl
 rw[hz11] at h11
 change DataW.trod enc Tryz.prog w 0 (λ_=>true) held n 29 ((cs.drop 23).take (Tryz.prog.cellsOf 29))=some z11 at h11
 rw[cc11] at h11
 have cc12:Tryz.prog.cellsOf 30=1:=by kernel_rfl
 have h12:=hf 12 _ rfl
 rw[hz12] at h12
 change DataW.trod enc Tryz.prog w 0 (λ_=>true) held n 30 ((cs.drop 24).take (Tryz.prog.cellsOf 30))=some z12 at h12
 rw[cc12] at h12
 obtain⟨x0,e0,_,_⟩:=DataW.trod_string Tryz.underlying9 h0
 obtain⟨x1,e1,_,_⟩:=DataW.trod_string Tryz.underlying9 h1
 obtain⟨p2,n2,d2,x2,e2,g2⟩:=iQ (E:=qX fX) (sz:=8) Tryz.underlying22 (by kernel_rfl) aa (λh=>Oy h) h2
 obtain⟨x3,hx3⟩:=gp h3
 have hy3:=hx3
 obtain⟨s3,p3,n3,c3,t3,y3,m3,d3,e3,hh3⟩:=hx3
 rw[e3] at hy3
 obtain⟨x4,jV⟩:=gp h4
 have tZ:=jV
 obtain⟨s4,p4,n4,c4,t4,y4,m4,d4,e4,hh4⟩:=jV
 rw[e4] at tZ
 obtain⟨x5,e5,_,hk5⟩:=DataW.trod_int Tryz.underlying3 h5
 obtain⟨x6,e6,_,hk6⟩:=DataW.trod_int Tryz.underlying3 h6
 obtain⟨x7,hx7⟩:=gp h7
 have hy7:=hx7
 obtain⟨s7,p7,n7,c7,t7,y7,m7,d7,e7,hh7⟩:=hx7
 rw[e7] at hy7
 obtain⟨x8,hx8⟩:=gp h8
 have hy8:=hx8
 obtain⟨s8,p8,n8,c8,t8,y8,m8,d8,e8,hh8⟩:=hx8
 rw[e8] at hy8
 obtain⟨x9,e9,_,hk9⟩:=DataW.trod_int Tryz.underlying3 h9
 obtain⟨p10,n10,d10,x10,e10,g10⟩:=iQ (E:=oZ fX) (sz:=6) Tryz.underlying28 (by kernel_rfl) aa (λh=>NP h) h10
 obtain⟨Gw,Gx,d11,x11,e11,g11⟩:=iQ (E:=dv) (sz:=1) Tryz.underlying29 (by kernel_rfl) aa (λh=>KS h) h11
 obtain⟨p12,n12,d12,x12,e12,g12⟩:=iQ (E:=Bg fX) (sz:=6) Tryz.underlying30 (by kernel_rfl) aa (λh=>OE h) h12
 have a0:cs.drop 0=(cs.drop 0).take 1++cs.drop 1:=aX cs 0 1 1 rfl
 have a1:cs.drop 1=(cs.drop 1).take 1++cs.drop 2:=aX cs 1 1 2 rfl
 have a2:cs.drop 2=(cs.drop 2).take 1++cs.drop 3:=aX cs 2 1 3 rfl
 have a3:cs.drop 3=(cs.drop 3).take 4++cs.drop 7:=aX cs 3 4 7 rfl
 have a4:cs.drop 7=(cs.drop 7).take 4++cs.drop 11:=aX cs 7 4 11 rfl
 have a5:cs.drop 11=(cs.drop 11).take 1++cs.drop 12:=aX cs 11 1 12 rfl
 have a6:cs.drop 12=(cs.drop 12).take 1++cs.drop 13:=aX cs 12 1 13 rfl
 have a7:cs.drop 13=(cs.drop 13).take 4++cs.drop 17:=aX cs 13 4 17 rfl
 have a8:cs.drop 17=(cs.drop 17).take 4++cs.drop 21:=aX cs 17 4 21 rfl
 have a9:cs.drop 21=(cs.drop 21).take 1++cs.drop 22:=aX cs 21 1 22 rfl
 have a10:cs.drop 22=(cs.drop 22).take 1++cs.drop 23:=aX cs 22 1 23 rfl
 have a11:cs.drop 23=(cs.drop 23).take 1++cs.drop 24:=aX cs 23 1 24 rfl
 have a12:cs.drop 24=(cs.drop 24).take 1:=by rw[List.take_of_length_le];rw[List.length_drop];omega
 have EH:cs=(cs.drop 0).take 1++((cs.drop 1).take 1++((cs.drop 2).take 1++((cs.drop 3).take 4++((cs.drop 7).take 4++((cs.drop 11).take 1++((cs.drop 12).take 1++((cs.drop 13).take 4++((cs.drop 17).take 4++((cs.drop 21).take 1++((cs.drop 22).take 1++((cs.drop 23).take 1++((cs.drop 24).take 1)))))))))))):=by
  have a:cs=cs.drop 0:=rfl
  rw[a0] at a
  rw[a1] at a
  rw[a2] at a
  rw[a3] at a
  rw[a4] at a
  rw[a5] at a
  rw[a6] at a
  rw[a7] at a
  rw[a8] at a
  rw[a9] at a
  rw[a10] at a
  rw[a11] at a
  rw[a12] at a
  exact a
 rw[EH,e0,e1,e2,e3,e4,e5,e6,e7,e8,e9,e10,e11,e12]
 exact⟨⟨x0,x1,x2,x3,x4,x5,x6,x7,x8,x9,x10,x11,x12⟩,_,_,_,_,_,_,_,_,_,_,_,_,_,_,_,_,_,_,_,_,_,_,_,_,_,_,_,_,_,_,_,_,_,_,_,_,_,_,_,_,_,_,_,_,rfl,g2,hy3,tZ,hy7,hy8,g10,g11,g12⟩
set_option maxRecDepth 100000 in
theorem Bt {v:Value} {d:DataW H} {ps:List MemPlace} {r:_root_.Go.Reach} {b0:Nat} (hv:Value.okWide Tryz.prog w r b0 32 v) (h:DataW.Trod enc Tryz.prog w 0 (λ_=>true) held 32 v d ps):∃ f:iU,mz fX w v f:=by
 obtain⟨cs,rfl,_⟩:=WideShapes.okWide_struct Tryz.underlying32 hv
 obtain⟨fuel,hf⟩:=h
 obtain⟨e,he⟩:=OG hf
 exact⟨e,by simpa [Value.cells] using he⟩
end
end
end Go.Proofs.YtlifeokjcgngjaaGreat
