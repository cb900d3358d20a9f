/- Walk: rightOf: a node is laid as a right child, of a node or of the root. -/
import Derived.Test.YtimlgcodecgecaaGreatDoorZ17
set_option maxRecDepth 100000
set_option maxHeartbeats 20000000
set_option linter.all false
namespace Go.Proofs.YtimlgcodecgecaaGreatDoor
open Go.RowKit Go.Lib
theorem zot{s:zE}{u:zV}{l:List Nat}:(∀a∈(xM s u l).1,s.ahead (s.nd a).u u=true)/\(∀a,(xM s u l).2.head?=some a->s.ahead (s.nd a).u u=false):=by
 refine⟨fun a b=> ?_,fun a b=> ?_⟩
 ·have:=zhR (p:=fun a=>s.ahead (s.nd a).u u) (l:=l);rw[zaq] at this;exact this a b
 ·have c:=zhS (p:=fun a=>s.ahead (s.nd a).u u) (l:=l);rw[show l.dropWhile (fun a=>s.ahead (s.nd a).u u)=(xM s u l).2 from rfl,b] at c;simpa using c
theorem zou{f:Nat->Nat}{l:List Nat}{k x:Nat}(b:l[k]?=some x):((l.take (k+1)).map f).sum=((l.take k).map f).sum+f x:=by obtain⟨a,rfl⟩:=zw.1 b;rw[j1 a,ym,List.sum_append];simp
theorem zov(f:Nat->Nat)(l:List Nat)(k:Nat):((l.take k).map f).sum<=(l.map f).sum:=by
 conv=>rhs;rw[<-zcF k l,ym,List.sum_append]
 omega
theorem zow{s:zE}(g:s.Wf):∀a:List Nat,(∀b∈a,b<s.l.length)->a.length<=(a.map s.sz).sum:=by
 intro a;induction a with
 |nil=>intro _;simp
 |cons b a e=>
  intro d;have k:=e fun j h=>d j (by simp[h]);obtain⟨_,f,_,c,_,l,_⟩:=g.has_walk (d b oh);have:0<f.length:=zj9.2 (fun i=>by rw[i] at c;have:=c.mem (x:=b) (by simp);cases this);rw[xd,zhk,z7];omega
theorem zE.Wf.right_sum{s:zE}(a:s.Wf){r:Nat}(b:r<s.l.length):s.place r+1+((s.rt r).map s.sz).sum<=s.l.length:=by obtain⟨i,h,e,d,k,f,c⟩:=a.kids_walk b;rw[a.sz_sum f fun j g=>(a.kid_lt b (.inr g)).2,a.place_mid (A:=e++i) (B:=h++d) (by rw[c];simp),<-a.len_eq,c];simp;omega
theorem zE.Wf.root_sum{s:zE}(a:s.Wf):(s.more.map s.sz).sum=s.l.length:=by rw[a.sz_sum a.walk fun b c=>(a.mem b).1 (a.walk.mem c),a.len_eq]
theorem zs.rootRow{n base:Nat}{w:zC}{L:xC}{D:zp}(a:zs n base w L D):zG base 256 1 z6 w L.rv (D.root.map L.bl):=by obtain⟨b,c,a⟩:=a;exact a.rootr
theorem zs.cell{n base:Nat}{w:World}{L:xC}{D:zp}(a:zs n base w L D):w.cell? ⟨n+6,0,none⟩=some (.map (some (n+4)))/\w.cell? ⟨n+6,1,none⟩=some L.ov/\w.cell? ⟨n+6,2,none⟩=some L.rv/\(∀d,w.frozen? ⟨n+6,d,none⟩=false)/\∃b,w.cell? ⟨n+6,4,none⟩=some (.bool b):=by obtain⟨e,c,a⟩:=a;exact⟨a.m.cell 0 _ rfl,a.m.cell 1 _ rfl,a.m.cell 2 _ rfl,a.m.frz,c,a.m.cell 4 _ rfl⟩
theorem zs.lohi{n base:Nat}{w:zC}{L:xC}{D:zp}(a:zs n base w L D):n+6<base/\base<=w:=by obtain⟨b,c,a⟩:=a;exact⟨a.lo,a.hi⟩
theorem zox(n base:Nat)(L:xC)(D:zp)(S:zE)(m p:Nat)(w:zC)(h:zs n base w L D)(G:qQ D S)(b4:S.l.length=m)(b7:D.len=m+1)(cp:p<m)(cr:m<=100000):
 Calls zD 293 #[(n+6:),(L.bl m),(L.bl p)] w fun e j=>
  e=(zB (((S.place p:Int)+1)+(((xM S (D.u m) (S.rt p)).1.map S.sz).sum:Nat)))/\
  zbw n base L D ((D.setPar m (some p)).setRt p ((xM S (D.u m) (S.rt p)).1++m::(xM S (D.u m) (S.rt p)).2)) w j:=by
 have ai:p<S.l.length:=oa
 have aw:=G.wf.right_sum ai
 rw[b4] at aw
 have bD:=G.wf.pos_uid ai
 have bj:∀a∈S.rt p,a<m:=fun a a1=>by have:=(G.wf.kid_lt ai (.inr a1)).2;omega
 have bi:=zow G.wf (S.rt p) fun a a1=>by have:=bj a a1;omega
 have av:S.rt p=(xM S (D.u m) (S.rt p)).1++(xM S (D.u m) (S.rt p)).2:=by simp[xM]
 obtain⟨bI,bx⟩:=zot (s:=S) (u:=D.u m) (l:=S.rt p)
 have K:m<D.len:=oa
 have ck:=(h.node K).lt
 have cd:=(h.node K).frz 6
 have b1:w.cell? (L.bl m,6)=some (xs L (D.par m)):=(h.node K).cell 6 _ rfl
 have i:=h.setPar K (some p) (fun q e=>by cases e;omega)
 have aq:Mods (zy n L D) w (w.setCell (L.bl m,6) (xs L (some p))):=(Mods.refl _ _).setC (.inl (.inr (.inr (.inr (.inr (.inr ⟨m,K,.inl rfl⟩)))))) _
 have bp:=G.setPar (m:=m) oa (some p)
 have bl:=zA (show ∀B,qC n B->zy n L D B from fun B hb=>oan)
 have bF:(D.u p).id=S.uid p:=by rw[G.u p ai];rfl
 have ah:=fun w h=>zer n base L (D.setPar m (some p)) S (S.uid p) w h bp
 rw[bD,<-bF] at ah
 clear bD bF
 have cc:xs L (some p)=(L.bl p):=rfl
 have bc:=zA fun k a8 w h=>zo0 n base L (D.setPar m (some p)) S k m w h bp a8 K
 have bR:=zA (show ∀k,k<m->D.u k=(S.nd k).u from fun k a8=>G.u k oa)
 have bv:=zA (show ∀k,k<m->(D.setPar m (some p)).sz k=S.sz k from fun k a8=>G.sz k oa)
 have bG:=zA bI
 have bQ:=zA bx
 have T:=zA bj
 clear bI bx bj
 rw[cc] at i aq
 generalize ce:S.place p=bC at ah aw ⊢
 clear ce
 have c:p<(D.setPar m (some p)).len:=by show p<D.len;omega
 have H:(D.setPar m (some p)).rt p=S.rt p:=G.rt p ai
 have bS:m<(D.setPar m (some p)).len:=K
 have bq:(D.setPar m (some p)).len=m+1:=b7
 have M:∀k,(D.setPar m (some p)).u k=D.u k:=fun _=>rfl
 have a0:=zA (show ∀B,zy n L (D.setPar m (some p)) B->zy n L D B from fun B hb=>hb)
 obtain⟨V,bw⟩:=aY (D.setPar m (some p))
 rw[bw] at i ah bS c bq H M a0 bv bp bc ⊢
 obtain⟨b,bf⟩:=aY ((xM S (D.u m) (S.rt p)).1)
 obtain⟨B,a7⟩:=aY ((xM S (D.u m) (S.rt p)).2)
 rw[bf,a7] at av ⊢
 rw[bf] at bG
 rw[a7] at bQ
 obtain⟨o,bE⟩:=aY (S.rt p)
 rw[bE] at av bi H aw T
 clear bE bf a7 bw
 obtain⟨len,ba⟩:=aY o.length
 have O:=zA ba
 rw[ba] at bi
 have s:=zA av
 obtain⟨C,bb⟩:∃C:Nat->Nat,∀k,C k=((o.take k).map S.sz).sum:=⟨_,fun _=>rfl⟩
 have au:=zA bb
 obtain⟨bA,aZ⟩:=aY ((o.map S.sz).sum)
 have bX:=zA (show ∀k,C k<=bA from fun k=>by rw[bb,<-aZ];exact zov _ _ _)
 rw[aZ] at aw bi
 clear ba av bb aZ
 obtain⟨I,a3⟩:∃I:Int,I=(bC:Int)+1:=⟨_,rfl⟩
 rw[<-a3]
 have cs:0<=I:=oa
 have co:I+bA<=m:=oa
 go_enter Tryz.func293,Tryz.ntmps293
 go_upto_region 2 with fail
 generalize w.setCell (L.bl m,6) (L.bl p)=an at i aq ⊢
 clear b1 cd
 have cn:=zlB (L.bl p)
 have bV:∀aH:zI (qC n) an,aH.val.cell? (L.bl p)=(D.u p).id.c:=zI.cell (i.node c).lt (fun e=>oJ) ((i.node c).cell 0 _ (by rw[M];rfl))
 have bW:∀aH:zI (qC n) an,aH.val.cell? (L.bl p,1)=(D.u p).id.k:=zI.cell (i.node c).lt (fun e=>oJ) ((i.node c).cell 1 _ (by rw[M];rfl))
 have bN:=ah an.drew (i.below (zf _ _).drew)
 clear ah
 have cg:(bC:Int)+1=I:=a3.symm
 clear a3
 go_upto_region 4 with fail
 refine fl7 (.rd [0,1,2,3,4,5,6,7,8] (.one 9 (.rd [10,11,12] .nil))) (qC n) ?_
 refine aT ?_
 refine aO ?_
 go_wp2_with (go_at_call 137;refine bN.mono ?_;rintro e bP ⟨rfl,ay,bL⟩)
 have a2:Mods (qC n) an bP:=((Mods.refl (qC n) an).drew).trans bL
 refine⟨zI.to a2,?_⟩
 have bH:=aq.trans (a2.mono bl.o)
 clear bN i aq bL bV bW a2
 refine aT ?_
 refine jh ?_
 obtain⟨bn,bY,r,ch,bZ,_⟩:=zaP (ay.rightRow c)
 rw[xk,H,O.o] at r bZ
 have am:=zA (show ∀j,zs n base j L V->j.cell? (L.bl p,8)=some (.slice bn len bY) from fun j h=>by rw[<-r];exact(h.node c).cell 8 _ rfl)
 have Z:=am.o bP ay
 go_wp2_with fail
 go_loopw [8,9] (fun bU bg wx=>∃k:Nat,k<=b.length/\bU=zB (I+(C k:Nat))/\bg=zB k/\zs n base wx L V/\Mods (zy n L D) w wx) (fun _ bg _=>len - (intOf bg).toNat)
 case atStart=>exact⟨0,xO _,by rw[au.o];simp,rfl,ay,bH⟩
 case round=>
  obtain⟨k,ci,rfl,rfl,v,W⟩:=hrel;clear ay bH Z;have Z:=am.o wr v;by_cases ar:k=b.length
  ·have bK:=zA (show(b.map S.sz).sum=C k by rw[au.o,s.o,ar];simp);have ac:=zA ar.symm;clear ar;by_cases bu:k=len
   ·have bo:¬((k:Int)<(len:Int)):=(by omega);clear bu;have d:=v;have N:=W;go_upto_region 9 with fail;clear Z;have ax:=am.o wr d;have a9:=d.lohi;clear v W;have a5:Mods (zy n L D) w (wr.alloc (.cells #[(L.bl m)] 256)):=N.alloc _;have a4:=d.below ((zf _ _).alloc (zU _) (.cells #[(L.bl m)] 256));have E:=(d.rightRow c);rw[H] at E;have aj:=zdp base (L.mv p) (o.map L.bl) b.length (L.bl m) wr E oaO a9.2 (by rw[xk,O.o];omega);have X:(o.map L.bl).take b.length++L.bl m::(o.map L.bl).drop b.length=(b++m::B).map L.bl:=(by rw[s.o];simp);rw[X,r,ac.o] at aj;have af:L.bl p<wr:=(d.node c).lt;have Y:(L.mv p).ownBlock≠some (L.bl p):=zc8 E (d.node c);rw[r] at Y;have bm:=(d.node c).frz 8;clear X E d N;go_upto_region 10 with(go_at_call 294;refine aj.mono ?_;rintro e w3 ⟨b8,rfl,F⟩;obtain⟨ca,bT,b0,rfl⟩:=zbx F.1;have ao:=F.2.1.block (L.bl p) oi (fun e=>Y e.symm);have b6:=(xA (a:=(L.bl p,8)) ao).trans ((xA (w:=wr) (a:=(L.bl p,8)) (yV _ _ _ af)).trans ax);have cb:=(jY (a:=(L.bl p,8)) ao).trans ((jY (w:=wr) (a:=(L.bl p,8)) (yV _ _ _ af)).trans bm));rw[<-r] at F;have bs:=(a4.setRt c F (fun ag g=>by
     rw[bq];rcases xX.1 g with g|g
     ·have:=T.o ag (by rw[s.o];simp[g]);omega
     ·rcases xK.1 g with rfl|g
      ·omega
      ·have:=T.o ag (by rw[s.o];simp[g]);omega)).before a5 a0.o
    go_wp2;go_ret;refine⟨?_,bs⟩;rw[bK.o];rfl
   ·have bJ:b.length<=o.length:=(by rw[s.o];simp);rw[O.o,ac.o] at bJ;have bO:k<o.length:=(by rw[O.o];omega);clear bJ;obtain⟨a,t⟩:∃a,o[k]?=some a:=⟨_,xG bO⟩;clear bO;have bB:k<len:=(by rw[<-O.o];exact(zw.1 t).1);have ae:a<m:=T.o _ (xn t);have aP:S.ahead (S.nd a).u (D.u m)=false:=bQ.o a (by have bM:=t;rw[s.o,vL (by rw[ac.o];exact zU _),ac.o,zcp] at bM;rw[List.head?_eq_getElem?];exact bM);clear bu;have az:a<V.len:=oa;obtain⟨x,be,z⟩:∃x,bn=some ⟨x,0,none⟩/\∀j,zs n base j L V->j.cell? ⟨x,k,none⟩=some (.pointer (some ⟨L.bl a,0,none⟩)):=(by have ad:=(v.rightRow c);rw[H] at ad;obtain⟨a6,bt,y,_,_,br⟩:=zaP ad;rw[r] at y;cases y;obtain⟨x,al,_⟩:=br k (L.bl a) oas;refine⟨x,al,fun j J=> ?_⟩;have ab:=(J.rightRow c);rw[H] at ab;obtain⟨a6,bt,y,_,_,bh⟩:=zaP ab;rw[r] at y;cases y;obtain⟨b2,aa,z⟩:=bh k (L.bl a) oas;rw[al] at aa;cases aa;exact z);subst be;have bd:=z wr v;have R:=bc.o a az wr v;rw[M,M,bR.o a ae,aP] at R;have bo:((k:Nat):Int)<(len:Int):=oa;go_upto_region 9 with(go_at_call 313;refine R.mono ?_;rintro e A ⟨rfl,d,ap⟩;have N:=W.trans (ap.mono bl.o));clear R bd ap z bo bB Z;have ax:=am.o A d;have a9:=d.lohi;clear v W;have a5:Mods (zy n L D) w (A.alloc (.cells #[(L.bl m)] 256)):=N.alloc _;have a4:=d.below ((zf _ _).alloc (zU _) (.cells #[(L.bl m)] 256));have E:=(d.rightRow c);rw[H] at E;have aj:=zdp base (L.mv p) (o.map L.bl) b.length (L.bl m) A E oaO a9.2 (by rw[xk,O.o];omega);have X:(o.map L.bl).take b.length++L.bl m::(o.map L.bl).drop b.length=(b++m::B).map L.bl:=(by rw[s.o];simp);rw[X,r,ac.o] at aj;have af:L.bl p<A:=(d.node c).lt;have Y:(L.mv p).ownBlock≠some (L.bl p):=zc8 E (d.node c);rw[r] at Y;have bm:=(d.node c).frz 8;clear X E d N;go_upto_region 10 with(go_at_call 294;refine aj.mono ?_;rintro e w3 ⟨b8,rfl,F⟩;obtain⟨ca,bT,b0,rfl⟩:=zbx F.1;have ao:=F.2.1.block (L.bl p) oi (fun e=>Y e.symm);have b6:=(xA (a:=(L.bl p,8)) ao).trans ((xA (w:=A) (a:=(L.bl p,8)) (yV _ _ _ af)).trans ax);have cb:=(jY (a:=(L.bl p,8)) ao).trans ((jY (w:=A) (a:=(L.bl p,8)) (yV _ _ _ af)).trans bm));rw[<-r] at F;have bs:=(a4.setRt c F (fun ag g=>by
     rw[bq];rcases xX.1 g with g|g
     ·have:=T.o ag (by rw[s.o];simp[g]);omega
     ·rcases xK.1 g with rfl|g
      ·omega
      ·have:=T.o ag (by rw[s.o];simp[g]);omega)).before a5 a0.o
    go_wp2;go_ret;refine⟨?_,bs⟩;rw[bK.o];rfl
  ·have ak:k<b.length:=(by omega);have t:o[k]?=some b[k]:=(by rw[s.o,jm ak];simp[ak]);have ae:b[k]<m:=T.o _ (xn t);have aP:=bG.o b[k] (zbk ak);generalize b[k]=a at t ae aP;have bB:k<len:=(by rw[<-O.o];exact(zw.1 t).1);have b5:=bX.o (k+1);have bz:C (k+1)=C k+S.sz a:=(by rw[au.o,au.o];exact zou (f:=S.sz) t);clear ar;have az:a<V.len:=oa;obtain⟨x,be,z⟩:∃x,bn=some ⟨x,0,none⟩/\∀j,zs n base j L V->j.cell? ⟨x,k,none⟩=some (.pointer (some ⟨L.bl a,0,none⟩)):=(by have ad:=(v.rightRow c);rw[H] at ad;obtain⟨a6,bt,y,_,_,br⟩:=zaP ad;rw[r] at y;cases y;obtain⟨x,al,_⟩:=br k (L.bl a) oas;refine⟨x,al,fun j J=> ?_⟩;have ab:=(J.rightRow c);rw[H] at ab;obtain⟨a6,bt,y,_,_,bh⟩:=zaP ab;rw[r] at y;cases y;obtain⟨b2,aa,z⟩:=bh k (L.bl a) oas;rw[al] at aa;cases aa;exact z);subst be;have bd:=z wr v;have R:=bc.o a az wr v;rw[M,M,bR.o a ae,aP] at R;have bo:((k:Nat):Int)<(len:Int):=oa;have cq:IntKind.i64.wrap (I+(C k:Nat)+(S.sz a:Nat))=I+(C (k+1):Nat):=oab;have cl:=zA bz;have cf:k+1<=b.length:=ak;clear bz b5;go_upto_region 7 with(go_at_call 313;refine R.mono ?_;rintro e A ⟨rfl,d,ap⟩;have N:=W.trans (ap.mono bl.o));have ax:=am.o A d;have cj:=z A d;have cm:A.cell? ⟨L.bl a,9,none⟩=some (.int .i64 (S.sz a)):=(by rw[<-bv.o a ae];exact(d.node az).cell 9 _ rfl);clear R bd ap z v W Z ak;go_wp2;go_roundw;case rel=>exact⟨k+1,cf,by first|rfl|simp,by first|rfl|(congr 1;go_num)|go_num,d,N⟩
   case measure=>simp[intOf];omega
theorem zv2(n base:Nat)(L:xC)(D:zp)(S:zE)(m:Nat)(w:zC)(h:zs n base w L D)(F:qQ D S)(bQ:S.l.length=m)(bT:D.len=m+1)(cb:m<=100000):
 Calls zD 293 #[(n+6:),(L.bl m),.pointer none] w fun e g=>
  e=(zB ((0:Int)+(((xM S (D.u m) (S.more)).1.map S.sz).sum:Nat)))/\
  zbw n base L D ((D.setPar m none).setRoot ((xM S (D.u m) (S.more)).1++m::(xM S (D.u m) (S.more)).2)) w g:=by
 have a1:=zaI F.wf.root_sum
 rw[bQ] at a1
 have be:∀a∈S.more,a<m:=fun a ay=>by have:=(F.wf.mem a).1 (F.wf.walk.mem ay);omega
 have bd:=zow F.wf (S.more) fun a ay=>by have:=be a ay;omega
 have ap:S.more=(xM S (D.u m) (S.more)).1++(xM S (D.u m) (S.more)).2:=by simp[xM]
 obtain⟨bw,bq⟩:=zot (s:=S) (u:=D.u m) (l:=S.more)
 have H:m<D.len:=oa
 have b5:=(h.node H).lt
 have bZ:=(h.node H).frz 6
 have bN:w.cell? (L.bl m,6)=some (xs L (D.par m)):=(h.node H).cell 6 _ rfl
 have ai:=h.setPar H none (fun q e=>obd)
 have am:Mods (zy n L D) w (w.setCell (L.bl m,6) (xs L none)):=(Mods.refl _ _).setC (.inl (.inr (.inr (.inr (.inr (.inr ⟨m,H,.inl rfl⟩)))))) _
 have bE:=F.setPar (m:=m) oa none
 have bD:=zA (show ∀z,qC n z->zy n L D z from fun z hb=>oan)
 have bX:xs L none= .pointer none:=rfl
 have a7:=zA fun k a2 w h=>zo0 n base L (D.setPar m none) S k m w h bE a2 H
 have bF:=zA (show ∀k,k<m->D.u k=(S.nd k).u from fun k a2=>F.u k oa)
 have bo:=zA (show ∀k,k<m->(D.setPar m none).sz k=S.sz k from fun k a2=>F.sz k oa)
 have bv:=zA bw
 have bC:=zA bq
 have M:=zA be
 clear bw bq be
 rw[bX] at ai am
 have E:(D.setPar m none).root=S.more:=F.root
 have bG:m<(D.setPar m none).len:=H
 have bi:(D.setPar m none).len=m+1:=bT
 have X:∀k,(D.setPar m none).u k=D.u k:=fun _=>rfl
 have ax:=zA (show ∀z,zy n L (D.setPar m none) z->zy n L D z from fun z hb=>hb)
 obtain⟨N,bp⟩:=aY (D.setPar m none)
 rw[bp] at ai bG bi E X ax bo bE a7 ⊢
 obtain⟨b,ba⟩:=aY ((xM S (D.u m) (S.more)).1)
 obtain⟨z,a0⟩:=aY ((xM S (D.u m) (S.more)).2)
 rw[ba,a0] at ap ⊢
 rw[ba] at bv
 rw[a0] at bC
 obtain⟨i,bu⟩:=aY S.more
 rw[bu] at ap bd E a1 M
 clear bu ba a0 bp
 obtain⟨len,a5⟩:=aY i.length
 have J:=zA a5
 rw[a5] at bd
 have o:=zA ap
 obtain⟨A,a6⟩:∃A:Nat->Nat,∀k,A k=((i.take k).map S.sz).sum:=⟨_,fun _=>rfl⟩
 have ao:=zA a6
 obtain⟨bs,aw⟩:=aY ((i.map S.sz).sum)
 have bJ:=zA (show ∀k,A k<=bs from fun k=>by rw[a6,<-aw];exact zov _ _ _)
 rw[aw] at a1 bd
 clear a5 ap a6 aw
 obtain⟨G,az⟩:∃G:Int,G=0:=⟨_,rfl⟩
 rw[<-az]
 have cc:0<=G:=oa
 have b9:G+bs<=m:=oa
 go_enter Tryz.func293,Tryz.ntmps293
 go_upto_region 2 with fail
 generalize w.setCell (L.bl m,6) (.pointer none)=b0 at ai am ⊢
 clear bN bZ
 have b8:=zoy
 have af:=ai
 have a3:=am
 have bP:=zA az
 clear az ai am
 generalize b0=bY at af a3 ⊢
 obtain⟨bg,bK,j,b2,bL,_⟩:=zaP af.rootRow
 rw[xk,E,J.o] at j bL
 have aj:=zA (show ∀g,zs n base g L N->g.cell? ⟨n+6,2,none⟩=some (.slice bg len bK) from fun g h=>by rw[<-j];exact h.cell.2.2.1)
 have V:=aj.o bY af
 go_wp2_with fail
 go_loopw [8,9] (fun bI bb wx=>∃k:Nat,k<=b.length/\bI=zB (G+(A k:Nat))/\bb=zB k/\zs n base wx L N/\Mods (zy n L D) w wx) (fun _ bb _=>len - (intOf bb).toNat)
 case atStart=>exact⟨0,xO _,by rw[ao.o,bP.o];simp,rfl,af,a3⟩
 case round=>
  obtain⟨k,b3,rfl,rfl,r,O⟩:=hrel;clear af a3 V;have V:=aj.o wr r;by_cases an:k=b.length
  ·have bz:=zA (show(b.map S.sz).sum=A k by rw[ao.o,o.o,an];simp);have Z:=zA an.symm;clear an;by_cases bn:k=len
   ·have bh:¬((k:Int)<(len:Int)):=(by omega);clear bn;have c:=r;have I:=O;go_upto_region 9 with fail;clear V;have aq:=aj.o wr c;have a4:=c.lohi;clear r O;have aP:Mods (zy n L D) w (wr.alloc (.cells #[(L.bl m)] 256)):=I.alloc _;have aH:=c.below ((zf _ _).alloc (zU _) (.cells #[(L.bl m)] 256));have B:=c.rootRow;rw[E] at B;have ae:=zdp base (L.rv) (i.map L.bl) b.length (L.bl m) wr B (by rw[xk,o.o];simp) a4.2 (by rw[xk,J.o];omega);have R:(i.map L.bl).take b.length++L.bl m::(i.map L.bl).drop b.length=(b++m::z).map L.bl:=(by rw[o.o];simp);rw[R,j,Z.o] at ae;have ac:n+6<wr.heap.size:=c.lt;have T:(L.rv).ownBlock≠some (n+6):=fun e=>(by have:=(ya B _ e).1;omega);rw[j] at T;have bf:=c.cell.2.2.2.1 2;clear R B c I;go_upto_region 10 with(go_at_call 294;refine ae.mono ?_;rintro e w3 ⟨bU,rfl,C⟩;obtain⟨bV,bH,bM,rfl⟩:=zbx C.1;have ak:=C.2.1.block (n+6) oi (fun e=>T e.symm);have bS:=(xA (a:=(n+6,2)) ak).trans ((xA (w:=wr) (a:=(n+6,2)) (yV _ _ _ ac)).trans aq);have bW:=(jY (a:=(n+6,2)) ak).trans ((jY (w:=wr) (a:=(n+6,2)) (yV _ _ _ ac)).trans bf));rw[<-j] at C;have bl:=(aH.setRoot C (fun ad d=>by
     rw[bi];rcases xX.1 d with d|d
     ·have:=M.o ad (by rw[o.o];simp[d]);omega
     ·rcases xK.1 d with rfl|d
      ·omega
      ·have:=M.o ad (by rw[o.o];simp[d]);omega)).before aP ax.o
    go_wp2;go_ret;refine⟨?_,bl⟩;rw[bz.o];rfl
   ·have bx:b.length<=i.length:=(by rw[o.o];simp);rw[J.o,Z.o] at bx;have bB:k<i.length:=(by rw[J.o];omega);clear bx;obtain⟨a,p⟩:∃a,i[k]?=some a:=⟨_,xG bB⟩;clear bB;have bt:k<len:=(by rw[<-J.o];exact(zw.1 p).1);have ab:a<m:=M.o _ (xn p);have au:S.ahead (S.nd a).u (D.u m)=false:=bC.o a (by have bA:=p;rw[o.o,vL (by rw[Z.o];exact zU _),Z.o,zcp] at bA;rw[List.head?_eq_getElem?];exact bA);clear bn;have ar:a<N.len:=oa;obtain⟨t,a9,x⟩:∃t,bg=some ⟨t,0,none⟩/\∀g,zs n base g L N->g.cell? ⟨t,k,none⟩=some (.pointer (some ⟨L.bl a,0,none⟩)):=(by have aa:=r.rootRow;rw[E] at aa;obtain⟨aZ,bm,v,_,_,bj⟩:=zaP aa;rw[j] at v;cases v;obtain⟨t,ah,_⟩:=bj k (L.bl a) oaW;refine⟨t,ah,fun g av=> ?_⟩;have Y:=av.rootRow;rw[E] at Y;obtain⟨aZ,bm,v,_,_,bc⟩:=zaP Y;rw[j] at v;cases v;obtain⟨bO,W,x⟩:=bc k (L.bl a) oaW;rw[ah] at W;cases W;exact x);subst a9;have a8:=x wr r;have K:=a7.o a ar wr r;rw[X,X,bF.o a ab,au] at K;have bh:((k:Nat):Int)<(len:Int):=oa;go_upto_region 9 with(go_at_call 313;refine K.mono ?_;rintro e y ⟨rfl,c,al⟩;have I:=O.trans (al.mono bD.o));clear K a8 al x bh bt V;have aq:=aj.o y c;have a4:=c.lohi;clear r O;have aP:Mods (zy n L D) w (y.alloc (.cells #[(L.bl m)] 256)):=I.alloc _;have aH:=c.below ((zf _ _).alloc (zU _) (.cells #[(L.bl m)] 256));have B:=c.rootRow;rw[E] at B;have ae:=zdp base (L.rv) (i.map L.bl) b.length (L.bl m) y B (by rw[xk,o.o];simp) a4.2 (by rw[xk,J.o];omega);have R:(i.map L.bl).take b.length++L.bl m::(i.map L.bl).drop b.length=(b++m::z).map L.bl:=(by rw[o.o];simp);rw[R,j,Z.o] at ae;have ac:n+6<y.heap.size:=c.lt;have T:(L.rv).ownBlock≠some (n+6):=fun e=>(by have:=(ya B _ e).1;omega);rw[j] at T;have bf:=c.cell.2.2.2.1 2;clear R B c I;go_upto_region 10 with(go_at_call 294;refine ae.mono ?_;rintro e w3 ⟨bU,rfl,C⟩;obtain⟨bV,bH,bM,rfl⟩:=zbx C.1;have ak:=C.2.1.block (n+6) oi (fun e=>T e.symm);have bS:=(xA (a:=(n+6,2)) ak).trans ((xA (w:=y) (a:=(n+6,2)) (yV _ _ _ ac)).trans aq);have bW:=(jY (a:=(n+6,2)) ak).trans ((jY (w:=y) (a:=(n+6,2)) (yV _ _ _ ac)).trans bf));rw[<-j] at C;have bl:=(aH.setRoot C (fun ad d=>by
     rw[bi];rcases xX.1 d with d|d
     ·have:=M.o ad (by rw[o.o];simp[d]);omega
     ·rcases xK.1 d with rfl|d
      ·omega
      ·have:=M.o ad (by rw[o.o];simp[d]);omega)).before aP ax.o
    go_wp2;go_ret;refine⟨?_,bl⟩;rw[bz.o];rfl
  ·have ag:k<b.length:=(by omega);have p:i[k]?=some b[k]:=(by rw[o.o,jm ag];simp[ag]);have ab:b[k]<m:=M.o _ (xn p);have au:=bv.o b[k] (zbk ag);generalize b[k]=a at p ab au;have bt:k<len:=(by rw[<-J.o];exact(zw.1 p).1);have bR:=bJ.o (k+1);have br:A (k+1)=A k+S.sz a:=(by rw[ao.o,ao.o];exact zou (f:=S.sz) p);clear an;have ar:a<N.len:=oa;obtain⟨t,a9,x⟩:∃t,bg=some ⟨t,0,none⟩/\∀g,zs n base g L N->g.cell? ⟨t,k,none⟩=some (.pointer (some ⟨L.bl a,0,none⟩)):=(by have aa:=r.rootRow;rw[E] at aa;obtain⟨aZ,bm,v,_,_,bj⟩:=zaP aa;rw[j] at v;cases v;obtain⟨t,ah,_⟩:=bj k (L.bl a) oaW;refine⟨t,ah,fun g av=> ?_⟩;have Y:=av.rootRow;rw[E] at Y;obtain⟨aZ,bm,v,_,_,bc⟩:=zaP Y;rw[j] at v;cases v;obtain⟨bO,W,x⟩:=bc k (L.bl a) oaW;rw[ah] at W;cases W;exact x);subst a9;have a8:=x wr r;have K:=a7.o a ar wr r;rw[X,X,bF.o a ab,au] at K;have bh:((k:Nat):Int)<(len:Int):=oa;have ca:IntKind.i64.wrap (G+(A k:Nat)+(S.sz a:Nat))=G+(A (k+1):Nat):=oab;have b6:=zA br;have b1:k+1<=b.length:=ag;clear br bR;go_upto_region 7 with(go_at_call 313;refine K.mono ?_;rintro e y ⟨rfl,c,al⟩;have I:=O.trans (al.mono bD.o));have aq:=aj.o y c;have b4:=x y c;have b7:y.cell? ⟨L.bl a,9,none⟩=some (.int .i64 (S.sz a)):=(by rw[<-bo.o a ab];exact(c.node ar).cell 9 _ rfl);clear K a8 al x r O V ag;go_wp2;go_roundw;case rel=>exact⟨k+1,b1,by first|rfl|simp,by first|rfl|(congr 1;go_num)|go_num,c,I⟩
   case measure=>simp[intOf];omega
end Go.Proofs.YtimlgcodecgecaaGreatDoor
