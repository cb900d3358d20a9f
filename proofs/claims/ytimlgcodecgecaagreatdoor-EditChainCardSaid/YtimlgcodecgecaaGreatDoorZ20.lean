/- Walk: chain: a run's further units. -/
import Derived.Test.YtimlgcodecgecaaGreatDoorZ19
set_option maxRecDepth 100000
set_option maxHeartbeats 20000000
set_option linter.all false
namespace Go.Proofs.YtimlgcodecgecaaGreatDoor
open Go.RowKit Go.Lib
def zp.plusM(D:zp)(l:List Nat)(m:Nat):zp:={D with sz:=fun k=>D.sz k+if k∈l then m else 0}
def qZ(D:zp)(b:zE)(N j d:Nat):zp:={len:=N+j,u:=fun a=>(b.nd a).u,par:=fun a=>(b.nd a).par,lf:=b.lf,rt:=fun a=>if a=d then[] else b.rt a,sz:=b.sz,ord:=D.ord,root:=D.root,find:=fun c=>match b.find c with
 |some a=>if a<N+j then some a else none
 |none=>none}
theorem zvW{n base:Nat}{w:zC}{L:xC}{D:zp}{S d:zE}{p h:Nat}{v:zV}(c:zaw S p v h d)(e:qQ D S)(q:D.len=S.l.length)(o:p<S.l.length)(j:S.rt p= [])(l:S.lf p= [])(k:zs n base w L (D.plusM (p::S.anc p) h)):zs n base w L (qZ D d S.l.length 0 p):=by
 refine k.congr (by show S.l.length+0=D.len;omega) (fun a m=> ?_) rfl rfl (fun i=> ?_)
 ·have f:a<S.l.length:=by have:a<D.len:=m;omega
  have g:a≠p->d.nd a=S.nd a:=fun b=>c.old a f b;refine⟨?_,?_,?_,?_,?_⟩
  ·show(d.nd a).u=D.u a;rw[e.u a f];by_cases b:a=p
   ·subst b;rw[c.pv]
   ·rw[g b]
  ·show(d.nd a).par=D.par a;rw[e.par a f];by_cases b:a=p
   ·subst b;rw[c.pv]
   ·rw[g b]
  ·show d.lf a=D.lf a;rw[e.lf a f];unfold zE.lf at *;by_cases b:a=p
   ·subst b;rw[c.pv,l]
   ·rw[g b]
  ·show(if a=p then[] else d.rt a)=D.rt a;rw[e.rt a f];by_cases b:a=p
   ·subst b;rw[zP rfl,j]
   ·rw[if_neg b];unfold zE.rt;rw[g b]
  ·show d.sz a=D.sz a+_;rw[c.szo a f,e.sz a f];simp only[xK]
 ·show(match d.find i with|some a=>if a<S.l.length+0 then some a else none|none=>none)=D.find i
  rw[e.find,c.find e.wf o];rfl
theorem zs.newP{n base:Nat}{W:World}{L:xC}{D:zp}(d:zs n base W L D)(u:zV)(a:Option Nat)(s:Nat)(g:∀e,a=some e->e<D.len){b:Nat}(f:W.heap.size<=b){W':World}(h:W.heap.size<=W'.heap.size)(l:∀c,c<W.heap.size->W'.heap[c]?=W.heap[c]?)(j:xa W' b u (xs L a) (.slice none 0 0) (.slice none 0 0) s):
 zs n base W' (L.new D.len b) (D.newP u a s):=by
 obtain⟨k,i,d⟩:=d;exact⟨k,i,d.newP u a s g f h l j⟩
theorem zy.newP{n:Nat}{L:xC}{D:zp}{u:zV}{c:Option Nat}{s b k:Nat}(a:zy n (L.new D.len b) (D.newP u c s) k):zy n L D k\/k=b:=by have d:zy n (L.new D.len b) (D.new u) k:=a;exact d.new
theorem zs.allMap{n base:Nat}{W:zC}{L:xC}{D:zp}(a:zs n base W L D):zq xV W (n+4) L.am:=by obtain⟨b,c,a⟩:=a;exact a.m.all
theorem zs.putAll{n base:Nat}{W:zC}{L:xC}{D:zp}(a:zs n base W L D)(x:zF)(k:Nat)(c:k<D.len){o:Obj}(d:zq xV (xF W (n+4) o) (n+4) (xT L.am x (zo (L.bl k)))):
 zs n base (xF W (n+4) o) {L with am:=xT L.am x (zo (L.bl k))} {D with find:=fun b=>if b=x then some k else D.find b}:=by
 obtain⟨e,f,a⟩:=a;exact⟨e,f,a.putAll x k c d⟩
theorem zs.keep{n base:Nat}{W W':World}{L:xC}{D:zp}(a:zs n base W L D)(e:W.heap.size<=W'.heap.size)(c:∀b,zy n L D b->W'.heap[b]?=W.heap[b]?):zs n base W' L D:=by obtain⟨d,f,a⟩:=a;exact⟨d,f,a.keep e c⟩
theorem zs.foot_lt{n base:Nat}{W:zC}{L:xC}{D:zp}(a:zs n base W L D):∀b,zy n L D b->b<W.heap.size:=by obtain⟨c,d,a⟩:=a;exact a.foot_lt
theorem zvX(base:Nat)(j:zJ)(b:Nat)(W:zC)(h:base<=W):zbQ base j [b] W (.slice (some W) 1 1) (W.alloc (.cells #[b] 256)):=by
 have g:(W.alloc (.cells #[b] 256)).heap[W.heap.size]?=some (.cells #[b] 256 (0,0)):=vi W _;refine⟨?_,⟨rfl,rfl,rfl,oh,fun m i _=>yV _ _ _ i⟩,.inr rfl⟩;refine zG.of_cells (l:= [b]) (base:=base) (k:=1) (enc:=z6) (fun _=>rfl) h g oh oP oh fun f n c e k d=> ?_;have o:e<1:=(zw.1 d).1;obtain rfl:e=0:=oa;cases f with
 |zero=>
  simp at c;subst c;obtain rfl:zo b=k:=by simpa[z6] using d
  rw[World.cell?,g];rfl
 |succ f=>simp at c
theorem zvY{D:zp}{S b:zE}{p e j:Nat}(c:zaw S p (S.nd p).u.next e b)(q:p<S.l.length)(m:j<e):
 ∀a,a<S.l.length+j+1->((qZ D b S.l.length (j+1) (S.l.length+j)).u a=(((qZ D b S.l.length j (yB p S.l.length j)).newP (b.nd (yB p S.l.length j)).u.next (some (yB p S.l.length j)) (e - j)).setRt (yB p S.l.length j) [S.l.length+j]).u a/\
  (qZ D b S.l.length (j+1) (S.l.length+j)).par a=(((qZ D b S.l.length j (yB p S.l.length j)).newP (b.nd (yB p S.l.length j)).u.next (some (yB p S.l.length j)) (e - j)).setRt (yB p S.l.length j) [S.l.length+j]).par a/\
  (qZ D b S.l.length (j+1) (S.l.length+j)).lf a=(((qZ D b S.l.length j (yB p S.l.length j)).newP (b.nd (yB p S.l.length j)).u.next (some (yB p S.l.length j)) (e - j)).setRt (yB p S.l.length j) [S.l.length+j]).lf a/\
  (qZ D b S.l.length (j+1) (S.l.length+j)).rt a=(((qZ D b S.l.length j (yB p S.l.length j)).newP (b.nd (yB p S.l.length j)).u.next (some (yB p S.l.length j)) (e - j)).setRt (yB p S.l.length j) [S.l.length+j]).rt a/\
  (qZ D b S.l.length (j+1) (S.l.length+j)).sz a=(((qZ D b S.l.length j (yB p S.l.length j)).newP (b.nd (yB p S.l.length j)).u.next (some (yB p S.l.length j)) (e - j)).setRt (yB p S.l.length j) [S.l.length+j]).sz a):=by
 obtain⟨k,h,n,i,o⟩:=c.step q m
 have l:yB p S.l.length j<S.l.length+j:=by unfold yB;split<;> omega
 generalize yB p S.l.length j=g at k h i l ⊢
 intro a r
 refine⟨?_,?_,?_,?_,?_⟩
 ·show(b.nd a).u=zm (fun a=>(b.nd a).u) (S.l.length+j) _ a;by_cases d:a=S.l.length+j
  ·subst d;rw[xR];exact k
  ·rw[z8 _ _ d]
 ·show(b.nd a).par=zm (fun a=>(b.nd a).par) (S.l.length+j) _ a;by_cases d:a=S.l.length+j
  ·subst d;rw[xR];exact h
  ·rw[z8 _ _ d]
 ·show b.lf a=zm b.lf (S.l.length+j) _ a;by_cases d:a=S.l.length+j
  ·subst d;rw[xR];exact n
  ·rw[z8 _ _ d]
 ·show(if a=S.l.length+j then[] else b.rt a)=zm (zm (fun a=>if a=g then[] else b.rt a) (S.l.length+j) []) g [S.l.length+j] a;by_cases d:a=g
  ·subst d;rw[xR,zN oa];exact i
  ·rw[z8 _ _ d];by_cases f:a=S.l.length+j
   ·subst f;rw[xR,zP rfl]
   ·rw[z8 _ _ f,zN f,zN d]
 ·show b.sz a=zm b.sz (S.l.length+j) _ a;by_cases d:a=S.l.length+j
  ·subst d;rw[xR];exact o
  ·rw[z8 _ _ d]
theorem zvZ(n base:Nat)(L:xC)(D:zp)(S:zE)(p g:Nat)(w:World)(h:zs n base w L D)(t:qQ D S)(c7:D.len=S.l.length)(G:p<S.l.length)(df:S.lf p= [])(eb:S.rt p= [])(o:zE)(z:zaw S p (S.nd p).u.next g o)(b8:0<g)(dG:S.l.length+g<=50000)(v:(S.uid p).k+g<=9007199254740991/\0<=(S.uid p).k):
 Calls Tryz.prog 262 #[.pointer (some ⟨n+6,0,none⟩),.pointer (some ⟨L.bl p,0,none⟩),.int .i64 g] w fun d aq=>
  d= .returned (.tuple #[])/\qA n base (fun e=>zy n L D e\/w.heap.size<=e) aq o/\Mods (zy n L D) w aq:=by
 have cE:=t.wf.pos_uid G
 have bK:=t.wf.place_lt G
 rw[t.wf.len_eq] at bK
 have dE:p<D.len:=oa
 have c3:(D.u p).id=S.uid p:=by rw[t.u p G];rfl
 have be:=zer n base L D S (S.uid p) w h t
 rw[cE,<-c3] at be
 have bF:=h.node dE
 have de:w.cell? (L.bl p)=(D.u p).id.c:=bF.cell 0 _ rfl
 have dO:w.cell? (L.bl p,1)=(D.u p).id.k:=bF.cell 1 _ rfl
 have dJ:=zA (show ∀e,qC n e->zy n L D e from fun e x=>by unfold qC at x;unfold zy;omega)
 have az:=zA c7
 have eN:=h.lt
 obtain⟨a1,bM⟩:=aY (S.place p)
 rw[bM] at be bK
 have eg:=zA bM
 have eI:=zA (show ∀e,zy n L D e->e<w.heap.size from fun e x=>by obtain⟨b7,bl,ad⟩:=h;exact ad.foot_lt e x)
 have ej:=h.lohi
 clear cE c3 bM c7 bF
 go_enter Tryz.func262,Tryz.ntmps262
 go_upto_region 1 with(go_at_call 137;refine be.mono ?_;rintro d dL ⟨rfl,ce,cJ⟩)
 have b3:Mods (zy n L D) w dL:=cJ.mono dJ.o
 clear be de dO h cJ
 obtain⟨bc,bz⟩:=aX (p::S.anc p)
 have cm:=zA bz
 have ch:bc.Nodup:=by rw[bz,zdZ];exact⟨fun d=>by have:=t.wf.anc_lt p p G d;omega,(t.wf.anc_down p G).imp fun h=>oa⟩
 clear bz
 go_upto_region 2 with fail
 go_loopw [7] (fun ar wx=>∃r a8,bc=r++a8/\((a8= []/\ar= .pointer none)\/∃m,m<S.l.length/\a8=m::S.anc m/\ar=(L.bl m))/\zs n base wx L (D.plusM r g)/\Mods (zy n L D) w wx) (fun ar _=>zf3 L S.l.length ar)
 case atStart=>exact⟨[],bc,rfl,.inr ⟨p,G,cm.o,rfl⟩,ce.congr rfl (fun k _=>⟨rfl,rfl,rfl,rfl,by show D.sz k+_=_;simp⟩) rfl rfl (fun _=>rfl),b3⟩
 case round=>
  obtain⟨r,a8,aP,dy,ai,b0⟩:=hrel;rcases dy with⟨rfl,rfl⟩|⟨m,Z,rfl,rfl⟩
  ·rw[zbl] at aP;subst aP;have ca:=zvW z t az.o G eb df (by rw[<-cm.o];exact ai);clear ai ce b3 ch;go_upto_region 7 with fail;obtain⟨c,af⟩:=aY S.l.length;have br:=zA af;rw[af] at ca G dG bK;have cd:=fun b (K:b<g)=>z.step (by rw[af];exact G) K;have bE:=fun b (K:b<g)=>zvY (D:=D) z (by rw[af];exact G) K;rw[af] at cd bE;have cn:=zA cd;have dX:=zA bE;have a5:=z.len;rw[af] at a5;have dz:=zA (show ∀e,zy n L (qZ D o c 0 p) e->zy n L D e from fun e x=>by
    rcases x with d|d|d|d|d|⟨k,v,d⟩
    ·exact .inl d
    ·exact .inr (.inl d)
    ·exact .inr (.inr (.inl d))
    ·exact .inr (.inr (.inr (.inl d)))
    ·exact .inr (.inr (.inr (.inr (.inl d))))
    ·exact .inr (.inr (.inr (.inr (.inr ⟨k,by have:k<c+0:=v;rw[az.o];omega,d⟩)))))
   clear af cd bE;have cz:yB p c 0=p:=zP rfl;have bA:=zA cz;clear cz;go_loopw [1,8,9,10] (fun dC cB cb _ wx=>∃b ap,b<=g/\dC=(ap.bl (yB p c b))/\cb=zB ((g:Int) - b)/\zG w 256 1 z6 wx cB ((List.range' c b).map ap.bl)/\zs n base wx ap (qZ D o c b (yB p c b))/\(∀e,zy n ap (qZ D o c b (yB p c b)) e->(zy n L D e\/w.heap.size<=e)/\cB.ownBlock≠some e)/\ap.ov=L.ov/\(∀k,k<c->ap.bl k=L.bl k)/\Mods (zy n L D) w wx) (fun _ _ cb _ _=>(intOf cb).toNat);case atStart=>
    exact⟨0,L,xO _,by rw[bA.o],oh,zG.nil,by rw[bA.o];exact ca,fun e x=>⟨.inl (dz.o e (by rw[bA.o] at x;exact x)),fun d=>by cases d⟩,rfl,fun _ _=>rfl,b0⟩
   case round=>
    obtain⟨b,j,K,rfl,rfl,N,ak,I,cj,c9,a3⟩:=hrel;clear ca b0;by_cases b1:b<g
    ·have bx:yB p c b<c+b:=(by unfold yB;split<;> omega);have cv:yB p c (b+1)=c+b:=(by unfold yB;rw[if_neg (by omega)];omega);have bp:=dX.o b b1;have dn:=(cn.o b b1).2.2.2.2;have dw:(0:Int)<(g:Int) - b:=oa;have bW:=z.wf.right (yB p c b) (by rw[a5];omega);obtain⟨q,bY⟩:=aY (yB p c b);have dR:=zA bY;rw[bY] at bx ak I bp bW ⊢;clear bY;have B:xa wr (j.bl q) (o.nd q).u (xs j (o.nd q).par) (j.lv q) (j.mv q) (o.sz q):=ak.node (k:=q) bx;obtain⟨i,bf⟩:=aY ((o.nd q).u);have cp:i.id.rightB=true:=(by rw[<-bf];exact bW);rw[bf] at B bp;have eL:1<=i.id.k/\i.id.k<=9007199254740991:=(by simp[zF.rightB,xi] at cp;omega);have eu:IntKind.u64.wrap (i.id.k+1)=i.id.k+1:=og;have et:base<=wr:=ak.lohi.2;have ab:(List.map j.bl (List.range' c b)).length=b:=oh;obtain⟨an,ag,av⟩:=ys N;rw[ab] at av;subst av;have dH:=zA bf;clear bW bf cp;have ef:∀C:zI zX wr,C.val.cell? (j.bl q)=i.id.c:=zI.cell B.lt id (B.cell 0 _ rfl);have bQ:∀C:zI zX wr,C.val.cell? (j.bl q,1)=i.id.k:=zI.cell B.lt id (B.cell 1 _ rfl);have bU:∀C:zI zX wr,C.val.cell? (j.bl q,4)=i.right.c:=zI.cell B.lt id (B.cell 4 _ rfl);have dM:∀C:zI zX wr,C.val.cell? (j.bl q,5)=i.right.k:=zI.cell B.lt id (B.cell 5 _ rfl);go_upto_region 9 with fail;refine xU 28 [0,1,2,3,4,5,6,7,8,9,10,11,12,13,14,15,16,17,18,19,20,21,22,23,24,25,26,27] [28,29] zX (aM ?_);refine aR ?_;refine aS ?_;go_wp2;have ct:((g - b:Nat):Int)=(g:Int) - b:=oa;have ac:Below wr wr (wr.alloc (.cells (jE i.next (zo (j.bl q)) () () ((g:Int) - b)) 258)).drew:=aA.drew;have bZ:xa (wr.alloc (.cells (jE i.next (zo (j.bl q)) () () ((g:Int) - b)) 258)).drew wr i.next (zo (j.bl q)) () () ((g:Int) - b):=World.alloc_heap_new _ _;change jI _ _ _ _ _ _ _ (wr.alloc (.cells (jE i.next (zo (j.bl q)) () () ((g:Int) - b)) 258)).drew;generalize(wr.alloc (.cells (jE i.next (zo (j.bl q)) () () ((g:Int) - b)) 258)).drew=F at ac bZ ⊢;have bd:=ak.newP i.next (some q) (g - b) (fun eo d=>by cases d;exact bx) (zU _) ac.size (fun k v=>ac.block k v) (by rw[ct];exact bZ);have aa:Mods (zy n L D) w F:=a3.trans (Mods.of_below ac);have cH:zG w 256 1 z6 F (.slice an b ag) ((List.range' c b).map j.bl):=xI N fun e d=>ac.block e (xJ N e d);have bV:=zA B.lt;clear ef bQ bU dM B bZ;have eM:=ac.size;have eE:=a3.size;have cP:=xJ N;have bj:=zA cP;clear a3 N ac ak cP;refine aS ?_;go_wp2;refine xE ?_;have d2:j.bl q≠wr:=fun d=>(by have:=bV.o;omega);have bt:(j.new (c+b) wr).bl q=j.bl q:=z8 _ _ oa;have bS:(j.new (c+b) wr).bl (c+b)=wr:=xR _ _ _;have bC:(j.new (c+b) wr).mv q=j.mv q:=z8 _ _ oa;have dt:(qZ D o c b q).len=c+b:=rfl;rw[dt] at bd;have bu:q<((qZ D o c b q).newP i.next (some q) (g - b)).len:=(by show q<c+b+1;omega);have bD:c+b<((qZ D o c b q).newP i.next (some q) (g - b)).len:=(by show c+b<c+b+1;omega);have bn:=bd.node bu;rw[bt,bC] at bn;have c4:=zvX base (j.mv q) wr F oa;have cc:=bd.setRt bu (l:= [c+b]) (v:= .slice (some F) 1 1) (by
      rw[bC,xd,yl,bS];exact c4) (fun m z=>by
      simp at z;subst z;exact bD)
     rw[bt] at cc;have a9:j.bl q<F:=(by have:=bV.o;omega);have dI:(F.alloc (.cells #[wr] 256)).cell? (j.bl q,8)=some (j.mv q):=(xA (w:=F) (a:=(j.bl q,8)) (yV _ _ _ a9)).trans (bn.cell 8 _ rfl);have d0:(F.alloc (.cells #[wr] 256)).frozen? (j.bl q,8)=false:=(jY (w:=F) (a:=(j.bl q,8)) (yV _ _ _ a9)).trans (bn.frz 8);have ey:=zA a9;have eG:=bV;clear a9;go_upto_region 11 with fail;generalize dA:(F.alloc (.cells #[wr] 256)).setCell (j.bl q,8) (.slice (some F) 1 1)=A at cc ⊢;clear dA dI d0 c4 bn bd;obtain⟨s,bo,dm,c6,a0,cT,X⟩:=cc;have cG:∀e,zy n s (((qZ D o c b q).newP i.next (some q) (g - b)).setRt q [c+b]) e->(zy n L D e\/w.heap.size<=e)/\(Value.slice an b ag).ownBlock≠some e:=fun e x=>by
      rcases cT e x with y|y
      ·rcases zy.newP y with J|J
       ·exact I e J
       ·exact⟨.inr oa,fun d=>by have:=bj.o e d;omega⟩
      ·exact⟨.inr oa,fun d=>by have:=bj.o e d;omega⟩
     have ao:Mods (zy n L D) w A:=⟨X.os.trans aa.os,X.tape.trans aa.tape,X.output.trans aa.output,zk aa.size X.size,fun k v aw=>(X.block k (by have:=aa.size;omega) (fun a4=>by
      rcases zy.newP a4 with J|J
      ·rcases(I k J).1 with c5|c5
       ·exact aw c5
       ·omega
      ·omega)).trans (aa.block k v aw)⟩
     have bX:zG w 256 1 z6 A (.slice an b ag) ((List.range' c b).map j.bl):=xI cH fun e d=>X.block e (by have:=bj.o e d;omega) (fun a4=>by
      rcases zy.newP a4 with J|J
      ·exact(I e J).2 d
      ·have:=bj.o e d;omega)
     have ex:=X.size;have bh:s.bl (c+b)=wr:=(by rw[bo];exact bS);have cY:s.ov=L.ov:=c6.trans cj;have cX:∀k,k<c->s.bl k=L.bl k:=fun k v=>(by rw[bo];exact(z8 _ _ oa).trans (c9 k v));have cl:(List.range' c b).map j.bl++[wr.heap.size]=(List.range' c (b+1)).map s.bl:=(by rw[List.range'_1_concat,ym,xd,yl,bh];congr 1;refine zbI fun k v=> ?_;rw[bo];have:=List.mem_range'_1.1 v;exact(z8 _ _ oa).symm);have dS:=zA cl;have cO:=zA bh;have ds:=zA cY;have d3:=zA cX;have bI:=zA cG;have ah:=a0.node (k:=c+b) bD;have cL:(((qZ D o c b q).newP i.next (some q) (g - b)).setRt q [c+b]).u (c+b)=i.next:=xR _ _ _;rw[cL,bh] at ah;have u0:∀C:zI zX A,C.val.cell? wr=i.id.c:=zI.cell ah.lt id (ah.cell 0 _ rfl);have u1:∀C:zI zX A,C.val.cell? (wr,1)=(i.id.k+1:):=zI.cell ah.lt id (ah.cell 1 _ rfl);have d1:=aV a0.cell.1;obtain⟨ay,cR,da⟩:=zb8 vb (T:=205) (E:=256) oe (w:=A.drew) (a0.allMap.blk rfl) ⟨i.id.c,i.id.k+1⟩ (zo wr);have cy:=a0.keep (W':=A.drew) (zU _) (fun e _=>rfl);have a6:=cy.putAll ⟨i.id.c,i.id.k+1⟩ (c+b) bD (o:=ay) (by rw[cO.o];exact da);have ba:Mods (zy n L D) w (xF A.drew (n+4) ay):=⟨ao.os,ao.tape,ao.output,by rw[vH];exact ao.size,fun k v aw=>(qV (w:=A.drew) (fun d=>aw (.inl d))).trans (ao.block k v aw)⟩;have bi:zG w 256 1 z6 (xF A.drew (n+4) ay) (.slice an b ag) ((List.range' c b).map j.bl):=xI bX fun e d=>qV (w:=A.drew) (by have:=(ya bX e d).1;omega);have ci:(xF A.drew (n+4) ay).heap.size=A:=(by rw[vH];rfl);clear da a0 cy cH bX aa ao X cT cG I bo dm c6 cj c9 ah cL cl bh cY cX bu bS bC bt d2;unfold xV zo at cR;refine xU 10 [0,1,2,3,4,5,6,7,8,9] [10] zX (aM ?_);refine aR ?_;refine aS ?_;go_wp2;refine xE ?_;generalize xF A.drew (n+4) ay=M at a6 ba bi ci ⊢;clear cR u0 u1 d1;have eC:=zA ci;have bN:=zA cv;have du:=zA bp;clear ci dn ct cv bp;obtain⟨eh,dh,dP,dj,dV⟩:=yI zen;have ee:=ba.size;have cs:(M.alloc (.cells #[.pointer (some ⟨wr.heap.size,0,none⟩)] 256)).cell? ⟨M.heap.size,0,none⟩=some (zo wr.heap.size):=(by unfold zo;go_simp);obtain⟨cx,b4⟩:=aX (((List.range' c b).map j.bl).flatMap z6);have bJ:(M.alloc (.cells #[.pointer (some ⟨wr.heap.size,0,none⟩)] 256)).ownsRow w.heap.size 256 1 (.slice an b ag) b cx:=(by rw[b4];have y:zG w.heap.size 256 1 z6 (M.alloc (.cells #[.pointer (some ⟨wr.heap.size,0,none⟩)] 256)) (.slice an b ag) ((List.range' c b).map j.bl):=xI bi fun e d=>yV _ _ _ (xJ bi e d);unfold zG at y;rw[ab] at y;exact y);have dT:=zA b4;have ek:b<=50000:=oa;have eD:w.heap.size<=M.heap.size:=ee;clear b4 bi ab;go_wp2_with (at_builtin;refine jL _ rfl _ _ 207 rfl w.heap.size 256 eh (.pointer none) 1 8 zbr dh dP dj dV rfl ol _ b cx rfl bJ ⟨M.heap.size,0,none⟩ 1 1 [zo wr.heap.size] rfl rfl ?f1 ?f2 ?f3 ?f4 ?f5 ?_);case f1=>intro b R K;match b,K with|0,K=>(simp at K;subst K;exact cs)
     case f2=>intro R O;simp at O;subst O;rfl
     case f3=>unfold maxLen;omega
     case f4=>omega
     case f5=>simp;omega
     intro eF aj cA bw _ dN;obtain⟨cr,cN,dg⟩:=ys cA;subst dg;have db:∀e,zy n {s with am:=xT s.am ⟨i.id.c,i.id.k+1⟩ (zo (s.bl (c+b)))} {((qZ D o c b q).newP i.next (some q) (g - b)).setRt q [c+b] with find:=fun R=>if R=⟨i.id.c,i.id.k+1⟩ then some (c+b) else((qZ D o c b q).newP i.next (some q) (g - b)).find R} e->aj.heap[e]?=M.heap[e]?:=fun e x=>(by have y:=a6.foot_lt e x;exact(bw.block e oi (fun d=>(bI.o e x).2 d.symm)).trans (yV _ _ _ y));have cK:M.heap.size<=aj.heap.size:=(by have:=bw.size;simp at this;omega);have cV:=a6.keep cK db;have d8:zG w.heap.size 256 1 z6 aj (.slice cr (b+1) cN) ((List.range' c (b+1)).map s.bl):=(by unfold zG;rw[<-dS.o,qe,<-dT.o];have W:((List.range' c b).map j.bl++[wr.heap.size]).length=b+1:=oh;rw[W];exact cA);have dW:Mods (zy n L D) w aj:=(ba.alloc _).grown bw fun e d=> .inr (ya bJ e d).1;have dQ:∀e,zy n {s with am:=xT s.am ⟨i.id.c,i.id.k+1⟩ (zo (s.bl (c+b)))} (qZ D o c (b+1) (c+b)) e->(zy n L D e\/w.heap.size<=e)/\(Value.slice cr (b+1) cN).ownBlock≠some e:=fun e x=>by
      have bH:zy n {s with am:=xT s.am ⟨i.id.c,i.id.k+1⟩ (zo (s.bl (c+b)))} {((qZ D o c b q).newP i.next (some q) (g - b)).setRt q [c+b] with find:=fun R=>if R=⟨i.id.c,i.id.k+1⟩ then some (c+b) else((qZ D o c b q).newP i.next (some q) (g - b)).find R} e:=x;refine⟨(bI.o e bH).1,fun d=> ?_⟩;rcases dN with Y|Y
      ·exact(bI.o e bH).2 (Y.symm.trans d)
      ·rw[Y] at d;have el:M.heap.size+1=e:=obr;have:=a6.foot_lt e bH;omega
     have bv:(o.nd (c+b)).u.id=⟨i.id.c,i.id.k+1⟩:=(by have:=(cn.o b b1).1;rw[this,dR.o,dH.o];rfl);have dU:zs n base aj {s with am:=xT s.am ⟨i.id.c,i.id.k+1⟩ (zo (s.bl (c+b)))} (qZ D o c (b+1) (c+b)):=cV.congr (by show c+(b+1)=c+b+1;omega) (fun k v=>du.o k v) rfl rfl (fun V=>by
      show(match o.find V with|some k=>if k<c+(b+1) then some k else none|none=>none)=if V=⟨i.id.c,i.id.k+1⟩ then some (c+b) else(match o.find V with|some k=>if k<c+b then some k else none|none=>none)
      by_cases d:V=⟨i.id.c,i.id.k+1⟩
      ·rw[zP d,(z.wf.find_some (k:=c+b)).2 ⟨by rw[a5];omega,by rw[d];exact bv⟩];dsimp only;rw[zP oa]
      ·rw[zN d];cases hf:o.find V with
       |none=>rfl
       |some k=>
        dsimp only;have v:=z.wf.find_some.1 hf;have bL:k≠c+b:=fun b2=>d (by rw[<-v.2,b2];exact bv);by_cases y:k<c+b
        ·rw[zP y,zP oa]
        ·rw[zN y,zN oa])
     clear cV db a6 ba cs bJ bv cK;have cU:(g:Int) - b - 1=(g:Int) - ((b+1:Nat):Int):=oa;have d5:=zA cU;clear cU;go_wp2;go_roundw;case rel=>exact⟨b+1,{s with am:=xT s.am ⟨i.id.c,i.id.k+1⟩ (zo (s.bl (c+b)))},oa,by rw[bN.o];show _=Value.pointer (some (s.bl (c+b)));rw[cO.o],by rw[<-d5.o],d8,by rw[bN.o];exact dU,by rw[bN.o];exact dQ,ds.o,d3.o,dW⟩
     case measure=>simp[intOf];omega
    ·obtain rfl:b=g:=(by omega);have dw:¬((0:Int)<(b:Int) - (b:Int)):=oa;have dD:=a3.size;rcases N.2 with⟨_,d4⟩|⟨bG,dr,ed,av,ep,cS,eA,eH,dp,_⟩
     ·simp at d4;omega
     have dc:=zaP N;have ab:(List.map j.bl (List.range' c b)).length=b:=oh;rw[ab] at av;subst av;obtain⟨b7,bl,H⟩:=ak;have bg:zG base 256 1 z6 wr j.ov (S.order.map j.bl):=(by have y:=H.order;have J:(qZ D o c b (yB p c b)).ord=S.order:=t.ord;rw[J] at y;exact y);have bL:j.ov.ownBlock≠some bG:=fun d=>(I bG (.inr (.inr (.inr (.inl d))))).2 rfl;have c1:S.order.length=c:=(by rw[t.wf.len_eq];exact br.o);have ea:=H.hi;have bb:=zok base j.ov (S.order.map j.bl) ((List.range' c b).map j.bl) (a1+1) b bG dr wr bg (by rw[xk,c1];omega) ab b8 ed 256 cS (fun cC R O=>by
      rw[qw] at O;cases hr:((List.range' c b).map j.bl)[cC]? with
      |none=>rw[hr] at O;cases O
      |some ar=>
       rw[hr] at O;obtain⟨er,eJ,W,_,_,dK⟩:=dc;simp only[ve] at W;obtain⟨W,_,_⟩:=W;obtain⟨eq,cD,dB⟩:=dK cC ar hr;rw[<-W] at cD;cases cD;rw[dB];exact O) bL ea (by rw[xk,c1];omega)
     have b5:(S.order.map j.bl).take (a1+1)++((List.range' c b).map j.bl++(S.order.map j.bl).drop (a1+1))=o.order.map j.bl:=(by obtain⟨aZ,bT,cf⟩:=zfn ((t.wf.mem p).2 (by rw[br.o];exact G));have cZ:=t.wf.place_mid cf;rw[eg.o] at cZ;have y:=z.ord aZ bT cf;rw[br.o] at y;rw[y,cf,cZ];have W:aZ.length+1=(aZ++[p]).length:=oh;rw[show aZ++p::bT=(aZ++[p])++bT by simp,ym,W,<-xk (f:=j.bl),List.take_left,zj4];simp);rw[b5] at bb;have ck:((a1+1:Nat):Int)=(a1:Int)+1:=oa;rw[ck] at bb;obtain⟨cw,co,c2,ax⟩:=zbx bg;rw[ax] at bb bL;have bQ:wr.cell? (n+6,1)=some (.slice cw co c2):=(by rw[<-ax];exact H.m.cell 1 _ rfl);have dv:=H.m.frz 1;have dq:=H.m.frz 4;have bU:wr.cell? (n+6,4)=some (.bool bl):=H.m.cell 4 _ rfl;have ec:=H.m.lt;have dd:(Value.slice cw co c2).ownBlock≠some (n+6):=fun d=>(by rw[<-ax] at d;have:=(ya bg _ d).1;have:=H.lo;omega);have ei:=zA H;have ez:=zA b5;have d9:=zA ax;clear H b5 ax bg dc N ck ab dp cS;go_upto_region 15 with(go_at_call 294;refine bb.mono ?_;rintro d aj ⟨eK,rfl,al⟩;obtain⟨cu,cQ,cW,rfl⟩:=zbx al.1;have bs:=al.2.1.block (n+6) ec (fun d=>dd d.symm);have eB:=(xA (a:=(n+6,1)) bs).trans bQ;have em:=(jY (a:=(n+6,1)) bs).trans dv;have eO:=(xA (a:=(n+6,4)) bs).trans bU;have en:=(jY (a:=(n+6,4)) bs).trans dq);rw[<-d9.o] at al;have dl:=ei.o.setOrd (l:=o.order) al (fun m dZ=>by show m<c+b;rw[<-a5];exact(z.wf.mem m).1 dZ);have dk:=((a3.grown al.2.1 (fun e d=>(I e (.inr (.inr (.inr (.inl d))))).1)).setC (p:=(n+6,1)) (.inl (.inr (.inr (.inl rfl)))) (.slice cu cQ cW)).setC (p:=(n+6,4)) (.inl (.inr (.inr (.inl rfl)))) (.bool false);go_wp2;go_end0;refine⟨rfl,⟨_,_,dl.h,?_,a5.symm,?_⟩,dk⟩
     ·exact {
       wf:=z.wf
       ord:=rfl
       find:=fun V=>by
        show(match o.find V with|some k=>if k<c+b then some k else none|none=>none)=_
        cases hf:o.find V with
        |none=>rfl
        |some k=>
         dsimp only;have:=(z.wf.find_some.1 hf).1;rw[zP oa]
       u:=fun k _=>rfl
       len:=by show _<=c+b;omega
       par:=fun k _=>rfl
       lf:=fun k _=>rfl
       rt:=fun k _=>by
        show(if k=yB p c b then[] else o.rt k)=o.rt k;split
        ·rename_i d;subst d;have a4:yB p c b=c+(b - 1):=(by unfold yB;rw[if_neg (by omega)];omega);have ae:=z.new (b - 1) oa;rw[br.o] at ae;rw[a4];unfold zE.rt;rw[ae];dsimp only;rw[zN oa]
        ·rfl
       sz:=fun k _=>rfl
       root:=by show D.root=_;rw[z.more];exact t.root}
     ·intro e x;rcases x with d|d|d|d|d|⟨k,v,d⟩
      ·exact .inl (.inl d)
      ·exact .inl (.inr (.inl d))
      ·exact .inl (.inr (.inr (.inl d)))
      ·rcases al.2.2 with Y|Y
       ·exact(I e (.inr (.inr (.inr (.inl (Y.symm.trans d)))))).1
       ·rw[show(Value.slice cu cQ cW).ownBlock=some e from d] at Y;cases Y;exact .inr dD
      ·exact(I e (.inr (.inr (.inr (.inr (.inl d)))))).1
      ·exact(I e (.inr (.inr (.inr (.inr (.inr ⟨k,v,d⟩)))))).1
  ·have b6:m<D.len:=(by rw[az.o];exact Z);have aH:=ai.node (D:=D.plusM r g) b6;have c8:(D.plusM r g).par m=(S.nd m).par:=t.par m Z;rw[c8] at aH;have b9:m ∉ r:=(by rw[aP,yv] at ch;intro b8;exact ch.2.2 m b8 m oh rfl);have dx:(D.plusM r g).sz m<=60000:=(by show D.sz m+_<=_;rw[zN b9,t.sz m Z];obtain⟨_,d7,_,ew,d6,dY,_⟩:=t.wf.has_walk Z;rw[dY];have:=t.wf.len_eq;rw[d6] at this;simp at this;omega);have cM:=ai.setSz b6 ((D.plusM r g).sz m+g);have cI:∀{aq:zC},zs n base aq L ((D.plusM r g).setSz m ((D.plusM r g).sz m+g))->zs n base aq L (D.plusM (r++[m]) g):=fun {aq} ad=>ad.congr rfl (fun k _=>⟨rfl,rfl,rfl,rfl,by
    show D.sz k+_=zm (D.plusM r g).sz m _ k;by_cases d:k=m
    ·subst d;rw[xR];show _=D.sz k+_+g;rw[zP oh,zN b9];rfl
    ·rw[z8 _ _ d];show _=D.sz k+_;have:k∈r++[m]↔k∈r:=jj;by_cases ae:k∈r
     ·rw[zP ae,zP (this.2 ae)]
     ·rw[zN ae,zN fun b2=>ae (this.1 b2)]⟩) rfl rfl (fun _=>rfl)
   have bP:=cI cM;clear cM cI;have cg:=b0.setC (p:=(L.bl m,9)) (.inl (.inr (.inr (.inr (.inr (.inr ⟨m,b6,.inl rfl⟩)))))) (zB (((D.plusM r g).sz m+g:Nat):Int));have di:wr.cell? (L.bl m,9)=(zB ((D.plusM r g).sz m)):=aH.cell 9 _ rfl;have es:=aH.frz 9;have bO:=aH.setS (((D.plusM r g).sz m+g:Nat):Int);generalize(D.plusM r g).sz m=a7 at di bP cg dx bO;have bq:(wr.setCell (L.bl m,9) (zB ((a7:Int)+g))).cell? (L.bl m,6)=some (xs L (S.nd m).par):=bO.cell 6 _ rfl;have c0:zs n base (wr.setCell (L.bl m,9) (zB ((a7:Int)+g))) L (D.plusM (r++[m]) g):=bP;have cq:Mods (zy n L D) w (wr.setCell (L.bl m,9) (zB ((a7:Int)+g))):=cg;have au:=t.wf.anc_eq Z;have bm:bc=(r++[m])++S.anc m:=(by rw[aP];simp);have cF:(zcX L S.l.length (L.bl m))=m:=(by obtain⟨b7,bl,ad⟩:=ai;exact zeq ad (by show S.l.length<=D.len;rw[az.o];exact zU _) Z);clear bP cg bO aH aP c8 b9 ce b3;cases hpr:(S.nd m).par with
   |none=>
    rw[hpr] at bq au;have a2:xs L none= .pointer none:=rfl;rw[a2] at bq;have bB:=zA bm;have bR:=zA au;clear bm au hpr a2;go_wp2;go_roundw;case rel=>exact⟨r++[m],_,bB.o,.inl ⟨bR.o,rfl⟩,c0,cq⟩
    case measure=>rw[zeo,cF];simp[zf3]
   |some q=>
    have ev:=t.wf.parlt m q Z hpr;rw[hpr] at bq au;have a2:xs L (some q)=(L.bl q):=rfl;rw[a2] at bq;have dF:(zcX L S.l.length (L.bl q))=q:=(by obtain⟨b7,bl,ad⟩:=ai;exact zeq ad (by show S.l.length<=D.len;rw[az.o];exact zU _) oa);have bB:=zA bm;have bR:=zA au;clear bm au hpr a2;go_wp2;go_roundw;case rel=>exact⟨r++[m],_,bB.o,.inr ⟨q,oa,bR.o,rfl⟩,c0,cq⟩
    case measure=>rw[zeo,zeo,cF,dF];omega
theorem zv1 (f i:Nat) (x:zF) (d a b:Int) (w:zC) (u0:w.cell? f=d) (u1:w.cell? (f,1)=a) (r:w.cell? i=(zB b)) (y:f<w) (v:i<w)
 (u:0<=a/\a<=9007199254740991) (p:0<=b/\b<=9007199254740992) (g:¬(x.c=d/\a<x.k/\x.k<a+b)):
 Calls zD 260 #[.agg #[x.c,x.k],f,i] w fun n m=>n= .returned (.bool false)/\Below w w m:=by
 have s:IntKind.u64.wrap b=b:=og;have t:IntKind.u64.wrap (a+b)=a+b:=og;by_cases c:x.c=d
 ·by_cases e:a<x.k
  ·have j:¬x.k<a+b:=fun h=>g ⟨c,e,h⟩;have k:decide (x.c=d)=true:=obg;have o:decide (a<x.k)=true:=oaZ;have q:decide (x.k<a+b)=false:=(by simpa using j);have l:(x.c==d)=true:=obg;clear g c e j;go_enter zkC,zkD;go_wp2;go_ret;exact⟨by simp[*],aB⟩
  ·have k:decide (x.c=d)=true:=(by simpa using c);have o:decide (a<x.k)=false:=oaZ;have l:(x.c==d)=true:=obg;clear g c e;go_enter zkC,zkD;go_wp2;go_ret;exact⟨by simp[*],aB⟩
 ·have k:decide (x.c=d)=false:=by simpa using c
  have l:(x.c==d)=false:=obg;clear g c;go_enter zkC,zkD;go_wp2;go_ret;exact⟨by simp[*],aB⟩
theorem zos (n base:Nat) (F:Nat->Prop) (S:zE) (u:zV) (d:Nat) (w:World) (h:qA n base F w S) (ac:S.may u=true) (ci:1<=d) (b8:(d:Int)<=9007199254740991 - u.id.k+1)
 (ba:∀i:Nat,i<d->(⟨u.id.c,u.id.k+i⟩:zF).rightB=true/\S.find ⟨u.id.c,u.id.k+i⟩=none) (ch:S.l.length+d<=50000):
 Calls Tryz.prog 222 #[.pointer (some ⟨n+6,0,none⟩),.agg #[.int .u64 u.id.c,.int .u64 u.id.k,.int .u64 u.left.c,.int .u64 u.left.k,.int .u64 u.right.c,.int .u64 u.right.k],.int .i64 d] w fun b W=>
  b= .returned (.bool true)/\qA n base (fun a=>F a\/w.heap.size<=a) W (S.insN u d)/\Mods F w W:=by
 obtain⟨K,N,au,az,a3,hF⟩:=h
 obtain⟨E,M,a8,hnr,bY⟩:=zE.may_iff.1 ac
 have C:∀w,Calls zD 142 #[.agg #[u.id.c,u.id.k]] w fun b W=>b= .returned (.bool true)/\Below w w W:=fun w=>by have:=zcg u.id w;rwa[E] at this
 have b9:∀(bf:Fn) (first br:Array Value) (w:zC),(Instr.makeFunc bf first br).run zD w= .ok (.func bf first br) w:=fun _ _ _ _=>rfl
 have cc:=au.lt
 have b3:1<=u.id.k/\u.id.k<=9007199254740991:=by simp[zF.rightB,xi] at E;omega
 have cj:IntKind.u64.wrap (d:Int)=d:=og
 have bH:IntKind.u64.wrap (9007199254740991 - u.id.k)=9007199254740991 - u.id.k:=og
 have bF:IntKind.u64.wrap (9007199254740991 - u.id.k+1)=9007199254740991 - u.id.k+1:=og
 have bW:¬((d:Int)<1):=oa
 have bJ:¬(9007199254740991 - u.id.k+1<(d:Int)):=oa
 have X:=zA ba
 have B:=zA az
 have b1:=zA a3
 have L:=zA ac
 have R:=zA hF
 have bP:=zA (show ∀a,zy n K N a->a<w.heap.size from au.foot_lt)
 clear ba a3 hF a8 hnr bY E M
 have a4:=fun w h=>zvu n base K N S u w h az ac
 clear az ac
 go_enter Tryz.func222,Tryz.ntmps222
 go_upto_region 1 with fail
 generalize ao:World.alloc _ _=D
 obtain⟨ae,-,an,-⟩:=aJ ao
 have t:∀k v,(#[Value.int .u64 u.id.c,.int .u64 u.id.k,.int .u64 u.left.c,.int .u64 u.left.k,.int .u64 u.right.c,.int .u64 u.right.k])[k]?=some v->D.cell? ⟨w.heap.size,k,none⟩=some v:=by subst ao;exact fun k v s=>(zk9 w _ _ _ _ k).1.trans s
 have bm:=aC an 0
 have a9:=aL an
 clear ao an
 have u0:=t 0 _ rfl
 have u1:=t 1 _ rfl
 have u2:=t 2 _ rfl
 have u3:=t 3 _ rfl
 have u4:=t 4 _ rfl
 have u5:=t 5 _ rfl
 have bv:=au.below ae
 have aP:=zA fun m (hb:Below D.heap.size D m)=>a4 m (bv.below hb)
 have bI:(!true)=false:=rfl
 clear a4
 go_upto_region 3 with(first|(go_at_call 142;refine(C _).mono ?_;rintro b m ⟨rfl,f⟩;have e:w.heap.size<D.heap.size:=oa;have a0:=(f.cell (p:=⟨w.heap.size+1,0,none⟩) a9).trans bm;have bG:=(f.cell (p:=⟨w.heap.size,0,none⟩) e).trans u0;have bT:=(f.cell (p:=⟨w.heap.size,1,none⟩) e).trans u1;have bV:=(f.cell (p:=⟨w.heap.size,2,none⟩) e).trans u2;have bL:=(f.cell (p:=⟨w.heap.size,3,none⟩) e).trans u3;have ax:=(f.cell (p:=⟨w.heap.size,4,none⟩) e).trans u4;have ag:=(f.cell (p:=⟨w.heap.size,5,none⟩) e).trans u5)|(go_at_call 259;refine(aP.o _ f).mono ?_;rintro b r ⟨rfl,aw,O⟩))
 have bA:∀a,qC n a->F a:=fun a hb=>R.o a oan
 have ay:∀a,w.heap.size<=a->¬qC n a:=fun a hb q=>by unfold qC at q;omega
 have bM:D.heap.size<=r.heap.size:=by have:=f.size;have:=O.size;omega
 have bs:w.heap.size+1<r.heap.size:=oa
 have bj:Mods F w r:=(Mods.of_below (ae.trans (f.mono ae.size))).trans (O.mono bA)
 have H:∀k v,(#[Value.int .u64 u.id.c,.int .u64 u.id.k,.int .u64 u.left.c,.int .u64 u.left.k,.int .u64 u.right.c,.int .u64 u.right.k])[k]?=some v->r.cell? ⟨w.heap.size,k,none⟩=some v:=fun k v s=>(xA (w:=m) (O.block w.heap.size (by have:=f.size;omega) (ay _ (zU _)))).trans ((f.cell (p:=⟨w.heap.size,k,none⟩) e).trans (t k v s))
 have bl:r.cell? ⟨w.heap.size+1,0,none⟩=some (.int .i64 d):=(xA (w:=m) (O.block (w.heap.size+1) (by have:=f.size;omega) (ay _ oa))).trans a0
 clear aP f O bm a0 bG bT bV bL ax ag u0 u1 u2 u3 u4 u5 t ae a9 e bv bM C bW bJ bI D m bA ay bH bF
 have bE:∀c:zM r,c.val.cell? w=u.id.c:=zM.cell oq (H 0 _ rfl)
 have bz:∀c:zM r,c.val.cell? (w,1)=u.id.k:=zM.cell oq (H 1 _ rfl)
 go_upto_region 4 with fail
 go_loopw [34] (fun i wx=>∃k:Nat,k<=d/\i=zB k/\Below r r wx) (fun i _=>d - (intOf i).toNat)
 case atStart=>exact⟨0,oa,rfl,zf _ _⟩
 case round=>
  obtain⟨k,s,rfl,l⟩:=hrel;by_cases bQ:k<d
  ·have cd:(k:Int)<(d:Int):=(by omega);have J:=aw.below l;have aH:=l.size;have aq:∀c:zM wr,c.val.cell? w=u.id.c:=zM.cell oq ((l.cell (p:=w) oq).trans (H 0 _ rfl));have ap:∀c:zM wr,c.val.cell? (w,1)=u.id.k:=zM.cell oq ((l.cell (p:=(w,1)) oq).trans (H 1 _ rfl));have bn:=aU J.cell.1;have cg:IntKind.u64.wrap (k:Int)=k:=og;have ca:IntKind.u64.wrap (u.id.k+(k:Int))=u.id.k+k:=og;have bu:∀c:zM wr,(Instr.lookup 205 (.map (some (n+4))) (.agg #[u.id.c,(u.id.k+k:)]) false).run zD c.val= .ok (.pointer none) c.val:=fun c=>(by have:=zep (J.below c.h) ⟨u.id.c,u.id.k+k⟩;rw[B.o.find,(X.o k bQ).2] at this;exact this);clear bE bz;go_upto_region 6 with fail;refine aQ ?_;intro W' hC' hBW';clear aq ap bn bu;go_wp2;exact⟨⟨k+1,oa,ou,l.trans (hBW'.mono aH)⟩,oY⟩
  ·obtain rfl:k=d:=(by omega);have J:=aw.below l;have aH:=l.size;have x:∀k v,(#[Value.int .u64 u.id.c,.int .u64 u.id.k,.int .u64 u.left.c,.int .u64 u.left.k,.int .u64 u.right.c,.int .u64 u.right.k])[k]?=some v->wr.cell? ⟨w.heap.size,k,none⟩=some v:=fun k v s=>(l.cell (p:=⟨w.heap.size,k,none⟩) oq).trans (H k v s);have al:=(l.cell (p:=⟨w.heap.size+1,0,none⟩) bs).trans bl;have bw:=bj.trans (Mods.of_below l);have ai:w.heap.size+1<wr.heap.size:=oa;clear bE bz l H bl bj bs aH aw;have u0:=x 0 _ rfl;have u1:=x 1 _ rfl;have u2:=x 2 _ rfl;have u3:=x 3 _ rfl;have u4:=x 4 _ rfl;have u5:=x 5 _ rfl;have e:w.heap.size<wr.heap.size:=oa;obtain⟨_,_,a8,hnr,_⟩:=zE.may_iff.1 L.o;have bD:∀g,S.named g=true->¬(g.c=u.id.c/\u.id.k<g.k/\g.k<u.id.k+(k:Int)):=fun g Y q=>by
    simp only[zE.named,qx,xW] at Y;rcases Y with b|b
    ·subst b;have:=q.2.1;simp[zT] at this;omega
    ·obtain⟨i,aj⟩:∃i:Nat,g.k=u.id.k+i:=⟨(g.k - u.id.k).toNat,oa⟩;have h1:=(X.o i oa).2;rw[show(⟨u.id.c,u.id.k+i⟩:zF)=g by cases g;simp at aj q ⊢;exact⟨q.1.symm,aj.symm⟩] at h1;rw[h1] at b;simp at b
   have bi:=zA fun g (Y:S.named g=true) m (hb:Below wr.heap.size wr m)=>zv1 w.heap.size (w.heap.size+1) g u.id.c u.id.k k m ((hb.cell (p:=⟨w.heap.size,0,none⟩) e).trans u0) ((hb.cell (p:=⟨w.heap.size,1,none⟩) e).trans u1) ((hb.cell (p:=⟨w.heap.size+1,0,none⟩) ai).trans al) oao oao oa oa (bD g Y);clear bD;have o:=zf wr.heap.size wr;go_upto_region 12 with(first|(go_at_call 260;refine(bi.o _ oC _ oC).mono ?_;rintro b w3 ⟨rfl,bt⟩;have o:=Below.trans oC (bt.mono (Below.size oC));have ax:=(o.cell (p:=⟨w.heap.size,4,none⟩) e).trans u4;have ag:=(o.cell (p:=⟨w.heap.size,5,none⟩) e).trans u5));have bo:=J.below o;have b6:=o.size;have a2:=bw.trans (Mods.of_below o);have z:∀k v,(#[Value.int .u64 u.id.c,.int .u64 u.id.k,.int .u64 u.left.c,.int .u64 u.left.k,.int .u64 u.right.c,.int .u64 u.right.k])[k]?=some v->w3.cell? ⟨w.heap.size,k,none⟩=some v:=fun k v s=>(o.cell (p:=⟨w.heap.size,k,none⟩) e).trans (x k v s);have bh:=(o.cell (p:=⟨w.heap.size+1,0,none⟩) ai).trans al;have bp:=zv0 n base (zy n K N) S u w3 ⟨K,N,bo,B.o,b1.o,fun a h=>h⟩ L.o oa;have bS:w.heap.size+1<w3.heap.size:=oa;clear bi bt o ax ag u0 u1 u2 u3 u4 u5 x al bw J bo e ai;have u0:=z 0 _ rfl;have u1:=z 1 _ rfl;have u2:=z 2 _ rfl;have u3:=z 3 _ rfl;have u4:=z 4 _ rfl;have u5:=z 5 _ rfl;go_upto_region 13 with(go_at_call 261;refine bp.mono ?_;rintro b y ⟨rfl,bC,G⟩);have b2:=G.size;have aa:∀a,w.heap.size<=a->¬zy n K N a:=fun a hb q=>(by have:=bP.o a q;omega);have bZ:y.cell? (w.heap.size+1:)=(zB k):=(xA (w:=w3) (G.block (w.heap.size+1) bS (aa _ oa))).trans bh;have aq:y.cell? w=u.id.c:=(xA (w:=w3) (G.block w oa (aa _ (zU _)))).trans u0;have ap:y.cell? (w,1)=u.id.k:=(xA (w:=w3) (G.block w oa (aa _ (zU _)))).trans u1;have A:Mods F w y:=a2.trans (G.mono R.o);clear u0 u1 u2 u3 u4 u5 bp bh z G a2 aa;by_cases bd:k=1
   ·subst bd;go_wp2;go_ret;refine⟨rfl,?_,A⟩;obtain⟨ad,af,am,ah,ar,ak⟩:=bC;exact⟨ad,af,am,ah,ar,fun a hb=>(ak a hb).imp (R.o a) (fun b=>oa)⟩
   ·obtain⟨ad,af,Z,a6,bN,bb⟩:=bC;obtain⟨E,M,_,_,_⟩:=zE.may_iff.1 L.o;obtain⟨cb,b4,bX,bU,ab,j⟩:=zE.ins_any B.o.wf E M;have bq:S.l.length<(S.ins u).l.length:=(by rw[j.len];omega);have T:((S.ins u).nd S.l.length).u=u:=j.newu;have a1:zc7 (S.ins u) S.l.length u.next:={
     pl:=bq
     lf0:=j.newl
     rt0:=j.newr
     left:=by unfold zE.uid;rw[T];rfl
     right:=by
      obtain⟨_,_,_,hnr,_⟩:=zE.may_iff.1 L.o;simp only[zE.named,qx,xW] at hnr;rcases hnr with b|b
      ·exact .inl b
      ·obtain⟨bB,C⟩:=zbH.1 b;refine .inr ⟨bB,?_,zE.ins_ahead B.o.wf L.o C⟩;show(S.ins u).find u.right=some bB;rw[j.find B.o.wf ab,zN]
       ·exact C
       ·intro av;rw[av,M] at C;cases C}
    have bg:zaw (S.ins u) S.l.length u.next (k - 1) ((S.ins u).insN u.next (k - 1)):=zE.insN_spec (k - 1) (S.ins u) S.l.length u.next ab a1 fun i aj=>by
     have h1:=X.o (i+1) oa;have b:(⟨u.next.id.c,u.next.id.k+(i:Int)⟩:zF)=⟨u.id.c,u.id.k+((i+1:Nat):Int)⟩:=(by simp[zV.next];omega);rw[b];refine⟨h1.1,?_⟩;rw[j.find B.o.wf ab,zN]
     ·exact h1.2
     ·intro av;have:=congrArg zF.k av;simp at this;omega
    have bc:zaw (S.ins u) S.l.length ((S.ins u).nd S.l.length).u.next (k - 1) ((S.ins u).insN u.next (k - 1)):=(by rw[T];exact bg);have a7:=zvZ n base ad af (S.ins u) S.l.length (k - 1) y.drew (Z.keep (zU _) (fun a _=>rfl)) a6 bN bq j.newl j.newr _ bc oa (by rw[j.len];omega) (by have:=(X.o (k - 1) oa).1;unfold zE.uid;rw[T];simp[zF.rightB,xi] at this;omega);have be:af.find u.id=some S.l.length:=(by rw[a6.find,j.find B.o.wf ab,zP rfl]);have a5:((k - 1:Nat):Int)=(k:Int) - 1:=oa;rw[a5] at a7;have b7:=aV aq;have cl:=aV ap;have ck:=aV bZ;have bn:=aV Z.cell.1;have bu:∀c:zI zX y,(Instr.lookup 205 (.map (some (n+4))) (.agg #[u.id.c,u.id.k]) false).run zD c.val= .ok (ad.bl S.l.length) c.val:=fun c=>(by have:=zep (Z.keep c.h.size fun a hb=>c.h.block a (Z.foot_lt a hb) id) u.id;rw[be] at this;exact this);have ce:(1:Int)<(k:Int):=oa;have b5:=zA T;clear j a1 bg bc bX bU be a5 T E M bd;go_upto_region 14 with fail;refine xU 10 [0,1,2,3,4,5,6,7,8,9] [10] zX (aM ?_);refine aR ?_;refine aS ?_;go_wp2_with (go_at_call 262;refine a7.mono ?_;rintro b cf ⟨rfl,b0,V⟩);refine xE ?_;go_wp2;go_ret;have bO:S.insN u k=(S.ins u).insN u.next (k - 1):=(by obtain⟨bx,rfl⟩:∃bx,k=bx+1:=⟨k - 1,oa⟩;rfl);refine⟨rfl,?_,?_⟩
    ·rw[bO];obtain⟨bK,bR,am,ah,ar,ak⟩:=b0;refine⟨bK,bR,am,ah,ar,fun a hb=> ?_⟩;rcases ak a hb with h1|h1
     ·rcases bb a h1 with I|I
      ·exact .inl (R.o a I)
      ·right;omega
     ·have:y<=a:=h1;right;omega
    ·refine⟨V.os.trans A.os,V.tape.trans A.tape,V.output.trans A.output,zk A.size V.size,fun a hb aZ=> ?_⟩;refine(V.block a (by have:=A.size;show a<y;omega) fun q=> ?_).trans (A.block a hb aZ);rcases bb a q with I|I
     ·exact aZ (R.o a I)
     ·omega
theorem zG.rowP{base:Nat}{w:zC}{v:zJ}{l:List Nat}(h:zG base 256 1 z6 w v l):zc 1 z6 w v l:=zG.slice (k:=1) (enc:=z6) (fun _=>rfl) h
def u71:zV:=⟨⟨7,1⟩,zT,zT⟩
def u72:zV:=⟨⟨7,2⟩,⟨7,1⟩,zT⟩
end Go.Proofs.YtimlgcodecgecaaGreatDoor
