/- Walk: put: a unit is laid in any sequence. -/
import Derived.Test.YtimlgcodecgecaaGreatDoorZ18
import Derived.Maps.RangeRun
set_option maxRecDepth 100000
set_option maxHeartbeats 20000000
set_option linter.all false
namespace Go.Proofs.YtimlgcodecgecaaGreatDoor
open Go.RowKit Go.Lib
def qA(n base:Nat)(F:Nat->Prop)(w:zC)(S:zE):Prop:=∃L D,zs n base w L D/\qQ D S/\D.len=S.l.length/\∀b,zy n L D b->F b
structure ziA(D:zp)(S S':zE):Prop where
 len:D.len=S'.l.length
 u:∀k,k<S'.l.length->D.u k=(S'.nd k).u
 par:∀k,k<S'.l.length->D.par k=(S'.nd k).par
 lf:∀k,k<S'.l.length->D.lf k=S'.lf k
 rt:∀k,k<S'.l.length->D.rt k=S'.rt k
 root:D.root=S'.more
 ord:D.ord=S.order
 find:∀x,D.find x=S.find x
 sz:∀k,k<S.l.length->D.sz k=S.sz k
 szN:D.sz S.l.length=1
theorem zoq{D:zp}{S:zE}{u:zV}{r:Nat}(d:qQ D S)(f:D.len=S.l.length)(l:S.lpar u=some r)(i:r<S.l.length)(j:(S.ins u).l.length=S.l.length+1):
 ziA (((D.new u).setPar S.l.length (some r)).setLf r ((xh S u (S.lf r)).1++S.l.length::(xh S u (S.lf r)).2)) S (S.ins u):=by
 obtain⟨g,k⟩:=zE.ins_nd_left l i;have c:∀a,a<(S.ins u).l.length->a=S.l.length\/a<S.l.length:=fun a b=>oa;refine {len:=by rw[j];show D.len+1=_;rw[f],u:=fun a b=> ?_,par:=fun a b=> ?_,lf:=fun a b=> ?_,rt:=fun a b=> ?_,root:=by rw[k];exact d.root,ord:=d.ord,find:=d.find,sz:=fun a b=> ?_,szN:= ?_}
 ·show zm D.u D.len u a=_;rw[f,g];rcases c a b with rfl|e
  ·rw[xR,zP rfl]
  ·rw[z8 _ _ oa,zN oa,d.u a e];split
   ·rename_i c;subst c;rfl
   ·rfl
 ·show zm (zm D.par D.len none) S.l.length (some r) a=_;rw[f,g];rcases c a b with rfl|e
  ·rw[xR,zP rfl]
  ·rw[z8 _ _ oa,z8 _ _ oa,zN oa,d.par a e];split
   ·rename_i c;subst c;rfl
   ·rfl
 ·show zm (zm D.lf D.len []) r _ a=_;unfold zE.lf;rw[f,g];rcases c a b with rfl|e
  ·rw[z8 _ _ oa,xR,zP rfl]
  ·rw[zN oa];by_cases h:a=r
   ·subst h;rw[xR,zP rfl];rfl
   ·rw[z8 _ _ h,z8 _ _ oa,zN h,d.lf a e];rfl
 ·show zm D.rt D.len [] a=_;unfold zE.rt;rw[f,g];rcases c a b with rfl|e
  ·rw[xR,zP rfl]
  ·rw[z8 _ _ oa,zN oa,d.rt a e];split
   ·rename_i c;subst c;rfl
   ·rfl
 ·show zm D.sz D.len 1 a=_;rw[z8 _ _ oa,d.sz a b]
 ·show zm D.sz D.len 1 _=_;rw[f,xR]
theorem zor{D:zp}{S:zE}{u:zV}{r:Nat}(d:qQ D S)(f:D.len=S.l.length)(m:S.lpar u=none)(l:S.find u.left=some r)(i:r<S.l.length)(j:(S.ins u).l.length=S.l.length+1):
 ziA (((D.new u).setPar S.l.length (some r)).setRt r ((xM S u (S.rt r)).1++S.l.length::(xM S u (S.rt r)).2)) S (S.ins u):=by
 obtain⟨g,k⟩:=zE.ins_nd_right m l i;have c:∀a,a<(S.ins u).l.length->a=S.l.length\/a<S.l.length:=fun a b=>oa;refine {len:=by rw[j];show D.len+1=_;rw[f],u:=fun a b=> ?_,par:=fun a b=> ?_,lf:=fun a b=> ?_,rt:=fun a b=> ?_,root:=by rw[k];exact d.root,ord:=d.ord,find:=d.find,sz:=fun a b=> ?_,szN:= ?_}
 ·show zm D.u D.len u a=_;rw[f,g];rcases c a b with rfl|e
  ·rw[xR,zP rfl]
  ·rw[z8 _ _ oa,zN oa,d.u a e];split
   ·rename_i c;subst c;rfl
   ·rfl
 ·show zm (zm D.par D.len none) S.l.length (some r) a=_;rw[f,g];rcases c a b with rfl|e
  ·rw[xR,zP rfl]
  ·rw[z8 _ _ oa,z8 _ _ oa,zN oa,d.par a e];split
   ·rename_i c;subst c;rfl
   ·rfl
 ·show zm D.lf D.len [] a=_;unfold zE.lf;rw[f,g];rcases c a b with rfl|e
  ·rw[xR,zP rfl]
  ·rw[z8 _ _ oa,zN oa,d.lf a e];split
   ·rename_i c;subst c;rfl
   ·rfl
 ·show zm (zm D.rt D.len []) r _ a=_;unfold zE.rt;rw[f,g];rcases c a b with rfl|e
  ·rw[z8 _ _ oa,xR,zP rfl]
  ·rw[zN oa];by_cases h:a=r
   ·subst h;rw[xR,zP rfl];rfl
   ·rw[z8 _ _ h,z8 _ _ oa,zN h,d.rt a e];rfl
 ·show zm D.sz D.len 1 a=_;rw[z8 _ _ oa,d.sz a b]
 ·show zm D.sz D.len 1 _=_;rw[f,xR]
theorem zvx{D:zp}{S:zE}{u:zV}(c:qQ D S)(e:D.len=S.l.length)(k:S.lpar u=none)(j:S.find u.left=none)(h:(S.ins u).l.length=S.l.length+1):
 ziA (((D.new u).setPar S.l.length none).setRoot ((xM S u S.more).1++S.l.length::(xM S u S.more).2)) S (S.ins u):=by
 obtain⟨f,i⟩:=zE.ins_nd_root k j;have g:∀a,a<(S.ins u).l.length->a=S.l.length\/a<S.l.length:=fun a b=>oa;refine {len:=by rw[h];show D.len+1=_;rw[e],u:=fun a b=> ?_,par:=fun a b=> ?_,lf:=fun a b=> ?_,rt:=fun a b=> ?_,root:=by rw[i];rfl,ord:=c.ord,find:=c.find,sz:=fun a b=> ?_,szN:= ?_}
 ·show zm D.u D.len u a=_;rw[e,f];rcases g a b with rfl|d
  ·rw[xR,zP rfl]
  ·rw[z8 _ _ oa,zN oa,c.u a d]
 ·show zm (zm D.par D.len none) S.l.length none a=_;rw[e,f];rcases g a b with rfl|d
  ·rw[xR,zP rfl]
  ·rw[z8 _ _ oa,z8 _ _ oa,zN oa,c.par a d]
 ·show zm D.lf D.len [] a=_;unfold zE.lf;rw[e,f];rcases g a b with rfl|d
  ·rw[xR,zP rfl]
  ·rw[z8 _ _ oa,zN oa,c.lf a d];rfl
 ·show zm D.rt D.len [] a=_;unfold zE.rt;rw[e,f];rcases g a b with rfl|d
  ·rw[xR,zP rfl]
  ·rw[z8 _ _ oa,zN oa,c.rt a d];rfl
 ·show zm D.sz D.len 1 a=_;rw[z8 _ _ oa,c.sz a b]
 ·show zm D.sz D.len 1 _=_;rw[e,xR]
theorem qQ.new{D:zp}{S:zE}(a:qQ D S)(b:D.len=S.l.length)(u:zV):qQ (D.new u) S where
 wf:=a.wf
 ord:=a.ord
 find:=a.find
 u k hk:=by show zm D.u D.len u k=_;rw[z8 _ _ (by omega)];exact a.u k hk
 len:=by show S.l.length<=D.len+1;omega
 par k hk:=by show zm D.par D.len none k=_;rw[z8 _ _ (by omega)];exact a.par k hk
 lf k hk:=by show zm D.lf D.len [] k=_;rw[z8 _ _ (by omega)];exact a.lf k hk
 rt k hk:=by show zm D.rt D.len [] k=_;rw[z8 _ _ (by omega)];exact a.rt k hk
 sz k hk:=by show zm D.sz D.len 1 k=_;rw[z8 _ _ (by omega)];exact a.sz k hk
 root:=a.root
theorem zs.new{n base:Nat}{W:World}{L:xC}{D:zp}(a:zs n base W L D)(u:zV){b:Nat}(d:W.heap.size<=b){W':World}(g:W.heap.size<=W'.heap.size)(e:∀c,c<W.heap.size->W'.heap[c]?=W.heap[c]?)(i:xa W' b u (.pointer none) (.slice none 0 0) (.slice none 0 0) 1):
 zs n base W' (L.new D.len b) (D.new u):=by
 obtain⟨f,h,a⟩:=a;exact⟨f,h,a.new u d g e i⟩
theorem zy.new{n:Nat}{L:xC}{D:zp}{u:zV}{b k:Nat}(e:zy n (L.new D.len b) (D.new u) k):zy n L D k\/k=b:=by
 rcases e with a|a|a|a|a|⟨c,f,a⟩
 ·exact .inl (.inl a)
 ·exact .inl (.inr (.inl a))
 ·exact .inl (.inr (.inr (.inl a)))
 ·exact .inl (.inr (.inr (.inr (.inl a))))
 ·exact .inl (.inr (.inr (.inr (.inr (.inl a)))))
 ·have g:c<D.len+1:=f;replace a:k=zm L.bl D.len b c\/(zm L.lv D.len () c).ownBlock=some k\/(zm L.mv D.len () c).ownBlock=some k:=a;by_cases d:c=D.len
  ·subst d;rw[xR,xR,xR] at a;rcases a with a|a|a
   ·exact .inr a
   ·cases a
   ·cases a
  ·rw[z8 _ _ d,z8 _ _ d,z8 _ _ d] at a;exact .inl (.inr (.inr (.inr (.inr (.inr ⟨c,oa,a⟩)))))
theorem zvy(n base:Nat)(L:xC)(D:zp)(S:zE)(k t:Nat)(w:zC)(a:zs n base w L D)(d:qQ D S)(e:k<S.l.length)(h:t<S.l.length):
 Calls zD 291 #[(n+6:),(L.bl k),(L.bl t)] w fun g f=>g= .returned (.bool (decide (t∈S.anc k)))/\f=w:=by
 obtain⟨b,c,a⟩:=a;exact zv5 n base {L with om:=b,fr:=c} D S k t w a d e h
def zp.plus(D:zp)(l:List Nat):zp:={D with sz:=fun k=>D.sz k+if k∈l then 1 else 0}
theorem zs.congr{n base:Nat}{W:zC}{L:xC}{D b:zp}(c:zs n base W L D)(e:b.len=D.len)(j:∀a,a<D.len->b.u a=D.u a/\b.par a=D.par a/\b.lf a=D.lf a/\b.rt a=D.rt a/\b.sz a=D.sz a)(e2:b.ord=D.ord)(g:b.root=D.root)(f:∀d,b.find d=D.find d):zs n base W L b:=by obtain⟨h,i,c⟩:=c;exact⟨h,i,c.congr e j e2 g f⟩
def zf3(L:xC)(N:Nat)(v:zJ):Nat:=match v with
 | .pointer (some a)=>zcX L N (.pointer (some a))+1
 |_=>0
theorem zeo(L:xC)(N:Nat)(a:Addr):zf3 L N (.pointer (some a))=zcX L N (.pointer (some a))+1:=rfl
def zvz(n base:Nat)(L:xC)(D:zp)(S:zE)(u:zV)(W:zC)(z:zJ)(wx:zC):Prop:=
 ∃b a c,ziA b S (S.ins u)/\S.order=a++c/\(S.ins u).order=a++S.l.length::c/\z=zB a.length/\zbw n base L D b W wx
theorem zep{n base:Nat}{W:zC}{L:xC}{D:zp}(a:zs n base W L D)(x:zF):
 (Instr.lookup 205 (.map (some (n+4))) (.agg #[x.c,x.k]) false).run zD W= .ok (xs L (D.find x)) W:=by
 obtain⟨b,c,a⟩:=a;have d:=zh9 a.m x;rw[show({L with om:=b,fr:=c}:xC).am=L.am from rfl] at d;have e:=a.all x;rw[show({L with om:=b,fr:=c}:xC).am=L.am from rfl] at e;rw[e] at d;rw[d];cases D.find x<;> rfl
theorem zv0(n base:Nat)(bO:Nat->Prop)(S:zE)(u:zV)(w:World)(h:qA n base bO w S)(ah:S.may u=true)(cZ:S.l.length<=50000):
 Calls Tryz.prog 261 #[.pointer (some ⟨n+6,0,none⟩),.agg #[.int .u64 u.id.c,.int .u64 u.id.k,.int .u64 u.left.c,.int .u64 u.left.k,.int .u64 u.right.c,.int .u64 u.right.k]] w fun d an=>
  d= .returned (.tuple #[])/\qA n base (fun v=>bO v\/w.heap.size<=v) an (S.ins u)/\Mods bO w an:=by
 obtain⟨ba,B,h,a7,a0,hF⟩:=h
 obtain⟨aP,aj,dc,m,dB⟩:=zE.may_iff.1 ah
 have dj:=h.lt
 have c8:=h.lohi
 have cR:=zA (show ∀v,zy n ba B v->v<w.heap.size from fun v bI=>by obtain⟨bN,bo,ae⟩:=h;exact ae.foot_lt v bI)
 have au:=zA a0
 have a5:=zA a7
 obtain⟨dq,da,aZ,ao,I,K⟩:=zE.ins_any a7.wf aP aj
 have F:=K.len
 go_enter Tryz.func261,Tryz.ntmps261
 go_upto_region 2 with fail
 have ax:Below w w ((w.alloc (.cells #[u.id.c,u.id.k,u.left.c,u.left.k,u.right.c,u.right.k] 133)).alloc (.cells (jE u (.pointer none) () () 1) 258)):=aB
 have am:∀k A,(#[Value.int .u64 u.id.c,u.id.k,u.left.c,u.left.k,u.right.c,u.right.k])[k]?=some A->((w.alloc (.cells #[u.id.c,u.id.k,u.left.c,u.left.k,u.right.c,u.right.k] 133)).alloc (.cells (jE u (.pointer none) () () 1) 258)).cell? (w,k)=some A:=fun k A z=>(zk9 w _ _ _ _ k).1.trans z
 have bh:xa ((w.alloc (.cells #[u.id.c,u.id.k,u.left.c,u.left.k,u.right.c,u.right.k] 133)).alloc (.cells (jE u (.pointer none) () () 1) 258)) (w.heap.size+1) u (.pointer none) () () 1:=by unfold xa;rw[zt,zP oh]
 change Code.wp _ _ _ _ ((w.alloc (.cells #[u.id.c,u.id.k,u.left.c,u.left.k,u.right.c,u.right.k] 133)).alloc (.cells (jE u (.pointer none) () () 1) 258))
 generalize(w.alloc (.cells #[u.id.c,u.id.k,u.left.c,u.left.k,u.right.c,u.right.k] 133)).alloc (.cells (jE u (.pointer none) () () 1) 258)=ai at ax am bh ⊢
 have ag:w.heap.size<ai.heap.size:=by have:=bh.lt;omega
 have ab:=h.new u (b:=w.heap.size+1) oa ax.size (fun k z=>ax.block k z) bh
 have t:=a7.new a0 u
 have a6:(B.new u).len=S.l.length+1:=by show B.len+1=_;rw[a0]
 have a8:=fun k z=>zy.new (n:=n) (L:=ba) (D:=B) (u:=u) (b:=w.heap.size+1) (k:=k) z
 have bx:∀ay,(B.new u).find ay=S.find ay:=a7.find
 have ac:(ba.new B.len (w.heap.size+1)).bl S.l.length=w+1:=by show zm ba.bl B.len _ _=_;rw[a0,xR]
 have az:(B.new u).u S.l.length=u:=by show zm B.u B.len u _=_;rw[a0,xR]
 rw[au.o] at ab a8 ac
 generalize cH:ba.new S.l.length (w.heap.size+1)=s at ab a8 ac
 generalize ca:B.new u=H at ab a8 t a6 bx az
 have dn:=zA cH
 have a4:=zA ca
 clear cH ca
 have bD:=zA a8
 clear a8 bh h a7
 have u2:∀o:zM ai,o.val.cell? (w,2)=u.left.c:=zM.cell ag (am 2 _ rfl)
 have u3:∀o:zM ai,o.val.cell? (w,3)=u.left.k:=zM.cell ag (am 3 _ rfl)
 have u4:∀o:zM ai,o.val.cell? (w,4)=u.right.c:=zM.cell ag (am 4 _ rfl)
 have u5:∀o:zM ai,o.val.cell? (w,5)=u.right.k:=zM.cell ag (am 5 _ rfl)
 have bU:=aU ab.cell.1
 have cd:∀o:zM ai,(Instr.lookup 205 (.map (some (n+4))) (.agg #[u.left.c,u.left.k]) false).run zD o.val= .ok (xs s (S.find u.left)) o.val:=fun o=>by have:=zep (ab.below o.h) u.left;rwa[bx] at this
 have b6:∀o:zM ai,(Instr.lookup 205 (.map (some (n+4))) (.agg #[u.right.c,u.right.k]) false).run zD o.val= .ok (xs s (S.find u.right)) o.val:=fun o=>by have:=zep (ab.below o.h) u.right;rwa[bx] at this
 obtain⟨bc,bM⟩:=aX (xs s (S.find u.left))
 obtain⟨cu,bZ⟩:=aX (xs s (S.find u.right))
 rw[<-bM] at cd
 rw[<-bZ] at b6
 have bu:=zA bM
 have co:=zA bZ
 clear bM bZ
 refine aQ ?_
 intro W' hC' hBW'
 clear u2 u3 u4 u5 bU cd b6 hC'
 have aq:=ab.below hBW'
 have af:=ax.trans (hBW'.mono ax.size)
 have b4:∀k A,(#[Value.int .u64 u.id.c,u.id.k,u.left.c,u.left.k,u.right.c,u.right.k])[k]?=some A->W'.cell? (w,k)=some A:=fun k A z=>(hBW'.cell (p:=(w,k)) ag).trans (am k A z)
 have ce:w.heap.size<W'.heap.size:=zg ag hBW'.size
 have cV:=zA b4
 clear ab ax am ag hBW' b4
 unfold Exit.then
 dsimp only
 go_step
 go_step
 iterate 8 go_step
 go_cut [7] (fun ar wx=>zvz n base s H S u W' ar wx)
 case first=>
  have dl:(!false)=true:=rfl;have db:(!true)=false:=rfl;have dF:(none:Option Addr).isNone=true:=rfl;cases hR:S.find u.right with
  |none=>
   obtain rfl:cu= .pointer none:=(by rw[co.o,hR];rfl);have x:S.lpar u=none:=(by unfold zE.lpar;rw[hR]);cases hL:S.find u.left with
   |none=>
    obtain rfl:bc= .pointer none:=(by rw[bu.o,hL];rfl);have aa:=zv2 n base s H S S.l.length W' aq t rfl a6 oa;rw[ac,az] at aa;obtain⟨j,y,g,h2,r,_,_⟩:=zE.ins_root_place t.wf x hL aP aj;have m:=zvx (D:=B) a5.o au.o x hL F;rw[a4.o] at m;have O:=zA g;have V:=zA h2;have W:=zA r;clear g h2 r hR hL x aZ ao F;go_wp2_with (go_at_call 293;refine aa.mono ?_;rintro d bq ⟨rfl,Y⟩);go_meet;exact⟨_,j,y,m,O.o,V.o,by rw[W.o],Y⟩
   |some p=>
    have R:=(t.wf.find_some.1 hL).1;obtain rfl:bc=(s.bl p):=(by rw[bu.o,hL];rfl);have aa:=zox n base s H S S.l.length p W' aq t rfl a6 R oa;rw[ac,az] at aa;obtain⟨j,y,g,h2,r,_,_,_⟩:=zE.ins_right_place t.wf x hL aP aj;have m:=zor (D:=B) a5.o au.o x hL R F;rw[a4.o] at m;have O:=zA g;have V:=zA h2;have W:=zA r;clear g h2 r hR hL x aZ ao F R;go_wp2_with (go_at_call 293;refine aa.mono ?_;rintro d bq ⟨rfl,Y⟩);go_meet;exact⟨_,j,y,m,O.o,V.o,by rw[W.o];simp,Y⟩
  |some ad=>
   have ak:=(t.wf.find_some.1 hR).1;obtain rfl:cu=(s.bl ad):=(by rw[co.o,hR];rfl);have bm:=zvp n base s H S S.l.length ad W' aq t rfl a6 ak (by rw[az];exact aj) oa;rw[ac,az] at bm;cases hL:S.find u.left with
   |none=>
    obtain rfl:bc= .pointer none:=(by rw[bu.o,hL];rfl);have x:S.lpar u=some ad:=(by unfold zE.lpar;rw[hR,hL]);obtain⟨j,y,g,h2,r,_,_,_⟩:=zE.ins_left_place t.wf x aP aj;have m:=zoq (D:=B) a5.o au.o x ak F;rw[a4.o] at m;have O:=zA g;have V:=zA h2;have W:=zA r;clear g h2 r hR hL x aZ ao F ak;go_wp2_with (go_at_call 292;refine bm.mono ?_;rintro d bq ⟨rfl,Y⟩);go_meet;exact⟨_,j,y,m,O.o,V.o,by have:=W.o;congr 1;omega,Y⟩
   |some p=>
    have R:=(t.wf.find_some.1 hL).1;obtain rfl:bc=(s.bl p):=(by rw[bu.o,hL];rfl);have br:=zvy n base s H S ad p W' aq t ak R;have dt:=zlB (s.bl p);by_cases aH:p∈S.anc ad
    ·have x:S.lpar u=some ad:=(by unfold zE.lpar;rw[hR,hL];exact if_pos aH);rw[show decide (p∈S.anc ad)=true by simpa using aH] at br;obtain⟨j,y,g,h2,r,_,_,_⟩:=zE.ins_left_place t.wf x aP aj;have m:=zoq (D:=B) a5.o au.o x ak F;rw[a4.o] at m;have O:=zA g;have V:=zA h2;have W:=zA r;clear g h2 r hR hL x aZ ao F ak R aH;go_wp2_with (first|(go_at_call 291;refine br.mono ?_;rintro d cY ⟨rfl,rfl⟩)|(go_at_call 292;refine bm.mono ?_;rintro d bq ⟨rfl,Y⟩));go_meet;exact⟨_,j,y,m,O.o,V.o,by have:=W.o;congr 1;omega,Y⟩
    ·have x:S.lpar u=none:=(by unfold zE.lpar;rw[hR,hL];exact if_neg aH);rw[show decide (p∈S.anc ad)=false by simpa using aH] at br;have aa:=zox n base s H S S.l.length p W' aq t rfl a6 R oa;rw[ac,az] at aa;obtain⟨j,y,g,h2,r,_,_,_⟩:=zE.ins_right_place t.wf x hL aP aj;have m:=zor (D:=B) a5.o au.o x hL R F;rw[a4.o] at m;have O:=zA g;have V:=zA h2;have W:=zA r;clear g h2 r hR hL x aZ ao F ak R aH bm;go_wp2_with (first|(go_at_call 291;refine br.mono ?_;rintro d cY ⟨rfl,rfl⟩)|(go_at_call 293;refine aa.mono ?_;rintro d bq ⟨rfl,Y⟩));go_meet;exact⟨_,j,y,m,O.o,V.o,by rw[W.o];simp,Y⟩
 case rest=>
  obtain⟨e,j,y,m,cF,bs,rfl,c,bG,cD,cC,bW,cE,bY⟩:=hcut;obtain⟨C,bA⟩:=aX (S.ins u);obtain⟨f,b0⟩:=aX S.l.length;rw[<-bA] at m bs I K F;rw[<-b0] at bs F ac cZ;have cb:=zA bA;have X:=zA b0;clear bA b0;have cS:e.len=f+1:=by rw[m.len,F]
  have cz:f<e.len:=oa;have bg:f<C.l.length:=oa;have bC:c.bl f=w+1:=by rw[bG];exact ac
  have cm:=bW.node cz;rw[bC,m.par f bg] at cm;have bK:wc.cell? ⟨w.heap.size+1,6,none⟩=some (xs c (C.nd f).par):=cm.cell 6 _ rfl;have cj:=I.anc_eq bg;have cQ:Mods (zy n s H) W' wc:=bY;have df:=bW.lohi;have cp:=zA cF;have cG:=zA bs;have G:=zA m;have bV:=zA cE;have bS:=zA K;have c4:=zA cD;have dy:=zA cC;have dz:=zA bG;have dE:w.heap.size<wc.heap.size:=zg ce bY.size;clear cF bs m cE K cD cC bG bY aZ ao aq F;obtain⟨Z,bF⟩:=aX (C.anc f);have bH:=zA bF;have cx:((C.nd f).par=none/\Z= [])\/∃b,b<f/\(C.nd f).par=some b/\Z=b::C.anc b:=by
   rw[bF,cj];cases hp:(C.nd f).par with
   |none=>exact .inl ⟨rfl,rfl⟩
   |some b=>exact .inr ⟨b,I.parlt f b bg hp,rfl,rfl⟩
  clear bF cj;generalize(C.nd f).par=dr at bK cx;have cy:∀k A wx,Mods (zy n s H) W' wx->(#[Value.int .u64 u.id.c,u.id.k,u.left.c,u.left.k,u.right.c,u.right.k])[k]?=some A->wx.cell? (w,k)=some A:=fun k A wx ah z=>(xA (w:=W') (ah.block w ce (fun al=>by
   rcases bD.o _ al with d|d
   ·exact absurd (cR.o _ d) oa
   ·omega))).trans (cV.o k A z)
  have cl:=zA cy;clear cy;go_upto_region 8 with fail;go_loopw [8] (fun ar wx=>∃i bf,Z=i++bf/\((bf= []/\ar= .pointer none)\/∃b,b<f/\bf=b::C.anc b/\ar=(c.bl b))/\zs n base wx c (e.plus i)/\Mods (zy n s H) W' wx) (fun ar _=>zf3 c (f+1) ar);case atStart=>
   refine⟨[],Z,rfl,?_,bW.congr rfl (fun k _=>⟨rfl,rfl,rfl,rfl,by show e.sz k+_=_;simp⟩) rfl rfl (fun _=>rfl),cQ⟩
   rcases cx with⟨bP,bT⟩|⟨b,g,bP,bT⟩
   ·exact .inl ⟨bT,by rw[bP];rfl⟩
   ·exact .inr ⟨b,g,bT,by rw[bP];rfl⟩
  case round=>
   obtain⟨i,bf,a3,cL,ap,M⟩:=hrel;rcases cL with⟨rfl,rfl⟩|⟨b,b7,rfl,rfl⟩
   ·rw[zbl] at a3;subst a3;have u0:∀o:zI zX wr,o.val.cell? w=u.id.c:=zI.cell (by have:=M.size;show w.heap.size<_;omega) id (cl.o 0 _ wr M rfl);have u1:∀o:zI zX wr,o.val.cell? (w,1)=u.id.k:=zI.cell (by have:=M.size;show w.heap.size<_;omega) id (cl.o 1 _ wr M rfl);have bU:=aV ap.cell.1;obtain⟨bN,bo,cv⟩:=ap;have bR:=cv.keep (W':=wr.drew) (zU _) (fun v _=>rfl);obtain⟨bX,b9,cs⟩:=zb8 vb (T:=205) (E:=256) oe bR.m.all u.id (zo (w.heap.size+1));have cf:zq xV (xF wr.drew (n+4) bX) (n+4) (xT c.am u.id (zo (c.bl f))):=(by rw[bC];exact cs);have J:=bR.putAll u.id f (by show f<e.len;exact cz) cf;have bd:Mods (zy n s H) W' (xF wr.drew (n+4) bX):=⟨M.os,M.tape,M.output,by rw[vH];exact M.size,fun k z bb=>(qV (w:=wr.drew) (fun d=>bb (.inl d))).trans (M.block k z bb)⟩;clear cs cf cv bR bK;unfold xV zo at b9;go_upto_region 11 with fail;refine xU 7 [0,1,2,3,4,5,6] [7] zX (aM ?_);refine aR ?_;refine aS ?_;go_wp2;refine xE ?_;generalize xF wr.drew (n+4) bX=N at J bd ⊢;clear b9 u0 u1 bU M;have cc:N.cell? (n+6,1)=some c.ov:=J.m.cell 1 _ rfl;have av:=J.order;have cM:({e.plus Z with find:=fun ch=>if ch=u.id then some f else e.find ch}:zp).ord=j++y:=G.o.ord.trans cp.o;replace av:zG base 256 1 z6 N c.ov ((j++y).map c.bl):=(by rw[<-cM];exact av);have c7:=J.lo;have c1:=J.hi;have dA:(j++y).length<=50000:=(by have:=t.wf.len_eq;rw[cp.o] at this;have:=X.o;omega);have bl:=zdp base c.ov ((j++y).map c.bl) j.length (c.bl f) N av oh c1 (by rw[xk];omega);have bv:((j++y).map c.bl).take j.length++c.bl f::((j++y).map c.bl).drop j.length=(j++f::y).map c.bl:=oh;rw[bv] at bl;have b8:c.ov.ownBlock≠some (n+6):=fun d=>(by have:=(ya av _ d).1;omega);obtain⟨dx,dd,dv,cq⟩:=zbx av;rw[cq] at bl b8 cc;have c2:=J.m.frz 1;have cW:=J.m.frz 4;have cK:N.cell? (n+6,4)=some (.bool bo):=J.m.cell 4 _ rfl;have bi:=J.m.lt;have cn:Mods (zy n s H) W' (N.alloc (.cells #[(c.bl f)] 256)):=bd.alloc _;have bE:=J.below ((zf _ _).alloc (zU _) (.cells #[(c.bl f)] 256));rw[bC] at bl cn bE;have cP:=zA bE;have dG:=zA bv;have cX:=bd;clear bv av J bd bE;go_upto_region 13 with(go_at_call 294;refine bl.mono ?_;rintro d dp ⟨dw,rfl,K⟩;obtain⟨cw,b5,ci,rfl⟩:=zbx K.1;have bt:=K.2.1.block (n+6) oi (fun d=>b8 d.symm);have dk:=(xA (a:=(n+6,1)) bt).trans ((xA (w:=N) (a:=(n+6,1)) (yV _ _ _ bi)).trans cc);have ds:=(jY (a:=(n+6,1)) bt).trans ((jY (w:=N) (a:=(n+6,1)) (yV _ _ _ bi)).trans c2);have dD:=(xA (a:=(n+6,4)) bt).trans ((xA (w:=N) (a:=(n+6,4)) (yV _ _ _ bi)).trans cK);have dC:=(jY (a:=(n+6,4)) bt).trans ((jY (w:=N) (a:=(n+6,4)) (yV _ _ _ bi)).trans cW));rw[<-cq] at K;have cO:=cP.o.setOrd (l:=j++f::y) K (fun b b7=>by show b<e.len;rw[G.o.len];exact(I.mem b).1 (by rw[cG.o];exact b7));have a1:=((cn.grown K.2.1 (fun v d=>by have al:zy n c e v:= .inr (.inr (.inr (.inl d)));exact(bV.o _ al).imp id id)).setC (p:=(n+6,1)) (.inl (.inr (.inr (.inl rfl)))) (.slice cw b5 ci)).setC (p:=(n+6,4)) (.inl (.inr (.inr (.inl rfl)))) (.bool false);go_wp2;go_end0;refine⟨rfl,⟨_,_,cO.h,?_,?_,?_⟩,?_⟩
    ·rw[<-cb.o];have c9:C.l.length=f+1:=(by rw[<-G.o.len];exact cS);have c5:=X.o;exact {
      wf:=I
      ord:=cG.o.symm
      find:=fun ay=>by show(if ay=u.id then some f else e.find ay)=_;rw[bS.o.find t.wf I ay,G.o.find,<-X.o]
      u:=G.o.u
      len:=by show _<=e.len;omega
      par:=G.o.par
      lf:=G.o.lf
      rt:=G.o.rt
      sz:=fun k z=>by
       show e.sz k+(if k∈Z then 1 else 0)=_;by_cases d:k=f
       ·subst d;have g:=G.o.szN;rw[<-X.o] at g;have h2:=(bS.o.sz t.wf I).1;rw[<-X.o] at h2;rw[g,h2,bH.o,zN];intro ah;have:=I.anc_lt k k z ah;omega
       ·have dm:k<f:=(by omega);rw[G.o.sz k oa,bS.o.sz2 t.wf I k oa,<-X.o,bH.o]
      root:=G.o.root}
    ·show e.len=_;rw[<-cb.o,G.o.len]
    ·intro v bI;have dg:=af.size;have de:=cX.size;have c0:zy n c e v\/w<=v:=by
      rcases bI with d|d|d|d|d|⟨k,z,d⟩
      ·exact .inl (.inl d)
      ·exact .inl (.inr (.inl d))
      ·exact .inl (.inr (.inr (.inl d)))
      ·rcases K.2.2 with be|be
       ·exact .inl (.inr (.inr (.inr (.inl (be.symm.trans d)))))
       ·rw[show(Value.slice cw b5 ci).ownBlock=some v from d] at be;cases be;right;simp;omega
      ·exact .inl (.inr (.inr (.inr (.inr (.inl d)))))
      ·exact .inl (.inr (.inr (.inr (.inr (.inr ⟨k,z,d⟩)))))
     rcases c0 with g|g
     ·rcases bV.o v g with h2|h2
      ·rcases bD.o v h2 with r|r
       ·exact .inl (hF v r)
       ·right;omega
      ·right;omega
     ·exact .inr g
    ·refine⟨a1.os.trans af.os,a1.tape.trans af.tape,a1.output.trans af.output,zk af.size a1.size,fun k z bb=> ?_⟩;refine(a1.block k (zg z af.size) fun al=> ?_).trans (af.block k z);rcases bD.o k al with r|r
     ·exact bb (hF k r)
     ·omega
   ·have bL:b<e.len:=(by omega);have bz:b<C.l.length:=oa;have a2:=ap.node (D:=e.plus i) bL;have cg:(e.plus i).par b=(C.nd b).par:=G.o.par b bz;rw[cg] at a2;have b2:Z.Nodup:=(by rw[bH.o];exact(I.anc_down f bg).imp fun h=>oa);have bQ:b ∉ i:=(by rw[a3,yv] at b2;intro ah;exact b2.2.2 b ah b oh rfl);have cJ:(e.plus i).sz b<=60000:=(by show e.sz b+_<=_;rw[zN bQ,G.o.sz b (by have:=X.o;omega)];obtain⟨_,c6,_,di,cI,cT,_⟩:=t.wf.has_walk (k:=b) (by have:=X.o;omega);rw[cT];have:=t.wf.len_eq;rw[cI] at this;simp at this;have:=X.o;omega);have cB:=ap.setSz bL ((e.plus i).sz b+1);have cA:∀{an:zC},zs n base an c ((e.plus i).setSz b ((e.plus i).sz b+1))->zs n base an c (e.plus (i++[b])):=fun {an} ae=>ae.congr rfl (fun k _=>⟨rfl,rfl,rfl,rfl,by
     show e.sz k+_=zm (e.plus i).sz b _ k;by_cases d:k=b
     ·subst d;rw[xR];show _=e.sz k+_+1;rw[zP oh,zN bQ]
     ·rw[z8 _ _ d];show _=e.sz k+_;have:k∈i++[b]↔k∈i:=jj;by_cases bn:k∈i
      ·rw[zP bn,zP (this.2 bn)]
      ·rw[zN bn,zN fun c3=>bn (this.1 c3)]⟩) rfl rfl (fun _=>rfl)
    have bw:=cA cB;clear cB cA;have b1:=M.setC (p:=(c.bl b,9)) (by have al:zy n c e (c.bl b):= .inr (.inr (.inr (.inr (.inr ⟨b,bL,.inl rfl⟩))));exact(bV.o _ al).imp id id) (zB (((e.plus i).sz b+1:Nat):Int));have cN:wr.cell? (c.bl b,9)=(zB ((e.plus i).sz b)):=a2.cell 9 _ rfl;have du:=a2.frz 9;have b3:=a2.setS (((e.plus i).sz b+1:Nat):Int);generalize(e.plus i).sz b=A at cN bw b1 cJ b3;have bj:(wr.setCell (c.bl b,9) (zB ((A:Int)+1))).cell? (c.bl b,6)=some (xs c (C.nd b).par):=b3.cell 6 _ rfl;have ct:zs n base (wr.setCell (c.bl b,9) (zB ((A:Int)+1))) c (e.plus (i++[b])):=bw;have cr:Mods (zy n s H) W' (wr.setCell (c.bl b,9) (zB ((A:Int)+1))):=b1;have aw:=I.anc_eq bz;have bp:Z=(i++[b])++C.anc b:=(by rw[a3];simp);have ck:(zcX c (f+1) (c.bl b))=b:=(by obtain⟨bN,bo,ae⟩:=ap;exact zeq ae (by show f+1<=e.len;omega) oa);clear bw b1 b3 a2 a3 cg bQ b2 bK;cases hp:(C.nd b).par with
    |none=>
     rw[hp] at bj aw;have a9:xs c none= .pointer none:=rfl;rw[a9] at bj;have bJ:=zA bp;have bB:=zA aw;clear bp aw hp a9;go_wp2;go_roundw;case rel=>exact⟨i++[b],_,bJ.o,.inl ⟨bB.o,rfl⟩,ct,cr⟩
     case measure=>rw[zeo,ck];simp[zf3]
    |some q=>
     have dh:=I.parlt b q bz hp;rw[hp] at bj aw;have a9:xs c (some q)=(c.bl q):=rfl;rw[a9] at bj;have cU:(zcX c (f+1) (c.bl q))=q:=(by obtain⟨bN,bo,ae⟩:=ap;exact zeq ae (by show f+1<=e.len;omega) oa);have bJ:=zA bp;have bB:=zA aw;clear bp aw hp a9;go_wp2;go_roundw;case rel=>exact⟨i++[b],_,bJ.o,.inr ⟨q,oa,bB.o,rfl⟩,ct,cr⟩
     case measure=>rw[zeo,zeo,ck,cU];omega
theorem zvs(w:zC):(binOp BinOp.neq 256 (.pointer none) (.pointer none)).run zD w= .ok (.bool false) w:=oe
theorem zvt(n base p:Nat)(L:xC)(D:zp)(x:zF)(w:zC)(h:zs n base w L D)(o:w.cell? p=(n+6:))(q:p<w)(j:x=zT\/∃k,D.find x=some k):
 Calls zD 289 #[.agg #[x.c,x.k],p] w fun c l=>c= .returned (.bool true)/\Below w w l:=by
 have i:=zf1 x;by_cases d:x=zT
 ·subst d;exact zvw p w
 ·obtain⟨k,m⟩:∃k,D.find x=some k:=by rcases j with c|c;exact absurd c d;exact c
  rw[show decide (x=zT)=false by simpa using d] at i;clear j d;go_enter Tryz.func289,Tryz.ntmps289;go_upto_region 1 with fail;generalize b:World.alloc _ _=e;obtain⟨f,-,-⟩:=aF b;have u:∀a:zM e,a.val.cell? w=x.c:=by subst b;exact zM.cell (by simp) (by go_simp)
  have t:∀a:zM e,a.val.cell? (w,1)=x.k:=by subst b;exact zM.cell (by simp) (by go_simp)
  have r:∀a:zM e,a.val.cell? p=(n+6:):=by subst b;exact zM.cell (by simp;omega) ((f.cell (p:=p) q).trans o)
  have g:=h.below f;try simp only[b] at g
  clear b;have s:=aU g.cell.1;have v:∀a:zM e,(Instr.lookup 205 (.map (some (n+4))) (.agg #[x.c,x.k]) false).run zD a.val= .ok (L.bl k) a.val:=fun a=>by have:=zep (g.below a.h) x;rwa[m] at this
  refine aG ?_;repeat(first|go_big_quiet_skip|(go_big_quiet_want;go_big_quiet_op;first|go_big_quiet_on|go_big_quiet_call ((go_at_call 290;exact xl (i _)))))
  refine aE ?_;intro W' hC' hBW';go_wp2;go_ret;exact⟨rfl,f.trans (hBW'.mono f.size)⟩
theorem zvu(n base:Nat)(L:xC)(D:zp)(S:zE)(u:zV)(w:World)(h:zs n base w L D)(r:qQ D S)(ah:S.may u=true):
 Calls Tryz.prog 259 #[.pointer (some ⟨n+6,0,none⟩),.agg #[.int .u64 u.id.c,.int .u64 u.id.k,.int .u64 u.left.c,.int .u64 u.left.k,.int .u64 u.right.c,.int .u64 u.right.k]] w fun b A=>
  b= .returned (.bool true)/\zs n base A L D/\Mods (qC n) w A:=by
 obtain⟨av,ad,Y,ai,ak⟩:=zE.may_iff.1 ah
 have am:∀w,Calls zD 142 #[.agg #[u.id.c,u.id.k]] w fun b A=>b= .returned (.bool true)/\Below w w A:=fun w=>by have:=zcg u.id w;rwa[av] at this
 have a9:∀(ac:Fn) (first aj:Array Value) (w:zC),(Instr.makeFunc ac first aj).run zD w= .ok (.func ac first aj) w:=fun _ _ _ _=>rfl
 have H:∀l,S.named l=true->l=zT\/∃k,D.find l=some k:=fun l C=>by
  simp only[zE.named,qx,xW,zbH] at C;rcases C with b|⟨k,b⟩
  ·exact .inl b
  ·exact .inr ⟨k,by rw[r.find];exact b⟩
 have B:=H _ Y
 have E:=H _ ai
 have o:=zf1 u.left
 have x:=zf1 u.right
 have bb:=h.lt
 have a8:=zA ak
 have aq:=zA (show D.find u.id=none by rw[r.find];exact ad)
 clear H Y ai ak ah ad
 go_enter Tryz.func259,Tryz.ntmps259
 go_upto_region 2 with fail
 generalize M:World.alloc _ _=d
 obtain⟨F,an,af,-⟩:=aJ M
 have N:=aC an 0
 have i:∀k v,(#[Value.int .u64 u.id.c,.int .u64 u.id.k,.int .u64 u.left.c,.int .u64 u.left.k,.int .u64 u.right.c,.int .u64 u.right.k])[k]?=some v->d.cell? ⟨w.heap.size+1,k,none⟩=some v:=by subst M;exact fun k v K=>(zk9 w _ _ _ _ k).2.trans K
 have e:=aL af
 clear M an af
 have z:=h.below F
 have I:=aU N
 have u0:∀a:zM d,a.val.cell? (w.heap.size+1:)=u.id.c:=zM.cell e (i 0 _ rfl)
 have u1:∀a:zM d,a.val.cell? (w.heap.size+1,1)=u.id.k:=zM.cell e (i 1 _ rfl)
 have u2:∀a:zM d,a.val.cell? (w.heap.size+1,2)=u.left.c:=zM.cell e (i 2 _ rfl)
 have u3:∀a:zM d,a.val.cell? (w.heap.size+1,3)=u.left.k:=zM.cell e (i 3 _ rfl)
 have u4:∀a:zM d,a.val.cell? (w.heap.size+1,4)=u.right.c:=zM.cell e (i 4 _ rfl)
 have u5:∀a:zM d,a.val.cell? (w.heap.size+1,5)=u.right.k:=zM.cell e (i 5 _ rfl)
 have a0:=aU z.cell.1
 have a4:∀a:zM d,(Instr.lookup 205 (.map (some (n+4))) (.agg #[u.id.c,u.id.k]) false).run zD a.val= .ok (.pointer none) a.val:=fun a=>by have:=zep (z.below a.h) u.id;rw[aq.o] at this;exact this
 have ag:=fun(a:zM d) (l:zF) (C:l=zT\/∃k,D.find l=some k)=>zvt n base w L D l a.val (z.below a.h) (I a) (by have:=a.h.size;omega) C
 have aZ:=zvs
 refine aG ?_
 repeat(first|go_big_quiet_skip|(go_big_quiet_want;go_big_quiet_op;first|go_big_quiet_on|go_big_quiet_call ((first|(go_at_call 142;exact xl (am _))|(go_at_call 289;exact xl (ag _ _ oC))))))
 refine aE ?_
 intro W' hC' hBW'
 have J:=z.below hBW'
 have t:=F.trans (hBW'.mono F.size)
 have j:=zg e hBW'.size
 have Z:=(hBW'.cell (p:=w) oq).trans N
 have g:∀k v,(#[Value.int .u64 u.id.c,u.id.k,u.left.c,u.left.k,u.right.c,u.right.k])[k]?=some v->W'.cell? (w.heap.size+1,k)=some v:=fun k v K=>(hBW'.cell (p:=(w.heap.size+1,k)) e).trans (i k v K)
 clear I u0 u1 u2 u3 u4 u5 a0 a4 ag hC' F N i e z hBW' am aZ d
 go_upto_region 4 with fail
 by_cases y:u.left=zT\/u.right=zT
 ·have u2:∀a:zM W',a.val.cell? (w.heap.size+1,2)=u.left.c:=zM.cell j (g 2 _ rfl);have u3:∀a:zM W',a.val.cell? (w.heap.size+1,3)=u.left.k:=zM.cell j (g 3 _ rfl);have u4:∀a:zM W',a.val.cell? (w.heap.size+1,4)=u.right.c:=zM.cell j (g 4 _ rfl);have u5:∀a:zM W',a.val.cell? (w.heap.size+1,5)=u.right.k:=zM.cell j (g 5 _ rfl);have ap:(!true)=false:=rfl;have aP:(!false)=true:=rfl;by_cases f:u.left=zT
  ·rw[show decide (u.left=zT)=true by simpa using f] at o;clear y f B E;refine aG ?_;repeat(first|go_big_quiet_skip|(go_big_quiet_want;go_big_quiet_op;first|go_big_quiet_on|go_big_quiet_call ((go_at_call 290;exact xl (o _)))))
   refine aE ?_;intro W' hC' hBW';go_wp2;go_ret;exact⟨rfl,J.below hBW',Mods.of_below (t.trans (hBW'.mono t.size))⟩
  ·have q:u.right=zT:=(by rcases y with b|b;exact absurd b f;exact b);rw[show decide (u.left=zT)=false by simpa using f] at o;rw[show decide (u.right=zT)=true by simpa using q] at x;clear y f q B E;refine aG ?_;repeat(first|go_big_quiet_skip|(go_big_quiet_want;go_big_quiet_op;first|go_big_quiet_on|go_big_quiet_call ((first|(go_at_call 290;exact xl (o _))|(go_at_call 290;exact xl (x _))))))
   refine aE ?_;intro W' hC' hBW';go_wp2;go_ret;exact⟨rfl,J.below hBW',Mods.of_below (t.trans (hBW'.mono t.size))⟩
 ·obtain⟨f,q⟩:=not_or.1 y;have s:∀c,w.heap.size<=c->¬qC n c:=fun c hb aH=>by unfold qC at aH;omega
  have I:∀a:zI (qC n) W',a.val.cell? ⟨w.heap.size,0,none⟩=some (.pointer (some ⟨n+6,0,none⟩)):=zI.cell oq (s _ (zU _)) Z;have u2:∀a:zI (qC n) W',a.val.cell? ⟨w.heap.size+1,2,none⟩=some (.int .u64 u.left.c):=zI.cell j (s _ (by show _<=w.heap.size+1;omega)) (g 2 _ rfl);have u3:∀a:zI (qC n) W',a.val.cell? ⟨w.heap.size+1,3,none⟩=some (.int .u64 u.left.k):=zI.cell j (s _ (by show _<=w.heap.size+1;omega)) (g 3 _ rfl);have u4:∀a:zI (qC n) W',a.val.cell? ⟨w.heap.size+1,4,none⟩=some (.int .u64 u.right.c):=zI.cell j (s _ (by show _<=w.heap.size+1;omega)) (g 4 _ rfl);have u5:∀a:zI (qC n) W',a.val.cell? ⟨w.heap.size+1,5,none⟩=some (.int .u64 u.right.k):=zI.cell j (s _ (by show _<=w.heap.size+1;omega)) (g 5 _ rfl);clear g Z;rw[show decide (u.left=zT)=false by simpa using f] at o;rw[show decide (u.right=zT)=false by simpa using q] at x;have T:=fun w h=>zer n base L D S u.left w h r;have G:=fun w h=>zer n base L D S u.right w h r;obtain⟨m,O⟩:∃m,S.findP u.left=some m:=by
   rcases B with b|⟨k,b⟩
   ·exact absurd b f
   ·rw[r.find] at b;exact⟨S.place k,by unfold zE.findP;rw[b];rfl⟩
  obtain⟨c,V⟩:∃c,S.findP u.right=some c:=by
   rcases E with b|⟨k,b⟩
   ·exact absurd b q
   ·rw[r.find] at b;exact⟨S.place k,by unfold zE.findP;rw[b];rfl⟩
  have X:=a8.o m c O V;have ae:S.pos u.left=m:=by unfold zE.pos;rw[O]
  have W:S.pos u.right=c:=by unfold zE.pos;rw[V]
  rw[ae] at T;rw[W] at G;have ba:decide ((m:Int)<(c:Int))=true:=oi;have ap:(!true)=false:=rfl;have aP:(!false)=true:=rfl;have ao:=zA (show decide (m<c)=true by simpa using X);clear ae W O V X y f q B E;have az:=zA o;have ar:=zA x;have ax:=zA T;have aw:=zA G;clear o x T G;refine fl7 (.rd [0,1] (.one 2 (.rd [3,4,5] (.one 6 (.rd [7,8,9,10,11,13,14,15] (.one 12 (.one 16 (.rd [17,18,19] .nil)))))))) (qC n) ?_;refine aT ?_;refine aO ?_;go_wp2_with (go_at_call 290;refine(az.o _).mono ?_;rintro b w3 ⟨rfl,a3⟩);have a6:Below W' W' W'.drew:=(zf _ _).drew;have aa:=a6.trans (a3.mono (zU _));refine⟨zI.to (Mods.of_below aa),?_⟩;refine aT ?_;refine aO ?_;go_wp2_with (go_at_call 290;refine(ar.o _).mono ?_;rintro b bc ⟨rfl,au⟩);have R:=zK aa au;refine⟨zI.to (Mods.of_below R),?_⟩;refine aT ?_;refine aO ?_;go_wp2_with (go_at_call 137;refine(ax.o _ (J.below R)).mono ?_;rintro b a1 ⟨rfl,a5,a7⟩);have al:Mods (qC n) W' a1:=(Mods.of_below R).trans a7;refine⟨zI.to al,?_⟩;refine aO ?_;go_wp2_with (go_at_call 137;refine(aw.o _ a5).mono ?_;rintro b w6 ⟨rfl,a2,ay⟩);have ab:Mods (qC n) W' w6:=al.trans ay;refine⟨zI.to ab,?_⟩;refine aT ?_;refine jh ?_;go_wp2;go_ret;refine⟨?_,a2,(Mods.of_below t).trans ab⟩;show Ending.returned (.bool (decide (m<c)))=_;rw[ao.o]
open Go.MapKept
def jZ(w:zC)(b:Nat):Prop:=∃u p l r s,xa w b u p l r s
theorem jZ.below{w w':zC}{b:Nat}(e:jZ w b)(c:Below w w w'):jZ w' b:=by obtain⟨h,d,i,g,f,a⟩:=e;exact⟨h,d,i,g,f,(c.block b a.lt).trans a⟩
theorem ztV(w:zC)(a b:Nat)(d:jZ w a)(e:jZ w b):(Op.equal 256 (zo a) (zo b)).run zD w= .ok (decide (a=b)) w:=by
 obtain⟨k,h,j⟩:=zlA;obtain⟨_,_,_,_,_,d⟩:=d;obtain⟨_,_,_,_,_,e⟩:=e;by_cases g:a=b
 ·subst g;have f:∀c:Nat,(Op.equalIn (c+1) 256 a a).run zD w= .ok true w:=fun c=>by simp[Op.equalIn,jM zeZ,sizeOf,typeInfo,h,run_sameAddr_same]
  simp[zo,Op.equal,Op.maxDepth,f 9999]
 ·have f:∀c:Nat,(Op.equalIn (c+1) 256 a b).run zD w= .ok false w:=fun c=>by simp[Op.equalIn,jM zeZ,sizeOf,typeInfo,h,j,run_sameAddr_other (a:=a) (b:=b) w (fun i=>g (by cases i;rfl)) d e]
  simp[zo,Op.equal,Op.maxDepth,f 9999,g]
theorem zkP(w:zC)(x:Nat)(f:jZ w x):∀(c:List MapEntry) (l:List (Nat×Value)) (i:Nat),(∀a∈l,jZ w a.1)->c.map (fun d=>(d.key,d.val))=l.map (fun a=>(zo a.1,a.2))->(Instr.findAsking 256 (zo x) c i).run zD w= .ok (qh x l i) w
 | [],[],_,_,_=>rfl
 | [],_::_,_,_,b=>by simp at b
 |_::_,[],_,_,b=>by simp at b
 |d::c,a::l,i,g,b=>by
  simp only[xd,zcx,zfb] at b;obtain⟨⟨m,h⟩,n⟩:=b;unfold Instr.findAsking qh;rw[m];simp only[yU,ztV w x a.1 f (g a oh),Result.andThen];by_cases e:a.1=x
  ·simp[e,h]
  ·have k:¬x=a.1:=fun b=>e b.symm;simp only[e,k,decide_false,jW,jX];exact zkP w x f c l (i+1) (fun o j=>g o (by simp[j])) n
theorem ztW(w:zC)(b:Nat):(Op.equal 256 (.pointer none) (zo b)).run zD w= .ok false w:=oe
theorem znT(w:zC):∀(b:List MapEntry) (l:List (Nat×Value)) (i:Nat),b.map (fun d=>(d.key,d.val))=l.map (fun c=>(zo c.1,c.2))->(Instr.findAsking 256 (.pointer none) b i).run zD w= .ok none w
 | [],_,_,_=>rfl
 |_::_,[],_,a=>by simp at a
 |d::b,c::l,i,a=>by simp only[xd,zcx,zfb] at a;obtain⟨⟨e,g⟩,f⟩:=a;unfold Instr.findAsking;rw[e];simp only[yU,ztW,Result.andThen,jW,jX];exact znT w b l (i+1) f
theorem zkQ(w:zC)(a:Bool)(p:Option Addr):(Instr.checkKey a 10000 256 (.pointer p)).run zD w= .ok () w:=oe
theorem zkR(w:zC)(k:zJ)(a:List MapEntry):(Instr.findKey 256 k a).run zD w=(Instr.findAsking 256 k a).run zD w:=by
 cases a with
 |nil=>simp[Instr.findKey,jM zeZ,Instr.findNow,Instr.findAsking]
 |cons b a=>simp[Instr.findKey,jM zeZ,Instr.findNow,Instr.sameNow]
theorem zho:Tryz.prog.underlying 300=some (.map 256 256):=oe
theorem znU{w:zC}{e:Nat}{l:List (Nat×Value)}(g:zq zo w e l)(i:∀b∈l,jZ w b.1){x:Nat}(c:jZ w x):
 (Instr.lookup 300 (.map (some e)) (zo x) false).run zD w= .ok ((xD l x).getD (.pointer none)) w:=by
 obtain⟨d,n,f,m,o⟩:=g;have h:(Instr.findKey 256 (zo x) d.toList).run zD w= .ok (qh x l 0) w:=by rw[zkR];exact zkP w x c d.toList l 0 i m
 have k:∀a,(Instr.checkKey a 10000 256 (zo x)).run zD w= .ok () w:=fun a=>zkQ w a _;have j:=zgr x l 0;simp only[Instr.lookup,yU,jM zho,Result.andThen,zcJ f,qI,k,h];rw[<-j];cases c:qh x l 0 with
 |none=>simp
 |some b=>simp
theorem ztX{w:zC}{d:Nat}{l:List (Nat×Value)}(f:zq zo w d l):
 (Instr.lookup 300 (.map (some d)) (.pointer none) false).run zD w= .ok (.pointer none) w:=by
 obtain⟨c,j,e,i,k⟩:=f;have g:(Instr.findKey 256 (.pointer none) c.toList).run zD w= .ok none w:=by rw[zkR];exact znT w c.toList l 0 i
 have h:∀b,(Instr.checkKey b 10000 256 (.pointer none)).run zD w= .ok () w:=fun b=>zkQ w b _;simp only[Instr.lookup,yU,jM zho,Result.andThen,zcJ e,qI,h,g];simp
theorem ztY{w:zC}{c:Nat}{l:List (Nat×Value)}(y:zq zo w c l)(z:∀a∈l,jZ w a.1){x:Nat}(J:jZ w x)(q:∀a∈l,a.1≠x)(v:zJ):
 ∃p,(Instr.mapUpdate 300 (.map (some c)) (zo x) v).run zD w= .ok () (xF w c p)/\zq zo (xF w c p) c (l++[(x,v)]):=by
 obtain⟨f,n,h,i,r,u,B⟩:=y;have G:c<w:=aL h;have A:qh x l 0=none:=by
  have:∀(l:List (Nat×Value)) (e:Nat),(∀a∈l,a.1≠x)->qh x l e=none:=by
   intro l;induction l with
   |nil=>intro e _;rfl
   |cons a l F=>
    intro e g;unfold qh;rw[zN (g a oh)];exact F (e+1) fun C s=>g C (by simp[s])
  exact this l 0 q
 have I:(Instr.findKey 256 (zo x) f.toList).run zD w= .ok none w:=by rw[zkR,<-A];exact zkP w x J f.toList l 0 z i
 have t:∀k,(Instr.checkKey k 10000 256 (zo x)).run zD w= .ok () w:=fun k=>zkQ w k _;refine⟨.map (f.push {key:=zo x,val:=v,born:=n}) (n+1),?_,⟨_,_,zfE G,?_,?_,?_,?_⟩⟩
 ·simp only[Instr.mapUpdate,yU,jM zho,Result.andThen,zcJ h,t,I,zhY _ h];rfl
 ·simp[i]
 ·intro o b;simp only[zeY,xX,j0] at b;rcases b with b|rfl
  ·have:=r o b;omega
  ·simp
 ·simp only[zeY,ym,xd,yl];refine yv.2 ⟨u,oh,fun D d j m=> ?_⟩;obtain⟨o,b,rfl⟩:=xz.1 d;obtain rfl:j=n:=by simpa using m
  have:=r o b;omega
 ·simp only[zeY,ym,xd,yl];refine yv.2 ⟨B,oh,fun D d j m=> ?_⟩;obtain rfl:j=zo x:=by simpa using m
  rintro rfl;have E:f.toList.map (·.key)=l.map (fun a=>zo a.1):=by have:=congrArg (List.map Prod.fst) i;simpa[jk,zhX] using this
  rw[E] at d;obtain⟨a,g,H⟩:=xz.1 d;exact q a g (by simpa[zo] using H)
end Go.Proofs.YtimlgcodecgecaaGreatDoor
