/- Walk: a unit's place where the places are stale: they are laid anew. -/
import Derived.Test.YtimlgcodecgecaaGreatDoorZ15
set_option maxRecDepth 100000
set_option maxHeartbeats 20000000
set_option linter.all false
namespace Go.Proofs.YtimlgcodecgecaaGreatDoor
open Go.RowKit Go.Shelf Go.Lib
section
attribute [local go_sem] jl
theorem zod{c:Type}{enc:c->Value}{W:zC}{r:Nat}{l:List (c×Value)}(d:zq enc W r l){a:Addr}{v:zJ}(b:W.cell? a=some v):a.block≠r:=by intro f;obtain⟨g,h,e,_⟩:=d;unfold World.cell? at b;rw[f,e] at b;simp at b
theorem zh7{c:Type}{enc:c->Value}{W W':zC}{r:Nat}{l:List (c×Value)}(d:zq enc W r l)(f:Mods (fun e=>e=r) W W'){a:Addr}{v:zJ}(b:W.cell? a=some v):W'.cell? a=some v:=by
 have g:a.block<W:=by
  unfold World.cell? at b;cases ho:W.heap[a.block]? with
  |none=>simp[ho] at b
  |some h=>exact(aL ho)
 exact(xA (w:=W) (f.block _ g (zod d b))).trans b
theorem ql.keepM{m:Type}{enc:m->Value}{n r:Nat}{q:zJ}{p:List Nat}{o:List zV}{W W':zC}{l:List (m×Value)}(d:ql n q p o W)(i:zq enc W r l)(b:Mods (fun a=>a=r) W W'):ql n q p o W' where
 c:=zh7 i b d.c
 row:=by
  rcases d.row with⟨h,v⟩|⟨a,w,z,h,j,e,t⟩
  ·exact .inl ⟨h,v⟩
  ·exact .inr ⟨a,w,z,h,j,zg e b.size,fun x y s g k f=>zh7 i b (t x y s g k f)⟩
 len:=d.len
 nodes:=fun u a A j e g k f=>zh7 i b (d.nodes u a A j e g k f)
def vy(l:List (Nat×zV))(c:List (zF×Value)):List (zF×Value):=l.foldl (fun b a=>xT b a.2.id (zB a.1)) c
theorem zoe(l:List (Nat×zV))(x:Nat×zV)(a:List (zF×Value)):vy (l++[x]) a=xT (vy l a) x.2.id (zB x.1):=by simp[vy]
theorem zvh(a:zJ)(w:zC)(d:a.oneCell'=true):Calls zD 125 #[a] w fun c b=>c= .returned (.func (.func 193) #[] #[w])/\b=w.alloc (.cells #[a] 108):=by go_enter Tryz.func125,Tryz.ntmps125;go_wp2;go_ret;exact⟨rfl,rfl⟩
def zvi(n:Nat)(x:zF)(f b:List (zF×Value))(g d:zJ)(a:List zV)(w:zC)(e:Ending)(w':zC):Prop:=
 e= .returned ((xD (vy (xw a a.length) b) x).getD (zB 0))/\yE n w' f (vy (xw a a.length) b) g d true/\Mods (fun c=>c=n+5\/c=n+6) w w'
theorem zof(n ai:Nat)(x:zF)(I u:List (zF×Value))(z X:zJ)(aj:List Nat)(l:List zV)(w:zC)(g:yE n w I u z X false)(K:ql n z aj l w)(O:xD I x=some (zo ai)):
 Calls zD 137 #[(n+6:),.agg #[x.c,x.k]] w (zvi n x I u z X l w):=by
 have bu:=g.lt;have aH:=fun a=>(yi (n:=11)).2 (zvh (n+6:) a rfl);have bP:Fence.wide.fn 125:=trivial;have bO:∀w,(binOp BinOp.eql 256 ai (.pointer none)).run zD w= .ok (.bool false) w:=fun w=>oe;refine(yi (n:=12)).1 (callsIn_of_wp_marks zj5 rfl trivial ?_ rfl);simp only[zj6,yw,z7,xB,Nat.reduceAdd,Nat.reduceSub,qK,qL,qM,qN,xu,yD];gi_wp2;generalize a1:World.alloc _ _=a;obtain⟨Y,bf,W,-⟩:=aJ a1;have ar:=aC bf 0;have aq:=aC W 0;have ah:=aC W 1;have R:=aL W;clear a1 bf W;have B:=g.keep fun b C=>Y.block b oa;have bn:=aU ar;have bq:=aU aq;have bJ:=aU ah;have bB:∀i:zM a,i.val.cell? (n+6:)=some (.map (some (n+4))):=zM.cell B.lt (B.cell 0 _ rfl);have au:∀i:zM a,(Instr.lookup 205 (.map (some (n+4))) (.agg #[x.c,x.k]) false).run zD i.val= .ok ai i.val:=fun i=>by have:=zh9 (zf2 B i) x;rwa[O] at this
 refine vj.2 ?_;refine aQ ?_;intro W' hC' hBW';have H:=Y.trans (hBW'.mono Y.size);have az:=(hBW'.cell (p:=w) oq).trans ar;have a8:=(hBW'.cell (p:=(w.heap.size+1:)) R).trans aq;have a9:=(hBW'.cell (p:=(w.heap.size+1,1)) R).trans ah;have ap:=zg R hBW'.size;clear bn bq bJ bB au hC' B Y ar aq ah R hBW' a;have B:=g.keep fun b C=>H.block b oa;have ae:W'.cell? (n+6,4)=some (.bool false):=B.cell 4 _ rfl;unfold Exit.then;dsimp only;gi_step;gi_step;gi_step;gi_wp2_with (gi_at_call 125;refine(aH _).mono ?_;rintro am ab ⟨rfl,rfl⟩);have bo:=H.size;generalize V:World.alloc _ _=d;obtain⟨-,a5,aZ⟩:=aF V;have F:Below w w d:=by subst V;exact H.alloc H.size _
 have o:Below W' W' (W'.alloc (.cells #[(n+6:)] 108)):=aA;have bc:=aC a5 0;have an:=(o.cell (p:=w) oq).trans az;have a0:=(o.cell (p:=(w.heap.size+1:)) ap).trans a8;have a6:=(o.cell (p:=(w.heap.size+1,1)) ap).trans a9;try simp only[V] at an a0 a6
 clear V a5;have v:yE n d I u z X false:=g.keep fun b C=>F.block b oa;have bH:ql n z aj l d:=⟨(F.cell (p:=(n+6,1)) bu).trans K.c,K.row.below F,K.len,fun k b G c f M bi ad=>by
  have s:=K.nodes k b G c f M bi ad;have bI:b<w:=by
   unfold World.cell? at s;cases ho:w.heap[b]? with
   |none=>simp[ho] at s
   |some bN=>exact(aL ho)
  exact(F.cell (p:=(b,M)) bI).trans s⟩
 clear o B ae H az a8 a9 aH K;generalize W'.heap.size=bd at bo bc aZ ap ⊢;clear W';refine zc4 (α:=Nat×zV) (gf:=193) (lb:=#[bd]) (encs:=jr) (S:=fun a7=>a7=xw l l.length) (N:=l.length) rfl oa rfl trivial (enters_of zfm oe rfl) (fun _=>rfl)
  (fun t a=>Mods (fun b=>b=n+5) d a/\zq xV a (n+5) (vy t u)) (fun b=>b=n+5) ?hIp ?h0 ?hround ?hseq ?hdone
 case hIp=>rintro t a bb q ⟨c,f⟩ bR;exact⟨⟨c.os,c.tape,c.output,by simpa[World.putObj] using c.size,fun k j g=>(World.putObj_heap_other oa).trans (c.block k j g)⟩,f.blk (World.putObj_heap_other oa)⟩
 case h0=>intro bb;exact⟨((Mods.refl _ _).alloc _).alloc _,v.at_.blk ((yV _ _ _ oi).trans (yV _ _ _ oa))⟩
 case hseq=>
  rintro bz ad a ⟨c,f⟩ bj;refine zoW n bd 11 (d.heap.size+1) oa z aj l (yJ d bz) (fun t a=>Mods (fun b=>b=n+5) d a/\zq xV a (n+5) (vy t u)) ?_ ?_ a ⟨c,f⟩ bj
  ·rintro t a ⟨c,f⟩;exact⟨bH.keepM v.at_ c,zh7 v.at_ c bc⟩
  ·rintro t x a ⟨c,f⟩ D O;exact(zel (ad t x a ⟨c,f⟩ D O)).mono fun am W' ⟨br,bA,bC,_⟩=>⟨br,bA,bC⟩
 case hdone=>
  rintro a7 a rfl ⟨c,f⟩ ag;have L:=c.size;have ak:=aL ag;have Z:a.cell? w=(n+6:):=(xA (w:=d) (c.block w oa oa)).trans an;have aa:yE n a I (vy (xw l l.length) u) z X false:=⟨v.all.blk (c.block _ oa oa),f,(c.block _ v.lt oa).trans v.sq⟩;have aw:a.cell? (w.heap.size+1:)=x.c:=(xA (w:=d) (c.block (w.heap.size+1) oa oa)).trans a0;have ax:a.cell? (w.heap.size+1,1)=x.k:=(xA (w:=d) (c.block (w.heap.size+1) oa oa)).trans a6;have bE:=aa.frz 4;have ae:a.cell? (n+6,4)=some (.bool false):=aa.cell 4 _ rfl;gi_wp2;generalize y:World.setCell _ _ _=e;have m:Mods (fun b=>b=n+5\/b=n+6) d e:=by subst y;exact(c.mono fun b C=> .inl C).setC (.inl (.inr rfl)) _
  have A:=aa.setFresh true;have bx:e.heap[d.heap.size]?=some (.deferred (some [])):=by subst y;exact(zZ _ _ _ _ (by show ¬d.heap.size=n+6;omega)).trans ag
  have bh:e.heap.size=a:=by subst y;simp
  have av:e.cell? w=(n+6:):=by subst y;exact(xA (w:=a) (zZ _ _ _ _ (by show ¬w.heap.size=n+6;omega))).trans Z
  have bD:e.cell? (w.heap.size+1:)=x.c:=by subst y;exact(xA (w:=a) (zZ _ _ _ _ (by show ¬w.heap.size+1=n+6;omega))).trans aw
  have bv:e.cell? (w.heap.size+1,1)=x.k:=by subst y;exact(xA (w:=a) (zZ _ _ _ _ (by show ¬w.heap.size+1=n+6;omega))).trans ax
  try simp only[y] at A
  clear y;have bp:=aU av;have bL:∀i:zM e,i.val.cell? (n+6,3)=some (.map (some (n+5))):=zM.cell A.lt (A.cell 3 _ rfl);have bK:=aU bD;have bF:=aU bv;have au:∀i:zM e,(Instr.lookup 206 (.map (some (n+5))) (.agg #[x.c,x.k]) false).run zD i.val= .ok ((xD (vy (xw l l.length) u) x).getD (zB 0)) i.val:=fun i=>zop (zf2 A i) x;have bl:d.heap.size<e.heap.size:=oa;obtain⟨bm,ao⟩:=aY ((xD (vy (xw l l.length) u) x).getD (zB 0));rw[ao] at au;have bs:=zA ao;clear ao bE ae aw ax Z ag f aa bh c L ak a;refine vj.2 ?_;refine aQ ?_;intro W' hC' hBW';unfold Exit.then;dsimp only;try gi_step
  try gi_step
  try gi_step
  gi_wp2;have bG:=(hBW'.block _ bl).trans bx;have J:Mods (fun b=>b=n+5\/b=n+6) w W':=((Mods.of_below F).trans m).trans (Mods.of_below hBW');have a2:=A.keep fun b C=>hBW'.block b (by have:=A.lt;omega);refine⟨oh,.inl ⟨_,_,rfl,run_takeDeferred bG,⟨_,zcI rfl _ _ _,?_,?_,?_⟩⟩⟩
  ·show Ending.returned bm=_;rw[bs.o]
  ·exact a2.keep fun b C=>World.putObj_heap_other oa
  ·exact⟨J.os,J.tape,J.output,by simpa[World.putObj] using J.size,fun k j g=>(World.putObj_heap_other oa).trans (J.block k j g)⟩
 case hround=>
  rintro t ⟨M,G⟩ a bb ⟨c,f⟩ D O;unfold jr zby zac;gi_wp2;have bM:=aL D.1;have A:=c.size;generalize a4:World.alloc _ _=r;obtain⟨o,af,L⟩:=aF a4;have u0:=aC af 0;have u1:=aC af 1;clear a4 af;refine⟨D.keep fun k j=>o.block k oa,Mods.of_below o,fun q=> ?_⟩;have al:yJ d q (r.putObj (d.heap.size+1) (.loop q)):=(D.keep fun k j=>o.block k oa).put q;have m:Mods (fun b=>b=n+5) d (r.putObj (d.heap.size+1) (.loop q)):=by have s:=c.trans (Mods.of_below o);exact⟨s.os,s.tape,s.output,by simpa[World.putObj] using s.size,fun k j g=>(World.putObj_heap_other oa).trans (s.block k j g)⟩
  have aP:zq xV (r.putObj (d.heap.size+1) (.loop q)) (n+5) (vy t u):=f.blk ((World.putObj_heap_other oa).trans (o.block _ oa));have be:(r.putObj (d.heap.size+1) (.loop q)).cell? a=G.id.c:=(xA (w:=r) (World.putObj_heap_other (by show a.heap.size≠_;omega))).trans u0;have ba:(r.putObj (d.heap.size+1) (.loop q)).cell? (a,1)=G.id.k:=(xA (w:=r) (World.putObj_heap_other (by show a.heap.size≠_;omega))).trans u1;have ak:(r.putObj (d.heap.size+1) (.loop q)).heap.size=a+1:=by simpa[World.putObj] using L
  clear u0 u1 L o D c f;generalize r.putObj (d.heap.size+1) (.loop q)=e at al m aP be ba ak ⊢;clear r;have a2:=m.size;have Z:e.cell? w=(n+6:):=(xA (w:=d) (m.block w oa oa)).trans an;have av:e.cell? (n+6,3)=some (.map (some (n+5))):=(xA (w:=d) (m.block (n+6) v.lt oa)).trans (v.cell 3 _ rfl);have bp:=aV Z;have bL:=aV av;have bK:=aV be;have bF:=aV ba;obtain⟨a3,bg,bt⟩:=zb8 vb (T:=206) (E:=3) oe (aP.blk (w':=e.drew) rfl) G.id (zB M);unfold xV at bg;generalize a.heap.size=bQ at *;gi_wp2;refine zcU 7 [0,1,2,3,4,5,6] [7] (fun ab=>∃i:zI zX e,ab=i.val) oe oe oe (fun⟨_,_,h⟩=>by have f:Exit.outgrown=Exit.normal:=And.left h;cases f) (fun _ _ bw _ _ h=>by cases bw<;> exact h) (zI.to (Mods.refl _ _).drew) ?_;simp only[xd,yl,vN,jn,vq];refine aR ?_;refine aS ?_;go_wp2;refine xE ?_;have ac:∀k,k≠n+5->(xF e.drew (n+5) a3).heap[k]?=e.heap[k]?:=fun k j=>qV (w:=e.drew) j;have ay:(xF e.drew (n+5) a3).heap.size=e:=vH _ _ _;gi_wp2;rw[aZ] at al;exact⟨al.keep fun k j=>ac k oa,⟨rfl,rfl,rfl,zaI ay.symm,fun k j g=>ac k (fun am=>g (.inl am))⟩,⟨m.os,m.tape,m.output,by rw[ay];exact m.size,fun k j g=>(ac k g).trans (m.block k j g)⟩,by rw[zoe];exact bt⟩
end
structure zp where
 len:Nat
 u:Nat->zV
 par:Nat->Option Nat
 lf:Nat->List Nat
 rt:Nat->List Nat
 sz:Nat->Nat
 ord:List Nat
 root:List Nat
 find:zF->Option Nat
structure xC where
 am:List (zF×Value)
 om:List (zF×Value)
 bl:Nat->Nat
 ov:Value
 rv:Value
 lv:Nat->Value
 mv:Nat->Value
 fr:Bool
 role:Nat->Nat
def xs(L:xC)(p:Option Nat):Value:=match p with
 |none=> .pointer none
 |some k=>zo (L.bl k)
structure xg(n base:Nat)(W:zC)(L:xC)(D:zp):Prop where
 lo:n+6<base
 hi:base<=W
 m:yE n W L.am L.om L.ov L.rv L.fr
 all:∀x,xD L.am x=(D.find x).map fun k=>zo (L.bl k)
 at_:L.fr=true->∀(i k:Nat),D.ord[i]?=some k->xD L.om (D.u k).id=(zB i)
 blo:∀k,k<D.len->base<=L.bl k
 inj:∀j k,j<D.len->k<D.len->L.bl j=L.bl k->j=k
 node:∀k,k<D.len->xa W (L.bl k) (D.u k) (xs L (D.par k)) (L.lv k) (L.mv k) (D.sz k)
 order:zG base 256 1 z6 W L.ov (D.ord.map L.bl)
 rootr:zG base 256 1 z6 W L.rv (D.root.map L.bl)
 lefts:∀k,k<D.len->zG base 256 1 z6 W (L.lv k) ((D.lf k).map L.bl)
 rights:∀k,k<D.len->zG base 256 1 z6 W (L.mv k) ((D.rt k).map L.bl)
 ro:∀b,L.ov.ownBlock=some b->L.role b=0
 rr:∀b,L.rv.ownBlock=some b->L.role b=1
 rl:∀k b,k<D.len->(L.lv k).ownBlock=some b->L.role b=2*k+2
 rm:∀k b,k<D.len->(L.mv k).ownBlock=some b->L.role b=2*k+3
 inord:∀k,k∈D.ord->k<D.len
 inroot:∀k,k∈D.root->k<D.len
 inlf:∀k c,k<D.len->c∈D.lf k->c<D.len
 inrt:∀k c,k<D.len->c∈D.rt k->c<D.len
 inpar:∀k p,k<D.len->D.par k=some p->p<D.len
 infind:∀x k,D.find x=some k->k<D.len
def zy(n:Nat)(L:xC)(D:zp)(b:Nat):Prop:=
 b=n+4\/b=n+5\/b=n+6\/L.ov.ownBlock=some b\/L.rv.ownBlock=some b\/∃k,k<D.len/\(b=L.bl k\/(L.lv k).ownBlock=some b\/(L.mv k).ownBlock=some b)
theorem xg.keep{n base:Nat}{W W':World}{L:xC}{D:zp}(a:xg n base W L D)(e:W.heap.size<=W'.heap.size)(d:∀b,zy n L D b->W'.heap[b]?=W.heap[b]?):xg n base W' L D where
 lo:=a.lo
 hi:=zk a.hi e
 m:=a.m.keep fun b f=>d b (by unfold zy;omega)
 all:=a.all
 at_:=a.at_
 blo:=a.blo
 inj:=a.inj
 node k hk:=(a.node k hk).keep (d _ (.inr (.inr (.inr (.inr (.inr ⟨k,hk,.inl rfl⟩))))))
 order:=xI a.order fun b c=>d b (.inr (.inr (.inr (.inl c))))
 rootr:=xI a.rootr fun b c=>d b (.inr (.inr (.inr (.inr (.inl c)))))
 lefts k hk:=xI (a.lefts k hk) fun b c=>d b (.inr (.inr (.inr (.inr (.inr ⟨k,hk,.inr (.inl c)⟩)))))
 rights k hk:=xI (a.rights k hk) fun b c=>d b (.inr (.inr (.inr (.inr (.inr ⟨k,hk,.inr (.inr c)⟩)))))
 ro:=a.ro
 rr:=a.rr
 rl:=a.rl
 rm:=a.rm
 inord:=a.inord
 inroot:=a.inroot
 inlf:=a.inlf
 inrt:=a.inrt
 inpar:=a.inpar
 infind:=a.infind
theorem xg.foot_lt{n base:Nat}{W:zC}{L:xC}{D:zp}(c:xg n base W L D):∀a,zy n L D a->a<W.heap.size:=by
 have f:=c.m.lt;rintro a (rfl|rfl|rfl|b|b|⟨e,d,rfl|b|b⟩)
 ·omega
 ·omega
 ·exact f
 ·exact xJ c.order a b
 ·exact xJ c.rootr a b
 ·exact(c.node e d).lt
 ·exact xJ (c.lefts e d) a b
 ·exact xJ (c.rights e d) a b
theorem xg.below{n base:Nat}{W W':zC}{L:xC}{D:zp}(b:xg n base W L D)(a:Below W W W'):xg n base W' L D:=b.keep a.size fun c d=>a.block c (b.foot_lt c d)
theorem xg.mods{n base:Nat}{W W':zC}{L:xC}{D:zp}{G:Nat->Prop}(b:xg n base W L D)(d:Mods G W W')(e:∀a,zy n L D a->¬G a):xg n base W' L D:=b.keep d.size fun a c=>d.block a (b.foot_lt a c) (e a c)
theorem xg.ne6{n base:Nat}{W:zC}{L:xC}{D:zp}(e:xg n base W L D):(∀b,L.ov.ownBlock=some b->n+6<b)/\(∀b,L.rv.ownBlock=some b->n+6<b)/\(∀c,c<D.len->n+6<L.bl c)/\(∀c b,c<D.len->(L.lv c).ownBlock=some b->n+6<b)/\(∀c b,c<D.len->(L.mv c).ownBlock=some b->n+6<b):=by
 have g:=e.lo;refine⟨fun b d=> ?_,fun b d=> ?_,fun c f=> ?_,fun c b f d=> ?_,fun c b f d=> ?_⟩
 ·have:=(ya e.order b d).1;omega
 ·have:=(ya e.rootr b d).1;omega
 ·have:=e.blo c f;omega
 ·have:=(ya (e.lefts c f) b d).1;omega
 ·have:=(ya (e.rights c f) b d).1;omega
theorem zbv{n base:Nat}{W:zC}{L:xC}{D:zp}(a:xg n base W L D){v:zJ}{l:List Nat}(c:zG base 256 1 z6 W v l){k:Nat}(b:k<D.len):v.ownBlock≠some (L.bl k):=zc8 c (a.node k b)
theorem xg.congr{n base:Nat}{W:zC}{L:xC}{D e:zp}(d:xg n base W L D)(g:e.len=D.len)(f:∀a,a<D.len->e.u a=D.u a/\e.par a=D.par a/\e.lf a=D.lf a/\e.rt a=D.rt a/\e.sz a=D.sz a)(e2:e.ord=D.ord)(l:e.root=D.root)(k:∀h,e.find h=D.find h):xg n base W L e where
 lo:=d.lo
 hi:=d.hi
 m:=d.m
 all h:=by rw[k];exact d.all h
 at_ hf i a hk:=by rw[e2] at hk;have:=d.inord a (xn hk);rw[(f a this).1];exact d.at_ hf i a hk
 blo a hk:=d.blo a oa
 inj j a hj hk:=d.inj j a oa oa
 node a hk:=by obtain⟨r,o,s,t,q⟩:=f a oa;rw[r,o,q];exact d.node a oa
 order:=by rw[e2];exact d.order
 rootr:=by rw[l];exact d.rootr
 lefts a hk:=by rw[(f a (by omega)).2.2.1];exact d.lefts a (by omega)
 rights a hk:=by rw[(f a (by omega)).2.2.2.1];exact d.rights a (by omega)
 ro:=d.ro
 rr:=d.rr
 rl a b hk:=d.rl a b oa
 rm a b hk:=d.rm a b oa
 inord a hk:=by rw[e2] at hk;rw[g];exact d.inord a hk
 inroot a hk:=by rw[l] at hk;rw[g];exact d.inroot a hk
 inlf a c hk hc:=by rw[(f a (by omega)).2.2.1] at hc;rw[g];exact d.inlf a c (by omega) hc
 inrt a c hk hc:=by rw[(f a (by omega)).2.2.2.1] at hc;rw[g];exact d.inrt a c (by omega) hc
 inpar a p hk hp:=by rw[(f a (by omega)).2.1] at hp;rw[g];exact d.inpar a p (by omega) hp
 infind h a hx:=by rw[k] at hx;rw[g];exact d.infind h a hx
def zm{α:Type}(f:Nat->α)(k:Nat)(v:α):Nat->α:=fun j=>if j=k then v else f j
theorem xR{α:Type}(f:Nat->α)(k:Nat)(v:α):zm f k v k=v:=zP rfl
theorem z8{α:Type}(f:Nat->α){k:Nat}(v:α){j:Nat}(h:j≠k):zm f k v j=f j:=zN h
theorem xa.setL{W:zC}{b:Nat}{u:zV}{p l r:zJ}{s:Int}(h:xa W b u p l r s)(v:zJ):xa (W.setCell (b,7) v) b u p v r s:=by unfold xa at *;simp[World.setCell,zu,h,jE]
theorem xg.setNode {n base:Nat}{W W':World}{L:xC}{D:zp}(a:xg n base W L D){k:Nat}(h:k<D.len) (p:Option Nat) (s:Nat) (o:∀g,p=some g->g<D.len) (i:W.heap.size<=W'.heap.size)
 (e:∀c,c≠L.bl k->c<W.heap.size->W'.heap[c]?=W.heap[c]?) (l:xa W' (L.bl k) (D.u k) (xs L p) (L.lv k) (L.mv k) s):
 xg n base W' L {D with par:=zm D.par k p,sz:=zm D.sz k s} where
 lo:=a.lo
 hi:=zk a.hi i
 m:=a.m.keep fun c q=>e c (by have:=a.ne6.2.2.1 k h;omega) (by have:=a.m.lt;omega)
 all:=a.all
 at_:=a.at_
 blo:=a.blo
 inj:=a.inj
 node j hj:=by
  show xa W' (L.bl j) (D.u j) (xs L (zm D.par k p j)) (L.lv j) (L.mv j) (zm D.sz k s j:Nat);by_cases b:j=k
  ·subst b;rw[xR,xR];exact l
  ·rw[z8 _ _ b,z8 _ _ b];exact(a.node j hj).keep (e _ (fun d=>b (a.inj _ _ hj h d)) (a.node j hj).lt)
 order:=xI a.order fun c b=>e c (fun d=>zbv a a.order h (by rw[b,d])) (xJ a.order c b)
 rootr:=xI a.rootr fun c b=>e c (fun d=>zbv a a.rootr h (by rw[b,d])) (xJ a.rootr c b)
 lefts j hj:=xI (a.lefts j hj) fun c b=>e c (fun d=>zbv a (a.lefts j hj) h (by rw[b,d])) (xJ (a.lefts j hj) c b)
 rights j hj:=xI (a.rights j hj) fun c b=>e c (fun d=>zbv a (a.rights j hj) h (by rw[b,d])) (xJ (a.rights j hj) c b)
 ro:=a.ro
 rr:=a.rr
 rl:=a.rl
 rm:=a.rm
 inord:=a.inord
 inroot:=a.inroot
 inlf:=a.inlf
 inrt:=a.inrt
 inpar j g hj f:=by
  replace f:zm D.par k p j=some g:=f;by_cases b:j=k
  ·subst b;rw[xR] at f;exact o g f
  ·rw[z8 _ _ b] at f;exact a.inpar j g hj f
 infind:=a.infind
theorem xg.setLf{n base:Nat}{W W':zC}{L:xC}{D:zp}(d:xg n base W L D){p:Nat}(r:p<D.len){l:List Nat}{v:zJ}(C:zbQ base (L.lv p) (l.map L.bl) W v W')(G:∀s,s∈l->s<D.len):
 xg n base (W'.setCell (L.bl p,7) v) {L with lv:=zm L.lv p v,role:=fun a=>if v.ownBlock=some a then 2*p+2 else L.role a} {D with lf:=zm D.lf p l}:=by
 obtain⟨I,y,z⟩:=C;have w:∀a,a<W.heap.size->a≠L.bl p->(L.lv p).ownBlock≠some a->(W'.setCell (L.bl p,7) v).heap[a]?=W.heap[a]?:=fun a h k g=>(zZ _ _ _ _ (by show ¬a=L.bl p;exact k)).trans (y.block a h (fun b=>g b.symm));have H:W.heap.size<=(W'.setCell (L.bl p,7) v).heap.size:=by rw[zea];exact y.size
 have B:∀(f:Nat) (a:Nat),f≠2*p+2->L.role a=f->a<W->v.ownBlock≠some a/\(L.lv p).ownBlock≠some a:=fun f a h k g=>by
  have A:(L.lv p).ownBlock≠some a:=fun b=>h (by rw[<-k,d.rl p a r b]);refine⟨fun b=> ?_,A⟩;rcases z with j|j
  ·exact A (j.symm.trans b)
  ·rw[j] at b;cases b;omega
 obtain⟨N,R,F,E,O⟩:=d.ne6;have x:∀c,c<D.len->(L.lv p).ownBlock≠some (L.bl c):=fun c e=>zbv d (d.lefts p r) e;have M:∀a,(L.lv p).ownBlock=some a->n+6<a:=fun a b=>E p a r b;have u:∀{i:zJ}{o:List Nat}(f:Nat),f≠2*p+2->(∀a,i.ownBlock=some a->L.role a=f)->zG base 256 1 z6 W i o->zG base 256 1 z6 (W'.setCell (L.bl p,7) v) i o:=fun {i o} f h k g=>xI g fun a b=>w a (xJ g a b) (fun m=>zbv d g r (by rw[b,m])) (B f a h (k a b) (xJ g a b)).2;have t:∀{i:zJ}{o:List Nat}(f:Nat),f≠2*p+2->(∀a,i.ownBlock=some a->L.role a=f)->zG base 256 1 z6 W i o->∀a,i.ownBlock=some a->(if v.ownBlock=some a then 2*p+2 else L.role a)=f:=fun {i o} f h k g a b=>by rw[zN (B f a h (k a b) (xJ g a b)).1];exact k a b
 have K:∀a,a=n+4\/a=n+5\/a=n+6->(W'.setCell (L.bl p,7) v).heap[a]?=W.heap[a]?:=fun a j=>w a (by have:=d.m.lt;omega) (by have:=F p r;omega) (fun b=>by have:=M a b;omega);exact {
  lo:=d.lo
  hi:=zk d.hi H
  m:=d.m.keep K
  all:=d.all
  at_:=d.at_
  blo:=d.blo
  inj:=d.inj
  node:=fun c e=>by
   have J:xs {L with lv:=zm L.lv p v,role:=fun a=>if v.ownBlock=some a then 2*p+2 else L.role a} (D.par c)=xs L (D.par c):=(by unfold xs;rfl);rw[J];show xa _ (L.bl c) (D.u c) (xs L (D.par c)) (zm L.lv p v c) (L.mv c) (D.sz c);by_cases b:c=p
   ·subst b;rw[xR];have h:xa W' (L.bl c) (D.u c) (xs L (D.par c)) (L.lv c) (L.mv c) (D.sz c):=(d.node c e).keep (y.block _ (d.node c e).lt (fun b=>x c e b.symm));exact h.setL v
   ·rw[z8 _ _ b];exact(d.node c e).keep (w _ (d.node c e).lt (fun m=>b (d.inj _ _ e r m)) (x c e))
  order:=u 0 oa d.ro d.order
  rootr:=u 1 oa d.rr d.rootr
  lefts:=fun c e=>by
   show zG base 256 1 z6 _ (zm L.lv p v c) ((zm D.lf p l c).map L.bl);by_cases b:c=p
   ·subst b;rw[xR,xR];exact xI I fun a b=>zZ _ _ _ _ (by
     show ¬a=L.bl c;intro m;rcases z with j|j
     ·exact x c e (by rw[<-j,b,m])
     ·rw[j] at b;cases b;have:=(d.node c e).lt;omega)
   ·rw[z8 _ _ b,z8 _ _ b];exact u (2*c+2) oa (fun a b=>d.rl c a e b) (d.lefts c e)
  rights:=fun c e=>u (2*c+3) oa (fun a b=>d.rm c a e b) (d.rights c e)
  ro:=t 0 oa d.ro d.order
  rr:=t 1 oa d.rr d.rootr
  rl:=fun c a e b=>by
   replace b:(zm L.lv p v c).ownBlock=some a:=b;by_cases m:c=p
   ·subst m;rw[xR] at b;exact zP b
   ·rw[z8 _ _ m] at b;exact t (2*c+2) oa (fun a b=>d.rl c a e b) (d.lefts c e) a b
  rm:=fun c a e b=>t (2*c+3) oa (fun a b=>d.rm c a e b) (d.rights c e) a b
  inord:=d.inord
  inroot:=d.inroot
  inlf:=fun c s e q=>by
   replace q:s∈zm D.lf p l c:=q;by_cases b:c=p
   ·subst b;rw[xR] at q;exact G s q
   ·rw[z8 _ _ b] at q;exact d.inlf c s e q
  inrt:=d.inrt
  inpar:=d.inpar
  infind:=d.infind}
theorem xg.setRt{n base:Nat}{W W':zC}{L:xC}{D:zp}(d:xg n base W L D){p:Nat}(r:p<D.len){l:List Nat}{v:zJ}(C:zbQ base (L.mv p) (l.map L.bl) W v W')(F:∀s,s∈l->s<D.len):
 xg n base (W'.setCell (L.bl p,8) v) {L with mv:=zm L.mv p v,role:=fun a=>if v.ownBlock=some a then 2*p+3 else L.role a} {D with rt:=zm D.rt p l}:=by
 obtain⟨H,y,z⟩:=C;have w:∀a,a<W.heap.size->a≠L.bl p->(L.mv p).ownBlock≠some a->(W'.setCell (L.bl p,8) v).heap[a]?=W.heap[a]?:=fun a h k g=>(zZ _ _ _ _ (by show ¬a=L.bl p;exact k)).trans (y.block a h (fun b=>g b.symm));have G:W.heap.size<=(W'.setCell (L.bl p,8) v).heap.size:=by rw[zea];exact y.size
 have B:∀(f:Nat) (a:Nat),f≠2*p+3->L.role a=f->a<W->v.ownBlock≠some a/\(L.mv p).ownBlock≠some a:=fun f a h k g=>by
  have A:(L.mv p).ownBlock≠some a:=fun b=>h (by rw[<-k,d.rm p a r b]);refine⟨fun b=> ?_,A⟩;rcases z with j|j
  ·exact A (j.symm.trans b)
  ·rw[j] at b;cases b;omega
 obtain⟨N,R,E,O,I⟩:=d.ne6;have x:∀c,c<D.len->(L.mv p).ownBlock≠some (L.bl c):=fun c e=>zbv d (d.rights p r) e;have M:∀a,(L.mv p).ownBlock=some a->n+6<a:=fun a b=>I p a r b;have u:∀{i:zJ}{o:List Nat}(f:Nat),f≠2*p+3->(∀a,i.ownBlock=some a->L.role a=f)->zG base 256 1 z6 W i o->zG base 256 1 z6 (W'.setCell (L.bl p,8) v) i o:=fun {i o} f h k g=>xI g fun a b=>w a (xJ g a b) (fun m=>zbv d g r (by rw[b,m])) (B f a h (k a b) (xJ g a b)).2;have t:∀{i:zJ}{o:List Nat}(f:Nat),f≠2*p+3->(∀a,i.ownBlock=some a->L.role a=f)->zG base 256 1 z6 W i o->∀a,i.ownBlock=some a->(if v.ownBlock=some a then 2*p+3 else L.role a)=f:=fun {i o} f h k g a b=>by rw[zN (B f a h (k a b) (xJ g a b)).1];exact k a b
 have K:∀a,a=n+4\/a=n+5\/a=n+6->(W'.setCell (L.bl p,8) v).heap[a]?=W.heap[a]?:=fun a j=>w a (by have:=d.m.lt;omega) (by have:=E p r;omega) (fun b=>by have:=M a b;omega);exact {
  lo:=d.lo
  hi:=zk d.hi G
  m:=d.m.keep K
  all:=d.all
  at_:=d.at_
  blo:=d.blo
  inj:=d.inj
  node:=fun c e=>by
   have J:xs {L with mv:=zm L.mv p v,role:=fun a=>if v.ownBlock=some a then 2*p+3 else L.role a} (D.par c)=xs L (D.par c):=(by unfold xs;rfl);rw[J];show xa _ (L.bl c) (D.u c) (xs L (D.par c)) (L.lv c) (zm L.mv p v c) (D.sz c);by_cases b:c=p
   ·subst b;rw[xR];have h:xa W' (L.bl c) (D.u c) (xs L (D.par c)) (L.lv c) (L.mv c) (D.sz c):=(d.node c e).keep (y.block _ (d.node c e).lt (fun b=>x c e b.symm));exact h.setR v
   ·rw[z8 _ _ b];exact(d.node c e).keep (w _ (d.node c e).lt (fun m=>b (d.inj _ _ e r m)) (x c e))
  order:=u 0 oa d.ro d.order
  rootr:=u 1 oa d.rr d.rootr
  rights:=fun c e=>by
   show zG base 256 1 z6 _ (zm L.mv p v c) ((zm D.rt p l c).map L.bl);by_cases b:c=p
   ·subst b;rw[xR,xR];exact xI H fun a b=>zZ _ _ _ _ (by
     show ¬a=L.bl c;intro m;rcases z with j|j
     ·exact x c e (by rw[<-j,b,m])
     ·rw[j] at b;cases b;have:=(d.node c e).lt;omega)
   ·rw[z8 _ _ b,z8 _ _ b];exact u (2*c+3) oa (fun a b=>d.rm c a e b) (d.rights c e)
  lefts:=fun c e=>u (2*c+2) oa (fun a b=>d.rl c a e b) (d.lefts c e)
  ro:=t 0 oa d.ro d.order
  rr:=t 1 oa d.rr d.rootr
  rm:=fun c a e b=>by
   replace b:(zm L.mv p v c).ownBlock=some a:=b;by_cases m:c=p
   ·subst m;rw[xR] at b;exact zP b
   ·rw[z8 _ _ m] at b;exact t (2*c+3) oa (fun a b=>d.rm c a e b) (d.rights c e) a b
  rl:=fun c a e b=>t (2*c+2) oa (fun a b=>d.rl c a e b) (d.lefts c e) a b
  inord:=d.inord
  inroot:=d.inroot
  inrt:=fun c s e q=>by
   replace q:s∈zm D.rt p l c:=q;by_cases b:c=p
   ·subst b;rw[xR] at q;exact F s q
   ·rw[z8 _ _ b] at q;exact d.inrt c s e q
  inlf:=d.inlf
  inpar:=d.inpar
  infind:=d.infind}
def zp.newP(D:zp)(u:zV)(a:Option Nat)(s:Nat):zp:={D with len:=D.len+1,u:=zm D.u D.len u,par:=zm D.par D.len a,lf:=zm D.lf D.len [],rt:=zm D.rt D.len [],sz:=zm D.sz D.len s}
def zp.new(D:zp)(u:zV):zp:=D.newP u none 1
def xC.new(L:xC)(k b:Nat):xC:={L with bl:=zm L.bl k b,lv:=zm L.lv k (),mv:=zm L.mv k ()}
theorem zh8{α:Type}(f:Nat->α)(k:Nat)(v:α)(l:List Nat)(b:∀a,a∈l->a≠k):l.map (zm f k v)=l.map f:=zbI fun a c=>z8 _ _ (b a c)
theorem xg.newP{n base:Nat}{W:World}{L:xC}{D:zp}(f:xg n base W L D)(u:zV)(r:Option Nat)(s:Nat)(z:∀i,r=some i->i<D.len){b:Nat}(C:W.heap.size<=b){W':World}(G:W.heap.size<=W'.heap.size)(d:∀a,a<W.heap.size->W'.heap[a]?=W.heap[a]?)(I:xa W' b u (xs L r) (.slice none 0 0) (.slice none 0 0) s):
 xg n base W' (L.new D.len b) (D.newP u r s):=by
 have h:=f.keep G fun a x=>d a (f.foot_lt a x);have p:∀a,a<D.len->a≠D.len:=fun a d=>oa;have A:∀a,a<D.len->L.bl a≠b:=fun a d=>by have:=(f.node a d).lt;omega
 have B:∀k,(∀i,k=some i->i<D.len)->xs (L.new D.len b) k=xs L k:=fun k o=>by
  cases k with
  |none=>rfl
  |some i=>
   show zo (zm L.bl D.len b i)=_;rw[z8 _ _ (p i (o i rfl))];rfl
 exact {
  lo:=h.lo
  hi:=h.hi
  m:=h.m
  all:=fun q=>by
   rw[show(L.new D.len b).am=L.am from rfl,h.all q];show(D.find q).map _=(D.find q).map fun a=>zo (zm L.bl D.len b a);cases y:D.find q with
   |none=>rfl
   |some a=>simp only[zao];rw[z8 _ _ (p a (f.infind q a y))]
  at_:=fun x H a d=>by have:=f.inord a (xn d);show xD L.om (zm D.u D.len u a).id=_;rw[z8 _ _ (p a this)];exact h.at_ x H a d
  blo:=fun a d=>by
   show base<=zm L.bl D.len b a;by_cases c:a=D.len
   ·subst c;rw[xR];exact zk f.hi C
   ·rw[z8 _ _ c];exact f.blo a (by have:a<D.len+1:=d;omega)
  inj:=fun v a F d c=>by
   replace c:zm L.bl D.len b v=zm L.bl D.len b a:=c;have J:v<D.len+1:=F;have l:a<D.len+1:=d;by_cases j:v=D.len<;> by_cases w:a=D.len
   ·omega
   ·subst j;rw[xR,z8 _ _ w] at c;exact absurd c.symm (A a oa)
   ·subst w;rw[xR,z8 _ _ j] at c;exact absurd c (A v oa)
   ·rw[z8 _ _ j,z8 _ _ w] at c;exact f.inj v a oa oa c
  node:=fun a d=>by
   have l:a<D.len+1:=d;show xa W' (zm L.bl D.len b a) (zm D.u D.len u a) (xs (L.new D.len b) (zm D.par D.len r a)) (zm L.lv D.len () a) (zm L.mv D.len () a) (zm D.sz D.len s a:Nat);by_cases c:a=D.len
   ·subst c;simp only[xR];rw[B r z];exact I
   ·simp only[z8 _ _ c];rw[B _ fun i E=>f.inpar a i oa E];exact h.node a oa
  order:=by show zG base 256 1 z6 W' L.ov (D.ord.map (zm L.bl D.len b));rw[zh8 _ _ _ _ fun g e=>p g (f.inord g e)];exact h.order
  rootr:=by show zG base 256 1 z6 W' L.rv (D.root.map (zm L.bl D.len b));rw[zh8 _ _ _ _ fun g e=>p g (f.inroot g e)];exact h.rootr
  lefts:=fun a d=>by
   have l:a<D.len+1:=d;show zG base 256 1 z6 W' (zm L.lv D.len () a) ((zm D.lf D.len [] a).map (zm L.bl D.len b));by_cases c:a=D.len
   ·subst c;rw[xR,xR];exact zG.nil
   ·rw[z8 _ _ c,z8 _ _ c,zh8 _ _ _ _ fun g e=>p g (f.inlf a g oa e)];exact h.lefts a oa
  rights:=fun a d=>by
   have l:a<D.len+1:=d;show zG base 256 1 z6 W' (zm L.mv D.len () a) ((zm D.rt D.len [] a).map (zm L.bl D.len b));by_cases c:a=D.len
   ·subst c;rw[xR,xR];exact zG.nil
   ·rw[z8 _ _ c,z8 _ _ c,zh8 _ _ _ _ fun g e=>p g (f.inrt a g oa e)];exact h.rights a oa
  ro:=h.ro
  rr:=h.rr
  rl:=fun a t d c=>by
   have l:a<D.len+1:=d;replace c:(zm L.lv D.len () a).ownBlock=some t:=c;by_cases j:a=D.len
   ·subst j;rw[xR] at c;cases c
   ·rw[z8 _ _ j] at c;exact h.rl a t oa c
  rm:=fun a t d c=>by
   have l:a<D.len+1:=d;replace c:(zm L.mv D.len () a).ownBlock=some t:=c;by_cases j:a=D.len
   ·subst j;rw[xR] at c;cases c
   ·rw[z8 _ _ j] at c;exact h.rm a t oa c
  inord:=fun a d=>zdf (f.inord a d)
  inroot:=fun a d=>zdf (f.inroot a d)
  inlf:=fun a g d e=>by
   have l:a<D.len+1:=d;replace e:g∈zm D.lf D.len [] a:=e;by_cases c:a=D.len
   ·subst c;rw[xR] at e;cases e
   ·rw[z8 _ _ c] at e;exact zdf (f.inlf a g oa e)
  inrt:=fun a g d e=>by
   have l:a<D.len+1:=d;replace e:g∈zm D.rt D.len [] a:=e;by_cases c:a=D.len
   ·subst c;rw[xR] at e;cases e
   ·rw[z8 _ _ c] at e;exact zdf (f.inrt a g oa e)
  inpar:=fun a k d o=>by
   have l:a<D.len+1:=d;replace o:zm D.par D.len r a=some k:=o;by_cases c:a=D.len
   ·subst c;rw[xR] at o;exact zdf (z k o)
   ·rw[z8 _ _ c] at o;exact zdf (f.inpar a k oa o)
  infind:=fun q a y=>zdf (f.infind q a y)}
theorem xg.new{n base:Nat}{W:World}{L:xC}{D:zp}(d:xg n base W L D)(u:zV){b:Nat}(c:W.heap.size<=b){W':World}(g:W.heap.size<=W'.heap.size)(e:∀a,a<W.heap.size->W'.heap[a]?=W.heap[a]?)(h:xa W' b u (.pointer none) (.slice none 0 0) (.slice none 0 0) 1):
 xg n base W' (L.new D.len b) (D.new u):=d.newP u none 1 (fun i f=>by cases f) c g e h
theorem xg.setOrd{n base:Nat}{W W':zC}{L:xC}{D:zp}(c:xg n base W L D){l:List Nat}{v:zJ}(B:zbQ base L.ov (l.map L.bl) W v W')(G:∀x,x∈l->x<D.len):
 xg n base ((W'.setCell (n+6,1) v).setCell (n+6,4) (.bool false)) {L with ov:=v,fr:=false,role:=fun a=>if v.ownBlock=some a then 0 else L.role a} {D with ord:=l}:=by
 obtain⟨y,t,F⟩:=B;obtain⟨A,I,E,C,H⟩:=c.ne6;have p:∀(r:zC) (d:Nat) (v:zJ) (a:Nat),a≠n+6->(r.setCell (n+6,d) v).heap[a]?=r.heap[a]?:=fun r d v a m=>zZ _ _ _ _ m;have m:∀a,a<W.heap.size->a≠n+6->L.ov.ownBlock≠some a->((W'.setCell (n+6,1) v).setCell (n+6,4) (.bool false)).heap[a]?=W.heap[a]?:=fun a k g i=>(p _ _ _ a g).trans ((p _ _ _ a g).trans (t.block a k (fun b=>i b.symm)));have K:W.heap.size<=((W'.setCell (n+6,1) v).setCell (n+6,4) (.bool false)).heap.size:=by rw[zea,zea];exact t.size
 have z:∀(f:Nat) (a:Nat),f≠0->L.role a=f->a<W->v.ownBlock≠some a/\L.ov.ownBlock≠some a:=fun f a k g i=>by
  have w:L.ov.ownBlock≠some a:=fun b=>k (by rw[<-g,c.ro a b]);refine⟨fun b=> ?_,w⟩;rcases F with o|o
  ·exact w (o.symm.trans b)
  ·rw[o] at b;cases b;omega
 have s:∀{h:zJ}{j:List Nat}(f:Nat),f≠0->(∀a,h.ownBlock=some a->L.role a=f/\n+6<a)->zG base 256 1 z6 W h j->zG base 256 1 z6 ((W'.setCell (n+6,1) v).setCell (n+6,4) (.bool false)) h j:=fun {h j} f k g i=>xI i fun a b=>m a (xJ i a b) (by have:=(g a b).2;omega) (z f a k (g a b).1 (xJ i a b)).2;have q:∀{h:zJ}{j:List Nat}(f:Nat),f≠0->(∀a,h.ownBlock=some a->L.role a=f)->zG base 256 1 z6 W h j->∀a,h.ownBlock=some a->(if v.ownBlock=some a then 0 else L.role a)=f:=fun {h j} f k g i a b=>by rw[zN (z f a k (g a b) (xJ i a b)).1];exact g a b
 have J:yE n W' L.am L.om L.ov L.rv L.fr:=c.m.keep fun a o=>t.block a (by have:=c.m.lt;omega) (fun b=>by have:=A a b.symm;omega);exact {
  lo:=c.lo
  hi:=zk c.hi K
  m:=(J.setOrd v).setFresh false
  all:=c.all
  at_:=fun b=>by cases b
  blo:=c.blo
  inj:=c.inj
  node:=fun d e=>(c.node d e).keep (m _ (c.node d e).lt (by have:=E d e;omega) (zbv c c.order e))
  order:=xI y fun a b=>by have u:a≠n+6:=(by have:=(ya y a b).1;have:=c.lo;omega);exact(p _ _ _ a u).trans (p _ _ _ a u)
  rootr:=s 1 oa (fun a b=>⟨c.rr a b,I a b⟩) c.rootr
  lefts:=fun d e=>s (2*d+2) oa (fun a b=>⟨c.rl d a e b,C d a e b⟩) (c.lefts d e)
  rights:=fun d e=>s (2*d+3) oa (fun a b=>⟨c.rm d a e b,H d a e b⟩) (c.rights d e)
  ro:=fun a b=>zP b
  rr:=q 1 oa c.rr c.rootr
  rl:=fun d a e b=>q (2*d+2) oa (fun a b=>c.rl d a e b) (c.lefts d e) a b
  rm:=fun d a e b=>q (2*d+3) oa (fun a b=>c.rm d a e b) (c.rights d e) a b
  inord:=G
  inroot:=c.inroot
  inlf:=c.inlf
  inrt:=c.inrt
  inpar:=c.inpar
  infind:=c.infind}
theorem xg.setRoot{n base:Nat}{W W':zC}{L:xC}{D:zp}(c:xg n base W L D){l:List Nat}{v:zJ}(A:zbQ base L.rv (l.map L.bl) W v W')(F:∀u,u∈l->u<D.len):
 xg n base (W'.setCell (n+6,2) v) {L with rv:=v,role:=fun a=>if v.ownBlock=some a then 1 else L.role a} {D with root:=l}:=by
 obtain⟨w,s,E⟩:=A;obtain⟨z,H,C,B,G⟩:=c.ne6;have y:∀(q:zC) (d:Nat) (v:zJ) (a:Nat),a≠n+6->(q.setCell (n+6,d) v).heap[a]?=q.heap[a]?:=fun q d v a m=>zZ _ _ _ _ m;have m:∀a,a<W.heap.size->a≠n+6->L.rv.ownBlock≠some a->(W'.setCell (n+6,2) v).heap[a]?=W.heap[a]?:=fun a k h i=>(y _ _ _ a h).trans (s.block a k (fun b=>i b.symm));have J:W.heap.size<=(W'.setCell (n+6,2) v).heap.size:=by rw[zea];exact s.size
 have x:∀(f:Nat) (a:Nat),f≠1->L.role a=f->a<W->v.ownBlock≠some a/\L.rv.ownBlock≠some a:=fun f a k h i=>by
  have t:L.rv.ownBlock≠some a:=fun b=>k (by rw[<-h,c.rr a b]);refine⟨fun b=> ?_,t⟩;rcases E with o|o
  ·exact t (o.symm.trans b)
  ·rw[o] at b;cases b;omega
 have r:∀{g:zJ}{j:List Nat}(f:Nat),f≠1->(∀a,g.ownBlock=some a->L.role a=f/\n+6<a)->zG base 256 1 z6 W g j->zG base 256 1 z6 (W'.setCell (n+6,2) v) g j:=fun {g j} f k h i=>xI i fun a b=>m a (xJ i a b) (by have:=(h a b).2;omega) (x f a k (h a b).1 (xJ i a b)).2;have p:∀{g:zJ}{j:List Nat}(f:Nat),f≠1->(∀a,g.ownBlock=some a->L.role a=f)->zG base 256 1 z6 W g j->∀a,g.ownBlock=some a->(if v.ownBlock=some a then 1 else L.role a)=f:=fun {g j} f k h i a b=>by rw[zN (x f a k (h a b) (xJ i a b)).1];exact h a b
 have I:yE n W' L.am L.om L.ov L.rv L.fr:=c.m.keep fun a o=>s.block a (by have:=c.m.lt;omega) (fun b=>by have:=H a b.symm;omega);exact {
  lo:=c.lo
  hi:=zk c.hi J
  m:=I.setRoot v
  all:=c.all
  at_:=c.at_
  blo:=c.blo
  inj:=c.inj
  node:=fun d e=>(c.node d e).keep (m _ (c.node d e).lt (by have:=C d e;omega) (zbv c c.rootr e))
  order:=r 0 oa (fun a b=>⟨c.ro a b,z a b⟩) c.order
  rootr:=xI w fun a b=>y _ _ _ a (by have:=(ya w a b).1;have:=c.lo;omega)
  lefts:=fun d e=>r (2*d+2) oa (fun a b=>⟨c.rl d a e b,B d a e b⟩) (c.lefts d e)
  rights:=fun d e=>r (2*d+3) oa (fun a b=>⟨c.rm d a e b,G d a e b⟩) (c.rights d e)
  ro:=p 0 oa c.ro c.order
  rr:=fun a b=>zP b
  rl:=fun d a e b=>p (2*d+2) oa (fun a b=>c.rl d a e b) (c.lefts d e) a b
  rm:=fun d a e b=>p (2*d+3) oa (fun a b=>c.rm d a e b) (c.rights d e) a b
  inord:=c.inord
  inroot:=F
  inlf:=c.inlf
  inrt:=c.inrt
  inpar:=c.inpar
  infind:=c.infind}
theorem zem{d:Type}[DecidableEq d](l:List (d×Value))(x c:d)(v:zJ):xD (xT l x v) c=if c=x then some v else xD l c:=by
 unfold xT;split
 ·rename_i f;unfold xD at *;rw[zcw];by_cases e:c=x
  ·subst e;rw[zP rfl];have i:((fun b:d×Value=>decide (b.1=c)) ∘ fun b:d×Value=>if b.1=c then(c,v) else b)=fun b=>decide (b.1=c):=(by funext b;by_cases h:b.1=c<;> simp[h]);rw[i];cases hf:l.find? fun b=>decide (b.1=c) with
   |none=>rw[hf] at f;simp at f
   |some b=>
    have:=zar hf;simp only[xW] at this;simp[this]
  ·rw[zN e];have i:((fun b:d×Value=>decide (b.1=c)) ∘ fun b:d×Value=>if b.1=x then(x,v) else b)=fun b=>decide (b.1=c):=by
    funext b;by_cases h:b.1=x
    ·simp[h]
    ·simp[h]
   rw[i];cases hf:l.find? fun b=>decide (b.1=c) with
   |none=>rfl
   |some b=>
    have j:=zar hf;simp only[xW] at j;have k:¬b.1=x:=fun g=>e (j.symm.trans g);simp[k]
 ·rename_i f;unfold xD at *;rw[List.find?_append];by_cases e:c=x
  ·subst e;rw[zP rfl];cases hf:l.find? fun b=>decide (b.1=c) with
   |none=>simp
   |some b=>rw[hf] at f;simp at f
  ·rw[zN e];cases hf:l.find? fun b=>decide (b.1=c) with
   |none=>
    have g:¬x=c:=fun g=>e g.symm;simp[g]
   |some b=>simp
theorem xg.putAll{n base:Nat}{W:zC}{L:xC}{D:zp}(a:xg n base W L D)(x:zF)(k:Nat)(r:k<D.len){o:Obj}(s:zq xV (xF W (n+4) o) (n+4) (xT L.am x (zo (L.bl k)))):
 xg n base (xF W (n+4) o) {L with am:=xT L.am x (zo (L.bl k))} {D with find:=fun e=>if e=x then some k else D.find e}:=by
 obtain⟨i,q,l,j,p⟩:=a.ne6;have g:∀c,c≠n+4->(xF W (n+4) o).heap[c]?=W.heap[c]?:=fun c b=>qV b;exact {
  lo:=a.lo
  hi:=by rw[vH];exact a.hi
  m:={all:=s,at_:=a.m.at_.blk (g _ oa),sq:=(g _ oa).trans a.m.sq}
  all:=fun e=>by
   rw[zem];dsimp only;by_cases b:e=x
   ·rw[zP b,zP b];rfl
   ·rw[zN b,zN b];exact a.all e
  at_:=a.at_
  blo:=a.blo
  inj:=a.inj
  node:=fun d f=>(a.node d f).keep (g _ (by have:=l d f;omega))
  order:=xI a.order fun c b=>g c (by have:=i c b;omega)
  rootr:=xI a.rootr fun c b=>g c (by have:=q c b;omega)
  lefts:=fun d f=>xI (a.lefts d f) fun c b=>g c (by have:=j d c f b;omega)
  rights:=fun d f=>xI (a.rights d f) fun c b=>g c (by have:=p d c f b;omega)
  ro:=a.ro
  rr:=a.rr
  rl:=a.rl
  rm:=a.rm
  inord:=a.inord
  inroot:=a.inroot
  inlf:=a.inlf
  inrt:=a.inrt
  inpar:=a.inpar
  infind:=fun e d h=>by
   replace h:(if e=x then some k else D.find e)=some d:=h;by_cases b:e=x
   ·rw[zP b] at h;cases h;exact r
   ·rw[zN b] at h;exact a.infind e d h}
end Go.Proofs.YtimlgcodecgecaaGreatDoor
