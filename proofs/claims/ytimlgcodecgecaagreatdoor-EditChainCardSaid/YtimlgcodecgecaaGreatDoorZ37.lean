/- The program's document of one writer in memory: what Apply of an operation, and of turns, leaves of it. -/
import Derived.Test.YtimlgcodecgecaaGreatDoorZ36
import Derived.Test.YtimlgcodecgecaaGreatDoorZ29
set_option maxRecDepth 100000
set_option maxHeartbeats 20000000
set_option linter.all false
namespace Go.Proofs.YtimlgcodecgecaaGreatDoor
open Go.RowKit Go.Lib
structure qF(n:Nat)(F Fs FR:Nat->Prop)(w:zC)(c K:Int)(S:zE)(T:List zL)(ul:List (zF×Value)):Prop where
 doc:∃base SK sl,xS n w (knL c K) [] sl 0/\zc 3 zY w sl.h []/\zG 0 68 4 zb w sl.t T/\zG 0 154 3 zY w sl.d (xf (xL T))/\sl.m=yH/\qA n base F w S/\js w Fs (n+1) SK/\
  ((qn SK c).length:Int)<=K/\vz (qn SK c)=K/\(∀o,(qn SK c).getLast?=some o->o.id.c=c)/\
  (∀b,sl.t.ownBlock=some b->FR b)/\(∀b,sl.d.ownBlock=some b->FR b)
 un:zq xV w (n+7) ul
 mo:zaz n w
 inn:zq xV w (n+9) []
 hF:∀b,F b->(b=n+4\/b=n+5\/b=n+6\/n+12<=b)/\b<w.heap.size
 hFS:∀b,Fs b->(b=n\/b=n+1\/n+12<=b)/\b<w.heap.size
 hFR:∀b,FR b->n+12<=b/\b<w.heap.size/\¬F b/\¬Fs b
 sep:∀b,F b->¬Fs b
 lt:n+11<w.heap.size
def qp(n:Nat)(c a:Nat->Prop)(b:Nat):Prop:=(n<=b/\b<n+12)\/c b\/a b
theorem zaz.keep{n:Nat}{w w':zC}(c:zaz n w)(a:w'.heap[n+10]?=w.heap[n+10]?):zaz n w':=by obtain⟨b,d⟩:=c;exact⟨b,a.trans d⟩
theorem qF.mods{n:Nat}{m k i G:Nat->Prop}{w w':zC}{c K:Int}{S:zE}{T:List zL}{p:List (zF×Value)}(b:qF n m k i w c K S T p)(e:Mods G w w')(h:∀a,G a->a<w.heap.size->¬qp n m k a/\¬i a):qF n m k i w' c K S T p:=by
 have s:=b.lt;have j:∀a,n<=a->a<n+12->w'.heap[a]?=w.heap[a]?:=fun a A t=>e.block a oa fun f=>(h a f oa).1 (.inl ⟨A,t⟩);obtain⟨v,SK,sl,r,B,u,y,d5,z,x,d8,d9,d10,d11,o⟩:=b.doc;have q:∀a,i a->w'.heap[a]?=w.heap[a]?:=fun a g=>e.block a (b.hFR a g).2.1 fun f=>(h a f (b.hFR a g).2.1).2 g;exact {
  doc:=⟨v,SK,sl,r.keep fun a f=>j a oa oa,zeB B e.size,u.blk fun a g=>q a (d11 a g),y.blk fun a g=>q a (o a g),d5,z.mods e fun a d l f=>(h a f l).1 (.inr (.inl d)),x.mods e fun a d l f=>(h a f l).1 (.inr (.inr d)),d8,d9,d10,d11,o⟩
  un:=b.un.blk (j _ oa oa)
  mo:=b.mo.keep (j _ oa oa)
  inn:=b.inn.blk (j _ oa oa)
  hF:=fun a d=>⟨(b.hF a d).1,zg (b.hF a d).2 e.size⟩
  hFS:=fun a d=>⟨(b.hFS a d).1,zg (b.hFS a d).2 e.size⟩
  hFR:=fun a d=>⟨(b.hFR a d).1,zg (b.hFR a d).2.1 e.size,(b.hFR a d).2.2⟩
  sep:=b.sep
  lt:=zg s e.size}
theorem qF.below{n:Nat}{e d b:Nat->Prop}{w w':zC}{c K:Int}{S:zE}{T:List zL}{f:List (zF×Value)}(i:qF n e d b w c K S T f)(g:Below w w w'):qF n e d b w' c K S T f:=
 i.mods (G:=fun _=>False) (Mods.of_below g) fun _ h=>h.elim
def zgb(n:Nat)(g d h:Nat->Prop)(w:zC)(c K:Int)(S:zE)(T:List zL)(i:List (zF×Value))(w':zC):Prop:=
 ∃f b e,qF n f b e w' c K S T i/\Mods (qp n g d) w w'/\(∀a,f a\/b a->g a\/d a\/w.heap.size<=a)/\∀a,e a->h a\/w.heap.size<=a
theorem zmG (n N H cap:Nat) (k m O:Nat->Prop) (c K:Int) (S V:zE) (T:List zL) (M W:List (zF×Value)) (o:zQ) (w:zC) (d:qF n k m O w c K S T M) (bd:zv w) (ba:j7 fun a=>n<=a)
 (D:o.id.c=c) (ae:zbX o (K+1) N) (g:o.own) (a3:o.stamp=0) (a7:zaQ o) (br:0<=K/\K<=100000) (ay:y8 w H 0 o) (bi:H<w) (aP:n+11<H) (bs:o.rng.b=K+1+N)
 (ap:∀w,zv w->Calls zD 88 #[zS o] w fun f u=>f=(zB 0)/\Below w w u)
 (an:∀(base:Nat) (kl:List (Int×Value)) (I:yN) (w:zC),xS n w kl [] I 0->qA n base k w S->zq xV w (n+7) M->zv w->(∀a,k a->n+4<=a/\a≠n+7/\a≠n+11/\a<w.heap.size)->
  Calls zD 174 #[(n+11:),zS o] w (ze5 n base k kl [] I 0 V W w)):
 Calls zD 9 #[(n+11:),.agg #[.slice (some H) 1 cap,()]] w fun f u=>f= .returned (.tuple #[.bool true,zB 0])/\zgb n k m O w c (K+N) V T W u/\∀a,n+8<=a->a<n+11->u.heap[a]?=w.heap[a]?:=by
 obtain⟨base,A,I,bh,a2,az,a0,bl,a1,bj,bq,bg,a5,am,aj⟩:=d.doc;have aw:=zxK c K;have bt:=d.lt;have bv:=ae.n1;have bc:zgK n w (fun a=>k a\/m a\/a=n+7):=by
  rintro ar (b|b|b)
  ·have:=d.hF ar b;omega
  ·have:=d.hFS ar b;omega
  ·omega
 have bu:o.id.k=K+1:=ae.ik;have be:=zpx n N H cap K o (knL c K) I 0 0 (fun a=>k a\/m a\/a=n+7)
  (fun h=>w.heap.size<=h.heap.size/\js h m (n+1) A/\qA n base k h S/\zq xV h (n+7) M)
  (fun l h=>w<=l/\(∃f i,l<=f/\f<=h.heap.size/\js h (fun a=>m a\/(l<=a/\a<f)) (n+1) (vV A c i)/\vz i=K+N/\(∀y,i.getLast?=some y->y.id.c=c)/\i.length<=(qn A c).length+1)/\qA n base k h S/\zq xV h (n+7) M)
  (fun l h=>w<=l/\(∃f z i,l<=f/\f<=z/\z<=h.heap.size/\js h (fun a=>m a\/(l<=a/\a<f)) (n+1) (vV A c i)/\vz i=K+N/\(∀y,i.getLast?=some y->y.id.c=c)/\i.length<=(qn A c).length+1/\qA n base (fun a=>k a\/(f<=a/\a<z)) h V)/\zq xV h (n+7) W)
  w bh a2 ae g (by rw[D];exact aw) bd ba ay bi aP ap bc (by rw[a3];rfl) ⟨zU _,bj,a1,d.un⟩ ?hP ?hadd ?hP2 ?hQ ?hdoes
 case hP=>
  rintro h E j ⟨q,ab,v,p⟩;refine⟨zk q j.size,ab.mods j fun a g G b=> ?_,v.mods j fun a g G b=> ?_,p.blk (j.block _ oa oa)⟩
  ·have:=d.hFS a g;omega
  ·have:=d.hF a g;omega
 case hadd=>
  rintro h ⟨q,ab,v,p⟩ Y;have:=zpn m (n+1) A o h ab Y a7 ap (by rw[D];omega) (by rw[D,bg];omega) (by rw[D];exact a5);refine this.mono ?_;rintro f E ⟨aH,rfl,i,ak,bo,aq,au,R⟩;rw[D] at ak aq au;refine⟨⟨aH,rfl⟩,⟨q,⟨E.heap.size,i,R.size,zU _,?_,oa,aq,au⟩,v.mods R fun a g _ b=>d.sep a g b,p.blk (R.block _ oa fun b=>by have:=d.hFS _ b;omega)⟩,R.mono fun a b=> .inr (.inl b)⟩;obtain⟨aa,ag,ac⟩:=ak.lim;exact⟨aa,ag,fun a e=>by
   obtain⟨r,s⟩:=ac a e;rcases r with X|X
   ·exact .inl X
   ·exact .inr ⟨X,s⟩⟩
 case hP2=>
  rintro l h E j ⟨q,⟨f,i,r,s,C,x⟩,v,p⟩;refine⟨q,⟨f,i,r,zk s j.size,C.mods j fun a g G b=> ?_,x⟩,v.mods j fun a g G b=> ?_,p.blk (j.block _ oa oa)⟩
  ·rcases g with g|g
   ·have:=d.hFS a g;omega
   ·omega
  ·have:=d.hF a g;omega
 case hQ=>
  rintro l h E j ⟨q,⟨f,z,i,r,s,C,x,F,J,ah,Z⟩,p⟩;refine⟨q,⟨f,z,i,r,s,zk C j.size,x.mods j fun a g G b=> ?_,F,J,ah,Z.mods j fun a g G b=> ?_⟩,p.blk (j.block _ oa oa)⟩
  ·rcases g with g|g
   ·have:=d.hFS a g;omega
   ·omega
  ·rcases g with g|g
   ·have:=d.hF a g;omega
   ·omega
 case hdoes=>
  rintro l h av ax a8 ⟨q,⟨f,i,r,s,C,x,F,J⟩,v,p⟩ Y;refine(an base _ _ h a8 v p Y fun a e=>by have:=d.hF a e;omega).mono ?_;rintro y E ⟨rfl,L,af,a4,t⟩;refine⟨rfl,L,⟨q,⟨f,E.heap.size,i,r,zk s t.size,zU _,C.mods t fun a e _ b=> ?_,x,F,J,?_⟩,a4⟩,t.mono fun a b=>b.elim .inl fun b=> .inr (.inr b)⟩
  ·rcases e with e|e
   ·rcases b with b|b
    ·exact d.sep a b e
    ·have:=d.hFS a e;omega
   ·rcases b with b|b
    ·have:=d.hF a b;omega
    ·omega
  ·obtain⟨aa,bb,ag,ac,bf,aZ⟩:=af.lim;exact⟨aa,bb,ag,ac,bf,fun a e=>by
    obtain⟨a6,a9⟩:=aZ a e;rcases a6 with al|al
    ·exact .inl al
    ·exact .inr ⟨oa,a9⟩⟩
 refine be.mono ?_;rintro y u ⟨rfl,av,L,af,⟨l,ax,q,⟨f,z,i,r,s,C,x,F,J,ah,Z⟩,p⟩,t⟩;rw[D,zxL c K (K+N) oa] at L;have bn:=t.size;have ao:∀a,WH n (fun a=>k a\/m a\/a=n+7) a->qp n k m a:=by
  rintro a (b|b|b|b|b|b)
  ·exact .inl oa
  ·exact .inl oa
  ·exact .inl oa
  ·exact .inr (.inl b)
  ·exact .inr (.inr b)
  ·exact .inl oa
 have ai:∀a,O a->u.heap[a]?=w.heap[a]?:=fun a f=>t.block a (d.hFR a f).2.1 fun b=>by
  have B:=d.hFR a f;rcases ao a b with b|b|b
  ·omega
  ·exact B.2.2.1 b
  ·exact B.2.2.2 b
 have ad:∀a,n+8<=a->a<n+11->u.heap[a]?=w.heap[a]?:=fun a bm bp=>t.block a oa fun b=>by
  rcases b with b|b|b|b|b|b
  ·omega
  ·omega
  ·omega
  ·have:=d.hF a b;omega
  ·have:=d.hFS a b;omega
  ·omega
 refine⟨rfl,⟨fun a=>k a\/(f<=a/\a<z),fun a=>m a\/(l<=a/\a<f),O,?_,t.mono ao,?_,fun a b=> .inl b⟩,ad⟩
 ·exact {
   doc:=⟨base,vV A c i,{I with h:=av},L,af,az.blk fun a f=>ai a (am a f),a0.blk fun a f=>ai a (aj a f),bl,Z,x,by rw[zlI,zP rfl];omega,by rw[zlI,zP rfl];exact F,by rw[zlI,zP rfl];exact J,am,aj⟩
   un:=p
   mo:=d.mo.keep (ad _ oa oa)
   inn:=d.inn.blk (ad _ oa oa)
   hF:=fun a e=>by
    rcases e with e|e
    ·have:=d.hF a e;omega
    ·omega
   hFS:=fun a e=>by
    rcases e with e|e
    ·have:=d.hFS a e;omega
    ·omega
   hFR:=fun a e=>by
    have B:=d.hFR a e;refine⟨B.1,oa,fun b=> ?_,fun b=> ?_⟩
    ·rcases b with b|b
     ·exact B.2.2.1 b
     ·omega
    ·rcases b with b|b
     ·exact B.2.2.2 b
     ·omega
   sep:=fun a e b=>by
    rcases e with e|e<;> rcases b with b|b
    ·exact d.sep a e b
    ·have:=d.hF a e;omega
    ·have:=d.hFS a b;omega
    ·omega
   lt:=oa}
 ·rintro a (b|b)
  ·rcases b with b|b
   ·exact .inl b
   ·exact .inr (.inr oa)
  ·rcases b with b|b
   ·exact .inr (.inl b)
   ·exact .inr (.inr oa)
theorem zq1 (n:Nat) (q p v:Nat->Prop) (c K:Int) (S:zE) (T g:List zL) (uv:zJ) (u:List (zF×Value)) (w:zC) (e:qF n q p v w c K S T u) (G:zc 4 zb w uv g)
 (C:g≠[]) (B:zz (T++g) []≠T) (R:T.length<=5000) (O:g.length<=5000) (V:(zz (T++g) []).length<=5000):
 Calls zD 9 #[(n+11:),.agg #[(),uv]] w fun h j=>h= .returned (.tuple #[.bool true,zB 0])/\zgb n q p v w c K S (zz (T++g) []) u j:=by
 obtain⟨I,aa,y,D,A,H,ag,L,X,J,N,Z,E,af,ac⟩:=e.doc;have ab:=e.lt;refine(zpt n T g uv (knL c K) y 0 w D A (zG.slice (k:=4) (enc:=zb) (fun _=>rfl) H) G e.mo C B R O V).mono ?_;rintro ae j ⟨rfl,s,x,F,m,l,W,i⟩;have o:=i.size;have z:∀a,a<w.heap.size->a≠n+10->a≠n+11->j.heap[a]?=w.heap[a]?:=fun a M ah ad=>i.block a M oa;refine⟨rfl,q,p,fun a=>s.ownBlock=some a\/x.ownBlock=some a,?_,i.mono fun a b=> .inl oa,?_,?_⟩
 ·exact {
   doc:=⟨I,aa,{y with t:=s,d:=x},F,zeB A o,zaE m (xO _),zaE l (xO _),L,X.mods i fun a r _ b=>by have:=e.hF a r;omega,J.mods i fun a r _ b=>by have:=e.hFS a r;omega,N,Z,E,fun a h=> .inl h,fun a h=> .inr h⟩
   un:=e.un.blk (z _ oa oa oa)
   mo:=W
   inn:=e.inn.blk (z _ oa oa oa)
   hF:=fun a f=>⟨(e.hF a f).1,zg (e.hF a f).2 o⟩
   hFS:=fun a f=>⟨(e.hFS a f).1,zg (e.hFS a f).2 o⟩
   hFR:=fun a f=>by
    have Y:w<=a/\a<j:=by
     rcases f with f|f
     ·exact⟨m.ge f,m.lt f⟩
     ·exact⟨l.ge f,l.lt f⟩
    exact⟨oa,Y.2,fun b=>by have:=e.hF a b;omega,fun b=>by have:=e.hFS a b;omega⟩
   sep:=e.sep
   lt:=oa}
 ·rintro a (b|b)
  ·exact .inl b
  ·exact .inr (.inl b)
 ·rintro a (b|b)
  ·exact .inr (m.ge b)
  ·exact .inr (l.ge b)
open Go.Shelf
section
attribute [local go_sem] jl
theorem zpN(a:zJ)(w:zC)(d:a.oneCell'=true):Calls zD 125 #[a] w fun c b=>c= .returned (.func (.func 193) #[] #[w])/\b=w.alloc (.cells #[a] 108):=by go_enter Tryz.func125,Tryz.ntmps125;go_wp2;go_ret;exact⟨rfl,rfl⟩
theorem zpO(a:zJ)(w:zC)(d:a.oneCell'=true):Calls zD 51 #[a] w fun c b=>c= .returned (.func (.func 124) #[] #[w])/\b=w.alloc (.cells #[a] 24):=by go_enter Tryz.func51,Tryz.ntmps51;go_wp2;go_ret;exact⟨rfl,rfl⟩
end
section
attribute [local go_sem] jl
def zex(o:Obj):Prop:=(∃r,o= .loop r)\/(∃d,o= .deferred d)
structure zb0(n Z:Nat)(W0:zC)(pre:List (Nat×zV))(W:zC):Prop where
 b:Below Z W0 W
 p:W.heap[Z+1]?=some (.cells #[(n+11:)] 24 (0,0))
 o:∃v,W.heap[Z]?=some (.cells #[v] 76 (0,0))/\zG (Z+8) 62 2 zn W v (pre.map (·.2.id))
theorem zb0.below{n d:Nat}{g W W':zC}{f:List (Nat×zV)}(b:zb0 n d g f W)(a:Below W W W'):zb0 n d g f W':=by obtain⟨j,e,c⟩:=b.o;have k:=aL e;have i:=aL b.p;exact⟨b.b.trans (a.mono oa),(a.block _ i).trans b.p,j,(a.block _ k).trans e,xI c fun h l=>a.block h (xJ c h l)⟩
theorem zb0.put{n c:Nat}{j W:zC}{i:List (Nat×zV)}(a:zb0 n c j i W){l:Nat}{o:Obj}(v:c+2<=l)(r:W.heap[l]?=some o)(k:zex o)(q:Obj):zb0 n c j i (W.putObj l q):=by
 obtain⟨p,h,g⟩:=a.o;have w:=aL h;refine⟨⟨a.b.os,a.b.tape,a.b.output,by simpa[World.putObj] using a.b.size,fun f s=>(World.putObj_heap_other oa).trans (a.b.block f s)⟩,(World.putObj_heap_other oa).trans a.p,p,(World.putObj_heap_other oa).trans h,xI g fun f b=>World.putObj_heap_other (fun m=> ?_)⟩;subst m;rcases g.2 with⟨d,_⟩|⟨u,y,z,d,_,e,_⟩
 ·rw[d] at b;cases b
 ·rw[d] at b;cases b;rw[r] at e;rcases k with⟨x,rfl⟩|⟨t,rfl⟩<;> cases e
def zwk(a:List zV)(W:zC)(v:zJ)(W':zC):Prop:=zG W 62 2 zn W' v (a.map (·.id))/\Below W W W'
end
section
attribute [local go_sem] jl
def jq(a:List zO)(x:Nat×zV):Bool:=!jU a x.2.id
structure zh5(n Bp:Nat)(dv sv:zJ)(dl:List zO)(bs:List Nat)(us:List zV)(W:zC):Prop where
 c6:W.cell? (n+11,6)=(n+6:)
 c3:W.cell? (n+11,3)=some dv
 dl:zc 3 zY W dv dl
 lt:n+11<W.heap.size
 a:ql n sv bs us W
 p:W.cell? Bp=(n+11:)
theorem zvS (n a0 m L:Nat) (bU:8<=m) (bj bg:zJ) (l:List zO) (bq:yT l) (bw:l.length<=1000000) (a7:List Nat) (s:List zV) (G:Nat->Prop) (k:World->Prop) (i:List (Nat×zV)->World->Prop) (W:zC) (bT:a0<W)
 (ae:∀d b,i d b->zh5 n a0 bj bg l a7 s b)
 (T:∀d a J,i d a->Below a a J->i d J) (Z:∀a J,k a->Below a a J->k J)
 (O:∀d a C u aw,W.heap.size<=C->i d a->a.heap[C]?=some u->zex u->i d (a.putObj C aw)) (ai:∀a C u aw,W.heap.size<=C->k a->a.heap[C]?=some u->zex u->k (a.putObj C aw))
 (bc:∀q,G q->q<W.heap.size\/W.heap.size+4<=q)
 (bm:∀d al a,i d a->k a->d.length<s.length->W.heap.size+4<=a.heap.size->YieldAt Fence.wide (m - 1) zD L (jr al) a fun x b=>x= .returned (.bool true)/\i (d++[al]) b/\k b/\Mods G a b)
 (aj:i [] W) (a6:k W):
 CallsIn Fence.wide m zD 124 #[.func (.yield L) #[] #[],a0] W fun x b=>(∃br,x= .returned br)/\∃Y,Y=(xw s s.length).filter (jq l)/\i Y b/\k b:=by
 obtain⟨bz,_,_,bP,_,bJ⟩:=ae _ _ aj;have a5:=fun W=>(yi (n:=m - 1)).2 (zpN (n+6:) W rfl);have bS:Fence.wide.fn 125:=trivial;have bX:1<=m:=oa;refine callsIn_of_wp_marks zhh rfl trivial ?_ rfl;simp only[Tryz.ntmps124,yw,z7,xB,Nat.reduceAdd,Nat.reduceSub,qK,qL,qM,qN,xu,yD];gi_wp2_with (gi_at_call 125;refine(a5 _).mono ?_;rintro x bM ⟨rfl,rfl⟩);generalize ad:World.alloc _ _=c;obtain⟨aH,a3,be,-⟩:=aJ ad;have z:c.heap.size=W+2:=by subst ad;simp
 have ay:=T _ _ _ aj aH;have aq:=Z _ _ a6 aH;try simp only[ad] at ay aq
 clear ad;have bA:=zA z;clear a5 bz bJ;refine zc4 (α:=Nat×zV) (gf:=193) (lb:=#[(W.heap.size+1:)]) (encs:=jr) (S:=fun Y=>Y=xw s s.length) (N:=s.length) rfl oa rfl trivial (enters_of zfm oe rfl) (fun _=>rfl)
  (fun d b=>i (d.filter (jq l)) b/\k b/\b.heap[W.heap.size]?=some (.cells #[.func (.yield L) #[] #[]] 195 (0,0))/\b.heap[W.heap.size+1]?=some (.cells #[(n+6:)] 108 (0,0))) G ?hIp ?h0 ?hround ?hseq ?hdone
 case hIp=>rintro d b E g ⟨f,p,t,r⟩ bl;exact⟨O _ _ _ _ _ oa f bl (.inl ⟨_,rfl⟩),ai _ _ _ _ oa p bl (.inl ⟨_,rfl⟩),(World.putObj_heap_other oa).trans t,(World.putObj_heap_other oa).trans r⟩
 case h0=>intro E;have am:Below c c ((c.alloc (.deferred (some []))).alloc (.loop E)):=aB;exact⟨T _ _ _ ay am,Z _ _ aq am,(am.block _ oa).trans a3,(am.block _ oa).trans be⟩
 case hseq=>
  rintro bD K b ⟨f,p,t,r⟩ bx;refine(zoW n (W.heap.size+1) (m - 1) (c.heap.size+1) oa bg a7 s (yJ c bD) (fun d b=>i (d.filter (jq l)) b/\k b/\b.heap[W.heap.size]?=some (.cells #[.func (.yield L) #[] #[]] 195 (0,0))/\b.heap[W.heap.size+1]?=some (.cells #[(n+6:)] 108 (0,0))) ?_ ?_ b ⟨f,p,t,r⟩ bx)
  ·rintro d a ⟨f,p,t,r⟩;exact⟨(ae _ _ f).a,by simp[World.cell?,r,zo]⟩
  ·rintro d al a f V ap;exact(zel (K d al a f V ap)).mono fun x b ⟨bC,bF,bH,_⟩=>⟨bC,bF,bH⟩
 case hdone=>rintro Y b rfl ⟨f,p,t,r⟩ ar;refine⟨oh,.inl ⟨_,_,rfl,run_takeDeferred ar,⟨_,zcO rfl _ _ _,⟨_,rfl⟩,_,rfl,O _ _ _ _ _ oa f ar (.inr ⟨_,rfl⟩),ai _ _ _ _ oa p ar (.inr ⟨_,rfl⟩)⟩⟩⟩
 case hround=>
  rintro d ⟨ao,h⟩ a E ⟨f,p,t,r⟩ V ap;unfold jr zby zac;gi_wp2;have bn:=aL V.1;have bG:=bA.o;generalize bh:World.alloc _ _=F;obtain⟨y,bb,a1⟩:=aF bh;clear bh;have X:yJ c E F:=V.keep fun q a8=>y.block q oa;refine⟨X,Mods.of_below y,fun g=> ?_⟩;have I:=O _ _ _ _ (.loop g) (show W.heap.size<=c.heap.size+1 by omega) (T _ _ _ f y) X.1 (.inl ⟨_,rfl⟩);have aa:=ai _ _ _ (.loop g) (show W.heap.size<=c.heap.size+1 by omega) (Z _ _ p y) X.1 (.inl ⟨_,rfl⟩);have R:yJ c g (F.putObj (c.heap.size+1) (.loop g)):=X.put g;have B:=(World.putObj_heap_other (w:=F) (r:=c.heap.size+1) (o:= .loop g) (show a.heap.size≠c.heap.size+1 by omega)).trans bb;have H:=(World.putObj_heap_other (w:=F) (r:=c.heap.size+1) (o:= .loop g) (show W.heap.size≠c.heap.size+1 by omega)).trans ((y.block _ oa).trans t);have M:=(World.putObj_heap_other (w:=F) (r:=c.heap.size+1) (o:= .loop g) (show W.heap.size+1≠c.heap.size+1 by omega)).trans ((y.block _ oa).trans r);have o:(F.putObj (c.heap.size+1) (.loop g)).heap.size=a+1:=by simpa[World.putObj] using a1
  have bK:W.heap.size+2<a.heap.size:=oa;clear y bb a1 X V f p t r ay aq aH a3 be;generalize F.putObj (c.heap.size+1) (.loop g)=ab at I aa R B H M o ⊢;generalize a.heap.size=D at B o bK bn ⊢;have ak:=ae _ _ I;have bO:=ak.p;have u0:=aC B 0;have u1:=aC B 1;have aP:=(yi (n:=m - 1 - 1 - 1)).2 (zmT (n+11) bj l h.id ab ak.c3 ak.dl bq bw);obtain⟨an,au⟩:=aY (jU l h.id);rw[au] at aP;have a4: [(ao,h)].filter (jq l)=(if an then[] else[(ao,h)]):=by simp only[zeS,zhM,jq,au];cases an<;> rfl
  have bs:(d.filter (jq l)).length<s.length:=Nat.lt_of_le_of_lt (jV _ _) ap;have ba:=zA a4;have bW:1<=m - 1 - 1:=oa;have bY:Fence.wide.fn 123:=trivial;have a2:=zA z;have a9:=zA T;have bi:=zA Z;have bv:=zA bm;have ac:=zA o;have bB:=zA bc;clear z bG ak ae aj a6 T Z O ai bm bc o au a4;cases an
  ·gi_wp2_with (gi_at_call 123;refine(CallsIn.inRound _ aP).mono ?_;rintro x j ⟨rfl,e⟩;have o:=ac.o;have ag:=a9.o _ _ _ I e;have ah:=bi.o _ _ aa e;have A:=(e.block D oa).trans B;have bf:=(e.block W oa).trans H;clear o;have bE:j.cell? W=some (.func (.yield L) #[] #[]):=(by simp[World.cell?,bf]);have u0:j.cell? D=h.id.c:=oaS;have u1:j.cell? (D,1)=h.id.k:=oaS;have u2:j.cell? (D,2)=h.left.c:=oaS;have u3:j.cell? (D,3)=h.left.k:=oaS;have u4:j.cell? (D,4)=h.right.c:=oaS;have u5:j.cell? (D,5)=h.right.k:=oaS;obtain⟨bR,bN,bQ,bV,K,bd⟩:=zoU (n':=m - 1 - 1 - 1) (l':=c.heap.size+1) (bv.o _ (ao,h) j ag ah bs (by have:=e.size;have:=ac.o;omega));unfold jr zby zac at K;dsimp only at K);refine bd.mono ?_;rintro x aZ ⟨rfl,bu,bo,az⟩;have o:=ac.o;have z:=a2.o;have ax:=e.size;have af:∀v,W.heap.size<=v->v<W.heap.size+4->aZ.heap[v]?=ab.heap[v]?:=fun v f p=>(az.block v oa (fun av=>by have:=bB.o v av;omega)).trans (e.block v oa);have bI:=R.keep (W':=aZ) fun q a8=>af q oa oa;have bt:=(af W oa oa).trans H;have bL:=(af (W.heap.size+1) oa oa).trans M;have bp:Mods (RG G c) ab aZ:=(Mods.of_below e).trans (az.mono fun q av=> .inl av);clear bd K e I aa R B H M A bf bE u0 u1 u2 u3 u4 u5 ag ah o z ax af az;gi_wp2;exact⟨by rw[ba.o];exact bu,bo⟩
  ·gi_wp2_with (gi_at_call 123;refine(CallsIn.inRound _ aP).mono ?_;rintro x j ⟨rfl,e⟩);refine⟨oh,?_⟩;have o:=ac.o;have z:=a2.o;have ax:=e.size;have ag:=a9.o _ _ _ I e;have ah:=bi.o _ _ aa e;have bI:=R.keep (W':=j) fun q a8=>e.block q oa;have bt:=(e.block W oa).trans H;have bL:=(e.block (W.heap.size+1) oa).trans M;have bp:Mods (RG G c) ab j:=Mods.of_below e;clear e I aa R B H M o z ax;gi_wp2;exact⟨by rw[ba.o];simpa using ag,ah⟩
end
section
attribute [local go_sem] jl
theorem zwj(n:Nat)(kl:List (Int×Value))(wl:List (zF×Value))(Z:yN)(st:Int)(i:List zO)(ap:zJ)(al:List Nat)(a:List zV)(W:zC)(H:xS n W kl wl Z st)(bl:zc 3 zY W Z.d i)(ba:yT i)(bd:i.length<=1000000)(K:ql n ap al a W)(bB:a.length<=100000):
 Calls zD 64 #[(n+11:)] W (qH (zwk (a.filter fun e=>!jU i e.id) W)):=by
 have bA:=H.lt;have a5:=fun W=>(yi (n:=11)).2 (zpO (n+11:) W rfl);have bC:Fence.wide.fn 51:=trivial;refine(yi (n:=12)).1 (callsIn_of_wp_marks Tryz.func64 rfl trivial ?_ rfl);simp only[Tryz.ntmps64,yw,z7,xB,Nat.reduceAdd,Nat.reduceSub,qK,qL,qM,qN,xu,yD];gi_wp2_with (gi_at_call 51;refine(a5 _).mono ?_;rintro b ad ⟨rfl,rfl⟩);have B:((W.alloc (.cells #[()] 76)).alloc (.cells #[(n+11:)] 24)).heap.size=W+2:=oh;have an:zb0 n W W [] ((W.alloc (.cells #[()] 76)).alloc (.cells #[(n+11:)] 24)):=
  ⟨aB,oN,_,oH,zG.nil⟩
 generalize(W.alloc (.cells #[()] 76)).alloc (.cells #[(n+11:)] 24)=j at B an ⊢;have F:=zA B;have bh:∀{l O:zC}{am:Nat},Below am l O->n+11<am->∀T v,l.cell? T=some v->T.block<am->O.cell? T=some v:=fun hb _ T v a9 y=>(hb.cell y).trans a9;have a8:∀d f,zb0 n W W d f->zh5 n (W.heap.size+1) Z.d ap i al a f:=fun d f h=>⟨(H.keep (w':=f) fun m V=>h.b.block m oa).cell 6 _ rfl,(H.keep (w':=f) fun m V=>h.b.block m oa).cell 3 _ rfl,bl.below h.b,(H.keep (w':=f) fun m V=>h.b.block m oa).lt,⟨(h.b.cell (p:=(n+6,1)) (by show n+6<_;omega)).trans K.c,K.row.below h.b,K.len,fun k m e h1 bo D aj s=>by
  have ae:=K.nodes k m e h1 bo D aj s;have bt:m<W:=by
   unfold World.cell? at ae;cases c:W.heap[m]? with
   |none=>simp[c] at ae
   |some ai=>exact(aL c)
  exact(h.b.cell (p:=(m,D)) bt).trans ae⟩,by simp[World.cell?,h.p]⟩
 refine zoG (α:=Nat×zV) (gf:=124) (lb:=#[(W.heap.size+1:)]) (encs:=jr) (S:=fun a4=>a4=(xw a a.length).filter (jq i)) (N:=a.length) rfl oa rfl trivial (enters_of zhh oe rfl) (fun _=>rfl)
  (zb0 n W W) (fun k=>k=W\/W.heap.size+8<=k) (fun f=>W.heap.size+8<=f.heap.size) ?hIp ?h0 ?hround ?hseq ?hdone
 case hIp=>intro d f ac t h bx;exact h.put oa bx (.inl ⟨_,rfl⟩) _
 case h0=>intro ac;exact an.below (aB)
 case hseq=>
  rintro bn s f h hb bI;have av:=aL hb.1;have Y:=F.o;refine zvS n (W.heap.size+1) 11 (j.heap.size+1) oa Z.d ap i ba bd al a (RG (fun k=>k=W\/W.heap.size+8<=k) j) (yJ j bn) (zb0 n W W) f oa a8 (fun d l O h hb=>h.below hb) (fun l O h hb=>h.keep fun k r=>hb.block k (by have:=(aL h.1);omega)) ?_ ?_ ?_ ?_ h hb
  ·intro d l br ai aH y h c aZ;exact h.put oa c aZ aH
  ·intro l br ai aH y h c aZ;exact h.keep fun k r=>World.putObj_heap_other oa
  ·rintro k (h|h)
   ·omega
   ·omega
  ·intro d bv l h I y ax;exact zel (s d bv l h I y oa)
 case hdone=>
  rintro a4 f rfl h A;have Y:=F.o;obtain⟨v,c,x⟩:=h.o;have bs:((xw a a.length).map (·.2))=a:=by
   apply zbp;intro D;simp only[xw,jk,qw];by_cases R:D<a.length
   ·simp[R,List.getD]
   ·simp[R]
  have a2:(((xw a a.length).filter (jq i)).map (·.2.id))=(a.filter fun e=>!jU i e.id).map (·.id):=by
   have h1:a.filter (fun e=>!jU i e.id)=((xw a a.length).filter (jq i)).map (·.2):=by
    conv=>lhs;rw[<-bs]
    rw[zeP];rfl
   rw[h1,jk];rfl
  rw[a2] at x;obtain⟨p,u,rfl⟩:=ys x;have ak:=aC c 0;have bm:=zA x;obtain⟨o,z⟩:=aY (((a.filter fun e=>!jU i e.id).map (·.id)).length);have E:=zA z;rw[z] at ak c;have aP:=zA c;have bg:=zA h;have bH:=aL A;have bp:=zA A;clear x z c h a2 Y B A;gi_wp2;have A:=bp.o;have B:=F.o;refine⟨oh,.inl ⟨_,_,rfl,run_takeDeferred A,⟨_,zcI rfl _ _ _,⟨_,rfl,?_⟩⟩⟩⟩;have bf:=bg.o.put (show W.heap.size+2<=j.heap.size by omega) A (.inr ⟨_,rfl⟩) (.deferred none);refine⟨?_,bf.b⟩;have h1:=bm.o;refine zaE (xI (w:=f) (by rw[<-E.o];exact h1) fun k b=>World.putObj_heap_other (by have:=(ya h1 k (by rw[E.o];exact b)).1;omega)) oa
 case hround=>
  rintro d ⟨D,e⟩ l ac h I y ax;unfold jr zby zac;gi_wp2;have av:=aL I.1;have Y:=F.o;generalize a3:World.alloc _ _=L;obtain⟨X,a0,au⟩:=aF a3;clear a3;have aa:yJ j ac L:=I.keep fun k r=>X.block k oa;refine⟨aa,Mods.of_below X,fun t=> ?_⟩;have g:=(h.below X).put (show W.heap.size+2<=j.heap.size+1 by omega) aa.1 (.inl ⟨_,rfl⟩) (.loop t);have ay:yJ j t (L.putObj (j.heap.size+1) (.loop t)):=aa.put t;have J:=(World.putObj_heap_other (w:=L) (r:=j.heap.size+1) (o:= .loop t) (show l.heap.size≠j.heap.size+1 by omega)).trans a0;have G:(L.putObj (j.heap.size+1) (.loop t)).heap.size=l+1:=by simpa[World.putObj] using au
  clear X a0 au aa I h an;generalize L.putObj (j.heap.size+1) (.loop t)=q at g ay J G ⊢;generalize l.heap.size=bG at J G av ax ⊢;obtain⟨v,c,x⟩:=g.o;have ag:(d.map (·.2.id)).length=d.length:=oh;have ab:q.ownsRow (W.heap.size+8) 62 2 v d.length ((d.map (·.2.id)).flatMap zn):=by rw[<-ag];exact x
  obtain⟨p,u,rfl⟩:∃p u,v= .slice p d.length u:=ys ab;have ak:=aC c 0;have u0:=aC J 0;have u1:=aC J 1;obtain⟨bw,R,bc,bi,bj⟩:=yI ztE;have bu:=zA g;have aP:=zA c;have az:=zA G;have bz:=zA ag;have bD:=zA x;have bq:W.heap.size<q.heap.size:=aL c;obtain⟨o,z⟩:=aY d.length;rw[z] at ab ak y;have E:=zA z;clear g c G ag x Y B H K a8 J z bh a5;gi_wp2_with (gi_at_builtin;refine wpListIn_append_own _ rfl _ _ 76 rfl (W.heap.size+8) 62 bw (.agg #[zT.c,zT.k]) 2 16 zjq R bc bi bj rfl ol _ o _ rfl (ab.alloc _) q 1 1 (zn e.id) rfl rfl ?c1 ?c2 ?c3 ?c4 ?c5 ?_);case c1=>
   intro bE aj s
   rw[qW,World.cell?,World.alloc_heap_new]
   simpa[zn] using s
  case c2=>intro aj s;simp[zn] at s;rcases s with rfl|rfl<;> rfl
  case c3=>unfold maxLen;omega
  case c4=>omega
  case c5=>have:=az.o;simp;omega
  intro v' w6 ar aw _;have a1:∀k,k<q.heap.size->(Value.slice p o u).ownBlock≠some k->w6.heap[k]?=q.heap[k]?:=fun k r af=>(aw.block k oi (fun b=>af b.symm)).trans (yV _ _ _ r);have M:=fun k b=>ya ab k b;have aq:w6.heap[W.heap.size]?=some (.cells #[.slice p o u] 76 (0,0)):=(a1 _ bq (fun b=>by have:=(M _ b).1;omega)).trans (by rw[aP.o,E.o]);have c6:=aC aq 0;have bF:w6.frozen? W=false:=by simp[World.frozen?,aq]
  obtain⟨ah,ao,rfl⟩:∃p u,v'= .slice p (o+1) u:=ys ar;have a7:=zA ar;clear ar;gi_wp2;have B:=F.o;have G:=az.o;have g:=bu.o;have a6:∀k,k<q.heap.size->k≠W.heap.size->(Value.slice p o u).ownBlock≠some k->(w6.setCell W (.slice ah (o+1) ao)).heap[k]?=q.heap[k]?:=fun k r be af=>(zZ _ _ _ _ (by show ¬k=W.heap.size;exact be)).trans (a1 k r af);have C:Mods (fun k=>k=W\/W.heap.size+8<=k) q (w6.setCell W (.slice ah (o+1) ao)):=by have h1:=((Mods.refl (fun k=>k=W\/W.heap.size+8<=k) q).alloc (.cells #[e.id.c,e.id.k] 62)).grown aw (fun k b=> .inl (.inr (M k b).1));exact h1.setC (.inl (.inl rfl)) _
  refine⟨ay.keep fun k r=>a6 k oa oa (fun b=>by have:=(M _ b).1;omega),C.mono fun k V=> .inl V,?_⟩;have bb:=aL g.p;refine⟨⟨C.os.trans g.b.os,C.tape.trans g.b.tape,C.output.trans g.b.output,zk g.b.size C.size,fun k r=>(C.block k (by have:=g.b.size;omega) oa).trans (g.b.block k r)⟩,(a6 _ bb oa (fun b=>by have:=(M _ b).1;omega)).trans g.p,.slice ah (o+1) ao,?_,?_⟩
  ·simp[World.setCell,zu,aq]
  ·unfold zG;rw[ym,xY,qe,bz.o,E.o];refine xI (w:=w6) ?_ fun k b=>zZ _ _ _ _ (by show ¬k=W;have:=(ya a7.o k b).1;omega);simpa using a7.o
end
def brk(x:Int):Value:= .iface 81 (.agg #[zB x])
theorem zgc(x:Int)(w:zC):Calls zD 63 #[zB x] w fun b a=>b= .panicked [{v:=brk x,recovered:=false}]/\w=a:=by go_enter Tryz.func63,Tryz.ntmps63;go_wp2;exact⟨rfl,rfl,rfl⟩
theorem zq8(p e:Addr)(w:zC):
 CallsD zD 20 #[.pointer (some p),.pointer (some e)] .returning w fun f b d=>f=jB/\b= .returning/\d=w:=by
 refine zjh Tryz.func20 rfl fun c g a=> ?_;apply wpS_seq;apply wpS_region;simp[wpOpsS,go_sem,recoverD,a,Tryz.ntmps20,Exit.thenS];refine wpS_of_wp ?_;go_wp2;cases c;simp_all [bodyPostS,results,Tryz.results20]
def xQ(W:zC)(b:Nat):Prop:=W.heap[b]?=some (.cells #[(),()] 39 (0,0))
def za8(x:Int)(W:zC)(b:Nat):Prop:=W.heap[b]?=some (.cells #[zB x] 40 (0,0))
theorem zq9(x:Int)(a b:Nat)(w:zC)(h:xQ w a)(t:za8 0 w b)(O:a≠b):
 CallsD zD 20 #[a,b] (.panicking [{v:=brk x,recovered:=false}]) w fun G M n=>G=jB/\M= .panicking [{v:=brk x,recovered:=true}]/\xQ n a/\za8 x n b/\Mods (fun c=>c=a\/c=b) w n:=by
 have z:=zA h;have q:=zA t;clear h t;refine zjh Tryz.func20 rfl fun K V h=> ?_;apply wpS_seq;apply wpS_region;simp[wpOpsS,go_sem,recoverD,h,Tryz.ntmps20,Exit.thenS];refine wpS_of_wp ?_;unfold brk;have W:∀(u:TypeId) w,(Instr.typeAssert (.iface 81 (.agg #[zB x])) u 81 true).run zD w= .ok (.tuple #[.agg #[zB x],.bool true]) w:=fun u w=>oe;simp only[yw,z7,xB,Nat.reduceAdd,Nat.reduceSub,qK,qL,qM,qN,xu,yD,List.setIfInBounds_toArray,List.set_cons_succ,zg5];go_wp2;have A:a<w:=aL z.o;have o:b<w:=aL q.o;generalize k:World.alloc _ _=d;obtain⟨i,l,-⟩:=aF k;have r:=aC l 0;have D:=aL l;have e:xQ d a:=by subst k;exact(i.block a A).trans z.o
 have s:za8 0 d b:=by subst k;exact(i.block b o).trans q.o
 clear k l;have H:∀F:zI (fun c=>c=a) d,F.val.cell? w=(zB x):=zI.cell D (by show ¬w.heap.size=a;omega) r;refine xU 4 [0,1,2] [3,4] (fun c=>c=a) (aM ?_);refine aR ?_;have u0:d.cell? a=():=by unfold xQ at e;simp[World.cell?,e]
 have u1:d.cell? (a,1)=():=by unfold xQ at e;simp[World.cell?,e]
 have C:d.frozen? a=false:=by unfold xQ at e;simp[World.frozen?,e]
 have L:d.frozen? (a,1)=false:=by unfold xQ at e;simp[World.frozen?,e]
 refine aS ?_;go_wp2;have j:Mods (fun c=>c=a) d (((d.setCell a ()).setCell (a,1) ()).drew):=(((Mods.refl (fun c=>c=a) d).setCell (p:=a) rfl _).setCell (p:=(a,1)) rfl _).drew;refine⟨zI.to j,?_⟩;have N:b<d:=zg o i.size;have g:=(j.block b N oa).trans s;generalize m:World.drew _=f;have y:xQ f a:=by subst m;show((d.setCell a ()).setCell (a,1) ()).heap[a]?=_;unfold xQ at e;simp[World.setCell,zu,e]
 try simp only[m] at j g
 clear m;have R:=aC g 0;have X:f.frozen? b=false:=by simp[World.frozen?,g]
 have J:za8 x (f.setCell b (zB x)) b:=by unfold za8;simp[World.setCell,zu,g]
 have I:xQ (f.setCell b (zB x)) a:=(zZ _ _ _ _ (by show ¬a=b;omega)).trans y;have E:Mods (fun c=>c=a\/c=b) w (f.setCell b (zB x)):=(((Mods.of_below i).trans (j.mono fun c B=> .inl B))).setCell (p:=b) (.inr rfl) _;clear u0 u1 C L H r e s y g;refine aS ?_;go_wp2;refine xE ?_;generalize f.setCell b (zB x)=T at J I E ⊢;go_wp2;cases K;simp_all [bodyPostS,results,Tryz.results20]
def xc(k at_ n:Int)(t:ByteArray)(v:zr)(b:ByteArray)(a:zJ):Value:= .agg #[zB k,zB at_,zB n,.string t,zB v.kind,zB v.n,.float .f64 v.f,.string v.s,.string b,a]
theorem zgq (n:Nat) (c x k at_ m:Int) (t:ByteArray) (v:zr) (d:ByteArray) (p:Option Addr) (a b:Nat) (w:zC)
 (q:∀e,Below w w e->Calls zD 21 #[(n+11:),c,xc k at_ m t v d (.slice p a b)] e fun h g=>h= .panicked [{v:=brk x,recovered:=false}]/\Below e e g):
 Calls zD 7 #[(n+11:),c,xc k at_ m t v d (.slice p a b)] w fun h e=>h= .returned (.tuple #[.agg #[(),()],zB x])/\Below w w e:=by
 have N:∀(u:Fn) (first z:Array Value) (w:zC),(Instr.makeFunc u first z).run zD w= .ok (.func u first z) w:=fun _ _ _ _=>rfl;unfold xc at q ⊢;go_enter_defers Tryz.func7,Tryz.ntmps7;go_wp2_with (go_at_call 21;refine(q _ (aB)).mono ?_;rintro h B ⟨rfl,l⟩);have A:Below w w (((w.alloc (.cells #[zB k,zB at_,zB m,.string t,zB v.kind,zB v.n,.float .f64 v.f,.string v.s,.string d,.slice p a b] 33)).alloc (.cells #[(),()] 39)).alloc (.cells #[zB 0] 40)):=aB;have C:xQ (((w.alloc (.cells #[zB k,zB at_,zB m,.string t,zB v.kind,zB v.n,.float .f64 v.f,.string v.s,.string d,.slice p a b] 33)).alloc (.cells #[(),()] 39)).alloc (.cells #[zB 0] 40)) (w.heap.size+1):=by unfold xQ;rw[zt,if_neg oh,zt,if_pos oh]
 have y:za8 0 (((w.alloc (.cells #[zB k,zB at_,zB m,.string t,zB v.kind,zB v.n,.float .f64 v.f,.string v.s,.string d,.slice p a b] 33)).alloc (.cells #[(),()] 39)).alloc (.cells #[zB 0] 40)) (w.heap.size+1+1):=by unfold za8;rw[zt,if_pos oh]
 have K:(((w.alloc (.cells #[zB k,zB at_,zB m,.string t,zB v.kind,zB v.n,.float .f64 v.f,.string v.s,.string d,.slice p a b] 33)).alloc (.cells #[(),()] 39)).alloc (.cells #[zB 0] 40)).heap.size=w+3:=oh;generalize((w.alloc (.cells #[zB k,zB at_,zB m,.string t,zB v.kind,zB v.n,.float .f64 v.f,.string v.s,.string d,.slice p a b] 33)).alloc (.cells #[(),()] 39)).alloc (.cells #[zB 0] 40)=M at A C y K l;have J:xQ B (w.heap.size+1):=(l.block _ oa).trans C;have I:za8 0 B (w.heap.size+1+1):=(l.block _ oa).trans y;refine zg6 (f:=20) (args:=#[(w.heap.size+1:),(w.heap.size+1+1:)]) oh (by simp[go_sem]) ?_;refine(zq9 x (w.heap.size+1) (w.heap.size+1+1) _ J I oa).mono ?_;rintro h O g ⟨rfl,rfl,o,s,i⟩;have H:g.cell? (w.heap.size+1:)=():=by unfold xQ at o;simp[World.cell?,o]
 have F:g.cell? (w.heap.size+1,1)=():=by unfold xQ at o;simp[World.cell?,o]
 have L:g.cell? (w.heap.size+1+1:)=(zB x):=by unfold za8 at s;simp[World.cell?,s]
 have D:Below w w g:=by have j:=zK A l;have G:=j.size;exact⟨i.os.trans j.os,i.tape.trans j.tape,i.output.trans j.output,zk G i.size,fun r E=>(i.block r oa oa).trans (j.block r E)⟩
 simp[Leaves,settle,results,Tryz.results7,go_sem,H,F,L];exact D
theorem zsg(n:Nat)(c k at_ m:Int)(t:ByteArray)(v:zr)(i:ByteArray)(p:Option Addr)(a b:Nat)(w:zC)(s:1<=k)(r:k<=5)(e:c<1\/9007199254740991<c):
 Calls zD 21 #[(n+11:),c,xc k at_ m t v i (.slice p a b)] w fun d g=>d= .panicked [{v:=brk 154,recovered:=false}]/\Below w w g:=by
 have q:decide (k<1)=false:=oi;have x:decide (5<k)=false:=oi;have f:=zgc 154;unfold xc;rcases zhA c 1 with h|h
 ·have l:decide (c<1)=true:=by simpa using h
  clear e;go_enter Tryz.func21,zjn;go_wp2_with (go_at_call 63;refine(f _).mono ?_;rintro d o ⟨rfl,rfl⟩);exact⟨rfl,rfl,aB⟩
 ·have j:9007199254740991<c:=by omega
  have l:decide (c<1)=false:=oi;have u:decide (9007199254740991<c)=true:=by simpa using j
  clear e;go_enter Tryz.func21,zjn;go_wp2_with (go_at_call 63;refine(f _).mono ?_;rintro d o ⟨rfl,rfl⟩);exact⟨rfl,rfl,aB⟩
def zi0(o:zQ)(w:World)(e:Ending)(w':World):Prop:=∃a,e= .returned (.agg #[.slice (some ⟨a,0,none⟩) 1 1,.slice none 0 0])/\y8 w' a 0 o/\w.heap.size<=a/\a<w'.heap.size/\Below w.heap.size w w'
theorem zR.setG{w:zC}{b k:Nat}{o a:zQ}{v:zJ}(c:zR w b o)(d:(ze o).set k v=ze a):zR (w.setCell (b,k) v) b a:=by unfold zR at *;simp[World.setCell,zu,c,<-d]
def opK(c k a:Int):zQ:=⟨⟨c,k⟩,a,0,zT,zT,⟨#[]⟩,yO,⟨#[]⟩,zT,zT,false,zT,false⟩
def op0(c k:Int):zQ:=opK c k 0
def zgp(o:zQ)(W:World)(u:Value)(wx:World):Prop:=∃a,u= .pointer (some ⟨a,0,none⟩)/\zR wx a o/\W.heap.size<=a/\Below W.heap.size W wx
end Go.Proofs.YtimlgcodecgecaaGreatDoor
