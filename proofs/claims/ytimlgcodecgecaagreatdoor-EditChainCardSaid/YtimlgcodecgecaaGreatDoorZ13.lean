/- A *store.Store's known texts grow: how that lies in memory. -/
import Derived.Test.YtimlgcodecgecaaGreatDoorZ12
import Derived.Laws.IdiomCopy
import Derived.ArgAppend
set_option maxRecDepth 100000
set_option maxHeartbeats 20000000
set_option linter.all false
namespace Go.Proofs.YtimlgcodecgecaaGreatDoor
open Go.RowKit Go.Lib
def jF(K:List (Int×ByteArray))(c:Int)(u:ByteArray):List (Int×ByteArray):=match yg K c with
 |some _=>K.map fun p=>if p.1=c then(p.1,p.2++u) else p
 |none=>K++[(c,u)]
theorem zlD{K:List (Int×ByteArray)}{c:Int}(b:yg K c=none):∀a∈K,a.1≠c:=by intro a e d;unfold yg at b;rw[zfX,zcL] at b;exact b a e obr
theorem zlE(K:List (Int×ByteArray))(c:Int)(u:ByteArray)(b:(K.map (·.1)).Nodup):((jF K c u).map (·.1)).Nodup:=by
 unfold jF;split
 ·rw[jk];have:((fun a:Int×ByteArray=>a.1) ∘ fun a:Int×ByteArray=>if a.1=c then(a.1,a.2++u) else a)=fun a=>a.1:=by funext a;simp only[Function.comp];split<;> rfl
  rw[this];exact b
 ·rename_i j;rw[ym];refine yv.2 ⟨b,oh,fun k d f e g=> ?_⟩;obtain⟨a,i,rfl⟩:=xz.1 d;have h:f=c:=oaZ;exact zlD j a i (g.trans h)
theorem zo3{w:zC}{a b:Nat}{c d:Array Value}{t g:TypeId}{f j:Nat×Nat}(i:w.heap[a]?=some (.cells c t f))(e:w.heap[b]?=some (.cells d g j))(h:t≠g):a≠b:=by rintro rfl;rw[i] at e;cases e;exact h rfl
theorem zad{w:zC}{base e h n:Nat}{v:zJ}{f:List Value}(g:w.ownsRow base e h v n f){b:Nat}(a:v.ownBlock=some b):∃d,w.heap[b]?=some (.cells d e (0,0)):=by
 rcases g.2 with⟨c,_⟩|⟨k,l,d,c,j,i,_⟩
 ·rw[c] at a;cases a
 ·rw[c] at a;cases a;exact⟨_,i⟩
theorem zq.ne_cells{d:Type}{enc:d->Value}{w:zC}{r b:Nat}{l:List (d×Value)}{c:Array Value}{t:TypeId}{f:Nat×Nat}(e:zq enc w r l)(a:w.heap[b]?=some (.cells c t f)):r≠b:=by obtain⟨i,h,g,_⟩:=e;rintro rfl;rw[g] at a;cases a
def qR.with(L:qR)(c:Int)(v:zJ):qR:={L with row:=fun x=>if x=c then v else L.row x}
theorem vU.fresh {w w':zC}{q:Nat}{L:qR}{K:List (Int×ByteArray)}{Q:List zQ}{H:List zO}(e:vU w q L K Q H){c:Int}{u:ByteArray}(p:yg K c=none){v:zJ}{g:Nat}(r:v.ownBlock=some g) (B:w<=g)
 (n:∀o,o<w.heap.size->o≠L.m->w'.heap[o]?=w.heap[o]?) (A:zq qm w' L.m (xT (K.map fun a=>(a.1,L.row a.1)) c v)) (z:zG 0 66 22 ze w' v [kOp c u]):vU w' q (L.with c v) (jF K c u) Q H:=by
 have s:jF K c u=K++[(c,u)]:=by unfold jF;rw[p]
 have x:=zlD p;have i:∀a∈K,(L.with c v).row a.1=L.row a.1:=fun a b=>zN (x a b);have l:(L.with c v).row c=v:=zP rfl;have m:∀a∈K,∀f,(L.row a.1).ownBlock=some f->f<w.heap.size/\f≠L.m:=fun a b f d=>by obtain⟨t,k⟩:=zad (e.rows a b) d;exact⟨xJ (e.rows a b) f d,(e.map.ne_cells k).symm⟩
 have C:∀a∈K,∃f,(L.row a.1).ownBlock=some f:=fun a b=>by obtain⟨f,D,d,_⟩:=zG.one (e.rows a b);rw[d];exact⟨f,rfl⟩
 rw[s];refine {st:= ?_,map:= ?_,keys:= ?_,rows:= ?_,waits:= ?_,held:= ?_,rsep:= ?_,wsep:= ?_}
 ·exact(n q (aL e.st) (e.map.ne_cells e.st).symm).trans e.st
 ·have d:(K++[(c,u)]).map (fun a=>(a.1,(L.with c v).row a.1))=xT (K.map fun a=>(a.1,L.row a.1)) c v:=by have y:xD (K.map fun a=>(a.1,L.row a.1)) c=none:=(by rw[zo5,p];rfl);unfold xT;rw[y,ym];simp only[xd,yl,l];congr 1;apply zbI;intro a b;rw[i a b]
  rw[d];exact A
 ·have:=zlE K c u e.keys;rwa[s] at this
 ·intro a b;rcases xX.1 b with b|b
  ·rw[i a b];exact xI (e.rows a b) fun f d=>n f (m a b f d).1 (m a b f d).2
  ·obtain rfl:a=(c,u):=(by simpa using b);show zG 0 66 22 ze w' ((L.with c v).row c) [kOp c u];rw[l];exact z
 ·refine xI e.waits fun f d=> ?_;obtain⟨t,k⟩:=zad e.waits d;exact n f (xJ e.waits f d) (e.map.ne_cells k).symm
 ·refine xI e.held fun f d=> ?_;obtain⟨t,k⟩:=zad e.held d;exact n f (xJ e.held f d) (e.map.ne_cells k).symm
 ·intro a b j h d;rcases xX.1 b with b|b<;> rcases xX.1 h with h|h
  ·rw[i a b,i j h] at d;exact e.rsep a b j h d
  ·obtain rfl:j=(c,u):=(by simpa using h);rw[i a b,l,r] at d;have:=(m a b g d).1;omega
  ·obtain rfl:a=(c,u):=(by simpa using b);rw[i j h,l,r] at d;have:=(m j h g d.symm).1;omega
  ·obtain rfl:a=(c,u):=(by simpa using b);obtain rfl:j=(c,u):=oaQ;rfl
 ·intro a b;rcases xX.1 b with b|b
  ·rw[i a b];exact e.wsep a b
  ·obtain rfl:a=(c,u):=(by simpa using b);show((L.with c v).row c).ownBlock≠L.wv.ownBlock;rw[l,r];intro d;have:=xJ e.waits g d.symm;omega
theorem zes.fresh{h:Nat}{L:qR}{K:List (Int×ByteArray)}{c:Int}{u:ByteArray}{v:zJ}(g:yg K c=none){b:Nat}(a:zes h (L.with c v) (jF K c u) b):zes h L K b\/v.ownBlock=some b:=by
 rcases a with a|a|⟨e,d,f⟩|a
 ·exact .inl (.inl a)
 ·exact .inl (.inr (.inl a))
 ·have i:jF K c u=K++[(c,u)]:=by unfold jF;rw[g]
  rw[i] at d;rcases xX.1 d with d|d
  ·refine .inl (.inr (.inr (.inl ⟨e,d,?_⟩)));rw[<-f];exact congrArg _ (zN (zlD g e d)).symm
  ·obtain rfl:e=(c,u):=(by simpa using d);exact .inr (by rw[<-f];exact congrArg _ (zP rfl).symm)
 ·exact .inl (.inr (.inr (.inr a)))
structure ziO(m:Nat)(tx:Int->ByteArray):Prop where
 few:m<=5
 ok:∀c:Int,1<=c->c<=m->qY (tx c)=true/\1<=(zh (tx c)).length/\(zh (tx c)).length<=60
def zaC(a:Int->ByteArray)(c:Int):Nat:=(zh (a c)).length
structure za1(m:Nat)(tx:Int->ByteArray)(K:List (Int×ByteArray))(Q:List zQ)(H:List zO):Prop where
 keys:(K.map (·.1)).Nodup
 kn:∀p∈K,1<=p.1/\p.1<=m/\∃n:Nat,0<n/\n<=zaC tx p.1/\p.2=yW (tx p.1) 0 n
 q:∀o∈Q,∃(c:Int) (f e:Nat),o=pc c (tx c) f e/\1<=c/\c<=m/\f<e/\e<=zaC tx c/\qg K c<=f
 apart:Q.Pairwise fun x y=>∀i,x.rng.inR i->¬y.rng.inR i
 hc:yT H
 hh:∀i,xH H i=true↔∃o∈Q,o.rng.inR i
theorem ziP{c:Int}{t:ByteArray}{f e:Nat}(b:f<=e)(a:e<=(zh t).length):(pc c t f e).rng=⟨c,1+f,1+e⟩:=by rw[ztT,zd1,ztU c t f e b a]
theorem zlj{K:List (Int×ByteArray)}{c:Int}{t:ByteArray}(h:yg K c=some t):qg K c=(zh t).length:=by unfold qg;rw[h]
theorem za1.count{m:Nat}{b:Int->ByteArray}{K:List (Int×ByteArray)}{Q:List zQ}{H:List zO}(g:za1 m b K Q H)(c:Int):
 (yg K c=none/\qg K c=0)\/∃a:Nat,1<=c/\c<=m/\0<a/\a<=zaC b c/\yg K c=some (yW (b c) 0 a)/\qg K c=a:=by
 cases hf:yg K c with
 |none=>exact .inl ⟨rfl,by unfold qg;rw[hf]⟩
 |some j=>
  obtain⟨h,f,a,i,d,e⟩:=g.kn _ (zo6 hf);refine .inr ⟨a,h,f,i,d,by rw[<-e],?_⟩;rw[zlj hf,show j=yW (b c) 0 a from e,zkN _ _ _ d];simp
theorem zlk{r:zO}(h:r.near){i:zF}:xH [r] i=true↔i.rightB=true/\r.inR i:=by simp[xH,<-zaF h]
theorem ziQ:∀(l:List Int) (c a:Int),(∀b∈l,c<=b/\b<a)->l.Pairwise (·<·)->(l.length:Int)<=max (a - c) 0
 | [],_,_,_,_=>oi
 |b::l,c,a,e,i=>by obtain⟨g,h⟩:=yr.1 i;have j:=e b oh;have:=ziQ l (c+1) a (fun d f=>by have:=e d obt;have:=g d f;omega) h;simp only[z7];omega
theorem zp7(l:List Int)(d f:Int)(k:∀a∈l,d<=a/\a<f)(o:l.Nodup):(l.length:Int)<=max (f - d) 0:=by
 have h:=List.mergeSort_perm l fun a g=>decide (a<=g);have p:∀c b e:Int,decide (c<=b)=true->decide (b<=e)=true->decide (c<=e)=true:=fun c b e j n=>by simp only[xW] at *;omega
 have q:∀c b:Int,(decide (c<=b) || decide (b<=c))=true:=fun c b=>by simp only[qx,xW];omega
 have m:=List.pairwise_mergeSort p q l;have s:(l.mergeSort fun a g=>decide (a<=g)).Nodup:=h.nodup_iff.2 o;rw[<-h.length_eq];refine ziQ _ d f (fun a r=>k a (h.mem_iff.1 r)) ?_;refine(m.and s).imp fun {c b} i=> ?_;have j:=i.1;have n:=i.2;simp only[xW] at j;omega
theorem zdE{l:List zO}(d:yT l)(i:zF):xH l i=true↔∃a∈l,a.inR i:=by
 simp only[xH,xr,zcD];constructor
 ·rintro⟨_,a,b,c⟩;exact⟨a,b,(zaF (zbY (d.1 a b)) i).1 c⟩
 ·rintro⟨a,b,c⟩;refine⟨?_,a,b,(zaF (zbY (d.1 a b)) i).2 c⟩;have:=za9 (d.1 a b);obtain⟨f,e,g⟩:=c;simp only[zF.rightB,xi,xr,xW];omega
theorem za1.rng{m:Nat}{a:Int->ByteArray}{K:List (Int×ByteArray)}{Q:List zQ}{H:List zO}(g:za1 m a K Q H){o:zQ}(k:o∈Q):
 ∃(c:Int) (f e:Nat),o=pc c (a c) f e/\o.rng=⟨c,1+f,1+e⟩/\1<=c/\c<=m/\f<e/\e<=zaC a c/\qg K c<=f:=by
 obtain⟨c,f,e,rfl,h,d,i,b,j⟩:=g.q o k;exact⟨c,f,e,rfl,ziP oa b,h,d,i,b,j⟩
theorem za1.few{m:Nat}{r:Int->ByteArray}(t:ziO m r){K:List (Int×ByteArray)}{Q:List zQ}{H:List zO}(d:za1 m r K Q H):Q.length<=600/\H.length<=600:=by
 have C:=t.few;have h:∀b∈Q,1<=b.rng.c/\b.rng.c<=5/\1<=b.rng.a/\b.rng.a<=60/\b.rng.inR ⟨b.rng.c,b.rng.a⟩/\b.rng.b<=61:=fun b g=>by obtain⟨s,i,k,_,p,c,v,B,w,_⟩:=d.rng g;have:=(t.ok s c v).2.2;unfold zaC at w;rw[p];refine⟨c,by show s<=5;omega,by show(1:Int)<=1+i;omega,by show(1:Int)+i<=60;omega,⟨rfl,qj _,by show(1:Int)+i<1+k;omega⟩,by show(1:Int)+k<=61;omega⟩
 constructor
 ·have c:=zp7 (Q.map fun b=>100*b.rng.c+b.rng.a) 0 600 (fun a e=>by
   obtain⟨b,g,rfl⟩:=xz.1 e;have:=h b g;omega) (by
   refine zeO.2 (d.apart.imp_of_mem fun {a f} l o u k=> ?_);have z:=h a l;have A:=h f o;have n:a.rng.c=f.rng.c:=oa;have j:a.rng.a=f.rng.a:=oa;refine u _ z.2.2.2.2.1 ?_;rw[n,j];exact A.2.2.2.2.1)
  rw[xk] at c;omega
 ·have q:∀a∈H,1<=a.c/\a.c<=5/\1<=a.a/\a.a<=60/\a.a<a.b:=fun a e=>by have p:=za9 (d.hc.1 a e);have c:=(zdE d.hc ⟨a.c,a.a⟩).2 ⟨a,e,rfl,qj _,p.1⟩;obtain⟨b,g,⟨n,j,x⟩⟩:=(d.hh _).1 c;have:=h b g;dsimp only at n j x;omega
  have c:=ziQ (H.map fun a=>100*a.c+a.a) 0 600 (fun f y=>by obtain⟨a,e,rfl⟩:=xz.1 y;have:=q a e;omega) (zeO.2 (d.hc.2.imp_of_mem fun {a f} l o d=>by have:=q a l;have:=q f o;omega));rw[xk] at c;omega
theorem zdv(p:Int×ByteArray)(K:List (Int×ByteArray))(c:Int):yg (p::K) c=if p.1=c then some p.2 else yg K c:=by
 unfold yg;rw[zg9];by_cases h:p.1=c
 ·simp[h]
 ·simp[h]
theorem zll(c:Int)(u:ByteArray)(d:Int):∀e:List (Int×ByteArray),yg (e.map fun b=>if b.1=c then(b.1,b.2++u) else b) d=(yg e d).map fun g=>if d=c then g++u else g
 | []=>rfl
 |b::e=>by
  rw[xd,zdv,zdv,zll c u d e];by_cases f:b.1=c
  ·rw[zP f];by_cases a:b.1=d
   ·rw[zP a,zP a,zao,zP (a.symm.trans f)]
   ·rw[zN a,zN a]
  ·rw[zN f];by_cases a:b.1=d
   ·have:¬d=c:=fun h=>f (a.trans h);simp[a,this]
   ·simp[a]
theorem zlm(c:Int)(u:ByteArray)(d:Int):∀a:List (Int×ByteArray),yg (a++[(c,u)]) d=match yg a d with|some t=>some t|none=>if c=d then some u else none
 | []=>by rw[xu,zdv];rfl
 |e::a=>by
  rw[yD,zdv,zdv,zlm c u d a];by_cases b:e.1=d
  ·simp[b]
  ·simp[b]
theorem zgM(K:List (Int×ByteArray))(c:Int)(u:ByteArray)(d:Int):yg (jF K c u) d=if d=c then some (((yg K c).getD ⟨#[]⟩)++u) else yg K d:=by
 unfold jF;cases h:yg K c with
 |some e=>
  dsimp only;rw[zll];by_cases a:d=c
  ·subst a;simp[h]
  ·simp[a]
 |none=>
  dsimp only;rw[zlm];by_cases a:d=c
  ·subst a;rw[h];have:(⟨#[]⟩:ByteArray)++u=u:=(by apply ziI;simp);simp[this]
  ·rw[zN a];have:¬c=d:=fun b=>a b.symm;cases yg K d<;> simp[this]
theorem zp8{K:List (Int×ByteArray)}(k:(K.map (·.1)).Nodup){c:Int}{u:ByteArray}{p:Int×ByteArray}(m:p∈jF K c u):p∈K/\p.1≠c\/p=(c,((yg K c).getD ⟨#[]⟩)++u):=by
 have l:=zlE K c u k;have a:yg (jF K c u) p.1=some p.2:=by
  have:∀b:List (Int×ByteArray),(b.map (·.1)).Nodup->p∈b->yg b p.1=some p.2:=by
   intro b;induction b with
   |nil=>intro _ g;simp at g
   |cons i b j=>
    intro f e;rw[xd,zdZ] at f;rw[zdv];rcases xK.1 e with rfl|e
    ·simp
    ·rw[zN (fun h:i.1=p.1=>f.1 (by rw[h];exact xz.2 ⟨p,e,rfl⟩))];exact j f.2 e
  exact this _ l m
 rw[zgM] at a;by_cases d:p.1=c
 ·rw[zP d] at a;right;obtain⟨o,n⟩:=p;simp only[jC] at a;rw[a];exact zda d rfl
 ·rw[zN d] at a;left;exact⟨zo6 a,d⟩
theorem zln{α:Type}{l:List α}{k:Nat}{x:α}(d:x∈l.eraseIdx k):∃a,a≠k/\l[a]?=some x:=by
 obtain⟨a,b⟩:=zcr.1 d;rw[zjR] at b;by_cases c:a<k
 ·rw[zP c] at b;exact⟨a,oa,b⟩
 ·rw[zN c] at b;exact⟨a+1,oa,b⟩
theorem zlo{α:Type}{l:List α}{k j:Nat}{x:α}(a:l[j]?=some x)(c:j≠k):x∈l.eraseIdx k:=by
 refine zcr.2 ?_;by_cases b:j<k
 ·exact⟨j,by rw[zjR,zP b];exact a⟩
 ·refine⟨j - 1,?_⟩;rw[zjR,zN oa,show j - 1+1=j by omega];exact a
theorem zp9{α:Type}{R:α->α->Prop}(k:∀x a,R x a->R a x){l:List α}(b:l.Pairwise R){i j:Nat}{x a:α}(g:l[i]?=some x)(h:l[j]?=some a)(f:i≠j):R x a:=by
 obtain⟨e,rfl⟩:=zw.1 g;obtain⟨d,rfl⟩:=zw.1 h;rw[zbi] at b;rcases Nat.lt_or_gt_of_ne f with c|c
 ·exact b i j e d c
 ·exact k _ _ (b j i d e c)
theorem za1.take {m:Nat}{b:Int->ByteArray}(V:ziO m b){K:List (Int×ByteArray)}{Q:List zQ}{H:List zO}(i:za1 m b K Q H){k:Nat}{c:Int}{f e:Nat}(I:Q[k]?=some (pc c (b c) f e)) (F:1<=c) (O:c<=m) (ao:f<e) (T:e<=zaC b c)
 (ah:qg K c=f){y:List zO}(aa:yT y) (ab:∀d,xH y d=(xH H d && !xH [(⟨c,1+f,1+e⟩:zO)] d)):
 za1 m b (jF K c (yW (b c) f e)) (Q.eraseIdx k) y/\qg (jF K c (yW (b c) f e)) c=e/\yg (jF K c (yW (b c) f e)) c=some (yW (b c) 0 e):=by
 have an:=(V.ok c F O).2;have ap:=V.few;have W:e<=(zh (b c)).length:=T;have C:((yg K c).getD ⟨#[]⟩)++yW (b c) f e=yW (b c) 0 e:=by
  rcases i.count c with⟨n,x⟩|⟨aj,_,_,_,_,n,x⟩
  ·obtain rfl:f=0:=(by omega);rw[n];apply ziI;simp
  ·obtain rfl:f=aj:=(by omega);rw[n];exact ztR (b c) (xO _) oa
 have B:yg (jF K c (yW (b c) f e)) c=some (yW (b c) 0 e):=by rw[zgM,zP rfl,C]
 have L:qg (jF K c (yW (b c) f e)) c=e:=by rw[zlj B,zkN _ _ _ W];simp
 have ai:∀t,t≠c->qg (jF K c (yW (b c) f e)) t=qg K t:=fun t al=>by unfold qg;rw[zgM,zN al]
 have w:(pc c (b c) f e).rng=⟨c,1+f,1+e⟩:=ziP oa W;have G:∀j l,Q[l]?=some j->l≠k->∀d,j.rng.inR d->¬(pc c (b c) f e).rng.inR d:=fun j l h r=>
  zp9 (R:=fun J M:zQ=>∀d,J.rng.inR d->¬M.rng.inR d) (fun J M ac d n x=>ac d x n) i.apart h I r
 refine⟨{keys:=zlE K c _ i.keys,kn:= ?_,q:= ?_,apart:=i.apart.sublist (List.eraseIdx_sublist _ _),hc:=aa,hh:= ?_},L,B⟩
 ·intro ak am;rcases zp8 i.keys am with⟨n,_⟩|rfl
  ·exact i.kn ak n
  ·exact⟨F,O,e,oa,T,C⟩
 ·intro j z;obtain⟨l,r,h⟩:=zln z;obtain⟨v,o,N,rfl,X,s,u,Y,ae,D⟩:=i.rng (xn h);refine⟨v,o,N,rfl,s,u,Y,ae,?_⟩;by_cases E:v=c
  ·subst E;rw[L];rw[ah] at D;have:=G _ l h r ⟨v,1+o⟩;rw[X,w] at this;have af:=this ⟨rfl,qj _,by show(1:Int)+o<1+N;omega⟩;have ag:¬(o:Int)<e:=fun ag=>af ⟨rfl,by show(1:Int)+f<=1+o;omega,by show(1:Int)+o<1+e;omega⟩;omega
  ·rw[ai v E];exact D
 ·intro d;have A:(⟨c,1+f,1+e⟩:zO).near:=by unfold zO.near;dsimp only;omega
  rw[ab d,xr];constructor
  ·rintro⟨s,u⟩;obtain⟨j,Z,p⟩:=(i.hh d).1 s;obtain⟨l,h⟩:=zcr.1 Z;refine⟨j,zlo h ?_,p⟩;rintro rfl;rw[I] at h;cases h;rw[w] at p;have ad:d.rightB=true:=(by simp only[xH,xr] at s;exact s.1);have:=(zlk A).2 ⟨ad,p⟩;rw[this] at u;simp at u
  ·rintro⟨j,z,p⟩;obtain⟨l,r,h⟩:=zln z;refine⟨(i.hh d).2 ⟨j,xn h,p⟩,?_⟩;have:=G j l h r d p;rw[w] at this;cases g:xH [(⟨c,1+f,1+e⟩:zO)] d
   ·rfl
   ·exact absurd ((zlk A).1 g).2 this
def Cov(b:Int->ByteArray)(K:List (Int×ByteArray))(Q:List zQ)(c:Int):Prop:=∀k:Nat,k<zaC b c->(k:Int)<qg K c\/∃a∈Q,a.rng.inR ⟨c,1+k⟩
theorem Cov.take {a:Int->ByteArray}{K:List (Int×ByteArray)}{Q:List zQ}{k:Nat}{c:Int}{f e:Nat}(s:Q[k]?=some (pc c (a c) f e)) (z:f<e) (v:e<=zaC a c)
 (l:qg (jF K c (yW (a c) f e)) c=e) (y:qg K c<=e){d:Int}(o:Cov a K Q d):Cov a (jF K c (yW (a c) f e)) (Q.eraseIdx k) d:=by
 intro r m;have u:d≠c->qg (jF K c (yW (a c) f e)) d=qg K d:=fun b=>by unfold qg;rw[zgM,zN b]
 rcases o r m with x|⟨t,w,h⟩
 ·left;by_cases b:d=c
  ·subst b;rw[l];omega
  ·rw[u b];exact x
 ·obtain⟨q,g⟩:=zcr.1 w;by_cases i:q=k
  ·subst i;rw[s] at g;cases g;rw[ziP oa v] at h;obtain⟨j,n,p⟩:=h;dsimp only at j n p;subst j;left;rw[l];omega
  ·exact .inr ⟨t,zlo g i,h⟩
def zqA(K:List (Int×ByteArray))(o:zQ):Prop:=o.id.k<=qg K o.id.c+1
theorem za1.done{m:Nat}{a:Int->ByteArray}(F:ziO m a){K:List (Int×ByteArray)}{Q:List zQ}{H:List zO}(b:za1 m a K Q H)(B:∀c:Int,1<=c->c<=m->Cov a K Q c)(C:∀i∈Q,¬zqA K i):
 Q= []/\H= []/\(∀c:Int,1<=c->c<=m->yg K c=some (a c))/\∀j∈K,1<=j.1/\j.1<=m:=by
 have l:∀c:Int,1<=c->c<=m->qg K c=zaC a c:=by
  intro c e d;have D:0<=qg K c/\qg K c<=zaC a c:=by
   rcases b.count c with⟨_,f⟩|⟨u,_,_,_,p,_,f⟩
   ·omega
   ·omega
  rcases zhA (qg K c) (zaC a c) with k|k
  ·exfalso;obtain⟨w,N⟩:=zjS D.1;rcases B c e d w oa with n|⟨i,h,r⟩
   ·omega
   ·obtain⟨A,o,f,rfl,E,L,I,G,M,J⟩:=b.rng h;rw[E] at r;obtain⟨s,x,z⟩:=r;dsimp only at s x z;subst s;refine C _ h ?_;show(1:Int)+o<=qg K A+1;omega
  ·omega
 have t:Q= []:=by
  cases Q with
  |nil=>rfl
  |cons i Q=>
   obtain⟨c,o,f,_,e,d,k,p,n⟩:=b.q i oh;have:=l c e d;omega
 refine⟨t,?_,?_,fun j v=>⟨(b.kn j v).1,(b.kn j v).2.1⟩⟩
 ·refine zgj b.hc fun q=> ?_;cases g:xH H q
  ·rfl
  ·obtain⟨i,h,_⟩:=(b.hh q).1 g;rw[t] at h;simp at h
 ·intro c e d;have y:=F.ok c e d;rcases b.count c with⟨_,f⟩|⟨u,_,_,k,p,n,f⟩
  ·have:=l c e d;unfold zaC at this;omega
  ·have:=l c e d;obtain rfl:u=zaC a c:=oa;rw[n,zkM y.1 (show(zh (a c)).length<=zaC a c from zU _)]
theorem zr1{x:zO}{D:List zO}(b:yT (x::D)){u:zO}(a:u∈x::D):x.c<u.c\/(x.c=u.c/\x.a<=u.a):=by
 rcases xK.1 a with rfl|a
 ·exact .inr ⟨rfl,qj _⟩
 ·have d:=(yr.1 b.2).1 u a;have c:=za9 (b.1 x oh);omega
theorem zis{x:zO}{D:List zO}(a:yT (x::D)):yT D:=⟨fun c b=>a.1 c (zdd _ b),(yr.1 a.2).2⟩
theorem zmd{x a:zO}{D E:List zO}(c:yT (x::D))(f:yT (a::E))(i:∀e,xH (x::D) e=xH (a::E) e):a.c<x.c\/(a.c=x.c/\a.a<=x.a):=by have j:=za9 (c.1 x oh);have d:xH (x::D) ⟨x.c,x.a⟩=true:=(zdE c _).2 ⟨x,oh,rfl,qj _,j.1⟩;rw[i,zdE f] at d;obtain⟨b,h,k,g,l⟩:=d;have:=zr1 f h;have m:b.c=x.c:=k;have n:b.a<=x.a:=g;omega
theorem zme{x a:zO}{D E:List zO}(c:yT (x::D))(k:yT (a::E))(l:∀f,xH (x::D) f=xH (a::E) f)(i:x.c=a.c)(n:x.a=a.a):a.b<=x.b:=by
 rcases zhA x.b a.b with e|e
 ·exfalso;have q:=za9 (c.1 x oh);have g:xH (a::E) ⟨x.c,x.b⟩=true:=(zdE k _).2 ⟨a,oh,i.symm,by show a.a<=x.b;omega,e⟩;rw[<-l,zdE c] at g;obtain⟨b,d,h,m,j⟩:=g;have p:b.c=x.c:=h;have r:b.a<=x.b:=m;have o:x.b<b.b:=j;rcases xK.1 d with rfl|d
  ·omega
  ·have:=(yr.1 c.2).1 b d;omega
 ·exact e
theorem zgk{x:zO}{D:List zO}(e:yT (x::D))(i:zF):xH D i=true↔xH (x::D) i=true/\¬x.inR i:=by
 rw[zdE e,zdE (zis e)];constructor
 ·rintro⟨b,a,c,d,f⟩;refine⟨⟨b,zdd _ a,c,d,f⟩,fun⟨g,j,h⟩=> ?_⟩;have:=(yr.1 e.2).1 b a;omega
 ·rintro⟨⟨b,a,c⟩,d⟩;rcases xK.1 a with rfl|a
  ·exact absurd c d
  ·exact⟨b,a,c⟩
theorem zgl:∀(D E:List zO),yT D->yT E->(∀a,xH D a=xH E a)->D=E
 | [],E,_,c,d=>(zgj c fun a=>by rw[<-d];simp[xH]).symm
 |e::D,[],b,_,d=>zgj b fun a=>by rw[d];simp[xH]
 |e::D,f::E,b,c,d=>by
  have s:=zmd b c d;have l:=zmd c b fun a=>(d a).symm;have h:e.c=f.c:=oa;have g:e.a=f.a:=oa;have i:=zme b c d h g;have j:=zme c b (fun a=>(d a).symm) h.symm g.symm;have k:e=f:=by obtain⟨m,r,q⟩:=e;obtain⟨o,n,p⟩:=f;simp only[zO.mk.injEq];dsimp only at h g i j;omega
  subst k;congr 1;refine zgl D E (zis b) (zis c) fun a=> ?_;have:=zgk b a;have:=zgk c a;rw[zaK];rw[zgk b,zgk c,d]
theorem zmf{r:zO}(h:r.rightB=true):yT [r]:=⟨oaQ,oh⟩
def qc(x:zF)(r:zO):Bool:=x.lessB ⟨r.c,r.b⟩
theorem zrg(r:zO)(x:zF)(w:zC):Calls zD 191 #[.agg #[r.c,r.a,r.b],.agg #[x.c,x.k]] w fun c d=>c=(zB (if qc x r then 1 else -1))/\Below w w d:=by
 have b:=zgn x ⟨r.c,r.b⟩;unfold qc;cases hb:x.lessB ⟨r.c,r.b⟩;all_goals
  rw[hb] at b
  clear hb
  go_enter Tryz.func191,Tryz.ntmps191
  go_wp2_with (go_at_call 192;refine(b _).mono ?_;rintro c g ⟨rfl,a⟩;obtain⟨f,e⟩:=yZ a)
  go_ret
  exact⟨rfl,by first|exact a|exact zK aA a|exact zK (aB) a⟩
def vF(x:zF)(l:List zO):Nat:=(l.takeWhile fun r=>!qc x r).length
theorem zmQ(x:zF)(l:List zO):vF x l<=l.length:=(List.takeWhile_sublist _).length_le
theorem zil{x:zF}{l:List zO}{i:Nat}{r:zO}(c:i<vF x l)(a:l[i]?=some r):qc x r=false:=by
 have d:(l.takeWhile fun r=>!qc x r)[i]?=some r:=by have b:l=(l.takeWhile fun r=>!qc x r)++(l.dropWhile fun r=>!qc x r):=(zhQ).symm;rw[b,jm c] at a;exact a
 have:=zhR (p:=fun r=>!qc x r) (l:=l);rw[zaq] at this;have:=this r (xn d);simpa using this
theorem zmR{x:zF}{l:List zO}(k:l.Pairwise fun r j=>qc x r=true->qc x j=true){i:Nat}{r:zO}(b:vF x l<=i)(e:l[i]?=some r):qc x r=true:=by
 have a:l=(l.takeWhile fun r=>!qc x r)++(l.dropWhile fun r=>!qc x r):=(zhQ).symm;cases hd:(l.dropWhile fun r=>!qc x r) with
 |nil=>
  rw[hd,zbl] at a;have:=(zw.1 e).1;unfold vF at b;rw[<-a] at b;omega
 |cons h m=>
  have g:qc x h=true:=by have:=zhS (p:=fun r=>!qc x r) (l:=l);rw[hd] at this;simpa using this
  rw[hd] at a;have f:=e;rw[a,vL b] at f;have d:=k;rw[a,zbJ,yr] at d;rcases xK.1 (xn f) with c|c
  ·rw[c];exact g
  ·exact d.2.1.1 r c g
theorem zrh (x:zF) (l:List zO) (b g cap:Nat) (w:zC) (al:l.length<=1000000) (F:b<w) (X:∀(j:Nat) (r:zO),l[j]?=some r->∀(i:Nat) (k:zJ),(zY r)[i]?=some k->w.cell? (b,g+j*3+i)=some k)
 (ab:l.Pairwise fun r d=>qc x r=true->qc x d=true):
 Calls zD 190 #[.slice (some (b,g)) l.length cap,.agg #[x.c,x.k],.func (.func 191) #[] #[]] w fun am ah=>am= .returned (.tuple #[zB (vF x l),.bool false])/\Below w w ah:=by
 have z:=fun r=>zrg r x;have R:=zmQ x l;have ag:=zA fun i r (h:i<vF x l)=>zil (i:=i) (r:=r) h;have T:=zA fun i r (h:vF x l<=i)=>zmR ab (i:=i) (r:=r) h;have af:=zA X;obtain⟨H,ad⟩:=aY (vF x l);obtain⟨u,V⟩:=aY l.length;have ae:=zA V;rw[ad] at R ag T ⊢;rw[V] at al R ⊢;clear ab X ad V;go_enter Tryz.func190,Tryz.ntmps190;go_upto_region 3 with fail;generalize ac:World.alloc _ _=G;obtain⟨n,L,-⟩:=aF ac;have y:=aC L 0;have A:=aC L 1;have q:=aL L;clear ac L;go_loopw [9,10,11] (fun N W _ wx=>∃f a:Nat,f<=H/\H<=a/\a<=u/\N=zB f/\W=zB a/\Below G G wx) (fun N W _ _=>(intOf W).toNat - (intOf N).toNat);case atStart=>exact⟨0,u,xO _,R,zU _,rfl,rfl,zf _ _⟩
 case round=>
  obtain⟨f,a,ak,ao,ar,rfl,rfl,e⟩:=hrel;by_cases Z:f<a
  ·have Y:(f:Int)<(a:Int):=(by omega);obtain⟨c,aa⟩:=aX ((f+a) / 2);have ap:c<u:=oa;obtain⟨r,o⟩:∃r,l[c]?=some r:=⟨l[c]'(by rw[ae.o];exact ap),xG _⟩;have aP:((f:Int)+(a:Int)) / 2=(c:Int):=oa;have aH:IntKind.i64.wrap ((f:Int)+(a:Int))=(f:Int)+(a:Int):=oab;have av:IntKind.u64.wrap ((f:Int)+(a:Int))=(f:Int)+(a:Int):=og;have au:IntKind.i64.wrap (c:Int)=c:=oab;have az:IntKind.u64.wrap (c:Int)=c:=og;have aw:(c:Int)<(u:Int):=oa;have B:b<G:=zg F n.size;have m:∀(i:Nat) (k:zJ),(zY r)[i]?=some k->wr.cell? (b,g+c*3+i)=some k:=fun i k M=>(e.cell (p:=(b,g+c*3+i)) B).trans ((n.cell (p:=(b,g+c*3+i)) F).trans (af.o c r o i k M));have t:b<wr:=zg B e.size;have D:∀d:zM wr,d.val.cell? (b,g+c*3)=r.c:=zM.cell t (m 0 _ rfl);have E:∀d:zM wr,d.val.cell? (b,g+c*3+1)=r.a:=zM.cell t (m 1 _ rfl);have K:∀d:zM wr,d.val.cell? (b,g+c*3+2)=r.b:=zM.cell t (m 2 _ rfl);have J:∀d:zM wr,d.val.cell? w=x.c:=zM.cell (zg q e.size) ((e.cell (p:=w) q).trans y);have I:∀d:zM wr,d.val.cell? (w,1)=x.k:=zM.cell (zg q e.size) ((e.cell (p:=(w,1)) q).trans A);have s:=z r;have ay:f<=c:=oa;have ax:c<a:=oa;by_cases aj:c<H
   ·have C:=ag.o c r aj o;rw[C] at s;clear m o aa z C y A Y;go_upto_region 5 with fail;refine aG ?_;repeat(first|go_big_quiet_skip|(go_big_quiet_want;go_big_quiet_op;first|go_big_quiet_on|go_big_quiet_call ((go_at_call 191;exact xl (s _)))))
    refine aE ?_;intro W' hC' hBW';clear D E K J I;go_wp2;go_roundw;case rel=>exact⟨c+1,a,oa,ao,ar,by first|rfl|(congr 1)|simp,rfl,e.trans (hBW'.mono e.size)⟩
    case measure=>simp[intOf];omega
   ·have C:=T.o c r oa o;rw[C] at s;clear m o aa z C y A Y;go_upto_region 5 with fail;refine aG ?_;repeat(first|go_big_quiet_skip|(go_big_quiet_want;go_big_quiet_op;first|go_big_quiet_on|go_big_quiet_call ((go_at_call 191;exact xl (s _)))))
    refine aE ?_;intro W' hC' hBW';clear D E K J I;go_wp2;go_roundw;case rel=>exact⟨f,c,ak,oa,oa,rfl,rfl,e.trans (hBW'.mono e.size)⟩
    case measure=>simp[intOf];omega
  ·obtain rfl:f=H:=(by omega);obtain rfl:a=f:=oa;by_cases O:a<u
   ·obtain⟨r,o⟩:∃r,l[a]?=some r:=⟨l[a]'(by rw[ae.o];exact O),xG _⟩;have aq:(a:Int)<(u:Int):=oa;have ai:¬((a:Int)<(a:Int)):=oa;have B:b<G:=zg F n.size;have m:∀(i:Nat) (k:zJ),(zY r)[i]?=some k->wr.cell? (b,g+a*3+i)=some k:=fun i k M=>(e.cell (p:=(b,g+a*3+i)) B).trans ((n.cell (p:=(b,g+a*3+i)) F).trans (af.o a r o i k M));have t:b<wr:=zg B e.size;have D:∀d:zM wr,d.val.cell? (b,g+a*3)=r.c:=zM.cell t (m 0 _ rfl);have E:∀d:zM wr,d.val.cell? (b,g+a*3+1)=r.a:=zM.cell t (m 1 _ rfl);have K:∀d:zM wr,d.val.cell? (b,g+a*3+2)=r.b:=zM.cell t (m 2 _ rfl);have J:∀d:zM wr,d.val.cell? w=x.c:=zM.cell (zg q e.size) ((e.cell (p:=w) q).trans y);have I:∀d:zM wr,d.val.cell? (w,1)=x.k:=zM.cell (zg q e.size) ((e.cell (p:=(w,1)) q).trans A);have s:=z r;rw[T.o a r (zU _) o] at s;clear m o z y A Z O;go_upto_region 8 with fail;refine aG ?_;repeat(first|go_big_quiet_skip|(go_big_quiet_want;go_big_quiet_op;first|go_big_quiet_on|go_big_quiet_call ((go_at_call 191;exact xl (s _)))))
    refine aE ?_;intro W' hC' hBW';clear D E K J I;go_wp2;refine yG (v:= .tuple #[zB a,.bool false]) ?_ rfl ⟨rfl,(n.trans (e.mono n.size)).trans (hBW'.mono (zk n.size e.size))⟩;simp[results,zji,go_sem]
   ·have aq:¬((a:Int)<(u:Int)):=(by omega);have ai:¬((a:Int)<(a:Int)):=oa;clear z y A Z O;go_upto_region 8 with fail;refine aQ ?_;intro W' hC' hBW';go_wp2;refine yG (v:= .tuple #[zB a,.bool false]) ?_ rfl ⟨rfl,(n.trans (e.mono n.size)).trans (hBW'.mono (zk n.size e.size))⟩;simp[results,zji,go_sem]
def jU(l:List zO)(x:zF):Bool:=match l[vF x l]? with
 |some r=>decide (r.c=x.c) && decide (r.a<=x.k)
 |none=>false
theorem zmS{l:List zO}(b:yT l)(x:zF):l.Pairwise fun c a=>qc x c=true->qc x a=true:=by refine b.2.imp_of_mem fun {c a} f e g d=> ?_;have h:=za9 (b.1 a e);simp only[qc,zF.lessB,qx,xr,xW] at d ⊢;omega
theorem zri{l:List zO}(g:yT l)(x:zF):jU l x=true↔∃e∈l,e.inR x:=by
 unfold jU;have s:=zmS g x;cases hk:l[vF x l]? with
 |none=>
  simp only[jW,false_iff];rintro⟨e,r,c,a,k⟩;obtain⟨b,d,rfl⟩:=zeW.1 r;have n:b<vF x l:=by have:=zjj.1 hk;omega
  have:=zil n (xG d);simp only[qc,zF.lessB,zjk,zjl,zaN] at this;omega
 |some e=>
  simp only[xr,xW];have f:=zmR s (zU _) hk;have i:=xn hk;constructor
  ·rintro⟨c,a⟩;refine⟨e,i,c,a,?_⟩;simp only[qc,zF.lessB,qx,xr,xW] at f;omega
  ·rintro⟨t,m,c,a,k⟩;obtain⟨b,d,rfl⟩:=zeW.1 m;have u:vF x l<=b:=(by apply zhG;intro q;have:=zil (Nat.lt_of_not_le q) (xG d);simp only[qc,zF.lessB,zjk,zjl,zaN] at this;omega);obtain⟨j,h⟩:=zw.1 hk;by_cases p:vF x l=b
   ·subst p;rw[h] at c a;exact⟨c,a⟩
   ·have o:=zbi.1 g.2 (vF x l) b j d oa;rw[h] at o;simp only[qc,zF.lessB,qx,xr,xW] at f;omega
theorem zmT(g:Nat)(X:zJ)(b:List zO)(x:zF)(w:zC)(C:w.cell? (g,3)=some X)(an:zc 3 zY w X b)(ai:yT b)(N:b.length<=1000000):
 Calls zD 123 #[g,.agg #[x.c,x.k]] w fun am y=>am= .returned (.bool (jU b x))/\Below w w y:=by
 have A:g<w:=zfY C;rcases an with⟨rfl,rfl⟩|⟨j,k,ac,rfl,aq,o,F⟩
 ·have m:=fun af w=>zrf x af w;go_enter Tryz.func123,Tryz.ntmps123;go_upto_region 1 with fail;generalize ad:World.alloc _ _=z;obtain⟨h,i,-⟩:=aF ad;have t:=aC i 0;have s:=aC i 1;have r:=aL i;clear ad i;have u:=(h.cell (p:=(g,3)) A).trans C;have v:g<z:=zg A h.size;have I:=aU t;have M:=aU s;have L:=aU u;refine aG ?_;repeat(first|go_big_quiet_skip|(go_big_quiet_want;go_big_quiet_op;first|go_big_quiet_on|go_big_quiet_call ((go_at_call 190;exact xl (m _ _)))))
  refine aE ?_;intro W' hC' hBW';have f:=h.trans (hBW'.mono h.size);have al:∀c:zM W',c.val.cell? (g,3)=():=zM.cell (zg v hBW'.size) ((hBW'.cell (p:=(g,3)) v).trans u);clear I M L hC';go_upto_region 2 with fail;refine aQ ?_;intro W' hC' hBW';go_wp2;go_ret;exact⟨rfl,f.trans (hBW'.mono f.size)⟩
 ·have ab:=zmQ x b;have E:jU b x=match b[vF x b]? with
   |some a=>decide (a.c=x.c) && decide (a.a<=x.k)
   |none=>false:=rfl
  obtain⟨D,G⟩:=aY b.length;have Z:=zA G;have m:=zA fun y (O:Below w w y)=>zrh x b j k ac y N (zg o O.size) (fun V a ag T ap aj=>(O.cell (p:=(j,k+V*3+T)) o).trans (F V a ag T ap aj)) (zmS ai x);rw[G] at ab m C N;clear G;obtain⟨d,R⟩:=aY (vF x b);rw[R] at ab m E;have J:=zA E;clear R E;have Y:=zA F;clear F;go_enter Tryz.func123,Tryz.ntmps123;go_upto_region 1 with fail;generalize aa:World.alloc _ _=z;obtain⟨h,i,-⟩:=aF aa;have t:=aC i 0;have s:=aC i 1;have r:=aL i;clear aa i;have u:=(h.cell (p:=(g,3)) A).trans C;have v:g<z:=zg A h.size;have I:=aU t;have M:=aU s;have L:=aU u;have ae:=fun c:zM z=>m.o c.val (h.trans (c.h.mono h.size));refine aG ?_;repeat(first|go_big_quiet_skip|(go_big_quiet_want;go_big_quiet_op;first|go_big_quiet_on|go_big_quiet_call ((go_at_call 190;exact xl (ae _)))))
  refine aE ?_;intro W' hC' hBW';have f:=h.trans (hBW'.mono h.size);have ak:g<W':=zg v hBW'.size;have al:∀c:zM W',c.val.cell? (g,3)=some (.slice (some (j,k)) D ac):=zM.cell ak ((hBW'.cell (p:=(g,3)) v).trans u);have aw:∀c:zM W',c.val.cell? w=x.c:=zM.cell (zg r hBW'.size) ((hBW'.cell (p:=w) r).trans t);have av:∀c:zM W',c.val.cell? (w,1)=x.k:=zM.cell (zg r hBW'.size) ((hBW'.cell (p:=(w,1)) r).trans s);clear I M L hC' ae m t s;by_cases K:d<D
  ·obtain⟨a,l⟩:∃a,b[d]?=some a:=⟨b[d]'(by rw[Z.o];exact K),xG _⟩;have ah:(d:Int)<(D:Int):=oa;have W:j<W':=zg o f.size;have ar:∀c:zM W',c.val.cell? (j,k+d*3)=a.c:=zM.cell W ((f.cell (p:=(j,k+d*3)) o).trans (Y.o d a l 0 _ rfl));have au:∀c:zM W',c.val.cell? (j,k+d*3+1)=a.a:=zM.cell W ((f.cell (p:=(j,k+d*3+1)) o).trans (Y.o d a l 1 _ rfl));have B:=zA l;clear K l;by_cases n:a.c=x.c
   ·have ao:(a.c==x.c)=true:=(by simpa using n);have q:decide (a.c=x.c)=true:=(by simpa using n);have H:=zA q;clear n q;go_upto_region 2 with fail;refine aQ ?_;intro W' hC' hBW';go_wp2;go_ret;have e:=J.o;rw[B.o] at e;dsimp only at e;rw[H.o] at e;exact⟨by rw[e];simp,f.trans (hBW'.mono f.size)⟩
   ·have ao:(a.c==x.c)=false:=(by simpa using n);have q:decide (a.c=x.c)=false:=(by simpa using n);have H:=zA q;clear n q;go_upto_region 2 with fail;refine aQ ?_;intro W' hC' hBW';go_wp2;go_ret;have e:=J.o;rw[B.o] at e;dsimp only at e;rw[H.o] at e;exact⟨by rw[e];simp,f.trans (hBW'.mono f.size)⟩
  ·have ah:¬((d:Int)<(D:Int)):=(by omega);have l:b[d]?=none:=zjj.2 (by rw[Z.o];omega);have B:=zA l;clear K l;go_upto_region 2 with fail;refine aQ ?_;intro W' hC' hBW';go_wp2;go_ret;have e:=J.o;rw[B.o] at e;exact⟨by rw[e];rfl,f.trans (hBW'.mono f.size)⟩
theorem znH{t:zL}(a:t.rightB=true):t.rg.near:=by have b:=yK a;exact⟨by show 1<=t.c;omega,by show t.c<=_;omega,by show 1<=t.a;omega,by show t.b<=_;omega⟩
theorem ztB{T:List zL}(c:yM T){i:zF}(n:i.rightB=true):xH (xf (xL T)) i=decide (zd T i % 2=1):=by
 rw[(zdj _).2];unfold xH;rw[n,Bool.true_and];apply zaK.2;rw[zcD,xW];constructor
 ·rintro⟨k,h,d⟩;obtain h1|⟨a,b,hn,rfl⟩:=((zdl T []).2 k).1 h
  ·cases h1
  ·have g:a.hasB i=true:=(by refine(yh (c.1 a b) i).2 ?_;exact(zaF (znH (c.1 a b)) i).1 d);rw[c.memOf b g];exact hn
 ·intro e;obtain⟨a,b,d,j⟩:=zbz (l:=T) (i:=i) (by intro m;rw[m] at e;simp at e);refine⟨a.rg,((zdl T []).2 _).2 (.inr ⟨a,b,by rw[<-j];exact e,rfl⟩),?_⟩;have f:=(yh (c.1 a b) i).1 d;exact(zaF (znH (c.1 a b)) i).2 f
theorem znI{T:List zL}(b:yM T){i:zF}(a:i.rightB=true):j3 (xf (xL T)) i=decide (zd T i % 2=1):=by have:=ztB b a;unfold xH at this;rwa[a,Bool.true_and] at this
theorem ztC{T:List zL}(e:yM T){i:zF}(f:i.rightB=true):jU (xf (xL T)) i=decide (zd T i % 2=1):=by
 rw[<-znI e f];apply zaK.2;rw[zri (zdj _).1];unfold j3;rw[zcD];have d:=(zdj (xL T)).1;constructor
 ·rintro⟨b,a,c⟩;exact⟨b,a,(zaF (zbY (d.1 b a)) i).2 c⟩
 ·rintro⟨b,a,c⟩;exact⟨b,a,(zaF (zbY (d.1 b a)) i).1 c⟩
theorem ztD{S:zE}{T:List zL}(b:yM T)(d:∀a∈S.ids,a.rightB=true):S.ids.filter (fun a=>!j3 (xf (xL T)) a)=S.shown T:=by unfold zE.shown;refine zjW fun a c=> ?_;rw[znI b (d a c)];rfl
theorem znJ{S:zE}{T:List zL}(b:yM T)(d:∀a∈S.ids,a.rightB=true):S.ids.filter (fun a=>!jU (xf (xL T)) a)=S.shown T:=by unfold zE.shown;refine zjW fun a c=> ?_;rw[ztC b (d a c)];rfl
theorem zdo(b:Nat):∀(a:List Value) (o:Nat) (w:zC),(∀c,c≠b->(w.setCells b o a).heap[c]?=w.heap[c]?)/\(w.setCells b o a).heap.size=w/\(w.setCells b o a).os=w.os/\(w.setCells b o a).tape=w.tape/\(w.setCells b o a).output=w.output
 | [],_,_=>⟨fun _ _=>rfl,rfl,rfl,rfl,rfl⟩
 |h::a,o,w=>by obtain⟨g,e,i,f,j⟩:=zdo b a (o+1) (w.setCell (b,o) h);refine⟨fun c d=>(g c d).trans (zZ _ _ _ _ d),e.trans oh,i,f,j⟩
theorem zek(b:Nat){t:TypeId}{f:Nat×Nat}:∀(e:List Value) (o:Nat) (w:zC) (a:Array Value),w.heap[b]?=some (.cells a t f)->∃c,(w.setCells b o e).heap[b]?=some (.cells c t f)/\c.size=a.size
 | [],_,_,a,d=>⟨a,d,rfl⟩
 |g::e,o,w,a,d=>by
  have i:(w.setCell (b,o) g).heap[b]?=some (.cells (a.setIfInBounds o g) t f):=by simp[World.setCell,zu,d]
  obtain⟨c,h,j⟩:=zek b e (o+1) _ _ i;exact⟨c,h,by rw[j];simp⟩
theorem zG.of_cells {α:Type}{base E k:Nat}{enc:α->List Value}(b:∀x,(enc x).length=k){w:zC}{g cap:Nat}{e:Array Value}{l:List α}(r:base<=g) (n:w.heap[g]?=some (.cells e E (0,0))) (v:l.length<=cap) (y:cap<=maxLen) (s:e.size=cap*k)
 (t:∀(j:Nat) (x:α),l[j]?=some x->∀(i:Nat) (p:zJ),(enc x)[i]?=some p->w.cell? (g,j*k+i)=some p):zG base E k enc w (.slice (some g) l.length cap) l:=by
 refine⟨qy b l,.inr ⟨g,cap,e,rfl,r,n,v,y,s,?_⟩⟩;apply zbp;intro a;rw[zcE];by_cases c:a<l.length*k
 ·rw[zP c];have m:0<k:=Nat.pos_of_ne_zero fun u=>by subst u;simp at c
  have f:a / k<l.length:=zfN (by rw[zbe];exact c);have q:=jo b l (a / k) (a % k) l[a / k] obt (zaH _ m);have o:a / k*k+a % k=a:=by rw[zbe];exact zfO a k
  rw[o] at q;rw[q];have h:a % k<(enc l[a / k]).length:=by rw[b];exact zaH _ m
  have d:=t (a / k) l[a / k] obt (a % k) _ (xG h);rw[o,World.cell?,n] at d;simp only[zcG,jW,jX] at d;rw[zbK,d,xG h]
 ·rw[zN c];rw[vp (by rw[qy b];omega)]
section
section
variable {P:Program}{ops:Array Oper}{md:Region.Mode}{S:World->Prop}{Q:Exit->Act->World->Prop}
inductive OT where
 |nil:OT
 |one (i:Nat) (t:OT):OT
 |two (i:Nat) (t:OT) (j:Nat) (u:OT):OT
def OT.len:OT->Nat
 | .nil=>0
 | .one _ t=>t.len+1
 | .two _ t _ _=>t.len+1
end
end
end Go.Proofs.YtimlgcodecgecaaGreatDoor
