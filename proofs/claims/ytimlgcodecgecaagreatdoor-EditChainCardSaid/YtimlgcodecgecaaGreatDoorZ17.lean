/- Walk: a unit's place in any sequence. -/
import Derived.Test.YtimlgcodecgecaaGreatDoorZ16
import Derived.LaidEqlPtr
set_option maxRecDepth 100000
set_option maxHeartbeats 20000000
set_option linter.all false
namespace Go.Proofs.YtimlgcodecgecaaGreatDoor
open Go.RowKit Go.Shelf Go.Lib
section
attribute [local go_sem] jl
structure qQ(D:zp)(S:zE):Prop where
 wf:S.Wf
 ord:D.ord=S.order
 find:∀x,D.find x=S.find x
 u:∀k,k<S.l.length->D.u k=(S.nd k).u
 len:S.l.length<=D.len
 par:∀k,k<S.l.length->D.par k=(S.nd k).par
 lf:∀k,k<S.l.length->D.lf k=S.lf k
 rt:∀k,k<S.l.length->D.rt k=S.rt k
 sz:∀k,k<S.l.length->D.sz k=S.sz k
 root:D.root=S.more
def zh6(n base:Nat)(L:xC)(D:zp)(S:zE)(x:zF)(w:zC)(e:Ending)(w':zC):Prop:=
 e=(zB (S.pos x))/\(∃a c,xg n base w' {L with om:=a,fr:=c} D)/\Mods (fun b=>b=n+5\/b=n+6) w w'
theorem zvd(n base:Nat)(L:xC)(D:zp)(S:zE)(x:zF)(w:zC)(h:xg n base w L D)(o:qQ D S)(k:S.find x=none):
 Calls zD 137 #[(n+6:),.agg #[x.c,x.k]] w (zh6 n base L D S x w):=by
 have s:xD L.am x=none:=by rw[h.all,o.find,k];rfl
 have z:=h.m.lt;have v:S.pos x= -1:=by unfold zE.pos zE.findP;rw[k];rfl
 go_enter zj5,zj6;go_wp2_with fail;generalize l:World.alloc _ _=j;obtain⟨c,f,b,-⟩:=aJ l;have g:=aC f 0;have m:=aC b 0;have i:=aC b 1;have p:=aL b;clear l f b;have d:=(h.below c).m;have q:=aU g;have u:=aU m;have t:=aU i;have r:∀a:zM j,a.val.cell? (n+6:)=some (.map (some (n+4))):=zM.cell d.lt (d.cell 0 _ rfl);have y:∀a:zM j,(Instr.lookup 205 (.map (some (n+4))) (.agg #[x.c,x.k]) false).run zD a.val= .ok (.pointer none) a.val:=fun a=>by have:=zh9 (zf2 d a) x;rwa[s] at this
 refine aQ ?_;intro W' hC' hBW';have e:=c.trans (hBW'.mono c.size);clear q u t r y hC' d c g m i p hBW';go_wp2_with fail;go_ret;exact⟨by rw[v];rfl,⟨L.om,L.fr,h.below e⟩,Mods.of_below e⟩
theorem zve(n base:Nat)(L:xC)(D:zp)(S:zE)(x:zF)(k:Nat)(w:zC)(h:xg n base w L D)(b:qQ D S)(o:S.find x=some k)(A:L.fr=true):
 Calls zD 137 #[(n+6:),.agg #[x.c,x.k]] w (zh6 n base L D S x w):=by
 have H:xD L.am x=some (zo (L.bl k)):=by rw[h.all,b.find,o];rfl
 have m:=(b.wf.find_some.1 o);have J:xD L.om x=(zB (S.place k)):=by have B:=h.at_ A (S.place k) k (by rw[b.ord];exact b.wf.order_place m.1);rw[b.u k m.1] at B;rwa[show(S.nd k).u.id=x from m.2] at B
 have N:=h.m.lt;have K:S.pos x=S.place k:=by unfold zE.pos zE.findP;rw[o];rfl
 have M:∀w,(binOp BinOp.eql 256 (L.bl k) (.pointer none)).run zD w= .ok (.bool false) w:=fun w=>oe;go_enter zj5,zj6;go_wp2_with fail;generalize z:World.alloc _ _=y;obtain⟨f,r,e,-⟩:=aJ z;have j:=aC r 0;have q:=aC e 0;have l:=aC e 1;have d:=aL e;clear z r e;have g:=(h.below f).m;have s:=aU j;have u:=aU q;have t:=aU l;have G:∀a:zM y,a.val.cell? (n+6:)=some (.map (some (n+4))):=zM.cell g.lt (g.cell 0 _ rfl);have C:∀a:zM y,(Instr.lookup 205 (.map (some (n+4))) (.agg #[x.c,x.k]) false).run zD a.val= .ok (L.bl k) a.val:=fun a=>by have:=zh9 (zf2 g a) x;rwa[H] at this
 refine aQ ?_;intro W' hC' hBW';have i:=f.trans (hBW'.mono f.size);have R:=zg d hBW'.size;have E:=(hBW'.cell (p:=w) oq).trans j;have F:=(hBW'.cell (p:=(w.heap.size+1:)) d).trans q;have I:=(hBW'.cell (p:=(w.heap.size+1,1)) d).trans l;clear s u t G C hC' g f j q l d hBW';have c:=(h.below i).m;have O:W'.cell? (n+6,4)=some (.bool true):=by have:=c.cell 4 (.bool L.fr) rfl;rwa[A] at this
 have s:=aU E;have u:=aU F;have t:=aU I;have T:∀a:zM W',a.val.cell? (n+6,3)=some (.map (some (n+5))):=zM.cell c.lt (c.cell 3 _ rfl);have C:∀a:zM W',(Instr.lookup 206 (.map (some (n+5))) (.agg #[x.c,x.k]) false).run zD a.val= .ok (zB (S.place k)) a.val:=fun a=>by have:=zop (zf2 c a) x;rwa[J] at this
 clear c;go_upto_region 9 with fail;refine aQ ?_;intro W' hC' hBW';have v:=i.trans (hBW'.mono i.size);go_wp2;go_ret;exact⟨by rw[K];rfl,⟨L.om,L.fr,h.below v⟩,Mods.of_below v⟩
theorem zob(c:List zV)(h:List (zF×Value))(i:∀a d:Nat,a<c.length->d<c.length->(c.getD a qu).id=(c.getD d qu).id->a=d):∀b,b<=c.length->∀a,a<b->xD (vy (xw c b) h) (c.getD a qu).id=(zB a):=by
 intro b;induction b with
 |zero=>intro _ a j;omega
 |succ b f=>
  intro k a j;rw[zkz,zoe,zem];dsimp only;by_cases e:a=b
  ·subst e;rw[zP rfl]
  ·rw[zN fun g=>e (i a b oa oa g)];exact f oa a oa
theorem zoc{w:zC}{b:Nat}{x:zV}{p l r:zJ}{s:Int}(e:xa w b x p l r s):∀(i:Nat) (d:zJ),(zac x)[i]?=some d->w.cell? (b,i)=some d:=fun i d c=>by
 refine e.cell i d ?_;match i,c with
 |0,c=>exact c
 |1,c=>exact c
 |2,c=>exact c
 |3,c=>exact c
 |4,c=>exact c
 |5,c=>exact c
 |(i+6),c=>simp[zac] at c
def zE.units(S:zE):List zV:=S.order.map fun k=>(S.nd k).u
theorem xg.allA{n base:Nat}{W:zC}{L:xC}{D:zp}{S:zE}(e:xg n base W L D)(a:qQ D S):ql n L.ov (S.order.map L.bl) S.units W where
 c:=e.m.cell 1 _ rfl
 row:=by have:=zG.slice (k:=1) (enc:=z6) (fun _=>rfl) e.order;rwa[a.ord] at this
 len:=by simp[zE.units]
 nodes k b u h1 h2 i y hy:=by
  unfold zE.units at h2;rw[qw] at h1 h2;cases hk:S.order[k]? with
  |none=>rw[hk] at h1;cases h1
  |some d=>
   rw[hk] at h1 h2;simp only[zao,jC] at h1 h2;subst h1 h2;have f:d<S.l.length:=(a.wf.mem d).1 (xn hk);have:=e.node d (zg f a.len);rw[a.u d f] at this;exact zoc this i y hy
theorem zE.units_get{S:zE}{i k:Nat}(h:S.order[i]?=some k):S.units.getD i qu=(S.nd k).u:=by simp[zE.units,List.getD,h]
theorem zvf(n base:Nat)(L:xC)(D:zp)(S:zE)(x:zF)(k:Nat)(w:zC)(b:xg n base w L D)(g:qQ D S)(q:S.find x=some k)(K:L.fr=false):
 Calls zD 137 #[(n+6:),.agg #[x.c,x.k]] w (zh6 n base L D S x w):=by
 have I:xD L.am x=some (zo (L.bl k)):=by rw[b.all,g.find,q];rfl
 have p:=(g.wf.find_some.1 q);have J:S.pos x=S.place k:=by unfold zE.pos zE.findP;rw[q];rfl
 have B:=b.m;rw[K] at B;have s:S.units.length=S.order.length:=by simp[zE.units]
 have M:∀h e:Nat,h<S.units.length->e<S.units.length->(S.units.getD h qu).id=(S.units.getD e qu).id->h=e:=by intro h e j d f;rw[s] at j d;have A:=xG j;have v:=xG d;rw[zE.units_get A,zE.units_get v] at f;have l:=g.wf.inj _ _ ((g.wf.mem _).1 (zbk j)) ((g.wf.mem _).1 (zbk d)) f;exact(zjv g.wf.nodup).1 l
 have C:=zob S.units L.om M S.units.length (zU _);refine(zof n (L.bl k) x L.am L.om L.ov L.rv (S.order.map L.bl) S.units w B (b.allA g) I).mono ?_;rintro f F ⟨rfl,H,o⟩;have N:=g.wf.order_place p.1;have O:=g.wf.place_lt p.1;have G:xD (vy (xw S.units S.units.length) L.om) x=(zB (S.place k)):=by have:=C (S.place k) oa;rw[zE.units_get N] at this;rwa[show(S.nd k).u.id=x from p.2] at this
 refine⟨by rw[G,J];rfl,⟨vy (xw S.units S.units.length) L.om,true,?_⟩,o⟩;have i:∀c,c≠n+5->c≠n+6->c<w.heap.size->F.heap[c]?=w.heap[c]?:=fun c A v l=>o.block c l oa;obtain⟨r,z,u,t,y⟩:=b.ne6;exact {
  lo:=b.lo
  hi:=zk b.hi o.size
  m:=H
  all:=b.all
  at_:=fun _ h e d=>by rw[g.ord] at d;have E:e<S.l.length:=(g.wf.mem e).1 (xn d);have:=C h (by rw[s];exact(zw.1 d).1);rw[zE.units_get d] at this;rw[g.u e E];exact this
  blo:=b.blo
  inj:=b.inj
  node:=fun e d=>(b.node e d).keep (i _ (by have:=u e d;omega) (by have:=u e d;omega) (b.node e d).lt)
  order:=xI b.order fun c f=>i c (by have:=r c f;omega) (by have:=r c f;omega) (xJ b.order c f)
  rootr:=xI b.rootr fun c f=>i c (by have:=z c f;omega) (by have:=z c f;omega) (xJ b.rootr c f)
  lefts:=fun e d=>xI (b.lefts e d) fun c f=>i c (by have:=t e c d f;omega) (by have:=t e c d f;omega) (xJ (b.lefts e d) c f)
  rights:=fun e d=>xI (b.rights e d) fun c f=>i c (by have:=y e c d f;omega) (by have:=y e c d f;omega) (xJ (b.rights e d) c f)
  ro:=b.ro
  rr:=b.rr
  rl:=b.rl
  rm:=b.rm
  inord:=b.inord
  inroot:=b.inroot
  inlf:=b.inlf
  inrt:=b.inrt
  inpar:=b.inpar
  infind:=b.infind}
theorem zvg(n base:Nat)(L:xC)(D:zp)(S:zE)(x:zF)(w:zC)(b:xg n base w L D)(a:qQ D S):
 Calls zD 137 #[(n+6:),.agg #[x.c,x.k]] w (zh6 n base L D S x w):=by
 cases hx:S.find x with
 |none=>exact zvd n base L D S x w b a hx
 |some c=>
  cases hf:L.fr
  ·exact zvf n base L D S x c w b a hx hf
  ·exact zve n base L D S x c w b a hx hf
end
theorem zlA:∃j,Tryz.prog.info? 258=some j/\j.size≠0:=by
 have h:(Tryz.prog.info? 258).map (·.size)=some 10:=oe;cases hq:Tryz.prog.info? 258 with
 |none=>rw[hq] at h;cases h
 |some j=>
  rw[hq] at h;exact⟨j,rfl,by have:j.size=10:=oaQ;omega⟩
theorem zv3(a:Nat)(w:zC):(binOp BinOp.eql 256 a a).run zD w= .ok (.bool true) w:=by obtain⟨c,b,_⟩:=zlA;exact run_eql_ptr_same w _ zeZ b
theorem zv4{a b:Nat}(w:zC){u j:zV}{p l r i l' m:zJ}{s k:Int}(c:xa w a u p l r s)(d:xa w b j i l' m k)(e:a≠b):(binOp BinOp.eql 256 a b).run zD w= .ok (.bool false) w:=by obtain⟨n,f,g⟩:=zlA;exact run_eql_ptr_other w zeZ f g (fun h=>e (by cases h;rfl)) c d
theorem zlB(a:Nat)(w:zC):(binOp BinOp.eql 256 a (.pointer none)).run zD w= .ok (.bool false) w:=oe
theorem zoy(w:zC):(binOp BinOp.eql 256 (.pointer none) (.pointer none)).run zD w= .ok (.bool true) w:=oe
def zcX(L:xC)(N:Nat)(v:zJ):Nat:=match v with
 | .pointer (some a)=>((List.range N).find? fun j=>decide (L.bl j=a.block)).getD 0
 |_=>0
theorem zeq{n base:Nat}{W:zC}{L:xC}{D:zp}(d:xg n base W L D){N:Nat}(h:N<=D.len){i:Nat}(g:i<N):zcX L N (L.bl i)=i:=by
 have:(List.range N).find? (fun e=>decide (L.bl e=L.bl i))=some i:=by
  rw[List.find?_eq_some_iff_append];refine⟨oh,List.range i,(List.range' (i+1) (N - (i+1))),?_,?_⟩
  ·rw[List.range_eq_range',List.range_eq_range',<-List.range'_succ,show N - (i+1)+1=N - i by omega];have:=List.range'_append (s:=0) (m:=i) (n:=N - i) (step:=1);simp at this;rw[this];congr 1;omega
  ·intro b c;have:b<i:=zbj.1 c;simp only[zaN,Bool.not_eq_true'];intro f;have:=d.inj b i oa oa f;omega
 simp[zcX,this]
theorem zv5(n base:Nat)(L:xC)(D:zp)(S:zE)(k t:Nat)(w:zC)(f:xg n base w L D)(b:qQ D S)(C:k<S.l.length)(p:t<S.l.length):
 Calls zD 291 #[(n+6:),(L.bl k),(L.bl t)] w fun g r=>g= .returned (.bool (decide (t∈S.anc k)))/\r=w:=by
 have z:=f.node t (zg p b.len);go_enter Tryz.func291,Tryz.ntmps291;go_wp2;go_step3;go_wp2;go_step3;go_wp2;go_loopw [1] (fun m wx=>∃c,c<S.l.length/\m=(L.bl c)/\(t∈S.anc k↔t∈S.anc c)/\w=wx/\∃x,x=c) (fun m _=>zcX L S.l.length m);case atStart=>exact⟨k,C,rfl,Iff.rfl,rfl,k,rfl⟩
 case round=>
  obtain⟨c,e,rfl,j,rfl,_⟩:=hrel;have i:=f.node c (zg e b.len);have h:=b.par c e;cases hp:(S.nd c).par with
  |none=>
   rw[hp] at h;rw[h] at i;have s:w.cell? (L.bl c,6)=some (.pointer none):=i.cell 6 _ rfl;have v:=zoy w;have y:t ∉ S.anc k:=(by rw[j,b.wf.anc_eq e,hp];simp);have o:decide (t∈S.anc k)=false:=(by simpa using y);go_wp2;rw[Exit.noGoto_ret];go_ret;exact⟨by rw[o];rfl,rfl⟩
  |some d=>
   rw[hp] at h;rw[h] at i;have q:=b.wf.parlt c d e hp;have s:w.cell? (L.bl c,6)=(L.bl d):=i.cell 6 _ rfl;have v:=zlB (L.bl d) w;by_cases l:d=t
   ·subst l;have A:=zv3 (L.bl d) w;have E:d∈S.anc k:=(by rw[j,b.wf.anc_eq e,hp];simp);have o:decide (d∈S.anc k)=true:=(by simpa using E);go_wp2;rw[Exit.noGoto_ret];go_ret;exact⟨by rw[o];rfl,rfl⟩
   ·have B:=f.node d (zg oa b.len);have A:=zv4 w B z (fun g=>l (f.inj d t (zg oa b.len) (zg p b.len) g));go_wp2;go_roundw;case rel=>
     refine⟨d,oa,rfl,?_,oh⟩
     rw[j,b.wf.anc_eq e,hp]
     have u:¬t=d:=fun g=>l g.symm
     simp[u]
    case measure=>rw[zeq f b.len e,zeq f b.len oa];exact q
def zs(n base:Nat)(w:zC)(L:xC)(D:zp):Prop:=∃a b,xg n base w {L with om:=a,fr:=b} D
theorem xg.h{n base:Nat}{w:zC}{L:xC}{D:zp}(h:xg n base w L D):zs n base w L D:=⟨L.om,L.fr,h⟩
theorem zs.below{n base:Nat}{w w':zC}{L:xC}{D:zp}(a:zs n base w L D)(b:Below w w w'):zs n base w' L D:=by obtain⟨c,d,a⟩:=a;exact⟨c,d,a.below b⟩
theorem zs.node{n base:Nat}{w:zC}{L:xC}{D:zp}(a:zs n base w L D){k:Nat}(b:k<D.len):xa w (L.bl k) (D.u k) (xs L (D.par k)) (L.lv k) (L.mv k) (D.sz k):=by obtain⟨c,d,a⟩:=a;have:=a.node k b;exact this
theorem zs.lt{n base:Nat}{w:zC}{L:xC}{D:zp}(b:zs n base w L D):n+6<w.heap.size:=by obtain⟨c,d,b⟩:=b;exact b.m.lt
def qC(n b:Nat):Prop:=b=n+5\/b=n+6
theorem zer(n base:Nat)(L:xC)(D:zp)(S:zE)(x:zF)(w:zC)(b:zs n base w L D)(f:qQ D S):
 Calls zD 137 #[(n+6:),.agg #[x.c,x.k]] w fun d c=>d=(zB (S.pos x))/\zs n base c L D/\Mods (qC n) w c:=by
 obtain⟨k,l,b⟩:=b;refine(zvg n base _ D S x w b f).mono ?_;rintro d c ⟨i,⟨g,h,e⟩,j⟩;exact⟨i,⟨g,h,e⟩,j⟩
theorem zoz(n base:Nat)(L:xC)(D:zp)(S:zE)(k:Nat)(w:zC)(b:zs n base w L D)(q:qQ D S)(z:k<D.len):
 Calls zD 323 #[(n+6:),(L.bl k)] w fun l f=>l=(zB (S.far (D.u k).right))/\zs n base f L D/\Mods (qC n) w f:=by
 have g:=b.node z;have r:=g.lt;have p:w.cell? (L.bl k,4)=(D.u k).right.c:=g.cell 4 _ rfl;have m:w.cell? (L.bl k,5)=(D.u k).right.k:=g.cell 5 _ rfl;have c:=zf1 (D.u k).right w;have C:=b.lt;obtain⟨G,H,u⟩:∃d o,w.cell? (n+6,1)=some (.slice d S.order.length o):=by obtain⟨K,F,b⟩:=b;have:=ys b.order;rw[xk,q.ord] at this;obtain⟨d,o,t⟩:=this;exact⟨d,o,by rw[<-t];exact b.m.cell 1 _ rfl⟩
 have h:=fun f (s:Below w w f)=>zer n base L D S (D.u k).right f (b.below s) q;by_cases e:(D.u k).right=zT
 ·have j:decide ((D.u k).right=zT)=true:=by simpa using e
  have i:S.far (D.u k).right=S.order.length:=by unfold zE.far;rw[if_pos e]
  rw[j] at c;rw[i];have I:=zA h;clear h i j e g;generalize(D.u k).right=x at p m c;go_enter Tryz.func323,Tryz.ntmps323;go_wp2_with (first|(go_at_call 290;refine c.mono ?_;rintro l B ⟨rfl,a⟩;have J:=(a.cell (p:=(n+6,1)) C).trans u));go_ret;exact⟨rfl,b.below a,Mods.of_below a⟩
 ·have j:decide ((D.u k).right=zT)=false:=by simpa using e
  have i:S.far (D.u k).right=S.pos (D.u k).right:=by unfold zE.far;rw[if_neg e]
  rw[j] at c;rw[i];clear i j e g;generalize(D.u k).right=x at p m c h;have y:=zA h;clear h;go_enter Tryz.func323,Tryz.ntmps323;go_wp2_with (first|(go_at_call 290;refine c.mono ?_;rintro l B ⟨rfl,a⟩;have N:=(a.cell (p:=(L.bl k,4)) r).trans p;have M:=(a.cell (p:=(L.bl k,5)) r).trans m)|(go_at_call 137;refine(y.o _ a).mono ?_;rintro l E ⟨rfl,v,A⟩));go_ret;exact⟨rfl,v,(Mods.of_below a).trans A⟩
theorem zo0(n base:Nat)(L:xC)(D:zp)(S:zE)(k j:Nat)(w:zC)(h:zs n base w L D)(r:qQ D S)(x:k<D.len)(s:j<D.len):
 Calls zD 313 #[(n+6:),(L.bl k),(L.bl j)] w fun e b=>e= .returned (.bool (S.ahead (D.u k) (D.u j)))/\zs n base b L D/\Mods (qC n) w b:=by
 have c:=zoz n base L D S k w h r x;have o:=zA fun b (y:zs n base b L D)=>zoz n base L D S j b y r s;have z:=fun w=>zgn (D.u k).id (D.u j).id w;have t:S.ahead (D.u k) (D.u j)=if S.far (D.u k).right=S.far (D.u j).right then(D.u k).id.lessB (D.u j).id else decide (S.far (D.u j).right<S.far (D.u k).right):=rfl
 rw[t];clear t;generalize S.far (D.u k).right=u at c ⊢;generalize S.far (D.u j).right=v at o ⊢;clear h;by_cases m:u=v
 ·subst m;rw[zP rfl];go_enter Tryz.func313,Tryz.ntmps313;go_upto_region 4 with(first|(go_at_call 323;refine c.mono ?_;rintro e A ⟨rfl,l,q⟩;clear c)|(go_at_call 323;refine(o.o _ l).mono ?_;rintro e d ⟨rfl,f,p⟩));have g:=f.node x;have i:=f.node s;have C:∀a:zM d,a.val.cell? (L.bl k)=(D.u k).id.c:=zM.cell g.lt (g.cell 0 _ rfl);have B:∀a:zM d,a.val.cell? (L.bl k,1)=(D.u k).id.k:=zM.cell g.lt (g.cell 1 _ rfl);have E:∀a:zM d,a.val.cell? (L.bl j)=(D.u j).id.c:=zM.cell i.lt (i.cell 0 _ rfl);have F:∀a:zM d,a.val.cell? (L.bl j,1)=(D.u j).id.k:=zM.cell i.lt (i.cell 1 _ rfl);refine aG ?_;repeat(first|go_big_quiet_skip|(go_big_quiet_want;go_big_quiet_op;first|go_big_quiet_on|go_big_quiet_call ((go_at_call 192;exact xl (z _)))))
  refine aE ?_;intro W' hC' hBW';go_wp2;go_ret;exact⟨rfl,f.below hBW',(q.trans p).trans (Mods.of_below hBW')⟩
 ·rw[zN m];have G:decide (u=v)=false:=by simpa using m
  go_enter Tryz.func313,Tryz.ntmps313;go_wp2_with (first|(go_at_call 323;refine c.mono ?_;rintro e A ⟨rfl,l,q⟩;clear c)|(go_at_call 323;refine(o.o _ l).mono ?_;rintro e d ⟨rfl,f,p⟩));go_ret;exact⟨rfl,f,q.trans p⟩
def zbw(n base:Nat)(L:xC)(D c:zp)(w w':World):Prop:=
 ∃a,a.bl=L.bl/\a.am=L.am/\a.ov=L.ov/\zs n base w' a c/\(∀b,zy n a c b->zy n L D b\/w.heap.size<=b)/\Mods (zy n L D) w w'
theorem zvn{s:zE}(d:s.Wf){u:zV}{r:Nat}(i:r<s.l.length)(q:s.find u.id=none):
 (∀a∈(xh s u (s.lf r)).1,u.id.lessB (s.uid a)=false)/\(∀a∈(xh s u (s.lf r)).2,u.id.lessB (s.uid a)=true):=by
 have n:∀{f e:zF},f.lessB e=true->e.lessB f=false:=fun {f e} d=>by
  cases hb:e.lessB f
  ·rfl
  ·simp only[zF.lessB,qx,xr,xW] at d hb;omega
 have h:=d.sorted r i;have k:∀a∈s.lf r,s.uid a≠u.id:=fun a b m=>zE.find_none.1 q a (d.kid_lt i (.inl b)).2 m;refine⟨fun a b=> ?_,fun a b=> ?_⟩
 ·have:=zhR (p:=fun a=>(s.uid a).lessB u.id) (l:=s.lf r);rw[zaq] at this;exact n (this a b)
 ·have g:s.lf r=(xh s u (s.lf r)).1++(xh s u (s.lf r)).2:=by simp[xh]
  cases hd:(xh s u (s.lf r)).2 with
  |nil=>rw[hd] at b;cases b
  |cons c t=>
   have v:(s.uid c).lessB u.id=false:=(by have:=zhS (p:=fun a=>(s.uid a).lessB u.id) (l:=s.lf r);rw[show(s.lf r).dropWhile (fun a=>(s.uid a).lessB u.id)=c::t from hd] at this;simpa using this);have o:c∈s.lf r:=(by rw[g,hd];simp);have j:=zon v (k c o);rw[hd] at b g;rcases xK.1 b with rfl|b
   ·exact j
   ·rw[g,zbJ,yr] at h;exact zk6 j (h.2.1.1 a b)
def zp.setPar(D:zp)(m:Nat)(p:Option Nat):zp:={D with par:=zm D.par m p}
def zp.setLf(D:zp)(r:Nat)(l:List Nat):zp:={D with lf:=zm D.lf r l}
def zp.setRt(D:zp)(r:Nat)(l:List Nat):zp:={D with rt:=zm D.rt r l}
def zp.setSz(D:zp)(k s:Nat):zp:={D with sz:=zm D.sz k s}
def zp.setRoot(D:zp)(l:List Nat):zp:={D with root:=l}
theorem qQ.setPar{D:zp}{S:zE}(a:qQ D S){m:Nat}(b:S.l.length<=m)(p:Option Nat):qQ (D.setPar m p) S where
 wf:=a.wf
 ord:=a.ord
 find:=a.find
 u:=a.u
 len:=a.len
 par k hk:=by show zm D.par m p k=_;rw[z8 _ _ (by omega)];exact a.par k hk
 lf:=a.lf
 rt:=a.rt
 sz:=a.sz
 root:=a.root
theorem zs.setPar{n base:Nat}{W:zC}{L:xC}{D:zp}(a:zs n base W L D){k:Nat}(f:k<D.len)(p:Option Nat)(j:∀e,p=some e->e<D.len):zs n base (W.setCell (L.bl k,6) (xs L p)) L (D.setPar k p):=by
 obtain⟨h,g,a⟩:=a;have c:=a.setNode (W':=W.setCell (L.bl k,6) (xs L p)) f p (D.sz k) j oh (fun i c _=>zZ _ _ _ _ (by show ¬i=L.bl k;exact c)) ((a.node k f).setP _);refine⟨h,g,c.congr rfl (fun b l=>⟨rfl,rfl,rfl,rfl,?_⟩) rfl rfl fun _=>rfl⟩;show D.sz b=zm D.sz k (D.sz k) b;by_cases d:b=k
 ·subst d;rw[xR]
 ·rw[z8 _ _ d]
theorem zs.setSz{n base:Nat}{W:zC}{L:xC}{D:zp}(a:zs n base W L D){k:Nat}(c:k<D.len)(s:Nat):zs n base (W.setCell (L.bl k,9) (zB s)) L (D.setSz k s):=by
 obtain⟨f,i,a⟩:=a;have d:=a.setNode (W':=W.setCell (L.bl k,9) (zB s)) c (D.par k) s (fun h b=>a.inpar k h c b) oh (fun g d _=>zZ _ _ _ _ (by show ¬g=L.bl k;exact d)) ((a.node k c).setS _);refine⟨f,i,d.congr rfl (fun e j=>⟨rfl,?_,rfl,rfl,rfl⟩) rfl rfl fun _=>rfl⟩;show D.par e=zm D.par k (D.par k) e;by_cases b:e=k
 ·subst b;rw[xR]
 ·rw[z8 _ _ b]
theorem zE.Wf.kids_walk{s:zE}(h:s.Wf){r:Nat}(g:r<s.l.length):∃a b d c,za s.lf s.rt (s.lf r) a/\za s.lf s.rt (s.rt r) b/\s.order=d++(a++r::b)++c:=by obtain⟨d,k,c,i,e,_⟩:=h.has_walk g;obtain⟨a,b,j,f,rfl⟩:=i.one_inv;exact⟨a,b,d,c,j,f,e⟩
theorem zE.Wf.left_sum{s:zE}(a:s.Wf){r:Nat}(e:r<s.l.length)(k:Nat):(((s.lf r).drop k).map s.sz).sum<=s.place r:=by obtain⟨q,i,g,d,f,o,h⟩:=a.kids_walk e;have n:∀b∈s.lf r,b<s.l.length:=fun b c=>(a.kid_lt e (.inl c)).2;rw[<-zcF k (s.lf r)] at f;obtain⟨m,j,p,l,rfl⟩:=f.split;rw[a.sz_sum l fun b c=>n b (zdb c),a.place_mid (A:=g++(m++j)) (B:=i++d) (by rw[h];simp)];simp;omega
theorem zvo{f:Nat->Nat}{l:List Nat}{k x:Nat}(b:l[k]?=some x):((l.drop k).map f).sum=f x+((l.drop (k+1)).map f).sum:=by obtain⟨a,rfl⟩:=zw.1 b;rw[zjm a,xd,zhk]
theorem zE.Wf.pos_uid{s:zE}(a:s.Wf){k:Nat}(b:k<s.l.length):s.pos (s.uid k)=s.place k:=by unfold zE.pos zE.findP;rw[a.find_some.2 ⟨b,rfl⟩];rfl
theorem zaP{base:Nat}{w:World}{v:Value}{l:List Nat}(h:zG base 256 1 z6 w v l):∃i e,v= .slice i l.length e/\e<=maxLen/\l.length<=e/\∀b a,l[b]?=some a->∃c,i=some ⟨c,0,none⟩/\w.cell? ⟨c,b,none⟩=some (zo a):=by
 rcases h.2 with⟨rfl,g⟩|⟨c,o,y,rfl,_,r,n,p,x,q⟩
 ·refine⟨none,0,by rw[g],oP,oa,fun b a d=> ?_⟩;rw[zcq.1 g] at d;cases d
 ·refine⟨_,o,rfl,p,n,fun b a d=>⟨c,rfl,?_⟩⟩;have j:=zG.slice (k:=1) (enc:=z6) (fun _=>rfl) h;rcases j with⟨f,_⟩|⟨t,u,s,f,_,_,m⟩
  ·cases f
  ·cases f;have:=m b a d 0 (zo a) rfl;simpa using this
theorem zs.leftRow{n base:Nat}{w:World}{L:xC}{D:zp}(a:zs n base w L D){k:Nat}(b:k<D.len):zG base 256 1 z6 w (L.lv k) ((D.lf k).map L.bl):=by obtain⟨c,d,a⟩:=a;exact a.lefts k b
theorem zs.rightRow{n base:Nat}{w:World}{L:xC}{D:zp}(b:zs n base w L D){k:Nat}(c:k<D.len):zG base 256 1 z6 w (L.mv k) ((D.rt k).map L.bl):=by obtain⟨d,e,b⟩:=b;exact b.rights k c
theorem zs.setLf{n base:Nat}{W W':zC}{L:xC}{D:zp}(h:zs n base W L D){p:Nat}(e:p<D.len){l:List Nat}{v:zJ}(f:zbQ base (L.lv p) (l.map L.bl) W v W')(o:∀j,j∈l->j<D.len):
 zbw n base L D (D.setLf p l) W (W'.setCell (L.bl p,7) v):=by
 obtain⟨q,m,h⟩:=h;refine⟨{L with lv:=zm L.lv p v,role:=fun d=>if v.ownBlock=some d then 2*p+2 else L.role d},rfl,rfl,rfl,⟨q,m,h.setLf e f o⟩,?_,?_⟩
 ·rintro d (b|b|b|b|b|⟨c,i,b|b|b⟩)
  ·exact .inl (.inl b)
  ·exact .inl (.inr (.inl b))
  ·exact .inl (.inr (.inr (.inl b)))
  ·exact .inl (.inr (.inr (.inr (.inl b))))
  ·exact .inl (.inr (.inr (.inr (.inr (.inl b)))))
  ·exact .inl (.inr (.inr (.inr (.inr (.inr ⟨c,i,.inl b⟩)))))
  ·replace b:(zm L.lv p v c).ownBlock=some d:=b;by_cases k:c=p
   ·subst k;rw[xR] at b;rcases f.2.2 with g|g
    ·exact .inl (.inr (.inr (.inr (.inr (.inr ⟨c,e,.inr (.inl (g.symm.trans b))⟩)))))
    ·rw[g] at b;cases b;exact .inr (zU _)
   ·rw[z8 _ _ k] at b;exact .inl (.inr (.inr (.inr (.inr (.inr ⟨c,i,.inr (.inl b)⟩)))))
  ·exact .inl (.inr (.inr (.inr (.inr (.inr ⟨c,i,.inr (.inr b)⟩)))))
 ·exact((Mods.refl _ _).grown f.2.1 fun d b=> .inl (.inr (.inr (.inr (.inr (.inr ⟨p,e,.inr (.inl b)⟩)))))).setC (.inl (.inr (.inr (.inr (.inr (.inr ⟨p,e,.inl rfl⟩)))))) _
theorem zs.setRt{n base:Nat}{W W':zC}{L:xC}{D:zp}(g:zs n base W L D){p:Nat}(d:p<D.len){l:List Nat}{v:zJ}(e:zbQ base (L.mv p) (l.map L.bl) W v W')(m:∀i,i∈l->i<D.len):
 zbw n base L D (D.setRt p l) W (W'.setCell (L.bl p,8) v):=by
 obtain⟨o,k,g⟩:=g;refine⟨{L with mv:=zm L.mv p v,role:=fun c=>if v.ownBlock=some c then 2*p+3 else L.role c},rfl,rfl,rfl,⟨o,k,g.setRt d e m⟩,?_,?_⟩
 ·rintro c (a|a|a|a|a|⟨b,h,a|a|a⟩)
  ·exact .inl (.inl a)
  ·exact .inl (.inr (.inl a))
  ·exact .inl (.inr (.inr (.inl a)))
  ·exact .inl (.inr (.inr (.inr (.inl a))))
  ·exact .inl (.inr (.inr (.inr (.inr (.inl a)))))
  ·exact .inl (.inr (.inr (.inr (.inr (.inr ⟨b,h,.inl a⟩)))))
  ·exact .inl (.inr (.inr (.inr (.inr (.inr ⟨b,h,.inr (.inl a)⟩)))))
  ·replace a:(zm L.mv p v b).ownBlock=some c:=a;by_cases j:b=p
   ·subst j;rw[xR] at a;rcases e.2.2 with f|f
    ·exact .inl (.inr (.inr (.inr (.inr (.inr ⟨b,d,.inr (.inr (f.symm.trans a))⟩)))))
    ·rw[f] at a;cases a;exact .inr (zU _)
   ·rw[z8 _ _ j] at a;exact .inl (.inr (.inr (.inr (.inr (.inr ⟨b,h,.inr (.inr a)⟩)))))
 ·exact((Mods.refl _ _).grown e.2.1 fun c a=> .inl (.inr (.inr (.inr (.inr (.inr ⟨p,d,.inr (.inr a)⟩)))))).setC (.inl (.inr (.inr (.inr (.inr (.inr ⟨p,d,.inl rfl⟩)))))) _
theorem zs.setRoot{n base:Nat}{W W':zC}{L:xC}{D:zp}(e:zs n base W L D){l:List Nat}{v:zJ}(c:zbQ base L.rv (l.map L.bl) W v W')(i:∀f,f∈l->f<D.len):
 zbw n base L D (D.setRoot l) W (W'.setCell (n+6,2) v):=by
 obtain⟨j,g,e⟩:=e;refine⟨{L with rv:=v,role:=fun b=>if v.ownBlock=some b then 1 else L.role b},rfl,rfl,rfl,⟨j,g,e.setRoot c i⟩,?_,?_⟩
 ·rintro b (a|a|a|a|a|⟨h,k,a⟩)
  ·exact .inl (.inl a)
  ·exact .inl (.inr (.inl a))
  ·exact .inl (.inr (.inr (.inl a)))
  ·exact .inl (.inr (.inr (.inr (.inl a))))
  ·rcases c.2.2 with d|d
   ·exact .inl (.inr (.inr (.inr (.inr (.inl (d.symm.trans a))))))
   ·rw[show v.ownBlock=_ from d] at a;cases a;exact .inr (zU _)
  ·exact .inl (.inr (.inr (.inr (.inr (.inr ⟨h,k,a⟩)))))
 ·exact((Mods.refl _ _).grown c.2.1 fun b a=> .inl (.inr (.inr (.inr (.inr (.inl a)))))).setC (.inl (.inr (.inr (.inl rfl)))) _
theorem zbw.before{n base:Nat}{L:xC}{D c b:zp}{d w w':zC}(l:zbw n base L c b w w')(f:Mods (zy n L D) d w)(e:∀a,zy n L c a->zy n L D a):zbw n base L D b d w':=by obtain⟨h,p,j,i,k,m,o⟩:=l;have r:=f.size;exact⟨h,p,j,i,k,fun a g=>(m a g).imp (e a) (fun q=>oa),f.trans (o.mono e)⟩
theorem zbx{w:zC}{base e g n:Nat}{v:zJ}{c:List Value}(f:w.ownsRow base e g v n c):∃a d b,v= .slice a d b:=by obtain⟨a,b,e⟩:=ys f;exact⟨a,n,b,e⟩
theorem zdp(base:Nat)(a:zJ)(l:List Nat)(i b:Nat)(W:zC)(e:zG base 256 1 z6 W a l)(j:i<=l.length)(m:base<=W)(o:l.length<=100000):
 Calls zD 294 #[a,zB (i:Int),.slice (some W) 1 1] (W.alloc (.cells #[b] 256)) (qH (zbQ base a (l.take i++b::l.drop i) (W.alloc (.cells #[b] 256)))):=by
 have g:a.ownBlock≠some W.heap.size:=fun d=>by have:=xJ e _ d;omega
 have h:zG base 256 1 z6 (W.alloc (.cells #[b] 256)) a l:=xI e fun k d=>yV _ _ _ (xJ e k d);exact zok base a l [b] i 1 W 1 _ h j rfl oa #[b] 256 (vi W _) (fun f n c=>by
  cases f with
  |zero=>
   simp at c;subst c;rw[World.cell?,vi];rfl
  |succ f=>simp at c) g oi oa
theorem zvp(n base:Nat)(L:xC)(D:zp)(S:zE)(m r:Nat)(w:World)(h:zs n base w L D)(y:qQ D S)(b8:S.l.length=m)(ca:D.len=m+1)(cp:r<m)(b5:S.find (D.u m).id=none)(cF:m<=100000):
 Calls Tryz.prog 292 #[.pointer (some ⟨n+6,0,none⟩),.pointer (some ⟨L.bl m,0,none⟩),.pointer (some ⟨L.bl r,0,none⟩)] w fun x bU=>
  x= .returned (.int .i64 ((S.place r:Int) - (((xh S (D.u m) (S.lf r)).2.map S.sz).sum:Nat)))/\
  zbw n base L D ((D.setPar m (some r)).setLf r ((xh S (D.u m) (S.lf r)).1++m::(xh S (D.u m) (S.lf r)).2)) w bU:=by
 have J:r<S.l.length:=oa
 obtain⟨bK,bv⟩:=zvn y.wf J b5
 have ba:=y.wf.left_sum J
 have bA:=y.wf.place_lt J
 rw[y.wf.len_eq,b8] at bA
 have bB:=y.wf.pos_uid J
 have ay:S.lf r=(xh S (D.u m) (S.lf r)).1++(xh S (D.u m) (S.lf r)).2:=by simp[xh]
 have bj:∀a∈S.lf r,a<m:=fun a a3=>by have:=(y.wf.kid_lt J (.inl a3)).2;omega
 have bN:(S.lf r).length<=m:=by
  obtain⟨c,o,cz,cv,h1,cB,ct⟩:=y.wf.kids_walk J;have cw:((S.lf r).map S.sz).sum<=S.place r:=by have:=ba 0;simpa using this
  have ao:∀ab:List Nat,(∀a∈ab,a<S.l.length)->ab.length<=(ab.map S.sz).sum:=by
   intro ab;induction ab with
   |nil=>intro _;simp
   |cons a ab b7=>
    intro bw;have cy:=b7 fun b0 bW=>bw b0 (by simp[bW]);obtain⟨_,bX,_,bF,_,cu,_⟩:=y.wf.has_walk (bw a oh);have:0<bX.length:=zj9.2 (fun x=>by rw[x] at bF;have:=bF.mem (x:=a) (by simp);cases this);rw[xd,zhk,z7];omega
  have:=ao (S.lf r) fun a a3=>by have:=bj a a3;omega
  omega
 have V:m<D.len:=oa
 have cx:=(h.node V).lt
 have cn:=(h.node V).frz 6
 have b2:w.cell? (L.bl m,6)=some (xs L (D.par m)):=(h.node V).cell 6 _ rfl
 have M:=h.setPar V (some r) (fun q x=>by cases x;omega)
 have aq:Mods (zy n L D) w (w.setCell (L.bl m,6) (xs L (some r))):=(Mods.refl _ _).setC (.inl (.inr (.inr (.inr (.inr (.inr ⟨m,V,.inl rfl⟩)))))) _
 have bR:=y.setPar (m:=m) oa (some r)
 have bC:∀o,qC n o->zy n L D o:=fun o hb=>oan
 have bz:D.lf r=S.lf r:=y.lf r J
 have bE:∀k,k<m->D.sz k=S.sz k:=fun k bb=>y.sz k oa
 have bd:∀k,k<m->(D.u k).id=S.uid k:=fun k bb=>by rw[y.u k (by omega)];rfl
 have bH:=bd r cp
 have Z:=fun w h=>zer n base L (D.setPar m (some r)) S (S.uid r) w h bR
 rw[bB] at Z
 rw[<-bH] at Z
 have cm:=zA bC
 have bD:=zA bE
 have bS:=zA bd
 have bI:=zA bK
 have bP:=zA bv
 have a1:=zA ba
 have T:=zA bj
 clear bC bE bd bK bv ba bj bH bB
 have ci:xs L (some r)=(L.bl r):=rfl
 rw[ci] at M aq
 generalize co:S.place r=av at Z bA a1 ⊢
 clear co
 have bs:m<(D.setPar m (some r)).len:=V
 have e:r<(D.setPar m (some r)).len:=by show r<D.len;omega
 have bp:(D.setPar m (some r)).len=m+1:=ca
 have N:(D.setPar m (some r)).lf r=S.lf r:=bz
 have W:∀k,(D.setPar m (some r)).u k=D.u k:=fun _=>rfl
 have a2:=zA (show ∀o,zy n L (D.setPar m (some r)) o->zy n L D o from fun o hb=>hb)
 have bt:=zA (show ∀k,k<m->(D.setPar m (some r)).sz k=S.sz k from fun k bb=>bD.o k bb)
 obtain⟨ap,bu⟩:=aY (D.setPar m (some r))
 rw[bu] at M Z bs e bp N W a2 bt bR ⊢
 clear bD
 obtain⟨c,bg⟩:=aY ((xh S (D.u m) (S.lf r)).1)
 obtain⟨o,a9⟩:=aY ((xh S (D.u m) (S.lf r)).2)
 rw[bg,a9] at ay ⊢
 rw[bg] at bI
 rw[a9] at bP
 obtain⟨i,bG⟩:=aY (S.lf r)
 rw[bG] at ay bN N a1 T
 clear bG bz bg a9 bu
 obtain⟨len,bc⟩:=aY i.length
 have aa:=zA bc
 rw[bc] at bN
 have s:=zA ay
 obtain⟨B,bL⟩:∃B:Nat->Nat,∀k,B k=((i.drop k).map S.sz).sum:=⟨_,fun _=>rfl⟩
 have Y:=zA bL
 clear bc ay bL
 go_enter Tryz.func292,Tryz.ntmps292
 go_upto_region 2 with fail
 generalize w.setCell (L.bl m,6) (L.bl r)=bn at M aq ⊢
 clear b2 cn
 have af:bn.cell? (L.bl r)=(D.u r).id.c:=(M.node e).cell 0 _ (by rw[W];rfl)
 have bV:bn.cell? ⟨L.bl r,1,none⟩=some (.int .u64 (D.u r).id.k):=(M.node e).cell 1 _ (by rw[W];rfl)
 have bO:=Z bn M
 clear Z
 go_upto_region 3 with(go_at_call 137;refine bO.mono ?_;rintro x ck ⟨rfl,az,bM⟩)
 have bJ:=aq.trans (bM.mono cm.o)
 clear bO M aq bM af bV
 obtain⟨al,ag,j,cD,bY,_⟩:=zaP (az.leftRow e)
 rw[xk,N,aa.o] at j bY
 have am:ck.cell? (L.bl r,7)=some (.slice al len ag):=by rw[<-j];exact(az.node e).cell 7 _ rfl
 go_wp2_with fail
 go_loopw [7,8] (fun cr a0 wx=>∃k:Nat,c.length<=k/\k<=len/\cr=zB ((av:Int) - (B k:Nat))/\a0=zB k/\zs n base wx L ap/\Mods (zy n L D) w wx) (fun _ a0 _=>(intOf a0).toNat)
 case atStart=>
  refine⟨len,?_,zU _,?_,rfl,az,bJ⟩
  ·rw[<-aa.o,s.o];simp
  ·rw[Y.o,<-aa.o,List.drop_length];simp
 case round=>
  obtain⟨k,a6,cd,rfl,rfl,v,ac⟩:=hrel;clear az bJ am;have G:=v.node bs;rw[W] at G;have bl:∀u:zM wr,u.val.cell? (L.bl m)=(D.u m).id.c:=zM.cell G.lt (G.cell 0 _ rfl);have bi:∀u:zM wr,u.val.cell? (L.bl m,1)=(D.u m).id.k:=zM.cell G.lt (G.cell 1 _ rfl);have ar:=v.node e;have am:∀u:zM wr,u.val.cell? (L.bl r,7)=some (.slice al len ag):=zM.cell ar.lt (by rw[<-j];exact ar.cell 7 _ rfl);by_cases I:k=c.length
  ·cases k with
   |zero=>
    clear bl bi am;have a4:=zA I.symm;have be:=zA (show(o.map S.sz).sum=B 0 by rw[Y.o,s.o,I];simp);clear I a6 cd;go_upto_region 4 with fail;refine aQ ?_;intro W' hC' hBW';have g:=v.below hBW';have H:=ac.trans (Mods.of_below hBW');have A:=g.node e;have ax:W'.cell? (L.bl r,7)=some (.slice al len ag):=(by rw[<-j];exact A.cell 7 _ rfl);clear v ac hBW' G ar;have a7:Mods (zy n L D) w (W'.alloc (.cells #[(L.bl m)] 256)):=H.alloc _;have a5:=g.below ((zf _ _).alloc (zU _) (.cells #[(L.bl m)] 256));have C:=g.leftRow e;rw[N] at C;have bf:base<=W':=(by obtain⟨b4,cc,aZ⟩:=g;exact aZ.hi);have K:=zdp base (L.lv r) (i.map L.bl) c.length (L.bl m) W' C oaO bf (by rw[xk,aa.o];omega);have ad:(i.map L.bl).take c.length++L.bl m::(i.map L.bl).drop c.length=(c++m::o).map L.bl:=(by rw[s.o];simp);rw[ad,j] at K;have ai:L.bl r<W'.heap.size:=A.lt;have ae:(L.lv r).ownBlock≠some (L.bl r):=zc8 C A;rw[j] at ae;have bo:=A.frz 7;clear ad C g H A;rw[a4.o] at K;go_upto_region 8 with(go_at_call 294;refine K.mono ?_;rintro x w3 ⟨cb,rfl,E⟩;obtain⟨ce,bT,b1,rfl⟩:=zbx E.1;have an:=E.2.1.block (L.bl r) oi (fun x=>ae x.symm);have b9:=(xA (a:=(L.bl r,7)) an).trans ((xA (w:=W') (a:=(L.bl r,7)) (yV _ _ _ ai)).trans ax);have cf:=(jY (a:=(L.bl r,7)) an).trans ((jY (w:=W') (a:=(L.bl r,7)) (yV _ _ _ ai)).trans bo));rw[<-j] at E;have bq:=(a5.setLf e E (fun aj d=>by
     rw[bp];rcases xX.1 d with d|d
     ·have:=T.o aj (by rw[s.o];simp[d]);omega
     ·rcases xK.1 d with rfl|d
      ·omega
      ·have:=T.o aj (by rw[s.o];simp[d]);omega)).before a7 a2.o
    go_wp2;go_ret;refine⟨?_,bq⟩;rw[be.o];rfl
   |succ b=>
    have a4:=zA I.symm;have be:=zA (show(o.map S.sz).sum=B (b+1) by rw[Y.o,s.o,I];simp);have aP:b<c.length:=oa;have z:i[b]?=some c[b]:=(by rw[s.o,jm aP];simp[aP]);have X:c[b]<m:=T.o _ (xn z);have au:=bI.o c[b] (zbk aP);generalize c[b]=a at z X au;clear I a6 aP;have aH:a<ap.len:=oa;have t:=v.node aH;rw[W] at t;have R:=bS.o a X;have a8:∀u:zM wr,u.val.cell? ⟨L.bl a,0,none⟩=some (.int .u64 (S.uid a).c):=zM.cell t.lt (by rw[<-R];exact t.cell 0 _ rfl);have bm:∀u:zM wr,u.val.cell? ⟨L.bl a,1,none⟩=some (.int .u64 (S.uid a).k):=zM.cell t.lt (by rw[<-R];exact t.cell 1 _ rfl);obtain⟨l,br,F⟩:∃l,al=some ⟨l,0,none⟩/\wr.cell? ⟨l,b,none⟩=some (.pointer (some ⟨L.bl a,0,none⟩)):=(by have ah:=v.leftRow e;rw[N] at ah;obtain⟨b3,cs,ak,_,_,ao⟩:=zaP ah;rw[j] at ak;cases ak;exact ao b (L.bl a) (by rw[qw,z];rfl));subst br;have aw:l<wr.heap.size:=zfY F;have af:=aU F;have O:=fun w=>zgn (D.u m).id (S.uid a) w;rw[au] at O;have bQ:(b:Int)<(len:Int):=oa;have cl:(b:Int)+1 - 1=b:=oa;clear z R t;go_upto_region 4 with fail;refine aG ?_;repeat(first|go_big_quiet_skip|(go_big_quiet_want;go_big_quiet_op;first|go_big_quiet_on|go_big_quiet_call ((go_at_call 192;exact xl (O _)))))
    refine aE ?_;intro W' hC' hBW';clear bl bi am a8 bm af O bQ F aw;have g:=v.below hBW';have H:=ac.trans (Mods.of_below hBW');have A:=g.node e;have ax:W'.cell? (L.bl r,7)=some (.slice (some l) len ag):=(by rw[<-j];exact A.cell 7 _ rfl);clear v ac hBW' G ar;have a7:Mods (zy n L D) w (W'.alloc (.cells #[(L.bl m)] 256)):=H.alloc _;have a5:=g.below ((zf _ _).alloc (zU _) (.cells #[(L.bl m)] 256));have C:=g.leftRow e;rw[N] at C;have bf:base<=W':=(by obtain⟨b4,cc,aZ⟩:=g;exact aZ.hi);have K:=zdp base (L.lv r) (i.map L.bl) c.length (L.bl m) W' C oaO bf (by rw[xk,aa.o];omega);have ad:(i.map L.bl).take c.length++L.bl m::(i.map L.bl).drop c.length=(c++m::o).map L.bl:=(by rw[s.o];simp);rw[ad,j] at K;have ai:L.bl r<W'.heap.size:=A.lt;have ae:(L.lv r).ownBlock≠some (L.bl r):=zc8 C A;rw[j] at ae;have bo:=A.frz 7;clear ad C g H A;rw[a4.o,show((b+1:Nat):Int)=(b:Int)+1 by omega] at K;go_upto_region 8 with(go_at_call 294;refine K.mono ?_;rintro x w3 ⟨cb,rfl,E⟩;obtain⟨ce,bT,b1,rfl⟩:=zbx E.1;have an:=E.2.1.block (L.bl r) oi (fun x=>ae x.symm);have b9:=(xA (a:=(L.bl r,7)) an).trans ((xA (w:=W') (a:=(L.bl r,7)) (yV _ _ _ ai)).trans ax);have cf:=(jY (a:=(L.bl r,7)) an).trans ((jY (w:=W') (a:=(L.bl r,7)) (yV _ _ _ ai)).trans bo));rw[<-j] at E;have bq:=(a5.setLf e E (fun aj d=>by
     rw[bp];rcases xX.1 d with d|d
     ·have:=T.o aj (by rw[s.o];simp[d]);omega
     ·rcases xK.1 d with rfl|d
      ·omega
      ·have:=T.o aj (by rw[s.o];simp[d]);omega)).before a7 a2.o
    go_wp2;go_ret;refine⟨?_,bq⟩;rw[be.o];rfl
  ·cases k with
   |zero=>omega
   |succ b=>
    have bh:b<i.length:=(by rw[aa.o];omega);have z:i[b]?=some i[b]:=(by simp[bh]);have X:i[b]<m:=T.o _ (zbk bh);generalize i[b]=a at z X;have au:=bP.o a (by have h1:c.length<=b:=oa;rw[s.o,vL h1] at z;exact xn z);have bx:B b=S.sz a+B (b+1):=(by rw[Y.o,Y.o];exact zvo (f:=S.sz) z);have cj:B b<=av:=(by rw[Y.o];exact a1.o b);have cq:c.length<=b:=oa;have cg:b<=len:=oa;clear I bh a6;have aH:a<ap.len:=oa;have t:=v.node aH;rw[W] at t;have R:=bS.o a X;have a8:∀u:zM wr,u.val.cell? ⟨L.bl a,0,none⟩=some (.int .u64 (S.uid a).c):=zM.cell t.lt (by rw[<-R];exact t.cell 0 _ rfl);have bm:∀u:zM wr,u.val.cell? ⟨L.bl a,1,none⟩=some (.int .u64 (S.uid a).k):=zM.cell t.lt (by rw[<-R];exact t.cell 1 _ rfl);obtain⟨l,br,F⟩:∃l,al=some ⟨l,0,none⟩/\wr.cell? ⟨l,b,none⟩=some (.pointer (some ⟨L.bl a,0,none⟩)):=(by have ah:=v.leftRow e;rw[N] at ah;obtain⟨b3,cs,ak,_,_,ao⟩:=zaP ah;rw[j] at ak;cases ak;exact ao b (L.bl a) (by rw[qw,z];rfl));subst br;have aw:l<wr.heap.size:=zfY F;have af:=aU F;have O:=fun w=>zgn (D.u m).id (S.uid a) w;rw[au] at O;have bQ:(b:Int)<(len:Int):=oa;have cl:(b:Int)+1 - 1=b:=oa;clear z R t;have bZ:((ap.sz a:Nat):Int)=S.sz a:=(by rw[bt.o a X]);go_upto_region 4 with fail;refine aG ?_;repeat(first|go_big_quiet_skip|(go_big_quiet_want;go_big_quiet_op;first|go_big_quiet_on|go_big_quiet_call ((go_at_call 192;exact xl (O _)))))
    refine aE ?_;intro W' hC' hBW';have g:=v.below hBW';have H:=ac.trans (Mods.of_below hBW');have ch:=g.node aH;have ax:W'.cell? (L.bl r,7)=some (.slice (some l) len ag):=(by rw[<-j];exact(g.node e).cell 7 _ rfl);have cA:W'.cell? (l,b)=(L.bl a):=(hBW'.cell (p:=(l,b)) aw).trans F;have cC:W'.cell? (L.bl a,9)=(zB (S.sz a)):=(by rw[<-bZ];exact ch.cell 9 _ rfl);clear v ac bl bi am a8 bm af hC' F aw O;have cE:IntKind.i64.wrap ((av:Int) - (B (b+1):Nat) - (S.sz a:Nat))=(av:Int) - (B b:Nat):=oab;have b6:=zA bx;clear bx cj;go_wp2;go_roundw;case rel=>exact⟨b,cq,cg,by first|rfl|(rw[b6.o];congr 1;omega)|simp,by first|rfl|simp,g,H⟩
    case measure=>simp[intOf]
end Go.Proofs.YtimlgcodecgecaaGreatDoor
