/- The order of units as a tree: what one unit more changes: plain law. -/
import Derived.Test.YtimlgcodecgecaaGreatDoorZ01
set_option maxRecDepth 100000
set_option maxHeartbeats 20000000
set_option linter.all false
namespace Go.Proofs.YtimlgcodecgecaaGreatDoor
open Go.RowKit Go.Lib
theorem za.mem{c e:Nat->List Nat}{L o:List Nat}(d:za c e L o):∀{x:Nat},x∈L->x∈o:=by
 induction d with
 |nil=>intro x a;cases a
 | @cons g L n k l h f m i j b=>
   intro x a;rcases xK.1 a with rfl|a
   ·simp
   ·simp[b a]
theorem za.kids{b c:Nat->List Nat}{L o:List Nat}(e:za b c L o){p x:Nat}(h:p∈o)(a:x∈b p\/x∈c p):x∈o:=by
 obtain⟨m,i,k,g,rfl⟩:=e.sub h;obtain⟨l,j,f,d,rfl⟩:=g.one_inv;rcases a with a|a
 ·have:=f.mem a;simp[this]
 ·have:=d.mem a;simp[this]
def zc6(a c:Nat->List Nat):Nat->List Nat->List Nat
 |0,_=> []
 |d+1,e=>e.flatMap fun b=>zc6 a c d (a b)++b::zc6 a c d (c b)
theorem za.toF{k i:Nat->List Nat}{L o:List Nat}(q:za k i L o)(N:Nat):∀c,(∀a∈L,c<=a)->(∀a∈o,a<N)->(∀a∈o,∀g,g∈k a\/g∈i a->a<g)->zc6 k i (N - c) L=o:=by
 induction q with
 |nil=>
  intro c _ _ _;cases n:N - c<;> simp[zc6]
 | @cons d L z y g B w v r u t=>
   intro c p f e;have A:c<=d:=p d oh;have x:d<N:=f d oh;have m:=r (c+1) (fun a b=>by have:=e d (by simp) a (.inl b);omega) (fun a b=>f a jA) (fun a b=>e a jA);have l:=u (c+1) (fun a b=>by have:=e d (by simp) a (.inr b);omega) (fun a b=>f a jA) (fun a b=>e a jA);have j:=t c (fun a b=>p a jA) (fun a b=>f a jA) (fun a b=>e a jA);obtain⟨h,n⟩:∃h,N - c=h+1:=⟨N - c - 1,oa⟩;have s:N - (c+1)=h:=oa;rw[s] at m l;rw[n] at j ⊢;unfold zc6 at j ⊢;rw[zcN,j,m,l];simp
structure zcW where
 u:zV
 par:Option Nat
 lefts:List Nat
 more:List Nat
 deriving Inhabited
structure zE where
 l:List zcW
 more:List Nat
 order:List Nat
def vT:zE:=⟨[],[],[]⟩
def zol:zcW:=⟨qu,none,[],[]⟩
def zE.nd(s:zE)(k:Nat):zcW:=(s.l[k]?).getD zol
def zE.lf(s:zE)(k:Nat):List Nat:=(s.nd k).lefts
def zE.rt(s:zE)(k:Nat):List Nat:=(s.nd k).more
def zE.uid(s:zE)(k:Nat):zF:=(s.nd k).u.id
def zE.find(s:zE)(x:zF):Option Nat:=s.l.findIdx? fun n=>decide (n.u.id=x)
def zE.place(s:zE)(k:Nat):Nat:=s.order.idxOf k
def zE.findP(s:zE)(x:zF):Option Nat:=(s.find x).map s.place
def zE.pos(s:zE)(x:zF):Int:=match s.findP x with
 |some p=>p
 |none=> -1
def zE.far(s:zE)(r:zF):Int:=if r=zT then s.order.length else s.pos r
def zE.ahead(s:zE)(a b:zV):Bool:=if s.far a.right=s.far b.right then a.id.lessB b.id else decide (s.far b.right<s.far a.right)
def zE.ancF(s:zE):Nat->Nat->List Nat
 |0,_=> []
 |f+1,k=>match(s.nd k).par with
  |none=> []
  |some p=>p::s.ancF f p
def zE.anc(s:zE)(k:Nat):List Nat:=s.ancF k k
def zE.named(s:zE)(x:zF):Bool:=decide (x=zT) || (s.find x).isSome
def zE.may(s:zE)(u:zV):Bool:=u.id.rightB && (s.find u.id).isNone && s.named u.left && s.named u.right &&
 match s.findP u.left,s.findP u.right with
 |some a,some b=>decide (a<b)
 |_,_=>true
def zE.lpar(s:zE)(u:zV):Option Nat:=match s.find u.right with
 |none=>none
 |some r=>match s.find u.left with
  |none=>some r
  |some p=>if p∈s.anc r then some r else none
def xh(s:zE)(u:zV)(l:List Nat):List Nat×List Nat:=(l.takeWhile (fun x=>(s.uid x).lessB u.id),l.dropWhile (fun x=>(s.uid x).lessB u.id))
def xM(s:zE)(u:zV)(l:List Nat):List Nat×List Nat:=(l.takeWhile (fun x=>s.ahead (s.nd x).u u),l.dropWhile (fun x=>s.ahead (s.nd x).u u))
def zE.reord(l:List zcW)(a:List Nat):zE:=⟨l,a,zc6 (zE.lf ⟨l,a,[]⟩) (zE.rt ⟨l,a,[]⟩) l.length a⟩
def zE.ins(s:zE)(u:zV):zE:=
 let c:=s.l.length
 match s.lpar u with
 |some b=> .reord (s.l.set b ⟨(s.nd b).u,(s.nd b).par,(xh s u (s.lf b)).1++c::(xh s u (s.lf b)).2,s.rt b⟩++[⟨u,some b,[],[]⟩]) s.more
 |none=>match s.find u.left with
  |some a=> .reord (s.l.set a ⟨(s.nd a).u,(s.nd a).par,s.lf a,(xM s u (s.rt a)).1++c::(xM s u (s.rt a)).2⟩++[⟨u,some a,[],[]⟩]) s.more
  |none=> .reord (s.l++[⟨u,none,[],[]⟩]) ((xM s u s.more).1++c::(xM s u s.more).2)
structure zE.Wf(s:zE):Prop where
 walk:za s.lf s.rt s.more s.order
 nodup:s.order.Nodup
 mem:∀k,k∈s.order↔k<s.l.length
 inj:∀i j,i<s.l.length->j<s.l.length->s.uid i=s.uid j->i=j
 right:∀k,k<s.l.length->(s.uid k).rightB=true
 parlt:∀k p,k<s.l.length->(s.nd k).par=some p->p<k
 coh:∀k p,k<s.l.length->p<s.l.length->((s.nd k).par=some p↔k∈s.lf p\/k∈s.rt p)
 coh0:∀k,k<s.l.length->((s.nd k).par=none↔k∈s.more)
 sorted:∀p,p<s.l.length->(s.lf p).Pairwise fun a b=>(s.uid a).lessB (s.uid b)=true
theorem zk5:vT.Wf:=by constructor<;> simp[vT];exact .nil
theorem zE.Wf.find_some{s:zE}(e:s.Wf){x:zF}{k:Nat}:s.find x=some k↔k<s.l.length/\s.uid k=x:=by
 unfold zE.find;rw[List.findIdx?_eq_some_iff_getElem];constructor
 ·rintro⟨a,g,i⟩;refine⟨a,?_⟩;simpa[zE.uid,zE.nd,xG a] using g
 ·rintro⟨a,c⟩;refine⟨a,by simpa[zE.uid,zE.nd,xG a] using c,fun d f=> ?_⟩;have b:d<s.l.length:=Nat.lt_trans f a;simp only[xW];intro h;have:=e.inj d k b a (by rw[c];simpa[zE.uid,zE.nd,xG b] using h);omega
theorem zE.find_none{s:zE}{x:zF}:s.find x=none↔∀b,b<s.l.length->s.uid b≠x:=by
 unfold zE.find;rw[List.findIdx?_eq_none_iff];constructor
 ·intro d b c e;have:=d s.l[b] (zbk c);simp only[zaN] at this;exact this (by simpa[zE.uid,zE.nd,xG c] using e)
 ·intro d g f;obtain⟨b,c,rfl⟩:=zeW.1 f;have:=d b c;simp only[zaN];intro e;exact this (by simpa[zE.uid,zE.nd,xG c] using e)
structure qf(s s':zE)(u:zV)(pp:Option Nat):Prop where
 len:s'.l.length=s.l.length+1
 uE:∀x,x<s.l.length->(s'.nd x).u=(s.nd x).u
 parE:∀x,x<s.l.length->(s'.nd x).par=(s.nd x).par
 newu:(s'.nd s.l.length).u=u
 newp:(s'.nd s.l.length).par=pp
 newl:s'.lf s.l.length= []
 newr:s'.rt s.l.length= []
 lt:∀p,pp=some p->p<s.l.length
 kids:∀p c,p<s.l.length->c<s.l.length->((c∈s'.lf p\/c∈s'.rt p)↔(c∈s.lf p\/c∈s.rt p))
 kidN:∀p,p<s.l.length->((s.l.length∈s'.lf p\/s.l.length∈s'.rt p)↔pp=some p)
 root:∀c,c<s.l.length->(c∈s'.more↔c∈s.more)
 rootN:s.l.length∈s'.more↔pp=none
 sorted:∀p,p<s.l.length->(s'.lf p).Pairwise fun a b=>(s'.uid a).lessB (s'.uid b)=true
 ord:s'.order=zc6 s'.lf s'.rt s'.l.length s'.more
theorem qf.wf{s f:zE}{u:zV}{K:Option Nat}(g:qf s f u K)(h:s.Wf)(N:u.id.rightB=true)(D:s.find u.id=none){A B:List Nat}(C:s.order=A++B)(w:za f.lf f.rt f.more (A++s.l.length::B)):
 f.order=A++s.l.length::B/\f.Wf:=by
 have p:∀a,a∈A++s.l.length::B↔a<s.l.length+1:=by
  intro a;have:=h.mem a;rw[C] at this;simp only[xX,xK] at this ⊢;constructor
  ·rintro(c|c|c)
   ·have:=this.1 (.inl c);omega
   ·omega
   ·have:=this.1 (.inr c);omega
  ·intro e;by_cases I:a=s.l.length
   ·exact .inr (.inl I)
   ·rcases this.2 oa with c|c
    ·exact .inl c
    ·exact .inr (.inr c)
 have M:∀a d,a<s.l.length+1->(d∈f.lf a\/d∈f.rt a)->a<d/\d<s.l.length+1:=by
  intro a d e l;by_cases L:a=s.l.length
  ·subst L;rw[g.newl,g.newr] at l;simp at l
  have F:a<s.l.length:=oa;have H:d<s.l.length+1:=(p d).1 (w.kids ((p a).2 e) l);refine⟨?_,H⟩;by_cases R:d=s.l.length
  ·omega
  ·have E:d<s.l.length:=(by omega);have:=(h.coh d a E F).2 ((g.kids a d F E).1 l);exact h.parlt d a E this
 have t:f.order=A++s.l.length::B:=by rw[g.ord];have:=w.toF f.l.length 0 (fun _ _=>xO _) (fun a e=>by rw[g.len];exact(p a).1 e) (fun a e d l=>(M a d ((p a).1 e) l).1);rw[<-this];rfl
 have x:s.l.length ∉ A++B:=by rw[<-C];intro e;have:=(h.mem _).1 e;omega
 refine⟨t,?_⟩;have o:∀a,a<s.l.length->f.uid a=s.uid a:=fun a e=>by unfold zE.uid;rw[g.uE a e]
 have v:f.uid s.l.length=u.id:=by unfold zE.uid;rw[g.newu]
 rw[zE.find_none] at D;constructor
 ·rw[t];exact w
 ·rw[t];have:=h.nodup;rw[C] at this;rw[yv] at this ⊢;simp only[xX,not_or] at x;refine⟨this.1,?_,?_⟩
  ·rw[zdZ];exact⟨x.2,this.2.1⟩
  ·intro a e O z;rcases xK.1 z with rfl|z
   ·intro m;subst m;exact x.1 e
   ·exact this.2.2 a e O z
 ·intro b;rw[t,g.len];exact p b
 ·intro q r J G n;rw[g.len] at J G;by_cases c:q=s.l.length<;> by_cases y:r=s.l.length
  ·omega
  ·rw[c,v,o r oa] at n;exact absurd n.symm (D r oa)
  ·rw[y,v,o q oa] at n;exact absurd n (D q oa)
  ·rw[o q oa,o r oa] at n;exact h.inj q r oa oa n
 ·intro b k;rw[g.len] at k;by_cases c:b=s.l.length
  ·rw[c,v];exact N
  ·rw[o b oa];exact h.right b oa
 ·intro b i k j;rw[g.len] at k;by_cases c:b=s.l.length
  ·subst c;rw[g.newp] at j;exact g.lt i j
  ·rw[g.parE b oa] at j;exact h.parlt b i oa j
 ·intro b i k j;rw[g.len] at k j;by_cases y:i=s.l.length
  ·subst y;rw[g.newl,g.newr];simp only[zfS,or_self,iff_false];intro m;by_cases c:b=s.l.length
   ·subst c;rw[g.newp] at m;have:=g.lt _ m;omega
   ·rw[g.parE b oa] at m;have:=h.parlt b _ oa m;omega
  ·by_cases c:b=s.l.length
   ·subst c;rw[g.newp];exact(g.kidN i oa).symm
   ·rw[g.parE b oa];exact(h.coh b i oa oa).trans (g.kids i b oa oa).symm
 ·intro b k;rw[g.len] at k;by_cases c:b=s.l.length
  ·subst c;rw[g.newp];exact g.rootN.symm
  ·rw[g.parE b oa];exact(h.coh0 b oa).trans (g.root b oa).symm
 ·intro i j;rw[g.len] at j;by_cases c:i=s.l.length
  ·subst c;rw[g.newl];exact .nil
  ·exact g.sorted i oa
theorem zdq(l:List zcW)(m o:List Nat)(n:zcW)(x:Nat):(zE.mk (l++[n]) m o).nd x=if x=l.length then n else(zE.mk l m o).nd x:=by
 unfold zE.nd;dsimp only;by_cases a:x=l.length
 ·rw[zP a,a,vL (zU _)];simp
 ·rw[zN a];by_cases b:x<l.length
  ·rw[jm b]
  ·rw[vL oa,vp oi,vp oa]
theorem zfz(l:List zcW)(m o:List Nat)(n:zcW)(p x:Nat)(c:p<l.length):(zE.mk (l.set p n) m o).nd x=if x=p then n else(zE.mk l m o).nd x:=by
 unfold zE.nd;dsimp only;rw[List.getElem?_set];by_cases a:x=p
 ·subst a;simp[c]
 ·rw[zN (fun b=>a b.symm),zN a]
theorem zom{α:Type}(R:α->α->Prop)(j:∀a d i,R a d->R d i->R a i)(f:α->Bool)(e:α)(h:∀a,f a=true->R a e)(g:∀a,f a=false->R e a):∀l:List α,l.Pairwise R->(∀a∈l,a∈l)->(l.takeWhile f++e::l.dropWhile f).Pairwise R
 | [],_,_=>oh
 |a::l,c,_=>by
  rw[yr] at c;cases hfa:f a
  ·simp only[zff,zfg,hfa,jW,jX,xu,yr];refine⟨?_,c⟩;intro d b;rcases xK.1 b with rfl|b
   ·exact g _ hfa
   ·exact j _ _ _ (g _ hfa) (c.1 d b)
  ·simp only[zff,zfg,hfa,vJ,yD,yr];refine⟨?_,zom R j f e h g l c.2 (fun _ c=>c)⟩;intro d b;rcases xX.1 b with b|b
   ·exact c.1 d (List.takeWhile_sublist _ |>.subset b)
   ·rcases xK.1 b with rfl|b
    ·exact h _ hfa
    ·exact c.1 d (List.dropWhile_sublist _ |>.subset b)
theorem zk6{a b c:zF}(e:a.lessB b=true)(d:b.lessB c=true):a.lessB c=true:=by simp only[zF.lessB,qx,xr,xW] at *;omega
theorem zon{a b:zF}(c:a.lessB b=false)(d:a≠b):b.lessB a=true:=by cases a;cases b;simp only[zF.lessB,zjk,zjl,zaN,qx,xr,xW,ne_eq,zF.mk.injEq] at *;omega
theorem zE.lpar_some{s:zE}{u:zV}{r:Nat}(a:s.lpar u=some r):s.find u.right=some r:=by
 unfold zE.lpar at a;cases hr:s.find u.right with
 |none=>rw[hr] at a;cases a
 |some c=>
  rw[hr] at a;cases hl:s.find u.left with
  |none=>rw[hl] at a;exact a
  |some b=>
   rw[hl] at a;dsimp only at a;split at a
   ·exact a
   ·cases a
theorem zf0{b c:Nat->List Nat}{k:Nat}(g:b k= [])(e:c k= []):za b c [k] [k]:=by
 have f:za b c (b k) []:=by rw[g];exact .nil
 have d:za b c (c k) []:=by rw[e];exact .nil
 exact f.one d
theorem zE.ins_left{s:zE}(h:s.Wf){u:zV}{r:Nat}(W:s.lpar u=some r)(a9:u.id.rightB=true)(ac:s.find u.id=none):
 ∃D i k y,za s.lf s.rt (xh s u (s.lf r)).1 i/\za s.lf s.rt (xh s u (s.lf r)).2 k/\s.order=D++(i++(k++r::y))/\(s.ins u).order=D++(i++s.l.length::(k++r::y))/\(s.ins u).Wf/\qf s (s.ins u) u (some r):=by
 have q:=(h.find_some.1 (zE.lpar_some W)).1;obtain⟨D,bb,y,a8,al⟩:=h.walk.sub ((h.mem r).2 q);obtain⟨bc,wr,h1,E,rfl⟩:=a8.one_inv;have ad:s.lf r=(xh s u (s.lf r)).1++(xh s u (s.lf r)).2:=by simp[xh]
 have ag:=h1;rw[ad] at ag;obtain⟨i,k,V,aa,rfl⟩:=ag.split;have z:s.ins u= .reord (s.l.set r ⟨(s.nd r).u,(s.nd r).par,(xh s u (s.lf r)).1++s.l.length::(xh s u (s.lf r)).2,s.rt r⟩++[⟨u,some r,[],[]⟩]) s.more:=by unfold zE.ins;rw[W]
 have n:∀a,(s.ins u).nd a=if a=s.l.length then⟨u,some r,[],[]⟩ else if a=r then⟨(s.nd r).u,(s.nd r).par,(xh s u (s.lf r)).1++s.l.length::(xh s u (s.lf r)).2,s.rt r⟩ else s.nd a:=by intro a;rw[z];unfold zE.reord;rw[zdq,zcK,zfz _ _ _ _ _ _ q];rfl
 have aZ:(s.ins u).l.length=s.l.length+1:=by rw[z];simp[zE.reord]
 have be:s.l.length≠r:=oa;have x:∀a,a<s.l.length->a≠r->(s.ins u).lf a=s.lf a:=fun a h1 E=>by unfold zE.lf;rw[n,if_neg (by omega),if_neg E]
 have w:∀a,a<s.l.length->(s.ins u).rt a=s.rt a:=fun a h1=>by
  unfold zE.rt;rw[n,if_neg oa];split
  ·rename_i d;subst d;rfl
  ·rfl
 have F:(s.ins u).lf r=(xh s u (s.lf r)).1++s.l.length::(xh s u (s.lf r)).2:=by unfold zE.lf;rw[n,if_neg (by omega),if_pos rfl];rfl
 have v:∀a,a<s.l.length->((s.ins u).nd a).u=(s.nd a).u:=fun a h1=>by
  rw[n,zN oa];split
  ·rename_i d;subst d;rfl
  ·rfl
 have O:∀e,e∈s.lf r↔e∈(xh s u (s.lf r)).1\/e∈(xh s u (s.lf r)).2:=fun e=>by rw[<-xX,<-ad]
 have ak:∀e,e∈s.lf r->e<s.l.length:=fun e hc=>(h.mem e).1 (h.walk.kids ((h.mem r).2 q) (.inl hc));have J:(s.ins u).more=s.more:=by rw[z];rfl
 have A:qf s (s.ins u) u (some r):={
  len:=aZ
  uE:=v
  parE:=fun a h1=>by
   rw[n,zN oa];split
   ·rename_i d;subst d;rfl
   ·rfl
  newu:=by rw[n,zP rfl]
  newp:=by rw[n,zP rfl]
  newl:=by unfold zE.lf;rw[n,if_pos rfl]
  newr:=by unfold zE.rt;rw[n,if_pos rfl]
  lt:=fun p d=>by cases d;exact q
  kids:=fun p e g hc=>by
   rw[w p g];by_cases d:p=r
   ·subst d;rw[F,O];have:e≠s.l.length:=oa;simp[this]
   ·rw[x p g d]
  kidN:=fun p g=>by
   rw[w p g];have ao:¬s.l.length∈s.rt p:=fun hc=>(by have:=(h.mem _).1 (h.walk.kids ((h.mem p).2 g) (.inr hc));omega);by_cases d:p=r
   ·subst d;rw[F];simp
   ·rw[x p g d];have ar:¬s.l.length∈s.lf p:=fun hc=>(by have:=(h.mem _).1 (h.walk.kids ((h.mem p).2 g) (.inl hc));omega);simp[ao,ar];exact fun ba=>d ba.symm
  root:=fun e hc=>by rw[J]
  rootN:=by rw[J];have:¬s.l.length∈s.more:=fun hc=>(by have:=(h.mem _).1 (h.walk.mem hc);omega);simp[this]
  sorted:=fun p g=>by
   by_cases d:p=r
   ·subst d;rw[F];have ay:=h.sorted p g;have ah:∀b,b∈s.lf p->(s.ins u).uid b=s.uid b:=fun b m=>(by unfold zE.uid;rw[v b (ak b m)]);have a4:(s.ins u).uid s.l.length=u.id:=(by unfold zE.uid;rw[n,if_pos rfl]);have ap:((xh s u (s.lf p)).1.map s.uid++u.id::(xh s u (s.lf p)).2.map s.uid).Pairwise fun b j=>b.lessB j=true:=by
     have an:((s.lf p).map s.uid).Pairwise fun b j=>b.lessB j=true:=(by rw[zeO];exact ay);have Z:∀b∈(s.lf p).map s.uid,b≠u.id:=(by intro b m d;obtain⟨e,hc,rfl⟩:=xz.1 m;exact zE.find_none.1 ac e (ak e hc) d);rw[zbJ,yr];have K:(xh s u (s.lf p)).1.map s.uid=((s.lf p).map s.uid).takeWhile (fun b=>b.lessB u.id):=(by simp[xh,List.takeWhile_map,zhX]);have N:(xh s u (s.lf p)).2.map s.uid=((s.lf p).map s.uid).dropWhile (fun b=>b.lessB u.id):=(by simp[xh,List.dropWhile_map,zhX]);rw[K,N];generalize(s.lf p).map s.uid=o at an Z ⊢;have az:o=o.takeWhile (fun b=>b.lessB u.id)++o.dropWhile (fun b=>b.lessB u.id):=oh;have B:=an;rw[az,zbJ] at B;have af:∀j∈o.dropWhile (fun b=>b.lessB u.id),u.id.lessB j=true:=by
      intro j hb;cases hdw:o.dropWhile (fun b=>b.lessB u.id) with
      |nil=>rw[hdw] at hb;cases hb
      |cons M bd=>
       have ax:M.lessB u.id=false:=(by have:=zhS (p:=fun b:zF=>b.lessB u.id) (l:=o);rw[hdw] at this;simpa using this);have a1:M∈o:=(List.dropWhile_sublist _).subset (by rw[hdw];simp);have Y:=zon ax (Z M a1);rw[hdw] at hb;rcases xK.1 hb with rfl|hb
       ·exact Y
       ·have ai:=B.2.1;rw[hdw,yr] at ai;exact zk6 Y (ai.1 j hb)
     refine⟨B.1,⟨af,B.2.1⟩,?_⟩;intro b m j hb;have ab:b.lessB u.id=true:=(by have:=zhR (p:=fun b:zF=>b.lessB u.id) (l:=o);rw[zaq] at this;exact this b m);rcases xK.1 hb with rfl|hb
     ·exact ab
     ·exact zk6 ab (af j hb)
    have:((xh s u (s.lf p)).1++s.l.length::(xh s u (s.lf p)).2).map (s.ins u).uid=(xh s u (s.lf p)).1.map s.uid++u.id::(xh s u (s.lf p)).2.map s.uid:=by
     rw[ym,xd,a4];congr 1
     ·exact zbI fun b m=>ah b ((O b).2 (.inl m))
     ·congr 1;exact zbI fun b m=>ah b ((O b).2 (.inr m))
    rw[<-zeO (f:=(s.ins u).uid) (R:=fun b j=>b.lessB j=true),this];exact ap
   ·rw[x p g d];exact(h.sorted p g).imp_of_mem fun m hb av=>by have au:_<s.l.length:=(h.mem _).1 (h.walk.kids ((h.mem p).2 g) (.inl m));have a7:_<s.l.length:=(h.mem _).1 (h.walk.kids ((h.mem p).2 g) (.inl hb));unfold zE.uid at *;rw[v _ au,v _ a7];exact av
  ord:=by rw[z];rfl}
 have t:=h.nodup;rw[al] at t;have L:∀a,a∈i++k++r::wr->a<s.l.length:=fun a c=>(h.mem a).1 (by rw[al];simp only[xX] at c ⊢;exact .inl (.inr c));have am:∀a,a∈i++k->a≠r:=by rw[yv,yv] at t;intro a c;have:=t.1.2.1;rw[yv] at this;exact this.2.2 a c r oh
 have aP:∀a,a∈wr->a≠r:=by rw[yv,yv] at t;intro a c d;have:=t.1.2.1;rw[yv,zdZ] at this;exact this.2.1.1 (by rw[<-d];exact c)
 have T:∀{X H:List Nat},za s.lf s.rt X H->(∀a∈H,a<s.l.length/\a≠r)->za (s.ins u).lf (s.ins u).rt X H:=fun a5 c=>a5.congr fun a I=>⟨x a (c a I).1 (c a I).2,w a (c a I).1⟩;have w3:=T V fun a c=>⟨L a oaV,am a oaV⟩;have a3:=T aa fun a c=>⟨L a oaV,am a oaV⟩;have aj:=T E fun a c=>⟨L a oaV,aP a c⟩;rw[<-w r q] at aj;have a0:=zf0 A.newl A.newr;have a2:za (s.ins u).lf (s.ins u).rt ((s.ins u).lf r) (i++s.l.length::k):=by rw[F];have:=w3.append (a0.append a3);simpa using this
 have w6:=a2.one aj;obtain⟨G,C,a6,aH⟩:=za.subst (h1.one E) w6 h.walk h.nodup ((h.mem r).2 q) fun a c aq=>⟨x a ((h.mem a).1 c) aq,w a ((h.mem a).1 c)⟩;have ae:s.order=G++(i++(k++r::(wr++C))):=by rw[a6];simp
 have aw:za (s.ins u).lf (s.ins u).rt (s.ins u).more ((G++i)++s.l.length::(k++r::(wr++C))):=by rw[J];simpa using aH
 obtain⟨K,N⟩:=A.wf h a9 ac (A:=G++i) (B:=k++r::(wr++C)) (by rw[ae];simp) aw;exact⟨G,i,k,wr++C,V,aa,ae,by rw[K];simp,N,A⟩
theorem zE.lpar_none_find{s:zE}{u:zV}(b:s.lpar u=none):s.find u.right=none\/∃d c,s.find u.right=some d/\s.find u.left=some c/\c ∉ s.anc d:=by
 unfold zE.lpar at b;cases hr:s.find u.right with
 |none=>exact .inl rfl
 |some d=>
  rw[hr] at b;cases hl:s.find u.left with
  |none=>rw[hl] at b;cases b
  |some c=>
   rw[hl] at b;dsimp only at b;split at b
   ·cases b
   ·rename_i e;exact .inr ⟨d,c,rfl,rfl,e⟩
theorem zE.ins_right{s:zE}(h:s.Wf){u:zV}{p:Nat}(av:s.lpar u=none)(V:s.find u.left=some p)(ar:u.id.rightB=true)(aj:s.find u.id=none):
 ∃B f g y,za s.lf s.rt (xM s u (s.rt p)).1 f/\za s.lf s.rt (xM s u (s.rt p)).2 g/\s.order=B++p::(f++(g++y))/\(s.ins u).order=B++p::(f++s.l.length::(g++y))/\(s.ins u).Wf/\qf s (s.ins u) u (some p)/\za s.lf s.rt (s.rt p) (f++g):=by
 have r:=(h.find_some.1 V).1;obtain⟨B,aw,y,ap,M⟩:=h.walk.sub ((h.mem p).2 r);obtain⟨m,wr,h1,n,rfl⟩:=ap.one_inv;have N:s.rt p=(xM s u (s.rt p)).1++(xM s u (s.rt p)).2:=by simp[xM]
 have K:=n;rw[N] at K;obtain⟨f,g,J,L,rfl⟩:=K.split;have z:s.ins u= .reord (s.l.set p ⟨(s.nd p).u,(s.nd p).par,s.lf p,(xM s u (s.rt p)).1++s.l.length::(xM s u (s.rt p)).2⟩++[⟨u,some p,[],[]⟩]) s.more:=by unfold zE.ins;rw[av,V]
 have i:∀b,(s.ins u).nd b=if b=s.l.length then⟨u,some p,[],[]⟩ else if b=p then⟨(s.nd p).u,(s.nd p).par,s.lf p,(xM s u (s.rt p)).1++s.l.length::(xM s u (s.rt p)).2⟩ else s.nd b:=by intro b;rw[z];unfold zE.reord;rw[zdq,zcK,zfz _ _ _ _ _ _ r];rfl
 have Z:(s.ins u).l.length=s.l.length+1:=by rw[z];simp[zE.reord]
 have w:∀b,b<s.l.length->b≠p->(s.ins u).rt b=s.rt b:=fun b h1 n=>by unfold zE.rt;rw[i,if_neg (by omega),if_neg n]
 have l:∀b,b<s.l.length->(s.ins u).lf b=s.lf b:=fun b h1=>by
  unfold zE.lf;rw[i,if_neg oa];split
  ·rename_i d;subst d;rfl
  ·rfl
 have C:(s.ins u).rt p=(xM s u (s.rt p)).1++s.l.length::(xM s u (s.rt p)).2:=by unfold zE.rt;rw[i,if_neg (by omega),if_pos rfl];rfl
 have v:∀b,b<s.l.length->((s.ins u).nd b).u=(s.nd b).u:=fun b h1=>by
  rw[i,zN oa];split
  ·rename_i d;subst d;rfl
  ·rfl
 have au:∀k,k∈s.rt p↔k∈(xM s u (s.rt p)).1\/k∈(xM s u (s.rt p)).2:=fun k=>by rw[<-xX,<-N]
 have D:(s.ins u).more=s.more:=by rw[z];rfl
 have t:qf s (s.ins u) u (some p):={
  len:=Z
  uE:=v
  parE:=fun b h1=>by
   rw[i,zN oa];split
   ·rename_i d;subst d;rfl
   ·rfl
  newu:=by rw[i,zP rfl]
  newp:=by rw[i,zP rfl]
  newl:=by unfold zE.lf;rw[i,if_pos rfl]
  newr:=by unfold zE.rt;rw[i,if_pos rfl]
  lt:=fun p d=>by cases d;exact r
  kids:=fun q k e j=>by
   rw[l q e];by_cases d:q=p
   ·subst d;rw[C,au];have:k≠s.l.length:=oa;simp[this]
   ·rw[w q e d]
  kidN:=fun q e=>by
   rw[l q e];have af:¬s.l.length∈s.lf q:=fun j=>(by have:=(h.mem _).1 (h.walk.kids ((h.mem q).2 e) (.inl j));omega);by_cases d:q=p
   ·subst d;rw[C];simp
   ·rw[w q e d];have X:¬s.l.length∈s.rt q:=fun j=>(by have:=(h.mem _).1 (h.walk.kids ((h.mem q).2 e) (.inr j));omega);simp[X,af];exact fun aq=>d aq.symm
  root:=fun k j=>by rw[D]
  rootN:=by rw[D];have:¬s.l.length∈s.more:=fun j=>(by have:=(h.mem _).1 (h.walk.mem j);omega);simp[this]
  sorted:=fun q e=>by rw[l q e];exact(h.sorted q e).imp_of_mem fun W hb ak=>by have ag:_<s.l.length:=(h.mem _).1 (h.walk.kids ((h.mem q).2 e) (.inl W));have al:_<s.l.length:=(h.mem _).1 (h.walk.kids ((h.mem q).2 e) (.inl hb));unfold zE.uid at *;rw[v _ ag,v _ al];exact ak
  ord:=by rw[z];rfl}
 have o:=h.nodup;rw[M] at o;have H:∀b,b∈m++p::(f++g)->b<s.l.length:=fun b c=>(h.mem b).1 (by rw[M];rw[xX,xX];exact .inl (.inr c));have ah:∀b,b∈m->b≠p:=by rw[yv,yv] at o;intro b c;have:=o.1.2.1;rw[yv] at this;exact this.2.2 b c p oh
 have I:∀b,b∈f++g->b≠p:=by rw[yv,yv] at o;intro b c d;have:=o.1.2.1;rw[yv,zdZ] at this;exact this.2.1.1 (by rw[<-d];exact c)
 have F:∀{R E:List Nat},za s.lf s.rt R E->(∀b∈E,b<s.l.length/\b≠p)->za (s.ins u).lf (s.ins u).rt R E:=fun aa c=>aa.congr fun b G=>⟨l b (c b G).1,w b (c b G).1 (c b G).2⟩;have w3:=F J fun b c=>⟨H b oaV,I b oaV⟩;have Y:=F L fun b c=>⟨H b oaV,I b oaV⟩;have T:=F h1 fun b c=>⟨H b oaV,ah b c⟩;rw[<-l p r] at T;have ac:=zf0 t.newl t.newr;have ai:za (s.ins u).lf (s.ins u).rt ((s.ins u).rt p) (f++s.l.length::g):=by rw[C];have:=w3.append (ac.append Y);simpa using this
 have w6:=T.one ai;obtain⟨A,x,ab,ao⟩:=za.subst (h1.one n) w6 h.walk h.nodup ((h.mem p).2 r) fun b c ae=>⟨l b ((h.mem b).1 c),w b ((h.mem b).1 c) ae⟩;have O:s.order=(A++m)++p::(f++(g++x)):=by rw[ab];simp
 have am:za (s.ins u).lf (s.ins u).rt (s.ins u).more ((A++m++p::f)++s.l.length::(g++x)):=by rw[D];simpa using ao
 obtain⟨an,ad⟩:=t.wf h ar aj (A:=A++m++p::f) (B:=g++x) (by rw[O];simp) am;exact⟨A++m,f,g,x,J,L,O,by rw[an];simp,ad,t,n⟩
theorem zE.ins_root{s:zE}(h:s.Wf){u:zV}(M:s.lpar u=none)(Y:s.find u.left=none)(X:u.id.rightB=true)(O:s.find u.id=none):
 ∃d e,za s.lf s.rt (xM s u s.more).1 d/\za s.lf s.rt (xM s u s.more).2 e/\s.order=d++e/\(s.ins u).order=d++s.l.length::e/\(s.ins u).Wf/\qf s (s.ins u) u none:=by
 have z:s.more=(xM s u s.more).1++(xM s u s.more).2:=by simp[xM]
 have x:=h.walk;rw[z] at x;obtain⟨d,e,w,y,t⟩:=x.split;have m:s.ins u= .reord (s.l++[⟨u,none,[],[]⟩]) ((xM s u s.more).1++s.l.length::(xM s u s.more).2):=by unfold zE.ins;rw[M,Y]
 have j:∀a,(s.ins u).nd a=if a=s.l.length then⟨u,none,[],[]⟩ else s.nd a:=by intro a;rw[m];unfold zE.reord;rw[zdq];rfl
 have H:(s.ins u).l.length=s.l.length+1:=by rw[m];simp[zE.reord]
 have f:∀a,a<s.l.length->(s.ins u).nd a=s.nd a:=fun a h1=>by rw[j,zN (by omega)]
 have n:∀a,a<s.l.length->(s.ins u).rt a=s.rt a:=fun a h1=>by unfold zE.rt;rw[f a h1]
 have k:∀a,a<s.l.length->(s.ins u).lf a=s.lf a:=fun a h1=>by unfold zE.lf;rw[f a h1]
 have r:(s.ins u).more=(xM s u s.more).1++s.l.length::(xM s u s.more).2:=by rw[m];rfl
 have l:qf s (s.ins u) u none:={
  len:=H
  uE:=fun a h1=>by rw[f a h1]
  parE:=fun a h1=>by rw[f a h1]
  newu:=by rw[j,zP rfl]
  newp:=by rw[j,zP rfl]
  newl:=by unfold zE.lf;rw[j,if_pos rfl]
  newr:=by unfold zE.rt;rw[j,if_pos rfl]
  lt:=fun p o=>by cases o
  kids:=fun q i b g=>by rw[k q b,n q b]
  kidN:=fun q b=>by rw[k q b,n q b];have L:¬s.l.length∈s.lf q:=fun g=>(by have:=(h.mem _).1 (h.walk.kids ((h.mem q).2 b) (.inl g));omega);have F:¬s.l.length∈s.rt q:=fun g=>(by have:=(h.mem _).1 (h.walk.kids ((h.mem q).2 b) (.inr g));omega);simp[F,L]
  root:=fun i g=>by rw[r];have:i≠s.l.length:=oa;have o:i∈s.more↔i∈(xM s u s.more).1\/i∈(xM s u s.more).2:=(by rw[<-xX,<-z]);rw[o];simp[this]
  rootN:=by rw[r];simp
  sorted:=fun q b=>by rw[k q b];exact(h.sorted q b).imp_of_mem fun E hb R=>by have N:_<s.l.length:=(h.mem _).1 (h.walk.kids ((h.mem q).2 b) (.inl E));have T:_<s.l.length:=(h.mem _).1 (h.walk.kids ((h.mem q).2 b) (.inl hb));unfold zE.uid at *;rw[f _ N,f _ T];exact R
  ord:=by rw[m];rfl}
 have B:∀{A v:List Nat},za s.lf s.rt A v->(∀a∈v,a<s.l.length)->za (s.ins u).lf (s.ins u).rt A v:=fun I c=>I.congr fun a C=>⟨k a (c a C),n a (c a C)⟩;have D:∀a,a∈d++e->a<s.l.length:=fun a c=>(h.mem a).1 (by rw[t];exact c);have w3:=B w fun a c=>D a oaV;have G:=B y fun a c=>D a oaV;have J:=zf0 l.newl l.newr;have V:za (s.ins u).lf (s.ins u).rt (s.ins u).more (d++s.l.length::e):=by rw[r];have:=w3.append (J.append G);simpa using this
 obtain⟨W,K⟩:=l.wf h X O t V;exact⟨d,e,w,y,t,W,K,l⟩
end Go.Proofs.YtimlgcodecgecaaGreatDoor
