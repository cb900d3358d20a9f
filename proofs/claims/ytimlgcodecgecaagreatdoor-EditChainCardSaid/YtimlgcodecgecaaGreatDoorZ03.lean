/- The order of units as a tree: ancestors, sizes, places, runs: plain law. -/
import Derived.Test.YtimlgcodecgecaaGreatDoorZ02
set_option maxRecDepth 100000
set_option maxHeartbeats 20000000
set_option linter.all false
namespace Go.Proofs.YtimlgcodecgecaaGreatDoor
open Go.RowKit Go.Lib
theorem zE.Wf.ancF_fuel{s:zE}(d:s.Wf):∀(f k:Nat),k<s.l.length->k<=f->s.ancF f k=s.ancF k k:=by
 intro f;induction f using Nat.strongRecOn with
 |ind f b=>
  intro k c g;cases f with
  |zero=>
   obtain rfl:k=0:=oa;rfl
  |succ f=>
   cases k with
   |zero=>
    unfold zE.ancF;cases hp:(s.nd 0).par with
    |none=>rfl
    |some a=>have:=d.parlt 0 a c hp;omega
   |succ k=>
    unfold zE.ancF;cases hp:(s.nd (k+1)).par with
    |none=>rfl
    |some a=>
     have h:=d.parlt (k+1) a c hp;dsimp only;rw[b f oa a oa oa];by_cases e:k=f
     ·rw[e,b f oa a oa oa]
     ·rw[b k oa a oa oa]
theorem zE.Wf.anc_eq{s:zE}(b:s.Wf){k:Nat}(c:k<s.l.length):s.anc k=match(s.nd k).par with
 |none=> []
 |some a=>a::s.anc a:=by
 unfold zE.anc;rw[<-b.ancF_fuel (k+1) k c oa];show(match(s.nd k).par with|none=> [] |some a=>a::s.ancF k a)=_
 cases hp:(s.nd k).par with
 |none=>rfl
 |some a=>
  have:=b.parlt k a c hp;dsimp only;rw[b.ancF_fuel k a oa oa]
theorem zE.Wf.anc_lt{s:zE}(c:s.Wf):∀(k x:Nat),k<s.l.length->x∈s.anc k->x<k:=by
 intro k;induction k using Nat.strongRecOn with
 |ind k f=>
  intro x b a;rw[c.anc_eq b] at a;cases hp:(s.nd k).par with
  |none=>rw[hp] at a;cases a
  |some d=>
   rw[hp] at a;have e:=c.parlt k d b hp;rcases xK.1 a with rfl|a
   ·exact e
   ·have:=f d e x oa a;omega
theorem zE.Wf.anc_tr{s:zE}(d:s.Wf):∀(k x b:Nat),k<s.l.length->x∈s.anc k->b∈s.anc x->b∈s.anc k:=by
 intro k;induction k using Nat.strongRecOn with
 |ind k g=>
  intro x b c a e;have i:=a;rw[d.anc_eq c] at a ⊢;cases hp:(s.nd k).par with
  |none=>rw[hp] at a;cases a
  |some f=>
   rw[hp] at a;have h:=d.parlt k f c hp;rcases xK.1 a with rfl|a
   ·exact zdd _ e
   ·exact zdd _ (g f h x b oa a e)
theorem zE.Wf.walk_anc{s:zE}(k:s.Wf){L o:List Nat}(n:za s.lf s.rt L o):(∀h∈o,h<s.l.length)->∀c∈o,∃a∈L,c=a\/a∈s.anc c:=by
 induction n with
 |nil=>intro _ c b;cases b
 | @cons e L t z y v p x r w u=>
   intro g c b;have q:e<s.l.length:=g e oh;have m:∀a,a<s.l.length->a∈s.lf e\/a∈s.rt e->e∈s.anc a:=fun a d j=>(by rw[k.anc_eq d,(k.coh a e d q).2 j];simp);have go:∀a,c<s.l.length->a<s.l.length->a∈s.lf e\/a∈s.rt e->c=a\/a∈s.anc c->e∈s.anc c:=fun a b d j f=>by
    rcases f with rfl|f
    ·exact m _ d j
    ·exact k.anc_tr c a e b f (m a d j)
   have l:=g c b;rcases xX.1 b with b|b
   ·obtain⟨a,d,f⟩:=r (fun h i=>g h (by simp[i])) c b;exact⟨e,oh,.inr (go a l (g a (by simp[v.mem d])) (.inl d) f)⟩
   ·rcases xK.1 b with rfl|b
    ·exact⟨c,oh,.inl rfl⟩
    ·rcases xX.1 b with b|b
     ·obtain⟨a,d,f⟩:=w (fun h i=>g h (by simp[i])) c b;exact⟨e,oh,.inr (go a l (g a (by simp[p.mem d])) (.inr d) f)⟩
     ·obtain⟨a,d,f⟩:=u (fun h i=>g h (by simp[i])) c b;exact⟨a,jj,f⟩
theorem zE.Wf.below_iff{s:zE}(d:s.Wf){x:Nat}{o:List Nat}(e:za s.lf s.rt [x] o)(q:x<s.l.length):∀b,b<s.l.length->(b∈o↔b=x\/x∈s.anc b):=by
 have m:∀g∈o,g<s.l.length:=by obtain⟨y,w,u,j,l⟩:=d.walk.sub ((d.mem x).2 q);obtain rfl:=e.det j;intro g k;exact(d.mem g).1 (by rw[l];simp[k])
 intro b;induction b using Nat.strongRecOn with
 |ind b p=>
  intro h;constructor
  ·intro r;obtain⟨v,i,c⟩:=d.walk_anc e m b r;simp only[j0] at i;subst i;exact c
  ·rintro(rfl|c)
   ·exact e.mem oh
   ·rw[d.anc_eq h] at c;cases hp:(s.nd b).par with
    |none=>rw[hp] at c;cases c
    |some f=>
     rw[hp] at c;have t:=d.parlt b f h hp;have n:f∈o:=(p f t oa).2 (by
      rcases xK.1 c with rfl|c
      ·exact .inl rfl
      ·exact .inr c)
     exact e.kids n ((d.coh b f h oa).1 hp)
def zE.sz(s:zE)(k:Nat):Nat:=(zc6 s.lf s.rt s.l.length [k]).length
theorem zE.Wf.kid_lt{s:zE}(a:s.Wf){x c:Nat}(d:x<s.l.length)(e:c∈s.lf x\/c∈s.rt x):x<c/\c<s.l.length:=by have b:=(a.mem c).1 (a.walk.kids ((a.mem x).2 d) e);exact⟨a.parlt c x b ((a.coh c x b d).2 e),b⟩
theorem zE.Wf.has_walk{s:zE}(c:s.Wf){k:Nat}(j:k<s.l.length):∃g a f,za s.lf s.rt [k] a/\s.order=g++a++f/\s.sz k=a.length/\a.Nodup/\∀b∈a,b<s.l.length:=by
 obtain⟨g,a,f,i,h⟩:=c.walk.sub ((c.mem k).2 j);have d:∀b∈a,b<s.l.length:=fun b e=>(c.mem b).1 (by rw[h];simp[e]);refine⟨g,a,f,i,h,?_,?_,d⟩
 ·unfold zE.sz;have:=i.toF s.l.length 0 (fun _ _=>xO _) d (fun b e m l=>(c.kid_lt (d b e) l).1);rw[<-this];rfl
 ·have:=c.nodup;rw[h,yv,yv] at this;exact this.1.2.1
theorem zE.Wf.sz_eq{s:zE}(c:s.Wf){k:Nat}(d:k<s.l.length){o:List Nat}(f:za s.lf s.rt [k] o):s.sz k=o.length:=by obtain⟨i,g,h,e,_,b,_⟩:=c.has_walk d;rw[b,f.det e]
theorem zE.Wf.sz_sum{s:zE}(e:s.Wf){L o:List Nat}(c:za s.lf s.rt L o):(∀a∈L,a<s.l.length)->(L.map s.sz).sum=o.length:=by
 induction c with
 |nil=>intro _;rfl
 | @cons f L n m k i d j l p g=>
   intro b;have:=g fun a h=>b a (by simp[h]);rw[xd,zhk,this,e.sz_eq (b f oh) (i.one d)];simp;omega
theorem qf.sz{s j:zE}{u:zV}{i:Option Nat}(g:qf s j u i)(p:s.Wf)(k:j.Wf):
 j.sz s.l.length=1/\∀b,b<s.l.length->j.sz b=s.sz b+(if i=some b\/(∃e,i=some e/\b∈s.anc e) then 1 else 0):=by
 have t:∀f,f<s.l.length->j.anc f=s.anc f:=by
  intro f;induction f using Nat.strongRecOn with
  |ind f O=>
   intro w;rw[p.anc_eq w,k.anc_eq oaq,g.parE f w];cases x:(s.nd f).par with
   |none=>rfl
   |some e=>have:=p.parlt f e w x;dsimp only;rw[O e this oa]
 have J:∀b,b<s.l.length->∀h d,za s.lf s.rt [b] h->za j.lf j.rt [b] d->h.Nodup->d.Nodup->(∀a∈h,a<s.l.length)->(∀a∈d,a<s.l.length+1)->d.length=h.length+(if i=some b\/(∃e,i=some e/\b∈s.anc e) then 1 else 0):=by
  intro b q h d D R L z I K;have B:=p.below_iff D q;have o:=k.below_iff R oaq;rw[g.len] at o;have y:s.l.length∈d↔(i=some b\/∃e,i=some e/\b∈s.anc e):=by
   rw[o _ oa,k.anc_eq oaq,g.newp];cases i with
   |none=>simp;omega
   |some e=>
    have x:=g.lt e rfl;dsimp only;rw[xK,t e x];constructor
    ·rintro(c|c|c)
     ·omega
     ·exact .inl (by rw[c])
     ·exact .inr ⟨e,rfl,c⟩
    ·rintro(c|⟨V,c,m⟩)
     ·cases c;exact .inr (.inl rfl)
     ·cases c;exact .inr (.inr m)
  have N:∀a,a∈d.filter (fun a=>decide (a≠s.l.length))↔a∈h:=by
   intro a;rw[zcu];simp only[ne_eq,decide_not,Bool.not_eq_true',zaN];constructor
   ·rintro⟨c,m⟩;have n:a<s.l.length:=(by have:=K a c;omega);rw[B a n,<-t a n];exact(o a oa).1 c
   ·intro c;have n:=I a c;refine⟨?_,oa⟩;rw[o a oa,t a n];exact(B a n).1 c
  have C:(d.filter (fun a=>decide (a≠s.l.length))).length=h.length:=
   (List.perm_ext_iff_of_nodup (z.filter _) L).2 N |>.length_eq
  have F:(d.filter (fun a=>decide (a≠s.l.length))).length+d.count s.l.length=d.length:=by have:=List.length_eq_countP_add_countP (fun a=>decide (a≠s.l.length)) (l:=d);rw[this,List.countP_eq_length_filter];congr 1;rw[List.count];exact List.countP_congr fun a _=>by by_cases v:a=s.l.length<;> simp[v]
  rw[C] at F;by_cases r:s.l.length∈d
  ·rw[zP (y.1 r)];have:d.count s.l.length=1:=(by have c:=List.nodup_iff_count.1 z s.l.length;have m:=List.count_pos_iff.2 r;omega);omega
  ·rw[zN (fun v=>r (y.2 v))];have:=List.count_eq_zero.2 r;omega
 constructor
 ·have:=zf0 g.newl g.newr;rw[k.sz_eq oaq this];rfl
 ·intro b q;obtain⟨_,h,_,c,_,m,E,H⟩:=p.has_walk q;obtain⟨_,d,_,T,_,G,M,A⟩:=k.has_walk (k:=b) oaq;rw[g.len] at A;rw[m,G];exact J b q h d c T E M H A
theorem zk7{A B:List Nat}{k:Nat}(a:(A++k::B).Nodup):(A++k::B).idxOf k=A.length:=by rw[yv] at a;have b:k ∉ A:=fun c=>a.2.2 k c k oh rfl;rw[List.idxOf_append,zN b];simp
theorem zE.Wf.place_mid{s:zE}(a:s.Wf){A B:List Nat}{k:Nat}(b:s.order=A++k::B):s.place k=A.length:=by unfold zE.place;have:=a.nodup;rw[b] at this ⊢;exact zk7 this
theorem zE.Wf.place_lt{s:zE}(a:s.Wf){k:Nat}(b:k<s.l.length):s.place k<s.order.length:=by unfold zE.place;exact List.idxOf_lt_length_iff.2 ((a.mem k).2 b)
theorem zE.Wf.order_place{s:zE}(a:s.Wf){k:Nat}(b:k<s.l.length):s.order[s.place k]?=some k:=by have:s.order.idxOf k<s.order.length:=a.place_lt b;show s.order[s.order.idxOf k]?=some k;rw[xG this,List.getElem_idxOf]
theorem zE.Wf.len_eq{s:zE}(b:s.Wf):s.order.length=s.l.length:=by
 have c:s.order.Perm (List.range s.l.length):=(List.perm_ext_iff_of_nodup b.nodup List.nodup_range).2 fun d=>by rw[b.mem,zbj]
 rw[c.length_eq,zcs]
theorem zE.ins_left_place{s:zE}(c:s.Wf){u:zV}{r:Nat}(i:s.lpar u=some r)(n:u.id.rightB=true)(k:s.find u.id=none):
 ∃b a,s.order=b++a/\(s.ins u).order=b++s.l.length::a/\b.length+((xh s u (s.lf r)).2.map s.sz).sum=s.place r/\(s.ins u).Wf/\qf s (s.ins u) u (some r)/\r∈a:=by
 obtain⟨b,e,g,a,p,f,d,h,l,m⟩:=zE.ins_left c i n k;refine⟨b++e,g++r::a,by rw[d];simp,by rw[h];simp,?_,l,m,oh⟩;rw[c.place_mid (A:=b++e++g) (B:=a) (by rw[d];simp),c.sz_sum f fun j o=> ?_]
 ·simp;omega
 ·exact(c.mem j).1 (by rw[d];simp[f.mem o])
theorem zE.ins_right_place{s:zE}(c:s.Wf){u:zV}{p:Nat}(i:s.lpar u=none)(q:s.find u.left=some p)(n:u.id.rightB=true)(k:s.find u.id=none):
 ∃a b,s.order=a++b/\(s.ins u).order=a++s.l.length::b/\a.length=s.place p+1+((xM s u (s.rt p)).1.map s.sz).sum/\(s.ins u).Wf/\qf s (s.ins u) u (some p)/\p∈a:=by
 obtain⟨a,e,f,b,g,r,d,h,l,m,_⟩:=zE.ins_right c i q n k;refine⟨a++p::e,f++b,by rw[d];simp,by rw[h];simp,?_,l,m,oh⟩;rw[c.place_mid (A:=a) (B:=e++(f++b)) d,c.sz_sum g fun j o=> ?_]
 ·simp;omega
 ·exact(c.mem j).1 (by rw[d];simp[g.mem o])
theorem zE.ins_root_place{s:zE}(b:s.Wf){u:zV}(i:s.lpar u=none)(q:s.find u.left=none)(o:u.id.rightB=true)(l:s.find u.id=none):
 ∃c e,s.order=c++e/\(s.ins u).order=c++s.l.length::e/\c.length=((xM s u s.more).1.map s.sz).sum/\(s.ins u).Wf/\qf s (s.ins u) u none:=by
 obtain⟨g,j,f,r,d,h,m,n⟩:=zE.ins_root b i q o l;refine⟨g,j,d,h,?_,m,n⟩;rw[b.sz_sum f fun k p=> ?_];exact(b.mem k).1 (by rw[d];simp[f.mem p])
def zE.ppar(s:zE)(u:zV):Option Nat:=match s.lpar u with
 |some r=>some r
 |none=>s.find u.left
theorem zE.ins_any{s:zE}(h:s.Wf){u:zV}(g:u.id.rightB=true)(i:s.find u.id=none):
 ∃b a,s.order=b++a/\(s.ins u).order=b++s.l.length::a/\(s.ins u).Wf/\qf s (s.ins u) u (s.ppar u):=by
 cases hl:s.lpar u with
 |some k=>
  obtain⟨b,a,e,c,_,f,d,_⟩:=zE.ins_left_place h hl g i;exact⟨b,a,e,c,f,by unfold zE.ppar;rw[hl];exact d⟩
 |none=>
  cases hp:s.find u.left with
  |some j=>
   obtain⟨b,a,e,c,_,f,d,_⟩:=zE.ins_right_place h hl hp g i;exact⟨b,a,e,c,f,by unfold zE.ppar;rw[hl,hp];exact d⟩
  |none=>
   obtain⟨b,a,e,c,_,f,d⟩:=zE.ins_root_place h hl hp g i;exact⟨b,a,e,c,f,by unfold zE.ppar;rw[hl,hp];exact d⟩
theorem zE.may_iff{s:zE}{u:zV}:s.may u=true↔u.id.rightB=true/\s.find u.id=none/\s.named u.left=true/\s.named u.right=true/\∀a b,s.findP u.left=some a->s.findP u.right=some b->a<b:=by unfold zE.may;simp only[xr,Option.isNone_iff_eq_none,zhc];refine zhl fun _=>zhl fun _=>zhl fun _=>zhl fun _=> ?_;cases h1:s.findP u.left<;> cases h2:s.findP u.right<;> simp
theorem zE.ins_ahead{s:zE}(e:s.Wf){u:zV}(L:s.may u=true){r:Nat}(i:s.find u.right=some r):(s.ins u).place s.l.length<(s.ins u).place r:=by
 obtain⟨B,y,ab,Y,M⟩:=zE.may_iff.1 L;have C:=(e.find_some.1 i).1;have t:∀c a,s.order=c++a->(s.ins u).order=c++s.l.length::a->(s.ins u).Wf->r∈a->(s.ins u).place s.l.length<(s.ins u).place r:=by intro c a _ g d q;obtain⟨G,T,rfl⟩:=zfn q;rw[d.place_mid g,d.place_mid (A:=c++s.l.length::G) (B:=T) (k:=r) (by rw[g];simp)];rw[xY,z7];omega
 cases hl:s.lpar u with
 |some W=>
  obtain⟨c,a,D,g,_,d,v,p⟩:=zE.ins_left_place e hl B y;have:=zE.lpar_some hl;rw[i] at this;cases this;exact t c a D g d p
 |none=>
  rcases zE.lpar_none_find hl with f|⟨W,h,A,m,N⟩
  ·rw[i] at f;cases f
  ·rw[i] at A;cases A;obtain⟨c,j,n,a,D,g,d,v,p,Z,x⟩:=zE.ins_right e hl m B y;have F:=(e.find_some.1 m).1;have aa:s.place h<s.place r:=M _ _ (by unfold zE.findP;rw[m];rfl) (by unfold zE.findP;rw[i];rfl);have I:=e.place_mid d;have w:=(e.mem r).2 C;rw[d] at w;have H:r ∉ j++n:=fun J=>by
    obtain⟨E,wr,o,l,_⟩:∃E wr,za s.lf s.rt (s.lf h) E/\za s.lf s.rt (s.rt h) wr/\True:=(by obtain⟨_,X,_,o,_⟩:=e.has_walk F;obtain⟨z,R,l,K,_⟩:=o.one_inv;exact⟨z,R,l,K,trivial⟩);obtain rfl:=x.det l;have:=(e.below_iff (o.one x) F r C).1 (by simp[xX.1 J]);rcases this with f|f
    ·subst f;omega
    ·exact N f
   have q:r∈a:=by
    rcases xX.1 w with b|b
    ·obtain⟨V,O,rfl⟩:=zfn b;have:=e.place_mid (A:=V) (B:=O++h::(j++(n++a))) (k:=r) (by rw[d];simp);simp at I;omega
    ·rcases xK.1 b with f|b
     ·subst f;omega
     ·rw[<-zjV] at b;rcases xX.1 b with b|b
      ·exact absurd b H
      ·exact b
   exact t (c++h::j) (n++a) (by rw[d];simp) (by rw[v];simp) p (by simp[q])
def zV.next(u:zV):zV:=⟨⟨u.id.c,u.id.k+1⟩,u.id,u.right⟩
def zE.insN(s:zE)(u:zV):Nat->zE
 |0=>s
 |n+1=>(s.ins u).insN u.next n
structure zc7(s:zE)(prev:Nat)(v:zV):Prop where
 pl:prev<s.l.length
 lf0:s.lf prev= []
 rt0:s.rt prev= []
 left:v.left=s.uid prev
 right:v.right=zT\/∃r,s.find v.right=some r/\s.place prev<s.place r
theorem zoo{x:zF}(h:x.rightB=true):x≠zT:=fun e=>by subst e;simp[zF.rightB,xi,zT] at h
theorem zE.Wf.find_zero{s:zE}(c:s.Wf):s.find zT=none:=by rw[zE.find_none];intro b a;exact zoo (c.right b a)
theorem zc7.facts{s:zE}(b:s.Wf){f:Nat}{v:zV}(c:zc7 s f v):s.find v.left=some f/\s.lpar v=none:=by
 have j:s.find v.left=some f:=by rw[c.left];exact b.find_some.2 ⟨c.pl,rfl⟩
 refine⟨j,?_⟩;unfold zE.lpar;rcases c.right with m|⟨d,h,_⟩
 ·rw[m,b.find_zero]
 ·rw[h,j];have i:=(b.find_some.1 h).1;dsimp only;rw[zN];intro g;obtain⟨_,n,_,k,_⟩:=b.has_walk c.pl;have e:=(b.below_iff k c.pl d i).2 (.inr g);have l:=k.det (zf0 c.lf0 c.rt0);rw[l] at e;simp at e;subst e;have:=b.anc_lt d d i g;omega
theorem zc7.step{s:zE}(g:s.Wf){b:Nat}{v:zV}(c:zc7 s b v)(F:v.id.rightB=true)(E:s.find v.id=none):
 ∃e d,s.order=e++b::d/\(s.ins v).order=e++b::s.l.length::d/\(s.ins v).Wf/\qf s (s.ins v) v (some b)/\(s.ins v).more=s.more/\
  (∀f,(s.ins v).nd f=if f=s.l.length then⟨v,some b,[],[]⟩ else if f=b then⟨(s.nd b).u,(s.nd b).par,[],[s.l.length]⟩ else s.nd f)/\zc7 (s.ins v) s.l.length v.next:=by
 obtain⟨z,u⟩:=c.facts g
 obtain⟨e,I,L,d,M,K,n,o,m,i,t⟩:=zE.ins_right g u z F E
 rw[c.rt0] at t
 have l:=t.nil_inv
 obtain⟨rfl,rfl⟩:=zhm.1 l
 have p:s.ins v= .reord (s.l.set b ⟨(s.nd b).u,(s.nd b).par,s.lf b,(xM s v (s.rt b)).1++s.l.length::(xM s v (s.rt b)).2⟩++[⟨v,some b,[],[]⟩]) s.more:=by unfold zE.ins;rw[u,z]
 rw[c.rt0,c.lf0] at p
 have D:∀f,(s.ins v).nd f=if f=s.l.length then⟨v,some b,[],[]⟩ else if f=b then⟨(s.nd b).u,(s.nd b).par,[],[s.l.length]⟩ else s.nd f:=by intro f;rw[p];unfold zE.reord;rw[zdq,zcK,zfz _ _ _ _ _ _ c.pl];rfl
 have N:=c.pl
 refine⟨e,d,by simpa using n,by simpa using o,m,i,by rw[p];rfl,D,?_⟩
 constructor
 ·rw[i.len];omega
 ·exact i.newl
 ·exact i.newr
 ·unfold zE.uid;rw[i.newu];rfl
 ·rcases c.right with l|⟨h,r,J⟩
  ·exact .inl l
  ·have x:=(g.find_some.1 r).1;refine .inr ⟨h,m.find_some.2 ⟨by rw[i.len];omega,?_⟩,?_⟩
   ·unfold zE.uid;rw[i.uE h x];exact(g.find_some.1 r).2
   ·have B:=g.place_mid (A:=e) (B:=d) (k:=b) (by simpa using n);have A:=(g.mem h).2 x;have w:s.order=e++b::d:=(by simpa using n);rw[w] at A;have H:h∈d:=by
     rcases xX.1 A with j|j
     ·obtain⟨G,C,rfl⟩:=zfn j;have:=g.place_mid (A:=G) (B:=C++b::d) (k:=h) (by rw[w];simp);simp at B;omega
     ·rcases xK.1 j with l|j
      ·subst l;omega
      ·exact j
    obtain⟨q,y,rfl⟩:=zfn H;rw[m.place_mid (A:=e++[b]) (B:=q++h::y) (k:=s.l.length) (by rw[o];simp),m.place_mid (A:=e++b::s.l.length::q) (B:=y) (k:=h) (by rw[o];simp)];simp<;> omega
structure zaw(s:zE)(prev:Nat)(v:zV)(n:Nat)(s':zE):Prop where
 wf:s'.Wf
 len:s'.l.length=s.l.length+n
 ord:∀A B,s.order=A++prev::B->s'.order=A++prev::(List.range' s.l.length n++B)
 more:s'.more=s.more
 old:∀x,x<s.l.length->x≠prev->s'.nd x=s.nd x
 pv:s'.nd prev=⟨(s.nd prev).u,(s.nd prev).par,[],if n=0 then[] else[s.l.length]⟩
 new:∀i,i<n->s'.nd (s.l.length+i)=⟨⟨⟨v.id.c,v.id.k+i⟩,if i=0 then v.left else⟨v.id.c,v.id.k+i - 1⟩,v.right⟩,some (if i=0 then prev else s.l.length+i - 1),[],if i+1<n then[s.l.length+i+1] else[]⟩
 szo:∀x,x<s.l.length->s'.sz x=s.sz x+(if x=prev\/x∈s.anc prev then n else 0)
 szn:∀i,i<n->s'.sz (s.l.length+i)=n - i
theorem zk8{A B A' B':List Nat}{k:Nat}(b:(A++k::B).Nodup)(e:A++k::B=A'++k::B'):A=A'/\B=B':=by
 have c:=zk7 b;have d:(A'++k::B').Nodup:=by rw[<-e];exact b
 have f:=zk7 d;rw[e,f] at c;have a:=List.append_inj e c.symm;exact⟨a.1,by injection a.2⟩
theorem zE.insN_spec:∀(n:Nat) (s:zE) (b:Nat) (v:zV),s.Wf->zc7 s b v->(∀i:Nat,i<n->(⟨v.id.c,v.id.k+i⟩:zF).rightB=true/\s.find ⟨v.id.c,v.id.k+i⟩=none)->zaw s b v n (s.insN v n)
 |0,s,b,v,h,c,_=>{
  wf:=h
  len:=rfl
  ord:=fun B w d=>by simpa[zE.insN] using d
  more:=rfl
  old:=fun _ _ _=>rfl
  pv:=by show s.nd b=_;have l:=c.lf0;have q:=c.rt0;unfold zE.lf at l;unfold zE.rt at q;rw[zP rfl];cases hs:s.nd b;rw[hs] at l q;dsimp only at l q ⊢;rw[l,q]
  new:=fun i o=>absurd o (jN _)
  szo:=fun e _=>by simp[zE.insN]
  szn:=fun i o=>absurd o (jN _)}
 |n+1,s,b,v,h,c,x=>by
  have t:=x 0 oa;have J:(⟨v.id.c,v.id.k+((0:Nat):Int)⟩:zF)=v.id:=by cases v.id;simp
  rw[J] at t;obtain⟨B,w,u,K,r,g,G,hnd,H⟩:=c.step h t.1 t.2;have A:=c.pl;have C:∀e,e<s.l.length->(s.ins v).uid e=s.uid e:=fun e m=>by unfold zE.uid;rw[g.uE e m]
  have D:(s.ins v).uid s.l.length=v.id:=by unfold zE.uid;rw[g.newu]
  have f:=zE.insN_spec n (s.ins v) s.l.length v.next r H fun i o=>by
   have l:=x (i+1) oa;have d:(⟨v.next.id.c,v.next.id.k+(i:Int)⟩:zF)=⟨v.id.c,v.id.k+((i+1:Nat):Int)⟩:=(by simp[zV.next];omega);rw[d];refine⟨l.1,?_⟩;rw[zE.find_none] at *;intro k p;rw[g.len] at p;by_cases F:k=s.l.length
   ·subst F;rw[D];intro d;have:=congrArg zF.k d;simp at this;omega
   ·rw[C k oa];exact l.2 k oa
  have hlen:=g.len;have z:=g.sz h r;have hanc:(s.ins v).anc s.l.length=b::s.anc b:=by
   rw[r.anc_eq oa,g.newp];dsimp only;have I:∀k,k<s.l.length->(s.ins v).anc k=s.anc k:=by
    intro k;induction k using Nat.strongRecOn with
    |ind k L=>
     intro p;rw[h.anc_eq p,r.anc_eq oa,g.parE k p];cases hp:(s.nd k).par with
     |none=>rfl
     |some y=>have:=h.parlt k y p hp;dsimp only;rw[L y this oa]
   rw[I b A]
  have O:b ∉ s.anc b:=fun d=>by have:=h.anc_lt b b A d;omega
  show zaw s b v (n+1) ((s.ins v).insN v.next n);exact {
   wf:=f.wf
   len:=by rw[f.len,hlen];omega
   ord:=fun N M d=>by obtain⟨rfl,rfl⟩:=zk8 (by have:=h.nodup;rw[u] at this;exact this) (u.symm.trans d);rw[f.ord (B++[b]) w (by rw[K];simp),hlen,List.range'_succ];simp
   more:=by rw[f.more,G]
   old:=fun e m E=>by rw[f.old e oa oa,hnd,zN oa,zN E]
   pv:=by rw[f.old b oa oa,hnd,zN oa,zP rfl,zN oa]
   new:=fun i o=>by
    cases i with
    |zero=>
     have:=f.pv;simp only[jD];rw[this,g.newu,g.newp];simp only[hlen];cases hv:v with
     |mk id left right=>
      cases id;simp;cases n<;> simp<;> try omega
    |succ i=>
     have:=f.new i oa;rw[hlen] at this;rw[show s.l.length+(i+1)=s.l.length+1+i by omega,this];simp only[zV.next,zcW.mk.injEq,zV.mk.injEq,zF.mk.injEq,zfc,jC];refine⟨⟨oa,?_⟩,?_,?_⟩
     ·by_cases j:i=0
      ·subst j;simp;try (cases v.id;rfl)
      ·simp[j]<;> omega
     ·by_cases j:i=0
      ·subst j;simp
      ·simp[j]<;> omega
     ·by_cases j:i+1<n
      ·simp[j]<;> omega
      ·simp[j]
   szo:=fun e m=>by
    rw[f.szo e oa,hanc,z.2 e m];by_cases d:e=b
    ·subst d;simp[zkA m];omega
    ·by_cases e2:e∈s.anc b
     ·have e':¬b=e:=fun e'=>d e'.symm;simp[d,e2,e',zkA m]<;> omega
     ·have e':¬b=e:=fun e'=>d e'.symm;simp[d,e2,e',zkA m]
   szn:=fun i o=>by
    cases i with
    |zero=>
     rw[jD,f.szo _ oa,z.1];simp;omega
    |succ i=>
     have:=f.szn i oa;rw[hlen] at this;rw[show s.l.length+(i+1)=s.l.length+1+i by omega,this];omega}
theorem zE.ins_between {s:zE}(a:s.Wf){u:zV}{A B:List Nat}(t:s.order=A++B) (L:u.id.rightB=true) (K:s.find u.id=none)
 (y:(u.left=zT/\A= [])\/∃f c,A=f++[c]/\s.uid c=u.left) (C:(u.right=zT/\B= [])\/∃d e,B=d::e/\s.uid d=u.right):
 s.may u=true/\(s.ins u).order=A++s.l.length::B:=by
 have n:∀J,J∈A++B->J<s.l.length:=fun J ap=>(a.mem J).1 (by rw[t];exact ap);have E:=a.nodup;rw[t] at E;have I:=a.find_zero;refine⟨?_,?_⟩
 ·refine zE.may_iff.2 ⟨L,K,?_,?_,?_⟩
  ·rcases y with⟨b,_⟩|⟨f,c,rfl,b⟩
   ·simp[zE.named,b]
   ·simp[zE.named,a.find_some.2 ⟨n c oh,b⟩]
  ·rcases C with⟨b,_⟩|⟨d,e,rfl,b⟩
   ·simp[zE.named,b]
   ·simp[zE.named,a.find_some.2 ⟨n d oh,b⟩]
  ·intro ad ab p j;rcases y with⟨b,_⟩|⟨f,c,rfl,b⟩
   ·unfold zE.findP at p;rw[b,I] at p;cases p
   ·rcases C with⟨g,_⟩|⟨d,e,rfl,g⟩
    ·unfold zE.findP at j;rw[g,I] at j;cases j
    ·unfold zE.findP at p j;rw[a.find_some.2 ⟨n c oh,b⟩] at p;rw[a.find_some.2 ⟨n d oh,g⟩] at j;simp only[zao,jC] at p j;rw[a.place_mid (A:=f) (B:=d::e) (by rw[t];simp)] at p;rw[a.place_mid (A:=f++[c]) (B:=e) (by rw[t])] at j;simp at j;omega
 ·cases hl:s.lpar u with
  |some d=>
   obtain⟨G,l,m,H,V,R,q,z,ac,ae⟩:=zE.ins_left a hl L K;have F:=zE.lpar_some hl;have M:=(a.find_some.1 F).1;have am:s.lf d=(xh s u (s.lf d)).1++(xh s u (s.lf d)).2:=(by simp[xh]);have x:=V.append R;rw[<-am] at x;have X:∃e,B=d::e:=by
    rcases C with⟨b,_⟩|⟨ag,e,rfl,b⟩
    ·rw[b,I] at F;cases F
    ·have:=a.inj ag d (n ag oh) M (by rw[b];exact(a.find_some.1 F).2.symm);subst this;exact⟨e,rfl⟩
   obtain⟨e,rfl⟩:=X;have aa:s.order=(G++(l++m))++d::H:=(by rw[q];simp);obtain⟨v,o⟩:=zk8 (A:=G++(l++m)) (B:=H) (A':=A) (B':=e) (k:=d) (by have:=a.nodup;rwa[aa] at this) (by rw[<-aa,t]);have O:l++m= []:=by
    obtain⟨_,ak,_,D,_⟩:=a.has_walk M;obtain⟨ad,ab,Z,Y,rfl⟩:=D.one_inv;obtain rfl:=x.det Z;rcases y with⟨_,rfl⟩|⟨f,c,rfl,b⟩
    ·simp at v;simp[v]
    ·apply zhG;intro N;have aj:c∈l++m:=by
      have r:(G++(l++m)).getLast?=some c:=(by rw[v];simp);rw[zhI] at r;cases h8:(l++m).getLast? with
      |none=>exact absurd (zkB.1 h8) N
      |some h=>
       rw[h8] at r;simp at r;subst r;exact List.mem_of_getLast? h8
     have w:=n c oh;have j:=(a.below_iff D M c w).1 (List.mem_append_left _ aj);have an:c≠d:=fun g=>(by subst g;rw[yv] at E;exact E.2.2 c oh c oh rfl);have T:d∈s.anc c:=(by rcases j with g|g;exact absurd g an;exact g);have ai:s.find u.left=some c:=a.find_some.2 ⟨w,b⟩;unfold zE.lpar at hl;rw[F,ai] at hl;dsimp only at hl;split at hl
     ·rename_i aq;have av:=a.anc_lt c d w T;have au:=a.anc_lt d c M aq;omega
     ·cases hl
   obtain⟨rfl,rfl⟩:=zhm.1 O;rw[z,<-o];simp at v;simp[v]
  |none=>
   have al:∀c,s.find u.left=some c->∃f,A=f++[c]:=fun c i=>by
    rcases y with⟨b,_⟩|⟨f,h,rfl,b⟩
    ·rw[b,I] at i;cases i
    ·have:=a.inj h c (n h oh) (a.find_some.1 i).1 (by rw[b];exact(a.find_some.1 i).2.symm);subst this;exact⟨f,rfl⟩
   cases i:s.find u.left with
   |some c=>
    obtain⟨G,l,m,H,V,R,q,z,ac,ae,r⟩:=zE.ins_right a hl i L K;have w:=(a.find_some.1 i).1;obtain⟨f,rfl⟩:=al c i;obtain⟨v,o⟩:=zk8 (A:=G) (B:=l++(m++H)) (A':=f) (B':=B) (k:=c) (by have:=a.nodup;rwa[q] at this) (by rw[<-q,t];simp);have O:l++m= []:=by
     apply zhG;intro N;rw[<-zjV] at o;cases x:l++m with
     |nil=>exact N x
     |cons h ar=>
      rw[x] at o r;rcases C with⟨_,rfl⟩|⟨d,e,rfl,b⟩
      ·simp at o
      ·simp only[yD,zcx] at o;obtain⟨rfl,_⟩:=o;have af:=n h oh;have W:s.find u.right=some h:=a.find_some.2 ⟨af,b⟩;obtain⟨_,ak,_,D,_⟩:=a.has_walk w;obtain⟨ad,ab,Z,Y,rfl⟩:=D.one_inv;obtain rfl:=r.det Y;have j:=(a.below_iff D w h af).1 oh;have ao:h≠c:=fun g=>(by subst g;rw[yv] at E;exact E.2.2 h oh h oh rfl);have T:c∈s.anc h:=(by rcases j with g|g;exact absurd g ao;exact g);unfold zE.lpar at hl;rw[W,i] at hl;dsimp only at hl;rw[zP T] at hl;cases hl
    obtain⟨rfl,rfl⟩:=zhm.1 O;rw[z,<-o,v];simp
   |none=>
    obtain⟨l,m,V,R,q,z,ac,ae⟩:=zE.ins_root a hl i L K;have ah:A= []:=by
     rcases y with⟨_,b⟩|⟨f,h,rfl,b⟩
     ·exact b
     ·rw[a.find_some.2 ⟨n h oh,b⟩] at i;cases i
    have X:B= []:=by
     rcases C with⟨_,b⟩|⟨d,e,rfl,b⟩
     ·exact b
     ·have W:=a.find_some.2 ⟨n d oh,b⟩;unfold zE.lpar at hl;rw[W,i] at hl;cases hl
    subst ah X;rw[t] at q;obtain⟨rfl,rfl⟩:=zhm.1 q.symm;rw[z]
theorem zE.ins_nd_left{s:zE}{u:zV}{r:Nat}(d:s.lpar u=some r)(c:r<s.l.length):(∀a,(s.ins u).nd a=if a=s.l.length then⟨u,some r,[],[]⟩ else if a=r then⟨(s.nd r).u,(s.nd r).par,(xh s u (s.lf r)).1++s.l.length::(xh s u (s.lf r)).2,s.rt r⟩ else s.nd a)/\(s.ins u).more=s.more:=by
 have b:s.ins u= .reord (s.l.set r ⟨(s.nd r).u,(s.nd r).par,(xh s u (s.lf r)).1++s.l.length::(xh s u (s.lf r)).2,s.rt r⟩++[⟨u,some r,[],[]⟩]) s.more:=by unfold zE.ins;rw[d]
 refine⟨fun a=> ?_,by rw[b];rfl⟩;rw[b];unfold zE.reord;rw[zdq,zcK,zfz _ _ _ _ _ _ c];rfl
theorem zE.ins_nd_right{s:zE}{u:zV}{p:Nat}(d:s.lpar u=none)(e:s.find u.left=some p)(c:p<s.l.length):(∀a,(s.ins u).nd a=if a=s.l.length then⟨u,some p,[],[]⟩ else if a=p then⟨(s.nd p).u,(s.nd p).par,s.lf p,(xM s u (s.rt p)).1++s.l.length::(xM s u (s.rt p)).2⟩ else s.nd a)/\(s.ins u).more=s.more:=by
 have b:s.ins u= .reord (s.l.set p ⟨(s.nd p).u,(s.nd p).par,s.lf p,(xM s u (s.rt p)).1++s.l.length::(xM s u (s.rt p)).2⟩++[⟨u,some p,[],[]⟩]) s.more:=by unfold zE.ins;rw[d,e]
 refine⟨fun a=> ?_,by rw[b];rfl⟩;rw[b];unfold zE.reord;rw[zdq,zcK,zfz _ _ _ _ _ _ c];rfl
theorem zE.ins_nd_root{s:zE}{u:zV}(c:s.lpar u=none)(d:s.find u.left=none):(∀a,(s.ins u).nd a=if a=s.l.length then⟨u,none,[],[]⟩ else s.nd a)/\(s.ins u).more=(xM s u s.more).1++s.l.length::(xM s u s.more).2:=by
 have b:s.ins u= .reord (s.l++[⟨u,none,[],[]⟩]) ((xM s u s.more).1++s.l.length::(xM s u s.more).2):=by unfold zE.ins;rw[c,d]
 refine⟨fun a=> ?_,by rw[b];rfl⟩;rw[b];unfold zE.reord;rw[zdq];rfl
theorem qf.find{s b:zE}{u:zV}{n:Option Nat}(g:qf s b u n)(m:s.Wf)(i:b.Wf)(c:zF):b.find c=if c=u.id then some s.l.length else s.find c:=by
 have f:∀a,a<s.l.length->b.uid a=s.uid a:=fun a l=>by unfold zE.uid;rw[g.uE a l]
 have h:b.uid s.l.length=u.id:=by unfold zE.uid;rw[g.newu]
 by_cases e:c=u.id
 ·rw[zP e];exact i.find_some.2 ⟨oaq,by rw[h,e]⟩
 ·rw[zN e];cases hf:s.find c with
  |none=>
   rw[zE.find_none] at hf ⊢;intro d j;rw[g.len] at j;by_cases o:d=s.l.length
   ·subst o;rw[h];exact fun k=>e k.symm
   ·rw[f d oa];exact hf d oa
  |some d=>
   have:=m.find_some.1 hf;exact i.find_some.2 ⟨oaq,by rw[f d this.1];exact this.2⟩
theorem zE.Wf.anc_down{s:zE}(b:s.Wf):∀a,a<s.l.length->(s.anc a).Pairwise (· > ·):=by
 intro a;induction a using Nat.strongRecOn with
 |ind a e=>
  intro d;rw[b.anc_eq d];cases hp:(s.nd a).par with
  |none=>exact .nil
  |some c=>
   have h:=b.parlt a c d hp;dsimp only;rw[yr];exact⟨fun f g=>b.anc_lt c f oa g,e c h oa⟩
theorem qf.anc{s c:zE}{u:zV}{h:Option Nat}(g:qf s c u h)(d:s.Wf)(i:c.Wf):∀a,a<s.l.length->c.anc a=s.anc a:=by
 intro a;induction a using Nat.strongRecOn with
 |ind a f=>
  intro b;rw[d.anc_eq b,i.anc_eq oaq,g.parE a b];cases hp:(s.nd a).par with
  |none=>rfl
  |some e=>have:=d.parlt a e b hp;dsimp only;rw[f e this oa]
theorem qf.sz2{s e:zE}{u:zV}{f:Option Nat}(g:qf s e u f)(i:s.Wf)(h:e.Wf):∀c,c<s.l.length->e.sz c=s.sz c+(if c∈e.anc s.l.length then 1 else 0):=by
 intro c n;have k:c∈e.anc s.l.length↔(f=some c\/∃d,f=some d/\c∈s.anc d):=by
  rw[h.anc_eq oaq,g.newp];cases f with
  |none=>simp
  |some d=>
   dsimp only;rw[g.anc i h d (g.lt d rfl),xK];constructor
   ·rintro(b|b)
    ·exact .inl (by rw[b])
    ·exact .inr ⟨d,rfl,b⟩
   ·rintro(b|⟨o,b,l⟩)
    ·cases b;exact .inl rfl
    ·cases b;exact .inr l
 rw[(g.sz i h).2 c n];by_cases b:c∈e.anc s.l.length
 ·rw[zP b,zP (k.1 b)]
 ·rw[zN b,zN fun m=>b (k.2 m)]
def yB(p N j:Nat):Nat:=if j=0 then p else N+j - 1
theorem zaw.step{S a:zE}{p e:Nat}(c:zaw S p (S.nd p).u.next e a)(k:p<S.l.length){j:Nat}(h:j<e):
 (a.nd (S.l.length+j)).u=(a.nd (yB p S.l.length j)).u.next/\(a.nd (S.l.length+j)).par=some (yB p S.l.length j)/\a.lf (S.l.length+j)= []/\a.rt (yB p S.l.length j)= [S.l.length+j]/\a.sz (S.l.length+j)=e - j:=by
 have b:=c.new j h;have g:=c.szn j h;by_cases f:j=0
 ·subst f;have d:=c.pv;rw[show yB p S.l.length 0=p from zP rfl];refine⟨?_,?_,?_,?_,g⟩
  ·rw[b,d];simp[zV.next]
  ·rw[b];simp
  ·unfold zE.lf;rw[b]
  ·unfold zE.rt;rw[d];simp;omega
 ·have d:=c.new (j - 1) oa;have i:S.l.length+(j - 1)=S.l.length+j - 1:=oa;rw[i] at d;rw[show yB p S.l.length j=S.l.length+j - 1 from zN f];refine⟨?_,?_,?_,?_,g⟩
  ·rw[b,d];simp only[zV.next,zN f,zV.mk.injEq,zF.mk.injEq,zfc];refine⟨oa,oa,trivial⟩
  ·rw[b];simp[f]
  ·unfold zE.lf;rw[b]
  ·unfold zE.rt;rw[d];have:j - 1+1<e:=oa;simp[this];omega
theorem zaw.find{S d:zE}{p i:Nat}{v:zV}(c:zaw S p v i d)(j:S.Wf)(l:p<S.l.length)(x:zF):S.find x=match d.find x with
 |some a=>if a<S.l.length then some a else none
 |none=>none:=by
 have f:∀a,a<S.l.length->d.uid a=S.uid a:=fun a b=>by
  unfold zE.uid;by_cases e:a=p
  ·subst e;rw[c.pv]
  ·rw[c.old a b e]
 cases hf:d.find x with
 |none=>
  dsimp only;rw[zE.find_none] at hf ⊢;intro a b;rw[<-f a b];exact hf a (by rw[c.len];omega)
 |some a=>
  dsimp only;have b:=c.wf.find_some.1 hf;split
  ·rename_i g;exact j.find_some.2 ⟨g,by rw[<-f a g];exact b.2⟩
  ·rename_i g;rw[zE.find_none];intro h k e;have:=c.wf.inj h a (by rw[c.len];omega) b.1 (by rw[f h k,e,b.2]);omega
theorem aB{p:Prop}(h:p:=by(repeat(first|exact zf _ _|assumption|refine Below.alloc ?_ (by simp<;> omega) _|refine Below.drew ?_|refine zcH ?_ _|refine Below.setCell ?_ (by simp<;> omega) _|refine zK ?_ (by assumption)))):p:=h
theorem aS{p q:Prop}(k:q)(h:q->p:=by intro kk;refine zrL rfl ?_;simp only[zkE,zkF,zkG];exact kk):p:=h k
theorem aO{p q:Prop}(k:q)(h:q->p:=by intro kk;refine zrQ rfl ?_;simp only[zkE,zkF,zkG];exact kk):p:=h k
theorem aN{p q:Prop}(k:q)(h:q->p:=by intro kk;refine zrT rfl ?_;simp only[zkE,zkF,zkG];exact kk):p:=h k
theorem aM{p q:Prop}(k:q)(h:q->p:=by intro kk;simp only[xd,yl,vN,jn,vq];exact kk):p:=h k
theorem aR{p q:Prop}(k:q)(h:q->p:=by intro kk;(repeat(first|go_big_quiet_skip|(go_big_quiet_want;first|(refine zbs 66 _ _ rfl rfl l1 ?_;go_frame;go_big_quiet_on)|(go_big_quiet_op;go_big_quiet_on))));refine zfp ?_;exact kk):p:=h k
theorem aT{p q:Prop}(k:q)(h:q->p:=by intro kk;refine zrR ?_;simp only[xd,yl,zfU,vN,jn,vq];(repeat(first|go_big_quiet_skip|(go_big_quiet_want;first|(refine zbs 66 _ _ rfl rfl l1 ?_;go_frame;go_big_quiet_on)|(go_big_quiet_op;go_big_quiet_on))));refine zfp ?_;exact kk):p:=h k
theorem aW{p q:Prop}(k:q)(h:q->p:=by intro kk;refine zrW ?_;simp only[xd,yl,zfU,vN,jn,vq];(repeat(first|go_big_quiet_skip|(go_big_quiet_want;first|(refine zbs 66 _ _ rfl rfl l1 ?_;go_frame;go_big_quiet_on)|(go_big_quiet_op;go_big_quiet_on))));refine zfp ?_;exact kk):p:=h k
theorem aG{p q:Prop}(k:q)(h:q->p:=by intro kk;refine zoK (by kernel_rfl) (by kernel_rfl) ?_;exact kk):p:=h k
theorem aE{p q:Prop}(k:q)(h:q->p:=by intro kk;refine zfp ?_;intro W' hC';have hBW':=zM.of hC';revert W' hC' hBW';exact kk):p:=h k
theorem aQ{p q:Prop}(k:q)(h:q->p:=by intro kk;refine zoK (by kernel_rfl) (by kernel_rfl) ?_;(repeat(first|go_big_quiet_skip|(go_big_quiet_want;go_big_quiet_op;go_big_quiet_on)));refine zfp ?_;intro W' hC';have hBW':=zM.of hC';revert W' hC' hBW';exact kk):p:=h k
theorem aY{α:Sort _}(a:α):∃x,a=x:=⟨a,rfl⟩
theorem aL{α:Type _}{a:Array α}{i:Nat}{v:α}(b:a[i]?=some v):i<a.size:=(Array.getElem?_eq_some_iff.1 b).1
theorem aA{w:zC}{o:Obj}:Below w w (w.alloc o):=(zf _ _).alloc (zU _) _
theorem aC{w:zC}{b:Nat}{l:List Value}{T:TypeId}{u:Nat×Nat}{v:zJ}(a:w.heap[b]?=some (.cells l.toArray T u))(i:Nat)(c:l[i]?=some v:=by rfl):w.cell? (b,i)=some v:=by simp[World.cell?,a,c]
theorem aF{w W:zC}{o:Obj}(h:w.alloc o=W):Below w w W/\W.heap[w.heap.size]?=some o/\W.heap.size=w+1:=by subst h;exact⟨aA,(by show(w.heap.push o)[w.heap.size]?=some o;simp),by simp⟩
theorem aJ{w W:zC}{o p:Obj}(c:(w.alloc o).alloc p=W):Below w w W/\W.heap[w.heap.size]?=some o/\W.heap[w.heap.size+1]?=some p/\W.heap.size=w.heap.size+1+1:=by obtain⟨d,b,e⟩:=aF (rfl:w.alloc o=_);obtain⟨a,f,g⟩:=aF c;exact⟨d.trans (a.mono (by omega)),(a.block _ (by omega)).trans b,by rw[<-e];exact f,by omega⟩
theorem aK{w W:zC}{o p b:Obj}(e:((w.alloc o).alloc p).alloc b=W):Below w w W/\W.heap[w.heap.size]?=some o/\W.heap[w.heap.size+1]?=some p/\W.heap[w.heap.size+1+1]?=some b/\W.heap.size=w.heap.size+1+1+1:=by obtain⟨f,c,g,d⟩:=aJ (rfl:(w.alloc o).alloc p=_);obtain⟨a,h,i⟩:=aF e;exact⟨f.trans (a.mono (by omega)),(a.block _ (by omega)).trans c,(a.block _ (by omega)).trans g,by rw[<-d];exact h,by omega⟩
theorem aI{w:zC}{a:Addr}{v:zJ}(h:w.cell? a=some v):a.block<w:=by
 rcases qs a.block w with g|g
 ·exact g
 ·unfold World.cell? at h;simp[zcy g] at h
theorem aX{α:Sort _}(a:α):∃x,x=a:=⟨a,rfl⟩
theorem yZ{W d:World}(e:Below W.heap.size W d):(∀a b,a<W.heap.size->d.cell? ⟨a,b,none⟩=W.cell? ⟨a,b,none⟩)/\(∀a b,a<W.heap.size->d.frozen? ⟨a,b,none⟩=W.frozen? ⟨a,b,none⟩):=
 ⟨fun a b c=>e.cell (p:=(a,b)) c,fun a b c=>e.frozen (p:=(a,b)) c⟩
theorem zK{a b c:zC}(h:Below a a b)(g:Below b b c):Below a a c:=h.trans (g.mono h.size)
theorem zb7{k:IntKind}{a b:Int}(h:a=b):Ending.returned (.int k a)= .returned (.int k b):=by rw[h]
theorem vG{a b:Bool}(h:a=b):Ending.returned (.bool a)= .returned (.bool b):=by rw[h]
theorem ziy(n:Int)(w:zC):
 Calls zD 202 #[n] w fun b a=>b= .returned (.bool (xi n))/\w=a:=by
 go_enter Tryz.func202,Tryz.ntmps202;go_wp2;all_goals go_ret
 all_goals exact⟨vG (by simp[xi, *];try omega),rfl⟩
theorem zgn(x a:zF)(w:zC):
 Calls zD 192 #[.agg #[x.c,x.k],.agg #[a.c,a.k]] w fun c b=>c= .returned (.bool (x.lessB a))/\Below w w b:=by
 go_enter Tryz.func192,Tryz.ntmps192;go_wp2;all_goals go_ret
 all_goals exact⟨vG (by simp[zF.lessB, *]),aA.alloc oh _⟩
theorem zcg(x:zF)(w:zC):
 Calls zD 142 #[.agg #[x.c,x.k]] w fun b a=>b= .returned (.bool x.rightB)/\Below w w a:=by
 go_enter Tryz.func142,Tryz.ntmps142;go_wp2_with (go_at_call 202;refine(ziy _ _).mono ?_;rintro b a ⟨rfl,rfl⟩);all_goals go_ret
 all_goals exact⟨vG (by simp[zF.rightB, *]),aA⟩
theorem ziz(x:zO)(w:zC):
 Calls zD 177 #[.agg #[x.c,x.a,x.b]] w fun b a=>b= .returned (.bool x.rightB)/\Below w w a:=by
 go_enter Tryz.func177,Tryz.ntmps177;go_wp2_with (go_at_call 202;refine(ziy _ _).mono ?_;rintro b a ⟨rfl,rfl⟩);all_goals go_ret
 all_goals exact⟨vG (by simp[zO.rightB, *];try omega),aA⟩
theorem zgo(f:Nat)(w:zC):
 Calls zD 132 #[.float .f64 f] w fun b a=>b= .returned (.bool (qv f))/\w=a:=by
 go_enter Tryz.func132,Tryz.ntmps132;go_wp2;go_ret;exact⟨rfl,rfl⟩
theorem zfC(x a:Int)(w:zC):
 Calls zD 146 #[x,a] w fun c b=>c=(zB (jv x a))/\w=b:=by
 go_enter Tryz.func146,Tryz.ntmps146;go_wp2_with go_in;all_goals go_ret
 all_goals exact⟨zb7 (by simp[jv];omega),rfl⟩
theorem zsM(x:zO)(i:zF)(b:Nat)(w:zC)(e:w.cell? b=i.c)(h:w.cell? (b,1)=i.k)(j:b<w):
 Calls Tryz.prog 213 #[.agg #[.int .u64 x.c,.int .u64 x.a,.int .u64 x.b],.pointer (some ⟨b,0,none⟩)] w fun c a=>c= .returned (.bool (x.hasB i))/\Below w.heap.size w a:=by
 have g:b<w.heap.size+1:=oa;go_enter Tryz.func213,Tryz.ntmps213;go_wp2_with (go_at_call 177;refine(ziz _ _).mono ?_;rintro c a ⟨rfl,d⟩;obtain⟨k,f⟩:=yZ d);all_goals go_ret
 all_goals exact⟨vG (by simp[zO.hasB, *];try omega),aB⟩
end Go.Proofs.YtimlgcodecgecaaGreatDoor
