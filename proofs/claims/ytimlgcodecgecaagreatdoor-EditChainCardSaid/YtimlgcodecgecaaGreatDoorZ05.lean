/- Turns in their normal form are told by the ids' turns; the reference's sweep over edges: plain law. -/
import Derived.Test.YtimlgcodecgecaaGreatDoorZ04
import Derived.Shelf.SlSortCmp.KitK
set_option maxRecDepth 100000
set_option maxHeartbeats 20000000
set_option linter.all false
namespace Go.Proofs.YtimlgcodecgecaaGreatDoor
open Go.RowKit Go.Lib
theorem zbz:∀{l:List zL}{i:zF},zd l i≠0->∃a∈l,a.hasB i=true/\zd l i=a.n
 | [],_,c=>absurd rfl c
 |a::l,i,c=>by
  by_cases b:a.hasB i=true
  ·by_cases j:zd l i<=a.n
   ·exact⟨a,oh,b,by simp only[zd,zP b];omega⟩
   ·have:zd l i≠0:=(by have h:a.rightB=true:=(by simp[zL.hasB] at b;exact b.1.1.1);have:=yK h;omega);obtain⟨g,f,e,d⟩:=zbz this;exact⟨g,obt,e,by simp only[zd,zP b];omega⟩
  ·have k:=jH l i;have d:zd (a::l) i=zd l i:=(by simp only[zd,zN b];omega);rw[d] at c ⊢;obtain⟨g,f,e,d⟩:=zbz c;exact⟨g,obt,e,d⟩
theorem yM.tail{x:zL}{l:List zL}(a:yM (x::l)):yM l:=⟨fun b c=>a.1 b (zdd _ c),(yr.1 a.2).2⟩
theorem yM.behind{x:zL}{l:List zL}(a:yM (x::l)){t:zL}(b:t∈l){i:zF}(c:x.hasB i=true):t.hasB i=false:=by
 have e:=(yr.1 a.2).1 t b;have d:=(yh (a.1 x oh) i).1 c;cases hb:t.hasB i
 ·rfl
 ·have f:=(yh (a.1 t jA) i).1 hb;omega
theorem yM.tailOf{x:zL}{l:List zL}(b:yM (x::l))(i:zF):zd l i=if x.hasB i=true then 0 else zd (x::l) i:=by
 have e:=jH l i;by_cases a:x.hasB i=true
 ·rw[zP a];exact vW fun d c=>b.behind c a
 ·rw[zN a];simp only[zd,zN a];omega
theorem yM.headOf{x:zL}{l:List zL}(a:yM (x::l)){i:zF}(c:x.hasB i=true):zd (x::l) i=x.n:=by have b:=a.tailOf i;rw[zP c] at b;have:=yK (a.1 x oh);simp only[zd,zP c,b];omega
theorem yM.memOf:∀{l:List zL}(_:yM l){t:zL}(_:t∈l){i:zF}(_:t.hasB i=true),zd l i=t.n
 | [],_,_,a,_,_=>by cases a
 |f::l,a,t,c,i,b=>by
  rcases xK.1 c with rfl|c
  ·exact a.headOf b
  ·have g:=a.tail.memOf c b;have e:=a.tailOf i;by_cases d:f.hasB i=true
   ·rw[a.behind c d] at b;cases b
   ·rw[zN d] at e;omega
theorem yM.lead{x:zL}{l:List zL}(b:yM (x::l)){i:zF}(e:zd (x::l) i≠0):x.c<i.c\/(x.c=i.c/\x.a<=i.k):=by
 obtain⟨c,a,d,_⟩:=zbz e;have f:=(yh (b.1 c a) i).1 d;rcases xK.1 a with rfl|a
 ·omega
 ·have g:=(yr.1 b.2).1 c a;have h:=yK (b.1 x oh);omega
theorem ziF{x:zL}(h:x.rightB=true):x.hasB ⟨x.c,x.a⟩=true:=(yh h _).2 ⟨rfl,qj _,(yK h).2.2.2.1⟩
theorem zpG{x a:zL}{l m:List zL}(f:yM (x::l))(c:yM (a::m))(n:∀e,zd (x::l) e=zd (a::m) e)(j:x.c=a.c)(p:x.a=a.a)(t:x.n=a.n):a.b<=x.b:=by
 rcases zhA x.b a.b with d|d
 ·exfalso;have u:=yK (f.1 x oh);have r:=yK (c.1 a oh);have o:a.hasB ⟨x.c,x.b⟩=true:=(yh (c.1 a oh) _).2 ⟨j.symm,by show a.a<=x.b;omega,d⟩;have k:=c.headOf o;rw[<-n] at k;obtain⟨g,b,h,s⟩:=zbz (l:=x::l) (i:=⟨x.c,x.b⟩) oa;have i:=(yh (f.1 g b) _).1 h;simp only at i;rcases xK.1 b with rfl|b
  ·omega
  ·have q:=(yr.1 f.2).1 g b;omega
 ·exact d
theorem zf5:∀{l m:List zL}(_:yM l) (_:yM m) (_:∀i,zd l i=zd m i),l=m
 | [],[],_,_,_=>rfl
 | [],c::m,_,d,e=>by have h:=d.headOf (ziF (d.1 c oh));have:=yK (d.1 c oh);rw[<-e] at h;simp only[zd] at h;omega
 |b::l,[],a,_,e=>by have h:=a.headOf (ziF (a.1 b oh));have:=yK (a.1 b oh);rw[e] at h;simp only[zd] at h;omega
 |b::l,c::m,a,d,e=>by
  have u:=yK (a.1 b oh);have t:=yK (d.1 c oh);have n:=a.headOf (ziF (a.1 b oh));have k:=d.headOf (ziF (d.1 c oh));have q:=d.lead (i:=⟨b.c,b.a⟩) (by rw[<-e,n];omega);have o:=a.lead (i:=⟨c.c,c.a⟩) (by rw[e,k];omega);simp only at q o;have g:b.c=c.c:=oa;have f:b.a=c.a:=oa;have j:b.n=c.n:=by rw[<-n,<-k,g,f,e]
  have r:=zpG a d e g f j;have s:=zpG d a (fun i=>(e i).symm) g.symm f.symm j.symm;have p:b=c:=by cases b;cases c;simp only at g f j r s;subst g f j;congr;omega
  subst p;refine congrArg _ (zf5 a.tail d.tail fun i=> ?_);rw[a.tailOf i,d.tailOf i,e i]
def yj:List Int->Int->List Int
 | [],n=> [n]
 |x::l,n=>if x<n then x::yj l n else if x=n then x::l else n::x::l
theorem zew:∀(l:List Int) (n x:Int),x∈yj l n↔x=n\/x∈l
 | [],n,x=>by simp[yj]
 |y::l,n,x=>by
  unfold yj;have:=zew l n x;split
  ·simp only[xK,this];grind
  ·split
   ·rename_i h;subst h;simp
   ·simp
theorem zf6:∀(l:List Int) (n:Int),l.Pairwise (·<·)->(yj l n).Pairwise (·<·)
 | [],n,_=>by simp[yj]
 |f::l,n,c=>by
  unfold yj;have d:=yr.1 c;have e:=zf6 l n d.2;split
  ·refine yr.2 ⟨fun b a=> ?_,e⟩;rcases(zew l n b).1 a with rfl|a
   ·assumption
   ·exact d.1 b a
  ·split
   ·exact c
   ·refine yr.2 ⟨fun b a=> ?_,c⟩;rcases xK.1 a with rfl|a
    ·omega
    ·have:=d.1 b a;omega
theorem zf7(l:List Int)(n:Int):(yj l n).length<=l.length+1:=by
 induction l with
 |nil=>simp[yj]
 |cons a l b=>
  unfold yj;split
  ·simp;omega
  ·split
   ·simp
   ·simp
def vX(c:Int)(a:List Int)(t:zL):List Int:=if t.rightB && decide (t.c=c) then yj (yj a t.a) t.b else a
def yR(l:List zL)(c:Int):List Int:=l.foldl (vX c) []
def vY(a:List Int)(t:zL):List Int:=if t.rightB then yj a t.c else a
def qo(l:List zL):List Int:=l.foldl vY []
theorem zlL(c:Int):∀(l:List zL) (d:List Int),d.Pairwise (·<·)->(l.foldl (vX c) d).Pairwise (·<·)/\∀b,b∈l.foldl (vX c) d↔b∈d\/∃a∈l,a.rightB=true/\a.c=c/\(b=a.a\/b=a.b)
 | [],d,f=>⟨f,oh⟩
 |a::l,d,f=>by
  simp only[yu];have h:(vX c d a).Pairwise (·<·)/\∀b,b∈vX c d a↔b∈d\/(a.rightB=true/\a.c=c/\(b=a.a\/b=a.b)):=by
   unfold vX;by_cases e:(a.rightB && decide (a.c=c))=true
   ·rw[zP e];simp only[xr,xW] at e;refine⟨zf6 _ _ (zf6 _ _ f),fun b=> ?_⟩;rw[zew,zew];grind
   ·rw[zN e];simp only[xr,xW] at e;refine⟨f,fun b=> ?_⟩;grind
  have g:=zlL c l _ h.1;refine⟨g.1,fun b=> ?_⟩;rw[g.2,h.2];simp only[xK];grind
theorem zwU(l:List zL)(c:Int):(yR l c).Pairwise (·<·):=(zlL c l [] List.Pairwise.nil).1
theorem zdA(l:List zL)(c x:Int):x∈yR l c↔∃t∈l,t.rightB=true/\t.c=c/\(x=t.a\/x=t.b):=by have:=(zlL c l [] List.Pairwise.nil).2 x;simpa[yR] using this
theorem zlM:∀(l:List zL) (b:List Int),b.Pairwise (·<·)->(l.foldl vY b).Pairwise (·<·)/\∀a,a∈l.foldl vY b↔a∈b\/∃c∈l,c.rightB=true/\c.c=a
 | [],b,d=>⟨d,oh⟩
 |c::l,b,d=>by
  simp only[yu];have g:(vY b c).Pairwise (·<·)/\∀a,a∈vY b c↔a∈b\/(c.rightB=true/\c.c=a):=by
   unfold vY;by_cases f:c.rightB=true
   ·rw[zP f];refine⟨zf6 _ _ d,fun a=> ?_⟩;rw[zew];grind
   ·rw[zN f];refine⟨d,fun a=> ?_⟩;grind
  have e:=zlM l _ g.1;refine⟨e.1,fun a=> ?_⟩;rw[e.2,g.2];simp only[xK];grind
theorem zwV(l:List zL):(qo l).Pairwise (·<·):=(zlM l [] List.Pairwise.nil).1
theorem ziG(l:List zL)(x:Int):x∈qo l↔∃t∈l,t.rightB=true/\t.c=x:=by have:=(zlM l [] List.Pairwise.nil).2 x;simpa[qo] using this
def zaf(a b:List zL)(c:Int)(e:List zL)(d e2:Int):List zL:=if zd a ⟨c,d⟩<=zd b ⟨c,d⟩ then e else yt e ⟨c,d,e2,zd a ⟨c,d⟩⟩
def zag(a b:List zL)(c:Int):List zL->List Int->List zL
 |d,e::e2::es=>zag a b c (zaf a b c d e e2) (e2::es)
 |d,_=>d
def zz(a b:List zL):List zL:=(qo a).foldl (fun d c=>zag a b c d (yR (a++b) c)) []
def zbR(a b:List zL)(i:zF):Int:=if zd b i<zd a i then zd a i else 0
structure AbI(a b:List zL)(c e:Int)(out:List zL):Prop where
 norm:yM out
 bound:∀x∈out,x.c<c\/(x.c=c/\x.b<=e)
 done:∀i:zF,(i.c<c\/(i.c=c/\i.k<e))->zd out i=zbR a b i
theorem zwW{l:List zL}{c e k:Int}(f:∀a∈l,a.rightB=true->a.c=c->¬(e<a.a/\a.a<=k)/\¬(e<a.b/\a.b<=k))(j:e<=k):zd l ⟨c,k⟩=zd l ⟨c,e⟩:=by
 induction l with
 |nil=>rfl
 |cons a l d=>
  have d:=d fun h g=>f h (by simp[g]);have:a.hasB ⟨c,k⟩=a.hasB ⟨c,e⟩:=by
   rw[zaK];by_cases b:a.rightB=true
   ·rw[yh b,yh b];simp only;by_cases i:a.c=c
    ·have:=f a oh b i;have:=yK b;omega
    ·omega
   ·simp[zL.hasB,b]
  simp only[zd,this,d]
theorem AbI.step {a b:List zL}{c e e2:Int}{u:List zL}(g:AbI a b c e u) (K:e<e2) (F:1<=c/\c<=9007199254740991) (L:1<=e/\e2<=9007199254740992)
 (q:∀m∈yR (a++b) c,¬(e<m/\m<e2)):AbI a b c e2 (zaf a b c u e e2):=by
 have w:∀n,e<=n->n<e2->zd a ⟨c,n⟩=zd a ⟨c,e⟩/\zd b ⟨c,n⟩=zd b ⟨c,e⟩:=fun n h j=>by
  constructor<;> refine zwW (fun f i k p=> ?_) h
  ·have E:=q f.a ((zdA _ _ _).2 ⟨f,by simp[i],k,p,.inl rfl⟩);have C:=q f.b ((zdA _ _ _).2 ⟨f,by simp[i],k,p,.inr rfl⟩);omega
  ·have E:=q f.a ((zdA _ _ _).2 ⟨f,by simp[i],k,p,.inl rfl⟩);have C:=q f.b ((zdA _ _ _).2 ⟨f,by simp[i],k,p,.inr rfl⟩);omega
 have x:∀d:zF,d.c=c->e<=d.k->zd u d=0:=fun d h j=>vW fun f i=>by
  have r:=g.bound f i;cases o:f.hasB d
  ·rfl
  ·have:=(yh (g.norm.1 f i) d).1 o;omega
 unfold zaf;by_cases r:zd a ⟨c,e⟩<=zd b ⟨c,e⟩
 ·rw[zP r];refine⟨g.norm,fun m v=> ?_,fun d y=> ?_⟩
  ·have:=g.bound m v;omega
  ·by_cases h:d.c=c/\e<=d.k
   ·rw[x d h.1 h.2];obtain⟨I,A⟩:=d;obtain⟨rfl,j⟩:=h;simp only at j y;have:=w A j oa;unfold zbR;rw[this.1,this.2,zN oa]
   ·exact g.done d oa
 ·rw[zN r];have H:1<=zd a ⟨c,e⟩:=by have:=jH b ⟨c,e⟩;omega
  obtain⟨f,i,o,G⟩:=zbz (l:=a) (i:=⟨c,e⟩) oa;have B:f.rightB=true:=by simp[zL.hasB] at o;exact o.1.1.1
  have J:=yK B;have k:(⟨c,e,e2,zd a ⟨c,e⟩⟩:zL).rightB=true:=by simp[zL.rightB,zO.rightB,xi];omega
  refine⟨zpC g.norm k g.bound,zpD c e2 rfl rfl (fun m v=>by have:=g.bound m v;omega),fun d y=> ?_⟩;rw[zpE g.norm k,zev _ _ k];simp only;by_cases h:d.c=c/\e<=d.k
  ·rw[x d h.1 h.2];obtain⟨t,j⟩:=h;have s:d.k<e2:=oa;have D:zd a d=zd a ⟨c,e⟩:=(by have:=(w d.k j s).1;rw[<-t] at this ⊢;exact this);have z:zd b d=zd b ⟨c,e⟩:=(by have:=(w d.k j s).2;rw[<-t] at this ⊢;exact this);rw[zP ⟨t.symm,j,s⟩];unfold zbR;rw[D,z,zP oa];omega
  ·rw[zN oa,g.done d oa];have:=jH a d;unfold zbR;split<;> omega
theorem AbI.all{a b:List zL}{c:Int}(o:1<=c/\c<=9007199254740991):∀(h:List Int) (e:Int) (i:List zL),AbI a b c e i->(e::h).Pairwise (·<·)->1<=e->(∀d∈h,d<=9007199254740992)->(∀d∈yR (a++b) c,d<=e\/d∈h)->
 ∃p,AbI a b c p (zag a b c i (e::h))/\∀d∈yR (a++b) c,d<=p
 | [],e,i,l,_,_,_,j=>⟨e,by unfold zag;exact l,fun d g=>(j d g).resolve_right oh⟩
 |k::h,e,i,l,t,s,n,j=>by
  have m:=yr.1 t;have r:=m.1 k oh;have q:=yr.1 m.2;unfold zag;refine AbI.all o h k _ (l.step r o ⟨s,n k oh⟩ fun d g=> ?_) m.2 oa (fun d g=>n d (by simp[g])) fun d g=> ?_
  ·rcases j d g with f|f
   ·omega
   ·rcases xK.1 f with rfl|f
    ·omega
    ·have:=q.1 d f;omega
  ·rcases j d g with f|f
   ·exact .inl oa
   ·rcases xK.1 f with rfl|f
    ·exact .inl (qj _)
    ·exact .inr f
structure AbC(a b:List zL)(f:Int->Prop)(out:List zL):Prop where
 norm:yM out
 bound:∀x∈out,f x.c
 done:∀i:zF,f i.c->zd out i=zbR a b i
theorem zwX{a b:List zL}{c m:Int}{q:List zL}(l:AbC a b (fun e=>e<m) q)(O:m<=c)(D:c∈qo a)(H:∀e∈qo a,m<=e->c<=e):
 AbC a b (fun e=>e<c+1) (zag a b c q (yR (a++b) c)):=by
 obtain⟨i,k,w,G⟩:=(ziG a c).1 D;have h:=yK w;have z:∀e∈yR (a++b) c,1<=e/\e<=9007199254740992:=fun e f=>by obtain⟨g,_,j,_,f⟩:=(zdA _ _ _).1 f;have:=yK j;omega
 have B:i.a∈yR (a++b) c:=(zdA _ _ _).2 ⟨i,by simp[k],w,G,.inl rfl⟩;have u:=zwU (a++b) c;obtain⟨n,v,o⟩:∃n v,yR (a++b) c=n::v:=by
  cases l:yR (a++b) c
  ·rw[l] at B;cases B
  ·exact⟨_,_,rfl⟩
 have J:∀e∈yR (a++b) c,n<=e:=fun e f=>by
  rw[o] at f u;rcases xK.1 f with rfl|f
  ·exact qj _
  ·have:=(yr.1 u).1 e f;omega
 have F:∀d:zF,m<=d.c->zd q d=0:=fun d p=>vW fun i k=>by
  have r:=l.bound i k;cases h:i.hasB d
  ·rfl
  ·have:=(yh (l.norm.1 i k) d).1 h;omega
 have K:AbI a b c n q:=⟨l.norm,fun e f=>by have:=l.bound e f;omega,fun d A=>by
  by_cases E:d.c<m
  ·exact l.done d E
  ·rw[F d oa];have t:zd a d=0:=vW fun g s=>by
    cases h:g.hasB d
    ·rfl
    ·have j:g.rightB=true:=(by simp[zL.hasB] at h;exact h.1.1.1);have x:=(yh j d).1 h;have C:=H g.c ((ziG a g.c).2 ⟨g,s,j,rfl⟩) oa;have y:=J g.a ∘ fun r=>(zdA (a++b) c g.a).2 ⟨g,by simp[s],j,r,.inl rfl⟩;have N:n<=g.a:=y oa;omega
   have:=jH b d;unfold zbR;rw[t,zN oa]⟩
 rw[o];obtain⟨I,p,x⟩:=K.all oa v n q (by rw[<-o];exact u) (z n (by rw[o];simp)).1 (fun e f=>(z e (by rw[o];simp[f])).2) (fun e f=>by
  rw[o] at f;rcases xK.1 f with rfl|f
  ·exact .inl (qj _)
  ·exact .inr f)
 refine⟨p.norm,fun e f=>by have:=p.bound e f;show e.c<c+1;omega,fun d A=> ?_⟩;by_cases r:d.c<c\/(d.c=c/\d.k<I)
 ·exact p.done d r
 ·have L:d.c<c+1:=A;rw[vW fun i k=>by
   have M:=p.bound i k;cases h:i.hasB d
   ·rfl
   ·have:=(yh (p.norm.1 i k) d).1 h;omega]
  have t:zd a d=0:=vW fun g s=>by
   cases h:g.hasB d
   ·rfl
   ·have j:g.rightB=true:=(by simp[zL.hasB] at h;exact h.1.1.1);have C:=(yh j d).1 h;have y:=x g.b ((zdA _ _ _).2 ⟨g,by simp[s],j,oa,.inr rfl⟩);omega
  have:=jH b d;unfold zbR;rw[t,zN oa]
theorem zpH(a b:List zL):∀(i:List Int) (m:Int) (e:List zL),AbC a b (fun c=>c<m) e->i.Pairwise (·<·)->(∀c∈i,m<=c/\c∈qo a)->(∀c∈qo a,m<=c->c∈i)->
 AbC a b (fun _=>True) (i.foldl (fun e d=>zag a b d e (yR (a++b) d)) e)
 | [],m,e,g,_,_,n=>⟨g.norm,fun _ _=>trivial,fun f _=>by
   by_cases j:f.c<m
   ·exact g.done f j
   ·rw[show(([]:List Int).foldl (fun e d=>zag a b d e (yR (a++b) d)) e)=e from rfl,vW fun o q=>by
     have x:=g.bound o q;cases hb:o.hasB f
     ·rfl
     ·have:=(yh (g.norm.1 o q) f).1 hb;omega]
    have s:zd a f=0:=vW fun k t=>by
     cases hb:k.hasB f
     ·rfl
     ·have r:k.rightB=true:=(by simp[zL.hasB] at hb;exact hb.1.1.1);have w:=(yh r f).1 hb;have:=n k.c ((ziG a k.c).2 ⟨k,t,r,rfl⟩) oa;cases this
    have:=jH b f;unfold zbR;rw[s,zN oa]⟩
 |d::i,m,e,g,v,l,n=>by
  have p:=yr.1 v;simp only[yu];refine zpH a b i (d+1) _ (zwX g (l d oh).1 (l d oh).2 fun c h u=> ?_) p.2 (fun c h=>⟨by have:=p.1 c h;omega,(l c (by simp[h])).2⟩) fun c h y=> ?_
  ·rcases xK.1 (n c h u) with rfl|j
   ·exact qj _
   ·have:=p.1 c j;omega
  ·have z:=(l d oh).1;rcases xK.1 (n c h oa) with rfl|j
   ·omega
   ·exact j
theorem zwY(a b:List zL):yM (zz a b)/\∀c,zd (zz a b) c=zbR a b c:=by
 have g:AbC a b (fun d=>d<0) []:=⟨⟨oh,List.Pairwise.nil⟩,oh,fun c j=>by
  have g:zd a c=0:=vW fun h _=>by
   cases hb:h.hasB c
   ·rfl
   ·have f:h.rightB=true:=(by simp[zL.hasB] at hb;exact hb.1.1.1);have k:=(yh f c).1 hb;have:=yK f;have l:c.c<0:=j;omega
  have:=jH b c;unfold zbR;rw[g,zN oa];rfl⟩
 have i:=zpH a b (qo a) 0 [] g (zwV a) (fun d e=>⟨by obtain⟨h,_,f,rfl⟩:=(ziG a d).1 e;have:=yK f;omega,e⟩) (fun d e _=>e);exact⟨i.norm,fun c=>i.done c trivial⟩
theorem zah(l:List zL):yM (zz l [])/\∀i,zd (zz l []) i=zd l i:=by have h:=zwY l [];refine⟨h.1,fun i=> ?_⟩;rw[h.2];have:=jH l i;unfold zbR;simp only[zd];omega
def zE.ids(S:zE):List zF:=S.order.map S.uid
theorem zl3 {S:zE}(f:S.Wf){u:zV}{A B:List Nat}(w:S.order=A++B){n:Nat}(R:1<=n) (r:∀i:Nat,i<n->(⟨u.id.c,u.id.k+i⟩:zF).rightB=true/\S.find ⟨u.id.c,u.id.k+i⟩=none)
 (C:(u.left=zT/\A= [])\/∃I x,A=I++[x]/\S.uid x=u.left) (F:(u.right=zT/\B= [])\/∃j G,B=j::G/\S.uid j=u.right):
 S.may u=true/\(S.insN u n).Wf/\(S.insN u n).l.length=S.l.length+n/\(S.insN u n).ids=A.map S.uid++((List.range n).map (fun i:Nat=>(⟨u.id.c,u.id.k+i⟩:zF))++B.map S.uid):=by
 have e:=r 0 oa;have H:(⟨u.id.c,u.id.k+((0:Nat):Int)⟩:zF)=u.id:=oh;rw[H] at e;obtain⟨p,L⟩:=zE.ins_between f w e.1 e.2 C F;obtain⟨O,T,M,V,o,c⟩:=zE.ins_any f e.1 e.2;have J:S.l.length<(S.ins u).l.length:=by rw[c.len];omega
 have s:((S.ins u).nd S.l.length).u=u:=c.newu;have E:zc7 (S.ins u) S.l.length u.next:={
  pl:=J
  lf0:=c.newl
  rt0:=c.newr
  left:=by unfold zE.uid;rw[s];rfl
  right:=by
   obtain⟨_,_,_,hnr,_⟩:=zE.may_iff.1 p;simp only[zE.named,qx,xW] at hnr;rcases hnr with h|h
   ·exact .inl h
   ·obtain⟨j,l⟩:=zbH.1 h;refine .inr ⟨j,?_,zE.ins_ahead f p l⟩;show(S.ins u).find u.right=some j;rw[c.find f o,zN]
    ·exact l
    ·intro m;rw[m,e.2] at l;cases l}
 obtain⟨b,rfl⟩:∃b,n=b+1:=⟨n - 1,oa⟩;have g:zaw (S.ins u) S.l.length u.next b ((S.ins u).insN u.next b):=zE.insN_spec b (S.ins u) S.l.length u.next o E fun i v=>by
  have k:=r (i+1) oa;have h:(⟨u.next.id.c,u.next.id.k+(i:Int)⟩:zF)=⟨u.id.c,u.id.k+((i+1:Nat):Int)⟩:=by simp[zV.next];omega
  rw[h];refine⟨k.1,?_⟩;rw[c.find f o,zN]
  ·exact k.2
  ·intro m;have:=congrArg zF.k m;simp at this;omega
 refine⟨p,g.wf,?_,?_⟩
 ·show((S.ins u).insN u.next b).l.length=_;rw[g.len,c.len];omega
 ·show((S.ins u).insN u.next b).ids=_;unfold zE.ids;have t:∀a,a∈A++B->a<S.l.length:=fun a d=>(f.mem a).1 (by rw[w];exact d);have q:∀a,a<S.l.length->((S.ins u).insN u.next b).uid a=S.uid a:=fun a d=>by unfold zE.uid;rw[g.old a (by rw[c.len];omega) oa,c.uE a d]
  have D:((S.ins u).insN u.next b).uid S.l.length=u.id:=by unfold zE.uid;rw[g.pv,s]
  have z:∀i,i<b->((S.ins u).insN u.next b).uid ((S.ins u).l.length+i)=⟨u.id.c,u.id.k+((i+1:Nat):Int)⟩:=fun i v=>by unfold zE.uid;rw[g.new i v];simp[zV.next];omega
  rw[g.ord A B L,ym,xd,ym,D];have y:A.map ((S.ins u).insN u.next b).uid=A.map S.uid:=zbI fun a d=>q a (t a jj);have K:B.map ((S.ins u).insN u.next b).uid=B.map S.uid:=zbI fun a d=>q a (t a jj);rw[y,K];congr 1;rw[List.range_succ_eq_map,xd,jk,yD];congr 1
  ·simp
  ·congr 1;apply zhE
   ·simp
   ·intro i k N;simp only[xk,List.length_range'] at k;simp only[zjT,List.getElem_range',List.getElem_range,Function.comp,Nat.one_mul];exact z i k
def zam(T:List zL)(i:zF):Bool:=!decide (zd T i % 2=1)
def zE.shown(S:zE)(T:List zL):List zF:=S.ids.filter (zam T)
structure xp(c K:Int)(S:zE)(T:List zL):Prop where
 wf:S.Wf
 mine:∀k,k<S.l.length->(S.uid k).c=c/\(S.uid k).k<=K
 tmine:∀t∈T,t.c=c/\t.b<=K+1/\t.n=1
 norm:yM T
 kl:0<=K
theorem xp.fresh{c K:Int}{S:zE}{T:List zL}(a:xp c K S T){i:zF}(k:K<i.k):S.find i=none/\zd T i=0:=by
 constructor
 ·rw[zE.find_none];intro h f g;have:=(a.mine h f).2;rw[g] at this;omega
 ·refine vW fun b d=> ?_;have j:=a.tmine b d;have e:=yh (a.norm.1 b d) i;cases hb:b.hasB i
  ·rfl
  ·have:=e.1 hb;omega
theorem xp.ids_len{c K:Int}{S:zE}{T:List zL}(h:xp c K S T):S.ids.length=S.l.length:=by unfold zE.ids;rw[List.length_map,h.wf.len_eq]
theorem xp.ids_mem{c K:Int}{S:zE}{T:List zL}(a:xp c K S T){x:zF}(e:x∈S.ids):x.c=c/\x.k<=K/\x.rightB=true:=by unfold zE.ids at e;obtain⟨b,f,rfl⟩:=xz.1 e;have d:=(a.wf.mem b).1 f;exact⟨(a.mine b d).1,(a.mine b d).2,a.wf.right b d⟩
theorem xp.ids_nodup{c K:Int}{S:zE}{T:List zL}(a:xp c K S T):S.ids.Nodup:=by unfold zE.ids List.Nodup;rw[zeO];exact a.wf.nodup.imp_of_mem fun {d b} e f g h=>g (a.wf.inj d b ((a.wf.mem d).1 e) ((a.wf.mem b).1 f) h)
theorem xp.shown_mem{c K:Int}{S:zE}{T:List zL}(d:xp c K S T){x:zF}(b:x∈S.shown T):x.c=c/\x.k<=K/\x.rightB=true/\zd T x=0:=by unfold zE.shown at b;rw[zcu] at b;obtain⟨h,e,i⟩:=d.ids_mem b.1;refine⟨h,e,i,?_⟩;apply zhG;intro g;obtain⟨j,k,_,l⟩:=zbz g;have:=(d.tmine j k).2.2;have f:=b.2;simp[zam] at f;omega
theorem ziU{α:Type}(f:α->Bool):∀(l:List α) (p:Nat),p<=(l.filter f).length->∃a e,l=a++e/\a.filter f=(l.filter f).take p/\e.filter f=(l.filter f).drop p/\((p=0/\a= [])\/(0<p/\∃g c,a=g++[c]/\(l.filter f)[p - 1]?=some c))
 |l,0,_=>⟨[],l,rfl,oh,oh,.inl ⟨rfl,rfl⟩⟩
 | [],p+1,d=>by simp at d
 |b::l,p+1,d=>by
  by_cases h:f b=true
  ·rw[List.filter_cons_of_pos h] at d ⊢;obtain⟨a,e,n,k,j,m⟩:=ziU f l p (by simp at d;omega);refine⟨b::a,e,by rw[n];rfl,by rw[List.filter_cons_of_pos h,k];rfl,by rw[j];rfl,.inr ⟨oa,?_⟩⟩;rcases m with⟨rfl,rfl⟩|⟨s,g,c,rfl,i⟩
   ·exact⟨[],b,rfl,rfl⟩
   ·refine⟨b::g,c,rfl,?_⟩;obtain⟨o,rfl⟩:∃o,p=o+1:=⟨p - 1,oa⟩;simpa using i
  ·have r:f b=false:=(by simpa using h);rw[List.filter_cons_of_neg h] at d ⊢;obtain⟨a,e,n,k,j,m⟩:=ziU f l (p+1) d;refine⟨b::a,e,by rw[n];rfl,by rw[List.filter_cons_of_neg h,k],j,.inr ⟨oa,?_⟩⟩;rcases m with⟨q,_⟩|⟨_,g,c,rfl,i⟩
   ·omega
   ·exact⟨b::g,c,rfl,i⟩
structure qE(S:zE)(T:List zL)(p:Nat)(A B:List Nat)(l r:zF):Prop where
 ord:S.order=A++B
 ahead:(A.map S.uid).filter (zam T)=(S.shown T).take p
 behind:(B.map S.uid).filter (zam T)=(S.shown T).drop p
 left:(p=0/\l=zT/\A= [])\/(0<p/\(S.shown T)[p - 1]?=some l/\∃A' a,A=A'++[a]/\S.uid a=l)
 right:(r=zT/\B= [])\/∃b B',B=b::B'/\S.uid b=r
theorem ziV{S:zE}{T:List zL}{p:Nat}(s:p<=(S.shown T).length):∃e a y b,qE S T p e a y b:=by
 have m:∀l:List Nat,(l.map S.uid).filter (zam T)=(l.filter (fun c=>zam T (S.uid c))).map S.uid:=fun l=>by rw[zeP];rfl
 have f:S.shown T=(S.order.filter (fun c=>zam T (S.uid c))).map S.uid:=m S.order;rw[f,xk] at s;obtain⟨e,a,r,u,t,v⟩:=ziU (fun c=>zam T (S.uid c)) S.order p s;have g:∃b,(b=zT/\a= [])\/∃d i,a=d::i/\S.uid d=b:=by
  cases a with
  |nil=>exact⟨zT,.inl ⟨rfl,rfl⟩⟩
  |cons d i=>exact⟨S.uid d,.inr ⟨d,i,rfl,rfl⟩⟩
 obtain⟨b,g⟩:=g;have o:(e.map S.uid).filter (zam T)=(S.shown T).take p:=by rw[m,u,f,zhD]
 have q:(a.map S.uid).filter (zam T)=(S.shown T).drop p:=by rw[m,t,f,zfR]
 rcases v with⟨k,h⟩|⟨k,x,j,h,w⟩
 ·exact⟨e,a,zT,b,r,o,q,.inl ⟨k,rfl,h⟩,g⟩
 ·exact⟨e,a,S.uid j,b,r,o,q,.inr ⟨k,by rw[f,qw,w];rfl,x,j,h,rfl⟩,g⟩
def zgU(c k:Int)(n:Nat):List zF:=(List.range n).map fun i:Nat=>(⟨c,k+i⟩:zF)
theorem xp.insert{c K:Int}{S:zE}{T:List zL}(b:xp c K S T)(H:1<=c/\c<=9007199254740991){p:Nat}{A B:List Nat}{l r:zF}(e:qE S T p A B l r){n:Nat}(C:1<=n)(I:K+n<=9007199254740991):
 S.may ⟨⟨c,K+1⟩,l,r⟩=true/\(∀i:Nat,i<n->(⟨c,K+1+i⟩:zF).rightB=true/\S.find ⟨c,K+1+i⟩=none)/\(S.insN ⟨⟨c,K+1⟩,l,r⟩ n).l.length=S.l.length+n/\xp c (K+n) (S.insN ⟨⟨c,K+1⟩,l,r⟩ n) T/\
  (S.insN ⟨⟨c,K+1⟩,l,r⟩ n).shown T=(S.shown T).take p++(zgU c (K+1) n++(S.shown T).drop p):=by
 have G:=b.kl
 have o:∀i:Nat,i<n->(⟨c,K+1+i⟩:zF).rightB=true/\S.find ⟨c,K+1+i⟩=none:=fun i hi=>⟨oX,(b.fresh (by show K<K+1+(i:Int);omega)).1⟩
 obtain⟨F,q,w,s⟩:=zl3 b.wf (u:=⟨⟨c,K+1⟩,l,r⟩) e.ord C o (by
  rcases e.left with⟨_,h,g⟩|⟨_,_,D,t,h,g⟩
  ·exact .inl ⟨h,g⟩
  ·exact .inr ⟨D,t,h,g⟩) e.right
 have z:xp c (K+n) (S.insN ⟨⟨c,K+1⟩,l,r⟩ n) T:={
  wf:=q
  mine:=fun f E=>by
   have a:(S.insN ⟨⟨c,K+1⟩,l,r⟩ n).uid f∈(S.insN ⟨⟨c,K+1⟩,l,r⟩ n).ids:=xz.2 ⟨f,(q.mem f).2 E,rfl⟩;rw[s] at a;have m:∀k:List Nat,(∀d∈k,d∈S.order)->(S.insN ⟨⟨c,K+1⟩,l,r⟩ n).uid f∈k.map S.uid->((S.insN ⟨⟨c,K+1⟩,l,r⟩ n).uid f).c=c/\((S.insN ⟨⟨c,K+1⟩,l,r⟩ n).uid f).k<=K+n:=fun k v hx=>(by obtain⟨d,hx,j⟩:=xz.1 hx;have:=b.mine d ((b.wf.mem d).1 (v d hx));rw[<-j];omega);rcases xX.1 a with a|a
   ·exact m A (fun d hx=>by rw[e.ord];simp[hx]) a
   ·rcases xX.1 a with a|a
    ·obtain⟨i,hi,j⟩:=xz.1 a;rw[<-j];rw[zbj] at hi;dsimp only;omega
    ·exact m B (fun d hx=>by rw[e.ord];simp[hx]) a
  tmine:=fun x y=>by have:=b.tmine x y;omega
  norm:=b.norm
  kl:=oa}
 refine⟨F,o,w,z,?_⟩
 have h:=e.ahead
 have g:=e.behind
 unfold zE.shown at h g ⊢
 rw[s,zap,zap,h,g]
 congr 2
 refine zeQ.2 fun d hx=> ?_
 obtain⟨i,hi,j⟩:=xz.1 hx
 rw[<-j]
 have:=(b.fresh (i:=⟨c,K+1+i⟩) (by show K<K+1+(i:Int);omega)).2
 simp[zam,this]
def xj(T:List zL)(l:List zF):List zL:=l.map fun x=>⟨x.c,x.k,x.k+1,zd T x+1⟩
theorem ziW{c K:Int}{S:zE}{T:List zL}(d:xp c K S T){l:List zF}(g:∀a∈l,a∈S.shown T){t:zL}(h:t∈xj T l):t.rightB=true/\t.n=1:=by obtain⟨a,e,rfl⟩:=xz.1 h;obtain⟨j,i,f,b⟩:=d.shown_mem (g a e);simp[zF.rightB,xi] at f;simp[zL.rightB,zO.rightB,xi,b];omega
theorem ziX{c K:Int}{S:zE}{T:List zL}(k:xp c K S T){l:List zF}(m:∀e∈l,e∈S.shown T)(i:zF):zd (xj T l) i=if i∈l then 1 else 0:=by
 by_cases j:i∈l
 ·rw[zP j];have n:zd (xj T l) i≠0:=by
   intro h;have o:(⟨i.c,i.k,i.k+1,zd T i+1⟩:zL)∈xj T l:=xz.2 ⟨i,j,rfl⟩;obtain⟨p,u⟩:=ziW k m o;have f:(⟨i.c,i.k,i.k+1,zd T i+1⟩:zL).hasB i=true:=(yh p i).2 ⟨rfl,qj _,by show i.k<i.k+1;omega⟩;have t:∀(g:List zL) (d:zL),d∈g->d.hasB i=true->d.n<=zd g i:=by
    intro g;induction g with
    |nil=>intro d b;cases b
    |cons v g q=>
     intro d b f;have n:=jH g i;rcases xK.1 b with rfl|b
     ·simp only[zd,f,vJ];omega
     ·have:=q d b f;simp only[zd];omega
   have:=t _ _ o f;rw[h] at this;omega
  obtain⟨d,b,_,h⟩:=zbz n;rw[h,(ziW k m b).2]
 ·rw[zN j];refine vW fun d b=> ?_;have r:=(ziW k m b).1;obtain⟨e,s,rfl⟩:=xz.1 b;cases f:zL.hasB ⟨e.c,e.k,e.k+1,zd T e+1⟩ i
  ·rfl
  ·have:=(yh r i).1 f;dsimp only at this;exact absurd (by have h:i=e:=(by cases i;cases e;simp only[zF.mk.injEq];dsimp only at this;omega);rw[h];exact s) j
theorem xp.delete{c K:Int}{S:zE}{T T':List zL}(f:xp c K S T){p n:Nat}(r:yM T')(q:∀e,zd T' e=max (zd T e) (zd (xj T (((S.shown T).drop p).take n)) e)):
 xp c K S T'/\S.shown T'=(S.shown T).take p++(S.shown T).drop (p+n):=by
 have t:∀a∈((S.shown T).drop p).take n,a∈S.shown T:=fun a h=>zdb (zdX h);have o:=fun e=>ziX f t e;generalize F:((S.shown T).drop p).take n=d at t o q;have x:∀e,zd T e=0\/zd T e=1:=fun e=>by
  by_cases g:zd T e=0
  ·exact .inl g
  ·obtain⟨b,l,_,j⟩:=zbz g;exact .inr (by rw[j,(f.tmine b l).2.2])
 refine⟨{wf:=f.wf,mine:=f.mine,norm:=r,kl:=f.kl,tmine:=fun b l=> ?_},?_⟩
 ·have A:=r.1 b l;have R:=yK A;have D:b.hasB ⟨b.c,b.b - 1⟩=true:=(yh A _).2 ⟨rfl,by show b.a<=b.b - 1;omega,by show b.b - 1<b.b;omega⟩;have k:=r.memOf l D;rw[q,o] at k;have j:=x ⟨b.c,b.b - 1⟩;by_cases i:(⟨b.c,b.b - 1⟩:zF)∈d
  ·rw[zP i] at k;have:=f.shown_mem (t _ i);dsimp only at this;omega
  ·rw[zN i] at k;have E:zd T ⟨b.c,b.b - 1⟩≠0:=oa;obtain⟨B,v,M,O⟩:=zbz E;have N:=f.tmine B v;have L:=(yh (f.norm.1 B v) _).1 M;dsimp only at L;omega
 ·have s:(S.shown T).Nodup:=f.ids_nodup.filter _;have k:S.shown T'=(S.shown T).filter fun a=>!decide (a∈d):=by
   unfold zE.shown;rw[List.filter_filter];refine zjW fun a h=> ?_;have j:=x a;simp only[zam,q,o];by_cases i:a∈d
   ·rw[zP i];rcases j with g|g<;> simp[g,i]<;> omega
   ·rw[zN i];rcases j with g|g<;> simp[g,i]<;> omega
  rw[k];have m:S.shown T=(S.shown T).take p++(d++(S.shown T).drop (p+n)):=by rw[<-F,<-zjX,zcF,zcF]
  generalize(S.shown T).take p=w at m ⊢;generalize(S.shown T).drop (p+n)=z at m ⊢;rw[m] at s ⊢;rw[yv] at s;obtain⟨_,y,H⟩:=s;rw[yv] at y;obtain⟨_,_,G⟩:=y;rw[zap,zap];have J:w.filter (fun a=>!decide (a∈d))=w:=zeQ.2 fun a h=>by have:a ∉ d:=fun u=>H a h a (by simp[u]) rfl;simp[this]
  have I:d.filter (fun a=>!decide (a∈d))= []:=List.filter_eq_nil_iff.2 fun a h=>by simp[h]
  have C:z.filter (fun a=>!decide (a∈d))=z:=zeQ.2 fun a h=>by have:a ∉ d:=fun u=>G a u a h rfl;simp[this]
  rw[J,I,C];rfl
theorem ziY{c K:Int}:∀{T:List zL}(m:Int),yM T->(∀a∈T,a.c=c/\a.b<=K+1/\m<=a.a)->m<=K+1->(T.length:Int)<=K+1 - m
 | [],m,_,_,g=>oi
 |a::T,m,b,f,g=>by have j:=f a oh;have h:=yK (b.1 a oh);have:=ziY (T:=T) a.b b.tail (fun u d=>by have e:=f u jj;have i:=(yr.1 b.2).1 u d;exact⟨e.1,e.2.1,oa⟩) oa;simp only[z7];omega
theorem xp.tlen{c K:Int}{S:zE}{T:List zL}(a:xp c K S T):(T.length:Int)<=K:=by have g:=a.kl;have:=ziY (c:=c) (K:=K) (T:=T) 1 a.norm (fun d e=>by have b:=a.tmine d e;have f:=yK (a.norm.1 d e);exact⟨b.1,b.2.1,f.2.2.1⟩) oa;omega
theorem zgV(c:Int):xp c 0 vT [] where
 wf:=zk5
 mine:=fun e a=>by simp[vT] at a
 tmine:=fun d b=>by cases b
 norm:=⟨oh,oh⟩
 kl:=qj _
structure zM (W:zC) where
 val:World
 h:Below W W val
theorem zoK {P:Program}{id:Nat}{Q:Exit->Act->World->Prop}{a:Act}{w:zC}{l:List Oper}(d:P.follows .mixedOrders=true) (c:Region.lexB .any l.toArray=true)
 (b:wpQuiet P l.toArray (fun w'=>∃p:zM w,w'=p.val) (fun e=>∀w',(∃p:zM w,w'=p.val)->Q .normal e w') l a):(Code.region id l.toArray true).wp P Q a w:=
 wp_region_quiet (C:=fun w'=>∃p:zM w,w'=p.val) d c ⟨⟨w.drew,(zf _ _).drew⟩,rfl⟩ (by simpa using b)
theorem zM.cell{W:zC}{a:Addr}{v:zJ}(b:a.block<W)(c:W.cell? a=some v)(s:zM W):s.val.cell? a=some v:=(s.h.cell b).trans c
theorem aU{W:zC}{a:Addr}{v:zJ}(h:W.cell? a=some v)(s:zM W):s.val.cell? a=some v:=zM.cell (aI h) h s
theorem xl {P:Program}{f:FuncId}{args:Array Value}{W:zC}{s:zM W}{v:zJ}
 (e:Calls P f args s.val fun b a=>b= .returned v/\Below s.val.heap.size s.val a):Calls P f args s.val fun b h=>b= .returned v/\∃d:zM W,h=d.val:=
 e.mono fun _ a ⟨g,c⟩=>⟨g,⟨a,zK s.h c⟩,rfl⟩
theorem zM.of{W w':zC}(h:∃p:zM W,w'=p.val):Below W W w':=by obtain⟨p,rfl⟩:=h;exact p.h
instance(W:zC):Nonempty (zM W):=⟨⟨W,zf _ _⟩⟩
theorem zkT(r:zO)(w:zC):
 Calls zD 131 #[.agg #[r.c,r.a,r.b]] w fun b a=>b= .returned (.bool r.rightB)/\Below w w a:=by
 go_enter Tryz.func131,Tryz.ntmps131;go_wp2;all_goals go_ret
 all_goals exact⟨vG (by simp[zO.rightB,xi, *]<;> omega),aB⟩
theorem zts(x a:zO)(w:zC):
 Calls zD 180 #[.agg #[x.c,x.a,x.b],.agg #[a.c,a.a,a.b]] w fun c b=>c= .returned (.bool (decide (x.c<a.c) || (decide (x.c=a.c) && decide (x.a<a.a))))/\Below w w b:=by
 go_enter Tryz.func180,Tryz.ntmps180;go_wp2;all_goals go_ret
 all_goals exact⟨vG (by simp[*]),aB⟩
theorem zkU(t:zL)(w:zC):
 Calls zD 84 #[.agg #[t.c,t.a,t.b,t.n]] w fun a f=>a= .returned (.bool t.rightB)/\Below w w f:=by
 have e:=fun w=>zkT ⟨t.c,t.a,t.b⟩ w;obtain⟨d,b⟩:=aY ((zO.mk t.c t.a t.b).rightB);rw[b] at e;have a:t.rightB=(d && xi t.n):=by rw[<-b];rfl
 rw[a];clear a b;go_enter Tryz.func84,Tryz.ntmps84;cases d;all_goals
  go_wp2_with (go_at_call 131;refine(e _).mono ?_;rintro a h ⟨rfl,c⟩;obtain⟨g,b⟩:=yZ c)
  all_goals go_ret
  all_goals exact⟨vG (by simp[xi, *]<;> omega),zK (aB) c⟩
open Go.Shelf
theorem jo{α:Type}{enc:α->List Value}{k:Nat}(b:∀x,(enc x).length=k):∀(l:List α) (j i:Nat) (x:α),l[j]?=some x->i<k->(l.flatMap enc)[j*k+i]?=(enc x)[i]?
 | [],j,i,x,a,_=>by simp at a
 |c::r,0,i,x,a,d=>by obtain rfl:c=x:=oaC;rw[zcN,jm (by rw[b];omega)];simp
 |c::r,j+1,i,x,a,d=>by rw[zcN,vL (by rw[b,zcM];omega),b,show(j+1)*k+i - k=j*k+i by rw[zcM];omega];exact jo b r j i x oaC d
theorem qy{α:Type}{enc:α->List Value}{k:Nat}(c:∀d,(enc d).length=k):∀b:List α,(b.flatMap enc).length=b.length*k
 | []=>oh
 |e::r=>by rw[zcN,xY,c,qy c r,z7,zcM];omega
def zG{α:Type}(base E k:Nat)(enc:α->List Value)(w:zC)(v:zJ)(l:List α):Prop:=w.ownsRow base E k v l.length (l.flatMap enc)
theorem zG.slice{α:Type}{base E k:Nat}{enc:α->List Value}(i:∀c,(enc c).length=k){w:zC}{v:zJ}{l:List α}(s:zG base E k enc w v l):zc k enc w v l:=by
 obtain⟨B,⟨d,r⟩|⟨m,t,u,d,y,e,A,n,z,p⟩⟩:=s
 ·exact .inl ⟨d,zbo r⟩
 ·refine .inr ⟨m,0,t,d,by unfold maxLen at n;omega,(aL e),fun a c f b x h=> ?_⟩;have j:a<l.length:=(zw.1 f).1;have o:b<k:=by rw[<-i c];exact(zw.1 h).1
  have q:a*k+b<l.length*k:=by have:(a+1)*k<=l.length*k:=Nat.mul_le_mul_right k j;rw[zcM] at this;omega
  have g:(u.toList.take (l.length*k))[a*k+b]?=some x:=by rw[p,jo i l a b c f o];exact h
  rw[zdY q,zbK] at g;simp only[World.cell?,e,qr];simpa using g
theorem zG.nil{α:Type}{base E k:Nat}{enc:α->List Value}{w:zC}:zG base E k enc w () ([]:List α):=⟨oh,.inl ⟨rfl,rfl⟩⟩
theorem zG.holds{α:Type}[Inhabited α]{base E k:Nat}{enc:α->List Value}(h:∀s,(enc s).length=k){w:zC}{g d n cap:Nat}{l:List α}(b:zG base E k enc w (.slice (some (g,d)) n cap) l):
 d=0/\n=l.length/\g<w/\base<=g/\Sort.HoldsK enc k w g 0 l.toArray:=by
 have p:=b.slice h;obtain⟨D,⟨f,y⟩|⟨z,C,F,f,m,i,A,v,u,x⟩⟩:=b
 ·cases f
 ·cases f;refine⟨rfl,rfl,(aL i),m,fun a r=>⟨?_,by simp[World.frozen?,i]⟩⟩;have c:a<l.length*k:=by simpa using r
  rw[Sort.get_flatK _ _ _ _ obg];rcases p with⟨e,_⟩|⟨B,d,cap,e,_,_,q⟩
  ·cases e
  ·cases e;have t:0<k:=by
    rcases zhb k with b|b
    ·subst b;simp at c
    ·exact b
   have o:a / k<l.length:=zfN (by rw[zbe];exact c);have j:a % k<k:=zaH _ t;have:=q (a / k) l[a / k] oh (a % k) ((enc l[a / k])[a % k]'(by rw[h];exact j)) oh;rw[show 0+a / k*k+a % k=0+a by have:=zfO a k;rw[zbe] at this;omega] at this;rw[this];simp[o,h,j]
theorem zG.sorted {α:Type} [Inhabited α] {base E k:Nat}{enc:α->List Value}(f:∀C,(enc C).length=k){w:zC}{g n cap m:Nat}{l:List α}{b:Array α}{os:Array Obj}
 (d:zG base E k enc w (.slice (some g) n cap) l) (i:b.size=l.length):
 zG base E k enc (sortWorldK enc k w g 0 m b os) (.slice (some g) n cap) b.toList/\w.grownBy (sortWorldK enc k w g 0 m b os) (some g):=by
 obtain⟨J,⟨h,H⟩|⟨I,K,u,h,v,j,t,z,p,G⟩⟩:=d
 ·cases h
 ·cases h;have A:g<w:=aL j;refine⟨⟨by rw[qy f],.inr ⟨g,cap,Sort.putCells id 0 (Sort.flatK enc k b) u,by simp[i],v,?_,by simp[i,t],z,by simp[Sort.putCells,p],?_⟩⟩,?_⟩
  ·show(Sort.grow (Sort.mapBlock (Sort.ahead w m) g _) os).heap[g]?=_;rw[Sort.heap_grow_old _ _ (by simpa[Sort.mapBlock,Sort.ahead] using A)];simp[Sort.mapBlock,Sort.ahead,zu,j,Sort.onCells]
  ·apply zbp;intro a;by_cases q:a<b.toList.length*k
   ·rw[zdY q,zbK];have c:a<b.size*k:=(by simpa using q);have y:a<u.size:=(by rw[p];have:l.length*k<=cap*k:=Nat.mul_le_mul_right k t;rw[i] at c;omega);have F:0<k:=by
     rcases zhb k with d|d
     ·subst d;simp at c
     ·exact d
    have e:a / k<b.size:=zfN (by rw[zbe];exact c);have o:a % k<k:=zaH _ F;have D:(b.toList.flatMap enc)[a]?=(enc b[a / k])[a % k]?:=(by have:=jo f b.toList (a / k) (a % k) b[a / k] (by simp[e]) o;rw[show a / k*k+a % k=a by have:=zfO a k;rw[zbe] at this;omega] at this;exact this);rw[D];have r:=Sort.get_flatK enc k b a c;simp[Sort.putCells,y,c] at r ⊢;rw[r];simp[e,f,o]
   ·rw[List.getElem?_take_eq_none oa,vp (by rw[qy f];omega)]
  ·refine⟨rfl,rfl,rfl,by simp[sortWorldK,Sort.putRowK,Sort.putRow,Sort.mapBlock,Sort.ahead],fun s e x=> ?_⟩;show(Sort.grow (Sort.mapBlock (Sort.ahead w m) g _) os).heap[s]?=_;rw[Sort.heap_grow_old _ _ (by simpa[Sort.mapBlock,Sort.ahead] using e)];have:g≠s:=fun B=>x (by rw[B]);simp[Sort.mapBlock,Sort.ahead,zu,this]
theorem znS{α:Type}{enc:α->List Value}{k:Nat}(b:∀x,(enc x).length=k){z:α}{i:Nat}{u:zJ}(e:i<k):∀(l:List α) (j:Nat) (x:α),l[j]?=some x->enc z=(enc x).set i u->(l.set j z).flatMap enc=(l.flatMap enc).set (j*k+i) u
 | [],j,x,a,_=>by simp at a
 |d::r,0,x,a,c=>by obtain rfl:d=x:=oaC;rw[zg5,zcN,zcN,c,List.set_append_left _ _ (by rw[b];omega)];simp
 |d::r,j+1,x,a,c=>by rw[List.set_cons_succ,zcN,zcN,zdU _ _ (by rw[b,zcM];omega),b,show(j+1)*k+i - k=j*k+i by rw[zcM];omega];rw[znS b e r j x oaC c]
theorem zG.set {α:Type}{base E k:Nat}{enc:α->List Value}(d:∀x,(enc x).length=k){w:zC}{g n cap j i:Nat}{l:List α}{x z:α}{u:zJ}
 (p:zG base E k enc w (.slice (some g) n cap) l) (c:l[j]?=some x) (r:i<k) (q:enc z=(enc x).set i u):
 zG base E k enc (w.setCell (g,j*k+i) u) (.slice (some g) n cap) (l.set j z):=by
 obtain⟨B,⟨b,y⟩|⟨A,C,t,b,e,f,s,m,h,o⟩⟩:=p
 ·cases b
 ·cases b;have v:j<l.length:=(zw.1 c).1;refine⟨by rw[qy d],.inr ⟨g,cap,t.setIfInBounds (j*k+i) u,oh,e,?_,by simpa using s,m,by simp[h],?_⟩⟩
  ·simp[World.setCell,zu,f]
  ·rw[znS d r l j x c q,<-o,zcK,Array.toList_setIfInBounds,List.take_set]
theorem zc.shape{α:Type}{k:Nat}{enc:α->List Value}{w:zC}{v:zJ}{l:List α}(n:zc k enc w v l):
 ∃g e,v= .slice g l.length e/\l.length<=9223372036854775807/\∀(j:Nat) a,l[j]?=some a->∃b c,g=some ⟨b,c,none⟩/\b<w.heap.size/\∀f h,(enc a)[f]?=some h->w.cell? ⟨b,c+j*k+f,none⟩=some h:=by
 rcases n with⟨rfl,rfl⟩|⟨b,c,e,rfl,o,i,m⟩
 ·exact⟨none,0,rfl,oh,fun j a d=>by simp at d⟩
 ·exact⟨_,e,rfl,o,fun j a d=>⟨b,c,rfl,i,m j a d⟩⟩
end Go.Proofs.YtimlgcodecgecaaGreatDoor
