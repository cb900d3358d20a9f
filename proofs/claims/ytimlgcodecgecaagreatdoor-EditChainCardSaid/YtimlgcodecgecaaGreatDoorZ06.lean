/- Maps in memory as association lists: what a look-up and a store do. -/
import Derived.Maps.OwnSet
import Derived.Test.YtimlgcodecgecaaGreatDoorZ05
import Derived.Laws.AppendOwn
import Derived.Deep.Cut
import Derived.Deep.CutBlock
import Derived.OrdersHeld
import Derived.StillTail
import Derived.Deep.Quiet
set_option maxRecDepth 100000
set_option maxHeartbeats 20000000
set_option linter.all false
namespace Go.Proofs.YtimlgcodecgecaaGreatDoor
open Go.RowKit Go.MapKept
section
def zq{κ:Type}(enc:κ->Value)(w:zC)(r:Nat)(l:List (κ×Value)):Prop:=
 ∃a c,w.heap[r]?=some (.map a c)/\a.toList.map (fun d=>(d.key,d.val))=l.map (fun b=>(enc b.1,b.2))/\Stamped a c
def xD{κ:Type}[DecidableEq κ](l:List (κ×Value))(x:κ):Option Value:=(l.find? fun p=>decide (p.1=x)).map (·.2)
def xT{κ:Type}[DecidableEq κ](l:List (κ×Value))(x:κ)(v:zJ):List (κ×Value):=
 if(xD l x).isSome then l.map (fun p=>if p.1=x then(x,v) else p) else l++[(x,v)]
def qh{κ:Type}[DecidableEq κ](x:κ):List (κ×Value)->Nat->Option (Nat×Value)
 | [],_=>none
 |p::l,i=>if p.1=x then some (i,p.2) else qh x l (i+1)
theorem zgr{κ:Type}[DecidableEq κ](x:κ):∀(l:List (κ×Value)) (i:Nat),(qh x l i).map (·.2)=xD l x
 | [],_=>rfl
 |p::l,i=>by
  unfold qh xD;by_cases h:p.1=x
  ·simp[h]
  ·rw[zN h,zgr x l (i+1)];simp[xD,h]
theorem zmu{κ:Type}[DecidableEq κ]{x:κ}:∀{l:List (κ×Value)}{i j:Nat}{v:zJ},qh x l i=some (j,v)->∃d,j=i+d/\l[d]?=some (x,v)/\∀a c,a<d->l[a]?=some c->c.1≠x
 | [],_,_,_,b=>by simp[qh] at b
 |c::l,i,j,v,b=>by
  unfold qh at b;by_cases e:c.1=x
  ·rw[zP e] at b;cases b;exact⟨0,rfl,by rw[<-e];rfl,fun a _ h=>absurd h (jN _)⟩
  ·rw[zN e] at b;obtain⟨d,rfl,m,k⟩:=zmu b;refine⟨d+1,oa,by simpa using m,fun a g h f=> ?_⟩;cases a with
   |zero=>
    obtain rfl:c=g:=obh;exact e
   |succ a=>exact k a g oa obh
theorem zi4{β:Type}(g:MapEntry->β)(b:Array MapEntry)(j:Nat)(f:MapEntry->MapEntry)(d:∀a,b[j]?=some a->g (f a)=g a):(b.modify j f).toList.map g=b.toList.map g:=by
 apply zbp;intro e;rw[qw,zbK,zu,qw,zbK];by_cases c:j=e
 ·subst c;rw[zP rfl];cases he:b[j]? with
  |none=>rfl
  |some a=>simp[d a he]
 ·rw[zN c]
structure zci(P:Program)(K:TypeId){κ:Type}[DecidableEq κ](enc:κ->Value):Prop where
 inj:∀{x y:κ},enc x=enc y->x=y
 check:∀(w:zC) (em:Bool) (x:κ),(Instr.checkKey em 10000 K (enc x)).run P w= .ok () w
 find:∀(w:zC) (x:κ) (es:List MapEntry) (l:List (κ×Value)),es.map (fun e=>(e.key,e.val))=l.map (fun p=>(enc p.1,p.2))->(Instr.findKey K (enc x) es).run P w= .ok (qh x l 0) w
 stays:∀(w:zC) (x:κ),(Instr.keyThatStays (enc x) (enc x)).run P w= .ok (enc x) w
section
variable {P:Program}{K T E:TypeId}{κ:Type} [DecidableEq κ] {enc:κ->Value}
theorem zbB(Q:zci P K enc)(b:P.underlying T=some (.map K E)){z:zJ}(d:∀w,(zeroValue E).run P w= .ok z w){w:zC}{r:Nat}{l:List (κ×Value)}(e:zq enc w r l)(x:κ)(c:Bool):
 (Instr.lookup T (.map (some r)) (enc x) c).run P w= .ok (if c then .tuple #[(xD l x).getD z,.bool (xD l x).isSome] else(xD l x).getD z) w:=by
 obtain⟨j,o,a,f,k⟩:=e;have i:=Q.find w x j.toList l f;have g:=zgr x l 0;simp only[Instr.lookup,yU,jM b,Result.andThen,zcJ a,qI,Q.check,i];rw[<-g];cases hx:qh x l 0 with
 |none=>simp[yU,d,Result.andThen,qI]
 |some h=>obtain⟨n,m⟩:=h;simp[qI,Result.andThen]
theorem zsh(Q:zci P K enc)(d:P.underlying T=some (.map K E)){z:zJ}(a:∀w,(zeroValue E).run P w= .ok z w)(w:zC)(x:κ)(c:Bool):
 (Instr.lookup T (.map none) (enc x) c).run P w= .ok (if c then .tuple #[z,.bool false] else z) w:=by
 have b:=Q.find w x [] [] rfl;simp only[Instr.lookup,yU,jM d,Result.andThen,qI,Q.check,b,qh];simp[yU,a,Result.andThen,qI]
def xF(w:zC)(r:Nat)(o:Obj):World:={w with heap:=w.heap.setIfInBounds r o}
theorem zfE{w:zC}{r:Nat}{o:Obj}(h:r<w):(xF w r o).heap[r]?=some o:=by simp[xF,h]
theorem qV{w:zC}{r k:Nat}{o:Obj}(h:k≠r):(xF w r o).heap[k]?=w.heap[k]?:=by simp[xF,zeT h]
@[simp] theorem vH(w:zC)(r:Nat)(o:Obj):(xF w r o).heap.size=w:=by simp[xF]
theorem zb8(Q:zci P K enc)(H:P.underlying T=some (.map K E)){w:zC}{r:Nat}{l:List (κ×Value)}(o:zq enc w r l)(x:κ)(v:zJ):
 ∃O,(Instr.mapUpdate T (.map (some r)) (enc x) v).run P w= .ok () (xF w r O)/\zq enc (xF w r O) r (xT l x v):=by
 obtain⟨c,t,m,i,C,Z,q⟩:=o;have X:r<w:=aL m;have s:=Q.find w x c.toList l i;have a:=zgr x l 0;have W:c.toList.map (·.key)=l.map (fun h=>enc h.1):=by have:=congrArg (List.map Prod.fst) i;simpa[jk,zhX] using this
 cases hx:qh x l 0 with
 |none=>
  rw[hx] at a s;refine⟨.map (c.push {key:=enc x,val:=v,born:=t}) (t+1),?_,⟨_,_,zfE X,?_,?_,?_,?_⟩⟩
  ·simp only[Instr.mapUpdate,yU,jM H,Result.andThen,zcJ m,Q.check,s,zhY _ m];rfl
  ·have aj:xD l x=none:=(by rw[<-a];rfl);rw[xT,aj];simp[i]
  ·intro k e;simp only[zeY,xX,j0] at e;rcases e with e|rfl
   ·have:=C k e;omega
   ·simp
  ·simp only[zeY,ym,xd,yl];refine yv.2 ⟨Z,oh,fun j d A D=> ?_⟩;obtain⟨k,e,rfl⟩:=xz.1 d;obtain rfl:A=t:=(by simpa using D);have:=C k e;omega
  ·simp only[zeY,ym,xd,yl];refine yv.2 ⟨q,oh,fun j d A D=> ?_⟩;obtain rfl:A=enc x:=(by simpa using D);rintro rfl;rw[W] at d;obtain⟨h,ae,ak⟩:=xz.1 d;have ah:h.1=x:=Q.inj ak;have:xD l x=none:=(by rw[<-a];rfl);simp only[xD,zfX,zcL,xW] at this;exact this h ae ah
 |some ai=>
  obtain⟨b,al⟩:=ai;obtain⟨ac,Y,n,an⟩:=zmu hx;obtain rfl:b=ac:=oa;rw[hx] at a s;have p:b<l.length:=(zw.1 n).1;have N:b<c.toList.length:=by rw[<-xk (f:=fun a:MapEntry=>(a.key,a.val)),i,xk];exact p
  have G:c.toList[b].key=enc x:=by have:=congrArg (fun u=>u[b]?) i;simp[n] at this;obtain⟨j,d,Y,_⟩:=this;have I:c.toList[b]?=some j:=(by rw[zbK];exact d);rw[xG N] at I;cases I;exact Y
  have y:c[b]?=some c.toList[b]:=by rw[<-zbK,xG N]
  have ab:(xD l x).isSome=true:=by rw[<-a];rfl
  refine⟨.map (c.modify b fun a=>{a with key:=enc x,val:=v}) t,?_,⟨_,_,zfE X,?_,?_,?_,?_⟩⟩
  ·have am:=Q.stays w x;simp only[Instr.mapUpdate,yU,jM H,Result.andThen,zcJ m,Q.check,s,y,zao,vq,G,am,zhY _ m];rfl
  ·rw[xT,zP ab];apply zbp;intro g;rw[qw,zbK,zu,qw,qw];by_cases z:b=g
   ·subst z;simp[y,n]
   ·rw[zN z];have M:=congrArg (fun u=>u[g]?) i;simp only[qw,zbK] at M;rw[M];cases hli:l[g]? with
    |none=>rfl
    |some h=>
     have aa:h.1≠x:=fun L=>by
      have B:g<l.length:=(zw.1 hli).1;rw[W] at q;have R:=zbi.1 q;have V:l[g]=h:=(by rw[xG B] at hli;exact zaJ hli);have J:l[b]=(x,al):=(by rw[xG p] at n;exact zaJ n);rcases Nat.lt_or_gt_of_ne z with o|o
      ·exact R b g (by simpa using p) (by simpa using B) o (by simp[V,J,L])
      ·exact R g b (by simpa using B) (by simpa using p) o (by simp[V,J,L])
     simp[aa]
  ·intro k e;have F:k.born∈(c.modify b fun a=>{a with key:=enc x,val:=v}).toList.map (·.born):=xz.2 ⟨k,e,rfl⟩;rw[zi4 (·.born) c b (fun a=>{a with key:=enc x,val:=v}) (fun j d=>rfl)] at F;obtain⟨ad,af,ag⟩:=xz.1 F;rw[<-ag];exact C ad af
  ·rw[zi4 (·.born) c b (fun a=>{a with key:=enc x,val:=v}) (fun j d=>rfl)];exact Z
  ·rw[zi4 (·.key) c b (fun a=>{a with key:=enc x,val:=v}) (fun j d=>by rw[y] at d;cases d;exact G.symm)];exact q
end
end
open Go.Lib
theorem xI{w w':zC}{base e f n:Nat}{v:zJ}{b:List Value}(k:w.ownsRow base e f v n b)(h:∀a,v.ownBlock=some a->w'.heap[a]?=w.heap[a]?):w'.ownsRow base e f v n b:=by
 obtain⟨g,j|⟨c,o,p,d,i,l,m⟩⟩:=k
 ·exact⟨g,.inl j⟩
 ·exact⟨g,.inr ⟨c,o,p,d,i,(h c (by rw[d];rfl)).trans l,m⟩⟩
theorem zq.blk{a:Type}{enc:a->Value}{w w':zC}{r:Nat}{l:List (a×Value)}(d:zq enc w r l)(c:w'.heap[r]?=w.heap[r]?):zq enc w' r l:=by obtain⟨g,f,e,b⟩:=d;exact⟨g,f,c.trans e,b⟩
theorem zq.lt{a:Type}{enc:a->Value}{w:zC}{r:Nat}{l:List (a×Value)}(b:zq enc w r l):r<w:=by obtain⟨e,d,c,_⟩:=b;exact(aL c)
theorem xJ{w:zC}{base e g n:Nat}{v:zJ}{d:List Value}(f:w.ownsRow base e g v n d):∀c,v.ownBlock=some c->c<w.heap.size:=by
 intro c a;rcases f.2 with⟨b,_⟩|⟨j,k,l,b,i,h,_⟩
 ·rw[b] at a;cases a
 ·rw[b] at a;cases a;exact(aL h)
def zrj{α:Type}(base E k:Nat)(enc:α->List Value)(v:zJ)(l:List α)(w:zC)(e:Ending)(w':zC):Prop:=
 ∃a,e= .returned a/\zG base E k enc w' a l/\(a.ownBlock=v.ownBlock\/∀b,a.ownBlock=some b->w.heap.size<=b)/\Mods (fun k=>v.ownBlock=some k) w w'
theorem zG.len{α:Type}{base E k:Nat}{enc:α->List Value}{w:zC}{v:zJ}{l:List α}(c:zG base E k enc w v l):∃b d,v= .slice b l.length d:=by
 rcases c.2 with⟨rfl,a⟩|⟨f,g,h,e,_⟩
 ·exact⟨none,0,by rw[a]⟩
 ·exact⟨_,_,e⟩
theorem zG.blk{α:Type}{base E k:Nat}{enc:α->List Value}{w w':zC}{v:zJ}{l:List α}(c:zG base E k enc w v l)(b:∀a,v.ownBlock=some a->w'.heap[a]?=w.heap[a]?):zG base E k enc w' v l:=xI c b
theorem zG.lt{α:Type}{base E k:Nat}{enc:α->List Value}{w:zC}{v:zJ}{l:List α}(c:zG base E k enc w v l){b:Nat}(a:v.ownBlock=some b):b<w:=xJ c b a
theorem zG.ge{α:Type}{base E k:Nat}{enc:α->List Value}{w:zC}{v:zJ}{l:List α}(d:zG base E k enc w v l){b:Nat}(a:v.ownBlock=some b):base<=b:=by
 rcases d.2 with⟨rfl,_⟩|⟨e,f,g,rfl,c,_⟩
 ·cases a
 ·cases a;exact c
theorem zG.elem{α:Type}{base E k:Nat}{enc:α->List Value}(u:∀x,(enc x).length=k){w:World}{p:Option Addr}{n cap:Nat}{l:List α}(g:zG base E k enc w (.slice p n cap) l){j:Nat}{x:α}(m:l[j]?=some x):
 ∃b,p=some ⟨b,0,none⟩/\b<w.heap.size/\base<=b/\(∀f,w.frozen? ⟨b,f,none⟩=false)/\∀d e,(enc x)[d]?=some e->w.cell? ⟨b,j*k+d,none⟩=some e:=by
 obtain⟨y,z,c,_,o⟩:=(g.slice u).shape;cases c;obtain⟨s,v,rfl,h,t⟩:=o j x m;rcases g.2 with⟨c,_⟩|⟨b,cap,A,c,i,r,_⟩
 ·cases c
 ·cases c;exact⟨s,rfl,h,i,fun f=>by simp[World.frozen?,r],fun d e q=>by simpa using t d e q⟩
theorem zG.snoc{α:Type}{base E k n:Nat}{enc:α->List Value}{w:zC}{v:zJ}{l:List α}{x:α}(b:l.length=n)(a:w.ownsRow base E k v (n+1) (l.flatMap enc++enc x)):zG base E k enc w v (l++[x]):=by unfold zG;rw[xY,qe,b];simpa using a
theorem zim{α:Type}(l:List α)(k:Nat)(c a:α)(d:k+1<=l.length)(f:l[k]?=some a):(l.take (k+1)++c::l.drop (k+1)).set (k+1) a=l.take k++a::l.drop k:=by
 have b:k<l.length:=d;have e:l[k]=a:=by simpa[b] using f
 rw[zdU _ _ oi];simp only[yn,zbG d,zcp,zg5];rw[j1 b,e,zjm b,e];simp
theorem zin{α:Type}(l:List α)(k:Nat)(c:α)(j:Nat)(a:j<k)(b:k<=l.length):(l.take k++c::l.drop k)[j]?=l[j]?:=by rw[jm oi,zdY a]
theorem zd9{α:Type}(l:List α)(k:Nat)(c:α)(a:k<=l.length):(l.take k++c::l.drop k)[k]?=some c:=by rw[vL oi];simp[zbG a]
theorem zeA{α:Type}(l:List α)(k:Nat)(c:α)(a:k<=l.length):(l.take k++c::l.drop k).length=l.length+1:=by simp;omega
theorem zio{α:Type}(l:List α)(k:Nat)(c x:α)(a:k<=l.length):(l.take k++c::l.drop k).set k x=l.take k++x::l.drop k:=by rw[zdU _ _ oi];simp[zbG a]
theorem Mods.setAt{S:Nat->Prop}{w w':zC}(a:Mods S w w'){p:Addr}(f:S p.block\/w.heap.size<=p.block)(v:zJ):Mods S w (w'.setCell p v):=
 ⟨a.os,a.tape,a.output,by simpa[World.setCell] using a.size,fun b e c=>by rw[show(w'.setCell p v).heap[b]?=w'.heap[b]? from zZ _ _ _ _ (by rintro rfl;rcases f with d|d;exact c d;omega)];exact a.block b e c⟩
theorem ztt(l:List zL)(t:zL)(i:zF):zd (l++[t]) i=if t.hasB i=true then max (zd l i) t.n else zd l i:=by
 have:=jH l i;rw[zca];simp only[zd];split
 ·rename_i a;have b:t.rightB=true:=by simp[zL.hasB] at a;exact a.1.1.1
  have:=yK b;omega
 ·omega
theorem zas{α:Type}{l:List α}{k:Nat}{x:α}(a:l[k]?=some x):l.take (k+1)=l.take k++[x]:=by have b:k<l.length:=(zw.1 a).1;rw[j1 b];simp only[b,xG,jC] at a;rw[a]
theorem zkV(v:zJ)(l:List zL)(i:zF)(w:zC)(C:zc 4 zb w v l):
 Calls zD 28 #[v,.agg #[i.c,i.k]] w fun T L=>T=(zd l i)/\Below w w L:=by
 obtain⟨p,ar,rfl,H,D⟩:=C.shape;have aa:=fun N Y=>zkU N Y;go_enter Tryz.func28,Tryz.ntmps28;go_upto_region 1 with fail;generalize B:World.alloc _ _=n;obtain⟨f,t,-⟩:=aF B;clear B;have g:=aL t;have A:=zA t;have W:=zA D;have ag:=zA H;clear t D C H;go_wp2;go_loopw [5,6] (fun af r wr=>∃k:Nat,k<=l.length/\r=zB k/\af=(zd (l.take k) i)/\Below n n wr) (fun _ r _=>l.length - (intOf r).toNat);case atStart=>exact⟨0,xO _,rfl,rfl,zf _ _⟩
 case round=>
  obtain⟨k,aq,rfl,rfl,b⟩:=hrel;have ai:=ag.o;by_cases O:k<l.length
  ·obtain⟨a,I⟩:∃a,l[k]?=some a:=⟨l[k],by simp[O]⟩;obtain⟨j,q,rfl,x,y⟩:=W.o k a I;have ac:=zA (show zd (l.take (k+1)) i=if a.hasB i=true then max (zd (l.take k) i) a.n else zd (l.take k) i by rw[zas I,ztt]);have ae:j<wr:=zg x (zk f.size b.size);have s:=f.trans (b.mono f.size);have e:∀(d:Nat) (m:zJ),(zb a)[d]?=some m->∀c:zM wr,c.val.cell? (j,q+k*4+d)=some m:=fun d m R=>zM.cell ae ((s.cell (p:=(j,q+k*4+d)) x).trans (y d m R));have X:=e 0 _ rfl;have aj:=e 1 _ rfl;have ap:=e 2 _ rfl;have M:=e 3 _ rfl;simp only[jD] at X;have al:∀c:zM wr,c.val.cell? w=i.c:=zM.cell (zg g b.size) ((b.cell (p:=w) g).trans (by simp[World.cell?,A.o]));have ao:∀c:zM wr,c.val.cell? (w,1)=i.k:=zM.cell (zg g b.size) ((b.cell (p:=(w,1)) g).trans (by simp[World.cell?,A.o]));clear e y;have z:=aa a;obtain⟨F,o⟩:=aY a.rightB;obtain⟨E,ad⟩:=aY (((a.c:Int)==i.c));obtain⟨u,K⟩:=aY (decide (a.a<=i.k));obtain⟨G,Z⟩:=aY (decide (i.k<a.b));have ab:=zA (show a.hasB i=(F && E && u && G) by rw[<-o,<-ad,<-K,<-Z];rw[zaK];simp[zL.hasB]);rw[o] at z;clear o;have ah:=jH (l.take k) i;have J:∀(W':zC),Below wr wr W'->Below n n W':=fun W' h=>b.trans (h.mono b.size);have V:=zA J;clear J;have ak:=zA s;clear s;rcases F with _|_<;> rcases E with _|_<;> rcases u with _|_<;> rcases G with _|_;all_goals
    go_wp2
    refine aG ?_
    repeat(first|go_big_quiet_skip|(go_big_quiet_want;go_big_quiet_op;first|go_big_quiet_on|go_big_quiet_call ((go_at_call 84;exact xl (z _)))))
    refine aE ?_
    intro W' hC' hBW'
    have am:W'.cell? (j,q+k*4+3)=a.n:=M ⟨W',hBW'⟩
    go_wp2
    go_roundw
    case rel=>exact⟨k+1,oa,ou,by rw[ac.o,ab.o];rfl,V.o _ hBW'⟩
    case measure=>simp[intOf];omega
  ·obtain rfl:k=l.length:=(by omega);go_wp2;go_ret;exact⟨oh,f.trans (b.mono f.size)⟩
def j3(l:List zO)(i:zF):Bool:=l.any fun r=>r.hasB i
theorem ztu(v:zJ)(l:List zO)(i:zF)(w:zC)(E:zc 3 zY w v l):
 Calls zD 62 #[v,.agg #[i.c,i.k]] w fun V N=>V= .returned (.bool (j3 l i))/\Below w w N:=by
 obtain⟨p,an,rfl,L,G⟩:=E.shape;have aa:=fun O Y=>zkT O Y;go_enter Tryz.func62,Tryz.ntmps62;go_upto_region 1 with fail;generalize D:World.alloc _ _=m;obtain⟨c,u,-⟩:=aF D;clear D;have f:=aL u;have C:=zA u;have W:=zA G;have af:=zA L;clear u G E L;go_wp2;go_loopw [5] (fun o wr=>∃k:Nat,k<=l.length/\o=zB k/\qP (j3 (l.take k) i=false)/\Below m m wr) (fun o _=>l.length - (intOf o).toNat);case atStart=>exact⟨0,xO _,rfl,zA rfl,zf _ _⟩
 case round=>
  obtain⟨k,am,rfl,r,b⟩:=hrel;have ag:=af.o;by_cases R:k<l.length
  ·obtain⟨a,s⟩:∃a,l[k]?=some a:=⟨l[k],by simp[R]⟩;obtain⟨q,B,rfl,y,z⟩:=W.o k a s;have ae:=zA (show j3 (l.take (k+1)) i=a.hasB i by rw[zas s];unfold j3;rw[List.any_append];have:=r.o;unfold j3 at this;rw[this];simp);have ad:=zA (show a.hasB i=true->j3 l i=true from fun h=>zcD.2 ⟨a,xn s,h⟩);have ac:q<wr:=zg y (zk c.size b.size);have t:=c.trans (b.mono c.size);have g:∀(e:Nat) (j:zJ),(zY a)[e]?=some j->∀d:zM wr,d.val.cell? (q,B+k*3+e)=some j:=fun e j T=>zM.cell ac ((t.cell (p:=(q,B+k*3+e)) y).trans (z e j T));have X:=g 0 _ rfl;have ah:=g 1 _ rfl;have al:=g 2 _ rfl;simp only[jD] at X;have aj:∀d:zM wr,d.val.cell? w=i.c:=zM.cell (zg f b.size) ((b.cell (p:=w) f).trans (by simp[World.cell?,C.o]));have ak:∀d:zM wr,d.val.cell? (w,1)=i.k:=zM.cell (zg f b.size) ((b.cell (p:=(w,1)) f).trans (by simp[World.cell?,C.o]));clear g z;have A:=aa a;obtain⟨I,n⟩:=aY a.rightB;obtain⟨H,ab⟩:=aY (((a.c:Int)==i.c));obtain⟨x,M⟩:=aY (decide (a.a<=i.k));obtain⟨K,Z⟩:=aY (decide (i.k<a.b));have J:=zA (show a.hasB i=(I && H && x && K) by rw[<-n,<-ab,<-M,<-Z];rw[zaK];simp[zO.hasB]);rw[n] at A;clear n;have F:=zA (show ∀(W':zC),Below wr wr W'->Below m m W' from fun W' h=>b.trans (h.mono b.size));have ai:=zA t;clear t;rcases I with _|_<;> rcases H with _|_<;> rcases x with _|_<;> rcases K with _|_;all_goals
    go_wp2
    refine aG ?_
    repeat(first|go_big_quiet_skip|(go_big_quiet_want;go_big_quiet_op;first|go_big_quiet_on|go_big_quiet_call ((go_at_call 131;exact xl (A _)))))
    refine aE ?_
    intro W' hC' hBW'
    go_wp2
    first
    |(
     go_roundw
     case rel=>exact⟨k+1,oa,ou,zA (by rw[ae.o,J.o];rfl),F.o _ hBW'⟩
     case measure=>simp[intOf];omega)
    |(
     go_ret
     exact⟨vG (ad.o J.o).symm,c.trans ((F.o _ hBW').mono c.size)⟩)
  ·obtain rfl:k=l.length:=(by omega);rw[qJ] at r;go_wp2;go_ret;exact⟨vG r.o.symm,c.trans (b.mono c.size)⟩
def vs(n:Int):List Value:= [n]
theorem zc2(n:Int):(vs n).length=1:=rfl
theorem zkW:∀(l:List Int) (n:Int) (j:Nat),(∀b a,b<j->l[b]?=some a->a<n)->(∀a,l[j]?=some a->¬a<n)->j<=l.length->yj l n=if l[j]?=some n then l else l.take j++n::l.drop j
 | [],n,j,_,_,e=>by obtain rfl:j=0:=oaZ;simp[yj]
 |c::l,n,0,_,d,_=>by
  have:=d c rfl;unfold yj;rw[zN this];by_cases g:c=n
  ·subst g;simp
  ·rw[zN g,zN (by simpa using g)];simp
 |c::l,n,j+1,h,d,e=>by have k:=h 0 c oa rfl;have i:=zkW l n j (fun b a m f=>h (b+1) a oa obh) (fun a f=>d a obh) oaZ;unfold yj;rw[zP k,i];simp only[vN,zfV,zjd,yD];split<;> rfl
theorem ztv:(Tryz.prog.info? 43).map (fun i=>(i.zero,i.size,i.bytes))=some (some (.int .u64 0),1,8):=oe
theorem zG.setU{base:Nat}{w:zC}{g n cap j:Nat}{l:List Int}(x:Int)(a:zG base 43 1 vs w (.slice (some g) n cap) l)(b:j<l.length):
 zG base 43 1 vs (w.setCell (g,j) x) (.slice (some g) n cap) (l.set j x):=by
 have:=zG.set (k:=1) (i:=0) (z:=x) (u:=x) zc2 a (xG b) oa rfl;simpa using this
theorem Mods.trans'{S T:Nat->Prop}{a b c:zC}(e:Mods S a b)(g:Mods T b c)(j:∀d,T d->S d\/a.heap.size<=d):Mods S a c:=
 ⟨g.os.trans e.os,g.tape.trans e.tape,g.output.trans e.output,zk e.size g.size,fun d f i=>(g.block d (zg f e.size) (fun k=>by rcases j d k with h|h;exact i h;omega)).trans (e.block d f i)⟩
theorem tP {p:Prop}(h:p:=by
 obtain⟨m,rfl⟩:∃m',m=m'+1:=⟨m - 1,oa⟩;obtain⟨y,hy⟩:∃y,l[m]?=some y:=⟨l[m],by simp[show m<l.length by omega]⟩;obtain⟨g2,e2,_,_,hfr,hc⟩:=zG.elem zc2 hO2 (j:=m) (x:=y) (by rw[zin l (m+1) c m (by omega) hml];exact hy);cases e2;have c0:wr.cell? (g',m)=y:=by simpa using hc 0 _ rfl
 have f0:=hfr (m+1);obtain⟨g3,e3,_,_,_,hc3⟩:=zG.elem zc2 hO2 (j:=m+1) (x:=c) (by rw[zd9 l (m+1) c hml]);cases e3;have c1:wr.cell? (g',m+1)=c:=by simpa using hc3 0 _ rfl
 clear hc3;have hs:=hO2.setU (j:=m+1) y (by rw[zeA l (m+1) c hml];omega);rw[zim l m c y hml hy] at hs;have HS:=zA hs;have HM3:=zA (hM2.o.setAt (p:=(g',m+1)) (.inl rfl) y);clear hs hO2 hfr hc;have q1:((m+1:Nat):Int) - 1=m:=oa;have q2:(0:Int)<=(m:Int):=oa;have q3:decide ((k:Int)<(m:Int)+1)=true:=oi;go_wp2;go_roundw;case rel=>exact⟨m,y,oa,oa,ou,HS.o,HM3⟩
 case measure=>simp[intOf]<;> omega):p:=h
theorem tS {p:Prop}(h:p:=by
 go_upto_region 6 with fail;go_wp2_with (at_builtin;refine jL _ rfl _ _ 230 rfl base 43 i0 zH 1 8 Tryz.underlying230 hi hz0 hz1 hz2 rfl ol _ _ _ rfl (HOW.o) w 1 1 (vs 0) rfl rfl ?c1 ?c2 ?c3 ?c4 ?c5 ?_);case c1=>exact fun j u hu=>hu
 case c2=>intro u hu;simp[vs] at hu;subst hu;rfl
 case c3=>have:=HN.o;unfold maxLen;omega
 case c4=>have:=HN.o;omega
 case c5=>omega
 intro v' w1 hown' hgrow hne hblk;obtain⟨g',cap',rfl⟩:=ownsRow_succ hown';have hO1:zG base 43 1 vs w1 (.slice (some g') (l.length+1) cap') (l++[0]):=zG.snoc rfl hown';have hM1:Mods S w w1:=((Mods.refl _ w).alloc _).grown hgrow (fun b e=> .inl (by rw[HS0.o];exact e));have hG1:g'=w+1\/S g':=by
  rcases hblk with h|h
  ·exact .inr (by rw[HS0.o];exact h.symm)
  ·left;cases h;simp
 clear hown' hgrow hne hblk;have hg1:=(hO1.lt (b:=g') rfl);have HO1:=zA hO1;have HM1:=zA hM1;have HG1:=zA hG1;clear hO1 hM1 hG1;go_wp2;go_loopw [6] (fun a wr=>∃(m:Nat) (c:Int),k<=m/\m<=l.length/\a=zB m/\zG base 43 1 vs wr (.slice (some g') (l.length+1) cap') (l.take m++c::l.drop m)/\qP (Mods (fun b=>b=g') w1 wr)) (fun a _=>(intOf a).toNat);case atStart=>exact⟨l.length,0,hk,zU _,ou,by simpa using HO1.o,zA (Mods.refl _ _)⟩
 case round=>
  obtain⟨m,c,hkm,hml,rfl,hO2,hM2⟩:=hrel;by_cases hmk:k<m
  ·first|(exfalso;omega)|exact tP
  ·obtain rfl:m=k:=(by omega);have hnl:decide ((m:Int)<m)=false:=oh;obtain⟨g2,e2,_,_,hfr,hc⟩:=zG.elem zc2 hO2 (j:=m) (x:=c) (by rw[zd9 l m c hml]);cases e2;have f0:=hfr m;have c1:wr.cell? (g',m)=c:=(by simpa using hc 0 _ rfl);have hs:=hO2.setU (j:=m) x (by rw[zeA l m c hml];omega);rw[zio l m c x hml] at hs;have HS:=zA hs;have HM3:=zA (hM2.o.setAt (p:=(g',m)) (.inl rfl) x);clear hs hO2 hfr hc;go_wp2;go_ret;refine⟨_,rfl,by rw[HR.o];exact HS.o,?_,?_⟩
   ·rcases HG1.o with e|e
    ·exact .inr fun b hb=>(by have:g'=b:=zaJ hb;omega)
    ·rw[HS0.o] at e;exact .inl e.symm
   ·rw[<-HS0.o];refine HM1.o.trans' HM3.o fun b hb=> ?_;subst hb;rcases HG1.o with e|e
    ·exact .inr oa
    ·exact .inl e):p:=h
theorem zkX(base:Nat)(v:zJ)(l:List Int)(x:Int)(w:zC)(h:zG base 43 1 vs w v l)(E:base<=w)(z:l.length<=100000):
 Calls Tryz.prog 208 #[v,.int .u64 x] w (zrj base 43 1 vs v (yj l x) w):=by
 obtain⟨i0,hi,hz0,hz1,hz2⟩:=yI ztv;obtain⟨p,s,rfl⟩:=h.len;obtain⟨S,HS0⟩:∃S:Nat->Prop,qP (S=fun k=>(Value.slice p l.length s).ownBlock=some k):=⟨_,zA rfl⟩;have r:=zA h;have HOW:=zA (show World.ownsRow (w.alloc (.cells #[zH] 43)) base 43 1 (.slice p l.length s) l.length (l.flatMap vs) from zbn h _);have HN:=zA z;have H:=zA (fun b hb=>h.lt (b:=b) hb);clear h;go_enter Tryz.func208,Tryz.ntmps208;go_wp2;go_loop [5] (fun a=>∃k:Nat,k<=l.length/\a=zB k/\qP (∀e c,e<k->l[e]?=some c->c<x)) (fun a=>l.length - (intOf a).toNat);case atStart=>exact⟨0,xO _,rfl,zA fun e c h=>oa⟩
 case round=>
  obtain⟨k,hk,rfl,q⟩:=hrel;have t:(∀c,l[k]?=some c->¬c<x)->qP (yj l x=if l[k]?=some x then l else l.take k++x::l.drop k):=fun A=>zA (zkW l x k q.o A hk);have f:=zA t;clear t;by_cases y:k<l.length
  ·obtain⟨c,g⟩:∃c,l[k]?=some c:=⟨l[k],by simp[y]⟩;obtain⟨i,rfl,D,C,hfr,hc⟩:=zG.elem zc2 r.o g;have F:w.cell? (i,k)=c:=(by simpa using hc 0 _ rfl);have G:=zA hfr;clear hfr hc;by_cases j:c<x
   ·have u:decide (c<x)=true:=(by simpa using j);go_wp2;go_round;case rel=>exact⟨k+1,oa,ou,zA fun e n hi d=>by
     rcases qs e k with i|i
     ·exact q.o e n i d
     ·obtain rfl:e=k:=(by omega);rw[g] at d;cases d;exact j⟩
    case measure=>simp[intOf];omega
   ·have u:decide (c<x)=false:=(by simpa using j);have HS:=f.o (fun n d=>by rw[g] at d;cases d;exact j);by_cases m:c=x
    ·subst m;have HR:=zA (HS.o.trans (zP g));clear HS f;have B:((c:Int)==c)=true:=oh;go_wp2;go_ret;exact⟨_,rfl,by rw[HR.o];exact r.o,.inl rfl,Mods.refl _ _⟩
    ·have HR:=zA (HS.o.trans (zN (by rw[g];simpa using m)));clear HS f;have B:((c:Int)==x)=false:=(by simpa using m);exact tS
  ·have o:l[k]?=none:=vp oa;have HS:=f.o (fun n d=>by rw[o] at d;cases d);have HR:=zA (HS.o.trans (zN (by rw[o];simp)));clear o HS f;exact tS
section
section
variable {P:Program}{ops:Array Oper}{md:Region.Mode}{S:World->Prop}{Q:Exit->Act->World->Prop}
def qT(P:Program)(md:Region.Mode)(ops:Array Oper)(Q:Exit->Act->World->Prop)(S:World->Prop)(n:Nat):Nat->Array Bool->Act->World->Prop
 |0,a,c,b=>Region.ready md ops a= []/\Q .normal c b
 |f+1,a,c,b=>(Region.ready md ops a= []->Q .normal c b)/\
  ∀d∈Region.ready md ops a,wpOp P ops Q d (fun g e=>(d<n->S e)/\qT P md ops Q S n f (a.setIfInBounds d true) g e) c b
theorem zd5{n:Nat}:∀(b:Nat) (d:Array Bool) (a:Act) (w:zC),qT P md ops Q S n b d a w->wpAny P md ops Q b d a w
 |0,_,_,_,c=>c
 |b+1,_,_,_,c=>⟨c.1,fun e h=>j2 (fun g f i=>zd5 b _ g f i.2) (c.2 e h)⟩
theorem zrH {n i:Nat}{g:Oper}{v:zJ}(C:ops[i]?=some g) (af:i<n) (H:∀(j:Nat) (o:Oper) q r,ops[j]?=some o->o.op≠.select q r)
 (X:∀B,n<=B->B<ops.size->Region.waitsFor md ops B i=true)
 (ac:∀I a w,Q (.panic I) (a.put g.dst v) w->Q (.panic I) a w):
 ∀(t:Nat) (c:Array Bool) (a:Act) (w:zC),
  (∀j d,ops[j]?=some d->j≠i->c.getD j true=false->(∀b∈d.after,Region.binds md b=true->b.on≠i)->g.apart ops d=true)->
  i∈Region.ready md ops c->YieldsIf P ops S g v a->S w->
  qT P md ops Q S n t (c.setIfInBounds i true) (a.put g.dst v) w->qT P md ops Q S n (t+1) c a w:=by
 intro t
 induction t with
 |zero=>
  intro c a w _ h y m p;refine⟨fun f=>(by rw[f] at h;cases h),fun j u=> ?_⟩;by_cases e:j=i
  ·subst e;exact y.wpOp C m ⟨fun _=>m,p⟩
  ·have:=zeU u e;rw[p.1] at this;cases this
 |succ t ab=>
  intro c a w F h y m p;refine⟨fun f=>(by rw[f] at h;cases h),fun j u=> ?_⟩;by_cases e:j=i
  ·subst e;exact y.wpOp C m ⟨fun _=>m,p⟩
  ·have z:=p.2 j (zeU u e);obtain⟨G,d,l,N⟩:=zfW.1 u;have J:∀b∈d.after,Region.binds md b=true->b.on≠i:=fun b D A R=>(by have z:=N b D A;rw[R,getD_both (zfW.1 h).1] at z;cases z);have Z:j<n:=by
    rcases qs j n with f|f
    ·exact f
    ·obtain⟨V,M,b,D,A,ae⟩:=Region.waitsFor_spec (X j f (aL l));obtain rfl:V=d:=zaJ (M.symm.trans l);exact absurd ae (J b D A)
   have O:=wpOp_putIf l (F j d l e G J) (fun q r=>H i g q r C) (fun q r=>H j d q r l) ac y z;have W:∀k s,ops[k]?=some s->k≠i->(c.setIfInBounds j true).getD k true=false->
    (∀b∈s.after,Region.binds md b=true->b.on≠i)->g.apart ops s=true:=fun k s ad aa K Y=>by
    refine F k s ad aa ?_ Y;by_cases E:j=k
    ·subst E;exact G
    ·rw[getD_set_ne true E] at K;exact K
   refine j2 (fun T L x=>⟨x.2.1,ab (c.setIfInBounds j true) T L W (zeU h (zeT e)) x.1 (x.2.1 Z) ?_⟩) O;rw[Array.setIfInBounds_comm _ _ e];exact x.2.2
def zd6(o:Op):Bool:=match o with
 | .load _ _| .fieldAddr _ _ _| .move _| .lookup _ _ _ _| .extract _ _| .field _ _ _| .binOp _ _ _ _ _| .unOp _ _ _| .pick _ _ _| .assign _| .build _ _| .indexAddr _ _ _| .convert _ _ _=>true
 | .nilCheck _=>true
 |_=>false
theorem zmK{s:Sem Value}{w w':zC}{b:Next}(a:(do pure (Next.value (<-s)):Sem Next).run P w= .ok b w'):∃c,b= .value c:=by
 rw[yU] at a;cases hs:s.run P w with
 |ok f d=>rw[hs] at a;simp only[yY,qI] at a;cases a;exact⟨_,rfl⟩
 |halt e d=>rw[hs] at a;cases a
theorem zih{α β:Type}{s:Sem α}{k:α->Sem β}{w w':zC}{x:β}(a:(s >>=k).run P w= .ok x w'):∃d b,(k d).run P b= .ok x w':=by
 rw[yU] at a;cases hs:s.run P w with
 |ok c b=>rw[hs] at a;exact⟨c,b,a⟩
 |halt x b=>rw[hs] at a;cases a
theorem zmL{o:Oper}{g:Operand->Value}{w w':zC}{e:Next}(j:zd6 o.op=true)(h:(execOp g o).run P w= .ok e w'):∃b,e= .value b:=by
 unfold execOp at h;revert h;cases ho:o.op<;> rw[ho] at j<;> first|(simp[zd6] at j;done)|skip
 all_goals (intro a;simp only[] at a;first|exact zmK a|(simp only[qI] at a;cases a;exact⟨_,rfl⟩)|skip)
 case pick k i f=>
  rw[yU] at a;cases hb:(asBool (g k)).run P w with
  |ok v c=>rw[hb] at a;simp only[yY,qI] at a;cases a;exact⟨_,rfl⟩
  |halt i c=>rw[hb] at a;cases a
 case nilCheck i=>
  generalize g i=f at a;have d:∀{b:zJ}{c:zC},(pure (Next.value b):Sem Next).run P c= .ok e w'->∃b,e= .value b:=by intro b c h;rw[qI] at h;cases h;exact⟨_,rfl⟩
  split at a
  ·exact absurd a (by simp[runtimePanic])
  ·exact absurd a (by simp[runtimePanic])
  ·exact absurd a (by simp[runtimePanic])
  ·split at a
   ·exact absurd a (by simp[runtimePanic])
   ·obtain⟨f,c,a⟩:=zih a;obtain⟨f,w3,a⟩:=zih a;split at a
    ·obtain⟨f,l,a⟩:=zih a;exact d a
    ·exact d a
   ·exact d a
  ·exact d a
theorem zrI{o:Oper}{a:Act}{w:zC}{v:zJ}(d:zd6 o.op=true)(b:o.quietAt P a S w v):(execOp a.eval o).run P w= .ok (.value v) w:=by
 unfold Oper.quietAt at b;cases hs:(execOp a.eval o).run P w with
 |halt g e=>rw[hs] at b;exact b.elim
 |ok h e=>
  obtain⟨i,rfl⟩:=zmL d hs;rw[hs] at b;obtain⟨f,c⟩:=b;rw[f,c]
theorem zrJ{o:Oper}{v:zJ}{a:Act}(d:zd6 o.op=true)(b:YieldsIn P ops S o v a):YieldsIf P ops S o v a:=by
 rcases b with⟨e,c⟩|b
 ·exact .inl ⟨e,fun g f=>zrI d (c g f)⟩
 ·exact .inr b
def zgd(md:Region.Mode)(ops:Array Oper)(n:Nat):List Nat->Array Bool->Bool
 | [],_=>true
 |a::rs,b=>(match ops[a]? with|some o=>zd6 o.op|none=>false) && decide (a<n) && (Region.ready md ops b).contains a && Region.free md ops b a && zgd md ops n rs (b.setIfInBounds a true)
def zdJ:List Nat->Array Bool->Array Bool
 | [],a=>a
 |b::rs,a=>zdJ rs (a.setIfInBounds b true)
def ze6(md:Region.Mode)(ops:Array Oper)(n:Nat)(rs:List Nat):Bool:=
 (List.range ops.size).all fun t=>decide (t<n) || rs.all fun i=>Region.waitsFor md ops t i
theorem zmM{n:Nat}(l:Region.noSelect ops=true)(o:∀i a q k w,Q (.panic i) (Act.put a q k) w->Q (.panic i) a w):
 ∀(rs:List Nat) (h:Nat) (e:Array Bool) (a:Act) (w:zC) (g:Act->Prop),ze6 md ops n rs=true->zgd md ops n rs e=true->S w->
 (∀a,g a->qT P md ops Q S n h (zdJ rs e) a w)->wpQuiet P ops S g (rs.map fun d=>(ops[d]?).getD default) a->qT P md ops Q S n (h+rs.length) e a w
 | [],h,e,a,w,g,_,_,_,hF,b=>hF a b
 |d::rs,h,e,a,w,g,f,p,m,hF,b=>by
  simp only[zgd,xr,xW] at p;obtain⟨⟨⟨⟨j,D⟩,A⟩,B⟩,s⟩:=p;cases ho:ops[d]? with
  |none=>rw[ho] at j;cases j
  |some x=>
   rw[ho] at j;have r:qOp P ops S d (wpQuiet P ops S g (rs.map fun d=>(ops[d]?).getD default)) a:=(by unfold qOp;simp only[ho];simpa[ho,wpQuiet] using b);obtain⟨k,v,z⟩:=yieldsIn_of_qOp ho r;have y:ze6 md ops n rs=true:=by
    unfold ze6 at f ⊢;rw[zaq] at f ⊢;intro c t;have:=f c t;simp only[zhN,qx,xr] at this ⊢;rcases this with b|b
    ·exact .inl b
    ·exact .inr b.2
   have C:∀c,n<=c->c<ops.size->Region.waitsFor md ops c d=true:=by
    intro c E u;unfold ze6 at f;rw[zaq] at f;have:=f c (zbj.2 u);simp only[zhN,qx,xr,xW] at this;rcases this with b|b
    ·omega
    ·exact b.1
   exact zrH ho D (Region.noSelect_spec l) C (fun i a w=>o i a x.dst k w) (h+rs.length) e a w (Region.free_spec ho B) (by simpa using A) (zrJ j v) m
    (zmM l o rs h _ _ w g y s m hF z)
def jI(P:Program)(ops:Array Oper)(Q:Exit->Act->World->Prop)(S:World->Prop)(n:Nat):List Nat->Act->World->Prop
 | [],a,b=>Q .normal a b
 |c::ms,a,b=>wpOp P ops Q c (fun e d=>(c<n->S d)/\jI P ops Q S n ms e d) a b
def zd7(md:Region.Mode)(ops:Array Oper):List Nat->Array Bool->Bool
 | [],a=>(Region.ready md ops a).isEmpty
 |b::ms,a=>decide (Region.ready md ops a= [b]) && zd7 md ops ms (a.setIfInBounds b true)
theorem zge{n:Nat}:∀(c:List Nat) (e:Array Bool) (a:Act) (w:zC),zd7 md ops c e=true->jI P ops Q S n c a w->qT P md ops Q S n c.length e a w
 | [],_,_,_,b,d=>⟨by simpa[zd7] using b,d⟩
 |k::c,e,a,w,b,d=>by
  simp only[zd7,xr,xW] at b;refine⟨fun f=>(by rw[b.1] at f;cases f),fun i g=> ?_⟩;rw[b.1] at g;obtain rfl:i=k:=by simpa using g
  exact j2 (fun l j h=>⟨h.1,zge c _ l j b.2 h.2⟩) d
def zmN(md:Region.Mode)(ops:Array Oper)(n:Nat)(rs a:List Nat):Bool:=
 Region.noSelect ops && ze6 md ops n rs && zgd md ops n rs (Array.replicate ops.size false) && zd7 md ops a (zdJ rs (Array.replicate ops.size false)) && decide (a.length+rs.length=ops.size)
theorem zrK {id:Nat}{a:Act}{w:zC}{l:List Oper}(n:Nat) (rs b:List Nat) (S:World->Prop) (u:P.follows .mixedOrders=true) (d:zmN .any l.toArray n rs b=true)
 (s:∀e a g p w,Q (.panic e) (Act.put a g p) w->Q (.panic e) a w) (q:S w.drew)
 (m:wpQuiet P l.toArray S (fun c=>jI P l.toArray Q S n b c w.drew) (rs.map fun o=>(l[o]?).getD default) a):(Code.region id l.toArray true).wp P Q a w:=by
 unfold zmN at d;simp only[xr,xW] at d;obtain⟨⟨⟨⟨t,j⟩,h⟩,k⟩,r⟩:=d;refine zhO u (zd5 (S:=S) (n:=n) _ _ _ _ ?_);suffices f:qT P .any l.toArray Q S n (b.length+rs.length) (Array.replicate l.toArray.size false) a w.drew by rw[r] at f;exact f
 refine zmM t s rs b.length _ a w.drew _ j h q (fun c i=>zge b _ c _ k i) ?_;simpa using m
theorem zrL {n i:Nat}{f:List Nat}{a:Act}{w:zC}{o:Oper}(h:ops[i]?=some o)
 (b:wpList P ops (fun e g d=>match e with| .normal=>(i<n->S d)/\jI P ops Q S n f g d|e=>Q e g d) [o] a w):jI P ops Q S n (i::f) a w:=by
 unfold jI wpOp;simp only[h];unfold wpList at b;split
 ·rename_i c;rw[zP c] at b;exact b
 ·rename_i c;rw[zN c] at b;exact b
end
theorem xE{P:Program}{ops:Array Oper}{Q:Exit->Act->World->Prop}{S:World->Prop}{n:Nat}{a:Act}{w:zC}(h:Q .normal a w):jI P ops Q S n [] a w:=h
structure zI (T:Nat->Prop) (W:zC) where
 val:World
 h:Mods T W val
theorem zI.cell{T:Nat->Prop}{W:zC}{a:Addr}{v:zJ}(b:a.block<W)(d:¬T a.block)(c:W.cell? a=some v)(s:zI T W):s.val.cell? a=some v:=
 (xA (w:=W) (s.h.block a.block b d)).trans c
theorem aV{W:zC}{a:Addr}{v:zJ}(h:W.cell? a=some v)(s:zI zX W):s.val.cell? a=some v:=zI.cell (aI h) id h s
theorem aD{w:zC}{b:Nat}{l:List Value}{T:TypeId}{u:Nat×Nat}{v:zJ}(c:w.heap[b]?=some (.cells l.toArray T u))(i:Nat)(d:l[i]?=some v:=by rfl)(a:zI zX w):a.val.cell? (b,i)=some v:=aV (aC c i d) a
theorem zI.of{T:Nat->Prop}{W w':zC}(h:∃p:zI T W,w'=p.val):Mods T W w':=by obtain⟨p,rfl⟩:=h;exact p.h
theorem zI.to{T:Nat->Prop}{W w':zC}(h:Mods T W w'):∃p:zI T W,w'=p.val:=⟨⟨w',h⟩,rfl⟩
instance(T:Nat->Prop)(W:zC):Nonempty (zI T W):=⟨⟨W,Mods.refl _ _⟩⟩
end
end Go.Proofs.YtimlgcodecgecaaGreatDoor
