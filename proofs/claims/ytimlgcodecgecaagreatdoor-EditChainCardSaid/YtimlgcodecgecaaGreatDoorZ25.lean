/- The reference's Run (quireref9): a run unit by unit; Len, Find, At. -/
import Derived.Test.YtimlgcodecgecaaGreatDoorZ24
import Derived.Laws.FloatArith
set_option maxRecDepth 100000
set_option maxHeartbeats 20000000
set_option linter.all false
namespace Go.Proofs.YtimlgcodecgecaaGreatDoor
open Go.RowKit Go.Lib
section
variable {Φ:yA}
def zV.nth(u:zV):Nat->zV
 |0=>u
 |n+1=>u.next.nth n
theorem zV.nth_snoc:∀(n:Nat) (u:zV),u.nth (n+1)=(u.nth n).next
 |0,_=>rfl
 |n+1,u=>zV.nth_snoc n u.next
theorem zV.nth_eq:∀(n:Nat) (u:zV),(u.nth n).id=⟨u.id.c,u.id.k+n⟩/\(u.nth n).right=u.right
 |0,u=>by simp[zV.nth]
 |n+1,u=>by have:=zV.nth_eq n u.next;refine⟨this.1.trans ?_,this.2⟩;simp only[zV.next,zF.mk.injEq,zfc];omega
theorem zE.insN_snoc:∀(n:Nat) (s:zE) (u:zV),s.insN u (n+1)=(s.insN u n).ins (u.nth n)
 |0,_,_=>rfl
 |n+1,s,u=>zE.insN_snoc n (s.ins u) u.next
theorem zE.may_next{S:zE}{u:zV}(c:S.Wf)(k:S.may u=true)(r:u.next.id.rightB=true)(q:S.find u.next.id=none):(S.ins u).may u.next=true:=by
 obtain⟨p,j,x,m,t⟩:=zE.may_iff.1 k;obtain⟨_,_,_,_,f,h⟩:=zE.ins_any c p j;have n:u.next.id≠u.id:=by intro d;have:u.id.k+1=u.id.k:=congrArg zF.k d;omega
 have l:(S.ins u).find u.id=some S.l.length:=by rw[h.find c f,zP rfl]
 have i:∀g,S.find g≠none->(S.ins u).find g=S.find g:=fun g s=>by rw[h.find c f,zN (by rintro rfl;exact s j)]
 refine zE.may_iff.2 ⟨r,by rw[h.find c f,zN n,q],?_,?_,?_⟩
 ·unfold zE.named;rw[show u.next.left=u.id from rfl,l];simp
 ·rcases zdm m with d|⟨o,b⟩
  ·unfold zE.named;rw[show u.next.right=u.right from rfl,d];simp
  ·unfold zE.named;rw[show u.next.right=u.right from rfl,i _ (by rw[b];simp),b];simp
 ·intro w v e a;rw[show u.next.left=u.id from rfl] at e;rw[show u.next.right=u.right from rfl] at a;unfold zE.findP at e a;rw[l] at e;rcases zdm m with d|⟨o,b⟩
  ·rw[d,f.find_zero] at a;cases a
  ·rw[i _ (by rw[b];simp),b] at a;cases e;cases a;exact zE.ins_ahead c k b
theorem zE.may_run:∀(n:Nat) (S:zE) (u:zV),S.Wf->S.may u=true->(∀i:Nat,0<i->i<=n->(⟨u.id.c,u.id.k+i⟩:zF).rightB=true/\S.find ⟨u.id.c,u.id.k+i⟩=none)->(S.insN u n).may (u.nth n)=true/\(S.insN u n).l.length=S.l.length+n
 |0,_,_,_,b,_=>⟨b,rfl⟩
 |n+1,S,u,c,b,h=>by
  obtain⟨o,k,_,_,_⟩:=zE.may_iff.1 b;obtain⟨_,_,_,_,f,e⟩:=zE.ins_any c o k;have j:=h 1 oa oa;have m:=zE.may_next c b j.1 j.2;have g:=zE.may_run n (S.ins u) u.next f m fun i p q=>by
   have l:=h (i+1) oa oa;have d:(⟨u.next.id.c,u.next.id.k+i⟩:zF)=⟨u.id.c,u.id.k+(i+1:Nat)⟩:=(by simp only[zV.next,zF.mk.injEq,zfc];omega);rw[d,e.find c f,zN ?_]
   ·exact l
   ·intro d;have:=congrArg zF.k d;simp at this;omega
  exact⟨g.1,by rw[show S.insN u (n+1)=(S.ins u).insN u.next n from rfl,g.2,e.len];omega⟩
def vx(w:zC)(a:Nat)(u:zV):Prop:=w.heap[a]?=some (.cells #[u.id.c,u.id.k,u.left.c,u.left.k,u.right.c,u.right.k] 133 (0,0))
theorem jp{w:zC}{b:Nat}{u:zV}(c:vx w b u)(i:Nat):w.cell? (b,i)=(#[Value.int .u64 u.id.c,u.id.k,u.left.c,u.left.k,u.right.c,u.right.k])[i]?:=by unfold vx at c;simp[World.cell?,c]
theorem zx.offB{α:Type}{k:Nat}{enc:α->List Value}{w w':World}{v:Value}{l:List α}{h:Nat}(j:zx Φ k enc w v l)(t:∀d e,¬∀b c,(enc d)[b]?=some c->w.cell? ⟨h,e+b,none⟩=some c)(x:w.heap.size<=w'.heap.size)(q:∀a,a<w.heap.size->a≠h->w'.heap[a]?=w.heap[a]?):zx Φ k enc w' v l:=by
 refine⟨?_,j.2⟩;rcases j.1 with p|⟨a,e,u,s,r,o,m⟩
 ·exact .inl p
 ·refine .inr ⟨a,e,u,s,r,oa,fun g d i b c f=> ?_⟩;have n:a≠h:=by rintro rfl;exact t d (e+g*k) fun b c f=>m g d i b c f
  have:=m g d i b c f;rw[<-this];exact xA (w:=w) (q a o n)
theorem zh1{w:zC}{b:Nat}{u:zV}(g:vx w b u)(x c:Nat):¬∀d e,(yc x)[d]?=some e->w.cell? (b,c+d)=some e:=by
 intro f;have:=f 0 _ rfl;rw[jp g] at this;match c,this with
 |0,a=>simp at a
 |1,a=>simp at a
 |2,a=>simp at a
 |3,a=>simp at a
 |4,a=>simp at a
 |5,a=>simp at a
 |h+6,a=>rw[zcy oh] at a;cases a
theorem zug{w:zC}{b:Nat}{u:zV}(g:vx w b u)(x:xP)(f:Nat):¬∀c d,(j5 x)[c]?=some d->w.cell? (b,f+c)=some d:=by intro e;have:=e 9 _ rfl;rw[jp g,zcy oh] at this;cases this
theorem yP.offB{w w':World}{e g:Nat}{S:zE}{u:zV}(q:yP Φ w e S)(d:vx w g u)(k:e≠g)(c:w.heap.size<=w'.heap.size)(b:∀f,f<w.heap.size->f≠g->w'.heap[f]?=w.heap[f]?):yP Φ w' e S:=by
 obtain⟨s,o,l,r,m,n,a,p⟩:=q;exact⟨s,o,l,r,m,n,{
  st:=(b e a.lt k).trans a.st
  nl:=a.nl.offB (zug d) c b
  kids:=fun h i j=>⟨(a.kids h i j).1.offB (zh1 d) c b,(a.kids h i j).2.offB (zh1 d) c b⟩
  mo:=a.mo.offB (zh1 d) c b
  od:=a.od.offB (zh1 d) c b
  nn:=zk a.nn c
  fs:=a.fs},p⟩
theorem yP.find9{w:zC}{a:Nat}{S:zE}(d:yP Φ w a S)(x:zF):
 Calls zD 154 #[a,.agg #[x.c,x.k]] w fun h f=>h=(zB (yQ (S.find x)))/\Below w w f:=by
 obtain⟨l,k,c,i,e,j,g,b⟩:=d;have:=zkl a c i e j S.lf S.rt S.more S.order x w g;rwa[b.find] at this
theorem zuh (d:Nat) (S:zE) (u:zV) (c:Nat) (w:World) (h:yP Φ w d S) (n:S.may u=true) (bJ:1<=c) (bw:(c:Int) - 1<=9007199254740991 - u.id.k)
 (G:∀i:Nat,i<c->(⟨u.id.c,u.id.k+i⟩:zF).rightB=true/\S.find ⟨u.id.c,u.id.k+i⟩=none) (bu:S.l.length+c<=500000):
 Calls Tryz.prog 109 #[.pointer (some ⟨d,0,none⟩),.agg #[.int .u64 u.id.c,.int .u64 u.id.k,.int .u64 u.left.c,.int .u64 u.left.k,.int .u64 u.right.c,.int .u64 u.right.k],.int .i64 c] w fun j l=>
  j= .returned (.bool true)/\yP Φ l d (S.insN u c)/\Mods (fun e=>e=d) w l:=by
 obtain⟨J,a2,_,_,_⟩:=zE.may_iff.1 n
 have F:=fun w=>zn4 u.id w
 rw[J] at F
 have bq:d<w:=by obtain⟨_,_,bl,bs,br,bm,ao,_⟩:=h;exact ao.lt
 have bn:1<=u.id.k/\u.id.k<=9007199254740991:=by simp[zF.rightB,xi] at J;omega
 have be:IntKind.u64.wrap (c:Int)=c:=og
 have au:IntKind.u64.wrap ((c:Int) - 1)=c - 1:=og
 have ap:IntKind.u64.wrap (9007199254740991 - u.id.k)=9007199254740991 - u.id.k:=og
 have bb:¬((c:Int)<1):=oa
 have ax:¬(9007199254740991 - u.id.k<(c:Int) - 1):=oa
 have R:(!true)=false:=rfl
 have ar:=zA G
 have av:=zA n
 have Y:=zA (fun a (az:a<c)=>zE.may_run a S u h.1 n fun i _ bo=>G i oa)
 clear G n J a2
 go_enter Tryz.func109,Tryz.ntmps109
 go_upto_region 1 with fail
 generalize K:World.alloc _ _=r
 obtain⟨N,-,-⟩:=aF K
 have t:vx r w u:=by subst K;exact World.alloc_heap_new _ _
 clear K
 have z:w.heap.size<r.heap.size:=aL t
 have V:=h.below N
 have aj:Mods (fun e=>e=d) w r:=Mods.of_below N
 clear h N
 have al:r.cell? ⟨w.heap.size,0,none⟩=some (.int .u64 u.id.c):=jp t 0
 have ak:r.cell? ⟨w.heap.size,1,none⟩=some (.int .u64 u.id.k):=jp t 1
 go_upto_region 3 with(go_at_call 96;refine(F _).mono ?_;rintro j y ⟨rfl,m⟩;have a0:=(m.cell (p:=⟨w.heap.size,0,none⟩) z).trans al;have bc:=(m.cell (p:=⟨w.heap.size,1,none⟩) z).trans ak)
 have bt:=m.size
 have O:vx y w.heap.size u:=(m.block _ z).trans t
 have M:=V.below m
 have X:Mods (fun e=>e=d) w y:=aj.trans (Mods.of_below m)
 have T:w.heap.size<y.heap.size:=oa
 clear al ak a0 bc t V aj m z F bb ax be au ap R
 go_upto_region 4 with fail
 go_loopw [7] (fun i wx=>∃k:Nat,k<=c/\i=zB k/\Below y y wx) (fun i _=>c - (intOf i).toNat)
 case atStart=>exact⟨0,oa,rfl,zf _ _⟩
 case round=>
  obtain⟨k,bx,rfl,g⟩:=hrel;by_cases a6:k<c
  ·have ad:decide ((k:Int)<(c:Int))=true:=(by simp;omega);have am:=g.size;have f:vx wr w.heap.size u:=(g.block _ T).trans O;have bC:wr.cell? w=u.id.c:=jp f 0;have bB:wr.cell? ⟨w.heap.size,1,none⟩=some (.int .u64 u.id.k):=jp f 1;have ba:IntKind.u64.wrap (k:Int)=k:=og;have bz:IntKind.u64.wrap (u.id.k+(k:Int))=u.id.k+k:=og;have B:=(M.below g).find9 ⟨u.id.c,u.id.k+k⟩;rw[(ar.o k a6).2] at B;have B:=zA B;have aP:=zA g;clear f M X O g;go_wp2_with (go_at_call 154;refine B.o.mono ?_;rintro j w3 ⟨rfl,D⟩);go_roundw;case rel=>exact⟨k+1,oa,ou,zK aP.o D⟩
   case measure=>simp[intOf]<;> omega
  ·obtain rfl:k=c:=(by omega);have ad:decide ((k:Int)<(k:Int))=false:=oh;have am:=g.size;have f:vx wr w.heap.size u:=(g.block _ T).trans O;have ai:=M.below g;have ah:Mods (fun e=>e=d) w wr:=X.trans (Mods.of_below g);have ab:w.heap.size<wr.heap.size:=oa;have u0:wr.cell? ⟨w.heap.size,0,none⟩=some (.int .u64 u.id.c):=jp f 0;have u1:wr.cell? ⟨w.heap.size,1,none⟩=some (.int .u64 u.id.k):=jp f 1;have u2:wr.cell? ⟨w.heap.size,2,none⟩=some (.int .u64 u.left.c):=jp f 2;have u3:wr.cell? ⟨w.heap.size,3,none⟩=some (.int .u64 u.left.k):=jp f 3;have u4:wr.cell? ⟨w.heap.size,4,none⟩=some (.int .u64 u.right.c):=jp f 4;have u5:wr.cell? ⟨w.heap.size,5,none⟩=some (.int .u64 u.right.k):=jp f 5;have R:(!true)=false:=rfl;have s:=zoA d S u wr ai av.o oa;have an:=zA s;have bi:=zA ah;have aH:=zA f;clear s ai ah f ad;go_upto_region 10 with(go_at_call 183;refine an.o.mono ?_;rintro j ae ⟨rfl,Z,E⟩);have a3:=zA (bi.o.trans E);have a9:=zA Z;have aw:=zA (show vx ae w.heap.size u from(E.block _ ab oa).trans aH.o);have bp:w.heap.size<ae.heap.size:=(by have:=E.size;omega);clear u0 u1 u2 u3 u4 u5 Z E ab am T R;obtain⟨ac,rfl⟩:∃ac:World,ac=wr:=⟨_,rfl⟩;go_upto_region 11 with fail;go_loopw [8] (fun i wx=>∃a:Nat,1<=a/\a<=k/\i= .int .i64 a/\yP Φ wx d (S.insN u a)/\vx wx w.heap.size (u.nth (a - 1))/\Mods (fun e=>e=d) w wx) (fun i _=>k - (intOf i).toNat);case atStart=>exact⟨1,oa,oa,rfl,a9.o,aw.o,a3.o⟩
   case round=>
    obtain⟨a,bI,az,rfl,C,b,A⟩:=hrel;have a4:=zA C;have bN:=zA b;have ay:=zA A;have aq:w.heap.size<wr.heap.size:=aL b;by_cases ag:a<k
    ·have bf:decide ((a:Int)<(k:Int))=true:=(by simp;omega);obtain⟨v,hv⟩:=aY (u.nth (a - 1));have o:u.nth a=v.next:=(by rw[<-hv,<-zV.nth_snoc];congr 1;omega);rw[hv] at b;have L:=(zV.nth_eq (a - 1) u).1;rw[hv] at L;have aZ:v.id.k=u.id.k+((a - 1:Nat):Int):=congrArg zF.k L;have ba:IntKind.u64.wrap (v.id.k+1)=v.id.k+1:=og;have bL:wr.cell? w=v.id.c:=jp b 0;have bK:wr.cell? (w,1)=v.id.k:=jp b 1;have bA:wr.cell? (w,2)=v.left.c:=jp b 2;have t3:wr.cell? (w,3)=v.left.k:=jp b 3;have bD:wr.cell? (w,4)=v.right.c:=jp b 4;have bF:wr.cell? (w,5)=v.right.k:=jp b 5;have bv:wr.frozen? (w,1)=false:=oaT;have bG:wr.frozen? (w,2)=false:=oaT;have bj:wr.frozen? (w,3)=false:=oaT;have bH:=zA b;have bM:=zA o;have I:((((wr.setCell (w,2) v.id.c).setCell (w,3) v.id.k).setCell (w,1) (v.id.k+1:)).heap.size=wr):=oaE;have D:∀q,q≠w.heap.size->(((wr.setCell (w,2) v.id.c).setCell (w,3) v.id.k).setCell (w,1) (v.id.k+1:)).heap[q]?=wr.heap[q]?:=fun q x=>(by rw[zZ _ _ _ _ x,zZ _ _ _ _ x,zZ _ _ _ _ x]);have af:vx (((wr.setCell (w,2) v.id.c).setCell (w,3) v.id.k).setCell (w,1) (v.id.k+1:)) w v.next:=(by unfold vx at b ⊢;simp[World.setCell,zu,b,zV.next]);have W:Mods (fun e=>e=d) w (((wr.setCell (w,2) v.id.c).setCell (w,3) v.id.k).setCell (w,1) (v.id.k+1:)):=((A.setAt (p:=(w,2)) (.inr (zU _)) _).setAt (p:=(w,3)) (.inr (zU _)) _).setAt (p:=(w,1)) (.inr (zU _)) _;have aa:=C.offB b oa (zaI I.symm) (fun q _ x=>D q x);have H:=(Y.o a ag).1;have a5:=(Y.o a ag).2;rw[o] at H;have s:Calls zD 183 #[d,.agg #[v.id.c,(v.id.k+1:),v.id.c,v.id.k,v.right.c,v.right.k]] (((wr.setCell (w,2) v.id.c).setCell (w,3) v.id.k).setCell (w,1) (v.id.k+1:)) fun j l=>j= .returned (.bool true)/\yP Φ l d (S.insN u (a+1))/\vx l w (u.nth a)/\Mods (fun e=>e=d) w l:=(by refine(zoA d (S.insN u a) v.next _ aa H oa).mono ?_;rintro j l ⟨a8,bh,n⟩;refine⟨a8,by rw[zE.insN_snoc,o];exact bh,?_,W.trans n⟩;rw[o];exact(n.block _ (by rw[I];exact aq) oa).trans af);have bg:=zA s;clear C b A hv o L aZ I D af W aa H a5 s;go_wp2_with (go_at_call 183;refine bg.o.mono ?_;rintro j bE ⟨rfl,a7,bd,a1⟩);go_roundw;case rel=>exact⟨a+1,oa,oa,ou,a7,bd,a1⟩
     case measure=>simp[intOf]<;> omega
    ·obtain rfl:a=k:=(by omega);have bf:decide ((a:Int)<(a:Int))=false:=oh;clear C b A;go_wp2;go_ret;exact⟨rfl,a4.o,ay.o⟩
end
section
variable {Φ:yA}
theorem yP.findP9{w:zC}{a:Nat}{S:zE}(i:yP Φ w a S)(x:zF):
 Calls zD 81 #[a,.agg #[x.c,x.k]] w fun b j=>b=(zB (S.pos x))/\Below w w j:=by
 obtain⟨e,n,g,l,h,f,k,c⟩:=i;have:=zn0 a g l h f S.lf S.rt S.more S.order x w k fun m d=>by rw[c.find] at d;exact(e.mem m).2 (e.find_some.1 d).1
 have b:zaO f S.order x=S.pos x:=by unfold zaO zE.pos zE.findP;rw[c.find];cases S.find x<;> rfl
 rwa[b] at this
theorem yP.at9{w:zC}{b:Nat}{S:zE}(j:yP Φ w b S){i k:Nat}(e:S.order[i]?=some k):
 Calls zD 61 #[b,zB i] w (zhy (S.nd k).u true w):=by
 obtain⟨l,o,f,n,h,a,m,c⟩:=j;have g:k<S.l.length:=(l.mem k).1 (xn e);have d:k<a.length:=by rw[c.1];exact g
 have:=zuR b f n h a S.lf S.rt S.more S.order i k a[k] w m e jj;rwa[(c.2 k a[k] jj).1] at this
theorem yP.at9_over{w:zC}{a:Nat}{S:zE}(c:yP Φ w a S){i:Nat}(g:S.order.length<=i):
 Calls zD 61 #[a,zB i] w (zhy qu false w):=by
 obtain⟨l,j,b,f,d,h,e,k⟩:=c;exact zuS a b f d h S.lf S.rt S.more S.order i w e g
theorem yP.copy9{w:zC}{c:Nat}{S:zE}(n:yP Φ w c S)(o:S.l.length<=1000000):
 Calls zD 108 #[c] w fun g b=>∃a,g= .returned (.pointer (some ⟨a,0,none⟩))/\w.heap.size<=a/\yP Φ b a S/\Below w w b:=by
 obtain⟨s,m,j,h,d,e,k,f⟩:=n;refine(zuX c j h d e S.lf S.rt S.more S.order w k (by rw[f.1];exact o)).mono ?_;rintro g b ⟨a,p,r,l,q,i⟩;exact⟨a,r,l,⟨s,m,p,h,d,e,q,f⟩,i⟩
theorem yP.len9{w:zC}{b:Nat}{S:zE}(f:yP Φ w b S):
 Calls zD 60 #[b] w fun g c=>g=(zB S.order.length)/\Below w w c:=by
 obtain⟨h,d,j,m,k,l,a,e⟩:=f;have i:=a.lt;obtain⟨_,_,o⟩:=a.c0;obtain⟨n,p,rfl,_,_⟩:=a.od.1.shape;clear h d a e;go_enter Tryz.func60,Tryz.ntmps60;go_wp2;go_ret;exact⟨rfl,zf _ _⟩
theorem yP.empty{w:zC}{b:Nat}(d:Φ.N<=w)(hF:Φ.F b)(e:w.heap[b]?=some (.cells #[(),(),()] 213 (0,0))):yP Φ w b vT:=
 ⟨zk5,fun c a=>absurd a (by simp[vT]),_,_,_,[],{
  st:=e
  nl:=zx.nil
  kids:=fun c f a=>by simp at a
  mo:=zx.nil
  od:=zx.nil
  nn:=d
  fs:=hF},rfl,fun c f a=>by simp at a⟩
end
def yp(c n:Int)(x:zF):Int:=if x.c=c/\1<=c/\c<=9007199254740991 then max n (min x.k 9007199254740991) else n
def xN(l:List zF)(c:Int):Int:=l.foldl (yp c) 0
theorem zhu(c:Int):∀(l:List zF) (n:Int),n<=l.foldl (yp c) n/\(l.foldl (yp c) n<=n\/l.foldl (yp c) n<=9007199254740991)
 | [],n=>oh
 |a::l,n=>by
  simp only[yu];have d:=zhu c l (yp c n a);have b:n<=yp c n a/\(yp c n a<=n\/yp c n a<=9007199254740991):=by unfold yp;split<;> omega
  omega
theorem zkd(l:List zF)(c:Int):0<=xN l c/\xN l c<=9007199254740991:=by have:=zhu c l 0;unfold xN;omega
theorem zt7(l m:List zF)(c:Int):xN (l++m) c=max (xN l c) (xN m c):=by
 have g:∀(m:List zF) (a:Int),0<=a->m.foldl (yp c) a=max a (m.foldl (yp c) 0):=by
  intro m;induction m with
  |nil=>intro a h;simp;omega
  |cons b m d=>
   intro a h;simp only[yu];have f:=zhu c [b] a;have e:=zhu c [b] 0;simp only[yu,zjU] at f e;rw[d _ oa,d (yp c 0 b) oa];have:yp c a b=max a (yp c 0 b):=(by unfold yp;split<;> omega);omega
 unfold xN;rw[vK];exact g m _ (zkd l c).1
theorem zt8{l:List zF}(a:zax l)(c:Int):xN l c=qS l c:=by
 have m:∀(e:List zF) (c:Int) (d:Int),(∀b∈e,b.c≠c)->e.foldl (yp c) d=d:=by
  intro e c;induction e with
  |nil=>intro d _;rfl
  |cons b e i=>
   intro d a;simp only[yu];rw[show yp c d b=d from zN (fun j=>a b oh j.1)];exact i d fun g f=>a g obt
 have go:∀(l:List zF),zax l->xN l c=qS l c:=by
  intro l;induction l with
  |nil=>intro _;rfl
  |cons b l i=>
   intro a;have k:=yr.1 a.ord;have o:=a.ok b oh;have n:zax l:=⟨fun g f=>a.ok g obt,k.2⟩;unfold xN qS;simp only[yu,zg9];by_cases h:b.c=c
   ·rw[zeX h];simp only;rw[m l c _ fun g f=>by have:=k.1 g f;omega];unfold yp;rw[zP ⟨h,oa⟩];omega
   ·rw[zhZ h];simp only;rw[show yp c 0 b=0 from zN fun j=>h j.1];have:=i n;unfold xN qS at this;exact this
 exact go l a
theorem zno:∀{l m:List zF}(_:zax l) (_:zax m) (_:∀c,qS l c=qS m c),l=m
 | [],[],_,_,_=>rfl
 | [],e::m,_,i,h=>by have:=h e.c;have r:=i.ok e oh;simp[qS] at this;omega
 |x::l,[],j,_,h=>by have:=h x.c;have r:=j.ok x oh;simp[qS] at this;omega
 |x::l,e::m,j,i,h=>by
  have p:=yr.1 j.ord;have o:=yr.1 i.ord;have w:=j.ok x oh;have y:=i.ok e oh;have u:zax l:=⟨fun a b=>j.ok a jA,p.2⟩;have v:zax m:=⟨fun a b=>i.ok a jA,o.2⟩;have k:∀{l:List zF}{c:Int},(∀a∈l,a.c≠c)->qS l c=0:=fun {l c} s=>by unfold qS;rw[zcL.2 fun a b=>by simpa using s a b]
  have g:∀(x:zF) (l:List zF) (c:Int),qS (x::l) c=if x.c=c then x.k else qS l c:=fun x l c=>by unfold qS;rw[zg9];by_cases f:x.c=c<;> simp[f]
  have n:x.c=e.c:=by
   rcases Int.lt_trichotomy x.c e.c with f|f|f
   ·exfalso;have d:=h x.c;rw[g,g,zP rfl,zN oa,k fun a b=>by have:=o.1 a b;omega] at d;omega
   ·exact f
   ·exfalso;have d:=h e.c;rw[g,g,zN oa,zP rfl,k fun a b=>by have:=p.1 a b;omega] at d;omega
  have q:x.k=e.k:=by have d:=h x.c;rw[g,g,zP rfl,zP n.symm] at d;exact d
  have t:x=e:=by cases x;cases e;simp only at n q;subst n q;rfl
  subst t;refine congrArg _ (zno u v fun c=> ?_);have d:=h c;rw[g,g] at d;by_cases f:x.c=c
  ·rw[k fun a b=>by have:=p.1 a b;omega,k fun a b=>by have:=o.1 a b;omega]
  ·rw[zN f,zN f] at d;exact d
def zei(l:List zF):List Int:=l.foldl (fun b a=>if xN l a.c=0 then b else yj b a.c) []
def zaY(l:List zF):List zF:=(zei l).map fun c=>⟨c,xN l c⟩
theorem zke(f:zF->Bool):∀(m:List zF) (a:List Int),a.Pairwise (·<·)->(m.foldl (fun a b=>if f b then a else yj a b.c) a).Pairwise (·<·)/\∀d,d∈m.foldl (fun a b=>if f b then a else yj a b.c) a↔d∈a\/∃b∈m,f b=false/\b.c=d
 | [],a,e=>⟨e,oh⟩
 |b::m,a,e=>by
  simp only[yu];cases g:f b
  ·have c:=zke f m (yj a b.c) (zf6 _ _ e);simp only[jW,jX];refine⟨c.1,fun d=> ?_⟩;rw[c.2,zew];simp only[xK];grind
  ·have c:=zke f m a e;simp only[vJ];refine⟨c.1,fun d=> ?_⟩;rw[c.2];simp only[xK];grind
theorem znp{l:List zF}{c:Int}(b:xN l c≠0):1<=c/\c<=9007199254740991/\∃d∈l,d.c=c:=by
 have m:∀(l:List zF) (a:Int),l.foldl (yp c) a≠a->1<=c/\c<=9007199254740991/\∃d∈l,d.c=c:=by
  intro l;induction l with
  |nil=>intro a b;exact absurd rfl b
  |cons d l g=>
   intro a b;simp only[yu] at b;by_cases e:d.c=c/\1<=c/\c<=9007199254740991
   ·exact⟨e.2.1,e.2.2,d,oh,e.1⟩
   ·rw[show yp c a d=a from zN e] at b;obtain⟨i,f,k,h,j⟩:=g a b;exact⟨i,f,k,by simp[h],j⟩
 exact m l 0 b
theorem znq(l:List zF):zax (zaY l)/\∀a,qS (zaY l) a=xN l a:=by
 have f:=zke (fun b=>decide (xN l b.c=0)) l [] List.Pairwise.nil;have e:zei l=l.foldl (fun i b=>if decide (xN l b.c=0)=true then i else yj i b.c) []:=by unfold zei;simp only[decide_eq_true_eq]
 rw[<-e] at f;have g:∀a,a∈zei l↔xN l a≠0:=fun a=>by
  rw[f.2];simp only[zfS,false_or,zaN];constructor
  ·rintro⟨b,_,d,rfl⟩;exact d
  ·intro c;obtain⟨_,_,b,d,e⟩:=znp c;exact⟨b,d,by rw[e];exact c,e⟩
 refine⟨⟨?_,?_⟩,fun a=> ?_⟩
 ·intro b d;obtain⟨a,c,rfl⟩:=xz.1 d;have k:=(g a).1 c;have h:=znp k;have m:=zkd l a;exact⟨h.1,h.2.1,by show 1<=xN l a;omega,m.2⟩
 ·exact zeO.2 f.1
 ·unfold qS zaY;rw[zcw];by_cases c:xN l a=0
  ·rw[c];rw[zcL.2 fun b d=>by have:=(g b).1 d;simp only[Function.comp,xW];rintro rfl;exact this c];rfl
  ·have n:=(g a).2 c;have j:(zei l).find? ((fun b:zF=>decide (b.c=a)) ∘ fun a=>⟨a,xN l a⟩)=some a:=by
    rcases hfi:(zei l).find? ((fun b:zF=>decide (b.c=a)) ∘ fun a=>⟨a,xN l a⟩) with _|o
    ·have:=zcL.1 hfi a n;simp at this
    ·have:=zar hfi;simp only[Function.comp,xW] at this;rw[this]
   rw[j];rfl
theorem zkf(v:zJ)(l:List zF)(c:Int)(w:zC)(j:zc 2 zn w v l):
 Calls zD 79 #[v,c] w fun y t=>y=(xN l c)/\w=t:=by
 obtain⟨I,K,rfl,q,k⟩:=j.shape;have A:=zA k;have D:=zA q;clear k j q;go_enter Tryz.func79,Tryz.ntmps79;go_wp2;go_loop [5,6] (fun d f=>∃a:Nat,a<=l.length/\f=zB a/\d=((l.take a).foldl (yp c) 0)) (fun _ f=>l.length - (intOf f).toNat);case atStart=>exact⟨0,xO _,rfl,rfl⟩
 case round=>
  obtain⟨a,J,rfl,rfl⟩:=hrel;have F:=D.o;by_cases x:a<l.length
  ·obtain⟨b,r⟩:∃b,l[a]?=some b:=⟨l[a],by simp[x]⟩;obtain⟨p,i,rfl,E,e⟩:=A.o a b r;have o:=zA (show(l.take (a+1)).foldl (yp c) 0=yp c ((l.take a).foldl (yp c) 0) b by rw[zas r,vK];rfl);generalize(l.take a).foldl (yp c) 0=d at o ⊢;have H:w.cell? (p,i+a*2)=b.c:=e 0 _ rfl;have G:w.cell? (p,i+a*2+1)=b.k:=e 1 _ rfl;obtain⟨n,u⟩:=aY (((b.c:Int)==c));obtain⟨m,C⟩:=aY (decide (1<=c));obtain⟨g,s⟩:=aY (decide (c<=9007199254740991));have B:=zA (show yp c d b=if(n && m && g)=true then max d (min b.k 9007199254740991) else d by unfold yp;rw[<-u,<-C,<-s];simp only[xr,zeV,xW,zhc]);clear e;rcases n with _|_<;> rcases m with _|_<;> rcases g with _|_;all_goals
    go_wp2
    go_round
    case rel=>exact⟨a+1,oa,ou,by rw[o.o,B.o];rfl⟩
    case measure=>simp[intOf];omega
  ·have z:=zA (show a=l.length by omega);have h:=zA (show(l.take a).foldl (yp c) 0=xN l c by rw[z.o,qJ];rfl);generalize(l.take a).foldl (yp c) 0=d at h ⊢;go_wp2;go_ret;exact⟨by rw[<-h.o];rfl,rfl⟩
theorem zG.setK{base:Nat}{w:zC}{g n cap i:Nat}{l:List zF}{E:Nat}(x:zF)(d:zG base E 2 zn w (.slice (some g) n cap) l)(b:i<l.length):
 zG base E 2 zn ((w.setCell (g,i*2) x.c).setCell (g,i*2+1) x.k) (.slice (some g) n cap) (l.set i x):=by
 obtain⟨a,e⟩:∃a,l[i]?=some a:=⟨l[i],jA⟩;have f:=zG.set (k:=2) (i:=0) (x:=a) (z:=⟨x.c,a.k⟩) (u:=x.c) (fun _=>rfl) d e oa rfl;have c:=zG.set (k:=2) (i:=1) (x:=⟨x.c,a.k⟩) (z:=x) (u:=x.k) (fun _=>rfl) f (by rw[zdc b]) oa rfl;simpa using c
theorem zfw{w:zC}{g i:Nat}{x:zF}(h:∀j y,(zn x)[j]?=some y->w.cell? (g,i*2+j)=some y):
 w.cell? (g,i*2)=x.c/\w.cell? (g,i*2+1)=x.k:=⟨h 0 _ rfl,h 1 _ rfl⟩
theorem zbt:zaA zD 91 179 2 zn where
 ht:=zhd
 hi:=by obtain⟨c,d,b,e,f⟩:=yI ziM;exact⟨c,_,d,b,e,oa,rfl⟩
 k0:=ol
 len:=fun _=>rfl
 one:=fun g h a=>by simp[zn] at a;rcases a with rfl|rfl<;> rfl
def zau(l:List zF)(C:List Int)(x:zF):List Int:=if xN l x.c=0 then C else yj C x.c
theorem znr(l:List zF):∀(m:List zF) (C:List Int),(m.foldl (zau l) C).length<=C.length+m.length
 | [],C=>oh
 |a::m,C=>by
  have c:=znr l m (zau l C a);have b:(zau l C a).length<=C.length+1:=by
   unfold zau;split
   ·omega
   ·exact zf7 _ _
  simp only[yu,z7];omega
theorem zt9{α:Type}{base E k:Nat}{enc:α->List Value}{w:zC}{v:zJ}{l:List α}(_:qP (zG base E k enc w v l)):∃T:Nat->Prop,qP (T=fun k=>v.ownBlock=some k):=⟨_,zA rfl⟩
theorem vP {p:Prop}(h:p:=by
 obtain⟨m,rfl⟩:∃m',m=m'+1:=⟨m - 1,oa⟩;obtain⟨y,hy⟩:∃y,(C.map F)[m]?=some y:=⟨(C.map F)[m]'(oa),xG _⟩;obtain⟨g2,e2,_,_,hfr,hc⟩:=zG.elem zbt.len hO2 (j:=m) (x:=y) (by rw[zin (C.map F) (m+1) c m (by omega) hml'];exact hy);cases e2;obtain⟨r0,r1⟩:=zfw hc;obtain⟨g3,e3,_,_,_,hc3⟩:=zG.elem zbt.len hO2 (j:=m+1) (x:=c) (by rw[zd9 (C.map F) (m+1) c hml']);cases e3;obtain⟨q0,q1⟩:=zfw hc3;have f0:=hfr ((m+1)*2);have f1:=hfr ((m+1)*2+1);have hs:=hO2.setK (i:=m+1) y (by rw[zeA (C.map F) (m+1) c hml'];omega);rw[zim (C.map F) m c y hml' hy] at hs;have HS:=zA hs;have HM3:=zA ((hM2.o.setAt (p:=(g5,(m+1)*2)) (.inl rfl) y.c).setAt (p:=(g5,(m+1)*2+1)) (.inl rfl) y.k);clear hs hO2 hfr hc hc3 hml' hy;have p1:((m+1:Nat):Int) - 1=m:=oa;have p2:(0:Int)<=(m:Int):=oa;have p3:decide ((j:Int)<(m:Int)+1)=true:=oi;go_wp2;go_roundw;case rel=>exact⟨m,y,oa,oa,ou,HS.o,HM3⟩
 case measure=>simp[intOf]<;> omega):p:=h
theorem vI {p:Prop}(h:p:=by
 go_upto_region 8 with fail;refine aG ?_;repeat(first|go_big_quiet_skip|(go_big_quiet_want;go_big_quiet_op;first|go_big_quiet_on|go_big_quiet_call ((go_at_call 79;exact xl (hat _)))))
 refine aE ?_;intro W' hC' hBW';have x0:W'.cell? (b,off+k*2)=x.c:=s0 ⟨W',hBW'⟩;have HBr:=zA (zK HWJ.o hBW');have HS2:=zA (zG.blk HOJ.o fun b e=>hBW'.block b (HOJ.o.lt e));have hb2l:b<W':=zg hbl2 hBW'.size;have HZW:=zA HBr.o.size;obtain⟨T,HT0⟩:=zt9 HS2;have HTw:=zA (show ∀b,T b->w.heap.size<=b/\b<W'.heap.size from fun b e=>by rw[HT0.o] at e;exact⟨HS2.o.ge e,HS2.o.lt e⟩);clear s0 hBW' hC';go_upto_region 9 with fail;go_wp2_with (at_builtin;refine yz zbt rfl _ _ rfl w.heap.size _ (C.map F) rfl ((HS2.o).al _) (.slice (some W') 1 1) [zT] rfl (zc.one (k:=2) (enc:=zn) W' zT 179) (by have:=HMN.o;simp only[z7,xB,this];omega) (by have:=HZW.o;simp;omega) ?_);intro v5 w5 ho5 hg5 hv5;obtain⟨p5,c5,rfl⟩:=ho5.len;obtain⟨g5,e5,hg5l,hg5b,_,_⟩:=zG.elem zbt.len ho5 (j:=n) (x:=zT) (by rw[<-HMN.o];simp);subst e5;have hlen5:(C.map F++[zT]).length=n+1:=by rw[xY,HMN.o];rfl
 rw[hlen5] at ho5 ⊢;have HM5:=zA (show Mods T W' w5 from((Mods.refl _ W').alloc _).grown hg5 (fun b e=> .inl (by rw[HT0.o];exact e)));have HG5:=zA (show T g5\/W'<=g5 from by
  rcases hv5 with e|e
  ·left;rw[HT0.o];exact e.symm
  ·right;have e:=zaJ e;simp at e;omega)
 have HO5:=zA ho5;have hb5:b<w5:=zg hb2l HM5.o.size;have hbg:b≠g5:=oa;have hTb:¬T b:=fun e=>by have:=(HTw.o b e).1;omega
 have y0:w5.cell? (b,off+k*2)=x.c:=(xA (w:=W') (HM5.o.block b hb2l hTb)).trans x0;clear ho5 hg5 hv5 hlen5 x0 hTb;have hq1:(n:Int)+1 - 1=n:=oa;go_wp2;go_loopw [6] (fun a8 wr=>∃(m:Nat) (c:zF),j<=m/\m<=n/\a8=zB m/\zG w 179 2 zn wr (.slice (some g5) (n+1) c5) ((C.map F).take m++c::(C.map F).drop m)/\qP (Mods (fun b=>b=g5) w5 wr)) (fun a8 _=>(intOf a8).toNat);case atStart=>exact⟨n,zT,hjn,zU _,ou,by rw[zaX (zaI HMN.o),List.drop_of_length_le (zaI HMN.o)];exact HO5.o,zA (Mods.refl _ _)⟩
 case round=>
  obtain⟨m,c,hkm,hml,rfl,hO2,hM2⟩:=hrel;have hml':m<=(C.map F).length:=by rw[HMN.o];exact hml
  by_cases hmk:j<m
  ·first|(exfalso;omega)|exact vP
  ·obtain rfl:m=j:=(by omega);have hnl:decide ((m:Int)<m)=false:=oh;obtain⟨g2,e2,hg2l,_,hfr,hc⟩:=zG.elem zbt.len hO2 (j:=m) (x:=c) (by rw[zd9 (C.map F) m c hml']);cases e2;obtain⟨r0,r1⟩:=zfw hc;have z0:wr.cell? (b,off+k*2)=x.c:=(xA (w:=w5) (hM2.o.block b hb5 hbg)).trans y0;have hbz:b<wr:=zg hb5 hM2.o.size;have e0:=aV z0;have hs:=zG.setK (i:=m) (⟨x.c,a⟩:zF) hO2.drew (by rw[zeA (C.map F) m c hml'];omega);rw[zio (C.map F) m c ⟨x.c,a⟩ hml'] at hs;have HS:=zA (show zG w 179 2 zn ((wr.drew.setCell (g5,m*2) x.c).setCell (g5,m*2+1) a) (.slice (some g5) (n+1) c5) ((yj C x.c).map F) from by rw[HINS.o,ym,xd,zhD,zfR];rw[show F x.c=⟨x.c,a⟩ by rw[HF0.o,<-HA.o]];exact hs);have HM3:=zA ((hM2.o.drew.setAt (p:=(g5,m*2)) (.inl rfl) x.c).setAt (p:=(g5,m*2+1)) (.inl rfl) a);have fz0:=hfr (m*2);have fz1:=hfr (m*2+1);have hlsr:zc 2 zn wr (.slice (some (b,off)) l.length cap) l:=HLS.o.keep (by have h1:=HBr.o.size;have h2:=HM5.o.size;have h3:=hM2.o.size;omega) (fun bb _ _ _ _ hl=>by have h1:=HBr.o.size;have h2:=HM5.o.size;rw[hM2.o.block bb oa oa,HM5.o.block bb oa (fun e=>by have:=(HTw.o bb e).1;omega),HBr.o.block bb hl]);have hat2:=HAT0.o wr.drew hlsr.drew;clear hlsr hs hO2 hfr hc hml' y0;go_upto_region 14 with fail;refine xU 15 [0,1,2,3,4,5,6,7,8,9,10,11,12] [13,14,15,16] zX (aM ?_);refine aR ?_;refine aS ?_;go_wp2_with (go_at_call 79;refine hat2.mono ?_;rintro e w6 ⟨rfl,rfl⟩);refine⟨zI.to (Mods.refl _ wr).drew,?_⟩;refine aS ?_;go_wp2;refine⟨zI.to (Mods.refl _ wr).drew,?_⟩;refine aS ?_;go_wp2;refine aS ?_;go_wp2;refine xE ?_;go_wp2;go_roundw;case rel=>
    refine⟨k+1,_,oa,ou,rfl,by rw[HT.o,HCV.o];exact HS.o,?_⟩
    refine(HBr.o.trans (HM5.o.lowB HZW.o fun b e=>(HTw.o b e).1)).trans (HM3.o.lowB (zk HZW.o HM5.o.size) fun b e=> ?_)
    subst e
    rcases HG5.o with e|e
    ·exact(HTw.o _ e).1
    ·have:=HZW.o;omega
   case measure=>simp[intOf];omega):p:=h
theorem zuA(v:zJ)(l:List zF)(w:zC)(hl:zc 2 zn w v l)(r:l.length<=1000000):
 Calls zD 182 #[v] w (vu 179 2 zn (zaY l) w):=by
 have HLS:=zA hl;obtain⟨p,cap,rfl,ap,ag⟩:=hl.shape;have aZ:=zA ag;have aw:=zA r;obtain⟨F,hF⟩:∃F:Int->zF,F=fun c=>⟨c,xN l c⟩:=⟨_,rfl⟩;have HF0:=zA hF;clear ag hl ap r hF;go_enter Tryz.func182,Tryz.ntmps182;go_wp2;go_loopw [3,4] (fun an R wr=>∃(k:Nat) (N:zJ),k<=l.length/\R=zB k/\N=an/\zG w 179 2 zn wr N (((l.take k).foldl (zau l) []).map F)/\Below w w wr) (fun _ R _=>l.length - (intOf R).toNat);case atStart=>exact⟨0,_,xO _,rfl,rfl,zG.nil,zf _ _⟩
 case round=>
  obtain⟨k,N,a4,rfl,rfl,s,u⟩:=hrel;have a8:=aw.o;by_cases az:k<l.length
  ·obtain⟨x,aa⟩:∃x,l[k]?=some x:=⟨l[k],by simp[az]⟩;obtain⟨b,off,rfl,ad,hc⟩:=aZ.o k x aa;have HT:=zA (show(l.take (k+1)).foldl (zau l) []=zau l ((l.take k).foldl (zau l) []) x by rw[zas aa,vK];rfl);have Z:=zA (show((l.take k).foldl (zau l) []).length<=1000000 by have:=znr l (l.take k) [];simp only[yn,xB] at this;omega);generalize(l.take k).foldl (zau l) []=C at s HT Z;obtain⟨a3,a7,rfl⟩:=s.len;obtain⟨n,r⟩:=aY C.length;have T:(C.map F).length=n:=(by rw[xk];exact r);rw[T] at s ⊢;have H:=zA r;have HMN:=zA T;have a5:n<=1000000:=(by rw[<-r];exact Z.o);have ah:b<wr:=zg ad u.size;have a0:wr.cell? (b,off+k*2)=x.c:=(u.cell (p:=(b,off+k*2)) ad).trans (hc 0 _ rfl);have aH:=zA u;have ai:=zA s;clear hc s u r T;go_wp2;go_loopw [5] (fun W a1=>∃j:Nat,j<=n/\W=zB j/\qP (∀i d,i<j->C[i]?=some d->d<x.c)/\Below wr wr a1) (fun W _=>n - (intOf W).toNat);case atStart=>exact⟨0,xO _,rfl,zA (fun i d h=>oa),zf _ _⟩
   case round=>
    obtain⟨j,hjn,rfl,ak,y⟩:=hrel;have hbl2:b<wr:=zg ah y.size;have s0:∀f:zM wr,f.val.cell? (b,off+k*2)=x.c:=zM.cell hbl2 ((y.cell (p:=(b,off+k*2)) ah).trans a0);have ao:=zA y;have HOJ:=zA (zG.blk ai.o fun b e=>y.block b (ai.o.lt e));have HWJ:=zA (zK aH.o y);have aj:=zA (show(∀d,C[j]?=some d->¬d<x.c)->yj C x.c=if C[j]?=some x.c then C else C.take j++x.c::C.drop j from fun D=>zkW C x.c j ak.o D (by rw[H.o];exact hjn));clear y;by_cases I:j<n/\∃d,C[j]?=some d/\d<x.c
    ·obtain⟨I,d,m,o⟩:=I;obtain⟨A,rfl,M,_,_,G⟩:=zG.elem zbt.len HOJ.o (j:=j) (x:=F d) (by rw[qw,m];rfl);have O:∀f:zM wr,f.val.cell? (A,j*2)=d:=zM.cell M (by have:=(zfw G).1;rw[HF0.o] at this;exact this);have ay:decide (d<x.c)=true:=(by simpa using o);have ab:decide ((j:Int)<n)=true:=oi;clear G;go_wp2;refine aQ ?_;intro W' hC' hBW';go_wp2;go_roundw;case rel=>exact⟨j+1,oa,ou,zA (fun i ar a2 Y=>by
      rcases qs i j with q|q
      ·exact ak.o i ar q Y
      ·obtain rfl:i=j:=(by omega);rw[m] at Y;cases Y;exact o),zK ao.o hBW'⟩
     case measure=>simp[intOf];omega
    ·have D:∀d,C[j]?=some d->¬d<x.c:=fun d m h=>I ⟨by rw[<-H.o];exact(zw.1 m).1,d,m,h⟩;have X:=zA (aj.o D);have ax:=zA D;clear I D aj;obtain⟨a,L⟩:=aY (xN l x.c);have HA:=zA L;have ae:∀B,zc 2 zn B (.slice (some (b,off)) l.length cap) l->Calls zD 79 #[.slice (some (b,off)) l.length cap,x.c] B fun e z=>e=a/\B=z:=fun B h=>(by rw[<-L];exact zkf _ l x.c B h);have HAT0:=zA ae;have J:=zA (show zau l C x=if a=0 then C else yj C x.c by unfold zau;rw[L]);clear L ae;rcases qs j n with K|K
     ·obtain⟨d,m⟩:∃d,C[j]?=some d:=⟨C[j]'(by rw[H.o];exact K),by simp[H.o,K]⟩;obtain⟨A,rfl,M,_,_,G⟩:=zG.elem zbt.len HOJ.o (j:=j) (x:=F d) (by rw[qw,m];rfl);have O:∀f:zM wr,f.val.cell? (A,j*2)=d:=zM.cell M (by have:=(zfw G).1;rw[HF0.o] at this;exact this);have o:=ax.o d m;have ay:decide (d<x.c)=false:=(by simpa using o);have ab:decide ((j:Int)<n)=true:=oi;clear G o;go_wp2;refine aQ ?_;intro W' hC' hBW';have E:W'.cell? (b,off+k*2)=x.c:=s0 ⟨W',hBW'⟩;have al:W'.cell? (A,j*2)=d:=O ⟨W',hBW'⟩;have HOJ:=zA (zG.blk HOJ.o fun b e=>hBW'.block b (HOJ.o.lt e));have HWJ:=zA (zK HWJ.o hBW');have hbl2:b<W':=zg hbl2 hBW'.size;have a6:A<W':=zg M hBW'.size;clear s0 O hC' hBW';obtain⟨t,rfl⟩:∃t:zC,t=W':=⟨_,rfl⟩;have s0:=aU E;have O:=aU al;have hat:∀f:zM t,Calls zD 79 #[.slice (some (b,off)) l.length cap,x.c] f.val fun e z=>e=a/\Below f.val.heap.size f.val z:=fun f=>(HAT0.o f.val (HLS.o.below (zK HWJ.o f.h))).mono fun _ _ ⟨h1,h2⟩=>⟨h1,h2 ▸ zf _ _⟩;clear E al;by_cases g:a=0
      ·have V:((a:Int)==0)=true:=(by simpa using g);have HCV:=zA (J.o.trans (zP g));clear g;go_upto_region 8 with fail;refine aG ?_;repeat(first|go_big_quiet_skip|(go_big_quiet_want;go_big_quiet_op;first|go_big_quiet_on|go_big_quiet_call ((go_at_call 79;exact xl (hat _)))))
       refine aE ?_;intro W' hC' hBW';go_wp2;go_roundw;case rel=>exact⟨k+1,_,oa,ou,rfl,oal,zK HWJ.o hBW'⟩
       case measure=>simp[intOf];omega
      ·have V:((a:Int)==0)=false:=(by simpa using g);have HCV:=zA (J.o.trans (zN g));clear g;by_cases o:d=x.c
       ·have au:((d:Int)==x.c)=true:=(by simpa using o);have aq:=zA (X.o.trans (zP (by rw[m,o])));clear o m;go_upto_region 8 with fail;refine aG ?_;repeat(first|go_big_quiet_skip|(go_big_quiet_want;go_big_quiet_op;first|go_big_quiet_on|go_big_quiet_call ((go_at_call 79;exact xl (hat _)))))
        refine aE ?_;intro W' hC' hBW';go_wp2;go_roundw;case rel=>exact⟨k+1,_,oa,ou,rfl,by rw[HT.o,HCV.o,aq.o];exact zG.blk HOJ.o fun b e=>hBW'.block b (HOJ.o.lt e),zK HWJ.o hBW'⟩
        case measure=>simp[intOf];omega
       ·have au:((d:Int)==x.c)=false:=(by simpa using o);have HINS:=zA (X.o.trans (zN (by rw[m];simpa using o)));clear o m;exact vI
     ·have af:C[j]?=none:=vp (by rw[H.o];exact K);have HINS:=zA (X.o.trans (zN (by rw[af];simp)));have ab:decide (j<n)=false:=oi;clear af;go_wp2;refine aQ ?_;intro W' hC' hBW';have E:W'.cell? (b,off+k*2)=x.c:=s0 ⟨W',hBW'⟩;have HOJ:=zA (zG.blk HOJ.o fun b e=>hBW'.block b (HOJ.o.lt e));have HWJ:=zA (zK HWJ.o hBW');have hbl2:b<W':=zg hbl2 hBW'.size;clear s0 hC' hBW';obtain⟨t,rfl⟩:∃t:zC,t=W':=⟨_,rfl⟩;have s0:=aU E;have hat:∀f:zM t,Calls zD 79 #[.slice (some (b,off)) l.length cap,x.c] f.val fun e z=>e=a/\Below f.val.heap.size f.val z:=fun f=>(HAT0.o f.val (HLS.o.below (zK HWJ.o f.h))).mono fun _ _ ⟨h1,h2⟩=>⟨h1,h2 ▸ zf _ _⟩;clear E;by_cases g:a=0
      ·have V:((a:Int)==0)=true:=(by simpa using g);have HCV:=zA (J.o.trans (zP g));clear g;go_upto_region 8 with fail;refine aG ?_;repeat(first|go_big_quiet_skip|(go_big_quiet_want;go_big_quiet_op;first|go_big_quiet_on|go_big_quiet_call ((go_at_call 79;exact xl (hat _)))))
       refine aE ?_;intro W' hC' hBW';go_wp2;go_roundw;case rel=>exact⟨k+1,_,oa,ou,rfl,oal,zK HWJ.o hBW'⟩
       case measure=>simp[intOf];omega
      ·have V:((a:Int)==0)=false:=(by simpa using g);have HCV:=zA (J.o.trans (zN g));clear g;exact vI
  ·have aP:=zA (show k=l.length by omega);have ac:zG w 179 2 zn wr N (zaY l):=(by have:=s;rw[aP.o,qJ,HF0.o] at this;exact this);have am:=zA ac;have av:=zA u;clear s u ac;go_wp2;go_ret;exact⟨_,rfl,am.o,av.o⟩
theorem zuB(q k:zJ)(a b:List zF)(w:zC)(i:zc 2 zn w q a)(hb:zc 2 zn w k b)(C:a.length+b.length<=100000):
 Calls zD 107 #[q,k] w (vu 179 2 zn (zaY (a++b)) w):=by
 obtain⟨M,O,rfl,_,_⟩:=i.shape;obtain⟨F,u,rfl,_,_⟩:=hb.shape;have B:=zA hb;have f:=zA C;go_enter Tryz.func107,Tryz.ntmps107;go_wp2_with (at_builtin;refine yz zbt rfl _ _ rfl w.heap.size _ [] rfl zG.nil _ a rfl i (by have:=f.o;simp only[xB];omega) (zU _) ?_);intro L K e d A;obtain⟨s,z,rfl⟩:=e.len;have n:=zA e;have g:=zA d;have v:=zA (B.o.keep d.size fun b I N J c y=>d.block b y (by intro c;cases c));clear e d A;have r:a.length+b.length<=100000000:=by have:=f.o;omega
 have t:=zA r;clear r;go_wp2_with (at_builtin;refine yz zbt rfl _ _ rfl w.heap.size (.slice s a.length z) a rfl n.o (.slice F b.length u) b rfl v.o t.o g.o.size ?_);intro D j p m x;have l:Below w w j:=((zf _ _).grown g.o (zU _) (fun b c=>by cases c)).grown m g.o.size (fun b c=>n.o.ge c);have h:=zuA D (a++b) j (p.slice zbt.len) (by have:=f.o;simp;omega);have o:=zA l;clear l m x p;go_wp2_with (go_at_call 182;refine h.mono ?_;rintro c w3 ⟨H,rfl,E,G⟩);go_ret;exact⟨_,rfl,E.any o.o.size,zK o.o G⟩
def zd8:Nat->Nat->Bool
 |0,n=>(floatBits .sub .f64 (floatOfInt .f64 n) 4619567317775286272).isSome
 |k+1,n=>zd8 k (2*n) && zd8 k (2*n+1)
theorem zik:∀(k n:Nat),zd8 k n=true->∀i,i<2 ^ k->(floatBits .sub .f64 (floatOfInt .f64 ((2 ^ k*n+i:Nat):Int)) 4619567317775286272).isSome=true
 |0,n,a,i,c=>by obtain rfl:i=0:=obg;simpa[zd8] using a
 |k+1,n,a,i,c=>by
  simp only[zd8,xr] at a;have b:2 ^ (k+1)=2 ^ k*2:=Nat.pow_succ ..;by_cases d:i<2 ^ k
  ·have:=zik k (2*n) a.1 i d;rwa[show 2 ^ k*(2*n)+i=2 ^ (k+1)*n+i by rw[b,Nat.mul_assoc]] at this
  ·have:=zik k (2*n+1) a.2 (i - 2 ^ k) oa;rwa[show 2 ^ k*(2*n+1)+(i - 2 ^ k)=2 ^ (k+1)*n+i by rw[b,Nat.mul_add,Nat.mul_assoc,zbh];omega] at this
theorem zrX:zd8 12 0=true:=oe
theorem zrY(n:Nat)(c:n<4096):∃a,∀(t:TypeId) (w:zC),(binOp .sub t (.float .f64 (floatOfInt .f64 (n:Int))) (.float .f64 4619567317775286272)).run zD w= .ok (.float .f64 a) w:=by have:=zik 12 0 zrX n c;rw[Nat.mul_zero,qr] at this;obtain⟨a,b⟩:=zbH.1 this;exact⟨a,fun t w=>run_float_arith w .sub t .f64 _ _ a b⟩
end Go.Proofs.YtimlgcodecgecaaGreatDoor
