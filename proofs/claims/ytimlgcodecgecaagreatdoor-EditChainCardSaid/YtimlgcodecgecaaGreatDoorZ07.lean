/- As XFlow: what makes and writes may wait for a read by way of others. -/
import Derived.Test.YtimlgcodecgecaaGreatDoorZ06
import Derived.Maps.AppendAt
set_option maxRecDepth 100000
set_option maxHeartbeats 20000000
set_option linter.all false
namespace Go.Proofs.YtimlgcodecgecaaGreatDoor
open Go.RowKit Go.Lib
section
section
variable {P:Program}{ops:Array Oper}{md:Region.Mode}{S:World->Prop}{Q:Exit->Act->World->Prop}
def vE(md:Region.Mode)(ops:Array Oper)(c:Array Bool):Prop:=∀b ok,ops[b]?=some ok->c.getD b false=true->∀a∈ok.after,Region.binds md a=true->c.getD a.on false=true
theorem vE.step{a:Array Bool}{j:Nat}(k:vE md ops a)(l:j∈Region.ready md ops a):vE md ops (a.setIfInBounds j true):=by
 intro g ok c e f d b;obtain⟨_,i,m,n⟩:=zfW.1 l;by_cases h:j=g
 ·subst h;obtain rfl:i=ok:=zaJ (m.symm.trans c);exact getD_set_true (n f d b)
 ·rw[getD_set_ne false h] at e;exact getD_set_true (k g ok c e f d b)
theorem vE.none(n:Nat):vE md ops (Array.replicate n false):=by intro b ok _ a;simp[Array.getElem?_replicate] at a;split at a<;> simp_all
def zb4(md:Region.Mode)(ops:Array Oper):Nat->Nat->Nat->Bool
 |0,_,_=>false
 |f+1,t,i=>match ops[t]? with
  |some o=>o.after.any fun e=>Region.binds md e && (e.on==i || zb4 md ops f e.on i)
  |none=>false
theorem zmO{e:Array Bool}(g:vE md ops e){i:Nat}:∀(f t:Nat) (o:Oper),ops[t]?=some o->(∀a∈o.after,Region.binds md a=true->e.getD a.on false=true)->zb4 md ops f t i=true->e.getD i false=true
 |0,_,_,_,_,c=>by simp[zb4] at c
 |f+1,t,o,p,k,c=>by
  unfold zb4 at c;simp only[p] at c;obtain⟨a,h,d⟩:=Array.any_eq_true'.1 c;simp only[xr,qx,zeV] at d;rcases d.2 with b|b
  ·rw[<-b];exact k a h d.1
  ·cases ho2:ops[a.on]? with
   |none=>
    cases f with
    |zero=>simp[zb4] at b
    |succ f=>unfold zb4 at b;simp[ho2] at b
   |some j=>exact zmO g f a.on j ho2 (fun l n m=>g a.on j ho2 (k a h d.1) l n m) b
theorem zrM {n i f:Nat}{h:Oper}{v:zJ}(C:ops[i]?=some h) (I:∀(j:Nat) (o:Oper) s t,ops[j]?=some o->o.op≠.select s t)
 (T:∀B,n<=B->B<ops.size->zb4 md ops f B i=true)
 (aa:∀J a w,Q (.panic J) (a.put h.dst v) w->Q (.panic J) a w):
 ∀(u:Nat) (b:Array Bool) (a:Act) (w:zC),vE md ops b->
  (∀j d,ops[j]?=some d->j≠i->b.getD j true=false->(∀c∈d.after,Region.binds md c=true->c.on≠i)->h.apart ops d=true)->
  i∈Region.ready md ops b->YieldsIf P ops S h v a->S w->
  qT P md ops Q S n u (b.setIfInBounds i true) (a.put h.dst v) w->qT P md ops Q S n (u+1) b a w:=by
 intro u
 induction u with
 |zero=>
  intro b a w _ _ k z q r;refine⟨fun g=>(by rw[g] at k;cases k),fun j m=> ?_⟩;by_cases e:j=i
  ·subst e;exact z.wpOp C q ⟨fun _=>q,r⟩
  ·have:=zeU m e;rw[r.1] at this;cases this
 |succ u Z=>
  intro b a w F E k z q r;refine⟨fun g=>(by rw[g] at k;cases k),fun j m=> ?_⟩;by_cases e:j=i
  ·subst e;exact z.wpOp C q ⟨fun _=>q,r⟩
  ·have A:=r.2 j (zeU m e);obtain⟨H,d,p,G⟩:=zfW.1 m;have x:b.getD i false=false:=getD_both (zfW.1 k).1;have Y:∀c∈d.after,Region.binds md c=true->c.on≠i:=fun c ac K N=>(by have A:=G c ac K;rw[N,x] at A;cases A);have W:j<n:=by
    rcases qs j n with g|g
    ·exact g
    ·have:=zmO F f j d p G (T j g (aL p));rw[x] at this;cases this
   have M:=wpOp_putIf p (E j d p e H Y) (fun s t=>I i h s t C) (fun s t=>I j d s t p) aa z A;have R:∀l ok,ops[l]?=some ok->l≠i->(b.setIfInBounds j true).getD l true=false->
    (∀c∈ok.after,Region.binds md c=true->c.on≠i)->h.apart ops ok=true:=fun l ok ab X x V=>by
    refine E l ok ab X ?_ V;by_cases D:j=l
    ·subst D;exact H
    ·rw[getD_set_ne true D] at x;exact x
   refine j2 (fun O L y=>⟨y.2.1,Z (b.setIfInBounds j true) O L (F.step m) R (zeU k (zeT e)) y.1 (y.2.1 W) ?_⟩) M;rw[Array.setIfInBounds_comm _ _ e];exact y.2.2
def ze7(o:Op):Bool:=zd6 o || (match o with| .slice _ _ _ _ _=>true| .call c=>(match c.callee with| .builtin .len=>true| .builtin .min=>true|_=>false)|_=>false)
theorem zrN{o:Oper}{c:Operand->Value}{w w':zC}{i:Next}(b:ze7 o.op=true)(a:(execOp c o).run P w= .ok i w'):∃m,i= .value m:=by
 unfold ze7 at b;rw[qx] at b;rcases b with b|b
 ·exact zmL b a
 ·cases ho:o.op with
  |slice n e p h j=>
   unfold execOp at a;rw[ho] at a;exact zmK a
  |call j=>
   rw[ho] at b;obtain⟨k,f,g⟩:=j;cases k with
   |builtin h=>
    cases h with
    |len=>
     unfold execOp at a;rw[ho] at a;simp only[resolve,yU,qI,yY,invoke,builtin] at a;cases hs:(Builtin.len_ g o.type (f.map c)).run P w with
     |ok l d=>rw[hs] at a;simp only[yY] at a;cases a;exact⟨_,rfl⟩
     |halt e d=>rw[hs] at a;cases a
    |min=>
     unfold execOp at a;rw[ho] at a;simp only[resolve,yU,qI,yY,invoke,builtin] at a;cases hs:(Builtin.min_ g o.type (f.map c)).run P w with
     |ok l d=>rw[hs] at a;simp only[yY] at a;cases a;exact⟨_,rfl⟩
     |halt e d=>rw[hs] at a;cases a
    |_=>cases b
   |_=>cases b
  |_=>rw[ho] at b;cases b
theorem zrO{o:Oper}{a:Act}{w:zC}{v:zJ}(d:ze7 o.op=true)(b:o.quietAt P a S w v):(execOp a.eval o).run P w= .ok (.value v) w:=by
 unfold Oper.quietAt at b;cases hs:(execOp a.eval o).run P w with
 |halt g e=>rw[hs] at b;exact b.elim
 |ok h e=>
  obtain⟨i,rfl⟩:=zrN d hs;rw[hs] at b;obtain⟨f,c⟩:=b;rw[f,c]
theorem zrP{o:Oper}{v:zJ}{a:Act}(d:ze7 o.op=true)(b:YieldsIn P ops S o v a):YieldsIf P ops S o v a:=by
 rcases b with⟨e,c⟩|b
 ·exact .inl ⟨e,fun g f=>zrO d (c g f)⟩
 ·exact .inr b
def zdK(md:Region.Mode)(ops:Array Oper):List Nat->Array Bool->Bool
 | [],_=>true
 |a::rs,b=>(match ops[a]? with|some o=>ze7 o.op|none=>false) && (Region.ready md ops b).contains a && Region.free md ops b a && zdK md ops rs (b.setIfInBounds a true)
def zdL(md:Region.Mode)(ops:Array Oper)(n:Nat)(rs:List Nat):Bool:=
 (List.range ops.size).all fun t=>decide (t<n) || rs.all fun i=>zb4 md ops 12 t i
theorem ze8{n:Nat}(m:Region.noSelect ops=true)(q:∀i a s k w,Q (.panic i) (Act.put a s k) w->Q (.panic i) a w):
 ∀(rs:List Nat) (h:Nat) (c:Array Bool) (a:Act) (w:zC) (g:Act->Prop),vE md ops c->zdL md ops n rs=true->zdK md ops rs c=true->S w->
 (∀a,g a->qT P md ops Q S n h (zdJ rs c) a w)->wpQuiet P ops S g (rs.map fun d=>(ops[d]?).getD default) a->qT P md ops Q S n (h+rs.length) c a w
 | [],h,c,a,w,g,_,_,_,_,hF,b=>hF a b
 |d::rs,h,c,a,w,g,o,f,r,p,hF,b=>by
  simp only[zdK,xr] at r;obtain⟨⟨⟨j,C⟩,D⟩,u⟩:=r;cases ho:ops[d]? with
  |none=>rw[ho] at j;cases j
  |some z=>
   rw[ho] at j;have t:qOp P ops S d (wpQuiet P ops S g (rs.map fun d=>(ops[d]?).getD default)) a:=(by unfold qOp;simp only[ho];simpa[ho,wpQuiet] using b);obtain⟨k,y,B⟩:=yieldsIn_of_qOp ho t;have A:zdL md ops n rs=true:=by
    unfold zdL at f ⊢;rw[zaq] at f ⊢;intro e v;have:=f e v;simp only[zhN,qx,xr] at this ⊢;rcases this with b|b
    ·exact .inl b
    ·exact .inr b.2
   have E:∀e,n<=e->e<ops.size->zb4 md ops 12 e d=true:=by
    intro e F x;unfold zdL at f;rw[zaq] at f;have:=f e (zbj.2 x);simp only[zhN,qx,xr,xW] at this;rcases this with b|b
    ·omega
    ·exact b.1
   have l:d∈Region.ready md ops c:=(by simpa using C);exact zrM ho (Region.noSelect_spec m) E (fun i a w=>q i a z.dst k w) (h+rs.length) c a w o (Region.free_spec ho D) l (zrP j y) p
    (ze8 m q rs h _ _ w g (o.step l) A u p hF B)
def ze9(md:Region.Mode)(ops:Array Oper)(n:Nat)(rs a:List Nat):Bool:=
 Region.noSelect ops && zdL md ops n rs && zdK md ops rs (Array.replicate ops.size false) && zd7 md ops a (zdJ rs (Array.replicate ops.size false)) && decide (a.length+rs.length=ops.size)
theorem zmP {id:Nat}{a:Act}{w:zC}{l:List Oper}(n:Nat) (rs b:List Nat) (S:World->Prop) (u:P.follows .mixedOrders=true) (d:ze9 .any l.toArray n rs b=true)
 (s:∀e a g p w,Q (.panic e) (Act.put a g p) w->Q (.panic e) a w) (q:S w.drew)
 (m:wpQuiet P l.toArray S (fun c=>jI P l.toArray Q S n b c w.drew) (rs.map fun o=>(l[o]?).getD default) a):(Code.region id l.toArray true).wp P Q a w:=by
 unfold ze9 at d;simp only[xr,xW] at d;obtain⟨⟨⟨⟨t,j⟩,h⟩,k⟩,r⟩:=d;refine zhO u (zd5 (S:=S) (n:=n) _ _ _ _ ?_);suffices f:qT P .any l.toArray Q S n (b.length+rs.length) (Array.replicate l.toArray.size false) a w.drew by rw[r] at f;exact f
 refine ze8 t s rs b.length _ a w.drew (fun c=>jI P l.toArray Q S n b c w.drew) (vE.none _) j h q (fun c i=>zge b _ c _ k i) ?_;simpa using m
theorem xU {id:Nat}{a:Act}{w:zC}{l:List Oper}(n:Nat) (rs d:List Nat) (T:Nat->Prop)
 (c:wpQuiet P l.toArray (fun w'=>∃s:zI T w,w'=s.val) (fun h=>jI P l.toArray Q (fun w'=>∃s:zI T w,w'=s.val) n d h w.drew) (rs.map fun f=>(l[f]?).getD default) a)
 (k:P.follows .mixedOrders=true:=by kernel_rfl) (j:ze9 .any l.toArray n rs d=true:=by kernel_rfl) (i:∀e a b g w,Q (.panic e) (Act.put a b g) w->Q (.panic e) a w:=by intro _ _ b _ _ c;cases b<;> exact c):(Code.region id l.toArray true).wp P Q a w:=
 zmP n rs d _ k j i (zI.to (Mods.refl _ _).drew) c
end
end
theorem Mods.lowB{S:Nat->Prop}{w w':zC}{B:Nat}(a:Mods S w w')(f:B<=w)(c:∀b,S b->B<=b):Below B w w':=
 ⟨a.os,a.tape,a.output,by have:=a.size;omega,fun b d=>a.block b oa (fun e=>by have:=c b e;omega)⟩
theorem zkY:∀(l:List zL) (a:List Int),(l.foldl vY a).length<=a.length+l.length
 | [],a=>oh
 |b::l,a=>by
  have d:=zkY l (vY a b);have c:(vY a b).length<=a.length+1:=by
   unfold vY;split
   ·exact zf7 _ _
   ·omega
  simp only[yu,z7];omega
theorem zhs(c:Int):∀(l:List zL) (a:List Int),(l.foldl (vX c) a).length<=a.length+2*l.length
 | [],a=>oh
 |b::l,a=>by
  have e:=zhs c l (vX c a b);have d:(vX c a b).length<=a.length+2:=by
   unfold vX;split
   ·have f:=zf7 a b.a;have d:=zf7 (yj a b.a) b.b;omega
   ·omega
  simp only[yu,z7];omega
def vu{α:Type}(E k:Nat)(enc:α->List Value)(l:List α)(w:zC)(e:Ending)(w':zC):Prop:=∃v,e= .returned v/\zG w E k enc w' v l/\Below w w w'
theorem zG.any{α:Type}{base base' E k:Nat}{enc:α->List Value}{w:zC}{v:zJ}{l:List α}(a:zG base E k enc w v l)(i:base'<=base):zG base' E k enc w v l:=by
 obtain⟨f,c⟩:=a;refine⟨f,?_⟩;rcases c with a|⟨b,g,h,d,j,e⟩
 ·exact .inl a
 ·exact .inr ⟨b,g,h,d,oa,e⟩
theorem ztw(v:zJ)(l:List zL)(w:zC)(x:zc 4 zb w v l)(z:l.length<=40000):
 Calls zD 156 #[v] w (vu 43 1 vs (qo l) w):=by
 obtain⟨j,ae,rfl,N,y⟩:=x.shape;have M:=fun F K=>zkU F K;have I:=zA y;have T:=zA z;clear y x N z;go_enter Tryz.func156,Tryz.ntmps156;go_wp2;go_loopw [3,4] (fun L q wr=>∃(a:Nat),a<=l.length/\q=zB a/\zG w 43 1 vs wr L ((l.take a).foldl vY [])/\Below w w wr) (fun _ q _=>l.length - (intOf q).toNat);case atStart=>exact⟨0,xO _,rfl,zG.nil,zf _ _⟩
 case round=>
  obtain⟨a,ad,rfl,k,e⟩:=hrel;have Z:=T.o;by_cases G:a<l.length
  ·obtain⟨c,E⟩:∃c,l[a]?=some c:=⟨l[a],by simp[G]⟩;obtain⟨b,d,rfl,h,i⟩:=I.o a c E;have s:=zA (show(l.take (a+1)).foldl vY []=vY ((l.take a).foldl vY []) c by rw[zas E,vK];rfl);have A:=zkY (l.take a) [];simp only[yn,xB,qr] at A;generalize(l.take a).foldl vY []=n at k s A;have O:b<wr:=zg h e.size;have J:wr.cell? (b,d+a*4)=c.c:=(e.cell (p:=(b,d+a*4)) h).trans (i 0 _ rfl);have aa:wr.cell? (b,d+a*4+1)=c.a:=(e.cell (p:=(b,d+a*4+1)) h).trans (i 1 _ rfl);have ac:wr.cell? (b,d+a*4+2)=c.b:=(e.cell (p:=(b,d+a*4+2)) h).trans (i 2 _ rfl);have W:wr.cell? (b,d+a*4+3)=c.n:=(e.cell (p:=(b,d+a*4+3)) h).trans (i 3 _ rfl);have p:=M c;have u:=zA e;have m:=zA k;clear i k e;obtain⟨B,o⟩:=aY c.rightB;have C:=zA (show vY n c=if B then yj n c.c else n by rw[<-o];rfl);rw[o] at p;clear o;cases B
   ·go_wp2_with (go_at_call 84;refine(p _).mono ?_;rintro f t ⟨rfl,g⟩);go_roundw;case rel=>exact⟨a+1,oa,ou,by rw[s.o,C.o];exact zG.blk m.o fun b f=>g.block b (m.o.lt f),zK u.o g⟩
    case measure=>simp[intOf];omega
   ·go_wp2_with (first|(go_at_call 84;refine(p _).mono ?_;rintro f t ⟨rfl,g⟩;have Y:t.cell? (b,d+a*4)=c.c:=(g.cell (p:=(b,d+a*4)) O).trans J;have D:=zA (zG.blk m.o fun b f=>g.block b (m.o.lt f));have r:=zA (zK u.o g);clear g)|(go_at_call 208;refine(zkX w _ n c.c t D.o r.o.size oa).mono ?_;rintro f X ⟨ab,rfl,R,_,V⟩));go_roundw;case rel=>exact⟨a+1,oa,ou,by rw[s.o,C.o];exact R,r.o.trans (V.lowB r.o.size fun a f=>D.o.ge f)⟩
    case measure=>simp[intOf];omega
  ·have H:=zA (show a=l.length by omega);go_wp2;go_ret;exact⟨_,rfl,by have:=k;rw[H.o,qJ] at this;exact this,e⟩
theorem ztx(v:zJ)(l:List zL)(c:Int)(w:zC)(I:zc 4 zb w v l)(R:l.length<=40000):
 Calls zD 157 #[v,c] w (vu 43 1 vs (yR l c) w):=by
 obtain⟨p,az,rfl,ae,O⟩:=I.shape;have ap:=fun al ah=>zkU al ah;have ao:=zA O;have ak:=zA R;clear O I ae R;go_enter Tryz.func157,Tryz.ntmps157;go_wp2;go_loopw [5,6] (fun ad z wr=>∃(k:Nat) (h:zJ),k<=l.length/\z=zB k/\h=ad/\zG w 43 1 vs wr h ((l.take k).foldl (vX c) [])/\Below w w wr) (fun _ z _=>l.length - (intOf z).toNat);case atStart=>exact⟨0,_,xO _,rfl,rfl,zG.nil,zf _ _⟩
 case round=>
  obtain⟨k,h,av,rfl,rfl,x,i⟩:=hrel;have aP:=ak.o;by_cases am:k<l.length
  ·obtain⟨b,L⟩:∃b,l[k]?=some b:=⟨l[k],by simp[am]⟩;obtain⟨a,d,rfl,hb,q⟩:=ao.o k b L;have s:=zA (show(l.take (k+1)).foldl (vX c) []=vX c ((l.take k).foldl (vX c) []) b by rw[zas L,vK];rfl);have J:=zhs c (l.take k) [];simp only[yn,xB,qr] at J;generalize(l.take k).foldl (vX c) []=o at x s J;have m:a<wr:=zg hb i.size;have y:wr.cell? (a,d+k*4)=b.c:=(i.cell (p:=(a,d+k*4)) hb).trans (q 0 _ rfl);have H:wr.cell? (a,d+k*4+1)=b.a:=(i.cell (p:=(a,d+k*4+1)) hb).trans (q 1 _ rfl);have K:wr.cell? (a,d+k*4+2)=b.b:=(i.cell (p:=(a,d+k*4+2)) hb).trans (q 2 _ rfl);have c3:wr.cell? (a,d+k*4+3)=b.n:=(i.cell (p:=(a,d+k*4+3)) hb).trans (q 3 _ rfl);have t:=ap b;have F:=zA i;have n:=zA x;clear q x i;obtain⟨T,D⟩:=aY b.rightB;obtain⟨X,af⟩:=aY (((b.c:Int)==c));have A:=zA (show vX c o b=if T && X then yj (yj o b.a) b.b else o by rw[<-D,<-af];rfl);rw[D] at t;clear D;cases T
   ·go_wp2_with (go_at_call 84;refine(t _).mono ?_;rintro e g ⟨rfl,f⟩;have B:g.cell? (a,d+k*4)=b.c:=(f.cell (p:=(a,d+k*4)) m).trans y);go_roundw;case rel=>exact⟨k+1,_,oa,ou,rfl,oau,zK F.o f⟩
    case measure=>simp[intOf];omega
   ·cases X
    ·go_wp2_with (go_at_call 84;refine(t _).mono ?_;rintro e g ⟨rfl,f⟩;have B:g.cell? (a,d+k*4)=b.c:=(f.cell (p:=(a,d+k*4)) m).trans y);go_roundw;case rel=>exact⟨k+1,_,oa,ou,rfl,oau,zK F.o f⟩
     case measure=>simp[intOf];omega
    ·go_upto_region 6 with(go_at_call 84;refine(t _).mono ?_;rintro e g ⟨rfl,f⟩;have B:g.cell? (a,d+k*4)=b.c:=(f.cell (p:=(a,d+k*4)) m).trans y);have G:=zA (zG.blk n.o fun a e=>f.block a (n.o.lt e));have r:=zA (zK F.o f);have Z:a<g:=zg m f.size;have aa:g.cell? (a,d+k*4+1)=b.a:=(f.cell (p:=(a,d+k*4+1)) m).trans H;have N:g.cell? (a,d+k*4+2)=b.b:=(f.cell (p:=(a,d+k*4+2)) m).trans K;clear f y H K c3 B;have u:h.ownBlock≠some a:=fun e=>(by have:=G.o.ge e;omega);have ay:=zA u;have aH:∀E:zI (fun j=>h.ownBlock=some j) g,E.val.cell? (a,d+k*4+1)=b.a:=zI.cell Z u aa;have aZ:∀E:zI (fun j=>h.ownBlock=some j) g,E.val.cell? (a,d+k*4+2)=b.b:=zI.cell Z u N;clear aa N u;have aw:=zf7 o b.a;have Y:=zkX w h o b.a g.drew (zG.blk G.o fun _ _=>rfl) r.o.size oa;refine xU 12 [0,1,2,3,4,5,7,8,9,10,11] [6,12,13] (fun j=>h.ownBlock=some j) (aM ?_);refine aR ?_;refine aS ?_;go_wp2_with (go_at_call 208;refine Y.mono ?_;rintro e ab ⟨ai,rfl,V,W,C⟩);have M:Mods (fun j=>h.ownBlock=some j) g ab:=((Mods.refl _ g).drew).trans C;refine⟨zI.to M,?_⟩;have ac:=zkX w ai (yj o b.a) b.b ab V (zk r.o.size C.size) oa;have au:=zA W;clear W Y;refine aS ?_;go_wp2_with (go_at_call 208;refine ac.mono ?_;rintro e w3 ⟨ax,rfl,aq,ag,aj⟩);have ar:Below w w w3:=(r.o.trans (M.lowB r.o.size fun k e=>G.o.ge e)).trans (aj.lowB (zk r.o.size C.size) fun k e=>V.ge e);clear ag ac;refine aS ?_;go_wp2_with fail;refine xE ?_;go_wp2;go_roundw;case rel=>exact⟨k+1,_,oa,ou,rfl,by rw[s.o,A.o];exact aq,ar⟩
     case measure=>simp[intOf];omega
  ·have an:=zA (show k=l.length by omega);go_wp2;go_ret;exact⟨_,rfl,by have:=x;rw[an.o,qJ] at this;exact this,i⟩
structure zaA(P:Program)(S E k:Nat){α:Type}(enc:α->List Value):Prop where
 ht:P.underlying S=some (.slice E)
 hi:∃i z,P.info? E=some i/\i.zero=some z/\i.size=k/\i.bytes<=300/\z.cells.size=k
 k0:0<k
 len:∀x,(enc x).length=k
 one:∀x u,u∈enc x->u.oneCell'=true
theorem zpu {P:Program}{w:zC}(base:Nat) (t g e:TypeId) (i:TypeInfo) (h:Nat) (a:P.underlying t=some (.slice e)) (b:P.info? e=some i)
 (v:zJ) (n:Nat) (d:List Value) (j:w.ownsRow base e h v n d) (c:Nat):(Builtin.append_ #[t,t] g #[v,.slice none 0 c]).run P w= .ok v w:=by
 rcases j.2 with⟨rfl,rfl⟩|⟨k,l,m,rfl,_,_,f,_⟩
 ·simp[Builtin.append_,jM a,sizeOf,typeInfo,b,Builtin.lenOf,Builtin.firstCells]
 ·simp[Builtin.append_,jM a,sizeOf,typeInfo,b,Builtin.lenOf,Builtin.firstCells,f,storeCells]
theorem zpv {α:Type}{P:Program}{w:zC}{S E k:Nat}{enc:α->List Value}(b:zaA P S E k enc) (g:TypeId) (base:Nat) (v:zJ) (l:List α) (j:zG base E k enc w v l) (q:zJ) (m:List α) (K:zc k enc w q m)
 (F:l.length+m.length<=100000000) (I:base<=w):
 ∃c d,(Builtin.append_ #[S,S] g #[v,q]).run P w= .ok c d/\zG base E k enc d c (l++m)/\w.grownBy d v.ownBlock/\(c.ownBlock=v.ownBlock\/c.ownBlock=some w.heap.size):=by
 obtain⟨f,C,p,D,z,t,H⟩:=b.hi;rcases K with⟨rfl,rfl⟩|⟨i,h,M,rfl,_,R,A⟩
 ·exact⟨v,w,zpu base S g E f k b.ht p v _ _ j 0,by simpa using j,World.grownBy.refl w _,.inl rfl⟩
 ·obtain⟨c,d,x,B,y,_,J⟩:=run_append_own_at (P:=P) w base S g E f C k f.bytes b.ht p D z rfl H b.k0 v l.length (l.flatMap enc) j (i,h) m.length M (m.flatMap enc) (qy b.len m)
   (fun a n e=>by have O:=b.k0;have u:a<m.length*k:=(by rw[<-qy b.len m];exact(zw.1 e).1);have s:a / k<m.length:=zfN (by rw[zbe];exact u);have N:a % k<k:=zaH _ O;have r:=jo b.len m (a / k) (a % k) m[a / k] (by simp[s]) N;have o:a / k*k+a % k=a:=(by have:=zfO a k;rw[zbe] at this;omega);rw[o] at r;rw[r] at e;have:=A (a / k) m[a / k] (by simp[s]) (a % k) n e;rw[show((i,h):Addr).add a=(i,h+a / k*k+a % k) by rw[qW,Nat.add_assoc,o]];exact this)
   (fun n e=>by obtain⟨G,_,L⟩:=zdV.1 e;exact b.one G n L) oP (by have:(l.length+m.length)*f.bytes<=100000000*300:=zg7 F t;omega) I
  exact⟨c,d,x,by unfold zG;rw[List.length_append,List.flatMap_append];exact B,y,J⟩
theorem yz {α:Type}{P:Program}{f:Array Oper}{g:List Oper}{o:Oper}{a:Act}{w:zC}{Q:Exit->Act->World->Prop}{S E k:Nat}{enc:α->List Value}(t:zaA P S E k enc) (u:o.guard=none) (s x:Operand)
 (r:o.op= .call {callee:= .builtin .append,args:=#[s,x],argTypes:=#[S,S]})
 (base:Nat) (v:zJ) (l:List α) (i:a.eval s=v) (z:zG base E k enc w v l) (d:zJ) (m:List α) (B:a.eval x=d) (e:zc k enc w d m)
 (q:l.length+m.length<=100000000) (y:base<=w)
 (p:∀b c,zG base E k enc c b (l++m)->w.grownBy c v.ownBlock->(b.ownBlock=v.ownBlock\/b.ownBlock=some w.heap.size)->wpList P f Q g (a.put o.dst b) c):
 wpList P f Q (o::g) a w:=by
 refine zdW u fun C A=> ?_;obtain⟨b,c,e,j,h,n⟩:=zpv t o.type base v l z d m e q y;unfold Oper.wp execOp;simp only[r,resolve,invoke,builtin,yU,qI,yY,zg8,xd,yl,i,B,e];exact A _ _ (p b c j h n)
theorem zc.one{α:Type}{k:Nat}{enc:α->List Value}(w:zC)(x:α)(E:TypeId):zc k enc (w.alloc (.cells (enc x).toArray E)) (.slice (some w) 1 1) [x]:=by
 refine .inr ⟨w.heap.size,0,1,rfl,oh,oh,fun d e a f g b=> ?_⟩;have c:d=0:=by have:=(zw.1 a).1;simpa using this
 subst c;obtain rfl:x=e:=oaC;simp only[World.cell?,zt,vJ,zfP,qr];simpa using b
theorem zc.drew{α:Type}{k:Nat}{enc:α->List Value}{w:zC}{v:zJ}{l:List α}(h:zc k enc w v l):zc k enc w.drew v l:=h.keep (zU _) fun _ _ _ _ _ _=>rfl
theorem zG.drew{α:Type}{base E k:Nat}{enc:α->List Value}{w:zC}{v:zJ}{l:List α}(h:zG base E k enc w v l):zG base E k enc w.drew v l:=h.blk fun _ _=>rfl
theorem zG.al{α:Type}{base E k:Nat}{enc:α->List Value}{w:zC}{v:zJ}{l:List α}(h:zG base E k enc w v l)(o:Obj):zG base E k enc (w.alloc o) v l:=h.blk fun b e=>by rw[zt,zN (by have:=h.lt e;omega)]
theorem zaR:zaA zD 37 68 4 zb where
 ht:=zbf
 hi:=by obtain⟨a,d,c,e,f⟩:=yI (by kernel_rfl:(Tryz.prog.info? 68).map (fun a=>(a.zero,a.size,a.bytes))=some (some (.agg #[zH,zH,zH,zH]),4,32));exact⟨a,_,d,c,e,oa,rfl⟩
 k0:=ol
 len:=fun _=>rfl
 one:=fun g h b=>by simp[zb] at b;rcases b with rfl|rfl|rfl|rfl<;> rfl
theorem zaB:zaA zD 92 154 3 zY where
 ht:=zbg
 hi:=by obtain⟨a,d,c,e,f⟩:=yI (by kernel_rfl:(Tryz.prog.info? 154).map (fun a=>(a.zero,a.size,a.bytes))=some (some (.agg #[zH,zH,zH]),3,24));exact⟨a,_,d,c,e,oa,rfl⟩
 k0:=ol
 len:=fun _=>rfl
 one:=fun g h b=>by simp[zY] at b;rcases b with rfl|rfl|rfl<;> rfl
def ja(a b:List zL)(c:Int)(f:List zL)(e:List Int):Nat->List zL
 |0=>f
 |d+1=>zaf a b c (ja a b c f e d) ((e[d]?).getD 0) ((e[d+1]?).getD 0)
theorem znh(a b:List zL)(c g e2:Int)(f:List Int)(e:List zL):∀d,ja a b c (zaf a b c e g e2) (e2::f) d=ja a b c e (g::e2::f) (d+1)
 |0=>rfl
 |d+1=>by have h:=znh a b c g e2 f e d;show zaf a b c (ja a b c (zaf a b c e g e2) (e2::f) d) _ _=zaf a b c (ja a b c e (g::e2::f) (d+1)) _ _;rw[h];rfl
theorem zni(a b:List zL)(c:Int):∀(d:List Int) (e:List zL),zag a b c e d=ja a b c e d (d.length - 1)
 | [],e=>by simp[zag,ja]
 | [g],e=>by simp[zag,ja]
 |f::e2::d,e=>by unfold zag;rw[zni a b c (e2::d) _,show(f::e2::d).length - 1=(e2::d).length - 1+1 by simp,znh]
theorem zty(a:List zL)(t:zL):(yt a t).length<=a.length+1:=by
 unfold yt;split
 ·simp
 ·split
  ·simp
  ·simp
theorem ztz(a b:List zL)(c:Int)(d:List zL)(e e2:Int):(zaf a b c d e e2).length<=d.length+1:=by
 unfold zaf;split
 ·omega
 ·exact zty _ _
theorem zkZ(a b:List zL)(c:Int)(f:List zL)(e:List Int):∀d,(ja a b c f e d).length<=f.length+d
 |0=>by simp[ja]
 |d+1=>by have g:=zkZ a b c f e d;have:=ztz a b c (ja a b c f e d) ((e[d]?).getD 0) ((e[d+1]?).getD 0);unfold ja;omega
def zbN(a b:List zL)(k:Nat):List zL:=((qo a).take k).foldl (fun d c=>zag a b c d (yR (a++b) c)) []
theorem znj(a b:List zL){k:Nat}{c:Int}(h:(qo a)[k]?=some c):zbN a b (k+1)=ja a b c (zbN a b k) (yR (a++b) c) ((yR (a++b) c).length - 1):=by unfold zbN;rw[zas h,vK];simp only[yu,zjU];rw[zni]
theorem znk(a b:List zL):∀d,d<=(qo a).length->(zbN a b d).length<=d*(2*(a++b).length)
 |0,_=>by simp[zbN]
 |d+1,g=>by have f:=znk a b d oa;rw[znj a b (c:=(qo a)[d]) (by simp[show d<(qo a).length by omega])];have h:=zkZ a b (qo a)[d] (zbN a b d) (yR (a++b) (qo a)[d]) ((yR (a++b) (qo a)[d]).length - 1);have e:=zhs (qo a)[d] (a++b) [];simp only[xB,qr] at e;have i:(yR (a++b) (qo a)[d]).length<=2*(a++b).length:=e;rw[zcM];omega
def AbR(B:Nat)(d:zJ)(c wr:zC)(b:zJ)(l:List zL):Prop:=
 zG B 68 4 zb wr b l/\(b.ownBlock=d.ownBlock\/∀a,b.ownBlock=some a->c.heap.size<=a)/\Mods (fun a=>d.ownBlock=some a) c wr
theorem AbR.mods{B:Nat}{f e:zJ}{d wr W:zC}{l:List zL}(b:AbR B f d wr e l)(c:Below wr wr W):AbR B f d W e l:=
 ⟨b.1.blk fun g h=>c.block g (b.1.lt h),b.2.1,b.2.2.trans (Mods.of_below c)⟩
theorem AbR.app{B:Nat}{i g d:zJ}{f wr W w':zC}{l:List zL}{t:zL}(c:AbR B i f wr g l)(b:Below wr wr W)(m:zG B 68 4 zb w' d (l++[t]))(j:W.grownBy w' g.ownBlock)(n:d.ownBlock=g.ownBlock\/d.ownBlock=some W.heap.size):AbR B i f w' d (l++[t]):=by
 have k:f.heap.size<=W.heap.size:=zk c.2.2.size b.size;refine⟨m,?_,?_⟩
 ·rcases n with a|a
  ·rw[a];exact c.2.1
  ·exact .inr fun h b=>by rw[a] at b;cases b;exact k
 ·refine(c.2.2.trans (Mods.of_below b)).grown j fun h a=> ?_;rcases c.2.1 with e|e
  ·exact .inl (by rw[<-e];exact a)
  ·exact .inr (e h a)
theorem AbR.set{B:Nat}{e:zJ}{c wr W:zC}{l:List zL}{x:zL}{e2:Int}{g n cap:Nat}(a:AbR B e c wr (.slice (some g) n cap) (l++[x]))(f:Below wr wr W):
 AbR B e c (W.setCell (g,l.length*4+2) e2) (.slice (some g) n cap) (l++[⟨x.c,x.a,e2,x.n⟩]):=by
 have d:=(a.mods f);refine⟨?_,a.2.1,d.2.2.setAt (p:=(g,l.length*4+2)) ?_ _⟩
 ·have:=zG.set (k:=4) (enc:=zb) (i:=2) (x:=x) (z:=⟨x.c,x.a,e2,x.n⟩) (u:=e2) (fun _=>rfl) d.1 (j:=l.length) oh ol rfl;rwa[show(l++[x]).set l.length ⟨x.c,x.a,e2,x.n⟩=l++[⟨x.c,x.a,e2,x.n⟩] by rw[zdU _ _ (zU _)];simp] at this
 ·rcases a.2.1 with b|b
  ·exact .inl b.symm
  ·exact .inr (b g rfl)
theorem abA {p:Prop}(h:p:=by
 refine aQ ?_;intro W' hC' hBW';clear hC';have zW:=hBW'.size;have m1:∀s:zI zX W',s.val.cell? (cg,k)=c:=zI.cell (by show cg<_;omega) id ((hBW'.cell (p:=(cg,k)) hcg5).trans z0);have m2:∀s:zI zX W',s.val.cell? (eg,j)=e1:=zI.cell (by show eg<_;omega) id ((hBW'.cell (p:=(eg,j)) heg5).trans z1);have m3:∀s:zI zX W',s.val.cell? (eg,j+1)=e2:=zI.cell (by show eg<_;omega) id ((hBW'.cell (p:=(eg,j+1)) heg5).trans z2);have HBW:=zA (zK HB5.o hBW');clear hBW';go_upto_region 16 with fail;refine xU 17 [0,1,2,3,4,5,6,7,8,9,10,11,12,13,14,15] [16,17,18] zX (aM ?_);refine aR ?_;refine aS ?_;go_wp2;refine⟨zI.to ((Mods.refl _ W').alloc (.cells #[c,e1,e2,n1] 68)).drew,?_⟩;refine aS ?_;have hbw8:Below wr wr ((W'.alloc (.cells #[c,e1,e2,n1] 68)).drew):=(HBW.o.alloc HBW.o.size _).drew;refine yz zaR rfl _ _ rfl w1.heap.size _ (l0++[x]) rfl (HAB.o.mods hbw8).1 _ [⟨c,e1,e2,n1⟩] rfl (zc.one (k:=4) (enc:=zb) W' ⟨c,e1,e2,n1⟩ 68).drew oZ (by have:=hbw8.size;have:=HZ1.o;omega) ?_;intro v' w8 ho8 hg8 hv8;have HR:=zA (HAB.o.app hbw8 ho8 hg8 hv8);clear ho8 hg8 hv8 hbw8;go_wp2;refine aS ?_;go_wp2;refine xE ?_;go_wp2;go_roundw;case rel=>exact⟨j+1,_,.inl oa,ou,rfl,obf⟩
 case measure=>simp[intOf];omega):p:=h
theorem zt0(F N:zJ)(a b:List zL)(w:zC)(a2:zc 4 zb w F a)(hb:zc 4 zb w N b)(ax:(a++b).length<=4000):
 Calls zD 85 #[F,N] w (vu 68 4 zb (zz a b) w):=by
 have bn:a.length+b.length<=4000:=by simpa using ax
 have bf:=ztw F a w a2 oa;have bx:=zA a2;have bB:=zA hb;have aZ:=zA bn;have ay:=zA ax;have b1:=zA (zkY a []);clear a2 hb bn ax;go_enter Tryz.func85,Tryz.ntmps85;go_upto_region 3 with(go_at_call 156;refine bf.mono ?_;rintro d w1 ⟨cJ,rfl,a5,bo⟩);obtain⟨cE,cr,rfl⟩:=a5.len;have b8:=zA a5;have n:=zA bo;obtain⟨v,H⟩:=aY ((qo a).length);rw[H];have L:=zA H;have b4:=zA (show v<=4000 by have h1:=b1.o;have aH:=aZ.o;simp only[List.length_nil,Nat.zero_add] at h1;rw[<-H];unfold qo;omega);clear bf a5 H bo;go_wp2;go_loopw [5,7] (fun ar ak wr=>∃(k:Nat) (u:zJ),k<=v/\ak=zB k/\u=ar/\zG w1 68 4 zb wr u (zbN a b k)/\Below w1 w1 wr) (fun _ ak _=>v - (intOf ak).toNat);case atStart=>exact⟨0,_,xO _,rfl,rfl,zG.nil,zf _ _⟩
 case round=>
  obtain⟨k,u,b2,rfl,rfl,a8,o⟩:=hrel;have cC:=b4.o;by_cases ab:k<v
  ·obtain⟨c,ah⟩:∃c,(qo a)[k]?=some c:=⟨(qo a)[k]'(by rw[L.o];exact ab),by simp[L.o,ab]⟩;obtain⟨cg,rfl,bG,_,_,bg⟩:=zG.elem zc2 b8.o ah;have bO:w1.cell? (cg,k)=c:=(by simpa using bg 0 _ rfl);have aw:cg<wr:=zg bG o.size;have e:∀s:zI zX wr,s.val.cell? (cg,k)=c:=zI.cell aw id ((o.cell (p:=(cg,k)) bG).trans bO);have aj:=zK n.o o;have bK:=zA (bx.o.below aj).drew;have bm:=zA (bB.o.below aj).drew;have r:=zA o;have l:=zA a8;have co:=zA ah;clear aj bO bg o a8 ah;go_upto_region 6 with fail;refine xU 8 [0,2,4,5,6,7] [1,3,8,9] zX (aM ?_);refine aR ?_;refine aS ?_;refine yz zaR rfl _ _ rfl wr.heap.size _ [] rfl zG.nil F a rfl bK.o (by have:=aZ.o;simp;omega) (zU _) ?_;intro cF cj bp a3 b7;have an:Mods zX wr cj:=((Mods.refl _ wr).drew).grown a3 (fun b d=>by cases d);have a9:=zA bp;have aa:=zA an;have bj:=zA (bm.o.keep an.size fun b cw cH c d ab=>a3.block b ab (by intro d;cases d));clear bp a3 b7 an;go_wp2;refine⟨zI.to aa.o,?_⟩;refine aS ?_;refine yz zaR rfl _ _ rfl wr.heap.size _ ([]++a) rfl a9.o N b rfl bj.o (by have:=aZ.o;simp;omega) aa.o.size ?_;intro b0 be bt bD bV;have bv:Mods zX wr be:=aa.o.grown bD (fun b d=> .inr (a9.o.ge d));rw[xu] at bt;have bP:=ztx b0 (a++b) c be (bt.slice zaR.len) (by have:=ay.o;omega);have D:=zA bv;clear bD bV bv;go_wp2;refine⟨zI.to D.o,?_⟩;refine aS ?_;go_wp2_with (go_at_call 157;refine bP.mono ?_;rintro d w3 ⟨ct,rfl,y,bJ⟩);refine aS ?_;go_wp2;refine xE ?_;clear bP;have al:Below wr wr w3:=(D.o.lowB (zU _) fun _ h=>h.elim).trans (bJ.mono D.o.size);have y:=y.any D.o.size;obtain⟨ce,cl,rfl⟩:=y.len;obtain⟨t,A⟩:=aY ((yR (a++b) c).length);rw[A];have E:=zA (show zG wr 43 1 vs w3 (.slice ce t cl) (yR (a++b) c) from by rw[<-A];exact y);have C:=zA A;have ch:=zA (show t<=8000 by have h1:=zhs c (a++b) [];have aH:=ay.o;simp only[List.length_nil,Nat.zero_add] at h1;rw[<-A];unfold yR;omega);have i:=zA al;have bN:=zA (show(zbN a b k).length<=40000000 by have h1:=znk a b k (by rw[L.o];exact b2);have aH:=ay.o;have cp:k*(2*(a++b).length)<=4000*(2*4000):=zg7 oa oa;omega);have V:=zA (l.o.blk fun b d=>al.block b (l.o.lt d));clear y A al bJ;go_wp2;generalize bQ:zbN a b k=m at l V bN;have ci:=zA bQ;clear bQ;obtain⟨O,aP⟩:∃O:zC,O=wr:=⟨_,rfl⟩;rw[<-aP] at l r i E aw;have bw:O.cell? (cg,k)=c:=(by rw[aP];exact e ⟨wr,Mods.refl _ _⟩);clear e aa D bK bm a9 bj aP;obtain⟨bE,bs⟩:∃bE:zC,bE=w3:=⟨_,rfl⟩;rw[<-bs] at i E V;rw[bs] at i E V;go_loopw [5,9] (fun ar a4 wx=>∃(j:Nat) (aq:zJ),(j+1<=t\/j=0)/\a4=zB j/\aq=ar/\AbR w1 u w3 wx aq (ja a b c m (yR (a++b) c) j)) (fun _ a4 _=>t - (intOf a4).toNat);case atStart=>exact⟨0,_,.inr rfl,rfl,rfl,V.o,.inl rfl,Mods.refl _ _⟩
   case round=>
    obtain⟨j,aq,cv,rfl,rfl,z⟩:=hrel;have cI:=ch.o;by_cases cb:j+1<t
    ·obtain⟨e1,bb⟩:∃d,(yR (a++b) c)[j]?=some d:=⟨(yR (a++b) c)[j]'(by rw[C.o];omega),by simp[C.o,show j<t by omega]⟩;obtain⟨e2,ao⟩:∃d,(yR (a++b) c)[j+1]?=some d:=⟨(yR (a++b) c)[j+1]'(by rw[C.o];omega),by simp[C.o,cb]⟩;obtain⟨eg,rfl,bM,cB,_,bh⟩:=zG.elem zc2 E.o bb;obtain⟨cy,d,_,_,_,bI⟩:=zG.elem zc2 E.o ao;cases d;have B:∀b,u.ownBlock=some b->w1.heap.size<=b/\b<O.heap.size:=fun b d=>⟨l.o.ge d,l.o.lt d⟩;have q:=z.2.2;have bW:=r.o.size;have bX:=i.o.size;have cm:=q.size;have a7:wr.cell? (eg,j)=e1:=(xA (w:=w3) (q.block eg bM (fun d=>by have:=(B _ d).2;omega))).trans (by simpa using bh 0 _ rfl);have bF:wr.cell? (eg,j+1)=e2:=(xA (w:=w3) (q.block eg bM (fun d=>by have:=(B _ d).2;omega))).trans (by simpa using bI 0 _ rfl);have ai:wr.cell? (cg,k)=c:=(xA (w:=w3) (q.block cg oa (fun d=>by have:=(B _ d).1;omega))).trans ((i.o.cell (p:=(cg,k)) aw).trans bw);have ag:∀b,b<w.heap.size->wr.heap[b]?=w.heap[b]?:=fun b hb=>(by have bT:=n.o.size;rw[q.block b oa (fun d=>by have:=(B _ d).1;omega),i.o.block b oa,r.o.block b oa,n.o.block b hb]);have ap:w.heap.size<=wr.heap.size:=(by have bT:=n.o.size;omega);have bR:=zA (bx.o.keep ap fun b _ _ _ _ am=>ag b am);have bY:=zA (bB.o.keep ap fun b _ _ _ _ am=>ag b am);have m1:=aV ai;have m2:=aV a7;have HAB:=zA z;have HHE:=zA (show ja a b c m (yR (a++b) c) (j+1)=zaf a b c (ja a b c m (yR (a++b) c) j) e1 e2 by show zaf a b c _ _ _=_;rw[bb,ao];rfl);have bd:eg<wr:=oa;have b5:cg<wr:=oa;have HZ1:=zA (show w1.heap.size<=wr.heap.size by omega);clear bh bI bb ao B q bW bX cm ag ap z bw;go_upto_region 10 with fail;refine xU 10 [0,1,2,3,4,5,6,7,8] [9,10] zX (aM ?_);refine aR ?_;refine aS ?_;go_wp2;refine⟨zI.to ?hm,?_⟩;case hm=>exact((Mods.refl _ wr).alloc _).drew
     refine aS ?_;go_wp2;refine xE ?_;generalize a0:World.drew _=ba;have ae:ba.heap[wr.heap.size]?=some (.cells #[c,e1] 62 (0,0)):=(by subst a0;exact World.alloc_heap_new _ _);have W:Below wr wr ba:=(by subst a0;exact aA.drew);clear a0;have bi:=aL ae;have bz:=aC ae 0;have bA:=aC ae 1;have av:=zkV F a ⟨c,e1⟩ ba (bR.o.below W);have cA:=zA W;clear ae m1 m2;obtain⟨n1,a1⟩:=aY (zd a ⟨c,e1⟩);obtain⟨Y,au⟩:=aY (zd b ⟨c,e1⟩);rw[a1] at av;obtain⟨J,G⟩:=aY (ja a b c m (yR (a++b) c) j);have HLB:=zA (show J.length<=50000000 by have h1:=zkZ a b c m (yR (a++b) c) j;have aH:=bN.o;rw[<-G];omega);have af:=zA (show ja a b c m (yR (a++b) c) (j+1)=if n1<=Y then J else yt J ⟨c,e1,e2,n1⟩ by rw[HHE.o,G];unfold zaf;rw[a1,au]);rw[G] at HAB;clear G HHE;go_upto_region 12 with(go_at_call 28;refine av.mono ?_;rintro d b9 ⟨rfl,K⟩);have ad:=zK W K;have T:=zkV N b ⟨c,e1⟩ b9 (bY.o.below ad);rw[au] at T;have cc:=(K.cell (p:=wr) bi).trans bz;have cf:=(K.cell (p:=(wr,1)) bi).trans bA;clear bz bA av W a1 au K;by_cases I:n1<=Y
     ·have bL:decide (n1<=Y)=true:=(by simpa using I);have b6:=zA (af.o.trans (zP I));go_wp2_with (go_at_call 28;refine T.mono ?_;rintro d w6 ⟨rfl,Z⟩);go_roundw;case rel=>exact⟨j+1,_,.inl oa,ou,rfl,by rw[b6.o];exact HAB.o.mods (zK ad Z)⟩
      case measure=>simp[intOf];omega
     ·have bL:decide (n1<=Y)=false:=(by simpa using I);have HHE:=zA (af.o.trans (zN I));clear af;obtain⟨cx,b3,rfl⟩:=HAB.o.1.len;go_upto_region 13 with(go_at_call 28;refine T.mono ?_;rintro d w6 ⟨rfl,Z⟩);have HB5:=zA (zK ad Z);have cD:=HB5.o.size;have hcg5:cg<w6:=oa;have heg5:eg<w6:=oa;have z0:w6.cell? (cg,k)=c:=(HB5.o.cell (p:=(cg,k)) b5).trans ai;have z1:w6.cell? (eg,j)=e1:=(HB5.o.cell (p:=(eg,j)) bd).trans a7;have z2:w6.cell? (eg,j+1)=e2:=(HB5.o.cell (p:=(eg,j+1)) bd).trans bF;clear ad Z cc cf T ai a7 bF bL;have bZ:=aU z0;have cn:=aU z1;rcases zeM J with rfl|⟨l0,x,rfl⟩
      ·have HST:=zA (show yt [] ⟨c,e1,e2,n1⟩= []++[⟨c,e1,e2,n1⟩] from rfl);go_upto_region 14 with fail;refine aQ ?_;intro W' hC' hBW';clear hC';have zW:=hBW'.size;have m1:∀s:zI zX W',s.val.cell? (cg,k)=c:=zI.cell (by show cg<_;omega) id ((hBW'.cell (p:=(cg,k)) hcg5).trans z0);have m2:∀s:zI zX W',s.val.cell? (eg,j)=e1:=zI.cell (by show eg<_;omega) id ((hBW'.cell (p:=(eg,j)) heg5).trans z1);have m3:∀s:zI zX W',s.val.cell? (eg,j+1)=e2:=zI.cell (by show eg<_;omega) id ((hBW'.cell (p:=(eg,j+1)) heg5).trans z2);have HBW:=zA (zK HB5.o hBW');clear hBW';go_upto_region 16 with fail;refine xU 17 [0,1,2,3,4,5,6,7,8,9,10,11,12,13,14,15] [16,17,18] zX (aM ?_);refine aR ?_;refine aS ?_;go_wp2;refine⟨zI.to ((Mods.refl _ W').alloc (.cells #[c,e1,e2,n1] 68)).drew,?_⟩;refine aS ?_;have hbw8:Below wr wr ((W'.alloc (.cells #[c,e1,e2,n1] 68)).drew):=(HBW.o.alloc HBW.o.size _).drew;refine yz zaR rfl _ _ rfl w1.heap.size _ ([]) rfl (HAB.o.mods hbw8).1 _ [⟨c,e1,e2,n1⟩] rfl (zc.one (k:=4) (enc:=zb) W' ⟨c,e1,e2,n1⟩ 68).drew oZ (by have:=hbw8.size;have:=HZ1.o;omega) ?_;intro v' w8 ho8 hg8 hv8;have HR:=zA (HAB.o.app hbw8 ho8 hg8 hv8);clear ho8 hg8 hv8 hbw8;go_wp2;refine aS ?_;go_wp2;refine xE ?_;go_wp2;go_roundw;case rel=>exact⟨j+1,_,.inl oa,ou,rfl,obf⟩
       case measure=>simp[intOf];omega
      ·obtain⟨e,R⟩:=aY l0.length;rw[zcn] at HAB HLB HHE ⊢;have az:(l0++[x]).length=e+1:=(by simp[R]);rw[az] at HAB ⊢;obtain⟨f,ca,M,cu,bq,ac⟩:=zG.elem (j:=e) (x:=x) zaR.len HAB.o.1 (by rw[<-R];simp);subst ca;have X:f<w6:=oa;have bH:=zA R;have cq:e+1<=50000000:=(by have:=HLB.o;rw[az] at this;exact this);have ck:∀s:zM w6,s.val.cell? (f,e*4)=x.c:=zM.cell X ((HB5.o.cell (p:=(f,e*4)) M).trans (ac 0 _ rfl));have bu:∀s:zM w6,s.val.cell? (f,e*4+2)=x.b:=zM.cell X ((HB5.o.cell (p:=(f,e*4+2)) M).trans (ac 2 _ rfl));have t3:∀s:zM w6,s.val.cell? (f,e*4+3)=x.n:=zM.cell X ((HB5.o.cell (p:=(f,e*4+3)) M).trans (ac 3 _ rfl));have bl:∀s:zM w6,s.val.frozen? (f,e*4+2)=false:=fun s=>(s.h.frozen (p:=(f,e*4+2)) X).trans ((HB5.o.frozen (p:=(f,e*4+2)) M).trans (bq _));have cs:(e:Int)+1 - 1=e:=oa;have cz:(0:Int)<=(e:Int):=oa;have cG:decide ((0:Int)<(e:Int)+1)=true:=(by simp<;> omega);obtain⟨br,cd⟩:=aY (((x.c:Int)==c));obtain⟨bC,bS⟩:=aY (((x.b:Int)==e1));obtain⟨bc,bU⟩:=aY (((x.n:Int)==n1));have g:=zA (show yt (l0++[x]) ⟨c,e1,e2,n1⟩=if(br && bC && bc)=true then l0++[⟨x.c,x.a,e2,x.n⟩] else l0++[x]++[⟨c,e1,e2,n1⟩] by unfold yt;rw[zeN,<-cd,<-bS,<-bU];simp only[zhW,xr,zeV,zhc]);clear ac bq az R HLB;have HLB:=zA (show(l0++[x]).length<=50000000 by have:=bH.o;simp;omega);cases br
       ·have HST:=zA (g.o.trans (zN oh));clear g;go_upto_region 14 with fail;exact abA
       ·cases bC
        ·have HST:=zA (g.o.trans (zN oh));clear g;go_upto_region 14 with fail;exact abA
        ·cases bc
         ·have HST:=zA (g.o.trans (zN oh));clear g;go_upto_region 14 with fail;exact abA
         ·have HST:=zA (g.o.trans (zP oh));clear g;go_upto_region 14 with fail;refine aQ ?_;intro W' hC' hBW';have u2:=bu ⟨W',hBW'⟩;have u3:=bl ⟨W',hBW'⟩;have u4:W'.cell? (eg,j+1)=e2:=(hBW'.cell (p:=(eg,j+1)) heg5).trans z2;have HR:=zA (show AbR w1 u w3 (W'.setCell (f,e*4+2) e2) (.slice (some f) (e+1) b3) (l0++[⟨x.c,x.a,e2,x.n⟩]) from by have:=AbR.set (e2:=e2) HAB.o (zK HB5.o hBW');rwa[bH.o] at this);clear ck bu t3 bl bZ cn hC';go_wp2;go_roundw;case rel=>exact⟨j+1,_,.inl oa,ou,rfl,obf⟩
          case measure=>simp[intOf];omega
    ·have a6:=zA (show ja a b c m (yR (a++b) c) j=zbN a b (k+1) by rw[znj a b co.o,ci.o,show j=(yR (a++b) c).length - 1 by rw[C.o];omega]);go_wp2;go_roundw;case rel=>
      refine⟨k+1,_,oa,ou,rfl,by rw[<-a6.o];exact z.1,?_⟩
      exact(r.o.trans (i.o.mono r.o.size)).trans (z.2.2.lowB (zk r.o.size i.o.size) fun b d=>l.o.ge d)
     case measure=>simp[intOf];omega
  ·have a6:=zA (show k=v by omega);go_wp2;go_ret;refine⟨_,rfl,?_,zK n.o o⟩;have h1:=a8.any n.o.size;rw[a6.o,<-L.o] at h1;unfold zbN at h1;rw[qJ] at h1;exact h1
end Go.Proofs.YtimlgcodecgecaaGreatDoor
