/- As XFlow6: reads may come in between; any orders of what makes and writes, as a tree. -/
import Derived.Test.YtimlgcodecgecaaGreatDoorZ13
import Derived.Laws.BitsAllLaws
import Derived.Lib.Bits
set_option maxRecDepth 100000
set_option maxHeartbeats 20000000
set_option linter.all false
namespace Go.Proofs.YtimlgcodecgecaaGreatDoor
open Go.RowKit Go.Lib
section
section
variable {P:Program}{ops:Array Oper}{md:Region.Mode}{S:World->Prop}{Q:Exit->Act->World->Prop}
inductive RT where
 |nil:RT
 |rd (rs:List Nat) (t:RT):RT
 |one (i:Nat) (t:RT):RT
 |two (i:Nat) (t:RT) (j:Nat) (u:RT):RT
 |three (i:Nat) (t:RT) (j:Nat) (u:RT) (k:Nat) (v:RT):RT
def RT.len:RT->Nat
 | .nil=>0
 | .rd b a=>a.len+b.length
 | .one _ a=>a.len+1
 | .two _ a _ _=>a.len+1
 | .three _ a _ _ _ _=>a.len+1
def qa(P:Program)(ops:Array Oper)(Q:Exit->Act->World->Prop)(S:World->Prop):RT->Act->World->Prop
 | .nil,c,d=>Q .normal c d
 | .rd k f,c,d=>wpQuiet P ops S (fun b=>qa P ops Q S f b d) (k.map fun e=>(ops[e]?).getD default) c
 | .one e f,c,d=>wpOp P ops Q e (fun b a=>S a/\qa P ops Q S f b a) c d
 | .two e f g h,c,d=>wpOp P ops Q e (fun b a=>S a/\qa P ops Q S f b a) c d/\wpOp P ops Q g (fun b a=>S a/\qa P ops Q S h b a) c d
 | .three e f g h j i,c,d=>wpOp P ops Q e (fun b a=>S a/\qa P ops Q S f b a) c d/\wpOp P ops Q g (fun b a=>S a/\qa P ops Q S h b a) c d/\wpOp P ops Q j (fun b a=>S a/\qa P ops Q S i b a) c d
def jJ(md:Region.Mode)(ops:Array Oper):RT->Array Bool->Bool
 | .nil,a=>(Region.ready md ops a).isEmpty
 | .rd f b,a=>zdK md ops f a && jJ md ops b (zdJ f a)
 | .one c b,a=>decide (Region.ready md ops a= [c]) && jJ md ops b (a.setIfInBounds c true)
 | .two c b d e,a=>decide (Region.ready md ops a= [c,d]) && decide (b.len=e.len) && jJ md ops b (a.setIfInBounds c true) && jJ md ops e (a.setIfInBounds d true)
 | .three c b d e h g,a=>decide (Region.ready md ops a= [c,d,h]) && decide (b.len=e.len) && decide (b.len=g.len) && jJ md ops b (a.setIfInBounds c true) && jJ md ops e (a.setIfInBounds d true) && jJ md ops g (a.setIfInBounds h true)
theorem zii:∀(rs:List Nat) (a:Array Bool),vE md ops a->zdK md ops rs a=true->vE md ops (zdJ rs a)
 | [],_,c,_=>c
 |d::rs,a,c,b=>by simp only[zdK,xr] at b;exact zii rs _ (c.step (by simpa using b.1.1.2)) b.2
theorem zce(i:Region.noSelect ops=true)(k:∀D a E y w,Q (.panic D) (Act.put a E y) w->Q (.panic D) a w):
 ∀(t:RT) (h:Array Bool) (a:Act) (w:zC),vE md ops h->S w->jJ md ops t h=true->qa P ops Q S t a w->qT P md ops Q S ops.size t.len h a w
 | .nil,h,a,w,_,_,d,f=>⟨by simpa[jJ] using d,f⟩
 | .rd A t,h,a,w,g,C,d,f=>by simp only[jJ,xr] at d;refine ze8 i k A t.len h a w (fun c=>qa P ops Q S t c w) g ?_ d.1 C (fun c b=>zce i k t _ c w (zii A h g d.1) C d.2 b) f;unfold zdL;rw[zaq];intro K J;simp[zbj.1 J]
 | .one x t,h,a,w,g,_,d,f=>by simp only[jJ,xr,xW] at d;refine⟨fun j=>(by rw[d.1] at j;cases j),fun o p=> ?_⟩;have F:=p;rw[d.1] at p;obtain rfl:o=x:=(by simpa using p);exact j2 (fun c e b=>⟨fun _=>b.1,zce i k t _ c e (g.step F) b.1 d.2 b.2⟩) f
 | .two x t o z,h,a,w,g,_,d,f=>by
   simp only[jJ,xr,xW] at d;obtain⟨⟨⟨n,s⟩,q⟩,u⟩:=d;refine⟨fun j=>(by rw[n] at j;cases j),fun r m=> ?_⟩;have B:=m;rw[n] at m;rcases xK.1 m with rfl|m
   ·exact j2 (fun c e b=>⟨fun _=>b.1,zce i k t _ c e (g.step B) b.1 q b.2⟩) f.1
   ·obtain rfl:r=o:=(by simpa using m);refine j2 (fun c e b=>⟨fun _=>b.1,?_⟩) f.2;show qT P md ops Q S ops.size t.len _ c e;rw[s];exact zce i k z _ c e (g.step B) b.1 u b.2
 | .three x t o z r y,h,a,w,g,_,d,f=>by
   simp only[jJ,xr,xW] at d;obtain⟨⟨⟨⟨⟨n,s⟩,q⟩,u⟩,G⟩,I⟩:=d;refine⟨fun j=>(by rw[n] at j;cases j),fun H l=> ?_⟩;have v:=l;rw[n] at l;rcases xK.1 l with rfl|l
   ·exact j2 (fun c e b=>⟨fun _=>b.1,zce i k t _ c e (g.step v) b.1 u b.2⟩) f.1
   ·rcases xK.1 l with rfl|l
    ·refine j2 (fun c e b=>⟨fun _=>b.1,?_⟩) f.2.1;show qT P md ops Q S ops.size t.len _ c e;rw[s];exact zce i k z _ c e (g.step v) b.1 G b.2
    ·obtain rfl:H=r:=(by simpa using l);refine j2 (fun c e b=>⟨fun _=>b.1,?_⟩) f.2.2;show qT P md ops Q S ops.size t.len _ c e;rw[q];exact zce i k y _ c e (g.step v) b.1 I b.2
def zfA(md:Region.Mode)(ops:Array Oper)(t:RT):Bool:=
 Region.noSelect ops && jJ md ops t (Array.replicate ops.size false) && decide (t.len=ops.size)
theorem zgf {id:Nat}{a:Act}{w:zC}{l:List Oper}(t:RT) (S:World->Prop) (o:P.follows .mixedOrders=true) (b:zfA .any l.toArray t=true)
 (g:∀d a f j w,Q (.panic d) (Act.put a f j) w->Q (.panic d) a w) (k:S w.drew)
 (h:qa P l.toArray Q S t a w.drew):(Code.region id l.toArray true).wp P Q a w:=by
 unfold zfA at b;simp only[xr,xW] at b;obtain⟨⟨i,e⟩,m⟩:=b;refine zhO o (zd5 (S:=S) (n:=l.toArray.size) _ _ _ _ ?_);suffices c:qT P .any l.toArray Q S l.toArray.size t.len (Array.replicate l.toArray.size false) a w.drew by rw[m] at c;exact c
 exact zce i g t _ a _ (vE.none _) k e h
theorem zrQ {i:Nat}{t:RT}{a:Act}{w:zC}{o:Oper}(g:ops[i]?=some o)
 (b:wpList P ops (fun e f d=>match e with| .normal=>S d/\qa P ops Q S t f d|e=>Q e f d) [o] a w):qa P ops Q S (.one i t) a w:=by
 unfold qa wpOp;simp only[g];unfold wpList at b;split
 ·rename_i c;rw[zP c] at b;exact b
 ·rename_i c;rw[zN c] at b;exact b
theorem zb5{i j:Nat}{t u:RT}{a:Act}{w:zC}(c:qa P ops Q S (.one i t) a w)(b:qa P ops Q S (.one j u) a w):qa P ops Q S (.two i t j u) a w:=⟨c,b⟩
theorem jh{a:Act}{w:zC}(h:Q .normal a w):qa P ops Q S .nil a w:=h
theorem zrR{rs:List Nat}{t:RT}{a:Act}{w:zC}(b:wpQuiet P ops S (fun d=>qa P ops Q S t d w) (rs.map fun c=>(ops[c]?).getD default) a):qa P ops Q S (.rd rs t) a w:=b
end
structure ji (S:World->Prop) where
 val:World
 h:S val
theorem ji.to{S:World->Prop}{w':zC}(h:S w'):∃p:ji S,w'=p.val:=⟨⟨w',h⟩,rfl⟩
theorem fl7 {P:Program}{Q:Exit->Act->World->Prop}{id:Nat}{a:Act}{w:zC}{l:List Oper}(t:RT) (T:Nat->Prop) (c:qa P l.toArray Q (fun w'=>∃s:zI T w,w'=s.val) t a w.drew)
 (h:P.follows .mixedOrders=true:=by kernel_rfl) (g:zfA .any l.toArray t=true:=by kernel_rfl) (e:∀d a b f w,Q (.panic d) (Act.put a b f) w->Q (.panic d) a w:=by intro _ _ b _ _ c;cases b<;> exact c):(Code.region id l.toArray true).wp P Q a w:=
 zgf t _ h g e (zI.to (Mods.refl _ _).drew) c
end
open Go.Shelf
section
def yJ(B:Nat)(r:Loop)(W:zC):Prop:=W.heap[B+1]?=some (.loop r)/\W.heap[B]?=some (.deferred (some []))
theorem yJ.keep{B:Nat}{r:Loop}{W W':zC}(c:yJ B r W)(b:∀a,a=B\/a=B+1->W'.heap[a]?=W.heap[a]?):yJ B r W':=⟨(b _ (.inr rfl)).trans c.1,(b _ (.inl rfl)).trans c.2⟩
theorem yJ.put{B:Nat}{r:Loop}{W:zC}(b:yJ B r W)(c:Loop):yJ B c (W.putObj (B+1) (.loop c)):=
 ⟨World.putObj_heap_same (aL b.1),(World.putObj_heap_other oa).trans b.2⟩
def RG(G:Nat->Prop)(B k:Nat):Prop:=G k\/k=B+1
theorem zcT{S:Nat->Prop}{w w':zC}(a:Mods S w w'){l:Nat}(d:S l)(o:Obj):Mods S w (w'.putObj l o):=
 ⟨a.os,a.tape,a.output,by simpa[World.putObj] using a.size,fun f c b=>(World.putObj_heap_other (fun e=>b (by rw[e];exact d))).trans (a.block f c b)⟩
section
variable {F:Fence}{n:Nat}{P:Program}{w:zC}
theorem zc4 {α:Type}{g:Operand}{u:Array Tmp}{assign body:Code}{Q:Exit->Act->World->Prop}{a:Act}
 (ae:F.round=none) (ad:1<=n){gf:Nat}{lb:Array Value}(D:a.eval g= .func (.func gf) #[] lb) (W:F.fn gf) (R:∀o w,(callFunc gf o).run P w= .ok (.enter gf o) w)
 {encs:α->Array Value}(J:∀e,(encs e).size=u.size) (f:List α->World->Prop) (G:Nat->Prop){S:List α->Prop}{N:Nat}
 (B:∀d b (r s:Loop),f d b->b.heap[w.heap.size+1]?=some (.loop r)->f d (b.putObj (w.heap.size+1) (.loop s)))
 (M:∀r:Loop,f [] ((w.alloc (.deferred (some []))).alloc (.loop r)))
 (E:∀d e b r,f d b->yJ w r b->d.length<N->
  assign.wpIn (F.inRound (w.heap.size+1)) (n - 1 - 1) P (Exit.then (fun z q=>yJ w r q/\Mods (RG G w) b q/\∀s:Loop,body.wpIn (F.inRound (w.heap.size+1)) (n - 1 - 1) P
   (fun h _ l=>h= .normal/\yJ w s l/\Mods (RG G w) (q.putObj (w.heap.size+1) (.loop s)) l/\f (d++[e]) l) z (q.putObj (w.heap.size+1) (.loop s))) (fun _ _ _=>False))
   {tmps:=(u.zip (encs e)).foldl (fun y (Z,t)=>y.setIfInBounds Z t) a.tmps,defers:= []} b)
 (V:∀c:Loop,(∀d e b,f d b->yJ w c b->d.length<N->YieldAt F (n - 1 - 1) P (w.heap.size+1) (encs e) b fun h p=>h= .returned (.bool true)/\f (d++[e]) p/\yJ w c p/\Mods (RG G w) b p)->
  ∀b,f [] b->yJ w c b->CallsIn F (n - 1) P gf (#[.func (.yield (w.heap.size+1)) #[] #[]]++lb) b fun h p=>(∃t,h= .returned t)/\∃j,S j/\f j p/\yJ w c p)
 (H:∀j b,S j->f j b->b.heap[w.heap.size]?=some (.deferred (some []))->Q .normal {a with defers:={target:= .collected w.heap.size,args:=#[]}::a.defers} b):
 (Code.rangeFunc g u assign body).wpIn F n P Q a w:=by
 refine wpIn_rangeFunc fun fn T=> ?_;rw[ae];obtain⟨c,i⟩:∃c:Loop,c={state:= .ready,pending:=none,fn,tmps:=a.tmps,params:=u,assign,body,defers:=w.heap.size}:=⟨_,rfl⟩;have X:yJ w c ((w.alloc (.deferred (some []))).alloc (.loop c)):=by
  refine⟨?_,?_⟩
  ·have:=World.alloc_heap_new (w.alloc (.deferred (some []))) (.loop c);rwa[qX] at this
  ·exact(yV _ _ _ oh).trans (World.alloc_heap_new w _)
 refine⟨w.heap.size+1,[{target:= .collected w.heap.size,args:=#[]}],(w.alloc (.deferred (some []))).alloc (.loop c),{target:= .fn (.func gf) lb,args:=#[.func (.yield (w.heap.size+1)) #[] #[]]},
  (w.alloc (.deferred (some []))).alloc (.loop c),gf,#[.func (.yield (w.heap.size+1)) #[] #[]]++lb,(w.alloc (.deferred (some []))).alloc (.loop c),?_,?_,?_,?_,fun _=>ad,?_⟩
 ·rw[i];exact run_enterLoop_outer _ _ _ _ _
 ·simp only[resolve,D];simp[go_sem]
 ·intro ag C;simp[Target.leads] at C;subst C;exact W
 ·simp[invoke,go_sem,R]
 ·refine(V c ?_ _ (M c) X).mono ?_
  ·intro d e b x k I;have A:=run_yield (P:=P) (args:=encs e) k.1 (by rw[i];exact J e);rw[i] at A;refine⟨fn,_,assign,body,A,roundIn_of_wpIn T (zhf (E d e b c x k I) ?_)⟩;intro h z q m;cases h with
   |normal=>
    obtain⟨K,ab,ac⟩:=m;refine⟨_,run_beginRound K.1 (by rw[i]),zhf (ac _) ?_⟩;rintro h ai l ⟨rfl,v,aa,L⟩;have Y:=run_endRound (P:=P) none v.1;have af:({c with state:= .busy,pending:=none}:Loop)={c with state:= .busy}:=(by rw[i]);refine⟨_,_,Y,rfl,B _ _ _ _ L v.1,?_,zcT ((zcT ab (.inr rfl) _).trans aa) (.inr rfl) _⟩;have:=v.put c;rw[i] at this ⊢;exact this
   |ret=>exact m.elim
   |exit id=>exact m.elim
   |goto y=>exact m.elim
   |panic ah=>exact m.elim
   |outgrown=>exact m.elim
  ·rintro h l ⟨⟨t,rfl⟩,j,O,x,k⟩;refine⟨none,l.putObj (w.heap.size+1) (.loop {c with state:= .exhausted}),?_,H j _ O (B _ _ _ _ x k.1) (k.put _).2⟩;have:=run_endLoop (P:=P) k.1 (by rw[i];simp);rw[i] at this ⊢;exact this
end
end
section
section
variable {l n:Nat}{P:Program}{ops:Array Oper}{Q:Exit->Act->World->Prop}
def zh2(ops:Array Oper):Bool:=ops.all fun o=>match o.op with| .defer _=>false|_=>true
theorem zvD(c:zh2 ops=true){i:Nat}{o:Oper}(b:ops[i]?=some o):∀a,o.op≠.defer a:=by intro a d;have:=Array.all_eq_true.1 c i (aL b);rw[(Array.getElem?_eq_some_iff.1 b).2,d] at this;cases this
theorem zvE{o:Oper}{a:Act}{w:zC}{K i:Act->World->Prop}(v:∀d,o.op≠.defer d)(m:¬LetsOut Q)(c:∀a w,K a w->i a w)(b:o.wp P a w K Q):o.wpIn (Fence.wide.inRound l) n P a w i Q:=by
 unfold Oper.wp at b;unfold Oper.wpIn;refine⟨fun _ _=>trivial,?_⟩;rw[zj2 _ _ _ v];generalize(execOp a.eval o).run P w=f at b;cases f with
 |ok e k=>
  cases e<;> simp only[Oper.upon,Oper.uponIn] at b ⊢;case value h=>exact c _ _ b
  case skip=>exact c _ _ b
  case defer y=>exact c _ _ b
  case enter x u=>
   refine⟨(fun b=>by cases b),((yi.2 b).inRound l).mono fun s z g=> ?_⟩;cases s with
   |returned h=>exact c _ _ g
   |panicked d=>exact g
   |outgrown=>exact absurd g m
  case row j u=>refine⟨(fun b=>by cases b),fun d t _=> ?_⟩;obtain⟨r,p,f,q⟩:=b d t;exact⟨r,p,c _ _ f,stepsIn_wide.2 q⟩
 |halt e k=>
  cases e<;> simp only[Oper.upon,Oper.uponIn] at b ⊢;case panic h=>exact b
theorem zh3(d:zh2 ops=true)(c:¬LetsOut Q):∀(f:List Nat) (a:Act) (w:zC),wpOps P ops Q f a w->wpOpsIn (Fence.wide.inRound l) n P ops Q f a w
 | [],_,_,b=>b
 |g::rest,a,w,b=>by
  unfold wpOps at b;unfold wpOpsIn;cases hi:ops[g]? with
  |none=>rw[hi] at b;exact zh3 d c rest a w b
  |some h=>
   rw[hi] at b;dsimp only at b ⊢;split
   ·rename_i e;rw[zP e] at b;rcases b with b|b
    ·exact zvE (zvD d hi) c (zh3 d c rest) b
    ·exact absurd b.2 c
   ·rename_i e;rw[zN e] at b;exact⟨fun _ _=>trivial,zh3 d c rest _ _ b⟩
theorem zvF {id:Nat}{a:Act}{w:zC}(f:P.follows .mixedOrders=true) (e:zh2 ops=true) (c:¬LetsOut Q)
 (b:wpAny P .any ops Q ops.size (Array.replicate ops.size false) a {w with drawn:=w.drawn+1}):(Code.region id ops true).wpIn (Fence.wide.inRound l) n P Q a w:=
 wpIn_region_draw fun d=>by simp only[Region.schedule,f,Bool.true_or,vJ];exact zh3 e c _ _ _ (wpAny_sound ops.size d _ a _ b)
end
section
variable {l n:Nat}{P:Program}{Q:Exit->Act->World->Prop}
theorem zvG {ops:Array Oper}{d:List Oper}{o:Oper}{a:Act}{w w':zC}{T:TypeId}{x e:Operand}{b:Addr}{v:zJ}(f:o.guard=none) (c:o.op= .store T x e) (m:a.eval x= .pointer (some b)) (h:a.eval e=v)
 (k:(storeVar T b v).run P w= .ok () w') (g:wpListIn (Fence.wide.inRound l) n P ops Q d (a.put o.dst undef) w'):wpListIn (Fence.wide.inRound l) n P ops Q (o::d) a w:=
 wpListIn_plain f fun p j=>⟨fun _ _=>trivial,by rw[zj2 _ _ _ (by rw[c];intro q i;cases i)];unfold execOp;simp only[c,m,h,Instr.storeAt,Instr.sureAddr,yU,qI,yY,k];exact j _ _ g⟩
theorem zvH {ops:Array Oper}{d:List Oper}{o:Oper}{a:Act}{w:zC}(T:TypeId){x:Operand}(b:Addr){v:zJ}(e:o.guard=none) (c:o.op= .load T x) (j:a.eval x= .pointer (some b))
 (i:(loadVar T b).run P w= .ok v w) (f:wpListIn (Fence.wide.inRound l) n P ops Q d (a.put o.dst v) w):wpListIn (Fence.wide.inRound l) n P ops Q (o::d) a w:=
 wpListIn_plain e fun k h=>⟨fun _ _=>trivial,by rw[zj2 _ _ _ (by rw[c];intro m g;cases g)];unfold execOp;simp only[c,j,Instr.loadAt,Instr.sureAddr,yU,qI,yY,i];exact h _ _ f⟩
theorem zcU {id:Nat}{a:Act}{w:zC}{os:List Oper}(k:Nat) (rs b:List Nat) (S:World->Prop) (y:P.follows .mixedOrders=true) (d:ze9 .any os.toArray k rs b=true) (x:zh2 os.toArray=true) (h:¬LetsOut Q)
 (u:∀e a g r w,Q (.panic e) (Act.put a g r) w->Q (.panic e) a w) (s:S w.drew)
 (p:wpQuiet P os.toArray S (fun c=>jI P os.toArray Q S k b c w.drew) (rs.map fun q=>(os[q]?).getD default) a):(Code.region id os.toArray true).wpIn (Fence.wide.inRound l) n P Q a w:=by
 unfold ze9 at d;simp only[xr,xW] at d;obtain⟨⟨⟨⟨v,m⟩,i⟩,o⟩,t⟩:=d;refine zvF y x h (zd5 (S:=S) (n:=k) _ _ _ _ ?_);suffices f:qT P .any os.toArray Q S k (b.length+rs.length) (Array.replicate os.toArray.size false) a w.drew by rw[t] at f;exact f
 refine ze8 v u rs b.length _ a w.drew (fun c=>jI P os.toArray Q S k b c w.drew) (vE.none _) m i s (fun c j=>zge b _ c _ o j) ?_;simpa using p
end
end
def j7(F:Nat->Prop):Prop:=¬F (Tryz.valid_ren.g 3)/\¬F (Tryz.valid_ren.g 4)
theorem zv.mods{f:Nat->Prop}{w w':zC}(d:zv w)(m:Mods f w w')(e:j7 f):zv w':=by
 have l:∀{a:Addr}{b:zJ},w.cell? a=some b->a.block<w:=fun {a b} c=>by
  rcases qs a.block w with h|h
  ·exact h
  ·simp[World.cell?,zcy h] at c
 have g:∀{a:Addr}{b:zJ},w.cell? a=some b->¬f a.block->w'.cell? a=some b:=fun {a b} c n=>(xA (w:=w) (m.block _ (l c) n)).trans c;exact⟨fun k c=>g (d.1 k c) e.1,fun i j=>⟨g (d.2 i j).1 e.2,g (d.2 i j).2 e.2⟩⟩
theorem zcZ.to{w:zC}{d G:Nat->Prop}{e:Nat}{K:List (Int×ByteArray)}{Q:List zQ}{H:List zO}(i:zcZ w d e K Q H)(h:∀a,d a->a<w.heap.size->G a):zcZ w G e K Q H:=by obtain⟨g,c,f⟩:=i;exact⟨g,c,fun a b=>h a (f a b) (c.foot_lt a b)⟩
theorem ziB(w:zC)(c d:Array Value)(t u:TypeId)(i:Nat):((w.alloc (.cells c t)).alloc (.cells d u)).cell? (w,i)=c[i]?/\((w.alloc (.cells c t)).alloc (.cells d u)).cell? (w.heap.size+1,i)=d[i]?:=by
 refine⟨?_,?_⟩
 ·simp only[World.cell?];rw[zt,zN oh,zt,zP rfl];simp
 ·simp only[World.cell?];rw[zt,zP oh];simp
theorem Mods.setCell{S:Nat->Prop}{w w':zC}(a:Mods S w w'){p:Addr}(e:S p.block)(v:zJ):Mods S w (w'.setCell p v):=
 ⟨a.os,a.tape,a.output,by simpa using a.size,fun f c b=>(zZ _ _ _ _ (fun d=>b (by rw[d];exact e))).trans (a.block f c b)⟩
theorem zR.drew{w:zC}{b:Nat}{o:zQ}(h:zR w b o):zR w.drew b o:=h
theorem zR.setP{w:zC}{b:Nat}{o:zQ}(h:zR w b o)(i:zF):zR ((w.setCell (b,14) i.c).setCell (b,15) i.k) b {o with parent:=i}:=by unfold zR at *;simp[World.setCell,zu,h,ze]
theorem zR.setV{w:zC}{b:Nat}{o:zQ}(h:zR w b o)(v:zr):
 zR ((((w.setCell (b,9) (zB v.kind)).setCell (b,10) (zB v.n)).setCell (b,11) (.float .f64 v.f)).setCell (b,12) (.string v.s)) b {o with v:=v}:=by
 unfold zR at *;simp[World.setCell,zu,h,ze]
def qd(s:ByteArray):Int×Nat:=if(Utf8.decode s 0).1=65533/\(Utf8.decode s 0).2=1 then(0,0) else(((Utf8.decode s 0).1:Int),(Utf8.decode s 0).2)
def nB(s:ByteArray)(k:Nat):Nat:=(s.get! k).toNat
theorem zck(s:ByteArray)(k:Nat):nB s k<256:=(s.get! k).toNat_lt
theorem zdO(s:ByteArray)(k:Nat)(h:k<s.size):(s[k]'h).toNat=nB s k:=by
 unfold nB;congr 1;cases s with
 |mk d=>show d[k]'h=d[k]!;rw[getElem!_pos d k h]
theorem zfF(s:ByteArray):Utf8.decode s 0=decodeN s.size (nB s 0) (nB s 1) (nB s 2) (nB s 3):=by rw[decode_at];rfl
def yL(s:ByteArray)(m:Nat):Nat->Nat
 |0=>0
 |1=>nB s 0 % m
 |j+2=>yL s m (j+1)*64+nB s (j+1) % 64
def jz(s:ByteArray)(w:zC)(e:Ending)(w':zC):Prop:=e= .returned (.tuple #[.int .i32 (qd s).1,zB (qd s).2])/\w=w'
theorem jz.mk{s:ByteArray}{w:zC}{r n:Int}(b:qd s=(r,n.toNat))(a:0<=n):jz s w (.returned (.tuple #[.int .i32 r,zB n])) w:=by refine⟨?_,rfl⟩;rw[b];simp only;rw[zjM a]
theorem zs1(s:ByteArray)(h:nB s 0<128):qd s=((nB s 0:Int),1):=by unfold qd;rw[zfF];unfold decodeN;rw[zP h,zN oi]
theorem zs2(s:ByteArray)(a:128<=nB s 0/\(nB s 0<194\/245<=nB s 0)):qd s=(0,0):=by
 have b:=zck s 0;unfold qd;rw[zfF];suffices decodeN s.size (nB s 0) (nB s 1) (nB s 2) (nB s 3)=(65533,1) by rw[this];simp
 unfold decodeN;repeat' split
 all_goals first|rfl|(exfalso;omega)
theorem zs3(s:ByteArray)(b:194<=nB s 0/\nB s 0<224):qd s=if 2<=s.size/\nB s 1 / 64=2 then((yL s 32 2:Int),2) else(0,0):=by
 have a:decodeN s.size (nB s 0) (nB s 1) (nB s 2) (nB s 3)=if 2<=s.size/\nB s 1 / 64=2 then(yL s 32 2,2) else(65533,1):=by
  simp only[yL,qr,Nat.reduceAdd];split;all_goals
   rename_i c
   unfold decodeN
   repeat' split
   all_goals first|rfl|(exfalso;omega)|(apply zda<;> simp only<;> omega)
 unfold qd;rw[zfF,a];split<;> simp
theorem zs4(s:ByteArray)(b:224<=nB s 0/\nB s 0<240):qd s=if(3<=s.size/\nB s 1 / 64=2/\nB s 2 / 64=2)/\¬(yL s 16 3<2048\/(55296<=yL s 16 3/\yL s 16 3<57344)) then((yL s 16 3:Int),3) else(0,0):=by
 have a:decodeN s.size (nB s 0) (nB s 1) (nB s 2) (nB s 3)=if(3<=s.size/\nB s 1 / 64=2/\nB s 2 / 64=2)/\¬(yL s 16 3<2048\/(55296<=yL s 16 3/\yL s 16 3<57344)) then(yL s 16 3,3) else(65533,1):=by
  simp only[yL,qr,Nat.reduceAdd];split;all_goals
   rename_i c
   unfold decodeN
   repeat' split
   all_goals first|rfl|(exfalso;omega)|(apply zda<;> simp only<;> omega)
 unfold qd;rw[zfF,a];split<;> simp
theorem zs5(s:ByteArray)(b:240<=nB s 0/\nB s 0<245):qd s=if(4<=s.size/\nB s 1 / 64=2/\nB s 2 / 64=2/\nB s 3 / 64=2)/\¬(yL s 8 4<65536\/1114111<yL s 8 4) then((yL s 8 4:Int),4) else(0,0):=by
 have a:decodeN s.size (nB s 0) (nB s 1) (nB s 2) (nB s 3)=if(4<=s.size/\nB s 1 / 64=2/\nB s 2 / 64=2/\nB s 3 / 64=2)/\¬(yL s 8 4<65536\/1114111<yL s 8 4) then(yL s 8 4,4) else(65533,1):=by
  simp only[yL,qr,Nat.reduceAdd];split;all_goals
   rename_i c
   unfold decodeN
   repeat' split
   all_goals first|rfl|(exfalso;omega)|(apply zda<;> simp only<;> omega)
 unfold qd;rw[zfF,a];split<;> simp
theorem zi8(b:Nat)(a:b<256)(c:b / 64=2):(bits BinOp.and IntKind.u8 (b:Int) 192 !=128)=false:=by rw[runeStart_of _ oa oa];unfold runeStart;simp;omega
theorem zi9(b:Nat)(a:b<256)(c:¬b / 64=2):(bits BinOp.and IntKind.u8 (b:Int) 192 !=128)=true:=by rw[runeStart_of _ oa oa];unfold runeStart;simp;omega
theorem zjA(s:ByteArray)(m:Nat)(b:0<m):∀a,1<=a->a<=4->yL s m a<m*64 ^ (a - 1)
 |1,_,_=>by simp only[yL];simpa using zaH _ b
 |2,_,_=>oaf
 |3,_,_=>oaf
 |4,_,_=>oaf
theorem zjB(s:ByteArray)(m j:Nat)(h:1<=j):yL s m (j+1)=yL s m j*64+nB s j % 64:=by obtain⟨k,rfl⟩:∃k,j=k+1:=⟨j - 1,oa⟩;rfl
theorem zs6(s:ByteArray)(p:0<s.size)(A:s.size<=1000000000000)(j:194<=nB s 0/\nB s 0<224)(w:zC):
 Calls zD 115 #[.string s] w (jz s w):=by
 have l:=zs3 s j;have J:=zck s 0;have E:=zdO s 0 p;obtain⟨G,C⟩:=j;have g:=zA l;clear l;go_enter zfd,zfe;by_cases H:2<=s.size
 ·go_wp2;go_loop [7,8] (fun t e=>∃a:Nat,1<=a/\a<=2/\e=zB a/\t= .int .i32 (yL s 32 a)/\∀c,1<=c->c<a->nB s c / 64=2) (fun _ e=>2 - (intOf e).toNat);case atStart=>exact⟨1,oa,oa,rfl,oaL,oa⟩
  case round=>
   obtain⟨a,h,y,rfl,rfl,d⟩:=hrel;have m:=zjA s 32 ol a h oa;by_cases B:a<2
   ·have r:a<s.size:=(by omega);have z:=zdO s a r;have k:=zck s a;have K:yL s 32 a<33554432:=(by have v:64 ^ (a - 1)<=64 ^ 2:=zjr ol oa;have:32*64 ^ (a - 1)<=32*64 ^ 2:=zhT _ v;omega);clear m;by_cases b:nB s a / 64=2
    ·have q:=zi8 _ k b;have o:=zA (zjB s 32 a h);have f:=zA b;have u:=zA d;clear b d;go_wp2;go_round;case rel=>
      refine⟨a+1,oa,oa,ou,?_,fun c n x=> ?_⟩
      ·rw[o.o,zjs,zjt,zha];rfl
      ·rcases qs c a with i|i
       ·exact u.o c n i
       ·obtain rfl:c=a:=(by omega);exact f.o
     case measure=>simp[intOf];omega
    ·have q:=zi9 _ k b;have f:=zA b;clear b d;go_wp2;go_ret2;have b:=f.o;exact jz.mk oF ol
   ·obtain rfl:a=2:=(by omega);have D:=d 1 oa oa;have I:128<=yL s 32 2:=(by simp only[yL];omega);have F:yL s 32 2<2048:=(by simp only[yL];omega);clear d m;go_wp2;all_goals go_ret2
    all_goals exact jz.mk (by rw[g.o];first|(rw[zN oa];rfl)|(rw[zP oa];rfl)) oa
 ·go_wp2;go_ret2;exact jz.mk obi ol
theorem zs7(s:ByteArray)(p:0<s.size)(A:s.size<=1000000000000)(j:224<=nB s 0/\nB s 0<240)(w:zC):
 Calls zD 115 #[.string s] w (jz s w):=by
 have l:=zs4 s j;have J:=zck s 0;have E:=zdO s 0 p;obtain⟨H,C⟩:=j;have g:=zA l;clear l;go_enter zfd,zfe;by_cases I:3<=s.size
 ·go_wp2;go_loop [7,8] (fun t e=>∃a:Nat,1<=a/\a<=3/\e=zB a/\t= .int .i32 (yL s 16 a)/\∀c,1<=c->c<a->nB s c / 64=2) (fun _ e=>3 - (intOf e).toNat);case atStart=>exact⟨1,oa,oa,rfl,oaL,oa⟩
  case round=>
   obtain⟨a,h,y,rfl,rfl,d⟩:=hrel;have m:=zjA s 16 ol a h oa;by_cases B:a<3
   ·have r:a<s.size:=(by omega);have z:=zdO s a r;have k:=zck s a;have K:yL s 16 a<33554432:=(by have v:64 ^ (a - 1)<=64 ^ 2:=zjr ol oa;have:16*64 ^ (a - 1)<=16*64 ^ 2:=zhT _ v;omega);clear m;by_cases b:nB s a / 64=2
    ·have q:=zi8 _ k b;have o:=zA (zjB s 16 a h);have f:=zA b;have u:=zA d;clear b d;go_wp2;go_round;case rel=>
      refine⟨a+1,oa,oa,ou,?_,fun c n x=> ?_⟩
      ·rw[o.o,zjs,zjt,zha];rfl
      ·rcases qs c a with i|i
       ·exact u.o c n i
       ·obtain rfl:c=a:=(by omega);exact f.o
     case measure=>simp[intOf];omega
    ·have q:=zi9 _ k b;have f:=zA b;clear b d;go_wp2;go_ret2;have b:=f.o;exact jz.mk oF ol
   ·obtain rfl:a=3:=(by omega);have D:=d 1 oa oa;have F:=d 2 oa oa;have G:yL s 16 3<65536:=(by simp only[yL];omega);clear d m;go_wp2;all_goals go_ret2
    all_goals exact jz.mk (by rw[g.o];first|(rw[zN oa];rfl)|(rw[zP oa];rfl)) oa
 ·go_wp2;go_ret2;exact jz.mk obi ol
theorem zs8(s:ByteArray)(p:0<s.size)(B:s.size<=1000000000000)(j:240<=nB s 0/\nB s 0<245)(w:zC):
 Calls zD 115 #[.string s] w (jz s w):=by
 have l:=zs5 s j;have J:=zck s 0;have F:=zdO s 0 p;obtain⟨H,D⟩:=j;have g:=zA l;clear l;go_enter zfd,zfe;by_cases I:4<=s.size
 ·go_wp2;go_loop [7,8] (fun t e=>∃a:Nat,1<=a/\a<=4/\e=zB a/\t= .int .i32 (yL s 8 a)/\∀c,1<=c->c<a->nB s c / 64=2) (fun _ e=>4 - (intOf e).toNat);case atStart=>exact⟨1,oa,oa,rfl,oaL,oa⟩
  case round=>
   obtain⟨a,h,y,rfl,rfl,d⟩:=hrel;have m:=zjA s 8 ol a h oa;by_cases C:a<4
   ·have r:a<s.size:=(by omega);have z:=zdO s a r;have k:=zck s a;have K:yL s 8 a<33554432:=(by have v:64 ^ (a - 1)<=64 ^ 2:=zjr ol oa;have:8*64 ^ (a - 1)<=8*64 ^ 2:=zhT _ v;omega);clear m;by_cases b:nB s a / 64=2
    ·have q:=zi8 _ k b;have o:=zA (zjB s 8 a h);have f:=zA b;have u:=zA d;clear b d;go_wp2;go_round;case rel=>
      refine⟨a+1,oa,oa,ou,?_,fun c n x=> ?_⟩
      ·rw[o.o,zjs,zjt,zha];rfl
      ·rcases qs c a with i|i
       ·exact u.o c n i
       ·obtain rfl:c=a:=(by omega);exact f.o
     case measure=>simp[intOf];omega
    ·have q:=zi9 _ k b;have f:=zA b;clear b d;go_wp2;go_ret2;have b:=f.o;exact jz.mk oF ol
   ·obtain rfl:a=4:=(by omega);have E:=d 1 oa oa;have G:=d 2 oa oa;have A:=d 3 oa oa;clear d m;go_wp2;all_goals go_ret2
    all_goals exact jz.mk (by rw[g.o];first|(rw[zN oa];rfl)|(rw[zP oa];rfl)) oa
 ·go_wp2;go_ret2;exact jz.mk obi ol
theorem zs9(s:ByteArray)(b:0<s.size)(c:s.size<=1000000000000)(w:zC):
 Calls zD 115 #[.string s] w (jz s w):=by
 have h:=zdO s 0 b;have i:=zck s 0;by_cases f:nB s 0<128
 ·have d:=zA (zs1 s f);go_enter zfd,zfe;go_wp2;go_ret2;exact jz.mk (by rw[d.o];rfl) ol
 ·by_cases a:nB s 0<194\/245<=nB s 0
  ·have d:=zA (zs2 s ⟨oa,a⟩);rcases a with a|a;all_goals
    go_enter zfd,zfe
    go_wp2
    go_ret2
    exact jz.mk (by rw[d.o];rfl) ol
  ·by_cases g:nB s 0<224
   ·exact zs6 s b c ⟨oa,g⟩ w
   ·by_cases e:nB s 0<240
    ·exact zs7 s b c ⟨oa,e⟩ w
    ·exact zs8 s b c ⟨oa,oa⟩ w
def zoQ(s:ByteArray)(w:zC)(e:Ending)(w':zC):Prop:=∃v,e= .returned (.tuple #[v,.bool (qY s)])/\zG w 21 1 zbP w' v (zh s)/\Below w w w'
theorem zoR(t:ByteArray):decodeL t.data.toList=Utf8.decode t 0:=by have:=decodeL_drop t 0;rwa[zjw] at this
theorem zvK{t:ByteArray}(b:0<t.size)(a:(qd t).2=0):jc t.data.toList=none:=by
 rw[zpX _ (zfx b),zoR];unfold qd at a;split at a
 ·rename_i c;rw[zP c]
 ·have:=width_pos t 0;simp only at a;omega
theorem zvL{t:ByteArray}(c:0<t.size)(a:(qd t).2≠0):jc t.data.toList=(jc (t.extract (qd t).2 t.size).data.toList).map ((qd t).1::·)/\(qd t).2<=t.size:=by
 rw[zpX _ (zfx c)];have b:=decodeL_le t.data.toList (zfx c);rw[zoR] at b ⊢;unfold qd at a ⊢;split at a
 ·exact absurd rfl a
 ·rename_i d;rw[zN d,zN d];have e:t.data.toList.length=t.size:=oh;refine⟨?_,by rw[e] at b;exact b⟩;congr 2;simp only[ByteArray.data_extract,Array.toList_extract,List.extract_eq_take_drop];rw[zaX];rw[zaM,e];exact zU _
theorem zh4(s:ByteArray)(L:s.size<=1000000000000)(w:zC):
 Calls zD 48 #[.string s] w (zoQ s w):=by
 obtain⟨F,D,K,C,E⟩:=yI zoS;go_enter Tryz.func48,Tryz.ntmps48;go_wp2;go_loopw [0,4] (fun n I wr=>∃(a:ByteArray) (e:List Int),n= .string a/\e.length+a.size<=s.size/\jc s.data.toList=(jc a.data.toList).map (e++·)/\zG w 21 1 zbP wr I e/\Below w w wr) (fun n _ _=>zvR n);case atStart=>exact⟨s,[],rfl,oh,oh,zG.nil,zf _ _⟩
 case round=>
  obtain⟨a,e,rfl,N,d,i,g⟩:=hrel;by_cases k:0<a.size
  ·have f:=zA d;clear d;go_wp2_with fail;refine(zs9 a k oa _).mono ?_;rintro o V ⟨rfl,rfl⟩;by_cases h:(qd a).2=0
   ·have r:(((qd a).2:Int)==0)=true:=(by simp;omega);have z:=zA (zvK k h);clear h;go_wp2;go_ret2;have b:=f.o;rw[z.o] at b;exact⟨_,by unfold qY;rw[b];rfl,by unfold zh;rw[b];exact zG.nil,g⟩
   ·have r:(((qd a).2:Int)==0)=false:=(by simp;omega);have l:=zvL k h;have J:=l.2;have m:=zA l.1;have y:w.heap.size<=wr.heap.size:=g.size;clear l;generalize H:(qd a).1=q at m ⊢;generalize u:(qd a).2=c at m h r J ⊢;clear H u;go_wp2_with (at_builtin;refine jL _ rfl _ _ 123 rfl w.heap.size 21 F (.int .i32 0) 1 4 zeR D K C E rfl ol _ _ _ rfl (i.alloc _) ⟨wr.heap.size,0,none⟩ 1 1 [.int .i32 q] rfl rfl ?a1 ?a2 ?a3 ?a4 ?a5 ?_);case a1=>exact cell_one_new _ _ _
    case a2=>simp[Value.oneCell']
    case a3=>unfold maxLen;omega
    case a4=>omega
    case a5=>simp;omega
    intro T v t G _ _;have B:Below w.heap.size w v:=(g.alloc y _).grown G oi (fun A o=>(ya i A o).1);go_wp2;go_roundw;case rel=>
     have b:(a.extract c a.size).size=a.size - c:=by rw[ByteArray.size_extract];omega
     refine⟨a.extract c a.size,e++[q],rfl,?_,?_,?_,B⟩
     ·rw[xY,List.length_singleton,b];omega
     ·rw[f.o,m.o,zeb];congr 1;funext x;simp
     ·unfold zG;simpa[zbP] using t
    case measure=>have b:(a.extract c a.size).size=a.size - c:=(by rw[ByteArray.size_extract];omega);show(a.extract c a.size).size<a.size;omega
  ·have j:a.size=0:=(by omega);obtain⟨R,O,rfl⟩:=ys i;have p:a.data.toList= []:=zbo (by rw[<-zlU];exact j);have M:=zA j;rw[p,zwu] at d;have f:=zA d;clear j d p;go_wp2;go_ret2;have b:=f.o;simp only[zao,zbl] at b;exact⟨_,by unfold qY;rw[b];rfl,by unfold zh;rw[b];exact i,g⟩
theorem zkw(s:ByteArray)(d:s.size<=1000000000000)(w:zC):
 Calls zD 26 #[.string s] w fun a c=>a= .returned (.bool (qY s))/\Below w w c:=by
 go_enter Tryz.func26,Tryz.ntmps26;go_wp2_with fail;refine(zh4 s d _).mono ?_;rintro a f ⟨e,rfl,_,b⟩;go_wp2_with fail;go_ret;exact⟨rfl,b⟩
theorem zkx(s:ByteArray)(e:s.size<=1000000000000)(w:zC):
 Calls zD 25 #[.string s] w fun a d=>a=(zB ((zh s).length:Int))/\Below w w d:=by
 go_enter Tryz.func25,Tryz.ntmps25;go_wp2_with fail;refine(zh4 s e _).mono ?_;rintro a i ⟨g,rfl,b,c⟩;obtain⟨f,h,rfl⟩:=ys b;go_wp2_with fail;go_ret;exact⟨rfl,c⟩
theorem zwy(s:ByteArray)(f t:Nat)(w:zC)(r:s.size<=1000000000000)(A:f<t)(v:t<=(zh s).length):
 Calls zD 181 #[.string s,zB f,zB t] w fun j q=>j= .returned (.string (yW s f t))/\Below w w q:=by
 unfold yW;obtain⟨a,l⟩:=aY (zh s);rw[l] at v ⊢;obtain⟨u,i⟩:=aY (xo ((a.take t).drop f));rw[i];have z:=zA i;have o:=zA l;clear i l;go_enter Tryz.func181,Tryz.ntmps181;go_wp2_with fail;refine(zh4 s r _).mono ?_;rintro j h ⟨x,rfl,g,p⟩;rw[o.o] at g;obtain⟨c,d,rfl,E,m⟩:∃c d,x= .slice (some ⟨c,0,none⟩) a.length d/\a.length<=d/\∀b,b<a.length->h.cell? ⟨c,b,none⟩=some (.int .i32 (a.getD b 0)):=by
  rcases g.2 with⟨_,j⟩|⟨c,C,I,rfl,_,G,y,_⟩
  ·omega
  ·refine⟨c,C,rfl,y,fun b e=> ?_⟩;have B:=zjg g b oa;have n:=jo (enc:=zbP) (k:=1) (fun _=>rfl) a b 0 a[b] (by simp[e]) oa;rw[zbh,jD] at n;refine B.trans (n.trans ?_);simp[zbP,List.getD,e]
 have H:(convert 123 9 (.slice (some ⟨c,f,none⟩) (t - f) (d - f))).run Tryz.prog h= .ok (.string u) h:=by have:=zjf (P:=Tryz.prog) h 123 9 21 ⟨c,f,none⟩ (t - f) (d - f) ((a.take t).drop f) oi zeR zhK zhL (fun b e=>by rw[qW];simp at e;rw[m (f+b) oa];congr 2;simp[List.getD,show f+b<t by omega]);rw[this,zaX oi,<-z.o];rfl
 have D:=fun w=>zlC (T:=123) (k:=1) oe (fun w=>oe) c 0 a.length d f t A oa w;simp only[qr,zbh] at D;have F:min (t:Int) (a.length:Int)=t:=oa;clear g m;go_wp2_with fail;all_goals go_ret
 all_goals exact⟨rfl,p⟩
end Go.Proofs.YtimlgcodecgecaaGreatDoor
