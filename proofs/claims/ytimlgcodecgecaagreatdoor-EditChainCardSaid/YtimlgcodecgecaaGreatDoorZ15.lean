/- Walk: slices.Insert of one node behind the last one. -/
import Derived.Lib.Walk
import Derived.Lib.Overlaps
import Derived.Lib.AppendZerosOnto
import Derived.Laws.NewBlocks
import Derived.Laws.Externs
import Derived.Test.YtimlgcodecgecaaGreatDoorZ14
set_option maxRecDepth 100000
set_option maxHeartbeats 20000000
set_option linter.all false
namespace Go.Proofs.YtimlgcodecgecaaGreatDoor
open Go.RowKit Go.Lib
def zo(b:Nat):Value:=b
def z6(b:Nat):List Value:= [zo b]
theorem zen:(Tryz.prog.info? 256).map (fun i=>(i.zero,i.size,i.bytes))=some (some (.pointer none),1,8):=oe
def zbQ(base:Nat)(a:zJ)(l:List Nat)(w:zC)(v:zJ)(w':zC):Prop:=
 zG base 256 1 z6 w' v l/\w.grownBy w' a.ownBlock/\(v.ownBlock=a.ownBlock\/v.ownBlock=some w.heap.size)
end Go.Proofs.YtimlgcodecgecaaGreatDoor
set_option linter.unusedVariables false
set_option linter.unusedSimpArgs false
namespace Go.Proofs.YtimlgcodecgecaaGreatDoor
open Go.RowKit Go.Shelf Go.Lib
theorem zvj (w:zC){o:Oper}{a:Act}{K:Act->World->Prop}{Q:Exit->Act->World->Prop}(d s:Operand) (t b:TypeId)
 (i:o.op= .call {callee:= .builtin .copy,args:=#[d,s],argTypes:=#[t,b]}) (v u:zJ) (h:a.eval d=v) (g:a.eval s=u){c:zJ}{w':zC}
 (e:(Builtin.copy_ #[t,b] o.type #[v,u]).run zD w= .ok c w') (f:K (a.put o.dst c) w'):o.wp zD a w K Q:=by
 unfold Oper.wp execOp;simp only[i,resolve,invoke,builtin,yU,qI,yY,zg8,xd,yl,h,g,e];exact f
theorem zk1 (w:zC){c:Array Oper}{e:List Oper}{o:Oper}{a:Act}{Q:Exit->Act->World->Prop}(j:o.guard=none) (d s:Operand) (t b:TypeId)
 (i:o.op= .call {callee:= .builtin .copy,args:=#[d,s],argTypes:=#[t,b]}) (v u:zJ) (m:a.eval d=v) (g:a.eval s=u){f:zJ}{w':zC}
 (l:(Builtin.copy_ #[t,b] o.type #[v,u]).run zD w= .ok f w') (h:wpList zD c Q e (a.put o.dst f) w'):wpList zD c Q (o::e) a w:=
 zdW j fun _ k=>zvj w d s t b i v u m g l (k _ _ h)
theorem zog {e:Array Oper}{o:Oper}{a:Act}{w:zC}{K:Act->World->Prop}{Q:Exit->Act->World->Prop}{E:Prop}
 (g:o.guard=none) (d x:Operand) (c b:TypeId) (m:o.op=Op.call {callee:=Callee.builtin Builtin.copy,args:=#[d,x],argTypes:=#[c,b]})
 (v u:zJ) (l:a.eval d=v) (k:a.eval x=u){f:zJ}{w':zC}(j:(Builtin.copy_ #[c,b] o.type #[v,u]).run zD w= .ok f w') (i:K (a.put o.dst f) w'):
 if Region.wanted o (yielded e a.tmps)=true then Oper.wp zD o a w K Q else E:=by
 have h:Region.wanted o (yielded e a.tmps)=true:=by simp[Region.wanted,g]
 rw[zP h];unfold Oper.wp;simp[execOp,m,resolve,invoke,builtin,l,k,j,Result.andThen];exact i
theorem zoh(b:Nat)(a:List Value)(o:Nat)(w:zC)(d:∀c,c<a.length->(w.cell? (b,o+c)).isSome=true)(k:Nat)(e:(w.cell? (b,k)).isSome=true):((w.setCells b o a).cell? (b,k)).isSome=true:=by
 by_cases f:o<=k/\k<o+a.length
 ·have:=zfo b a o w d (k - o) oa;rw[show o+(k - o)=k by omega] at this;rw[this];rfl
 ·rw[zcv b a o w (b,k) (fun _ _=>by show k<o\/o+a.length<=k;omega)];exact e
theorem zoi:(Tryz.prog.info? 256).map (·.size)=some 1:=by obtain⟨e,a,d,b,c⟩:=yI zen;rw[a];simp[b]
theorem zvk (b n c i f m r:Nat) (g l:List Value) (w:World) (ao:i<n) (aj:0<m) (ap:n+m<=c) (al:c<=9223372036854775807) (C:f≠b)
 (L:g.length=n) (V:l.length=m)
 (ab:∀d e,g[d]?=some e->w.cell? ⟨b,d,none⟩=some e) (u:∀d,d<n+m->(w.cell? ⟨b,d,none⟩).isSome=true) (H:∀d,d<n+m->w.frozen? ⟨b,d,none⟩=false)
 (af:∀d e,l[d]?=some e->w.cell? ⟨f,d,none⟩=some e) (R:∀e∈g,e.oneCell'=true) (ah:∀e∈l,e.oneCell'=true)
 (F J:TypeId) (A B:Nat) (W:w.shape? f=some (F,A)) (ag:w.shape? b=some (J,B)) (N:B≠0) (ac:w.frozen? ⟨f,0,none⟩=false) (X:w.frozen? ⟨f,A,none⟩=false):
 Calls zD 294 #[.slice (some b) n c,zB i,.slice (some f) m r] w fun G K=>
  G= .returned (.slice (some b) (n+m) c)/\K=(w.drew.setCells b (i+m) (g.drop i)).setCells b i l:=by
 have an:¬((m:Int)=0):=oa
 have aq:¬((i:Int)=(n:Int)):=oa
 have I:=zoi
 have M:∀y v,(callFunc 314 #[.slice (some f) m r,.slice (some (b,i+m)) y v]).run zD w= .ok (.value (.bool false)) w:=fun y v=>by
  rw[run_callFunc_extern Tryz.func314 oe oe oe (e:=Extern.SlicesOverlaps.overlaps #[207,207] #[4]) oe,
   Lib.run_overlaps_apart w 207 4 256 zbr 1 (fun w=>oe) f (b,i+m) m r y v C F J A B W ag N ac X]
  rfl
 have Z:(g.drop i).length=n - i:=by rw[zaM,L]
 have au:IntKind.i64.wrap ((i:Int)+(m:Int))=(i:Int)+(m:Int):=oab
 have ak:(0:Int)<=(i:Int)+(m:Int):=oa
 have aw:i<=n:=oa
 have av:((i:Int)+(m:Int)).toNat=i+m:=oa
 have am:¬(c=i+m):=oa
 have ax:(i:Int)<=(n:Int)+(m:Int):=oa
 have ar:¬(c=i):=oa
 have E:∀j k x,(Builtin.copy_ #[207,207] j #[.slice (some (b,i+m)) (n+m - (i+m)) k,.slice (some (b,i)) (n+m - i) x]).run zD w.drew= .ok (goInt (g.drop i).length) (w.drew.setCells b (i+m) (g.drop i)):=fun j k x=>
  zhi w.drew _ _ j 256 b (i+m) (n+m - (i+m)) k (b,i) (n+m - i) x (g.drop i) zbr I (by rw[Z];simp only[zhj];split<;> omega)
   (fun d e h=>by rw[qW];exact ab (i+d) e (by rwa[zct] at h))
   (fun d h=>u _ oa) (fun d h=>H _ oa) (fun e Y=>R e (zdb Y))
 obtain⟨z,t⟩:=aX (w.drew.setCells b (i+m) (g.drop i))
 have ad:∀p,p<n+m->(z.cell? (b,p)).isSome=true:=fun p ae=>by rw[t];exact zoh b (g.drop i) (i+m) w.drew (fun d h=>u (i+m+d) oa) p (u p ae)
 have aa:∀(o:zC),(∀q,o.cell? q=z.cell? q)->(∀q,o.frozen? q=z.frozen? q)->∀j k,(Builtin.copy_ #[207,207] j #[.slice (some (b,i)) (n+m - i) k,.slice (some f) m r]).run zD o= .ok (goInt l.length) (o.setCells b i l):=fun o D T j k=>
  zhi o _ _ j 256 b i (n+m - i) k f m r l zbr I (by rw[V];simp only[zhj];split<;> omega)
   (fun d e h=>by rw[qW,D,t,zcv b _ _ _ _ (fun O _=>absurd O C),qr];exact af d e h)
   (fun d h=>by rw[D];exact ad _ (by omega)) (fun d h=>by rw[T,t,World.frozen?_setCells];exact H _ (by omega)) ah
 rw[<-t] at E
 have ai:Tryz.prog.follows .mixedOrders=true:=oe
 go_enter zj7,zj8
 go_wp2_with (simp only[M])
 go_region_law_o (refine zog rfl _ _ 207 207 rfl _ _ obn obn (E _ _ _) ?_)
 go_wp2_with (at_builtin;refine zk1 _ rfl _ _ 207 207 rfl _ _ rfl rfl (aa _ (fun _=>rfl) (fun _=>rfl) _ _) ?_)
 go_ret
 first|exact⟨rfl,rfl⟩|exact⟨rfl,by rw[t]⟩
theorem zvl (b n c i o m C:Nat) (g h:List Value) (w:World) (ap:i<n) (aP:0<m) (a2:n<=c) (ac:c<n+m) (ag:(n+m)*8<=140737488355328)
 (R:g.length=n) (ab:h.length=m)
 (A:∀a d,g[a]?=some d->w.cell? ⟨b,a,none⟩=some d)
 (K:∀a d,h[a]?=some d->w.cell? ⟨o,a,none⟩=some d) (aa:∀d∈g,d.oneCell'=true) (ao:∀d∈h,d.oneCell'=true):
 Calls Tryz.prog 294 #[.slice (some ⟨b,0,none⟩) n c,.int .i64 i,.slice (some ⟨o,0,none⟩) m C] w fun af N=>
  af= .returned (.slice (some w) (n+m) (grownCap w (n+m) c 256))/\
  N=(((w.alloc (.cells ((g.take i).toArray++Builtin.zeroCells (Value.pointer none).cells (n+m - i)++Builtin.zeroCells (Value.pointer none).cells (grownCap w (n+m) c 256 - (n+m))) 256)).drew.setCells w i h).drew).setCells w (i+m) (g.drop i):=by
 obtain⟨L,V,Y,W,G⟩:=yI zen
 have av:Tryz.prog.follows .mixedOrders=true:=oe
 have ay:¬((m:Int)=0):=oa
 have az:¬((i:Int)=(n:Int)):=oa
 have ax:(c:Int)<(n:Int)+(m:Int):=oa
 have M:=zoi
 have al:b<w:=zfY (A 0 _ (xG oa))
 have T:o<w:=zfY (K 0 _ (xG oa))
 have J:(n:Int)+(m:Int) - (i:Int)=((n+m - i:Nat):Int):=oa
 have y:i+(n+m - i)=n+m:=oa
 have F:(Builtin.firstCells L.size i (.slice (some b) i c)).run zD w.drew= .ok (g.take i).toArray w.drew:=by
  rw[W];exact run_firstCells_some w.drew 1 i b i c (g.take i) oaa (fun a d j=>by
   rw[qW,qr];rw[zcE] at j;split at j
   ·exact A a d j
   ·cases j)
 have v:∀l,(Builtin.append_ #[207,3] l #[.slice (some ⟨b,0,none⟩) i c,.int .i64 ((n:Int)+(m:Int) - (i:Int))]).run Tryz.prog w=
  .ok (.slice (some ⟨w.heap.size,0,none⟩) (n+m) (grownCap w (n+m) c 256)) (w.drew.alloc (.cells ((g.take i).toArray++Builtin.zeroCells (Value.pointer none).cells (n+m - i)++Builtin.zeroCells (Value.pointer none).cells (grownCap w (n+m) c 256 - (n+m))) 256)):=fun l=>by
  have p:=Lib.run_append_grow_zeros w 207 3 l 256 L _ .i64 .i64 zbr Tryz.underlying3 V Y (some ⟨b,0,none⟩) i c (g.take i) F (n+m - i) oa oa oa oa (by rw[G];omega) (by rw[G,y];exact growslice_fits ac ag);rw[y] at p;rw[J];exact p
 obtain⟨s,x⟩:=aX (grownCap w (n+m) c 256)
 obtain⟨f,B⟩:∃f:Array Value,f=(g.take i).toArray++Builtin.zeroCells (Value.pointer none).cells (n+m - i)++Builtin.zeroCells (Value.pointer none).cells (s - (n+m)):=⟨_,rfl⟩
 rw[<-x] at v ⊢
 rw[<-B] at v ⊢
 have ae:n+m<=f.size:=by rw[B];simp[Builtin.zeroCells,Value.cells];omega
 obtain⟨q,t⟩:=aX (w.drew.alloc (.cells f 256))
 rw[<-t] at v
 have E:∀a,a<n+m->(q.cell? ⟨w.heap.size,a,none⟩).isSome=true:=fun a j=>by rw[t,World.cell?_alloc_at (w:=w.drew) f _ w.heap.size a rfl,Array.getElem?_eq_getElem oa];rfl
 have I:∀a,q.frozen? ⟨w.heap.size,a,none⟩=false:=fun a=>by rw[t];exact World.frozen?_alloc_at (w:=w.drew) f _ w.heap.size a rfl
 have ad:∀a d,w.cell? ⟨b,a,none⟩=some d->q.cell? ⟨b,a,none⟩=some d:=fun a d p=>by rw[t,World.cell?_alloc_past (w:=w.drew) _ b a al];exact p
 have ah:∀a d,w.cell? ⟨o,a,none⟩=some d->q.cell? ⟨o,a,none⟩=some d:=fun a d p=>by rw[t,World.cell?_alloc_past (w:=w.drew) _ o a T];exact p
 have O:∀(k:World),(∀e,k.cell? e=q.cell? e)->(∀e,k.frozen? e=q.frozen? e)->∀l r,(Builtin.copy_ #[207,207] l #[.slice (some ⟨w.heap.size,i,none⟩) (n+m - i) r,.slice (some ⟨o,0,none⟩) m C]).run Tryz.prog k= .ok (goInt h.length) (k.setCells w.heap.size i h):=fun k u z l r=>
  zhi k _ _ l 256 w.heap.size i (n+m - i) r ⟨o,0,none⟩ m C h zbr M (by rw[ab];simp only[zhj];split<;> omega)
   (fun a d j=>by rw[qW,u,qr];exact ah _ d (K a d j))
   (fun a j=>by rw[u];exact E _ (by omega)) (fun a j=>by rw[z];exact I _) ao
 have a4:n+m<=s:=by rw[x];exact zhV w _ _ _
 have aq:s<=9223372036854775807:=by have:=zhU w (n+m) c 256 oP;rw[<-x] at this;unfold maxLen at this;omega
 have au:¬(s=i):=oa
 have a6:¬(s=i+m):=oa
 have a0:¬(c=i):=oa
 have aj:b≠w:=oa
 have X:(g.drop i).length=n - i:=by rw[zaM,R]
 have H:∀(k:zC),(∀e,k.cell? e=(q.setCells w i h).cell? e)->(∀e,k.frozen? e=(q.setCells w i h).frozen? e)->∀l r D,(Builtin.copy_ #[207,207] l #[.slice (some (w,i+m)) (n+m - (i+m)) r,.slice (some (b,i)) (n - i) D]).run zD k= .ok (goInt (g.drop i).length) (k.setCells w (i+m) (g.drop i)):=fun k u z l r D=>
  zhi k _ _ l 256 w (i+m) (n+m - (i+m)) r (b,i) (n - i) D (g.drop i) zbr M (by rw[X];simp only[zhj];split<;> omega)
   (fun a d j=>by rw[qW,u,zcv _ _ _ _ _ (fun p _=>absurd p aj)];exact ad _ d (A (i+a) d (by rwa[zct] at j)))
   (fun a j=>by rw[u];exact zoh _ _ _ _ (fun a3 aZ=>E _ (by omega)) _ (E _ (by omega)))
   (fun a j=>by rw[z,World.frozen?_setCells];exact I _) (fun d am=>aa d (zdb am))
 subst t
 have an:∀e,((w.alloc (.cells f 256)).drew).cell? e=(w.drew.alloc (.cells f 256)).cell? e:=fun e=>rfl
 have ai:∀e,((w.alloc (.cells f 256)).drew).frozen? e=(w.drew.alloc (.cells f 256)).frozen? e:=fun e=>rfl
 have Z:∀e,(((w.alloc (.cells f 256)).drew.setCells w i h).drew).cell? e=((w.drew.alloc (.cells f 256)).setCells w i h).cell? e:=fun e=>rfl
 have ak:∀e,(((w.alloc (.cells f 256)).drew.setCells w i h).drew).frozen? e=((w.drew.alloc (.cells f 256)).setCells w i h).frozen? e:=fun e=>rfl
 have a5:IntKind.i64.wrap ((i:Int)+(m:Int))=(i:Int)+(m:Int):=oab
 have aw:(0:Int)<=(i:Int)+(m:Int):=oa
 have aH:i<=n:=oa
 have ar:((i:Int)+(m:Int)).toNat=i+m:=oa
 have a1:(i:Int)<=(n:Int):=oa
 clear J y F B x ae
 go_enter zj7,zj8
 go_wp2_with (first
  |(at_builtin;refine Lib.wpList_append_run _ rfl _ _ _ _ rfl _ _ rfl rfl _ _ (v _) ?_)
  |(at_builtin;refine zk1 _ rfl _ _ 207 207 rfl _ _ rfl rfl (O _ an ai _ _) ?_)
  |(at_builtin;refine zk1 _ rfl _ _ 207 207 rfl _ _ rfl rfl (H _ (fun _=>rfl) (fun _=>rfl) _ _ _) ?_))
 go_region_law_o (refine zog rfl _ _ 207 207 rfl (.slice (some (w,i+m)) (n+m - (i+m)) (s - (i+m))) (.slice (some (b,i)) (n - i) (c - i)) obn obn (H _ Z ak 3 (s - (i+m)) (c - i)) ?_)
 go_wp2
 go_ret
 exact⟨rfl,rfl⟩
theorem zk2(l:List Nat):∀a∈l.map zo,a.oneCell'=true:=by intro a b;obtain⟨c,_,rfl⟩:=xz.1 b;rfl
theorem zoj(l:List Nat):l.flatMap z6=l.map zo:=by
 induction l with
 |nil=>rfl
 |cons b l a=>rw[zcN,a];rfl
theorem zvm (base:Nat) (b:zJ) (l a:List Nat) (k m h t:Nat) (w:zC) (q:zG base 256 1 z6 w b l) (g:l.length=k) (i:a.length=m) (D:0<m)
 (r:∀e f,(a.map zo)[e]?=some f->w.cell? ⟨h,e,none⟩=some f) (A:base<=w.heap.size) (Z:k+m<=1000000):
 Calls zD 294 #[b,zB (k:Int),.slice (some h) m t] w (qH (zbQ base b (l++a) w)):=by
 have j:w.ownsRow base 256 1 b k (l.flatMap z6):=by rw[<-g];exact q
 obtain⟨K,I,V,H,J⟩:=yI zen;have z:∃y,∀d,(Instr.slice 207 b (zB (k:Int)) none none).run zD d= .ok y d:=by
  rcases j.2 with⟨rfl,c⟩|⟨n,x,W,rfl,_,_,E,D,_⟩
  ·subst c;exact⟨(),fun d=>oe⟩
  ·obtain⟨X,_,c⟩:=zo1 (T:=207) (k:=1) oe (fun w=>oe) n 0 k x k (zU _) E;exact⟨_,c⟩
 obtain⟨y,z⟩:=z;obtain⟨v,p,rfl⟩:∃v p,b= .slice v k p:=by
  rcases j.2 with⟨rfl,c⟩|⟨n,x,W,rfl,_⟩
  ·exact⟨none,0,by rw[c]⟩
  ·exact⟨_,_,rfl⟩
 have G:=zA g;have O:=zA i;have Y:¬((m:Int)=0):=oa;have F:(a.map zo).length=m:=by rw[xk,i]
 have o:=zk2 a;have u:=zA (zoj a).symm;generalize a.map zo=M at r F o u;clear q g i;go_enter zj7,zj8;go_wp2_with (at_builtin;refine jL _ rfl _ _ 207 rfl base 256 K (.pointer none) 1 8 zbr I V H J rfl ol _ k _ rfl j h m t M rfl oa ?f1 ?f2 ?f3 ?f4 A ?_);case f1=>intro e f B;rw[qW,qr];exact r e f B
 case f2=>exact o
 case f3=>unfold maxLen;omega
 case f4=>omega
 intro R d s L _ C;have N:=zA s;clear s;go_wp2;go_ret;refine⟨R,rfl,?_,L,C⟩;unfold zG;rw[xY,qe,G.o,O.o,<-u.o];exact N.o
theorem zk3{a:List Value}{l:List Nat}(e:a=l.map zo){j b:Nat}(c:l[j]?=some b):a[j]?=some (zo b):=by rw[e,qw,c];rfl
theorem zk4(n:Nat):(Builtin.zeroCells (Value.pointer none).cells n).size=n:=by simp[Builtin.zeroCells,Value.cells]
theorem zok (base:Nat) (ac:Value) (l q:List Nat) (i m x al:Nat) (w:World) (a9:zG base 256 1 z6 w ac l) (bw:i<=l.length) (aj:q.length=m) (au:0<m)
 (bb:Array Value) (az:TypeId) (ap:w.heap[x]?=some (.cells bb az (0,0))) (ax:∀a r,(q.map zo)[a]?=some r->w.cell? ⟨x,a,none⟩=some r) (bg:ac.ownBlock≠some x) (aP:base<=w.heap.size) (bh:l.length+m<=1000000):
 Calls Tryz.prog 294 #[ac,.int .i64 (i:Int),.slice (some ⟨x,0,none⟩) m al] w (qH (zbQ base ac (l.take i++(q++l.drop i)) w)):=by
 by_cases bj:i=l.length
 ·rw[bj,qJ,List.drop_length,zbl];exact zvm base ac l q l.length m x al w a9 rfl aj au ax aP bh
 ·have bB:i<l.length:=by omega
  rcases a9.2 with⟨_,bC⟩|⟨c,s,ar,rfl,br,C,bv,a4,bz,bm⟩
  ·omega
  obtain⟨k,ak⟩:=aX l.length;obtain⟨d,L⟩:=aX (l.map zo);obtain⟨e,ad⟩:=aX (q.map zo);have ai:d.length=k:=by rw[L,xk,ak]
  have aq:e.length=m:=by rw[ad,xk,aj]
  have a0:∀u∈d,u.oneCell'=true:=by rw[L];exact zk2 l
  have a3:∀u∈e,u.oneCell'=true:=by rw[ad];exact zk2 q
  have bp:x≠c:=fun ab=>bg (by rw[ab];rfl);have bA:c<w.heap.size:=aL C;have an:∀a u,d[a]?=some u->w.cell? ⟨c,a,none⟩=some u:=by intro a u b;have bx:a<k:=(by rw[<-ai];exact(zw.1 b).1);rw[World.cell?,C];simp only[zcG,jW,jX];have g:(l.flatMap z6)[a]?=some u:=(by rw[zoj,<-L];exact b);rw[<-bm,zcE,zP (by rw[<-ak];omega),zbK] at g;exact g
  have Z:(l.take i++(q++l.drop i)).length=k+m:=by rw[xY,xY,yn,zaM,aj];omega
  have a6:∀(a V:Nat),(l.take i++(q++l.drop i))[a]?=some V->(a<i/\d[a]?=some (zo V))\/(i<=a/\a<i+m/\e[a - i]?=some (zo V))\/(i+m<=a/\a<k+m/\(d.drop i)[a - (i+m)]?=some (zo V)):=by
   intro a V b;have bq:a<k+m:=(by rw[<-Z];exact(zw.1 b).1);have be:(l.take i).length=i:=oaa;by_cases h:a<i
   ·left;rw[jm oa,zcE,zP h] at b;exact⟨h,zk3 L b⟩
   ·right;rw[vL oa,be] at b;by_cases g:a<i+m
    ·left;rw[jm oa] at b;exact⟨oa,g,zk3 ad b⟩
    ·right;rw[vL oa,aj,show a - i - m=a - (i+m) by omega] at b;refine⟨oa,bq,?_⟩;rw[L,<-zfR];exact zk3 rfl b
  by_cases a2:k+m<=s
  ·have D:∀(p:zC),(∃z,p.heap[c]?=some (.cells z 256 (0,0))/\z.size=s)->∀o,o<s->(p.cell? (c,o)).isSome=true/\p.frozen? (c,o)=false:=(by rintro p ⟨z,h,g⟩ o t;refine⟨?_,by simp[World.frozen?,h]⟩;rw[World.cell?,h];simp[g,t]);have a7:=D w ⟨ar,C,oa⟩;have bn:=zvk c k s i x m al d e w oa au a2 (by unfold maxLen at a4;omega) bp ai aq an (fun a b=>(a7 a oa).1) (fun a b=>(a7 a oa).2) (fun a r b=>ax a r (by rw[<-ad];exact b)) a0 a3 az 256 bb.size s
    (by simp[World.shape?,ap]) (by simp[World.shape?,C];omega) oa (by simp[World.frozen?,ap]) (by simp[World.frozen?,ap])
   rw[<-ak];refine bn.mono ?_;rintro ab p ⟨rfl,rfl⟩;obtain⟨G,am,O,ag,K⟩:=zdo c (d.drop i) (i+m) w.drew;obtain⟨N,A,aw⟩:=zek c (d.drop i) (i+m) w.drew ar C;have ba:=D _ ⟨N,A,oa⟩;have F:∀a,a<k - i->(w.drew.setCells c (i+m) (d.drop i)).cell? (c,i+m+a)=(d.drop i)[a]?:=fun a b=>(by have:=zfo c (d.drop i) (i+m) w.drew (fun o t=>(D w.drew ⟨ar,C,oa⟩ _ (by rw[zaM] at t;omega)).1) a oM;rw[this,xG oM]);have M:∀a,a<i+m->(w.drew.setCells c (i+m) (d.drop i)).cell? (c,a)=w.cell? (c,a):=fun a b=>zcv c _ _ w.drew _ (fun _ _=> .inl b);generalize w.drew.setCells c (i+m) (d.drop i)=f at G am O ag K A aw ba F M ⊢;obtain⟨af,X,T,Y,aa⟩:=zdo c e i f;obtain⟨bd,ah,ay⟩:=zek c e i f N A;have J:∀a,a<m->(f.setCells c i e).cell? (c,i+a)=e[a]?:=fun a b=>(by have:=zfo c e i f (fun o t=>(ba _ oa).1) a oa;rw[this,xG oa]);have B:∀a,(a<i\/i+m<=a)->(f.setCells c i e).cell? (c,a)=f.cell? (c,a):=fun a b=>zcv c _ _ f _ (fun _ _=>by rw[aq];exact b);generalize f.setCells c i e=aH at af X T Y aa ah ay J B ⊢;refine⟨_,rfl,?_,⟨T.trans O,Y.trans ag,aa.trans K,zaI (X.trans am).symm,fun n _ W=> ?_⟩,.inl rfl⟩
   ·have:=zG.of_cells (l:=l.take i++(q++l.drop i)) (base:=base) (k:=1) (enc:=z6) (fun _=>rfl) br ah (by rw[Z];exact a2) a4 oa fun a ae b I r H=> ?_
    ·rw[Z] at this;exact this
    ·have bl:I<1:=(zw.1 H).1;obtain rfl:I=0:=oa;obtain rfl:zo ae=r:=(by simpa[z6] using H);rw[zbh,jD];rcases a6 a ae b with⟨h,g⟩|⟨h,g,y⟩|⟨h,g,y⟩
     ·rw[B a (.inl h),M a oa];exact an a _ g
     ·have:=J (a - i) oa;rw[show i+(a - i)=a by omega] at this;rw[this];exact y
     ·rw[B a (.inr h)];have:=F (a - (i+m)) oa;rw[show i+m+(a - (i+m))=a by omega] at this;rw[this];exact y
   ·have aZ:n≠c:=fun ab=>W (by rw[ab];rfl);exact(af n aZ).trans (G n aZ)
  ·have bo:=zvl c k s i x m al d e w oa au oa oa oa ai aq an (fun a r b=>ax a r (by rw[<-ad];exact b)) a0 a3;rw[<-ak];refine bo.mono ?_;rintro ab p ⟨rfl,rfl⟩;have a8:=zhV w (k+m) s 256;have a5:=zhU w (k+m) s 256 oP;generalize grownCap w (k+m) s 256=R at a8 a5 ⊢;obtain⟨v,av⟩:∃v:Array Value,v=(d.take i).toArray++Builtin.zeroCells (Value.pointer none).cells (k+m - i)++Builtin.zeroCells (Value.pointer none).cells (R - (k+m)):=⟨_,rfl⟩;have bt:v.size=R:=(by rw[av,zfZ,zfZ,zk4,zk4];simp[ai];omega);have bi:∀a,a<i->v[a]?=d[a]?:=fun a b=>(by have g:(d.take i).length=i:=oaa;rw[av,Array.getElem?_append_left (by rw[zfZ,zk4];simp;omega),Array.getElem?_append_left oi];simp[zcE,b]);rw[<-av];have bE:w.heap.size<(w.alloc (.cells v 256)).heap.size:=oh;generalize E:World.drew (World.alloc _ _)=j;have ao:j.heap[w.heap.size]?=some (.cells v 256 (0,0)):=(by subst E;exact vi w _);have bc:∀n,n<w.heap.size->j.heap[n]?=w.heap[n]?:=(by subst E;exact fun n W=>yV _ _ _ W);have bu:j.heap.size=w+1:=(by subst E;simp);have a1:j.os=w.os/\j.output=w.output:=(by subst E;exact⟨rfl,rfl⟩);have bf:j.tape=w.tape:=(by subst E;exact rfl);clear E;have D:∀(p:zC),(∃z,p.heap[w.heap.size]?=some (.cells z 256 (0,0))/\z.size=R)->∀o,o<R->(p.cell? (w,o)).isSome=true:=(by rintro p ⟨z,h,g⟩ o t;rw[World.cell?,h];simp[g,t]);have bs:∀a,a<i->j.cell? (w,a)=d[a]?:=fun a b=>(by rw[World.cell?,ao,<-bi a b];simp);obtain⟨G,am,O,ag,K⟩:=zdo w e i j;obtain⟨N,A,aw⟩:=zek w e i j v ao;have F:∀a,a<m->(j.setCells w i e).cell? (w,i+a)=e[a]?:=fun a b=>(by have:=zfo w e i j (fun o t=>D j ⟨v,ao,bt⟩ _ oa) a oa;rw[this,xG oa]);have M:∀a,a<i->(j.setCells w i e).cell? (w,a)=j.cell? (w,a):=fun a b=>zcv _ _ _ j _ (fun _ _=> .inl b);generalize j.setCells w i e=f at G am O ag K A aw F M ⊢;obtain⟨af,X,T,Y,aa⟩:=zdo w (d.drop i) (i+m) f.drew;obtain⟨bd,ah,ay⟩:=zek w (d.drop i) (i+m) f.drew N A;have J:∀a,a<k - i->(f.drew.setCells w (i+m) (d.drop i)).cell? (w,i+m+a)=(d.drop i)[a]?:=fun a b=>(by have:=zfo w (d.drop i) (i+m) f.drew (fun o t=>D f.drew ⟨N,A,oa⟩ _ (by rw[zaM] at t;omega)) a oM;rw[this,xG oM]);have B:∀a,a<i+m->(f.drew.setCells w (i+m) (d.drop i)).cell? (w,a)=f.cell? (w,a):=fun a b=>zcv _ _ _ f.drew _ (fun _ _=> .inl b);generalize f.drew.setCells w (i+m) (d.drop i)=aH at af X T Y aa ah ay J B ⊢;have bD:aH.heap.size=f:=X;refine⟨_,rfl,?_,⟨T.trans (O.trans a1.1),Y.trans (ag.trans bf),aa.trans (K.trans a1.2),oa,fun n W _=> ?_⟩,.inr rfl⟩
   ·have:=zG.of_cells (l:=l.take i++(q++l.drop i)) (base:=base) (k:=1) (enc:=z6) (fun _=>rfl) aP ah (cap:=R) (by rw[Z];exact a8) a5 oa fun a ae b I r H=> ?_
    ·rw[Z] at this;exact this
    ·have bl:I<1:=(zw.1 H).1;obtain rfl:I=0:=oa;obtain rfl:zo ae=r:=(by simpa[z6] using H);rw[zbh,jD];rcases a6 a ae b with⟨h,g⟩|⟨h,g,y⟩|⟨h,g,y⟩
     ·rw[B a oa,M a h,bs a h];exact g
     ·rw[B a g];have:=F (a - i) oa;rw[show i+(a - i)=a by omega] at this;rw[this];exact y
     ·have:=J (a - (i+m)) oa;rw[show i+m+(a - (i+m))=a by omega] at this;rw[this];exact y
   ·exact(af n oa).trans ((G n oa).trans (bc n W))
end Go.Proofs.YtimlgcodecgecaaGreatDoor
namespace Go.Proofs.YtimlgcodecgecaaGreatDoor
open Go.RowKit Go.Lib
def zac(u:zV):List Value:= [u.id.c,u.id.k,u.left.c,u.left.k,u.right.c,u.right.k]
def zby(u:zV):Value:= .agg (zac u).toArray
structure yE(n:Nat)(W:zC)(am om:List (zF×Value))(ord root:zJ)(fr:Bool):Prop where
 all:zq xV W (n+4) am
 at_:zq xV W (n+5) om
 sq:W.heap[n+6]?=some (.cells #[.map (some (n+4)),ord,root,.map (some (n+5)),.bool fr] 209 (0,0))
theorem yE.keep{n:Nat}{W W':zC}{f d:List (zF×Value)}{h e:zJ}{g:Bool}(c:yE n W f d h e g)(b:∀a,a=n+4\/a=n+5\/a=n+6->W'.heap[a]?=W.heap[a]?):yE n W' f d h e g where
 all:=c.all.blk (b _ oa)
 at_:=c.at_.blk (b _ oa)
 sq:=(b _ oa).trans c.sq
theorem yE.cell {n:Nat}{W:zC}{g f:List (zF×Value)}{c a:zJ}{b:Bool}(d:yE n W g f c a b) (k:Nat) (v:zJ)
 (e:(#[Value.map (some (n+4)),c,a,.map (some (n+5)),.bool b])[k]?=some v):W.cell? (n+6,k)=some v:=by
 simp only[World.cell?,d.sq];simpa using e
theorem yE.frz{n:Nat}{W:zC}{d b:List (zF×Value)}{f c:zJ}{e:Bool}(a:yE n W d b f c e)(k:Nat):W.frozen? (n+6,k)=false:=by simp only[World.frozen?,a.sq];simp
theorem yE.lt{n:Nat}{W:zC}{e c:List (zF×Value)}{g d:zJ}{f:Bool}(b:yE n W e c g d f):n+6<W.heap.size:=aL b.sq
def jE(u:zV)(p l r:zJ)(s:Int):Array Value:=#[u.id.c,u.id.k,u.left.c,u.left.k,u.right.c,u.right.k,p,l,r,zB s]
def xa(W:zC)(b:Nat)(u:zV)(p l r:zJ)(s:Int):Prop:=W.heap[b]?=some (.cells (jE u p l r s) 258 (0,0))
theorem xa.cell{W:zC}{b:Nat}{u:zV}{p l r:zJ}{s:Int}(a:xa W b u p l r s)(k:Nat)(v:zJ)(c:(jE u p l r s)[k]?=some v):W.cell? (b,k)=some v:=by simp only[World.cell?,show W.heap[b]?=_ from a];simpa using c
theorem xa.frz{W:zC}{b:Nat}{u:zV}{p l r:zJ}{s:Int}(h:xa W b u p l r s)(k:Nat):W.frozen? (b,k)=false:=by simp only[World.frozen?,show W.heap[b]?=_ from h];simp
theorem xa.lt{W:zC}{b:Nat}{u:zV}{p l r:zJ}{s:Int}(h:xa W b u p l r s):b<W:=aL h
theorem xa.setP{W:zC}{b:Nat}{u:zV}{p l r:zJ}{s:Int}(h:xa W b u p l r s)(v:zJ):xa (W.setCell (b,6) v) b u v l r s:=by unfold xa at *;simp[World.setCell,zu,h,jE]
theorem xa.setR{W:zC}{b:Nat}{u:zV}{p l r:zJ}{s:Int}(h:xa W b u p l r s)(v:zJ):xa (W.setCell (b,8) v) b u p l v s:=by unfold xa at *;simp[World.setCell,zu,h,jE]
theorem xa.setS{W:zC}{b:Nat}{u:zV}{p l r:zJ}{s:Int}(h:xa W b u p l r s)(v:Int):xa (W.setCell (b,9) (zB v)) b u p l r v:=by unfold xa at *;simp[World.setCell,zu,h,jE]
theorem yE.setOrd{n:Nat}{W:zC}{d b:List (zF×Value)}{f c:zJ}{e:Bool}(a:yE n W d b f c e)(v:zJ):yE n (W.setCell (n+6,1) v) d b v c e where
 all:=a.all.blk (zZ _ _ _ _ (by show ¬n+4=n+6;omega))
 at_:=a.at_.blk (zZ _ _ _ _ (by show ¬n+5=n+6;omega))
 sq:=oaz
theorem yE.setRoot{n:Nat}{W:zC}{c b:List (zF×Value)}{e f:zJ}{d:Bool}(a:yE n W c b e f d)(v:zJ):yE n (W.setCell (n+6,2) v) c b e v d where
 all:=a.all.blk (zZ _ _ _ _ (by show ¬n+4=n+6;omega))
 at_:=a.at_.blk (zZ _ _ _ _ (by show ¬n+5=n+6;omega))
 sq:=oaz
theorem yE.setFresh{n:Nat}{W:zC}{d b:List (zF×Value)}{e c:zJ}{f:Bool}(a:yE n W d b e c f)(v:Bool):yE n (W.setCell (n+6,4) (.bool v)) d b e c v where
 all:=a.all.blk (zZ _ _ _ _ (by show ¬n+4=n+6;omega))
 at_:=a.at_.blk (zZ _ _ _ _ (by show ¬n+5=n+6;omega))
 sq:=oaz
theorem zvq(x y:zF)(w:zC):(binOp BinOp.eql 62 (.agg #[x.c,x.k]) (.agg #[y.c,y.k])).run zD w= .ok (.bool (decide (x=y))) w:=by have h:=ziu w x y;unfold xV at h;simp only[binOp,yU,h,yY,qI]
theorem zvr(w:zC):(zeroValue 256).run zD w= .ok (.pointer none) w:=oe
theorem zh9{n:Nat}{W:zC}{a c:List (zF×Value)}{f d:zJ}{e:Bool}(b:yE n W a c f d e)(x:zF):
 (Instr.lookup 205 (.map (some (n+4))) (.agg #[x.c,x.k]) false).run zD W= .ok ((xD a x).getD (.pointer none)) W:=by
 have:=zbB vb (T:=205) (E:=256) oe zvr b.all x false;simpa[xV] using this
theorem zop{n:Nat}{W:zC}{d a:List (zF×Value)}{f c:zJ}{e:Bool}(b:yE n W d a f c e)(x:zF):
 (Instr.lookup 206 (.map (some (n+5))) (.agg #[x.c,x.k]) false).run zD W= .ok ((xD a x).getD (zB 0)) W:=by
 have:=zbB vb (T:=206) (E:=3) oe (z:=zB 0) (fun g=>oe) b.at_ x false;simpa[xV] using this
theorem zk9(w:zC)(c d:Array Value)(t u:TypeId)(i:Nat):((w.alloc (.cells c t)).alloc (.cells d u)).cell? (w,i)=c[i]?/\((w.alloc (.cells c t)).alloc (.cells d u)).cell? (w.heap.size+1,i)=d[i]?:=by
 refine⟨?_,?_⟩
 ·simp only[World.cell?];rw[zt,zN oh,zt,zP rfl];simp
 ·simp only[World.cell?];rw[zt,zP oh];simp
theorem zf1(x:zF)(w:zC):Calls zD 290 #[.agg #[x.c,x.k]] w fun c b=>c= .returned (.bool (decide (x=zT)))/\Below w w b:=by
 have a:=zvq x zT;cases hd:decide (x=zT)
 ·rw[hd] at a;unfold zT at a;clear hd;go_enter Tryz.func290,Tryz.ntmps290;go_wp2;go_ret;exact⟨rfl,aB⟩
 ·rw[hd] at a;unfold zT at a;clear hd;go_enter Tryz.func290,Tryz.ntmps290;go_wp2;go_ret;exact⟨rfl,aB⟩
theorem zvv(w:zC):Calls zD 290 #[.agg #[zH,zH]] w fun b a=>b= .returned (.bool true)/\Below w w a:=zf1 zT w
theorem zvw(p:Addr)(w:zC):Calls zD 289 #[.agg #[zH,zH],.pointer (some p)] w fun c b=>c= .returned (.bool true)/\Below w w b:=by
 have d:=zvv;go_enter Tryz.func289,Tryz.ntmps289;go_upto_region 1 with fail;have f:∀a:zM (w.alloc (.cells #[zH,zH] 62)),a.val.cell? w=zH:=zM.cell oh oS;have e:∀a:zM (w.alloc (.cells #[zH,zH] 62)),a.val.cell? (w,1)=zH:=zM.cell oh oS;refine aG ?_;repeat(first|go_big_quiet_skip|(go_big_quiet_want;go_big_quiet_op;first|go_big_quiet_on|go_big_quiet_call ((go_at_call 290;exact xl (d _)))))
 refine aE ?_;intro W' hC' hBW';go_wp2;go_ret;exact⟨rfl,aA.trans (hBW'.mono oh)⟩
theorem zf2{n:Nat}{W:zC}{d b:List (zF×Value)}{f c:zJ}{e:Bool}(a:yE n W d b f c e)(s:zM W):yE n s.val d b f c e:=a.keep fun g h=>s.h.block g (by have:=a.lt;omega)
open Go.Shelf
section
attribute [local go_sem] jl
theorem RoundIn.depth{P:Program}{n n' l:Nat}{f:FuncId}{b:Array Value}{d c:Code}{w:zC}{R:Ending->World->Prop}(a:RoundIn Fence.wide n P l f b d c w R):RoundIn Fence.wide n' P l f b d c w R:=⟨a.1,fun g e _=>a.2 g e (room_wide _)⟩
theorem zel{P:Program}{n n' l:Nat}{args:Array Value}{w:zC}{R:Ending->World->Prop}(c:YieldAt Fence.wide n P l args w R):YieldAt Fence.wide n' P l args w R:=by obtain⟨a,e,g,f,d,b⟩:=c;exact⟨a,e,g,f,d,RoundIn.depth b⟩
theorem zoU{P:Program}{n n' l l':Nat}{args:Array Value}{w:zC}{R:Ending->World->Prop}(h:YieldAt Fence.wide n P l args w R):YieldAt (Fence.wide.inRound l') n' P l args w R:=zel (n':=n') h
def jr(x:Nat×zV):Array Value:=#[zB x.1,zby x.2]
def xw(b:List zV)(k:Nat):List (Nat×zV):=(List.range k).map fun a=>(a,b.getD a qu)
theorem zkz(a:List zV)(k:Nat):xw a (k+1)=xw a k++[(k,a.getD k qu)]:=by simp[xw,zjo]
theorem zoV(b:List zV)(k:Nat):(xw b k).length=k:=by simp[xw]
structure ql(n:Nat)(sv:zJ)(bs:List Nat)(us:List zV)(W:zC):Prop where
 c:W.cell? (n+6,1)=some sv
 row:zc 1 z6 W sv bs
 len:bs.length=us.length
 nodes:∀(k b:Nat) (u:zV),bs[k]?=some b->us[k]?=some u->∀(i:Nat) (y:zJ),(zac u)[i]?=some y->W.cell? (b,i)=some y
theorem ql.below{n:Nat}{h:zJ}{g:List Nat}{f:List zV}{W W':zC}(c:ql n h g f W)(e:Below W W W'):ql n h g f W':=by
 have a:∀{b:Addr}{d:zJ},W.cell? b=some d->W'.cell? b=some d:=fun {b d} a=>by
  have j:b.block<W:=by
   unfold World.cell? at a;cases ho:W.heap[b.block]? with
   |none=>simp[ho] at a
   |some s=>exact(aL ho)
  exact(e.cell j).trans a
 exact⟨a c.c,c.row.below e,c.len,fun i o q p k m r l=>a (c.nodes i o q p k m r l)⟩
theorem zoW (n O m L:Nat) (am:3<=m) (T:zJ) (d:List Nat) (b:List zV) (l:World->Prop) (i:List (Nat×zV)->World->Prop)
 (w:∀t W,i t W->ql n T d b W/\W.cell? O=some (zo (n+6)))
 (ae:∀t K W,i t W->l W->t.length<b.length->YieldAt Fence.wide (m - 1) zD L (jr K) W fun j s=>j= .returned (.bool true)/\i (t++[K]) s/\l s)
 (W:zC) (z:i [] W) (M:l W):
 CallsIn Fence.wide m zD 193 #[.func (.yield L) #[] #[],O] W fun j s=>(∃aa,j= .returned aa)/\∃E,E=xw b b.length/\i E s/\l s:=by
 obtain⟨k,H⟩:=w _ _ z;have X:=k.c;have o:=k.len;have ay:1<=m:=oa;unfold zo at H;refine zaL zfm rfl trivial ?_ rfl;simp only[Tryz.ntmps193,yw,z7,xB,Nat.reduceAdd,Nat.reduceSub,qK,qL,qM,qN,xu,yD];obtain⟨D,A,v⟩:∃D A,T= .slice D b.length A:=by
  rcases k.row with⟨rfl,rfl⟩|⟨N,g,r,rfl,_⟩
  ·exact⟨none,0,by rw[<-o];rfl⟩
  ·exact⟨_,_,by rw[<-o]⟩
 have ab:b.length<=9223372036854775807:=by obtain⟨_,_,_,p,_⟩:=k.row.shape;rwa[o] at p
 have af:=zA o;obtain⟨f,F⟩:=aY b.length;rw[F] at v ab;subst v;clear k o;gi_wp2;gi_loopw [10] (fun x wx=>∃a:Nat,a<=f/\x=zB a/\i (xw b a) wx/\l wx) (fun x _=>f - (intOf x).toNat);case atStart=>exact⟨0,xO _,rfl,z,M⟩
 case round=>
  obtain⟨a,ax,rfl,u,C⟩:=hrel;obtain⟨y,Y⟩:=w _ _ u;by_cases ai:a<f
  ·have aq:(a:Int)<(f:Int):=(by omega);have q:a<d.length:=(by rw[af.o];omega);have V:b[a]?=some (b.getD a qu):=(by rw[xG oa];simp[List.getD,xG (show a<b.length by omega)]);obtain⟨B,g,r,v,G⟩:∃B g r,(Value.slice D f A)= .slice (some ⟨B,g,none⟩) f r/\wr.cell? ⟨B,g+a,none⟩=some (zo d[a]):=by
    rcases y.row with⟨_,p⟩|⟨N,g,r,j,_,_,p⟩
    ·rw[p] at q;cases q
    ·refine⟨N,g,r,?_,?_⟩
     ·cases j;rfl
     ·have:=p a d[a] (by simp[q]) 0 (zo d[a]) rfl;simpa using this
   cases v;have c:=y.nodes a d[a] (b.getD a qu) (by simp[q]) V;generalize d[a]=h at G c;generalize I:b.getD a qu=e at c;have ar:wr.cell? h=e.id.c:=c 0 _ rfl;have ah:wr.cell? (h,1)=e.id.k:=c 1 _ rfl;have av:wr.cell? (h,2)=e.left.c:=c 2 _ rfl;have ak:wr.cell? (h,3)=e.left.k:=c 3 _ rfl;have aj:wr.cell? (h,4)=e.right.c:=c 4 _ rfl;have au:wr.cell? (h,5)=e.right.k:=c 5 _ rfl;unfold zo at G;have R:=ae _ (a,e) wr u C (by rw[zoV];omega);unfold jr zby zac at R;have ag:=zA I;clear u c V w z M C X H Y y q I;gi_wp2_with (obtain⟨ap,al,ao,an,Z,J⟩:=R);refine J.mono ?_;rintro j aw ⟨rfl,ad,ac⟩;clear J Z;gi_wp2;go_roundw;case rel=>exact⟨a+1,oa,ou,by rw[zkz,ag.o];exact ad,ac⟩
   case measure=>simp[intOf];omega
  ·obtain rfl:a=f:=(by omega);gi_wp2;go_end0;exact⟨⟨_,rfl⟩,_,by rw[F],u,C⟩
end
theorem Mods.setC{S:Nat->Prop}{w w':zC}(a:Mods S w w'){p:Addr}(f:S p.block\/w.heap.size<=p.block)(v:zJ):Mods S w (w'.setCell p v):=
 ⟨a.os,a.tape,a.output,by simpa using a.size,fun g d c=>(zZ _ _ _ _ (fun e=>by
  rcases f with b|b
  ·exact c (by rw[e];exact b)
  ·omega)).trans (a.block g d c)⟩
theorem xa.keep{W W':zC}{b:Nat}{u:zV}{p l r:zJ}{s:Int}(c:xa W b u p l r s)(a:W'.heap[b]?=W.heap[b]?):xa W' b u p l r s:=a.trans c
theorem zc8{W:zC}{base n b:Nat}{v:zJ}{e:List Value}{u:zV}{p l r:zJ}{s:Int}(f:W.ownsRow base 256 1 v n e)(g:xa W b u p l r s):v.ownBlock≠some b:=by
 intro d;rcases f.2 with⟨rfl,_⟩|⟨a,h,i,rfl,_,c,_⟩
 ·cases d
 ·obtain rfl:a=b:=by simpa[Value.ownBlock] using d
  rw[show W.heap[a]?=_ from g] at c;cases c
end Go.Proofs.YtimlgcodecgecaaGreatDoor
