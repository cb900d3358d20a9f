/- Walks: value.Clean, cmp.Or at ints, the closure of ids.Clean. -/
import Derived.Test.YtimlgcodecgecaaGreatDoorZ03
import Derived.RangeFuncNested
import Derived.RangeFuncBound
import Derived.RangeFuncCalls
import Derived.RangeFuncLeaves
import Derived.RangeFuncBox
import Derived.Shelf.Abstract
import Derived.Shelf.RegionOpen
import Derived.OwnWalkIn
import Derived.TacticsInMore
import Derived.LoopNIn
import Derived.LoopIn
import Derived.BigGuardIn
set_option maxRecDepth 100000
set_option maxHeartbeats 20000000
set_option linter.all false
namespace Go.Proofs.YtimlgcodecgecaaGreatDoor
open Go.RowKit Go.Lib
theorem zsN(w:zC):(callFunc 82 #[Value.int .u64 9221120237041090560]).run zD w= .ok (.value (.float .f64 za5)) w:=oe
theorem zbA(w:zC)(a:Addr)(b:Nat)(m:Mode):(store a (.float .f64 b) m).run zD w=stored zD w a (.float .f64 b) m:=run_store zD w a _ m rfl
theorem zch(v:zr)(w:zC):
 Calls zD 65 #[.agg #[zB v.kind,zB v.n,.float .f64 v.f,.string v.s]] w fun d c=>d= .returned (.agg #[zB (v.clean).kind,zB (v.clean).n,.float .f64 (v.clean).f,.string (v.clean).s])/\Below w w c:=by
 have f:=zsN;have e:=zbA;cases hn:qv v.f
 ·have b:v.clean=v:=by simp[zr.clean,hn]
  have a:=fun w=>zgo v.f w;rw[hn] at a;rw[b];clear b hn;go_enter Tryz.func65,Tryz.ntmps65;go_wp2_with (go_at_call 132;refine(a _).mono ?_;rintro d c ⟨rfl,rfl⟩);exact yG (v:= .agg #[zB v.kind,zB v.n,.float .f64 v.f,.string v.s]) oap rfl ⟨rfl,aB⟩
 ·have b:v.clean=⟨v.kind,v.n,za5,v.s⟩:=by simp[zr.clean,hn]
  have a:=fun w=>zgo v.f w;rw[hn] at a;rw[b];clear b hn;go_enter Tryz.func65,Tryz.ntmps65;go_wp2_with (go_at_call 132;refine(a _).mono ?_;rintro d c ⟨rfl,rfl⟩);exact yG (v:= .agg #[zB v.kind,zB v.n,.float .f64 za5,.string v.s]) oap rfl ⟨rfl,aB⟩
theorem zml(x a:Int)(b:Nat)(w:zC)(e:w.cell? b=(zB x))(f:w.cell? (b,1)=(zB a)):
 Calls zD 145 #[.slice (some b) 2 2] w fun d c=>d=(zB (orI x a))/\w=c:=by
 go_enter Tryz.func145,Tryz.ntmps145;go_wp2;refine zbq 3 ?_;rw[vM];go_wp2;all_goals (first|(rw[vM];go_wp2)|skip)
 all_goals (first|(rw[vM];go_wp2)|skip)
 all_goals go_ret
 ·exact⟨zb7 (zqv ‹_›),rfl⟩
 ·exact⟨zb7 (zqw ‹_›),rfl⟩
 ·exact⟨zb7 (zqx ‹_› ‹_›),rfl⟩
theorem zmm{w w':zC}(i:Below w w w')(k:w.drawn<=w'.drawn):∃j g,w'=Sort.grow (w.drewN j) g:=by
 refine⟨w'.drawn - w.drawn,w'.heap.extract w w',?_⟩;obtain⟨e,a,f,h,d⟩:=i;cases w with|mk heap tape drawn g output=>
 cases w' with|mk heap' tape' drawn' os' output'=>
 simp only at e a f h d k;subst e;subst a;subst f;simp only[Sort.grow,World.drewN,World.mk.injEq,zfc,and_true];refine⟨?_,oa⟩;apply Array.ext_getElem?;intro b;by_cases c:b<heap.size
 ·rw[d b c,Array.getElem?_append,zP c]
 ·rw[Array.getElem?_append,zN c,Array.getElem?_extract];by_cases a:b<heap'.size
  ·rw[zP oa];congr 1;omega
  ·rw[zN oa];exact zcy oa
theorem zsO(x a:zO)(w:zC):
 Calls zD 179 #[.agg #[x.c,x.a,x.b],.agg #[a.c,a.a,a.b]] w fun c b=>c=(zB (x.cmp a))/\∃l m,b=Sort.grow (w.drewN l) m:=by
 have i:=fun d=>zfC x.c a.c d;have g:=fun d=>zfC x.a a.a d;obtain⟨k,e⟩:=aX (jv x.c a.c);obtain⟨j,f⟩:=aX (jv x.a a.a);have h:x.cmp a=orI k j:=by rw[e,f];rfl
 rw[<-e] at i;rw[<-f] at g;rw[h];clear h e f;go_enter Tryz.func179,Tryz.ntmps179;go_wp2;go_region_held3 (fun b=>b.cell? w=x.c/\b.cell? (w,1)=x.a/\b.cell? (w.heap.size+1:)=a.c/\b.cell? (w.heap.size+1,1)=a.a) (go_keep) (first|(go_at_call_of 146 (Value.int .u64 x.c);refine(i _).mono ?_;rintro c b ⟨rfl,rfl⟩)|(go_at_call_of 146 (Value.int .u64 x.a);refine(g _).mono ?_;rintro c b ⟨rfl,rfl⟩)|(go_at_call 145;refine(zml k j _ _ oS oS).mono ?_;rintro c b ⟨rfl,rfl⟩));go_wp2;go_ret;exact⟨rfl,zmm (aB) oh⟩
def zc{α:Type}(k:Nat)(enc:α->List Value)(w:zC)(v:zJ)(l:List α):Prop:=
 (v=()/\l= [])\/∃a b g,v= .slice (some (a,b)) l.length g/\l.length<=9223372036854775807/\a<w.heap.size/\
  ∀e c,l[e]?=some c->∀d f,(enc c)[d]?=some f->w.cell? (a,b+e*k+d)=some f
def zY(r:zO):List Value:= [r.c,r.a,r.b]
def ze(o:zQ):List Value:= [o.id.c,o.id.k,zB o.kind,o.stamp,o.left.c,o.left.k,o.right.c,o.right.k,.string o.text,zB o.v.kind,zB o.v.n,.float .f64 o.v.f,.string o.v.s,.string o.key,o.parent.c,o.parent.k,o.frm.c,o.frm.k,.bool o.frmA,o.til.c,o.til.k,.bool o.tilA]
theorem zt(w:zC)(o:Obj)(k:Nat):(w.alloc o).heap[k]?=if k=w.heap.size then some o else w.heap[k]?:=by show(w.heap.push o)[k]?=_;rw[Array.getElem?_push]
structure Mods(S:Nat->Prop)(w w':zC):Prop where
 os:w'.os=w.os
 tape:w'.tape=w.tape
 output:w'.output=w.output
 size:w.heap.size<=w'.heap.size
 block:∀k,k<w.heap.size->¬S k->w'.heap[k]?=w.heap[k]?
theorem Mods.refl(S:Nat->Prop)(w:World):Mods S w w:=⟨rfl,rfl,rfl,zU _,fun _ _ _=>rfl⟩
theorem Mods.trans{S:Nat->Prop}{a b c:World}(d:Mods S a b)(g:Mods S b c):Mods S a c:=
 ⟨g.os.trans d.os,g.tape.trans d.tape,g.output.trans d.output,zk d.size g.size,fun h e f=>(g.block h (zg e d.size) f).trans (d.block h e f)⟩
theorem Mods.of_below{S:Nat->Prop}{a b:zC}(c:Below a a b):Mods S a b:=⟨c.os,c.tape,c.output,c.size,fun e d _=>c.block e d⟩
theorem Mods.alloc{S:Nat->Prop}{w w':World}(a:Mods S w w')(o:Obj):Mods S w (w'.alloc o):=
 ⟨a.os,a.tape,a.output,by rw[qX];have:=a.size;omega,fun d b c=>(by rw[zt,zN (by have:=a.size;omega)];exact a.block d b c)⟩
theorem Mods.drew{S:Nat->Prop}{w w':World}(h:Mods S w w'):Mods S w w'.drew:=⟨h.os,h.tape,h.output,h.size,h.block⟩
theorem Mods.grown{S:Nat->Prop}{w w' h:zC}(a:Mods S w w'){e:Option Nat}(b:w'.grownBy h e)(j:∀c,e=some c->S c\/w.heap.size<=c):Mods S w h:=
 ⟨b.os.trans a.os,b.tape.trans a.tape,b.output.trans a.output,zk a.size b.size,fun d f i=>(b.block d (zg f a.size) (fun k=>by rcases j d k.symm with g|g;exact i g;omega)).trans (a.block d f i)⟩
theorem Mods.mono{S T:Nat->Prop}{w w':zC}(a:Mods S w w')(d:∀b,S b->T b):Mods T w w':=⟨a.os,a.tape,a.output,a.size,fun b c f=>a.block b c fun e=>f (d b e)⟩
theorem zc.keep {α:Type}{k:Nat}{enc:α->List Value}{w w':World}{v:Value}{l:List α}(c:zc k enc w v l) (t:w.heap.size<=w'.heap.size)
 (e:∀a b q m,v= .slice (some ⟨a,b,none⟩) q m->a<w.heap.size->w'.heap[a]?=w.heap[a]?):zc k enc w' v l:=by
 rcases c with c|⟨a,b,r,d,o,h,g⟩
 ·exact .inl c
 ·refine .inr ⟨a,b,r,d,o,oa,fun j p f i s n=> ?_⟩;have:=g j p f i s n;rw[<-this];exact xA (w:=w) (e _ _ _ _ d h)
theorem zc.below{α:Type}{k:Nat}{enc:α->List Value}{w w':World}{v:Value}{l:List α}(c:zc k enc w v l)(b:Below w.heap.size w w'):zc k enc w' v l:=
 c.keep b.size fun d _ _ _ _ e=>b.block d e
def qH(R:Value->World->Prop)(e:Ending)(w':zC):Prop:=∃v,e= .returned v/\R v w'
open Go.Shelf
theorem zuy(n:Nat)(b a:zJ)(w:zC)(f:b.oneCell'=true)(e:a.oneCell'=true):
 CallsIn Fence.wide n zD 176 #[b,a] w fun d c=>d= .returned (.func (.func 228) #[] #[w,(w.heap.size+1:)])/\c=(w.alloc (.cells #[b] 92)).alloc (.cells #[a] 216):=by
 refine zaL Tryz.func176 rfl trivial ?_ rfl;simp only[Tryz.ntmps176,yw,z7,xB,Nat.reduceAdd,Nat.reduceSub,qK,qL,qM,qN,xu,yD];gi_wp2;go_ret;exact⟨rfl,rfl⟩
def zaa(l:List zO)(k:Nat):List zO:=(l.take k).filter zO.rightB
theorem zuz{l:List zO}{k:Nat}(a:k<l.length)(b:(l[k]).rightB=true):zaa l (k+1)=zaa l k++[l[k]]:=by unfold zaa;rw[j1 a,zap];simp[b]
theorem zu0{l:List zO}{k:Nat}(a:k<l.length)(b:(l[k]).rightB=false):zaa l (k+1)=zaa l k:=by unfold zaa;rw[j1 a,zap];simp[b]
theorem zu1(l:List zO)(k:Nat):(zaa l k).length<=k:=zk (jV _ _) (List.length_take_le _ _)
theorem zoL {n:Nat}{P:Program}{b:Array Oper}{Q:Exit->Act->World->Prop}{a:Act}{w:zC}{c:List Oper}{o:Oper}
 (f:Region.wanted o (yielded b a.tmps)=false) (e:wpListIn Fence.wide n P b Q c (a.put o.dst undef) w):wpListIn Fence.wide n P b Q (o::c) a w:=
 wpListIn_step fun g d=>by rw[zN (by rw[f];exact Bool.false_ne_true)];exact⟨fun _ _=>trivial,d _ _ e⟩
theorem zdn{β:Type}{B:Nat}{c:β->World->Prop}(g:AbidesFrom B c){w w':zC}(b:Below w w w'){s:β}(f:c s w):c s w':=
 g s w w' none f ⟨b.os,b.tape,b.output,b.size,fun h d _=>b.block h d⟩ (fun i e=>obd)
def ye(b a:Nat)(A B:zC):Prop:=Below b A B/\B.heap[a]?=A.heap[a]?
theorem ye.refl(a b:Nat)(A:zC):ye a b A A:=⟨zf _ _,rfl⟩
theorem ye.trans{a b:Nat}{A B C:zC}(c:ye a b A B)(g:ye a b B C):ye a b A C:=⟨c.1.trans g.1,g.2.trans c.2⟩
theorem ye.of_below{c a:Nat}{A B:zC}(e:c<=A)(d:a<A)(b:Below A A B):ye c a A B:=⟨b.mono e,b.block a d⟩
theorem ye.cell{b a:Nat}{A B:zC}(c:ye b a A B):B.cell? a=A.cell? a:=xA (w:=A) c.2
theorem zu2 (n:Nat) (aq:3<=n) (L E i u b o cap:Nat) (l:List zO) (af:l.length<=9223372036854775807) (w:b<u) (k K:List zO->World->Prop)
 (y:∀g c W,k g W->g.length<l.length->YieldAt Fence.wide (n - 1) zD L #[.agg #[c.c,c.a,c.b]] W fun e j=>
  (e= .returned (.bool true)/\k (g++[c]) j/\ye u i W j)\/(e= .returned (.bool false)/\K (g++[c]) j))
 (W:zC) (ar:u<=W) (ad:i<W) (I:AbidesFrom W k) (G:W.cell? E=some (.slice (some (b,o)) l.length cap)) (x:W.cell? i=some (.func (.func 177) #[] #[]))
 (m:∀D c,l[D]?=some c->∀h M,(zY c)[h]?=some M->W.cell? (b,o+D*3+h)=some M) (N:k [] W):
 CallsIn Fence.wide n zD 228 #[.func (.yield L) #[] #[],E,i] W fun e j=>(∃T,e= .returned T)/\
  ((∃B,B=l.filter zO.rightB/\k B j)\/(∃g,(∃a,a<=l.length/\g=zaa l a)/\K g j)):=by
 refine zaL zja rfl trivial ?_ rfl
 simp only[Tryz.ntmps228,yw,z7,xB,Nat.reduceAdd,Nat.reduceSub,qK,qL,qM,qN,xu,yD]
 gi_wp2
 gi_loopw [8] (fun h wr=>∃a:Nat,a<=l.length/\h=zB a/\k (zaa l a) wr/\ye u i W wr)
  (fun h _=>l.length - (intOf h).toNat)
 case atStart=>exact⟨0,xO _,rfl,N,ye.refl _ _ _⟩
 case round=>
  obtain⟨a,au,rfl,r,d⟩:=hrel;by_cases C:a<l.length
  ·have X:(a:Int)<(l.length:Int):=(by omega);have F:=(d.1.cell (p:=(b,o+a*3+0)) w).trans (m a l[a] oh 0 _ rfl);have R:=(d.1.cell (p:=(b,o+a*3+1)) w).trans (m a l[a] oh 1 _ rfl);have aa:=(d.1.cell (p:=(b,o+a*3+2)) w).trans (m a l[a] oh 2 _ rfl);have ae:=d.cell.trans x;have ap:Fence.wide.fn 177:=trivial;have al:1<=n:=oa;have am:∀J z,(callFunc 177 J).run zD z= .ok (.enter 177 J) z:=enters_of Tryz.func177 oe rfl;have v:=zuz C;have s:=zu0 C;have H:i<wr:=oaH;generalize l[a]=c at F R aa v s;simp only[jD] at F;have t:=fun W=>(yi (n:=n - 1)).2 (ziz c W);cases hq:c.rightB with
   |false=>
    have q:=zA (s hq);rw[hq] at t;clear v s hq m y G x;gi_wp2_with fail;refine(t _).mono ?_;rintro e A ⟨rfl,f⟩;obtain⟨Y,ac⟩:=yZ f;dsimp only;go_at_K;repeat(first|refine zoL (by rfl) ?_|gi_step)
    gi_wp2;go_roundw;case rel=>exact⟨a+1,oa,oh,by rw[q.o];exact zdn I (zK aA f) r,d.trans (ye.of_below oaH H (zK aA f))⟩
    case measure=>simp[intOf];omega
   |true=>
    have q:=zA (v hq);rw[hq] at t;clear v s hq m G x;have ah:=zu1 l a;gi_wp2_with (gi_at_call 177;refine(t _).mono ?_;rintro e A ⟨rfl,f⟩;obtain⟨Y,ac⟩:=yZ f;obtain⟨an,ag,ak,aj,ai,V⟩:=y _ c A (zdn I (zK aA f) r) oa;clear y);refine V.mono ?_;rintro e ao (⟨rfl,ab,O⟩|⟨rfl,Z⟩)
    ·gi_wp2;go_roundw;case rel=>exact⟨a+1,oa,oh,by rw[q.o];exact ab,d.trans ((ye.of_below oaH H (zK aA f)).trans O)⟩
     case measure=>simp[intOf];omega
    ·gi_wp2;refine yG (zcO rfl _ _ _) rfl ?_;exact⟨⟨_,rfl⟩,.inr ⟨_,⟨a+1,oa,q.o.symm⟩,Z⟩⟩
  ·have X:¬(a:Int)<(l.length:Int):=(by omega);obtain rfl:a=l.length:=oa;gi_wp2;go_end0;first
    |exact⟨⟨_,rfl⟩,.inl ⟨_,rfl,by simpa[zaa] using r⟩⟩
    |exact⟨⟨_,rfl⟩,.inl (by simpa[zaa] using r)⟩
theorem zu3(n L b h:Nat)(a:List zO->World->Prop)(W:zC)(j:W.cell? b=())(c:a [] W):
 CallsIn Fence.wide n zD 228 #[.func (.yield L) #[] #[],b,h] W fun i g=>(∃f,i= .returned f)/\a [] g:=by
 refine zaL zja rfl trivial ?_ rfl;simp only[Tryz.ntmps228,yw,z7,xB,Nat.reduceAdd,Nat.reduceSub,qK,qL,qM,qN,xu,yD];gi_wp2;gi_loopw [8] (fun e wr=>e=zB 0/\a [] wr) (fun _ _=>0);case atStart=>exact⟨rfl,c⟩
 case round=>obtain⟨rfl,d⟩:=hrel;gi_wp2;go_end0;exact⟨⟨_,rfl⟩,d⟩
theorem zu4(l:List zO)(k:Nat):zaa l k <+:l.filter zO.rightB:=by unfold zaa;exact(zj1 k l).filter _
theorem zu5 (n:Nat) (C:3<=n) (b a g:Nat) (i:zJ) (l:List zO) (w:zC) (D:b<w) (t:a<w) (O:g<=w)
 (v:w.cell? ⟨b,0,none⟩=some i) (I:w.cell? ⟨a,0,none⟩=some (.func (.func 177) #[] #[])) (y:zc 3 zY w i l) (E:∀e h n A,i= .slice (some ⟨e,h,none⟩) n A->e<g):
 SeqStopsK Fence.wide n zD 228 #[b,a] (fun x:zO=>#[.agg #[x.c,x.a,x.b]]) (ye g a) (fun j=>j=l.filter zO.rightB) (fun s=>s <+:l.filter zO.rightB) l.length w:=fun q r L m d G _ H k=>by
 have o:=(d.cell (p:=b) D).trans v;have M:=(d.cell (p:=a) t).trans I;rcases y.below d with⟨rfl,rfl⟩|⟨e,h,J,rfl,u,N,F⟩
 ·exact(zu3 n q b a r m o k).mono fun B K ⟨f,c⟩=>⟨f,.inl ⟨_,rfl,c⟩⟩
 ·refine(zu2 n C q b a g e h J l u (E _ _ _ _ rfl) r L H m oax oax G o M F k).mono ?_;rintro B K ⟨f,⟨j,rfl,c⟩|⟨s,⟨z,R,rfl⟩,c⟩⟩
  ·exact⟨f,.inl ⟨_,rfl,c⟩⟩
  ·exact⟨f,.inr ⟨_,zu4 l z,c⟩⟩
structure zL where
 c:Int
 a:Int
 b:Int
 n:Int
def zL.rightB(t:zL):Bool:=(zO.mk t.c t.a t.b).rightB && xi t.n
def zb(t:zL):List Value:= [t.c,t.a,t.b,t.n]
theorem zu6(t:zL)(w:zC):Calls zD 141 #[.agg #[t.c,t.a,t.b,t.n]] w fun a e=>a= .returned (.bool t.rightB)/\Below w w e:=by
 have b:=fun w=>ziz ⟨t.c,t.a,t.b⟩ w;have g:=ziy t.n;unfold zL.rightB;generalize(zO.mk t.c t.a t.b).rightB=d at b ⊢;cases d;all_goals
  go_enter Tryz.func141,Tryz.ntmps141
  go_wp2_with (first|(go_at_call 177;refine(b _).mono ?_;rintro a k ⟨rfl,c⟩;obtain⟨i,h⟩:=yZ c)|(go_at_call 202;refine(g _).mono ?_;rintro a j ⟨rfl,rfl⟩))
  go_ret
  exact⟨rfl,zK aA c⟩
theorem zoM(n:Nat)(b a:zJ)(w:zC)(f:b.oneCell'=true)(e:a.oneCell'=true):
 CallsIn Fence.wide n zD 140 #[b,a] w fun d c=>d= .returned (.func (.func 201) #[] #[w,(w.heap.size+1:)])/\c=(w.alloc (.cells #[b] 37)).alloc (.cells #[a] 159):=by
 refine zaL Tryz.func140 rfl trivial ?_ rfl;simp only[Tryz.ntmps140,yw,z7,xB,Nat.reduceAdd,Nat.reduceSub,qK,qL,qM,qN,xu,yD];gi_wp2;go_ret;exact⟨rfl,rfl⟩
def zab(l:List zL)(k:Nat):List zL:=(l.take k).filter zL.rightB
theorem zu7{l:List zL}{k:Nat}(a:k<l.length)(b:(l[k]).rightB=true):zab l (k+1)=zab l k++[l[k]]:=by unfold zab;rw[j1 a,zap];simp[b]
theorem zu8{l:List zL}{k:Nat}(a:k<l.length)(b:(l[k]).rightB=false):zab l (k+1)=zab l k:=by unfold zab;rw[j1 a,zap];simp[b]
theorem zu9(l:List zL)(k:Nat):(zab l k).length<=k:=zk (jV _ _) (List.length_take_le _ _)
theorem zvA (n:Nat) (ar:3<=n) (L E k v b i cap:Nat) (l:List zL) (ah:l.length<=9223372036854775807) (q:b<v) (o K:List zL->World->Prop)
 (y:∀g c W,o g W->g.length<l.length->YieldAt Fence.wide (n - 1) zD L #[.agg #[c.c,c.a,c.b,c.n]] W fun e m=>
  (e= .returned (.bool true)/\o (g++[c]) m/\ye v k W m)\/(e= .returned (.bool false)/\K (g++[c]) m))
 (W:zC) (au:v<=W) (ae:k<W) (I:AbidesFrom W o) (G:W.cell? E=some (.slice (some (b,i)) l.length cap)) (x:W.cell? k=some (.func (.func 141) #[] #[]))
 (h:∀D c,l[D]?=some c->∀j M,(zb c)[j]?=some M->W.cell? (b,i+D*4+j)=some M) (O:o [] W):
 CallsIn Fence.wide n zD 201 #[.func (.yield L) #[] #[],E,k] W fun e m=>(∃V,e= .returned V)/\
  ((∃B,B=l.filter zL.rightB/\o B m)\/(∃g,(∃a,a<=l.length/\g=zab l a)/\K g m)):=by
 refine zaL zhg rfl trivial ?_ rfl
 simp only[Tryz.ntmps201,yw,z7,xB,Nat.reduceAdd,Nat.reduceSub,qK,qL,qM,qN,xu,yD]
 gi_wp2
 gi_loopw [8] (fun j wr=>∃a:Nat,a<=l.length/\j=zB a/\o (zab l a) wr/\ye v k W wr)
  (fun j _=>l.length - (intOf j).toNat)
 case atStart=>exact⟨0,xO _,rfl,O,ye.refl _ _ _⟩
 case round=>
  obtain⟨a,av,rfl,s,d⟩:=hrel;by_cases C:a<l.length
  ·have Y:(a:Int)<(l.length:Int):=(by omega);have F:=(d.1.cell (p:=(b,i+a*4+0)) q).trans (h a l[a] oh 0 _ rfl);have T:=(d.1.cell (p:=(b,i+a*4+1)) q).trans (h a l[a] oh 1 _ rfl);have ab:=(d.1.cell (p:=(b,i+a*4+2)) q).trans (h a l[a] oh 2 _ rfl);have af:=d.cell.trans x;have aq:Fence.wide.fn 141:=trivial;have am:1<=n:=oa;have an:∀J z,(callFunc 141 J).run zD z= .ok (.enter 141 J) z:=enters_of Tryz.func141 oe rfl;have w:=zu7 C;have t:=zu8 C;have H:k<wr:=oaH;have N:=(d.1.cell (p:=(b,i+a*4+3)) q).trans (h a l[a] oh 3 _ rfl);generalize l[a]=c at F T ab N w t;simp only[jD] at F;have u:=fun W=>(yi (n:=n - 1)).2 (zu6 c W);cases hq:c.rightB with
   |false=>
    have r:=zA (t hq);rw[hq] at u;clear w t hq h y G x;gi_wp2_with fail;refine(u _).mono ?_;rintro e A ⟨rfl,f⟩;obtain⟨Z,ad⟩:=yZ f;dsimp only;go_at_K;repeat(first|refine zoL (by rfl) ?_|gi_step)
    gi_wp2;go_roundw;case rel=>exact⟨a+1,oa,oh,by rw[r.o];exact zdn I (zK aA f) s,d.trans (ye.of_below oaH H (zK aA f))⟩
    case measure=>simp[intOf];omega
   |true=>
    have r:=zA (w hq);rw[hq] at u;clear w t hq h G x;have ai:=zu9 l a;gi_wp2_with (gi_at_call 141;refine(u _).mono ?_;rintro e A ⟨rfl,f⟩;obtain⟨Z,ad⟩:=yZ f;obtain⟨ao,ag,al,ak,aj,X⟩:=y _ c A (zdn I (zK aA f) s) oa;clear y);refine X.mono ?_;rintro e ap (⟨rfl,ac,R⟩|⟨rfl,aa⟩)
    ·gi_wp2;go_roundw;case rel=>exact⟨a+1,oa,oh,by rw[r.o];exact ac,d.trans ((ye.of_below oaH H (zK aA f)).trans R)⟩
     case measure=>simp[intOf];omega
    ·gi_wp2;refine yG (zcO rfl _ _ _) rfl ?_;exact⟨⟨_,rfl⟩,.inr ⟨_,⟨a+1,oa,r.o.symm⟩,aa⟩⟩
  ·have Y:¬(a:Int)<(l.length:Int):=(by omega);obtain rfl:a=l.length:=oa;gi_wp2;go_end0;first
    |exact⟨⟨_,rfl⟩,.inl ⟨_,rfl,by simpa[zab] using s⟩⟩
    |exact⟨⟨_,rfl⟩,.inl (by simpa[zab] using s)⟩
theorem zvB(n L b h:Nat)(a:List zL->World->Prop)(W:zC)(j:W.cell? b=())(c:a [] W):
 CallsIn Fence.wide n zD 201 #[.func (.yield L) #[] #[],b,h] W fun i g=>(∃f,i= .returned f)/\a [] g:=by
 refine zaL zhg rfl trivial ?_ rfl;simp only[Tryz.ntmps201,yw,z7,xB,Nat.reduceAdd,Nat.reduceSub,qK,qL,qM,qN,xu,yD];gi_wp2;gi_loopw [8] (fun e wr=>e=zB 0/\a [] wr) (fun _ _=>0);case atStart=>exact⟨rfl,c⟩
 case round=>obtain⟨rfl,d⟩:=hrel;gi_wp2;go_end0;exact⟨⟨_,rfl⟩,d⟩
theorem zvC(l:List zL)(k:Nat):zab l k <+:l.filter zL.rightB:=by unfold zab;exact(zj1 k l).filter _
theorem zoN (n:Nat) (C:3<=n) (b a g:Nat) (i:zJ) (l:List zL) (w:zC) (D:b<w) (t:a<w) (O:g<=w)
 (v:w.cell? ⟨b,0,none⟩=some i) (I:w.cell? ⟨a,0,none⟩=some (.func (.func 141) #[] #[])) (y:zc 4 zb w i l) (E:∀e h n A,i= .slice (some ⟨e,h,none⟩) n A->e<g):
 SeqStopsK Fence.wide n zD 201 #[b,a] (fun x:zL=>#[.agg #[x.c,x.a,x.b,x.n]]) (ye g a) (fun j=>j=l.filter zL.rightB) (fun s=>s <+:l.filter zL.rightB) l.length w:=fun q r L m d G _ H k=>by
 have o:=(d.cell (p:=b) D).trans v;have M:=(d.cell (p:=a) t).trans I;rcases y.below d with⟨rfl,rfl⟩|⟨e,h,J,rfl,u,N,F⟩
 ·exact(zvB n q b a r m o k).mono fun B K ⟨f,c⟩=>⟨f,.inl ⟨_,rfl,c⟩⟩
 ·refine(zvA n C q b a g e h J l u (E _ _ _ _ rfl) r L H m oax oax G o M F k).mono ?_;rintro B K ⟨f,⟨j,rfl,c⟩|⟨s,⟨z,R,rfl⟩,c⟩⟩
  ·exact⟨f,.inl ⟨_,rfl,c⟩⟩
  ·exact⟨f,.inr ⟨_,zvC l z,c⟩⟩
def zL.hasB(t:zL)(i:zF):Bool:=t.rightB && decide (t.c=i.c) && decide (t.a<=i.k) && decide (i.k<t.b)
def zd:List zL->zF->Int
 | [],_=>0
 |t::l,i=>max (if t.hasB i then t.n else 0) (zd l i)
theorem yK{t:zL}(h:t.rightB=true):1<=t.c/\t.c<=9007199254740991/\1<=t.a/\t.a<t.b/\t.b<=9007199254740992/\1<=t.n/\t.n<=9007199254740991:=by simp[zL.rightB,zO.rightB,xi] at h;omega
theorem yh{t:zL}(h:t.rightB=true)(i:zF):t.hasB i=true↔t.c=i.c/\t.a<=i.k/\i.k<t.b:=by simp[zL.hasB,h,zhc]
theorem jH:∀(l:List zL) (i:zF),0<=zd l i
 | [],_=>by simp[zd]
 |t::l,i=>by have:=jH l i;unfold zd;omega
theorem zca:∀(l m:List zL) (i:zF),zd (l++m) i=max (zd l i) (zd m i)
 | [],m,i=>by have:=jH m i;simp[zd];omega
 |t::l,m,i=>by have:=zca l m i;simp only[yD,zd,this];omega
theorem zev(t:zL)(i:zF)(b:t.rightB=true):zd [t] i=if t.c=i.c/\t.a<=i.k/\i.k<t.b then t.n else 0:=by
 have c:=yh b i;have e:=yK b;simp only[zd];by_cases a:t.hasB i=true
 ·rw[zP a,zP (c.1 a)];omega
 ·rw[zN a,zN (fun d=>a (c.2 d))];omega
theorem vW{l:List zL}{i:zF}(b:∀a∈l,a.hasB i=false):zd l i=0:=by
 induction l with
 |nil=>rfl
 |cons a l c=>
  unfold zd;rw[b a oh,c fun e d=>b e jj];simp
theorem zwT{l m:List zL}(c:l.Perm m)(i:zF):zd l i=zd m i:=by
 induction c with
 |nil=>rfl
 |cons e _ b=>simp only[zd,b]
 |swap e f l=>simp only[zd];omega
 |trans _ _ d a=>rw[d,a]
theorem zlJ(l:List zL)(f:zL->Bool)(i:zF)(c:∀a∈l,a.hasB i=true->f a=true):zd (l.filter f) i=zd l i:=by
 induction l with
 |nil=>rfl
 |cons a l b=>
  have b:=b fun e d=>c e jj;rw[zeS];cases hf:f a
  ·have:a.hasB i=false:=by
    cases hb:a.hasB i
    ·rfl
    ·have:=c a oh hb;rw[hf] at this;cases this
   have g:=jH l i;simp[zd,this,b];omega
  ·simp[zd,b]
def yM(l:List zL):Prop:=(∀t∈l,t.rightB=true)/\l.Pairwise fun x y=>x.c<y.c\/(x.c=y.c/\(x.b<y.a\/(x.b=y.a/\x.n≠y.n)))
def yt(b:List zL)(t:zL):List zL:=match b.getLast? with
 |none=> [t]
 |some a=>if a.c=t.c/\a.b=t.a/\a.n=t.n then b.dropLast++[⟨a.c,a.a,t.b,a.n⟩] else b++[t]
theorem ziE{α:Type}{l:List α}{x:α}(h:l.getLast?=some x):l=l.dropLast++[x]:=by
 cases l with
 |nil=>cases h
 |cons a l=>
  have:=List.dropLast_concat_getLast (l:=a::l) oh;rw[List.getLast?_eq_some_getLast oh] at h;cases h;exact this.symm
theorem zpC{h:List zL}{t:zL}(e:yM h)(j:t.rightB=true)(l:∀b∈h,b.c<t.c\/(b.c=t.c/\b.b<=t.a)):yM (yt h t):=by
 have w:=yK j;unfold yt;cases hl:h.getLast? with
 |none=>exact⟨by simpa using j,oh⟩
 |some b=>
  have f:=ziE hl;dsimp only;have p:b∈h:=by rw[f];simp
  have x:=yK (e.1 b p);split
  ·rename_i k;obtain⟨v,s,u⟩:=k;have d:=e.2;rw[f,zbJ] at d;refine⟨?_,?_⟩
   ·intro c a;rcases xX.1 a with a|a
    ·exact e.1 c (by rw[f];simp[a])
    ·simp only[j0] at a;subst a;simp[zL.rightB,zO.rightB,xi];omega
   ·rw[zbJ];refine⟨d.1,oh,?_⟩;intro c a m g;simp only[j0] at g;subst g;have:=d.2.2 c a b oh;dsimp only;omega
  ·rename_i k;refine⟨?_,?_⟩
   ·intro c a;rcases xX.1 a with a|a
    ·exact e.1 c a
    ·simp only[j0] at a;subst a;exact j
   ·rw[zbJ];refine⟨e.2,oh,?_⟩;intro c a m g;simp only[j0] at g;subst g;rcases l c a with i|⟨i,r⟩
    ·exact .inl i
    ·refine .inr ⟨i,?_⟩;by_cases n:c.b=m.a
     ·right;refine⟨n,fun q=> ?_⟩;by_cases o:c=b
      ·subst o;exact k ⟨i,n,q⟩
      ·have d:=e.2;rw[f,zbJ] at d;rw[f] at a;rcases xX.1 a with a|a
       ·have:=d.2.2 c a b oh;have:=l b p;omega
       ·simp only[j0] at a;exact o a
     ·omega
theorem zpD{d:List zL}{t:zL}(c e:Int)(i:t.c=c)(k:t.b=e)(f:∀b∈d,b.c<c\/(b.c=c/\b.b<=e)):∀b∈yt d t,b.c<c\/(b.c=c/\b.b<=e):=by
 intro b a;unfold yt at a;cases hl:d.getLast? with
 |none=>rw[hl] at a;simp at a;subst a;omega
 |some j=>
  rw[hl] at a;dsimp only at a;have g:=ziE hl;split at a
  ·rename_i h;rcases xX.1 a with a|a
   ·exact f b (by rw[g];simp[a])
   ·simp only[List.mem_singleton] at a;subst a;dsimp only;omega
  ·rcases xX.1 a with a|a
   ·exact f b a
   ·simp only[j0] at a;subst a;omega
theorem zpE{b:List zL}{t:zL}(e:yM b)(f:t.rightB=true)(i:zF):zd (yt b t) i=max (zd b i) (zd [t] i):=by
 have k:=yK f;unfold yt;cases hl:b.getLast? with
 |none=>
  have:b= []:=zkB.1 hl;subst this;have:=jH [t] i;dsimp only[zd] at *;omega
 |some c=>
  have g:=ziE hl;dsimp only;have d:c∈b:=by rw[g];simp
  have n:=yK (e.1 c d);split
  ·rename_i h;obtain⟨o,l,m⟩:=h;have j:(⟨c.c,c.a,t.b,c.n⟩:zL).rightB=true:=(by simp[zL.rightB,zO.rightB,xi];omega);rw[zca,zev _ i j,zev _ i f];conv=>rhs;rw[g]
   rw[zca,zev _ i (e.1 c d)];dsimp only;split<;> split<;> (try split)<;> omega
  ·rw[zca]
structure Sw(pre:List zL)(c at_:Int)(out opn:List zL):Prop where
 norm:yM out
 bound:∀x∈out,x.c<c\/(x.c=c/\x.b<=at_)
 open_:∀t∈opn,t.rightB=true/\t.c=c/\t.a<=at_/\at_<t.b
 done:∀i:zF,(i.c<c\/(i.c=c/\i.k<at_))->zd out i=zd pre i
 here:∀i:zF,i.c=c->at_<=i.k->zd pre i=zd opn i
 rest:∀t∈pre,t.rightB=true/\t.c<=c
def qD(c:Int)(l:List zL):Int:=l.foldl (fun a b=>min a b.b) c
def zae(l:List zL):Int:=l.foldl (fun n t=>max n t.n) 0
theorem zlK:∀(l:List zL) (a:Int),qD a l<=a/\(∀b∈l,qD a l<=b.b)/\∀c,c<=a->(∀b∈l,c<=b.b)->c<=qD a l
 | [],a=>⟨qj _,oh,fun c h _=>h⟩
 |b::l,a=>by
  have⟨j,g,i⟩:=zlK l (min a b.b);refine⟨by show qD (min a b.b) l<=a;omega,?_,?_⟩
  ·intro e d;rcases xK.1 d with rfl|d
   ·show qD (min a e.b) l<=e.b;omega
   ·exact g e d
  ·intro c k f;refine i c ?_ fun e d=>f e jj;have:=f b oh;omega
theorem zpF:∀(l:List zL) (m:Int) (i:zF),0<=m->(∀a∈l,a.hasB i=true/\a.rightB=true)->l.foldl (fun e a=>max e a.n) m=max m (zd l i)
 | [],m,i,g,_=>by simp[zd];omega
 |a::l,m,i,g,b=>by have c:=b a oh;have h:=yK c.2;rw[yu,zpF l (max m a.n) i oa fun f d=>b f jj];simp only[zd,c.1,vJ];omega
theorem Sw.step{v:List zL}{c at_:Int}{t e:List zL}(d:Sw v c at_ t e)(E:e≠[]){g:Int}(M:at_<g)(W:g<=9007199254740992):
 at_<qD g e/\qD g e<=g/\(⟨c,at_,qD g e,zae e⟩:zL).rightB=true/\Sw v c (qD g e) (yt t ⟨c,at_,qD g e,zae e⟩) (e.filter fun a=>decide (¬a.b<=qD g e)):=by
 obtain⟨C,x,w⟩:=zlK e g;have y:=w (at_+1) oa fun a f=>by have:=d.open_ a f;omega
 generalize qD g e=q at C x w y ⊢;obtain⟨i,j,rfl⟩:∃a u,e=a::u:=by
  cases e with
  |nil=>exact absurd rfl E
  |cons a u=>exact⟨a,u,rfl⟩
 have o:=d.open_ i oh;have T:=yK o.1;have r:∀b:zF,b.c=c->at_<=b.k->b.k<q->zae (i::j)=zd (i::j) b:=by
  intro b X N R;have:=zpF (i::j) 0 b (qj _) fun a f=>by have h:=d.open_ a f;have n:=x a f;exact⟨(yh h.1 b).2 oa,h.1⟩
  have O:=jH (i::j) b;unfold zae;omega
 have L:1<=zae (i::j):=by have:=r ⟨c,at_⟩ rfl (qj _) y;rw[this];simp only[zd];rw[zP ((yh o.1 _).2 ⟨o.2.1,o.2.2.1,o.2.2.2⟩)];omega
 have F:zae (i::j)<=9007199254740991:=by
  have:∀(m:List zL) (l:Int),l<=9007199254740991->(∀a∈m,a.rightB=true)->m.foldl (fun s a=>max s a.n) l<=9007199254740991:=by
   intro m;induction m with
   |nil=>intro l D _;exact D
   |cons a m I=>
    intro l D z;have:=yK (z a oh);exact I (max l a.n) oa fun K G=>z K (by simp[G])
  exact this _ _ oa fun a f=>(d.open_ a f).1
 generalize zae (i::j)=s at r L F ⊢;have p:(⟨c,at_,q,s⟩:zL).rightB=true:=by simp[zL.rightB,zO.rightB,xi];omega
 refine⟨oa,C,p,?_⟩;exact {
  norm:=zpC d.norm p d.bound
  bound:=zpD c q rfl rfl fun H J=>by have:=d.bound H J;omega
  open_:=fun a f=>by rw[zcu] at f;have h:=d.open_ a f.1;have n:=f.2;simp at n;exact⟨h.1,h.2.1,oa,n⟩
  done:=fun b A=>by
   rw[zpE d.norm p,zev _ b p];dsimp only;by_cases k:b.c<c\/(b.c=c/\b.k<at_)
   ·rw[d.done b k,zN oa];have:=jH v b;omega
   ·have B:b.c=c:=(by omega);rw[zP oa,d.here b B oa,<-r b B oa oa];have:zd t b=0:=vW fun a f=>by
     have h:=d.bound a f;have n:=yh (d.norm.1 a f) b;cases k:a.hasB b
     ·rfl
     ·have:=n.1 k;omega
    omega
  here:=fun b A V=>by rw[d.here b A oa,zlJ];intro a f k;have h:=d.open_ a f;have:=(yh h.1 b).1 k;simp;omega
  rest:=d.rest}
theorem Sw.next{g:List zL}{c at_:Int}{m i:List zL}(e:Sw g c at_ m i){t:zL}(k:t.rightB=true)(n:(t.c=c/\at_<=t.a/\(i= []\/at_=t.a))\/(c<t.c/\i= [])):
 Sw (g++[t]) t.c t.a m (i++[t]):=by
 have v:=yK k;have s:∀a:zF,(c<a.c\/(a.c=c/\at_<=a.k))->zd m a=0:=fun a o=>vW fun d b=>by
  have l:=e.bound d b;have p:=yh (e.norm.1 d b) a;cases h:d.hasB a
  ·rfl
  ·have:=p.1 h;omega
 have q:∀a:zF,c<a.c->zd g a=0:=fun a o=>vW fun d b=>by
  have l:=e.rest d b;have p:=yh l.1 a;cases h:d.hasB a
  ·rfl
  ·have:=p.1 h;omega
 exact {
  norm:=e.norm
  bound:=fun d b=>by have:=e.bound d b;omega
  open_:=fun d b=>by
   rcases xX.1 b with b|b
   ·have l:=e.open_ d b;rcases n with⟨j,h2,f|f⟩|⟨j,h2⟩
    ·rw[f] at b;cases b
    ·exact⟨l.1,oa,oa,oa⟩
    ·rw[h2] at b;cases b
   ·simp only[j0] at b;subst b;exact⟨k,rfl,qj _,oa⟩
  done:=fun a o=>by
   rw[zca,zev _ a k,zN oa];have u:=jH g a;have:zd m a=zd g a:=by
    by_cases h:a.c<c\/(a.c=c/\a.k<at_)
    ·exact e.done a h
    ·rw[s a oa];by_cases r:c<a.c
     ·exact(q a r).symm
     ·rw[e.here a oa oa];rcases n with⟨j,h2,f|f⟩|⟨j,h2⟩
      ·rw[f];rfl
      ·omega
      ·rw[h2];rfl
   omega
  here:=fun a o w=>by
   rw[zca,zca];have:zd g a=zd i a:=by
    rcases n with⟨j,h2,f|f⟩|⟨j,h2⟩
    ·exact e.here a oa oa
    ·exact e.here a oa oa
    ·rw[q a oa,h2];rfl
   omega
  rest:=fun d b=>by
   rcases xX.1 b with b|b
   ·have:=e.rest d b;exact⟨this.1,oa⟩
   ·simp only[j0] at b;subst b;exact⟨k,qj _⟩}
theorem Sw.last{i:List zL}{c at_:Int}{f:List zL}(b:Sw i c at_ f []):yM f/\∀a,zd f a=zd i a:=by
 refine⟨b.norm,fun a=> ?_⟩;by_cases e:a.c<c\/(a.c=c/\a.k<at_)
 ·exact b.done a e
 ·have:zd f a=0:=vW fun d g=>by
   have j:=b.bound d g;have h:=yh (b.norm.1 d g) a;cases e:d.hasB a
   ·rfl
   ·have:=h.1 e;omega
  rw[this];by_cases k:c<a.c
  ·refine(vW fun d g=> ?_).symm;have j:=b.rest d g;have h:=yh j.1 a;cases e:d.hasB a
   ·rfl
   ·have:=h.1 e;omega
  ·rw[b.here a oa oa];rfl
end Go.Proofs.YtimlgcodecgecaaGreatDoor
