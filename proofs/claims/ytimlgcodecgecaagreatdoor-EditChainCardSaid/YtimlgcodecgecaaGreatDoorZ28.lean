/- Walks: Vector of a document that knows nobody, or one client. -/
import Derived.Test.YtimlgcodecgecaaGreatDoorZ27
import Derived.ProofKit
import Derived.OpenShut
import Derived.ShutString
import Derived.ChangeOld
import Derived.Below
import Derived.Deep.Slices
import Derived.Deep.Fields
import Derived.ChangeSame
set_option maxRecDepth 100000
set_option maxHeartbeats 20000000
set_option linter.all false
namespace Go.Proofs.YtimlgcodecgecaaGreatDoor
open Go.RowKit Go.Maps Go.Shelf Go.Lib
theorem zle{w w':zC}(a:w.grownBy w' none):Below w w w':=⟨a.os,a.tape,a.output,a.size,fun d b=>a.block d b (by intro c;cases c)⟩
def zlf(l:List zF)(w:zC)(v:zJ)(w':zC):Prop:=zG w 179 2 zn w' v l/\Below w w w'
theorem zjC(n:Nat)(c:Int)(l:List zF)(w:zC)(p:Calls zD 58 #[(n+11:)] w (qH (zlf l w)))(g:zax l)(o:l.length<=19)(q:IntKind.u64.wrap (qS l c+1)=qS l c+1):
 Calls zD 15 #[(n+11:),c] w fun a e=>a=(qS l c+1:)/\Below w w e:=by
 have f:=fun d b (m:zc 2 zn b d l)=>zxI d l c b m g o;go_enter Tryz.func15,Tryz.ntmps15;go_wp2_with (first|(go_at_call 58;refine p.mono ?_;rintro a b ⟨s,rfl,i,h⟩)|(go_at_call 57;refine(f _ _ (zG.slice (k:=2) (enc:=zn) (fun _=>rfl) i)).mono ?_;rintro a r ⟨rfl,j⟩));go_ret;exact⟨rfl,zK h j⟩
section
section
variable {F:Fence}{n:Nat}{P:Program}{w:zC}
theorem zoG {α:Type}{g:Operand}{u:Array Tmp}{assign body:Code}{Q:Exit->Act->World->Prop}{a:Act}
 (ag:F.round=none) (af:1<=n){gf:Nat}{lb:Array Value}(E:a.eval g= .func (.func gf) #[] lb) (Y:F.fn gf) (V:∀o w,(callFunc gf o).run P w= .ok (.enter gf o) w)
 {encs:α->Array Value}(L:∀e,(encs e).size=u.size) (f:List α->World->Prop) (G:Nat->Prop) (C:World->Prop){S:List α->Prop}{N:Nat}
 (B:∀d b (r s:Loop),f d b->b.heap[w.heap.size+1]?=some (.loop r)->f d (b.putObj (w.heap.size+1) (.loop s)))
 (R:∀r:Loop,f [] ((w.alloc (.deferred (some []))).alloc (.loop r)))
 (H:∀d e b r,f d b->yJ w r b->d.length<N->C b->
  assign.wpIn (F.inRound (w.heap.size+1)) (n - 1 - 1) P (Exit.then (fun z q=>yJ w r q/\Mods (RG G w) b q/\∀s:Loop,body.wpIn (F.inRound (w.heap.size+1)) (n - 1 - 1) P
   (fun h _ l=>h= .normal/\yJ w s l/\Mods (RG G w) (q.putObj (w.heap.size+1) (.loop s)) l/\f (d++[e]) l) z (q.putObj (w.heap.size+1) (.loop s))) (fun _ _ _=>False))
   {tmps:=(u.zip (encs e)).foldl (fun y (ab,t)=>y.setIfInBounds ab t) a.tmps,defers:= []} b)
 (X:∀c:Loop,(∀d e b,f d b->yJ w c b->d.length<N->C b->YieldAt F (n - 1 - 1) P (w.heap.size+1) (encs e) b fun h p=>h= .returned (.bool true)/\f (d++[e]) p/\yJ w c p/\Mods (RG G w) b p)->
  ∀b,f [] b->yJ w c b->b.heap.size=w+2->CallsIn F (n - 1) P gf (#[.func (.yield (w.heap.size+1)) #[] #[]]++lb) b fun h p=>(∃t,h= .returned t)/\∃j,S j/\f j p/\yJ w c p)
 (I:∀j b,S j->f j b->b.heap[w.heap.size]?=some (.deferred (some []))->Q .normal {a with defers:={target:= .collected w.heap.size,args:=#[]}::a.defers} b):
 (Code.rangeFunc g u assign body).wpIn F n P Q a w:=by
 refine wpIn_rangeFunc fun fn W=> ?_;rw[ag];obtain⟨c,i⟩:∃c:Loop,c={state:= .ready,pending:=none,fn,tmps:=a.tmps,params:=u,assign,body,defers:=w.heap.size}:=⟨_,rfl⟩;have Z:yJ w c ((w.alloc (.deferred (some []))).alloc (.loop c)):=by
  refine⟨?_,?_⟩
  ·have:=World.alloc_heap_new (w.alloc (.deferred (some []))) (.loop c);rwa[qX] at this
  ·exact(yV _ _ _ oh).trans (World.alloc_heap_new w _)
 refine⟨w.heap.size+1,[{target:= .collected w.heap.size,args:=#[]}],(w.alloc (.deferred (some []))).alloc (.loop c),{target:= .fn (.func gf) lb,args:=#[.func (.yield (w.heap.size+1)) #[] #[]]},
  (w.alloc (.deferred (some []))).alloc (.loop c),gf,#[.func (.yield (w.heap.size+1)) #[] #[]]++lb,(w.alloc (.deferred (some []))).alloc (.loop c),?_,?_,?_,?_,fun _=>af,?_⟩
 ·rw[i];exact run_enterLoop_outer _ _ _ _ _
 ·simp only[resolve,E];simp[go_sem]
 ·intro ai D;simp[Target.leads] at D;subst D;exact Y
 ·simp[invoke,go_sem,V]
 ·refine(X c ?_ _ (R c) Z oh).mono ?_
  ·intro d e b x k K J;have A:=run_yield (P:=P) (args:=encs e) k.1 (by rw[i];exact L e);rw[i] at A;refine⟨fn,_,assign,body,A,roundIn_of_wpIn W (zhf (H d e b c x k K J) ?_)⟩;intro h z q m;cases h with
   |normal=>
    obtain⟨M,ad,ae⟩:=m;refine⟨_,run_beginRound M.1 (by rw[i]),zhf (ae _) ?_⟩;rintro h ak l ⟨rfl,v,ac,O⟩;have aa:=run_endRound (P:=P) none v.1;have ah:({c with state:= .busy,pending:=none}:Loop)={c with state:= .busy}:=(by rw[i]);refine⟨_,_,aa,rfl,B _ _ _ _ O v.1,?_,zcT ((zcT ad (.inr rfl) _).trans ac) (.inr rfl) _⟩;have:=v.put c;rw[i] at this ⊢;exact this
   |ret=>exact m.elim
   |exit id=>exact m.elim
   |goto y=>exact m.elim
   |panic aj=>exact m.elim
   |outgrown=>exact m.elim
  ·rintro h l ⟨⟨t,rfl⟩,j,T,x,k⟩;refine⟨none,l.putObj (w.heap.size+1) (.loop {c with state:= .exhausted}),?_,I j _ T (B _ _ _ _ x k.1) (k.put _).2⟩;have:=run_endLoop (P:=P) k.1 (by rw[i];simp);rw[i] at this ⊢;exact this
end
end
theorem zqi{P:Program}{T K E:TypeId}(d:P.underlying T=some (.map K E)){w:zC}{m:Nat}{c:Array MapEntry}{a:Nat}(b:w.heap[m]?=some (.map c a)):
 (Instr.range T (.map (some m))).run P w= .ok w (w.alloc (.mapIter (some m) a #[] a)):=by
 simp only[Instr.range,yU,jM d,Result.andThen,zcJ b,qI];rfl
theorem zqj{P:Program}{T:TypeId}{w:zC}{r m f c g:Nat}(d:w.heap[r]?=some (.mapIter (some m) f #[] c))(e:w.heap[m]?=some (.map #[] g)):
 (Instr.next r false T).run P w= .ok (.tuple #[.bool false]) w:=by
 simp[Instr.next,Result.andThen,yU,getObj,Sem.run,d,e,Question.forced]
def zgX(W:zC)(b:Nat):Prop:=∃a c,W.heap[b]?=some (.cells #[.map (some a),yH,yH,.map (some c),.bool true] 209 (0,0))
theorem WV.clean{v:zr}(d:WV v):WV v.clean:=by
 have c:qv 0=false:=rfl;rcases d with rfl|rfl|⟨b,rfl⟩|⟨a,rfl⟩|rfl
 ·exact .inl rfl
 ·exact .inr (.inl rfl)
 ·exact .inr (.inr (.inl ⟨b,by simp[zr.clean,c]⟩))
 ·exact .inr (.inr (.inr (.inl ⟨if qv a then za5 else a,by unfold zr.clean;cases qv a<;> rfl⟩)))
 ·exact .inr (.inr (.inr (.inr rfl)))
theorem zr.clean_clean(v:zr):v.clean.clean=v.clean:=by unfold zr.clean;cases h:qv v.f<;> simp[h]
theorem zpe(f:Nat)(w:zC):
 Calls zD 198 #[.float .f64 f] w fun b c=>b=((if qv f then za5 else f:Nat):Int)/\Below w w c:=by
 have e:=fun w=>zpa f w;have a:=zgo f;cases h:qv f
 ·rw[h] at a;simp only[jW,jX];clear h;go_enter Tryz.func198,Tryz.ntmps198;go_wp2_with (go_at_call 132;refine(a _).mono ?_;rintro b d ⟨rfl,rfl⟩);go_ret;exact⟨rfl,zf _ _⟩
 ·rw[h] at a;simp only[vJ];clear h;go_enter Tryz.func198,Tryz.ntmps198;go_wp2_with (go_at_call 132;refine(a _).mono ?_;rintro b d ⟨rfl,rfl⟩);go_ret;exact⟨rfl,zf _ _⟩
theorem zpf(v:zr)(O:WV v)(w:zC)(D:zv w):Calls zD 133 #[.agg #[zB v.kind,zB v.n,.float .f64 v.f,.string v.s]] w fun k m=>k=(zB 0)/\Below w w m:=by
 have l:∀w:zC,Calls zD 198 #[.float .f64 0] w fun k m=>k=zH/\Below w w m:=zpe 0;rcases O with rfl|rfl|⟨n,rfl⟩|⟨f,rfl⟩|rfl
 ·change Calls zD 133 #[.agg #[zB 0,zB 0,.float .f64 0,.string ⟨#[]⟩]] w _;go_enter zfq,zfr;go_wp2;obtain⟨d,c⟩:=aY (((w.alloc (.cells #[zB 0,zB 0,.float .f64 0,.string ⟨#[]⟩] 31)).alloc (.cells #[zB 0,zB 0,.float .f64 0,.string ⟨#[]⟩] 31)));have i:Below w w d:=by rw[<-c];exact aB
  have u:w.heap.size+1<d.heap.size:=by rw[<-c];simp
  have t:∀b:zM d,b.val.cell? (w,1)=(zB 0):=zM.cell oq ox;have z:∀b:zM d,b.val.cell? (w,2)=some (.float .f64 0):=zM.cell oq ox;have q:∀b:zM d,b.val.cell? (w,3)=some (.string ⟨#[]⟩):=zM.cell oq ox;have r:∀b:zM d,b.val.cell? (w.heap.size+1,1)=(zB 0):=zM.cell oA oy;have C:∀b:zM d,b.val.cell? (w.heap.size+1,2)=some (.float .f64 0):=zM.cell oA oy;have s:∀b:zM d,b.val.cell? (w.heap.size+1,3)=some (.string ⟨#[]⟩):=zM.cell oA oy;rw[c];clear c;refine aG ?_;repeat(first|go_big_quiet_skip|(go_big_quiet_want;first|(fail;go_frame;go_big_quiet_on)|(go_big_quiet_op;first|go_big_quiet_on|go_big_quiet_call ((go_at_call_of 198 (Value.float .f64 0);exact xl (l _))))))
  refine aE ?_;intro W' hC' hBW';go_wp2;go_ret;exact⟨rfl,zK i hBW'⟩
 ·change Calls zD 133 #[.agg #[zB 1,zB 1,.float .f64 0,.string ⟨#[]⟩]] w _;go_enter zfq,zfr;go_wp2;obtain⟨d,c⟩:=aY ((w.alloc (.cells #[zB 1,zB 1,.float .f64 0,.string ⟨#[]⟩] 31)).alloc (.cells #[zB 0,zB 1,.float .f64 0,.string ⟨#[]⟩] 31));have i:Below w w d:=by rw[<-c];exact aB
  have u:w.heap.size+1<d.heap.size:=by rw[<-c];simp
  have t:∀b:zM d,b.val.cell? (w,1)=(zB 1):=zM.cell oq ox;have z:∀b:zM d,b.val.cell? (w,2)=some (.float .f64 0):=zM.cell oq ox;have q:∀b:zM d,b.val.cell? (w,3)=some (.string ⟨#[]⟩):=zM.cell oq ox;have r:∀b:zM d,b.val.cell? (w.heap.size+1,1)=(zB 1):=zM.cell oA oy;have C:∀b:zM d,b.val.cell? (w.heap.size+1,2)=some (.float .f64 0):=zM.cell oA oy;have s:∀b:zM d,b.val.cell? (w.heap.size+1,3)=some (.string ⟨#[]⟩):=zM.cell oA oy;rw[c];clear c;refine aG ?_;repeat(first|go_big_quiet_skip|(go_big_quiet_want;first|(fail;go_frame;go_big_quiet_on)|(go_big_quiet_op;first|go_big_quiet_on|go_big_quiet_call ((go_at_call_of 198 (Value.float .f64 0);exact xl (l _))))))
  refine aE ?_;intro W' hC' hBW';go_wp2;go_ret;exact⟨rfl,zK i hBW'⟩
 ·change Calls zD 133 #[.agg #[zB 2,zB n,.float .f64 0,.string ⟨#[]⟩]] w _;go_enter zfq,zfr;go_wp2;obtain⟨d,c⟩:=aY ((w.alloc (.cells #[zB 2,zB n,.float .f64 0,.string ⟨#[]⟩] 31)).alloc (.cells #[zB 0,zB n,.float .f64 0,.string ⟨#[]⟩] 31));have i:Below w w d:=by rw[<-c];exact aB
  have u:w.heap.size+1<d.heap.size:=by rw[<-c];simp
  have t:∀b:zM d,b.val.cell? (w,1)=(zB n):=zM.cell oq ox;have z:∀b:zM d,b.val.cell? (w,2)=some (.float .f64 0):=zM.cell oq ox;have q:∀b:zM d,b.val.cell? (w,3)=some (.string ⟨#[]⟩):=zM.cell oq ox;have r:∀b:zM d,b.val.cell? (w.heap.size+1,1)=(zB n):=zM.cell oA oy;have C:∀b:zM d,b.val.cell? (w.heap.size+1,2)=some (.float .f64 0):=zM.cell oA oy;have s:∀b:zM d,b.val.cell? (w.heap.size+1,3)=some (.string ⟨#[]⟩):=zM.cell oA oy;rw[c];clear c;refine aG ?_;repeat(first|go_big_quiet_skip|(go_big_quiet_want;first|(fail;go_frame;go_big_quiet_on)|(go_big_quiet_op;first|go_big_quiet_on|go_big_quiet_call ((go_at_call_of 198 (Value.float .f64 0);exact xl (l _))))))
  refine aE ?_;intro W' hC' hBW';go_wp2;go_ret;exact⟨rfl,zK i hBW'⟩
 ·have J:=zpe f;obtain⟨F,E⟩:∃F:Nat,(if qv f then za5 else f)=F:=⟨_,rfl⟩;rw[E] at J;have W:=zbA;clear E l;change Calls zD 133 #[.agg #[zB 3,zB 0,.float .f64 f,.string ⟨#[]⟩]] w _;go_enter zfq,zfr;go_wp2;obtain⟨d,c⟩:=aY ((w.alloc (.cells #[zB 3,zB 0,.float .f64 f,.string ⟨#[]⟩] 31)).alloc (.cells #[zB 0,zB 0,.float .f64 f,.string ⟨#[]⟩] 31));have i:Below w w d:=by rw[<-c];exact aB
  have u:w.heap.size+1<d.heap.size:=by rw[<-c];simp
  have t:∀b:zM d,b.val.cell? (w,1)=(zB 0):=zM.cell oq ox;have z:∀b:zM d,b.val.cell? (w,2)=some (.float .f64 f):=zM.cell oq ox;have q:∀b:zM d,b.val.cell? (w,3)=some (.string ⟨#[]⟩):=zM.cell oq ox;have r:∀b:zM d,b.val.cell? (w.heap.size+1,1)=(zB 0):=zM.cell oA oy;have C:∀b:zM d,b.val.cell? (w.heap.size+1,2)=some (.float .f64 f):=zM.cell oA oy;have s:∀b:zM d,b.val.cell? (w.heap.size+1,3)=some (.string ⟨#[]⟩):=zM.cell oA oy;rw[c];clear c;refine aG ?_;repeat(first|go_big_quiet_skip|(go_big_quiet_want;first|(fail;go_frame;go_big_quiet_on)|(go_big_quiet_op;first|go_big_quiet_on|go_big_quiet_call ((go_at_call_of 198 (Value.float .f64 f);exact xl (J _))))))
  refine aE ?_;intro W' hC' hBW';go_wp2;go_ret;exact⟨rfl,zK i hBW'⟩
 ·have T:∀w,zv w->Calls zD 134 #[.string ⟨#[118]⟩] w fun k m=>k= .returned (.bool true)/\Below w w m:=fun w D=>by have h:=zlY ⟨#[118]⟩ w ol D;rwa[show qY ⟨#[118]⟩=true by decide +kernel] at h
  have I:Below w w ((w.alloc (.cells #[zB 4,zB 0,.float .f64 0,.string ⟨#[118]⟩] 31)).alloc (.cells #[zB 0,zB 0,.float .f64 0,.string ⟨#[]⟩] 31)):=aB;have A:=(fun j=>(ziB w #[zB 4,zB 0,.float .f64 0,.string ⟨#[118]⟩] #[zB 0,zB 0,.float .f64 0,.string ⟨#[]⟩] 31 31 j).1);have y:=(fun j=>(ziB w #[zB 4,zB 0,.float .f64 0,.string ⟨#[118]⟩] #[zB 0,zB 0,.float .f64 0,.string ⟨#[]⟩] 31 31 j).2);have g:w.heap.size+1<((w.alloc (.cells #[zB 4,zB 0,.float .f64 0,.string ⟨#[118]⟩] 31)).alloc (.cells #[zB 0,zB 0,.float .f64 0,.string ⟨#[]⟩] 31)).heap.size:=oh;have N:((w.alloc (.cells #[zB 4,zB 0,.float .f64 0,.string ⟨#[118]⟩] 31)).alloc (.cells #[zB 0,zB 0,.float .f64 0,.string ⟨#[]⟩] 31)).frozen? (w.heap.size+1,3)=false:=oS;change Calls zD 133 #[.agg #[zB 4,zB 0,.float .f64 0,.string ⟨#[118]⟩]] w _;go_enter zfq,zfr;go_wp2_with (go_at_call 134;refine(T _ (D.below I)).mono ?_;rintro k B ⟨rfl,e⟩;have L:=(e.cell (p:=(w.heap.size+1,3)) g).trans (y 3);have M:=(e.frozen (p:=(w.heap.size+1,3)) g).trans N;have H:=(e.cell (p:=(w,3)) (zkH g)).trans (A 3));have G:=(e.cell (p:=(w,1)) (zkH g)).trans (A 1);have K:=(e.cell (p:=(w,2)) (zkH g)).trans (A 2);have R:=(e.cell (p:=(w.heap.size+1,1)) g).trans (y 1);have V:=(e.cell (p:=(w.heap.size+1,2)) g).trans (y 2);obtain⟨d,c⟩:=aY (B.setCell (w.heap.size+1,3) (.string ⟨#[118]⟩));have i:Below w w d:=by rw[<-c];exact(zK I e).setCell (p:=(w.heap.size+1,3)) (by show w.heap.size<=w+1;omega) _
  have u:w.heap.size+1<d.heap.size:=by rw[<-c];simpa using zg g e.size
  have o:∀j,(B.setCell ⟨w.heap.size+1,3,none⟩ (.string ⟨#[118]⟩)).cell? ⟨w.heap.size,j,none⟩=B.cell? ⟨w.heap.size,j,none⟩:=fun j=>xA (zZ _ _ _ _ oaM);have t:∀b:zM d,b.val.cell? (w,1)=(zB 0):=zM.cell oq (by rw[<-c,o];exact G);have z:∀b:zM d,b.val.cell? (w,2)=some (.float .f64 0):=zM.cell oq (by rw[<-c,o];exact K);have q:∀b:zM d,b.val.cell? (w,3)=some (.string ⟨#[118]⟩):=zM.cell oq (by rw[<-c,o];exact H);have x:B.heap[w.heap.size+1]?=some (.cells #[zB 0,zB 0,.float .f64 0,.string ⟨#[]⟩] 31 (0,0)):=(e.block _ g).trans oN;have r:∀b:zM d,b.val.cell? (w.heap.size+1,1)=(zB 0):=zM.cell oA oW;have C:∀b:zM d,b.val.cell? (w.heap.size+1,2)=some (.float .f64 0):=zM.cell oA oW;have s:∀b:zM d,b.val.cell? (w.heap.size+1,3)=some (.string ⟨#[118]⟩):=zM.cell oA oW;rw[c];clear c x L M H G K R V o A y;refine aG ?_;repeat(first|go_big_quiet_skip|(go_big_quiet_want;first|(fail;go_frame;go_big_quiet_on)|(go_big_quiet_op;first|go_big_quiet_on|go_big_quiet_call ((go_at_call 198;exact xl (l _))))))
  refine aE ?_;intro W' hC' hBW';go_wp2;go_ret;exact⟨rfl,zK i hBW'⟩
theorem WV.kind{v:zr}(h:WV v):0<=v.kind/\v.kind<=4:=by rcases h with rfl|rfl|⟨n,rfl⟩|⟨f,rfl⟩|rfl<;> (refine⟨?_,?_⟩<;> (dsimp only[yO];omega))
theorem zw8(v:zr)(a:WV v)(w:zC)(f:zv w):Calls zD 209 #[.agg #[zB v.kind,zB v.n,.float .f64 v.f,.string v.s],.bool false] w fun c g=>c= .returned (.bool true)/\Below w w g:=by have h:=zpf v a;obtain⟨j,l⟩:=a.kind;have b:Below w w (w.alloc (.cells #[zB v.kind,zB v.n,.float .f64 v.f,.string v.s] 31)):=aB;have e:(w.alloc (.cells #[zB v.kind,zB v.n,.float .f64 v.f,.string v.s] 31)).cell? w=(zB v.kind):=oS;have k:(v.kind !=5)=true:=oi;have n:(v.kind==5)=false:=oi;go_enter Tryz.func209,Tryz.ntmps209;go_wp2_with (go_at_call 133;refine(h _ (f.below b)).mono ?_;rintro c m ⟨rfl,d⟩;have i:=(d.cell (p:=w) oh).trans e);go_ret;exact⟨rfl,zK b d⟩
theorem zw9(v:zr)(a:WV v)(w:zC)(f:zv w):Calls zD 66 #[.agg #[zB v.kind,zB v.n,.float .f64 v.f,.string v.s],.bool false] w fun c g=>c=jB/\Below w w g:=by have h:=zpf v a;obtain⟨j,l⟩:=a.kind;have b:Below w w (w.alloc (.cells #[zB v.kind,zB v.n,.float .f64 v.f,.string v.s] 31)):=aB;have e:(w.alloc (.cells #[zB v.kind,zB v.n,.float .f64 v.f,.string v.s] 31)).cell? w=(zB v.kind):=oS;have k:(v.kind !=5)=true:=oi;have n:(v.kind==5)=false:=oi;go_enter Tryz.func66,Tryz.ntmps66;go_wp2_with (go_at_call 133;refine(h _ (f.below b)).mono ?_;rintro c m ⟨rfl,d⟩;have i:=(d.cell (p:=w) oh).trans e);go_end0;exact⟨rfl,zK b d⟩
section
attribute [local go_sem] jl
def jt(t:zL)(i:zF):Bool:=decide (t.c=i.c) && decide (t.a<=i.k) && decide (i.k<t.b)
def rOf(l:List zL)(i:zF):Int:=l.foldl (fun m t=>if jt t i then max m t.n else m) 0
theorem zwZ(l:List zL)(t:zL)(i:zF):rOf (l++[t]) i=if jt t i then max (rOf l i) t.n else rOf l i:=by unfold rOf;rw[List.foldl_append];rfl
theorem zlN(i:zF):∀(l:List zL) (m:Int),0<=m->(∀a∈l,a.rightB=true)->l.foldl (fun m a=>if jt a i then max m a.n else m) m=max m (zd l i)
 | [],m,h,_=>by simp[zd];omega
 |a::l,m,h,e=>by
  have j:=e a oh;have g:=yh j i;have k:=yK j;have n:=jH l i;rw[yu];by_cases c:a.hasB i=true
  ·have b:jt a i=true:=(by have:=g.1 c;simp[jt,this]);rw[zlN i l _ (by rw[zP b];omega) fun f d=>e f jj];simp only[zd,c,vJ,b];omega
  ·have b:jt a i=false:=by
    cases g3:jt a i
    ·rfl
    ·exact absurd (g.2 (by simp[jt] at g3;omega)) c
   rw[zlN i l _ (by rw[b];exact h) fun f d=>e f jj];simp only[zd,b];rw[zN c];simp;omega
theorem zwa{l:List zL}(a:∀b∈l,b.rightB=true)(i:zF):rOf l i=zd l i:=by have c:=jH l i;unfold rOf;rw[zlN i l 0 (qj _) a];omega
def zf9(w:zC)(b:Nat)(i:zF):Prop:=w.heap[b]?=some (.cells #[i.c,i.k] 62 (0,0))
theorem zwb(sv:Value)(l:List zL)(i:zF)(w:World)(aa:zc 4 zb w sv l)(ax:sv.oneCell'=true)(a7:i.rightB=true):Calls Tryz.prog 72 #[sv,.agg #[.int .u64 i.c,.int .u64 i.k]] w fun d J=>d= .returned (.int .u64 (zd l i))/\Below w.heap.size w J:=by
 have a0:=fun w=>zcg i w;refine(yi (n:=8)).1 ?_;have bw:Fence.wide.fn 140:=trivial;have f:1<=8:=oa;refine callsIn_of_wp_marks Tryz.func72 rfl trivial ?_ rfl;simp only[Tryz.ntmps72,yw,z7,xB,Nat.reduceAdd,Nat.reduceSub,qK,qL,qM,qN,xu,yD];refine vj.2 ?_;go_wp2_with (go_at_call 140;refine(yi.1 (zoM 7 _ _ _ ax rfl)).mono ?_;rintro d J ⟨rfl,rfl⟩);have O:Below w w ((((w.alloc (.cells #[i.c,i.k] 62)).alloc (.cells #[zH] 43)).alloc (.cells #[sv] 37)).alloc (.cells #[.func (.func 141) #[] #[]] 159)):=aB;have af:zf9 ((((w.alloc (.cells #[i.c,i.k] 62)).alloc (.cells #[zH] 43)).alloc (.cells #[sv] 37)).alloc (.cells #[.func (.func 141) #[] #[]] 159)) w i:=by unfold zf9;rw[zt,if_neg (by simp;omega),zt,if_neg (by simp;omega),zt,if_neg (by simp),zt,if_pos rfl]
 have W:=((Boxed.new (w.alloc (.cells #[i.c,i.k] 62)) 43 zH).alloc (.cells #[sv] 37)).alloc (.cells #[.func (.func 141) #[] #[]] 159);have N:=(Boxed.new ((w.alloc (.cells #[i.c,i.k] 62)).alloc (.cells #[zH] 43)) 37 sv).alloc (.cells #[.func (.func 141) #[] #[]] 159);have C:=Boxed.new (((w.alloc (.cells #[i.c,i.k] 62)).alloc (.cells #[zH] 43)).alloc (.cells #[sv] 37)) 159 (.func (.func 141) #[] #[]);have a4:((((w.alloc (.cells #[i.c,i.k] 62)).alloc (.cells #[zH] 43)).alloc (.cells #[sv] 37)).alloc (.cells #[.func (.func 141) #[] #[]] 159)).heap.size=w+4:=oh;simp only[qX] at W N C;obtain⟨s,a2⟩:=aY (((((w.alloc (.cells #[i.c,i.k] 62)).alloc (.cells #[zH] 43)).alloc (.cells #[sv] 37)).alloc (.cells #[.func (.func 141) #[] #[]] 159)));try simp only[a2] at O a4 W N C af ⊢
 clear a2;have bs:w.heap.size<=s.heap.size:=oa;have a3:∀ai aP I ag,sv= .slice (some ⟨ai,aP,none⟩) I ag->ai<w.heap.size:=by
  rintro ai aP I ag rfl;rcases aa with⟨d,_⟩|⟨br,bB,bv,d,_,bm,_⟩
  ·cases d
  ·cases d;exact bm
 refine(vj (n:=8)).1 ?_;refine wpIn_rangeFunc_ownH rfl f (gf:=201) (lb:=#[(w.heap.size+1+1:),(w.heap.size+1+1+1:)]) rfl trivial (enters_of zhg oe rfl)
  (zoN 7 oa (w.heap.size+1+1) (w.heap.size+1+1+1) w sv l s oa oa oa N.cell C.cell (aa.below O) a3) ye.trans ?hKb (zf _ _) (fun _=>rfl)
  (fun j b=>Below w.heap.size w b/\s.heap.size<=b.heap.size/\Boxed b (w.heap.size+1) 43 (.int .u64 (rOf j i))/\zf9 b w.heap.size i/\Boxed b (w.heap.size+1+1+1) 159 (.func (.func 141) #[] #[])) (fun _ _ _=>False) ?hI ?hIx ?h0 (fun c an b=>∃g,s.heap.size<=g/\b.heap[g]?=some (.cells (zb c).toArray 68 (0,0))/\an={tmps:=#[sv,.agg #[.int .u64 i.c,.int .u64 i.k],undef,.pointer (some ⟨w.heap.size,0,none⟩),.int .u64 0,.pointer (some ⟨w.heap.size+1,0,none⟩),.pointer (some ⟨g,0,none⟩),sv,.func (.func 201) #[] #[.pointer (some ⟨w.heap.size+1+1,0,none⟩),.pointer (some ⟨w.heap.size+1+1+1,0,none⟩)],.agg #[.int .u64 c.c,.int .u64 c.a,.int .u64 c.b,.int .u64 c.n],undef,undef,undef,undef,undef,undef,undef,undef,undef,undef,undef,undef,undef,undef,undef,undef,undef,undef,undef,undef,undef,undef,undef,undef,undef,undef,undef,undef],defers:= []}) ?hAx ?assign ?body ?done ?stop
 case hKb=>intro b l D bb a6 _ _ _;exact⟨belowK_b oa b l D bb a6 ‹_› ‹_› ‹_›,World.putObj_heap_other oa⟩
 case hI=>exact OwnFrom.and (ownFrom_below oa oa) (OwnFrom.and (fun j b F E o q e=>zk o q.size) (OwnFrom.and (fun j b F E o q e=>zb1 o q (fun V d=>(e V d).2)) (OwnFrom.and (fun j b F E o q e=>(q.block _ (aL o) (fun d=>by obtain⟨_,D,H,Y⟩:=e _ d.symm;rw[o] at H;cases H;cases Y)).trans o) (fun j b F E o q e=>zb1 o q (fun V d=>(e V d).2)))))
 case hIx=>exact fun ag bj b F E h _ _=>h
 case h0=>exact⟨O,zU _,W,af,C⟩
 case hAx=>intro c an bj b F E ⟨g,av,t,bh⟩ q e;exact⟨g,av,(q.block g (aL t) (fun d=>by obtain⟨_,D,H,Y⟩:=e g d.symm;rw[t] at H;cases H;cases Y)).trans t,bh⟩
 case assign=>intro a8 j c b bp T R;gi_wp2;have ba:ye w.heap.size (w.heap.size+1+1+1) b (b.alloc (.cells #[.int .u64 c.c,.int .u64 c.a,.int .u64 c.b,.int .u64 c.n] 68)):=ye.of_below T.1.size (by have:=T.2.1;omega) aA;refine R _ _ ((KeepsOthers.alloc _ _).from _) ba ?_ ⟨b.heap.size,T.2.1,World.alloc_heap_new b _,rfl⟩;obtain⟨f,B,K,aw,bl⟩:=T;exact⟨f.alloc f.size _,oi,K.alloc _,(yV _ _ _ (aL aw)).trans aw,bl.alloc _⟩
 case body=>
  rintro a8 j c an b bn ⟨V,e⟩ ⟨G,aj,x,z,ar⟩ ⟨g,av,t,rfl⟩ bx;have am:=zwZ j c i;have a5:=aL t;have ap:=aL z;have bg:=x.lt;have az:=G.size;have M:=zA (fun b=>(yi (n:=8 - 1 - 1 - 1)).2 (by have:=a0 b;rwa[a7] at this:Calls zD 142 #[.agg #[i.c,i.k]] b fun d J=>d= .returned (.bool true)/\Below b b J));have bC:Fence.wide.fn 142:=trivial;have bu:1<=8 - 1 - 1:=oa;obtain⟨n,bc⟩:=aY (rOf j i);rw[bc] at am x;have au:=zA am;have bt:=zA x;have y:=zA ar;have ay:=zA z;have bo:=zA t;have aZ:=zA G;have bz:b.cell? w=i.c:=by simp[World.cell?,show b.heap[w.heap.size]?=_ from z]
  have bA:b.cell? (w,1)=i.k:=by simp[World.cell?,show b.heap[w.heap.size]?=_ from z]
  have A:=zA (show ∀a,Below b b a->a.cell? g=c.c/\a.cell? (g,1)=c.a/\a.cell? (g,2)=c.b/\a.cell? (g,3)=c.n/\a.cell? w=i.c/\a.cell? (w,1)=i.k/\Boxed a (w.heap.size+1) 43 n from fun a h=>by have f:=(h.block g a5).trans t;have B:=(h.block _ ap).trans z;exact⟨oaX,oaX,oaX,oaX,by simp[World.cell?,show a.heap[w.heap.size]?=_ from B],by simp[World.cell?,show a.heap[w.heap.size]?=_ from B],(h.block _ bg).trans x⟩);clear am x ar z t G e aa a0 ax a3 W N C af O a4;have ak:=zA (show ∀a,Below b b a->jt c i=false->KeepsFrom s b a/\ye w (w.heap.size+1+1+1) b a/\Below w w a/\s.heap.size<=a/\Boxed a (w.heap.size+1) 43 (rOf (j++[c]) i)/\zf9 a w i/\Boxed a (w.heap.size+1+1+1) 159 (.func (.func 141) #[] #[]) from fun a h e=>by have m:KeepsOthers b a:=⟨h.size,fun r D m _=>(h.block r (aL m)).trans m⟩;refine⟨m.from _,ye.of_below az y.o.lt h,zK aZ.o h,zk aj h.size,?_,(h.block _ ap).trans ay.o,(h.block _ y.o.lt).trans y.o⟩;rw[au.o,e];exact(A.o a h).2.2.2.2.2.2);have bf:=zA (show ∀a,Below b.heap.size b a->jt c i=true->KeepsFrom s.heap.size b (a.setCell ⟨w.heap.size+1,0,none⟩ (.int .u64 (max n c.n)))/\ye w.heap.size (w.heap.size+1+1+1) b (a.setCell ⟨w.heap.size+1,0,none⟩ (.int .u64 (max n c.n)))/\Below w.heap.size w (a.setCell ⟨w.heap.size+1,0,none⟩ (.int .u64 (max n c.n)))/\s.heap.size<=(a.setCell ⟨w.heap.size+1,0,none⟩ (.int .u64 (max n c.n))).heap.size/\Boxed (a.setCell ⟨w.heap.size+1,0,none⟩ (.int .u64 (max n c.n))) (w.heap.size+1) 43 (.int .u64 (rOf (j++[c]) i))/\zf9 (a.setCell ⟨w.heap.size+1,0,none⟩ (.int .u64 (max n c.n))) w.heap.size i/\Boxed (a.setCell ⟨w.heap.size+1,0,none⟩ (.int .u64 (max n c.n))) (w.heap.size+1+1+1) 159 (.func (.func 141) #[] #[]) from fun a h e=>by have m:KeepsOthers b a:=⟨h.size,fun r D m _=>(h.block r (aL m)).trans m⟩;have ac:∀r,r≠w.heap.size+1->(a.setCell ⟨w.heap.size+1,0,none⟩ (.int .u64 (max n c.n))).heap[r]?=a.heap[r]?:=fun r m=>zZ _ _ _ _ (by show ¬r=w.heap.size+1;exact m);have L:Below w.heap.size b (a.setCell ⟨w.heap.size+1,0,none⟩ (.int .u64 (max n c.n))):=(h.mono az).setCell (p:=⟨w.heap.size+1,0,none⟩) (zfa _) _;refine⟨(m.trans (KeepsOthers.setCell _ _ _)).from _,⟨L,(ac _ oa).trans (h.block _ y.o.lt)⟩,aZ.o.trans L,by simp[World.setCell];exact zk aj h.size,?_,(ac _ oa).trans ((h.block _ ap).trans ay.o),(ac _ oa).trans ((h.block _ y.o.lt).trans y.o)⟩;rw[au.o,e];exact(A.o a h).2.2.2.2.2.2.set _);by_cases f:c.c=i.c
  ·have bd:(c.c==i.c)=true:=(by simp[f]);by_cases B:c.a<=i.k
   ·by_cases K:i.k<c.b
    ·have v:=zA (show jt c i=true by simp[jt,f,B,K]);gi_wp2_with (gi_at_call 142;refine(CallsIn.inRound _ (M.o _)).mono ?_;rintro d a ⟨rfl,u⟩;obtain⟨ao,Z,ad,al,ab,X,k⟩:=A.o a u;have ah:=k.cell;have aq:=k.frozen);exact bf.o _ oC v.o
    ·have v:=zA (show jt c i=false by simp[jt,K]);gi_wp2_with (gi_at_call 142;refine(CallsIn.inRound _ (M.o _)).mono ?_;rintro d a ⟨rfl,u⟩;obtain⟨ao,Z,ad,al,ab,X,k⟩:=A.o a u;have ah:=k.cell;have aq:=k.frozen);exact ak.o _ oC v.o
   ·have v:=zA (show jt c i=false by simp[jt,B]);gi_wp2_with (gi_at_call 142;refine(CallsIn.inRound _ (M.o _)).mono ?_;rintro d a ⟨rfl,u⟩;obtain⟨ao,Z,ad,al,ab,X,k⟩:=A.o a u;have ah:=k.cell;have aq:=k.frozen);exact ak.o _ oC v.o
  ·have bd:(c.c==i.c)=false:=(by simp[f]);have v:=zA (show jt c i=false by simp[jt,f]);gi_wp2_with (gi_at_call 142;refine(CallsIn.inRound _ (M.o _)).mono ?_;rintro d a ⟨rfl,u⟩;obtain⟨ao,Z,ad,al,ab,X,k⟩:=A.o a u;have ah:=k.cell;have aq:=k.frozen);exact ak.o _ oC v.o
 case done=>
  rintro be bi b bq ae ⟨G,aj,x,_,_⟩ R;have bD:=x.cell;have a9:=zA (show rOf bi i=zd l i from by
   rw[zwa (fun a1 aH=>by rw[ae] at aH;exact(zcu.1 aH).2),ae,zlJ _ _ _ (fun a1 _ L=>by
    cases e:a1.rightB
    ·simp[zL.hasB,e] at L
    ·rfl)])
  clear ae;go_wp2;refine⟨oh,.inl ⟨_,_,rfl,run_takeDeferred R,?_⟩⟩;refine⟨_,zcI rfl _ _ _,?_,?_⟩
  ·rw[a9.o];rfl
  ·exact G.trans (belowK_b (w:=w) (zU _) b be _ _ oa R rfl rfl)
 case stop=>exact fun _ _ _ _ _ _ h _=>h.elim
end
def zbW(L:zaU)(p:zF):Option Nat:=(L.PL.find? fun x=>decide (x.1=p)).map (·.2)
def zgg(L:zaU)(M:qB)(p:zF)(k:ByteArray):Value:=if zaV M.ops p k= [] then() else L.row p k
theorem zrZ{w:zC}{e:Nat}{L:zaU}{d:qB}(b:vc w e L d)(p:zF):
 (Instr.lookup 172 (.map (some L.inn)) (xV p) false).run zD w= .ok (.map (zbW L p)) w:=by
 have:=zbB (T:=172) (E:=261) vb oe (z:= .map none) (fun w=>oe) b.inn p false;rw[this,zsi (fun c:zF×Nat=>Value.map (some c.2)) Prod.fst];unfold zbW;cases List.find? (fun a:zF×Nat=>decide (a.1=p)) L.PL<;> rfl
theorem zra{w:zC}{f:Nat}{L:zaU}{d:qB}(g:vc w f L d){p:zF}{r:Nat}(a:zbW L p=some r):(p,r)∈L.PL:=by
 unfold zbW at a;cases hf:L.PL.find? fun c=>decide (c.1=p) with
 |none=>rw[hf] at a;cases a
 |some c=>
  rw[hf] at a;have e:=zhP hf;have b:=zar hf;simp at b a;rw[<-b,<-a];exact e
theorem zrb{w:zC}{i:Nat}{L:zaU}{c:qB}(e:vc w i L c){p:zF}(a:zbW L p=none):∀b∈c.ops,b.parent≠p:=by
 intro b k j;have h:p∈L.PL.map (·.1):=by rw[e.par];exact zsl.2 ⟨b,k,j⟩
 obtain⟨f,g,d⟩:=xz.1 h;unfold zbW at a;simp only[zfX,zcL,xW] at a;exact a f g d
theorem zrc(b:List ByteArray)(f:ByteArray->Value)(k:ByteArray)(e:k∈b):(xD (b.map fun k=>(k,f k)) k).getD ()=f k:=by
 unfold xD;rw[zcw];have g:((fun c:ByteArray×Value=>decide (c.1=k)) ∘ fun k=>(k,f k))=fun a=>decide (a=k):=rfl;rw[g];cases hf:b.find? fun a=>decide (a=k) with
 |none=>simp at hf;exact absurd e (fun d=>hf k d rfl)
 |some a=>
  have:=zar hf;simp at this;subst this;rfl
theorem zrd(b:List ByteArray)(f:ByteArray->Value)(k:ByteArray)(e:¬k∈b):xD (b.map fun k=>(k,f k)) k=none:=by
 unfold xD;rw[zcw];have h:((fun d:ByteArray×Value=>decide (d.1=k)) ∘ fun k=>(k,f k))=fun a=>decide (a=k):=rfl;rw[h];have:(b.find? fun a=>decide (a=k))=none:=by rw[zcL];intro a g c;exact e ((zjY c) ▸ g)
 rw[this];rfl
theorem zre{w:zC}{e:Nat}{L:zaU}{b:qB}(c:vc w e L b)(p:zF)(k:ByteArray):
 (Instr.lookup 261 (.map (zbW L p)) (.string k) false).run zD w= .ok (zgg L b p k) w:=by
 unfold zgg;cases hb:zbW L p with
 |none=>
  have:=zsh (T:=261) (E:=36) zmj oe (z:=()) (fun w=>oe) w k false;rw[this,zN ol,zP];by_cases a:zaV b.ops p k= []
  ·exact a
  ·obtain⟨d,h,g,_⟩:=zmx.1 a;exact absurd g (zrb c hb d h)
 |some i=>
  have:=zbB (T:=261) (E:=36) zmj oe (z:=()) (fun w=>oe) (c.inner _ (zra c hb)) k false;rw[this,zN ol];by_cases a:zaV b.ops p k= []
  ·rw[zrd _ _ _ (fun f=>zmy.1 f a),zP a];rfl
  ·rw[zrc _ _ _ (zmy.2 a),zN a]
theorem zrA(L:zaU)(p:zF)(k:ByteArray):zgg L qB.empty p k=():=by simp[zgg,zaV,qB.empty]
theorem zrB(E:Nat->Prop)(m:Nat)(p:zF)(k:ByteArray)(w:zC)(x:zb9 w E m qB.empty):
 Calls zD 152 #[m,.agg #[p.c,p.k],.string k] w fun C s=>C= .returned (.tuple #[zS zi,.bool false])/\Below w w s:=by
 obtain⟨g,u,hF⟩:=x;go_enter Tryz.func152,Tryz.ntmps152;go_upto_region 3 with fail;generalize n:World.alloc _ _=b;obtain⟨i,d,j,G,I⟩:=aK n;clear n;have r:=aC d 0;have B:=aC d 1;have c:=u.below i;have D:=aC c.st 1;have t:∀a,(Instr.lookup 172 (.map (some g.inn)) (.agg #[p.c,p.k]) false).run zD (b.drewN a)= .ok (.map (zbW g p)) (b.drewN a):=
  fun a=>zrZ (c.below (zcH (zf _ _) a)) p
 have z:∀a,(Instr.lookup 261 (.map (zbW g p)) (.string k) false).run zD (b.drewN a)= .ok () (b.drewN a):=
  fun a=>by rw[zre (c.below (zcH (zf _ _) a)) p k,zrA]
 go_quiet (fail);obtain⟨e,h⟩:=aY (b.drewN nq);have f:Below b b e:=by rw[<-h];exact zcH (zf _ _) nq
 rw[h];clear h;go_wp2_with fail;have q:Below w w e:=i.trans (f.mono oa);have H:zR e (w.heap.size+1) zi:=(f.block _ oa).trans j;clear j G d r B f i t z D c I b;go_loopw [9,21] (fun y A wr=>A=zB 0/\y= .bool false/\Below w w wr/\zR wr (w.heap.size+1) zi) (fun _ _ _=>0);case atStart=>exact⟨rfl,rfl,q,H⟩
 case round=>obtain⟨rfl,rfl,o,l⟩:=hrel;go_wp2_with (refine yx (T:=66) (v:=zS zi) rfl rfl rfl rfl (zR.store l zi) ?_);have F:=(l.put zi).load;refine yG (v:= .tuple #[zS zi,.bool false]) ?_ rfl ⟨rfl,yo o oa _⟩;simp[results,Tryz.results152,asAddr,F]
theorem zrC{W:zC}{b:Nat}{x y u:zJ}{t:TypeId}(h:W.heap[b]?=some (.cells #[x,y] t (0,0))):(W.setCell b u).cell? b=some u:=by simp[World.cell?,World.setCell,zu,h]
theorem zrD{W:zC}{b:Nat}{x y u v:zJ}{t:TypeId}(h:W.heap[b]?=some (.cells #[x,y] t (0,0))):((W.setCell b u).setCell (b,1) v).cell? (b,1)=some v:=by simp[World.cell?,World.setCell,zu,h]
theorem zrE(i:Nat->Prop)(d b:Nat)(k:ByteArray)(w:zC)(B:zb9 w i d qB.empty)(f:w.cell? b=some (.string k)):
 Calls zD 77 #[d,.slice (some b) 1 1] w fun g m=>g= .returned (.tuple #[.agg #[zT.c,zT.k],.bool false])/\Below w w m:=by
 have u:b<w:=aI f;go_enter Tryz.func77,Tryz.ntmps77;go_wp2_with fail;generalize l:World.alloc _ _=G;obtain⟨z,t,q,n⟩:=aJ l;clear l;go_loopw [13] (fun r wr=>r=zB 0/\Below w w wr/\w.heap.size+2<=wr.heap.size/\wr.heap[w.heap.size]?=some (.cells #[zH,zH] 62 (0,0))/\wr.heap[w.heap.size+1]?=some (.cells #[zH,zH] 62 (0,0))) (fun _ _=>0);case atStart=>exact⟨rfl,z,oa,t,q⟩
 case round=>obtain⟨rfl,hb,n,A,h⟩:=hrel;have H:=aC h 0;have J:=aC h 1;have C:=(hb.cell (p:=b) u).trans f;have s:=zrB i d zT k wr (B.below hb);go_wp2_with (first|(go_at_call 152;refine s.mono ?_;rintro g w3 ⟨rfl,e⟩;have y:zR (w3.alloc (.cells (ze zi).toArray 66)) w3 zi:=zR.new _ _)|((refine ztH 66 (by rfl) (by rfl) ?_;refine⟨_,_,rfl,zR.store y zi,?_⟩);have c:Below w3 w3 (xx (w3.alloc (.cells (ze zi).toArray 66)) w3 zi):=yo aA (zU _) _;generalize x:xx _ _ _=j at c ⊢;clear x;have o:=zK hb (zK e c);have I:=e.size;have a:=(c.block _ oa).trans ((e.block _ oa).trans A);have E:=aC a 0;have D:=aC a 1;have K:j.frozen? w=false:=obp;have F:j.frozen? (w,1)=false:=obp));refine yG (v:= .tuple #[.agg #[zT.c,zT.k],.bool false]) (by simp[results,Tryz.results77,go_sem,zT,zrC a,zrD a]) rfl ⟨rfl,(o.setCell (zU _) _).setCell (zU _) _⟩
section
section
variable {P:Program}{ops:Array Oper}{md:Region.Mode}{S:World->Prop}{Q:Exit->Act->World->Prop}
theorem zdN{d:World->Prop}{n:Nat}(f:∀e,d e->S e):∀(b:Nat) (g:Array Bool) (a:Act) (w:zC),qT P md ops Q d n b g a w->qT P md ops Q S n b g a w
 |0,_,_,_,c=>c
 |b+1,_,_,_,c=>⟨c.1,fun j m=>j2 (fun l k h=>⟨fun i=>f _ (h.1 i),zdN f b _ l k h.2⟩) (c.2 j m)⟩
def qq(P:Program)(ops:Array Oper)(Q:Exit->Act->World->Prop):RT->(World->Prop)->Act->World->Prop
 | .nil,_,d,e=>Q .normal d e
 | .rd l g,S,d,e=>wpQuiet P ops S (fun c=>qq P ops Q g S c e) (l.map fun f=>(ops[f]?).getD default) d
 | .one f g,S,d,e=>wpOp P ops Q f (fun c w'=>∃a:World->Prop,(∀b,a b->S b)/\a w'/\qq P ops Q g a c w') d e
 | .two f g h i,S,d,e=>wpOp P ops Q f (fun c w'=>∃a:World->Prop,(∀b,a b->S b)/\a w'/\qq P ops Q g a c w') d e/\wpOp P ops Q h (fun c w'=>∃a:World->Prop,(∀b,a b->S b)/\a w'/\qq P ops Q i a c w') d e
 | .three f g h i k j,S,d,e=>wpOp P ops Q f (fun c w'=>∃a:World->Prop,(∀b,a b->S b)/\a w'/\qq P ops Q g a c w') d e/\wpOp P ops Q h (fun c w'=>∃a:World->Prop,(∀b,a b->S b)/\a w'/\qq P ops Q i a c w') d e/\wpOp P ops Q k (fun c w'=>∃a:World->Prop,(∀b,a b->S b)/\a w'/\qq P ops Q j a c w') d e
theorem zcf(m:Region.noSelect ops=true)(o:∀H a I C w,Q (.panic H) (Act.put a I C) w->Q (.panic H) a w):
 ∀(t:RT) (S:World->Prop) (l:Array Bool) (a:Act) (w:zC),vE md ops l->S w->jJ md ops t l=true->qq P ops Q t S a w->qT P md ops Q S ops.size t.len l a w
 | .nil,S,l,a,w,_,_,e,h=>⟨by simpa[jJ] using e,h⟩
 | .rd F t,S,l,a,w,k,G,e,h=>by simp only[jJ,xr] at e;refine ze8 m o F t.len l a w (fun b=>qq P ops Q t S b w) k ?_ e.1 G (fun b g=>zcf m o t S _ b w (zii F l k e.1) G e.2 g) h;unfold zdL;rw[zaq];intro O N;simp[zbj.1 N]
 | .one B t,S,l,a,w,k,_,e,h=>by simp only[jJ,xr,xW] at e;refine⟨fun n=>(by rw[e.1] at n;cases n),fun s u=> ?_⟩;have J:=u;rw[e.1] at u;obtain rfl:s=B:=(by simpa using u);exact j2 (fun b f g=>by obtain⟨i,d,c,j⟩:=g;exact⟨fun _=>d _ c,zdN d _ _ _ _ (zcf m o t i _ b f (k.step J) c e.2 j)⟩) h
 | .two B t s D,S,l,a,w,k,_,e,h=>by
   simp only[jJ,xr,xW] at e;obtain⟨⟨⟨r,y⟩,v⟩,z⟩:=e;refine⟨fun n=>(by rw[r] at n;cases n),fun x q=> ?_⟩;have E:=q;rw[r] at q;rcases xK.1 q with rfl|q
   ·exact j2 (fun b f g=>by obtain⟨i,d,c,j⟩:=g;exact⟨fun _=>d _ c,zdN d _ _ _ _ (zcf m o t i _ b f (k.step E) c v j)⟩) h.1
   ·obtain rfl:x=s:=(by simpa using q);refine j2 (fun b f g=> ?_) h.2;obtain⟨i,d,c,j⟩:=g;refine⟨fun _=>d _ c,?_⟩;show qT P md ops Q S ops.size t.len _ b f;rw[y];exact zdN d _ _ _ _ (zcf m o D i _ b f (k.step E) c z j)
 | .three B t s D x C,S,l,a,w,k,_,e,h=>by
   simp only[jJ,xr,xW] at e;obtain⟨⟨⟨⟨⟨r,y⟩,v⟩,z⟩,K⟩,M⟩:=e;refine⟨fun n=>(by rw[r] at n;cases n),fun L p=> ?_⟩;have A:=p;rw[r] at p;rcases xK.1 p with rfl|p
   ·exact j2 (fun b f g=>by obtain⟨i,d,c,j⟩:=g;exact⟨fun _=>d _ c,zdN d _ _ _ _ (zcf m o t i _ b f (k.step A) c z j)⟩) h.1
   ·rcases xK.1 p with rfl|p
    ·refine j2 (fun b f g=> ?_) h.2.1;obtain⟨i,d,c,j⟩:=g;refine⟨fun _=>d _ c,?_⟩;show qT P md ops Q S ops.size t.len _ b f;rw[y];exact zdN d _ _ _ _ (zcf m o D i _ b f (k.step A) c K j)
    ·obtain rfl:L=x:=(by simpa using p);refine j2 (fun b f g=> ?_) h.2.2;obtain⟨i,d,c,j⟩:=g;refine⟨fun _=>d _ c,?_⟩;show qT P md ops Q S ops.size t.len _ b f;rw[v];exact zdN d _ _ _ _ (zcf m o C i _ b f (k.step A) c M j)
theorem zrS {id:Nat}{a:Act}{w:zC}{l:List Oper}(t:RT) (S:World->Prop) (o:P.follows .mixedOrders=true) (b:zfA .any l.toArray t=true)
 (g:∀d a f j w,Q (.panic d) (Act.put a f j) w->Q (.panic d) a w) (k:S w.drew)
 (h:qq P l.toArray Q t S a w.drew):(Code.region id l.toArray true).wp P Q a w:=by
 unfold zfA at b;simp only[xr,xW] at b;obtain⟨⟨i,e⟩,m⟩:=b;refine zhO o (zd5 (S:=S) (n:=l.toArray.size) _ _ _ _ ?_);suffices c:qT P .any l.toArray Q S l.toArray.size t.len (Array.replicate l.toArray.size false) a w.drew by rw[m] at c;exact c
 exact zcf i g t S _ a _ (vE.none _) k e h
theorem zrT {i:Nat}{t:RT}{a:Act}{w:zC}{o:Oper}(h:ops[i]?=some o)
 (b:wpList P ops (fun e g w'=>match e with| .normal=>∃c:World->Prop,(∀f,c f->S f)/\c w'/\qq P ops Q t c g w'|e=>Q e g w') [o] a w):qq P ops Q (.one i t) S a w:=by
 unfold qq wpOp;simp only[h];unfold wpList at b;split
 ·rename_i d;rw[zP d] at b;exact b
 ·rename_i d;rw[zN d] at b;exact b
theorem zij{i j:Nat}{t u:RT}{a:Act}{w:zC}(c:qq P ops Q (.one i t) S a w)(b:qq P ops Q (.one j u) S a w):qq P ops Q (.two i t j u) S a w:=⟨c,b⟩
theorem zrU{i j k:Nat}{t u v:RT}{a:Act}{w:zC}(c:qq P ops Q (.one i t) S a w)(b:qq P ops Q (.one j u) S a w)(d:qq P ops Q (.one k v) S a w):qq P ops Q (.three i t j u k v) S a w:=⟨c,b,d⟩
theorem zrV{a:Act}{w:zC}(h:Q .normal a w):qq P ops Q .nil S a w:=h
theorem zrW{rs:List Nat}{t:RT}{a:Act}{w:zC}(b:wpQuiet P ops S (fun d=>qq P ops Q t S d w) (rs.map fun c=>(ops[c]?).getD default) a):qq P ops Q (.rd rs t) S a w:=b
end
end
open Go.ChangeShapes Go.WideShapes Go.Deep
def ze0{α:Type}(k:Nat)(enc:α->List Value)(w:zC)(v:zJ)(l:List α):Prop:=
 ∃c g,v= .slice c l.length g/\l.length<=9223372036854775807/\∀(j:Nat) d,l[j]?=some d->∃a b,c=some ⟨a,b,none⟩/\a<w.heap.size/\∀e f,(enc d)[e]?=some f->w.cell? ⟨a,b+j*k+e,none⟩=some f
end Go.Proofs.YtimlgcodecgecaaGreatDoor
