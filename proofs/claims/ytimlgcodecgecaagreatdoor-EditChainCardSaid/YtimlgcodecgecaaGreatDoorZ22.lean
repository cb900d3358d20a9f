/- Rows that read as lists: parts of them, and one more behind a full one. -/
import Derived.Test.YtimlgcodecgecaaGreatDoorZ21
import Derived.RegionTactic
import Derived.ChangeAlike
import Derived.Lib.SlFresh
import Derived.Tactics2
import Derived.Defers
import Derived.Recover
import Derived.Laws.Pointers
set_option maxRecDepth 100000
set_option maxHeartbeats 20000000
set_option linter.all false
namespace Go.Proofs.YtimlgcodecgecaaGreatDoor
open Go.RowKit Go.Lib
section
variable {Φ:yA}
theorem zc.flat{α:Type}{k:Nat}{enc:α->List Value}(r:0<k)(j:∀d,(enc d).length=k){w:zC}{b c:Nat}{l:List α}(q:∀a d,l[a]?=some d->∀h n,(enc d)[h]?=some n->w.cell? (b,c+a*k+h)=some n):
 ∀a e,(l.flatMap enc)[a]?=some e->w.cell? (((b,c):Addr).add a)=some e:=fun a e f=>by
 have o:a<l.length*k:=by rw[<-qy j l];exact(zw.1 f).1
 have m:a / k<l.length:=zfN (by rw[zbe];exact o);have p:a % k<k:=zaH _ r;have i:=jo j l (a / k) (a % k) l[a / k] (by simp[m]) p;have g:a / k*k+a % k=a:=by have:=zfO a k;rw[zbe] at this;omega
 rw[g] at i;rw[i] at f;have:=q (a / k) l[a / k] (by simp[m]) (a % k) e f;rw[show((b,c):Addr).add a=(b,c+a / k*k+a % k) by rw[qW,Nat.add_assoc,g]];exact this
section
variable {α:Type}{k:Nat}{enc:α->List Value}{w:zC}{v:zJ}{l:List α}{T:TypeId}
theorem zx.upto(o:Tryz.prog.underlying T=some (.slice (Tryz.prog.elem T)))(z:∀w,(sizeOf (Tryz.prog.elem T)).run zD w= .ok k w)(r:zx Φ k enc w v l){i:Nat}(g:i<=l.length):
 ∃j,(∀a,(Instr.slice T v none (zB (i:Int)) none).run zD a= .ok j a)/\zc k enc w j (l.take i):=by
 obtain⟨n,e,b,rfl,B,E⟩:=r;refine⟨.slice e i b,fun a=> ?_,?_⟩
 ·rw[run_slice_h a T e l.length b o .i64 i oa oa,z];cases e with
  |none=>simp[yY,sliced]
  |some h=>by_cases q:b=0<;> simp[yY,sliced,q,Addr.add]
 ·rcases n with⟨d,rfl⟩|⟨u,p,D,d,C,m,x⟩
  ·cases d;obtain rfl:i=0:=(by simpa using g);exact .inl ⟨rfl,oh⟩
  ·cases d;refine .inr ⟨u,p,b,by simp[zbG g],oi,m,fun f t c h y s=> ?_⟩;have A:f<i:=(by have:=(zw.1 c).1;simp at this;omega);rw[zdY A] at c;exact x f t c h y s
theorem zx.from(j:Tryz.prog.underlying T=some (.slice (Tryz.prog.elem T)))(n:∀w,(sizeOf (Tryz.prog.elem T)).run zD w= .ok k w)(r:zx Φ k enc w v l){i:Nat}(t:i<=l.length):
 ∃o,(∀a,(Instr.slice T v (zB (i:Int)) none none).run zD a= .ok o a)/\zc k enc w o (l.drop i):=by
 obtain⟨q,B,c,rfl,z,E⟩:=r;rcases q with⟨h,rfl⟩|⟨m,b,D,h,A,p,x⟩
 ·cases h;obtain rfl:i=0:=by simpa using t
  refine⟨(),fun a=> ?_,.inl ⟨rfl,oh⟩⟩;show(Instr.slice T () (zB 0) none none).run zD a=_;rw[zhF a T none 0 0 j .i64 0 oa oa,n];simp[yY,sliced]
 ·cases h;refine⟨.slice (some (m,if c=i then b else b+i*k)) (l.length - i) (c - i),fun a=> ?_,?_⟩
  ·rw[zhF a T _ l.length c j .i64 i oa oa,n];by_cases e:c=i
   ·simp only[yY,sliced,zj3];rw[zP e,zP e]
   ·simp only[yY,sliced,zj3];rw[zN e,zN e];simp[Addr.add]
  ·refine .inr ⟨m,if c=i then b else b+i*k,c - i,by rw[zaM],oi,p,fun d u g f y s=> ?_⟩;have C:d<l.length - i:=(by have:=(zw.1 g).1;simpa using this);rw[zct] at g;have:=x (i+d) u g f y s;rw[zN oa];rw[show b+i*k+d*k+f=b+(i+d)*k+f by rw[zcM];omega];exact this
theorem zx.full(h:Tryz.prog.underlying T=some (.slice (Tryz.prog.elem T)))(o:∀w,(sizeOf (Tryz.prog.elem T)).run zD w= .ok k w)(j:zx Φ k enc w v l):
 ∃a,(∀c,(Instr.slice T v none (zB (l.length:Int)) (zB (l.length:Int))).run zD c= .ok (.slice a l.length l.length) c)/\zc k enc w (.slice a l.length l.length) l/\(a=none->l= []):=by
 obtain⟨d,a,p,rfl,r,t⟩:=j;refine⟨a,fun c=> ?_,?_,?_⟩
 ·rw[run_slice_hm c T a l.length p h .i64 .i64 l.length l.length oa oa oa,o];cases a with
  |none=>simp[yY,sliced]
  |some s=>by_cases i:l.length=0<;> simp[yY,sliced,i,Addr.add]
 ·rcases d with⟨b,rfl⟩|⟨f,e,q,b,m,g,n⟩
  ·cases b;exact .inl ⟨rfl,rfl⟩
  ·cases b;exact .inr ⟨f,e,l.length,rfl,m,g,n⟩
 ·rintro rfl;rcases d with⟨b,rfl⟩|⟨f,e,q,b,_⟩
  ·rfl
  ·cases b
end
theorem zkv {α:Type}{P:Program}{q:Array Oper}{r:List Oper}{o:Oper}{a:Act}{w:zC}{Q:Exit->Act->World->Prop}{S E k:Nat}{enc:α->List Value}(b:zaA P S E k enc) (I:o.guard=none) (s x:Operand)
 (H:o.op= .call {callee:= .builtin .append,args:=#[s,x],argTypes:=#[S,S]})
 (p:Option Addr) (l:List α) (u:a.eval s= .slice p l.length l.length) (V:zc k enc w (.slice p l.length l.length) l) (T:p=none->l= []) (n:zJ) (m:List α) (h:a.eval x=n) (L:zc k enc w n m) (j:m≠[])
 (G:l.length+m.length<=100000000)
 (C:∀e d,zG w E k enc d e (l++m)->w.grownBy d none->wpList P q Q r (a.put o.dst e) d):
 wpList P q Q (o::r) a w:=by
 obtain⟨g,z,F,B,R,t,J⟩:=b.hi;rcases L with⟨_,rfl⟩|⟨K,A,N,rfl,_,X,v⟩
 ·exact absurd rfl j
 ·have ab:1<=m.length:=by cases m with|nil=>exact absurd rfl j|cons=>simp
  refine wpList_append_grows w I s x S H E g z k g.bytes b.ht F B R rfl J b.k0 p l.length l.length (l.flatMap enc) u (fun c=>by rw[T c];exact⟨rfl,rfl⟩) (qy b.len l) ?_ (K,A) m.length N (m.flatMap enc) h (qy b.len m) (zc.flat b.k0 b.len v)
   (fun i f=>by obtain⟨x,_,h⟩:=zdV.1 f;exact b.one x i h) oa oP (by have:(l.length+m.length)*g.bytes<=100000000*300:=zg7 G t;omega) (fun e d O y=>C e d (by unfold zG;rw[List.length_append,List.flatMap_append];exact O) y)
  rintro Y rfl D i f;rcases V with⟨c,_⟩|⟨aa,W,Z,c,_,_,M⟩
  ·cases c
  ·simp only[ve,jC] at c;obtain⟨rfl,_,_⟩:=c;exact zc.flat b.k0 b.len M D i f
theorem zc5:zaA Tryz.prog 141 3 1 yc where
 ht:=Tryz.underlying141
 hi:=by obtain⟨a,d,c,e,f⟩:=yI (by kernel_rfl:(Tryz.prog.info? 3).map (fun a=>(a.zero,a.size,a.bytes))=some (some (.int .i64 0),1,8));exact⟨a,_,d,c,e,oa,rfl⟩
 k0:=ol
 len:=fun _=>rfl
 one:=fun g h b=>by simp[yc] at b;subst b;rfl
theorem zcV:zaA zD 211 215 10 j5 where
 ht:=Tryz.underlying211
 hi:=by obtain⟨a,d,c,e,f⟩:=yI (by kernel_rfl:(Tryz.prog.info? 215).map (fun a=>(a.zero,a.size,a.bytes))=some (some (.agg #[zH,zH,zH,zH,zH,zH,zB 0,.bool false,(),()]),10,112));exact⟨a,_,d,c,e,oa,rfl⟩
 k0:=ol
 len:=fun _=>rfl
 one:=fun g h b=>by simp[j5] at b;rcases b with rfl|rfl|rfl|rfl|rfl|rfl|rfl|rfl|rfl|rfl<;> rfl
theorem zoO:Tryz.prog.underlying 141=some (.slice (Tryz.prog.elem 141)):=oe
theorem zoP(w:zC):(sizeOf (Tryz.prog.elem 141)).run zD w= .ok 1 w:=oe
theorem zvI:Tryz.prog.underlying 211=some (.slice (Tryz.prog.elem 211)):=oe
theorem zvJ(w:zC):(sizeOf (Tryz.prog.elem 211)).run zD w= .ok 10 w:=oe
end
theorem ziM:(Tryz.prog.info? 179).map (fun i=>(i.zero,i.size,i.bytes))=some (some (.agg #[zT.c,zT.k]),2,16):=oe
structure zax(l:List zF):Prop where
 ok:∀x∈l,1<=x.c/\x.c<=9007199254740991/\1<=x.k/\x.k<=9007199254740991
 ord:l.Pairwise fun x y=>x.c<y.c
theorem zpg(x:zF)(w:zC):Calls zD 197 #[.agg #[x.c,x.k]] w fun b a=>b=x.c/\Below w w a:=by go_enter Tryz.func197,Tryz.ntmps197;go_wp2;go_ret;exact⟨rfl,aB⟩
theorem zxA(b:Nat)(x a:zF)(w:zC)(z:w.cell? b=some (.func (.func 197) #[] #[]))(v:b<w):
 Calls zD 243 #[.agg #[x.c,x.k],.agg #[a.c,a.k],b] w fun u n=>u=(zB (jv x.c a.c))/\Below w w n:=by
 have j:=zpg x;have k:=zpg a;have i:=zfC x.c a.c;go_enter Tryz.func243,Tryz.ntmps243;go_upto_region 1 with fail;have g:Below w w ((w.alloc (.cells #[x.c,x.k] 179)).alloc (.cells #[a.c,a.k] 179)):=aA.alloc oh _;have f:((w.alloc (.cells #[x.c,x.k] 179)).alloc (.cells #[a.c,a.k] 179)).cell? w=x.c:=oS;have e:((w.alloc (.cells #[x.c,x.k] 179)).alloc (.cells #[a.c,a.k] 179)).cell? (w,1)=x.k:=oS;have d:((w.alloc (.cells #[x.c,x.k] 179)).alloc (.cells #[a.c,a.k] 179)).cell? (w.heap.size+1:)=a.c:=oS;have c:((w.alloc (.cells #[x.c,x.k] 179)).alloc (.cells #[a.c,a.k] 179)).cell? (w.heap.size+1,1)=a.k:=oS;have h:((w.alloc (.cells #[x.c,x.k] 179)).alloc (.cells #[a.c,a.k] 179)).cell? b=some (.func (.func 197) #[] #[]):=(g.cell (p:=b) v).trans z;have o:((w.alloc (.cells #[x.c,x.k] 179)).alloc (.cells #[a.c,a.k] 179)).heap.size=w+2:=oh;obtain⟨B,l⟩:=aY ((w.alloc (.cells #[x.c,x.k] 179)).alloc (.cells #[a.c,a.k] 179));try simp only[l] at g f e d c h o ⊢
 clear l;have t:=aU f;have y:=aU e;have r:=aU d;have m:=aU c;have kk:=aU h;clear f e d c h;refine aG ?_;repeat(first|go_big_quiet_skip|(go_big_quiet_want;first|(fail;go_frame;go_big_quiet_on)|(go_big_quiet_op;first|go_big_quiet_on|go_big_quiet_call ((first|(go_at_call_of 197 (Value.agg #[Value.int .u64 x.c,Value.int .u64 x.k]);exact xl (j _))|(go_at_call 197;exact xl (k _))|(go_at_call 146;exact xl ((i _).mono fun _ _ ⟨A,q⟩=>⟨A,by subst q;exact zf _ _⟩)))))))
 refine aE ?_;intro W' hC' hBW';have s:=zK g hBW';clear t y r m kk hC' j k i;go_wp2_with fail;go_ret;exact⟨rfl,s⟩
theorem zgI{w:zC}{b a n cap:Nat}{l:List zF}(g:zc 2 zn w (.slice (some (b,a)) n cap) l){k:Nat}{x:zF}(d:l[k]?=some x):
 n=l.length/\b<w/\w.cell? (b,a+k*2)=x.c/\w.cell? (b,a+k*2+1)=x.k:=by
 rcases g with⟨c,_⟩|⟨i,j,h,c,_,f,e⟩
 ·cases c
 ·cases c;exact⟨rfl,f,e k x d 0 _ rfl,e k x d 1 _ rfl⟩
def zlc(w:zC)(e:Ending)(w':zC):Prop:=e=jB/\Below w w w'
theorem zxB (p:Option Addr) (cap d:Nat) (l:List zF) (w:zC) (y:zc 2 zn w (.slice p l.length cap) l) (z:l.Pairwise fun c f=>c.c<f.c) (Y:l.length<=100000)
 (K:w.cell? d=some (.func (.func 197) #[] #[])) (A:d<w):
 Calls zD 310 #[.slice p l.length cap,zB 0,zB l.length,.func (.func 243) #[] #[d]] w (zlc w):=by
 have L:=zA z;clear z;go_enter Tryz.func310,Tryz.ntmps310;go_wp2;go_loopw [8] (fun a wr=>∃k:Nat,1<=k/\k<=l.length+1/\a=zB k/\Below w w wr) (fun a _=>l.length+1 - (intOf a).toNat);case atStart=>exact⟨1,zU _,oa,rfl,zf _ _⟩
 case round=>
  obtain⟨k,W,O,rfl,s⟩:=hrel;by_cases g:k<l.length
  ·have X:(k:Int)<(l.length:Int):=(by omega);obtain⟨B,n,rfl⟩:∃B n,p=some ⟨B,n,none⟩:=by
    rcases y with⟨_,h⟩|⟨Z,n,_,h,_⟩
    ·rw[h] at g;simp at g
    ·cases h;exact⟨_,_,rfl⟩
   obtain⟨a,rfl⟩:∃a,k=a+1:=⟨k - 1,oa⟩;go_upto_region 3 with fail;go_wp2_with fail;obtain⟨ab,rfl⟩:=aX wr;go_loopw [9] (fun M wx=>M=zB ((a+1:Nat):Int)/\Below w w wx) (fun _ _=>0);case atStart=>exact⟨rfl,s⟩
   case round=>
    obtain⟨rfl,e⟩:=hrel;have o:=y.below e;obtain⟨_,aa,r,q⟩:=zgI o (k:=a+1) (x:=l[a+1]) oh;obtain⟨_,_,j,i⟩:=zgI o (k:=a) (x:=l[a]'(oa)) oh;have u:(l[a]'(oa)).c<l[a+1].c:=zbi.1 L.o a (a+1) oa g oa;have C:=(e.cell (p:=d) A).trans K;have E:=zg A e.size;generalize l[a+1]=c at r q u;generalize l[a]'(oa)=f at j i u;have t:decide (jv c.c f.c<0)=false:=(by simp[zif];omega);have H:=aU r;have J:=aU q;have G:=aU j;have D:=aU i;have kk:=aU C;have v:∀b:zM wr,d<b.val.heap.size:=fun b=>zg E b.h.size;have F:decide ((0:Int)<((a+1:Nat):Int))=true:=oh;have T:a+1<l.length:=g;have V:(0:Int)<=(a:Int):=oa;clear r q j i o C;generalize x:jv c.c f.c=R at t;have I:=zA x;clear x;have m:=fun(b:zM wr)=>zxA d c f b.val (kk b) (v b);rw[I.o] at m;clear v;go_wp2_with fail;refine aG ?_;repeat(first|go_big_quiet_skip|(go_big_quiet_want;first|(fail;go_frame;go_big_quiet_on)|(go_big_quiet_op;first|go_big_quiet_on|go_big_quiet_call ((go_at_call 243;exact xl (m _))))))
    refine aE ?_;intro W' hC' hBW';have N:=e.trans (hBW'.mono e.size);clear H J G D kk m hC' hBW' t F;go_wp2_with fail;go_roundw;case rel=>exact⟨a+1+1,oa,oa,ou,N⟩
    case measure=>simp[intOf];omega
  ·go_wp2_with fail;go_end0;exact⟨rfl,s⟩
theorem zxC (p:Option Addr) (cap a:Nat) (l:List zF) (w:zC) (d:zc 2 zn w (.slice p l.length cap) l) (e:l.Pairwise fun i m=>i.c<m.c) (q:l.length<=19)
 (f:w.cell? a=some (.func (.func 197) #[] #[])) (j:a<w):
 Calls zD 283 #[.slice p l.length cap,zB l.length,.func (.func 243) #[] #[a]] w (zlc w):=by
 have c:=zxB p cap a l w d e oa f j;have n:(l.length:Int)<20:=oa;clear e d f;go_enter Tryz.func283,Tryz.ntmps283;go_wp2;go_loopw [7,8] (fun b k wr=>b=zB 0/\k=zB 20/\wr=w) (fun _ _ _=>0);case atStart=>exact⟨rfl,rfl,rfl⟩
 case round=>
  obtain⟨rfl,rfl,rfl⟩:=hrel;go_wp2_with (go_at_call 310;refine c.mono ?_;rintro o h ⟨rfl,g⟩);clear c;go_loopw [6] (fun b wx=>b=zB 20/\wx=h) (fun _ _=>0);case atStart=>exact⟨rfl,rfl⟩
  case round=>obtain⟨rfl,rfl⟩:=hrel;go_wp2_with fail;go_end0;exact⟨rfl,g⟩
theorem zxD (p:Option Addr) (cap a:Nat) (l:List zF) (w:zC) (c:zc 2 zn w (.slice p l.length cap) l) (d:l.Pairwise fun f e=>f.c<e.c) (i:l.length<=19)
 (b:w.cell? a=some (.func (.func 197) #[] #[])) (g:a<w):
 Calls zD 242 #[.slice p l.length cap,.func (.func 243) #[] #[a]] w (zlc w):=by
 have j:=zxC p cap a l w c d i b g;clear d c b;go_enter Tryz.func242,Tryz.ntmps242;go_wp2_with (go_at_call 283;refine j.mono ?_;rintro k m ⟨rfl,h⟩);go_end0;exact⟨rfl,h⟩
theorem zxE(i:zJ)(l:List zF)(w:zC)(p:zc 2 zn w i l)(B:l.length<=100000):
 Calls zD 241 #[i] w (qH fun d b=>zG w 179 2 zn b d l/\Below w w b):=by
 obtain⟨v,s,z,r,u⟩:=yI ziM;rcases p with⟨rfl,rfl⟩|⟨x,c,y,rfl,C,e,m⟩
 ·refine(AnyE.slices_Clone_nil Tryz.cloneClk 0 0 w).mono ?_;rintro q b ⟨rfl,rfl⟩;exact⟨_,rfl,zG.nil,zf _ _⟩
 ·refine(AnyE.slices_Clone Tryz.cloneClk v (.agg #[zT.c,zT.k]) 2 16 s z r u rfl ol (fun w=>oe) x c l.length y (l.flatMap zn) w (qy (enc:=zn) (k:=2) (fun _=>rfl) l) oP oa ?_ ?_).mono ?_
  ·intro a j f;have A:a<l.length*2:=(by have:=(zw.1 f).1;rwa[qy (enc:=zn) (k:=2) (fun _=>rfl)] at this);have g:=jo (enc:=zn) (k:=2) (fun _=>rfl) l (a / 2) (a % 2) l[a / 2] (by simp[show a / 2<l.length by omega]) (zaH _ oa);rw[show a / 2*2+a % 2=a by omega,f] at g;have n:=m (a / 2) l[a / 2] (by simp[show a / 2<l.length by omega]) (a % 2) j g.symm;rwa[show c+a / 2*2+a % 2=c+a by omega] at n
  ·intro j o;obtain⟨D,_,h⟩:=zdV.1 o;simp[zn] at h;rcases h with rfl|rfl<;> rfl
  ·rintro q b ⟨d,rfl,t,_,e⟩;exact⟨d,rfl,t,e⟩
theorem zxF(e:zJ)(l:List zF)(w:zC)(y:zc 2 zn w e l)(o:l.Pairwise fun B D=>B.c<D.c)(z:l.length<=19):
 Calls zD 196 #[e,.func (.func 197) #[] #[]] w (qH fun m h=>zG w 179 2 zn h m l/\Below w w h):=by
 have E:=zA o;clear o;go_enter Tryz.func196,Tryz.ntmps196;go_upto_region 1 with fail;have f:Below w w (w.alloc (.cells #[.func (.func 197) #[] #[]] 265)):=aA;have g:(w.alloc (.cells #[.func (.func 197) #[] #[]] 265)).cell? w=some (.func (.func 197) #[] #[]):=oS;have v:(w.alloc (.cells #[.func (.func 197) #[] #[]] 265)).heap.size=w+1:=oh;obtain⟨A,t⟩:=aY (w.alloc (.cells #[.func (.func 197) #[] #[]] 265));try simp only[t] at f g v ⊢
 clear t;have j:=zxE e l A (y.below f) oa;go_upto_region 2 with(go_at_call 241;refine j.mono ?_;rintro c s ⟨m,rfl,a,b⟩;obtain⟨d,r,rfl⟩:=ys a);have i:=(b.cell (p:=w) oq).trans g;have G:=b.size;have u:w.heap.size<s.heap.size:=oa;have q:=zxD d r w l s (zG.slice (k:=2) (enc:=zn) (fun _=>rfl) a) E.o z i u;clear j g i;go_wp2_with (go_at_call 242;refine q.mono ?_;rintro c x ⟨rfl,n⟩);have F:=zK (zK f b) n;have C:zG w 179 2 zn x (.slice d l.length r) l:=zaE (xI a fun p c=>n.block p (xJ a p c)) oa;clear q;go_ret;exact⟨_,rfl,C,F⟩
theorem zld(V:Value)(l:List zF)(w:World)(ab:zc 2 zn w V l)(G:zax l)(aZ:l.length<=19):
 Calls Tryz.prog 130 #[V] w (qH fun v Z=>zG w.heap.size 179 2 zn Z v l/\Below w.heap.size w Z):=by
 obtain⟨an,ac,ad,af,ag⟩:=yI ziM;have X:=zxF V l w ab G.ord aZ;have al:=zA G;clear G ab;go_enter Tryz.func130,Tryz.ntmps130;go_upto_region 3 with(go_at_call 196;refine X.mono ?_;rintro e q ⟨bs,rfl,M,ae⟩;obtain⟨p,ai,rfl⟩:=ys M);have a1:zc 2 zn q (.slice p l.length ai) l:=zG.slice (k:=2) (enc:=zn) (fun _=>rfl) M;clear X M;obtain⟨d,aa⟩:=aY q.heap.size;have ao:=zA aa;have aj:w<=d:=by have:=ae.size;omega
 clear aa;go_loopw [3,10] (fun au b wr=>∃k:Nat,k<=l.length/\b=zB k/\zG d 179 2 zn wr au (l.take k)/\Below d q wr) (fun _ b _=>l.length - (intOf b).toNat);case atStart=>exact⟨0,xO _,rfl,zG.nil,zf _ _⟩
 case round=>
  obtain⟨k,bj,rfl,f,hb⟩:=hrel;by_cases s:k<l.length
  ·have aP:(k:Int)<(l.length:Int):=(by omega);have ap:=a1.keep oao fun c C bt bg e s=>hb.block c (by rw[<-ao.o];exact s);obtain⟨c,C,rfl⟩:∃c C,p=some ⟨c,C,none⟩:=by
    rcases ap with⟨_,h⟩|⟨bb,C,_,h,_⟩
    ·rw[h] at s;simp at s
    ·cases h;exact⟨_,_,rfl⟩
   obtain⟨_,bi,a0,a5⟩:=zgI ap (k:=k) (x:=l[k]) oh;obtain⟨aw,aH,a4,a6⟩:=al.o.ok l[k] oh;have ak:l.take (k+1)=l.take k++[l[k]]:=j1 s;have L:=zA ak;have I:(l.take k).length=k:=oaa;have E:∀b,b<k->∀m,(l.take k)[b]?=some m->m.c<l[k].c:=fun b Y m t=>(by rw[zdY Y] at t;obtain⟨h1,rfl⟩:=zw.1 t;exact zbi.1 al.o.ord b k h1 s Y);clear ak;generalize l[k]=a at a0 a5 aw aH a4 a6 L E;obtain⟨j,R⟩:=aY (l.take k);rw[R] at f I E;have am:=zA R;have az:=zA E;have F:=zA I;clear R E I;obtain⟨D,r,rfl⟩:=ys f;have bp:decide (a.c<1)=false:=oi;have bd:decide (9007199254740991<a.c)=false:=oi;have a8:decide (a.k<1)=false:=oi;have bh:min a.k 9007199254740991=a.k:=oa;have B:d<=wr:=(by have:=hb.size;have:=ao.o;omega);rw[F.o] at f ⊢;rcases zhb k with ay|bm
   ·have bf:(k:Int)<1:=(by omega);have ba:(0:Int)<=(k:Int):=oa;have bc:decide ((1:Int)<=(k:Int))=false:=oi;have br:decide ((0:Int)<=(k:Int) - 1)=false:=oi;clear ay;go_upto_region 8 with fail;have o:Below wr wr (wr.alloc (.cells #[a.c,a.k] 179)):=aA;have H:∀z:zM (wr.alloc (.cells #[a.c,a.k] 179)),z.val.cell? wr=a.c:=zM.cell oh oS;refine aQ ?_;intro W' hC' hBW';have W:(wr.alloc (.cells #[a.c,a.k] 179)).heap.size=wr+1:=oh;have n:Below wr wr W':=o.trans (hBW'.mono o.size);have T:W'.cell? wr=a.c:=(hBW'.cell (p:=wr) obe).trans oS;have K:W'.cell? (wr,1)=a.k:=(hBW'.cell (p:=(wr,1)) obe).trans oS;have x:zG d 179 2 zn W' (Value.slice D k r) j:=xI f fun c e=>n.block c (xJ f c e);have A:Below d q W':=hb.trans (n.mono B);have J:d<=W':=zk B n.size;have i:∀c,(Value.slice D k r).ownBlock=some c->d<=c:=fun c e=>(ya f c e).1;have a3:j.length<=19:=(by rw[F.o];omega);clear H hC' hBW' o W n;go_wp2_with (at_builtin;refine jL _ rfl _ _ 91 rfl d 179 an (.agg #[zT.c,zT.k]) 2 16 zhd ac ad af ag rfl ol _ _ _ rfl (show World.ownsRow _ d 179 2 (Value.slice D k r) j.length (j.flatMap zn) from zbn x _) W' 1 1 (zn a) rfl rfl ?g1 ?g2 ?g3 ?g4 ?g5 ?_);case g1=>exact fun _ _ i=>i
    case g2=>intro av i;simp[zn] at i;rcases i with rfl|rfl<;> rfl
    case g3=>unfold maxLen;omega
    case g4=>omega
    case g5=>first|omega|(simp;omega)
    intro v' w3 y u _ _;have O:Below d q w3:=(A.alloc J _).grown u oi (fun c e=>i c e);have N:zG d 179 2 zn w3 v' (j++[a]):=(by unfold zG;rw[xY,qe];simpa using y);clear y u x A T K f hb;go_wp2_with fail;go_roundw;case rel=>exact⟨k+1,oa,ou,by rw[L.o,am.o];exact N,O⟩
    case measure=>simp[intOf];omega
   ·obtain⟨b,rfl⟩:∃b,k=b+1:=⟨k - 1,oa⟩;obtain⟨m,t⟩:∃m,j[b]?=some m:=⟨j[b]'(by rw[F.o];omega),oh⟩;have bo:=az.o b oa m t;obtain⟨g,rfl⟩:∃g,D=some ⟨g,0,none⟩:=by
     rcases f.2 with⟨e,_⟩|⟨g,ai,bl,e,_⟩
     ·have bn:=Value.slice.inj e;omega
     ·exact⟨g,(Value.slice.inj e).1⟩
    have ax:g<wr.heap.size:=xJ f g rfl;obtain⟨ar,_,ah,_⟩:=zgI (zG.slice (k:=2) (enc:=zn) (fun _=>rfl) f) t;clear ar;rw[qr] at ah;have be:(m.c==a.c)=false:=oi;have bq:(b:Int)<((b+1:Nat):Int):=oa;go_upto_region 8 with fail;have a2:(wr.alloc (.cells #[a.c,a.k] 179)).cell? (g,b*2)=m.c:=((aA:Below wr wr _).cell (p:=(g,b*2)) ax).trans ah;have a7:∀z:zM (wr.alloc (.cells #[a.c,a.k] 179)),z.val.cell? (g,b*2)=m.c:=zM.cell (by show g<_;simp;omega) a2;have a9:(0:Int)<=(b:Int):=oa;have o:Below wr wr (wr.alloc (.cells #[a.c,a.k] 179)):=aA;have H:∀z:zM (wr.alloc (.cells #[a.c,a.k] 179)),z.val.cell? wr=a.c:=zM.cell oh oS;refine aQ ?_;intro W' hC' hBW';have W:(wr.alloc (.cells #[a.c,a.k] 179)).heap.size=wr+1:=oh;have n:Below wr wr W':=o.trans (hBW'.mono o.size);have T:W'.cell? wr=a.c:=(hBW'.cell (p:=wr) obe).trans oS;have K:W'.cell? (wr,1)=a.k:=(hBW'.cell (p:=(wr,1)) obe).trans oS;have x:zG d 179 2 zn W' (Value.slice (some g) (b+1) r) j:=xI f fun c e=>n.block c (xJ f c e);have A:Below d q W':=hb.trans (n.mono B);have J:d<=W':=zk B n.size;have i:∀c,(Value.slice (some g) (b+1) r).ownBlock=some c->d<=c:=fun c e=>(ya f c e).1;have a3:j.length<=19:=(by rw[F.o];omega);clear H hC' hBW' o W n;go_wp2_with (at_builtin;refine jL _ rfl _ _ 91 rfl d 179 an (.agg #[zT.c,zT.k]) 2 16 zhd ac ad af ag rfl ol _ _ _ rfl (show World.ownsRow _ d 179 2 (Value.slice (some g) (b+1) r) j.length (j.flatMap zn) from zbn x _) W' 1 1 (zn a) rfl rfl ?h1 ?h2 ?h3 ?h4 ?h5 ?_);case h1=>exact fun _ _ i=>i
    case h2=>intro av i;simp[zn] at i;rcases i with rfl|rfl<;> rfl
    case h3=>unfold maxLen;omega
    case h4=>omega
    case h5=>first|omega|(simp;omega)
    intro v' w3 y u _ _;have O:Below d q w3:=(A.alloc J _).grown u oi (fun c e=>i c e);have N:zG d 179 2 zn w3 v' (j++[a]):=(by unfold zG;rw[xY,qe];simpa using y);clear y u x A T K f hb;go_wp2_with fail;go_roundw;case rel=>exact⟨b+1+1,oa,ou,by rw[L.o,am.o];exact N,O⟩
    case measure=>simp[intOf];omega
  ·obtain rfl:k=l.length:=(by omega);have aP:¬(l.length:Int)<(l.length:Int):=oa;rw[qJ] at f;have aq:Below w w wr:=ae.trans (hb.mono aj);go_wp2_with fail;go_ret;exact⟨_,rfl,zaE f aj,aq⟩
def qS(l:List zF)(c:Int):Int:=match l.find? fun x=>decide (x.c=c) with
 |some x=>x.k
 |none=>0
theorem zxG{l:List zF}{c:Int}{k:Nat}{x:zF}(g:l[k]?=some x)(i:x.c=c)(h:∀a,a<k->∀b,l[a]?=some b->b.c≠c):qS l c=x.k:=by
 unfold qS;have:l.find? (fun x=>decide (x.c=c))=some x:=by rw[List.find?_eq_some_iff_getElem];obtain⟨f,d⟩:=zw.1 g;refine⟨by simpa using i,k,f,d,fun a e=> ?_⟩;have:=h a e (l[a]'(oa)) oh;simpa using this
 rw[this]
theorem zxH{l:List zF}{c:Int}(g:∀a,a<l.length->∀e,l[a]?=some e->e.c≠c):qS l c=0:=by
 unfold qS;have:l.find? (fun b=>decide (b.c=c))=none:=by rw[zcL];intro b f;obtain⟨a,d⟩:=zcr.1 f;have:=g a (zw.1 d).1 b d;simpa using this
 rw[this]
theorem zxI(t:zJ)(l:List zF)(c:Int)(w:zC)(E:zc 2 zn w t l)(z:zax l)(V:l.length<=19):
 Calls zD 57 #[t,c] w fun D N=>D=(qS l c)/\Below w w N:=by
 have C:=zld t l w E z V;have J:=fun a b=> @zxG l c a b;have A:= @zxH l c;have H:=zA J;have K:=zA A;clear J A;generalize qS l c=ad at H K ⊢;clear E z;go_enter Tryz.func57,Tryz.ntmps57;go_upto_region 2 with(go_at_call 130;refine C.mono ?_;rintro D h ⟨aa,rfl,r,k⟩;obtain⟨I,Z,rfl⟩:=ys r);have O:zc 2 zn h (.slice I l.length Z) l:=zG.slice (k:=2) (enc:=zn) (fun _=>rfl) r;clear C r;go_loopw [10] (fun q wr=>∃a:Nat,a<=l.length/\q=zB a/\(∀e,e<a->∀i,l[e]?=some i->i.c≠c)/\Below h h wr) (fun q _=>l.length - (intOf q).toNat);case atStart=>exact⟨0,xO _,rfl,fun e y=>absurd y (jN _),zf _ _⟩
 case round=>
  obtain⟨a,ac,rfl,F,d⟩:=hrel;have u:=zA F;clear F;by_cases B:a<l.length
  ·have T:(a:Int)<(l.length:Int):=(by omega);have v:=O.below d;obtain⟨G,n,rfl⟩:∃G n,I=some ⟨G,n,none⟩:=by
    rcases v with⟨_,o⟩|⟨ab,n,_,o,_⟩
    ·rw[o] at B;simp at B
    ·cases o;exact⟨_,_,rfl⟩
   obtain⟨R,_,X,W⟩:=zgI v (k:=a) (x:=l[a]) oh;clear R;have s:l[a]?=some l[a]:=oh;generalize l[a]=b at X W s;have x:=zA s;clear s v;by_cases f:b.c=c
   ·have Y:(b.c==c)=true:=(by simpa using f);have j:=zA (H.o a b x.o f u.o);have g:Below w w (wr.alloc (.cells #[b.c,b.k] 179)):=(zK k d).alloc (by have:=k.size;have:=d.size;omega) _;clear f;go_wp2_with fail;go_ret;exact⟨(congrArg (fun m=>Ending.returned (.int .u64 m)) j.o).symm,g⟩
   ·have Y:(b.c==c)=false:=(by simpa using f);have g:Below h h (wr.alloc (.cells #[b.c,b.k] 179)):=d.alloc oax _;have L:=zA f;clear f;go_wp2_with fail;go_roundw;case rel=>
     refine⟨a+1,oa,ou,fun e y i p=> ?_,g⟩
     by_cases M:e=a
     ·subst M;rw[x.o] at p;cases p;exact L.o
     ·exact u.o e oa i p
    case measure=>simp[intOf];omega
  ·obtain rfl:a=l.length:=(by omega);have T:¬(l.length:Int)<(l.length:Int):=oa;have j:=zA (K.o u.o);have g:=zK k d;go_wp2_with fail;go_ret;exact⟨(congrArg (fun m=>Ending.returned (.int .u64 m)) j.o).symm,g⟩
theorem zqa (o:zQ) (w:zC) (W:∀w,zv w->Calls zD 159 #[zS o] w fun a t=>a= .returned (.tuple #[zS o,.bool true])/\Below w w t)
 (B:o.id.rightB=true) (ao:o.id.k+o.len<=9007199254740992) (av:o.text.size<=1000000000000) (L:o.names.any (vD o.rng)=false) (m:zv w):
 Calls zD 88 #[zS o] w fun a t=>a=(zB 0)/\Below w w t:=by
 have M:=znN o;have u:=zcg o.id;have aw:1<=o.id.k:=by have:=B;simp[zF.rightB,xi] at this;omega
 rw[B] at u;have l:=fun w m=>zcz o w oa oa oa m;have Z:=zkK o;have p:=fun am aj w h ak=>zl4 o.rng am aj o.names w h ak (by simp[zQ.names]);rw[L] at p;have z:=zA p;clear L p B;have ar:0<=(o.len:Int):=oa;unfold zQ.rng at z l;generalize(o.len:Int)=i at ao l z ar;change Calls zD 88 #[.agg #[o.id.c,o.id.k,zB o.kind,o.stamp,o.left.c,o.left.k,o.right.c,o.right.k,.string o.text,zB o.v.kind,zB o.v.n,.float .f64 o.v.f,.string o.v.s,.string o.key,o.parent.c,o.parent.k,o.frm.c,o.frm.k,.bool o.frmA,o.til.c,o.til.k,.bool o.tilA]] w _;go_enter Tryz.func88,Tryz.ntmps88;go_upto_region 1 with fail;refine vr o fun al F f=> ?_;go_wp2_with (refine xv (T:=66) (v:=zS o) rfl rfl rfl f.load ?_);refine(W _ (m.below F)).mono ?_;rintro a c ⟨rfl,x⟩;have r:=f.below x f.lt;have V:=zK F x;clear W f x F al;have E:=zR.new c zi;have ab:=zA (E.put o);have K:=zA (yo ((zf c c).alloc (zU _) (.cells (ze zi).toArray 66)) (zU _) o);go_upto_region 2 with(refine yx (T:=66) (v:=zS o) rfl rfl rfl rfl (zR.store E o) ?_);have q:=ab.o;have k:=K.o;obtain⟨af,Y⟩:=aY (xx (c.alloc (.cells (ze zi).toArray 66)) c o);rw[Y] at q k ⊢;have j:=r.below k r.lt;have J:=zK V k;clear Y ab K E r V;go_wp2_with (first|(refine zdh 66 c rfl rfl q.load (by rfl) ?_)|(refine zdh 66 w rfl rfl j.load (by rfl) ?_));refine(M _).mono ?_;rintro a w3 ⟨rfl,G⟩;have e:=j.below G j.lt;have R:=zK J G;have aq:w3.cell? w=o.id.c:=e.cells 0 _ rfl;have ai:w3.cell? (w,1)=o.id.k:=e.cells 1 _ rfl;clear M j q k G J af;go_wp2_with fail;refine(u _).mono ?_;rintro a ac ⟨rfl,C⟩;have g:=e.below C e.lt;have y:=zK R C;clear aq ai u e R C w3;go_wp2_with (refine xv (T:=66) (v:=zS o) rfl rfl rfl g.load ?_);refine(l _ (m.below y)).mono ?_;rintro a b ⟨rfl,D⟩;have s:=g.below D g.lt;have X:=zK y D;clear l g y D ac;go_upto_region 5 with fail;have d:yF (b.alloc (.cells #[o.id.c,o.id.k,(o.id.k+i:)] 154)) b.heap.size ⟨o.id.c,o.id.k,o.id.k+i⟩:=vi b _;have n:Below b b (b.alloc (.cells #[o.id.c,o.id.k,(o.id.k+i:)] 154)):=aA;obtain⟨w6,N⟩:=aY (b.alloc (.cells #[o.id.c,o.id.k,(o.id.k+i:)] 154));rw[N] at d n ⊢;have O:=s.below n s.lt;have I:=zK X n;have an:=d.cells.2.2;clear N s X n;go_wp2_with (refine xv (T:=66) (v:=zS o) rfl rfl rfl O.load ?_);refine zbm (Z _) ?_;rintro a ae ⟨ag,rfl,A,_,aa⟩;have H:=d.below A d.lt;have ad:=zK I A;have ah:=z.o b ag ae H aa;clear Z d O I A an aa H;go_wp2_with fail;refine zbm ah ?_;rintro a au ⟨rfl,ap⟩;go_wp2_with fail;go_ret;exact⟨rfl,zK ad ap⟩
theorem zl9 {P:Program}{w:zC}{b:Array Oper}{c:List Oper}{o:Oper}{a:Act}{Q:Exit->Act->World->Prop}(g:o.guard=none) (x:Operand) (t:TypeId)
 (f:o.op= .call {callee:= .builtin .clear,args:=#[x],argTypes:=#[t]}) (v:zJ) (j:a.eval x=v){u:zJ}{w':zC}(i:∀d,(Builtin.clear_ #[t] d #[v]).run P w= .ok u w') (e:wpList P b Q c (a.put o.dst u) w'):wpList P b Q (o::c) a w:=by
 refine zdW g fun k h=> ?_;unfold Oper.wp execOp;simp only[f,resolve,invoke,builtin,yU,qI,yY,zg8,xd,yl,j,i];exact h _ _ e
def zaW(o:zQ)(x:zF):Bool:=decide (x=zT) || decide (x.c=o.id.c)
theorem zm1(x:zF)(o:zQ)(b:Nat)(w:zC)(f:zR w b o):
 Calls zD 218 #[.agg #[x.c,x.k],b] w fun j i=>j= .returned (.bool (zaW o x))/\Below w w i:=by
 have e:=zc0 x zT;unfold zT at e;have g:w.cell? b=o.id.c:=f.cells 0 _ rfl;unfold zaW;by_cases a:x=zT
 ·have d:decide (x=⟨0,0⟩)=true:=zeX a;rw[d] at e;have c:qP ((decide (x=zT) || decide (x.c=o.id.c))=true):=zA (by simp[a]);rw[c.o];clear a c;go_enter zjp,Tryz.ntmps218;go_wp2;go_ret;exact⟨rfl,aB⟩
 ·have d:decide (x=⟨0,0⟩)=false:=zhZ a;rw[d] at e;have c:qP ((decide (x=zT) || decide (x.c=o.id.c))=decide (x.c=o.id.c)):=zA (by simp[a]);rw[c.o];have k:=f.lt;have g:(w.alloc (.cells #[x.c,x.k] 62)).cell? b=o.id.c:=(((zf w w).alloc (zU _) _).cell (p:=b) k).trans g;clear a c d;go_enter zjp,Tryz.ntmps218;go_wp2;go_ret;exact⟨congrArg (fun h=>Ending.returned (.bool h)) (by rw[zaK];simp),aB⟩
theorem zsv(o:zQ)(b:Nat)(w:zC)(d:zR w b o):PredBelow zD 218 #[b] (fun a=> .agg (zn a).toArray) (zaW o) w:=by intro e a c;refine(zm1 a o b e (d.below c d.lt)).mono ?_;exact fun i h ⟨f,g⟩=>⟨f,c.trans (g.mono c.size)⟩
def zgs:List zF:= [zT,zT,zT,zT,zT]
def zeG:List Value:=zgs.flatMap zn
def zQ.free(o:zQ):Prop:=o.names=zgs
def zsw(w:zC)(e:Ending)(w':zC):Prop:=∃b,e= .returned (.slice (some ⟨b,0,none⟩) 0 5)/\Below w w w'
theorem zsx(e:zJ)(b:Nat)(w:zC)(g:FuncId)(d:Array Value)(h:e= .func (.func g) #[] d):
 Calls zD 164 #[.slice (some b) 0 5,e] w fun a c=>a= .returned (.bool false)/\w=c:=by
 subst h;have i:Calls zD 214 #[.slice (some b) 0 5,.func (.func g) #[] d] w fun a c=>a=(zB (-1))/\w=c:=by
  go_enter Tryz.func214,Tryz.ntmps214;go_wp2;go_loopw [8] (fun f wr=>f=zB 0/\wr=w) (fun _ _=>0);case atStart=>exact⟨rfl,rfl⟩
  case round=>obtain⟨rfl,rfl⟩:=hrel;go_wp2;go_ret;exact⟨rfl,rfl⟩
 go_enter Tryz.func164,Tryz.ntmps164;go_wp2_with (go_at_call 214;refine i.mono ?_;rintro a j ⟨rfl,rfl⟩);go_ret;exact⟨rfl,rfl⟩
def zQ.own(o:zQ):Prop:=∀x∈o.names,zaW o x=true
theorem zQ.free.own{o:zQ}(b:o.free):o.own:=by intro c a;rw[b] at a;simp[zgs] at a;simp[zaW,a]
theorem zsy(l:List zF)(r:l.length=5)(o:zQ)(q:∀e∈l,zaW o e=true)(b c:Nat)(w:zC)(n:zR w b o)(h:w.heap[c]?=some (.cells (l.flatMap zn).toArray 62 (0,0))):
 Calls zD 214 #[.slice (some c) 5 5,.func (.func 218) #[] #[b]] w fun i g=>i=(zB 0)/\Below w w g:=by
 have:=AnyQ.slices_IndexFunc Tryz.indexId 2 (fun w=>oe) (fun w=>oe) zn (fun _=>rfl) (zaW o) 218 #[b] (enters_of zjp oe rfl) c 0 5 5 l w (zsv o b w n) oa oa (aL h)
  (fun d x a y j=>by have s:a<2:=(zw.1 j).1;have u:d<l.length:=oa;have f:=jo (enc:=zn) (k:=2) (fun _=>rfl) l d a l[d] oh s;rw[World.cell?,h];simp only[zcG,jW,jX,qr,zfU];rw[f];simpa[u] using j)
 have p:idxBy (fun _ v=>zaW o v) (l.take 5) default=0:=by
  rw[zaX oa];match l,r with
  |e::t,_=>simp[idxBy,idxByFrom,q e oh]
 exact this.mono fun i g ⟨f,k⟩=>⟨by rw[f];exact congrArg (fun m=>Ending.returned (zB m)) p,k⟩
theorem zsz(l:List zF)(g:l.length=5)(o:zQ)(r:∀c∈l,zaW o c=true)(b d:Nat)(w:zC)(j:zR w b o)(q:w.heap[d]?=some (.cells (l.flatMap zn).toArray 62 (0,0))):
 Calls zD 217 #[.slice (some d) 5 5,.func (.func 218) #[] #[b]] w fun k p=>k= .returned (.slice (some d) 0 5)/\Mods (fun a=>a=d) w p:=by
 have u:=zsy l g o r b d w j q;have M:∀c∈l,∀w,zR w b o->Calls zD 218 #[.agg #[c.c,c.k],b] w fun k p=>k= .returned (.bool true)/\Below w w p:=fun c h w j=>by have:=zm1 c o b w j;rwa[r c h] at this
 have T:=zA g;have Y:(l.flatMap zn).length=10:=by rw[qy (enc:=zn) (k:=2) (fun _=>rfl),g]
 have A:=zA q;clear q g r;go_enter Tryz.func217,Tryz.ntmps217;go_upto_region 5 with(go_at_call 214;refine u.mono ?_;rintro k ab ⟨rfl,x⟩);have G:d<w:=aL A.o;clear u;go_loopw [5,6] (fun J f wr=>∃a:Nat,a<=5/\J=zB 0/\f=zB a/\Below w w wr) (fun _ f _=>5 - (intOf f).toNat);case atStart=>exact⟨1,oa,rfl,rfl,x⟩
 case round=>
  clear x;obtain⟨a,z,rfl,rfl,n⟩:=hrel;have m:wr.heap[d]?=some (.cells (l.flatMap zn).toArray 62 (0,0)):=(n.block d G).trans A.o;by_cases aa:a<5
  ·have K:(a:Int)<5:=(by omega);have g:=T.o;have s:a<l.length:=oa;obtain⟨c,h⟩:∃c,l[a]?=some c:=⟨l[a],xG s⟩;have L:c∈l:=xn h;have ac:wr.cell? (d,a*2)=c.c:=(by have e:=jo (enc:=zn) (k:=2) (fun _=>rfl) l a 0 c h oa;simp only[jD] at e;simp[World.cell?,m,e,zn]);have Z:wr.cell? (d,a*2+1)=c.k:=(by have e:=jo (enc:=zn) (k:=2) (fun _=>rfl) l a 1 c h oa;simp[World.cell?,m,e,zn]);clear g s h;have F:w.heap.size<=wr.heap.size:=n.size;have v:Below w w (wr.alloc (.cells #[c.c,c.k] 62)):=n.alloc F _;have C:=M c L (wr.alloc (.cells #[c.c,c.k] 62)) (j.below v j.lt);clear m;go_wp2_with (go_at_call 218;refine C.mono ?_;rintro k ad ⟨rfl,R⟩);exact⟨⟨a+1,oa,rfl,ou,zK v R⟩,oY⟩
  ·obtain rfl:a=5:=(by omega);have K:¬(5:Int)<5:=oa;have H:∀y,(Builtin.clear_ #[76] y #[.slice (some d) 5 5]).run zD wr= .ok (.tuple #[]) (wr.setCells d 0 zeG):=by
    intro y;have X:=run_storeCells_cells (P:=zD) d 0 zeG 0 wr (fun f B=>by
     have e:zeG.length=10:=rfl;have:f<(l.flatMap zn).length:=oa;simp only[World.cell?,m,zcG,jW,jX,qr,zfU,xG this];rfl) (fun f B=>by simp[World.frozen?,m]) (by
     have e:zeG.all (·.oneCell')=true:=ol;exact zaq.1 e)
    have W:∀w,(zeroValue 62).run zD w= .ok (.agg #[zH,zH]) w:=fun w=>oe;have D:(Builtin.zeroCells (Value.agg #[zH,zH]).cells 5).toList=zeG:=oe;simp[Builtin.clear_,jM zjq,W,D,X]
   go_wp2_with (refine zl9 rfl _ _ rfl _ rfl H ?_);go_ret;obtain⟨V,O,I,N,E⟩:=zdo d zeG 0 wr;have i:=Mods.of_below (S:=fun a=>a=d) n;exact⟨rfl,⟨I.trans i.os,N.trans i.tape,E.trans i.output,(by rw[O];exact i.size),fun a z t=>(V a t).trans (i.block a z t)⟩⟩
theorem zs0(o:zQ)(e:o.own)(w:zC):Calls zD 170 #[zS o] w (zsw w):=by have j:=zkK o;have l:=zA e;clear e;unfold zS;go_enter Tryz.func170,Tryz.ntmps170;go_upto_region 1 with fail;refine vr o fun q m b=> ?_;go_wp2_with (first|(refine xv (T:=66) (v:=zS o) rfl rfl rfl b.load ?_)|(go_at_call 165;refine(j _).mono ?_;rintro h n ⟨d,rfl,c,r,f⟩));have i:=zsz o.names rfl o l.o w d n (b.below c b.lt) f;go_wp2_with (go_at_call 217;refine i.mono ?_;rintro h p ⟨rfl,a⟩);go_ret;exact⟨d,rfl,zK m ((c.trans ⟨a.os,a.tape,a.output,a.size,fun g k=>a.block g (zg k c.size) oa⟩))⟩
theorem y8.blo{n:Nat}{w w':zC}{b a:Nat}{o:zQ}(e:y8 w b a o)(d:Below n w w')(g:b<n):y8 w' b a o:=fun c h f=>(d.cell (p:=(b,a+c)) g).trans (e c h f)
theorem zwQ(o:zQ)(h cap:Nat)(w:zC)(l:y8 w h 0 o)(n:h<w)(s:zv w)(t:∀w,zv w->Calls zD 88 #[zS o] w fun c e=>c=(zB 0)/\Below w w e):
 Calls zD 35 #[.agg #[.slice (some h) 1 cap,()]] w fun c e=>c=jB/\Below w w e:=by
 go_enter Tryz.func35,Tryz.ntmps35;go_upto_region 4 with fail;generalize k:World.alloc _ _=y;obtain⟨j,-,-⟩:=aF k;clear k;go_loopw [20] (fun g wr=>∃a:Nat,a<=1/\g=zB a/\Below w w wr) (fun g _=>1 - (intOf g).toNat);case atStart=>exact⟨0,oa,rfl,j⟩
 case round=>
  clear j;obtain⟨a,A,rfl,b⟩:=hrel;by_cases p:a=0
  ·subst p;have r:=zdg (l.blo b n);have i:=b.size;have f:Below w w (xx (wr.alloc (.cells (ze zi).toArray 66)) wr o):=yo (b.alloc i _) i _;have d:zR (xx (wr.alloc (.cells (ze zi).toArray 66)) wr o) wr o:=(zR.new wr zi).put o;go_upto_region 6 with(first|(refine xv (T:=66) (v:=zS o) rfl rfl rfl r ?_)|(refine yx (T:=66) (v:=zS o) rfl rfl rfl rfl (zR.store (zR.new wr zi) o) ?_));try go_frame
   generalize xx (wr.alloc (.cells (ze zi).toArray 66)) wr o=m at f d ⊢;generalize wr.heap.size=x at d ⊢;have q:=t m (s.below f);go_wp2_with (first|(refine xv (T:=66) (v:=zS o) rfl rfl rfl d.load ?_)|(go_at_call 88;refine q.mono ?_;rintro c z ⟨rfl,u⟩));exact⟨⟨1,oa,ou,zK f u⟩,by simp[intOf]⟩
  ·obtain rfl:a=1:=(by omega);go_wp2_with fail;go_end0;exact⟨rfl,b⟩
theorem zpA(w:zC)(c:Array Value)(t:TypeId):(w.alloc (.cells c t)).frozen? w=false:=by
 have h:(w.alloc (.cells c t)).heap[w.heap.size]?=some (.cells c t):=by rw[zt,zP rfl]
 simp only[World.frozen?,h];rfl
theorem zpB(p:Addr)(w:zC):
 CallsD zD 87 #[.pointer (some p)] .returning w fun e b d=>e=jB/\b= .returning/\d=w:=by
 refine zjh Tryz.func87 rfl fun c f a=> ?_;apply wpS_seq;apply wpS_region;simp[wpOpsS,go_sem,recoverD,a,Tryz.ntmps87,Exit.thenS];refine wpS_of_wp ?_;go_wp2;cases c;simp_all [bodyPostS,results,Tryz.results87]
theorem zwR (o:zQ) (a cap c:Nat) (w:zC) (g:y8 w a 0 o) (j:a<w) (f:zv w) (h:∀w,zv w->Calls zD 88 #[zS o] w fun b d=>b=(zB 0)/\Below w w d)
 (m:w.cell? c=some (.slice (some a) 1 cap)) (k:w.cell? (c,1)=()):
 Calls zD 34 #[c] w fun b d=>b=jB/\Below w w d:=by
 have e:=zwQ o a cap w g j f h;go_enter Tryz.func34,Tryz.ntmps34;go_wp2_with (go_at_call 35;refine e.mono ?_;rintro b l ⟨rfl,i⟩);go_end0;exact⟨rfl,i⟩
theorem zwS (o:zQ) (d cap a:Nat) (w:zC) (r:y8 w d 0 o) (j:d<w) (i:a<w) (t:zv w) (u:∀w,zv w->Calls zD 88 #[zS o] w fun c e=>c=(zB 0)/\Below w w e)
 (x:w.cell? a=some (.slice (some d) 1 cap)) (v:w.cell? (a,1)=()):
 Calls zD 33 #[.func (.func 34) #[] #[a]] w fun c e=>c=(zB 0)/\Below w w e:=by
 have A:∀(k:Fn) (first cap:Array Value) (w:zC),(Instr.makeFunc k first cap).run zD w= .ok (.func k first cap) w:=fun _ _ _ _=>rfl;have b:Below w w (w.alloc (.cells #[zB 0] 40)):=aB;have n:(w.alloc (.cells #[zB 0] 40)).cell? w=(zB 0):=oS;have q:(w.alloc (.cells #[zB 0] 40)).frozen? w=false:=zpA w _ _;have l:=zwR o d cap a _ (r.blo b j) (zg j b.size) (t.below b) u ((b.cell (p:=a) i).trans x) ((b.cell (p:=(a,1)) i).trans v);go_enter_defers Tryz.func33,Tryz.ntmps33;go_wp2_with (go_at_call 34;refine l.mono ?_;rintro c h ⟨rfl,g⟩;have s:h.cell? w=(zB 0):=(g.cell (p:=w) oh).trans n;have z:h.frozen? w=false:=(g.frozen (p:=w) oh).trans q);refine zg6 (f:=87) (args:=#[w]) oh (by simp[go_sem]) ?_;refine(zpB w _).mono ?_;rintro c B y ⟨rfl,rfl,rfl⟩;have m:Below w w (h.setCell w (zB 0)):=(zK b g).setCell (p:=w) (zU _) _;simp[Leaves,settle,results,Tryz.results33,go_sem,s];exact m
end Go.Proofs.YtimlgcodecgecaaGreatDoor
