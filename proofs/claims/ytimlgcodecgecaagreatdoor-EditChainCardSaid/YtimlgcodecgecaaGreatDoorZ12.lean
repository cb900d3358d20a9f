/- utf.Runes: the iterator over a text's runes. -/
import Derived.Lib.OthersKept
import Derived.Test.YtimlgcodecgecaaGreatDoorZ11
set_option maxRecDepth 100000
set_option maxHeartbeats 20000000
set_option linter.all false
namespace Go.Proofs.YtimlgcodecgecaaGreatDoor
open Go.RowKit Go.Shelf Go.Lib
theorem zvM(n:Nat)(s:ByteArray)(w:zC):
 CallsIn Fence.wide n zD 215 #[.string s] w fun b a=>b= .returned (.func (.func 257) #[] #[w])/\a=w.alloc (.cells #[.string s] 9):=by
 refine zaL Tryz.func215 rfl trivial ?_ rfl;simp only[Tryz.ntmps215,yw,z7,xB,Nat.reduceAdd,Nat.reduceSub,qK,qL,qM,qN,xu,yD];gi_wp2;go_ret;exact⟨rfl,rfl⟩
def jb(s:ByteArray):List (Int×Nat):=(zh s).zipIdx
theorem zky(s:ByteArray):(jb s).length=(zh s).length:=by simp[jb]
theorem zvN(s:ByteArray){k:Nat}{r:Int}(b:(zh s)[k]?=some r):(jb s).take (k+1)=(jb s).take k++[(r,k)]:=by have a:=(zw.1 b);obtain⟨d,c⟩:=a;rw[j1 (by rw[zky];exact d)];congr 2;simp[jb,c]
theorem zvO{β:Type}{B:Nat}{a:β->World->Prop}(g:AbidesFrom B a){w:zC}{k:Nat}{s:ByteArray}{p:Nat}(b:w.heap[k]?=some (.stringIter s p))(d:B<=k)(f:Nat){x:β}(c:a x w):a x (w.iterAt k s f):=
 g x w _ (some k) c (grownBy_putObj' w k _) (fun h e=>by cases e;exact⟨d,_,b,rfl⟩)
theorem zvP (n:Nat) (a4:3<=n) (L q:Nat) (s:ByteArray) (aZ:s.size<=1000000000000) (g ac:List (Int×Nat)->World->Prop)
 (N:∀h x W,g h W->h.length<(jb s).length->YieldAt Fence.wide (n - 1) zD L #[zB (x.2:Int),.int .i32 x.1] W fun i l=>
  (i= .returned (.bool true)/\g (h++[x]) l/\KeepsWalks W l)\/(i= .returned (.bool false)/\ac (h++[x]) l))
 (W:zC) (u:AbidesFrom W g) (Z:W.cell? q=some (.string s)) (ah:q<W) (I:zv W) (K:g [] W):
 CallsIn Fence.wide n zD 257 #[.func (.yield L) #[] #[],q] W fun i l=>(∃al,i= .returned al)/\
  ((∃R,R=jb s/\g R l)\/(∃h,h <+:jb s/\ac h l)):=by
 have r:=fun aH ay=>(yi (n:=n - 1)).2 (zgH s aH oa ay)
 have X:=fun M=>zlZ (s:=s) M
 have a9:1<=n:=oa
 have a6:Fence.wide.fn 67:=trivial
 refine zaL Tryz.func257 rfl trivial ?_ rfl
 simp only[Tryz.ntmps257,yw,z7,xB,Nat.reduceAdd,Nat.reduceSub,qK,qL,qM,qN,xu,yD]
 cases hb:qY s
 ·have e:=zla hb;have au:=zA (show jb s= [] by unfold jb;rw[e];rfl);rw[hb] at r;clear hb e X;gi_wp2_with fail;refine(r _ I).mono ?_;rintro i m ⟨rfl,k⟩;gi_wp2;refine yG (zcO rfl _ _ _) rfl ?_;exact⟨⟨_,rfl⟩,.inl ⟨_,rfl,by rw[au.o];exact zdn u k K⟩⟩
 ·obtain⟨c,A⟩:=zbH.1 (show(jc s.data.toList).isSome=true from hb);obtain⟨J,w⟩:=zgG A;have y:zh s=c:=by unfold zh;rw[A];rfl
  have Y:s.size=(yC c).length:=by
   conv=>lhs;rw[J]
   exact zds w
  have B:∀{b:Nat}{d:Int},c[b]?=some d->Utf8.decode s (yk c b)=(d.toNat,(encodeRune d).length):=fun M=>by rw[J];exact zlV w M
  rw[hb] at r;have am:=zA y;have D:=zA Y;have G:=zky s;rw[y] at G;have T:=zA G;clear hb A y X J Y G;gi_wp2_with fail;refine(r _ I).mono ?_;rintro i m ⟨rfl,k⟩;have ag:=zdn u k K;have an:m.cell? q=some (.string s):=(k.cell (p:=q) ah).trans Z;have ap:=k.size;clear K Z I r;gi_wp2;have E:g [] (m.iter s 0):=zdn u aA ag;have v:=World.iter_heap m s 0;obtain⟨a0,O⟩:=aY (m.iter s 0);rw[O] at E v ⊢;obtain⟨f,ad⟩:=aY m.heap.size;have ao:W<=f:=oa;rw[ad] at v ⊢;clear O ad ag an ap k;gi_loopw [3] (fun z wr=>∃b:Nat,b<=c.length/\z=zB b/\wr.heap[f]?=some (.stringIter s (yk c b))/\g ((jb s).take b) wr) (fun z _=>c.length - (intOf z).toNat);case atStart=>exact⟨0,xO _,rfl,by rw[zlW];exact v,by rw[zhe];exact E⟩
  case round=>
   obtain⟨b,a7,rfl,j,t⟩:=hrel;clear v E;by_cases af:b<c.length
   ·obtain⟨d,e⟩:∃d,c[b]?=some d:=⟨c[b],by simp[af]⟩;have ar:=zw.1 e;have ae:=zvN s (k:=b) (r:=d) (by rw[am.o];exact e);have V:=zA ae;have aq:0<=d:=(by have:=w d (List.mem_of_getElem? e);unfold yS at this;omega);have o:=fun C=>run_next_any_at (P:=zD) wr f s (yk c b) C j (by rw[D.o];exact zgF c af);rw[B e] at o;simp only[zjM aq] at o;rw[<-zgE c e] at o;have H:=iterAt_heap wr f s (yk c b) (yk c (b+1)) j;have F:=zvO u j ao (yk c (b+1)) t;obtain⟨aw,aa⟩:=aY (wr.iterAt f s (yk c (b+1)));rw[aa] at F H o;have ab:((jb s).take b).length<(jb s).length:=(by rw[yn,T.o];omega);obtain⟨a5,aP,a3,a8,a1,av⟩:=N _ (d,b) aw F ab;have ai:=zA H;have a2:b<=1000000000000:=(by have:=(zey c).1;have:=D.o;omega);clear N aa ae e ar j t H F B ab w;gi_wp2;refine av.mono ?_;rintro i ba (⟨rfl,az,ax⟩|⟨rfl,ak⟩)
    ·have aj:=ax.same f _ ai.o rfl;gi_wp2;go_roundw;case rel=>exact⟨b+1,oa,oh,aj,by rw[V.o];exact az⟩
     case measure=>simp[intOf];omega
    ·gi_wp2;refine yG (zcO rfl _ _ _) rfl ?_;exact⟨⟨_,rfl⟩,.inr ⟨_,by rw[<-V.o];exact zj1 _ _,ak⟩⟩
   ·obtain rfl:b=c.length:=(by omega);have o:=fun C=>run_next_end_at (P:=zD) wr f s (yk c c.length) C j (by rw[D.o,zlX];omega);rw[<-T.o,qJ] at t;clear N j B;gi_wp2;go_end0;exact⟨⟨_,rfl⟩,.inl ⟨_,rfl,t⟩⟩
theorem zvQ(n:Nat)(h:3<=n)(a:Nat)(s:ByteArray)(e:s.size<=1000000000000)(w:zC)(c:a<w)(f:w.cell? a=some (.string s))(j:zv w):
 SeqStopsK Fence.wide n zD 257 #[a] (fun x:Int×Nat=>#[zB (x.2:Int),.int .i32 x.1]) KeepsWalks (fun d=>d=jb s) (fun r=>r <+:jb s) (jb s).length w:=fun l q o i b k _ m g=>
 zvP n h l a s e q o m i k ((b.cell (p:=a) c).trans f) (zg c b.size) (j.below b) g
section
attribute [local go_sem] jl
def jg(f t:Nat)(l:List (Int×Nat)):List Int:=(l.filter fun x=>decide (f<=x.2) && decide (x.2<t)).map (·.1)
theorem zmA(f t:Nat)(l:List (Int×Nat))(x:Int×Nat):jg f t (l++[x])=if f<=x.2/\x.2<t then jg f t l++[x.1] else jg f t l:=by
 unfold jg;rw[zap,ym];by_cases h:f<=x.2/\x.2<t
 ·rw[zP h];simp[h.1,h.2]
 ·rw[zN h];have:(decide (f<=x.2) && decide (x.2<t))=false:=oaQ;simp[this]
theorem zqr(f t:Nat)(l:List (Int×Nat)):(jg f t l).length<=l.length:=by unfold jg;rw[xk];exact jV _ _
theorem zmB(f t:Nat):∀(rs:List Int) (n:Nat),jg f t (rs.zipIdx n)=(rs.take (t - n)).drop (f - n)
 | [],n=>by simp[jg]
 |c::rs,n=>by
  have i:=zmB f t rs (n+1);rw[List.zipIdx_cons];have k:jg f t ((c,n)::rs.zipIdx (n+1))=if f<=n/\n<t then c::jg f t (rs.zipIdx (n+1)) else jg f t (rs.zipIdx (n+1)):=by
   have:=zmA f t [] (c,n);unfold jg at this ⊢;by_cases a:f<=n/\n<t
   ·rw[zP a];simp[a.1,a.2]
   ·rw[zN a];have h:(decide (f<=n) && decide (n<t))=false:=oaC;simp[h]
  rw[k,i];by_cases g:n<t
  ·obtain⟨b,l⟩:∃b,t - n=b+1:=⟨t - n - 1,oa⟩;rw[l,show t - (n+1)=b by omega,zfV];by_cases e:f<=n
   ·rw[zP ⟨e,g⟩,show f - n=0 by omega,show f - (n+1)=0 by omega];rfl
   ·rw[zN (fun a=>e a.1)];obtain⟨d,j⟩:∃d,f - n=d+1:=⟨f - n - 1,oa⟩;rw[j,show f - (n+1)=d by omega,zjd]
  ·rw[zN (fun a=>g a.2),show t - n=0 by omega,show t - (n+1)=0 by omega];simp
theorem zqs(s:ByteArray)(f t:Nat):xo (jg f t (jb s))=yW s f t:=by unfold jb yW;rw[zmB,zje,zje]
def zmC(a S f t:Nat)(w:zC)(c:List (Int×Nat))(W:zC):Prop:=
 (∃b,Boxed W (a+2) 123 b/\zG a 21 1 zbP W b (jg f t c))/\Below a w W/\S<=W/\Boxed W a 3 (zB f)/\Boxed W (a+1) 3 (zB t)
theorem zqt(s:ByteArray)(f t:Nat)(w:zC)(m:s.size<=1000000000000)(aH:zv w):
 Calls zD 166 #[.string s,zB f,zB t] w fun d V=>d= .returned (.string (yW s f t))/\Below w w V:=by
 refine(yi (n:=8)).1 ?_;have a1:Fence.wide.fn 215:=trivial;have x:1<=8:=oa;refine callsIn_of_wp_marks Tryz.func166 rfl trivial ?_ rfl;simp only[Tryz.ntmps166,yw,z7,xB,Nat.reduceAdd,Nat.reduceSub,qK,qL,qM,qN,xu,yD];refine vj.2 ?_;go_wp2_with (go_at_call 215;refine(yi.1 (zvM 7 s _)).mono ?_;rintro d V ⟨rfl,rfl⟩);have N:Below w w ((((w.alloc (.cells #[zB f] 3)).alloc (.cells #[zB t] 3)).alloc (.cells #[()] 123)).alloc (.cells #[.string s] 9)):=aB;have ar:((((w.alloc (.cells #[zB f] 3)).alloc (.cells #[zB t] 3)).alloc (.cells #[()] 123)).alloc (.cells #[.string s] 9)).heap.size=w+4:=oh;have T:=(((Boxed.new w 3 (zB f)).alloc (.cells #[zB t] 3)).alloc (.cells #[()] 123)).alloc (.cells #[.string s] 9);have K:=((Boxed.new (w.alloc (.cells #[zB f] 3)) 3 (zB t)).alloc (.cells #[()] 123)).alloc (.cells #[.string s] 9);have L:=(Boxed.new ((w.alloc (.cells #[zB f] 3)).alloc (.cells #[zB t] 3)) 123 ()).alloc (.cells #[.string s] 9);have M:=Boxed.new (((w.alloc (.cells #[zB f] 3)).alloc (.cells #[zB t] 3)).alloc (.cells #[()] 123)) 9 (.string s);simp only[qX] at K L M;obtain⟨y,ag⟩:=aY (((((w.alloc (.cells #[zB f] 3)).alloc (.cells #[zB t] 3)).alloc (.cells #[()] 123)).alloc (.cells #[.string s] 9)));try simp only[ag] at N ar T K L M ⊢
 clear ag;have bj:w.heap.size<=y.heap.size:=oa;have az:=aH.below N;obtain⟨a3,J,am,aq,av⟩:=yI zoS;have bg:=zky s;have be:(zh s).length<=1000000000000:=by
  cases hok:qY s
  ·rw[zla hok];decide
  ·have:=zlZ hok;have:=Lib.runeCount_le s;omega
 refine(vj (n:=8)).1 ?_;refine wpIn_rangeFunc_ownH rfl x (gf:=257) (lb:=#[(w.heap.size+1+1+1:)]) rfl trivial (enters_of Tryz.func257 oe rfl)
  (zvQ 7 oa (w.heap.size+1+1+1) s m y oa M.cell az) walksK_t (fun a aP aj au ah h o H=>walksK_b (w:=y) a aP aj au ah h o H) (zf _ _) (fun _=>rfl)
  (fun b a=>zmC w y f t w b a) (fun _ _ _=>False) ?hI ?hIx ?h0 (fun g R _=>R={tmps:=#[.string s,zB f,zB t,undef,w,(w.heap.size+1:),.string ⟨#[]⟩,(w.heap.size+1+1:),zB (g.2:Int),.int .i32 g.1,.string s,.func (.func 257) #[] #[(w.heap.size+1+1+1:)],zB (g.2:Int),.int .i32 g.1,undef,undef,undef,undef,undef,undef,undef,undef,undef,undef,undef,undef,undef,undef],defers:= []}) ?hAx ?assign ?body ?done ?stop
 case hI=>exact OwnFrom.and (fun b a B z ⟨v,j,c⟩ e i=>⟨v,zb1 j e (fun l d=>(i l d).2),zia c e (fun l d=>(i l d).2)⟩) (OwnFrom.and (ownFrom_below oa oa) (OwnFrom.and (fun b a B z m e i=>zk m e.size) (OwnFrom.and (fun b a B z m e i=>zb1 m e (fun l d=>(i l d).2)) (fun b a B z m e i=>zb1 m e (fun l d=>(i l d).2)))))
 case hIx=>exact fun bc s a B z h _ _=>h
 case h0=>exact⟨⟨_,L,zG.nil⟩,N,zU _,T,K⟩
 case hAx=>intro g R s a B z a0 e i;exact a0
 case assign=>intro al b g a bh J F;gi_wp2;exact F _ _ ((KeepsOthers.refl _).from _) (KeepsWalks.refl _) J rfl
 case body=>
  rintro al b g R a a6 ⟨l,i⟩ ⟨⟨v,j,c⟩,C,ac,q,u⟩ rfl bn;have bb:=q.cell;have bm:=u.cell;have a5:=j.cell;have ba:=j.frozen;have a4:w.heap.size<=a.heap.size:=C.size;have a9:=zqr f t b;have p:=zmA f t b g;have a8:(jg f t b).length+1<=1000000000000:=oa;obtain⟨W,D⟩:=g;simp only at p ⊢;by_cases r:f<=D/\D<t
  ·rw[zP r] at p;obtain⟨o,H⟩:=r;have I:=zA p;clear p;gi_wp2_with (gi_at_builtin;refine wpListIn_append_own _ rfl _ _ 123 rfl w.heap.size 21 a3 (.int .i32 0) 1 4 zeR J am aq av rfl ol _ _ _ rfl (c.alloc _) a 1 1 [.int .i32 W] rfl rfl ?c1 ?c2 ?c3 ?c4 ?c5 ?_);case c1=>exact cell_one_new _ _ _
   case c2=>simp[Value.oneCell']
   case c3=>unfold maxLen;omega
   case c4=>omega
   case c5=>simp;omega
   intro bq G af E _;obtain⟨Y,ae,rfl⟩:=ownsRow_succ af;obtain⟨ab,ao,ax,aa,ai⟩:=j.appended ol c a4 oa af E;have ay:Boxed G w 3 (zB f):=(q.alloc _).kept E (q.not_row ol c);have ap:Boxed G (w.heap.size+1) 3 (zB t):=(u.alloc _).kept E (u.not_row ol c);have bo:=ab.cell;have a1:=ab.frozen;gi_wp2;have ak:Boxed (G.setCell (w.heap.size+1+1:) (.slice (some Y) ((jg f t b).length+1) ae)) w 3 (zB f):=(zZ _ _ _ _ (by show ¬w.heap.size=w.heap.size+1+1;omega)).trans ay;have a2:Boxed (G.setCell (w.heap.size+1+1:) (.slice (some Y) ((jg f t b).length+1) ae)) (w.heap.size+1) 3 (zB t):=(zZ _ _ _ _ (by show ¬w.heap.size+1=w.heap.size+1+1;omega)).trans ap;refine⟨aa.from _,aa.walks,⟨_,ao,?_⟩,C.trans ai,?_,ak,a2⟩
   ·rw[I.o];unfold zG;rw[xY,qe];simpa[zbP] using ax
   ·have x:=E.size;simp at x ⊢;omega
  ·rw[zN r] at p;have I:=zA p;clear p;have ad:zmC w y f t w (b++[(W,D)]) a:=⟨⟨v,j,by rw[I.o];exact c⟩,C,ac,q,u⟩;by_cases o:f<=D
   ·have H:¬D<t:=fun h=>r ⟨o,h⟩;clear r;gi_wp2;exact⟨(KeepsOthers.refl _).from _,KeepsWalks.refl _,ad⟩
   ·clear r;gi_wp2;exact⟨(KeepsOthers.refl _).from _,KeepsWalks.refl _,ad⟩
 case done=>
  rintro Z bl a bi rfl ⟨⟨v,j,c⟩,C,ac,q,u⟩ F;have a5:=j.cell;have bp:(convert 123 9 v).run zD a= .ok (.string (yW s f t)) a:=by
   rw[<-zqs];generalize jg f t (jb s)=A at c;rcases c.2 with⟨rfl,d⟩|⟨an,aZ,bf,rfl,_,a7,bd,_⟩
   ·obtain rfl:A= []:=zbo d;exact run_convert_runes_nil a 123 9 21 0 0 zeR zhK zhL
   ·have:=zjf (P:=zD) a 123 9 21 an A.length aZ A (zU _) zeR zhK zhL (fun O X=>by rw[qW,qr];have x:=zjg c O oa;have o:=jo (enc:=zbP) (k:=1) (fun _=>rfl) A O 0 A[O] (by simp[X]) oa;rw[zbh,jD] at o;refine x.trans (o.trans ?_);simp[zbP,List.getD,X]);rw[this,qJ];rfl
  clear c q u;go_wp2;refine⟨oh,.inl ⟨_,_,rfl,run_takeDeferred F,?_⟩⟩;have aw:w<=Z:=oa;exact⟨_,zcI rfl _ _ _,⟨rfl,C.trans (belowK_b (w:=w) (zU _) a Z _ _ aw F rfl rfl)⟩⟩
 case stop=>exact fun _ _ _ _ _ _ h _=>h.elim
end
def zb2(i l r:zF)(t:ByteArray)(f e:Nat):zQ:=zl ⟨i.c,i.k+f⟩ (if 0<f then⟨i.c,i.k+f - 1⟩ else l) r (yW t f e)
theorem zR.setVz{w:zC}{b:Nat}{i l r:zF}{t:ByteArray}(h:zR w b (zl i l r t)):
 zR ((((w.setCell (b,9) (zB 0)).setCell (b,10) (zB 0)).setCell (b,11) (.float .f64 0)).setCell (b,12) (.string ⟨#[]⟩)) b (zl i l r t):=by
 unfold zR at *;simp[World.setCell,zu,h,ze,zl,yO];rfl
theorem zgY(t:ByteArray):(zh t).length<=t.size:=by
 unfold zh;cases e:jc t.data.toList with
 |none=>simp
 |some a=>
  obtain⟨b,_⟩:=zlT e;have:=(zey a).1;rw[b] at this;simpa using this
theorem zR.setK{w:zC}{b:Nat}{o:zQ}(h:zR w b o)(k:Int):zR (w.setCell (b,1) k) b {o with id:=⟨o.id.c,k⟩}:=by unfold zR at *;simp[World.setCell,zu,h,ze]
theorem zqu(i l r:zF)(t:ByteArray)(f e:Nat)(w:zC)(a9:t.size<=1000000000000)(bF:f<e)(bv:e<=(zh t).length)(bD:0<=i.k)(bE:i.k+f<18446744073709551616)(k:zv w):
 Calls zD 90 #[zS (zl i l r t),zB f,zB e] w fun bx a8=>bx= .returned (.tuple #[zS (zb2 i l r t f e),.bool true])/\Below w w a8:=by
 have F:=fun w k=>zec (zl i l r t) w (by show t.size<_;omega) k;rw[zdG] at F;have aq:=zch yO;have hcut:=fun w k=>zqt t f e w a9 k;have a7:=zgY t;generalize((zh t).length)=aH at F bv a7;unfold zb2;generalize yW t f e=a at hcut ⊢;obtain⟨bG,c⟩:=aY ((if 0<f then(⟨i.c,i.k+f - 1⟩:zF) else l));rw[c];have C:=zA c;clear c;change Calls zD 90 #[.agg #[i.c,i.k,zB 1,zH,l.c,l.k,r.c,r.k,.string t,zB 0,zB 0,.float .f64 0,.string ⟨#[]⟩,.string ⟨#[]⟩,zH,zH,zH,zH,.bool false,zH,zH,.bool false],zB f,zB e] w _;go_enter Tryz.func90,Tryz.ntmps90;go_upto_region 1 with fail;refine zbL (zl i l r t) zi fun bi af H ao au ay=> ?_;have bu:decide ((f:Int)<0)=false:=oh;have bf:decide (e<=f)=false:=oi;have bA:¬e<=f:=oa;have ba:decide (aH<e)=false:=oi;have bg:¬aH<e:=oa;obtain⟨o,h,A,W,y,n,aj,L,s,K,Y,V,R,ad,X,O,N,ac,am,Z,M,aa⟩:=tcs H;have a5:=af;have I:=aq;rw[show yO.clean=yO from rfl] at I;simp only[show yO.kind=0 from rfl,show yO.n=0 from rfl,show yO.f=0 from rfl,show yO.s=(⟨#[]⟩:ByteArray) from rfl] at I;go_upto_region 3 with(first|(refine zdh 66 w rfl rfl H.load (by rfl) ?_)|(go_at_call 153;refine(F _ (k.below af)).mono ?_;rintro az bB ⟨rfl,u⟩;obtain⟨bw,bt⟩:=yZ u));have d:=H.below u au;have ab:=ao.below u ay;have aw:=zK a5 u;clear o h A W y n aj L s K Y V R ad X O N ac am Z M aa H ao af a5 u bw bt au ay F aq bu bf ba bA bg bi;have av:=d.lt;have aP:=ab.lt;obtain⟨o,h,A,W,y,n,aj,L,s,K,Y,V,R,ad,X,O,N,ac,am,Z,M,aa⟩:=tcs d;have bo:=zbA;have bq:=d.f 9;have bp:=d.f 10;have bh:=d.f 11;have be:=d.f 12;go_upto_region 4 with(go_at_call 65;refine(I _).mono ?_;rintro az ah ⟨rfl,q⟩;obtain⟨bz,bc⟩:=yZ q);have g:=(d.below q av).setVz;have a3:=zK aw q;have B:=(((a3.setCell (p:=(w,9)) (zU _) (zB 0)).setCell (p:=(w,10)) (zU _) (zB 0)).setCell (p:=(w,11)) (zU _) (.float .f64 0)).setCell (p:=(w,12)) (zU _) (.string ⟨#[]⟩);have a2:=ab.below q aP;have D:zR ((((ah.setCell (w,9) (zB 0)).setCell (w,10) (zB 0)).setCell (w,11) (.float .f64 0)).setCell (w,12) (.string ⟨#[]⟩)) (w.heap.size+1) zi:=by refine(((zZ _ _ _ _ ?_).trans (zZ _ _ _ _ ?_)).trans (zZ _ _ _ _ ?_)).trans ((zZ _ _ _ _ ?_).trans a2)<;> (show ¬w.heap.size+1=w.heap.size;omega)
 obtain⟨w3,ap⟩:=aY (((((ah.setCell (w,9) (zB 0)).setCell (w,10) (zB 0)).setCell (w,11) (.float .f64 0)).setCell (w,12) (.string ⟨#[]⟩)));try simp only[ap] at g B D ⊢
 clear ap o h A W y n aj L s K Y V R ad X O N ac am Z M aa bq bp bh be d ab aw q a3 bz bc a2 av aP I bo bB ah;have a4:=g.lt;have ax:=D.lt;have A:w3.cell? (w,2)=(zB 1):=g.cells 2 _ rfl;have s:w3.cell? (w,8)=some (.string t):=g.cells 8 _ rfl;have bd:=g.f 8;go_upto_region 7 with(go_at_call 166;refine(hcut _ (k.below B)).mono ?_;rintro az ag ⟨rfl,x⟩;obtain⟨bm,bl⟩:=yZ x);have m:=(g.below x a4).setText a;have ar:=zK B x;have ak:=ar.setCell (p:=(w,8)) (zU _) (.string a);have al:zR (ag.setCell (w,8) (.string a)) (w.heap.size+1) zi:=(zZ _ _ _ _ oag).trans (D.below x ax);obtain⟨z,a0⟩:=aY (ag.setCell (w,8) (.string a));try simp only[a0] at m ak al ⊢
 clear a0 A s bd g D B x ar bm bl a4 ax hcut w3 ag;have h:z.cell? (w,1)=i.k:=m.cells 1 _ rfl;have bj:=m.f 1;go_upto_region 8 with fail;have b:zR (z.setCell (w,1) (i.k+f:)) w (zl ⟨i.c,i.k+f⟩ l r a):=m.setK (i.k+f);have G:=ak.setCell (p:=(w,1)) (zU _) (i.k+f:);have j:zR (z.setCell (w,1) (i.k+f:)) (w.heap.size+1) zi:=(zZ _ _ _ _ oag).trans al;obtain⟨w6,a1⟩:=aY (z.setCell (w,1) (i.k+f:));try simp only[a1] at b G j ⊢
 clear a1 h bj m ak al z;have bn:=b.lt;have bs:=j.lt;by_cases ai:0<f
 ·have c:=C.o;rw[zP ai] at c;subst c;clear C;have h1:1<=f:=ai;have o:w6.cell? w=i.c:=b.cells 0 _ rfl;have h:w6.cell? (w,1)=(i.k+f:):=b.cells 1 _ rfl;have y:w6.cell? (w,4)=l.c:=b.cells 4 _ rfl;have n:w6.cell? (w,5)=l.k:=b.cells 5 _ rfl;have br:=b.f 4;have bb:=b.f 5;go_upto_region 10 with fail;generalize J:World.setCell _ _ _=aZ;have bC:zR aZ w (zl ⟨i.c,i.k+f⟩ ⟨i.c,i.k+f - 1⟩ r a):=by subst J;exact b.setL ⟨i.c,i.k+f - 1⟩
  have an:=(G.setCell (p:=(w,4)) (zU _) i.c).setCell (p:=(w,5)) (zU _) (i.k+f - 1:);have a6:zR aZ (w.heap.size+1) zi:=by subst J;exact((zZ _ _ _ _ (by show ¬w.heap.size+1=w.heap.size;omega)).trans (zZ _ _ _ _ (by show ¬w.heap.size+1=w.heap.size;omega))).trans j
  try simp only[J] at an
  clear J b j G bn bs o h y n br bb w6;have ae:=zA (a6.put (zl ⟨i.c,i.k+f⟩ ⟨i.c,i.k+f - 1⟩ r a)).load;go_wp2_with (first|(refine xv (T:=66) (v:=zS (zl ⟨i.c,i.k+f⟩ ⟨i.c,i.k+f - 1⟩ r a)) rfl rfl rfl bC.load ?_)|(refine yx (T:=66) (v:=zS (zl ⟨i.c,i.k+f⟩ ⟨i.c,i.k+f - 1⟩ r a)) rfl rfl rfl rfl (zR.store a6 (zl ⟨i.c,i.k+f⟩ ⟨i.c,i.k+f - 1⟩ r a)) ?_));refine yG (v:= .tuple #[zS (zl ⟨i.c,i.k+f⟩ ⟨i.c,i.k+f - 1⟩ r a),.bool true]) ?_ rfl ⟨rfl,yo an oa _⟩;have E:=ae.o;simp[results,zjQ,asAddr,E]
 ·have c:=C.o;rw[zN ai] at c;subst c;clear C;obtain rfl:f=0:=oa;have ae:=zA (j.put (zl ⟨i.c,i.k+(0:Nat)⟩ l r a)).load;go_wp2_with (first|(refine xv (T:=66) (v:=zS (zl ⟨i.c,i.k+(0:Nat)⟩ l r a)) rfl rfl rfl b.load ?_)|(refine yx (T:=66) (v:=zS (zl ⟨i.c,i.k+(0:Nat)⟩ l r a)) rfl rfl rfl rfl (zR.store j (zl ⟨i.c,i.k+(0:Nat)⟩ l r a)) ?_));refine yG (v:= .tuple #[zS (zl ⟨i.c,i.k+(0:Nat)⟩ l r a),.bool true]) ?_ rfl ⟨rfl,yo G oa _⟩;have E:=ae.o;rw[show i.k+((0:Nat):Int)=i.k by simp] at E;simp[results,zjQ,asAddr,E]
open Go.MapKept
def qm(c:Int):Value:=c
theorem zo4(x:Int):∀(e:List MapEntry) (l:List (Int×Value)) (i:Nat),e.map (fun c=>(c.key,c.val))=l.map (fun a=>(qm a.1,a.2))->Instr.findNow (.int .u64) (qm x) e i=some (qh x l i)
 | [],[],_,_=>rfl
 | [],_::_,_,b=>by simp at b
 |_::_,[],_,b=>by simp at b
 |c::e,a::l,i,b=>by
  simp only[xd,zcx,zfb] at b;obtain⟨⟨g,f⟩,h⟩:=b;unfold Instr.findNow qh;rw[g];simp only[qm,Instr.sameNow];by_cases d:a.1=x
  ·have:(x==a.1)=true:=(by simp[d]);rw[this];simp[d,f]
  ·have:(x==a.1)=false:=(by simp;exact fun c=>d c.symm);rw[this];simp only[d,jX];exact zo4 x e l (i+1) h
theorem zet:zci zD 43 qm where
 inj h:=by cases h;rfl
 check w em x:=run_checkKey (d:= .int .u64) (k:=qm x) oe rfl em 9999
 find w x es l h:=run_findKey (d:= .int .u64) oe (zo4 x es l 0 h)
 stays w x:=run_keyThatStays (d:= .int .u64) (k:=qm x) rfl
def kOp(c:Int)(t:ByteArray):zQ:=zl ⟨c,1⟩ zT zT t
def yg(K:List (Int×ByteArray))(c:Int):Option ByteArray:=(K.find? fun p=>decide (p.1=c)).map (·.2)
def qg(K:List (Int×ByteArray))(c:Int):Int:=match yg K c with
 |some t=>(zh t).length
 |none=>0
structure qR where
 m:Nat
 row:Int->Value
 wv:Value
 hv:Value
structure vU(w:zC)(sb:Nat)(L:qR)(K:List (Int×ByteArray))(W:List zQ)(H:List zO):Prop where
 st:w.heap[sb]?=some (.cells #[.map (some L.m),L.wv,L.hv] 204 (0,0))
 map:zq qm w L.m (K.map fun p=>(p.1,L.row p.1))
 keys:(K.map (·.1)).Nodup
 rows:∀p∈K,zG 0 66 22 ze w (L.row p.1) [kOp p.1 p.2]
 waits:zG 0 66 22 ze w L.wv W
 held:zG 0 154 3 zY w L.hv H
 rsep:∀p∈K,∀q∈K,(L.row p.1).ownBlock=(L.row q.1).ownBlock->p.1=q.1
 wsep:∀p∈K,(L.row p.1).ownBlock≠L.wv.ownBlock
def zes(c:Nat)(L:qR)(K:List (Int×ByteArray))(b:Nat):Prop:=
 b=c\/b=L.m\/(∃a∈K,(L.row a.1).ownBlock=some b)\/L.wv.ownBlock=some b\/L.hv.ownBlock=some b
def zcZ(w:zC)(d:Nat->Prop)(c:Nat)(K:List (Int×ByteArray))(W:List zQ)(H:List zO):Prop:=∃a,vU w c a K W H/\∀b,zes c a K b->d b
theorem vU.keep{w w':zC}{e:Nat}{L:qR}{K:List (Int×ByteArray)}{W:List zQ}{H:List zO}(b:vU w e L K W H)(c:∀a,zes e L K a->w'.heap[a]?=w.heap[a]?):vU w' e L K W H where
 st:=(c e (.inl rfl)).trans b.st
 map:=b.map.blk (c _ (.inr (.inl rfl)))
 keys:=b.keys
 rows p hp:=xI (b.rows p hp) fun a d=>c a (.inr (.inr (.inl ⟨p,hp,d⟩)))
 waits:=xI b.waits fun a d=>c a (.inr (.inr (.inr (.inl d))))
 held:=xI b.held fun a d=>c a (.inr (.inr (.inr (.inr d))))
 rsep:=b.rsep
 wsep:=b.wsep
theorem vU.foot_lt{w:zC}{d:Nat}{L:qR}{K:List (Int×ByteArray)}{W:List zQ}{H:List zO}(b:vU w d L K W H):∀a,zes d L K a->a<w.heap.size:=by
 rintro a (rfl|rfl|⟨e,f,c⟩|c|c)
 ·exact(aL b.st)
 ·exact b.map.lt
 ·exact xJ (b.rows e f) a c
 ·exact xJ b.waits a c
 ·exact xJ b.held a c
theorem vU.below{w w':zC}{c:Nat}{L:qR}{K:List (Int×ByteArray)}{W:List zQ}{H:List zO}(a:vU w c L K W H)(d:Below w w w'):vU w' c L K W H:=a.keep fun b e=>d.block b (a.foot_lt b e)
theorem zcZ.below{w w':zC}{a:Nat->Prop}{b:Nat}{K:List (Int×ByteArray)}{W:List zQ}{H:List zO}(f:zcZ w a b K W H)(d:Below w w w'):zcZ w' a b K W H:=by obtain⟨e,g,c⟩:=f;exact⟨e,g.below d,c⟩
theorem zcZ.mods{w w':zC}{b G:Nat->Prop}{f:Nat}{K:List (Int×ByteArray)}{W:List zQ}{H:List zO}(i:zcZ w b f K W H)(j:Mods G w w')(h:∀a,b a->¬G a):zcZ w' b f K W H:=by obtain⟨g,e,c⟩:=i;exact⟨g,e.keep fun a d=>j.block a (e.foot_lt a d) (h a (c a d)),c⟩
theorem zo5(K:List (Int×ByteArray))(f:Int->Value)(c:Int):xD (K.map fun p=>(p.1,f p.1)) c=(yg K c).map fun _=>f c:=by
 unfold xD yg;rw[zcw,zeb,zeb];have:((fun p:Int×Value=>decide (p.1=c)) ∘ fun p:Int×ByteArray=>(p.1,f p.1))=fun p:Int×ByteArray=>decide (p.1=c):=rfl;rw[this];cases h:K.find? fun p=>decide (p.1=c) with
 |none=>rfl
 |some p=>
  have:=zar h;simp only[xW] at this;simp[this]
theorem zo6{K:List (Int×ByteArray)}{c:Int}{t:ByteArray}(a:yg K c=some t):(c,t)∈K:=by
 unfold yg at a;cases h1:K.find? fun b=>decide (b.1=c) with
 |none=>rw[h1] at a;cases a
 |some b=>
  rw[h1] at a;have d:=zar h1;simp only[xW] at d;have e:=zhP h1;obtain⟨g,f⟩:=b;simp only[zao,jC] at a;subst a d;exact e
theorem zo7(w:zC):(zeroValue 36).run zD w= .ok () w:=oe
theorem vU.lookRow{w:zC}{b:Nat}{L:qR}{K:List (Int×ByteArray)}{W:List zQ}{H:List zO}(a:vU w b L K W H)(c:Int):
 (Instr.lookup 202 (.map (some L.m)) c false).run zD w= .ok (((yg K c).map fun _=>L.row c).getD ()) w:=by
 have:=zbB zet (T:=202) (E:=36) oe zo7 a.map c false;rw[zo5] at this;exact this
theorem zG.one{base:Nat}{w:World}{v:Value}{o:zQ}(k:zG base 66 22 ze w v [o]):∃a c,v= .slice (some ⟨a,0,none⟩) 1 c/\a<w.heap.size/\y8 w a 0 o/\∀g,w.frozen? ⟨a,g,none⟩=false:=by
 rcases k.2 with⟨_,j⟩|⟨h,c,t,l,n,b,s,p,q,i⟩
 ·simp at j
 ·refine⟨h,c,l,(aL b),fun f m e=> ?_,fun g=>obq⟩;have r:f<22:=(zw.1 e).1;rw[World.cell?,b];simp only[zcG,jW,jX,qr];have d:([o].flatMap ze)[f]?=some m:=oaZ;rw[<-i,zcE,zP oi,zbK] at d;exact d
theorem zwL(x y z:Int)(w:zC):(Instr.field 154 (.agg #[x,y,z]) 2).run zD w= .ok z w:=oe
structure zaU where
 all:Nat
 inn:Nat
 hv:Value
 PL:List (zF×Nat)
 row:zF->ByteArray->Value
structure vc(w:zC)(bm:Nat)(L:zaU)(M:qB):Prop where
 st:w.heap[bm]?=some (.cells #[.map (some L.all),.map (some L.inn),L.hv] 174 (0,0))
 hid:∃H,zG 0 154 3 zY w L.hv H/\∀i,xH H i=xH M.hidden i
 all:zq xV w L.all (M.ops.map fun o=>(o.id,zS o))
 inn:zq xV w L.inn (L.PL.map fun p=>(p.1,.map (some p.2)))
 par:L.PL.map (·.1)=zi7 M.ops
 inner:∀p∈L.PL,zq Value.string w p.2 ((zi6 M.ops p.1).map fun k=>(k,L.row p.1 k))
 rows:∀p k,zaV M.ops p k≠[]->zG 0 66 22 ze w (L.row p k) (zaV M.ops p k)
 sep:(L.all::L.inn::L.PL.map (·.2)).Nodup
 rsep:∀p k p' k',zaV M.ops p k≠[]->zaV M.ops p' k'≠[]->(L.row p k).ownBlock=(L.row p' k').ownBlock->p=p'/\k=k'
def zi5(f:Nat)(L:zaU)(e:qB)(b:Nat):Prop:=
 b=f\/b=L.all\/b=L.inn\/b∈L.PL.map (·.2)\/L.hv.ownBlock=some b\/∃c d,zaV e.ops c d≠[]/\(L.row c d).ownBlock=some b
def zb9(w:zC)(e:Nat->Prop)(d:Nat)(b:qB):Prop:=∃a,vc w d a b/\∀c,zi5 d a b c->e c
theorem vc.keep{w w':zC}{d:Nat}{L:zaU}{e:qB}(a:vc w d L e)(c:∀b,zi5 d L e b->w'.heap[b]?=w.heap[b]?):vc w' d L e where
 st:=(c d (.inl rfl)).trans a.st
 hid:=by obtain⟨h,i,g⟩:=a.hid;exact⟨h,xI i (fun b f=>c b (.inr (.inr (.inr (.inr (.inl f)))))),g⟩
 all:=a.all.blk (c _ (.inr (.inl rfl)))
 inn:=a.inn.blk (c _ (.inr (.inr (.inl rfl))))
 par:=a.par
 inner p hp:=(a.inner p hp).blk (c _ (.inr (.inr (.inr (.inl (xz.2 ⟨p,hp,rfl⟩))))))
 rows p k hne:=xI (a.rows p k hne) (fun b f=>c b (.inr (.inr (.inr (.inr (.inr ⟨p,k,hne,f⟩))))))
 sep:=a.sep
 rsep:=a.rsep
theorem vc.foot_lt{w:zC}{f:Nat}{L:zaU}{e:qB}(a:vc w f L e):∀c,zi5 f L e c->c<w.heap.size:=by
 rintro c (rfl|rfl|rfl|b|b|⟨d,j,g,b⟩)
 ·exact(aL a.st)
 ·exact a.all.lt
 ·exact a.inn.lt
 ·obtain⟨d,i,rfl⟩:=xz.1 b;exact(a.inner d i).lt
 ·obtain⟨k,h,_⟩:=a.hid;exact xJ h c b
 ·exact xJ (a.rows d j g) c b
theorem vc.below{w w':zC}{d:Nat}{L:zaU}{b:qB}(a:vc w d L b)(e:Below w w w'):vc w' d L b:=a.keep fun c f=>e.block c (a.foot_lt c f)
theorem zb9.below{w w':zC}{b:Nat->Prop}{c:Nat}{a:qB}(g:zb9 w b c a)(e:Below w w w'):zb9 w' b c a:=by obtain⟨f,h,d⟩:=g;exact⟨f,h.below e,d⟩
theorem zb9.mods{w w':zC}{b G:Nat->Prop}{g:Nat}{e:qB}(i:zb9 w b g e)(k:Mods G w w')(j:∀a,b a->¬G a):zb9 w' b g e:=by obtain⟨h,f,c⟩:=i;exact⟨h,f.keep fun a d=>k.block a (f.foot_lt a d) (j a (c a d)),c⟩
def qB.empty:qB:=⟨[],[]⟩
theorem zq.empty{a:Type}{enc:a->Value}{w:zC}{r:Nat}(b:w.heap[r]?=some (.map #[] 0)):zq enc w r []:=⟨#[],0,b,rfl,oh,oh,oh⟩
theorem zq.ne{d:Type}{enc:d->Value}{w:zC}{r b:Nat}{l:List (d×Value)}{c:Array Value}{t:TypeId}{f:Nat×Nat}(e:zq enc w r l)(a:w.heap[b]?=some (.cells c t f)):r≠b:=by obtain⟨i,h,g,_⟩:=e;rintro rfl;rw[g] at a;cases a
theorem zmv{w:zC}{base e l n b:Nat}{v:zJ}{h:List Value}{c:Array Value}{t:TypeId}{f:Nat×Nat}(j:w.ownsRow base e l v n h)(g:w.heap[b]?=some (.cells c t f))(i:t≠e):v.ownBlock≠some b:=by
 intro a;rcases j.2 with⟨d,_⟩|⟨o,p,q,d,m,k,_⟩
 ·rw[d] at a;cases a
 ·rw[d] at a;cases a;rw[k] at g;cases g;exact i rfl
theorem zsi{α:Type}(enc:α->Value)(b:α->zF)(l:List α)(x:zF):xD (l.map fun a=>(b a,enc a)) x=(l.find? fun a=>decide (b a=x)).map enc:=by unfold xD;rw[zcw];have d:((fun c:zF×Value=>decide (c.1=x)) ∘ fun a=>(b a,enc a))=fun a=>decide (b a=x):=rfl;rw[d];cases List.find? (fun a=>decide (b a=x)) l<;> rfl
def yH:Value:=()
def zmE(n:Nat):qR:=⟨n,fun _=>yH,yH,yH⟩
def zgZ(n:Nat):zaU:=⟨n+8,n+9,yH,[],fun _ _=>yH⟩
structure zaT(n:Nat)(w:zC)(kl:List (Int×Value))(wl:List (zF×Value))(hv vv:zJ)(s:Int):Prop where
 kn:zq qm w (n+2) kl
 wt:zq xV w (n+3) wl
 dc:w.heap[n+11]?=some (.cells #[(n+1:),.map (some (n+2)),yH,yH,.map (some (n+3)),hv,(n+6:),.map (some (n+7)),yH,(n+10:),vv,s] 112 (0,0))
theorem zaT.keep{n:Nat}{w w':zC}{kl:List (Int×Value)}{wl:List (zF×Value)}{d e:zJ}{s:Int}(c:zaT n w kl wl d e s)(b:∀a,a=n+2\/a=n+3\/a=n+11->w'.heap[a]?=w.heap[a]?):zaT n w' kl wl d e s where
 kn:=c.kn.blk (b _ oa)
 wt:=c.wt.blk (b _ oa)
 dc:=(b _ oa).trans c.dc
theorem zaT.cell {n:Nat}{w:zC}{kl:List (Int×Value)}{wl:List (zF×Value)}{a b:zJ}{s:Int}(c:zaT n w kl wl a b s) (k:Nat) (v:zJ)
 (d:(#[Value.pointer (some (n+1:)),.map (some (n+2)),yH,yH,.map (some (n+3)),a,(n+6:),.map (some (n+7)),yH,(n+10:),b,s])[k]?=some v):w.cell? (n+11,k)=some v:=by
 simp only[World.cell?,c.dc];simpa using d
theorem zaT.lt{n:Nat}{w:zC}{kl:List (Int×Value)}{wl:List (zF×Value)}{a c:zJ}{s:Int}(b:zaT n w kl wl a c s):n+11<w.heap.size:=aL b.dc
theorem zaT.frz{n:Nat}{w:zC}{kl:List (Int×Value)}{wl:List (zF×Value)}{a c:zJ}{s:Int}(b:zaT n w kl wl a c s)(k:Nat):w.frozen? (n+11,k)=false:=by simp only[World.frozen?,b.dc];simp
def zga(n:Nat)(w:zC):Prop:=vU w (n+1) (zmE n) [] [] []
theorem zga.keep{n:Nat}{w w':zC}(e:zga n w)(d:∀b,b=n\/b=n+1->w'.heap[b]?=w.heap[b]?):zga n w':=
 vU.keep e fun b f=>by
  rcases f with c|c|⟨h,g,_⟩|c|c
  ·exact d _ oa
  ·have i:b=n:=c;exact d _ oa
  ·cases g
  ·cases c
  ·cases c
structure zdI(n:Nat)(w:zC):Prop where
 all:zq xV w (n+4) []
 at_:zq xV w (n+5) []
 sq:w.heap[n+6]?=some (.cells #[.map (some (n+4)),yH,yH,.map (some (n+5)),.bool true] 209 (0,0))
theorem zdI.keep{n:Nat}{w w':zC}(c:zdI n w)(b:∀a,a=n+4\/a=n+5\/a=n+6->w'.heap[a]?=w.heap[a]?):zdI n w' where
 all:=c.all.blk (b _ oa)
 at_:=c.at_.blk (b _ oa)
 sq:=(b _ oa).trans c.sq
def zcd(n:Nat)(w:zC):Prop:=vc w (n+10) (zgZ n) qB.empty
theorem zcd.keep{n:Nat}{w w':zC}(g:zcd n w)(d:∀b,b=n+8\/b=n+9\/b=n+10->w'.heap[b]?=w.heap[b]?):zcd n w':=
 vc.keep g fun b h=>by
  rcases h with c|c|c|i|c|⟨j,k,e,_⟩
  ·exact d _ oa
  ·have f:b=n+8:=c;exact d _ oa
  ·have f:b=n+9:=c;exact d _ oa
  ·cases i
  ·cases c
  ·exact absurd rfl e
structure zb3(n:Nat)(w:zC):Prop where
 c:zaT n w [] [] yH yH 0
 ss:zga n w
 sq:zdI n w
 un:zq xV w (n+7) []
 ms:zcd n w
theorem zb3.keep{n:Nat}{w w':zC}(d:zb3 n w)(b:∀a,n<=a->a<n+12->w'.heap[a]?=w.heap[a]?):zb3 n w' where
 c:=d.c.keep fun a e=>b a oa oa
 ss:=d.ss.keep fun a e=>b a oa oa
 sq:=d.sq.keep fun a e=>b a oa oa
 un:=d.un.blk (b _ oa oa)
 ms:=d.ms.keep fun a e=>b a oa oa
theorem zmF(w:zC):
 Calls zD 14 #[] w fun b a=>b=(w.heap.size+11:)/\zb3 w a/\a.heap.size=w+12/\Below w w a:=by
 have e:= @zhJ zD;go_enter Tryz.func14,Tryz.ntmps14;go_wp2;go_ret;refine⟨rfl,?_,oh,aB⟩;exact {
  c:={kn:=zq.empty oj,wt:=zq.empty oj,dc:=ot}
  ss:={st:=ot,map:=zq.empty (by show(World.heap _)[w.heap.size]?=_;(simp only[zt,qX];repeat(first|rw[zP rfl] |rw[zP trivial] |rw[zP (by omega)] |rw[zN (by omega)]))<;> rfl),keys:=oh,rows:=oh,waits:=zG.nil,held:=zG.nil,rsep:=oh,wsep:=oh}
  sq:={all:=zq.empty oj,at_:=zq.empty oj,sq:=ot}
  un:=zq.empty oj
  ms:={st:=ot,hid:=⟨[],zG.nil,fun f=>rfl⟩,all:=zq.empty (by show(World.heap _)[w.heap.size+8]?=_;(simp only[zt,qX];repeat(first|rw[zP rfl] |rw[zP trivial] |rw[zP (by omega)] |rw[zN (by omega)]))<;> rfl),inn:=zq.empty (by show(World.heap _)[w.heap.size+9]?=_;(simp only[zt,qX];repeat(first|rw[zP rfl] |rw[zP trivial] |rw[zP (by omega)] |rw[zN (by omega)]))<;> rfl),par:=rfl,inner:=by simp[zgZ],rows:=fun p d h=>absurd rfl h,sep:=by simp[zgZ],rsep:=fun p d _ _ h=>absurd rfl h}}
theorem zrf(x:zF)(f:zJ)(w:zC):Calls zD 190 #[(),.agg #[x.c,x.k],f] w fun h g=>h= .returned (.tuple #[zB 0,.bool false])/\Below w w g:=by
 go_enter Tryz.func190,Tryz.ntmps190;go_upto_region 3 with fail;generalize b:World.alloc _ _=c;obtain⟨a,-,-⟩:=aF b;clear b;go_loopw [9,10] (fun d e wx=>d=zB 0/\e=zB 0/\wx=c) (fun _ _ _=>0);case atStart=>exact⟨rfl,rfl,rfl⟩
 case round=>obtain⟨rfl,rfl,rfl⟩:=hrel;go_upto_region 8 with fail;refine aQ ?_;intro W' hC' hBW';go_wp2;refine yG (v:= .tuple #[zB 0,.bool false]) ?_ rfl ⟨rfl,a.trans (hBW'.mono a.size)⟩;simp[results,zji,go_sem]
theorem ztP(s:ByteArray):∀a∈zh s,yS a:=by
 unfold zh;cases h:jc s.data.toList with
 |none=>simp
 |some b=>exact(zlT h).2
theorem zkL{rs:List Int}(h:∀r∈rs,yS r):zh (xo rs)=rs/\qY (xo rs)=true:=by unfold zh qY;rw[zgD h,zwv h];exact⟨rfl,rfl⟩
theorem ztQ(t:ByteArray)(f e:Nat):zh (yW t f e)=((zh t).take e).drop f/\qY (yW t f e)=true:=
 zkL fun b a=>ztP t b (zdX (zdb a))
theorem zkM{t:ByteArray}(a:qY t=true){e:Nat}(d:(zh t).length<=e):yW t 0 e=t:=by
 unfold qY at a;obtain⟨g,b⟩:=zbH.1 a;have f:=(zgG b).1;have c:zh t=g:=by unfold zh;rw[b];rfl
 unfold yW;rw[zaX d,zjw,c];exact f.symm
theorem zkN(t:ByteArray)(f e:Nat)(a:e<=(zh t).length):(zh (yW t f e)).length=e - f:=by rw[(ztQ t f e).1];simp;omega
theorem zkO{t:ByteArray}(a:qY t=true):t.size<=4*(zh t).length/\(zh t).length<=t.size:=by
 refine⟨?_,zgY t⟩;unfold qY at a;obtain⟨c,b⟩:=zbH.1 a;obtain⟨e,f⟩:=zgG b;have d:zh t=c:=by unfold zh;rw[b];rfl
 rw[d,e,zds f];exact(zey c).2
theorem ztR(t:ByteArray){f m e:Nat}(h:f<=m)(g:m<=e):yW t f m++yW t m e=yW t f e:=by
 unfold yW;rw[<-zpS];congr 1;apply zbp;intro c;rw[List.getElem?_append];simp only[zaM,yn,zct,zcE];split
 ·rename_i b;rw[zP oa,zP oa]
 ·rename_i b;by_cases d:m<=(zh t).length
  ·rw[zbG d] at b ⊢;rw[show m+(c - (m - f))=f+c by omega]
  ·rw[Nat.min_eq_right oa] at b ⊢;rw[vp (l:=zh t) oa,vp (l:=zh t) oa];simp
def pc(c:Int)(t:ByteArray)(f e:Nat):zQ:=zb2 ⟨c,1⟩ zT zT t f e
def pcL(c:Int)(f:Nat):zF:=if 0<f then⟨c,(1:Int)+f - 1⟩ else zT
theorem ztT(c:Int)(t:ByteArray)(f e:Nat):pc c t f e=zl ⟨c,1+f⟩ (pcL c f) zT (yW t f e):=rfl
theorem ztU(c:Int)(t:ByteArray)(f e:Nat)(b:f<=e)(a:e<=(zh t).length):za2 ⟨c,1+f⟩ (yW t f e)=⟨c,1+f,1+e⟩:=by unfold za2;rw[zkN t f e a];dsimp only;congr 1;omega
end Go.Proofs.YtimlgcodecgecaaGreatDoor
