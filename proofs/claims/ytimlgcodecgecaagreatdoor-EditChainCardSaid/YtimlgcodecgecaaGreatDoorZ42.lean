/- The law's two documents, the program's and the reference's, side by side: what each step asks and leaves. -/
import Derived.Test.YtimlgcodecgecaaGreatDoorZ41
import Derived.MapKept
set_option maxRecDepth 100000
set_option maxHeartbeats 20000000
set_option linter.all false
namespace Go.Proofs.YtimlgcodecgecaaGreatDoor
open Go.RowKit Go.Lib
section
theorem zgO{c K:Int}{S:zE}{T:List zL}(d:xp c K S T){p:Nat}{A B:List Nat}{l r:zF}(e:qE S T p A B l r):vC ⟨c,K+1⟩ l/\vC ⟨c,K+1⟩ r:=by
 constructor
 ·rcases e.left with⟨_,a,_⟩|⟨_,a,_⟩
  ·exact .inl a
  ·obtain⟨f,i,h,_⟩:=d.shown_mem (xn a);exact .inr ⟨h,f,by show l.k<K+1;omega⟩
 ·rcases e.right with⟨a,_⟩|⟨b,k,a,rfl⟩
  ·exact .inl a
  ·have j:b∈S.order:=(by rw[e.ord,a];simp);have g:=(d.wf.mem b).1 j;obtain⟨f,i⟩:=d.mine b g;exact .inr ⟨d.wf.right b g,f,by show(S.uid b).k<K+1;omega⟩
theorem vC.named{i x:zF}(h:vC i x):x.namedB=true:=by
 rcases h with rfl|⟨h,_⟩
 ·decide
 ·simp[zF.namedB,h]
theorem vC.o{i x:zF}(a:vC i x)(N:Int):xH [⟨i.c,i.k,N⟩] x=false:=by
 rcases a with rfl|⟨_,c,b⟩
 ·simp[xH,zT,zF.rightB,xi]
 ·simp[xH,zO.hasB];intros;omega
theorem vC.bad{i x:zF}(h:vC i x)(N:Int):vD ⟨i.c,i.k,N⟩ x=false:=by unfold vD;rw[h.named,h.o];rfl
theorem vC.same{i x:zF}(h:vC i x):x=zT\/x.c=i.c:=by
 rcases h with h|⟨_,h,_⟩
 ·exact .inl h
 ·exact .inr h
def ze1(n:Nat)(F Fs:Nat->Prop)(s:Nat):yA:=⟨fun b=>¬qp n F Fs b\/s<=b,s,fun _ h=> .inr h⟩
def xt(K:Int):List zF:=if K=0 then[] else[⟨5,K⟩]
theorem zdz{K:Int}(h:0<=K/\K<=9007199254740991):xN (xt K) 5=K:=by
 unfold xt xN;by_cases e:K=0
 ·rw[zP e,e];rfl
 ·rw[zN e];simp[yp];omega
theorem zlw(K:Int):(xt K).length<=1:=by unfold xt;split<;> simp
theorem zlx{K:Int}(h:0<=K/\K<=9007199254740991)(c:Int):xN [⟨5,K⟩] c=if c=5 then K else 0:=by
 unfold xN;simp only[yu,zjU,yp];by_cases e:c=5
 ·subst e;rw[zP ⟨rfl,ol,ol⟩,zP rfl];omega
 ·rw[zN (fun h=>e h.1.symm),zN e]
theorem zly{K L:Int}(f:0<=K)(i:K<L)(c:L<=9007199254740991):zaY (xt K++[⟨5,L⟩])=xt L:=by
 have e:xt L= [⟨5,L⟩]:=zN oa;have d:zax (xt L):=by rw[e];exact⟨fun g h=>by obtain rfl:g=⟨5,L⟩:=oaQ;exact⟨by show(1:Int)<=5;decide,by show(5:Int)<=_;decide,by show 1<=L;omega,c⟩,oh⟩
 refine zno (znq _).1 d fun b=> ?_;rw[(znq _).2,zt7,<-zt8 d,e,zlx ⟨oa,c⟩];have a:xN (xt K) b<=if b=5 then K else 0:=by
  unfold xt;by_cases a:K=0
  ·rw[zP a];show(0:Int)<=_;split<;> omega
  ·rw[zN a,zlx ⟨f,oa⟩];exact qj _
 have:=(zkd (xt K) b).1;split at a<;> split<;> omega
structure xZ(n dp s:Nat)(F Fs FR:Nat->Prop)(w:zC)(K:Int)(S:zE)(T:List zL)(ul:List (zF×Value))(g:zF->xy)(l:List zQ):Prop where
 ch:qF n F Fs FR w 5 K S T ul
 cI:xp 5 K S T
 rd:zbM (ze1 n F Fs s) w dp ⟨l,xt K,T,xf (xL T),S⟩
 sh:zdw ul S g
 ss:s<=w/\n+12<=s/\∀b,F b\/Fs b->b<s
 dp:n+12<=dp/\¬F dp/\¬Fs dp/\¬FR dp
 kb:K<=4*l.length/\(S.l.length:Int)<=K/\l.length<=50
theorem xZ.mods{n dp s:Nat}{F Fs FR:Nat->Prop}{w w':zC}{K:Int}{S:zE}{T:List zL}{ul:List (zF×Value)}{g:zF->xy}{l:List zQ}(a:xZ n dp s F Fs FR w K S T ul g l)(b:Below w w w'):xZ n dp s F Fs FR w' K S T ul g l where
 ch:=a.ch.below b
 cI:=a.cI
 rd:=by obtain⟨c,k,d,e,f,i,h,j⟩:=a.rd;exact⟨c,k,d,e,f,i,h,j.below b⟩
 sh:=a.sh
 ss:=⟨zk a.ss.1 b.size,a.ss.2⟩
 dp:=a.dp
 kb:=a.kb
theorem zlz{n:Nat}{F Fs FR:Nat->Prop}{w:zC}{c K:Int}{S:zE}{T:List zL}{ul:List (zF×Value)}(M:qF n F Fs FR w c K S T ul)(v:xp c K S T)(G:1<=c/\c<=9007199254740991)(ac:0<=K)(aa:K<=200)(ab:S.l.length<=200)(d:zv w)(Z:j7 fun a=>n<=a){p:Nat}{A B:List Nat}{o r:zF}(q:qE S T p A B o r){t:ByteArray}(j:j9 t=true)(m:1<=(zh t).length)(X:t.size<=1000000){e cap:Nat}(N:y8 w e 0 (zl ⟨c,K+1⟩ o r t))(J:e<w)(V:n+11<e):
 Calls zD 9 #[(n+11:),.agg #[.slice (some e) 1 cap,()]] w fun b i=>b= .returned (.tuple #[.bool true,zB 0])/\
  zgb n F Fs FR w c (K+(zh t).length) (S.insN ⟨⟨c,K+1⟩,o,r⟩ (zh t).length) T (jw ul ⟨c,K+1⟩ (zh t)) i/\∀a,n+8<=a->a<n+11->i.heap[a]?=w.heap[a]?:=by
 obtain⟨E,ad,ae⟩:=za0 j
 obtain⟨y,u⟩:=zlr E
 obtain⟨k,l⟩:=zgO v q
 have x:(⟨c,K+1⟩:zF).rightB=true:=oX
 have s:=v.insert G q m oa
 have W:zgW ⟨c,K+1⟩ o r t:=⟨x,j,by show K+1+_ - 1<=_;omega,k.named,l.named,k.o _,l.o _⟩
 have O:zaQ (zl ⟨c,K+1⟩ o r t):=⟨by show t.size<=_;omega,oaF,by rw[zdG];show K+1+_<=_;omega,fun _=>⟨zh t,y,u⟩⟩
 have H:∀(f:Nat) (g:List (Int×Value)) (h:yN) (w:zC),xS n w g [] h 0->qA n f F w S->zq xV w (n+7) ul->zv w->(∀a,F a->n+4<=a/\a≠n+7/\a≠n+11/\a<w.heap.size)->
  Calls zD 174 #[(n+11:),zS (zl ⟨c,K+1⟩ o r t)] w (ze5 n f F g [] h 0 (S.insN ⟨⟨c,K+1⟩,o,r⟩ (zh t).length) (jw ul ⟨c,K+1⟩ (zh t)) w):=fun f g h w Y D L d hF=>by
  have:=zq6 n f F S g [] h 0 ul ⟨c,K+1⟩ o r (zh t) w Y D L d u m oa hF (by show 1<=K+1/\K+1+_<=_;omega) s.1 s.2.1 oa;rwa[<-y] at this
 refine(zmG n (zh t).length e cap F Fs FR c K S _ T ul _ (zl ⟨c,K+1⟩ o r t) w M d Z rfl (zp6 ⟨c,K+1⟩ o r t x j m X (by show K+1+_<=_;omega)) ?_ rfl O oa N J V (by rw[zd1];rfl) (fun w d=>zqZ ⟨c,K+1⟩ o r t w W oa d) H).mono ?_
 ·intro R z;have C:vC ⟨c,K+1⟩ R:=by
   simp only[zQ.names,zl,xK,zfS,or_false] at z;rcases z with rfl|rfl|rfl|rfl|rfl
   ·exact k
   ·exact l
   ·exact .inl rfl
   ·exact .inl rfl
   ·exact .inl rfl
  rcases C.same with b|b
  ·subst b;simp[zaW]
  ·simp[zaW,zl,b]
 ·rintro b i I;exact I
theorem xZ.kk{n dp s:Nat}{F Fs FR:Nat->Prop}{w:zC}{K:Int}{S:zE}{T:List zL}{ul:List (zF×Value)}{g:zF->xy}{l:List zQ}(a:xZ n dp s F Fs FR w K S T ul g l):0<=K/\K<=200/\S.l.length<=200/\S.order.length<=200/\T.length<=200:=by have d:=a.cI.kl;have b:=a.kb;have e:=a.cI.tlen;have c:=a.cI.wf.len_eq;omega
theorem xZ.units{n dp s:Nat}{F Fs FR:Nat->Prop}{w:zC}{K:Int}{S:zE}{T:List zL}{ul:List (zF×Value)}{g:zF->xy}{l:List zQ}(a:xZ n dp s F Fs FR w K S T ul g l):(⟨l,xt K,T,xf (xL T),S⟩:xm).units=S.shown T:=
 ztD a.cI.norm fun _ b=>(a.cI.ids_mem b).2.2
section
variable {n dp s:Nat}{F Fs FR:Nat->Prop}{w:zC}{K:Int}{S:zE}{T:List zL}{ul:List (zF×Value)}{g:zF->xy}{l:List zQ}
theorem xZ.make_t(a:xZ n dp s F Fs FR w K S T ul g l)(d:zv w){p:Nat}{A B:List Nat}{o r:zF}(j:p<=(S.shown T).length)(i:qE S T p A B o r)(m:Int)(t:ByteArray)(v:zr)(b:ByteArray)(e:j9 t=true)(h:t.size<=1000000):
 Calls zD 7 #[(n+11:),(jK 5),xc 1 p m t v b ()] w (zba (QR (zl ⟨5,K+1⟩ o r t) (w.heap.size+3)) w):=by
 have k:=a.kk;exact zi3 w (zl ⟨5,K+1⟩ o r t) n 5 1 p m t v b none 0 0 fun f c=>zmr n F Fs FR 5 K S T ul p A B o r m t v b f (a.ch.below c) a.cI ol ol oa oa j i e h (d.below c)
theorem xZ.make_e(a:xZ n dp s F Fs FR w K S T ul g l)(d:zv w){p:Nat}{A B:List Nat}{o r:zF}(i:p<=(S.shown T).length)(h:qE S T p A B o r)(m:Int)(t:ByteArray)(v:zr)(b:ByteArray)(e:WV v):
 Calls zD 7 #[(n+11:),(jK 5),xc 2 p m t v b ()] w (zba (QR (zj ⟨5,K+1⟩ o r v.clean) (w.heap.size+3)) w):=by
 have j:=a.kk;exact zi3 w (zj ⟨5,K+1⟩ o r v.clean) n 5 2 p m t v b none 0 0 fun f c=>zsf n F Fs FR 5 K S T ul p A B o r m t v b f (a.ch.below c) a.cI ol ol oa oa i h e (d.below c)
def QTs(R:List zL)(c:Nat)(a b:zJ)(w':zC):Prop:=a=()/\zG c 68 4 zb w' b R
theorem xZ.make_d(d:xZ n dp s F Fs FR w K S T ul g l){p m:Nat}(f:1<=m)(x:m<=4000)(z:p+m<=(S.shown T).length)(t:ByteArray)(v:zr)(a:ByteArray):
 Calls zD 7 #[(n+11:),(jK 5),xc 3 p m t v a ()] w (zba (QTs (zz (xj T (((S.shown T).drop p).take m)) []) (w.heap.size+3)) w):=by
 have D:=d.kk;refine zi2 w (QTs (zz (xj T (((S.shown T).drop p).take m)) []) (w.heap.size+3)) (fun C B A j f ⟨y,c⟩=>⟨y,c.blk fun b e=>f.block b (c.lt e) (by have:=c.ge e;omega)⟩) n 5 3 p m t v a none 0 0 fun i h k=> ?_;refine(zsd n F Fs FR 5 K S T ul p m t v a i (d.ch.below h) d.cI ol ol oa oa f x z).mono ?_;rintro e j ⟨u,b,o,rfl,r,q⟩;exact⟨none,0,0,u,b,o,rfl,q,rfl,r.any k⟩
theorem xZ.make_no(a:xZ n dp s F Fs FR w K S T ul g l)(e:S.shown T= [])(t:ByteArray)(v:zr)(c:ByteArray):
 Calls zD 7 #[(n+11:),(jK 5),xc 3 (0:Nat) (1:Nat) t v c ()] w fun f b=>f= .returned (.tuple #[.agg #[(),()],zB 150])/\Below w w b:=by
 have h:=a.kk;exact zgq n 5 150 3 (0:Nat) (1:Nat) t v c none 0 0 w fun b d=>zsZ n F Fs FR 5 K S T ul t v c b (a.ch.below d) a.cI ol ol oa oa e
theorem xZ.make15_t(a:xZ n dp s F Fs FR w K S T ul g l){p:Nat}{A B:List Nat}{o r:zF}(D:p<=(S.shown T).length)(e:qE S T p A B o r)(m:Int)(t:ByteArray)(v:zr)(c:ByteArray)(d:j9 t=true)(z:t.size<=1000000)(u:WV v):
 Calls zD 8 #[dp,(jK 5),xc 1 p m t v c ()] w (zft (zl ⟨5,K+1⟩ o r t) w):=by
 have y:=a.kk;have E:=(za0 d).2.2;obtain⟨f,C,h,i,j,q,k,x⟩:=a.rd;have b:=zdz (K:=K) ⟨y.1,oa⟩;have:=Go.Proofs.YtimlgcodecgecaaGreatDoor.zxm dp f C h i j _ q k _ p A B o r 5 m t v c w x oaR a.cI.wf a.units D e ol (by show 0<=xN (xt K) 5/\xN (xt K) 5<_;rw[b];omega) d z (by show xN (xt K) 5+_<=_;rw[b];omega) u;rwa[show(⟨l,xt K,T,xf (xL T),S⟩:xm).known=xt K from rfl,b] at this
theorem xZ.make15_e(a:xZ n dp s F Fs FR w K S T ul g l){p:Nat}{A B:List Nat}{o r:zF}(z:p<=(S.shown T).length)(d:qE S T p A B o r)(m:Int)(t:ByteArray)(v:zr)(c:ByteArray)(q:WV v):
 Calls zD 8 #[dp,(jK 5),xc 2 p m t v c ()] w (zft (zj ⟨5,K+1⟩ o r v.clean) w):=by
 have x:=a.kk;obtain⟨e,y,f,h,i,k,j,u⟩:=a.rd;have b:=zdz (K:=K) ⟨x.1,oa⟩;have:=Go.Proofs.YtimlgcodecgecaaGreatDoor.zxn dp e y f h i _ k j _ p A B o r 5 m t v c w u oaR a.cI.wf a.units z d ol (by show 0<=xN (xt K) 5/\xN (xt K) 5<_;rw[b];omega) (by show xN (xt K) 5+_<=_;rw[b];omega) q;rwa[show(⟨l,xt K,T,xf (xL T),S⟩:xm).known=xt K from rfl,b] at this
theorem xZ.make15_d(a:xZ n dp s F Fs FR w K S T ul g l){p m:Nat}(C:1<=m)(u:m<=4000)(A:p+m<=(S.shown T).length)(t:ByteArray)(v:zr)(c:ByteArray)(r:WV v):
 Calls zD 8 #[dp,(jK 5),xc 3 p m t v c ()] w (zng (zz (xj T (((S.shown T).drop p).take m)) []) w):=by
 have y:=a.kk;obtain⟨h,B,i,j,k,q,o,x⟩:=a.rd;have e:=zdz (K:=K) ⟨y.1,oa⟩;exact Go.Proofs.YtimlgcodecgecaaGreatDoor.zxp dp h B i j k _ q o _ p m 5 t v c w x oaR a.units C A u ol (by show 0<=xN (xt K) 5/\xN (xt K) 5<_;rw[e];omega) r fun b z=>by obtain⟨_,_,d,f⟩:=a.cI.shown_mem z;show b.rightB=true/\0<=zd T b/\zd T b<_;rw[f];exact⟨d,ol,ol⟩
theorem xZ.make15_no(a:xZ n dp s F Fs FR w K S T ul g l)(d:S.shown T= [])(t:ByteArray)(v:zr)(b:ByteArray)(j:WV v):
 Calls zD 8 #[dp,(jK 5),xc 3 (0:Nat) (1:Nat) t v b ()] w fun q o=>q= .returned (.tuple #[.agg #[(),()],zB 150])/\Below w w o:=by
 have h:=a.kk;obtain⟨k,u,m,r,c,i,f,e⟩:=a.rd;have p:=zdz (K:=K) ⟨h.1,oa⟩;exact Go.Proofs.YtimlgcodecgecaaGreatDoor.zxo dp k u m r c _ i f _ 0 5 (1:Nat) t v b w e oaR a.units (xO _) ol (by show 0<=xN (xt K) 5/\xN (xt K) 5<_;rw[p];omega) j (by show zef (S.shown T).length 0 1=false;rw[d];decide)
structure zaS(n dp s:Nat)(F Fs FR:Nat->Prop)(w:zC)(K K':Int)(S S':zE)(T T':List zL)(ul':List (zF×Value))(l:List zQ):Prop where
 ch:qF n F Fs FR w 5 K' S' T' ul'
 rd:zbM (ze1 n F Fs s) w dp ⟨l,xt K,T,xf (xL T),S⟩
 ss:s<=w/\n+12<=s/\∀b,F b\/Fs b->b<s
 dp:n+12<=dp/\¬F dp/\¬Fs dp/\¬FR dp
def zd0(n dp:Nat)(F Fs FR:Nat->Prop)(K h:Int)(S e:zE)(T T':List zL)(f:List (zF×Value))(l:List zQ)(w w':zC):Prop:=
 ∃g d b c,zaS n dp g d b c w' K h S e T T' f l/\Mods (qp n F Fs) w w'/\(∀a,d a\/b a->F a\/Fs a\/w.heap.size<=a)/\∀a,c a->FR a\/w.heap.size<=a
theorem xZ.toM(f:xZ n dp s F Fs FR w K S T ul g l){r:Int}{k:zE}{T':List zL}{m:List (zF×Value)}{w':zC}(u:zgb n F Fs FR w 5 r k T' m w'):zd0 n dp F Fs FR K r S k T T' m l w w':=by
 obtain⟨z,t,y,j,i,e,p⟩:=u;have G:dp<w:=by obtain⟨C,L,D,E,H,J,I,x⟩:=f.rd;exact x.lt
 have B:=i.size;have A:=f.ch.lt;have q:=f.ss;have o:∀b,qp n F Fs b->b<s:=fun b g=>by
  rcases g with g|g|g
  ·omega
  ·exact q.2.2 b (.inl g)
  ·exact q.2.2 b (.inr g)
 refine⟨w'.heap.size,z,t,y,⟨j,f.rd.mods i ?_ ?_ (zU _),⟨zU _,oa,?_⟩,?_⟩,i,e,p⟩
 ·rintro b (g|g) v
  ·exact g
  ·intro c;have:=o b c;omega
 ·rintro b g v;refine .inl fun c=> ?_;have h:¬qp n F Fs b:=by
   rcases g with g|g
   ·exact g
   ·intro c;have:=o b c;omega
  rcases c with c|c|c
  ·exact h (.inl c)
  ·rcases e b (.inl c) with a|a|a
   ·exact h (.inr (.inl a))
   ·exact h (.inr (.inr a))
   ·omega
  ·rcases e b (.inr c) with a|a|a
   ·exact h (.inr (.inl a))
   ·exact h (.inr (.inr a))
   ·omega
 ·rintro b (g|g)
  ·exact(j.hF b g).2
  ·exact(j.hFS b g).2
 ·have d:=f.dp;refine⟨d.1,fun g=> ?_,fun g=> ?_,fun g=> ?_⟩
  ·rcases e dp (.inl g) with a|a|a
   ·exact d.2.1 a
   ·exact d.2.2.1 a
   ·omega
  ·rcases e dp (.inr g) with a|a|a
   ·exact d.2.1 a
   ·exact d.2.2.1 a
   ·omega
  ·rcases p dp g with a|a
   ·exact d.2.2.2 a
   ·omega
theorem xZ.apply_t(a:xZ n dp s F Fs FR w K S T ul g l)(m:zv w)(y:j7 fun q=>n<=q){p:Nat}{A B:List Nat}{o r:zF}(f:qE S T p A B o r){t:ByteArray}(j:j9 t=true)(v:1<=(zh t).length)(x:t.size<=1000000){b cap:Nat}(i:y8 w b 0 (zl ⟨5,K+1⟩ o r t))(k:b<w)(u:n+11<b):
 Calls zD 9 #[(n+11:),.agg #[.slice (some b) 1 cap,()]] w fun e d=>e= .returned (.tuple #[.bool true,zB 0])/\
  zd0 n dp F Fs FR K (K+(zh t).length) S (S.insN ⟨⟨5,K+1⟩,o,r⟩ (zh t).length) T T (jw ul ⟨5,K+1⟩ (zh t)) l w d:=by
 have c:=a.kk
 refine(zlz a.ch a.cI ol c.1 c.2.1 c.2.2.1 m y f j v x i k u).mono ?_
 rintro e d ⟨rfl,h,_⟩
 exact⟨rfl,a.toM h⟩
theorem xZ.apply_e(d:xZ n dp s F Fs FR w K S T ul g l)(e:zv w)(V:j7 fun c=>n<=c){p:Nat}{A B:List Nat}{o r:zF}(m:qE S T p A B o r){v:zr}(M:WV v)(N:v.clean=v){f cap:Nat}(E:y8 w f 0 (zj ⟨5,K+1⟩ o r v))(H:f<w)(O:n+11<f):
 Calls zD 9 #[(n+11:),.agg #[.slice (some f) 1 cap,()]] w fun b k=>b= .returned (.tuple #[.bool true,zB 0])/\
  zd0 n dp F Fs FR K (K+1) S (S.insN ⟨⟨5,K+1⟩,o,r⟩ 1) T T (xT ul ⟨5,K+1⟩ (jT ⟨⟨#[]⟩,true,v⟩)) l w k:=by
 have W:=d.kk
 obtain⟨u,x⟩:=zgO d.cI m
 have t:(⟨5,K+1⟩:zF).rightB=true:=oX
 have q:=d.cI.insert ⟨ol,ol⟩ m (zU 1) oa
 have J:zaQ (zj ⟨5,K+1⟩ o r v):=⟨by show(0:Nat)<=_;decide,oaF,by show K+1+((1:Nat):Int)<=_;omega,fun b=>absurd b (by show ¬(2:Int)=1;decide)⟩
 have G:∀(h:Nat) (i:List (Int×Value)) (j:yN) (w:zC),xS n w i [] j 0->qA n h F w S->zq xV w (n+7) ul->zv w->(∀c,F c->n+4<=c/\c≠n+7/\c≠n+11/\c<w.heap.size)->
  Calls zD 174 #[(n+11:),zS (zj ⟨5,K+1⟩ o r v)] w (ze5 n h F i [] j 0 (S.insN ⟨⟨5,K+1⟩,o,r⟩ 1) (xT ul ⟨5,K+1⟩ (jT ⟨⟨#[]⟩,true,v⟩)) w):=fun h i j w R C I e hF=>
  zq3 n h F S i [] j 0 ul ⟨5,K+1⟩ o r v w R C I e hF (by show 1<=K+1/\K+1+1<=_;omega) q.1 q.2.1 oa
 refine(zmG n 1 f cap F Fs FR 5 K S _ T ul _ (zj ⟨5,K+1⟩ o r v) w d.ch e V rfl (zp5 ⟨5,K+1⟩ o r v N t) ?_ rfl J oa E H O rfl (fun w e=>zp3 ⟨5,K+1⟩ o r v w M t (by simp only[zjN,zjO,zjP];rw[u.bad,x.bad];rfl) e) G).mono ?_
 ·intro L y;have z:vC ⟨5,K+1⟩ L:=by
   simp only[zQ.names,zj,xK,zfS,or_false] at y;rcases y with rfl|rfl|rfl|rfl|rfl
   ·exact u
   ·exact x
   ·exact .inl rfl
   ·exact .inl rfl
   ·exact .inl rfl
  rcases z.same with b|b
  ·subst b;simp[zaW]
  ·simp[zaW,zj,b]
 ·rintro b k ⟨rfl,D,_⟩;exact⟨rfl,d.toM D⟩
theorem xZ.del(b:xZ n dp s F Fs FR w K S T ul g l){p m:Nat}(E:1<=m)(G:m<=4)(D:p+m<=(S.shown T).length):
 zz (xj T (((S.shown T).drop p).take m)) []≠[]/\zz (T++zz (xj T (((S.shown T).drop p).take m)) []) []≠T/\(zz (xj T (((S.shown T).drop p).take m)) []).length<=200/\xp 5 K S (zz (T++zz (xj T (((S.shown T).drop p).take m)) []) []):=by
 have I:=b.kk;obtain⟨x,k⟩:=zlv b.cI D;have C:=(b.cI.delete (p:=p) (n:=m) x k).1;obtain⟨d,r⟩:∃d,(S.shown T)[p]?=some d:=⟨_,xG oa⟩;have B:d∈((S.shown T).drop p).take m:=by rw[zcr];exact⟨0,by rw[zdY (by omega),zct];exact r⟩
 have j:∀u∈((S.shown T).drop p).take m,u∈S.shown T:=fun u z=>zdb (zdX z);have f:=ziX b.cI j d;rw[zP B] at f;have y:=(b.cI.shown_mem (xn r)).2.2.2;obtain⟨e,t⟩:=zah (xj T (((S.shown T).drop p).take m));refine⟨fun i=> ?_,fun i=> ?_,?_,C⟩
 ·have:=t d;rw[i,f] at this;simp[zd] at this
 ·have:=k d;rw[i,y,f] at this;omega
 ·have A:∀a∈zz (xj T (((S.shown T).drop p).take m)) [],a.c=5/\a.b<=K+1/\1<=a.a:=fun a h=>by
   have H:=yK (e.1 a h);have v:a.hasB ⟨a.c,a.b - 1⟩=true:=(yh (e.1 a h) _).2 ⟨rfl,by show a.a<=a.b - 1;omega,by show a.b - 1<a.b;omega⟩;have o:=e.memOf h v;rw[t,ziX b.cI j] at o;by_cases q:(⟨a.c,a.b - 1⟩:zF)∈((S.shown T).drop p).take m
   ·have:=b.cI.shown_mem (j _ q);dsimp only at this;omega
   ·rw[zN q] at o;omega
  have:=ziY (c:=5) (K:=K) 1 e A oa;omega
theorem xZ.apply_d(a:xZ n dp s F Fs FR w K S T ul g l){p m:Nat}(i:1<=m)(o:m<=4)(f:p+m<=(S.shown T).length){uv:zJ}(d:zc 4 zb w uv (zz (xj T (((S.shown T).drop p).take m)) [])):
 Calls zD 9 #[(n+11:),.agg #[(),uv]] w fun c b=>c= .returned (.tuple #[.bool true,zB 0])/\
  zd0 n dp F Fs FR K K S S T (zz (T++zz (xj T (((S.shown T).drop p).take m)) []) []) ul l w b:=by
 have q:=a.kk
 obtain⟨j,k,r,e⟩:=a.del i o f
 have t:=e.tlen
 refine(zq1 n F Fs FR 5 K S T _ uv ul w a.ch d j k oa oa oa).mono ?_
 rintro c b ⟨rfl,h⟩
 exact⟨rfl,a.toM h⟩
end
end
theorem zqB(n:Nat)(w:zC)(f:zdI n w)(o:w.heap.size=n+12):qA n (n+12) (fun d=>d=n+4\/d=n+5\/d=n+6) w vT:=by
 refine⟨⟨[],[],fun _=>0,yH,yH,fun _=>yH,fun _=>yH,true,fun _=>0⟩,⟨0,fun _=>qu,fun _=>none,fun _=> [],fun _=> [],fun _=>0,[],[],fun _=>none⟩,⟨[],true,?_⟩,?_,rfl,?_⟩
 ·exact {
   lo:=oa
   hi:=oa
   m:=⟨f.all,f.at_,f.sq⟩
   all:=fun g=>rfl
   at_:=fun _ k b a=>by cases a
   blo:=fun b a=>absurd a (jN _)
   inj:=fun l b h=>absurd h (jN _)
   node:=fun b a=>absurd a (jN _)
   order:=zG.nil
   rootr:=zG.nil
   lefts:=fun b a=>absurd a (jN _)
   rights:=fun b a=>absurd a (jN _)
   ro:=fun d e=>obd
   rr:=fun d e=>obd
   rl:=fun b d a=>absurd a (jN _)
   rm:=fun b d a=>absurd a (jN _)
   inord:=fun b a=>by cases a
   inroot:=fun b a=>by cases a
   inlf:=fun b i a=>absurd a (jN _)
   inrt:=fun b i a=>absurd a (jN _)
   inpar:=fun b j a=>absurd a (jN _)
   infind:=fun g b e=>obd}
 ·exact {
   wf:=zk5
   ord:=rfl
   find:=fun g=>by simp[zE.find,vT]
   u:=fun b a=>absurd a (jN _)
   len:=zU _
   par:=fun b a=>absurd a (jN _)
   lf:=fun b a=>absurd a (jN _)
   rt:=fun b a=>absurd a (jN _)
   sz:=fun b a=>absurd a (jN _)
   root:=rfl}
 ·rintro d (c|c|c|c|c|⟨b,a,_⟩)
  ·exact .inl c
  ·exact .inr (.inl c)
  ·exact .inr (.inr c)
  ·cases c
  ·cases c
  ·exact absurd a (jN _)
theorem ziR(n:Nat)(c:Int)(w:zC)(d:zb3 n w)(h:w.heap.size=n+12):qF n (fun a=>a=n+4\/a=n+5\/a=n+6) (fun a=>a=n\/a=n+1) zX w c 0 vT [] [] where
 doc:=⟨n+12,[],⟨yH,yH,yH,yH,yH⟩,d.c.g,.inl ⟨rfl,rfl⟩,zG.nil,zG.nil,rfl,zqB n w d.sq h,
  ⟨zmE n,{st:=d.ss.st,map:=d.ss.map,keys:=oh,rows:=fun g e=>by(cases e),good:=fun g e=>by(cases e),rsep:=fun g e=>by(cases e)},by
   rintro a (b|b|⟨g,e,_⟩)
   ·exact .inr b
   ·exact .inl b
   ·cases e⟩,qj _,rfl,fun i f=>(by cases f),fun a f=>(by cases f),fun a f=>(by cases f)⟩
 un:=d.un
 mo:=⟨yH,d.ms.st⟩
 inn:=d.ms.inn
 hF:=fun a b=>oa
 hFS:=fun a b=>oa
 hFR:=fun a b=>b.elim
 sep:=fun a j k=>oa
 lt:=oa
theorem zqC(n d:Nat)(c w:zC)(h:zb3 n c)(i:c.heap.size=n+12)(e:Below c c w)(g:zbM (zku (n+12)) w d zhp)(f:n+12<=d):
 xZ n d (n+12) (fun a=>a=n+4\/a=n+5\/a=n+6) (fun a=>a=n\/a=n+1) zX w 0 vT [] [] (fun _=>⟨⟨#[]⟩,false,yO⟩) [] where
 ch:=(ziR n 5 c h i).below e
 cI:=zgV 5
 rd:=g.mods (G:=fun _=>False) (Mods.of_below (zf w w)) (fun _ _ _ b=>b) (fun a b _=> .inr b) (by show n+12<=_;have:=e.size;omega)
 sh:=fun k j=>by cases j
 ss:=⟨by have:=e.size;omega,zU _,fun a b=>oa⟩
 dp:=⟨f,oa,oa,fun b=>b⟩
 kb:=by simp[vT]
open Go.Shelf
theorem zqk{P:Program}(w:zC)(d:Nat)(t k e:TypeId)(p:Option Nat)(h:P.underlying t=some (.map k e)):(Op.equalIn (d+1) t (.map p) (.map none)).run P w= .ok p.isNone w:=by cases p<;> simp[Op.equalIn,jM h]
theorem zql{P:Program}(w:zC)(t k e:TypeId)(p:Option Nat)(h:P.underlying t=some (.map k e)):(binOp .eql t (.map p) (.map none)).run P w= .ok (.bool p.isNone) w:=by simp only[binOp];simp[show Op.equal t (.map p) (.map none)=Op.equalIn (9999+1) t (.map p) (.map none) from rfl,zqk w 9999 t k e p h]
theorem zqm{P:Program}(w:zC)(t b k e:TypeId)(v:zJ)(a:P.underlying t=some (.map k e)):(Instr.typeAssert (.iface t v) b t false).run P w= .ok v w:=by simp[Instr.typeAssert,jM a,go_sem,Result.andThen]
theorem zqn{P:Program}(w:zC){r:Nat}{c:Array MapEntry}{b:Nat}(t:TypeId)(d:w.heap[r]?=some (.map c b)):
 (Extern.MapsClone.clone #[.iface t (.map (some r))]).run P w= .ok (.iface t (.map (some w.heap.size))) (w.alloc (.map c b)):=by
 have h:Extern.MapsClone.clone #[.iface t (.map (some r))]=(getObj r >>=fun f=>match f with
  | .map g b=>(newObj (.map g b) >>=fun e=>pure (.iface t (.map (some e))))
  |_=>stuck "maps.clone: a map expected"):=rfl
 rw[h];simp[zcJ d,Result.andThen,go_sem]
theorem zqo(b:Nat)(d:Array MapEntry)(c:Nat)(w:zC)(f:w.heap[b]?=some (.map d c)):
 Calls zD 207 #[.map (some b)] w fun e h=>e= .returned (.map (some w.heap.size))/\h=w.alloc (.map d c):=by
 have k:=fun w=>zql (P:=zD) w 107 _ _ (some b) Tryz.underlying107;have l:(callFunc 255 #[.iface 107 (.map (some b))]).run zD w= .ok (.value (.iface 107 (.map (some w.heap.size)))) (w.alloc (.map d c)):=by rw[run_callFunc_extern (e:=Extern.MapsClone.clone) (by exact Tryz.func255) oe oe oe oe,zqn w 107 f];rfl
 have j:=fun w i g=>zqm (P:=zD) w 107 i _ _ g Tryz.underlying107;go_enter Tryz.func207,Tryz.ntmps207;go_wp2;go_ret;exact⟨rfl,rfl⟩
def zdH(W:zC)(b:Nat):Prop:=zb9 W (fun _=>True) b qB.empty
def zqp(w:zC)(u:zJ)(wx:zC):Prop:=∃c b a,u= .pointer (some ⟨c,0,none⟩)/\wx.heap[c]?=some (.cells #[.map (some b),.map (some a),()] 174 (0,0))/\zq xV wx b []/\zq xV wx a []/\b≠a/\Below w w wx
theorem zig{wx:zC}{m:Nat}{a:Array MapEntry}{b:Nat}{c:Type}{enc:c->Value}{l:List (c×Value)}(e:a.toList.map (fun f=>(f.key,f.val))=l.map (fun d=>(enc d.1,d.2))/\MapKept.Stamped a b)(g:wx.heap[m]?=some (.map a b)):zq enc wx m l:=⟨a,b,g,e.1,e.2⟩
theorem zqq(n:Nat)(w:zC)(t:zcd n w):
 Calls zD 151 #[(n+10:)] w fun g z=>∃j,g= .returned (.pointer (some ⟨j,0,none⟩))/\zdH z j/\Below w w z:=by
 have ae:= @zhJ zD;have m:w.heap[n+10]?=some (.cells #[.map (some (n+8)),.map (some (n+9)),()] 174 (0,0)):=t.st;obtain⟨e,d,hb,J⟩:=t.all;have hb:w.heap[n+8]?=some (.map e d):=hb;obtain⟨D,b,i,L⟩:=t.inn;have i:w.heap[n+9]?=some (.map D b):=i;have ab:D=#[]:=by have:=L.1;simp[zgZ] at this;simpa using this
 subst ab;have X:=aL m;have W:=aL hb;have T:=aL i;have v:=fun F (h:Below w w F)=>zqo (n+8) e d F ((h.block _ W).trans hb);have o:=fun w=>AnyE.slices_Clone_nil Tryz.cloneRng 0 0 w;have s:=zA J;clear J L;go_enter Tryz.func151,Tryz.ntmps151;go_upto_region 1 with fail;go_cut [3] (fun aa wx=>zqp w aa wx);case first=>
  have ah:=aD m 0
  have ai:=aD m 2
  refine fl7 (.rd [0,1,2,3,6,7,8,9] (.two 4 (.two 5 (.one 10 (.rd [11] (.one 12 (.rd [13] .nil)))) 10 (.one 5 (.rd [11] (.one 12 (.rd [13] .nil))))) 5 (.one 4 (.one 10 (.rd [11] (.one 12 (.rd [13] .nil))))))) zX ?_
  refine aT ?_
  have Y:Below w w w.drew:=(zf _ _).drew
  refine zb5 ?_ ?_
  ·refine aO ?_;go_wp2_with (go_at_call 207;refine(v _ Y).mono ?_;rintro g ad ⟨rfl,rfl⟩);have a:Below w w (w.alloc (.map e d)).drew:=aA.drew;have f:(w.alloc (.map e d)).drew.heap[w.heap.size]?=some (.map e d):=World.alloc_heap_new _ _;have c:(w.alloc (.map e d)).drew.heap.size=w+1:=(by show(w.alloc (.map e d)).heap.size=_;simp);refine⟨zI.to (Mods.of_below a),?_⟩;generalize(w.alloc (.map e d)).drew=u at a f c ⊢;have q:=zA c;clear c;refine zb5 ?_ ?_
   ·refine aO ?_;go_wp2;refine⟨zI.to ((Mods.of_below a).alloc _),?_⟩;refine aO ?_;go_wp2_with (go_at_call 169;refine(o _).mono ?_;rintro g w3 ⟨rfl,rfl⟩);refine⟨zI.to ((Mods.of_below a).alloc _),?_⟩;refine aT ?_;refine aO ?_;go_wp2;refine⟨zI.to (((Mods.of_below a).alloc _).alloc _),?_⟩;refine aT ?_;refine jh ?_;go_wp2;go_meet;have c:=q.o;exact⟨_,_,_,rfl,oN,zig s.o oL,zq.empty oH,oa,(a.alloc oa _).alloc oi _⟩
   ·refine aO ?_;go_wp2_with (go_at_call 169;refine(o _).mono ?_;rintro g w3 ⟨rfl,rfl⟩);refine⟨zI.to (Mods.of_below a),?_⟩;refine aO ?_;go_wp2;refine⟨zI.to ((Mods.of_below a).alloc _),?_⟩;refine aT ?_;refine aO ?_;go_wp2;refine⟨zI.to (((Mods.of_below a).alloc _).alloc _),?_⟩;refine aT ?_;refine jh ?_;go_wp2;go_meet;have c:=q.o;exact⟨_,_,_,rfl,oN,zig s.o oL,zq.empty oH,oa,(a.alloc oa _).alloc oi _⟩
  ·refine aO ?_;go_wp2;have a:Below w w (w.alloc (.map #[] 0)).drew:=aA.drew;have f:(w.alloc (.map #[] 0)).drew.heap[w.heap.size]?=some (.map #[] 0):=World.alloc_heap_new _ _;have c:(w.alloc (.map #[] 0)).drew.heap.size=w+1:=(by show(w.alloc (.map #[] 0)).heap.size=_;simp);refine⟨zI.to (Mods.of_below a),?_⟩;generalize(w.alloc (.map #[] 0)).drew=u at a f c ⊢;have q:=zA c;clear c;refine aO ?_;go_wp2_with (go_at_call 207;refine(v _ a).mono ?_;rintro g w3 ⟨rfl,rfl⟩);refine⟨zI.to ((Mods.of_below a).alloc _),?_⟩;refine aO ?_;go_wp2_with (go_at_call 169;refine(o _).mono ?_;rintro g w3 ⟨rfl,rfl⟩);refine⟨zI.to ((Mods.of_below a).alloc _),?_⟩;refine aT ?_;refine aO ?_;go_wp2;refine⟨zI.to (((Mods.of_below a).alloc _).alloc _),?_⟩;refine aT ?_;refine jh ?_;go_wp2;go_meet;have c:=q.o;exact⟨_,_,_,rfl,oN,zig s.o oH,zq.empty oL,oa,(a.alloc oa _).alloc oi _⟩
 case rest=>
  obtain⟨j,A,G,rfl,H,O,N,V,l⟩:=hcut;have R:=(l.block _ T).trans i;have af:wc.cell? (n+10,1)=some (.map (some (n+9))):=by have:=(l.block _ X).trans m;simp[World.cell?,this]
  have aj:=zqi (P:=zD) (T:=172) (K:=62) (E:=261) oe R;have M:∀x,(Instr.next wc false x).run zD (wc.alloc (.mapIter (some (n+9)) b #[] b))= .ok (.tuple #[.bool false]) (wc.alloc (.mapIter (some (n+9)) b #[] b)):=fun x=>zqj (by rw[zt,zP rfl]) (by rw[zt,zN (by have:=l.size;omega)];exact R);have y:Below w w (wc.alloc (.mapIter (some (n+9)) b #[] b)):=l.alloc l.size _;have r:Below wc wc (wc.alloc (.mapIter (some (n+9)) b #[] b)):=aA;have C:=(r.block j (aL H)).trans H;have B:=O.blk (r.block A O.lt);have I:=N.blk (r.block G N.lt);clear v o hb i m;go_upto_region 3 with fail;generalize wc.alloc (.mapIter (some (n+9)) b #[] b)=u at y M r C B I ⊢;generalize wc.heap.size=ac at M ⊢;go_loopw [] (fun Z=>Z=u) (fun _=>0);case atStart=>rfl
  case round=>obtain rfl:=hrel;go_wp2;go_ret;refine⟨j,rfl,⟨⟨A,G,(),[],fun _ _=>()⟩,?_,fun _ _=>trivial⟩,y⟩;exact {st:=C,hid:=⟨[],zG.nil,fun ag=>rfl⟩,all:=B,inn:=I,par:=rfl,inner:=oh,rows:=fun p k h=>absurd rfl h,sep:=by simp[V],rsep:=fun p k _ _ h=>absurd rfl h}
section
attribute [local go_sem] jl
theorem zvT(a:List zV){k:Nat}(b:k<a.length):(k,a.getD k qu)∈xw a a.length:=by unfold xw;rw[xz];exact⟨k,zbj.2 b,rfl⟩
theorem zoT{b:List zV}{x:Nat×zV}(a:x∈xw b b.length):b[x.1]?=some x.2:=by unfold xw at a;rw[xz] at a;obtain⟨d,c,rfl⟩:=a;rw[zbj] at c;simp[c,List.getD]
theorem zvU (n O m L:Nat) (am:3<=m) (T:zJ) (d:List Nat) (b:List zV) (l:World->Prop) (i:List (Nat×zV)->World->Prop)
 (w:∀t W,i t W->ql n T d b W/\W.cell? O=some (zo (n+6)))
 (ae:∀t D W,D∈xw b b.length->i t W->l W->t.length<b.length->YieldAt Fence.wide (m - 1) zD L (jr D) W fun j s=>j= .returned (.bool true)/\i (t++[D]) s/\l s)
 (W:zC) (z:i [] W) (M:l W):
 CallsIn Fence.wide m zD 193 #[.func (.yield L) #[] #[],O] W fun j s=>(∃aa,j= .returned aa)/\∃G,G=xw b b.length/\i G s/\l s:=by
 obtain⟨k,J⟩:=w _ _ z;have X:=k.c;have o:=k.len;have ay:1<=m:=oa;unfold zo at J;refine zaL zfm rfl trivial ?_ rfl;simp only[Tryz.ntmps193,yw,z7,xB,Nat.reduceAdd,Nat.reduceSub,qK,qL,qM,qN,xu,yD];obtain⟨F,B,v⟩:∃F B,T= .slice F b.length B:=by
  rcases k.row with⟨rfl,rfl⟩|⟨N,g,r,rfl,_⟩
  ·exact⟨none,0,by rw[<-o];rfl⟩
  ·exact⟨_,_,by rw[<-o]⟩
 have ab:b.length<=9223372036854775807:=by obtain⟨_,_,_,p,_⟩:=k.row.shape;rwa[o] at p
 have af:=zA o;obtain⟨f,H⟩:=aY b.length;rw[H] at v ab;subst v;clear k o;gi_wp2;gi_loopw [10] (fun x wx=>∃a:Nat,a<=f/\x=zB a/\i (xw b a) wx/\l wx) (fun x _=>f - (intOf x).toNat);case atStart=>exact⟨0,xO _,rfl,z,M⟩
 case round=>
  obtain⟨a,ax,rfl,u,E⟩:=hrel;obtain⟨y,Y⟩:=w _ _ u;by_cases ai:a<f
  ·have aq:(a:Int)<(f:Int):=(by omega);have q:a<d.length:=(by rw[af.o];omega);have V:b[a]?=some (b.getD a qu):=(by rw[xG oa];simp[List.getD,xG (show a<b.length by omega)]);obtain⟨C,g,r,v,I⟩:∃C g r,(Value.slice F f B)= .slice (some ⟨C,g,none⟩) f r/\wr.cell? ⟨C,g+a,none⟩=some (zo d[a]):=by
    rcases y.row with⟨_,p⟩|⟨N,g,r,j,_,_,p⟩
    ·rw[p] at q;cases q
    ·refine⟨N,g,r,?_,?_⟩
     ·cases j;rfl
     ·have:=p a d[a] (by simp[q]) 0 (zo d[a]) rfl;simpa using this
   cases v;have c:=y.nodes a d[a] (b.getD a qu) (by simp[q]) V;generalize d[a]=h at I c;generalize A:b.getD a qu=e at c;have ar:wr.cell? h=e.id.c:=c 0 _ rfl;have ah:wr.cell? (h,1)=e.id.k:=c 1 _ rfl;have av:wr.cell? (h,2)=e.left.c:=c 2 _ rfl;have ak:wr.cell? (h,3)=e.left.k:=c 3 _ rfl;have aj:wr.cell? (h,4)=e.right.c:=c 4 _ rfl;have au:wr.cell? (h,5)=e.right.k:=c 5 _ rfl;unfold zo at I;have R:=ae _ (a,e) wr (by rw[<-A];exact zvT b (by omega)) u E (by rw[zoV];omega);unfold jr zby zac at R;have ag:=zA A;clear u c V w z M E X J Y y q A;gi_wp2_with (obtain⟨ap,al,ao,an,Z,K⟩:=R);refine K.mono ?_;rintro j aw ⟨rfl,ad,ac⟩;clear K Z;gi_wp2;go_roundw;case rel=>exact⟨a+1,oa,ou,by rw[zkz,ag.o];exact ad,ac⟩
   case measure=>simp[intOf];omega
  ·obtain rfl:a=f:=(by omega);gi_wp2;go_end0;exact⟨⟨_,rfl⟩,_,by rw[H],u,E⟩
theorem zvV (n a3 m L:Nat) (b6:8<=m) (br bo:zJ) (p:List zO) (bz:yT p) (bG:p.length<=1000000) (bc:List Nat) (g:List zV) (G:Nat->Prop) (o:World->Prop) (k:List (Nat×zV)->World->Prop) (W:zC) (b5:a3<W)
 (ah:∀c b,k c b->zh5 n a3 br bo p bc g b)
 (Y:∀c a O,k c a->Below a a O->k c O) (ab:∀a O,o a->Below a a O->o O)
 (V:∀c a F x az,W.heap.size<=F->k c a->a.heap[F]?=some x->zex x->k c (a.putObj F az)) (al:∀a F x az,W.heap.size<=F->o a->a.heap[F]?=some x->zex x->o (a.putObj F az))
 (bj:∀s,G s->s<W.heap.size\/W.heap.size+4<=s)
 (bt:∀c h a,h∈xw g g.length->k c a->o a->c.length<g.length->W.heap.size+4<=a.heap.size->YieldAt Fence.wide (m - 1) zD L (jr h) a fun u b=>u= .returned (.bool true)/\k (c++[h]) b/\o b/\Mods G a b)
 (am:k [] W) (bb:o W):
 CallsIn Fence.wide m zD 124 #[.func (.yield L) #[] #[],a3] W fun u b=>(∃bA,u= .returned bA)/\∃M,M=(xw g g.length).filter (jq p)/\k M b/\o b:=by
 obtain⟨bI,_,_,b1,_,bT⟩:=ah _ _ am;have ba:=fun W=>(yi (n:=m - 1)).2 (zpN (n+6:) W rfl);have b4:Fence.wide.fn 125:=trivial;have b9:1<=m:=oa;refine callsIn_of_wp_marks zhh rfl trivial ?_ rfl;simp only[Tryz.ntmps124,yw,z7,xB,Nat.reduceAdd,Nat.reduceSub,qK,qL,qM,qN,xu,yD];gi_wp2_with (gi_at_call 125;refine(ba _).mono ?_;rintro u bY ⟨rfl,rfl⟩);generalize ag:World.alloc _ _=d;obtain⟨a0,a8,bm,-⟩:=aJ ag;have C:d.heap.size=W+2:=by subst ag;simp
 have aP:=Y _ _ _ am a0;have av:=ab _ _ bb a0;try simp only[ag] at aP av
 clear ag;have bJ:=zA C;clear ba bI bT;refine zc4 (α:={h:Nat×zV // h∈xw g g.length}) (gf:=193) (lb:=#[(W.heap.size+1:)]) (encs:=fun h=>jr h.1) (S:=fun M=>M.map (·.1)=xw g g.length) (N:=g.length) rfl oa rfl trivial (enters_of zfm oe rfl) (fun _=>rfl)
  (fun c b=>k ((c.map (·.1)).filter (jq p)) b/\o b/\b.heap[W.heap.size]?=some (.cells #[.func (.yield L) #[] #[]] 195 (0,0))/\b.heap[W.heap.size+1]?=some (.cells #[(n+6:)] 108 (0,0))) G ?hIp ?h0 ?hround ?hseq ?hdone
 case hIp=>rintro c b I i ⟨f,r,v,t⟩ bs;exact⟨V _ _ _ _ _ oa f bs (.inl ⟨_,rfl⟩),al _ _ _ _ oa r bs (.inl ⟨_,rfl⟩),(World.putObj_heap_other oa).trans v,(World.putObj_heap_other oa).trans t⟩
 case h0=>intro I;have ao:Below d d ((d.alloc (.deferred (some []))).alloc (.loop I)):=aB;exact⟨Y _ _ _ aP ao,ab _ _ av ao,(ao.block _ oa).trans a8,(ao.block _ oa).trans bm⟩
 case hseq=>
  rintro bO R b ⟨f,r,v,t⟩ bH;refine(zvU n (W.heap.size+1) (m - 1) (d.heap.size+1) oa bo bc g (yJ d bO) (fun c b=>∃A:List {h:Nat×zV // h∈xw g g.length},A.map (·.1)=c/\k (c.filter (jq p)) b/\o b/\b.heap[W.heap.size]?=some (.cells #[.func (.yield L) #[] #[]] 195 (0,0))/\b.heap[W.heap.size+1]?=some (.cells #[(n+6:)] 108 (0,0))) ?_ ?_ b ⟨[],rfl,f,r,v,t⟩ bH).mono ?_
  ·rintro c a ⟨A,_,f,r,v,t⟩;exact⟨(ah _ _ f).a,by simp[World.cell?,t,zo]⟩
  ·rintro c h a a6 ⟨A,rfl,f⟩ Z au;refine(zel (R A ⟨h,a6⟩ a f Z (by simpa using au))).mono fun u b ⟨bN,bi,bR,_⟩=>⟨bN,⟨A++[⟨h,a6⟩],oh,?_⟩,bR⟩;rw[ym] at bi;exact bi
  ·rintro u z ⟨bW,M,rfl,⟨A,bf,f⟩,bL⟩;exact⟨bW,A,bf,by rw[bf];exact f,bL⟩
 case hdone=>rintro M b bD ⟨f,r,v,t⟩ aw;rw[bD] at f;refine⟨oh,.inl ⟨_,_,rfl,run_takeDeferred aw,⟨_,zcO rfl _ _ _,⟨_,rfl⟩,_,rfl,V _ _ _ _ _ oa f aw (.inr ⟨_,rfl⟩),al _ _ _ _ oa r aw (.inr ⟨_,rfl⟩)⟩⟩⟩
 case hround=>
  rintro c ⟨⟨ar,j⟩,bK⟩ a I ⟨f,r,v,t⟩ Z au;have bU:=zA bK;obtain⟨ad,ap⟩:=aY (c.map (·.1));have bw:ad.length<g.length:=by rw[<-ap];simpa using au
  have a7:=zA ap;rw[ap] at f;clear ap;unfold jr zby zac;gi_wp2;have bu:=aL Z.1;have bQ:=bJ.o;generalize bp:World.alloc _ _=z;obtain⟨B,bh,a4⟩:=aF bp;clear bp;have aa:yJ d I z:=Z.keep fun s bd=>B.block s oa;refine⟨aa,Mods.of_below B,fun i=> ?_⟩;have K:=V _ _ _ _ (.loop i) (show W.heap.size<=d.heap.size+1 by omega) (Y _ _ _ f B) aa.1 (.inl ⟨_,rfl⟩);have ac:=al _ _ _ (.loop i) (show W.heap.size<=d.heap.size+1 by omega) (ab _ _ r B) aa.1 (.inl ⟨_,rfl⟩);have X:yJ d i (z.putObj (d.heap.size+1) (.loop i)):=aa.put i;have E:=(World.putObj_heap_other (w:=z) (r:=d.heap.size+1) (o:= .loop i) (show a.heap.size≠d.heap.size+1 by omega)).trans bh;have J:=(World.putObj_heap_other (w:=z) (r:=d.heap.size+1) (o:= .loop i) (show W.heap.size≠d.heap.size+1 by omega)).trans ((B.block _ oa).trans v);have T:=(World.putObj_heap_other (w:=z) (r:=d.heap.size+1) (o:= .loop i) (show W.heap.size+1≠d.heap.size+1 by omega)).trans ((B.block _ oa).trans t);have q:(z.putObj (d.heap.size+1) (.loop i)).heap.size=a+1:=by simpa[World.putObj] using a4
  have bV:W.heap.size+2<a.heap.size:=oa;clear B bh a4 aa Z f r v t aP av a0 a8 bm;generalize z.putObj (d.heap.size+1) (.loop i)=ae at K ac X E J T q ⊢;generalize a.heap.size=H at E q bV bu ⊢;have an:=ah _ _ K;have b0:=an.p;have u0:=aC E 0;have u1:=aC E 1;have a1:=(yi (n:=m - 1 - 1 - 1)).2 (zmT (n+11) br p j.id ae an.c3 an.dl bz bG);obtain⟨aq,ax⟩:=aY (jU p j.id);rw[ax] at a1;have a9: [(ar,j)].filter (jq p)=(if aq then[] else[(ar,j)]):=by simp only[zeS,zhM,jq,ax];cases aq<;> rfl
  have bB:(ad.filter (jq p)).length<g.length:=Nat.lt_of_le_of_lt (jV _ _) bw;have bg:=zA a9;have b8:1<=m - 1 - 1:=oa;have ca:Fence.wide.fn 123:=trivial;have a5:=zA C;have be:=zA Y;have bq:=zA ab;have bF:=zA bt;have af:=zA q;have bM:=zA bj;clear C bQ an ah am bb Y ab V al bt bj q ax a9;cases aq
  ·gi_wp2_with (gi_at_call 123;refine(CallsIn.inRound _ a1).mono ?_;rintro u l ⟨rfl,e⟩;have q:=af.o;have aj:=be.o _ _ _ K e;have ak:=bq.o _ _ ac e;have D:=(e.block H oa).trans E;have bn:=(e.block W oa).trans J;clear q;have bP:l.cell? W=some (.func (.yield L) #[] #[]):=(by simp[World.cell?,bn]);have u0:l.cell? H=j.id.c:=oav;have u1:l.cell? (H,1)=j.id.k:=oav;have u2:l.cell? (H,2)=j.left.c:=oav;have u3:l.cell? (H,3)=j.left.k:=oav;have u4:l.cell? (H,4)=j.right.c:=oav;have u5:l.cell? (H,5)=j.right.k:=oav;obtain⟨b3,bZ,b2,b7,R,bl⟩:=zoU (n':=m - 1 - 1 - 1) (l':=d.heap.size+1) (bF.o _ (ar,j) l bU.o aj ak bB (by have:=e.size;have:=af.o;omega));unfold jr zby zac at R;dsimp only at R);refine bl.mono ?_;rintro u a2 ⟨rfl,bE,bv,aZ⟩;have q:=af.o;have C:=a5.o;have aH:=e.size;have ai:∀y,W.heap.size<=y->y<W.heap.size+4->a2.heap[y]?=ae.heap[y]?:=fun y f r=>(aZ.block y oa (fun ay=>by have:=bM.o y ay;omega)).trans (e.block y oa);have bS:=X.keep (W':=a2) fun s bd=>ai s oa oa;have bC:=(ai W oa oa).trans J;have bX:=(ai (W.heap.size+1) oa oa).trans T;have bx:Mods (RG G d) ae a2:=(Mods.of_below e).trans (aZ.mono fun s ay=> .inl ay);clear bl R e K ac X E J T D bn bP u0 u1 u2 u3 u4 u5 aj ak q C aH ai aZ;gi_wp2;exact⟨by rw[show c.map (fun h=>h.val)=ad from a7.o,bg.o];exact bE,bv⟩
  ·gi_wp2_with (gi_at_call 123;refine(CallsIn.inRound _ a1).mono ?_;rintro u l ⟨rfl,e⟩);refine⟨oh,?_⟩;have q:=af.o;have C:=a5.o;have aH:=e.size;have aj:=be.o _ _ _ K e;have ak:=bq.o _ _ ac e;have bS:=X.keep (W':=l) fun s bd=>e.block s oa;have bC:=(e.block W oa).trans J;have bX:=(e.block (W.heap.size+1) oa).trans T;have bx:Mods (RG G d) ae l:=Mods.of_below e;clear e K ac X E J T q C aH;gi_wp2;exact⟨by rw[show c.map (fun h=>h.val)=ad from a7.o,bg.o];simpa using aj,ak⟩
end
end Go.Proofs.YtimlgcodecgecaaGreatDoor
