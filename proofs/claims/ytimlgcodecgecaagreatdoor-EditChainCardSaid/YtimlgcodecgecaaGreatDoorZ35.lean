/- One writer's document beside a list of texts: plain law. -/
import Derived.Test.YtimlgcodecgecaaGreatDoorZ34
import Derived.Test.YtimlgcodecgecaaGreatDoorZ29
set_option maxRecDepth 100000
set_option maxHeartbeats 20000000
set_option linter.all false
namespace Go.Proofs.YtimlgcodecgecaaGreatDoor
open Go.RowKit Go.Lib
def vB:List ByteArray->ByteArray
 | []=>⟨#[]⟩
 |t::l=>t++vB l
theorem zlp:∀l:List xy,qO l=vB (l.map jO)
 | []=>rfl
 |r::l=>by simp only[qO,xd,vB,zlp l]
theorem zlq:∀(l:List ByteArray) (t:ByteArray),vB (l++[t])=vB l++t
 | [],t=>by simp only[xu,vB];rw[ByteArray.append_empty',ByteArray.empty_append']
 |x::l,t=>by simp only[yD,vB,zlq l t,zhB]
theorem zqD(l:List ByteArray)(c:∀b∈l,b.size<=8):(vB l).size<=8*l.length:=by
 induction l with
 |nil=>exact xO _
 |cons b l d=>
  have h:=c b oh;have g:=d fun e f=>c e obt;simp only[vB,zfQ,z7];omega
theorem zlr{t:ByteArray}(a:qY t=true):t=xo (zh t)/\∀d∈zh t,yS d:=by
 unfold qY at a;obtain⟨f,b⟩:=zbH.1 a;have e:=zgG b;have c:zh t=f:=by unfold zh;rw[b];rfl
 rw[c];exact e
theorem zqE{r:Int}(h:yS r):(xo [r]).size<=8:=by have:=(zez (rs:= [r]) oaQ).2;simp only[z7,xB] at this;omega
theorem zls(c:Int):∀(rs:List Int) (a:List (zF×Value)) (k:Int) (x:zF),xD (jw a ⟨c,k⟩ rs) x=if x.c=c/\k<=x.k/\x.k<k+rs.length then some (jT (qG (rs.getD (x.k - k).toNat 0))) else xD a x
 | [],a,k,x=>by rw[zN (by simp only[xB];omega)];rfl
 |f::rs,a,k,x=>by
  show xD (jw (xT a ⟨c,k⟩ (jT (qG f))) ⟨c,k+1⟩ rs) x=_;rw[zls c rs _ (k+1) x];by_cases d:x.c=c/\k+1<=x.k/\x.k<k+1+rs.length
  ·rw[zP d,zP (by simp only[z7];omega)];have g:(x.k - k).toNat=(x.k - (k+1)).toNat+1:=oa;rw[g,zhC]
  ·rw[zN d,zem];by_cases b:x=⟨c,k⟩
   ·subst b;rw[if_pos rfl,if_pos (by dsimp only[List.length_cons];omega)];simp
   ·rw[zN b,zN];intro e;apply b;cases x;simp only[z7] at e;simp only[zF.mk.injEq];dsimp only at d e;omega
def zdw(b:List (zF×Value))(S:zE)(g:zF->xy):Prop:=∀a∈S.ids,xD b a=some (jT (g a))/\(jO (g a)).size<=8
def zdx(g:zF->xy)(c k:Int)(rs:List Int):zF->xy:=fun x=>if x.c=c/\k<=x.k/\x.k<k+rs.length then qG (rs.getD (x.k - k).toNat 0) else g x
def zdy(g:zF->xy)(i:zF)(r:xy):zF->xy:=fun x=>if x=i then r else g x
def zE.texts(S:zE)(T:List zL)(g:zF->xy):List ByteArray:=(S.shown T).map fun x=>jO (g x)
theorem xp.ids_ins{c K:Int}{S:zE}{T:List zL}(g:xp c K S T)(v:1<=c/\c<=9007199254740991){p:Nat}{A B:List Nat}{l r:zF}(b:qE S T p A B l r){n:Nat}(o:1<=n)(w:K+n<=9007199254740991){x:zF}(a:x∈(S.insN ⟨⟨c,K+1⟩,l,r⟩ n).ids):x∈S.ids\/(x.c=c/\K+1<=x.k/\x.k<K+1+n):=by
 have t:=g.kl;obtain⟨_,_,_,k⟩:=zl3 g.wf (u:=⟨⟨c,K+1⟩,l,r⟩) b.ord o (fun d i=>⟨oX,(g.fresh (by show K<K+1+(d:Int);omega)).1⟩) (by
  rcases b.left with⟨_,h,f⟩|⟨_,_,q,s,h,f⟩
  ·exact .inl ⟨h,f⟩
  ·exact .inr ⟨q,s,h,f⟩) b.right
 rw[k] at a;have j:∀e,e∈A.map S.uid\/e∈B.map S.uid->e∈S.ids:=fun e m=>by unfold zE.ids;rw[b.ord,ym,xX];exact m
 rcases xX.1 a with a|a
 ·exact .inl (j _ (.inl a))
 ·rcases xX.1 a with a|a
  ·obtain⟨d,i,rfl⟩:=xz.1 a;rw[zbj] at i;exact .inr ⟨rfl,by show K+1<=K+1+(d:Int);omega,by show K+1+(d:Int)<_;omega⟩
  ·exact .inl (j _ (.inr a))
theorem zlt{c K:Int}{S:zE}{T:List zL}(e:xp c K S T){g b:zF->xy}(d:∀a,a.k<=K->b a=g a){l:List zF}(h:∀a∈l,a∈S.shown T):l.map (fun a=>jO (b a))=l.map fun a=>jO (g a):=
 zbI fun a f=>by rw[d a (e.shown_mem (h a f)).2.1]
theorem zlu{c K:Int}{S:zE}{T:List zL}(b:xp c K S T)(i:1<=c/\c<=9007199254740991){p:Nat}{A B:List Nat}{l r:zF}(h:qE S T p A B l r){n:Nat}(j:1<=n)(m:K+n<=9007199254740991)(g d:zF->xy)(f:∀a,a.k<=K->d a=g a):
 (S.insN ⟨⟨c,K+1⟩,l,r⟩ n).texts T d=(S.texts T g).take p++((zgU c (K+1) n).map (fun a=>jO (d a))++(S.texts T g).drop p):=by
 obtain⟨_,_,_,_,k⟩:=b.insert i h j m;unfold zE.texts;rw[k,ym,ym,zlt b f fun a e=>zdX e,zlt b f fun a e=>zdb e,zhD,zfR]
theorem zqF{c K:Int}{S:zE}{T:List zL}{e:List (zF×Value)}{g:zF->xy}(m:xp c K S T)(i:1<=c/\c<=9007199254740991)(h:zdw e S g){p:Nat}{A B:List Nat}{l r:zF}(j:qE S T p A B l r){rs:List Int}(n:1<=rs.length)(o:K+rs.length<=9007199254740991)(k:∀r∈rs,yS r):
 zdw (jw e ⟨c,K+1⟩ rs) (S.insN ⟨⟨c,K+1⟩,l,r⟩ rs.length) (zdx g c (K+1) rs):=by
 intro b q;rw[zls];unfold zdx;by_cases a:b.c=c/\K+1<=b.k/\b.k<K+1+rs.length
 ·rw[zP a,zP a];refine⟨rfl,?_⟩;have f:(b.k - (K+1)).toNat<rs.length:=oa;rw[List.getD_eq_getElem?_getD,xG f];exact zqE (k _ (zbk f))
 ·rw[zN a,zN a];rcases m.ids_ins i j n o q with d|d
  ·exact h b d
  ·exact absurd d a
theorem zqG{c K:Int}{S:zE}{T:List zL}(f:xp c K S T)(e:1<=c/\c<=9007199254740991){p:Nat}{A B:List Nat}{l r:zF}(d:qE S T p A B l r){rs:List Int}(i:1<=rs.length)(j:K+rs.length<=9007199254740991)(g:zF->xy):
 (S.insN ⟨⟨c,K+1⟩,l,r⟩ rs.length).texts T (zdx g c (K+1) rs)=(S.texts T g).take p++((rs.map fun r=>(qG r).text)++(S.texts T g).drop p):=by
 rw[zlu f e d i j g _ (fun m n=>by unfold zdx;rw[if_neg (by omega)])];congr 2;unfold zgU;rw[jk];apply zhE
 ·simp
 ·intro a b k;simp only[xk,zcs] at b;simp only[zjT,List.getElem_range,Function.comp];unfold zdx;rw[zP ⟨rfl,by show K+1<=K+1+(a:Int);omega,by show K+1+(a:Int)<_;omega⟩];have h:((⟨c,K+1+(a:Int)⟩:zF).k - (K+1)).toNat=a:=by show(K+1+(a:Int) - (K+1)).toNat=a;omega
  rw[h,List.getD_eq_getElem?_getD,xG b];rfl
theorem zqH{c K:Int}{S:zE}{T:List zL}{e:List (zF×Value)}{g:zF->xy}(j:xp c K S T)(h:1<=c/\c<=9007199254740991)(f:zdw e S g){p:Nat}{A B:List Nat}{l r:zF}(i:qE S T p A B l r)(k:K+1<=9007199254740991)(v:zr):
 zdw (xT e ⟨c,K+1⟩ (jT ⟨⟨#[]⟩,true,v⟩)) (S.insN ⟨⟨c,K+1⟩,l,r⟩ 1) (zdy g ⟨c,K+1⟩ ⟨⟨#[]⟩,true,v⟩):=by
 intro b m;rw[zem];unfold zdy;by_cases a:b=⟨c,K+1⟩
 ·rw[zP a,zP a];exact⟨rfl,by show(3:Nat)<=8;decide⟩
 ·rw[zN a,zN a];rcases j.ids_ins h i (zU 1) (by simpa using k) m with d|d
  ·exact f b d
  ·refine absurd ?_ a;cases b;simp only[zF.mk.injEq];dsimp only at d;omega
theorem zqI{c K:Int}{S:zE}{T:List zL}(e:xp c K S T)(h:1<=c/\c<=9007199254740991){p:Nat}{A B:List Nat}{l r:zF}(i:qE S T p A B l r)(d:K+1<=9007199254740991)(g:zF->xy)(v:zr):
 (S.insN ⟨⟨c,K+1⟩,l,r⟩ 1).texts T (zdy g ⟨c,K+1⟩ ⟨⟨#[]⟩,true,v⟩)=(S.texts T g).take p++([⟨#[239,191,188]⟩]++(S.texts T g).drop p):=by
 rw[zlu e h i (Nat.le_refl 1) obr g _ (fun j b=>by unfold zdy;rw[if_neg (by intro f;rw[f] at b;dsimp only at b;omega)])];congr 2;unfold zgU;simp[zdy,jO]
theorem zqJ{c K:Int}{S:zE}{T T':List zL}(b:xp c K S T){p n:Nat}(d:yM T')(e:∀a,zd T' a=max (zd T a) (zd (xj T (((S.shown T).drop p).take n)) a))(g:zF->xy):
 S.texts T' g=(S.texts T g).take p++(S.texts T g).drop (p+n):=by
 unfold zE.texts;rw[(b.delete d e).2,ym,zhD,zfR]
theorem zqK(S:zE)(T:List zL)(g:zF->xy):(S.texts T g).length=(S.shown T).length:=by unfold zE.texts;rw[List.length_map]
theorem zlv{c K:Int}{S:zE}{T:List zL}(e:xp c K S T){p n:Nat}(_:p+n<=(S.shown T).length):
 yM (zz (T++zz (xj T (((S.shown T).drop p).take n)) []) [])/\(∀a,zd (zz (T++zz (xj T (((S.shown T).drop p).take n)) []) []) a=max (zd T a) (zd (xj T (((S.shown T).drop p).take n)) a)):=by
 obtain⟨d,b⟩:=zah (T++zz (xj T (((S.shown T).drop p).take n)) []);refine⟨d,fun a=> ?_⟩;rw[b,zca,(zah _).2]
theorem ztK(m:Nat)(s:zJ)(c:List Nat)(f:List zV)(i:Nat)(u:zV)(w:zC)(h:ql m s c f w)(g:f[i]?=some u)(t:f.length<=100000):
 Calls zD 138 #[(m+6:),zB i] w fun z o=>z= .returned (.tuple #[.agg #[u.id.c,u.id.k,u.left.c,u.left.k,u.right.c,u.right.k],.bool true])/\Below w w o:=by
 obtain⟨p,B,rfl,_,n⟩:=h.row.shape;have x:=(zw.1 g).1;have A:=h.len;obtain⟨a,d⟩:∃a,c[i]?=some a:=⟨c[i]'(by omega),xG _⟩;obtain⟨y,r,rfl,E,l⟩:=n i a d;obtain⟨j,k⟩:=aY c.length;have e:=h.c;rw[k] at e;have H:w.cell? (y,r+i)=a:=by have:=l 0 _ rfl;unfold zo at this;simpa using this
 have b:=h.nodes i a u d g;have u0:w.cell? a=u.id.c:=b 0 _ rfl;have u1:w.cell? (a,1)=u.id.k:=b 1 _ rfl;have u2:w.cell? (a,2)=u.left.c:=b 2 _ rfl;have u3:w.cell? (a,3)=u.left.k:=b 3 _ rfl;have u4:w.cell? (a,4)=u.right.c:=b 4 _ rfl;have u5:w.cell? (a,5)=u.right.k:=b 5 _ rfl;have I:decide ((i:Int)<0)=false:=by simp
 have G:decide ((j:Int)<=i)=false:=by simp;omega
 have D:(i:Int)<j:=by omega
 have F:a<w:=by
  unfold World.cell? at u0;cases ho:w.heap[a]? with
  |none=>simp[ho] at u0
  |some q=>exact(aL ho)
 have C:m+6<w.heap.size:=by
  unfold World.cell? at e;cases ho:w.heap[m+6]? with
  |none=>simp[ho] at e
  |some q=>exact(aL ho)
 clear h g n d l b A x k t;go_enter Tryz.func138,Tryz.ntmps138;go_wp2;refine yG (v:= .tuple #[.agg #[u.id.c,u.id.k,u.left.c,u.left.k,u.right.c,u.right.k],.bool true]) ?_ rfl ⟨rfl,aB⟩;simp[results,Tryz.results138,go_sem]
theorem ztL(m:Nat)(g:zJ)(c:List Nat)(d:List zV)(i:Nat)(w:zC)(h:ql m g c d w)(l:d.length<=i):
 Calls zD 138 #[(m+6:),zB i] w fun j e=>j= .returned (.tuple #[.agg #[zH,zH,zH,zH,zH,zH],.bool false])/\Below w w e:=by
 obtain⟨p,o,rfl,_,n⟩:=h.row.shape;have k:=h.len;obtain⟨f,b⟩:=aY c.length;have a:=h.c;rw[b] at a;have t:decide ((i:Int)<0)=false:=by simp
 have s:decide (f<=i)=true:=by simp;omega
 have r:m+6<w.heap.size:=by
  unfold World.cell? at a;cases ho:w.heap[m+6]? with
  |none=>simp[ho] at a
  |some q=>exact(aL ho)
 clear h l n k b;go_enter Tryz.func138,Tryz.ntmps138;go_wp2;refine yG (v:= .tuple #[.agg #[zH,zH,zH,zH,zH,zH],.bool false]) ?_ rfl ⟨rfl,aB⟩;simp[results,Tryz.results138,go_sem]
def CpF(m:Nat)(S:zE)(k:Nat)(w:zC)(e:Ending)(w':zC):Prop:=e=(zB (S.place k))/\(∃d c,ql m d c S.units w')/\Mods (fun b=>b=m+5\/b=m+6) w w'
theorem ztM(m:Nat)(S:zE)(x:zF)(k:Nat)(w:zC)(X:zcP m S w)(a:S.Wf)(u:S.find x=some k):
 Calls zD 137 #[(m+6:),.agg #[x.c,x.k]] w (CpF m S k w):=by
 obtain⟨O,s,ab,v,y,t,o,T,K,n,Z⟩:=X;obtain⟨Y,C⟩:=T x k u;have i:=a.find_some.1 u;have W:y=false:=by
  cases hfr':y
  ·rfl
  ·have I:=K hfr';have:=(a.mem k).2 i.1;rw[I] at this;cases this
 subst W;have J:S.units.length=S.order.length:=by simp[zE.units]
 have N:∀b h:Nat,b<S.units.length->h<S.units.length->(S.units.getD b qu).id=(S.units.getD h qu).id->b=h:=by intro b h r q c;rw[J] at r q;have g:=xG r;have j:=xG q;rw[zE.units_get g,zE.units_get j] at c;have R:=a.inj _ _ ((a.mem _).1 (zbk r)) ((a.mem _).1 (zbk q)) c;exact(zjv a.nodup).1 R
 have D:=zob S.units [] N S.units.length (zU _);refine(zof m Y x O [] s ab v S.units w t o C).mono ?_;rintro c z ⟨rfl,V,l⟩;have F:=a.order_place i.1;have ad:=a.place_lt i.1;have H:xD (vy (xw S.units S.units.length) []) x=(zB (S.place k)):=by have:=D (S.place k) (by omega);rw[zE.units_get F] at this;rwa[show(S.nd k).u.id=x from i.2] at this
 have G:∀(e:Addr) (p:zJ),e.block≠m+6->w.cell? e=some p->z.cell? e=some p:=fun e p g f=>by
  have j:=zod t.at_ f;have A:e.block<w:=by
   unfold World.cell? at f;cases ho:w.heap[e.block]? with
   |none=>simp[ho] at f
   |some ac=>exact(aL ho)
  rw[<-f];exact xA (w:=w) (l.block _ A (by omega))
 refine⟨by rw[H];rfl,⟨s,v,⟨V.cell 1 _ rfl,?_,o.len,fun L d B g j b M aa=> ?_⟩⟩,l⟩
 ·refine zG.slice (k:=1) (enc:=z6) (base:=m+7) (E:=256) (fun _=>rfl) (n.blk fun d c=>l.block d (n.lt c) (by have:=n.ge c;omega))
 ·have f:=o.nodes L d B g j b M aa;exact G (d,b) _ (by show d≠m+6;have:=Z d (xn g);omega) f
theorem ztN(n base:Nat)(p:Nat->Prop)(S:zE)(kl:List (Int×Value))(wl:List (zF×Value))(u:yN)(st:Int)(w:zC)(c:xS n w kl wl u st)(m:qA n base p w S)(o:S.l.length<=50000):
 Calls zD 136 #[(n+11:)] w (zoX S w):=by
 obtain⟨j,t,⟨f,g,b⟩,a,d,_⟩:=m;have e:=fun i (l:i=w)=>zvc n base {j with om:=f,fr:=g} t S w b a (by rw[a.wf.len_eq];exact o) d;have x:=c.cell 6 _ rfl;have q:=zA (e w rfl);clear e c b a d;go_enter Tryz.func136,Tryz.ntmps136;go_wp2_with (go_at_call 200;refine q.o.mono ?_;rintro l v ⟨h,rfl,r,s,k⟩);go_ret;exact⟨h,rfl,r,s,k⟩
theorem zcP.keep{m:Nat}{S:zE}{w w':World}(x:zcP m S w)(E:w.heap.size<=w'.heap.size)(d:∀b,m+4<=b->b<w.heap.size->w'.heap[b]?=w.heap[b]?):zcP m S w':=by
 obtain⟨t,g,A,k,B,i,h,v,r,c,o⟩:=x;have F:=i.lt;have f:=i.keep (W':=w') fun a D=>d a (by omega) (by omega);have l:zG (m+7) 256 1 z6 w' g k:=c.blk fun a j=>d a (by have:=c.ge j;omega) (c.lt j);refine⟨t,g,A,k,B,f,⟨f.cell 1 _ rfl,zG.slice (k:=1) (enc:=z6) (fun _=>rfl) l,h.len,fun b a q n y u s z=> ?_⟩,v,r,l,o⟩;have e:=h.nodes b a q n y u s z;have p:a<w:=by
  unfold World.cell? at e;cases ho:w.heap[a]? with
  |none=>simp[ho] at e
  |some C=>exact(aL ho)
 rw[<-e];exact xA (w:=w) (d a (by have:=o a (xn n);omega) p)
theorem zcP.all{m:Nat}{S:zE}{w:zC}(d:zcP m S w):∃b a,ql m b a S.units w:=by obtain⟨h,b,f,a,g,e,c,_⟩:=d;exact⟨b,a,c⟩
def znP(l r:zF)(w:zC)(e:Ending)(w':zC):Prop:=e= .returned (.tuple #[.agg #[l.c,l.k],.agg #[r.c,r.k]])/\Below w w w'
theorem znQ{S:zE}{T:List zL}{p:Nat}{A B:List Nat}{l r:zF}(e:qE S T p A B l r):(r=zT/\S.order.length=A.length)\/∃a,S.order[A.length]?=some a/\(S.nd a).u.id=r:=by
 have d:=e.ord;rcases e.right with⟨b,c⟩|⟨a,f,b,c⟩
 ·subst c;exact .inl ⟨b,by rw[d];simp⟩
 ·refine .inr ⟨a,?_,c⟩;rw[d,b];simp
theorem orE {p:Prop}(h:p:=by
 have hw12:w.heap.size+1<wt.heap.size:=aL hR1;go_upto_region 7 with(go_at_call 138;refine hat.mono ?_;rintro e w3 ⟨x1,x2,x3,x4,xb,rfl,hb3⟩);have hB3:=zK hB1 hb3;have hL3:=(hb3.block w.heap.size (by omega)).trans hL2;have hR3:=(hb3.block (w.heap.size+1) hw12).trans hR1;generalize gW:World.alloc _ _=W;obtain⟨-,qW0,hz3⟩:=aF gW;have hB4:Below w.heap.size w W:=by subst gW;exact hB3.alloc hB3.size _
 have hb1:Below w3.heap.size w3 (w3.alloc (.cells #[r.c,r.k,x1,x2,x3,x4] 133)):=aA;have hz2:w.heap.size+1<w3.heap.size:=by have:=hb3.size;omega
 have v0:=aC qW0 0;have v1:=aC qW0 1;have hL:W.heap[w.heap.size]?=some (.cells #[l.c,l.k] 62 (0,0)):=by subst gW;exact(hb1.block w.heap.size (by omega)).trans hL3
 have hR:W.heap[w.heap.size+1]?=some (.cells #[zH,zH] 62 (0,0)):=by subst gW;exact(hb1.block (w.heap.size+1) (by omega)).trans hR3
 clear gW qW0 hb1 hL3 hR3 hb3 hB3 hat hL2 hR1 hB1 HAT;generalize w3.heap.size=X at hz3 hz2 v0 v1 ⊢;have f0:W.frozen? w=false:=by simp[World.frozen?,hL]
 have f1:W.frozen? (w,1)=false:=by simp[World.frozen?,hL]
 have c0:=aC hL 0;have c1:=aC hL 1;obtain⟨SS,hS⟩:∃SS:World->Prop,∀w',SS w'↔Mods (fun b=>b=w.heap.size\/b=w.heap.size+1) W w'/\w'.heap[w.heap.size]?=some (.cells #[l.c,l.k] 62 (0,0)):=⟨_,fun _=>Iff.rfl⟩;have hS0:SS W.drew:=(hS _).2 ⟨(Mods.refl _ _).drew,hL⟩;haveI:Nonempty (ji SS):=⟨⟨_,hS0⟩⟩;have a0:∀s:ji SS,s.val.cell? w=l.c:=fun s=>by simp[World.cell?,((hS _).1 s.h).2]
 have a1:∀s:ji SS,s.val.cell? (w,1)=l.k:=fun s=>by simp[World.cell?,((hS _).1 s.h).2]
 have x0:∀s:ji SS,s.val.cell? X=r.c:=fun s=>(xA (w:=W) (((hS _).1 s.h).1.block X (by omega) (by omega))).trans v0;have x1:∀s:ji SS,s.val.cell? (X,1)=r.k:=fun s=>(xA (w:=W) (((hS _).1 s.h).1.block X (by omega) (by omega))).trans v1;refine zgf (.rd [0,1,2] (.one 3 (.one 4 .nil))) (fun w'=>∃s:ji (SS),w'=s.val) (by kernel_rfl) (by kernel_rfl) (fun _ _ d _ _ h=>by cases d<;> exact h) (ji.to (hS0)) ?_;refine aT ?_;refine aO ?_;go_wp2;have hM1:Mods (fun b=>b=w.heap.size) W (((W.setCell w l.c).setCell (w,1) l.k).drew):=(((Mods.refl (fun b=>b=w.heap.size) W).setC (p:=w) (.inl rfl) _).setC (p:=(w,1)) (.inl rfl) _).drew;have hL1:(((W.setCell w l.c).setCell (w,1) l.k).drew).heap[w.heap.size]?=some (.cells #[l.c,l.k] 62 (0,0)):=by show((W.setCell w l.c).setCell (w,1) l.k).heap[w.heap.size]?=_;simp[World.setCell,zu,hL]
 refine⟨ji.to ((hS _).2 ⟨hM1.mono fun b g=> .inl g,hL1⟩),?_⟩;generalize((W.setCell w l.c).setCell (w,1) l.k).drew=W1 at hM1 hL1 ⊢;have hR1:=(hM1.block (w.heap.size+1) (by omega) (by omega)).trans hR;clear a0 a1 x0 x1 f0 f1 c0 c1 v0 v1;have f2:W1.frozen? (w.heap.size+1:)=false:=by simp[World.frozen?,hR1]
 have f3:W1.frozen? (w.heap.size+1,1)=false:=by simp[World.frozen?,hR1]
 have c2:=aC hR1 0;have c3:=aC hR1 1;refine aO ?_;go_wp2;have hM2:Mods (fun b=>b=w.heap.size\/b=w.heap.size+1) W ((W1.setCell (w.heap.size+1:) r.c).setCell (w.heap.size+1,1) r.k):=((hM1.mono fun b g=> .inl g).setC (p:=(w.heap.size+1:)) (.inl (.inr rfl)) _).setC (p:=(w.heap.size+1,1)) (.inl (.inr rfl)) _;have hL2:((W1.setCell (w.heap.size+1:) r.c).setCell (w.heap.size+1,1) r.k).heap[w.heap.size]?=some (.cells #[l.c,l.k] 62 (0,0)):=(zZ _ _ _ _ (by show ¬w.heap.size=w.heap.size+1;omega)).trans ((zZ _ _ _ _ (by show ¬w.heap.size=w.heap.size+1;omega)).trans hL1);have hR2:((W1.setCell (w.heap.size+1:) r.c).setCell (w.heap.size+1,1) r.k).heap[w.heap.size+1]?=some (.cells #[r.c,r.k] 62 (0,0)):=by simp[World.setCell,zu,hR1]
 refine⟨ji.to ((hS _).2 ⟨hM2,hL2⟩),?_⟩;generalize(W1.setCell (w.heap.size+1:) r.c).setCell (w.heap.size+1,1) r.k=W2 at hM2 hL2 hR2 ⊢;refine jh ?_;clear f2 f3 c2 c3;have l0:=aC hL2 0;have l1:=aC hL2 1;have r0:=aC hR2 0;have r1:=aC hR2 1;have hBf:Below w.heap.size w W2:=⟨hM2.os.trans hB4.os,hM2.tape.trans hB4.tape,hM2.output.trans hB4.output,zk hB4.size hM2.size,fun k hk=>(hM2.block k (by have:=hB4.size;omega) (by omega)).trans (hB4.block k hk)⟩;go_wp2;refine yG (v:= .tuple #[.agg #[l.c,l.k],.agg #[r.c,r.k]]) ?_ rfl ⟨rfl,hBf⟩;simp[results,Tryz.results69,go_sem,l0,l1,r0,r1]):p:=h
theorem ztO (n base:Nat) (ay:Nat->Prop) (S:zE) (T:List zL) (p:Nat) (A B:List Nat) (l r:zF) (kl:List (Int×Value)) (wl:List (zF×Value)) (aH:yN) (st:Int) (uv:zJ) (w:zC) (H:xS n w kl wl aH st) (O:qA n base ay w S) (ak:S.l.length<=50000)
 (ag:zc 2 zn w uv (S.shown T)) (aw:qE S T p A B l r):
 Calls zD 69 #[(n+11:),uv,zB p] w (znP l r w):=by
 have ba:=H.lt;have m:S.Wf:=by obtain⟨bg,bh,_,a,_⟩:=O;exact a.wf
 have t:Below w w ((w.alloc (.cells #[zH,zH] 62)).alloc (.cells #[zH,zH] 62)):=aB;have aa:=ztN n base ay S kl wl aH st _ (H.keep fun b g=>t.block b (by omega)) (O.below t) ak;have hL:((w.alloc (.cells #[zH,zH] 62)).alloc (.cells #[zH,zH] 62)).heap[w.heap.size]?=some (.cells #[zH,zH] 62 (0,0)):=by rw[zt,zN (by simp),zt,zP rfl]
 have hR:((w.alloc (.cells #[zH,zH] 62)).alloc (.cells #[zH,zH] 62)).heap[w.heap.size+1]?=some (.cells #[zH,zH] 62 (0,0)):=by rw[zt,zP (by simp)]
 have X:((w.alloc (.cells #[zH,zH] 62)).alloc (.cells #[zH,zH] 62)).heap.size=w+2:=by simp
 have ac:=zA (ag.below t);clear O ag H;go_enter Tryz.func69,Tryz.ntmps69;go_upto_region 1 with fail;obtain⟨W,aj⟩:=aY ((w.alloc (.cells #[zH,zH] 62)).alloc (.cells #[zH,zH] 62));try simp only[aj] at t aa hL hR X ac ⊢
 clear aj;have ah:=zA X;clear X;have C:=zA aw;clear aw;go_upto_region 2 with(go_at_call 136;refine aa.mono ?_;rintro e c ⟨f,rfl,Z,a7,hb1⟩);have hB1:=zK t hb1;have az:w.heap.size+1<W.heap.size:=by have:=ah.o;omega
 have hL1:=(hb1.block w (by omega)).trans hL;have hR1:=(hb1.block (w.heap.size+1) az).trans hR;have ar:=zA (ac.o.below hb1);have L:=zA Z;have bc:w.heap.size+1<f+4:=by omega
 have a5:f+6<c.heap.size:=by obtain⟨_,_,_,_,_,h,_⟩:=Z;exact h.lt
 clear aa hL hR hb1 t a7 Z az ah ac W;have a3:S.units.length<=100000:=by unfold zE.units;rw[List.length_map,m.len_eq];omega
 have HAT:=zA (show ∀W i o,ql f i o S.units W->Calls zD 138 #[(f+6:),zB A.length] W fun e w'=>∃(x1 x2 x3 x4:Int) (b:Bool),e= .returned (.tuple #[.agg #[r.c,r.k,x1,x2,x3,x4],.bool b])/\Below W W w' from fun W i o a=>by
  rcases znQ C.o with⟨x,ai⟩|⟨b,x,ai⟩
  ·rw[x];refine(ztL f i o S.units A.length W a (by unfold zE.units;rw[List.length_map];omega)).mono ?_;rintro e w' ⟨rfl,h⟩;exact⟨0,0,0,0,false,rfl,h⟩
  ·refine(ztK f i o S.units A.length (S.nd b).u W a (by unfold zE.units;rw[List.getElem?_map,x];rfl) a3).mono ?_;rintro e w' ⟨rfl,h⟩;rw[<-ai];exact⟨_,_,_,_,true,rfl,h⟩)
 by_cases ap:p=0
 ·subst ap;have J:l=zT/\A= []:=by
   rcases C.o.left with⟨_,h1,R⟩|⟨h,_⟩
   ·exact⟨h1,R⟩
   ·omega
  obtain⟨i,o,a⟩:=L.o.all;have hat:=HAT.o c i o a;rw[J.2] at hat;have ad:l=zT:=J.1;have hL2:c.heap[w.heap.size]?=some (.cells #[l.c,l.k] 62 (0,0)):=by rw[ad];exact hL1
  clear J hL1 a ad;go_upto_region 6 with fail;obtain⟨wt,rfl⟩:=aX c;exact orE
 ·have aP:(S.shown T)[p - 1]?=some l/\∃s d,A=s++[d]/\S.uid d=l:=by
   rcases C.o.left with⟨h,_⟩|⟨_,h1,R⟩
   ·omega
   ·exact⟨h1,R⟩
  obtain⟨Y,s,d,D,a⟩:=aP;have N:=C.o.ord;have aq:d<S.l.length:=(m.mem d).1 (by rw[N,D];simp);have al:S.find l=some d:=m.find_some.2 ⟨aq,a⟩;have M:S.place d=s.length:=m.place_mid (A:=s) (B:=B) (k:=d) (by rw[N,D];simp);have ab:A.length=s.length+1:=by rw[D];simp
  obtain⟨q,be,rfl,_,an⟩:=ar.o.shape;obtain⟨g,ae,rfl,aZ,K⟩:=an (p - 1) l Y;have ax:c.cell? (g,ae+(p - 1)*2)=l.c:=K 0 _ rfl;have x:c.cell? (g,ae+(p - 1)*2+1)=l.k:=K 1 _ rfl;obtain⟨af,E⟩:=aY ((S.shown T).length);have a4:p - 1<af:=by rw[<-E];exact(zw.1 Y).1
  have a9:af<=50000:=by rw[<-E];refine zk (jV _ _) ?_;unfold zE.ids;rw[xk,m.len_eq];exact ak
  obtain⟨F,am⟩:∃F,p=F+1:=⟨p - 1,by omega⟩;have bf:(p:Int) - 1=F:=by omega
  rw[show p - 1=F by omega] at ax x a4;have bd:(0:Int)<p:=by omega
  rw[E];have f0:c.frozen? w=false:=by simp[World.frozen?,hL1]
  have f1:c.frozen? (w,1)=false:=by simp[World.frozen?,hL1]
  have c0:=aC hL1 0;have c1:=aC hL1 1;have a8:=zA am;clear Y D a N an K E am ap aZ;go_upto_region 5 with fail;have V:∀k,k≠w.heap.size->((c.setCell w l.c).setCell (w,1) l.k).heap[k]?=c.heap[k]?:=fun k hk=>(zZ _ _ _ _ (by show ¬k=w.heap.size;exact hk)).trans (zZ _ _ _ _ (by show ¬k=w.heap.size;exact hk));generalize y:World.setCell _ _ _=u;have av:zcP f S u:=by subst y;exact L.o.keep (by simp) fun k h1 _=>V k (by omega)
  have hL2:u.heap[w.heap.size]?=some (.cells #[l.c,l.k] 62 (0,0)):=by subst y;simp[World.setCell,zu,hL1]
  have hR2:=(V (w.heap.size+1) (by omega)).trans hR1;have v:Below w w u:=by subst y;exact(hB1.setCell (p:=w) (zU _) _).setCell (p:=(w,1)) (zU _) _
  try simp only[y] at hR2
  clear y V f0 f1 c0 c1 ax x hL1 hR1 hB1 L ar a5 c;have a1:=aC hL2 0;have a0:=aC hL2 1;have z:=ztM f S l d u av m al;unfold CpF at z;rw[M] at z;obtain⟨a2,I⟩:=aY s.length;rw[I] at z ab;have bb:a2<=50000:=by have h1:=m.place_lt aq;rw[M,m.len_eq,I] at h1;omega
  have au:w.heap.size+1<u.heap.size:=aL hR2;have a6:=zA ab;clear av al M I ab;go_upto_region 6 with(go_at_call 137;refine z.mono ?_;rintro e G ⟨rfl,⟨i,o,a⟩,j⟩);have hB1:Below w w G:=⟨j.os.trans v.os,j.tape.trans v.tape,j.output.trans v.output,zk v.size j.size,fun k hk=>(j.block k (by omega) (by omega)).trans (v.block k hk)⟩;have hat:=HAT.o G i o a;rw[a6.o] at hat;have ao:=(j.block w (by omega) (by omega)).trans hL2;have hR1:=(j.block (w.heap.size+1) au (by omega)).trans hR2;clear hL2 hR2 v j a z a1 a0 au;have hL2:=ao;clear ao u;push_cast at hat;obtain⟨wt,rfl⟩:=aX G;exact orE
end Go.Proofs.YtimlgcodecgecaaGreatDoor
