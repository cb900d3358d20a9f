/- Plain law: cleaned ranges lie apart and in order; what minus leaves. -/
import Derived.Test.YtimlgcodecgecaaGreatDoorZ07
set_option maxRecDepth 100000
set_option maxHeartbeats 20000000
set_option linter.all false
namespace Go.Proofs.YtimlgcodecgecaaGreatDoor
open Go.RowKit Go.Lib
def yT(l:List zO):Prop:=(∀r∈l,r.rightB=true)/\l.Pairwise fun x y=>x.c<y.c\/(x.c=y.c/\x.b<y.a)
theorem za9{r:zO}(h:r.rightB=true):r.a<r.b/\1<=r.a/\r.b<=9007199254740992/\1<=r.c/\r.c<=9007199254740991:=by simp[zO.rightB,xi] at h;omega
theorem zrx{f:List zO}{r:zO}(q:yT f)(j:r.rightB=true)(o:∀c,f.getLast?=some c->c.c<r.c\/(c.c=r.c/\c.a<=r.a)):
 yT (y9 f r)/\∀b,(y9 f r).getLast?=some b->b.c=r.c/\b.a<=r.a:=by
 unfold y9;cases hl:f.getLast? with
 |none=>
  have:f= []:=by simpa using hl
  subst this;refine⟨⟨by simpa using j,oh⟩,fun b e=> ?_⟩;obtain rfl:r=b:=oaZ;exact⟨rfl,qj _⟩
 |some c=>
  obtain⟨v,rfl⟩:=List.getLast?_eq_some_iff.1 hl;obtain⟨k,l⟩:=q;obtain⟨s,_,m⟩:=zbJ.1 l;have x:=za9 (k c oh);have u:=za9 j;have p:=o c hl;dsimp only;split
  ·rename_i g;rw[zhW];refine⟨⟨fun d a=> ?_,zbJ.2 ⟨s,oh,fun d a b e=> ?_⟩⟩,fun b e=> ?_⟩
   ·rcases xX.1 a with a|a
    ·exact k d (by simp[a])
    ·obtain rfl:d=_:=(by simpa using a);exact(zl5 (i:=⟨0,0⟩) (k c oh) j g.1 oa g.2).1
   ·obtain rfl:b=_:=(by simpa using e);exact m d a c oh
   ·obtain rfl:_=b:=(by simpa using e);exact⟨g.1,by show c.a<=r.a;omega⟩
  ·rename_i g;refine⟨⟨fun d a=> ?_,zbJ.2 ⟨l,oh,fun d a b e=> ?_⟩⟩,fun b e=> ?_⟩
   ·rcases xX.1 a with a|a
    ·exact k d a
    ·obtain rfl:d=_:=(by simpa using a);exact j
   ·obtain rfl:b=_:=(by simpa using e);have t:c.c<b.c\/(c.c=b.c/\c.b<b.a):=by
     rcases p with h|⟨h,_⟩
     ·exact .inl h
     ·exact .inr ⟨h,Int.not_le.1 fun n=>g ⟨h,n⟩⟩
    rcases xX.1 a with a|a
    ·have w:=m d a c oh;omega
    ·obtain rfl:d=_:=(by simpa using a);exact t
   ·obtain rfl:r=b:=(by simpa using e);exact⟨rfl,qj _⟩
theorem zmY:∀(d e:List zO),yT e->(∀b∈d,b.rightB=true)->d.Pairwise (fun a c=>a.c<c.c\/(a.c=c.c/\a.a<=c.a))->
 (∀a,e.getLast?=some a->∀b∈d,a.c<b.c\/(a.c=b.c/\a.a<=b.a))->yT (d.foldl y9 e)
 | [],e,g,_,_,_=>g
 |b::d,e,g,h,q,o=>by obtain⟨l,p⟩:=yr.1 q;obtain⟨m,i⟩:=zrx g (h b oh) fun a n=>o a n b oh;refine zmY d _ m (fun c f=>h c obt) p fun j k c f=> ?_;have:=i j k;have:=l c f;omega
theorem zmZ{l d:List zO}(f:d.Perm (l.filter zO.rightB))(e:za4 d):yT (jf d):=by refine zmY d [] ⟨oh,oh⟩ (fun h b=>(zcu.1 (f.mem_iff.1 b)).2) (e.imp fun {g i} c=> ?_) oh;rw[za3] at c;omega
def zO.inR(x:zO)(i:zF):Prop:=x.c=i.c/\x.a<=i.k/\i.k<x.b
def zO.near(x:zO):Prop:=1<=x.c/\x.c<=9007199254740991/\1<=x.a/\x.b<=9007199254740992
theorem zaF{x:zO}(a:x.near)(i:zF):x.hasB i=true↔x.inR i:=by obtain⟨d,b,e,c⟩:=a;simp only[zO.hasB,zO.rightB,xi,zO.inR,xr,xW];omega
theorem zbY{x:zO}(h:x.rightB=true):x.near:=by have:=za9 h;exact⟨oa,oa,oa,oa⟩
def qU(s:List zO×zO)(y:zO):List zO×zO:=if s.2.c≠y.c\/y.b<=s.2.a\/s.2.b<=y.a then s else(s.1++[⟨s.2.c,s.2.a,y.a⟩],⟨s.2.c,y.b,s.2.b⟩)
def jx(b a:List zO)(x:zO):List zO:=(b.foldl qU (a,x)).1++[(b.foldl qU (a,x)).2]
def zgh(a b:List zO):List zO:=a.foldl (jx b) []
theorem zry(s:List zO×zO)(y:zO):(qU s y).1.length<=s.1.length+1:=by unfold qU;split<;> simp
theorem zgi:∀(b:List zO) (s:List zO×zO),(b.foldl qU s).1.length<=s.1.length+b.length
 | [],s=>oh
 |y::b,s=>by rw[yu];have:=zgi b (qU s y);have:=zry s y;simp;omega
theorem zrz(b a:List zO)(x:zO):(jx b a x).length<=a.length+b.length+1:=by have:=zgi b (a,x);simp[jx];simpa using this
theorem ziq(b:List zO):∀(a c:List zO),(a.foldl (jx b) c).length<=c.length+a.length*(b.length+1)
 | [],c=>oh
 |d::a,c=>by rw[yu,z7,zcM];have:=ziq b a (jx b c d);have:=zrz b c d;omega
theorem zma(l m:List zO)(i:zF):xq (l++m) i=(xq l i || xq m i):=by simp[xq]
theorem zmb(x:zO)(i:zF):xq [x] i=x.hasB i:=by simp[xq]
theorem zir(i:zF):∀(b j:List zO) (x:zO),x.near->yT b->
 let q:=b.foldl qU (j,x)
 q.2.near/\(xq (q.1++[q.2]) i=true↔xq j i=true\/(x.inR i/\¬xq b i=true))
 | [],j,x,m,_=>by refine⟨m,?_⟩;show xq (j++[x]) i=true↔_;rw[zma,zmb,qx,zaF m];simp[xq]
 |c::b,j,x,m,C=>by
  obtain⟨v,H⟩:=C;obtain⟨I,F⟩:=yr.1 H;have w:=v c oh;have W:=za9 w;have r:yT b:=⟨fun o p=>v o (by simp[p]),F⟩;have A:xq (c::b) i=true↔c.inR i\/xq b i=true:=by rw[<-zaF (zbY w)];simp[xq]
  dsimp only;rw[yu];unfold qU;dsimp only;split
  ·rename_i n;obtain⟨s,l⟩:=zir i b j x m r;refine⟨s,?_⟩;unfold qU at l;rw[l,A];refine or_congr Iff.rfl ⟨fun⟨k,f⟩=>⟨k,fun a=> ?_⟩,fun⟨k,f⟩=>⟨k,fun a=>f (.inr a)⟩⟩;rcases a with a|a
   ·obtain⟨e,g,h⟩:=k;obtain⟨z,y,t⟩:=a;omega
   ·exact f a
  ·rename_i n;have R:x.c=c.c:=Classical.not_not.1 fun d=>n (.inl d);have X:x.a<c.b:=Int.not_le.1 fun d=>n (.inr (.inl d));have T:c.a<x.b:=Int.not_le.1 fun d=>n (.inr (.inr d));obtain⟨u,B,E,D⟩:=m;have M:(⟨x.c,x.a,c.a⟩:zO).near:=⟨u,B,E,by show c.a<=_;omega⟩;have L:(⟨x.c,c.b,x.b⟩:zO).near:=⟨u,B,by show 1<=c.b;omega,D⟩;obtain⟨s,l⟩:=zir i b (j++[⟨x.c,x.a,c.a⟩]) ⟨x.c,c.b,x.b⟩ L r;refine⟨s,?_⟩;unfold qU at l;rw[l,A,zma,zmb,qx,zaF M,or_assoc];refine or_congr Iff.rfl ⟨fun d=> ?_,fun⟨k,f⟩=> ?_⟩
   ·rcases d with d|⟨d,f⟩
    ·obtain⟨e,g,h⟩:=d;dsimp only at e g h;refine⟨⟨e,g,oa⟩,fun a=> ?_⟩;rcases a with⟨z,y,t⟩|a
     ·omega
     ·obtain⟨o,p,J⟩:=zcD.1 a;obtain⟨V,O,N⟩:=(zaF (zbY (r.1 o p)) i).1 J;have:=I o p;omega
    ·obtain⟨e,g,h⟩:=d;dsimp only at e g h;refine⟨⟨e,oa,h⟩,fun a=> ?_⟩;rcases a with⟨z,y,t⟩|a
     ·omega
     ·exact f a
   ·obtain⟨e,g,h⟩:=k;by_cases K:i.k<c.a
    ·exact .inl ⟨e,g,K⟩
    ·refine .inr ⟨⟨e,?_,h⟩,fun a=>f (.inr a)⟩;show c.b<=i.k;exact Int.not_lt.1 fun G=>f (.inl ⟨oa,oa,G⟩)
theorem zmc(i:zF)(b:List zO)(k:yT b):∀(a g:List zO),(∀c∈a,c.near)->
 (xq (a.foldl (jx b) g) i=true↔xq g i=true\/((∃c∈a,c.inR i)/\¬xq b i=true))
 | [],g,_=>oh
 |c::a,g,l=>by
  rw[yu,zmc i b k a _ fun h d=>l h jj];have f:=(zir i b g c (l c oh) k).2;unfold jx;rw[f,or_assoc];refine or_congr Iff.rfl ⟨fun f=> ?_,fun⟨⟨h,d,j⟩,e⟩=> ?_⟩
  ·rcases f with⟨f,e⟩|⟨⟨h,d,j⟩,e⟩
   ·exact⟨⟨c,oh,f⟩,e⟩
   ·exact⟨⟨h,jj,j⟩,e⟩
  ·rcases xK.1 d with rfl|d
   ·exact .inl ⟨j,e⟩
   ·exact .inr ⟨⟨h,d,j⟩,e⟩
theorem zr0{a b:List zO}(e:yT a)(j:yT b)(i:zF):xH (zgh a b) i=(xH a i && !xH b i):=by
 have g:=zmc i b j a [] fun c d=>zbY (e.1 c d);have k:(∃c∈a,c.inR i)↔xq a i=true:=by rw[xq,zcD];exact⟨fun⟨c,d,f⟩=>⟨c,d,(zaF (zbY (e.1 c d)) i).2 f⟩,fun⟨c,d,f⟩=>⟨c,d,(zaF (zbY (e.1 c d)) i).1 f⟩⟩
 rw[k] at g;have h:xq (zgh a b) i=(xq a i && !xq b i):=by rw[zaK,zgh,g];simp[xq]
 show(i.rightB && xq (zgh a b) i)=((i.rightB && xq a i) && !(i.rightB && xq b i));rw[h];cases i.rightB<;> simp
theorem zgj{l:List zO}(b:yT l)(c:∀f,xH l f=false):l= []:=by
 cases l with
 |nil=>rfl
 |cons a l=>
  have d:=za9 (b.1 a oh);have:=c ⟨a.c,a.a⟩;have e:a.hasB ⟨a.c,a.a⟩=true:=(zaF (zbY (b.1 a oh)) _).2 ⟨rfl,qj _,d.1⟩;have g:(⟨a.c,a.a⟩:zF).rightB=true:=oX;simp[xH,e,g] at this
theorem zkb(v:zJ)(l:List zL)(w:zC)(c:zc 4 zb w v l)(d:l.length<=4000):
 Calls zD 29 #[v] w (vu 68 4 zb (zz l []) w):=by
 have b:=zt0 v () l [] w c (.inl ⟨rfl,rfl⟩) obr;go_enter Tryz.func29,Tryz.ntmps29;go_wp2_with (go_at_call 85;refine b.mono ?_;rintro g h ⟨f,rfl,e,a⟩);go_ret;exact⟨_,rfl,e,a⟩
theorem zt1(q k:zJ)(a b:List zL)(w:zC)(i:zc 4 zb w q a)(hb:zc 4 zb w k b)(C:a.length+b.length<=4000):
 Calls zD 43 #[q,k] w (vu 68 4 zb (zz (a++b) []) w):=by
 obtain⟨M,O,rfl,_,_⟩:=i.shape;obtain⟨F,u,rfl,_,_⟩:=hb.shape;have B:=zA hb;have f:=zA C;go_enter Tryz.func43,Tryz.ntmps43;go_wp2_with (at_builtin;refine yz zaR rfl _ _ rfl w.heap.size _ [] rfl zG.nil _ a rfl i (by have:=f.o;simp only[xB];omega) (zU _) ?_);intro L K e d A;obtain⟨s,z,rfl⟩:=e.len;have n:=zA e;have g:=zA d;have v:=zA (B.o.keep d.size fun b I N J c y=>d.block b y (by intro c;cases c));clear e d A;have r:([]++a).length+b.length<=100000000:=by have:=f.o;simp only[xu];omega
 have t:=zA r;clear r;go_wp2_with (at_builtin;refine yz zaR rfl _ _ rfl w.heap.size (.slice s a.length z) a rfl n.o (.slice F b.length u) b rfl v.o t.o g.o.size ?_);intro D j p m x;have l:Below w w j:=((zf _ _).grown g.o (zU _) (fun b c=>by cases c)).grown m g.o.size (fun b c=>n.o.ge c);have h:=zkb D (a++b) j (p.slice zaR.len) (by have:=f.o;simp;omega);have o:=zA l;clear l m x p;go_wp2_with (go_at_call 29;refine h.mono ?_;rintro c w3 ⟨H,rfl,E,G⟩);go_ret;exact⟨_,rfl,E.any o.o.size,zK o.o G⟩
def vQ(x y:zO):Bool:=decide (x.c<y.c) || (decide (x.c=y.c) && decide (x.a<y.a))
theorem zht{x y:zO}:vQ x y=true↔x.cmp y<0:=by rw[za3];simp[vQ]
def zcR(s:List zO)(x:zO):List zO:=s.takeWhile (fun y=>!vQ x y)++x::s.dropWhile (fun y=>!vQ x y)
def j4(s:List zO)(x:zO):List zO:=if x.rightB then zcR s x else s
theorem zt2(s:List zO)(x:zO):(zcR s x).Perm (x::s):=by unfold zcR;have:=List.perm_middle (a:=x) (l₁:=s.takeWhile fun y=>!vQ x y) (l₂:=s.dropWhile fun y=>!vQ x y);rwa[zhQ] at this
theorem zt3{s:List zO}(b:za4 s)(x:zO):za4 (zcR s x):=by
 refine zom _ (fun c g h e d=> ?_) _ x (fun c a=> ?_) (fun c a=> ?_) s b (fun _ b=>b)
 ·rw[za3] at e d ⊢;omega
 ·rw[<-zht];simpa using a
 ·have f:vQ x c=true:=by simpa using a
  rw[zht,za3] at f;rw[za3];omega
theorem zfu:∀(l s:List zO),za4 s->za4 (l.foldl j4 s)/\(l.foldl j4 s).Perm (s++l.filter zO.rightB)
 | [],s,c=>⟨c,oh⟩
 |a::l,s,c=>by
  simp only[yu,zeS];by_cases b:a.rightB=true
  ·have d:=zfu l (zcR s a) (zt3 c a);rw[zP b,show j4 s a=zcR s a from zP b];refine⟨d.1,d.2.trans ?_⟩;refine((zt2 s a).append_right _).trans ?_;simp only[yD];exact List.perm_middle.symm
  ·rw[zN b,show j4 s a=s from zN b];exact zfu l s c
theorem zkc(l:List zO):(l.foldl j4 []).length<=l.length:=by have:=(zfu l [] List.Pairwise.nil).2.length_eq;rw[this];simp only[xu];exact jV _ _
def xf(l:List zO):List zO:=jf (l.foldl j4 [])
theorem zdj(l:List zO):yT (xf l)/\∀i,xH (xf l) i=xH l i:=by have h:=zfu l [] List.Pairwise.nil;rw[xu] at h;exact⟨zmZ h.2 h.1,zl8 h.2 h.1⟩
theorem zdk(l:List zO):(xf l).length<=l.length:=zk (zie _) (zkc l)
theorem zfv{α:Type}(f:α->Bool):∀(s:List α) (k:Nat),k<=s.length->(∀b a,b<k->s[b]?=some a->f a=true)->(∀a,s[k]?=some a->f a=false)->s.takeWhile f=s.take k/\s.dropWhile f=s.drop k
 | [],k,g,_,_=>oh
 |a::s,0,_,_,l=>by have:=l a rfl;simp[zff,zfg,this]
 |a::s,k+1,g,h,i=>by have j:=h 0 a oa rfl;have e:=zfv f s k (by simpa using g) (fun b c m d=>h (b+1) c oa obr) (fun c d=>i c obr);simp[zff,zfg,j,e.1,e.2]
theorem znl{s:List zO}(g:za4 s){j k:Nat}{a z:zO}(f:j<k)(e:s[j]?=some a)(c:s[k]?=some z):¬vQ z a=true:=by rw[zht];have d:j<s.length:=(zw.1 e).1;have b:k<s.length:=(zw.1 c).1;have:=zbi.1 g j k d b f;rw[show s[j]=a by simpa[d] using e,show s[k]=z by simpa[b] using c] at this;exact this
theorem znm{x a z:zO}(c:vQ x a=true)(b:¬vQ z a=true):vQ x z=true:=by rw[zht,za3] at c b ⊢;omega
theorem zG.setR{base:Nat}{w:zC}{g n cap i:Nat}{l:List zO}(x:zO)(d:zG base 154 3 zY w (.slice (some g) n cap) l)(b:i<l.length):
 zG base 154 3 zY (((w.setCell (g,i*3) x.c).setCell (g,i*3+1) x.a).setCell (g,i*3+2) x.b) (.slice (some g) n cap) (l.set i x):=by
 obtain⟨a,e⟩:∃a,l[i]?=some a:=⟨l[i],jA⟩;have f:=zG.set (k:=3) (i:=0) (x:=a) (z:=⟨x.c,a.a,a.b⟩) (u:=x.c) (fun _=>rfl) d e oa rfl;have c:=zG.set (k:=3) (i:=1) (x:=⟨x.c,a.a,a.b⟩) (z:=⟨x.c,x.a,a.b⟩) (u:=x.a) (fun _=>rfl) f (by rw[zdc b]) oa rfl;have h:=zG.set (k:=3) (i:=2) (x:=⟨x.c,x.a,a.b⟩) (z:=x) (u:=x.b) (fun _=>rfl) c (by rw[zdc (by simpa using b)]) oa rfl;simpa using h
theorem zeg{w:zC}{g i:Nat}{x:zO}(h:∀j y,(zY x)[j]?=some y->w.cell? (g,i*3+j)=some y):
 w.cell? (g,i*3)=x.c/\w.cell? (g,i*3+1)=x.a/\w.cell? (g,i*3+2)=x.b:=
 ⟨h 0 _ rfl,h 1 _ rfl,h 2 _ rfl⟩
def zeh:zO:=⟨0,0,0⟩
theorem zt4(l:List zO)(z x:zO):y9 (l++[z]) x=if z.c=x.c/\x.a<=z.b then l++[⟨z.c,z.a,max z.b x.b⟩] else l++[z]++[x]:=by unfold y9;rw[zeN];simp only[zhW]
theorem clA {p:Prop}(h:p:=by
 refine aQ ?_;intro W' hC' hBW';have HBW:=zA hBW';have u0:W'.cell? (g,k*3)=x.c:=s0 ⟨W',hBW'⟩;have u1:W'.cell? (g,k*3+1)=x.a:=s1 ⟨W',hBW'⟩;have u2:W'.cell? (g,k*3+2)=x.b:=s2 ⟨W',hBW'⟩;clear hBW' s0 s1 s2 hC';go_wp2_with (at_builtin;refine yz zaB rfl _ _ rfl W4.heap.size (.slice (some go) (m0+1) oc) (l0++[z]) rfl ((zG.blk HO.o fun b e=>HBW.o.block b (HO.o.lt e)).al _) (.slice (some W') 1 1) [x] rfl (zc.one (k:=3) (enc:=zY) W' x 154) oaG oR ?_);intro v5 w5 ho5 hg5 hv5;have HM5:=zA (show Below W4 W4 w5 from(HB.o.trans ((HBW.o.alloc HBW.o.size _).mono HB.o.size)).grown hg5 oR (fun b e=>HO.o.ge e));clear hg5 hv5;go_wp2;go_roundw;case rel=>exact⟨k+1,_,oa,ou,rfl,by rw[HT.o,HJ.o];simpa using ho5,HM5.o⟩
 case measure=>simp[intOf];omega):p:=h
theorem zt5(v:zJ)(l:List zO)(w:zC)(bo:zc 3 zY w v l)(bA:l.length<=1000000):
 Calls zD 103 #[v] w (vu 154 3 zY (xf l) w):=by
 obtain⟨p,cJ,rfl,bq,bx⟩:=bo.shape;have aw:=fun ce R=>zkT ce R;have bR:=zA bx;have cd:=zA bA;clear bx bo bq bA;go_enter Tryz.func103,Tryz.ntmps103;go_wp2;go_loopw [3,4] (fun ax M wr=>∃(k:Nat) (J:zJ),k<=l.length/\M=zB k/\J=ax/\zG w 154 3 zY wr J ((l.take k).foldl j4 [])/\Below w w wr) (fun _ M _=>l.length - (intOf M).toNat);case atStart=>exact⟨0,_,xO _,rfl,rfl,zG.nil,zf _ _⟩
 case round=>
  obtain⟨k,J,b8,rfl,rfl,B,m⟩:=hrel;have cO:=cd.o;by_cases bg:k<l.length
  ·obtain⟨x,ab⟩:∃x,l[k]?=some x:=⟨l[k],by simp[bg]⟩;obtain⟨b,j,rfl,y,r⟩:=bR.o k x ab;have HT:=zA (show(l.take (k+1)).foldl j4 []=j4 ((l.take k).foldl j4 []) x by rw[zas ab,vK];rfl);have aa:=zA (show((l.take k).foldl j4 []).length<=1000000 by have:=zkc (l.take k);simp only[yn] at this;omega);have a4:=zA (zfu (l.take k) [] List.Pairwise.nil).1;generalize(l.take k).foldl j4 []=d at B HT aa a4;obtain⟨a5,bf,rfl⟩:=B.len;have al:b<wr:=zg y m.size;have bS:wr.cell? (b,j+k*3)=x.c:=(m.cell (p:=(b,j+k*3)) y).trans (r 0 _ rfl);have bn:wr.cell? (b,j+k*3+1)=x.a:=(m.cell (p:=(b,j+k*3+1)) y).trans (r 1 _ rfl);have br:wr.cell? (b,j+k*3+2)=x.b:=(m.cell (p:=(b,j+k*3+2)) y).trans (r 2 _ rfl);have av:=aw x;have bh:=zA m;have HO:=zA B;clear r B m;obtain⟨O,af⟩:=aY x.rightB;have bp:=zA (show j4 d x=if O then zcR d x else d by rw[<-af];rfl);rw[af] at av;clear af;have cF:(!false)=true:=rfl;have cM:(!true)=false:=rfl;cases O
   ·go_wp2_with (go_at_call 131;refine(av _).mono ?_;rintro e W ⟨rfl,D⟩);go_roundw;case rel=>exact⟨k+1,_,oa,ou,rfl,by rw[HT.o,bp.o];exact zG.blk HO.o fun b e=>D.block b (HO.o.lt e),zK bh.o D⟩
    case measure=>simp[intOf];omega
   ·go_upto_region 6 with(go_at_call 131;refine(av _).mono ?_;rintro e W ⟨rfl,D⟩);have b5:=zA (zK bh.o D);have bi:=zA (zG.blk HO.o fun b e=>D.block b (HO.o.lt e));have V:b<W:=zg al D.size;have ak:W.cell? (b,j+k*3)=x.c:=(D.cell (p:=(b,j+k*3)) al).trans bS;have au:W.cell? (b,j+k*3+1)=x.a:=(D.cell (p:=(b,j+k*3+1)) al).trans bn;have aj:W.cell? (b,j+k*3+2)=x.b:=(D.cell (p:=(b,j+k*3+2)) al).trans br;have bF:=aa.o;clear bS bn br av D HO bh aw;go_wp2;go_loopw [5,6] (fun a3 a9 wr=>∃o t:Nat,o<=t/\t<=d.length/\a3=zB o/\a9=zB t/\qP (∀n f,n<o->d[n]?=some f->vQ x f=false)/\qP (∀n f,t<=n->d[n]?=some f->vQ x f=true)/\Below W W wr) (fun a3 a9 _=>(intOf a9).toNat - (intOf a3).toNat);case atStart=>exact⟨0,d.length,xO _,zU _,rfl,rfl,zA (fun n f h=>oa),zA (fun n f h s=>by rw[vp h] at s;cases s),zf _ _⟩
    case round=>
     obtain⟨o,t,cI,aH,rfl,rfl,a8,bd,m⟩:=hrel;have bF:=aa.o;have I:b<wr:=zg V m.size;by_cases cB:o<t
     ·obtain⟨a,bD⟩:=aY ((o+t) / 2);have cK:o<=a/\a<t:=oa;obtain⟨f,s⟩:∃f,d[a]?=some f:=⟨d[a]'(oa),by simp[show a<d.length by omega]⟩;obtain⟨g,rfl,G,_,_,bP⟩:=zG.elem zaB.len bi.o s;obtain⟨ac,ad,L⟩:=zeg bP;have H:g<wr:=zg G m.size;have s0:∀q:zM wr,q.val.cell? (b,j+k*3)=x.c:=zM.cell I ((m.cell (p:=(b,j+k*3)) V).trans ak);have s1:∀q:zM wr,q.val.cell? (b,j+k*3+1)=x.a:=zM.cell I ((m.cell (p:=(b,j+k*3+1)) V).trans au);have s2:∀q:zM wr,q.val.cell? (b,j+k*3+2)=x.b:=zM.cell I ((m.cell (p:=(b,j+k*3+2)) V).trans aj);have bU:∀q:zM wr,q.val.cell? (g,a*3)=f.c:=zM.cell H ((m.cell (p:=(g,a*3)) G).trans ac);have cR:∀q:zM wr,q.val.cell? (g,a*3+1)=f.a:=zM.cell H ((m.cell (p:=(g,a*3+1)) G).trans ad);have a6:∀q:zM wr,q.val.cell? (g,a*3+2)=f.b:=zM.cell H ((m.cell (p:=(g,a*3+2)) G).trans L);obtain⟨bG,bl⟩:=aY (vQ x f);have bQ:∀R,Calls zD 180 #[.agg #[x.c,x.a,x.b],.agg #[f.c,f.a,f.b]] R fun e bW=>e= .returned (.bool bG)/\Below R R bW:=fun R=>(by rw[<-bl];exact zts x f R);have cC:((o:Int)+t) / 2=(a:Int):=oa;have cc:((o:Int)+t).tdiv 2=(a:Int):=(by rw[Int.tdiv_eq_ediv_of_nonneg (by omega)];omega);have cm:decide ((a:Int)<d.length)=true:=oi;have cT:(0:Int)<=(a:Int):=oa;have E:a<d.length:=oa;have cv:=zA bD;have bJ:=zA m;have am:=zA bl;have ai:=zA s;clear ac ad L bP bl m bD s ak au aj;cases bG
      ·go_wp2;refine aG ?_;repeat(first|go_big_quiet_skip|(go_big_quiet_want;go_big_quiet_op;first|go_big_quiet_on|go_big_quiet_call ((go_at_call 180;exact xl (bQ _)))))
       refine aE ?_;intro W' hC' hBW';go_wp2;go_roundw;case rel=>
        refine⟨a+1,t,oa,aH,ou,rfl,zA (fun n z a2 T=> ?_),bd,zK bJ.o hBW'⟩
        rcases qs n a with g|g
        ·have h1:=znl a4.o g T ai.o;cases hlz:vQ x z
         ·rfl
         ·exact absurd (znm hlz h1) (by rw[am.o];simp)
        ·obtain rfl:n=a:=(by omega);rw[ai.o] at T;cases T;exact am.o
       case measure=>simp[intOf];omega
      ·go_wp2;refine aG ?_;repeat(first|go_big_quiet_skip|(go_big_quiet_want;go_big_quiet_op;first|go_big_quiet_on|go_big_quiet_call ((go_at_call 180;exact xl (bQ _)))))
       refine aE ?_;intro W' hC' hBW';go_wp2;go_roundw;case rel=>
        refine⟨o,a,oa,oa,rfl,ou,a8,zA (fun n z a2 T=> ?_),zK bJ.o hBW'⟩
        rcases qs a n with g|g
        ·exact znm am.o (znl a4.o g ai.o T)
        ·obtain rfl:n=a:=(by omega);rw[ai.o] at T;cases T;exact am.o
       case measure=>simp[intOf];omega
     ·obtain rfl:o=t:=(by omega);have b4:=zA (show zcR d x=d.take o++x::d.drop o by have h1:=zfv (fun f=>!vQ x f) d o aH (fun n f a2 s=>by simp[a8.o n f a2 s]) (fun f s=>by simp[bd.o o f (zU _) s]);unfold zcR;rw[h1.1,h1.2]);have ah:=zA (zG.blk bi.o fun b e=>m.block b (bi.o.lt e));have aZ:=zA (zK b5.o m);have ag:=zA aZ.o.size;have bB:wr.cell? (b,j+k*3)=x.c:=(m.cell (p:=(b,j+k*3)) V).trans ak;have bT:wr.cell? (b,j+k*3+1)=x.a:=(m.cell (p:=(b,j+k*3+1)) V).trans au;have bK:wr.cell? (b,j+k*3+2)=x.b:=(m.cell (p:=(b,j+k*3+2)) V).trans aj;obtain⟨X,ba⟩:∃X:Nat->Prop,qP (X=fun k=>(Value.slice a5 d.length bf).ownBlock=some k):=⟨_,zA rfl⟩;have ao:=zA (show ∀b,X b->w.heap.size<=b/\b<wr.heap.size from fun b e=>by rw[ba.o] at e;exact⟨ah.o.ge e,ah.o.lt e⟩);have cp:=zA (show[zeh].length=1 from rfl);clear ak au aj m a8 bd;go_upto_region 12 with fail;go_wp2_with (at_builtin;refine yz zaB rfl _ _ rfl w.heap.size (.slice a5 d.length bf) d rfl ((ah.o).al _) (.slice (some wr) 1 1) [zeh] rfl (zc.one (k:=3) (enc:=zY) wr zeh 154) (by have:=aa.o;simp only[z7,xB];omega) (by have:=ag.o;simp;omega) ?_);intro v5 w5 ho5 hg5 hv5;obtain⟨cA,bV,rfl⟩:=ho5.len;obtain⟨C,ci,cG,cs,_,_⟩:=zG.elem zaB.len ho5 (j:=d.length) (x:=zeh) oh;subst ci;have bs:(d++[zeh]).length=d.length+1:=oh;rw[bs] at ho5 ⊢;have HM5:=zA (show Mods X wr w5 from((Mods.refl _ wr).alloc _).grown hg5 (fun b e=> .inl (by rw[ba.o];exact e)));have bE:=zA (show X C\/wr<=C from by
       rcases hv5 with e|e
       ·left;rw[ba.o];exact e.symm
       ·right;have e:=zaJ e;simp at e;omega)
      have ch:=zA ho5;have aP:b<w5:=zg I HM5.o.size;have a0:b≠C:=oa;have aq:¬X b:=fun e=>(by have:=(ao.o b e).1;omega);have bI:w5.cell? (b,j+k*3)=x.c:=(xA (w:=wr) (HM5.o.block b I aq)).trans bB;have bH:w5.cell? (b,j+k*3+1)=x.a:=(xA (w:=wr) (HM5.o.block b I aq)).trans bT;have bO:w5.cell? (b,j+k*3+2)=x.b:=(xA (w:=wr) (HM5.o.block b I aq)).trans bK;clear ho5 hg5 hv5 bs bB bT bK aq;obtain⟨bC,bN⟩:∃bC:zC,bC=wr:=⟨_,rfl⟩;rw[<-bN] at ah aZ ag ao HM5 bE I;clear bN;go_wp2;go_loopw [8] (fun bc wr=>∃(a:Nat) (c:zO),o<=a/\a<=d.length/\bc=zB a/\zG w 154 3 zY wr (.slice (some C) (d.length+1) bV) (d.take a++c::d.drop a)/\qP (Mods (fun b=>b=C) w5 wr)) (fun bc _=>(intOf bc).toNat);case atStart=>exact⟨d.length,zeh,aH,zU _,ou,by simpa using ch.o,zA (Mods.refl _ _)⟩
      case round=>
       obtain⟨a,c,cL,E,rfl,N,ae⟩:=hrel;have bF:=aa.o;by_cases cQ:o<a
       ·obtain⟨a,rfl⟩:∃b9,a=b9+1:=⟨a - 1,oa⟩;obtain⟨f,s⟩:∃f,d[a]?=some f:=⟨d[a]'(oa),by simp[show a<d.length by omega]⟩;obtain⟨L,bb,_,_,F,r⟩:=zG.elem zaB.len N (j:=a) (x:=f) (by rw[zin d (a+1) c a (by omega) E];exact s);cases bb;obtain⟨bX,bY,cl⟩:=zeg r;obtain⟨cD,ca,_,_,_,bz⟩:=zG.elem zaB.len N (j:=a+1) (x:=c) (by rw[zd9 d (a+1) c E]);cases ca;obtain⟨cr,cH,cN⟩:=zeg bz;have cn:=F ((a+1)*3);have O:=F ((a+1)*3+1);have ar:=F ((a+1)*3+2);have K:=N.setR (i:=a+1) f (by rw[zeA d (a+1) c E];omega);rw[zim d a c f E s] at K;have Z:=zA K;have bj:=zA (((ae.o.setAt (p:=(C,(a+1)*3)) (.inl rfl) f.c).setAt (p:=(C,(a+1)*3+1)) (.inl rfl) f.a).setAt (p:=(C,(a+1)*3+2)) (.inl rfl) f.b);clear K N F r bz;have co:((a+1:Nat):Int) - 1=a:=oa;have cS:(0:Int)<=(a:Int):=oa;have cE:decide ((o:Int)<(a:Int)+1)=true:=oi;go_wp2;go_roundw;case rel=>exact⟨a,f,oa,oa,ou,Z.o,bj⟩
        case measure=>simp[intOf]<;> omega
       ·obtain rfl:a=o:=(by omega);have cw:decide ((a:Int)<a)=false:=oh;obtain⟨L,bb,cP,_,F,r⟩:=zG.elem zaB.len N (j:=a) (x:=c) (by rw[zd9 d a c E]);cases bb;obtain⟨bX,bY,cl⟩:=zeg r;have cn:=F (a*3);have O:=F (a*3+1);have ar:=F (a*3+2);have be:wr.cell? (b,j+k*3)=x.c:=(xA (w:=w5) (ae.o.block b aP a0)).trans bI;have bt:wr.cell? (b,j+k*3+1)=x.a:=(xA (w:=w5) (ae.o.block b aP a0)).trans bH;have a7:wr.cell? (b,j+k*3+2)=x.b:=(xA (w:=w5) (ae.o.block b aP a0)).trans bO;have K:=N.setR (i:=a) x (by rw[zeA d a c E];omega);rw[zio d a c x E,<-b4.o] at K;have Z:=zA K;have bj:=zA (((ae.o.setAt (p:=(C,a*3)) (.inl rfl) x.c).setAt (p:=(C,a*3+1)) (.inl rfl) x.a).setAt (p:=(C,a*3+2)) (.inl rfl) x.b);clear K N F r bI bH bO;go_wp2;go_roundw;case rel=>
         refine⟨k+1,_,oa,ou,rfl,by rw[HT.o,bp.o];exact Z.o,?_⟩
         refine(aZ.o.trans (HM5.o.lowB ag.o fun b e=>(ao.o b e).1)).trans (bj.o.lowB (zk ag.o HM5.o.size) fun b e=> ?_)
         subst e
         rcases bE.o with e|e
         ·exact(ao.o _ e).1
         ·have:=ag.o;omega
        case measure=>simp[intOf];omega
  ·have cj:=zA (show k=l.length by omega);have ap:zG w 154 3 zY wr J (l.foldl j4 []):=(by have:=B;rw[cj.o,qJ] at this;exact this);have bu:=zA (show xf l=jf (l.foldl j4 []) from rfl);have bL:=zA (show(l.foldl j4 []).length<=1000000 by have:=zkc l;omega);generalize l.foldl j4 []=A at ap bu bL;obtain⟨a5,bf,rfl⟩:=ap.len;have b7:=zA ap;have az:=zA m;clear ap B m aw bR;obtain⟨W4,rfl⟩:∃W4:zC,W4=wr:=⟨_,rfl⟩;go_wp2;go_loopw [9,10] (fun ax M wx=>∃(k:Nat) (J:zJ),k<=A.length/\M=zB k/\J=ax/\zG W4 154 3 zY wx J ((A.take k).foldl y9 [])/\Below W4 W4 wx) (fun _ M _=>A.length - (intOf M).toNat);case atStart=>exact⟨0,_,xO _,rfl,rfl,zG.nil,zf _ _⟩
   case round=>
    obtain⟨k,J,b8,rfl,rfl,B,y⟩:=hrel;have bq:=bL.o;by_cases bg:k<A.length
    ·obtain⟨x,ab⟩:∃x,A[k]?=some x:=⟨A[k],by simp[bg]⟩;obtain⟨g,rfl,G,_,_,r⟩:=zG.elem zaB.len b7.o ab;have HT:=zA (show(A.take (k+1)).foldl y9 []=y9 ((A.take k).foldl y9 []) x by rw[zas ab,vK];rfl);have HOL:=zA (show((A.take k).foldl y9 []).length<=1000000 by have:=zid (A.take k) [];simp only[yn,xB] at this;omega);generalize(A.take k).foldl y9 []=b3 at B HT HOL;obtain⟨cg,oc,rfl⟩:=B.len;obtain⟨ac,ad,L⟩:=zeg r;have H:g<wr:=zg G y.size;have s0:∀q:zM wr,q.val.cell? (g,k*3)=x.c:=zM.cell H ((y.cell (p:=(g,k*3)) G).trans ac);have s1:∀q:zM wr,q.val.cell? (g,k*3+1)=x.a:=zM.cell H ((y.cell (p:=(g,k*3+1)) G).trans ad);have s2:∀q:zM wr,q.val.cell? (g,k*3+2)=x.b:=zM.cell H ((y.cell (p:=(g,k*3+2)) G).trans L);have HO:=zA B;have HB:=zA y;clear r ac ad L B y;rcases zeM b3 with rfl|⟨l0,z,rfl⟩
     ·have HJ:=zA (show y9 [] x= []++[x] from rfl);go_upto_region 23 with fail;refine aQ ?_;intro W' hC' hBW';have HBW:=zA hBW';have u0:W'.cell? (g,k*3)=x.c:=s0 ⟨W',hBW'⟩;have u1:W'.cell? (g,k*3+1)=x.a:=s1 ⟨W',hBW'⟩;have u2:W'.cell? (g,k*3+2)=x.b:=s2 ⟨W',hBW'⟩;clear hBW' s0 s1 s2 hC';go_wp2_with (at_builtin;refine yz zaB rfl _ _ rfl W4.heap.size (.slice cg 0 oc) ([]) rfl ((zG.blk HO.o fun b e=>HBW.o.block b (HO.o.lt e)).al _) (.slice (some W') 1 1) [x] rfl (zc.one (k:=3) (enc:=zY) W' x 154) oaG oR ?_);intro v5 w5 ho5 hg5 hv5;have HM5:=zA (show Below W4 W4 w5 from(HB.o.trans ((HBW.o.alloc HBW.o.size _).mono HB.o.size)).grown hg5 oR (fun b e=>HO.o.ge e));clear hg5 hv5;go_wp2;go_roundw;case rel=>exact⟨k+1,_,oa,ou,rfl,by rw[HT.o,HJ.o];simpa using ho5,HM5.o⟩
      case measure=>simp[intOf];omega
     ·obtain⟨m0,an⟩:=aY l0.length;rw[zcn] at HO HOL HT ⊢;have Y:(l0++[z]).length=m0+1:=(by simp[an]);obtain⟨go,e,bv,cb,bw,bm⟩:=zG.elem (j:=m0) (x:=z) zaB.len HO.o (by rw[<-an];simp);subst e;obtain⟨be,bt,a7⟩:=zeg bm;have bU:=aU be;have a6:=aU a7;have cz:=zA Y;have E:m0+1<=1000000:=(by have:=HOL.o;rw[Y] at this;exact this);have ct:(m0:Int)+1 - 1=m0:=oa;have cc:(0:Int)<=(m0:Int):=oa;have cm:decide ((0:Int)<(m0:Int)+1)=true:=(by simp<;> omega);obtain⟨O,af⟩:=aY (((z.c:Int)==x.c));obtain⟨ar,b0⟩:=aY (decide (x.a<=z.b));have a1:=zA (show y9 (l0++[z]) x=if(O && ar)=true then l0++[⟨z.c,z.a,max z.b x.b⟩] else l0++[z]++[x] by rw[zt4,<-af,<-b0];simp only[xr,zeV,xW]);have bM:=zA an;clear be bt a7 bm an;rw[Y] at HO ⊢;cases O
      ·have HJ:=zA (a1.o.trans (zN oh));clear Y;go_upto_region 23 with fail;exact clA
      ·cases ar
       ·have HJ:=zA (a1.o.trans (zN oh));clear Y;go_upto_region 23 with fail;exact clA
       ·have HJ:=zA (a1.o.trans (zP oh));clear Y;go_upto_region 23 with fail;refine aQ ?_;intro W' hC' hBW';clear hC';go_upto_region 24 with fail;have u2:W'.cell? (g,k*3+2)=x.b:=s2 ⟨W',hBW'⟩;have b6:W'.cell? (go,m0*3+2)=z.b:=a6 ⟨W',hBW'⟩;have cx:g<W':=zg H hBW'.size;have cy:g≠go:=oa;have cu:W'.frozen? (go,m0*3+2)=false:=(hBW'.frozen (p:=(go,m0*3+2)) bv).trans (bw _);have cq:go<W':=zg bv hBW'.size;have bZ:=zA (zG.blk HO.o fun b e=>hBW'.block b (HO.o.lt e));have b2:=zA (HB.o.trans (hBW'.mono HB.o.size));clear s0 s1 s2 bU a6 hBW' bw;have cf:=aV u2;have ck:=aV b6;refine xU 15 [0,1,2,3,4,5,6,7,8,9,10,11,12,13] [14,15,16,17] zX (aM ?_);refine aR ?_;refine aS ?_;go_wp2;refine⟨zI.to (Mods.refl _ W').drew,?_⟩;refine aS ?_;go_wp2;refine aS ?_;go_wp2;refine aS ?_;go_wp2;refine xE ?_;have ay:=zG.set (k:=3) (enc:=zY) (i:=2) (x:=z) (z:=⟨z.c,z.a,max z.b x.b⟩) (u:= .int .u64 (max z.b x.b)) (fun _=>rfl) bZ.o.drew (j:=m0) (by rw[<-bM.o];simp) ol rfl;rw[show(l0++[z]).set m0 ⟨z.c,z.a,max z.b x.b⟩=l0++[⟨z.c,z.a,max z.b x.b⟩] by rw[<-bM.o,zdU _ _ (zU _)];simp] at ay;have Z:=zA ay;clear ay cf ck;go_wp2;go_roundw;case rel=>exact⟨k+1,_,oa,ou,rfl,by rw[HT.o,HJ.o];exact Z.o,b2.o.drew.setCell (p:=(go,m0*3+2)) cb _⟩
        case measure=>simp[intOf];omega
    ·have b1:=zA (show k=A.length by omega);go_wp2;go_ret;refine⟨_,rfl,?_,az.o.trans (y.mono az.o.size)⟩;have h1:=B.any az.o.size;rw[b1.o,qJ] at h1;rw[bu.o];exact h1
def zL.rg(t:zL):zO:=⟨t.c,t.a,t.b⟩
def qk(a:List zO)(t:zL):List zO:=if t.n % 2=1 then a++[t.rg] else a
def xL(l:List zL):List zO:=l.foldl qk []
theorem zdl:∀(l:List zL) (a:List zO),(l.foldl qk a).length<=a.length+l.length/\∀d,d∈l.foldl qk a↔d∈a\/∃b∈l,b.n % 2=1/\d=b.rg
 | [],a=>⟨oh,oh⟩
 |b::l,a=>by
  simp only[yu,z7];have c:=zdl l (qk a b);by_cases e:b.n % 2=1
  ·rw[show qk a b=a++[b.rg] from zP e] at c ⊢;refine⟨by have:=c.1;simp only[xY,z7,xB] at this;omega,fun d=> ?_⟩;rw[c.2];simp only[xX,xK,zfS,or_false];grind
  ·rw[show qk a b=a from zN e] at c ⊢;refine⟨by have:=c.1;omega,fun d=> ?_⟩;rw[c.2];simp only[xK];grind
theorem zc3(l:List zL):(xL l).length<=l.length:=by simpa[xL] using(zdl l []).1
theorem zt6(v:zJ)(l:List zL)(w:zC)(J:zc 4 zb w v l)(M:l.length<=4000)(B:(zz l []).length<=1000000):
 Calls zD 44 #[v] w (vu 154 3 zY (xf (xL (zz l []))) w):=by
 have E:=zkb v l w J M;have F:=(zah l).1.1;generalize zz l []=b at B E F ⊢;have aa:=zA B;have ag:=zA F;clear J M B F;go_enter Tryz.func44,Tryz.ntmps44;go_upto_region 3 with(go_at_call 29;refine E.mono ?_;rintro A e ⟨an,rfl,C,t⟩);obtain⟨ao,ar,rfl⟩:=C.len;have X:=zA C;have L:=zA t;clear C t E;go_wp2;go_loopw [3,4] (fun Z q wr=>∃(k:Nat) (o:zJ),k<=b.length/\q=zB k/\o=Z/\zG e 154 3 zY wr o ((b.take k).foldl qk [])/\Below e e wr) (fun _ q _=>b.length - (intOf q).toNat);case atStart=>exact⟨0,_,xO _,rfl,rfl,zG.nil,zf _ _⟩
 case round=>
  obtain⟨k,o,ax,rfl,rfl,g,d⟩:=hrel;have aH:=aa.o;by_cases ak:k<b.length
  ·obtain⟨a,r⟩:∃a,b[k]?=some a:=⟨b[k],by simp[ak]⟩;obtain⟨c,rfl,j,_,_,h⟩:=zG.elem zaR.len X.o r;have N:=yK (ag.o a (xn r));have u:=zA (show(b.take (k+1)).foldl qk []=qk ((b.take k).foldl qk []) a by rw[zas r,vK];rfl);have W:=zA (show((b.take k).foldl qk []).length<=1000000 by have:=(zdl (b.take k) []).1;simp only[yn,xB] at this;omega);generalize(b.take k).foldl qk []=i at g u W;obtain⟨T,H,rfl⟩:=g.len;have av:c<wr:=zg j d.size;have am:wr.cell? (c,k*4)=a.c:=(d.cell (p:=(c,k*4)) j).trans (h 0 _ rfl);have Y:wr.cell? (c,k*4+1)=a.a:=(d.cell (p:=(c,k*4+1)) j).trans (h 1 _ rfl);have ab:wr.cell? (c,k*4+2)=a.b:=(d.cell (p:=(c,k*4+2)) j).trans (h 2 _ rfl);have aj:wr.cell? (c,k*4+3)=a.n:=(d.cell (p:=(c,k*4+3)) j).trans (h 3 _ rfl);have y:=zA g;have z:=zA d;obtain⟨f,D⟩:=aY a.n;rw[D] at aj N;have t:1<=f:=oa;have ap:f<=9007199254740991:=oa;have V:=zA (show qk i a=if f % 2=1 then i++[a.rg] else i by rw[<-D];rfl);clear h g d N D;obtain⟨O,G⟩:=aY (((f % 2:Int)==1));have au:((f.tmod 2:Int)==1)=O:=(by rw[Int.tmod_eq_emod_of_nonneg (by omega)];exact G);cases O
   ·have m:¬f % 2=1:=(by simpa using G);have x:=zA (V.o.trans (zN m));clear m;go_wp2;go_roundw;case rel=>exact⟨k+1,_,oa,ou,rfl,by rw[u.o,x.o];exact y.o,z.o⟩
    case measure=>simp[intOf];omega
   ·have m:f % 2=1:=(by simpa using G);have x:=zA (V.o.trans (zP m));clear m;go_upto_region 7 with fail;have aP:=aV am;have az:=aV Y;have aZ:=aV ab;refine xU 18 [0,1,2,3,4,5,6,7,8,9,10,11,12,13,14,15,16] [17,18,19] zX (aM ?_);refine aR ?_;refine aS ?_;go_wp2;refine⟨zI.to ((Mods.refl _ wr).alloc (.cells #[a.c,a.a,a.b] 154)).drew,?_⟩;refine aS ?_;have n:Below e e ((wr.alloc (.cells #[a.c,a.a,a.b] 154)).drew):=(z.o.alloc z.o.size _).drew;refine yz zaB rfl _ _ rfl e.heap.size (.slice T i.length H) i rfl (y.o.al _).drew (.slice (some wr) 1 1) [a.rg] rfl (zc.one (k:=3) (enc:=zY) wr a.rg 154).drew (by have:=W.o;simp only[z7,xB];omega) n.size ?_;intro a1 ah ac K af;have ae:=zA (show Below e e ah from n.grown K n.size (fun aw A=>y.o.ge A));clear K af n;go_wp2;refine aS ?_;go_wp2;refine xE ?_;go_wp2;go_roundw;case rel=>exact⟨k+1,_,oa,ou,rfl,by rw[u.o,x.o];exact ac,ae.o⟩
    case measure=>simp[intOf];omega
  ·have al:=zA (show k=b.length by omega);have s:zG e 154 3 zY wr o (xL b):=(by have:=g;rw[al.o,qJ] at this;exact this);obtain⟨T,H,rfl⟩:=s.len;have I:=zt5 _ (xL b) wr (s.slice zaB.len) (by have:=zc3 b;omega);have R:=zA d;clear g d s;generalize(xL b).length=ay at I ⊢;go_wp2_with (go_at_call 103;refine I.mono ?_;rintro A a0 ⟨aq,rfl,ai,ad⟩);go_ret;exact⟨_,rfl,ai.any (zk L.o.size R.o.size),zK L.o (zK R.o ad)⟩
end Go.Proofs.YtimlgcodecgecaaGreatDoor
