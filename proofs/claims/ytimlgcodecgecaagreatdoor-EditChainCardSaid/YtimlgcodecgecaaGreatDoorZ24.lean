/- Walk: the reference's Insert (quireref9). -/
import Derived.Test.YtimlgcodecgecaaGreatDoorZ23
set_option maxRecDepth 100000
set_option maxHeartbeats 20000000
set_option linter.all false
namespace Go.Proofs.YtimlgcodecgecaaGreatDoor
open Go.RowKit Go.Lib
section
variable {Φ:yA}
theorem zn4(x:zF)(w:zC):
 Calls zD 96 #[.agg #[x.c,x.k]] w fun c b=>c= .returned (.bool x.rightB)/\Below w w b:=by
 go_enter Tryz.func96,Tryz.ntmps96;go_wp2;all_goals go_ret
 all_goals exact⟨vG (by simp[zF.rightB,xi, *]<;> omega),aB⟩
theorem zx.off {α:Type}{k:Nat}{enc:α->List Value}(F:∀j,∃d e,(enc j)[0]?=some (.int d e)){w w':World}{v:Value}{l:List α}(p:zx Φ k enc w v l){n:Nat}{a b c:Value}{E:TypeId}(G:w.heap[n]?=some (.cells #[a,b,c] E (0,0)))
 (r:∀d e,a≠.int d e) (s:∀d e,b≠.int d e) (A:∀d e,c≠.int d e) (J:w.heap.size<=w'.heap.size) (y:∀g,g<w.heap.size->g≠n->w'.heap[g]?=w.heap[g]?):zx Φ k enc w' v l:=by
 refine⟨?_,p.2⟩;rcases p.1 with x|⟨g,i,H,f,D,u,q⟩
 ·exact .inl x
 ·refine .inr ⟨g,i,H,f,D,oa,fun h j o e I C=> ?_⟩;have t:g≠n:=by
   rintro rfl;obtain⟨d,m,B⟩:=F j;have:=q h j o 0 _ B;simp only[World.cell?,G] at this;have z:i+h*k+0=0\/i+h*k+0=1\/i+h*k+0=2\/3<=i+h*k+0:=oa;rcases z with f|f|f|f
   ·rw[f] at this;simp at this;exact r d m this
   ·rw[f] at this;simp at this;exact s d m this
   ·rw[f] at this;simp at this;exact A d m this
   ·rw[zcy obh] at this;cases this
  have:=q h j o e I C;rw[<-this];exact xA (w:=w) (y g u t)
theorem zbO(x:Nat):∃n i,(yc x)[0]?=some (.int n i):=⟨_,_,rfl⟩
theorem zn5(x:xP):∃n i,(j5 x)[0]?=some (.int n i):=⟨_,_,rfl⟩
def inA(b:Option Nat)(l:List Nat):Bool:=match b with
 |none=>true
 |some a=>l.contains a
def zbu(w:zC)(a:Nat)(u:zV)(b:Int)(left:Bool):Prop:=w.heap[a]?=some (.cells #[u.id.c,u.id.k,u.left.c,u.left.k,u.right.c,u.right.k,zB b,.bool left,(),()] 215 (0,0))
def zko(S:zE)(b d:Option Nat):Option Nat:=match d with
 |none=>none
 |some a=>match b with
  |none=>some a
  |some c=>if c∈S.anc a then some a else none
theorem zn6{S:zE}{d:List xP}{a:xP}{u:zV}(j:S.Wf)(h:zaZ S d)(e:a.u=u)(c:u.id.rightB=true)(g:S.find u.id=none)(x:zF)(f:S.named x=true):jQ (d++[a]) x=S.find x:=by
 rw[zuY ?_,h.find];rw[e];rintro rfl;rcases zdm f with i|⟨k,b⟩
 ·rw[i] at c;simp[zF.rightB,xi,zT] at c
 ·rw[g] at b;cases b
theorem zua{S:zE}{b:List xP}{e:xP}{u:zV}(g:S.Ok)(d:zaZ S b)(h:e.u=u)(j:S.named u.right=true){n:Nat}{r:xP}(a:(b++[e])[n]?=some r):(n<S.l.length/\b[n]?=some r/\r.u=(S.nd n).u/\S.named r.u.right=true)\/(n=S.l.length/\r=e/\S.named r.u.right=true):=by
 rcases qs n b.length with c|c
 ·rw[jm c] at a;have f:=(d.2 n r a).1;exact .inl ⟨by rw[<-d.1];exact c,a,f,by rw[f];exact(g n (by rw[<-d.1];exact c)).2⟩
 ·have i:n=b.length:=by have:=(zw.1 a).1;simp at this;omega
  subst i;simp only[vL (zU _),zcp,jn,jC] at a;subst a;exact .inr ⟨d.1,rfl,by rw[h];exact j⟩
theorem zh0{S:zE}{c:List xP}{d:xP}{u:zV}(a:S.Wf)(j:S.Ok)(i:zaZ S c)(h:d.u=u)(o:u.id.rightB=true)(p:S.find u.id=none)(m:S.named u.right=true){n:Nat}{r:xP}(k:(c++[d])[n]?=some r):rok (c++[d]) S.order r:=by
 have g:S.named r.u.right=true:=by rcases zua j i h m k with⟨_,_,_,e⟩|⟨_,_,e⟩<;> exact e
 refine⟨?_,fun f b=> ?_⟩
 ·rcases zdm g with l|⟨f,b⟩
  ·exact .inl l
  ·exact .inr (zhz a b)
 ·rw[zn6 a i h o p _ g] at b;exact(a.mem f).2 (a.find_some.1 b).1
theorem zn7{S:zE}{a:List xP}{b:xP}{u:zV}(f:S.Wf)(i:S.Ok)(c:zaZ S a)(g:b.u=u)(o:u.id.rightB=true)(p:S.find u.id=none)(k:S.named u.right=true){n:Nat}(d:n<S.l.length):
 vS (a++[b]) S.order (yy (a++[b]) n) (yy (a++[b]) S.l.length)=S.ahead (S.nd n).u u:=by
 have l:yy (a++[b]) n=(S.nd n).u:=by
  unfold yy;rw[jm (by rw[c.1];exact d)];have e:n<a.length:=by rw[c.1];exact d
  simp only[e,xG,zao,vq];exact(c.2 n a[n] (by simp[e])).1
 have h:yy (a++[b]) S.l.length=u:=by unfold yy;rw[vL (by rw[c.1];exact zU _),<-c.1];simp[g]
 rw[l,h];exact zuZ f (fun j m _=>zn6 f c g o p j m) _ _ (i n d).2 k
theorem zkp{α:Type}{f g:α->Bool}:∀{l:List α}(_:∀a∈l,f a=g a),l.takeWhile f=l.takeWhile g/\l.dropWhile f=l.dropWhile g
 | [],_=>⟨rfl,rfl⟩
 |a::l,c=>by have d:=c a oh;have b:=zkp (l:=l) fun h e=>c h (by simp[e]);simp only[zff,zfg,d,b.1,b.2];exact⟨trivial,trivial⟩
theorem yq.congr{w:zC}{l:Nat}{e k g:zJ}{c:List xP}{j h m n:Nat->List Nat}{d i f:List Nat}(b:yq Φ w l e k g c j h d i)(q:∀a,a<c.length->m a=j a/\n a=h a)(r:f=d):yq Φ w l e k g c m n f i where
 st:=b.st
 nl:=b.nl
 kids:=fun a p o=>by have:=q a (zw.1 o).1;rw[this.1,this.2];exact b.kids a p o
 mo:=by rw[r];exact b.mo
 od:=b.od
 nn:=b.nn
 fs:=b.fs
theorem zkq{b d:Nat->List Nat}{L o:List Nat}(c:za b d L o):L.length<=o.length:=by
 induction c with
 |nil=>simp
 |cons g e j i h f=>simp;omega
theorem zkr {w w':World}{f:Nat}{y E i j g:Value}{C k:List xP}{D A l m:Nat->List Nat}{u o h:List Nat}{B:Nat}(M:Φ.N<=B) (c:yq Φ w f y E i C D A u o) (L:w'.heap[f]?=some (.cells #[j,g,i] 213 (0,0))) (F:zG B 215 10 j5 w' j k) (n:Mods (fun H=>H=f) w w')
 (s:∀a b,k[a]?=some b->(zx Φ 1 yc w b.lv.v (l a)\/zx Φ 1 yc w' b.lv.v (l a))/\(zx Φ 1 yc w b.mv.v (m a)\/zx Φ 1 yc w' b.mv.v (m a))) (G:zx Φ 1 yc w g h\/zx Φ 1 yc w' g h):yq Φ w' f j g i k l m h o:=by
 obtain⟨O,T,z,_⟩:=c.nl.2;obtain⟨V,N,J,_⟩:=c.mo.2;obtain⟨R,W,K,_⟩:=c.od.2;have e:∀{p:zJ}{r:List Nat},zx Φ 1 yc w p r->zx Φ 1 yc w' p r:=fun x=>x.off zbO c.st (by rw[z];intro _ _ d;cases d) (by rw[J];intro _ _ d;cases d) (by rw[K];intro _ _ d;cases d) n.size (fun I v t=>n.block I v t);exact {
  st:=L
  nl:=F.rowIn zcV.len M
  kids:=fun a b q=>⟨(s a b q).1.elim e id,(s a b q).2.elim e id⟩
  mo:=G.elim e id
  od:=e c.od
  nn:=zk c.nn n.size
  fs:=c.fs}
theorem zks{S h:zE}{u:zV}{j:Option Nat}(g:qf S h u j){d:List xP}{e:xP}(c:zaZ S d)(k:e.u=u)(l:e.par=yQ j):zaZ h (d++[e]):=by
 refine⟨by rw[xY,c.1,g.len];rfl,fun a m b=> ?_⟩;rcases qs a d.length with f|f
 ·rw[jm f] at b;have i:a<S.l.length:=by rw[<-c.1];exact f
  rw[g.uE a i,g.parE a i];exact c.2 a m b
 ·have n:a=d.length:=by have:=(zw.1 b).1;simp at this;omega
  subst n;simp only[vL (zU _),zcp,jn,jC] at b;subst b;rw[c.1,g.newu,g.newp];exact⟨k,l⟩
theorem zn8{S:zE}{d:List xP}(b:zaZ S d){k:Nat}{r c:xP}(e:d[k]?=some r)(h:c.u=r.u)(i:c.par=r.par):zaZ S (d.set k c):=by
 refine⟨by rw[zcK];exact b.1,fun f j a=> ?_⟩;by_cases g:k=f
 ·subst g;rw[zdc (zw.1 e).1] at a;cases a;rw[h,i];exact b.2 k r e
 ·rw[zjz g] at a;exact b.2 f j a
theorem zkt{b:List xP}{e r:xP}{k:Nat}(c:(b++[e])[k]?=some r):(k<b.length/\b[k]?=some r)\/(k=b.length/\r=e):=by
 rcases qs k b.length with d|d
 ·rw[jm d] at c;exact .inl ⟨d,c⟩
 ·have f:k=b.length:=by have:=(zw.1 c).1;simp at this;omega
  subst f;simp only[vL (zU _),zcp,jn,jC] at c;exact .inr ⟨rfl,c.symm⟩
def zub(Φ:yA)(c:Nat)(S:zE)(u:zV)(f:zJ)(w wx:zC):Prop:=∃d e b,yq Φ wx c d e f b (S.ins u).lf (S.ins u).rt (S.ins u).more S.order/\zaZ (S.ins u) b/\Mods (fun g=>g=c) w wx
theorem zuc {w i:World}{r:Nat}{G t s u:Value}{d:List xP}{S:zE}{q:xP}{B:Nat}(O:Φ.N<=B) (b:yq Φ w r G t s d S.lf S.rt S.more S.order) (R:d.length=S.l.length) (M:i.heap[r]?=some (.cells #[u,t,s] 213 (0,0))) (K:zG B 215 10 j5 i u (d++[q])) (e:Mods (fun L=>L=r) w i)
 (N:q.lv=⟨none,0,0⟩) (I:q.mv=⟨none,0,0⟩):yq Φ i r u t s (d++[q]) S.lf S.rt S.more S.order where
 st:=M
 nl:=K.rowIn zcV.len O
 nn:=zk b.nn e.size
 fs:=b.fs
 kids:=fun k D f=>by
  obtain⟨y,C,j,_⟩:=b.nl.2;obtain⟨E,x,n,_⟩:=b.mo.2;obtain⟨A,F,o,_⟩:=b.od.2;have z:∀{v:zJ}{l:List Nat},zx Φ 1 yc w v l->zx Φ 1 yc i v l:=fun p=>p.off zbO b.st (by rw[j];intro _ _ c;cases c) (by rw[n];intro _ _ c;cases c) (by rw[o];intro _ _ c;cases c) e.size (fun m h g=>e.block m h g);rcases qs k d.length with p|p
  ·rw[jm p] at f;exact⟨z (b.kids k D f).1,z (b.kids k D f).2⟩
  ·have H:k=d.length:=(by have:=(zw.1 f).1;simp at this;omega);subst H;simp only[vL (zU _),zcp,jn,jC] at f;subst f;have J:=S.nd_over (k:=d.length) oa;rw[N,I];unfold zE.lf zE.rt;rw[J];exact⟨zx.nil,zx.nil⟩
 mo:=by obtain⟨y,C,j,_⟩:=b.nl.2;obtain⟨E,x,n,_⟩:=b.mo.2;obtain⟨A,F,o,_⟩:=b.od.2;exact b.mo.off zbO b.st (by rw[j];intro _ _ c;cases c) (by rw[n];intro _ _ c;cases c) (by rw[o];intro _ _ c;cases c) e.size (fun m h g=>e.block m h g)
 od:=by obtain⟨y,C,j,_⟩:=b.nl.2;obtain⟨E,x,n,_⟩:=b.mo.2;obtain⟨A,F,o,_⟩:=b.od.2;exact b.od.off zbO b.st (by rw[j];intro _ _ c;cases c) (by rw[n];intro _ _ c;cases c) (by rw[o];intro _ _ c;cases c) e.size (fun m h g=>e.block m h g)
theorem zud{S:zE}{u:zV}{l:Option Nat}(k:S.Wf)(m:(S.ins u).Wf)(g:qf S (S.ins u) u l)(f:S.Ok)(i:S.named u.left=true/\S.named u.right=true):(S.ins u).Ok:=by
 have c:∀b,S.named b=true->(S.ins u).named b=true:=fun b e=>by
  unfold zE.named at e ⊢;rw[g.find k m];simp only[qx,xW] at e ⊢;rcases e with a|a
  ·exact .inl a
  ·by_cases h:b=u.id
   ·rw[zP h];exact .inr rfl
   ·rw[zN h];exact .inr a
 intro d j;rw[g.len] at j;by_cases a:d=S.l.length
 ·subst a;rw[g.newu];exact⟨c _ i.1,c _ i.2⟩
 ·rw[g.uE d oa];exact⟨c _ (f d oa).1,c _ (f d oa).2⟩
theorem zue{w f:World}{c:Nat}{k m p h:Value}{t:List xP}{u r:Nat->List Nat}{o s q:List Nat}(b:yq Φ w c k m p t u r o s)(j:Below w.heap.size w f)(y:zG w.heap.size 3 1 yc f h q):
 yq Φ (f.setCell (c,2) h) c k m h t u r o q:=by
 obtain⟨O,T,H,_⟩:=b.nl.2;obtain⟨V,N,K,_⟩:=b.mo.2;obtain⟨R,W,L,_⟩:=b.od.2;have I:f.heap[c]?=some (.cells #[k,m,p] 213 (0,0)):=(j.block c b.lt).trans b.st;have D:=j.size;have g:∀{e:Nat}{α:Type}{l:α->List Value}(_:∀x,∃n i,(l x)[0]?=some (.int n i)){v:zJ}{B:List α},zx Φ e l w v B->zx Φ e l (f.setCell (c,2) h) v B:=fun M _ _ G=>G.off M b.st (by rw[H];intro _ _ d;cases d) (by rw[K];intro _ _ d;cases d) (by rw[L];intro _ _ d;cases d) (by simpa[World.setCell] using D) (fun A F E=>(zZ _ _ _ _ (by show ¬A=c;exact E)).trans (j.block A F));exact {
  st:=by simp[World.setCell,zu,I]
  nl:=g zn5 b.nl
  kids:=fun e z C=>⟨g zbO (b.kids e z C).1,g zbO (b.kids e z C).2⟩
  mo:=g zbO b.mo
  od:=(y.blk fun J d=>zZ _ _ _ _ (by have:=y.ge d;have:=b.lt;show ¬J=c;omega)).rowIn zc5.len b.nn
  nn:=by simpa[World.setCell] using zk b.nn D
  fs:=b.fs}
theorem zuf{w wc c:zC}{a:Nat}{S:zE}{u:zV}{h i k b:zJ}{d:List xP}{n:Option Nat}(q:S.Wf)(l:S.Ok)(o:S.named u.left=true/\S.named u.right=true)(j:(S.ins u).Wf)(g:qf S (S.ins u) u n)(m:yq Φ wc a h i k d (S.ins u).lf (S.ins u).rt (S.ins u).more S.order)(r:zaZ (S.ins u) d)(s:Mods (fun e=>e=a) w wc)(f:Below wc wc c)(p:zG wc 3 1 yc c b (S.ins u).order):
 yP Φ (c.setCell (a,2) b) a (S.ins u)/\Mods (fun e=>e=a) w (c.setCell (a,2) b):=
 ⟨⟨j,zud q j g l o,h,i,b,d,zue m f p,r⟩,(s.trans (Mods.of_below f)).setAt (.inl rfl) b⟩
theorem zn9 {p:Prop}(h:p:=by
 have hkrow:=HKR.o.below (zK HBJ.o ((zf _ _).drew:Below wr wr wr.drew));rw[HKV.o] at hkrow;have hwi:=zkm _ LL j me wr.drew hkrow hj (by have:=HKL.o;omega);rw[HLM.o] at hwi;obtain⟨LN,hLN⟩:=aY ((S.ins u).lf r);rw[hLN] at hwi;have HLNV:=zA hLN;have HWI:=zA hwi;have hzr:=HBJ.o.size;have m0:∀s:zI zX wr,s.val.cell? sp=some (.slice (some g7) (me+1) c7):=zI.cell (by show sp<_;omega) id ((HBJ.o.cell (p:=sp) hsp8).trans HRAW8.o.c0.1);have x0:=(HBJ.o.cell (p:=(g7,r*10+8)) hg8).trans c8';have x3:wr.frozen? (g7,r*10+8)=false:=(HBJ.o.frozen (p:=(g7,r*10+8)) hg8).trans (HFZ7.o _);have hg9:g7<wr:=oa;clear hkrow hwi hLN;go_upto_region 24 with fail;refine xU 9 [0,1,2,3,4,5,6,7] [8,9,10,11] zX (aM ?_);refine aR ?_;refine aS ?_;go_wp2_with (go_at_call 230;refine HWI.o.mono ?_;rintro e w9 ⟨v9,rfl,ho9,hb9⟩);have hb9:Below wr wr w9:=zK ((zf _ _).drew) hb9;refine⟨zI.to (Mods.of_below hb9),?_⟩;obtain⟨p9,c9,rfl⟩:=ho9.len;have x1:=(hb9.cell (p:=(g7,r*10+8)) hg9).trans x0;have x2:w9.frozen? (g7,r*10+8)=false:=(hb9.frozen (p:=(g7,r*10+8)) hg9).trans x3;have HB9:=zA (zK HBJ.o hb9);have HO9:=zA ho9;have HGE:=zA (show ∀b,(Value.slice p9 LN.length c9).ownBlock=some b->wr.heap.size<=b from fun b e=>ho9.ge e);clear m0 hb9 ho9 x0 x3;refine aS ?_;go_wp2;refine aS ?_;go_wp2;refine aS ?_;go_wp2;refine xE ?_;go_wp2;go_meet;have hstF:(w9.setCell (g7,r*10+8) (.slice p9 LN.length c9)).heap[sp]?=some (.cells #[.slice (some g7) (me+1) c7,vm,vo] 213 (0,0)):=(zZ _ _ _ _ (by show ¬sp=g7;omega)).trans ((HB9.o.block sp hsp8).trans HST8.o);have hoF:=zG.set (k:=10) (enc:=j5) (i:=8) (x:=rp) (z:=({rp with lv:=⟨p9,LN.length,c9⟩}:xP)) (u:= .slice p9 LN.length c9) (fun _=>rfl) (HO8.o.blk fun b e=>by cases e;exact HB9.o.block g7 hg8) HRP7.o ol rfl;have ho9F:zG wr 3 1 yc (w9.setCell (g7,r*10+8) (.slice p9 LN.length c9)) (.slice p9 LN.length c9) LN:=HO9.o.blk fun b e=>zZ _ _ _ _ (by show ¬b=g7;have:=HGE.o b e;omega);have hmF:Mods (fun b=>b=sp) w (w9.setCell (g7,r*10+8) (.slice p9 LN.length c9)):=(HM8.o.trans (Mods.of_below HB9.o)).setAt (p:=(g7,r*10+8)) (.inr hg7w) _;obtain⟨_,_,_,_,_,hgr⟩:=zE.ins_any HWF.o HUR.o HUN.o;refine⟨rfl,_,_,(NL++[r0]).set r {rp with lv:=⟨p9,LN.length,c9⟩},zkr HNN.o HRAW.o hstF hoF hmF (fun k r2 hk=> ?_) (.inl (by rw[HND.o.2];exact HRAW.o.mo)),zn8 (zks hgr HNO.o oaN (by rw[HR0.o];exact HPV.o.symm)) HRP7.o rfl rfl,hmF⟩;by_cases hkp:r=k
 ·subst hkp;rw[zdc (zw.1 HRP7.o).1] at hk;cases hk;have hlf:(S.ins u).rt r=S.rt r:=by unfold zE.rt;rw[HND.o.1 r,zN oa,zP rfl];rfl
  rw[hlf,HLNV.o];exact⟨.inr (ho9F.rowIn zc5.len (zk (zk HRAW.o.nn HM8.o.size) HBJ.o.size)),.inl (HRAW.o.kids r rp HRP.o).2⟩
 ·rw[zjz hkp] at hk;unfold zE.lf zE.rt;rw[HND.o.1 k];rcases zkt hk with⟨g,h⟩|⟨rfl,rfl⟩
  ·rw[zN (by rw[<-HNO.o.1];omega),zN oa];exact⟨.inl (HRAW.o.kids k r2 h).1,.inl (HRAW.o.kids k r2 h).2⟩
  ·rw[zP HNO.o.1,HR0.o];exact⟨.inl zx.nil,.inl zx.nil⟩):p:=h
theorem zoA(sp:Nat)(S:zE)(u:zV)(w:World)(h:yP Φ w sp S)(cA:S.may u=true)(dU:S.l.length<=500000):
 Calls Tryz.prog 183 #[.pointer (some ⟨sp,0,none⟩),.agg #[.int .u64 u.id.c,.int .u64 u.id.k,.int .u64 u.left.c,.int .u64 u.left.k,.int .u64 u.right.c,.int .u64 u.right.k]] w fun e bw=>
  e= .returned (.bool true)/\yP Φ bw sp (S.ins u)/\Mods (fun b=>b=sp) w bw:=by
 obtain⟨aa,cJ,fj,vm,vo,NL,aq,bL⟩:=h
 obtain⟨co,cp,bf,cm,dz⟩:=zE.may_iff.1 cA
 have ad:=aq.lt
 obtain⟨bT,ax,rfl,fl,dg⟩:=aq.nl.1.shape
 obtain⟨ba,e0,fb⟩:=aq.c0
 have HRAW:=zA aq
 have HNO:=zA bL
 have HWF:=zA aa
 have bN:=zA (fun(o:zC) (hb:Below w w o) (x:zF)=>(show Calls zD 154 #[sp,.agg #[x.c,x.k]] o fun e bw=>e=(zB (yQ (S.find x)))/\Below o o bw from by have:=zkl sp _ vm vo NL S.lf S.rt S.more S.order x o (aq.below hb);rwa[bL.find x] at this))
 have dM:=zA (fun(o:zC) (hb:Below w w o) (k:Nat) (hk:k<S.l.length)=>znz sp _ vm vo NL S.lf S.rt S.more S.order k o (aq.below hb) ((aa.mem k).2 hk))
 obtain⟨f,av⟩:=aY (S.find u.left)
 obtain⟨aZ,a3⟩:=aY (S.find u.right)
 have b4:=zA (show(f=none/\u.left=zT)\/∃p,f=some p/\1<=u.left.c/\p<S.l.length by
  rcases zdm bf with e|⟨k,hk⟩
  ·exact .inl ⟨by rw[<-av,e,aa.find_zero],e⟩
  ·exact .inr ⟨k,by rw[<-av,hk],zhz aa hk,(aa.find_some.1 hk).1⟩)
 have cN:=zA (show(aZ=none/\u.right=zT)\/∃p,aZ=some p/\1<=u.right.c/\p<S.l.length by
  rcases zdm cm with e|⟨k,hk⟩
  ·exact .inl ⟨by rw[<-a3,e,aa.find_zero],e⟩
  ·exact .inr ⟨k,by rw[<-a3,hk],zhz aa hk,(aa.find_some.1 hk).1⟩)
 have en:=zA (show ∀p r,f=some p->aZ=some r->S.order.idxOf p<S.order.idxOf r from fun p r h1 E=>dz _ _ (by unfold zE.findP;rw[av,h1];rfl) (by unfold zE.findP;rw[a3,E];rfl))
 have dj:S.lpar u=zko S f aZ:=by unfold zE.lpar zko;rw[av,a3];cases aZ<;> cases f<;> rfl
 have c1:=zA dj
 have fc:=zA cA
 have b9:=fun o=>zn4 u.id o
 rw[co] at b9
 have cs:=fun o hb=>bN.o o hb u.id
 rw[cp] at cs
 have d1:=zA cs
 have a1:=zA av
 have cc:=zA a3
 have HUN:=zA cp
 have HUR:=zA co
 have ao:=zA (show S.named u.left=true/\S.named u.right=true from⟨bf,cm⟩)
 have c8:=zA dg
 have am:=zA cJ
 clear aq bL aa av a3 dz dj cA co cp bf cm cs dg cJ
 go_enter Tryz.func183,Tryz.ntmps183
 go_upto_region 2 with fail
 generalize dE:World.alloc _ _=o
 obtain⟨cT,ch,bt,-⟩:=aJ dE
 clear dE
 have dO:=aL ch
 have dc:=aL bt
 have y:=zA (fun(W':World) (hb:Below o.heap.size o W')=>(show(∀i v,(#[Value.int .u64 u.id.c,.int .u64 u.id.k,.int .u64 u.left.c,.int .u64 u.left.k,.int .u64 u.right.c,.int .u64 u.right.k])[i]?=some v->W'.cell? ⟨w.heap.size,i,none⟩=some v) from fun i v hv=>(hb.cell (p:=⟨w.heap.size,i,none⟩) dO).trans (by simpa[World.cell?,ch] using hv)))
 have cK:=zA (fun(W':zC) (hb:Below o o W')=>(show W'.cell? (w.heap.size+1:)=zH/\W'.cell? (w.heap.size+1,1)=zH from⟨(hb.cell (p:=(w.heap.size+1:)) dc).trans (by simp[World.cell?,bt]),(hb.cell (p:=(w.heap.size+1,1)) dc).trans (by simp[World.cell?,bt])⟩))
 have D:=zA cT
 have d2:o.cell? w=u.id.c:=y.o o (zf _ _) 0 _ rfl
 have er:o.cell? (w,1)=u.id.k:=y.o o (zf _ _) 1 _ rfl
 have fr:(!true)=false:=rfl
 clear ch bt cT
 go_upto_region 4 with(first|(go_at_call 96;refine(b9 _).mono ?_;rintro e b7 ⟨rfl,bg⟩;have x0:=y.o b7 bg 0 _ rfl;have x1:=y.o b7 bg 1 _ rfl;have c4:=d1.o b7 (zK D.o bg))|(go_at_call 154;refine c4.mono ?_;rintro e O ⟨rfl,cD⟩))
 have ai:=zA (zK bg cD)
 have e7:=ai.o.size
 have eO:∀s:zI zX O,s.val.cell? (w,2)=u.left.c:=zI.cell oq id (y.o O ai.o 2 _ rfl)
 have eq:∀s:zI zX O,s.val.cell? (w,3)=u.left.k:=zI.cell oq id (y.o O ai.o 3 _ rfl)
 have ew:∀s:zI zX O,s.val.cell? (w,4)=u.right.c:=zI.cell oq id (y.o O ai.o 4 _ rfl)
 have ei:∀s:zI zX O,s.val.cell? (w,5)=u.right.k:=zI.cell oq id (y.o O ai.o 5 _ rfl)
 have bR:=bN.o O.drew (zK D.o ai.o).drew u.left
 rw[a1.o] at bR
 clear x0 x1 d2 er b9 c4 bg cD
 refine xU 7 [0,1,2,4,5,6] [3,7,8,9] zX (aM ?_)
 refine aR ?_
 refine aS ?_
 go_wp2_with (go_at_call 154;refine bR.mono ?_;rintro e w3 ⟨rfl,cU⟩)
 have bp:Below O O w3:=zK ((zf _ _).drew) cU
 refine⟨zI.to (Mods.of_below bp),?_⟩
 have bm:=bN.o w3 (zK (zK D.o ai.o) bp) u.right
 rw[cc.o] at bm
 have es:=zA (zK ai.o bp)
 clear bR cU bp
 refine aS ?_
 go_wp2_with (go_at_call 154;refine bm.mono ?_;rintro e a ⟨rfl,dD⟩)
 refine aS ?_
 go_wp2
 refine aS ?_
 go_wp2
 refine xE ?_
 have t:=zA (zK es.o dD)
 clear eO eq ew ei dD bm
 unfold Exit.then
 dsimp only
 go_step
 go_step
 go_cut [6] (fun p wx=>p=zB (yQ f)/\a=wx)
 case first=>
  as_aux_lemma=>
  have C:=y.o a t.o 2 _ rfl;have M:=y.o a t.o 3 _ rfl;have a2:=y.o a t.o 4 _ rfl;have ay:=y.o a t.o 5 _ rfl;obtain⟨bM,bY⟩:=cK.o a t.o;have fa:(!false)=true:=rfl;rcases b4.o with⟨rfl,m⟩|⟨p,rfl,m,ap⟩<;> rcases cN.o with⟨rfl,A⟩|⟨r,rfl,A,T⟩
  ·rw[m] at C M;rw[A] at a2 ay;dsimp only[zT,yQ] at C M a2 ay ⊢;clear m A;go_wp2;go_meet;exact⟨rfl,rfl⟩
  ·rw[m] at C M;dsimp only[zT,yQ] at C M ⊢;have b5:((u.right.c:Int)==0)=false:=oi;have bU:(0:Int)<=(r:Int):=oa;clear m A;go_wp2;go_meet;exact⟨rfl,rfl⟩
  ·rw[A] at a2 ay;dsimp only[zT,yQ] at a2 ay ⊢;have b5:((u.left.c:Int)==0)=false:=oi;have bU:(0:Int)<=(p:Int):=oa;clear m A;go_wp2;go_meet;exact⟨rfl,rfl⟩
  ·dsimp only[yQ];have b5:((u.left.c:Int)==0)=false:=oi;have eW:((u.right.c:Int)==0)=false:=oi;have bU:(0:Int)<=(p:Int):=oa;have eV:(0:Int)<=(r:Int):=oa;have cG:=en.o p r rfl rfl;have cP:=dM.o a (zK D.o t.o) p ap;have c0:=dM.o a (zK D.o t.o) r T;generalize S.order.idxOf p=cY at cG cP;generalize S.order.idxOf r=dA at cG c0;have fs:decide ((dA:Int)<=cY)=false:=oi;have e5:decide (dA<=cY)=false:=oi;clear m A;go_wp2_with (go_at_call 155;first|((with_reducible refine c0.mono ?_);rintro e dX ⟨rfl,rfl⟩)|((with_reducible refine cP.mono ?_);rintro e dX ⟨rfl,rfl⟩));go_meet;exact⟨rfl,rfl⟩
 case rest=>
  obtain⟨rfl,rfl⟩:=hcut;have d5:=y.o a t.o 0 _ rfl;have dZ:=y.o a t.o 1 _ rfl;have C:=y.o a t.o 2 _ rfl;have M:=y.o a t.o 3 _ rfl;have a2:=y.o a t.o 4 _ rfl;have ay:=y.o a t.o 5 _ rfl;go_step;go_step;go_cut [8] (fun p wx=>p=a/\zbu wx a u (yQ f) false/\Below a a wx);case first=>
   go_wp2
   go_meet
   exact⟨rfl,World.alloc_heap_new _ _,aA⟩
  case rest=>
   obtain⟨rfl,F,al⟩:=hcut;clear d5 dZ C M a2 ay;have bn:=zA F;have dl:=zA al;have bB:=zA (zK t.o al);have ey:=zA (aL F);clear F al;go_step;go_step;go_cut [8] (fun p wx=>p=a/\zbu wx a u (yQ (S.ppar u)) (S.lpar u).isSome/\Below a a wx);case first=>
    as_aux_lemma=>
    have C:=y.o wc bB.o 2 _ rfl
    have M:=y.o wc bB.o 3 _ rfl
    obtain⟨bM,bY⟩:=cK.o wc bB.o
    have bG:=ey.o
    have bZ:wc.cell? (a,6)=(zB (yQ f)):=by simp[World.cell?,show wc.heap[a.heap.size]?=_ from bn.o]
    have Z:wc.cell? (a,7)=some (.bool false):=by simp[World.cell?,show wc.heap[a.heap.size]?=_ from bn.o]
    have b6:wc.frozen? (a,7)=false:=by simp[World.frozen?,show wc.heap[a.heap.size]?=_ from bn.o]
    rcases cN.o with⟨rfl,A⟩|⟨r,rfl,A,T⟩
    ·have G:=zA (show S.lpar u=none by rw[c1.o];rfl);have bb:=zA (show S.ppar u=f by unfold zE.ppar;rw[G.o];exact a1.o);rw[show yQ (none:Option Nat)= -1 from rfl];clear A C M bM bY bZ Z b6;go_wp2;go_meet;exact⟨rfl,by rw[bb.o,G.o];exact bn.o,dl.o⟩
    ·obtain⟨n,cj⟩:=aY (S.anc r);have du:=zA (fun i=>(HWF.o.anc_next i r T).1);have cI:=zA (HWF.o.anc_next 0 r T).2;have dJ:=zA (HWF.o.anc_down r T);rw[cj] at du cI dJ;have d6:r<NL.length:=(by rw[HNO.o.1];exact T);obtain⟨af,bO⟩:∃af,NL[r]?=some af:=⟨NL[r],by simp[d6]⟩;obtain⟨N,R,rfl,F,bH⟩:=c8.o r af bO;have cR:=zA (show af.par=yQ (n[0]?) by rw[(HNO.o.2 r af bO).2,cI.o]);have bD:=zK D.o bB.o;have eC:wc.cell? sp=some (.slice (some (N,R)) NL.length ax):=(bD.cell (p:=sp) ad).trans ba;have dx:wc.cell? (N,R+r*10+6)=(zB af.par):=(bD.cell (p:=(N,R+r*10+6)) F).trans (bH 6 _ rfl);have cr:=zA (show S.lpar u=if inA f n then some r else none by
      rw[c1.o];unfold zko inA;dsimp only;rw[cj];cases f with
      |none=>rfl
      |some p=>simp only[List.contains_eq_mem,xW])
     have bU:(0:Int)<=(r:Int):=oa;rw[show yQ (some r)=(r:Int) from rfl];obtain⟨eU,dn⟩:=aY (inA f []);have e4:=zA dn;have dk:∀(W':zC) (b:Bool),zbu W' a u (yQ f) b->∀cl,zbu (W'.setCell (a,7) (.bool cl)) a u (yQ f) cl:=fun W' b h cl=>(by unfold zbu at h ⊢;simp[World.setCell,zu,h]);have br:=zA dk;have cZ:=zA (show yQ (n[0]?)=af.par from cR.o.symm);obtain⟨de,cn⟩:=aY af.par;rw[cn] at dx cZ;have et:=zA (show w.cell? (N,R+r*10+6)=(zB de) from by rw[<-cn];exact bH 6 _ rfl);clear dk dn cj bO cR bH cn;have ds:∀b,b=inA f []->zbu (wc.setCell (a,7) (.bool b)) a u (yQ f) (inA f (n.take 0))/\Below a a (wc.setCell (a,7) (.bool b)):=fun b e=>⟨by rw[zhe,<-e];exact br.o wc false bn.o b,dl.o.setCell (p:=(a,7)) (zU _) _⟩;have db:=zA ds;clear ds;have fv:N≠a:=(by have h1:=D.o.size;have E:=t.o.size;omega);have e3:sp≠a:=(by have h1:=D.o.size;have E:=t.o.size;omega);have eZ:=bD.size;clear A;go_upto_region 9 with fail;go_cut [8] (fun p wx=>p=a/\zbu wx a u (yQ f) (inA f (n.take 0))/\Below a a wx);case first=>
      rcases b4.o with⟨rfl,m⟩|⟨p,rfl,m,ap⟩
      ·rw[m] at C M;dsimp only[zT] at C M;clear m;go_wp2;go_meet;exact⟨rfl,db.o true rfl⟩
      ·have b5:((u.left.c:Int)==0)=false:=(by simp;omega);clear m;go_wp2;go_meet;exact⟨rfl,db.o false rfl⟩
     case rest=>
      obtain⟨rfl,c6,bV⟩:=hcut;have ac:=zK (zK D.o t.o) bV;have ab:wc.cell? sp=some (.slice (some (N,R)) NL.length ax):=(ac.cell (p:=sp) ad).trans ba;have bA:wc.cell? (N,R+r*10+6)=(zB de):=(ac.cell (p:=(N,R+r*10+6)) F).trans et.o;have d3:=zA c6;have HB9:=zA bV;clear c6 bV ac eC dx C M bM bY bZ Z b6 bD;go_step;go_wp2;clear ab bA;go_loopw [9] (fun ar wx=>∃i:Nat,i<=n.length/\ar=zB (yQ (n[i]?))/\zbu wx a u (yQ f) (inA f (n.take i))/\Below a a wx) (fun ar _=>(intOf ar+1).toNat);case atStart=>exact⟨0,xO _,by rw[cZ.o],d3.o,HB9.o⟩
      case round=>
       obtain⟨i,dP,rfl,aP,cq⟩:=hrel;have bZ:wr.cell? (a,6)=(zB (yQ f)):=(by simp[World.cell?,show wr.heap[a.heap.size]?=_ from aP]);have Z:wr.cell? (a,7)=some (.bool (inA f (n.take i))):=(by simp[World.cell?,show wr.heap[a.heap.size]?=_ from aP]);have fu:wr.frozen? (a,6)=false:=(by simp[World.frozen?,show wr.heap[a.heap.size]?=_ from aP]);have b6:wr.frozen? (a,7)=false:=(by simp[World.frozen?,show wr.heap[a.heap.size]?=_ from aP]);have aj:=zA aP;have a9:=zA cq;have ac:=zK (zK D.o t.o) cq;clear aP cq;cases hai:n[i]? with
       |none=>
        have eG:=zA (show n.take i=n from zaX (by have:=zjj.1 hai;omega));rw[show yQ (none:Option Nat)= -1 from rfl];rw[eG.o] at Z aj;obtain⟨b,hb⟩:=aY (inA f n);rw[hb] at Z aj cr;have fi:=zA hb;clear hai ac hb;cases b
        ·have G:=zA (show S.lpar u=none by rw[cr.o];rfl);have bb:=zA (show S.ppar u=f by unfold zE.ppar;rw[G.o];exact a1.o);go_wp2;go_meet;exact⟨rfl,by rw[bb.o,G.o];exact aj.o,a9.o⟩
        ·have G:=zA (show S.lpar u=some r by rw[cr.o];rfl);have bb:=zA (show S.ppar u=some r by unfold zE.ppar;rw[G.o]);go_wp2;go_meet;refine⟨rfl,?_,a9.o.setCell (p:=(a,6)) (zU _) _⟩;rw[bb.o,G.o];have:=aj.o;unfold zbu at this ⊢;simp[World.setCell,zu,this,yQ]
       |some q=>
        obtain⟨eN,cS⟩:=du.o i q hai;have eA:q<NL.length:=(by rw[HNO.o.1];exact eN);obtain⟨aH,bW⟩:∃aH,NL[q]?=some aH:=⟨NL[q],by simp[eA]⟩;obtain⟨eT,fp,e,eJ,dp⟩:=c8.o q aH bW;cases e;have dd:aH.par=yQ (n[i+1]?):=(by rw[(HNO.o.2 q aH bW).2,cS]);have bz:=zA (show(yQ (n[i+1]?)+1).toNat<((q:Int)+1).toNat by
         cases E:n[i+1]? with
         |none=>simp[yQ]<;> omega
         |some C=>
          have cQ:=(zw.1 hai).1;have cX:=(zw.1 E).1;have:=zbi.1 dJ.o i (i+1) cQ cX oa;rw[show n[i]=q by simpa[cQ] using hai,show n[i+1]=C by simpa[cX] using E] at this;show((C:Int)+1).toNat<_;omega)
        have ce:=zA (show i+1<=n.length from(zw.1 hai).1);have ab:wr.cell? sp=some (.slice (some (N,R)) NL.length ax):=(ac.cell (p:=sp) ad).trans ba;have bA:wr.cell? (N,R+q*10+6)=(zB aH.par):=(ac.cell (p:=(N,R+q*10+6)) eJ).trans (dp 6 _ rfl);rw[dd] at bA;obtain⟨e2,cC⟩:=aY (yQ (n[i+1]?));rw[cC] at bA bz;have b0:=zA cC;obtain⟨b,hb⟩:=aY (inA f (n.take i));obtain⟨c3,ec⟩:=aY (((q:Int)==yQ f));have cf:=zA (show inA f (n.take (i+1))=(b || c3) by
         rw[zas hai,<-hb,<-ec];unfold inA;cases f with
         |none=>rfl
         |some p=>
          simp only[List.contains_eq_mem,xX,j0,yQ];rw[zaK];simp only[xW,qx,zeV];constructor
          ·rintro(h|h)
           ·exact .inl h
           ·exact .inr oa
          ·rintro(h|h)
           ·exact .inl h
           ·exact .inr oa)
        rw[hb] at Z aj;have fm:(0:Int)<=(q:Int):=oa;rw[show yQ (some q)=(q:Int) from rfl];clear hai ac hb cC dd bW dp cS;cases b
        ·cases c3
         ·go_wp2;go_roundw;case rel=>exact⟨i+1,ce.o,by rw[b0.o],obb,a9.o.setCell (p:=(a,7)) (zU _) _⟩
          case measure=>exact bz.o
         ·go_wp2;go_roundw;case rel=>exact⟨i+1,ce.o,by rw[b0.o],obb,a9.o.setCell (p:=(a,7)) (zU _) _⟩
          case measure=>exact bz.o
        ·go_wp2;go_roundw;case rel=>exact⟨i+1,ce.o,by rw[b0.o],obb,a9.o.setCell (p:=(a,7)) (zU _) _⟩
         case measure=>exact bz.o
   case rest=>
    obtain⟨rfl,F,al⟩:=hcut;obtain⟨me,bj⟩:=aY NL.length;have a7:=zK (zK D.o t.o) al;obtain⟨cg,bq,cb,da⟩:=HRAW.o.nl.full zvI zvJ;rw[bj] at bq cb;obtain⟨P,ck⟩:=aY (yQ (S.ppar u));obtain⟨X,cy⟩:=aY ((S.lpar u).isSome);rw[ck,cy] at F;obtain⟨r0,dq⟩:∃r0:xP,r0=⟨u,P,X,⟨none,0,0⟩,⟨none,0,0⟩⟩:=⟨_,rfl⟩;have J:=zA bj;have HPV:=zA ck;have dt:=zA cy;have HR0:=zA dq;have c2:=zA (cb.below a7);have dG:=zA da;have e1:me<=500000:=(by rw[<-bj,HNO.o.1];exact dU);have fk:=a7.size;have ab:wc.cell? ⟨sp,0,none⟩=some (.slice bT me ax):=(by rw[<-bj];exact(a7.cell (p:=⟨sp,0,none⟩) ad).trans ba);have cE:=zA a7;have bJ:=zA (zK t.o al);have HNN:=zA (show Φ.N<=wc.heap.size from zk HRAW.o.nn (by have h1:=D.o.size;have E:=t.o.size;have bx:=bJ.o.size;omega));have ed:=zA F;have bG:=aL F;obtain⟨dv,cz⟩:=aY ((Value.slice bT me ax));rw[cz] at bq;have m0:∀s:zI (fun _=>False) wc,s.val.cell? ⟨sp,0,none⟩=some dv:=zI.cell (by show sp<_;omega) id (by rw[<-cz];exact ab);have bm:∀s:zI (fun _=>False) wc,(Instr.slice 211 dv none (some (.int .i64 (me:Int))) (some (.int .i64 (me:Int)))).run Tryz.prog s.val= .ok (.slice cg me me) s.val:=fun s=>bq s.val;have K:∀j d,(#[Value.int .u64 u.id.c,.int .u64 u.id.k,.int .u64 u.left.c,.int .u64 u.left.k,.int .u64 u.right.c,.int .u64 u.right.k,.int .i64 P,.bool X,.slice none 0 0,.slice none 0 0])[j]?=some d->∀s:zI (fun _=>False) wc,s.val.cell? ⟨a.heap.size,j,none⟩=some d:=fun j d A=>zI.cell bG id (by simpa[World.cell?,show wc.heap[a.heap.size]?=_ from F] using A);have eF:=K 0 _ rfl;have eo:=K 1 _ rfl;have ep:=K 2 _ rfl;have ee:=K 3 _ rfl;have dR:=K 4 _ rfl;have ev:=K 5 _ rfl;have ez:=K 6 _ rfl;have d8:=K 7 _ rfl;have ej:=K 8 _ rfl;have d4:=K 9 _ rfl;clear K F al a7 cb da bq ck cy bj cz dq;go_upto_region 17 with fail;clear ab;refine xU 11 [0,1,2,3,4,5,6,7,8] [9,10,11,12,13] zX (aM ?_);refine aR ?_;refine aS ?_;go_wp2;refine⟨zI.to ?hm9,?_⟩;case hm9=>exact((Mods.refl _ wc).alloc _).drew
    clear m0 bm eF eo ep ee dR ev ez d8 ej d4;refine aS ?_;have a0:Below wc wc ((wc.alloc (.cells #[u.id.c,u.id.k,u.left.c,u.left.k,u.right.c,u.right.k,zB P,.bool X,(),()] 215)).drew):=aA.drew;have dL:zc 10 j5 ((wc.alloc (.cells #[u.id.c,u.id.k,u.left.c,u.left.k,u.right.c,u.right.k,zB P,.bool X,(),()] 215)).drew) (.slice (some wc) 1 1) [r0]:=(by rw[HR0.o];exact(zc.one (k:=10) (enc:=j5) wc ⟨u,P,X,⟨none,0,0⟩,⟨none,0,0⟩⟩ 215).drew);have cO:zc 10 j5 ((wc.alloc (.cells #[u.id.c,u.id.k,u.left.c,u.left.k,u.right.c,u.right.k,zB P,.bool X,(),()] 215)).drew) (.slice cg NL.length NL.length) NL:=(by rw[J.o];exact c2.o.below a0);refine zkv zcV rfl _ _ rfl cg NL (by rw[J.o];rfl) cO dG.o (.slice (some wc) 1 1) [r0] rfl dL oh (by rw[J.o];simp only[z7,xB];omega) ?_;intro fq H bh dH;have az:=zA (show Below wc wc H from a0.grown dH a0.size (fun b e=>obd));have bI:=zA (bh.any a0.size);obtain⟨fe,c7,ak⟩:=bh.len;obtain⟨g7,eD,eY,ft,_,_⟩:=zG.elem (j:=me) (x:=r0) zcV.len (by rw[ak] at bh;exact bh) obl;subst eD ak;have dI:(NL++[r0]).length=me+1:=(by rw[xY,J.o];rfl);rw[dI] at bI ⊢;have hg7w:w<=g7:=(by have h1:=a0.size;have E:=cE.o.size;omega);have bo:=zA (zK cE.o az.o);clear dL cO a0 bh dH dI;go_wp2;refine⟨zI.to (Mods.of_below az.o),?_⟩;have b1:H.cell? sp=some (.slice bT me ax):=(bo.o.cell (p:=sp) ad).trans (by rw[ba,J.o]);have b8:H.frozen? sp=false:=(bo.o.frozen (p:=sp) ad).trans (by simp[World.frozen?,HRAW.o.st]);refine aS ?_;go_wp2;refine aS ?_;go_wp2;refine aS ?_;go_wp2;refine xE ?_;clear b1 b8;have bu:(H.setCell sp (.slice (some g7) (me+1) c7)).heap[sp]?=some (.cells #[.slice (some g7) (me+1) c7,vm,vo] 213 (0,0)):=(by have:=(bo.o.block sp ad).trans HRAW.o.st;simp[World.setCell,zu,this]);have dK:g7≠sp:=oa;have a6:zG wc 215 10 j5 (H.setCell sp (.slice (some g7) (me+1) c7)) (.slice (some g7) (me+1) c7) (NL++[r0]):=bI.o.blk fun b e=>(by cases e;exact zZ _ _ _ _ dK);have bd:Mods (fun b=>b=sp) w (H.setCell sp (.slice (some g7) (me+1) c7)):=(Mods.of_below (S:=fun b=>b=sp) bo.o).setAt (p:=sp) (.inl rfl) _;have cv:zbu (H.setCell sp (.slice (some g7) (me+1) c7)) a u P X:=(zZ _ _ _ _ (by show ¬a.heap.size=sp;have h1:=D.o.size;have E:=t.o.size;omega)).trans ((az.o.block _ bG).trans ed.o);have bK:∀i v,(#[Value.int .u64 u.id.c,u.id.k,u.left.c,u.left.k,u.right.c,u.right.k])[i]?=some v->(H.setCell sp (.slice (some g7) (me+1) c7)).cell? (w,i)=some v:=fun i v hv=>
     (xA (w:=H) (zZ _ _ _ _ (by show ¬w.heap.size=sp;omega))).trans (y.o H (zK bJ.o az.o) i v hv)
    have cB:w.heap.size<(H.setCell sp (.slice (some g7) (me+1) c7)).heap.size:=(by have h1:=bJ.o.size;have E:=az.o.size;rw[zea];omega);generalize H.setCell sp (.slice (some g7) (me+1) c7)=B at bu a6 bd cv bK cB ⊢;have c5:=zA bK;have HRAW8:=zA (zuc HNN.o HRAW.o HNO.o.1 bu a6 bd oaN oaN);have HO8:=zA a6;have HM8:=zA bd;have HST8:=zA bu;have dY:=zA cv;have hsp8:sp<B:=zg ad bd.size;have hg8:g7<B:=a6.lt (b:=g7) rfl;clear bu a6 bd cv bK bI az bo c2 dG;unfold Exit.then;dsimp only;go_step;go_step;go_cut [10] (fun p wx=>p=zB me/\zub Φ sp S u vo w wx);case first=>
     have Z:B.cell? (a,7)=some (.bool X):=by simp[World.cell?,show B.heap[a.heap.size]?=_ from dY.o]
     have ab:B.cell? sp=some (.slice (some g7) (me+1) c7):=HRAW8.o.c0.1
     have bC:B.cell? (sp,1)=some vm:=HRAW8.o.c0.2.1
     have dN:S.l.length=me:=by rw[<-J.o];exact HNO.o.1.symm
     have ag:=zA dN
     clear dN
     cases X
     ·have G:=zA (show S.lpar u=none by have:=dt.o;cases h:S.lpar u<;> rw[h] at this<;> first|rfl|cases this);rcases b4.o with⟨rfl,m⟩|⟨p,rfl,m,ap⟩
      ·as_aux_lemma=>
       rw[show yQ (none:Option Nat)= -1 from rfl];have ca:=G.o;have W:=zE.ins_nd_root ca a1.o;have I:=zn3 sp (.slice (some g7) (me+1) c7) vm vo vm (NL++[r0]) S.lf S.rt S.more S.order S.more me B HRAW8.o HRAW8.o.mo
        ⟨r0,obl,zh0 HWF.o am.o HNO.o oaN HUR.o HUN.o ao.o.2 (n:=me) obl⟩ ?hml ?hmn ?hmo
       case hml=>intro c L;have bf:c<S.l.length:=(by have:=(HWF.o.walk).mem L;exact(HWF.o.mem c).1 this);have bi:c<(NL++[r0]).length:=(by simp[HNO.o.1];omega);exact⟨(NL++[r0])[c],by simp[bi],zh0 HWF.o am.o HNO.o oaN HUR.o HUN.o ao.o.2 (n:=c) (by simp[bi])⟩
       case hmn=>have:=zkq HWF.o.walk;rw[HWF.o.len_eq] at this;omega
       case hmo=>rw[HWF.o.len_eq];omega
       rw[show(fun c=>vS (NL++[r0]) S.order (yy (NL++[r0]) c) (yy (NL++[r0]) me))=(fun c=>vS (NL++[r0]) S.order (yy (NL++[r0]) c) (yy (NL++[r0]) S.l.length)) by rw[ag.o]] at I;have an:=zkp (l:=S.more) (g:=fun x=>S.ahead (S.nd x).u u) (f:=fun c=>vS (NL++[r0]) S.order (yy (NL++[r0]) c) (yy (NL++[r0]) S.l.length)) (fun c L=>zn7 HWF.o am.o HNO.o oaN HUR.o HUN.o ao.o.2 ((HWF.o.mem c).1 (HWF.o.walk.mem L)));rw[an.1,an.2] at I;have a4:S.more.takeWhile (fun x=>S.ahead (S.nd x).u u)++me::S.more.dropWhile (fun x=>S.ahead (S.nd x).u u)=(S.ins u).more:=(by rw[W.2];unfold xM;rw[ag.o]);rw[a4] at I;have bE:=zA I;have HND:=zA W;clear I W an a4 m;go_wp2_with (go_at_call 231;refine bE.o.mono ?_;rintro e w9 ⟨v9,rfl,ho9,hb9⟩;obtain⟨p9,c9,rfl⟩:=ho9.len;have x1:w9.cell? (sp,1)=some vm:=(hb9.cell (p:=(sp,1)) hsp8).trans bC;have x2:w9.frozen? (sp,1)=false:=(hb9.frozen (p:=(sp,1)) hsp8).trans (by simp[World.frozen?,HST8.o]));go_meet;have hstF:(w9.setCell (sp,1) (.slice p9 ((S.ins u).more).length c9)).heap[sp]?=some (.cells #[.slice (some g7) (me+1) c7,.slice p9 ((S.ins u).more).length c9,vo] 213 (0,0)):=(by have:=(hb9.block sp hsp8).trans HST8.o;simp[World.setCell,zu,this]);have hoF:zG wc 215 10 j5 (w9.setCell (sp,1) (.slice p9 ((S.ins u).more).length c9)) (.slice (some g7) (me+1) c7) (NL++[r0]):=HO8.o.blk fun b e=>(by cases e;exact(zZ _ _ _ _ dK).trans (hb9.block g7 hg8));have ho9F:zG B 3 1 yc (w9.setCell (sp,1) (.slice p9 ((S.ins u).more).length c9)) (.slice p9 ((S.ins u).more).length c9) (S.ins u).more:=ho9.blk fun b e=>zZ _ _ _ _ (by show ¬b=sp;have:=ho9.ge e;omega);have hmF:Mods (fun b=>b=sp) w (w9.setCell (sp,1) (.slice p9 ((S.ins u).more).length c9)):=(HM8.o.trans (Mods.of_below hb9)).setAt (p:=(sp,1)) (.inl rfl) _;obtain⟨_,_,_,_,_,hgr⟩:=zE.ins_any HWF.o HUR.o HUN.o;refine⟨rfl,_,_,NL++[r0],zkr HNN.o HRAW.o hstF hoF hmF (fun k r hk=> ?_) (.inr (ho9F.rowIn zc5.len (zk HRAW.o.nn HM8.o.size))),zks hgr HNO.o oaN (by rw[HR0.o];exact HPV.o.symm),hmF⟩;unfold zE.lf zE.rt;rw[HND.o.1 k];rcases zkt hk with⟨g,h⟩|⟨rfl,rfl⟩
       ·rw[zN (by rw[<-HNO.o.1];omega)];exact⟨.inl (HRAW.o.kids k r h).1,.inl (HRAW.o.kids k r h).2⟩
       ·rw[zP HNO.o.1,HR0.o];exact⟨.inl zx.nil,.inl zx.nil⟩
      ·as_aux_lemma=>
       have ca:=G.o;have W:=zE.ins_nd_right ca a1.o ap;have dw:p<NL.length:=(by rw[HNO.o.1];exact ap);obtain⟨rp,au⟩:∃rp,NL[p]?=some rp:=⟨NL[p],by simp[dw]⟩;have Y:(NL++[r0])[p]?=some rp:=(by rw[jm dw];exact au);have ah:=(HRAW8.o.kids p rp Y).2;have I:=zn3 sp (.slice (some g7) (me+1) c7) vm vo rp.mv.v (NL++[r0]) S.lf S.rt S.more S.order (S.rt p) me B.drew (HRAW8.o.below ((zf _ _).drew)) ⟨ah.1.drew,ah.2⟩
        ⟨r0,obl,zh0 HWF.o am.o HNO.o oaN HUR.o HUN.o ao.o.2 (n:=me) obl⟩ ?hml ?hmn ?hmo
       have aw:∀c∈S.rt p,c<S.l.length:=fun c L=>(HWF.o.kid_lt ap (.inr L)).2;case hml=>
        intro c L
        have bf:c<S.l.length:=(HWF.o.kid_lt ap (.inr L)).2
        have bi:c<(NL++[r0]).length:=by simp[HNO.o.1];omega
        exact⟨(NL++[r0])[c],by simp[bi],zh0 HWF.o am.o HNO.o oaN HUR.o HUN.o ao.o.2 (n:=c) (by simp[bi])⟩
       case hmn=>obtain⟨n,dS,eL,ef,h1,E,bx,_,_,_,eB⟩:=zE.ins_right HWF.o G.o a1.o HUR.o HUN.o;have bv:=zkq eB;have bc:=HWF.o.len_eq;rw[bx] at bc;simp only[xY,z7] at bv bc;omega
       case hmo=>rw[HWF.o.len_eq];omega
       rw[show(fun c=>vS (NL++[r0]) S.order (yy (NL++[r0]) c) (yy (NL++[r0]) me))=(fun c=>vS (NL++[r0]) S.order (yy (NL++[r0]) c) (yy (NL++[r0]) S.l.length)) by rw[ag.o]] at I;have an:=zkp (l:=S.rt p) (g:=fun x=>S.ahead (S.nd x).u u) (f:=fun c=>vS (NL++[r0]) S.order (yy (NL++[r0]) c) (yy (NL++[r0]) S.l.length)) (fun c L=>zn7 HWF.o am.o HNO.o oaN HUR.o HUN.o ao.o.2 (aw c L));rw[an.1,an.2] at I;have a4:(S.rt p).takeWhile (fun x=>S.ahead (S.nd x).u u)++me::(S.rt p).dropWhile (fun x=>S.ahead (S.nd x).u u)=(S.ins u).rt p:=(by unfold zE.rt;rw[W.1 p,zN oa,zP rfl];unfold xM zE.rt;rw[ag.o]);rw[a4] at I;obtain⟨LN,hLN⟩:=aY ((S.ins u).rt p);rw[hLN] at I;have bE:=zA I;have HND:=zA W;have HLNV:=zA hLN;obtain⟨_,ak,_,_,a5,bl⟩:=zG.elem zcV.len HO8.o Y;cases ak;have HFZ7:=zA a5;have cu:B.cell? (g7,p*10+9)=some rp.mv.v:=bl 9 _ rfl;have m0:=aV ab;have eK:∀s:zI zX B,s.val.cell? (g7,p*10+9)=some rp.mv.v:=zI.cell hg8 id cu;have fh:p<me+1:=(by rw[<-ag.o];omega);rw[show yQ (some p)=(p:Int) from rfl];have e6:decide ((0:Int)<=(p:Int))=true:=oh;have HRP7:=zA Y;have HRP:=zA au;clear I W an a4 m aw ah bl a5 hLN au Y;go_upto_region 26 with fail;clear Z bC;refine xU 16 [0,1,2,3,4,5,6,7,8,9,10,11,12,13,14] [15,16,17,18] zX (aM ?_);refine aR ?_;refine aS ?_;go_wp2_with (go_at_call 231;refine bE.o.mono ?_;rintro e w9 ⟨v9,rfl,ho9,hb9⟩);have hb9:Below B B w9:=zK ((zf _ _).drew) hb9;refine⟨zI.to (Mods.of_below hb9),?_⟩;obtain⟨p9,c9,rfl⟩:=ho9.len;have x1:w9.cell? (g7,p*10+9)=some rp.mv.v:=(hb9.cell (p:=(g7,p*10+9)) hg8).trans cu;have x2:w9.frozen? (g7,p*10+9)=false:=(hb9.frozen (p:=(g7,p*10+9)) hg8).trans (HFZ7.o _);have HB9:=zA hb9;have HO9:=zA ho9;clear m0 eK hb9 ho9 cu ab;refine aS ?_;go_wp2;refine aS ?_;go_wp2;refine aS ?_;go_wp2;refine xE ?_;go_wp2;go_meet;have hstF:(w9.setCell (g7,p*10+9) (.slice p9 LN.length c9)).heap[sp]?=some (.cells #[.slice (some g7) (me+1) c7,vm,vo] 213 (0,0)):=(zZ _ _ _ _ (by show ¬sp=g7;omega)).trans ((HB9.o.block sp hsp8).trans HST8.o);have hoF:=zG.set (k:=10) (enc:=j5) (i:=9) (x:=rp) (z:=({rp with mv:=⟨p9,LN.length,c9⟩}:xP)) (u:= .slice p9 LN.length c9) (fun _=>rfl) (HO8.o.blk fun b e=>by cases e;exact HB9.o.block g7 hg8) HRP7.o ol rfl;have ho9F:zG B 3 1 yc (w9.setCell (g7,p*10+9) (.slice p9 LN.length c9)) (.slice p9 LN.length c9) LN:=HO9.o.blk fun b e=>zZ _ _ _ _ (by show ¬b=g7;have:B<=b:=HO9.o.ge e;omega);have hmF:Mods (fun b=>b=sp) w (w9.setCell (g7,p*10+9) (.slice p9 LN.length c9)):=(HM8.o.trans (Mods.of_below HB9.o)).setAt (p:=(g7,p*10+9)) (.inr hg7w) _;obtain⟨_,_,_,_,_,hgr⟩:=zE.ins_any HWF.o HUR.o HUN.o;refine⟨rfl,_,_,(NL++[r0]).set p {rp with mv:=⟨p9,LN.length,c9⟩},zkr HNN.o HRAW.o hstF hoF hmF (fun k r hk=> ?_) (.inl (by rw[HND.o.2];exact HRAW.o.mo)),zn8 (zks hgr HNO.o oaN (by rw[HR0.o];exact HPV.o.symm)) HRP7.o rfl rfl,hmF⟩;by_cases hkp:p=k
       ·subst hkp;rw[zdc (zw.1 HRP7.o).1] at hk;cases hk;have hlf:(S.ins u).lf p=S.lf p:=(by unfold zE.lf;rw[HND.o.1 p,zN oa,zP rfl];rfl);rw[hlf,HLNV.o];exact⟨.inl (HRAW.o.kids p rp HRP.o).1,.inr (ho9F.rowIn zc5.len (zk HRAW.o.nn HM8.o.size))⟩
       ·rw[zjz hkp] at hk;unfold zE.lf zE.rt;rw[HND.o.1 k];rcases zkt hk with⟨g,h⟩|⟨rfl,rfl⟩
        ·rw[zN (by rw[<-HNO.o.1];omega),zN oa];exact⟨.inl (HRAW.o.kids k r h).1,.inl (HRAW.o.kids k r h).2⟩
        ·rw[zP HNO.o.1,HR0.o];exact⟨.inl zx.nil,.inl zx.nil⟩
     ·obtain⟨r,bs⟩:∃r,S.lpar u=some r:=zbH.1 dt.o;have dW:aZ=some r:=(by rw[<-cc.o];exact zE.lpar_some bs);subst dW;as_aux_lemma=>
      have T:r<S.l.length:=(HWF.o.find_some.1 cc.o).1;have W:=zE.ins_nd_left bs T;have cL:r<NL.length:=(by rw[HNO.o.1];exact T);obtain⟨rp,au⟩:∃rp,NL[r]?=some rp:=⟨NL[r],by simp[cL]⟩;have Y:(NL++[r0])[r]?=some rp:=(by rw[jm cL];exact au);have ah:=(HRAW8.o.kids r rp Y).1;have aw:∀c∈S.lf r,c<S.l.length:=fun c L=>(HWF.o.kid_lt T (.inl L)).2;obtain⟨_,ak,_,_,a5,bl⟩:=zG.elem zcV.len HO8.o Y;cases ak;have HFZ7:=zA a5;have c8':B.cell? (g7,r*10+8)=some rp.lv.v:=bl 8 _ rfl;have eX:r<me+1:=(by rw[<-ag.o];omega);have bF:(S.lf r).length<=500000:=(by obtain⟨n,dS,eL,ef,h1,E,bx,_⟩:=zE.ins_left HWF.o bs HUR.o HUN.o;have bv:=zkq (h1.append E);have bc:=HWF.o.len_eq;rw[bx] at bc;have eH:(xh S u (S.lf r)).1++(xh S u (S.lf r)).2=S.lf r:=zhQ;rw[eH] at bv;simp only[xY,z7] at bv bc;omega);obtain⟨LL,cx⟩:=aY (S.lf r);rw[cx] at ah aw bF;obtain⟨fg,fd,bX,_,dr⟩:=ah.1.shape;have HKR:=zA ah;have em:=zA dr;have d9:=zA aw;have eI:=zA cx;have HND:=zA W;have HRP7:=zA Y;have HRP:=zA au;have HKL:=zA bF;have HKV:=zA bX;rw[bX] at c8';rw[show yQ (some r)=(r:Int) from rfl];clear W ah aw a5 bl au Y bs dr cx bF bX;go_upto_region 21 with fail;go_wp2;clear Z bC ab;go_loopw [12] (fun ar wx=>∃j:Nat,j<=LL.length/\ar=zB j/\qP (∀i d,i<j->LL[i]?=some d->(S.uid d).lessB u.id=true)/\Below B B wx) (fun ar _=>LL.length - (intOf ar).toNat);case atStart=>exact⟨0,xO _,rfl,zA (fun i d h=>oa),zf _ _⟩
      case round=>
       obtain⟨j,hj,rfl,di,V⟩:=hrel;have ff:=HKL.o;have fo:=V.size;have cW:(∀d,LL[j]?=some d->(S.uid d).lessB u.id=false)->LL.take j++me::LL.drop j=(S.ins u).lf r:=fun el=>(by have h1:=zfv (fun x=>(S.uid x).lessB u.id) LL j hj di.o el;unfold zE.lf;rw[HND.o.1 r,zN oa,zP rfl];dsimp only;unfold xh;rw[eI.o,h1.1,h1.2,ag.o]);have dF:=zA cW;have HBJ:=zA V;clear cW;by_cases eb:j<LL.length
       ·obtain⟨d,A⟩:∃d,LL[j]?=some d:=⟨LL[j],by simp[eb]⟩;obtain⟨b2,dB,rfl,eP,dh⟩:=em.o j d A;have d7:=d9.o d (xn A);have cM:d<NL.length:=(by rw[HNO.o.1];exact d7);obtain⟨a8,cw⟩:∃a8,NL[d]?=some a8:=⟨NL[d],by simp[cM]⟩;have bP:a8.u.id=S.uid d:=(by unfold zE.uid;rw[<-(HNO.o.2 d a8 cw).1]);obtain⟨_,ak,_,_,_,b3⟩:=zG.elem zcV.len HO8.o (show(NL++[r0])[d]?=some a8 by rw[jm cM];exact cw);cases ak;have fn:d<me+1:=(by rw[<-ag.o];omega);have b1:∀s:zM wr,s.val.cell? sp=some (.slice (some g7) (me+1) c7):=zM.cell (by show sp<_;omega) ((V.cell (p:=sp) hsp8).trans HRAW8.o.c0.1);have b8:∀s:zM wr,s.val.cell? (b2,dB+j)=(zB d):=zM.cell (by show b2<_;omega) ((V.cell (p:=(b2,dB+j)) eP).trans (by simpa using dh 0 _ rfl));have eQ:∀s:zM wr,s.val.cell? (g7,d*10)=(S.uid d).c:=zM.cell (by show g7<_;omega) ((V.cell (p:=(g7,d*10)) hg8).trans (by rw[<-bP];exact b3 0 _ rfl));have d0:∀s:zM wr,s.val.cell? (g7,d*10+1)=(S.uid d).k:=zM.cell (by show g7<_;omega) ((V.cell (p:=(g7,d*10+1)) hg8).trans (by rw[<-bP];exact b3 1 _ rfl));have dQ:∀s:zM wr,s.val.cell? w=u.id.c:=zM.cell oq ((V.cell (p:=w) cB).trans (c5.o 0 _ rfl));have eS:∀s:zM wr,s.val.cell? (w,1)=u.id.k:=zM.cell oq ((V.cell (p:=(w,1)) cB).trans (c5.o 1 _ rfl));obtain⟨ci,bS⟩:=aY ((S.uid d).lessB u.id);have bQ:=fun o=>zn1 (S.uid d) u.id o;rw[bS] at bQ;have cF:=zA bS;have dy:=zA A;have ex:decide ((j:Int)<LL.length)=true:=oi;clear V A dh cw bP b3 bS;cases ci
        ·go_wp2;refine aG ?_;repeat(first|go_big_quiet_skip|(go_big_quiet_want;go_big_quiet_op;first|go_big_quiet_on|go_big_quiet_call ((go_at_call 111;exact xl (bQ _)))))
         refine aE ?_;intro W' hC' hBW';clear b1 b8 eQ d0 dQ eS hC';have HLM:=zA (dF.o (fun z m=>by rw[dy.o] at m;cases m;exact cF.o));have HBJ:=zA (zK HBJ.o hBW');obtain⟨wr,rfl⟩:∃wr:zC,wr=W':=⟨_,rfl⟩;clear hBW';exact zn9
        ·go_wp2;refine aG ?_;repeat(first|go_big_quiet_skip|(go_big_quiet_want;go_big_quiet_op;first|go_big_quiet_on|go_big_quiet_call ((go_at_call 111;exact xl (bQ _)))))
         refine aE ?_;intro W' hC' hBW';go_wp2;go_roundw;case rel=>exact⟨j+1,oa,ou,zA (fun i z dP m=>by
          rcases qs i j with q|q
          ·exact di.o i z q m
          ·obtain rfl:i=j:=(by omega);rw[dy.o] at m;cases m;exact cF.o),zK HBJ.o hBW'⟩
         case measure=>simp[intOf];omega
       ·have HLM:=zA (dF.o (fun z m=>by rw[vp (by omega)] at m;cases m));have ex:decide (j<LL.length)=false:=oi;clear V;go_wp2;refine aQ ?_;intro W' hC' hBW';have HBJ:=zA (zK HBJ.o hBW');obtain⟨wr,rfl⟩:∃wr:zC,wr=W':=⟨_,rfl⟩;clear hBW' hC';exact zn9
    case rest=>obtain⟨rfl,eg,cV,eh,ae,cd,df⟩:=hcut;obtain⟨be,hgr⟩:(S.ins u).Wf/\qf S (S.ins u) u (S.ppar u):=(by obtain⟨_,_,_,_,ek,eu⟩:=zE.ins_any HWF.o HUR.o HUN.o;exact⟨ek,eu⟩);have dC:=ae.lt;obtain⟨_,bC,_⟩:=ae.c0;have ct:=zuV sp eg cV vo eh (S.ins u).lf (S.ins u).rt (S.ins u).more S.order wc ae (S.ins u).order.length (S.ins u).more (S.ins u).order [] cV () wc (zU _) be.walk (fun k hk=>by rw[cd.1];exact(be.mem k).1 hk) ae.mo zG.nil (zf _ _) (by rw[be.len_eq,hgr.len];simp;omega);rw[xu] at ct;obtain⟨e8,e9,rfl,_,_⟩:=ae.mo.1.shape;have dm:=zA ae;have eE:=zA cd;have eM:=zA df;have dT:=zA be;have ea:=zA hgr;have eR:=zA ct;have dV:wc.cell? (sp,2)=some vo:=ae.c0.2.2;clear ae cd df be hgr ct;go_step;go_wp2_with (go_at_call 232;refine eR.o.mono ?_;rintro e w9 ⟨v9,rfl,ho9,hb9⟩;obtain⟨p9,c9,rfl⟩:=ho9.len;have x1:w9.cell? (sp,2)=some vo:=(hb9.cell (p:=(sp,2)) dC).trans dV;have x2:w9.frozen? (sp,2)=false:=(hb9.frozen (p:=(sp,2)) dC).trans (by simp[World.frozen?,dm.o.st]));go_ret;have cH:=zuf HWF.o am.o ao.o dT.o ea.o dm.o eE.o eM.o hb9 ho9;exact⟨rfl,cH.1,cH.2⟩
end
end Go.Proofs.YtimlgcodecgecaaGreatDoor
