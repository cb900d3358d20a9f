/- The closed example's parts (quirelaw15.known): the document of the text "ab", what Make answers in it. -/
import Derived.Test.YtimlgcodecgecaaGreatDoorZ42
set_option maxRecDepth 100000
set_option maxHeartbeats 20000000
set_option linter.all false
namespace Go.Proofs.YtimlgcodecgecaaGreatDoor
open Go.RowKit Go.Lib
def zr8(i:zF)(ok:Bool)(W:zC)(p o:zJ)(wx:zC):Prop:=∃a,p= .pointer (some ⟨a,0,none⟩)/\o= .bool ok/\wx.heap[a]?=some (.cells #[i.c,i.k] 62 (0,0))/\W.heap.size<=a/\Below W W wx
def bk:ByteArray:=⟨#[107]⟩
def bno:ByteArray:=⟨#[110,111]⟩
theorem zr9(w:zC)(c:zv w):Calls zD 74 #[.string ⟨#[107]⟩] w fun a b=>a=jB/\Below w w b:=by have e:∀w,zv w->Calls zD 134 #[.string ⟨#[107]⟩] w fun a b=>a= .returned (.bool true)/\Below w w b:=fun w c=>zlY ⟨#[107]⟩ w (by decide) c;go_enter Tryz.func74,Tryz.ntmps74;go_wp2_with (go_at_call 134;refine(e _ c).mono ?_;rintro a f ⟨rfl,d⟩);go_end0;exact⟨rfl,d⟩
theorem zsA(n:Nat)(kl:List (Int×Value))(wl:List (zF×Value))(h:yN)(st:Int)(w:zC)(c:xS n w kl wl h st)(e:zcd n w):
 Calls zD 76 #[(n+11:)] w fun d b=>∃a,d= .returned (.pointer (some ⟨a,0,none⟩))/\zdH b a/\Below w w b:=by
 have j:=c.cell 9 _ rfl;have k:=c.lt;have i:=zqq n w e;go_enter Tryz.func76,Tryz.ntmps76;go_wp2_with (go_at_call 151;refine i.mono ?_;rintro d l ⟨a,rfl,f,g⟩);go_ret;exact⟨a,rfl,f,g⟩
theorem zdH.below{W W':zC}{b:Nat}(c:zdH W b)(d:Below W W W'):zdH W' b:=by obtain⟨a,e,_⟩:=c;exact⟨a,e.below d,fun _ _=>trivial⟩
theorem zsB {p:Prop}(h:p:=by
 have hto:=HMd5;clear hto;obtain⟨ob,rfl,hbx,hob,hbc⟩:=hcut;have hBc:=zK hB1 hbc;have hec:=(hbc.block _ hel1).trans he1;clear hnx he1 hrb1 e4 e5 e6 e7 hN hcl hbx hun;have x0:=aC hec 0;have x1:=aC hec 1;have dp:decide ((n0:Int)<(p:Int))=true:=by simp;omega
 go_wp2_with (go_at_call 63;refine(hf _).mono ?_;rintro e w3 ⟨rfl,rfl⟩);exact⟨rfl,rfl,hBc⟩):p:=h
theorem zsC (n:Nat) (g a f:Nat->Prop) (c K:Int) (S:zE) (T:List zL) (b:List (zF×Value)) (p m:Nat) (t:ByteArray) (v:zr) (key:ByteArray) (w:zC) (h:qF n g a f w c K S T b) (j:xp c K S T)
 (l:1<=c) (o:c<=9007199254740991) (i:0<=K/\K<=100000) (k:S.l.length<=50000) (hp:(S.shown T).length<p):
 Calls zD 21 #[(n+11:),c,xc 1 p m t v key ()] w fun e w2=>e= .panicked [{v:=brk 150,recovered:=false}]/\Below w w w2:=by
 have q:decide (c<1)=false:=by simp;omega
 have r:decide (9007199254740991<c)=false:=by simp;omega
 have hun:=fun W (hb:Below w w W)=>zeD n g a f c K S T b W (h.below hb) j k i.2;have hcl:=zch v;have hN:=fun W (hb:Below w w W)=>zeE n g a f c K S T b W (h.below hb) ⟨l,o⟩ i;have hf:=zgc 150;clear j;obtain⟨n0,d⟩:=aY ((S.shown T).length);have HN0:=zA d;rw[d] at hp;clear d;change Calls zD 21 #[(n+11:),_,.agg #[zB 1,zB p,zB m,.string t,zB v.kind,zB v.n,.float .f64 v.f,.string v.s,.string key,()]] w _;have HMd5:=trivial;exact zeF
theorem zsD {p:Prop}(h:p:=by
 have hto:=HMd6;clear hto;obtain⟨ob,rfl,hbx,hob,hbc⟩:=hcut;have hBc:=zK hB1 hbc;have hec:=(hbc.block _ hel1).trans he1;have helc:=aL hec;clear hnx he1 hrb1 e4 e5 e6 e7 hN hcl hun hbx;have x0:=aC hec 0;have x8:=aC hec 8;have hky:=zr9 wc (hT.below hBc);go_upto_region 38 with(go_at_call 74;refine hky.mono ?_;rintro e w8 ⟨rfl,hb8⟩);have hB8:=zK hBc hb8;have he8:=(hb8.block _ helc).trans hec;have hel8:=aL he8;clear x0 x8 hky hb8 hec;obtain⟨W8,hW8⟩:=aX w8;rw[<-hW8] at hB8 he8 hel8 ⊢;clear hW8;have e9:=aD he8 9;have hmaps:=fun W (hb:Below W8.heap.size W8 W)=>zsA n _ _ sl _ W (d1.keep fun b g=>(zK hB8 hb).block b (by omega)) (hm.keep fun b g=>(zK hB8 hb).block b (by omega));have hfind:=fun b W (h:zdH W b) (hb:Below W8.heap.size W8 W)=>zrE _ b pb bno W h (((zK hB8 hb).cell (p:=⟨pb,0,none⟩) hpl).trans hp);have hXb:=fun b (W W':zC) (h:zdH W b) (hb:Below W.heap.size W W')=>h.below hb;go_cut [14,15] (fun p ok wx=>zr8 (zT) false W8 p ok wx);case first=>
  refine fl7 (.rd [0,2,3] (.two 1 (.two 4 (.rd [5,6,7] (.one 8 (.one 9 (.rd [10] .nil)))) 8 (.one 4 (.rd [5,6,7] (.one 9 (.rd [10] .nil))))) 8 (.one 1 (.one 4 (.rd [5,6,7] (.one 9 (.rd [10] .nil))))))) zX ?_
  refine aT ?_
  have hb0:Below W8.heap.size W8 W8.drew:=(zf _ _).drew
  refine zb5 ?_ ?_
  ·refine aO ?_;go_wp2_with (go_at_call 76;refine(hmaps W8.drew hb0).mono ?_;rintro e w2 ⟨mb,rfl,hX2,hb2'⟩);have hb2:=zK hb0 hb2';refine⟨zI.to (Mods.of_below hb2),?_⟩;refine zb5 ?_ ?_
   ·refine aO ?_;go_wp2_with (go_at_call 77;refine(hfind mb w2 hX2 hb2).mono ?_;rintro e w3 ⟨rfl,hb3'⟩);have hb3:=zK hb2 hb3';refine⟨zI.to (Mods.of_below hb3),?_⟩;refine aT ?_;refine aO ?_;go_wp2;have hh:(w3.alloc (.cells #[.int .u64 0,.int .u64 0] 62)).heap[w3.heap.size]?=some (.cells #[.int .u64 0,.int .u64 0] 62 (0,0)):=World.alloc_heap_new _ _;have hb4:Below W8.heap.size W8 (w3.alloc (.cells #[.int .u64 0,.int .u64 0] 62)):=hb3.alloc hb3.size _;have hz4:=hb3.size;refine⟨zI.to (Mods.of_below hb4),?_⟩;generalize w3.alloc (.cells #[.int .u64 0,.int .u64 0] 62)=W4 at hh hb4 ⊢;generalize w3.heap.size=pb at hh hz4 ⊢;have f0:W4.frozen? ⟨pb,0,none⟩=false:=(by simp[World.frozen?,hh]);have f1:W4.frozen? ⟨pb,1,none⟩=false:=(by simp[World.frozen?,hh]);have c0:=aC hh 0;have c1:=aC hh 1;refine aO ?_;go_wp2;have hb5:=(hb4.setCell (p:=⟨pb,0,none⟩) hz4 (.int .u64 (zT).c)).setCell (p:=⟨pb,1,none⟩) hz4 (.int .u64 (zT).k);refine⟨zI.to (Mods.of_below hb5),?_⟩;refine aT ?_;refine jh ?_;go_wp2;go_meet;exact⟨pb,rfl,rfl,by simp[World.setCell,zu,hh],hz4,hb5⟩
   ·refine aO ?_;go_wp2;have hh:(w2.alloc (.cells #[.int .u64 0,.int .u64 0] 62)).heap[w2.heap.size]?=some (.cells #[.int .u64 0,.int .u64 0] 62 (0,0)):=World.alloc_heap_new _ _;have hb4:Below W8.heap.size W8 (w2.alloc (.cells #[.int .u64 0,.int .u64 0] 62)):=hb2.alloc hb2.size _;have hX4:=hXb mb _ _ hX2 (show Below w2.heap.size w2 (w2.alloc (.cells #[.int .u64 0,.int .u64 0] 62)) from aA);have hz4:=hb2.size;refine⟨zI.to (Mods.of_below hb4),?_⟩;generalize w2.alloc (.cells #[.int .u64 0,.int .u64 0] 62)=W4 at hh hb4 hX4 ⊢;generalize w2.heap.size=pb at hh hz4 ⊢;refine aO ?_;go_wp2_with (go_at_call 77;refine(hfind mb W4 hX4 hb4).mono ?_;rintro e w3 ⟨rfl,hb3'⟩);have hb3:=zK hb4 hb3';have hh3:=(hb3'.block pb (aL hh)).trans hh;refine⟨zI.to (Mods.of_below hb3),?_⟩;refine aT ?_;have f0:w3.frozen? ⟨pb,0,none⟩=false:=(by simp[World.frozen?,hh3]);have f1:w3.frozen? ⟨pb,1,none⟩=false:=(by simp[World.frozen?,hh3]);have c0:=aC hh3 0;have c1:=aC hh3 1;refine aO ?_;go_wp2;have hb5:=(hb3.setCell (p:=⟨pb,0,none⟩) hz4 (.int .u64 (zT).c)).setCell (p:=⟨pb,1,none⟩) hz4 (.int .u64 (zT).k);refine⟨zI.to (Mods.of_below hb5),?_⟩;refine aT ?_;refine jh ?_;go_wp2;go_meet;exact⟨pb,rfl,rfl,by simp[World.setCell,zu,hh3],hz4,hb5⟩
  ·refine aO ?_;go_wp2;have hh:(W8.alloc (.cells #[.int .u64 0,.int .u64 0] 62)).drew.heap[W8.heap.size]?=some (.cells #[.int .u64 0,.int .u64 0] 62 (0,0)):=World.alloc_heap_new _ _;have hb4:Below W8.heap.size W8 (W8.alloc (.cells #[.int .u64 0,.int .u64 0] 62)).drew:=aA.drew;have hz4:=zU W8.heap.size;refine⟨zI.to (Mods.of_below hb4),?_⟩;generalize(W8.alloc (.cells #[.int .u64 0,.int .u64 0] 62)).drew=W4 at hh hb4 ⊢;obtain⟨pb,hpb⟩:=aY W8.heap.size;rw[hpb] at hh ⊢;have HPB:=zA hpb;clear hpb hz4;refine aO ?_;go_wp2_with (go_at_call 76;refine(hmaps W4 hb4).mono ?_;rintro e w2 ⟨mb,rfl,hX2,hb2'⟩);have hb2:=zK hb4 hb2';have hh2:=(hb2'.block pb (aL hh)).trans hh;refine⟨zI.to (Mods.of_below hb2),?_⟩;refine aO ?_;go_wp2_with (go_at_call 77;refine(hfind mb w2 hX2 hb2).mono ?_;rintro e w3 ⟨rfl,hb3'⟩);have hb3:=zK hb2 hb3';have hh3:=(hb3'.block pb (aL hh2)).trans hh2;refine⟨zI.to (Mods.of_below hb3),?_⟩;refine aT ?_;have f0:w3.frozen? ⟨pb,0,none⟩=false:=(by simp[World.frozen?,hh3]);have f1:w3.frozen? ⟨pb,1,none⟩=false:=(by simp[World.frozen?,hh3]);have c0:=aC hh3 0;have c1:=aC hh3 1;refine aO ?_;go_wp2;have hz4:W8.heap.size<=pb:=zaI HPB.o;have hb5:=(hb3.setCell (p:=⟨pb,0,none⟩) hz4 (.int .u64 (zT).c)).setCell (p:=⟨pb,1,none⟩) hz4 (.int .u64 (zT).k);refine⟨zI.to (Mods.of_below hb5),?_⟩;refine aT ?_;refine jh ?_;go_wp2;go_meet;exact⟨pb,rfl,rfl,by simp[World.setCell,zu,hh3],hz4,hb5⟩
 case rest=>obtain⟨qb,rfl,rfl,_,_,hb9⟩:=hcut;clear hmaps hfind hXb e9;go_wp2_with (go_at_call 63;refine(hf _).mono ?_;rintro e w9 ⟨rfl,rfl⟩);exact⟨rfl,rfl,zK hB8 hb9⟩):p:=h
theorem zsE (n pb:Nat) (f a d:Nat->Prop) (c K:Int) (S:zE) (T:List zL) (b:List (zF×Value)) (v:zr) (w:zC) (h:qF n f a d w c K S T b) (i:xp c K S T)
 (l:1<=c) (m:c<=9007199254740991) (g:0<=K/\K<=100000) (k:S.l.length<=50000) (hm:zcd n w) (hT:zv w) (hp:w.cell? pb=some (.string bno)) (hpl:pb<w):
 Calls zD 21 #[(n+11:),c,xc 5 0 0 ⟨#[]⟩ v bk (.slice (some pb) 1 1)] w fun e w2=>e= .panicked [{v:=brk 153,recovered:=false}]/\Below w w w2:=by
 have p:decide (c<1)=false:=by simp;omega
 have t:decide (9007199254740991<c)=false:=by simp;omega
 have s:=h.lt;have hun:=fun W (hb:Below w w W)=>zeD n f a d c K S T b W (h.below hb) i k g.2;have hcl:=zch v;have hN:=fun W (hb:Below w w W)=>zeE n f a d c K S T b W (h.below hb) ⟨l,m⟩ g;have hf:=zgc 153;obtain⟨o,q,sl,d1,_⟩:=h.doc;have r:=zA h;clear i h;obtain⟨n0,j⟩:=aY ((S.shown T).length);have HN0:=zA j;clear j;change Calls zD 21 #[(n+11:),_,.agg #[zB 5,zB 0,zB 0,.string ⟨#[]⟩,zB v.kind,zB v.n,.float .f64 v.f,.string v.s,.string ⟨#[107]⟩,.slice (some pb) 1 1]] w _;have HMd6:=trivial;exact zeF
def zbZ(n:Nat)(w:zC):Prop:=∃b c d a e,qF n b c d w 7 2 a [] e/\xp 7 2 a []/\a.shown []= [⟨7,1⟩,⟨7,2⟩]/\a.l.length<=50000/\zcd n w
theorem zbZ.lt{n:Nat}{w:zC}(h:zbZ n w):n+11<w.heap.size:=by obtain⟨_,_,_,_,_,h,_⟩:=h;exact h.lt
theorem zbZ.below{n:Nat}{w w':zC}(a:zbZ n w)(b:Below w w w'):zbZ n w':=by have o:=a.lt;obtain⟨c,d,i,j,e,f,g,h,m,l⟩:=a;exact⟨c,d,i,j,e,f.below b,g,h,m,l.keep fun k p=>b.block k (by omega)⟩
theorem ziw(n:Nat)(c k:Int)(w:zC)(g:zbZ n w)(a:qS [⟨7,2⟩] c+1=k)(e:IntKind.u64.wrap k=k):
 Calls zD 15 #[(n+11:),c] w fun f b=>f=k/\Below w w b:=by
 obtain⟨r,j,q,o,p,h,_⟩:=g;obtain⟨l,m,i,d,_⟩:=h.doc;have:=zjC n c [⟨7,2⟩] w (zpj n 7 2 [] i 0 w d (by decide) (by decide) (by decide) (by decide)) (by constructor<;> simp<;> decide) (by decide) (by rw[a];exact e);rwa[a] at this
theorem zsF(n:Nat){A B:List Nat}{o r:zF}(a w:zC)(d:zb3 n a)(f:a.heap.size=n+12)(e:Below a a w)(h:zv w)(g:qE vT [] 0 A B o r):
 Calls zD 7 #[(n+11:),(jK 7),xc 1 0 0 sab yO ⟨#[]⟩ ()] w (zba (QR (zl ⟨7,0+1⟩ o r sab) (w.heap.size+3)) w):=
 zi3 w (zl ⟨7,0+1⟩ o r sab) n 7 1 (0:Nat) 0 sab yO ⟨#[]⟩ none 0 0 fun c b=>zmr n _ _ _ 7 0 vT [] [] 0 A B o r 0 sab yO ⟨#[]⟩ c (((ziR n 7 a d f).below e).below b) (zgV 7) (by decide) (by decide) (by decide) (by decide) (xO _) g (by decide) (by decide) (h.below b)
theorem zsG(n:Nat)(w:zC)(c:zbZ n w):
 Calls zD 7 #[(n+11:),(jK 7),xc 1 3 0 ⟨#[120]⟩ yO ⟨#[]⟩ ()] w fun j a=>j= .returned (.tuple #[.agg #[(),()],zB 150])/\Below w w a:=by
 refine zgq n 7 150 1 (3:Nat) (0:Nat) _ yO _ none 0 0 w fun a e=> ?_;obtain⟨b,d,k,h,l,f,g,i,m,_⟩:=c.below e;exact zsC n b d k 7 2 h [] l 3 0 _ _ _ a f g (by decide) (by decide) (by decide) m (by rw[i];decide)
theorem zsH(n:Nat)(w:zC):
 Calls zD 7 #[(n+11:),zH,xc 1 0 0 ⟨#[120]⟩ yO ⟨#[]⟩ ()] w fun b a=>b= .returned (.tuple #[.agg #[(),()],zB 154])/\Below w w a:=
 zgq n 0 154 1 0 0 _ yO _ none 0 0 w fun a _=>zsg n 0 1 0 0 _ yO _ none 0 0 a (by decide) (by decide) (.inl (by decide))
theorem zsI(n a:Nat)(w:zC)(o:zbZ n w)(i:zv w)(s:w.cell? a=some (.string bno))(d:a<w):
 Calls zD 7 #[(n+11:),(jK 7),xc 5 0 0 ⟨#[]⟩ yO bk (.slice (some a) 1 1)] w fun k c=>k= .returned (.tuple #[.agg #[(),()],zB 153])/\Below w w c:=by
 refine zgq n 7 153 5 0 0 _ yO _ (some a) 1 1 w fun c b=> ?_;obtain⟨m,e,l,f,g,q,r,_,j,h⟩:=o.below b;exact zsE n a m e l 7 2 f [] g yO c q r (by decide) (by decide) (by decide) j h (i.below b) ((b.cell (p:=a) d).trans s) (zg d b.size)
def tD2:zL:=⟨7,2,3,1⟩
theorem zsJ(n:Nat)(w:zC)(g:zbZ n w):
 Calls zD 7 #[(n+11:),(jK 8),xc 3 1 1 ⟨#[]⟩ yO ⟨#[]⟩ ()] w (zba (QTs [tD2] (w.heap.size+3)) w):=by
 refine zi2 w (QTs [tD2] (w.heap.size+3)) (fun C B A y v ⟨d,a⟩=>⟨d,a.blk fun b c=>v.block b (a.lt c) (by have:=a.ge c;omega)⟩) n 8 3 (1:Nat) (1:Nat) _ yO _ none 0 0 fun h e k=> ?_;have r:=g.below e;obtain⟨x,j,t,p,o,d,a,f,q,_⟩:=r;have:=zmt n x j t 7 2 8 0 p [] o 1 1 ⟨#[]⟩ yO ⟨#[]⟩ h d a (by decide) (by decide) (by decide) q (by decide) (by decide) (by rw[f];decide) fun l u=>ziw n 8 (0+1) l ((g.below e).below u) (by decide) (by decide);rw[f,show zz (xj [] ((([⟨7,1⟩,⟨7,2⟩]:List zF).drop 1).take 1)) []= [tD2] from rfl] at this;refine this.mono ?_;rintro c y ⟨z,b,i,rfl,s,m⟩;exact⟨none,0,0,z,b,i,rfl,m,rfl,s.any k⟩
theorem zsK(n d:Nat){A B:List Nat}{o r:zF}(b w:zC)(h:zb3 n b)(q:b.heap.size=n+12)(g:Below b b w)(v:zv w)(hF:j7 fun a=>n<=a)(j:qE vT [] 0 A B o r)(l:y8 w d 0 (zl ⟨7,0+1⟩ o r sab))(m:d<w)(C:n+11<d):
 Calls zD 9 #[(n+11:),.agg #[.slice (some d) 1 1,()]] w fun i e=>i= .returned (.tuple #[.bool true,zB 0])/\zbZ n e/\Mods (fun a=>n<=a) w e:=by
 have u:(zh sab).length=2:=by decide
 have f:=(zgV 7).insert ⟨by decide,by decide⟩ j (n:=2) (by decide) (by decide);have k:=zlz (cap:=1) ((ziR n 7 b h q).below g) (zgV 7) (by decide) (qj 0) (by decide) (by decide) v hF j (t:=sab) (by decide) (by decide) (by decide) l m C;rw[u] at k;refine k.mono ?_;rintro i e ⟨rfl,⟨x,s,D,y,z,_⟩,p⟩;refine⟨rfl,⟨x,s,D,_,_,y,f.2.2.2.1,f.2.2.2.2,by rw[f.2.2.1];decide,h.ms.keep fun a c=>(p a (by omega) (by omega)).trans (g.block a (by omega))⟩,z.mono fun a c=> ?_⟩;rcases c with c|c|c<;> omega
theorem zix{w:zC}(d:zv w):j7 fun b=>w<=b:=by
 have f:∀{b g:Nat}{e:zJ},w.cell? (b,g)=some e->b<w:=fun {b g e} i=>by
  rcases qs b w with c|c
  ·exact c
  ·simp[World.cell?,zcy c] at i
 have k:=f (d.1 0 ol);have j:=f (d.2 0 ol).1;exact⟨fun h=>oa,fun h=>oa⟩
def zgm(w:zC)(b:Nat)(x y:zJ):Prop:=w.heap[b]?=some (.cells #[x,y] 39 (0,0))
theorem zsL(w:zC)(ao:zv w):Calls zD 4 #[] w fun c a1=>c= .returned (.bool true)/\Below w w a1:=by
 have B:=zmF w;have hF:=zix ao;obtain⟨a,J⟩:=aX w.heap.size;have W:=zA J;rw[<-J] at B hF;clear J;go_enter Tryz.func4,Tryz.ntmps4;go_upto_region 2 with(go_at_call 14;refine B.mono ?_;rintro c A ⟨rfl,ag,aq,H⟩);have ak:zv A:=ao.below (W.o ▸ H);obtain⟨bI,bE,a4,bA,aj⟩:=ziV (S:=vT) (T:= []) (p:=0) (xO _);have O:=zsF a A A ag aq (zf _ _) ak aj;unfold xc sab at O;clear B;go_upto_region 3 with(go_at_call 7;refine O.mono ?_;rintro c au ⟨aP,bj,a2,bC,bt,ad,rfl,o,g,D,bp,az,bH,aw⟩;cases D;cases bp);have bd:=ak.below o;generalize K:World.alloc _ _=f;obtain⟨m,-,-⟩:=aF K;have r:zgm f au (.slice (some g) 1 1) ():=by subst K;exact World.alloc_heap_new _ _
 clear K;have bT:a+12<=au.heap.size:=by have:=o.size;omega
 have ae:=bd.below m;have z:y8 f g 0 (zl ⟨7,0+1⟩ a4 bA sab):=fun ac a8 a3=>(m.cell (p:=(g,0+ac)) aw).trans (az ac a8 a3);have a0:g<f:=zg aw m.size;have i:Below a w f:=(H.trans (o.mono oa)).trans (m.mono oa);unfold zgm at r;have bg:=aC r 0;have bz:=aC r 1;have be:f.cell? g=(jK 7):=z 0 _ rfl;have a6:f.cell? (g,1)=(jK 1):=z 1 _ rfl;have bn:f.cell? (g,8)=some (.string ⟨#[97,98]⟩):=z 8 _ rfl;have ap:=zsK a g A f ag aq (zK o m) ae hF aj z a0 oa;have bM:=zA r;clear r O H o m az;go_upto_region 6 with(go_at_call 9;refine ap.mono ?_;rintro c u ⟨rfl,G,k⟩);have bb:=ae.mods k hF;have br:Below a w u:=⟨k.os.trans i.os,k.tape.trans i.tape,k.output.trans i.output,zk i.size k.size,fun X bh=>(k.block X (zg (by have:=W.o;omega) i.size) oa).trans (i.block X bh)⟩;have an:a<=u:=by have:=G.lt;omega
 clear bg bz be a6 bn ap;have V:=zsG a u G;unfold xc at V;go_upto_region 7 with(go_at_call 7;refine V.mono ?_;rintro c bO ⟨rfl,C⟩);generalize ar:World.alloc _ _=n;have s:Below u u n:=by subst ar;exact C.alloc C.size _
 clear ar;have a5:=G.below s;have bv:=bb.below s;have bu:Below a w n:=br.trans (s.mono an);have aa:a<=n:=zk an s.size;clear V C s;have L:=zsH a n;unfold xc at L;go_upto_region 8 with(go_at_call 7;refine L.mono ?_;rintro c bL ⟨rfl,I⟩);generalize af:World.alloc _ _=b;have t:Below n n b:=by subst af;exact I.alloc I.size _
 clear af;have ay:=a5.below t;have a7:=bv.below t;have bw:Below a w b:=bu.trans (t.mono aa);have aH:a<=b:=zk aa t.size;clear L I t;have p:Below b b (b.alloc (.cells #[.string ⟨#[110,111]⟩] 9)):=aA;have E:=zsI a b (b.alloc (.cells #[.string ⟨#[110,111]⟩] 9)) (ay.below p) (a7.below p) (by rw[World.cell?,World.alloc_heap_new];rfl) oh;unfold xc bk at E;go_upto_region 9 with(go_at_call 7;refine E.mono ?_;rintro c bU ⟨rfl,F⟩);generalize ax:World.alloc _ _=v;have y:Below b b v:=by subst ax;exact(zK p F).alloc (zK p F).size _
 clear ax;have ah:=ay.below y;have bc:Below a w v:=bw.trans (y.mono aH);have ai:a<=v:=zk aH y.size;clear E p F y;have Z:=zsJ a v ah;unfold xc at Z;go_upto_region 10 with(go_at_call 7;refine Z.mono ?_;rintro c bB ⟨aP,bj,a2,bC,bt,ad,rfl,al,D,M⟩;cases D;obtain⟨d,bP,bs⟩:=ownsRow_succ M;cases bs);obtain⟨j,bR,bq,_,ab⟩:=(zG.slice (α:=zL) (k:=4) (enc:=zb) (l:= [tD2]) (fun _=>rfl) M).shape;cases bq;obtain⟨bQ,bS,aZ,x,q⟩:=ab 0 tD2 rfl;cases aZ;generalize N:World.alloc _ _=e;obtain⟨h,-,-⟩:=aF N;have Y:zgm e bB () (.slice (some d) 1 ad):=by subst N;exact World.alloc_heap_new _ _
 clear N;unfold zgm at Y;have bJ:=aC Y 1;have bF:e.cell? d=(jK 7):=(h.cell (p:=d) x).trans (q 0 _ rfl);have bG:e.cell? (d,1)=(jK 2):=(h.cell (p:=(d,1)) x).trans (q 1 _ rfl);have bD:e.cell? (d,2)=(jK 3):=(h.cell (p:=(d,2)) x).trans (q 2 _ rfl);have bK:e.cell? (d,3)=(jK 1):=(h.cell (p:=(d,3)) x).trans (q 3 _ rfl);have R:=zK al h;have av:=ah.below R;have bo:Below a w e:=bc.trans (R.mono ai);have bx:a<=e:=zk ai R.size;have ba:=ziw a 7 3 e av ol ol;have a9:=fun bf bl=>ziw a 9 1 bf (av.below bl) ol ol;clear Z q ab M Y al h;go_wp2_with (first|(go_at_call_of 15 (Value.int .u64 7);refine ba.mono ?_;rintro c bV ⟨rfl,am⟩)|(go_at_call_of 15 (Value.int .u64 9);refine(a9 _ am).mono ?_;rintro c bN ⟨rfl,bi⟩));go_ret;have bm:=bo.trans ((zK am bi).mono bx);exact⟨rfl,W.o ▸ bm⟩
section
theorem ze2{T:List zL}(b:yM T):zz (T++[]) []=T:=by obtain⟨c,a⟩:=zah (T++[]);exact zf5 c b fun d=>by rw[a,zbl]
theorem ze3{T:List zL}(h:yM T):zz T []=T:=by have:=ze2 h;rwa[zbl] at this
theorem zl0{Φ:yA}{w:zC}{a cap:Nat}{o:zQ}(f:y8 w a 0 o)(k:a<w)(e:1<=cap)(hF:Φ.F a):zx Φ 22 ze w (.slice (some a) 1 cap) [o]:=by
 refine⟨.inr ⟨a,0,cap,rfl,oh,k,fun j m c i p h=> ?_⟩,_,cap,rfl,e,(fun b=>by cases b),fun q b=>by cases b;exact hF⟩;have d:j=0:=by have:=(zw.1 c).1;simp at this;omega
 subst d;obtain rfl:o=m:=obg;have:=f i p h;simpa using this
section
variable {n dp s s0:Nat}{F Fs FR F0 FS0 FR0:Nat->Prop}{w w0:zC}{K:Int}{S:zE}{T:List zL}{ul ul':List (zF×Value)}{g:zF->xy}{l:List zQ}
theorem zaS.fin{b:Int}{a:zE}{T':List zL}{e:zF->xy}{l':List zQ}{w':zC}(c:zaS n dp s F Fs FR w K b S a T T' ul' l)(h:Mods (fun f=>f=dp) w w')(i:zbM (ze1 n F Fs s) w' dp ⟨l',xt b,T',xf (xL T'),a⟩)(m:xp 5 b a T')(j:zdw ul' a e)(k:b<=4*l'.length/\(a.l.length:Int)<=b/\l'.length<=50):
 xZ n dp s F Fs FR w' b a T' ul' e l' where
 ch:=c.ch.mods h fun f o _=>by
  subst o;have d:=c.dp;refine⟨fun g=> ?_,d.2.2.2⟩;rcases g with g|g|g
  ·omega
  ·exact d.2.1 g
  ·exact d.2.2.1 g
 cI:=m
 rd:=i
 sh:=j
 ss:=⟨zk c.ss.1 h.size,c.ss.2⟩
 dp:=c.dp
 kb:=k
theorem zaS.ref_t (a:xZ n dp s0 F0 FS0 FR0 w0 K S T ul g l){p:Nat}{A B:List Nat}{o r:zF}(e:qE S T p A B o r){t:ByteArray}(f:j9 t=true) (u:1<=(zh t).length) (ae:(zh t).length<=4) (I:t.size<=1000000) (af:l.length<50)
 (C:zaS n dp s F Fs FR w K (K+(zh t).length) S (S.insN ⟨⟨5,K+1⟩,o,r⟩ (zh t).length) T T (jw ul ⟨5,K+1⟩ (zh t)) l){b cap:Nat}(R:y8 w b 0 (zl ⟨5,K+1⟩ o r t)) (X:b<w) (Z:1<=cap) (M:¬qp n F Fs b\/s<=b):
 Calls zD 10 #[dp,.agg #[.slice (some b) 1 cap,()]] w fun D d=>D=(zB 0)/\
  xZ n dp s F Fs FR d (K+(zh t).length) (S.insN ⟨⟨5,K+1⟩,o,r⟩ (zh t).length) T (jw ul ⟨5,K+1⟩ (zh t)) (zdx g 5 (K+1) (zh t)) (l++[zl ⟨5,K+1⟩ o r t])/\Mods (fun Y=>Y=dp) w d:=by
 have G:=a.kk
 have ai:=a.kb
 obtain⟨O,ag,ah⟩:=za0 f
 obtain⟨aj,V⟩:=zlr O
 obtain⟨E,H⟩:=zgO a.cI e
 have W:(⟨5,K+1⟩:zF).rightB=true:=oX
 have c:=a.cI.insert ⟨ol,ol⟩ e u oa
 have N:=zdz (K:=K) ⟨G.1,oa⟩
 have x:xm.turn ⟨l,xt K,T,xf (xL T),S⟩ []=⟨l,xt K,T,xf (xL T),S⟩:=by unfold xm.turn;dsimp only;rw[ze2 a.cI.norm,ze3 a.cI.norm]
 obtain⟨h,v,i,j,k,q,m,aa⟩:=C.rd
 have L:=zna dp h v i j k q m ⟨l,xt K,T,xf (xL T),S⟩ (.slice (some b) 1 cap) () (zl ⟨5,K+1⟩ o r t) (zh t).length [] w aa zx.nil (zl0 R X Z M)
  (by show T.length+0<=4000;omega) oaA oU
  (by show(xf (xL T)).length<=_;have:=zdk (xL T);have ad:=zc3 T;omega)
  (fun w=>zuI ⟨5,K+1⟩ o r t w W f I (by show K+1+_ - 1<=_;omega) E H)
  (fun h v i j k ac q m w z=>by rw[x] at z;exact zta dp h v i j k ac q m _ ⟨5,K+1⟩ o r t w z I f (by show xN (xt K) 5=K+1 - 1;rw[N];omega) oaF (by show K+1<_;omega) E.same H.same)
  (.inl rfl) u oaF (by show K+1+_<=_;omega) (fun w=>zkj ⟨5,K+1⟩ o r t w oa) c.1 c.2.1 (by show S.l.length+_<=_;omega) (by show l.length<=_;omega) (by have:=zlw K;show(xt K).length<=_;omega)
 refine L.mono ?_
 rintro D d ⟨rfl,y,J⟩
 rw[x] at y
 refine⟨rfl,C.fin J ?_ c.2.2.2.1 (zqF a.cI ⟨ol,ol⟩ a.sh e u oa V) ?_,J⟩
 ·have ab:zaY (xt K++[⟨5,K+1+(zh t).length - 1⟩])=xt (K+(zh t).length):=by rw[show K+1+((zh t).length:Int) - 1=K+(zh t).length by omega];exact zly G.1 oa oa
  rw[<-ab];exact y
 ·rw[xY,c.2.2.1];simp only[z7,xB];omega
theorem zaS.ref_e (a:xZ n dp s0 F0 FS0 FR0 w0 K S T ul g l){p:Nat}{A B:List Nat}{o r:zF}(e:qE S T p A B o r){v:zr}(N:WV v) (aa:l.length<50)
 (y:zaS n dp s F Fs FR w K (K+1) S (S.insN ⟨⟨5,K+1⟩,o,r⟩ 1) T T (xT ul ⟨5,K+1⟩ (jT ⟨⟨#[]⟩,true,v⟩)) l){b cap:Nat}(L:y8 w b 0 (zj ⟨5,K+1⟩ o r v)) (O:b<w) (V:1<=cap) (I:¬qp n F Fs b\/s<=b):
 Calls zD 10 #[dp,.agg #[.slice (some b) 1 cap,()]] w fun z d=>z=(zB 0)/\
  xZ n dp s F Fs FR d (K+1) (S.insN ⟨⟨5,K+1⟩,o,r⟩ 1) T (xT ul ⟨5,K+1⟩ (jT ⟨⟨#[]⟩,true,v⟩)) (zdy g ⟨5,K+1⟩ ⟨⟨#[]⟩,true,v⟩) (l++[zj ⟨5,K+1⟩ o r v])/\Mods (fun R=>R=dp) w d:=by
 have D:=a.kk
 have ab:=a.kb
 obtain⟨C,E⟩:=zgO a.cI e
 have M:(⟨5,K+1⟩:zF).rightB=true:=oX
 have c:=a.cI.insert ⟨ol,ol⟩ e (zU 1) oa
 have J:=zdz (K:=K) ⟨D.1,oa⟩
 have t:xm.turn ⟨l,xt K,T,xf (xL T),S⟩ []=⟨l,xt K,T,xf (xL T),S⟩:=by unfold xm.turn;dsimp only;rw[ze2 a.cI.norm,ze3 a.cI.norm]
 obtain⟨f,q,h,i,j,m,k,W⟩:=y.rd
 have H:=zna dp f q h i j m k ⟨l,xt K,T,xf (xL T),S⟩ (.slice (some b) 1 cap) () (zj ⟨5,K+1⟩ o r v) 1 [] w W zx.nil (zl0 L O V I)
  (by show T.length+0<=4000;omega) oaA oU
  (by show(xf (xL T)).length<=_;have:=zdk (xL T);have Z:=zc3 T;omega)
  (fun w=>zuN ⟨5,K+1⟩ o r v w M N C E)
  (fun f q h i j Y m k w x=>by rw[t] at x;exact ztb dp f q h i j Y m k _ ⟨5,K+1⟩ o r v w x (by show xN (xt K) 5=K+1 - 1;rw[J];omega) oaF (by show K+1<_;omega) C.same E.same)
  (.inr rfl) (zU 1) oaF (by show K+1+((1:Nat):Int)<=_;omega) (fun w=>zkk ⟨5,K+1⟩ o r v w) c.1 c.2.1 (by show S.l.length+1<=_;omega) (by show l.length<=_;omega) (by have:=zlw K;show(xt K).length<=_;omega)
 refine H.mono ?_
 rintro z d ⟨rfl,u,G⟩
 rw[t] at u
 refine⟨rfl,y.fin G ?_ (by have:=c.2.2.2.1;simpa using this) (zqH a.cI ⟨ol,ol⟩ a.sh e oa v) ?_,G⟩
 ·have X:zaY (xt K++[⟨5,K+1+((1:Nat):Int) - 1⟩])=xt (K+1):=by rw[show K+1+((1:Nat):Int) - 1=K+1 by omega];exact zly D.1 oa oa
  rw[<-X];exact u
 ·rw[xY,c.2.2.1];simp only[z7,xB];omega
theorem zaS.ref_d (c:xZ n dp s0 F0 FS0 FR0 w0 K S T ul g l){p m:Nat}(H:1<=m) (C:m<=4) (E:p+m<=(S.shown T).length) (J:l.length<50)
 (e:zaS n dp s F Fs FR w K K S S T (zz (T++zz (xj T (((S.shown T).drop p).take m)) []) []) ul l){uv:zJ}(h:zx (ze1 n F Fs s) 4 zb w uv (zz (xj T (((S.shown T).drop p).take m)) [])):
 Calls zD 10 #[dp,.agg #[(),uv]] w fun j d=>j=(zB 0)/\
  xZ n dp s F Fs FR d K S (zz (T++zz (xj T (((S.shown T).drop p).take m)) []) []) ul g l/\Mods (fun B=>B=dp) w d:=by
 have N:=c.kk
 obtain⟨M,I,r,b⟩:=c.del H C E
 have v:=b.tlen
 obtain⟨t,G,u,x,y,A,z,D⟩:=e.rd
 obtain⟨a,q⟩:=aY (zz (xj T (((S.shown T).drop p).take m)) [])
 rw[q] at I r b v h e ⊢
 have k:=zth dp t G u x y A z ⟨l,xt K,T,xf (xL T),S⟩ uv a w D h (by show T.length+a.length<=4000;omega) (by show(zz (T++a) []).length<=_;omega) (by show(zz (zz (T++a) []) []).length<=_;rw[ze3 b.norm];omega)
  (by show(xf (xL T)).length<=_;have:=zdk (xL T);have L:=zc3 T;omega)
 refine k.mono ?_
 rintro j d ⟨rfl,f,i⟩
 have o:xm.turn ⟨l,xt K,T,xf (xL T),S⟩ a=⟨l,xt K,zz (T++a) [],xf (xL (zz (T++a) [])),S⟩:=by unfold xm.turn;dsimp only;rw[ze3 b.norm]
 rw[o] at f
 exact⟨rfl,e.fin i f b c.sh c.kb,i⟩
end
end
section
def zqL(n dp i:Nat)(c d:Nat->Prop)(e:List ByteArray)(w w':zC):Prop:=
 ∃s F Fs FR K S T ul g l,xZ n dp s F Fs FR w' K S T ul g l/\l.length<=i+1/\S.texts T g=e/\Mods (fun b=>qp n c d b\/b=dp) w w'/\∀b,b<w.heap.size->¬qp n c d b->¬qp n F Fs b
structure zgP(n dp i:Nat)(F0 FS0:Nat->Prop)(L':List ByteArray)(ev:zJ)(wa:zC)(Q1 Q2:Value->Value->World->Prop)(M:Value->World->World->Prop):Prop where
 b1:∀a b w w',Q1 a b w->Below w w w'->Q1 a b w'
 b2:∀a b w w',Q2 a b w->Below w w w'->Q2 a b w'
 mkp:∀w,Below wa wa w->Calls zD 7 #[(n+11:),(jK 5),ev] w (zba Q1 w)
 mk15:∀w,Below wa wa w->Calls zD 8 #[dp,(jK 5),ev] w (zba Q2 w)
 ap:∀a b c d w,Below wa wa w->Q1 a b w->Q2 c d w->Calls zD 9 #[(n+11:),.agg #[a,b]] w fun e w'=>e= .returned (.tuple #[.bool true,zB 0])/\Mods (qp n F0 FS0) w w'/\M (.agg #[c,d]) w w'
 zee:∀u w w',M u w w'->Calls zD 10 #[dp,u] w' fun e w2=>e=(zB 0)/\Mods (fun b=>b=dp) w' w2/\zqL n dp i F0 FS0 L' w w2
theorem y8.toB{w w':zC}{a:Nat}{o:zQ}(d:y8 w a 0 o)(c:a<w)(b:Below w w w'):y8 w' a 0 o:=d.blo b c
section
variable {n dp s:Nat}{F Fs FR:Nat->Prop}{w:zC}{K:Int}{S:zE}{T:List zL}{ul:List (zF×Value)}{g:zF->xy}{l:List zQ}
theorem zl1{o:zQ}{a w:World}{f:FuncId}{args:Array Value}(i:a.heap.size<=w.heap.size)(b:Calls Tryz.prog f args w (zft o w)):Calls Tryz.prog f args w (zba (QR o a.heap.size) w):=by refine b.mono ?_;rintro k h ⟨d,rfl,c,j,e,g⟩;exact⟨_,_,_,_,_,_,rfl,g,d,rfl,rfl,c,by omega,e⟩
theorem QR.weak{o:zQ}{c d:Nat}(k:d<=c){a b:zJ}{w:zC}(e:QR o c a b w):QR o d a b w:=by obtain⟨g,i,j,f,l,h⟩:=e;exact⟨g,i,j,f,by omega,h⟩
theorem QR.toB{o:zQ}{c:Nat}{a b:zJ}{w w':zC}(f:QR o c a b w)(d:Below w w w'):QR o c a b w':=by obtain⟨i,j,k,g,h,e⟩:=f;exact⟨i,j,k,g.toB e d,h,zg e d.size⟩
theorem xZ.chg_lt(d:xZ n dp s F Fs FR w K S T ul g l){b:Nat}(c:qp n F Fs b):b<s:=by
 have a:=d.ss;rcases c with g|g|g
 ·omega
 ·exact a.2.2 b (.inl g)
 ·exact a.2.2 b (.inr g)
theorem xZ.dp_lt(a:xZ n dp s F Fs FR w K S T ul g l):dp<w:=by obtain⟨h,d,j,i,e,c,f,b⟩:=a.rd;exact b.lt
def zgQ(n dp:Nat)(b c:Nat->Prop)(K d:Int)(S e:zE)(T T':List zL)(f:List (zF×Value))(l:List zQ)(Q:Value->World->Prop)(u:zJ)(w w':zC):Prop:=
 Q u w/\∃s F Fs FR,zaS n dp s F Fs FR w' K d S e T T' f l/\Mods (qp n b c) w w'/\∀a,a<w.heap.size->¬qp n b c a->¬qp n F Fs a
theorem zd0.step{c d m:Nat->Prop}{K e:Int}{S j:zE}{T T':List zL}{k:List (zF×Value)}{l:List zQ}{w w':zC}(p:zd0 n dp c d m K e S j T T' k l w w'){Q:Value->World->Prop}{u:zJ}(o:Q u w):Mods (qp n c d) w w'/\zgQ n dp c d K e S j T T' k l Q u w w':=by
 obtain⟨s,F,Fs,FR,q,i,f,r⟩:=p;refine⟨i,o,s,F,Fs,FR,q,i,fun h t b g=> ?_⟩;rcases g with g|g|g
 ·exact b (.inl g)
 ·rcases f h (.inl g) with a|a|a
  ·exact b (.inr (.inl a))
  ·exact b (.inr (.inr a))
  ·omega
 ·rcases f h (.inr g) with a|a|a
  ·exact b (.inr (.inl a))
  ·exact b (.inr (.inr a))
  ·omega
theorem xZ.step_t(h:xZ n dp s F Fs FR w K S T ul g l)(C:zv w)(M:j7 fun b=>n<=b){p:Nat}(A:p<=(S.shown T).length)(m i:Nat)(t:ByteArray)(v:zr)(z:ByteArray)(y:j9 t=true)(h1:1<=(zh t).length)(I:(zh t).length<=4)(x:t.size<=1000000)(hv:WV v)(hi:i<50)(ac:l.length<=i):
 ∃W O G,zgP n dp i F Fs ((S.texts T g).take p++(((zh t).map fun j=>(qG j).text)++(S.texts T g).drop p)) (xc 1 p m t v z ()) w W O G:=by
 obtain⟨aa,X,o,j,r⟩:=ziV A;have ab:=h.kk;have Z:=h.ss;refine⟨QR (zl ⟨5,K+1⟩ o j t) w.heap.size,QR (zl ⟨5,K+1⟩ o j t) w.heap.size,zgQ n dp F Fs K (K+(zh t).length) S (S.insN ⟨⟨5,K+1⟩,o,j⟩ (zh t).length) T T (jw ul ⟨5,K+1⟩ (zh t)) l (fun u f=>w.heap.size<=f.heap.size/\∃c d,u= .agg #[c,d]/\QR (zl ⟨5,K+1⟩ o j t) w.heap.size c d f),?_⟩;exact {
  b1:=fun a b w f hq hb=>hq.toB hb
  b2:=fun a b w f hq hb=>hq.toB hb
  mkp:=fun f hb=>((h.mods hb).make_t (C.below hb) A r m t v z y x).mono fun e w2 hq=>by obtain⟨L,n1,c1,p2,n2,c2,e1,e2,e3⟩:=hq;exact⟨L,n1,c1,p2,n2,c2,e1,e2,e3.weak (by have:=hb.size;omega)⟩
  mk15:=fun f hb=>zl1 hb.size ((h.mods hb).make15_t A r m t v z y x hv)
  ap:=fun a b c d f hb E J=>by obtain⟨ob,rfl,rfl,q1,q2,q⟩:=E;refine((h.mods hb).apply_t (C.below hb) M r y h1 x q1 q (by omega)).mono ?_;rintro e w2 ⟨rfl,hm⟩;have:=hm.step (Q:=fun u f=>w.heap.size<=f.heap.size/\∃c d,u= .agg #[c,d]/\QR (zl ⟨5,K+1⟩ o j t) w.heap.size c d f) (u:= .agg #[c,d]) ⟨hb.size,c,d,rfl,J⟩;exact⟨rfl,this⟩
  zee:=fun u w1 w2 N=>by obtain⟨⟨Y,c,d,rfl,ob,rfl,rfl,q1,q2,q⟩,s',F',Fs',FR',m1,m2,B⟩:=N;have D:¬qp n F Fs ob:=fun k=>(by have:=h.chg_lt k;omega);have R:y8 w2 ob 0 (zl ⟨5,K+1⟩ o j t):=fun i H V=>(xA (w:=w1) (m2.block ob q D)).trans (q1 i H V);refine(zaS.ref_t h r y h1 I x (by omega) m1 R (zg q m2.size) (zU 1) (.inl (B ob q D))).mono ?_;rintro e w3 ⟨rfl,r1,r2⟩;refine⟨rfl,r2,s',F',Fs',FR',_,_,_,_,_,_,r1,by rw[xY];simp;omega,zqG h.cI ⟨by decide,by decide⟩ r h1 (by omega) g,(m2.mono fun b k=> .inl k).trans (r2.mono fun b k=> .inr k),B⟩}
theorem xZ.step_e(h:xZ n dp s F Fs FR w K S T ul g l)(A:zv w)(I:j7 fun b=>n<=b){p:Nat}(y:p<=(S.shown T).length)(m i:Nat)(t:ByteArray)(v:zr)(x:ByteArray)(hv:WV v)(hi:i<50)(Z:l.length<=i):
 ∃O L D,zgP n dp i F Fs ((S.texts T g).take p++([⟨#[239,191,188]⟩]++(S.texts T g).drop p)) (xc 2 p m t v x ()) w O L D:=by
 obtain⟨X,R,o,j,r⟩:=ziV y;have Y:=h.kk;have W:=h.ss;refine⟨QR (zj ⟨5,K+1⟩ o j v.clean) w.heap.size,QR (zj ⟨5,K+1⟩ o j v.clean) w.heap.size,zgQ n dp F Fs K (K+1) S (S.insN ⟨⟨5,K+1⟩,o,j⟩ 1) T T (xT ul ⟨5,K+1⟩ (jT ⟨⟨#[]⟩,true,v.clean⟩)) l (fun u f=>w.heap.size<=f.heap.size/\∃c d,u= .agg #[c,d]/\QR (zj ⟨5,K+1⟩ o j v.clean) w.heap.size c d f),?_⟩;exact {
  b1:=fun a b w f hq hb=>hq.toB hb
  b2:=fun a b w f hq hb=>hq.toB hb
  mkp:=fun f hb=>((h.mods hb).make_e (A.below hb) y r m t v x hv).mono fun e w2 hq=>by obtain⟨H,n1,c1,p2,n2,c2,e1,e2,e3⟩:=hq;exact⟨H,n1,c1,p2,n2,c2,e1,e2,e3.weak (by have:=hb.size;omega)⟩
  mk15:=fun f hb=>zl1 hb.size ((h.mods hb).make15_e y r m t v x hv)
  ap:=fun a b c d f hb C G=>by obtain⟨ob,rfl,rfl,q1,q2,q⟩:=C;refine((h.mods hb).apply_e (A.below hb) I r hv.clean (zr.clean_clean v) q1 q (by omega)).mono ?_;rintro e w2 ⟨rfl,hm⟩;have:=hm.step (Q:=fun u f=>w.heap.size<=f.heap.size/\∃c d,u= .agg #[c,d]/\QR (zj ⟨5,K+1⟩ o j v.clean) w.heap.size c d f) (u:= .agg #[c,d]) ⟨hb.size,c,d,rfl,G⟩;exact⟨rfl,this⟩
  zee:=fun u w1 w2 J=>by obtain⟨⟨V,c,d,rfl,ob,rfl,rfl,q1,q2,q⟩,s',F',Fs',FR',m1,m2,z⟩:=J;have B:¬qp n F Fs ob:=fun k=>(by have:=h.chg_lt k;omega);have M:y8 w2 ob 0 (zj ⟨5,K+1⟩ o j v.clean):=fun i E N=>(xA (w:=w1) (m2.block ob q B)).trans (q1 i E N);refine(zaS.ref_e h r hv.clean (by omega) m1 M (zg q m2.size) (zU 1) (.inl (z ob q B))).mono ?_;rintro e w3 ⟨rfl,r1,r2⟩;refine⟨rfl,r2,s',F',Fs',FR',_,_,_,_,_,_,r1,by rw[xY];simp;omega,zqI h.cI ⟨by decide,by decide⟩ r (by omega) g v.clean,(m2.mono fun b k=> .inl k).trans (r2.mono fun b k=> .inr k),z⟩}
theorem xZ.step_d(h:xZ n dp s F Fs FR w K S T ul g l){p m:Nat}(y:1<=m)(hm4:m<=4)(x:p+m<=(S.shown T).length)(i:Nat)(t:ByteArray)(v:zr)(z:ByteArray)(hv:WV v)(hi:i<50)(Z:l.length<=i):
 ∃V R J,zgP n dp i F Fs ((S.texts T g).take p++(S.texts T g).drop (p+m)) (xc 3 p m t v z ()) w V R J:=by
 have Y:=h.kk;have X:=h.ss;obtain⟨U,r⟩:=aY (zz (xj T (((S.shown T).drop p).take m)) []);have E:∀a b w1 w2,QTs U w a b w1->Below w1 w1 w2->QTs U w a b w2:=fun a b w1 w2 hq hb=>⟨hq.1,hq.2.blk fun k e=>hb.block k (hq.2.lt e)⟩;refine⟨QTs U w.heap.size,QTs U w.heap.size,zgQ n dp F Fs K K S S T (zz (T++U) []) ul l (fun u f=>w.heap.size<=f.heap.size/\∃c d,u= .agg #[c,d]/\QTs U w.heap.size c d f),?_⟩;exact {
  b1:=E
  b2:=E
  mkp:=fun f hb=>((h.mods hb).make_d y (by omega) x t v z).mono fun e w2 hq=>by obtain⟨N,n1,c1,p2,n2,c2,e1,e2,e3,B⟩:=hq;rw[r] at B;exact⟨N,n1,c1,p2,n2,c2,e1,e2,e3,B.any (by have:=hb.size;omega)⟩
  mk15:=fun f hb=>((h.mods hb).make15_d y (by omega) x t v z hv).mono fun e w2 hq=>by obtain⟨tv,rfl,e2,e3⟩:=hq;rw[r] at e2;obtain⟨q,cq,rfl⟩:=e2.len;exact⟨none,0,0,q,_,cq,rfl,e3,rfl,e2.any hb.size⟩
  ap:=fun a b c d f hb I M=>by obtain⟨rfl,j⟩:=I;refine((h.mods hb).apply_d y hm4 x (uv:=b) (by rw[r];exact zG.slice (k:=4) (enc:=zb) (fun _=>rfl) j)).mono ?_;rintro e w2 ⟨rfl,hm⟩;rw[r] at hm;have:=hm.step (Q:=fun u f=>w.heap.size<=f.heap.size/\∃c d,u= .agg #[c,d]/\QTs U w.heap.size c d f) (u:= .agg #[c,d]) ⟨hb.size,c,d,rfl,M⟩;exact⟨rfl,this⟩
  zee:=fun u w1 w2 O=>by
   obtain⟨⟨W,c,d,rfl,rfl,j⟩,s',F',Fs',FR',m1,m2,C⟩:=O;have G:∀b,d.ownBlock=some b->¬qp n F Fs b:=fun b e o=>(by have:=h.chg_lt o;have:=j.ge e;omega);have D:zG w 68 4 zb w2 d U:=j.blk fun b e=>m2.block b (j.lt e) (G b e);have A:zx (ze1 n F' Fs' s') 4 zb w2 d U:=by
    refine⟨zG.slice (k:=4) (enc:=zb) (fun _=>rfl) D,?_⟩;rcases D.2 with⟨rfl,L⟩|⟨H,cap,cur,rfl,hg,_,hn,_⟩
    ·exact⟨none,0,by rw[L],by omega,fun _=>rfl,fun _ e=>by cases e⟩
    ·exact⟨_,cap,rfl,hn,(fun e=>by cases e),fun a e=>by cases e;exact .inl (C H (j.lt rfl) (G H rfl))⟩
   rw[<-r] at m1 A;refine(zaS.ref_d h y hm4 x (by omega) m1 A).mono ?_;rintro e w3 ⟨rfl,r1,r2⟩;refine⟨rfl,r2,s',F',Fs',FR',_,_,_,_,_,_,r1,by omega,?_,(m2.mono fun b o=> .inl o).trans (r2.mono fun b o=> .inr o),C⟩;obtain⟨n1,n2⟩:=zlv h.cI x;exact zqJ h.cI n1 n2 g}
end
end
open Go.Shelf
theorem zxN(n:Nat)(w:zC)(t:zaz n w)(A:zq xV w (n+9) []):
 Calls zD 53 #[(n+10:)] w fun b d=>b=()/\Below w w d:=by
 have k:Calls zD 129 #[(n+10:),.agg #[zT.c,zT.k]] w fun b d=>b=()/\Below w w d:=by
  obtain⟨k,p⟩:=t;have x:=aL p;have q:=fun w=>zwB w;change Calls zD 129 #[(n+10:),.agg #[zH,zH]] w _;go_enter Tryz.func129,Tryz.ntmps129;go_wp2_with fail;obtain⟨a,e⟩:=aY (w.alloc (.cells #[zH,zH] 62));have j:Below w w a:=by rw[<-e];exact aB
  have l:a.heap[w.heap.size]?=some (.cells #[zH,zH] 62 (0,0)):=by subst e;(simp only[zt,qX];repeat(first|rw[zP rfl] |rw[zP trivial] |rw[zP (by omega)] |rw[zN (by omega)]))
  have K:w.heap.size<a.heap.size:=by subst e;simp
  rw[e];clear e;have m:=(j.block _ x).trans p;have I:=A.blk (j.block _ oa);have L:=aL m;have B:=aD m 1;have D:=aD l 0;have G:=aD l 1;have s:∀c:zI zX a,(Instr.lookup 172 (.map (some (n+9))) (.agg #[zH,zH]) false).run zD c.val= .ok (.map none) c.val:=fun c=>by have:=zbB (T:=172) (E:=261) vb oe (z:= .map none) (fun w=>oe) (I.blk (w':=c.val) (c.h.block _ oa id)) zT false;exact this
  refine zrK 10 [0,1,2,3,4,5,9] [6,7,8] (fun d=>∃c:zI zX a,d=c.val) oe oe (fun _ _ r _ _ h=>by cases r<;> exact h) (zI.to (Mods.refl _ _).drew) ?_;simp only[xd,yl,vN,jn,vq];refine aR ?_;refine aS ?_;go_wp2_with (go_at_call 195;refine(q _).mono ?_;rintro b J ⟨rfl,rfl⟩);refine⟨zI.to (((Mods.refl _ a).alloc _).drew),?_⟩;refine aS ?_;obtain⟨f,g⟩:=aY ((a.alloc (.cells #[.map none] 261)).drew);have o:Calls zD 187 #[.func (.func 240) #[] #[a]] f fun b H=>b=()/\Below f f H:=by rw[<-g];exact zwE a _ (by show(a.alloc _).cell? _=_;go_simp) (by show _<(a.alloc _).heap.size;simp)
  have F:Below a a f:=by rw[<-g];exact aB
  rw[g];clear g;go_wp2_with fail;refine zbm o ?_;rintro b u ⟨rfl,y⟩;have i:Below a a u:=zK F y;go_wp2_with fail;refine⟨zI.to (Mods.of_below i),?_⟩;refine aS ?_;go_wp2_with fail;refine⟨zI.to (Mods.of_below i),?_⟩;refine xE ?_;have C:=zK j i;clear s B D G o;go_wp2;refine zbq 1 ?_;rw[vM];go_wp2;go_ret;exact⟨rfl,C⟩
 go_enter Tryz.func53,Tryz.ntmps53;go_wp2_with (go_at_call 129;refine k.mono ?_;rintro b J ⟨rfl,v⟩);go_ret;exact⟨rfl,v⟩
end Go.Proofs.YtimlgcodecgecaaGreatDoor
