/- Walk: View of a document without marks and sets: texts joined, embeds apart. -/
import Derived.Test.YtimlgcodecgecaaGreatDoorZ43
import Derived.Test.YtimlgcodecgecaaGreatDoorZ44
import Derived.Sort.CutIn
set_option maxRecDepth 100000
set_option maxHeartbeats 20000000
set_option linter.all false
namespace Go.Proofs.YtimlgcodecgecaaGreatDoor
open Go.RowKit Go.Shelf Go.Lib
section
attribute [local go_sem] jl
structure zal(n Z Y Bp R N:Nat)(av:zJ)(g:zF->xy)(W0:zC)(pre:List (Nat×zV))(W:zC):Prop where
 b:Below Z W0 W
 d:W.heap[Z]?=some (.cells #[(n+11:)] 24 (0,0))
 r:W.heap[Z+1]?=some (.cells #[(),()] 57 (0,0))
 a:W.heap[Y]?=some (.cells #[av] 126 (0,0))
 ar:zG (Z+3) 51 1 zbb W av (List.range N)
 p:W.heap[Bp]?=some (.cells #[(n+11:)] 24 (0,0))
 v:∃rv L,W.heap[Z+2]?=some (.cells #[rv,()] 57 (0,0))/\zG R 53 7 yb W rv L/\qO L=qO (pre.map fun x=>g x.2.id)/\L.length<=pre.length
theorem zal.keep{n e o m R N:Nat}{k:zJ}{g:zF->xy}{i W W':zC}{r:List (Nat×zV)}(c:zal n e o m R N k g i r W)(v:Below e i W')(d:∀a,a<W.heap.size->(a=e\/a=e+1\/a=e+2\/a=o\/a=m\/k.ownBlock=some a\/R<=a/\∃p B s,W.heap[a]?=some (.cells p B s))->W'.heap[a]?=W.heap[a]?):zal n e o m R N k g i r W':=by
 have f:=fun {a:Nat}{t:Obj}(b:W.heap[a]?=some t)=>(aL b);obtain⟨A,u,q,h,y,w⟩:=c.v;refine⟨v,(d _ (f c.d) (by simp)).trans c.d,(d _ (f c.r) (by simp)).trans c.r,(d _ (f c.a) (by simp)).trans c.a,c.ar.blk fun l b=>d l (c.ar.lt b) (by simp[b]),(d _ (f c.p) (by simp)).trans c.p,A,u,(d _ (f q) (by simp)).trans q,h.blk fun l b=>d l (h.lt b) ?_,y,w⟩;have z:=h.ge b;rcases h.2 with⟨j,_⟩|⟨D,C,p,j,_,x,_⟩
 ·rw[j] at b;cases b
 ·rw[j] at b;cases b;exact .inr (.inr (.inr (.inr (.inr (.inr ⟨z,_,_,_,x⟩)))))
theorem zal.below{n b d f R N:Nat}{h:zJ}{g:zF->xy}{e W W':zC}{i:List (Nat×zV)}(a:zal n b d f R N h g e i W)(c:Below W W W'):zal n b d f R N h g e i W':=by have l:=aL a.d;exact a.keep (a.b.trans (c.mono (by omega))) fun j k _=>c.block j k
theorem zal.put{n e t r R N:Nat}{m:zJ}{g:zF->xy}{k W:zC}{s:List (Nat×zV)}(a:zal n e t r R N m g k s W){l:Nat}{o:Obj}(z:e<=l)(v:W.heap[l]?=some o)(u:zex o)(w:Obj):zal n e t r R N m g k s (W.putObj l w):=by
 have c:∀d f h,W.heap[l]?≠some (.cells d f h):=fun d f h b=>by rw[v] at b;rcases u with⟨B,rfl⟩|⟨C,rfl⟩<;> cases b
 refine a.keep ⟨a.b.os,a.b.tape,a.b.output,by simpa[World.putObj] using a.b.size,fun p q=>(World.putObj_heap_other (by omega)).trans (a.b.block p q)⟩ fun p q j=>World.putObj_heap_other ?_;rintro rfl;obtain⟨E,A,x,_⟩:=a.v;rcases j with rfl|rfl|rfl|rfl|rfl|b|⟨_,d,f,h,b⟩
 ·exact c _ _ _ a.d
 ·exact c _ _ _ a.r
 ·exact c _ _ _ x
 ·exact c _ _ _ a.a
 ·exact c _ _ _ a.p
 ·rcases a.ar.2 with⟨i,_⟩|⟨D,y,d,i,_,j,_⟩
  ·rw[i] at b;cases b
  ·rw[i] at b;cases b;exact c _ _ _ j
 ·exact c _ _ _ b
theorem zxO:(Tryz.prog.info? 53).map (fun i=>(i.zero,i.size,i.bytes))=some (some (.agg #[.string ⟨#[]⟩,.bool false,zB 0,zB 0,.float .f64 0,.string ⟨#[]⟩,()]),7,88):=by kernel_rfl
theorem zxP(l:List xy)(b:∀a∈l,(jO a).size<=8):(qO l).size<=8*l.length:=by
 induction l with
 |nil=>exact xO _
 |cons a l e=>
  have f:=b a (by simp);have g:=e fun c d=>b c (by simp[d]);simp only[qO,zfQ,z7];omega
def zxQ(d N:Nat)(b:zC)(u:zJ)(wx:zC):Prop:=∃a c,u= .pointer (some ⟨a,0,none⟩)/\wx.heap[a]?=some (.cells #[c] 126 (0,0))/\zG (d+3) 51 1 zbb wx c (List.range N)/\b.heap.size<=a/\Below b b wx
def zxR(c:List zV)(g:zF->xy)(w:zC)(v:zJ)(w':zC):Prop:=∃b a,v= .agg #[b,()]/\zc 7 yb w' b a/\qO a=qO (c.map fun d=>g d.id)/\a.length<=c.length/\Below w w w'
theorem zxS{P:Program}{s:Code}{K:Act->World->Prop}{Q:Exit->Act->World->Prop}{a:Act}{w:zC}(h:s.wp P (fun e a w=>e= .normal/\K a w) a w):s.wp P (Exit.then K Q) a w:=by refine wp_mono h ?_;rintro e a w ⟨rfl,h⟩;exact h
theorem vA {p:Prop}(h:p:=by
 refine aO ?_;go_wp2_with (go_at_call 49;refine(hal W5 hb5).mono ?_;rintro e w6 ⟨av,rfl,ho6,hb6'⟩);have hb6:=zK hb5 hb6';have hx6:=(hb6'.block Y (aL hx5)).trans hx5;have hzb:=hb5.size;have hyl:=aL hx6;refine⟨zI.to (Mods.of_below hb6),?_⟩;obtain⟨p6,c6,rfl⟩:=ho6.len;have ho6b:zG (W.heap.size+3) 51 1 zbb w6 (.slice p6 us.length c6) (List.range us.length):=by have h:=ho6.any (base':=W.heap.size+3) (by have h1:=HZ3.o;have h2:=hb5.size;omega);rwa[zcs] at h
 have hne:∀b,(Value.slice p6 us.length c6).ownBlock=some b->¬b=Y:=fun b e e2=>by have h1:=ho6.ge (b:=b) (by rw[zcs];exact e);have h2:=aL hx5;omega
 have y0:=aC hx6 0;have yf:w6.frozen? Y=false:=by simp[World.frozen?,hx6]
 refine aO ?_;go_wp2;refine⟨zI.to (Mods.of_below (hb6.setCell (p:=Y) hzy _)),?_⟩;refine jh ?_;refine⟨rfl,?_⟩;go_wp2;go_meet;exact⟨_,_,rfl,by simp[World.setCell,zu,hx6],ho6b.blk fun b e=>zZ _ _ _ _ (hne b e),hzy,hb6.setCell (p:=Y) hzy _⟩):p:=h
theorem zxT (n:Nat) (kl:List (Int×Value)) (wl:List (zF×Value)) (a9:yN) (st:Int) (X:List zO) (bA:zJ) (bx:List Nat) (us:List zV) (dh:List (zF×Value)) (g:zF->xy) (W:zC) (an:xS n W kl wl a9 st) (dz:a9.m=yH) (cq:zc 3 zY W a9.d X) (co:yT X) (dv:X.length<=1000000) (cl:ql n bA bx us W) (eA:us.length<=10000)
 (cp:zq xV W (n+7) dh) (ca:∀t∈us,xD dh t.id=some (jT (g t.id))/\(jO (g t.id)).size<=8) (ed:zaz n W) (dF:zq xV W (n+9) []):
 Calls zD 13 #[(n+11:)] W (qH (zxR (us.filter fun t=>!jU X t.id) g W)):=by
 have eS:=an.lt;have c0:=fun W=>(yi (n:=11)).2 (zpO (n+11:) W rfl);have eW:Fence.wide.fn 51:=trivial;refine(yi (n:=12)).1 (callsIn_of_wp_marks Tryz.func13 rfl trivial ?_ rfl);simp only[Tryz.ntmps13,yw,z7,xB,Nat.reduceAdd,Nat.reduceSub,qK,qL,qM,qN,xu,yD];gi_wp2;obtain⟨f,ay⟩:=aY (((W.alloc (.cells #[(n+11:)] 24)).alloc (.cells #[(),()] 57)).alloc (.cells #[(),()] 57));have bB:Below W W f:=by rw[<-ay];exact aB
 have bz:f.heap.size=W+3:=by rw[<-ay];simp
 have bt:f.heap[W.heap.size]?=some (.cells #[(n+11:)] 24 (0,0)):=by rw[<-ay];(simp only[zt,qX];repeat(first|rw[zP rfl] |rw[zP trivial] |rw[zP (by omega)] |rw[zN (by omega)]))
 have cN:f.heap[W.heap.size+1]?=some (.cells #[(),()] 57 (0,0)):=by rw[<-ay];(simp only[zt,qX];repeat(first|rw[zP rfl] |rw[zP trivial] |rw[zP (by omega)] |rw[zN (by omega)]))
 have cP:f.heap[W.heap.size+2]?=some (.cells #[(),()] 57 (0,0)):=by rw[<-ay];(simp only[zt,qX];repeat(first|rw[zP rfl] |rw[zP trivial] |rw[zP (by omega)] |rw[zN (by omega)]))
 change Code.wpIn _ _ _ _ _ _ (((W.alloc (.cells #[(n+11:)] 24)).alloc (.cells #[(),()] 57)).alloc (.cells #[(),()] 57));rw[ay];clear ay;have HZ3:=zA bz;have eD:W.heap.size<f.heap.size:=by omega
 clear bz;have bv:=an.keep (w':=f) fun b g=>bB.block b (by omega);have cE:=bv.lt;have bO:=fun l (hb:Below f f l)=>zsu n kl wl a9 st l (bv.keep fun b g=>hb.block b (by omega)) dz;have hal:=fun l (hb:Below f f l)=>zss n bA bx us l ((cl.below bB).below hb) (by omega);gi_cut [4] from 9 (fun t wx=>zxQ W us.length f t wx);case first=>
  refine vj.2 (zxS ?_)
  have eK:=aD bt 0
  have eC:∀d:zI zX f,d.val.cell? (n+11,6)=(n+6:):=zI.cell cE id (bv.cell 6 _ rfl)
  refine zgf (.rd [0,1,2,3,4] (.two 5 (.two 6 (.one 7 (.one 8 .nil)) 7 (.one 6 (.one 8 .nil))) 7 (.one 5 (.one 6 (.one 8 .nil))))) (fun w=>∃d:zI zX f,w=d.val) (by kernel_rfl) (by kernel_rfl) (fun _ _ _ _ _ h=>by cases h.1) (zI.to (Mods.refl _ _).drew) ?_
  refine aT ?_
  have c4:Below f f f.drew:=(zf _ _).drew
  refine zb5 ?_ ?_
  ·refine aO ?_;go_wp2_with (go_at_call 50;refine(bO f.drew c4).mono ?_;rintro e aP ⟨rfl,dA⟩);have ap:=zK c4 dA;refine⟨zI.to (Mods.of_below ap),?_⟩;refine zb5 ?_ ?_
   ·refine aO ?_;go_wp2_with (go_at_call 49;refine(hal aP ap).mono ?_;rintro e ew ⟨av,rfl,dg,dS⟩);have ac:=zK ap dS;have hzb:=ap.size;refine⟨zI.to (Mods.of_below ac),?_⟩;refine aO ?_;go_wp2;refine⟨zI.to (Mods.of_below (ac.alloc ac.size _)),?_⟩;obtain⟨ey,cQ,rfl⟩:=dg.len;have d8:zG (W.heap.size+3) 51 1 zbb ew (.slice ey us.length cQ) (List.range us.length):=(by have h:=dg.any (base':=W.heap.size+3) (by have h1:=HZ3.o;have h2:=ap.size;omega);rwa[zcs] at h);refine aO ?_;go_wp2;refine⟨zI.to (Mods.of_below (ac.alloc ac.size _)),?_⟩;refine jh ?_;refine⟨rfl,?_⟩;go_wp2;go_meet;exact⟨_,_,rfl,World.alloc_heap_new _ _,d8.al _,ac.size,ac.alloc ac.size _⟩
   ·refine aO ?_;go_wp2;have hx5:(aP.alloc (.cells #[()] 126)).heap[aP.heap.size]?=some (.cells #[()] 126 (0,0)):=World.alloc_heap_new _ _;have hb5:Below f f (aP.alloc (.cells #[()] 126)):=ap.alloc ap.size _;refine⟨zI.to (Mods.of_below hb5),?_⟩;change qa _ _ _ _ _ _ (aP.alloc (.cells #[()] 126));have hzy:=ap.size;generalize aP.alloc (.cells #[()] 126)=W5 at hx5 hb5 ⊢;generalize aP.heap.size=Y at hx5 hzy ⊢;exact vA
  ·refine aO ?_;go_wp2;have hx5:(f.alloc (.cells #[()] 126)).drew.heap[f.heap.size]?=some (.cells #[()] 126 (0,0)):=World.alloc_heap_new _ _;have hb5:Below f f (f.alloc (.cells #[()] 126)).drew:=aA.drew;refine⟨zI.to (Mods.of_below hb5),?_⟩;change qa _ _ _ _ _ _ (f.alloc (.cells #[()] 126)).drew;obtain⟨Y,bH⟩:=aY f.heap.size;have hzy:f<=Y:=zaI bH;generalize(f.alloc (.cells #[()] 126)).drew=y at hx5 hb5 ⊢;rw[bH] at hx5 ⊢;have bw:=zA bH;clear bH;refine aO ?_;go_wp2_with (go_at_call 50;refine(bO y hb5).mono ?_;rintro e W5 ⟨rfl,cY⟩);have dJ:=(cY.block Y (aL hx5)).trans hx5;have hb5:=zK hb5 cY;clear hx5;have hx5:=dJ;refine⟨zI.to (Mods.of_below hb5),?_⟩;exact vA
 case rest=>
  obtain⟨Y,av,rfl,O,cT,eb,F⟩:=hcut;have dL:=zK bB F;have ef:=HZ3.o;have eh:=F.size;have bC:zal n W Y wc (wc.heap.size+7) us.length av g W [] (wc.alloc (.cells #[(n+11:)] 24)):=by
   have bq:Below wc wc (wc.alloc (.cells #[(n+11:)] 24)):=aA;exact {
    b:=zK dL bq
    d:=(bq.block _ (by omega)).trans ((F.block _ (by omega)).trans bt)
    r:=(bq.block _ (by omega)).trans ((F.block _ (by omega)).trans cN)
    a:=(bq.block _ (aL O)).trans O
    ar:=cT.al _
    p:=World.alloc_heap_new _ _
    v:=⟨(),[],(bq.block _ (by omega)).trans ((F.block _ (by omega)).trans cP),zG.nil,rfl,zU _⟩}
  have br:(wc.alloc (.cells #[(n+11:)] 24)).heap.size=wc+1:=by simp
  have dx:W.heap.size+3<=wc.heap.size:=by omega
  have bw:=zA (aL O);have dT:wc.cell? W=(n+11:):=by simp[World.cell?,(F.block _ (show W.heap.size<f.heap.size by omega)).trans bt]
  clear bO hal bt cN cP O cT ef eh bv cE eb;gi_wp2_with (gi_at_call 51;refine(c0 _).mono ?_;rintro e w ⟨rfl,rfl⟩);clear F bB dT;generalize di:wc.heap.size=r at bC br dx bw ⊢;have eJ:=zA di;clear di;generalize wc.alloc (.cells #[(n+11:)] 24)=y at bC br ⊢;have ba:=zA br;have cy:∀A l,zal n W Y r (r+7) us.length av g W A l->zh5 n r a9.d bA X bx us l:=fun A l h=>⟨(an.keep (w':=l) fun b g=>h.b.block b (by omega)).cell 6 _ rfl,(an.keep (w':=l) fun b g=>h.b.block b (by omega)).cell 3 _ rfl,cq.below h.b,(an.keep (w':=l) fun b g=>h.b.block b (by omega)).lt,cl.below h.b,by simp[World.cell?,h.p]⟩;refine zoG (α:={C:Nat×zV // C∈xw us us.length}) (gf:=124) (lb:=#[r]) (encs:=fun C=>jr C.1) (S:=fun cj=>cj.map (·.1)=(xw us us.length).filter (jq X)) (N:=us.length) rfl (by omega) rfl trivial (enters_of zhh (by kernel_rfl) rfl) (fun _=>rfl)
   (fun A l=>zal n W Y r (r+7) us.length av g W (A.map (·.1)) l) (fun k=>k=W+2\/r+7<=k) (fun l=>r+7<=l.heap.size) ?hIp ?h0 ?hround ?hseq ?hdone
  case hIp=>intro A l af am h bT;exact h.put (by omega) bT (.inl ⟨_,rfl⟩) _
  case h0=>intro af;exact bC.below (aB)
  case hseq=>
   rintro d5 O l h hb eG;have bQ:=ba.o;refine(zvV n r 11 (y.heap.size+1) (by omega) a9.d bA X co dv bx us (RG (fun k=>k=W+2\/r+7<=k) y) (yJ y d5) (fun A l=>∃q:List {C:Nat×zV // C∈xw us us.length},q.map (·.1)=A/\zal n W Y r (r+7) us.length av g W A l) l (by omega) (fun A Z ⟨_,_,h⟩=>cy A Z h) (fun A Z bU ⟨q,e,h⟩ hb=>⟨q,e,h.below hb⟩) (fun Z bU h hb=>h.keep fun k m=>hb.block k (by have:=(aL h.1);omega)) ?_ ?_ ?_ ?_ ⟨[],rfl,h⟩ hb).mono ?_
   ·rintro A Z dR aH df a1 ⟨q,e,h⟩ dd cJ;exact⟨q,e,h.put (by omega) dd cJ df⟩
   ·intro Z dR aH df a1 h dd cJ;exact h.keep fun k m=>World.putObj_heap_other (by omega)
   ·rintro k (h|h)
    ·omega
    ·omega
   ·rintro A C Z bb ⟨q,rfl,h⟩ bl a1 db;refine(zel (O q ⟨C,bb⟩ Z h bl (by simpa using a1) (by omega))).mono fun e bU ⟨cg,e2,aj,dG⟩=>⟨cg,⟨q++[⟨C,bb⟩],by simp,?_⟩,aj,dG⟩;rw[ym] at e2;exact e2
   ·rintro e bU ⟨hv,cj,bN,⟨q,cU,h1⟩,ac⟩;exact⟨hv,q,by rw[cU,bN],by rw[cU];exact h1,ac⟩
  case hdone=>
   rintro cj l bN h cK;rw[bN] at h;obtain⟨d3,o,hv,au,ce,bp⟩:=h.v;obtain⟨p,u,rfl⟩:=au.len;have eL:=aL h.d;have bm:=aL hv;have cH:=aL h.r;have a3:=an.keep (w':=l) fun b g=>h.b.block b (by omega);have cb:=a3.lt;have cm:=aC h.d 0;have eO:l.cell? (n+11,9)=(n+10:):=a3.cell 9 _ rfl;have dP:=(yi (n:=11)).2 (zxN n l (ed.keep (h.b.block _ (by omega))) (dF.blk (h.b.block _ (by omega))));have eV:Fence.wide.fn 53:=trivial;have bs:=zA h;have ax:=zA au;have bh:=zA hv;have cw:=zA cK;have cn:=zA (And.intro ce bp);obtain⟨a,ai⟩:=aY o.length;have G:=zA ai;rw[ai] at bh;clear br bN h hv au ce bp cK ai a3;gi_wp2_with (gi_at_call 53;refine dP.mono ?_;rintro e w6 ⟨rfl,hb6⟩;have bu:=(hb6.block (W.heap.size+2) bm).trans bh.o;have ah:=(hb6.block (W.heap.size+1) cH).trans bs.o.r;have ak:w6.cell? (W.heap.size+1+1:)=some (.slice p a u):=(by simp[World.cell?,show w6.heap[W.heap.size+1+1]?=_ from bu]);have dt:w6.cell? (W.heap.size+1+1,1)=():=(by simp[World.cell?,show w6.heap[W.heap.size+1+1]?=_ from bu]);have dC:w6.frozen? (W.heap.size+1+1,1)=false:=(by simp[World.frozen?,show w6.heap[W.heap.size+1+1]?=_ from bu]);have c:w6.cell? (W.heap.size+1:)=():=(by simp[World.cell?,ah]);have bF:w6.cell? (W.heap.size+1,1)=():=(by simp[World.cell?,ah]);have dB:w6.frozen? (W.heap.size+1:)=false:=(by simp[World.frozen?,ah]);have dU:w6.frozen? (W.heap.size+1,1)=false:=(by simp[World.frozen?,ah]);clear bu ah);have bQ:=ba.o;have hb6':=hb6.size;have dX:y.heap.size<l.heap.size:=aL cw.o;generalize B:World.setCell _ _ _=s;have hne:∀k,k≠W.heap.size+1->k≠W.heap.size+2->s.heap[k]?=w6.heap[k]?:=(by subst B;exact fun k h1 h2=>(zZ _ _ _ _ (by show ¬k=W.heap.size+1;exact h1)).trans ((zZ _ _ _ _ (by show ¬k=W.heap.size+1;exact h1)).trans (zZ _ _ _ _ (by show ¬k=W.heap.size+1+1;omega))));have eg:s.heap[W.heap.size+1]?=some (.cells #[.slice p a u,()] 57 (0,0)):=(by subst B;have h1:=(hb6.block (W.heap.size+1) cH).trans bs.o.r;generalize c8:World.setCell w6 _ _=dW;have h2:dW.heap[W.heap.size+1]?=w6.heap[W.heap.size+1]?:=(by subst c8;exact zZ _ _ _ _ (by show ¬W.heap.size+1=W.heap.size+1+1;omega));rw[h1] at h2;clear c8;simp[World.setCell,zu,h2]);have ch:s.heap.size=w6:=(by subst B;simp[World.setCell]);have V:Below W W s:=(by subst B;exact(((bs.o.b.trans (hb6.mono bs.o.b.size)).setCell (p:=(W.heap.size+1+1,1)) (by show W.heap.size<=W.heap.size+1+1;omega) _).setCell (p:=(W.heap.size+1:)) (by show W.heap.size<=W+1;omega) _).setCell (p:=(W.heap.size+1,1)) (by show W.heap.size<=W+1;omega) _);have dj:=(hne y (by omega) (by omega)).trans ((hb6.block y dX).trans cw.o);clear ak dt dC c bF dB dU;try simp only[B] at dj
   clear B;have cM:=(World.putObj_heap_other (w:=s) (r:=y.heap.size) (o:= .deferred none) (show W.heap.size+1≠y.heap.size by omega)).trans eg;have d0:(s.putObj y (.deferred none)).cell? (W.heap.size+1:)=some (.slice p a u):=(by simp[World.cell?,cM]);have dq:(s.putObj y (.deferred none)).cell? (W.heap.size+1,1)=():=(by simp[World.cell?,cM]);have eu:zG (r+7) 53 7 yb (s.putObj y (.deferred none)) (.slice p o.length u) o:=ax.o.blk fun k e=>(by have h1:=ax.o.ge e;exact(World.putObj_heap_other (by omega)).trans ((hne k (by omega) (by omega)).trans (hb6.block k (ax.o.lt e))));refine⟨by simp,.inl ⟨_,_,rfl,run_takeDeferred dj,⟨.agg #[.slice p a u,()],?_,⟨_,rfl,.slice p a u,o,rfl,?_,?_,?_,?_⟩⟩⟩⟩
   ·simp[results,Tryz.results13,go_sem,d0,dq]
   ·have h1:=zG.slice (α:=xy) (k:=7) (enc:=yb) (fun _=>rfl) eu;rw[G.o] at h1;exact h1
   ·have bP:((xw us us.length).map (·.2))=us:=by
     apply zbp;intro L;simp only[xw,jk,qw];by_cases aq:L<us.length
     ·simp[aq,List.getD]
     ·simp[aq]
    have h1:us.filter (fun t=>!jU X t.id)=((xw us us.length).filter (jq X)).map (·.2):=by
     conv=>lhs;rw[<-bP]
     rw[zeP];rfl
    rw[cn.o.1,h1,jk];rfl
   ·have h1:=cn.o.2;have bP:((xw us us.length).map (·.2))=us:=by
     apply zbp;intro L;simp only[xw,jk,qw];by_cases aq:L<us.length
     ·simp[aq,List.getD]
     ·simp[aq]
    have h2:us.filter (fun t=>!jU X t.id)=((xw us us.length).filter (jq X)).map (·.2):=by
     conv=>lhs;rw[<-bP]
     rw[zeP];rfl
    rw[h2,xk];exact h1
   ·exact⟨V.os,V.tape,V.output,by simpa[World.putObj] using V.size,fun k m=>(World.putObj_heap_other (by omega)).trans (V.block k m)⟩
  case hround=>
   clear br;rintro A ⟨⟨L,t⟩,cL⟩ Z af h bl a1 db;have bZ:=zoT cL;obtain⟨H,bV⟩:=ca t (xn bZ);have et:L<us.length:=(zw.1 bZ).1;have eF:=zA (show(A++[(⟨(L,t),cL⟩:{C:Nat×zV // C∈xw us us.length})]).map (·.1)=A.map (·.1)++[(L,t)] by simp);obtain⟨bY,bG⟩:=aY (A.map (·.1));have ce:bY.length<us.length:=(by rw[<-bG];simpa using a1);have b6:=zA bG;rw[bG] at h;clear bG a1 bZ;dsimp only;unfold jr zby zac;dsimp only;gi_wp2;have dy:=aL bl.1;have bQ:=ba.o;generalize cz:World.alloc _ _=bi;obtain⟨bM,cs,bD⟩:=aF cz;clear cz;have bL:yJ y af bi:=bl.keep fun k m=>bM.block k (by omega);refine⟨bL,Mods.of_below bM,fun am=> ?_⟩;have x:=(h.below bM).put (show W.heap.size<=y.heap.size+1 by omega) bL.1 (.inl ⟨_,rfl⟩) (.loop am);have b2:yJ y am (bi.putObj (y.heap.size+1) (.loop am)):=bL.put am;have a5:=(World.putObj_heap_other (w:=bi) (r:=y.heap.size+1) (o:= .loop am) (show Z.heap.size≠y.heap.size+1 by omega)).trans cs;have bJ:(bi.putObj (y.heap.size+1) (.loop am)).heap.size=Z+1:=(by simpa[World.putObj] using bD);clear bM cs bD bL bl h bC;generalize bi.putObj (y.heap.size+1) (.loop am)=W5 at x b2 a5 bJ ⊢;generalize Z.heap.size=d1 at a5 bJ dy db ⊢;obtain⟨i,b9⟩:=aY (g t.id);rw[b9] at H bV;have dp:=zA ca;have cZ:=zA b9;have aw:=zA x;have cc:=zA bJ;have cb:n+11<W5.heap.size:=(by omega);have a3:=an.keep (w':=W5) fun b g=>x.b.block b (by omega);have cA:=cp.blk (x.b.block _ (show n+7<W.heap.size by omega));have d4:=aL x.d;have dH:=aD x.d 0;have el:∀d:zI zX W5,d.val.cell? (n+11,7)=some (.map (some (n+7))):=zI.cell cb id (a3.cell 7 _ rfl);have dK:d1<W5:=aL a5;have b7:=aD a5 0;have dN:=aD a5 1;have cR:∀d:zI zX W5,(Instr.lookup 109 (.map (some (n+7))) (.agg #[t.id.c,t.id.k]) false).run zD d.val= .ok (jT i) d.val:=fun d=>(by have:=zbB (T:=109) (E:=53) vb (by kernel_rfl) (z:= .agg #[.string ⟨#[]⟩,.bool false,zB 0,zB 0,.float .f64 0,.string ⟨#[]⟩,()]) (fun ck=>by kernel_rfl) (cA.blk (w':=d.val) (d.h.block _ (by omega) id)) t.id false;rw[H] at this;exact this);unfold jT at cR;clear an cp ca cl cy co c0 x a3 cA H cq bQ b9 bJ;gi_wp2;refine zcU 8 [0,1,2,3,4,5,6] [7,8] (fun w=>∃d:zI zX W5,w=d.val) (by kernel_rfl) (by kernel_rfl) (by kernel_rfl) (fun⟨_,_,h⟩=>by have h2:Exit.outgrown=Exit.normal:=And.left h;cases h2) (fun _ _ M _ _ h=>by cases M<;> exact h) (zI.to (Mods.refl _ _).drew) ?_;simp only[xd,yl,vN,jn,vq];refine aR ?_;refine aS ?_;go_wp2;refine⟨zI.to (((Mods.refl _ W5).alloc _).drew),?_⟩;have eI:=zbA;refine aS ?_;go_wp2;refine xE ?_;generalize ci:World.drew _=a2;have hb6:Below W5 W5 a2:=(by subst ci;exact aA.drew);have a8:a2.heap[W5.heap.size]?=some (.cells #[.string i.text,.bool i.embed,zB i.v.kind,zB i.v.n,.float .f64 i.v.f,.string i.v.s,()] 53 (0,0)):=(by subst ci;exact World.alloc_heap_new _ _);clear ci;have c9:=aL a8;have hx6:r+7<=W5.heap.size:=(by have:=cc.o;omega);obtain⟨aa,b5⟩:=aY W5.heap.size;have eX:r+7<=aa:=(by omega);have bo:=zA b5;rw[b5] at a8 c9 ⊢;obtain⟨d3,o,hv,au,da,bp⟩:=aw.o.v;obtain⟨p,u,rfl⟩:=au.len;obtain⟨a,ai⟩:=aY o.length;have eT:a<=10000:=(by omega);have bm:=aL hv;have hyl:=aL aw.o.a;obtain⟨q,d6,cm,_,dl⟩:=(zG.slice (α:=Nat) (k:=1) (enc:=zbb) (fun _=>rfl) aw.o.ar).shape;obtain⟨b3,b0,rfl,ct,cD⟩:=dl L L (by simp[et]);have cv:=zA cm;rw[zcs] at cv;have y0:a2.cell? Y=some (.slice (some (b3,b0)) us.length d6):=(hb6.cell (p:=Y) hyl).trans (by simp[World.cell?,aw.o.a,cv.o]);have es:a2.cell? (b3,b0+L)=():=(hb6.cell (p:=(b3,b0+L)) ct).trans (by have:=cD 0 _ rfl;simpa using this);have ah:=aC a8 6;have dV:a2.frozen? (aa,6)=false:=(by simp[World.frozen?,a8]);have ak:a2.cell? (W.heap.size+1+1:)=some (.slice p a u):=(hb6.cell (p:=(W.heap.size+1+1:)) bm).trans (by simp[World.cell?,show W5.heap[W.heap.size+1+1]?=_ from hv,ai]);have bh:=zA hv;have ax:=zA au;have bd:=zA (And.intro da bp);have G:=zA ai;have dZ:(L:Int)<us.length:=(by omega);have cS:W.heap.size+2<W5.heap.size:=bm;clear hv au da bp ai b5 hx6 cm dl cD hyl bm;have ej:=zA bV;clear bV;gi_upto_region 9 with fail;generalize B:World.setCell _ _ _=s;have bn:s.heap[aa]?=some (.cells #[.string i.text,.bool i.embed,zB i.v.kind,zB i.v.n,.float .f64 i.v.f,.string i.v.s,()] 53 (0,0)):=(by subst B;simp[World.setCell,zu,a8]);have cI:∀k,k<aa->s.heap[k]?=W5.heap[k]?:=(by subst B;exact fun k m=>(zZ _ _ _ _ (by show ¬k=aa;omega)).trans (hb6.block k (by rw[bo.o];exact m)));have V:Below W5 W5 s:=(by subst B;exact hb6.setCell (p:=(aa,6)) (by show W5.heap.size<=aa;exact zaI bo.o) _);clear a8 c9 y0 es ah dV ak hb6 ct;have cB:=zA (aw.o.below V);have bj:zG (r+7) 53 7 yb s (.slice p o.length u) o:=(by subst B;exact ax.o.blk fun k e=>V.block k (ax.o.lt e));have ch:aa<s:=(by subst B;exact aL bn);have bK:s.heap[W.heap.size+1+1]?=some (.cells #[.slice p o.length u,()] 57 (0,0)):=(by subst B;exact(V.block _ cS).trans bh.o);try simp only[B] at cB
   clear B;have eo:=zA V;have dr:=zA cI;have cx:=zA bj;have em:=zA bn;have d2:=zA bK;have dc:=aD bn 1;have ez:=aD bn 6;have cO:=aL bK;have ak:∀d:zI zX s,d.val.cell? (W.heap.size+1+1:)=some (.slice p a u):=zI.cell cO id (by simp[World.cell?,bK,G.o]);obtain⟨a7,cC⟩:∃a7:Bool,(!i.embed && (o.getLast?.any fun af=>!af.embed))=a7:=⟨_,rfl⟩;clear V cI bn ax bh dH el b7 dN cR d4 cb dK a5 bK;have b4:a7=false/\o= []\/∃c,o[a - 1]?=some c/\1<=a/\o.getLast?=some c/\a7=(!i.embed && !c.embed):=by
    rcases H:o.getLast? with _|c
    ·exact .inl ⟨by rw[<-cC,H];simp,zkB.1 H⟩
    ·refine .inr ⟨c,?_,?_,rfl,by rw[<-cC,H];rfl⟩
     ·rw[List.getLast?_eq_getElem?,G.o] at H;exact H
     ·rw[<-G.o];rcases o with _|⟨C,o⟩
      ·cases H
      ·exact Nat.succ_pos _
   obtain⟨bf,cf⟩:∃bf:Int,(a:Int) - 1=bf:=⟨_,rfl⟩;rw[cf];gi_cut [62] from 36 (fun t wx=>t= .bool a7/\Below s s wx);case first=>
    rcases b4 with⟨ab,ad⟩|⟨c,ag,cu,_,ab⟩
    ·have ee:0=a:=(by rw[<-G.o,ad];rfl);have dO:bf= -1:=(by omega);subst ee dO;clear bj;refine zcU 25 [0,1,2,3,4,5,6,7,8,9,10,11,12,13,14,15,16,17,18,19,20,21,22,23,24] [25,26] (fun w=>∃d:zI zX s,w=d.val) (by kernel_rfl) (by kernel_rfl) (by kernel_rfl) (fun⟨_,_,h⟩=>by have h2:Exit.outgrown=Exit.normal:=And.left h;cases h2) (fun _ _ M _ _ h=>by cases M<;> exact h) (zI.to (Mods.refl _ _).drew) ?_;simp only[xd,yl,vN,jn,vq];refine aR ?_;refine aS ?_;go_wp2;change jI _ _ _ _ 25 [26] _ _;refine aS ?_;go_wp2;refine xE ?_;go_wp2;go_meet;exact⟨by simp[ab],(zf _ _).drew⟩
    ·obtain⟨D,rfl,H,cX,_,az⟩:=bj.elem (k:=7) (enc:=yb) (fun _=>rfl) ag;have bF:∀d:zI zX s,d.val.cell? (D,(a - 1)*7+1)=some (.bool c.embed):=zI.cell H id (az 1 _ rfl);have ah:∀d:zI zX s,d.val.cell? (D,(a - 1)*7+6)=():=zI.cell H id (az 6 _ rfl);clear bj;obtain⟨k,m⟩:=aY (a - 1);rw[m] at bF ah;have bS:bf=(k:Int):=(by omega);subst bS;have d9:(k:Int)<(a:Int):=(by omega);clear m cf cu ag az G;obtain⟨cg,al⟩:=aY i.embed;obtain⟨e2,ao⟩:=aY c.embed;rw[al] at dc ab;rw[ao] at bF ab;clear al ao;cases cg
     ·cases e2
      ·skip;refine zcU 25 [0,1,2,3,4,5,6,7,8,9,10,11,12,13,14,15,16,17,18,19,20,21,22,23,24] [25,26] (fun w=>∃d:zI zX s,w=d.val) (by kernel_rfl) (by kernel_rfl) (by kernel_rfl) (fun⟨_,_,h⟩=>by have h2:Exit.outgrown=Exit.normal:=And.left h;cases h2) (fun _ _ M _ _ h=>by cases M<;> exact h) (zI.to (Mods.refl _ _).drew) ?_;simp only[xd,yl,vN,jn,vq];refine aR ?_;refine aS ?_;go_wp2_with (go_at_call 52;refine(zwK _).mono ?_;rintro e eN ⟨rfl,dn⟩);change jI _ _ _ _ 25 [26] _ _;refine aS ?_;go_wp2;refine xE ?_;go_wp2;go_meet;exact⟨by simp[ab],zK ((zf _ _).drew) dn⟩
      ·skip;refine zcU 25 [0,1,2,3,4,5,6,7,8,9,10,11,12,13,14,15,16,17,18,19,20,21,22,23,24] [25,26] (fun w=>∃d:zI zX s,w=d.val) (by kernel_rfl) (by kernel_rfl) (by kernel_rfl) (fun⟨_,_,h⟩=>by have h2:Exit.outgrown=Exit.normal:=And.left h;cases h2) (fun _ _ M _ _ h=>by cases M<;> exact h) (zI.to (Mods.refl _ _).drew) ?_;simp only[xd,yl,vN,jn,vq];refine aR ?_;refine aS ?_;go_wp2;change jI _ _ _ _ 25 [26] _ _;refine aS ?_;go_wp2;refine xE ?_;go_wp2;go_meet;exact⟨by simp[ab],(zf _ _).drew⟩
     ·skip;refine zcU 25 [0,1,2,3,4,5,6,7,8,9,10,11,12,13,14,15,16,17,18,19,20,21,22,23,24] [25,26] (fun w=>∃d:zI zX s,w=d.val) (by kernel_rfl) (by kernel_rfl) (by kernel_rfl) (fun⟨_,_,h⟩=>by have h2:Exit.outgrown=Exit.normal:=And.left h;cases h2) (fun _ _ M _ _ h=>by cases M<;> exact h) (zI.to (Mods.refl _ _).drew) ?_;simp only[xd,yl,vN,jn,vq];refine aR ?_;refine aS ?_;go_wp2;change jI _ _ _ _ 25 [26] _ _;refine aS ?_;go_wp2;refine xE ?_;go_wp2;go_meet;exact⟨by simp[ab],(zf _ _).drew⟩
   case rest=>
    obtain⟨rfl,F⟩:=hcut;have cr:Below W5 W5 wc:=zK eo.o F;have eB:=zA (fun(k:Nat) (m:k<aa)=>(F.block k (Nat.lt_trans m ch)).trans (dr.o k m));have R:=(F.block aa ch).trans em.o;have a6:=(F.block _ cO).trans d2.o;have cV:=aL a6;have eU:=aL R;have bI:zG (r+7) 53 7 yb wc (.slice p o.length u) o:=cx.o.blk fun k e=>F.block k (cx.o.lt e);have de:=zA (cB.o.below F);have bE:=zA a6;have bg:=zA cr;have b8:=zA bI;clear bj dc ez ak cr;rcases a7
    ·have ak:wc.cell? (W.heap.size+1+1:)=some (.slice p a u):=(by simp[World.cell?,a6,G.o]);have cd:=aC R 0;have ei:=aC R 1;have ex:=aC R 2;have ev:=aC R 3;have ea:=aC R 4;have dY:=aC R 5;have ec:=aC R 6;obtain⟨b7,aq,eq,dw,du⟩:=yI zxO;have a4:wc.ownsRow (r+7) 53 7 (.slice p a u) a (o.flatMap yb):=(by have h1:=bI;unfold zG at h1;rwa[G.o] at h1);clear bI a6 R;gi_wp2_with (gi_at_builtin;refine wpListIn_append_own _ rfl _ _ 49 rfl (r+7) 53 b7 (.agg #[.string ⟨#[]⟩,.bool false,zB 0,zB 0,.float .f64 0,.string ⟨#[]⟩,()]) 7 88 Tryz.underlying49 aq eq dw du rfl (by decide) _ a _ rfl (a4.alloc _) wc 1 1 (yb i) rfl rfl ?c1 ?c2 ?c3 ?c4 ?c5 ?_);case c1=>
      intro eR cG O
      first
      |exact O
      |(rw[qW,World.cell?,World.alloc_heap_new];simpa[yb] using O)
     case c2=>intro cG O;simp[yb] at O;rcases O with rfl|rfl|rfl|rfl|rfl|rfl|rfl<;> rfl
     case c3=>unfold maxLen;omega
     case c4=>omega
     case c5=>have h1:=bg.o.size;have h2:=bo.o;simp;omega
     intro v' w6 bR cF _;have cW:∀k,k<wc.heap.size->(Value.slice p a u).ownBlock≠some k->w6.heap[k]?=wc.heap[k]?:=fun k m bc=>(cF.block k (by simp;omega) (fun e=>bc e.symm)).trans (yV _ _ _ m);have I:=fun k e=>ya a4 k e;have ho6:w6.heap[W.heap.size+1+1]?=some (.cells #[.slice p a u,()] 57 (0,0)):=(cW _ cV (fun e=>by have:=(I _ e).1;omega)).trans (by rw[bE.o,G.o]);have c6:=aC ho6 0;have eE:w6.frozen? (W.heap.size+1+1:)=false:=(by simp[World.frozen?,ho6]);obtain⟨p6,bW,rfl⟩:∃p u,v'= .slice p (a+1) u:=ys bR;have dm:=zA bR;clear bR cd ei ex ev ea dY ec ak;gi_wp2;have J:∀k,k<wc.heap.size->k≠W.heap.size+2->(Value.slice p a u).ownBlock≠some k->(w6.setCell (W.heap.size+1+1:) (.slice p6 (a+1) bW)).heap[k]?=wc.heap[k]?:=fun k m hne bc=>(zZ _ _ _ _ (by show ¬k=W.heap.size+1+1;exact hne)).trans (cW k m bc);have K:Mods (fun k=>k=W+2\/r+7<=k) W5 (w6.setCell (W.heap.size+1+1:) (.slice p6 (a+1) bW)):=(by have h1:Mods (fun k=>k=W+2\/r+7<=k) W5 wc:=Mods.of_below bg.o;have h2:=(h1.alloc (.cells (yb i).toArray 53)).grown cF (fun k e=> .inl (.inr (I k e).1));exact h2.setC (.inl (.inl rfl)) _);have bz:=ba.o;have bD:=cc.o;have j:=de.o;have ds:=bo.o;have hb5:=bg.o;have x:=aw.o;have ae:=fun {k:Nat}{aH:Obj}(e:wc.heap[k]?=some aH)=>(aL e);have bX:Y≠W+2:=fun e=>(by have h1:=j.a;rw[e] at h1;have h2:=h1.symm.trans bE.o;injection h2 with h2;injection h2 with h2;have:=congrArg Array.size h2;simp at this);rw[b6.o];refine⟨b2.keep fun k m=>(J k (by omega) (by omega) (fun e=>by have:=(I _ e).1;omega)).trans (hb5.block k (by omega)),K.mono fun k g=> .inl g,⟨⟨K.os.trans x.b.os,K.tape.trans x.b.tape,K.output.trans x.b.output,zk x.b.size K.size,fun k m=>(K.block k (by have:=x.b.size;omega) (by omega)).trans (x.b.block k m)⟩,(J _ (ae j.d) (by omega) (fun e=>by have:=(I _ e).1;omega)).trans j.d,(J _ (ae j.r) (by omega) (fun e=>by have:=(I _ e).1;omega)).trans j.r,(J _ (ae j.a) bX (fun e=>by have:=(I _ e).1;have:=bw.o;omega)).trans j.a,j.ar.blk fun b e=> ?_,(J _ (ae j.p) (by omega) (fun e=>by have:=(I _ e).1;omega)).trans j.p,?_⟩⟩
     ·have dM:=j.ar.ge e;refine J b (j.ar.lt e) (by omega) fun e2=> ?_;rcases j.ar.2 with⟨aj,_⟩|⟨d7,_,_,aj,_,b1,_⟩
      ·rw[aj] at e;cases e
      ·rw[aj] at e;cases e;exact zmv a4 b1 (by decide) e2
     ·refine⟨.slice p6 (a+1) bW,o++[i],?_,?_,?_,?_⟩
      ·show _[W.heap.size+1+1]?=_;simp[World.setCell,zu,ho6]
      ·unfold zG;rw[xY,qe,G.o];refine xI (w:=w6) ?_ fun k e=>zZ _ _ _ _ (by show ¬k=W.heap.size+1+1;have:=(ya dm.o k e).1;omega);simpa using dm.o
      ·rw[zc1,ym,bd.o.1];show _=qO (_++[g t.id]);rw[zc1,cZ.o]
      ·have:=bd.o.2;simp only[xY,z7,xB];omega
    ·obtain⟨c,ag,cu,be,ab⟩:=b4.resolve_left (by simp);obtain⟨al,ao⟩:i.embed=false/\c.embed=false:=(by revert ab;rcases i.embed<;> rcases c.embed<;> simp);obtain⟨D,rfl,H,cX,dk,az⟩:=b8.o.elem (k:=7) (enc:=yb) (fun _=>rfl) ag;obtain⟨a0,ad⟩:∃a0,o=a0++[c]:=by
      rcases o.eq_nil_or_concat with e|⟨a0,cG,e⟩
      ·rw[e] at be;cases be
      ·rw[e,zcn,zeN] at be;injection be with e2;exact⟨a0,by rw[e,e2,zcn]⟩
     have eQ:c.text.size<=80000:=(by have h1:(qO (bY.map fun C=>g C.2.id)).size<=8*(bY.map fun C=>g C.2.id).length:=zxP _ fun af bT=>(by obtain⟨⟨ep,b⟩,bb,rfl⟩:=xz.1 bT;rw[<-b6.o] at bb;obtain⟨⟨⟨eH,eM⟩,ai⟩,_,e⟩:=xz.1 bb;cases e;exact(dp.o b (xn (zoT ai))).2);rw[<-bd.o.1,ad,zc1,zfQ] at h1;have h2:jO c=c.text:=(by unfold jO;rw[ao];rfl);rw[h2,xk] at h1;omega);have eP:i.text.size<=8:=(by have h1:=ej.o;unfold jO at h1;rwa[al] at h1);obtain⟨k,m⟩:=aY (a - 1);rw[m] at az ag;have bS:bf=(k:Int):=(by omega);subst bS;have d9:(k:Int)<(a:Int):=(by omega);have ak:∀d:zI zX wc,d.val.cell? (W.heap.size+1+1:)=some (.slice (some D) a u):=zI.cell cV id (by simp[World.cell?,a6,G.o]);have cd:=aD R 0;have c7:wc.cell? (D,k*7)=some (.string c.text):=az 0 _ rfl;have er:=aV c7;have en:=zA dk;have dI:=zA (And.intro (And.intro al ao) (And.intro ad ag));have dD:=zA m;clear bI a6 R dk az cf m al ao ad ag be ab b4 dZ cS;gi_upto_region 10 with fail;refine zcU 11 [0,1,2,3,4,5,6,7,8,9,10] [11] (fun w=>∃d:zI zX wc,w=d.val) (by kernel_rfl) (by kernel_rfl) (by kernel_rfl) (fun⟨_,_,h⟩=>by have h2:Exit.outgrown=Exit.normal:=And.left h;cases h2) (fun _ _ M _ _ h=>by cases M<;> exact h) (zI.to (Mods.refl _ _).drew) ?_;simp only[xd,yl,vN,jn,vq];refine aR ?_;have ek:wc.drew.cell? (D,k*7)=some (.string c.text):=c7;have dE:wc.drew.frozen? (D,k*7)=false:=en.o _;refine aS ?_;go_wp2;refine xE ?_;gi_wp2;clear ak cd er ek dE;obtain⟨⟨al,ao⟩,ad,ag⟩:=dI.o;have a4:wc.ownsRow (r+7) 53 7 (.slice (some D) a u) a (o.flatMap yb):=(by have h1:=b8.o;unfold zG at h1;rwa[G.o] at h1);have I:=fun k e=>ya a4 k e;have J:∀aZ,aZ<wc.heap.size->aZ≠W.heap.size+2->(Value.slice (some D) a u).ownBlock≠some aZ->(wc.setCell (D,k*7) (.string (c.text++i.text))).drew.heap[aZ]?=wc.heap[aZ]?:=fun aZ _ _ bc=>(by have h1:¬aZ=D:=(by rintro rfl;exact bc rfl);exact zZ _ _ _ _ h1);have K:Mods (fun k=>k=W+2\/r+7<=k) W5 (wc.setCell (D,k*7) (.string (c.text++i.text))).drew:=(by have h1:Mods (fun k=>k=W+2\/r+7<=k) W5 wc:=Mods.of_below bg.o;exact(h1.setC (p:=(D,k*7)) (.inl (.inr cX)) _).drew);have bz:=ba.o;have bD:=cc.o;have j:=de.o;have ds:=bo.o;have hb5:=bg.o;have x:=aw.o;have ae:=fun {k:Nat}{aH:Obj}(e:wc.heap[k]?=some aH)=>(aL e);have bX:Y≠W+2:=fun e=>(by have h1:=j.a;rw[e] at h1;have h2:=h1.symm.trans bE.o;injection h2 with h2;injection h2 with h2;have:=congrArg Array.size h2;simp at this);rw[b6.o];refine⟨b2.keep fun k m=>(J k (by omega) (by omega) (fun e=>by have:=(I _ e).1;omega)).trans (hb5.block k (by omega)),K.mono fun k g=> .inl g,⟨⟨K.os.trans x.b.os,K.tape.trans x.b.tape,K.output.trans x.b.output,zk x.b.size K.size,fun k m=>(K.block k (by have:=x.b.size;omega) (by omega)).trans (x.b.block k m)⟩,(J _ (ae j.d) (by omega) (fun e=>by have:=(I _ e).1;omega)).trans j.d,(J _ (ae j.r) (by omega) (fun e=>by have:=(I _ e).1;omega)).trans j.r,(J _ (ae j.a) bX (fun e=>by have:=(I _ e).1;have:=bw.o;omega)).trans j.a,j.ar.blk fun b e=> ?_,(J _ (ae j.p) (by omega) (fun e=>by have:=(I _ e).1;omega)).trans j.p,?_⟩⟩
     ·have dM:=j.ar.ge e;refine J b (j.ar.lt e) (by omega) fun e2=> ?_;rcases j.ar.2 with⟨aj,_⟩|⟨d7,_,_,aj,_,b1,_⟩
      ·rw[aj] at e;cases e
      ·rw[aj] at e;cases e;exact zmv a4 b1 (by decide) e2
     ·refine⟨.slice (some D) o.length u,o.set k ⟨c.text++i.text,c.embed,c.v⟩,?_,?_,?_,?_⟩
      ·exact(zZ _ _ _ _ (by show ¬W.heap.size+2=D;omega)).trans bE.o
      ·exact(zG.set (k:=7) (enc:=yb) (i:=0) (fun _=>rfl) b8.o ag (by omega) (z:=⟨c.text++i.text,c.embed,c.v⟩) rfl).drew
      ·have dQ:k=a0.length:=(by have h1:=dD.o;have h2:=G.o;rw[ad,xY] at h2;simp at h2;omega);have h1:o.set k ⟨c.text++i.text,c.embed,c.v⟩=a0++[⟨c.text++i.text,c.embed,c.v⟩]:=(by rw[ad,dQ];simp);rw[h1,zc1,ym];show _=qO (_++[g t.id]);rw[zc1,cZ.o,<-bd.o.1,ad,zc1];unfold jO;rw[al,ao];simp[zhB]
      ·have:=bd.o.2;simp only[xY,z7,xB,zcK];omega
end
end Go.Proofs.YtimlgcodecgecaaGreatDoor
