/- A slice literal of one whole operation. -/
import Derived.Great.Walk
import Derived.Test.YtimlgcodecgecaaGreatDoorZ16
set_option maxRecDepth 100000
set_option maxHeartbeats 20000000
set_option linter.all false
namespace Go.Proofs.YtimlgcodecgecaaGreatDoor
open Go.RowKit Go.Lib
theorem zc9 {d:Array Oper}{e:List Oper}{o:Oper}{a:Act}{w:zC}{Q:Exit->Act->World->Prop}(b:zQ) (f:o.guard=none) (x:Operand) (i:o.op= .buildSlice 36 1 #[(0,x)]) (h:a.eval x=zS b)
 (g:wpList zD d Q e (a.put o.dst (.slice (some w) 1 1)) (w.alloc (.cells (ze b).toArray 66))):wpList zD d Q (o::e) a w:=by
 refine Great.wpList_buildSliceTo f 36 66 1 #[(0,x)] i w rfl o.dst rfl zfM (ze b).toArray ?_ g;rw[show(#[(0,x)].map fun(c:Nat×Operand)=>(c.1,a.eval c.2)).toList= [(0,zS b)] by simp[h]];kernel_rfl
theorem zrq(w:zC):(zeroValue 43).run zD w= .ok zH w:=oe
structure yN where
 t:Value
 d:Value
 h:Value
 m:Value
 v:Value
structure xS(n:Nat)(w:zC)(kl:List (Int×Value))(wl:List (zF×Value))(s:yN)(st:Int):Prop where
 kn:zq qm w (n+2) kl
 wt:zq xV w (n+3) wl
 dc:w.heap[n+11]?=some (.cells #[(n+1:),.map (some (n+2)),s.t,s.d,.map (some (n+3)),s.h,(n+6:),.map (some (n+7)),s.m,(n+10:),s.v,st] 112 (0,0))
theorem zaT.g{n:Nat}{w:zC}{kl:List (Int×Value)}{wl:List (zF×Value)}{b c:zJ}{st:Int}(a:zaT n w kl wl b c st):xS n w kl wl ⟨yH,yH,b,yH,c⟩ st:=⟨a.kn,a.wt,a.dc⟩
theorem xS.keep{n:Nat}{w w':zC}{kl:List (Int×Value)}{wl:List (zF×Value)}{s:yN}{st:Int}(c:xS n w kl wl s st)(b:∀a,a=n+2\/a=n+3\/a=n+11->w'.heap[a]?=w.heap[a]?):xS n w' kl wl s st where
 kn:=c.kn.blk (b _ oa)
 wt:=c.wt.blk (b _ oa)
 dc:=(b _ oa).trans c.dc
theorem xS.cell {n:Nat}{w:zC}{kl:List (Int×Value)}{wl:List (zF×Value)}{s:yN}{st:Int}(a:xS n w kl wl s st) (k:Nat) (v:zJ)
 (b:(#[Value.pointer (some (n+1:)),.map (some (n+2)),s.t,s.d,.map (some (n+3)),s.h,(n+6:),.map (some (n+7)),s.m,(n+10:),s.v,st])[k]?=some v):w.cell? (n+11,k)=some v:=by
 simp only[World.cell?,a.dc];simpa using b
theorem xS.lt{n:Nat}{w:zC}{kl:List (Int×Value)}{wl:List (zF×Value)}{s:yN}{st:Int}(h:xS n w kl wl s st):n+11<w.heap.size:=aL h.dc
theorem xS.frz{n:Nat}{w:zC}{kl:List (Int×Value)}{wl:List (zF×Value)}{s:yN}{st:Int}(h:xS n w kl wl s st)(k:Nat):w.frozen? (n+11,k)=false:=by simp only[World.frozen?,h.dc];simp
theorem xS.knl{n:Nat}{w:zC}{kl:List (Int×Value)}{wl:List (zF×Value)}{s:yN}{st:Int}(h:xS n w kl wl s st)(c:Int):(Instr.lookup 106 (.map (some (n+2))) c false).run zD w= .ok ((xD kl c).getD zH) w:=by have:=zbB zet (T:=106) (E:=43) oe zrq h.kn c false;simpa[qm] using this
def knV(kl:List (Int×Value))(c m:Int):Prop:=(xD kl c).getD zH=m
structure zbX(o:zQ)(k:Int)(N:Nat):Prop where
 ik:o.id.k=k
 rng:o.rng=⟨o.id.c,k,k+N⟩
 right:o.rng.rightB=true
 n1:1<=N
 n2:N<=5000
 range:∀w,zv w->Calls zD 78 #[zS o] w fun e w'=>e= .returned (.agg #[o.rng.c,o.rng.a,o.rng.b])/\Below w w w'
 cut:∀w,zv w->Calls zD 90 #[zS o,zB 0,zB N] w fun e w'=>e= .returned (.tuple #[zS o,.bool true])/\Below w w w'
theorem zbX.kb{o:zQ}{k:Int}{N:Nat}(h:zbX o k N):1<=k/\k+N<=9007199254740992:=by have:=h.right;rw[h.rng] at this;simp[zO.rightB,xi] at this;omega
theorem zeB{W W':World}{b:Value}(a:zc 3 zY W b [])(j:W.heap.size<=W'.heap.size):zc 3 zY W' b []:=by
 rcases a with a|⟨g,d,i,f,c,h,_⟩
 ·exact .inl a
 ·exact .inr ⟨g,d,i,f,c,zg h j,fun l k e=>obd⟩
def zrr(n:Nat)(o:zQ)(kl:List (Int×Value))(s:yN)(st:Int)(w:zC)(e:Ending)(w':zC):Prop:=
 ∃a,e= .returned (.bool true)/\xS n w' kl [(o.id,zS o)] {s with h:=a} st/\zG w 154 3 zY w' a [o.rng]/\Mods (fun b=>b=n+3\/b=n+11) w w'
theorem zrs(n N:Nat)(k m:Int)(o:zQ)(kl:List (Int×Value))(s:yN)(st:Int)(w:zC)(ba:xS n w kl [] s st)(D:zc 3 zY w s.h [])(B:zbX o k N)(bv:knV kl o.id.c m)(cd:m+1=k)(bf:zv w):
 Calls zD 36 #[(n+11:),zS o] w (zrr n o kl s st w):=by
 have bm:=ba.lt;have cf:=B.kb;have b4:decide (k<=m)=false:=oi;have a1:=fun w h=>xS.knl (n:=n) (w:=w) (kl:=kl) (wl:= []) (s:=s) (st:=st) h o.id.c;rw[show(xD kl o.id.c).getD zH=m from bv] at a1;obtain⟨aj,az,bV,aH,ar⟩:=s;obtain⟨l,j,rfl⟩:∃p y,bV= .slice p 0 y:=zc.len D;replace D:zc 3 zY w (.slice l 0 j) []:=D;have q:=zA B;have bj:=B.range;rw[B.rng] at bj;have bo:=zA B.ik;clear B;unfold zS;go_enter Tryz.func36,Tryz.ntmps36;go_upto_region 1 with fail;refine vr o fun a7 av af=> ?_;have a8:=af.lt;have a6:=bj a7 (bf.below av);go_upto_region 2 with(first|(refine xv (T:=66) (v:=zS o) rfl rfl rfl af.load ?_)|(go_at_call 78;refine a6.mono ?_;rintro d g ⟨rfl,al⟩));have L:=af.below al a8;have aZ:=zK av al;have I:Below w w (g.alloc (.cells #[o.id.c,k,(k+N:)] 154)):=aZ.alloc aZ.size _;have z:yF (g.alloc (.cells #[o.id.c,k,(k+N:)] 154)) g.heap.size ⟨o.id.c,k,k+N⟩:=yF.new g ⟨o.id.c,k,k+N⟩;have ab:zR (g.alloc (.cells #[o.id.c,k,(k+N:)] 154)) w o:=L.below aA L.lt;have bO:w.heap.size<g.heap.size:=L.lt;generalize g.heap.size=ce at z bO ⊢;generalize g.alloc (.cells #[o.id.c,k,(k+N:)] 154)=M at I z ab ⊢;clear a6 af al a8 av L aZ a7;have ah:=ba.keep fun a f=>I.block a oa;have R:=z.lt;have J:n+11<M.heap.size:=zg bm I.size;have bU:∀s:zM M,s.val.cell? (n+11,1)=some (.map (some (n+2))):=zM.cell J (ah.cell 1 _ rfl);have bw:=aU z.cells.1;have bT:∀s:zM M,(Instr.lookup 106 (.map (some (n+2))) o.id.c false).run zD s.val= .ok m s.val:=fun s=>a1 s.val (ah.keep fun a f=>s.h.block _ oa);refine aQ ?_;intro W' hC' hBW';have u:=zK I hBW';have ak:=z.below hBW' R;have am:=ab.below hBW' ab.lt;have aw:=ah.keep fun a f=>hBW'.block a oa;clear hC' hBW' bU bw bT ah ab z I R J M;obtain⟨w3,rfl⟩:=aX W';obtain⟨aa,V,Y⟩:=ak.cells;go_upto_region 5 with fail;have R:=ak.lt;have J:n+11<w3.heap.size:=zg bm u.size;have bB:=aV aa;have bP:=aV V;have bS:=aV Y;have bY:∀s:zI zX w3,s.val.cell? (n+11,5)=some (.slice l 0 j):=zI.cell J id (aw.cell 5 _ rfl);refine xU 6 [0,2,3,4,5] [1,6,7] zX (aM ?_);refine aR ?_;refine aS ?_;go_wp2_with fail;have C:Below w3 w3 ((w3.alloc (.cells #[o.id.c,k,(k+N:)] 154)).drew):=aA.drew;refine⟨zI.to (Mods.of_below C),?_⟩;have bq:zc 3 zY ((w3.alloc (.cells #[o.id.c,k,(k+N:)] 154)).drew) (.slice (some w3) 1 1) [⟨o.id.c,k,k+N⟩]:=ziZ w3 ⟨o.id.c,k,k+N⟩;have bn:=zmV _ _ [(⟨o.id.c,k,k+N⟩:zO)] [] _ bq (zeB D (zk u.size C.size)) oh oh rfl rfl;refine aS ?_;go_wp2_with fail;refine bn.mono ?_;rintro d w6 ⟨ay,rfl,ax,ag,Z,c,bg⟩;obtain rfl:ax= [⟨o.id.c,k,k+N⟩]:=zgl _ _ ag (zmf (by have:=q.o.right;rwa[q.o.rng] at this)) fun bA=>by rw[Z];simp[xH]
 have ae:=zK C bg;go_wp2_with fail;refine aS ?_;go_wp2_with fail;refine xE ?_;obtain⟨bL,bQ,rfl⟩:∃p y,ay= .slice p 1 y:=ys c;have bs:=zG.slice (k:=3) (enc:=zY) (fun _=>rfl) c;obtain⟨A,rfl⟩:∃a,bL=some ⟨a,0,none⟩:=by
  rcases c.2 with⟨d,_⟩|⟨f,bR,bK,d,_⟩
  ·cases d
  ·cases d;exact⟨_,rfl⟩
 have bi:=aw.keep fun a f=>ae.block a oa;have aq:=am.below ae am.lt;have ad:=zK u ae;have cc:w.heap.size<=A:=by have h1:=(ya c A (by rcases c.2 with⟨bd,_⟩|⟨f,bR,bK,bd,_⟩<;> cases bd;rfl)).1;have b9:=C.size;have b0:=u.size;omega
 have b7:=zaE c (show w.heap.size<=_ from zk u.size C.size);clear bn bq c ag Z bg C aw am ak u bB bP bS bY aa V Y R J ae;go_upto_region 7 with fail;have b6:n+11<w6.heap.size:=bi.lt;go_loopw [40] (fun W wx=>(W= .int .i64 0/\wx=w6)\/(W= .int .i64 1/\xS n wx kl [(o.id,zS o)] ⟨aj,az,.slice l 0 j,aH,ar⟩ st/\Mods (fun a=>a=n+3) w6 wx)) (fun W _=>1 - (intOf W).toNat);case atStart=>exact .inl ⟨rfl,rfl⟩
 case round=>
  rcases hrel with⟨rfl,rfl⟩|⟨rfl,X,H⟩
  ·obtain⟨bz,b5,bt,br,a9⟩:=zc.cells3 bs (k:=0) (x:=⟨o.id.c,k,k+N⟩) rfl;have bX:wr.cell? A=o.id.c:=(by simpa using bt);have bx:wr.cell? (A,1)=k:=(by simpa using br);have bD:wr.cell? (A,2)=(k+N:):=(by simpa using a9);clear bz bt br a9;have a0:wr.cell? (w,1)=k:=(by have:=aq.cells 1 _ rfl;rwa[bo.o] at this);go_upto_region 9 with fail;have ai:zR (wr.alloc (.cells #[o.id.c,k,(k+N:)] 154)) w o:=aq.below aA aq.lt;have ac:yF (wr.alloc (.cells #[o.id.c,k,(k+N:)] 154)) wr.heap.size ⟨o.id.c,k,k+N⟩:=yF.new wr ⟨o.id.c,k,k+N⟩;have K:Below wr wr (wr.alloc (.cells #[o.id.c,k,(k+N:)] 154)):=aA;generalize bu:wr.heap.size=cg at ac ⊢;have b2:=zA bu;generalize wr.alloc (.cells #[o.id.c,k,(k+N:)] 154)=bp at ai ac K ⊢;clear bX bx bD a0 bu;obtain⟨aa,V,Y⟩:=ac.cells;have a0:bp.cell? (w,1)=k:=(by have:=ai.cells 1 _ rfl;rwa[bo.o] at this);have bl:=q.o.cut bp ((bf.below ad).below K);have b8:=q.o.n2;have bI:k+N - k=N:=oa;go_upto_region 10 with(first|(refine xv (T:=66) (v:=zS o) rfl rfl rfl ai.load ?_)|(go_at_call 90;refine bl.mono ?_;rintro d b ⟨rfl,r⟩)|(refine yx (T:=66) (v:=zS o) rfl rfl rfl rfl (zR.store (zR.new b zi) o) ?_));try go_frame
   have a5:Below b b (xx (b.alloc (.cells (ze zi).toArray 66)) b o):=yo aA (zU _) _;generalize aP:xx _ _ _=e;have t:zR e b o:=(by subst aP;exact(zR.new b zi).put _);have O:=zK K (zK r a5);try simp only[aP] at O
   clear aP;generalize b.heap.size=bc at t ⊢;clear a5 r bl a0 aa V Y ac ai bI K;have i:=bi.keep fun a f=>O.block a oa;have a4:=t.lt;have G:=i.lt;go_upto_region 11 with fail;have bH:∀s:zI zX e,s.val.cell? (n+11,4)=some (.map (some (n+3))):=zI.cell G id (i.cell 4 _ rfl);have bN:=aV (t.cells 0 _ rfl);have bM:=aV (t.cells 1 _ rfl);have l1:∀F,(∃s:zI zX e,F=s.val)->(loadVar 66 bc).run zD F= .ok (zS o) F:=(by rintro _ ⟨s,rfl⟩;exact zR.load ((s.h.block bc a4 id).trans t));refine xU 7 [0,1,2,3,4,5,6] [7] zX (aM ?_);refine aR ?_;obtain⟨au,a3,bb⟩:=zb8 vb (T:=107) (E:=66) oe (i.wt.blk (w':=e.drew) rfl) o.id (zS o);unfold xV at a3;refine aS ?_;go_wp2;refine xE ?_;have be:xS n (xF e.drew (n+3) au) kl [(o.id,zS o)] ⟨aj,az,.slice l 0 j,aH,ar⟩ st:={
    kn:=(i.kn.blk (w':=e.drew) rfl).blk (qV oa)
    wt:=bb
    dc:=(qV oa).trans i.dc}
   have bh:Mods (fun a=>a=n+3) wr (xF e.drew (n+3) au):=(by have h1:Mods (fun a=>a=n+3) wr e.drew:=(Mods.of_below O).drew;exact⟨h1.os,h1.tape,h1.output,by rw[vH];exact h1.size,fun k bJ a2=>(qV a2).trans (h1.block k bJ a2)⟩);generalize xF e.drew (n+3) au=b3 at be bh ⊢;clear a3 bb bH bN bM l1 i a4 G O t;go_wp2_with fail;exact⟨.inr ⟨ou,be,bh⟩,by simp[intOf]⟩
  ·have bE:zc 3 zY wr (.slice (some ⟨A,0,none⟩) 1 bQ) [⟨o.id.c,k,k+N⟩]:=bs.keep H.size fun a ca m y d bC=>H.block a bC (by cases d;omega);have bF:yT [(⟨o.id.c,k,k+N⟩:zO)]:=zmf (by have:=q.o.right;rwa[q.o.rng] at this);have bG:=zrw (.slice l 0 j) _ [] [(⟨o.id.c,k,k+N⟩:zO)] wr (zeB D (zk ad.size H.size)) bE oh oh rfl rfl;have bW:wr.cell? (n+11,5)=some (.slice l 0 j):=X.cell 5 _ rfl;have G:=X.lt;go_upto_region 14 with(go_at_call 91;refine bG.mono ?_;rintro d b ⟨ay,rfl,ax,ag,Z,c,r⟩;obtain rfl:ax= [⟨o.id.c,k,k+N⟩]:=zgl _ _ ag bF (fun bA=>by rw[Z];simp[xH]);obtain⟨ap,an,rfl⟩:∃p y,ay= .slice p 1 y:=ys c;have cb:b.cell? (n+11,5)=some (.slice l 0 j):=(r.cell (p:=(n+11,5)) G).trans bW;have b1:b.frozen? (n+11,5)=false:=(r.frozen (p:=(n+11,5)) G).trans (X.frz 5));have ao:=X.keep fun a f=>r.block a oa;have i:xS n (b.setCell (n+11,5) (.slice ap 1 an)) kl [(o.id,zS o)] ⟨aj,az,.slice ap 1 an,aH,ar⟩ st:={
    kn:=ao.kn.blk (zZ _ _ _ _ (by show ¬n+2=n+11;omega))
    wt:=ao.wt.blk (zZ _ _ _ _ (by show ¬n+3=n+11;omega))
    dc:=by simp[World.setCell,zu,ao.dc]}
   go_wp2_with fail;go_ret;have bZ:w.heap.size<=wr.heap.size:=zk ad.size H.size;refine⟨.slice ap 1 an,rfl,i,?_,?_⟩
   ·rw[q.o.rng];exact xI (zaE c bZ) fun a d=>zZ _ _ _ _ (by have:=(ya c a d).1;show ¬a=n+11;omega)
   ·exact((((Mods.of_below ad).trans (H.mono fun a f=> .inl f)).trans (Mods.of_below r))).setCell (p:=⟨n+11,5,none⟩) (.inr rfl) _
def jG(K:List (Int×List zQ))(c:Int):Option (List zQ):=(K.find? fun p=>decide (p.1=c)).map (·.2)
def qn(K:List (Int×List zQ))(c:Int):List zQ:=(jG K c).getD []
def vz(l:List zQ):Int:=match l.getLast? with
 |some o=>o.rng.b - 1
 |none=>0
def vV(K:List (Int×List zQ))(c:Int)(l:List zQ):List (Int×List zQ):=if(jG K c).isSome then K.map (fun p=>if p.1=c then(c,l) else p) else K++[(c,l)]
structure zaQ(o:zQ):Prop where
 size:o.text.size<=1000000000000
 k0:1<=o.id.k
 k1:o.id.k+o.len<=9007199254740992
 txt:o.kind=1->∃rs,o.text=xo rs/\∀r∈rs,yS r
structure jS(w:zC)(sb:Nat)(L:qR)(K:List (Int×List zQ)):Prop where
 st:w.heap[sb]?=some (.cells #[.map (some L.m),yH,yH] 204 (0,0))
 map:zq qm w L.m (K.map fun p=>(p.1,L.row p.1))
 keys:(K.map (·.1)).Nodup
 rows:∀p∈K,zG 0 66 22 ze w (L.row p.1) p.2
 good:∀p∈K,∀o∈p.2,zaQ o
 rsep:∀p∈K,∀q∈K,∀b,(L.row p.1).ownBlock=some b->(L.row q.1).ownBlock=some b->p.1=q.1
def zdr(c:Nat)(L:qR)(K:List (Int×List zQ))(b:Nat):Prop:=b=c\/b=L.m\/∃a∈K,(L.row a.1).ownBlock=some b
def js(w:zC)(d:Nat->Prop)(c:Nat)(K:List (Int×List zQ)):Prop:=∃a,jS w c a K/\∀b,zdr c a K b->d b
theorem jS.keep{w w':zC}{c:Nat}{L:qR}{K:List (Int×List zQ)}(a:jS w c L K)(d:∀b,zdr c L K b->w'.heap[b]?=w.heap[b]?):jS w' c L K where
 st:=(d c (.inl rfl)).trans a.st
 map:=a.map.blk (d _ (.inr (.inl rfl)))
 keys:=a.keys
 rows p hp:=xI (a.rows p hp) fun b e=>d b (.inr (.inr ⟨p,hp,e⟩))
 good:=a.good
 rsep:=a.rsep
theorem jS.foot_lt{w:zC}{c:Nat}{L:qR}{K:List (Int×List zQ)}(b:jS w c L K):∀a,zdr c L K a->a<w.heap.size:=by
 rintro a (rfl|rfl|⟨d,f,e⟩)
 ·exact(aL b.st)
 ·exact b.map.lt
 ·exact xJ (b.rows d f) a e
theorem jS.below{w w':zC}{c:Nat}{L:qR}{K:List (Int×List zQ)}(a:jS w c L K)(d:Below w w w'):jS w' c L K:=a.keep fun b e=>d.block b (a.foot_lt b e)
theorem js.below{w w':zC}{a:Nat->Prop}{b:Nat}{K:List (Int×List zQ)}(f:js w a b K)(d:Below w w w'):js w' a b K:=by obtain⟨e,g,c⟩:=f;exact⟨e,g.below d,c⟩
theorem js.mods{w w':zC}{d G:Nat->Prop}{f:Nat}{K:List (Int×List zQ)}(i:js w d f K)(j:Mods G w w')(h:∀a,d a->a<w.heap.size->¬G a):js w' d f K:=by obtain⟨g,c,e⟩:=i;exact⟨g,c.keep fun a b=>j.block a (c.foot_lt a b) (h a (e a b) (c.foot_lt a b)),e⟩
theorem js.lim{w:zC}{d:Nat->Prop}{e:Nat}{K:List (Int×List zQ)}(h:js w d e K):js w (fun a=>d a/\a<w) e K:=by obtain⟨g,c,f⟩:=h;exact⟨g,c,fun a b=>⟨f a b,c.foot_lt a b⟩⟩
theorem zlG(K:List (Int×List zQ))(f:Int->Value)(c:Int):xD (K.map fun p=>(p.1,f p.1)) c=(jG K c).map fun _=>f c:=by
 unfold xD jG;rw[zcw,zeb,zeb];have:((fun p:Int×Value=>decide (p.1=c)) ∘ fun p:Int×List zQ=>(p.1,f p.1))=fun p:Int×List zQ=>decide (p.1=c):=rfl;rw[this];cases h:K.find? fun p=>decide (p.1=c) with
 |none=>rfl
 |some p=>
  have:=zar h;simp only[xW] at this;simp[this]
theorem ziD{K:List (Int×List zQ)}{c:Int}{l:List zQ}(a:jG K c=some l):(c,l)∈K:=by
 unfold jG at a;cases h1:K.find? fun b=>decide (b.1=c) with
 |none=>rw[h1] at a;cases a
 |some b=>
  rw[h1] at a;have d:=zar h1;simp only[xW] at d;have e:=zhP h1;obtain⟨g,f⟩:=b;simp only[zao,jC] at a;subst a d;exact e
theorem zlH{K:List (Int×List zQ)}{c:Int}(d:jG K c=none):∀b∈K,b.1≠c:=by intro b f e;unfold jG at d;rw[zfX,zcL] at d;exact d b f oaZ
def zeu(L:qR)(K:List (Int×List zQ))(c:Int):Value:=((jG K c).map fun _=>L.row c).getD yH
theorem jS.krow{w:zC}{b:Nat}{L:qR}{K:List (Int×List zQ)}(a:jS w b L K)(c:Int):zG 0 66 22 ze w (zeu L K c) (qn K c):=by
 unfold Go.Proofs.YtimlgcodecgecaaGreatDoor.zeu qn;cases hk:jG K c with
 |none=>exact zG.nil
 |some d=>exact a.rows _ (ziD hk)
theorem jS.lookRow{w:zC}{b:Nat}{L:qR}{K:List (Int×List zQ)}(a:jS w b L K)(c:Int):
 (Instr.lookup 202 (.map (some L.m)) c false).run zD w= .ok (Go.Proofs.YtimlgcodecgecaaGreatDoor.zeu L K c) w:=by
 have:=zbB zet (T:=202) (E:=36) oe zo7 a.map c false;rw[zlG] at this;exact this
theorem jS.goodL{w:zC}{d:Nat}{L:qR}{K:List (Int×List zQ)}(b:jS w d L K)(c:Int):∀a∈qn K c,zaQ a:=by
 unfold qn;cases hk:jG K c with
 |none=>simp
 |some e=>exact b.good _ (ziD hk)
theorem jS.krow_foot{w:zC}{d:Nat}{L:qR}{K:List (Int×List zQ)}(_:jS w d L K){c:Int}{b:Nat}(a:(Go.Proofs.YtimlgcodecgecaaGreatDoor.zeu L K c).ownBlock=some b):zdr d L K b:=by
 unfold Go.Proofs.YtimlgcodecgecaaGreatDoor.zeu at a;cases hk:jG K c with
 |none=>rw[hk] at a;cases a
 |some e=>rw[hk] at a;exact .inr (.inr ⟨_,ziD hk,a⟩)
theorem zwM(K:List (Int×List zQ))(c:Int)(l:List zQ)(d:(K.map (·.1)).Nodup):((vV K c l).map (·.1)).Nodup:=by
 unfold vV;split
 ·rw[jk];have:((fun a:Int×List zQ=>a.1) ∘ fun a:Int×List zQ=>if a.1=c then(c,l) else a)=fun a=>a.1:=by
   funext a;simp only[Function.comp];split
   ·rename_i b;exact b.symm
   ·rfl
  rw[this];exact d
 ·rename_i j;rw[ym];refine yv.2 ⟨d,oh,fun k e g f b=> ?_⟩;obtain⟨a,i,rfl⟩:=xz.1 e;have h:g=c:=obh;exact zlH (by simpa using j) a i (b.trans h)
theorem zf4{K:List (Int×List zQ)}{c:Int}{l:List zQ}{p:Int×List zQ}(a:p∈vV K c l):p=(c,l)\/(p∈K/\p.1≠c):=by
 unfold vV at a;split at a
 ·obtain⟨f,b,rfl⟩:=xz.1 a;split
  ·exact .inl rfl
  ·rename_i d;exact .inr ⟨b,d⟩
 ·rename_i e;rcases xX.1 a with a|a
  ·exact .inr ⟨a,zlH oaZ p a⟩
  ·exact .inl oaC
theorem zwN(K:List (Int×List zQ))(c:Int)(l:List zQ)(f:Int->Value)(v:zJ):(vV K c l).map (fun a=>(a.1,if a.1=c then v else f a.1))=xT (K.map fun a=>(a.1,f a.1)) c v:=by
 unfold vV xT;rw[zlG];cases hk:jG K c with
 |none=>
  simp only[zcG,jW,jX,Option.map_none,ym,xd,yl,vJ];congr 1;refine zbI fun a d=> ?_;rw[zN (zlH hk a d)]
 |some e=>
  simp only[Option.isSome_some,vJ,zao,jk];refine zbI fun a d=> ?_;simp only[Function.comp];by_cases b:a.1=c
  ·simp[b]
  ·simp[b]
theorem zo8:∀{l:List (Int×Value)}(_:(l.map (·.1)).Nodup){p:Int×Value}(_:p∈l),xD l p.1=some p.2
 | [],_,_,a=>by simp at a
 |d::l,b,p,a=>by
  rw[xd,zdZ] at b;unfold xD;rw[zg9];rcases xK.1 a with rfl|a
  ·simp
  ·have c:d.1≠p.1:=fun e=>b.1 (e ▸ List.mem_map_of_mem a);rw[zhZ c];exact zo8 b.2 a
theorem zwO{l:List (Int×Value)}{c:Int}{v:zJ}(g:(l.map (·.1)).Nodup)(b:xD l c=some v):xT l c v=l:=by
 unfold xT;rw[b];simp only[Option.isSome_some,vJ];rw[<-List.map_id l];conv=>lhs;rw[List.map_id]
 refine zbI fun a f=> ?_;split
 ·rename_i e;have d:xD l a.1=some a.2:=zo8 g f;rw[e,b] at d;cases d;rw[<-e];rfl
 ·rfl
theorem zwP(K:List (Int×List zQ))(c d:Int)(l:List zQ):jG (vV K c l) d=if d=c then some l else jG K d:=by
 unfold vV;split
 ·rename_i g;unfold jG;rw[zcw,zeb];have i:((fun a:Int×List zQ=>decide (a.1=d)) ∘ fun a:Int×List zQ=>if a.1=c then(c,l) else a)=fun a=>decide (a.1=d):=by
   funext a;simp only[Function.comp];split
   ·rename_i b;rw[b]
   ·rfl
  rw[i];by_cases b:d=c
  ·subst b;rw[zP rfl];unfold jG at g;cases hf:K.find? fun a=>decide (a.1=d) with
   |none=>rw[hf] at g;cases g
   |some a=>
    have:=zar hf;simp only[xW] at this;simp[this]
  ·rw[zN b];cases hf:K.find? fun a=>decide (a.1=d) with
   |none=>rfl
   |some a=>
    have:=zar hf;simp only[xW] at this;have:a.1≠c:=fun f=>b (this.symm.trans f);simp[this]
 ·rename_i h;have e:jG K c=none:=oaQ;unfold jG at e ⊢;rw[List.find?_append];by_cases b:d=c
  ·subst b;rw[zP rfl];rw[zfX] at e;rw[e];simp
  ·rw[zN b];have:([(c,l)]:List (Int×List zQ)).find? (fun a=>decide (a.1=d))=none:=(by simp;exact fun f=>b f.symm);rw[this,Option.or_none]
theorem zlI(K:List (Int×List zQ))(c d:Int)(l:List zQ):qn (vV K c l) d=if d=c then l else qn K d:=by unfold qn;rw[zwP];split<;> rfl
def qR.setRow(L:qR)(c:Int)(v:zJ):qR:={L with row:=fun d=>if d=c then v else L.row d}
theorem jS.set {w w':zC}{m:Nat}{L:qR}{K:List (Int×List zQ)}(f:jS w m L K) (c:Int) (l:List zQ) (v:zJ)
 (x:∀k,k<w.heap.size->k≠L.m->(Go.Proofs.YtimlgcodecgecaaGreatDoor.zeu L K c).ownBlock≠some k->w'.heap[k]?=w.heap[k]?) (C:zq qm w' L.m (xT (K.map fun a=>(a.1,L.row a.1)) c v)) (q:zG 0 66 22 ze w' v l)
 (D:v.ownBlock=(Go.Proofs.YtimlgcodecgecaaGreatDoor.zeu L K c).ownBlock\/∀b,v.ownBlock=some b->w.heap.size<=b) (B:∀E∈l,zaQ E):jS w' m (L.setRow c v) (vV K c l):=by
 have z:∀a∈K,∀b,(L.row a.1).ownBlock=some b->a.1≠c->(Go.Proofs.YtimlgcodecgecaaGreatDoor.zeu L K c).ownBlock≠some b:=fun a d b e g h=>by
  unfold Go.Proofs.YtimlgcodecgecaaGreatDoor.zeu at h;cases hk:jG K c with
  |none=>rw[hk] at h;cases h
  |some H=>rw[hk] at h;exact g (f.rsep a d _ (ziD hk) b e h)
 have s:∀a∈K,∀b,(L.row a.1).ownBlock=some b->b<w.heap.size/\b≠L.m:=fun a d b e=>by obtain⟨F,u⟩:=zad (f.rows a d) e;exact⟨xJ (f.rows a d) b e,fun h=>f.map.ne_cells u h.symm⟩
 have A:m<w/\m≠L.m:=⟨(aL f.st),fun e=>f.map.ne_cells f.st e.symm⟩;refine {st:= ?_,map:= ?_,keys:=zwM K c l f.keys,rows:= ?_,good:= ?_,rsep:= ?_}
 ·refine(x m A.1 A.2 fun e=> ?_).trans f.st;have G:=f.krow c;obtain⟨F,u⟩:=zad G e;exact zo3 u f.st ol rfl
 ·show zq qm w' L.m ((vV K c l).map fun a=>(a.1,if a.1=c then v else L.row a.1));rw[zwN];exact C
 ·intro a d;show zG 0 66 22 ze w' (if a.1=c then v else L.row a.1) a.2;rcases zf4 d with rfl|⟨d,g⟩
  ·rw[zP rfl];exact q
  ·rw[zN g];exact xI (f.rows a d) fun b e=>x b (s a d b e).1 (s a d b e).2 (z a d b e g)
 ·intro a d;rcases zf4 d with rfl|⟨d,g⟩
  ·exact B
  ·exact f.good a d
 ·intro a d p o b i j;replace i:(if a.1=c then v else L.row a.1).ownBlock=some b:=i;replace j:(if p.1=c then v else L.row p.1).ownBlock=some b:=j;have y:∀n∈K,n.1≠c->(L.row n.1).ownBlock=some b->v.ownBlock≠some b:=fun n q g e h=>by
   rcases D with r|r
   ·exact z n q b e g (r.symm.trans h)
   ·have:=r _ h;have:=(s n q _ e).1;omega
  rcases zf4 d with rfl|⟨d,g⟩<;> rcases zf4 o with rfl|⟨o,t⟩
  ·rfl
  ·rw[zP rfl] at i;rw[zN t] at j;exact absurd i (y p o t j)
  ·rw[zN g] at i;rw[zP rfl] at j;exact absurd j (y a d g i)
  ·rw[zN g] at i;rw[zN t] at j;exact f.rsep a d p o b i j
theorem zdr.set{g:Nat}{L:qR}{K:List (Int×List zQ)}{c:Int}{l:List zQ}{v:zJ}{b:Nat}(d:zdr g (L.setRow c v) (vV K c l) b):zdr g L K b\/v.ownBlock=some b:=by
 rcases d with d|d|⟨e,f,a⟩
 ·exact .inl (.inl d)
 ·exact .inl (.inr (.inl d))
 ·replace a:(if e.1=c then v else L.row e.1).ownBlock=some b:=a;rcases zf4 f with rfl|⟨f,h⟩
  ·rw[zP rfl] at a;exact .inr a
  ·rw[zN h] at a;exact .inl (.inr (.inr ⟨e,f,a⟩))
theorem zo9(L:Nat->Prop)(v:Nat)(K:List (Int×List zQ))(c:Int)(w:zC)(F:js w L v K)(j:(qn K c).length<=100000)(J:zv w):
 Calls Tryz.prog 219 #[.pointer (some ⟨v,0,none⟩),.int .u64 c] w fun d C=>d= .returned (.int .u64 (vz (qn K c)))/\Below w.heap.size w C:=by
 obtain⟨R,g,_⟩:=F;have n:=g.lookRow c;have e:=g.krow c;have i:=g.goodL c;have ac:=aC g.st 0;generalize zeu R K c=m at n e;generalize qn K c=N at e i j ⊢;rcases zeM N with rfl|⟨b,a,rfl⟩
 ·obtain⟨h,z,rfl⟩:∃h c,m= .slice h 0 c:=ys e;clear g e i;go_enter Tryz.func219,Tryz.ntmps219;go_wp2_with fail;go_ret;exact⟨rfl,zf _ _⟩
 ·rw[zcn] at e i j ⊢;obtain⟨h,z,rfl⟩:∃h c,m= .slice h (b++[a]).length c:=ys e;have u:=zG.slice (k:=22) (enc:=ze) (fun _=>rfl) e;have f:=i a oh;have p:=zcz a w (by have:=f.size;omega) (by have:=f.k0;omega) (by have:=f.k1;omega) J;obtain⟨s,rfl⟩:∃y,h=some ⟨y,0,none⟩:=by
   rcases e.2 with⟨d,E⟩|⟨s,z,ag,d,_⟩
   ·simp at E
   ·cases d;exact⟨_,rfl⟩
  have r:y8 w s (b.length*22) a:=by
   rcases u with⟨d,_⟩|⟨y,aa,ad,d,_,_,M⟩
   ·cases d
   ·cases d;intro H O G;have:=M b.length a oh H O G;simpa using this
  have q:=zdg r;have B:vz (b++[a])=a.id.k+a.len - 1:=by simp[vz,zQ.rng]
  have t:(b++[a]).length=b.length+1:=oh;rw[B];have V:b.length<=100000:=by simp at j;omega
  rw[t] at n;unfold zQ.rng at p;have Y:=f.k0;have I:=f.k1;have W:0<=(a.len:Int):=oa;generalize(a.len:Int)=l at p I W ⊢;have X:IntKind.u64.wrap (a.id.k+l - 1)=a.id.k+l - 1:=og;clear g e i u r B t j f;have x:((b.length+1:Nat):Int)=(b.length:Int)+1:=oak;obtain⟨o,A⟩:=aY b.length;rw[A] at n q V x;clear A x;have af:(o:Int)+1 - 1=o:=oa;have ae:¬((o:Int)+1=0):=oa;have Z:=zwL a.id.c a.id.k (a.id.k+l);go_enter Tryz.func219,Tryz.ntmps219;go_wp2_with (refine xv (T:=66) (v:=zS a) rfl rfl rfl q ?_);refine p.mono ?_;rintro d ab ⟨rfl,D⟩;go_wp2_with fail;go_ret;exact⟨oh,D⟩
def zd3(a b:zQ):Bool:=decide (a.kind=1) && decide (b.kind=1) && decide (b.left=⟨a.id.c,a.rng.b - 1⟩) && decide (a.right=b.right)
def zd4(a b:zQ):Bool:=zd3 a b && decide (a.len+b.len<=4096)
theorem zrF(a b:zQ)(w:zC)(h:zaQ a)(C:b.id.c=a.id.c)(z:b.id.k=a.id.k+a.len)(y:zv w):
 Calls zD 258 #[zS a,zS b] w fun Z L=>Z= .returned (.bool (zd3 a b))/\Below w w L:=by
 have o:=fun w y=>zcz a w (by have:=h.size;omega) (by have:=h.k0;omega) (by have:=h.k1;omega) y;have D:zd3 a b=(decide (a.kind=1) && decide (b.kind=1) && decide (b.left=⟨a.id.c,a.id.k+a.len - 1⟩) && decide (a.right=b.right)):=rfl;have af:=h.k0;have N:=h.k1;have ad:0<=(a.len:Int):=oa;unfold zQ.rng at o;rw[D];clear D;generalize(a.len:Int)=e at o z N ad ⊢;have G:=zc0 b.left ⟨a.id.c,a.id.k+e - 1⟩;have V:=zc0 a.right b.right;have ao:IntKind.u64.wrap (a.id.k+e - 1)=a.id.k+e - 1:=og;dsimp only at G;have R:=zA C;have O:=zA z;clear C z h;obtain⟨X,k⟩:∃f,decide (a.kind=1)=f:=⟨_,rfl⟩;obtain⟨W,j⟩:∃f,decide (b.kind=1)=f:=⟨_,rfl⟩;obtain⟨J,q⟩:∃f,decide (b.left=⟨a.id.c,a.id.k+e - 1⟩)=f:=⟨_,rfl⟩;obtain⟨ap,x⟩:∃f,decide (a.right=b.right)=f:=⟨_,rfl⟩;rw[q] at G;rw[x] at V;rw[k,j,q,x];clear q x;change Calls zD 258 #[.agg #[a.id.c,a.id.k,zB a.kind,a.stamp,a.left.c,a.left.k,a.right.c,a.right.k,.string a.text,zB a.v.kind,zB a.v.n,.float .f64 a.v.f,.string a.v.s,.string a.key,a.parent.c,a.parent.k,a.frm.c,a.frm.k,.bool a.frmA,a.til.c,a.til.k,.bool a.tilA],.agg #[b.id.c,b.id.k,zB b.kind,b.stamp,b.left.c,b.left.k,b.right.c,b.right.k,.string b.text,zB b.v.kind,zB b.v.n,.float .f64 b.v.f,.string b.v.s,.string b.key,b.parent.c,b.parent.k,b.frm.c,b.frm.k,.bool b.frmA,b.til.c,b.til.k,.bool b.tilA]] w _;go_enter Tryz.func258,Tryz.ntmps258;go_upto_region 1 with fail;refine zbL a b fun u A r B I E=> ?_;go_upto_region 2 with(first|(refine xv (T:=66) (v:=zS a) rfl rfl rfl r.load ?_)|(go_at_call 78;refine(o _ (y.below A)).mono ?_;rintro p g ⟨rfl,s⟩));have n:yF (g.alloc (.cells #[a.id.c,a.id.k,(a.id.k+e:)] 154)) g.heap.size ⟨a.id.c,a.id.k,a.id.k+e⟩:=vi g _;have l:Below u u (g.alloc (.cells #[a.id.c,a.id.k,(a.id.k+e:)] 154)):=s.alloc s.size _;obtain⟨c,H⟩:=aY (g.alloc (.cells #[a.id.c,a.id.k,(a.id.k+e:)] 154));rw[H] at n l ⊢;have i:=r.below l I;have d:=B.below l E;have m:=zK A l;have ai:=i.lt;have aq:=d.lt;have ac:=n.lt;obtain⟨Y,M,aa⟩:=n.cells;obtain⟨am,F⟩:=aY g.heap.size;rw[F] at Y M aa ac ⊢;clear H s l n r B A I E F o u g;have ah:c.cell? w=a.id.c:=i.cells 0 _ rfl;have ab:c.cell? (w,2)=(zB a.kind):=i.cells 2 _ rfl;have al:c.cell? (w,6)=a.right.c:=i.cells 6 _ rfl;have au:c.cell? (w,7)=a.right.k:=i.cells 7 _ rfl;have aj:c.cell? (w.heap.size+1:)=a.id.c:=by have:=d.cells 0 _ rfl;rw[this,R.o]
 have ar:c.cell? (w.heap.size+1,1)=(a.id.k+e:):=by have:=d.cells 1 _ rfl;rw[this,O.o]
 have K:c.cell? (w.heap.size+1,2)=(zB b.kind):=d.cells 2 _ rfl;have an:c.cell? (w.heap.size+1,4)=b.left.c:=d.cells 4 _ rfl;have ae:c.cell? (w.heap.size+1,5)=b.left.k:=d.cells 5 _ rfl;have ak:c.cell? (w.heap.size+1,6)=b.right.c:=d.cells 6 _ rfl;have ag:c.cell? (w.heap.size+1,7)=b.right.k:=d.cells 7 _ rfl;clear i d;cases X
 ·have p:¬a.kind=1:=by simpa using k
  clear k j;go_wp2_with fail;go_ret;exact⟨oh,m⟩
 ·have p:a.kind=1:=by simpa using k
  rw[p] at ab;clear k p;cases W
  ·have t:¬b.kind=1:=(by simpa using j);clear j;go_wp2_with fail;go_ret;exact⟨oh,m⟩
  ·have t:b.kind=1:=(by simpa using j);rw[t] at K;clear j t;cases J
   ·go_wp2_with fail;go_ret;exact⟨oh,m⟩
   ·go_wp2_with fail;go_ret;exact⟨oh,m⟩
theorem zrG(x a:zQ)(w:zC)(f:zaQ x)(h:zaQ a)(o:a.id.c=x.id.c)(s:a.id.k=x.id.k+x.len)(d:zv w):
 Calls zD 221 #[zS x,zS a] w fun B c=>B= .returned (.bool (zd4 x a))/\Below w w c:=by
 have j:=fun w d=>zrF x a w f o s d;have i:=fun w d=>zec x w (by have:=f.size;omega) d;have k:=fun w d=>zec a w (by have:=h.size;omega) d;have D:=f.k1;have F:=h.k1;have J:=f.k0;have H:=h.k0;have q:zd4 x a=(zd3 x a && decide ((x.len:Int)+a.len<=4096)):=by unfold zd4;congr 1;rw[decide_eq_decide];omega
 rw[q];have G:0<=(x.len:Int):=oa;have A:0<=(a.len:Int):=oa;clear q f h o s;generalize(x.len:Int)=t at i D G ⊢;generalize(a.len:Int)=n at k F A ⊢;generalize zd3 x a=u at j ⊢;obtain⟨v,g⟩:=aY (decide (t+n<=4096));rw[g];change Calls zD 221 #[.agg #[x.id.c,x.id.k,zB x.kind,x.stamp,x.left.c,x.left.k,x.right.c,x.right.k,.string x.text,zB x.v.kind,zB x.v.n,.float .f64 x.v.f,.string x.v.s,.string x.key,x.parent.c,x.parent.k,x.frm.c,x.frm.k,.bool x.frmA,x.til.c,x.til.k,.bool x.tilA],.agg #[a.id.c,a.id.k,zB a.kind,a.stamp,a.left.c,a.left.k,a.right.c,a.right.k,.string a.text,zB a.v.kind,zB a.v.n,.float .f64 a.v.f,.string a.v.s,.string a.key,a.parent.c,a.parent.k,a.frm.c,a.frm.k,.bool a.frmA,a.til.c,a.til.k,.bool a.tilA]] w _;go_enter Tryz.func221,Tryz.ntmps221;go_upto_region 1 with fail;refine zbL x a fun l m y z E C=> ?_;have r:∀c,(∃b:zM l,c=b.val)->(loadVar 66 w).run zD c= .ok (zS x) c:=by rintro _ ⟨b,rfl⟩;exact zR.load ((b.h.block _ E).trans y)
 have p:∀c,(∃b:zM l,c=b.val)->(loadVar 66 (w.heap.size+1:)).run zD c= .ok (zS a) c:=by rintro _ ⟨b,rfl⟩;exact zR.load ((b.h.block _ C).trans z)
 have e:∀b:zM l,zv b.val:=fun b=>(d.below m).below b.h;cases u
 ·clear g;refine aG ?_;repeat(first|go_big_quiet_skip|(go_big_quiet_want;first|((first|refine zbs 66 _ _ rfl rfl r ?_|refine zbs 66 _ _ rfl rfl p ?_);go_frame;go_big_quiet_on)|(go_big_quiet_op;first|go_big_quiet_on|go_big_quiet_call ((first|(go_at_call 258;exact xl (j _ (e _)))|(go_at_call 153;first|exact xl (i _ (e _))|exact xl (k _ (e _))))))))
  refine aE ?_;intro W' hC' hBW';go_wp2_with fail;go_ret;exact⟨oh,zK m hBW'⟩
 ·have I:decide (t+n<=4096)=v:=g;clear g;refine aG ?_;repeat(first|go_big_quiet_skip|(go_big_quiet_want;first|((first|refine zbs 66 _ _ rfl rfl r ?_|refine zbs 66 _ _ rfl rfl p ?_);go_frame;go_big_quiet_on)|(go_big_quiet_op;first|go_big_quiet_on|go_big_quiet_call ((first|(go_at_call 258;exact xl (j _ (e _)))|(go_at_call 153;first|exact xl (i _ (e _))|exact xl (k _ (e _))))))))
  refine aE ?_;intro W' hC' hBW';go_wp2_with fail;go_ret;exact⟨oh,zK m hBW'⟩
end Go.Proofs.YtimlgcodecgecaaGreatDoor
