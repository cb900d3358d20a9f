/- Walk: work where one operation waits and is ready, whatever is known. -/
import Derived.Test.YtimlgcodecgecaaGreatDoorZ33
set_option maxRecDepth 100000
set_option maxHeartbeats 20000000
set_option linter.all false
namespace Go.Proofs.YtimlgcodecgecaaGreatDoor
open Go.RowKit Go.Shelf Go.Lib
section
attribute [local go_sem] jl
def WH(n:Nat)(D:Nat->Prop)(k:Nat):Prop:=k=n+2\/k=n+3\/k=n+11\/D k
def zgK(n b:Nat)(D:Nat->Prop):Prop:=∀a,D a->n<=a/\a<b/\a≠n+2/\a≠n+3/\a≠n+11
structure WkH(n lo:Nat)(kl:List (Int×Value))(sl:yN)(st:Int)(D:Nat->Prop)(QW:Nat->World->Prop)(X B:Nat)(w W:zC):Prop where
 m:Mods (WH n D) w W
 d:∃hv,xS n W kl [] {sl with h:=hv} st/\zc 3 zY W hv []
 bx:jd n W X
 bm:ju true W (X+1)
 bp:jd n W (X+2)
 q:∃s,B+1<s/\QW s W
theorem zxV {n g:Nat}{D:Nat->Prop}{w c f d:zC}(h:zgK n g D) (l:g<=w) (o:n+11<w.heap.size) (k:w.heap.size+2<c.heap.size) (e:Mods (fun a=>a=n+3\/a=n+11) c f)
 (j:Mods (fun a=>a=n+2\/a=n+11\/D a) f d) (i:ju false c (w.heap.size+1)):ju false d (w.heap.size+1):=by
 have m:=e.size;refine(j.block _ oa ?_).trans ((e.block _ oa oa).trans i);rintro(b|b|b)
 ·omega
 ·omega
 ·have:=h _ b;omega
theorem zli{n b:Nat}{D:Nat->Prop}(c:zgK n b D)(d:n+11<b){k:Nat}(a:WH n D k):k<b:=by
 rcases a with a|a|a|a
 ·omega
 ·omega
 ·omega
 ·exact(c k a).2.1
theorem WkH.to {n e:Nat}{kl:List (Int×Value)}{j:yN}{st:Int}{D:Nat->Prop}{g:Nat->World->Prop}{X B:Nat}{w W W':zC}(a:WkH n e kl j st D g X B w W) (v:X=w) (x:B=w+3) (u:n+11<w.heap.size) (y:e<=w)
 (s:∀c w i,Mods (fun d=>e<=d/\d<c) w i->g c w->g c i) (b:Mods (fun f=>f=B+1) W W'):WkH n e kl j st D g X B w W':=by
 have o:=a.m.size;obtain⟨q,m,p⟩:=a.d;obtain⟨c,r,k⟩:=a.q;exact⟨⟨b.os.trans a.m.os,b.tape.trans a.m.tape,b.output.trans a.m.output,zk o b.size,fun f t l=>(b.block f oa oa).trans (a.m.block f t l)⟩,
  ⟨q,m.keep fun d h=>b.block d oa oa,zdu p b.size⟩,(b.block _ a.bx.lt oa).trans a.bx,(b.block _ a.bm.lt oa).trans a.bm,(b.block _ a.bp.lt oa).trans a.bp,
  ⟨c,r,s c _ _ (b.mono fun d h=>by subst h;omega) k⟩⟩
def zxW(n:Nat)(kl:List (Int×Value))(c:yN)(st:Int)(D:Nat->Prop)(d:Nat->World->Prop)(w:zC)(e:Ending)(w':zC):Prop:=
 e=jB/\∃a,xS n w' kl [] {c with h:=a} st/\zc 3 zY w' a []/\(∃b,w.heap.size<=b/\d b w')/\Mods (WH n D) w w'
theorem zxX (n N J base:Nat) (g:Int) (o:zQ) (kl:List (Int×Value)) (ao:yN) (st ad:Int) (D:Nat->Prop) (P:World->Prop) (a2 aa:Nat->World->Prop) (w:zC) (bw:xS n w kl [(o.id,zS o)] ao st) (V:zG base 154 3 zY w ao.h [⟨o.id.c,g+1,g+1+N⟩]) (cf:zbX o (g+1) N) (cU:o.own) (ci:knV kl o.id.c g) (b7:zv w) (hF:j7 fun a=>n<=a)
 (c3:n+11<base) (bb:J<=w) (ca:n+11<J) (bc:zgK n J D) (cM:max st o.stamp=ad) (cu:P w)
 (bE:∀w f,Mods (fun a=>a=n+2\/a=n+3\/a=n+11\/J<=a) w f->P w->P f)
 (cp:∀w,P w->zv w->Calls zD 173 #[(n+1:),zS o] w fun e f=>(∃v,e= .returned v)/\a2 w f/\Mods D w f)
 (cs:∀c w f,Mods (fun a=>a=n+2\/a=n+11) w f->a2 c w->a2 c f)
 (bf:∀c w f,Mods (fun a=>J<=a/\a<c) w f->aa c w->aa c f)
 (cG:∀c w hv,c<=w.heap.size->xS n w (xT kl o.id.c (g+N:)) [] {ao with h:=hv} ad->a2 c w->zv w->Calls zD 174 #[(n+11:),zS o] w fun e f=>e= .returned (.bool true)/\xS n f (xT kl o.id.c (g+N:)) [] {ao with h:=hv} ad/\aa c f/\Mods D w f):
 Calls zD 37 #[(n+11:)] w (zxW n (xT kl o.id.c (g+N:)) ao ad D aa w):=by
 have bJ:=bw.lt;obtain⟨W,ag,hv,ah,af⟩:=ao;obtain⟨F,I,rfl⟩:∃p bo,hv= .slice p 1 bo:=ys V;replace V:zG base 154 3 zY w (.slice F 1 I) [⟨o.id.c,g+1,g+1+N⟩]:=V;have cJ:knV (xT kl o.id.c (g+N:)) o.id.c (g+N):=by unfold knV;rw[zem];simp
 refine(yi (n:=9)).1 (callsIn_of_wp_marks Tryz.func37 rfl trivial ?_ rfl);simp only[Tryz.ntmps37,yw,z7,xB,Nat.reduceAdd,Nat.reduceSub,qK,qL,qM,qN,xu,yD];gi_wp2;refine wpIn_loop_rounds 3 ?_;rw[roundsIn_succ];have bK:=fun b=>(yi (n:=8)).2 (zoI (n+11:) b rfl);have bZ:Fence.wide.fn 92:=trivial;gi_wp2_with (gi_at_call 92;refine(bK _).mono ?_;rintro e f ⟨rfl,rfl⟩);have b0:WkA n w w (((w.alloc (.cells #[(n+11:)] 24)).alloc (.cells #[.bool false] 4)).alloc (.cells #[(n+11:)] 24)):=
  ⟨aB,by unfold jd;rw[zt,if_neg (by simp;omega),zt,if_neg (by simp),zt,if_pos rfl],oam,by unfold jd;rw[zt,if_pos (by simp)]⟩
 have am:(((w.alloc (.cells #[(n+11:)] 24)).alloc (.cells #[.bool false] 4)).alloc (.cells #[(n+11:)] 24)).heap.size=w+3:=oh;try simp only[qX]
 generalize((w.alloc (.cells #[(n+11:)] 24)).alloc (.cells #[.bool false] 4)).alloc (.cells #[(n+11:)] 24)=j at b0 am ⊢;refine zc4 (α:=Unit) (gf:=168) (lb:=#[(w.heap.size+2:)]) (encs:=fun _=>#[zS o]) (S:=fun O=>O= [()]) (N:=1) rfl oa rfl trivial (enters_of zfl oe rfl) (fun _=>rfl)
  (fun x b=>(x= []/\WkA n w w b)\/(x= [()]/\WkH n J (xT kl o.id.c (g+N:)) ⟨W,ag,.slice F 1 I,ah,af⟩ ad D aa w j w b)) (fun k=>WH n D k\/k=w+1) ?hIp ?h0 ?hround ?hseq ?hdone
 case hIp=>
  rintro x b aq L (⟨rfl,ac⟩|⟨rfl,y⟩) cT
  ·exact .inl ⟨rfl,ac.to rfl (zcT (Mods.refl _ _) oa _)⟩
  ·exact .inr ⟨rfl,y.to rfl am bJ bb bf (zcT (S:=fun k=>k=j+1) (Mods.refl _ _) rfl _)⟩
 case h0=>intro aq;exact .inl ⟨rfl,b0.to rfl (((Mods.refl _ _).alloc _).alloc _)⟩
 case hround=>
  rintro x cR b aq (⟨rfl,ac⟩|⟨rfl,y⟩) bz aj
  ·have a5:=zA am;have bu:=zA cf;clear bK bZ am;gi_wp2_with (refine zvG (T:=66) (v:=zS o) rfl rfl rfl rfl (zR.store (zR.new b zi) o) ?_);generalize bM:xx _ _ _=R;have a7:Below b b R:=(by subst bM;exact yo aA (zU _) o);have bP:zR R b o:=(by subst bM;exact(zR.new b zi).put o);have bg:=aL bz.1;have cl:j.heap.size+1<b.heap.size:=bg;clear bM;have bq:yJ j aq R:=bz.keep fun k r=>a7.block k oa;refine⟨bq,Mods.of_below a7,fun L=> ?_⟩;dsimp only[Act.put];have al:j.heap.size=w+3:=a5.o;have bC:yJ j L (R.putObj (j.heap.size+1) (.loop L)):=bq.put L;have l:WkA n w w (R.putObj (j.heap.size+1) (.loop L)):=(ac.to rfl (Mods.of_below a7)).to rfl (zcT (Mods.refl _ _) oa _);have ae:zR (R.putObj (j.heap.size+1) (.loop L)) b o:=(World.putObj_heap_other oa).trans bP;generalize b.heap.size=au at ae cl ⊢;generalize R.putObj (j.heap.size+1) (.loop L)=s at bC l ae ⊢;clear ac bz a7 bP bg bq R b;have z:xS n s kl [(o.id,zS o)] ⟨W,ag,.slice F 1 I,ah,af⟩ st:=bw.keep fun a d=>l.b.block a oa;have ak:=z.lt;have ay:=ae.lt;have a6:=l.bx.lt;have br:=aV l.bx.cell;have cq:∀c:zI zX s,c.val.cell? (n+11,4)=some (.map (some (n+3))):=zI.cell ak id (z.cell 4 _ rfl);have cE:=aV (ae.cells 0 _ rfl);have cD:=aV (ae.cells 1 _ rfl);obtain⟨bd,bt,bS⟩:=zut vb (T:=107) (E:=66) oe (z.wt.blk (w':=s.drew) rfl);unfold xV at bt;clear al;gi_wp2;refine zcU 6 [0,1,2,3,4,5] [6] (fun f=>∃c:zI zX s,f=c.val) oe oe oe (fun⟨_,_,h⟩=>by have u:Exit.outgrown=Exit.normal:=And.left h;cases u) (fun _ _ an _ _ h=>by cases an<;> exact h) (zI.to (Mods.refl _ _).drew) ?_;simp only[xd,yl,vN,jn,vq];refine aR ?_;refine aS ?_;go_wp2_with (refine zuu rfl _ _ _ _ rfl _ _ rfl rfl bt ?_);refine xE ?_;have al:j.heap.size=w+3:=a5.o;have a0:xS n (xF s.drew (n+3) bd) kl [] ⟨W,ag,.slice F 1 I,ah,af⟩ st:={
    kn:=(z.kn.blk (w':=s.drew) rfl).blk (qV oa)
    wt:=bS
    dc:=(qV oa).trans z.dc}
   have X:Mods (fun a=>a=n+3) s (xF s.drew (n+3) bd):=⟨rfl,rfl,rfl,by rw[vH];exact zU _,fun k r ai=>qV ai⟩;have ax:zR (xF s.drew (n+3) bd) au o:=(qV (by have:=l.b.size;omega)).trans ae;generalize xF s.drew (n+3) bd=i at a0 X ax ⊢;clear br cq cE cD bt bS z ak ay a6 ae;have cF:=l.b.size;have b5:=l.bp.lt;have ch:zG base 154 3 zY i (.slice F 1 I) [⟨o.id.c,g+1,g+1+N⟩]:=xI V fun a e=>(by have h1:=(ya V a e);exact(X.block a oa oa).trans (l.b.block a h1.2));have b9:=zG.slice (k:=3) (enc:=zY) (fun _=>rfl) ch;have bQ:j7 fun a=>a=n+3:=⟨fun d=>hF.1 oa,fun d=>hF.2 oa⟩;have bU:zv i:=(b7.below l.b).mods X bQ;have bH:=(bu.o.range i.drew (bU.below (zf _ _).drew));rw[bu.o.rng] at bH;have ak:=a0.lt;have ay:=ax.lt;have a6:w.heap.size<i.heap.size:=(by have:=X.size;omega);have br:∀c:zI zX i,c.val.cell? w=(n+11:):=zI.cell a6 id (jd.cell ((X.block _ oa oa).trans l.bx));have cO:∀c:zI zX i,c.val.cell? (n+11,5)=some (.slice F 1 I):=zI.cell ak id (a0.cell 5 _ rfl);have l1:∀f,(∃c:zI zX i,f=c.val)->(loadVar 66 au).run zD f= .ok (zS o) f:=(by rintro _ ⟨c,rfl⟩;exact zR.load ((c.h.block _ ay id).trans ax));clear al;gi_wp2;refine zcU 9 [0,1,2,3,4,5] [6,7,8,9,10,11] (fun f=>∃c:zI zX i,f=c.val) oe oe oe (fun⟨_,_,h⟩=>by have u:Exit.outgrown=Exit.normal:=And.left h;cases u) (fun _ _ an _ _ h=>by cases an<;> exact h) (zI.to (Mods.refl _ _).drew) ?_;simp only[xd,yl,vN,jn,vq];refine aR ?_;refine aS ?_;go_wp2_with (go_at_call 78;refine bH.mono ?_;rintro e be ⟨rfl,cb⟩);have a8:Below i i be:=zK (zf _ _).drew cb;refine⟨zI.to (Mods.of_below a8),?_⟩;refine aS ?_;go_wp2_with fail;have av:Below i i (be.alloc (.cells #[o.id.c,(g+1:),(g+1+N:)] 154)):=a8.alloc a8.size _;refine⟨zI.to (Mods.of_below av),?_⟩;generalize bD:World.alloc _ _=cK;have ce:zc 3 zY cK (.slice (some be) 1 1) [⟨o.id.c,g+1,g+1+N⟩]:=(by subst bD;exact ziZ be ⟨o.id.c,g+1,g+1+N⟩);try simp only[bD] at av
   clear bD;have cc:=zmV (.slice F 1 I) _ [(⟨o.id.c,g+1,g+1+N⟩:zO)] _ _ (b9.below av) ce oh oh rfl rfl;refine aS ?_;go_wp2_with (go_at_call 89;refine cc.mono ?_;rintro e w6 ⟨cL,rfl,O,cg,b2,bl,bY⟩);obtain rfl:O= []:=zgj cg fun cX=>(by rw[b2];simp);have aP:Below i i w6:=zK av bY;refine⟨zI.to (Mods.of_below aP),?_⟩;have ap:=a0.keep fun a d=>aP.block a oa;have b6:=ax.below aP ay;obtain⟨K,C,rfl⟩:∃p bo,cL= .slice p 0 bo:=ys bl;have bX:=zG.slice (k:=3) (enc:=zY) (fun _=>rfl) bl;have cj:=ap.cell 5 _ rfl;have cm:=ap.frz 5;clear cc ce cg b2 bl bY av a8 cb bH;refine aS ?_;go_wp2;refine aS ?_;go_wp2;refine aS ?_;go_wp2;refine xE ?_;have cd:w6.heap.size<=(w6.setCell (n+11,5) (.slice K 0 C)).heap.size:=oaE;have bT:xS n (w6.setCell (n+11,5) (.slice K 0 C)) kl [] ⟨W,ag,.slice K 0 C,ah,af⟩ st:={
    kn:=ap.kn.blk (zZ _ _ _ _ (by show ¬n+2=n+11;omega))
    wt:=ap.wt.blk (zZ _ _ _ _ (by show ¬n+3=n+11;omega))
    dc:=by show(w6.setCell (n+11,5) (.slice K 0 C)).heap[n+11]?=_;simp[World.setCell,zu,ap.dc]}
   have ab:Mods (fun a=>a=n+3\/a=n+11) s (w6.setCell (n+11,5) (.slice K 0 C)):=((X.mono fun a d=> .inl d).trans (Mods.of_below aP)).setCell (p:=(n+11,5)) (.inr rfl) _;have al:j.heap.size=w+3:=a5.o;have bN:zR (w6.setCell (n+11,5) (.slice K 0 C)) au o:=(zZ _ _ _ _ (by show ¬au=n+11;omega)).trans b6;have bO:=zdu bX cd;generalize w6.setCell (n+11,5) (.slice K 0 C)=a3 at bT ab bN bO ⊢;clear br cO l1 cj cm a0 X ax ap b6 bX aP ch b9 bQ bU ak ay a6 cd;have cP:j7 fun a=>a=n+3\/a=n+11:=⟨fun d=>hF.1 oa,fun d=>hF.2 oa⟩;have cC:zv a3:=(b7.below l.b).mods ab cP;have c5:=ab.size;have ct:P a3:=bE s a3 (ab.mono fun a d=>oa) (bE w s (Mods.of_below l.b) cu);have cx:∀k,D k->n<=k/\k<a3.heap.size/\k≠n+2/\k≠n+3/\k≠n+11:=fun k d=>(by have:=bc k d;omega);have co:=zsQ n N g o kl [] ⟨W,ag,.slice K 0 C,ah,af⟩ st ad D (fun b=>P b/\j.heap.size+1<b.heap.size) (fun b=>∃c,j.heap.size+1<c/\c<=b.heap.size/\a2 c b) (fun b=>∃c,j.heap.size+1<c/\aa c b) a3 bT bu.o cC hF cx cM ⟨ct,by have:=bN.lt;omega⟩
    (fun Z a4 hb a1=>⟨bE Z a4 (Mods.of_below hb) a1.1,zg a1.2 hb.size⟩)
    (fun Z a1 bB=>(cp Z a1.1 bB).mono fun e a4 ⟨h1,u,ar⟩=>⟨h1,⟨_,a1.2,ar.size,u⟩,ar⟩)
    (fun Z a4 ba ⟨c,bs,bi,bA⟩=>⟨c,bs,zk bi ba.size,cs c Z a4 ba bA⟩) (fun Z cB ⟨c,bs,bi,bA⟩ bB=>(cG c Z _ bi cB bA bB).mono fun e a4 ⟨h1,u,ar,aw⟩=>⟨h1,u,⟨c,bs,ar⟩,aw⟩)
   have c0:=jd.cell ((ab.block _ oa oa).trans l.bx);clear al;have bZ:Fence.wide.fn 93:=trivial;gi_wp2_with (first|(refine zvH 66 au rfl rfl rfl bN.load ?_)|(gi_at_call 93;refine(((yi (n:=9 - 1 - 1 - 1)).2 co).inRound _).mono ?_;rintro e bI ⟨rfl,cA,⟨bj,q8,cQ⟩,bh⟩;have aH:=zxV bc bb bJ b5 ab bh l.bm;have c2:=aH.cell;have c1:=aH.frz));have al:j.heap.size=w+3:=a5.o;have cr:=bh.size;have H:Mods (fun k=>WH n D k\/k=w+1) s (bI.setCell (w.heap.size+1:) (.bool true)):=by
    refine((ab.mono fun a d=> ?_).trans (bh.mono fun a d=> ?_)).setCell (p:=(w.heap.size+1:)) (.inr rfl) _
    ·refine .inl ?_;unfold WH;omega
    ·refine .inl ?_;rcases d with d|d|d
     ·exact .inl d
     ·exact .inr (.inr (.inl d))
     ·exact .inr (.inr (.inr d))
   have bF:∀k,J<=k->k≠w.heap.size+1->¬(WH n D k\/k=w.heap.size+1):=fun k h1 u h=>by
    rcases h with h|h
    ·have:=zli bc ca h;omega
    ·exact u h
   have c7:=aL bC.1;have cV:=aH.lt;refine⟨bC.keep fun k r=>H.block k oa (bF k oa oa),H.mono fun k d=> .inl d,?_⟩;exact {
    m:=⟨H.os.trans l.b.os,H.tape.trans l.b.tape,H.output.trans l.b.output,zk cF H.size,fun k r ai=>(H.block k oa (fun d=>d.elim ai oa)).trans (l.b.block k r)⟩
    d:=⟨.slice K 0 C,cA.keep fun a d=>zZ _ _ _ _ (by show ¬a=w+1;omega),zdu bO (zk cr oaE)⟩
    bx:=(H.block _ oa (bF _ bb oa)).trans l.bx
    bm:=by unfold ju at aH ⊢;simp[World.setCell,Array.getElem?_modify,aH]
    bp:=(H.block _ b5 (bF _ oa oa)).trans l.bp
    q:=⟨bj,q8,bf bj bI _ ((Mods.refl _ bI).setCell (p:=(w.heap.size+1:)) (show J<=w+1/\w.heap.size+1<bj from⟨oa,oa⟩) _) cQ⟩}
  ·exact absurd aj oh
 case hseq=>
  intro b3 bR b cn hb;rcases cn with⟨_,ac⟩|⟨e,_⟩
  ·have bg:=aL hb.1;refine(zux n N g o (w.heap.size+2) base kl ⟨W,ag,.slice F 1 I,ah,af⟩ st 8 oa (j.heap.size+1) (RG (fun k=>WH n D k\/k=w+1) j) (yJ j b3)
    (fun x b=>(x= []/\WkA n w w b)\/(x= [o]/\WkH n J (xT kl o.id.c (g+N:)) ⟨W,ag,.slice F 1 I,ah,af⟩ ad D aa w j w b)) cU cf ci ?A ?B ?Ib ?Bb b ?G ?Y (.inl ⟨rfl,ac⟩) hb).mono ?_
   case A=>
    rintro b (⟨_,h⟩|⟨e,_⟩)
    ·exact⟨bw.keep fun a d=>h.b.block a oa,xI V fun a e=>h.b.block a (xJ V a e),h.bp.cell,h.bp.lt⟩
    ·cases e
   case B=>
    rintro b (⟨e,_⟩|⟨_,h⟩)
    ·cases e
    ·obtain⟨bW,an,_⟩:=h.d;exact⟨⟨_,_,_,an,cJ⟩,h.bp.cell,h.bp.lt⟩
   case Ib=>
    rintro x b t (⟨rfl,h⟩|⟨rfl,h⟩) hb
    ·exact .inl ⟨rfl,h.to rfl (Mods.of_below hb)⟩
    ·exact .inr ⟨rfl,h.to rfl am bJ bb bf (Mods.of_below hb)⟩
   case Bb=>intro b t h hb;have h1:=aL h.1;exact h.keep fun k r=>hb.block k oa
   case G=>
    intro k r;have h1:=ac.b.size;rcases r with(r|r)|r
    ·have:=zli bc ca r;omega
    ·omega
    ·omega
   case Y=>
    rintro x b (⟨rfl,h⟩|⟨rfl,h⟩) hb aj
    ·obtain⟨cw,ck,cv,cI,h1,u⟩:=bR [] () b (.inl ⟨rfl,h⟩) hb aj;refine⟨cw,ck,cv,cI,h1,u.mono ?_⟩;rintro e t ⟨rfl,(⟨e,_⟩|⟨_,bn⟩),bL,ba⟩
     ·cases e
     ·exact⟨rfl,.inr ⟨rfl,bn⟩,bL,ba⟩
    ·exact absurd aj oh
   rintro e t ⟨bv,O,rfl,(⟨e,_⟩|⟨_,bn⟩),bL⟩
   ·cases e
   ·exact⟨bv,[()],rfl,.inr ⟨rfl,bn⟩,bL⟩
  ·cases e
 case hdone=>
  rintro O b rfl (⟨e,_⟩|⟨_,y⟩) bV
  ·cases e
  ·have cW:=y.bm.cell;have cY:=y.bx.cell;have cZ:=y.bx.lt;obtain⟨bW,z,b1⟩:=y.d;gi_wp2;rw[roundsIn_succ];gi_wp2_with (gi_at_call 92;refine(bK _).mono ?_;rintro e f ⟨rfl,rfl⟩);generalize a9:World.alloc _ _=i;obtain⟨aZ,-,-,-⟩:=aJ a9;have b8:ju false i b:=(by subst a9;unfold ju;rw[zt,if_neg (by simp),zt,if_pos rfl]);have bG:jd n i (b.heap.size+1):=(by subst a9;unfold jd;rw[zt,if_pos (by simp)]);clear a9;refine zc4 (α:=Unit) (gf:=168) (lb:=#[(b.heap.size+1:)]) (encs:=fun _=>#[zS o]) (S:=fun O=>O= []) (N:=0) rfl oa rfl trivial (enters_of zfl oe rfl) (fun _=>rfl)
    (fun x t=>x= []/\Below i i t) zX ?hIp ?h0 ?hround ?hseq ?hdone
   case hIp=>rintro x t aq L ⟨rfl,h⟩ cT;exact⟨rfl,⟨h.os,h.tape,h.output,by simpa[World.putObj] using h.size,fun k r=>(World.putObj_heap_other oa).trans (h.block k r)⟩⟩
   case h0=>intro aq;exact⟨rfl,aB⟩
   case hround=>intro x cR t aq _ _ aj;exact absurd aj oa
   case hseq=>rintro b3 bR t ⟨_,h⟩ hb;have h1:=aZ.size;have u:=h.size;have ak:=z.lt;refine(zoJ n (b.heap.size+1) _ _ _ _ 8 oa (i.heap.size+1) t (z.keep fun a d=>(h.block a oa).trans (aZ.block a oa)) (zdu b1 oa) ((h.cell (p:=(b.heap.size+1:)) bG.lt).trans bG.cell)).mono ?_;rintro e c8 ⟨bv,aw⟩;have cS:=aL hb.1;exact⟨bv,[],rfl,⟨rfl,zK h aw⟩,hb.keep fun k r=>aw.block k oa⟩
   case hdone=>
    rintro O t rfl ⟨_,h⟩ b4;have c6:=(h.cell (p:=b) b8.lt).trans b8.cell;gi_wp2;rw[roundsIn_succ];gi_wp2;have h1:=aL bV;have u:=aZ.size;have ar:=bG.lt;have aw:=h.size;have cS:=aL b4;have cz:=y.m.size;have cy:(t.alloc (.cells #[.bool false] 4)).heap[i.heap.size]?=some (.deferred (some [])):=(by rw[zt,zN (by omega)];exact b4);have cH:((t.alloc (.cells #[.bool false] 4)).putObj i (.deferred none)).heap[w.heap.size+3]?=some (.deferred (some [])):=(by rw[World.putObj_heap_other oa,zt,zN oa,h.block _ oa,aZ.block _ oa,<-am];exact bV);have az:Mods (fun a=>a=w+3\/b<=a) b (((t.alloc (.cells #[.bool false] 4)).putObj i (.deferred none)).putObj (w.heap.size+3) (.deferred none)):=
     zcT (zcT ((Mods.of_below (aZ.trans (h.mono oa))).alloc _) (.inr u) _) (.inl rfl) _
    have M:Mods (fun a=>a=w+3) b (((t.alloc (.cells #[.bool false] 4)).putObj i (.deferred none)).putObj (w.heap.size+3) (.deferred none)):=
     ⟨az.os,az.tape,az.output,az.size,fun k r ai=>az.block k r oa⟩
    refine⟨oh,.inl ⟨_,_,rfl,run_takeDeferred cy,oh,.inl ⟨_,_,rfl,run_takeDeferred cH,⟨_,zcO rfl _ _ _,?_⟩⟩⟩⟩;obtain⟨c,c4,cN⟩:=y.q;exact⟨rfl,bW,z.keep fun a d=>M.block a oa oa,zdu b1 M.size,⟨c,oa,bf c _ _ (M.mono fun a d=>by subst d;omega) cN⟩,
     ⟨M.os.trans y.m.os,M.tape.trans y.m.tape,M.output.trans y.m.output,zk cz M.size,fun k r ai=>(M.block k oa oa).trans (y.m.block k r ai)⟩⟩
end
def zpw(n:Nat)(kl:List (Int×Value))(c:yN)(st:Int)(D:Nat->Prop)(d:Nat->World->Prop)(w:zC)(e:Ending)(w':zC):Prop:=
 e= .returned (.tuple #[.bool true,zB 0])/\∃a,xS n w' kl [] {c with h:=a} st/\zc 3 zY w' a []/\(∃b,w.heap.size<=b/\d b w')/\Mods (WH n D) w w'
theorem zpx (n N c cap:Nat) (g:Int) (o:zQ) (kl:List (Int×Value)) (f:yN) (st u:Int) (D:Nat->Prop) (P:World->Prop) (v s:Nat->World->Prop) (w:zC) (ac:xS n w kl [] f st) (E:zc 3 zY w f.h []) (a2:zbX o (g+1) N) (a6:o.own) (O:knV kl o.id.c g) (K:zv w) (hF:j7 fun a=>n<=a)
 (R:y8 w c 0 o) (L:c<w) (a9:n+11<c) (aZ:∀w,zv w->Calls zD 88 #[zS o] w fun e b=>e=(zB 0)/\Below w w b) (ad:zgK n w D) (a0:max st o.stamp=u) (aq:P w)
 (af:∀r x,Mods (fun a=>a=n+2\/a=n+3\/a=n+11\/w<=a) r x->P r->P x)
 (al:∀w,P w->zv w->Calls zD 173 #[(n+1:),zS o] w fun e b=>(∃y,e= .returned y)/\v w b/\Mods D w b)
 (ap:∀d w b,Mods (fun a=>a=n+2\/a=n+11) w b->v d w->v d b)
 (a4:∀d r x,Mods (fun a=>w<=a/\a<d) r x->s d r->s d x)
 (ay:∀d w i,d<=w.heap.size->xS n w (xT kl o.id.c (g+N:)) [] {f with h:=i} u->v d w->zv w->Calls zD 174 #[(n+11:),zS o] w fun e b=>e= .returned (.bool true)/\xS n b (xT kl o.id.c (g+N:)) [] {f with h:=i} u/\s d b/\Mods D w b):
 Calls zD 9 #[(n+11:),.agg #[.slice (some c) 1 cap,()]] w (zpw n (xT kl o.id.c (g+N:)) f u D s w):=by
 have bc:∀(aa:Fn) (first cap:Array Value) (w:zC),(Instr.makeFunc aa first cap).run zD w= .ok (.func aa first cap) w:=fun _ _ _ _=>rfl;have I:=zA a2;have X:=ac.lt;have m:Below w w (w.alloc (.cells #[.slice (some c) 1 cap,()] 39)):=aB;have u0:(w.alloc (.cells #[.slice (some c) 1 cap,()] 39)).cell? w=some (.slice (some c) 1 cap):=oS;have u1:(w.alloc (.cells #[.slice (some c) 1 cap,()] 39)).cell? (w,1)=():=oS;have l:w.heap.size<(w.alloc (.cells #[.slice (some c) 1 cap,()] 39)).heap.size:=oh;have G:=zwS o c cap w _ (R.blo m L) (zg L m.size) l (K.below m) aZ u0 u1;go_enter Tryz.func9,Tryz.ntmps9;go_upto_region 1 with fail;generalize w.alloc (.cells #[.slice (some c) 1 cap,()] 39)=au at m u0 u1 l G ⊢;go_upto_region 5 with(go_at_call 33;refine G.mono ?_;rintro e W ⟨rfl,t⟩);have ai:=zK m t;have aj:=(t.cell (p:=w) l).trans u0;have ah:=(t.cell (p:=(w,1)) l).trans u1;have H:w.heap.size<W.heap.size:=zg l t.size;clear G u0 u1 l m t au;go_wp2_with fail;go_loopw [7,19] (fun Z A wx=>(Z= .bool false/\A= .int .i64 0/\wx=W)\/(Z= .bool true/\A= .int .i64 1/\w.heap.size<wx.heap.size/\wx.cell? ⟨w.heap.size,1,none⟩=some (.slice none 0 0)/\∃i C,xS n wx kl [(o.id,zS o)] {f with h:=i} st/\zG C 154 3 zY wx i [o.rng]/\n+11<C/\Mods (fun a=>a=n+3\/a=n+11) w wx)) (fun _ A _=>1 - (intOf A).toNat);case atStart=>exact .inl ⟨rfl,rfl,rfl⟩
 case round=>
  rcases hrel with⟨rfl,rfl,rfl⟩|⟨rfl,rfl,a7,az,i,C,ak,Y,q,B⟩
  ·have ae:=R.blo ai L;have V:=zdg ae;have z:Below wr wr (xx (wr.alloc (.cells (ze zi).toArray 66)) wr o):=yo aA (zU _) _;have q:zR (xx (wr.alloc (.cells (ze zi).toArray 66)) wr o) wr o:=(zR.new wr zi).put o;clear ae;go_upto_region 8 with(first|(refine xv (T:=66) (v:=zS o) rfl rfl rfl V ?_)|(refine yx (T:=66) (v:=zS o) rfl rfl rfl rfl (zR.store (zR.new wr zi) o) ?_));try go_frame
   have k:=zK ai z;have ab:=(z.cell (p:=(w,1)) H).trans ah;generalize xx (wr.alloc (.cells (ze zi).toArray 66)) wr o=F at z q k ab ⊢;generalize wr.heap.size=bh at q ⊢;have E:=zrs n N (g+1) g o kl f st F (ac.keep fun a j=>k.block a oa) (zeB E k.size) I.o O rfl (K.below k);clear V aj;go_wp2_with (first|(refine xv (T:=66) (v:=zS o) rfl rfl rfl q.load ?_)|(go_at_call 36;refine E.mono ?_;rintro e bf ⟨ax,rfl,ao,av,M⟩));have bd:=M.size;have bb:=k.size;have ba:=q.lt;have am:w.heap.size<F.heap.size:=zg H z.size;have J:=M.block w am oa;exact⟨.inr ⟨rfl,rfl,oa,(xA (w:=F) J).trans ab,ax,_,ao,av,oa,(Mods.of_below k).trans M⟩,by simp[intOf]⟩
  ·have a1:j7 fun a=>a=n+3\/a=n+11:=⟨fun j=>hF.1 oa,fun j=>hF.2 oa⟩;have a5:=B.size;rw[I.o.rng] at Y;have a3:=zxX n N w.heap.size C g o kl {f with h:=i} st u D P v s wr ak Y I.o a6 O (K.mods B a1) hF q a5 X ad a0 (af w wr (B.mono fun a j=>oa) aq) af al ap a4 ay;clear aj ah H;go_wp2_with (go_at_call 37;refine a3.mono ?_;rintro e be ⟨rfl,aw,an,aH,⟨aP,a8,ar⟩,ag⟩;have J:=ag.block w.heap.size a7 (fun j=>by have:=zli ad X j;omega);have bg:=(xA (w:=wr) J).trans az);go_ret2;exact⟨rfl,aw,an,aH,⟨aP,oa,ar⟩,(B.mono fun a j=>by unfold WH;omega).trans ag⟩
section
attribute [local go_sem] jl
theorem zxU(n:Nat)(kl:List (Int×Value))(t:yN)(st:Int)(w:zC)(x:xS n w kl [] t st)(z:zc 3 zY w t.h []):
 Calls zD 37 #[(n+11:)] w fun f r=>f=jB/\Below w w r:=by
 have J:=x.lt;refine(yi (n:=9)).1 (callsIn_of_wp_marks Tryz.func37 rfl trivial ?_ rfl);simp only[Tryz.ntmps37,yw,z7,xB,Nat.reduceAdd,Nat.reduceSub,qK,qL,qM,qN,xu,yD];gi_wp2;refine wpIn_loop_rounds 2 ?_;rw[roundsIn_succ];have C:=fun B=>(yi (n:=8)).2 (zoI (n+11:) B rfl);have L:Fence.wide.fn 92:=trivial;gi_wp2_with (gi_at_call 92;refine(C _).mono ?_;rintro f r ⟨rfl,rfl⟩);have c:Below w w (((w.alloc (.cells #[(n+11:)] 24)).alloc (.cells #[.bool false] 4)).alloc (.cells #[(n+11:)] 24)):=aB;have i:ju false (((w.alloc (.cells #[(n+11:)] 24)).alloc (.cells #[.bool false] 4)).alloc (.cells #[(n+11:)] 24)) (w.heap.size+1):=oam;have j:jd n (((w.alloc (.cells #[(n+11:)] 24)).alloc (.cells #[.bool false] 4)).alloc (.cells #[(n+11:)] 24)) (w.heap.size+2):=by unfold jd;rw[zt,if_pos (by simp)]
 have y:(((w.alloc (.cells #[(n+11:)] 24)).alloc (.cells #[.bool false] 4)).alloc (.cells #[(n+11:)] 24)).heap.size=w+3:=oh;try simp only[qX]
 generalize((w.alloc (.cells #[(n+11:)] 24)).alloc (.cells #[.bool false] 4)).alloc (.cells #[(n+11:)] 24)=g at c i j y ⊢;refine zc4 (α:=Unit) (gf:=168) (lb:=#[(w.heap.size+2:)]) (encs:=fun _=>#[zS zi]) (S:=fun o=>o= []) (N:=0) rfl oa rfl trivial (enters_of zfl oe rfl) (fun _=>rfl)
  (fun l a=>l= []/\Below g g a) zX ?hIp ?h0 ?hround ?hseq ?hdone
 case hIp=>rintro l a u T ⟨rfl,h⟩ R;exact⟨rfl,h.trans ⟨rfl,rfl,rfl,by simp[World.putObj],fun d k=>World.putObj_heap_other oa⟩⟩
 case h0=>intro u;exact⟨rfl,aB⟩
 case hround=>rintro l M a u _ _ A;exact absurd A oh
 case hseq=>rintro H K a ⟨_,h⟩ m;have V:=c.size;have s:=h.size;refine(zoJ n (w.heap.size+2) _ _ _ _ 8 oa (g.heap.size+1) a (x.keep fun v G=>(h.block v oa).trans (c.block v oa)) (zdu z oa) ((h.cell (p:=(w.heap.size+2:)) j.lt).trans j.cell)).mono ?_;rintro f O ⟨F,e⟩;have D:=aL m.1;exact⟨F,[],rfl,⟨rfl,zK h e⟩,m.keep fun d k=>e.block d oa⟩
 case hdone=>
  rintro o a rfl ⟨_,h⟩ q;have I:=(h.cell (p:=(w.heap.size+1:)) i.lt).trans i.cell;gi_wp2;rw[roundsIn_succ];gi_wp2;have s:=c.size;have e:=h.size;have D:=aL q;have E:(a.alloc (.cells #[.bool false] 4)).heap[w.heap.size+3]?=some (.deferred (some [])):=by rw[zt,zN (by omega),<-y];exact q
  have b:Below w w (a.alloc (.cells #[.bool false] 4)):=(c.trans (h.mono s)).alloc oa _;refine⟨oh,.inl ⟨_,_,rfl,run_takeDeferred E,⟨_,zcO rfl _ _ _,?_⟩⟩⟩;exact⟨rfl,b.os,b.tape,b.output,by have:=b.size;simp[World.putObj] at *;omega,fun d k=>(World.putObj_heap_other oa).trans (b.block d k)⟩
end
theorem zpo(f:Option Addr)(N cap:Nat)(w:zC)(i:N<=16384):
 Calls zD 35 #[.agg #[(),.slice f N cap]] w fun g d=>g=jB/\Below w w d:=by
 have h:decide (16384<(N:Int))=false:=oi;go_enter Tryz.func35,Tryz.ntmps35;go_upto_region 4 with fail;generalize b:World.alloc _ _=c;obtain⟨e,-,-⟩:=aF b;clear b;go_loopw [20] (fun a wr=>a=zB 0/\wr=c) (fun a _=>0);case atStart=>exact⟨rfl,rfl⟩
 case round=>obtain⟨rfl,rfl⟩:=hrel;go_wp2_with fail;go_end0;exact⟨rfl,e⟩
theorem zpp (b:Option Addr) (N cap a:Nat) (w:zC) (f:N<=16384)
 (i:w.cell? a=()) (h:w.cell? (a,1)=some (.slice b N cap)):
 Calls zD 34 #[a] w fun c e=>c=jB/\Below w w e:=by
 have d:=zpo b N cap w f;go_enter Tryz.func34,Tryz.ntmps34;go_wp2_with (go_at_call 35;refine d.mono ?_;rintro c j ⟨rfl,g⟩);go_end0;exact⟨rfl,g⟩
theorem zpq (j:Option Addr) (N cap b:Nat) (w:zC) (q:N<=16384) (h:b<w)
 (t:w.cell? b=()) (s:w.cell? (b,1)=some (.slice j N cap)):
 Calls zD 33 #[.func (.func 34) #[] #[b]] w fun d n=>d=(zB 0)/\Below w w n:=by
 have x:∀(i:Fn) (first cap:Array Value) (w:zC),(Instr.makeFunc i first cap).run zD w= .ok (.func i first cap) w:=fun _ _ _ _=>rfl;have e:Below w w (w.alloc (.cells #[zB 0] 40)):=aB;have m:(w.alloc (.cells #[zB 0] 40)).cell? w=(zB 0):=oS;have o:(w.alloc (.cells #[zB 0] 40)).frozen? w=false:=zpA w _ _;have k:=zpp j N cap b _ q ((e.cell (p:=b) h).trans t) ((e.cell (p:=(b,1)) h).trans s);go_enter_defers Tryz.func33,Tryz.ntmps33;go_wp2_with (go_at_call 34;refine k.mono ?_;rintro d g ⟨rfl,c⟩;have r:g.cell? w=(zB 0):=(c.cell (p:=w) oh).trans m;have v:g.frozen? w=false:=(c.frozen (p:=w) oh).trans o);refine zg6 (f:=87) (args:=#[w]) oh (by simp[go_sem]) ?_;refine(zpB w _).mono ?_;rintro d y u ⟨rfl,rfl,rfl⟩;have l:Below w w (g.setCell w (zB 0)):=(zK e c).setCell (p:=w) (zU _) _;simp[Leaves,settle,results,Tryz.results33,go_sem,r];exact l
def zaz(n:Nat)(w:zC):Prop:=∃a,w.heap[n+10]?=some (.cells #[.map (some (n+8)),.map (some (n+9)),a] 174 (0,0))
theorem zpr(n:Nat)(b:zJ)(l:List zO)(w:zC)(a:zaz n w)(o:zc 3 zY w b l)(u:l.length<=1000000)(k:b.oneCell'=true):
 Calls zD 41 #[(n+10:),b] w fun g f=>(∃m,g= .returned m)/\zaz n f/\Mods (fun d=>d=n+10) w f:=by
 obtain⟨q,a⟩:=a;have j:=zeC b l w o oa k;have i:=aL a;have s:=zA a;clear a;go_enter Tryz.func41,Tryz.ntmps41;go_wp2_with (go_at_call 95;refine j.mono ?_;rintro g c ⟨x,rfl,t,_,_,_,r,h⟩;obtain⟨A,z,rfl⟩:=r.len;have e:=(h.block _ i).trans s.o;have v:c.cell? (n+10,2)=some q:=(by simp[World.cell?,e]);have y:c.frozen? (n+10,2)=false:=(by simp[World.frozen?,e]));go_end0;exact⟨⟨_,rfl⟩,⟨_,by simp[World.setCell,zu,e];rfl⟩,(show Mods (fun d=>d=n+10) w c from Mods.of_below h).setAt (p:=(n+10,2)) (.inl rfl) _⟩
def zps(n:Nat)(kl:List (Int×Value))(f:yN)(st:Int)(T':List zL)(w:zC)(e:Ending)(w':zC):Prop:=
 e= .returned (.tuple #[.bool true,zB 0])/\∃b c,xS n w' kl [] {f with t:=b,d:=c} st/\zG w 68 4 zb w' b T'/\zG w 154 3 zY w' c (xf (xL T'))/\zaz n w'/\Mods (fun a=>a=n+10\/a=n+11) w w'
theorem zpt (n:Nat) (T f:List zL) (uv:Value) (kl:List (Int×Value)) (o:yN) (st:Int) (w:World) (ah:xS n w kl [] o st) (az:zc 3 zY w o.h []) (a7:zc 4 zb w o.t T) (K:zc 4 zb w uv f) (aP:zaz n w)
 (ba:f≠[]) (ac:zz (T++f) []≠T) (bW:T.length<=5000) (bl:f.length<=5000) (Z:(zz (T++f) []).length<=5000):
 Calls Tryz.prog 9 #[.pointer (some ⟨n+11,0,none⟩),.agg #[.slice none 0 0,uv]] w (zps n kl o st (zz (T++f) []) w):=by
 have bP:∀(a3:Fn) (first i:Array Value) (w:zC),(Instr.makeFunc a3 first i).run zD w= .ok (.func a3 first i) w:=fun _ _ _ _=>rfl;obtain⟨q,i,rfl,bm,bF⟩:=K.shape;clear bm bF;obtain⟨m,M⟩:=aY f.length;have bQ:(0:Int)<m:=by have:f.length≠0:=fun c=>ba (zcq.1 c);omega
 have X:zz (zz (T++f) []) []=zz (T++f) []:=zf5 (zah _).1 (zah _).1 fun bi=>(zah _).2 bi;obtain⟨b,ak⟩:=aY (zz (T++f) []);rw[ak] at ac Z X ⊢;have bu:=zA ak;clear ak;have bn:=ah.lt;have bh:n+10<w.heap.size:=oa;rw[M] at K ⊢;rw[M] at bl;have bN:=zA (show zc 4 zb w (.slice q m i) f from K);have aZ:=zA a7;have a5:=zA ah;have bq:=zA az;have bD:=zA aP;have bG:=zA M;have bA:=zA ac;have a9:=zA X;have bb:=zA Z;have ao:Below w w (w.alloc (.cells #[(),.slice q m i] 39)):=aB;have u0:(w.alloc (.cells #[(),.slice q m i] 39)).cell? w=():=oS;have u1:(w.alloc (.cells #[(),.slice q m i] 39)).cell? (w,1)=some (.slice q m i):=oS;have y:w.heap.size<(w.alloc (.cells #[(),.slice q m i] 39)).heap.size:=oh;have aa:=zpq q m i w _ oa y u0 u1;clear K a7 ah az aP M ac X Z ba;go_enter Tryz.func9,Tryz.ntmps9;go_upto_region 1 with fail;generalize w.alloc (.cells #[(),.slice q m i] 39)=bt at ao u0 u1 y aa ⊢;go_upto_region 5 with(go_at_call 33;refine aa.mono ?_;rintro c bf ⟨rfl,B⟩);have O:=zK ao B;have bM:=(B.cell (p:=w) y).trans u0;have bc:=(B.cell (p:=⟨w.heap.size,1,none⟩) y).trans u1;have af:w.heap.size<bf.heap.size:=zg y B.size;clear aa u0 u1 y ao B bt;go_upto_region 6 with fail;go_loopw [7,19] (fun bs a1 wx=>bs= .bool false/\a1= .int .i64 0/\wx=bf) (fun _ a1 _=>0);case atStart=>exact⟨rfl,rfl,rfl⟩
 case round=>
  obtain⟨rfl,rfl,rfl⟩:=hrel;have be:=zxU n kl o st wr (a5.o.keep fun a s=>O.block a oa) (zeB bq.o O.size);go_upto_region 12 with(go_at_call 37;refine be.mono ?_;rintro c z ⟨rfl,E⟩;have a4:=(E.cell (p:=⟨w.heap.size,1,none⟩) af).trans bc);have x:=zK O E;have bR:w.heap.size<z.heap.size:=zg af E.size;clear bM bc be E af O;have V:=a5.o.keep (w':=z) fun a s=>x.block a oa;have bo:=V.lt;have bL:∀C:zI zX z,C.val.cell? (n+11,2)=some o.t:=zI.cell bo id (V.cell 2 _ rfl);have bK:=aV a4;have ab:=zr4 o.t (.slice q m i) T f z.drew ((aZ.o.below x).drew) ((bN.o.below x).drew) oa (by rw[bG.o];omega);have bO:=bb;have bj:=bb.o;rw[bu.o] at ab;refine xU 6 [0,1,2,3,4,5] [6,7] zX (aM ?_);refine aR ?_;clear bL bK;refine aS ?_;go_wp2_with (go_at_call 38;refine ab.mono ?_;rintro c w3 ⟨bT,rfl,R,a2⟩);refine aS ?_;go_wp2;refine xE ?_;have ap:Below z z w3:=zK (zf _ _).drew a2;have Y:=zK x ap;obtain⟨h,c3,rfl⟩:=R.len;obtain⟨l,am⟩:=aY b.length;have L:=V.keep fun a s=>ap.block a oa;have aj:=zA (R.any (base':=w.heap.size) x.size);have au:=zq7 (.slice h b.length c3) o.t b T w3 (zG.slice (k:=4) (enc:=zb) (fun _=>rfl) R) (aZ.o.below Y) bA.o oa oa;rw[am] at au bj ⊢;have W:=zA am;have bv:=L.cell 2 _ rfl;clear ab ap a2 V R a4 am x;go_upto_region 14 with(go_at_call 39;refine au.mono ?_;rintro c aq ⟨rfl,I⟩);have al:=zK Y I;have av:=L.keep (w':=aq) fun a s=>I.block a (by have:=L.lt;omega);have ar:zG w 68 4 zb aq (.slice h l c3) b:=by rw[<-W.o];exact aj.o.blk fun a c=>I.block a (aj.o.lt c)
  have ad:=zrp (.slice h l c3) b aq (by have:=zG.slice (k:=4) (enc:=zb) (fun _=>rfl) ar;exact this) rfl (by rw[W.o];omega) (by rw[a9.o,W.o];omega);rw[a9.o] at ad;have a0:=zA av;have D:=zA ar;have bU:=av.lt;clear bv au L I aj av ar Y;go_upto_region 15 with(go_at_call 40;refine ad.mono ?_;rintro c j ⟨bZ,rfl,ag,F⟩;obtain⟨e,g,rfl⟩:=ag.len;have r:=a0.o.keep (w':=j) fun a s=>F.block a oa;have bJ:=r.cell 2 _ rfl;have bp:=r.cell 3 _ rfl;have bB:=r.frz 2;have bg:=r.frz 3);have bw:(⟨e,0,0⟩:Option Addr×Nat×Nat)=⟨e,0,0⟩:=rfl;have v:∀k,k≠n+11->((j.setCell (n+11,2) (.slice h l c3)).setCell (n+11,3) (.slice e (xf (xL b)).length g)).heap[k]?=j.heap[k]?:=fun k a6=>(zZ _ _ _ _ (by show ¬k=n+11;exact a6)).trans (zZ _ _ _ _ (by show ¬k=n+11;exact a6));have u:xS n ((j.setCell (n+11,2) (.slice h l c3)).setCell (n+11,3) (.slice e (xf (xL b)).length g)) kl [] {o with t:= .slice h l c3,d:= .slice e (xf (xL b)).length g} st:={
   kn:=r.kn.blk (v _ oa)
   wt:=r.wt.blk (v _ oa)
   dc:=by simp[World.setCell,zu,r.dc]}
  have ax:=zK al F;have J:Mods (fun a=>a=n+10\/a=n+11) w ((j.setCell (n+11,2) (.slice h l c3)).setCell (n+11,3) (.slice e (xf (xL b)).length g)):=((show Mods (fun a=>a=n+10\/a=n+11) w j from Mods.of_below ax).setAt (p:=(n+11,2)) (.inl (.inr rfl)) _).setAt (p:=(n+11,3)) (.inl (.inr rfl)) _;have N:zG w 68 4 zb ((j.setCell (n+11,2) (.slice h l c3)).setCell (n+11,3) (.slice e (xf (xL b)).length g)) (.slice h l c3) b:=D.o.blk fun a c=>(v a (by have:=D.o.ge c;omega)).trans (F.block a (D.o.lt c));have ay:zG w 154 3 zY j (.slice e (xf (xL b)).length g) (xf (xL b)):=ag.any al.size;have A:zG w 154 3 zY ((j.setCell (n+11,2) (.slice h l c3)).setCell (n+11,3) (.slice e (xf (xL b)).length g)) (.slice e (xf (xL b)).length g) (xf (xL b)):=ay.blk fun a c=>v a (by have:=ay.ge c;omega);have H:zaz n ((j.setCell (n+11,2) (.slice h l c3)).setCell (n+11,3) (.slice e (xf (xL b)).length g)):=by obtain⟨hv,ai⟩:=bD.o;exact⟨hv,(v _ oa).trans ((ax.block _ bh).trans ai)⟩
  have aH:(xf (xL b)).length<=1000000:=by have h1:=zdk (xL b);have bz:=zc3 b;rw[W.o] at bz;omega
  obtain⟨aw,bd⟩:=aY ((xf (xL b)).length);rw[bd] at u J N A H ⊢;generalize(j.setCell (n+11,2) (.slice h l c3)).setCell (n+11,3) (.slice e aw g)=w6 at u J N A H ⊢;have bC:=zA u;have br:=zA J;have ae:=zA N;have an:=zA A;have a8:=u.lt;have bS:∀C:zI zX w6,C.val.cell? (n+11,9)=(n+10:):=zI.cell a8 id (u.cell 9 _ rfl);have bV:∀C:zI zX w6,C.val.cell? (n+11,3)=some (.slice e aw g):=zI.cell a8 id (u.cell 3 _ rfl);have bE:=zpr n (.slice e aw g) (xf (xL b)) w6.drew (by obtain⟨hv,ai⟩:=H;exact⟨hv,ai⟩) ((zG.slice (k:=3) (enc:=zY) (fun _=>rfl) A).drew) aH rfl;clear v bw u J N A H bd aH ay ax r bJ bp bB bg F ag ad a0 D al;refine xU 8 [0,1,2,3,4,5,6,7] [8] zX (aM ?_);refine aR ?_;refine aS ?_;go_wp2_with (go_at_call 41;refine bE.mono ?_;rintro c bx ⟨⟨bX,rfl⟩,bI,bH⟩);refine xE ?_;go_wp2;go_ret2;have G:Mods (fun a=>a=n+10) w6 bx:=(Mods.refl _ w6).drew.trans bH;have bY:n+11<w.heap.size:=bn;exact⟨rfl,_,_,bC.o.keep fun a s=>G.block a oa oa,ae.o.blk fun a c=>G.block a (ae.o.lt c) (by have:=ae.o.ge c;omega),an.o.blk fun a c=>G.block a (an.o.lt c) (by have:=an.o.ge c;omega),bI,br.o.trans (G.mono fun a s=> .inl s)⟩
end Go.Proofs.YtimlgcodecgecaaGreatDoor
