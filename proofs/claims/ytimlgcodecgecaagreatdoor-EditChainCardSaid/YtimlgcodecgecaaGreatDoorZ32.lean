/- Walk: store.Add of an operation that goes on where what is known of its client ends. -/
import Derived.Test.YtimlgcodecgecaaGreatDoorZ31
import Derived.Test.YtimlgcodecgecaaGreatDoorZ20
set_option maxRecDepth 100000
set_option maxHeartbeats 20000000
set_option linter.all false
namespace Go.Proofs.YtimlgcodecgecaaGreatDoor
open Go.RowKit Go.Lib
theorem zez{rs:List Int}(h:∀r∈rs,yS r):(zh (xo rs)).length=rs.length/\(xo rs).size<=4*rs.length:=by rw[(zkL h).1,zds h];exact⟨rfl,(zey rs).2⟩
theorem zpk{x a:zQ}(p:zaQ x)(l:zaQ a)(n:zd4 x a=true)(v:a.id.k=x.id.k+x.len):zaQ {x with text:=x.text++a.text}/\({x with text:=x.text++a.text}:zQ).rng.b=a.rng.b:=by
 simp only[zd4,zd3,xr,xW] at n;obtain⟨⟨⟨⟨e,k⟩,_⟩,_⟩,u⟩:=n;obtain⟨c,m,o⟩:=p.txt e;obtain⟨b,j,i⟩:=l.txt k;have f:∀d∈c++b,yS d:=fun d r=>(xX.1 r).elim (o d) (i d);have g:x.text++a.text=xo (c++b):=by rw[m,j,zpS]
 have t:x.len=c.length:=by unfold zQ.len;rw[if_pos e,m,(zez o).1]
 have q:a.len=b.length:=by unfold zQ.len;rw[if_pos k,j,(zez i).1]
 have h:({x with text:=x.text++a.text}:zQ).len=c.length+b.length:=by show(if x.kind=1 then(zh (x.text++a.text)).length else 1)=_;rw[zP e,g,(zez f).1,xY]
 have s:=l.k1;refine⟨⟨?_,p.k0,?_,fun _=>⟨_,g,f⟩⟩,?_⟩
 ·show(x.text++a.text).size<=_;rw[g];have:=(zez f).2;simp only[xY] at this;omega
 ·rw[h];show x.id.k+_<=_;push_cast;omega
 ·unfold zQ.rng;rw[h,q];show x.id.k+((c.length+b.length:Nat):Int)=a.id.k+(b.length:Int);push_cast;omega
def zpl(f:Nat->Prop)(h:Nat)(K:List (Int×List zQ))(b:zQ)(w:zC)(e:Ending)(w':zC):Prop:=
 ∃g,e= .returned g/\∃a,js w' (fun d=>f d\/w<=d) h (vV K b.id.c a)/\vz a=b.rng.b - 1/\(∀c,a.getLast?=some c->c.id.c=b.id.c)/\a.length<=(qn K b.id.c).length+1/\Mods f w w'
theorem zpm(p:Nat->Prop)(c:Nat)(K:List (Int×List zQ))(o:zQ)(w:zC)(b:js w p c K)(t:(qn K o.id.c).length<=100000)(h:zv w)(k:vz (qn K o.id.c)<o.id.k):
 Calls zD 220 #[c,zS o] w fun l r=>l= .returned (.tuple #[zS o,.bool true])/\Below w w r:=by
 have e:=fun w b h=>zo9 p c K o.id.c w b t h;generalize vz (qn K o.id.c)=y at e k;have C:decide (y<o.id.k)=true:=by simpa using k
 change Calls zD 220 #[c,.agg #[o.id.c,o.id.k,zB o.kind,o.stamp,o.left.c,o.left.k,o.right.c,o.right.k,.string o.text,zB o.v.kind,zB o.v.n,.float .f64 o.v.f,.string o.v.s,.string o.key,o.parent.c,o.parent.k,o.frm.c,o.frm.k,.bool o.frmA,o.til.c,o.til.k,.bool o.tilA]] w _;go_enter Tryz.func220,Tryz.ntmps220;go_upto_region 1 with fail;refine zbL o zi fun n d f i q m=> ?_;have s:n.cell? w=o.id.c:=f.cells 0 _ rfl;go_upto_region 2 with(go_at_call 219;refine(e _ (b.below d) (h.below d)).mono ?_;rintro l z ⟨rfl,a⟩);have j:=f.below a q;have g:=i.below a m;have u:=zK d a;have B:=g.lt;clear f i d a q m s b e n;have D:z.cell? (w,1)=o.id.k:=j.cells 1 _ rfl;have x:=zA (g.put o).load;go_wp2_with (first|(refine xv (T:=66) (v:=zS o) rfl rfl rfl j.load ?_)|(refine yx (T:=66) (v:=zS o) rfl rfl rfl rfl (zR.store g o) ?_));refine yG (v:= .tuple #[zS o,.bool true]) ?_ rfl ⟨rfl,yo u oa _⟩;have A:=x.o;simp[results,Tryz.results220,asAddr,A]
theorem zpn (X:Nat->Prop) (A:Nat) (K:List (Int×List zQ)) (a:zQ) (w:zC) (h:js w X A K) (V:zv w) (bb:zaQ a)
 (cj:∀w,zv w->Calls zD 88 #[zS a] w fun d j=>d=(zB 0)/\Below w w j) (bd:(qn K a.id.c).length<=100000) (b7:vz (qn K a.id.c)+1=a.id.k) (bY:∀H,(qn K a.id.c).getLast?=some H->H.id.c=a.id.c):
 Calls zD 173 #[A,zS a] w (zpl X A K a w):=by
 have bp:=fun w h V=>zo9 X A K a.id.c w h bd V;have ck:=fun w h V=>zpm X A K a w h bd V oa;have cS:=bb.k0;have cT:=bb.k1;have cK:0<=(a.len:Int):=oa;rw[show vz (qn K a.id.c)=a.id.k - 1 by omega] at bp;have cZ:IntKind.u64.wrap (a.id.k - 1+1)=a.id.k:=og;have cQ:¬a.id.k<a.id.k:=oa;have a4:=zA bb;have cm:=zA b7;have cf:=zA bY;have bM:=zA bd;clear bb b7 bY cK bd;change Calls zD 173 #[A,.agg #[a.id.c,a.id.k,zB a.kind,a.stamp,a.left.c,a.left.k,a.right.c,a.right.k,.string a.text,zB a.v.kind,zB a.v.n,.float .f64 a.v.f,.string a.v.s,.string a.key,a.parent.c,a.parent.k,a.frm.c,a.frm.k,.bool a.frmA,a.til.c,a.til.k,.bool a.tilA]] w _;go_enter Tryz.func173,Tryz.ntmps173;go_upto_region 1 with fail;refine vr a fun be bi ap=> ?_;have bF:=ap.lt;have al:∀f:zM be,zv f.val:=fun f=>(V.below bi).below f.h;have b5:∀f:zM be,js f.val X A K:=fun f=>(h.below bi).below f.h;have M:=aU (ap.cells 0 _ rfl);have cH:=aU (ap.cells 1 _ rfl);have l1:∀j,(∃f:zM be,j=f.val)->(loadVar 66 w).run zD j= .ok (zS a) j:=by rintro _ ⟨f,rfl⟩;exact zR.load ((f.h.block _ bF).trans ap)
 refine aG ?_;repeat(first|go_big_quiet_skip|(go_big_quiet_want;first|((refine zbs 66 _ _ rfl rfl l1 ?_);go_frame;go_big_quiet_on)|(go_big_quiet_op;first|go_big_quiet_on|go_big_quiet_call ((first|(go_at_call 88;exact xl (cj _ (al _)))|(go_at_call 219;exact xl (bp _ (b5 _) (al _))))))))
 refine aE ?_;intro W' hC' hBW';clear al b5 M cH l1 cj hC' bp;have bn:=zK bi hBW';have a9:=ap.below hBW' bF;clear bi ap hBW' bF be;have b3:=a9.lt;go_upto_region 4 with(first|(refine xv (T:=66) (v:=zS a) rfl rfl rfl a9.load ?_)|(go_at_call 220;refine(ck _ (h.below bn) (V.below bn)).mono ?_;rintro d bl ⟨rfl,bt⟩;have bJ:=a9.below bt b3)|(refine yx (T:=66) (v:=zS a) rfl rfl rfl rfl (zR.store bJ a) ?_));have b4:=zK bn bt;have ba:Below w w (xx bl w a):=yo b4 (zU _) a;have az:zR (xx bl w a) w a:=bJ.put a;obtain⟨w3,bU⟩:=aY (xx bl w a);try simp only[bU] at ba az ⊢
 clear bU bn bt a9 bJ b3 b4 ck bl W';obtain⟨i,aq,hF⟩:=h;have ae:=aq.keep fun b hb=>ba.block b (aq.foot_lt b hb);have aw:=zA hF;have ag:=zA fun b (d:(zeu i K a.id.c).ownBlock=some b)=>hF b (aq.krow_foot d);have bc:=fun b (d:(zeu i K a.id.c).ownBlock=some b)=>xJ (aq.krow a.id.c) b d;clear hF;have cg:=az.lt;have cy:A<w3:=aL ae.st;have an:=ae.krow a.id.c;have ay:=zA (ae.goodL a.id.c);obtain⟨v,bC⟩:=aY (zeu i K a.id.c);have af:=zA bC;obtain⟨n,bq⟩:=aY (qn K a.id.c);have br:=fun f:zM w3=>(ae.below f.h).lookRow a.id.c;rw[bC] at br an ag bc;rw[bq] at an ay cm cf bM;have bS:=zA bq;clear bC bq;obtain⟨F,R⟩:=aY n.length;obtain⟨p,L,hv⟩:∃p cz,v= .slice p F cz:=ys (by rw[<-R];exact an);have ac:=aU (aC ae.st 0);have M:=aU (az.cells 0 _ rfl);have aa:=zA hv;have am:=zA R;rw[hv] at br;clear hv R;go_upto_region 6 with fail;refine aQ ?_;intro W' hC' hBW';have l:=ae.below hBW';have r:=az.below hBW' cg;have m:=zK ba hBW';have q:zG 0 66 22 ze W' v n:=xI an fun b d=>hBW'.block b (xJ an b d);clear ae az ba hBW' br ac M cg cy hC' an w3;obtain⟨c,rfl⟩:=aX W';have x:=r.lt;have W:A<c:=aL l.st;have Y:¬v.ownBlock=some w.heap.size:=fun d=>by have:=bc _ d;omega
 have b0:¬v.ownBlock=some A:=fun d=>by obtain⟨ao,C⟩:=zad (show zG 0 66 22 ze c v n from q) d;exact zo3 C l.st ol rfl
 have cP:=zA bc;clear bc;rcases zeM n with D|⟨a2,g,D⟩
 ·have cx:¬(1:Int)<=(F:Int):=by have:F=0:=(by rw[<-am.o,D];rfl);omega
  have cB:F<=100000:=by rw[<-am.o];exact bM.o
  clear D;go_upto_region 8 with fail;refine aQ ?_;intro W' hC' hBW';replace l:=l.below hBW';replace r:=r.below hBW' x;replace m:=zK m hBW';replace q:zG 0 66 22 ze W' v n:=xI q fun b d=>hBW'.block b (xJ q b d);clear x W hC' hBW' c;obtain⟨c,rfl⟩:=aX W';have x:=r.lt;have W:A<c:=aL l.st;have R:=am.o;have I:=aa;obtain⟨bs,bB,bx,bD,bE⟩:=yI znL;have ac:∀f:zI (fun b=>v.ownBlock=some b) c,f.val.cell? A=some (.map (some i.m)):=zI.cell W b0 (by simp[World.cell?,l.st]);have M:∀f:zI (fun b=>v.ownBlock=some b) c,f.val.cell? w=a.id.c:=zI.cell x Y (r.cells 0 _ rfl);have l1:∀j,(∃f:zI (fun b=>v.ownBlock=some b) c,j=f.val)->(loadVar 66 w).run zD j= .ok (zS a) j:=by rintro _ ⟨f,rfl⟩;exact zR.load ((f.h.block _ x Y).trans r)
  have a5:(fun b=>v.ownBlock=some b)=fun b=>(Value.slice p F L).ownBlock=some b:=by rw[I.o]
  rw[a5] at ac M l1;clear a5;go_upto_region 10 with fail;refine xU 11 [0,1,2,3,4,5,6,7,8] [9,10,11] (fun b=>(Value.slice p F L).ownBlock=some b) (aM ?_);refine aR ?_;refine aS ?_;go_wp2_with (refine zc9 a rfl _ rfl rfl ?_);refine⟨zI.to (((Mods.refl _ c).alloc (.cells (ze a).toArray 66)).drew),?_⟩;have a0:((c.alloc (.cells (ze a).toArray 66)).drew).ownsRow 0 66 22 (.slice p F L) (F) (n.flatMap ze):=by have h1:zG 0 66 22 ze c v n:=q;have G:=xI (w':=(c.alloc (.cells (ze a).toArray 66)).drew) h1 fun b d=>((zf c c).alloc (zU _) _).drew.block b (xJ h1 b d);rw[R,I.o] at G;exact G
  refine aS ?_;refine jL _ rfl _ _ 36 (by rfl) 0 66 bs (zS zi) 22 200 zfM bB bx bD bE (by rfl) ol _ (F) (n.flatMap ze) (by rfl) a0 c 1 1 (ze a) (by rfl) (by rfl) ?tc1 ?tc2 ?tc3 ?tc4 ?tc5 ?_;case tc1=>exact fun bm g bH=>oK
  case tc2=>intro g ax;simp[ze] at ax;rcases ax with h|h|h|h|h|h|h|h|h|h|h|h|h|h|h|h|h|h|h|h|h|h<;> (subst h;rfl)
  case tc3=>unfold maxLen;omega
  case tc4=>omega
  case tc5=>exact xO _
  intro v' t a8 a6 bR aP;go_frame;have s:Mods (fun b=>(Value.slice p F L).ownBlock=some b) c t:=((Mods.refl _ c).alloc _).drew.grown a6 (fun b hb=> .inl hb);refine⟨fun _=>zI.to s,?_⟩;have bw:¬(Value.slice p F L).ownBlock=some i.m:=by intro d;have h1:v.ownBlock=some i.m:=(by rw[I.o];exact d);obtain⟨ao,C⟩:=zad (show zG 0 66 22 ze c v n from q) h1;exact l.map.ne_cells C rfl
  have ai:zq qm t i.m (K.map fun p=>(p.1,i.row p.1)):=l.map.blk (s.block _ l.map.lt bw);obtain⟨J,au,a1⟩:=zb8 zet (T:=202) (E:=36) oe ai a.id.c v';unfold qm at au;refine aS ?_;go_wp2;refine xE ?_;have cu:i.m<c:=l.map.lt;have cF:i.m<w:=aq.map.lt;have N:∀k,k<c.heap.size->k≠i.m->v.ownBlock≠some k->(xF t i.m J).heap[k]?=c.heap[k]?:=fun k y O a7=>(qV O).trans (s.block k y (by rw[<-I.o];exact a7));have aZ:zG 0 66 22 ze (xF t i.m J) v' (n++[a]):=by have h1:zG 0 66 22 ze t v' (n++[a]):=(by unfold zG;rw[xY,qe,R];simpa using a8);refine xI h1 fun b d=>qV (fun bI=> ?_);obtain⟨ao,C⟩:=zad h1 d;exact ai.ne_cells C bI.symm
  have ah:v'.ownBlock=v.ownBlock\/∀b,v'.ownBlock=some b->c.heap.size<=b:=by
   rcases aP with e|e
   ·exact .inl (by rw[e,I.o])
   ·refine .inr fun b d=> ?_;rw[e] at d;cases d;show c.heap.size<=(c.alloc _).heap.size;simp
  have ab:=l.set a.id.c (n++[a]) v' (fun k h1 G ar=>N k h1 G (by rw[<-af.o];exact ar)) a1 aZ (by rw[af.o];exact ah) (fun H B=>by
   rcases xX.1 B with h|h
   ·exact ay.o H h
   ·rw[j0.1 h];exact a4.o)
  have ad:zR (xF t i.m J) w a:=(N _ x oa Y).trans r;have a3:Mods X w (xF t i.m J):=⟨s.os.trans m.os,s.tape.trans m.tape,s.output.trans m.output,by have h1:=m.size;have G:=s.size;rw[vH];omega,fun k y Z=>(N k (zg y m.size) (fun d=>Z (d ▸ aw.o _ (.inr (.inl rfl)))) (fun d=>Z (ag.o k d))).trans (m.block k y)⟩;have bO:=m.size;obtain⟨aj,aH⟩:=aY (xF t i.m J);rw[aH] at ad a3 ab ⊢;have bG:=zA ab;have bz:=zA ah;clear aH au a1 ai s a8 a6 bR aP N m r l ac M l1 x W a0 aZ ah ab;have cA:=ad.lt;go_wp2_with (first|(refine xv (T:=66) (v:=zS a) rfl rfl rfl ad.load ?_)|(refine zc9 a rfl _ rfl rfl ?_));go_ret;have av:Below aj aj (aj.alloc (.cells (ze a).toArray 66)):=aA;refine⟨_,rfl,n++[a],⟨_,bG.o.below av,fun b hb=> ?_⟩,by simp[vz],fun H B=>by simp at B;rw[B],by rw[bS.o];simp,a3.alloc _⟩;rcases hb.set with h1|h1
  ·exact .inl (aw.o b h1)
  ·rcases bz.o with e|e
   ·exact .inl (ag.o b (by rw[<-e];exact h1))
   ·exact .inr (zk bO (e b h1))
 ·obtain⟨o,bg⟩:=aX a2.length;have cp:F=o+1:=by rw[<-am.o,D,bg];simp
  subst cp;rw[zcn] at D;have cB:o<=100000:=by have:=bM.o;rw[am.o] at this;omega
  have cx:(0:Int)<=(o:Int):=oa;have bu:zaQ g:=ay.o g (by rw[D];simp);have bQ:g.id.c=a.id.c:=cf.o g (by rw[D];simp);have bL:a.id.k=g.id.k+g.len:=by have:=cm.o;rw[D] at this;simp[vz,zQ.rng] at this;omega
  have bh:=fun w V=>zrG g a w bu a4.o bQ.symm bL V;obtain⟨e,cw⟩:∃e,p=some ⟨e,0,none⟩:=by
   have h1:=q;rw[aa.o] at h1;rcases h1.2 with⟨d,ci⟩|⟨e,L,ao,d,_⟩
   ·rw[D] at ci;simp at ci
   ·simp only[ve] at d;exact⟨_,d.1⟩
  subst cw;have bW:∀j,zG 0 66 22 ze j v n->y8 j e (o*22) g:=fun j a7=>by
   have b8:=zG.slice (k:=22) (enc:=ze) (fun _=>rfl) a7;rw[aa.o] at b8;rcases b8 with⟨d,_⟩|⟨b,cU,cY,d,_,_,cs⟩
   ·cases d
   ·simp only[ve,jC,zco] at d;obtain⟨⟨rfl,rfl,_⟩,_⟩:=d;intro bX cv cq;have:=cs o g (by rw[D,bg];simp) bX cv cq;simpa using this
  have ch:=zA bW;have cG:qP _:=zA bh;have ca:=zA bu;have cE:=zA bL;have bP:=zA D;have bT:=zA bg;have cn:=zA bQ;clear D bg bW bu bQ bL;have ak:v.ownBlock=some e:=by rw[aa.o];rfl
  have bA:e<c.heap.size:=xJ q e ak;obtain⟨cD,bK⟩:=aY (zd4 g a);rw[bK] at bh;have cI:=zA bK;clear bK;have cX:(o:Int)+1 - 1=o:=oa;go_upto_region 8 with fail;have al:∀f:zM c,zv f.val:=fun f=>(V.below m).below f.h;have l1:∀j,(∃f:zM c,j=f.val)->(loadVar 66 w).run zD j= .ok (zS a) j:=by rintro _ ⟨f,rfl⟩;exact zR.load ((f.h.block _ x).trans r)
  have b6:∀j,(∃f:zM c,j=f.val)->(loadVar 66 ⟨e,o*22,none⟩).run Tryz.prog j= .ok (zS g) j:=by rintro _ ⟨f,rfl⟩;exact zdg (ch.o _ (xI q fun b d=>f.h.block b (xJ q b d)))
  refine aG ?_;repeat(first|go_big_quiet_skip|(go_big_quiet_want;first|((first|refine zbs 66 _ _ rfl rfl l1 ?_|refine zbs 66 _ _ rfl rfl b6 ?_);go_frame;go_big_quiet_on)|(go_big_quiet_op;first|go_big_quiet_on|go_big_quiet_call ((go_at_call 221;exact xl (bh _ (al _)))))))
  refine aE ?_;intro W' hC' hBW';replace l:=l.below hBW';replace r:=r.below hBW' x;replace m:=zK m hBW';replace q:zG 0 66 22 ze W' v n:=xI q fun b d=>hBW'.block b (xJ q b d);clear x W hC' hBW' al l1 b6 bh cG bA c;obtain⟨c,rfl⟩:=aX W';have x:=r.lt;have W:A<c:=aL l.st;have bA:e<c.heap.size:=xJ q e ak;cases cD
  ·have R:=am.o;have I:=aa;obtain⟨bs,bB,bx,bD,bE⟩:=yI znL;have ac:∀f:zI (fun b=>v.ownBlock=some b) c,f.val.cell? A=some (.map (some i.m)):=zI.cell W b0 (by simp[World.cell?,l.st]);have M:∀f:zI (fun b=>v.ownBlock=some b) c,f.val.cell? w=a.id.c:=zI.cell x Y (r.cells 0 _ rfl);have l1:∀j,(∃f:zI (fun b=>v.ownBlock=some b) c,j=f.val)->(loadVar 66 w).run zD j= .ok (zS a) j:=(by rintro _ ⟨f,rfl⟩;exact zR.load ((f.h.block _ x Y).trans r));have a5:(fun b=>v.ownBlock=some b)=fun b=>(Value.slice (some e) (o+1) L).ownBlock=some b:=(by rw[I.o]);rw[a5] at ac M l1;clear a5;go_upto_region 10 with fail;refine xU 11 [0,1,2,3,4,5,6,7,8] [9,10,11] (fun b=>(Value.slice (some e) (o+1) L).ownBlock=some b) (aM ?_);refine aR ?_;refine aS ?_;go_wp2_with (refine zc9 a rfl _ rfl rfl ?_);refine⟨zI.to (((Mods.refl _ c).alloc (.cells (ze a).toArray 66)).drew),?_⟩;have a0:((c.alloc (.cells (ze a).toArray 66)).drew).ownsRow 0 66 22 (.slice (some e) (o+1) L) (o+1) (n.flatMap ze):=(by have h1:zG 0 66 22 ze c v n:=q;have G:=xI (w':=(c.alloc (.cells (ze a).toArray 66)).drew) h1 fun b d=>((zf c c).alloc (zU _) _).drew.block b (xJ h1 b d);rw[R,I.o] at G;exact G);refine aS ?_;refine jL _ rfl _ _ 36 (by rfl) 0 66 bs (zS zi) 22 200 zfM bB bx bD bE (by rfl) ol _ (o+1) (n.flatMap ze) (by rfl) a0 c 1 1 (ze a) (by rfl) (by rfl) ?tc1 ?tc2 ?tc3 ?tc4 ?tc5 ?_;case tc1=>exact fun bm g bH=>oK
   case tc2=>intro g ax;simp[ze] at ax;rcases ax with h|h|h|h|h|h|h|h|h|h|h|h|h|h|h|h|h|h|h|h|h|h<;> (subst h;rfl)
   case tc3=>unfold maxLen;omega
   case tc4=>omega
   case tc5=>exact xO _
   intro v' t a8 a6 bR aP;go_frame;have s:Mods (fun b=>(Value.slice (some e) (o+1) L).ownBlock=some b) c t:=((Mods.refl _ c).alloc _).drew.grown a6 (fun b hb=> .inl hb);refine⟨fun _=>zI.to s,?_⟩;have bw:¬(Value.slice (some e) (o+1) L).ownBlock=some i.m:=(by intro d;have h1:v.ownBlock=some i.m:=(by rw[I.o];exact d);obtain⟨ao,C⟩:=zad (show zG 0 66 22 ze c v n from q) h1;exact l.map.ne_cells C rfl);have ai:zq qm t i.m (K.map fun p=>(p.1,i.row p.1)):=l.map.blk (s.block _ l.map.lt bw);obtain⟨J,au,a1⟩:=zb8 zet (T:=202) (E:=36) oe ai a.id.c v';unfold qm at au;refine aS ?_;go_wp2;refine xE ?_;have cu:i.m<c:=l.map.lt;have cF:i.m<w:=aq.map.lt;have N:∀k,k<c.heap.size->k≠i.m->v.ownBlock≠some k->(xF t i.m J).heap[k]?=c.heap[k]?:=fun k y O a7=>(qV O).trans (s.block k y (by rw[<-I.o];exact a7));have aZ:zG 0 66 22 ze (xF t i.m J) v' (n++[a]):=(by have h1:zG 0 66 22 ze t v' (n++[a]):=(by unfold zG;rw[xY,qe,R];simpa using a8);refine xI h1 fun b d=>qV (fun bI=> ?_);obtain⟨ao,C⟩:=zad h1 d;exact ai.ne_cells C bI.symm);have ah:v'.ownBlock=v.ownBlock\/∀b,v'.ownBlock=some b->c.heap.size<=b:=by
    rcases aP with e|e
    ·exact .inl (by rw[e,I.o])
    ·refine .inr fun b d=> ?_;rw[e] at d;cases d;show c.heap.size<=(c.alloc _).heap.size;simp
   have ab:=l.set a.id.c (n++[a]) v' (fun k h1 G ar=>N k h1 G (by rw[<-af.o];exact ar)) a1 aZ (by rw[af.o];exact ah) (fun H B=>by
    rcases xX.1 B with h|h
    ·exact ay.o H h
    ·rw[j0.1 h];exact a4.o)
   have ad:zR (xF t i.m J) w a:=(N _ x oa Y).trans r;have a3:Mods X w (xF t i.m J):=⟨s.os.trans m.os,s.tape.trans m.tape,s.output.trans m.output,by have h1:=m.size;have G:=s.size;rw[vH];omega,fun k y Z=>(N k (zg y m.size) (fun d=>Z (d ▸ aw.o _ (.inr (.inl rfl)))) (fun d=>Z (ag.o k d))).trans (m.block k y)⟩;have bO:=m.size;obtain⟨aj,aH⟩:=aY (xF t i.m J);rw[aH] at ad a3 ab ⊢;have bG:=zA ab;have bz:=zA ah;clear aH au a1 ai s a8 a6 bR aP N m r l ac M l1 x W a0 aZ ah ab;have cA:=ad.lt;go_wp2_with (first|(refine xv (T:=66) (v:=zS a) rfl rfl rfl ad.load ?_)|(refine zc9 a rfl _ rfl rfl ?_));go_ret;have av:Below aj aj (aj.alloc (.cells (ze a).toArray 66)):=aA;refine⟨_,rfl,n++[a],⟨_,bG.o.below av,fun b hb=> ?_⟩,by simp[vz],fun H B=>by simp at B;rw[B],by rw[bS.o];simp,a3.alloc _⟩;rcases hb.set with h1|h1
   ·exact .inl (aw.o b h1)
   ·rcases bz.o with e|e
    ·exact .inl (ag.o b (by rw[<-e];exact h1))
    ·exact .inr (zk bO (e b h1))
  ·go_upto_region 9 with fail;obtain⟨bZ,bj⟩:=aY a.text;obtain⟨cb,bo⟩:=aY g.text;have b2:c.cell? (w,8)=some (.string bZ):=(by rw[<-bj];exact r.cells 8 _ rfl);have ce:c.cell? (e,o*22+8)=some (.string cb):=(by rw[<-bo];exact ch.o c q 8 _ rfl);have co:=zA bj;have cM:=zA bo;have cR:cb.size<=1000000000000:=(by rw[<-bo];exact ca.o.size);have cW:bZ.size<=1000000000000:=(by rw[<-bj];exact a4.o.size);clear bj bo;have cr:=aV b2;have cN:=aV ce;obtain⟨ao,C⟩:=zad (show zG 0 66 22 ze c v n from q) ak;have ct:c.frozen? (e,o*22+8)=false:=(by simp[World.frozen?,C]);refine xU 8 [0,1,2,3,4,5,6,7] [8,9,10] zX (aM ?_);refine aR ?_;refine aS ?_;go_wp2_with fail;refine aS ?_;go_wp2_with fail;refine aS ?_;go_wp2_with fail;refine xE ?_;obtain rfl:=co.o;obtain rfl:=cM.o;have O:∀k,k≠e->((c.setCell (e,o*22+8) (.string (g.text++a.text))).drew).heap[k]?=c.heap[k]?:=fun k y=>zZ _ _ _ _ y;have b1:zG 0 66 22 ze ((c.setCell (e,o*22+8) (.string (g.text++a.text))).drew) v (a2++[{g with text:=g.text++a.text}]):=(by have cl:zG 0 66 22 ze c v (a2++[g]):=(by rw[<-bP.o];exact q);rw[aa.o] at cl ⊢;have bf:=zG.set (k:=22) (enc:=ze) (i:=8) (z:={g with text:=g.text++a.text}) (x:=g) (u:= .string (g.text++a.text)) (fun _=>rfl) cl (j:=o) (by rw[bT.o];simp) ol rfl;rw[bT.o] at bf ⊢;rw[zdU _ _ (zU _)] at bf;simp only[zcp,zg5] at bf;exact bf);have bv:=zpk ca.o a4.o cI.o cE.o;have cJ:e≠i.m:=fun d=>l.map.ne_cells C d.symm;have bV:zq qm ((c.setCell (e,o*22+8) (.string (g.text++a.text))).drew) i.m (xT (K.map fun p=>(p.1,i.row p.1)) a.id.c v):=by
    have cC:xD (K.map fun p=>(p.1,i.row p.1)) a.id.c=some v:=by
     rw[zlG];have h1:=af.o;unfold zeu at h1;cases y:jG K a.id.c with
     |none=>rw[y] at h1;rw[aa.o] at h1;cases h1
     |some cV=>rw[y] at h1;exact congrArg some h1
    rw[zwO (by rw[jk];exact l.keys) cC];exact l.map.blk (O _ cJ.symm)
   have bN:=l.set a.id.c (a2++[{g with text:=g.text++a.text}]) v (fun k h1 G ar=>O k (fun d=>ar (by rw[af.o,ak,d]))) bV b1 (by rw[af.o];exact .inl rfl) (fun H B=>by
    rcases xX.1 B with h|h
    ·exact ay.o H (by rw[bP.o];exact List.mem_append_left _ h)
    ·rw[j0.1 h];exact bv.1)
   have cd:zR ((c.setCell (e,o*22+8) (.string (g.text++a.text))).drew) w a:=(O _ (fun d=>Y (by rw[ak,d]))).trans r;have b9:Mods X w ((c.setCell (e,o*22+8) (.string (g.text++a.text))).drew):=⟨m.os,m.tape,m.output,by have:=m.size;simpa using this,fun k y Z=>(O k (fun d=>Z (d ▸ ag.o e ak))).trans (m.block k y)⟩;have cL:=zA bv.2;obtain⟨w6,cc⟩:=aY ((c.setCell (e,o*22+8) (.string (g.text++a.text))).drew);rw[cc] at bN cd b9 ⊢;have cO:=zA bN;clear cc O b1 bV bN bv q l r m b2 ce cr cN C ct x W bA c;go_wp2_with (first|(refine xv (T:=66) (v:=zS a) rfl rfl rfl cd.load ?_)|(refine zc9 a rfl _ rfl rfl ?_));go_ret;have av:Below w6 w6 (w6.alloc (.cells (ze a).toArray 66)):=aA;refine⟨_,rfl,a2++[{g with text:=g.text++a.text}],⟨_,cO.o.below av,fun b hb=> ?_⟩,?_,fun H B=> ?_,?_,b9.alloc _⟩
   ·rcases hb.set with h1|h1
    ·exact .inl (aw.o b h1)
    ·exact .inl (ag.o b h1)
   ·simp only[vz,zeN];rw[cL.o]
   ·rw[zeN] at B;cases B;exact cn.o
   ·rw[bS.o,bP.o];simp
theorem zmJ {P:Program}{K T E:TypeId}{b:Type} [DecidableEq b] {enc:b->Value}(i:zci P K enc) (h:P.underlying T=some (.map K E)){w:zC}{d:Array Oper}{e:List Oper}{o:Oper}{a:Act}{Q:Exit->Act->World->Prop}(q:o.guard=none) (x f z:Operand)
 (p:o.op= .mapUpdate T x f z){r:Nat}{k:b}{v:zJ}{l:List (b×Value)}(y:a.eval x= .map (some r)) (n:a.eval f=enc k) (j:a.eval z=v) (g:zq enc w r l)
 (m:∀c,zq enc (xF w r c) r (xT l k v)->wpList P d Q e (a.put o.dst undef) (xF w r c)):wpList P d Q (o::e) a w:=by
 obtain⟨c,t,u⟩:=zb8 i h g k v;refine zdW q fun K s=> ?_;unfold Oper.wp execOp;simp only[p,y,n,j,yU,qI,yY,t];exact s _ _ (m c u)
theorem zdI.m{n:Nat}{W:zC}(h:zdI n W):yE n W [] [] () () true:=⟨h.all,h.at_,h.sq⟩
def sab:ByteArray:=⟨#[97,98]⟩
def ziN(n s:Nat)(W:zC):Prop:=∃a b c,ql n c [a,b] [u71,u72] W/\s<=a/\s<=b/\zG s 256 1 z6 W c [a,b]
theorem qA.mods{n base:Nat}{d G:Nat->Prop}{w w':zC}{S:zE}(j:qA n base d w S)(e:Mods G w w')(g:∀a,d a->a<w.heap.size->¬G a):qA n base d w' S:=by obtain⟨f,l,⟨k,m,b⟩,h,i,hF⟩:=j;exact⟨f,l,⟨k,m,b.keep e.size fun a c=>e.block a (b.foot_lt a c) (g a (hF a c) (b.foot_lt a c))⟩,h,i,hF⟩
theorem qA.below{n base:Nat}{a:Nat->Prop}{w w':zC}{S:zE}(b:qA n base a w S)(c:Below w w w'):qA n base a w' S:=b.mods (G:=fun _=>False) (Mods.of_below c) fun _ _ _ d=>d
theorem qA.lim{n base:Nat}{b:Nat->Prop}{w:zC}{S:zE}(f:qA n base b w S):qA n base (fun a=>b a/\a<w) w S:=by obtain⟨k,i,⟨g,j,c⟩,e,h,hF⟩:=f;exact⟨k,i,⟨g,j,c⟩,e,h,fun a d=>⟨hF a d,c.foot_lt a d⟩⟩
theorem qA.lt{n base:Nat}{b:Nat->Prop}{w:zC}{S:zE}(c:qA n base b w S):n+6<w.heap.size:=by obtain⟨f,e,d,_⟩:=c;exact d.lt
structure xy where
 text:ByteArray
 embed:Bool
 v:zr
def jT(r:xy):Value:= .agg #[.string r.text,.bool r.embed,zB r.v.kind,zB r.v.n,.float .f64 r.v.f,.string r.v.s,()]
def qG(r:Int):xy:=⟨xo [r],false,yO⟩
def jw(a:List (zF×Value))(i:zF):List Int->List (zF×Value)
 | []=>a
 |b::rs=>jw (xT a i (jT (qG b))) ⟨i.c,i.k+1⟩ rs
theorem zmH(i:zF)(r:Int):∀(rs:List Int) (a:List (zF×Value)),jw a i (rs++[r])=xT (jw a i rs) ⟨i.c,i.k+rs.length⟩ (jT (qG r))
 | [],a=>by cases i;simp[jw]
 |b::rs,a=>by have:=zmH ⟨i.c,i.k+1⟩ r rs (xT a i (jT (qG b)));simp only[yD,jw];rw[this];simp only[z7];rw[show i.k+1+(rs.length:Int)=i.k+((rs.length+1:Nat):Int) by push_cast;omega]
theorem zq4(r:Int)(h:yS r):xo [r]=Utf8.encode r:=by apply ziI;rw[zgD (by simpa using h),zpR r h];simp[yC]
def ze5(n base:Nat)(b:Nat->Prop)(kl:List (Int×Value))(wl:List (zF×Value))(s:yN)(st:Int)(S:zE)(c:List (zF×Value))(w:zC)(e:Ending)(w':zC):Prop:=
 e= .returned (.bool true)/\xS n w' kl wl s st/\qA n base (fun a=>b a\/w<=a) w' S/\zq xV w' (n+7) c/\Mods (fun a=>b a\/a=n+7) w w'
theorem dsT {p:Prop}(h:p:=by
 have hto:=HMdt;clear hto;have l1:∀w',(∃t:zI zX W2,w'=t.val)->(loadVar 66 (w.heap.size+1:)).run zD w'= .ok (zS O) w':=by rintro _ ⟨t,rfl⟩;exact zR.load ((t.h.block _ hbl id).trans hbx2)
 refine xU 7 [0,1,2,3,4,5] [6,7,8] zX (aM ?_);refine aR ?_;refine aS ?_;go_wp2_with (go_at_call 153;refine(hlen W2.drew (hT2.below (zf _ _).drew)).mono ?_;rintro e w3 ⟨rfl,hb3'⟩);have hb3:Below W2.heap.size W2 w3:=zK (zf _ _).drew hb3';refine⟨zI.to (Mods.of_below hb3),?_⟩;have hB3:Below w.heap.size w w3:=zK hB2 hb3;have hrn:=hrun w3 (HS.o.below hB3);refine aS ?_;go_wp2_with (go_at_call 222;refine hrn.mono ?_;rintro e w4 ⟨rfl,hS4,hm4⟩);refine aS ?_;go_wp2;refine xE ?_;have hFz:∀b,w.heap.size<=b->¬F b:=fun b hb hf=>by have:=(HFN.o b hf).2.2.2;omega
 have hbx4:zR w4 (w.heap.size+1) O:=(hm4.block _ (by have:=hb3.size;omega) (hFz _ (by omega))).trans (hbx2.below hb3 hbl);have hp4:w4.cell? w=(n+11:):=(xA (w:=w3) (hm4.block w.heap.size (by have:=hb3.size;omega) (hFz _ (zU _)))).trans ((hb3.cell (p:=w) (by show w.heap.size<_;omega)).trans hp2);have hM4:Mods F w w4:=(Mods.of_below hB3).trans hm4;have hd4:=hd.keep fun b g=>hM4.block b (by omega) (fun hf=>by have:=HFN.o b hf;omega);have hu4:=HU.o.blk (hM4.block (n+7) (by omega) (fun hf=>(HFN.o _ hf).2.1 rfl));have hz4:w.heap.size+1<w4.heap.size:=hbx4.lt;have hz34:w.heap.size<=w3.heap.size:=hB3.size;have HS4:=zA hS4;clear p0 d6 z0 z1 z2 z3 z4 z5 l1 hrn hm4 hb3 hb3' hT2 hbl hd2 hX hp2 hbx2 hB2 hlen hZ hlt1 hrun hS4 hB3;have q0:w4.cell? (w.heap.size+1:)=i.c:=hbx4.cells 0 _ (by rw[<-HO.o];rfl);have q1:w4.cell? (w.heap.size+1,1)=i.k:=hbx4.cells 1 _ (by rw[<-HO.o];rfl);have q8:w4.cell? (w.heap.size+1,8)=some (.string (xo rs)):=hbx4.cells 8 _ (by rw[<-HO.o];rfl);go_upto_region 8 with fail;have hI5:((w4.alloc (.cells #[i.c,i.k] 62)).iter (xo rs) 0).heap[w4.heap.size+1]?=some (.stringIter (xo rs) 0):=by have:=World.iter_heap (w4.alloc (.cells #[i.c,i.k] 62)) (xo rs) 0;rwa[qX] at this
 have hB5:Below w4.heap.size w4 ((w4.alloc (.cells #[i.c,i.k] 62)).iter (xo rs) 0):=aA.alloc (by simp) _;have hX5:((w4.alloc (.cells #[i.c,i.k] 62)).iter (xo rs) 0).heap[w4.heap.size]?=some (.cells #[i.c,i.k] 62 (0,0)):=by unfold World.iter;rw[zt,zN (by simp),zt,zP rfl]
 have hz5:((w4.alloc (.cells #[i.c,i.k] 62)).iter (xo rs) 0).heap.size=w4.heap.size+2:=by unfold World.iter;simp
 generalize(w4.alloc (.cells #[i.c,i.k] 62)).iter (xo rs) 0=W5 at hI5 hB5 hX5 hz5 ⊢;clear q0 q1 q8 hbx4;go_loopw [8] (fun _ wx=>∃k:Nat,k<=rs.length/\wx.heap[w4.heap.size+1]?=some (.stringIter (xo rs) (yk rs k))/\wx.heap[w4.heap.size]?=some (.cells #[i.c,(i.k+k:)] 62 (0,0))/\zq xV wx (n+7) (jw ul i (rs.take k))/\Mods (fun b=>b=n+7) w4 wx) (fun _ wx=>match wx.heap[w4.heap.size+1]? with|some (.stringIter _ k)=>(xo rs).size - k|_=>0)
 case atStart=>exact⟨0,by omega,by rw[zlW];exact hI5,by simpa using hX5,by simpa[jw] using hu4.blk (hB5.block _ (by omega)),Mods.of_below hB5⟩
 case round=>
  obtain⟨k,hk,hI,hX,hml,hmx⟩:=hrel;have hzx:=hmx.size;have hXl:=aL hX;have hIl:=aL hI;by_cases hlt:k<rs.length
  ·obtain⟨x,hx⟩:∃x,rs[k]?=some x:=⟨rs[k],xG hlt⟩;have hxo:yS x:=HOK.o x (xn hx);have hel:=zgF rs hlt;have hnx:=fun ty=>run_next_any_at (P:=zD) wr (w4.heap.size+1) (xo rs) (yk rs k) ty hI (by rw[hsz];exact hel);rw[zlV HOK.o hx] at hnx;dsimp only at hnx;rw[<-zgE rs hx] at hnx;have hI3:=iterAt_heap wr (w4.heap.size+1) (xo rs) (yk rs k) (yk rs (k+1)) hI;have hoth:∀b,b≠w4.heap.size+1->(wr.iterAt (w4.heap.size+1) (xo rs) (yk rs (k+1))).heap[b]?=wr.heap[b]?:=fun b hb=>(by simp[World.iterAt,zeT hb]);have hsz3:(wr.iterAt (w4.heap.size+1) (xo rs) (yk rs (k+1))).heap.size=wr.heap.size:=(by simp[World.iterAt]);have hmx3:Mods (fun b=>b=n+7) w4 (wr.iterAt (w4.heap.size+1) (xo rs) (yk rs (k+1))):=⟨hmx.os,hmx.tape,hmx.output,by rw[hsz3];exact hmx.size,fun b hb hs=>(hoth b (by omega)).trans (hmx.block b hb hs)⟩;have hX3:=(hoth w4.heap.size (by omega)).trans hX;have hml3:=hml.blk (hoth (n+7) (by omega));have heo:yk rs (k+1)=yk rs k+(encodeRune x).length:=zgE rs hx;have hep:=(ziJ x).1;generalize wr.iterAt (w4.heap.size+1) (xo rs) (yk rs (k+1))=W6 at hnx hI3 hmx3 hX3 hml3 hsz3;have hxz:((x.toNat:Nat):Int)=x:=(by have:0<=x:=(by rcases hxo with h|h<;> omega);omega);rw[hxz] at hnx;have HI:=zA hI;have HX:=zA hx;have HXO:=zA hxo;have HEO:=zA heo;clear hoth hI hX hml hmx hx hxo heo hxz;go_upto_region 10 with fail;have hXl3:=aL hX3;have y2:W6.cell? w=(n+11:):=(xA (w:=w4) (hmx3.block w.heap.size (by omega) (by omega))).trans hp4;have y7:W6.cell? (n+11,7)=some (.map (some (n+7))):=(xA (w:=w4) (hmx3.block (n+11) hd4.lt (by omega))).trans (hd4.cell 7 _ rfl);have s0:=aV y2;have s7:=aV y7;have i0:=aD hX3 0;have i1:=aD hX3 1;refine xU 8 [0,1,2,3,4,5,6,7] [8] zX (aM ?_);refine aR ?_;refine aS ?_;refine zmJ vb (T:=109) (E:=53) (by kernel_rfl) rfl _ _ _ rfl (k:=⟨i.c,i.k+k⟩) (v:=jT (qG x)) rfl rfl (by unfold jT qG;dsimp only;rw[zq4 x HXO.o];rfl) (hml3.blk (w':=W6.drew) rfl) ?_;intro ob hkey;go_wp2;refine xE ?_;have hoth:∀b,b≠n+7->(xF W6.drew (n+7) ob).heap[b]?=W6.heap[b]?:=fun b hb=>qV (w:=W6.drew) hb;have hsz7:(xF W6.drew (n+7) ob).heap.size=W6.heap.size:=vH _ _ _;have hm7:Mods (fun b=>b=n+7) w4 (xF W6.drew (n+7) ob):=⟨hmx3.os,hmx3.tape,hmx3.output,by rw[hsz7];exact hmx3.size,fun b hb hs=>(hoth b hs).trans (hmx3.block b hb hs)⟩;have hX7:=(hoth w4.heap.size (by omega)).trans hX3;have hI7:=(hoth (w4.heap.size+1) (by omega)).trans hI3;generalize xF W6.drew (n+7) ob=W7 at hkey hoth hsz7 hm7 hX7 hI7 ⊢;clear s0 s7 i0 i1 hmx3 hX3 hI3 hml3 hoth y2 y7 hnx;have c1:=aC hX7 1;have f1:W7.frozen? (w4,1)=false:=(by simp[World.frozen?,hX7]);have hkw:IntKind.u64.wrap (i.k+(k:Int)+1)=i.k+((k:Int)+1):=(by simp[IntKind.wrap,IntKind.bits,IntKind.signed];omega);go_wp2;have hX8:(W7.setCell (w4,1) (i.k+((k:Int)+1):)).heap[w4.heap.size]?=some (.cells #[i.c,(i.k+((k:Int)+1):)] 62 (0,0)):=(by simp[World.setCell,zu,hX7]);have hI8:(W7.setCell (w4,1) (i.k+((k:Int)+1):)).heap[w4.heap.size+1]?=some (.stringIter (xo rs) (yk rs (k+1))):=(zZ _ _ _ _ (by show ¬w4.heap.size+1=w4.heap.size;omega)).trans hI7;have hM8:Mods (fun b=>b=n+7) w4 (W7.setCell (w4,1) (i.k+((k:Int)+1):)):=hm7.setC (.inr (zU _)) _;have hm8:=hkey.blk (w':=W7.setCell (w4,1) (i.k+((k:Int)+1):)) (zZ _ _ _ _ (by show ¬n+7=w4.heap.size;omega));have htk:rs.take (k+1)=rs.take k++[x]:=(by rw[vg,HX.o];rfl);have htl:(rs.take k).length=k:=(by simp;omega);refine⟨⟨k+1,by omega,hI8,by push_cast;exact hX8,by rw[htk,zmH,htl];exact hm8,hM8⟩,?_⟩;rw[hI8,HI.o];dsimp only;have:=HEO.o;have:=zgF rs hlt;omega
  ·obtain rfl:k=rs.length:=(by omega);have hnx:=fun ty=>run_next_end_at (P:=zD) wr (w4.heap.size+1) (xo rs) (yk rs rs.length) ty hI (by rw[zlX,<-hsz];omega);have HML:=zA hml;clear hX hml hI;go_wp2;go_ret;have hml:=HML.o;rw[qJ] at hml;refine⟨rfl,hd4.keep fun b g=>hmx.block b (by have:=hd4.lt;omega) (by omega),?_,hml,(hM4.mono fun b g=> .inl g).trans (hmx.mono fun b g=> .inr g)⟩;have h9:=HS4.o.mods hmx (fun b hf hl=>by
    rcases hf with hf|hf
    ·exact(HFN.o b hf).2.1
    ·omega)
   obtain⟨L,D,g1,g2,g3,g4⟩:=h9;exact⟨L,D,g1,g2,g3,fun b hb=>(g4 b hb).imp id fun h=>by omega⟩):p:=h
theorem dsA {p:Prop}(h:p:=by
 go_enter Tryz.func174,Tryz.ntmps174;go_upto_region 1 with fail;generalize hW:World.alloc _ _=W;obtain⟨hB,k1,k2,-⟩:=aJ hW;have hbx:zR W (w.heap.size+1) O:=k2;have hp0:=aC k1 0;clear hW k1 k2;have q0:W.cell? (w.heap.size+1:)=i.c:=hbx.cells 0 _ (by rw[<-HO.o];rfl);have q1:W.cell? (w.heap.size+1,1)=i.k:=hbx.cells 1 _ (by rw[<-HO.o];rfl);have q2:=hbx.cells 2 _ HK2.o;have q4:W.cell? (w.heap.size+1,4)=l.c:=hbx.cells 4 _ (by rw[<-HO.o];rfl);have q5:W.cell? (w.heap.size+1,5)=l.k:=hbx.cells 5 _ (by rw[<-HO.o];rfl);have q6:W.cell? (w.heap.size+1,6)=r.c:=hbx.cells 6 _ (by rw[<-HO.o];rfl);have q7:W.cell? (w.heap.size+1,7)=r.k:=hbx.cells 7 _ (by rw[<-HO.o];rfl);have hlt1:w.heap.size+1<W.heap.size:=hbx.lt;first
  |(have hto:=HMdt;clear hto;go_upto_region 4 with fail)
  |(have hto:=HMde;clear hto;go_upto_region 14 with fail)
 generalize hW2:World.alloc _ _=W2;obtain⟨h1,hX,hZ⟩:=aF hW2;have hB2:=zK hB h1;have hbx2:=hbx.below h1 hbx.lt;have hp2:=(h1.cell (aI hp0)).trans hp0;clear hW2 h1 q0 q1 q2 q4 q5 q6 q7 hp0 hbx hB;generalize W.heap.size=Z at hX hZ hlt1 ⊢;have hd2:=hd.keep fun b g=>hB2.block b (by omega);have hbl:=hbx2.lt;have p0:=aV hp2;have d6:∀t:zI zX W2,t.val.cell? (n+11,6)=(n+6:):=zI.cell hd2.lt id (hd2.cell 6 _ rfl);have z0:=aD hX 0;have z1:=aD hX 1;have z2:=aD hX 2;have z3:=aD hX 3;have z4:=aD hX 4;have z5:=aD hX 5;have hT2:=hT.below hB2;first
  |exact dsT
  |exact dsE):p:=h
theorem zq6 (n base:Nat) (F:Nat->Prop) (S:zE) (kl:List (Int×Value)) (wl:List (zF×Value)) (m:yN) (st:Int) (ul:List (zF×Value)) (i l r:zF) (rs:List Int) (w:zC) (hd:xS n w kl wl m st) (hs:qA n base F w S) (f:zq xV w (n+7) ul) (hT:zv w)
 (c:∀r∈rs,yS r) (h1:1<=rs.length) (s:rs.length<=4096) (k:∀b,F b->n+4<=b/\b≠n+7/\b≠n+11/\b<w.heap.size) (t:1<=i.k/\i.k+rs.length<=9007199254740992)
 (g:S.may ⟨i,l,r⟩=true) (d:∀j:Nat,j<rs.length->(⟨i.c,i.k+j⟩:zF).rightB=true/\S.find ⟨i.c,i.k+j⟩=none) (o:S.l.length+rs.length<=50000):
 Calls zD 174 #[(n+11:),zS (zl i l r (xo rs))] w (ze5 n base F kl wl m st (S.insN ⟨i,l,r⟩ rs.length) (jw ul i rs) w):=by
 have hsz:(xo rs).size=(yC rs).length:=zds c;have q:=(zey rs).2;have p:=hd.lt;have HU:=zA f;have HS:=zA hs;have HFN:=zA k;have HOK:=zA c;have hrun:=fun w h=>zos n base F S ⟨i,l,r⟩ rs.length w h g h1 (by show(rs.length:Int)<=9007199254740991 - i.k+1;omega) d o;obtain⟨O,a⟩:=aY (zl i l r (xo rs));have hlen:∀w,zv w->Calls zD 153 #[zS O] w fun e w'=>e=(zB rs.length)/\Below w w w':=fun w hT=>by have:=zec O w (by rw[<-a];show(xo rs).size<_;omega) hT;rwa[show(O.len:Nat)=rs.length by rw[<-a,zdG,(zkL c).1]] at this
 rw[a];have HO:=zA a;clear a c hs f g d k;change Calls zD 174 #[(n+11:),.agg #[O.id.c,O.id.k,zB O.kind,O.stamp,O.left.c,O.left.k,O.right.c,O.right.k,.string O.text,zB O.v.kind,zB O.v.n,.float .f64 O.v.f,.string O.v.s,.string O.key,O.parent.c,O.parent.k,O.frm.c,O.frm.k,.bool O.frmA,O.til.c,O.til.k,.bool O.tilA]] w _;have HK2:=zA (show(ze O)[2]?=(zB 1) by rw[<-HO.o];rfl);have HMdt:=trivial;exact dsA
end Go.Proofs.YtimlgcodecgecaaGreatDoor
