/- Walks: edit.Make around made that makes an update, wherever it lays it. -/
import Derived.Test.YtimlgcodecgecaaGreatDoorZ38
import Derived.Laws.IdiomRangeMap
import Derived.Laws.OwnMore
set_option maxRecDepth 100000
set_option maxHeartbeats 20000000
set_option linter.all false
namespace Go.Proofs.YtimlgcodecgecaaGreatDoor
open Go.RowKit Go.Lib
def zba(Q:Value->Value->World->Prop)(w:zC)(e:Ending)(w':zC):Prop:=
 ∃(b:Option Addr) (a d:Nat) (c:Option Addr) (f g:Nat),e= .returned (.tuple #[.agg #[.slice b a d,.slice c f g],zB 0])/\Below w w w'/\Q (.slice b a d) (.slice c f g) w'
theorem zi2 (w:zC) (Q:Value->Value->World->Prop) (R:∀a b d i,Mods (fun e=>w<=e/\e<w+3) d i->Q a b d->Q a b i) (n:Nat) (c k at_ m:Int) (t:ByteArray) (v:zr) (j:ByteArray) (p:Option Addr) (a b:Nat)
 (F:∀z,Below w w z->w.heap.size+3<=z.heap.size->Calls zD 21 #[(n+11:),c,xc k at_ m t v j (.slice p a b)] z fun C i=>
  ∃(h:Option Addr) (g l:Nat) (u:Option Addr) (o r:Nat),C= .returned (.agg #[.slice h g l,.slice u o r])/\Below z z i/\Q (.slice h g l) (.slice u o r) i):
 Calls zD 7 #[(n+11:),c,xc k at_ m t v j (.slice p a b)] w (zba Q w):=by
 have aa:∀(G:Fn) (first I:Array Value) (w:zC),(Instr.makeFunc G first I).run zD w= .ok (.func G first I) w:=fun _ _ _ _=>rfl;unfold xc at F ⊢;go_enter_defers Tryz.func7,Tryz.ntmps7;have J:Below w w (((w.alloc (.cells #[zB k,zB at_,zB m,.string t,zB v.kind,zB v.n,.float .f64 v.f,.string v.s,.string j,.slice p a b] 33)).alloc (.cells #[(),()] 39)).alloc (.cells #[zB 0] 40)):=aB;have V:xQ (((w.alloc (.cells #[zB k,zB at_,zB m,.string t,zB v.kind,zB v.n,.float .f64 v.f,.string v.s,.string j,.slice p a b] 33)).alloc (.cells #[(),()] 39)).alloc (.cells #[zB 0] 40)) (w.heap.size+1):=by unfold xQ;rw[zt,if_neg oh,zt,if_pos oh]
 have N:za8 0 (((w.alloc (.cells #[zB k,zB at_,zB m,.string t,zB v.kind,zB v.n,.float .f64 v.f,.string v.s,.string j,.slice p a b] 33)).alloc (.cells #[(),()] 39)).alloc (.cells #[zB 0] 40)) (w.heap.size+1+1):=by unfold za8;rw[zt,if_pos oh]
 have ac:(((w.alloc (.cells #[zB k,zB at_,zB m,.string t,zB v.kind,zB v.n,.float .f64 v.f,.string v.s,.string j,.slice p a b] 33)).alloc (.cells #[(),()] 39)).alloc (.cells #[zB 0] 40)).heap.size=w+3:=oh;go_wp2_with (go_at_call 21;refine(F _ J oa).mono ?_;rintro C d ⟨h,g,l,u,o,r,rfl,A,O⟩;have x:=(A.block (w.heap.size+1) oa).trans V;have D:=(A.block (w.heap.size+1+1) oa).trans N;have u0:d.cell? (w.heap.size+1:)=():=(by simp[World.cell?,x]);have u1:d.cell? (w.heap.size+1,1)=():=(by simp[World.cell?,x]);have W:d.frozen? (w.heap.size+1:)=false:=(by simp[World.frozen?,x]);have Z:d.frozen? (w.heap.size+1,1)=false:=(by simp[World.frozen?,x]);have Y:d.cell? (w.heap.size+1+1:)=(zB 0):=oav;have ad:d.frozen? (w.heap.size+1+1:)=false:=(by simp[World.frozen?,D]));have X:=A.size;have q:=zK J A;have s:Mods (fun e=>w<=e/\e<w+3) d (((d.setCell (w.heap.size+1:) (.slice h g l)).setCell (w.heap.size+1,1) (.slice u o r)).setCell (w.heap.size+1+1:) (zB 0)):=
  (((Mods.refl (fun e=>w<=e/\e<w+3) d).setCell (p:=(w.heap.size+1:)) (show _/\_ by constructor<;> (dsimp only;omega)) _).setCell (p:=(w.heap.size+1,1)) (show _/\_ by constructor<;> (dsimp only;omega)) _).setCell (p:=(w.heap.size+1+1:)) (show _/\_ by constructor<;> (dsimp only;omega)) _
 have H:=R _ _ _ _ s O;generalize y:World.setCell _ _ _=B;have K:Below w w B:=by subst y;exact⟨s.os.trans q.os,s.tape.trans q.tape,s.output.trans q.output,zk q.size s.size,fun e E=>(s.block e (zg E q.size) (by omega)).trans (q.block e E)⟩
 have M:B.cell? (w.heap.size+1:)=some (.slice h g l):=oaJ;have L:B.cell? (w.heap.size+1,1)=some (.slice u o r):=oaJ;have T:B.cell? (w.heap.size+1+1:)=(zB 0):=by subst y;simp[World.cell?,World.setCell,zu,D]
 try simp only[y] at H
 clear y;refine zg6 (f:=20) (args:=#[(w.heap.size+1:),(w.heap.size+1+1:)]) oh (by simp[go_sem]) ?_;refine(zq8 (w.heap.size+1:) (w.heap.size+1+1:) _).mono ?_;rintro C ab i ⟨rfl,rfl,rfl⟩;simp[Leaves,settle,results,Tryz.results7,go_sem,M,L,T];exact⟨h,g,l,u,o,r,rfl,K,H⟩
def QR(o:zQ)(d:Nat)(a b:Value)(w':World):Prop:=∃c,a= .slice (some ⟨c,0,none⟩) 1 1/\b= .slice none 0 0/\y8 w' c 0 o/\d<=c/\c<w'.heap.size
theorem zi3 (w:zC) (o:zQ) (n:Nat) (c k at_ m:Int) (t:ByteArray) (v:zr) (g:ByteArray) (p:Option Addr) (a b:Nat)
 (q:∀d,Below w.heap.size w d->Calls Tryz.prog 21 #[.pointer (some ⟨n+11,0,none⟩),.int .u64 c,xc k at_ m t v g (.slice p a b)] d (zi0 o d)):
 Calls Tryz.prog 7 #[.pointer (some ⟨n+11,0,none⟩),.int .u64 c,xc k at_ m t v g (.slice p a b)] w (zba (QR o (w.heap.size+3)) w):=by
 refine zi2 w _ ?_ n c k at_ m t v g p a b ?_
 ·rintro a b x r i ⟨f,rfl,rfl,h,j,e⟩;exact⟨f,rfl,rfl,fun u z s=>(xA (w:=x) (i.block f e oa)).trans (h u z s),j,zg e i.size⟩
 ·intro d l A;refine(q d l).mono ?_;rintro B r ⟨f,rfl,h,j,e,y⟩;exact⟨_,_,_,_,_,_,rfl,y,f,rfl,rfl,h,oa,e⟩
theorem zp2(i l r:zF)(v:zr)(w:zC)(hv:WV v)(aa:zv w):
 Calls zD 159 #[zS (zj i l r v)] w fun au a7=>au= .returned (.tuple #[zS (zj i l r v),.bool true])/\Below w w a7:=by
 have ao:=fun g aa=>zw8 v hv g aa;change Calls zD 159 #[.agg #[(zj i l r v).id.c,(zj i l r v).id.k,zB (zj i l r v).kind,(zj i l r v).stamp,(zj i l r v).left.c,(zj i l r v).left.k,(zj i l r v).right.c,(zj i l r v).right.k,.string (zj i l r v).text,zB (zj i l r v).v.kind,zB (zj i l r v).v.n,.float .f64 (zj i l r v).v.f,.string (zj i l r v).v.s,.string (zj i l r v).key,(zj i l r v).parent.c,(zj i l r v).parent.k,(zj i l r v).frm.c,(zj i l r v).frm.k,.bool (zj i l r v).frmA,(zj i l r v).til.c,(zj i l r v).til.k,.bool (zj i l r v).tilA]] w _;go_enter Tryz.func159,Tryz.ntmps159;go_upto_region 1 with fail;refine zbL (zj i l r v) zi fun g aH ac ah al ap=> ?_;obtain⟨I,ab,ad,O,B,s,C,t,N,q,y,x,u,Z,R,M,L,Y,af,V,J,X⟩:=ecs ac;have ag:=zR.new g zi;have m:Below g g (xx (g.alloc (.cells (ze zi).toArray 66)) g.heap.size {zi with id:=i,kind:=2}):=yo aA (zU _) _;have b:=ag.put {zi with id:=i,kind:=2};have aZ:=zA m;have ak:=zA b;clear m b;go_upto_region 2 with(refine yx (T:=66) (v:=zS {zi with id:=i,kind:=2}) rfl rfl rfl rfl (zR.store ag {zi with id:=i,kind:=2}) ?_);have m:=aZ.o;have b:=ak.o;obtain⟨d,aq⟩:∃d,xx (g.alloc (.cells (ze zi).toArray 66)) g.heap.size {zi with id:=i,kind:=2}=d:=⟨_,rfl⟩;try simp only[aq] at m b ⊢
 clear aq aZ ak ag I ab ad O B s C t N q y x u Z R M L Y af V J X;have W:=ac.below m al;have am:=ah.below m ap;obtain⟨a,a1⟩:=aY g.heap.size;have aj:=zK aH m;have bt:w.heap.size+1<a:=oa;rw[a1] at b ⊢;clear a1 m ac ah aH al ap;obtain⟨I,ab,ad,O,B,s,C,t,N,q,y,x,u,Z,R,M,L,Y,af,V,J,X⟩:=ecs W;have bc:a<d:=b.lt;have bl:d.cell? (a,9)=(zB 0):=b.cells 9 _ rfl;have a9:d.cell? (a,10)=(zB 0):=b.cells 10 _ rfl;have a6:d.cell? (a,11)=some (.float .f64 0):=b.cells 11 _ rfl;have bf:d.cell? (a,12)=some (.string ⟨#[]⟩):=b.cells 12 _ rfl;have bh:=b.f 9;have be:=b.f 10;have bb:=b.f 11;have a8:=b.f 12;have bj:=zbA;go_upto_region 12 with fail;have D:=b.setV v;have E:=(((aj.setCell (p:=(a,9)) oaB (zB v.kind)).setCell (p:=(a,10)) oaB (zB v.n)).setCell (p:=(a,11)) oaB (.float .f64 v.f)).setCell (p:=(a,12)) oaB (.string v.s);have ae:∀k,k≠a->((((d.setCell (a,9) (zB v.kind)).setCell (a,10) (zB v.n)).setCell (a,11) (.float .f64 v.f)).setCell (a,12) (.string v.s)).heap[k]?=d.heap[k]?:=fun k e=>(zZ _ _ _ _ e).trans ((zZ _ _ _ _ e).trans ((zZ _ _ _ _ e).trans (zZ _ _ _ _ e)));have h:zR ((((d.setCell (a,9) (zB v.kind)).setCell (a,10) (zB v.n)).setCell (a,11) (.float .f64 v.f)).setCell (a,12) (.string v.s)) w (zj i l r v):=(ae _ oa).trans W;have H:zR ((((d.setCell (a,9) (zB v.kind)).setCell (a,10) (zB v.n)).setCell (a,11) (.float .f64 v.f)).setCell (a,12) (.string v.s)) (w.heap.size+1) zi:=(ae _ oa).trans am;obtain⟨G,az⟩:=aY ((((d.setCell (a,9) (zB v.kind)).setCell (a,10) (zB v.n)).setCell (a,11) (.float .f64 v.f)).setCell (a,12) (.string v.s));rw[az] at D E h H ⊢;clear ae az b aj W am bc bl a9 a6 bf bh be bb a8 bj I ab ad O B s C t N q y x u Z R M L Y af V J X d;have q:G.cell? (w,9)=(zB v.kind):=h.cells 9 _ rfl;have y:G.cell? (w,10)=(zB v.n):=h.cells 10 _ rfl;have x:G.cell? (w,11)=some (.float .f64 v.f):=h.cells 11 _ rfl;have u:G.cell? (w,12)=some (.string v.s):=h.cells 12 _ rfl;have a3:=h.lt;have an:=H.lt;have av:=D.lt;go_upto_region 13 with(go_at_call 209;refine(ao _ (aa.below E)).mono ?_;rintro au w6 ⟨rfl,z⟩);have aP:=zK E z;have o:=h.below z a3;have K:=H.below z an;have f:=D.below z av;clear z E h H D q y x u a3 an av ao;have A:=o.lt;have ax:=K.lt;have a5:=f.lt;have F:w≠a:=oa;have B:∀n:zI (fun c=>c=a) w6,n.val.cell? (w,4)=l.c:=zI.cell A F (o.cells 4 _ rfl);have s:∀n:zI (fun c=>c=a) w6,n.val.cell? (w,5)=l.k:=zI.cell A F (o.cells 5 _ rfl);have C:∀n:zI (fun c=>c=a) w6,n.val.cell? (w,6)=r.c:=zI.cell A F (o.cells 6 _ rfl);have t:∀n:zI (fun c=>c=a) w6,n.val.cell? (w,7)=r.k:=zI.cell A F (o.cells 7 _ rfl);refine xU 6 [0,1,2,3,4] [5,6,7] (fun c=>c=a) (aM ?_);refine aR ?_;have bn:w6.cell? (a,4)=zH:=f.cells 4 _ rfl;have bd:w6.cell? (a,5)=zH:=f.cells 5 _ rfl;have bo:w6.cell? (a,6)=zH:=f.cells 6 _ rfl;have bq:w6.cell? (a,7)=zH:=f.cells 7 _ rfl;have bm:=f.f 4;have ba:=f.f 5;have br:=f.f 6;have bs:=f.f 7;refine aS ?_;go_wp2_with fail;have ay:Mods (fun c=>c=a) w6 ((w6.drew.setCell (a,4) l.c).setCell (a,5) l.k):=⟨rfl,rfl,rfl,oh,fun c _ e=>(zZ _ _ _ _ e).trans (zZ _ _ _ _ e)⟩;refine⟨zI.to ay,?_⟩;refine aS ?_;go_wp2_with fail;refine aS ?_;go_wp2_with fail;refine xE ?_;have ar:zR ((((w6.setCell (a,4) l.c).setCell (a,5) l.k).setCell (a,6) r.c).setCell (a,7) r.k).drew a (zj i l r v):=(f.setL l).setR r;have j:Mods (fun c=>c=a) w6 ((((w6.setCell (a,4) l.c).setCell (a,5) l.k).setCell (a,6) r.c).setCell (a,7) r.k).drew:=⟨rfl,rfl,rfl,oh,fun c _ e=>(((zZ _ _ _ _ e).trans (zZ _ _ _ _ e)).trans (zZ _ _ _ _ e)).trans (zZ _ _ _ _ e)⟩;obtain⟨a0,aw⟩:=aY (((((w6.setCell (a,4) l.c).setCell (a,5) l.k).setCell (a,6) r.c).setCell (a,7) r.k).drew);rw[aw] at ar j ⊢;have a2:zR a0 (w.heap.size+1) zi:=(j.block _ ax oa).trans K;have a4:Below w w a0:=aP.trans ⟨j.os,j.tape,j.output,j.size,fun k bg=>j.block k (zg bg aP.size) oa⟩;have ai:=a2.put (zj i l r v);have bp:=zA ai.load;clear ai aw j ay B s C t bn bd bo bq bm ba br bs o K f A ax a5;go_wp2_with (first|(refine xv (T:=66) (v:=zS (zj i l r v)) rfl rfl rfl ar.load ?_)|(refine yx (T:=66) (v:=zS (zj i l r v)) rfl rfl rfl rfl (zR.store a2 (zj i l r v)) ?_));refine yG (v:= .tuple #[zS (zj i l r v),.bool true]) ?_ rfl ⟨rfl,yo a4 oa _⟩;have bi:=bp.o;simp[results,Tryz.results159,asAddr,Act.put,bi]
theorem zp3(i l r:zF)(v:zr)(w:zC)(e:WV v)(c:i.rightB=true)(b: [l,r].any (vD ⟨i.c,i.k,i.k+1⟩)=false)(a:zv w):
 Calls zD 88 #[zS (zj i l r v)] w fun g f=>g=(zB 0)/\Below w w f:=
 zqa (zj i l r v) w (fun w a=>zp2 i l r v w e a) c (by have:=c;simp[zF.rightB,xi] at this;show i.k+1<=_;omega) (by show(0:Nat)<=_;decide) (by
  have d:vD ⟨i.c,i.k,i.k+1⟩ zT=false:=by simp[vD,zF.namedB,xH,zF.rightB,xi,zT]
  show[l,r,zT,zT,zT].any (vD ⟨i.c,i.k,i.k+1⟩)=false;simp only[zjN,zjO,zjP,d] at b ⊢;exact b) a
theorem zp4(i l r:zF)(v:zr)(B:v.clean=v)(w:zC)(n:zv w):
 Calls zD 90 #[zS (zj i l r v),zB 0,zB 1] w fun O I=>O= .returned (.tuple #[zS (zj i l r v),.bool true])/\Below w w I:=by
 have g:=fun w n=>zec (zj i l r v) w (by show(0:Nat)<_;decide) n;have u:((zj i l r v).len:Int)=1:=rfl;rw[u] at g;clear u;have h:=zch v;rw[B] at h;clear B;change Calls zD 90 #[.agg #[(zj i l r v).id.c,(zj i l r v).id.k,zB (zj i l r v).kind,(zj i l r v).stamp,(zj i l r v).left.c,(zj i l r v).left.k,(zj i l r v).right.c,(zj i l r v).right.k,.string (zj i l r v).text,zB (zj i l r v).v.kind,zB (zj i l r v).v.n,.float .f64 (zj i l r v).v.f,.string (zj i l r v).v.s,.string (zj i l r v).key,(zj i l r v).parent.c,(zj i l r v).parent.k,(zj i l r v).frm.c,(zj i l r v).frm.k,.bool (zj i l r v).frmA,(zj i l r v).til.c,(zj i l r v).til.k,.bool (zj i l r v).tilA],zB 0,zB 1] w _;go_enter Tryz.func90,Tryz.ntmps90;go_upto_region 1 with fail;refine zbL (zj i l r v) zi fun M o f t C y=> ?_;go_upto_region 3 with(first|(refine zdh 66 w rfl rfl f.load (by rfl) ?_)|(go_at_call 153;refine(g _ (n.below o)).mono ?_;rintro V c ⟨rfl,e⟩));have a:=f.below e C;have m:=t.below e y;have s:=zK o e;clear f t o e C y g M;have E:=a.lt;have q:=m.lt;have F:c.cell? (w,9)=(zB v.kind):=a.cells 9 _ rfl;have K:c.cell? (w,10)=(zB v.n):=a.cells 10 _ rfl;have G:c.cell? (w,11)=some (.float .f64 v.f):=a.cells 11 _ rfl;have Z:c.cell? (w,12)=some (.string v.s):=a.cells 12 _ rfl;have H:=zbA;have N:=a.f 9;have L:=a.f 10;have J:=a.f 11;have Y:=a.f 12;go_upto_region 4 with(go_at_call 65;refine(h _).mono ?_;rintro V d ⟨rfl,b⟩;obtain⟨X,R⟩:=yZ b);have k:zR ((((d.setCell (w,9) (zB v.kind)).setCell (w,10) (zB v.n)).setCell (w,11) (.float .f64 v.f)).setCell (w,12) (.string v.s)) w (zj i l r v):=(a.below b E).setV v;have D:=zK s b;have z:=(((D.setCell (p:=(w,9)) (zU _) (zB v.kind)).setCell (p:=(w,10)) (zU _) (zB v.n)).setCell (p:=(w,11)) (zU _) (.float .f64 v.f)).setCell (p:=(w,12)) (zU _) (.string v.s);have A:=m.below b q;have j:zR ((((d.setCell (w,9) (zB v.kind)).setCell (w,10) (zB v.n)).setCell (w,11) (.float .f64 v.f)).setCell (w,12) (.string v.s)) (w.heap.size+1) zi:=by refine(((zZ _ _ _ _ ?_).trans (zZ _ _ _ _ ?_)).trans (zZ _ _ _ _ ?_)).trans ((zZ _ _ _ _ ?_).trans A)<;> (show ¬w.heap.size+1=w.heap.size;omega)
 obtain⟨w3,x⟩:=aY (((((d.setCell (w,9) (zB v.kind)).setCell (w,10) (zB v.n)).setCell (w,11) (.float .f64 v.f)).setCell (w,12) (.string v.s)));try simp only[x] at k z j ⊢
 clear x F K G Z N L J Y a m s b D X R A E q h H c d;have ab:w3.cell? (w,2)=(zB 2):=k.cells 2 _ rfl;have W:=zA (j.put (zj i l r v)).load;go_wp2_with (first|(refine xv (T:=66) (v:=zS (zj i l r v)) rfl rfl rfl k.load ?_)|(refine yx (T:=66) (v:=zS (zj i l r v)) rfl rfl rfl rfl (zR.store j (zj i l r v)) ?_));refine yG (v:= .tuple #[zS (zj i l r v),.bool true]) ?_ rfl ⟨rfl,yo z oa _⟩;have aa:=W.o;simp[results,zjQ,asAddr,aa]
theorem zp5(i l r:zF)(v:zr)(d:v.clean=v)(b:i.rightB=true):zbX (zj i l r v) i.k 1 where
 ik:=rfl
 rng:=rfl
 right:=by simp[zF.rightB,xi] at b;show zO.rightB ⟨i.c,i.k,i.k+1⟩=true;simp[zO.rightB,xi];omega
 n1:=zU _
 n2:=ol
 range:=fun c a=>zcz (zj i l r v) c (by show(0:Nat)<_;decide) (by simp[zF.rightB,xi] at b;show(0:Int)<=i.k;omega) (by simp[zF.rightB,xi] at b;show i.k+((1:Nat):Int)<_;omega) a
 cut:=fun c a=>zp4 i l r v d c a
theorem zp6(i l r:zF)(t:ByteArray)(a:i.rightB=true)(d:j9 t=true)(e:1<=(zh t).length)(h:t.size<=1000000)(g:i.k+(zh t).length<=9007199254740992):zbX (zl i l r t) i.k (zh t).length where
 ik:=rfl
 rng:=by rw[zd1];rfl
 right:=by simp[zF.rightB,xi] at a;rw[zd1];show zO.rightB ⟨i.c,i.k,i.k+(zh t).length⟩=true;simp[zO.rightB,xi];omega
 n1:=e
 n2:=by have:=(za0 d).2.2;omega
 range:=fun c b=>zcz (zl i l r t) c (by show t.size<_;omega) (by simp[zF.rightB,xi] at a;show(0:Int)<=i.k;omega) (by simp[zF.rightB,xi] at a;rw[zdG];show i.k+((zh t).length:Int)<_;omega) b
 cut:=fun c b=>by
  have:=zqu i l r t 0 (zh t).length c oa oa (zU _) (by simp[zF.rightB,xi] at a;omega) (by simp[zF.rightB,xi] at a;omega) b;have f:zb2 i l r t 0 (zh t).length=zl i l r t:=by unfold zb2;rw[zkM (za0 d).1 (zU _)];simp
  rwa[f] at this
open Go.Shelf
section
attribute [local go_sem] jl
theorem zo2(w:zC):Calls zD 234 #[()] w fun a b=>a=jB/\Below w w b:=by
 have d:∀w:zC,Calls zD 204 #[zH] w fun a b=>a=(zB 0)/\Below w w b:=fun w=>by go_enter Tryz.func204,Tryz.ntmps204;go_wp2;go_ret;exact⟨oe,aB⟩
 have g:∀w:zC,Calls zD 299 #[(),zB 0,zB 0] w fun a b=>a=jB/\Below w w b:=fun w=>by go_enter Tryz.func299,Tryz.ntmps299;go_wp2;refine zbq 1 ?_;rw[vM];go_wp2;go_end0;exact⟨rfl,aB⟩
 have h:∀w:zC,Calls zD 276 #[(),zB 0,zB 0,zB 0] w fun a b=>a=jB/\Below w w b:=fun w=>by go_enter Tryz.func276,Tryz.ntmps276;go_wp2;refine zbq 1 ?_;rw[vM];go_wp2_with (go_at_call 299;refine(g _).mono ?_;rintro a f ⟨rfl,c⟩);refine yG (zcO rfl _ _ _) rfl ?_;exact⟨rfl,by first|exact c|exact zK (aB) c⟩
 go_enter Tryz.func234,Tryz.ntmps234;go_wp2_with (first|(go_at_call 204;refine(d _).mono ?_;rintro a f ⟨rfl,c⟩)|(go_at_call 276;refine(h _).mono ?_;rintro a i ⟨rfl,e⟩));go_end0;exact⟨rfl,zK c e⟩
theorem zwB(w:zC):Calls zD 195 #[.map none] w fun b a=>b= .returned (.func (.func 240) #[] #[w])/\a=w.alloc (.cells #[.map none] 261):=by go_enter Tryz.func195,Tryz.ntmps195;go_wp2;go_ret;exact⟨rfl,rfl⟩
theorem zwC(m L b:Nat)(W:zC)(h:W.cell? b=some (.map none)):
 CallsIn Fence.wide m zD 240 #[.func (.yield L) #[] #[],b] W fun e d=>(∃c,e= .returned c)/\Below W W d:=by
 refine zaL Tryz.func240 rfl trivial ?_ rfl;simp only[Tryz.ntmps240,yw,z7,xB,Nat.reduceAdd,Nat.reduceSub,qK,qL,qM,qN,xu,yD];have g:=run_range_nilMap (P:=zD) W 261 9 36 Tryz.underlying261;have f:∀a,(Instr.next W false a).run zD (W.alloc (.mapIter none 0 #[] 0))=_:=fun a=>run_next_nilMap _ a 0 0 #[];gi_wp2;refine wpIn_loop_rounds 1 ?_;rw[roundsIn_succ];gi_wp2;go_end0;exact⟨⟨_,rfl⟩,aB⟩
theorem zwD(a:Nat)(W:zC)(A:W.cell? a=some (.map none))(z:a<W):
 Calls zD 275 #[(),.func (.func 240) #[] #[a]] W fun o b=>o=()/\Below W W b:=by
 refine(yi (n:=12)).1 (callsIn_of_wp_marks Tryz.func275 rfl trivial ?_ rfl);simp only[Tryz.ntmps275,yw,z7,xB,Nat.reduceAdd,Nat.reduceSub,qK,qL,qM,qN,xu,yD];gi_wp2;generalize j:World.alloc _ _=e;obtain⟨s,t,v⟩:=aF j;have x:e.cell? a=some (.map none):=by subst j;exact(s.cell (p:=a) z).trans A
 have w:=aC t 0;clear j t;refine zc4 (α:=Unit) (gf:=240) (lb:=#[a]) (encs:=fun _=>#[.string ⟨#[]⟩]) (S:=fun m=>m= []) (N:=0) rfl oa rfl trivial (enters_of Tryz.func240 oe rfl) (fun _=>rfl)
  (fun k b=>k= []/\Below e e b) zX ?hIp ?h0 ?hround ?hseq ?hdone
 case hIp=>rintro k b q I ⟨rfl,h⟩ H;exact⟨rfl,⟨h.os,h.tape,h.output,by simpa[World.putObj] using h.size,fun c f=>(World.putObj_heap_other oa).trans (h.block c f)⟩⟩
 case h0=>intro q;exact⟨rfl,aB⟩
 case hround=>intro k F b q _ _ u;exact absurd u oa
 case hseq=>rintro B E b ⟨_,h⟩ l;have D:=h.size;refine(zwC 11 (e.heap.size+1) a b ((h.cell (p:=a) (by show a<_;omega)).trans x)).mono ?_;rintro o G ⟨y,i⟩;have r:=aL l.1;exact⟨y,[],rfl,⟨rfl,zK h i⟩,l.keep fun c f=>i.block c oa⟩
 case hdone=>rintro m b rfl ⟨_,h⟩ g;have i:=h.size;have r:=aL g;have C:=(h.cell (p:=W) (by show W.heap.size<_;omega)).trans w;gi_wp2;rw[v] at g r;refine⟨oh,.inl ⟨_,_,rfl,run_takeDeferred g,⟨_,zcI rfl _ _ _,rfl,?_⟩⟩⟩;have d:=zK s h;exact⟨d.os,d.tape,d.output,by simpa[World.putObj] using d.size,fun c f=>(World.putObj_heap_other oa).trans (d.block c f)⟩
theorem zwE(b:Nat)(W:zC)(k:W.cell? b=some (.map none))(f:b<W):
 Calls zD 187 #[.func (.func 240) #[] #[b]] W fun a c=>a=()/\Below W W c:=by
 have e:=zwD b W k f;have h:Calls zD 233 #[.func (.func 240) #[] #[b]] W fun a c=>a=()/\Below W W c:=by go_enter Tryz.func233,Tryz.ntmps233;go_wp2_with (go_at_call 275;refine e.mono ?_;rintro a i ⟨rfl,d⟩);go_ret;exact⟨rfl,d⟩
 have g:=zo2;go_enter Tryz.func187,Tryz.ntmps187;go_wp2_with (first|(go_at_call 233;refine h.mono ?_;rintro a i ⟨rfl,d⟩)|(go_at_call 234;refine(g _).mono ?_;rintro a l ⟨rfl,j⟩));go_ret;exact⟨rfl,zK d j⟩
theorem zwF(w:zC):Calls zD 188 #[.map none] w fun b a=>b= .returned (.func (.func 235) #[] #[w])/\a=w.alloc (.cells #[.map none] 190):=by go_enter Tryz.func188,Tryz.ntmps188;go_wp2;go_ret;exact⟨rfl,rfl⟩
theorem zwG(m L b:Nat)(W:zC)(h:W.cell? b=some (.map none)):
 CallsIn Fence.wide m zD 235 #[.func (.yield L) #[] #[],b] W fun e d=>(∃c,e= .returned c)/\Below W W d:=by
 refine zaL Tryz.func235 rfl trivial ?_ rfl;simp only[Tryz.ntmps235,yw,z7,xB,Nat.reduceAdd,Nat.reduceSub,qK,qL,qM,qN,xu,yD];have g:=run_range_nilMap (P:=zD) W 190 9 66 Tryz.underlying190;have f:∀a,(Instr.next W false a).run zD (W.alloc (.mapIter none 0 #[] 0))=_:=fun a=>run_next_nilMap _ a 0 0 #[];gi_wp2;refine wpIn_loop_rounds 1 ?_;rw[roundsIn_succ];gi_wp2;go_end0;exact⟨⟨_,rfl⟩,aB⟩
theorem zwH(a:Nat)(W:zC)(A:W.cell? a=some (.map none))(z:a<W):
 Calls zD 275 #[(),.func (.func 235) #[] #[a]] W fun o b=>o=()/\Below W W b:=by
 refine(yi (n:=12)).1 (callsIn_of_wp_marks Tryz.func275 rfl trivial ?_ rfl);simp only[Tryz.ntmps275,yw,z7,xB,Nat.reduceAdd,Nat.reduceSub,qK,qL,qM,qN,xu,yD];gi_wp2;generalize j:World.alloc _ _=e;obtain⟨s,t,v⟩:=aF j;have x:e.cell? a=some (.map none):=by subst j;exact(s.cell (p:=a) z).trans A
 have w:=aC t 0;clear j t;refine zc4 (α:=Unit) (gf:=235) (lb:=#[a]) (encs:=fun _=>#[.string ⟨#[]⟩]) (S:=fun m=>m= []) (N:=0) rfl oa rfl trivial (enters_of Tryz.func235 oe rfl) (fun _=>rfl)
  (fun k b=>k= []/\Below e e b) zX ?hIp ?h0 ?hround ?hseq ?hdone
 case hIp=>rintro k b q I ⟨rfl,h⟩ H;exact⟨rfl,⟨h.os,h.tape,h.output,by simpa[World.putObj] using h.size,fun c f=>(World.putObj_heap_other oa).trans (h.block c f)⟩⟩
 case h0=>intro q;exact⟨rfl,aB⟩
 case hround=>intro k F b q _ _ u;exact absurd u oa
 case hseq=>rintro B E b ⟨_,h⟩ l;have D:=h.size;refine(zwG 11 (e.heap.size+1) a b ((h.cell (p:=a) (by show a<_;omega)).trans x)).mono ?_;rintro o G ⟨y,i⟩;have r:=aL l.1;exact⟨y,[],rfl,⟨rfl,zK h i⟩,l.keep fun c f=>i.block c oa⟩
 case hdone=>rintro m b rfl ⟨_,h⟩ g;have i:=h.size;have r:=aL g;have C:=(h.cell (p:=W) (by show W.heap.size<_;omega)).trans w;gi_wp2;rw[v] at g r;refine⟨oh,.inl ⟨_,_,rfl,run_takeDeferred g,⟨_,zcI rfl _ _ _,rfl,?_⟩⟩⟩;have d:=zK s h;exact⟨d.os,d.tape,d.output,by simpa[World.putObj] using d.size,fun c f=>(World.putObj_heap_other oa).trans (d.block c f)⟩
theorem zwI(b:Nat)(W:zC)(k:W.cell? b=some (.map none))(f:b<W):
 Calls zD 187 #[.func (.func 235) #[] #[b]] W fun a c=>a=()/\Below W W c:=by
 have e:=zwH b W k f;have h:Calls zD 233 #[.func (.func 235) #[] #[b]] W fun a c=>a=()/\Below W W c:=by go_enter Tryz.func233,Tryz.ntmps233;go_wp2_with (go_at_call 275;refine e.mono ?_;rintro a i ⟨rfl,d⟩);go_ret;exact⟨rfl,d⟩
 have g:=zo2;go_enter Tryz.func187,Tryz.ntmps187;go_wp2_with (first|(go_at_call 233;refine h.mono ?_;rintro a i ⟨rfl,d⟩)|(go_at_call 234;refine(g _).mono ?_;rintro a l ⟨rfl,j⟩));go_ret;exact⟨rfl,zK d j⟩
theorem zwJ(w:zC):Calls zD 119 #[.map none] w fun a c=>a=()/\Below w w c:=by have b:=fun w=>zwF w;go_enter Tryz.func119,Tryz.ntmps119;go_wp2_with (first|(go_at_call 188;refine(b _).mono ?_;rintro a g ⟨rfl,rfl⟩)|(go_at_call 187;refine(zwI w _ oS oh).mono ?_;rintro a f ⟨rfl,e⟩));have d:Below w w f:=zK aA e;refine zbq 1 ?_;rw[vM];go_wp2;go_ret;exact⟨rfl,d⟩
theorem zwK(w:zC):Calls zD 52 #[(),()] w fun a b=>a= .returned (.bool true)/\Below w w b:=by
 have c:∀w:zC,Calls zD 126 #[(),(),.func (.func 127) #[] #[]] w fun a b=>a= .returned (.bool true)/\Below w w b:=fun w=>by go_enter Tryz.func126,Tryz.ntmps126;go_wp2;refine zbq 1 ?_;rw[vM];go_wp2;go_ret;exact⟨rfl,aB⟩
 go_enter Tryz.func52,Tryz.ntmps52;go_wp2_with (go_at_call 126;refine(c _).mono ?_;rintro a e ⟨rfl,d⟩);go_ret;exact⟨rfl,d⟩
end
def zm0(_:Nat):List Value:= [.map none]
def zbb(_:Nat):List Value:= [()]
theorem zsn:(Tryz.prog.info? 190).map (fun i=>(i.zero,i.size,i.bytes))=some (some (.map none),1,8):=oe
theorem zso:zaA Tryz.prog 126 51 1 zbb where
 ht:=Tryz.underlying126
 hi:=by obtain⟨a,d,c,e,f⟩:=yI (by kernel_rfl:(Tryz.prog.info? 51).map (fun a=>(a.zero,a.size,a.bytes))=some (some (.slice none 0 0),1,24));exact⟨a,_,d,c,e,oa,rfl⟩
 k0:=ol
 len:=fun _=>rfl
 one:=fun g h b=>by simp[zbb] at b;rcases b with rfl;rfl
theorem zsp(z:zJ)(n:Nat)(c:z.cells=#[z]):(madeCells z.cells (n*1)).toList=(List.range n).flatMap fun _=> [z]:=by
 have b:∀n:Nat,(List.range n).flatMap (fun _=> [z])=List.replicate n z:=fun n=>by
  induction n with
  |zero=>rfl
  |succ n a=>rw[zjo,qe,a];simp[List.replicate_succ']
 rw[b,c,zbh];unfold madeCells;apply zhE
 ·simp
 ·intro e f d;simp[Nat.mod_one]
theorem zsq(n:Nat)(k:n<=1000000)(w:zC):
 ∃a,(Instr.makeSlice 187 (zB (n:Int)) (zB (n:Int))).run zD w= .ok (.slice (some w) n n) a/\zG w 190 1 zm0 a (.slice (some w) n n) (List.range n)/\Below w w a:=by
 obtain⟨f,g,c,h,d⟩:=yI zsn;obtain⟨a,e,b,i⟩:=run_makeSlice_full (P:=zD) w w 187 190 f (.map none) 1 Tryz.underlying187 g c h .i64 .i64 n oa (by rw[d];omega) oP (zU _);refine⟨a,e,?_,zle i⟩;unfold zG;rw[zcs];have j:=zsp (.map none) n rfl;rw[j] at b;exact b
theorem zsr(n:Nat)(f:zJ)(d:List Nat)(c:List zV)(w:zC)(a:ql n f d c w):
 Calls zD 116 #[(n+6:)] w fun h e=>h=(zB c.length)/\w=e:=by
 have g:=a.c;have b:=a.len;obtain⟨i,j,rfl,_⟩:=a.row.shape;rw[b] at g;clear b;go_enter Tryz.func116,Tryz.ntmps116;go_wp2;go_ret;exact⟨rfl,rfl⟩
theorem zss(n:Nat)(x:zJ)(t:List Nat)(e:List zV)(w:zC)(h:ql n x t e w)(K:e.length<=100000):
 Calls zD 49 #[(n+6:),()] w (qH fun v o=>zG w 51 1 zbb o v (List.range e.length)/\Below w w o):=by
 have l:=zsr n x t e w h;obtain⟨c,z⟩:=aY e.length;rw[z] at l K ⊢;obtain⟨b,H,m,y⟩:=zsq c oa w;have E:=zwJ;clear z h;go_enter Tryz.func49,Tryz.ntmps49;go_wp2_with (go_at_call 116;refine l.mono ?_;rintro a X ⟨rfl,rfl⟩);refine zbq 1 ?_;rw[vM];go_wp2;have J:=zA (show ∀d,d<c->b.cell? (w,d)=some (.map none) from fun d A=>by have B:=zG.slice (α:=Nat) (k:=1) (enc:=zm0) (fun _=>rfl) m;obtain⟨q,aa,s,_,N⟩:=B.shape;obtain⟨j,V,a,_,C⟩:=N d d (by simp[A]);simp only[ve] at s;rw[<-s.1] at a;simp only[jC,zco] at a;obtain⟨rfl,rfl,_⟩:=a;have:=C 0 _ rfl;simpa using this);have I:w.heap.size<b.heap.size:=m.lt rfl;clear m H l;go_loopw [10,54] (fun L g wr=>∃(k:Nat) (v:zJ),L=v/\g=zB k/\k<=c/\zG b 51 1 zbb wr v (List.range k)/\Below b b wr) (fun _ g _=>c - (intOf g).toNat);case atStart=>exact⟨0,_,rfl,rfl,xO _,zG.nil,zf _ _⟩
 case round=>
  obtain⟨k,W,rfl,rfl,Z,i,hb⟩:=hrel;by_cases F:k<c
  ·have Y:=(hb.cell (p:=(w,k)) I).trans (J.o k F);have R:decide ((k:Int)<c)=true:=oi;go_upto_region 17 with fail;go_wp2_with (first|(go_at_call 119;refine(E _).mono ?_;rintro a D ⟨rfl,r⟩;have u:=i.blk fun j a=>r.block j (i.lt a);have f:=zK hb r)|(at_builtin;refine yz zso rfl _ _ rfl b.heap.size _ (List.range k) rfl (u.al _) _ [k] rfl (zc.one (k:=1) (enc:=zbb) D k 51) (by simp only[z7,xB,zcs];omega) (by have:=f.size;simp;omega) ?_;intro T w6 G O _));have M:Below b b w6:=(f.alloc f.size _).grown O (by have:=f.size;simp;omega) (fun j a=>u.ge a);go_wp2;go_roundw;case rel=>exact⟨k+1,_,rfl,ou,oa,by rw[zjo];exact G,M⟩
   simp[intOf];omega
  ·obtain rfl:k=c:=(by omega);go_wp2;go_ret;exact⟨_,rfl,i.any y.size,zK y hb⟩
theorem zst(w:zC):Calls zD 121 #[()] w fun c b=>c=()/\w=b:=
 (AnyE.slices_Clone_nil Tryz.cloneOp 0 0 w).mono fun c b d=>⟨d.1,d.2.symm⟩
theorem zsu(n:Nat)(kl:List (Int×Value))(wl:List (zF×Value))(g:yN)(st:Int)(w:zC)(d:xS n w kl wl g st)(j:g.m=yH):
 Calls zD 50 #[(n+11:)] w fun b c=>b=()/\Below w w c:=by
 have e:=d.cell 8 _ rfl;have t:=d.lt;rw[j] at e;unfold yH at e;have u:∀(f:Fn) (first i:Array Value) (w:zC),(Instr.makeFunc f first i).run zD w= .ok (.func f first i) w:=fun _ _ _ _=>rfl;have m:=zst;have k:∀(a:zJ) (w:zC),a.oneCell'=true->Calls zD 189 #[(),a] w fun b c=>b=(zB (-1))/\Below w w c:=fun a w h=>by go_enter Tryz.func189,Tryz.ntmps189;go_wp2;refine zbq 1 ?_;rw[vM];go_wp2;go_ret;exact⟨rfl,aB⟩
 have q:∀(a:zJ) (w:zC),a.oneCell'=true->Calls zD 120 #[(),a] w fun b c=>b=()/\Below w w c:=fun a w h=>by have p:=fun w=>k a w h;go_enter Tryz.func120,Tryz.ntmps120;go_wp2_with (go_at_call 189;refine(p _).mono ?_;rintro b r ⟨rfl,l⟩);go_ret;exact⟨rfl,l⟩
 clear d;go_enter Tryz.func50,Tryz.ntmps50;go_wp2_with (first|(go_at_call 121;refine(m _).mono ?_;rintro b r ⟨rfl,rfl⟩)|(go_at_call 120;refine(q _ _ rfl).mono ?_;rintro b s ⟨rfl,o⟩));go_ret;exact⟨rfl,zK aA o⟩
end Go.Proofs.YtimlgcodecgecaaGreatDoor
