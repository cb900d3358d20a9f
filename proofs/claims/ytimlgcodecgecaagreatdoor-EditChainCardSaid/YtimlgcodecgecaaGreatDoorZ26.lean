/- Walk: the small parts of ids.Turns: order, sort of one, joined, DeleteFunc of one. -/
import Derived.Test.YtimlgcodecgecaaGreatDoorZ22
set_option maxRecDepth 100000
set_option maxHeartbeats 20000000
set_option linter.all false
namespace Go.Proofs.YtimlgcodecgecaaGreatDoor
open Go.RowKit Go.Shelf Go.Sort Go.Lib
instance:Inhabited zL:=⟨⟨0,0,0,0⟩⟩
def zL.rng(t:zL):zO:=⟨t.c,t.a,t.b⟩
def zL.cmp(x y:zL):Int:=x.rng.cmp y.rng
theorem zwd(x a:zL)(w:zC):
 Calls zD 144 #[.agg #[x.c,x.a,x.b,x.n],.agg #[a.c,a.a,a.b,a.n]] w fun c b=>c=(zB (x.cmp a))/\∃l m,b=Sort.grow (w.drewN l) m:=by
 have i:=fun d=>zfC x.c a.c d;have g:=fun d=>zfC x.a a.a d;obtain⟨k,e⟩:=aX (jv x.c a.c);obtain⟨j,f⟩:=aX (jv x.a a.a);have h:x.cmp a=orI k j:=by rw[e,f];rfl
 rw[<-e] at i;rw[<-f] at g;rw[h];clear h e f;go_enter Tryz.func144,Tryz.ntmps144;go_wp2;go_region_held3 (fun b=>b.cell? w=x.c/\b.cell? (w,1)=x.a/\b.cell? (w.heap.size+1:)=a.c/\b.cell? (w.heap.size+1,1)=a.a) (go_keep) (first|(go_at_call_of 146 (Value.int .u64 x.c);refine(i _).mono ?_;rintro c b ⟨rfl,rfl⟩)|(go_at_call_of 146 (Value.int .u64 x.a);refine(g _).mono ?_;rintro c b ⟨rfl,rfl⟩)|(go_at_call 145;refine(zml k j _ _ oS oS).mono ?_;rintro c b ⟨rfl,rfl⟩));go_wp2;go_ret;exact⟨rfl,zmm (aB) oh⟩
theorem zwe:SWO (ltOf zL.cmp) where
 irrefl x:=ziC.irrefl x.rng
 trans x y z h1 h2:=ziC.trans x.rng y.rng z.rng h1 h2
 ntrans x y z h1 h2:=ziC.ntrans x.rng y.rng z.rng h1 h2
theorem zwf(c a d:Nat)(w:zC):CmpLays zD 144 #[] zb 4 zL.cmp c a d w:=
 fun _ _ _ _ b e=>zwd b e _
theorem zdC(x:zL):∀b∈zb x,b.oneCell'=true:=by intro b a;simp[zb] at a;rcases a with rfl|rfl|rfl|rfl<;> rfl
theorem zgA:(Tryz.prog.info? 68).map (fun i=>(i.zero,i.size,i.bytes))=some (some (.agg #[zH,zH,zH,zH]),4,32):=oe
theorem zgB(w:zC)(B:Nat)(x:zL)(d:B=w):∀a b,(zb x)[a]?=some b->(w.alloc (.cells #[x.c,x.a,x.b,x.n] 68)).cell? ((B:Addr).add a)=some b:=by subst d;intro a b c;rw[qW,World.cell?,World.alloc_heap_new];simpa[zb] using c
theorem zpI(t:zL)(a:Nat)(at_:Int)(w:zC)(e:a<w)(b:w.cell? a=at_):
 Calls zD 150 #[.agg #[t.c,t.a,t.b,t.n],a] w fun d c=>d= .returned (.bool (decide (t.b<=at_)))/\Below w w c:=by
 have f:(w.alloc (.cells #[t.c,t.a,t.b,t.n] 68)).cell? a=at_:=(((zf w w).alloc (zU _) _).cell (p:=a) e).trans b;go_enter Tryz.func150,Tryz.ntmps150;go_wp2;go_ret;exact⟨rfl,aB⟩
def qz(at_:Int)(t:zL):Bool:=!decide (t.b<=at_)
theorem zqy (l:List zL) (b:Nat) (at_:Int) (g cap:Nat) (w:zC) (j:b<w) (m:w.cell? b=at_) (n:g<w) (C:l.length<=1000000)
 (r:∀c a,l[c]?=some a->∀k e,(zb a)[k]?=some e->w.cell? (g,c*4+k)=some e):
 Calls zD 206 #[.slice (some g) l.length cap,.func (.func 150) #[] #[b]] w fun i h=>i=(zB (idxByFrom (fun _ d:zL=>decide (d.b<=at_)) default l 0))/\Below w w h:=by
 have q:PredBelow zD 150 #[b] (fun a=> .agg (zb a).toArray) (fun a=>decide (a.b<=at_)) w:=by intro x a f;refine(zpI a b at_ x (zg j f.size) ((f.cell (p:=b) j).trans m)).mono ?_;exact fun i h ⟨A,z⟩=>⟨A,f.trans (z.mono f.size)⟩
 have:=AnyQ.slices_IndexFunc Tryz.indexTurn 4 (fun w=>oe) (fun w=>oe) zb (fun _=>rfl) (fun a=>decide (a.b<=at_)) 150 #[b] (enters_of Tryz.func150 oe rfl) g 0 l.length cap l w q (zU _) oa n
  (fun c o s e y=>by have:=r c l[c] oh s e (by simpa[o] using y);simpa using this)
 have v:idxBy (fun _ d:zL=>decide (d.b<=at_)) (l.take l.length) default=idxByFrom (fun _ d:zL=>decide (d.b<=at_)) default l 0:=by rw[qJ];rfl
 exact this.mono fun i h ⟨B,t⟩=>⟨by rw[B];exact congrArg (fun u=>Ending.returned (zB u)) v,t⟩
theorem zmD(p:zL->Bool):∀(l:List zL) (i:Nat),(idxByFrom (fun _ b:zL=>p b) default l i= -1/\∀c∈l,p c=false)\/∃k c,l[k]?=some c/\idxByFrom (fun _ b:zL=>p b) default l i=((i+k:Nat):Int)/\p c=true/\∀b∈l.take k,p b=false
 | [],i=> .inl ⟨rfl,oh⟩
 |b::r,i=>by
  cases h:p b with
  |true=>exact .inr ⟨0,b,rfl,by simp[idxByFrom,h],h,oh⟩
  |false=>
   rcases zmD p r (i+1) with⟨e,d⟩|⟨k,c,f,e,g,d⟩
   ·exact .inl ⟨by simp[idxByFrom,h,e],by simpa using⟨h,d⟩⟩
   ·refine .inr ⟨k+1,c,obh,?_,g,by simpa[zfV] using⟨h,d⟩⟩;simp only[idxByFrom,h];rw[show(if false=true then(i:Int) else idxByFrom (fun _ b:zL=>p b) default r (i+1))=idxByFrom (fun _ b:zL=>p b) default r (i+1) from rfl,e];congr 1;omega
theorem zG.setT{base:Nat}{w:zC}{g n cap i:Nat}{l:List zL}(x:zL)(e:zG base 68 4 zb w (.slice (some g) n cap) l)(b:i<l.length):
 zG base 68 4 zb ((((w.setCell (g,i*4) x.c).setCell (g,i*4+1) x.a).setCell (g,i*4+2) x.b).setCell (g,i*4+3) x.n) (.slice (some g) n cap) (l.set i x):=by
 have d:=zG.set (k:=4) (enc:=zb) (i:=0) (x:=l[i]) (z:=⟨x.c,l[i].a,l[i].b,l[i].n⟩) (u:=x.c) (fun _=>rfl) e (xG b) ol rfl;have f:=zG.set (k:=4) (enc:=zb) (i:=1) (x:=⟨x.c,l[i].a,l[i].b,l[i].n⟩) (z:=⟨x.c,x.a,l[i].b,l[i].n⟩) (u:=x.a) (fun _=>rfl) d (j:=i) jA ol rfl;have c:=zG.set (k:=4) (enc:=zb) (i:=2) (x:=⟨x.c,x.a,l[i].b,l[i].n⟩) (z:=⟨x.c,x.a,x.b,l[i].n⟩) (u:=x.b) (fun _=>rfl) f (j:=i) jA ol rfl;have h:=zG.set (k:=4) (enc:=zb) (i:=3) (x:=⟨x.c,x.a,x.b,l[i].n⟩) (z:=x) (u:=x.n) (fun _=>rfl) c (j:=i) jA ol rfl;simpa using h
theorem zG.cutT{base:Nat}{w:zC}{g n cap k:Nat}{l:List zL}(i:List Value)(e:zG base 68 4 zb w (.slice (some g) n cap) l)(H:k<=l.length):
 zG base 68 4 zb (w.setCells g (k*4) i) (.slice (some g) k cap) (l.take k):=by
 have y:=zG.slice (k:=4) (enc:=zb) (fun _=>rfl) e;rcases e.2 with⟨a,_⟩|⟨C,J,x,a,j,p,F,r,q,z⟩
 ·cases a
 ·simp only[ve,jC,zco,and_true] at a;obtain⟨rfl,A,rfl⟩:=a;obtain⟨I,s,m⟩:=zek g i (k*4) w x p;have h:(l.take k).length=k:=oaa;have:=zG.of_cells (k:=4) (enc:=zb) (l:=l.take k) (fun _=>rfl) j s (by rw[h];omega) r (by rw[m,q]) (fun d t b c v f=>by
   have o:d<k:=(by have:=(zw.1 b).1;omega);rw[zcE,zP o] at b;have E:c<4:=(zw.1 f).1;rw[zcv _ _ _ _ _ (fun _ _=> .inl (by show d*4+c<k*4;omega))];rcases y with⟨a,_⟩|⟨G,B,D,a,_,_,u⟩
   ·cases a
   ·simp only[ve,jC,zco] at a;obtain⟨⟨rfl,rfl,_⟩,_⟩:=a;simpa using u d t b c v f)
  rwa[h] at this
theorem zqz(n:Nat):(Builtin.zeroCells (Value.agg #[.int .u64 0,.int .u64 0,.int .u64 0,.int .u64 0]).cells n).toList=List.replicate (n*4) (.int .u64 0):=by
 have e:(Value.agg #[.int .u64 0,.int .u64 0,.int .u64 0,.int .u64 0]).cells=#[.int .u64 0,.int .u64 0,.int .u64 0,.int .u64 0]:=oe;rw[e];unfold Builtin.zeroCells;apply zbp;intro a;simp only[Array.toList_map,Array.toList_range,qw,List.getElem?_range',List.getElem?_replicate];by_cases b:a<n*4
 ·have d:a % 4=0\/a % 4=1\/a % 4=2\/a % 4=3:=by omega
  rw[List.getElem?_range (by simpa using b),zP b];rcases d with c|c|c|c<;> simp[c]
 ·rw[vp (by simpa using b),zN b];rfl
theorem zq0(base p g n cap:Nat)(at_:Int)(l:List zL)(w:zC)(a4:p<w)(am:w.cell? p=at_)(bx:p≠g)(u:zG base 68 4 zb w (.slice (some g) n cap) l)(z:l.length<=1000000):
 Calls zD 149 #[.slice (some g) n cap,.func (.func 150) #[] #[p]] w fun d aq=>∃h,d= .returned (.slice (some g) h cap)/\zG base 68 4 zb aq (.slice (some g) h cap) (l.filter (qz at_))/\Mods (fun h=>h=g) w aq:=by
 obtain rfl:n=l.length:=by obtain⟨H,bD,d⟩:=ys u;simp only[ve] at d;exact d.2.1
 have bz:g<w:=xJ u g rfl;have Y:∀(t:zC) (e:List zL),e.length=l.length->zG base 68 4 zb t (.slice (some g) l.length cap) e->∀q a,e[q]?=some a->∀C ae,(zb a)[C]?=some ae->t.cell? (g,q*4+C)=some ae:=fun t e ci ap q a V C bt bq=>by
  have bK:=zG.slice (k:=4) (enc:=zb) (fun _=>rfl) ap;rcases bK with⟨d,_⟩|⟨c,b9,bD,d,_,_,j⟩
  ·cases d
  ·simp only[ve,jC,zco] at d;obtain⟨⟨rfl,rfl,_⟩,_⟩:=d;simpa using j q a V C bt bq
 have D:=zqy l p at_ g cap w a4 am bz z (Y w l rfl u);have a3:l.length<=cap:=by
  rcases u.2 with⟨d,_⟩|⟨ai,ao,ab,d,ag,F,z,ad,B,a8⟩
  ·cases d
  ·simp only[ve] at d;rw[d.2.2];exact z
 have bO:cap<=maxLen:=by
  rcases u.2 with⟨d,_⟩|⟨ai,ao,ab,d,ag,F,z,ad,B,a8⟩
  ·cases d
  ·simp only[ve] at d;rw[d.2.2];exact ad
 have an:∀(t:zC) (e:List zL) (h:Nat),zG base 68 4 zb t (.slice (some g) l.length cap) e->t.frozen? (g,h)=false:=fun t e h ap=>by
  rcases ap.2 with⟨d,_⟩|⟨ai,ao,ab,d,ag,F,_⟩
  ·cases d
  ·simp only[ve,jC,zco] at d;rw[d.1.1];simp[World.frozen?,F]
 rcases zmD (fun a=>decide (a.b<=at_)) l 0 with⟨L,J⟩|⟨s,aj,ah,L,ay,J⟩
 ·rw[L] at D;have a0:l.filter (qz at_)=l:=zeQ.2 fun a y=>by simp[qz,J a y]
  rw[a0];have K:=zA u;clear u Y an a3 bO J a0 L;go_enter Tryz.func149,Tryz.ntmps149;go_wp2_with (go_at_call 206;refine D.mono ?_;rintro d bm ⟨rfl,E⟩);go_ret;exact⟨_,rfl,xI K.o fun c d=>E.block c (xJ K.o c d),Mods.of_below E⟩
 ·rw[L,qr] at D;have bM:s<l.length:=(zw.1 ah).1;have be:(l.take s).filter (qz at_)=l.take s:=zeQ.2 fun a y=>by simp[qz,J a y]
  have bd:(l.take (s+1)).filter (qz at_)=l.take s:=by rw[vg,ah,zap,be];simp only[Option.toList_some,zeS,zhM];rw[zN (by simp only[qz];rw[ay];simp),zbl]
  have bH:=zA bd;have K:=zA u;have bf:=zA Y;have T:=zA an;have bN:=zA am;have ch:¬((s:Int)= -1):=oa;have bW:((s:Int)== -1)=false:=oh;have a1:(l.length:Int)<=1000000:=oa;obtain⟨m,ak⟩:=aY l.length;have k:=zA ak;rw[ak] at D a3 bM z a1 ⊢;clear u Y an J be bd L ay ah am ak;go_enter Tryz.func149,Tryz.ntmps149;go_upto_region 5 with(go_at_call 206;refine D.mono ?_;rintro d bm ⟨rfl,E⟩);have a7:zG base 68 4 zb bm (.slice (some g) m cap) l:=xI (by rw[<-k.o];exact K.o) fun c d=>E.block c (xJ (k.o ▸ K.o) c d);clear D;go_loopw [5,6] (fun C q wr=>∃(b c:Nat) (e:List zL),C=zB b/\q=zB c/\b<c/\c<=m/\e.length=m/\e.take b=(l.take c).filter (qz at_)/\e.drop c=l.drop c/\zG base 68 4 zb wr (.slice (some g) m cap) e/\Mods (fun h=>h=g) w wr) (fun _ q _=>m - (intOf q).toNat);case atStart=>exact⟨s,s+1,l,rfl,oak,oa,oa,k.o,bH.o.symm,rfl,a7,Mods.of_below E⟩
  case round=>
   clear E a7;obtain⟨b,c,e,rfl,rfl,bX,cg,aa,ac,Z,o,r⟩:=hrel;have b2:=r.size;by_cases cd:c<m
   ·have bE:(c:Int)<(m:Int):=(by omega);have b0:(b:Int)<(m:Int):=oa;obtain⟨a,y⟩:∃a,l[c]?=some a:=⟨l[c]'(by rw[k.o];omega),xG _⟩;have av:e[c]?=some a:=(by have I:(e.drop c)[0]?=(l.drop c)[0]?:=(by rw[Z]);simpa[y] using I);have j:=bf.o wr e (by rw[aa,k.o]) (by rw[k.o];exact o) c a av;have bS:wr.cell? (g,c*4)=a.c:=j 0 _ rfl;have bp:wr.cell? (g,c*4+1)=a.a:=j 1 _ rfl;have bs:wr.cell? (g,c*4+2)=a.b:=j 2 _ rfl;have bQ:wr.cell? (g,c*4+3)=a.n:=j 3 _ rfl;have X:Below wr wr (wr.alloc (.cells #[a.c,a.a,a.b,a.n] 68)):=aA;have bj:(wr.alloc (.cells #[a.c,a.a,a.b,a.n] 68)).cell? p=at_:=(X.cell (p:=p) (by show p<wr;omega)).trans ((xA (w:=w) (r.block p a4 bx)).trans bN.o);have O:=zpI a p at_ _ oi bj;have v:(wr.alloc (.cells #[a.c,a.a,a.b,a.n] 68)).heap[wr.heap.size]?=some (.cells #[a.c,a.a,a.b,a.n] 68 (0,0)):=World.alloc_heap_new _ _;have cj:g<wr:=oa;have al:qz at_ a=!decide (a.b<=at_):=rfl;obtain⟨bL,bl⟩:=aY (decide (a.b<=at_));rw[bl] at O al;have bB:=zA y;have au:=zA ac;have aH:=zA Z;have i:=zA aa;have aw:=zA al;clear j av y ac Z aa al bl;go_upto_region 8 with fail;obtain⟨t,a5⟩:=aY (wr.alloc (.cells #[a.c,a.a,a.b,a.n] 68));try simp only[a5] at X bj O v ⊢
    clear a5 bS bp bs bQ;have aj:=aC v 0;have bg:=aC v 1;have a9:=aC v 2;have bc:=aC v 3;have W:wr.heap.size<t.heap.size:=aL v;have ca:=zA v;clear v;have bb:(l.take (c+1)).filter (qz at_)=(l.take c).filter (qz at_)++(if qz at_ a then[a] else[]):=(by rw[vg,bB.o,zap];simp only[Option.toList_some,zeS,zhM]);have a2:=zA bb;clear bb;cases bL
    ·go_upto_region 9 with(go_at_call 150;refine O.mono ?_;rintro d f ⟨rfl,x⟩);have b7:=(x.cell (p:=wr) W).trans aj;have b6:=(x.cell (p:=(wr,1)) W).trans bg;have cc:=(x.cell (p:=(wr,2)) W).trans a9;have ce:=(x.cell (p:=(wr,3)) W).trans bc;have N:Below wr wr f:=zK X x;have A:zG base 68 4 zb f (.slice (some g) m cap) e:=xI o fun c d=>N.block c (xJ o c d);have j:=bf.o f e (by rw[i.o,k.o]) obo b (e[b]'(oai)) (xG _);have bA:f.cell? (g,b*4)=(e[b]'(oai)).c:=j 0 _ rfl;have bR:f.cell? (g,b*4+1)=(e[b]'(oai)).a:=j 1 _ rfl;have bw:f.cell? (g,b*4+2)=(e[b]'(oai)).b:=j 2 _ rfl;have bo:f.cell? (g,b*4+3)=(e[b]'(oai)).n:=j 3 _ rfl;generalize(e[b]'(oai)).c=b5 at bA;generalize(e[b]'(oai)).a=bU at bR;generalize(e[b]'(oai)).b=b3 at bw;generalize(e[b]'(oai)).n=b4 at bo;have bZ:f.frozen? (g,b*4)=false:=T.o f e _ obo;have b1:f.frozen? (g,b*4+1)=false:=T.o f e _ obo;have bV:f.frozen? (g,b*4+2)=false:=T.o f e _ obo;have b8:f.frozen? (g,b*4+3)=false:=T.o f e _ obo;have ba:=A.setT a (by rw[i.o];omega:b<e.length);have bC:=zA ba;clear j o O ba A aj bg a9 bc;go_wp2;have bJ:Mods (fun h=>h=g) w ((((f.setCell (g,b*4) a.c).setCell (g,b*4+1) a.a).setCell (g,b*4+2) a.b).setCell (g,b*4+3) a.n):=
      ((((r.trans (Mods.of_below N)).setC (.inl rfl) _).setC (.inl rfl) _).setC (.inl rfl) _).setC (.inl rfl) _
     refine⟨⟨b+1,c+1,e.set b a,oak,oak,oa,oa,by rw[zcK,i.o],?_,?_,bC.o,bJ⟩,oY⟩
     ·rw[a2.o,aw.o,<-au.o];have:b<e.length:=oai;rw[vg,zdc (by simpa using this),List.take_set_of_le (zU _)];simp
     ·rw[List.drop_set_of_lt oa];have I:=congrArg (List.drop 1) aH.o;simpa[zjX,Nat.add_comm] using I
    ·go_wp2_with (go_at_call 150;refine O.mono ?_;rintro d f ⟨rfl,x⟩);have N:Below wr wr f:=zK X x;refine⟨⟨b,c+1,e,rfl,oak,oa,oa,i.o,?_,?_,xI o fun c d=>N.block c (xJ o c d),r.trans (Mods.of_below N)⟩,oY⟩
     ·rw[a2.o,aw.o,au.o];simp
     ·have I:=congrArg (List.drop 1) aH.o;simpa[zjX,Nat.add_comm] using I
   ·obtain rfl:c=m:=(by omega);have bE:¬(c:Int)<(c:Int):=oa;have cf:(b:Int)<=c:=oa;obtain⟨ab,R⟩:=zad o (b:=g) rfl;have bF:ab.size=cap*4:=by
     rcases o.2 with⟨d,_⟩|⟨ai,ao,bY,d,ag,F,z,ad,B,a8⟩
     ·cases d
     ·cases d;rw[R] at F;cases F;exact B
    obtain⟨M,G⟩:=aY (List.replicate ((c - b)*4) (Value.int .u64 0));have bn:∀aZ,(Builtin.clear_ #[37] aZ #[.slice (some ⟨g,b*4,none⟩) (c - b) (cap - b)]).run Tryz.prog wr= .ok (.tuple #[]) (wr.setCells g (b*4) M):=(by intro aZ;have bv:=run_storeCells_cells (P:=Tryz.prog) g (b*4) M 0 wr (fun q V=>by rw[<-G,List.length_replicate] at V;simp[World.cell?,R];omega) (fun q V=>by simp[World.frozen?,R]) (by rw[<-G];intro ae bT;rw[List.eq_of_mem_replicate bT];rfl);have bP:∀w,(zeroValue 68).run Tryz.prog w= .ok (.agg #[.int .u64 0,.int .u64 0,.int .u64 0,.int .u64 0]) w:=fun w=>oe;obtain⟨a6,bI⟩:∃a6,c - b=a6+1:=⟨c - b - 1,oa⟩;rw[bI] at G ⊢;simp[Builtin.clear_,jM zbf,bP,zqz,G,bv]);have af:=o.cutT M (by omega:b<=e.length);obtain⟨az,bi,ar,bh,aP⟩:=zdo g M (b*4) wr;have bu:Mods (fun h=>h=g) w (wr.setCells g (b*4) M):=⟨ar.trans r.os,bh.trans r.tape,aP.trans r.output,(by rw[bi];exact r.size),fun h bG B=>(az h B).trans (r.block h bG B)⟩;have ax:e.take b=l.filter (qz at_):=(by rw[ac,<-k.o,qJ]);rw[ax] at af;have br:=zA af;clear R bF G az bi ar bh aP ac Z af ax o aa a1 z;have cb:(b:Int)<=cap:=oa;go_wp2_with (refine zl9 rfl _ _ rfl _ rfl bn ?_);go_ret;exact⟨b,rfl,br.o,bu⟩
def zit(base:Nat)(v:zJ)(l:List zL)(w:zC)(e:Ending)(w':zC):Prop:=
 ∃a,e= .returned a/\zG base 68 4 zb w' a l/\(a.ownBlock=v.ownBlock\/∀b,a.ownBlock=some b->w.heap.size<=b)/\Mods (fun c=>v.ownBlock=some c) w w'
theorem zr5(base:Nat)(v:Value)(y:List zL)(t:zL)(w:World)(h:zG base 68 4 zb w v y)(bt:base<=w.heap.size)(ad:y.length<=1000000):
 Calls Tryz.prog 148 #[v,.agg #[.int .u64 t.c,.int .u64 t.a,.int .u64 t.b,.int .u64 t.n]] w (zit base v (yt y t) w):=by
 obtain⟨ar,X,Y,ac,ae⟩:=yI zgA;have n:Below w w (w.alloc (.cells #[t.c,t.a,t.b,t.n] 68)):=aA;have g:(w.alloc (.cells #[t.c,t.a,t.b,t.n] 68)).heap[w.heap.size]?=some (.cells #[t.c,t.a,t.b,t.n] 68 (0,0)):=World.alloc_heap_new _ _;have O:∀(f o:zC) (l:zJ) (ax:Nat),y.length=ax->Below w w f->o.ownsRow base 68 4 l (ax+1) (y.flatMap zb++zb t)->World.grownBy (f.alloc (.cells #[t.c,t.a,t.b,t.n] 68)) o v.ownBlock->(l.ownBlock=v.ownBlock\/l.ownBlock=some (f.heap.size+1))->yt y t=y++[t]->zit base v (yt y t) w (.returned l) o:=fun f o l ax bi bb bo x s G=>by
  refine⟨l,rfl,?_,?_,?_⟩
  ·rw[G];unfold zG;rw[xY,qe,bi];simpa using bo
  ·rcases s with d|d
   ·exact .inl d
   ·refine .inr fun q b=> ?_;rw[d] at b;cases b;have:=bb.size;omega
  ·exact((Mods.of_below bb).alloc _).grown x (fun q b=> .inl b)
 rcases zeM y with rfl|⟨m,a,rfl⟩
 ·obtain⟨p,C,rfl⟩:∃p ab,v= .slice p 0 ab:=ys h;have G:yt [] t= []++[t]:=rfl;have M:=zA fun f o l E a5 av aZ=>O f o l 0 rfl E a5 av aZ G;have N:=zA fun f (Z:Below w w f)=>(show World.ownsRow (f.alloc (.cells #[t.c,t.a,t.b,t.n] 68)) base 68 4 (.slice p 0 C) 0 ([].flatMap zb) from zbn (xI h fun q b=>Z.block q (xJ h q b)) _);have a0:=zA h;clear O h G;go_enter Tryz.func148,Tryz.ntmps148;go_upto_region 2 with fail;generalize w.alloc (.cells #[t.c,t.a,t.b,t.n] 68)=f at n g ⊢;have r:=aL g;have H:=aU (aC g 0);refine aQ ?_;intro W' hC' hBW';have j:=zK n hBW';have e:=(hBW'.block w r).trans g;clear H hC' hBW' g r n;have a4:=aC e 0;have a3:=aC e 1;have ap:=aC e 2;have a7:=aC e 3;have a1:=j.size;go_wp2_with (at_builtin;refine jL _ rfl _ _ 37 rfl base 68 ar (.agg #[zH,zH,zH,zH]) 4 32 zbf X Y ac ae rfl ol _ _ _ rfl (N.o _ j) W' 1 1 (zb t) rfl rfl ?d1 ?d2 ?d3 ?d4 ?d5 ?_);case d1=>exact zgB _ _ t rfl
  case d2=>exact zdC t
  case d3=>decide
  case d4=>decide
  case d5=>simp;omega
  intro l o D x aH s;go_wp2;go_ret;exact M.o W' o l j D x s
 ·obtain⟨c,ag⟩:=aY m.length;rw[zcn] at h ad O ⊢;have ah:(m++[a]).length=c+1:=by simp[ag]
  obtain⟨p,C,rfl⟩:∃p ab,v= .slice p (c+1) ab:=by rw[<-ah];exact ys h
  obtain⟨d,rfl⟩:∃q,p=some ⟨q,0,none⟩:=by
   rcases h.2 with⟨b,bn⟩|⟨d,C,bh,b,_⟩
   ·simp at bn
   ·simp only[ve] at b;exact⟨_,b.1⟩
  have aa:d<w.heap.size:=xJ h d rfl;have am:yt (m++[a]) t=if a.c=t.c/\a.b=t.a/\a.n=t.n then m++[⟨a.c,a.a,t.b,a.n⟩] else m++[a]++[t]:=by unfold yt;rw[zeN];simp only[zhW]
  have M:=zA fun(G:yt (m++[a]) t=m++[a]++[t]) f o l E a5 av aZ=>O f o l (c+1) ah E a5 av aZ G;have N:=zA fun f (Z:Below w w f)=>(show World.ownsRow (f.alloc (.cells #[t.c,t.a,t.b,t.n] 68)) base 68 4 (.slice (some d) (c+1) C) (c+1) ((m++[a]).flatMap zb) from zbn (by have E:zG base 68 4 zb f (.slice (some d) (c+1) C) (m++[a]):=xI h fun q b=>Z.block q (xJ h q b);unfold zG at E;rwa[ah] at E) _);have ak:∀(W:Nat) (F:zJ),(zb a)[W]?=some F->w.cell? (d,c*4+W)=some F:=fun W F be=>by
   have bj:=zG.slice (k:=4) (enc:=zb) (fun _=>rfl) h;rcases bj with⟨b,_⟩|⟨q,bx,ab,b,_,_,bf⟩
   ·cases b
   ·simp only[ve,jC,zco] at b;obtain⟨⟨rfl,rfl,_⟩,_⟩:=b;have:=bf c a (by rw[<-ag];simp) W F be;simpa using this
  have a0:=zA h;have bz:=zA am;have az:=zA ag;have bs:c+1<=1000000:=oa;have bq:(c:Int)+1 - 1=c:=oa;have bA:(0:Int)<=(c:Int):=oa;obtain⟨a2,I⟩:∃R,decide (a.c=t.c)=R:=⟨_,rfl⟩;obtain⟨a6,B⟩:∃R,decide (a.b=t.a)=R:=⟨_,rfl⟩;obtain⟨au,A⟩:∃R,decide (a.n=t.n)=R:=⟨_,rfl⟩;have K:(a2 && a6 && au)=false->yt (m++[a]) t=m++[a]++[t]:=fun b=>by rw[am,zN];rintro⟨af,ai,aj⟩;rw[<-I,<-B,<-A,zeX af,zeX ai,zeX aj] at b;cases b
  have aP:(a2 && a6 && au)=true->yt (m++[a]) t=m++[⟨a.c,a.a,t.b,a.n⟩]:=fun b=>by rw[<-I,<-B,<-A] at b;simp only[xr,xW] at b;rw[am,zP ⟨b.1.1,b.1.2,b.2⟩]
  have K:=zA K;have aP:=zA aP;clear O h am ah ag ad;go_enter Tryz.func148,Tryz.ntmps148;go_upto_region 2 with fail;generalize w.alloc (.cells #[t.c,t.a,t.b,t.n] 68)=f at n g ⊢;have r:=aL g;have aw:d<f:=zg aa n.size;have H:=aU (aC g 0);have aq:=aU (aC g 1);have ao:=aU (aC g 3);have L:∀V:zM f,V.val.cell? (d,c*4)=a.c:=zM.cell aw ((n.cell (p:=(d,c*4)) aa).trans (ak 0 _ rfl));have J:∀V:zM f,V.val.cell? (d,c*4+2)=a.b:=zM.cell aw ((n.cell (p:=(d,c*4+2)) aa).trans (ak 2 _ rfl));have T:∀V:zM f,V.val.cell? (d,c*4+3)=a.n:=zM.cell aw ((n.cell (p:=(d,c*4+3)) aa).trans (ak 3 _ rfl));clear ak;cases a2
  ·have af:(a.c==t.c)=false:=(by simpa using I);clear I B A;refine aQ ?_;intro W' hC' hBW';have j:=zK n hBW';have e:=(hBW'.block w r).trans g;clear H aq ao L J T hC' hBW' g r n;have a4:=aC e 0;have a3:=aC e 1;have ap:=aC e 2;have a7:=aC e 3;have a1:=j.size;go_wp2_with (at_builtin;refine jL _ rfl _ _ 37 rfl base 68 ar (.agg #[zH,zH,zH,zH]) 4 32 zbf X Y ac ae rfl ol _ _ _ rfl (N.o _ j) W' 1 1 (zb t) rfl rfl ?d1 ?d2 ?d3 ?d4 ?d5 ?_);case d1=>exact zgB _ _ t rfl
   case d2=>exact zdC t
   case d3=>unfold maxLen;omega
   case d4=>omega
   case d5=>simp;omega
   intro l o D x aH s;go_wp2;go_ret;exact M.o (K.o rfl) W' o l j (by simpa using D) x s
  ·have af:a.c=t.c:=(by simpa using I);clear I;rw[af] at L;cases a6
   ·have ai:(a.b==t.a)=false:=(by simpa using B);clear B A;refine aQ ?_;intro W' hC' hBW';have j:=zK n hBW';have e:=(hBW'.block w r).trans g;clear H aq ao L J T hC' hBW' g r n;have a4:=aC e 0;have a3:=aC e 1;have ap:=aC e 2;have a7:=aC e 3;have a1:=j.size;go_wp2_with (at_builtin;refine jL _ rfl _ _ 37 rfl base 68 ar (.agg #[zH,zH,zH,zH]) 4 32 zbf X Y ac ae rfl ol _ _ _ rfl (N.o _ j) W' 1 1 (zb t) rfl rfl ?d1 ?d2 ?d3 ?d4 ?d5 ?_);case d1=>exact zgB _ _ t rfl
    case d2=>exact zdC t
    case d3=>unfold maxLen;omega
    case d4=>omega
    case d5=>simp;omega
    intro l o D x aH s;go_wp2;go_ret;exact M.o (K.o rfl) W' o l j (by simpa using D) x s
   ·have ai:a.b=t.a:=(by simpa using B);clear B;rw[ai] at J;cases au
    ·have aj:(a.n==t.n)=false:=(by simpa using A);clear A;refine aQ ?_;intro W' hC' hBW';have j:=zK n hBW';have e:=(hBW'.block w r).trans g;clear H aq ao L J T hC' hBW' g r n;have a4:=aC e 0;have a3:=aC e 1;have ap:=aC e 2;have a7:=aC e 3;have a1:=j.size;go_wp2_with (at_builtin;refine jL _ rfl _ _ 37 rfl base 68 ar (.agg #[zH,zH,zH,zH]) 4 32 zbf X Y ac ae rfl ol _ _ _ rfl (N.o _ j) W' 1 1 (zb t) rfl rfl ?d1 ?d2 ?d3 ?d4 ?d5 ?_);case d1=>exact zgB _ _ t rfl
     case d2=>exact zdC t
     case d3=>unfold maxLen;omega
     case d4=>omega
     case d5=>simp;omega
     intro l o D x aH s;go_wp2;go_ret;exact M.o (K.o rfl) W' o l j (by simpa using D) x s
    ·have aj:a.n=t.n:=(by simpa using A);clear A;rw[aj] at T;refine aQ ?_;intro W' hC' hBW';have j:=zK n hBW';have e:=(hBW'.block w r).trans g;clear H aq ao L J T hC' hBW' g r n;have ap:=aC e 2;have al:zG base 68 4 zb W' (.slice (some d) (c+1) C) (m++[a]):=xI a0.o fun q b=>j.block q (xJ a0.o q b);obtain⟨bh,a8⟩:=zad al (b:=d) rfl;have br:W'.frozen? (d,c*4+2)=false:=(by simp[World.frozen?,a8]);have ay:=zG.set (k:=4) (enc:=zb) (i:=2) (x:=a) (z:=⟨a.c,a.a,t.b,a.n⟩) (u:=t.b) (fun _=>rfl) al (j:=c) (by rw[<-az.o];simp) ol rfl;have ba:(m++[a]).set c ⟨a.c,a.a,t.b,a.n⟩=m++[⟨a.c,a.a,t.b,a.n⟩]:=(by rw[<-az.o,zdU _ _ (zU _)];simp);rw[ba] at ay;have bg:∃F,W'.cell? (d,c*4+2)=some F:=by
      rcases al.2 with⟨b,_⟩|⟨bu,bB,a9,b,Z,bl,ad,bp,bc,bw⟩
      ·cases b
      ·simp only[ve,jC,zco] at b;obtain⟨⟨rfl,_⟩,_,rfl⟩:=b;have bm:c*4+2<a9.size:=(by rw[bc];simp at ad;have:=az.o;omega);exact⟨a9[c*4+2],by simp[World.cell?,bl,bm]⟩
     obtain⟨bC,bv⟩:=bg;have bd:=zA ay;clear a8 ay ba al;go_wp2;go_ret;exact⟨_,rfl,by rw[aP.o rfl];exact bd.o,.inl rfl,(show Mods (fun k=>(Value.slice (some d) (c+1) C).ownBlock=some k) w W' from Mods.of_below j).setC (p:=(d,c*4+2)) (.inl rfl) _⟩
structure j8(base bO bA bR:Nat)(vO vR:zJ)(at_:Int)(out opn:List zL)(w:zC):Prop where
 bO:Boxed w bO 37 vO
 bA:Boxed w bA 43 at_
 bR:Boxed w bR 37 vR
 rO:zG base 68 4 zb w vO opn
 rR:zG base 68 4 zb w vR out
 ne:∀b,vO.ownBlock=some b->vR.ownBlock≠some b
theorem j8.below{base d e c:Nat}{k h:zJ}{at_:Int}{i j:List zL}{w w':zC}(a:j8 base d e c k h at_ i j w)(b:Below w w w'):j8 base d e c k h at_ i j w' where
 bO:=(b.block _ a.bO.lt).trans a.bO
 bA:=(b.block _ a.bA.lt).trans a.bA
 bR:=(b.block _ a.bR.lt).trans a.bR
 rO:=a.rO.blk fun f g=>b.block f (a.rO.lt g)
 rR:=a.rR.blk fun f g=>b.block f (a.rR.lt g)
 ne:=a.ne
theorem j8.setA{base e c d:Nat}{k h:zJ}{at_:Int}{i j:List zL}{W:zC}(b:j8 base e c d k h at_ i j W)(l:e≠c)(m:c≠d)(a:Int):j8 base e c d k h a i j (W.setCell c a) where
 bO:=b.bO.other l _
 bA:=b.bA.set _
 bR:=b.bR.other m.symm _
 rO:=b.rO.blk fun f g=>zZ _ _ _ _ (by show ¬f=c;rintro rfl;exact b.bA.not_row (by decide) b.rO g.symm)
 rR:=b.rR.blk fun f g=>zZ _ _ _ _ (by show ¬f=c;rintro rfl;exact b.bA.not_row (by decide) b.rR g.symm)
 ne:=b.ne
theorem j8.join{base h f d:Nat}{i j g:zJ}{at_:Int}{y n l:List zL}{W e:zC}(a:j8 base h f d i j at_ y n W)(v:h≠d)(s:f≠d)(r:zG base 68 4 zb e g l)(t:g.ownBlock=j.ownBlock\/∀c,g.ownBlock=some c->W.heap.size<=c)(k:Mods (fun u=>j.ownBlock=some u) W e):
 j8 base h f d i g at_ l n (e.setCell d g):=by
 have w:Boxed e h 37 i:=(k.block _ a.bO.lt (fun b=>a.bO.not_row ol a.rR b.symm)).trans a.bO;have x:Boxed e f 43 at_:=(k.block _ a.bA.lt (fun b=>a.bA.not_row ol a.rR b.symm)).trans a.bA;have o:Boxed e d 37 j:=(k.block _ a.bR.lt (fun b=>a.bR.not_row ol a.rR b.symm)).trans a.bR;have p:zG base 68 4 zb e i n:=a.rO.blk fun c b=>k.block c (a.rO.lt b) (a.ne c b);exact {
  bO:=w.other v _
  bA:=x.other s _
  bR:=o.set _
  rO:=p.blk fun c b=>zZ _ _ _ _ (by show ¬c=d;rintro rfl;exact o.not_row (by decide) p b.symm)
  rR:=r.blk fun c b=>zZ _ _ _ _ (by show ¬c=d;rintro rfl;exact o.not_row (by decide) r b.symm)
  ne:=fun c b q=>by
   rcases t with m|m
   ·exact a.ne c b (m ▸ q)
   ·have:=m c q;have:=a.rO.lt b;omega}
theorem j8.del{base d f g:Nat}{j k h:zJ}{at_:Int}{p t l:List zL}{W e:zC}(a:j8 base d f g j k at_ p t W)(s:d≠f)(w:d≠g)(r:zG base 68 4 zb e h l)(u:h.ownBlock=j.ownBlock\/∀c,h.ownBlock=some c->W.heap.size<=c)(m:Mods (fun v=>j.ownBlock=some v) W e):
 j8 base d f g h k at_ p l (e.setCell d h):=by
 have o:Boxed e d 37 j:=(m.block _ a.bO.lt (fun b=>a.bO.not_row ol a.rO b.symm)).trans a.bO;have x:Boxed e f 43 at_:=(m.block _ a.bA.lt (fun b=>a.bA.not_row ol a.rO b.symm)).trans a.bA;have y:Boxed e g 37 k:=(m.block _ a.bR.lt (fun b=>a.bR.not_row ol a.rO b.symm)).trans a.bR;have q:zG base 68 4 zb e k p:=a.rR.blk fun c b=>m.block c (a.rR.lt b) (fun i=>a.ne c i b);exact {
  bO:=o.set _
  bA:=x.other s.symm _
  bR:=y.other w.symm _
  rO:=r.blk fun c b=>zZ _ _ _ _ (by show ¬c=d;rintro rfl;exact o.not_row (by decide) r b.symm)
  rR:=q.blk fun c b=>zZ _ _ _ _ (by show ¬c=d;rintro rfl;exact o.not_row (by decide) q b.symm)
  ne:=fun c b i=>by
   rcases u with n|n
   ·exact a.ne c (n ▸ b) i
   ·have:=n c b;have:=a.rR.lt i;omega}
theorem Mods.transU{S T:Nat->Prop}{a b c:zC}(e:Mods S a b)(g:Mods T b c)(j:∀d,T d->S d\/a.heap.size<=d):Mods S a c:=
 ⟨g.os.trans e.os,g.tape.trans e.tape,g.output.trans e.output,zk e.size g.size,fun d h i=>(g.block d (zg h e.size) (fun k=>by rcases j d k with f|f;exact i f;omega)).trans (e.block d h i)⟩
def zpP(d c b:Nat)(e a:zJ)(k:Nat):Prop:=k=d\/k=c\/k=b\/e.ownBlock=some k\/a.ownBlock=some k
def zpQ(base g h f:Nat)(k e:zJ)(l:List zL)(c te:Int)(L:Nat)(w wr:zC):Prop:=
 ∃j d at_ a b,j8 base g h f j d at_ a b wr/\Sw l c at_ a b/\at_<=te/\(at_<te->a.length+b.length<=L)/\a.length+b.length<=L+1/\Mods (zpP g h f k e) w wr/\j.ownBlock=k.ownBlock/\(d.ownBlock=e.ownBlock\/∀i,d.ownBlock=some i->w.heap.size<=i)
def zwl(base j f i:Nat)(g h:zJ)(m:List zL)(c te:Int)(L:Nat)(w:zC)(e:Ending)(w':zC):Prop:=
 e=jB/\∃l b at_ d a,j8 base j f i l b at_ d a w'/\Sw m c at_ d a/\at_<=te/\(a= []\/at_=te)/\d.length+a.length<=L+1/\Mods (zpP j f i g h) w w'/\l.ownBlock=g.ownBlock/\(b.ownBlock=h.ownBlock\/∀k,b.ownBlock=some k->w.heap.size<=k)
theorem zwm{te:Int}{l:List zL}{j:Nat}{t:zL}(h:l[j]?=some t):qD te (l.take (j+1))=min (qD te (l.take j)) t.b:=by rw[vg,h];simp[qD,vK]
theorem zwn{l:List zL}{j:Nat}{t:zL}(h:l[j]?=some t):zae (l.take (j+1))=max (zae (l.take j)) t.n:=by rw[vg,h];simp[zae,vK]
theorem zwo{te:Int}{l:List zL}(g:qD te l<te):(l.filter (qz (qD te l))).length<l.length:=by
 have c:∃a∈l,a.b<=qD te l:=by
  have:∀(l:List zL) (b:Int),qD b l<b->∃a∈l,a.b<=qD b l:=by
   intro l;induction l with
   |nil=>intro b c;simp[qD] at c
   |cons a l e=>
    intro b c;by_cases h:qD (min b a.b) l<min b a.b
    ·obtain⟨j,f,d⟩:=e _ h;exact⟨j,obt,d⟩
    ·have m:=(zlK l (min b a.b)).1;have n:qD b (a::l)=qD (min b a.b) l:=rfl;exact⟨a,oh,oa⟩
  exact this l te g
 obtain⟨a,k,d⟩:=c;have:(l.filter (qz (qD te l))).length≠l.length:=fun i=>by have:=zeQ.1 (List.Sublist.eq_of_length (List.filter_sublist) i) a k;simp[qz] at this;omega
 have:=jV (qz (qD te l)) l;omega
theorem zwp(a:List zL)(t:zL):(yt a t).length<=a.length+1:=by
 unfold yt;cases h:a.getLast? with
 |none=>simp
 |some b=>
  dsimp only;have:=ziE h;split
  ·rw[xY,List.length_dropLast];simp only[z7,xB];omega
  ·simp
theorem zlR (base q k o:Nat) (H B:zJ) (K g b:List zL) (c te at_:Int) (w:zC) (n:j8 base q k o H B at_ g b w) (z:Sw K c at_ g b) (I:at_<=te) (bE:te<=9007199254740992)
 (bA:g.length+b.length<=500000) (b6:base<=w) (a1:q≠k) (a6:q≠o) (aq:k≠o):
 Calls zD 147 #[c,te,q,k,o] w (zwl base q k o H B K c te (g.length+b.length) w):=by
 have ae:zpQ base q k o H B K c te (g.length+b.length) w w:=⟨H,B,at_,g,b,n,z,I,fun _=>zU _,oa,Mods.refl _ _,rfl,.inl rfl⟩;obtain⟨bt,au⟩:=aY (g.length+b.length);rw[au] at ae bA ⊢;have aZ:=zA ae;clear n z I au ae g b at_;go_enter Tryz.func147,Tryz.ntmps147;go_wp2;go_loopw [] (fun wr=>zpQ base q k o H B K c te bt w wr) (fun wr=>match wr.cell? k with|some (.int _ a)=>(te - a).toNat|_=>0)
 case atStart=>exact aZ.o
 case round=>
  clear aZ;obtain⟨b8,af,at_,g,b,n,z,I,a3,bd,O,V,ak⟩:=hrel;have a5:=n.bO.cell;have bZ:=n.bA.cell;have J:=zA n;have aa:=zA z;have T:=zA ak;obtain⟨y,C,rfl⟩:=n.rO.len;obtain⟨u,G⟩:=aY b.length;by_cases bH:u=0
  ·subst bH;have bR:b= []:=zcq.1 G;subst bR;simp only[xB] at a5;clear n z ak G;go_wp2;go_end0;exact⟨rfl,_,_,_,_,_,J.o,aa.o,I,.inl rfl,bd,O,V,T.o⟩
  ·rw[G] at a5;obtain⟨bh,ac⟩:∃h,b[0]?=some h:=⟨b[0]'(oa),xG _⟩;obtain⟨i,rfl,L,b3,bq,r⟩:=zG.elem (k:=4) (enc:=zb) (fun _=>rfl) n.rO ac;have bw:wr.cell? i=bh.c:=(by simpa using r 0 _ rfl);rw[(z.open_ bh (xn ac)).2.1] at bw;have cf:(0:Int)<u:=oa;have b9:u<=500001:=oa;have b1:((c:Int)==c)=true:=oh;have t:=zA G;clear n z ak G bq r ac;by_cases X:at_<te
   ·have bF:decide (at_<te)=true:=(by simp[X]);have a3:=a3 X;obtain⟨bY,bg,ba,ax⟩:=Sw.step aa.o (fun f=>by rw[f] at t;have:=t.o;simp at this;omega) X bE;have az:=zA ax;clear ax;obtain⟨N,rfl⟩:∃N:zC,N=wr:=⟨_,rfl⟩;go_wp2;go_loopw [7,8,30] (fun bG bM ab wx=>∃(e:Nat) (d j:Int),ab=zB e/\e<=u/\bG=d/\bM=j/\d=qD te (b.take e)/\j=zae (b.take e)/\Below N N wx) (fun _ _ ab _=>u - (intOf ab).toNat);case atStart=>exact⟨0,te,0,rfl,oa,rfl,rfl,by simp[qD],by simp[zae],zf _ _⟩
    case round=>
     obtain⟨e,d,j,rfl,b4,rfl,rfl,s,x,p⟩:=hrel;have aj:=zA s;have ad:=zA x;clear s x;by_cases bs:e<u
     ·as_aux_lemma=>
      have cc:(e:Int)<u:=oa;obtain⟨h,R⟩:∃h,b[e]?=some h:=⟨b[e]'(by rw[t.o];omega),xG _⟩;obtain⟨bz,av,_,_,_,r⟩:=zG.elem (k:=4) (enc:=zb) (fun _=>rfl) J.o.rO R;obtain rfl:i=bz:=(by simpa using av);have ck:wr.cell? (i,e*4)=h.c:=(p.cell (p:=(i,e*4)) L).trans (r 0 _ rfl);have b0:wr.cell? (i,e*4+1)=h.a:=(p.cell (p:=(i,e*4+1)) L).trans (r 1 _ rfl);have F:wr.cell? (i,e*4+2)=h.b:=(p.cell (p:=(i,e*4+2)) L).trans (r 2 _ rfl);have ch:wr.cell? (i,e*4+3)=h.n:=(p.cell (p:=(i,e*4+3)) L).trans (r 3 _ rfl);have bS:=zA (show min d h.b=qD te (b.take (e+1)) by rw[zwm R,aj.o]);have bW:=zA (show max j h.n=zae (b.take (e+1)) by rw[zwn R,ad.o]);have bo:=p.size;clear r av R;go_wp2;go_quiet (fail);go_wp2;exact⟨⟨e+1,_,_,oak,oa,rfl,rfl,bS.o,bW.o,zcH (p.alloc bo _) nq⟩,oY⟩
     ·as_aux_lemma=>
      obtain rfl:e=u:=oa;have a9:b.take e=b:=(by rw[<-t.o];exact qJ);have s:=aj.o;have x:=ad.o;rw[a9] at s x;rw[<-s] at bY bg ba;rw[<-x] at ba;rw[<-s,<-x] at az;have bf:=zA s;clear s x aj ad a9 bs;have m:=J.o.below p;have bb:Calls zD 148 #[af,.agg #[c,at_,d,j]] wr (zit base af (yt g ⟨c,at_,d,j⟩) wr):=zr5 base af g ⟨c,at_,d,j⟩ wr m.rR (by have:=O.size;have:=p.size;omega) oa;have ah:=zA m;have bL:=m.bO.cell;have bm:=m.bA.cell;have bO:=m.bR.cell;have bC:=m.bR.lt;have be:=m.bR.not_row ol m.rR;have ci:=m.bO.lt;have cd:=m.bA.lt;clear m;have bp:=O.trans (Mods.of_below p);have am:=zA bp;have br:=zA fun(bn:zJ) (an:zC) (a7:List zL) (E:zG base 68 4 zb an bn a7)=>zG.len E;go_upto_region 8 with(go_at_call 148;refine bb.mono ?_;rintro f an ⟨ca,rfl,ag,ai,W⟩;obtain⟨Z,F,rfl⟩:=br.o _ _ _ ag;have al:=(W.block o bC (fun f=>be f.symm)).trans ah.o.bR;have bV:=Boxed.cell al;have bl:=Boxed.frozen al);have D:=ah.o.join a6 aq ag ai W;have Y:=zA ((am.o.transU W (fun A f=>by
       rcases T.o with v|v
       ·exact .inl (.inr (.inr (.inr (.inr (v ▸ f)))))
       ·exact .inr (v A f))).setAt (p:=o) (.inl (.inr (.inr (.inl rfl)))) (.slice Z (yt g ⟨c,at_,d,j⟩).length F))
      have bi:=zA (show(Value.slice Z (yt g ⟨c,at_,d,j⟩).length F).ownBlock=B.ownBlock\/∀M,(Value.slice Z (yt g ⟨c,at_,d,j⟩).length F).ownBlock=some M->w.heap.size<=M from by
       rcases ai with v|v
       ·rw[v];exact T.o
       ·exact .inr fun M f=>zk am.o.size (v M f))
      obtain⟨a2,bc⟩:=aY (Value.slice Z (yt g ⟨c,at_,d,j⟩).length F);rw[bc] at D Y bi ⊢;generalize an.setCell o a2=bJ at D Y ⊢;clear ag ai W al bV bl bb ah am bc bL bm bO be;have bj:=zA D;have bU:=D.bA.cell;have bI:=D.bA.frozen;clear D;go_upto_region 9 with fail;have l:=bj.o.setA a1 aq d;have a8:=zA (Y.o.setAt (p:=k) (.inl (.inr (.inl rfl))) d);generalize bJ.setCell k d=ap at l a8 ⊢;clear bU bI bj Y;have aP:zG base 68 4 zb ap (.slice (some i) e C) b:=(by have:=l.rO;rwa[t.o] at this);have aw:k≠i:=fun f=>(by subst f;exact l.bA.not_row (by decide) l.rO rfl);have bB:=zq0 base k i e C d b ap l.bA.lt l.bA.cell aw aP (by rw[t.o];omega);have bP:=l.bO.cell;rw[t.o] at bP;have bQ:=l.bO.lt;have bx:=l.bO.not_row ol l.rO;have ay:=zA l;have cb:∀(aH:Fn) (first C:Array Value) (w:zC),(Instr.makeFunc aH first C).run zD w= .ok (.func aH first C) w:=fun _ _ _ _=>rfl;clear l aP aw;go_wp2_with (go_at_call 149;refine bB.mono ?_;rintro f bK ⟨ce,rfl,bD,ao⟩;have a0:=(ao.block q bQ (fun f=>bx (by rw[f];rfl))).trans ay.o.bO;have b5:=Boxed.cell a0;have b2:=Boxed.frozen a0);have bT:Mods (fun A=>(Value.slice (some i) b.length C).ownBlock=some A) ap bK:=ao.mono fun A f=>(by rw[f];rfl);have ar:=ay.o.del a1 a6 bD (.inl rfl) bT;have bv:=ar.bA.cell;have bN:=J.o.bA.cell;have bX:b.filter (qz d)=b.filter fun h=>decide (d<h.b):=by
       congr 1;funext h;unfold qz;by_cases E:h.b<=d
       ·have a4:¬d<h.b:=(by omega);simp[E]
       ·have a4:d<h.b:=(by omega);simp[E,a4]
      have cg:=zwp g ⟨c,at_,d,j⟩;have b7:=jV (qz d) b;have cj:=t.o;refine⟨⟨_,a2,d,yt g ⟨c,at_,d,j⟩,b.filter (qz d),ar,by rw[bX];exact az.o,bg,fun E=> ?_,oa,?_,?_,bi.o⟩,?_⟩
      ·have bu:=zwo (te:=te) (l:=b) (by rw[<-bf.o];exact E);rw[<-bf.o] at bu;omega
      ·exact(a8.o.transU ao (fun A f=> .inl (.inr (.inr (.inr (.inl (by rw[f,<-V];rfl))))))).setAt (p:=q) (.inl (.inl rfl)) _
      ·rw[<-V];rfl
      ·rw[bv,bN];show(te - d).toNat<(te - at_).toNat;omega
   ·have bF:decide (at_<te)=false:=(by simp[X]);go_wp2;go_end0;exact⟨rfl,_,_,_,_,_,J.o,aa.o,I,.inr oa,bd,O,V,T.o⟩
section
attribute [local go_sem] jl
def zwc(B a S:Nat)(w:zC)(c:List zL)(W:zC):Prop:=
 (∃b,Boxed W B 37 b/\zG a 68 4 zb W b c)/\Below a w W/\S<=W/\Boxed W (B+2) 159 (.func (.func 141) #[] #[])
end
end Go.Proofs.YtimlgcodecgecaaGreatDoor
