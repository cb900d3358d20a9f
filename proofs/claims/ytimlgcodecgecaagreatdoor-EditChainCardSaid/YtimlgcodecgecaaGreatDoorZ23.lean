/- Walks: the reference's sequence: At, within, farther, among (quireref9). -/
import Derived.Test.YtimlgcodecgecaaGreatDoorZ22
set_option maxRecDepth 100000
set_option maxHeartbeats 20000000
set_option linter.all false
namespace Go.Proofs.YtimlgcodecgecaaGreatDoor
open Go.RowKit Go.Lib
section
variable {Φ:yA}
def zhy(u:zV)(b:Bool)(w:zC)(e:Ending)(w':zC):Prop:=e= .returned (.tuple #[.agg #[u.id.c,u.id.k,u.left.c,u.left.k,u.right.c,u.right.k],.bool b])/\Below w w w'
theorem zuR(f:Nat)(T ae aa:Value)(n:List xP)(ak W:Nat->List Nat)(ai l:List Nat)(i k:Nat)(r:xP)(w:World)(h:yq Φ w f T ae aa n ak W ai l)(x:l[i]?=some k)(y:n[k]?=some r):
 Calls Tryz.prog 61 #[.pointer (some ⟨f,0,none⟩),.int .i64 i] w (zhy r.u true w):=by
 have C:=h.lt;obtain⟨L,_,R⟩:=h.c0;obtain⟨ba,ag,rfl,bc,H⟩:=h.od.1.shape;obtain⟨aZ,ax,rfl,a6,B⟩:=h.nl.1.shape;obtain⟨t,o,rfl,ac,J⟩:=H i k x;obtain⟨s,z,rfl,am,K⟩:=B k r y;have a3:i<l.length:=(zw.1 x).1;have aP:k<n.length:=(zw.1 y).1;have a7:decide ((i:Int)<0)=false:=oh;have bf:decide ((l.length:Int)<=i)=false:=oi;have E:w.cell? (t,o+i)=(zB k):=by simpa using J 0 _ rfl
 have e:Below w w (w.alloc (.cells #[zH,zH,zH,zH,zH,zH] 133)):=aB;have A:(w.alloc (.cells #[zH,zH,zH,zH,zH,zH] 133)).heap[w.heap.size]?=some (.cells #[zH,zH,zH,zH,zH,zH] 133 (0,0)):=World.alloc_heap_new _ _;have ab:=zA K;clear H B J K h x y;go_enter Tryz.func61,Tryz.ntmps61;go_upto_region 1 with fail;generalize w.alloc (.cells #[zH,zH,zH,zH,zH,zH] 133)=d at e A ⊢;have a5:=aL A;have D:d.cell? f=some (.slice (some (s,z)) n.length ax):=(e.cell (p:=f) C).trans L;have O:d.cell? (f,2)=some (.slice (some (t,o)) l.length ag):=(e.cell (p:=(f,2)) C).trans R;have I:d.cell? (t,o+i)=(zB k):=(e.cell (p:=(t,o+i)) ac).trans E;clear L R E;go_upto_region 3 with fail;have a9:=e.size;have ar:=aV D;have aw:=aV O;have au:=aV I;have b:∀m q,(j5 r)[m]?=some q->∀ap:zI zX d,ap.val.cell? (s,z+k*10+m)=some q:=fun m q X=>zI.cell (by show s<_;omega) id ((e.cell (p:=(s,z+k*10+m)) am).trans (ab.o m q X));have F:=b 0 _ rfl;have ah:=b 1 _ rfl;have al:=b 2 _ rfl;have V:=b 3 _ rfl;have Z:=b 4 _ rfl;have Y:=b 5 _ rfl;simp only[jD] at F;clear b D O I;refine xU 14 [0,1,2,3,4,5,6,7,8,9,10,11,12,13] [14,15] zX (aM ?_);refine aR ?_;refine aS ?_;have a:d.drew.heap[w.heap.size]?=some (.cells #[zH,zH,zH,zH,zH,zH] 133 (0,0)):=A;have N:Below w w d.drew:=e.drew;clear ar aw au F ah al V Z Y;generalize d.drew=av at a N ⊢;have bg:=aC a 0;have a0:=aC a 1;have a4:=aC a 2;have be:=aC a 3;have a2:=aC a 4;have aH:=aC a 5;have c:∀M,av.frozen? ⟨w.heap.size,M,none⟩=false:=fun M=>obp;have bh:=c 0;have a8:=c 1;have bb:=c 2;have az:=c 3;have bd:=c 4;have a1:=c 5;clear c;go_wp2;refine aS ?_;go_wp2;refine xE ?_;go_wp2;have j:w.heap.size<=w.heap.size:=zU _;have G:=(((((N.setCell (p:=⟨w.heap.size,0,none⟩) j (.int .u64 r.u.id.c)).setCell (p:=⟨w.heap.size,1,none⟩) j (.int .u64 r.u.id.k)).setCell (p:=⟨w.heap.size,2,none⟩) j (.int .u64 r.u.left.c)).setCell (p:=⟨w.heap.size,3,none⟩) j (.int .u64 r.u.left.k)).setCell (p:=⟨w.heap.size,4,none⟩) j (.int .u64 r.u.right.c)).setCell (p:=⟨w.heap.size,5,none⟩) j (.int .u64 r.u.right.k);generalize u:World.setCell _ _ _=ay;have g:ay.heap[w.heap.size]?=some (.cells #[r.u.id.c,r.u.id.k,r.u.left.c,r.u.left.k,r.u.right.c,r.u.right.k] 133 (0,0)):=by subst u;simp[World.setCell,zu,a]
 try simp only[u] at G
 clear u;refine yG (v:= .tuple #[.agg #[r.u.id.c,r.u.id.k,r.u.left.c,r.u.left.k,r.u.right.c,r.u.right.k],.bool true]) ?_ rfl ⟨rfl,G⟩;have aj:=aC g 0;have ad:=aC g 1;have af:=aC g 2;have an:=aC g 3;have aq:=aC g 4;have ao:=aC g 5;simp[results,Tryz.results61,go_sem,aj,ad,af,an,aq,ao]
theorem zuS(f:Nat)(q C r:Value)(u:List xP)(A t:Nat->List Nat)(o e:List Nat)(i:Nat)(w:World)(h:yq Φ w f q C r u A t o e)(T:e.length<=i):
 Calls Tryz.prog 61 #[.pointer (some ⟨f,0,none⟩),.int .i64 i] w (zhy qu false w):=by
 have n:=h.lt;obtain⟨_,_,E⟩:=h.c0;obtain⟨D,I,rfl,Z,y⟩:=h.od.1.shape;have N:decide ((i:Int)<0)=false:=oh;have M:decide (e.length<=i)=true:=oi;have j:Below w w (w.alloc (.cells #[zH,zH,zH,zH,zH,zH] 133)):=aB;have a:(w.alloc (.cells #[zH,zH,zH,zH,zH,zH] 133)).heap[w.heap.size]?=some (.cells #[zH,zH,zH,zH,zH,zH] 133 (0,0)):=World.alloc_heap_new _ _;clear y h;go_enter Tryz.func61,Tryz.ntmps61;go_upto_region 1 with fail;generalize w.alloc (.cells #[zH,zH,zH,zH,zH,zH] 133)=m at j a ⊢;have ad:m.cell? (f,2)=some (.slice D e.length I):=(j.cell (p:=(f,2)) n).trans E;have W:=aC a 0;have O:=aC a 1;have ac:=aC a 2;have L:=aC a 3;have X:=aC a 4;have K:=aC a 5;have b:∀l,m.frozen? ⟨w.heap.size,l,none⟩=false:=fun l=>obp;have ab:=b 0;have Y:=b 1;have V:=b 2;have J:=b 3;have aa:=b 4;have R:=b 5;clear b;go_wp2;have c:w.heap.size<=w.heap.size:=zU _;have k:=(((((j.setCell (p:=⟨w.heap.size,0,none⟩) c (.int .u64 0)).setCell (p:=⟨w.heap.size,1,none⟩) c (.int .u64 0)).setCell (p:=⟨w.heap.size,2,none⟩) c (.int .u64 0)).setCell (p:=⟨w.heap.size,3,none⟩) c (.int .u64 0)).setCell (p:=⟨w.heap.size,4,none⟩) c (.int .u64 0)).setCell (p:=⟨w.heap.size,5,none⟩) c (.int .u64 0);generalize g:World.setCell _ _ _=F;have d:F.heap[w.heap.size]?=some (.cells #[zH,zH,zH,zH,zH,zH] 133 (0,0)):=by subst g;simp[World.setCell,zu,a]
 try simp only[g] at k
 clear g;refine yG (v:= .tuple #[.agg #[zH,zH,zH,zH,zH,zH],.bool false]) ?_ rfl ⟨rfl,k⟩;have z:=aC d 0;have x:=aC d 1;have H:=aC d 2;have G:=aC d 3;have B:=aC d 4;have s:=aC d 5;simp[results,Tryz.results61,go_sem,z,x,H,G,B,s]
theorem zkm(v:zJ)(l:List Nat)(i n:Nat)(w:zC)(h:zx Φ 1 yc w v l)(B:i<=l.length)(aa:l.length<=1000000):
 Calls zD 230 #[v,zB i,zB n] w (vu 3 1 yc (l.take i++n::l.drop i) w):=by
 obtain⟨ao,T,j⟩:=h.upto zoO zoP B;obtain⟨ap,J,o⟩:=h.from zoO zoP B;have x:(l.take i).length<=1000000:=oi;have y:(l.drop i).length<=1000000:=oi;generalize l.take i=l1 at j x ⊢;generalize l.drop i=q at o y ⊢;have af:=zA j;have z:=zA o;have s:=zA x;have ac:=zA y;obtain⟨L,X,ad,_,_⟩:=j.shape;obtain⟨I,F,W,_,_⟩:=o.shape;subst ad W;clear j o h aa x y;go_enter Tryz.func230,Tryz.ntmps230;go_wp2_with (at_builtin;refine yz zc5 rfl _ _ rfl w.heap.size () [] rfl zG.nil (.slice L l1.length X) l1 rfl af.o (by have:=s.o;simp only[xB];omega) (zU _) ?_);intro aj w3 u f _;obtain⟨Y,c3,rfl⟩:=u.len;have p:=zA u;have H:=zA (show Below w w w3 from(zf _ _).grown f (zU _) (fun a b=>by cases b));have ai:=zA (z.o.keep f.size fun a al n am b V=>f.block a V (by intro b;cases b));have an:∀e:zI (fun a=>w<=a) w3,(Instr.slice 141 v (zB (i:Int)) none none).run zD e.val= .ok (.slice I q.length F) e.val:=fun e=>J e.val;clear u f T J;go_upto_region 2 with fail;refine xU 7 [0,1,4,5,6] [2,3,7,8] (fun a=>w<=a) (aM ?_);refine aR ?_;refine aS ?_;go_wp2;refine⟨zI.to ((Mods.refl _ w3).alloc (.cells #[zB n] 3)).drew,?_⟩;refine aS ?_;have g:Below w w ((w3.alloc (.cells #[zB n] 3)).drew):=(H.o.alloc H.o.size _).drew;refine yz zc5 rfl _ _ rfl w.heap.size (.slice Y l1.length c3) l1 rfl ((p.o.al _).drew) (.slice (some w3) 1 1) [n] rfl (zc.one (k:=1) (enc:=yc) w3 n 3).drew (by have:=s.o;simp only[z7,xB];omega) g.size ?_;intro aq D m r _;have E:Mods (fun a=>w<=a) w3 D:=(((Mods.refl _ w3).alloc _).drew).grown r (fun a b=> .inl (p.o.ge b));have c:=zA (show Below w w D from g.grown r g.size (fun a b=>p.o.ge b));obtain⟨N,M,rfl⟩:=m.len;obtain⟨t,d⟩:=aY (l1++[n]);rw[d] at m ⊢;have A:=zA m;have ab:=zA E;have K:=zA (z.o.keep c.o.size fun a _ _ _ _ Z=>c.o.block a Z);have ag:=zA d;have ah:=zA (show t.length<=1000001 by rw[<-d];have:=s.o;simp;omega);clear m r E g d;go_wp2;refine⟨zI.to ab.o,?_⟩;refine aS ?_;refine yz zc5 rfl _ _ rfl w.heap.size (.slice N t.length M) t rfl A.o (.slice I q.length F) q rfl K.o (by have h1:=ac.o;have ak:=ah.o;omega) c.o.size ?_;intro ar R C G _;have ae:=zA C;have O:=zA (show Below w w R from c.o.grown G c.o.size (fun a b=>A.o.ge b));clear C G;go_wp2;refine aS ?_;go_wp2;refine xE ?_;go_wp2;go_ret;exact⟨_,rfl,by have:=ae.o;rw[<-ag.o] at this;simpa using this,O.o⟩
end
section
variable {Φ:yA}
theorem zn1(x b:zF)(w:zC):
 Calls zD 111 #[.agg #[x.c,x.k],.agg #[b.c,b.k]] w fun d c=>d= .returned (.bool (x.lessB b))/\Below w w c:=by
 go_enter Tryz.func111,Tryz.ntmps111;go_wp2;all_goals go_ret
 all_goals exact⟨vG (by simp[zF.lessB, *]),aB⟩
def j6(b:List xP)(a:List Nat)(r:zF):Int:=if r=zT then(a.length:Int)+1 else zaO b a r
def vS(a:List xP)(b:List Nat)(x c:zV):Bool:=if j6 a b x.right≠j6 a b c.right then decide (j6 a b c.right<j6 a b x.right) else x.id.lessB c.id
theorem zn2(c:List xP)(b:List Nat)(x:zF): -1<=zaO c b x/\zaO c b x<=b.length:=by
 unfold zaO;split
 ·have:=List.idxOf_le_length (a:=‹Nat›) (l:=b);omega
 ·omega
theorem zuT (l:Nat) (V ab Y:zJ) (a:List xP) (ae W:Nat->List Nat) (ad c:List Nat) (k j:Nat) (x b:xP) (w:zC) (h:yq Φ w l V ab Y a ae W ad c) (M:a[k]?=some x) (L:a[j]?=some b)
 (J:x.u.right=zT\/1<=x.u.right.c) (H:b.u.right=zT\/1<=b.u.right.c) (Z:∀k,jQ a x.u.right=some k->k∈c) (ag:∀k,jQ a b.u.right=some k->k∈c) (ax:c.length<=1000000):
 Calls zD 274 #[l,zB k,zB j] w fun o aj=>o= .returned (.bool (vS a c x.u b.u))/\Below w w aj:=by
 have K:=h.lt;have X:=zA (fun(s:zC) (hb:Below w w s) (i:zF) (ak:∀k,jQ a i=some k->k∈c)=>zn0 l V ab Y a ae W ad c i s (h.below hb) ak);obtain⟨R,_,au⟩:=h.c0;obtain⟨a4,aZ,rfl,a5,_⟩:=h.od.1.shape;obtain⟨aw,T,rfl,az,I⟩:=h.nl.1.shape;obtain⟨e,n,rfl,af,ai⟩:=I k x M;obtain⟨_,_,o,_,ah⟩:=I j b L;cases o;have av:k<a.length:=(zw.1 M).1;have a7:j<a.length:=(zw.1 L).1;have G:=zA (fun(s:zC) (hb:Below w w s) (i:Nat) (v:zJ) (hv:(j5 x)[i]?=some v)=>(hb.cell (p:=(e,n+k*10+i)) af).trans (ai i v hv));have E:=zA (fun(s:zC) (hb:Below w w s) (i:Nat) (v:zJ) (hv:(j5 b)[i]?=some v)=>(hb.cell (p:=(e,n+j*10+i)) af).trans (ah i v hv));have an:=zA Z;have al:=zA ag;clear I ai ah h M L Z ag;obtain⟨f,C⟩:=aY (j6 a c x.u.right);obtain⟨m,B⟩:=aY (j6 a c b.u.right);have ac:=zA (show vS a c x.u b.u=if f≠m then decide (m<f) else x.u.id.lessB b.u.id by unfold vS;rw[C,B]);have F:=zA (show j6 a c x.u.right=f/\j6 a c b.u.right=m from⟨C,B⟩);have am:=zA (show(-1<=f/\f<=1000001)/\ -1<=m/\m<=1000001 by have h1:=zn2 a c x.u.right;have a3:=zn2 a c b.u.right;rw[<-C,<-B];unfold j6;constructor<;> split<;> omega);clear C B;go_enter Tryz.func274,Tryz.ntmps274;go_upto_region 1 with fail;have ar:=aU au;refine aQ ?_;intro W' hC' hBW';clear ar hC';unfold Exit.then;dsimp only;go_step;go_step;go_cut [7] (fun p wx=>p=zB f/\Below w w wx);case first=>
  have A:=hBW'.size
  have aa:W'.cell? l=some (.slice (some (e,n)) a.length T):=(hBW'.cell (p:=l) K).trans R
  have z:=G.o W' hBW' 4 _ rfl
  have u:=G.o W' hBW' 5 _ rfl
  rcases J with d|d
  ·have g:=zA (show f=(c.length:Int)+1 by rw[<-F.o.1];unfold j6;rw[if_pos d]);rw[d] at z u;dsimp only[zT] at z u;clear d;go_wp2;go_meet;exact⟨by rw[g.o],hBW'.alloc A _⟩
  ·have g:=zA (show f=zaO a c x.u.right by rw[<-F.o.1];unfold j6;rw[if_neg (fun o=>by rw[o] at d;simp[zT] at d)]);have ao:((x.u.right.c:Int)==0)=false:=oi;clear d;have y:Below w w (W'.alloc (.cells #[x.u.right.c,x.u.right.k] 62)):=hBW'.alloc A _;have N:=X.o _ y x.u.right an.o;go_wp2_with (go_at_call 81;refine N.mono ?_;rintro o w3 ⟨rfl,O⟩);go_meet;exact⟨by rw[g.o],zK y O⟩
 case rest=>
  obtain⟨rfl,t⟩:=hcut;go_step;go_step;go_cut [8] (fun p wx=>p=zB m/\Below w w wx);case first=>
   have A:=t.size
   have aa:wc.cell? l=some (.slice (some (e,n)) a.length T):=(t.cell (p:=l) K).trans R
   have z:=E.o wc t 4 _ rfl
   have u:=E.o wc t 5 _ rfl
   rcases H with d|d
   ·have g:=zA (show m=(c.length:Int)+1 by rw[<-F.o.2];unfold j6;rw[if_pos d]);rw[d] at z u;dsimp only[zT] at z u;clear d;go_wp2;go_meet;exact⟨by rw[g.o],t.alloc A _⟩
   ·have g:=zA (show m=zaO a c b.u.right by rw[<-F.o.2];unfold j6;rw[if_neg (fun o=>by rw[o] at d;simp[zT] at d)]);have ao:((b.u.right.c:Int)==0)=false:=oi;clear d;have y:Below w w (wc.alloc (.cells #[b.u.right.c,b.u.right.k] 62)):=t.alloc A _;have N:=X.o _ y b.u.right al.o;go_wp2_with (go_at_call 81;refine N.mono ?_;rintro o w3 ⟨rfl,O⟩);go_meet;exact⟨by rw[g.o],zK y O⟩
  case rest=>
   obtain⟨rfl,r⟩:=hcut;obtain⟨⟨a9,aP⟩,a6,ay⟩:=am.o;have a0:=r.size;by_cases D:f=m
   ·subst D;have ap:((f:Int) !=f)=false:=oh;have g:=zA (ac.o.trans (zN oh));have aq:=fun s=>zn1 x.u.id b.u.id s;have aa:∀q:zM wc,q.val.cell? l=some (.slice (some (e,n)) a.length T):=zM.cell (by show l<_;omega) ((r.cell (p:=l) K).trans R);have aH:∀q:zM wc,q.val.cell? (e,n+k*10)=x.u.id.c:=zM.cell obs (G.o wc r 0 _ rfl);have a8:∀q:zM wc,q.val.cell? (e,n+k*10+1)=x.u.id.k:=zM.cell obs (G.o wc r 1 _ rfl);have a2:∀q:zM wc,q.val.cell? (e,n+j*10)=b.u.id.c:=zM.cell obs (E.o wc r 0 _ rfl);have a1:∀q:zM wc,q.val.cell? (e,n+j*10+1)=b.u.id.k:=zM.cell obs (E.o wc r 1 _ rfl);clear J H hBW';go_wp2;refine aG ?_;repeat(first|go_big_quiet_skip|(go_big_quiet_want;go_big_quiet_op;first|go_big_quiet_on|go_big_quiet_call ((go_at_call 111;exact xl (aq _)))))
    refine aE ?_;intro W' hC' hBW';go_wp2;go_ret;exact⟨vG g.o.symm,zK r hBW'⟩
   ·have ap:((f:Int) !=m)=true:=(by simpa using D);have g:=zA (ac.o.trans (zP D));clear D J H;go_wp2;go_ret;exact⟨vG g.o.symm,r⟩
end
section
variable {Φ:yA}
def rok(b:List xP)(c:List Nat)(r:xP):Prop:=(r.u.right=zT\/1<=r.u.right.c)/\∀a,jQ b r.u.right=some a->a∈c
def yy(a:List xP)(n:Nat):zV:=(a[n]?.map (·.u)).getD qu
theorem zn3 (A:Nat) (M ab Z v:zJ) (a:List xP) (ah O:Nat->List Nat) (af f l:List Nat) (d:Nat) (w:zC) (h:yq Φ w A M ab Z a ah O af f) (hv:zx Φ 1 yc w v l) (av:∃i,a[d]?=some i/\rok a f i)
 (T:∀c∈l,∃i,a[c]?=some i/\rok a f i) (z:l.length<=1000000) (aj:f.length<=1000000):
 Calls zD 231 #[A,v,zB d] w (vu 3 1 yc (l.takeWhile (fun c=>vS a f (yy a c) (yy a d))++d::l.dropWhile (fun c=>vS a f (yy a c) (yy a d))) w):=by
 obtain⟨Y,D,K⟩:=av;have X:yy a d=Y.u:=by unfold yy;rw[D];rfl
 obtain⟨m,L⟩:∃m:Nat->Bool,(fun c=>vS a f (yy a c) (yy a d))=m:=⟨_,rfl⟩;rw[L];have ap:=zA (fun(r:zC) (hb:Below w w r) (c:Nat) (z:c∈l)=>(show Calls zD 274 #[A,zB c,zB d] r fun n N=>n= .returned (.bool (m c))/\Below r r N from by
  obtain⟨i,al,aa⟩:=T c z;have:=zuT A M ab Z a ah O af f c d i Y r (h.below hb) al D aa.1 K.1 aa.2 K.2 aj;rw[<-L];have an:yy a c=i.u:=by unfold yy;rw[al];rfl
  show Calls zD 274 _ _ fun n N=>n= .returned (.bool (vS a f (yy a c) (yy a d)))/\_;rw[an,X];exact this))
 have V:=zA hv;have B:=zA z;obtain⟨p,ay,rfl,ax,ac⟩:=hv.1.shape;have ar:=zA ac;clear h hv T z D K X L ac aj;go_enter Tryz.func231,Tryz.ntmps231;go_wp2;go_loopw [7] (fun C wr=>∃b:Nat,b<=l.length/\C=zB b/\qP (∀j e,j<b->l[j]?=some e->m e=true)/\Below w w wr) (fun C _=>l.length - (intOf C).toNat);case atStart=>exact⟨0,xO _,rfl,zA (fun j e h=>oa),zf _ _⟩
 case round=>
  obtain⟨b,y,rfl,I,k⟩:=hrel;have az:=B.o;by_cases aq:b<l.length
  ·obtain⟨e,t⟩:∃e,l[b]?=some e:=⟨l[b],by simp[aq]⟩;obtain⟨ae,ag,rfl,hb,R⟩:=ar.o b e t;have au:wr.cell? (ae,ag+b)=(zB e):=(k.cell (p:=(ae,ag+b)) hb).trans (by simpa using R 0 _ rfl);have x:=ap.o wr k e (xn t);obtain⟨am,G⟩:=aY (m e);rw[G] at x;have ai:=zA k;have ad:=zA G;have W:=zA t;clear R k G t;cases am
   ·have s:=zA (zfv m l b y I.o (fun E g=>by rw[W.o] at g;cases g;exact ad.o));go_upto_region 4 with(go_at_call 274;refine x.mono ?_;rintro n ak ⟨rfl,u⟩);have o:=zA (zK ai.o u);have H:=zkm _ l b d ak (V.o.below o.o) y B.o;clear u x au;go_wp2_with (go_at_call 230;refine H.mono ?_;rintro n w3 ⟨ao,rfl,J,F⟩);go_ret;exact⟨_,rfl,by rw[s.o.1,s.o.2];exact J.any o.o.size,zK o.o F⟩
   ·go_wp2_with (go_at_call 274;refine x.mono ?_;rintro n ak ⟨rfl,u⟩);go_roundw;case rel=>exact⟨b+1,oa,ou,zA (fun j E aw g=>by
     rcases qs j b with q|q
     ·exact I.o j E q g
     ·obtain rfl:j=b:=(by omega);rw[W.o] at g;cases g;exact ad.o),zK ai.o u⟩
    case measure=>simp[intOf];omega
  ·have s:=zA (zfv m l b y I.o (fun E g=>by rw[vp (by omega)] at g;cases g));have o:=zA k;have H:=zkm _ l b d wr (V.o.below k) y B.o;clear k;go_wp2_with (go_at_call 230;refine H.mono ?_;rintro n w3 ⟨ao,rfl,J,F⟩);go_ret;exact⟨_,rfl,by rw[s.o.1,s.o.2];exact J.any o.o.size,zK o.o F⟩
end
section
variable {Φ:yA}
def zuU(a:zC)(l:List Nat)(e:Ending)(w':zC):Prop:=∃b,e= .returned b/\zG a 3 1 yc w' b l/\Below a a w'
theorem zuV(i:Nat)(bc bp bn:zJ)(m:List xP)(J D:Nat->List Nat)(bt bv:List Nat)(a:zC)(h:yq Φ a i bc bp bn m J D bt bv):
 ∀(N:Nat) (L o d:List Nat) (v x:zJ) (w:zC),o.length<=N->za J D L o->(∀k∈o,k<m.length)->zx Φ 1 yc a v L->zG a 3 1 yc w x d->Below a a w->d.length+o.length<=1000000->
  Calls zD 232 #[i,v,x] w (zuU a (d++o)):=by
 have av:=h.lt
 obtain⟨a4,_,_⟩:=h.c0
 obtain⟨bL,a8,rfl,bO,Y⟩:=h.nl.1.shape
 intro N
 induction N with
 |zero=>
  intro L o d v x w ai A aj hv l hb W;obtain rfl:o= []:=zbo oa;obtain rfl:L= []:=by
   cases L with
   |nil=>rfl
   |cons ar L=>obtain⟨e,b,z,_,_,_,B⟩:=A.cons_inv;simp at B
  obtain⟨p,bB,rfl,_⟩:=hv.2;rw[zbl];have ab:=zA l;have ad:=zA hb;clear h Y hv l hb A;go_enter Tryz.func232,Tryz.ntmps232;go_wp2;go_loop [2,7] (fun e ar=>e=x/\ar=zB 0) (fun _ _=>0);case atStart=>exact⟨rfl,rfl⟩
  case round=>obtain⟨rfl,rfl⟩:=hrel;go_wp2;go_ret;exact⟨_,rfl,ab.o,ad.o⟩
 |succ N ay=>
  intro L o d v x w ai A aj hv l hb W;have bN:=zA hv;obtain⟨p,bB,rfl,ac,aq⟩:=hv.1.shape;have br:=zA aq;have aP:=zA ay;have bo:=zA Y;have bF:=zA h.kids;have an:=zA aj;have bJ:=zA A;have ab:=zA l;have ad:=zA hb;have bA:=zA ai;have bx:=zA ac;have bm:=zA W;clear hv aq ay Y h aj A l hb ai W ac;go_enter Tryz.func232,Tryz.ntmps232;go_wp2;go_loopw [2,7] (fun e V wr=>∃(c:Nat) (q z:List Nat) (C:zJ),c<=L.length/\V=zB c/\C=e/\qP (o=q++z)/\qP (za J D (L.drop c) z)/\zG a 3 1 yc wr C (d++q)/\Below a a wr) (fun _ V _=>L.length - (intOf V).toNat);case atStart=>exact⟨0,[],o,_,xO _,rfl,rfl,zA rfl,zA (by simpa using bJ.o),by simpa using ab.o,ad.o⟩
  case round=>
   obtain⟨c,q,z,C,bP,rfl,rfl,n,ah,l,hb⟩:=hrel;have ac:=bx.o;by_cases af:c<L.length
   ·obtain⟨k,az⟩:∃k,L[c]?=some k:=⟨L[c],by simp[af]⟩;have ak:=ah.o;rw[zjm af,show L[c]=k by simpa[af] using az] at ak;obtain⟨e,b,y,a3,a7,ba,rfl⟩:=ak.cons_inv;obtain⟨j,t,rfl,ap,R⟩:=br.o c k az;have be:k<m.length:=an.o k (by rw[n.o];simp);obtain⟨u,ao⟩:∃u,m[k]?=some u:=⟨m[k],by simp[be]⟩;obtain⟨g,s,rfl,a2,ag⟩:=bo.o k u ao;obtain⟨bb,a5⟩:=bF.o k u ao;have bT:q.length+(e.length+(1+(b.length+y.length)))<=N+1:=(by have:=bA.o;rw[n.o] at this;simp only[xY,z7] at this;omega);have bU:d.length+(q.length+(e.length+(1+(b.length+y.length))))<=1000000:=(by have:=bm.o;rw[n.o] at this;simp only[xY,z7] at this;omega);have bV:=hb.size;have a0:=fun(Z:zC) (h1:zG a 3 1 yc Z C (d++q)) (bw:Below a a Z)=>aP.o (J k) e (d++q) _ C Z oa a3 (fun al X=>an.o al (by rw[n.o];simp[X])) bb h1 bw (by simp only[xY];omega);have ae:∀f:zI (fun b=>a<=b) wr,f.val.cell? (j,t+c)=(zB k):=zI.cell (by show j<_;omega) (by show ¬a<=j;omega) ((hb.cell (p:=(j,t+c)) ap).trans (by simpa using R 0 _ rfl));have aa:∀f:zI (fun b=>a<=b) wr,f.val.cell? i=some (.slice (some (g,s)) m.length a8):=zI.cell (by show i<_;omega) (by show ¬a<=i;omega) ((hb.cell (p:=i) av).trans a4);have bi:∀f:zI (fun b=>a<=b) wr,f.val.cell? (g,s+k*10+8)=some u.lv.v:=zI.cell (by show g<_;omega) (by show ¬a<=g;omega) ((hb.cell (p:=(g,s+k*10+8)) a2).trans (ag 8 _ rfl));have bh:=R 0 _ rfl;have bC:=zA (ag 9 _ rfl);have au:=zA (R 0 _ rfl);have aH:=zA (a0 wr.drew l.drew hb.drew);have bH:=zA a7;have bj:=zA ba;have bz:=zA a5;clear a0 ag R bh ah ak l a3 a7 ba bb a5 ao;go_upto_region 4 with fail;refine xU 13 [0,1,2,3,4,5,6,7,8,9,10,11,12] [13,14] (fun b=>a<=b) (aM ?_);refine aR ?_;refine aS ?_;go_wp2_with (go_at_call 232;refine aH.o.mono ?_;rintro B M ⟨bS,rfl,I,E⟩);refine aS ?_;go_wp2;refine xE ?_;obtain⟨bI,bg,rfl⟩:=I.len;have bR:=E.size;have bf:M.cell? (j,t+c)=(zB k):=(E.cell (p:=(j,t+c)) ap).trans (by simpa using au.o);obtain⟨H,O⟩:=aY (d++q++e);rw[O] at I ⊢;have bG:=zA O;have F:=zA I;have G:=zA E;have a1:=zA (show H.length+(1+(b.length+y.length))<=1000000 by rw[<-O];simp only[xY];omega);clear ae aa bi I E aH O;have K:Below a a (M.alloc (.cells #[zB k] 3)):=G.o.alloc G.o.size _;go_upto_region 6 with(at_builtin;refine yz zc5 rfl _ _ rfl a.heap.size (.slice bI H.length bg) H rfl (F.o.al _) (.slice (some M) 1 1) [k] rfl (zc.one (k:=1) (enc:=yc) M k 3) (by have:=a1.o;simp only[z7,xB];omega) K.size ?_;intro bu w3 am aZ _);have r:Below a a w3:=K.grown aZ K.size (fun b B=>F.o.ge B);have bQ:=r.size;obtain⟨a9,T⟩:=aY (H++[k]);rw[T] at am;have bs:=zA T;have bE:=zA (show a9.length+(b.length+y.length)<=1000000 by rw[<-T];have:=a1.o;simp only[xY,z7,xB];omega);have ae:∀f:zI (fun b=>a<=b) w3,f.val.cell? (j,t+c)=(zB k):=zI.cell (by show j<_;omega) (by show ¬a<=j;omega) ((r.cell (p:=(j,t+c)) ap).trans (by simpa using au.o));have aa:∀f:zI (fun b=>a<=b) w3,f.val.cell? i=some (.slice (some (g,s)) m.length a8):=zI.cell (by show i<_;omega) (by show ¬a<=i;omega) ((r.cell (p:=i) av).trans a4);have bl:∀f:zI (fun b=>a<=b) w3,f.val.cell? (g,s+k*10+9)=some u.mv.v:=zI.cell (by show g<_;omega) (by show ¬a<=g;omega) ((r.cell (p:=(g,s+k*10+9)) a2).trans bC.o);have aw:=zA (aP.o (D k) b a9 _ bu w3.drew oa bH.o (fun al X=>an.o al (by rw[n.o];simp[X])) bz.o am.drew r.drew (by have:=bE.o;omega));clear am aZ T K bf r;refine xU 13 [0,1,2,3,4,5,6,7,8,9,10,11,12] [13,14] (fun b=>a<=b) (aM ?_);refine aR ?_;refine aS ?_;go_wp2_with (go_at_call 232;refine aw.o.mono ?_;rintro B bW ⟨bM,rfl,a6,ax⟩);refine aS ?_;go_wp2;refine xE ?_;have bd:=zA a6;have bD:=zA ax;clear ae aa bl a6 ax aw;go_wp2;go_roundw;case rel=>exact⟨c+1,q++(e++k::b),y,_,oa,ou,rfl,zA (by rw[n.o];simp),zA bj.o,by have:=bd.o;rw[<-bs.o,<-bG.o] at this;simpa using this,bD.o⟩
    case measure=>simp[intOf];omega
   ·have bK:=zA (show z= [] by have:=ah.o;rw[List.drop_of_length_le oa] at this;exact this.nil_inv);have bq:=zA (show d++o=d++q by rw[n.o,bK.o,zbl]);have F:=zA l;have G:=zA hb;clear l hb;go_wp2;go_ret;exact⟨_,rfl,by rw[bq.o];exact F.o,G.o⟩
def zuW(Φ:yA)(k:Nat)(i f:zJ)(j:List xP)(d g:Nat->List Nat)(c h:List Nat)(w:zC)(e:Ending)(w':zC):Prop:=
 ∃a b,e= .returned (.pointer (some ⟨a,0,none⟩))/\w.heap.size<=a/\yq Φ w' a b i f j d g c h/\Below w.heap.size w w'
theorem zuX(b:Nat)(p n l:Value)(a:List xP)(u r:Nat->List Nat)(k m:List Nat)(w:World)(h:yq Φ w b p n l a u r k m)(y:a.length<=1000000):
 Calls zD 108 #[b] w (zuW Φ b n l a u r k m w):=by
 have j:=h.lt;obtain⟨q,x,z⟩:=h.c0;have E:∀c:zI zX w,c.val.cell? b=some p:=zI.cell j id q;have B:∀c:zI zX w,c.val.cell? (b,1)=some n:=zI.cell j id x;have I:∀c:zI zX w,c.val.cell? (b,2)=some l:=zI.cell j id z;obtain⟨M,C,rfl,_,_⟩:=h.mo.1.shape;obtain⟨H,N,rfl,_,_⟩:=h.od.1.shape;obtain⟨D,J,rfl,_,_⟩:=h.nl.1.shape;have g:=zA h;have L:=zA y;clear h y q x z;go_enter Tryz.func108,Tryz.ntmps108;go_upto_region 1 with fail;refine xU 13 [0,1,2,3,5,6,7,8,9,10,11,12] [4,13,14,15] zX (aM ?_);refine aR ?_;refine aS ?_;refine yz zcV rfl _ _ rfl w.heap.size () [] rfl zG.nil (.slice D a.length J) a rfl g.o.nl.1.drew (by have:=L.o;simp only[xB];omega) (zU _) ?_;intro O d f s _;have t:Below w w d:=((zf _ _).drew).grown s (zU _) (fun R F=>by cases F);rw[xu] at f;obtain⟨o,v,rfl⟩:=f.len;have K:=zA f;have e:=zA t;clear f s t E B I;go_wp2;refine⟨zI.to (Mods.of_below e.o),?_⟩;refine aS ?_;go_wp2;refine aS ?_;go_wp2;refine aS ?_;go_wp2;refine xE ?_;go_wp2;go_ret;have G:Below d d (d.alloc (.cells #[.slice o a.length v,.slice M k.length C,.slice H m.length N] 213)):=aA;have A:=zK e.o G;have i:=g.o.below A;refine⟨d.heap.size,.slice o a.length v,rfl,e.o.size,?_,A⟩;exact {
  st:=World.alloc_heap_new _ _
  nl:=(K.o.al _).rowIn zcV.len g.o.nn
  kids:=i.kids
  mo:=i.mo
  od:=i.od
  nn:=i.nn
  fs:=Φ.up _ (zk g.o.nn e.o.size)}
end
section
variable {Φ:yA}
def zE.Ok(S:zE):Prop:=∀k,k<S.l.length->S.named (S.nd k).u.left=true/\S.named (S.nd k).u.right=true
def zaZ(S:zE)(c:List xP):Prop:=c.length=S.l.length/\∀a b,c[a]?=some b->b.u=(S.nd a).u/\b.par=yQ (S.nd a).par
def yP(Φ:yA)(w:zC)(c:Nat)(S:zE):Prop:=S.Wf/\S.Ok/\∃b e d a,yq Φ w c b e d a S.lf S.rt S.more S.order/\zaZ S a
theorem yP.below{w w':zC}{a:Nat}{S:zE}(f:yP Φ w a S)(c:Below w w w'):yP Φ w' a S:=by obtain⟨h,b,e,j,g,k,i,d⟩:=f;exact⟨h,b,e,j,g,k,i.below c,d⟩
theorem zaZ.find{S:zE}{e:List xP}(i:zaZ S e)(x:zF):jQ e x=S.find x:=by
 unfold jQ zE.find;have b:e.map (fun h=>decide (h.u.id=x))=S.l.map (fun h=>decide (h.u.id=x)):=by
  apply zhE
  ·simp[i.1]
  ·intro g o l;simp only[zjT];have m:g<e.length:=(by simpa using o);have k:g<S.l.length:=(by simpa using l);rw[(i.2 g e[g] (by simp[m])).1];simp[zE.nd,k]
 have j:∀{α β:Type}(f:List α) (a:List β) (c:α->Bool) (d:β->Bool),f.map c=a.map d->f.findIdx? c=a.findIdx? d:=by
  intro α β f;induction f with
  |nil=>intro a c d b;cases a with
   |nil=>rfl
   |cons p a=>simp at b
  |cons x f n=>intro a c d b;cases a with
   |nil=>simp at b
   |cons p a=>
    simp only[xd,zcx] at b
    simp only[List.findIdx?_cons,b.1,n a c d b.2]
 exact j _ _ _ _ b
theorem zdm{S:zE}{x:zF}(a:S.named x=true):x=zT\/∃b,S.find x=some b:=by
 unfold zE.named at a;simp only[qx,xW] at a;rcases a with a|a
 ·exact .inl a
 ·obtain⟨b,c⟩:=zbH.1 a;exact .inr ⟨b,c⟩
theorem zhz{S:zE}(b:S.Wf){x:zF}{k:Nat}(d:S.find x=some k):1<=x.c:=by have c:=b.find_some.1 d;have a:=b.right k c.1;rw[c.2] at a;simp[zF.rightB,xi] at a;omega
theorem zuY{a:List xP}{r:xP}{x:zF}(c:r.u.id≠x):jQ (a++[r]) x=jQ a x:=by unfold jQ;rw[List.findIdx?_append];have:([r]:List xP).findIdx? (fun b=>decide (b.u.id=x))=none:=oaV;rw[this];simp
theorem zE.nd_over(S:zE){k:Nat}(h:S.l.length<=k):S.nd k=zol:=by unfold zE.nd;rw[vp h];rfl
theorem zuZ{S:zE}(k:S.Wf){g:List xP}(q:∀x,S.named x=true->x≠zT->jQ g x=S.find x)(x e:zV)(r:S.named x.right=true)(p:S.named e.right=true):vS g S.order x e=S.ahead x e:=by
 have n:∀a,S.named a=true->(a=zT/\j6 g S.order a=(S.order.length:Int)+1/\S.far a=S.order.length)\/(j6 g S.order a=S.far a/\S.far a<S.order.length):=fun a m=>by
  rcases zdm m with d|⟨s,l⟩
  ·exact .inl ⟨d,by unfold j6;rw[if_pos d],by unfold zE.far;rw[if_pos d]⟩
  ·have j:a≠zT:=(by intro d;have:=zhz k l;rw[d] at this;simp[zT] at this);have o:=(k.find_some.1 l).1;have t:=k.place_lt o;refine .inr ?_;unfold j6 zE.far zaO zE.pos zE.findP;rw[zN j,zN j,q a m j,l];exact⟨rfl,by simp only[zao];omega⟩
 unfold vS zE.ahead;rcases n x.right r with⟨_,b,i⟩|⟨b,i⟩<;> rcases n e.right p with⟨_,c,h⟩|⟨c,h⟩
 ·rw[zN (by rw[b,c];simp),zP (by rw[i,h])]
 ·rw[zP (by rw[b,c];omega),zN (by rw[i];omega)];rw[zaK];simp only[xW];rw[b,c,i];omega
 ·rw[zP (by rw[b,c];omega),zN (by rw[h];omega)];rw[zaK];simp only[xW];rw[b,c,h];omega
 ·by_cases f:S.far x.right=S.far e.right
  ·rw[zN (by rw[b,c];simpa using f),zP f]
  ·rw[zP (by rw[b,c];exact f),zN f,b,c]
theorem zE.Wf.anc_next{S:zE}(e:S.Wf):∀(i k:Nat),k<S.l.length->(∀c,(S.anc k)[i]?=some c->c<S.l.length/\(S.nd c).par=(S.anc k)[i+1]?)/\(S.anc k)[0]?=(S.nd k).par
 |i,k,g=>by
  have b:=e.anc_eq g;have h:(S.anc k)[0]?=(S.nd k).par:=by rw[b];cases(S.nd k).par<;> simp
  refine⟨fun c a=> ?_,h⟩;cases hpar:(S.nd k).par with
  |none=>rw[hpar] at b;rw[b] at a;simp at a
  |some d=>
   rw[hpar] at b;simp only at b;have j:d<k:=e.parlt k d g hpar;have f:d<S.l.length:=oa;match i with
   |0=>
    rw[b] at a ⊢
    simp only[jn,jC] at a
    subst a
    refine⟨f,?_⟩
    rw[vN]
    exact(e.anc_next 0 d f).2.symm
   |i+1=>
    rw[b] at a ⊢
    rw[vN] at a ⊢
    exact(e.anc_next i d f).1 c a
end
end Go.Proofs.YtimlgcodecgecaaGreatDoor
