/- The reference's writer (quireseat.Write): which edit a number makes. -/
import Derived.Test.YtimlgcodecgecaaGreatDoorZ40
import Derived.Test.YtimlgcodecgecaaGreatDoorZ37
set_option maxRecDepth 100000
set_option maxHeartbeats 20000000
set_option linter.all false
namespace Go.Proofs.YtimlgcodecgecaaGreatDoor
open Go.RowKit Go.Lib
section
variable {Φ:yA}
theorem zI.sub{T T':Nat->Prop}{c d:zC}(e:Mods T c d)(f:∀b,T' b->T b\/c.heap.size<=b):∀a,(∃s:zI T' d,a=s.val)->∃s:zI T c,a=s.val:=by rintro a ⟨s,rfl⟩;exact zI.to (e.trans' s.h f)
theorem zoB{w:zC}{b:Nat}{a cells:Array Value}{T:TypeId}{u:Nat×Nat}(c:w.heap[b]?=some (.cells a T u)):(w.setRow b cells).heap[b]?=some (.cells cells T u):=by simp only[World.setRow];rw[zu,zP rfl,c];rfl
theorem zoC{w:zC}{b k:Nat}{cells:Array Value}(h:k≠b):(w.setRow b cells).heap[k]?=w.heap[k]?:=by simp only[World.setRow];rw[zu,zN (zeT h)]
theorem zoD{n b:Nat}{w w':zC}{cells:Array Value}(a:Below n w w')(e:n<=b):Below n w (w'.setRow b cells):=
 ⟨a.os,a.tape,a.output,by simp only[World.setRow,zj0];exact a.size,fun c d=>(zoC (by omega)).trans (a.block c d)⟩
theorem zup{T:Nat->Prop}{b:Nat}{w:zC}{cells:Array Value}(a:T b):Mods T w (w.setRow b cells):=
 ⟨rfl,rfl,rfl,by simp[World.setRow],fun d _ c=>zoC (by rintro rfl;exact c a)⟩
def yd:Nat->ByteArray
 |0=>⟨#[97]⟩
 |1=>⟨#[98,99]⟩
 |2=>⟨#[195,169]⟩
 |3=>⟨#[240,159,152,128,120]⟩
 |4=>⟨#[100,101,102,103]⟩
 |_=>⟨#[104,105]⟩
def qt:Nat->ByteArray
 |0=>⟨#[98]⟩
 |1=>⟨#[105]⟩
 |_=>⟨#[117]⟩
def zej(b:Int)(a:Nat):Nat->zr
 |0=>yO
 |1=>⟨1,1,0,⟨#[]⟩⟩
 |2=>⟨2,b,0,⟨#[]⟩⟩
 |3=>⟨3,0,a,⟨#[]⟩⟩
 |_=>⟨4,0,0,⟨#[118]⟩⟩
theorem zuq(b:Int)(a:Nat):∀c,WV (zej b a c)
 |0=> .inl rfl
 |1=> .inr (.inl rfl)
 |2=> .inr (.inr (.inl ⟨b,rfl⟩))
 |3=> .inr (.inr (.inr (.inl ⟨a,rfl⟩)))
 |_+4=> .inr (.inr (.inr (.inr rfl)))
def zoE(p m:Int)(b c:Nat)(w:zC)(u:zJ)(wx:zC):Prop:=∃a,u= .pointer (some ⟨a,0,none⟩)/\wx.heap[a]?=some (.cells #[zB 0,zB p,zB m,.string (yd b),zB 0,zB 0,.float .f64 0,.string ⟨#[]⟩,.string (qt c),()] 33 (0,0))/\w.heap.size<=a/\Below w w wx
theorem wY{E:Nat}{W:zC}{a:Addr}{v:zJ}(b:W.cell? a=some v)(c:¬a.block=E)(s:zI (fun d=>d=E) W):s.val.cell? a=some v:=zI.cell (aI b) c b s
theorem w6{p q:Prop}(k:q)(h:q->p:=by intro kk;refine aN ?_;go_wp2;refine⟨_,zI.sub (by first|exact(Mods.refl _ _).alloc _|exact(Mods.of_below hb).alloc _) (fun k h=> .inl h),zI.to (Mods.refl _ _),?_⟩;have t6:=c6 v;generalize hv:World.alloc v _=v' at t6 ⊢;have h1:=(aF hv).1;have hb:=zK hb h1;clear hv;revert t6;revert hb;revert h1;revert v';exact kk):p:=h k
theorem w3{p q:Prop}(k:q)(h:q->p:=by intro kk;refine aN ?_;go_wp2;refine⟨_,zI.sub (by first|exact(Mods.refl _ _).alloc _|exact(Mods.of_below hb).alloc _) (fun k h=> .inl h),zI.to (Mods.refl _ _),?_⟩;have t3:=c3 v;generalize hv:World.alloc v _=v' at t3 ⊢;have h1:=(aF hv).1;have hb:=zK hb h1;clear hv;revert t3;revert hb;revert h1;revert v';exact kk):p:=h k
theorem wE{p q:Prop}(k:q)(h:q->p:=by intro kk;refine aN ?_;go_wp2;refine⟨_,zI.sub (T':=fun b=>b=v.heap.size) (by first|exact(Mods.refl _ _).alloc _|exact(Mods.of_below hb).alloc _) (fun k h=> .inr (by subst h;first|exact zU _|exact hb.size)),zI.to (Mods.refl _ _),?_⟩;have hg:=hb.size;generalize hv:World.alloc v _=v';obtain⟨h1,hE,-⟩:=aF hv;have hb:=zK hb h1;clear hv;generalize hEE:v.heap.size=E at hE hg ⊢;revert hEE;revert hE;revert hg;revert hb;revert h1;revert v';revert E;exact kk):p:=h k
theorem wS {p:Prop}(h:p:=by
 refine aN ?_;refine yx (T:=33) (v:= .agg #[.int .i64 0,.int .i64 p,.int .i64 m,.string (yd ti),.int .i64 0,.int .i64 0,.float .f64 0,.string ⟨#[]⟩,.string (qt ki),()]) rfl rfl rfl rfl (zju v _ _ _ _ _ hE (by kernel_rfl) rfl (by simp[Value.oneCell'])) ?_;try go_frame
 generalize hvf:World.setRow _ _ _=vf;have hf:zoE p m ti ki w1 (.pointer (some ⟨E,0,none⟩)) vf:=by subst hvf;exact⟨_,rfl,zoB hE,hg,zoD hb hg⟩
 have hms:Mods (fun b=>b=E) v vf:=by subst hvf;exact zup rfl
 clear hvf;go_wp2;refine⟨_,zI.sub (T':=fun b=>b=E) hms (fun k h=> .inl h),zI.to (Mods.refl _ _),?_⟩;refine zrV ?_;go_wp2;go_meet;exact hf):p:=h
theorem wZ {p:Prop}(h:p:=by
 have hRf:wf.heap[w.heap.size]?=some (.cells #[.int .i64 0,.int .i64 0,.int .i64 0,.string ⟨#[]⟩,.int .i64 0,.int .i64 0,.float .f64 0,.string ⟨#[]⟩,.string ⟨#[]⟩,()] 33 (0,0)):=by subst hwf;simp[World.setCell,zu,hR4,hne]
 have hBf:Below w.heap.size w wf:=by
  subst hwf;refine⟨hB4.os,hB4.tape,hB4.output,by simp[World.setCell];exact hB4.size,fun k hk=> ?_⟩;have hke:¬eb=k:=by omega
  simp[World.setCell,zu,hke,hB4.block k hk]
 clear hwf e0 e1 e2 e3 e4 e5 e6 e7 e8 e9 g0 g1 g2;have e0:=aC hEf 0;have e1:=aC hEf 1;have e2:=aC hEf 2;have e3:=aC hEf 3;have e4:=aC hEf 4;have e5:=aC hEf 5;have e6:=aC hEf 6;have e7:=aC hEf 7;have e8:=aC hEf 8;have e9:=aC hEf 9;have hst:=zju (P:=zD) wf w.heap.size 33 33 _ #[.int .i64 K,.int .i64 A,.int .i64 M,.string (yd ti),.int .i64 v.kind,.int .i64 v.n,.float .f64 v.f,.string v.s,.string (qt ki),()] hRf (by kernel_rfl) rfl (by simp[Value.oneCell']);have hRe:=zoB (cells:=#[.int .i64 K,.int .i64 A,.int .i64 M,.string (yd ti),.int .i64 v.kind,.int .i64 v.n,.float .f64 v.f,.string v.s,.string (qt ki),()]) hRf;have hBe:Below w.heap.size w (wf.setRow w.heap.size #[.int .i64 K,.int .i64 A,.int .i64 M,.string (yd ti),.int .i64 v.kind,.int .i64 v.n,.float .f64 v.f,.string v.s,.string (qt ki),()]):=zoD hBf (zU _);go_wp2_with (refine yx (T:=33) (v:= .agg #[.int .i64 K,.int .i64 A,.int .i64 M,.string (yd ti),.int .i64 v.kind,.int .i64 v.n,.float .f64 v.f,.string v.s,.string (qt ki),()]) rfl rfl rfl rfl hst ?_);generalize wf.setRow w.heap.size #[.int .i64 K,.int .i64 A,.int .i64 M,.string (yd ti),.int .i64 v.kind,.int .i64 v.n,.float .f64 v.f,.string v.s,.string (qt ki),()]=wz at hRe hBe ⊢;have r0:=aC hRe 0;have r1:=aC hRe 1;have r2:=aC hRe 2;have r3:=aC hRe 3;have r4:=aC hRe 4;have r5:=aC hRe 5;have r6:=aC hRe 6;have r7:=aC hRe 7;have r8:=aC hRe 8;have r9:=aC hRe 9;refine yG (v:= .agg #[.int .i64 K,.int .i64 A,.int .i64 M,.string (yd ti),.int .i64 v.kind,.int .i64 v.n,.float .f64 v.f,.string v.s,.string (qt ki),()]) ?_ rfl ⟨K,A,M,ti,ki,v,?_,hwv,hti6,?_,?_,?_,hBe⟩
 ·simp[results,Tryz.results6,go_sem,r0,r1,r2,r3,r4,r5,r6,r7,r8,r9]
 ·unfold xc;go_num
 ·omega
 ·omega
 ·rw[hn];exact hpf):p:=h
theorem wP {p:Prop}(h:p:=by
 go_upto_region 23 with fail;generalize hwf:World.setCell _ _ _=wf;obtain⟨A,hA⟩:=aX p;obtain⟨M,hM⟩:=aX m;have hEf:wf.heap[eb]?=some (.cells #[.int .i64 K,.int .i64 A,.int .i64 M,.string (yd ti),.int .i64 v.kind,.int .i64 v.n,.float .f64 v.f,.string v.s,.string (qt ki),()] 33 (0,0)):=by subst hwf hK hA hM;simp[World.setCell,zu,hE4]
 have hpf:((K=1\/K=2)/\A<=n)\/(K=3/\(n=0/\A=0/\M=1\/0<n/\A+M<=n)):= .inl ⟨by omega,by omega⟩;have hM5:1<=M/\M<=4:=by omega
 clear hA hM hK;exact wZ):p:=h
theorem wQ {p:Prop}(h:p:=by
 have hA:min (p:Int) (max ((n:Int) - 1) 0)=((min p (n - 1):Nat):Int):=by omega
 have hMm:min (m:Int) (max ((n:Int) - p) 1)=((min m (max (n - p) 1):Nat):Int):=by omega
 go_upto_region 23 with fail;try rw[hA]
 try rw[hMm]
 clear hA hMm;obtain⟨A,ha2⟩:=aY (min p (n - 1));obtain⟨M,hm2⟩:=aY (min m (max (n - p) 1));rw[ha2,hm2];obtain⟨K,hK⟩:=aX (3:Int);generalize hwf:World.setCell _ _ _=wf;have hEf:wf.heap[eb]?=some (.cells #[.int .i64 K,.int .i64 A,.int .i64 M,.string (yd ti),.int .i64 v.kind,.int .i64 v.n,.float .f64 v.f,.string v.s,.string (qt ki),()] 33 (0,0)):=by subst hwf hK;simp[World.setCell,zu,hE4]
 have hpf:((K=1\/K=2)/\A<=n)\/(K=3/\(n=0/\A=0/\M=1\/0<n/\A+M<=n)):= .inr ⟨hK,by omega⟩;have hM5:1<=M/\M<=4:=by omega
 clear hK ha2 hm2;exact wZ):p:=h
def WrR(n:Nat)(w:zC)(e:Ending)(w':zC):Prop:=∃(k:Int) (a m b c:Nat) (v:zr),e= .returned (xc k a m (yd b) v (qt c) ())/\WV v/\b<6/\1<=m/\m<=4/\(((k=1\/k=2)/\a<=n)\/(k=3/\(n=0/\a=0/\m=1\/0<n/\a+m<=n)))/\Below w w w'
theorem zur(t:Nat)(H W G F Z M:zJ)(Y V:Nat)(D:xm)(z:Nat)(w:zC)(h:xe Φ w t H W G F Z M Y V D)(N:D.s.order.length<=100000)(ba:z<4294967296)(ah:z % 8<=5):
 Calls zD 6 #[t,.int .u32 z] w (WrR D.units.length w):=by
 have ac:=fun b (hb:Below w w b)=>znb t H W G F Z M Y V D b (h.below hb) N;clear h;go_enter Tryz.func6,Tryz.ntmps6;go_upto_region 1 with fail;generalize O:World.alloc _ _=b;obtain⟨B,A,-⟩:=aF O;clear O;have X:=ac b B;have I:=aL A;go_upto_region 2 with(go_at_call 19;refine X.mono ?_;rintro a7 w1 ⟨a4,rfl,x,C⟩;obtain⟨a2,bf,rfl⟩:=x.len);have aa:=zK B C;have y:=(C.block _ I).trans A;obtain⟨n,hn⟩:=aY D.units.length;rw[hn] at x ⊢;clear x X C A I B b;have bd:n<=100000:=by rw[<-hn];refine zk (jV _ _) ?_;unfold zE.ids;rw[xk];exact N
 have T:wrap64 ((n:Int)+1)=n+1:=by unfold wrap64;omega
 have a3:¬((n:Int)+1=0):=by omega
 have bc:((n:Int)+1==0)=false:=by simp;omega
 obtain⟨p,au,bg⟩:∃p:Nat,(z:Int) / 8 % ((n:Int)+1)=p/\p<=n:=⟨z / 8 % (n+1),by simp,Nat.lt_succ_iff.1 (zaH _ (Nat.succ_pos n))⟩;obtain⟨m,aZ,a8,be⟩:∃m:Nat,1+(z:Int) / 512 % 4=m/\1<=m/\m<=4:=⟨1+z / 512 % 4,by omega,by omega,by omega⟩;obtain⟨ti,am,hti6⟩:∃ti:Nat,(z:Int) / 4096 % 6=ti/\ti<6:=⟨z / 4096 % 6,by omega,by omega⟩;obtain⟨ki,an,ae⟩:∃ki:Nat,(z:Int) / 65536 % 3=ki/\ki<3:=⟨z / 65536 % 3,by omega,by omega⟩;go_cut [6] (fun aj wx=>zoE (p:Int) (m:Int) ti ki w1 aj wx);case first=>
  refine zrS (.rd [0,1,2,3,4,5,6,7,8,9,10,12,13,14,18,19,20] (.three 11 (.rd [15,16] (.two 17 (.rd [21,22,23] (.one 24 (.one 25 .nil))) 24 (.one 17 (.rd [21,22,23] (.one 25 .nil))))) 17 (.rd [21,22] (.two 11 (.rd [15,16,23] (.one 24 (.one 25 .nil))) 24 (.one 11 (.rd [15,16,23] (.one 25 .nil))))) 24 (.two 11 (.rd [15,16] (.one 17 (.rd [21,22,23] (.one 25 .nil)))) 17 (.rd [21,22] (.one 11 (.rd [15,16,23] (.one 25 .nil))))))) (fun av=>∃s:zI zX w1,av=s.val) (by kernel_rfl) (by kernel_rfl) (fun _ _ aP _ _ h=>by cases aP<;> exact h) (zI.to (Mods.refl _ _).drew) ?_
  refine aW ?_
  try rw[au]
  try rw[aZ]
  try rw[am]
  try rw[an]
  have c6:∀(b:zC),(b.alloc (.cells #[.string ⟨#[97]⟩,.string ⟨#[98,99]⟩,.string ⟨#[195,169]⟩,.string ⟨#[240,159,152,128,120]⟩,.string ⟨#[100,101,102,103]⟩,.string ⟨#[104,105]⟩] 9)).cell? (b,ti)=some (.string (yd ti)):=fun b=>by
   match ti,hti6 with
   |0,_=>go_simp;rfl
   |1,_=>go_simp;rfl
   |2,_=>go_simp;rfl
   |3,_=>go_simp;rfl
   |4,_=>go_simp;rfl
   |5,_=>go_simp;rfl
  have c3:∀(b:zC),(b.alloc (.cells #[.string ⟨#[98]⟩,.string ⟨#[105]⟩,.string ⟨#[117]⟩] 9)).cell? (b,ki)=some (.string (qt ki)):=fun b=>by
   match ki,ae with
   |0,_=>go_simp;rfl
   |1,_=>go_simp;rfl
   |2,_=>go_simp;rfl
  have R:Below w1 w1 w1.drew:=(zf _ _).drew
  generalize hv:w1.drew=v at R ⊢
  clear hv
  have hb:=R
  refine zrU ?_ ?_ ?_
  ·refine w6 ?_;intro v h1 hb t6;have f:=aV t6;refine aW ?_;refine zij ?_ ?_
   ·refine w3 ?_;intro v h1 hb t3;have t6:=(h1.cell (aI t6)).trans t6;have f:=aV t6;have g:=aV t3;refine aW ?_;refine wE ?_;intro E v h1 hb hg hE hEE;exact wS
   ·refine wE ?_;intro E v h1 hb hg hE hEE;have l:=aI t6;have t6:=(h1.cell l).trans t6;have c:=aL hE;refine w3 ?_;intro v h1 hb t3;have hE:=(h1.block _ c).trans hE;have t6:=(h1.cell (aI t6)).trans t6;have f:=wY (E:=E) t6 (by simp at l ⊢;omega);have g:=wY (E:=E) t3 (by simp;omega);refine aW ?_;exact wS
  ·refine w3 ?_;intro v h1 hb t3;have g:=aV t3;refine aW ?_;refine zij ?_ ?_
   ·refine w6 ?_;intro v h1 hb t6;have t3:=(h1.cell (aI t3)).trans t3;have f:=aV t6;have g:=aV t3;refine aW ?_;refine wE ?_;intro E v h1 hb hg hE hEE;exact wS
   ·refine wE ?_;intro E v h1 hb hg hE hEE;have j:=aI t3;have t3:=(h1.cell j).trans t3;have c:=aL hE;refine w6 ?_;intro v h1 hb t6;have hE:=(h1.block _ c).trans hE;have t3:=(h1.cell (aI t3)).trans t3;have f:=wY (E:=E) t6 (by simp;omega);have g:=wY (E:=E) t3 (by simp at j ⊢;omega);refine aW ?_;exact wS
  ·refine wE ?_;intro E v h1 hb hg hE hEE;have c:=aL hE;refine zij ?_ ?_
   ·refine w6 ?_;intro v h1 hb t6;have hE:=(h1.block _ c).trans hE;have l:=aI t6;have f:=wY (E:=E) t6 (by simp;omega);refine aW ?_;have c:=aL hE;refine w3 ?_;intro v h1 hb t3;have hE:=(h1.block _ c).trans hE;have t6:=(h1.cell l).trans t6;have f:=wY (E:=E) t6 (by simp at l ⊢;omega);have g:=wY (E:=E) t3 (by simp;omega);refine aW ?_;exact wS
   ·refine w3 ?_;intro v h1 hb t3;have hE:=(h1.block _ c).trans hE;have j:=aI t3;have g:=wY (E:=E) t3 (by simp;omega);refine aW ?_;have c:=aL hE;refine w6 ?_;intro v h1 hb t6;have hE:=(h1.block _ c).trans hE;have t3:=(h1.cell j).trans t3;have f:=wY (E:=E) t6 (by simp;omega);have g:=wY (E:=E) t3 (by simp at j ⊢;omega);refine aW ?_;exact wS
 obtain⟨eb,rfl,hE,a6,u⟩:=hcut;have J:=zK aa u;obtain⟨a,ab,k⟩:∃a:Nat,(z:Int) / 524288 % 5=a/\a<5:=⟨z / 524288 % 5,by omega,by omega⟩;have aq:=aL hE;obtain⟨q,ar,ay⟩:∃q:Nat,(z:Int) / 1048576=q/\q<4096:=⟨z / 1048576,by omega,by omega⟩;obtain⟨d,ai⟩:=zrY q ay;have ak:=aC hE 4;have a0:=aC hE 5;have c6:=aC hE 6;have ad:=aC hE 7;have aw:wc.frozen? (eb,4)=false:=by simp[World.frozen?,hE]
 have aH:wc.frozen? (eb,5)=false:=by simp[World.frozen?,hE]
 have ap:wc.frozen? (eb,6)=false:=by simp[World.frozen?,hE]
 have ag:wc.frozen? (eb,7)=false:=by simp[World.frozen?,hE]
 have a5:=zbA;have ao:(wc.alloc (.cells #[zB 0,zB 0,.float .f64 0,.string ⟨#[]⟩,zB 1,zB 1,.float .f64 0,.string ⟨#[]⟩,zB 2,zB q,.float .f64 0,.string ⟨#[]⟩,zB 3,zB 0,.float .f64 d,.string ⟨#[]⟩,zB 4,zB 0,.float .f64 0,.string ⟨#[118]⟩] 31)).cell? (wc,a*4)=(zB (zej q d a).kind):=by
  match a,k with
  |0,_=>go_simp;rfl
  |1,_=>go_simp;rfl
  |2,_=>go_simp;rfl
  |3,_=>go_simp;rfl
  |4,_=>go_simp;rfl
 have ax:(wc.alloc (.cells #[zB 0,zB 0,.float .f64 0,.string ⟨#[]⟩,zB 1,zB 1,.float .f64 0,.string ⟨#[]⟩,zB 2,zB q,.float .f64 0,.string ⟨#[]⟩,zB 3,zB 0,.float .f64 d,.string ⟨#[]⟩,zB 4,zB 0,.float .f64 0,.string ⟨#[118]⟩] 31)).cell? (wc,a*4+1)=(zB (zej q d a).n):=by
  match a,k with
  |0,_=>go_simp;rfl
  |1,_=>go_simp;rfl
  |2,_=>go_simp;rfl
  |3,_=>go_simp;rfl
  |4,_=>go_simp;rfl
 have az:(wc.alloc (.cells #[zB 0,zB 0,.float .f64 0,.string ⟨#[]⟩,zB 1,zB 1,.float .f64 0,.string ⟨#[]⟩,zB 2,zB q,.float .f64 0,.string ⟨#[]⟩,zB 3,zB 0,.float .f64 d,.string ⟨#[]⟩,zB 4,zB 0,.float .f64 0,.string ⟨#[118]⟩] 31)).cell? (wc,a*4+2)=some (.float .f64 (zej q d a).f):=by
  match a,k with
  |0,_=>go_simp;rfl
  |1,_=>go_simp;rfl
  |2,_=>go_simp;rfl
  |3,_=>go_simp;rfl
  |4,_=>go_simp;rfl
 have af:(wc.alloc (.cells #[zB 0,zB 0,.float .f64 0,.string ⟨#[]⟩,zB 1,zB 1,.float .f64 0,.string ⟨#[]⟩,zB 2,zB q,.float .f64 0,.string ⟨#[]⟩,zB 3,zB 0,.float .f64 d,.string ⟨#[]⟩,zB 4,zB 0,.float .f64 0,.string ⟨#[118]⟩] 31)).cell? (wc,a*4+3)=some (.string (zej q d a).s):=by
  match a,k with
  |0,_=>go_simp;rfl
  |1,_=>go_simp;rfl
  |2,_=>go_simp;rfl
  |3,_=>go_simp;rfl
  |4,_=>go_simp;rfl
 go_upto_region 4 with fail;obtain⟨v,hv⟩:=aY (zej q d a);rw[hv];have hwv:WV v:=by rw[<-hv];exact zuq q d a
 generalize o:World.alloc _ _=i;have hE4:i.heap[eb]?=some (.cells #[zB 0,zB p,zB m,.string (yd ti),zB v.kind,zB v.n,.float .f64 v.f,.string v.s,.string (qt ki),()] 33 (0,0)):=by subst o;rw[zt,zN (by simp only[World.setCell,zj0];omega)];simp[World.setCell,zu,hE]
 have r:w<=eb:=by have:=aa.size;omega
 have hB4:Below w w i:=by subst o;have h:=(((J.setCell (p:=(eb,4)) r (zB v.kind)).setCell (p:=(eb,5)) r (zB v.n)).setCell (p:=(eb,6)) r (.float .f64 v.f)).setCell (p:=(eb,7)) r (.string v.s);exact h.alloc h.size _
 have hR4:i.heap[w.heap.size]?=some (.cells #[zB 0,zB 0,zB 0,.string ⟨#[]⟩,zB 0,zB 0,.float .f64 0,.string ⟨#[]⟩,.string ⟨#[]⟩,()] 33 (0,0)):=by
  subst o;have T:w.heap.size<w1.heap.size:=aL y;have L:=(u.block _ T).trans y;have bb:=aL L;have hne:¬eb=w:=by omega
  rw[zt,zN (by simp only[World.setCell,zj0];omega)];simp[World.setCell,zu,L,hne]
 clear o ao ax az af ak a0 c6 ad aw aH ap ag hE u J aq ab k ai hv ar;have hne:¬eb=w:=by have:=(aL y);omega
 have e0:=aC hE4 0;have e1:=aC hE4 1;have e2:=aC hE4 2;have e3:=aC hE4 3;have e4:=aC hE4 4;have e5:=aC hE4 5;have e6:=aC hE4 6;have e7:=aC hE4 7;have e8:=aC hE4 8;have e9:=aC hE4 9;have g0:i.frozen? eb=false:=by simp[World.frozen?,hE4]
 have g1:i.frozen? (eb,1)=false:=by simp[World.frozen?,hE4]
 have g2:i.frozen? (eb,2)=false:=by simp[World.frozen?,hE4]
 obtain⟨e,a9,a1⟩:∃e:Nat,(z:Int) % 8=e/\e<=5:=⟨z % 8,by omega,ah⟩;have al:e=0\/e=1\/e=2\/e=3\/e=4\/e=5:=by omega
 rcases al with rfl|rfl|rfl|rfl|rfl|rfl
 ·obtain⟨K,hK⟩:=aX (1:Int);exact wP
 ·obtain⟨K,hK⟩:=aX (1:Int);exact wP
 ·obtain⟨K,hK⟩:=aX (1:Int);exact wP
 ·obtain⟨K,hK⟩:=aX (2:Int);exact wP
 ·exact wQ
 ·exact wQ
end
theorem zlg:∀i,j9 (yd i)=true/\(yd i).size<=5/\1<=(zh (yd i)).length/\(zh (yd i)).length<=4
 |0=>oaK
 |1=>oaK
 |2=>oaK
 |3=>oaK
 |4=>oaK
 |n+5=>by rw[show yd (n+5)=⟨#[104,105]⟩ from rfl];decide +kernel
theorem ztk:zaA zD 49 53 7 yb where
 ht:=Tryz.underlying49
 hi:=by obtain⟨a,d,c,e,f⟩:=yI (by kernel_rfl:(Tryz.prog.info? 53).map (fun a=>(a.zero,a.size,a.bytes))=some (some (.agg #[.string ⟨#[]⟩,.bool false,zB 0,zB 0,.float .f64 0,.string ⟨#[]⟩,()]),7,88));exact⟨a,_,d,c,e,oa,rfl⟩
 k0:=ol
 len:=fun _=>rfl
 one:=fun g h b=>by simp[yb] at b;rcases b with rfl|rfl|rfl|rfl|rfl|rfl|rfl<;> rfl
theorem ztl(H:zJ)(t:ByteArray)(w:zC)(h:zc 7 yb w H [⟨t,false,yO⟩])(ab:t.size<=1000000):
 Calls Tryz.prog 11 #[H] w (vu 53 7 yb ((zh t).map qG) w):=by
 obtain⟨b,g,x,rfl,aa,n⟩:∃b g x,H= .slice (some ⟨b,g,none⟩) 1 x/\b<w.heap.size/\∀d s,(yb ⟨t,false,yO⟩)[d]?=some s->w.cell? ⟨b,g+d,none⟩=some s:=by
  rcases h with⟨_,f⟩|⟨b,g,x,f,_,hb,n⟩
  ·cases f
  ·exact⟨b,g,x,f,hb,fun d s ac=>by have:=n 0 _ rfl d s ac;rwa[zfP,jD] at this⟩
 obtain⟨j,r⟩:=aY (zh t);rw[r];have a0:w.cell? (b,g)=some (.string t):=n 0 _ rfl;have ap:w.cell? (b,g+1)=some (.bool false):=n 1 _ rfl;have c6:w.cell? (b,g+6)=():=n 6 _ rfl;have z:=zh4 t oa w;have ay:j.length<=1000000:=by rw[<-r];exact zk (zgY t) ab
 unfold zoQ at z;rw[r] at z;clear h n r;go_enter Tryz.func11,Tryz.ntmps11;go_wp2;go_loopw [3,4] (fun y d wr=>∃v:zJ,y=v/\((d=zB 0/\v=()/\w=wr)\/(d=zB 1/\zG w 53 7 yb wr v (j.map qG)/\Below w w wr))) (fun _ d _=>1 - (intOf d).toNat);case atStart=>exact⟨_,rfl,.inl ⟨rfl,rfl,rfl⟩⟩
 case round=>
  obtain⟨v,rfl,⟨rfl,rfl,rfl⟩|⟨rfl,o,hb⟩⟩:=hrel
  ·go_wp2_with (go_at_call 48;refine z.mono ?_;rintro f i ⟨av,rfl,E,A⟩);obtain⟨l,ak⟩:=aY j.length;obtain⟨Z,u,rfl⟩:=E.len;rw[ak];have Y:w.heap.size<=i.heap.size:=A.size;go_loopw [3,7] (fun y d wx=>∃(k:Nat) (v:zJ),y=v/\d=zB k/\k<=l/\zG i 53 7 yb wx v ((j.take k).map qG)/\Below i i wx) (fun _ d _=>l - (intOf d).toNat);case atStart=>exact⟨0,_,rfl,rfl,oa,zG.nil,zf _ _⟩
   case round=>
    obtain⟨k,v,rfl,rfl,aw,o,hb⟩:=hrel;by_cases G:k<l
    ·have az:(k:Int)<l:=(by omega);obtain⟨c,L⟩:∃c,j[k]?=some c:=⟨_,xG oa⟩;obtain⟨e,rfl,J,ai,R⟩:∃e,Z=some ⟨e,0,none⟩/\e<i.heap.size/\l<=u/\i.cell? (e,k)=some (.int .i32 c):=by
      rcases E.2 with⟨f,_⟩|⟨e,aZ,ax,f,_,N,ai,_⟩
      ·injection f;omega
      ·injection f with e1 e2 e3;subst e1;refine⟨e,rfl,(aL N),oa,?_⟩;have h1:=zjg E k oa;have G:=jo (enc:=zbP) (k:=1) (fun _=>rfl) j k 0 c L oa;rw[zbh,jD] at G;have M:=h1.trans G;simpa[zbP] using M
     have ad:e<wr:=zg J hb.size;have X:=(hb.cell (p:=(e,k)) J).trans R;have F:=fun w=>zlC (T:=123) (k:=1) oe (fun w=>oe) e 0 l u k (k+1) oa oa w;simp only[qr,zbh,Nat.add_sub_cancel_left] at F;have an:∀m:zI zX wr,(convert 123 9 (.slice (some (e,k)) 1 (u - k))).run zD m.val= .ok (.string (xo [c])) m.val:=fun m=>(by have h1:=zI.cell (T:=fun _=>False) (W:=wr) (a:=(e,k)) ad id X m;have:=zjf (P:=zD) m.val 123 9 21 (e,k) 1 (u - k) [c] oh zeR zhK zhL (fun am O=>by obtain rfl:am=0:=(by simpa using O);rw[qW,jD];exact h1);rw[this];rfl);have V:b<wr.heap.size:=oao;have ah:∀m:zI (fun _=>False) wr,m.val.cell? ⟨b,g+6,none⟩=some (.slice none 0 0):=zI.cell V id ((hb.cell (p:=⟨b,g+6,none⟩) (by show b<i.heap.size;omega)).trans ((A.cell (p:=⟨b,g+6,none⟩) aa).trans c6));obtain⟨aj,B⟩:=aY (k+1);rw[B] at F;have aq:(k:Int)+1=aj:=oa;have aP:=zA B;clear B;go_upto_region 11 with fail;refine xU 14 [0,1,2,3,4,5,6,7,8,9,10,11,12] [13,14,15] zX (aM ?_);refine aR ?_;clear an F ah;refine aS ?_;go_wp2;have q:Below wr wr ((wr.alloc (.cells (yb (qG c)).toArray 53)).drew):=aA.drew;refine⟨zI.to (Mods.of_below q),?_⟩;have K:zc 7 yb ((wr.alloc (.cells (yb (qG c)).toArray 53)).drew) (.slice (some wr) 1 1) [qG c]:=(zc.one (k:=7) (enc:=yb) wr (qG c) 53).drew;have D:=o.blk fun b f=>q.block b (o.lt f);have C:i.heap.size<=((wr.alloc (.cells (yb (qG c)).toArray 53)).drew).heap.size:=zk hb.size q.size;have I:=zK hb q;have ag:(j.take (k+1)).map qG=(j.take k).map qG++[qG c]:=(by rw[vg,L,ym];rfl);have ao:((j.take k).map qG).length<=1000000:=(by rw[xk,yn];omega);change jI _ _ _ _ _ _ _ ((wr.alloc (.cells (yb (qG c)).toArray 53)).drew);generalize(wr.alloc (.cells (yb (qG c)).toArray 53)).drew=aH at q K D C I ⊢;refine aS ?_;refine yz ztk rfl _ _ rfl i.heap.size _ ((j.take k).map qG) rfl D _ [qG c] rfl K oE C ?_;intro au w6 al af _;have ae:Below i i w6:=I.grown af C (fun b f=>D.ge f);go_wp2;refine aS ?_;go_wp2;refine xE ?_;go_wp2;go_roundw;case rel=>exact⟨k+1,_,rfl,ou,oa,by rw[ag];exact al,ae⟩
     simp[intOf];omega
    ·obtain rfl:k=l:=(by omega);have ar:¬((k:Int)<k):=oa;go_wp2;go_roundw;case rel=>exact⟨_,rfl,.inr ⟨rfl,by rw[zaX (by omega)] at o;exact o.any Y,zK A hb⟩⟩
     exact zde
  ·go_wp2;go_ret;exact⟨_,rfl,o,hb⟩
end Go.Proofs.YtimlgcodecgecaaGreatDoor
