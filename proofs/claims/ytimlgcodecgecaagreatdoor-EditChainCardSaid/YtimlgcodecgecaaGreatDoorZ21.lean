/- The reference's small functions of operations: quireref8.none, named, zero, Len, names; quireref2.Check, Bits, Clean. -/
import Derived.Test.YtimlgcodecgecaaGreatDoorZ15
set_option maxRecDepth 100000
set_option maxHeartbeats 20000000
set_option linter.all false
namespace Go.Proofs.YtimlgcodecgecaaGreatDoor
open Go.RowKit Go.Lib
theorem zkg(x:zF)(w:zC):
 Calls zD 96 #[.agg #[x.c,x.k]] w fun b a=>b= .returned (.bool x.rightB)/\Below w w a:=by
 go_enter Tryz.func96,Tryz.ntmps96;go_wp2;all_goals go_ret
 all_goals exact⟨vG (by simp[zF.rightB,xi, *]<;> omega),aB⟩
theorem zcS(x:zF)(w:zC):
 Calls zD 98 #[.agg #[x.c,x.k]] w fun b a=>b= .returned (.bool (decide (x=zT)))/\Below w w a:=by
 go_enter Tryz.func98,Tryz.ntmps98;go_wp2;all_goals go_ret
 all_goals exact⟨vG (by rcases x with⟨d,c⟩;simp_all [zT]),aB⟩
theorem zhv(x:zF)(w:zC)(h:x=zT\/x.rightB=true):
 Calls zD 97 #[.agg #[x.c,x.k]] w fun c k=>c= .returned (.bool true)/\Below w w k:=by
 have d:=fun w=>zcS x w;rcases h with h|h
 ·rw[show decide (x=zT)=true by simp[h]] at d;clear h;go_enter Tryz.func97,Tryz.ntmps97;go_wp2_with (go_at_call 98;refine(d _).mono ?_;rintro c o ⟨rfl,b⟩);all_goals go_ret
  all_goals exact⟨rfl,zK (aB) b⟩
 ·rw[show decide (x=zT)=false by simpa using zoo h] at d;have i:=fun w=>zkg x w;rw[h] at i;clear h;have j:Below w w (w.alloc (.cells #[x.c,x.k] 62)):=aB;go_enter Tryz.func97,Tryz.ntmps97;go_upto_region 1 with fail;generalize f:World.alloc _ _=t;obtain⟨-,e,-⟩:=aF f;try simp only[f] at j
  clear f;have g:=aL e;have n:=aC e 0;have m:=aC e 1;clear e;go_wp2_with (first|(go_at_call 98;refine(d _).mono ?_;rintro c o ⟨rfl,b⟩;have s:=(b.cell (p:=w) g).trans n;have r:=(b.cell (p:=(w,1)) g).trans m)|(go_at_call 96;refine(i _).mono ?_;rintro c q ⟨rfl,l⟩));all_goals go_ret
  all_goals exact⟨rfl,zK j (zK b l)⟩
def WV(v:zr):Prop:=v=yO\/v=⟨1,1,0,⟨#[]⟩⟩\/(∃n,v=⟨2,n,0,⟨#[]⟩⟩)\/(∃f,v=⟨3,0,f,⟨#[]⟩⟩)\/v=⟨4,0,0,⟨#[118]⟩⟩
theorem zkh(f:Nat)(w:World):(callFunc 80 #[Value.float .f64 f]).run Tryz.prog w= .ok (.value (.int .u64 f)) w:=oe
theorem zuC(f:Nat)(w:zC):(callFunc 82 #[Value.int .u64 f]).run zD w= .ok (.value (.float .f64 f)) w:=oe
theorem zhw(v:zr)(e:WV v)(w:zC):Calls zD 23 #[.agg #[zB v.kind,zB v.n,.float .f64 v.f,.string v.s]] w fun a b=>a=(zB 0)/\Below w w b:=by
 have i:=zkh;have h:=fun w=>zkh 0 w;have f:∀w,Calls Tryz.prog 26 #[.string ⟨#[118]⟩] w fun a b=>a= .returned (.bool true)/\Below w.heap.size w b:=fun w=>zkw ⟨#[118]⟩ ol w;rcases e with rfl|rfl|⟨d,rfl⟩|⟨c,rfl⟩|rfl
 ·change Calls Tryz.prog 23 #[.agg #[.int .i64 0,.int .i64 0,.float .f64 0,.string ⟨#[]⟩]] w _;go_enter zfh,zfi;go_wp2;all_goals go_ret
  all_goals exact⟨rfl,aB⟩
 ·change Calls Tryz.prog 23 #[.agg #[.int .i64 1,.int .i64 1,.float .f64 0,.string ⟨#[]⟩]] w _;go_enter zfh,zfi;go_wp2;all_goals go_ret
  all_goals exact⟨rfl,aB⟩
 ·change Calls Tryz.prog 23 #[.agg #[.int .i64 2,.int .i64 d,.float .f64 0,.string ⟨#[]⟩]] w _;go_enter zfh,zfi;go_wp2;all_goals go_ret
  all_goals exact⟨rfl,aB⟩
 ·change Calls Tryz.prog 23 #[.agg #[.int .i64 3,.int .i64 0,.float .f64 c,.string ⟨#[]⟩]] w _;go_enter zfh,zfi;go_wp2;all_goals go_ret
  all_goals exact⟨rfl,aB⟩
 ·change Calls Tryz.prog 23 #[.agg #[.int .i64 4,.int .i64 0,.float .f64 0,.string ⟨#[118]⟩]] w _;go_enter zfh,zfi;go_wp2_with (go_at_call 26;refine(f _).mono ?_;rintro a j ⟨rfl,g⟩);all_goals go_ret
  all_goals exact⟨rfl,zK (aB) g⟩
theorem zuD(f:Nat)(w:World):
 Calls Tryz.prog 83 #[.float .f64 f] w fun c b=>c= .returned (.int .u64 ((if qv f then za5 else f:Nat):Int))/\w=b:=by
 have d:=zkh;cases hn:qv f
 ·have a:(FloatKind.f64.format.order f f !=some Ordering.eq)=false:=hn;simp only[jW,jX];clear hn;go_enter Tryz.func83,Tryz.ntmps83;go_wp2;go_ret;exact⟨rfl,rfl⟩
 ·have a:(FloatKind.f64.format.order f f !=some Ordering.eq)=true:=hn;simp only[vJ];clear hn;go_enter Tryz.func83,Tryz.ntmps83;go_wp2;go_ret;exact⟨rfl,rfl⟩
theorem zuE(v:zr)(j:WV v)(w:zC):
 Calls zD 27 #[.agg #[zB v.kind,zB v.n,.float .f64 v.f,.string v.s]] w fun a c=>a= .returned (.agg #[zB (v.clean).kind,zB (v.clean).n,.float .f64 (v.clean).f,.string (v.clean).s])/\Below w w c:=by
 have l:=zuC;have k:=zbA;have h:=zuD;have i:qv 0=false:=rfl;rcases j with rfl|rfl|⟨d,rfl⟩|⟨b,rfl⟩|rfl
 ·change Calls zD 27 #[.agg #[zB 0,zB 0,.float .f64 0,.string ⟨#[]⟩]] w fun a c=>a= .returned (.agg #[zB 0,zB 0,.float .f64 0,.string ⟨#[]⟩])/\_;go_enter zfj,zfk;go_wp2;exact yG (v:= .agg #[zB 0,zB 0,.float .f64 0,.string ⟨#[]⟩]) oap rfl ⟨rfl,aB⟩
 ·change Calls zD 27 #[.agg #[zB 1,zB 1,.float .f64 0,.string ⟨#[]⟩]] w fun a c=>a= .returned (.agg #[zB 1,zB 1,.float .f64 0,.string ⟨#[]⟩])/\_;go_enter zfj,zfk;go_wp2;exact yG (v:= .agg #[zB 1,zB 1,.float .f64 0,.string ⟨#[]⟩]) oap rfl ⟨rfl,aB⟩
 ·rw[show(⟨2,d,0,⟨#[]⟩⟩:zr).clean=⟨2,d,0,⟨#[]⟩⟩ by simp[zr.clean,i]];change Calls zD 27 #[.agg #[zB 2,zB d,.float .f64 0,.string ⟨#[]⟩]] w fun a c=>a= .returned (.agg #[zB 2,zB d,.float .f64 0,.string ⟨#[]⟩])/\_;go_enter zfj,zfk;go_wp2;exact yG (v:= .agg #[zB 2,zB d,.float .f64 0,.string ⟨#[]⟩]) oap rfl ⟨rfl,aB⟩
 ·have a:(⟨3,0,b,⟨#[]⟩⟩:zr).clean=⟨3,0,if qv b then za5 else b,⟨#[]⟩⟩:=by unfold zr.clean;cases qv b<;> rfl
  rw[a];obtain⟨f,e⟩:=aY ((if qv b then za5 else b));have g:=fun w=>h b w;rw[e] at g ⊢;clear a e h;change Calls zD 27 #[.agg #[zB 3,zB 0,.float .f64 b,.string ⟨#[]⟩]] w fun a c=>a= .returned (.agg #[zB 3,zB 0,.float .f64 f,.string ⟨#[]⟩])/\_;go_enter zfj,zfk;go_wp2_with (go_at_call 83;refine(g _).mono ?_;rintro a c ⟨rfl,rfl⟩);exact yG (v:= .agg #[zB 3,zB 0,.float .f64 f,.string ⟨#[]⟩]) oap rfl ⟨rfl,aB⟩
 ·change Calls zD 27 #[.agg #[zB 4,zB 0,.float .f64 0,.string ⟨#[118]⟩]] w fun a c=>a= .returned (.agg #[zB 4,zB 0,.float .f64 0,.string ⟨#[118]⟩])/\_;go_enter zfj,zfk;go_wp2;exact yG (v:= .agg #[zB 4,zB 0,.float .f64 0,.string ⟨#[118]⟩]) oap rfl ⟨rfl,aB⟩
def zns(l r:zF)(w:World)(e:Ending)(w':World):Prop:=∃b,e= .returned (.slice (some ⟨b,0,none⟩) 5 5)/\Below w.heap.size w w'/\(∃t,w'.heap[b]?=some (.cells #[.int .u64 l.c,.int .u64 l.k,.int .u64 r.c,.int .u64 r.k,.int .u64 0,.int .u64 0,.int .u64 0,.int .u64 0,.int .u64 0,.int .u64 0] t (0,0)))
def jP(l r:zF)(j:Nat):zF:=if j=0 then l else if j=1 then r else zT
theorem zki{w:zC}{b:Nat}{l r:zF}{t:TypeId}(a:w.heap[b]?=some (.cells #[l.c,l.k,r.c,r.k,zH,zH,zH,zH,zH,zH] t (0,0))){j:Nat}(c:j<5):
 w.cell? (b,j*2)=(jP l r j).c/\w.cell? (b,j*2+1)=(jP l r j).k:=by
 have:j=0\/j=1\/j=2\/j=3\/j=4:=oa;rcases this with rfl|rfl|rfl|rfl|rfl<;> simp[World.cell?,a,jP,zT]
theorem zkj(i l r:zF)(t:ByteArray)(w:zC)(g:t.size<=1000000000000):
 Calls zD 102 #[zS (zl i l r t)] w fun d e=>d=(zB ((zh t).length:Int))/\Below w w e:=by
 have c:=fun w=>zkx t g w;generalize((zh t).length:Int)=n at c ⊢;change Calls zD 102 #[.agg #[i.c,i.k,zB 1,zH,l.c,l.k,r.c,r.k,.string t,zB 0,zB 0,.float .f64 0,.string ⟨#[]⟩,.string ⟨#[]⟩,zH,zH,zH,zH,.bool false,zH,zH,.bool false]] w _;go_enter Tryz.func102,Tryz.ntmps102;go_upto_region 1 with fail;refine vr (zl i l r t) fun a f b=> ?_;have j:a.cell? (w,2)=(zB 1):=b.cells 2 _ rfl;have m:a.cell? (w,8)=some (.string t):=b.cells 8 _ rfl;go_wp2_with (go_at_call 25;refine(c _).mono ?_;rintro d k ⟨rfl,h⟩);go_ret;exact⟨rfl,zK f h⟩
theorem znt(i l r:zF)(t:ByteArray)(w:World):Calls Tryz.prog 101 #[zS (zl i l r t)] w (zns l r w):=by change Calls Tryz.prog 101 #[.agg #[.int .u64 i.c,.int .u64 i.k,.int .i64 1,.int .u64 0,.int .u64 l.c,.int .u64 l.k,.int .u64 r.c,.int .u64 r.k,.string t,.int .i64 0,.int .i64 0,.float .f64 0,.string ⟨#[]⟩,.string ⟨#[]⟩,.int .u64 0,.int .u64 0,.int .u64 0,.int .u64 0,.bool false,.int .u64 0,.int .u64 0,.bool false]] w _;go_enter Tryz.func101,Tryz.ntmps101;go_wp2;go_ret;refine⟨w.heap.size+1,rfl,aB,62,?_⟩;rw[zt,zP oh]
theorem zuF(i l r:zF)(t:ByteArray)(w:zC)(H:l=zT\/l.c=i.c)(J:r=zT\/r.c=i.c):
 Calls Tryz.prog 105 #[zS (zl i l r t)] w fun G N=>G= .returned (.slice none 0 0)/\Below w.heap.size w N:=by
 have F:=fun w=>znt i l r t w;have X:=zA (show ∀a,jP l r a=zT\/(jP l r a).c=i.c from fun a=>by
  unfold jP;split
  ·exact H
  ·split
   ·exact J
   ·exact .inl rfl)
 clear H J;change Calls Tryz.prog 105 #[.agg #[.int .u64 i.c,.int .u64 i.k,.int .i64 1,.int .u64 0,.int .u64 l.c,.int .u64 l.k,.int .u64 r.c,.int .u64 r.k,.string t,.int .i64 0,.int .i64 0,.float .f64 0,.string ⟨#[]⟩,.string ⟨#[]⟩,.int .u64 0,.int .u64 0,.int .u64 0,.int .u64 0,.bool false,.int .u64 0,.int .u64 0,.bool false]] w _;go_enter Tryz.func105,Tryz.ntmps105;go_upto_region 1 with fail;refine vr (zl i l r t) fun y L j=> ?_;go_upto_region 3 with(first|(refine xv (T:=66) (v:=zS (zl i l r t)) rfl rfl rfl j.load ?_)|(go_at_call 101;refine(F _).mono ?_;rintro G k ⟨b,rfl,u,n,B⟩));have s:=j.below u j.lt;have D:=zK L u;have Y:=zA (fun a (E:a<5)=>zki B E);have M:b<k:=aL B;have I:k.cell? w=i.c:=s.cells 0 _ rfl;have V:=s.lt;have W:=zA D;clear j s L u D B F y;go_upto_region 4 with fail;go_loopw [3,5] (fun R p wr=>∃a:Nat,a<=5/\R=()/\p=zB a/\Below k k wr) (fun _ p _=>5 - (intOf p).toNat);case atStart=>exact⟨0,oa,rfl,rfl,zf _ _⟩
 case round=>
  obtain⟨a,E,rfl,rfl,c⟩:=hrel;by_cases O:a<5
  ·have ad:(a:Int)<5:=(by omega);obtain⟨x,q⟩:=Y.o a O;have d:=X.o a;obtain⟨e,K⟩:=aY (jP l r a);rw[K] at x q d;have ae:=c.size;have h:∀g:zM wr,g.val.cell? (b,a*2)=e.c:=zM.cell (by show b<_;omega) ((c.cell (p:=(b,a*2)) M).trans x);have m:∀g:zM wr,g.val.cell? (b,a*2+1)=e.k:=zM.cell (by show b<_;omega) ((c.cell (p:=(b,a*2+1)) M).trans q);have A:∀g:zM wr,g.val.cell? w=i.c:=zM.cell oq ((c.cell (p:=w) V).trans I);have f:=fun y=>zcS e y;have o:=zA c;clear x q K I c;rcases d with rfl|d
   ·rw[show decide (zT=zT)=true from rfl] at f;have n:(!true)=false:=rfl;dsimp only[zT] at h m f;go_wp2;refine aG ?_;repeat(first|go_big_quiet_skip|(go_big_quiet_want;go_big_quiet_op;first|go_big_quiet_on|go_big_quiet_call ((go_at_call 98;exact xl (f _)))))
    refine aE ?_;intro W' hC' hBW';clear h m A hC';go_wp2;go_roundw;case rel=>exact⟨a+1,oa,rfl,ou,zK o.o hBW'⟩
    case measure=>simp[intOf]<;> omega
   ·obtain⟨z,C⟩:∃z,decide (e=zT)=z:=⟨_,rfl⟩;rw[C] at f;have ab:(e.c !=i.c)=false:=jj;clear C;rw[d] at h;have Z:(i.c !=i.c)=false:=oh;obtain⟨aa,ac⟩:=e;dsimp only at d;subst d;cases z
    ·have n:(!false)=true:=rfl;go_wp2;refine aG ?_;repeat(first|go_big_quiet_skip|(go_big_quiet_want;go_big_quiet_op;first|go_big_quiet_on|go_big_quiet_call ((go_at_call 98;exact xl (f _)))))
     refine aE ?_;intro W' hC' hBW';clear h m A hC';go_wp2;go_roundw;case rel=>exact⟨a+1,oa,rfl,ou,zK o.o hBW'⟩
     case measure=>simp[intOf]<;> omega
    ·have n:(!true)=false:=rfl;go_wp2;refine aG ?_;repeat(first|go_big_quiet_skip|(go_big_quiet_want;go_big_quiet_op;first|go_big_quiet_on|go_big_quiet_call ((go_at_call 98;exact xl (f _)))))
     refine aE ?_;intro W' hC' hBW';clear h m A hC';go_wp2;go_roundw;case rel=>exact⟨a+1,oa,rfl,ou,zK o.o hBW'⟩
     case measure=>simp[intOf]<;> omega
  ·obtain rfl:a=5:=(by omega);go_wp2;go_ret;exact⟨rfl,zK W.o c⟩
theorem zuJ(i l r:zF)(t:ByteArray)(f e:Nat)(w:zC)(ax:t.size<=1000000)(an:f<e)(V:e<=(zh t).length)(ay:0<=i.k)(az:i.k+f<18446744073709551616):
 Calls zD 104 #[zS (zl i l r t),zB f,zB e] w fun aq ah=>aq= .returned (.tuple #[zS (zb2 i l r t f e),.bool true])/\Below w w ah:=by
 have F:=fun w=>zkj i l r t w oa;have hcut:=fun w=>zwy t f e w oa an V;have ag:=zgY t;generalize((zh t).length)=O at F V ag;unfold zb2;generalize yW t f e=a at hcut ⊢;obtain⟨aP,h⟩:=aY ((if 0<f then(⟨i.c,i.k+f - 1⟩:zF) else l));rw[h];have C:=zA h;clear h;change Calls zD 104 #[.agg #[i.c,i.k,zB 1,zH,l.c,l.k,r.c,r.k,.string t,zB 0,zB 0,.float .f64 0,.string ⟨#[]⟩,.string ⟨#[]⟩,zH,zH,zH,zH,.bool false,zH,zH,.bool false],zB f,zB e] w _;go_enter Tryz.func104,Tryz.ntmps104;go_upto_region 1 with fail;refine zbL (zl i l r t) zi fun ao af y E au al=> ?_;have ai:decide ((f:Int)<0)=false:=oh;have am:decide (e<=f)=false:=oi;have av:¬e<=f:=oa;have aj:decide (O<e)=false:=oi;have aw:¬O<e:=oa;go_upto_region 4 with(first|(refine xv (T:=66) (v:=zS (zl i l r t)) rfl rfl rfl y.load ?_)|(go_at_call 102;refine(F _).mono ?_;rintro ad o ⟨rfl,A⟩));have c:=y.below A y.lt;have B:=E.below A E.lt;have x:=zK af A;clear y E af A F ai am aj av aw au al ao;have X:o.cell? w=i.c:=c.cells 0 _ rfl;have ae:o.cell? (w,1)=i.k:=c.cells 1 _ rfl;have N:o.cell? (w,2)=(zB 1):=c.cells 2 _ rfl;have ab:o.cell? (w,4)=l.c:=c.cells 4 _ rfl;have R:o.cell? (w,5)=l.k:=c.cells 5 _ rfl;have aa:=c.f 1;have ac:=c.f 4;have W:=c.f 5;go_upto_region 6 with fail;rcases zhb f with G|G
 ·have h:=C.o;rw[zN oa] at h;subst h;clear C;have ak:decide ((0:Int)<(f:Int))=false:=oi;have Z:i.k+(f:Int)=i.k:=oa;have ap:qP (zl ⟨i.c,i.k+f⟩ l r a=zl i l r a):=zA (by rw[Z]);have aH:¬0<f:=oa;clear Z G;go_upto_region 9 with fail;have b:=c;have j:=B;have k:=x;clear c B x X ae N ab R aa ac W;obtain⟨m,Y⟩:=aY o;try simp only[Y] at b j k ⊢
  clear Y;have I:m.cell? (w,8)=some (.string t):=b.cells 8 _ rfl;have K:=b.f 8;have J:=b.lt;go_upto_region 10 with(go_at_call 181;refine(hcut _).mono ?_;rintro ad g ⟨rfl,d⟩;obtain⟨D,H⟩:=yZ d);have u:zR (g.setCell (w,8) (.string a)) w (zl i l r a):=(b.below d b.lt).setText a;have q:=(zK k d).setCell (p:=(w,8)) (zU _) (.string a);have n:zR (g.setCell (w,8) (.string a)) (w.heap.size+1) zi:=(zZ _ _ _ _ oag).trans (j.below d j.lt);obtain⟨ar,s⟩:=aY (g.setCell (w,8) (.string a));try simp only[s] at u q n ⊢
  clear s J I K D H d b j k hcut m g;have L:=zA (n.put (zl i l r a)).load;go_wp2_with (first|(refine xv (T:=66) (v:=zS (zl i l r a)) rfl rfl rfl u.load ?_)|(refine yx (T:=66) (v:=zS (zl i l r a)) rfl rfl rfl rfl (zR.store n (zl i l r a)) ?_));refine yG (v:= .tuple #[zS (zl i l r a),.bool true]) ?_ rfl ⟨by rw[ap.o],yo q oa _⟩;have M:=L.o;simp[results,zjy,asAddr,M]
 ·have h:=C.o;rw[zP G] at h;subst h;clear C;have ak:decide ((0:Int)<(f:Int))=true:=oi;have aZ:(1:Int)<=(f:Int):=oa;go_upto_region 9 with fail;generalize z:World.setCell _ _ _=m;have b:zR m w (zl ⟨i.c,i.k+f⟩ ⟨i.c,i.k+f - 1⟩ r t):=by subst z;exact(c.setL ⟨i.c,i.k+f - 1⟩).setK (i.k+f)
  have k:=((x.setCell (p:=(w,4)) (zU _) i.c).setCell (p:=(w,5)) (zU _) (i.k+f - 1:)).setCell (p:=(w,1)) (zU _) (i.k+f:);have j:zR m (w.heap.size+1) zi:=by subst z;exact(((zZ _ _ _ _ (by show ¬w.heap.size+1=w.heap.size;omega)).trans (zZ _ _ _ _ (by show ¬w.heap.size+1=w.heap.size;omega))).trans (zZ _ _ _ _ (by show ¬w.heap.size+1=w.heap.size;omega))).trans B
  try simp only[z] at k
  clear z c B x X ae N ab R aa ac W o;have I:m.cell? (w,8)=some (.string t):=b.cells 8 _ rfl;have K:=b.f 8;have J:=b.lt;go_upto_region 10 with(go_at_call 181;refine(hcut _).mono ?_;rintro ad g ⟨rfl,d⟩;obtain⟨D,H⟩:=yZ d);have u:zR (g.setCell (w,8) (.string a)) w (zl ⟨i.c,i.k+f⟩ ⟨i.c,i.k+f - 1⟩ r a):=(b.below d b.lt).setText a;have q:=(zK k d).setCell (p:=(w,8)) (zU _) (.string a);have n:zR (g.setCell (w,8) (.string a)) (w.heap.size+1) zi:=(zZ _ _ _ _ oag).trans (j.below d j.lt);obtain⟨ar,s⟩:=aY (g.setCell (w,8) (.string a));try simp only[s] at u q n ⊢
  clear s J I K D H d b j k hcut m g;have L:=zA (n.put (zl ⟨i.c,i.k+f⟩ ⟨i.c,i.k+f - 1⟩ r a)).load;go_wp2_with (first|(refine xv (T:=66) (v:=zS (zl ⟨i.c,i.k+f⟩ ⟨i.c,i.k+f - 1⟩ r a)) rfl rfl rfl u.load ?_)|(refine yx (T:=66) (v:=zS (zl ⟨i.c,i.k+f⟩ ⟨i.c,i.k+f - 1⟩ r a)) rfl rfl rfl rfl (zR.store n (zl ⟨i.c,i.k+f⟩ ⟨i.c,i.k+f - 1⟩ r a)) ?_));refine yG (v:= .tuple #[zS (zl ⟨i.c,i.k+f⟩ ⟨i.c,i.k+f - 1⟩ r a),.bool true]) ?_ rfl ⟨rfl,yo q oa _⟩;have M:=L.o;simp[results,zjy,asAddr,M]
theorem znu{B:Nat}{a w:zC}(h:Below B a w)(n:Nat):Below B a (w.drewN n):=h.trans ⟨rfl,rfl,rfl,zU _,fun _ _=>rfl⟩
theorem zuG(w:zC):Calls zD 99 #[.agg #[zB 0,zB 0,.float .f64 0,.string ⟨#[]⟩]] w fun a b=>a= .returned (.bool true)/\Below w w b:=by
 have d:=zhw yO (.inl rfl);go_enter Tryz.func99,Tryz.ntmps99;go_wp2_with (go_at_call 23;refine(d _).mono ?_;rintro a e ⟨rfl,c⟩);all_goals go_ret
 all_goals exact⟨rfl,zK (aB) c⟩
theorem znv {p:Prop}(h:p:=by
 have hbx2:=hbx.below hb2 hbx.lt;have hB2:=zK hB hb2;have HNB:=zA (fun j (hj:j<5)=>zki hnb hj);have hnl:nb<w2:=aL hnb;have hq0:w2.cell? w=i.c:=hbx2.cells 0 _ rfl;have hq1:w2.cell? (w,1)=i.k:=hbx2.cells 1 _ rfl;have hwl:=hbx2.lt;have HB2:=zA hB2;clear hbx hbx2 hB hb2 hB2 hnb hnm;go_upto_region 23 with fail;go_loopw [11] (fun p wr=>∃j:Nat,j<=5/\p=zB j/\Below w2 w2 wr) (fun p _=>5 - (intOf p).toNat);case atStart=>exact⟨0,by omega,rfl,zf _ _⟩
 case round=>
  obtain⟨j,hj,rfl,hbr⟩:=hrel;by_cases hlt:j<5
  ·have hj5:(j:Int)<5:=(by omega);obtain⟨c0,c1⟩:=HNB.o j hlt;have ho:=HOWN.o j;obtain⟨x,hx⟩:=aY (jP l r j);rw[hx] at c0 c1 ho;have hzr:=hbr.size;have s0:wr.cell? (nb,j*2)=x.c:=(hbr.cell (p:=(nb,j*2)) hnl).trans c0;have s1:wr.cell? (nb,j*2+1)=x.k:=(hbr.cell (p:=(nb,j*2+1)) hnl).trans c1;have s2:wr.cell? w=i.c:=(hbr.cell (p:=w) hwl).trans hq0;have s3:wr.cell? (w,1)=i.k:=(hbr.cell (p:=(w,1)) hwl).trans hq1;have HBR:=zA hbr;have hik:=HIK.o;clear c0 c1 hx hq0 hq1 hbr;rcases ho with rfl|⟨ho1,ho2⟩
   ·have he:((0:Int)==i.c)=false:=(by simp;omega);dsimp only[zT] at s0 s1;go_wp2;go_quiet (fail);go_wp2;go_roundw;case rel=>exact⟨j+1,by omega,by go_num,znu HBR.o _⟩
    case measure=>simp[intOf]<;> omega
   ·have he2:decide (i.k<=x.k)=false:=(by simp;omega);rw[ho1] at s0;go_wp2;go_quiet (fail);go_wp2;go_roundw;case rel=>exact⟨j+1,by omega,by go_num,znu HBR.o _⟩
    case measure=>simp[intOf]<;> omega
  ·obtain rfl:j=5:=(by omega);go_wp2;go_ret;exact⟨rfl,zK HB2.o hbr⟩):p:=h
theorem znw{p:Prop}(h:p:=by obtain⟨X1,hX⟩:=aY w1;rw[hX] at hbx hB ⊢;clear hb1 hc hf hz hX q0 q1 q2 q3 q4 q5 q6 q7 q8 q9 q10 q11 q12 q13 q14 q15 q16 q17 q18 q19 q20 q21 hz0 hnl hnr;have hz0:=hbx.lt;obtain⟨q0,q1,q2,q3,q4,q5,q6,q7,q8,q9,q10,q11,q12,q13,q14,q15,q16,q17,q18,q19,q20,q21⟩:=tcs hbx;go_upto_region 21 with(first|(go_at_call 23;refine(h2 _).mono ?_;rintro e w1 ⟨rfl,hb1⟩;obtain⟨hc,hf⟩:=yZ hb1;have hz:=zg (by assumption) hb1.size;have hbx:=hbx.below hb1 (by assumption);have hB:=zK hB hb1)|(go_at_call 25;refine(hlen _).mono ?_;rintro e w1 ⟨rfl,hb1⟩;obtain⟨hc,hf⟩:=yZ hb1;have hz:=zg (by assumption) hb1.size;have hbx:=hbx.below hb1 (by assumption);have hB:=zK hB hb1)|(go_at_call 26;refine(hchk _).mono ?_;rintro e w1 ⟨rfl,hb1⟩;obtain⟨hc,hf⟩:=yZ hb1;have hz:=zg (by assumption) hb1.size;have hbx:=hbx.below hb1 (by assumption);have hB:=zK hB hb1)|(go_at_call 99;refine(hzz _).mono ?_;rintro e w1 ⟨rfl,hb1⟩;obtain⟨hc,hf⟩:=yZ hb1;have hz:=zg (by assumption) hb1.size;have hbx:=hbx.below hb1 (by assumption);have hB:=zK hB hb1)|(go_at_call 98;refine(hnn _).mono ?_;rintro e w1 ⟨rfl,hb1⟩;obtain⟨hc,hf⟩:=yZ hb1;have hz:=zg (by assumption) hb1.size;have hbx:=hbx.below hb1 (by assumption);have hB:=zK hB hb1));obtain⟨Y,hY⟩:=aY w1;rw[hY] at hbx hB ⊢;clear hb1 hc hf hz hY q0 q1 q2 q3 q4 q5 q6 q7 q8 q9 q10 q11 q12 q13 q14 q15 q16 q17 q18 q19 q20 q21 hz0 hlen hchk hnn h2 hzz nt hNz hNy hle hwN hwK hwM;go_upto_region 22 with(first|(refine xv (T:=66) (v:=zS (zl i l r t)) rfl rfl rfl hbx.load ?_)|(go_at_call 101;refine(hnm _).mono ?_;rintro e w2 ⟨nb,rfl,hb2,nt,hnb⟩));exact znv):p:=h
theorem zuH (i l r:zF) (t:ByteArray) (N:Nat) (o k:Bool) (w:zC) (c:i.rightB=true) (m:1<=N) (n:N<=4096) (h:i.k+N - 1<=9007199254740991)
 (hlen:∀w,Calls zD 25 #[.string t] w fun e a=>e=(zB (N:Int))/\Below w w a)
 (hchk:∀w,Calls zD 26 #[.string t] w fun e a=>e= .returned (.bool true)/\Below w w a)
 (g:∀w,Calls zD 97 #[.agg #[l.c,l.k]] w fun e a=>e= .returned (.bool true)/\Below w w a)
 (d:∀w,Calls zD 97 #[.agg #[r.c,r.k]] w fun e a=>e= .returned (.bool true)/\Below w w a)
 (hnl:∀w,Calls zD 98 #[.agg #[l.c,l.k]] w fun e a=>e= .returned (.bool o)/\Below w w a)
 (hnr:∀w,Calls zD 98 #[.agg #[r.c,r.k]] w fun e a=>e= .returned (.bool k)/\Below w w a)
 (f:∀j,jP l r j=zT\/((jP l r j).c=i.c/\(jP l r j).k<i.k)):
 Calls zD 42 #[zS (zl i l r t)] w fun e a=>e=(zB 0)/\Below w w a:=by
 have b:=fun w=>zkg i w;rw[c] at b;have hik:1<=i.c/\1<=i.k:=by simp[zF.rightB,xi] at c;omega
 have HOWN:=zA f;have hnn:∀w,Calls zD 98 #[.agg #[zH,zH]] w fun e a=>e= .returned (.bool true)/\Below w w a:=fun w=>zcS zT w;have h2:∀w,Calls zD 23 #[.agg #[zB 0,zB 0,.float .f64 0,.string ⟨#[]⟩]] w fun e a=>e=(zB 0)/\Below w w a:=zhw yO (.inl rfl);have hzz:=zuG;have hnm:=fun w=>znt i l r t w;have nt:(!true)=false:=rfl;have hNz:(1:Int)<=(N:Int):=by omega
 have hNy:(N:Int)<=4096:=by omega
 have hle:i.k+(N:Int) - 1<=9007199254740991:=h;have hwN:IntKind.u64.wrap (N:Int)=N:=by simp[IntKind.wrap,IntKind.bits,IntKind.signed];omega
 have hwK:IntKind.u64.wrap (i.k+(N:Int))=i.k+N:=by simp[IntKind.wrap,IntKind.bits,IntKind.signed];omega
 have hwM:IntKind.u64.wrap (i.k+(N:Int) - 1)=i.k+N - 1:=by simp[IntKind.wrap,IntKind.bits,IntKind.signed];omega
 have HIK:=zA hik;clear f c hik h n m;change Calls zD 42 #[.agg #[i.c,i.k,zB 1,zH,l.c,l.k,r.c,r.k,.string t,zB 0,zB 0,.float .f64 0,.string ⟨#[]⟩,.string ⟨#[]⟩,zH,zH,zH,zH,.bool false,zH,zH,.bool false]] w _;go_enter Tryz.func42,Tryz.ntmps42;go_upto_region 1 with fail;refine vr (zl i l r t) fun p hB hbx=> ?_;obtain⟨q0,q1,q2,q3,q4,q5,q6,q7,q8,q9,q10,q11,q12,q13,q14,q15,q16,q17,q18,q19,q20,q21⟩:=tcs hbx;have hz0:=hbx.lt;go_upto_region 5 with(first|(go_at_call 96;refine(b _).mono ?_;rintro e w1 ⟨rfl,hb1⟩;obtain⟨hc,hf⟩:=yZ hb1;have hz:=zg (by assumption) hb1.size;have hbx:=hbx.below hb1 (by assumption);have hB:=zK hB hb1)|(go_at_call 97;refine(g _).mono ?_;rintro e w1 ⟨rfl,hb1⟩;obtain⟨hc,hf⟩:=yZ hb1;have hz:=zg (by assumption) hb1.size;have hbx:=hbx.below hb1 (by assumption);have hB:=zK hB hb1)|(go_at_call 97;refine(d _).mono ?_;rintro e w1 ⟨rfl,hb1⟩;obtain⟨hc,hf⟩:=yZ hb1;have hz:=zg (by assumption) hb1.size;have hbx:=hbx.below hb1 (by assumption);have hB:=zK hB hb1));obtain⟨q,hX⟩:=aY w1;rw[hX] at hbx hB ⊢;clear hb1 hc hf hz hX q0 q1 q2 q3 q4 q5 q6 q7 q8 q9 q10 q11 q12 q13 q14 q15 q16 q17 q18 q19 q20 q21 hz0 b g d;have hz0:=hbx.lt;obtain⟨q0,q1,q2,q3,q4,q5,q6,q7,q8,q9,q10,q11,q12,q13,q14,q15,q16,q17,q18,q19,q20,q21⟩:=tcs hbx;go_upto_region 6 with(first|(go_at_call 98;refine(hnl _).mono ?_;rintro e w1 ⟨rfl,hb1⟩;obtain⟨hc,hf⟩:=yZ hb1;have hz:=zg (by assumption) hb1.size;have hbx:=hbx.below hb1 (by assumption);have hB:=zK hB hb1)|(go_at_call 98;refine(hnr _).mono ?_;rintro e w1 ⟨rfl,hb1⟩;obtain⟨hc,hf⟩:=yZ hb1;have hz:=zg (by assumption) hb1.size;have hbx:=hbx.below hb1 (by assumption);have hB:=zK hB hb1))
 ·skip;exact znw
 ·skip;exact znw
def vC(i x:zF):Prop:=x=zT\/(x.rightB=true/\x.c=i.c/\x.k<i.k)
theorem zuI(i l r:zF)(t:ByteArray)(w:zC)(e:i.rightB=true)(j:j9 t=true)(n:t.size<=1000000)(h:i.k+(zh t).length - 1<=9007199254740991)(b:vC i l)(a:vC i r):
 Calls zD 42 #[zS (zl i l r t)] w fun f d=>f=(zB 0)/\Below w w d:=by
 obtain⟨c,m,g⟩:=za0 j;have o:=(zkO c);refine zuH i l r t (zh t).length (decide (l=zT)) (decide (r=zT)) w e (by omega) g h (fun w=>zkx t (by omega) w) (fun w=>by have:=zkw t (by omega) w;rwa[c] at this) (fun w=>zhv l w (b.imp id (·.1))) (fun w=>zhv r w (a.imp id (·.1))) (fun w=>zcS l w) (fun w=>zcS r w) fun k=> ?_;unfold jP;split
 ·exact b.imp id (·.2)
 ·split
  ·exact a.imp id (·.2)
  ·exact .inl rfl
section
def yc(k:Nat):List Value:= [zB k]
structure RSl where
 p:Option Addr
 n:Nat
 c:Nat
 deriving Inhabited
def RSl.v(s:RSl):Value:= .slice s.p s.n s.c
structure xP where
 u:zV
 par:Int
 left:Bool
 lv:RSl
 mv:RSl
 deriving Inhabited
def j5(n:xP):List Value:= [n.u.id.c,n.u.id.k,n.u.left.c,n.u.left.k,n.u.right.c,n.u.right.k,zB n.par,.bool n.left,n.lv.v,n.mv.v]
structure yA where
 F:Nat->Prop
 N:Nat
 up:∀b,N<=b->F b
variable {Φ:yA}
def zx(Φ:yA){α:Type}(k:Nat)(enc:α->List Value)(w:zC)(v:zJ)(l:List α):Prop:=zc k enc w v l/\∃a b,v= .slice a l.length b/\l.length<=b/\(a=none->b=0)/\∀c,a=some c->Φ.F c.block
theorem zx.below{α:Type}{k:Nat}{enc:α->List Value}{w w':zC}{v:zJ}{l:List α}(a:zx Φ k enc w v l)(b:Below w w w'):zx Φ k enc w' v l:=⟨a.1.below b,a.2⟩
theorem zx.nil{α:Type}{k:Nat}{enc:α->List Value}{w:zC}:zx Φ k enc w () ([]:List α):=⟨.inl ⟨rfl,rfl⟩,none,0,rfl,zU _,fun _=>rfl,fun _ e=>obd⟩
theorem zG.rowIn{α:Type}{base E k:Nat}{enc:α->List Value}(h:∀g,(enc g).length=k){w:zC}{v:zJ}{l:List α}(b:zG base E k enc w v l)(c:Φ.N<=base):zx Φ k enc w v l:=by
 refine⟨b.slice h,?_⟩;rcases b.2 with⟨rfl,e⟩|⟨j,i,n,rfl,d,_,f,_⟩
 ·exact⟨none,0,by rw[e],oa,fun _=>rfl,fun _ a=>by cases a⟩
 ·exact⟨_,i,rfl,f,(fun a=>by cases a),(fun m a=>by cases a;exact Φ.up _ (zk c d))⟩
theorem zx.to{f:yA}{α:Type}{k:Nat}{enc:α->List Value}{w w':World}{v:Value}{l:List α}(p:zx Φ k enc w v l)(A:w.heap.size<=w'.heap.size)(h:∀a,Φ.F a->a<w.heap.size->w'.heap[a]?=w.heap[a]?)(hF:∀a,Φ.F a->a<w.heap.size->f.F a):zx f k enc w' v l:=by
 obtain⟨i,D,g,rfl,y,n,e⟩:=p;rcases i with⟨b,rfl⟩|⟨c,o,B,b,t,d,x⟩
 ·cases b;exact zx.nil
 ·injection b with e1 e2 e3;subst e1;subst e3;refine⟨.inr ⟨c,o,g,rfl,t,oa,fun s u m r z q=> ?_⟩,_,g,rfl,y,n,fun C j=> ?_⟩
  ·rw[<-x s u m r z q];exact xA (w:=w) (h c (e _ rfl) d)
  ·cases j;exact hF c (e _ rfl) d
structure yq(Φ:yA)(w:zC)(sp:Nat)(vn vm vo:zJ)(NL:List xP)(lf rt:Nat->List Nat)(more order:List Nat):Prop where
 st:w.heap[sp]?=some (.cells #[vn,vm,vo] 213 (0,0))
 nl:zx Φ 10 j5 w vn NL
 kids:∀k r,NL[k]?=some r->zx Φ 1 yc w r.lv.v (lf k)/\zx Φ 1 yc w r.mv.v (rt k)
 mo:zx Φ 1 yc w vm more
 od:zx Φ 1 yc w vo order
 nn:Φ.N<=w
 fs:Φ.F sp
theorem yq.below{w w':zC}{d:Nat}{f m i:zJ}{n:List xP}{g k:Nat->List Nat}{e l:List Nat}(b:yq Φ w d f m i n g k e l)(c:Below w w w'):yq Φ w' d f m i n g k e l where
 st:=(c.block d (aL b.st)).trans b.st
 nl:=b.nl.below c
 kids:=fun o j h=>⟨(b.kids o j h).1.below c,(b.kids o j h).2.below c⟩
 mo:=b.mo.below c
 od:=b.od.below c
 nn:=zk b.nn c.size
 fs:=b.fs
theorem yq.to{e:yA}{w w':World}{f:Nat}{h o i:Value}{l:List xP}{n j:Nat->List Nat}{g k:List Nat}(a:yq Φ w f h o i l n j g k)(d:w.heap.size<=w'.heap.size)(c:∀b,Φ.F b->b<w.heap.size->w'.heap[b]?=w.heap[b]?)(hF:∀b,Φ.F b->b<w.heap.size->e.F b)(r:e.N<=w'.heap.size):yq e w' f h o i l n j g k where
 st:=(c f a.fs (aL a.st)).trans a.st
 nl:=a.nl.to d c hF
 kids:=fun m p q=>⟨(a.kids m p q).1.to d c hF,(a.kids m p q).2.to d c hF⟩
 mo:=a.mo.to d c hF
 od:=a.od.to d c hF
 nn:=r
 fs:=hF _ a.fs (aL a.st)
theorem yq.lt{w:zC}{a:Nat}{c i f:zJ}{j:List xP}{d g:Nat->List Nat}{b h:List Nat}(e:yq Φ w a c i f j d g b h):a<w:=aL e.st
theorem yq.c0{w:zC}{a:Nat}{b d c:zJ}{j:List xP}{f h:Nat->List Nat}{e i:List Nat}(g:yq Φ w a b d c j f h e i):w.cell? a=some b/\w.cell? (a,1)=some d/\w.cell? (a,2)=some c:=by simp[World.cell?,g.st]
def yQ(o:Option Nat):Int:=match o with
 |some k=>k
 |none=> -1
def jQ(a:List xP)(x:zF):Option Nat:=a.findIdx? fun b=>decide (b.u.id=x)
theorem zuO{a:List xP}{x:zF}{k:Nat}{r:xP}(c:a[k]?=some r)(g:r.u.id=x)(h:∀b d,b<k->a[b]?=some d->d.u.id≠x):jQ a x=some k:=by
 unfold jQ;have e:k<a.length:=(zw.1 c).1;have i:a[k]=r:=by simpa[e] using c
 rw[List.findIdx?_eq_some_iff_getElem];refine⟨e,by rw[i];simpa using g,fun b f=> ?_⟩;simpa using h b a[b] f (by simp[show b<a.length by omega])
theorem zuP{b:List xP}{x:zF}(e:∀(j:Nat) (a:xP),b[j]?=some a->a.u.id≠x):jQ b x=none:=by unfold jQ;rw[List.findIdx?_eq_none_iff];intro a c;obtain⟨j,d⟩:=zcr.1 c;simpa using e j a d
theorem zkl(l:Nat)(T ae V:zJ)(c:List xP)(ad X:Nat->List Nat)(R Y:List Nat)(x:zF)(w:zC)(h:yq Φ w l T ae V c ad X R Y):
 Calls zD 154 #[l,.agg #[x.c,x.k]] w fun s W=>s=(zB (yQ (jQ c x)))/\Below w w W:=by
 have F:=h.nl.1;have C:=h.lt;obtain⟨E,_,_⟩:=h.c0;obtain⟨p,ah,rfl,M,J⟩:=F.shape;go_enter Tryz.func154,Tryz.ntmps154;go_upto_region 1 with fail;generalize H:World.alloc _ _=t;obtain⟨f,B,-⟩:=aF H;clear H;have o:=aL B;have G:=zA B;have af:=zA J;have ai:=zA M;have aa:=zA E;clear B J F M E h;go_wp2;go_loopw [5] (fun y wr=>∃k:Nat,k<=c.length/\y=zB k/\qP (∀d i,d<k->c[d]?=some i->i.u.id≠x)/\Below t t wr) (fun y _=>c.length - (intOf y).toNat);case atStart=>exact⟨0,xO _,rfl,zA (fun d i h=>oa),zf _ _⟩
 case round=>
  obtain⟨k,au,rfl,z,b⟩:=hrel;have am:=ai.o;have al:l<wr:=zg C (zk f.size b.size);have n:=f.trans (b.mono f.size);have ac:wr.cell? l=some (.slice p c.length ah):=(n.cell (p:=l) C).trans aa.o;by_cases ab:k<c.length
  ·obtain⟨e,A⟩:∃e,c[k]?=some e:=⟨c[k],by simp[ab]⟩;obtain⟨m,r,rfl,u,v⟩:=af.o k e A;have N:m<wr:=zg u (zk f.size b.size);have ap:∀g:zM wr,g.val.cell? (m,r+k*10)=e.u.id.c:=zM.cell N ((n.cell (p:=(m,r+k*10)) u).trans (v 0 _ rfl));have an:∀g:zM wr,g.val.cell? (m,r+k*10+1)=e.u.id.k:=zM.cell N ((n.cell (p:=(m,r+k*10+1)) u).trans (v 1 _ rfl));have aq:∀g:zM wr,g.val.cell? w=x.c:=zM.cell (zg o b.size) ((b.cell (p:=w) o).trans (by simp[World.cell?,G.o]));have ar:∀g:zM wr,g.val.cell? (w,1)=x.k:=zM.cell (zg o b.size) ((b.cell (p:=(w,1)) o).trans (by simp[World.cell?,G.o]));have aj:=aU ac;have I:=zA (show ∀(W':zC),Below wr wr W'->Below t t W' from fun W' h=>b.trans (h.mono b.size));have ao:=zA n;have O:=zA A;clear n v b A;obtain⟨L,Z⟩:=aY (((e.u.id.c:Int)==x.c));obtain⟨K,ag⟩:=aY (((e.u.id.k:Int)==x.k));have q:=zA (show e.u.id=x↔(L && K)=true by rw[<-Z,<-ag];simp only[xr,zeV];cases hq:e.u.id;cases x;simp);rcases L with _|_<;> rcases K with _|_;all_goals
    go_wp2
    refine aQ ?_
    intro W' hC' hBW'
    go_wp2
    first
    |(
     go_roundw
     case rel=>exact⟨k+1,oa,ou,zA (fun d i ak j s=>by
      rcases qs d k with D|D
      ·exact z.o d i D j s
      ·obtain rfl:d=k:=(by omega);rw[O.o] at j;cases j;have:=q.o.1 s;simp at this),I.o _ hBW'⟩
     case measure=>simp[intOf];omega)
    |(
     go_ret
     exact⟨zb7 (by rw[zuO O.o (q.o.2 rfl) z.o];rfl),f.trans ((I.o _ hBW').mono f.size)⟩)
  ·have q:=zA (show jQ c x=none from zuP fun d i j=>z.o d i (by have:=(zw.1 j).1;omega) j);go_wp2;go_ret;exact⟨zb7 (by rw[q.o];rfl),f.trans (b.mono f.size)⟩
theorem zuQ{l:List Nat}{n k:Nat}(b:l[k]?=some n)(f:∀a c,a<k->l[a]?=some c->c≠n):l.idxOf n=k:=by
 have d:k<l.length:=(zw.1 b).1;have g:l[k]=n:=by simpa[d] using b
 rw[List.idxOf,List.findIdx_eq d];refine⟨by simp[g],fun a e=> ?_⟩;have:=f a l[a] e (by simp[show a<l.length by omega]);simpa using this
theorem znz(t:Nat)(y I z:zJ)(D:List xP)(G B:Nat->List Nat)(x c:List Nat)(n:Nat)(w:zC)(g:yq Φ w t y I z D G B x c)(s:n∈c):
 Calls zD 155 #[t,zB n] w fun H A=>H=(zB (c.idxOf n))/\w=A:=by
 have p:=g.od.1;obtain⟨_,_,O⟩:=g.c0;obtain⟨V,X,rfl,u,r⟩:=p.shape;have L:=zA s;have J:=zA r;have M:=zA u;clear r p u g s;go_enter Tryz.func155,Tryz.ntmps155;go_wp2;go_loop [5] (fun i=>∃b:Nat,b<=c.length/\i=zB b/\qP (∀d f,d<b->c[d]?=some f->f≠n)) (fun i=>c.length - (intOf i).toNat);case atStart=>exact⟨0,xO _,rfl,zA (fun d f g=>oa)⟩
 case round=>
  obtain⟨b,W,rfl,k⟩:=hrel;have R:=M.o;by_cases E:b<c.length
  ·obtain⟨e,m⟩:∃e,c[b]?=some e:=⟨c[b],by simp[E]⟩;obtain⟨K,F,rfl,N,q⟩:=J.o b e m;have T:w.cell? (K,F+b)=(zB e):=(by simpa using q 0 _ rfl);have v:=zA m;clear q m;by_cases l:e=n
   ·subst l;have C:((e:Int)==(e:Int))=true:=oh;go_wp2;go_ret;exact⟨zb7 (by rw[zuQ v.o k.o]),rfl⟩
   ·have C:((e:Int)==(n:Int))=false:=(by simp;omega);have Y:(e==n)=false:=(by simpa using l);go_wp2;go_round;case rel=>exact⟨b+1,oa,ou,zA (fun d f h j=>by
     rcases qs d b with o|o
     ·exact k.o d f o j
     ·obtain rfl:d=b:=(by omega);rw[v.o] at j;cases j;exact l)⟩
    case measure=>simp[intOf];omega
  ·exfalso;obtain⟨d,h⟩:=zcr.1 L.o;exact k.o d n (by have:=(zw.1 h).1;omega) h rfl
def zaO(b:List xP)(c:List Nat)(x:zF):Int:=match jQ b x with
 |some a=>c.idxOf a
 |none=> -1
theorem zn0(e:Nat)(n s o:zJ)(b:List xP)(r p:Nat->List Nat)(m a:List Nat)(x:zF)(w:zC)(h:yq Φ w e n s o b r p m a)(t:∀d,jQ b x=some d->d∈a):
 Calls zD 81 #[e,.agg #[x.c,x.k]] w fun c g=>c=(zB (zaO b a x))/\Below w w g:=by
 have k:Below w w (w.alloc (.cells #[x.c,x.k] 62)):=aB;have f:=zkl e n s o b r p m a x _ (h.below k);have v:=fun j (l:Below w w j)=>h.below l;cases hfx:jQ b x with
 |none=>
  have q:=zA (show zaO b a x= -1 by unfold zaO;rw[hfx]);rw[hfx] at f;have u:Calls zD 154 #[e,.agg #[x.c,x.k]] (w.alloc (.cells #[x.c,x.k] 62)) fun c g=>c=(zB (-1))/\Below (w.alloc (.cells #[x.c,x.k] 62)).heap.size (w.alloc (.cells #[x.c,x.k] 62)) g:=f;clear v f hfx h t;go_enter Tryz.func81,Tryz.ntmps81;go_wp2_with (go_at_call 154;refine u.mono ?_;rintro c z ⟨rfl,i⟩);go_ret;exact⟨zb7 q.o.symm,zK k i⟩
 |some d=>
  have q:=zA (show zaO b a x=a.idxOf d by unfold zaO;rw[hfx]);have y:=t d hfx;rw[hfx] at f;have u:Calls zD 154 #[e,.agg #[x.c,x.k]] (w.alloc (.cells #[x.c,x.k] 62)) fun c g=>c=(zB d)/\Below (w.alloc (.cells #[x.c,x.k] 62)).heap.size (w.alloc (.cells #[x.c,x.k] 62)) g:=f;have A:=fun j (l:Below w w j)=>znz e n s o b r p m a d j (h.below l) y;have B:=zA A;clear v f hfx h t A y;go_enter Tryz.func81,Tryz.ntmps81;go_wp2_with (first|(go_at_call 154;refine u.mono ?_;rintro c z ⟨rfl,i⟩)|(go_at_call 155;refine(B.o z (zK k i)).mono ?_;rintro c C ⟨rfl,rfl⟩));go_ret;exact⟨zb7 q.o.symm,zK k i⟩
end
end Go.Proofs.YtimlgcodecgecaaGreatDoor
