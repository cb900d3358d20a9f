/- Walks: ops.Same of one with itself; a text: ops.bare, Check, Cut, follows, Fits. -/
import Derived.Test.YtimlgcodecgecaaGreatDoorZ10
import Derived.Test.YtimlgcodecgecaaGreatDoorZ08
import Derived.Shelf.Lays8
import Derived.Shelf.Spec.SlicesGrow
import Derived.Laws.AppendOwnNone
set_option maxRecDepth 100000
set_option maxHeartbeats 20000000
set_option linter.all false
namespace Go.Proofs.YtimlgcodecgecaaGreatDoor
open Go.RowKit Go.Lib
theorem znM(x:zF)(b:Bool)(w:zC):(binOp BinOp.eql 64 (.agg #[x.c,x.k,.bool b]) (.agg #[x.c,x.k,.bool b])).run zD w= .ok (.bool true) w:=by simp only[binOp];unfold Op.equal Op.maxDepth Op.equalIn;go_simp
theorem znN(o:zQ)(w:zC):Calls zD 160 #[zS o,zS o] w fun d e=>d= .returned (.bool true)/\Below w w e:=by have f:=zw7 o.v;unfold zS;have g:=fun w=>zc0 o.id o.id w;have h:=fun w=>zc0 o.left o.left w;have j:=fun w=>zc0 o.right o.right w;have i:=fun w=>zc0 o.parent o.parent w;have aq:=fun w=>znM o.frm o.frmA w;have B:=fun w=>znM o.til o.tilA w;simp only[decide_true] at g h j i;go_enter Tryz.func160,Tryz.ntmps160;go_upto_region 1 with fail;refine zbL o o fun T k a b am N=> ?_;have I:=a.cells 0 _ rfl;have ag:=a.cells 1 _ rfl;have s:=a.cells 2 _ rfl;have x:=a.cells 3 _ rfl;have Y:=a.cells 4 _ rfl;have A:=a.cells 5 _ rfl;have J:=a.cells 6 _ rfl;have D:=a.cells 7 _ rfl;have af:=a.cells 8 _ rfl;have n:=a.cells 9 _ rfl;have C:=a.cells 10 _ rfl;have p:=a.cells 11 _ rfl;have an:=a.cells 12 _ rfl;have H:=a.cells 13 _ rfl;have z:=a.cells 14 _ rfl;have ae:=a.cells 15 _ rfl;have X:=a.cells 16 _ rfl;have W:=a.cells 17 _ rfl;have aj:=a.cells 18 _ rfl;have F:=a.cells 19 _ rfl;have K:=a.cells 20 _ rfl;have L:=a.cells 21 _ rfl;have E:=b.cells 0 _ rfl;have q:=b.cells 1 _ rfl;have ah:=b.cells 2 _ rfl;have G:=b.cells 3 _ rfl;have R:=b.cells 4 _ rfl;have v:=b.cells 5 _ rfl;have O:=b.cells 6 _ rfl;have ap:=b.cells 7 _ rfl;have aa:=b.cells 8 _ rfl;have r:=b.cells 9 _ rfl;have u:=b.cells 10 _ rfl;have m:=b.cells 11 _ rfl;have l:=b.cells 12 _ rfl;have al:=b.cells 13 _ rfl;have Z:=b.cells 14 _ rfl;have M:=b.cells 15 _ rfl;have ab:=b.cells 16 _ rfl;have V:=b.cells 17 _ rfl;have t:=b.cells 18 _ rfl;have ac:=b.cells 19 _ rfl;have ad:=b.cells 20 _ rfl;have ai:=b.cells 21 _ rfl;go_wp2_with fail;refine(f _).mono ?_;rintro d ao ⟨rfl,c⟩;obtain⟨y,ak⟩:=yZ c;go_wp2_with fail;go_ret;exact⟨rfl,zK k c⟩
def zl(i l r:zF)(t:ByteArray):zQ:=⟨i,1,0,l,r,t,yO,⟨#[]⟩,zT,zT,false,zT,false⟩
theorem tcs{W:zC}{b:Nat}{i l r:zF}{t:ByteArray}(h:zR W b (zl i l r t)):
 W.cell? b=i.c/\W.cell? (b,1)=i.k/\W.cell? (b,2)=(zB 1)/\W.cell? (b,3)=zH/\W.cell? (b,4)=l.c/\W.cell? (b,5)=l.k/\W.cell? (b,6)=r.c/\W.cell? (b,7)=r.k/\W.cell? (b,8)=some (.string t)/\W.cell? (b,9)=(zB 0)/\W.cell? (b,10)=(zB 0)/\W.cell? (b,11)=some (.float .f64 0)/\W.cell? (b,12)=some (.string ⟨#[]⟩)/\W.cell? (b,13)=some (.string ⟨#[]⟩)/\W.cell? (b,14)=zH/\W.cell? (b,15)=zH/\W.cell? (b,16)=zH/\W.cell? (b,17)=zH/\W.cell? (b,18)=some (.bool false)/\W.cell? (b,19)=zH/\W.cell? (b,20)=zH/\W.cell? (b,21)=some (.bool false):=
 ⟨h.cells 0 _ rfl,h.cells 1 _ rfl,h.cells 2 _ rfl,h.cells 3 _ rfl,h.cells 4 _ rfl,h.cells 5 _ rfl,h.cells 6 _ rfl,h.cells 7 _ rfl,h.cells 8 _ rfl,h.cells 9 _ rfl,h.cells 10 _ rfl,h.cells 11 _ rfl,h.cells 12 _ rfl,h.cells 13 _ rfl,h.cells 14 _ rfl,h.cells 15 _ rfl,h.cells 16 _ rfl,h.cells 17 _ rfl,h.cells 18 _ rfl,h.cells 19 _ rfl,h.cells 20 _ rfl,h.cells 21 _ rfl⟩
def j9(t:ByteArray):Bool:=qY t && decide (0<t.size) && decide ((zh t).length<=4096)
theorem za0{t:ByteArray}(h:j9 t=true):qY t=true/\0<t.size/\(zh t).length<=4096:=by simp only[j9,xr,xW] at h;exact⟨h.1.1,h.1.2,h.2⟩
theorem zR.setText{w:zC}{b:Nat}{o:zQ}(h:zR w b o)(t:ByteArray):zR (w.setCell (b,8) (.string t)) b {o with text:=t}:=by unfold zR at *;simp[World.setCell,zu,h,ze]
theorem zR.setL{w:zC}{b:Nat}{o:zQ}(h:zR w b o)(i:zF):zR ((w.setCell (b,4) i.c).setCell (b,5) i.k) b {o with left:=i}:=by unfold zR at *;simp[World.setCell,zu,h,ze]
theorem zR.setR{w:zC}{b:Nat}{o:zQ}(h:zR w b o)(i:zF):zR ((w.setCell (b,6) i.c).setCell (b,7) i.k) b {o with right:=i}:=by unfold zR at *;simp[World.setCell,zu,h,ze]
theorem zp1(i l r:zF)(t:ByteArray)(w:zC)(au:j9 t=true)(ba:t.size<9223372036854775807)(aw:zv w):
 Calls zD 159 #[zS (zl i l r t)] w fun ac a8=>ac= .returned (.tuple #[zS (zl i l r t),.bool true])/\Below w w a8:=by
 obtain⟨h1,bm,a9⟩:=za0 au;have hv:=zgH t;rw[h1] at hv;have H:=zlb t;generalize(zh t).length=bl at H a9;have bz:decide ((bl:Int)<=4096)=true:=oi;clear au h1;change Calls zD 159 #[.agg #[i.c,i.k,zB 1,zH,l.c,l.k,r.c,r.k,.string t,zB 0,zB 0,.float .f64 0,.string ⟨#[]⟩,.string ⟨#[]⟩,zH,zH,zH,zH,.bool false,zH,zH,.bool false]] w _;go_enter Tryz.func159,Tryz.ntmps159;go_upto_region 1 with fail;refine zbL (zl i l r t) zi fun f aZ ae ai am ap=> ?_;obtain⟨I,ad,af,R,A,q,B,s,u,G,W,O,N,ab,V,M,L,aa,ag,X,J,Z⟩:=tcs ae;have ah:=zR.new f zi;have h:Below f f (xx (f.alloc (.cells (ze zi).toArray 66)) f.heap.size {zi with id:=i,kind:=1}):=yo aA (zU _) _;have d:=ah.put {zi with id:=i,kind:=1};have a1:=zA h;have al:=zA d;clear h d;go_upto_region 2 with(refine yx (T:=66) (v:=zS {zi with id:=i,kind:=1}) rfl rfl rfl rfl (zR.store ah {zi with id:=i,kind:=1}) ?_);have h:=a1.o;have d:=al.o;obtain⟨g,aq⟩:∃g,xx (f.alloc (.cells (ze zi).toArray 66)) f.heap.size {zi with id:=i,kind:=1}=g:=⟨_,rfl⟩;try simp only[aq] at h d ⊢
 clear aq a1 al ah I ad af R A q B s u G W O N ab V M L aa ag X J Z;have Y:=ae.below h am;have an:=ai.below h ap;obtain⟨a,a3⟩:=aY f.heap.size;have ak:=zK aZ h;have bw:w.heap.size+1<a:=oa;rw[a3] at d ⊢;clear a3 h ae ai aZ am ap;obtain⟨I,ad,af,R,A,q,B,s,u,G,W,O,N,ab,V,M,L,aa,ag,X,J,Z⟩:=tcs Y;have bd:a<g:=d.lt;have bf:g.cell? (a,8)=some (.string ⟨#[]⟩):=d.cells 8 _ rfl;have bc:=d.f 8;go_upto_region 9 with fail;have C:=d.setText t;have z:=ak.setCell (p:=(a,8)) oaB (.string t);have o:zR (g.setCell (a,8) (.string t)) w (zl i l r t):=(zZ _ _ _ _ (by show ¬w.heap.size=a;omega)).trans Y;have F:zR (g.setCell (a,8) (.string t)) (w.heap.size+1) zi:=(zZ _ _ _ _ (by show ¬w.heap.size+1=a;omega)).trans an;obtain⟨bt,aP⟩:=aY (g.setCell (a,8) (.string t));try simp only[aP] at C z o F ⊢
 clear aP d ak Y an bd bf bc I ad af R A q B s u G W O N ab V M L aa ag X J Z g;have u:bt.cell? (w,8)=some (.string t):=o.cells 8 _ rfl;have a5:=o.lt;have ao:=F.lt;have av:=C.lt;have bg:t.toList.isEmpty=false:=by rw[Lib.toList_data,List.isEmpty_eq_false_iff];exact zfx bm
 go_upto_region 10 with(first|(go_at_call 67;refine(hv _ oa (aw.below z)).mono ?_;rintro ac bx ⟨rfl,D⟩;obtain⟨bv,be⟩:=yZ D)|(go_at_call 68;refine(H _ ba ((aw.below z).below D)).mono ?_;rintro ac w6 ⟨rfl,ay⟩));have x:=zK D ay;have a0:=zK z x;have n:=o.below x a5;have K:=F.below x ao;have c:=C.below x av;clear D ay bv be x z o F C u a5 ao av bg hv H;have y:=n.lt;have az:=K.lt;have a7:=c.lt;have E:w≠a:=oa;have A:∀m:zI (fun b=>b=a) w6,m.val.cell? (w,4)=l.c:=zI.cell y E (n.cells 4 _ rfl);have q:∀m:zI (fun b=>b=a) w6,m.val.cell? (w,5)=l.k:=zI.cell y E (n.cells 5 _ rfl);have B:∀m:zI (fun b=>b=a) w6,m.val.cell? (w,6)=r.c:=zI.cell y E (n.cells 6 _ rfl);have s:∀m:zI (fun b=>b=a) w6,m.val.cell? (w,7)=r.k:=zI.cell y E (n.cells 7 _ rfl);refine xU 6 [0,1,2,3,4] [5,6,7] (fun b=>b=a) (aM ?_);refine aR ?_;have bo:w6.cell? (a,4)=zH:=c.cells 4 _ rfl;have bh:w6.cell? (a,5)=zH:=c.cells 5 _ rfl;have bp:w6.cell? (a,6)=zH:=c.cells 6 _ rfl;have br:w6.cell? (a,7)=zH:=c.cells 7 _ rfl;have bn:=c.f 4;have bb:=c.f 5;have bs:=c.f 6;have bu:=c.f 7;refine aS ?_;go_wp2_with fail;have aH:Mods (fun b=>b=a) w6 ((w6.drew.setCell (a,4) l.c).setCell (a,5) l.k):=⟨rfl,rfl,rfl,oh,fun b _ j=>(zZ _ _ _ _ j).trans (zZ _ _ _ _ j)⟩;refine⟨zI.to aH,?_⟩;refine aS ?_;go_wp2_with fail;refine aS ?_;go_wp2_with fail;refine xE ?_;have ar:zR ((((w6.setCell (a,4) l.c).setCell (a,5) l.k).setCell (a,6) r.c).setCell (a,7) r.k).drew a (zl i l r t):=(c.setL l).setR r;have e:Mods (fun b=>b=a) w6 ((((w6.setCell (a,4) l.c).setCell (a,5) l.k).setCell (a,6) r.c).setCell (a,7) r.k).drew:=⟨rfl,rfl,rfl,oh,fun b _ j=>(((zZ _ _ _ _ j).trans (zZ _ _ _ _ j)).trans (zZ _ _ _ _ j)).trans (zZ _ _ _ _ j)⟩;obtain⟨a2,ax⟩:=aY (((((w6.setCell (a,4) l.c).setCell (a,5) l.k).setCell (a,6) r.c).setCell (a,7) r.k).drew);rw[ax] at ar e ⊢;have a4:zR a2 (w.heap.size+1) zi:=(e.block _ az oa).trans K;have a6:Below w w a2:=a0.trans ⟨e.os,e.tape,e.output,e.size,fun k bi=>e.block k (zg bi a0.size) oa⟩;have aj:=a4.put (zl i l r t);have bq:=zA aj.load;clear aj ax e aH A q B s bo bh bp br bn bb bs bu n K c y az a7;go_wp2_with (first|(refine xv (T:=66) (v:=zS (zl i l r t)) rfl rfl rfl ar.load ?_)|(refine yx (T:=66) (v:=zS (zl i l r t)) rfl rfl rfl rfl (zR.store a4 (zl i l r t)) ?_));refine yG (v:= .tuple #[zS (zl i l r t),.bool true]) ?_ rfl ⟨rfl,yo a6 oa _⟩;have bj:=bq.o;simp[results,Tryz.results159,asAddr,Act.put,bj]
open Go.Shelf
def vD(yX:zO)(x:zF):Bool:=!x.namedB || xH [yX] x
def yF(w:zC)(b:Nat)(r:zO):Prop:=w.heap[b]?=some (.cells (zY r).toArray 154 (0,0))
theorem yF.lt{w:zC}{b:Nat}{r:zO}(h:yF w b r):b<w:=aL h
theorem yF.cells{w:zC}{b:Nat}{r:zO}(h:yF w b r):w.cell? b=r.c/\w.cell? (b,1)=r.a/\w.cell? (b,2)=r.b:=by unfold yF at h;simp[World.cell?,h,zY]
theorem yF.below{n:Nat}{w w':zC}{b:Nat}{r:zO}(c:yF w b r)(a:Below n w w')(d:b<n):yF w' b r:=(a.block b d).trans c
theorem ziZ(W:zC)(r:zO):zc 3 zY (W.alloc (.cells #[r.c,r.a,r.b] 154)) (.slice (some W) 1 1) [r]:=by
 refine .inr ⟨W.heap.size,0,1,rfl,oh,oh,fun c b a f g e=> ?_⟩;have d:c=0:=by have:=(zw.1 a).1;simp at this;omega
 subst d;obtain rfl:r=b:=oaC;rw[World.cell?,vi];simpa[zY] using e
theorem zqX(x:zF)(yX:zO)(b:Nat)(w:zC)(f:yF w b yX):
 Calls zD 161 #[.agg #[x.c,x.k],b] w fun c k=>c= .returned (.bool (vD yX x))/\Below w w k:=by
 have d:=ztI x;unfold vD;obtain⟨r,o,t⟩:=f.cells;have u:=f.lt;cases hn:x.namedB
 ·rw[hn] at d;rw[Bool.not_false,Bool.true_or];clear hn;go_enter zjZ,Tryz.ntmps161;go_wp2_with fail;refine(d _).mono ?_;rintro c e ⟨rfl,a⟩;go_wp2_with fail;go_ret;exact⟨rfl,zK aA a⟩
 ·rw[hn] at d;rw[Bool.not_true,Bool.false_or];have j:=zro x;generalize g:xH [yX] x=s;have i:=zA g;clear hn g;go_enter zjZ,Tryz.ntmps161;go_wp2_with fail;refine(d _).mono ?_;rintro c e ⟨rfl,a⟩;obtain⟨p,m⟩:=yZ a;have q:w.heap.size<e.heap.size:=by have:=a.size;simp at this;omega
  have h:Below w.heap.size w e:=zK aA a;go_wp2_with fail;refine zbm (j _ [yX] _ (ziZ _ yX)) ?_;rintro c n ⟨rfl,l⟩;rw[i.o];go_wp2_with fail;go_ret;exact⟨rfl,h.trans ((aA.trans (l.mono oh)).mono h.size)⟩
theorem zqY(yX:zO)(b:Nat)(w:zC)(d:yF w b yX):PredBelow zD 161 #[b] (fun a=> .agg (zn a).toArray) (vD yX) w:=by intro e a c;refine(zqX a yX b e (d.below c d.lt)).mono ?_;exact fun i h ⟨f,g⟩=>⟨f,c.trans (g.mono c.size)⟩
theorem zl4(yX:zO)(b c:Nat)(l:List zF)(w:zC)(i:yF w b yX)(g:w.heap[c]?=some (.cells (l.flatMap zn).toArray 62 (0,0)))(p:l.length<=1000):
 Calls zD 164 #[.slice (some c) l.length l.length,.func (.func 161) #[] #[b]] w fun n m=>n= .returned (.bool (l.any (vD yX)))/\Below w w m:=by
 have:=AnyQ.slices_ContainsFunc Tryz.containsId 2 (fun w=>oe) (fun w=>oe) zn (fun _=>rfl) (vD yX) 161 #[b] (enters_of zjZ oe rfl) c 0 l.length l.length l w (zqY yX b w i) (zU _) oa (aL g)
  (fun f j d o e=>by have h:d<2:=(zw.1 e).1;have k:=jo (enc:=zn) (k:=2) (fun _=>rfl) l f d l[f] oh h;rw[World.cell?,g];simp only[zcG,jW,jX,qr,zfU];rw[k];simpa[j] using e)
 rw[qJ] at this;exact this
def za2(i:zF)(t:ByteArray):zO:=⟨i.c,i.k,i.k+(zh t).length⟩
structure zgW(i l r:zF)(t:ByteArray):Prop where
 id:i.rightB=true
 ok:j9 t=true
 fits:i.k+(zh t).length - 1<=9007199254740991
 ln:l.namedB=true
 rn:r.namedB=true
 lo:xH [za2 i t] l=false
 ro:xH [za2 i t] r=false
theorem zgW.names{i l r:zF}{t:ByteArray}(a:zgW i l r t):(zl i l r t).names.any (vD (za2 i t))=false:=by
 have b:vD (za2 i t) zT=false:=by simp[vD,zF.namedB,xH,zF.rightB,xi,zT]
 simp only[zQ.names,zl,zjN,zjO,b,zjP];simp[vD,a.ln,a.rn,a.lo,a.ro]
theorem zdG(i l r:zF)(t:ByteArray):(zl i l r t).len=(zh t).length:=by simp[zQ.len,zl]
theorem zd1(i l r:zF)(t:ByteArray):(zl i l r t).rng=za2 i t:=by simp only[zQ.rng,zdG];rfl
theorem zqZ(i l r:zF)(t:ByteArray)(w:zC)(c:zgW i l r t)(ay:t.size<=1000000000000)(d:zv w):
 Calls zD 88 #[zS (zl i l r t)] w fun b ag=>b=(zB 0)/\Below w w ag:=by
 have Y:=fun w d=>zp1 i l r t w c.ok oa d;have O:=znN (zl i l r t);have z:=zcg i;rw[c.id] at z;have az:1<=i.k:=by have:=c.id;simp[zF.rightB,xi] at this;omega
 have ar:=c.fits;have j:=fun w d=>zcz (zl i l r t) w (by show t.size<_;omega) (by show 0<=i.k;omega) (by rw[zdG];show i.k+_<_;omega) d;rw[zd1] at j;unfold za2 at j;have ab:=zkK (zl i l r t);have N:=c.names;have s:=fun ap am w h an=>zl4 (za2 i t) ap am (zl i l r t).names w h an (by simp[zQ.names]);rw[N] at s;have C:=zA s;clear N c s;have aw:0<=((zh t).length:Int):=oa;unfold za2 at C;generalize((zh t).length:Int)=n at ar j C aw;change Calls zD 88 #[.agg #[i.c,i.k,zB 1,zH,l.c,l.k,r.c,r.k,.string t,zB 0,zB 0,.float .f64 0,.string ⟨#[]⟩,.string ⟨#[]⟩,zH,zH,zH,zH,.bool false,zH,zH,.bool false]] w _;go_enter Tryz.func88,Tryz.ntmps88;go_upto_region 1 with fail;refine vr (zl i l r t) fun ao H k=> ?_;go_wp2_with (refine xv (T:=66) (v:=zS (zl i l r t)) rfl rfl rfl k.load ?_);refine(Y _ (d.below H)).mono ?_;rintro b e ⟨rfl,A⟩;have x:=k.below A k.lt;have X:=zK H A;clear Y k A H ao;have G:=zR.new e zi;have ad:=zA (G.put (zl i l r t));have M:=zA (yo ((zf e e).alloc (zU _) (.cells (ze zi).toArray 66)) (zU _) (zl i l r t));go_upto_region 2 with(refine yx (T:=66) (v:=zS (zl i l r t)) rfl rfl rfl rfl (zR.store G (zl i l r t)) ?_);have u:=ad.o;have p:=M.o;obtain⟨ai,aa⟩:=aY (xx (e.alloc (.cells (ze zi).toArray 66)) e (zl i l r t));rw[aa] at u p ⊢;have o:=x.below p x.lt;have L:=zK X p;clear aa ad M G x X;go_wp2_with (first|(refine zdh 66 e rfl rfl u.load (by rfl) ?_)|(refine zdh 66 w rfl rfl o.load (by rfl) ?_));refine(O _).mono ?_;rintro b w3 ⟨rfl,I⟩;have g:=o.below I o.lt;have W:=zK L I;have av:w3.cell? w=i.c:=g.cells 0 _ rfl;have al:w3.cell? (w,1)=i.k:=g.cells 1 _ rfl;clear O o u p I L ai;go_wp2_with fail;refine(z _).mono ?_;rintro b ae ⟨rfl,E⟩;have m:=g.below E g.lt;have B:=zK W E;clear av al z g W E w3;go_wp2_with (refine xv (T:=66) (v:=zS (zl i l r t)) rfl rfl rfl m.load ?_);refine(j _ (d.below B)).mono ?_;rintro b a ⟨rfl,F⟩;have y:=m.below F m.lt;have Z:=zK B F;clear j m B F ae;go_upto_region 5 with fail;have f:yF (a.alloc (.cells #[i.c,i.k,(i.k+n:)] 154)) a.heap.size ⟨i.c,i.k,i.k+n⟩:=vi a _;have q:Below a a (a.alloc (.cells #[i.c,i.k,(i.k+n:)] 154)):=aA;obtain⟨w6,R⟩:=aY (a.alloc (.cells #[i.c,i.k,(i.k+n:)] 154));rw[R] at f q ⊢;have V:=y.below q y.lt;have K:=zK Z q;have aq:=f.cells.2.2;clear R y Z q;go_wp2_with (refine xv (T:=66) (v:=zS (zl i l r t)) rfl rfl rfl V.load ?_);refine zbm (ab _) ?_;rintro b ah ⟨aj,rfl,D,_,ac⟩;have J:=f.below D f.lt;have af:=zK K D;have ak:=C.o a aj ah J ac;clear ab f V K D aq ac J;go_wp2_with fail;refine zbm ak ?_;rintro b ax ⟨rfl,au⟩;go_wp2_with fail;go_ret;exact⟨rfl,zK af au⟩
def zmU(p:zF->Bool)(w:zC)(v:zJ)(w':zC):Prop:=
 ∃l,yT l/\(∀i,xH l i=p i)/\zG w 154 3 zY w' v l/\Below w w w'
theorem zeC(b:zJ)(l:List zO)(w:zC)(k:zc 3 zY w b l)(i:l.length*24<=140737488355328)(j:b.oneCell'=true):
 Calls zD 95 #[b] w (qH fun c d=>∃a,yT a/\a.length<=l.length/\(∀f,xH a f=xH l f)/\zG w 154 3 zY d c a/\Below w w d):=by
 refine(zqd b l w k i j).mono ?_;rintro p d ⟨c,rfl,a,e,g,m,h⟩;refine⟨c,rfl,jf a,zmZ e g,?_,zl8 e g,m,h⟩;have o:=zie a;have n:a.length<=l.length:=by rw[e.length_eq];exact jV _ _
 omega
theorem zc.cells3{w:zC}{b n c a:Nat}{l:List zO}(h:zc 3 zY w (.slice (some (b,a)) n c) l){k:Nat}{x:zO}(d:l[k]?=some x):
 n=l.length/\b<w/\w.cell? (b,a+k*3)=x.c/\w.cell? (b,a+k*3+1)=x.a/\w.cell? (b,a+k*3+2)=x.b:=by
 rcases h with⟨e,_⟩|⟨j,m,i,e,_,g,f⟩
 ·cases e
 ·cases e;exact⟨rfl,g,f k x d 0 _ rfl,f k x d 1 _ rfl,f k x d 2 _ rfl⟩
theorem zc.len{α:Type}{k:Nat}{enc:α->List Value}{w:zC}{v:zJ}{l:List α}(c:zc k enc w v l):∃b a,v= .slice b l.length a:=by
 rcases c with⟨rfl,rfl⟩|⟨e,d,a,rfl,_⟩
 ·exact⟨_,_,rfl⟩
 ·exact⟨_,_,rfl⟩
theorem yF.setA{w:zC}{b:Nat}{r:zO}(h:yF w b r)(v:Int):yF (w.setCell (b,1) v) b ⟨r.c,v,r.b⟩:=by unfold yF at *;simp[World.setCell,zu,h,zY]
theorem yF.f{w:zC}{b:Nat}{r:zO}(h:yF w b r)(n:Nat):w.frozen? (b,n)=false:=by simp[World.frozen?,show w.heap[b]?=_ from h]
theorem yF.new(w:zC)(r:zO):yF (w.alloc (.cells #[r.c,r.a,r.b] 154)) w r:=vi w _
theorem zmV(ag Z:Value)(a b:List zO)(w:World)(bz:zc 3 zY w ag a)(hb:zc 3 zY w Z b)(ci:a.length<=1000)(cj:b.length<=1000)(bD:ag.oneCell'=true)(ac:Z.oneCell'=true):
 Calls Tryz.prog 89 #[ag,Z] w (qH (zmU (fun l=>xH a l && !xH b l) w)):=by
 obtain⟨bC,bh,bl,bq,br⟩:=yI zd2;go_enter Tryz.func89,Tryz.ntmps89;go_upto_region 2 with fail;go_upto_region 3 with(go_at_call 95;refine(zeC Z b _ hb oa ac).mono ?_;rintro e z ⟨cl,rfl,c,bo,b9,b0,bd,a4⟩;obtain⟨bu,bN,rfl⟩:=(zG.slice (k:=3) (enc:=zY) (fun _=>rfl) bd).len);go_upto_region 4 with(go_at_call 95;refine(zeC ag a _ (bz.below a4) oa bD).mono ?_;rintro e C ⟨ca,rfl,i,b1,ch,bY,ao,ar⟩;obtain⟨bE,bM,rfl⟩:=(zG.slice (k:=3) (enc:=zY) (fun _=>rfl) ao).len);have bs:zc 3 zY C (.slice bu c.length bN) c:=(zG.slice (k:=3) (enc:=zY) (fun _=>rfl) bd).below ar;have bG:zc 3 zY C (.slice bE i.length bM) i:=zG.slice (k:=3) (enc:=zY) (fun _=>rfl) ao;have al:Below w w C:=zK a4 ar;have bW:=fun l=>zr0 b1 bo l;clear a4 ar bd ao bz hb bD ac;have bJ:=bo;clear bJ;obtain⟨f,aq⟩:=aY C.heap.size;have V:=zA aq;have bH:=al.size;rw[aq] at bH;clear aq z;go_loopw [5,15] (fun aa l wr=>∃k:Nat,k<=i.length/\l=zB k/\zG f 154 3 zY wr aa ((i.take k).foldl (jx c) [])/\Below f C wr) (fun _ l _=>i.length - (intOf l).toNat);case atStart=>exact⟨0,xO _,rfl,zG.nil,zf _ _⟩
 case round=>
  obtain⟨k,bV,rfl,j,r⟩:=hrel;by_cases a5:k<i.length
  ·have bR:(k:Int)<(i.length:Int):=(by omega);have X:(i.take (k+1)).foldl (jx c) []=jx c ((i.take k).foldl (jx c) []) i[k]:=(by rw[j1 a5,vK];rfl);have R:=zA X;clear X;have a0:((i.take k).foldl (jx c) []).length<=k*1001:=(by have h1:=ziq c (i.take k) [];rw[yn,zbG bV] at h1;have L:k*(c.length+1)<=k*1001:=zhT _ oa;simp at h1;omega);obtain⟨E,I,rfl⟩:∃E I,bE=some ⟨E,I,none⟩:=by
    rcases bG with⟨_,h⟩|⟨E,I,_,h,_⟩
    ·rw[h] at a5;simp at a5
    ·cases h;exact⟨_,_,rfl⟩
   obtain⟨_,bU,K,G,H⟩:=bG.cells3 (k:=k) (x:=i[k]) oh;have aH:E<f:=(by rw[<-V.o];exact bU);have K:=(r.cell (p:=(E,I+k*3)) aH).trans K;have G:=(r.cell (p:=(E,I+k*3+1)) aH).trans G;have H:=(r.cell (p:=(E,I+k*3+2)) aH).trans H;generalize i[k]=d at K G H R;generalize(i.take k).foldl (jx c) []=o at j R a0;go_upto_region 7 with fail;have aw:f<=wr:=(by have:=r.size;have:=V.o;omega);have ax:yF (wr.alloc (.cells #[d.c,d.a,d.b] 154)) wr d:=yF.new wr d;have F:Below f C (wr.alloc (.cells #[d.c,d.a,d.b] 154)):=r.alloc aw _;have A:zG f 154 3 zY (wr.alloc (.cells #[d.c,d.a,d.b] 154)) u5 o:=zbn j _;have aZ:∀b,u5.ownBlock=some b->b≠wr.heap.size:=fun b e=>(by have:=xJ j b e;omega);obtain⟨ck,bc⟩:=aY (wr.alloc (.cells #[d.c,d.a,d.b] 154));obtain⟨y,a9⟩:=aY wr.heap.size;rw[bc,a9] at ax;rw[bc] at F A ⊢;rw[a9] at aw aZ ⊢;clear bc a9 r j K G H wr;go_loopw [5,21] (fun aa l a8=>∃g:Nat,g<=c.length/\l=zB g/\zG f 154 3 zY a8 aa ((c.take g).foldl qU (o,d)).1/\yF a8 y ((c.take g).foldl qU (o,d)).2/\(∀b,aa.ownBlock=some b->b≠y)/\Below f C a8) (fun _ l _=>c.length - (intOf l).toNat);case atStart=>exact⟨0,xO _,rfl,A,ax,aZ,F⟩
   case round=>
    obtain⟨g,bO,rfl,j,B,W,r⟩:=hrel;clear A ax aZ F;by_cases a1:g<c.length
    ·have b6:(g:Int)<(c.length:Int):=(by omega);have X:(c.take (g+1)).foldl qU (o,d)=qU ((c.take g).foldl qU (o,d)) c[g]:=(by rw[j1 a1,vK];rfl);have t:=zA X;clear X;have bf:((c.take g).foldl qU (o,d)).1.length<=o.length+g:=(by have h1:=zgi (c.take g) (o,d);rw[yn,zbG bO] at h1;exact h1);obtain⟨aj,a6,rfl⟩:∃E I,bu=some ⟨E,I,none⟩:=by
      rcases bs with⟨_,h⟩|⟨E,I,_,h,_⟩
      ·rw[h] at a1;simp at a1
      ·cases h;exact⟨_,_,rfl⟩
     obtain⟨_,ac,K,G,H⟩:=bs.cells3 (k:=g) (x:=c[g]) oh;have a7:aj<f:=(by rw[<-V.o];exact ac);have K:=(r.cell (p:=(aj,a6+g*3)) a7).trans K;have G:=(r.cell (p:=(aj,a6+g*3+1)) a7).trans G;have H:=(r.cell (p:=(aj,a6+g*3+2)) a7).trans H;generalize c[g]=n at K G H t;generalize(c.take g).foldl qU (o,d)=ak at j t bf B;obtain⟨q,T⟩:=ak;dsimp only at j bf B;go_upto_region 9 with fail;have bj:f<=wr:=(by have:=r.size;have:=V.o;omega);have ay:=B.lt;have M:yF (wr.alloc (.cells #[n.c,n.a,n.b] 154)) y T:=(yV wr _ y ay).trans B;have ai:yF (wr.alloc (.cells #[n.c,n.a,n.b] 154)) wr n:=yF.new wr n;have F:Below f C (wr.alloc (.cells #[n.c,n.a,n.b] 154)):=r.alloc bj _;have A:zG f 154 3 zY (wr.alloc (.cells #[n.c,n.a,n.b] 154)) u5 q:=zbn j _;have bv:∀b,u5.ownBlock=some b->b≠wr.heap.size:=fun b e=>(by have:=xJ j b e;omega);obtain⟨J,au⟩:=aY (wr.alloc (.cells #[n.c,n.a,n.b] 154));obtain⟨ba,bb⟩:=aY wr.heap.size;rw[au,bb] at ai;rw[au] at F A M ⊢;rw[bb] at ay bj bv ⊢;clear au bb r j B K G H wr;obtain⟨m,s,v⟩:=T;obtain⟨ap,x,u⟩:=n;have bt:=ai.lt;obtain⟨ad,ah,ae⟩:=M.cells;obtain⟨bx,bw,a3⟩:=ai.cells;dsimp only at ad ah ae bx bw a3;by_cases h1:m=ap
     ·subst h1;by_cases L:u<=s
      ·have D:qU (q,(⟨m,s,v⟩:zO)) ⟨m,x,u⟩=(q,⟨m,s,v⟩):=zP (.inr (.inl L));rw[D] at t;clear D;have bm:decide (u<=s)=true:=(by simpa using L);go_wp2_with fail;go_roundw;case rel=>exact⟨g+1,oa,ou,by rw[t.o];exact A,by rw[t.o];exact M,W,F⟩
       case measure=>simp[intOf];omega
      ·have bm:decide (u<=s)=false:=(by simpa using L);by_cases N:v<=x
       ·have D:qU (q,(⟨m,s,v⟩:zO)) ⟨m,x,u⟩=(q,⟨m,s,v⟩):=zP (.inr (.inr N));rw[D] at t;clear D;have be:decide (v<=x)=true:=(by simpa using N);go_wp2_with fail;go_roundw;case rel=>exact⟨g+1,oa,ou,by rw[t.o];exact A,by rw[t.o];exact M,W,F⟩
        case measure=>simp[intOf];omega
       ·have be:decide (v<=x)=false:=(by simpa using N);have D:qU (q,(⟨m,s,v⟩:zO)) ⟨m,x,u⟩=(q++[⟨m,s,x⟩],⟨m,u,v⟩):=zN (by rintro(h|h|h);exact h rfl;exact L h;exact N h);rw[D] at t;clear D;have am:q.length+1<=10000000:=(by have:k*1001<=1001000:=oa;omega);have bQ:f<=J:=oa;go_upto_region 11 with(at_builtin;refine jL _ rfl _ _ 92 rfl f 154 bC (.agg #[zH,zH,zH]) 3 24 zbg bh bl bq br rfl ol _ _ _ rfl (show World.ownsRow _ f 154 3 u5 q.length (q.flatMap zY) from zbn A _) J 1 1 (zY ⟨m,s,x⟩) rfl rfl ?f1 ?f2 ?f3 ?f4 ?f5 ?_);case f1=>exact fun _ _ az=>az
        case f2=>exact zcY ⟨m,s,x⟩
        case f3=>unfold maxLen;omega
        case f4=>omega
        case f5=>first|omega|(simp;omega)
        intro v' z af O bn Y;have bg:∀b,b<J.heap.size->(J.alloc (.cells #[m,s,x] 154)).heap[b]?=J.heap[b]?:=fun b hb=>(by rw[zt,zN (by omega)]);have a2:∀b,u5.ownBlock=some b->f<=b:=fun b e=>(ya A b e).1;have an:∀b,b<J.heap.size->u5.ownBlock≠some b->z.heap[b]?=J.heap[b]?:=fun b hb bS=>(O.block b oi (fun e=>bS e.symm)).trans (bg b hb);have bK:y<J:=oa;have ab:yF z y ⟨m,s,v⟩:=(an y bK (fun e=>W y e rfl)).trans M;have aP:Below f C z:=(F.alloc bQ _).grown O oi (fun b e=>a2 b e);have bp:∀b,v'.ownBlock=some b->b≠y:=fun b e=>by
         rcases Y with h|h
         ·exact W b (by rw[<-h];exact e)
         ·rw[h] at e;cases e;omega
        have cc:=ab.lt;have cb:=ab.cells.2.1;have cd:z.cell? (ba,2)=u:=(xA (w:=J) (an ba bt (fun e=>bv ba e rfl))).trans a3;have cf:=ab.f 1;clear O an bg Y M ai ad ah ae bx bw a3 bm be L N F A bt;go_upto_region 12 with fail;have b5:=ab.setA u;have b7:Below f C (z.setCell (y,1) u):=aP.setCell (p:=(y,1)) aw _;have av:zG f 154 3 zY (z.setCell (y,1) u) v' (q++[⟨m,s,x⟩]):=(by refine xI ?_ fun b e=>zZ _ _ _ _ (bp b e);rw[xY,qe];simpa using af);go_wp2_with fail;go_roundw;case rel=>exact⟨g+1,oa,ou,by rw[t.o];exact av,by rw[t.o];exact b5,bp,b7⟩
        case measure=>simp[intOf];omega
     ·have D:qU (q,(⟨m,s,v⟩:zO)) ⟨ap,x,u⟩=(q,⟨m,s,v⟩):=zP (.inl h1);rw[D] at t;clear D;have cm:(m==ap)=false:=(by simpa using h1);go_wp2_with fail;go_roundw;case rel=>exact⟨g+1,oa,ou,by rw[t.o];exact A,by rw[t.o];exact M,W,F⟩
      case measure=>simp[intOf];omega
    ·obtain rfl:g=c.length:=(by omega);have b6:¬(c.length:Int)<(c.length:Int):=oa;rw[qJ] at j B;have bi:jx c o d=(c.foldl qU (o,d)).1++[(c.foldl qU (o,d)).2]:=rfl;rw[bi] at R;have am:(c.foldl qU (o,d)).1.length+1<=10000000:=(by have h1:=zgi c (o,d);have L:k*1001<=1001000:=oa;have N:(c.foldl qU (o,d)).1.length<=o.length+c.length:=h1;omega);generalize c.foldl qU (o,d)=ak at j R B am;obtain⟨q,T⟩:=ak;dsimp only at j B am R;clear bi;obtain⟨ad,ah,ae⟩:=B.cells;have ay:=B.lt;have b8:f<=wr:=oa;have a2:∀b,u5.ownBlock=some b->f<=b:=fun b e=>(ya j b e).1;go_upto_region 14 with(at_builtin;refine jL _ rfl _ _ 92 rfl f 154 bC (.agg #[zH,zH,zH]) 3 24 zbg bh bl bq br rfl ol _ _ _ rfl (show World.ownsRow _ f 154 3 u5 q.length (q.flatMap zY) from zbn j _) wr 1 1 (zY T) rfl rfl ?g1 ?g2 ?g3 ?g4 ?g5 ?_);case g1=>exact fun _ _ az=>az
     case g2=>exact zcY T
     case g3=>unfold maxLen;omega
     case g4=>omega
     case g5=>first|omega|(simp;omega)
     intro v' z af O bn Y;have aP:Below f C z:=(r.alloc b8 _).grown O oi (fun b e=>a2 b e);have av:zG f 154 3 zY z v' (q++[T]):=(by unfold zG;rw[xY,qe];simpa using af);clear af O Y bn j r B ad ah ae;go_wp2_with fail;go_roundw;case rel=>exact⟨k+1,oa,ou,by rw[R.o];exact av,aP⟩
     case measure=>simp[intOf];omega
  ·obtain rfl:k=i.length:=(by omega);have bR:¬(i.length:Int)<(i.length:Int):=oa;rw[qJ] at j;have a0:(i.foldl (jx c) []).length<=1001000:=(by have h1:=ziq c i [];have L:i.length*(c.length+1)<=1000*1001:=zg7 oa oa;simp at h1;omega);have bF:∀l,xH (i.foldl (jx c) []) l=(xH a l && !xH b l):=fun l=>(by rw[<-bY,<-b0];exact bW l);generalize i.foldl (jx c) []=bA at j a0 bF;obtain⟨bL,b4,rfl⟩:=(zG.slice (k:=3) (enc:=zY) (fun _=>rfl) j).len;have bP:=zG.slice (k:=3) (enc:=zY) (fun _=>rfl) j;have bB:Below w w wr:=(by refine al.trans (r.mono ?_);rw[<-V.o];exact al.size);have b3:(Value.slice bL bA.length b4).oneCell'=true:=rfl;go_wp2_with (go_at_call 95;refine(zeC _ bA _ bP oa b3).mono ?_;rintro e w3 ⟨ce,rfl,bX,bT,cg,bI,bZ,b2⟩);go_ret;exact⟨_,rfl,bX,bT,fun l=>by rw[bI,bF],zaE bZ bB.size,zK bB b2⟩
end Go.Proofs.YtimlgcodecgecaaGreatDoor
namespace Go.Proofs
open Go.Shelf
def Tryz.growRng_ren:Go.Shelf.Ren:=⟨fun|4=>216|n=>n,fun|22=>92|25=>154|3=>3|4=>4|9=>9|20=>20|0=>0|n=>n,fun|n=>n⟩
theorem Tryz.growRng:Go.Proofs.Lays8.n4 Tryz.prog Tryz.growRng_ren:={
 mixed:=by kernel_rfl
 f4:=⟨Tryz.f216.name,by decide,Tryz.func216.trans (congrArg some (by kernel_rfl))⟩
 t0:=Tryz.underlying0
 a0:=Tryz.isAgg0
 z0:=Tryz.sizeOf0
 v0:=Tryz.zeroValue0
 t3:=Tryz.underlying3
 a3:=Tryz.isAgg3
 z3:=Tryz.sizeOf3
 v3:=Tryz.zeroValue3
 t4:=Tryz.underlying4
 a4:=Tryz.isAgg4
 z4:=Tryz.sizeOf4
 v4:=Tryz.zeroValue4
 t9:=Tryz.underlying9
 a9:=Tryz.isAgg9
 z9:=Tryz.sizeOf9
 v9:=Tryz.zeroValue9
 t20:=Tryz.underlying20
 a20:=Tryz.isAgg20
 z20:=Tryz.sizeOf20
 v20:=Tryz.zeroValue20
 t22:=Tryz.underlying92
 a22:=Tryz.isAgg92
 z22:=Tryz.sizeOf92
 v22:=Tryz.zeroValue92}
end Go.Proofs
namespace Go.Proofs.YtimlgcodecgecaaGreatDoor
open Go.RowKit Go.Lib
theorem zrt(n:Nat)(w:zC)(k:n<=1000000):
 Calls zD 216 #[(),zB n] w (qH fun e a=>zG w 154 3 zY a e []/\Below w w a):=by
 obtain⟨d,i,f,j,b⟩:=yI zd2;by_cases c:n=0
 ·subst c;refine(Any8.slices_Grow_room Tryz.growRng none 0 0 0 w oa oa oa oa).mono ?_;rintro g a ⟨rfl,rfl⟩;exact⟨_,rfl,zG.nil,zf _ _⟩
 ·refine(Any8.slices_Grow_grow Tryz.growRng d _ i f oa none 0 0 n [] w oa oa (by rw[b];omega) oa oh oh oh).mono ?_;rintro g a ⟨rfl,rfl⟩;refine⟨_,rfl,⟨oh,.inr ⟨_,_,_,rfl,zU _,vi w.drew _,xO _,?_,?_,oh⟩⟩,((zf _ _).drew).alloc (zU _) _⟩
  ·exact zhU w (0+n) 0 _ oP
  ·have:=zhV w (0+n) 0 (Tryz.growRng_ren.t 25);have h:(Value.agg #[Value.int .u64 0,Value.int .u64 0,Value.int .u64 0]).cells.size=3:=rfl;simp only[zfZ,yw,xB,Builtin.zeroCells,Array.size_map,Array.size_range,h];omega
def vZ(L:List (Value×List zO)):Nat:=(L.flatMap (·.2)).length
theorem zmW{L:List (Value×List zO)}{k:Nat}(a:k<L.length):vZ (L.take (k+1))=vZ (L.take k)+L[k].2.length:=by unfold vZ;rw[j1 a,qe];simp
theorem zmX(L:List (Value×List zO))(k:Nat):vZ (L.take k)<=vZ L:=by unfold vZ;have h:=congrArg (fun l=>(l.flatMap (·.2)).length) (zcF k L);simp only[qe,xY] at h;omega
theorem zru(g:Nat)(L:List (Value×List zO))(w:World)(ap:g<w.heap.size)(B:∀V k,L[V]?=some k->w.cell? ⟨g,V,none⟩=some k.1)(A:∀k∈L,zc 3 zY w k.1 k.2)(aZ:vZ L<=1000000)(ar:L.length<=1000):
 Calls zD 167 #[.slice (some g) L.length L.length] w (qH fun ab z=>zG w 154 3 zY z ab (L.flatMap (·.2))/\Below w w z):=by
 obtain⟨Y,E,ac,ag,ah⟩:=yI zd2;have F:=zrt (vZ L);have D:=zA B;have W:=zA A;clear B A;go_enter Tryz.func167,Tryz.ntmps167;go_upto_region 3 with fail;go_loopw [3,11] (fun t i wr=>∃a:Nat,a<=L.length/\i=zB a/\t=zB (vZ (L.take a))/\wr=w) (fun _ i _=>L.length - (intOf i).toNat);case atStart=>exact⟨0,xO _,rfl,rfl,rfl⟩
 case round=>
  obtain⟨a,aj,rfl,rfl,rfl⟩:=hrel;by_cases m:a<L.length
  ·have v:(a:Int)<(L.length:Int):=(by omega);have l:=D.o a L[a] oh;have o:=zmW m;have O:=zmX L (a+1);obtain⟨a1,aw,X⟩:=(W.o L[a] oh).len;rw[X] at l;have q:=zA o;clear o X;have j:vZ (L.take a)+L[a].2.length<=1000000:=(by rw[<-q.o];omega);generalize L[a].2.length=az at l q j;generalize vZ (L.take a)=a2 at q j ⊢;go_wp2_with fail;go_roundw;case rel=>exact⟨a+1,oa,ou,by rw[q.o];go_num,trivial⟩
   case measure=>simp[intOf];omega
  ·obtain rfl:a=L.length:=(by omega);have v:¬(L.length:Int)<(L.length:Int):=oa;rw[qJ];obtain⟨au,an⟩:=aY (vZ L);rw[an] at F ⊢;go_upto_region 11 with(go_at_call 216;refine(F _ oa).mono ?_;rintro s a5 ⟨a3,rfl,J,H⟩);obtain⟨e,rfl⟩:=aX wr;go_loopw [6,27] (fun t i K=>∃a:Nat,a<=L.length/\i=zB a/\zG e 154 3 zY K t ((L.take a).flatMap (·.2))/\Below e e K) (fun _ i _=>L.length - (intOf i).toNat);case atStart=>exact⟨0,xO _,rfl,J,H⟩
   case round=>
    obtain⟨a,aj,rfl,h,f⟩:=hrel;clear J H;by_cases m:a<L.length
    ·have v:(a:Int)<(L.length:Int):=(by omega);have l:=(f.cell (p:=(g,a)) ap).trans (D.o a L[a] oh);have o:=zmW m;have O:=zmX L (a+1);have x:=(W.o L[a] oh).keep f.size fun c r a4 aH _ m=>f.block c m;have I:(L.take (a+1)).flatMap (·.2)=(L.take a).flatMap (·.2)++L[a].2:=(by rw[j1 m,qe];simp);have n:=zA I;have j:vZ (L.take a)+L[a].2.length<=1000000:=(by rw[<-o];omega);unfold vZ at j;clear o O I;have aP:=f.size;have ak:∀c,u6.ownBlock=some c->e.heap.size<=c:=fun c s=>(ya h c s).1;generalize L[a]=ad at l x n j;generalize(L.take a).flatMap (·.2)=y at h n j;obtain⟨ax,d⟩:=ad;dsimp only at l x n j;rcases x with⟨rfl,rfl⟩|⟨c,r,ao,rfl,ay,a0,C⟩
     ·go_wp2_with (at_builtin;refine wpList_append_own_none rfl _ _ 92 rfl e.heap.size 154 Y 3 zbg E _ _ _ rfl h rfl ?_);go_roundw;case rel=>exact⟨a+1,oa,ou,by rw[n.o];simpa using h,f⟩
      case measure=>simp[intOf];omega
     ·go_wp2_with (at_builtin;refine jL _ rfl _ _ 92 rfl e.heap.size 154 Y (.agg #[zH,zH,zH]) 3 24 zbg E ac ag ah rfl ol _ _ _ rfl (show World.ownsRow _ e 154 3 u6 y.length (y.flatMap zY) from h) (c,r) d.length ao (d.flatMap zY) rfl (qy (enc:=zY) (k:=3) (fun _=>rfl) d) ?f1 ?f2 ?f3 ?f4 ?f5 ?_);case f1=>
       intro b u M
       have av:b<d.length*3:=by have:=(zw.1 M).1;rwa[qy (enc:=zY) (k:=3) (fun _=>rfl)] at this
       have G:=jo (enc:=zY) (k:=3) (fun _=>rfl) d (b / 3) (b % 3) d[b / 3] (by simp[show b / 3<d.length by omega]) (zaH _ oa)
       rw[show b / 3*3+b % 3=b by omega,M] at G
       have N:=C (b / 3) d[b / 3] (by simp[show b / 3<d.length by omega]) (b % 3) u G.symm
       rw[qW]
       rw[show r+b / 3*3+b % 3=r+b by omega] at N
       exact N
      case f2=>intro u al;obtain⟨k,_,af⟩:=zdV.1 al;exact zcY k u af
      case f3=>unfold maxLen;omega
      case f4=>omega
      case f5=>omega
      intro aq R T Z ae aa;have am:Below e e R:=f.grown Z oa (fun c s=>ak c s);have ai:zG e 154 3 zY R aq (y++d):=(by unfold zG;rw[xY,qe];exact T);clear T Z aa ae h f C l;go_wp2_with fail;go_roundw;case rel=>exact⟨a+1,oa,ou,by rw[n.o];exact ai,am⟩
      case measure=>simp[intOf];omega
    ·obtain rfl:a=L.length:=(by omega);have v:¬(L.length:Int)<(L.length:Int):=oa;rw[qJ] at h;go_wp2_with fail;go_ret;exact⟨_,rfl,h,f⟩
theorem zrv(a b:List zO)(i:zF):xH (a++b) i=(xH a i || xH b i):=by simp[xH,Bool.and_or_distrib_left]
theorem zrw(o m:zJ)(a b:List zO)(w:zC)(j:zc 3 zY w o a)(hb:zc 3 zY w m b)(K:a.length<=1000)(N:b.length<=1000)(T:o.oneCell'=true)(l:m.oneCell'=true):
 Calls Tryz.prog 91 #[o,m] w (qH (zmU (fun n=>xH a n || xH b n) w)):=by
 obtain⟨f,g,rfl⟩:=j.len;obtain⟨e,d,rfl⟩:=hb.len;have i:Below w.heap.size w (w.alloc (.cells #[.slice f a.length g,.slice e b.length d] 92)):=aA;have h:=zru w.heap.size [(.slice f a.length g,a),(.slice e b.length d,b)] (w.alloc (.cells #[.slice f a.length g,.slice e b.length d] 92)) oh (fun t F c=>by
  rw[World.cell?,vi];match t with
  |0=>simpa using congrArg Prod.fst (zaJ c)
  |1=>simpa using congrArg Prod.fst (zaJ c)
  |t+2=>simp at c) (fun F c=>by
  rcases xK.1 c with rfl|c
  ·exact j.below i
  ·rcases xK.1 c with rfl|c
   ·exact hb.below i
   ·simp at c) (by simp[vZ];omega) oh
 have s:([((Value.slice f a.length g:zJ),a),(.slice e b.length d,b)]:List (Value×List zO)).flatMap (·.2)=a++b:=oh;rw[s] at h;have q:Calls zD 167 #[.slice (some w) 2 2] (w.alloc (.cells #[.slice f a.length g,.slice e b.length d] 92)) (qH fun v r=>zG (w.heap.size+1) 154 3 zY r v (a++b)/\Below (w.heap.size+1) (w.alloc (.cells #[.slice f a.length g,.slice e b.length d] 92)) r):=by rw[qX] at h;exact h
 have x:=zrv a b;have y:(a++b).length<=2000:=by rw[xY];omega
 generalize a++b=H at q x y;clear h s j hb;go_enter Tryz.func91,Tryz.ntmps91;go_wp2_with fail;refine zbm q ?_;rintro D I ⟨R,rfl,p,l⟩;obtain⟨J,M,rfl⟩:=(zG.slice (k:=3) (enc:=zY) (fun _=>rfl) p).len;have B:=zeC _ H _ (zG.slice (k:=3) (enc:=zY) (fun _=>rfl) p) oa rfl;have u:Below w w I:=i.trans (l.mono (zfa _));clear q i p l;go_wp2_with fail;refine B.mono ?_;rintro D w3 ⟨L,rfl,A,E,O,z,G,C⟩;go_wp2_with fail;go_ret;exact⟨_,rfl,A,E,fun n=>by rw[z,x],zaE G u.size,zK u C⟩
end Go.Proofs.YtimlgcodecgecaaGreatDoor
