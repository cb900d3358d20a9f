/- Walk: the twins of a row of nodes (a copy's closure). -/
import Derived.Test.YtimlgcodecgecaaGreatDoorZ20
import Derived.Test.YtimlgcodecgecaaGreatDoorZ28
set_option maxRecDepth 100000
set_option maxHeartbeats 20000000
set_option linter.all false
namespace Go.Proofs.YtimlgcodecgecaaGreatDoor
open Go.RowKit Go.Lib
def zlQ(v:zJ):List Value:= [v]
def zpK(w:zC)(e:Ending)(w':zC):Prop:=(∃p n c,e= .returned (.slice p n c))/\Below w w w'
theorem zpL{l:List (Nat×Value)}{x:Nat}{v:zJ}(b:xD l x=some v):(x,v)∈l:=by unfold xD at b;obtain⟨e,d,c⟩:=zjL.1 b;have f:=zhP d;have a:=zar d;simp only[xW] at a;obtain⟨h,g⟩:=e;simp only at c a;subst c a;exact f
theorem zpM (q l:Nat) (k:List (Nat×Value)) (K:zJ) (j:List Nat) (w:zC) (O:l<w) (am:w.cell? l=some (.map (some q))) (I:zq zo w q k) (C:∀b∈k,jZ w b.1) (M:∀b∈k,∃e,b.2= .pointer e)
 (i:zc 1 z6 w K j) (A:∀d∈j,jZ w d) (ad:j.length<=100000):
 Calls zD 244 #[K,l] w (zpK w):=by
 obtain⟨b,aZ,rfl,_,E⟩:=i.shape;obtain⟨m,v⟩:=aY j.length;rw[v] at ad ⊢;have ak:=zA v;have ag:=zA E;have G:=zA I;have ao:=zA C;have X:=zA M;have an:=zA A;obtain⟨ap,T,Y,ac,ae⟩:=yI zen;clear i E v I C M A;go_enter Tryz.func244,Tryz.ntmps244;go_wp2;go_loopw [4,9] (fun W s wr=>∃(a c:Nat) (e:Option Addr) (g:Nat) (n:List Value),s=zB a/\a<=m/\W= .slice e c g/\n.length=c/\c<=a/\zG w 256 1 zlQ wr (.slice e c g) n/\Below w w wr) (fun _ s _=>m - (intOf s).toNat);case atStart=>exact⟨0,0,none,0,[],rfl,oa,rfl,rfl,zU _,zG.nil,zf _ _⟩
 case round=>
  obtain⟨a,c,e,g,n,rfl,az,rfl,N,ax,y,f⟩:=hrel;have u:=zA N;clear N;by_cases ay:a<m
  ·have aP:(a:Int)<m:=(by omega);obtain⟨d,i⟩:∃d,j[a]?=some d:=⟨j[a]'(by rw[ak.o];omega),xG _⟩;obtain⟨p,J,rfl,af,B⟩:=ag.o a d i;have L:wr.cell? (p,J+a)=some (zo d):=(f.cell (p:=(p,J+a)) af).trans (by simpa using B 0 _ rfl);have V:wr.cell? l=some (.map (some q)):=(f.cell (p:=l) O).trans am;have r:=znU (G.o.blk (f.block q G.o.lt)) (fun b al=>(ao.o b al).below f) ((an.o d (xn i)).below f);obtain⟨Z,t⟩:=aY ((xD k d).getD (.pointer none));have aj:∃e,Z= .pointer e:=by
    rw[<-t];cases h:xD k d with
    |none=>exact⟨none,rfl⟩
    |some aw=>exact X.o _ (zpL h)
   rw[t] at r;obtain⟨H,rfl⟩:=aj;have z:wr.ownsRow w 256 1 (.slice e c g) c (n.flatMap zlQ):=(by have F:=y;unfold zG at F;rwa[u.o] at F);have R:=f.size;have aH:=zA y;unfold zo at L r;clear t i B y;go_wp2_with (at_builtin;refine zhH _ rfl _ _ 207 rfl w.heap.size 256 ap (.pointer none) 1 8 zbr T Y ac ae rfl ol _ _ _ rfl (z.alloc _) wr 1 1 [.pointer H] rfl rfl ?d1 ?d2 ?d3 ?d4 ?d5 ?_);case d1=>
    intro a aa o
    rw[qW,World.cell?,World.alloc_heap_new]
    simpa using o
   case d2=>intro aa o;simp at o;subst o;rfl
   case d3=>unfold maxLen;omega
   case d4=>omega
   case d5=>simp;omega
   intro ar av x D _;obtain⟨au,ai,rfl⟩:∃b g,ar= .slice b (c+1) g:=ys x;have aq:Below w w av:=(f.alloc R _).grown D oi (fun p ah=>(ya z p ah).1);have ab:=zA x;clear x D z r L V;go_wp2;refine⟨⟨a+1,c+1,au,ai,n++[.pointer H],oak,oa,rfl,by simp[u.o],oa,?_,aq⟩,oY⟩;unfold zG;rw[xY,qe,u.o];simpa[zlQ] using ab.o
  ·obtain rfl:a=m:=(by omega);go_wp2;go_ret;exact⟨⟨_,_,_,rfl⟩,f⟩
structure jR(m Y:Nat)(us:List zV)(bs:List Nat)(ov:zJ)(W:zC):Prop where
 nodes:∀(i:Nat) (u:zV) (b:Nat),us[i]?=some u->bs[i]?=some b->∃p l r s,xa W b u p l r s
 row:zG (m+7) 256 1 z6 W ov bs
 box:W.heap[Y+1]?=some (.cells #[.map (some Y)] 300 (0,0))
 ge:∀b,b∈bs->m+7<=b
 len:bs.length<=us.length
theorem jR.node{m h:Nat}{e:List zV}{a:List Nat}{k:zJ}{W:zC}(d:jR m h e a k W){b:Nat}(f:b∈a):jZ W b:=by obtain⟨c,n,l⟩:=zeW.1 f;obtain⟨g,o,j,i,p⟩:=d.nodes c (e[c]'(by have:=d.len;omega)) b (xG _) (by rw[xG n,l]);exact⟨_,g,o,j,i,p⟩
theorem jR.lt{m d:Nat}{g:List zV}{a:List Nat}{e:zJ}{W:zC}(f:jR m d g a e W){b:Nat}(c:b∈a):b<W:=by obtain⟨l,i,n,k,j,h⟩:=f.node c;exact h.lt
theorem jR.keep{m g:Nat}{i:List zV}{f:List Nat}{e:zJ}{W W':zC}(b:jR m g i f e W)(d:∀a,(a∈f\/e.ownBlock=some a\/a=g+1)->W'.heap[a]?=W.heap[a]?):jR m g i f e W' where
 nodes:=fun k s c r h=>by obtain⟨q,p,o,j,n⟩:=b.nodes k s c r h;exact⟨q,p,o,j,(d c (.inl (xn h))).trans n⟩
 row:=b.row.blk fun c l=>d c (.inr (.inl l))
 box:=(d _ (.inr (.inr rfl))).trans b.box
 ge:=b.ge
 len:=b.len
theorem jR.below{m i:Nat}{h:List zV}{f:List Nat}{g:zJ}{W W':zC}(c:jR m i h f g W)(d:Below W W W'):jR m i h f g W':=c.keep fun e j=>by
 rcases j with b|b|b
 ·exact d.block e (c.lt b)
 ·exact d.block e (c.row.lt b)
 ·exact d.block e (by rw[b];exact(aL c.box))
theorem jR.map{m k:Nat}{i:List zV}{j:List Nat}{h:zJ}{W W':zC}{g:Type}{enc:g->Value}{G:Nat}{l:List (g×Value)}(d:jR m k i j h W)(p:zq enc W G l)(n:∀c,c≠G->W'.heap[c]?=W.heap[c]?):jR m k i j h W':=d.keep fun c s=>n c (by
 obtain⟨y,u,e,_⟩:=p;rintro rfl;rcases s with b|b|b
 ·obtain⟨z,w,l,v,t,r⟩:=d.node b;have:=e.symm.trans r;cases this
 ·rcases d.row.2 with⟨f,_⟩|⟨q,x,A,f,_,o,_⟩
  ·rw[f] at b;cases b
  ·rw[f] at b;obtain rfl:q=c:=(by simpa[Value.ownBlock] using b);have:=e.symm.trans o;cases this
 ·rw[b] at e;have:=e.symm.trans d.box;cases this)
theorem jR.link{m h:Nat}{n:List zV}{g:List Nat}{j:zJ}{W:zC}(d:jR m h n g j W){b:Nat}(i:b∈g)(k:Nat)(t:k=6\/k=7\/k=8)(v:zJ):jR m h n g j (W.setCell (b,k) v) where
 nodes:=fun q u c w o=>by
  obtain⟨p,l,r,s,e⟩:=d.nodes q u c w o;by_cases f:c=b
  ·subst f;rcases t with rfl|rfl|rfl
   ·exact⟨_,_,_,_,e.setP v⟩
   ·exact⟨_,_,_,_,e.setL v⟩
   ·exact⟨_,_,_,_,e.setR v⟩
  ·exact⟨p,l,r,s,(zZ _ _ _ _ (by show ¬c=b;exact f)).trans e⟩
 row:=d.row.blk fun c f=>zZ _ _ _ _ (by show ¬c=b;rintro rfl;obtain⟨u,p,l,r,s,e⟩:=d.node i;exact zc8 d.row e f)
 box:=(zZ _ _ _ _ (by show ¬h+1=b;rintro rfl;obtain⟨u,p,l,r,s,e⟩:=d.node i;have:=e.symm.trans d.box;simp[jE] at this)).trans d.box
 ge:=d.ge
 len:=d.len
def zcP(m:Nat)(S:zE)(w:zC):Prop:=
 ∃e b h a f,yE m w e [] b h f/\ql m b a S.units w/\(∀c i,S.find c=some i->∃g,xD e c=some (zo g))/\(f=true->S.order= [])/\zG (m+7) 256 1 z6 w b a/\∀d,d∈a->m+7<=d
def zoX(S:zE)(w:zC)(e:Ending)(w':zC):Prop:=∃m,e=(m+6:)/\zcP m S w'/\m+4=w.heap.size/\Below w w w'
def Cp1(m g:Nat)(S:zE)(k:Nat->Nat)(w:zC)(j:Nat)(W:zC):Prop:=
 ∃a b e c,jR m g S.units a c W/\a.length=j/\zq zo W g b/\b.map (·.1)=(S.order.take j).map k/\(∀i∈b,∃l∈a,i.2=zo l)/\yE m W e [] c () true/\(∀d f,d<j->S.units[d]?=some f->∃h,xD e f.id=some (zo h))/\Below w w W
theorem zva(m:Nat)(w:zC)(b:m+4=w.heap.size):Calls zD 55 #[] w fun e c=>e=(m+6:)/\yE m c [] [] () () true/\Below w w c:=by
 have f:= @zhJ zD;have d:=zA b;clear b;go_enter Tryz.func55,Tryz.ntmps55;go_wp2;go_ret;have b:=d.o;refine⟨by rw[show m+6=w.heap.size+2 by omega];rfl,⟨⟨#[],0,?_,rfl,by constructor<;> simp⟩,⟨#[],0,?_,rfl,by constructor<;> simp⟩,?_⟩,aB⟩
 ·rw[zt,zN oi,zt,zN oi,zt,zP oa]
 ·rw[zt,zN oi,zt,zP oi]
 ·rw[zt,zP oi,show m+4=w.heap.size by omega,show m+5=w.heap.size+1 by omega]
theorem yE.map{d:Type}{enc:d->Value}{m:Nat}{W W':zC}{f h:List (zF×Value)}{i b:zJ}{c:Bool}(e:yE m W f h i b c){G:Nat}{l:List (d×Value)}(n:zq enc W G l)(p:G≠m+4)(k:G≠m+5)(j:∀a,a≠G->W'.heap[a]?=W.heap[a]?):yE m W' f h i b c:=e.keep fun o g=>j o (by
 rcases g with rfl|rfl|rfl
 ·exact p.symm
 ·exact k.symm
 ·rintro rfl;obtain⟨s,r,q,_⟩:=n;have:=q.symm.trans e.sq;cases this)
theorem zk0{a c:Nat->List Nat}{L o:List Nat}(b:za a c L o):L.length<=o.length:=by
 induction b with
 |nil=>simp
 |cons f d i h g e=>simp;omega
theorem zvb{S:zE}(b:S.Wf){k:Nat}(c:k<S.l.length):(S.lf k).length<=S.order.length/\(S.rt k).length<=S.order.length:=by obtain⟨l,g,i,e,a,_⟩:=b.has_walk c;obtain⟨j,h,d,f,rfl⟩:=e.one_inv;have:=zk0 d;have:=zk0 f;rw[a];simp;omega
theorem zoZ{m A:Nat}{S:zE}{i:List (zF×Value)}{h t:zJ}{e:Bool}{j:List Nat}{W:zC}(o:S.Wf)(p:yE m W i [] h t e)(b:jR m A S.units j h W)(B:j.length=S.order.length)(u:∀a d,a<S.order.length->S.units[a]?=some d->∃g,xD i d.id=some (zo g))(E:e=true->S.order= []):zcP m S W:=
 ⟨i,h,t,j,e,p,{
  c:=p.cell 1 _ rfl
  row:=zG.slice (k:=1) (enc:=z6) (fun _=>rfl) b.row
  len:=by unfold zE.units;rw[List.length_map,B]
  nodes:=fun k z d n f a F w=>by obtain⟨H,l,r,s,y⟩:=b.nodes k d z f n;exact zoc y a F w},fun G k D=>by
  obtain⟨n,f⟩:=o.find_some.1 D;obtain⟨a,q,x⟩:=zeW.1 ((o.mem k).2 n);have v:S.units[a]?=some (S.nd k).u:=by unfold zE.units;rw[List.getElem?_map,List.getElem?_eq_getElem q,x];rfl
  obtain⟨g,C⟩:=u a _ q v;exact⟨g,by rw[<-f];exact C⟩,E,b.row,b.ge⟩
def Cp2(m b d a:Nat)(g:Array MapEntry)(S:zE)(e:List Nat)(f:List (zF×Value))(c:zJ)(w:zC)(qi:Array Nat)(W:zC):Prop:=
 jR m b S.units e c W/\W.heap[b]?=some (.map g a)/\yE m W f [] c () true/\W.heap[d]?=some (.mapIter (some b) a qi a)/\Below w w W
def zfy(W:zC)(Z:Nat):Array Nat:=match W.heap[Z]? with
 |some (.mapIter _ _ qi _)=>qi
 |_=>#[]
theorem zvc(n base:Nat)(L:xC)(D:zp)(S:zE)(w:zC)(h:xg n base w L D)(cI:qQ D S)(eL:S.order.length<=50000)(bp:D.len=S.l.length):
 Calls zD 200 #[(n+6:)] w (zoX S w):=by
 have fK:= @zhJ zD;have fA:∀(d7:Fn) (first bq:Array Value) (w:zC),(Instr.makeFunc d7 first bq).run zD w= .ok (.func d7 first bq) w:=fun _ _ _ _=>rfl;obtain⟨e,cc⟩:∃e,e+4=w.heap.size:=⟨w.heap.size - 4,by have:=h.lo;have:=h.hi;omega⟩;have dO:n+6<w.heap.size:=h.m.lt;have Z:=zA h;have W:=zA cI;obtain⟨aw,bW⟩:=aY S.order.length;rw[bW] at eL;have bI:=zA bW;have df:=zva e w cc;obtain⟨cS,c7,K⟩:=h.order.len;have cq:D.ord.map L.bl=S.order.map L.bl:=by rw[cI.ord]
 have cT:L.ov= .slice cS aw c7:=by rw[K,cq,xk,bW]
 have d0:w.cell? (n+6,1)=some (.slice cS aw c7):=by rw[<-cT];exact h.m.cell 1 _ rfl
 have eP:w.cell? (n+6,2)=some L.rv:=h.m.cell 2 _ rfl;have eY:=zA (show zG base 256 1 z6 w (.slice cS aw c7) (S.order.map L.bl) by rw[<-cT,<-cq];exact h.order);have az:=zA cc;have fL:e+4<=w.heap.size:=oa;clear cc bW h cI K cT cq;go_enter Tryz.func200,Tryz.ntmps200;go_upto_region 2 with(go_at_call 55;refine df.mono ?_;rintro c z ⟨rfl,bB,cP⟩);go_upto_region 3 with fail;have b8:=cP.size;have eJ:=bB.lt;generalize A:World.alloc _ _=g;obtain⟨-,-,a4,-⟩:=aJ A;have cv:Below w w g:=by subst A;exact(cP.alloc b8 _).alloc (by simp;omega) _
 have dd:zq zo g z.heap.size []:=by subst A;exact⟨#[],0,by rw[zt,zN (by simp),zt,zP rfl],rfl,by constructor<;> simp⟩
 have dQ:yE e g [] [] () () true:=by subst A;exact bB.keep fun b d=>by rw[zt,zN (by simp;omega),zt,zN (by omega)]
 clear A;obtain⟨a,dX⟩:=aY z.heap.size;rw[dX] at dd a4 eJ b8 ⊢;have dt:=zA (show Cp1 e a S L.bl w 0 g from⟨[],[],[],(),⟨fun o i b _ h=>by simp at h,zG.nil,a4,oh,oh⟩,rfl,dd,oh,oh,dQ,fun o i h=>oa,cv⟩);have fk:=(cv.cell (p:=(n+6,1)) dO).trans d0;clear dX dd a4 dQ bB cP df d0 z;go_upto_region 4 with fail;go_loopw [18] (fun bG wr=>∃j:Nat,bG=zB j/\j<=aw/\Cp1 e a S L.bl w j wr) (fun bG _=>aw - (intOf bG).toNat);case atStart=>exact⟨0,rfl,oa,dt.o⟩
 case round=>
  clear dt fk cv;obtain⟨j,rfl,fz,dk⟩:=hrel;by_cases eS:j<aw
  ·have fH:(j:Int)<aw:=(by omega);obtain⟨ae,R,bi,a1,M,bm,bQ,bs,bD,X,bE,hb⟩:=dk;obtain⟨k,t⟩:∃k,S.order[j]?=some k:=⟨S.order[j]'(by rw[bI.o];omega),xG _⟩;have bb:k<S.l.length:=(W.o.wf.mem k).1 (xn t);have ai:k<D.len:=(by rw[bp];exact bb);have bJ:=Z.o.node k ai;rw[W.o.u k bb] at bJ;obtain⟨d1,eC,eB,_,_,b2⟩:=zG.elem (k:=1) (enc:=z6) (fun _=>rfl) eY.o (j:=j) (x:=L.bl k) oas;subst eC;obtain⟨i,a8⟩:=aY ((S.nd k).u);obtain⟨ag,dK⟩:=aY (D.sz k);obtain⟨d,cf⟩:=aY (L.bl k);rw[a8,dK,cf] at bJ;rw[cf] at b2;have dx:=bJ.lt;have dV:xa wr d i (xs L (D.par k)) (L.lv k) (L.mv k) ag:=(hb.block d dx).trans bJ;have fm:wr.cell? (d1,j)=d:=(hb.cell (p:=(d1,j)) eB).trans (by have:=b2 0 _ rfl;unfold zo at this;simpa using this);have dH:S.units[j]?=some i:=(by unfold zE.units;rw[List.getElem?_map,t,<-a8];rfl);have ah:=zA bm;have bt:=zA M;have dN:=zA bQ;have b1:=zA bs;have bU:=zA bD;have bo:=zA X;have cj:=zA bE;have ct:=zA hb;have a0:=zA dV;have dq:=zA (show ae.length=j/\S.order[j]?=some k/\L.bl k=d/\k<D.len from⟨bm,t,cf,ai⟩);have cZ:=zA dH;have ap:=dV.lt;have cR:=hb.size;clear M bm bQ bs bD X bE hb bJ a8 dK cf b2 t bb ai dH dx;go_upto_region 6 with fail;clear fm;have cA:∀s:zI zX wr,s.val.cell? d=i.id.c:=zI.cell ap id (a0.o.cell 0 _ rfl);have Y:∀s:zI zX wr,s.val.cell? (d,1)=i.id.k:=zI.cell ap id (a0.o.cell 1 _ rfl);have e4:∀s:zI zX wr,s.val.cell? (d,2)=i.left.c:=zI.cell ap id (a0.o.cell 2 _ rfl);have eT:∀s:zI zX wr,s.val.cell? (d,3)=i.left.k:=zI.cell ap id (a0.o.cell 3 _ rfl);have fj:∀s:zI zX wr,s.val.cell? (d,4)=i.right.c:=zI.cell ap id (a0.o.cell 4 _ rfl);have ey:∀s:zI zX wr,s.val.cell? (d,5)=i.right.k:=zI.cell ap id (a0.o.cell 5 _ rfl);have ee:∀s:zI zX wr,s.val.cell? (d,9)=(zB ag):=zI.cell ap id (a0.o.cell 9 _ rfl);refine xU 9 [0,1,2,3,4,5,6,7,8] [9,10] zX (aM ?_);refine aR ?_;refine aS ?_;go_wp2;refine aS ?_;go_wp2;refine xE ?_;clear cA Y e4 eT fj ey ee;have bx:xa ((wr.alloc (.cells (jE i (.pointer none) () () ag) 258)).drew) wr i (.pointer none) () () ag:=World.alloc_heap_new _ _;have aH:Below wr wr ((wr.alloc (.cells (jE i (.pointer none) () () ag) 258)).drew):=aA.drew;change Exit.then _ _ _ _ ((wr.alloc (.cells (jE i (.pointer none) () () ag) 258)).drew);generalize(wr.alloc (.cells (jE i (.pointer none) () () ag) 258)).drew=af at bx aH ⊢;obtain⟨F,cK⟩:=aY wr.heap.size;have es:=cR;have eo:=bo.o.lt;have bl:=aH;rw[cK] at bx aH es ap eo ⊢;have eD:=zA cK;clear cK;have al:=zA (zK ct.o bl);have O:=zA (bt.o.below bl);have bc:=zA (dN.o.blk (bl.block a dN.o.lt));have bw:=zA (bo.o.keep fun b c=>bl.block b (by have:=bo.o.lt;omega));have b0:=zA (show xa af d i (xs L (D.par k)) (L.lv k) (L.mv k) ag from(bl.block d (by rw[eD.o];exact ap)).trans a0.o);have dv:=zA (show ∀p∈R,∃o f,o<j/\S.order[o]?=some f/\p.1=L.bl f from fun p x=>by have h1:p.1∈(S.order.take j).map L.bl:=(by rw[<-b1.o];exact xz.2 ⟨p,x,rfl⟩);obtain⟨f,ab,c⟩:=xz.1 h1;obtain⟨o,aa,u⟩:=zeW.1 ab;rw[yn] at aa;rw[List.getElem_take] at u;exact⟨o,f,oa,by rw[xG (by omega),u],c.symm⟩);have du:∀p∈R,jZ af p.1:=fun p x=>(by obtain⟨o,f,_,H,b7⟩:=dv.o p x;have cL:f<D.len:=(by rw[bp];exact(W.o.wf.mem f).1 (xn H));have bC:=Z.o.node f cL;rw[b7];exact⟨_,_,_,_,_,(al.o.block _ bC.lt).trans bC⟩);have dm:∀p∈R,p.1≠d:=fun p x c=>(by obtain⟨o,f,h1,H,b7⟩:=dv.o p x;obtain⟨_,u,a6,e5⟩:=dq.o;have cL:f<D.len:=(by rw[bp];exact(W.o.wf.mem f).1 (xn H));have:=Z.o.inj f k cL e5 (by rw[<-b7,a6,c]);subst this;obtain⟨aa,eW⟩:=zw.1 H;obtain⟨fy,e6⟩:=zw.1 u;have:=(zjv W.o.wf.nodup).1 (eW.trans e6.symm);omega);obtain⟨bd,di,dr⟩:=ztY bc.o du ⟨_,_,_,_,_,b0.o⟩ dm (zo F);unfold zo at di;have fi:af.cell? (a+1:)=some (.map (some a)):=(by have:=O.o.box;simp[World.cell?,this]);have cx:=zA dr;clear du dm dr bl aH;go_upto_region 8 with fail;have ec:a≠d:=(by obtain⟨N,cG,a9,_⟩:=bc.o;rintro rfl;have:=a9.symm.trans b0.o;cases this);have dP:a≠F:=(by obtain⟨N,cG,a9,_⟩:=bc.o;rintro rfl;have:=a9.symm.trans bx;cases this);have bj:∀k,k≠a->(xF af a bd).heap[k]?=af.heap[k]?:=fun k t=>qV t;have ay:=zA (O.o.map bc.o bj);have aq:=zA (bw.o.map bc.o oa oa bj);have bh:=zA (show xa (xF af a bd) d i (xs L (D.par k)) (L.lv k) (L.mv k) ag from(bj d ec.symm).trans b0.o);have ch:=zA (show xa (xF af a bd) F i (.pointer none) () () ag from(bj F dP.symm).trans bx);have a7:=zA (show Below w w (xF af a bd) from⟨al.o.os,al.o.tape,al.o.output,by rw[vH];exact al.o.size,fun k t=>(bj k oa).trans (al.o.block k t)⟩);generalize xF af a bd=ad at cx ay aq bh ch a7 ⊢;clear bj di fi ec dP bx O bc bw b0 al af bd;have dc:=bh.o.lt;have ej:=ch.o.lt;have ea:=aq.o.lt;have cA:∀s:zI zX ad,s.val.cell? d=i.id.c:=zI.cell dc id (bh.o.cell 0 _ rfl);have Y:∀s:zI zX ad,s.val.cell? (d,1)=i.id.k:=zI.cell dc id (bh.o.cell 1 _ rfl);have e1:∀s:zI zX ad,s.val.cell? (e+6:)=some (.map (some (e+4))):=zI.cell ea id (aq.o.cell 0 _ rfl);obtain⟨bg,dM,d9⟩:=zb8 vb (T:=205) (E:=256) oe (aq.o.all.blk (w':=ad.drew) rfl) i.id (zo F);unfold xV zo at dM;have dU:=zA d9;clear d9;refine xU 10 [0,1,2,3,4,5,6,7,8,9] [10] zX (aM ?_);refine aR ?_;refine aS ?_;go_wp2;refine xE ?_;have a5:∀k,k≠e+4->(xF ad.drew (e+4) bg).heap[k]?=ad.heap[k]?:=fun k t=>qV (w:=ad.drew) t;have eA:d≠e+4:=(by obtain⟨N,cG,a9,_⟩:=aq.o.all;rintro rfl;have:=a9.symm.trans bh.o;cases this);have dw:yE e (xF ad.drew (e+4) bg) (xT bi i.id (zo F)) [] a1 () true:={
    all:=dU.o
    at_:=aq.o.at_.blk (a5 _ oa)
    sq:=(a5 _ oa).trans aq.o.sq}
   have bF:=zA dw;have G:=zA (ay.o.map aq.o.all a5);have b9:=zA (cx.o.blk (a5 a oa));have bZ:=zA (show xa (xF ad.drew (e+4) bg) F i (.pointer none) () () ag from(a5 F oa).trans ch.o);have ce:=zA (show Below w w (xF ad.drew (e+4) bg) from⟨a7.o.os,a7.o.tape,a7.o.output,by rw[vH];exact a7.o.size,fun k t=>(a5 k (by have:=az.o;omega)).trans (a7.o.block k t)⟩);generalize xF ad.drew (e+4) bg=bf at bF G b9 bZ ce ⊢;clear a5 dM cA Y e1 dU dw ay aq bh ch a7 cx eA dc ej ea ad bg;have fE:=bF.o.lt;obtain⟨a3,ba,K⟩:=G.o.row.len;rw[ah.o] at K;have fF:bf.cell? (e+6,1)=some (.slice a3 j ba):=(by rw[<-K];exact bF.o.cell 1 _ rfl);have cs:bf.ownsRow (e+7) 256 1 (.slice a3 j ba) j (ae.flatMap z6):=(by have h1:=G.o.row;unfold zG at h1;rwa[ah.o,K] at h1);obtain⟨fo,aa,ez,b8,eE⟩:=yI zen;have fu:=zA fun(k:Nat)=>bF.o.frz k;go_step;go_upto_region 10 with(at_builtin;refine jL _ rfl _ _ 207 rfl (e+7) 256 fo (.pointer none) 1 8 zbr aa ez b8 eE rfl ol _ _ _ rfl (cs.alloc _) bf 1 1 (z6 F) rfl rfl ?d1 ?d2 ?d3 ?d4 ?d5 ?_);case d1=>
    intro j co bM
    rw[qW,World.cell?,World.alloc_heap_new]
    simpa[z6,zo] using bM
   case d2=>intro co bM;simp[z6] at bM;subst bM;rfl
   case d3=>unfold maxLen;omega
   case d4=>omega
   case d5=>simp;omega
   intro v' ak cX cn _ dL;obtain⟨cy,db,rfl⟩:∃p av,v'= .slice p (j+1) av:=ys cX;have cN:∀k,k<bf.heap.size->(Value.slice a3 j ba).ownBlock≠some k->ak.heap[k]?=bf.heap[k]?:=fun k t ex=>(cn.block k oi (fun c=>ex c.symm)).trans (yV _ _ _ t);have cm:=fun k c=>ya cs k c;have bT:yE e ak (xT bi i.id (zo F)) [] a1 () true:=bF.o.keep fun b c=>cN b oa (fun u=>by have:=(cm _ u).1;omega);have dI:ak.cell? (e+6,1)=some (.slice a3 j ba):=(by rw[<-K];exact bT.cell 1 _ rfl);have fs:=bT.frz 1;have en:=zA bT;have ev:=zA cX;have eH:=zA cn;have fx:=zA dL;have cd:=zA cN;have fl:=zA cm;clear bT cX cn dL cN cm cs;go_wp2;refine⟨⟨j+1,oak,oa,ae++[F],R++[(d,zo F)],xT bi i.id (zo F),.slice cy (j+1) db,?_,by simp[ah.o],?_,?_,?_,en.o.setOrd _,?_,?_⟩,oY⟩;case refine_1=>
    have dR:zG (e+7) 256 1 z6 ak (.slice cy (j+1) db) (ae++[F]):=zG.snoc ah.o ev.o
    have e0:=fun b (hb:b∈ae)=>G.o.lt hb
    have c8:∀b∈ae,ak.heap[b]?=bf.heap[b]?:=fun b hb=>cd.o b (e0 b hb) (fun c=>by obtain⟨_,_,_,_,_,C⟩:=G.o.node hb;exact zc8 G.o.row C (by rw[K];exact c))
    have fe:xa ak F i (.pointer none) () () ag:=(cd.o F bZ.o.lt (fun c=>zc8 G.o.row bZ.o (by rw[K];exact c))).trans bZ.o
    have fd:ak.heap[a+1]?=some (.cells #[.map (some a)] 300 (0,0)):=(cd.o _ (aL G.o.box) (fun c=>by
     rcases G.o.row.2 with⟨u,_⟩|⟨bu,bq,d8,u,_,aj,_⟩
     ·rw[K] at u;rw[u] at c;cases c
     ·rw[K] at u;rw[u] at c;obtain rfl:bu=a+1:=(by simpa[Value.ownBlock] using c);have:=aj.symm.trans G.o.box;cases this)).trans G.o.box
    have bV:∀b,b≠e+6->(ak.setCell (e+6,1) (.slice cy (j+1) db)).heap[b]?=ak.heap[b]?:=fun b hb=>zZ _ _ _ _ (by show ¬b=e+6;exact hb)
    exact {
     nodes:=fun o bR b h1 H=>by
      by_cases aa:o<ae.length
      ·rw[jm aa] at H;have J:=xn H;have b2:=G.o.ge b J;obtain⟨p,l,r,s,C⟩:=G.o.nodes o bR b h1 H;exact⟨p,l,r,s,((bV b oa).trans (c8 b J)).trans C⟩
      ·have eX:o=j:=(by have:=(zw.1 H).1;simp[ah.o] at this;have:=ah.o;omega);subst eX;have:b=F:=(by rw[vL oa,ah.o] at H;simpa using H.symm);subst this;rw[cZ.o] at h1;cases h1;exact⟨_,_,_,_,(bV _ oa).trans fe⟩
     row:=dR.blk fun b c=>bV b (by have:=dR.ge c;omega)
     box:=(bV _ oa).trans fd
     ge:=fun b hb=>by
      rcases xX.1 hb with hb|hb
      ·exact G.o.ge b hb
      ·simp only[j0] at hb;omega
     len:=by rw[xY,ah.o];have:=(zw.1 cZ.o).1;simp only[z7,xB];omega}
   case refine_2=>
    have c1:=b9.o.lt;have eq:(Value.slice a3 j ba).ownBlock≠some a:=fun c=>by
     rcases G.o.row.2 with⟨u,_⟩|⟨bu,bq,d8,u,_,aj,_⟩
     ·rw[K] at u;rw[u] at c;cases c
     ·rw[K] at u;rw[u] at c;obtain rfl:bu=a:=(by simpa[Value.ownBlock] using c);obtain⟨N,cG,a9,_⟩:=b9.o;have:=a9.symm.trans aj;cases this
    exact b9.o.blk ((zZ _ _ _ _ (by show ¬a=e+6;omega)).trans (cd.o a c1 eq))
   case refine_3=>obtain⟨_,u,a6,_⟩:=dq.o;rw[ym,b1.o,vg,u,ym];simp[a6]
   case refine_4=>
    intro p x;rcases xX.1 x with x|x
    ·obtain⟨b,hb,c⟩:=bU.o p x;exact⟨b,by simp[hb],c⟩
    ·simp only[j0] at x;subst x;exact⟨F,oh,rfl⟩
   case refine_5=>
    intro o bR aa c2;rw[zem];by_cases c:bR.id=i.id
    ·exact⟨F,by rw[zP c]⟩
    ·rw[zN c];refine cj.o o bR ?_ c2;by_cases h:o=j
     ·subst h;rw[cZ.o] at c2;cases c2;exact absurd rfl c
     ·omega
   case refine_6=>have cc:=az.o;have c8:Below w w ak:=(ce.o.alloc ce.o.size _).grown eH.o (by have:=ce.o.size;simp;omega) (fun b c=>by have:=(fl.o b c).1;omega);exact c8.setCell (p:=(e+6,1)) (by show w.heap.size<=e+6;omega) _
  ·obtain rfl:j=aw:=(by omega);obtain⟨ae,R,bi,a1,M,bm,bQ,bs,bD,X,bE,hb⟩:=dk;obtain⟨N,m,ac,dh,d2⟩:=bQ;have ah:=zA bm;have b1:=zA bs;have bU:=zA bD;have cj:=zA bE;have de:=zA dh;have bN:=zA d2;have e2:=run_range_map (P:=zD) wr 300 256 256 a N m zho ac;have cU:wr.cell? (a+1:)=some (.map (some a)):=(by have:=M.box;simp[World.cell?,this]);have bO:Below wr wr (wr.alloc (.mapIter (some a) m #[] m)):=aA;have b5:=zA (show Cp2 e a wr m N S ae bi a1 w #[] (wr.alloc (.mapIter (some a) m #[] m)) from
    ⟨M.below bO,(bO.block a (aL ac)).trans ac,X.keep fun b c=>bO.block b (by have:=X.lt;omega),World.alloc_heap_new _ _,hb.alloc hb.size _⟩)
   have e8:a<wr:=aL ac;have el:=X.lt;have cR:=hb.size;clear M ac dh d2 bm bs bD X bE hb eS bO;go_upto_region 13 with fail;generalize wr.alloc (.mapIter (some a) m #[] m)=eR at b5 ⊢;generalize wr.heap.size=B at b5 e8 el cR ⊢;clear e2 cU wr;go_loopw [] (fun cY=>∃qi,Cp2 e a B m N S ae bi a1 w qi cY) (fun cY=>(leftOf N (zfy cY B)).size);case atStart=>exact⟨_,b5.o⟩
   case round=>
    clear b5 eR;obtain⟨qi,M,ac,X,ao,hb⟩:=hrel;have cF:zfy wr B=qi:=(by unfold zfy;rw[ao]);have bt:=zA M;have fC:=zA ac;have bo:=zA X;have fr:=zA ao;have ct:=zA hb;have fh:=zA cF;have eQ:=zA (show zq zo wr a R from⟨N,m,ac,de.o,bN.o⟩);have cz:wr.cell? (a+1:)=some (.map (some a)):=(by have:=M.box;simp[World.cell?,this]);have c1:a+1<wr.heap.size:=aL M.box;have b6:=zA (show ∀p∈R,∃f,f<D.len/\p.1=L.bl f from fun p x=>by have h1:p.1∈(S.order.take j).map L.bl:=(by rw[<-b1.o];exact xz.2 ⟨p,x,rfl⟩);obtain⟨f,ab,c⟩:=xz.1 h1;exact⟨f,by rw[bp];exact(W.o.wf.mem f).1 (zdX ab),c.symm⟩);have br:=zA (show ∀(g:zC),Below w w g->∀f,f<D.len->jZ g (L.bl f) from fun g A f ab=>by have bC:=Z.o.node f ab;exact⟨_,_,_,_,_,(A.block _ bC.lt).trans bC⟩);have ck:=zA (show ∀p∈R,∃q,p.2= .pointer q from fun p x=>by obtain⟨b,_,c⟩:=bU.o p x;exact⟨_,c⟩);rcases run_next_at (P:=zD) wr 0 B a m m qi N m ao ac bN.o.1 (zU _) with⟨_,bY⟩|⟨c,dF,z,c0,bY⟩
    ·have dy:=zpM a (a+1) R L.rv (D.root.map L.bl) wr c1 cz eQ.o (fun p x=>by obtain⟨f,h1,H⟩:=b6.o p x;rw[H];exact br.o wr hb f h1) ck.o ((zG.slice (k:=1) (enc:=z6) (fun _=>rfl) Z.o.rootr).below hb) (fun k t=>by obtain⟨f,ab,rfl⟩:=xz.1 t;exact br.o wr hb f (Z.o.inroot f ab)) (by rw[xk,W.o.root];have:=zk0 W.o.wf.walk;have:=bI.o;omega);have et:wr.cell? (n+6,2)=some L.rv:=(hb.cell (p:=(n+6,2)) dO).trans eP;have fD:=X.lt;clear M ac X ao hb cF cz;go_upto_region 17 with(go_at_call 244;refine dy.mono ?_;rintro u am ⟨⟨au,aP,ax,rfl⟩,ar⟩;have ci:=bo.o.keep (W':=am) (fun b c=>ar.block b oa);have dj:=ci.cell 2 _ rfl;have eI:=ci.frz 2);have bn:=ci.setRoot (.slice au aP ax);have bL:jR e a S.units ae a1 (am.setCell (e+6,2) (.slice au aP ax)):=(bt.o.below ar).keep fun k t=>zZ _ _ _ _ (by
      show ¬k=e+6;rcases t with d|d|d
      ·have:=bt.o.ge k d;omega
      ·have:=bt.o.row.ge d;omega
      ·omega)
     have aH:Below w w (am.setCell (e+6,2) (.slice au aP ax)):=(zK ct.o ar).setCell (p:=(e+6,2)) oay _;generalize am.setCell (e+6,2) (.slice au aP ax)=af at bn bL aH ⊢;obtain⟨a3,ba,K⟩:=bL.row.len;rw[ah.o] at K;have dI:af.cell? (e+6,1)=some (.slice a3 j ba):=(by rw[<-K];exact bn.cell 1 _ rfl);have ek:=bn.cell 4 _ rfl;have fM:=bn.frz 4;have bw:=zA bn;have O:=zA bL;have al:=zA aH;clear ci dj eI ar dy bn bL aH et;by_cases er:j=0
     ·subst er;go_wp2;go_ret;have b3:=bI.o;refine⟨e,rfl,zoZ W.o.wf (bw.o.setFresh true) (O.o.keep fun k t=>zZ _ _ _ _ ?_) (by rw[ah.o,b3]) (fun o i aa a8=>cj.o o i oa a8) (fun _=>zcq.1 b3),az.o,al.o.setCell (p:=(e+6,4)) oay _⟩;show ¬k=e+6;rcases t with d|d|d
      ·have:=O.o.ge k d;omega
      ·have:=O.o.row.ge d;omega
      ·omega
     ·have fB:((j:Int)==0)=false:=(by simp;omega);go_wp2;go_ret;have b3:=bI.o;refine⟨e,rfl,zoZ W.o.wf (bw.o.setFresh false) (O.o.keep fun k t=>zZ _ _ _ _ ?_) (by rw[ah.o,b3]) (fun o i aa a8=>cj.o o i oa a8) (fun h=>by cases h),az.o,al.o.setCell (p:=(e+6,4)) oay _⟩;show ¬k=e+6;rcases t with d|d|d
      ·have:=O.o.ge k d;omega
      ·have:=O.o.row.ge d;omega
      ·omega
    ·have cV:=(Go.mem_left dF).1;obtain⟨dl,dY,c9,cl⟩:∃p∈R,c.key=zo p.1/\c.val=p.2:=(by have h1:(c.key,c.val)∈N.toList.map (fun c=>(c.key,c.val)):=xz.2 ⟨c,cV,rfl⟩;rw[de.o] at h1;obtain⟨p,x,u⟩:=xz.1 h1;exact⟨p,x,(congrArg Prod.fst u).symm,(congrArg Prod.snd u).symm⟩);obtain⟨k,ai,eF⟩:=b6.o dl dY;obtain⟨b,J,eV⟩:=bU.o dl dY;rw[eF] at c9;rw[eV] at cl;have eu:=zA (left_shrinks N qi c dF);have dC:∀o:Nat,z.heap[o]?=wr.heap[o]?:=fun o=>(by rcases c0 with rfl|rfl<;> rfl);have be:z.os=wr.os/\z.tape=wr.tape/\z.output=wr.output/\z.heap.size=wr:=(by rcases c0 with rfl|rfl<;> exact⟨rfl,rfl,rfl,rfl⟩);have dB:∀k,(k∈ae\/a1.ownBlock=some k\/k=a+1)->k≠B:=fun k t u=>by
      subst u;rcases t with d|d|d
      ·obtain⟨i,p,l,r,s,C⟩:=M.node d;have:=C.symm.trans ao;cases this
      ·rcases M.row.2 with⟨a6,_⟩|⟨bu,bq,d8,a6,_,aj,_⟩
       ·rw[a6] at d;cases d
       ·rw[a6] at d;obtain rfl:bu=k:=(by simpa[Value.ownBlock] using d);have:=aj.symm.trans ao;cases this
      ·subst d;have:=M.box.symm.trans ao;cases this
     have dp:=aL ao;have bA:∀k:Nat,k≠B->(ChangeMaps.setBlock z B (.mapIter (some a) m (qi.push c.born) m)).heap[k]?=wr.heap[k]?:=fun k t=>(qV (w:=z) t).trans (dC k);have V:=zA (M.keep fun k t=>bA k (dB k t));have cW:(ChangeMaps.setBlock z B (.mapIter (some a) m (qi.push c.born) m)).heap[a]?=some (.map N m):=(bA a oa).trans ac;have cB:=zA (X.keep (W':=ChangeMaps.setBlock z B (.mapIter (some a) m (qi.push c.born) m)) fun k t=>bA k oa);have da:(ChangeMaps.setBlock z B (.mapIter (some a) m (qi.push c.born) m)).heap[B]?=some (.mapIter (some a) m (qi.push c.born) m):=zfE (w:=z) (by rw[be.2.2.2];exact dp);have dA:Below w w (ChangeMaps.setBlock z B (.mapIter (some a) m (qi.push c.born) m)):=⟨be.1.trans hb.os,be.2.1.trans hb.tape,be.2.2.1.trans hb.output,by have h1:=vH z B (.mapIter (some a) m (qi.push c.born) m);have H:=hb.size;have b7:=be.2.2.2;show _<=(xF z B _).heap.size;omega,fun k t=>(bA k oa).trans (hb.block k t)⟩;have cJ:=run_entry_at (P:=zD) (ChangeMaps.setBlock z B (.mapIter (some a) m (qi.push c.born) m)) B a m qi N m c da cW cV bN.o.2.1;rw[c9,cl] at cJ bY;unfold zo at cJ bY;have cg:=zA da;have bv:=zA cW;have an:=zA dA;clear M ac X ao hb cF da cW dA bA dB dC be c9 cl cV cz dp;go_upto_region 15 with fail;generalize ChangeMaps.setBlock z B (.mapIter (some a) m (qi.push c.born) m)=I at V cB cg bv an ⊢;clear bY cJ c0 z;have ef:=an.o.size;have fG:=V.o.ge b J;have bK:=Z.o.node k ai;have bb:=bK.lt;have cw:=az.o;have d4:=zA cw;have fp:L.bl k<e+4:=oa;have fJ:e+6<w.heap.size+3:=oa;clear cw;have bS:L.bl k<I:=oa;have cb:=aL bv.o;have a4:a≠b:=(by rintro rfl;obtain⟨i,p,l,r,s,C⟩:=V.o.node J;have:=C.symm.trans bv.o;cases this);have bX:∀g:zC,g.heap[a]?=I.heap[a]?->zq zo g a R:=fun g A=>⟨N,m,A.trans bv.o,de.o,bN.o⟩;have dD:∀g:zC,(∀y,y<e+4->g.heap[y]?=I.heap[y]?)->∀f,f<D.len->jZ g (L.bl f):=fun g A f ab=>(by obtain⟨i,p,l,r,s,C⟩:=br.o I an.o f ab;have h1:=(Z.o.node f ab).lt;exact⟨i,p,l,r,s,(A _ (by have:=d4.o;omega)).trans C⟩);obtain⟨bH,Y,dn,em⟩:∃bH Y,xs L (D.par k)= .pointer bH/\∀s:zI (fun y=>y=b) I,(Instr.lookup 300 (.map (some a)) (.pointer bH) false).run zD s.val= .ok (.pointer Y) s.val:=by
      cases x:D.par k with
      |none=>exact⟨none,none,rfl,fun s=>ztX (bX s.val (s.h.block a cb a4))⟩
      |some p=>
       have eG:=Z.o.inpar k p ai x;obtain⟨Y,ei⟩:∃Y,(xD R (L.bl p)).getD (.pointer none)= .pointer Y:=by
        cases h:xD R (L.bl p) with
        |none=>exact⟨none,rfl⟩
        |some v=>exact ck.o _ (zpL h)
       refine⟨some (L.bl p),Y,rfl,fun s=> ?_⟩;rw[<-ei];have dW:=dD s.val fun y fw=>s.h.block y oa oa;exact znU (bX s.val (s.h.block a cb a4)) (fun q fg=>by obtain⟨f,h1,H⟩:=b6.o q fg;rw[H];exact dW f h1) (dW p eG)
     have cQ:=zA (show ∀(g:zC) (b4:zJ) (l:List Nat),Below I I g->zc 1 z6 w b4 (l.map L.bl)->(∀av∈l,av<D.len)->l.length<=100000->Calls zD 244 #[b4,(a+1:)] g (zpK g) from fun g b4 l A e7 ff bB=>by
      have c3:Below w w g:=zK an.o A;have cU:=(A.block _ (aL V.o.box)).trans V.o.box;refine zpM a (a+1) R b4 (l.map L.bl) g (by have:=A.size;have:=(aL V.o.box);omega) (by simp[World.cell?,cU]) (bX g (A.block a cb)) (fun p x=> ?_) ck.o (e7.below c3) (fun av aj=> ?_) (by rw[xk];exact bB)
      ·obtain⟨f,h1,H⟩:=b6.o p x;rw[H];exact br.o g c3 f h1
      ·obtain⟨f,ab,rfl⟩:=xz.1 aj;exact br.o g c3 f (ff f ab))
     have c4:k<S.l.length:=(by rw[<-bp];exact ai);have ed:=zvb W.o.wf c4;rw[bI.o] at ed;have ds:=zA (fun g A=>cQ.o g (L.lv k) (D.lf k) A (zG.slice (k:=1) (enc:=z6) (fun _=>rfl) (Z.o.lefts k ai)) (fun av aj=>Z.o.inlf k av ai aj) (by rw[W.o.lf k c4];omega));have eb:=zA (fun g A=>cQ.o g (L.mv k) (D.rt k) A (zG.slice (k:=1) (enc:=z6) (fun _=>rfl) (Z.o.rights k ai)) (fun av aj=>Z.o.inrt k av ai aj) (by rw[W.o.rt k c4];omega));rw[dn] at bK;have a2:xa I (L.bl k) (D.u k) (.pointer bH) (L.lv k) (L.mv k) (D.sz k):=(an.o.block _ bb).trans bK;generalize L.lv k=e9 at ds a2;generalize L.mv k=eN at eb a2;generalize L.bl k=d at a2 bS fp ⊢;have cO:¬d=b:=oa;have fa:∀s:zI (fun y=>y=b) I,s.val.cell? (d,6)=some (.pointer bH):=zI.cell bS cO (a2.cell 6 _ rfl);have eZ:∀s:zI (fun y=>y=b) I,s.val.cell? (d,7)=some e9:=zI.cell bS cO (a2.cell 7 _ rfl);have eM:∀s:zI (fun y=>y=b) I,s.val.cell? (d,8)=some eN:=zI.cell bS cO (a2.cell 8 _ rfl);have ft:=V.o.lt J;have eh:¬a+1=b:=(by rintro rfl;obtain⟨i,p,l,r,s,C⟩:=V.o.node J;have:=C.symm.trans V.o.box;simp[jE] at this);have dE:I.cell? (a+1:)=some (.map (some a)):=(by have:=V.o.box;simp[World.cell?,this]);have eU:∀s:zI (fun y=>y=b) I,s.val.cell? (a+1:)=some (.map (some a)):=zI.cell (by show a+1<_;exact(aL V.o.box)) eh dE;clear bK bb dn ed bX dD a2 cQ dE;refine xU 27 [0,1,2,3,4,5,6,7,8,9,10,11,12,13,15,16,17,18,19] [14,20,21,22,23,24,25,26,27,28,29] (fun y=>y=b) (aM ?_);refine aR ?_;have c5:Below I I I.drew:=(zf _ _).drew;have dz:=ds.o I.drew c5;clear fa eZ eM eU em;refine aS ?_;go_wp2_with (go_at_call 244;refine dz.mono ?_;rintro u e3 ⟨⟨cu,cp,cM,rfl⟩,dG⟩);have ca:=zK c5 dG;have dT:=eb.o e3 ca;refine⟨zI.to (Mods.of_below ca),?_⟩;refine aS ?_;go_wp2_with (go_at_call 244;refine dT.mono ?_;rintro u am ⟨⟨au,aP,ax,rfl⟩,dS⟩);have ar:=zK ca dS;have bP:=zA (show Mods (fun y=>y=b) I am from Mods.of_below ar);have cr:=zA (V.o.below ar);clear ar dS ca dG c5 dz dT;refine⟨zI.to bP.o,?_⟩;have d6:∀(g:World),jZ g b->∀o,g.frozen? ⟨b,o,none⟩=false:=fun g h o=>(by obtain⟨_,_,_,_,_,C⟩:=h;exact C.frz o);have dg:∀(g:zC),jZ g b->∃y co bG,g.cell? (b,6)=some y/\g.cell? (b,7)=some co/\g.cell? (b,8)=some bG:=fun g h=>(by obtain⟨_,_,_,_,_,C⟩:=h;exact⟨_,_,_,C.cell 6 _ rfl,C.cell 7 _ rfl,C.cell 8 _ rfl⟩);have cH:=zA d6;have cC:=zA dg;clear d6 dg;have fn:=cH.o am (cr.o.node J) 6;obtain⟨fI,_,_,c6,_,_⟩:=cC.o am (cr.o.node J);refine aS ?_;go_wp2;refine⟨zI.to bP.o,?_⟩;refine aS ?_;go_wp2;refine⟨zI.to bP.o,?_⟩;refine aS ?_;go_wp2;have bz:=zA (bP.o.setAt (p:=(b,6)) (.inl rfl) (.pointer Y));have O:=zA (cr.o.link J 6 (.inl rfl) (.pointer Y));refine⟨zI.to bz.o,?_⟩;clear fn c6;generalize am.setCell ⟨b,6,none⟩ (.pointer Y)=w6 at bz O ⊢;have eO:=cH.o w6 (O.o.node J) 7;obtain⟨_,fv,_,_,ep,_⟩:=cC.o w6 (O.o.node J);refine aS ?_;go_wp2;refine⟨zI.to bz.o,?_⟩;refine aS ?_;go_wp2;refine⟨zI.to bz.o,?_⟩;refine aS ?_;go_wp2;have cE:=zA (bz.o.setAt (p:=(b,7)) (.inl rfl) (.slice cu cp cM));have ay:=zA (O.o.link J 7 (.inr (.inl rfl)) (.slice cu cp cM));refine⟨zI.to cE.o,?_⟩;clear eO ep;generalize w6.setCell (b,7) (.slice cu cp cM)=cD at cE ay ⊢;have fb:=cH.o cD (ay.o.node J) 8;obtain⟨_,_,fq,_,_,eg⟩:=cC.o cD (ay.o.node J);refine aS ?_;go_wp2;refine aS ?_;go_wp2;refine aS ?_;go_wp2;refine xE ?_;have dZ:=zA (cE.o.setAt (p:=(b,8)) (.inl rfl) (.slice au aP ax));have G:=zA (ay.o.link J 8 (.inr (.inr rfl)) (.slice au aP ax));clear fb eg;generalize cD.setCell (b,8) (.slice au aP ax)=eK at dZ G ⊢;go_wp2;have aZ:=dZ.o;have fc:B≠b:=(by rintro rfl;obtain⟨i,p,l,r,s,C⟩:=V.o.node J;have:=C.symm.trans cg.o;cases this);have dJ:=(aZ.block B (aL cg.o) fc).trans cg.o;have cw:=d4.o;refine⟨⟨qi.push c.born,G.o,(aZ.block a cb a4).trans bv.o,cB.o.keep (fun o aa=>aZ.block o (by have:=cB.o.lt;omega) oa),dJ,⟨aZ.os.trans an.o.os,aZ.tape.trans an.o.tape,aZ.output.trans an.o.output,zk ef aZ.size,fun o aa=>(aZ.block o oa oa).trans (an.o.block o aa)⟩⟩,?_⟩;have ew:zfy eK B=qi.push c.born:=(by unfold zfy;rw[dJ]);rw[ew,fh.o];exact eu.o
theorem zgX.cell{w:zC}{b:Nat}(a:zgX w b):w.cell? (b,1)=():=by obtain⟨c,d,a⟩:=a;simp[World.cell?,a,yH]
theorem zgX.lt{w:zC}{b:Nat}(a:zgX w b):b<w:=by obtain⟨c,d,a⟩:=a;exact(aL a)
end Go.Proofs.YtimlgcodecgecaaGreatDoor
