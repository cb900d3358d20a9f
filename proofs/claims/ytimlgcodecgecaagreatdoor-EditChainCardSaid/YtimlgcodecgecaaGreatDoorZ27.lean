/- Walk: ids.Turns of any turns. -/
import Derived.Test.YtimlgcodecgecaaGreatDoorZ26
import Derived.Maps.RangeWalk
set_option maxRecDepth 100000
set_option maxHeartbeats 20000000
set_option linter.all false
namespace Go.Proofs.YtimlgcodecgecaaGreatDoor
open Go.RowKit Go.Shelf Go.Lib
section
attribute [local go_sem] jl
def zgC(d:List zL):Prop:=d.Pairwise fun x y=>¬y.cmp x<0
theorem zwg(base:Nat)(v:zJ)(l:List zL)(W:zC)(b:zG base 68 4 zb W v l)(I:l.length*32<=140737488355328):
 Calls zD 143 #[v,.func (.func 144) #[] #[]] W fun g a=>g=jB/\∃d:List zL,d.Perm l/\zgC d/\zG base 68 4 zb a v d/\W.grownBy a v.ownBlock:=by
 have u:=b;rcases u.2 with⟨rfl,x⟩|⟨j,G,J,rfl,_⟩
 ·have s:l= []:=zbo x;subst s;refine(AnyF.slices_SortFunc_none {Tryz.sortTurn with} none 0 (.func (.func 144) #[] #[]) W).mono ?_;rintro g a ⟨h,rfl⟩;exact⟨h,[],List.Perm.refl _,(List.Pairwise.nil:zgC []),b,⟨rfl,rfl,rfl,zU _,fun _ _ _=>rfl⟩⟩
 ·obtain⟨_,_,r,H,C⟩:=zG.holds (k:=4) (enc:=zb) (fun _=>rfl) b;have A:∀p c,(callFunc 144 p).run zD c= .ok (.enter 144 p) c:=enters_of Tryz.func144 oe rfl;have E:=AnyQ.slices_SortFunc Tryz.sortTurn 4 (fun c=>oe) (fun c=>oe) zb (fun _=>rfl) zdC zL.cmp zwe 144 #[] j 0 G l.toArray W A (zwf j 0 _ W) C r oi;refine E.mono ?_;rintro g a ⟨h,f,D,o,q,t,rfl⟩;have i:f.size=l.length:=by simpa using q.1
  obtain⟨F,w⟩:=zG.sorted (k:=4) (enc:=zb) (m:=D) (os:=o) (fun _=>rfl) b i;refine⟨h,f.toList,?_,?_,F,w⟩
  ·have:=q.2.2;rw[show l.toArray.size=f.size by simp[i],Array.extract_size] at this;simp at this;rwa[zaX oa] at this
  ·unfold zgC;rw[zbi];intro y z n e B;have:=t y z (xO _) B (by simpa[<-i] using e);unfold ltOf at this;simp at n e;simpa[n,e] using this
theorem zwh{d:List zL}(b:zgC d){i j:Nat}{x a:zL}(f:i<j)(g:d[i]?=some x)(e:d[j]?=some a):x.c<a.c\/(x.c=a.c/\x.a<=a.a):=by unfold zgC at b;rw[zbi] at b;obtain⟨h,rfl⟩:=zw.1 g;obtain⟨c,rfl⟩:=zw.1 e;have:=b i j h c f;unfold zL.cmp at this;rw[za3] at this;simp only[zL.rng] at this;omega
theorem zwi:Sw [] 0 0 [] [] where
 norm:=⟨oh,oh⟩
 bound:=fun _ h=>by cases h
 open_:=fun _ h=>by cases h
 done:=fun _ _=>rfl
 here:=fun _ _ _=>rfl
 rest:=fun _ h=>by cases h
def NxT(t:zL)(c at_:Int)(a:List zL):Prop:=(t.c=c/\at_<=t.a/\(a= []\/at_=t.a))\/(c<t.c/\a= [])
def zpJ(j k h:Nat)(d:List zL)(i:Nat)(f wr:zC):Prop:=
 ∃l g at_ e b c,j8 f j k h l g at_ b c wr/\Sw (d.take i) e at_ b c/\(∀a,d[i]?=some a->e<a.c\/(e=a.c/\at_<=a.a))/\at_<=9007199254740992/\b.length+c.length<=2*i/\Below f f wr
theorem tgE {p:Prop}(h:p:=by
 have hlA:=hU5.bA.lt;have hU6:=hU5.setA oa oa t.a;have cA5:=hU5.bA.cell;have fA5:=hU5.bA.frozen;have hX6:(wt.setCell (W2.heap.size+1+1:) t.a).heap[X]?=some (.cells #[t.c,t.a,t.b,t.n] 68 (0,0)):=(zZ _ _ _ _ (by show ¬X=W2.heap.size+1+1;omega)).trans hX5;have hB6':Below W2 W2 (wt.setCell (W2.heap.size+1+1:) t.a):=hB5.setCell (p:=(W2.heap.size+1+1:)) (by show W2.heap.size<=W2.heap.size+1+1;omega) _;have x1:=aC hX5 1;have HU6:=zA hU6;have HS5:=zA hS5;clear hU6 hU5 hS5 hX5 hB5;go_upto_region 18 with fail;generalize wt.setCell (W2.heap.size+1+1:) t.a=W7 at HU6 hX6 hB6' ⊢;clear x1 cA5 fA5;obtain⟨pO5,cO5,rfl⟩:=HU6.o.rO.len;obtain⟨m5,hm5⟩:=aY opn5.length;have cO7:=HU6.o.bO.cell;rw[hm5] at cO7;have fO7:=HU6.o.bO.frozen;have hrow7:W7.ownsRow W2 68 4 (.slice pO5 m5 cO5) m5 (opn5.flatMap zb):=by have h1:=HU6.o.rO;unfold zG at h1;rwa[hm5] at h1
 have x0:=aC hX6 0;have x1:=aC hX6 1;have x2:=aC hX6 2;have x3:=aC hX6 3;have HM5:=zA hm5;have hz7:=hB6'.size;have hlO7:=HU6.o.bO.lt;have hlO5:=fun b e=>(ya hrow7 b e).2;have hnO:=HU6.o.bO.not_row ol HU6.o.rO;go_wp2_with ((at_builtin;refine jL _ rfl _ _ 37 rfl W2.heap.size 68 i0 (.agg #[zH,zH,zH,zH]) 4 32 zbf hi hz0 hz1 hz2 rfl ol _ _ _ rfl (hrow7.alloc _) W7 1 1 (zb t) rfl rfl ?ta1 ?ta2 ?ta3 ?ta4 ?ta5 ?_));case ta1=>first|exact zgB _ _ t rfl|exact fun j u h=>by simpa[zb] using h
 case ta2=>exact zdC t
 case ta3=>unfold maxLen;omega
 case ta4=>omega
 case ta5=>first|omega|(simp;omega)
 intro v8 w8 hown8 hgrow8 _ hblk8;obtain⟨p8,c8,rfl⟩:∃p c,v8= .slice p (m5+1) c:=ys hown8;have hw8:∀k,k<W7.heap.size->(Value.slice pO5 m5 cO5).ownBlock≠some k->w8.heap[k]?=W7.heap[k]?:=fun k hk hs=>(hgrow8.block k oi (fun e=>hs e.symm)).trans (yV _ _ _ hk);have bO8:Boxed w8 (W2.heap.size+1) 37 (.slice pO5 m5 cO5):=(hw8 _ hlO7 (fun e=>hnO (by rw[HM5.o];exact e.symm))).trans (by rw[<-HM5.o];exact HU6.o.bO);have cO8:=bO8.cell;have fO8:=bO8.frozen;have hM8:Mods (fun k=>(Value.slice pO5 opn5.length cO5).ownBlock=some k) W7 w8:=((Mods.refl _ W7).alloc _).grown hgrow8 (fun b e=> .inl (by rw[HM5.o];exact e));have ho8:zG W2 68 4 zb w8 (.slice p8 (m5+1) c8) (opn5++[t]):=zG.snoc HM5.o hown8;have hblk:(Value.slice p8 (m5+1) c8).ownBlock=(Value.slice pO5 opn5.length cO5).ownBlock\/∀b,(Value.slice p8 (m5+1) c8).ownBlock=some b->W7.heap.size<=b:=by
  rcases hblk8 with g|g
  ·exact .inl (by rw[HM5.o];exact g)
  ·exact .inr fun b e=>by rw[g] at e;cases e;omega
 have HU8:=zA (HU6.o.del oa oa ho8 hblk hM8);have hB8:Below W2 W2 w8:=(hB6'.alloc hz7 _).grown hgrow8 oi (fun j e=>(ya hrow7 j e).1);have HB8:=zA hB8;clear hblk ho8 hM8 hw8 hown8 hgrow8 hblk8 hrow7 x0 x1 x2 x3 cO7 fO7 hX6 bO8 hB8;go_wp2;refine⟨⟨k+1,oak,oa,_,vR5,t.a,t.c,out5,opn5++[t],HU8.o,?_,fun y hy=> ?_,?_,by simp only[xY,z7,xB];omega,HB8.o.setCell (p:=(W2.heap.size+1:)) (by show W2.heap.size<=W2+1;omega) _⟩,oY⟩
 ·rw[vg,HT.o];exact HS5.o.next (HR.o t (xn HT.o)) HNX5.o
 ·exact zwh HPW.o (Nat.lt_succ_self k) HT.o hy
 ·have:=yK (HR.o t (xn HT.o));omega):p:=h
theorem zlP(sv:zJ)(l:List zL)(w:zC)(bj:zc 4 zb w sv l)(bY:sv.oneCell'=true)(bN:l.length<=100000):
 Calls zD 73 #[sv] w (qH fun J bg=>zG w 68 4 zb bg J (zz l [])/\Below w w bg):=by
 refine(yi (n:=8)).1 ?_;have b7:Fence.wide.fn 140:=trivial;have cp:Fence.wide.fn 143:=trivial;have h1:1<=8:=oa;refine callsIn_of_wp_marks Tryz.func73 rfl trivial ?_ rfl;simp only[Tryz.ntmps73,yw,z7,xB,Nat.reduceAdd,Nat.reduceSub,qK,qL,qM,qN,xu,yD];refine vj.2 ?_;go_wp2_with (go_at_call 140;refine(yi.1 (zoM 7 _ _ _ bY rfl)).mono ?_;rintro e bg ⟨rfl,rfl⟩);have ba:Below w w (((w.alloc (.cells #[()] 37)).alloc (.cells #[sv] 37)).alloc (.cells #[.func (.func 141) #[] #[]] 159)):=aB;have cg:(((w.alloc (.cells #[()] 37)).alloc (.cells #[sv] 37)).alloc (.cells #[.func (.func 141) #[] #[]] 159)).heap.size=w+3:=oh;have bA:=((Boxed.new w 37 ()).alloc (.cells #[sv] 37)).alloc (.cells #[.func (.func 141) #[] #[]] 159);have a8:=(Boxed.new (w.alloc (.cells #[()] 37)) 37 sv).alloc (.cells #[.func (.func 141) #[] #[]] 159);have aj:=Boxed.new ((w.alloc (.cells #[()] 37)).alloc (.cells #[sv] 37)) 159 (.func (.func 141) #[] #[]);simp only[qX] at a8 aj;obtain⟨a1,cb⟩:=aY ((((w.alloc (.cells #[()] 37)).alloc (.cells #[sv] 37)).alloc (.cells #[.func (.func 141) #[] #[]] 159)));try simp only[cb] at ba cg bA a8 aj ⊢
 clear cb;have dc:w.heap.size<=a1.heap.size:=oa;have cd:∀b b2 n c,sv= .slice (some ⟨b,b2,none⟩) n c->b<w.heap.size:=by
  rintro b b2 n c rfl;rcases bj with⟨e,_⟩|⟨db,df,b6,e,_,cQ,_⟩
  ·cases e
  ·cases e;exact cQ
 obtain⟨i0,hi,hz0,hz1,hz2⟩:=yI zgA;refine(vj (n:=8)).1 ?_;refine wpIn_rangeFunc_ownH rfl h1 (gf:=201) (lb:=#[(w.heap.size+1:),(w.heap.size+2:)]) rfl trivial (enters_of zhg oe rfl)
  (zoN 7 oa (w.heap.size+1) (w.heap.size+2) w sv l a1 oa oa oa a8.cell aj.cell (bj.below ba) cd) ye.trans ?hKb (zf _ _) (fun _=>rfl)
  (fun O f=>zwc w w a1 w O f) (fun _ _ _=>False) ?hI ?hIx ?h0 (fun o bC f=>∃G,a1.heap.size<=G/\f.heap[G]?=some (.cells (zb o).toArray 68 (0,0))/\bC={tmps:=#[sv,undef,(),w,.pointer (some ⟨G,0,none⟩),undef,undef,undef,undef,undef,undef,undef,sv,.func (.func 201) #[] #[(w.heap.size+1:),(w.heap.size+1+1:)],.agg #[o.c,o.a,o.b,o.n],undef,undef,undef,undef,undef,undef,undef,undef,undef,undef,undef,undef,undef,undef,undef,undef,undef,undef,undef,undef,undef,undef,undef,undef,undef,undef,undef,undef,undef,undef,undef,undef,undef,undef,undef,undef,undef,undef,undef,undef,undef,undef,undef,undef,undef,undef,undef,undef,undef],defers:= []}) ?hAx ?assign ?body ?done ?stop
 case hKb=>intro f l bP cv cm _ _ _;exact⟨belowK_b oa f l bP cv cm ‹_› ‹_› ‹_›,World.putObj_heap_other oa⟩
 case hI=>exact OwnFrom.and (fun O f W' a2 ⟨J,H,D⟩ V B=>⟨J,zb1 H V (fun ai e=>(B ai e).2),zia D V (fun ai e=>(B ai e).2)⟩) (OwnFrom.and (ownFrom_below oa oa) (OwnFrom.and (fun O f W' a2 hs V B=>zk hs V.size) (fun O f W' a2 hs V B=>zb1 hs V (fun ai e=>(B ai e).2))))
 case hIx=>exact fun c cO f W' a2 h _ _=>h
 case h0=>exact⟨⟨_,bA,zG.nil⟩,ba,zU _,aj⟩
 case hAx=>intro o bC cO f W' a2 ⟨G,bS,R,cM⟩ V B;exact⟨G,bS,(V.block G (aL R) (fun e=>by obtain⟨_,bP,cc,cj⟩:=B G e.symm;rw[R] at cc;cases cc;cases cj)).trans R,cM⟩
 case assign=>
  intro cq O o f cZ hi ac;gi_wp2;have cu:ye w (w.heap.size+2) f (f.alloc (.cells #[o.c,o.a,o.b,o.n] 68)):=ye.of_below hi.2.1.size (by have:=hi.2.2.1;omega) aA;refine ac _ _ ((KeepsOthers.alloc _ _).from _) cu ?_ ⟨f.heap.size,?_,?_,rfl⟩
  ·obtain⟨⟨J,H,D⟩,L,v,W⟩:=hi;exact⟨⟨J,H.alloc _,D.alloc _⟩,L.alloc L.size _,oi,W.alloc _⟩
  ·exact hi.2.2.1
  ·exact World.alloc_heap_new f _
 case body=>
  rintro cq O o bC f cS ⟨ai,B⟩ ⟨⟨J,H,D⟩,L,v,W⟩ ⟨G,bS,R,rfl⟩ cN;have cY:f.cell? G=o.c:=oaY;have c7:f.cell? (G,1)=o.a:=oaY;have dd:f.cell? (G,2)=o.b:=oaY;have c8:f.cell? (G,3)=o.n:=oaY;have cf:=H.cell;have cU:=H.frozen;have az:O.length+1<=l.length:=cN;have cP:w.heap.size<=f.heap.size:=L.size;gi_wp2_with (gi_at_builtin;refine wpListIn_append_own _ rfl _ _ 37 rfl w.heap.size 68 i0 (.agg #[zH,zH,zH,zH]) 4 32 zbf hi hz0 hz1 hz2 rfl ol _ _ _ rfl (D.alloc _) f 1 1 (zb o) rfl rfl ?c1 ?c2 ?c3 ?c4 ?c5 ?_);case c1=>
   intro j u ax
   have cV:j<4:=(zw.1 ax).1
   rw[qW,World.cell?,World.alloc_heap_new]
   simpa[zb] using ax
  case c2=>intro u ax;simp[zb] at ax;rcases ax with rfl|rfl|rfl|rfl<;> rfl
  case c3=>unfold maxLen;omega
  case c4=>omega
  case c5=>simp;omega
  intro dg bM ca N _;obtain⟨ct,b6,rfl⟩:=ownsRow_succ ca;obtain⟨b3,ae,cz,cE,bL⟩:=H.appended ol D cP (zU _) ca N;have cC:Boxed bM (w.heap.size+2) 159 (.func (.func 141) #[] #[]):=(W.alloc _).kept N (W.not_row ol D);have de:=b3.cell;have b7:=b3.frozen;gi_wp2;have bQ:Boxed (bM.setCell w (.slice (some ct) (O.length+1) b6)) (w.heap.size+2) 159 (.func (.func 141) #[] #[]):=(zZ _ _ _ _ oh).trans cC;refine⟨cE.from _,⟨bL,bQ.trans W.symm⟩,⟨_,ae,?_⟩,L.trans bL,?_,bQ⟩
  ·unfold zG;rw[xY,qe];simpa using cz
  ·have h1:=N.size;simp at h1 ⊢;omega
 case done=>
  rintro E bc f c0 a0 ⟨⟨J,H,D⟩,L,v,W⟩ ac;have bT:bc.length<=100000:=by rw[a0];exact zk (jV _ _) bN
  have cf:=H.cell;have bG:=zwg w J bc f D oa;go_upto_region 6 with(go_at_call 143;refine bG.mono ?_;rintro e W2 ⟨rfl,F,a9,b8,bx,N⟩);have ae:Boxed W2 w 37 J:=H.kept N (H.not_row ol D);have a4:W2.heap[E]?=some (.deferred (some [])):=by
   rw[N.block E (aL ac) ?_];exact ac;intro e;rcases D.2 with⟨rfl,_⟩|⟨g,cL,cA,rfl,_,aq,_⟩
   ·cases e
   ·cases e;rw[aq] at ac;cases ac
  have a3:Below w w W2:=L.grown N L.size (fun j e=>by
   rcases D.2 with⟨rfl,_⟩|⟨g,cL,cA,rfl,aq,_⟩
   ·cases e
   ·cases e;exact aq)
  obtain⟨n,a5⟩:=aY F.length;have az:n<=100000:=by rw[<-a5,a9.length_eq];exact bT
  obtain⟨p,cX,rfl⟩:=bx.len;rw[a5] at ae;have cx:=zA bx;have b4:=zA a5;have HPW:=zA b8;have HR:=zA (show ∀t∈F,t.rightB=true from fun t ab=>by have:=a9.mem_iff.1 ab;rw[a0] at this;exact(zcu.1 this).2);have ci:=zA (show ∀z,zd F z=zd l z from fun z=>by
   rw[zwT a9,a0,zlJ _ _ _ (fun t _ aq=>by
    cases B:t.rightB
    ·simp[zL.hasB,B] at aq
    ·rfl)])
  clear bG D H ac N bx cd bj bA a8 aj W cf L b7 cp bY cg ba a9 b8 a0 a5 bT bN;have bE:Boxed (((W2.alloc (.cells #[()] 37)).alloc (.cells #[()] 37)).alloc (.cells #[zH] 43)) W2 37 ():=((Boxed.new W2 37 ()).alloc _).alloc _;have bO:Boxed (((W2.alloc (.cells #[()] 37)).alloc (.cells #[()] 37)).alloc (.cells #[zH] 43)) (W2.heap.size+1) 37 ():=by have:=(Boxed.new (W2.alloc (.cells #[()] 37)) 37 ()).alloc (.cells #[zH] 43);simpa using this
  have bA:Boxed (((W2.alloc (.cells #[()] 37)).alloc (.cells #[()] 37)).alloc (.cells #[zH] 43)) (W2.heap.size+1+1) 43 zH:=by have:=Boxed.new ((W2.alloc (.cells #[()] 37)).alloc (.cells #[()] 37)) 43 zH;simpa using this
  have ak:Below W2 W2 (((W2.alloc (.cells #[()] 37)).alloc (.cells #[()] 37)).alloc (.cells #[zH] 43)):=(aA.alloc oh _).alloc oi _;have bX:(((W2.alloc (.cells #[()] 37)).alloc (.cells #[()] 37)).alloc (.cells #[zH] 43)).heap.size=W2+3:=oh;go_upto_region 9 with fail;obtain⟨a7,bZ⟩:=aY ((((W2.alloc (.cells #[()] 37)).alloc (.cells #[()] 37)).alloc (.cells #[zH] 43)));try simp only[bZ] at bE bO bA ak bX ⊢
  clear bZ;have b5:j8 W2 (W2.heap.size+1) (W2.heap.size+1+1) W2 () () 0 [] [] a7:=⟨bO,bA,bE,zG.nil,zG.nil,fun b e=>obd⟩;have bI:=zA (show zpJ (W2.heap.size+1) (W2.heap.size+1+1) W2 F 0 W2 a7 from⟨_,_,0,0,[],[],b5,by rw[zhe];exact zwi,fun y hy=> .inl (by have:=yK (HR.o y (xn hy));omega),oa,oh,ak⟩);have bU:Boxed a7 w 37 _:=(ak.block _ ae.lt).trans ae;have cn:=bU.cell;have cR:=zA ak;clear bE bO bA ak bX b5 bU ae;go_wp2;go_loopw [24] (fun z wr=>∃k:Nat,z=zB k/\k<=n/\zpJ (W2.heap.size+1) (W2.heap.size+1+1) W2 F k W2 wr) (fun z _=>n - (intOf z).toNat);case atStart=>exact⟨0,rfl,oa,bI.o⟩
  case round=>
   clear bI cn cR a7;obtain⟨k,rfl,hk,cI,ag,at_,c,out,x,A,v,ao,bH,cD,s⟩:=hrel;have c9:k<=100000:=oa;by_cases ch:k<n
   ·have c6:(k:Int)<n:=(by omega);obtain⟨t,ab⟩:∃t,F[k]?=some t:=⟨F[k]'(by rw[b4.o];omega),xG _⟩;obtain⟨b,cw,a6,cT,_,ar⟩:=zG.elem (k:=4) (enc:=zb) (fun _=>rfl) cx.o ab;subst cw;have cJ:wr.cell? (b,k*4)=t.c:=(s.cell (p:=(b,k*4)) a6).trans (by simpa using ar 0 _ rfl);have bv:wr.cell? (b,k*4+1)=t.a:=(s.cell (p:=(b,k*4+1)) a6).trans (ar 1 _ rfl);have cG:wr.cell? (b,k*4+2)=t.b:=(s.cell (p:=(b,k*4+2)) a6).trans (ar 2 _ rfl);have cH:wr.cell? (b,k*4+3)=t.n:=(s.cell (p:=(b,k*4+3)) a6).trans (ar 3 _ rfl);have HT:=zA ab;have ao:=ao t ab;have cW:=yK (HR.o t (xn ab));clear ar ab;go_upto_region 12 with fail;have bW:Below wr wr (wr.alloc (.cells #[t.c,t.a,t.b,t.n] 68)):=aA;generalize bz:World.alloc _ _=bd;obtain⟨-,r,-⟩:=aF bz;have i:=A.below bW;have d:=s.alloc s.size (.cells #[t.c,t.a,t.b,t.n] 68);have bB:∀q,cI.ownBlock=some q->q<wr.heap.size:=fun q e=>A.rO.lt e;have bm:∀q,ag.ownBlock=some q->q<wr.heap.size:=fun q e=>A.rR.lt e;have co:W2.heap.size+1+1<wr.heap.size:=A.bA.lt;try simp only[bz] at i d
    clear bz;generalize wr.heap.size=X at r bB bm co ⊢;clear cJ bv cG cH bW A s wr;obtain⟨b1,ay,rfl⟩:=i.rO.len;obtain⟨al,K⟩:=aY x.length;have M:=i.bO.cell;rw[K] at M;by_cases bw:al=0
    ·subst bw;have aH:x= []:=zcq.1 K;go_upto_region 17 with fail;obtain⟨vR5,am⟩:=aY ag;obtain⟨out5,aa⟩:=aY out;obtain⟨opn5,af⟩:=aY x;have HNX5:=zA (show NxT t c at_ opn5 from by
      unfold NxT;rw[<-af];rcases ao with g|⟨cy,a⟩
      ·exact .inr ⟨g,aH⟩
      ·exact .inl ⟨cy.symm,a,.inl aH⟩)
     have hU5:=i;have hX5:=r;have hB5:=d;have hS5:=v;rw[am,aa,af] at hU5;rw[aa,af] at hS5 cD;generalize Value.slice b1 opn5.length ay=bo at hU5;clear K aH M i r d v am aa af;obtain⟨wt,rfl⟩:=aX bd;exact tgE
    ·obtain⟨bF,Y⟩:∃t,x[0]?=some t:=⟨x[0]'(oa),xG _⟩;obtain⟨g,bt,ad,_,bu,au⟩:=zG.elem (k:=4) (enc:=zb) (fun _=>rfl) i.rO Y;subst bt;have Z:bd.cell? g=c:=(by have h1:=au 0 _ rfl;rw[(v.open_ bF (xn Y)).2.1] at h1;simpa using h1);have ck:(0:Int)<al:=oa;have bb:=aL r;have b9:=i.bO.lt;have cB:=aC r 1;clear au Y bu;go_upto_region 14 with fail;clear cB;have bR:=aU M;have ce:=aU Z;have b0:=aU (aC r 0);by_cases bJ:c=t.c
     ·subst bJ;as_aux_lemma=>
      have bv:(t.c !=t.c)=false:=oh;refine aQ ?_;intro W' hC' hBW';have aP:=(hBW'.block X bb).trans r;have an:=i.below hBW';have av:=zK d hBW';have cr:=(hBW'.cell (p:=g) ad).trans Z;clear bR ce b0 hC' r i d Z M bb b9 hBW' ad bd;have r:=aP;have i:=an;have d:=av;clear aP an av;have cK:at_<=t.a:=(by rcases ao with a|a<;> omega);have T:=zlR W2 (W2.heap.size+1) (W2.heap.size+1+1) W2 (.slice (some g) x.length ay) ag (F.take k) out x _ t.a at_ W' i v cK oa oa d.size oa oa oa;have bp:=aL r;have cO5:=i.bO.cell;rw[K] at cO5;go_upto_region 17 with(go_at_call 147;refine T.mono ?_;rintro e I ⟨rfl,bo,vR5,be,out5,opn5,hU5,hS5,bi,ah,bs,m,aZ,ap⟩);have hX5:=(m.block X bp (by
       rintro(a|a|a|a|a)
       ·omega
       ·omega
       ·omega
       ·have:=bB _ a;omega
       ·have:=bm _ a;omega)).trans r
      have hB5:Below W2 W2 I:=⟨m.os.trans d.os,m.tape.trans d.tape,m.output.trans d.output,zk d.size m.size,fun q aw=>(m.block q oax (by
       rintro(a|a|a|a|a)
       ·omega
       ·omega
       ·omega
       ·have:=i.rO.ge a;omega
       ·have:=i.rR.ge a;omega)).trans (d.block q aw)⟩
      clear m T cO5 r d i v aZ ap;have HNX5:=zA (show NxT t t.c be opn5 from .inl ⟨rfl,bi,ah⟩);obtain⟨wt,rfl⟩:=aX I;exact tgE
     ·have cl:c<t.c:=(by omega);as_aux_lemma=>
      have bv:(c !=t.c)=true:=(by simp[bJ]);refine aQ ?_;intro W' hC' hBW';have aP:=(hBW'.block X bb).trans r;have an:=i.below hBW';have av:=zK d hBW';have cr:=(hBW'.cell (p:=g) ad).trans Z;clear bR ce b0 hC' r i d Z M bb b9 hBW' ad bd;have r:=aP;have i:=an;have d:=av;clear aP an av;have T:=zlR W2 (W2.heap.size+1) (W2.heap.size+1+1) W2 (.slice (some g) x.length ay) ag (F.take k) out x _ 9007199254740992 at_ W' i v bH oa oa d.size oa oa oa;have bp:=aL r;have cO5:=i.bO.cell;rw[K] at cO5;go_upto_region 17 with(go_at_call 147;refine T.mono ?_;rintro e I ⟨rfl,bo,vR5,be,out5,opn5,hU5,hS5,bi,ah,bs,m,aZ,ap⟩);have hX5:=(m.block X bp (by
       rintro(a|a|a|a|a)
       ·omega
       ·omega
       ·omega
       ·have:=bB _ a;omega
       ·have:=bm _ a;omega)).trans r
      have hB5:Below W2 W2 I:=⟨m.os.trans d.os,m.tape.trans d.tape,m.output.trans d.output,zk d.size m.size,fun q aw=>(m.block q oax (by
       rintro(a|a|a|a|a)
       ·omega
       ·omega
       ·omega
       ·have:=i.rO.ge a;omega
       ·have:=i.rR.ge a;omega)).trans (d.block q aw)⟩
      clear m T cO5 r d i v aZ ap;have HNX5:=zA (show NxT t c be opn5 from .inr ⟨cl,by
       rcases ah with a|a
       ·exact a
       ·cases opn5 with
        |nil=>rfl
        |cons o bc=>
         have h1:=hS5.open_ o oh;have cF:=yK h1.1;omega⟩)
      obtain⟨wt,rfl⟩:=aX I;exact tgE
   ·obtain rfl:k=n:=(by omega);have bV:F.take k=F:=(by rw[<-b4.o];exact qJ);have bK:=zA (show ∀z,zd F z=zd l z from ci.o);rw[bV] at v;obtain⟨b1,ay,rfl⟩:=A.rO.len;obtain⟨al,K⟩:=aY x.length;have M:=A.bO.cell;rw[K] at M;have da:w<=E:=oa;clear bV ao ch;by_cases bw:al=0
    ·subst bw;have aH:x= []:=zcq.1 K;subst aH;go_upto_region 22 with fail;obtain⟨vR5,am⟩:=aY ag;obtain⟨out5,aa⟩:=aY out;have hU5:=A;have hB5:=s;have hS5:=v;rw[am,aa] at hU5;rw[aa] at hS5;clear K M A s v am aa;have cs:=hU5.bR.cell;have bl:=zA hU5;have bq:=zA hS5;have bh:=zA (show Below w w wr from zK a3 hB5);have C:wr.heap[E]?=some (.deferred (some [])):=(hB5.block E (aL a4)).trans a4;have br:w<=E:=oa;have bD:=zA C;clear hU5 hS5 hB5 C;go_wp2;have C:=bD.o;refine⟨oh,.inl ⟨_,_,rfl,run_takeDeferred C,?_⟩⟩;refine⟨_,zcI rfl _ _ _,⟨_,rfl,?_,?_⟩⟩
     ·obtain⟨az,bn⟩:=Sw.last bq.o;have bf:out5=zz l []:=zf5 az (zah l).1 (fun z=>by rw[bn,bK.o z,(zah l).2]);rw[<-bf];have B:(wr.putObj E (.deferred none)).ownsRow W2 68 4 vR5 out5.length (out5.flatMap zb):=ownsRow_putObj bl.o.rR _ C rfl;exact zaE B a3.size
     ·exact bh.o.trans (belowK_b (w:=w) (zU _) wr E _ _ br C rfl rfl)
    ·obtain⟨bF,Y⟩:∃t,x[0]?=some t:=⟨x[0]'(oa),xG _⟩;obtain⟨g,bt,ad,_,bu,au⟩:=zG.elem (k:=4) (enc:=zb) (fun _=>rfl) A.rO Y;subst bt;have Z:wr.cell? g=c:=(by have h1:=au 0 _ rfl;rw[(v.open_ bF (xn Y)).2.1] at h1;simpa using h1);have ck:(0:Int)<al:=oa;have T:=zlR W2 (W2.heap.size+1) (W2.heap.size+1+1) W2 (.slice (some g) x.length ay) ag F out x c 9007199254740992 at_ wr A v bH oa oa s.size oa oa oa;clear au Y bu;go_upto_region 22 with(go_at_call 147;refine T.mono ?_;rintro e I ⟨rfl,bo,vR5,be,out5,opn5,hU5,hS5,bi,ah,bs,m,aZ,ap⟩);have af:opn5= []:=by
      rcases ah with a|a
      ·exact a
      ·cases opn5 with
       |nil=>rfl
       |cons o bc=>
        have h1:=hS5.open_ o oh;have cF:=yK h1.1;omega
     subst af;have hB5:Below W2 W2 I:=⟨m.os.trans s.os,m.tape.trans s.tape,m.output.trans s.output,zk s.size m.size,fun q aw=>(m.block q (by have:=s.size;omega) (by
      rintro(a|a|a|a|a)
      ·omega
      ·omega
      ·omega
      ·have:=A.rO.ge a;omega
      ·have:=A.rR.ge a;omega)).trans (s.block q aw)⟩
     clear m T M s A v aZ ap Z ad ah bs;have cs:=hU5.bR.cell;have bl:=zA hU5;have bq:=zA hS5;have bh:=zA (show Below w w I from zK a3 hB5);have C:I.heap[E]?=some (.deferred (some [])):=(hB5.block E (aL a4)).trans a4;have br:w<=E:=oa;have bD:=zA C;clear hU5 hS5 hB5 C;go_wp2;have C:=bD.o;refine⟨oh,.inl ⟨_,_,rfl,run_takeDeferred C,?_⟩⟩;refine⟨_,zcI rfl _ _ _,⟨_,rfl,?_,?_⟩⟩
     ·obtain⟨az,bn⟩:=Sw.last bq.o;have bf:out5=zz l []:=zf5 az (zah l).1 (fun z=>by rw[bn,bK.o z,(zah l).2]);rw[<-bf];have B:(I.putObj E (.deferred none)).ownsRow W2 68 4 vR5 out5.length (out5.flatMap zb):=ownsRow_putObj bl.o.rR _ C rfl;exact zaE B a3.size
     ·exact bh.o.trans (belowK_b (w:=w) (zU _) I E _ _ br C rfl rfl)
 case stop=>exact fun _ _ _ _ _ _ h _=>h.elim
end
end Go.Proofs.YtimlgcodecgecaaGreatDoor
namespace Go.Proofs
open Go.Shelf
def Tryz.growTurn_ren:Go.Shelf.Ren:=⟨fun|4=>175|n=>n,fun|22=>37|25=>68|3=>3|4=>4|9=>9|20=>20|0=>0|n=>n,fun|n=>n⟩
theorem Tryz.growTurn:Go.Proofs.Lays8.n4 Tryz.prog Tryz.growTurn_ren:={
 mixed:=by kernel_rfl
 f4:=⟨Tryz.f175.name,by decide,Tryz.func175.trans (congrArg some (by kernel_rfl))⟩
 t0:=Tryz.underlying0
 a0:=Tryz.isAgg0
 z0:=Tryz.sizeOf0
 v0:=Tryz.zeroValue0
 t3:=Tryz.underlying3
 a3:=Tryz.isAgg3
 z3:=Tryz.sizeOf3
 v3:=Tryz.zeroValue3
 t4:=Tryz.underlying4
 a4:=Tryz.isAgg4
 z4:=Tryz.sizeOf4
 v4:=Tryz.zeroValue4
 t9:=Tryz.underlying9
 a9:=Tryz.isAgg9
 z9:=Tryz.sizeOf9
 v9:=Tryz.zeroValue9
 t20:=Tryz.underlying20
 a20:=Tryz.isAgg20
 z20:=Tryz.sizeOf20
 v20:=Tryz.zeroValue20
 t22:=Tryz.underlying37
 a22:=Tryz.isAgg37
 z22:=Tryz.sizeOf37
 v22:=Tryz.zeroValue37}
end Go.Proofs
namespace Go.Proofs.YtimlgcodecgecaaGreatDoor
open Go.RowKit Go.Lib
theorem zr2(n:Nat)(w:zC)(k:n<=1000000):
 Calls zD 175 #[(),zB n] w (qH fun e a=>zG w 68 4 zb a e []/\Below w w a):=by
 obtain⟨d,i,f,j,b⟩:=yI zgA;by_cases c:n=0
 ·subst c;refine(Any8.slices_Grow_room Tryz.growTurn none 0 0 0 w oa oa oa oa).mono ?_;rintro g a ⟨rfl,rfl⟩;exact⟨_,rfl,zG.nil,zf _ _⟩
 ·refine(Any8.slices_Grow_grow Tryz.growTurn d _ i f oa none 0 0 n [] w oa oa (by rw[b];omega) oa oh oh oh).mono ?_;rintro g a ⟨rfl,rfl⟩;refine⟨_,rfl,⟨oh,.inr ⟨_,_,_,rfl,zU _,vi w.drew _,xO _,?_,?_,oh⟩⟩,((zf _ _).drew).alloc (zU _) _⟩
  ·exact zhU w (0+n) 0 _ oP
  ·have:=zhV w (0+n) 0 (Tryz.growTurn_ren.t 25);have h:(Value.agg #[Value.int .u64 0,Value.int .u64 0,Value.int .u64 0,Value.int .u64 0]).cells.size=4:=rfl;simp only[zfZ,yw,xB,Builtin.zeroCells,Array.size_map,Array.size_range,h];omega
def va(L:List (Value×List zL)):Nat:=(L.flatMap (·.2)).length
theorem zmg{L:List (Value×List zL)}{k:Nat}(a:k<L.length):va (L.take (k+1))=va (L.take k)+L[k].2.length:=by unfold va;rw[j1 a,qe];simp
theorem zmh(L:List (Value×List zL))(k:Nat):va (L.take k)<=va L:=by unfold va;have h:=congrArg (fun l=>(l.flatMap (·.2)).length) (zcF k L);simp only[qe,xY] at h;omega
theorem zr3(g:Nat)(L:List (Value×List zL))(w:World)(ap:g<w.heap.size)(B:∀V k,L[V]?=some k->w.cell? ⟨g,V,none⟩=some k.1)(A:∀k∈L,zc 4 zb w k.1 k.2)(aZ:va L<=1000000)(ar:L.length<=1000):
 Calls zD 94 #[.slice (some g) L.length L.length] w (qH fun ab z=>zG w 68 4 zb z ab (L.flatMap (·.2))/\Below w w z):=by
 obtain⟨Y,E,ac,ag,ah⟩:=yI zgA;have F:=zr2 (va L);have D:=zA B;have W:=zA A;clear B A;go_enter Tryz.func94,Tryz.ntmps94;go_upto_region 3 with fail;go_loopw [3,11] (fun t i wr=>∃a:Nat,a<=L.length/\i=zB a/\t=zB (va (L.take a))/\wr=w) (fun _ i _=>L.length - (intOf i).toNat);case atStart=>exact⟨0,xO _,rfl,rfl,rfl⟩
 case round=>
  obtain⟨a,aj,rfl,rfl,rfl⟩:=hrel;by_cases m:a<L.length
  ·have v:(a:Int)<(L.length:Int):=(by omega);have l:=D.o a L[a] oh;have o:=zmg m;have O:=zmh L (a+1);obtain⟨a1,aw,X⟩:=(W.o L[a] oh).len;rw[X] at l;have q:=zA o;clear o X;have j:va (L.take a)+L[a].2.length<=1000000:=(by rw[<-q.o];omega);generalize L[a].2.length=az at l q j;generalize va (L.take a)=a2 at q j ⊢;go_wp2_with fail;go_roundw;case rel=>exact⟨a+1,oa,ou,by rw[q.o];go_num,trivial⟩
   case measure=>simp[intOf];omega
  ·obtain rfl:a=L.length:=(by omega);have v:¬(L.length:Int)<(L.length:Int):=oa;rw[qJ];obtain⟨au,an⟩:=aY (va L);rw[an] at F ⊢;go_upto_region 11 with(go_at_call 175;refine(F _ oa).mono ?_;rintro s a5 ⟨a3,rfl,J,H⟩);obtain⟨e,rfl⟩:=aX wr;go_loopw [6,27] (fun t i K=>∃a:Nat,a<=L.length/\i=zB a/\zG e 68 4 zb K t ((L.take a).flatMap (·.2))/\Below e e K) (fun _ i _=>L.length - (intOf i).toNat);case atStart=>exact⟨0,xO _,rfl,J,H⟩
   case round=>
    obtain⟨a,aj,rfl,h,f⟩:=hrel;clear J H;by_cases m:a<L.length
    ·have v:(a:Int)<(L.length:Int):=(by omega);have l:=(f.cell (p:=(g,a)) ap).trans (D.o a L[a] oh);have o:=zmg m;have O:=zmh L (a+1);have x:=(W.o L[a] oh).keep f.size fun c r a4 aH _ m=>f.block c m;have I:(L.take (a+1)).flatMap (·.2)=(L.take a).flatMap (·.2)++L[a].2:=(by rw[j1 m,qe];simp);have n:=zA I;have j:va (L.take a)+L[a].2.length<=1000000:=(by rw[<-o];omega);unfold va at j;clear o O I;have aP:=f.size;have ak:∀c,u6.ownBlock=some c->e.heap.size<=c:=fun c s=>(ya h c s).1;generalize L[a]=ad at l x n j;generalize(L.take a).flatMap (·.2)=y at h n j;obtain⟨ax,d⟩:=ad;dsimp only at l x n j;rcases x with⟨rfl,rfl⟩|⟨c,r,ao,rfl,ay,a0,C⟩
     ·go_wp2_with (at_builtin;refine wpList_append_own_none rfl _ _ 37 rfl e.heap.size 68 Y 4 zbf E _ _ _ rfl h rfl ?_);go_roundw;case rel=>exact⟨a+1,oa,ou,by rw[n.o];simpa using h,f⟩
      case measure=>simp[intOf];omega
     ·go_wp2_with (at_builtin;refine jL _ rfl _ _ 37 rfl e.heap.size 68 Y (.agg #[zH,zH,zH,zH]) 4 32 zbf E ac ag ah rfl ol _ _ _ rfl (show World.ownsRow _ e 68 4 u6 y.length (y.flatMap zb) from h) (c,r) d.length ao (d.flatMap zb) rfl (qy (enc:=zb) (k:=4) (fun _=>rfl) d) ?f1 ?f2 ?f3 ?f4 ?f5 ?_);case f1=>
       intro b u M
       have av:b<d.length*4:=by have:=(zw.1 M).1;rwa[qy (enc:=zb) (k:=4) (fun _=>rfl)] at this
       have G:=jo (enc:=zb) (k:=4) (fun _=>rfl) d (b / 4) (b % 4) d[b / 4] (by simp[show b / 4<d.length by omega]) (zaH _ oa)
       rw[show b / 4*4+b % 4=b by omega,M] at G
       have N:=C (b / 4) d[b / 4] (by simp[show b / 4<d.length by omega]) (b % 4) u G.symm
       rw[qW]
       rw[show r+b / 4*4+b % 4=r+b by omega] at N
       exact N
      case f2=>intro u al;obtain⟨k,_,af⟩:=zdV.1 al;exact zdC k u af
      case f3=>unfold maxLen;omega
      case f4=>omega
      case f5=>omega
      intro aq R T Z ae aa;have am:Below e e R:=f.grown Z oa (fun c s=>ak c s);have ai:zG e 68 4 zb R aq (y++d):=(by unfold zG;rw[xY,qe];exact T);clear T Z aa ae h f C l;go_wp2_with fail;go_roundw;case rel=>exact⟨a+1,oa,ou,by rw[n.o];exact ai,am⟩
      case measure=>simp[intOf];omega
    ·obtain rfl:a=L.length:=(by omega);have v:¬(L.length:Int)<(L.length:Int):=oa;rw[qJ] at h;go_wp2_with fail;go_ret;exact⟨_,rfl,h,f⟩
theorem zr4(s p:zJ)(a b:List zL)(w:zC)(j:zc 4 zb w s a)(hb:zc 4 zb w p b)(F:a.length<=10000)(I:b.length<=10000):
 Calls Tryz.prog 38 #[s,p] w (vu 68 4 zb (zz (a++b) []) w):=by
 obtain⟨f,g,rfl⟩:=j.len;obtain⟨e,d,rfl⟩:=hb.len;have i:Below w.heap.size w (w.alloc (.cells #[.slice f a.length g,.slice e b.length d] 37)):=aA;have h:=zr3 w.heap.size [(.slice f a.length g,a),(.slice e b.length d,b)] (w.alloc (.cells #[.slice f a.length g,.slice e b.length d] 37)) oh (fun r A c=>by
  rw[World.cell?,vi];match r with
  |0=>simpa using congrArg Prod.fst (zaJ c)
  |1=>simpa using congrArg Prod.fst (zaJ c)
  |r+2=>simp at c) (fun A c=>by
  rcases xK.1 c with rfl|c
  ·exact j.below i
  ·rcases xK.1 c with rfl|c
   ·exact hb.below i
   ·simp at c) (by simp[va];omega) oh
 have q:([((Value.slice f a.length g:zJ),a),(.slice e b.length d,b)]:List (Value×List zL)).flatMap (·.2)=a++b:=oh;rw[q] at h;have m:Calls zD 94 #[.slice (some w) 2 2] (w.alloc (.cells #[.slice f a.length g,.slice e b.length d] 37)) (qH fun v n=>zG (w.heap.size+1) 68 4 zb n v (a++b)/\Below (w.heap.size+1) (w.alloc (.cells #[.slice f a.length g,.slice e b.length d] 37)) n):=by rw[qX] at h;exact h
 have u:(a++b).length<=20000:=by rw[xY];omega
 generalize a++b=C at m u ⊢;clear h q j hb;go_enter Tryz.func38,Tryz.ntmps38;go_wp2_with fail;refine zbm m ?_;rintro z D ⟨J,rfl,l,o⟩;obtain⟨E,H,rfl⟩:=(zG.slice (k:=4) (enc:=zb) (fun _=>rfl) l).len;have x:=zlP _ C _ (zG.slice (k:=4) (enc:=zb) (fun _=>rfl) l) rfl oa;have t:Below w w D:=i.trans (o.mono (zfa _));clear m i l o;go_wp2_with fail;refine x.mono ?_;rintro z w3 ⟨G,rfl,B,y⟩;go_wp2_with fail;go_ret;exact⟨_,rfl,B.any t.size,zK t y⟩
theorem zrp(v:zJ)(l:List zL)(w:zC)(L:zc 4 zb w v l)(h1:v.oneCell'=true)(aq:l.length<=10000)(X:(zz l []).length<=100000):
 Calls zD 40 #[v] w (vu 154 3 zY (xf (xL (zz l []))) w):=by
 have F:=zlP v l w L h1 oa;have G:=(zah l).1.1;generalize zz l []=a at X F G ⊢;have ar:=zA G;obtain⟨m,E⟩:=aY a.length;rw[E] at X;have q:=zA E;obtain⟨a4,aj,am,ap,au⟩:=yI zd2;clear L aq G h1 E;go_enter Tryz.func40,Tryz.ntmps40;go_upto_region 3 with(go_at_call 73;refine F.mono ?_;rintro B g ⟨a5,rfl,C,x⟩;obtain⟨a6,a9,rfl⟩:=C.len);rw[q.o];have ah:=zA C;have an:=zA x;clear C x F;go_loopw [3,9] (fun ak s wr=>∃(k:Nat) (I:zJ),k<=m/\s=zB k/\I=ak/\zG g 154 3 zY wr I ((a.take k).foldl qk [])/\Below g g wr) (fun _ s _=>m - (intOf s).toNat);case atStart=>exact⟨0,_,xO _,rfl,rfl,zG.nil,zf _ _⟩
 case round=>
  obtain⟨k,I,bf,rfl,rfl,e,c⟩:=hrel;by_cases bm:k<m
  ·have bi:(k:Int)<m:=(by omega);obtain⟨b,u⟩:∃b,a[k]?=some b:=⟨a[k]'(by rw[q.o];omega),xG _⟩;obtain⟨d,ao,n,_,_,i⟩:=zG.elem zaR.len ah.o u;subst ao;have O:=yK (ar.o b (xn u));have y:=zA (show(a.take (k+1)).foldl qk []=qk ((a.take k).foldl qk []) b by rw[zas u,vK];rfl);have ac:=zA (show((a.take k).foldl qk []).length<=1000000 by have:=(zdl (a.take k) []).1;simp only[yn,xB] at this;omega);generalize(a.take k).foldl qk []=h at e y ac;obtain⟨aa,K,rfl⟩:=e.len;obtain⟨t,j⟩:=aY h.length;have bd:d<wr:=zg n c.size;have a3:wr.cell? (d,k*4)=b.c:=(c.cell (p:=(d,k*4)) n).trans (i 0 _ rfl);have ai:wr.cell? (d,k*4+1)=b.a:=(c.cell (p:=(d,k*4+1)) n).trans (i 1 _ rfl);have al:wr.cell? (d,k*4+2)=b.b:=(c.cell (p:=(d,k*4+2)) n).trans (i 2 _ rfl);have c3:wr.cell? (d,k*4+3)=b.n:=(c.cell (p:=(d,k*4+3)) n).trans (i 3 _ rfl);have aw:=zA e;have W:=zA c;have ae:=c.size;have N:=zA j;obtain⟨f,D⟩:=aY b.n;rw[D] at c3 O;have x:1<=f:=oa;have a8:f<=9007199254740991:=oa;have ab:=zA (show qk h b=if f % 2=1 then h++[b.rg] else h by rw[<-D];rfl);rw[j];have z:wr.ownsRow g 154 3 (.slice aa t K) t (h.flatMap zY):=(by have h1:=e;unfold zG at h1;rwa[j] at h1);have bg:t<=1000000:=(by rw[<-j];exact ac.o);clear i e c O D j;obtain⟨R,J⟩:=aY (((f % 2:Int)==1));have ba:((f.tmod 2:Int)==1)=R:=(by rw[Int.tmod_eq_emod_of_nonneg (by omega)];exact J);cases R
   ·have o:¬f % 2=1:=(by simpa using J);have A:=zA (ab.o.trans (zN o));clear o;go_wp2;refine⟨⟨k+1,_,oa,oak,rfl,?_,W.o.alloc ae _⟩,oY⟩;rw[y.o,A.o,<-N.o];exact aw.o.al _
   ·have o:f % 2=1:=(by simpa using J);have A:=zA (ab.o.trans (zP o));clear o;go_wp2_with ((at_builtin;refine jL _ rfl _ _ 92 rfl g.heap.size 154 a4 (.agg #[zH,zH,zH]) 3 24 zbg aj am ap au rfl ol _ _ _ rfl ((z.alloc _).alloc _) (wr.heap.size+1:) 1 1 (zY b.rg) rfl rfl ?d1 ?d2 ?d3 ?d4 ?d5 ?_));case d1=>intro H bb V;have bc:H<3:=(zw.1 V).1;rw[qW,World.cell?,zt,zP oh];simpa[zY,zL.rg] using V
    case d2=>exact zcY _
    case d3=>unfold maxLen;omega
    case d4=>omega
    case d5=>simp;omega
    intro bl a1 af ad _ _;have Z:Below g g a1:=((W.o.alloc ae _).alloc oi _).grown ad oi (fun H B=>(ya z H B).1);have a0:=zA Z;have ay:=zA (zG.snoc (l:=h) (x:=b.rg) N.o af);clear af ad z Z a3 ai al c3;go_wp2;refine⟨⟨k+1,_,oa,oak,rfl,?_,a0.o⟩,oY⟩;rw[y.o,A.o];exact ay.o
  ·obtain rfl:k=m:=(by omega);have Y:a.take k=a:=(by rw[<-q.o];exact qJ);rw[Y] at e;obtain⟨aa,K,rfl⟩:=e.len;have aP:(a.foldl qk []).length<=100000:=(by have:=(zdl a []).1;rw[q.o] at this;simp only[xB] at this;omega);have r:=zeC _ (a.foldl qk []) wr (zG.slice (k:=3) (enc:=zY) (fun _=>rfl) e) oa rfl;have M:=zA (zK an.o c);have T:=zA (show a.foldl qk []=xL a from rfl);clear e c Y aP;generalize a.foldl qk []=ax at r T ⊢;generalize ax.length=be at r ⊢;go_wp2_with (go_at_call 95;refine r.mono ?_;rintro B w3 ⟨bh,rfl,az,av,bj,ag,aZ,a2⟩);go_ret;have aH:az=xf (xL a):=zgl _ _ av (zdj _).1 (fun a7=>by rw[ag,T.o,(zdj _).2]);rw[<-aH];exact⟨_,rfl,aZ.any M.o.size,zK M.o a2⟩
theorem zq7(M H:zJ)(a b:List zL)(w:zC)(E:zc 4 zb w M a)(e:zc 4 zb w H b)(F:a≠b)(ad:a.length<=1000000)(al:b.length<=1000000):
 Calls zD 39 #[M,H] w fun s T=>s= .returned (.bool false)/\Below w w T:=by
 obtain⟨au,aw,rfl,_,O⟩:=E.shape;obtain⟨aq,an,rfl,_,G⟩:=e.shape;obtain⟨g,D⟩:=aY a.length;obtain⟨k,B⟩:=aY b.length;rw[D] at ad ⊢;rw[B] at al ⊢;have N:=zA D;have J:=zA B;have ae:=zA O;have aj:=zA G;have Y:=zA F;clear E e O G F D B;go_enter Tryz.func39,Tryz.ntmps39;by_cases ac:g=k
 ·subst ac;have ai:((g:Int) !=g)=false:=oh;go_wp2;go_loopw [13] (fun z wr=>∃c:Nat,z=zB c/\c<=g/\(∀f,f<c->a[f]?=b[f]?)/\Below w w wr) (fun z _=>g - (intOf z).toNat);case atStart=>exact⟨0,rfl,oa,fun f h=>oa,zf _ _⟩
  case round=>
   obtain⟨c,rfl,ao,I,e⟩:=hrel;have K:=zA I;clear I;by_cases ar:c<g
   ·have av:(c:Int)<g:=(by omega);obtain⟨l,C⟩:∃l,a[c]?=some l:=⟨a[c]'(by rw[N.o];omega),xG _⟩;obtain⟨m,A⟩:∃m,b[c]?=some m:=⟨b[c]'(by rw[J.o];omega),xG _⟩;obtain⟨i,n,rfl,q,r⟩:=ae.o c l C;obtain⟨j,o,rfl,t,u⟩:=aj.o c m A;have v:i<wr:=zg q e.size;have x:j<wr:=zg t e.size;have ag:∀d:zI zX wr,d.val.cell? (i,n+c*4)=l.c:=zI.cell v id ((e.cell (p:=(i,n+c*4)) q).trans (r 0 _ rfl));have af:∀d:zI zX wr,d.val.cell? (i,n+c*4+1)=l.a:=zI.cell v id ((e.cell (p:=(i,n+c*4+1)) q).trans (r 1 _ rfl));have ah:∀d:zI zX wr,d.val.cell? (i,n+c*4+2)=l.b:=zI.cell v id ((e.cell (p:=(i,n+c*4+2)) q).trans (r 2 _ rfl));have am:∀d:zI zX wr,d.val.cell? (i,n+c*4+3)=l.n:=zI.cell v id ((e.cell (p:=(i,n+c*4+3)) q).trans (r 3 _ rfl));have W:∀d:zI zX wr,d.val.cell? (j,o+c*4)=m.c:=zI.cell x id ((e.cell (p:=(j,o+c*4)) t).trans (u 0 _ rfl));have V:∀d:zI zX wr,d.val.cell? (j,o+c*4+1)=m.a:=zI.cell x id ((e.cell (p:=(j,o+c*4+1)) t).trans (u 1 _ rfl));have R:∀d:zI zX wr,d.val.cell? (j,o+c*4+2)=m.b:=zI.cell x id ((e.cell (p:=(j,o+c*4+2)) t).trans (u 2 _ rfl));have aa:∀d:zI zX wr,d.val.cell? (j,o+c*4+3)=m.n:=zI.cell x id ((e.cell (p:=(j,o+c*4+3)) t).trans (u 3 _ rfl));have ab:=zA C;have ak:=zA A;clear r u C A;go_upto_region 6 with fail;refine xU 8 [0,1,2,3,4,5,6,7] [8] zX (aM ?_);refine aR ?_;refine aS ?_;clear ag af ah am W V R aa;have L:=zA (e.drew);have X:=zA (show l=m->(∃y:Nat,Value.int .i64 ((c:Int)+1)=zB y/\y<=g/\(∀f,f<y->a[f]?=b[f]?)/\Below w w wr.drew) from fun s=>⟨c+1,oak,oa,fun f ap=>by
     by_cases Z:f=c
     ·subst Z;rw[ab.o,ak.o,s]
     ·exact K.o f oa,L.o⟩)
    go_wp2;all_goals refine xE ?_
    all_goals go_wp2
    all_goals first
     |exact⟨X.o (by cases l;cases m;simp_all),oY⟩
     |(go_ret;exact⟨rfl,L.o⟩)
   ·obtain rfl:c=g:=(by omega);refine absurd (zbp fun f=> ?_) Y.o;by_cases s:f<c
    ·exact K.o f s
    ·rw[vp (by rw[N.o];omega),vp (by rw[J.o];omega)]
 ·have ai:((g:Int) !=k)=true:=by simp;omega
  go_wp2;go_ret;exact⟨rfl,zf _ _⟩
open Go.Maps Go.Shelf
theorem zaj:Tryz.prog.underlying 43=some (.int .u64):=oe
def zcc(k:Int):Prop:=0<=k/\k<18446744073709551616
theorem zph{k:Int}(h:zcc k):(Lit.int .u64 k).wf=true:=WalkArith.wf_u64 (by unfold zcc at h;omega)
def zgJ(kl:List zF):List (Lit×DataW Unit):=kl.map fun p=>(Lit.int .u64 p.c,DataW.lit (.int .u64 p.k))
def zay(kl:List zF):DataW Unit:= .map ((zgJ kl).foldr DataW.insert [])
theorem zpi{w:World}{r:Nat}{kl:List zF}(c:zq qm w r (kl.map fun a=>(a.c,.int .u64 a.k)))(y:∀a∈kl,zcc a.c/\zcc a.k)(E:kl.length<=maxLen):
 w.ownsMap Tryz.prog 43 (plainElem Tryz.prog 43) r kl.length (zay kl):=by
 obtain⟨h,C,q,l,i⟩:=c;rw[jk] at l;have p:h.toList.length=kl.length:=by have:=congrArg List.length l;simpa using this
 have x:∀(b:MapEntry) (a:zF),(b.key,b.val)=(qm a.c,Value.int .u64 a.k)->zcc a.c/\zcc a.k->WideElems.rd Tryz.prog 43 (plainElem (H:=Unit) Tryz.prog 43) b=some (.int .u64 a.c,.lit (.int .u64 a.k)):=by
  intro b a d i;have B:b.key=qm a.c:=congrArg Prod.fst d;have j:b.val= .int .u64 a.k:=congrArg Prod.snd d;unfold WideElems.rd;have:keyOf Tryz.prog 43 b.key=some (.int .u64 a.c):=by rw[B];exact keyOf_int_mk zaj (zph i.1)
  rw[this,j,plainElem_int zaj (zph i.2)];rfl
 have t:∀(f:List MapEntry) (kl:List zF),f.map (fun o=>(o.key,o.val))=kl.map (fun a=>(qm a.c,Value.int .u64 a.k))->(∀a∈kl,zcc a.c/\zcc a.k)->
  zgJ kl=f.map (WideElems.rg Tryz.prog 43 (plainElem (H:=Unit) Tryz.prog 43))/\∀b∈f,∃m,WideElems.rd Tryz.prog 43 (plainElem (H:=Unit) Tryz.prog 43) b=some m:=by
  intro f;induction f with
  |nil=>intro g c _;cases g with
   |nil=>exact⟨rfl,fun b d=>by cases d⟩
   |cons=>simp at c
  |cons b f z=>
   intro g c n;cases g with
   |nil=>simp at c
   |cons e g=>
    rw[xd,xd,zcx] at c;obtain⟨j,v⟩:=z g c.2 fun e A=>n e (by simp[A]);have d:=x b e c.1 (n e oh);refine⟨?_,fun m k=> ?_⟩
    ·unfold zgJ at j ⊢;rw[xd,xd,<-j];have s:WideElems.rg Tryz.prog 43 (plainElem (H:=Unit) Tryz.prog 43) b=(Lit.int .u64 e.c,DataW.lit (.int .u64 e.k)):=(by rw[WideElems.rg,d];rfl);rw[s]
    ·rcases xK.1 k with rfl|k
     ·exact⟨_,d⟩
     ·exact v m k
 obtain⟨u,D⟩:=t h.toList kl l y;refine⟨h,C,q,⟨?_,i,?_⟩,?_,?_⟩
 ·have:h.size=kl.length:=by simpa using p
  omega
 ·exact D
 ·have:h.size=kl.length:=by simpa using p
  omega
 ·unfold zay;rw[u]
end Go.Proofs.YtimlgcodecgecaaGreatDoor
