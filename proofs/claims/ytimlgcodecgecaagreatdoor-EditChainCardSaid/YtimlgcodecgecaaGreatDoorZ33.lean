/- Walk: does of an embed, in any document. -/
import Derived.Test.YtimlgcodecgecaaGreatDoorZ32
import Derived.Test.YtimlgcodecgecaaGreatDoorZ28
set_option maxRecDepth 100000
set_option maxHeartbeats 20000000
set_option linter.all false
namespace Go.Proofs.YtimlgcodecgecaaGreatDoor
open Go.RowKit Go.Lib
def zj(i l r:zF)(v:zr):zQ:=⟨i,2,0,l,r,⟨#[]⟩,v,⟨#[]⟩,zT,zT,false,zT,false⟩
theorem ecs{W:zC}{b:Nat}{i l r:zF}{v:zr}(h:zR W b (zj i l r v)):
 W.cell? b=i.c/\W.cell? (b,1)=i.k/\W.cell? (b,2)=(zB 2)/\W.cell? (b,3)=zH/\W.cell? (b,4)=l.c/\W.cell? (b,5)=l.k/\W.cell? (b,6)=r.c/\W.cell? (b,7)=r.k/\W.cell? (b,8)=some (.string ⟨#[]⟩)/\W.cell? (b,9)=(zB v.kind)/\W.cell? (b,10)=(zB v.n)/\W.cell? (b,11)=some (.float .f64 v.f)/\W.cell? (b,12)=some (.string v.s)/\W.cell? (b,13)=some (.string ⟨#[]⟩)/\W.cell? (b,14)=zH/\W.cell? (b,15)=zH/\W.cell? (b,16)=zH/\W.cell? (b,17)=zH/\W.cell? (b,18)=some (.bool false)/\W.cell? (b,19)=zH/\W.cell? (b,20)=zH/\W.cell? (b,21)=some (.bool false):=
 ⟨h.cells 0 _ rfl,h.cells 1 _ rfl,h.cells 2 _ rfl,h.cells 3 _ rfl,h.cells 4 _ rfl,h.cells 5 _ rfl,h.cells 6 _ rfl,h.cells 7 _ rfl,h.cells 8 _ rfl,h.cells 9 _ rfl,h.cells 10 _ rfl,h.cells 11 _ rfl,h.cells 12 _ rfl,h.cells 13 _ rfl,h.cells 14 _ rfl,h.cells 15 _ rfl,h.cells 16 _ rfl,h.cells 17 _ rfl,h.cells 18 _ rfl,h.cells 19 _ rfl,h.cells 20 _ rfl,h.cells 21 _ rfl⟩
theorem dsE {p:Prop}(h:p:=by
 have hto:=HMde;clear hto;refine xU 5 [0,1,2,3,4] [5,6] zX (aM ?_);refine aR ?_;have hb3:Below W2.heap.size W2 W2.drew:=(zf _ _).drew;have hB3:Below w.heap.size w W2.drew:=zK hB2 hb3;obtain⟨w3,hw3⟩:=aY W2.drew;try simp only[hw3] at hb3 hB3 ⊢
 clear hw3;have hrn:=hrun w3 (HS.o.below hB3);refine aS ?_;go_wp2_with (go_at_call 222;refine hrn.mono ?_;rintro e w4 ⟨rfl,hS4,hm4⟩);refine aS ?_;go_wp2;refine xE ?_;have hFz:∀b,w.heap.size<=b->¬F b:=fun b hb hf=>by have:=(HFN.o b hf).2.2.2;omega
 have hbx4:zR w4 (w.heap.size+1) O:=(hm4.block _ (by have:=hb3.size;omega) (hFz _ (by omega))).trans (hbx2.below hb3 hbl);have hp4:w4.cell? w=(n+11:):=(xA (w:=w3) (hm4.block w.heap.size (by have:=hb3.size;omega) (hFz _ (zU _)))).trans ((hb3.cell (p:=w) (by show w.heap.size<_;omega)).trans hp2);have hM4:Mods F w w4:=(Mods.of_below hB3).trans hm4;have hd4:=hd.keep fun b g=>hM4.block b (by omega) (fun hf=>by have:=HFN.o b hf;omega);have hu4:=HU.o.blk (hM4.block (n+7) (by omega) (fun hf=>(HFN.o _ hf).2.1 rfl));have hz4:w.heap.size+1<w4.heap.size:=hbx4.lt;have hz34:w.heap.size<=w3.heap.size:=hB3.size;have HS4:=zA hS4;clear p0 d6 z0 z1 z2 z3 z4 z5 hrn hm4 hb3 hT2 hbl hd2 hX hp2 hbx2 hB2 hZ hlt1 hrun hS4 hB3;have hv:=fun t:zI zX w4=>hd4.keep fun b g=>t.h.block b (by have:=hd4.lt;omega) id;have s0:=aV hp4;have s7:∀s:zI zX w4,s.val.cell? (n+11,7)=some (.map (some (n+7))):=zI.cell hd4.lt id (hd4.cell 7 _ rfl);have i0:∀s:zI zX w4,s.val.cell? (w.heap.size+1:)=i.c:=zI.cell hz4 id (hbx4.cells 0 _ (by rw[<-HO.o];rfl));have i1:∀s:zI zX w4,s.val.cell? (w.heap.size+1,1)=i.k:=zI.cell hz4 id (hbx4.cells 1 _ (by rw[<-HO.o];rfl));have v0:∀s:zI zX w4,s.val.cell? (w.heap.size+1,9)=(zB v.kind):=zI.cell hz4 id (hbx4.cells 9 _ (by rw[<-HO.o];rfl));have v1:∀s:zI zX w4,s.val.cell? (w.heap.size+1,10)=(zB v.n):=zI.cell hz4 id (hbx4.cells 10 _ (by rw[<-HO.o];rfl));have v2:∀s:zI zX w4,s.val.cell? (w.heap.size+1,11)=some (.float .f64 v.f):=zI.cell hz4 id (hbx4.cells 11 _ (by rw[<-HO.o];rfl));have v3:∀s:zI zX w4,s.val.cell? (w.heap.size+1,12)=some (.string v.s):=zI.cell hz4 id (hbx4.cells 12 _ (by rw[<-HO.o];rfl));clear hv;go_upto_region 16 with fail;refine xU 9 [0,1,2,3,4,5,6,7,8] [9] zX (aM ?_);refine aR ?_;refine aS ?_;refine zmJ vb (T:=109) (E:=53) (by kernel_rfl) rfl _ _ _ rfl (k:=i) (v:=jT ⟨⟨#[]⟩,true,v⟩) rfl rfl rfl (hu4.blk (w':=w4.drew) rfl) ?_;intro ob hkey;go_wp2;refine xE ?_;have hoth:∀b,b≠n+7->(xF w4.drew (n+7) ob).heap[b]?=w4.heap[b]?:=fun b hb=>qV (w:=w4.drew) hb;have hsz7:(xF w4.drew (n+7) ob).heap.size=w4.heap.size:=vH _ _ _;have hm7:Mods (fun b=>b=n+7) w4 (xF w4.drew (n+7) ob):=⟨rfl,rfl,rfl,by rw[hsz7];exact zU _,fun b hb hs=>hoth b hs⟩;have hd7:=hd4.keep (w':=xF w4.drew (n+7) ob) fun b g=>hoth b (by omega);generalize xF w4.drew (n+7) ob=W7 at hkey hoth hsz7 hm7 hd7 ⊢;clear s0 s7 i0 i1 v0 v1 v2 v3 hoth;go_wp2;go_ret;refine⟨rfl,hd7,?_,hkey,(hM4.mono fun b g=> .inl g).trans (hm7.mono fun b g=> .inr g)⟩;have h9:=HS4.o.mods hm7 (fun b hf hl=>by
  rcases hf with hf|hf
  ·exact(HFN.o b hf).2.1
  ·omega)
 obtain⟨L,D,g1,g2,g3,g4⟩:=h9;exact⟨L,D,g1,g2,g3,fun b hb=>(g4 b hb).imp id fun h=>by omega⟩):p:=h
theorem zq3 (n base:Nat) (F:Nat->Prop) (S:zE) (kl:List (Int×Value)) (wl:List (zF×Value)) (g:yN) (st:Int) (ul:List (zF×Value)) (i l r:zF) (v:zr) (w:zC) (hd:xS n w kl wl g st) (hs:qA n base F w S) (d:zq xV w (n+7) ul) (hT:zv w)
 (f:∀b,F b->n+4<=b/\b≠n+7/\b≠n+11/\b<w.heap.size) (o:1<=i.k/\i.k+1<=9007199254740992)
 (e:S.may ⟨i,l,r⟩=true) (c:∀j:Nat,j<1->(⟨i.c,i.k+j⟩:zF).rightB=true/\S.find ⟨i.c,i.k+j⟩=none) (k:S.l.length+1<=50000):
 Calls zD 174 #[(n+11:),zS (zj i l r v)] w (ze5 n base F kl wl g st (S.insN ⟨i,l,r⟩ 1) (xT ul i (jT ⟨⟨#[]⟩,true,v⟩)) w):=by
 have m:=hd.lt;have HU:=zA d;have HS:=zA hs;have HFN:=zA f;have hrun:=fun w h=>zos n base F S ⟨i,l,r⟩ 1 w h e (zU _) (by show((1:Nat):Int)<=9007199254740991 - i.k+1;omega) c k;obtain⟨O,a⟩:=aY (zj i l r v);rw[a];have HO:=zA a;clear a hs d e c f;change Calls zD 174 #[(n+11:),.agg #[O.id.c,O.id.k,zB O.kind,O.stamp,O.left.c,O.left.k,O.right.c,O.right.k,.string O.text,zB O.v.kind,zB O.v.n,.float .f64 O.v.f,.string O.v.s,.string O.key,O.parent.c,O.parent.k,O.frm.c,O.frm.k,.bool O.frmA,O.til.c,O.til.k,.bool O.tilA]] w _;have HK2:=zA (show(ze O)[2]?=(zB 2) by rw[<-HO.o];rfl);have HMde:=trivial;exact dsA
open Go.Shelf
theorem zoH(i:zJ)(l:List zO)(w:zC)(o:zc 3 zY w i l)(C:l.length<=100000):
 Calls zD 169 #[i] w (qH fun d b=>zG w 154 3 zY b d l/\Below w w b):=by
 obtain⟨v,r,A,q,t⟩:=yI zd2;rcases o with⟨rfl,rfl⟩|⟨x,c,z,rfl,D,f,j⟩
 ·refine(AnyE.slices_Clone_nil Tryz.cloneRng 0 0 w).mono ?_;rintro p b ⟨rfl,rfl⟩;exact⟨_,rfl,zG.nil,zf _ _⟩
 ·refine(AnyE.slices_Clone Tryz.cloneRng v (.agg #[zH,zH,zH]) 3 24 r A q t rfl ol (fun w=>oe) x c l.length z (l.flatMap zY) w (qy (enc:=zY) (k:=3) (fun _=>rfl) l) oP oa ?_ ?_).mono ?_
  ·intro a e g;have B:a<l.length*3:=(by have:=(zw.1 g).1;rwa[qy (enc:=zY) (k:=3) (fun _=>rfl)] at this);have h:=jo (enc:=zY) (k:=3) (fun _=>rfl) l (a / 3) (a % 3) l[a / 3] (by simp[show a / 3<l.length by omega]) (zaH _ oa);rw[show a / 3*3+a % 3=a by omega,g] at h;have m:=j (a / 3) l[a / 3] (by simp[show a / 3<l.length by omega]) (a % 3) e h.symm;rwa[show c+a / 3*3+a % 3=c+a by omega] at m
  ·intro e n;obtain⟨u,_,y⟩:=zdV.1 n;exact zcY u e y
  ·rintro p b ⟨d,rfl,s,_,f⟩;exact⟨d,rfl,s,f⟩
theorem zus {n:Nat}{P:Program}{b:Array Oper}{d:List Oper}{o:Oper}{a:Act}{w:zC}{Q:Exit->Act->World->Prop}(T:TypeId){x:Operand}(c:Addr){v:zJ}(g:o.op= .load T x) (j:a.eval x= .pointer (some c))
 (i:(loadVar T c).run P w= .ok v w) (e:Region.wanted o (yielded b a.tmps)=true) (f:wpListIn Fence.wide n P b Q d (a.put o.dst v) w):wpListIn Fence.wide n P b Q (o::d) a w:=
 wpListIn_step fun k h=>by rw[zP e];refine⟨fun _ _=>trivial,?_⟩;rw[show Fence.wide.round=none from rfl,Oper.semAt_none];unfold execOp;simp only[g,j,Instr.loadAt,Instr.sureAddr,yU,qI,yY,i];exact h _ _ f
section
section
variable {P:Program}{K T E:TypeId}{κ:Type} [DecidableEq κ] {enc:κ->Value}
theorem zut(Q:zci P K enc)(l:P.underlying T=some (.map K E)){w:zC}{r:Nat}{x:κ}{v:zJ}(i:zq enc w r [(x,v)]):
 ∃d,(∀c,(Builtin.delete_ #[T,K] c #[.map (some r),enc x]).run P w= .ok (.tuple #[]) (xF w r d))/\zq enc (xF w r d) r []:=by
 obtain⟨a,j,b,f,k⟩:=i;have g:r<w:=aL b;have e:=Q.find w x a.toList [(x,v)] f;have h:a.size=1:=by have:=congrArg List.length f;simpa using this
 simp only[qh,vJ] at e;refine⟨.map (a.eraseIdxIfInBounds 0) j,fun c=> ?_,⟨_,_,zfE g,?_,MapKept.stamped_erase k 0⟩⟩
 ·simp[Builtin.delete_,jM l,zcJ b,Q.check,e,zhY _ b,Result.andThen,xF]
 ·have:(a.eraseIdxIfInBounds 0).toList= []:=by unfold Array.eraseIdxIfInBounds;rw[dif_pos oa];apply zbo;simp[h]
  rw[this];rfl
theorem zuu {w:zC}{b:Array Oper}{c:List Oper}{o:Oper}{a:Act}{Q:Exit->Act->World->Prop}(i:o.guard=none) (x d:Operand) (t k:TypeId)
 (h:o.op= .call {callee:= .builtin .delete,args:=#[x,d],argTypes:=#[t,k]}) (v u:zJ) (m:a.eval x=v) (g:a.eval d=u){z:zJ}{w':zC}(l:∀e,(Builtin.delete_ #[t,k] e #[v,u]).run P w= .ok z w') (f:wpList P b Q c (a.put o.dst z) w'):wpList P b Q (o::c) a w:=by
 refine zdW i fun K j=> ?_;unfold Oper.wp execOp;simp only[h,resolve,invoke,builtin,yU,qI,yY,zg8,xd,yl,m,g,l];exact j _ _ f
end
theorem zoI(a:zJ)(w:zC)(d:a.oneCell'=true):Calls zD 92 #[a] w fun c b=>c= .returned (.func (.func 168) #[] #[w])/\b=w.alloc (.cells #[a] 24):=by go_enter Tryz.func92,Tryz.ntmps92;go_wp2;go_ret;exact⟨rfl,rfl⟩
end
structure RdG(n N:Nat)(m0:Int)(o:zQ)(Bp base:Nat)(kl:List (Int×Value))(s:yN)(st:Int)(W:zC):Prop where
 d:xS n W kl [(o.id,zS o)] s st
 h:zG base 154 3 zY W s.h [⟨o.id.c,m0+1,m0+1+N⟩]
 p:W.cell? Bp=(n+11:)
 lt:Bp<W
structure RdH(n N:Nat)(m0:Int)(o:zQ)(Bp:Nat)(W:zC):Prop where
 d:∃kl s st,xS n W kl [] s st/\knV kl o.id.c (m0+N)
 p:W.cell? Bp=(n+11:)
 lt:Bp<W
theorem zux (n N:Nat) (a:Int) (o:zQ) (aH base:Nat) (kl:List (Int×Value)) (bd:yN) (st:Int) (m:Nat) (bY:3<=m) (L:Nat) (G:Nat->Prop) (i:World->Prop) (g:List zQ->World->Prop) (bK:o.own) (aw:zbX o (a+1) N) (bq:knV kl o.id.c a)
 (a7:∀W,g [] W->RdG n N a o aH base kl bd st W) (bF:∀W,g [o] W->RdH n N a o aH W)
 (I:∀y W d,g y W->Below W W d->g y d) (M:∀W d,i W->Below W W d->i d) (W:zC) (a9:∀k,G k->k<W.heap.size)
 (bo:∀y W,g y W->i W->y.length<1->YieldAt Fence.wide (m - 1) zD L #[zS o] W fun e d=>e= .returned (.bool true)/\g (y++[o]) d/\i d/\Mods G W d)
 (au:g [] W) (a4:i W):
 CallsIn Fence.wide m zD 168 #[.func (.yield L) #[] #[],aH] W fun e d=>(∃v,e= .returned v)/\∃bi,bi= [o]/\g bi d/\i d:=by
 obtain⟨c,l,t,F⟩:=a7 W au;have b7:=aw.kb;have b6:IntKind.u64.wrap (a+1)=a+1:=og;obtain⟨bO,b4,hv,b5,b2⟩:=bd;obtain⟨a6,bf,rfl⟩:∃p Y,hv= .slice p 1 Y:=ys l;replace l:zG base 154 3 zY W (.slice a6 1 bf) [⟨o.id.c,a+1,a+1+N⟩]:=l;have aP:=(yi (n:=m - 1)).2 (zoH _ _ W (zG.slice (k:=3) (enc:=zY) (fun _=>rfl) l) oh);have bG:W.cell? (n+11,5)=some (.slice a6 1 bf):=c.cell 5 _ rfl;have bW:Fence.wide.fn 169:=trivial;have b3:1<=m:=oa;refine zaL zfl rfl trivial ?_ rfl;simp only[Tryz.ntmps168,yw,z7,xB,Nat.reduceAdd,Nat.reduceSub,qK,qL,qM,qN,xu,yD];gi_wp2_with (gi_at_call 169;refine aP.mono ?_;rintro e bM ⟨bL,rfl,ab,X⟩;obtain⟨pc,bQ,rfl⟩:∃p Y,bL= .slice p 1 Y:=ys ab);have a0:=zG.slice (k:=3) (enc:=zY) (fun _=>rfl) ab;obtain⟨av,rfl⟩:∃am,pc=some ⟨am,0,none⟩:=by
  rcases ab.2 with⟨e,_⟩|⟨a1,aq,bX,e,_⟩
  ·cases e
  ·cases e;exact⟨_,rfl⟩
 have a3:=I _ _ _ au X;have a2:=M _ _ a4 X;have aZ:=X.size;clear aP bG c l t ab au a4 F;gi_loopw [13] (fun z wx=>(z=zB 0/\wx=bM)\/(z=zB 1/\g [o] wx/\i wx)) (fun z _=>1 - (intOf z).toNat);case atStart=>exact .inl ⟨rfl,rfl⟩
 case round=>
  rcases hrel with⟨rfl,rfl⟩|⟨rfl,O,Z⟩
  ·obtain⟨bt,bw,bm,bj,a5⟩:=zc.cells3 a0 (k:=0) (x:=⟨o.id.c,a+1,a+1+N⟩) rfl;have bH:wr.cell? av=o.id.c:=(by simpa using bm);have bs:wr.cell? (av,1)=(a+1:):=(by simpa using bj);have bv:wr.cell? (av,2)=(a+1+N:):=(by simpa using a5);clear bt bm bj a5;gi_wp2;have A:yF (wr.alloc (.cells #[o.id.c,(a+1:),(a+1+N:)] 154)) wr.heap.size ⟨o.id.c,a+1,a+1+N⟩:=yF.new wr ⟨o.id.c,a+1,a+1+N⟩;have V:Below wr wr (wr.alloc (.cells #[o.id.c,(a+1:),(a+1+N:)] 154)):=aA;have ac:=I _ _ _ a3 V;have ai:=M _ _ a2 V;have bc:¬G wr:=fun h=>(by have:=a9 _ h;omega);have bp:W.heap.size<=(wr.alloc (.cells #[o.id.c,(a+1:),(a+1+N:)] 154)).heap.size:=zk aZ V.size;generalize wr.heap.size=az at A bc ⊢;generalize wr.alloc (.cells #[o.id.c,(a+1:),(a+1+N:)] 154)=ae at A ac ai bp ⊢;clear bH bs bv bw a3 a2 V X a0 aZ;gi_loopw [] (fun wx=>wx=ae\/(g [o] wx/\i wx/\yF wx az ⟨o.id.c,a+1,a+1+N⟩/\ae.heap.size<wx.heap.size)) (fun wx=>if wx.heap.size<=ae.heap.size then 1 else 0);case atStart=>exact .inl rfl
   case round=>
    rcases hrel with rfl|⟨O,Z,bh,bV⟩
    ·obtain⟨c,l,t,F⟩:=a7 _ ac;obtain⟨D,af,ay⟩:=A.cells;have R:=A.lt;have ah:=c.lt;have K:wr.cell? (n+11,1)=some (.map (some (n+2))):=c.cell 1 _ rfl;have H:wr.cell? (n+11,4)=some (.map (some (n+3))):=c.cell 4 _ rfl;have al:=aV t;have ax:=aV K;have ap:=aV H;have ao:=aV D;have ar:∀b:zI zX wr,(Instr.lookup 106 (.map (some (n+2))) o.id.c false).run zD b.val= .ok a b.val:=fun b=>(by have:=(c.keep fun am a1=>b.h.block _ oa id).knl o.id.c;rwa[show(xD kl o.id.c).getD zH=a from bq] at this);have bl:(⟨o.id.c,a+1⟩:zF)=o.id:=by cases hi:o.id with|mk Y k=>have:=aw.ik;rw[hi] at this;dsimp only at this;rw[this]
     have aj:∀b:zI zX wr,(Instr.lookup 107 (.map (some (n+3))) (.agg #[o.id.c,(a+1:)]) true).run zD b.val= .ok (.tuple #[zS o,.bool true]) b.val:=fun b=>(by have:=zbB vb (T:=107) (E:=66) oe (z:=zS zi) (fun ad=>oe) (c.wt.blk (b.h.block _ oa id)) ⟨o.id.c,a+1⟩ true;rw[bl] at this;simp[xD,xV] at this;rw[aw.ik] at this;exact this);clear bl K H D af ay;gi_wp2;refine vj.2 ?_;refine xU 21 [0,1,2,3,4,5,6,7,8,9,10,11,12,13,14,15,16,17,18] [19,20,21] zX (aM ?_);refine aR ?_;refine aS ?_;go_wp2;have r:Mods zX wr (wr.alloc (.cells (ze zi).toArray 66)).drew:=((Mods.refl _ wr).alloc _).drew;have s:Below wr wr (wr.alloc (.cells (ze zi).toArray 66)).drew:=((zf _ wr).alloc (zU _) _).drew;have j:zR (wr.alloc (.cells (ze zi).toArray 66)).drew wr zi:=zR.drew (zR.new wr zi);refine⟨zI.to r,?_⟩;change jI _ _ _ _ _ _ _ (wr.alloc (.cells (ze zi).toArray 66)).drew;obtain⟨q,J⟩:=aY ((wr.alloc (.cells (ze zi).toArray 66)).drew);try simp only[J] at r s j ⊢
     clear J;refine aS ?_;go_wp2_with (refine yx (T:=66) (v:=zS o) rfl rfl rfl rfl (zR.store j o) ?_);have f:Below wr wr (xx q wr o):=yo s (zU _) o;have C:zR (xx q wr o) wr o:=j.put o;refine⟨zI.to (Mods.of_below f),?_⟩;refine aS ?_;go_wp2;refine xE ?_;have u:=I _ _ _ ac f;have B:=M _ _ ai f;have aa:=A.below f R;have br:wr.heap.size<(xx q wr o).heap.size:=C.lt;have b0:¬G wr:=fun h=>(by have:=a9 _ h;omega);clear al ax ap ao ar aj r s j f c l t F R ah ac ai;generalize xx q wr o=bJ at u B aa C br ⊢;unfold Exit.then;dsimp only;gi_step;gi_step;gi_step;have bz:∀(ak:Fn) (first aq:Array Value) (ad:zC),(Instr.makeFunc ak first aq).run zD ad= .ok (.func ak first aq) ad:=fun _ _ _ _=>rfl;refine vj.2 ?_;go_wp2_with (first|(refine zdh 66 ⟨wr.heap.size,0,none⟩ rfl rfl C.load (by rfl) ?_)|(go_at_call 170;refine(zs0 o bK _).mono ?_;rintro e be ⟨bx,rfl,w⟩)|(go_at_call 164;refine(zsx _ bx be _ _ rfl).mono ?_;rintro e w6 ⟨rfl,rfl⟩));have bg:=I _ _ _ u w;have bb:=M _ _ B w;have bn:=aa.below w aa.lt;have a8:=C.below w C.lt;have bS:=w.size;clear u B aa C w bz;gi_wp2_with (first|(refine zus 66 ⟨wr.heap.size,0,none⟩ rfl rfl a8.load (by rfl) ?_)|(obtain⟨ak,bP,bU,b1,bu,ba⟩:=bo _ be bg bb (zde);clear bo));have ag:=bn;clear bn;refine ba.mono ?_;rintro e bI ⟨rfl,bE,bD,an⟩;have bZ:=an.size;have bC:yF bI az ⟨o.id.c,a+1,a+1+N⟩:=(an.block az (yF.lt ag) bc).trans ag;clear ba an bg bb a8 ag bu A;gi_wp2;go_roundw;case rel=>exact .inr ⟨bE,bD,bC,oa⟩
     case measure=>rw[zN oa,zP (zU _)];omega
    ·obtain⟨⟨bB,bR,bN,c,bA⟩,t,F⟩:=bF _ O;have bT:IntKind.u64.wrap (a+N+1)=a+N+1:=og;obtain⟨D,af,ay⟩:=bh.cells;have R:=bh.lt;have ah:=c.lt;have K:wr.cell? (n+11,1)=some (.map (some (n+2))):=c.cell 1 _ rfl;have H:wr.cell? (n+11,4)=some (.map (some (n+3))):=c.cell 4 _ rfl;have al:=aV t;have ax:=aV K;have ap:=aV H;have ao:=aV D;have ar:∀b:zI zX wr,(Instr.lookup 106 (.map (some (n+2))) o.id.c false).run zD b.val= .ok (a+N:) b.val:=fun b=>(by have:=(c.keep fun am a1=>b.h.block _ oa id).knl o.id.c;rwa[show(xD bB o.id.c).getD zH=(a+N:) from bA] at this);have aj:∀b:zI zX wr,(Instr.lookup 107 (.map (some (n+3))) (.agg #[o.id.c,(a+N+1:)]) true).run zD b.val= .ok (.tuple #[zS zi,.bool false]) b.val:=fun b=>(by have:=zbB vb (T:=107) (E:=66) oe (z:=zS zi) (fun ad=>oe) (c.wt.blk (b.h.block _ oa id)) ⟨o.id.c,a+N+1⟩ true;simp[xD,xV] at this;exact this);clear K H D af ay;gi_wp2;refine vj.2 ?_;refine xU 21 [0,1,2,3,4,5,6,7,8,9,10,11,12,13,14,15,16,17,18] [19,20,21] zX (aM ?_);refine aR ?_;refine aS ?_;go_wp2;have r:Mods zX wr (wr.alloc (.cells (ze zi).toArray 66)).drew:=((Mods.refl _ wr).alloc _).drew;have s:Below wr wr (wr.alloc (.cells (ze zi).toArray 66)).drew:=((zf _ wr).alloc (zU _) _).drew;have j:zR (wr.alloc (.cells (ze zi).toArray 66)).drew wr zi:=zR.drew (zR.new wr zi);refine⟨zI.to r,?_⟩;change jI _ _ _ _ _ _ _ (wr.alloc (.cells (ze zi).toArray 66)).drew;obtain⟨q,J⟩:=aY ((wr.alloc (.cells (ze zi).toArray 66)).drew);try simp only[J] at r s j ⊢
     clear J;refine aS ?_;go_wp2_with (refine yx (T:=66) (v:=zS zi) rfl rfl rfl rfl (zR.store j zi) ?_);have f:Below wr wr (xx q wr zi):=yo s (zU _) zi;refine⟨zI.to (Mods.of_below f),?_⟩;refine aS ?_;go_wp2;refine xE ?_;have u:=I _ _ _ O f;have B:=M _ _ Z f;clear al ax ap ao ar aj r s j f c t F R ah O Z;generalize xx q wr zi=bJ at u B ⊢;unfold Exit.then;dsimp only;gi_step;gi_step;gi_step;refine vj.2 ?_;go_wp2;gi_wp2;go_roundw;case rel=>exact .inr ⟨rfl,u,B⟩
     case measure=>simp[intOf]
  ·gi_wp2;go_end0;exact⟨⟨_,rfl⟩,_,rfl,O,Z⟩
theorem zoJ (n h:Nat) (kl:List (Int×Value)) (wl:List (zF×Value)) (c:yN) (st:Int) (m:Nat) (x:3<=m) (L:Nat) (W:zC) (t:xS n W kl wl c st) (a:zc 3 zY W c.h [])
 (v:W.cell? h=(n+11:)):
 CallsIn Fence.wide m zD 168 #[.func (.yield L) #[] #[],h] W fun g s=>(∃o,g= .returned o)/\Below W W s:=by
 obtain⟨w,y,q,C,A⟩:=c;obtain⟨j,i,rfl⟩:∃d b,q= .slice d 0 b:=zc.len a;replace a:zc 3 zY W (.slice j 0 i) []:=a;have f:=(yi (n:=m - 1)).2 (zoH _ _ W a oh);have p:W.cell? (n+11,5)=some (.slice j 0 i):=t.cell 5 _ rfl;have B:Fence.wide.fn 169:=trivial;have D:1<=m:=oa;refine zaL zfl rfl trivial ?_ rfl;simp only[Tryz.ntmps168,yw,z7,xB,Nat.reduceAdd,Nat.reduceSub,qK,qL,qM,qN,xu,yD];gi_wp2_with (gi_at_call 169;refine f.mono ?_;rintro g u ⟨r,rfl,e,k⟩;obtain⟨pc,z,rfl⟩:∃d b,r= .slice d 0 b:=ys e);clear f p e a v;gi_loopw [13] (fun l wx=>l=zB 0/\wx=u) (fun _ _=>0);case atStart=>exact⟨rfl,rfl⟩
 case round=>obtain⟨rfl,rfl⟩:=hrel;gi_wp2;go_end0;exact⟨⟨_,rfl⟩,k⟩
theorem wgn{n:Nat}{D:Nat->Prop}(d:∀c,D c->n<=c){b:Nat}(a:b=n+2\/b=n+11\/D b):n<=b:=by
 rcases a with a|a|a
 ·omega
 ·omega
 ·exact d b a
def zsP(n:Nat)(kl:List (Int×Value))(wl:List (zF×Value))(s:yN)(st:Int)(D:Nat->Prop)(Q:World->Prop)(w:zC)(e:Ending)(w':zC):Prop:=
 e=jB/\xS n w' kl wl s st/\Q w'/\Mods (fun b=>b=n+2\/b=n+11\/D b) w w'
theorem zsQ (n N:Nat) (b:Int) (o:zQ) (kl:List (Int×Value)) (wl:List (zF×Value)) (s:yN) (st e:Int) (D:Nat->Prop) (P u Q:World->Prop) (w:zC) (ao:xS n w kl wl s st) (y:zbX o (b+1) N) (ab:zv w) (hF:j7 fun a=>n<=a)
 (aq:∀k,D k->n<=k/\k<w.heap.size/\k≠n+2/\k≠n+3/\k≠n+11) (bb:max st o.stamp=e) (ai:P w)
 (au:∀w c,Below w.heap.size w c->P w->P c)
 (ah:∀w,P w->zv w->Calls zD 173 #[(n+1:),zS o] w fun r c=>(∃v,r= .returned v)/\u c/\Mods D w c)
 (V:∀w c,Mods (fun a=>a=n+2\/a=n+11) w c->u w->u c)
 (a8:∀w,xS n w (xT kl o.id.c (b+N:)) wl s e->u w->zv w->Calls zD 174 #[(n+11:),zS o] w fun r c=>r= .returned (.bool true)/\xS n c (xT kl o.id.c (b+N:)) wl s e/\Q c/\Mods D w c):
 Calls zD 93 #[(n+11:),zS o] w (zsP n (xT kl o.id.c (b+N:)) wl s e D Q w):=by
 have bl:=ao.lt;have bo:=y.kb;obtain⟨L,ac,hv,ad,aa⟩:=s;have a5:=zA y;have ax:=y.range;rw[y.rng] at ax;have F:=zA aq;have bm:=zA y.ik;clear y aq;unfold zS;go_enter Tryz.func93,Tryz.ntmps93;go_upto_region 1 with fail;refine vr o fun m C J=> ?_;have K:=ao.keep fun a g=>C.block a oa;have j:=K.lt;have z:=J.lt;have a3:∀s:zI zX m,s.val.cell? (n+11:)=(n+1:):=zI.cell j id (K.cell 0 _ rfl);have l1:∀c,(∃s:zI zX m,c=s.val)->(loadVar 66 w).run zD c= .ok (zS o) c:=by rintro _ ⟨s,rfl⟩;exact zR.load ((s.h.block _ z id).trans J)
 refine xU 5 [0,1,2,3,4] [5] zX (aM ?_);refine aR ?_;refine aS ?_;have ay:=ah m.drew (au w m.drew (zK C (zf _ _).drew) ai) (ab.below (zK C (zf _ _).drew));go_wp2_with (go_at_call 173;refine ay.mono ?_;rintro r l ⟨⟨bj,rfl⟩,aj,H⟩);refine xE ?_;have ak:j7 fun a=>a=n+2\/a=n+11\/D a:=⟨fun g=>hF.1 (wgn (fun k h=>(F.o k h).1) g),fun g=>hF.2 (wgn (fun k h=>(F.o k h).1) g)⟩;have Y:Mods (fun a=>a=n+2\/a=n+11\/D a) w l:=((Mods.of_below C).drew.trans (H.mono fun a g=> .inr (.inr g)));have ae:xS n l kl wl ⟨L,ac,hv,ad,aa⟩ st:=K.keep fun a g=>H.block a (by show a<m;omega) (fun W=>by have:=F.o a W;omega);have G:zR l w o:=(H.block _ z (fun W=>by have:=F.o _ W;omega)).trans J;clear ay a3 l1 K j z J H C ah au ai m;have al:=ab.mods Y ak;have an:=ax l al;go_upto_region 3 with(first|(refine xv (T:=66) (v:=zS o) rfl rfl rfl G.load ?_)|(go_at_call 78;refine an.mono ?_;rintro r w3 ⟨rfl,I⟩));have t:yF (w3.alloc (.cells #[o.id.c,(b+1:),(b+1+N:)] 154)) w3.heap.size ⟨o.id.c,b+1,b+1+N⟩:=yF.new w3 ⟨o.id.c,b+1,b+1+N⟩;have q:Below l l (w3.alloc (.cells #[o.id.c,(b+1:),(b+1+N:)] 154)):=I.alloc I.size _;have az:l.heap.size<=w3.heap.size:=I.size;generalize w3.heap.size=bn at t az ⊢;generalize w3.alloc (.cells #[o.id.c,(b+1:),(b+1+N:)] 154)=f at t q ⊢;have x:=ae.keep fun a g=>q.block a (by have:=ae.lt;omega);have af:=G.below q G.lt;have am:=Y.trans (Mods.of_below q);have av:=V _ _ (Mods.of_below q) aj;clear an I az ae G Y al q aj;have j:=x.lt;have a2:=t.lt;have bc:∀s:zI zX f,s.val.cell? (n+11,1)=some (.map (some (n+2))):=zI.cell j id (x.cell 1 _ rfl);have aP:=aV t.cells.1;have bf:=aV t.cells.2.2;have bi:=a5.o.n2;have a7:b+1+N - 1=b+N:=oa;refine xU 9 [0,1,2,3,4,5,6,7,8] [9] zX (aM ?_);refine aR ?_;obtain⟨B,ag,ap⟩:=zb8 zet (T:=106) (E:=43) oe (x.kn.blk (w':=f.drew) rfl) o.id.c (b+N:);unfold qm at ag;refine aS ?_;go_wp2;refine xE ?_;have i:xS n (xF f.drew (n+2) B) (xT kl o.id.c (b+N:)) wl ⟨L,ac,hv,ad,aa⟩ st:={
  kn:=ap
  wt:=(x.wt.blk (w':=f.drew) rfl).blk (qV oa)
  dc:=(qV oa).trans x.dc}
 have A:zR (xF f.drew (n+2) B) w o:=(qV oa).trans af;have R:Mods (fun a=>a=n+2\/a=n+11\/D a) w (xF f.drew (n+2) B):=by have h1:=am.drew;exact⟨h1.os,h1.tape,h1.output,by rw[vH];exact h1.size,fun k X M=>(qV oa).trans (h1.block k X M)⟩
 have O:u (xF f.drew (n+2) B):=V f _ (by have h1:=(Mods.refl (fun a=>a=n+2\/a=n+11) f).drew;exact⟨h1.os,h1.tape,h1.output,by rw[vH];exact h1.size,fun k X M=>(qV oa).trans (h1.block k X M)⟩) av;generalize xF f.drew (n+2) B=d at i A R O ⊢;clear ag ap bc aP bf x af am j a2 t a7 av f;have j:=i.lt;have z:=A.lt;have a4:∀s:zI zX d,s.val.cell? (n+11,11)=st:=zI.cell j id (i.cell 11 _ rfl);have ba:=aV (A.cells 3 _ rfl);have bg:d.cell? (n+11,11)=st:=i.cell 11 _ rfl;have a1:=i.frz 11;go_upto_region 4 with fail;refine xU 8 [0,1,2,3,4,5,6] [7,8,9,10] zX (aM ?_);refine aR ?_;refine aS ?_;go_wp2;refine⟨zI.to (Mods.refl _ d).drew,?_⟩;refine aS ?_;go_wp2;refine aS ?_;go_wp2;refine aS ?_;go_wp2;refine xE ?_;have aw:xS n (d.setCell (n+11,11) e).drew (xT kl o.id.c (b+N:)) wl ⟨L,ac,hv,ad,aa⟩ e:={
  kn:=i.kn.blk (zZ _ _ _ _ (by show ¬n+2=n+11;omega))
  wt:=i.wt.blk (zZ _ _ _ _ (by show ¬n+3=n+11;omega))
  dc:=by show(d.setCell (n+11,11) e).heap[n+11]?=_;simp[World.setCell,zu,i.dc]}
 have ar:zR (d.setCell (n+11,11) e).drew w o:=zR.drew ((zZ _ _ _ _ (by show ¬w.heap.size=n+11;omega)).trans A);have Z:=(R.setCell (p:=(n+11,11)) (.inr (.inl rfl)) e).drew;have aH:u (d.setCell (n+11,11) e).drew:=V d _ (((Mods.refl _ d).setCell (p:=(n+11,11)) (.inr rfl) _).drew) O;generalize(d.setCell (n+11,11) e).drew=be at aw ar Z aH ⊢;clear a4 ba bb bg a1 i A R j z O d;have bd:=ab.mods Z ak;have a6:=a8 be aw aH bd;go_wp2_with (first|(refine xv (T:=66) (v:=zS o) rfl rfl rfl ar.load ?_)|(go_at_call 174;refine a6.mono ?_;rintro r bh ⟨rfl,a0,aZ,a9⟩));go_end0;exact⟨rfl,a0,aZ,Z.trans (a9.mono fun a g=> .inr (.inr g))⟩
section
attribute [local go_sem] jl
def WG(n:Nat)(D:Nat->Prop)(k:Nat):Prop:=k=n\/k=n+1\/k=n+2\/k=n+3\/k=n+11\/D k
def jd(n:Nat)(W:zC)(b:Nat):Prop:=W.heap[b]?=some (.cells #[(n+11:)] 24 (0,0))
def ju(v:Bool)(W:zC)(b:Nat):Prop:=W.heap[b]?=some (.cells #[.bool v] 4 (0,0))
structure WkA(n X:Nat)(w W:zC):Prop where
 b:Below w w W
 bx:jd n W X
 bm:ju false W (X+1)
 bp:jd n W (X+2)
structure WkB(n N:Nat)(o:zQ)(D:Nat->Prop)(QW:Nat->World->Prop)(X B:Nat)(w W:zC):Prop where
 m:Mods (WG n D) w W
 d:∃hv,zaT n W [(o.id.c,N)] [] hv yH o.stamp/\zc 3 zY W hv []
 bx:jd n W X
 bm:ju true W (X+1)
 bp:jd n W (X+2)
 q:∃s,B+1<s/\QW s W
theorem jd.cell{n:Nat}{W:zC}{b:Nat}(h:jd n W b):W.cell? b=(n+11:):=by unfold jd at h;simp[World.cell?,h]
theorem ju.cell{v:Bool}{W:zC}{b:Nat}(h:ju v W b):W.cell? b=some (.bool v):=by unfold ju at h;simp[World.cell?,h]
theorem ju.frz{v:Bool}{W:zC}{b:Nat}(h:ju v W b):W.frozen? b=false:=by unfold ju at h;simp[World.frozen?,h]
theorem jd.lt{n:Nat}{W:zC}{b:Nat}(h:jd n W b):b<W:=aL h
theorem ju.lt{v:Bool}{W:zC}{b:Nat}(h:ju v W b):b<W:=aL h
theorem zdu{W W':World}{b:Value}(a:zc 3 zY W b [])(j:W.heap.size<=W'.heap.size):zc 3 zY W' b []:=by
 rcases a with a|⟨g,d,i,f,c,h,_⟩
 ·exact .inl a
 ·exact .inr ⟨g,d,i,f,c,zg h j,fun l k e=>obd⟩
theorem WkA.to{n X:Nat}{w W W':zC}(a:WkA n X w W)(g:X=w)(b:Mods (fun c=>w.heap.size+3<=c) W W'):WkA n X w W':=by
 have f:=a.bp.lt;have d:=a.b.size;exact⟨⟨b.os.trans a.b.os,b.tape.trans a.b.tape,b.output.trans a.b.output,zk d b.size,fun c e=>(b.block c oa oa).trans (a.b.block c e)⟩,
  (b.block _ a.bx.lt oa).trans a.bx,(b.block _ a.bm.lt oa).trans a.bm,(b.block _ f oa).trans a.bp⟩
theorem WkB.to {n N:Nat}{o:zQ}{D:Nat->Prop}{f:Nat->World->Prop}{X B:Nat}{w W W':World}(a:WkB n N o D f X B w W) (u:X=w.heap.size) (v:B=w.heap.size+3) (t:n+11<w.heap.size)
 (r:∀c w h,Mods (fun d=>n+11<d/\d<c) w h->n+11<w.heap.size->f c w->f c h) (b:Mods (fun e=>e=B+1) W W'):WkB n N o D f X B w W':=by
 have l:=a.m.size;obtain⟨p,k,m⟩:=a.d;obtain⟨c,q,i⟩:=a.q;exact⟨⟨b.os.trans a.m.os,b.tape.trans a.m.tape,b.output.trans a.m.output,zk l b.size,fun e s j=>(b.block e oa oa).trans (a.m.block e s j)⟩,
  ⟨p,k.keep fun d g=>b.block d oa oa,zdu m b.size⟩,(b.block _ a.bx.lt oa).trans a.bx,(b.block _ a.bm.lt oa).trans a.bm,(b.block _ a.bp.lt oa).trans a.bp,
  ⟨c,q,r c _ _ (b.mono fun d g=>by subst g;omega) oa i⟩⟩
end
open Go.Maps
theorem zxJ(n:Nat)(wl:List (zF×Value))(h:yN)(st:Int)(w:zC)(a:xS n w [] wl h st):
 Calls zD 58 #[(n+11:)] w (qH (zlf [] w)):=by
 have f:=a.cell 1 _ rfl;have q:=a.lt;have d:=zpi (w:=w) (r:=n+2) (kl:= []) a.kn (fun x p=>by cases p) ol;have o:Maps.size (zay [])=0:=rfl;go_enter Tryz.func58,Tryz.ntmps58;go_upto_region 3 with(at_range;refine wpList_range_own _ rfl _ 106 rfl 43 43 (int_keyed zaj) oe (plainElem zD 43) (n+2) 0 (zay []) rfl d ?_;intro j e b s);have c:=zle b;rw[o] at e;clear b d f;go_frame;go_loopw [3] (fun g wr=>g=()/\wr=j) (fun _ _=>0);case atStart=>exact⟨rfl,rfl⟩
 case round=>obtain⟨rfl,rfl⟩:=hrel;go_wp2_with (at_next;refine zkI _ rfl _ rfl 43 43 .u64 .u64 (int_keyed zaj) zaj zaj (n+2) w 0 _ _ _ rfl e ?_ ?_);intro _;have i:=zld () [] wr (.inl ⟨rfl,rfl⟩) ⟨fun u m=>(by cases m),List.Pairwise.nil⟩ ol;go_wp2_with (go_at_call 130;refine i.mono ?_;rintro t v ⟨y,rfl,k,l⟩);go_ret;exact⟨_,rfl,zaE k c.size,zK c l⟩
theorem zpj(n:Nat)(c N:Int)(wl:List (zF×Value))(ab:yN)(st:Int)(w:World)(g:xS n w [(c,.int .u64 N)] wl ab st)(ag:1<=c)(ak:c<=9007199254740991)(am:1<=N)(Z:N<=9007199254740991):
 Calls Tryz.prog 58 #[.pointer (some ⟨n+11,0,none⟩)] w (qH (zlf [⟨c,N⟩] w)):=by
 have F:=g.cell 1 _ rfl;have ar:=g.lt;have C:=zpi (w:=w) (r:=n+2) (kl:= [⟨c,N⟩]) g.kn (fun p ad=>by
  obtain rfl:p=⟨c,N⟩:=by simpa using ad
  unfold zcc;dsimp only;omega) (by show 1<=_;decide)
 have D:Maps.size (zay [⟨c,N⟩])=1:=rfl;have B:∀a,has (zay [⟨c,N⟩]) (.int .u64 a)=true->a=c:=fun a h=>by
  have:has (zay [⟨c,N⟩]) (.int .u64 a)=(Lit.int .u64 c).sameKey (.int .u64 a):=by simp[zay,zgJ,has_eq,DataW.insert]
  rw[this] at h;have:=(by simpa[Lit.sameKey] using h:c=a);exact this.symm
 have q:∀t,(zay [⟨c,N⟩]).atKey (.int .u64 c) t= .lit (.int .u64 N):=fun t=>by simp[zay,zgJ,DataW.atKey,DataW.insert,Lit.sameKey]
 go_enter Tryz.func58,Tryz.ntmps58;go_upto_region 3 with(at_range;refine wpList_range_own _ rfl _ 106 rfl 43 43 (int_keyed zaj) oe (plainElem zD 43) (n+2) 1 (zay [⟨c,N⟩]) rfl C ?_;intro aj x u af);have y:=zle u;rw[D] at x;obtain⟨ah,H,L,T,V⟩:=yI ziM;clear u C F g;go_frame;go_loopw [3] (fun v wr=>(v= .slice none 0 0/\wr=aj)\/(∃left e f,v= .slice (some e) 1 f/\wr.ranges Tryz.prog 43 (plainElem Tryz.prog 43) (n+2) w.heap.size 1 (zay [⟨c,N⟩]) left 0/\zG w.heap.size 179 2 zn wr v [⟨c,N⟩]/\Below w.heap.size w wr)) (fun v _=>match v with| .slice (some _) _ _=>0|_=>1)
 case atStart=>exact .inl ⟨rfl,rfl⟩
 case round=>
  rcases hrel with⟨rfl,rfl⟩|⟨left,G,f,rfl,W,d,z⟩
  ·go_wp2_with (at_next;refine zkI _ rfl _ rfl 43 43 .u64 .u64 (int_keyed zaj) zaj zaj (n+2) w.heap.size 1 _ _ _ rfl x ?_ ?_);intro a l m ac _ _ o s ae X aa al au;obtain rfl:a=c:=B a o;obtain rfl:l=N:=(by have h1:=s .nil;rw[q] at h1;simpa using h1.symm);obtain rfl:ac=0:=oa;clear B q s D o X;have an:w.heap.size<m.heap.size:=oa;have R:Below w.heap.size w m:=y.grown aa y.size (fun e b=>by cases b;exact zU _);clear af al;go_wp2_with (at_builtin;refine jL _ rfl _ _ 91 rfl w.heap.size 179 ah (.agg #[.int .u64 zT.c,.int .u64 zT.k]) 2 16 zhd H L T V rfl ol _ 0 [] rfl (zG.nil (α:=zF) (k:=2) (enc:=zn)) ⟨m.heap.size,0,none⟩ 1 1 (zn ⟨a,l⟩) rfl rfl ?f1 ?f2 ?f3 ?f4 ?f5 ?_);case f1=>exact fun av M i=>by rw[qW];simp only[World.cell?,zcG,jW,jX];rw[World.alloc_heap_new];simpa[zn] using i
   case f2=>intro M i;simp[zn] at i;rcases i with rfl|rfl<;> rfl
   case f3=>unfold maxLen;omega
   case f4=>omega
   case f5=>first|omega|(simp;omega)
   intro v' w3 A j _ _;have E:=(ae.alloc _).kept j (by intro b;cases b) (by intro b;cases b);have I:Below w.heap.size w w3:=(R.alloc oa _).grown j oi (fun e b=>by cases b);have d:zG w.heap.size 179 2 zn w3 v' [⟨a,l⟩]:=(by unfold zG;simpa using A);obtain⟨p,f,rfl⟩:∃p c,v'= .slice p 1 c:=ys d;obtain⟨O,rfl⟩:∃e,p=some ⟨e,0,none⟩:=by
    rcases d.2 with⟨b,_⟩|⟨O,aq,ao,b,_⟩
    ·cases b
    ·cases b;exact⟨_,rfl⟩
   clear A j;go_wp2;exact⟨.inr ⟨_,_,_,rfl,E,d,I⟩,zde⟩
  ·go_wp2_with (at_next;refine zkI _ rfl _ rfl 43 43 .u64 .u64 (int_keyed zaj) zaj zaj (n+2) w 1 _ _ _ rfl W ?_ ?_);intro _;have ai:=zld (.slice (some G) 1 f) [⟨c,N⟩] wr (zG.slice (k:=2) (enc:=zn) (fun _=>rfl) d) ⟨fun a K=>(by obtain rfl:a=⟨c,N⟩:=(by simpa using K);exact⟨ag,ak,am,Z⟩),oh⟩ oh;go_wp2_with (go_at_call 130;refine ai.mono ?_;rintro b ap ⟨aw,rfl,Y,J⟩);go_ret;exact⟨_,rfl,zaE Y z.size,zK z J⟩
def knL(c K:Int):List (Int×Value):=if K=0 then[] else[(c,K)]
theorem zxK(c K:Int):knV (knL c K) c K:=by
 unfold knV knL;by_cases h:K=0
 ·rw[zP h,h];rfl
 ·rw[zN h];simp[xD]
theorem zxL(c K L:Int)(b:L≠0):xT (knL c K) c L=knL c L:=by
 unfold knL;rw[zN b];by_cases a:K=0
 ·rw[zP a];rfl
 ·rw[zN a];simp[xT,xD]
theorem zxM(n:Nat)(c K:Int)(wl:List (zF×Value))(b:yN)(st:Int)(w:zC)(e:xS n w (knL c K) wl b st)(h:1<=c)(k:c<=9007199254740991)(o:0<=K)(j:K<=9007199254740991):
 Calls zD 15 #[(n+11:),c] w fun a l=>a=(K+1:)/\Below w w l:=by
 by_cases g:K=0
 ·subst g;exact zjC n c [] w (zxJ n wl b st w e) ⟨fun i d=>(by cases d),List.Pairwise.nil⟩ ol rfl
 ·have a:knL c K= [(c,.int .u64 K)]:=zN g;rw[a] at e;have m:=zpj n c K wl b st w e h k oa j;have f:qS [⟨c,K⟩] c=K:=by simp[qS]
  have:=zjC n c [⟨c,K⟩] w m ⟨fun i d=>(by obtain rfl:i=⟨c,K⟩:=obr;exact⟨h,k,(by show 1<=K;omega),j⟩),oh⟩ oh (by rw[f];simp[IntKind.wrap,IntKind.bits,IntKind.signed];omega);rwa[f] at this
end Go.Proofs.YtimlgcodecgecaaGreatDoor
