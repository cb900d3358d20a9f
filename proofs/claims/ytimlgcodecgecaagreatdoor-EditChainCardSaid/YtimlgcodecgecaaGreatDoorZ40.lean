/- The reference's document knows one operation more (quireref13.know): a text or an embed. -/
import Derived.Test.YtimlgcodecgecaaGreatDoorZ35
set_option maxRecDepth 100000
set_option maxHeartbeats 20000000
set_option linter.all false
namespace Go.Proofs.YtimlgcodecgecaaGreatDoor
open Go.RowKit Go.Lib
section
variable {Φ:yA}
def xm.plus(D:xm)(o:zQ)(N:Nat):xm:={D with l:=D.l++[o],known:=zaY (D.known++[⟨o.id.c,o.id.k+N - 1⟩]),s:=D.s.insN ⟨o.id,o.left,o.right⟩ N}
def ztd(Φ:yA)(a:Nat)(f i b j:zJ)(d:Nat)(D:xm)(w:zC)(e:Ending)(w':zC):Prop:=
 e=jB/\(∃h k c,xe Φ w' a h k f i b j c d D)/\Mods (fun g=>g=a) w w'
theorem knE {p:Prop}(h:p:=by
 clear e1;go_upto_region 9 with(go_at_call 108;refine hcp.mono ?_;rintro e w13 ⟨sp2,rfl,hsp2,hrf,hb13⟩);have hbx13:=HBX.o.below hb13 hbl;have q0:w13.cell? w=o.id.c:=hbx13.cells 0 _ rfl;have q1:w13.cell? (w,1)=o.id.k:=hbx13.cells 1 _ rfl;have q4:w13.cell? (w,4)=o.left.c:=hbx13.cells 4 _ rfl;have q5:w13.cell? (w,5)=o.left.k:=hbx13.cells 5 _ rfl;have q6:w13.cell? (w,6)=o.right.c:=hbx13.cells 6 _ rfl;have q7:w13.cell? (w,7)=o.right.k:=hbx13.cells 7 _ rfl;have hrun:=zuh sp2 D.s ⟨o.id,o.left,o.right⟩ N w13 hrf HM.o hN (by dsimp only;omega) HFR.o oa;have HB13:=zA hb13;clear hcp hrf hb13 hbx13 c4 q2;go_upto_region 11 with(go_at_call 109;refine hrun.mono ?_;rintro e w14 ⟨rfl,hrf14,hm14⟩);have hb14:Below W12.heap.size W12 w14:=HB13.o.trans (hm14.lowB HB13.o.size (fun k e=>oa));have h14:=HH12.o.below hb14;have c4:=h14.cell 4 _ rfl;have f4:w14.frozen? (dp,4)=false:=by simp[World.frozen?,h14.st]
 have HH15:=zA (h14.setS hrf14 oa);have HM15:=zA ((HM12.o.trans (Mods.of_below hb14)).setAt (p:=(dp,4)) (.inl rfl) sp2);clear hrf14 hm14 h14 hrun hb14;go_wp2;go_end0;exact⟨rfl,⟨_,_,_,HH15.o⟩,HM15.o⟩):p:=h
theorem zte (dp:Nat) (t V al aw a4 aq:zJ) (be am:Nat) (D:xm) (o:zQ) (N:Nat) (w:zC) (h:xe Φ w dp t V al aw a4 aq be am D) (aZ:o.kind=1\/o.kind=2) (hN:1<=N) (bp:1<=o.id.k) (bs:o.id.k+N<=9007199254740992)
 (aP:∀w,Calls zD 102 #[zS o] w fun e r=>e=(zB N)/\Below w w r) (az:D.s.may ⟨o.id,o.left,o.right⟩=true) (ar:∀i:Nat,i<N->(⟨o.id.c,o.id.k+i⟩:zF).rightB=true/\D.s.find ⟨o.id.c,o.id.k+i⟩=none)
 (bq:D.s.l.length+N<=100000) (ba:D.l.length<=100000) (bo:D.known.length<=1000):
 Calls zD 47 #[dp,zS o] w (ztd Φ dp al aw a4 aq am (D.plus o N) w):=by
 have Y:=zA h;have bd:=zA aP;have bj:=zA aZ;have HM:=zA az;have HFR:=zA ar;have bn:=h.lt;obtain⟨Z,ai,M,au⟩:=h.l.full znX ztc;obtain⟨j,E⟩:=aY D.l.length;rw[E] at ai M ba;have av:∀d w,(Builtin.len_ #[36] d #[t]).run zD w= .ok (zB j) w:=fun d w=>by obtain⟨p,c,e,_⟩:=h.l.2;rw[e,E];exact run_len_slice w 36 d p j c znX
 have L:=zA E;have a7:=zA M;have bi:=zA au;clear h aP aZ az ar M au E;change Calls zD 47 #[dp,.agg #[o.id.c,o.id.k,zB o.kind,o.stamp,o.left.c,o.left.k,o.right.c,o.right.k,.string o.text,zB o.v.kind,zB o.v.n,.float .f64 o.v.f,.string o.v.s,.string o.key,o.parent.c,o.parent.k,o.frm.c,o.frm.k,.bool o.frmA,o.til.c,o.til.k,.bool o.tilA]] w _;go_enter Tryz.func47,Tryz.ntmps47;go_upto_region 1 with fail;obtain⟨a,H⟩:=aY (w.alloc (.cells (ze o).toArray 66));have y:Below w w a:=by rw[<-H];exact aA
 have z:zR a w o:=by rw[<-H];exact zR.new w o
 change Code.wp _ _ _ _ (w.alloc (.cells (ze o).toArray 66));rw[H];clear H;have ap:w.heap.size<a.heap.size:=z.lt;have ao:dp<a.heap.size:=oa;have bm:∀s:zI zX a,s.val.cell? dp=some t:=zI.cell ao id ((y.cell (p:=dp) bn).trans (Y.o.cell 0 _ rfl));have bb:∀s:zI zX a,(Instr.slice 36 t none (zB (j:Int)) (zB (j:Int))).run zD s.val= .ok (.slice Z j j) s.val:=fun s=>ai s.val;have bf:∀d,∀s:zI zX a,(Builtin.len_ #[36] d #[t]).run zD s.val= .ok (zB j) s.val:=fun d s=>av d s.val;have l1:∀r,(∃s:zI zX a,r=s.val)->(loadVar 66 w).run zD r= .ok (zS o) r:=by rintro _ ⟨s,rfl⟩;exact zR.load ((s.h.block _ ap id).trans z)
 clear ai av;refine xU 19 [0,1,2,3,4,5,6,7,8,9,10,11,12,13,14,15,16] [17,18,19,20,21] zX (aM ?_);refine aR ?_;clear l1;refine aS ?_;go_wp2_with (refine zc9 o rfl _ rfl rfl ?_);have b:Below a a ((a.alloc (.cells (ze o).toArray 66)).drew):=aA.drew;refine⟨zI.to (Mods.of_below b),?_⟩;generalize B:World.drew _=O;have A:zc 22 ze O (.slice (some a) 1 1) [o]:=by subst B;exact(zc.one (k:=22) (enc:=ze) a o 66).drew
 clear bm bb bf;have aH:zc 22 ze O (.slice Z D.l.length D.l.length) D.l:=by subst B;rw[L.o];exact(a7.o.below y).below b
 have aa:a.heap.size<=O.heap.size:=by subst B;exact b.size
 try simp only[B] at b
 clear B;refine aS ?_;refine zkv zkS rfl _ _ rfl Z D.l (by rw[L.o];rfl) aH bi.o (.slice (some a) 1 1) [o] rfl A oh (by rw[L.o];simp only[z7,xB];omega) ?_;intro bv u ad a2;have G:Below a a u:=b.grown a2 aa (fun ay e=>obd);have K:=zK y G;have ax:=zA G;obtain⟨ab,ae,rfl⟩:=ad.len;have F:=Y.o.below K;have J:=zA (F.setL (w:=w) (zG.rowIn (k:=22) (enc:=ze) (fun _=>rfl) ad (zk (zk Y.o.nn y.size) aa)));have C:=zA ((show Mods (fun ay=>ay=dp) w u from Mods.of_below K).setAt (p:=dp) (.inl rfl) (.slice ab (D.l++[o]).length ae));have a6:=z.below G z.lt;have n:zR (u.setCell dp (.slice ab (D.l++[o]).length ae)) w o:=(zZ _ _ _ _ (by show ¬w.heap.size=dp;omega)).trans a6;have X:=F.cell 0 _ rfl;have aj:u.frozen? dp=false:=by simp[World.frozen?,F.st]
 generalize(D.l++[o]).length=a9 at J C n ⊢;clear A aH ad a2 b aa F a6 G;go_wp2;refine⟨zI.to (Mods.of_below ax.o),?_⟩;refine aS ?_;go_wp2;refine aS ?_;go_wp2;refine aS ?_;go_wp2;refine xE ?_;generalize u.setCell dp (.slice ab a9 ae)=bh at J C n ⊢;clear X aj z ax K ao ap y;have a3:=bd.o bh;go_upto_region 3 with(first|(refine xv (T:=66) (v:=zS o) rfl rfl rfl n.load ?_)|(go_at_call 102;refine a3.mono ?_;rintro e g ⟨rfl,b⟩));have f:=n.below b n.lt;have l:=zA (J.o.below b);have ak:=zA (C.o.trans (Mods.of_below b));clear a3 b n J C;have hbl:=f.lt;have R:=l.o.lt;have bt:N<=100000:=oa;have bl:∀s:zI zX g,s.val.cell? (dp,1)=some V:=zI.cell R id (l.o.cell 1 _ rfl);have q0:=aV (f.cells 0 _ rfl);have q1:=aV (f.cells 1 _ rfl);have e1:IntKind.u64.wrap (o.id.k+(N:Int))=o.id.k+N:=og;have bg:IntKind.u64.wrap (o.id.k+(N:Int) - 1)=o.id.k+N - 1:=og;have bc:=zA f;refine xU 18 [0,1,2,3,4,5,6,7,8,9,10,11,12,13,14,15] [16,17,18,19,20] zX (aM ?_);refine aR ?_;clear bl q0 q1 e1 bg;refine aS ?_;go_wp2;have q:Below g g ((g.alloc (.cells #[o.id.c,(o.id.k+N - 1:)] 179)).drew):=aA.drew;refine⟨zI.to (Mods.of_below q),?_⟩;generalize af:World.drew _=a1;have A:zc 2 zn a1 (.slice (some g) 1 1) [⟨o.id.c,o.id.k+N - 1⟩]:=by subst af;exact(zc.one (k:=2) (enc:=zn) g ⟨o.id.c,o.id.k+N - 1⟩ 179).drew
 rw[af] at q;have an:=zuB V (.slice (some g) 1 1) D.known [⟨o.id.c,o.id.k+N - 1⟩] _ ((l.o.known.1).below q) A oE;clear af;refine aS ?_;go_wp2_with (go_at_call 107;refine an.mono ?_;rintro e ag ⟨br,rfl,ac,a5⟩);have x:=zK q a5;obtain⟨W,ah,rfl⟩:=ac.len;refine⟨zI.to (Mods.of_below x),?_⟩;have I:=l.o.below x;have HH12:=zA (I.setK (zG.rowIn (k:=2) (enc:=zn) (fun _=>rfl) ac (zk l.o.nn q.size)));have HM12:=zA ((ak.o.trans (Mods.of_below x)).setAt (p:=(dp,1)) (.inl rfl) (.slice W (zaY (D.known++[⟨o.id.c,o.id.k+N - 1⟩])).length ah));have m:zR (ag.setCell (dp,1) (.slice W (zaY (D.known++[⟨o.id.c,o.id.k+N - 1⟩])).length ah)) w o:=(zZ _ _ _ _ (by show ¬w.heap.size=dp;omega)).trans (f.below x f.lt);have X:=I.cell 1 _ rfl;have aj:ag.frozen? (dp,1)=false:=by simp[World.frozen?,I.st]
 obtain⟨a8,a0⟩:=aY ((zaY (D.known++[⟨o.id.c,o.id.k+N - 1⟩])).length);rw[a0] at HH12 HM12 m ⊢;clear A an ac q x a5 I f a0 a1;refine aS ?_;go_wp2;refine aS ?_;go_wp2;refine aS ?_;go_wp2;refine xE ?_;generalize ag.setCell (dp,1) (.slice W a8 ah)=W12 at HH12 HM12 m ⊢;clear X aj l ak bc hbl R;have hcp:=HH12.o.seq.copy9 (by show D.s.l.length<=1000000;omega);have R:=HH12.o.lt;have bu:=HM12.o.size;have c4:=HH12.o.cell 4 _ rfl;have q2:W12.cell? (w,2)=(zB o.kind):=m.cells 2 _ rfl;have HBX:=zA m;have hbl:=m.lt;clear m;rcases bj.o with e1|e1
 ·rw[e1] at q2;exact knE
 ·rw[e1] at q2;exact knE
end
section
variable {Φ:yA}
theorem xe.renew {w w':World}{c:Nat}{g k r p z B m b i:Value}{j t d:Nat}{D:xm}{T:List zL}{R:List zO}(a:xe Φ w c g k r p z B j t D) (e:w.heap.size<=w'.heap.size) (h:∀f,f<w.heap.size->f≠c->w'.heap[f]?=w.heap[f]?)
 (q:w'.heap[c]?=some (.cells #[g,k,m,b,j,d,(),(),i] 96 (0,0))) (u:zx Φ 4 zb w' m T) (n:zx Φ 3 zY w' b R) (x:w'.heap[d]?=some (.cells #[(),b] 119 (0,0))) (A:∃v s o,i= .slice v s o) (y:Φ.F d):
 xe Φ w' c g k m b b i j d {D with turns:=T,dels:=R} where
 st:=q
 l:=a.l.offP zed a.st a.noInt e h
 known:=a.known.offP zfs a.st a.noInt e h
 turns:=u
 dels:=n
 seq:=a.seq.offP a.st a.noInt a.ne.1 e h
 maps:=x
 hid:=n
 wt:=A
 nn:=zk a.nn e
 fd:=a.fd
 fm:=y
theorem xe.setW{c:zC}{b:Nat}{j m i h n t v:zJ}{k g:Nat}{D:xm}(a:xe Φ c b j m i h n t k g D)(s:∃q p o,v= .slice q p o):xe Φ (c.setCell (b,8) v) b j m i h n v k g D:=by
 have e:c.heap.size<=(c.setCell (b,8) v).heap.size:=by simp[World.setCell]
 have d:∀f,f<c.heap.size->f≠b->(c.setCell (b,8) v).heap[f]?=c.heap[f]?:=fun f _ r=>zZ _ _ _ _ (by show ¬f=b;exact r);exact {
  st:=by simp[World.setCell,zu,a.st]
  l:=a.l.offP zed a.st a.noInt e d
  known:=a.known.offP zfs a.st a.noInt e d
  turns:=a.turns.offP zhq a.st a.noInt e d
  dels:=a.dels.offP zcQ a.st a.noInt e d
  seq:=a.seq.offP a.st a.noInt a.ne.1 e d
  maps:=(d g (aL a.maps) a.ne.2).trans a.maps
  hid:=a.hid.offP zcQ a.st a.noInt e d
  wt:=s
  nn:=zk a.nn e
  fd:=a.fd
  fm:=a.fm}
def xm.turn(D:xm)(U:List zL):xm:={D with turns:=zz (D.turns++U) [],dels:=xf (xL (zz (zz (D.turns++U) []) []))}
def znZ(Φ:yA)(a:Nat)(D:xm)(w:zC)(e:Ending)(w':zC):Prop:=e=(zB 0)/\zbM Φ w' a D/\Mods (fun b=>b=a) w w'
theorem apT {p:Prop}(h:p:=by
 have hto:=HTO;clear hto;have hd8:=HR8.o.lt;have m8:∀s:zI zX w8,s.val.cell? ⟨dp,8,none⟩=some ():=zI.cell hd8 id (HR8.o.cell 8 _ rfl);have mo:=aV v8;go_upto_region 11 with fail;refine xU 19 [0,1,2,3,4,5,6,7,8,9,10,11,12,13,14,15,16,17] [18,19,20,21] zX (aM ?_);refine aR ?_;clear m8 mo;refine aS ?_;obtain⟨ie,_,hie,_,_,_,_⟩:=zkS.hi;go_wp2_with (at_builtin;refine wpList_append_own_none rfl _ _ 36 rfl w8.drew.heap.size 66 ie 22 zfM hie _ 0 [] rfl (zG.nil (α:=zQ) (k:=22) (enc:=ze)) rfl ?_);refine⟨zI.to (Mods.refl _ _).drew,?_⟩;have s0:=(HR8.o.below ((zf _ _).drew)).cell 8 _ rfl;have s1:w8.drew.frozen? ⟨dp,8,none⟩=false:=by show w8.frozen? _=_;simp[World.frozen?,HR8.o.st]
 have HR9:=zA ((HR8.o.setW (v:=()) ⟨_,_,_,rfl⟩).below ((zf _ _).drew));have HM9:=zA ((HM8.o.setAt (p:=⟨dp,8,none⟩) (.inl rfl) ()).drew);refine aS ?_;go_wp2;refine aS ?_;go_wp2;refine aS ?_;go_wp2;refine xE ?_;generalize(w8.setCell ⟨dp,8,none⟩ ()).drew=w9 at HR9 HM9 ⊢;clear s0 s1 HR8 HM8 hd8 hul8 v8 w8;go_wp2;go_loopw [6] (fun a wr=>(a= .bool true\/a= .bool false)/\xe Φ wr dp vl vk (.slice pt nt ct) (.slice pr nr cr) (.slice pr nr cr) () sp mp2 (D.turn U)/\Mods (fun b=>b=dp) w wr) (fun a _=>match a with| .bool true=>1|_=>0)
 case atStart=>exact⟨.inl rfl,HR9.o,HM9.o⟩
 case round=>
  obtain⟨ha,hr,hm⟩:=hrel;rcases ha with rfl|rfl
  ·have c8:=hr.cell 8 _ rfl;go_wp2;go_loopw [6,7,8] (fun a l i wx=>a= .bool false/\l=()/\i= .int .i64 0/\wx=wr) (fun _ _ _ _=>0);case atStart=>exact⟨rfl,rfl,rfl,rfl⟩
   case round=>
    obtain⟨rfl,rfl,rfl,rfl⟩:=hrel;have f8:wr.frozen? ⟨dp,8,none⟩=false:=(by simp[World.frozen?,hr.st]);have hr2:=hr.setW (v:=()) ⟨_,_,_,rfl⟩;have hm2:=hm.setAt (p:=⟨dp,8,none⟩) (.inl rfl) ();go_wp2;go_roundw;case rel=>exact⟨.inr rfl,hr2,hm2⟩
    exact zde
  ·go_wp2;go_ret;exact⟨rfl,⟨_,_,_,_,_,_,_,hr⟩,hm⟩):p:=h
theorem apO {p:Prop}(h:p:=by
 have hd8:=HR8.o.lt;have m8:∀s:zI zX w8,s.val.cell? ⟨dp,8,none⟩=some ():=zI.cell hd8 id (HR8.o.cell 8 _ rfl);have mo:=aV v8;go_upto_region 11 with fail;refine xU 19 [0,1,2,3,4,5,6,7,8,9,10,11,12,13,14,15,16,17] [18,19,20,21] zX (aM ?_);refine aR ?_;clear m8 mo;have hov8:zx Φ 22 ze w8 (.slice (some ⟨ob,oo,none⟩) 1 oc) [o]:=HOV.o.offP zed H.o.st H.o.noInt HM8.o.size fun q h1 h2=>HM8.o.block q h1 h2;refine aS ?_;refine zkv zkS rfl _ _ rfl none [] rfl (.inl ⟨rfl,rfl⟩) (fun _=>rfl) (.slice (some ⟨ob,oo,none⟩) 1 oc) [o] rfl hov8.1.drew (by simp) (by simp) ?_;intro v9 w9 ho9 hg9;have hb9:Below w8.heap.size w8 w9:=((zf _ _).drew).grown hg9 (zU _) (fun b e=>by cases e);refine⟨fun _=>zI.to (Mods.of_below hb9),?_⟩;obtain⟨p9,c9,rfl⟩:=ho9.len;replace ho9:zG w8.heap.size 66 22 ze w9 (.slice p9 1 c9) [o]:=ho9;have h9:=HR8.o.below hb9;have s0:=h9.cell 8 _ rfl;have s1:w9.frozen? ⟨dp,8,none⟩=false:=by simp[World.frozen?,h9.st]
 have HR9:=zA (h9.setW (v:= .slice p9 1 c9) ⟨_,_,_,rfl⟩);have HM9:=zA ((HM8.o.trans (Mods.of_below hb9)).setAt (p:=⟨dp,8,none⟩) (.inl rfl) (.slice p9 1 c9));have ho10:zG w8.heap.size 66 22 ze (w9.setCell ⟨dp,8,none⟩ (.slice p9 1 c9)) (.slice p9 1 c9) [o]:=ho9.blk fun b e=>zZ _ _ _ _ (by show ¬b=dp;have:=ho9.ge e;omega);refine aS ?_;go_wp2;refine aS ?_;go_wp2;refine aS ?_;go_wp2;refine xE ?_;generalize w9.setCell ⟨dp,8,none⟩ (.slice p9 1 c9)=w10 at HR9 HM9 ho10 ⊢;obtain⟨pw,ow,rfl,how⟩:∃pw ow,p9=some ⟨pw,ow,none⟩/\∀i u,(ze o)[i]?=some u->w10.cell? ⟨pw,ow+i,none⟩=some u:=by
  rcases zG.slice (k:=22) (enc:=ze) (fun _=>rfl) ho10 with⟨_,e⟩|⟨b,off,cap,e,_,_,hc⟩
  ·cases e
  ·injection e with e1 e2 e3;exact⟨b,off,e1,fun i u hu=>by have:=hc 0 o rfl i u hu;rwa[zfP,jD] at this⟩
 change qP (xe Φ w10 dp vl vk (.slice pt nt ct) (.slice pr nr cr) (.slice pr nr cr) (.slice (some ⟨pw,ow,none⟩) 1 c9) sp mp2 (D.turn U)) at HR9;clear s0 s1 HR8 HM8 hd8 hul8 v8 h9 hb9 ho9 hg9 hov8 ho10 w9 w8;go_wp2;go_loopw [6] (fun a wr=>(a= .bool true/\xe Φ wr dp vl vk (.slice pt nt ct) (.slice pr nr cr) (.slice pr nr cr) (.slice (some ⟨pw,ow,none⟩) 1 c9) sp mp2 (D.turn U)/\(∀i u,(ze o)[i]?=some u->wr.cell? ⟨pw,ow+i,none⟩=some u)/\Mods (fun b=>b=dp) w wr)\/((a= .bool true\/a= .bool false)/\(∃vl' vk' sp',xe Φ wr dp vl' vk' (.slice pt nt ct) (.slice pr nr cr) (.slice pr nr cr) () sp' mp2 ((D.turn U).plus o N))/\Mods (fun b=>b=dp) w wr)) (m13 dp);case atStart=>exact .inl ⟨rfl,HR9.o,how,HM9.o⟩
 case round=>
  rcases hrel with⟨rfl,hr,hc,hm⟩|⟨ha,⟨vl',vk',sp',hr⟩,hm⟩
  ·have c8:=hr.cell 8 _ rfl;go_wp2;go_loopw [6,7,8] (fun a l i wx=>(a= .bool false/\l=()/\i= .int .i64 0/\wx=wr)\/(a= .bool true/\l=()/\i= .int .i64 1/\(∃vl' vk' sp',xe Φ wx dp vl' vk' (.slice pt nt ct) (.slice pr nr cr) (.slice pr nr cr) (.slice (some ⟨pw,ow,none⟩) 1 c9) sp' mp2 ((D.turn U).plus o N))/\Mods (fun b=>b=dp) w wx)) (fun _ _ i _=>1 - (intOf i).toNat);case atStart=>exact .inl ⟨rfl,rfl,rfl,rfl⟩
   case round=>
    rcases hrel with⟨rfl,rfl,rfl,rfl⟩|⟨rfl,rfl,rfl,⟨vl',vk',sp',hr2⟩,hm2⟩
    ·have hld:(loadVar 66 ⟨pw,ow,none⟩).run zD wr= .ok (zS o) wr:=zdg hc;have hrd:=HRD.o _ _ _ _ _ _ _ _ wr hr;go_upto_region 24 with(first|(refine xv (T:=66) (v:=zS o) rfl rfl rfl hld ?_)|(go_at_call 46;refine hrd.mono ?_;rintro e w2 ⟨rfl,hb2⟩)|(refine yx (T:=66) (v:=zS o) rfl rfl rfl rfl (zR.store (zR.new w2 zi) o) ?_));generalize hw4:xx _ _ _=w4;have hb4:Below wr.heap.size wr w4:=(by subst hw4;exact yo (hb2.alloc hb2.size _) hb2.size _);have hbx:zR w4 w2.heap.size o:=(by subst hw4;exact(zR.new w2 zi).put o);clear hw4;have hkn:=HKN.o _ _ _ _ _ _ _ _ w4 (hr.below hb4);have hm4:=hm.trans (Mods.of_below hb4);go_wp2_with (first|(refine xv (T:=66) (v:=zS o) rfl rfl rfl hbx.load ?_)|(go_at_call 47;refine hkn.mono ?_;rintro e w5 ⟨rfl,hr5,hm5⟩));go_roundw;case rel=>exact .inr ⟨rfl,rfl,rfl,hr5,hm4.trans hm5⟩
     exact zde
    ·have c8':=hr2.cell 8 _ rfl;have f8:wr.frozen? ⟨dp,8,none⟩=false:=(by simp[World.frozen?,hr2.st]);have hr3:=hr2.setW (v:=()) ⟨_,_,_,rfl⟩;have hm3:=hm2.setAt (p:=⟨dp,8,none⟩) (.inl rfl) ();have hq:=hr3.cell 8 _ rfl;go_wp2;go_roundw;case rel=>exact .inr ⟨.inl rfl,⟨_,_,_,hr3⟩,hm3⟩
     show m13 dp (.bool true) _<m13 dp (.bool true) _;unfold m13;rw[hq,c8];exact Nat.lt_succ_self 1
  ·have c8:=hr.cell 8 _ rfl;rcases ha with rfl|rfl
   ·go_wp2;go_loopw [6,7,8] (fun a l i wx=>a= .bool false/\l=()/\i= .int .i64 0/\wx=wr) (fun _ _ _ _=>0);case atStart=>exact⟨rfl,rfl,rfl,rfl⟩
    case round=>
     obtain⟨rfl,rfl,rfl,rfl⟩:=hrel;have f8:wr.frozen? ⟨dp,8,none⟩=false:=(by simp[World.frozen?,hr.st]);have hr2:=hr.setW (v:=()) ⟨_,_,_,rfl⟩;have hm2:=hm.setAt (p:=⟨dp,8,none⟩) (.inl rfl) ();have hq:=hr2.cell 8 _ rfl;go_wp2;go_roundw;case rel=>exact .inr ⟨.inr rfl,⟨_,_,_,hr2⟩,hm2⟩
     show m13 dp (.bool false) _<m13 dp (.bool true) _;unfold m13;rw[hq,c8];exact zde
   ·go_wp2;go_ret;exact⟨rfl,⟨_,_,_,_,_,_,_,hr⟩,hm⟩):p:=h
theorem zee {p:Prop}(h:p:=by
 have hdW:dp<w1.heap.size:=by have:=hB1.size;omega
 have h1:=H.o.below hB1;have m2:∀s:zI zX w1,s.val.cell? ⟨dp,2,none⟩=some vt:=zI.cell hdW id (h1.cell 2 _ rfl);have mu:∀s:zI zX w1,s.val.cell? ⟨w.heap.size,1,none⟩=some uv:=zI.cell hul id v1;have hjn:=zt1 vt uv D.turns U w1.drew (h1.turns.1.drew) ((HU.o.1.below hB1).drew) hlen;refine xU 8 [0,1,2,3,4,5,6] [7,8,9,10] zX (aM ?_);refine aR ?_;clear m2 mu;refine aS ?_;go_wp2_with (go_at_call 43;refine hjn.mono ?_;rintro e w2 ⟨tv,rfl,hto,hb2'⟩);have hb2:Below w1.heap.size w1 w2:=zK ((zf _ _).drew) hb2';refine⟨zI.to (Mods.of_below hb2),?_⟩;obtain⟨pt,ct,rfl⟩:=hto.len;obtain⟨T',hT'⟩:=aY (zz (D.turns++U) []);rw[hT'] at hto ⊢;have hl':=HLT.o;rw[hT'] at hl';obtain⟨nt,hnt⟩:=aY T'.length;rw[hnt] at hl' ⊢;have hto':zG w1.heap.size 68 4 zb w2 (.slice pt nt ct) T':=by rw[<-hnt];exact hto
 have h2:=h1.below hb2;have hB2:=zK hB1 hb2;have c2:=h2.cell 2 _ rfl;have f2:w2.frozen? ⟨dp,2,none⟩=false:=by simp[World.frozen?,h2.st]
 have HT':=zA hT';have HNT:=zA hnt;clear hto hjn hb2' hT' hnt;refine aS ?_;go_wp2;refine aS ?_;go_wp2;refine aS ?_;go_wp2;refine xE ?_;generalize hw3:World.setCell _ _ _=w3;have g3:w3.heap[dp]?=some (.cells #[vl,vk,.slice pt nt ct,vd,.pointer (some ⟨sp,0,none⟩),.pointer (some ⟨mp,0,none⟩),(),(),()] 96 (0,0)):=by subst hw3;simp[World.setCell,zu,h2.st]
 have k3:∀q,q≠dp->(w2.setCell ⟨dp,2,none⟩ (.slice pt nt ct)).heap[q]?=w2.heap[q]?:=fun q hq=>zZ _ _ _ _ (by show ¬q=dp;exact hq);have o3:zG w1.heap.size 68 4 zb w3 (.slice pt nt ct) T':=by subst hw3;exact hto'.blk fun b e=>k3 b (by have:=hto'.ge e;omega)
 have hM3:Mods (fun b=>b=dp) w w3:=by subst hw3;exact(show Mods (fun b=>b=dp) w w2 from Mods.of_below hB2).setAt (p:=⟨dp,2,none⟩) (.inl rfl) _
 have v3:=(xA (w:=w2) (k3 w.heap.size (by omega))).trans ((hb2.cell (p:=⟨w.heap.size,0,none⟩) hul).trans v0);have hz3:w1.heap.size<=w3.heap.size:=by subst hw3;simp[World.setCell];exact hb2.size
 try simp only[hw3] at v3
 clear hw3 k3 c2 f2 hto' h2 hb2 hB2 h1 v0 v1 hdW w2;have hul3:w.heap.size<w3.heap.size:=by omega
 have hd3:=aL g3;have c3:=aC g3 2;have hhd:=zt6 (.slice pt nt ct) T' w3 (zG.slice (k:=4) (enc:=zb) (fun _=>rfl) o3) (by rw[HNT.o];omega) (by have:=HLT2.o;rw[HT'.o] at this;omega);obtain⟨R',hR'⟩:=aY (xf (xL (zz T' [])));rw[hR'] at hhd;have HR':=zA hR';clear hR';go_upto_region 10 with(go_at_call 44;refine hhd.mono ?_;rintro e w4 ⟨rv,rfl,hro,hb4⟩;obtain⟨pr,cr,rfl⟩:=hro.len;have g4:=(hb4.block dp hd3).trans g3;have d3:w4.cell? ⟨dp,3,none⟩=some vd:=(by simp[World.cell?,g4]);have f3:w4.frozen? ⟨dp,3,none⟩=false:=(by simp[World.frozen?,g4]));have k5:∀q,q≠dp->(w4.setCell ⟨dp,3,none⟩ (.slice pr R'.length cr)).heap[q]?=w4.heap[q]?:=fun q hq=>zZ _ _ _ _ (by show ¬q=dp;exact hq);obtain⟨nr,hnr⟩:=aY R'.length;have hnr6:nr<=1000000:=by rw[<-hnr,<-HR'.o];have h1:=zdk (xL (zz T' []));have h2:=zc3 (zz T' []);have h3:=HLT2.o;rw[HT'.o] at h3;omega
 rw[hnr] at k5 hro ⊢;generalize hw5:World.setCell _ _ _=w5;have g5:w5.heap[dp]?=some (.cells #[vl,vk,.slice pt nt ct,.slice pr nr cr,.pointer (some ⟨sp,0,none⟩),.pointer (some ⟨mp,0,none⟩),(),(),()] 96 (0,0)):=by subst hw5;simp[World.setCell,zu,g4]
 have r5:zG w3.heap.size 154 3 zY w5 (.slice pr nr cr) R':=by subst hw5;exact(show zG w3.heap.size 154 3 zY w4 (.slice pr nr cr) R' from hro).blk fun b e=>k5 b (by have:=(show zG w3.heap.size 154 3 zY w4 (.slice pr nr cr) R' from hro).ge e;omega)
 have o5:zG w1.heap.size 68 4 zb w5 (.slice pt nt ct) T':=by subst hw5;exact o3.blk fun b e=>(k5 b (by have:=o3.ge e;omega)).trans (hb4.block b (o3.lt e))
 have hM5:Mods (fun b=>b=dp) w w5:=by subst hw5;exact(hM3.trans (Mods.of_below hb4)).setAt (p:=⟨dp,3,none⟩) (.inl rfl) _
 have v5:=(xA (w:=w4) (k5 w.heap.size (by omega))).trans ((hb4.cell (p:=⟨w.heap.size,0,none⟩) hul3).trans v3);have hz5:w3.heap.size<=w5.heap.size:=by subst hw5;simp[World.setCell];exact hb4.size
 try simp only[hw5] at v5
 clear hw5 k5 d3 f3 hro hb4 g4 c3 hhd g3 o3 hM3 v3 hd3 hul3 w4;have hd5:=aL g5;have hul5:w.heap.size<w5.heap.size:=by omega
 have mp5:w5.heap[mp]?=some (.cells #[(),vh] 119 (0,0)):=(hM5.block mp (aL H.o.maps) H.o.ne.2).trans H.o.maps;have hh5:zx Φ 3 zY w5 vh D.dels:=H.o.hid.offP zcQ H.o.st H.o.noInt hM5.size fun q h1 h2=>hM5.block q h1 h2;have hcp:=ztZ mp vh D.dels w5 mp5 hh5 HDL.o (zk H.o.nn hM5.size);have c5:=aC g5 5;clear mp5 hh5;go_upto_region 11 with(go_at_call 45;refine hcp.mono ?_;rintro e w6 ⟨mp2,vh2,rfl,hmp2,hm2,hrx6,hb6⟩;have g6:=(hb6.block dp hd5).trans g5;have d5:w6.cell? ⟨dp,5,none⟩=some (.pointer (some ⟨mp,0,none⟩)):=(by simp[World.cell?,g6]);have f5:w6.frozen? ⟨dp,5,none⟩=false:=(by simp[World.frozen?,g6]));have k7:∀q,q≠dp->(w6.setCell ⟨dp,5,none⟩ (.pointer (some ⟨mp2,0,none⟩))).heap[q]?=w6.heap[q]?:=fun q hq=>zZ _ _ _ _ (by show ¬q=dp;exact hq);generalize hw7:World.setCell _ _ _=w7;have g7:w7.heap[dp]?=some (.cells #[vl,vk,.slice pt nt ct,.slice pr nr cr,.pointer (some ⟨sp,0,none⟩),.pointer (some ⟨mp2,0,none⟩),(),(),()] 96 (0,0)):=by subst hw7;simp[World.setCell,zu,g6]
 have hdm:mp2≠dp:=by omega
 have hwm2:w.heap.size<mp2:=by omega
 have m7:=(k7 mp2 hdm).trans hm2;have r7:zG w3.heap.size 154 3 zY w7 (.slice pr nr cr) R':=by subst hw7;exact r5.blk fun b e=>(k7 b (by have:=r5.ge e;omega)).trans (hb6.block b (r5.lt e))
 have o7:zG w1.heap.size 68 4 zb w7 (.slice pt nt ct) T':=by subst hw7;exact o5.blk fun b e=>(k7 b (by have:=o5.ge e;omega)).trans (hb6.block b (o5.lt e))
 have hM7:Mods (fun b=>b=dp) w w7:=by subst hw7;exact(hM5.trans (Mods.of_below hb6)).setAt (p:=⟨dp,5,none⟩) (.inl rfl) _
 have v7:=(xA (w:=w6) (k7 w.heap.size (by omega))).trans ((hb6.cell (p:=⟨w.heap.size,0,none⟩) hul5).trans v5);have hz7:w5.heap.size<=w7.heap.size:=by subst hw7;simp[World.setCell];exact hb6.size
 have hrl:∀b,(Value.slice pr nr cr).ownBlock=some b->b<w5.heap.size:=fun b e=>r5.lt e;have hol:∀b,(Value.slice pt nt ct).ownBlock=some b->b<w5.heap.size:=fun b e=>o5.lt e;try simp only[hw7] at m7 v7
 clear hw7 hrx6 k7 d5 f5 hb6 g6 hm2 c5 hcp g5 r5 o5 hM5 v5 hd5 hul5 w6;have hd7:=aL g7;have hm7l:=aL m7;have n5:=aD g7 5;have n3:=aD g7 3;refine xU 10 [0,1,2,3,4,5,6,7,8,9] [10] zX (aM ?_);refine aR ?_;have s1:w7.drew.cell? ⟨mp2,1,none⟩=some vh2:=by show w7.cell? _=_;simp[World.cell?,m7]
 have s2:w7.drew.frozen? ⟨mp2,1,none⟩=false:=by show w7.frozen? _=_;simp[World.frozen?,m7]
 clear n5 n3;refine aS ?_;go_wp2;refine xE ?_;have k8:∀q,q≠mp2->((w7.setCell ⟨mp2,1,none⟩ (.slice pr nr cr)).drew).heap[q]?=w7.heap[q]?:=fun q hq=>by show(w7.setCell ⟨mp2,1,none⟩ (.slice pr nr cr)).heap[q]?=_;exact zZ _ _ _ _ (by show ¬q=mp2;exact hq)
 have g8:=(k8 dp hdm.symm).trans g7;generalize hw8:World.drew _=w8;have m8:w8.heap[mp2]?=some (.cells #[(),.slice pr nr cr] 119 (0,0)):=by subst hw8;show(w7.setCell ⟨mp2,1,none⟩ (.slice pr nr cr)).heap[mp2]?=_;simp[World.setCell,zu,m7]
 have r8:zG w3.heap.size 154 3 zY w8 (.slice pr nr cr) R':=by subst hw8;exact r7.blk fun b e=>k8 b (by have:=hrl b e;omega)
 have o8:zG w1.heap.size 68 4 zb w8 (.slice pt nt ct) T':=by subst hw8;exact o7.blk fun b e=>k8 b (by have:=hol b e;omega)
 have hM8:Mods (fun b=>b=dp) w w8:=by subst hw8;exact(hM7.setAt (p:=⟨mp2,1,none⟩) (.inr (Nat.le_of_lt hwm2)) _).drew
 have v8:=(xA (w:=w7) (k8 w.heap.size (by omega))).trans v7;have hul8:w.heap.size<w8.heap.size:=by subst hw8;show _<(w7.setCell ⟨mp2,1,none⟩ (.slice pr nr cr)).heap.size;simp[World.setCell];omega
 try simp only[hw8] at g8 v8
 clear hw8 k8 s1 s2 g7 m7 r7 o7 hM7 v7 hd7 hm7l hrl hol hz7 w7;have HR8:=zA (show xe Φ w8 dp vl vk (.slice pt nt ct) (.slice pr nr cr) (.slice pr nr cr) () sp mp2 (D.turn U) from by have h1:=H.o.renew hM8.size (fun q h1 h2=>hM8.block q h1 h2) g8 (zG.rowIn (k:=4) (enc:=zb) (fun _=>rfl) o8 (zk H.o.nn (by omega))) (zG.rowIn (k:=3) (enc:=zY) (fun _=>rfl) r8 (zk H.o.nn (by omega))) m8 ⟨_,_,_,rfl⟩ (Φ.up _ (zk H.o.nn (by omega)));unfold xm.turn;rw[HT'.o,HR'.o];exact h1);have HM8:=zA hM8;clear g8 m8 r8 o8 hM8;first
  |exact apT
  |exact apO):p:=h
theorem zth (dp:Nat) (vl vk vt vd vh:zJ) (sp mp:Nat) (D:xm) (uv:zJ) (U:List zL) (w:zC) (h:xe Φ w dp vl vk vt vd vh () sp mp D) (hu:zx Φ 4 zb w uv U)
 (hlen:D.turns.length+U.length<=4000) (k:(zz (D.turns++U) []).length<=4000) (e:(zz (zz (D.turns++U) []) []).length<=4000) (g:D.dels.length<=1000000):
 Calls zD 10 #[dp,.agg #[(),uv]] w (znZ Φ dp (D.turn U) w):=by
 have n:=h.lt;have H:=zA h;have HU:=zA hu;have HLT:=zA k;have HLT2:=zA e;have HDL:=zA g;obtain⟨l,m,f,_,_⟩:=hu.2;obtain⟨b,c⟩:=aY U.length;rw[c] at f;have o:b<=4000:=by omega
 have p:decide (16384<(b:Int))=false:=by simp;omega
 clear h hu k e c g;subst f;go_enter Tryz.func10,Tryz.ntmps10;go_upto_region 3 with fail;generalize j:World.alloc _ _=w1;obtain⟨hB1,a,-⟩:=aF j;have v0:=aC a 0;have v1:=aC a 1;have hul:=aL a;obtain⟨uv,d⟩:=aY (Value.slice l b m);rw[d] at HU;clear j a;rw[d] at v1;go_wp2;go_loopw [5] (fun i wr=>i= .int .i64 0/\w1=wr) (fun _ _=>0);case atStart=>exact⟨rfl,rfl⟩
 case round=>obtain⟨rfl,rfl⟩:=hrel;go_upto_region 8 with fail;have HTO:=trivial;exact zee
def m13(b:Nat)(a:zJ)(w:zC):Nat:=(match a with| .bool true=>1|_=>0)+(match w.cell? (b,8) with|some (.slice none _ _)=>0|_=>1)
theorem zna (dp:Nat) (vl vk vt vd vh:zJ) (sp mp:Nat) (D:xm) (g uv:zJ) (o:zQ) (N:Nat) (U:List zL) (w:zC) (h:xe Φ w dp vl vk vt vd vh () sp mp D) (hu:zx Φ 4 zb w uv U) (k:zx Φ 22 ze w g [o])
 (hlen:D.turns.length+U.length<=4000) (r:(zz (D.turns++U) []).length<=4000) (E:(zz (zz (D.turns++U) []) []).length<=4000) (y:D.dels.length<=1000000)
 (s:∀w,Calls zD 42 #[zS o] w fun e c=>e=(zB 0)/\Below w w c)
 (B:∀vl vk vt vd vh d sp mp w,xe Φ w dp vl vk vt vd vh d sp mp (D.turn U)->Calls zD 46 #[dp,zS o] w fun e c=>e= .returned (.tuple #[zS o,.bool true,.bool false])/\Below w w c)
 (I:o.kind=1\/o.kind=2) (x:1<=N) (C:1<=o.id.k) (l:o.id.k+N<=9007199254740992)
 (n:∀w,Calls zD 102 #[zS o] w fun e c=>e=(zB N)/\Below w w c) (hm:D.s.may ⟨o.id,o.left,o.right⟩=true) (t:∀i:Nat,i<N->(⟨o.id.c,o.id.k+i⟩:zF).rightB=true/\D.s.find ⟨o.id.c,o.id.k+i⟩=none)
 (m:D.s.l.length+N<=100000) (q:D.l.length<=100000) (hkn:D.known.length<=1000):
 Calls zD 10 #[dp,.agg #[g,uv]] w (znZ Φ dp ((D.turn U).plus o N) w):=by
 have Y:=h.lt;have H:=zA h;have HU:=zA hu;have HOV:=zA k;have HLT:=zA r;have HLT2:=zA E;have HDL:=zA y;have R:=zA s;have HRD:=zA B;have HKN:=zA fun vl vk vt vd vh d sp mp w (h:xe Φ w dp vl vk vt vd vh d sp mp (D.turn U))=>zte dp vl vk vt vd vh d sp mp (D.turn U) o N w h I x C l n hm t m q hkn;clear s B I x C l n hm t m q hkn;obtain⟨L,V,G,_,_⟩:=hu.2;obtain⟨j,A⟩:=aY U.length;rw[A] at G;have aa:j<=4000:=by omega
 have Z:decide (16384<(j:Int))=false:=by simp;omega
 obtain⟨ob,oo,oc,rfl,X⟩:∃ob oo oc,g= .slice (some ⟨ob,oo,none⟩) 1 oc/\∀i u,(ze o)[i]?=some u->w.cell? ⟨ob,oo+i,none⟩=some u:=by
  rcases k.1 with⟨_,e⟩|⟨b,off,cap,e,_,_,hc⟩
  ·cases e
  ·exact⟨b,off,cap,e,fun i u hu=>by have:=hc 0 o rfl i u hu;rwa[zfP,jD] at this⟩
 clear h hu k r E A y;subst G;go_enter Tryz.func10,Tryz.ntmps10;go_upto_region 3 with fail;generalize F:World.alloc _ _=w1;obtain⟨hB1,f,-⟩:=aF F;have v0:=aC f 0;have v1:=aC f 1;have hul:=aL f;clear F f;go_wp2;go_loopw [5] (fun i wr=>(i=zB 0\/i=zB 1)/\Below w1 w1 wr) (fun i _=>1 - (intOf i).toNat);case atStart=>exact⟨.inl rfl,zf _ _⟩
 case round=>
  obtain⟨hi,a⟩:=hrel;have z:=zK hB1 a;have J:=(a.cell (p:=w) hul).trans v0;have M:=(a.cell (p:=(w,1)) hul).trans v1;rcases hi with rfl|rfl
  ·have hld:(loadVar 66 (ob,oo)).run zD wr= .ok (zS o) wr:=zdg fun i u hu=>by
    have h1:=HOV.o.1.below z;rcases h1 with⟨e,_⟩|⟨b,off,cap,e,_,_,hc⟩
    ·cases e
    ·injection e with e1 e2 e3;injection e1 with e1;injection e1 with e1 e4;subst e1 e4;have:=hc 0 o rfl i u hu;rwa[zfP,jD] at this
   have W:=R.o wr;go_wp2_with (first|(refine xv (T:=66) (v:=zS o) rfl rfl rfl hld ?_)|(go_at_call 42;refine W.mono ?_;rintro e w2 ⟨rfl,hb2⟩));go_roundw;case rel=>exact⟨.inr rfl,zK a hb2⟩
   exact zde
  ·have O:w.heap.size<wr.heap.size:=(by have:=a.size;omega);clear hB1 v0 v1 hul a;revert z J M O;generalize wr=w1;intro hB1 v0 v1 hul;obtain⟨uv,K⟩:=aY (Value.slice L j V);rw[K] at HU v1;go_upto_region 8 with fail;exact zee
end
section
variable {Φ:yA}
theorem ztm(d:Nat)(l h k j p q:zJ)(o m:Nat)(D:xm)(c:Int)(w:zC)(a:xe Φ w d l h k j p q o m D)(n:0<=xN D.known c/\xN D.known c<9007199254740992):
 Calls zD 22 #[d,c] w fun g i=>g=(xN D.known c+1:)/\w=i:=by
 have f:=zkf h D.known c w a.known.1;have t:=a.cell 1 _ rfl;obtain⟨e,b⟩:=aY (xN D.known c);rw[b] at f n ⊢;have r:IntKind.u64.wrap (e+1)=e+1:=by simp[IntKind.wrap,IntKind.bits,IntKind.signed];omega
 clear a b;go_enter Tryz.func22,Tryz.ntmps22;go_wp2_with (go_at_call 79;refine f.mono ?_;rintro g s ⟨rfl,rfl⟩);go_ret;exact⟨rfl,rfl⟩
def ztn(l r:zF)(w:zC)(e:Ending)(w':zC):Prop:=e= .returned (.tuple #[.agg #[l.c,l.k],.agg #[r.c,r.k]])/\Below w w w'
theorem znd {p:Prop}(h:p:=by
 go_upto_region 6 with(go_at_call 61;refine hat.mono ?_;rintro e w5 ⟨x1,x2,x3,x4,b,rfl,hb5⟩);have hL5:=(hb5.block w.heap.size (by omega)).trans hL2;have hR5:=(hb5.block (w.heap.size+1) (by omega)).trans hR2;have hX5:=(hb5.block (w.heap.size+1+1) (by omega)).trans hX2;have hB5:=zK hB2 hb5;have hz5:w.heap.size+1+1<w5.heap.size:=by have:=hb5.size;omega
 generalize hw6:World.alloc _ _=w6;obtain⟨-,hU6,-⟩:=aF hw6;have hB6:Below w.heap.size w w6:=by subst hw6;exact hB5.alloc hB5.size _
 have hL6:w6.heap[w.heap.size]?=some (.cells #[zH,zH] 62 (0,0)):=by subst hw6;rw[zt,zN (by omega)];exact hL5
 have hR6:w6.heap[w.heap.size+1]?=some (.cells #[zH,zH] 62 (0,0)):=by subst hw6;rw[zt,zN (by omega)];exact hR5
 have hX6:w6.heap[w.heap.size+1+1]?=some (.cells #[l.c,l.k] 62 (0,0)):=by subst hw6;rw[zt,zN (by omega)];exact hX5
 have hul:=aL hU6;clear hw6;have m0:∀s:zI (fun b=>b=w.heap.size) w6,s.val.cell? (w.heap.size+1+1:)=l.c:=zI.cell (by show w.heap.size+1+1<w6.heap.size;omega) (by show ¬w.heap.size+1+1=w.heap.size;omega) (by simp[World.cell?,hX6]);have m1:∀s:zI (fun b=>b=w.heap.size) w6,s.val.cell? (w.heap.size+1+1,1)=l.k:=zI.cell (by show w.heap.size+1+1<w6.heap.size;omega) (by show ¬w.heap.size+1+1=w.heap.size;omega) (by simp[World.cell?,hX6]);have q0:∀s:zI (fun b=>b=w.heap.size) w6,s.val.cell? w5=r.c:=zI.cell hul (by show ¬w5.heap.size=w.heap.size;omega) (by simp[World.cell?,hU6]);have q1:∀s:zI (fun b=>b=w.heap.size) w6,s.val.cell? (w5,1)=r.k:=zI.cell hul (by show ¬w5.heap.size=w.heap.size;omega) (by simp[World.cell?,hU6]);refine xU 4 [0,1,2] [3,4] (fun b=>b=w.heap.size) (aM ?_);refine aR ?_;clear m0 m1 q0 q1;have hL7:w6.drew.heap[w.heap.size]?=some (.cells #[zH,zH] 62 (0,0)):=hL6;have hR7:w6.drew.heap[w.heap.size+1]?=some (.cells #[zH,zH] 62 (0,0)):=hR6;have hB7:Below w.heap.size w w6.drew:=hB6.drew;have hM7:Mods (fun b=>b=w.heap.size) w6 w6.drew:=(Mods.refl _ _).drew;generalize w6.drew=w7 at hL7 hR7 hB7 hM7 ⊢;have f0:w7.frozen? w=false:=by simp[World.frozen?,hL7]
 have f1:w7.frozen? (w,1)=false:=by simp[World.frozen?,hL7]
 have c0:=aC hL7 0;have c1:=aC hL7 1;refine aS ?_;go_wp2;have hM8:Mods (fun b=>b=w.heap.size) w6 ((w7.setCell w l.c).setCell (w,1) l.k):=(hM7.setC (p:=w) (.inl rfl) _).setC (p:=(w,1)) (.inl rfl) _;refine⟨zI.to hM8,?_⟩;generalize hw8:World.setCell _ _ _=w8;have hL8:w8.heap[w.heap.size]?=some (.cells #[l.c,l.k] 62 (0,0)):=by subst hw8;simp[World.setCell,zu,hL7]
 have hR8:w8.heap[w.heap.size+1]?=some (.cells #[zH,zH] 62 (0,0)):=by subst hw8;exact(zZ _ _ _ _ (by show ¬w.heap.size+1=w.heap.size;omega)).trans ((zZ _ _ _ _ (by show ¬w.heap.size+1=w.heap.size;omega)).trans hR7)
 have hB8:Below w.heap.size w w8:=by subst hw8;exact(hB7.setCell (p:=w) (zU _) _).setCell (p:=(w,1)) (zU _) _
 clear hw8 f0 f1 c0 c1;have f2:w8.frozen? (w.heap.size+1:)=false:=by simp[World.frozen?,hR8]
 have f3:w8.frozen? (w.heap.size+1,1)=false:=by simp[World.frozen?,hR8]
 have c2:=aC hR8 0;have c3:=aC hR8 1;refine aS ?_;go_wp2;generalize hw9:World.setCell _ _ _=w9;have hL9:w9.heap[w.heap.size]?=some (.cells #[l.c,l.k] 62 (0,0)):=by subst hw9;exact(zZ _ _ _ _ (by show ¬w.heap.size=w.heap.size+1;omega)).trans ((zZ _ _ _ _ (by show ¬w.heap.size=w.heap.size+1;omega)).trans hL8)
 have hR9:w9.heap[w.heap.size+1]?=some (.cells #[r.c,r.k] 62 (0,0)):=by subst hw9;simp[World.setCell,zu,hR8]
 have hB9:Below w.heap.size w w9:=by subst hw9;exact(hB8.setCell (p:=(w.heap.size+1:)) (zfa _) _).setCell (p:=(w.heap.size+1,1)) (zfa _) _
 clear hw9;refine xE ?_;have l0:=aC hL9 0;have l1:=aC hL9 1;have r0:=aC hR9 0;have r1:=aC hR9 1;go_wp2;refine yG (v:= .tuple #[.agg #[l.c,l.k],.agg #[r.c,r.k]]) ?_ rfl ⟨rfl,hB9⟩;simp[results,Tryz.results24,go_sem,l0,l1,r0,r1]):p:=h
theorem zne (x:Nat) (aj aH ah af a5 ap:zJ) (I az:Nat) (D:xm) (T:List zL) (p:Nat) (A B:List Nat) (l r:zF) (uv:zJ) (w:zC) (h:xe Φ w x aj aH ah af a5 ap I az D) (a8:D.s.order.length<=100000) (E:D.s.Wf)
 (an:zc 2 zn w uv (D.s.shown T)) (ad:qE D.s T p A B l r):
 Calls zD 24 #[x,uv,zB p] w (ztn l r w):=by
 have bl:=h.lt;have j:Below w w (((w.alloc (.cells #[zH,zH] 62)).alloc (.cells #[zH,zH] 62)).alloc (.cells #[zH,zH] 62)):=aB;have t:(((w.alloc (.cells #[zH,zH] 62)).alloc (.cells #[zH,zH] 62)).alloc (.cells #[zH,zH] 62)).heap[w.heap.size]?=some (.cells #[zH,zH] 62 (0,0)):=by rw[zt,zN (by simp only[qX];omega),zt,zN (by simp),zt,zP rfl]
 have o:(((w.alloc (.cells #[zH,zH] 62)).alloc (.cells #[zH,zH] 62)).alloc (.cells #[zH,zH] 62)).heap[w.heap.size+1]?=some (.cells #[zH,zH] 62 (0,0)):=by rw[zt,zN (by simp),zt,zP (by simp)]
 have c:(((w.alloc (.cells #[zH,zH] 62)).alloc (.cells #[zH,zH] 62)).alloc (.cells #[zH,zH] 62)).heap[w.heap.size+1+1]?=some (.cells #[zH,zH] 62 (0,0)):=by rw[zt,zP (by simp)]
 have ay:(((w.alloc (.cells #[zH,zH] 62)).alloc (.cells #[zH,zH] 62)).alloc (.cells #[zH,zH] 62)).heap.size=w+3:=by simp
 have be:=zA an;have K:=zA ad;have z:=zA h;have aZ:=zA (show ∀a,xe Φ a x aj aH ah af a5 ap I az D->Calls zD 61 #[I,zB A.length] a fun e ac=>∃(x1 x2 x3 x4:Int) (b:Bool),e= .returned (.tuple #[.agg #[r.c,r.k,x1,x2,x3,x4],.bool b])/\Below a a ac from fun a v=>by
  rcases znQ ad with⟨n,ar⟩|⟨b,n,ar⟩
  ·rw[n];refine(v.seq.at9_over (i:=A.length) (by omega)).mono ?_;rintro e ac ⟨rfl,h⟩;exact⟨0,0,0,0,false,rfl,h⟩
  ·refine(v.seq.at9 n).mono ?_;rintro e ac ⟨rfl,h⟩;rw[<-ar];exact⟨_,_,_,_,true,rfl,h⟩)
 clear h an ad;go_enter Tryz.func24,Tryz.ntmps24;go_upto_region 2 with fail;obtain⟨a,au⟩:=aY (((w.alloc (.cells #[zH,zH] 62)).alloc (.cells #[zH,zH] 62)).alloc (.cells #[zH,zH] 62));try simp only[au] at j t o c ay ⊢
 clear au;try simp only[qX]
 have a1:w.heap.size+1+1<a.heap.size:=by omega
 clear ay;have ab:=z.o.below j;have a2:=zA (be.o.below j);by_cases aP:p=0
 ·subst aP;have O:l=zT/\A= []:=by
   rcases K.o.left with⟨_,h1,X⟩|⟨h,_⟩
   ·exact⟨h1,X⟩
   ·omega
  have hat:=aZ.o a ab;rw[O.2] at hat;have ae:l=zT:=O.1;have hX2:a.heap[w.heap.size+1+1]?=some (.cells #[l.c,l.k] 62 (0,0)):=by rw[ae];exact c
  have hL2:=t;have hR2:=o;have hB2:=j;have a9:=ab.cell 4 _ rfl;clear O t o c j ae;exact znd
 ·have a6:(D.s.shown T)[p - 1]?=some l/\∃d f,A=d++[f]/\D.s.uid f=l:=by
   rcases K.o.left with⟨h,_⟩|⟨_,h1,X⟩
   ·omega
   ·exact⟨h1,X⟩
  obtain⟨Z,d,f,y,v⟩:=a6;have W:=K.o.ord;have a0:f<D.s.l.length:=(E.mem f).1 (by rw[W,y];simp);have av:D.s.find l=some f:=E.find_some.2 ⟨a0,v⟩;have aq:D.s.place f=d.length:=E.place_mid (A:=d) (B:=B) (k:=f) (by rw[W,y];simp);have aa:A.length=d.length+1:=by rw[y];simp
  have ao:D.s.pos l=(d.length:Int):=by unfold zE.pos zE.findP;rw[av];simp[aq]
  obtain⟨q,bn,rfl,_,ax⟩:=a2.o.shape;obtain⟨N,ag,rfl,ai,V⟩:=ax (p - 1) l Z;have a3:a.cell? (N,ag+(p - 1)*2)=l.c:=V 0 _ rfl;have n:a.cell? (N,ag+(p - 1)*2+1)=l.k:=V 1 _ rfl;obtain⟨ak,C⟩:=aY ((D.s.shown T).length);have bb:p - 1<ak:=by rw[<-C];exact(zw.1 Z).1
  have bi:ak<=100000:=by rw[<-C];refine zk (jV _ _) ?_;unfold zE.ids;rw[xk];exact a8
  obtain⟨F,aw⟩:∃F,p=F+1:=⟨p - 1,by omega⟩;have bo:(p:Int) - 1=F:=by omega
  rw[show p - 1=F by omega] at a3 n bb;have bm:(0:Int)<p:=by omega
  rw[C];have f0:a.frozen? (w.heap.size+1+1:)=false:=by simp[World.frozen?,c]
  have f1:a.frozen? (w.heap.size+1+1,1)=false:=by simp[World.frozen?,c]
  have c0:=aC c 0;have c1:=aC c 1;have bh:=zA aw;have bc:d.length<=100000:=by have h1:=E.place_lt a0;omega
  have bd:N<a:=ai;clear Z y v W ax V C aw aP ai av aq;go_upto_region 4 with fail;have Y:∀k,k≠w.heap.size+1+1->((a.setCell (w.heap.size+1+1:) l.c).setCell (w.heap.size+1+1,1) l.k).heap[k]?=a.heap[k]?:=fun k am=>(zZ _ _ _ _ (by show ¬k=w.heap.size+1+1;exact am)).trans (zZ _ _ _ _ (by show ¬k=w.heap.size+1+1;exact am));generalize G:World.setCell _ _ _=m;have u:m.heap[w.heap.size+1+1]?=some (.cells #[l.c,l.k] 62 (0,0)):=by subst G;simp[World.setCell,zu,c]
  have M:=(Y w (by omega)).trans t;have R:=(Y (w.heap.size+1) (by omega)).trans o;have J:Below w w m:=by subst G;exact(j.setCell (p:=(w.heap.size+1+1:)) (by show w.heap.size<=w.heap.size+1+1;omega) _).setCell (p:=(w.heap.size+1+1,1)) (by show w.heap.size<=w.heap.size+1+1;omega) _
  try simp only[G] at M R
  clear G f0 f1 c0 c1 a3 n Y c t o j ab a2 bd a1 a;have L:=z.o.below J;have bg:=L.lt;have ba:w.heap.size+1+1<m.heap.size:=aL u;have m0:=aD u 0;have m1:=aD u 1;have a7:∀s:zI zX m,s.val.cell? (x,4)=I:=zI.cell bg id (L.cell 4 _ rfl);have H:=(z.o.below J.drew).seq.findP9 l;rw[ao] at H;obtain⟨bj,al⟩:=aY d.length;rw[al] at H aa bc;have bf:=zA aa;clear ao al aa;refine xU 5 [0,1,2,3,4] [5,6,7] zX (aM ?_);refine aR ?_;clear m0 m1 a7;refine aS ?_;go_wp2_with (go_at_call 81;refine H.mono ?_;rintro e w3 ⟨rfl,g⟩);refine aS ?_;go_wp2;refine aS ?_;go_wp2;refine xE ?_;have g:Below m m w3:=zK ((zf _ _).drew) g;have hL2:=(g.block w (by omega)).trans M;have hR2:=(g.block (w.heap.size+1) (by omega)).trans R;have hX2:=(g.block (w.heap.size+1+1) ba).trans u;have hB2:=zK J g;have a1:w.heap.size+1+1<w3.heap.size:=aL hX2;have a4:=z.o.below hB2;have hat:=aZ.o w3 a4;rw[bf.o] at hat;have a9:=a4.cell 4 _ rfl;clear u M R J g H L;exact znd
end
end Go.Proofs.YtimlgcodecgecaaGreatDoor
