/- The reference's edits: quireref15.Make of an insertion of text. -/
import Derived.Test.YtimlgcodecgecaaGreatDoorZ40
import Derived.Test.YtimlgcodecgecaaGreatDoorZ39
set_option maxRecDepth 100000
set_option maxHeartbeats 20000000
set_option linter.all false
namespace Go.Proofs.YtimlgcodecgecaaGreatDoor
open Go.RowKit Go.Lib
section
variable {Φ:yA}
def zft(o:zQ)(w:zC)(e:Ending)(w':zC):Prop:=∃a,e= .returned (.tuple #[.agg #[.slice (some ⟨a,0,none⟩) 1 1,()],zB 0])/\y8 w' a 0 o/\w.heap.size<=a/\a<w'.heap.size/\Below w w w'
def zef(n p m:Int):Bool:=decide (1<=m) && decide (0<=p) && decide (p<n) && decide (m<=n - p)
theorem znf {p:Prop}(h:p:=by
 have hobl:=hbx9.lt;have b1:decide (9007199254740991<K+1)=false:=by simp;omega
 have b2:IntKind.u64.wrap (N:Int)=N:=by simp[IntKind.wrap,IntKind.bits,IntKind.signed];omega
 have b3:IntKind.u64.wrap ((N:Int) - 1)=N - 1:=by simp[IntKind.wrap,IntKind.bits,IntKind.signed];omega
 have b4:IntKind.u64.wrap (9007199254740991 - (K+1))=9007199254740991 - (K+1):=by simp[IntKind.wrap,IntKind.bits,IntKind.signed];omega
 have b5:decide (9007199254740991 - (K+1)<(N:Int) - 1)=false:=by simp;omega
 have b6:¬(9007199254740991<K+1):=by omega
 have b7:¬(9007199254740991 - (K+1)<(N:Int) - 1):=by omega
 have hrl9:=aL hrb9;have hz9:=hB9.size;have hrc11:xQ (w9.alloc (.cells (ze (O)).toArray 66)) (w.heap.size+1):=(yV _ _ _ (by omega)).trans hrb9;have hbx11:zR (w9.alloc (.cells (ze (O)).toArray 66)) w9.heap.size (O):=zR.new w9 (O);have hB11:Below w.heap.size w (w9.alloc (.cells (ze (O)).toArray 66)):=hB9.alloc hB9.size _;have hu11:=hrc11;unfold xQ at hu11;have u0:(w9.alloc (.cells (ze (O)).toArray 66)).cell? (w.heap.size+1:)=():=by simp only[World.cell?,hu11];simp
 have u1:(w9.alloc (.cells (ze (O)).toArray 66)).cell? (w.heap.size+1,1)=():=by simp only[World.cell?,hu11];simp
 have uf:(w9.alloc (.cells (ze (O)).toArray 66)).frozen? (w.heap.size+1:)=false:=by simp only[World.frozen?,hu11];simp
 have uf1:(w9.alloc (.cells (ze (O)).toArray 66)).frozen? (w.heap.size+1,1)=false:=by simp only[World.frozen?,hu11];simp
 obtain⟨W11,hW11⟩:=aY (w9.alloc (.cells (ze (O)).toArray 66));rw[hW11] at hrc11 hbx11 hB11 hu11 u0 u1 uf uf1;go_wp2_with (first|(refine xv (T:=66) (v:=zS (O)) rfl rfl rfl hbx9.load ?_)|(refine zc9 (O) rfl _ rfl rfl ?_;rw[hW11];clear hW11));have a0:((W11.setCell (w.heap.size+1:) (.slice (some w9) 1 1)).setCell (w.heap.size+1,1) ()).cell? (w.heap.size+1:)=some (.slice (some w9) 1 1):=by simp[World.cell?,World.setCell,zu,hu11]
 have a1:((W11.setCell (w.heap.size+1:) (.slice (some w9) 1 1)).setCell (w.heap.size+1,1) ()).cell? (w.heap.size+1,1)=():=by simp[World.cell?,World.setCell,zu,hu11]
 have hbx12:zR ((W11.setCell (w.heap.size+1:) (.slice (some w9) 1 1)).setCell (w.heap.size+1,1) ()) w9.heap.size (O):=(zZ _ _ _ _ (by show ¬w9.heap.size=w.heap.size+1;omega)).trans ((zZ _ _ _ _ (by show ¬w9.heap.size=w.heap.size+1;omega)).trans hbx11);have hB12:=(hB11.setCell (p:=(w.heap.size+1:)) (by show w.heap.size<=w.heap.size+1;omega) (.slice (some w9) 1 1)).setCell (p:=(w.heap.size+1,1)) (by show w.heap.size<=w.heap.size+1;omega) ();refine yG (v:= .tuple #[.agg #[.slice (some w9) 1 1,()],zB 0]) ?_ rfl ⟨_,rfl,HO.o ▸ hbx12.cells,hz9,hbx12.lt,hB12⟩;simp[results,zjx,go_sem,a0,a1]):p:=h
theorem zto {p:Prop}(h:p:=by
 have hto:=HMt;clear hto;obtain⟨hok,h0,hN1⟩:=za0 ht;have hpn:¬(n:Int)<p:=by omega
 have hdn:decide ((n:Int)<p)=false:=by simp;omega
 go_upto_region 14 with fail;have hat:=zne dp vl vk vt vd vh vw sp mp D D.turns p A B l r (.slice up n uc) wc (H.o.below hB3) hN hwf HU3.o hsd;have hobl:=hbx3.lt;go_upto_region 15 with(go_at_call 24;refine hat.mono ?_;rintro e w4 ⟨rfl,hb4⟩;have hbx4:=hbx3.below hb4 hobl;have v4:w4.cell? (ob,4)=zH:=hbx4.cells 4 _ rfl;have v5:w4.cell? (ob,5)=zH:=hbx4.cells 5 _ rfl;have v6:w4.cell? (ob,6)=zH:=hbx4.cells 6 _ rfl;have v7:w4.cell? (ob,7)=zH:=hbx4.cells 7 _ rfl;have g4:=hbx4.f 4;have g5:=hbx4.f 5;have g6:=hbx4.f 6;have g7:=hbx4.f 7);have hbx5:zR ((((w4.setCell (ob,4) l.c).setCell (ob,5) l.k).setCell (ob,6) r.c).setCell (ob,7) r.k) ob {op0 c (K+1) with left:=l,right:=r}:=(hbx4.setL l).setR r;have hB5:Below w.heap.size w ((((w4.setCell (ob,4) l.c).setCell (ob,5) l.k).setCell (ob,6) r.c).setCell (ob,7) r.k):=by
  have h:=zK hB3 hb4;have ho:w.heap.size<=ob:=by omega
  exact(((h.setCell (p:=(ob,4)) ho _).setCell (p:=(ob,5)) ho _).setCell (p:=(ob,6)) ho _).setCell (p:=(ob,7)) ho _
 have hrc5:∀q,q≠ob->q<wc.heap.size->((((w4.setCell (ob,4) l.c).setCell (ob,5) l.k).setCell (ob,6) r.c).setCell (ob,7) r.k).heap[q]?=wc.heap[q]?:=fun q hne hq=>
  (zZ _ _ _ _ hne).trans ((zZ _ _ _ _ hne).trans ((zZ _ _ _ _ hne).trans ((zZ _ _ _ _ hne).trans (hb4.block _ hq))))
 generalize(((w4.setCell (ob,4) l.c).setCell (ob,5) l.k).setCell (ob,6) r.c).setCell (ob,7) r.k=w5 at hbx5 hB5 hrc5 ⊢;have he5:=(hrc5 w.heap.size (by omega) hel3).trans he3;have hrb5:xQ w5 (w.heap.size+1):=(hrc5 (w.heap.size+1) (by omega) (aL hrb3)).trans hrb3;clear v4 v5 v6 v7 g4 g5 g6 g7 hat hbx4 hb4 hrc5 he3 hrb3 hB3 hbx3 hel3 x0 x1 hobl HU3 w4 wc;have hel5:=aL he5;have y0:=aC he5 0;have y3:=aC he5 3;obtain⟨N,hN2⟩:=aY ((zh t).length);have hln:=zkx t (by omega) w5;have hchk:=fun w=>zkw t (by omega) w;rw[hok] at hchk;have hrs:=zkO hok;rw[hN2] at hln hN1 hkN hrs;have n1:decide ((N:Int)<1)=false:=by simp;omega
 have n2:decide (4096<(N:Int))=false:=by simp;omega
 go_upto_region 19 with(first|(go_at_call 25;refine hln.mono ?_;rintro e w6 ⟨rfl,hb6⟩;have y3':=(hb6.cell (p:=(w,3)) hel5).trans y3;have hck6:=hchk w6)|(go_at_call 26;refine hck6.mono ?_;rintro e w7 ⟨rfl,hb7⟩));have hb57:=zK hb6 hb7;have hobl:=hbx5.lt;have hbx7:=hbx5.below hb57 hobl;have he7:=(hb57.block _ hel5).trans he5;have hrb7:xQ w7 (w.heap.size+1):=(hb57.block _ (aL hrb5)).trans hrb5;have hB7:=zK hB5 hb57;have hel7:=aL he7;have e3:∀s:zI (fun b=>b=ob) w7,s.val.cell? (w,3)=some (.string t):=zI.cell hel7 (by show ¬w.heap.size=ob;omega) (by simp[World.cell?,he7]);have HN2:=zA hN2;clear y0 y3 y3' hln hchk hck6 hb6 hb7 hb57 he5 hrb5 hB5 hbx5 hel5 hobl hN2 w5;refine xU 4 [0,1,2] [3,4,5] (fun b=>b=ob) (aM ?_);refine aR ?_;have hbd:=hbx7.drew;have hMd:Mods (fun b=>b=ob) w7 w7.drew:=(Mods.refl _ _).drew;generalize w7.drew=w7d at hbd hMd ⊢;have o2:w7d.cell? (ob,2)=(zB 0):=hbd.cells 2 _ rfl;have f2:=hbd.f 2;refine aS ?_;go_wp2;have hbx8:zR (w7d.setCell (ob,2) (zB 1)) ob {opK c (K+1) 1 with left:=l,right:=r}:=hbd.setG rfl;have hM8:Mods (fun b=>b=ob) w7 (w7d.setCell (ob,2) (zB 1)):=hMd.setC (p:=(ob,2)) (.inl rfl) _;refine⟨zI.to hM8,?_⟩;generalize w7d.setCell (ob,2) (zB 1)=w8 at hbx8 hM8 ⊢;clear o2 f2 hbd hMd e3;have o8:w8.cell? (ob,8)=some (.string ⟨#[]⟩):=hbx8.cells 8 _ rfl;have f8:=hbx8.f 8;refine aS ?_;go_wp2;refine aS ?_;go_wp2;refine xE ?_;generalize hw9:World.setCell _ _ _=w9;have hbx9:zR w9 ob (zl ⟨c,K+1⟩ l r t):=by subst hw9;exact hbx8.setG rfl
 have hM9:Mods (fun b=>b=ob) w7 w9:=by subst hw9;exact hM8.setC (p:=(ob,8)) (.inl rfl) _
 clear hw9 o8 f8 hbx8 hM8;have hB9:Below w.heap.size w w9:=⟨hM9.os.trans hB7.os,hM9.tape.trans hB7.tape,hM9.output.trans hB7.output,zk hB7.size hM9.size,fun k hk=>(hM9.block k (zg hk hB7.size) (by omega)).trans (hB7.block k hk)⟩;have hrb9:xQ w9 (w.heap.size+1):=(hM9.block _ (aL hrb7) (by omega)).trans hrb7;clear hM9 hbx7 he7 hrb7 hB7 hel7;have z1:w9.cell? (ob,1)=(K+1:):=hbx9.cells 1 _ rfl;have z3:w9.cell? (ob,3)=zH:=hbx9.cells 3 _ rfl;obtain⟨O,hO⟩:=aX (zl ⟨c,K+1⟩ l r t);rw[<-hO] at hbx9;have HO:=zA hO;clear hO;exact znf):p:=h
theorem zhr {p:Prop}(h:p:=by
 have d3:decide (c<1)=false:=by simp;omega
 have d4:decide (9007199254740991<c)=false:=by simp;omega
 have hdl:=h.lt;have H:=zA h;have HCK:=zA (zhw v hv);have HUN:=zA fun W (hb:Below w.heap.size w W)=>znb dp vl vk vt vd vh vw sp mp D W (h.below hb) hN;have HNX:=zA fun W (hb:Below w.heap.size w W)=>ztm dp vl vk vt vd vh vw sp mp D c W (h.below hb) hk;clear h;rw[hu] at HUN;obtain⟨K,hK⟩:=aY (xN D.known c);rw[hK] at HNX hk;try rw[hK]
 go_enter Tryz.func8,Tryz.ntmps8;go_upto_region 3 with fail;generalize hW:World.alloc _ _=W;obtain⟨hB,he,-,-⟩:=aJ hW;have hrb:xQ W (w.heap.size+1):=by subst hW;unfold xQ;rw[zt,if_pos (by simp)]
 clear hW;have hu1:=HUN.o W hB;have hel:=aL he;have hrl:=aL hrb;go_upto_region 4 with(go_at_call 19;refine hu1.mono ?_;rintro e w1 ⟨uv,rfl,huo,hb1⟩);obtain⟨up,uc,rfl⟩:=huo.len;obtain⟨n,hn⟩:=aY ((D.s.shown D.turns).length);rw[hn] at huo hp ⊢;have hB1:=zK hB hb1;have he1:=(hb1.block _ hel).trans he;have hrb1:xQ w1 (w.heap.size+1):=(hb1.block _ hrl).trans hrb;have HU1:=zA (zG.slice (k:=2) (enc:=zn) (fun _=>rfl) huo);have hnx:=HNX.o w1 hB1;have hck:=HCK.o;have hel1:=aL he1;have HN:=zA hn;clear hu1 hb1 huo hel hrl he hrb hB hn W;go_upto_region 6 with(first|(go_at_call 22;refine hnx.mono ?_;rintro e _ ⟨rfl,rfl⟩)|(refine yx (T:=66) (v:=zS (op0 c (K+1))) rfl rfl rfl rfl (zR.store (zR.new w1 zi) (op0 c (K+1))) ?_));generalize hw2:xx _ _ _=w2;have hb2:Below w1.heap.size w1 w2:=by subst hw2;exact yo aA (zU _) _
 have hbx:zR w2 w1.heap.size (op0 c (K+1)):=by subst hw2;exact(zR.new w1 zi).put _
 have hob:w.heap.size+1<w1.heap.size:=aL hrb1;clear hw2;have he2:=(hb2.block _ hel1).trans he1;have hrb2:xQ w2 (w.heap.size+1):=(hb2.block _ (by omega)).trans hrb1;have hB2:=zK hB1 hb2;have HU2:=zA (HU1.o.below hb2);obtain⟨ob,hobe⟩:=aY w1.heap.size;rw[hobe] at hbx hob ⊢;clear hb2 he1 hrb1 hB1 HU1 hnx hel1 hobe w1;have hel2:=aL he2;have x0:=aC he2 0;have x1:=aC he2 1;have x2:=aC he2 2;have x4:=aC he2 4;have x5:=aC he2 5;have x6:=aC he2 6;have x7:=aC he2 7;have hck2:=hck w2;go_upto_region 8 with(go_at_call 23;refine hck2.mono ?_;rintro e w3 ⟨rfl,hb3⟩;have y4:=(hb3.cell (p:=(w,4)) hel2).trans x4);have hv5:(v.kind !=5)=true:=by rcases hv with rfl|rfl|⟨_,rfl⟩|⟨_,rfl⟩|rfl<;> rfl
 rw[hv5];have he3:=(hb3.block _ hel2).trans he2;have hrb3:xQ w3 (w.heap.size+1):=(hb3.block _ (aL hrb2)).trans hrb2;have hB3:=zK hB2 hb3;have HU3:=zA (HU2.o.below hb3);have hbx3:=hbx.below hb3 hbx.lt;have hel3:=aL he3;clear x0 x1 x2 x4 x5 x6 x7 y4 hck hck2 hb3 he2 hrb2 hB2 HU2 hbx hel2 w2;have x0:=aC he3 0;have x1:=aC he3 1;have x2:=aC he3 2;have hn5:n<=100000:=by rw[<-HN.o];refine zk (jV _ _) ?_;unfold zE.ids;rw[xk];exact hN
 have hwn:IntKind.i64.wrap ((n:Int) - p)=n - p:=by simp[IntKind.wrap,IntKind.bits,IntKind.signed];omega
 go_cut [13] (fun b wx=>b= .bool (zef n p m)/\wx=w3);case first=>
  go_wp2
  all_goals go_meet
  all_goals refine⟨congrArg Value.bool (zaK.2 ?_),rfl⟩
  all_goals simp only[zef,xr,xW,jW,false_iff,not_and]
  all_goals omega
 obtain⟨rfl,rfl⟩:=hcut;clear hwn x2;first
  |exact zto
  |exact ztp
  |exact ztq
  |exact ztr):p:=h
theorem zxm (dp:Nat) (vl vk vt vd vh vw:zJ) (sp mp:Nat) (D:xm) (p:Nat) (A B:List Nat) (l r:zF) (c m:Int) (t:ByteArray) (v:zr) (a:ByteArray) (w:zC) (h:xe Φ w dp vl vk vt vd vh vw sp mp D) (hN:D.s.order.length<=100000) (hwf:D.s.Wf)
 (hu:D.units=D.s.shown D.turns) (hp:p<=(D.s.shown D.turns).length) (hsd:qE D.s D.turns p A B l r) (hc:1<=c/\c<=9007199254740991) (hk:0<=xN D.known c/\xN D.known c<9007199254740992) (ht:j9 t=true) (b:t.size<=1000000) (hkN:xN D.known c+(zh t).length<=9007199254740991) (hv:WV v):
 Calls zD 8 #[dp,c,xc 1 p m t v a ()] w (zft (zl ⟨c,xN D.known c+1⟩ l r t) w):=by
 change Calls zD 8 #[dp,c,.agg #[zB 1,zB p,zB m,.string t,zB v.kind,zB v.n,.float .f64 v.f,.string v.s,.string a,()]] w _;have HMt:=trivial;exact zhr
end
section
variable {Φ:yA}
theorem zR.setVal{w:zC}{b:Nat}{o:zQ}(h:zR w b o)(v:zr):
 zR ((((w.setCell (b,9) (zB v.kind)).setCell (b,10) (zB v.n)).setCell (b,11) (.float .f64 v.f)).setCell (b,12) (.string v.s)) b {o with v:=v}:=by
 unfold zR at *;simp[World.setCell,zu,h,ze]
theorem ztp {p:Prop}(h:p:=by
 have hto:=HMe;clear hto;have hpn:¬(n:Int)<p:=by omega
 have hdn:decide ((n:Int)<p)=false:=by simp;omega
 go_upto_region 14 with fail;have hat:=zne dp vl vk vt vd vh vw sp mp D D.turns p A B l r (.slice up n uc) wc (H.o.below hB3) hN hwf HU3.o hsd;have hobl:=hbx3.lt;go_upto_region 15 with(go_at_call 24;refine hat.mono ?_;rintro e w4 ⟨rfl,hb4⟩;have hbx4:=hbx3.below hb4 hobl;have v4:w4.cell? (ob,4)=zH:=hbx4.cells 4 _ rfl;have v5:w4.cell? (ob,5)=zH:=hbx4.cells 5 _ rfl;have v6:w4.cell? (ob,6)=zH:=hbx4.cells 6 _ rfl;have v7:w4.cell? (ob,7)=zH:=hbx4.cells 7 _ rfl;have g4:=hbx4.f 4;have g5:=hbx4.f 5;have g6:=hbx4.f 6;have g7:=hbx4.f 7);have hbx5:zR ((((w4.setCell (ob,4) l.c).setCell (ob,5) l.k).setCell (ob,6) r.c).setCell (ob,7) r.k) ob {op0 c (K+1) with left:=l,right:=r}:=(hbx4.setL l).setR r;have hB5:Below w.heap.size w ((((w4.setCell (ob,4) l.c).setCell (ob,5) l.k).setCell (ob,6) r.c).setCell (ob,7) r.k):=by
  have h:=zK hB3 hb4;have ho:w.heap.size<=ob:=by omega
  exact(((h.setCell (p:=(ob,4)) ho _).setCell (p:=(ob,5)) ho _).setCell (p:=(ob,6)) ho _).setCell (p:=(ob,7)) ho _
 have hrc5:∀q,q≠ob->q<wc.heap.size->((((w4.setCell (ob,4) l.c).setCell (ob,5) l.k).setCell (ob,6) r.c).setCell (ob,7) r.k).heap[q]?=wc.heap[q]?:=fun q hne hq=>
  (zZ _ _ _ _ hne).trans ((zZ _ _ _ _ hne).trans ((zZ _ _ _ _ hne).trans ((zZ _ _ _ _ hne).trans (hb4.block _ hq))))
 generalize(((w4.setCell (ob,4) l.c).setCell (ob,5) l.k).setCell (ob,6) r.c).setCell (ob,7) r.k=w5 at hbx5 hB5 hrc5 ⊢;have he5:=(hrc5 w.heap.size (by omega) hel3).trans he3;have hrb5:xQ w5 (w.heap.size+1):=(hrc5 (w.heap.size+1) (by omega) (aL hrb3)).trans hrb3;clear v4 v5 v6 v7 g4 g5 g6 g7 hat hbx4 hb4 hrc5 he3 hrb3 hB3 hbx3 hel3 x0 x1 hobl HU3 w4 wc;have hel5:=aL he5;have y0:=aC he5 0;have y4:=aC he5 4;have y5:=aC he5 5;have y6:=aC he5 6;have y7:=aC he5 7;have hcl:=zuE v hv w5;obtain⟨z,hz⟩:=aY v.clean;rw[hz] at hcl ⊢;have hobl:=hbx5.lt;have hsf:=zbA;go_upto_region 54 with(go_at_call 27;refine hcl.mono ?_;rintro e w6 ⟨rfl,hb6⟩;have hbx6:=hbx5.below hb6 hobl;have o2:w6.cell? (ob,2)=(zB 0):=hbx6.cells 2 _ rfl;have f2:=hbx6.f 2;have v9:w6.cell? (ob,9)=(zB 0):=hbx6.cells 9 _ rfl;have v10:w6.cell? (ob,10)=(zB 0):=hbx6.cells 10 _ rfl;have v11:w6.cell? (ob,11)=some (.float .f64 0):=hbx6.cells 11 _ rfl;have v12:w6.cell? (ob,12)=some (.string ⟨#[]⟩):=hbx6.cells 12 _ rfl;have g9:=hbx6.f 9;have g10:=hbx6.f 10;have g11:=hbx6.f 11;have g12:=hbx6.f 12);generalize hw9:World.setCell _ _ _=w9;have hbx9:zR w9 ob (zj ⟨c,K+1⟩ l r z):=by subst hw9;exact zR.setVal (o:={opK c (K+1) 2 with left:=l,right:=r}) (hbx6.setG rfl) z
 have hB9:Below w.heap.size w w9:=by
  subst hw9;have h:=zK hB5 hb6;have ho:w.heap.size<=ob:=by omega
  exact((((h.setCell (p:=(ob,2)) ho _).setCell (p:=(ob,9)) ho _).setCell (p:=(ob,10)) ho _).setCell (p:=(ob,11)) ho _).setCell (p:=(ob,12)) ho _
 have hrb9:xQ w9 (w.heap.size+1):=by
  subst hw9;have hne:¬w.heap.size+1=ob:=by omega
  exact(zZ _ _ _ _ hne).trans ((zZ _ _ _ _ hne).trans ((zZ _ _ _ _ hne).trans ((zZ _ _ _ _ hne).trans ((zZ _ _ _ _ hne).trans ((hb6.block _ (aL hrb5)).trans hrb5)))))
 clear hw9;obtain⟨N,hN2⟩:∃N:Nat,N=1:=⟨1,rfl⟩;have c5:decide (9007199254740991 - (K+1)<0)=false:=by simp;omega
 have c6:¬(9007199254740991 - (K+1)<0):=by omega
 clear o2 f2 v9 v10 v11 v12 g9 g10 g11 g12 hbx6 hb6 hbx5 hB5 hrb5 he5 hel5 y0 y4 y5 y6 y7 hcl hobl;subst hz;have z1:w9.cell? (ob,1)=(K+1:):=hbx9.cells 1 _ rfl;have z3:w9.cell? (ob,3)=zH:=hbx9.cells 3 _ rfl;obtain⟨O,hO⟩:=aX (zj ⟨c,K+1⟩ l r v.clean);rw[<-hO] at hbx9;have HO:=zA hO;clear hO;exact znf):p:=h
theorem zxn (dp:Nat) (vl vk vt vd vh vw:zJ) (sp mp:Nat) (D:xm) (p:Nat) (A B:List Nat) (l r:zF) (c m:Int) (t:ByteArray) (v:zr) (a:ByteArray) (w:zC) (h:xe Φ w dp vl vk vt vd vh vw sp mp D) (hN:D.s.order.length<=100000) (hwf:D.s.Wf)
 (hu:D.units=D.s.shown D.turns) (hp:p<=(D.s.shown D.turns).length) (hsd:qE D.s D.turns p A B l r) (hc:1<=c/\c<=9007199254740991) (hk:0<=xN D.known c/\xN D.known c<9007199254740992) (hkN:xN D.known c+1<=9007199254740991) (hv:WV v):
 Calls zD 8 #[dp,c,xc 2 p m t v a ()] w (zft (zj ⟨c,xN D.known c+1⟩ l r v.clean) w):=by
 change Calls zD 8 #[dp,c,.agg #[zB 2,zB p,zB m,.string t,zB v.kind,zB v.n,.float .f64 v.f,.string v.s,.string a,()]] w _;have HMe:=trivial;exact zhr
end
section
variable {Φ:yA}
def zng(T:List zL)(w:zC)(e:Ending)(w':zC):Prop:=∃a,e= .returned (.tuple #[.agg #[(),a],zB 0])/\zG w 68 4 zb w' a T/\Below w w w'
theorem ztq {p:Prop}(h:p:=by
 have hto:=HMn;clear hto;rw[HN.o] at hno;rw[hno];have hrb0:=hrb3;unfold xQ at hrb3;have u0:wc.cell? (w.heap.size+1:)=():=by simp only[World.cell?,hrb3];simp
 have u1:wc.cell? (w.heap.size+1,1)=():=by simp only[World.cell?,hrb3];simp
 have uf:wc.frozen? (w.heap.size+1:)=false:=by simp only[World.frozen?,hrb3];simp
 have uf1:wc.frozen? (w.heap.size+1,1)=false:=by simp only[World.frozen?,hrb3];simp
 go_wp2;have a0:((wc.setCell (w.heap.size+1:) ()).setCell (w.heap.size+1,1) ()).cell? (w.heap.size+1:)=():=by simp[World.cell?,World.setCell,zu,hrb3]
 have a1:((wc.setCell (w.heap.size+1:) ()).setCell (w.heap.size+1,1) ()).cell? (w.heap.size+1,1)=():=by simp[World.cell?,World.setCell,zu,hrb3]
 have hB12:=(hB3.setCell (p:=(w.heap.size+1:)) (by show w.heap.size<=w.heap.size+1;omega) ()).setCell (p:=(w.heap.size+1,1)) (by show w.heap.size<=w.heap.size+1;omega) ();refine yG (v:= .tuple #[.agg #[(),()],zB 150]) ?_ rfl ⟨rfl,hB12⟩;simp[results,zjx,go_sem,a0,a1]):p:=h
theorem zxo (dp:Nat) (vl vk vt vd vh vw:zJ) (sp mp:Nat) (D:xm) (p:Nat) (c m:Int) (t:ByteArray) (v:zr) (a:ByteArray) (w:zC) (h:xe Φ w dp vl vk vt vd vh vw sp mp D) (hN:D.s.order.length<=100000)
 (hu:D.units=D.s.shown D.turns) (hp:p<=(D.s.shown D.turns).length) (hc:1<=c/\c<=9007199254740991) (hk:0<=xN D.known c/\xN D.known c<9007199254740992) (hv:WV v) (hno:zef (D.s.shown D.turns).length p m=false):
 Calls zD 8 #[dp,c,xc 3 p m t v a ()] w fun e b=>e= .returned (.tuple #[.agg #[(),()],zB 150])/\Below w w b:=by
 change Calls zD 8 #[dp,c,.agg #[zB 3,zB p,zB m,.string t,zB v.kind,zB v.n,.float .f64 v.f,.string v.s,.string a,()]] w _;have HMn:=trivial;exact zhr
end
section
variable {Φ:yA}
theorem ztr {p:Prop}(h:p:=by
 have hto:=HMd;clear hto;rw[HN.o] at hpm;have hsp:zef n p m=true:=by simp[zef];omega
 rw[hsp];have x2:=aC he3 2;have HC:=H.o.below hB3;obtain⟨L,hL⟩:=aY (D.s.shown D.turns);rw[hL] at HU3 hz HN hR;have HHU:=zA hu;clear hu;obtain⟨T,hT⟩:=aY D.turns;rw[hT] at hz hR;have HTN:=HC.turns;rw[hT] at HTN;have HT:=zA hT;have HL:=zA hL;have HR:=zA hR;clear hT hL hR;obtain⟨q,cap,e0,_,hcs⟩:=HU3.o.shape;have eq:up=q:=by injection e0
 subst eq;obtain⟨y0,hy0⟩:∃x,L[0]?=some x:=⟨_,xG (by rw[HN.o];omega)⟩;obtain⟨gb,go,rfl,hgb,_⟩:=hcs 0 y0 hy0;have HCC:=zA (show ∀j x,L[j]?=some x->wc.cell? (gb,go+j*2)=x.c/\wc.cell? (gb,go+j*2+1)=x.k from fun j x hj=>by obtain⟨b,off,e,_,hc⟩:=hcs j x hj;injection e with e;injection e with e1 e2;subst e1 e2;exact⟨hc 0 _ rfl,hc 1 _ rfl⟩);clear hcs e0 hy0;go_upto_region 28 with fail;go_loopw [14,15] (fun a i wr=>∃(k:Nat) (v:zJ),a=v/\i=zB k/\k<=m/\zG wc.heap.size 68 4 zb wr v (xj T ((L.drop p).take k))/\Below wc.heap.size wc wr) (fun _ i _=>m - (intOf i).toNat);case atStart=>exact⟨0,_,rfl,rfl,by omega,zG.nil,zf _ _⟩
 case round=>
  obtain⟨k,tv,rfl,rfl,hkm,ho,hbr⟩:=hrel;have hel:=(hbr.block _ hel3).trans he3;have x1:=aC hel 1;have x2:=aC hel 2;by_cases hk2:k<m
  ·obtain⟨q,hq⟩:=aY (p+k);have hpk:(p:Int)+(k:Int)=q:=(by omega);obtain⟨x,hx⟩:∃x,L[q]?=some x:=⟨_,xG (by rw[HN.o];omega)⟩;obtain⟨e0,e1⟩:=HCC.o q x hx;replace e0:=(hbr.cell (p:=(gb,go+q*2)) hgb).trans e0;replace e1:=(hbr.cell (p:=(gb,go+q*2+1)) hgb).trans e1;obtain⟨hxr,hx0,hx9⟩:=hz x (xn hx);have hkm:(k:Int)<m:=(by omega);have hqn:(q:Int)<n:=(by omega);go_upto_region 31 with fail;generalize hw2:World.alloc _ _=w2;obtain⟨hb2,hX,-⟩:=aF hw2;clear hw2;have hxl:=aL hX;have hBr:=zK hbr hb2;have hC2:=HC.below hBr;have hdl2:=hC2.lt;have ho2:=ho.blk fun b e=>hb2.block b (ho.lt e);have m2:∀s:zI zX w2,s.val.cell? (dp,2)=some vt:=zI.cell hdl2 id (hC2.cell 2 _ rfl);have q0:=aD hX 0;have q1:=aD hX 1;have hto:=zkV vt T x w2.drew ((HTN.1.below hBr).drew);obtain⟨z,hz0⟩:=aY (zd T x);rw[hz0] at hto hx0 hx9;have ez:IntKind.u64.wrap (z+1)=z+1:=(by simp[IntKind.wrap,IntKind.bits,IntKind.signed];omega);have dz:decide (9007199254740991<z+1)=false:=(by simp;omega);have hxk:0<=x.k/\x.k<9007199254740992:=(by simp[zF.rightB,xi] at hxr;omega);have ek:IntKind.u64.wrap (x.k+1)=x.k+1:=(by simp[IntKind.wrap,IntKind.bits,IntKind.signed];omega);refine xU 5 [0,1,2,3,4] [5,6,7] zX (aM ?_);refine aR ?_;clear m2 q0 q1;refine aS ?_;go_wp2_with (go_at_call 28;refine hto.mono ?_;rintro e w3 ⟨rfl,hb3'⟩);refine aS ?_;go_wp2;refine aS ?_;go_wp2;refine xE ?_;have hb3:Below w2.heap.size w2 w3:=zK ((zf _ _).drew) hb3';have r0:w3.cell? wr=x.c:=(hb3.cell (p:=wr) hxl).trans (by simp[World.cell?,hX]);have r1:w3.cell? (wr,1)=x.k:=(hb3.cell (p:=(wr,1)) hxl).trans (by simp[World.cell?,hX]);have ho3:=ho2.blk fun b e=>hb3.block b (ho2.lt e);have hB3':=zK hBr hb3;have hlk:(xj T ((L.drop p).take k)).length<=4000:=(by unfold xj;rw[xk,yn];omega);have hsn:xj T ((L.drop p).take (k+1))=xj T ((L.drop p).take k)++[⟨x.c,x.k,x.k+1,z+1⟩]:=(by unfold xj;rw[vg,ym,zct,hq,hx,<-hz0];rfl);have HSN:=zA hsn;obtain⟨LK,hLK⟩:=aY (xj T ((L.drop p).take k));rw[hLK] at HSN ho3 hlk;clear hto hb3 hb3' ho2 hC2 hdl2 hX hb2 hBr hsn e0 e1 hx hz0 hLK ho;go_wp2_with (at_builtin;refine yz zaR rfl _ _ rfl wc.heap.size _ LK rfl (ho3.al _) _ [⟨x.c,x.k,x.k+1,z+1⟩] rfl (zc.one (k:=4) (enc:=zb) w3 ⟨x.c,x.k,x.k+1,z+1⟩ 68) (by simp only[z7,xB];omega) (by have:=hB3'.size;simp;omega) ?_;intro v6 w6 ho6 hg6 _);have hb6:Below wc.heap.size wc w6:=(hB3'.alloc hB3'.size _).grown hg6 (by have:=hB3'.size;simp;omega) (fun b e=>ho3.ge e);go_wp2;go_roundw;case rel=>exact⟨k+1,_,rfl,by go_num,by omega,by rw[HSN.o];exact ho6,hb6⟩
   simp[intOf];omega
  ·obtain rfl:k=m:=(by omega);have hdm:decide ((k:Int)<k)=false:=(by simp);have hlk:(xj T ((L.drop p).take k)).length<=4000:=(by unfold xj;rw[xk,yn];omega);have htn:=zkb _ _ wr (zG.slice (k:=4) (enc:=zb) (fun _=>rfl) ho) hlk;rw[HR.o] at htn;have hrr:xQ wr (w.heap.size+1):=(hbr.block _ (aL hrb3)).trans hrb3;have hrl:=aL hrr;go_wp2_with (go_at_call 29;refine htn.mono ?_;rintro e w4 ⟨tw,rfl,ho4,hb4⟩;obtain⟨tp,tc,rfl⟩:=ho4.len;have hu4:xQ w4 (w.heap.size+1):=(hb4.block _ hrl).trans hrr;have u0:w4.cell? (w.heap.size+1:)=():=(by unfold xQ at hu4;simp only[World.cell?,hu4];simp);have u1:w4.cell? (w.heap.size+1,1)=():=(by unfold xQ at hu4;simp only[World.cell?,hu4];simp);have uf:w4.frozen? (w.heap.size+1:)=false:=(by unfold xQ at hu4;simp only[World.frozen?,hu4];simp);have uf1:w4.frozen? (w.heap.size+1,1)=false:=(by unfold xQ at hu4;simp only[World.frozen?,hu4];simp));have hB4:=zK hB3 (zK hbr hb4);unfold xQ at hu4;have a0:((w4.setCell (w.heap.size+1:) ()).setCell (w.heap.size+1,1) (.slice tp R.length tc)).cell? (w.heap.size+1:)=():=(by simp[World.cell?,World.setCell,zu,hu4]);have a1:((w4.setCell (w.heap.size+1:) ()).setCell (w.heap.size+1,1) (.slice tp R.length tc)).cell? (w.heap.size+1,1)=some (.slice tp R.length tc):=(by simp[World.cell?,World.setCell,zu,hu4]);have hB5:=(hB4.setCell (p:=(w.heap.size+1:)) (by show w.heap.size<=w.heap.size+1;omega) ()).setCell (p:=(w.heap.size+1,1)) (by show w.heap.size<=w.heap.size+1;omega) (.slice tp R.length tc);have ho5:zG wr.heap.size 68 4 zb ((w4.setCell (w.heap.size+1:) ()).setCell (w.heap.size+1,1) (.slice tp R.length tc)) (.slice tp R.length tc) R:=ho4.blk fun b e=>(by have hge:=ho4.ge e;exact(zZ _ _ _ _ (by show ¬b=w.heap.size+1;omega)).trans (zZ _ _ _ _ (by show ¬b=w.heap.size+1;omega)));refine yG (v:= .tuple #[.agg #[(),.slice tp R.length tc],zB 0]) ?_ rfl ⟨_,rfl,ho5.any (by have:=hB3.size;have:=hbr.size;omega),hB5⟩;simp[results,zjx,go_sem,a0,a1]):p:=h
theorem zxp (dp:Nat) (vl vk vt vd vh vw:zJ) (sp mp:Nat) (D:xm) (p m:Nat) (c:Int) (t:ByteArray) (v:zr) (a:ByteArray) (w:zC) (h:xe Φ w dp vl vk vt vd vh vw sp mp D) (hN:D.s.order.length<=100000)
 (hu:D.units=D.s.shown D.turns) (d:1<=m) (hpm:p+m<=(D.s.shown D.turns).length) (b:m<=4000) (hc:1<=c/\c<=9007199254740991) (hk:0<=xN D.known c/\xN D.known c<9007199254740992) (hv:WV v) (hz:∀x∈D.s.shown D.turns,x.rightB=true/\0<=zd D.turns x/\zd D.turns x<9007199254740991):
 Calls zD 8 #[dp,c,xc 3 p m t v a ()] w (zng (zz (xj D.turns (((D.s.shown D.turns).drop p).take m)) []) w):=by
 have hp:p<=(D.s.shown D.turns).length:=by omega
 obtain⟨R,hR⟩:=aY (zz (xj D.turns (((D.s.shown D.turns).drop p).take m)) []);rw[hR];change Calls zD 8 #[dp,c,.agg #[zB 3,zB p,zB m,.string t,zB v.kind,zB v.n,.float .f64 v.f,.string v.s,.string a,()]] w _;have HMd:=trivial;exact zhr
end
section
variable {Φ:yA}
theorem zui(w:zC)(i:Φ.N<=w):Calls zD 18 #[()] w fun c b=>∃a,c= .returned (.pointer (some ⟨a,0,none⟩))/\zbM Φ b a zhp/\w.heap.size<=a/\Below w w b:=by
 have f:=znV w i;go_enter Tryz.func18,Tryz.ntmps18;go_wp2_with (go_at_call 59;refine f.mono ?_;rintro c j ⟨a,rfl,e,h,d⟩);go_loopw [4] (fun g wr=>g=zB 0/\j=wr) (fun _ _=>0);case atStart=>exact⟨rfl,rfl⟩
 case round=>obtain⟨rfl,rfl⟩:=hrel;go_wp2;go_ret;exact⟨a,rfl,e,h,d⟩
theorem zuj:zaA zD 71 25 1 z6 where
 ht:=Tryz.underlying71
 hi:=by obtain⟨a,d,c,e,f⟩:=yI (by kernel_rfl:(Tryz.prog.info? 25).map (fun a=>(a.zero,a.size,a.bytes))=some (some (.pointer none),1,8));exact⟨a,_,d,c,e,oa,rfl⟩
 k0:=ol
 len:=fun _=>rfl
 one:=fun g h b=>by simp[z6] at b;rcases b with rfl;rfl
def zuk(w:zC)(e:Ending)(w':zC):Prop:=∃v,e= .returned (.tuple #[(),v])/\Below w w w'
theorem zul(w:zC):Calls zD 16 #[zB 2,()] w (zuk w):=by
 have y:∀w:zC,(Instr.makeSlice 141 (zB 2) (zB 2)).run zD w= .ok (.slice (some w) 2 2) (w.alloc (.cells #[zB 0,zB 0] 3)):=fun w=>oe;go_enter Tryz.func16,Tryz.ntmps16;go_wp2;generalize l:World.alloc _ _=z;obtain⟨r,-,-⟩:=aF l;clear l;go_loopw [6,9] (fun e a wr=>∃(k:Nat) (v:zJ) (d:List Nat),e=v/\a=zB k/\k<=2/\d.length=k/\zG w 25 1 z6 wr v d/\Below w w wr) (fun _ a _=>2 - (intOf a).toNat);case atStart=>exact⟨0,_,[],rfl,rfl,oa,rfl,zG.nil,r⟩
 case round=>
  obtain⟨k,v,d,rfl,rfl,B,o,i,hb⟩:=hrel;have m:=znV (Φ:=⟨fun _=>True,0,fun _ _=>trivial⟩) wr (xO _);by_cases x:k<2
  ·have u:(k:Int)<2:=(by omega);go_wp2_with (first|(go_at_call 59;refine m.mono ?_;rintro b s ⟨h,rfl,A,C,f⟩;have g:=i.blk fun j b=>f.block j (i.lt b);have c:=zK hb f)|(at_builtin;refine yz zuj rfl _ _ rfl w.heap.size _ d rfl (g.al _) _ [h] rfl (zc.one (k:=1) (enc:=z6) s h 25) oE (by have:=c.size;simp;omega) ?_;intro t w6 n q _));have p:Below w w w6:=(c.alloc c.size _).grown q (by have:=c.size;simp;omega) (fun j b=>g.ge b);go_wp2;go_roundw;case rel=>exact⟨k+1,_,_,rfl,ou,oa,by simp[o],n,p⟩
   simp[intOf];omega
  ·obtain rfl:k=2:=(by omega);go_wp2;go_loopw [7,10] (fun e a wx=>e=()/\a=zB 0/\wr=wx) (fun _ _ _=>0);case atStart=>exact⟨rfl,rfl,rfl⟩
   case round=>obtain⟨rfl,rfl,rfl⟩:=hrel;go_wp2;go_ret2;exact⟨_,rfl,hb⟩
end
theorem zum(w:zC):Calls zD 17 #[zB 1,zB 4] w fun c b=>c=(zB 1)/\w=b:=by go_enter Tryz.func17,Tryz.ntmps17;go_wp2;go_ret;exact⟨rfl,rfl⟩
def zku(N:Nat):yA:=⟨fun b=>N<=b,N,fun _ h=>h⟩
def zun(w:zC)(e:Ending)(w':zC):Prop:=∃a c b,e= .returned (.tuple #[(a+11:),.pointer (some ⟨c,0,none⟩)])/\w.heap.size<=a/\zb3 a b/\b.heap.size=a+12/\Below b b w'/\zbM (zku (a+12)) w' c zhp/\a+12<=c/\Below w w w'
theorem zuo(w:zC):Calls zD 5 #[zB 1,()] w (zun w):=by
 have m:=zum w;have g:=zul w;go_enter Tryz.func5,Tryz.ntmps5;go_upto_region 2 with(first|(go_at_call 17;refine m.mono ?_;rintro e _ ⟨rfl,rfl⟩)|(go_at_call 16;refine g.mono ?_;rintro e l ⟨v,rfl,d⟩));have i:=zmF l;go_upto_region 3 with(go_at_call 14;refine i.mono ?_;rintro e c ⟨rfl,k,f,h⟩);obtain⟨a,b⟩:=aY l.heap.size;have p:=zui (Φ:=zku (a+12)) c (by show a+12<=_;omega);have o:w<=a:=by rw[<-b];exact d.size
 have n:=zK d h;rw[b] at k f ⊢;clear i h d g m b;go_wp2;go_loopw [9] (fun q wx=>q=zB 0/\c=wx) (fun _ _=>0);case atStart=>exact⟨rfl,rfl⟩
 case round=>obtain⟨rfl,rfl⟩:=hrel;go_wp2_with (go_at_call 18;refine p.mono ?_;rintro e w3 ⟨r,rfl,s,t,j⟩);go_ret2;exact⟨a,r,c,rfl,o,k,f,j,s,oa,zK n j⟩
end Go.Proofs.YtimlgcodecgecaaGreatDoor
