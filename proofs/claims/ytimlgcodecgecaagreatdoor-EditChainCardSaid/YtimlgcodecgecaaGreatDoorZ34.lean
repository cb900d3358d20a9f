/- The reference's functions of operations at embeds (quireref8.Len, names, Needs, Cut, Check). -/
import Derived.Test.YtimlgcodecgecaaGreatDoorZ33
import Derived.Test.YtimlgcodecgecaaGreatDoorZ25
set_option maxRecDepth 100000
set_option maxHeartbeats 20000000
set_option linter.all false
namespace Go.Proofs.YtimlgcodecgecaaGreatDoor
open Go.RowKit Go.Lib
theorem zkk(i l r:zF)(v:zr)(w:zC):
 Calls zD 102 #[zS (zj i l r v)] w fun d a=>d=(zB 1)/\Below w w a:=by
 change Calls zD 102 #[.agg #[i.c,i.k,zB 2,zH,l.c,l.k,r.c,r.k,.string ⟨#[]⟩,zB v.kind,zB v.n,.float .f64 v.f,.string v.s,.string ⟨#[]⟩,zH,zH,zH,zH,.bool false,zH,zH,.bool false]] w _;go_enter Tryz.func102,Tryz.ntmps102;go_upto_region 1 with fail;refine vr (zj i l r v) fun e b c=> ?_;have f:e.cell? (w,2)=(zB 2):=c.cells 2 _ rfl;go_wp2;go_ret;exact⟨rfl,b⟩
theorem znx(i l r:zF)(v:zr)(w:zC):Calls zD 101 #[zS (zj i l r v)] w (zns l r w):=by change Calls zD 101 #[.agg #[i.c,i.k,zB 2,zH,l.c,l.k,r.c,r.k,.string ⟨#[]⟩,zB v.kind,zB v.n,.float .f64 v.f,.string v.s,.string ⟨#[]⟩,zH,zH,zH,zH,.bool false,zH,zH,.bool false]] w _;go_enter Tryz.func101,Tryz.ntmps101;go_wp2;go_ret;refine⟨w.heap.size+1,rfl,aB,62,?_⟩;rw[zt,zP (by simp)]
theorem zuK(i l r:zF)(v:zr)(w:zC)(H:l=zT\/l.c=i.c)(D:r=zT\/r.c=i.c):
 Calls zD 105 #[zS (zj i l r v)] w fun I M=>I=()/\Below w w M:=by
 have K:=fun w=>znx i l r v w;have X:=zA (show ∀a,jP l r a=zT\/(jP l r a).c=i.c from fun a=>by
  unfold jP;split
  ·exact H
  ·split
   ·exact D
   ·exact .inl rfl)
 clear H D;change Calls zD 105 #[.agg #[i.c,i.k,zB 2,zH,l.c,l.k,r.c,r.k,.string ⟨#[]⟩,zB v.kind,zB v.n,.float .f64 v.f,.string v.s,.string ⟨#[]⟩,zH,zH,zH,zH,.bool false,zH,zH,.bool false]] w _;go_enter Tryz.func105,Tryz.ntmps105;go_upto_region 1 with fail;refine vr (zj i l r v) fun s B j=> ?_;go_upto_region 3 with(first|(refine xv (T:=66) (v:=zS (zj i l r v)) rfl rfl rfl j.load ?_)|(go_at_call 101;refine(K _).mono ?_;rintro I m ⟨d,rfl,u,n,q⟩));have A:=j.below u j.lt;have L:=zK B u;have W:=zA (fun a (J:a<5)=>zki q J);have E:d<m:=aL q;have F:m.cell? w=i.c:=A.cells 0 _ rfl;have V:=A.lt;have O:=zA L;clear j A B u L q K s;go_upto_region 4 with fail;go_loopw [3,5] (fun R p wr=>∃a:Nat,a<=5/\R=()/\p=zB a/\Below m m wr) (fun _ p _=>5 - (intOf p).toNat);case atStart=>exact⟨0,by omega,rfl,rfl,zf _ _⟩
 case round=>
  obtain⟨a,J,rfl,rfl,b⟩:=hrel;by_cases N:a<5
  ·have Z:(a:Int)<5:=(by omega);obtain⟨t,x⟩:=W.o a N;have c:=X.o a;obtain⟨e,G⟩:=aY (jP l r a);rw[G] at t x c;have Y:=b.size;have g:∀h:zM wr,h.val.cell? (d,a*2)=e.c:=zM.cell (by show d<_;omega) ((b.cell (p:=(d,a*2)) E).trans t);have k:∀h:zM wr,h.val.cell? (d,a*2+1)=e.k:=zM.cell (by show d<_;omega) ((b.cell (p:=(d,a*2+1)) E).trans x);have o:∀h:zM wr,h.val.cell? w=i.c:=zM.cell (by show w.heap.size<_;omega) ((b.cell (p:=w) V).trans F);have f:=fun s=>zcS e s;have z:=zA b;clear t x G F b;rcases c with rfl|c
   ·rw[show decide (zT=zT)=true from rfl] at f;have n:(!true)=false:=rfl;dsimp only[zT] at g k f;go_wp2;refine aG ?_;repeat(first|go_big_quiet_skip|(go_big_quiet_want;go_big_quiet_op;first|go_big_quiet_on|go_big_quiet_call ((go_at_call 98;exact xl (f _)))))
    refine aE ?_;intro W' hC' hBW';clear g k o hC';go_wp2;go_roundw;case rel=>exact⟨a+1,by omega,rfl,by go_num,zK z.o hBW'⟩
    case measure=>simp[intOf]<;> omega
   ·obtain⟨y,C⟩:∃y,decide (e=zT)=y:=⟨_,rfl⟩;rw[C] at f;have aa:(e.c !=i.c)=false:=(by simp[c]);clear C;rw[c] at g;have ab:(i.c !=i.c)=false:=(by simp);obtain⟨ac,ad⟩:=e;dsimp only at c;subst c;cases y
    ·have n:(!false)=true:=rfl;go_wp2;refine aG ?_;repeat(first|go_big_quiet_skip|(go_big_quiet_want;go_big_quiet_op;first|go_big_quiet_on|go_big_quiet_call ((go_at_call 98;exact xl (f _)))))
     refine aE ?_;intro W' hC' hBW';clear g k o hC';go_wp2;go_roundw;case rel=>exact⟨a+1,by omega,rfl,by go_num,zK z.o hBW'⟩
     case measure=>simp[intOf]<;> omega
    ·have n:(!true)=false:=rfl;go_wp2;refine aG ?_;repeat(first|go_big_quiet_skip|(go_big_quiet_want;go_big_quiet_op;first|go_big_quiet_on|go_big_quiet_call ((go_at_call 98;exact xl (f _)))))
     refine aE ?_;intro W' hC' hBW';clear g k o hC';go_wp2;go_roundw;case rel=>exact⟨a+1,by omega,rfl,by go_num,zK z.o hBW'⟩
     case measure=>simp[intOf]<;> omega
  ·obtain rfl:a=5:=(by omega);go_wp2;go_ret;exact⟨rfl,zK O.o b⟩
theorem zuL(i l r:zF)(v:zr)(w:zC):
 Calls zD 104 #[zS (zj i l r v),zB 0,zB 1] w fun j h=>j= .returned (.tuple #[zS (zj i l r v),.bool true])/\Below w w h:=by
 have d:=fun w=>zkk i l r v w;change Calls zD 104 #[.agg #[i.c,i.k,zB 2,zH,l.c,l.k,r.c,r.k,.string ⟨#[]⟩,zB v.kind,zB v.n,.float .f64 v.f,.string v.s,.string ⟨#[]⟩,zH,zH,zH,zH,.bool false,zH,zH,.bool false],zB 0,zB 1] w _;go_enter Tryz.func104,Tryz.ntmps104;go_upto_region 1 with fail;refine zbL (zj i l r v) zi fun s e b c k p=> ?_;go_upto_region 4 with(first|(refine xv (T:=66) (v:=zS (zj i l r v)) rfl rfl rfl b.load ?_)|(go_at_call 102;refine(d _).mono ?_;rintro u m ⟨rfl,a⟩));have g:=b.below a b.lt;have f:=c.below a c.lt;have q:=zK e a;clear b c e a d k p;have t:m.cell? (w,2)=(zB 2):=g.cells 2 _ rfl;have o:=zA (f.put (zj i l r v)).load;go_wp2_with (first|(refine xv (T:=66) (v:=zS (zj i l r v)) rfl rfl rfl g.load ?_)|(refine yx (T:=66) (v:=zS (zj i l r v)) rfl rfl rfl rfl (zR.store f (zj i l r v)) ?_));refine yG (v:= .tuple #[zS (zj i l r v),.bool true]) ?_ rfl ⟨rfl,yo q (by omega) _⟩;have n:=o.o;simp[results,zjy,asAddr,n]
theorem zny{p:Prop}(h:p:=by obtain⟨X1,hX⟩:=aY w1;rw[hX] at hbx hB ⊢;clear hb1 hc hf hz hX q0 q1 q2 q3 q4 q5 q6 q7 q8 q9 q10 q11 q12 q13 q14 q15 q16 q17 q18 q19 q20 q21 hz0 hnl hnr;have hz0:=hbx.lt;obtain⟨q0,q1,q2,q3,q4,q5,q6,q7,q8,q9,q10,q11,q12,q13,q14,q15,q16,q17,q18,q19,q20,q21⟩:=ecs hbx;go_upto_region 21 with(first|(go_at_call 23;refine(h2 _).mono ?_;rintro e w1 ⟨rfl,hb1⟩;obtain⟨hc,hf⟩:=yZ hb1;have hz:=zg (by assumption) hb1.size;have hbx:=hbx.below hb1 (by assumption);have hB:=zK hB hb1)|(go_at_call 98;refine(hnn _).mono ?_;rintro e w1 ⟨rfl,hb1⟩;obtain⟨hc,hf⟩:=yZ hb1;have hz:=zg (by assumption) hb1.size;have hbx:=hbx.below hb1 (by assumption);have hB:=zK hB hb1));obtain⟨Y,hY⟩:=aY w1;rw[hY] at hbx hB ⊢;clear hb1 hc hf hz hY q0 q1 q2 q3 q4 q5 q6 q7 q8 q9 q10 q11 q12 q13 q14 q15 q16 q17 q18 q19 q20 q21 hz0 hnn h2 nt hnk;go_upto_region 22 with(first|(refine xv (T:=66) (v:=zS (zj i l r v)) rfl rfl rfl hbx.load ?_)|(go_at_call 101;refine(hnm _).mono ?_;rintro e w2 ⟨nb,rfl,hb2,nt,hnb⟩));exact znv):p:=h
theorem zuM (i l r:zF) (v:zr) (m k:Bool) (w:zC) (c:i.rightB=true) (d:WV v)
 (h:∀w,Calls zD 97 #[.agg #[l.c,l.k]] w fun e a=>e= .returned (.bool true)/\Below w w a)
 (f:∀w,Calls zD 97 #[.agg #[r.c,r.k]] w fun e a=>e= .returned (.bool true)/\Below w w a)
 (hnl:∀w,Calls zD 98 #[.agg #[l.c,l.k]] w fun e a=>e= .returned (.bool m)/\Below w w a)
 (hnr:∀w,Calls zD 98 #[.agg #[r.c,r.k]] w fun e a=>e= .returned (.bool k)/\Below w w a)
 (g:∀j,jP l r j=zT\/((jP l r j).c=i.c/\(jP l r j).k<i.k)):
 Calls zD 42 #[zS (zj i l r v)] w fun e a=>e=(zB 0)/\Below w w a:=by
 have b:=fun w=>zkg i w;rw[c] at b;have hik:1<=i.c/\1<=i.k:=by simp[zF.rightB,xi] at c;omega
 have HOWN:=zA g;have hnn:∀w,Calls zD 98 #[.agg #[zH,zH]] w fun e a=>e= .returned (.bool true)/\Below w w a:=fun w=>zcS zT w;have h2:=zhw v d;have hnk:(v.kind !=5)=true:=by rcases d with rfl|rfl|⟨o,rfl⟩|⟨p,rfl⟩|rfl<;> rfl
 have hnm:=fun w=>znx i l r v w;have nt:(!true)=false:=rfl;have HIK:=zA hik;clear g c hik d;change Calls zD 42 #[.agg #[i.c,i.k,zB 2,zH,l.c,l.k,r.c,r.k,.string ⟨#[]⟩,zB v.kind,zB v.n,.float .f64 v.f,.string v.s,.string ⟨#[]⟩,zH,zH,zH,zH,.bool false,zH,zH,.bool false]] w _;go_enter Tryz.func42,Tryz.ntmps42;go_upto_region 1 with fail;refine vr (zj i l r v) fun n hB hbx=> ?_;obtain⟨q0,q1,q2,q3,q4,q5,q6,q7,q8,q9,q10,q11,q12,q13,q14,q15,q16,q17,q18,q19,q20,q21⟩:=ecs hbx;have hz0:=hbx.lt;go_upto_region 5 with(first|(go_at_call 96;refine(b _).mono ?_;rintro e w1 ⟨rfl,hb1⟩;obtain⟨hc,hf⟩:=yZ hb1;have hz:=zg (by assumption) hb1.size;have hbx:=hbx.below hb1 (by assumption);have hB:=zK hB hb1)|(go_at_call 97;refine(h _).mono ?_;rintro e w1 ⟨rfl,hb1⟩;obtain⟨hc,hf⟩:=yZ hb1;have hz:=zg (by assumption) hb1.size;have hbx:=hbx.below hb1 (by assumption);have hB:=zK hB hb1)|(go_at_call 97;refine(f _).mono ?_;rintro e w1 ⟨rfl,hb1⟩;obtain⟨hc,hf⟩:=yZ hb1;have hz:=zg (by assumption) hb1.size;have hbx:=hbx.below hb1 (by assumption);have hB:=zK hB hb1));obtain⟨q,hX⟩:=aY w1;rw[hX] at hbx hB ⊢;clear hb1 hc hf hz hX q0 q1 q2 q3 q4 q5 q6 q7 q8 q9 q10 q11 q12 q13 q14 q15 q16 q17 q18 q19 q20 q21 hz0 b h f;have hz0:=hbx.lt;obtain⟨q0,q1,q2,q3,q4,q5,q6,q7,q8,q9,q10,q11,q12,q13,q14,q15,q16,q17,q18,q19,q20,q21⟩:=ecs hbx;go_upto_region 6 with(first|(go_at_call 98;refine(hnl _).mono ?_;rintro e w1 ⟨rfl,hb1⟩;obtain⟨hc,hf⟩:=yZ hb1;have hz:=zg (by assumption) hb1.size;have hbx:=hbx.below hb1 (by assumption);have hB:=zK hB hb1)|(go_at_call 98;refine(hnr _).mono ?_;rintro e w1 ⟨rfl,hb1⟩;obtain⟨hc,hf⟩:=yZ hb1;have hz:=zg (by assumption) hb1.size;have hbx:=hbx.below hb1 (by assumption);have hB:=zK hB hb1))
 ·skip;exact zny
 ·skip;exact zny
theorem zuN(i l r:zF)(v:zr)(w:zC)(d:i.rightB=true)(e:WV v)(b:vC i l)(a:vC i r):
 Calls zD 42 #[zS (zj i l r v)] w fun f c=>f=(zB 0)/\Below w w c:=by
 refine zuM i l r v (decide (l=zT)) (decide (r=zT)) w d e (fun w=>zhv l w (b.imp id (·.1))) (fun w=>zhv r w (a.imp id (·.1))) (fun w=>zcS l w) (fun w=>zcS r w) fun g=> ?_;unfold jP;split
 ·exact b.imp id (·.2)
 ·split
  ·exact a.imp id (·.2)
  ·exact .inl rfl
section
variable {Φ:yA}
structure xm where
 l:List zQ
 known:List zF
 turns:List zL
 dels:List zO
 s:zE
def zhp:xm:=⟨[],[],[],[],vT⟩
structure xe(Φ:yA)(w:zC)(dp:Nat)(vl vk vt vd vh vw:zJ)(sp mp:Nat)(D:xm):Prop where
 st:w.heap[dp]?=some (.cells #[vl,vk,vt,vd,sp,mp,(),(),vw] 96 (0,0))
 l:zx Φ 22 ze w vl D.l
 known:zx Φ 2 zn w vk D.known
 turns:zx Φ 4 zb w vt D.turns
 dels:zx Φ 3 zY w vd D.dels
 seq:yP Φ w sp D.s
 maps:w.heap[mp]?=some (.cells #[(),vh] 119 (0,0))
 hid:zx Φ 3 zY w vh D.dels
 wt:∃p n c,vw= .slice p n c
 nn:Φ.N<=w
 fd:Φ.F dp
 fm:Φ.F mp
def zbM(Φ:yA)(w:zC)(f:Nat)(D:xm):Prop:=∃d h e g a c b,xe Φ w f d h e g a () c b D
theorem xe.lt{w:zC}{a:Nat}{f i g h b j:zJ}{d c:Nat}{D:xm}(e:xe Φ w a f i g h b j d c D):a<w:=aL e.st
theorem xe.cell{w:zC}{e:Nat}{c g d f j h:zJ}{b a:Nat}{D:xm}(k:xe Φ w e c g d f j h b a D)(i:Nat)(v:zJ)(l:(#[c,g,d,f,b,a,(),(),h]:Array Value)[i]?=some v):w.cell? (e,i)=some v:=by simpa[World.cell?,k.st] using l
theorem xe.below{w w':zC}{d:Nat}{g j h i e k:zJ}{f c:Nat}{D:xm}(a:xe Φ w d g j h i e k f c D)(b:Below w w w'):xe Φ w' d g j h i e k f c D where
 st:=(b.block d a.lt).trans a.st
 l:=a.l.below b
 known:=a.known.below b
 turns:=a.turns.below b
 dels:=a.dels.below b
 seq:=a.seq.below b
 maps:=(b.block c (aL a.maps)).trans a.maps
 hid:=a.hid.below b
 wt:=a.wt
 nn:=zk a.nn b.size
 fd:=a.fd
 fm:=a.fm
theorem yP.to{b:yA}{w w':World}{c:Nat}{S:zE}(m:yP Φ w c S)(h:w.heap.size<=w'.heap.size)(d:∀a,Φ.F a->a<w.heap.size->w'.heap[a]?=w.heap[a]?)(hF:∀a,Φ.F a->a<w.heap.size->b.F a)(j:b.N<=w'.heap.size):yP b w' c S:=by obtain⟨o,k,e,n,f,i,g,l⟩:=m;exact⟨o,k,e,n,f,i,g.to h d hF j,l⟩
theorem xe.to{e:yA}{w w':World}{f:Nat}{i o j k m p:Value}{n g:Nat}{D:xm}(a:xe Φ w f i o j k m p n g D)(d:w.heap.size<=w'.heap.size)(b:∀c,Φ.F c->c<w.heap.size->w'.heap[c]?=w.heap[c]?)(hF:∀c,Φ.F c->c<w.heap.size->e.F c)(h:e.N<=w'.heap.size):xe e w' f i o j k m p n g D where
 st:=(b f a.fd a.lt).trans a.st
 l:=a.l.to d b hF
 known:=a.known.to d b hF
 turns:=a.turns.to d b hF
 dels:=a.dels.to d b hF
 seq:=a.seq.to d b hF h
 maps:=(b g a.fm (aL a.maps)).trans a.maps
 hid:=a.hid.to d b hF
 wt:=a.wt
 nn:=h
 fd:=hF _ a.fd a.lt
 fm:=hF _ a.fm (aL a.maps)
theorem zbM.mods{c:yA}{w w':World}{e:Nat}{D:xm}(d:zbM Φ w e D){G:Nat->Prop}(g:Mods G w w')(i:∀b,Φ.F b->b<w.heap.size->¬G b)(hF:∀b,Φ.F b->b<w.heap.size->c.F b)(h:c.N<=w'.heap.size):zbM c w' e D:=by obtain⟨j,q,k,l,m,o,n,d⟩:=d;exact⟨j,q,k,l,m,o,n,d.to g.size (fun b p f=>g.block b f (i b p f)) hF h⟩
theorem zx.offP {α:Type}{k:Nat}{enc:α->List Value}(A:∀b,∃n i,(enc b)[0]?=some (.int n i)){w w':World}{v:Value}{l:List α}(e:zx Φ k enc w v l){c:Nat}{j:Array Value}{E:TypeId}{f:Nat×Nat}(B:w.heap[c]?=some (.cells j E f))
 (r:∀(i:Nat) (n:IntKind) (z:Int),j[i]?≠some (Value.int n z)) (F:w.heap.size<=w'.heap.size) (q:∀a,a<w.heap.size->a≠c->w'.heap[a]?=w.heap[a]?):zx Φ k enc w' v l:=by
 refine⟨?_,e.2⟩;rcases e.1 with p|⟨a,t,C,y,x,o,h⟩
 ·exact .inl p
 ·refine .inr ⟨a,t,C,y,x,oa,fun g b d i D u=> ?_⟩;have m:a≠c:=by rintro rfl;obtain⟨n,z,s⟩:=A b;have:=h g b d 0 _ s;simp only[World.cell?,B,zcG,jW,jX] at this;exact r _ n z this
  have:=h g b d i D u;rw[<-this];exact xA (w:=w) (q a o m)
theorem zed(x:zQ):∃n i,(ze x)[0]?=some (.int n i):=⟨_,_,rfl⟩
theorem zfs(x:zF):∃n i,(zn x)[0]?=some (.int n i):=⟨_,_,rfl⟩
theorem zhq(x:zL):∃n i,(zb x)[0]?=some (.int n i):=⟨_,_,rfl⟩
theorem zcQ(x:zO):∃n i,(zY x)[0]?=some (.int n i):=⟨_,_,rfl⟩
theorem yP.offP{w w':World}{g j:Nat}{S:zE}{o:Array Value}{E:TypeId}{f:Nat×Nat}(v:yP Φ w g S)(e:w.heap[j]?=some (.cells o E f))(d:∀(i:Nat) (n:IntKind) (z:Int),o[i]?≠some (Value.int n z))(p:g≠j)(c:w.heap.size<=w'.heap.size)(b:∀h,h<w.heap.size->h≠j->w'.heap[h]?=w.heap[h]?):yP Φ w' g S:=by
 obtain⟨y,t,q,x,r,s,a,u⟩:=v;exact⟨y,t,q,x,r,s,{
  st:=(b g a.lt p).trans a.st
  nl:=a.nl.offP zn5 e d c b
  kids:=fun k l m=>⟨(a.kids k l m).1.offP zbO e d c b,(a.kids k l m).2.offP zbO e d c b⟩
  mo:=a.mo.offP zbO e d c b
  od:=a.od.offP zbO e d c b
  nn:=zk a.nn c
  fs:=a.fs},u⟩
theorem znV(w:zC)(d:Φ.N<=w):Calls zD 59 #[] w fun c b=>∃a,c= .returned (.pointer (some ⟨a,0,none⟩))/\zbM Φ b a zhp/\w.heap.size<=a/\Below w w b:=by
 go_enter Tryz.func59,Tryz.ntmps59;go_wp2;go_ret;refine⟨w.heap.size+2,rfl,⟨(),(),(),(),(),w.heap.size,w.heap.size+1,?_⟩,oa,aB⟩;exact {
  st:=oj
  l:=zx.nil
  known:=zx.nil
  turns:=zx.nil
  dels:=zx.nil
  seq:=yP.empty oi (Φ.up _ d) oj
  maps:=oj
  hid:=zx.nil
  wt:=⟨_,_,_,rfl⟩
  nn:=oi
  fd:=Φ.up _ oa
  fm:=Φ.up _ oa}
end
section
variable {Φ:yA}
theorem ztZ(d:Nat)(i:zJ)(a:List zO)(w:zC)(h:w.heap[d]?=some (.cells #[(),i] 119 (0,0)))(e:zx Φ 3 zY w i a)(q:a.length<=1000000)(s:Φ.N<=w):
 Calls zD 45 #[d] w fun g f=>∃j l,g= .returned (.pointer (some ⟨j,0,none⟩))/\w.heap.size<=j/\f.heap[j]?=some (.cells #[(),l] 119 (0,0))/\zx Φ 3 zY f l a/\Below w w f:=by
 have C:d<w:=aL h;have v:=aD h 0;have r:∀u:zI zX w,u.val.cell? (d,1)=some i:=zI.cell C id (by simp[World.cell?,h]);obtain⟨t,z,rfl,_,_⟩:=e.1.shape;have y:=zA e;have B:=zA q;clear h e q;go_enter Tryz.func45,Tryz.ntmps45;go_upto_region 1 with fail;refine xU 9 [0,1,2,3,5,6,7,8] [4,9,10,11,12] zX (aM ?_);refine aR ?_;refine aS ?_;go_wp2;refine⟨zI.to (Mods.refl _ _).drew,?_⟩;refine aS ?_;refine yz zaB rfl _ _ rfl w.heap.size () [] rfl zG.nil (.slice t a.length z) a rfl y.o.1.drew (by have:=B.o;simp only[xB];omega) (zU _) ?_;intro D b c n _;have o:Below w w b:=((zf _ _).drew).grown n (zU _) (fun E g=>by cases g);rw[xu] at c;obtain⟨k,p,rfl⟩:=c.len;have A:=zA c;have m:=zA o;clear c n o v r;go_wp2;refine aS ?_;go_wp2;refine aS ?_;go_wp2;refine aS ?_;go_wp2;refine xE ?_;go_wp2;go_ret;have x:Below b b (b.alloc (.cells #[(),.slice k a.length p] 119)):=aA;exact⟨b.heap.size,.slice k a.length p,rfl,m.o.size,World.alloc_heap_new _ _,(A.o.al _).rowIn zaB.len s,zK m.o x⟩
end
section
variable {Φ:yA}
theorem znW (e:Nat) (Y n Z aj au ag:zJ) (al ab:Nat) (D:xm) (a:zQ) (N:Nat) (w:zC) (h:xe Φ w e Y n Z aj au ag al ab D) (J:xN D.known a.id.c=a.id.k - 1) (ay:1<=a.id.k) (aP:a.id.k<9007199254740991) (a0:1<=N) (a2:N<=4096)
 (L:∀w,Calls zD 102 #[zS a] w fun d c=>d=(zB N)/\Below w w c) (hcut:∀w,Calls zD 104 #[zS a,zB 0,zB N] w fun d c=>d= .returned (.tuple #[zS a,.bool true])/\Below w w c)
 (aw:∀w,Calls zD 105 #[zS a] w fun d c=>d=()/\Below w w c):
 Calls zD 46 #[e,zS a] w fun d c=>d= .returned (.tuple #[zS a,.bool true,.bool false])/\Below w w c:=by
 have A:=fun w aa=>zkf n D.known a.id.c w aa;rw[J] at A;have ae:=h.lt;have O:=h.cell 1 _ rfl;have ac:=zA h.known;have a3:IntKind.u64.wrap (a.id.k - 1+1)=a.id.k:=og;clear h J;change Calls zD 46 #[e,.agg #[a.id.c,a.id.k,zB a.kind,a.stamp,a.left.c,a.left.k,a.right.c,a.right.k,.string a.text,zB a.v.kind,zB a.v.n,.float .f64 a.v.f,.string a.v.s,.string a.key,a.parent.c,a.parent.k,a.frm.c,a.frm.k,.bool a.frmA,a.til.c,a.til.k,.bool a.tilA]] w _;go_enter Tryz.func46,Tryz.ntmps46;go_upto_region 1 with fail;refine zbL a zi fun b s t z az aZ=> ?_;have M:b.cell? (e,1)=some n:=(s.cell (p:=(e,1)) ae).trans O;have H:b.cell? w=a.id.c:=t.cells 0 _ rfl;have ar:∀f:zI zX b,f.val.cell? (e,1)=some n:=zI.cell obs id M;have aq:=aV H;have G:=(ac.o.below s).1.drew;refine xU 7 [0,1,2,3,4,5,6] [7,8] zX (aM ?_);refine aR ?_;refine aS ?_;go_wp2_with (go_at_call 79;refine(A _ G).mono ?_;rintro d w3 ⟨rfl,rfl⟩);refine aS ?_;go_wp2;refine xE ?_;have k:Below b b b.drew:=(zf _ _).drew;have g:=t.below k t.lt;have o:=z.below k z.lt;have F:=zK s k;clear t z s ar aq M H G A O;generalize b.drew=E at k g o F ⊢;have W:E.cell? (w,1)=a.id.k:=g.cells 1 _ rfl;have aH:decide (a.id.k<a.id.k)=false:=oh;have ax:decide (N<=0)=false:=oi;go_upto_region 7 with(first|(refine xv (T:=66) (v:=zS a) rfl rfl rfl g.load ?_)|(go_at_call 102;refine(L _).mono ?_;rintro B m ⟨rfl,j⟩));have an:Below E E m:=j;have K:=g.below j g.lt;have V:=o.below j o.lt;have R:=zK F j;clear g o F W k an j;have I:∀b,(zR b w a/\zR b (w.heap.size+1) zi/\Below w w b)->∀l,Below b b l->(zR l w a/\zR l (w.heap.size+1) zi/\Below w w l):=fun b h l hb=>⟨h.1.below hb h.1.lt,h.2.1.below hb h.2.1.lt,zK h.2.2 hb⟩;have x:=zA I;clear I;have l1:∀c,(∃f:ji (fun b=>zR b w a/\zR b (w.heap.size+1) zi/\Below w w b),c=f.val)->(loadVar 66 w).run zD c= .ok (zS a) c:=by rintro _ ⟨f,rfl⟩;exact zR.load f.h.1
 have y:=zA (show zR m w a/\zR m (w.heap.size+1) zi/\Below w w m from⟨K,V,R⟩);clear K V R;refine zgf (.rd [0,1,2,3] (.one 4 (.one 5 (.rd [6,7,8] (.one 9 .nil))))) (fun c=>∃f:ji (fun b=>zR b w a/\zR b (w.heap.size+1) zi/\Below w w b),c=f.val) oe oe (fun _ _ am _ _ h=>by cases am<;> exact h) (ji.to (x.o _ y.o _ ((zf _ _).drew))) ?_;have ah:Nonempty (ji (fun b=>zR b w a/\zR b (w.heap.size+1) zi/\Below w w b)):=⟨⟨m,y.o⟩⟩;refine aT ?_;refine aO ?_;go_wp2_with (go_at_call 102;refine(L _).mono ?_;rintro B w6 ⟨rfl,ak⟩);have C:=zA (x.o _ y.o _ (zK ((zf _ _).drew) ak));refine⟨ji.to C.o,?_⟩;refine aO ?_;go_wp2_with (go_at_call 104;refine(hcut _).mono ?_;rintro B r ⟨rfl,ad⟩);have i:=zA (x.o _ C.o _ ad);refine⟨ji.to i.o,?_⟩;refine aT ?_;refine aO ?_;go_wp2_with (refine yx (T:=66) (v:=zS a) rfl rfl rfl rfl (zR.store i.o.1 a) ?_);have u:=zA (show zR (xx r w a) w a/\zR (xx r w a) (w.heap.size+1) zi/\Below w w (xx r w a) from⟨i.o.1.put _,i.o.2.1.other _ oa,yo i.o.2.2 oa _⟩);refine⟨ji.to u.o,?_⟩;refine jh ?_;generalize xx r w a=a1 at u ⊢;clear y C i l1 ah;have ap:=u.o.1;go_step;go_upto_region 9 with(first|(refine xv (T:=66) (v:=zS a) rfl rfl rfl ap.load ?_)|(go_at_call 105;refine(aw _).mono ?_;rintro B av ⟨rfl,af⟩));have q:=zA (x.o _ u.o _ af);have X:=q.o.1;go_upto_region 10 with fail;go_loopw [10] (fun p wr=>p=zB 0/\wr=av) (fun _ _=>0);case atStart=>exact⟨rfl,rfl⟩
 case round=>obtain⟨rfl,rfl⟩:=hrel;have ao:=zA (q.o.2.1.put a).load;go_wp2_with (first|(refine xv (T:=66) (v:=zS a) rfl rfl rfl X.load ?_)|(refine yx (T:=66) (v:=zS a) rfl rfl rfl rfl (zR.store q.o.2.1 a) ?_));refine yG (v:= .tuple #[zS a,.bool true,.bool false]) ?_ rfl ⟨rfl,yo q.o.2.2 oa _⟩;have ai:=ao.o;simp[results,Tryz.results46,asAddr,ai]
theorem zta(a:Nat)(c j d e f k:zJ)(h g:Nat)(D:xm)(i l r:zF)(t:ByteArray)(w:zC)(s:xe Φ w a c j d e f k h g D)(n:t.size<=1000000)(p:j9 t=true)(A:xN D.known i.c=i.k - 1)(x:1<=i.k)(q:i.k<9007199254740991)(v:l=zT\/l.c=i.c)(z:r=zT\/r.c=i.c):
 Calls zD 46 #[a,zS (zl i l r t)] w fun u m=>u= .returned (.tuple #[zS (zl i l r t),.bool true,.bool false])/\Below w w m:=by
 obtain⟨b,C,o⟩:=za0 p;have B:=zkO b;refine znW a c j d e f k h g D (zl i l r t) (zh t).length w s A x q oa o (fun w=>zkj i l r t w oa) (fun w=> ?_) fun w=>zuF i l r t w v z;have hcut:=zuJ i l r t 0 (zh t).length w n oa (zU _) oa oa;have y:zb2 i l r t 0 (zh t).length=zl i l r t:=by unfold zb2;rw[zkM b (zU _),zN oa];simp
 rwa[y] at hcut
end
section
variable {Φ:yA}
theorem ztb(a:Nat)(b h c d e j:zJ)(g f:Nat)(D:xm)(i l r:zF)(v:zr)(w:zC)(n:xe Φ w a b h c d e j g f D)(t:xN D.known i.c=i.k - 1)(q:1<=i.k)(m:i.k<9007199254740991)(o:l=zT\/l.c=i.c)(s:r=zT\/r.c=i.c):
 Calls zD 46 #[a,zS (zj i l r v)] w fun p k=>p= .returned (.tuple #[zS (zj i l r v),.bool true,.bool false])/\Below w w k:=
 znW a b h c d e j g f D (zj i l r v) 1 w n t q m (zU _) ol (fun w=>zkk i l r v w) (fun w=>zuL i l r v w) fun w=>zuK i l r v w o s
end
theorem zkS:zaA zD 36 66 22 ze where
 ht:=zfM
 hi:=by obtain⟨a,d,c,e,f⟩:=yI (by kernel_rfl:(Tryz.prog.info? 66).map (fun a=>(a.zero,a.size,a.bytes))=some (some (.agg (ze zi).toArray),22,200));exact⟨a,_,d,c,e,oa,rfl⟩
 k0:=ol
 len:=fun _=>rfl
 one:=fun g h b=>by simp[ze] at b;rcases b with rfl|rfl|rfl|rfl|rfl|rfl|rfl|rfl|rfl|rfl|rfl|rfl|rfl|rfl|rfl|rfl|rfl|rfl|rfl|rfl|rfl|rfl<;> rfl
theorem znX:Tryz.prog.underlying 36=some (.slice (Tryz.prog.elem 36)):=oe
theorem ztc(w:zC):(sizeOf (Tryz.prog.elem 36)).run zD w= .ok 22 w:=oe
section
variable {Φ:yA}
theorem xe.noInt{w:zC}{p:Nat}{c h d e q j:zJ}{g f:Nat}{D:xm}(b:xe Φ w p c h d e q j g f D):∀(i:Nat) (n:IntKind) (z:Int),(#[c,h,d,e,g,f,(),(),j]:Array Value)[i]?≠some (Value.int n z):=by
 obtain⟨_,_,r,_⟩:=b.l.2;obtain⟨_,_,l,_⟩:=b.known.2;obtain⟨_,_,m,_⟩:=b.turns.2;obtain⟨_,_,k,_⟩:=b.dels.2;obtain⟨_,_,_,o⟩:=b.wt;rw[r,l,m,k,o];intro i n z a;match i,a with
 |0,a=>simp at a
 |1,a=>simp at a
 |2,a=>simp at a
 |3,a=>simp at a
 |4,a=>simp at a
 |5,a=>simp at a
 |6,a=>simp at a
 |7,a=>simp at a
 |8,a=>simp at a
 |n+9,a=>rw[zcy oh] at a;cases a
theorem xe.ne{w:zC}{c:Nat}{g k h j f l:zJ}{e d:Nat}{D:xm}(b:xe Φ w c g k h j f l e d D):e≠c/\d≠c:=by
 constructor
 ·rintro rfl;obtain⟨_,_,_,_,_,_,i,_⟩:=b.seq;have:=i.st.symm.trans b.st;simp at this
 ·rintro rfl;have:=b.maps.symm.trans b.st;simp at this
theorem xe.setL{w b:zC}{e:Nat}{p m h i j n v:zJ}{k g:Nat}{D:xm}{l':List zQ}(a:xe Φ b e p m h i j n k g D)(q:zx Φ 22 ze b v l'):xe Φ (b.setCell e v) e v m h i j n k g {D with l:=l'}:=by
 have d:b.heap.size<=(b.setCell e v).heap.size:=oaE;have c:∀f,f<b.heap.size->f≠e->(b.setCell e v).heap[f]?=b.heap[f]?:=fun f _ o=>zZ _ _ _ _ (by show ¬f=e;exact o);exact {
  st:=oaw
  l:=q.offP zed a.st a.noInt d c
  known:=a.known.offP zfs a.st a.noInt d c
  turns:=a.turns.offP zhq a.st a.noInt d c
  dels:=a.dels.offP zcQ a.st a.noInt d c
  seq:=a.seq.offP a.st a.noInt a.ne.1 d c
  maps:=(c g (aL a.maps) a.ne.2).trans a.maps
  hid:=a.hid.offP zcQ a.st a.noInt d c
  wt:=a.wt
  nn:=zk a.nn d
  fd:=a.fd
  fm:=a.fm}
theorem xe.setK{c:zC}{f:Nat}{i r j k m o v:zJ}{n h:Nat}{D:xm}{l':List zF}(b:xe Φ c f i r j k m o n h D)(q:zx Φ 2 zn c v l'):xe Φ (c.setCell (f,1) v) f i v j k m o n h {D with known:=l'}:=by
 have e:c.heap.size<=(c.setCell (f,1) v).heap.size:=oaE;have d:∀g,g<c.heap.size->g≠f->(c.setCell (f,1) v).heap[g]?=c.heap[g]?:=fun g _ p=>zZ _ _ _ _ (by show ¬g=f;exact p);exact {
  st:=by simp[World.setCell,zu,b.st]
  l:=b.l.offP zed b.st b.noInt e d
  known:=q.offP zfs b.st b.noInt e d
  turns:=b.turns.offP zhq b.st b.noInt e d
  dels:=b.dels.offP zcQ b.st b.noInt e d
  seq:=b.seq.offP b.st b.noInt b.ne.1 e d
  maps:=(d h (aL b.maps) b.ne.2).trans b.maps
  hid:=b.hid.offP zcQ b.st b.noInt e d
  wt:=b.wt
  nn:=zk b.nn e
  fd:=b.fd
  fm:=b.fm}
theorem xe.setS{c:zC}{b:Nat}{j o k m n p:zJ}{t h f:Nat}{D:xm}{i:zE}(a:xe Φ c b j o k m n p t h D)(u:yP Φ c f i)(q:f≠b):xe Φ (c.setCell (b,4) f) b j o k m n p f h {D with s:=i}:=by
 have e:c.heap.size<=(c.setCell (b,4) f).heap.size:=oaE;have d:∀g,g<c.heap.size->g≠b->(c.setCell (b,4) f).heap[g]?=c.heap[g]?:=fun g _ r=>zZ _ _ _ _ (by show ¬g=b;exact r);exact {
  st:=oaw
  l:=a.l.offP zed a.st a.noInt e d
  known:=a.known.offP zfs a.st a.noInt e d
  turns:=a.turns.offP zhq a.st a.noInt e d
  dels:=a.dels.offP zcQ a.st a.noInt e d
  seq:=u.offP a.st a.noInt q e d
  maps:=(d h (aL a.maps) a.ne.2).trans a.maps
  hid:=a.hid.offP zcQ a.st a.noInt e d
  wt:=a.wt
  nn:=zk a.nn e
  fd:=a.fd
  fm:=a.fm}
end
section
variable {Φ:yA}
theorem zti:zaA zD 76 62 2 zn where
 ht:=zjq
 hi:=by obtain⟨a,d,c,e,f⟩:=yI (by kernel_rfl:(Tryz.prog.info? 62).map (fun a=>(a.zero,a.size,a.bytes))=some (some (.agg #[zH,zH]),2,16));exact⟨a,_,d,c,e,oa,rfl⟩
 k0:=ol
 len:=fun _=>rfl
 one:=fun g h b=>by simp[zn] at b;rcases b with rfl|rfl<;> rfl
def xm.units(D:xm):List zF:=D.s.ids.filter fun i=>!j3 D.dels i
theorem znb(E:Nat)(ai ap aj F az aq:zJ)(av am:Nat)(D:xm)(w:zC)(h:xe Φ w E ai ap aj F az aq av am D)(ar:D.s.order.length<=100000):
 Calls zD 19 #[E] w (vu 62 2 zn D.units w):=by
 have a1:=h.lt;have au:=zA h;obtain⟨l,M⟩:=aY D.s.order.length;rw[M] at ar;have I:=zA M;have aZ:=h.cell 4 _ rfl;have c3:=h.cell 3 _ rfl;clear h M;go_enter Tryz.func19,Tryz.ntmps19;go_wp2;go_loopw [3,4] (fun al a wr=>∃(k:Nat) (v:zJ),al=v/\a=zB k/\k<=l/\zG w 62 2 zn wr v ((D.s.ids.take k).filter fun a=>!j3 D.dels a)/\Below w w wr) (fun _ a _=>l - (intOf a).toNat);case atStart=>exact⟨0,_,rfl,rfl,oa,zG.nil,zf _ _⟩
 case round=>
  obtain⟨k,v,rfl,rfl,a6,ad,hb⟩:=hrel;have m:=au.o.below hb;have a5:=m.lt;have a2:=m.cell 4 _ rfl;have z:=m.seq.len9;rw[I.o] at z;have H:=zA ad;have ab:=zA hb;have t:=zA m;clear ad hb m;by_cases af:k<l
  ·have a7:(k:Int)<l:=(by omega);obtain⟨o,T⟩:∃o,D.s.order[k]?=some o:=⟨_,xG (by rw[I.o];exact af)⟩;have a3:=fun L (b:Below wr wr L)=>t.o.below b;go_wp2_with (first|(go_at_call 60;refine z.mono ?_;rintro d L ⟨rfl,b⟩;have ae:=(t.o.below b).cell 4 _ rfl;have N:=(t.o.below b).seq.at9 T)|(go_at_call 61;refine N.mono ?_;rintro d w3 ⟨rfl,u⟩));have aP:(D.s.nd o).u.id=D.s.uid o:=rfl;rw[aP];obtain⟨c,O⟩:=aY (D.s.uid o);rw[O];generalize y:World.alloc _ _=e;obtain⟨-,Z,-⟩:=aF y;have G:Below wr wr e:=(by subst y;exact(zK b u).alloc (by have aa:=b.size;have ah:=u.size;omega) _);have i:∀(a:Nat) (B:zJ),(#[c.c,c.k]:Array Value)[a]?=some B->e.cell? (w3,a)=some B:=by
    subst y;intro a B f;match a,f with
    |0,f=>cases f;go_simp
    |1,f=>cases f;go_simp
    |a9+2,f=>simp at f
   have q:=aL Z;have a8:wr.heap.size<=w3.heap.size:=(by have aa:=b.size;have ah:=u.size;omega);clear y Z;have x:=t.o.below G;have W:=x.lt;have aH:∀n:zI zX e,n.val.cell? (E,3)=some F:=zI.cell W id (x.cell 3 _ rfl);have ak:∀n:zI zX e,n.val.cell? w3=c.c:=zI.cell q id (i 0 _ rfl);have aw:∀n:zI zX e,n.val.cell? (w3,1)=c.k:=zI.cell q id (i 1 _ rfl);have X:=ztu F D.dels c e.drew (x.dels.1.drew);refine xU 6 [0,1,2,3,4,5] [6,7] zX (aM ?_);refine aR ?_;clear aH ak aw;refine aS ?_;go_wp2_with (go_at_call 62;refine X.mono ?_;rintro d ac ⟨rfl,R⟩);have g:Below e e ac:=zK ((zf _ _).drew) R;obtain⟨C,K⟩:=aY (j3 D.dels c);rw[K];have A:=zK G g;have j:=zK ab.o A;have u0:=(g.cell (p:=w3) q).trans (i 0 _ rfl);have u1:=(g.cell (p:=(w3,1)) q).trans (i 1 _ rfl);have s:=H.o.blk fun r d=>A.block r (H.o.lt d);have Y:D.s.ids[k]?=some c:=(by show(D.s.order.map D.s.uid)[k]?=_;rw[qw,T];exact congrArg some O);have J:(D.s.ids.take (k+1)).filter (fun a=>!j3 D.dels a)=(D.s.ids.take k).filter (fun a=>!j3 D.dels a)++(if C then[] else[c]):=(by rw[vg,Y,zap];congr 1;cases C<;> simp[K]);have an:((D.s.ids.take k).filter (fun a=>!j3 D.dels a)).length<=100000:=(by have h1:=jV (fun a=>!j3 D.dels a) (D.s.ids.take k);have aa:(D.s.ids.take k).length<=k:=oaa;omega);obtain⟨ao,ag⟩:=aY ((D.s.ids.take k).filter (fun a=>!j3 D.dels a));rw[ag] at J s an;clear b u G R g x W X i A N ae Y K;have V:=zA J;clear J;cases C with
   |true=>
    refine aS ?_;go_wp2;refine xE ?_;go_wp2;go_roundw;case rel=>exact⟨k+1,_,rfl,ou,oa,by rw[V.o];simpa using s,j⟩
    simp[intOf];omega
   |false=>
    refine aS ?_;go_wp2;refine xE ?_;go_wp2_with (at_builtin;refine yz zti rfl _ _ rfl w.heap.size _ ao rfl (s.al _) _ [c] rfl (zc.one (k:=2) (enc:=zn) ac c 62) oE (by have:=j.size;simp;omega) ?_;intro a4 w6 ay ax _);have g:Below w w w6:=((j.alloc j.size _)).grown ax (by have:=j.size;simp;omega) (fun r d=>s.ge d);go_wp2;go_roundw;case rel=>exact⟨k+1,_,rfl,ou,oa,by rw[V.o];simpa using ay,g⟩
    simp[intOf];omega
  ·obtain rfl:k=l:=(by omega);go_wp2_with (go_at_call 60;refine z.mono ?_;rintro d L ⟨rfl,b⟩);go_ret;have a0:D.s.ids.length=k:=(by rw[<-I.o];exact xk ..);refine⟨_,rfl,?_,zK ab.o b⟩;have h1:=H.o;rw[zaX oa] at h1;exact h1.blk fun r d=>b.block r (h1.lt d)
end
def yb(r:xy):List Value:= [.string r.text,.bool r.embed,zB r.v.kind,zB r.v.n,.float .f64 r.v.f,.string r.v.s,()]
def jO(r:xy):ByteArray:=if r.embed then⟨#[239,191,188]⟩ else r.text
def qO:List xy->ByteArray
 | []=>⟨#[]⟩
 |r::l=>jO r++qO l
theorem ByteArray.append_empty'(a:ByteArray):a++(⟨#[]⟩:ByteArray)=a:=ByteArray.append_empty
theorem ByteArray.empty_append'(a:ByteArray):(⟨#[]⟩:ByteArray)++a=a:=ByteArray.empty_append
theorem zc1:∀(l:List xy) (r:xy),qO (l++[r])=qO l++jO r
 | [],r=>by simp only[qO,xu];rw[ByteArray.append_empty',ByteArray.empty_append']
 |x::l,r=>by simp[qO,zc1 l r,zhB]
theorem znc:∀(l:List xy) (k:Nat),(qO (l.take k)).size<=(qO l).size
 | [],_=>oh
 |_::_,0=>xO _
 |x::l,k+1=>by have:=znc l k;simp only[zfV,qO,zfQ];omega
theorem ztj(s F:zJ)(L:List xy)(w:zC)(q:zc 7 yb w s L)(D:L.length<=100000000)(y:(qO L).size<=1000000000):
 Calls zD 12 #[.agg #[s,F]] w fun B x=>B= .returned (.string (qO L))/\Below w w x:=by
 obtain⟨t,N,rfl,_,c⟩:=q.shape;obtain⟨d,h⟩:=aY L.length;rw[h] at D ⊢;have C:=zA c;have u:=zA h;clear q c h;go_enter Tryz.func12,Tryz.ntmps12;go_upto_region 1 with fail;generalize v:World.alloc _ _=k;obtain⟨n,g,-⟩:=aF v;have K:=aC g 0;have H:=aL g;clear v g;go_wp2;go_loopw [3,4] (fun E i wr=>∃a:Nat,E= .string (qO (L.take a))/\i=zB a/\a<=d/\k=wr) (fun _ i _=>d - (intOf i).toNat);case atStart=>exact⟨0,rfl,rfl,oa,rfl⟩
 case round=>
  obtain⟨a,rfl,rfl,M,rfl⟩:=hrel;by_cases A:a<d
  ·have I:(a:Int)<d:=(by omega);obtain⟨b,m⟩:∃b,L[a]?=some b:=⟨_,xG (by rw[u.o];exact A)⟩;obtain⟨f,e,rfl,o,c⟩:=C.o a b m;have J:k.cell? (f,e+a*7)=some (.string b.text):=(n.cell (p:=(f,e+a*7)) o).trans (c 0 _ rfl);have r:k.cell? (f,e+a*7+1)=some (.bool b.embed):=(n.cell (p:=(f,e+a*7+1)) o).trans (c 1 _ rfl);have j:qO (L.take (a+1))=qO (L.take a)++jO b:=(by rw[vg,m,<-zc1];rfl);have l:(qO (L.take a)).size+(jO b).size<=1000000000:=(by rw[<-zfQ,<-j];exact zk (znc L (a+1)) y);have p:=zA j;clear c m j;cases he:b.embed with
   |true=>
    rw[he] at r;have G:(qO (L.take a)).size<=1000000000:=oa;go_wp2;go_roundw;case rel=>exact⟨a+1,by rw[p.o];unfold jO;rw[he];rfl,ou,oa,trivial⟩
    simp[intOf];omega
   |false=>
    rw[he] at r;have G:(qO (L.take a)).size+b.text.size<=1000000000:=(by unfold jO at l;rw[he] at l;exact l);go_wp2;go_roundw;case rel=>exact⟨a+1,by rw[p.o];unfold jO;rw[he];rfl,ou,oa,trivial⟩
    simp[intOf];omega
  ·obtain rfl:a=d:=(by omega);have z:L.take a=L:=zaX (by rw[u.o];exact zU _);rw[z];go_wp2;go_ret;exact⟨rfl,n⟩
end Go.Proofs.YtimlgcodecgecaaGreatDoor
