/- Plain: texts as lists of runes: a text is right just where it is the bytes of right runes, and then of one list of them. -/
import Derived.Lib.MapLaws
import Derived.Lib.ValidU
import Derived.Lib.RuneCount
import Derived.Lib.RuneBytes
import Derived.Laws.Cover4
import Derived.Maps.OwnRows
import Derived.Test.YtimlgcodecgecaaGreatDoorZ09
import Derived.Shelf.Unicode.ValidAny
import Derived.Deep.WholeRow
import Derived.Test.YtimlgcodecgecaaGreatDoorZ07
set_option maxRecDepth 100000
set_option maxHeartbeats 20000000
set_option linter.all false
namespace Go.Proofs.YtimlgcodecgecaaGreatDoor
open Go.Lib
def yS(r:Int):Prop:=(0<=r/\r<55296)\/(57344<=r/\r<=1114111)
instance(r:Int):Decidable (yS r):=by unfold yS;infer_instance
def yC(rs:List Int):List UInt8:=rs.flatMap encodeRune
def xo(rs:List Int):ByteArray:=runesBytes rs
theorem zcb(n:Nat)(_:n<256)(z:Int)(a:z=n):z.toNat.toUInt8=UInt8.ofNat n:=by subst a;simp[Nat.toUInt8]
theorem zpR(r:Int)(b:yS r):(Utf8.encode r).data.toList=encodeRune r:=by
 have g:Utf8.valid r=true:=by unfold Utf8.valid;unfold yS at b;simp;omega
 have f:0<=r:=by unfold yS at b;omega
 obtain⟨a,rfl⟩:=zjS f;unfold yS at b;unfold Utf8.encode encodeRune;simp only[g,vJ,zj3];by_cases d:a<128
 ·rw[zP d,encodeRuneZ_one oa oa];simp[Nat.toUInt8]
 ·rw[zN d];by_cases c:a<2048
  ·rw[zP c,encodeRuneZ_two oa oa];simp only[xd,yl];rw[zcb (192+a / 64) oa _ oa,zcb (128+a % 64) oa _ oa]
  ·rw[zN c];by_cases e:a<65536
   ·rw[zP e,encodeRuneZ_three oa];simp only[xd,yl];rw[zcb (224+a / 4096) oa _ oa,zcb (128+a / 64 % 64) oa _ oa,zcb (128+a % 64) oa _ oa]
   ·rw[zN e,encodeRuneZ_four oa oa];simp only[xd,yl];rw[zcb (240+a / 262144) oa _ oa,zcb (128+a / 4096 % 64) oa _ oa,zcb (128+a / 64 % 64) oa _ oa,zcb (128+a % 64) oa _ oa]
theorem zwq(a b:ByteArray):(a++b).data.toList=a.data.toList++b.data.toList:=oh
theorem zwr(rs:List Int)(c:∀a∈rs,yS a):∀b:ByteArray,(rs.foldl (fun a e=>a++Utf8.encode e) b).data.toList=b.data.toList++yC rs:=by
 induction rs with
 |nil=>intro b;simp[yC]
 |cons a rs d=>
  intro b;rw[yu,d (fun f g=>c f (zdd _ g)),zwq,zpR a (c a (List.mem_cons_self ..))];simp[yC]
theorem zgD{rs:List Int}(h:∀r∈rs,yS r):(xo rs).data.toList=yC rs:=by unfold xo runesBytes;rw[zwr rs h];simp
theorem zlS(a b:List Int):yC (a++b)=yC a++yC b:=by simp[yC]
theorem zpS(a b:List Int):xo (a++b)=xo a++xo b:=by
 have h:∀(b:List Int) (e f:ByteArray),b.foldl (fun d c=>d++Utf8.encode c) (e++f)=e++b.foldl (fun d c=>d++Utf8.encode c) f:=by
  intro b;induction b with
  |nil=>intro e f;rfl
  |cons i b g=>intro e f;rw[yu,yu,zhB,g]
 unfold xo runesBytes;rw[vK];have:=h b (a.foldl (fun d c=>d++Utf8.encode c) ByteArray.empty) ByteArray.empty;rwa[ByteArray.append_empty] at this
theorem ziI{a b:ByteArray}(h:a.data.toList=b.data.toList):a=b:=by obtain⟨⟨a⟩⟩:=a;obtain⟨⟨b⟩⟩:=b;simpa using h
theorem zpT(r:Int)(e:yS r)(t:List UInt8):decodeL (encodeRune r++t)=(r.toNat,(encodeRune r).length):=by
 have f:0<=r:=by unfold yS at e;omega
 obtain⟨a,rfl⟩:=zjS f;unfold yS at e;rw[decodeL_N];have b:∀(c:Nat) (d:Int),d=c->c<256->(d.toNat.toUInt8).toNat=c:=fun c d g k=>by subst g;simp[Nat.toUInt8];omega
 unfold encodeRune;by_cases h:a<128
 ·rw[encodeRuneZ_one oa oa];simp only[xd,yl,yD,xu,zhn,z7,xB];rw[b a _ rfl oa];unfold decodeN;rw[zP h];simp
 ·by_cases i:a<2048
  ·rw[encodeRuneZ_two oa oa];simp only[xd,yl,yD,xu,zhn,zhC,z7,xB];rw[b (192+a / 64) _ oa oa,b (128+a % 64) _ oa oa];unfold decodeN;rw[zN oa,zP oa,zP oa];apply zda<;> simp<;> omega
  ·by_cases j:a<65536
   ·rw[encodeRuneZ_three oa];simp only[xd,yl,yD,xu,zhn,zhC,z7,xB];rw[b (224+a / 4096) _ oa oa,b (128+a / 64 % 64) _ oa oa,b (128+a % 64) _ oa oa];unfold decodeN;rw[zN oa,zN oa,zP oa,zP oa];apply zda<;> simp<;> omega
   ·rw[encodeRuneZ_four oa oa];simp only[xd,yl,yD,xu,zhn,zhC,z7,xB];rw[b (240+a / 262144) _ oa oa,b (128+a / 4096 % 64) _ oa oa,b (128+a / 64 % 64) _ oa oa,b (128+a % 64) _ oa oa];unfold decodeN;rw[zN oa,zN oa,zN oa,zP oa,zP oa];apply zda<;> simp<;> omega
theorem ziJ(r:Int):1<=(encodeRune r).length/\(encodeRune r).length<=4:=by have:=encodeRuneZ_length r;unfold encodeRune;rwa[xk]
theorem zws{r:Int}(c:yS r):¬(r.toNat=65533/\(encodeRune r).length=1):=by
 rintro⟨d,b⟩;have:r=65533:=by unfold yS at c;omega
 subst this;revert b;decide
theorem zwt(l:List UInt8)(b:¬((decodeL l).1=65533/\(decodeL l).2=1)):yS ((decodeL l).1:Int):=by
 rw[decodeL_N] at b ⊢;have g:=(l.getD 0 0).toNat_lt;generalize(l.getD 0 0).toNat=f at *;generalize(l.getD 1 0).toNat=c at *;generalize(l.getD 2 0).toNat=d at *;generalize(l.getD 3 0).toNat=e at *;unfold yS;unfold decodeN at *;repeat' split at *
 all_goals first|(exfalso;exact b ⟨rfl,rfl⟩)|(simp only;omega)
def zai:Nat->List UInt8->Option (List Int)
 |0,_=>some []
 |n+1,l=>if l= [] then some [] else if(decodeL l).1=65533/\(decodeL l).2=1 then none else(zai n (l.drop (decodeL l).2)).map (((decodeL l).1:Int)::·)
def jc(l:List UInt8):Option (List Int):=zai l.length l
theorem zpU:∀(n:Nat) (l:List UInt8) (rs:List Int),l.length<=n->zai n l=some rs->yC rs=l/\∀e∈rs,yS e
 |0,l,rs,j,a=>by obtain rfl:l= []:=zbo oa;simp[zai] at a;subst a;exact⟨rfl,oh⟩
 |n+1,l,rs,j,a=>by
  unfold zai at a;by_cases b:l= []
  ·rw[zP b] at a;obtain rfl:=zaJ a;exact⟨by rw[b];rfl,oh⟩
  ·rw[zN b] at a;by_cases c:(decodeL l).1=65533/\(decodeL l).2=1
   ·rw[zP c] at a;cases a
   ·rw[zN c] at a;obtain⟨f,h,rfl⟩:=zjL.1 a;have m:=decodeL_width l;obtain⟨g,i⟩:=zpU n _ f oM h;refine⟨?_,fun e d=> ?_⟩
    ·have k:yC (((decodeL l).1:Int)::f)=encodeRune ((decodeL l).1:Int)++yC f:=(by simp[yC]);rw[k,g,encode_decode l b c,zcF]
    ·rcases xK.1 d with rfl|d
     ·exact zwt l c
     ·exact i e d
theorem zpV:∀(rs:List Int) (n:Nat),(∀r∈rs,yS r)->(yC rs).length<=n->zai n (yC rs)=some rs
 | [],0,_,_=>rfl
 | [],n+1,_,_=>rfl
 |r::rs,n,b,g=>by
  have c:yC (r::rs)=encodeRune r++yC rs:=by simp[yC]
  have h:=ziJ r;rw[c,xY] at g;cases n with
  |zero=>omega
  |succ n=>
   unfold zai;have a:=b r (List.mem_cons_self ..);rw[c,zN (by intro d;have:=congrArg List.length d;rw[xY,xB] at this;omega),zpT r a];simp only;rw[zN (zws a),zj4,zpV rs n (fun e f=>b e (zdd _ f)) oa];simp only[zao];rw[Int.toNat_of_nonneg (by unfold yS at a;omega)]
theorem zpW:∀(n m:Nat) (l:List UInt8),l.length<=n->l.length<=m->zai n l=zai m l
 |0,m,l,b,_=>by obtain rfl:l= []:=zbo oa;cases m<;> rfl
 |n+1,0,l,_,b=>by obtain rfl:l= []:=zbo oa;rfl
 |n+1,m+1,l,d,c=>by
  unfold zai;by_cases a:l= []
  ·rw[zP a,zP a]
  ·have e:=decodeL_width l;rw[zN a,zN a,zpW n m (l.drop (decodeL l).2) oM oM]
theorem zwu:jc []=some []:=rfl
theorem zpX(l:List UInt8)(b:l≠[]):jc l=if(decodeL l).1=65533/\(decodeL l).2=1 then none else(jc (l.drop (decodeL l).2)).map (((decodeL l).1:Int)::·):=by
 have e:0<l.length:=zj9.2 b;have d:=decodeL_width l;unfold jc;obtain⟨a,c⟩:∃a,l.length=a+1:=⟨l.length - 1,oa⟩;rw[c];conv=>lhs;unfold zai
 rw[zN b,zpW a (l.drop (decodeL l).2).length (l.drop (decodeL l).2) oM (zU _)]
theorem zlT{l:List UInt8}{rs:List Int}(h:jc l=some rs):yC rs=l/\∀r∈rs,yS r:=zpU _ _ _ (zU _) h
theorem zwv{rs:List Int}(h:∀r∈rs,yS r):jc (yC rs)=some rs:=zpV _ _ h (zU _)
theorem zpY:∀(n:Nat) (l:List UInt8),validGoD n l=(zai n l).isSome
 |0,_=>rfl
 |n+1,l=>by
  unfold validGoD zai;by_cases a:l= []
  ·rw[zP a,zP a];rfl
  ·rw[zN a,zN a];by_cases b:(decodeL l).1=65533/\(decodeL l).2=1
   ·rw[zP b,zP b];rfl
   ·rw[zN b,zN b,zpY n];simp
theorem zww(l:List UInt8):validD l=(jc l).isSome:=zpY _ _
def yk(rs:List Int)(k:Nat):Nat:=(yC (rs.take k)).length
theorem zlU(s:ByteArray):s.size=s.data.toList.length:=oh
theorem zds{rs:List Int}(h:∀r∈rs,yS r):(xo rs).size=(yC rs).length:=by rw[zlU,zgD h]
theorem zey(rs:List Int):rs.length<=(yC rs).length/\(yC rs).length<=4*rs.length:=by
 induction rs with
 |nil=>simp[yC]
 |cons a rs c=>
  have b:yC (a::rs)=encodeRune a++yC rs:=by simp[yC]
  have:=ziJ a;rw[b,xY,z7];omega
theorem zlV{rs:List Int}(a:∀r∈rs,yS r){k:Nat}{r:Int}(b:rs[k]?=some r):Utf8.decode (xo rs) (yk rs k)=(r.toNat,(encodeRune r).length):=by
 rw[<-decodeL_drop,zgD a];obtain⟨f,c⟩:=zw.1 b;have d:yC rs=yC (rs.take k)++(encodeRune r++yC (rs.drop (k+1))):=by
  have e:rs=rs.take k++r::rs.drop (k+1):=by rw[<-c,List.getElem_cons_drop,zcF]
  conv=>lhs;rw[e]
  rw[zlS];simp[yC]
 rw[d];unfold yk;rw[zj4];exact zpT r (a r (xn b)) _
theorem zgE(rs:List Int){k:Nat}{r:Int}(a:rs[k]?=some r):yk rs (k+1)=yk rs k+(encodeRune r).length:=by obtain⟨c,b⟩:=zw.1 a;unfold yk;rw[j1 c,b,zlS,xY];simp[yC]
theorem zlW(rs:List Int):yk rs 0=0:=by simp[yk,yC]
theorem zlX(rs:List Int):yk rs rs.length=(yC rs).length:=by simp[yk]
theorem zgF(rs:List Int){k:Nat}(b:k<rs.length):yk rs k<(yC rs).length:=by
 have a:yC rs=yC (rs.take k)++yC (rs.drop k):=by rw[<-zlS,zcF]
 have:=(zey (rs.drop k)).1;rw[zaM] at this;rw[a,xY];unfold yk;omega
theorem zpZ{rs:List Int}(c:∀b∈rs,yS b):∀(e k:Nat),k<=rs.length->(yC rs).length<=e+yk rs k->runeCountFrom (xo rs) e (yk rs k)=rs.length - k
 |0,k,g,h=>by
  rcases qs k rs.length with a|a
  ·have:=zgF rs a;omega
  ·simp[runeCountFrom];omega
 |f+1,k,g,h=>by
  rcases qs k rs.length with a|a
  ·obtain⟨b,d⟩:∃b,rs[k]?=some b:=⟨rs[k],by simp[a]⟩;have i:=zgF rs a;have j:=ziJ b;unfold runeCountFrom;rw[zP (by rw[zds c];exact i),zlV c d];simp only;rw[<-zgE rs d,zpZ c f (k+1) oa (by rw[zgE rs d];omega)];omega
  ·obtain rfl:k=rs.length:=(by omega);rw[runeCountFrom_end _ _ _ (by rw[zds c,zlX];omega)];omega
theorem zwx{rs:List Int}(h:∀r∈rs,yS r):runeCount (xo rs)=rs.length:=by unfold runeCount;have:=zpZ h (xo rs).size 0 (xO _) (by rw[zds h];omega);rwa[zlW,zje] at this
theorem zgG{s:ByteArray}{rs:List Int}(b:jc s.data.toList=some rs):s=xo rs/\∀c∈rs,yS c:=by obtain⟨d,a⟩:=zlT b;exact⟨ziI (by rw[zgD a,d]),a⟩
open Go.RowKit
def zvR:Value->Nat
 | .string t=>t.size
 |_=>0
def zbP(c:Int):List Value:= [.int .i32 c]
theorem zoS:(Tryz.prog.info? 21).map (fun i=>(i.zero,i.size,i.bytes))=some (some (.int .i32 0),1,4):=oe
theorem ys{w:zC}{base e g n:Nat}{v:zJ}{b:List Value}(d:w.ownsRow base e g v n b):∃c h,v= .slice c n h:=by
 rcases d.2 with⟨rfl,e⟩|⟨i,f,j,e,_⟩
 ·exact⟨none,0,by rw[e]⟩
 ·exact⟨_,f,e⟩
def zh(s:ByteArray):List Int:=(jc s.data.toList).getD []
def qY(s:ByteArray):Bool:=(jc s.data.toList).isSome
theorem zfx{t:ByteArray}(h:0<t.size):t.data.toList≠[]:=fun e=>by have:=zlU t;rw[e,xB] at this;omega
theorem zlC{T:TypeId}{k:Nat}(b:Tryz.prog.underlying T=some (.slice (Tryz.prog.elem T)))(d:∀w,(sizeOf (Tryz.prog.elem T)).run zD w= .ok k w)(g o n c l a:Nat)(f:l<a)(e:a<=c)(w:zC):
 (Instr.slice T (.slice (some (g,o)) n c) (zB (l:Int)) (zB (a:Int)) none).run zD w= .ok (.slice (some (g,o+l*k)) (a - l) (c - l)) w:=by
 rw[run_slice_lh w T _ n c b .i64 .i64 l a oa oa oa,d];simp[yY,sliced,show ¬c=l by omega,Addr.add]
theorem zo1{T:TypeId}{k:Nat}(e:Tryz.prog.underlying T=some (.slice (Tryz.prog.elem T)))(f:∀a,(sizeOf (Tryz.prog.elem T)).run zD a= .ok k a)(g o n c l:Nat)(j:l<=n)(h:n<=c):
 ∃b,(l<n->b=o+l*k)/\∀a,(Instr.slice T (.slice (some (g,o)) n c) (zB (l:Int)) none none).run zD a= .ok (.slice (some (g,b)) (n - l) (c - l)) a:=by
 refine⟨if c=l then o else o+l*k,fun i=>by rw[zN (by omega)],fun a=> ?_⟩;rw[zhF a T _ n c e .i64 l oa oa,f];by_cases d:c=l
 ·simp[yY,sliced,d]
 ·simp[yY,sliced,d,Addr.add]
theorem zv8{T:TypeId}{k:Nat}(d:Tryz.prog.underlying T=some (.slice (Tryz.prog.elem T)))(e:∀w,(sizeOf (Tryz.prog.elem T)).run zD w= .ok k w)(g o n c a:Nat)(f:a<=c)(w:zC):
 (Instr.slice T (.slice (some (g,o)) n c) none (zB (a:Int)) none).run zD w= .ok (.slice (some (g,o)) a c) w:=by
 rw[run_slice_h w T _ n c d .i64 a oa oa,e];by_cases b:c=0
 ·simp[yY,sliced,b]
 ·simp[yY,sliced,b,Addr.add]
def zv(w:zC):Prop:=Lib.Utf8Tabs (Tryz.valid_ren.g 3) (Tryz.valid_ren.g 4) w
theorem zv.below{w w':zC}(b:zv w)(a:Below w w w'):zv w':=Utf8Tabs_below b a
theorem zlY(s:ByteArray)(w:zC)(e:s.size<=9223372036854775807)(b:zv w):
 Calls zD 134 #[.string s] w fun d c=>d= .returned (.bool (qY s))/\Below w w c:=by
 have a:=Any.utf8_ValidString Tryz.valid s w e b;rw[zww] at a;exact a
theorem zwz(s:ByteArray)(w:zC)(d:s.size<9223372036854775807):
 Calls zD 135 #[.string s] w fun b a=>b=(zB (Lib.runeCount s:Int))/\Below w w a:=by
 have c:=Any.utf8_RuneCountInString Tryz.runeCount s w d;refine zbm c ?_;rintro b a ⟨rfl,e,rfl⟩;exact⟨rfl,aA⟩
theorem zgH(s:ByteArray)(w:zC)(e:s.size<=9223372036854775807)(c:zv w):
 Calls zD 67 #[.string s] w fun a d=>a= .returned (.bool (qY s))/\Below w w d:=by
 go_enter Tryz.func67,Tryz.ntmps67;go_wp2_with fail;refine(zlY s _ e c).mono ?_;rintro a f ⟨rfl,b⟩;go_wp2_with fail;go_ret;exact⟨rfl,b⟩
theorem zlZ{s:ByteArray}(a:qY s=true):Lib.runeCount s=(zh s).length:=by
 unfold qY at a;obtain⟨e,b⟩:=zbH.1 a;obtain⟨c,d⟩:=zgG b;unfold zh;rw[b];conv=>lhs;rw[c]
 exact zwx d
theorem zla{s:ByteArray}(h:qY s=false):zh s= []:=by
 unfold qY at h;unfold zh;cases hr:jc s.data.toList with
 |none=>rfl
 |some x=>rw[hr] at h;cases h
theorem zlb(s:ByteArray)(w:zC)(l:s.size<9223372036854775807)(g:zv w):
 Calls zD 68 #[.string s] w fun d i=>d=(zB ((zh s).length:Int))/\Below w w i:=by
 cases h:qY s
 ·have c:=zla h;have b:=zgH s;rw[h] at b;rw[c];clear h c;go_enter Tryz.func68,Tryz.ntmps68;go_wp2_with fail;refine(b _ oa g).mono ?_;rintro d k ⟨rfl,e⟩;go_wp2_with fail;go_ret;exact⟨rfl,e⟩
 ·have c:=zlZ h;have b:=zgH s;rw[h] at b;have f:=zwz s;rw[c] at f;clear h c;generalize(zh s).length=n at f ⊢;go_enter Tryz.func68,Tryz.ntmps68;go_wp2_with fail;refine(b _ oa g).mono ?_;rintro d k ⟨rfl,e⟩;go_wp2_with fail;refine(f _ l).mono ?_;rintro d m ⟨rfl,j⟩;go_wp2_with fail;go_ret;exact⟨rfl,zK e j⟩
def yW(s:ByteArray)(f t:Nat):ByteArray:=xo (((zh s).take t).drop f)
def zn(i:zF):List Value:= [i.c,i.k]
theorem ztE:(Tryz.prog.info? 62).map (fun i=>(i.zero,i.size,i.bytes))=some (some (.agg #[zT.c,zT.k]),2,16):=oe
def zS(o:zQ):Value:= .agg #[o.id.c,o.id.k,zB o.kind,o.stamp,o.left.c,o.left.k,o.right.c,o.right.k,.string o.text,zB o.v.kind,zB o.v.n,.float .f64 o.v.f,.string o.v.s,.string o.key,o.parent.c,o.parent.k,o.frm.c,o.frm.k,.bool o.frmA,o.til.c,o.til.k,.bool o.tilA]
def y8(w:zC)(b e:Nat)(o:zQ):Prop:=∀c d,(ze o)[c]?=some d->w.cell? (b,e+c)=some d
def zR(w:zC)(b:Nat)(o:zQ):Prop:=w.heap[b]?=some (.cells (ze o).toArray 66 (0,0))
theorem zR.cells{w:zC}{b:Nat}{o:zQ}(a:zR w b o):y8 w b 0 o:=fun d e c=>by rw[World.cell?,a];simpa using c
theorem zR.lt{w:zC}{b:Nat}{o:zQ}(h:zR w b o):b<w:=aL h
theorem ztF:∃d,Tryz.prog.underlying 66=some d/\(match d with| .struct _| .array _ _=>true|_=>false)=true:=
 ⟨(Tryz.prog.underlying 66).get oe,oh,oe⟩
theorem zkJ:(Tryz.prog.info? 66).map (·.size)=some 22:=oe
theorem zdg{w:zC}{b a:Nat}{o:zQ}(g:y8 w b a o):(loadVar 66 (b,a)).run zD w= .ok (zS o) w:=by
 obtain⟨e,d,n⟩:=ztF;have k:(loadCells (b,a) (ze o).length).run zD w= .ok (ze o).toArray w:=
  run_loadCells_list (P:=zD) w (b,a) (ze o) (fun j i f=>by rw[qW];exact g j i f)
 cases hq:(Tryz.prog).info? 66 with
 |none=>have:=zkJ;simp[hq] at this
 |some h=>
  have l:h.size=22:=by have:=zkJ;simpa[hq] using this
  have c:(isAgg 66).run zD w= .ok true w:=by unfold isAgg;rw[yU,jM d w];cases e<;> simp_all
  have m:(sizeOf 66).run zD w= .ok 22 w:=by simp[sizeOf,typeInfo,hq,l]
  unfold loadVar;rw[yU,c];simp only[yY,vJ,yU,m];rw[show(22:Nat)=(ze o).length from rfl,k];rfl
theorem zR.load{w:zC}{b:Nat}{o:zQ}(h:zR w b o):(loadVar 66 b).run zD w= .ok (zS o) w:=zdg h.cells
def xx(w:zC)(b:Nat)(o:zQ):World:=w.setRow b (ze o).toArray
theorem zR.store{w:zC}{b:Nat}{x:zQ}(h:zR w b x)(o:zQ):(storeVar 66 b (zS o)).run zD w= .ok () (xx w b o):=
 zju w b _ _ _ _ h (by rw[zkJ];rfl) rfl (by simp[ze,Value.oneCell'])
theorem znK{w:zC}{b k:Nat}{o:zQ}(h:k≠b):(xx w b o).heap[k]?=w.heap[k]?:=by simp only[xx,World.setRow];rw[zu,zN (zeT h)]
theorem zR.put{w:zC}{b:Nat}{x:zQ}(h:zR w b x)(o:zQ):zR (xx w b o) b o:=by unfold zR at *;simp only[xx,World.setRow];rw[zu,zP rfl,h];rfl
theorem zR.other{w:zC}{b c:Nat}{x:zQ}(d:zR w b x)(o:zQ)(a:b≠c):zR (xx w c o) b x:=(znK a).trans d
@[simp] theorem ztG(w:zC)(b:Nat)(o:zQ):(xx w b o).heap.size=w:=by simp[xx,World.setRow]
theorem yo{n b:Nat}{w w':zC}(a:Below n w w')(e:n<=b)(o:zQ):Below n w (xx w' b o):=
 ⟨a.os,a.tape,a.output,by rw[ztG];exact a.size,fun d c=>(znK oa).trans (a.block d c)⟩
theorem zR.new(w:zC)(o:zQ):zR (w.alloc (.cells (ze o).toArray 66)) w o:=by unfold zR;rw[zt,zP rfl]
theorem zR.below{n b:Nat}{w w':zC}{o:zQ}(c:zR w b o)(a:Below n w w')(d:b<n):zR w' b o:=(a.block b d).trans c
theorem xv {P:Program}{b:Array Oper}{d:List Oper}{o:Oper}{a:Act}{w:zC}{Q:Exit->Act->World->Prop}{T:TypeId}{x:Operand}{c:Addr}{v:zJ}(f:o.guard=none) (j:o.op= .load T x) (i:a.eval x= .pointer (some c))
 (g:(loadVar T c).run P w= .ok v w) (h:wpList P b Q d (a.put o.dst v) w):wpList P b Q (o::d) a w:=
 zdW f fun _ e=>by unfold Oper.wp execOp;simp only[j,i,Instr.loadAt,Instr.sureAddr,yU,qI,yY,g];exact e _ _ h
theorem yx {P:Program}{c:Array Oper}{d:List Oper}{o:Oper}{a:Act}{w w':zC}{Q:Exit->Act->World->Prop}{T:TypeId}{x e:Operand}{b:Addr}{v:zJ}(f:o.guard=none) (i:o.op= .store T x e) (l:a.eval x= .pointer (some b)) (h:a.eval e=v)
 (k:(storeVar T b v).run P w= .ok () w') (g:wpList P c Q d (a.put o.dst undef) w'):wpList P c Q (o::d) a w:=
 zdW f fun _ j=>by unfold Oper.wp execOp;simp only[i,l,h,Instr.storeAt,Instr.sureAddr,yU,qI,yY,k];exact j _ _ g
theorem ztH {P:Program}{f:Array Oper}{g:List Oper}{o:Oper}{a:Act}{w:zC}{Q:Exit->Act->World->Prop}(T:TypeId){x e:Operand}(i:o.guard=none) (k:o.op= .store T x e)
 (b:∃d c,a.eval x= .pointer (some d)/\(storeVar T d (a.eval e)).run P w= .ok () c/\wpList P f Q g (a.put o.dst undef) c):wpList P f Q (o::g) a w:=by
 obtain⟨d,c,j,h,b⟩:=b;exact yx i k j rfl h b
theorem zbs{P:Program}{C:World->Prop}{a:Act}{o:Oper}{K:Act->Prop}{v:zJ}(T:TypeId)(x:Operand)(c:Addr)(h:o.op= .load T x)(f:a.eval x= .pointer (some c))(d:∀b,C b->(loadVar T c).run P b= .ok v b)(e:K (a.put o.dst v)):o.quiet P a C K:=
 ⟨_,fun b g=>by unfold Oper.quietAt execOp;simp only[h,f,Instr.loadAt,Instr.sureAddr,yU,qI,yY,d b g];exact⟨rfl,rfl⟩,e⟩
theorem znL:(Tryz.prog.info? 66).map (fun i=>(i.zero,i.size,i.bytes))=some (some (zS zi),22,200):=oe
theorem zR.f{w:zC}{b:Nat}{o:zQ}(h:zR w b o)(n:Nat):w.frozen? (b,n)=false:=by simp[World.frozen?,show w.heap[b]?=_ from h]
theorem zdh {P:Program}{b:Array Oper}{d:List Oper}{o:Oper}{a:Act}{w:zC}{Q:Exit->Act->World->Prop}(T:TypeId){x:Operand}(c:Addr){v:zJ}(i:o.op= .load T x) (g:a.eval x= .pointer (some c))
 (e:(loadVar T c).run P w= .ok v w) (h:Region.wanted o (yielded b a.tmps)=true) (f:wpList P b Q d (a.put o.dst v) w):wpList P b Q (o::d) a w:=by
 unfold wpList;rw[zP h];left;unfold Oper.wp execOp;simp only[i,g,Instr.loadAt,Instr.sureAddr,yU,qI,yY,e];exact f
theorem vr{c:Code}{P:Program}{Q:Exit->Act->World->Prop}{a:Act}{w:zC}(x:zQ)(k:∀W,Below w w W->zR W w x->c.wp P Q a W):
 c.wp P Q a (w.alloc (.cells (ze x).toArray 66)):=k _ aA (zR.new _ _)
theorem zbL{c:Code}{P:Program}{Q:Exit->Act->World->Prop}{a:Act}{w:zC}(x d:zQ)(k:∀b,Below w w b->zR b w x->zR b (w.heap.size+1) d->w.heap.size<b->w.heap.size+1<b.heap.size->c.wp P Q a b):
 c.wp P Q a ((w.alloc (.cells (ze x).toArray 66)).alloc (.cells (ze d).toArray 66)):=by
 have e:=zR.new (w.alloc (.cells (ze x).toArray 66)) d;rw[qX] at e;exact k _ (aA.alloc oh _) ((zR.new w x).below aA oh) e oi oh
open Go.MapKept
theorem zmi(x:ByteArray):∀(d:List MapEntry) (l:List (ByteArray×Value)) (i:Nat),d.map (fun e=>(e.key,e.val))=l.map (fun a=>(Value.string a.1,a.2))->Instr.findNow .string (.string x) d i=some (qh x l i)
 | [],[],_,_=>rfl
 | [],_::_,_,b=>by simp at b
 |_::_,[],_,b=>by simp at b
 |e::d,a::l,i,b=>by
  simp only[xd,zcx,zfb] at b;obtain⟨⟨g,f⟩,h⟩:=b;unfold Instr.findNow qh;rw[g];simp only[Instr.sameNow];by_cases c:a.1=x
  ·have:(x==a.1)=true:=(bytes_beq x a.1).2 c.symm;rw[this];simp[c,f]
  ·have:(x==a.1)=false:=by
    cases b:(x==a.1)
    ·rfl
    ·exact absurd ((bytes_beq x a.1).1 b).symm c
   rw[this];simp only[c,jX];exact zmi x d l (i+1) h
theorem zmj:zci zD 9 Value.string where
 inj h:=by cases h;rfl
 check w em x:=run_checkKey (d:= .string) (k:= .string x) oe trivial em 9999
 find w x es l h:=run_findKey (d:= .string) oe (zmi x es l 0 h)
 stays w x:=run_keyThatStays (d:= .string) (k:= .string x) trivial
def xV(i:zF):Value:= .agg #[i.c,i.k]
theorem zr6(w:zC)(a:Bool)(x:zF):(Instr.checkKey a 10000 62 (xV x)).run zD w= .ok () w:=oe
theorem ziu(w:zC)(x a:zF):(Op.equal 62 (xV x) (xV a)).run zD w= .ok (decide (x=a)) w:=by unfold Op.equal Op.maxDepth Op.equalIn xV;go_simp;obtain⟨g,e⟩:=x;obtain⟨f,c⟩:=a;by_cases d:g=f<;> by_cases b:e=c<;> simp[d,b]
theorem zr7(w:zC)(x:zF):(Instr.keyThatStays (xV x) (xV x)).run zD w= .ok (xV x) w:=by
 have:Instr.sameBits 10000 (xV x) (xV x)=true:=by simp[Instr.sameBits,xV]
 simp[Instr.keyThatStays,this]
theorem zmk(w:zC)(x:zF):∀(c:List MapEntry) (l:List (zF×Value)) (i:Nat),c.map (fun e=>(e.key,e.val))=l.map (fun b=>(xV b.1,b.2))->(Instr.findAsking 62 (xV x) c i).run zD w= .ok (qh x l i) w
 | [],[],_,_=>rfl
 | [],_::_,_,a=>by simp at a
 |_::_,[],_,a=>by simp at a
 |e::c,b::l,i,a=>by
  simp only[xd,zcx,zfb] at a;obtain⟨⟨g,f⟩,h⟩:=a;unfold Instr.findAsking qh;rw[g];simp only[yU,ziu,Result.andThen];by_cases d:b.1=x
  ·simp[d,f]
  ·have j:¬x=b.1:=fun a=>d a.symm;simp only[d,j,decide_false,jW,jX];exact zmk w x c l (i+1) h
theorem vb:zci zD 62 xV where
 inj {x y} h:=by obtain⟨a,b⟩:=x;obtain⟨c,d⟩:=y;simp[xV] at h;simp[h]
 check w em x:=zr6 w em x
 find w x es l h:=by rw[run_findKey_eq w (by rw[Tryz.underlying62])];exact zmk w x _ l 0 h
 stays w x:=zr7 w x
def zQ.len(o:zQ):Nat:=if o.kind=1 then(zh o.text).length else 1
theorem zec(o:zQ)(w:zC)(h:o.text.size<9223372036854775807)(k:zv w):
 Calls zD 153 #[zS o] w fun e g=>e=(zB (o.len:Int))/\Below w w g:=by
 unfold zQ.len zS;have d:=zlb o.text;by_cases a:o.kind=1
 ·rw[zP a];generalize(zh o.text).length=q at d ⊢;have i:(o.kind==1)=true:=oaC;have n:=zA a;clear a;go_enter Tryz.func153,Tryz.ntmps153;go_upto_region 1 with fail;refine vr o fun j c b=> ?_;have l:=b.cells 2 _ rfl;have m:=b.cells 8 _ rfl;go_wp2_with fail;refine(d _ h (k.below c)).mono ?_;rintro e p ⟨rfl,f⟩;go_wp2_with fail;go_ret;exact⟨rfl,zK c f⟩
 ·rw[zN a];have i:(o.kind==1)=false:=oaC;clear a d;go_enter Tryz.func153,Tryz.ntmps153;go_upto_region 1 with fail;refine vr o fun j c b=> ?_;have l:=b.cells 2 _ rfl;go_wp2_with fail;go_ret;exact⟨rfl,c⟩
def zQ.rng(o:zQ):zO:=⟨o.id.c,o.id.k,o.id.k+o.len⟩
theorem zcz(o:zQ)(w:zC)(r:o.text.size<9223372036854775807)(B:0<=o.id.k)(x:o.id.k+o.len<18446744073709551616)(u:zv w):
 Calls zD 78 #[zS o] w fun m d=>m= .returned (.agg #[o.rng.c,o.rng.a,o.rng.b])/\Below w w d:=by
 have l:=zec o;unfold zQ.rng zS;generalize o.len=i at l x ⊢;go_enter Tryz.func78,Tryz.ntmps78;go_upto_region 1 with fail;obtain⟨a,f⟩:=aY ((w.alloc (.cells (ze o).toArray 66)).alloc (.cells #[zH,zH,zH] 154));have q:Below w w a:=by rw[<-f];exact aA.alloc (by simp) _
 have g:zR a w o:=by rw[<-f];exact(zR.new w o).below aA (by simp)
 have n:a.heap[w.heap.size+1]?=some (.cells #[zH,zH,zH] 154 (0,0)):=by rw[<-f];have:=vi (w.alloc (.cells (ze o).toArray 66)) (.cells #[zH,zH,zH] 154);simpa using this
 change Code.wp _ _ _ _ ((w.alloc (.cells (ze o).toArray 66)).alloc (.cells #[zH,zH,zH] 154));rw[f];clear f;have y:w.heap.size<a.heap.size:=g.lt;have t:w.heap.size+1<a.heap.size:=aL n;have C:=aV (g.cells 0 _ rfl);have H:=aV (g.cells 1 _ rfl);have l1:∀d,(∃k:zI zX a,d=k.val)->(loadVar 66 w).run zD d= .ok (.agg #[o.id.c,o.id.k,zB o.kind,o.stamp,o.left.c,o.left.k,o.right.c,o.right.k,.string o.text,zB o.v.kind,zB o.v.n,.float .f64 o.v.f,.string o.v.s,.string o.key,o.parent.c,o.parent.k,o.frm.c,o.frm.k,.bool o.frmA,o.til.c,o.til.k,.bool o.tilA]) d:=by rintro _ ⟨k,rfl⟩;exact zR.load ((k.h.block _ y id).trans g)
 refine xU 14 [0,1,2,3,4,5,6,7,8,9] [10,11,12,13,14] zX (aM ?_);refine aR ?_;refine aS ?_;go_wp2_with fail;refine(l _ r ((u.below q).below (zf _ _).drew)).mono ?_;rintro m e ⟨rfl,c⟩;have j:Below a a e:=⟨c.os,c.tape,c.output,c.size,c.block⟩;have h:=Mods.of_below (S:=fun _=>False) j;have b:=(j.block _ t).trans n;have z:=aC b 0;have A:=aC b 1;have F:=aC b 2;have G:e.frozen? (w.heap.size+1:)=false:=obq;have E:e.frozen? (w.heap.size+1,1)=false:=obq;have D:e.frozen? (w.heap.size+1,2)=false:=obq;go_wp2_with fail;refine⟨zI.to h,?_⟩;refine aS ?_;go_wp2_with fail;refine⟨zI.to h,?_⟩;refine aS ?_;go_wp2_with fail;refine⟨zI.to h,?_⟩;refine aS ?_;go_wp2_with fail;refine⟨zI.to h,?_⟩;refine aS ?_;go_wp2_with fail;refine xE ?_;go_wp2_with fail;refine yG (v:= .agg #[(⟨o.id.c,o.id.k,o.id.k+i⟩:zO).c,(⟨o.id.c,o.id.k,o.id.k+i⟩:zO).a,(⟨o.id.c,o.id.k,o.id.k+i⟩:zO).b]) (by simp[results,Tryz.results78,go_sem, *]) rfl ⟨rfl,?_⟩;have s:Below w w e:=zK q j;exact((s.setCell (p:=(w.heap.size+1:)) oh _).setCell (p:=(w.heap.size+1,1)) oh _).setCell (p:=(w.heap.size+1,2)) oh _
def zF.namedB(i:zF):Bool:=decide (i=zT) || i.rightB
theorem zc0(x y:zF)(w:zC):(binOp BinOp.eql 62 (.agg #[x.c,x.k]) (.agg #[y.c,y.k])).run zD w= .ok (.bool (decide (x=y))) w:=by have h:=ziu w x y;unfold xV at h;simp only[binOp,yU,h,yY,qI]
theorem ztI(x:zF)(w:zC):Calls zD 162 #[.agg #[x.c,x.k]] w fun d f=>d= .returned (.bool x.namedB)/\Below w w f:=by
 have b:=zc0 x zT;have c:=zcg x;unfold zF.namedB;by_cases a:x=zT
 ·rw[zeX a] at b ⊢;have i:=zA a;clear a c;unfold zT at b;go_enter Tryz.func162,Tryz.ntmps162;go_wp2_with fail;go_ret;exact⟨rfl,aB⟩
 ·rw[zhZ a] at b ⊢;rw[Bool.false_or];generalize x.rightB=h at c ⊢;clear a;unfold zT at b;go_enter Tryz.func162,Tryz.ntmps162;go_wp2_with fail;refine(c _).mono ?_;rintro d g ⟨rfl,e⟩;go_wp2_with fail;go_ret;exact⟨rfl,zK aA e⟩
def zQ.names(o:zQ):List zF:= [o.left,o.right,o.frm,o.til,o.parent]
def ztJ(o:zQ)(w:World)(e:Ending)(w':World):Prop:=∃b,e= .returned (.slice (some ⟨b,0,none⟩) 5 5)/\Below w.heap.size w w'/\w.heap.size<=b/\w'.heap[b]?=some (.cells (o.names.flatMap zn).toArray 62 (0,0))
theorem zkK(o:zQ)(w:World):Calls Tryz.prog 165 #[zS o] w (ztJ o w):=by unfold zS;go_enter Tryz.func165,Tryz.ntmps165;go_upto_region 1 with fail;refine vr o fun c b a=> ?_;have f:=a.cells 4 _ rfl;have m:=a.cells 5 _ rfl;have j:=a.cells 6 _ rfl;have d:=a.cells 7 _ rfl;have e:=a.cells 16 _ rfl;have g:=a.cells 17 _ rfl;have h:=a.cells 19 _ rfl;have k:=a.cells 20 _ rfl;have l:=a.cells 14 _ rfl;have i:=a.cells 15 _ rfl;go_wp2_with fail;go_ret;exact⟨c.heap.size,rfl,b.alloc b.size _,b.size,vi c _⟩
def ziK(f:Nat):Bool:=decide (wrap64 (f:Int)<0)
theorem zpa(f:Nat)(w:World):(callFunc 80 #[Value.float .f64 f]).run Tryz.prog w= .ok (.value (.int .u64 f)) w:=oe
theorem zpb(f:Nat)(w:zC):Calls zD 281 #[.float .f64 f] w fun b a=>b= .returned (.bool (ziK f))/\w=a:=by have c:=zpa f;go_enter Tryz.func281,Tryz.ntmps281;go_wp2;go_ret;exact⟨rfl,rfl⟩
def ziL(f:Nat):Int×Nat:=if qv f then(1,0) else if(FloatKind.f64.format.order f 0==some Ordering.eq) && ziK f then(0,0) else(0,f)
theorem zw0(f:Nat)(w:zC):Calls zD 279 #[.float .f64 f] w fun b a=>b= .returned (.tuple #[zB (ziL f).1,.float .f64 (ziL f).2])/\w=a:=by
 have c:=zgo f;have d:=zpb f;unfold ziL;go_enter Tryz.func279,Tryz.ntmps279;cases h:qv f
 ·rw[h] at c;cases hz:(FloatKind.f64.format.order f 0==some Ordering.eq)
  ·go_wp2_with (first|(go_at_call 132;refine(c _).mono ?_;rintro b a ⟨rfl,rfl⟩)|(go_at_call 281;refine(d _).mono ?_;rintro b a ⟨rfl,rfl⟩));all_goals go_ret2
   all_goals exact⟨by simp[*],rfl⟩
  ·go_wp2_with (first|(go_at_call 132;refine(c _).mono ?_;rintro b a ⟨rfl,rfl⟩)|(go_at_call 281;refine(d _).mono ?_;rintro b a ⟨rfl,rfl⟩));all_goals go_ret2
   all_goals exact⟨by simp[*],rfl⟩
 ·rw[h] at c;go_wp2_with (first|(go_at_call 132;refine(c _).mono ?_;rintro b a ⟨rfl,rfl⟩));go_ret2;exact⟨rfl,rfl⟩
theorem zpc(x:Int)(w:zC):Calls zD 236 #[zB x,zB x] w fun b a=>b=(zB 0)/\w=a:=by
 have c:¬x<x:=oa;go_enter Tryz.func236,Tryz.ntmps236;go_wp2_with go_in;all_goals go_ret
 all_goals exact⟨rfl,rfl⟩
theorem zw1(x:Int)(w:zC):Calls zD 237 #[zB x,zB x] w fun b a=>b=(zB 0)/\w=a:=by
 have c:¬x<x:=oa;go_enter Tryz.func237,Tryz.ntmps237;go_wp2_with go_in;all_goals go_ret
 all_goals exact⟨rfl,rfl⟩
theorem zw2(w:zC):Calls zD 280 #[.float .f64 0,.float .f64 0] w fun b a=>b=(zB 0)/\w=a:=by
 go_enter Tryz.func280,Tryz.ntmps280;go_wp2_with go_in;all_goals go_ret
 all_goals exact⟨rfl,rfl⟩
theorem zw3(f:Nat)(w:zC):Calls zD 238 #[.float .f64 f,.float .f64 f] w fun c b=>c=(zB 0)/\w=b:=by
 have a:=zw0 f;have g:=zpb f;have l:=zpc;have i:=zw2;unfold ziL at a;cases h:qv f
 ·rw[h] at a;simp only[jW,jX] at a;have e:FloatKind.f64.format.order f f=some Ordering.eq:=by simpa[qv] using h
  obtain⟨d,k,j⟩:∃d,FloatKind.f64.format.order d d=some Ordering.eq/\∀w,Calls zD 279 #[.float .f64 f] w fun c b=>c= .returned (.tuple #[zB 0,.float .f64 d])/\w=b:=by
   cases hq:(FloatKind.f64.format.order f 0==some Ordering.eq) && ziK f
   ·rw[hq] at a;exact⟨f,e,a⟩
   ·rw[hq] at a;exact⟨0,by decide +kernel,a⟩
  clear a h e;cases hq:(FloatKind.f64.format.order f 0==some Ordering.eq);all_goals
   generalize ziK f=m at g
   go_enter Tryz.func238,Tryz.ntmps238
   go_wp2_with (first|(go_at_call 279;refine(j _).mono ?_;rintro c b ⟨rfl,rfl⟩)|(go_at_call 281;refine(g _).mono ?_;rintro c b ⟨rfl,rfl⟩))
   all_goals go_ret
   all_goals exact⟨rfl,rfl⟩
 ·rw[h] at a;simp only[vJ] at a;go_enter Tryz.func238,Tryz.ntmps238;go_wp2_with (first|(go_at_call 279;refine(a _).mono ?_;rintro c b ⟨rfl,rfl⟩)|(go_at_call 280;refine(i _).mono ?_;rintro c b ⟨rfl,rfl⟩));go_ret;exact⟨rfl,rfl⟩
theorem zpd:∀l:List UInt8,compareBytes l l=0
 | []=>rfl
 |a::l=>by unfold compareBytes;rw[if_neg (UInt8.lt_irrefl a),if_neg (UInt8.lt_irrefl a)];exact zpd l
theorem zw4(s:ByteArray)(w:zC):Calls zD 239 #[.string s,.string s] w fun c b=>c=(zB 0)/\w=b:=by have a:=Any.strings_Compare Tryz.strCmp s s w;rw[zpd] at a;exact zbm a fun c b ⟨e,d⟩=>⟨e,d.symm⟩
theorem zw5(b:Nat)(w:zC)(e:w.cell? b=(zB 0))(f:w.cell? (b,1)=(zB 0))(d:w.cell? (b,2)=(zB 0))(g:w.cell? (b,3)=(zB 0)):
 Calls zD 145 #[.slice (some b) 4 4] w fun c a=>c=(zB 0)/\w=a:=by
 go_enter Tryz.func145,Tryz.ntmps145;go_wp2;refine zbq 5 ?_;rw[vM];go_wp2;rw[vM];go_wp2;rw[vM];go_wp2;rw[vM];go_wp2;rw[vM];go_wp2;go_ret;exact⟨rfl,rfl⟩
theorem zw6(v:zr)(w:zC):Calls zD 194 #[.agg #[zB v.kind,zB v.n,.float .f64 v.f,.string v.s],.agg #[zB v.kind,zB v.n,.float .f64 v.f,.string v.s]] w fun g f=>g=(zB 0)/\Below w w f:=by
 have e:Below w w ((w.alloc (.cells #[zB v.kind,zB v.n,.float .f64 v.f,.string v.s] 31)).alloc (.cells #[zB v.kind,zB v.n,.float .f64 v.f,.string v.s] 31)):=aB;go_enter Tryz.func194,Tryz.ntmps194;go_upto_region 1 with fail;obtain⟨d,c⟩:=aY (((w.alloc (.cells #[zB v.kind,zB v.n,.float .f64 v.f,.string v.s] 31)).alloc (.cells #[zB v.kind,zB v.n,.float .f64 v.f,.string v.s] 31)));have a:d.heap[w.heap.size]?=some (.cells #[zB v.kind,zB v.n,.float .f64 v.f,.string v.s] 31 (0,0)):=oG;have b:d.heap[w.heap.size+1]?=some (.cells #[zB v.kind,zB v.n,.float .f64 v.f,.string v.s] 31 (0,0)):=oG;try simp only[c] at e ⊢
 clear c;have k:=aC a 0;have j:=aC a 1;have p:=aC a 2;have o:=aC a 3;have m:=aC b 0;have l:=aC b 1;have n:=aC b 2;have i:=aC b 3;clear a b;refine wp_region_still_tail 20 oe oe ?_;simp only[zfV,zhe,zjd,zjw];repeat still_step
 still_call ((zpc _ _).mono fun _ _ h=>⟨h.1,h.2.symm⟩);repeat still_step
 still_call ((zw1 _ _).mono fun _ _ h=>⟨h.1,h.2.symm⟩);repeat still_step
 still_call ((zw3 _ _).mono fun _ _ h=>⟨h.1,h.2.symm⟩);repeat still_step
 still_call ((zw4 _ _).mono fun _ _ h=>⟨h.1,h.2.symm⟩);refine wpStill_nil ?_;change wpList _ _ _ _ _ d.drew;go_wp2_with (go_at_call 145;refine(zw5 _ _ oS oS oS oS).mono ?_;rintro g f ⟨rfl,rfl⟩);go_ret;exact⟨rfl,(e.drew).alloc e.size _⟩
theorem zw7(v:zr)(w:zC):Calls zD 128 #[.agg #[zB v.kind,zB v.n,.float .f64 v.f,.string v.s],.agg #[zB v.kind,zB v.n,.float .f64 v.f,.string v.s]] w fun a c=>a= .returned (.bool true)/\Below w w c:=by have d:Below w w ((w.alloc (.cells #[zB v.kind,zB v.n,.float .f64 v.f,.string v.s] 31)).alloc (.cells #[zB v.kind,zB v.n,.float .f64 v.f,.string v.s] 31)):=aB;have e:=zw6 v;go_enter Tryz.func128,Tryz.ntmps128;go_wp2_with fail;refine(e _).mono ?_;rintro a f ⟨rfl,b⟩;go_wp2_with fail;go_ret;exact⟨rfl,zK d b⟩
open Go.Shelf
theorem zrk(g:Nat)(lb:Array Value)(w:zC):
 Calls zD 256 #[(),.func (.func g) #[] lb] w fun b a=>b=(zB (-1))/\w=a:=by
 go_enter Tryz.func256,Tryz.ntmps256;go_wp2;refine zbq 1 ?_;rw[vM];go_wp2;go_ret;exact⟨rfl,rfl⟩
theorem zrl(g:Nat)(lb:Array Value)(w:zC):
 Calls zD 212 #[(),.func (.func g) #[] lb] w fun b a=>b= .returned (.bool false)/\Below w w a:=by
 go_enter Tryz.func212,Tryz.ntmps212;go_wp2_with (go_at_call 256;refine(zrk _ _ _).mono ?_;rintro b a ⟨rfl,rfl⟩);go_ret;exact⟨rfl,zf _ _⟩
theorem zrm(i:zF)(b:Nat)(w:zC)(f:w.cell? b=i.c)(j:w.cell? (b,1)=i.k)(d:b<w):
 PredBelow zD 213 #[b] (fun c=> .agg (zY c).toArray) (fun h=>h.hasB i) w:=by
 intro e c a;refine(zsM c i b e ?_ ?_ ?_).mono ?_
 ·rw[a.cell (p:=b) d];exact f
 ·rw[a.cell (p:=⟨b,1,none⟩) d];exact j
 ·have:=a.size;omega
 ·exact fun m l ⟨g,k⟩=>⟨g,a.trans (k.mono a.size)⟩
theorem zrn(i:zF)(b:Nat)(v:zJ)(l:List zO)(w:zC)(n:zc 3 zY w v l)(k:w.cell? b=i.c)(t:w.cell? (b,1)=i.k)(d:b<w):
 Calls zD 212 #[v,.func (.func 213) #[] #[b]] w fun o f=>o= .returned (.bool (l.any fun a=>a.hasB i))/\Below w w f:=by
 rcases n with⟨rfl,rfl⟩|⟨p,m,s,rfl,q,j,g⟩
 ·exact zrl _ _ _
 ·have:=AnyQ.slices_ContainsFunc Tryz.containsRng 3 (fun w=>oe) (fun w=>oe) zY (fun _=>rfl) (fun a=>a.hasB i) 213 #[b] (enters_of Tryz.func213 oe rfl) p m l.length s l w (zrm i b w k t d) (zU _) q j
   (fun c e h v r=>g c l[c] oh h v (by simpa[e] using r))
  rw[qJ] at this;exact this
theorem zro(i:zF)(v:zJ)(l:List zO)(w:zC)(f:zc 3 zY w v l):
 Calls zD 163 #[v,.agg #[i.c,i.k]] w fun a c=>a= .returned (.bool (xH l i))/\Below w w c:=by
 cases hr:i.rightB
 ·have a:xH l i=false:=by simp[xH,hr]
  rw[a];have d:=fun w=>zcg i w;rw[hr] at d;clear hr a f;go_enter Tryz.func163,Tryz.ntmps163;go_wp2_with (go_at_call 142;refine(d _).mono ?_;rintro a c ⟨rfl,b⟩);go_ret;exact⟨rfl,aB⟩
 ·have a:xH l i=l.any fun e=>e.hasB i:=by simp[xH,hr]
  rw[a];have d:=fun w=>zcg i w;rw[hr] at d;clear hr a;have h:Below w w (w.alloc (Obj.cells #[Value.int IntKind.u64 i.c,Value.int IntKind.u64 i.k] 62)):=aB;have g:=fun c (b:Below (w.alloc (Obj.cells #[Value.int IntKind.u64 i.c,Value.int IntKind.u64 i.k] 62)).heap.size (w.alloc (Obj.cells #[Value.int IntKind.u64 i.c,Value.int IntKind.u64 i.k] 62)) c)=>zrn i w.heap.size v l c ((f.below h).below b) (by rw[b.cell (p:=⟨w.heap.size,0,none⟩) (by simp)];simp) (by rw[b.cell (p:=⟨w.heap.size,1,none⟩) (by simp)];simp) (by have:=b.size;simp at this;omega);generalize(l.any fun e=>e.hasB i)=j at g ⊢;clear f h;go_enter Tryz.func163,Tryz.ntmps163;go_wp2_with (first|(go_at_call 142;refine(d _).mono ?_;rintro a c ⟨rfl,b⟩)|(go_at_call 212;refine(g _ b).mono ?_;rintro a m ⟨rfl,k⟩));go_ret;exact⟨rfl,aB⟩
end Go.Proofs.YtimlgcodecgecaaGreatDoor
