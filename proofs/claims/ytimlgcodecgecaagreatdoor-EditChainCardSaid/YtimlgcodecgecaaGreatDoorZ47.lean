/-
  Proved: quirelaw15.EditChain returns true for every input, and its arguments read behind the call as they read before. Condition: the two listed tables of the library (unicode/utf8.acceptRanges, unicode/utf8.first) read as the program's text lays them; the card ties them to it.
-/
import Derived.Test.YtimlgcodecgecaaGreatDoorZ46
import Derived.Test.YtimlgcodecgecaaGreatDoorZ30
import Derived.Test.YtimlgcodecgecaaGreatDoorTie
import Derived.Test.YtimlgcodecgecaaGreatDoorCards
import Derived.Lib.LaidU8T
import Derived.Lay
import Derived.SevenTiedAt
set_option maxRecDepth 100000
set_option maxHeartbeats 20000000
set_option linter.all false
namespace Go.Proofs.YtimlgcodecgecaaGreatDoor.editChain
open Go.ChangeShapes Go.WideShapes Go.ChangeAt Go.RowKit Go.Shelf Go.Lib
theorem yX:ownKnob Tryz.prog.godebug=none:=oe
theorem zqS:laidOutB zD=true:=oe
theorem zqT:Rows.laid_unicode_utf8_first=firstData:=oe
theorem zqU:(Rows.laid_unicode_utf8_acceptRanges:DataW Unit)=acceptData:=oe
theorem zqV(os:Os)(A:os.Started)(H:Type)(enc:TypeId×Value->H):
 ReturnsInHanded {} Tryz.checked os 3 .any (fun e d=>(Rows.editChainSpec.pre enc Tryz.prog Tryz.f3 [] false e d/\laidMetH Tryz.prog Rows.editChainRow.laid e)/\sizedMet enc Tryz.prog Tryz.f3 (OpenSpec.ofChange Rows.editChainSpec) false e d)
  (Rows.editChainSpec.post enc Tryz.prog Tryz.f3 false true false false):=by
 refine returnsInHanded_of_change_and (C:=Tryz.checked) (X:=fun e _=>laidMetH Tryz.prog Rows.editChainRow.laid e) (fun _ _ _ w b=>b.of_heap w) yX A oe zfT
  (ChangeSpec.witness_shaped (enc:=enc) (C:=Tryz.checked) (os:=os) (X:=fun e _=>laidMetH Tryz.prog Rows.editChainRow.laid e) false (World.laidAll Tryz.prog os Rows.editChainRow.laid) #[.slice none 0 0] 8 (World.laidAll_os _ _ _)
   (World.shaped_of_ZipB oe oe) oe oe oe
   (by rw[MakeChecks.laidMetH_plain _ _ _ (by kernel_rfl)];exact laidMet_laidAll _ (by kernel_rfl) (by kernel_rfl))) ?_
 intro f F d L aj ai t s _ _ g _
 have m:∀(o:Nat) k n,Tryz.f3.params[o]?=some k->d[o]?=some n->Value.okWide zD f .any F k n:=t
 have E:=s
 obtain⟨M,ae,u,x,rfl,_,_⟩:=s
 have j:DataW.TrodAll enc zD f 0 (fun _=>true) true Tryz.f3.params.toList d.toList L M:=u
 rw[Tryz.params3] at j m
 obtain⟨r,al,Z,ah,B,ab,ad,rfl,rfl,l,z⟩:=trodAll_cons j
 obtain⟨rfl,rfl,rfl⟩:=trodAll_nil z
 obtain rfl:d=#[r]:=by cases d;simp_all
 obtain⟨rfl,rfl⟩:=trodVars_none x
 obtain⟨D,Y,K,rfl⟩:=okWide_slice Tryz.underlying22 (m 0 22 r rfl rfl)
 have v:=l
 have R:∀q∈B,q.block<f:=by obtain⟨J,W⟩:=v;exact DataW.trod_lt J _ _ _ W
 obtain⟨c,h,T⟩:∃c:List Nat,ze0 1 zl2 f (.slice D Y K) c/\∀a∈c,a<4294967296:=by
  obtain⟨af,O⟩:=l
  obtain⟨c,h,y⟩:=zpz Tryz.underlying22 Tryz.underlying35 oe O
  have i:∀a∈c,0<=a/\a<4294967296:=fun a G=>by
   have:=y a G
   simp[Lit.wf] at this
   have ag:IntKind.u32.min=0:=ol
   have aa:IntKind.u32.max=4294967295:=ol
   omega
  refine⟨c.map Int.toNat,zp0 h fun a b=>(i a b).1,fun q V=> ?_⟩
  obtain⟨a,b,rfl⟩:=xz.1 V
  have:=i a b
  omega
 clear u t
 rw[MakeChecks.laidMetH_plain _ _ _ oe] at g
 have I:zv f:=utf8Tabs_of_readsT (U8Types.of196 Tryz.valid) ⟨oe,oe,oe,oe,oe,oe,oe⟩
  (zqT ▸ Lib.laidMet.reads g (.tail _ (.head _))) (zqU ▸ Lib.laidMet.reads g (.head _))
 refine(zqR _ c f I h T).mono fun ac ak ⟨N,p⟩=> ?_
 subst N
 exact⟨_,rfl,_,_,_,[],_,[],E,trodAll_mk1 (shut_bool Tryz.underlying4 _),(trodAll_cons_mk (Below.trod zqS oe (zjY oe) v p R) trodAll_mk0),rfl,p.frame _,fun b=>by cases b⟩
theorem zbU:Rows.EditChainSaid:=
 OpenClaim.holds_of_wide 3 Tryz.f3 rfl rfl rfl rfl rfl rfl rfl ⟨rfl,rfl,rfl,rfl,rfl⟩ rfl rfl rfl rfl rfl oe zfT (by
  unfold joinedFacts
  simp only[xr]
  repeat' apply And.intro
  all_goals (as_aux_lemma=>kernel_rfl))
  (of_decide_eq_true oe) (by unfold Func.isWrapper;first|(rw[if_pos (by decide +kernel)];kernel_rfl)|(rw[if_neg (by decide +kernel)];exact⟨rfl,rfl⟩))
  (fun c a b d _=>zqV c a b d)
theorem proved:Rows.EditChainCardSaid:=
 Claim7.holds_tied_plain_at .later [] [.data,.pinned] true (true, "9301a39b6bbb544fd51a7f9368aaaf89b4dfb162c90fc007f4bb6a3bbf8d8dbf") true zbU (fun _ a=>by cases a) oe (fun _ a=>by cases a) editChain_row_tie rfl ⟨rfl,rfl⟩ oe rfl
  (fun f d g e=>by
   obtain rfl:f=3:=zaJ ((show Tryz.prog.funcNamed "quire/quirelaw15.EditChain"=some 3 by kernel_rfl).symm.trans g) |>.symm
   obtain rfl:d=Tryz.f3:=(zaJ (zfT.symm.trans e)).symm
   exact⟨oe,fun k b c=>by
    rw[Tryz.params3] at c
    have i:b∈[22]:=by simpa using Array.mem_of_getElem? c
    have j:([22].all fun h=>!Tryz.prog.wantsStandIn h)=true:=oe
    exact(show Tryz.prog.wantsStandIn b=false by simpa using zaq.1 j b i)⟩)
  oe
#print axioms proved
end Go.Proofs.YtimlgcodecgecaaGreatDoor.editChain
