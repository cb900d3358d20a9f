/- Terms that recur, as coercions; short names of theorems of the library. -/
import Derived.WalkKit
import Derived.WalkSpells
import Derived.WalkLawsBesides
import Derived.Deep.QuietTactic
import Derived.BigQuiet
import Derived.Sort.Grow
import Derived.Lib.Hide
import Derived.StillTailTactics
import Derived.Deep.RegionHeld3
import Derived.Deep.MidRow
import Derived.Test.YtimlgcodecgecaaGreatDoorProg
import Derived.Test.YtimlgcodecgecaaGreatDoorRows
import Init
set_option maxRecDepth 100000
set_option maxHeartbeats 20000000
set_option linter.all false
namespace Go.Proofs.YtimlgcodecgecaaGreatDoor
open Go.RowKit Go.Lib
structure zm9 where
structure znA where
structure znB where
structure znC where
structure znD where
structure znE where
structure znF (x:Int) where
structure znG (x:Int) where
def zC:zm9:=⟨⟩
def zJ:znA:=⟨⟩
def zD:znB:=⟨⟩
def zX:znC:=⟨⟩
def jB:znD:=⟨⟩
def zH:znE:=⟨⟩
def zB(x:Int):znF x:=⟨⟩
def jK(x:Int):znG x:=⟨⟩
instance:CoeSort zm9 Type:=⟨fun _=>World⟩
instance:CoeSort znA Type:=⟨fun _=>Value⟩
noncomputable instance:CoeHead znB Program:=⟨fun _=>Tryz.prog⟩
instance:CoeHead znC (Nat->Prop):=⟨fun _=>fun _=>False⟩
instance:CoeHead znD Ending:=⟨fun _=> .returned (.tuple #[])⟩
instance:Coe Nat Addr:=⟨fun b=>⟨b,0,none⟩⟩
instance:Coe World Nat:=⟨fun w=>w.heap.size⟩
instance(a b:Nat):CoeDep (Nat×Nat) (a,b) Addr:=⟨⟨a,b,none⟩⟩
instance(a b:Nat):CoeDep (Nat×Nat) (a,b) (Option Addr):=⟨some ⟨a,b,none⟩⟩
instance(w:World)(b:Nat):CoeDep (World×Nat) (w,b) Addr:=⟨⟨w.heap.size,b,none⟩⟩
instance(w:World)(b:Nat):CoeDep (World×Nat) (w,b) (Option Addr):=⟨some ⟨w.heap.size,b,none⟩⟩
instance:Coe Nat Value:=⟨fun b=> .pointer (some ⟨b,0,none⟩)⟩
instance:Coe Int Value:=⟨fun b=> .int .u64 b⟩
instance:Coe Unit Value:=⟨fun _=> .slice none 0 0⟩
instance:CoeHead znE Value:=⟨fun _=> .int .u64 0⟩
instance(x:Int):CoeHead (znF x) Value:=⟨fun _=> .int .i64 x⟩
instance(x:Int):CoeHead (znG x) Value:=⟨fun _=> .int .u64 x⟩
instance:Coe Value Ending:=⟨.returned⟩
def qP(p:Prop):Prop:=p
theorem qP.o{p:Prop}(h:qP p):p:=h
theorem zA{p:Prop}(h:p):qP p:=h
def zN:= @if_neg
def zP:= @if_pos
def zU:= @Nat.le_refl
def zZ:= @Go.RowKit.Below.heap_setCell
def zf:= @Go.RowKit.Below.refl
def zg:= @Nat.lt_of_lt_of_le
def zk:= @Nat.le_trans
def zw:= @List.getElem?_eq_some_iff
def zu:= @Array.getElem?_modify
def xA:= @Go.World.cell?_of_block
def z7:= @List.length_cons
def xB:= @List.length_nil
def xG:= @List.getElem?_eq_getElem
def xK:= @List.mem_cons
def xO:= @Nat.zero_le
def xW:= @decide_eq_true_eq
def xX:= @List.mem_append
def xY:= @List.length_append
def xd:= @List.map_cons
def xk:= @List.length_map
def xn:= @List.mem_of_getElem?
def xr:= @Bool.and_eq_true
def xu:= @List.nil_append
def xz:= @List.mem_map
def yD:= @List.cons_append
def yG:= @Go.bodyPost_ret
def yI:= @Go.info_parts
def yU:= @Go.Sem.run_bind
def yV:= @Go.RowKit.Below.heap_alloc
def yY:= @Go.Result.andThen_ok
def ya:= @Go.World.ownsRow.lt
def yi:= @Go.callsIn_wide
def yl:= @List.map_nil
def ym:= @List.map_append
def yn:= @List.length_take
def yr:= @List.pairwise_cons
def yu:= @List.foldl_cons
def yv:= @List.nodup_append
def yw:= @List.size_toArray
def qI:= @Go.Sem.run_pure
def qJ:= @List.take_length
def qK:= @Array.replicate_succ
def qL:= @Array.replicate_zero
def qM:= @List.push_toArray
def qN:= @List.append_toArray
def qW:= @Go.Addr.add_lit
def qe:= @List.flatMap_append
def qj:= @Int.le_refl
def qr:= @Nat.zero_add
def qX:= @Go.World.size_alloc
def qs:= @Nat.lt_or_ge
def qw:= @List.getElem?_map
def qx:= @Bool.or_eq_true
def jC:= @Option.some.injEq
def jD:= @Nat.add_zero
def jL:= @Go.wpList_append_own_at
def jM:= @Go.run_underlying
def jN:= @Nat.not_lt_zero
def jV:= @List.length_filter_le
def jW:= @Bool.false_eq_true
def jX:= @if_false
def jY:= @Go.World.frozen?_of_block
def jk:= @List.map_map
def jl:= @Go.Oper.semAt_some
def jm:= @List.getElem?_append_left
def jn:= @List.getElem?_cons_zero
def j0:= @List.mem_singleton
def j1:= @List.take_succ_eq_append_getElem
def j2:= @Go.wpOp_mono
def vJ:= @if_true
def vK:= @List.foldl_append
def vL:= @List.getElem?_append_right
def vM:= @Go.rounds_succ
def vN:= @List.getElem?_cons_succ
def ve:= @Go.Value.slice.injEq
def vg:= @List.take_add_one
def vi:= @Go.heap_alloc_new
def vj:= @Go.wpIn_wide
def vp:= @List.getElem?_eq_none
def vq:= @Option.getD_some
def zaH:= @Nat.mod_lt
def zaI:= @Nat.le_of_eq
def zaJ:= @Option.some.inj
def zaK:= @Bool.eq_iff_iff
def zaL:= @Go.callsIn_of_wp
def zaM:= @List.length_drop
def zaX:= @List.take_of_length_le
def zao:= @Option.map_some
def zap:= @List.filter_append
def zaq:= @List.all_eq_true
def zar:= @List.find?_some
def zbG:= @Nat.min_eq_left
def zbH:= @Option.isSome_iff_exists
def zbI:= @List.map_congr_left
def zbJ:= @List.pairwise_append
def zbK:= @Array.getElem?_toList
def zbe:= @Nat.mul_comm
def zbf:= @Go.Proofs.Tryz.underlying37
def zbg:= @Go.Proofs.Tryz.underlying92
def zbh:= @Nat.mul_one
def zbi:= @List.pairwise_iff_getElem
def zbj:= @List.mem_range
def zbk:= @List.getElem_mem
def zbl:= @List.append_nil
def zbm:= @Go.Calls.mono
def zbn:= @Go.World.ownsRow.alloc
def zbo:= @List.eq_nil_of_length_eq_zero
def zbp:= @List.ext_getElem?
def zbq:= @Go.wp_loop_rounds
def zbr:= @Go.Proofs.Tryz.underlying207
def zcD:= @List.any_eq_true
def zcE:= @List.getElem?_take
def zcF:= @List.take_append_drop
def zcG:= @Option.isSome_none
def zcH:= @Go.below_drewN
def zcI:= @Go.results_tmp
def zcJ:= @Go.MapKept.run_getObj_map
def zcK:= @List.length_set
def zcL:= @List.find?_eq_none
def zaN:= @decide_eq_false_iff_not
def zcM:= @Nat.add_mul
def zcN:= @List.flatMap_cons
def zcO:= @Go.results_none
def zcn:= @List.concat_eq_append
def zco:= @Go.Addr.mk.injEq
def zcp:= @Nat.sub_self
def zcq:= @List.length_eq_zero_iff
def zcr:= @List.mem_iff_getElem?
def zcs:= @List.length_range
def zct:= @List.getElem?_drop
def zcu:= @List.mem_filter
def zcv:= @Go.World.cell?_setCells_out
def zcw:= @List.find?_map
def zcx:= @List.cons.injEq
def zcy:= @Array.getElem?_eq_none
def zdU:= @List.set_append_right
def zdV:= @List.mem_flatMap
def zdW:= @Go.wpList_plain
def zdX:= @List.mem_of_mem_take
def zdY:= @List.getElem?_take_of_lt
def zdZ:= @List.nodup_cons
def zda:= @Prod.ext
def zdb:= @List.mem_of_mem_drop
def zdc:= @List.getElem?_set_self
def zdd:= @List.mem_cons_of_mem
def zde:= @Nat.zero_lt_one
def zdf:= @Nat.lt_succ_of_lt
def zeM:= @List.eq_nil_or_concat
def zeN:= @List.getLast?_concat
def zeO:= @List.pairwise_map
def zeP:= @List.filter_map
def zeQ:= @List.filter_eq_self
def zeR:= @Go.Proofs.Tryz.underlying123
def zeS:= @List.filter_cons
def zeT:= @Ne.symm
def zeU:= @Go.ready_mono
def zeV:= @beq_iff_eq
def zeW:= @List.mem_iff_getElem
def zeX:= @decide_eq_true
def zeY:= @Array.toList_push
def zeZ:= @Go.Proofs.Tryz.underlying256
def zea:= @Go.World.size_setCell
def zeb:= @Option.map_map
def zfM:= @Go.Proofs.Tryz.underlying36
def zfN:= @Nat.div_lt_of_lt_mul
def zfO:= @Nat.div_add_mod
def zfP:= @Nat.zero_mul
def zfQ:= @ByteArray.size_append
def zfR:= @List.map_drop
def zfS:= @List.not_mem_nil
def zfT:= @Go.Proofs.Tryz.func3
def zfU:= @List.getElem?_toArray
def zfV:= @List.take_succ_cons
def zfW:= @Go.mem_ready
def zfX:= @Option.map_eq_none_iff
def zfY:= @Go.block_lt_of_cell
def zfZ:= @Array.size_append
def zfa:= @Nat.le_succ
def zfb:= @Prod.mk.injEq
def zfc:= @true_and
def zfd:= @Go.Proofs.Tryz.func115
def zfe:= @Go.Proofs.Tryz.ntmps115
def zff:= @List.takeWhile_cons
def zfg:= @List.dropWhile_cons
def zfh:= @Go.Proofs.Tryz.func23
def zfi:= @Go.Proofs.Tryz.ntmps23
def zfj:= @Go.Proofs.Tryz.func27
def zfk:= @Go.Proofs.Tryz.ntmps27
def zfl:= @Go.Proofs.Tryz.func168
def zfm:= @Go.Proofs.Tryz.func193
def zfn:= @List.append_of_mem
def zfo:= @Go.World.cell?_setCells_in
def zfp:= @Go.wpQuiet_nil
def zfq:= @Go.Proofs.Tryz.func133
def zfr:= @Go.Proofs.Tryz.ntmps133
def zg5:= @List.set_cons_zero
def zg6:= @Go.leaves_cons
def zg7:= @Nat.mul_le_mul
def zg8:= @List.map_toArray
def zg9:= @List.find?_cons
def zhA:= @Int.lt_or_le
def zhB:= @ByteArray.append_assoc
def zhC:= @List.getD_cons_succ
def zhD:= @List.map_take
def zhE:= @List.ext_getElem
def zhF:= @Go.run_slice_l
def zhG:= @Classical.byContradiction
def zhH:= @Go.wpList_append_own
def zhI:= @List.getLast?_append
def zhJ:= @Go.RowKit.run_makeMap
def zhK:= @Go.Proofs.Tryz.underlying21
def zhL:= @Go.Proofs.Tryz.underlying9
def zhM:= @List.filter_nil
def zhN:= @List.all_cons
def zhO:= @Go.wp_region_any
def zhP:= @List.mem_of_find?_eq_some
def zhQ:= @List.takeWhile_append_dropWhile
def zhR:= @List.all_takeWhile
def zhS:= @List.head?_dropWhile_not
def zhT:= @Nat.mul_le_mul_left
def zhU:= @Go.grownCap_le_maxLen
def zhV:= @Go.grownCap_ge
def zhW:= @List.dropLast_concat
def zhX:= @Function.comp_def
def zhY:= @Go.MapKept.run_setObj_map
def zhZ:= @decide_eq_false
def zha:= @Int.natCast_emod
def zhb:= @Nat.eq_zero_or_pos
def zhc:= @and_assoc
def zhd:= @Go.Proofs.Tryz.underlying91
def zhe:= @List.take_zero
def zhf:= @Go.wpIn_mono
def zhg:= @Go.Proofs.Tryz.func201
def zhh:= @Go.Proofs.Tryz.func124
def zhi:= @Go.run_copy_cells
def zhj:= @Nat.min_def
def zhk:= @List.sum_cons
def zhl:= @and_congr_right
def zhm:= @List.append_eq_nil_iff
def zhn:= @List.getD_cons_zero
def zjL:= @Option.map_eq_some_iff
def zjM:= @Int.toNat_of_nonneg
def zjN:= @List.any_cons
def zjO:= @List.any_nil
def zjP:= @Bool.or_false
def zjQ:= @Go.Proofs.Tryz.results90
def zjR:= @List.getElem?_eraseIdx
def zjS:= @Int.eq_ofNat_of_zero_le
def zjT:= @List.getElem_map
def zjU:= @List.foldl_nil
def zjV:= @List.append_assoc
def zjW:= @List.filter_congr
def zjX:= @List.drop_drop
def zjY:= @of_decide_eq_true
def zjZ:= @Go.Proofs.Tryz.func161
def zja:= @Go.Proofs.Tryz.func228
def zjb:= @List.getLast?_singleton
def zjc:= @Option.some_or
def zjd:= @List.drop_succ_cons
def zje:= @Nat.sub_zero
def zjf:= @Go.run_convert_runes
def zjg:= @Go.World.ownsRow.cellAt
def zjh:= @Go.callsD_of_wpS
def zji:= @Go.Proofs.Tryz.results190
def zjj:= @List.getElem?_eq_none_iff
def zjk:= @Bool.or_eq_false_iff
def zjl:= @Bool.and_eq_false_iff
def zjm:= @List.drop_eq_getElem_cons
def zjn:= @Go.Proofs.Tryz.ntmps21
def zjo:= @List.range_succ
def zjp:= @Go.Proofs.Tryz.func218
def zjq:= @Go.Proofs.Tryz.underlying76
def zjr:= @Nat.pow_le_pow_right
def zjs:= @Int.natCast_add
def zjt:= @Int.natCast_mul
def zju:= @Go.run_storeVar_row
def zjv:= @List.getElem_inj
def zjw:= @List.drop_zero
def zjx:= @Go.Proofs.Tryz.results8
def zjy:= @Go.Proofs.Tryz.results104
def zjz:= @List.getElem?_set_ne
def zj0:= @Array.size_modify
def zj1:= @List.take_prefix
def zj2:= @Go.Oper.semAt_eq
def zj3:= @Int.toNat_natCast
def zj4:= @List.drop_left
def zj5:= @Go.Proofs.Tryz.func137
def zj6:= @Go.Proofs.Tryz.ntmps137
def zj7:= @Go.Proofs.Tryz.func294
def zj8:= @Go.Proofs.Tryz.ntmps294
def zj9:= @List.length_pos_iff
def zkA:= @Nat.ne_of_lt
def zkB:= @List.getLast?_eq_none_iff
def zkC:= @Go.Proofs.Tryz.func260
def zkD:= @Go.Proofs.Tryz.ntmps260
def zkE:= @List.getElem_toArray
def zkF:= @List.getElem_cons_succ
def zkG:= @List.getElem_cons_zero
def zkH:= @Nat.lt_of_succ_lt
def zkI:= @Go.wpList_next_ranges_ii
theorem oa{p:Prop}(h:p:=by omega):p:=h
theorem oe{p:Prop}(h:p:=by kernel_rfl):p:=h
theorem og{p:Prop}(h:p:=by simp[IntKind.wrap,IntKind.bits,IntKind.signed];omega):p:=h
theorem oh{p:Prop}(h:p:=by simp):p:=h
theorem oi{p:Prop}(h:p:=by simp;omega):p:=h
theorem oj{p:Prop}(h:p:=by(simp only[zt,qX];repeat(first|rw[zP rfl] |rw[zP trivial] |rw[zP (by omega)] |rw[zN (by omega)]))):p:=h
theorem ol{p:Prop}(h:p:=by decide):p:=h
theorem oq{p:Prop}(h:p:=by show w.heap.size<_;omega):p:=h
theorem ot{p:Prop}(h:p:=by(simp only[zt,qX];repeat(first|rw[zP rfl] |rw[zP trivial] |rw[zP (by omega)] |rw[zN (by omega)]))<;> rfl):p:=h
theorem ou{p:Prop}(h:p:=by go_num):p:=h
theorem ox{p:Prop}(h:p:=by rw[<-c];exact(ziB w _ _ _ _ _).1):p:=h
theorem oy{p:Prop}(h:p:=by rw[<-c];exact(ziB w _ _ _ _ _).2):p:=h
theorem oz{p:Prop}(h:p:=by rw[<-aP];(simp only[zt,qX];repeat(first|rw[zP rfl] |rw[zP trivial] |rw[zP (by omega)] |rw[zN (by omega)]))):p:=h
theorem oA{p:Prop}(h:p:=by show w.heap.size+1<_;omega):p:=h
theorem oB{p:Prop}(h:p:=by show w.heap.size<=w+1;omega):p:=h
theorem oC{p:Prop}(h:p:=by assumption):p:=h
theorem oD{p:Prop}(h:p:=by have h2:Exit.outgrown=Exit.normal:=And.left h;cases h2):p:=h
theorem oE{p:Prop}(h:p:=by simp only[z7,xB];omega):p:=h
theorem oF{p:Prop}(h:p:=by rw[g.o,zN (by rcases(show a=1\/a=2\/a=3 by omega) with rfl|rfl|rfl<;> omega)];rfl):p:=h
theorem oG{p:Prop}(h:p:=by subst c;(simp only[zt,qX];repeat(first|rw[zP rfl] |rw[zP trivial] |rw[zP (by omega)] |rw[zN (by omega)]))):p:=h
theorem oH{p:Prop}(h:p:=by rw[zt,zN (by simp),zt,zP rfl]):p:=h
theorem oI{p:Prop}(h:p:=by rw[<-HO.o];rfl):p:=h
theorem oJ{p:Prop}(h:p:=by have:=i.lohi;have:=(i.node c).lt;obtain⟨b3,b9,J⟩:=i;have:=J.blo p c;unfold qC at e;dsimp only at e this;omega):p:=h
theorem oK{p:Prop}(h:p:=by rw[qW];exact(show zR ((c.alloc (.cells (ze a).toArray 66)).drew) c a from zR.new c a).cells bm g bH):p:=h
theorem oL{p:Prop}(h:p:=by rw[zt,zN (by simp;omega),zt,zN (by omega)];exact f):p:=h
theorem oM{p:Prop}(h:p:=by rw[zaM];omega):p:=h
theorem oN{p:Prop}(h:p:=by rw[zt,zP (by simp)]):p:=h
theorem oO{p:Prop}(h:p:=by simp[World.cell?,World.setCell,zu,hu11]):p:=h
theorem oP{p:Prop}(h:p:=by unfold maxLen;omega):p:=h
theorem oQ{p:Prop}(h:p:=by have h:=(zG.slice (α:=zF) (k:=2) (enc:=zn) (fun _=>rfl) HO.o).below hX7;rw[HN0.o] at h;exact h):p:=h
theorem oR{p:Prop}(h:p:=by have h1:=HBW.o.size;have h2:=HB.o.size;simp;omega):p:=h
theorem oS{p:Prop}(h:p:=by go_simp):p:=h
theorem oT{p:Prop}(h:p:=by simp[World.frozen?,d]):p:=h
theorem oU{p:Prop}(h:p:=by show(zz (zz (T++[]) []) []).length<=_;rw[ze2 a.cI.norm,ze3 a.cI.norm];omega):p:=h
theorem oV{p:Prop}(h:p:=by have:=(I _ e).1;omega):p:=h
theorem oW{p:Prop}(h:p:=by rw[<-c];simp[World.cell?,World.setCell,zu,x]):p:=h
theorem oX{p:Prop}(h:p:=by simp[zF.rightB,xi];omega):p:=h
theorem oY{p:Prop}(h:p:=by simp[intOf];omega):p:=h
theorem oZ{p:Prop}(h:p:=by have:=HLB.o;simp only[xY,z7,xB] at this ⊢;omega):p:=h
theorem oaa{p:Prop}(h:p:=by rw[yn];omega):p:=h
theorem oab{p:Prop}(h:p:=by rw[IntKind.wrap_i64];omega):p:=h
theorem oac{p:Prop}(h:p:=by subst hW2;exact(zZ _ _ _ _ (by show ¬w.heap.size+1=ob;omega)).trans hrc):p:=h
theorem oad{p:Prop}(h:p:=by subst hW2;exact(zZ _ _ _ _ (by show ¬w.heap.size=ob;omega)).trans hec):p:=h
theorem oae{p:Prop}(h:p:=by subst hW2;exact hBc.setCell (p:=(ob,2)) (by show w.heap.size<=ob;omega) _):p:=h
theorem oaf{p:Prop}(h:p:=by simp only[yL];have:=zaH (nB s 0) b;simp;omega):p:=h
theorem oag{p:Prop}(h:p:=by show ¬w.heap.size+1=w.heap.size;omega):p:=h
theorem oah{p:Prop}(h:p:=by rw[zaN];omega):p:=h
theorem oai{p:Prop}(h:p:=by rw[i.o];omega):p:=h
theorem jA{p:Prop}(h:p:=by simp[b]):p:=h
theorem oak{p:Prop}(h:p:=by push_cast;rfl):p:=h
theorem oal{p:Prop}(h:p:=by rw[HT.o,HCV.o];exact zG.blk HOJ.o fun b e=>hBW'.block b (HOJ.o.lt e)):p:=h
theorem oam{p:Prop}(h:p:=by unfold ju;rw[zt,if_neg (by simp),zt,if_pos (by simp)]):p:=h
theorem oan{p:Prop}(h:p:=by unfold qC at hb;unfold zy;omega):p:=h
theorem oao{p:Prop}(h:p:=by have:=hb.size;omega):p:=h
theorem oap{p:Prop}(h:p:=by simp[results,go_sem]):p:=h
theorem oaq{p:Prop}(h:p:=by rw[g.len];omega):p:=h
theorem jj{p:Prop}(h:p:=by simp[d]):p:=h
theorem oas{p:Prop}(h:p:=by rw[qw,t];rfl):p:=h
theorem oat{p:Prop}(h:p:=by simp only[World.frozen?,hu11];simp):p:=h
theorem oau{p:Prop}(h:p:=by rw[s.o,A.o];exact zG.blk n.o fun a e=>f.block a (n.o.lt e)):p:=h
theorem oav{p:Prop}(h:p:=by simp[World.cell?,D]):p:=h
theorem oaw{p:Prop}(h:p:=by simp[World.setCell,zu,a.st]):p:=h
theorem oax{p:Prop}(h:p:=by have:=d.size;omega):p:=h
theorem oay{p:Prop}(h:p:=by show w.heap.size<=e+6;have:=az.o;omega):p:=h
theorem oaz{p:Prop}(h:p:=by simp[World.setCell,zu,a.sq]):p:=h
theorem oaA{p:Prop}(h:p:=by show(zz (T++[]) []).length<=_;rw[ze2 a.cI.norm];omega):p:=h
theorem oaB{p:Prop}(h:p:=by show w.heap.size<=a;omega):p:=h
theorem oaC{p:Prop}(h:p:=by simpa using a):p:=h
theorem oaD{p:Prop}(h:p:=by simp only[World.cell?,hu11];simp):p:=h
theorem oaE{p:Prop}(h:p:=by simp[World.setCell]):p:=h
theorem oaF{p:Prop}(h:p:=by show 1<=K+1;omega):p:=h
theorem oaG{p:Prop}(h:p:=by have:=HOL.o;simp only[z7,xB];omega):p:=h
theorem oaH{p:Prop}(h:p:=by have:=d.1.size;omega):p:=h
theorem oaI{p:Prop}(h:p:=by show ¬b=w+1;omega):p:=h
theorem oaJ{p:Prop}(h:p:=by subst y;simp[World.cell?,World.setCell,zu,x]):p:=h
theorem oaK{p:Prop}(h:p:=by unfold yd;decide +kernel):p:=h
theorem oaL{p:Prop}(h:p:=by simp only[yL];rw[zha];rfl):p:=h
theorem oaM{p:Prop}(h:p:=by show ¬w.heap.size=w+1;omega):p:=h
theorem oaN{p:Prop}(h:p:=by rw[HR0.o]):p:=h
theorem oaO{p:Prop}(h:p:=by rw[xk,s.o];simp):p:=h
theorem oaP{p:Prop}(h:p:=by show _<=w+1;omega):p:=h
theorem oaQ{p:Prop}(h:p:=by simpa using h):p:=h
theorem oaR{p:Prop}(h:p:=by show S.order.length<=_;omega):p:=h
theorem oaS{p:Prop}(h:p:=by simp[World.cell?,A]):p:=h
theorem oaT{p:Prop}(h:p:=by unfold vx at b;simp[World.frozen?,b]):p:=h
theorem oaU{p:Prop}(h:p:=by have:=hB3'.size;simp;omega):p:=h
theorem oaV{p:Prop}(h:p:=by simp[c]):p:=h
theorem oaW{p:Prop}(h:p:=by rw[qw,p];rfl):p:=h
theorem oaX{p:Prop}(h:p:=by simp[World.cell?,f,zb]):p:=h
theorem oaY{p:Prop}(h:p:=by simp[World.cell?,R,zb]):p:=h
theorem oaZ{p:Prop}(h:p:=by simpa using e):p:=h
theorem oba{p:Prop}(h:p:=by have:=hb3.size;omega):p:=h
theorem obb{p:Prop}(h:p:=by rw[cf.o];exact br.o _ _ aj.o _):p:=h
theorem obc{p:Prop}(h:p:=by cases O<;> exact h):p:=h
theorem obd{p:Prop}(h:p:=by cases e):p:=h
theorem obe{p:Prop}(h:p:=by show wr.heap.size<_;omega):p:=h
theorem obf{p:Prop}(h:p:=by rw[HHE.o,HST.o];exact HR.o):p:=h
theorem obg{p:Prop}(h:p:=by simpa using c):p:=h
theorem obh{p:Prop}(h:p:=by simpa using f):p:=h
theorem obi{p:Prop}(h:p:=by rw[g.o,zN (by omega)];rfl):p:=h
theorem obk{p:Prop}(h:p:=by simp[World.frozen?,hh3]):p:=h
theorem obl{p:Prop}(h:p:=by rw[<-J.o];simp):p:=h
theorem obm{p:Prop}(h:p:=by simp[World.frozen?,hE]):p:=h
theorem obn{p:Prop}(h:p:=by simp[Act.eval,Act.put]):p:=h
theorem obo{p:Prop}(h:p:=by rw[k.o];exact A):p:=h
theorem obp{p:Prop}(h:p:=by simp[World.frozen?,a]):p:=h
theorem obq{p:Prop}(h:p:=by simp[World.frozen?,b]):p:=h
theorem obr{p:Prop}(h:p:=by simpa using d):p:=h
theorem obs{p:Prop}(h:p:=by show e<_;omega):p:=h
theorem obt{p:Prop}(h:p:=by simp[f]):p:=h
inductive za(lf rt:Nat->List Nat):List Nat->List Nat->Prop
 |nil:za lf rt [] []
 |cons {i:Nat}{L a b c:List Nat}:za lf rt (lf i) a->za lf rt (rt i) b->za lf rt L c->za lf rt (i::L) (a++i::(b++c))
theorem za.nil_inv{c b:Nat->List Nat}{o:List Nat}(a:za c b [] o):o= []:=by cases a;rfl
theorem za.cons_inv{a b:Nat->List Nat}{i:Nat}{L o:List Nat}(g:za a b (i::L) o):∃e c d,za a b (a i) e/\za a b (b i) c/\za a b L d/\o=e++i::(c++d):=by
 cases g with
 |cons h f j=>exact⟨_,_,_,h,f,j,rfl⟩
theorem za.det{d c:Nat->List Nat}{L o:List Nat}(a:za d c L o):∀{b:List Nat},za d c L b->o=b:=by
 induction a with
 |nil=>intro b a;exact a.nil_inv.symm
 |cons q l k h j i=>
  intro b a;obtain⟨p,n,m,g,f,e,rfl⟩:=a.cons_inv;rw[h g,j f,i e]
theorem za.one{c d:Nat->List Nat}{i:Nat}{a b:List Nat}(f:za c d (c i) a)(e:za c d (d i) b):za c d [i] (a++i::b):=by have:=za.cons f e .nil;simpa using this
theorem za.one_inv{a c:Nat->List Nat}{i:Nat}{o:List Nat}(f:za a c [i] o):∃d b,za a c (a i) d/\za a c (c i) b/\o=d++i::b:=by obtain⟨d,b,j,g,e,h,rfl⟩:=f.cons_inv;exact⟨d,b,g,e,by rw[h.nil_inv];simp⟩
theorem za.append{a b:Nat->List Nat}{L c o d:List Nat}(h:za a b L o)(g:za a b c d):za a b (L++c) (o++d):=by
 induction h with
 |nil=>simpa using g
 | @cons j L q m n i e p l k f=>
   have:=za.cons i e f;simpa using this
theorem za.split{b d:Nat->List Nat}:∀{L a o:List Nat},za b d (L++a) o->∃e c,za b d L e/\za b d a c/\o=e++c
 | [],a,o,f=>⟨[],o,.nil,f,rfl⟩
 |i::L,a,o,f=>by obtain⟨p,m,n,j,g,k,rfl⟩:=za.cons_inv (show za b d (i::(L++a)) o from f);obtain⟨e,c,h,l,rfl⟩:=za.split k;exact⟨_,c,.cons j g h,l,oh⟩
theorem za.congr{f d i j:Nat->List Nat}{L o:List Nat}(h:za f d L o):(∀a∈o,i a=f a/\j a=d a)->za i j L o:=by
 induction h with
 |nil=>intro _;exact .nil
 | @cons m L k u t h1 s r n q p=>
   intro c;have g:=c m oh;have l:=n fun a b=>c a jA;have e:=q fun a b=>c a jA;have w3:=p fun a b=>c a jA;rw[<-g.1] at l;rw[<-g.2] at e;exact .cons l e w3
theorem za.sub{k j:Nat->List Nat}{L o:List Nat}(m:za k j L o):∀{x:Nat},x∈o->∃d b c,za k j [x] b/\o=d++b++c:=by
 induction m with
 |nil=>intro x a;cases a
 | @cons f L i h g q l s n r p=>
   intro x a;rcases xX.1 a with a|a
   ·obtain⟨d,b,c,e,rfl⟩:=n a;exact⟨d,b,c++f::(h++g),e,oh⟩
   ·rcases xK.1 a with rfl|a
    ·exact⟨[],i++x::h,g,q.one l,oh⟩
    ·rcases xX.1 a with a|a
     ·obtain⟨d,b,c,e,rfl⟩:=r a;exact⟨i++f::d,b,c++g,e,oh⟩
     ·obtain⟨d,b,c,e,rfl⟩:=p a;exact⟨i++f::(h++d),b,c,e,oh⟩
theorem za.subst{k j m n:Nat->List Nat}{p:Nat}{s J:List Nat}(aa:za k j [p] s)(N:za m n [p] J){L o:List Nat}(h:za k j L o):
 o.Nodup->p∈o->(∀a∈o,a≠p->m a=k a/\n a=j a)->∃f e,o=f++s++e/\za m n L (f++J++e):=by
 induction h with
 |nil=>intro _ b;cases b
 | @cons d L r q i h1 B A T Y W=>
   intro H b t;rw[yv] at H;obtain⟨M,w,x⟩:=H;rw[zdZ,yv] at w;obtain⟨D,w,V,F⟩:=w;have O:∀a∈r,a≠d:=fun a b=>x a b d oh;have ab:∀a∈q,a≠d:=fun a b c=>D (by simp[<-c,b]);have X:∀a∈i,a≠d:=fun a b c=>D (by simp[<-c,b]);have G:∀a∈r,a≠p->m a=k a/\n a=j a:=fun a b=>t a jA;have y:∀a∈q,a≠p->m a=k a/\n a=j a:=fun a b=>t a jA;have v:∀a∈i,a≠p->m a=k a/\n a=j a:=fun a b=>t a jA;rcases xX.1 b with b|b
   ·have I:∀a∈r,True:=fun _ _=>trivial;have z:∀a∈q,a≠p:=fun a hb c=>x p b a (by simp[hb]) c.symm;have C:∀a∈i,a≠p:=fun a hb c=>x p b a (by simp[hb]) c.symm;obtain⟨f,e,rfl,g⟩:=T M b G;have l:=t d oh (fun c=>(O p b) c.symm);rw[<-l.1] at g;have u:=B.congr fun a b=>y a b (z a b);rw[<-l.2] at u;have w3:=A.congr fun a b=>v a b (C a b);exact⟨f,e++d::(q++i),oh,by have:=za.cons g u w3;simpa using this⟩
   ·rcases xK.1 b with rfl|b
    ·obtain rfl:=(h1.one B).det aa;refine⟨[],i,oh,?_⟩;have w3:=A.congr fun a b=>v a b (X a b);have:=za.append N w3;simpa using this
    ·have Z:d≠p:=fun c=>D (by rw[c];exact b);have l:=t d oh Z;have I:∀a∈r,a≠p:=fun a K c=>x a K p (by simp[xX.1 b]) c;have E:=h1.congr fun a b=>G a b (I a b);rw[<-l.1] at E;rcases xX.1 b with b|b
     ·have C:∀a∈i,a≠p:=fun a R c=>F p b a R c.symm;obtain⟨f,e,rfl,g⟩:=Y w b y;rw[<-l.2] at g;have w3:=A.congr fun a b=>v a b (C a b);exact⟨r++d::f,e++i,oh,by have:=za.cons E g w3;simpa using this⟩
     ·have z:∀a∈q,a≠p:=fun a hb c=>F a hb p b c;obtain⟨f,e,rfl,g⟩:=W V b v;have u:=B.congr fun a b=>y a b (z a b);rw[<-l.2] at u;exact⟨r++d::(q++f),e,oh,by have:=za.cons E u g;simpa using this⟩
structure zF where
 c:Int
 k:Int
 deriving DecidableEq,Inhabited
structure zO where
 c:Int
 a:Int
 b:Int
 deriving DecidableEq,Inhabited
structure zr where
 kind:Int
 n:Int
 f:Nat
 s:ByteArray
 deriving DecidableEq,Inhabited
structure zQ where
 id:zF
 kind:Int
 stamp:Int
 left:zF
 right:zF
 text:ByteArray
 v:zr
 key:ByteArray
 parent:zF
 frm:zF
 frmA:Bool
 til:zF
 tilA:Bool
 deriving DecidableEq,Inhabited
def xi(n:Int):Bool:=decide (1<=n) && decide (n<=9007199254740991)
def zF.rightB(i:zF):Bool:=xi i.c && xi i.k
def zF.lessB(x y:zF):Bool:=decide (x.c<y.c) || (decide (x.c=y.c) && decide (x.k<y.k))
def zO.rightB(r:zO):Bool:=xi r.c && decide (1<=r.a) && decide (r.a<r.b) && decide (r.b<=9007199254740992)
def zO.hasB(r:zO)(i:zF):Bool:=r.rightB && decide (r.c=i.c) && decide (r.a<=i.k) && decide (i.k<r.b)
def qv(f:Nat):Bool:=FloatKind.f64.format.order f f !=some Ordering.eq
def za5:Nat:=9221120237041090560
def zr.clean(v:zr):zr:=if qv v.f then {v with f:=za5} else v
def orI(x y:Int):Int:=if x≠0 then x else y
theorem zqv{x b:Int}(a:(x !=0)=true):x=orI x b:=by have c:x≠0:=oaC;simp[orI,c]
theorem zqw{x a:Int}(b:(x !=0)=false):a=orI x a:=by
 have c:x=0:=by simpa using b
 simp[orI,c]
theorem zqx{x a:Int}(c:(x !=0)=false)(b:(a !=0)=false):0=orI x a:=by
 have e:x=0:=obg;have d:a=0:=by simpa using b
 simp[orI,e,d]
def jv(x y:Int):Int:=if x<y then -1 else if y<x then 1 else 0
def zO.cmp(x y:zO):Int:=orI (jv x.c y.c) (jv x.a y.a)
def zQ.lessB(x y:zQ):Bool:=decide (x.stamp<y.stamp) || (decide (x.stamp=y.stamp) && x.id.lessB y.id)
def xH(l:List zO)(i:zF):Bool:=i.rightB && l.any fun r=>r.hasB i
def y9(b:List zO)(r:zO):List zO:=
 match b.getLast? with
 |some a=>if a.c=r.c/\r.a<=a.b then b.dropLast++[⟨a.c,a.a,max a.b r.b⟩] else b++[r]
 |none=> [r]
def jf(l:List zO):List zO:=l.foldl y9 []
def xq(l:List zO)(i:zF):Bool:=l.any fun r=>r.hasB i
theorem zl5{x r:zO}{i:zF}(c:x.rightB=true)(b:r.rightB=true)(f:x.c=r.c)(d:x.a<=r.a)(e:r.a<=x.b):
 (⟨x.c,x.a,max x.b r.b⟩:zO).rightB=true/\(⟨x.c,x.a,max x.b r.b⟩:zO).hasB i=(x.hasB i || r.hasB i):=by
 have a:(⟨x.c,x.a,max x.b r.b⟩:zO).rightB=true:=by simp[zO.rightB,xi] at *;omega
 refine⟨a,?_⟩;unfold zO.hasB;rw[a,c,b,zaK];simp;omega
def zic(d c:List zO):Prop:=(∀a∈d,a.rightB=true)/\(∀a∈c,a.rightB=true)/\∀b,d.getLast?=some b->∀a∈c,b.c=a.c->b.a<=a.a
theorem zqe{c:List zO}{r:zO}{k:List zO}{i:zF}(t:zic c (r::k))(q:∀b∈k,r.c=b.c->r.a<=b.a):
 zic (y9 c r) k/\xq (y9 c r) i=(xq c i || r.hasB i):=by
 obtain⟨m,f,p⟩:=t;have l:=f r oh;unfold y9;cases hl:c.getLast? with
 |none=>
  have:c= []:=by simpa using hl
  subst this;refine⟨⟨by simpa using l,fun b a=>f b (by simp[a]),?_⟩,by simp[xq]⟩;intro d n b a e;obtain rfl:r=d:=by simpa using n
  exact q b a e
 |some d=>
  have s:c=c.dropLast++[d]:=by obtain⟨v,u⟩:=List.getLast?_eq_some_iff.1 hl;rw[u];simp
  dsimp only;split
  ·rename_i e;have n:d.rightB=true:=m d (List.mem_of_getLast? hl);have o:=zl5 (i:=i) n l e.1 (p d hl r oh e.1) e.2;refine⟨⟨?_,fun b a=>f b (by simp[a]),?_⟩,?_⟩
   ·intro b a;rcases xX.1 a with a|a
    ·exact m b ((List.dropLast_sublist c).subset a)
    ·obtain rfl:b=_:=(by simpa using a);exact o.1
   ·intro g h b a j;obtain rfl:_=g:=oaQ;exact p d hl b (by simp[a]) j
   ·rw[show xq c i=xq (c.dropLast++[d]) i by rw[<-s]];simp[xq,o.2,Bool.or_assoc]
  ·refine⟨⟨?_,fun b a=>f b (by simp[a]),?_⟩,?_⟩
   ·intro b a;rcases xX.1 a with a|a
    ·exact m b a
    ·obtain rfl:b=_:=(by simpa using a);exact l
   ·intro g h b a j;obtain rfl:r=g:=oaQ;exact q b a j
   ·simp[xq]
theorem zl6{i:zF}:∀(l a:List zO),zic a l->l.Pairwise (fun c b=>c.c=b.c->c.a<=b.a)->xq (l.foldl y9 a) i=(xq a i || xq l i)
 | [],a,_,_=>by simp[xq]
 |k::l,a,g,j=>by obtain⟨e,h⟩:=yr.1 j;obtain⟨f,d⟩:=zqe (i:=i) g e;rw[yu,zl6 l _ f h,d,Bool.or_assoc];simp[xq]
theorem zqf(a:List zO)(r:zO):(y9 a r).length<=a.length+1:=by
 unfold y9;split
 ·split
  ·simp
  ·simp
 ·simp
theorem zid:∀(l a:List zO),(l.foldl y9 a).length<=a.length+l.length
 | [],a=>oh
 |b::l,a=>by rw[yu,z7];have:=zid l (y9 a b);have:=zqf a b;omega
theorem zie(l:List zO):(jf l).length<=l.length:=by have:=zid l [];simpa[jf] using this
theorem zqg(l:List zO)(i:zF):xq (l.filter zO.rightB) i=xq l i:=by unfold xq;rw[List.any_filter];congr 1;funext r;unfold zO.hasB;cases r.rightB<;> simp
theorem zqh{l l':List zO}(d:l.Perm l')(i:zF):xq l i=xq l' i:=by unfold xq;rw[zaK,zcD,zcD];exact⟨fun⟨b,c,a⟩=>⟨b,d.mem_iff.1 c,a⟩,fun⟨b,c,a⟩=>⟨b,d.mem_iff.2 c,a⟩⟩
theorem zif{x y:Int}:jv x y<0↔x<y:=by unfold jv;split<;> (try split)<;> omega
theorem zl7{x y:Int}:jv x y=0↔x=y:=by unfold jv;split<;> (try split)<;> omega
theorem za3{x a:zO}:x.cmp a<0↔x.c<a.c\/(x.c=a.c/\x.a<a.a):=by
 unfold zO.cmp orI;by_cases b:x.c=a.c
 ·have:jv a.c a.c=0:=zl7.2 rfl;simp[b,this,zif]
 ·have c:jv x.c a.c≠0:=fun d=>b (zl7.1 d);simp[c,zif,b]
def za4(d:List zO):Prop:=d.Pairwise (fun x y=>¬y.cmp x<0)
theorem zl8{l d:List zO}(f:d.Perm (l.filter zO.rightB))(k:za4 d)(i:zF):xH (jf d) i=xH l i:=by
 have a:∀e∈d,e.rightB=true:=fun e a=>(zcu.1 (f.mem_iff.1 a)).2;have g:d.Pairwise (fun b c=>b.c=c.c->b.a<=c.a):=k.imp fun {b c} h m=>by rw[za3] at h;omega
 have:=zl6 (i:=i) d [] ⟨oh,a,oh⟩ g;have j:xq (jf d) i=xq l i:=by rw[jf,this,zqh f,zqg];simp[xq]
 unfold xH;exact congrArg (i.rightB && ·) j
structure qB where
 ops:List zQ
 hidden:List zO
 deriving Inhabited
def zQ.clean(o:zQ):zQ:={o with v:=o.v.clean}
def zT:zF:=⟨0,0⟩
def yO:zr:=⟨0,0,0,ByteArray.empty⟩
def zi:zQ:=⟨zT,0,0,zT,zT,ByteArray.empty,yO,ByteArray.empty,zT,zT,false,zT,false⟩
namespace qB
def at_(M:qB)(i:zF):Option zQ:=M.ops.find? fun o=>decide (o.id=i)
def has(M:qB)(i:zF):Bool:=(M.at_ i).isSome
def set(M:qB)(o:zQ):qB:={M with ops:=M.ops++[o.clean]}
end qB
def zaV(l:List zQ)(p:zF)(k:ByteArray):List zQ:=l.filter fun o=>decide (o.parent=p) && decide (o.key=k)
def zi6(l:List zQ)(p:zF):List ByteArray:=l.foldl (fun(a:List ByteArray) (o:zQ)=>if o.parent=p/\(a.any fun b=>decide (b=o.key))=false then a++[o.key] else a) []
def zi7(l:List zQ):List zF:=l.foldl (fun(a:List zF) (o:zQ)=>if o.parent∈a then a else a++[o.parent]) []
def zsj(c:List zO)(b:Option zQ)(o:zQ):Option zQ:=
 if xH c o.id then b else match b with
  |none=>some o
  |some a=>if a.lessB o then some o else some a
def zsk(b:List zO)(l:List zQ):Option zQ:=l.foldl (zsj b) none
def qi(b:Option zQ):Option zQ:=match b with
 |some o=>if o.v.kind=0 then none else some o
 |none=>none
def qB.get(M:qB)(p:zF)(k:ByteArray):Option zQ:=qi (zsk M.hidden (zaV M.ops p k))
theorem zmw{p:zF}{k:ByteArray}:∀(l:List zQ) (c:List ByteArray),k∈l.foldl (fun(h:List ByteArray) (o:zQ)=>if o.parent=p/\(h.any fun a=>decide (a=o.key))=false then h++[o.key] else h) c↔k∈c\/∃o∈l,o.parent=p/\o.key=k
 | [],c=>oh
 |o::l,c=>by
  rw[yu,zmw l];by_cases e:o.parent=p
  ·by_cases f:(c.any fun a=>decide (a=o.key))=false
   ·rw[zP ⟨e,f⟩];simp[e,or_assoc,eq_comm]
   ·rw[zN (fun b=>f b.2)];have:o.key∈c:=(by have g:(c.any fun a=>decide (a=o.key))=true:=obh;obtain⟨a,d,j⟩:=zcD.1 g;rw[<-zjY j];exact d);constructor
    ·rintro(b|⟨a,d,b⟩)
     ·exact .inl b
     ·exact .inr ⟨a,jj,b⟩
    ·rintro(b|⟨a,d,g,i⟩)
     ·exact .inl b
     ·rcases xK.1 d with rfl|d
      ·exact .inl (i ▸ this)
      ·exact .inr ⟨a,d,g,i⟩
  ·rw[zN (fun b=>e b.1)];simp[e]
theorem zmx{l:List zQ}{p:zF}{k:ByteArray}:zaV l p k≠[]↔∃o∈l,o.parent=p/\o.key=k:=by unfold zaV;rw[ne_eq,List.filter_eq_nil_iff];simp
theorem zmy{l:List zQ}{p:zF}{k:ByteArray}:k∈zi6 l p↔zaV l p k≠[]:=by unfold zi6;rw[zmw,zmx];simp
theorem zmz{p:zF}:∀(l:List zQ) (b:List zF),p∈l.foldl (fun(e:List zF) (o:zQ)=>if o.parent∈e then e else e++[o.parent]) b↔p∈b\/∃o∈l,o.parent=p
 | [],b=>oh
 |o::l,b=>by
  rw[yu,zmz l];by_cases f:o.parent∈b
  ·rw[zP f];constructor
   ·rintro(a|⟨d,c,a⟩)
    ·exact .inl a
    ·exact .inr ⟨d,oaV,a⟩
   ·rintro(a|⟨d,c,a⟩)
    ·exact .inl a
    ·rcases xK.1 c with rfl|c
     ·exact .inl (a ▸ f)
     ·exact .inr ⟨d,c,a⟩
  ·rw[zN f];simp[or_assoc,eq_comm]
theorem zsl{l:List zQ}{p:zF}:p∈zi7 l↔∃o∈l,o.parent=p:=by unfold zi7;rw[zmz];simp
theorem zsm:qv za5=true:=by decide +kernel
theorem zxY(v:zr):v.clean.clean=v.clean:=by
 unfold zr.clean;cases h:qv v.f
 ·simp[h]
 ·simp[zsm]
structure zV where
 id:zF
 left:zF
 right:zF
def qu:zV:=⟨zT,zT,zT⟩
instance:Inhabited zV:=⟨qu⟩
end Go.Proofs.YtimlgcodecgecaaGreatDoor
