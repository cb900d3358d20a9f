/- Walk: store.Next. -/
import Derived.Test.YtaeebgljcdfolaaGreatDoorM22
import Derived.Test.YtaeebgljcdfolaaGreatDoorM23
import Derived.Test.YtaeebgljcdfolaaGreatDoorM36
namespace Go.Proofs.YtaeebgljcdfolaaGreatDoor
open Go.RowKit Go.Lib

/-- what Next leaves: nothing is ready; or one that is ready is taken. -/
def NextR (F : Nat → Prop) (sb : Nat) (K : List (Int × ByteArray)) (Q : List QOp) (H : List QRng) (w : World) (e : Ending) (w' : World) : Prop :=
  ((∀ o ∈ Q, ¬ readyO K o) ∧ e = .returned (.tuple #[opV opZero, .bool false]) ∧ StoreIn w' (fun b => F b ∨ w.heap.size ≤ b) sb K Q H ∧ Mods F w w') ∨
  ∃ k o H', Q[k]? = some o ∧ readyO K o ∧ e = .returned (.tuple #[opV o, .bool true]) ∧ CleanL H' ∧ (∀ i, hasRngs H' i = (hasRngs H i && !hasRngs [o.rng] i)) ∧
    StoreIn w' (fun b => F b ∨ w.heap.size ≤ b) sb K (Q.eraseIdx k) H' ∧ Mods F w w'
/-- the best one so far. -/
def BestR (K : List (Int × ByteArray)) (Q : List QOp) (k : Nat) (b : Value) : Prop :=
  (b = .int .i64 (-1) ∧ ∀ j, j < k → ∀ o, Q[j]? = some o → ¬ readyO K o) ∨ ∃ j : Nat, ∃ o, j < k ∧ Q[j]? = some o ∧ readyO K o ∧ b = .int .i64 j
set_option maxRecDepth 100000 in
set_option maxHeartbeats 8000000 in
theorem next_any (m : Nat) (tx : Int → ByteArray) (hx : Texts m tx) (F : Nat → Prop) (sb : Nat) (K : List (Int × ByteArray)) (Q : List QOp) (H : List QRng) (w : World) (h : StoreIn w F sb K Q H) (hK : KSmall K) (hT : Tabs w) (hI : BInv m tx K Q H) (hFT : TabFree F) :
    Calls Tryz.prog 12 #[.pointer (some ⟨sb, 0, none⟩)] w (NextR F sb K Q H w) := by
  have hfew := hI.few hx
  have hkn := fun c w h hT => known_any F sb K Q H c w h hK hT
  have hcl := fun c => hI.count_le hx c
  have HI := Lib.hid hI
  have hlow := h.low
  obtain ⟨L, hS0, hF⟩ := h.low
  have HF := Lib.hid hF
  clear hF
  have HKC := Lib.hid hcl
  have HK := Lib.hid hK
  clear hI hcl hK
  obtain ⟨m1, row, wv, hv⟩ := L
  obtain ⟨pw, cw, rfl⟩ := ownsRow_len hS0.waits
  obtain ⟨ph, ch, rfl⟩ := ownsRow_len hS0.held
  have hst := hS0.st
  dsimp only at hst
  have hsb : sb < w.heap.size := (Array.getElem?_eq_some_iff.1 hst).1
  go_enter Tryz.func12, Tryz.ntmps12
  have s1 : w.cell? ⟨sb, 1, none⟩ = some (.slice pw Q.length cw) := by simp [World.cell?, hst]
  go_upto_region 3 with fail
  have hB0 : Below w.heap.size w (w.alloc (.cells (encOp opZero).toArray 35)) := (Below.refl _ _).alloc (Nat.le_refl _) _
  have hz0 : OpBox (w.alloc (.cells (encOp opZero).toArray 35)) w.heap.size opZero := OpBox.new w opZero
  obtain ⟨w0, hw0⟩ : ∃ w0, w.alloc (.cells (encOp opZero).toArray 35) = w0 := ⟨_, rfl⟩
  rw [hw0] at hB0 hz0
  change Code.wp _ _ _ _ (w.alloc (.cells (encOp opZero).toArray 35))
  rw [hw0]
  clear hw0 s1 hst hsb
  have hS1 := hS0.below hB0
  have hq1 := hfew.1
  go_loopw [4, 15] (fun b i wr => ∃ k : Nat, k ≤ Q.length ∧ i = .int .i64 k ∧ BestR K Q k b ∧ Below w0.heap.size w0 wr) (fun _ i _ => Q.length - (intOf i).toNat)
  case atStart => exact ⟨0, Nat.zero_le _, rfl, .inl ⟨rfl, fun j hj => absurd hj (Nat.not_lt_zero _)⟩, Below.refl _ _⟩
  case round =>
    obtain ⟨k, hk, rfl, hbest, hbr⟩ := hrel
    by_cases hlt : k < Q.length
    · have hltz : (k : Int) < (Q.length : Int) := by omega
      have hSr := hS1.below hbr
      obtain ⟨g, rfl⟩ : ∃ g, pw = some ⟨g, 0, none⟩ := by
        rcases hSr.waits.2 with ⟨e, _⟩ | ⟨g, cap, cur, e, _⟩
        · have e2 := Value.slice.inj e; omega
        · exact ⟨g, (Value.slice.inj e).1⟩
      have hcells : ∀ (j : Nat) (o : QOp), Q[j]? = some o → OpCells wr g (j * 22) o := by
        rcases OwnAt.slice (k := 22) (enc := encOp) (fun _ => rfl) hSr.waits with ⟨e, _⟩ | ⟨b', off', c', e, _, _, hc⟩
        · cases e
        · cases e
          intro j o hj i y hy
          have := hc j o hj i y hy
          rwa [Nat.zero_add] at this
      have hgl : g < wr.heap.size := ownsRow_lt hSr.waits g rfl
      have hst := hSr.st
      dsimp only at hst
      have hsb : sb < wr.heap.size := (Array.getElem?_eq_some_iff.1 hst).1
      have s1w : wr.cell? ⟨sb, 1, none⟩ = some (.slice (some ⟨g, 0, none⟩) Q.length cw) := by simp [World.cell?, hst]
      obtain ⟨o, ho⟩ : ∃ o, Q[k]? = some o := ⟨Q[k], by simp [hlt]⟩
      have hoc := hcells k o ho
      have hob : 0 ≤ o.id.k ∧ o.id.k ≤ 1000000 := by
        obtain ⟨c, f, e, rfl, h1, h2, h3, h4, h5⟩ := HI.out.q o (List.mem_of_getElem? ho)
        have := (hx.ok c h1 h2).2.2
        unfold wholeN at h4
        rw [pc_eq]
        show 0 ≤ (1 : Int) + f ∧ (1 : Int) + f ≤ 1000000
        omega
      have Hcells := Lib.hid hcells
      clear hcells
      go_upto_region 5 with (first | (refine wpList_load_eq (T := 35) (v := opV o) rfl rfl rfl (load_op hoc) ?_) | (refine wpList_store_eq (T := 35) (v := opV o) rfl rfl rfl rfl (OpBox.store (OpBox.new wr opZero) o) ?_))
      go_frame
      have hBW : Below w0.heap.size w0 (putOp (wr.alloc (.cells (encOp opZero).toArray 35)) wr.heap.size o) := below_putOp (hbr.alloc hbr.size _) hbr.size _
      have hbx : OpBox (putOp (wr.alloc (.cells (encOp opZero).toArray 35)) wr.heap.size o) wr.heap.size o := (OpBox.new wr opZero).put o
      have hBr : Below wr.heap.size wr (putOp (wr.alloc (.cells (encOp opZero).toArray 35)) wr.heap.size o) := below_putOp ((Below.refl _ _).alloc (Nat.le_refl _) _) (Nat.le_refl _) _
      obtain ⟨X, hX⟩ : ∃ X, wr.heap.size = X := ⟨_, rfl⟩
      obtain ⟨W, hW⟩ : ∃ W, putOp (wr.alloc (.cells (encOp opZero).toArray 35)) wr.heap.size o = W := ⟨_, rfl⟩
      rw [hW] at hBW hBr
      rw [hW, hX] at hbx
      rw [hW, hX]
      have hXW := hbx.lt
      have hgW : g < W.heap.size := by have := hBr.size; omega
      have hsW : sb < W.heap.size := by have := hBr.size; omega
      have s1W : W.cell? ⟨sb, 1, none⟩ = some (.slice (some ⟨g, 0, none⟩) Q.length cw) := (hBr.cell (p := ⟨sb, 1, none⟩) hsb).trans s1w
      have hB9 := belowTrans hB0 hBW
      have hTW : ∀ s : BStep W, Tabs s.val := fun s => (hT.below hB9).below s.h
      have hSW : ∀ s : BStep W, StoreIn s.val F sb K Q H := fun s => (h.below hB9).below s.h
      have q0 : ∀ s : BStep W, s.val.cell? ⟨X, 0, none⟩ = some (.int .u64 o.id.c) := BStep.cell hXW (hbx.cells 0 _ rfl)
      have q1 : ∀ s : BStep W, s.val.cell? ⟨X, 1, none⟩ = some (.int .u64 o.id.k) := BStep.cell hXW (hbx.cells 1 _ rfl)
      have s1 : ∀ s : BStep W, s.val.cell? ⟨sb, 1, none⟩ = some (.slice (some ⟨g, 0, none⟩) Q.length cw) := BStep.cell hsW s1W
      have HBr := Lib.hid hBr
      clear hBr hW hX hoc hst s1w hsb hbr hSr s1W hsW
      have hkc := HKC.out o.id.c
      have hkno := hkn o.id.c
      obtain ⟨n, hn⟩ : ∃ n, kcount K o.id.c = n := ⟨_, rfl⟩
      rw [hn] at hkc hkno
      have HN := Lib.hid hn
      clear hn
      by_cases hrd : o.id.k ≤ n + 1
      · have hrdy : readyO K o := by unfold readyO; rw [HN.out]; exact hrd
        have HRD := Lib.hid hrdy
        clear hrdy
        have d1 : decide (o.id.k ≤ n + 1) = true := by simpa using hrd
        rcases hbest with ⟨rfl, hno⟩ | ⟨j, p, hj, hjp, hjr, rfl⟩
        · clear hno
          refine wp_region_b (by kernel_rfl) (by kernel_rfl) ?_
          repeat (first | go_big_quiet_skip | (go_big_quiet_want; first | (fail; go_frame; go_big_quiet_on) | (go_big_quiet_op; first | go_big_quiet_on | go_big_quiet_call ((go_at_call 33; exact callsB (hkno _ (hSW _) (hTW _)))))))
          refine wpQuiet_nil ?_
          intro W' hC'
          have hBW' := BStep.of hC'
          have hB10 := hBW.trans (hBW'.mono hBW.size)
          go_wp2_with fail
          go_roundw
          case rel => exact ⟨k + 1, by omega, by go_num, .inr ⟨k, o, by omega, ho, HRD.out, rfl⟩, hB10⟩
          case measure => simp [intOf]; omega
        · have hjo := Hcells.out j p hjp
          have p0 : ∀ s : BStep W, s.val.cell? ⟨g, j * 22, none⟩ = some (.int .u64 p.id.c) := BStep.cell hgW ((HBr.out.cell (p := ⟨g, j * 22 + 0, none⟩) hgl).trans (hjo 0 _ rfl))
          have p1 : ∀ s : BStep W, s.val.cell? ⟨g, j * 22 + 1, none⟩ = some (.int .u64 p.id.k) := BStep.cell hgW ((HBr.out.cell (p := ⟨g, j * 22 + 1, none⟩) hgl).trans (hjo 1 _ rfl))
          have d3 : decide ((j : Int) < 0) = false := by simp
          have hjQ : (j : Int) < (Q.length : Int) := by omega
          have hless := idsLess_any o.id p.id
          refine wp_region_b (by kernel_rfl) (by kernel_rfl) ?_
          repeat (first | go_big_quiet_skip | (go_big_quiet_want; first | (fail; go_frame; go_big_quiet_on) | (go_big_quiet_op; first | go_big_quiet_on | go_big_quiet_call ((first | (go_at_call 33; exact callsB (hkno _ (hSW _) (hTW _))) | (go_at_call 37; exact callsB (hless _)))))))
          refine wpQuiet_nil ?_
          intro W' hC'
          have hBW' := BStep.of hC'
          have hB10 := hBW.trans (hBW'.mono hBW.size)
          clear hless d1 d3 p0 p1 q0 q1 s1 hTW hSW hkno hC'
          generalize o.id.lessB p.id = lb
          cases lb
          · go_wp2_with fail
            go_roundw
            case rel => exact ⟨k + 1, by omega, by go_num, .inr ⟨j, p, by omega, hjp, hjr, rfl⟩, hB10⟩
            case measure => simp [intOf]; omega
          · go_wp2_with fail
            go_roundw
            case rel => exact ⟨k + 1, by omega, by go_num, .inr ⟨k, o, by omega, ho, HRD.out, rfl⟩, hB10⟩
            case measure => simp [intOf]; omega
      · have hrdy : ¬ readyO K o := by unfold readyO; rw [HN.out]; exact hrd
        have HRD := Lib.hid hrdy
        clear hrdy
        have d1 : decide (o.id.k ≤ n + 1) = false := by simpa using hrd
        have hbest2 : BestR K Q (k + 1) u4 := by
          rcases hbest with ⟨e, hno⟩ | ⟨j, p, hj, hjp, hjr, e⟩
          · refine .inl ⟨e, fun j hj o' ho' => ?_⟩
            by_cases hjk : j = k
            · subst hjk
              rw [ho] at ho'
              cases ho'
              exact HRD.out
            · exact hno j (by omega) o' ho'
          · exact .inr ⟨j, p, by omega, hjp, hjr, e⟩
        clear hbest
        refine wp_region_b (by kernel_rfl) (by kernel_rfl) ?_
        repeat (first | go_big_quiet_skip | (go_big_quiet_want; first | (fail; go_frame; go_big_quiet_on) | (go_big_quiet_op; first | go_big_quiet_on | go_big_quiet_call ((go_at_call 33; exact callsB (hkno _ (hSW _) (hTW _)))))))
        refine wpQuiet_nil ?_
        intro W' hC'
        have hBW' := BStep.of hC'
        have hB10 := hBW.trans (hBW'.mono hBW.size)
        clear d1 q0 q1 s1 hTW hSW hkno hC'
        go_wp2_with fail
        go_roundw
        case rel => exact ⟨k + 1, by omega, by go_num, hbest2, hB10⟩
        case measure => simp [intOf]; omega
    · obtain rfl : k = Q.length := by omega
      have hltz : ¬ (Q.length : Int) < (Q.length : Int) := by omega
      have hB2 := hB0.trans (hbr.mono hB0.size)
      have hz2 : OpBox wr w.heap.size opZero := (hbr.block _ hz0.lt).trans hz0
      rcases hbest with ⟨rfl, hno⟩ | ⟨j, o, hj, hjo, hjr, rfl⟩
      · have HNO := Lib.hid hno
        clear hno hS1 hkn
        have hres := Lib.hid (hz2.put opZero).load
        go_wp2_with (refine wpList_store_eq (T := 35) (v := opV opZero) rfl rfl rfl rfl (OpBox.store hz2 opZero) ?_)
        have hBz : Below w.heap.size w (putOp wr w.heap.size opZero) := below_putOp hB2 (Nat.le_refl _) _
        refine bodyPost_ret (v := .tuple #[opV opZero, .bool false]) ?_ rfl (.inl ⟨fun o ho => ?_, rfl, (h.below hBz).to fun b hb _ => .inl hb, Mods.of_below hBz⟩)
        · have h9 := hres.out
          simp [results, Tryz.results12, asAddr, h9]
        · obtain ⟨j, hj⟩ := List.mem_iff_getElem?.1 ho
          exact HNO.out j (List.getElem?_eq_some_iff.1 hj).1 o hj
      · clear hS1 hkn hlow hB0 hz0 hbr
        have hS2 := hS0.below hB2
        obtain ⟨g, rfl⟩ : ∃ g, pw = some ⟨g, 0, none⟩ := by
          rcases hS2.waits.2 with ⟨e, _⟩ | ⟨g, cap, cur, e, _⟩
          · have e2 := Value.slice.inj e; omega
          · exact ⟨g, (Value.slice.inj e).1⟩
        have hjoc : OpCells wr g (j * 22) o := by
          rcases OwnAt.slice (k := 22) (enc := encOp) (fun _ => rfl) hS2.waits with ⟨e, _⟩ | ⟨b', off', c', e, _, _, hc⟩
          · cases e
          · cases e
            intro i y hy
            have := hc j o hjo i y hy
            rwa [Nat.zero_add] at this
        have hst := hS2.st
        dsimp only at hst
        have hsb : sb < wr.heap.size := (Array.getElem?_eq_some_iff.1 hst).1
        have s1 : wr.cell? ⟨sb, 1, none⟩ = some (.slice (some ⟨g, 0, none⟩) Q.length cw) := by simp [World.cell?, hst]
        have hjQ : (j : Int) < (Q.length : Int) := by omega
        have d3 : decide ((j : Int) < 0) = false := by simp
        go_upto_region 11 with (first | (refine wpList_load_eq (T := 35) (v := opV o) rfl rfl rfl (load_op hjoc) ?_) | (refine wpList_store_eq (T := 35) (v := opV o) rfl rfl rfl rfl (OpBox.store (OpBox.new wr opZero) o) ?_))
        go_frame
        have hBW : Below w.heap.size w (putOp (wr.alloc (.cells (encOp opZero).toArray 35)) wr.heap.size o) := below_putOp (hB2.alloc hB2.size _) hB2.size _
        have hbx : OpBox (putOp (wr.alloc (.cells (encOp opZero).toArray 35)) wr.heap.size o) wr.heap.size o := (OpBox.new wr opZero).put o
        have hBr : Below wr.heap.size wr (putOp (wr.alloc (.cells (encOp opZero).toArray 35)) wr.heap.size o) := below_putOp ((Below.refl _ _).alloc (Nat.le_refl _) _) (Nat.le_refl _) _
        obtain ⟨X, hX⟩ : ∃ X, wr.heap.size = X := ⟨_, rfl⟩
        obtain ⟨W, hW⟩ : ∃ W, putOp (wr.alloc (.cells (encOp opZero).toArray 35)) wr.heap.size o = W := ⟨_, rfl⟩
        rw [hW] at hBW hBr
        rw [hW, hX] at hbx
        rw [hW, hX]
        have hwX : w.heap.size < X := by have := hz2.lt; omega
        have hzW : OpBox W w.heap.size opZero := (hBr.block _ hz2.lt).trans hz2
        have hSW := hS2.below hBr
        clear hBr hW hX hjoc hst hsb s1 hS2 hB2 hz2
        obtain ⟨c, f, e, ho, hc1, hc2, hfe, hewl, hkf⟩ := HI.out.q o (List.mem_of_getElem? hjo)
        have hN := (hx.ok c hc1 hc2).2
        unfold wholeN at hewl
        have hulen := cutB_len (tx c) f e hewl
        have hus : (cutB (tx c) f e).size ≤ 1000 := by
          have := runes_size (runesB_cut (tx c) f e).2
          omega
        have hrange := fun w hT => opsRange_any (tOp ⟨c, 1 + f⟩ (pcL c f) idZero (cutB (tx c) f e)) w (by show (cutB (tx c) f e).size < _; omega) (by show (0 : Int) ≤ 1 + f; omega) (by rw [tOp_len, hulen]; show (1 : Int) + f + _ < _; omega) hT
        have hrest := fun Q' H' w9 h hT => rest_new (fun b => (F b ∧ b < w.heap.size) ∨ X ≤ b) sb K Q' H' ⟨c, 1 + f⟩ (pcL c f) idZero (cutB (tx c) f e) w9 h HK.out hT (by show kcount K c < 1 + f; omega)
        rw [← pc_eq, ← ho] at hrange hrest
        obtain ⟨r, hr⟩ : ∃ r, o.rng = r := ⟨_, rfl⟩
        rw [hr] at hrange
        have HR := Lib.hid hr
        have HJR := Lib.hid hjr
        clear ho hc1 hc2 hfe hewl hkf hN hulen hus hr hjr
        clear c f e
        have hdel := delete_any 0 _ Q j W hSW.waits hj (by omega)
        rw [show ((j + 1 : Nat) : Int) = (j : Int) + 1 by omega] at hdel
        have hstW := hSW.st
        dsimp only at hstW hdel
        have hsbW : sb < W.heap.size := (Array.getElem?_eq_some_iff.1 hstW).1
        have s1 : W.cell? ⟨sb, 1, none⟩ = some (.slice (some ⟨g, 0, none⟩) Q.length cw) := by simp [World.cell?, hstW]
        have hgsb : g ≠ sb := by
          obtain ⟨cur, hcur⟩ := ownsRow_obj hSW.waits (b := g) rfl
          exact cells_ne hcur hstW (by decide)
        go_upto_region 12 with (go_at_call 38; refine hdel.mono ?_; rintro e w11 ⟨dv, rfl, hdb, hdo, hdk, hds, hd1, hd2, hd3⟩; obtain ⟨pd, cd, rfl⟩ := ownsRow_len hdo; have hst11 := (hdk sb (fun e => hgsb (by cases e; rfl))).trans hstW; have sc : w11.cell? ⟨sb, 1, none⟩ = some (.slice (some ⟨g, 0, none⟩) Q.length cw) := (by simp [World.cell?, hst11]); have sf : w11.frozen? ⟨sb, 1, none⟩ = false := (by simp [World.frozen?, hst11]))
        have hgw := HF.out g (.inr (.inr (.inr (.inl rfl))))
        have hsw := HF.out sb (.inl rfl)
        obtain ⟨hgF, hgw⟩ := hgw
        obtain ⟨hsF, hsw⟩ := hsw
        have hne : ∀ b, b ≠ sb → (w11.setCell ⟨sb, 1, none⟩ (.slice pd (Q.eraseIdx j).length cd)).heap[b]? = w11.heap[b]? := fun b hb => Below.heap_setCell _ _ _ _ hb
        have hS12 := hSW.waitsTo (w' := w11.setCell ⟨sb, 1, none⟩ (.slice pd (Q.eraseIdx j).length cd)) (v := .slice pd (Q.eraseIdx j).length cd) (Q' := Q.eraseIdx j)
          (by show (w11.setCell _ _).heap[sb]? = _; simp [World.setCell, Array.getElem?_modify, hst11])
          (fun b hb h1 h2 => (hne b h1).trans (hdk b h2))
          (ownsRow_blk hdo fun b e => hne b (by
            rw [hdb] at e
            cases e
            exact hgsb))
          (.inl hdb)
        have hbk : ∀ b, b ≠ sb → b ≠ g → (w11.setCell ⟨sb, 1, none⟩ (.slice pd (Q.eraseIdx j).length cd)).heap[b]? = W.heap[b]? := fun b h1 h2 => (hne b h1).trans (hdk b fun e => h2 (by cases e; rfl))
        have hm12 : Mods F w (w11.setCell ⟨sb, 1, none⟩ (.slice pd (Q.eraseIdx j).length cd)) := by
          refine ⟨hd1.trans hBW.os, hd2.trans hBW.tape, hd3.trans hBW.output, ?_, fun b hb hg => ?_⟩
          · have := hBW.size
            simp; omega
          · exact (hbk b (fun e => hg (e ▸ hsF)) (fun e => hg (e ▸ hgF))).trans (hBW.block b hb)
        have hbx12 : OpBox (w11.setCell ⟨sb, 1, none⟩ (.slice pd (Q.eraseIdx j).length cd)) X o := (hbk X (by omega) (by omega)).trans hbx
        have hz12 : OpBox (w11.setCell ⟨sb, 1, none⟩ (.slice pd (Q.eraseIdx j).length cd)) w.heap.size opZero := (hbk _ (by omega) (by omega)).trans hzW
        have hel : (Q.eraseIdx j).length ≤ 600 := Nat.le_trans (List.length_eraseIdx_le _ _) hq1
        have hF12 : ∀ b, SFoot sb { m := m1, row := row, wv := .slice pd (Q.eraseIdx j).length cd, hv := .slice ph H.length ch } K b → F b ∧ b < w.heap.size := fun b hb => by
          rcases SFoot.waitsTo (L := { m := m1, row := row, wv := .slice (some ⟨g, 0, none⟩) Q.length cw, hv := .slice ph H.length ch }) hb with h1 | h1
          · exact HF.out b h1
          · rw [hdb] at h1
            cases h1
            exact ⟨hgF, hgw⟩
        obtain ⟨W12, hW12⟩ : ∃ W12, w11.setCell ⟨sb, 1, none⟩ (.slice pd (Q.eraseIdx j).length cd) = W12 := ⟨_, rfl⟩
        rw [hW12] at hS12 hm12 hbx12 hz12
        rw [hW12]
        have HF12 := Lib.hid hF12
        have HJO := Lib.hid hjo
        clear hW12 hF12 hjo hbk hne hdb hdo hdk hds hd1 hd2 hd3 sc sf hst11 hdel hSW hstW hsbW s1 hbx hzW hBW
        generalize hQ2 : Q.eraseIdx j = Q2 at *
        have HQ2 := Lib.hid hQ2
        clear hQ2
        have hst := hS12.st
        dsimp only at hst
        have hsb : sb < W12.heap.size := (Array.getElem?_eq_some_iff.1 hst).1
        have hX12 := hbx12.lt
        have hT12 : Tabs W12 := hT.mods hm12 hFT
        have s2 : ∀ s : MStep (fun _ => False) W12, s.val.cell? ⟨sb, 2, none⟩ = some (.slice ph H.length ch) := MStep.cell hsb id (by simp [World.cell?, hst])
        have l1 : ∀ w', (∃ s : MStep (fun _ => False) W12, w' = s.val) → (loadVar 35 ⟨X, 0, none⟩).run Tryz.prog w' = .ok (opV o) w' := by
          rintro _ ⟨s, rfl⟩
          exact OpBox.load ((s.h.block _ hX12 id).trans hbx12)
        refine wp_region_flow3 9 [0, 1, 2, 3, 4, 5] [6, 7, 8, 9, 10, 11] (fun w' => ∃ s : MStep (fun _ => False) W12, w' = s.val) (by kernel_rfl) (by kernel_rfl) (fun _ _ d _ _ h => by cases d <;> exact h) (MStep.to (Mods.refl _ _).drew) ?_
        simp only [List.map_cons, List.map_nil, List.getElem?_cons_succ, List.getElem?_cons_zero, Option.getD_some]
        repeat (first | go_big_quiet_skip | (go_big_quiet_want; first | (refine quiet_load 35 _ _ rfl rfl l1 ?_; go_frame; go_big_quiet_on) | (go_big_quiet_op; go_big_quiet_on)))
        refine wpQuiet_nil ?_
        refine wpSeqF_step rfl ?_; simp only [List.getElem_toArray, List.getElem_cons_succ, List.getElem_cons_zero]
        go_wp2_with fail
        refine (hrange _ (hT12.below (Below.refl _ _).drew)).mono ?_
        rintro e w13 ⟨rfl, hb13⟩
        have hB13 : Below W12.heap.size W12 w13 := ⟨hb13.os, hb13.tape, hb13.output, hb13.size, hb13.block⟩
        go_wp2_with fail
        refine ⟨MStep.to (Mods.of_below hB13), ?_⟩
        have hB14 : Below W12.heap.size W12 (w13.alloc (.cells #[.int .u64 r.c, .int .u64 r.a, .int .u64 r.b] 72)) := hB13.alloc hB13.size _
        refine wpSeqF_step rfl ?_; simp only [List.getElem_toArray, List.getElem_cons_succ, List.getElem_cons_zero]
        go_wp2_with fail
        refine ⟨MStep.to (Mods.of_below hB14), ?_⟩
        have hone : SliceAt 3 encRng (w13.alloc (.cells #[.int .u64 r.c, .int .u64 r.a, .int .u64 r.b] 72)) (.slice (some ⟨w13.heap.size, 0, none⟩) 1 1) [r] := rng_one w13 r
        have hheld : SliceAt 3 encRng (w13.alloc (.cells #[.int .u64 r.c, .int .u64 r.a, .int .u64 r.b] 72)) (.slice ph H.length ch) H := (OwnAt.slice (k := 3) (enc := encRng) (fun _ => rfl) hS12.held).below hB14
        have hmin := minus_any _ _ H [r] _ hheld hone (by omega) (by simp) rfl rfl
        refine wpSeqF_step rfl ?_; simp only [List.getElem_toArray, List.getElem_cons_succ, List.getElem_cons_zero]
        go_wp2_with fail
        refine hmin.mono ?_
        rintro e w14 ⟨nv, rfl, H', hHc, hHh, hHo, hb14⟩
        obtain ⟨pn, cn, rfl⟩ := (OwnAt.slice (k := 3) (enc := encRng) (fun _ => rfl) hHo).len
        have hB15 := belowTrans hB14 hb14
        go_wp2_with fail
        refine ⟨MStep.to (Mods.of_below hB15), ?_⟩
        have hst14 : w14.heap[sb]? = some (.cells #[.map (some m1), .slice pd Q2.length cd, .slice ph H.length ch] 67 (0, 0)) := (hB15.block _ hsb).trans hst
        have sc : w14.cell? ⟨sb, 2, none⟩ = some (.slice ph H.length ch) := by simp [World.cell?, hst14]
        have sf : w14.frozen? ⟨sb, 2, none⟩ = false := by simp [World.frozen?, hst14]
        refine wpSeqF_step rfl ?_; simp only [List.getElem_toArray, List.getElem_cons_succ, List.getElem_cons_zero]
        go_wp2_with fail
        refine wpSeqF_step rfl ?_; simp only [List.getElem_toArray, List.getElem_cons_succ, List.getElem_cons_zero]
        go_wp2_with fail
        refine wpSeqF_step rfl ?_; simp only [List.getElem_toArray, List.getElem_cons_succ, List.getElem_cons_zero]
        go_wp2_with fail
        refine wpSeqF_nil ?_
        have hne : ∀ b, b ≠ sb → (w14.setCell ⟨sb, 2, none⟩ (.slice pn H'.length cn)).heap[b]? = w14.heap[b]? := fun b hb => Below.heap_setCell _ _ _ _ hb
        have hH0 : OwnAt 0 72 3 encRng w14 (.slice pn H'.length cn) H' := ownsRow_base hHo (Nat.zero_le _)
        have hbk : ∀ b, b < W12.heap.size → b ≠ sb → (w14.setCell ⟨sb, 2, none⟩ (.slice pn H'.length cn)).heap[b]? = W12.heap[b]? := fun b hb h1 => (hne b h1).trans (hB15.block b hb)
        have hS15 := hS12.heldTo (w' := w14.setCell ⟨sb, 2, none⟩ (.slice pn H'.length cn)) (v := .slice pn H'.length cn) (H' := H')
          (by show (w14.setCell _ _).heap[sb]? = _; simp [World.setCell, Array.getElem?_modify, hst14]) hbk
          (ownsRow_blk hH0 fun b e => hne b (by
            obtain ⟨cur, hcur⟩ := ownsRow_obj hH0 e
            exact cells_ne hcur hst14 (by decide)))
        have hm12s := hm12.size
        have hF15 : ∀ b, SFoot sb { m := m1, row := row, wv := .slice pd Q2.length cd, hv := .slice pn H'.length cn } K b → (F b ∧ b < w.heap.size) ∨ X ≤ b := fun b hb => by
          rcases SFoot.heldTo (L := { m := m1, row := row, wv := .slice pd Q2.length cd, hv := .slice ph H.length ch }) hb with h1 | h1
          · exact .inl (HF12.out b h1)
          · right
            have h3 := (World.ownsRow.lt hHo b h1).1
            have h4 := hB14.size
            omega
        have hm15 : Mods F w (w14.setCell ⟨sb, 2, none⟩ (.slice pn H'.length cn)) := by
          refine ⟨hB15.os.trans hm12.os, hB15.tape.trans hm12.tape, hB15.output.trans hm12.output, ?_, fun b hb hg => ?_⟩
          · have := hB15.size
            simp; omega
          · exact (hbk b (by omega) (fun e => hg (e ▸ hsF))).trans (hm12.block b hb hg)
        have hbx15 : OpBox (w14.setCell ⟨sb, 2, none⟩ (.slice pn H'.length cn)) X o := (hbk X hX12 (by omega)).trans hbx12
        have hz15 : OpBox (w14.setCell ⟨sb, 2, none⟩ (.slice pn H'.length cn)) w.heap.size opZero := (hbk _ hz12.lt (by omega)).trans hz12
        obtain ⟨W15, hW15⟩ : ∃ W15, w14.setCell ⟨sb, 2, none⟩ (.slice pn H'.length cn) = W15 := ⟨_, rfl⟩
        rw [hW15] at hS15 hm15 hbx15 hz15
        rw [hW15]
        clear hW15 hbk hne hH0 hHo hst14 sc sf hmin hone hheld hB13 hB14 hB15 hb13 hb14 s2 l1 hT12 hX12 hsb hst hS12 hm12 hbx12 hz12 hm12s HF12 hrange
        clear w14
        have hT15 : Tabs W15 := hT.mods hm15 hFT
        have hSi : StoreIn W15 (fun b => (F b ∧ b < w.heap.size) ∨ X ≤ b) sb K Q2 H' := ⟨_, hS15, hF15⟩
        have hr15 := hrest Q2 H' W15 hSi hT15
        clear hrest hS15 hF15
        have hzl := hz15.lt
        have hxl := hbx15.lt
        go_upto_region 14 with (first | (refine wpList_load_eq (T := 35) (v := opV o) rfl rfl rfl hbx15.load ?_) | (go_at_call 39; refine hr15.mono ?_; rintro e w16 ⟨rfl, hb16⟩) | (refine wpList_store_eq (T := 35) (v := opV o) rfl rfl rfl rfl (OpBox.store (OpBox.new w16 opZero) o) ?_))
        have hB17 : Below W15.heap.size W15 (putOp (w16.alloc (.cells (encOp opZero).toArray 35)) w16.heap.size o) := below_putOp (hb16.alloc hb16.size _) hb16.size _
        have hbx17 : OpBox (putOp (w16.alloc (.cells (encOp opZero).toArray 35)) w16.heap.size o) w16.heap.size o := (OpBox.new w16 opZero).put o
        have hz17 := (hB17.block _ hzl).trans hz15
        have hS17 := hSi.below hB17
        have hm17 := hm15.trans (Mods.of_below hB17)
        obtain ⟨Y, hY⟩ : ∃ Y, w16.heap.size = Y := ⟨_, rfl⟩
        obtain ⟨W17, hW17⟩ : ∃ W17, putOp (w16.alloc (.cells (encOp opZero).toArray 35)) w16.heap.size o = W17 := ⟨_, rfl⟩
        rw [hW17] at hS17 hm17 hz17
        rw [hW17, hY] at hbx17
        rw [hW17, hY]
        clear hW17 hY hB17 hb16 hr15 hSi hT15 hz15 hbx15 hm15 hxl hzl
        clear w16
        have hres := Lib.hid (OpBox.put hz17 o).load
        go_wp2_with (first | (refine wpList_load_eq (T := 35) (v := opV o) rfl rfl rfl hbx17.load ?_) | (refine wpList_store_eq (T := 35) (v := opV o) rfl rfl rfl rfl (OpBox.store hz17 o) ?_))
        have hpn : ∀ b, b ≠ w.heap.size → (putOp W17 w.heap.size o).heap[b]? = W17.heap[b]? := fun b hb => putOp_other hb
        have hlast : StoreIn (putOp W17 w.heap.size o) (fun b => F b ∨ w.heap.size ≤ b) sb K Q2 H' := by
          obtain ⟨L', h1, h2⟩ := hS17
          refine ⟨L', h1.keep fun b hb => hpn b ?_, fun b hb => ?_⟩
          · rcases h2 b hb with h3 | h3 <;> omega
          · rcases h2 b hb with h3 | h3
            · exact .inl h3.1
            · exact .inr (by omega)
        refine bodyPost_ret (v := .tuple #[opV o, .bool true]) ?_ rfl (.inr ⟨j, o, H', HJO.out, HJR.out, rfl, hHc, by rw [HR.out]; exact hHh, by rw [HQ2.out]; exact hlast, ?_⟩)
        · have h9 := hres.out
          simp [results, Tryz.results12, asAddr, h9]
        · exact ⟨hm17.os, hm17.tape, hm17.output, by rw [putOp_size]; exact hm17.size, fun b hb hg => (hpn b (by omega)).trans (hm17.block b hb hg)⟩
end Go.Proofs.YtaeebgljcdfolaaGreatDoor
