/- offer, where a value is lowered -/
import Derived.Test.YtnifpeamgoapmaaDoorM7
import Derived.Test.YtnifpeamgoapmaaDoorM2
set_option linter.unusedVariables false
set_option linter.unusedSimpArgs false
namespace Go.Proofs.YtnifpeamgoapmaaDoor
open Go Go.RowKit

theorem offB_yes {best : List Vl} {fin : List Bool} {i : Nat} {v : Vl} (hf : fin.getD i false = false) (h2 : v.c < Inf) (h3 : vlt v (vof best (i : Int)) = true) : offB best fin (i : Int) v = best.set i v := by
  unfold offB
  rw [Int.toNat_natCast, hf, h3, show decide (Inf ≤ v.c) = false by simp; omega]
  rfl
theorem set_vnf {best : List Vl} {i : Nat} {v : Vl} (h : ∀ u ∈ best, VNF u) (hv : VNF v) : ∀ u ∈ best.set i v, VNF u := fun u hu => by
  rcases List.mem_or_eq_of_mem_set hu with h1 | h1
  · exact h u h1
  · subst h1; exact hv

set_option maxHeartbeats 4000000 in
theorem offer_upd (X : SpanC) (m : Mem) (best : List Vl) (fin : List Bool) (han : List Int) (hv : Value) (es : List Ent) (nx ck : Int) (i : Nat) (v : Vl) (w : World) (B : Bds X) (hD : DynAt w X m best fin han hv es nx ck) (hi : i < X.N) (hvn : VNF v)
    (hc : fin.getD i false = false) (hc2 : v.c < Inf) (hc3 : vlt v (vof best (i : Int)) = true) {k : Int} (hk : han[i]? = some k) (hk0 : 0 ≤ k) :
    Calls Tryd.prog 48 #[PB m.S, I i, VA v] w (Offered X m (offB best fin (i : Int) v) fin w) := by
  have hW : SpW w X m best fin := ⟨_, _, _, _, _, hD⟩
  have r := hD.rec_
  have hN := toN B
  have hfc := hW.fcell (x := (i : Int)) (by omega) (by omega)
  obtain ⟨b0, b1⟩ := hW.bcell (x := (i : Int)) (by omega) (by omega)
  simp only [Int.toNat_natCast] at hfc b0 b1
  rw [hc] at hfc
  have hB := Blk.new w 45 #[I v.c, I v.s]
  have hb0 : Below w.heap.size w (w.alloc (Obj.cells #[I v.c, I v.s] 45)) := (Below.refl _ _).alloc (Nat.le_refl _) _
  have n1 := r.lt
  have l0 := fun y : LW (w.alloc (Obj.cells #[I v.c, I v.s] 45)) => y.cell (hB.cell 0)
  have l1 := fun y : LW (w.alloc (Obj.cells #[I v.c, I v.s] 45)) => y.cell (hB.cell 1)
  have l2 := fun y : LW (w.alloc (Obj.cells #[I v.c, I v.s] 45)) => y.cell ((r.alloc _).cell 12)
  have l3 := fun y : LW (w.alloc (Obj.cells #[I v.c, I v.s] 45)) => y.cell ((r.alloc _).cell 13)
  have l4 := fun y : LW (w.alloc (Obj.cells #[I v.c, I v.s] 45)) => y.cell (cell_below hb0 hfc)
  have l5 := fun y : LW (w.alloc (Obj.cells #[I v.c, I v.s] 45)) => y.cell (cell_below hb0 b0)
  have l6 := fun y : LW (w.alloc (Obj.cells #[I v.c, I v.s] 45)) => y.cell (cell_below hb0 b1)
  simp [recC] at l0 l1 l2 l3
  have HB0 := hide hb0
  have HD := hide hD
  have HBX := hide hB
  have CL := hide (fun W : World => by have := Less_any v (vof best (i : Int)) W; rw [hc3] at this; exact this)
  have HK := hide hk
  have HOFF := hide (offB_yes hc hc2 hc3)
  have HLOW := hide (hD.lower hi hc3 hc hk hk0)
  have HINV := hide (hD.inv.upd hk hk0 v)
  have HVN := hide (set_vnf hD.vok hvn (i := i))
  have hd : decide (1099511627776 ≤ v.c) = false := by unfold Inf at hc2; simp; omega
  have HNN := hide B.n1
  have HLEN := hide (Dyn_len hD)
  clear hW hD r hfc b0 b1 hB hb0 hc2 hc3 hc hvn hk
  go_enter Tryd.func48, Tryd.ntmps48
  go_wp2_with fail
  refine wp_region_later (by kernel_rfl) (by kernel_rfl) ?_
  repeat (go_big_quiet_step ((go_at_call 40; exact later_call (CL.out _))))
  refine wpQuiet_nil ?_
  rintro W1 ⟨⟨_, hW1⟩, rfl⟩
  have hb := HB0.out.trans (hW1.mono HB0.out.size)
  have HB1 := hide hb
  have hD1 := HD.out.below hb
  have HD1 := hide hD1
  have r1 := hD1.rec_
  have x0 := (HBX.out.below hW1 HBX.out.lt).cell 0
  have x1 := (HBX.out.below hW1 HBX.out.lt).cell 1
  have c12 := r1.cell 12
  have c14 := r1.cell 14
  have c15 := r1.cell 15
  have hSp : SpW W1 X m best fin := ⟨_, _, _, _, _, hD1⟩
  obtain ⟨b0, b1⟩ := hSp.bcell (x := (i : Int)) (by omega) (by omega)
  have f0 := hSp.best_.frozen (i * 2)
  have f1 := hSp.best_.frozen (i * 2 + 1)
  have h0 := hD1.ha.cell i
  simp [recC] at x0 x1 c12 c14 c15
  simp only [Int.toNat_natCast] at b0 b1
  rw [List.getElem?_toArray, List.getElem?_map, HK.out] at h0
  simp only [Option.map_some] at h0
  have n12 := Blk.ne_ r1 hSp.best_ (by decide)
  have n13 := n12.symm
  have n14 := Blk.ne_ hD1.ha hSp.best_ (by decide)
  have n15 := n14.symm
  clear l0 l1 l2 l3 l4 l5 l6 hd hb hW1 hD1 hSp r1 HD
  go_wp2_with fail
  go_region
  have hk2 : Kp (fun k => k = m.be) W1 (((W1.setCell { block := m.be, off := i * 2 } (Value.int IntKind.i64 v.c)).setCell { block := m.be, off := i * 2 + 1 } (Value.int IntKind.i64 v.s)).drew) :=
    (((Kp.refl (fun k => k = m.be) W1).setCell (p := ⟨m.be, i * 2, none⟩) (.inl rfl) _).setCell (p := ⟨m.be, i * 2 + 1, none⟩) (.inl rfl) _).drew
  have hb2 : Blk (((W1.setCell { block := m.be, off := i * 2 } (Value.int IntKind.i64 v.c)).setCell { block := m.be, off := i * 2 + 1 } (Value.int IntKind.i64 v.s)).drew) m.be 45 (vcells (best.set i v)).toArray := by
    have := ((HD1.out.q.B.val.set_ (i * 2) (I v.c)).set_ (i * 2 + 1) (I v.s)).drew
    rw [vcells_set]
    simpa using this
  generalize (((W1.setCell { block := m.be, off := i * 2 } (Value.int IntKind.i64 v.c)).setCell { block := m.be, off := i * 2 + 1 } (Value.int IntKind.i64 v.s)).drew) = W2 at hk2 hb2 ⊢
  have HK2 := hide hk2
  have HQ2 := hide (HD1.out.mid hk2 hb2)
  have r2 := HD1.out.rec_.kp hk2 n12
  have ha2 := HD1.out.ha.kp hk2 n14
  have d14 := r2.cell 14
  have d15 := r2.cell 15
  have e0 := ha2.cell i
  simp [recC] at d14 d15
  rw [List.getElem?_toArray, List.getElem?_map, HK.out] at e0
  simp only [Option.map_some] at e0
  have HA2 := hide ha2
  clear hk2 hb2 r2 ha2 b0 b1 x0 x1 c12 c14 c15 f0 f1 h0 n12 n13 n14 n15
  obtain ⟨j, e0', hj1, hj2, hj3, hj4⟩ := HLOW.out
  have hN1 := HNN.out
  have hL1 := HLEN.out
  have CU := hide (update_any m.q m.pl m.sv m.S m.be X.N j k (i : Int) (best.set i v) hv es nx ck hj1 hj2 hj3 (by omega) (by omega) W2.drew (HQ2.out.below ((Below.refl _ _).drew)) hj4)
  have HE := hide (show ∀ w5 es' ck', (es'.map ekey).Perm (es.map ekey) → Heap (vof (best.set i v)) es' → QAll w5 m.q m.pl m.sv m.S m.be X.N hv (best.set i v) es' nx ck' → Kp (QF m.q m.pl hv) W2.drew w5 → SpW w5 X m (best.set i v) fin ∧ KT m w w5 from fun w5 es' ck' h1 h2 h3 h4 => by
    have hk5 : Kp (fun k => k = m.be ∨ k = m.ha ∨ QF m.q m.pl hv k) W1 w5 := (HK2.out.mono (fun k _ h => .inl h)).drew.trans (h4.mono (fun k _ h => .inr (.inr h)))
    obtain ⟨a1, a2⟩ := HD1.out.turn hk5 h3 h2 (HINV.out.perm h1) (HA2.out.drew.kp h4 (HD1.out.apart HD1.out.ha (by decide) (by decide))) HD1.out.hlen HVN.out HD1.out.newh
    exact ⟨a1, (KT.of_below HB1.out).trans a2⟩)
  clear hj1 hj2 hj3 hj4 hN1 hL1 HQ2
  go_wp2_with fail
  (refine wp_region_prefix 12 (by kernel_rfl) (by kernel_rfl) ?_; simp only [List.take_succ_cons, List.take_zero, List.drop_succ_cons, List.drop_zero]; (repeat (go_big_quiet_step (fail))); refine wpQuiet_nil ?_)
  go_wp2_with (go_at_call 57; refine CU.out.mono ?_; rintro e w5 ⟨es', ck', rfl, hu1, hu2, hu3, hu4⟩)
  go_end0
  rw [HOFF.out]
  exact ⟨rfl, HE.out _ _ _ hu1 hu2 hu3 hu4⟩
set_option maxHeartbeats 4000000 in
theorem offer_push (X : SpanC) (m : Mem) (best : List Vl) (fin : List Bool) (han : List Int) (hv : Value) (es : List Ent) (nx ck : Int) (i : Nat) (v : Vl) (w : World) (B : Bds X) (hD : DynAt w X m best fin han hv es nx ck) (hi : i < X.N) (hvn : VNF v)
    (hc : fin.getD i false = false) (hc2 : v.c < Inf) (hc3 : vlt v (vof best (i : Int)) = true) {k : Int} (hk : han[i]? = some k) (hk0 : k < 0) :
    Calls Tryd.prog 48 #[PB m.S, I i, VA v] w (Offered X m (offB best fin (i : Int) v) fin w) := by
  have hW : SpW w X m best fin := ⟨_, _, _, _, _, hD⟩
  have r := hD.rec_
  have hN := toN B
  have hfc := hW.fcell (x := (i : Int)) (by omega) (by omega)
  obtain ⟨b0, b1⟩ := hW.bcell (x := (i : Int)) (by omega) (by omega)
  simp only [Int.toNat_natCast] at hfc b0 b1
  rw [hc] at hfc
  have hB := Blk.new w 45 #[I v.c, I v.s]
  have hb0 : Below w.heap.size w (w.alloc (Obj.cells #[I v.c, I v.s] 45)) := (Below.refl _ _).alloc (Nat.le_refl _) _
  have n1 := r.lt
  have l0 := fun y : LW (w.alloc (Obj.cells #[I v.c, I v.s] 45)) => y.cell (hB.cell 0)
  have l1 := fun y : LW (w.alloc (Obj.cells #[I v.c, I v.s] 45)) => y.cell (hB.cell 1)
  have l2 := fun y : LW (w.alloc (Obj.cells #[I v.c, I v.s] 45)) => y.cell ((r.alloc _).cell 12)
  have l3 := fun y : LW (w.alloc (Obj.cells #[I v.c, I v.s] 45)) => y.cell ((r.alloc _).cell 13)
  have l4 := fun y : LW (w.alloc (Obj.cells #[I v.c, I v.s] 45)) => y.cell (cell_below hb0 hfc)
  have l5 := fun y : LW (w.alloc (Obj.cells #[I v.c, I v.s] 45)) => y.cell (cell_below hb0 b0)
  have l6 := fun y : LW (w.alloc (Obj.cells #[I v.c, I v.s] 45)) => y.cell (cell_below hb0 b1)
  simp [recC] at l0 l1 l2 l3
  have HB0 := hide hb0
  have HD := hide hD
  have HBX := hide hB
  have CL := hide (fun W : World => by have := Less_any v (vof best (i : Int)) W; rw [hc3] at this; exact this)
  have HK := hide hk
  have HOFF := hide (offB_yes hc hc2 hc3)
  have HOTH := hide (hD.other (v := v) hk hk0)
  have HINV := hide (hD.inv.push hk hk0 (show fin[i]? = some false by have hl : i < fin.length := by rw [hD.flen]; exact hi
                                                                      rw [List.getD, List.getElem?_eq_getElem hl] at hc; rw [List.getElem?_eq_getElem hl]; simpa using hc) hi v)
  have HOLD := hide (show ∀ e ∈ es, e.h < nx from fun e he => by
    obtain ⟨h1, h2, h3, h4, h5⟩ := hD.inv.ent (ekey e) (List.mem_map_of_mem he)
    exact hD.inv.lt _ (List.mem_of_getElem? h3))
  have HVN := hide (set_vnf hD.vok hvn (i := i))
  have hd : decide (1099511627776 ≤ v.c) = false := by unfold Inf at hc2; simp; omega
  have HNN := hide B.n1
  have HLEN := hide (Dyn_len hD)
  clear hW hD r hfc b0 b1 hB hb0 hc2 hc3 hc hvn hk
  go_enter Tryd.func48, Tryd.ntmps48
  go_wp2_with fail
  refine wp_region_later (by kernel_rfl) (by kernel_rfl) ?_
  repeat (go_big_quiet_step ((go_at_call 40; exact later_call (CL.out _))))
  refine wpQuiet_nil ?_
  rintro W1 ⟨⟨_, hW1⟩, rfl⟩
  have hb := HB0.out.trans (hW1.mono HB0.out.size)
  have HB1 := hide hb
  have hD1 := HD.out.below hb
  have HD1 := hide hD1
  have r1 := hD1.rec_
  have x0 := (HBX.out.below hW1 HBX.out.lt).cell 0
  have x1 := (HBX.out.below hW1 HBX.out.lt).cell 1
  have c12 := r1.cell 12
  have c14 := r1.cell 14
  have c15 := r1.cell 15
  have hSp : SpW W1 X m best fin := ⟨_, _, _, _, _, hD1⟩
  obtain ⟨b0, b1⟩ := hSp.bcell (x := (i : Int)) (by omega) (by omega)
  have f0 := hSp.best_.frozen (i * 2)
  have f1 := hSp.best_.frozen (i * 2 + 1)
  have h0 := hD1.ha.cell i
  simp [recC] at x0 x1 c12 c14 c15
  simp only [Int.toNat_natCast] at b0 b1
  rw [List.getElem?_toArray, List.getElem?_map, HK.out] at h0
  simp only [Option.map_some] at h0
  have n12 := Blk.ne_ r1 hSp.best_ (by decide)
  have n13 := n12.symm
  have n14 := Blk.ne_ hD1.ha hSp.best_ (by decide)
  have n15 := n14.symm
  clear l0 l1 l2 l3 l4 l5 l6 hd hb hW1 hD1 hSp r1 HD
  go_wp2_with fail
  go_region
  have hk2 : Kp (fun k => k = m.be) W1 (((W1.setCell { block := m.be, off := i * 2 } (Value.int IntKind.i64 v.c)).setCell { block := m.be, off := i * 2 + 1 } (Value.int IntKind.i64 v.s)).drew) :=
    (((Kp.refl (fun k => k = m.be) W1).setCell (p := ⟨m.be, i * 2, none⟩) (.inl rfl) _).setCell (p := ⟨m.be, i * 2 + 1, none⟩) (.inl rfl) _).drew
  have hb2 : Blk (((W1.setCell { block := m.be, off := i * 2 } (Value.int IntKind.i64 v.c)).setCell { block := m.be, off := i * 2 + 1 } (Value.int IntKind.i64 v.s)).drew) m.be 45 (vcells (best.set i v)).toArray := by
    have := ((HD1.out.q.B.val.set_ (i * 2) (I v.c)).set_ (i * 2 + 1) (I v.s)).drew
    rw [vcells_set]
    simpa using this
  generalize (((W1.setCell { block := m.be, off := i * 2 } (Value.int IntKind.i64 v.c)).setCell { block := m.be, off := i * 2 + 1 } (Value.int IntKind.i64 v.s)).drew) = W2 at hk2 hb2 ⊢
  have HK2 := hide hk2
  have HQ2 := hide (HD1.out.mid hk2 hb2)
  have r2 := HD1.out.rec_.kp hk2 n12
  have ha2 := HD1.out.ha.kp hk2 n14
  have d14 := r2.cell 14
  have d15 := r2.cell 15
  have e0 := ha2.cell i
  simp [recC] at d14 d15
  rw [List.getElem?_toArray, List.getElem?_map, HK.out] at e0
  simp only [Option.map_some] at e0
  have HA2 := hide ha2
  clear hk2 hb2 r2 ha2 b0 b1 x0 x1 c12 c14 c15 f0 f1 h0 n13 n14 n15
  have hN1 := HNN.out
  have hL1 := HLEN.out
  have CU := hide (push_any m.q m.pl m.sv m.S m.be X.N (i : Int) (best.set i v) hv es nx ck (by omega) (by omega) (by omega) (by omega) hL1.1 (by omega) HOLD.out W2.drew (HQ2.out.below ((Below.refl _ _).drew)) HOTH.out)
  have HE := hide (show ∀ w5 hv' es' ck', (es'.map fun e => (e.x, e.h)).Perm (((i : Int), nx) :: es.map fun e => (e.x, e.h)) → Heap (vof (best.set i v)) es' → QAll w5 m.q m.pl m.sv m.S m.be X.N hv' (best.set i v) es' (nx + 1) ck' → Kp (QF m.q m.pl hv) W2.drew w5 →
    (hv'.ownBlock = hv.ownBlock ∨ ∃ g, hv'.ownBlock = some g ∧ W2.drew.heap.size ≤ g) → w5.cell? ⟨m.S, 14, none⟩ = some (.slice (some ⟨m.ha, 0, none⟩) X.N X.N) ∧ Blk w5 m.ha 3 (han.map I).toArray ∧ (SpW (w5.setCell ⟨m.ha, i, none⟩ (I nx)) X m (best.set i v) fin ∧ KT m w (w5.setCell ⟨m.ha, i, none⟩ (I nx))) from fun w5 hv' es' ck' h1 h2 h3 h4 h5 => by
    have hk5 : Kp (fun k => k = m.be ∨ k = m.ha ∨ QF m.q m.pl hv k) W1 w5 := (HK2.out.mono (fun k _ h => .inl h)).drew.trans (h4.mono (fun k _ h => .inr (.inr h)))
    have ha5 : Blk w5 m.ha 3 (han.map I).toArray := HA2.out.drew.kp h4 (HD1.out.apart HD1.out.ha (by decide) (by decide))
    obtain ⟨f5, g5, hR5, hP5⟩ := h3.Q.ex
    have hq6 : QAll (w5.setCell ⟨m.ha, i, none⟩ (I nx)) m.q m.pl m.sv m.S m.be X.N hv' (best.set i v) es' (nx + 1) ck' := by
      have hka : Kp (fun k => k = m.ha) w5 (w5.setCell ⟨m.ha, i, none⟩ (I nx)) := (Kp.refl (fun k => k = m.ha) w5).setCell (p := ⟨m.ha, i, none⟩) (.inl rfl) _
      refine ⟨⟨f5, g5, hR5.kp hka (fun k hk e => hR5.apart ha5 (by decide) (by decide) (e ▸ hk)), hP5⟩, ?_, h3.E⟩
      obtain ⟨cs, b4, b5⟩ := h3.B.rec_
      exact h3.B.kp hka (Blk.ne_ h3.B.sv ha5 (by decide)) (Blk.ne_ b4 ha5 (by decide)) (Blk.ne_ h3.B.val ha5 (by decide))
    have hk6 : Kp (fun k => k = m.be ∨ k = m.ha ∨ QF m.q m.pl hv k) W1 (w5.setCell ⟨m.ha, i, none⟩ (I nx)) := hk5.setCell (p := ⟨m.ha, i, none⟩) (.inl (.inr (.inl rfl))) _
    have ha6 : Blk (w5.setCell ⟨m.ha, i, none⟩ (I nx)) m.ha 3 ((han.set i nx).map I).toArray := by
      have := ha5.set_ i (I nx)
      rw [List.map_set]
      simpa using this
    obtain ⟨a1, a2⟩ := HD1.out.turn hk6 hq6 h2 (HINV.out.perm h1) ha6 (by rw [List.length_set]; exact HD1.out.hlen) HVN.out (fun g hg => by
      rcases h5 with h5 | ⟨g', h5, h6⟩
      · exact HD1.out.newh g (h5 ▸ hg)
      · rw [h5] at hg
        injection hg with hg
        have z1 := HK2.out.size
        have z2 := HD1.out.bel.size
        have z3 : W2.drew.heap.size = W2.heap.size := rfl
        omega)
    have c14 : w5.cell? ⟨m.S, 14, none⟩ = some (.slice (some ⟨m.ha, 0, none⟩) X.N X.N) := by
      have r5 := (HD1.out.rec_.kp HK2.out n12).drew.kp h4 (HD1.out.apart HD1.out.rec_ (by decide) (by decide))
      have := r5.cell 14
      simpa [recC] using this
    exact ⟨c14, ha5, a1, (KT.of_below HB1.out).trans a2⟩)
  have hil : i < han.length := by have := HD1.out.hlen; omega
  clear hN1 hL1 HQ2 n12
  go_wp2_with fail
  go_region_with (go_at_call 58; refine CU.out.mono ?_; rintro e w5 ⟨hv', es', ck', rfl, hu1, hu2, hu3, hu4, hu5⟩; obtain ⟨c14, ha5, hend⟩ := HE.out _ _ _ _ hu1 hu2 hu3 hu4 hu5; have HEND := hide hend; have q0 := ha5.cell i; have f0 := ha5.frozen i; rw [List.getElem?_toArray, List.getElem?_map, HK.out] at q0; simp only [Option.map_some] at q0; clear hu1 hu2 hu3 hu4 hu5 ha5 hend)
  all_goals
    go_wp2
    go_end0
    rw [HOFF.out]
    exact ⟨rfl, HEND.out⟩

/-- offer -/
theorem offer_any (X : SpanC) (m : Mem) (best : List Vl) (fin : List Bool) (h : Int) (v : Vl) (w : World) (B : Bds X) (hW : SpW w X m best fin) (h0 : 0 ≤ h) (h1 : h < X.G.nN) (hv : VNF v) :
    Calls Tryd.prog 48 #[PB m.S, .int .i64 h, VA v] w (Offered X m (offB best fin h v) fin w) := by
  obtain ⟨i, rfl⟩ := Int.eq_ofNat_of_zero_le h0
  have hN := toN B
  have hi : i < X.N := by omega
  by_cases hc : fin.getD i false = true
  · rw [show offB best fin (i : Int) v = best by unfold offB; rw [Int.toNat_natCast, hc]; rfl]
    exact offer_no X m best fin i v w B hW hi (.inl hc)
  · have hc' : fin.getD i false = false := by simpa using hc
    by_cases hc2 : Inf ≤ v.c
    · rw [show offB best fin (i : Int) v = best by unfold offB; rw [Int.toNat_natCast, hc', show decide (Inf ≤ v.c) = true by simpa using hc2]; rfl]
      exact offer_no X m best fin i v w B hW hi (.inr (.inl ⟨hc', hc2⟩))
    · by_cases hc3 : vlt v (vof best (i : Int)) = true
      · obtain ⟨han, hq, es, nx, ck, hD⟩ := hW
        have hl : i < han.length := by rw [hD.hlen]; exact hi
        have hk := List.getElem?_eq_getElem hl
        by_cases hk0 : 0 ≤ han[i]
        · exact offer_upd X m best fin han hq es nx ck i v w B hD hi hv hc' (by omega) hc3 hk hk0
        · exact offer_push X m best fin han hq es nx ck i v w B hD hi hv hc' (by omega) hc3 hk (by omega)
      · have hc3' : vlt v (vof best (i : Int)) = false := by simpa using hc3
        rw [show offB best fin (i : Int) v = best by unfold offB; rw [hc3']; simp]
        exact offer_no X m best fin i v w B hW hi (.inr (.inr ⟨hc', by omega, hc3'⟩))
end Go.Proofs.YtnifpeamgoapmaaDoor
