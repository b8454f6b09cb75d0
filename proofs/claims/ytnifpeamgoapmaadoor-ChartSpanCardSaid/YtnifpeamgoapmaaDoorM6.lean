/- value -/
import Derived.Test.YtnifpeamgoapmaaDoorM5
set_option linter.unusedVariables false
set_option linter.unusedSimpArgs false
namespace Go.Proofs.YtnifpeamgoapmaaDoor
open Go Go.RowKit

theorem toN {X : SpanC} (B : Bds X) : ((X.N : Nat) : Int) = X.G.nN := by unfold SpanC.N; have := B.n0; omega
theorem run_field47 (a b c d : Value) (w : World) : (Instr.field 47 (.agg #[a, b, c, d]) 0).run Tryd.prog w = .ok (.agg #[a, b]) w := by kernel_rfl
set_option maxHeartbeats 2000000 in
theorem value_any (X : SpanC) (m : Mem) (best : List Vl) (fin : List Bool) (x : Item) (w : World) (B : Bds X) (hW : SpW w X m best fin) (hx : X.own x = true → 0 ≤ x.h ∧ x.h < X.G.nN) :
    Calls Tryd.prog 59 #[PB m.S, I x.h, I x.f, I x.t] w fun e w' => e = .returned (VA (X.val best x)) ∧ Below w.heap.size w w' := by
  have r := hW.rec_
  have c0 := r.cell 7
  have c1 := r.cell 8
  have c2 := r.cell 9
  have c3 := r.cell 10
  have c4 := r.cell 11
  have c5 := r.cell 12
  simp [recC] at c0 c1 c2 c3 c4 c5
  have n1 := r.lt
  have n2 := hW.best_.lt
  have hb0 : Below w.heap.size w (w.alloc (Obj.cells #[I 0, I 0] 45)) := (Below.refl _ _).alloc (Nat.le_refl _) _
  have HB0 := hide hb0
  by_cases ho : x.f = X.fr ∧ x.t = X.to
  · have hown : X.own x = true := by unfold SpanC.own; simp [ho.1, ho.2]
    obtain ⟨h0, h1⟩ := hx hown
    obtain ⟨b0, b1⟩ := hW.bcell h0 h1
    have hN := toN B
    rw [← hN] at h1
    have HV := hide (show X.val best x = vof best x.h by unfold SpanC.val; rw [hown]; rfl)
    obtain ⟨xh, xf, xt⟩ := x
    obtain ⟨rfl, rfl⟩ := ho
    obtain ⟨i, rfl⟩ := Int.eq_ofNat_of_zero_le h0
    simp only [Int.toNat_natCast] at b0 b1
    have hi : i < X.N := by simp only at h1; omega
    clear hW r hx hb0 hown h0 h1 hN B
    go_enter Tryd.func59, Tryd.ntmps59
    go_wp2
    refine bodyPost_ret (v := VA (vof best (i : Int))) ?_ rfl ⟨by rw [HV.out], ?_⟩
    · simp [results, Tryd.results59, go_sem]
    · exact (Below.refl _ _).alloc (Nat.le_refl _) _
  · have HV := hide (show X.val best x = (atP X.C.cN X.C.cS X.C.cells x.h x.f x.t).v by
      unfold SpanC.val
      rw [if_neg]
      intro h
      unfold SpanC.own at h
      simp at h
      exact ho h)
    have hA := (hW.args.below hb0)
    have C1 := hide (At_any X.C.cN X.C.cS x.h x.f x.t m.CA m.cc X.C.cells _ hA.none_ hA.cells (by have := B.c1; omega) (by have := B.c2; omega) (by have := B.c3; omega))
    have C1 := C1.out
    obtain ⟨ce, hce⟩ : ∃ ce, ce = atP X.C.cN X.C.cS X.C.cells x.h x.f x.t := ⟨_, rfl⟩
    rw [← hce] at C1
    have HV := hide (HV.out.trans (congrArg Cel.v hce.symm))
    delta CelA at C1
    have C1 := hide C1
    clear hce
    have HK := hide (Blk.new w 45 #[I 0, I 0])
    have F1 := run_field47 (I ce.v.c) (I ce.v.s) (I ce.r) (I ce.a)
    have hc : x.f ≠ X.fr ∨ (x.f = X.fr ∧ x.t ≠ X.to) := by omega
    obtain ⟨xh, xf, xt⟩ := x
    simp only at hc
    clear hW r hx hb0 B ho hA
    rcases hc with hc | ⟨rfl, hc⟩
    all_goals
      go_enter Tryd.func59, Tryd.ntmps59
      go_wp2_with (go_at_call 28; refine C1.out.mono ?_; rintro e w1 ⟨rfl, hw1⟩; have hq := HK.out.below hw1 HK.out.lt; have q0 := hq.cell 0; have q1 := hq.cell 1; have f0 := hq.frozen 0; have f1 := hq.frozen 1; simp at q0 q1; clear hq)
      refine bodyPost_ret (v := VA ce.v) ?_ rfl ⟨by rw [HV.out], ?_⟩
      · simp [results, Tryd.results59, go_sem, q0, q1]
      · exact (((HB0.out.trans (hw1.mono HB0.out.size)).setCell (by simp) _).setCell (by simp) _)

set_option maxHeartbeats 2000000 in
/-- within -/
theorem within_any (X : SpanC) (m : Mem) (best : List Vl) (fin : List Bool) (us : List Item) (A : Option Addr) (c : Nat) (w : World) (hn : us.length ≤ 1000) (hW : SpW w X m best fin) (hR : Rd w A us.length 3 (icells us)) :
    Calls Tryd.prog 47 #[PB m.S, .slice A us.length c] w fun e w' => e = .returned (.bool (X.within us)) ∧ Below w.heap.size w w' := by
  have HR := hide hR
  have HW := hide hW
  have hall : ∀ k, us.length ≤ k → (∀ (j : Nat) x, j < k → us[j]? = some x → X.own x = false) → X.within us = false := by
    intro k hk h
    unfold SpanC.within
    rw [List.any_eq_false]
    intro x hx
    obtain ⟨j, hj⟩ := List.getElem?_of_mem hx
    have := (List.getElem?_eq_some_iff.1 hj).1
    rw [h j x (by omega) hj]; decide
  have hyes : ∀ (k : Nat) x, us[k]? = some x → X.own x = true → X.within us = true := by
    intro k x hk ho
    unfold SpanC.within
    rw [List.any_eq_true]
    exact ⟨x, List.mem_of_getElem? hk, ho⟩
  have HALL := hide hall
  have HYES := hide hyes
  clear hR hW hall hyes
  go_enter Tryd.func47, Tryd.ntmps47
  go_wp2_with fail
  go_loopw [9] (fun s9 wr => ∃ k : Nat, s9 = .int .i64 k ∧ k ≤ us.length ∧ (∀ (j : Nat) x, j < k → us[j]? = some x → X.own x = false) ∧ Below w.heap.size w wr) (fun s9 _ => us.length - (intOf s9).toNat)
  case atStart => exact ⟨0, rfl, Nat.zero_le _, fun j x h => absurd h (Nat.not_lt_zero _), Below.refl _ _⟩
  case round =>
    obtain ⟨k, rfl, hk, hno, hb⟩ := hrel
    have HNO := hide hno
    have HB := hide hb
    have HW2 := hide (HW.out.below hb)
    have HR2 := hide (HR.out.below hb)
    clear hno hb HW HR
    have hkl : (k : Int) < us.length ∨ ((us.length : Int) ≤ k) := by omega
    rcases hkl with hkl | hkl
    · obtain ⟨x, hx⟩ : ∃ x, us[k]? = some x := ⟨_, List.getElem?_eq_getElem (by omega)⟩
      obtain ⟨b, off, rfl, r0, r1, r2⟩ := HR2.out.item k hx
      have r := HW2.out.rec_
      have c3 := r.cell 10
      have c4 := r.cell 11
      simp [recC] at c3 c4
      have n1 := r.lt
      have HX := hide hx
      have hc : (x.f = X.fr ∧ x.t = X.to) ∨ (x.f = X.fr ∧ x.t ≠ X.to) ∨ x.f ≠ X.fr := by omega
      have HN := hide (show X.own x = false → ∀ (j : Nat) y, j < k + 1 → us[j]? = some y → X.own y = false from fun ho j y hj hy => by
        by_cases hjk : j = k
        · subst hjk; rw [hx] at hy; injection hy with hy; subst hy; exact ho
        · exact HNO.out j y (by omega) hy)
      obtain ⟨xh, xf, xt⟩ := x
      have hB := Blk.new wr 61 #[I xh, I xf, I xt]
      have l1 := fun y : LW (wr.alloc (Obj.cells #[I xh, I xf, I xt] 61)) => y.cell (hB.cell 1)
      have l2 := fun y : LW (wr.alloc (Obj.cells #[I xh, I xf, I xt] 61)) => y.cell (hB.cell 2)
      have l3 := fun y : LW (wr.alloc (Obj.cells #[I xh, I xf, I xt] 61)) => y.cell ((r.alloc _).cell 10)
      have l4 := fun y : LW (wr.alloc (Obj.cells #[I xh, I xf, I xt] 61)) => y.cell ((r.alloc _).cell 11)
      simp [recC] at l1 l2 l3 l4
      have HBA := hide (show Below w.heap.size w (wr.alloc (Obj.cells #[I xh, I xf, I xt] 61)) from HB.out.alloc HB.out.size _)
      clear hx r hB
      rcases hc with ⟨h1, h2⟩ | ⟨h1, h2⟩ | h1
      · simp only at h1 h2
        subst h1 h2
        have HO := hide (show X.within us = true from HYES.out k _ HX.out (by simp [SpanC.own]))
        go_wp2_with fail
        refine wp_region_later (by kernel_rfl) (by kernel_rfl) ?_
        repeat (go_big_quiet_step (fail))
        refine wpQuiet_nil ?_
        rintro W1 ⟨⟨_, hW1⟩, rfl⟩
        go_wp2
        go_ret
        exact ⟨by rw [HO.out]; rfl, HBA.out.trans (hW1.mono HBA.out.size)⟩
      · simp only at h1 h2
        subst h1
        have hb1 : (xt == X.to) = false := by simp [h2]
        go_wp2_with fail
        refine wp_region_later (by kernel_rfl) (by kernel_rfl) ?_
        repeat (go_big_quiet_step (fail))
        refine wpQuiet_nil ?_
        rintro W1 ⟨⟨_, hW1⟩, rfl⟩
        go_wp2_with fail
        go_roundw
        case rel => exact ⟨k + 1, rfl, by omega, HN.out (by simp [SpanC.own]; omega), HBA.out.trans (hW1.mono HBA.out.size)⟩
        case measure => simp [intOf]; omega
      · simp only at h1
        have hb1 : (xf == X.fr) = false := by simp [h1]
        go_wp2_with fail
        refine wp_region_later (by kernel_rfl) (by kernel_rfl) ?_
        repeat (go_big_quiet_step (fail))
        refine wpQuiet_nil ?_
        rintro W1 ⟨⟨_, hW1⟩, rfl⟩
        go_wp2_with fail
        go_roundw
        case rel => exact ⟨k + 1, rfl, by omega, HN.out (by simp [SpanC.own]; omega), HBA.out.trans (hW1.mono HBA.out.size)⟩
        case measure => simp [intOf]; omega
    · have HO := hide (show X.within us = false from HALL.out k (by omega) HNO.out)
      clear HALL HYES HNO
      go_wp2
      go_ret
      exact ⟨by rw [HO.out]; rfl, HB.out⟩
end Go.Proofs.YtnifpeamgoapmaaDoor
/- ready, combine, uses -/
namespace Go.Proofs.YtnifpeamgoapmaaDoor
open Go Go.RowKit

set_option maxHeartbeats 2000000 in
/-- ready -/
theorem ready_any (X : SpanC) (m : Mem) (best : List Vl) (fin : List Bool) (us : List Item) (A : Option Addr) (c : Nat) (w : World) (hn : us.length ≤ 1000) (hW : SpW w X m best fin) (hR : Rd w A us.length 3 (icells us)) (B : Bds X) (hu : ∀ x ∈ us, X.own x = true → 0 ≤ x.h ∧ x.h < X.G.nN) :
    Calls Tryd.prog 64 #[PB m.S, .slice A us.length c] w fun e w' => e = .returned (.bool (X.ready fin us)) ∧ Below w.heap.size w w' := by
  have HR := hide hR
  have HW := hide hW
  have hall : ∀ k, us.length ≤ k → (∀ (j : Nat) x, j < k → us[j]? = some x → (!X.own x || fin.getD x.h.toNat false) = true) → X.ready fin us = true := by
    intro k hk h
    unfold SpanC.ready
    rw [List.all_eq_true]
    intro x hx
    obtain ⟨j, hj⟩ := List.getElem?_of_mem hx
    have := (List.getElem?_eq_some_iff.1 hj).1
    exact h j x (by omega) hj
  have hyes : ∀ (k : Nat) x, us[k]? = some x → (!X.own x || fin.getD x.h.toNat false) = false → X.ready fin us = false := by
    intro k x hk ho
    unfold SpanC.ready
    rw [List.all_eq_false]
    exact ⟨x, List.mem_of_getElem? hk, by rw [ho]; decide⟩
  have HU := hide hu
  have HBD := hide B
  have HALL := hide hall
  have HYES := hide hyes
  clear hR hW hall hyes B hu
  go_enter Tryd.func64, Tryd.ntmps64
  go_wp2_with fail
  go_loopw [9] (fun s9 wr => ∃ k : Nat, s9 = .int .i64 k ∧ k ≤ us.length ∧ (∀ (j : Nat) x, j < k → us[j]? = some x → (!X.own x || fin.getD x.h.toNat false) = true) ∧ Below w.heap.size w wr) (fun s9 _ => us.length - (intOf s9).toNat)
  case atStart => exact ⟨0, rfl, Nat.zero_le _, fun j x h => absurd h (Nat.not_lt_zero _), Below.refl _ _⟩
  case round =>
    obtain ⟨k, rfl, hk, hno, hb⟩ := hrel
    have HNO := hide hno
    have HB := hide hb
    have HW2 := hide (HW.out.below hb)
    have HR2 := hide (HR.out.below hb)
    clear hno hb HW HR
    have hkl : (k : Int) < us.length ∨ ((us.length : Int) ≤ k) := by omega
    rcases hkl with hkl | hkl
    · obtain ⟨x, hx⟩ : ∃ x, us[k]? = some x := ⟨_, List.getElem?_eq_getElem (by omega)⟩
      obtain ⟨b, off, rfl, r0, r1, r2⟩ := HR2.out.item k hx
      have r := HW2.out.rec_
      have c3 := r.cell 10
      have c4 := r.cell 11
      simp [recC] at c3 c4
      have n1 := r.lt
      have HX := hide hx
      have hc : (x.f = X.fr ∧ x.t = X.to) ∨ (x.f = X.fr ∧ x.t ≠ X.to) ∨ x.f ≠ X.fr := by omega
      have HN := hide (show (!X.own x || fin.getD x.h.toNat false) = true → ∀ (j : Nat) y, j < k + 1 → us[j]? = some y → (!X.own y || fin.getD y.h.toNat false) = true from fun ho j y hj hy => by
        by_cases hjk : j = k
        · subst hjk; rw [hx] at hy; injection hy with hy; subst hy; exact ho
        · exact HNO.out j y (by omega) hy)
      obtain ⟨xh, xf, xt⟩ := x
      have hB := Blk.new wr 61 #[I xh, I xf, I xt]
      have l1 := fun y : LW (wr.alloc (Obj.cells #[I xh, I xf, I xt] 61)) => y.cell (hB.cell 1)
      have l2 := fun y : LW (wr.alloc (Obj.cells #[I xh, I xf, I xt] 61)) => y.cell (hB.cell 2)
      have l3 := fun y : LW (wr.alloc (Obj.cells #[I xh, I xf, I xt] 61)) => y.cell ((r.alloc _).cell 10)
      have l4 := fun y : LW (wr.alloc (Obj.cells #[I xh, I xf, I xt] 61)) => y.cell ((r.alloc _).cell 11)
      have l0 := fun y : LW (wr.alloc (Obj.cells #[I xh, I xf, I xt] 61)) => y.cell (hB.cell 0)
      have l6 := fun y : LW (wr.alloc (Obj.cells #[I xh, I xf, I xt] 61)) => y.cell ((r.alloc _).cell 13)
      simp [recC] at l0 l1 l2 l3 l4 l6
      have HBA := hide (show Below w.heap.size w (wr.alloc (Obj.cells #[I xh, I xf, I xt] 61)) from HB.out.alloc HB.out.size _)
      clear hx r hB
      rcases hc with ⟨h1, h2⟩ | ⟨h1, h2⟩ | h1
      · simp only at h1 h2
        subst h1 h2
        have ho : X.own ⟨xh, X.fr, X.to⟩ = true := by simp [SpanC.own]
        obtain ⟨g0, g1⟩ := HU.out _ (List.mem_of_getElem? HX.out) ho
        simp only at g0 g1
        have hfc := (HW2.out.below ((Below.refl _ _).alloc (Nat.le_refl _) (Obj.cells #[I xh, I X.fr, I X.to] 61))).fcell g0 g1
        rw [← toN HBD.out] at g1
        obtain ⟨i, rfl⟩ := Int.eq_ofNat_of_zero_le g0
        simp only [Int.toNat_natCast] at hfc
        have hi : i < X.N := by omega
        have l5 := fun y : LW (wr.alloc (Obj.cells #[I (i : Int), I X.fr, I X.to] 61)) => y.cell hfc
        have HO := hide ho
        clear ho g0 g1 hfc
        rcases hff : fin.getD i false with _ | _
        · have HZ := hide (show X.ready fin us = false from HYES.out k _ HX.out (by rw [HO.out]; simp only [Int.toNat_natCast, hff]; rfl))
          rw [hff] at l5
          clear hff
          go_wp2_with fail
          refine wp_region_later (by kernel_rfl) (by kernel_rfl) ?_
          repeat (go_big_quiet_step (fail))
          refine wpQuiet_nil ?_
          rintro W1 ⟨⟨_, hW1⟩, rfl⟩
          go_wp2
          go_ret
          exact ⟨by rw [HZ.out]; rfl, HBA.out.trans (hW1.mono HBA.out.size)⟩
        · have HZ := hide (show ∀ (j : Nat) y, j < k + 1 → us[j]? = some y → (!X.own y || fin.getD y.h.toNat false) = true from HN.out (by simp only [Int.toNat_natCast, hff]; simp))
          rw [hff] at l5
          clear hff
          go_wp2_with fail
          refine wp_region_later (by kernel_rfl) (by kernel_rfl) ?_
          repeat (go_big_quiet_step (fail))
          refine wpQuiet_nil ?_
          rintro W1 ⟨⟨_, hW1⟩, rfl⟩
          go_wp2_with fail
          go_roundw
          case rel => exact ⟨k + 1, rfl, by omega, HZ.out, HBA.out.trans (hW1.mono HBA.out.size)⟩
          case measure => simp [intOf]; omega
      · simp only at h1 h2
        subst h1
        have hb1 : (xt == X.to) = false := by simp [h2]
        go_wp2_with fail
        refine wp_region_later (by kernel_rfl) (by kernel_rfl) ?_
        repeat (go_big_quiet_step (fail))
        refine wpQuiet_nil ?_
        rintro W1 ⟨⟨_, hW1⟩, rfl⟩
        go_wp2_with fail
        go_roundw
        case rel => exact ⟨k + 1, rfl, by omega, HN.out (by simp [SpanC.own]; omega), HBA.out.trans (hW1.mono HBA.out.size)⟩
        case measure => simp [intOf]; omega
      · simp only at h1
        have hb1 : (xf == X.fr) = false := by simp [h1]
        go_wp2_with fail
        refine wp_region_later (by kernel_rfl) (by kernel_rfl) ?_
        repeat (go_big_quiet_step (fail))
        refine wpQuiet_nil ?_
        rintro W1 ⟨⟨_, hW1⟩, rfl⟩
        go_wp2_with fail
        go_roundw
        case rel => exact ⟨k + 1, rfl, by omega, HN.out (by simp [SpanC.own]; omega), HBA.out.trans (hW1.mono HBA.out.size)⟩
        case measure => simp [intOf]; omega
    · have HO := hide (show X.ready fin us = true from HALL.out k (by omega) HNO.out)
      clear HALL HYES HNO
      go_wp2
      go_ret
      exact ⟨by rw [HO.out]; rfl, HB.out⟩

set_option maxHeartbeats 2000000 in
/-- uses -/
theorem uses_any (r : NRule) (x : Int) (w : World) : Calls Tryd.prog 61 #[.agg #[I r.k, I r.h, I r.a, I r.b, I r.p, I r.o], I x] w fun e w' => e = .returned (.bool (usesP r x)) ∧ Below w.heap.size w w' := by
  have HB := hide (show Below w.heap.size w (w.alloc (Obj.cells #[I r.k, I r.h, I r.a, I r.b, I r.p, I r.o] 65)) from (Below.refl _ _).alloc (Nat.le_refl _) _)
  obtain ⟨k, h, a, b, p, o⟩ := r
  by_cases h3 : k = 3
  · subst h3
    have HU := hide (show usesP ⟨3, h, a, b, p, o⟩ x = (a == x) by simp [usesP])
    go_enter Tryd.func61, Tryd.ntmps61
    by_cases ha : a = x
    · subst ha
      go_wp2
      go_ret
      exact ⟨by rw [HU.out]; simp, HB.out⟩
    · have hb : (a == x) = false := by simp [ha]
      go_wp2
      go_ret
      exact ⟨by rw [HU.out, hb]; simp, HB.out⟩
  · have hb3 : (k == 3) = false := by simp [h3]
    by_cases h4 : k = 4
    · subst h4
      have HU := hide (show usesP ⟨4, h, a, b, p, o⟩ x = (a == x || b == x) by simp [usesP])
      by_cases ha : a = x
      · subst ha
        clear hb3 h3
        go_enter Tryd.func61, Tryd.ntmps61
        go_wp2
        go_ret
        exact ⟨by rw [HU.out]; simp, HB.out⟩
      · have hb : (a == x) = false := by simp [ha]
        by_cases hbx : b = x
        · subst hbx
          clear hb3 h3
          go_enter Tryd.func61, Tryd.ntmps61
          go_wp2
          go_ret
          exact ⟨by rw [HU.out, hb]; simp, HB.out⟩
        · have hb2 : (b == x) = false := by simp [hbx]
          clear hb3 h3
          go_enter Tryd.func61, Tryd.ntmps61
          go_wp2
          go_ret
          exact ⟨by rw [HU.out, hb, hb2]; simp, HB.out⟩
    · have hb4 : (k == 4) = false := by simp [h4]
      have HU := hide (show usesP ⟨k, h, a, b, p, o⟩ x = false by simp [usesP, h3, h4])
      go_enter Tryd.func61, Tryd.ntmps61
      go_wp2
      go_ret
      exact ⟨by rw [HU.out]; simp, HB.out⟩
end Go.Proofs.YtnifpeamgoapmaaDoor
/- combine -/
namespace Go.Proofs.YtnifpeamgoapmaaDoor
open Go Go.RowKit

theorem Rd.of_own {w : World} {base n c sz : Nat} {e : TypeId} {A : Option Addr} {xs : List Value} (h : w.ownsRow base e sz (.slice A n c) n xs) : Rd w A n sz xs := by
  refine ⟨h.1, fun hn => ?_⟩
  obtain ⟨g, cap, e1, _⟩ := World.ownsRow.form h hn
  injection e1 with e1 _ e3
  subst e1 e3
  refine ⟨g, 0, rfl, fun j u hj => ?_⟩
  have hl := (List.getElem?_eq_some_iff.1 hj).1
  rw [Nat.zero_add, h.cellAt j (by rw [← h.1]; exact hl)]
  exact hj
theorem own_below {w w' : World} {base n sz : Nat} {e : TypeId} {v : Value} {xs : List Value} (h : w.ownsRow base e sz v n xs) (hb : Below w.heap.size w w') : w'.ownsRow base e sz v n xs :=
  World.ownsRow.kept h (row := none) ⟨hb.os, hb.tape, hb.output, hb.size, fun k hk _ => hb.block k hk⟩ (by cases v.ownBlock <;> simp)
theorem own_ge {w : World} {base n sz : Nat} {e : TypeId} {v : Value} {xs : List Value} (h : w.ownsRow base e sz v n xs) : ∀ k, v.ownBlock = some k → base ≤ k := fun k hk => (World.ownsRow.lt h k hk).1
theorem below_grown {B : Nat} {a w w' : World} {row : Option Nat} (h : Below B a w) (hB : B ≤ w.heap.size) (hg : w.grownBy w' row) (hr : ∀ k, row = some k → B ≤ k) : Below B a w' :=
  ⟨hg.os.trans h.os, hg.tape.trans h.tape, hg.output.trans h.output, Nat.le_trans h.size hg.size, fun i hi => (hg.block i (Nat.lt_of_lt_of_le hi hB) (fun e => by have := hr i e.symm; omega)).trans (h.block i hi)⟩
theorem info45 : (Tryd.prog.info? 45).map (fun i => (i.zero, i.size, i.bytes)) = some (some (.agg #[.int .i64 0, .int .i64 0]), 2, 16) := by kernel_rfl
theorem vcells_snoc (vs : List Vl) (v : Vl) : vcells (vs ++ [v]) = vcells vs ++ [I v.c, I v.s] := by simp [vcells]

set_option maxHeartbeats 4000000 in
theorem combine_any (X : SpanC) (m : Mem) (best : List Vl) (fin : List Bool) (p : Int) (us : List Item) (A : Option Addr) (c : Nat) (w : World) (hp : 0 ≤ p) (hp2 : p ≤ 4000000000000) (hn : us.length ≤ 1000) (hW : SpW w X m best fin)
    (hR : Rd w A us.length 3 (icells us)) (B : Bds X) (hu : ∀ x ∈ us, X.own x = true → 0 ≤ x.h ∧ x.h < X.G.nN) :
    Calls Tryd.prog 49 #[PB m.S, .int .i64 p, .slice A us.length c] w fun e w' => e = .returned (VA (X.cmb best ⟨0, p, us⟩)) ∧ Below w.heap.size w w' := by
  obtain ⟨i0, hi, hz0, hz1, hz2⟩ := info_parts info45
  have HC := hide (fun (W : World) (A : Option Addr) (c : Nat) (h : Rd W A us.length 2 (vcells (us.map (X.val best)))) => show Calls Tryd.prog 39 #[.int .i64 p, .slice A us.length c] W fun e w' => e = .returned (VA (X.cmb best ⟨0, p, us⟩)) ∧ Below W.heap.size W w' by
    have := Combine_any p (us.map (X.val best)) A c W hp hp2 (fun v hv => by
      obtain ⟨x, hx, rfl⟩ := List.mem_map.1 hv
      exact (hW.val_nf B x (hu x hx)).1) (by simp; omega) (by rw [List.length_map]; exact h)
    rw [List.length_map] at this
    exact this)
  have HV := hide (fun (k : Nat) (x : Item) (hx : us[k]? = some x) (W : World) (hb : Below w.heap.size w W) => value_any X m best fin x W B (hW.below hb) (hu x (List.mem_of_getElem? hx)))
  have HR := hide hR
  clear hW hR hu B
  go_enter Tryd.func49, Tryd.ntmps49
  go_wp2_with fail
  go_loopw [7, 12] (fun s7 s12 wr => ∃ (k : Nat) (A1 : Option Addr) (c1 : Nat), s7 = .slice A1 k c1 ∧ s12 = .int .i64 k ∧ k ≤ us.length ∧ wr.ownsRow (w.heap.size + 1) 45 2 (.slice A1 k c1) k (vcells ((us.take k).map (X.val best))) ∧ Blk wr w.heap.size 45 #[I 0, I 0] ∧ Below w.heap.size w wr) (fun _ s12 _ => us.length - (intOf s12).toNat)
  case atStart => exact ⟨0, none, 0, rfl, rfl, Nat.zero_le _, ⟨rfl, .inl ⟨rfl, rfl⟩⟩, Blk.new w _ _, (Below.refl _ _).alloc (Nat.le_refl _) _⟩
  case round =>
    obtain ⟨k, A1, c1, rfl, rfl, hk, hown, hb0, hb⟩ := hrel
    have HB := hide hb
    have HB0 := hide hb0
    have HOWN := hide hown
    have hn0 := hb0.lt
    clear hown hb hb0
    have hkl : (k : Int) < us.length ∨ ((us.length : Int) ≤ k) := by omega
    rcases hkl with hkl | hkl
    · obtain ⟨x, hx⟩ : ∃ x, us[k]? = some x := ⟨_, List.getElem?_eq_getElem (by omega)⟩
      obtain ⟨b, off, rfl, r0, r1, r2⟩ := (HR.out.below HB.out).item k hx
      have HX := hide hx
      have hsnoc : vcells ((us.take (k + 1)).map (X.val best)) = vcells ((us.take k).map (X.val best)) ++ [I (X.val best x).c, I (X.val best x).s] := by
        obtain ⟨hl, e⟩ := List.getElem?_eq_some_iff.1 hx
        rw [List.take_succ_eq_append_getElem hl, List.map_append, e]
        exact vcells_snoc _ _
      have HS := hide hsnoc
      have CV := hide (HV.out k x hx (wr.alloc (Obj.cells #[I x.h, I x.f, I x.t] 61)) (HB.out.alloc HB.out.size _))
      have HBA := hide (show Below w.heap.size w (wr.alloc (Obj.cells #[I x.h, I x.f, I x.t] 61)) from HB.out.alloc HB.out.size _)
      obtain ⟨xh, xf, xt⟩ := x
      obtain ⟨v, hv⟩ : ∃ v, v = X.val best ⟨xh, xf, xt⟩ := ⟨_, rfl⟩
      have CV := CV.out
      have HS := HS.out
      simp only [← hv] at CV HS
      have hnum : us.length + 1 ≤ maxLen := by simp [maxLen]; omega
      delta VA at CV
      have CV := hide CV
      have HS := hide HS
      clear hx hsnoc hv HV HC HR HX
      go_wp2_with (first | (go_at_call 59; refine CV.out.mono ?_; rintro e w1 ⟨rfl, hw1⟩) | (at_builtin; refine wpList_append_own _ rfl _ _ 40 rfl (w.heap.size + 1) 45 i0 _ 2 16 Tryd.underlying40 hi hz0 hz1 hz2 rfl (by decide) _ _ _ rfl ((own_below (HOWN.out.alloc _) hw1).alloc _) ⟨w1.heap.size, 0, none⟩ 1 1 [I v.c, I v.s] rfl rfl (World.news_of_block (heap_alloc_new _ _)) (by simp [Value.oneCell']) (by omega) (by omega) (by simp; have := hw1.size; have := HBA.out.size; simp at *; omega) ?_; intro v' w2 hown2 hgrow2 hiff))
      obtain ⟨g, cap, rfl, _⟩ := World.ownsRow.form hown2 (by omega)
      have HOWN2 := hide hown2
      have HGR := hide hgrow2
      have HW1 := hide hw1
      clear hown2 hgrow2 hw1 hiff
      go_wp2_with fail
      go_roundw
      case rel =>
        have hs1 := HW1.out.size
        have hs2 := HBA.out.size
        simp at hs1 hs2
        refine ⟨k + 1, _, _, rfl, rfl, by omega, by rw [HS.out]; exact HOWN2.out, ?_, ?_⟩
        · refine Blk.grown (((HB0.out.alloc _).below HW1.out (by simp; omega)).alloc _) HGR.out ?_
          intro he
          have := own_ge HOWN.out _ he.symm
          omega
        · refine below_grown ((HBA.out.trans (HW1.out.mono HBA.out.size)).alloc (by omega) _) (by simp; omega) HGR.out ?_
          intro q hq
          have := own_ge HOWN.out _ hq
          omega
      case measure => simp [intOf]; omega
    · obtain rfl : k = us.length := by omega
      have hR2 := HOWN.out
      rw [List.take_length] at hR2
      have CC := hide (HC.out wr A1 c1 (Rd.of_own hR2))
      obtain ⟨cv, hcv⟩ : ∃ cv, cv = X.cmb best ⟨0, p, us⟩ := ⟨_, rfl⟩
      have CC := CC.out
      rw [← hcv] at CC
      have HCV := hide hcv
      delta VA at CC
      have CC := hide CC
      clear hR2 HC HV hcv HR
      go_wp2_with (go_at_call 39; refine CC.out.mono ?_; rintro e w1 ⟨rfl, hw1⟩; have hq := HB0.out.below hw1 HB0.out.lt; have q0 := hq.cell 0; have q1 := hq.cell 1; have f0 := hq.frozen 0; have f1 := hq.frozen 1; simp at q0 q1; clear hq)
      refine bodyPost_ret (v := VA cv) ?_ rfl ⟨by rw [HCV.out], ?_⟩
      · simp [results, Tryd.results49, go_sem, q0, q1]
      · exact (((HB.out.trans (hw1.mono HB.out.size)).setCell (by simp) _).setCell (by simp) _)
end Go.Proofs.YtnifpeamgoapmaaDoor
