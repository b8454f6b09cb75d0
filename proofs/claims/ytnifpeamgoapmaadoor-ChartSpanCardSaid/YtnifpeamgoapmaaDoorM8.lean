/- arcs -/
import Derived.Test.YtnifpeamgoapmaaDoorM6
import Derived.Test.YtnifpeamgoapmaaDoorM1
import Derived.IntWalk
import Derived.Deep.RegionHeld3
set_option linter.unusedVariables false
set_option linter.unusedSimpArgs false
namespace Go.Proofs.YtnifpeamgoapmaaDoor
open Go Go.RowKit

/-- not before the span's arcs -/
def SpanC.geA (X : SpanC) (a : ArcP) : Bool := decide (X.fr < a.f) || (a.f == X.fr && decide (X.to ≤ a.t))

set_option maxHeartbeats 2000000 in
theorem arcs1_any (X : SpanC) (m : Mem) (best : List Vl) (fin : List Bool) (i : Nat) {a : ArcP} (ha : X.L.arcs[i]? = some a) (B : Bds X) (bx : Nat) (w : World) (hW : SpW w X m best fin) (hx : Blk w bx 83 #[PB m.S]) :
    Calls Tryd.prog 67 #[I i, PB bx] w fun e w' => e = .returned (.bool (X.geA a)) ∧ Below w.heap.size w w' := by
  have hil := (List.getElem?_eq_some_iff.1 ha).1
  have hal := B.al
  have r := hW.rec_
  have c5 := r.cell 5
  have x0 := hx.cell 0
  simp [recC] at c5 x0
  obtain ⟨b, off, oa, on_, oc, hA, h0, h1, h2, h3, h4⟩ := hW.args.arcs i a ha
  rw [hA] at c5
  have hb0 : Below w.heap.size w (w.alloc (Obj.cells #[I a.f, I a.t, I a.m, I a.c, .slice oa on_ oc] 68)) := (Below.refl _ _).alloc (Nat.le_refl _) _
  have hB := Blk.new w 68 #[I a.f, I a.t, I a.m, I a.c, .slice oa on_ oc]
  have l0 := fun y : LW (w.alloc (Obj.cells #[I a.f, I a.t, I a.m, I a.c, .slice oa on_ oc] 68)) => y.cell (hB.cell 0)
  have l1 := fun y : LW (w.alloc (Obj.cells #[I a.f, I a.t, I a.m, I a.c, .slice oa on_ oc] 68)) => y.cell (hB.cell 1)
  have l2 := fun y : LW (w.alloc (Obj.cells #[I a.f, I a.t, I a.m, I a.c, .slice oa on_ oc] 68)) => y.cell ((r.alloc _).cell 10)
  have l3 := fun y : LW (w.alloc (Obj.cells #[I a.f, I a.t, I a.m, I a.c, .slice oa on_ oc] 68)) => y.cell ((r.alloc _).cell 11)
  have l4 := fun y : LW (w.alloc (Obj.cells #[I a.f, I a.t, I a.m, I a.c, .slice oa on_ oc] 68)) => y.cell ((hx.alloc _).cell 0)
  simp [recC] at l0 l1 l2 l3 l4
  have n1 := r.lt
  have HB0 := hide hb0
  obtain ⟨af, at_, am, ac⟩ := a
  have hc : X.fr < af ∨ (af = X.fr ∧ X.to ≤ at_) ∨ (af = X.fr ∧ at_ < X.to) ∨ af < X.fr := by omega
  clear hW hx r hB hb0 ha hA B
  simp only at h0 h1 h2 h3 h4 l0 l1 hc HB0 l2 l3 l4
  rcases hc with hc | ⟨rfl, hc⟩ | ⟨rfl, hc⟩ | hc
  · have hd : decide (X.fr < af) = true := by simpa using hc
    have HG := hide (show X.geA ⟨af, at_, am, ac⟩ = true by simp [SpanC.geA, hc])
    go_enter Tryd.func67, Tryd.ntmps67
    go_wp2_with fail
    refine wp_region_later (by kernel_rfl) (by kernel_rfl) ?_
    repeat (go_big_quiet_step (fail))
    refine wpQuiet_nil ?_
    rintro W1 ⟨⟨_, hW1⟩, rfl⟩
    go_wp2
    go_ret
    exact ⟨by rw [HG.out]; rfl, HB0.out.trans (hW1.mono HB0.out.size)⟩
  · have HG := hide (show X.geA ⟨X.fr, at_, am, ac⟩ = true by simp [SpanC.geA, hc])
    have hd : decide (X.to ≤ at_) = true := by simpa using hc
    go_enter Tryd.func67, Tryd.ntmps67
    go_wp2_with fail
    refine wp_region_later (by kernel_rfl) (by kernel_rfl) ?_
    repeat (go_big_quiet_step (fail))
    refine wpQuiet_nil ?_
    rintro W1 ⟨⟨_, hW1⟩, rfl⟩
    go_wp2
    go_ret
    exact ⟨by rw [HG.out]; rfl, HB0.out.trans (hW1.mono HB0.out.size)⟩
  · have HG := hide (show X.geA ⟨X.fr, at_, am, ac⟩ = false by simp [SpanC.geA]; omega)
    have hd : decide (X.to ≤ at_) = false := by simp; omega
    go_enter Tryd.func67, Tryd.ntmps67
    go_wp2_with fail
    refine wp_region_later (by kernel_rfl) (by kernel_rfl) ?_
    repeat (go_big_quiet_step (fail))
    refine wpQuiet_nil ?_
    rintro W1 ⟨⟨_, hW1⟩, rfl⟩
    go_wp2
    go_ret
    exact ⟨by rw [HG.out]; rfl, HB0.out.trans (hW1.mono HB0.out.size)⟩
  · have HG := hide (show X.geA ⟨af, at_, am, ac⟩ = false by simp [SpanC.geA]; omega)
    have hd : decide (X.fr < af) = false := by simp; omega
    have hd2 : (af == X.fr) = false := by simp; omega
    go_enter Tryd.func67, Tryd.ntmps67
    go_wp2_with fail
    refine wp_region_later (by kernel_rfl) (by kernel_rfl) ?_
    repeat (go_big_quiet_step (fail))
    refine wpQuiet_nil ?_
    rintro W1 ⟨⟨_, hW1⟩, rfl⟩
    go_wp2
    go_ret
    exact ⟨by rw [HG.out]; rfl, HB0.out.trans (hW1.mono HB0.out.size)⟩

abbrev arcF (bx : Nat) : Value := .func (.func 67) #[] #[PB bx]
/-- the first arc that is not before the span -/
def SpanC.LoA (X : SpanC) (k : Nat) : Prop := k ≤ X.L.arcs.length ∧ (∀ (j : Nat) a, j < k → X.L.arcs[j]? = some a → X.geA a = false) ∧ (∀ (j : Nat) a, k ≤ j → X.L.arcs[j]? = some a → X.geA a = true)
theorem geA_mono {X : SpanC} (B : Bds X) {i j : Nat} {a b : ArcP} (hij : i ≤ j) (ha : X.L.arcs[i]? = some a) (hb : X.L.arcs[j]? = some b) (h : X.geA a = true) : X.geA b = true := by
  by_cases he : i = j
  · subst he; rw [ha] at hb; injection hb with hb; subst hb; exact h
  · obtain ⟨hl, e1⟩ := List.getElem?_eq_some_iff.1 ha
    obtain ⟨hl2, e2⟩ := List.getElem?_eq_some_iff.1 hb
    have := List.pairwise_iff_getElem.1 B.as_ i j hl hl2 (by omega)
    rw [e1, e2] at this
    simp only [SpanC.geA, Bool.or_eq_true, decide_eq_true_eq, Bool.and_eq_true, beq_iff_eq] at *
    unfold arcLt at this
    omega

set_option maxHeartbeats 2000000 in
theorem search_any (X : SpanC) (m : Mem) (best : List Vl) (fin : List Bool) (B : Bds X) (bx : Nat) (w : World) (hW : SpW w X m best fin) (hx : Blk w bx 83 #[PB m.S]) :
    Calls Tryd.prog 66 #[I (X.L.arcs.length : Int), arcF bx] w fun e w' => (∃ k : Nat, e = .returned (I k) ∧ X.LoA k) ∧ Below w.heap.size w w' := by
  have hal := B.al
  have HC := hide (fun (i : Nat) (a : ArcP) (ha : X.L.arcs[i]? = some a) (W : World) (hb : Below w.heap.size w W) => arcs1_any X m best fin i ha B bx W (hW.below hb) (hx.below hb hx.lt))
  have HB := hide B
  clear hW hx B
  go_enter Tryd.func66, Tryd.ntmps66
  go_wp2_with fail
  go_loopw [5, 6] (fun s5 s6 wr => ∃ i j : Nat, s5 = .int .i64 i ∧ s6 = .int .i64 j ∧ i ≤ j ∧ j ≤ X.L.arcs.length ∧ (∀ (q : Nat) a, q < i → X.L.arcs[q]? = some a → X.geA a = false) ∧ (∀ (q : Nat) a, j ≤ q → X.L.arcs[q]? = some a → X.geA a = true) ∧ Below w.heap.size w wr) (fun s5 s6 _ => (intOf s6).toNat - (intOf s5).toNat)
  case atStart => exact ⟨0, X.L.arcs.length, rfl, rfl, by omega, by omega, fun q a h => by omega, fun q a h ha => by have := (List.getElem?_eq_some_iff.1 ha).1; omega, Below.refl _ _⟩
  case round =>
    obtain ⟨i, j, rfl, rfl, hij, hj, hlo, hhi, hb⟩ := hrel
    have HLO := hide hlo
    have HHI := hide hhi
    have HBL := hide hb
    clear hlo hhi hb
    have hcs : (i : Int) < j ∨ (j : Int) ≤ i := by omega
    rcases hcs with hcs | hcs
    · obtain ⟨a, ha⟩ : ∃ a, X.L.arcs[(i + j) / 2]? = some a := ⟨_, List.getElem?_eq_getElem (by omega)⟩
      have hlt : (i + j) / 2 < X.L.arcs.length := by omega
      have hce : (((i + j) / 2 : Nat) : Int) = ((i : Int) + j) / 2 := by omega
      have C1 := HC.out _ a ha wr HBL.out
      rw [hce] at C1
      rcases hg : X.geA a with _ | _
      · rw [hg] at C1
        have C1 := hide C1
        have HN := hide (show ∀ (q : Nat) b, q < (i + j) / 2 + 1 → X.L.arcs[q]? = some b → X.geA b = false from fun q b hq hb => by
          rcases hgb : X.geA b with _ | _
          · rfl
          · rw [geA_mono HB.out (by omega) hb ha hgb] at hg; cases hg)
        have HCE := hide hce
        clear hg ha hce
        go_wp2_with (go_at_call 67; refine C1.out.mono ?_; rintro e w1 ⟨rfl, hw1⟩)
        go_roundw
        case rel => exact ⟨(i + j) / 2 + 1, j, by rw [← HCE.out]; rfl, rfl, by omega, hj, HN.out, HHI.out, HBL.out.trans (hw1.mono HBL.out.size)⟩
        case measure => simp [intOf]; omega
      · rw [hg] at C1
        have C1 := hide C1
        have HN := hide (show ∀ (q : Nat) b, (i + j) / 2 ≤ q → X.L.arcs[q]? = some b → X.geA b = true from fun q b hq hb => geA_mono HB.out hq ha hb hg)
        have HCE := hide hce
        clear hg ha hce
        go_wp2_with (go_at_call 67; refine C1.out.mono ?_; rintro e w1 ⟨rfl, hw1⟩)
        go_roundw
        case rel => exact ⟨i, (i + j) / 2, rfl, by rw [← HCE.out], by omega, by omega, HLO.out, HN.out, HBL.out.trans (hw1.mono HBL.out.size)⟩
        case measure => simp [intOf]; omega
    · obtain rfl : i = j := by omega
      go_wp2
      go_ret
      exact ⟨⟨i, rfl, hj, HLO.out, HHI.out⟩, HBL.out⟩

/-- the span's arcs lie from lo to hi -/
structure SpanC.Arcs (X : SpanC) (lo hi : Nat) : Prop where
  le : lo ≤ hi
  hle : hi ≤ X.L.arcs.length
  in_ : ∀ (j : Nat) a, lo ≤ j → j < hi → X.L.arcs[j]? = some a → a.f = X.fr ∧ a.t = X.to
  out : ∀ (j : Nat) a, (j < lo ∨ hi ≤ j) → X.L.arcs[j]? = some a → ¬ (a.f = X.fr ∧ a.t = X.to)
theorem Arcs_of {X : SpanC} (B : Bds X) {lo hi : Nat} (h : X.LoA lo) (h1 : lo ≤ hi) (h2 : hi ≤ X.L.arcs.length) (h3 : ∀ (j : Nat) a, lo ≤ j → j < hi → X.L.arcs[j]? = some a → a.f = X.fr ∧ a.t = X.to)
    (h4 : ∀ a, X.L.arcs[hi]? = some a → ¬ (a.f = X.fr ∧ a.t = X.to)) : X.Arcs lo hi := by
  refine ⟨h1, h2, h3, ?_⟩
  rintro j a (hj | hj) ha ⟨e1, e2⟩
  · have := h.2.1 j a hj ha
    simp [SpanC.geA, e1, e2] at this
  · obtain ⟨hl, e⟩ := List.getElem?_eq_some_iff.1 ha
    have hh : hi < X.L.arcs.length := by omega
    obtain ⟨b, hb⟩ : ∃ b, X.L.arcs[hi]? = some b := ⟨_, List.getElem?_eq_getElem hh⟩
    have g1 := h.2.2 hi b h1 hb
    have hn := h4 b hb
    by_cases hjh : j = hi
    · subst hjh; rw [ha] at hb; injection hb with hb; subst hb; exact hn ⟨e1, e2⟩
    · have e' := (List.getElem?_eq_some_iff.1 hb).2
      have := List.pairwise_iff_getElem.1 B.as_ hi j hh hl (by omega)
      rw [e, e'] at this
      unfold arcLt at this
      simp [SpanC.geA] at g1
      omega

def ArcsPost (X : SpanC) (w : World) (e : Ending) (w' : World) : Prop := (∃ lo hi : Nat, e = .returned (.tuple #[I lo, I hi]) ∧ X.Arcs lo hi) ∧ Below w.heap.size w w'
set_option maxHeartbeats 2000000 in
theorem arcs_any (X : SpanC) (m : Mem) (best : List Vl) (fin : List Bool) (B : Bds X) (w : World) (hW : SpW w X m best fin) :
    Calls Tryd.prog 56 #[PB m.S] w (ArcsPost X w) := by
  have hal := B.al
  have hb0 : Below w.heap.size w (w.alloc (Obj.cells #[PB m.S] 83)) := (Below.refl _ _).alloc (Nat.le_refl _) _
  have hbx := Blk.new w 83 #[PB m.S]
  have c5 := hW.rec_.cell 5
  simp [recC] at c5
  have n1 := hW.rec_.lt
  have CS := hide (search_any X m best fin B w.heap.size _ (hW.below hb0) hbx)
  have HB0 := hide hb0
  have HBX := hide hbx
  have HW := hide hW
  have HB := hide B
  clear hW hb0 hbx B
  go_enter Tryd.func56, Tryd.ntmps56
  go_wp2_with (go_at_call 66; refine CS.out.mono ?_; rintro e w1 ⟨⟨lo, rfl, hlo⟩, hw1⟩; have HLO := hide hlo; have HW1 := hide (HB0.out.trans (hw1.mono HB0.out.size)); have HBX1 := hide (HBX.out.below hw1 HBX.out.lt); clear hlo hw1)
  go_loopw [5] (fun s5 wr => ∃ k : Nat, s5 = .int .i64 k ∧ lo ≤ k ∧ k ≤ X.L.arcs.length ∧ (∀ (j : Nat) a, lo ≤ j → j < k → X.L.arcs[j]? = some a → a.f = X.fr ∧ a.t = X.to) ∧ Below w.heap.size w wr ∧ Blk wr w.heap.size 83 #[PB m.S]) (fun s5 _ => X.L.arcs.length - (intOf s5).toNat)
  case atStart => exact ⟨lo, rfl, by omega, HLO.out.1, fun j a h1 h2 => by omega, HW1.out, HBX1.out⟩
  case round =>
    obtain ⟨k, rfl, hk1, hk2, hin, hb, hbx⟩ := hrel
    have HIN := hide hin
    have HBW := hide hb
    have HBXW := hide hbx
    have hW := HW.out.below hb
    have r := hW.rec_
    have c5 := r.cell 5
    have l2 := fun y : LW wr => y.cell (r.cell 10)
    have l3 := fun y : LW wr => y.cell (r.cell 11)
    have l4 := fun y : LW wr => y.cell (hbx.cell 0)
    have l5 := fun y : LW wr => y.cell (r.cell 5)
    simp [recC] at l2 l3 l4 l5 c5
    have hcs : (k : Int) < X.L.arcs.length ∨ (X.L.arcs.length : Int) ≤ k := by omega
    rcases hcs with hcs | hcs
    · obtain ⟨a, ha⟩ : ∃ a, X.L.arcs[k]? = some a := ⟨_, List.getElem?_eq_getElem (by omega)⟩
      obtain ⟨b, off, oa, on_, oc, hA, h0, h1, h2, h3, h4⟩ := hW.args.arcs k a ha
      rw [hA] at c5 l5
      have l6 := fun y : LW wr => y.cell h0
      have l7 := fun y : LW wr => y.cell h1
      have hd : decide ((k : Int) < X.L.arcs.length) = true := by simpa using hcs
      have hcc : (a.f = X.fr ∧ a.t = X.to) ∨ (a.f = X.fr ∧ a.t ≠ X.to) ∨ a.f ≠ X.fr := by omega
      have HA := hide ha
      obtain ⟨af, at_, am, ac⟩ := a
      simp only at l6 l7 hcc h0 h1 h2 h3
      clear hW r hin hb hbx ha hA h0 h1 h2 h3 h4
      rcases hcc with ⟨rfl, rfl⟩ | ⟨rfl, hc⟩ | hc
      · go_wp2_with fail
        refine wp_region_later (by kernel_rfl) (by kernel_rfl) ?_
        repeat (go_big_quiet_step (fail))
        refine wpQuiet_nil ?_
        rintro W1 ⟨⟨_, hW1⟩, rfl⟩
        have HWW := hide hW1
        clear hW1
        go_wp2_with fail
        go_roundw
        case rel => exact ⟨k + 1, rfl, by omega, by omega, (fun j b h1 h2 hb => by
            by_cases hj : j = k
            · subst hj; rw [HA.out] at hb; injection hb with hb; subst hb; exact ⟨rfl, rfl⟩
            · exact HIN.out j b h1 (by omega) hb), HBW.out.trans (HWW.out.mono HBW.out.size), HBXW.out.below HWW.out HBXW.out.lt⟩
        case measure => simp [intOf]; omega
      · have hd2 : (at_ == X.to) = false := by simpa using hc
        have HE := hide (Arcs_of HB.out HLO.out hk1 hk2 HIN.out (fun b hb => by rw [HA.out] at hb; injection hb with hb; subst hb; exact fun h => hc h.2))
        go_wp2_with fail
        refine wp_region_later (by kernel_rfl) (by kernel_rfl) ?_
        repeat (go_big_quiet_step (fail))
        refine wpQuiet_nil ?_
        rintro W1 ⟨⟨_, hW1⟩, rfl⟩
        go_wp2
        go_ret2
        exact ⟨⟨lo, k, rfl, HE.out⟩, HBW.out.trans (hW1.mono HBW.out.size)⟩
      · have hd2 : (af == X.fr) = false := by simpa using hc
        have HE := hide (Arcs_of HB.out HLO.out hk1 hk2 HIN.out (fun b hb => by rw [HA.out] at hb; injection hb with hb; subst hb; exact fun h => hc h.1))
        go_wp2_with fail
        refine wp_region_later (by kernel_rfl) (by kernel_rfl) ?_
        repeat (go_big_quiet_step (fail))
        refine wpQuiet_nil ?_
        rintro W1 ⟨⟨_, hW1⟩, rfl⟩
        go_wp2
        go_ret2
        exact ⟨⟨lo, k, rfl, HE.out⟩, HBW.out.trans (hW1.mono HBW.out.size)⟩
    · have HE := hide (Arcs_of HB.out HLO.out hk1 hk2 HIN.out (fun b hb => by have := (List.getElem?_eq_some_iff.1 hb).1; omega))
      have hd : decide ((k : Int) < X.L.arcs.length) = false := by simp; omega
      have hd1 : decide (k < X.L.arcs.length) = false := by simp; omega
      clear hW r hin hb hbx
      go_wp2_with fail
      refine wp_region_later (by kernel_rfl) (by kernel_rfl) ?_
      repeat (go_big_quiet_step (fail))
      refine wpQuiet_nil ?_
      rintro W1 ⟨⟨_, hW1⟩, rfl⟩
      go_wp2
      go_ret2
      exact ⟨⟨lo, k, rfl, HE.out⟩, HBW.out.trans (hW1.mono HBW.out.size)⟩
end Go.Proofs.YtnifpeamgoapmaaDoor
/- instances: what is asked of the function that it calls. -/
namespace Go.Proofs.YtnifpeamgoapmaaDoor
open Go Go.RowKit

/-- what one call of the function does -/
def Done (Inv : Nat → World → Prop) (Stop : World → Prop) (k : Nat) (W : World) (e : Ending) (w' : World) : Prop :=
  ∃ b, e = .returned (.bool b) ∧ (b = true → Inv (k + 1) w') ∧ (b = false → Stop w') ∧ (∀ g cs, Blk W g 65 cs → Blk w' g 65 cs)
theorem Done.or {Inv : Nat → World → Prop} {Stop : World → Prop} {k : Nat} {w' : World} {b : Bool} (h1 : b = true → Inv (k + 1) w') (h2 : b = false → Stop w') : Inv (k + 1) w' ∨ Stop w' := by
  cases b
  · exact .inr (h2 rfl)
  · exact .inl (h1 rfl)
/-- a function that takes the instances of l one by one -/
structure Doer (X : SpanC) (m : Mem) (F : Nat) (caps : Array Value) (l : List Inst) (Inv : Nat → World → Prop) (Stop : World → Prop) : Prop where
  below : ∀ k W W', Inv k W → Below W.heap.size W W' → Inv k W'
  sp : ∀ k W, Inv k W → ∃ best fin, SpW W X m best fin
  sps : ∀ W, Stop W → ∃ best fin, SpW W X m best fin
  step : ∀ (k : Nat) (i : Inst), l[k]? = some i → ∀ W A c, Inv k W → Rd W A i.u.length 3 (icells i.u) → Calls Tryd.prog F (#[I i.a, I i.p, .slice A i.u.length c] ++ caps) W (Done Inv Stop k W)
abbrev RuleA (r : NRule) : Value := .agg #[I r.k, I r.h, I r.a, I r.b, I r.p, I r.o]
abbrev ruleC (r : NRule) : Array Value := #[I r.k, I r.h, I r.a, I r.b, I r.p, I r.o]
/-- the whole of instances -/
def Took (Inv : Nat → World → Prop) (Stop : World → Prop) (n : Nat) (e : Ending) (w' : World) : Prop := e = .returned (.tuple #[]) ∧ (Inv n w' ∨ Stop w')
/-- the record's cells and the rule's, in a world -/
theorem SpW.ends {w : World} {X : SpanC} {m : Mem} {best : List Vl} {fin : List Bool} (h : SpW w X m best fin) : w.cell? ⟨m.S, 10, none⟩ = some (I X.fr) ∧ w.cell? ⟨m.S, 11, none⟩ = some (I X.to) ∧ w.cell? ⟨m.S, 5, none⟩ = some (.slice m.AA X.L.arcs.length m.ac) := by
  refine ⟨?_, ?_, ?_⟩
  · have := h.rec_.cell 10; simpa [recC] using this
  · have := h.rec_.cell 11; simpa [recC] using this
  · have := h.rec_.cell 5; simpa [recC] using this
theorem Blk.rule {w : World} {g : Nat} {r : NRule} (h : Blk w g 65 (ruleC r)) : w.cell? ⟨g, 1, none⟩ = some (I r.h) ∧ w.cell? ⟨g, 2, none⟩ = some (I r.a) ∧ w.cell? ⟨g, 3, none⟩ = some (I r.b) ∧ w.cell? ⟨g, 4, none⟩ = some (I r.p) := by
  refine ⟨?_, ?_, ?_, ?_⟩
  · have := h.cell 1; simpa using this
  · have := h.cell 2; simpa using this
  · have := h.cell 3; simpa using this
  · have := h.cell 4; simpa using this
theorem drew_alloc_below (W : World) (o : Obj) : Below W.heap.size W (W.drew.alloc o) := ((Below.refl W.heap.size W).drew).alloc (show W.heap.size ≤ W.drew.heap.size from Nat.le_refl _) o
theorem Blk.newd (W : World) (t : TypeId) (cs : Array Value) : Blk (W.drew.alloc (.cells cs t)) W.heap.size t cs := Blk.new W.drew t cs
theorem Blk.newd1 (w : World) (o : Obj) (t : TypeId) (cs : Array Value) : Blk ((w.alloc o).drew.alloc (.cells cs t)) (w.heap.size + 1) t cs := by
  have := Blk.newd (w.alloc o) t cs
  rwa [World.size_alloc] at this
theorem Rd.of_blk {w : World} {g n c sz : Nat} {t : TypeId} {xs : List Value} (h : Blk w g t xs.toArray) (hl : xs.length = n * sz) : Rd w (some ⟨g, 0, none⟩) n sz xs := by
  refine ⟨hl, fun _ => ⟨g, 0, rfl, fun j u hj => ?_⟩⟩
  rw [Nat.zero_add, h.cell]
  simpa using hj
theorem SpW.arc {w : World} {X : SpanC} {m : Mem} {best : List Vl} {fin : List Bool} (h : SpW w X m best fin) {b off : Nat} (hA : m.AA = some ⟨b, off, none⟩) {i : Nat} {a : ArcP} (ha : X.L.arcs[i]? = some a) :
    w.cell? ⟨b, off + i * 5 + 2, none⟩ = some (I a.m) ∧ w.cell? ⟨b, off + i * 5 + 3, none⟩ = some (I a.c) := by
  obtain ⟨b', off', oa, on_, oc, e, h0, h1, h2, h3, h4⟩ := h.args.arcs i a ha
  rw [hA] at e
  injection e with e
  injection e with e1 e2
  subst e1 e2
  exact ⟨h2, h3⟩
end Go.Proofs.YtnifpeamgoapmaaDoor
