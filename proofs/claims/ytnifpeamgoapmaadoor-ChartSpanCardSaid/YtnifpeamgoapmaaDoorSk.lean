/- instances -/
import Derived.Test.YtnifpeamgoapmaaDoorM8
import Derived.Test.YtnifpeamgoapmaaDoorM2
set_option linter.unusedVariables false
set_option linter.unusedSimpArgs false
namespace Go.Proofs.YtnifpeamgoapmaaDoor
open Go Go.RowKit

set_option maxHeartbeats 4000000 in
theorem inst1_46 (X : SpanC) (m : Mem) (c1 c2 : Value) (r : NRule) (Inv : Nat → World → Prop) (Stop : World → Prop) (w : World) (hr : r.k = 1) (hD : Doer X m 46 #[c1, c2] (X.insts r) Inv Stop) (hI : Inv 0 w) :
    Calls Tryd.prog 45 #[PB m.S, RuleA r, .func (.func 46) #[] #[c1, c2]] w (Took Inv Stop (X.insts r).length) := by
  have hb0 : Below w.heap.size w (w.alloc (Obj.cells (ruleC r) 65)) := (Below.refl _ _).alloc (Nat.le_refl _) _
  have hI0 := hD.below 0 w _ hI hb0
  obtain ⟨best, fin, hW⟩ := hD.sp _ _ hI0
  obtain ⟨s10, s11, s5⟩ := hW.ends
  have hB := Blk.new w 65 (ruleC r)
  have HB := hide hB
  obtain ⟨rk, rh, ra, rb, rp, ro⟩ := r
  simp only at hr
  subst hr
  have l1 := fun y : LW (w.alloc (Obj.cells (ruleC ⟨1, rh, ra, rb, rp, ro⟩) 65)) => y.cell s10
  have l2 := fun y : LW (w.alloc (Obj.cells (ruleC ⟨1, rh, ra, rb, rp, ro⟩) 65)) => y.cell s11
  by_cases hft : X.fr = X.to
  · have hl : X.insts ⟨1, rh, ra, rb, rp, ro⟩ = [⟨X.fr, rp, []⟩] := by simp [SpanC.insts, hft]
    rw [hl] at hD ⊢
    have CD := hide (fun W (hW : Below (w.alloc (Obj.cells (ruleC ⟨1, rh, ra, rb, rp, ro⟩) 65)).heap.size (w.alloc (Obj.cells (ruleC ⟨1, rh, ra, rb, rp, ro⟩) 65)) W) => show Calls Tryd.prog 46 (#[I X.fr, I rp, .slice none 0 0, c1, c2]) W (Done Inv Stop 0 W) from hD.step 0 _ rfl W none 0 (hD.below _ _ _ hI0 hW) ⟨rfl, fun h => absurd h (by simp)⟩)
    have he : (X.fr == X.to) = true := by simp [hft]
    clear hD hI hI0 hW hb0 hB hl hft
    go_enter Tryd.func45, Tryd.ntmps45
    go_wp2_with fail
    refine wp_region_later (by kernel_rfl) (by kernel_rfl) ?_
    repeat (go_big_quiet_step (fail))
    refine wpQuiet_nil ?_
    rintro W1 ⟨⟨_, hW1⟩, rfl⟩
    have q1 := cell_below hW1 s10
    obtain ⟨r1, r2, r3, r4⟩ := (HB.out.below hW1 HB.out.lt).rule
    have CE := hide (CD.out W1.drew hW1.drew)
    clear l1 l2 s10 s11 s5 hW1
    go_wp2_with fail
    (refine wp_region_prefix 7 (by kernel_rfl) (by kernel_rfl) ?_; simp only [List.take_succ_cons, List.take_zero, List.drop_succ_cons, List.drop_zero]; (repeat (go_big_quiet_step (fail))); refine wpQuiet_nil ?_)
    go_wp2_with (go_at_call 46; refine CE.out.mono ?_; rintro e w2 ⟨b, rfl, hd1, hd2, hd3⟩)
    go_end0
    exact ⟨rfl, Done.or hd1 hd2⟩
  · have hl : X.insts ⟨1, rh, ra, rb, rp, ro⟩ = [] := by simp [SpanC.insts, hft]
    have HI := hide (fun W (hW : Below (w.alloc (Obj.cells (ruleC ⟨1, rh, ra, rb, rp, ro⟩) 65)).heap.size (w.alloc (Obj.cells (ruleC ⟨1, rh, ra, rb, rp, ro⟩) 65)) W) => hD.below _ _ _ hI0 hW)
    rw [hl]
    have he : (X.fr == X.to) = false := by simp [hft]
    clear hD hI hI0 hW hb0 hB hl hft
    go_enter Tryd.func45, Tryd.ntmps45
    go_wp2_with fail
    refine wp_region_later (by kernel_rfl) (by kernel_rfl) ?_
    repeat (go_big_quiet_step (fail))
    refine wpQuiet_nil ?_
    rintro W1 ⟨⟨_, hW1⟩, rfl⟩
    go_wp2
    go_end0
    exact ⟨rfl, .inl (HI.out _ hW1)⟩

set_option maxHeartbeats 4000000 in
theorem inst3_46 (X : SpanC) (m : Mem) (c1 c2 : Value) (r : NRule) (Inv : Nat → World → Prop) (Stop : World → Prop) (w : World) (hr : r.k = 3) (hD : Doer X m 46 #[c1, c2] (X.insts r) Inv Stop) (hI : Inv 0 w) :
    Calls Tryd.prog 45 #[PB m.S, RuleA r, .func (.func 46) #[] #[c1, c2]] w (Took Inv Stop (X.insts r).length) := by
  have hb0 : Below w.heap.size w (w.alloc (Obj.cells (ruleC r) 65)) := (Below.refl _ _).alloc (Nat.le_refl _) _
  have hI0 := hD.below 0 w _ hI hb0
  obtain ⟨best, fin, hW⟩ := hD.sp _ _ hI0
  obtain ⟨s10, s11, s5⟩ := hW.ends
  have hB := Blk.new w 65 (ruleC r)
  obtain ⟨r1, r2, r3, r4⟩ := hB.rule
  obtain ⟨rk, rh, ra, rb, rp, ro⟩ := r
  simp only at hr
  subst hr
  have hl : X.insts ⟨3, rh, ra, rb, rp, ro⟩ = [⟨X.fr, rp, [⟨ra, X.fr, X.to⟩]⟩] := by simp [SpanC.insts]
  rw [hl] at hD ⊢
  have hb1 : Below (w.alloc (Obj.cells (ruleC ⟨3, rh, ra, rb, rp, ro⟩) 65)).heap.size (w.alloc (Obj.cells (ruleC ⟨3, rh, ra, rb, rp, ro⟩) 65)) ((w.alloc (Obj.cells (ruleC ⟨3, rh, ra, rb, rp, ro⟩) 65)).drew.alloc (Obj.cells #[I ra, I X.fr, I X.to] 61)) :=
    drew_alloc_below _ _
  have hn := Blk.newd1 w (Obj.cells (ruleC ⟨3, rh, ra, rb, rp, ro⟩) 65) 61 #[I ra, I X.fr, I X.to]
  have CD := hide (show Calls Tryd.prog 46 (#[I X.fr, I rp, .slice (some ⟨w.heap.size + 1, 0, none⟩) 1 1, c1, c2]) ((w.alloc (Obj.cells (ruleC ⟨3, rh, ra, rb, rp, ro⟩) 65)).drew.alloc (Obj.cells #[I ra, I X.fr, I X.to] 61)) (Done Inv Stop 0 _) from
    hD.step 0 _ rfl _ (some ⟨w.heap.size + 1, 0, none⟩) 1 (hD.below _ _ _ hI0 hb1) (Rd.of_blk (c := 1) (xs := icells [⟨ra, X.fr, X.to⟩]) hn rfl))
  have HR := hide (show Blk ((w.alloc (Obj.cells (ruleC ⟨3, rh, ra, rb, rp, ro⟩) 65)).drew.alloc (Obj.cells #[I ra, I X.fr, I X.to] 61)) w.heap.size 65 (ruleC ⟨3, rh, ra, rb, rp, ro⟩) from hB.drew.alloc _)
  have HSP := hide hD.sp
  have HSS := hide hD.sps
  have HB1 := hide hb1
  clear hD hI hI0 hW hb0 hB hl hn hb1 s5
  go_enter Tryd.func45, Tryd.ntmps45
  go_wp2_with fail
  go_region_held3 (fun w' => w'.cell? ⟨m.S, 10, none⟩ = some (I X.fr) ∧ w'.cell? ⟨m.S, 11, none⟩ = some (I X.to) ∧ w'.cell? ⟨w.heap.size, 2, none⟩ = some (I ra) ∧ w'.cell? ⟨w.heap.size, 4, none⟩ = some (I rp)) (go_keep)
    ((go_at_call 46; refine CD.out.mono ?_; rintro e w2 ⟨b, rfl, hd1, hd2, hd3⟩; have hor := Done.or hd1 hd2; obtain ⟨be2, fi2, hw2⟩ : ∃ be2 fi2, SpW w2 X m be2 fi2 := hor.elim (HSP.out _ _) (HSS.out _); have z := hw2.ends; have z10 := z.1; have z11 := z.2.1; have zr := (hd3 _ _ HR.out).rule; have z2 := zr.2.1; have z4 := zr.2.2.2; have HOR := hide hor; clear hd1 hd2 hd3 hor hw2 z zr))
  go_wp2
  go_end0
  exact ⟨rfl, HOR.out⟩
end Go.Proofs.YtnifpeamgoapmaaDoor
