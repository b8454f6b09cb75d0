/- instances -/
import Derived.Test.YtnifpeamgoapmaaDoorM8
import Derived.Test.YtnifpeamgoapmaaDoorM2
set_option linter.unusedVariables false
set_option linter.unusedSimpArgs false
namespace Go.Proofs.YtnifpeamgoapmaaDoor
open Go Go.RowKit


set_option maxHeartbeats 4000000 in
theorem inst4_63 (X : SpanC) (m : Mem) (c1 c2 : Value) (r : NRule) (Inv : Nat → World → Prop) (Stop : World → Prop) (w : World) (B : Bds X) (hr : r.k = 4) (hD : Doer X m 63 #[c1, c2] (X.insts r) Inv Stop) (hI : Inv 0 w) :
    Calls Tryd.prog 45 #[PB m.S, RuleA r, .func (.func 63) #[] #[c1, c2]] w (Took Inv Stop (X.insts r).length) := by
  have hb0 : Below w.heap.size w (w.alloc (Obj.cells (ruleC r) 65)) := (Below.refl _ _).alloc (Nat.le_refl _) _
  have hI0 := hD.below 0 w _ hI hb0
  obtain ⟨best, fin, hW⟩ := hD.sp _ _ hI0
  obtain ⟨s10, s11, s5⟩ := hW.ends
  have hB := Blk.new w 65 (ruleC r)
  have HG := hide (inst4_get X r hr)
  have HL := hide (inst4_len X r hr)
  have HI0 := hide hI0
  have HB := hide hB
  have HD := hide hD
  have f0 := B.f0
  have ft := B.ft
  have t1 := B.t1
  obtain ⟨rk, rh, ra, rb, rp, ro⟩ := r
  simp only at hr
  subst hr
  clear hD hI hI0 hW hb0 hB B
  go_enter Tryd.func45, Tryd.ntmps45
  go_wp2_with fail
  go_loopw [9] (fun s9 wr => ∃ d : Nat, s9 = .int .i64 (X.fr + d) ∧ d ≤ (X.to - X.fr + 1).toNat ∧ Inv d wr ∧ Blk wr w.heap.size 65 (ruleC ⟨4, rh, ra, rb, rp, ro⟩)) (fun s9 _ => 20 - (intOf s9).toNat)
  case atStart => exact ⟨0, by simp, Nat.zero_le _, HI0.out, HB.out⟩
  case round =>
    obtain ⟨d, rfl, hd, hinv, hbk⟩ := hrel
    clear s10 s11 s5
    obtain ⟨be1, fi1, hW⟩ := HD.out.sp _ _ hinv
    obtain ⟨s10, s11, s5⟩ := hW.ends
    obtain ⟨r1, r2, r3, r4⟩ := hbk.rule
    simp only at r1 r2 r3 r4
    have HINV := hide hinv
    have HBK := hide hbk
    have hcs : X.fr + d ≤ X.to ∨ X.to < X.fr + d := by omega
    rcases hcs with hcs | hcs
    · have hdn : d < (X.to - X.fr + 1).toNat := by omega
      have hb1 := drew_alloc_below wr (Obj.cells #[I ra, I X.fr, I (X.fr + d), I rb, I (X.fr + d), I X.to] 61)
      have hn := Blk.newd wr 61 #[I ra, I X.fr, I (X.fr + d), I rb, I (X.fr + d), I X.to]
      have CD := hide (show Calls Tryd.prog 63 (#[I (X.fr + d), I rp, .slice (some ⟨wr.heap.size, 0, none⟩) 2 2, c1, c2]) (wr.drew.alloc (Obj.cells #[I ra, I X.fr, I (X.fr + d), I rb, I (X.fr + d), I X.to] 61)) (Done Inv Stop d _) from
        HD.out.step d _ (HG.out d hdn) _ (some ⟨wr.heap.size, 0, none⟩) 2 (HD.out.below _ _ _ hinv hb1) (Rd.of_blk (c := 2) (xs := icells [⟨ra, X.fr, X.fr + d⟩, ⟨rb, X.fr + d, X.to⟩]) hn rfl))
      have HR := hide (show Blk (wr.drew.alloc (Obj.cells #[I ra, I X.fr, I (X.fr + d), I rb, I (X.fr + d), I X.to] 61)) w.heap.size 65 (ruleC ⟨4, rh, ra, rb, rp, ro⟩) from hbk.drew.alloc _)
      have n0 := hW.rec_.lt
      have n1 := hbk.lt
      clear hinv hbk hb1 hn hW s5 r1
      go_wp2_with fail
      go_region_held3 (fun w' => w'.cell? ⟨m.S, 10, none⟩ = some (I X.fr) ∧ w'.cell? ⟨m.S, 11, none⟩ = some (I X.to) ∧ w'.cell? ⟨w.heap.size, 2, none⟩ = some (I ra) ∧ w'.cell? ⟨w.heap.size, 3, none⟩ = some (I rb) ∧ w'.cell? ⟨w.heap.size, 4, none⟩ = some (I rp)) (go_keep)
        ((go_at_call 63; refine CD.out.mono ?_; rintro e w2 ⟨b, rfl, hd1, hd2, hd3⟩; have hor := Done.or hd1 hd2; obtain ⟨be2, fi2, hw2⟩ : ∃ be2 fi2, SpW w2 X m be2 fi2 := hor.elim (HD.out.sp _ _) (HD.out.sps _); have z := hw2.ends; have z10 := z.1; have z11 := z.2.1; have HRB := hide (hd3 _ _ HR.out); have zr := HRB.out.rule; have z2 := zr.2.1; have z3 := zr.2.2.1; have z4 := zr.2.2.2; have HD1 := hide hd1; have HD2 := hide hd2; clear hd1 hd2 hd3 hor hw2 z zr))
      rcases b with _ | _
      · go_wp2
        go_end0
        exact ⟨rfl, .inr (HD2.out (by simp))⟩
      · go_wp2_with fail
        go_roundw
        case rel => exact ⟨d + 1, by rw [show ((d + 1 : Nat) : Int) = (d : Int) + 1 from by omega, Int.add_assoc], by omega, HD1.out (by simp), HRB.out⟩
        case measure => simp [intOf]; omega
    · have hdn : d = (X.to - X.fr + 1).toNat := by omega
      clear hbk hW
      go_wp2
      go_end0
      exact ⟨rfl, .inl (by rw [HL.out, ← hdn]; exact HINV.out)⟩
end Go.Proofs.YtnifpeamgoapmaaDoor
