/- instances -/
import Derived.Test.YtnifpeamgoapmaaDoorM8
import Derived.Test.YtnifpeamgoapmaaDoorM2
set_option linter.unusedVariables false
set_option linter.unusedSimpArgs false
namespace Go.Proofs.YtnifpeamgoapmaaDoor
open Go Go.RowKit

set_option maxHeartbeats 4000000 in
theorem inst2_46 (X : SpanC) (m : Mem) (c1 c2 : Value) (r : NRule) (Inv : Nat → World → Prop) (Stop : World → Prop) (w : World) (B : Bds X) (hr : r.k = 2) (hp : 0 ≤ r.p ∧ r.p ≤ 1000) (hD : Doer X m 46 #[c1, c2] (X.insts r) Inv Stop) (hI : Inv 0 w) :
    Calls Tryd.prog 45 #[PB m.S, RuleA r, .func (.func 46) #[] #[c1, c2]] w (Took Inv Stop (X.insts r).length) := by
  have hb0 : Below w.heap.size w (w.alloc (Obj.cells (ruleC r) 65)) := (Below.refl _ _).alloc (Nat.le_refl _) _
  have hI0 := hD.below 0 w _ hI hb0
  obtain ⟨best, fin, hW⟩ := hD.sp _ _ hI0
  have hB := Blk.new w 65 (ruleC r)
  have CA := hide (arcs_any X m best fin B _ hW)
  have HI0 := hide hI0
  have HB := hide hB
  have HD := hide hD
  have HBD := hide B
  have hal := B.al
  obtain ⟨rk, rh, ra, rb, rp, ro⟩ := r
  simp only at hr hp
  subst hr
  clear hD hI hI0 hW hb0 hB B
  go_enter Tryd.func45, Tryd.ntmps45
  go_wp2_with (go_at_call 56; refine CA.out.mono ?_; rintro e w1 ⟨⟨lo, hi, rfl, harcs⟩, hw1⟩; have HARC := hide harcs; have HI1 := hide (HD.out.below _ _ _ HI0.out hw1); have HB1 := hide (HB.out.below hw1 HB.out.lt); clear harcs hw1)
  go_loopw [8] (fun s8 wr => ∃ i : Nat, s8 = .int .i64 i ∧ lo ≤ i ∧ i ≤ hi ∧ Inv (X.cnt ⟨2, rh, ra, rb, rp, ro⟩ i) wr ∧ Blk wr w.heap.size 65 (ruleC ⟨2, rh, ra, rb, rp, ro⟩)) (fun s8 _ => 50 - (intOf s8).toNat)
  case atStart => exact ⟨lo, rfl, Nat.le_refl _, HARC.out.le, by
      rw [cnt_lo (fun j a hj ha => by have := HARC.out.out j a (.inl hj) ha; simp [SpanC.arcOK]; intro h1 h2; exact absurd ⟨h1, h2⟩ this)]; exact HI1.out, HB1.out⟩
  case round =>
    obtain ⟨i, rfl, hi1, hi2, hinv, hbk⟩ := hrel
    have HINV := hide hinv
    have hhi := HARC.out.hle
    obtain ⟨be1, fi1, hW⟩ := HD.out.sp _ _ hinv
    obtain ⟨s10, s11, s5⟩ := hW.ends
    obtain ⟨r1, r2, r3, r4⟩ := hbk.rule
    simp only at r1 r2 r3 r4
    have hcs : (i : Int) < hi ∨ (hi : Int) ≤ i := by omega
    rcases hcs with hcs | hcs
    · obtain ⟨a, ha⟩ : ∃ a, X.L.arcs[i]? = some a := ⟨_, List.getElem?_eq_getElem (by omega)⟩
      obtain ⟨b, off, oa, on_, oc, hA, h0, h1, h2, h3, h4⟩ := hW.args.arcs i a ha
      have hin := HARC.out.in_ i a hi1 (by omega) ha
      have hil : i < X.L.arcs.length := (List.getElem?_eq_some_iff.1 ha).1
      obtain ⟨ac0, ac1⟩ := HBD.out.ac a (List.mem_of_getElem? ha)
      unfold Inf at ac1
      rw [hA] at s5
      by_cases hm : a.m = ra
      · obtain ⟨hg, hc1⟩ := cnt_yes (r := ⟨2, rh, ra, rb, rp, ro⟩) rfl ha (show X.arcOK ra a = true by simp [SpanC.arcOK, hin.1, hin.2, hm])
        obtain ⟨af, at_, am, ac⟩ := a
        simp only at hm
        have hm' := hm.symm
        subst hm'
        simp only at h2 h3 ac0 ac1 hg
        have CD := hide (show Calls Tryd.prog 46 (#[I i, I (rp + ac), .slice none 0 0, c1, c2]) wr.drew (Done Inv Stop (X.cnt ⟨2, rh, ra, rb, rp, ro⟩ i) _) from
          HD.out.step _ _ hg _ none 0 (HD.out.below _ _ _ hinv ((Below.refl _ _).drew)) ⟨rfl, fun h => absurd h (by simp)⟩)
        have HAX := hide hA
        have HAA := hide ha
        have HC1 := hide hc1
        have HBK := hide hbk.drew
        have hwr : IntKind.i64.wrap (rp + ac) = rp + ac := IntWalk.i64_in _ (by omega)
        clear hinv hbk hW hg hc1 ha hA h0 h1 h4 hin r1 r3 s10 s11
        go_wp2_with fail
        go_region_held3 (fun w' => w'.cell? ⟨m.S, 5, none⟩ = some (.slice (some ⟨b, off, none⟩) X.L.arcs.length m.ac) ∧ w'.cell? ⟨w.heap.size, 2, none⟩ = some (I ra) ∧ w'.cell? ⟨w.heap.size, 4, none⟩ = some (I rp) ∧
            w'.cell? ⟨b, off + i * 5 + 2, none⟩ = some (I ra) ∧ w'.cell? ⟨b, off + i * 5 + 3, none⟩ = some (I ac)) (go_keep)
          ((go_at_call 46; refine CD.out.mono ?_; rintro e w2 ⟨bb, rfl, hd1, hd2, hd3⟩; have hor := Done.or hd1 hd2; obtain ⟨be2, fi2, hw2⟩ : ∃ be2 fi2, SpW w2 X m be2 fi2 := hor.elim (HD.out.sp _ _) (HD.out.sps _); have z5 := hw2.ends.2.2; rw [HAX.out] at z5; have za := hw2.arc HAX.out HAA.out; have za2 := za.1; have za3 := za.2; have HRB := hide (hd3 _ _ HBK.out); have zr := HRB.out.rule; have z2 := zr.2.1; have z4 := zr.2.2.2; have HD1 := hide hd1; have HD2 := hide hd2; clear hd1 hd2 hd3 hor hw2 zr za))
        rcases bb with _ | _
        · go_wp2
          go_end0
          exact ⟨rfl, .inr (HD2.out (by simp))⟩
        · go_wp2_with fail
          go_roundw
          case rel => exact ⟨i + 1, rfl, by omega, by omega, by rw [HC1.out]; exact HD1.out (by simp), HRB.out⟩
          case measure => simp [intOf]; omega
      · have hc0 := cnt_no (r := ⟨2, rh, ra, rb, rp, ro⟩) ha (show X.arcOK ra a = false by simp [SpanC.arcOK, hm])
        have hd : (a.m == ra) = false := by simp [hm]
        have l1 := fun y : LW wr => y.cell s5
        have l2 := fun y : LW wr => y.cell r2
        have l3 := fun y : LW wr => y.cell h2
        have HC0 := hide hc0
        have HBK := hide hbk
        obtain ⟨af, at_, am, ac⟩ := a
        simp only at h2 h3 ac0 ac1 hd l3
        clear hinv hbk hW hc0 ha hA h0 h1 h2 h3 h4 hin hm r1 r3 r2 r4 s10 s11 s5
        go_wp2_with fail
        refine wp_region_later (by kernel_rfl) (by kernel_rfl) ?_
        repeat (go_big_quiet_step (fail))
        refine wpQuiet_nil ?_
        rintro W1 ⟨⟨_, hW1⟩, rfl⟩
        have HW1 := hide hW1
        clear hW1
        go_wp2_with fail
        go_roundw
        case rel => exact ⟨i + 1, rfl, by omega, by omega, by rw [HC0.out]; exact HD.out.below _ _ _ HINV.out HW1.out, HBK.out.below HW1.out HBK.out.lt⟩
        case measure => simp [intOf]; omega
    · have hdn : i = hi := by omega
      subst hdn
      have HE := hide (cnt_hi (r := ⟨2, rh, ra, rb, rp, ro⟩) rfl (fun j a hj ha => by have := HARC.out.out j a (.inr hj) ha; simp [SpanC.arcOK]; intro h1 h2; exact absurd ⟨h1, h2⟩ this))
      clear hbk hW hinv
      go_wp2
      go_end0
      exact ⟨rfl, .inl (by rw [← HE.out]; exact HINV.out)⟩
end Go.Proofs.YtnifpeamgoapmaaDoor
