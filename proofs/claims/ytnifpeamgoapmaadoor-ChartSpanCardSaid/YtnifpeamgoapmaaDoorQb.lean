/- The queue's methods: swap. -/
import Derived.Test.YtnifpeamgoapmaaDoorQa
set_option linter.unusedVariables false
set_option linter.unusedSimpArgs false
namespace Go.Proofs.YtnifpeamgoapmaaDoor
open Go Go.RowKit
/-- where the handles stand behind an exchange -/
def fsw (f : Int → Option Int) (a b : Int) (i j : Int) : Int → Option Int := fupd (fupd f b i) a j
set_option maxHeartbeats 400000 in
/-- (q *Queue) swap, two places that differ. -/
theorem swap_ne (q g cap pl i j : Nat) (lf : Value) (nx ck : Int) (es : List Ent) (f : Int → Option Int) (gm : Int → Nat) (w : World) {ei ej : Ent} (hei : es[i]? = some ei) (hej : es[j]? = some ej) (hij : i ≠ j) (hn : es.length ≤ 1000)
    (hQ : QRaw w q pl lf (.slice (some ⟨g, 0, none⟩) es.length cap) es f gm nx ck) {vi vj : Int} (hfi : f ei.h = some vi) (hfj : f ej.h = some vj) :
    Calls Tryd.prog 70 #[PB q, I i, I j] w fun e w' => e = .returned (.tuple #[]) ∧ QRaw w' q pl lf (.slice (some ⟨g, 0, none⟩) es.length cap) (sw es i j) (fsw f ei.h ej.h i j) gm nx ck ∧
      Kp (QF q pl (.slice (some ⟨g, 0, none⟩) es.length cap)) w w' := by
  have hq := hQ.rec_
  have hr : HRow w g cap es := hQ.row
  have hm := hQ.map
  have hil : i < es.length := (List.getElem?_eq_some_iff.1 hei).1
  have hjl : j < es.length := (List.getElem?_eq_some_iff.1 hej).1
  obtain ⟨i0, i1, i2⟩ := hr.cells i hei
  obtain ⟨j0, j1, j2⟩ := hr.cells j hej
  have h1 := hq.cell 1
  have h2 := hq.cell 2
  have hqg := hr.ne_blk hq (by decide)
  have hf : ∀ k, w.frozen? ⟨g, k, none⟩ = false := fun k => hr.frozenAt k
  have hcap := hr.le.1
  simp at h1 h2
  have HR : Hid (HRow w g cap es) := hr
  have HEI : Hid (es[i]? = some ei) := hei
  have HEJ : Hid (es[j]? = some ej) := hej
  clear hei hej
  go_enter Tryd.func70, Tryd.ntmps70
  go_upto_region 1 with fail
  go_cut [] (fun wx => HRow wx g cap (sw es i j) ∧ w.grownBy wx (some g))
  case first =>
    go_region
    go_wp2_with fail
    go_meet
    have h3 := (HR.out.set_ i ej).set_ j ei
    rw [← sw_get es i j HEI.out HEJ.out] at h3
    refine ⟨h3.drew, ?_⟩
    refine only_drew'' ?_
    refine grown_set ?_ _ _
    refine grown_set ?_ _ _
    refine grown_set ?_ _ _
    refine grown_set ?_ _ _
    refine grown_set ?_ _ _
    refine grown_set ?_ _ _
    exact World.grownBy.refl w (some g)
  case rest =>
    obtain ⟨hr1, hg1⟩ := hcut
    have hq1 := hq.grown hg1 (by simpa using hqg)
    have hm1 : IMap wc pl f gm := hm.same (hg1.block pl hm.lt (by simpa using (hr.ne_map hm).symm))
    have hei' := sw_at_i es i j HEI.out HEJ.out
    have hej' := sw_at_j es i j HEI.out HEJ.out
    obtain ⟨i0, i1, i2⟩ := hr1.cells i hei'
    obtain ⟨j0, j1, j2⟩ := hr1.cells j hej'
    have h1 := hq1.cell 1
    have h2 := hq1.cell 2
    simp at h1 h2
    clear hei' hej'
    have hmd : IMap wc.drew pl f gm := hm1.drew
    have e1 := hmd.entry und101 Tryd.underlying3 ej.h hfj
    obtain ⟨w2, s1, g2, hm2⟩ := hmd.put_old (P := Tryd.prog) (t := 101) ej.h i hfj
    have e2 := hm2.entry und101 Tryd.underlying3 ei.h (v := if ei.h = ej.h then i else vi) (by by_cases hh : ei.h = ej.h <;> simp [hh, hfi])
    obtain ⟨w3, s2, g3, hm3⟩ := hm2.put_old (P := Tryd.prog) (t := 101) ei.h j (v0 := if ei.h = ej.h then i else vi) (by by_cases hh : ei.h = ej.h <;> simp [hh, hfi])
    have HM := hide hm3
    have HQ := hide hq1
    have HRR := hide hr1
    have HG := hide (((Kp.refl (QF q pl (.slice (some ⟨g, 0, none⟩) es.length cap)) w).grown hg1 (fun k hk => .inl (QF.row q pl g es.length cap k hk))).drew.grown (g2.trans g3) (fun k hk => .inl (QF.pl q pl _ k hk)))
    have HG3 := hide (g2.trans g3)
    have HQP := hide (hm.ne_blk hq)
    have HRM := hide (hr.ne_map hm)
    clear hm3 hm2 hmd hm1 hm hr hr1 hq hq1 g2 g3 hg1 HR HEI HEJ hQ
    go_wp2
    go_region
    go_end0
    refine ⟨rfl, ⟨HQ.out.drew.grown HG3.out (by simpa using HQP.out), ?_, HM.out⟩, HG.out⟩
    have h4 := HRR.out.drew.grown HG3.out (by simpa using HRM.out)
    have h5 := h4
    unfold HRow at h5
    rw [sw_length] at h5
    rw [sw_length]
    exact h5

set_option maxHeartbeats 400000 in
/-- (q *Queue) swap, the same place twice. -/
theorem swap_self (q g cap pl i : Nat) (lf : Value) (nx ck : Int) (es : List Ent) (f : Int → Option Int) (gm : Int → Nat) (w : World) {ei : Ent} (hei : es[i]? = some ei) (hn : es.length ≤ 1000)
    (hQ : QRaw w q pl lf (.slice (some ⟨g, 0, none⟩) es.length cap) es f gm nx ck) {vi : Int} (hfi : f ei.h = some vi) :
    Calls Tryd.prog 70 #[PB q, I i, I i] w fun e w' => e = .returned (.tuple #[]) ∧ QRaw w' q pl lf (.slice (some ⟨g, 0, none⟩) es.length cap) (sw es i i) (fsw f ei.h ei.h i i) gm nx ck ∧
      Kp (QF q pl (.slice (some ⟨g, 0, none⟩) es.length cap)) w w' := by
  have hq := hQ.rec_
  have hr : HRow w g cap es := hQ.row
  have hm := hQ.map
  have hil : i < es.length := (List.getElem?_eq_some_iff.1 hei).1
  obtain ⟨i0, i1, i2⟩ := hr.cells i hei
  have h1 := hq.cell 1
  have h2 := hq.cell 2
  have hqg := hr.ne_blk hq (by decide)
  have hf : ∀ k, w.frozen? ⟨g, k, none⟩ = false := fun k => hr.frozenAt k
  have hcap := hr.le.1
  simp at h1 h2
  have HR : Hid (HRow w g cap es) := hr
  have HEI : Hid (es[i]? = some ei) := hei
  clear hei
  go_enter Tryd.func70, Tryd.ntmps70
  go_upto_region 1 with fail
  go_cut [] (fun wx => HRow wx g cap (sw es i i) ∧ w.grownBy wx (some g))
  case first =>
    go_region
    go_wp2_with fail
    go_meet
    have h3 := (HR.out.set_ i ei).set_ i ei
    rw [← sw_get es i i HEI.out HEI.out] at h3
    refine ⟨h3.drew, ?_⟩
    refine only_drew'' ?_
    refine grown_set ?_ _ _
    refine grown_set ?_ _ _
    refine grown_set ?_ _ _
    refine grown_set ?_ _ _
    refine grown_set ?_ _ _
    refine grown_set ?_ _ _
    exact World.grownBy.refl w (some g)
  case rest =>
    obtain ⟨hr1, hg1⟩ := hcut
    have hq1 := hq.grown hg1 (by simpa using hqg)
    have hm1 : IMap wc pl f gm := hm.same (hg1.block pl hm.lt (by simpa using (hr.ne_map hm).symm))
    have hei' := sw_at_i es i i HEI.out HEI.out
    obtain ⟨i0, i1, i2⟩ := hr1.cells i hei'
    have h1 := hq1.cell 1
    have h2 := hq1.cell 2
    simp at h1 h2
    clear hei'
    have hmd : IMap wc.drew pl f gm := hm1.drew
    have e1 := hmd.entry und101 Tryd.underlying3 ei.h hfi
    obtain ⟨w2, s1, g2, hm2⟩ := hmd.put_old (P := Tryd.prog) (t := 101) ei.h i hfi
    have e2 := hm2.entry und101 Tryd.underlying3 ei.h (v := i) (by simp)
    obtain ⟨w3, s2, g3, hm3⟩ := hm2.put_old (P := Tryd.prog) (t := 101) ei.h i (v0 := i) (by simp)
    have HM := hide hm3
    have HQ := hide hq1
    have HRR := hide hr1
    have HG := hide (((Kp.refl (QF q pl (.slice (some ⟨g, 0, none⟩) es.length cap)) w).grown hg1 (fun k hk => .inl (QF.row q pl g es.length cap k hk))).drew.grown (g2.trans g3) (fun k hk => .inl (QF.pl q pl _ k hk)))
    have HG3 := hide (g2.trans g3)
    have HQP := hide (hm.ne_blk hq)
    have HRM := hide (hr.ne_map hm)
    clear hm3 hm2 hmd hm1 hm hr hr1 hq hq1 g2 g3 hg1 HR HEI hQ
    go_wp2
    go_region
    go_end0
    refine ⟨rfl, ⟨HQ.out.drew.grown HG3.out (by simpa using HQP.out), ?_, HM.out⟩, HG.out⟩
    have h4 := HRR.out.drew.grown HG3.out (by simpa using HRM.out)
    have h5 := h4
    unfold HRow at h5
    rw [sw_length] at h5
    rw [sw_length]
    exact h5

theorem PlOK.swap {es : List Ent} {f : Int → Option Int} (h : PlOK es f) {i j : Nat} {ei ej : Ent} (hei : es[i]? = some ei) (hej : es[j]? = some ej) : PlOK (sw es i j) (fsw f ei.h ej.h i j) := by
  have si := sw_at_i es i j hei hej
  have sj := sw_at_j es i j hei hej
  have so := fun k h1 h2 => sw_at_other es i j k h1 h2
  have hil : i < es.length := (List.getElem?_eq_some_iff.1 hei).1
  have hjl : j < es.length := (List.getElem?_eq_some_iff.1 hej).1
  refine ⟨fun k e hk => ?_, fun k v hk => ?_⟩
  · by_cases hkj : k = j
    · subst hkj; rw [sj] at hk; injection hk with hk; subst hk; simp [fsw, fupd]
    · by_cases hki : k = i
      · subst hki
        rw [si] at hk; injection hk with hk; subst hk
        have hne : ej.h ≠ ei.h := fun he => hkj (h.inj hej hei he).symm
        simp [fsw, fupd, hne]
      · rw [so k hki hkj] at hk
        have n1 : e.h ≠ ei.h := fun he => hki (h.inj hk hei he)
        have n2 : e.h ≠ ej.h := fun he => hkj (h.inj hk hej he)
        simp [fsw, fupd, n1, n2, h.at_ k e hk]
  · have hp := sw_perm es i j hil hjl
    by_cases h1 : k = ei.h
    · exact ⟨ei, hp.mem_iff.2 (List.mem_of_getElem? hei), h1.symm⟩
    · by_cases h2 : k = ej.h
      · exact ⟨ej, hp.mem_iff.2 (List.mem_of_getElem? hej), h2.symm⟩
      · simp [fsw, fupd, h1, h2] at hk
        obtain ⟨e, he, hh⟩ := h.only k v hk
        exact ⟨e, hp.mem_iff.2 he, hh⟩

/-- The queue as its methods leave it: raw, the places told, the handles old. -/
structure QS (w : World) (q pl : Nat) (lf hv : Value) (es : List Ent) (nx ck : Int) : Prop where
  ex : ∃ f gm, QRaw w q pl lf hv es f gm nx ck ∧ PlOK es f

/-- (q *Queue) swap. -/
theorem swap_any (q pl i j : Nat) (lf hv : Value) (nx ck : Int) (es : List Ent) (w : World) (hi : i < es.length) (hj : j < es.length) (hn : es.length ≤ 1000) (hQ : QS w q pl lf hv es nx ck) :
    Calls Tryd.prog 70 #[PB q, I i, I j] w fun e w' => e = .returned (.tuple #[]) ∧ QS w' q pl lf hv (sw es i j) nx ck ∧ Kp (QF q pl hv) w w' := by
  obtain ⟨f, gm, hR, hP⟩ := hQ.ex
  obtain ⟨g, cap, rfl, hr⟩ := hR.form (by omega)
  obtain ⟨ei, hei⟩ : ∃ e, es[i]? = some e := ⟨_, List.getElem?_eq_getElem hi⟩
  obtain ⟨ej, hej⟩ : ∃ e, es[j]? = some e := ⟨_, List.getElem?_eq_getElem hj⟩
  by_cases hij : i = j
  · subst hij
    rw [hei] at hej; injection hej with hej; subst hej
    exact (swap_self q g cap pl i lf nx ck es f gm w hei hn hR (hP.at_ i ei hei)).mono fun e w' ⟨h1, h2, h3⟩ => ⟨h1, ⟨_, _, h2, hP.swap hei hei⟩, h3⟩
  · exact (swap_ne q g cap pl i j lf nx ck es f gm w hei hej hij hn hR (hP.at_ i ei hei) (hP.at_ j ej hej)).mono fun e w' ⟨h1, h2, h3⟩ => ⟨h1, ⟨_, _, h2, hP.swap hei hej⟩, h3⟩
end Go.Proofs.YtnifpeamgoapmaaDoor
