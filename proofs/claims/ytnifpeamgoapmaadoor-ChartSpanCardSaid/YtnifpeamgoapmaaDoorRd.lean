/- The reference: value. -/
import Derived.Test.YtnifpeamgoapmaaDoorM13
set_option linter.unusedVariables false
set_option linter.unusedSimpArgs false
namespace Go.Proofs.YtnifpeamgoapmaaDoor
open Go Go.RowKit

set_option maxHeartbeats 4000000 in
theorem rvalue_any (X : SpanC) (own : List Cel) (x : Item) (CA O : Option Addr) (cc oc : Nat) (w : World) (B : Bds X) (hC : Rd w CA X.C.cells.length 4 (ccells X.C.cells)) (hO : Rd w O own.length 4 (ccells own)) (hl : own.length = X.N) (hx : X.own x = true → 0 ≤ x.h ∧ x.h < X.G.nN) :
    Calls Tryd.prog 55 #[ChartA X.C.cN X.C.cS CA X.C.cells.length cc, .slice O own.length oc, I X.fr, I X.to, ItemA x.h x.f x.t] w fun e w' => e = .returned (VA (X.val (vals own) x)) ∧ Below w.heap.size w w' := by
  have hb3 : ∀ o1 o2 o3, Below w.heap.size w (((w.alloc o1).alloc o2).alloc o3) := fun o1 o2 o3 => (((Below.refl _ _).alloc (Nat.le_refl _) _).alloc (by simp) _).alloc (by simp; omega) _
  have HB3 := hide hb3
  by_cases ho : x.f = X.fr ∧ x.t = X.to
  · have hown : X.own x = true := by unfold SpanC.own; simp [ho.1, ho.2]
    obtain ⟨h0, h1⟩ := hx hown
    have hN := toN B
    rw [← hN, ← hl] at h1
    obtain ⟨xh, xf, xt⟩ := x
    obtain ⟨rfl, rfl⟩ := ho
    obtain ⟨i, rfl⟩ := Int.eq_ofNat_of_zero_le h0
    simp only at h1
    have hi : i < own.length := by omega
    obtain ⟨ce, hce⟩ : ∃ ce, own[i]? = some ce := ⟨_, List.getElem?_eq_getElem hi⟩
    have HV := hide (show X.val (vals own) ⟨(i : Int), X.fr, X.to⟩ = ce.v by rw [val_own hown]; exact vof_vals hce)
    obtain ⟨b, off, rfl, x0, x1, _, _⟩ := hO.cel i hce
    have y0 := fun o1 o2 o3 => cell_below (hb3 o1 o2 o3) x0
    have y1 := fun o1 o2 o3 => cell_below (hb3 o1 o2 o3) x1
    clear hx hown h0 hN B hb3 x0 x1 hce hC hO hl
    go_enter Tryd.func55, Tryd.ntmps55
    go_wp2
    exact bodyPost_ret (v := VA ce.v) (by simp [results, Tryd.results55, go_sem]) rfl ⟨by rw [HV.out], HB3.out _ _ _⟩
  · have hown : X.own x = false := by
      unfold SpanC.own
      simp
      intro h1 h2
      exact ho ⟨h1, h2⟩
    have HV := hide (val_tab (best := vals own) hown)
    have CA_ := hide (rAt_any X.C.cN X.C.cS x.h x.f x.t CA cc X.C.cells (((w.alloc (Obj.cells #[I X.C.cN, I X.C.cS, .slice CA X.C.cells.length cc] 34)).alloc (Obj.cells #[I x.h, I x.f, I x.t] 61)).alloc (Obj.cells #[I 0, I 0] 45)) (hC.below (hb3 _ _ _)) (by have := B.c1; omega) (by have := B.c2; omega) (by have := B.c3; omega))
    have C1 := CA_.out
    obtain ⟨ce, hce⟩ : ∃ ce, ce = atP X.C.cN X.C.cS X.C.cells x.h x.f x.t := ⟨_, rfl⟩
    rw [← hce] at C1
    have HV := hide (show X.val (vals own) x = ce.v by rw [HV.out]; exact congrArg Cel.v hce.symm)
    delta CelA at C1
    have C1 := hide C1
    have HK := hide (Blk.new3 w (Obj.cells #[I X.C.cN, I X.C.cS, .slice CA X.C.cells.length cc] 34) (Obj.cells #[I x.h, I x.f, I x.t] 61) 45 #[I 0, I 0])
    have F1 := run_field47 (I ce.v.c) (I ce.v.s) (I ce.r) (I ce.a)
    have hc : x.f ≠ X.fr ∨ (x.f = X.fr ∧ x.t ≠ X.to) := by omega
    obtain ⟨xh, xf, xt⟩ := x
    simp only at hc
    clear hx B ho hown hce CA_ hb3 hC hO hl
    rcases hc with hc | ⟨rfl, hc⟩
    all_goals
      go_enter Tryd.func55, Tryd.ntmps55
      go_wp2_with (go_at_call 26; refine C1.out.mono ?_; rintro e w1 ⟨rfl, hw1⟩; have hq := HK.out.below hw1 (by simp); have q0 := hq.cell 0; have q1 := hq.cell 1; have f0 := hq.frozen 0; have f1 := hq.frozen 1; simp at q0 q1; clear hq)
      refine bodyPost_ret (v := VA ce.v) ?_ rfl ⟨by rw [HV.out], ?_⟩
      · simp [results, Tryd.results55, go_sem, q0, q1]
      · exact ((((HB3.out _ _ _).trans (hw1.mono (HB3.out _ _ _).size)).setCell (by simp; omega) _).setCell (by simp; omega) _)
end Go.Proofs.YtnifpeamgoapmaaDoor
