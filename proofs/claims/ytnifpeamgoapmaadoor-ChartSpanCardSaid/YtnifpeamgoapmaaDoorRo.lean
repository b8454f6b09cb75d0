/- Before, Few. -/
import Derived.Test.YtnifpeamgoapmaaDoorM12
import Derived.Test.YtnifpeamgoapmaaDoorRd
set_option linter.unusedVariables false
set_option linter.unusedSimpArgs false
namespace Go.Proofs.YtnifpeamgoapmaaDoor
open Go Go.RowKit

abbrev ArcA (a : ArcP) (oa : Option Addr) (on_ oc : Nat) : Value := .agg #[I a.f, I a.t, I a.m, I a.c, .slice oa on_ oc]
def arcB (a b : ArcP) : Bool := decide (a.f < b.f) || ((a.f == b.f) && (decide (a.t < b.t) || ((a.t == b.t) && decide (a.m < b.m))))
theorem arcB_iff (a b : ArcP) : arcB a b = true ↔ arcLt a b := by
  unfold arcB arcLt
  simp
set_option maxHeartbeats 4000000 in
/-- Before -/
theorem rbefore_any (a b : ArcP) (oa ob : Option Addr) (na ca nb cb : Nat) (w : World) :
    Calls Tryd.prog 52 #[ArcA a oa na ca, ArcA b ob nb cb] w fun e w' => e = .returned (.bool (arcB a b)) ∧ Below w.heap.size w w' := by
  have HB := hide (show ∀ o1 o2, Below w.heap.size w ((w.alloc o1).alloc o2) from fun o1 o2 => ((Below.refl _ _).alloc (Nat.le_refl _) _).alloc (by simp) _)
  have hc : a.f < b.f ∨ b.f < a.f ∨ (a.f = b.f ∧ a.t < b.t) ∨ (a.f = b.f ∧ b.t < a.t) ∨ (a.f = b.f ∧ a.t = b.t ∧ a.m < b.m) ∨ (a.f = b.f ∧ a.t = b.t ∧ b.m ≤ a.m) := by omega
  rcases hc with h1 | h1 | ⟨h1, h2⟩ | ⟨h1, h2⟩ | ⟨h1, h2, h3⟩ | ⟨h1, h2, h3⟩
  · have HE := hide (show arcB a b = true by unfold arcB; simp; omega)
    have f1 : (a.f != b.f) = true := by simp; omega
    have f2 : decide (a.f < b.f) = true := by simp; omega
    clear h1
    go_enter Tryd.func52, Tryd.ntmps52
    go_wp2
    go_ret
    exact ⟨by rw [HE.out]; rfl, HB.out _ _⟩
  · have HE := hide (show arcB a b = false by unfold arcB; simp; omega)
    have f1 : (a.f != b.f) = true := by simp; omega
    have f2 : decide (a.f < b.f) = false := by simp; omega
    clear h1
    go_enter Tryd.func52, Tryd.ntmps52
    go_wp2
    go_ret
    exact ⟨by rw [HE.out]; rfl, HB.out _ _⟩
  · have HE := hide (show arcB a b = true by unfold arcB; simp; omega)
    have f1 : (a.f != b.f) = false := by simp; omega
    have f2 : (a.t != b.t) = true := by simp; omega
    have f3 : decide (a.t < b.t) = true := by simp; omega
    clear h1 h2
    go_enter Tryd.func52, Tryd.ntmps52
    go_wp2
    go_ret
    exact ⟨by rw [HE.out]; rfl, HB.out _ _⟩
  · have HE := hide (show arcB a b = false by unfold arcB; simp; omega)
    have f1 : (a.f != b.f) = false := by simp; omega
    have f2 : (a.t != b.t) = true := by simp; omega
    have f3 : decide (a.t < b.t) = false := by simp; omega
    clear h1 h2
    go_enter Tryd.func52, Tryd.ntmps52
    go_wp2
    go_ret
    exact ⟨by rw [HE.out]; rfl, HB.out _ _⟩
  · have HE := hide (show arcB a b = true by unfold arcB; simp; omega)
    have f1 : (a.f != b.f) = false := by simp; omega
    have f2 : (a.t != b.t) = false := by simp; omega
    have f3 : decide (a.m < b.m) = true := by simp; omega
    clear h1 h2 h3
    go_enter Tryd.func52, Tryd.ntmps52
    go_wp2
    go_ret
    exact ⟨by rw [HE.out]; rfl, HB.out _ _⟩
  · have HE := hide (show arcB a b = false by unfold arcB; simp; omega)
    have f1 : (a.f != b.f) = false := by simp; omega
    have f2 : (a.t != b.t) = false := by simp; omega
    have f3 : decide (a.m < b.m) = false := by simp; omega
    clear h1 h2 h3
    go_enter Tryd.func52, Tryd.ntmps52
    go_wp2
    go_ret
    exact ⟨by rw [HE.out]; rfl, HB.out _ _⟩
def FewP (G : Gram) (L : Lat) : Prop := G.nN ≤ 10 ∧ G.nT ≤ 8 ∧ (G.rules.length : Int) ≤ 14 ∧ L.st ≤ 9 ∧ (L.arcs.length : Int) ≤ 40
set_option maxHeartbeats 4000000 in
/-- Few -/
theorem few_any (G : Gram) (L : Lat) (RA AA FA : Option Addr) (rc ac fc : Nat) (w : World) (b : Bool) (hb : b = true ↔ FewP G L) :
    Calls Tryd.prog 30 #[GramA G RA rc, LatA L AA ac FA fc, I 14, I 9, I 40] w fun e w' => e = .returned (.bool b) ∧ Below w.heap.size w w' := by
  have HB := hide (show ∀ o1 o2, Below w.heap.size w ((w.alloc o1).alloc o2) from fun o1 o2 => ((Below.refl _ _).alloc (Nat.le_refl _) _).alloc (by simp) _)
  have hc : 10 < G.nN ∨ (G.nN ≤ 10 ∧ 8 < G.nT) ∨ (G.nN ≤ 10 ∧ G.nT ≤ 8 ∧ 14 < (G.rules.length : Int)) ∨ (G.nN ≤ 10 ∧ G.nT ≤ 8 ∧ (G.rules.length : Int) ≤ 14 ∧ 9 < L.st) ∨ (G.nN ≤ 10 ∧ G.nT ≤ 8 ∧ (G.rules.length : Int) ≤ 14 ∧ L.st ≤ 9 ∧ 40 < (L.arcs.length : Int)) ∨ (G.nN ≤ 10 ∧ G.nT ≤ 8 ∧ (G.rules.length : Int) ≤ 14 ∧ L.st ≤ 9 ∧ (L.arcs.length : Int) ≤ 40) := by omega
  rcases hc with h1 | ⟨h1, h2⟩ | ⟨h1, h2, h3⟩ | ⟨h1, h2, h3, h4⟩ | ⟨h1, h2, h3, h4, h5⟩ | ⟨h1, h2, h3, h4, h5⟩
  iterate 4
    · have HE := hide (show b = false by
        cases hbb : b with
        | false => rfl
        | true => have := hb.1 hbb; unfold FewP at this; omega)
      clear hb
      go_enter Tryd.func30, Tryd.ntmps30
      go_wp2
      go_ret
      exact ⟨by rw [HE.out]; rfl, HB.out _ _⟩
  · have HE := hide (show b = false by
      cases hbb : b with
      | false => rfl
      | true => have := hb.1 hbb; unfold FewP at this; omega)
    have hd : decide ((L.arcs.length : Int) ≤ 40) = false := by simp; omega
    clear hb h5
    go_enter Tryd.func30, Tryd.ntmps30
    go_wp2
    go_ret
    exact ⟨by rw [HE.out]; rfl, HB.out _ _⟩
  · have HE := hide (show b = true from hb.2 ⟨h1, h2, h3, h4, h5⟩)
    have hd : decide ((L.arcs.length : Int) ≤ 40) = true := by simp; omega
    clear hb h5
    go_enter Tryd.func30, Tryd.ntmps30
    go_wp2
    go_ret
    exact ⟨by rw [HE.out]; rfl, HB.out _ _⟩
end Go.Proofs.YtnifpeamgoapmaaDoor
