/- What the rows' open arguments give: two bytes. -/
import Derived.Test.YtnifpeamgoapmaaDoorKa
import Derived.OpenShut
import Derived.Lib.SmallJoins
set_option linter.unusedVariables false
set_option linter.unusedSimpArgs false
namespace Go.Proofs.YtnifpeamgoapmaaDoor
open Go Go.ChangeShapes Go.WideShapes Go.RowKit Go.Joins

theorem cells56 : Tryd.prog.cellsOf 56 = 2 := by kernel_rfl
theorem cells5 : Tryd.prog.cellsOf 5 = 1 := by kernel_rfl
section
variable {H : Type} {enc : TypeId × Value → H} {W : World} {base : Nat} {spare : Nat → Bool} {held : Bool}
theorem wf_u8 {n : Int} (h : (Lit.int .u8 n).wf = true) : 0 ≤ n ∧ n ≤ 255 := by
  simp [Lit.wf, IntKind.min, IntKind.max, IntKind.signed, IntKind.bits] at h
  omega
set_option maxRecDepth 100000 in
theorem open56 {r : Reach} {b0 : Nat} {v : Value} {d : DataW H} {p : List MemPlace} (hv : Value.okWide Tryd.prog W r b0 56 v) (h : DataW.Trod enc Tryd.prog W base spare held 56 v d p) :
    ∃ x y : Int, v = .agg #[.int .u8 x, .int .u8 y] ∧ (0 ≤ x ∧ x ≤ 255) ∧ (0 ≤ y ∧ y ≤ 255) := by
  simp only [Value.okWide, Tryd.underlying56] at hv
  obtain ⟨cs, rfl, hsz, _⟩ := hv
  rw [cells56] at hsz
  obtain ⟨c0, c1, rfl⟩ : ∃ c0 c1, cs = #[c0, c1] := by
    obtain ⟨l⟩ := cs
    match l, hsz with
    | [a, b], _ => exact ⟨a, b, rfl⟩
  obtain ⟨fuel, hf⟩ := h
  obtain ⟨xs, m, _, hx, hlen, hl, hel⟩ := DataW.trod_array Tryd.underlying56 hf
  have e0 := hel 0 (by omega)
  have e1 := hel 1 (by omega)
  rw [cells5] at e0 e1
  match xs, hl with
  | [y0, y1], _ =>
    have e0' : DataW.trod enc Tryd.prog W base spare held m 5 [c0] = some y0 := by simpa [Value.cells, Tryd.underlying56] using e0
    have e1' : DataW.trod enc Tryd.prog W base spare held m 5 [c1] = some y1 := by simpa [Value.cells, Tryd.underlying56] using e1
    obtain ⟨n0, f0, _, w0⟩ := DataW.trod_int Tryd.underlying5 e0'
    obtain ⟨n1, f1, _, w1⟩ := DataW.trod_int Tryd.underlying5 e1'
    simp only [List.cons.injEq, and_true] at f0 f1
    subst f0 f1
    exact ⟨n0, n1, rfl, wf_u8 w0, wf_u8 w1⟩
end
end Go.Proofs.YtnifpeamgoapmaaDoor
