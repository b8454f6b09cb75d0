/- What the rows' conditions and their open arguments give: the variable none, charts, items. -/
import Derived.Test.YtnifpeamgoapmaaDoorRows
import Derived.Test.YtnifpeamgoapmaaDoorCa
import Derived.WalkKit
import Derived.ProofKit
import Derived.OpenShut
import Derived.Carry
import Derived.Deep.Slices
import Derived.Deep.DeepHandedRow
import Derived.Lib.LaidTab
set_option linter.unusedVariables false
set_option linter.unusedSimpArgs false
namespace Go.Proofs.YtnifpeamgoapmaaDoor
open Go Go.ChangeShapes Go.WideShapes Go.RowKit

theorem own_ : ownKnob Tryd.prog.godebug = none := by kernel_rfl
theorem gNone : Tryd.prog.globalNamed "emendate/chart.none" = some 0 := by kernel_rfl
theorem gNoneType : (Tryd.prog.globals[0]?).map (·.type) = some 47 := by kernel_rfl
theorem cells47 : Tryd.prog.cellsOf 47 = 4 := by kernel_rfl
theorem cells45 : Tryd.prog.cellsOf 45 = 2 := by kernel_rfl
theorem cells3 : Tryd.prog.cellsOf 3 = 1 := by kernel_rfl
theorem laidOut : laidOutB Tryd.prog = true := by kernel_rfl
section
variable {H : Type} {enc : TypeId × Value → H} {w : World} {base : Nat} {spare : Nat → Bool} {held : Bool}
/-- a list with n elements -/
theorem list1 {α : Type} {l : List α} (h : l.length = 1) : ∃ a, l = [a] := by
  match l, h with
  | [a], _ => exact ⟨a, rfl⟩
set_option maxRecDepth 100000 in
/-- a value reads: two numbers -/
theorem read45 {fuel : Nat} {cs : List Value} {x : DataW H × List MemPlace} (h : DataW.trod enc Tryd.prog w base spare held fuel 45 cs = some x) : ∃ c s : Int, cs = [I c, I s] ∧ x.1 = .agg [.lit (.int .i64 c), .lit (.int .i64 s)] := by
  obtain ⟨xs, n, _, hx, hcl, hxl, hf⟩ := DataW.trod_struct Tryd.underlying45 h
  rw [cells45] at hcl
  have hxl2 : xs.length = 2 := hxl
  clear hxl
  match cs, hcl with
  | [c0, c1], _ =>
    have h0 : DataW.trod enc Tryd.prog w base spare held n 3 (([c0, c1].drop 0).take (Tryd.prog.cellsOf 3)) = xs[0]? := hf 0 _ rfl
    have h1 : DataW.trod enc Tryd.prog w base spare held n 3 (([c0, c1].drop 1).take (Tryd.prog.cellsOf 3)) = xs[1]? := hf 1 _ rfl
    rw [cells3] at h0 h1
    match xs, hxl2 with
    | [y0, y1], _ =>
      obtain ⟨n0, e0, z0, _⟩ := DataW.trod_int Tryd.underlying3 h0
      obtain ⟨n1, e1, z1, _⟩ := DataW.trod_int Tryd.underlying3 h1
      simp at e0 e1
      subst e0 e1
      refine ⟨n0, n1, rfl, ?_⟩
      rw [hx, z0, z1]
      rfl
set_option maxRecDepth 100000 in
/-- a cell reads: four numbers -/
theorem read47 {fuel : Nat} {cs : List Value} {x : DataW H × List MemPlace} (h : DataW.trod enc Tryd.prog w base spare held fuel 47 cs = some x) :
    ∃ c : Cel, cs = [I c.v.c, I c.v.s, I c.r, I c.a] ∧ x.1 = .agg [.agg [.lit (.int .i64 c.v.c), .lit (.int .i64 c.v.s)], .lit (.int .i64 c.r), .lit (.int .i64 c.a)] := by
  obtain ⟨xs, n, _, hx, hcl, hxl, hf⟩ := DataW.trod_struct Tryd.underlying47 h
  rw [cells47] at hcl
  have hxl2 : xs.length = 3 := hxl
  clear hxl
  match cs, hcl with
  | [c0, c1, c2, c3], _ =>
    have h0 : DataW.trod enc Tryd.prog w base spare held n 45 (([c0, c1, c2, c3].drop 0).take (Tryd.prog.cellsOf 45)) = xs[0]? := hf 0 _ rfl
    have h1 : DataW.trod enc Tryd.prog w base spare held n 3 (([c0, c1, c2, c3].drop 2).take (Tryd.prog.cellsOf 3)) = xs[1]? := hf 1 _ rfl
    have h2 : DataW.trod enc Tryd.prog w base spare held n 3 (([c0, c1, c2, c3].drop 3).take (Tryd.prog.cellsOf 3)) = xs[2]? := hf 2 _ rfl
    rw [cells45] at h0
    rw [cells3] at h1 h2
    match xs, hxl2 with
    | [y0, y1, y2], _ =>
      obtain ⟨a, b, e0, z0⟩ := read45 h0
      obtain ⟨n1, e1, z1, _⟩ := DataW.trod_int Tryd.underlying3 h1
      obtain ⟨n2, e2, z2, _⟩ := DataW.trod_int Tryd.underlying3 h2
      simp at e0 e1 e2
      obtain ⟨rfl, rfl⟩ := e0
      subst e1 e2
      refine ⟨⟨⟨a, b⟩, n1, n2⟩, rfl, ?_⟩
      rw [hx]
      show DataW.agg [y0.1, y1.1, y2.1] = _
      rw [z0, z1, z2]
/-- a slice of cells reads: a row of cells -/
theorem read32 {fuel : Nat} {cs : List Value} {x : DataW H × List MemPlace} (h : DataW.trod enc Tryd.prog w base spare held fuel 32 cs = some x) :
    ∃ A n c cl, cs = [.slice A n c] ∧ n = List.length cl ∧ Rd w A cl.length 4 (ccells cl) := by
  rcases Go.Deep.open_slice Tryd.underlying32 h with ⟨rfl, _⟩ | ⟨a, len, cap, m, n, D, Pl, rfl, hb, hl, hm, hmm, hx, hi⟩
  · exact ⟨none, 0, 0, [], rfl, rfl, rfl, fun h => by simp at h⟩
  · have hlm : len ≤ m := by rw [hmm]; split <;> omega
    have hc : ∀ i, ∃ c : Cel, i < len → w.cell? (a.add (i * 4)) = some (I c.v.c) ∧ w.cell? (a.add (i * 4 + 1)) = some (I c.v.s) ∧ w.cell? (a.add (i * 4 + 2)) = some (I c.r) ∧ w.cell? (a.add (i * 4 + 3)) = some (I c.a) := by
      intro i
      by_cases hil : i < len
      · obtain ⟨cs', hcs, ht⟩ := hi i (by omega)
        rw [cells47] at hcs
        obtain ⟨c, rfl, _⟩ := read47 ht
        obtain ⟨_, _, hat⟩ := World.cells?_some hcs
        have h0 := hat 0 (by omega)
        have h1 := hat 1 (by omega)
        have h2 := hat 2 (by omega)
        have h3 := hat 3 (by omega)
        rw [Go.Deep.add_add] at h0 h1 h2 h3
        exact ⟨c, fun _ => ⟨h0, h1, h2, h3⟩⟩
      · exact ⟨noneC, fun h => absurd h hil⟩
    obtain ⟨f, hf⟩ := Classical.axiomOfChoice hc
    refine ⟨some a, len, cap, (List.range len).map f, rfl, by simp, ?_, fun hn => ?_⟩
    · rw [ccells_length]
    · simp at hn
      obtain ⟨h0, _⟩ := hf 0 hn
      obtain ⟨b, off, spot⟩ := a
      have hs : spot = none := by
        cases spot with
        | none => rfl
        | some s =>
          exfalso
          simp [World.cell?, Addr.add] at h0
          split at h0 <;> simp at h0
      subst hs
      refine ⟨b, off, rfl, fun j u hj => ?_⟩
      have hjl : j < len * 4 := by
        have := (List.getElem?_eq_some_iff.1 hj).1
        rw [ccells_length] at this
        simpa using this
      have hq : j / 4 < len := by omega
      obtain ⟨g0, g1, g2, g3⟩ := ccells_get ((List.range len).map f) (j / 4) (c := f (j / 4)) (by simp [hq])
      obtain ⟨k0, k1, k2, k3⟩ := hf (j / 4) hq
      have hadd : ∀ k : Nat, (⟨b, off, none⟩ : Addr).add k = ⟨b, off + k, none⟩ := fun k => by simp [Addr.add]
      rw [hadd] at k0 k1 k2 k3
      have hm4 : j % 4 = 0 ∨ j % 4 = 1 ∨ j % 4 = 2 ∨ j % 4 = 3 := by omega
      rcases hm4 with e | e | e | e
      · have ej : j = j / 4 * 4 := by omega
        rw [ej] at hj ⊢
        rw [g0] at hj
        rw [← hj]; exact k0
      · have ej : j = j / 4 * 4 + 1 := by omega
        rw [ej] at hj ⊢
        rw [g1] at hj
        rw [← hj]; exact k1
      · have ej : j = j / 4 * 4 + 2 := by omega
        rw [ej] at hj ⊢
        rw [g2] at hj
        rw [← hj]; exact k2
      · have ej : j = j / 4 * 4 + 3 := by omega
        rw [ej] at hj ⊢
        rw [g3] at hj
        rw [← hj]; exact k3
end
/-- WHAT THE ROW's LIST GIVES: the variable none. -/
theorem none_of_laid {W : World} (h : laidMet Tryd.prog [("emendate/chart.none", Rows.laid_emendate_chart_none)] W) : NoneAt W := by
  obtain ⟨ps, ⟨g, t, cs, fuel, p, q, hg, ht, hvar, hd, _, _⟩, _⟩ := h
  obtain rfl := Option.some.inj (gNone.symm.trans hg)
  obtain rfl := Option.some.inj (gNoneType.symm.trans ht)
  obtain ⟨c, hc, hx⟩ := read47 hd
  have hcs : cs = #[I c.v.c, I c.v.s, I c.r, I c.a] := by cases cs; simp_all
  unfold Rows.laid_emendate_chart_none at hx
  simp only [DataW.agg.injEq, List.cons.injEq, DataW.lit.injEq, Lit.int.injEq, true_and, and_true] at hx
  obtain ⟨⟨x0, x1⟩, x2, x3⟩ := hx
  have hat := fun off => World.var?_cell gNone hvar off
  refine ⟨?_, ?_, ?_, ?_⟩
  · rw [hat 0, hcs, ← x0]; rfl
  · rw [hat 1, hcs, ← x1]; rfl
  · rw [hat 2, hcs, ← x2]; rfl
  · rw [hat 3, hcs, ← x3]; rfl
end Go.Proofs.YtnifpeamgoapmaaDoor
