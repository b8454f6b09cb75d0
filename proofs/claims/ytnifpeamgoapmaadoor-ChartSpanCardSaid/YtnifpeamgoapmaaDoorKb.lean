/- What the rows' open arguments give: grammars, lattices. -/
import Derived.Test.YtnifpeamgoapmaaDoorKa
import Derived.Test.YtnifpeamgoapmaaDoorM12
import Derived.Lib.SmallJoins
set_option linter.unusedVariables false
set_option linter.unusedSimpArgs false
namespace Go.Proofs.YtnifpeamgoapmaaDoor
open Go Go.ChangeShapes Go.WideShapes Go.RowKit Go.Joins

theorem cells65 : Tryd.prog.cellsOf 65 = 6 := by kernel_rfl
theorem cells68 : Tryd.prog.cellsOf 68 = 5 := by kernel_rfl
theorem cells66 : Tryd.prog.cellsOf 66 = 1 := by kernel_rfl
section
variable {H : Type} {enc : TypeId × Value → H} {w : World} {base : Nat} {spare : Nat → Bool} {held : Bool}
set_option maxRecDepth 100000 in
theorem read65 {fuel : Nat} {cs : List Value} {x : DataW H × List MemPlace} (h : DataW.trod enc Tryd.prog w base spare held fuel 65 cs = some x) :
    ∃ c : NRule, cs = [I c.k, I c.h, I c.a, I c.b, I c.p, I c.o] := by
  obtain ⟨xs, n, _, hx, hcl, hxl, hf⟩ := DataW.trod_struct Tryd.underlying65 h
  rw [cells65] at hcl
  have hxl2 : xs.length = 6 := hxl
  clear hxl
  match cs, hcl with
  | [c0, c1, c2, c3, c4, c5], _ =>
    have h0 : DataW.trod enc Tryd.prog w base spare held n 3 (([c0, c1, c2, c3, c4, c5].drop 0).take (Tryd.prog.cellsOf 3)) = xs[0]? := hf 0 _ rfl
    have h1 : DataW.trod enc Tryd.prog w base spare held n 3 (([c0, c1, c2, c3, c4, c5].drop 1).take (Tryd.prog.cellsOf 3)) = xs[1]? := hf 1 _ rfl
    have h2 : DataW.trod enc Tryd.prog w base spare held n 3 (([c0, c1, c2, c3, c4, c5].drop 2).take (Tryd.prog.cellsOf 3)) = xs[2]? := hf 2 _ rfl
    have h3 : DataW.trod enc Tryd.prog w base spare held n 3 (([c0, c1, c2, c3, c4, c5].drop 3).take (Tryd.prog.cellsOf 3)) = xs[3]? := hf 3 _ rfl
    have h4 : DataW.trod enc Tryd.prog w base spare held n 3 (([c0, c1, c2, c3, c4, c5].drop 4).take (Tryd.prog.cellsOf 3)) = xs[4]? := hf 4 _ rfl
    have h5 : DataW.trod enc Tryd.prog w base spare held n 3 (([c0, c1, c2, c3, c4, c5].drop 5).take (Tryd.prog.cellsOf 3)) = xs[5]? := hf 5 _ rfl
    rw [cells3] at h0 h1 h2 h3 h4 h5
    match xs, hxl2 with
    | [y0, y1, y2, y3, y4, y5], _ =>
      obtain ⟨n0, e0, _⟩ := DataW.trod_int Tryd.underlying3 h0
      obtain ⟨n1, e1, _⟩ := DataW.trod_int Tryd.underlying3 h1
      obtain ⟨n2, e2, _⟩ := DataW.trod_int Tryd.underlying3 h2
      obtain ⟨n3, e3, _⟩ := DataW.trod_int Tryd.underlying3 h3
      obtain ⟨n4, e4, _⟩ := DataW.trod_int Tryd.underlying3 h4
      obtain ⟨n5, e5, _⟩ := DataW.trod_int Tryd.underlying3 h5
      simp at e0 e1 e2 e3 e4 e5
      subst e0 e1 e2 e3 e4 e5
      exact ⟨⟨n0, n1, n2, n3, n4, n5⟩, rfl⟩
set_option maxRecDepth 100000 in
theorem read68 {fuel : Nat} {cs : List Value} {x : DataW H × List MemPlace} (h : DataW.trod enc Tryd.prog w base spare held fuel 68 cs = some x) :
    ∃ (c : ArcP) (oa : Option Addr) (on_ oc : Nat), cs = [I c.f, I c.t, I c.m, I c.c, .slice oa on_ oc] := by
  obtain ⟨xs, n, _, hx, hcl, hxl, hf⟩ := DataW.trod_struct Tryd.underlying68 h
  rw [cells68] at hcl
  have hxl2 : xs.length = 5 := hxl
  clear hxl
  match cs, hcl with
  | [c0, c1, c2, c3, c4], _ =>
    have h0 : DataW.trod enc Tryd.prog w base spare held n 3 (([c0, c1, c2, c3, c4].drop 0).take (Tryd.prog.cellsOf 3)) = xs[0]? := hf 0 _ rfl
    have h1 : DataW.trod enc Tryd.prog w base spare held n 3 (([c0, c1, c2, c3, c4].drop 1).take (Tryd.prog.cellsOf 3)) = xs[1]? := hf 1 _ rfl
    have h2 : DataW.trod enc Tryd.prog w base spare held n 3 (([c0, c1, c2, c3, c4].drop 2).take (Tryd.prog.cellsOf 3)) = xs[2]? := hf 2 _ rfl
    have h3 : DataW.trod enc Tryd.prog w base spare held n 3 (([c0, c1, c2, c3, c4].drop 3).take (Tryd.prog.cellsOf 3)) = xs[3]? := hf 3 _ rfl
    have h4 : DataW.trod enc Tryd.prog w base spare held n 66 (([c0, c1, c2, c3, c4].drop 4).take (Tryd.prog.cellsOf 66)) = xs[4]? := hf 4 _ rfl
    rw [cells3] at h0 h1 h2 h3
    rw [cells66] at h4
    match xs, hxl2 with
    | [y0, y1, y2, y3, y4], _ =>
      obtain ⟨n0, e0, _⟩ := DataW.trod_int Tryd.underlying3 h0
      obtain ⟨n1, e1, _⟩ := DataW.trod_int Tryd.underlying3 h1
      obtain ⟨n2, e2, _⟩ := DataW.trod_int Tryd.underlying3 h2
      obtain ⟨n3, e3, _⟩ := DataW.trod_int Tryd.underlying3 h3
      simp at e0 e1 e2 e3
      subst e0 e1 e2 e3
      have h4' : DataW.trod enc Tryd.prog w base spare held n 66 [c4] = some y4 := h4
      rcases Go.Deep.open_slice Tryd.underlying66 h4' with ⟨e, _⟩ | ⟨a, len, cap, m, nn, D, Pl, e, _⟩
      · simp at e
        subst e
        exact ⟨⟨n0, n1, n2, n3⟩, none, 0, 0, rfl⟩
      · simp at e
        subst e
        exact ⟨⟨n0, n1, n2, n3⟩, some a, len, cap, rfl⟩
theorem spot_none {a : Addr} {v : Value} (h : w.cell? (a.add 0) = some v) : a.spot = none := by
  obtain ⟨b, off, spot⟩ := a
  cases spot with
  | none => rfl
  | some s =>
    exfalso
    simp [World.cell?, Addr.add] at h
    split at h <;> simp at h
/-- a slice of rules reads: a row of rules -/
theorem read22 {fuel : Nat} {cs : List Value} {x : DataW H × List MemPlace} (h : DataW.trod enc Tryd.prog w base spare held fuel 22 cs = some x) :
    ∃ A n c cl, cs = [.slice A n c] ∧ n = List.length cl ∧ Rd w A cl.length 6 (rcells cl) := by
  rcases Go.Deep.open_slice Tryd.underlying22 h with ⟨rfl, _⟩ | ⟨a, len, cap, m, n, D, Pl, rfl, hb, hl, hm, hmm, hx, hi⟩
  · exact ⟨none, 0, 0, [], rfl, rfl, rfl, fun h => by simp at h⟩
  · have hlm : len ≤ m := by rw [hmm]; split <;> omega
    have hc : ∀ i, ∃ c : NRule, i < len → w.cell? (a.add (i * 6)) = some (I c.k) ∧ w.cell? (a.add (i * 6 + 1)) = some (I c.h) ∧ w.cell? (a.add (i * 6 + 2)) = some (I c.a) ∧ w.cell? (a.add (i * 6 + 3)) = some (I c.b) ∧ w.cell? (a.add (i * 6 + 4)) = some (I c.p) ∧ w.cell? (a.add (i * 6 + 5)) = some (I c.o) := by
      intro i
      by_cases hil : i < len
      · obtain ⟨cs', hcs, ht⟩ := hi i (by omega)
        rw [cells65] at hcs
        obtain ⟨c, rfl⟩ := read65 ht
        obtain ⟨_, _, hat⟩ := World.cells?_some hcs
        have h0 := hat 0 (by omega)
        have h1 := hat 1 (by omega)
        have h2 := hat 2 (by omega)
        have h3 := hat 3 (by omega)
        have h4 := hat 4 (by omega)
        have h5 := hat 5 (by omega)
        rw [Go.Deep.add_add] at h0 h1 h2 h3 h4 h5
        exact ⟨c, fun _ => ⟨h0, h1, h2, h3, h4, h5⟩⟩
      · exact ⟨⟨0, 0, 0, 0, 0, 0⟩, fun h => absurd h hil⟩
    obtain ⟨f, hf⟩ := Classical.axiomOfChoice hc
    refine ⟨some a, len, cap, (List.range len).map f, rfl, by simp, ?_, fun hn => ?_⟩
    · rw [rcells_length]
    · simp at hn
      have hs : a.spot = none := by
        obtain ⟨h0, _⟩ := hf 0 hn
        exact spot_none (by simpa using h0)
      obtain ⟨b, off, spot⟩ := a
      simp only at hs
      subst hs
      refine ⟨b, off, rfl, fun j u hj => ?_⟩
      have hjl : j < len * 6 := by
        have := (List.getElem?_eq_some_iff.1 hj).1
        rw [rcells_length] at this
        simpa using this
      have hq : j / 6 < len := by omega
      obtain ⟨g0, g1, g2, g3, g4, g5⟩ := rcells_get ((List.range len).map f) (j / 6) (r := f (j / 6)) (by simp [hq])
      obtain ⟨k0, k1, k2, k3, k4, k5⟩ := hf (j / 6) hq
      have hadd : ∀ k : Nat, (⟨b, off, none⟩ : Addr).add k = ⟨b, off + k, none⟩ := fun k => by simp [Addr.add]
      rw [hadd] at k0 k1 k2 k3 k4 k5
      have hm4 : j % 6 = 0 ∨ j % 6 = 1 ∨ j % 6 = 2 ∨ j % 6 = 3 ∨ j % 6 = 4 ∨ j % 6 = 5 := by omega
      rcases hm4 with e | e | e | e | e | e
      · have ej : j = j / 6 * 6 := by omega
        rw [ej] at hj ⊢
        rw [g0] at hj
        rw [← hj]; exact k0
      · have ej : j = j / 6 * 6 + 1 := by omega
        rw [ej] at hj ⊢
        rw [g1] at hj
        rw [← hj]; exact k1
      · have ej : j = j / 6 * 6 + 2 := by omega
        rw [ej] at hj ⊢
        rw [g2] at hj
        rw [← hj]; exact k2
      · have ej : j = j / 6 * 6 + 3 := by omega
        rw [ej] at hj ⊢
        rw [g3] at hj
        rw [← hj]; exact k3
      · have ej : j = j / 6 * 6 + 4 := by omega
        rw [ej] at hj ⊢
        rw [g4] at hj
        rw [← hj]; exact k4
      · have ej : j = j / 6 * 6 + 5 := by omega
        rw [ej] at hj ⊢
        rw [g5] at hj
        rw [← hj]; exact k5
/-- a slice of arcs reads -/
theorem read25 {fuel : Nat} {cs : List Value} {x : DataW H × List MemPlace} (h : DataW.trod enc Tryd.prog w base spare held fuel 25 cs = some x) :
    ∃ A n c cl, cs = [.slice A n c] ∧ n = List.length cl ∧ ArcsAt w A cl := by
  rcases Go.Deep.open_slice Tryd.underlying25 h with ⟨rfl, _⟩ | ⟨a, len, cap, m, n, D, Pl, rfl, hb, hl, hm, hmm, hx, hi⟩
  · exact ⟨none, 0, 0, [], rfl, rfl, fun i a h => by simp at h⟩
  · have hlm : len ≤ m := by rw [hmm]; split <;> omega
    have hc : ∀ i, ∃ c : ArcP × Option Addr × Nat × Nat, i < len → w.cell? (a.add (i * 5)) = some (I c.1.f) ∧ w.cell? (a.add (i * 5 + 1)) = some (I c.1.t) ∧ w.cell? (a.add (i * 5 + 2)) = some (I c.1.m) ∧ w.cell? (a.add (i * 5 + 3)) = some (I c.1.c) ∧ w.cell? (a.add (i * 5 + 4)) = some (.slice c.2.1 c.2.2.1 c.2.2.2) := by
      intro i
      by_cases hil : i < len
      · obtain ⟨cs', hcs, ht⟩ := hi i (by omega)
        rw [cells68] at hcs
        obtain ⟨c, oa, on_, oc, rfl⟩ := read68 ht
        obtain ⟨_, _, hat⟩ := World.cells?_some hcs
        have h0 := hat 0 (by omega)
        have h1 := hat 1 (by omega)
        have h2 := hat 2 (by omega)
        have h3 := hat 3 (by omega)
        have h4 := hat 4 (by omega)
        rw [Go.Deep.add_add] at h0 h1 h2 h3 h4
        exact ⟨⟨c, oa, on_, oc⟩, fun _ => ⟨h0, h1, h2, h3, h4⟩⟩
      · exact ⟨⟨⟨0, 0, 0, 0⟩, none, 0, 0⟩, fun h => absurd h hil⟩
    obtain ⟨f, hf⟩ := Classical.axiomOfChoice hc
    refine ⟨some a, len, cap, (List.range len).map fun i => (f i).1, rfl, by simp, fun i c hiq => ?_⟩
    have hil : i < len := by have := (List.getElem?_eq_some_iff.1 hiq).1; simpa using this
    have hs : a.spot = none := by
      obtain ⟨h0, _⟩ := hf 0 (by omega)
      exact spot_none (by simpa using h0)
    obtain ⟨b, off, spot⟩ := a
    simp only at hs
    subst hs
    have e : c = (f i).1 := by
      rw [List.getElem?_map, List.getElem?_range hil] at hiq
      injection hiq with hiq
      exact hiq.symm
    subst e
    obtain ⟨k0, k1, k2, k3, k4⟩ := hf i hil
    have hadd : ∀ k : Nat, (⟨b, off, none⟩ : Addr).add k = ⟨b, off + k, none⟩ := fun k => by simp [Addr.add]
    rw [hadd] at k0 k1 k2 k3 k4
    exact ⟨b, off, _, _, _, rfl, k0, k1, k2, k3, k4⟩
/-- a slice of numbers reads -/
theorem read26 {fuel : Nat} {cs : List Value} {x : DataW H × List MemPlace} (h : DataW.trod enc Tryd.prog w base spare held fuel 26 cs = some x) :
    ∃ A n c cl, cs = [.slice A n c] ∧ n = List.length cl ∧ Rd w A cl.length 1 (cl.map I) := by
  rcases Go.Deep.open_slice Tryd.underlying26 h with ⟨rfl, _⟩ | ⟨a, len, cap, m, n, D, Pl, rfl, hb, hl, hm, hmm, hx, hi⟩
  · exact ⟨none, 0, 0, [], rfl, rfl, rfl, fun h => by simp at h⟩
  · have hlm : len ≤ m := by rw [hmm]; split <;> omega
    have hc : ∀ i, ∃ c : Int, i < len → w.cell? (a.add i) = some (I c) := by
      intro i
      by_cases hil : i < len
      · obtain ⟨cs', hcs, ht⟩ := hi i (by omega)
        rw [cells3] at hcs
        obtain ⟨c, e, _⟩ := DataW.trod_int Tryd.underlying3 ht
        obtain ⟨hlen, _, hat⟩ := World.cells?_some hcs
        have h0 := hat 0 (by omega)
        rw [Go.Deep.add_add] at h0
        simp only [Nat.mul_one, Nat.add_zero] at h0
        subst e
        exact ⟨c, fun _ => h0⟩
      · exact ⟨0, fun h => absurd h hil⟩
    obtain ⟨f, hf⟩ := Classical.axiomOfChoice hc
    refine ⟨some a, len, cap, (List.range len).map f, rfl, by simp, by simp, fun hn => ?_⟩
    simp at hn
    have hs : a.spot = none := spot_none (by simpa using hf 0 hn)
    obtain ⟨b, off, spot⟩ := a
    simp only at hs
    subst hs
    refine ⟨b, off, rfl, fun j u hj => ?_⟩
    have hjl : j < len := by
      have := (List.getElem?_eq_some_iff.1 hj).1
      simpa using this
    have hk := hf j hjl
    rw [show (⟨b, off, none⟩ : Addr).add j = ⟨b, off + j, none⟩ by simp [Addr.add]] at hk
    rw [hk]
    rw [List.getElem?_map, List.getElem?_map, List.getElem?_range hjl] at hj
    simpa using hj
end
end Go.Proofs.YtnifpeamgoapmaaDoor
