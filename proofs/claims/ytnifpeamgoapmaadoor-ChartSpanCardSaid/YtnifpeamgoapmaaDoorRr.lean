/- may: the grammar and the lattice are small and in order. -/
import Derived.Test.YtnifpeamgoapmaaDoorRp
import Derived.Test.YtnifpeamgoapmaaDoorRq
set_option linter.unusedVariables false
set_option linter.unusedSimpArgs false
namespace Go.Proofs.YtnifpeamgoapmaaDoor
open Go Go.RowKit

/-- what may asks -/
def MayP (G : Gram) (L : Lat) : Prop := FewP G L ∧ VG G ∧ VL L G.nT
theorem RV.rok {nT nN : Int} {r : NRule} (h : RV nT nN r) : ROK nT nN r := by
  obtain ⟨a1, a2, a3, a4, a5, a6⟩ := h
  refine ⟨a1, a2, ?_, ?_, a3, a4, ?_, ?_⟩
  · rcases a6 with h | h | h | h <;> omega
  · rcases a6 with h | h | h | h <;> omega
  · intro hk
    rcases a6 with h | h | h | h <;> omega
  · intro hk
    rcases a6 with h | h | h | h <;> omega
theorem MayP.gb {G : Gram} {L : Lat} (h : MayP G L) : GBds G L := by
  obtain ⟨⟨a1, a2, a3, a4, a5⟩, ⟨⟨b1, b2, b3, b4, b5, b6, b7⟩, b8⟩, c⟩ := h
  refine ⟨b3, a1, fun r hr => (b8 r hr).rok, by omega, c.s1, a4, by omega, fun a ha => ?_, pair_of_adj c.so⟩
  obtain ⟨d1, d2, d3, d4, d5, d6, d7, d8⟩ := c.ar a ha
  exact ⟨d6, d7⟩
structure LawArgs (w : World) (G : Gram) (L : Lat) (RA AA FA : Option Addr) : Prop where
  rules : Rd w RA G.rules.length 6 (rcells G.rules)
  arcs : ArcsAt w AA L.arcs
  fin : Rd w FA L.fin.length 1 (L.fin.map I)
  none_ : NoneAt w
theorem LawArgs.below {w w' : World} {G : Gram} {L : Lat} {RA AA FA : Option Addr} (h : LawArgs w G L RA AA FA) (hb : Below w.heap.size w w') : LawArgs w' G L RA AA FA := ⟨h.rules.below hb, h.arcs.below hb, h.fin.below hb, h.none_.below hb⟩
theorem LawArgs.g {w : World} {G : Gram} {L : Lat} {RA AA FA : Option Addr} (h : LawArgs w G L RA AA FA) : GArgs w G L RA AA := ⟨h.rules, h.arcs, h.none_⟩
theorem of_iff {b : Bool} {p : Prop} (h : b = true ↔ p) (hp : ¬ p) : b = false := by
  cases hb : b with
  | false => rfl
  | true => exact absurd (h.1 hb) hp
set_option maxRecDepth 100000 in
set_option maxHeartbeats 4000000 in
theorem may_any (G : Gram) (L : Lat) (RA AA FA : Option Addr) (rc ac fc : Nat) (w : World) (hA : LawArgs w G L RA AA FA) (b : Bool) (hb : b = true ↔ MayP G L) :
    Calls Tryd.prog 11 #[GramA G RA rc, LatA L AA ac FA fc] w fun e w' => e = .returned (.bool b) ∧ Below w.heap.size w w' := by
  have b24 := (Blk.new w 24 #[I G.nT, I G.nN, I G.nS, .slice RA G.rules.length rc]).alloc (Obj.cells #[I L.st, .slice AA L.arcs.length ac, .slice FA L.fin.length fc] 28)
  have b28 := Blk.new2 w (Obj.cells #[I G.nT, I G.nN, I G.nS, .slice RA G.rules.length rc] 24) 28 #[I L.st, .slice AA L.arcs.length ac, .slice FA L.fin.length fc]
  have hbel : Below w.heap.size w ((w.alloc (Obj.cells #[I G.nT, I G.nN, I G.nS, .slice RA G.rules.length rc] 24)).alloc (Obj.cells #[I L.st, .slice AA L.arcs.length ac, .slice FA L.fin.length fc] 28)) := ((Below.refl _ _).alloc (Nat.le_refl _) _).alloc (by simp) _
  have HA := hide hA
  clear hA
  by_cases h1 : FewP G L
  · have C30 := hide (fun W => few_any G L RA AA FA rc ac fc W true ⟨fun _ => h1, fun _ => rfl⟩)
    by_cases h2 : VG G
    · have C31 := hide (fun W (hb : Below w.heap.size w W) => valid24_any G RA rc W (HA.out.rules.below hb) true ⟨fun _ => h2, fun _ => rfl⟩)
      have C29 := hide (fun W (hb' : Below w.heap.size w W) => valid37_any L G.nT AA FA ac fc W (HA.out.arcs.below hb') (HA.out.fin.below hb') h1.2.2.2.1 (by have := h1.2.2.2.2; omega) b (hb.trans ⟨fun h => h.2.2, fun h => ⟨h1, h2, h⟩⟩))
      have B24 := hide b24
      have B28 := hide b28
      have HBEL := hide hbel
      clear h1 h2 hb b24 b28 hbel
      go_enter Tryd.func11, Tryd.ntmps11
      go_wp2_with fail
      refine (C30.out _).mono ?_
      rintro e w1 ⟨rfl, hw1⟩
      have HW1 := hide (HBEL.out.trans (hw1.mono HBEL.out.size))
      have hq := B24.out.below hw1 B24.out.lt
      have hq2 := B28.out.below hw1 B28.out.lt
      have x0 := hq.cell 0
      have x1 := hq.cell 1
      have x2 := hq.cell 2
      have x3 := hq.cell 3
      simp at x0 x1 x2 x3
      have B24 := hide hq
      have B28 := hide hq2
      clear hw1 hq hq2
      go_wp2_with fail
      refine (C31.out _ HW1.out).mono ?_
      rintro e w2 ⟨rfl, hw2⟩
      clear x0 x1 x2 x3
      have HW2 := hide (HW1.out.trans (hw2.mono HW1.out.size))
      have hq := B24.out.below hw2 B24.out.lt
      have hq2 := B28.out.below hw2 B28.out.lt
      have x0 := hq.cell 0
      have y0 := hq2.cell 0
      have y1 := hq2.cell 1
      have y2 := hq2.cell 2
      simp at x0 y0 y1 y2
      clear hw2 hq hq2
      go_wp2_with fail
      refine (C29.out _ HW2.out).mono ?_
      rintro e w3 ⟨rfl, hw3⟩
      have HW3 := hide (HW2.out.trans (hw3.mono HW2.out.size))
      clear hw3
      go_wp2
      go_ret
      exact ⟨rfl, HW3.out⟩
    · have HE := hide (of_iff hb (fun h => h2 h.2.1))
      have C31 := hide (fun W (hb : Below w.heap.size w W) => valid24_any G RA rc W (HA.out.rules.below hb) false ⟨fun h => (by cases h), fun h => absurd h h2⟩)
      have B24 := hide b24
      have HBEL := hide hbel
      clear h1 h2 hb b24 b28 hbel
      go_enter Tryd.func11, Tryd.ntmps11
      go_wp2_with fail
      refine (C30.out _).mono ?_
      rintro e w1 ⟨rfl, hw1⟩
      have HW1 := hide (HBEL.out.trans (hw1.mono HBEL.out.size))
      have hq := B24.out.below hw1 B24.out.lt
      have x0 := hq.cell 0
      have x1 := hq.cell 1
      have x2 := hq.cell 2
      have x3 := hq.cell 3
      simp at x0 x1 x2 x3
      clear hw1 hq
      go_wp2_with fail
      refine (C31.out _ HW1.out).mono ?_
      rintro e w2 ⟨rfl, hw2⟩
      have HW2 := hide (HW1.out.trans (hw2.mono HW1.out.size))
      clear hw2
      go_wp2
      go_ret
      exact ⟨by rw [HE.out]; rfl, HW2.out⟩
  · have HE := hide (of_iff hb (fun h => h1 h.1))
    have C30 := hide (fun W => few_any G L RA AA FA rc ac fc W false ⟨fun h => (by cases h), fun h => absurd h h1⟩)
    have HBEL := hide hbel
    clear h1 hb b24 b28 hbel
    go_enter Tryd.func11, Tryd.ntmps11
    go_wp2_with fail
    refine (C30.out _).mono ?_
    rintro e w1 ⟨rfl, hw1⟩
    have HW1 := hide (HBEL.out.trans (hw1.mono HBEL.out.size))
    clear hw1
    go_wp2
    go_ret
    exact ⟨by rw [HE.out]; rfl, HW1.out⟩
end Go.Proofs.YtnifpeamgoapmaaDoor
