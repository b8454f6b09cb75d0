/- The reference: Span. -/
import Derived.Test.YtnifpeamgoapmaaDoorRi
import Derived.Test.YtnifpeamgoapmaaDoorZa
set_option linter.unusedVariables false
set_option linter.unusedSimpArgs false
namespace Go.Proofs.YtnifpeamgoapmaaDoor
open Go Go.RowKit

/-- the cell at a place of a row of cells -/
def celAt (cur : Array Value) (i : Nat) : Cel := ⟨⟨intOf (cur.getD (i * 4) (.bool false)), intOf (cur.getD (i * 4 + 1) (.bool false))⟩, intOf (cur.getD (i * 4 + 2) (.bool false)), intOf (cur.getD (i * 4 + 3) (.bool false))⟩
def codeW (w : World) (g n : Nat) : Nat := match w.heap[g]? with
  | some (.cells cur _ _) => codeL ((List.range n).map (celAt cur))
  | _ => 0
/-- the first cells of a row -/
def Holds (cur : Array Value) (own : List Cel) : Prop := ∀ (j : Nat) (u : Value), (ccells own)[j]? = some u → cur[j]? = some u
theorem Holds.cel {cur : Array Value} {own : List Cel} (h : Holds cur own) {i : Nat} {c : Cel} (hc : own[i]? = some c) : cur[i * 4]? = some (I c.v.c) ∧ cur[i * 4 + 1]? = some (I c.v.s) ∧ cur[i * 4 + 2]? = some (I c.r) ∧ cur[i * 4 + 3]? = some (I c.a) := by
  obtain ⟨h0, h1, h2, h3⟩ := ccells_get own i hc
  exact ⟨h _ _ h0, h _ _ h1, h _ _ h2, h _ _ h3⟩
theorem celAt_of {cur : Array Value} {own : List Cel} (h : Holds cur own) {i : Nat} {c : Cel} (hc : own[i]? = some c) : celAt cur i = c := by
  obtain ⟨h0, h1, h2, h3⟩ := h.cel hc
  unfold celAt
  simp only [Array.getD_eq_getD_getElem?, h0, h1, h2, h3]
  rfl
theorem codeW_of {w : World} {g n : Nat} {cur : Array Value} {own : List Cel} (hb : Blk w g 47 cur) (h : Holds cur own) (hl : own.length = n) : codeW w g n = codeL own := by
  unfold codeW
  unfold Blk at hb
  rw [hb]
  simp only
  congr 1
  apply List.ext_getElem? 
  intro i
  by_cases hi : i < n
  · obtain ⟨c, hc⟩ : ∃ c, own[i]? = some c := ⟨_, List.getElem?_eq_getElem (by omega)⟩
    rw [hc, List.getElem?_map, List.getElem?_range hi, Option.map_some, celAt_of h hc]
  · rw [List.getElem?_eq_none (by simp; omega), List.getElem?_eq_none (by omega)]
theorem ccells_set (cs : List Cel) (i : Nat) (c : Cel) : ccells (cs.set i c) = ((((ccells cs).set (i * 4) (I c.v.c)).set (i * 4 + 1) (I c.v.s)).set (i * 4 + 2) (I c.r)).set (i * 4 + 3) (I c.a) := by
  induction cs generalizing i with
  | nil => simp [ccells]
  | cons a es ih =>
    cases i with
    | zero => simp [ccells]
    | succ i =>
      have := ih i
      unfold ccells at this ⊢
      rw [List.set_cons_succ, List.flatMap_cons, List.flatMap_cons, this]
      simp [show (i + 1) * 4 = i * 4 + 4 by omega]
theorem Holds.set {cur : Array Value} {own : List Cel} (h : Holds cur own) (i : Nat) (c : Cel) : Holds ((((cur.setIfInBounds (i * 4) (I c.v.c)).setIfInBounds (i * 4 + 1) (I c.v.s)).setIfInBounds (i * 4 + 2) (I c.r)).setIfInBounds (i * 4 + 3) (I c.a)) (own.set i c) := by
  have key : ∀ (cur : Array Value) (l : List Value), (∀ (j : Nat) (u : Value), l[j]? = some u → cur[j]? = some u) → ∀ (p : Nat) (v : Value), ∀ (j : Nat) (u : Value), (l.set p v)[j]? = some u → (cur.setIfInBounds p v)[j]? = some u := by
    intro cur l h p v j u hj
    rw [List.getElem?_set] at hj
    rw [Array.getElem?_setIfInBounds]
    by_cases e : p = j
    · subst e
      rw [if_pos rfl] at hj ⊢
      by_cases hp : p < l.length
      · rw [if_pos hp] at hj
        have hl := h p _ (List.getElem?_eq_getElem hp)
        have := (Array.getElem?_eq_some_iff.1 hl).1
        rw [if_pos this]; exact hj
      · rw [if_neg hp] at hj; cases hj
    · rw [if_neg e] at hj ⊢
      exact h j u hj
  unfold Holds
  rw [ccells_set]
  exact key _ _ (key _ _ (key _ _ (key _ _ h _ _) _ _) _ _) _ _

/-- what Span's arguments are -/
structure SArgs (w : World) (X : SpanC) (RA AA CA : Option Addr) : Prop where
  rules : Rd w RA X.G.rules.length 6 (rcells X.G.rules)
  arcs : ArcsAt w AA X.L.arcs
  cells : Rd w CA X.C.cells.length 4 (ccells X.C.cells)
theorem SArgs.below {w w' : World} {X : SpanC} {RA AA CA : Option Addr} (h : SArgs w X RA AA CA) (hb : Below w.heap.size w w') : SArgs w' X RA AA CA := ⟨h.rules.below hb, h.arcs.below hb, h.cells.below hb⟩
/-- Span under way -/
structure SpInv (X : SpanC) (RA AA FA CA : Option Addr) (rc ac fc cc : Nat) (w : World) (g : Nat) (own : List Cel) (wr : World) : Prop where
  b24 : Blk wr w.heap.size 24 #[I X.G.nT, I X.G.nN, I X.G.nS, .slice RA X.G.rules.length rc]
  b28 : Blk wr (w.heap.size + 1) 28 #[I X.L.st, .slice AA X.L.arcs.length ac, .slice FA X.L.fin.length fc]
  b34 : Blk wr (w.heap.size + 1 + 1) 34 #[I X.C.cN, I X.C.cS, .slice CA X.C.cells.length cc]
  row : ∃ cur, Blk wr g 47 cur ∧ Holds cur own
  bel : Below w.heap.size w wr
  ge : w.heap.size ≤ g
  inv : RInv X own
section
variable {X : SpanC} {RA AA FA CA : Option Addr} {rc ac fc cc : Nat} {w : World} {g : Nat} {own : List Cel} {wr w' : World}
theorem SpInv.below (h : SpInv X RA AA FA CA rc ac fc cc w g own wr) (hb : Below wr.heap.size wr w') : SpInv X RA AA FA CA rc ac fc cc w g own w' := by
  obtain ⟨cur, h1, h2⟩ := h.row
  exact ⟨h.b24.below hb h.b24.lt, h.b28.below hb h.b28.lt, h.b34.below hb h.b34.lt, ⟨cur, h1.below hb h1.lt, h2⟩, h.bel.trans (hb.mono h.bel.size), h.ge, h.inv⟩
theorem SpInv.code (h : SpInv X RA AA FA CA rc ac fc cc w g own wr) : codeW wr g X.N = codeL own := by
  obtain ⟨cur, h1, h2⟩ := h.row
  exact codeW_of h1 h2 h.inv.len
theorem SpInv.rd (h : SpInv X RA AA FA CA rc ac fc cc w g own wr) : Rd wr (some ⟨g, 0, none⟩) own.length 4 (ccells own) := by
  obtain ⟨cur, h1, h2⟩ := h.row
  refine ⟨ccells_length own, fun _ => ⟨g, 0, rfl, fun j u hj => ?_⟩⟩
  rw [Nat.zero_add, h1.cell]
  exact h2 j u hj
theorem SpInv.args (h : SpInv X RA AA FA CA rc ac fc cc w g own wr) (hA : SArgs w X RA AA CA) : ImpArgs wr X own RA AA CA (some ⟨g, 0, none⟩) :=
  ⟨hA.rules.below h.bel, hA.arcs.below h.bel, hA.cells.below h.bel, h.rd, h.inv.len, h.inv.nf⟩
/-- a cell is stored -/
theorem SpInv.put (h : SpInv X RA AA FA CA rc ac fc cc w g own wr) (B : Bds X) {k : Nat} {r : NRule} (hr : X.G.rules[k]? = some r) {i : Nat} (hi : r.h = (i : Int)) {c : Cel} (hc : c = X.improve own k r) :
    SpInv X RA AA FA CA rc ac fc cc w g (own.set i c) ((((wr.setCell ⟨g, i * 4, none⟩ (I c.v.c)).setCell ⟨g, i * 4 + 1, none⟩ (I c.v.s)).setCell ⟨g, i * 4 + 2, none⟩ (I c.r)).setCell ⟨g, i * 4 + 3, none⟩ (I c.a)) := by
  obtain ⟨cur, h1, h2⟩ := h.row
  have far : ∀ {q t cs}, Blk wr q t cs → t ≠ 47 → Blk ((((wr.setCell ⟨g, i * 4, none⟩ (I c.v.c)).setCell ⟨g, i * 4 + 1, none⟩ (I c.v.s)).setCell ⟨g, i * 4 + 2, none⟩ (I c.r)).setCell ⟨g, i * 4 + 3, none⟩ (I c.a)) q t cs :=
    fun hq ht => (((hq.far (p := ⟨g, i * 4, none⟩) (Blk.ne_ hq h1 ht) _).far (p := ⟨g, i * 4 + 1, none⟩) (Blk.ne_ hq h1 ht) _).far (p := ⟨g, i * 4 + 2, none⟩) (Blk.ne_ hq h1 ht) _).far (p := ⟨g, i * 4 + 3, none⟩) (Blk.ne_ hq h1 ht) _
  have hinv := h.inv.step B hr
  rw [← hc, hi, Int.toNat_natCast] at hinv
  refine ⟨far h.b24 (by decide), far h.b28 (by decide), far h.b34 (by decide), ⟨_, (((h1.set_ _ _).set_ _ _).set_ _ _).set_ _ _, h2.set i c⟩, ?_, h.ge, hinv⟩
  exact (((h.bel.setCell (p := ⟨g, i * 4, none⟩) h.ge _).setCell (p := ⟨g, i * 4 + 1, none⟩) h.ge _).setCell (p := ⟨g, i * 4 + 2, none⟩) h.ge _).setCell (p := ⟨g, i * 4 + 3, none⟩) h.ge _
end
/-- no rule improves -/
def Stable (X : SpanC) (own : List Cel) (n : Nat) : Prop := ∀ (k : Nat) r, k < n → X.G.rules[k]? = some r → X.improve own k r = own.getD r.h.toNat noneC
end Go.Proofs.YtnifpeamgoapmaaDoor
