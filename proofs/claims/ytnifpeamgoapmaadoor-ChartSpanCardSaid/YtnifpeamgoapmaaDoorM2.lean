/- The priority queue's memory: its record, its heap's row, its map of places; what swapping two entries does to them. -/
import Derived.Test.YtnifpeamgoapmaaDoorProg
import Derived.Test.YtnifpeamgoapmaaDoorBase
import Derived.Test.YtnifpeamgoapmaaDoorM1
import Derived.BigQuiet
import Derived.BigRegion
import Derived.Deep.QuietTactic
import Derived.Deep.RegionHeld3
import Derived.Deep.DeepCutAuto
import Derived.KernelRfl
import Derived.Maps.AppendAt
import Derived.Deep.AppendLies
import Derived.StillTailTactics
set_option linter.unusedVariables false
set_option linter.unusedSimpArgs false
namespace Go.Proofs.YtnifpeamgoapmaaDoor
open Go Go.RowKit
abbrev I (n : Int) : Value := .int .i64 n
abbrev PB (b : Nat) : Value := .pointer (some ⟨b, 0, none⟩)

def ecells (es : List Ent) : List Value := es.flatMap fun e => [I e.x, I e.h, I e.t]
theorem ecells_length (es : List Ent) : (ecells es).length = es.length * 3 := by
  induction es with
  | nil => rfl
  | cons e es ih => simp [ecells] at ih ⊢; omega
theorem ecells_get (es : List Ent) (i : Nat) {e : Ent} (h : es[i]? = some e) : (ecells es)[i * 3]? = some (I e.x) ∧ (ecells es)[i * 3 + 1]? = some (I e.h) ∧ (ecells es)[i * 3 + 2]? = some (I e.t) := by
  induction es generalizing i with
  | nil => simp at h
  | cons a es ih =>
    cases i with
    | zero => simp at h; subst h; simp [ecells]
    | succ i =>
      have := ih i (by simpa using h)
      simp only [ecells, List.flatMap_cons] at this ⊢
      have e0 : (i + 1) * 3 = i * 3 + 3 := by omega
      rw [e0]
      simpa using this
theorem ecells_set (es : List Ent) (i : Nat) (e : Ent) : ecells (es.set i e) = (((ecells es).set (i * 3) (I e.x)).set (i * 3 + 1) (I e.h)).set (i * 3 + 2) (I e.t) := by
  induction es generalizing i with
  | nil => simp [ecells]
  | cons a es ih =>
    cases i with
    | zero => simp [ecells]
    | succ i =>
      have := ih i
      simp only [ecells, List.flatMap_cons, List.set_cons_succ] at this ⊢
      have e0 : (i + 1) * 3 = i * 3 + 3 := by omega
      rw [e0, this]
      simp
/-- The row of the heap, at its block. -/
abbrev HRow (w : World) (g cap : Nat) (es : List Ent) : Prop := w.ownsRow 0 114 3 (.slice (some ⟨g, 0, none⟩) es.length cap) es.length (ecells es)
theorem HRow.cells {w : World} {g cap : Nat} {es : List Ent} (h : HRow w g cap es) (i : Nat) {e : Ent} (he : es[i]? = some e) :
    w.cell? ⟨g, i * 3, none⟩ = some (I e.x) ∧ w.cell? ⟨g, i * 3 + 1, none⟩ = some (I e.h) ∧ w.cell? ⟨g, i * 3 + 2, none⟩ = some (I e.t) := by
  have hl : i < es.length := (List.getElem?_eq_some_iff.1 he).1
  obtain ⟨h0, h1, h2⟩ := ecells_get es i he
  rw [h.cellAt (i * 3) (by omega), h.cellAt (i * 3 + 1) (by omega), h.cellAt (i * 3 + 2) (by omega)]
  exact ⟨h0, h1, h2⟩
theorem HRow.set_ {w : World} {g cap : Nat} {es : List Ent} (h : HRow w g cap es) (i : Nat) (e : Ent) :
    HRow (((w.setCell ⟨g, i * 3, none⟩ (I e.x)).setCell ⟨g, i * 3 + 1, none⟩ (I e.h)).setCell ⟨g, i * 3 + 2, none⟩ (I e.t)) g cap (es.set i e) := by
  have := ((h.stored (i * 3) (I e.x)).1.stored (i * 3 + 1) (I e.h)).1.stored (i * 3 + 2) (I e.t)
  unfold HRow
  rw [ecells_set, List.length_set]
  exact this.1
theorem HRow.drew {w : World} {g cap : Nat} {es : List Ent} (h : HRow w g cap es) : HRow w.drew g cap es := h
theorem HRow.drewN {w : World} {g cap : Nat} {es : List Ent} (h : HRow w g cap es) (n : Nat) : HRow (w.drewN n) g cap es := h
theorem HRow.le {w : World} {g cap : Nat} {es : List Ent} (h : HRow w g cap es) : es.length ≤ cap ∧ cap ≤ maxLen := by
  rcases h.2 with ⟨h1, h2⟩ | ⟨g', cap', cur, hv, _, _, h3, h4, _⟩
  · cases h1
  · injection hv with _ _ hc; subst hc; exact ⟨h3, h4⟩
theorem HRow.lt {w : World} {g cap : Nat} {es : List Ent} (h : HRow w g cap es) : g < w.heap.size := (World.ownsRow.lt h g rfl).2
theorem HRow.ne_blk {w : World} {g cap : Nat} {es : List Ent} (h : HRow w g cap es) {q : Nat} {t : TypeId} {cs : Array Value} (hq : Blk w q t cs) (ht : t ≠ 114) : q ≠ g := by
  rcases h.2 with ⟨h1, h2⟩ | ⟨g', cap', cur, hv, _, hh, _⟩
  · cases h1
  · injection hv with ha
    injection ha with ha
    injection ha with ha
    subst ha
    exact Blk.ne_ hq hh ht
theorem HRow.ne_map {w : World} {g cap : Nat} {es : List Ent} (h : HRow w g cap es) {b : Nat} {f : Int → Option Int} {gm : Int → Nat} (hm : IMap w b f gm) : g ≠ b := by
  rcases h.2 with ⟨h1, h2⟩ | ⟨g', cap', cur, hv, _, hh, _⟩
  · cases h1
  · injection hv with ha
    injection ha with ha
    injection ha with ha
    subst ha
    exact hm.ne_blk hh
theorem HRow.grown {w w' : World} {g cap : Nat} {es : List Ent} (h : HRow w g cap es) {row : Option Nat} (hg : w.grownBy w' row) (hne : some g ≠ row) : HRow w' g cap es :=
  World.ownsRow.kept h hg (.inr (by simpa [Value.ownBlock] using hne))

theorem grown_set {a w : World} {g : Nat} (h : a.grownBy w (some g)) (k : Nat) (u : Value) : a.grownBy (w.setCell ⟨g, k, none⟩ u) (some g) :=
  ⟨h.os, h.tape, h.output, by simpa [World.setCell] using h.size, fun i hi hne => (Below.heap_setCell w ⟨g, k, none⟩ u i (by rintro rfl; exact hne rfl)).trans (h.block i hi hne)⟩

theorem only_drew' (w : World) (r : Option Nat) : w.grownBy w.drew r := ⟨rfl, rfl, rfl, Nat.le_refl _, fun _ _ _ => rfl⟩
theorem only_drew'' {a w : World} {row : Option Nat} (h : a.grownBy w row) : a.grownBy w.drew row := ⟨h.os, h.tape, h.output, h.size, h.block⟩
theorem und101 : Tryd.prog.underlying 101 = some (.map 3 3) := Tryd.underlying101
theorem zero3 (w : World) : (zeroValue 3).run Tryd.prog w = .ok (.int .i64 0) w := zero_int (P := Tryd.prog) Tryd.underlying3 (by kernel_rfl) w


def fupd (f : Int → Option Int) (k v : Int) : Int → Option Int := fun y => if y = k then some v else f y

/-- The queue's record, its heap's row, its map. -/
structure QRaw (w : World) (q pl : Nat) (lf hv : Value) (es : List Ent) (f : Int → Option Int) (gm : Int → Nat) (nx ck : Int) : Prop where
  rec_ : Blk w q 104 #[lf, hv, .map (some pl), I nx, I ck]
  row : w.ownsRow 0 114 3 hv es.length (ecells es)
  map : IMap w pl f gm
/-- what the queue's own methods may touch -/
def QF (q pl : Nat) (hv : Value) : Nat → Prop := fun k => k = q ∨ k = pl ∨ some k = hv.ownBlock
theorem QF.row (q pl g n c : Nat) : ∀ k, some g = some k → QF q pl (.slice (some ⟨g, 0, none⟩) n c) k := fun k h => .inr (.inr h.symm)
theorem QF.pl (q pl : Nat) (hv : Value) : ∀ k, some pl = some k → QF q pl hv k := fun k h => .inr (.inl (Option.some.inj h).symm)
theorem QF.q (q pl : Nat) (hv : Value) : ∀ k, some q = some k → QF q pl hv k := fun k h => .inl (Option.some.inj h).symm
theorem QF.len {q pl g n n' c k : Nat} (h : QF q pl (.slice (some ⟨g, 0, none⟩) n c) k) : QF q pl (.slice (some ⟨g, 0, none⟩) n' c) k := h
/-- each handle's place; no other handle is known -/
structure PlOK (es : List Ent) (f : Int → Option Int) : Prop where
  at_ : ∀ (i : Nat) (e : Ent), es[i]? = some e → f e.h = some (i : Int)
  only : ∀ k v, f k = some v → ∃ e ∈ es, e.h = k

section
variable {w w' : World} {q pl : Nat} {lf hv : Value} {es : List Ent} {f : Int → Option Int} {gm : Int → Nat} {nx ck : Int}
theorem PlOK.inj (h : PlOK es f) {i j : Nat} {a b : Ent} (hi : es[i]? = some a) (hj : es[j]? = some b) (he : a.h = b.h) : i = j := by
  have h1 := h.at_ i a hi
  have h2 := h.at_ j b hj
  rw [he, h2] at h1
  injection h1 with h1
  omega
theorem QRaw.form (h : QRaw w q pl lf hv es f gm nx ck) (hn : 0 < es.length) : ∃ g cap, hv = .slice (some ⟨g, 0, none⟩) es.length cap ∧ HRow w g cap es := by
  obtain ⟨g, cap, rfl, _⟩ := World.ownsRow.form h.row hn
  exact ⟨g, cap, rfl, h.row⟩
theorem QRaw.below (h : QRaw w q pl lf hv es f gm nx ck) (hb : Below w.heap.size w w') : QRaw w' q pl lf hv es f gm nx ck :=
  ⟨h.rec_.below hb h.rec_.lt, World.ownsRow.kept h.row (row := none) ⟨hb.os, hb.tape, hb.output, hb.size, fun k hk _ => hb.block k hk⟩ (by cases hv.ownBlock <;> simp), h.map.same (hb.block pl h.map.lt)⟩
theorem QRaw.kp {F : Nat → Prop} (h : QRaw w q pl lf hv es f gm nx ck) (hb : Kp F w w') (hF : ∀ k, QF q pl hv k → ¬ F k) : QRaw w' q pl lf hv es f gm nx ck := by
  have hrow : ∀ k, hv.ownBlock = some k → w'.heap[k]? = w.heap[k]? := fun k hk => hb.block k (World.ownsRow.lt h.row k hk).2 (hF k (.inr (.inr hk.symm)))
  refine ⟨h.rec_.kp hb (hF q (.inl rfl)), ⟨h.row.1, ?_⟩, h.map.kp hb (hF pl (.inr (.inl rfl)))⟩
  rcases h.row.2 with h2 | ⟨g, cap, cur, rfl, h0, hh, r⟩
  · exact .inl h2
  · exact .inr ⟨g, cap, cur, rfl, h0, (hrow g rfl).trans hh, r⟩
theorem QRaw.drew (h : QRaw w q pl lf hv es f gm nx ck) : QRaw w.drew q pl lf hv es f gm nx ck := ⟨h.rec_, h.row, h.map.drew⟩
/-- a block of another element type is none of the queue's -/
theorem QRaw.apart (h : QRaw w q pl lf hv es f gm nx ck) {b : Nat} {t : TypeId} {cs : Array Value} (hb : Blk w b t cs) (h1 : t ≠ 104) (h2 : t ≠ 114) : ¬ QF q pl hv b := by
  rintro (e | e | e)
  · exact Blk.ne_ hb h.rec_ h1 e
  · exact h.map.ne_blk hb e
  · rcases h.row.2 with ⟨rfl, _⟩ | ⟨g, cap, cur, rfl, h0, hh, r⟩
    · simp [Value.ownBlock] at e
    · simp [Value.ownBlock] at e
      exact Blk.ne_ (t' := 114) hb hh h2 e
end
end Go.Proofs.YtnifpeamgoapmaaDoor
/- A region that draws its order: its first operations only read, the last ones come in one order. -/
namespace Go.Proofs.YtnifpeamgoapmaaDoor
open Go Go.RowKit

theorem still_of_quiet {P : Program} {o : Oper} {a : Act} {w : World} {K : Act → Prop} (h : o.quiet P a (fun w' => w' = w) K) : o.still P a w K := by
  obtain ⟨v, h1, h2⟩ := h
  have h3 := h1 w rfl
  unfold Oper.quietAt at h3
  unfold Oper.still
  generalize (execOp a.eval o).run P w = r at *
  cases r with
  | ok n w' =>
    cases n <;> simp only [Oper.quietUpon] at h3
    case value u => obtain ⟨rfl, rfl⟩ := h3; exact ⟨rfl, h2⟩
    case skip => obtain ⟨rfl, rfl⟩ := h3; exact ⟨rfl, h2⟩
    case enter f args => obtain ⟨rfl, hc⟩ := h3; exact ⟨rfl, v, hc, h2⟩
  | halt x w' => simp only [Oper.quietUpon] at h3
theorem wpStill_of_quiet {P : Program} {ops : Array Oper} {w : World} {Q : Act → Prop} : ∀ {l : List Oper} {a : Act}, wpQuiet P ops (fun w' => w' = w) Q l a → wpStill P ops w Q l a
  | [], a, h => h
  | o :: rest, a, h => by
    unfold wpQuiet at h
    unfold wpStill
    split
    · rename_i hw
      rw [if_pos hw] at h
      exact still_of_quiet (Oper.quiet_mono (fun a' h' => wpStill_of_quiet h') h)
    · rename_i hw
      rw [if_neg hw] at h
      exact wpStill_of_quiet h
theorem wp_region_prefix {P : Program} {id : Nat} {Q : Exit → Act → World → Prop} {a : Act} {w : World} {l : List Oper} (n : Nat) (hm : P.follows .mixedOrders = true) (hB : Region.lexTailB .any l.toArray n = true)
    (h : wpQuiet P l.toArray (fun w' => w' = w.drew) (fun a' => wpList P l.toArray Q (l.drop n) a' w.drew) (l.take n) a) : (Code.region id l.toArray true).wp P Q a w :=
  wp_region_still_tail n hm hB (wpStill_of_quiet h)
end Go.Proofs.YtnifpeamgoapmaaDoor
