/- Words for memory that the walks of this family share: a block that is known whole; what a call keeps but for some blocks; a map from ints to ints. -/
import Derived.WalkKit
import Derived.WalkSpells
import Derived.WalkLawsBesides
import Derived.Below
import Derived.Deep.Draws
import Derived.Laws.Rows
import Derived.Maps.OwnOps
import Derived.BigQuiet
import Derived.KernelRfl
set_option linter.unusedVariables false
set_option linter.unusedSimpArgs false
namespace Go.Proofs.YtnifpeamgoapmaaDoor
open Go Go.RowKit

theorem hide {p : Prop} (h : p) : Hid p := h
/-! ### blocks -/
/-- Block g of w is just the cells cs, of element type t, none of them frozen. -/
def Blk (w : World) (g : Nat) (t : TypeId) (cs : Array Value) : Prop := w.heap[g]? = some (.cells cs t (0, 0))

section
variable {w w' : World} {g : Nat} {t : TypeId} {cs : Array Value}
theorem Blk.lt (h : Blk w g t cs) : g < w.heap.size := (Array.getElem?_eq_some_iff.1 h).1
theorem Blk.cell (h : Blk w g t cs) (i : Nat) : w.cell? ⟨g, i, none⟩ = cs[i]? := cell_of_row w g i cs t (0, 0) h
theorem Blk.frozen (h : Blk w g t cs) (i : Nat) : w.frozen? ⟨g, i, none⟩ = false := by
  unfold Blk at h
  simp [World.frozen?, h]
theorem Blk.new (w : World) (t : TypeId) (cs : Array Value) : Blk (w.alloc (.cells cs t)) w.heap.size t cs := heap_alloc_new w _
theorem Blk.drew (h : Blk w g t cs) : Blk w.drew g t cs := h
theorem Blk.drewN (h : Blk w g t cs) (n : Nat) : Blk (w.drewN n) g t cs := h
theorem Blk.alloc (h : Blk w g t cs) (o : Obj) : Blk (w.alloc o) g t cs := (Below.heap_alloc w o g h.lt).trans h
theorem Blk.new2 (w : World) (o : Obj) (t : TypeId) (cs : Array Value) : Blk ((w.alloc o).alloc (.cells cs t)) (w.heap.size + 1) t cs := by
  have := Blk.new (w.alloc o) t cs
  rwa [World.size_alloc] at this
theorem Blk.set_ (h : Blk w g t cs) (i : Nat) (u : Value) : Blk (w.setCell ⟨g, i, none⟩ u) g t (cs.setIfInBounds i u) := by
  unfold Blk at h ⊢
  simp [World.setCell, Array.getElem?_modify, h]
theorem Blk.far (h : Blk w g t cs) {p : Addr} (hp : g ≠ p.block) (u : Value) : Blk (w.setCell p u) g t cs := (Below.heap_setCell w p u g hp).trans h
theorem Blk.below {B : Nat} (h : Blk w g t cs) (hb : Below B w w') (hg : g < B) : Blk w' g t cs := (hb.block g hg).trans h
theorem Blk.grown {row : Option Nat} (h : Blk w g t cs) (hb : w.grownBy w' row) (hg : some g ≠ row) : Blk w' g t cs := (hb.block g h.lt hg).trans h
theorem Blk.ne_ {g' : Nat} {t' : TypeId} {cs' : Array Value} (h : Blk w g t cs) (h' : Blk w g' t' cs') (hne : t ≠ t') : g ≠ g' := by
  rintro rfl
  unfold Blk at h h'
  rw [h] at h'
  injection h' with h'
  injection h' with _ ht
  exact hne ht
end

theorem own_drewN {w : World} {base n : Nat} {e : TypeId} {size : Nat} {v : Value} {xs : List Value} (h : w.ownsRow base e size v n xs) (m : Nat) : (w.drewN m).ownsRow base e size v n xs := h
theorem own_drew {w : World} {base n : Nat} {e : TypeId} {size : Nat} {v : Value} {xs : List Value} (h : w.ownsRow base e size v n xs) : w.drew.ownsRow base e size v n xs := h
theorem grown_drewN {a w : World} {row : Option Nat} (h : a.grownBy w row) (n : Nat) : a.grownBy (w.drewN n) row := ⟨h.os, h.tape, h.output, h.size, h.block⟩
theorem drewN_grown {a w : World} {row : Option Nat} {n : Nat} (h : (a.drewN n).grownBy w row) : a.grownBy w row := ⟨h.os, h.tape, h.output, h.size, h.block⟩
theorem drew_grown {a w : World} {row : Option Nat} (h : a.drew.grownBy w row) : a.grownBy w row := ⟨h.os, h.tape, h.output, h.size, h.block⟩
/-! ### what a call keeps: all that was there but for the blocks of F -/
structure Kp (F : Nat → Prop) (w w' : World) : Prop where
  os : w'.os = w.os
  tape : w'.tape = w.tape
  output : w'.output = w.output
  size : w.heap.size ≤ w'.heap.size
  block : ∀ k, k < w.heap.size → ¬ F k → w'.heap[k]? = w.heap[k]?

section
variable {F F' : Nat → Prop} {a b c w w' : World}
theorem Kp.refl (F : Nat → Prop) (w : World) : Kp F w w := ⟨rfl, rfl, rfl, Nat.le_refl _, fun _ _ _ => rfl⟩
theorem Kp.trans (h : Kp F a b) (k : Kp F b c) : Kp F a c :=
  ⟨k.os.trans h.os, k.tape.trans h.tape, k.output.trans h.output, Nat.le_trans h.size k.size, fun i hi hf => (k.block i (Nat.lt_of_lt_of_le hi h.size) hf).trans (h.block i hi hf)⟩
/-- the second step may touch what is new, too -/
theorem Kp.trans' (h : Kp F a b) (k : Kp F' b c) (hF : ∀ i, i < a.heap.size → F' i → F i) : Kp F a c :=
  ⟨k.os.trans h.os, k.tape.trans h.tape, k.output.trans h.output, Nat.le_trans h.size k.size, fun i hi hf => (k.block i (Nat.lt_of_lt_of_le hi h.size) (fun h' => hf (hF i hi h'))).trans (h.block i hi hf)⟩
theorem Kp.mono (h : Kp F a b) (hF : ∀ i, i < a.heap.size → F i → F' i) : Kp F' a b := ⟨h.os, h.tape, h.output, h.size, fun i hi hf => h.block i hi (fun h' => hf (hF i hi h'))⟩
theorem Kp.drew (h : Kp F a w) : Kp F a w.drew := ⟨h.os, h.tape, h.output, h.size, h.block⟩
theorem Kp.drewN (h : Kp F a w) (n : Nat) : Kp F a (w.drewN n) := ⟨h.os, h.tape, h.output, h.size, h.block⟩
theorem Kp.alloc (h : Kp F a w) (o : Obj) : Kp F a (w.alloc o) :=
  ⟨h.os, h.tape, h.output, Nat.le_trans h.size (by simp), fun i hi hf => (Below.heap_alloc w o i (Nat.lt_of_lt_of_le hi h.size)).trans (h.block i hi hf)⟩
theorem Kp.setCell (h : Kp F a w) {p : Addr} (hp : F p.block ∨ a.heap.size ≤ p.block) (u : Value) : Kp F a (w.setCell p u) :=
  ⟨h.os, h.tape, h.output, by simpa [World.setCell] using h.size, fun i hi hf => (Below.heap_setCell w p u i (by
    rintro rfl
    rcases hp with hp | hp
    · exact hf hp
    · omega)).trans (h.block i hi hf)⟩
theorem Kp.grown {row : Option Nat} (h : Kp F a w) (hg : w.grownBy w' row) (hr : ∀ k, row = some k → F k ∨ a.heap.size ≤ k) : Kp F a w' :=
  ⟨hg.os.trans h.os, hg.tape.trans h.tape, hg.output.trans h.output, Nat.le_trans h.size hg.size, fun i hi hf => (hg.block i (Nat.lt_of_lt_of_le hi h.size) (fun e => by
    rcases hr i e.symm with h1 | h1
    · exact hf h1
    · omega)).trans (h.block i hi hf)⟩
theorem Kp.below (h : Kp F a w) (hb : Below w.heap.size w w') : Kp F a w' :=
  ⟨hb.os.trans h.os, hb.tape.trans h.tape, hb.output.trans h.output, Nat.le_trans h.size hb.size, fun i hi hf => (hb.block i (Nat.lt_of_lt_of_le hi h.size)).trans (h.block i hi hf)⟩
theorem Kp.of_below (hb : Below a.heap.size a w) : Kp F a w := (Kp.refl F a).below hb
theorem Kp.of_grown {row : Option Nat} (hg : a.grownBy w row) : Kp (fun k => row = some k) a w := (Kp.refl _ a).grown hg (fun k h => .inl h)
/-- nothing old has turned -/
theorem Kp.to_below (h : Kp F a w) (hF : ∀ i, i < a.heap.size → ¬ F i) : Below a.heap.size a w := ⟨h.os, h.tape, h.output, h.size, fun i hi => h.block i hi (hF i hi)⟩
theorem Kp.to_below' {B : Nat} (h : Kp F a w) (hB : B ≤ a.heap.size) (hF : ∀ i, i < B → ¬ F i) : Below B a w := ⟨h.os, h.tape, h.output, h.size, fun i hi => h.block i (Nat.lt_of_lt_of_le hi hB) (hF i hi)⟩
theorem Kp.cell (h : Kp F w w') {p : Addr} {v : Value} (hc : w.cell? p = some v) (hF : ¬ F p.block) : w'.cell? p = some v :=
  (World.cell?_of_block (h.block p.block (World.block_lt_of_cell? w p hc) hF)).trans hc
theorem Blk.kp {g : Nat} {t : TypeId} {cs : Array Value} (h : Blk w g t cs) (hk : Kp F w w') (hF : ¬ F g) : Blk w' g t cs := (hk.block g h.lt hF).trans h
theorem cell_below (hb : Below w.heap.size w w') {a : Addr} {v : Value} (h : w.cell? a = some v) : w'.cell? a = some v :=
  (hb.cell (World.block_lt_of_cell? w a h)).trans h
theorem cell_drew {a : Addr} {v : Value} (h : w.cell? a = some v) : w.drew.cell? a = some v := h
theorem Below.drewN' {B : Nat} (h : Below B a w) (n : Nat) : Below B a (w.drewN n) := ⟨h.os, h.tape, h.output, h.size, h.block⟩
theorem below_then' {B : Nat} (h : Below B a b) (hB : B ≤ b.heap.size) (k : Below b.heap.size b c) : Below B a c := h.trans (k.mono hB)
end

/-! ### a region that draws its order, whose operations read, and call what makes memory and leaves all that was there: one walk in the order of the text -/
/-- the worlds that come of w by making memory -/
structure LW (w : World) where
  val : World
  property : Below w.heap.size w val
instance (w : World) : Nonempty (LW w) := ⟨⟨w, Below.refl _ _⟩⟩
theorem LW.cell {w : World} (x : LW w) {a : Addr} {v : Value} (h : w.cell? a = some v) : x.val.cell? a = some v := cell_below x.property h
theorem wp_region_later {P : Program} {id : Nat} {Q : Exit → Act → World → Prop} {a : Act} {w : World} {l : List Oper} (hm : P.follows .mixedOrders = true) (hB : Region.lexB .any l.toArray = true)
    (h : wpQuiet P l.toArray (fun w' => ∃ x : LW w, w' = x.val) (fun a' => ∀ w', (∃ x : LW w, w' = x.val) → Q .normal a' w') l a) : (Code.region id l.toArray true).wp P Q a w :=
  wp_region_quiet (C := fun w' => ∃ x : LW w, w' = x.val) hm hB ⟨⟨w.drew, (Below.refl _ _).drew⟩, rfl⟩ (by simpa using h)
theorem later_call {P : Program} {f : FuncId} {args : Array Value} {w : World} {x : LW w} {v : Value}
    (h : Calls P f args x.val fun e w' => e = .returned v ∧ Below x.val.heap.size x.val w') : Calls P f args x.val fun e w'' => e = .returned v ∧ ∃ y : LW w, w'' = y.val :=
  h.mono fun _ w'' ⟨he, hb⟩ => ⟨he, ⟨w'', x.property.trans (hb.mono x.property.size)⟩, rfl⟩

/-! ### a map from ints to ints, entries written out: key, value, birth -/
abbrev IE := Int × Int × Nat
def ient (e : IE) : MapEntry := ⟨.int .i64 e.1, .int .i64 e.2.1, e.2.2⟩
/-- f: what each key holds; g: when each key was born. -/
structure IMap (w : World) (b : Nat) (f : Int → Option Int) (g : Int → Nat) : Prop where
  ex : ∃ (l : List IE) (clock : Nat), w.heap[b]? = some (.map (l.map ient).toArray clock) ∧ (l.map (·.1)).Nodup ∧ (l.map (·.2.2)).Nodup ∧ (∀ e ∈ l, e.2.2 < clock) ∧
    (∀ e ∈ l, f e.1 = some e.2.1 ∧ g e.1 = e.2.2) ∧ (∀ k, (∀ e ∈ l, e.1 ≠ k) → f k = none)

section
variable {P : Program} {w w' : World} {b : Nat} {f : Int → Option Int} {g : Int → Nat} {t k e : TypeId}

theorem IMap.made (w : World) : IMap (w.alloc (.map #[] 0)) w.heap.size (fun _ => none) (fun _ => 0) :=
  ⟨⟨[], 0, (MapKept.heap_alloc w _).1, by simp, by simp, by simp, by simp, by simp⟩⟩
theorem IMap.lt (h : IMap w b f g) : b < w.heap.size := by
  obtain ⟨l, c, hb, _⟩ := h.ex
  exact (Array.getElem?_eq_some_iff.1 hb).1
theorem IMap.same (h : IMap w b f g) (hb : w'.heap[b]? = w.heap[b]?) : IMap w' b f g := by
  obtain ⟨l, c, hl, r⟩ := h.ex
  exact ⟨⟨l, c, hb.trans hl, r⟩⟩
theorem IMap.drew (h : IMap w b f g) : IMap w.drew b f g := h.same rfl
theorem IMap.drewN (h : IMap w b f g) (n : Nat) : IMap (w.drewN n) b f g := h.same rfl
theorem IMap.alloc (h : IMap w b f g) (o : Obj) : IMap (w.alloc o) b f g := h.same (Below.heap_alloc w o b h.lt)
theorem IMap.ne_blk (h : IMap w b f g) {q : Nat} {t : TypeId} {cs : Array Value} (hq : Blk w q t cs) : q ≠ b := by
  rintro rfl
  obtain ⟨l, c, hl, r⟩ := h.ex
  unfold Blk at hq
  rw [hl] at hq
  injection hq with hq
  cases hq

/-- Where key x stands among the entries. -/
theorem findNow_int (x : Int) : ∀ (l : List IE) (i : Nat), Instr.findNow (.int .i64) (.int .i64 x) (l.map ient) i =
    some (match l.findIdx? (fun e => x == e.1) with | some j => some (i + j, .int .i64 ((l[j]?).map (·.2.1)).get!) | none => none)
  | [], i => by simp [Instr.findNow]
  | e :: l, i => by
    have ih := findNow_int x l (i + 1)
    by_cases hx : x = e.1
    · subst hx
      simp [Instr.findNow, Instr.sameNow, ient, List.findIdx?_cons]
    · have hx' : (x == e.1) = false := by simpa using hx
      simp only [List.map_cons, Instr.findNow, Instr.sameNow, ient, if_true, hx', List.findIdx?_cons, Bool.false_eq_true, if_false]
      rw [show (List.map ient l) = l.map ient from rfl] at *
      rw [ih]
      cases hf : l.findIdx? (fun e => x == e.1) with
      | none => simp
      | some j => simp; omega

theorem ifind_none {l : List IE} {x : Int} (h : l.findIdx? (fun e => x == e.1) = none) : ∀ e ∈ l, e.1 ≠ x := by
  intro e he hx
  have := List.findIdx?_eq_none_iff.1 h e he
  simp at this
  exact this hx.symm
theorem ifind_some {l : List IE} {x : Int} {j : Nat} (h : l.findIdx? (fun e => x == e.1) = some j) : ∃ e, l[j]? = some e ∧ e.1 = x ∧ e ∈ l := by
  obtain ⟨hj, hx, _⟩ := List.findIdx?_eq_some_iff_getElem.1 h
  exact ⟨l[j], List.getElem?_eq_getElem hj, by simpa using (beq_iff_eq.1 hx).symm, List.getElem_mem hj⟩

theorem run_findKey_int (hk : P.underlying k = some (.int .i64)) (w : World) (x : Int) (l : List IE) :
    (Instr.findKey k (.int .i64 x) (l.map ient)).run P w = .ok (match l.findIdx? (fun e => x == e.1) with | some j => some (j, .int .i64 ((l[j]?).map (·.2.1)).get!) | none => none) w := by
  unfold Instr.findKey
  simp [run_underlying hk, findNow_int, Result.andThen]
theorem run_checkKey_int (hk : P.underlying k = some (.int .i64)) (w : World) (x : Int) (b : Bool) : (Instr.checkKey b 10000 k (.int .i64 x)).run P w = .ok () w :=
  MapKept.run_checkKey (d := .int .i64) hk (by simp [MapKept.IsKey]) b 9999

theorem setMap (w : World) (b : Nat) (o o' : Obj) (hb : w.heap[b]? = some o') : w.grownBy { w with heap := w.heap.setIfInBounds b o } (some b) :=
  ⟨rfl, rfl, rfl, by simp, fun i _ hi => (MapKept.heap_set hb).2 i (fun e => hi (by rw [e]))⟩

theorem zero_int (he : P.underlying e = some (.int .i64)) (hi : (P.info? e).map (·.zero) = some (some (.int .i64 0))) (w : World) : (zeroValue e).run P w = .ok (.int .i64 0) w := by
  obtain ⟨i, h1, h2⟩ := Option.map_eq_some_iff.1 hi
  simp [zeroValue, typeInfo, h1, h2, Result.andThen]

section
variable (ht : P.underlying t = some (.map k e)) (hk : P.underlying k = some (.int .i64))
include ht hk

/-- 'v, ok := m[x]' -/
theorem IMap.lookup_ok (hz : ∀ w, (zeroValue e).run P w = .ok (.int .i64 0) w) (h : IMap w b f g) (x : Int) :
    (Instr.lookup t (.map (some b)) (.int .i64 x) true).run P w = .ok (.tuple #[.int .i64 ((f x).getD 0), .bool (f x).isSome]) w := by
  obtain ⟨l, c, hb, hn, hn2, hc, hf, hf0⟩ := h.ex
  unfold Instr.lookup
  simp only [Sem.run_bind, run_underlying ht, MapKept.run_getObj_map hb, Result.andThen, run_checkKey_int hk, Sem.run_pure, run_findKey_int hk]
  cases hfi : l.findIdx? (fun e => x == e.1) with
  | none => simp [hf0 x (ifind_none hfi), hz, Result.andThen]
  | some j =>
    obtain ⟨e, he, hx, hm⟩ := ifind_some hfi
    have := (hf e hm).1
    subst hx
    simp [he, this]
/-- 'm[x]' -/
theorem IMap.lookup (hz : ∀ w, (zeroValue e).run P w = .ok (.int .i64 0) w) (h : IMap w b f g) (x : Int) :
    (Instr.lookup t (.map (some b)) (.int .i64 x) false).run P w = .ok (.int .i64 ((f x).getD 0)) w := by
  obtain ⟨l, c, hb, hn, hn2, hc, hf, hf0⟩ := h.ex
  unfold Instr.lookup
  simp only [Sem.run_bind, run_underlying ht, MapKept.run_getObj_map hb, Result.andThen, run_checkKey_int hk, Sem.run_pure, run_findKey_int hk]
  cases hfi : l.findIdx? (fun e => x == e.1) with
  | none => simp [hf0 x (ifind_none hfi), hz, Result.andThen]
  | some j =>
    obtain ⟨e, he, hx, hm⟩ := ifind_some hfi
    have := (hf e hm).1
    subst hx
    simp [he, this]

/-- 'm[x] = v', x new -/
theorem IMap.put_new (h : IMap w b f g) (x v : Int) (hx : f x = none) :
    ∃ w' g', (Instr.mapUpdate t (.map (some b)) (.int .i64 x) (.int .i64 v)).run P w = .ok () w' ∧ w.grownBy w' (some b) ∧ IMap w' b (fun y => if y = x then some v else f y) g' := by
  obtain ⟨l, c, hb, hn, hn2, hc, hf, hf0⟩ := h.ex
  have hno : ∀ e ∈ l, e.1 ≠ x := by
    intro e he hex
    have := (hf e he).1
    rw [hex, hx] at this
    cases this
  cases hfi : l.findIdx? (fun e => x == e.1) with
  | some j =>
    obtain ⟨e, he, hex, hm⟩ := ifind_some hfi
    exact absurd hex (hno e hm)
  | none =>
    refine ⟨_, fun y => if y = x then c else g y, ?_, setMap w b (.map (l.map ient ++ [ient (x, v, c)]).toArray (c + 1)) _ hb, ⟨⟨l ++ [(x, v, c)], c + 1, ?_, ?_, ?_, ?_, ?_, ?_⟩⟩⟩
    · unfold Instr.mapUpdate
      simp only [Sem.run_bind, run_underlying ht, MapKept.run_getObj_map hb, Result.andThen, run_checkKey_int hk, Sem.run_pure, run_findKey_int hk, hfi]
      simp [MapKept.run_setObj_map _ hb, ient]
    · rw [(MapKept.heap_set hb).1]; simp
    · simp only [List.map_append, List.map_cons, List.map_nil]
      refine List.nodup_append.2 ⟨hn, by simp, fun a ha c' hc' e1 => ?_⟩
      simp only [List.mem_singleton] at hc'
      obtain ⟨y, hy, rfl⟩ := List.mem_map.1 ha
      exact hno y hy (e1.trans hc')
    · simp only [List.map_append, List.map_cons, List.map_nil]
      refine List.nodup_append.2 ⟨hn2, by simp, fun a ha c' hc' e1 => ?_⟩
      simp only [List.mem_singleton] at hc'
      obtain ⟨y, hy, rfl⟩ := List.mem_map.1 ha
      have := hc y hy
      omega
    · intro y hy
      rcases List.mem_append.1 hy with hy | hy
      · have := hc y hy; omega
      · simp only [List.mem_singleton] at hy; subst hy; simp
    · intro y hy
      rcases List.mem_append.1 hy with hy | hy
      · have := hno y hy; have h2 := hf y hy; simp [this, h2]
      · simp only [List.mem_singleton] at hy; subst hy; simp
    · intro y hy
      have hyx : y ≠ x := fun e => hy (x, v, c) (by simp) e.symm
      rw [if_neg hyx]
      exact hf0 y fun e he => hy e (by simp [he])

/-- the entry of a key that is there: nothing turns; its birth names it -/
theorem IMap.entry (h : IMap w b f g) (x : Int) {v : Int} (hx : f x = some v) :
    (Instr.mapEntry t (.map (some b)) (.int .i64 x)).run P w = .ok (.tuple #[.int .i64 v, (.int .i64 ((g x : Nat) : Int))]) w := by
  obtain ⟨l, c, hb, hn, hn2, hc, hf, hf0⟩ := h.ex
  cases hfi : l.findIdx? (fun e => x == e.1) with
  | none => rw [hf0 x (ifind_none hfi)] at hx; cases hx
  | some j =>
    obtain ⟨e, he, hex, hm⟩ := ifind_some hfi
    subst hex
    have h1 := hf e hm
    rw [h1.1] at hx
    injection hx with hx
    have hj : (l.map ient).toArray[j]? = some (ient e) := by simp [he]
    have hsame : ((l.map ient).modify j fun e' => { key := .int .i64 e.1, val := e'.val, born := e'.born }) = l.map ient :=
      List.ext_getElem? fun i => by
        rw [List.getElem?_modify]
        by_cases hi : j = i
        · subst hi; simp [he, ient]
        · simp [hi]
    have hset : ({ w with heap := w.heap.setIfInBounds b (.map (l.map ient).toArray c) } : World) = w := by
      have : w.heap.setIfInBounds b (.map (l.map ient).toArray c) = w.heap := by
        apply Array.ext_getElem?
        intro i
        rw [Array.getElem?_setIfInBounds]
        split
        · rename_i hi; subst hi
          rw [hb]; simp [(Array.getElem?_eq_some_iff.1 hb).1]
        · rfl
      rw [this]
    unfold Instr.mapEntry
    simp only [Sem.run_bind, run_underlying ht, MapKept.run_getObj_map hb, Result.andThen, run_checkKey_int hk, Sem.run_pure, run_findKey_int hk, hfi, hj]
    simp [he, ient, MapKept.run_keyThatStays (d := .int .i64) (k := .int .i64 e.1) (by simp [MapKept.IsKey])]
    rw [hsame, MapKept.run_setObj_map _ hb]
    simp [hset, hx, h1.2, goInt]

end
theorem modify_proj {α β : Type} (p : α → β) (f : α → α) (hp : ∀ a, p (f a) = p a) : ∀ (l : List α) (j : Nat), (l.modify j f).map p = l.map p
  | [], j => by cases j <;> simp [List.modify]
  | a :: l, 0 => by simp [hp]
  | a :: l, j + 1 => by simp [modify_proj p f hp l j]
theorem mem_modify_of {α : Type} {f : α → α} {l : List α} {j : Nat} {y : α} (h : y ∈ l.modify j f) : ∃ y0, (y0 ∈ l ∧ (y = y0 ∨ y = f y0)) ∧ True := by
  obtain ⟨i, hi⟩ := List.mem_iff_getElem?.1 h
  rw [List.getElem?_modify] at hi
  cases hl : l[i]? with
  | none => simp [hl] at hi
  | some a =>
    refine ⟨a, ⟨List.mem_of_getElem? hl, ?_⟩, trivial⟩
    rw [hl] at hi
    by_cases hij : j = i <;> simp [hij] at hi
    · exact .inr hi.symm
    · exact .inl hi.symm
/-- 'm[x] = v' behind the births: x is there already -/
theorem IMap.put_old (h : IMap w b f g) (x v : Int) {v0 : Int} (hx : f x = some v0) :
    ∃ w', (Instr.entryStore t (.map (some b)) ((.int .i64 ((g x : Nat) : Int))) (.int .i64 v)).run P w = .ok () w' ∧ w.grownBy w' (some b) ∧ IMap w' b (fun y => if y = x then some v else f y) g := by
  obtain ⟨l, c, hb, hn, hn2, hc, hf, hf0⟩ := h.ex
  have hex : ∃ e ∈ l, e.1 = x := by
    by_cases hh : ∃ e ∈ l, e.1 = x
    · exact hh
    · rw [hf0 x (fun e he hx => hh ⟨e, he, hx⟩)] at hx; cases hx
  obtain ⟨e, he, rfl⟩ := hex
  obtain ⟨j, hj⟩ := List.mem_iff_getElem?.1 he
  have hge : g e.1 = e.2.2 := (hf e he).2
  have hidx : (l.map ient).toArray.findIdx? (fun e' => ((e'.born : Nat) : Int) == ((e.2.2 : Nat) : Int)) = some j := by
    rw [List.findIdx?_toArray, List.findIdx?_eq_some_iff_getElem]
    obtain ⟨hlt, hj2⟩ := List.getElem?_eq_some_iff.1 hj
    refine ⟨by simpa using hlt, by simp [hj2, ient], fun i hi => ?_⟩
    simp only [List.getElem_map, ient]
    intro hbad
    have hb2 : (l[i]'(by omega)).2.2 = e.2.2 := by have := beq_iff_eq.1 hbad; omega
    have hp := List.pairwise_iff_getElem.1 hn2 i j (by simp; omega) (by simpa using hlt) hi
    simp [hb2, hj2] at hp
  refine ⟨_, ?_, setMap w b (.map (((l.modify j fun e' => (e'.1, v, e'.2.2)).map ient).toArray) c) _ hb, ⟨⟨l.modify j (fun e' => (e'.1, v, e'.2.2)), c, ?_, ?_, ?_, ?_, ?_, ?_⟩⟩⟩
  · unfold Instr.entryStore
    simp only [Sem.run_bind, MapKept.run_getObj_map hb, Result.andThen]
    have hm : (l.map ient).toArray.modify j (fun e' => { e' with val := .int .i64 v }) = ((l.modify j fun e' => (e'.1, v, e'.2.2)).map ient).toArray := by
      apply Array.ext'
      rw [Array.toList_modify]
      exact List.ext_getElem? fun i => by
        simp only [List.getElem?_modify, List.getElem?_map]
        by_cases hi : j = i
        · subst hi; simp [hj, ient]
        · simp [hi]
    simp [asInt, asIntOf, goInt, hge, hidx, Result.andThen, hm, MapKept.run_setObj_map _ hb]
  · rw [(MapKept.heap_set hb).1]
  · rw [show (l.modify j fun e' => (e'.1, v, e'.2.2)).map (·.1) = l.map (·.1) from modify_proj (·.1) (fun e' : IE => (e'.1, v, e'.2.2)) (fun _ => rfl) l j]; exact hn
  · rw [show (l.modify j fun e' => (e'.1, v, e'.2.2)).map (·.2.2) = l.map (·.2.2) from modify_proj (·.2.2) (fun e' : IE => (e'.1, v, e'.2.2)) (fun _ => rfl) l j]; exact hn2
  · intro y hy
    obtain ⟨y0, ⟨hm, h1⟩, _⟩ := mem_modify_of hy
    rcases h1 with h1 | h1 <;> rw [h1] <;> exact hc y0 hm
  · intro y hy
    obtain ⟨i, hi⟩ := List.mem_iff_getElem?.1 hy
    rw [List.getElem?_modify] at hi
    by_cases hij : j = i
    · subst hij
      simp [hj] at hi
      subst hi
      simp [hge]
    · simp [hij] at hi
      have hm := List.mem_of_getElem? hi
      have hne : y.1 ≠ e.1 := by
        intro heq
        obtain ⟨h1, h2⟩ := List.getElem?_eq_some_iff.1 hi
        obtain ⟨h3, h4⟩ := List.getElem?_eq_some_iff.1 hj
        rcases Nat.lt_or_gt_of_ne hij with hlt | hlt
        · have hp := List.pairwise_iff_getElem.1 hn j i (by simpa using h3) (by simpa using h1) hlt
          simp [h2, h4, heq] at hp
        · have hp := List.pairwise_iff_getElem.1 hn i j (by simpa using h1) (by simpa using h3) hlt
          simp [h2, h4, heq] at hp
      rw [if_neg hne]
      exact hf y hm
  · intro y hy
    have hye : y ≠ e.1 := by
      rintro rfl
      have hm : (e.1, v, e.2.2) ∈ l.modify j fun e' => (e'.1, v, e'.2.2) := List.mem_iff_getElem?.2 ⟨j, by simp [List.getElem?_modify, hj]⟩
      exact hy _ hm rfl
    rw [if_neg hye]
    refine hf0 y fun z hz hzy => ?_
    obtain ⟨i, hi⟩ := List.mem_iff_getElem?.1 hz
    by_cases hij : j = i
    · subst hij; rw [hj] at hi; injection hi with hi; subst hi; exact hye hzy.symm
    · exact hy z (List.mem_iff_getElem?.2 ⟨i, by simp [List.getElem?_modify, hij, hi]⟩) hzy

theorem map_erase {α β : Type} (f : α → β) : ∀ (l : List α) (j : Nat), (l.map f).eraseIdx j = (l.eraseIdx j).map f
  | [], j => by simp
  | a :: l, 0 => by simp
  | a :: l, j + 1 => by simp [map_erase f l j]
/-- 'delete(m, x)' -/
theorem IMap.del (ht : P.underlying t = some (.map k e)) (hk : P.underlying k = some (.int .i64)) (ty : TypeId) (h : IMap w b f g) (x : Int) :
    ∃ w', (Builtin.delete_ #[t, k] ty #[.map (some b), .int .i64 x]).run P w = .ok (.tuple #[]) w' ∧ w.grownBy w' (some b) ∧ IMap w' b (fun y => if y = x then none else f y) g := by
  obtain ⟨l, c, hb, hn, hn2, hc, hf, hf0⟩ := h.ex
  have key : ∀ l' : List IE, l'.Sublist l → (∀ e' ∈ l', e'.1 ≠ x) → (∀ e' ∈ l, e'.1 ≠ x → e' ∈ l') → 
      w.grownBy { w with heap := w.heap.setIfInBounds b (.map (l'.map ient).toArray c) } (some b) ∧ IMap { w with heap := w.heap.setIfInBounds b (.map (l'.map ient).toArray c) } b (fun y => if y = x then none else f y) g := by
    intro l' hs hx hall
    refine ⟨setMap w b _ _ hb, ⟨⟨l', c, (MapKept.heap_set hb).1, (hs.map _).nodup hn, (hs.map _).nodup hn2, fun y hy => hc y (hs.subset hy), fun y hy => ?_, fun y hy => ?_⟩⟩⟩
    · rw [if_neg (hx y hy)]; exact hf y (hs.subset hy)
    · by_cases hyx : y = x
      · rw [if_pos hyx]
      · rw [if_neg hyx]
        exact hf0 y fun z hz hzy => hy z (hall z hz (fun e => hyx (hzy.symm.trans e))) hzy
  cases hfi : l.findIdx? (fun e => x == e.1) with
  | none =>
    obtain ⟨h1, h2⟩ := key l (List.Sublist.refl l) (ifind_none hfi) (fun e' h' _ => h')
    refine ⟨_, ?_, h1, h2⟩
    unfold Builtin.delete_
    simp [Sem.run_bind, run_underlying ht, MapKept.run_getObj_map hb, Result.andThen, run_checkKey_int hk, Sem.run_pure, run_findKey_int hk, hfi, MapKept.run_setObj_map _ hb]
  | some j =>
    obtain ⟨e0, he, hex, hm⟩ := ifind_some hfi
    obtain ⟨hlt, hj2⟩ := List.getElem?_eq_some_iff.1 he
    have hd : ∀ i (hi : i < l.length), i ≠ j → (l[i]).1 ≠ x := by
      intro i hi hij hbad
      rcases Nat.lt_or_gt_of_ne hij with h1 | h1
      · have hp := List.pairwise_iff_getElem.1 hn i j (by simpa using hi) (by simpa using hlt) h1
        simp [hj2, hbad, hex] at hp
      · have hp := List.pairwise_iff_getElem.1 hn j i (by simpa using hlt) (by simpa using hi) h1
        simp [hj2, hbad, hex] at hp
    obtain ⟨h1, h2⟩ := key (l.eraseIdx j) (List.eraseIdx_sublist _ _) (fun e' h' => by
        obtain ⟨i, hi, hne, rfl⟩ := List.mem_eraseIdx_iff_getElem.1 h'
        exact hd i hi hne) (fun e' h' hne => by
        obtain ⟨i, hi, rfl⟩ := List.mem_iff_getElem.1 h'
        refine List.mem_eraseIdx_iff_getElem.2 ⟨i, hi, fun hij => hne (by subst hij; rw [hj2]; exact hex), rfl⟩)
    refine ⟨_, ?_, h1, h2⟩
    have her : (l.map ient).eraseIdx j = (l.eraseIdx j).map ient := map_erase ient l j
    unfold Builtin.delete_
    simp [Sem.run_bind, run_underlying ht, MapKept.run_getObj_map hb, Result.andThen, run_checkKey_int hk, Sem.run_pure, run_findKey_int hk, hfi]
    rw [her, MapKept.run_setObj_map _ hb]
theorem IMap.kp {F : Nat → Prop} (h : IMap w b f g) (hk : Kp F w w') (hF : ¬ F b) : IMap w' b f g := h.same (hk.block b h.lt hF)
end
end Go.Proofs.YtnifpeamgoapmaaDoor
