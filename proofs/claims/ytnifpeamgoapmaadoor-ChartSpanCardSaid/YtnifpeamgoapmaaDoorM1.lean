/- A binary heap in a list, ordered by a relation that may be broken at one place: what an exchange with the parent, or with the lesser child, does to it. No Go. -/
set_option linter.unusedVariables false
set_option linter.unusedSimpArgs false
namespace Go.Proofs.YtnifpeamgoapmaaDoor
/-- A value: its cost, its size. -/
structure Vl where
  c : Int
  s : Int
  deriving DecidableEq
def vlt (a b : Vl) : Bool := decide (a.c < b.c) || (a.c == b.c && decide (a.s < b.s))
theorem vlt_iff (a b : Vl) : vlt a b = true ↔ a.c < b.c ∨ (a.c = b.c ∧ a.s < b.s) := by simp [vlt]
/-- An entry of the heap: the element, its handle, its time. -/
structure Ent where
  x : Int
  h : Int
  t : Int
def sw (es : List Ent) (i j : Nat) : List Ent := (es.set i (es.getD j ⟨0, 0, 0⟩)).set j (es.getD i ⟨0, 0, 0⟩)
theorem sw_length (es : List Ent) (i j : Nat) : (sw es i j).length = es.length := by simp [sw]
theorem sw_get (es : List Ent) (i j : Nat) {ei ej : Ent} (hi : es[i]? = some ei) (hj : es[j]? = some ej) : sw es i j = (es.set i ej).set j ei := by
  simp [sw, List.getD, hi, hj]
theorem sw_at_i (es : List Ent) (i j : Nat) {ei ej : Ent} (hi : es[i]? = some ei) (hj : es[j]? = some ej) : (sw es i j)[i]? = some ej := by
  rw [sw_get es i j hi hj]
  have h1 : i < es.length := (List.getElem?_eq_some_iff.1 hi).1
  by_cases hij : j = i
  · subst hij; rw [hi] at hj; injection hj with hj; subst hj; simp [h1]
  · simp [List.getElem?_set, hij, h1]
theorem sw_at_j (es : List Ent) (i j : Nat) {ei ej : Ent} (hi : es[i]? = some ei) (hj : es[j]? = some ej) : (sw es i j)[j]? = some ei := by
  rw [sw_get es i j hi hj]
  have h1 : j < es.length := (List.getElem?_eq_some_iff.1 hj).1
  simp [h1]
theorem sw_at_other (es : List Ent) (i j k : Nat) (h1 : k ≠ i) (h2 : k ≠ j) : (sw es i j)[k]? = es[k]? := by
  simp [sw, List.getElem?_set, Ne.symm h1, Ne.symm h2]
theorem sw_self (es : List Ent) (i : Nat) : sw es i i = es := by
  apply List.ext_getElem?
  intro k
  by_cases hk : k = i
  · subst hk
    cases h : es[k]? with
    | none => simp [sw, List.getD, h]; simpa using h
    | some e => exact sw_at_i es k k h h
  · exact sw_at_other es i i k hk hk
theorem set_perm {α : Type} (l : List α) (i : Nat) (a b : α) (h : l[i]? = some b) : (a :: l).Perm (b :: l.set i a) := by
  induction l generalizing i with
  | nil => simp at h
  | cons c l ih =>
    cases i with
    | zero => simp at h; subst h; exact List.Perm.swap _ _ _
    | succ i =>
      have := ih i (by simpa using h)
      exact (List.Perm.swap c a l).trans ((this.cons c).trans (List.Perm.swap _ _ _))
theorem sw_perm (es : List Ent) (i j : Nat) (hi : i < es.length) (hj : j < es.length) : (sw es i j).Perm es := by
  by_cases hij : i = j
  · subst hij; rw [sw_self]
  obtain ⟨ei, hei⟩ : ∃ e, es[i]? = some e := ⟨_, List.getElem?_eq_getElem hi⟩
  obtain ⟨ej, hej⟩ : ∃ e, es[j]? = some e := ⟨_, List.getElem?_eq_getElem hj⟩
  rw [sw_get es i j hei hej]
  have h1 := set_perm es i ej ei hei
  have h2 := set_perm (es.set i ej) j ei ej (by simp [List.getElem?_set, hij, hej])
  have h3 := (h1.trans (h2 : (ei :: es.set i ej).Perm _))
  exact (List.perm_cons ej).1 h3.symm

/-- a's value is at most b's -/
def LE (v : Int → Vl) (a b : Ent) : Prop := vlt (v b.x) (v a.x) = false
theorem LE.refl (v : Int → Vl) (a : Ent) : LE v a a := by simp [LE, vlt]
theorem LE.trans {v : Int → Vl} {a b c : Ent} (h : LE v a b) (k : LE v b c) : LE v a c := by
  simp only [LE, vlt, Bool.or_eq_false_iff, decide_eq_false_iff_not, Bool.and_eq_false_iff, beq_eq_false_iff_ne] at *
  omega
theorem LE.total (v : Int → Vl) (a b : Ent) : LE v a b ∨ LE v b a := by
  simp only [LE, vlt, Bool.or_eq_false_iff, decide_eq_false_iff_not, Bool.and_eq_false_iff, beq_eq_false_iff_ne] at *
  omega
theorem LE.of_vlt {v : Int → Vl} {a b : Ent} (h : vlt (v a.x) (v b.x) = true) : LE v a b := by
  simp only [LE, vlt, Bool.or_eq_false_iff, decide_eq_false_iff_not, Bool.and_eq_false_iff, beq_eq_false_iff_ne, Bool.or_eq_true, decide_eq_true_eq, Bool.and_eq_true, beq_iff_eq] at *
  omega

/-- the order of the queue: the value, then the time -/
def bef (v : Int → Vl) (a b : Ent) : Bool := vlt (v a.x) (v b.x) || (!(vlt (v b.x) (v a.x)) && decide (a.t < b.t))
theorem LE.of_bef {v : Int → Vl} {a b : Ent} (h : bef v a b = true) : LE v a b := by
  unfold bef at h
  by_cases h1 : vlt (v a.x) (v b.x) = true
  · exact LE.of_vlt h1
  · simp only [h1, Bool.false_or, Bool.and_eq_true] at h
    have := h.1
    simpa [LE] using this
theorem LE.of_not_bef {v : Int → Vl} {a b : Ent} (h : bef v a b = false) : LE v b a := by
  unfold bef at h
  simp only [Bool.or_eq_false_iff] at h
  exact h.1

/-- every entry but those whose parent is excused is at least its parent -/
def HOrd (v : Int → Vl) (es : List Ent) (ok : Nat → Nat → Prop) : Prop :=
  ∀ k p ek ep, 0 < k → p = (k - 1) / 2 → es[k]? = some ek → es[p]? = some ep → ok p k → LE v ep ek
/-- a heap -/
def Heap (v : Int → Vl) (es : List Ent) : Prop := HOrd v es fun _ _ => True
/-- a heap but for place i, which may be less than its parent -/
def HUp (v : Int → Vl) (es : List Ent) (i : Nat) : Prop :=
  HOrd v es (fun _ k => k ≠ i) ∧ ∀ k ek ep, 0 < i → 0 < k → (k - 1) / 2 = i → es[k]? = some ek → es[(i - 1) / 2]? = some ep → LE v ep ek
/-- a heap but for place i, which may be more than its children -/
def HDown (v : Int → Vl) (es : List Ent) (i : Nat) : Prop :=
  HOrd v es (fun p _ => p ≠ i) ∧ ∀ k ek ep, 0 < i → 0 < k → (k - 1) / 2 = i → es[k]? = some ek → es[(i - 1) / 2]? = some ep → LE v ep ek

theorem Heap.hup {v : Int → Vl} {es : List Ent} (h : Heap v es) (i : Nat) : HUp v es i :=
  ⟨fun k p ek ep h0 hp h1 h2 _ => h k p ek ep h0 hp h1 h2 trivial, fun k ek ep hi hk hp h1 h2 => by
    obtain ⟨e, he⟩ : ∃ e, es[i]? = some e := ⟨_, List.getElem?_eq_getElem (by have := (List.getElem?_eq_some_iff.1 h1).1; omega)⟩
    exact (h i _ e ep hi rfl he h2 trivial).trans (h k i ek e hk hp.symm h1 he trivial)⟩
theorem Heap.hdown {v : Int → Vl} {es : List Ent} (h : Heap v es) (i : Nat) : HDown v es i :=
  ⟨fun k p ek ep h0 hp h1 h2 _ => h k p ek ep h0 hp h1 h2 trivial, (h.hup i).2⟩
theorem HUp.done {v : Int → Vl} {es : List Ent} {i : Nat} (h : HUp v es i) (hi : 0 < i → ∀ ei ep, es[i]? = some ei → es[(i - 1) / 2]? = some ep → LE v ep ei) : Heap v es := by
  intro k p ek ep h0 hp h1 h2 _
  by_cases hk : k = i
  · subst hk; subst hp; exact hi h0 ek ep h1 h2
  · exact h.1 k p ek ep h0 hp h1 h2 hk
theorem HDown.done {v : Int → Vl} {es : List Ent} {i : Nat} (h : HDown v es i) (hi : ∀ k ei ek, 0 < k → (k - 1) / 2 = i → es[i]? = some ei → es[k]? = some ek → LE v ei ek) : Heap v es := by
  intro k p ek ep h0 hp h1 h2 _
  by_cases hk : p = i
  · subst hk; exact hi k ep ek h0 hp.symm h2 h1
  · exact h.1 k p ek ep h0 hp h1 h2 hk

theorem HUp.step {v : Int → Vl} {es : List Ent} {i : Nat} (h : HUp v es i) (h0 : 0 < i) (hi : i < es.length)
    (hb : ∀ ei ep, es[i]? = some ei → es[(i - 1) / 2]? = some ep → LE v ei ep) : HUp v (sw es i ((i - 1) / 2)) ((i - 1) / 2) := by
  obtain ⟨p, hp⟩ : ∃ p, p = (i - 1) / 2 := ⟨_, rfl⟩
  rw [← hp] at hb ⊢
  have hpl : p < es.length := by omega
  obtain ⟨ei, hei⟩ : ∃ e, es[i]? = some e := ⟨_, List.getElem?_eq_getElem hi⟩
  obtain ⟨ep, hep⟩ : ∃ e, es[p]? = some e := ⟨_, List.getElem?_eq_getElem hpl⟩
  have hle := hb ei ep hei hep
  have si := sw_at_i es i p hei hep
  have sp := sw_at_j es i p hei hep
  have so := fun k h1 h2 => sw_at_other es i p k h1 h2
  refine ⟨fun k q ek eq k0 hq h1 h2 hk => ?_, fun k ek eq p0 k0 hq h1 h2 => ?_⟩
  · by_cases hki : k = i
    · subst hki
      obtain rfl : q = p := by omega
      rw [si] at h1; rw [sp] at h2
      injection h1 with h1; injection h2 with h2; subst h1; subst h2
      exact hle
    · rw [so k hki hk] at h1
      by_cases hqi : q = i
      · subst hqi
        rw [si] at h2; injection h2 with h2; subst h2
        exact h.2 k ek _ h0 k0 hq.symm h1 (hp ▸ hep)
      · by_cases hqp : q = p
        · subst hqp
          rw [sp] at h2; injection h2 with h2; subst h2
          exact hle.trans (h.1 k q ek ep k0 hq h1 hep hki)
        · rw [so q hqi hqp] at h2
          exact h.1 k q ek eq k0 hq h1 h2 hki
  · have hqp : (p - 1) / 2 ≠ p := by omega
    have hqi : (p - 1) / 2 ≠ i := by omega
    rw [so _ hqi hqp] at h2
    have hpe := h.1 p _ ep eq p0 rfl hep h2 (by omega)
    by_cases hki : k = i
    · subst hki
      rw [si] at h1; injection h1 with h1; subst h1
      exact hpe
    · rw [so k hki (by omega)] at h1
      exact hpe.trans (h.1 k p ek ep k0 hq.symm h1 hep hki)

theorem HDown.step {v : Int → Vl} {es : List Ent} {i l : Nat} (h : HDown v es i) (l0 : 0 < l) (hl : (l - 1) / 2 = i) (hll : l < es.length)
    (hb : ∀ ei el, es[i]? = some ei → es[l]? = some el → LE v el ei) (hc : ∀ k ek el, 0 < k → (k - 1) / 2 = i → es[k]? = some ek → es[l]? = some el → LE v el ek) : HDown v (sw es i l) l := by
  have hil : i < es.length := by omega
  obtain ⟨ei, hei⟩ : ∃ e, es[i]? = some e := ⟨_, List.getElem?_eq_getElem hil⟩
  obtain ⟨el, hel⟩ : ∃ e, es[l]? = some e := ⟨_, List.getElem?_eq_getElem hll⟩
  have hle := hb ei el hei hel
  have si := sw_at_i es i l hei hel
  have sl := sw_at_j es i l hei hel
  have so := fun k h1 h2 => sw_at_other es i l k h1 h2
  refine ⟨fun k q ek eq k0 hq h1 h2 hk => ?_, fun k ek eq p0 k0 hq h1 h2 => ?_⟩
  · by_cases hki : k = i
    · subst hki
      rw [si] at h1; injection h1 with h1; subst h1
      have hqk : q ≠ k := by omega
      rw [so q hqk hk] at h2
      exact h.2 l el eq (by omega) l0 hl hel (hq ▸ h2)
    · by_cases hkl : k = l
      · subst hkl
        obtain rfl : q = i := by omega
        rw [sl] at h1; rw [si] at h2
        injection h1 with h1; injection h2 with h2; subst h1; subst h2
        exact hle
      · rw [so k hki hkl] at h1
        by_cases hqi : q = i
        · subst hqi
          rw [si] at h2; injection h2 with h2; subst h2
          exact hc k ek el k0 hq.symm h1 hel
        · rw [so q hqi hk] at h2
          exact h.1 k q ek eq k0 hq h1 h2 hqi
  · rw [hl, si] at h2; injection h2 with h2; subst h2
    rw [so k (by omega) (by omega)] at h1
    exact h.1 k l ek el k0 hq.symm h1 hel (by omega)

/-- the root is least -/
theorem Heap.root {v : Int → Vl} {es : List Ent} (h : Heap v es) {e0 : Ent} (h0 : es[0]? = some e0) : ∀ (k : Nat) ek, es[k]? = some ek → LE v e0 ek := by
  intro k
  induction k using Nat.strongRecOn with
  | _ k ih =>
    intro ek hk
    by_cases k0 : k = 0
    · subst k0; rw [h0] at hk; injection hk with hk; subst hk; exact LE.refl _ _
    · have hlt : (k - 1) / 2 < es.length := by have := (List.getElem?_eq_some_iff.1 hk).1; omega
      obtain ⟨ep, hep⟩ : ∃ e, es[(k - 1) / 2]? = some e := ⟨_, List.getElem?_eq_getElem hlt⟩
      exact (ih _ (by omega) ep hep).trans (h k _ ek ep (by omega) rfl hk hep trivial)
/-- a shorter list of a heap's begin -/
theorem HOrd.take {v : Int → Vl} {es : List Ent} {ok : Nat → Nat → Prop} (h : HOrd v es ok) (n : Nat) : HOrd v (es.take n) ok := by
  intro k p ek ep h0 hp h1 h2 hk
  rw [List.getElem?_take] at h1 h2
  split at h1 <;> split at h2 <;> first | cases h1 | cases h2 | skip
  exact h k p ek ep h0 hp h1 h2 hk
/-- the last entry goes to the root, the root leaves -/
theorem Heap.pop {v : Int → Vl} {es : List Ent} (h : Heap v es) (hn : 0 < es.length) : HDown v ((sw es 0 (es.length - 1)).take (es.length - 1)) 0 := by
  refine ⟨fun k p ek ep h0 hp h1 h2 hk => ?_, fun k ek ep h0 => by omega⟩
  rw [List.getElem?_take] at h1 h2
  split at h1 <;> split at h2 <;> first | cases h1 | cases h2 | skip
  rw [sw_at_other _ _ _ _ (by omega) (by omega)] at h1 h2
  exact h k p ek ep h0 hp h1 h2 trivial
/-- a new entry at the end -/
theorem Heap.push {v : Int → Vl} {es : List Ent} (h : Heap v es) (e : Ent) : HUp v (es ++ [e]) es.length := by
  refine ⟨fun k p ek ep h0 hp h1 h2 hk => ?_, fun k ek ep h0 k0 hk h1 => ?_⟩
  · have hk' : k < es.length := by have := (List.getElem?_eq_some_iff.1 h1).1; simp at this; omega
    rw [List.getElem?_append_left hk'] at h1
    rw [List.getElem?_append_left (by omega)] at h2
    exact h k p ek ep h0 hp h1 h2 trivial
  · have := (List.getElem?_eq_some_iff.1 h1).1; simp at this; omega
end Go.Proofs.YtnifpeamgoapmaaDoor
/- The span chart in plain words: rules, arcs, items, instances, values. No Go. -/
namespace Go.Proofs.YtnifpeamgoapmaaDoor

def Inf : Int := 1099511627776
/-- A cell of a chart. -/
structure Cel where
  v : Vl
  r : Int
  a : Int
  deriving DecidableEq
def noneC : Cel := ⟨⟨Inf, 0⟩, -1, 0⟩
/-- A rule of a normal grammar: kind, head, A, B, price, origin. -/
structure NRule where
  k : Int
  h : Int
  a : Int
  b : Int
  p : Int
  o : Int
  deriving DecidableEq
/-- An arc of a lattice: from, to, term, cost. -/
structure ArcP where
  f : Int
  t : Int
  m : Int
  c : Int
  deriving DecidableEq
structure Item where
  h : Int
  f : Int
  t : Int
  deriving DecidableEq
structure Gram where
  nT : Int
  nN : Int
  nS : Int
  rules : List NRule
structure Lat where
  st : Int
  arcs : List ArcP
  fin : List Int
structure Cht where
  cN : Int
  cS : Int
  cells : List Cel

/-- where a span begins -/
def offP (cN cS f t : Int) : Int := (f * cS - f * (f - 1) / 2 + t - f) * cN
/-- At -/
def atP (cN cS : Int) (cs : List Cel) (h f t : Int) : Cel :=
  if h < 0 ∨ cN ≤ h ∨ f < 0 ∨ t < f ∨ cS ≤ t then noneC
  else if (cs.length : Int) < t ∨ (0 < f ∧ (cs.length : Int) < cS) ∨ (0 < t ∧ (cs.length : Int) < cN) ∨ (cs.length : Int) ≤ h then noneC
  else cs.getD (offP cN cS f t + h).toNat noneC

/-- the best value of an element -/
def vof (best : List Vl) (x : Int) : Vl := best.getD x.toNat ⟨0, 0⟩

/-- one tail more -/
def cstep (a v : Vl) : Vl := ⟨min (a.c + v.c) Inf, min (a.s + v.s) Inf⟩
def cfin (a : Vl) : Vl := if a.c = Inf then ⟨Inf, 0⟩ else a
/-- the value of an instance -/
def comb (p : Int) (vs : List Vl) : Vl := cfin (vs.foldl cstep ⟨min p Inf, 1⟩)

/-- What a span's computation looks at. -/
structure SpanC where
  G : Gram
  L : Lat
  C : Cht
  fr : Int
  to : Int
/-- An instance of a rule: its argument, its price, the items that it uses. -/
structure Inst where
  a : Int
  p : Int
  u : List Item

def SpanC.own (X : SpanC) (x : Item) : Bool := x.f == X.fr && x.t == X.to
/-- the value of an item -/
def SpanC.val (X : SpanC) (best : List Vl) (x : Item) : Vl := if X.own x then vof best x.h else (atP X.C.cN X.C.cS X.C.cells x.h x.f x.t).v
/-- the value of an instance -/
def SpanC.cmb (X : SpanC) (best : List Vl) (i : Inst) : Vl := comb i.p (i.u.map (X.val best))
def SpanC.within (X : SpanC) (u : List Item) : Bool := u.any X.own
def SpanC.ready (X : SpanC) (fin : List Bool) (u : List Item) : Bool := u.all fun x => !X.own x || fin.getD x.h.toNat false

/-- the arcs of the span -/
def SpanC.arcOK (X : SpanC) (m : Int) (a : ArcP) : Bool := a.f == X.fr && a.t == X.to && a.m == m
/-- the instances of a rule, in their order -/
def SpanC.insts (X : SpanC) (r : NRule) : List Inst :=
  if r.k = 1 then (if X.fr = X.to then [⟨X.fr, r.p, []⟩] else [])
  else if r.k = 2 then X.L.arcs.zipIdx.filterMap fun ai => if X.arcOK r.a ai.1 then some ⟨(ai.2 : Int), r.p + ai.1.c, []⟩ else none
  else if r.k = 3 then [⟨X.fr, r.p, [⟨r.a, X.fr, X.to⟩]⟩]
  else if r.k = 4 then (List.range (X.to - X.fr + 1).toNat).map fun (d : Nat) => ⟨X.fr + d, r.p, [⟨r.a, X.fr, X.fr + d⟩, ⟨r.b, X.fr + d, X.to⟩]⟩
  else []
/-- the instances at the span's ends -/
def SpanC.bnds (X : SpanC) (r : NRule) : List Inst :=
  if r.k = 4 then [⟨X.fr, r.p, [⟨r.a, X.fr, X.fr⟩, ⟨r.b, X.fr, X.to⟩]⟩, ⟨X.to, r.p, [⟨r.a, X.fr, X.to⟩, ⟨r.b, X.to, X.to⟩]⟩]
  else X.insts r
/-- a value is proposed -/
def offB (best : List Vl) (fin : List Bool) (h : Int) (v : Vl) : List Vl :=
  if fin.getD h.toNat false || decide (Inf ≤ v.c) || !(vlt v (vof best h)) then best else best.set h.toNat v
theorem offB_length (best : List Vl) (fin : List Bool) (h : Int) (v : Vl) : (offB best fin h v).length = best.length := by
  unfold offB; split <;> simp
def usesP (r : NRule) (x : Int) : Bool := (r.k == 3 && r.a == x) || (r.k == 4 && (r.a == x || r.b == x))

/-- the first pass: instances that use no item of the span -/
def SpanC.first1 (X : SpanC) (h : Int) (fin : List Bool) (best : List Vl) (i : Inst) : List Vl := if X.within i.u then best else offB best fin h (X.cmb best i)
/-- behind a head that is settled -/
def SpanC.settle1 (X : SpanC) (h : Int) (fin : List Bool) (best : List Vl) (i : Inst) : List Vl := if X.within i.u && X.ready fin i.u then offB best fin h (X.cmb best i) else best
end Go.Proofs.YtnifpeamgoapmaaDoor
/- The values of a span: closed under the instances and supported by derivations; there is one such list of values; Knuth's algorithm finds it. No Go. -/
namespace Go.Proofs.YtnifpeamgoapmaaDoor

/-- a value within the limits -/
def VOK (v : Vl) : Prop := 0 ≤ v.c ∧ v.c ≤ Inf ∧ 0 ≤ v.s ∧ v.s ≤ Inf
/-- .. and only one of them is infinite -/
def VNF (v : Vl) : Prop := VOK v ∧ (v.c = Inf → v.s = 0)
def vle (a b : Vl) : Prop := vlt b a = false
theorem vle_iff (a b : Vl) : vle a b ↔ a.c < b.c ∨ (a.c = b.c ∧ a.s ≤ b.s) := by
  unfold vle vlt
  simp only [Bool.or_eq_false_iff, decide_eq_false_iff_not, Bool.and_eq_false_iff, beq_eq_false_iff_ne]
  omega
theorem vle_refl (a : Vl) : vle a a := by rw [vle_iff]; omega
theorem vle_trans {a b c : Vl} (h : vle a b) (k : vle b c) : vle a c := by rw [vle_iff] at *; omega
theorem vle_antisymm {a b : Vl} (h : vle a b) (k : vle b a) : a = b := by
  rw [vle_iff] at *
  obtain ⟨ac, as⟩ := a
  obtain ⟨bc, bs⟩ := b
  simp only [Vl.mk.injEq] at *
  omega
theorem vle_of_vlt {a b : Vl} (h : vlt a b = true) : vle a b := by rw [vlt_iff] at h; rw [vle_iff]; omega
theorem vle_of_not {a b : Vl} (h : vlt a b = false) : vle b a := h
theorem vle_total (a b : Vl) : vle a b ∨ vle b a := by rw [vle_iff, vle_iff]; omega
theorem vle_inf {a : Vl} (h : VNF a) : vle a ⟨Inf, 0⟩ := by
  rw [vle_iff]
  obtain ⟨⟨h1, h2, h3, h4⟩, h5⟩ := h
  simp only
  omega
theorem VNF.inf {a : Vl} (h : VNF a) (hc : Inf ≤ a.c) : a = ⟨Inf, 0⟩ := by
  obtain ⟨⟨h1, h2, h3, h4⟩, h5⟩ := h
  obtain ⟨c, s⟩ := a
  simp only [Vl.mk.injEq] at *
  omega
theorem vnf_inf : VNF ⟨Inf, 0⟩ := by unfold VNF VOK Inf; decide

theorem cstep_ok {a v : Vl} (ha : VOK a) (hv : VOK v) : VOK (cstep a v) := by
  unfold VOK cstep Inf at *
  simp only
  omega
theorem fold_ok {vs : List Vl} (h : ∀ v ∈ vs, VOK v) : ∀ {a : Vl}, VOK a → VOK (vs.foldl cstep a) := by
  induction vs with
  | nil => exact fun ha => ha
  | cons v vs ih => exact fun ha => ih (fun u hu => h u (by simp [hu])) (cstep_ok ha (h v (by simp)))
theorem cfin_nf {a : Vl} (h : VOK a) : VNF (cfin a) := by
  unfold cfin
  split
  · exact vnf_inf
  · rename_i hc; exact ⟨h, fun h1 => absurd h1 hc⟩
theorem start_ok {p : Int} (hp : 0 ≤ p) : VOK ⟨min p Inf, 1⟩ := by unfold VOK Inf; simp only; omega
theorem comb_nf {p : Int} {vs : List Vl} (hp : 0 ≤ p) (h : ∀ v ∈ vs, VOK v) : VNF (comb p vs) := cfin_nf (fold_ok h (start_ok hp))

/-- order with all infinite values alike -/
def sle (a b : Vl) : Prop := a.c < b.c ∨ (a.c = b.c ∧ (a.c = Inf ∨ a.s ≤ b.s))
theorem sle_cstep {a b v u : Vl} (ha : VOK a) (hb : VOK b) (hv : VOK v) (hu : VOK u) (h : sle a b) (k : sle v u) : sle (cstep a v) (cstep b u) := by
  unfold sle VOK cstep Inf at *
  simp only
  omega
theorem sle_fold {f g : Item → Vl} : ∀ (us : List Item), (∀ x ∈ us, VOK (f x)) → (∀ x ∈ us, VOK (g x)) → (∀ x ∈ us, sle (f x) (g x)) → ∀ {a b : Vl}, VOK a → VOK b → sle a b → sle ((us.map f).foldl cstep a) ((us.map g).foldl cstep b)
  | [], _, _, _, _, _, _, _, h => h
  | x :: us, hf, hg, hl, a, b, ha, hb, h => sle_fold us (fun y hy => hf y (by simp [hy])) (fun y hy => hg y (by simp [hy])) (fun y hy => hl y (by simp [hy])) (cstep_ok ha (hf x (by simp))) (cstep_ok hb (hg x (by simp)))
    (sle_cstep ha hb (hf x (by simp)) (hg x (by simp)) h (hl x (by simp)))
theorem sle_of_vle {a b : Vl} (h : vle a b) : sle a b := by rw [vle_iff] at h; unfold sle; omega
theorem vle_cfin {a b : Vl} (ha : VOK a) (hb : VOK b) (h : sle a b) : vle (cfin a) (cfin b) := by
  unfold sle at h
  unfold VOK at ha hb
  rw [vle_iff]
  unfold cfin
  by_cases h1 : a.c = Inf <;> by_cases h2 : b.c = Inf
  · rw [if_pos h1, if_pos h2]; simp
  · omega
  · rw [if_neg h1, if_pos h2]; simp only; omega
  · rw [if_neg h1, if_neg h2]; omega
/-- less tails, a less value -/
theorem comb_mono {p : Int} (hp : 0 ≤ p) {f g : Item → Vl} (us : List Item) (hf : ∀ x ∈ us, VOK (f x)) (hg : ∀ x ∈ us, VOK (g x)) (h : ∀ x ∈ us, vle (f x) (g x)) : vle (comb p (us.map f)) (comb p (us.map g)) :=
  vle_cfin (fold_ok (by simpa using hf) (start_ok hp)) (fold_ok (by simpa using hg) (start_ok hp)) (sle_fold us hf hg (fun x hx => sle_of_vle (h x hx)) (start_ok hp) (start_ok hp) (by unfold sle; simp))
/-- an instance's value is at least each of its tails -/
theorem sle_fold_acc : ∀ (vs : List Vl), (∀ v ∈ vs, VOK v) → ∀ {a : Vl}, VOK a → sle a (vs.foldl cstep a)
  | [], _, a, _ => by unfold sle; simp
  | v :: vs, h, a, ha => by
    have h1 : sle a (cstep a v) := by
      have hv := h v (by simp)
      unfold sle VOK cstep Inf at *
      simp only
      omega
    have h2 := sle_fold_acc vs (fun u hu => h u (by simp [hu])) (cstep_ok ha (h v (by simp)))
    have h3 := fold_ok (fun u hu => h u (by simp [hu])) (cstep_ok ha (h v (by simp))) (vs := vs)
    have h4 := cstep_ok ha (h v (by simp))
    simp only [List.foldl_cons]
    unfold sle VOK at *
    omega
theorem sle_fold_mem : ∀ (vs : List Vl), (∀ v ∈ vs, VOK v) → ∀ {a : Vl}, VOK a → ∀ v ∈ vs, sle v (vs.foldl cstep a)
  | [], _, _, _, _, h => by simp at h
  | u :: vs, h, a, ha, v, hv => by
    have h0 := h u (by simp)
    have h2 := cstep_ok ha h0
    rcases List.mem_cons.1 hv with rfl | hv
    · have h1 : sle v (cstep a v) := by
        unfold sle VOK cstep Inf at *
        simp only
        omega
      have h3 := sle_fold_acc vs (fun w hw => h w (by simp [hw])) h2
      have h4 := fold_ok (fun w hw => h w (by simp [hw])) h2 (vs := vs)
      simp only [List.foldl_cons]
      unfold sle VOK at *
      omega
    · exact sle_fold_mem vs (fun w hw => h w (by simp [hw])) h2 v hv
theorem comb_sup {p : Int} (hp : 0 ≤ p) {vs : List Vl} (h : ∀ v ∈ vs, VNF v) {v : Vl} (hv : v ∈ vs) : vle v (comb p vs) := by
  have h1 := sle_fold_mem vs (fun u hu => (h u hu).1) (start_ok hp) v hv
  have h2 := fold_ok (fun u hu => (h u hu).1) (start_ok hp) (vs := vs)
  have h3 := h v hv
  rw [vle_iff]
  unfold comb cfin
  unfold sle at h1
  unfold VNF VOK at h3
  unfold VOK at h2
  split <;> (try simp only) <;> omega
/-- an infinite tail, an infinite value -/
theorem comb_inf {p : Int} (hp : 0 ≤ p) {vs : List Vl} (h : ∀ v ∈ vs, VNF v) {v : Vl} (hv : v ∈ vs) (hi : Inf ≤ v.c) : comb p vs = ⟨Inf, 0⟩ := by
  have h1 := comb_sup hp h hv
  have h2 := comb_nf hp (fun u hu => (h u hu).1) (vs := vs)
  refine h2.inf ?_
  rw [vle_iff] at h1
  omega
end Go.Proofs.YtnifpeamgoapmaaDoor
/- What the queue holds while a span's values are found. No Go. -/
namespace Go.Proofs.YtnifpeamgoapmaaDoor

theorem LE_iff (v : Int → Vl) (a b : Ent) : LE v a b ↔ vle (v a.x) (v b.x) := Iff.rfl
/-- one value is lowered -/
theorem Heap.lower {v v' : Int → Vl} {es : List Ent} (h : Heap v es) {i : Nat} {e0 : Ent} (hi : es[i]? = some e0) (hu : ∀ (j : Nat) e, es[j]? = some e → e.x = e0.x → j = i) (ho : ∀ e ∈ es, e.x ≠ e0.x → v' e.x = v e.x) (hl : vle (v' e0.x) (v e0.x)) : HUp v' es i := by
  have hne : ∀ (j : Nat) e, es[j]? = some e → j ≠ i → v' e.x = v e.x := fun j e hj hji => ho e (List.mem_of_getElem? hj) (fun hx => hji (hu j e hj hx))
  refine ⟨fun k p ek ep h0 hp h1 h2 hk => ?_, fun k ek ep h0 k0 hk h1 h2 => ?_⟩
  · rw [LE_iff, hne k ek h1 hk]
    have h3 := (LE_iff _ _ _).1 (h k p ek ep h0 hp h1 h2 trivial)
    by_cases hpi : p = i
    · subst hpi
      rw [hi] at h2
      injection h2 with h2
      subst h2
      exact vle_trans hl h3
    · rw [hne p ep h2 hpi]; exact h3
  · rw [LE_iff, hne k ek h1 (by omega), hne _ ep h2 (by omega)]
    have a1 := (LE_iff _ _ _).1 (h k i ek e0 k0 hk.symm h1 hi trivial)
    have a2 := (LE_iff _ _ _).1 (h i _ e0 ep h0 rfl hi h2 trivial)
    exact vle_trans a2 a1
theorem Heap.same {v v' : Int → Vl} {es : List Ent} (h : Heap v es) (ho : ∀ e ∈ es, v' e.x = v e.x) : Heap v' es := by
  intro k p ek ep h0 hp h1 h2 _
  rw [LE_iff, ho ek (List.mem_of_getElem? h1), ho ep (List.mem_of_getElem? h2)]
  exact h k p ek ep h0 hp h1 h2 trivial

/-- which elements lie in the queue, and under which handles -/
structure HInv (N : Nat) (best : List Vl) (fin : List Bool) (han : List Int) (ks : List (Int × Int)) (nx : Int) : Prop where
  ent : ∀ k ∈ ks, 0 ≤ k.1 ∧ k.1 < (N : Int) ∧ han[k.1.toNat]? = some k.2 ∧ 0 ≤ k.2 ∧ fin[k.1.toNat]? = some false
  nd : (ks.map (·.1)).Nodup
  open_ : ∀ (x : Nat) k, han[x]? = some k → 0 ≤ k → fin[x]? = some false → ((x : Int), k) ∈ ks
  lt : ∀ k ∈ han, k < nx
  nxe : nx = ((han.countP fun k => decide (0 ≤ k)) : Nat)
  known : ∀ (x : Nat) v, best[x]? = some v → v.c < Inf → ∃ k, han[x]? = some k ∧ 0 ≤ k
  klen : (ks.length : Int) ≤ nx
section
variable {N : Nat} {best : List Vl} {fin : List Bool} {han : List Int} {ks : List (Int × Int)} {nx : Int}
theorem HInv.bound (h : HInv N best fin han ks nx) (hl : han.length = N) : 0 ≤ nx ∧ nx ≤ (N : Int) ∧ ks.length ≤ N := by
  have h1 := h.nxe
  have h2 := List.countP_le_length (p := fun k => decide (0 ≤ k)) (l := han)
  have h3 := h.klen
  omega
theorem HInv.perm {ks' : List (Int × Int)} (h : HInv N best fin han ks nx) (hp : ks'.Perm ks) : HInv N best fin han ks' nx :=
  ⟨fun k hk => h.ent k (hp.mem_iff.1 hk), (hp.map _).nodup_iff.2 h.nd, fun x k h1 h2 h3 => hp.mem_iff.2 (h.open_ x k h1 h2 h3), h.lt, h.nxe, h.known, by rw [hp.length_eq]; exact h.klen⟩
theorem HInv.upd (h : HInv N best fin han ks nx) {x : Nat} {k : Int} (hx : han[x]? = some k) (hk : 0 ≤ k) (v : Vl) : HInv N (best.set x v) fin han ks nx :=
  ⟨h.ent, h.nd, h.open_, h.lt, h.nxe, fun y u hy hu => by
    by_cases hyx : y = x
    · subst hyx; exact ⟨k, hx, hk⟩
    · rw [List.getElem?_set_ne (Ne.symm hyx)] at hy; exact h.known y u hy hu, h.klen⟩
theorem HInv.push (h : HInv N best fin han ks nx) {x : Nat} {k : Int} (hx : han[x]? = some k) (hk : k < 0) (hf : fin[x]? = some false) (hN : x < N) (v : Vl) : HInv N (best.set x v) fin (han.set x nx) (((x : Int), nx) :: ks) (nx + 1) := by
  have hxl : x < han.length := (List.getElem?_eq_some_iff.1 hx).1
  have hne : ∀ k' ∈ ks, k'.1.toNat ≠ x := fun k' hk' e => by
    obtain ⟨h1, h2, h3, h4, h5⟩ := h.ent k' hk'
    rw [e, hx] at h3
    injection h3 with h3
    omega
  have hnx : 0 ≤ nx := by have := h.nxe; omega
  refine ⟨?_, ?_, ?_, ?_, ?_, ?_, ?_⟩
  · intro k' hk'
    rcases List.mem_cons.1 hk' with rfl | hk'
    · exact ⟨by simp, by simp; omega, by simp [hxl], hnx, by simpa using hf⟩
    · obtain ⟨h1, h2, h3, h4, h5⟩ := h.ent k' hk'
      exact ⟨h1, h2, by rw [List.getElem?_set_ne (Ne.symm (hne k' hk'))]; exact h3, h4, h5⟩
  · rw [List.map_cons, List.nodup_cons]
    refine ⟨fun hm => ?_, h.nd⟩
    obtain ⟨k', hk', e⟩ := List.mem_map.1 hm
    exact hne k' hk' (by simp only at e; omega)
  · intro y k' h1 h2 h3
    by_cases hyx : y = x
    · subst hyx
      rw [List.getElem?_set_self hxl] at h1
      injection h1 with h1
      subst h1
      exact List.mem_cons_self
    · rw [List.getElem?_set_ne (Ne.symm hyx)] at h1
      exact List.mem_cons_of_mem _ (h.open_ y k' h1 h2 h3)
  · intro k' hk'
    rcases List.mem_or_eq_of_mem_set hk' with h1 | h1
    · have := h.lt k' h1; omega
    · omega
  · have h1 := h.nxe
    have hg : han[x] = k := by have := List.getElem?_eq_some_iff.1 hx; exact this.2
    rw [List.countP_set hxl, hg]
    have e1 : decide (0 ≤ k) = false := by simp; omega
    have e2 : decide (0 ≤ nx) = true := by simp; omega
    simp only [e1, e2]
    simp
    omega
  · intro y u hy hu
    by_cases hyx : y = x
    · subst hyx; exact ⟨nx, by rw [List.getElem?_set_self hxl], hnx⟩
    · rw [List.getElem?_set_ne (Ne.symm hyx)] at hy ⊢; exact h.known y u hy hu
  · have := h.klen
    simp only [List.length_cons]
    omega
theorem HInv.pop {k0 : Int × Int} (h : HInv N best fin han (k0 :: ks) nx) : HInv N best (fin.set k0.1.toNat true) han ks nx := by
  have hnd := h.nd
  rw [List.map_cons, List.nodup_cons] at hnd
  obtain ⟨z0, z1, z2, z3, z4⟩ := h.ent k0 List.mem_cons_self
  refine ⟨?_, hnd.2, ?_, h.lt, h.nxe, h.known, ?_⟩
  · intro k hk
    obtain ⟨h1, h2, h3, h4, h5⟩ := h.ent k (List.mem_cons_of_mem _ hk)
    refine ⟨h1, h2, h3, h4, ?_⟩
    rw [List.getElem?_set_ne]
    · exact h5
    · intro e
      apply hnd.1
      rw [show k0.1 = k.1 by omega]
      exact List.mem_map_of_mem hk
  · intro x k h1 h2 h3
    by_cases hx : k0.1.toNat = x
    · subst hx
      rw [List.getElem?_set_self (by exact (List.getElem?_eq_some_iff.1 z4).1)] at h3
      simp at h3
    · rw [List.getElem?_set_ne hx] at h3
      rcases List.mem_cons.1 (h.open_ x k h1 h2 h3) with e | e
      · rw [← e] at hx; simp at hx
      · exact e
  · have := h.klen
    simp only [List.length_cons] at this
    omega
theorem HInv.init (N : Nat) : HInv N (List.replicate N ⟨Inf, 0⟩) (List.replicate N false) (List.replicate N (-1)) [] 0 := by
  refine ⟨by simp, by simp, ?_, ?_, ?_, ?_, by simp⟩
  · intro x k h1 h2
    have := List.mem_of_getElem? h1
    rw [List.mem_replicate] at this
    omega
  · intro k hk
    rw [List.mem_replicate] at hk
    omega
  · simp [List.countP_replicate]
  · intro x v hv hc
    have := List.mem_of_getElem? hv
    rw [List.mem_replicate] at this
    obtain ⟨_, rfl⟩ := this
    simp only at hc
    omega
end
end Go.Proofs.YtnifpeamgoapmaaDoor
/- The instances of a rule for a terminal, one by one. No Go. -/
namespace Go.Proofs.YtnifpeamgoapmaaDoor

theorem fm_get {α β : Type} (f : α → Option β) : ∀ (xs : List α) (i : Nat) (a : α) (b : β), xs[i]? = some a → f a = some b → (xs.filterMap f)[((xs.take i).filterMap f).length]? = some b
  | [], i, a, b, h, _ => by simp at h
  | x :: xs, 0, a, b, h, hf => by
    simp at h; subst h
    simp [hf]
  | x :: xs, i + 1, a, b, h, hf => by
    have ih := fm_get f xs i a b (by simpa using h) hf
    rw [List.take_succ_cons, List.filterMap_cons, List.filterMap_cons]
    cases hx : f x with
    | none => simpa using ih
    | some y => simpa using ih
theorem fm_some {α β : Type} (f : α → Option β) {xs : List α} {i : Nat} {a : α} {b : β} (h : xs[i]? = some a) (hf : f a = some b) : ((xs.take (i + 1)).filterMap f).length = ((xs.take i).filterMap f).length + 1 := by
  obtain ⟨hl, e⟩ := List.getElem?_eq_some_iff.1 h
  rw [List.take_succ_eq_append_getElem hl, List.filterMap_append, e]
  simp [hf]
theorem fm_none {α β : Type} (f : α → Option β) {xs : List α} {i : Nat} {a : α} (h : xs[i]? = some a) (hf : f a = none) : ((xs.take (i + 1)).filterMap f).length = ((xs.take i).filterMap f).length := by
  obtain ⟨hl, e⟩ := List.getElem?_eq_some_iff.1 h
  rw [List.take_succ_eq_append_getElem hl, List.filterMap_append, e]
  simp [hf]

/-- what an arc gives -/
def SpanC.ofArc (X : SpanC) (r : NRule) (ai : ArcP × Nat) : Option Inst := if X.arcOK r.a ai.1 then some ⟨(ai.2 : Int), r.p + ai.1.c, []⟩ else none
theorem insts2 (X : SpanC) (r : NRule) (hr : r.k = 2) : X.insts r = X.L.arcs.zipIdx.filterMap (X.ofArc r) := by
  unfold SpanC.insts
  rw [if_neg (by omega), if_pos hr]
  rfl
/-- how many instances the first arcs give -/
def SpanC.cnt (X : SpanC) (r : NRule) (i : Nat) : Nat := ((X.L.arcs.zipIdx.take i).filterMap (X.ofArc r)).length
theorem zip_get {X : SpanC} {i : Nat} {a : ArcP} (h : X.L.arcs[i]? = some a) : X.L.arcs.zipIdx[i]? = some (a, i) := by
  rw [List.getElem?_zipIdx, h]; simp
theorem cnt_yes {X : SpanC} {r : NRule} (hr : r.k = 2) {i : Nat} {a : ArcP} (h : X.L.arcs[i]? = some a) (ho : X.arcOK r.a a = true) : (X.insts r)[X.cnt r i]? = some ⟨(i : Int), r.p + a.c, []⟩ ∧ X.cnt r (i + 1) = X.cnt r i + 1 := by
  have hf : X.ofArc r (a, i) = some ⟨(i : Int), r.p + a.c, []⟩ := by unfold SpanC.ofArc; rw [if_pos ho]
  rw [insts2 X r hr]
  exact ⟨fm_get _ _ i _ _ (zip_get h) hf, fm_some _ (zip_get h) hf⟩
theorem cnt_no {X : SpanC} {r : NRule} {i : Nat} {a : ArcP} (h : X.L.arcs[i]? = some a) (ho : X.arcOK r.a a = false) : X.cnt r (i + 1) = X.cnt r i :=
  fm_none _ (zip_get h) (by unfold SpanC.ofArc; rw [if_neg (by rw [ho]; decide)])
theorem cnt_lo {X : SpanC} {r : NRule} {lo : Nat} (h : ∀ (j : Nat) a, j < lo → X.L.arcs[j]? = some a → X.arcOK r.a a = false) : X.cnt r lo = 0 := by
  unfold SpanC.cnt
  rw [List.length_eq_zero_iff, List.filterMap_eq_nil_iff]
  intro ai hai
  obtain ⟨j, hj⟩ := List.getElem?_of_mem hai
  rw [List.getElem?_take] at hj
  split at hj
  · rename_i hlt
    rw [List.getElem?_zipIdx] at hj
    cases ha : X.L.arcs[j]? with
    | none => rw [ha] at hj; simp at hj
    | some a =>
      rw [ha] at hj
      simp at hj
      subst hj
      unfold SpanC.ofArc
      rw [if_neg (by rw [h j a hlt ha]; decide)]
  · cases hj
theorem cnt_hi {X : SpanC} {r : NRule} (hr : r.k = 2) {hi : Nat} (h : ∀ (j : Nat) a, hi ≤ j → X.L.arcs[j]? = some a → X.arcOK r.a a = false) : X.cnt r hi = (X.insts r).length := by
  rw [insts2 X r hr]
  unfold SpanC.cnt
  have e : X.L.arcs.zipIdx.filterMap (X.ofArc r) = (X.L.arcs.zipIdx.take hi).filterMap (X.ofArc r) ++ (X.L.arcs.zipIdx.drop hi).filterMap (X.ofArc r) := by
    rw [← List.filterMap_append, List.take_append_drop]
  have e2 : (X.L.arcs.zipIdx.drop hi).filterMap (X.ofArc r) = [] := by
    rw [List.filterMap_eq_nil_iff]
    intro ai hai
    obtain ⟨j, hj⟩ := List.getElem?_of_mem hai
    rw [List.getElem?_drop, List.getElem?_zipIdx] at hj
    cases ha : X.L.arcs[hi + j]? with
    | none => rw [ha] at hj; simp at hj
    | some a =>
      rw [ha] at hj
      simp at hj
      subst hj
      unfold SpanC.ofArc
      rw [if_neg (by rw [h _ a (by omega) ha]; decide)]
  rw [e, e2, List.append_nil]
theorem inst4_get (X : SpanC) (r : NRule) (hr : r.k = 4) (d : Nat) (hd : d < (X.to - X.fr + 1).toNat) : (X.insts r)[d]? = some ⟨X.fr + d, r.p, [⟨r.a, X.fr, X.fr + d⟩, ⟨r.b, X.fr + d, X.to⟩]⟩ := by
  have : X.insts r = (List.range (X.to - X.fr + 1).toNat).map fun (d : Nat) => ⟨X.fr + d, r.p, [⟨r.a, X.fr, X.fr + d⟩, ⟨r.b, X.fr + d, X.to⟩]⟩ := by simp [SpanC.insts, hr]
  rw [this]
  simp [hd]
theorem inst4_len (X : SpanC) (r : NRule) (hr : r.k = 4) : (X.insts r).length = (X.to - X.fr + 1).toNat := by simp [SpanC.insts, hr]
end Go.Proofs.YtnifpeamgoapmaaDoor
