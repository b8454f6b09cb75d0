/- The values of a span: closed under the instances and supported by derivations; there is one such list of values, and Knuth's algorithm finds it. No Go in sight. -/
import Derived.Test.YtnifpeamgoapmaaDoorM9
set_option linter.unusedVariables false
set_option linter.unusedSimpArgs false
namespace Go.Proofs.YtnifpeamgoapmaaDoor

/-- the chart's value of an item -/
def SpanC.tab (X : SpanC) (x : Item) : Vl := (atP X.C.cN X.C.cS X.C.cells x.h x.f x.t).v
/-- a value of a head that instances give -/
inductive Deriv (X : SpanC) : Int → Vl → Prop
  | mk (r : NRule) (i : Inst) (f : Item → Vl) : r ∈ X.G.rules → i ∈ X.insts r → (∀ x ∈ i.u, X.own x = true → Deriv X x.h (f x)) → (∀ x ∈ i.u, X.own x = false → f x = X.tab x) → Deriv X r.h (comb i.p (i.u.map f))
/-- the values of a span -/
structure IsBest (X : SpanC) (best : List Vl) : Prop where
  len : best.length = X.N
  nf : ∀ v ∈ best, VNF v
  closed : ∀ r ∈ X.G.rules, ∀ i ∈ X.insts r, vle (vof best r.h) (X.cmb best i)
  supp : ∀ (h : Nat) v, best[h]? = some v → v.c < Inf → Deriv X (h : Int) v

theorem tab_nf {X : SpanC} (B : Bds X) (x : Item) : VNF (X.tab x) := atP_nf B.cv _ _ _
theorem val_own {X : SpanC} {best : List Vl} {x : Item} (h : X.own x = true) : X.val best x = vof best x.h := by unfold SpanC.val; rw [if_pos h]
theorem val_tab {X : SpanC} {best : List Vl} {x : Item} (h : X.own x = false) : X.val best x = X.tab x := by unfold SpanC.val; rw [if_neg (by rw [h]; decide)]; rfl
theorem vof_nf {X : SpanC} {best : List Vl} (hl : best.length = X.N) (hn : ∀ v ∈ best, VNF v) {h : Int} (h0 : 0 ≤ h) (h1 : h < X.G.nN) : VNF (vof best h) :=
  hn _ (List.mem_of_getElem? (vof_get (N := X.N) h0 (by unfold SpanC.N; omega) hl))
theorem val_nf {X : SpanC} (B : Bds X) {best : List Vl} (hl : best.length = X.N) (hn : ∀ v ∈ best, VNF v) {i : Inst} (hi : IOK X i) : ∀ x ∈ i.u, VNF (X.val best x) := by
  intro x hx
  cases ho : X.own x with
  | true => rw [val_own ho]; obtain ⟨h0, h1⟩ := hi.own x hx ho; exact vof_nf hl hn h0 h1
  | false => rw [val_tab ho]; exact tab_nf B x
theorem cmb_nfp {X : SpanC} (B : Bds X) {best : List Vl} (hl : best.length = X.N) (hn : ∀ v ∈ best, VNF v) {i : Inst} (hi : IOK X i) : VNF (X.cmb best i) :=
  comb_nf hi.p0 (fun v hv => by obtain ⟨x, hx, rfl⟩ := List.mem_map.1 hv; exact (val_nf B hl hn hi x hx).1)

/-- a derived value is at least the best one -/
theorem IsBest.ge {X : SpanC} (B : Bds X) {best : List Vl} (hb : IsBest X best) {h : Int} {v : Vl} (hd : Deriv X h v) : VNF v ∧ vle (vof best h) v := by
  induction hd with
  | mk r i f hr hi h1 h2 ih =>
    have hok := insts_ok B (B.rules r hr) i hi
    have hnf : ∀ x ∈ i.u, VNF (f x) := fun x hx => by
      cases ho : X.own x with
      | true => exact (ih x hx ho).1
      | false => rw [h2 x hx ho]; exact tab_nf B x
    refine ⟨comb_nf hok.p0 (fun v hv => by obtain ⟨x, hx, rfl⟩ := List.mem_map.1 hv; exact (hnf x hx).1), ?_⟩
    refine vle_trans (hb.closed r hr i hi) (comb_mono hok.p0 i.u (fun x hx => (val_nf B hb.len hb.nf hok x hx).1) (fun x hx => (hnf x hx).1) (fun x hx => ?_))
    cases ho : X.own x with
    | true => rw [val_own ho]; exact (ih x hx ho).2
    | false => rw [val_tab ho, h2 x hx ho]; exact vle_refl _
theorem vof_nat {best : List Vl} {h : Nat} {v : Vl} (hv : best[h]? = some v) : vof best (h : Int) = v := by unfold vof; rw [List.getD, Int.toNat_natCast, hv]; rfl
theorem IsBest.le {X : SpanC} (B : Bds X) {a b : List Vl} (ha : IsBest X a) (hb : IsBest X b) {h : Nat} {v u : Vl} (hv : a[h]? = some v) (hu : b[h]? = some u) : vle v u := by
  by_cases hc : u.c < Inf
  · have := (ha.ge B (hb.supp h u hu hc)).2
    rwa [vof_nat hv] at this
  · rw [(hb.nf u (List.mem_of_getElem? hu)).inf (by omega)]
    exact vle_inf (ha.nf v (List.mem_of_getElem? hv))
theorem IsBest.unique {X : SpanC} (B : Bds X) {a b : List Vl} (ha : IsBest X a) (hb : IsBest X b) : a = b := by
  apply List.ext_getElem (by rw [ha.len, hb.len])
  intro h h1 h2
  have e1 := List.getElem?_eq_getElem h1
  have e2 := List.getElem?_eq_getElem h2
  exact vle_antisymm (ha.le B hb e1 e2) (hb.le B ha e2 e1)

/-- an instance's value, when it is finite, is derived -/
theorem cmb_deriv {X : SpanC} (B : Bds X) {best : List Vl} (hl : best.length = X.N) (hn : ∀ v ∈ best, VNF v) (hs : ∀ (h : Nat) v, best[h]? = some v → v.c < Inf → Deriv X (h : Int) v) {r : NRule} (hr : r ∈ X.G.rules) {i : Inst} (hi : i ∈ X.insts r) (hc : (X.cmb best i).c < Inf) : Deriv X r.h (X.cmb best i) := by
  have hok := insts_ok B (B.rules r hr) i hi
  refine Deriv.mk r i (X.val best) hr hi (fun x hx ho => ?_) (fun x hx ho => val_tab ho)
  obtain ⟨h0, h1⟩ := hok.own x hx ho
  have hg := vof_get (N := X.N) h0 (by unfold SpanC.N; omega) hl
  rw [val_own ho]
  have := hs x.h.toNat _ hg ?_
  · rwa [Int.toNat_of_nonneg h0] at this
  · by_cases hf : (vof best x.h).c < Inf
    · exact hf
    · exfalso
      have h3 := comb_inf hok.p0 (vs := i.u.map (X.val best)) (fun v hv => by obtain ⟨y, hy, rfl⟩ := List.mem_map.1 hv; exact val_nf B hl hn hok y hy) (List.mem_map.2 ⟨x, hx, rfl⟩) (by rw [val_own ho]; omega)
      unfold SpanC.cmb at hc
      rw [h3] at hc
      simp at hc

theorem ready_iff {X : SpanC} {fin : List Bool} {u : List Item} : X.ready fin u = true ↔ ∀ x ∈ u, X.own x = true → fin.getD x.h.toNat false = true := by
  unfold SpanC.ready
  rw [List.all_eq_true]
  constructor
  · intro h x hx ho
    have := h x hx
    rw [ho] at this
    simpa using this
  · intro h x hx
    cases ho : X.own x with
    | true => rw [h x hx ho]; rfl
    | false => rfl
theorem within_false {X : SpanC} {u : List Item} : X.within u = false ↔ ∀ x ∈ u, X.own x = false := by
  unfold SpanC.within
  rw [List.any_eq_false]
  constructor
  · intro h x hx; simpa using h x hx
  · intro h x hx; rw [h x hx]; decide

/-- what Knuth's algorithm keeps -/
structure KInv (X : SpanC) (best : List Vl) (fin : List Bool) : Prop where
  len : best.length = X.N
  flen : fin.length = X.N
  nf : ∀ v ∈ best, VNF v
  supp : ∀ (h : Nat) v, best[h]? = some v → v.c < Inf → Deriv X (h : Int) v
  relax : ∀ r ∈ X.G.rules, ∀ i ∈ X.insts r, X.ready fin i.u = true → vle (vof best r.h) (X.cmb best i)
  low : ∀ (x y : Nat), fin[x]? = some true → fin[y]? = some false → vle (vof best (x : Int)) (vof best (y : Int))
/-- at the end -/
theorem KInv.best {X : SpanC} (B : Bds X) {best : List Vl} {fin : List Bool} (h : KInv X best fin) (hf : ∀ (y : Nat) v, best[y]? = some v → v.c < Inf → fin[y]? = some true) : IsBest X best := by
  refine ⟨h.len, h.nf, fun r hr i hi => ?_, h.supp⟩
  have hok := insts_ok B (B.rules r hr) i hi
  have hrh := B.rules r hr
  cases hy : X.ready fin i.u with
  | true => exact h.relax r hr i hi hy
  | false =>
    have : ¬ ∀ x ∈ i.u, X.own x = true → fin.getD x.h.toNat false = true := fun hh => by rw [ready_iff.2 hh] at hy; cases hy
    simp only [Classical.not_forall] at this
    obtain ⟨x, hx, ho, hn⟩ := this
    obtain ⟨h0, h1⟩ := hok.own x hx ho
    have hg := vof_get (N := X.N) h0 (by unfold SpanC.N; omega) h.len
    have hinf : Inf ≤ (vof best x.h).c := by
      by_cases hc : (vof best x.h).c < Inf
      · exfalso
        apply hn
        rw [List.getD, hf _ _ hg hc]
        rfl
      · omega
    have h3 := comb_inf hok.p0 (vs := i.u.map (X.val best)) (fun v hv => by obtain ⟨y, hy, rfl⟩ := List.mem_map.1 hv; exact val_nf B h.len h.nf hok y hy) (List.mem_map.2 ⟨x, hx, rfl⟩) (by rw [val_own ho]; exact hinf)
    unfold SpanC.cmb
    rw [h3]
    exact vle_inf (vof_nf h.len h.nf hrh.h0 hrh.h1)

/-- while values are lowered: from b0, those that are final stay, all others stay at or above z. -/
structure Low (X : SpanC) (b0 : List Vl) (fin : List Bool) (z : Vl) (b : List Vl) : Prop where
  len : b.length = X.N
  nf : ∀ v ∈ b, VNF v
  supp : ∀ (h : Nat) v, b[h]? = some v → v.c < Inf → Deriv X (h : Int) v
  fix : ∀ (y : Nat), fin[y]? = some true → vof b (y : Int) = vof b0 (y : Int)
  low : ∀ (y : Nat), fin[y]? = some false → vle z (vof b (y : Int))
theorem vof_set {b : List Vl} {h : Nat} (hl : h < b.length) (v : Vl) (y : Int) : vof (b.set h v) y = if y.toNat = h then v else vof b y := by
  unfold vof
  rw [List.getD, List.getElem?_set]
  by_cases e : h = y.toNat
  · rw [if_pos e, if_pos e.symm, if_pos hl]; rfl
  · rw [if_neg e, if_neg (Ne.symm e)]; rfl
theorem offB_le {X : SpanC} {b : List Vl} {fin : List Bool} {h : Int} {v : Vl} (h0 : 0 ≤ h) (h1 : h < X.G.nN) (hl : b.length = X.N) (y : Int) : vle (vof (offB b fin h v) y) (vof b y) := by
  unfold offB
  split
  · exact vle_refl _
  · rename_i hc
    rw [vof_set (by rw [hl]; unfold SpanC.N; omega)]
    split
    · rename_i e
      simp only [Bool.or_eq_true, Bool.not_eq_true', not_or, Bool.not_eq_false] at hc
      have := vle_of_vlt hc.2
      rwa [show vof b h = vof b y by unfold vof; rw [e]] at this
    · exact vle_refl _
theorem Low.off {X : SpanC} {b0 : List Vl} {fin : List Bool} {z : Vl} {b : List Vl} (hJ : Low X b0 fin z b) {h : Int} {v : Vl} (h0 : 0 ≤ h) (h1 : h < X.G.nN) (hv : VNF v) (hd : v.c < Inf → Deriv X h v) (hz : fin[h.toNat]? = some false → vle z v) : Low X b0 fin z (offB b fin h v) := by
  unfold offB
  split
  · exact hJ
  · rename_i hc
    simp only [Bool.or_eq_true, Bool.not_eq_true', not_or, Bool.not_eq_false, Bool.not_eq_true, decide_eq_false_iff_not, Int.not_le] at hc
    obtain ⟨⟨c1, c2⟩, c3⟩ := hc
    have hN : h.toNat < b.length := by rw [hJ.len]; unfold SpanC.N; omega
    refine ⟨by rw [List.length_set]; exact hJ.len, ?_, ?_, ?_, ?_⟩
    · intro u hu
      rcases List.mem_or_eq_of_mem_set hu with hu | rfl
      · exact hJ.nf u hu
      · exact hv
    · intro y u hu hc
      rw [List.getElem?_set] at hu
      by_cases e : h.toNat = y
      · rw [if_pos e, if_pos hN] at hu
        injection hu with hu
        subst hu
        have := hd hc
        rwa [show h = (y : Int) by omega] at this
      · rw [if_neg e] at hu
        exact hJ.supp y u hu hc
    · intro y hy
      rw [vof_set hN, if_neg, hJ.fix y hy]
      intro e
      rw [Int.toNat_natCast] at e
      rw [List.getD, ← e, hy] at c1
      cases c1
    · intro y hy
      rw [vof_set hN]
      split
      · rename_i e
        rw [Int.toNat_natCast] at e
        exact hz (by rw [← e]; exact hy)
      · exact hJ.low y hy
theorem offB_relax {X : SpanC} {b : List Vl} {fin : List Bool} {h : Int} {v : Vl} (h0 : 0 ≤ h) (h1 : h < X.G.nN) (hl : b.length = X.N) (hn : ∀ v ∈ b, VNF v) (hv : VNF v) (hf : fin[h.toNat]? = some true → vle (vof b h) v) : vle (vof (offB b fin h v) h) v := by
  unfold offB
  split
  · rename_i hc
    simp only [Bool.or_eq_true, Bool.not_eq_true', decide_eq_true_eq] at hc
    rcases hc with (c1 | c2) | c3
    · apply hf
      rw [List.getD] at c1
      cases hh : fin[h.toNat]? with
      | none => rw [hh] at c1; simp at c1
      | some q => rw [hh] at c1; simp at c1; rw [c1]
    · rw [hv.inf c2]
      exact vle_inf (vof_nf hl hn h0 h1)
    · exact vle_of_not c3
  · rw [vof_set (by rw [hl]; unfold SpanC.N; omega), if_pos rfl]
    exact vle_refl _
/-- the values of ready instances stay -/
theorem Low.cmb {X : SpanC} {b0 : List Vl} {fin : List Bool} {z : Vl} {b : List Vl} (hJ : Low X b0 fin z b) {i : Inst} (hi : IOK X i) (hr : X.ready fin i.u = true) : X.cmb b i = X.cmb b0 i := by
  unfold SpanC.cmb
  congr 1
  apply List.map_congr_left
  intro x hx
  cases ho : X.own x with
  | true =>
    rw [val_own ho, val_own ho]
    have h1 := ready_iff.1 hr x hx ho
    obtain ⟨h0, _⟩ := hi.own x hx ho
    have := hJ.fix x.h.toNat (by
      rw [List.getD] at h1
      cases hh : fin[x.h.toNat]? with
      | none => rw [hh] at h1; simp at h1
      | some q => rw [hh] at h1; simp at h1; rw [h1])
    rwa [Int.toNat_of_nonneg h0] at this
  | false => rw [val_tab ho, val_tab ho]

theorem fold_J {α : Type} {J : List Vl → Prop} {Q : α → List Vl → Prop} {g : List Vl → α → List Vl} (hQ : ∀ a b b', Q a b → (∀ y : Int, vle (vof b' y) (vof b y)) → Q a b') :
    ∀ (l : List α), (∀ a ∈ l, ∀ b, J b → J (g b a) ∧ (∀ y : Int, vle (vof (g b a) y) (vof b y)) ∧ Q a (g b a)) → ∀ b, J b → J (l.foldl g b) ∧ (∀ y : Int, vle (vof (l.foldl g b) y) (vof b y)) ∧ ∀ a ∈ l, Q a (l.foldl g b)
  | [], _, b, hb => ⟨hb, fun _ => vle_refl _, by simp⟩
  | a :: l, h, b, hb => by
    obtain ⟨h1, h2, h3⟩ := h a (by simp) b hb
    obtain ⟨k1, k2, k3⟩ := fold_J hQ l (fun c hc => h c (by simp [hc])) _ h1
    refine ⟨k1, fun y => vle_trans (k2 y) (h2 y), ?_⟩
    intro c hc
    rcases List.mem_cons.1 hc with rfl | hc
    · exact hQ _ _ _ h3 k2
    · exact k3 c hc
/-- a list of instances of a rule, of which some are proposed -/
theorem fold_insts {X : SpanC} (B : Bds X) {b0 : List Vl} {fin : List Bool} {z : Vl} (h0 : Low X b0 fin z b0) {r : NRule} (hr : r ∈ X.G.rules) (l : List Inst) (hl : ∀ i ∈ l, i ∈ X.insts r) (sel : Inst → Bool)
    (hsel : ∀ i ∈ l, sel i = true → X.ready fin i.u = true ∧ (fin[r.h.toNat]? = some false → vle z (X.cmb b0 i)) ∧ (fin[r.h.toNat]? = some true → vle (vof b0 r.h) (X.cmb b0 i)))
    (g : List Vl → Inst → List Vl) (hg : ∀ b i, g b i = if sel i = true then offB b fin r.h (X.cmb b i) else b) (b : List Vl) (hb : Low X b0 fin z b) :
    Low X b0 fin z (l.foldl g b) ∧ (∀ y : Int, vle (vof (l.foldl g b) y) (vof b y)) ∧ ∀ i ∈ l, sel i = true → vle (vof (l.foldl g b) r.h) (X.cmb b0 i) := by
  have hrk := B.rules r hr
  refine fold_J (J := Low X b0 fin z) (Q := fun i b => sel i = true → vle (vof b r.h) (X.cmb b0 i)) (fun a b b' h1 h2 h3 => vle_trans (h2 _) (h1 h3)) l (fun i hi b hb => ?_) b hb
  rw [hg]
  cases hs : sel i with
  | false => rw [if_neg (by decide)]; exact ⟨hb, fun _ => vle_refl _, fun h => by cases h⟩
  | true =>
    rw [if_pos rfl]
    obtain ⟨k1, k2, k3⟩ := hsel i hi hs
    have hok := insts_ok B hrk i (hl i hi)
    have hc := hb.cmb hok k1
    have hnf := cmb_nfp B hb.len hb.nf hok
    refine ⟨hb.off hrk.h0 hrk.h1 hnf (fun h => cmb_deriv B hb.len hb.nf hb.supp hr (hl i hi) h) (fun h => by rw [hc]; exact k2 h), offB_le hrk.h0 hrk.h1 hb.len, fun _ => ?_⟩
    rw [← hc]
    refine offB_relax hrk.h0 hrk.h1 hb.len hb.nf hnf (fun h => ?_)
    rw [hc]
    have := hb.fix _ h
    rw [Int.toNat_of_nonneg hrk.h0] at this
    rw [this]
    exact k3 h

/-- the first pass -/
def SpanC.pass1 (X : SpanC) (fin : List Bool) (best : List Vl) (r : NRule) : List Vl := (X.insts r).foldl (X.first1 r.h fin) best
theorem pass1_ok {X : SpanC} (B : Bds X) : KInv X (X.G.rules.foldl (X.pass1 (List.replicate X.N false)) (List.replicate X.N ⟨Inf, 0⟩)) (List.replicate X.N false) := by
  have hz : Low X (List.replicate X.N ⟨Inf, 0⟩) (List.replicate X.N false) ⟨0, 0⟩ (List.replicate X.N ⟨Inf, 0⟩) := by
    refine ⟨by simp, fun v hv => by rw [List.mem_replicate] at hv; rw [hv.2]; exact vnf_inf, fun h v hv hc => ?_, fun _ _ => rfl, fun y hy => ?_⟩
    · have := List.mem_of_getElem? hv
      rw [List.mem_replicate] at this
      rw [this.2] at hc
      simp at hc
    · have hyl : y < X.N := by have := (List.getElem?_eq_some_iff.1 hy).1; simpa using this
      rw [vof_nat (v := ⟨Inf, 0⟩) (by rw [List.getElem?_replicate, if_pos hyl]), vle_iff]
      simp [Inf]
  have hff : ∀ (y : Nat), (List.replicate X.N false)[y]? ≠ some true := fun y h => by
    have := List.mem_of_getElem? h
    rw [List.mem_replicate] at this
    cases this.2
  obtain ⟨h1, h2, h3⟩ := fold_J (J := Low X (List.replicate X.N ⟨Inf, 0⟩) (List.replicate X.N false) ⟨0, 0⟩) (Q := fun r b => ∀ i ∈ X.insts r, X.within i.u = false → vle (vof b r.h) (X.cmb (List.replicate X.N ⟨Inf, 0⟩) i)) (g := X.pass1 (List.replicate X.N false))
    (fun r b b' k1 k2 i hi hw => vle_trans (k2 _) (k1 i hi hw)) X.G.rules (fun r hr b hb => by
      have hrk := B.rules r hr
      obtain ⟨k1, k2, k3⟩ := fold_insts B hz hr (X.insts r) (fun _ h => h) (fun i => !X.within i.u) (fun i hi hs => by
        have hok := insts_ok B hrk i hi
        refine ⟨ready_iff.2 fun x hx ho => ?_, fun _ => ?_, fun h => absurd h (hff _)⟩
        · rw [within_false.1 (by simpa using hs) x hx] at ho; cases ho
        · obtain ⟨⟨a1, a2, a3, a4⟩, a5⟩ := cmb_nfp B hz.len hz.nf hok
          rw [vle_iff]; simp only; omega) (X.first1 r.h (List.replicate X.N false)) (fun b i => by unfold SpanC.first1; cases X.within i.u <;> simp) b hb
      exact ⟨k1, k2, fun i hi hw => k3 i hi (by simp [hw])⟩) _ hz
  refine ⟨h1.len, by simp, h1.nf, h1.supp, fun r hr i hi hy => ?_, fun x y hx hy => absurd hx (hff x)⟩
  have hok := insts_ok B (B.rules r hr) i hi
  rw [h1.cmb hok hy]
  refine h3 r hr i hi (within_false.2 fun x hx => ?_)
  cases ho : X.own x with
  | false => rfl
  | true =>
    have := ready_iff.1 hy x hx ho
    rw [List.getD, List.getElem?_replicate] at this
    split at this <;> cases this

/-- an instance that uses an item of the span stands at its ends -/
theorem mem_bnds {X : SpanC} {r : NRule} {i : Inst} (hi : i ∈ X.insts r) (hw : X.within i.u = true) : i ∈ X.bnds r := by
  unfold SpanC.bnds
  split
  · rename_i h4
    obtain ⟨d, hd⟩ := List.getElem?_of_mem hi
    have hl := (List.getElem?_eq_some_iff.1 hd).1
    rw [inst4_len X r h4] at hl
    rw [inst4_get X r h4 d hl] at hd
    injection hd with hd
    subst hd
    simp [SpanC.within, SpanC.own] at hw
    rcases hw with h1 | h1
    · have : X.fr + (d : Int) = X.to := by omega
      rw [this]; simp
    · have : X.fr + (d : Int) = X.fr := by omega
      rw [this]; simp
  · exact hi
theorem bnds_sub {X : SpanC} (B : Bds X) {r : NRule} {i : Inst} (hi : i ∈ X.bnds r) : i ∈ X.insts r := by
  have hft := B.ft
  unfold SpanC.bnds at hi
  split at hi
  · rename_i h4
    simp only [List.mem_cons, List.not_mem_nil, or_false] at hi
    rcases hi with rfl | rfl
    · refine List.mem_of_getElem? (i := 0) ?_
      rw [inst4_get X r h4 0 (by omega)]
      simp
    · refine List.mem_of_getElem? (i := (X.to - X.fr).toNat) ?_
      rw [inst4_get X r h4 _ (by omega)]
      have : X.fr + ((X.to - X.fr).toNat : Int) = X.to := by omega
      rw [this]
  · exact hi
/-- a rule with an instance that uses x uses x -/
theorem uses_of {X : SpanC} {r : NRule} {i : Inst} (hi : i ∈ X.insts r) {x : Item} (hx : x ∈ i.u) : usesP r x.h = true := by
  unfold SpanC.insts at hi
  unfold usesP
  split at hi
  · split at hi
    · simp only [List.mem_singleton] at hi; subst hi; simp at hx
    · cases hi
  · split at hi
    · rw [List.mem_filterMap] at hi
      obtain ⟨ai, _, h⟩ := hi
      split at h
      · injection h with h; subst h; simp at hx
      · cases h
    · split at hi
      · rename_i h3
        simp only [List.mem_singleton] at hi
        subst hi
        simp only [List.mem_singleton] at hx
        subst hx
        simp [h3]
      · split at hi
        · rename_i h4
          rw [List.mem_map] at hi
          obtain ⟨d, _, rfl⟩ := hi
          simp only [List.mem_cons, List.not_mem_nil, or_false] at hx
          rcases hx with rfl | rfl <;> simp [h4]
        · cases hi

/-- each head's settling keeps it -/
theorem KInv.step {X : SpanC} (B : Bds X) : StepOK X (KInv X) := by
  intro best fin x hK hx hfx hmin
  have hxl : x < fin.length := by rw [hK.flen]; exact hx
  have hxv := vof_get (N := X.N) (best := best) (x := (x : Int)) (by omega) (by omega) hK.len
  rw [Int.toNat_natCast] at hxv
  have hxx : (fin.set x true)[x]? = some true := List.getElem?_set_self hxl
  have hne : ∀ y, y ≠ x → (fin.set x true)[y]? = fin[y]? := fun y hy => List.getElem?_set_ne (Ne.symm hy)
  have hlow : ∀ (y : Nat), fin[y]? = some false → vle (vof best (x : Int)) (vof best (y : Int)) := fun y hy => by
    have hyl : y < X.N := by rw [← hK.flen]; exact (List.getElem?_eq_some_iff.1 hy).1
    have hyv := vof_get (N := X.N) (best := best) (x := (y : Int)) (by omega) (by omega) hK.len
    rw [Int.toNat_natCast] at hyv
    by_cases hc : (vof best (y : Int)).c < Inf
    · exact hmin y _ hyv hc hy
    · rw [(hK.nf _ (List.mem_of_getElem? hyv)).inf (by omega)]
      exact vle_inf (hK.nf _ (List.mem_of_getElem? hxv))
  have h0 : Low X best (fin.set x true) (vof best (x : Int)) best := ⟨hK.len, hK.nf, hK.supp, fun _ _ => rfl, fun y hy => by
    have hyx : y ≠ x := fun e => by rw [e, hxx] at hy; cases hy
    rw [hne y hyx] at hy
    exact hlow y hy⟩
  -- a ready instance was ready before, or uses x
  have hold : ∀ r ∈ X.G.rules, ∀ i ∈ X.insts r, X.ready (fin.set x true) i.u = true → X.ready fin i.u = true ∨ ∃ y ∈ i.u, X.own y = true ∧ y.h = (x : Int) := fun r hr i hi hy => by
    by_cases hh : ∃ y ∈ i.u, X.own y = true ∧ y.h = (x : Int)
    · exact .inr hh
    · refine .inl (ready_iff.2 fun y hyu ho => ?_)
      have h1 := ready_iff.1 hy y hyu ho
      obtain ⟨y0, _⟩ := (insts_ok B (B.rules r hr) i hi).own y hyu ho
      rw [List.getD, hne y.h.toNat (fun e => hh ⟨y, hyu, ho, by omega⟩)] at h1
      exact h1
  have hge : ∀ r ∈ X.G.rules, ∀ i ∈ X.insts r, ∀ y ∈ i.u, X.own y = true → y.h = (x : Int) → vle (vof best (x : Int)) (X.cmb best i) := fun r hr i hi y hyu ho hyx => by
    have hok := insts_ok B (B.rules r hr) i hi
    have := comb_sup hok.p0 (vs := i.u.map (X.val best)) (fun v hv => by obtain ⟨y, hy, rfl⟩ := List.mem_map.1 hv; exact val_nf B hK.len hK.nf hok y hy) (List.mem_map.2 ⟨y, hyu, rfl⟩)
    rwa [val_own ho, hyx] at this
  have hfold : ∀ r ∈ X.G.rules, ∀ b, Low X best (fin.set x true) (vof best (x : Int)) b → _ := fun r hr b hb =>
    fold_insts B h0 hr (X.bnds r) (fun i hi => bnds_sub B hi) (fun i => X.within i.u && X.ready (fin.set x true) i.u) (fun i hi hs => by
      simp only [Bool.and_eq_true] at hs
      obtain ⟨hs1, hs2⟩ := hs
      have hii := bnds_sub B hi
      have hrk := B.rules r hr
      refine ⟨hs2, fun hf => ?_, fun hf => ?_⟩
      · rcases hold r hr i hii hs2 with h1 | ⟨y, hyu, ho, hyx⟩
        · have hrx : r.h.toNat ≠ x := fun e => by rw [e, hxx] at hf; cases hf
          rw [hne _ hrx] at hf
          have := hlow _ hf
          rw [Int.toNat_of_nonneg hrk.h0] at this
          exact vle_trans this (hK.relax r hr i hii h1)
        · exact hge r hr i hii y hyu ho hyx
      · rcases hold r hr i hii hs2 with h1 | ⟨y, hyu, ho, hyx⟩
        · exact hK.relax r hr i hii h1
        · refine vle_trans ?_ (hge r hr i hii y hyu ho hyx)
          by_cases hrx : r.h.toNat = x
          · rw [show r.h = (x : Int) by have := hrk.h0; omega]; exact vle_refl _
          · rw [hne _ hrx] at hf
            have := hK.low _ x hf hfx
            rwa [Int.toNat_of_nonneg hrk.h0] at this) (X.settle1 r.h (fin.set x true)) (fun b i => by unfold SpanC.settle1; rfl) b hb
  obtain ⟨h1, h2, h3⟩ := fold_J (J := Low X best (fin.set x true) (vof best (x : Int))) (Q := fun r b => usesP r (x : Int) = true → ∀ i ∈ X.bnds r, (X.within i.u && X.ready (fin.set x true) i.u) = true → vle (vof b r.h) (X.cmb best i)) (g := X.settleR (x : Int) (fin.set x true))
    (fun r b b' k1 k2 hu i hi hw => vle_trans (k2 _) (k1 hu i hi hw)) X.G.rules (fun r hr b hb => by
      unfold SpanC.settleR
      cases hu : usesP r (x : Int) with
      | false => exact ⟨hb, fun _ => vle_refl _, fun h => by cases h⟩
      | true =>
        obtain ⟨k1, k2, k3⟩ := hfold r hr b hb
        exact ⟨k1, k2, fun _ => k3⟩) best h0
  show KInv X (X.G.rules.foldl (X.settleR (x : Int) (fin.set x true)) best) (fin.set x true)
  refine ⟨h1.len, by rw [List.length_set]; exact hK.flen, h1.nf, h1.supp, fun r hr i hi hy => ?_, fun a b ha hb => ?_⟩
  · have hok := insts_ok B (B.rules r hr) i hi
    rw [h1.cmb hok hy]
    rcases hold r hr i hi hy with hr1 | ⟨y, hyu, ho, hyx⟩
    · exact vle_trans (h2 _) (hK.relax r hr i hi hr1)
    · have hw : X.within i.u = true := by
        cases hw : X.within i.u with
        | true => rfl
        | false => rw [within_false.1 hw y hyu] at ho; cases ho
      refine h3 r hr ?_ i (mem_bnds hi hw) (by rw [hw, hy]; rfl)
      rw [← hyx]
      exact uses_of hi hyu
  · have h4 := h1.low b hb
    have h5 := h1.fix a ha
    have h6 : vle (vof best (a : Int)) (vof best (x : Int)) := by
      by_cases e : a = x
      · rw [e]; exact vle_refl _
      · rw [hne a e] at ha; exact hK.low a x ha hfx
    rw [h5]
    exact vle_trans h6 h4
end Go.Proofs.YtnifpeamgoapmaaDoor
/- The cell that is chosen: the first instance that attains the value; what a span's cells hang on; the chart. No Go in sight. -/
namespace Go.Proofs.YtnifpeamgoapmaaDoor

/-- rule k at argument a attains v -/
def SpanC.att (X : SpanC) (best : List Vl) (h : Int) (v : Vl) (k : Nat) (a : Int) : Prop := ∃ r i, X.G.rules[k]? = some r ∧ r.h = h ∧ i ∈ X.insts r ∧ i.a = a ∧ X.cmb best i = v
structure Least (X : SpanC) (best : List Vl) (h : Int) (v : Vl) (k : Nat) (a : Int) : Prop where
  att : X.att best h v k a
  least : ∀ k' a', X.att best h v k' a' → k < k' ∨ (k = k' ∧ a ≤ a')
theorem Least.unique {X : SpanC} {best : List Vl} {h : Int} {v : Vl} {k k' : Nat} {a a' : Int} (h1 : Least X best h v k a) (h2 : Least X best h v k' a') : k = k' ∧ a = a' := by
  have l1 := h1.least _ _ h2.att
  have l2 := h2.least _ _ h1.att
  omega

theorem insts_sorted (X : SpanC) (r : NRule) : (X.insts r).Pairwise fun i j => i.a < j.a := by
  unfold SpanC.insts
  split
  · split <;> simp
  · split
    · rw [List.pairwise_filterMap]
      rw [List.pairwise_iff_getElem]
      intro i j hi hj hij a ha b hb
      simp only [List.getElem_zipIdx] at ha hb
      split at ha
      · split at hb
        · injection ha with ha
          injection hb with hb
          subst ha
          subst hb
          simp only
          omega
        · cases hb
      · cases ha
    · split
      · simp
      · split
        · rw [List.pairwise_map]
          refine List.Pairwise.imp ?_ List.pairwise_lt_range
          intro a b hab
          simp only
          omega
        · simp
theorem find_least {X : SpanC} {r : NRule} {p : Inst → Bool} {i : Inst} (h : (X.insts r).find? p = some i) : i ∈ X.insts r ∧ p i = true ∧ ∀ j ∈ X.insts r, p j = true → i.a ≤ j.a := by
  have hs := insts_sorted X r
  generalize X.insts r = l at *
  induction l with
  | nil => simp at h
  | cons x l ih =>
    rw [List.pairwise_cons] at hs
    rw [List.find?_cons] at h
    split at h
    · rename_i hx
      injection h with h
      subst h
      refine ⟨by simp, hx, fun j hj hp => ?_⟩
      rcases List.mem_cons.1 hj with rfl | hj
      · exact Int.le_refl _
      · exact Int.le_of_lt (hs.1 j hj)
    · rename_i hx
      obtain ⟨h1, h2, h3⟩ := ih h hs.2
      refine ⟨by simp [h1], h2, fun j hj hp => ?_⟩
      rcases List.mem_cons.1 hj with rfl | hj
      · rw [hp] at hx; cases hx
      · exact h3 j hj hp

/-- choose so far -/
theorem chooseK_inv (X : SpanC) (best : List Vl) (h : Int) (v : Vl) (hv : v.c < Inf) : ∀ n : Nat, n ≤ X.G.rules.length →
    (X.chooseK best h v n = noneC ∧ ∀ k a, k < n → ¬ X.att best h v k a) ∨ (∃ (k : Nat) (a : Int), X.chooseK best h v n = ⟨v, (k : Int), a⟩ ∧ Least X best h v k a)
  | 0, _ => .inl ⟨rfl, fun _ _ h => by omega⟩
  | n + 1, hn => by
    obtain ⟨r, hr⟩ : ∃ r, X.G.rules[n]? = some r := ⟨_, List.getElem?_eq_getElem (by omega)⟩
    rw [chooseK_succ X best h v hr]
    rcases chooseK_inv X best h v hv n (by omega) with ⟨e, hno⟩ | ⟨k, a, e, hl⟩
    · rw [e]
      unfold SpanC.chooseR
      by_cases hh : r.h = h
      · rw [if_neg (by simp [noneC, hh]; omega)]
        cases hp : X.pick best v r with
        | none =>
          refine .inl ⟨rfl, fun k a hk ha => ?_⟩
          by_cases hkn : k = n
          · subst hkn
            obtain ⟨r', i, h1, h2, h3, h4, h5⟩ := ha
            rw [hr] at h1
            injection h1 with h1
            subst h1
            unfold SpanC.pick at hp
            rw [List.find?_eq_none] at hp
            have := hp i h3
            rw [h5] at this
            simp at this
          · exact hno k a (by omega) ha
        | some i =>
          obtain ⟨f1, f2, f3⟩ := find_least (by exact hp)
          refine .inr ⟨n, i.a, rfl, ⟨r, i, hr, hh, f1, rfl, by simpa using f2⟩, fun k' a' ha => ?_⟩
          by_cases hkn : k' < n
          · exact absurd ha (hno k' a' hkn)
          · by_cases hke : k' = n
            · subst hke
              obtain ⟨r', j, h1, h2, h3, h4, h5⟩ := ha
              rw [hr] at h1
              injection h1 with h1
              subst h1
              refine .inr ⟨rfl, ?_⟩
              rw [← h4]
              exact f3 j h3 (by simpa using h5)
            · exact .inl (by omega)
      · rw [if_pos (.inl hh)]
        refine .inl ⟨rfl, fun k a hk ha => ?_⟩
        by_cases hkn : k = n
        · subst hkn
          obtain ⟨r', i, h1, h2, h3, h4, h5⟩ := ha
          rw [hr] at h1
          injection h1 with h1
          subst h1
          exact hh h2
        · exact hno k a (by omega) ha
    · rw [e]
      unfold SpanC.chooseR
      rw [if_pos (.inr (.inr (by simp)))]
      exact .inr ⟨k, a, rfl, hl⟩
theorem chooseK_inf (X : SpanC) (best : List Vl) (h : Int) (v : Vl) (hv : Inf ≤ v.c) : ∀ n : Nat, X.chooseK best h v n = noneC
  | 0 => rfl
  | n + 1 => by
    unfold SpanC.chooseK
    split
    · unfold SpanC.chooseR
      rw [if_pos (.inr (.inl hv))]
      exact chooseK_inf X best h v hv n
    · exact chooseK_inf X best h v hv n
theorem choose_inf {X : SpanC} {best : List Vl} {h : Int} (hv : Inf ≤ (vof best h).c) : X.choose best h = noneC := chooseK_inf X best h _ hv _
theorem choose_of_least {X : SpanC} {best : List Vl} {h : Int} {k : Nat} {a : Int} (hv : (vof best h).c < Inf) (hl : Least X best h (vof best h) k a) : X.choose best h = ⟨vof best h, (k : Int), a⟩ := by
  rcases chooseK_inv X best h (vof best h) hv X.G.rules.length (Nat.le_refl _) with ⟨e, hno⟩ | ⟨k', a', e, hl'⟩
  · exfalso
    obtain ⟨r, i, h1, _⟩ := hl.att
    exact hno k a (List.getElem?_eq_some_iff.1 h1).1 hl.att
  · obtain ⟨rfl, rfl⟩ := hl.unique hl'
    exact e
/-- what is finite is attained -/
theorem IsBest.att {X : SpanC} (B : Bds X) {best : List Vl} (hb : IsBest X best) {h : Int} (h0 : 0 ≤ h) (h1 : h < X.G.nN) (hv : (vof best h).c < Inf) : ∃ k a, X.att best h (vof best h) k a := by
  have hg := vof_get (N := X.N) h0 (by unfold SpanC.N; omega) hb.len
  have hd := hb.supp _ _ hg hv
  rw [Int.toNat_of_nonneg h0] at hd
  obtain ⟨v, hvv⟩ : ∃ v, v = vof best h := ⟨_, rfl⟩
  rw [← hvv] at hd hv ⊢
  cases hd with
  | mk r i f hr hi a1 a2 =>
    obtain ⟨k, hk⟩ := List.getElem?_of_mem hr
    refine ⟨k, i.a, r, i, hk, rfl, hi, rfl, ?_⟩
    have hok := insts_ok B (B.rules r hr) i hi
    apply vle_antisymm
    · refine comb_mono hok.p0 i.u (fun x hx => (val_nf B hb.len hb.nf hok x hx).1) (fun x hx => ?_) (fun x hx => ?_)
      · cases ho : X.own x with
        | true => exact (hb.ge B (a1 x hx ho)).1.1
        | false => rw [a2 x hx ho]; exact (tab_nf B x).1
      · cases ho : X.own x with
        | true => rw [val_own ho]; exact (hb.ge B (a1 x hx ho)).2
        | false => rw [val_tab ho, a2 x hx ho]; exact vle_refl _
    · have := hb.closed r hr i hi
      rwa [← hvv] at this
theorem IsBest.choose {X : SpanC} (B : Bds X) {best : List Vl} (hb : IsBest X best) {h : Int} (h0 : 0 ≤ h) (h1 : h < X.G.nN) (hv : (vof best h).c < Inf) : ∃ (k : Nat) (a : Int), X.choose best h = ⟨vof best h, (k : Int), a⟩ ∧ Least X best h (vof best h) k a := by
  rcases chooseK_inv X best h (vof best h) hv X.G.rules.length (Nat.le_refl _) with ⟨e, hno⟩ | h
  · exfalso
    obtain ⟨k, a, ha⟩ := hb.att B h0 h1 hv
    obtain ⟨r, i, h1, _⟩ := ha
    exact hno k a (List.getElem?_eq_some_iff.1 h1).1 ⟨r, i, h1, by assumption⟩
  · exact h
theorem IsBest.choose_v {X : SpanC} (B : Bds X) {best : List Vl} (hb : IsBest X best) {h : Int} (h0 : 0 ≤ h) (h1 : h < X.G.nN) : (X.choose best h).v = vof best h := by
  by_cases hv : (vof best h).c < Inf
  · obtain ⟨k, a, e, _⟩ := hb.choose B h0 h1 hv
    rw [e]
  · rw [choose_inf (by omega)]
    exact ((vof_nf hb.len hb.nf h0 h1).inf (by omega)).symm

/-- the cells of a span -/
structure IsCells (X : SpanC) (cs : List Cel) : Prop where
  len : cs.length = X.N
  ex : ∃ best, IsBest X best ∧ ∀ (h : Nat) c, cs[h]? = some c → c = X.choose best (h : Int)
theorem IsCells.unique {X : SpanC} (B : Bds X) {a b : List Cel} (ha : IsCells X a) (hb : IsCells X b) : a = b := by
  obtain ⟨l1, b1, h1, k1⟩ := ha
  obtain ⟨l2, b2, h2, k2⟩ := hb
  have e := h1.unique B h2
  subst e
  apply List.ext_getElem (by omega)
  intro h g1 g2
  rw [k1 h _ (List.getElem?_eq_getElem g1), k2 h _ (List.getElem?_eq_getElem g2)]
theorem IsCells.nf {X : SpanC} (B : Bds X) {cs : List Cel} (h : IsCells X cs) : ∀ c ∈ cs, VNF c.v := by
  obtain ⟨l1, b1, h1, k1⟩ := h
  intro c hc
  obtain ⟨j, hj⟩ := List.getElem?_of_mem hc
  have hjl := (List.getElem?_eq_some_iff.1 hj).1
  rw [l1] at hjl
  have hjn : ((j : Nat) : Int) < X.G.nN := by unfold SpanC.N at hjl; omega
  rw [k1 j c hj, h1.choose_v B (by omega) hjn]
  exact vof_nf h1.len h1.nf (by omega) hjn
theorem IsCells.of_best {X : SpanC} {best : List Vl} (h : IsBest X best) : IsCells X ((List.range X.N).map fun h => X.choose best (h : Nat)) := by
  refine ⟨by simp, best, h, fun j c hj => ?_⟩
  rw [List.getElem?_map] at hj
  have hl : j < X.N := by
    by_cases hl : j < X.N
    · exact hl
    · rw [List.getElem?_eq_none (by simp; omega)] at hj; cases hj
  rw [List.getElem?_eq_getElem (by simpa using hl)] at hj
  simp at hj
  exact hj.symm

/-- two computations that look at the same cells -/
structure Alike (X Y : SpanC) : Prop where
  g : X.G = Y.G
  l : X.L = Y.L
  f : X.fr = Y.fr
  t : X.to = Y.to
  tab : ∀ x : Item, 0 ≤ x.h → x.h < X.G.nN → X.fr ≤ x.f → x.f ≤ x.t → x.t ≤ X.to → X.own x = false → X.tab x = Y.tab x
theorem Alike.symm {X Y : SpanC} (h : Alike X Y) : Alike Y X := by
  obtain ⟨h1, h2, h3, h4, h5⟩ := h
  refine ⟨h1.symm, h2.symm, h3.symm, h4.symm, fun x a b c d e o => (h5 x a (h1 ▸ b) (h3 ▸ c) d (h4 ▸ e) ?_).symm⟩
  unfold SpanC.own at *
  rw [h3, h4]
  exact o
theorem Alike.insts {X Y : SpanC} (h : Alike X Y) (r : NRule) : X.insts r = Y.insts r := by
  obtain ⟨h1, h2, h3, h4, h5⟩ := h
  unfold SpanC.insts SpanC.arcOK
  rw [h2, h3, h4]
theorem Alike.own {X Y : SpanC} (h : Alike X Y) (x : Item) : X.own x = Y.own x := by unfold SpanC.own; rw [h.f, h.t]
/-- an instance's items lie within the span -/
theorem insts_in {X : SpanC} (hft : X.fr ≤ X.to) {r : NRule} (hr : ROK X.G.nT X.G.nN r) {i : Inst} (hi : i ∈ X.insts r) : ∀ x ∈ i.u, 0 ≤ x.h ∧ x.h < X.G.nN ∧ X.fr ≤ x.f ∧ x.f ≤ x.t ∧ x.t ≤ X.to := by
  unfold SpanC.insts at hi
  split at hi
  · split at hi
    · simp only [List.mem_singleton] at hi; subst hi; simp
    · cases hi
  · split at hi
    · rw [List.mem_filterMap] at hi
      obtain ⟨ai, _, h⟩ := hi
      split at h
      · injection h with h; subst h; simp
      · cases h
    · split at hi
      · rename_i h3
        simp only [List.mem_singleton] at hi
        subst hi
        intro x hx
        simp only [List.mem_singleton] at hx
        subst hx
        have := hr.un (.inl h3)
        simp only
        omega
      · split at hi
        · rename_i h4
          rw [List.mem_map] at hi
          obtain ⟨d, hd, rfl⟩ := hi
          rw [List.mem_range] at hd
          have h1 := hr.un (.inr h4)
          have h2 := hr.bi h4
          intro x hx
          simp only [List.mem_cons, List.not_mem_nil, or_false] at hx
          rcases hx with rfl | rfl <;> simp only <;> omega
        · cases hi
theorem Alike.val {X Y : SpanC} (h : Alike X Y) (B : Bds X) {r : NRule} (hr : r ∈ X.G.rules) {i : Inst} (hi : i ∈ X.insts r) (best : List Vl) : ∀ x ∈ i.u, X.val best x = Y.val best x := by
  intro x hx
  obtain ⟨a, b, c, d, e⟩ := insts_in B.ft (B.rules r hr) hi x hx
  cases ho : X.own x with
  | true => rw [val_own ho, val_own (by rw [← h.own]; exact ho)]
  | false => rw [val_tab ho, val_tab (by rw [← h.own]; exact ho), h.tab x a b c d e ho]
theorem Alike.cmb {X Y : SpanC} (h : Alike X Y) (B : Bds X) {r : NRule} (hr : r ∈ X.G.rules) {i : Inst} (hi : i ∈ X.insts r) (best : List Vl) : X.cmb best i = Y.cmb best i := by
  unfold SpanC.cmb
  rw [List.map_congr_left (h.val B hr hi best)]
theorem Alike.deriv {X Y : SpanC} (h : Alike X Y) (B : Bds X) {g : Int} {v : Vl} (hd : Deriv X g v) : Deriv Y g v := by
  induction hd with
  | mk r i f hr hi h1 h2 ih =>
    refine Deriv.mk r i f (h.g ▸ hr) (h.insts r ▸ hi) (fun x hx ho => ih x hx (by rw [h.own]; exact ho)) (fun x hx ho => ?_)
    obtain ⟨a, b, c, d, e⟩ := insts_in B.ft (B.rules r hr) hi x hx
    rw [← h.own] at ho
    rw [h2 x hx ho, h.tab x a b c d e ho]
theorem Alike.best {X Y : SpanC} (h : Alike X Y) (B : Bds X) {best : List Vl} (hb : IsBest X best) : IsBest Y best := by
  refine ⟨by rw [hb.len]; unfold SpanC.N; rw [h.g], hb.nf, fun r hr i hi => ?_, fun g v hv hc => h.deriv B (hb.supp g v hv hc)⟩
  rw [← h.g] at hr
  rw [← h.insts r] at hi
  rw [← h.cmb B hr hi]
  exact hb.closed r hr i hi
theorem Alike.att {X Y : SpanC} (h : Alike X Y) (B : Bds X) {best : List Vl} {g : Int} {v : Vl} {k : Nat} {a : Int} (ha : X.att best g v k a) : Y.att best g v k a := by
  obtain ⟨r, i, h1, h2, h3, h4, h5⟩ := ha
  exact ⟨r, i, h.g ▸ h1, h2, h.insts r ▸ h3, h4, by rw [← h.cmb B (List.mem_of_getElem? h1) h3]; exact h5⟩
theorem Alike.choose {X Y : SpanC} (h : Alike X Y) (B : Bds X) (B' : Bds Y) {best : List Vl} (hb : IsBest X best) {g : Int} (h0 : 0 ≤ g) (h1 : g < X.G.nN) : X.choose best g = Y.choose best g := by
  by_cases hv : (vof best g).c < Inf
  · obtain ⟨k, a, e, hl⟩ := hb.choose B h0 h1 hv
    rw [e, choose_of_least hv ⟨h.att B hl.att, fun k' a' ha => hl.least k' a' (h.symm.att B' ha)⟩]
  · rw [choose_inf (by omega), choose_inf (by omega)]
theorem Alike.cells {X Y : SpanC} (h : Alike X Y) (B : Bds X) (B' : Bds Y) {cs : List Cel} (hc : IsCells X cs) : IsCells Y cs := by
  obtain ⟨l, b, hb, k⟩ := hc
  refine ⟨by rw [l]; unfold SpanC.N; rw [h.g], b, h.best B hb, fun g c hg => ?_⟩
  have hl := (List.getElem?_eq_some_iff.1 hg).1
  rw [l] at hl
  rw [k g c hg]
  exact h.choose B B' hb (by omega) (by unfold SpanC.N at hl; omega)
end Go.Proofs.YtnifpeamgoapmaaDoor
/- The reference's way to the cells of a span: instances are applied until nothing changes. No Go in sight. -/
namespace Go.Proofs.YtnifpeamgoapmaaDoor

/-- a is before b -/
def celLt (a b : Cel) : Prop := vlt a.v b.v = true ∨ (a.v = b.v ∧ (a.r < b.r ∨ (a.r = b.r ∧ a.a < b.a)))
instance (a b : Cel) : Decidable (celLt a b) := by unfold celLt; exact inferInstance
theorem celLt_trans {a b c : Cel} (h : celLt a b) (k : celLt b c) : celLt a c := by
  unfold celLt at *
  rw [vlt_iff] at *
  obtain ⟨⟨ac, az⟩, ar, aa⟩ := a
  obtain ⟨⟨bc, bs⟩, br, ba⟩ := b
  obtain ⟨⟨cc, cs⟩, cr, ca⟩ := c
  simp only [Vl.mk.injEq] at *
  omega
theorem celLt_irrefl (a : Cel) : ¬ celLt a a := by
  unfold celLt
  rw [vlt_iff]
  omega
/-- the better cell -/
def better (a : Cel) (v : Vl) (rule arg : Int) : Cel := if Inf ≤ v.c then a else if celLt ⟨v, rule, arg⟩ a then ⟨v, rule, arg⟩ else a
def vals (own : List Cel) : List Vl := own.map (·.v)
/-- the cell of a rule's head, improved by its instances -/
def SpanC.improve (X : SpanC) (own : List Cel) (k : Nat) (r : NRule) : Cel := (X.insts r).foldl (fun c i => better c (X.cmb (vals own) i) (k : Int) i.a) (own.getD r.h.toNat noneC)

theorem better_fold {f : Inst → Vl} {k : Int} : ∀ (l : List Inst) (c : Cel),
    (l.foldl (fun c i => better c (f i) k i.a) c = c ∧ ∀ i ∈ l, (f i).c < Inf → ¬ celLt ⟨f i, k, i.a⟩ c) ∨ (celLt (l.foldl (fun c i => better c (f i) k i.a) c) c ∧ ∃ i ∈ l, l.foldl (fun c i => better c (f i) k i.a) c = ⟨f i, k, i.a⟩ ∧ (f i).c < Inf)
  | [], c => .inl ⟨rfl, by simp⟩
  | i :: l, c => by
    rw [List.foldl_cons]
    by_cases h1 : (f i).c < Inf ∧ celLt ⟨f i, k, i.a⟩ c
    · have e : better c (f i) k i.a = ⟨f i, k, i.a⟩ := by unfold better; rw [if_neg (by omega), if_pos h1.2]
      rw [e]
      rcases better_fold l ⟨f i, k, i.a⟩ with ⟨e1, h2⟩ | ⟨h2, j, hj, e1, h3⟩
      · rw [e1]
        exact .inr ⟨h1.2, i, by simp, rfl, h1.1⟩
      · exact .inr ⟨celLt_trans h2 h1.2, j, by simp [hj], e1, h3⟩
    · have e : better c (f i) k i.a = c := by
        unfold better
        split
        · rfl
        · rw [if_neg (fun h => h1 ⟨by omega, h⟩)]
      rw [e]
      rcases better_fold l c with ⟨e1, h2⟩ | ⟨h2, j, hj, e1, h3⟩
      · refine .inl ⟨e1, fun j hj hc => ?_⟩
        rcases List.mem_cons.1 hj with rfl | hj
        · exact fun h => h1 ⟨hc, h⟩
        · exact h2 j hj hc
      · exact .inr ⟨h2, j, by simp [hj], e1, h3⟩

/-- what the reference keeps -/
structure RInv (X : SpanC) (own : List Cel) : Prop where
  len : own.length = X.N
  shape : ∀ (h : Nat) c, own[h]? = some c → c = noneC ∨ (VNF c.v ∧ c.v.c < Inf ∧ Deriv X (h : Int) c.v ∧ ∃ k : Nat, ∃ r i, c.r = (k : Int) ∧ X.G.rules[k]? = some r ∧ r.h = (h : Int) ∧ i ∈ X.insts r ∧ i.a = c.a ∧ vle (X.cmb (vals own) i) c.v)
theorem vals_get {own : List Cel} {h : Nat} {v : Vl} (hv : (vals own)[h]? = some v) : ∃ c, own[h]? = some c ∧ c.v = v := by
  unfold vals at hv
  rw [List.getElem?_map] at hv
  cases hc : own[h]? with
  | none => rw [hc] at hv; cases hv
  | some c => rw [hc] at hv; injection hv with hv; exact ⟨c, rfl, hv⟩
theorem vof_vals {own : List Cel} {h : Nat} {c : Cel} (hc : own[h]? = some c) : vof (vals own) (h : Int) = c.v := vof_nat (by unfold vals; rw [List.getElem?_map, hc]; rfl)
section
variable {X : SpanC} {own : List Cel}
theorem RInv.vlen (h : RInv X own) : (vals own).length = X.N := by unfold vals; rw [List.length_map]; exact h.len
theorem RInv.cnf (h : RInv X own) {j : Nat} {c : Cel} (hc : own[j]? = some c) : VNF c.v := by
  rcases h.shape j c hc with rfl | ⟨h1, _⟩
  · exact vnf_inf
  · exact h1
theorem RInv.nf (h : RInv X own) : ∀ v ∈ vals own, VNF v := by
  intro v hv
  obtain ⟨j, hj⟩ := List.getElem?_of_mem hv
  obtain ⟨c, hc, rfl⟩ := vals_get hj
  exact h.cnf hc
theorem RInv.supp (h : RInv X own) : ∀ (g : Nat) v, (vals own)[g]? = some v → v.c < Inf → Deriv X (g : Int) v := by
  intro g v hv hlt
  obtain ⟨c, hc, rfl⟩ := vals_get hv
  rcases h.shape g c hc with rfl | ⟨_, _, h1, _⟩
  · simp [noneC] at hlt
  · exact h1
theorem RInv.init (X : SpanC) : RInv X (List.replicate X.N noneC) := ⟨by simp, fun h c hc => by
  have := List.mem_of_getElem? hc
  rw [List.mem_replicate] at this
  exact .inl this.2⟩
theorem RInv.step (B : Bds X) (h : RInv X own) {k : Nat} {r : NRule} (hr : X.G.rules[k]? = some r) : RInv X (own.set r.h.toNat (X.improve own k r)) := by
  have hrm := List.mem_of_getElem? hr
  have hrk := B.rules r hrm
  have hl : r.h.toNat < own.length := by rw [h.len]; have := hrk.h0; have := hrk.h1; unfold SpanC.N; omega
  obtain ⟨c0, hc0⟩ : ∃ c, own[r.h.toNat]? = some c := ⟨_, List.getElem?_eq_getElem hl⟩
  have hg : own.getD r.h.toNat noneC = c0 := by rw [List.getD, hc0]; rfl
  unfold SpanC.improve
  rcases better_fold (f := X.cmb (vals own)) (k := (k : Int)) (X.insts r) (own.getD r.h.toNat noneC) with ⟨e, _⟩ | ⟨hlt, i, hi, e, hc⟩
  · rw [e, hg]
    rw [show own.set r.h.toNat c0 = own from ?_]
    · exact h
    · apply List.ext_getElem?
      intro j
      by_cases hj : r.h.toNat = j
      · rw [← hj, List.getElem?_set_self hl, hc0]
      · rw [List.getElem?_set_ne hj]
  · rw [hg] at hlt
    rw [hg] at e
    rw [hg, e]
    rw [e] at hlt
    have hok := insts_ok B hrk i hi
    have hle : ∀ y : Int, vle (vof (vals (own.set r.h.toNat ⟨X.cmb (vals own) i, (k : Int), i.a⟩)) y) (vof (vals own) y) := fun y => by
      unfold vals
      rw [List.map_set, vof_set (by simpa using hl)]
      split
      · rename_i hy
        have : vof (List.map (fun x => x.v) own) y = c0.v := by unfold vof; rw [hy, List.getD, List.getElem?_map, hc0]; rfl
        rw [this]
        unfold celLt at hlt
        simp only at hlt
        rcases hlt with hlt | ⟨hlt, _⟩
        · exact vle_of_vlt hlt
        · show vle (X.cmb (vals own) i) c0.v
          rw [hlt]; exact vle_refl _
      · exact vle_refl _
    have hlen : (vals (own.set r.h.toNat ⟨X.cmb (vals own) i, (k : Int), i.a⟩)).length = X.N := by unfold vals; rw [List.length_map, List.length_set]; exact h.len
    have hnf : ∀ v ∈ vals (own.set r.h.toNat ⟨X.cmb (vals own) i, (k : Int), i.a⟩), VNF v := by
      intro v hv
      unfold vals at hv
      rw [List.map_set] at hv
      rcases List.mem_or_eq_of_mem_set hv with hv | rfl
      · exact h.nf v hv
      · exact cmb_nfp B h.vlen h.nf hok
    have hmono : ∀ r' ∈ X.G.rules, ∀ j ∈ X.insts r', vle (X.cmb (vals (own.set r.h.toNat ⟨X.cmb (vals own) i, (k : Int), i.a⟩)) j) (X.cmb (vals own) j) := fun r' hr' j hj => by
      have hokj := insts_ok B (B.rules r' hr') j hj
      refine comb_mono hokj.p0 j.u (fun x hx => (val_nf B hlen hnf hokj x hx).1) (fun x hx => (val_nf B h.vlen h.nf hokj x hx).1) (fun x hx => ?_)
      cases ho : X.own x with
      | true => rw [val_own ho, val_own ho]; exact hle _
      | false => rw [val_tab ho, val_tab ho]; exact vle_refl _
    refine ⟨by rw [List.length_set]; exact h.len, fun g c hgc => ?_⟩
    by_cases hj : r.h.toNat = g
    · rw [← hj, List.getElem?_set_self hl] at hgc
      injection hgc with hgc
      subst hgc
      have hgr : r.h = (g : Int) := by have := hrk.h0; omega
      refine .inr ⟨cmb_nfp B h.vlen h.nf hok, hc, ?_, k, r, i, rfl, hr, hgr, hi, rfl, hmono r hrm i hi⟩
      rw [← hgr]
      exact cmb_deriv B h.vlen h.nf h.supp hrm hi hc
    · rw [List.getElem?_set_ne hj] at hgc
      rcases h.shape g c hgc with rfl | ⟨a1, a2, a3, k', r', i', b1, b2, b3, b4, b5, b6⟩
      · exact .inl rfl
      · exact .inr ⟨a1, a2, a3, k', r', i', b1, b2, b3, b4, b5, vle_trans (hmono r' (List.mem_of_getElem? b2) i' b4) b6⟩
/-- where nothing changes, the cells are the span's -/
theorem RInv.stable (B : Bds X) (h : RInv X own) (hs : ∀ (k : Nat) r, X.G.rules[k]? = some r → X.improve own k r = own.getD r.h.toNat noneC) : IsCells X own := by
  have hno : ∀ (k : Nat) r, X.G.rules[k]? = some r → ∀ i ∈ X.insts r, (X.cmb (vals own) i).c < Inf → ¬ celLt ⟨X.cmb (vals own) i, (k : Int), i.a⟩ (own.getD r.h.toNat noneC) := fun k r hr => by
    have := hs k r hr
    unfold SpanC.improve at this
    rcases better_fold (f := X.cmb (vals own)) (k := (k : Int)) (X.insts r) (own.getD r.h.toNat noneC) with ⟨_, h1⟩ | ⟨hlt, _⟩
    · exact h1
    · rw [this] at hlt
      exact absurd hlt (celLt_irrefl _)
  have hcell : ∀ r ∈ X.G.rules, ∃ c, own[r.h.toNat]? = some c ∧ own.getD r.h.toNat noneC = c ∧ vof (vals own) r.h = c.v := fun r hr => by
    have hrk := B.rules r hr
    have hl : r.h.toNat < own.length := by rw [h.len]; have := hrk.h0; have := hrk.h1; unfold SpanC.N; omega
    have e := List.getElem?_eq_getElem hl
    refine ⟨_, e, by rw [List.getD, e]; rfl, ?_⟩
    have := vof_vals e
    rwa [Int.toNat_of_nonneg hrk.h0] at this
  have hb : IsBest X (vals own) := by
    refine ⟨h.vlen, h.nf, fun r hr i hi => ?_, h.supp⟩
    have hok := insts_ok B (B.rules r hr) i hi
    obtain ⟨c, c1, c2, c3⟩ := hcell r hr
    obtain ⟨k, hk⟩ := List.getElem?_of_mem hr
    by_cases hc : (X.cmb (vals own) i).c < Inf
    · have := hno k r hk i hi hc
      rw [c2] at this
      rw [c3]
      rcases hv : vlt (X.cmb (vals own) i) c.v with _ | _
      · exact hv
      · exact absurd (Or.inl hv) this
    · rw [(cmb_nfp B h.vlen h.nf hok).inf (by omega)]
      rw [c3]
      exact vle_inf (h.cnf c1)
  refine ⟨h.len, _, hb, fun g c hg => ?_⟩
  have hv := vof_vals hg
  rcases h.shape g c hg with rfl | ⟨a1, a2, a3, k', r', i', b1, b2, b3, b4, b5, b6⟩
  · rw [choose_inf]
    rw [hv]
    simp [noneC]
  · have hfin : (vof (vals own) (g : Int)).c < Inf := by rw [hv]; exact a2
    have heq : X.cmb (vals own) i' = vof (vals own) (g : Int) := by
      apply vle_antisymm
      · rw [hv]; exact b6
      · have := hb.closed r' (List.mem_of_getElem? b2) i' b4
        rwa [b3] at this
    rw [choose_of_least (k := k') (a := c.a) hfin ⟨⟨r', i', b2, b3, b4, b5, heq⟩, ?_⟩]
    · rw [hv, ← b1]
    · intro k2 a2' hatt
      obtain ⟨r2, i2, d1, d2, d3, d4, d5⟩ := hatt
      have hgr : r2.h.toNat = g := by omega
      have := hno k2 r2 d1 i2 d3 (by rw [d5]; exact hfin)
      rw [hgr, List.getD, hg, d5, hv] at this
      simp only [Option.getD_some, celLt, not_or, not_and] at this
      have := this.2 trivial
      rw [b1, d4] at this
      omega
end
/-- instances' arguments are small -/
theorem insts_arg {X : SpanC} (B : Bds X) {r : NRule} {i : Inst} (hi : i ∈ X.insts r) : 0 ≤ i.a ∧ i.a < 63 := by
  have h1 := B.f0
  have h2 := B.ft
  have h3 := B.t1
  have h4 := B.al
  unfold SpanC.insts at hi
  split at hi
  · split at hi
    · simp only [List.mem_singleton] at hi; subst hi; simp only; omega
    · cases hi
  · split at hi
    · rw [List.mem_filterMap] at hi
      obtain ⟨ai, hai, h⟩ := hi
      split at h
      · injection h with h
        subst h
        obtain ⟨j, hj⟩ := List.getElem?_of_mem hai
        have hl := (List.getElem?_eq_some_iff.1 hj).1
        rw [List.getElem?_zipIdx, List.getElem?_eq_getElem (by simpa using hl)] at hj
        simp at hj hl
        subst hj
        simp only
        omega
      · cases h
    · split at hi
      · simp only [List.mem_singleton] at hi; subst hi; simp only; omega
      · split at hi
        · rw [List.mem_map] at hi
          obtain ⟨d, hd, rfl⟩ := hi
          rw [List.mem_range] at hd
          simp only
          omega
        · cases hi
/-- a number that becomes less with each change -/
def codeC (c : Cel) : Nat := ((c.v.c.toNat * 2199023255552 + c.v.s.toNat) * 64 + (c.r + 1).toNat) * 64 + c.a.toNat
def codeL (own : List Cel) : Nat := (own.map codeC).sum
theorem codeC_lt {a b : Cel} (ha : VNF a.v) (hb : VNF b.v) (ra : -1 ≤ a.r ∧ a.r < 62) (rb : -1 ≤ b.r ∧ b.r < 62) (aa : 0 ≤ a.a ∧ a.a < 64) (ab : 0 ≤ b.a ∧ b.a < 64) (h : celLt a b) : codeC a < codeC b := by
  obtain ⟨⟨a1, a2, a3, a4⟩, _⟩ := ha
  obtain ⟨⟨b1, b2, b3, b4⟩, _⟩ := hb
  unfold celLt at h
  rw [vlt_iff] at h
  unfold codeC
  unfold Inf at *
  obtain ⟨⟨ac, az⟩, ar, aa'⟩ := a
  obtain ⟨⟨bc, bs⟩, br, ba'⟩ := b
  simp only [Vl.mk.injEq] at *
  omega
theorem sum_set_lt : ∀ (l : List Nat) (i : Nat) (x y : Nat), l[i]? = some x → y < x → (l.set i y).sum < l.sum
  | [], i, x, y, h, _ => by simp at h
  | a :: l, 0, x, y, h, hy => by simp at h; subst h; simp; omega
  | a :: l, i + 1, x, y, h, hy => by
    have := sum_set_lt l i x y (by simpa using h) hy
    simp
    omega
theorem RInv.range {X : SpanC} {own : List Cel} (B : Bds X) (h : RInv X own) {j : Nat} {c : Cel} (hc : own[j]? = some c) : (-1 ≤ c.r ∧ c.r < 62) ∧ (0 ≤ c.a ∧ c.a < 64) := by
  rcases h.shape j c hc with rfl | ⟨a1, a2, a3, k', r', i', b1, b2, b3, b4, b5, b6⟩
  · simp [noneC]
  · have := insts_arg B b4
    have hl := (List.getElem?_eq_some_iff.1 b2).1
    have := B.rl
    omega
theorem RInv.code {X : SpanC} {own : List Cel} (B : Bds X) (h : RInv X own) {k : Nat} {r : NRule} (hr : X.G.rules[k]? = some r) (hne : X.improve own k r ≠ own.getD r.h.toNat noneC) : codeL (own.set r.h.toNat (X.improve own k r)) < codeL own := by
  have hrm := List.mem_of_getElem? hr
  have hrk := B.rules r hrm
  have hl : r.h.toNat < own.length := by rw [h.len]; have := hrk.h0; have := hrk.h1; unfold SpanC.N; omega
  obtain ⟨c0, hc0⟩ : ∃ c, own[r.h.toNat]? = some c := ⟨_, List.getElem?_eq_getElem hl⟩
  have hg : own.getD r.h.toNat noneC = c0 := by rw [List.getD, hc0]; rfl
  have h2 := h.step B hr
  have hc1 : (own.set r.h.toNat (X.improve own k r))[r.h.toNat]? = some (X.improve own k r) := List.getElem?_set_self hl
  unfold codeL
  rw [List.map_set]
  refine sum_set_lt _ _ (codeC c0) _ (by rw [List.getElem?_map, hc0]; rfl) ?_
  refine codeC_lt (h2.cnf hc1) (h.cnf hc0) (h2.range B hc1).1 (h.range B hc0).1 (h2.range B hc1).2 (h.range B hc0).2 ?_
  unfold SpanC.improve at hne ⊢
  rcases better_fold (f := X.cmb (vals own)) (k := (k : Int)) (X.insts r) (own.getD r.h.toNat noneC) with ⟨e, _⟩ | ⟨hlt, _⟩
  · exact absurd e hne
  · rwa [hg] at hlt ⊢
end Go.Proofs.YtnifpeamgoapmaaDoor
/- The chart: the cells of all spans, one after another; there is one. No Go in sight. -/
namespace Go.Proofs.YtnifpeamgoapmaaDoor

/-- how many spans begin before state f -/
def row (S : Nat) : Nat → Nat
  | 0 => 0
  | f + 1 => row S f + (S - f)
/-- the number of a span -/
def qN (S f t : Nat) : Nat := row S f + (t - f)
theorem row_int (S : Nat) : ∀ f : Nat, f ≤ S → (row S f : Int) = (f : Int) * S - (f : Int) * ((f : Int) - 1) / 2
  | 0, _ => by simp [row]
  | f + 1, h => by
    have ih := row_int S f (by omega)
    have e1 : (((f + 1 : Nat) : Int)) * S = (f : Int) * S + S := by rw [Int.natCast_add, Int.add_mul]; simp
    have e2 : (((f + 1 : Nat) : Int)) * ((((f + 1 : Nat) : Int)) - 1) = (f : Int) * ((f : Int) - 1) + 2 * f := by
      have : (((f + 1 : Nat) : Int)) - 1 = f := by omega
      rw [this, Int.natCast_add, Int.add_mul, Int.mul_sub]
      simp
      omega
    rw [e1, e2]
    show ((row S f + (S - f) : Nat) : Int) = _
    rw [Int.natCast_add, ih, Int.ofNat_sub (by omega)]
    generalize (f : Int) * S = P
    generalize (f : Int) * ((f : Int) - 1) = Q
    omega
theorem row_succ_le {S f g : Nat} (h : f < g) : row S f + (S - f) ≤ row S g := by
  induction g with
  | zero => omega
  | succ g ih =>
    show _ ≤ row S g + (S - g)
    by_cases hg : f = g
    · subst hg; exact Nat.le_refl _
    · have := ih (by omega); omega
theorem row_le {S f g : Nat} (h : f ≤ g) : row S f ≤ row S g := by
  by_cases hg : f = g
  · subst hg; exact Nat.le_refl _
  · have := row_succ_le (S := S) (show f < g by omega); omega
theorem qN_lt {S f t : Nat} (h1 : f ≤ t) (h2 : t < S) : qN S f t < row S S := by
  have := row_succ_le (S := S) (show f < S by omega)
  unfold qN
  omega
theorem qN_inj {S f t f' t' : Nat} (h1 : f ≤ t) (h2 : t < S) (h1' : f' ≤ t') (h2' : t' < S) (h : qN S f t = qN S f' t') : f = f' ∧ t = t' := by
  unfold qN at h
  by_cases hf : f < f'
  · have := row_succ_le (S := S) hf; omega
  · by_cases hf' : f' < f
    · have := row_succ_le (S := S) hf'; omega
    · have : f = f' := by omega
      subst this
      omega
theorem qN_surj {S : Nat} : ∀ (n q : Nat), n ≤ S → q < row S n → ∃ f t, f < n ∧ f ≤ t ∧ t < S ∧ q = qN S f t
  | 0, q, _, h => by simp [row] at h
  | n + 1, q, hn, h => by
    by_cases hq : q < row S n
    · obtain ⟨f, t, h1, h2, h3, h4⟩ := qN_surj n q (by omega) hq
      exact ⟨f, t, by omega, h2, h3, h4⟩
    · have h' : q < row S n + (S - n) := h
      exact ⟨n, n + (q - row S n), by omega, by omega, by omega, by unfold qN; omega⟩
theorem off_nat {N S f t : Nat} (h1 : f ≤ t) (h2 : t < S) : offP (N : Int) (S : Int) (f : Int) (t : Int) = ((qN S f t * N : Nat) : Int) := by
  unfold offP qN
  rw [Int.natCast_mul, Int.natCast_add, row_int S f (by omega), Int.ofNat_sub h1]
  congr 1
  omega
theorem sq_even : ∀ n : Nat, ∃ k : Int, (n : Int) * n - n = 2 * k
  | 0 => ⟨0, by simp⟩
  | n + 1 => by
    obtain ⟨k, hk⟩ := sq_even n
    refine ⟨k + n, ?_⟩
    have : (((n + 1 : Nat) : Int)) * (((n + 1 : Nat) : Int)) = (n : Int) * n + 2 * n + 1 := by
      rw [Int.natCast_add, Int.add_mul, Int.mul_add]
      simp
      omega
    rw [this]
    omega
/-- the number of cells -/
theorem count_nat (S : Nat) : ((row S S : Nat) : Int) = (S : Int) * ((S : Int) + 1) / 2 := by
  obtain ⟨k, hk⟩ := sq_even S
  rw [row_int S S (Nat.le_refl _), Int.mul_sub, Int.mul_add]
  simp
  generalize (S : Int) * S = P at *
  omega
theorem mul_lt {q N h r : Nat} (hq : q < r) (hh : h < N) : q * N + h < r * N := by
  have : (q + 1) * N ≤ r * N := Nat.mul_le_mul_right N (by omega)
  rw [Nat.add_mul] at this
  omega
theorem atP_cell {N S h f t : Nat} {cs : List Cel} (hl : cs.length = row S S * N) (hh : h < N) (h1 : f ≤ t) (h2 : t < S) : atP (N : Int) (S : Int) cs (h : Int) (f : Int) (t : Int) = cs.getD (qN S f t * N + h) noneC := by
  have e1 : S ≤ row S S := by
    have := row_le (S := S) (show 1 ≤ S by omega)
    simp [row] at this
    exact this
  have e2 : 1 * N ≤ row S S * N := Nat.mul_le_mul_right N (by omega)
  have e3 : row S S * 1 ≤ row S S * N := Nat.mul_le_mul_left _ (by omega)
  unfold atP
  rw [if_neg (by omega), if_neg (by omega), off_nat h1 h2]
  congr 1
/-- the cells of a span -/
def seg (cs : List Cel) (N S f t : Nat) : List Cel := (cs.drop (qN S f t * N)).take N
theorem seg_get {cs : List Cel} {N S f t h : Nat} (hh : h < N) : (seg cs N S f t)[h]? = cs[qN S f t * N + h]? := by
  unfold seg
  rw [List.getElem?_take, if_pos hh, List.getElem?_drop]
theorem seg_len {cs : List Cel} {N S f t : Nat} (hl : cs.length = row S S * N) (h1 : f ≤ t) (h2 : t < S) : (seg cs N S f t).length = N := by
  unfold seg
  have := qN_lt h1 h2
  have h3 : (qN S f t + 1) * N ≤ row S S * N := Nat.mul_le_mul_right N (by omega)
  rw [Nat.add_mul] at h3
  rw [List.length_take, List.length_drop]
  omega
def putAt (cs : List Cel) (off : Nat) (A : List Cel) : List Cel := cs.take off ++ A ++ cs.drop (off + A.length)
theorem putAt_len {cs A : List Cel} {off : Nat} (h : off + A.length ≤ cs.length) : (putAt cs off A).length = cs.length := by
  unfold putAt
  simp
  omega
theorem putAt_get {cs A : List Cel} {off : Nat} (h : off + A.length ≤ cs.length) (j : Nat) : (putAt cs off A)[j]? = if off ≤ j ∧ j < off + A.length then A[j - off]? else cs[j]? := by
  unfold putAt
  by_cases h1 : j < off
  · rw [if_neg (by omega), List.append_assoc, List.getElem?_append_left (by simp; omega), List.getElem?_take, if_pos h1]
  · by_cases h2 : j < off + A.length
    · rw [if_pos ⟨by omega, h2⟩, List.append_assoc, List.getElem?_append_right (by simp; omega)]
      rw [List.getElem?_append_left (by simp; omega)]
      congr 1
      simp
      omega
    · rw [if_neg (by omega), List.getElem?_append_right (by simp; omega), List.getElem?_drop]
      congr 1
      simp
      omega

/-- a grammar and a lattice that are small and in order -/
structure GBds (G : Gram) (L : Lat) : Prop where
  n0 : 1 ≤ G.nN
  n1 : G.nN ≤ 10
  rules : ∀ r ∈ G.rules, ROK G.nT G.nN r
  rl : G.rules.length ≤ 14
  s0 : 1 ≤ L.st
  s1 : L.st ≤ 9
  al : L.arcs.length ≤ 40
  ac : ∀ a ∈ L.arcs, 0 ≤ a.c ∧ a.c < Inf
  as_ : L.arcs.Pairwise arcLt
def spanOf (G : Gram) (L : Lat) (cs : List Cel) (f t : Nat) : SpanC := ⟨G, L, ⟨G.nN, L.st, cs⟩, (f : Int), (t : Int)⟩
/-- the chart under way: which spans are done -/
structure Part (G : Gram) (L : Lat) (cs : List Cel) (done : Nat → Nat → Prop) : Prop where
  len : cs.length = row L.st.toNat L.st.toNat * G.nN.toNat
  nf : ∀ c ∈ cs, VNF c.v
  ok : ∀ f t, f ≤ t → t < L.st.toNat → done f t → IsCells (spanOf G L cs f t) (seg cs G.nN.toNat L.st.toNat f t)
theorem row9 {S : Nat} (h : S ≤ 9) : row S S ≤ 45 := by
  have := count_nat S
  have h1 : (S : Int) * ((S : Int) + 1) ≤ 9 * 10 := Int.mul_le_mul (by omega) (by omega) (by omega) (by omega)
  omega
theorem GBds.span {G : Gram} {L : Lat} (B : GBds G L) {cs : List Cel} (hl : cs.length = row L.st.toNat L.st.toNat * G.nN.toNat) (hn : ∀ c ∈ cs, VNF c.v) {f t : Nat} (h1 : f ≤ t) (h2 : t < L.st.toNat) : Bds (spanOf G L cs f t) := by
  obtain ⟨n0, n1, rules, rl, s0, s1, al, ac, as_⟩ := B
  refine ⟨by show 0 ≤ G.nN; omega, n1, rules, rl, al, ac, as_, by show (0 : Int) ≤ (f : Int); omega, by show (f : Int) ≤ (t : Int); omega, by show (t : Int) ≤ 8; omega, n1, s1, ?_, hn⟩
  show cs.length ≤ 1000
  have := row9 (S := L.st.toNat) (by omega)
  have h3 : row L.st.toNat L.st.toNat * G.nN.toNat ≤ 45 * 10 := Nat.mul_le_mul this (by omega)
  omega
/-- two charts that agree on the spans strictly inside -/
theorem spanOf_alike {G : Gram} {L : Lat} (B : GBds G L) {a b : List Cel} (ha : a.length = row L.st.toNat L.st.toNat * G.nN.toNat) (hb : b.length = row L.st.toNat L.st.toNat * G.nN.toNat) {f t : Nat} (h2 : t < L.st.toNat)
    (h : ∀ f' t' g, f ≤ f' → f' ≤ t' → t' ≤ t → ¬ (f' = f ∧ t' = t) → g < G.nN.toNat → a[qN L.st.toNat f' t' * G.nN.toNat + g]? = b[qN L.st.toNat f' t' * G.nN.toNat + g]?) : Alike (spanOf G L a f t) (spanOf G L b f t) := by
  refine ⟨rfl, rfl, rfl, rfl, fun x h0 h1 k1 k2 k3 ho => ?_⟩
  have n0 := B.n0
  have s0 := B.s0
  obtain ⟨xh, xf, xt⟩ := x
  simp only [spanOf, SpanC.own, SpanC.tab] at *
  obtain ⟨g, rfl⟩ := Int.eq_ofNat_of_zero_le h0
  obtain ⟨f', rfl⟩ := Int.eq_ofNat_of_zero_le (show 0 ≤ xf by omega)
  obtain ⟨t', rfl⟩ := Int.eq_ofNat_of_zero_le (show 0 ≤ xt by omega)
  obtain ⟨N, hN⟩ := Int.eq_ofNat_of_zero_le (show 0 ≤ G.nN by omega)
  obtain ⟨S, hS⟩ := Int.eq_ofNat_of_zero_le (show 0 ≤ L.st by omega)
  rw [hN] at h1 h ha hb
  rw [hS] at h2 h ha hb
  simp only [Int.toNat_natCast] at h ha hb h2
  rw [hN, hS, atP_cell ha (by omega) (by omega) (by omega), atP_cell hb (by omega) (by omega) (by omega), List.getD, List.getD, h f' t' g (by omega) (by omega) (by omega) ?_ (by omega)]
  rintro ⟨rfl, rfl⟩
  simp at ho
theorem seg_eq {a b : List Cel} {N S f t : Nat} (ha : a.length = row S S * N) (hb : b.length = row S S * N) (h1 : f ≤ t) (h2 : t < S) (h : ∀ g, g < N → a[qN S f t * N + g]? = b[qN S f t * N + g]?) : seg a N S f t = seg b N S f t := by
  apply List.ext_getElem?
  intro g
  by_cases hg : g < N
  · rw [seg_get hg, seg_get hg, h g hg]
  · rw [List.getElem?_eq_none (by rw [seg_len ha h1 h2]; omega), List.getElem?_eq_none (by rw [seg_len hb h1 h2]; omega)]
theorem putAt_other {cs A : List Cel} {N S f t f' t' g : Nat} (hl : cs.length = row S S * N) (hA : A.length = N) (h1 : f ≤ t) (h2 : t < S) (h1' : f' ≤ t') (h2' : t' < S) (hg : g < N) (hne : ¬ (f' = f ∧ t' = t)) : (putAt cs (qN S f t * N) A)[qN S f' t' * N + g]? = cs[qN S f' t' * N + g]? := by
  have hq := qN_lt h1 h2
  have h3 : (qN S f t + 1) * N ≤ row S S * N := Nat.mul_le_mul_right N (by omega)
  rw [Nat.add_mul] at h3
  rw [putAt_get (by omega), if_neg]
  rintro ⟨k1, k2⟩
  apply hne
  rw [hA] at k2
  refine qN_inj h1' h2' h1 h2 ?_
  by_cases e : qN S f' t' < qN S f t
  · have := mul_lt e hg; omega
  · by_cases e' : qN S f t < qN S f' t'
    · have : (qN S f t + 1) * N ≤ qN S f' t' * N := Nat.mul_le_mul_right N (by omega)
      rw [Nat.add_mul] at this
      omega
    · omega
theorem putAt_self {cs A : List Cel} {N S f t g : Nat} (hl : cs.length = row S S * N) (hA : A.length = N) (h1 : f ≤ t) (h2 : t < S) (hg : g < N) : (putAt cs (qN S f t * N) A)[qN S f t * N + g]? = A[g]? := by
  have hq := qN_lt h1 h2
  have h3 : (qN S f t + 1) * N ≤ row S S * N := Nat.mul_le_mul_right N (by omega)
  rw [Nat.add_mul] at h3
  rw [putAt_get (by omega), if_pos (by omega)]
  congr 1
  omega
/-- one span more -/
theorem Part.put {G : Gram} {L : Lat} (B : GBds G L) {cs : List Cel} {done : Nat → Nat → Prop} (h : Part G L cs done) {f t : Nat} (h1 : f ≤ t) (h2 : t < L.st.toNat) {A : List Cel} (hA : IsCells (spanOf G L cs f t) A)
    (hd : ∀ f' t', done f' t' → ¬ (f' ≤ f ∧ t ≤ t')) : Part G L (putAt cs (qN L.st.toNat f t * G.nN.toNat) A) (fun a b => done a b ∨ (a = f ∧ b = t)) := by
  have hAl : A.length = G.nN.toNat := hA.len
  have hq := qN_lt h1 h2
  have h3 : (qN L.st.toNat f t + 1) * G.nN.toNat ≤ row L.st.toNat L.st.toNat * G.nN.toNat := Nat.mul_le_mul_right _ (by omega)
  rw [Nat.add_mul] at h3
  have hlen : (putAt cs (qN L.st.toNat f t * G.nN.toNat) A).length = row L.st.toNat L.st.toNat * G.nN.toNat := by rw [putAt_len (by rw [hAl, h.len]; omega)]; exact h.len
  have hnf : ∀ c ∈ putAt cs (qN L.st.toNat f t * G.nN.toNat) A, VNF c.v := by
    intro c hc
    unfold putAt at hc
    rcases List.mem_append.1 hc with hc | hc
    · rcases List.mem_append.1 hc with hc | hc
      · exact h.nf c (List.mem_of_mem_take hc)
      · exact hA.nf (B.span h.len h.nf h1 h2) c hc
    · exact h.nf c (List.mem_of_mem_drop hc)
  refine ⟨hlen, hnf, fun f' t' h1' h2' hdone => ?_⟩
  by_cases he : f' = f ∧ t' = t
  · obtain ⟨rfl, rfl⟩ := he
    have e : seg (putAt cs (qN L.st.toNat f' t' * G.nN.toNat) A) G.nN.toNat L.st.toNat f' t' = A := by
      apply List.ext_getElem?
      intro g
      by_cases hg : g < G.nN.toNat
      · rw [seg_get hg, putAt_self h.len hAl h1 h2 hg]
      · rw [List.getElem?_eq_none (by rw [seg_len hlen h1 h2]; omega), List.getElem?_eq_none (by omega)]
    rw [e]
    exact (spanOf_alike B h.len hlen h2 (fun f'' t'' g a b c d hg => (putAt_other h.len hAl h1 h2 b (by omega) hg d).symm)).cells (B.span h.len h.nf h1 h2) (B.span hlen hnf h1 h2) hA
  · have hdn : done f' t' := hdone.resolve_right he
    rw [seg_eq hlen h.len h1' h2' (fun g hg => putAt_other h.len hAl h1 h2 h1' h2' hg he)]
    refine (spanOf_alike B h.len hlen h2' (fun f'' t'' g a b c d hg => (putAt_other h.len hAl h1 h2 b (by omega) hg ?_).symm)).cells (B.span h.len h.nf h1' h2') (B.span hlen hnf h1' h2') (h.ok f' t' h1' h2' hdn)
    rintro ⟨rfl, rfl⟩
    exact hd f' t' hdn ⟨a, c⟩
theorem Part.mono {G : Gram} {L : Lat} {cs : List Cel} {done done' : Nat → Nat → Prop} (h : Part G L cs done) (hm : ∀ f t, f ≤ t → t < L.st.toNat → done' f t → done f t) : Part G L cs done' := ⟨h.len, h.nf, fun f t h1 h2 hd => h.ok f t h1 h2 (hm f t h1 h2 hd)⟩
/-- the chart of a grammar and a lattice -/
def IsChart (G : Gram) (L : Lat) (cs : List Cel) : Prop := Part G L cs (fun _ _ => True)
theorem IsChart.unique {G : Gram} {L : Lat} (B : GBds G L) {a b : List Cel} (ha : IsChart G L a) (hb : IsChart G L b) : a = b := by
  have key : ∀ (n f t : Nat), t - f ≤ n → f ≤ t → t < L.st.toNat → ∀ g, g < G.nN.toNat → a[qN L.st.toNat f t * G.nN.toNat + g]? = b[qN L.st.toNat f t * G.nN.toNat + g]? := by
    intro n
    induction n using Nat.strongRecOn with
    | _ n ih =>
      intro f t hn h1 h2 g hg
      have hal : Alike (spanOf G L a f t) (spanOf G L b f t) := spanOf_alike B ha.len hb.len h2 (fun f' t' g' k1 k2 k3 k4 hg' => ih (t' - f') (by omega) f' t' (Nat.le_refl _) k2 (by omega) g' hg')
      have h3 := hal.cells (B.span ha.len ha.nf h1 h2) (B.span hb.len hb.nf h1 h2) (ha.ok f t h1 h2 trivial)
      have h4 := h3.unique (B.span hb.len hb.nf h1 h2) (hb.ok f t h1 h2 trivial)
      rw [← seg_get hg, h4, seg_get hg]
  apply List.ext_getElem?
  intro j
  by_cases hj : j < row L.st.toNat L.st.toNat * G.nN.toNat
  · have hN : 0 < G.nN.toNat := by have := B.n0; omega
    have hq : j / G.nN.toNat < row L.st.toNat L.st.toNat := by rw [Nat.div_lt_iff_lt_mul hN]; exact hj
    obtain ⟨f, t, h1, h2, h3, h4⟩ := qN_surj L.st.toNat _ (Nat.le_refl _) hq
    have := key _ f t (Nat.le_refl _) h2 h3 (j % G.nN.toNat) (Nat.mod_lt _ hN)
    rw [← h4] at this
    rwa [show j / G.nN.toNat * G.nN.toNat + j % G.nN.toNat = j by rw [Nat.mul_comm]; exact Nat.div_add_mod j _] at this
  · rw [List.getElem?_eq_none (by rw [ha.len]; omega), List.getElem?_eq_none (by rw [hb.len]; omega)]
end Go.Proofs.YtnifpeamgoapmaaDoor
