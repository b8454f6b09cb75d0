/- Valid, of a lattice. -/
import Derived.Test.YtnifpeamgoapmaaDoorRo
set_option linter.unusedVariables false
set_option linter.unusedSimpArgs false
namespace Go.Proofs.YtnifpeamgoapmaaDoor
open Go Go.RowKit

def AV (st nT : Int) (a : ArcP) : Prop := 0 ≤ a.f ∧ a.f ≤ a.t ∧ a.t < st ∧ 0 ≤ a.m ∧ a.m < nT ∧ 0 ≤ a.c ∧ a.c < Inf ∧ ¬ (a.f = a.t ∧ a.c = 0)
/-- a lattice in order -/
structure VL (L : Lat) (nT : Int) : Prop where
  s1 : 1 ≤ L.st
  fl : (L.fin.length : Int) = L.st
  fr : ∀ f ∈ L.fin, 0 ≤ f ∧ f ≤ Inf
  ar : ∀ a ∈ L.arcs, AV L.st nT a
  so : ∀ (i : Nat) a b, L.arcs[i]? = some a → L.arcs[i + 1]? = some b → arcLt a b
theorem arcLt_trans {a b c : ArcP} (h : arcLt a b) (k : arcLt b c) : arcLt a c := by
  unfold arcLt at *
  omega
theorem pair_of_adj {l : List ArcP} (h : ∀ (i : Nat) a b, l[i]? = some a → l[i + 1]? = some b → arcLt a b) : l.Pairwise arcLt := by
  have key : ∀ (d i : Nat) a b, l[i]? = some a → l[i + d + 1]? = some b → arcLt a b := by
    intro d
    induction d with
    | zero => exact fun i a b h1 h2 => h i a b h1 h2
    | succ d ih =>
      intro i a b h1 h2
      have hl := (List.getElem?_eq_some_iff.1 h2).1
      obtain ⟨c, hc⟩ : ∃ c, l[i + d + 1]? = some c := ⟨_, List.getElem?_eq_getElem (by omega)⟩
      exact arcLt_trans (ih i a c h1 hc) (h (i + d + 1) c b hc (by rw [← h2]; congr 1))
  rw [List.pairwise_iff_getElem]
  intro i j hi hj hij
  exact key (j - i - 1) i _ _ (List.getElem?_eq_getElem hi) (by rw [show i + (j - i - 1) + 1 = j by omega]; exact List.getElem?_eq_getElem hj)
set_option maxRecDepth 100000 in
set_option maxHeartbeats 16000000 in
/-- Valid, of a lattice -/
theorem valid37_any (L : Lat) (nT : Int) (AA FA : Option Addr) (ac fc : Nat) (w : World) (hA : ArcsAt w AA L.arcs) (hR : Rd w FA L.fin.length 1 (L.fin.map I)) (hs9 : L.st ≤ 9) (hal : L.arcs.length ≤ 40) (b : Bool) (hb : b = true ↔ VL L nT) :
    Calls Tryd.prog 29 #[LatA L AA ac FA fc, I nT] w fun e w' => e = .returned (.bool b) ∧ Below w.heap.size w w' := by
  have HB := hide (show ∀ o1, Below w.heap.size w (w.alloc o1) from fun o1 => (Below.refl _ _).alloc (Nat.le_refl _) _)
  have HF := hide (show ¬ VL L nT → b = false from fun h => by
    cases hbb : b with
    | false => rfl
    | true => exact absurd (hb.1 hbb) h)
  have HT := hide hb.2
  have HR := hide hR
  have HA := hide hA
  clear hb hR hA
  have hc : L.st < 1 ∨ (1 ≤ L.st ∧ (L.fin.length : Int) ≠ L.st) ∨ (1 ≤ L.st ∧ (L.fin.length : Int) = L.st) := by omega
  rcases hc with h1 | ⟨h1, h2⟩ | ⟨h1, h2⟩
  · have HE := hide (HF.out (fun h => by have := h.s1; omega))
    go_enter Tryd.func29, Tryd.ntmps29
    go_wp2
    go_ret
    exact ⟨by rw [HE.out]; rfl, HB.out _⟩
  · have HE := hide (HF.out (fun h => by have := h.fl; omega))
    have hd : ((L.fin.length : Int) != L.st) = true := by simpa using h2
    clear h2
    go_enter Tryd.func29, Tryd.ntmps29
    go_wp2
    go_ret
    exact ⟨by rw [HE.out]; rfl, HB.out _⟩
  · have HFL := hide h2
    have hd : ((L.fin.length : Int) != L.st) = false := by simpa using h2
    have hfl : L.fin.length ≤ 9 := by omega
    clear h2
    go_enter Tryd.func29, Tryd.ntmps29
    go_wp2_with fail
    go_loopw [5] (fun s5 wr => ∃ k : Nat, s5 = .int .i64 k ∧ k ≤ L.fin.length ∧ (∀ (j : Nat) f, j < k → L.fin[j]? = some f → 0 ≤ f ∧ f ≤ Inf) ∧ Blk wr w.heap.size 28 #[I L.st, .slice AA L.arcs.length ac, .slice FA L.fin.length fc] ∧ Below w.heap.size w wr) (fun s5 _ => 1000 - (intOf s5).toNat)
    case atStart => exact ⟨0, rfl, Nat.zero_le _, fun j r h => by omega, Blk.new w _ _, HB.out _⟩
    case round =>
      clear hd
      obtain ⟨k, rfl, hk, hj, hg, hbel⟩ := hrel
      have HJ := hide hj
      have HG := hide hg
      have HBEL := hide hbel
      have g2 := hg.cell 2
      simp at g2
      clear hj hbel
      have hkl : (k : Int) < L.fin.length ∨ (L.fin.length : Int) ≤ k := by omega
      rcases hkl with hkl | hkl
      · obtain ⟨f, hf⟩ : ∃ f, L.fin[k]? = some f := ⟨_, List.getElem?_eq_getElem (by omega)⟩
        obtain ⟨fb, fo, hFA, x0⟩ := (HR.out.below HBEL.out).int k hf
        rw [hFA] at g2
        have HFF := hide hf
        clear hf hFA hg
        have hc : f < 0 ∨ (0 ≤ f ∧ 1099511627776 < f) ∨ (0 ≤ f ∧ f ≤ 1099511627776) := by omega
        rcases hc with k1 | ⟨k1, k2⟩ | ⟨k1, k2⟩
        iterate 2
          · have HE := hide (HF.out (fun h => by have := h.fr f (List.mem_of_getElem? HFF.out); unfold Inf at this; omega))
            go_wp2
            go_ret
            exact ⟨by rw [HE.out]; rfl, HBEL.out⟩
        · go_wp2_with fail
          go_roundw
          case rel =>
            refine ⟨k + 1, by simp, by omega, fun j f' hj hf' => ?_, HG.out, HBEL.out⟩
            by_cases hjk : j = k
            · subst hjk; rw [HFF.out] at hf'; injection hf' with hf'; rw [← hf']; exact ⟨k1, by unfold Inf; omega⟩
            · exact HJ.out j f' (by omega) hf'
          case measure => simp [intOf]; omega
      · have HFR := hide (show ∀ f ∈ L.fin, 0 ≤ f ∧ f ≤ Inf from fun f hf => by
          obtain ⟨j, hj⟩ := List.getElem?_of_mem hf
          exact HJ.out j f (by have := (List.getElem?_eq_some_iff.1 hj).1; omega) hj)
        have hd : decide ((k : Int) < L.fin.length) = false := by simp; omega
        have hd2 : decide (k < L.fin.length) = false := by simp; omega
        go_wp2_with fail
        clear hg g2 hd hd2
        go_loopw [6] (fun s6 wr => ∃ k : Nat, s6 = .int .i64 k ∧ k ≤ L.arcs.length ∧ (∀ (j : Nat) a, j < k → L.arcs[j]? = some a → AV L.st nT a) ∧ (∀ (i : Nat) a b, i + 1 < k → L.arcs[i]? = some a → L.arcs[i + 1]? = some b → arcLt a b) ∧ Blk wr w.heap.size 28 #[I L.st, .slice AA L.arcs.length ac, .slice FA L.fin.length fc] ∧ Below w.heap.size w wr) (fun s6 _ => 1000 - (intOf s6).toNat)
        case atStart => exact ⟨0, rfl, Nat.zero_le _, fun j r h => by omega, fun j a b h => by omega, HG.out, HBEL.out⟩
        case round =>
          clear HG HBEL hkl hk HJ
          obtain ⟨k, rfl, hk, hj, hso, hg, hbel⟩ := hrel
          have HJ := hide hj
          have HSO := hide hso
          have HG := hide hg
          have HBEL := hide hbel
          have g0 := hg.cell 0
          have g1 := hg.cell 1
          have hgl := hg.lt
          simp at g0 g1
          clear hj hso
          have hkl : (k : Int) < L.arcs.length ∨ (L.arcs.length : Int) ≤ k := by omega
          rcases hkl with hkl | hkl
          · obtain ⟨a, ha⟩ : ∃ a, L.arcs[k]? = some a := ⟨_, List.getElem?_eq_getElem (by omega)⟩
            obtain ⟨zb, zo, oa, on_, ocp, hAA, x0, x1, x2, x3, x4⟩ := (HA.out.below hbel) k a ha
            rw [hAA] at g1
            have HBA := hide (show Below w.heap.size w (wr.alloc (Obj.cells #[I a.f, I a.t, I a.m, I a.c, .slice oa on_ ocp] 68)) from HBEL.out.alloc HBEL.out.size _)
            have HGA := hide (HG.out.alloc (Obj.cells #[I a.f, I a.t, I a.m, I a.c, .slice oa on_ ocp] 68))
            have HFA := hide (show ¬ AV L.st nT a → b = false from fun h => HF.out (fun hv => h (hv.ar a (List.mem_of_getElem? ha))))
            have HJA := hide (show AV L.st nT a → ∀ (j : Nat) a, j < k + 1 → L.arcs[j]? = some a → AV L.st nT a from fun h j a' hj ha' => by
              by_cases hjk : j = k
              · subst hjk; rw [ha] at ha'; injection ha' with ha'; rw [← ha']; exact h
              · exact HJ.out j a' (by omega) ha')
            have HARC := hide ha
            obtain ⟨af, at_, am, ac'⟩ := a
            simp only at x0 x1 x2 x3 x4
            have HAA := hide hAA
            clear ha hg hbel hAA
            go_wp2_with fail
            have hq0 := Blk.new wr 68 #[I af, I at_, I am, I ac', .slice oa on_ ocp]
            have hz2 : Below wr.heap.size wr (wr.alloc (Obj.cells #[I af, I at_, I am, I ac', .slice oa on_ ocp] 68)) := (Below.refl _ _).alloc (Nat.le_refl _) _
            have HZ2 := hide hz2
            generalize wr.alloc (Obj.cells #[I af, I at_, I am, I ac', .slice oa on_ ocp] 68) = W2 at hq0 hz2 HBA HGA HZ2 ⊢
            generalize wr.heap.size = q at hq0 ⊢
            have l0 := fun y : LW W2 => y.cell (hq0.cell 0)
            have l1 := fun y : LW W2 => y.cell (hq0.cell 1)
            have l2 := fun y : LW W2 => y.cell (hq0.cell 2)
            have l3 := fun y : LW W2 => y.cell (hq0.cell 3)
            have l4 := fun y : LW W2 => y.cell (hq0.cell 4)
            have l5 := fun y : LW W2 => y.cell (cell_below hz2 g0)
            have l6 := fun y : LW W2 => y.cell (cell_below hz2 g1)
            simp at l0 l1 l2 l3 l4
            clear hq0 hz2 g0 g1 x0 x1 x2 x3 x4
            have hc : (af < 0) ∨ (0 ≤ af ∧ at_ < af) ∨ (0 ≤ af ∧ af ≤ at_ ∧ L.st ≤ at_) ∨ (0 ≤ af ∧ af ≤ at_ ∧ at_ < L.st ∧ am < 0) ∨ (0 ≤ af ∧ af ≤ at_ ∧ at_ < L.st ∧ 0 ≤ am ∧ nT ≤ am) ∨ (0 ≤ af ∧ af ≤ at_ ∧ at_ < L.st ∧ 0 ≤ am ∧ am < nT ∧ ac' < 0) ∨ (0 ≤ af ∧ af ≤ at_ ∧ at_ < L.st ∧ 0 ≤ am ∧ am < nT ∧ 0 ≤ ac' ∧ 1099511627776 ≤ ac') ∨ (0 ≤ af ∧ af ≤ at_ ∧ at_ < L.st ∧ 0 ≤ am ∧ am < nT ∧ 0 ≤ ac' ∧ ac' < 1099511627776) := by omega
            rcases hc with k1 | ⟨k1, k2⟩ | ⟨k1, k2, k3⟩ | ⟨k1, k2, k3, k4⟩ | ⟨k1, k2, k3, k4, k5⟩ | ⟨k1, k2, k3, k4, k5, k6⟩ | ⟨k1, k2, k3, k4, k5, k6, k7⟩ | ⟨k1, k2, k3, k4, k5, k6, k7⟩
            · have HE := hide (HFA.out (fun h => by unfold AV Inf at h; simp only at h; omega))
              have d0 : decide (af < 0) = true := by simp; omega
              refine wp_region_later (by kernel_rfl) (by kernel_rfl) ?_
              repeat (go_big_quiet_step (fail))
              refine wpQuiet_nil ?_
              rintro W1 ⟨x, hx⟩
              have HW1 := hide (show Below W2.heap.size W2 W1 by rw [hx]; exact x.property)
              clear hx x l0 l1 l2 l3 l4 l5 l6
              go_wp2
              go_ret
              exact ⟨by rw [HE.out]; rfl, HBA.out.trans (HW1.out.mono HBA.out.size)⟩
            · have HE := hide (HFA.out (fun h => by unfold AV Inf at h; simp only at h; omega))
              have d0 : decide (af < 0) = false := by simp; omega
              have d1 : decide (at_ < af) = true := by simp; omega
              refine wp_region_later (by kernel_rfl) (by kernel_rfl) ?_
              repeat (go_big_quiet_step (fail))
              refine wpQuiet_nil ?_
              rintro W1 ⟨x, hx⟩
              have HW1 := hide (show Below W2.heap.size W2 W1 by rw [hx]; exact x.property)
              clear hx x l0 l1 l2 l3 l4 l5 l6
              go_wp2
              go_ret
              exact ⟨by rw [HE.out]; rfl, HBA.out.trans (HW1.out.mono HBA.out.size)⟩
            · have HE := hide (HFA.out (fun h => by unfold AV Inf at h; simp only at h; omega))
              have d0 : decide (af < 0) = false := by simp; omega
              have d1 : decide (at_ < af) = false := by simp; omega
              have d2 : decide (L.st ≤ at_) = true := by simp; omega
              refine wp_region_later (by kernel_rfl) (by kernel_rfl) ?_
              repeat (go_big_quiet_step (fail))
              refine wpQuiet_nil ?_
              rintro W1 ⟨x, hx⟩
              have HW1 := hide (show Below W2.heap.size W2 W1 by rw [hx]; exact x.property)
              clear hx x l0 l1 l2 l3 l4 l5 l6
              go_wp2
              go_ret
              exact ⟨by rw [HE.out]; rfl, HBA.out.trans (HW1.out.mono HBA.out.size)⟩
            · have HE := hide (HFA.out (fun h => by unfold AV Inf at h; simp only at h; omega))
              have d0 : decide (af < 0) = false := by simp; omega
              have d1 : decide (at_ < af) = false := by simp; omega
              have d2 : decide (L.st ≤ at_) = false := by simp; omega
              have d3 : decide (am < 0) = true := by simp; omega
              refine wp_region_later (by kernel_rfl) (by kernel_rfl) ?_
              repeat (go_big_quiet_step (fail))
              refine wpQuiet_nil ?_
              rintro W1 ⟨x, hx⟩
              have HW1 := hide (show Below W2.heap.size W2 W1 by rw [hx]; exact x.property)
              clear hx x l0 l1 l2 l3 l4 l5 l6
              go_wp2
              go_ret
              exact ⟨by rw [HE.out]; rfl, HBA.out.trans (HW1.out.mono HBA.out.size)⟩
            · have HE := hide (HFA.out (fun h => by unfold AV Inf at h; simp only at h; omega))
              have d0 : decide (af < 0) = false := by simp; omega
              have d1 : decide (at_ < af) = false := by simp; omega
              have d2 : decide (L.st ≤ at_) = false := by simp; omega
              have d3 : decide (am < 0) = false := by simp; omega
              have d4 : decide (nT ≤ am) = true := by simp; omega
              refine wp_region_later (by kernel_rfl) (by kernel_rfl) ?_
              repeat (go_big_quiet_step (fail))
              refine wpQuiet_nil ?_
              rintro W1 ⟨x, hx⟩
              have HW1 := hide (show Below W2.heap.size W2 W1 by rw [hx]; exact x.property)
              clear hx x l0 l1 l2 l3 l4 l5 l6
              go_wp2
              go_ret
              exact ⟨by rw [HE.out]; rfl, HBA.out.trans (HW1.out.mono HBA.out.size)⟩
            · have HE := hide (HFA.out (fun h => by unfold AV Inf at h; simp only at h; omega))
              have d0 : decide (af < 0) = false := by simp; omega
              have d1 : decide (at_ < af) = false := by simp; omega
              have d2 : decide (L.st ≤ at_) = false := by simp; omega
              have d3 : decide (am < 0) = false := by simp; omega
              have d4 : decide (nT ≤ am) = false := by simp; omega
              have d5 : decide (ac' < 0) = true := by simp; omega
              refine wp_region_later (by kernel_rfl) (by kernel_rfl) ?_
              repeat (go_big_quiet_step (fail))
              refine wpQuiet_nil ?_
              rintro W1 ⟨x, hx⟩
              have HW1 := hide (show Below W2.heap.size W2 W1 by rw [hx]; exact x.property)
              clear hx x l0 l1 l2 l3 l4 l5 l6
              go_wp2
              go_ret
              exact ⟨by rw [HE.out]; rfl, HBA.out.trans (HW1.out.mono HBA.out.size)⟩
            · have HE := hide (HFA.out (fun h => by unfold AV Inf at h; simp only at h; omega))
              have d0 : decide (af < 0) = false := by simp; omega
              have d1 : decide (at_ < af) = false := by simp; omega
              have d2 : decide (L.st ≤ at_) = false := by simp; omega
              have d3 : decide (am < 0) = false := by simp; omega
              have d4 : decide (nT ≤ am) = false := by simp; omega
              have d5 : decide (ac' < 0) = false := by simp; omega
              have d6 : decide (1099511627776 ≤ ac') = true := by simp; omega
              refine wp_region_later (by kernel_rfl) (by kernel_rfl) ?_
              repeat (go_big_quiet_step (fail))
              refine wpQuiet_nil ?_
              rintro W1 ⟨x, hx⟩
              have HW1 := hide (show Below W2.heap.size W2 W1 by rw [hx]; exact x.property)
              clear hx x l0 l1 l2 l3 l4 l5 l6
              go_wp2
              go_ret
              exact ⟨by rw [HE.out]; rfl, HBA.out.trans (HW1.out.mono HBA.out.size)⟩
            · have hq : (af = at_ ∧ ac' = 0) ∨ (af = at_ ∧ ac' ≠ 0) ∨ af ≠ at_ := by omega
              rcases hq with ⟨q1, q2⟩ | ⟨q1, q2⟩ | q1
              · have HE := hide (HFA.out (fun h => by unfold AV at h; simp only at h; omega))
                have z1 : (af == at_) = true := by simp [q1]
                have z2 : (ac' == 0) = true := by simp [q2]
                have d0 : decide (af < 0) = false := by simp; omega
                have d1 : decide (at_ < af) = false := by simp; omega
                have d2 : decide (L.st ≤ at_) = false := by simp; omega
                have d3 : decide (am < 0) = false := by simp; omega
                have d4 : decide (nT ≤ am) = false := by simp; omega
                have d5 : decide (ac' < 0) = false := by simp; omega
                have d6 : decide (1099511627776 ≤ ac') = false := by simp; omega
                clear q1 q2
                refine wp_region_later (by kernel_rfl) (by kernel_rfl) ?_
                repeat (go_big_quiet_step (fail))
                refine wpQuiet_nil ?_
                rintro W1 ⟨x, hx⟩
                have HW1 := hide (show Below W2.heap.size W2 W1 by rw [hx]; exact x.property)
                clear hx x l0 l1 l2 l3 l4 l5 l6
                go_wp2
                go_ret
                exact ⟨by rw [HE.out]; rfl, HBA.out.trans (HW1.out.mono HBA.out.size)⟩
              · have HV := hide (HJA.out ⟨by simp only; omega, by simp only; omega, by simp only; omega, by simp only; omega, by simp only; omega, by simp only; omega, by unfold Inf; simp only; omega, by simp only; omega⟩)
                have z1 : (af == at_) = true := by simp [q1]
                have z2 : (ac' == 0) = false := by simp; omega
                have d0 : decide (af < 0) = false := by simp; omega
                have d1 : decide (at_ < af) = false := by simp; omega
                have d2 : decide (L.st ≤ at_) = false := by simp; omega
                have d3 : decide (am < 0) = false := by simp; omega
                have d4 : decide (nT ≤ am) = false := by simp; omega
                have d5 : decide (ac' < 0) = false := by simp; omega
                have d6 : decide (1099511627776 ≤ ac') = false := by simp; omega
                clear q1 q2
                have hk0 : k = 0 ∨ 0 < k := by omega
                rcases hk0 with hk0 | hk0
                · subst hk0
                  refine wp_region_later (by kernel_rfl) (by kernel_rfl) ?_
                  repeat (go_big_quiet_step (fail))
                  refine wpQuiet_nil ?_
                  rintro W1 ⟨x, hx⟩
                  have HW1 := hide (show Below W2.heap.size W2 W1 by rw [hx]; exact x.property)
                  clear hx x l0 l1 l2 l3 l4 l5 l6
                  go_wp2_with fail
                  go_roundw
                  case rel => exact ⟨0 + 1, by simp, by omega, HV.out, fun i a b hi => by omega, HGA.out.below HW1.out HGA.out.lt, HBA.out.trans (HW1.out.mono HBA.out.size)⟩
                  case measure => simp [intOf]
                · obtain ⟨k, rfl⟩ : ∃ m, k = m + 1 := ⟨k - 1, by omega⟩
                  obtain ⟨p, hp⟩ : ∃ p, L.arcs[k]? = some p := ⟨_, List.getElem?_eq_getElem (by omega)⟩
                  obtain ⟨zb2, zo2, oa2, on2, oc2, hAA2, y0, y1, y2, y3, y4⟩ := (HA.out.below HBEL.out) k p hp
                  rw [HAA.out] at hAA2
                  injection hAA2 with hAA2
                  injection hAA2 with e1 e2
                  subst e1 e2
                  have HPC := hide hp
                  have p0 := fun y : LW W2 => y.cell (cell_below HZ2.out y0)
                  have p1 := fun y : LW W2 => y.cell (cell_below HZ2.out y1)
                  have p2 := fun y : LW W2 => y.cell (cell_below HZ2.out y2)
                  have p3 := fun y : LW W2 => y.cell (cell_below HZ2.out y3)
                  have p4 := fun y : LW W2 => y.cell (cell_below HZ2.out y4)
                  have C52 := hide (fun W => rbefore_any p ⟨af, at_, am, ac'⟩ oa2 oa on2 oc2 on_ ocp W)
                  obtain ⟨pf, pt, pm, pc⟩ := p
                  simp only at p0 p1 p2 p3 p4
                  clear y0 y1 y2 y3 y4
                  have hcast : ((k + 1 : Nat) : Int) = (k : Int) + 1 := by simp
                  have hk1 : (k : Int) + 1 - 1 = (k : Int) := by omega
                  rcases hlt : arcB ⟨pf, pt, pm, pc⟩ ⟨af, at_, am, ac'⟩ with _ | _
                  · have HE := hide (HF.out (fun h => by
                      have := h.so k _ _ HPC.out HARC.out
                      rw [← arcB_iff, hlt] at this
                      cases this))
                    have C := C52.out
                    rw [hlt] at C
                    have C52 := hide C
                    clear hlt C hp
                    refine wp_region_later (by kernel_rfl) (by kernel_rfl) ?_
                    repeat (go_big_quiet_step ((go_at_call 52; exact later_call (C52.out _))))
                    refine wpQuiet_nil ?_
                    rintro W1 ⟨x, hx⟩
                    have HW1 := hide (show Below W2.heap.size W2 W1 by rw [hx]; exact x.property)
                    clear hx x l0 l1 l2 l3 l4 l5 l6 p0 p1 p2 p3 p4
                    go_wp2
                    go_ret
                    exact ⟨by rw [HE.out]; rfl, HBA.out.trans (HW1.out.mono HBA.out.size)⟩
                  · have HLT := hide ((arcB_iff _ _).1 hlt)
                    have C := C52.out
                    rw [hlt] at C
                    have C52 := hide C
                    clear hlt C hp
                    refine wp_region_later (by kernel_rfl) (by kernel_rfl) ?_
                    repeat (go_big_quiet_step ((go_at_call 52; exact later_call (C52.out _))))
                    refine wpQuiet_nil ?_
                    rintro W1 ⟨x, hx⟩
                    have HW1 := hide (show Below W2.heap.size W2 W1 by rw [hx]; exact x.property)
                    clear hx x l0 l1 l2 l3 l4 l5 l6 p0 p1 p2 p3 p4
                    go_wp2_with fail
                    go_roundw
                    case rel =>
                      refine ⟨k + 1 + 1, by simp, by omega, HV.out, fun i a b hi ha hb => ?_, HGA.out.below HW1.out HGA.out.lt, HBA.out.trans (HW1.out.mono HBA.out.size)⟩
                      by_cases hik : i = k
                      · subst hik
                        rw [HPC.out] at ha
                        rw [HARC.out] at hb
                        injection ha with ha
                        injection hb with hb
                        rw [← ha, ← hb]
                        exact HLT.out
                      · exact HSO.out i a b (by omega) ha hb
                    case measure => simp [intOf]; omega
              · have HV := hide (HJA.out ⟨by simp only; omega, by simp only; omega, by simp only; omega, by simp only; omega, by simp only; omega, by simp only; omega, by unfold Inf; simp only; omega, by simp only; omega⟩)
                have z1 : (af == at_) = false := by simp; omega
                have d0 : decide (af < 0) = false := by simp; omega
                have d1 : decide (at_ < af) = false := by simp; omega
                have d2 : decide (L.st ≤ at_) = false := by simp; omega
                have d3 : decide (am < 0) = false := by simp; omega
                have d4 : decide (nT ≤ am) = false := by simp; omega
                have d5 : decide (ac' < 0) = false := by simp; omega
                have d6 : decide (1099511627776 ≤ ac') = false := by simp; omega
                clear q1
                have hk0 : k = 0 ∨ 0 < k := by omega
                rcases hk0 with hk0 | hk0
                · subst hk0
                  refine wp_region_later (by kernel_rfl) (by kernel_rfl) ?_
                  repeat (go_big_quiet_step (fail))
                  refine wpQuiet_nil ?_
                  rintro W1 ⟨x, hx⟩
                  have HW1 := hide (show Below W2.heap.size W2 W1 by rw [hx]; exact x.property)
                  clear hx x l0 l1 l2 l3 l4 l5 l6
                  go_wp2_with fail
                  go_roundw
                  case rel => exact ⟨0 + 1, by simp, by omega, HV.out, fun i a b hi => by omega, HGA.out.below HW1.out HGA.out.lt, HBA.out.trans (HW1.out.mono HBA.out.size)⟩
                  case measure => simp [intOf]
                · obtain ⟨k, rfl⟩ : ∃ m, k = m + 1 := ⟨k - 1, by omega⟩
                  obtain ⟨p, hp⟩ : ∃ p, L.arcs[k]? = some p := ⟨_, List.getElem?_eq_getElem (by omega)⟩
                  obtain ⟨zb2, zo2, oa2, on2, oc2, hAA2, y0, y1, y2, y3, y4⟩ := (HA.out.below HBEL.out) k p hp
                  rw [HAA.out] at hAA2
                  injection hAA2 with hAA2
                  injection hAA2 with e1 e2
                  subst e1 e2
                  have HPC := hide hp
                  have p0 := fun y : LW W2 => y.cell (cell_below HZ2.out y0)
                  have p1 := fun y : LW W2 => y.cell (cell_below HZ2.out y1)
                  have p2 := fun y : LW W2 => y.cell (cell_below HZ2.out y2)
                  have p3 := fun y : LW W2 => y.cell (cell_below HZ2.out y3)
                  have p4 := fun y : LW W2 => y.cell (cell_below HZ2.out y4)
                  have C52 := hide (fun W => rbefore_any p ⟨af, at_, am, ac'⟩ oa2 oa on2 oc2 on_ ocp W)
                  obtain ⟨pf, pt, pm, pc⟩ := p
                  simp only at p0 p1 p2 p3 p4
                  clear y0 y1 y2 y3 y4
                  have hcast : ((k + 1 : Nat) : Int) = (k : Int) + 1 := by simp
                  have hk1 : (k : Int) + 1 - 1 = (k : Int) := by omega
                  rcases hlt : arcB ⟨pf, pt, pm, pc⟩ ⟨af, at_, am, ac'⟩ with _ | _
                  · have HE := hide (HF.out (fun h => by
                      have := h.so k _ _ HPC.out HARC.out
                      rw [← arcB_iff, hlt] at this
                      cases this))
                    have C := C52.out
                    rw [hlt] at C
                    have C52 := hide C
                    clear hlt C hp
                    refine wp_region_later (by kernel_rfl) (by kernel_rfl) ?_
                    repeat (go_big_quiet_step ((go_at_call 52; exact later_call (C52.out _))))
                    refine wpQuiet_nil ?_
                    rintro W1 ⟨x, hx⟩
                    have HW1 := hide (show Below W2.heap.size W2 W1 by rw [hx]; exact x.property)
                    clear hx x l0 l1 l2 l3 l4 l5 l6 p0 p1 p2 p3 p4
                    go_wp2
                    go_ret
                    exact ⟨by rw [HE.out]; rfl, HBA.out.trans (HW1.out.mono HBA.out.size)⟩
                  · have HLT := hide ((arcB_iff _ _).1 hlt)
                    have C := C52.out
                    rw [hlt] at C
                    have C52 := hide C
                    clear hlt C hp
                    refine wp_region_later (by kernel_rfl) (by kernel_rfl) ?_
                    repeat (go_big_quiet_step ((go_at_call 52; exact later_call (C52.out _))))
                    refine wpQuiet_nil ?_
                    rintro W1 ⟨x, hx⟩
                    have HW1 := hide (show Below W2.heap.size W2 W1 by rw [hx]; exact x.property)
                    clear hx x l0 l1 l2 l3 l4 l5 l6 p0 p1 p2 p3 p4
                    go_wp2_with fail
                    go_roundw
                    case rel =>
                      refine ⟨k + 1 + 1, by simp, by omega, HV.out, fun i a b hi ha hb => ?_, HGA.out.below HW1.out HGA.out.lt, HBA.out.trans (HW1.out.mono HBA.out.size)⟩
                      by_cases hik : i = k
                      · subst hik
                        rw [HPC.out] at ha
                        rw [HARC.out] at hb
                        injection ha with ha
                        injection hb with hb
                        rw [← ha, ← hb]
                        exact HLT.out
                      · exact HSO.out i a b (by omega) ha hb
                    case measure => simp [intOf]; omega
          · have HE := hide (HT.out ⟨h1, HFL.out, HFR.out, fun a ha => by
              obtain ⟨j, hj⟩ := List.getElem?_of_mem ha
              exact HJ.out j a (by have := (List.getElem?_eq_some_iff.1 hj).1; omega) hj, fun i a b hi hj => HSO.out i a b (by have := (List.getElem?_eq_some_iff.1 hj).1; omega) hi hj⟩)
            clear hg hbel
            go_wp2
            go_ret
            exact ⟨by rw [HE.out]; rfl, HBEL.out⟩
end Go.Proofs.YtnifpeamgoapmaaDoor
