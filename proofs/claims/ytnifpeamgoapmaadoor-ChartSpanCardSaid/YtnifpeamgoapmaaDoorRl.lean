/- The reference: Count, SameCells, Same, Spanned. -/
import Derived.Test.YtnifpeamgoapmaaDoorRk
set_option linter.unusedVariables false
set_option linter.unusedSimpArgs false
namespace Go.Proofs.YtnifpeamgoapmaaDoor
open Go Go.RowKit

/-- Count -/
theorem count_any (N S : Nat) (w : World) (hN : N ≤ 10) (hS : S ≤ 9) : Calls Tryd.prog 34 #[I (N : Int), I (S : Int)] w fun e w' => e = .returned (.int .i64 ((row S S * N : Nat) : Int)) ∧ w' = w := by
  have HE := hide (count_wrap hN hS)
  have hs : (S : Int) ≤ 9 := by omega
  clear hN hS
  go_enter Tryd.func34, Tryd.ntmps34
  go_wp2
  go_ret
  exact ⟨by rw [← HE.out]; rfl, rfl⟩
set_option maxRecDepth 100000 in
set_option maxHeartbeats 4000000 in
/-- SameCells -/
theorem samecells_any (xs ys : List Cel) (A B : Option Addr) (ac bc : Nat) (w : World) (hA : Rd w A xs.length 4 (ccells xs)) (hB : Rd w B ys.length 4 (ccells ys)) (hl : xs.length ≤ 1000) :
    Calls Tryd.prog 21 #[.slice A xs.length ac, .slice B ys.length bc] w fun e w' => e = .returned (.bool (decide (xs = ys))) ∧ Below w.heap.size w w' := by
  have HA := hide hA
  have HB := hide hB
  clear hA hB
  by_cases hn : xs.length = ys.length
  · have HN := hide hn
    have hd : ((xs.length : Int) == (ys.length : Int)) = true := by simp [hn]
    have hd2 : ((xs.length : Int) != (ys.length : Int)) = false := by simp [hn]
    clear hn
    go_enter Tryd.func21, Tryd.ntmps21
    go_wp2_with fail
    go_loopw [5] (fun s5 wr => ∃ k : Nat, s5 = .int .i64 k ∧ k ≤ xs.length ∧ (∀ j, j < k → xs[j]? = ys[j]?) ∧ Below w.heap.size w wr) (fun s5 _ => 2000 - (intOf s5).toNat)
    case atStart => exact ⟨0, rfl, Nat.zero_le _, fun j h => by omega, Below.refl _ _⟩
    case round =>
      obtain ⟨k, rfl, hk, hj, hb⟩ := hrel
      have HJ := hide hj
      have HBEL := hide hb
      clear hj hb
      have hkl : (k : Int) < xs.length ∨ (xs.length : Int) ≤ k := by omega
      rcases hkl with hkl | hkl
      · have hk1 : k < xs.length := by omega
        have hk2 : k < ys.length := by have := HN.out; omega
        have hk3 : (k : Int) < (ys.length : Int) := by omega
        obtain ⟨a, ha⟩ : ∃ a, xs[k]? = some a := ⟨_, List.getElem?_eq_getElem hk1⟩
        obtain ⟨b, hb⟩ : ∃ b, ys[k]? = some b := ⟨_, List.getElem?_eq_getElem hk2⟩
        obtain ⟨p, po, rfl, x0, x1, x2, x3⟩ := (HA.out.below HBEL.out).cel k ha
        obtain ⟨q, qo, rfl, y0, y1, y2, y3⟩ := (HB.out.below HBEL.out).cel k hb
        have l0 := fun y : LW wr => y.cell x0
        have l1 := fun y : LW wr => y.cell x1
        have l2 := fun y : LW wr => y.cell x2
        have l3 := fun y : LW wr => y.cell x3
        have m0 := fun y : LW wr => y.cell y0
        have m1 := fun y : LW wr => y.cell y1
        have m2 := fun y : LW wr => y.cell y2
        have m3 := fun y : LW wr => y.cell y3
        have hneq := run_neq47' a b
        have HAK := hide ha
        have HBK := hide hb
        clear ha hb x0 x1 x2 x3 y0 y1 y2 y3
        by_cases hab : a = b
        · have HAB := hide hab
          rw [show decide (a = b) = true by simp [hab]] at hneq
          clear hab
          go_wp2_with fail
          refine wp_region_later (by kernel_rfl) (by kernel_rfl) ?_
          repeat (go_big_quiet_step (fail))
          refine wpQuiet_nil ?_
          rintro W1 ⟨x, hx⟩
          have HW1 := hide (show Below wr.heap.size wr W1 by rw [hx]; exact x.property)
          clear hx x l0 l1 l2 l3 m0 m1 m2 m3 hneq
          go_wp2_with fail
          go_roundw
          case rel =>
            refine ⟨k + 1, by simp, by omega, fun j hj => ?_, HBEL.out.trans (HW1.out.mono HBEL.out.size)⟩
            by_cases hjk : j = k
            · subst hjk; rw [HAK.out, HBK.out, HAB.out]
            · exact HJ.out j (by omega)
          case measure => simp [intOf]; omega
        · have HE := hide (show decide (xs = ys) = false by
            simp
            intro h
            have h1 := HAK.out
            rw [h, HBK.out] at h1
            injection h1 with h1
            exact hab h1.symm)
          rw [show decide (a = b) = false by simp [hab]] at hneq
          clear hab
          go_wp2_with fail
          refine wp_region_later (by kernel_rfl) (by kernel_rfl) ?_
          repeat (go_big_quiet_step (fail))
          refine wpQuiet_nil ?_
          rintro W1 ⟨x, hx⟩
          have HW1 := hide (show Below wr.heap.size wr W1 by rw [hx]; exact x.property)
          clear hx x l0 l1 l2 l3 m0 m1 m2 m3 hneq
          go_wp2
          go_ret
          exact ⟨by rw [HE.out]; rfl, HBEL.out.trans (HW1.out.mono HBEL.out.size)⟩
      · have HE := hide (show decide (xs = ys) = true by
          simp
          apply List.ext_getElem?
          intro j
          by_cases hj : j < k
          · exact HJ.out j hj
          · have := HN.out
            rw [List.getElem?_eq_none (by omega), List.getElem?_eq_none (by omega)])
        go_wp2
        go_ret
        exact ⟨by rw [HE.out]; rfl, HBEL.out⟩
  · have HE := hide (show decide (xs = ys) = false by simp; intro h; exact hn (by rw [h]))
    have hd : ((xs.length : Int) == (ys.length : Int)) = false := by simp; omega
    have hd2 : ((xs.length : Int) != (ys.length : Int)) = true := by simp; omega
    clear hn
    go_enter Tryd.func21, Tryd.ntmps21
    go_wp2
    go_ret
    exact ⟨by rw [HE.out]; rfl, Below.refl _ _⟩

set_option maxRecDepth 100000 in
set_option maxHeartbeats 4000000 in
/-- Same, of equal charts -/
theorem same_any (cN cS : Int) (xs : List Cel) (A B : Option Addr) (ac bc : Nat) (w : World) (hA : Rd w A xs.length 4 (ccells xs)) (hB : Rd w B xs.length 4 (ccells xs)) (hl : xs.length ≤ 1000) :
    Calls Tryd.prog 13 #[ChartA cN cS A xs.length ac, ChartA cN cS B xs.length bc] w fun e w' => e = .returned (.bool true) ∧ Below w.heap.size w w' := by
  have HB2 := hide (show ∀ o1 o2, Below w.heap.size w ((w.alloc o1).alloc o2) from fun o1 o2 => ((Below.refl _ _).alloc (Nat.le_refl _) _).alloc (by simp) _)
  have C21 := hide (fun W (hb : Below w.heap.size w W) => by
    have := samecells_any xs xs A B ac bc W (hA.below hb) (hB.below hb) hl
    rw [show decide (xs = xs) = true by simp] at this
    exact this)
  have h1 : (cN == cN) = true := by simp
  have h2 : (cS == cS) = true := by simp
  clear hA hB
  go_enter Tryd.func13, Tryd.ntmps13
  go_wp2_with (go_at_call 21; refine (C21.out _ (HB2.out _ _)).mono ?_; rintro e w3 ⟨rfl, hb⟩; have HW3 := hide hb; clear hb)
  go_ret
  exact ⟨rfl, (HB2.out _ _).trans (HW3.out.mono (HB2.out _ _).size)⟩
set_option maxRecDepth 100000 in
set_option maxHeartbeats 4000000 in
/-- Spanned, of a chart of the right size -/
theorem spanned_any (G : Gram) (L : Lat) (N S : Nat) (cs : List Cel) (RA AA FA CA : Option Addr) (rc ac fc cc : Nat) (w : World) (hN : G.nN = (N : Int)) (hS : L.st = (S : Int)) (hN1 : N ≤ 10) (hS1 : S ≤ 9) (hl : cs.length = row S S * N) :
    Calls Tryd.prog 18 #[GramA G RA rc, LatA L AA ac FA fc, ChartA G.nN L.st CA cs.length cc] w fun e w' => e = .returned (.bool true) ∧ Below w.heap.size w w' := by
  have HB3 := hide (show ∀ o1 o2 o3, Below w.heap.size w (((w.alloc o1).alloc o2).alloc o3) from fun o1 o2 o3 => (((Below.refl _ _).alloc (Nat.le_refl _) _).alloc (by simp) _).alloc (by simp; omega) _)
  have b1 := ((Blk.new w 24 #[I G.nT, I G.nN, I G.nS, .slice RA G.rules.length rc]).alloc (Obj.cells #[I L.st, .slice AA L.arcs.length ac, .slice FA L.fin.length fc] 28)).alloc (Obj.cells #[I G.nN, I L.st, .slice CA cs.length cc] 34)
  have b2 := (Blk.new2 w (Obj.cells #[I G.nT, I G.nN, I G.nS, .slice RA G.rules.length rc] 24) 28 #[I L.st, .slice AA L.arcs.length ac, .slice FA L.fin.length fc]).alloc (Obj.cells #[I G.nN, I L.st, .slice CA cs.length cc] 34)
  have b3 := Blk.new3 w (Obj.cells #[I G.nT, I G.nN, I G.nS, .slice RA G.rules.length rc] 24) (Obj.cells #[I L.st, .slice AA L.arcs.length ac, .slice FA L.fin.length fc] 28) 34 #[I G.nN, I L.st, .slice CA cs.length cc]
  have l0 := fun y : LW (((w.alloc (Obj.cells #[I G.nT, I G.nN, I G.nS, .slice RA G.rules.length rc] 24)).alloc (Obj.cells #[I L.st, .slice AA L.arcs.length ac, .slice FA L.fin.length fc] 28)).alloc (Obj.cells #[I G.nN, I L.st, .slice CA cs.length cc] 34)) => y.cell (b1.cell 1)
  have l1 := fun y : LW (((w.alloc (Obj.cells #[I G.nT, I G.nN, I G.nS, .slice RA G.rules.length rc] 24)).alloc (Obj.cells #[I L.st, .slice AA L.arcs.length ac, .slice FA L.fin.length fc] 28)).alloc (Obj.cells #[I G.nN, I L.st, .slice CA cs.length cc] 34)) => y.cell (b2.cell 0)
  have l2 := fun y : LW (((w.alloc (Obj.cells #[I G.nT, I G.nN, I G.nS, .slice RA G.rules.length rc] 24)).alloc (Obj.cells #[I L.st, .slice AA L.arcs.length ac, .slice FA L.fin.length fc] 28)).alloc (Obj.cells #[I G.nN, I L.st, .slice CA cs.length cc] 34)) => y.cell (b3.cell 0)
  have l3 := fun y : LW (((w.alloc (Obj.cells #[I G.nT, I G.nN, I G.nS, .slice RA G.rules.length rc] 24)).alloc (Obj.cells #[I L.st, .slice AA L.arcs.length ac, .slice FA L.fin.length fc] 28)).alloc (Obj.cells #[I G.nN, I L.st, .slice CA cs.length cc] 34)) => y.cell (b3.cell 1)
  have l4 := fun y : LW (((w.alloc (Obj.cells #[I G.nT, I G.nN, I G.nS, .slice RA G.rules.length rc] 24)).alloc (Obj.cells #[I L.st, .slice AA L.arcs.length ac, .slice FA L.fin.length fc] 28)).alloc (Obj.cells #[I G.nN, I L.st, .slice CA cs.length cc] 34)) => y.cell (b3.cell 2)
  simp at l0 l1 l2 l3 l4
  have C34 := hide (fun W => by
    have := count_any N S W hN1 hS1
    rw [← hN, ← hS, ← hl] at this
    exact this.mono (fun e w' (h : _ ∧ w' = W) => (show _ ∧ Below W.heap.size W w' from ⟨h.1, h.2 ▸ Below.refl _ _⟩)))
  have h1 : (G.nN == G.nN) = true := by simp
  have h2 : (L.st == L.st) = true := by simp
  have h3 : ((cs.length : Int) == (cs.length : Int)) = true := by simp
  clear b1 b2 b3 hN hS hl
  go_enter Tryd.func18, Tryd.ntmps18
  go_wp2_with fail
  refine wp_region_later (by kernel_rfl) (by kernel_rfl) ?_
  repeat (go_big_quiet_step ((go_at_call 34; exact later_call (C34.out _))))
  refine wpQuiet_nil ?_
  rintro W1 ⟨x, hx⟩
  have HW1 := hide (show Below (((w.alloc (Obj.cells #[I G.nT, I G.nN, I G.nS, .slice RA G.rules.length rc] 24)).alloc (Obj.cells #[I L.st, .slice AA L.arcs.length ac, .slice FA L.fin.length fc] 28)).alloc (Obj.cells #[I G.nN, I L.st, .slice CA cs.length cc] 34)).heap.size (((w.alloc (Obj.cells #[I G.nT, I G.nN, I G.nS, .slice RA G.rules.length rc] 24)).alloc (Obj.cells #[I L.st, .slice AA L.arcs.length ac, .slice FA L.fin.length fc] 28)).alloc (Obj.cells #[I G.nN, I L.st, .slice CA cs.length cc] 34)) W1 by rw [hx]; exact x.property)
  clear hx x l0 l1 l2 l3 l4
  go_wp2
  go_ret
  exact ⟨rfl, (HB3.out _ _ _).trans (HW1.out.mono (HB3.out _ _ _).size)⟩
end Go.Proofs.YtnifpeamgoapmaaDoor
