/- 'emendatelaw40.ChartBuild' RETURNS true. -/
import Derived.Test.YtnifpeamgoapmaaDoorRr
import Derived.Test.YtnifpeamgoapmaaDoorRm
import Derived.Deep.DeepCutAuto
set_option linter.unusedVariables false
set_option linter.unusedSimpArgs false
namespace Go.Proofs.YtnifpeamgoapmaaDoor
open Go Go.RowKit

theorem chart_len {G : Gram} {L : Lat} (B : GBds G L) {cs : List Cel} (h : IsChart G L cs) : cs.length ≤ 1000 := by
  rw [h.len]
  have h1 := row9 (S := L.st.toNat) (by have := B.s1; omega)
  have h2 : row L.st.toNat L.st.toNat * G.nN.toNat ≤ 45 * 10 := Nat.mul_le_mul h1 (by have := B.n1; omega)
  omega
set_option maxRecDepth 100000 in
set_option maxHeartbeats 16000000 in
theorem lawBuild_any (G : Gram) (L : Lat) (RA AA FA : Option Addr) (rc ac fc : Nat) (w : World) (hA : LawArgs w G L RA AA FA) :
    Calls Tryd.prog 3 #[GramA G RA rc, LatA L AA ac FA fc] w fun e w' => e = .returned (.bool true) ∧ Below w.heap.size w w' := by
  have b24 := (Blk.new w 24 #[I G.nT, I G.nN, I G.nS, .slice RA G.rules.length rc]).alloc (Obj.cells #[I L.st, .slice AA L.arcs.length ac, .slice FA L.fin.length fc] 28)
  have b28 := Blk.new2 w (Obj.cells #[I G.nT, I G.nN, I G.nS, .slice RA G.rules.length rc] 24) 28 #[I L.st, .slice AA L.arcs.length ac, .slice FA L.fin.length fc]
  have hbel : Below w.heap.size w ((w.alloc (Obj.cells #[I G.nT, I G.nN, I G.nS, .slice RA G.rules.length rc] 24)).alloc (Obj.cells #[I L.st, .slice AA L.arcs.length ac, .slice FA L.fin.length fc] 28)) := ((Below.refl _ _).alloc (Nat.le_refl _) _).alloc (by simp) _
  have B24 := hide b24
  have B28 := hide b28
  have HBEL := hide hbel
  have HA := hide hA
  have CW := hide (fun W (hb : Below w.heap.size w W) => awake_any W (HA.out.none_.below hb))
  clear b24 b28 hbel hA
  by_cases hM : MayP G L
  case neg =>
    have CM := hide (fun W (hb : Below w.heap.size w W) => may_any G L RA AA FA rc ac fc W (HA.out.below hb) false ⟨fun h => (by cases h), fun h => absurd h hM⟩)
    clear hM
    go_enter Tryd.func3, Tryd.ntmps3
    go_wp2_with fail
    refine (CM.out _ HBEL.out).mono ?_
    rintro e w1 ⟨rfl, hw1⟩
    have HW1 := hide (HBEL.out.trans (hw1.mono HBEL.out.size))
    clear hw1
    go_wp2_with fail
    refine (CW.out _ HW1.out).mono ?_
    rintro e w2 ⟨rfl, hw2⟩
    have HW2 := hide (HW1.out.trans (hw2.mono HW1.out.size))
    clear hw2
    go_wp2
    go_ret
    exact ⟨rfl, HW2.out⟩
  case pos =>
    have CM := hide (fun W (hb : Below w.heap.size w W) => may_any G L RA AA FA rc ac fc W (HA.out.below hb) true ⟨fun _ => hM, fun _ => rfl⟩)
    have HM := hide hM
    clear hM
    go_enter Tryd.func3, Tryd.ntmps3
    go_wp2_with fail
    refine (CM.out _ HBEL.out).mono ?_
    rintro e w1 ⟨rfl, hw1⟩
    have HW1 := hide (HBEL.out.trans (hw1.mono HBEL.out.size))
    have h24 := B24.out.below hw1 B24.out.lt
    have h28 := B28.out.below hw1 B28.out.lt
    have B24 := hide h24
    have B28 := hide h28
    clear hw1 h24 h28
    have g0 : ∀ w', Grew w1 w' → w'.cell? ⟨w.heap.size, 0, none⟩ = some (I G.nT) := fun w' h => cell_below h (by have := B24.out.cell 0; simpa using this)
    have g1 : ∀ w', Grew w1 w' → w'.cell? ⟨w.heap.size, 1, none⟩ = some (I G.nN) := fun w' h => cell_below h (by have := B24.out.cell 1; simpa using this)
    have g2 : ∀ w', Grew w1 w' → w'.cell? ⟨w.heap.size, 2, none⟩ = some (I G.nS) := fun w' h => cell_below h (by have := B24.out.cell 2; simpa using this)
    have g3 : ∀ w', Grew w1 w' → w'.cell? ⟨w.heap.size, 3, none⟩ = some (.slice RA G.rules.length rc) := fun w' h => cell_below h (by have := B24.out.cell 3; simpa using this)
    have k0 : ∀ w', Grew w1 w' → w'.cell? ⟨w.heap.size + 1, 0, none⟩ = some (I L.st) := fun w' h => cell_below h (by have := B28.out.cell 0; simpa using this)
    have k1 : ∀ w', Grew w1 w' → w'.cell? ⟨w.heap.size + 1, 1, none⟩ = some (.slice AA L.arcs.length ac) := fun w' h => cell_below h (by have := B28.out.cell 1; simpa using this)
    have k2 : ∀ w', Grew w1 w' → w'.cell? ⟨w.heap.size + 1, 2, none⟩ = some (.slice FA L.fin.length fc) := fun w' h => cell_below h (by have := B28.out.cell 2; simpa using this)
    have C14 := hide (fun W (hb : Grew w1 W) => build_any G L RA AA FA rc ac fc W HM.out.gb (HA.out.g.below (HW1.out.trans (Below.mono hb HW1.out.size))))
    have C15 := hide (fun W (hb : Grew w1 W) => rbuild_any G L RA AA FA rc ac fc W HM.out.gb (HA.out.g.below (HW1.out.trans (Below.mono hb HW1.out.size))))
    have hS0 : Grew w1 w1.drew := Below.drew (Below.refl _ _)
    go_wp2_with fail
    refine wp_region_E (fun w' => Grew w1 w') 10 (by kernel_rfl) ?_
    refine wpAnyE_one (i := 0) rfl (by kernel_rfl) (fun K hK => ?_)
    go_simp
    (go_at_call 12; refine (CW.out _ (HW1.out.trans (Below.mono hS0 HW1.out.size))).mono ?_; rintro e w2 ⟨rfl, hw2⟩; have hS2 : Grew w1 w2 := Below.trans hS0 (hw2.mono (Below.size hS0)); clear hw2)
    refine hK.out _ _ (fun _ => hS2) ?_
    clear hK K
    try simp only [Act.put, List.setIfInBounds_toArray, List.set_cons_zero, List.set_cons_succ]
    refine wpAnyE_take (i := 1) (v := ?vv1) rfl (by kernel_rfl) (fun _ _ _ h => h) (Or.inl ⟨by rfl, ?hy1⟩) hS2 ?re1
    case hy1 =>
      intro w' hSw
      go_simp
      try with_reducible rfl
    try simp only [Act.put, List.setIfInBounds_toArray, List.set_cons_zero, List.set_cons_succ]
    refine wpAnyE_take (i := 2) (v := ?vv2) rfl (by kernel_rfl) (fun _ _ _ h => h) (Or.inl ⟨by rfl, ?hy2⟩) hS2 ?re2
    case hy2 =>
      intro w' hSw
      go_simp
      try with_reducible rfl
    try simp only [Act.put, List.setIfInBounds_toArray, List.set_cons_zero, List.set_cons_succ]
    refine wpAnyE_take (i := 3) (v := ?vv3) rfl (by kernel_rfl) (fun _ _ _ h => h) (Or.inl ⟨by rfl, ?hy3⟩) hS2 ?re3
    case hy3 =>
      intro w' hSw
      go_simp
      try with_reducible rfl
    try simp only [Act.put, List.setIfInBounds_toArray, List.set_cons_zero, List.set_cons_succ]
    refine wpAnyE_take (i := 5) (v := ?vv4) rfl (by kernel_rfl) (fun _ _ _ h => h) (Or.inl ⟨by rfl, ?hy4⟩) hS2 ?re4
    case hy4 =>
      intro w' hSw
      go_simp
      try with_reducible rfl
    try simp only [Act.put, List.setIfInBounds_toArray, List.set_cons_zero, List.set_cons_succ]
    refine wpAnyE_take (i := 6) (v := ?vv5) rfl (by kernel_rfl) (fun _ _ _ h => h) (Or.inl ⟨by rfl, ?hy5⟩) hS2 ?re5
    case hy5 =>
      intro w' hSw
      go_simp
      try with_reducible rfl
    try simp only [Act.put, List.setIfInBounds_toArray, List.set_cons_zero, List.set_cons_succ]
    refine wpAnyE_one (i := 4) rfl (by kernel_rfl) (fun K hK => ?_)
    go_simp
    (go_at_call 14; refine (C14.out _ hS2).mono ?_; rintro e w3 ⟨A3, c3, cs3, rfl, hch3, hrd3, hw3, _⟩; have hS3 : Grew w1 w3 := Below.trans hS2 (hw3.mono (Below.size hS2)); clear hw3)
    refine hK.out _ _ (fun _ => hS3) ?_
    clear hK K
    try simp only [Act.put, List.setIfInBounds_toArray, List.set_cons_zero, List.set_cons_succ]
    refine wpAnyE_one (i := 7) rfl (by kernel_rfl) (fun K hK => ?_)
    go_simp
    (go_at_call 15; refine (C15.out _ hS3).mono ?_; rintro e w4 ⟨A4, c4, cs4, rfl, hch4, hrd4, hw4, _⟩; have hS4 : Grew w1 w4 := Below.trans hS3 (hw4.mono (Below.size hS3)); have HRD3 := hide (hrd3.below hw4); have HRD4 := hide hrd4; have heq := hch3.unique HM.out.gb hch4; have HL4 := hide (chart_len HM.out.gb hch4); clear hw4 hrd3 hrd4 hch3 hch4; subst heq)
    refine hK.out _ _ (fun _ => hS4) ?_
    clear hK K
    try simp only [Act.put, List.setIfInBounds_toArray, List.set_cons_zero, List.set_cons_succ]
    refine wpAnyE_one (i := 8) rfl (by kernel_rfl) (fun K hK => ?_)
    go_simp
    (go_at_call 13; refine (same_any _ _ _ _ _ _ _ _ HRD3.out HRD4.out HL4.out).mono ?_; rintro e w5 ⟨rfl, hw5⟩; have hS5 : Grew w1 w5 := Below.trans hS4 (hw5.mono (Below.size hS4)); clear hw5)
    refine hK.out _ _ (fun _ => hS5) ?_
    clear hK K
    try simp only [Act.put, List.setIfInBounds_toArray, List.set_cons_zero, List.set_cons_succ]
    refine wpAnyE_take (i := 9) (v := ?vv6) rfl (by kernel_rfl) (fun _ _ _ h => h) (Or.inl ⟨by rfl, ?hy6⟩) hS5 ?re6
    case hy6 =>
      intro w' hSw
      go_simp
      try with_reducible rfl
    try simp only [Act.put, List.setIfInBounds_toArray, List.set_cons_zero, List.set_cons_succ]
    refine wpAnyE_one (i := 10) rfl (by kernel_rfl) (fun K hK => ?_)
    go_simp
    refine hK.out _ _ (fun h => absurd rfl h) ?_
    clear hK K
    try simp only [Act.put, List.setIfInBounds_toArray, List.set_cons_zero, List.set_cons_succ]
    refine wpAnyE_done (by kernel_rfl) ?_
    go_wp2
    go_ret
    exact ⟨rfl, HW1.out.trans (Below.mono hS5 HW1.out.size)⟩
end Go.Proofs.YtnifpeamgoapmaaDoor
