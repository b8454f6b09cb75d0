/- 'emendatelaw40.ChartGoal' RETURNS true. -/
import Derived.Test.YtnifpeamgoapmaaDoorLb
import Derived.Test.YtnifpeamgoapmaaDoorRn
import Derived.Test.YtnifpeamgoapmaaDoorZa
import Derived.Test.YtnifpeamgoapmaaDoorWi
import Derived.Deep.DeepCutAuto
set_option linter.unusedVariables false
set_option linter.unusedSimpArgs false
namespace Go.Proofs.YtnifpeamgoapmaaDoor
open Go Go.RowKit

theorem comb_inf_price {p : Int} {v : Vl} (hp : Inf ≤ p) (hv : VOK v) : (comb p [v]).c = Inf := by
  obtain ⟨v1, v2, v3, v4⟩ := hv
  have h : (List.foldl cstep ⟨min p Inf, 1⟩ [v]).c = Inf := by
    show min (min p Inf + v.c) Inf = Inf
    omega
  unfold comb cfin
  rw [if_pos h]
theorem goalK_least (val : Nat → Vl) (fin : List Int) (hv : ∀ t, VNF (val t)) : ∀ k, ∀ (t : Nat) f, t < k → fin[t]? = some f → (comb f [val t]).c < Inf → vlt (comb f [val t]) (goalK val fin k).1 = false ∧ 0 ≤ (goalK val fin k).2 := by
  intro k
  induction k with
  | zero => intro t f h; omega
  | succ k ih =>
    intro t f ht hf hc
    cases hk : fin[k]? with
    | none =>
      have h1 := List.getElem?_eq_none_iff.1 hk
      have h2 := (List.getElem?_eq_some_iff.1 hf).1
      have : goalK val fin (k + 1) = goalK val fin k := by unfold goalK; rw [List.take_of_length_le (by simp; omega), List.take_of_length_le (by simp; omega)]
      rw [this]
      exact ih t f (by omega) hf hc
    | some g =>
      rw [goalK_succ val hk]
      unfold gstep
      simp only
      by_cases htk : t = k
      · subst htk
        rw [hk] at hf
        injection hf with hf
        subst hf
        rw [if_neg (fun h => by have := comb_inf_price h (hv t).1; omega)]
        split
        · exact ⟨by simp only; unfold vlt; simp, by simp⟩
        · rename_i hn
          have hn2 : ¬ ((goalK val fin t).2 < 0 ∨ vlt (comb g [val t]) (goalK val fin t).1 = true) := fun h => hn ⟨hc, h⟩
          exact ⟨by cases h : vlt (comb g [val t]) (goalK val fin t).1 with
            | false => rfl
            | true => exact absurd (.inr h) hn2, by omega⟩
      · obtain ⟨h1, h2⟩ := ih t f (by omega) hf hc
        split
        · exact ⟨h1, h2⟩
        · split
          · rename_i hn
            refine ⟨?_, by simp⟩
            simp only
            rcases hn.2 with h | h
            · omega
            · cases h3 : vlt (comb f [val t]) (comb g [val k]) with
              | false => rfl
              | true =>
                rw [vlt_iff] at h h3
                have : vlt (comb f [val t]) (goalK val fin k).1 = true := by rw [vlt_iff]; omega
                rw [h1] at this
                cases this
          · exact ⟨h1, h2⟩
theorem run_neq45 (a b : Vl) (w : World) : (binOp .neq 45 (.agg #[I a.c, I a.s]) (.agg #[I b.c, I b.s])).run Tryd.prog w = .ok (.bool (!decide (a = b))) w := by
  have h : (Op.equal 45 (VA a) (VA b)).run Tryd.prog w = .ok (decide (a = b)) w := by
    unfold Op.equal
    rw [show Op.maxDepth = 9998 + 1 + 1 from rfl]
    exact run_eql45 9998 a b w
  simp only [binOp]
  simp [h]
set_option maxRecDepth 100000 in
set_option maxHeartbeats 16000000 in
theorem lawGoal_any (G : Gram) (L : Lat) (RA AA FA : Option Addr) (rc ac fc : Nat) (w : World) (hA : LawArgs w G L RA AA FA) :
    Calls Tryd.prog 7 #[GramA G RA rc, LatA L AA ac FA fc] w fun e w' => e = .returned (.bool true) ∧ Below w.heap.size w w' := by
  have b24 := (Blk.new w 24 #[I G.nT, I G.nN, I G.nS, .slice RA G.rules.length rc]).alloc (Obj.cells #[I L.st, .slice AA L.arcs.length ac, .slice FA L.fin.length fc] 28)
  have b28 := Blk.new2 w (Obj.cells #[I G.nT, I G.nN, I G.nS, .slice RA G.rules.length rc] 24) 28 #[I L.st, .slice AA L.arcs.length ac, .slice FA L.fin.length fc]
  have hbel : Below w.heap.size w ((w.alloc (Obj.cells #[I G.nT, I G.nN, I G.nS, .slice RA G.rules.length rc] 24)).alloc (Obj.cells #[I L.st, .slice AA L.arcs.length ac, .slice FA L.fin.length fc] 28)) := ((Below.refl _ _).alloc (Nat.le_refl _) _).alloc (by simp) _
  have B24 := hide b24
  have B28 := hide b28
  have HBEL := hide hbel
  have HA := hide hA
  have CW := hide (fun W (hb : Below w.heap.size w W) => awake_any W (HA.out.none_.below hb))
  clear b24 b28 hbel hA
  by_cases hM : MayP G L
  case neg =>
    have CM := hide (fun W (hb : Below w.heap.size w W) => may_any G L RA AA FA rc ac fc W (HA.out.below hb) false ⟨fun h => (by cases h), fun h => absurd h hM⟩)
    clear hM
    go_enter Tryd.func7, Tryd.ntmps7
    go_wp2_with fail
    refine (CM.out _ HBEL.out).mono ?_
    rintro e w1 ⟨rfl, hw1⟩
    have HW1 := hide (HBEL.out.trans (hw1.mono HBEL.out.size))
    clear hw1
    go_wp2_with fail
    refine (CW.out _ HW1.out).mono ?_
    rintro e w2 ⟨rfl, hw2⟩
    have HW2 := hide (HW1.out.trans (hw2.mono HW1.out.size))
    clear hw2
    go_wp2
    go_ret
    exact ⟨rfl, HW2.out⟩
  case pos =>
    have CM := hide (fun W (hb : Below w.heap.size w W) => may_any G L RA AA FA rc ac fc W (HA.out.below hb) true ⟨fun _ => hM, fun _ => rfl⟩)
    have HM := hide hM
    clear hM
    go_enter Tryd.func7, Tryd.ntmps7
    go_wp2_with fail
    refine (CM.out _ HBEL.out).mono ?_
    rintro e w1 ⟨rfl, hw1⟩
    have HW1 := hide (HBEL.out.trans (hw1.mono HBEL.out.size))
    have h24 := B24.out.below hw1 B24.out.lt
    have h28 := B28.out.below hw1 B28.out.lt
    have B24 := hide h24
    have B28 := hide h28
    clear hw1 h24 h28
    have h24 := B24.out
    have h28 := B28.out
    have x0 := h24.cell 0
    have x1 := h24.cell 1
    have x2 := h24.cell 2
    have x3 := h24.cell 3
    have y0 := h28.cell 0
    have y1 := h28.cell 1
    have y2 := h28.cell 2
    simp at x0 x1 x2 x3 y0 y1 y2
    clear h24 h28
    go_wp2_with fail
    refine (rbuild_any G L RA AA FA rc ac fc _ HM.out.gb (HA.out.g.below HW1.out)).mono ?_
    rintro e w2 ⟨CA, cc, cs, rfl, hch, hrd, hw2, _⟩
    have hb2 : Below w1.heap.size w1 (w2.alloc (Obj.cells #[I G.nN, I L.st, .slice CA cs.length cc] 34)) := hw2.alloc hw2.size _
    have h34 := Blk.new w2 34 #[I G.nN, I L.st, .slice CA cs.length cc]
    have hrd3 := hrd.below ((Below.refl _ _).alloc (Nat.le_refl _) (Obj.cells #[I G.nN, I L.st, .slice CA cs.length cc] 34))
    clear hrd hw2 x0 x1 x2 x3 y0 y1 y2
    go_upto_region 4 with fail
    generalize w2.alloc (Obj.cells #[I G.nN, I L.st, .slice CA cs.length cc] 34) = w3 at hb2 h34 hrd3 ⊢
    generalize w2.heap.size = qc at h34 ⊢
    have HW3 := hide (HW1.out.trans (hb2.mono HW1.out.size))
    have h24 := B24.out.below hb2 B24.out.lt
    have h28 := B28.out.below hb2 B28.out.lt
    have B24 := hide h24
    have B28 := hide h28
    have B34 := hide h34
    have HRD := hide hrd3
    have HNF := hide (hch.nf)
    have HLEN := hide (chart_len HM.out.gb hch)
    have HFL := hide HM.out.2.2.fl
    have HFR := hide HM.out.2.2.fr
    have HFL9 := hide (show L.fin.length ≤ 9 by have := HFL.out; have := HM.out.gb.s1; omega)
    clear hb2 h34 hrd3 hch
    obtain ⟨gp, hgp⟩ : ∃ gp, gp = goalP (fval G.nN L.st G.nS cs) L.fin := ⟨_, rfl⟩
    have HGP := hide hgp
    have C19 := hide (fun W (hb : Grew w3 W) => by
      have := goal_any G L G.nN L.st cs RA AA FA CA rc ac fc cc W ⟨(HA.out.fin.below HW3.out).below hb, HRD.out.below hb, (HA.out.none_.below HW3.out).below hb, HFL9.out, HFR.out, HM.out.gb.n1, HM.out.gb.s1, HLEN.out, HNF.out⟩
      rw [← hgp] at this
      exact (show Calls Tryd.prog 19 #[.agg #[I G.nT, I G.nN, I G.nS, .slice RA G.rules.length rc], .agg #[I L.st, .slice AA L.arcs.length ac, .slice FA L.fin.length fc], .agg #[I G.nN, I L.st, .slice CA cs.length cc]] W (fun e w' => e = .returned (.tuple #[.agg #[I gp.1.c, I gp.1.s], I gp.2]) ∧ Below W.heap.size W w') from this))
    have C24 := hide (fun W (hb : Grew w3 W) => by
      have := rgoal_any G L G.nN L.st cs RA AA FA CA rc ac fc cc W ⟨(HA.out.fin.below HW3.out).below hb, HRD.out.below hb, HFL9.out, HFR.out, HM.out.gb.n1, HM.out.gb.s1, HLEN.out, HNF.out⟩ HFL.out.symm
      rw [← hgp] at this
      exact (show Calls Tryd.prog 24 #[.agg #[I G.nT, I G.nN, I G.nS, .slice RA G.rules.length rc], .agg #[I L.st, .slice AA L.arcs.length ac, .slice FA L.fin.length fc], .agg #[I G.nN, I L.st, .slice CA cs.length cc]] W (fun e w' => e = .returned (.tuple #[.agg #[I gp.1.c, I gp.1.s], I gp.2]) ∧ Below W.heap.size W w') from this))
    clear hgp
    have h_ := B24.out
    have x0 := h_.cell 0
    have x1 := h_.cell 1
    have x2 := h_.cell 2
    have x3 := h_.cell 3
    clear h_
    have h_ := B28.out
    have y0 := h_.cell 0
    have y1 := h_.cell 1
    have y2 := h_.cell 2
    clear h_
    have h_ := B34.out
    have z0 := h_.cell 0
    have z1 := h_.cell 1
    have z2 := h_.cell 2
    clear h_
    simp at x0 x1 x2 x3 y0 y1 y2 z0 z1 z2
    go_wp2_with fail
    refine (C19.out _ (Below.refl _ _)).mono ?_
    rintro e w4 ⟨rfl, hw4⟩
    have hb4 : Below w3.heap.size w3 (w4.alloc (Obj.cells #[I gp.1.c, I gp.1.s] 45)) := hw4.alloc hw4.size _
    have h45 := Blk.new w4 45 #[I gp.1.c, I gp.1.s]
    clear hw4 x0 x1 x2 x3 y0 y1 y2 z0 z1 z2
    go_upto_region 5 with fail
    generalize w4.alloc (Obj.cells #[I gp.1.c, I gp.1.s] 45) = w5 at hb4 h45 ⊢
    generalize w4.heap.size = qv at h45 ⊢
    have BV := hide h45
    have HB4 := hide hb4
    have h_ := B24.out.below hb4 B24.out.lt
    have B24 := hide h_
    clear h_
    have h_ := B28.out.below hb4 B28.out.lt
    have B28 := hide h_
    clear h_
    have h_ := B34.out.below hb4 B34.out.lt
    have B34 := hide h_
    clear h_
    clear h45 hb4
    have h_ := B24.out
    have x0 := h_.cell 0
    have x1 := h_.cell 1
    have x2 := h_.cell 2
    have x3 := h_.cell 3
    clear h_
    have h_ := B28.out
    have y0 := h_.cell 0
    have y1 := h_.cell 1
    have y2 := h_.cell 2
    clear h_
    have h_ := B34.out
    have z0 := h_.cell 0
    have z1 := h_.cell 1
    have z2 := h_.cell 2
    clear h_
    simp at x0 x1 x2 x3 y0 y1 y2 z0 z1 z2
    go_wp2_with fail
    refine (C24.out _ HB4.out).mono ?_
    rintro e w6 ⟨rfl, hw6⟩
    have hb6 : Below w5.heap.size w5 (w6.alloc (Obj.cells #[I gp.1.c, I gp.1.s] 45)) := hw6.alloc hw6.size _
    have h45 := Blk.new w6 45 #[I gp.1.c, I gp.1.s]
    clear hw6 x0 x1 x2 x3 y0 y1 y2 z0 z1 z2
    go_upto_region 6 with fail
    generalize w6.alloc (Obj.cells #[I gp.1.c, I gp.1.s] 45) = w7 at hb6 h45 ⊢
    generalize w6.heap.size = qw at h45 ⊢
    have BW := hide h45
    have HB7 := hide (Below.trans HB4.out (hb6.mono HB4.out.size))
    have h_ := B24.out.below hb6 B24.out.lt
    have B24 := hide h_
    clear h_
    have h_ := B28.out.below hb6 B28.out.lt
    have B28 := hide h_
    clear h_
    have h_ := B34.out.below hb6 B34.out.lt
    have B34 := hide h_
    clear h_
    have h_ := BV.out.below hb6 BV.out.lt
    have BV := hide h_
    clear h_
    clear h45 hb6
    have v0 := BV.out.cell 0
    have v1 := BV.out.cell 1
    have u0 := BW.out.cell 0
    have u1 := BW.out.cell 1
    simp at v0 v1 u0 u1
    have hneq := run_neq45 gp.1 gp.1
    rw [show decide (gp.1 = gp.1) = true by simp] at hneq
    have hne2 : (gp.2 != gp.2) = false := by simp
    go_wp2_with fail
    clear v0 v1 u0 u1 hneq hne2
    have hfl := HFL9.out
    go_loopw [10] (fun s10 wr => ∃ k : Nat, s10 = .int .i64 k ∧ k ≤ L.fin.length ∧ Below w7.heap.size w7 wr) (fun s10 _ => 20 - (intOf s10).toNat)
    case atStart => exact ⟨0, rfl, Nat.zero_le _, Below.refl _ _⟩
    case round =>
      obtain ⟨k, rfl, hk, hgr⟩ := hrel
      have GR := hide hgr
      have hcs : (k : Int) < L.fin.length ∨ (L.fin.length : Int) ≤ k := by omega
      have B24 := hide (B24.out.below hgr B24.out.lt)
      have B28 := hide (B28.out.below hgr B28.out.lt)
      have B34 := hide (B34.out.below hgr B34.out.lt)
      have BV := hide (BV.out.below hgr BV.out.lt)
      have y0 := B28.out.cell 0
      have y2 := B28.out.cell 2
      simp at y0 y2
      rw [← HFL.out] at y0
      have HBW := hide (HW3.out.trans ((HB7.out.trans (hgr.mono HB7.out.size)).mono HW3.out.size))
      clear hgr
      rcases hcs with hcs | hcs
      · obtain ⟨f, hf⟩ : ∃ f, L.fin[k]? = some f := ⟨_, List.getElem?_eq_getElem (by omega)⟩
        obtain ⟨fb, fo, hFA, x0⟩ := (HA.out.fin.below HBW.out).int k hf
        rw [hFA] at y2
        obtain ⟨hf0, hf1⟩ := HFR.out f (List.mem_of_getElem? hf)
        obtain ⟨ce, hce⟩ : ∃ ce, ce = atP G.nN L.st cs G.nS 0 (k : Int) := ⟨_, rfl⟩
        have hvn : VNF ce.v := by rw [hce]; exact atP_nf HNF.out _ _ _
        obtain ⟨cv, hcv⟩ : ∃ cv, cv = comb f [ce.v] := ⟨_, rfl⟩
        have HRD' := hide (HRD.out.below (HB7.out.trans (GR.out.mono HB7.out.size)))
        have C26 := hide (fun W (hb : Grew wr W) => by
          have := rAt_any G.nN L.st G.nS 0 (k : Int) CA cc cs W (HRD'.out.below hb) (by have := HM.out.gb.n1; omega) (by have := HM.out.gb.s1; omega) (by have := HLEN.out; omega)
          rw [← hce] at this
          exact (show Calls Tryd.prog 26 #[.agg #[I G.nN, I L.st, .slice CA cs.length cc], .agg #[I G.nS, I 0, I (k : Int)]] W (fun e w' => e = .returned (.agg #[I ce.v.c, I ce.v.s, I ce.r, I ce.a]) ∧ Below W.heap.size W w') from this))
        have C25 := hide (fun W (g : Nat) (hR : Blk W g 45 #[I ce.v.c, I ce.v.s]) => by
          have := rcombine_any f [ce.v] (some ⟨g, 0, none⟩) 1 W hf0 (by unfold Inf at hf1; omega) (by intro v hv; simp only [List.mem_singleton] at hv; rw [hv]; exact hvn.1) (by simp) (Rd.of_blk (c := 0) hR rfl)
          rw [← hcv] at this
          exact (show Calls Tryd.prog 25 #[.int .i64 f, .slice (some ⟨g, 0, none⟩) 1 1] W (fun e w' => e = .returned (.agg #[I cv.c, I cv.s]) ∧ Below W.heap.size W w') from this))
        have HLE := hide (show cv.c < Inf → vlt cv gp.1 = false from fun hc => by
          have h1 := (goalK_least (fval G.nN L.st G.nS cs) L.fin (fun t => fval_nf HNF.out t) L.fin.length k f (by omega) hf (by rw [show fval G.nN L.st G.nS cs k = ce.v by rw [hce]; rfl, ← hcv]; exact hc)).1
          rw [HGP.out, goalP_eq, hcv, show ce.v = fval G.nN L.st G.nS cs k by rw [hce]; rfl]
          exact h1)
        have CL := hide (fun W => rless_any cv gp.1 W)
        have F1 := run_field47 (I ce.v.c) (I ce.v.s) (I ce.r) (I ce.a)
        have hkn : k < L.fin.length := by omega
        clear hce hvn hcv hf hFA
        unfold Inf at hf1
        go_upto_region 11 with fail
        go_cut [11] (fun s11 wx => ∃ g : Nat, s11 = .pointer (some ⟨g, 0, none⟩) ∧ Blk wx g 45 #[I cv.c, I cv.s] ∧ Below wr.heap.size wr wx)
        case first =>
          have a0 : ∀ w', Grew wr w' → w'.cell? ⟨w.heap.size + 1, 2, none⟩ = some (.slice (some ⟨fb, fo, none⟩) L.fin.length fc) := fun w' h => cell_below h y2
          have a1 : ∀ w', Grew wr w' → w'.cell? ⟨fb, fo + k, none⟩ = some (I f) := fun w' h => cell_below h x0
          have a2 : ∀ w', Grew wr w' → w'.cell? ⟨qc, 0, none⟩ = some (I G.nN) := fun w' h => cell_below h (by have := B34.out.cell 0; simpa using this)
          have a3 : ∀ w', Grew wr w' → w'.cell? ⟨qc, 1, none⟩ = some (I L.st) := fun w' h => cell_below h (by have := B34.out.cell 1; simpa using this)
          have a4 : ∀ w', Grew wr w' → w'.cell? ⟨qc, 2, none⟩ = some (.slice CA cs.length cc) := fun w' h => cell_below h (by have := B34.out.cell 2; simpa using this)
          have a5 : ∀ w', Grew wr w' → w'.cell? ⟨w.heap.size, 2, none⟩ = some (I G.nS) := fun w' h => cell_below h (by have := B24.out.cell 2; simpa using this)
          clear y0 y2 x0
          refine wp_region_E (fun w' => Grew wr w') 15 (by kernel_rfl) ?_
          have G0 : Grew wr wr.drew := Below.drew (Below.refl _ _)
          generalize wr.drew = W0 at G0 ⊢
          refine wpAnyE_take (i := 0) (v := ?vv1) rfl (by kernel_rfl) (fun _ _ _ h => h) (Or.inl ⟨by rfl, ?hy1⟩) G0 ?re1
          case hy1 =>
            intro w' hSw
            go_simp
            try with_reducible rfl
          try simp only [Act.put, List.setIfInBounds_toArray, List.set_cons_zero, List.set_cons_succ]
          refine wpAnyE_take (i := 1) (v := ?vv2) rfl (by kernel_rfl) (fun _ _ _ h => h) (Or.inl ⟨by rfl, ?hy2⟩) G0 ?re2
          case hy2 =>
            intro w' hSw
            go_simp
            try with_reducible rfl
          try simp only [Act.put, List.setIfInBounds_toArray, List.set_cons_zero, List.set_cons_succ]
          refine wpAnyE_take (i := 2) (v := ?vv3) rfl (by kernel_rfl) (fun _ _ _ h => h) (Or.inl ⟨by rfl, ?hy3⟩) G0 ?re3
          case hy3 =>
            intro w' hSw
            go_simp
            try with_reducible rfl
          try simp only [Act.put, List.setIfInBounds_toArray, List.set_cons_zero, List.set_cons_succ]
          refine wpAnyE_take (i := 3) (v := ?vv4) rfl (by kernel_rfl) (fun _ _ _ h => h) (Or.inl ⟨by rfl, ?hy4⟩) G0 ?re4
          case hy4 =>
            intro w' hSw
            go_simp
            try with_reducible rfl
          try simp only [Act.put, List.setIfInBounds_toArray, List.set_cons_zero, List.set_cons_succ]
          refine wpAnyE_take (i := 4) (v := ?vv5) rfl (by kernel_rfl) (fun _ _ _ h => h) (Or.inl ⟨by rfl, ?hy5⟩) G0 ?re5
          case hy5 =>
            intro w' hSw
            go_simp
            try with_reducible rfl
          try simp only [Act.put, List.setIfInBounds_toArray, List.set_cons_zero, List.set_cons_succ]
          refine wpAnyE_take (i := 5) (v := ?vv6) rfl (by kernel_rfl) (fun _ _ _ h => h) (Or.inl ⟨by rfl, ?hy6⟩) G0 ?re6
          case hy6 =>
            intro w' hSw
            go_simp
            try with_reducible rfl
          try simp only [Act.put, List.setIfInBounds_toArray, List.set_cons_zero, List.set_cons_succ]
          refine wpAnyE_take (i := 6) (v := ?vv7) rfl (by kernel_rfl) (fun _ _ _ h => h) (Or.inl ⟨by rfl, ?hy7⟩) G0 ?re7
          case hy7 =>
            intro w' hSw
            go_simp
            try with_reducible rfl
          try simp only [Act.put, List.setIfInBounds_toArray, List.set_cons_zero, List.set_cons_succ]
          refine wpAnyE_take (i := 7) (v := ?vv8) rfl (by kernel_rfl) (fun _ _ _ h => h) (Or.inl ⟨by rfl, ?hy8⟩) G0 ?re8
          case hy8 =>
            intro w' hSw
            go_simp
            try with_reducible rfl
          try simp only [Act.put, List.setIfInBounds_toArray, List.set_cons_zero, List.set_cons_succ]
          refine wpAnyE_take (i := 8) (v := ?vv9) rfl (by kernel_rfl) (fun _ _ _ h => h) (Or.inl ⟨by rfl, ?hy9⟩) G0 ?re9
          case hy9 =>
            intro w' hSw
            go_simp
            try with_reducible rfl
          try simp only [Act.put, List.setIfInBounds_toArray, List.set_cons_zero, List.set_cons_succ]
          refine wpAnyE_take (i := 9) (v := ?vv10) rfl (by kernel_rfl) (fun _ _ _ h => h) (Or.inl ⟨by rfl, ?hy10⟩) G0 ?re10
          case hy10 =>
            intro w' hSw
            go_simp
            try with_reducible rfl
          try simp only [Act.put, List.setIfInBounds_toArray, List.set_cons_zero, List.set_cons_succ]
          refine wpAnyE_two (i := 10) (j := 14) rfl rfl (by kernel_rfl) (fun K hK => ?_) (fun K hK => ?_)
          · go_simp
            (go_at_call 26; refine (C26.out _ G0).mono ?_; rintro e W1 ⟨rfl, hw1⟩)
            have G1 : Grew wr W1 := Below.trans G0 (Below.mono hw1 (Below.size G0))
            refine hK.out _ _ (fun _ => G1) ?_
            clear hK K
            try simp only [Act.put, List.setIfInBounds_toArray, List.set_cons_zero, List.set_cons_succ]
            clear hw1
            refine wpAnyE_take (i := 11) (v := ?vv11) rfl (by kernel_rfl) (fun _ _ _ h => h) (Or.inl ⟨by rfl, ?hy11⟩) G1 ?re11
            case hy11 =>
              intro w' hSw
              go_simp
              try with_reducible rfl
            try simp only [Act.put, List.setIfInBounds_toArray, List.set_cons_zero, List.set_cons_succ]
            refine wpAnyE_two (i := 12) (j := 14) rfl rfl (by kernel_rfl) (fun K hK => ?_) (fun K hK => ?_)
            · go_simp
              refine hK.out _ _ (fun _ => Below.alloc G1 (Below.size G1) _) ?_
              clear hK K
              try simp only [Act.put, List.setIfInBounds_toArray, List.set_cons_zero, List.set_cons_succ]
              have G2 : Grew wr (W1.alloc (Obj.cells #[I ce.v.c, I ce.v.s] 45)) := Below.alloc G1 (Below.size G1) (Obj.cells #[I ce.v.c, I ce.v.s] 45)
              have hr2 := Blk.new W1 45 #[I ce.v.c, I ce.v.s]
              generalize W1.alloc (Obj.cells #[I ce.v.c, I ce.v.s] 45) = W2 at G2 hr2 ⊢
              generalize W1.heap.size = gr at hr2 ⊢
              refine wpAnyE_two (i := 13) (j := 14) rfl rfl (by kernel_rfl) (fun K hK => ?_) (fun K hK => ?_)
              · go_simp
                (go_at_call 25; refine (C25.out _ _ hr2).mono ?_; rintro e W3 ⟨rfl, hw3⟩)
                have G3 : Grew wr W3 := Below.trans G2 (Below.mono hw3 (Below.size G2))
                refine hK.out _ _ (fun _ => G3) ?_
                clear hK K
                try simp only [Act.put, List.setIfInBounds_toArray, List.set_cons_zero, List.set_cons_succ]
                clear hw3
                refine wpAnyE_one (i := 14) rfl (by kernel_rfl) (fun K hK => ?_)
                go_simp
                refine hK.out _ _ (fun _ => Below.alloc G3 (Below.size G3) _) ?_
                clear hK K
                try simp only [Act.put, List.setIfInBounds_toArray, List.set_cons_zero, List.set_cons_succ]
                have gg4 := Below.alloc G3 (Below.size G3) (Obj.cells #[I 0, I 0] 45)
                have hb4 := Blk.new W3 45 #[I 0, I 0]
                have hg4 := Below.size G3
                have hr4 := hr2.alloc (Obj.cells #[I 0, I 0] 45)
                have G4 : Grew wr (W3.alloc (Obj.cells #[I 0, I 0] 45)) := gg4
                clear gg4
                generalize W3.alloc (Obj.cells #[I 0, I 0] 45) = W4 at G4 hb4 hr4 ⊢
                generalize W3.heap.size = ga at hb4 hg4 ⊢
                have q0 := hb4.cell 0
                have q1 := hb4.cell 1
                have f0 := hb4.frozen 0
                have f1 := hb4.frozen 1
                simp at q0 q1
                refine wpAnyE_one (i := 15) rfl (by kernel_rfl) (fun K hK => ?_)
                go_simp
                refine hK.out _ _ (fun h => absurd rfl h) ?_
                clear hK K
                try simp only [Act.put, List.setIfInBounds_toArray, List.set_cons_zero, List.set_cons_succ]
                refine wpAnyE_done (by kernel_rfl) ?_
                go_wp2_with fail
                go_meet
                exact ⟨ga, rfl, ((hb4.set_ 0 _).set_ 1 _).eq_ (by simp), Below.setCell (Below.setCell G4 (p := ⟨ga, 0, none⟩) hg4 _) (p := ⟨ga, 1, none⟩) hg4 _⟩
              · go_simp
                refine hK.out _ _ (fun _ => Below.alloc G2 (Below.size G2) _) ?_
                clear hK K
                try simp only [Act.put, List.setIfInBounds_toArray, List.set_cons_zero, List.set_cons_succ]
                have gg3 := Below.alloc G2 (Below.size G2) (Obj.cells #[I 0, I 0] 45)
                have hb3 := Blk.new W2 45 #[I 0, I 0]
                have hg3 := Below.size G2
                have hr3 := hr2.alloc (Obj.cells #[I 0, I 0] 45)
                have G3 : Grew wr (W2.alloc (Obj.cells #[I 0, I 0] 45)) := gg3
                clear gg3
                generalize W2.alloc (Obj.cells #[I 0, I 0] 45) = W3 at G3 hb3 hr3 ⊢
                generalize W2.heap.size = ga at hb3 hg3 ⊢
                refine wpAnyE_one (i := 13) rfl (by kernel_rfl) (fun K hK => ?_)
                go_simp
                (go_at_call 25; refine (C25.out _ _ hr3).mono ?_; rintro e W4 ⟨rfl, hw4⟩)
                have G4 : Grew wr W4 := Below.trans G3 (Below.mono hw4 (Below.size G3))
                refine hK.out _ _ (fun _ => G4) ?_
                clear hK K
                try simp only [Act.put, List.setIfInBounds_toArray, List.set_cons_zero, List.set_cons_succ]
                have hb4 := hb3.below hw4 hb3.lt
                clear hw4
                have q0 := hb4.cell 0
                have q1 := hb4.cell 1
                have f0 := hb4.frozen 0
                have f1 := hb4.frozen 1
                simp at q0 q1
                refine wpAnyE_one (i := 15) rfl (by kernel_rfl) (fun K hK => ?_)
                go_simp
                refine hK.out _ _ (fun h => absurd rfl h) ?_
                clear hK K
                try simp only [Act.put, List.setIfInBounds_toArray, List.set_cons_zero, List.set_cons_succ]
                refine wpAnyE_done (by kernel_rfl) ?_
                go_wp2_with fail
                go_meet
                exact ⟨ga, rfl, ((hb4.set_ 0 _).set_ 1 _).eq_ (by simp), Below.setCell (Below.setCell G4 (p := ⟨ga, 0, none⟩) hg3 _) (p := ⟨ga, 1, none⟩) hg3 _⟩
            · go_simp
              refine hK.out _ _ (fun _ => Below.alloc G1 (Below.size G1) _) ?_
              clear hK K
              try simp only [Act.put, List.setIfInBounds_toArray, List.set_cons_zero, List.set_cons_succ]
              have gg2 := Below.alloc G1 (Below.size G1) (Obj.cells #[I 0, I 0] 45)
              have hb2 := Blk.new W1 45 #[I 0, I 0]
              have hg2 := Below.size G1
              have G2 : Grew wr (W1.alloc (Obj.cells #[I 0, I 0] 45)) := gg2
              clear gg2
              generalize W1.alloc (Obj.cells #[I 0, I 0] 45) = W2 at G2 hb2 ⊢
              generalize W1.heap.size = ga at hb2 hg2 ⊢
              refine wpAnyE_one (i := 12) rfl (by kernel_rfl) (fun K hK => ?_)
              go_simp
              refine hK.out _ _ (fun _ => Below.alloc G2 (Below.size G2) _) ?_
              clear hK K
              try simp only [Act.put, List.setIfInBounds_toArray, List.set_cons_zero, List.set_cons_succ]
              have G3 : Grew wr (W2.alloc (Obj.cells #[I ce.v.c, I ce.v.s] 45)) := Below.alloc G2 (Below.size G2) (Obj.cells #[I ce.v.c, I ce.v.s] 45)
              have hr3 := Blk.new W2 45 #[I ce.v.c, I ce.v.s]
              have hb3 := hb2.alloc (Obj.cells #[I ce.v.c, I ce.v.s] 45)
              generalize W2.alloc (Obj.cells #[I ce.v.c, I ce.v.s] 45) = W3 at G3 hr3 hb3 ⊢
              generalize W2.heap.size = gr at hr3 ⊢
              refine wpAnyE_one (i := 13) rfl (by kernel_rfl) (fun K hK => ?_)
              go_simp
              (go_at_call 25; refine (C25.out _ _ hr3).mono ?_; rintro e W4 ⟨rfl, hw4⟩)
              have G4 : Grew wr W4 := Below.trans G3 (Below.mono hw4 (Below.size G3))
              refine hK.out _ _ (fun _ => G4) ?_
              clear hK K
              try simp only [Act.put, List.setIfInBounds_toArray, List.set_cons_zero, List.set_cons_succ]
              have hb4 := hb3.below hw4 hb3.lt
              clear hw4
              have q0 := hb4.cell 0
              have q1 := hb4.cell 1
              have f0 := hb4.frozen 0
              have f1 := hb4.frozen 1
              simp at q0 q1
              refine wpAnyE_one (i := 15) rfl (by kernel_rfl) (fun K hK => ?_)
              go_simp
              refine hK.out _ _ (fun h => absurd rfl h) ?_
              clear hK K
              try simp only [Act.put, List.setIfInBounds_toArray, List.set_cons_zero, List.set_cons_succ]
              refine wpAnyE_done (by kernel_rfl) ?_
              go_wp2_with fail
              go_meet
              exact ⟨ga, rfl, ((hb4.set_ 0 _).set_ 1 _).eq_ (by simp), Below.setCell (Below.setCell G4 (p := ⟨ga, 0, none⟩) hg2 _) (p := ⟨ga, 1, none⟩) hg2 _⟩
          · go_simp
            refine hK.out _ _ (fun _ => Below.alloc G0 (Below.size G0) _) ?_
            clear hK K
            try simp only [Act.put, List.setIfInBounds_toArray, List.set_cons_zero, List.set_cons_succ]
            have gg1 := Below.alloc G0 (Below.size G0) (Obj.cells #[I 0, I 0] 45)
            have hb1 := Blk.new W0 45 #[I 0, I 0]
            have hg1 := Below.size G0
            have G1 : Grew wr (W0.alloc (Obj.cells #[I 0, I 0] 45)) := gg1
            clear gg1
            generalize W0.alloc (Obj.cells #[I 0, I 0] 45) = W1 at G1 hb1 ⊢
            generalize W0.heap.size = ga at hb1 hg1 ⊢
            refine wpAnyE_one (i := 10) rfl (by kernel_rfl) (fun K hK => ?_)
            go_simp
            (go_at_call 26; refine (C26.out _ G1).mono ?_; rintro e W2 ⟨rfl, hw2⟩)
            have G2 : Grew wr W2 := Below.trans G1 (Below.mono hw2 (Below.size G1))
            refine hK.out _ _ (fun _ => G2) ?_
            clear hK K
            try simp only [Act.put, List.setIfInBounds_toArray, List.set_cons_zero, List.set_cons_succ]
            have hb2 := hb1.below hw2 hb1.lt
            clear hw2
            refine wpAnyE_take (i := 11) (v := ?vv12) rfl (by kernel_rfl) (fun _ _ _ h => h) (Or.inl ⟨by rfl, ?hy12⟩) G2 ?re12
            case hy12 =>
              intro w' hSw
              go_simp
              try with_reducible rfl
            try simp only [Act.put, List.setIfInBounds_toArray, List.set_cons_zero, List.set_cons_succ]
            refine wpAnyE_one (i := 12) rfl (by kernel_rfl) (fun K hK => ?_)
            go_simp
            refine hK.out _ _ (fun _ => Below.alloc G2 (Below.size G2) _) ?_
            clear hK K
            try simp only [Act.put, List.setIfInBounds_toArray, List.set_cons_zero, List.set_cons_succ]
            have G3 : Grew wr (W2.alloc (Obj.cells #[I ce.v.c, I ce.v.s] 45)) := Below.alloc G2 (Below.size G2) (Obj.cells #[I ce.v.c, I ce.v.s] 45)
            have hr3 := Blk.new W2 45 #[I ce.v.c, I ce.v.s]
            have hb3 := hb2.alloc (Obj.cells #[I ce.v.c, I ce.v.s] 45)
            generalize W2.alloc (Obj.cells #[I ce.v.c, I ce.v.s] 45) = W3 at G3 hr3 hb3 ⊢
            generalize W2.heap.size = gr at hr3 ⊢
            refine wpAnyE_one (i := 13) rfl (by kernel_rfl) (fun K hK => ?_)
            go_simp
            (go_at_call 25; refine (C25.out _ _ hr3).mono ?_; rintro e W4 ⟨rfl, hw4⟩)
            have G4 : Grew wr W4 := Below.trans G3 (Below.mono hw4 (Below.size G3))
            refine hK.out _ _ (fun _ => G4) ?_
            clear hK K
            try simp only [Act.put, List.setIfInBounds_toArray, List.set_cons_zero, List.set_cons_succ]
            have hb4 := hb3.below hw4 hb3.lt
            clear hw4
            have q0 := hb4.cell 0
            have q1 := hb4.cell 1
            have f0 := hb4.frozen 0
            have f1 := hb4.frozen 1
            simp at q0 q1
            refine wpAnyE_one (i := 15) rfl (by kernel_rfl) (fun K hK => ?_)
            go_simp
            refine hK.out _ _ (fun h => absurd rfl h) ?_
            clear hK K
            try simp only [Act.put, List.setIfInBounds_toArray, List.set_cons_zero, List.set_cons_succ]
            refine wpAnyE_done (by kernel_rfl) ?_
            go_wp2_with fail
            go_meet
            exact ⟨ga, rfl, ((hb4.set_ 0 _).set_ 1 _).eq_ (by simp), Below.setCell (Below.setCell G4 (p := ⟨ga, 0, none⟩) hg1 _) (p := ⟨ga, 1, none⟩) hg1 _⟩
        case rest =>
          obtain ⟨g, rfl, hvb, hb1⟩ := hcut
          have v0 := hvb.cell 0
          have v1 := hvb.cell 1
          have hq := BV.out.below hb1 BV.out.lt
          have t0 := hq.cell 0
          have t1 := hq.cell 1
          simp at v0 v1 t0 t1
          have HB1 := hide hb1
          clear y0 y2 x0 F1 hvb hb1 hq
          have hcase : 1099511627776 ≤ cv.c ∨ cv.c < 1099511627776 := by omega
          rcases hcase with h1 | h1
          · go_wp2_with fail
            go_roundw
            case rel => exact ⟨k + 1, by simp, by omega, GR.out.trans (HB1.out.mono GR.out.size)⟩
            case measure => simp [intOf]; omega
          · have C := CL.out
            rw [HLE.out h1] at C
            have CL := hide C
            clear C
            go_wp2_with (go_at_call 27; refine (CL.out _).mono ?_; rintro e w9 ⟨rfl, hw9⟩; have HW9 := hide hw9; clear hw9)
            go_roundw
            case rel => exact ⟨k + 1, by simp, by omega, GR.out.trans ((HB1.out.trans (HW9.out.mono HB1.out.size)).mono GR.out.size)⟩
            case measure => simp [intOf]; omega
      · have hd : decide ((k : Int) < L.fin.length) = false := by simp; omega
        go_wp2_with fail
        refine (CW.out _ HBW.out).mono ?_
        rintro e w9 ⟨rfl, hw9⟩
        have HW9 := hide (HBW.out.trans (hw9.mono HBW.out.size))
        clear hw9
        go_wp2
        go_ret
        exact ⟨rfl, HW9.out⟩
end Go.Proofs.YtnifpeamgoapmaaDoor
