/- 'emendatelaw40.ChartFixed' RETURNS true. -/
import Derived.Test.YtnifpeamgoapmaaDoorLb
import Derived.Test.YtnifpeamgoapmaaDoorRn
import Derived.Deep.DeepCutAuto
set_option linter.unusedVariables false
set_option linter.unusedSimpArgs false
namespace Go.Proofs.YtnifpeamgoapmaaDoor
open Go Go.RowKit

theorem rd_seg {w : World} {A : Option Addr} {cs : List Cel} {b off q N : Nat} (h : Rd w A cs.length 4 (ccells cs)) (hA : A = some ⟨b, off, none⟩) (hq : q + N ≤ cs.length) (h0 : 0 < N) : Rd w (some ⟨b, off + q * 4, none⟩) ((cs.drop q).take N).length 4 (ccells ((cs.drop q).take N)) := by
  refine ⟨ccells_length _, fun _ => ⟨b, off + q * 4, rfl, fun j u hj => ?_⟩⟩
  obtain ⟨b', off', e, h2⟩ := h.2 (by omega)
  rw [hA] at e
  injection e with e
  injection e with e1 e2
  subst e1 e2
  rw [← ccells_take, ← ccells_drop, List.getElem?_take] at hj
  split at hj
  · rw [List.getElem?_drop] at hj
    rw [Nat.add_assoc]
    exact h2 _ _ hj
  · cases hj
theorem chart_seg {G : Gram} {L : Lat} {cs : List Cel} {N S s t q : Nat} (h : IsChart G L cs) (hN : G.nN = (N : Int)) (hS : L.st = (S : Int)) (h1 : s ≤ t) (h2 : t < S) (hq : q = qN S s t * N) : IsCells (spanOf G L cs s t) ((cs.drop q).take N) := by
  have e1 : G.nN.toNat = N := by omega
  have e2 : L.st.toNat = S := by omega
  have := h.ok s t h1 (by omega) trivial
  unfold seg at this
  rw [e1, e2, ← hq] at this
  exact this
theorem rspan_law (G : Gram) (L : Lat) (cs : List Cel) (s t : Nat) (RA AA FA CA : Option Addr) (rc ac fc cc : Nat) (W : World) (n1 : Int) (hn1 : n1 = G.nN) (B : GBds G L) (hch : IsChart G L cs) (h1 : s ≤ t) (h2 : t < L.st.toNat) (hA : GArgs W G L RA AA) (hC : Rd W CA cs.length 4 (ccells cs)) :
    Calls Tryd.prog 22 #[.agg #[I G.nT, I n1, I G.nS, .slice RA G.rules.length rc], .agg #[I L.st, .slice AA L.arcs.length ac, .slice FA L.fin.length fc], .agg #[I G.nN, I L.st, .slice CA cs.length cc], I (s : Int), I (t : Int)] W (SpanPost (spanOf G L cs s t) W) := by
  subst hn1
  exact rspan_any (spanOf G L cs s t) RA AA FA CA rc ac fc cc W (B.span hch.len hch.nf h1 h2) B.n0 ⟨hA.rules, hA.arcs, hC⟩
set_option maxRecDepth 100000 in
set_option maxHeartbeats 16000000 in
theorem lawFixed_any (G : Gram) (L : Lat) (RA AA FA : Option Addr) (rc ac fc : Nat) (w : World) (hA : LawArgs w G L RA AA FA) :
    Calls Tryd.prog 5 #[GramA G RA rc, LatA L AA ac FA fc] w fun e w' => e = .returned (.bool true) ∧ Below w.heap.size w w' := by
  have b24 := (Blk.new w 24 #[I G.nT, I G.nN, I G.nS, .slice RA G.rules.length rc]).alloc (Obj.cells #[I L.st, .slice AA L.arcs.length ac, .slice FA L.fin.length fc] 28)
  have b28 := Blk.new2 w (Obj.cells #[I G.nT, I G.nN, I G.nS, .slice RA G.rules.length rc] 24) 28 #[I L.st, .slice AA L.arcs.length ac, .slice FA L.fin.length fc]
  have hbel : Below w.heap.size w ((w.alloc (Obj.cells #[I G.nT, I G.nN, I G.nS, .slice RA G.rules.length rc] 24)).alloc (Obj.cells #[I L.st, .slice AA L.arcs.length ac, .slice FA L.fin.length fc] 28)) := ((Below.refl _ _).alloc (Nat.le_refl _) _).alloc (by simp) _
  have B24 := hide b24
  have B28 := hide b28
  have HBEL := hide hbel
  have HA := hide hA
  have CW := hide (fun W (hb : Below w.heap.size w W) => awake_any W (HA.out.none_.below hb))
  clear b24 b28 hbel hA
  by_cases hM : MayP G L
  case neg =>
    have CM := hide (fun W (hb : Below w.heap.size w W) => may_any G L RA AA FA rc ac fc W (HA.out.below hb) false ⟨fun h => (by cases h), fun h => absurd h hM⟩)
    clear hM
    go_enter Tryd.func5, Tryd.ntmps5
    go_wp2_with fail
    refine (CM.out _ HBEL.out).mono ?_
    rintro e w1 ⟨rfl, hw1⟩
    have HW1 := hide (HBEL.out.trans (hw1.mono HBEL.out.size))
    clear hw1
    go_wp2_with fail
    refine (CW.out _ HW1.out).mono ?_
    rintro e w2 ⟨rfl, hw2⟩
    have HW2 := hide (HW1.out.trans (hw2.mono HW1.out.size))
    clear hw2
    go_wp2
    go_ret
    exact ⟨rfl, HW2.out⟩
  case pos =>
    have CM := hide (fun W (hb : Below w.heap.size w W) => may_any G L RA AA FA rc ac fc W (HA.out.below hb) true ⟨fun _ => hM, fun _ => rfl⟩)
    have HM := hide hM
    clear hM
    go_enter Tryd.func5, Tryd.ntmps5
    go_wp2_with fail
    refine (CM.out _ HBEL.out).mono ?_
    rintro e w1 ⟨rfl, hw1⟩
    have HW1 := hide (HBEL.out.trans (hw1.mono HBEL.out.size))
    have h24 := B24.out.below hw1 B24.out.lt
    have h28 := B28.out.below hw1 B28.out.lt
    have B24 := hide h24
    have B28 := hide h28
    clear hw1 h24 h28
    have h_ := B24.out
    have x0 := h_.cell 0
    have x1 := h_.cell 1
    have x2 := h_.cell 2
    have x3 := h_.cell 3
    clear h_
    have h_ := B28.out
    have y0 := h_.cell 0
    have y1 := h_.cell 1
    have y2 := h_.cell 2
    clear h_
    simp at x0 x1 x2 x3 y0 y1 y2
    go_wp2_with fail
    refine (build_any G L RA AA FA rc ac fc _ HM.out.gb (HA.out.g.below HW1.out)).mono ?_
    rintro e w2 ⟨CA, cc, cs, rfl, hch, hrd, hw2, _, hcc⟩
    have hb2 : Below w1.heap.size w1 (w2.alloc (Obj.cells #[I G.nN, I L.st, .slice CA cs.length cc] 34)) := hw2.alloc hw2.size _
    have h34 := Blk.new w2 34 #[I G.nN, I L.st, .slice CA cs.length cc]
    have hrd3 := hrd.below ((Below.refl _ _).alloc (Nat.le_refl _) (Obj.cells #[I G.nN, I L.st, .slice CA cs.length cc] 34))
    clear hrd hw2 x0 x1 x2 x3 y0 y1 y2
    go_upto_region 4 with fail
    generalize w2.alloc (Obj.cells #[I G.nN, I L.st, .slice CA cs.length cc] 34) = w3 at hb2 h34 hrd3 ⊢
    generalize w2.heap.size = qc at h34 ⊢
    have HW3 := hide (HW1.out.trans (hb2.mono HW1.out.size))
    have B34 := hide h34
    have HRD := hide hrd3
    have HCH := hide hch
    have HCC := hide hcc
    have h_ := B24.out.below hb2 B24.out.lt
    have B24 := hide h_
    clear h_
    have h_ := B28.out.below hb2 B28.out.lt
    have B28 := hide h_
    clear h_
    clear hb2 h34 hrd3 hch hcc
    obtain ⟨N, hN⟩ := Int.eq_ofNat_of_zero_le (show 0 ≤ G.nN by have := HM.out.gb.n0; omega)
    obtain ⟨S, hS⟩ := Int.eq_ofNat_of_zero_le (show 0 ≤ L.st by have := HM.out.gb.s0; omega)
    have hN1 : N ≤ 10 := by have := HM.out.gb.n1; omega
    have hN0 : 0 < N := by have := HM.out.gb.n0; omega
    have hS1 : S ≤ 9 := by have := HM.out.gb.s1; omega
    have hlen : cs.length = row S S * N := by have := HCH.out.len; rw [hN, hS] at this; simpa using this
    have hL10 := chart_len HM.out.gb HCH.out
    have HLEN := hide hlen
    have C18 := hide (fun W => spanned_any G L N S cs RA AA FA CA rc ac fc cc W hN hS hN1 hS1 hlen)
    have HN := hide hN
    have HS := hide hS
    clear hN hS hlen
    have h_ := B24.out
    have x0 := h_.cell 0
    have x1 := h_.cell 1
    have x2 := h_.cell 2
    have x3 := h_.cell 3
    clear h_
    have h_ := B28.out
    have y0 := h_.cell 0
    have y1 := h_.cell 1
    have y2 := h_.cell 2
    clear h_
    have h_ := B34.out
    have z0 := h_.cell 0
    have z1 := h_.cell 1
    have z2 := h_.cell 2
    clear h_
    simp at x0 x1 x2 x3 y0 y1 y2 z0 z1 z2
    go_wp2_with fail
    refine (C18.out _).mono ?_
    rintro e w4 ⟨rfl, hb4⟩
    have HW4 := hide (HW3.out.trans (hb4.mono HW3.out.size))
    have HRD := hide (HRD.out.below hb4)
    have h_ := B24.out.below hb4 B24.out.lt
    have B24 := hide h_
    clear h_
    have h_ := B28.out.below hb4 B28.out.lt
    have B28 := hide h_
    clear h_
    have h_ := B34.out.below hb4 B34.out.lt
    have B34 := hide h_
    clear h_
    clear hb4 x0 x1 x2 x3 y0 y1 y2 z0 z1 z2
    go_wp2_with fail
    go_loopw [6] (fun s6 wr => ∃ s : Nat, s6 = .int .i64 s ∧ s ≤ S ∧ Below w4.heap.size w4 wr) (fun s6 _ => 20 - (intOf s6).toNat)
    case atStart => exact ⟨0, rfl, Nat.zero_le _, Below.refl _ _⟩
    case round =>
      obtain ⟨s, rfl, hs, hgr⟩ := hrel
      have GR := hide hgr
      have b28 := B28.out.below hgr B28.out.lt
      have y0 := b28.cell 0
      simp at y0
      rw [HS.out] at y0
      clear b28 hgr
      have hcs : (s : Int) < S ∨ (S : Int) ≤ s := by omega
      rcases hcs with hcs | hcs
      · obtain ⟨wo, hwo⟩ : ∃ wo, wo = wr := ⟨_, rfl⟩
        subst hwo
        go_wp2_with fail
        clear y0
        go_loopw [7] (fun s7 wr => ∃ t : Nat, s7 = .int .i64 t ∧ s ≤ t ∧ t ≤ S ∧ Below w4.heap.size w4 wr) (fun s7 _ => 20 - (intOf s7).toNat)
        case atStart => exact ⟨s, rfl, Nat.le_refl _, hs, GR.out⟩
        case round =>
          clear GR
          obtain ⟨t, rfl, hst, ht, hgr⟩ := hrel
          have GR := hide hgr
          have B24 := hide (B24.out.below hgr B24.out.lt)
          have B28 := hide (B28.out.below hgr B28.out.lt)
          have B34 := hide (B34.out.below hgr B34.out.lt)
          have HRD := hide (HRD.out.below hgr)
          have HWR := hide (HW4.out.trans (hgr.mono HW4.out.size))
          have y0 := B28.out.cell 0
          have x1 := B24.out.cell 1
          simp at y0 x1
          rw [HS.out] at y0
          rw [HN.out] at x1
          clear hgr
          have hcs : (t : Int) < S ∨ (S : Int) ≤ t := by omega
          rcases hcs with hcs | hcs
          · have htS : t < S := by omega
            obtain ⟨q, hq⟩ : ∃ q, q = qN S s t * N := ⟨_, rfl⟩
            have C20 := hide (fun W => by
              have := index_any N S s t W hst htS (by omega) (by omega)
              rw [← hq] at this
              exact this)
            have HQ := hide hq
            clear hq
            go_wp2_with (go_at_call 20; refine (C20.out _).mono ?_; rintro e w2 ⟨rfl, rfl⟩)
            obtain ⟨wr, hwr⟩ : ∃ W, W = w2 := ⟨_, rfl⟩
            subst hwr
            have hq := HQ.out
            have hqn : q + N ≤ cs.length := by
              have h3 : (qN S s t + 1) * N ≤ row S S * N := Nat.mul_le_mul_right N (by have := qN_lt hst htS; omega)
              rw [Nat.add_mul] at h3
              rw [HLEN.out]
              omega
            obtain ⟨cb, co, hCA, _⟩ := HRD.out.2 (by omega)
            have HSEGL := hide (show ((cs.drop q).take N).length = N by simp; omega)
            have HRS := hide (rd_seg HRD.out hCA hqn hN0)
            have HIS := hide (chart_seg HCH.out HN.out HS.out hst htS hq)
            have HTL := hide (show t < L.st.toNat by rw [HS.out]; simpa using htS)
            have C22 := hide (fun W (hb : Grew wr W) => rspan_law G L cs s t RA AA FA CA rc ac fc cc W (N : Int) HN.out.symm HM.out.gb HCH.out hst HTL.out ((HA.out.g.below HWR.out).below hb) (HRD.out.below hb))
            rw [hCA] at C22
            have hcc := HCC.out
            have HBD := hide (HM.out.gb.span (cs := cs) HCH.out.len HCH.out.nf hst HTL.out)
            have HXN := hide (show (spanOf G L cs s t).N = N by unfold SpanC.N spanOf; simp only; rw [HN.out]; simp)
            have C21 := hide (fun W (A1 A2 : Option Addr) (c1 c2 : Nat) (h1 : Rd W A1 ((cs.drop q).take N).length 4 (ccells ((cs.drop q).take N))) (h2 : Rd W A2 ((cs.drop q).take N).length 4 (ccells ((cs.drop q).take N))) => by
              have := samecells_any _ _ A1 A2 c1 c2 W h1 h2 (by rw [HSEGL.out]; omega)
              rw [HSEGL.out, show decide ((cs.drop q).take N = (cs.drop q).take N) = true by simp] at this
              exact this)
            have hs2 : (q : Int) ≤ (q : Int) + (N : Int) := by omega
            have hs3 : (q : Int) + (N : Int) ≤ (cc : Int) := by omega
            have hs4 : (0 : Int) ≤ (q : Int) := by omega
            have hs5 : ¬ (cc = q) := by omega
            have hs6 : ((q : Int) + (N : Int)).toNat = q + N := by omega
            have hs7 : q + N ≤ cc := by omega
            have hs8 : q ≤ q + N := by omega
            have hs9 : q + N - q = N := by omega
            have hs1 : IntKind.i64.wrap ((q : Int) + (N : Int)) = (q : Int) + (N : Int) := by rw [IntKind.wrap_i64]; omega
            clear y0 x1
            have g0 : ∀ w', Grew wr w' → w'.cell? ⟨w.heap.size, 0, none⟩ = some (I G.nT) := fun w' h => cell_below h (by have := B24.out.cell 0; simpa using this)
            have g1 : ∀ w', Grew wr w' → w'.cell? ⟨w.heap.size, 1, none⟩ = some (I G.nN) := fun w' h => cell_below h (by have := B24.out.cell 1; simpa using this)
            have g2 : ∀ w', Grew wr w' → w'.cell? ⟨w.heap.size, 2, none⟩ = some (I G.nS) := fun w' h => cell_below h (by have := B24.out.cell 2; simpa using this)
            have g3 : ∀ w', Grew wr w' → w'.cell? ⟨w.heap.size, 3, none⟩ = some (.slice RA G.rules.length rc) := fun w' h => cell_below h (by have := B24.out.cell 3; simpa using this)
            have k0 : ∀ w', Grew wr w' → w'.cell? ⟨w.heap.size + 1, 0, none⟩ = some (I L.st) := fun w' h => cell_below h (by have := B28.out.cell 0; simpa using this)
            have k1 : ∀ w', Grew wr w' → w'.cell? ⟨w.heap.size + 1, 1, none⟩ = some (.slice AA L.arcs.length ac) := fun w' h => cell_below h (by have := B28.out.cell 1; simpa using this)
            have k2 : ∀ w', Grew wr w' → w'.cell? ⟨w.heap.size + 1, 2, none⟩ = some (.slice FA L.fin.length fc) := fun w' h => cell_below h (by have := B28.out.cell 2; simpa using this)
            have z0 : ∀ w', Grew wr w' → w'.cell? ⟨qc, 0, none⟩ = some (I G.nN) := fun w' h => cell_below h (by have := B34.out.cell 0; simpa using this)
            have z1 : ∀ w', Grew wr w' → w'.cell? ⟨qc, 1, none⟩ = some (I L.st) := fun w' h => cell_below h (by have := B34.out.cell 1; simpa using this)
            have z2 : ∀ w', Grew wr w' → w'.cell? ⟨qc, 2, none⟩ = some (.slice (some ⟨cb, co, none⟩) cs.length cc) := fun w' h => cell_below h (by have := B34.out.cell 2; rw [hCA] at this; simpa using this)
            rw [HN.out] at g1
            have HG1 := hide HN.out
            have hS0 : Grew wr wr.drew := Below.drew (Below.refl _ _)
            clear hq hCA hcc
            go_wp2_with fail
            refine wp_region_E (fun w' => Grew wr w') 15 (by kernel_rfl) ?_
            refine wpAnyE_take (i := 0) (v := ?vv1) rfl (by kernel_rfl) (fun _ _ _ h => h) (Or.inl ⟨by rfl, ?hy1⟩) hS0 ?re1
            case hy1 =>
              intro w' hSw
              go_simp
              try with_reducible rfl
            try simp only [Act.put, List.getElem_toArray, List.getElem_cons_zero, List.getElem_cons_succ, List.setIfInBounds_toArray, List.set_cons_zero, List.set_cons_succ]
            refine wpAnyE_take (i := 1) (v := ?vv2) rfl (by kernel_rfl) (fun _ _ _ h => h) (Or.inl ⟨by rfl, ?hy2⟩) hS0 ?re2
            case hy2 =>
              intro w' hSw
              go_simp
              try with_reducible rfl
            try simp only [Act.put, List.getElem_toArray, List.getElem_cons_zero, List.getElem_cons_succ, List.setIfInBounds_toArray, List.set_cons_zero, List.set_cons_succ]
            refine wpAnyE_take (i := 2) (v := ?vv3) rfl (by kernel_rfl) (fun _ _ _ h => h) (Or.inl ⟨by rfl, ?hy3⟩) hS0 ?re3
            case hy3 =>
              intro w' hSw
              go_simp
              try with_reducible rfl
            try simp only [Act.put, List.getElem_toArray, List.getElem_cons_zero, List.getElem_cons_succ, List.setIfInBounds_toArray, List.set_cons_zero, List.set_cons_succ]
            refine wpAnyE_take (i := 3) (v := ?vv4) rfl (by kernel_rfl) (fun _ _ _ h => h) (Or.inl ⟨by rfl, ?hy4⟩) hS0 ?re4
            case hy4 =>
              intro w' hSw
              go_simp
              try with_reducible rfl
            try simp only [Act.put, List.getElem_toArray, List.getElem_cons_zero, List.getElem_cons_succ, List.setIfInBounds_toArray, List.set_cons_zero, List.set_cons_succ]
            refine wpAnyE_take (i := 4) (v := ?vv5) rfl (by kernel_rfl) (fun _ _ _ h => h) (Or.inl ⟨by rfl, ?hy5⟩) hS0 ?re5
            case hy5 =>
              intro w' hSw
              go_simp
              try with_reducible rfl
            try simp only [Act.put, List.getElem_toArray, List.getElem_cons_zero, List.getElem_cons_succ, List.setIfInBounds_toArray, List.set_cons_zero, List.set_cons_succ]
            refine wpAnyE_take (i := 5) (v := ?vv6) rfl (by kernel_rfl) (fun _ _ _ h => h) (Or.inl ⟨by rfl, ?hy6⟩) hS0 ?re6
            case hy6 =>
              intro w' hSw
              go_simp
              try with_reducible rfl
            try simp only [Act.put, List.getElem_toArray, List.getElem_cons_zero, List.getElem_cons_succ, List.setIfInBounds_toArray, List.set_cons_zero, List.set_cons_succ]
            refine wpAnyE_take (i := 6) (v := ?vv7) rfl (by kernel_rfl) (fun _ _ _ h => h) (Or.inl ⟨by rfl, ?hy7⟩) hS0 ?re7
            case hy7 =>
              intro w' hSw
              go_simp
              try with_reducible rfl
            try simp only [Act.put, List.getElem_toArray, List.getElem_cons_zero, List.getElem_cons_succ, List.setIfInBounds_toArray, List.set_cons_zero, List.set_cons_succ]
            refine wpAnyE_take (i := 7) (v := ?vv8) rfl (by kernel_rfl) (fun _ _ _ h => h) (Or.inl ⟨by rfl, ?hy8⟩) hS0 ?re8
            case hy8 =>
              intro w' hSw
              go_simp
              try with_reducible rfl
            try simp only [Act.put, List.getElem_toArray, List.getElem_cons_zero, List.getElem_cons_succ, List.setIfInBounds_toArray, List.set_cons_zero, List.set_cons_succ]
            refine wpAnyE_take (i := 8) (v := ?vv9) rfl (by kernel_rfl) (fun _ _ _ h => h) (Or.inl ⟨by rfl, ?hy9⟩) hS0 ?re9
            case hy9 =>
              intro w' hSw
              go_simp
              try with_reducible rfl
            try simp only [Act.put, List.getElem_toArray, List.getElem_cons_zero, List.getElem_cons_succ, List.setIfInBounds_toArray, List.set_cons_zero, List.set_cons_succ]
            refine wpAnyE_take (i := 9) (v := ?vv10) rfl (by kernel_rfl) (fun _ _ _ h => h) (Or.inl ⟨by rfl, ?hy10⟩) hS0 ?re10
            case hy10 =>
              intro w' hSw
              go_simp
              try with_reducible rfl
            try simp only [Act.put, List.getElem_toArray, List.getElem_cons_zero, List.getElem_cons_succ, List.setIfInBounds_toArray, List.set_cons_zero, List.set_cons_succ]
            refine wpAnyE_take (i := 10) (v := ?vv11) rfl (by kernel_rfl) (fun _ _ _ h => h) (Or.inl ⟨by rfl, ?hy11⟩) hS0 ?re11
            case hy11 =>
              intro w' hSw
              go_simp
              try with_reducible rfl
            try simp only [Act.put, List.getElem_toArray, List.getElem_cons_zero, List.getElem_cons_succ, List.setIfInBounds_toArray, List.set_cons_zero, List.set_cons_succ]
            refine wpAnyE_take (i := 11) (v := ?vv12) rfl (by kernel_rfl) (fun _ _ _ h => h) (Or.inl ⟨by rfl, ?hy12⟩) hS0 ?re12
            case hy12 =>
              intro w' hSw
              go_simp
              try with_reducible rfl
            try simp only [Act.put, List.getElem_toArray, List.getElem_cons_zero, List.getElem_cons_succ, List.setIfInBounds_toArray, List.set_cons_zero, List.set_cons_succ]
            refine wpAnyE_take (i := 12) (v := ?vv13) rfl (by kernel_rfl) (fun _ _ _ h => h) (Or.inl ⟨by rfl, ?hy13⟩) hS0 ?re13
            case hy13 =>
              intro w' hSw
              go_simp
              try with_reducible rfl
            try simp only [Act.put, List.getElem_toArray, List.getElem_cons_zero, List.getElem_cons_succ, List.setIfInBounds_toArray, List.set_cons_zero, List.set_cons_succ]
            refine wpAnyE_one (i := 13) rfl (by kernel_rfl) (fun K hK => ?_)
            go_simp
            (go_at_call 22; (with_reducible refine (C22.out _ hS0).mono ?_); rintro e w2 hpost; obtain ⟨ab, ao, c2, ys, rfl, hys, hsrc, hw2, _⟩ := hpost.at2 HXN.out hN0; have hS2 : Grew wr w2 := Below.trans hS0 (hw2.mono (Below.size hS0)); have heq := hys.unique HBD.out HIS.out; subst heq; have HSRC := hide hsrc; clear hw2 hys hsrc)
            refine hK.out _ _ (fun _ => hS2) ?_
            clear hK K
            try simp only [Act.put, List.getElem_toArray, List.getElem_cons_zero, List.getElem_cons_succ, List.setIfInBounds_toArray, List.set_cons_zero, List.set_cons_succ]
            refine wpAnyE_one (i := 14) rfl (by kernel_rfl) (fun K hK => ?_)
            go_simp
            (go_at_call 21; have hA1 := HRS.out.below (show Below wr.heap.size wr w2 from hS2); have hB1 : Rd w2 (some ⟨ab, ao, none⟩) ((cs.drop q).take N).length 4 (ccells ((cs.drop q).take N)) := ⟨ccells_length _, fun _ => ⟨ab, ao, rfl, HSRC.out⟩⟩; (with_reducible refine (C21.out _ _ _ _ _ hA1 hB1).mono ?_); rintro e w3 ⟨rfl, hw3⟩; have hS3 : Grew wr w3 := Below.trans hS2 (hw3.mono (Below.size hS2)); clear hw3)
            refine hK.out _ _ (fun _ => hS3) ?_
            clear hK K
            try simp only [Act.put, List.getElem_toArray, List.getElem_cons_zero, List.getElem_cons_succ, List.setIfInBounds_toArray, List.set_cons_zero, List.set_cons_succ]
            refine wpAnyE_one (i := 15) rfl (by kernel_rfl) (fun K hK => ?_)
            go_simp
            refine hK.out _ _ (fun h => absurd rfl h) ?_
            clear hK K
            try simp only [Act.put, List.getElem_toArray, List.getElem_cons_zero, List.getElem_cons_succ, List.setIfInBounds_toArray, List.set_cons_zero, List.set_cons_succ]
            refine wpAnyE_done (by kernel_rfl) ?_
            go_wp2_with fail
            go_roundw
            case rel => exact ⟨t + 1, by simp, by omega, by omega, GR.out.trans (Below.mono hS3 GR.out.size)⟩
            case measure => simp [intOf]; omega
          · have hd : decide ((t : Int) < S) = false := by simp; omega
            go_wp2_with fail
            go_roundw
            case rel => exact ⟨s + 1, by simp, by omega, GR.out⟩
            case measure => simp [intOf]; omega
      · have hd : decide ((s : Int) < S) = false := by simp; omega
        go_wp2_with fail
        refine (CW.out _ (HW4.out.trans (GR.out.mono HW4.out.size))).mono ?_
        rintro e w9 ⟨rfl, hw9⟩
        have HW9 := hide ((HW4.out.trans (GR.out.mono HW4.out.size)).trans (hw9.mono (HW4.out.trans (GR.out.mono HW4.out.size)).size))
        clear hw9
        go_wp2
        go_ret
        exact ⟨rfl, HW9.out⟩
end Go.Proofs.YtnifpeamgoapmaaDoor
