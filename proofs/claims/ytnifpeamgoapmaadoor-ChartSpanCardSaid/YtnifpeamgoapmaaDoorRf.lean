/- The reference: improve, kind 2. -/
import Derived.Test.YtnifpeamgoapmaaDoorRg
import Derived.Test.YtnifpeamgoapmaaDoorWh
import Derived.Deep.Cut
set_option linter.unusedVariables false
set_option linter.unusedSimpArgs false
namespace Go.Proofs.YtnifpeamgoapmaaDoor
open Go Go.RowKit

set_option maxRecDepth 100000 in
set_option maxHeartbeats 8000000 in
theorem imp2 (X : SpanC) (own : List Cel) (k : Nat) (r : NRule) (RA AA FA CA O : Option Addr) (rc ac fc cc oc : Nat) (w : World) (B : Bds X) (hr : X.G.rules[k]? = some r) (hk : r.k = 2) (hA : ImpArgs w X own RA AA CA O) :
    Calls Tryd.prog 42 #[GramA X.G RA rc, LatA X.L AA ac FA fc, ChartA X.C.cN X.C.cS CA X.C.cells.length cc, .slice O own.length oc, I X.fr, I X.to, I (k : Int)] w fun e w' => e = .returned (CelA (X.improve own k r)) ∧ Below w.heap.size w w' := by
  have hrk := B.rules r (List.mem_of_getElem? hr)
  have hkl := (List.getElem?_eq_some_iff.1 hr).1
  obtain ⟨h, hh⟩ := Int.eq_ofNat_of_zero_le hrk.h0
  have hhl : h < own.length := by rw [hA.len]; have := hrk.h1; unfold SpanC.N; omega
  obtain ⟨c0, hc0⟩ : ∃ c, own[h]? = some c := ⟨_, List.getElem?_eq_getElem hhl⟩
  have HI := hide (show X.improve own k r = (X.insts r).foldl (fun c i => better c (X.cmb (vals own) i) (k : Int) i.a) c0 by unfold SpanC.improve; rw [hh, Int.toNat_natCast, List.getD, hc0]; rfl)
  have hb4 : ∀ o1 o2 o3 o4, Below w.heap.size w ((((w.alloc o1).alloc o2).alloc o3).alloc o4) := fun o1 o2 o3 o4 => ((((Below.refl _ _).alloc (Nat.le_refl _) _).alloc (by simp) _).alloc (by simp; omega) _).alloc (by simp; omega) _
  obtain ⟨b, off, rfl, r0, r1, r2, r3, r4, r5⟩ := hA.rules.rule k hr
  obtain ⟨ob, oo, rfl, c1, c2, c3, c4⟩ := hA.own_.cel h hc0
  have x0 := fun o1 o2 o3 o4 => cell_below (hb4 o1 o2 o3 o4) r0
  have x1 := fun o1 o2 o3 o4 => cell_below (hb4 o1 o2 o3 o4) r1
  have x2 := fun o1 o2 o3 o4 => cell_below (hb4 o1 o2 o3 o4) r2
  have x3 := fun o1 o2 o3 o4 => cell_below (hb4 o1 o2 o3 o4) r3
  have x4 := fun o1 o2 o3 o4 => cell_below (hb4 o1 o2 o3 o4) r4
  have x5 := fun o1 o2 o3 o4 => cell_below (hb4 o1 o2 o3 o4) r5
  have y1 := fun o1 o2 o3 o4 o5 => cell_below (below5_ w o1 o2 o3 o4 o5) c1
  have y2 := fun o1 o2 o3 o4 o5 => cell_below (below5_ w o1 o2 o3 o4 o5) c2
  have y3 := fun o1 o2 o3 o4 o5 => cell_below (below5_ w o1 o2 o3 o4 o5) c3
  have y4 := fun o1 o2 o3 o4 o5 => cell_below (below5_ w o1 o2 o3 o4 o5) c4
  have HST := hide (ImpW.start X own r (some ⟨b, off, none⟩) AA FA CA rc ac fc cc w c0)

  obtain ⟨cK, hcK⟩ : ∃ cK : Nat → Cel, cK = fun (i : Nat) => ((X.insts r).take (X.cnt r i)).foldl (fun c i => better c (X.cmb (vals own) i) (k : Int) i.a) c0 := ⟨_, rfl⟩
  have H0 := hide (show cK 0 = c0 by rw [hcK]; simp [SpanC.cnt])
  have hyes : ∀ (i : Nat) a, X.L.arcs[i]? = some a → X.arcOK r.a a = true → cK (i + 1) = better (cK i) (comb (r.p + a.c) []) (k : Int) (i : Int) := fun i a h1 h2 => by
    obtain ⟨e1, e2⟩ := cnt_yes hk h1 h2
    rw [hcK]
    simp only
    rw [e2, foldl_take_succ _ _ e1]
    rfl
  have HNO := hide (show ∀ (i : Nat) a, X.L.arcs[i]? = some a → X.arcOK r.a a = false → cK (i + 1) = cK i from fun i a h1 h2 => by
    rw [hcK]
    simp only
    rw [cnt_no h1 h2])
  have HI := hide (show X.improve own k r = cK X.L.arcs.length by
    rw [HI.out, hcK]
    simp only
    rw [cnt_hi hk (fun j a hj h => by have := (List.getElem?_eq_some_iff.1 h).1; omega), List.take_length])
  have C25 := hide (fun (a : ArcP) (ha : 0 ≤ a.c ∧ a.c < Inf) W => by
    have := rcombine_any (r.p + a.c) [] none 0 W (by have := hrk.p0; omega) (by have := hrk.p1; have := ha.2; unfold Inf at this; omega) (by simp) (by simp) ⟨rfl, fun h => by simp at h⟩
    have hw : IntKind.i64.wrap (r.p + a.c) = r.p + a.c := by have := hrk.p0; have := hrk.p1; have := ha.2; unfold Inf at this; rw [IntKind.wrap_i64]; omega
    exact (show Calls Tryd.prog 25 #[.int .i64 (IntKind.i64.wrap (r.p + a.c)), .slice none 0 0] W (fun e w' => e = .returned (.agg #[I (comb (r.p + a.c) []).c, I (comb (r.p + a.c) []).s]) ∧ Below W.heap.size W w') by rw [hw]; exact this))
  have C54 := hide (fun (i : Nat) (a : ArcP) (h1 : X.L.arcs[i]? = some a) (h2 : X.arcOK r.a a = true) W => by
    have := better_any (cK i) (comb (r.p + a.c) []) (k : Int) (i : Int) W
    rw [← hyes i a h1 h2] at this
    exact (show Calls Tryd.prog 54 #[.agg #[I (cK i).v.c, I (cK i).v.s, I (cK i).r, I (cK i).a], .agg #[I (comb (r.p + a.c) []).c, I (comb (r.p + a.c) []).s], I (k : Int), I (i : Int)] W (fun e w' => e = .returned (.agg #[I (cK (i + 1)).v.c, I (cK (i + 1)).v.s, I (cK (i + 1)).r, I (cK (i + 1)).a]) ∧ Below W.heap.size W w') from this))
  have hkb1 : (r.k == 1) = false := by simp [hk]
  have hkb2 : (r.k == 2) = true := by simp [hk]
  have hp0 := hrk.p0
  have hp1 := hrk.p1
  have hal := B.al
  have HAC := hide B.ac
  have HARCS := hide hA.arcs
  clear hcK hyes
  clear hA B hr hb4 r0 r1 r2 r3 r4 r5 c1 c2 c3 c4 hc0 hrk hk
  obtain ⟨rk, rh, ra, rb, rp, ro⟩ := r
  simp only at hh x0 x1 x2 x3 x4 x5
  subst hh
  simp only at hkb1 hkb2 hp0 hp1
  have C25 := C25.out
  have C54 := C54.out
  have HNO' := HNO.out
  simp only at C25 C54 HNO'
  have C25 := hide C25
  have C54 := hide C54
  have HNO := hide HNO'
  clear HNO'
  go_enter Tryd.func42, Tryd.ntmps42
  go_wp2_with fail
  go_loopw [17] (fun s17 wr => ∃ i : Nat, s17 = .int .i64 (i : Int) ∧ i ≤ X.L.arcs.length ∧ ImpW X own ⟨rk, (h : Int), ra, rb, rp, ro⟩ (some ⟨b, off, none⟩) AA FA CA rc ac fc cc w (cK i) wr) (fun s17 _ => (60 - intOf s17).toNat)
  case atStart => exact ⟨0, by simp, Nat.zero_le _, by rw [H0.out]; exact HST.out⟩
  case round =>
    clear x0 x1 x2 x3 x4 x5 y1 y2 y3 y4 HST H0
    obtain ⟨i, rfl, hi, hst⟩ := hrel
    have HSTR := hide hst
    have HBEL := hide hst.bel
    have hcs : (i : Int) < X.L.arcs.length ∨ (X.L.arcs.length : Int) ≤ i := by omega
    have c1 := hst.b28.cell 1
    simp at c1
    rcases hcs with hcs | hcs
    · obtain ⟨a, ha⟩ : ∃ a, X.L.arcs[i]? = some a := ⟨_, List.getElem?_eq_getElem (by omega)⟩
      obtain ⟨zb, zo, oa, on_, ocp, hAA, h0, h1, h2, h3, h4⟩ := (HARCS.out.below hst.bel) i a ha
      have hac := HAC.out a (List.mem_of_getElem? ha)
      rw [hAA] at c1
      have l1 := fun y : LW wr => y.cell c1
      have m0 := fun y : LW wr => y.cell h0
      have m1 := fun y : LW wr => y.cell h1
      have m2 := fun y : LW wr => y.cell h2
      have l2 := fun y : LW wr => y.cell (hst.br.cell 2)
      simp at l2
      have hil : i < X.L.arcs.length := by omega
      have HARC := hide ha
      have C25 := hide (C25.out a hac)
      have hac0 := hac.1
      have hac1 := hac.2
      unfold Inf at hac1
      have HH3 := hide h3
      have HAA := hide hAA
      clear hst ha hac hAA h0 h1 h2 h3 h4
      by_cases k1 : a.f = X.fr
      case neg =>
        have HE := hide (HNO.out i a HARC.out (by unfold SpanC.arcOK; simp [k1]))
        have z1 : (a.f == X.fr) = false := by simpa using k1
        clear k1
        go_wp2_with fail
        refine wp_region_later (by kernel_rfl) (by kernel_rfl) ?_
        repeat (go_big_quiet_step (fail))
        refine wpQuiet_nil ?_
        rintro W1 ⟨x, hx⟩
        have hW1 : Below wr.heap.size wr W1 := by rw [hx]; exact x.property
        clear hx x
        have HWW := hide hW1
        clear hW1 m0 m1 m2 l1 l2
        go_wp2_with fail
        go_roundw
        case rel => exact ⟨i + 1, by simp, by omega, by rw [HE.out]; exact HSTR.out.below HWW.out⟩
        case measure => simp [intOf]; omega
      case pos =>
        by_cases k2 : a.t = X.to
        case neg =>
          have HE := hide (HNO.out i a HARC.out (by unfold SpanC.arcOK; simp [k2]))
          have z1 : (a.f == X.fr) = true := by simpa using k1
          have z2 : (a.t == X.to) = false := by simpa using k2
          clear k1 k2
          go_wp2_with fail
          refine wp_region_later (by kernel_rfl) (by kernel_rfl) ?_
          repeat (go_big_quiet_step (fail))
          refine wpQuiet_nil ?_
          rintro W1 ⟨x, hx⟩
          have hW1 : Below wr.heap.size wr W1 := by rw [hx]; exact x.property
          clear hx x
          have HWW := hide hW1
          clear hW1 m0 m1 m2 l1 l2
          go_wp2_with fail
          go_roundw
          case rel => exact ⟨i + 1, by simp, by omega, by rw [HE.out]; exact HSTR.out.below HWW.out⟩
          case measure => simp [intOf]; omega
        case pos =>
          by_cases k3 : a.m = ra
          case neg =>
            have HE := hide (HNO.out i a HARC.out (by unfold SpanC.arcOK; simp [k3]))
            have z1 : (a.f == X.fr) = true := by simpa using k1
            have z2 : (a.t == X.to) = true := by simpa using k2
            have z3 : (a.m == ra) = false := by simpa using k3
            clear k1 k2 k3
            go_wp2_with fail
            refine wp_region_later (by kernel_rfl) (by kernel_rfl) ?_
            repeat (go_big_quiet_step (fail))
            refine wpQuiet_nil ?_
            rintro W1 ⟨x, hx⟩
            have hW1 : Below wr.heap.size wr W1 := by rw [hx]; exact x.property
            clear hx x
            have HWW := hide hW1
            clear hW1 m0 m1 m2 l1 l2
            go_wp2_with fail
            go_roundw
            case rel => exact ⟨i + 1, by simp, by omega, by rw [HE.out]; exact HSTR.out.below HWW.out⟩
            case measure => simp [intOf]; omega
          case pos =>
            have C54 := hide (C54.out i a HARC.out (by unfold SpanC.arcOK; simp [k1, k2, k3]))
            have z1 : (a.f == X.fr) = true := by simpa using k1
            have z2 : (a.t == X.to) = true := by simpa using k2
            have z3 : (a.m == ra) = true := by simpa using k3
            clear k1 k2 k3
            go_wp2_with fail
            refine wp_region_later (by kernel_rfl) (by kernel_rfl) ?_
            repeat (go_big_quiet_step (fail))
            refine wpQuiet_nil ?_
            rintro W1 ⟨x, hx⟩
            have hW1 : Below wr.heap.size wr W1 := by rw [hx]; exact x.property
            clear hx x
            have hst2 := HSTR.out.below hW1
            have q3 := cell_below hW1 HH3.out
            clear m0 m1 m2 l1 l2 hW1 c1 z1 z2 z3 HSTR HH3 HBEL
            have c1 := hst2.b28.cell 1
            have HST2 := hide hst2
            have HBC := hide hst2.bc
            have hbc := hst2.bc
            have hbr := hst2.br
            have hb28 := hst2.b28
            have a0 : ∀ w', Grew W1 w' → w'.cell? ⟨w.heap.size + 1 + 1 + 1 + 1 + 1, 0, none⟩ = some (I (cK i).v.c) := fun w' h => cell_below h (by have := hbc.cell 0; simpa using this)
            have a1 : ∀ w', Grew W1 w' → w'.cell? ⟨w.heap.size + 1 + 1 + 1 + 1 + 1, 1, none⟩ = some (I (cK i).v.s) := fun w' h => cell_below h (by have := hbc.cell 1; simpa using this)
            have a2 : ∀ w', Grew W1 w' → w'.cell? ⟨w.heap.size + 1 + 1 + 1 + 1 + 1, 2, none⟩ = some (I (cK i).r) := fun w' h => cell_below h (by have := hbc.cell 2; simpa using this)
            have a3 : ∀ w', Grew W1 w' → w'.cell? ⟨w.heap.size + 1 + 1 + 1 + 1 + 1, 3, none⟩ = some (I (cK i).a) := fun w' h => cell_below h (by have := hbc.cell 3; simpa using this)
            have a4 : ∀ w', Grew W1 w' → w'.cell? ⟨w.heap.size + 1 + 1 + 1 + 1, 4, none⟩ = some (I rp) := fun w' h => cell_below h (by have := hbr.cell 4; simpa using this)
            have a5 : ∀ w', Grew W1 w' → w'.cell? ⟨w.heap.size + 1, 1, none⟩ = some (.slice (some ⟨zb, zo, none⟩) X.L.arcs.length ac) := fun w' h => cell_below h (by have := hb28.cell 1; rw [HAA.out] at this; simpa using this)
            have a6 : ∀ w', Grew W1 w' → w'.cell? ⟨zb, zo + i * 5 + 3, none⟩ = some (I a.c) := fun w' h => cell_below h q3
            have hS0 : Grew W1 W1.drew := Below.drew (Below.refl _ _)
            clear hst2 hbc hbr hb28 q3 c1
            go_wp2_with fail
            refine wp_region_E (fun w' => Grew W1 w') 14 (by kernel_rfl) ?_
            refine wpAnyE_take (i := 0) (v := ?vv14) rfl (by kernel_rfl) (fun _ _ _ h => h) (Or.inl ⟨by rfl, ?hy14⟩) hS0 ?re14
            case hy14 =>
              intro w' hSw
              go_simp
              try with_reducible rfl
            try simp only [Act.put, List.setIfInBounds_toArray, List.set_cons_zero, List.set_cons_succ]
            refine wpAnyE_take (i := 1) (v := ?vv15) rfl (by kernel_rfl) (fun _ _ _ h => h) (Or.inl ⟨by rfl, ?hy15⟩) hS0 ?re15
            case hy15 =>
              intro w' hSw
              go_simp
              try with_reducible rfl
            try simp only [Act.put, List.setIfInBounds_toArray, List.set_cons_zero, List.set_cons_succ]
            refine wpAnyE_take (i := 2) (v := ?vv16) rfl (by kernel_rfl) (fun _ _ _ h => h) (Or.inl ⟨by rfl, ?hy16⟩) hS0 ?re16
            case hy16 =>
              intro w' hSw
              go_simp
              try with_reducible rfl
            try simp only [Act.put, List.setIfInBounds_toArray, List.set_cons_zero, List.set_cons_succ]
            refine wpAnyE_take (i := 3) (v := ?vv17) rfl (by kernel_rfl) (fun _ _ _ h => h) (Or.inl ⟨by rfl, ?hy17⟩) hS0 ?re17
            case hy17 =>
              intro w' hSw
              go_simp
              try with_reducible rfl
            try simp only [Act.put, List.setIfInBounds_toArray, List.set_cons_zero, List.set_cons_succ]
            refine wpAnyE_take (i := 4) (v := ?vv18) rfl (by kernel_rfl) (fun _ _ _ h => h) (Or.inl ⟨by rfl, ?hy18⟩) hS0 ?re18
            case hy18 =>
              intro w' hSw
              go_simp
              try with_reducible rfl
            try simp only [Act.put, List.setIfInBounds_toArray, List.set_cons_zero, List.set_cons_succ]
            refine wpAnyE_take (i := 5) (v := ?vv19) rfl (by kernel_rfl) (fun _ _ _ h => h) (Or.inl ⟨by rfl, ?hy19⟩) hS0 ?re19
            case hy19 =>
              intro w' hSw
              go_simp
              try with_reducible rfl
            try simp only [Act.put, List.setIfInBounds_toArray, List.set_cons_zero, List.set_cons_succ]
            refine wpAnyE_take (i := 6) (v := ?vv20) rfl (by kernel_rfl) (fun _ _ _ h => h) (Or.inl ⟨by rfl, ?hy20⟩) hS0 ?re20
            case hy20 =>
              intro w' hSw
              go_simp
              try with_reducible rfl
            try simp only [Act.put, List.setIfInBounds_toArray, List.set_cons_zero, List.set_cons_succ]
            refine wpAnyE_take (i := 7) (v := ?vv21) rfl (by kernel_rfl) (fun _ _ _ h => h) (Or.inl ⟨by rfl, ?hy21⟩) hS0 ?re21
            case hy21 =>
              intro w' hSw
              go_simp
              try with_reducible rfl
            try simp only [Act.put, List.setIfInBounds_toArray, List.set_cons_zero, List.set_cons_succ]
            refine wpAnyE_take (i := 8) (v := ?vv22) rfl (by kernel_rfl) (fun _ _ _ h => h) (Or.inl ⟨by rfl, ?hy22⟩) hS0 ?re22
            case hy22 =>
              intro w' hSw
              go_simp
              try with_reducible rfl
            try simp only [Act.put, List.setIfInBounds_toArray, List.set_cons_zero, List.set_cons_succ]
            refine wpAnyE_take (i := 9) (v := ?vv23) rfl (by kernel_rfl) (fun _ _ _ h => h) (Or.inl ⟨by rfl, ?hy23⟩) hS0 ?re23
            case hy23 =>
              intro w' hSw
              go_simp
              try with_reducible rfl
            try simp only [Act.put, List.setIfInBounds_toArray, List.set_cons_zero, List.set_cons_succ]
            refine wpAnyE_take (i := 11) (v := ?vv24) rfl (by kernel_rfl) (fun _ _ _ h => h) (Or.inl ⟨by rfl, ?hy24⟩) hS0 ?re24
            case hy24 =>
              intro w' hSw
              go_simp
              try with_reducible rfl
            try simp only [Act.put, List.setIfInBounds_toArray, List.set_cons_zero, List.set_cons_succ]
            refine wpAnyE_take (i := 12) (v := ?vv25) rfl (by kernel_rfl) (fun _ _ _ h => h) (Or.inl ⟨by rfl, ?hy25⟩) hS0 ?re25
            case hy25 =>
              intro w' hSw
              go_simp
              try with_reducible rfl
            try simp only [Act.put, List.setIfInBounds_toArray, List.set_cons_zero, List.set_cons_succ]
            refine wpAnyE_one (i := 10) rfl (by kernel_rfl) (fun K hK => ?_)
            go_simp
            (go_at_call 25; refine (C25.out _).mono ?_; rintro e w2 ⟨rfl, hw2⟩; have HW2 := hide (show Grew W1 w2 from Below.trans hS0 (hw2.mono (Below.size hS0))); clear hw2)
            refine hK.out _ _ (fun _ => HW2.out) ?_
            clear hK K
            try simp only [Act.put, List.setIfInBounds_toArray, List.set_cons_zero, List.set_cons_succ]
            refine wpAnyE_one (i := 13) rfl (by kernel_rfl) (fun K hK => ?_)
            go_simp
            (go_at_call 54; refine (C54.out _).mono ?_; rintro e w3 ⟨rfl, hw3⟩; have HW3 := hide (show Grew W1 w3 from Below.trans HW2.out (hw3.mono (Below.size HW2.out))); clear hw3)
            refine hK.out _ _ (fun _ => HW3.out) ?_
            clear hK K
            try simp only [Act.put, List.setIfInBounds_toArray, List.set_cons_zero, List.set_cons_succ]
            have hq_ := HBC.out.below HW3.out HBC.out.lt
            have vc0 := hq_.cell 0
            have vf0 := hq_.frozen 0
            have vc1 := hq_.cell 1
            have vf1 := hq_.frozen 1
            have vc2 := hq_.cell 2
            have vf2 := hq_.frozen 2
            have vc3 := hq_.cell 3
            have vf3 := hq_.frozen 3
            simp at vc0 vc1 vc2 vc3
            clear hq_
            clear a0 a1 a2 a3 a4 a5 a6 hS0
            refine wpAnyE_one (i := 14) rfl (by kernel_rfl) (fun K hK => ?_)
            go_simp
            refine hK.out _ _ (fun h => absurd rfl h) ?_
            clear hK K
            try simp only [Act.put, List.setIfInBounds_toArray, List.set_cons_zero, List.set_cons_succ]
            refine wpAnyE_done (by kernel_rfl) ?_
            clear vc0 vc1 vc2 vc3 vf0 vf1 vf2 vf3
            go_wp2_with fail
            go_roundw
            case rel => exact ⟨i + 1, by simp, by omega, (HST2.out.below HW3.out).put (cK (i + 1))⟩
            case measure => simp [intOf]; omega
    · obtain rfl : i = X.L.arcs.length := by omega
      have hq_ := hst.bc
      have vc0 := hq_.cell 0
      have vc1 := hq_.cell 1
      have vc2 := hq_.cell 2
      have vc3 := hq_.cell 3
      simp at vc0 vc1 vc2 vc3
      clear hq_
      have hq_ := hst.bres
      have zc0 := hq_.cell 0
      have zf0 := hq_.frozen 0
      have zc1 := hq_.cell 1
      have zf1 := hq_.frozen 1
      have zc2 := hq_.cell 2
      have zf2 := hq_.frozen 2
      have zc3 := hq_.cell 3
      have zf3 := hq_.frozen 3
      simp at zc0 zc1 zc2 zc3
      clear hq_
      clear hst
      have hd : decide (X.L.arcs.length < X.L.arcs.length) = false := by simp
      go_wp2
      have hbel := HBEL.out
      refine bodyPost_ret (v := CelA (cK X.L.arcs.length)) (by simp [results, Tryd.results42, go_sem, zc0, zc1, zc2, zc3, zf0, zf1, zf2, zf3]) rfl ⟨by rw [HI.out], ?_⟩
      exact (Below.setCell (Below.setCell (Below.setCell (Below.setCell hbel (by first | (simp; done) | (simp; omega)) _) (by first | (simp; done) | (simp; omega)) _) (by first | (simp; done) | (simp; omega)) _) (by first | (simp; done) | (simp; omega)) _)
end Go.Proofs.YtnifpeamgoapmaaDoor
