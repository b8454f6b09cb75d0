/- The reference: improve, kind 4. -/
import Derived.Test.YtnifpeamgoapmaaDoorRg
import Derived.Test.YtnifpeamgoapmaaDoorWh
import Derived.Deep.Cut
set_option linter.unusedVariables false
set_option linter.unusedSimpArgs false
namespace Go.Proofs.YtnifpeamgoapmaaDoor
open Go Go.RowKit

set_option maxRecDepth 100000 in
set_option maxHeartbeats 8000000 in
theorem imp4 (X : SpanC) (own : List Cel) (k : Nat) (r : NRule) (RA AA FA CA O : Option Addr) (rc ac fc cc oc : Nat) (w : World) (B : Bds X) (hr : X.G.rules[k]? = some r) (hk : r.k = 4) (hA : ImpArgs w X own RA AA CA O) :
    Calls Tryd.prog 42 #[GramA X.G RA rc, LatA X.L AA ac FA fc, ChartA X.C.cN X.C.cS CA X.C.cells.length cc, .slice O own.length oc, I X.fr, I X.to, I (k : Int)] w fun e w' => e = .returned (CelA (X.improve own k r)) ∧ Below w.heap.size w w' := by
  have hrk := B.rules r (List.mem_of_getElem? hr)
  have hkl := (List.getElem?_eq_some_iff.1 hr).1
  obtain ⟨h, hh⟩ := Int.eq_ofNat_of_zero_le hrk.h0
  have hhl : h < own.length := by rw [hA.len]; have := hrk.h1; unfold SpanC.N; omega
  obtain ⟨c0, hc0⟩ : ∃ c, own[h]? = some c := ⟨_, List.getElem?_eq_getElem hhl⟩
  have HI := hide (show X.improve own k r = (X.insts r).foldl (fun c i => better c (X.cmb (vals own) i) (k : Int) i.a) c0 by unfold SpanC.improve; rw [hh, Int.toNat_natCast, List.getD, hc0]; rfl)
  have hb4 : ∀ o1 o2 o3 o4, Below w.heap.size w ((((w.alloc o1).alloc o2).alloc o3).alloc o4) := fun o1 o2 o3 o4 => ((((Below.refl _ _).alloc (Nat.le_refl _) _).alloc (by simp) _).alloc (by simp; omega) _).alloc (by simp; omega) _
  obtain ⟨b, off, rfl, r0, r1, r2, r3, r4, r5⟩ := hA.rules.rule k hr
  obtain ⟨ob, oo, rfl, c1, c2, c3, c4⟩ := hA.own_.cel h hc0
  have x0 := fun o1 o2 o3 o4 => cell_below (hb4 o1 o2 o3 o4) r0
  have x1 := fun o1 o2 o3 o4 => cell_below (hb4 o1 o2 o3 o4) r1
  have x2 := fun o1 o2 o3 o4 => cell_below (hb4 o1 o2 o3 o4) r2
  have x3 := fun o1 o2 o3 o4 => cell_below (hb4 o1 o2 o3 o4) r3
  have x4 := fun o1 o2 o3 o4 => cell_below (hb4 o1 o2 o3 o4) r4
  have x5 := fun o1 o2 o3 o4 => cell_below (hb4 o1 o2 o3 o4) r5
  have y1 := fun o1 o2 o3 o4 o5 => cell_below (below5_ w o1 o2 o3 o4 o5) c1
  have y2 := fun o1 o2 o3 o4 o5 => cell_below (below5_ w o1 o2 o3 o4 o5) c2
  have y3 := fun o1 o2 o3 o4 o5 => cell_below (below5_ w o1 o2 o3 o4 o5) c3
  have y4 := fun o1 o2 o3 o4 o5 => cell_below (below5_ w o1 o2 o3 o4 o5) c4
  have HST := hide (ImpW.start X own r (some ⟨b, off, none⟩) AA FA CA rc ac fc cc w c0)

  have hun := hrk.un (.inr hk)
  have hbi := hrk.bi hk
  obtain ⟨n, hn⟩ : ∃ n, n = (X.to - X.fr + 1).toNat := ⟨_, rfl⟩
  obtain ⟨vA, hvA⟩ : ∃ vA : Nat → Vl, vA = fun (d : Nat) => X.val (vals own) ⟨r.a, X.fr, X.fr + (d : Int)⟩ := ⟨_, rfl⟩
  obtain ⟨vB, hvB⟩ : ∃ vB : Nat → Vl, vB = fun (d : Nat) => X.val (vals own) ⟨r.b, X.fr + (d : Int), X.to⟩ := ⟨_, rfl⟩
  obtain ⟨cv, hcv⟩ : ∃ cv : Nat → Vl, cv = fun (d : Nat) => comb r.p [vA d, vB d] := ⟨_, rfl⟩
  obtain ⟨cK, hcK⟩ : ∃ cK : Nat → Cel, cK = fun (d : Nat) => ((X.insts r).take d).foldl (fun c i => better c (X.cmb (vals own) i) (k : Int) i.a) c0 := ⟨_, rfl⟩
  have H0 := hide (show cK 0 = c0 by rw [hcK]; rfl)
  have hst : ∀ d, d < n → cK (d + 1) = better (cK d) (cv d) (k : Int) (X.fr + (d : Int)) := fun d hd => by
    have h1 := foldl_take_succ (fun c i => better c (X.cmb (vals own) i) (k : Int) i.a) c0 (inst4_get X r hk d (by omega))
    rw [hcK]
    simp only at h1 ⊢
    rw [h1, hcv, hvA, hvB]
    rfl
  have HI := hide (show X.improve own k r = cK n by rw [HI.out, hcK]; simp only; rw [List.take_of_length_le (by rw [inst4_len X r hk]; omega)])
  have hAn : ∀ d, VNF (vA d) := fun d => by rw [hvA]; exact rval_nf B hA (fun _ => hun)
  have hBn : ∀ d, VNF (vB d) := fun d => by rw [hvB]; exact rval_nf B hA (fun _ => hbi)
  have CA55 := hide (fun (d : Nat) W (hb : Below w.heap.size w W) => by
    have := rvalue_any X own ⟨r.a, X.fr, X.fr + (d : Int)⟩ CA (some ⟨ob, oo, none⟩) cc oc W B (hA.cells.below hb) (hA.own_.below hb) hA.len (fun _ => hun)
    rw [show X.val (vals own) ⟨r.a, X.fr, X.fr + (d : Int)⟩ = vA d by rw [hvA]] at this
    exact (show Calls Tryd.prog 55 #[.agg #[I X.C.cN, I X.C.cS, .slice CA X.C.cells.length cc], .slice (some ⟨ob, oo, none⟩) own.length oc, I X.fr, I X.to, .agg #[I r.a, I X.fr, I (X.fr + (d : Int))]] W (fun e w' => e = .returned (.agg #[I (vA d).c, I (vA d).s]) ∧ Below W.heap.size W w') from this))
  have CB55 := hide (fun (d : Nat) W (hb : Below w.heap.size w W) => by
    have := rvalue_any X own ⟨r.b, X.fr + (d : Int), X.to⟩ CA (some ⟨ob, oo, none⟩) cc oc W B (hA.cells.below hb) (hA.own_.below hb) hA.len (fun _ => hbi)
    rw [show X.val (vals own) ⟨r.b, X.fr + (d : Int), X.to⟩ = vB d by rw [hvB]] at this
    exact (show Calls Tryd.prog 55 #[.agg #[I X.C.cN, I X.C.cS, .slice CA X.C.cells.length cc], .slice (some ⟨ob, oo, none⟩) own.length oc, I X.fr, I X.to, .agg #[I r.b, I (X.fr + (d : Int)), I X.to]] W (fun e w' => e = .returned (.agg #[I (vB d).c, I (vB d).s]) ∧ Below W.heap.size W w') from this))
  have C25 := hide (fun (d : Nat) W1 => by
    have := rcombine_any r.p [vA d, vB d] (some ⟨W1.heap.size, 0, none⟩) 2 ((W1.alloc (.cells #[I (vA d).c, I (vA d).s, I (vB d).c, I (vB d).s] 45)).drew) hrk.p0 (by have := hrk.p1; omega) (by intro u hu; simp only [List.mem_cons, List.not_mem_nil, or_false] at hu; rcases hu with rfl | rfl; exact (hAn d).1; exact (hBn d).1) (by simp) (Rd.of_blk (c := 0) (Blk.new W1 45 #[I (vA d).c, I (vA d).s, I (vB d).c, I (vB d).s]).drew rfl)
    rw [show comb r.p [vA d, vB d] = cv d by rw [hcv]] at this
    exact (show Calls Tryd.prog 25 #[.int .i64 r.p, .slice (some ⟨W1.heap.size, 0, none⟩) 2 2] ((W1.alloc (.cells #[I (vA d).c, I (vA d).s, I (vB d).c, I (vB d).s] 45)).drew) (fun e w' => e = .returned (.agg #[I (cv d).c, I (cv d).s]) ∧ Below W1.heap.size W1 w') from this.mono (fun e w' ⟨h1, h2⟩ => ⟨h1, (((Below.refl _ _).alloc (Nat.le_refl _) _).drew).trans (h2.mono (by simp))⟩)))
  have C54 := hide (fun (d : Nat) (hd : d < n) W => by
    have := better_any (cK d) (cv d) (k : Int) (X.fr + (d : Int)) W
    rw [← hst d hd] at this
    exact (show Calls Tryd.prog 54 #[.agg #[I (cK d).v.c, I (cK d).v.s, I (cK d).r, I (cK d).a], .agg #[I (cv d).c, I (cv d).s], I (k : Int), I (X.fr + (d : Int))] W (fun e w' => e = .returned (.agg #[I (cK (d + 1)).v.c, I (cK (d + 1)).v.s, I (cK (d + 1)).r, I (cK (d + 1)).a]) ∧ Below W.heap.size W w') from this))
  have hkb1 : (r.k == 1) = false := by simp [hk]
  have hkb2 : (r.k == 2) = false := by simp [hk]
  have hkb3 : (r.k == 3) = false := by simp [hk]
  have hb0 := B.f0
  have hb1 := B.t1
  have hft := B.ft
  have HN := hide hn
  clear hcv hvA hvB hcK hst hun hbi hAn hBn hn
  clear hA B hr hb4 r0 r1 r2 r3 r4 r5 c1 c2 c3 c4 hc0 hrk hk
  obtain ⟨rk, rh, ra, rb, rp, ro⟩ := r
  simp only at hh x0 x1 x2 x3 x4 x5
  subst hh
  simp only at hkb1 hkb2 hkb3
  have C25 := C25.out
  have CA55 := CA55.out
  have CB55 := CB55.out
  simp only at C25 CA55 CB55
  have C25 := hide C25
  have CA55 := hide CA55
  have CB55 := hide CB55
  go_enter Tryd.func42, Tryd.ntmps42
  go_wp2_with fail
  go_loopw [19] (fun s19 wr => ∃ d : Nat, s19 = .int .i64 (X.fr + (d : Int)) ∧ d ≤ n ∧ ImpW X own ⟨rk, (h : Int), ra, rb, rp, ro⟩ (some ⟨b, off, none⟩) AA FA CA rc ac fc cc w (cK d) wr) (fun s19 _ => (20 - intOf s19).toNat)
  case atStart => exact ⟨0, by simp, Nat.zero_le _, by rw [H0.out]; exact HST.out⟩
  case round =>
    clear x0 x1 x2 x3 x4 x5 y1 y2 y3 y4 HST H0
    obtain ⟨d, rfl, hd, hst⟩ := hrel
    have hdn : (d : Int) ≤ X.to - X.fr + 1 := by have := HN.out; omega
    have HSTR := hide hst
    have HBEL := hide hst.bel
    have hcs : X.fr + (d : Int) ≤ X.to ∨ X.to < X.fr + (d : Int) := by omega
    rcases hcs with hcs | hcs
    · have hdl : d < n := by have := HN.out; omega
      have t0 := hst.b34.cell 0
      have t1 := hst.b34.cell 1
      have t2 := hst.b34.cell 2
      have d2 := hst.br.cell 2
      simp at t0 t1 t2 d2
      clear hst
      go_wp2_with fail
      refine (CA55.out d _ HBEL.out).mono ?_
      rintro e w1 ⟨rfl, hw1⟩
      have hst1 := HSTR.out.below hw1
      clear t0 t1 t2 d2
      have t0 := hst1.b34.cell 0
      have t1 := hst1.b34.cell 1
      have t2 := hst1.b34.cell 2
      have d3 := hst1.br.cell 3
      simp at t0 t1 t2 d3
      have l1 := hst1.b34.lt
      have l2 := hst1.br.lt
      have HST1 := hide hst1
      clear hw1 hst1
      go_wp2_with fail
      refine (CB55.out d _ (Below.alloc HST1.out.bel HST1.out.bel.size _)).mono ?_
      rintro e w2 ⟨rfl, hw2⟩
      have hst2 := ((HST1.out.below ((Below.refl _ _).alloc (Nat.le_refl _) (Obj.cells #[I (vA d).c, I (vA d).s] 45))).below hw2).below ((Below.refl _ _).alloc (Nat.le_refl _) (Obj.cells #[I (vB d).c, I (vB d).s] 45))
      have hbv1 := ((Blk.new w1 45 #[I (vA d).c, I (vA d).s]).below hw2 (by simp)).alloc (Obj.cells #[I (vB d).c, I (vB d).s] 45)
      have hbv2 := Blk.new w2 45 #[I (vB d).c, I (vB d).s]
      clear t0 t1 t2 d3 hw2 l1 l2
      go_wp2_with fail
      generalize w2.alloc (Obj.cells #[I (vB d).c, I (vB d).s] 45) = wq at hst2 hbv1 hbv2 ⊢
      generalize w1.heap.size = q1 at hbv1 ⊢
      generalize w2.heap.size = q2 at hbv2 ⊢
      clear HSTR HST1 HBEL
      have HST2 := hide hst2
      have HBC := hide hst2.bc
      have hbc := hst2.bc
      have hbr := hst2.br
      have a0 : ∀ w', Grew wq w' → w'.cell? ⟨w.heap.size + 1 + 1 + 1 + 1 + 1, 0, none⟩ = some (I (cK d).v.c) := fun w' h => cell_below h (by have := hbc.cell 0; simpa using this)
      have a1 : ∀ w', Grew wq w' → w'.cell? ⟨w.heap.size + 1 + 1 + 1 + 1 + 1, 1, none⟩ = some (I (cK d).v.s) := fun w' h => cell_below h (by have := hbc.cell 1; simpa using this)
      have a2 : ∀ w', Grew wq w' → w'.cell? ⟨w.heap.size + 1 + 1 + 1 + 1 + 1, 2, none⟩ = some (I (cK d).r) := fun w' h => cell_below h (by have := hbc.cell 2; simpa using this)
      have a3 : ∀ w', Grew wq w' → w'.cell? ⟨w.heap.size + 1 + 1 + 1 + 1 + 1, 3, none⟩ = some (I (cK d).a) := fun w' h => cell_below h (by have := hbc.cell 3; simpa using this)
      have a4 : ∀ w', Grew wq w' → w'.cell? ⟨w.heap.size + 1 + 1 + 1 + 1, 4, none⟩ = some (I rp) := fun w' h => cell_below h (by have := hbr.cell 4; simpa using this)
      have a5 : ∀ w', Grew wq w' → w'.cell? ⟨q1, 0, none⟩ = some (I (vA d).c) := fun w' h => cell_below h (by have := hbv1.cell 0; simpa using this)
      have a6 : ∀ w', Grew wq w' → w'.cell? ⟨q1, 1, none⟩ = some (I (vA d).s) := fun w' h => cell_below h (by have := hbv1.cell 1; simpa using this)
      have a7 : ∀ w', Grew wq w' → w'.cell? ⟨q2, 0, none⟩ = some (I (vB d).c) := fun w' h => cell_below h (by have := hbv2.cell 0; simpa using this)
      have a8 : ∀ w', Grew wq w' → w'.cell? ⟨q2, 1, none⟩ = some (I (vB d).s) := fun w' h => cell_below h (by have := hbv2.cell 1; simpa using this)
      have hS0 : Grew wq wq.drew := Below.drew (Below.refl _ _)
      clear hst2 hbc hbr hbv1 hbv2
      refine wp_region_E (fun w' => Grew wq w') 10 (by kernel_rfl) ?_
      refine wpAnyE_take (i := 0) (v := ?vv7) rfl (by kernel_rfl) (fun _ _ _ h => h) (Or.inl ⟨by rfl, ?hy7⟩) hS0 ?re7
      case hy7 =>
        intro w' hSw
        go_simp
        try with_reducible rfl
      try simp only [Act.put, List.setIfInBounds_toArray, List.set_cons_zero, List.set_cons_succ]
      refine wpAnyE_take (i := 1) (v := ?vv8) rfl (by kernel_rfl) (fun _ _ _ h => h) (Or.inl ⟨by rfl, ?hy8⟩) hS0 ?re8
      case hy8 =>
        intro w' hSw
        go_simp
        try with_reducible rfl
      try simp only [Act.put, List.setIfInBounds_toArray, List.set_cons_zero, List.set_cons_succ]
      refine wpAnyE_take (i := 2) (v := ?vv9) rfl (by kernel_rfl) (fun _ _ _ h => h) (Or.inl ⟨by rfl, ?hy9⟩) hS0 ?re9
      case hy9 =>
        intro w' hSw
        go_simp
        try with_reducible rfl
      try simp only [Act.put, List.setIfInBounds_toArray, List.set_cons_zero, List.set_cons_succ]
      refine wpAnyE_take (i := 3) (v := ?vv10) rfl (by kernel_rfl) (fun _ _ _ h => h) (Or.inl ⟨by rfl, ?hy10⟩) hS0 ?re10
      case hy10 =>
        intro w' hSw
        go_simp
        try with_reducible rfl
      try simp only [Act.put, List.setIfInBounds_toArray, List.set_cons_zero, List.set_cons_succ]
      refine wpAnyE_take (i := 4) (v := ?vv11) rfl (by kernel_rfl) (fun _ _ _ h => h) (Or.inl ⟨by rfl, ?hy11⟩) hS0 ?re11
      case hy11 =>
        intro w' hSw
        go_simp
        try with_reducible rfl
      try simp only [Act.put, List.setIfInBounds_toArray, List.set_cons_zero, List.set_cons_succ]
      refine wpAnyE_take (i := 7) (v := ?vv12) rfl (by kernel_rfl) (fun _ _ _ h => h) (Or.inl ⟨by rfl, ?hy12⟩) hS0 ?re12
      case hy12 =>
        intro w' hSw
        go_simp
        try with_reducible rfl
      try simp only [Act.put, List.setIfInBounds_toArray, List.set_cons_zero, List.set_cons_succ]
      refine wpAnyE_take (i := 8) (v := ?vv13) rfl (by kernel_rfl) (fun _ _ _ h => h) (Or.inl ⟨by rfl, ?hy13⟩) hS0 ?re13
      case hy13 =>
        intro w' hSw
        go_simp
        try with_reducible rfl
      try simp only [Act.put, List.setIfInBounds_toArray, List.set_cons_zero, List.set_cons_succ]
      refine wpAnyE_one (i := 5) rfl (by kernel_rfl) (fun K hK => ?_)
      go_simp
      refine hK.out _ _ (fun _ => (Below.alloc (Below.refl _ _) (Nat.le_refl _) _).drew) ?_
      clear hK K
      try simp only [Act.put, List.setIfInBounds_toArray, List.set_cons_zero, List.set_cons_succ]
      refine wpAnyE_one (i := 6) rfl (by kernel_rfl) (fun K hK => ?_)
      go_simp
      (go_at_call 25; refine (C25.out d _).mono ?_; rintro e w2 ⟨rfl, hw2⟩; have HW2 := hide (show Grew wq w2 from hw2); clear hw2)
      refine hK.out _ _ (fun _ => HW2.out) ?_
      clear hK K
      try simp only [Act.put, List.setIfInBounds_toArray, List.set_cons_zero, List.set_cons_succ]
      refine wpAnyE_one (i := 9) rfl (by kernel_rfl) (fun K hK => ?_)
      go_simp
      (go_at_call 54; refine (C54.out d hdl _).mono ?_; rintro e w3 ⟨rfl, hw3⟩; have HW3 := hide (show Grew wq w3 from Below.trans HW2.out (hw3.mono (Below.size HW2.out))); clear hw3)
      refine hK.out _ _ (fun _ => HW3.out) ?_
      clear hK K
      try simp only [Act.put, List.setIfInBounds_toArray, List.set_cons_zero, List.set_cons_succ]
      have hq_ := HBC.out.below HW3.out HBC.out.lt
      have vc0 := hq_.cell 0
      have vf0 := hq_.frozen 0
      have vc1 := hq_.cell 1
      have vf1 := hq_.frozen 1
      have vc2 := hq_.cell 2
      have vf2 := hq_.frozen 2
      have vc3 := hq_.cell 3
      have vf3 := hq_.frozen 3
      simp at vc0 vc1 vc2 vc3
      clear hq_
      clear a0 a1 a2 a3 a4 a5 a6 a7 a8 hS0
      refine wpAnyE_one (i := 10) rfl (by kernel_rfl) (fun K hK => ?_)
      go_simp
      refine hK.out _ _ (fun h => absurd rfl h) ?_
      clear hK K
      try simp only [Act.put, List.setIfInBounds_toArray, List.set_cons_zero, List.set_cons_succ]
      refine wpAnyE_done (by kernel_rfl) ?_
      clear vc0 vc1 vc2 vc3 vf0 vf1 vf2 vf3
      go_wp2_with fail
      go_roundw
      case rel => exact ⟨d + 1, congrArg (Value.int .i64) (by omega), by omega, (HST2.out.below HW3.out).put (cK (d + 1))⟩
      case measure => simp [intOf]; omega
    · obtain rfl : d = n := by have := HN.out; omega
      have hq_ := hst.bc
      have vc0 := hq_.cell 0
      have vc1 := hq_.cell 1
      have vc2 := hq_.cell 2
      have vc3 := hq_.cell 3
      simp at vc0 vc1 vc2 vc3
      clear hq_
      have hq_ := hst.bres
      have zc0 := hq_.cell 0
      have zf0 := hq_.frozen 0
      have zc1 := hq_.cell 1
      have zf1 := hq_.frozen 1
      have zc2 := hq_.cell 2
      have zf2 := hq_.frozen 2
      have zc3 := hq_.cell 3
      have zf3 := hq_.frozen 3
      simp at zc0 zc1 zc2 zc3
      clear hq_
      clear hst
      go_wp2
      have hbel := HBEL.out
      refine bodyPost_ret (v := CelA (cK d)) (by simp [results, Tryd.results42, go_sem, zc0, zc1, zc2, zc3, zf0, zf1, zf2, zf3]) rfl ⟨by rw [HI.out], ?_⟩
      exact (Below.setCell (Below.setCell (Below.setCell (Below.setCell hbel (by first | (simp; done) | (simp; omega)) _) (by first | (simp; done) | (simp; omega)) _) (by first | (simp; done) | (simp; omega)) _) (by first | (simp; done) | (simp; omega)) _)
end Go.Proofs.YtnifpeamgoapmaaDoor
