/- The reference: improve, kind 3. -/
import Derived.Test.YtnifpeamgoapmaaDoorRe
import Derived.Test.YtnifpeamgoapmaaDoorWh
import Derived.Deep.Cut
set_option linter.unusedVariables false
set_option linter.unusedSimpArgs false
namespace Go.Proofs.YtnifpeamgoapmaaDoor
open Go Go.RowKit

theorem rval_nf {X : SpanC} {own : List Cel} {w : World} {RA AA CA O : Option Addr} (B : Bds X) (hA : ImpArgs w X own RA AA CA O) {x : Item} (hx : X.own x = true → 0 ≤ x.h ∧ x.h < X.G.nN) : VNF (X.val (vals own) x) := by
  cases ho : X.own x with
  | true => rw [val_own ho]; exact vof_nf (by unfold vals; rw [List.length_map]; exact hA.len) hA.nf (hx ho).1 (hx ho).2
  | false => rw [val_tab ho]; exact tab_nf B x
set_option maxRecDepth 100000 in
set_option maxHeartbeats 8000000 in
theorem imp3 (X : SpanC) (own : List Cel) (k : Nat) (r : NRule) (RA AA FA CA O : Option Addr) (rc ac fc cc oc : Nat) (w : World) (B : Bds X) (hr : X.G.rules[k]? = some r) (hk : r.k = 3) (hA : ImpArgs w X own RA AA CA O) :
    Calls Tryd.prog 42 #[GramA X.G RA rc, LatA X.L AA ac FA fc, ChartA X.C.cN X.C.cS CA X.C.cells.length cc, .slice O own.length oc, I X.fr, I X.to, I (k : Int)] w fun e w' => e = .returned (CelA (X.improve own k r)) ∧ Below w.heap.size w w' := by
  have hrk := B.rules r (List.mem_of_getElem? hr)
  have hkl := (List.getElem?_eq_some_iff.1 hr).1
  obtain ⟨h, hh⟩ := Int.eq_ofNat_of_zero_le hrk.h0
  have hhl : h < own.length := by rw [hA.len]; have := hrk.h1; unfold SpanC.N; omega
  obtain ⟨c0, hc0⟩ : ∃ c, own[h]? = some c := ⟨_, List.getElem?_eq_getElem hhl⟩
  have HI := hide (show X.improve own k r = (X.insts r).foldl (fun c i => better c (X.cmb (vals own) i) (k : Int) i.a) c0 by unfold SpanC.improve; rw [hh, Int.toNat_natCast, List.getD, hc0]; rfl)
  have hb4 : ∀ o1 o2 o3 o4, Below w.heap.size w ((((w.alloc o1).alloc o2).alloc o3).alloc o4) := fun o1 o2 o3 o4 => ((((Below.refl _ _).alloc (Nat.le_refl _) _).alloc (by simp) _).alloc (by simp; omega) _).alloc (by simp; omega) _
  obtain ⟨b, off, rfl, r0, r1, r2, r3, r4, r5⟩ := hA.rules.rule k hr
  obtain ⟨ob, oo, rfl, c1, c2, c3, c4⟩ := hA.own_.cel h hc0
  have x0 := fun o1 o2 o3 o4 => cell_below (hb4 o1 o2 o3 o4) r0
  have x1 := fun o1 o2 o3 o4 => cell_below (hb4 o1 o2 o3 o4) r1
  have x2 := fun o1 o2 o3 o4 => cell_below (hb4 o1 o2 o3 o4) r2
  have x3 := fun o1 o2 o3 o4 => cell_below (hb4 o1 o2 o3 o4) r3
  have x4 := fun o1 o2 o3 o4 => cell_below (hb4 o1 o2 o3 o4) r4
  have x5 := fun o1 o2 o3 o4 => cell_below (hb4 o1 o2 o3 o4) r5
  have y1 := fun o1 o2 o3 o4 o5 => cell_below (below5_ w o1 o2 o3 o4 o5) c1
  have y2 := fun o1 o2 o3 o4 o5 => cell_below (below5_ w o1 o2 o3 o4 o5) c2
  have y3 := fun o1 o2 o3 o4 o5 => cell_below (below5_ w o1 o2 o3 o4 o5) c3
  have y4 := fun o1 o2 o3 o4 o5 => cell_below (below5_ w o1 o2 o3 o4 o5) c4
  have HST := hide (ImpW.start X own r (some ⟨b, off, none⟩) AA FA CA rc ac fc cc w c0)

  obtain ⟨v, hv⟩ : ∃ v, v = X.val (vals own) ⟨r.a, X.fr, X.to⟩ := ⟨_, rfl⟩
  obtain ⟨cv, hcv⟩ : ∃ cv, cv = comb r.p [v] := ⟨_, rfl⟩
  obtain ⟨cr, hc1⟩ : ∃ cr, cr = better c0 cv (k : Int) X.fr := ⟨_, rfl⟩
  have HI := hide (show X.improve own k r = cr by rw [HI.out, hc1, hcv, hv]; unfold SpanC.insts; rw [if_neg (by omega), if_neg (by omega), if_pos hk]; rfl)
  have hun := hrk.un (.inl hk)
  have hvn : VNF v := by rw [hv]; exact rval_nf B hA (fun _ => hun)
  have C55 := hide (fun W (hb : Below w.heap.size w W) => by
    have := rvalue_any X own ⟨r.a, X.fr, X.to⟩ CA (some ⟨ob, oo, none⟩) cc oc W B (hA.cells.below hb) (hA.own_.below hb) hA.len (fun _ => hun)
    rw [← hv] at this
    exact (show Calls Tryd.prog 55 #[.agg #[I X.C.cN, I X.C.cS, .slice CA X.C.cells.length cc], .slice (some ⟨ob, oo, none⟩) own.length oc, I X.fr, I X.to, .agg #[I r.a, I X.fr, I X.to]] W (fun e w' => e = .returned (.agg #[I v.c, I v.s]) ∧ Below W.heap.size W w') from this))
  have C25 := hide (fun W1 => by
    have := rcombine_any r.p [v] (some ⟨W1.heap.size, 0, none⟩) 1 ((W1.alloc (.cells #[I v.c, I v.s] 45)).drew) hrk.p0 (by have := hrk.p1; omega) (by intro u hu; simp only [List.mem_singleton] at hu; rw [hu]; exact hvn.1) (by simp) (Rd.of_blk (c := 0) (Blk.new W1 45 #[I v.c, I v.s]).drew rfl)
    rw [← hcv] at this
    exact (show Calls Tryd.prog 25 #[.int .i64 r.p, .slice (some ⟨W1.heap.size, 0, none⟩) 1 1] ((W1.alloc (.cells #[I v.c, I v.s] 45)).drew) (fun e w' => e = .returned (.agg #[I cv.c, I cv.s]) ∧ Below W1.heap.size W1 w') from this.mono (fun e w' ⟨h1, h2⟩ => ⟨h1, (((Below.refl _ _).alloc (Nat.le_refl _) _).drew).trans (h2.mono (by simp))⟩)))
  have C54 := hide (fun W => by
    have := better_any c0 cv (k : Int) X.fr W
    rw [← hc1] at this
    exact (show Calls Tryd.prog 54 #[.agg #[I c0.v.c, I c0.v.s, I c0.r, I c0.a], .agg #[I cv.c, I cv.s], I (k : Int), I X.fr] W (fun e w' => e = .returned (.agg #[I cr.v.c, I cr.v.s, I cr.r, I cr.a]) ∧ Below W.heap.size W w') from this))
  have hkb1 : (r.k == 1) = false := by simp [hk]
  have hkb2 : (r.k == 2) = false := by simp [hk]
  have hkb3 : (r.k == 3) = true := by simp [hk]
  clear hcv hc1 hv hvn hun
  clear hA B hr hb4 r0 r1 r2 r3 r4 r5 c1 c2 c3 c4 hc0 hrk hk
  obtain ⟨rk, rh, ra, rb, rp, ro⟩ := r
  simp only at hh x0 x1 x2 x3 x4 x5
  subst hh
  simp only at hkb1 hkb2 hkb3
  have C25 := C25.out
  have C55 := C55.out
  simp only at C25 C55
  have C25 := hide C25
  have C55 := hide C55
  go_enter Tryd.func42, Tryd.ntmps42
  go_upto_region 20 with fail
  have hst := HST.out
  generalize ((((((w.alloc (Obj.cells #[I X.G.nT, I X.G.nN, I X.G.nS, .slice (some ⟨b, off, none⟩) X.G.rules.length rc] 24)).alloc (Obj.cells #[I X.L.st, .slice AA X.L.arcs.length ac, .slice FA X.L.fin.length fc] 28)).alloc (Obj.cells #[I X.C.cN, I X.C.cS, .slice CA X.C.cells.length cc] 34)).alloc (Obj.cells #[I 0, I 0, I 0, I 0] 47)).alloc (Obj.cells #[I rk, I (h : Int), I ra, I rb, I rp, I ro] 65)).alloc (Obj.cells #[I c0.v.c, I c0.v.s, I c0.r, I c0.a] 47)) = wr at hst ⊢
  have HSTR := hide hst
  have HBEL := hide hst.bel
  have t0 := hst.b34.cell 0
  have t1 := hst.b34.cell 1
  have t2 := hst.b34.cell 2
  have d2 := hst.br.cell 2
  simp at t0 t1 t2 d2
  clear hst x0 x1 x2 x3 x4 x5 y1 y2 y3 y4
  go_wp2_with (go_at_call 55; refine (C55.out _ HBEL.out).mono ?_; rintro e w1 ⟨rfl, hw1⟩; have HW1 := hide hw1; clear hw1)
  have hst2 := (HSTR.out.below HW1.out).below ((Below.refl _ _).alloc (Nat.le_refl _) (Obj.cells #[I v.c, I v.s] 45))
  have hbv := Blk.new w1 45 #[I v.c, I v.s]
  generalize w1.alloc (Obj.cells #[I v.c, I v.s] 45) = wq at hst2 hbv ⊢
  generalize w1.heap.size = q at hbv ⊢
  clear t0 t1 t2 d2 HSTR HW1 HBEL
  have HBC := hide hst2.bc
  have HBR := hide hst2.bres
  have HBEL := hide hst2.bel
  have hbc := hst2.bc
  have hbr := hst2.br
  have a0 : ∀ w', Grew wq w' → w'.cell? ⟨w.heap.size + 1 + 1 + 1 + 1 + 1, 0, none⟩ = some (I c0.v.c) := fun w' h => cell_below h (by have := hbc.cell 0; simpa using this)
  have a1 : ∀ w', Grew wq w' → w'.cell? ⟨w.heap.size + 1 + 1 + 1 + 1 + 1, 1, none⟩ = some (I c0.v.s) := fun w' h => cell_below h (by have := hbc.cell 1; simpa using this)
  have a2 : ∀ w', Grew wq w' → w'.cell? ⟨w.heap.size + 1 + 1 + 1 + 1 + 1, 2, none⟩ = some (I c0.r) := fun w' h => cell_below h (by have := hbc.cell 2; simpa using this)
  have a3 : ∀ w', Grew wq w' → w'.cell? ⟨w.heap.size + 1 + 1 + 1 + 1 + 1, 3, none⟩ = some (I c0.a) := fun w' h => cell_below h (by have := hbc.cell 3; simpa using this)
  have a4 : ∀ w', Grew wq w' → w'.cell? ⟨w.heap.size + 1 + 1 + 1 + 1, 4, none⟩ = some (I rp) := fun w' h => cell_below h (by have := hbr.cell 4; simpa using this)
  have a5 : ∀ w', Grew wq w' → w'.cell? ⟨q, 0, none⟩ = some (I v.c) := fun w' h => cell_below h (by have := hbv.cell 0; simpa using this)
  have a6 : ∀ w', Grew wq w' → w'.cell? ⟨q, 1, none⟩ = some (I v.s) := fun w' h => cell_below h (by have := hbv.cell 1; simpa using this)
  have hS0 : Grew wq wq.drew := Below.drew (Below.refl _ _)
  clear hst2 hbc hbr hbv
  refine wp_region_E (fun w' => Grew wq w') 9 (by kernel_rfl) ?_
  refine wpAnyE_take (i := 0) (v := ?vv1) rfl (by kernel_rfl) (fun _ _ _ h => h) (Or.inl ⟨by rfl, ?hy1⟩) hS0 ?re1
  case hy1 =>
    intro w' hSw
    go_simp
    try with_reducible rfl
  try simp only [Act.put, List.setIfInBounds_toArray, List.set_cons_zero, List.set_cons_succ]
  refine wpAnyE_take (i := 1) (v := ?vv2) rfl (by kernel_rfl) (fun _ _ _ h => h) (Or.inl ⟨by rfl, ?hy2⟩) hS0 ?re2
  case hy2 =>
    intro w' hSw
    go_simp
    try with_reducible rfl
  try simp only [Act.put, List.setIfInBounds_toArray, List.set_cons_zero, List.set_cons_succ]
  refine wpAnyE_take (i := 2) (v := ?vv3) rfl (by kernel_rfl) (fun _ _ _ h => h) (Or.inl ⟨by rfl, ?hy3⟩) hS0 ?re3
  case hy3 =>
    intro w' hSw
    go_simp
    try with_reducible rfl
  try simp only [Act.put, List.setIfInBounds_toArray, List.set_cons_zero, List.set_cons_succ]
  refine wpAnyE_take (i := 3) (v := ?vv4) rfl (by kernel_rfl) (fun _ _ _ h => h) (Or.inl ⟨by rfl, ?hy4⟩) hS0 ?re4
  case hy4 =>
    intro w' hSw
    go_simp
    try with_reducible rfl
  try simp only [Act.put, List.setIfInBounds_toArray, List.set_cons_zero, List.set_cons_succ]
  refine wpAnyE_take (i := 6) (v := ?vv5) rfl (by kernel_rfl) (fun _ _ _ h => h) (Or.inl ⟨by rfl, ?hy5⟩) hS0 ?re5
  case hy5 =>
    intro w' hSw
    go_simp
    try with_reducible rfl
  try simp only [Act.put, List.setIfInBounds_toArray, List.set_cons_zero, List.set_cons_succ]
  refine wpAnyE_take (i := 7) (v := ?vv6) rfl (by kernel_rfl) (fun _ _ _ h => h) (Or.inl ⟨by rfl, ?hy6⟩) hS0 ?re6
  case hy6 =>
    intro w' hSw
    go_simp
    try with_reducible rfl
  try simp only [Act.put, List.setIfInBounds_toArray, List.set_cons_zero, List.set_cons_succ]
  refine wpAnyE_one (i := 4) rfl (by kernel_rfl) (fun K hK => ?_)
  go_simp
  refine hK.out _ _ (fun _ => (Below.alloc (Below.refl _ _) (Nat.le_refl _) _).drew) ?_
  clear hK K
  try simp only [Act.put, List.setIfInBounds_toArray, List.set_cons_zero, List.set_cons_succ]
  refine wpAnyE_one (i := 5) rfl (by kernel_rfl) (fun K hK => ?_)
  go_simp
  (go_at_call 25; refine (C25.out _).mono ?_; rintro e w2 ⟨rfl, hw2⟩; have HW2 := hide (show Grew wq w2 from hw2); clear hw2)
  refine hK.out _ _ (fun _ => HW2.out) ?_
  clear hK K
  try simp only [Act.put, List.setIfInBounds_toArray, List.set_cons_zero, List.set_cons_succ]
  refine wpAnyE_one (i := 8) rfl (by kernel_rfl) (fun K hK => ?_)
  go_simp
  (go_at_call 54; refine (C54.out _).mono ?_; rintro e w3 ⟨rfl, hw3⟩; have HW3 := hide (show Grew wq w3 from Below.trans HW2.out (hw3.mono (Below.size HW2.out))); clear hw3)
  refine hK.out _ _ (fun _ => HW3.out) ?_
  clear hK K
  try simp only [Act.put, List.setIfInBounds_toArray, List.set_cons_zero, List.set_cons_succ]
  have hq_ := HBC.out.below HW3.out HBC.out.lt
  have vc0 := hq_.cell 0
  have vf0 := hq_.frozen 0
  have vc1 := hq_.cell 1
  have vf1 := hq_.frozen 1
  have vc2 := hq_.cell 2
  have vf2 := hq_.frozen 2
  have vc3 := hq_.cell 3
  have vf3 := hq_.frozen 3
  simp at vc0 vc1 vc2 vc3
  clear hq_
  have hq_ := HBR.out.below HW3.out HBR.out.lt
  have zc0 := hq_.cell 0
  have zf0 := hq_.frozen 0
  have zc1 := hq_.cell 1
  have zf1 := hq_.frozen 1
  have zc2 := hq_.cell 2
  have zf2 := hq_.frozen 2
  have zc3 := hq_.cell 3
  have zf3 := hq_.frozen 3
  simp at zc0 zc1 zc2 zc3
  clear hq_
  clear a0 a1 a2 a3 a4 a5 a6 hS0
  refine wpAnyE_one (i := 9) rfl (by kernel_rfl) (fun K hK => ?_)
  go_simp
  refine hK.out _ _ (fun h => absurd rfl h) ?_
  clear hK K
  try simp only [Act.put, List.setIfInBounds_toArray, List.set_cons_zero, List.set_cons_succ]
  refine wpAnyE_done (by kernel_rfl) ?_
  go_wp2
  have hbel := HBEL.out.trans (Below.mono HW3.out HBEL.out.size)
  refine bodyPost_ret (v := CelA cr) (by simp [results, Tryd.results42, go_sem, zc0, zc1, zc2, zc3, zf0, zf1, zf2, zf3]) rfl ⟨by rw [HI.out], ?_⟩
  exact (Below.setCell (Below.setCell (Below.setCell (Below.setCell (Below.setCell (Below.setCell (Below.setCell (Below.setCell hbel (by first | (simp; done) | (simp; omega)) _) (by first | (simp; done) | (simp; omega)) _) (by first | (simp; done) | (simp; omega)) _) (by first | (simp; done) | (simp; omega)) _) (by first | (simp; done) | (simp; omega)) _) (by first | (simp; done) | (simp; omega)) _) (by first | (simp; done) | (simp; omega)) _) (by first | (simp; done) | (simp; omega)) _)
end Go.Proofs.YtnifpeamgoapmaaDoor
