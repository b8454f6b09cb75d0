/- The reference: improve. -/
import Derived.Test.YtnifpeamgoapmaaDoorRd
import Derived.Test.YtnifpeamgoapmaaDoorM12
set_option linter.unusedVariables false
set_option linter.unusedSimpArgs false
namespace Go.Proofs.YtnifpeamgoapmaaDoor
open Go Go.RowKit

/-- what improve reads -/
structure ImpArgs (w : World) (X : SpanC) (own : List Cel) (RA AA CA O : Option Addr) : Prop where
  rules : Rd w RA X.G.rules.length 6 (rcells X.G.rules)
  arcs : ArcsAt w AA X.L.arcs
  cells : Rd w CA X.C.cells.length 4 (ccells X.C.cells)
  own_ : Rd w O own.length 4 (ccells own)
  len : own.length = X.N
  nf : ∀ v ∈ vals own, VNF v
abbrev celA (c : Cel) : Array Value := #[I c.v.c, I c.v.s, I c.r, I c.a]
/-- improve under way -/
structure ImpW (X : SpanC) (own : List Cel) (r : NRule) (RA AA FA CA : Option Addr) (rc ac fc cc : Nat) (w : World) (c : Cel) (wr : World) : Prop where
  b24 : Blk wr w.heap.size 24 #[I X.G.nT, I X.G.nN, I X.G.nS, .slice RA X.G.rules.length rc]
  b28 : Blk wr (w.heap.size + 1) 28 #[I X.L.st, .slice AA X.L.arcs.length ac, .slice FA X.L.fin.length fc]
  b34 : Blk wr (w.heap.size + 1 + 1) 34 #[I X.C.cN, I X.C.cS, .slice CA X.C.cells.length cc]
  bres : Blk wr (w.heap.size + 1 + 1 + 1) 47 #[I 0, I 0, I 0, I 0]
  br : Blk wr (w.heap.size + 1 + 1 + 1 + 1) 65 (ruleC r)
  bc : Blk wr (w.heap.size + 1 + 1 + 1 + 1 + 1) 47 (celA c)
  bel : Below w.heap.size w wr
theorem Blk.ch5 (W : World) (o0 o1 o2 o3 o4 : Obj) (t : TypeId) (cs : Array Value) : Blk ((((((W.alloc o0).alloc o1).alloc o2).alloc o3).alloc o4).alloc (.cells cs t)) (W.heap.size + 1 + 1 + 1 + 1 + 1) t cs := by
  have := Blk.ch4 (W.alloc o0) o1 o2 o3 o4 t cs
  rw [World.size_alloc] at this
  exact this
theorem ImpW.start (X : SpanC) (own : List Cel) (r : NRule) (RA AA FA CA : Option Addr) (rc ac fc cc : Nat) (w : World) (c : Cel) :
    ImpW X own r RA AA FA CA rc ac fc cc w c ((((((w.alloc (Obj.cells #[I X.G.nT, I X.G.nN, I X.G.nS, .slice RA X.G.rules.length rc] 24)).alloc (Obj.cells #[I X.L.st, .slice AA X.L.arcs.length ac, .slice FA X.L.fin.length fc] 28)).alloc (Obj.cells #[I X.C.cN, I X.C.cS, .slice CA X.C.cells.length cc] 34)).alloc
      (Obj.cells #[I 0, I 0, I 0, I 0] 47)).alloc (Obj.cells (ruleC r) 65)).alloc (Obj.cells (celA c) 47)) :=
  ⟨(Blk.ch0 _ _ _ _ _ _ _).alloc _, (Blk.ch1 _ _ _ _ _ _ _).alloc _, (Blk.ch2 _ _ _ _ _ _ _).alloc _, (Blk.ch3 _ _ _ _ _ _ _).alloc _, (Blk.ch4 _ _ _ _ _ _ _).alloc _, Blk.ch5 _ _ _ _ _ _ _ _, (below5_ _ _ _ _ _ _).alloc (by simp; omega) _⟩
theorem ImpW.below {X : SpanC} {own : List Cel} {r : NRule} {RA AA FA CA : Option Addr} {rc ac fc cc : Nat} {w : World} {c : Cel} {wr w' : World} (h : ImpW X own r RA AA FA CA rc ac fc cc w c wr) (hb : Below wr.heap.size wr w') : ImpW X own r RA AA FA CA rc ac fc cc w c w' :=
  ⟨h.b24.below hb h.b24.lt, h.b28.below hb h.b28.lt, h.b34.below hb h.b34.lt, h.bres.below hb h.bres.lt, h.br.below hb h.br.lt, h.bc.below hb h.bc.lt, h.bel.trans (hb.mono h.bel.size)⟩
/-- the cell is stored -/
theorem ImpW.put {X : SpanC} {own : List Cel} {r : NRule} {RA AA FA CA : Option Addr} {rc ac fc cc : Nat} {w : World} {c : Cel} {wr : World} (h : ImpW X own r RA AA FA CA rc ac fc cc w c wr) (c' : Cel) :
    ImpW X own r RA AA FA CA rc ac fc cc w c' ((((wr.setCell ⟨w.heap.size + 1 + 1 + 1 + 1 + 1, 0, none⟩ (I c'.v.c)).setCell ⟨w.heap.size + 1 + 1 + 1 + 1 + 1, 1, none⟩ (I c'.v.s)).setCell ⟨w.heap.size + 1 + 1 + 1 + 1 + 1, 2, none⟩ (I c'.r)).setCell ⟨w.heap.size + 1 + 1 + 1 + 1 + 1, 3, none⟩ (I c'.a)) := by
  have far : ∀ {g t cs}, Blk wr g t cs → g ≠ w.heap.size + 1 + 1 + 1 + 1 + 1 → Blk ((((wr.setCell ⟨w.heap.size + 1 + 1 + 1 + 1 + 1, 0, none⟩ (I c'.v.c)).setCell ⟨w.heap.size + 1 + 1 + 1 + 1 + 1, 1, none⟩ (I c'.v.s)).setCell ⟨w.heap.size + 1 + 1 + 1 + 1 + 1, 2, none⟩ (I c'.r)).setCell ⟨w.heap.size + 1 + 1 + 1 + 1 + 1, 3, none⟩ (I c'.a)) g t cs :=
    fun hg hne => (((hg.far (p := ⟨w.heap.size + 1 + 1 + 1 + 1 + 1, 0, none⟩) hne _).far (p := ⟨w.heap.size + 1 + 1 + 1 + 1 + 1, 1, none⟩) hne _).far (p := ⟨w.heap.size + 1 + 1 + 1 + 1 + 1, 2, none⟩) hne _).far (p := ⟨w.heap.size + 1 + 1 + 1 + 1 + 1, 3, none⟩) hne _
  refine ⟨far h.b24 (by omega), far h.b28 (by omega), far h.b34 (by omega), far h.bres (by omega), far h.br (by omega), ?_, ?_⟩
  · exact ((((h.bc.set_ 0 _).set_ 1 _).set_ 2 _).set_ 3 _).eq_ (by simp)
  · exact (((h.bel.setCell (p := ⟨w.heap.size + 1 + 1 + 1 + 1 + 1, 0, none⟩) (by show w.heap.size ≤ w.heap.size + 1 + 1 + 1 + 1 + 1; omega) _).setCell (p := ⟨w.heap.size + 1 + 1 + 1 + 1 + 1, 1, none⟩) (by show w.heap.size ≤ w.heap.size + 1 + 1 + 1 + 1 + 1; omega) _).setCell (p := ⟨w.heap.size + 1 + 1 + 1 + 1 + 1, 2, none⟩) (by show w.heap.size ≤ w.heap.size + 1 + 1 + 1 + 1 + 1; omega) _).setCell (p := ⟨w.heap.size + 1 + 1 + 1 + 1 + 1, 3, none⟩) (by show w.heap.size ≤ w.heap.size + 1 + 1 + 1 + 1 + 1; omega) _
set_option maxRecDepth 100000 in
set_option maxHeartbeats 8000000 in
theorem imp1 (X : SpanC) (own : List Cel) (k : Nat) (r : NRule) (RA AA FA CA O : Option Addr) (rc ac fc cc oc : Nat) (w : World) (B : Bds X) (hr : X.G.rules[k]? = some r) (hk : r.k = 1) (hA : ImpArgs w X own RA AA CA O) :
    Calls Tryd.prog 42 #[GramA X.G RA rc, LatA X.L AA ac FA fc, ChartA X.C.cN X.C.cS CA X.C.cells.length cc, .slice O own.length oc, I X.fr, I X.to, I (k : Int)] w fun e w' => e = .returned (CelA (X.improve own k r)) ∧ Below w.heap.size w w' := by
  have hrk := B.rules r (List.mem_of_getElem? hr)
  have hrm := List.mem_of_getElem? hr
  have hkl := (List.getElem?_eq_some_iff.1 hr).1
  obtain ⟨h, hh⟩ := Int.eq_ofNat_of_zero_le hrk.h0
  have hhl : h < own.length := by rw [hA.len]; have := hrk.h1; unfold SpanC.N; omega
  obtain ⟨c0, hc0⟩ : ∃ c, own[h]? = some c := ⟨_, List.getElem?_eq_getElem hhl⟩
  have HI := hide (show X.improve own k r = (X.insts r).foldl (fun c i => better c (X.cmb (vals own) i) (k : Int) i.a) c0 by unfold SpanC.improve; rw [hh, Int.toNat_natCast, List.getD, hc0]; rfl)
  have hb4 : ∀ o1 o2 o3 o4, Below w.heap.size w ((((w.alloc o1).alloc o2).alloc o3).alloc o4) := fun o1 o2 o3 o4 => ((((Below.refl _ _).alloc (Nat.le_refl _) _).alloc (by simp) _).alloc (by simp; omega) _).alloc (by simp; omega) _
  have HB6 := hide (show ∀ o1 o2 o3 o4 o5 o6, Below w.heap.size w ((((((w.alloc o1).alloc o2).alloc o3).alloc o4).alloc o5).alloc o6) from fun o1 o2 o3 o4 o5 o6 => (below5_ _ _ _ _ _ _).alloc (by simp; omega) _)
  obtain ⟨b, off, rfl, r0, r1, r2, r3, r4, r5⟩ := hA.rules.rule k hr
  obtain ⟨ob, oo, rfl, c1, c2, c3, c4⟩ := hA.own_.cel h hc0
  have x0 := fun o1 o2 o3 o4 => cell_below (hb4 o1 o2 o3 o4) r0
  have x1 := fun o1 o2 o3 o4 => cell_below (hb4 o1 o2 o3 o4) r1
  have x2 := fun o1 o2 o3 o4 => cell_below (hb4 o1 o2 o3 o4) r2
  have x3 := fun o1 o2 o3 o4 => cell_below (hb4 o1 o2 o3 o4) r3
  have x4 := fun o1 o2 o3 o4 => cell_below (hb4 o1 o2 o3 o4) r4
  have x5 := fun o1 o2 o3 o4 => cell_below (hb4 o1 o2 o3 o4) r5
  have y1 := fun o1 o2 o3 o4 o5 => cell_below (below5_ w o1 o2 o3 o4 o5) c1
  have y2 := fun o1 o2 o3 o4 o5 => cell_below (below5_ w o1 o2 o3 o4 o5) c2
  have y3 := fun o1 o2 o3 o4 o5 => cell_below (below5_ w o1 o2 o3 o4 o5) c3
  have y4 := fun o1 o2 o3 o4 o5 => cell_below (below5_ w o1 o2 o3 o4 o5) c4
  have HST := hide (ImpW.start X own r (some ⟨b, off, none⟩) AA FA CA rc ac fc cc w c0)
  have hkb : (r.k == 1) = true := by simp [hk]
  have HA := hide hA
  have HB := hide B
  have HRK := hide hrk
  have HRM := hide hrm
  have hcs : X.fr ≠ X.to ∨ X.fr = X.to := by omega
  rcases hcs with hcs | hcs
  · have HI := hide (show X.improve own k r = c0 by rw [HI.out]; unfold SpanC.insts; rw [if_pos hk, if_neg hcs]; rfl)
    have hcb : (X.fr == X.to) = false := by simpa using hcs
    clear hA B hr hb4 r0 r1 r2 r3 r4 r5 c1 c2 c3 c4 hc0 hrk hrm hk
    obtain ⟨rk, rh, ra, rb, rp, ro⟩ := r
    simp only at hh x0 x1 x2 x3 x4 x5
    subst hh
    simp only at hkb
    clear hcs
    go_enter Tryd.func42, Tryd.ntmps42
    go_wp2
    exact bodyPost_ret (v := CelA c0) (by simp [results, Tryd.results42, go_sem]) rfl ⟨by rw [HI.out], HB6.out _ _ _ _ _ _⟩
  · obtain ⟨cv, hcv⟩ : ∃ cv, cv = comb r.p [] := ⟨_, rfl⟩
    obtain ⟨cr, hc1⟩ : ∃ cr, cr = better c0 cv (k : Int) X.fr := ⟨_, rfl⟩
    have HI := hide (show X.improve own k r = cr by rw [HI.out, hc1, hcv]; unfold SpanC.insts; rw [if_pos hk, if_pos hcs]; rfl)
    have hcb : (X.fr == X.to) = true := by simpa using hcs
    have C25 := hide (fun W => by
      have := rcombine_any r.p [] none 0 W hrk.p0 (by have := hrk.p1; omega) (by simp) (by simp) ⟨rfl, fun h => by simp at h⟩
      rw [← hcv] at this
      exact (show Calls Tryd.prog 25 #[.int .i64 r.p, .slice none 0 0] W (fun e w' => e = .returned (.agg #[I cv.c, I cv.s]) ∧ Below W.heap.size W w') from this))
    have C54 := hide (fun W => by
      have := better_any c0 cv (k : Int) X.fr W
      rw [← hc1] at this
      exact (show Calls Tryd.prog 54 #[.agg #[I c0.v.c, I c0.v.s, I c0.r, I c0.a], .agg #[I cv.c, I cv.s], I (k : Int), I X.fr] W (fun e w' => e = .returned (.agg #[I cr.v.c, I cr.v.s, I cr.r, I cr.a]) ∧ Below W.heap.size W w') from this))
    clear hcv hc1
    clear hA B hr hb4 r0 r1 r2 r3 r4 r5 c1 c2 c3 c4 hc0 hrk hrm hk
    obtain ⟨rk, rh, ra, rb, rp, ro⟩ := r
    simp only at hh x0 x1 x2 x3 x4 x5
    subst hh
    simp only at hkb
    have C25 := C25.out
    simp only at C25
    have C25 := hide C25
    clear hcs
    go_enter Tryd.func42, Tryd.ntmps42
    go_wp2_with fail
    have hst := HST.out
    generalize ((((((w.alloc (Obj.cells #[I X.G.nT, I X.G.nN, I X.G.nS, .slice (some ⟨b, off, none⟩) X.G.rules.length rc] 24)).alloc (Obj.cells #[I X.L.st, .slice AA X.L.arcs.length ac, .slice FA X.L.fin.length fc] 28)).alloc (Obj.cells #[I X.C.cN, I X.C.cS, .slice CA X.C.cells.length cc] 34)).alloc (Obj.cells #[I 0, I 0, I 0, I 0] 47)).alloc (Obj.cells #[I rk, I (h : Int), I ra, I rb, I rp, I ro] 65)).alloc (Obj.cells #[I c0.v.c, I c0.v.s, I c0.r, I c0.a] 47)) = wr at hst ⊢
    have HC := hide hst.bc
    have HR := hide hst.bres
    have HBEL := hide hst.bel
    have ng : w.heap.size + 1 + 1 + 1 + 1 ≠ w.heap.size + 1 + 1 + 1 + 1 + 1 := by omega
    have hbr := hst.br
    have dp := hbr.cell 4
    simp at dp
    have q0 := hst.bc.cell 0
    have q1 := hst.bc.cell 1
    have q2 := hst.bc.cell 2
    have q3 := hst.bc.cell 3
    simp at q0 q1 q2 q3
    clear hst hbr x0 x1 x2 x3 x4 x5 y1 y2 y3 y4
    go_region_with (first | (go_at_call 25; refine (C25.out _).mono ?_; rintro e w1 ⟨rfl, hw1⟩; have HW1 := hide (show Below wr.heap.size wr w1 from (by first | exact hw1 | exact ((Below.refl _ _).drew).trans hw1)); have hk1 : Kp (fun i => i = w.heap.size + 1 + 1 + 1 + 1 + 1) wr w1 := Kp.of_below HW1.out; have hq_ := HC.out.below HW1.out HC.out.lt; have uc0 := hq_.cell 0; have uf0 := hq_.frozen 0; have uc1 := hq_.cell 1; have uf1 := hq_.frozen 1; have uc2 := hq_.cell 2; have uf2 := hq_.frozen 2; have uc3 := hq_.cell 3; have uf3 := hq_.frozen 3; simp at uc0 uc1 uc2 uc3; clear hq_ hw1) | (go_at_call 54; refine (C54.out _).mono ?_; rintro e w2 ⟨rfl, hw2⟩; have HW2 := hide (HW1.out.trans (hw2.mono HW1.out.size)); have hk2 : Kp (fun i => i = w.heap.size + 1 + 1 + 1 + 1 + 1) wr w2 := Kp.of_below HW2.out; have hq_ := HC.out.below HW2.out HC.out.lt; have vc0 := hq_.cell 0; have vf0 := hq_.frozen 0; have vc1 := hq_.cell 1; have vf1 := hq_.frozen 1; have vc2 := hq_.cell 2; have vf2 := hq_.frozen 2; have vc3 := hq_.cell 3; have vf3 := hq_.frozen 3; simp at vc0 vc1 vc2 vc3; clear hq_; have hq_ := HR.out.below HW2.out HR.out.lt; have zc0 := hq_.cell 0; have zf0 := hq_.frozen 0; have zc1 := hq_.cell 1; have zf1 := hq_.frozen 1; have zc2 := hq_.cell 2; have zf2 := hq_.frozen 2; have zc3 := hq_.cell 3; have zf3 := hq_.frozen 3; simp at zc0 zc1 zc2 zc3; clear hq_ hw2))
    all_goals
      go_wp2
      have hbel := HBEL.out.trans (HW2.out.mono HBEL.out.size)
      refine bodyPost_ret (v := CelA cr) (by simp [results, Tryd.results42, go_sem, zc0, zc1, zc2, zc3, zf0, zf1, zf2, zf3]) rfl ⟨by rw [HI.out], ?_⟩
      exact (Below.setCell (Below.setCell (Below.setCell (Below.setCell (Below.setCell (Below.setCell (Below.setCell (Below.setCell hbel (by first | (simp; done) | (simp; omega)) _) (by first | (simp; done) | (simp; omega)) _) (by first | (simp; done) | (simp; omega)) _) (by first | (simp; done) | (simp; omega)) _) (by first | (simp; done) | (simp; omega)) _) (by first | (simp; done) | (simp; omega)) _) (by first | (simp; done) | (simp; omega)) _) (by first | (simp; done) | (simp; omega)) _)
end Go.Proofs.YtnifpeamgoapmaaDoor
