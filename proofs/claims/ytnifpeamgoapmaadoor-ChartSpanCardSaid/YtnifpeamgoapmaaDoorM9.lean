/- instances, whatever the rule. -/
import Derived.Test.YtnifpeamgoapmaaDoorSk
import Derived.Test.YtnifpeamgoapmaaDoorSl
import Derived.Test.YtnifpeamgoapmaaDoorSm
import Derived.Test.YtnifpeamgoapmaaDoorSn
import Derived.Test.YtnifpeamgoapmaaDoorSo
import Derived.Test.YtnifpeamgoapmaaDoorSp
import Derived.Test.YtnifpeamgoapmaaDoorSq
import Derived.Test.YtnifpeamgoapmaaDoorSr
import Derived.Test.YtnifpeamgoapmaaDoorSs
import Derived.Test.YtnifpeamgoapmaaDoorM8
import Derived.Test.YtnifpeamgoapmaaDoorSh
import Derived.Test.YtnifpeamgoapmaaDoorM6
set_option linter.unusedVariables false
set_option linter.unusedSimpArgs false
namespace Go.Proofs.YtnifpeamgoapmaaDoor
open Go Go.RowKit

theorem inst_46 (X : SpanC) (m : Mem) (c1 c2 : Value) (r : NRule) (Inv : Nat → World → Prop) (Stop : World → Prop) (w : World) (B : Bds X) (hr : ROK X.G.nT X.G.nN r) (hD : Doer X m 46 #[c1, c2] (X.insts r) Inv Stop) (hI : Inv 0 w) :
    Calls Tryd.prog 45 #[PB m.S, RuleA r, .func (.func 46) #[] #[c1, c2]] w (Took Inv Stop (X.insts r).length) := by
  have h0 := hr.k0
  have h1 := hr.k1
  have hk : r.k = 1 ∨ r.k = 2 ∨ r.k = 3 ∨ r.k = 4 := by omega
  rcases hk with h | h | h | h
  · exact inst1_46 X m c1 c2 r Inv Stop w h hD hI
  · exact inst2_46 X m c1 c2 r Inv Stop w B h ⟨hr.p0, hr.p1⟩ hD hI
  · exact inst3_46 X m c1 c2 r Inv Stop w h hD hI
  · exact inst4_46 X m c1 c2 r Inv Stop w B h hD hI
theorem inst_63 (X : SpanC) (m : Mem) (c1 c2 : Value) (r : NRule) (Inv : Nat → World → Prop) (Stop : World → Prop) (w : World) (B : Bds X) (hr : ROK X.G.nT X.G.nN r) (hD : Doer X m 63 #[c1, c2] (X.insts r) Inv Stop) (hI : Inv 0 w) :
    Calls Tryd.prog 45 #[PB m.S, RuleA r, .func (.func 63) #[] #[c1, c2]] w (Took Inv Stop (X.insts r).length) := by
  have h0 := hr.k0
  have h1 := hr.k1
  have hk : r.k = 1 ∨ r.k = 2 ∨ r.k = 3 ∨ r.k = 4 := by omega
  rcases hk with h | h | h | h
  · exact inst1_63 X m c1 c2 r Inv Stop w h hD hI
  · exact inst2_63 X m c1 c2 r Inv Stop w B h ⟨hr.p0, hr.p1⟩ hD hI
  · exact inst3_63 X m c1 c2 r Inv Stop w h hD hI
  · exact inst4_63 X m c1 c2 r Inv Stop w B h hD hI
theorem inst_65 (X : SpanC) (m : Mem) (c1 c2 c3 c4 : Value) (r : NRule) (Inv : Nat → World → Prop) (Stop : World → Prop) (w : World) (B : Bds X) (hr : ROK X.G.nT X.G.nN r) (hD : Doer X m 65 #[c1, c2, c3, c4] (X.insts r) Inv Stop) (hI : Inv 0 w) :
    Calls Tryd.prog 45 #[PB m.S, RuleA r, .func (.func 65) #[] #[c1, c2, c3, c4]] w (Took Inv Stop (X.insts r).length) := by
  have h0 := hr.k0
  have h1 := hr.k1
  have hk : r.k = 1 ∨ r.k = 2 ∨ r.k = 3 ∨ r.k = 4 := by omega
  rcases hk with h | h | h | h
  · exact inst1_65 X m c1 c2 c3 c4 r Inv Stop w h hD hI
  · exact inst2_65 X m c1 c2 c3 c4 r Inv Stop w B h ⟨hr.p0, hr.p1⟩ hD hI
  · exact inst3_65 X m c1 c2 c3 c4 r Inv Stop w h hD hI
  · exact inst4_65 X m c1 c2 c3 c4 r Inv Stop w B h hD hI
end Go.Proofs.YtnifpeamgoapmaaDoor
/- the functions that Span and settle hand to instances -/
namespace Go.Proofs.YtnifpeamgoapmaaDoor
open Go Go.RowKit

/-- an instance in order -/
structure IOK (X : SpanC) (i : Inst) : Prop where
  p0 : 0 ≤ i.p
  p1 : i.p ≤ 4000000000000
  len : i.u.length ≤ 2
  own : ∀ x ∈ i.u, X.own x = true → 0 ≤ x.h ∧ x.h < X.G.nN
theorem cmb_nf {w : World} {X : SpanC} {m : Mem} {best : List Vl} {fin : List Bool} (h : SpW w X m best fin) (B : Bds X) {i : Inst} (hi : IOK X i) : VNF (X.cmb best i) :=
  comb_nf hi.p0 (fun v hv => by
    obtain ⟨x, hx, rfl⟩ := List.mem_map.1 hv
    exact (h.val_nf B x (hi.own x hx)).1)
def DoneT (X : SpanC) (m : Mem) (best : List Vl) (fin : List Bool) (w : World) (e : Ending) (w' : World) : Prop := e = .returned (.bool true) ∧ SpW w' X m best fin ∧ KT m w w'

set_option maxHeartbeats 4000000 in
theorem do46 (X : SpanC) (m : Mem) (best : List Vl) (fin : List Bool) (r : NRule) (i : Inst) (sb rb : Nat) (A : Option Addr) (c : Nat) (w : World) (B : Bds X) (hr : 0 ≤ r.h ∧ r.h < X.G.nN) (hi : IOK X i) (hW : SpW w X m best fin) (hS : Blk w sb 83 #[PB m.S]) (hB : Blk w rb 65 (ruleC r)) (hR : Rd w A i.u.length 3 (icells i.u)) :
    Calls Tryd.prog 46 #[I i.a, I i.p, .slice A i.u.length c, PB sb, PB rb] w (DoneT X m (X.first1 r.h fin best i) fin w) := by
  have CW := hide (within_any X m best fin i.u A c w (by have := hi.len; omega) hW hR)
  have CC := hide (fun W (hb : Below w.heap.size w W) => combine_any X m best fin i.p i.u A c W hi.p0 hi.p1 (by have := hi.len; omega) (hW.below hb) (hR.below hb) B hi.own)
  have CO := hide (fun W (hb : Below w.heap.size w W) => offer_any X m best fin r.h (X.cmb best i) W B (hW.below hb) hr.1 hr.2 (cmb_nf hW B hi))
  have HW := hide hW
  have HB := hide hB
  have s0 := hS.cell 0
  have HSB := hide hS
  simp at s0
  rcases hin : X.within i.u with _ | _
  · have HF := hide (show X.first1 r.h fin best i = offB best fin r.h (X.cmb best i) by unfold SpanC.first1; rw [hin]; rfl)
    have CW := CW.out
    rw [hin] at CW
    have CW := hide CW
    obtain ⟨cv, hcv⟩ : ∃ cv, cv = X.cmb best i := ⟨_, rfl⟩
    have CC := CC.out
    have CO := CO.out
    have HF := HF.out
    rw [← hcv] at CO HF
    have CC' : ∀ W, Below w.heap.size w W → Calls Tryd.prog 49 #[PB m.S, .int .i64 i.p, .slice A i.u.length c] W fun e w' => e = .returned (VA cv) ∧ Below W.heap.size W w' := by
      rw [hcv]; exact CC
    have CC := hide CC'
    have CO := hide CO
    have HF := hide HF
    clear hin CC' hcv hW hB hR hi B hr hS
    go_enter Tryd.func46, Tryd.ntmps46
    go_wp2_with (go_at_call 47; refine CW.out.mono ?_; rintro e w1 ⟨rfl, hw1⟩; have HW1 := hide hw1; have z0 := cell_below hw1 s0; have z1 := (HB.out.below hw1 HB.out.lt).rule.1; clear hw1)
    go_region_held3 (fun w' => w'.cell? ⟨sb, 0, none⟩ = some (PB m.S) ∧ w'.cell? ⟨rb, 1, none⟩ = some (I r.h)) (go_keep)
      ((first | (go_at_call 49; refine (CC.out _ HW1.out.drew).mono ?_; rintro e w2 ⟨rfl, hw2⟩; have HW2 := hide (HW1.out.drew.trans (hw2.mono HW1.out.drew.size)); have y0 := cell_below HW2.out s0; have y1 := (HB.out.below HW2.out HB.out.lt).rule.1; clear hw2) | (go_at_call 48; refine (CO.out _ HW2.out).mono ?_; rintro e w3 ⟨rfl, hs3, hk3⟩; have x0 := (hk3.blk (HW.out.below HW2.out) (HSB.out.below HW2.out HSB.out.lt) (by decide) (by decide) (by decide) (by decide) (by decide)).cell 0; have x1 := (hk3.blk (HW.out.below HW2.out) (HB.out.below HW2.out HB.out.lt) (by decide) (by decide) (by decide) (by decide) (by decide)).rule.1; simp at x0; have HS3 := hide hs3; have HK3 := hide ((KT.of_below (m := m) HW2.out).trans hk3); clear hs3 hk3)))
    go_wp2
    go_ret
    exact ⟨rfl, by rw [HF.out]; exact HS3.out, HK3.out⟩
  · have HF := hide (show X.first1 r.h fin best i = best by unfold SpanC.first1; rw [hin]; rfl)
    have CW := CW.out
    rw [hin] at CW
    have CW := hide CW
    clear hin hW hB hR hi B hr hS CC CO
    go_enter Tryd.func46, Tryd.ntmps46
    go_wp2_with (go_at_call 47; refine CW.out.mono ?_; rintro e w1 ⟨rfl, hw1⟩; have HW1 := hide hw1; clear hw1)
    go_ret
    exact ⟨rfl, by rw [HF.out]; exact HW.out.below HW1.out, KT.of_below HW1.out⟩
set_option maxHeartbeats 4000000 in
theorem do63 (X : SpanC) (m : Mem) (best : List Vl) (fin : List Bool) (r : NRule) (i : Inst) (sb rb : Nat) (A : Option Addr) (c : Nat) (w : World) (B : Bds X) (hr : 0 ≤ r.h ∧ r.h < X.G.nN) (hi : IOK X i) (hW : SpW w X m best fin) (hS : Blk w sb 83 #[PB m.S]) (hB : Blk w rb 65 (ruleC r)) (hR : Rd w A i.u.length 3 (icells i.u)) :
    Calls Tryd.prog 63 #[I i.a, I i.p, .slice A i.u.length c, PB sb, PB rb] w (DoneT X m (X.settle1 r.h fin best i) fin w) := by
  have CW := hide (within_any X m best fin i.u A c w (by have := hi.len; omega) hW hR)
  have CR := hide (fun W (hb : Below w.heap.size w W) => ready_any X m best fin i.u A c W (by have := hi.len; omega) (hW.below hb) (hR.below hb) B hi.own)
  have CC := hide (fun W (hb : Below w.heap.size w W) => combine_any X m best fin i.p i.u A c W hi.p0 hi.p1 (by have := hi.len; omega) (hW.below hb) (hR.below hb) B hi.own)
  have CO := hide (fun W (hb : Below w.heap.size w W) => offer_any X m best fin r.h (X.cmb best i) W B (hW.below hb) hr.1 hr.2 (cmb_nf hW B hi))
  have HW := hide hW
  have HB := hide hB
  have s0 := hS.cell 0
  have HSB := hide hS
  simp at s0
  rcases hin : X.within i.u with _ | _
  · have HF := hide (show X.settle1 r.h fin best i = best by unfold SpanC.settle1; rw [hin]; rfl)
    have CW := CW.out
    rw [hin] at CW
    have CW := hide CW
    clear hin hW hB hR hi B hr hS CC CO
    go_enter Tryd.func63, Tryd.ntmps63
    go_wp2_with (go_at_call 47; refine CW.out.mono ?_; rintro e w1 ⟨rfl, hw1⟩; have HW1 := hide hw1; clear hw1)
    go_ret
    exact ⟨rfl, by rw [HF.out]; exact HW.out.below HW1.out, KT.of_below HW1.out⟩
  · rcases hrd : X.ready fin i.u with _ | _
    · have HF := hide (show X.settle1 r.h fin best i = best by unfold SpanC.settle1; rw [hin, hrd]; rfl)
      have CW := CW.out
      rw [hin] at CW
      have CW := hide CW
      have CR := CR.out
      rw [hrd] at CR
      have CR := hide CR
      clear hin hrd hW hB hR hi B hr hS CC CO
      go_enter Tryd.func63, Tryd.ntmps63
      go_wp2_with (first | (go_at_call 47; refine CW.out.mono ?_; rintro e w0 ⟨rfl, hw0⟩; have HW0 := hide hw0; have z00 := cell_below hw0 s0; clear hw0) | (go_at_call 64; refine (CR.out _ HW0.out).mono ?_; rintro e w1 ⟨rfl, hw1'⟩; have HW1 := hide (HW0.out.trans (hw1'.mono HW0.out.size)); clear hw1'))
      go_ret
      exact ⟨rfl, by rw [HF.out]; exact HW.out.below HW1.out, KT.of_below HW1.out⟩
    · have HF := hide (show X.settle1 r.h fin best i = offB best fin r.h (X.cmb best i) by unfold SpanC.settle1; rw [hin, hrd]; rfl)
      have CW := CW.out
      rw [hin] at CW
      have CW := hide CW
      have CR := CR.out
      rw [hrd] at CR
      have CR := hide CR
      obtain ⟨cv, hcv⟩ : ∃ cv, cv = X.cmb best i := ⟨_, rfl⟩
      have CC := CC.out
      have CO := CO.out
      have HF := HF.out
      rw [← hcv] at CO HF
      have CC' : ∀ W, Below w.heap.size w W → Calls Tryd.prog 49 #[PB m.S, .int .i64 i.p, .slice A i.u.length c] W fun e w' => e = .returned (VA cv) ∧ Below W.heap.size W w' := by
        rw [hcv]; exact CC
      have CC := hide CC'
      have CO := hide CO
      have HF := hide HF
      clear hin hrd CC' hcv hW hB hR hi B hr hS
      go_enter Tryd.func63, Tryd.ntmps63
      go_wp2_with (first | (go_at_call 47; refine CW.out.mono ?_; rintro e w0 ⟨rfl, hw0⟩; have HW0 := hide hw0; have z00 := cell_below hw0 s0; clear hw0) | (go_at_call 64; refine (CR.out _ HW0.out).mono ?_; rintro e w1 ⟨rfl, hw1'⟩; have hw1 := HW0.out.trans (hw1'.mono HW0.out.size); have HW1 := hide hw1; have z0 := cell_below hw1 s0; have z1 := (HB.out.below hw1 HB.out.lt).rule.1; clear hw1 hw1' z00))
      go_region_held3 (fun w' => w'.cell? ⟨sb, 0, none⟩ = some (PB m.S) ∧ w'.cell? ⟨rb, 1, none⟩ = some (I r.h)) (go_keep)
        ((first | (go_at_call 49; refine (CC.out _ HW1.out.drew).mono ?_; rintro e w2 ⟨rfl, hw2⟩; have HW2 := hide (HW1.out.drew.trans (hw2.mono HW1.out.drew.size)); have y0 := cell_below HW2.out s0; have y1 := (HB.out.below HW2.out HB.out.lt).rule.1; clear hw2) | (go_at_call 48; refine (CO.out _ HW2.out).mono ?_; rintro e w3 ⟨rfl, hs3, hk3⟩; have x0 := (hk3.blk (HW.out.below HW2.out) (HSB.out.below HW2.out HSB.out.lt) (by decide) (by decide) (by decide) (by decide) (by decide)).cell 0; have x1 := (hk3.blk (HW.out.below HW2.out) (HB.out.below HW2.out HB.out.lt) (by decide) (by decide) (by decide) (by decide) (by decide)).rule.1; simp at x0; have HS3 := hide hs3; have HK3 := hide ((KT.of_below (m := m) HW2.out).trans hk3); clear hs3 hk3)))
      go_wp2
      go_ret
      exact ⟨rfl, by rw [HF.out]; exact HS3.out, HK3.out⟩
end Go.Proofs.YtnifpeamgoapmaaDoor
/- boundary -/
namespace Go.Proofs.YtnifpeamgoapmaaDoor
open Go Go.RowKit

/-- a function that takes all instances of l, and keeps what is kept -/
structure DoerK (X : SpanC) (m : Mem) (F : Nat) (caps : Array Value) (l : List Inst) (Inv : Nat → World → Prop) : Prop where
  below : ∀ k W W', Inv k W → Below W.heap.size W W' → Inv k W'
  sp : ∀ k W, Inv k W → ∃ best fin, SpW W X m best fin
  step : ∀ (k : Nat) (i : Inst), l[k]? = some i → ∀ W A c, Inv k W → Rd W A i.u.length 3 (icells i.u) → Calls Tryd.prog F (#[I i.a, I i.p, .slice A i.u.length c] ++ caps) W fun e w' => e = .returned (.bool true) ∧ Inv (k + 1) w' ∧ KT m W w'
theorem DoerK.doer {X : SpanC} {m : Mem} {F : Nat} {caps : Array Value} {l : List Inst} {Inv : Nat → World → Prop} (h : DoerK X m F caps l Inv) : Doer X m F caps l Inv (fun _ => False) :=
  ⟨h.below, h.sp, fun _ hf => hf.elim, fun k i hi W A c hI hR => (h.step k i hi W A c hI hR).mono (by
    rintro e w' ⟨rfl, h1, h2⟩
    obtain ⟨best, fin, hW⟩ := h.sp _ _ hI
    exact ⟨true, rfl, (fun _ => h1), (fun hf => Bool.noConfusion hf), fun g cs hg => h2.blk hW hg (by decide) (by decide) (by decide) (by decide) (by decide)⟩)⟩
theorem KT.blk3 {m : Mem} {w w' : World} {X : SpanC} {best : List Vl} {fin : List Bool} (h : KT m w w') (hW : SpW w X m best fin) {g : Nat} {cs : Array Value} (hg : Blk w g 3 cs) (hne : g ≠ m.ha) : Blk w' g 3 cs := by
  refine hg.kp h ?_
  obtain ⟨han, hv, es, nx, ck, hW⟩ := hW
  obtain ⟨f, gm, hQ, _⟩ := hW.q.Q.ex
  rintro (e | e | e | e | e | ⟨_, cs', e⟩)
  · exact Blk.ne_ hg hW.q.B.val (by decide) e
  · exact Blk.ne_ hg hW.fi (by decide) e
  · exact hne e
  · exact Blk.ne_ hg hQ.rec_ (by decide) e
  · exact hQ.map.ne_blk hg e
  · exact Blk.ne_ hg e (by decide) rfl
theorem SpW.ha_lt {w : World} {X : SpanC} {m : Mem} {best : List Vl} {fin : List Bool} (h : SpW w X m best fin) : m.ha < w.heap.size := by
  obtain ⟨han, hv, es, nx, ck, h⟩ := h
  exact h.ha.lt

set_option maxHeartbeats 4000000 in
theorem bnd_inst (X : SpanC) (m : Mem) (c1 c2 : Value) (r : NRule) (Inv : Nat → World → Prop) (w : World) (B : Bds X) (hr : ROK X.G.nT X.G.nN r) (hk : r.k ≠ 4) (hD : DoerK X m 63 #[c1, c2] (X.bnds r) Inv) (hI : Inv 0 w) :
    Calls Tryd.prog 62 #[PB m.S, RuleA r, .func (.func 63) #[] #[c1, c2]] w (fun e w' => e = .returned (.tuple #[]) ∧ Inv (X.bnds r).length w') := by
  have hl : X.bnds r = X.insts r := by unfold SpanC.bnds; rw [if_neg hk]
  rw [hl] at hD ⊢
  have hb0 : Below w.heap.size w (w.alloc (Obj.cells (ruleC r) 65)) := (Below.refl _ _).alloc (Nat.le_refl _) _
  have CI := hide (inst_63 X m c1 c2 r Inv (fun _ => False) _ B hr hD.doer (hD.below _ _ _ hI hb0))
  obtain ⟨rk, rh, ra, rb, rp, ro⟩ := r
  simp only at hk
  have hkb : (rk == 4) = false := by simp [hk]
  clear hD hI hb0 hr hl B
  go_enter Tryd.func62, Tryd.ntmps62
  go_wp2_with (go_at_call 45; refine CI.out.mono ?_; rintro e w2 ⟨rfl, hI2⟩)
  refine bodyPost_ret (results_none rfl _ _ _) rfl ?_
  exact ⟨rfl, hI2.elim id False.elim⟩

set_option maxHeartbeats 4000000 in
theorem bnd_4 (X : SpanC) (m : Mem) (c1 c2 : Value) (r : NRule) (Inv : Nat → World → Prop) (w : World) (hr : r.k = 4) (hD : DoerK X m 63 #[c1, c2] (X.bnds r) Inv) (hI : Inv 0 w) :
    Calls Tryd.prog 62 #[PB m.S, RuleA r, .func (.func 63) #[] #[c1, c2]] w (fun e w' => e = .returned (.tuple #[]) ∧ Inv (X.bnds r).length w') := by
  have hl : X.bnds r = [⟨X.fr, r.p, [⟨r.a, X.fr, X.fr⟩, ⟨r.b, X.fr, X.to⟩]⟩, ⟨X.to, r.p, [⟨r.a, X.fr, X.to⟩, ⟨r.b, X.to, X.to⟩]⟩] := by unfold SpanC.bnds; rw [if_pos hr]
  rw [hl] at hD ⊢
  have hb0 : Below w.heap.size w (w.alloc (Obj.cells (ruleC r) 65)) := (Below.refl _ _).alloc (Nat.le_refl _) _
  have hI0 := hD.below 0 w _ hI hb0
  obtain ⟨best, fin, hW⟩ := hD.sp _ _ hI0
  obtain ⟨s10, s11, s5⟩ := hW.ends
  have hB := Blk.new w 65 (ruleC r)
  obtain ⟨be0, fi0, hW0⟩ := hD.sp _ _ hI
  have hha := hW0.ha_lt
  obtain ⟨rk, rh, ra, rb, rp, ro⟩ := r
  simp only at hr
  subst hr
  have hb1 := drew_alloc_below (w.alloc (Obj.cells (ruleC ⟨4, rh, ra, rb, rp, ro⟩) 65)) (Obj.cells #[I X.fr, I X.to] 3)
  have HI1 := hide (hD.below _ _ _ hI0 hb1)
  have HB1 := hide (show Blk ((w.alloc (Obj.cells (ruleC ⟨4, rh, ra, rb, rp, ro⟩) 65)).drew.alloc (Obj.cells #[I X.fr, I X.to] 3)) w.heap.size 65 (ruleC ⟨4, rh, ra, rb, rp, ro⟩) from hB.drew.alloc _)
  have HN1 := hide (Blk.newd1 w (Obj.cells (ruleC ⟨4, rh, ra, rb, rp, ro⟩) 65) 3 #[I X.fr, I X.to])
  have HD := hide hD
  clear hD hI hI0 hW hW0 hb0 hB hl hb1 s5
  go_enter Tryd.func62, Tryd.ntmps62
  go_wp2_with fail
  go_region_held3 (fun w' => w'.cell? ⟨m.S, 10, none⟩ = some (I X.fr) ∧ w'.cell? ⟨m.S, 11, none⟩ = some (I X.to)) (go_keep) (fail)
  clear s10 s11
  go_wp2_with fail
  go_loopw [25] (fun s25 wr => ∃ j : Nat, s25 = .int .i64 j ∧ j ≤ 2 ∧ Inv j wr ∧ Blk wr w.heap.size 65 (ruleC ⟨4, rh, ra, rb, rp, ro⟩) ∧ Blk wr (w.heap.size + 1) 3 #[I X.fr, I X.to]) (fun s25 _ => 2 - (intOf s25).toNat)
  case atStart => exact ⟨0, rfl, Nat.zero_le _, HI1.out, HB1.out, HN1.out⟩
  case round =>
    obtain ⟨j, rfl, hj, hinv, hbk, hnb⟩ := hrel
    have HINV := hide hinv
    have hcs : j = 2 ∨ ∃ mm : Int, (j = 0 ∧ mm = X.fr) ∨ (j = 1 ∧ mm = X.to) := by
      by_cases h0 : j = 0
      · exact .inr ⟨X.fr, .inl ⟨h0, rfl⟩⟩
      · by_cases h1 : j = 1
        · exact .inr ⟨X.to, .inr ⟨h1, rfl⟩⟩
        · exact .inl (by omega)
    rcases hcs with rfl | ⟨mm, hmm⟩
    · clear hinv hbk hnb
      go_wp2
      go_end0
      exact ⟨rfl, HINV.out⟩
    · have hg : [(⟨X.fr, rp, [⟨ra, X.fr, X.fr⟩, ⟨rb, X.fr, X.to⟩]⟩ : Inst), ⟨X.to, rp, [⟨ra, X.fr, X.to⟩, ⟨rb, X.to, X.to⟩]⟩][j]? = some ⟨mm, rp, [⟨ra, X.fr, mm⟩, ⟨rb, mm, X.to⟩]⟩ := by
        rcases hmm with ⟨rfl, rfl⟩ | ⟨rfl, rfl⟩ <;> rfl
      have hel : wr.cell? ⟨w.heap.size + 1, j, none⟩ = some (I mm) := by
        rw [hnb.cell]
        rcases hmm with ⟨rfl, rfl⟩ | ⟨rfl, rfl⟩ <;> rfl
      have hj2 : j < 2 := by rcases hmm with ⟨rfl, _⟩ | ⟨rfl, _⟩ <;> omega
      obtain ⟨be1, fi1, hW⟩ := HD.out.sp _ _ hinv
      obtain ⟨s10, s11, s5⟩ := hW.ends
      obtain ⟨r1, r2, r3, r4⟩ := hbk.rule
      simp only at r1 r2 r3 r4
      have hb1 := drew_alloc_below wr (Obj.cells #[I ra, I X.fr, I mm, I rb, I mm, I X.to] 61)
      have hn := Blk.newd wr 61 #[I ra, I X.fr, I mm, I rb, I mm, I X.to]
      have CD := hide (show Calls Tryd.prog 63 (#[I mm, I rp, .slice (some ⟨wr.heap.size, 0, none⟩) 2 2, c1, c2]) (wr.drew.alloc (Obj.cells #[I ra, I X.fr, I mm, I rb, I mm, I X.to] 61)) (fun e w' => e = .returned (.bool true) ∧ Inv (j + 1) w' ∧ KT m (wr.drew.alloc (Obj.cells #[I ra, I X.fr, I mm, I rb, I mm, I X.to] 61)) w') from
        HD.out.step j _ hg _ (some ⟨wr.heap.size, 0, none⟩) 2 (HD.out.below _ _ _ hinv hb1) (Rd.of_blk (c := 2) (xs := icells [⟨ra, X.fr, mm⟩, ⟨rb, mm, X.to⟩]) hn rfl))
      have HR := hide (show Blk (wr.drew.alloc (Obj.cells #[I ra, I X.fr, I mm, I rb, I mm, I X.to] 61)) w.heap.size 65 (ruleC ⟨4, rh, ra, rb, rp, ro⟩) from hbk.drew.alloc _)
      have HNB := hide (show Blk (wr.drew.alloc (Obj.cells #[I ra, I X.fr, I mm, I rb, I mm, I X.to] 61)) (w.heap.size + 1) 3 #[I X.fr, I X.to] from hnb.drew.alloc _)
      have HSW := hide (hW.below hb1)
      have n0 := hW.rec_.lt
      have n1 := hbk.lt
      have n2 := hnb.lt
      clear hinv hbk hb1 hn hW s5 r1 hmm hg hnb
      go_wp2_with fail
      go_region_held3 (fun w' => w'.cell? ⟨m.S, 10, none⟩ = some (I X.fr) ∧ w'.cell? ⟨m.S, 11, none⟩ = some (I X.to) ∧ w'.cell? ⟨w.heap.size, 2, none⟩ = some (I ra) ∧ w'.cell? ⟨w.heap.size, 3, none⟩ = some (I rb) ∧ w'.cell? ⟨w.heap.size, 4, none⟩ = some (I rp)) (go_keep)
        ((go_at_call 63; refine CD.out.mono ?_; rintro e w2 ⟨rfl, hi2, hk2⟩; obtain ⟨be2, fi2, hw2⟩ := HD.out.sp _ _ hi2; have z := hw2.ends; have z10 := z.1; have z11 := z.2.1; have HRB := hide (hk2.blk HSW.out HR.out (by decide) (by decide) (by decide) (by decide) (by decide)); have HN2 := hide (hk2.blk3 HSW.out HNB.out (by omega)); have zr := HRB.out.rule; have z2 := zr.2.1; have z3 := zr.2.2.1; have z4 := zr.2.2.2; have HI2 := hide hi2; clear hi2 hk2 hw2 z zr))
      go_wp2_with fail
      go_roundw
      case rel => exact ⟨j + 1, rfl, by omega, HI2.out, HRB.out, HN2.out⟩
      case measure => simp [intOf]; omega

theorem boundary_any (X : SpanC) (m : Mem) (c1 c2 : Value) (r : NRule) (Inv : Nat → World → Prop) (w : World) (B : Bds X) (hr : ROK X.G.nT X.G.nN r) (hD : DoerK X m 63 #[c1, c2] (X.bnds r) Inv) (hI : Inv 0 w) :
    Calls Tryd.prog 62 #[PB m.S, RuleA r, .func (.func 63) #[] #[c1, c2]] w (fun e w' => e = .returned (.tuple #[]) ∧ Inv (X.bnds r).length w') := by
  by_cases hk : r.k = 4
  · exact bnd_4 X m c1 c2 r Inv w hk hD hI
  · exact bnd_inst X m c1 c2 r Inv w B hr hk hD hI
end Go.Proofs.YtnifpeamgoapmaaDoor
/- settle: what it is made of. -/
namespace Go.Proofs.YtnifpeamgoapmaaDoor
open Go Go.RowKit

theorem insts_ok {X : SpanC} (B : Bds X) {r : NRule} (hr : ROK X.G.nT X.G.nN r) : ∀ i ∈ X.insts r, IOK X i := by
  intro i hi
  have p0 := hr.p0
  have p1 := hr.p1
  unfold SpanC.insts at hi
  split at hi
  · split at hi
    · simp only [List.mem_singleton] at hi
      subst hi
      exact ⟨p0, by simp only; omega, by simp, by simp⟩
    · cases hi
  · split at hi
    · rw [List.mem_filterMap] at hi
      obtain ⟨ai, hai, h⟩ := hi
      split at h
      · injection h with h
        subst h
        obtain ⟨a, n⟩ := ai
        have hm : a ∈ X.L.arcs := by
          obtain ⟨j, hj⟩ := List.getElem?_of_mem hai
          rw [List.getElem?_zipIdx] at hj
          cases ha : X.L.arcs[j]? with
          | none => rw [ha] at hj; simp at hj
          | some b =>
            rw [ha] at hj
            simp at hj
            rw [← hj.1]
            exact List.mem_of_getElem? ha
        obtain ⟨c0, c1⟩ := B.ac a hm
        unfold Inf at c1
        exact ⟨by simp only; omega, by simp only; omega, by simp, by simp⟩
      · cases h
    · split at hi
      · rename_i h3
        simp only [List.mem_singleton] at hi
        subst hi
        refine ⟨p0, by simp only; omega, by simp, ?_⟩
        intro x hx _
        simp only [List.mem_singleton] at hx
        subst hx
        exact hr.un (.inl h3)
      · split at hi
        · rename_i h4
          rw [List.mem_map] at hi
          obtain ⟨d, _, rfl⟩ := hi
          refine ⟨p0, by simp only; omega, by simp, ?_⟩
          intro x hx _
          simp only [List.mem_cons, List.not_mem_nil, or_false] at hx
          rcases hx with rfl | rfl
          · exact hr.un (.inr h4)
          · exact hr.bi h4
        · cases hi
theorem bnds_ok {X : SpanC} (B : Bds X) {r : NRule} (hr : ROK X.G.nT X.G.nN r) : ∀ i ∈ X.bnds r, IOK X i := by
  intro i hi
  unfold SpanC.bnds at hi
  split at hi
  · rename_i h4
    have p0 := hr.p0
    have p1 := hr.p1
    simp only [List.mem_cons, List.not_mem_nil, or_false] at hi
    rcases hi with rfl | rfl
    all_goals
      refine ⟨p0, by simp only; omega, by simp, ?_⟩
      intro x hx _
      simp only [List.mem_cons, List.not_mem_nil, or_false] at hx
      rcases hx with rfl | rfl
      · exact hr.un (.inr h4)
      · exact hr.bi h4
  · exact insts_ok B hr i hi

/-- behind a head that is settled: one rule -/
def SpanC.settleR (X : SpanC) (x : Int) (fin : List Bool) (best : List Vl) (r : NRule) : List Vl := if usesP r x then (X.bnds r).foldl (X.settle1 r.h fin) best else best
/-- .. and all rules -/
def SpanC.settleX (X : SpanC) (x : Int) (fin : List Bool) (best : List Vl) : List Vl := X.G.rules.foldl (X.settleR x fin) best

section
variable {w w1 : World} {X : SpanC} {m : Mem} {best : List Vl} {fin : List Bool} {han : List Int} {hv hv' : Value} {es es' : List Ent} {nx ck : Int} {e0 : Ent}
/-- behind Pop and the store -/
theorem DynAt.pop (h : DynAt w X m best fin han hv es nx ck) (hp : es.Perm (e0 :: es')) (hh : Heap (vof best) es') (hq : QAll w1 m.q m.pl m.sv m.S m.be X.N hv' best es' nx ck) (hk : Kp (QF m.q m.pl hv) w w1) (ho : hv'.ownBlock = hv.ownBlock) :
    Blk w1 m.S 87 (recC X m) ∧ Blk w1 m.fi 4 (fin.map Value.bool).toArray ∧ SpW (w1.setCell ⟨m.fi, e0.x.toNat, none⟩ (.bool true)) X m best (fin.set e0.x.toNat true) ∧ KT m w (w1.setCell ⟨m.fi, e0.x.toNat, none⟩ (.bool true)) := by
  obtain ⟨n1, n2, n3, n4, n5, n6, n7⟩ := h.new
  have hkt : KT m w w1 := hk.mono fun k _ e => h.qf_kt k e
  have hrec := h.rec_.kp hk (h.apart h.rec_ (by decide) (by decide))
  have hfi := h.fi.kp hk (h.apart h.fi (by decide) (by decide))
  have hha := h.ha.kp hk (h.apart h.ha (by decide) (by decide))
  have hnew : ∀ k, k < m.w0.heap.size → ¬ QF m.q m.pl hv k := by
    rintro k hk (e | e | e)
    · omega
    · omega
    · have := h.newh k e.symm; omega
  have hka : Kp (fun k => k = m.fi) w1 (w1.setCell ⟨m.fi, e0.x.toNat, none⟩ (.bool true)) := (Kp.refl (fun k => k = m.fi) w1).setCell (p := ⟨m.fi, e0.x.toNat, none⟩) (.inl rfl) _
  have hbel : Below m.w0.heap.size m.w0 w1 := h.bel.trans (hk.to_below' h.bel.size hnew)
  have hbel2 : Below m.w0.heap.size m.w0 (w1.setCell ⟨m.fi, e0.x.toNat, none⟩ (.bool true)) := hbel.trans (hka.to_below' hbel.size (fun k hk e => by omega))
  obtain ⟨f5, g5, hR5, hP5⟩ := hq.Q.ex
  have hq6 : QAll (w1.setCell ⟨m.fi, e0.x.toNat, none⟩ (.bool true)) m.q m.pl m.sv m.S m.be X.N hv' best es' nx ck := by
    refine ⟨⟨f5, g5, hR5.kp hka (fun k hk e => hR5.apart hfi (by decide) (by decide) (e ▸ hk)), hP5⟩, ?_, hq.E⟩
    obtain ⟨cs, b4, b5⟩ := hq.B.rec_
    exact hq.B.kp hka (Blk.ne_ hq.B.sv hfi (by decide)) (Blk.ne_ b4 hfi (by decide)) (Blk.ne_ hq.B.val hfi (by decide))
  have hfi6 : Blk (w1.setCell ⟨m.fi, e0.x.toNat, none⟩ (.bool true)) m.fi 4 ((fin.set e0.x.toNat true).map Value.bool).toArray := by
    have := hfi.set_ e0.x.toNat (.bool true)
    rw [List.map_set]
    simpa using this
  refine ⟨hrec, hfi, ⟨han, hv', es', nx, ck, ⟨hbel2, h.args, hrec.kp hka (Blk.ne_ hrec hfi (by decide)), hfi6, hha.kp hka (Blk.ne_ hha hfi (by decide)), hq6, hh, ?_, by rw [List.length_set]; exact h.flen, h.hlen, h.vok, h.new, fun k hk => h.newh k (ho ▸ hk)⟩⟩, hkt.trans (hka.mono fun k _ e => .inr (.inl e))⟩
  have := h.inv.perm ((hp.symm).map ekey)
  exact HInv.pop (k0 := ekey e0) (by simpa using this)
/-- the first of the heap is least among those that are open -/
theorem DynAt.least (h : DynAt w X m best fin han hv es nx ck) (h0 : es[0]? = some e0) {y : Nat} {v : Vl} (hy : best[y]? = some v) (hv : v.c < Inf) (hf : fin[y]? = some false) : vle (vof best e0.x) v := by
  obtain ⟨k, hk, hk0⟩ := h.inv.known y v hy hv
  have hm := h.inv.open_ y k hk hk0 hf
  obtain ⟨e, he, hke⟩ := List.mem_map.1 hm
  obtain ⟨j, hj⟩ := List.getElem?_of_mem he
  have h1 : e.x = (y : Int) := congrArg Prod.fst hke
  have := h.heap.root h0 j e hj
  rw [LE_iff, h1] at this
  rwa [show vof best (y : Int) = v by unfold vof; rw [List.getD, Int.toNat_natCast, hy]; rfl] at this
/-- nothing is open -/
theorem DynAt.none_open (h : DynAt w X m best fin han hv [] nx ck) {y : Nat} {v : Vl} (hy : best[y]? = some v) (hv : v.c < Inf) : fin[y]? = some true := by
  obtain ⟨k, hk, hk0⟩ := h.inv.known y v hy hv
  have hl : y < fin.length := by have := (List.getElem?_eq_some_iff.1 hy).1; have := h.q.B.len; rw [h.flen]; omega
  rw [List.getElem?_eq_getElem hl]
  cases hf : fin[y] with
  | true => rfl
  | false =>
    have := h.inv.open_ y k hk hk0 (by rw [List.getElem?_eq_getElem hl, hf])
    simp at this
end
/-- how many values are not final yet -/
def openN (w : World) (g : Nat) : Nat := match w.heap[g]? with
  | some (.cells cs _ _) => cs.toList.countP fun v => match v with | .bool b => !b | _ => false
  | _ => 0
theorem openN_of {w : World} {g : Nat} {fin : List Bool} (h : Blk w g 4 (fin.map Value.bool).toArray) : openN w g = fin.countP (fun b => !b) := by
  unfold openN
  unfold Blk at h
  rw [h]
  simp only
  rw [List.countP_map]
  rfl
theorem countP_final {fin : List Bool} {x : Nat} (h : fin[x]? = some false) : (fin.set x true).countP (fun b => !b) < fin.countP (fun b => !b) := by
  obtain ⟨hl, e⟩ := List.getElem?_eq_some_iff.1 h
  have hpos : 0 < fin.countP (fun b => !b) := List.countP_pos_iff.2 ⟨false, List.mem_of_getElem? h, rfl⟩
  rw [List.countP_set hl, e]
  simp
  omega
end Go.Proofs.YtnifpeamgoapmaaDoor
/- settle -/
namespace Go.Proofs.YtnifpeamgoapmaaDoor
open Go Go.RowKit

/-- what settle leaves: all finite values are final -/
def Settled (X : SpanC) (m : Mem) (P : List Vl → List Bool → Prop) (w : World) (e : Ending) (w' : World) : Prop :=
  e = .returned (.tuple #[]) ∧ ∃ best fin, SpW w' X m best fin ∧ P best fin ∧ KT m w w' ∧ ∀ (y : Nat) v, best[y]? = some v → v.c < Inf → fin[y]? = some true
/-- P is kept by each head's settling -/
def StepOK (X : SpanC) (P : List Vl → List Bool → Prop) : Prop := ∀ best fin (x : Nat), P best fin → x < X.N → fin[x]? = some false → (∀ (y : Nat) v, best[y]? = some v → v.c < Inf → fin[y]? = some false → vle (vof best (x : Int)) v) →
  P (X.settleX (x : Int) (fin.set x true) best) (fin.set x true)
theorem foldl_take_succ {α β : Type} (f : β → α → β) (b : β) {xs : List α} {k : Nat} {a : α} (h : xs[k]? = some a) : (xs.take (k + 1)).foldl f b = f ((xs.take k).foldl f b) a := by
  obtain ⟨hl, e⟩ := List.getElem?_eq_some_iff.1 h
  rw [List.take_succ_eq_append_getElem hl, List.foldl_append, e]
  rfl

/-- one rule, behind a head that is settled -/
theorem rule63 (X : SpanC) (m : Mem) (x : Int) (best : List Vl) (fin : List Bool) (r : NRule) (sb rb : Nat) (w : World) (B : Bds X) (hr : ROK X.G.nT X.G.nN r) (hu : usesP r x = true) (hW : SpW w X m best fin) (hS : Blk w sb 83 #[PB m.S]) (hB : Blk w rb 65 (ruleC r)) :
    Calls Tryd.prog 62 #[PB m.S, RuleA r, .func (.func 63) #[] #[PB sb, PB rb]] w (fun e w' => e = .returned (.tuple #[]) ∧ SpW w' X m (X.settleR x fin best r) fin ∧ KT m w w') := by
  have hD : DoerK X m 63 #[PB sb, PB rb] (X.bnds r) (fun k W => SpW W X m (((X.bnds r).take k).foldl (X.settle1 r.h fin) best) fin ∧ Blk W sb 83 #[PB m.S] ∧ Blk W rb 65 (ruleC r) ∧ KT m w W) := by
    refine ⟨fun k W W' h hb => ⟨h.1.below hb, h.2.1.below hb h.2.1.lt, h.2.2.1.below hb h.2.2.1.lt, h.2.2.2.below hb⟩, fun k W h => ⟨_, _, h.1⟩, fun k i hi W A c h hR => ?_⟩
    obtain ⟨h1, h2, h3, h4⟩ := h
    refine (do63 X m _ fin r i sb rb A c W B ⟨hr.h0, hr.h1⟩ (bnds_ok B hr i (List.mem_of_getElem? hi)) h1 h2 h3 hR).mono ?_
    rintro e w' ⟨rfl, h5, h6⟩
    have e5 := foldl_take_succ (X.settle1 r.h fin) best hi
    rw [← e5] at h5
    exact ⟨rfl, ⟨h5, h6.blk h1 h2 (by decide) (by decide) (by decide) (by decide) (by decide), h6.blk h1 h3 (by decide) (by decide) (by decide) (by decide) (by decide), h4.trans h6⟩, h6⟩
  refine (boundary_any X m (PB sb) (PB rb) r _ w B hr hD ⟨by simpa using hW, hS, hB, Kp.refl _ _⟩).mono ?_
  rintro e w' ⟨rfl, h1, h2, h3, h4⟩
  rw [List.take_length] at h1
  refine ⟨rfl, ?_, h4⟩
  unfold SpanC.settleR
  rw [if_pos hu]
  exact h1

set_option maxHeartbeats 8000000 in
theorem settle_any (X : SpanC) (m : Mem) (P : List Vl → List Bool → Prop) (best : List Vl) (fin : List Bool) (w : World) (B : Bds X) (hP : StepOK X P) (hW : SpW w X m best fin) (hp : P best fin) :
    Calls Tryd.prog 50 #[PB m.S] w (Settled X m P w) := by
  have hb0 : Below w.heap.size w (w.alloc (Obj.cells #[PB m.S] 83)) := (Below.refl _ _).alloc (Nat.le_refl _) _
  have HW0 := hide (hW.below hb0)
  have HK0 := hide (KT.of_below (m := m) hb0)
  have HN0 := hide (Blk.new w 83 #[PB m.S])
  have HP0 := hide hp
  have HB := hide B
  have HSO := hide hP
  have hN := toN B
  have hn1 := B.n1
  have hrl := B.rl
  clear hW hb0 hp hP B
  go_enter Tryd.func50, Tryd.ntmps50
  go_wp2_with fail
  go_loopw [] (fun wr => ∃ b f, SpW wr X m b f ∧ P b f ∧ KT m w wr ∧ Blk wr w.heap.size 83 #[PB m.S]) (fun wr => openN wr m.fi)
  case atStart => exact ⟨best, fin, HW0.out, HP0.out, HK0.out, HN0.out⟩
  case round =>
    obtain ⟨b, f, hW, hp, hk, hbx⟩ := hrel
    have hD := hW
    obtain ⟨han, hv, es, nx, ck, hD⟩ := hD
    have c15 := hD.rec_.cell 15
    have c0 := hbx.cell 0
    simp [recC] at c15 c0
    have HW := hide hW
    have HP := hide hp
    have HK := hide hk
    have HBX := hide hbx
    have HD := hide hD
    have hle := Dyn_len hD
    have hbxl := hbx.lt
    cases es with
    | nil =>
      have CP := hide (pop_none m.q m.pl m.sv m.S m.be X.N b hv nx ck wr hD.q)
      have HNO := hide (show ∀ (y : Nat) v, b[y]? = some v → v.c < Inf → f[y]? = some true from fun y v h1 h2 => hD.none_open h1 h2)
      clear hW hp hk hbx hD
      go_wp2_with (go_at_call 60; refine CP.out.mono ?_; rintro e w1 ⟨rfl, hw1⟩; have HW1 := hide hw1; clear hw1)
      refine bodyPost_ret (results_none rfl _ _ _) rfl ?_
      exact ⟨rfl, b, f, HW.out.below HW1.out, HP.out, HK.out.below HW1.out, HNO.out⟩
    | cons e0 es0 =>
      have hE := hD.q.E e0 (List.mem_cons_self)
      have CP := hide (pop_some m.q m.pl m.sv m.S m.be X.N b hv (e0 :: es0) nx ck (e0 := e0) rfl (by omega) (by omega) wr hD.q hD.heap)
      obtain ⟨x, hx⟩ := Int.eq_ofNat_of_zero_le hE.1
      have hxN : x < X.N := by omega
      have hff : f[x]? = some false := by
        have := (hD.inv.ent (ekey e0) (by simp)).2.2.2.2
        simpa [hx] using this
      have HFF := hide hff
      have HSTEP := hide (HSO.out b f x hp hxN hff (fun y v h1 h2 h3 => by rw [← hx]; exact hD.least (e0 := e0) rfl h1 h2 h3))
      have HX := hide hx
      obtain ⟨RA, hRA⟩ : ∃ RA, m.RA = RA := ⟨_, rfl⟩
      have hxfl : x < f.length := by rw [hD.flen]; exact hxN
      have HPOP := hide (fun w1 es' hv' hp hh hq hk ho => hD.pop (w1 := w1) (es' := es') (hv' := hv') (e0 := e0) hp hh hq hk ho)
      have HOP := hide (openN_of hD.fi)
      clear hW hp hk hbx hD hE hff hx
      go_wp2_with (go_at_call 60; refine CP.out.mono ?_; rintro e w1 ⟨hv', es', he, hp1, hp2, hp3, hp4, hp5⟩; rw [HX.out] at he; subst he; have hpop := HPOP.out w1 es' hv' hp1 hp2 hp3 hp4 hp5; rw [HX.out, Int.toNat_natCast] at hpop; obtain ⟨hr1, hf1, hs2, hk2⟩ := hpop; have hb1 := HBX.out.kp hp4 (HD.out.apart HBX.out (by decide) (by decide)); have y0 := hb1.cell 0; have y3 := hr1.cell 3; have y13 := hr1.cell 13; have yf := hf1.cell x; have yz := hf1.frozen x; simp [recC] at y0 y3 y13; rw [hRA] at y3; rw [List.getElem?_toArray, List.getElem?_map, HFF.out] at yf; simp only [Option.map_some] at yf; have m1 := Blk.ne_ hr1 hf1 (by decide); have m2 := Blk.ne_ hb1 hf1 (by decide); have HS2 := hide hs2; have HK2 := hide hk2; have HBX2 := hide (hk2.blk HW.out HBX.out (by decide) (by decide) (by decide) (by decide) (by decide)); clear hp1 hp2 hp3 hp4 hp5 hr1 hf1 hs2 hk2 hb1)
      generalize (w1.setCell { block := m.fi, off := x } (Value.bool true)) = w2 at HS2 HK2 HBX2 ⊢
      have HK2b := hide (HK.out.trans HK2.out)
      clear HK2
      clear y0 y3 y13 yf yz m1 m2 c15 c0
      obtain ⟨wo, hwo⟩ : ∃ wo, wo = wr := ⟨_, rfl⟩
      subst hwo
      go_loopw [28] (fun s28 wq => ∃ k : Nat, s28 = .int .i64 k ∧ k ≤ X.G.rules.length ∧ SpW wq X m ((X.G.rules.take k).foldl (X.settleR (x : Int) (f.set x true)) b) (f.set x true) ∧ KT m w wq ∧ Blk wq w.heap.size 83 #[PB m.S]) (fun s28 _ => 20 - (intOf s28).toNat)
      case atStart => exact ⟨0, rfl, Nat.zero_le _, HS2.out, HK2b.out, HBX2.out⟩
      case round =>
        obtain ⟨k, rfl, hk, hs, hkt, hbx⟩ := hrel
        have HSK := hide hs
        have HKT := hide hkt
        have HBXK := hide hbx
        have hbl := hbx.lt
        clear hkt hbx
        have hcs : (k : Int) < X.G.rules.length ∨ (X.G.rules.length : Int) ≤ k := by omega
        rcases hcs with hcs | hcs
        · obtain ⟨r, hr⟩ : ∃ r, X.G.rules[k]? = some r := ⟨_, List.getElem?_eq_getElem (by omega)⟩
          obtain ⟨bb, off, hA, r0, r1, r2, r3, r4, r5⟩ := hs.args.rules.rule k hr
          rw [hRA] at hA
          subst hA
          have hrok := HB.out.rules r (List.mem_of_getElem? hr)
          have HB65 := hide (Blk.new wr 65 (ruleC r))
          have hb1 : Below wr.heap.size wr (wr.alloc (Obj.cells (ruleC r) 65)) := (Below.refl _ _).alloc (Nat.le_refl _) _
          have HB1 := hide hb1
          have CU := hide (uses_any r (x : Int) (wr.alloc (Obj.cells (ruleC r) 65)))
          have hfs := foldl_take_succ (X.settleR (x : Int) (f.set x true)) b hr
          obtain ⟨bk, hbk⟩ : ∃ bk, bk = (X.G.rules.take k).foldl (X.settleR (x : Int) (f.set x true)) b := ⟨_, rfl⟩
          rw [← hbk] at hs hfs
          have HSK := hide hs
          rcases hu : usesP r (x : Int) with _ | _
          · have HFS := hide (show (X.G.rules.take (k + 1)).foldl (X.settleR (x : Int) (f.set x true)) b = bk by rw [hfs]; unfold SpanC.settleR; rw [hu]; rfl)
            have CU := CU.out
            rw [hu] at CU
            have CU := hide CU
            obtain ⟨rk, rh, ra, rb, rp, ro⟩ := r
            simp only at r0 r1 r2 r3 r4 r5
            clear hs hr hrok hb1 hfs hu hbk
            go_wp2_with (go_at_call 61; refine CU.out.mono ?_; rintro e w3 ⟨rfl, hw3⟩; have HW3 := hide (HB1.out.trans (hw3.mono HB1.out.size)); clear hw3)
            go_roundw
            case rel => exact ⟨k + 1, rfl, by omega, by rw [HFS.out]; exact HSK.out.below HW3.out, HKT.out.below HW3.out, HBXK.out.below HW3.out HBXK.out.lt⟩
            case measure => simp [intOf]; omega
          · have CU := CU.out
            rw [hu] at CU
            have CU := hide CU
            have CB := hide (fun w3 (hw3 : Below (wr.alloc (Obj.cells (ruleC r) 65)).heap.size (wr.alloc (Obj.cells (ruleC r) 65)) w3) => rule63 X m (x : Int) bk (f.set x true) r w.heap.size wr.heap.size w3 HB.out hrok hu ((hs.below hb1).below hw3) (((HBXK.out.alloc _)).below hw3 (by simp; omega)) (HB65.out.below hw3 HB65.out.lt))
            have HFS := hide hfs
            have HR65 := hide (fun w3 (hw3 : Below (wr.alloc (Obj.cells (ruleC r) 65)).heap.size (wr.alloc (Obj.cells (ruleC r) 65)) w3) => (HB65.out.below hw3 HB65.out.lt))
            obtain ⟨rk, rh, ra, rb, rp, ro⟩ := r
            simp only at r0 r1 r2 r3 r4 r5
            clear hs hr hrok hb1 hfs hu hbk
            go_wp2_with (first | (go_at_call 61; refine CU.out.mono ?_; rintro e w3 ⟨rfl, hw3⟩; have HW3' := hide hw3; have HW3 := hide (HB1.out.trans (hw3.mono HB1.out.size)); have hr3 := HR65.out w3 hw3; have z0 := hr3.cell 0; have z1 := hr3.cell 1; have z2 := hr3.cell 2; have z3 := hr3.cell 3; have z4 := hr3.cell 4; have z5 := hr3.cell 5; have zb := (HBXK.out.below HW3.out HBXK.out.lt).cell 0; simp at z0 z1 z2 z3 z4 z5 zb; clear hw3 hr3) | (go_at_call 62; refine (CB.out _ HW3'.out).mono ?_; rintro e w4 ⟨rfl, hs4, hk4⟩; have HS4 := hide hs4; have HK4 := hide hk4; clear hs4 hk4))
            go_roundw
            case rel => exact ⟨k + 1, rfl, by omega, by rw [HFS.out]; exact HS4.out, (HKT.out.below HW3.out).trans HK4.out, HK4.out.blk (HSK.out.below HW3.out) (HBXK.out.below HW3.out HBXK.out.lt) (by decide) (by decide) (by decide) (by decide) (by decide)⟩
            case measure => simp [intOf]; omega
        · obtain rfl : k = X.G.rules.length := by omega
          clear hs
          go_wp2_with fail
          go_roundw
          case rel =>
            have h1 := HSK.out
            rw [List.take_length] at h1
            exact ⟨_, _, h1, HSTEP.out, HKT.out, HBXK.out⟩
          case measure =>
            rw [HOP.out, openN_of HSK.out.fi]
            exact countP_final HFF.out
end Go.Proofs.YtnifpeamgoapmaaDoor
/- the function that choose hands to instances -/
namespace Go.Proofs.YtnifpeamgoapmaaDoor
open Go Go.RowKit

/-- what choose's function leaves -/
def Picked (v : Vl) (idx : Int) (i : Inst) (cb : Nat) (w : World) (e : Ending) (w' : World) : Prop := e = .returned (.bool false) ∧ Kp (fun k => k = cb) w w' ∧ Blk w' cb 47 #[I v.c, I v.s, I idx, I i.a]

set_option maxHeartbeats 4000000 in
theorem do65_yes (X : SpanC) (m : Mem) (best : List Vl) (fin : List Bool) (i : Inst) (sb vb ib cb : Nat) (v : Vl) (idx : Int) (k0 k1 k2 k3 : Value) (A : Option Addr) (c : Nat) (w : World) (B : Bds X) (hi : IOK X i) (hW : SpW w X m best fin) (hS : Blk w sb 83 #[PB m.S])
    (hV : Blk w vb 45 #[I v.c, I v.s]) (hI : Blk w ib 3 #[I idx]) (hC : Blk w cb 47 #[k0, k1, k2, k3]) (hR : Rd w A i.u.length 3 (icells i.u)) (hcmb : X.cmb best i = v) :
    Calls Tryd.prog 65 #[I i.a, I i.p, .slice A i.u.length c, PB sb, PB vb, PB ib, PB cb] w (Picked v idx i cb w) := by
  have CC := hide (fun W (hb : Below w.heap.size w W) => by
    have := combine_any X m best fin i.p i.u A c W hi.p0 hi.p1 (by have := hi.len; omega) (hW.below hb) (hR.below hb) B hi.own
    rw [show X.cmb best ⟨0, i.p, i.u⟩ = v from hcmb] at this
    exact this)
  have l0 := fun y : LW w => y.cell (hS.cell 0)
  have l1 := fun y : LW w => y.cell (hV.cell 0)
  have l2 := fun y : LW w => y.cell (hV.cell 1)
  simp at l0 l1 l2
  have HV := hide hV
  have HI := hide hI
  have HC := hide hC
  clear hW hS hV hI hC hR hcmb hi B
  go_enter Tryd.func65, Tryd.ntmps65
  go_wp2_with fail
  refine wp_region_later (by kernel_rfl) (by kernel_rfl) ?_
  repeat (go_big_quiet_step ((go_at_call 49; exact later_call (CC.out _ (LW.property _)))))
  refine wpQuiet_nil ?_
  rintro W1 ⟨⟨_, hW1⟩, rfl⟩
  have hv1 := HV.out.below hW1 HV.out.lt
  have hi1 := HI.out.below hW1 HI.out.lt
  have hc1 := HC.out.below hW1 HC.out.lt
  have q0 := hv1.cell 0
  have q1 := hv1.cell 1
  have q2 := hi1.cell 0
  have g0 := hc1.cell 0
  have g1 := hc1.cell 1
  have g2 := hc1.cell 2
  have g3 := hc1.cell 3
  have f0 := hc1.frozen 0
  have f1 := hc1.frozen 1
  have f2 := hc1.frozen 2
  have f3 := hc1.frozen 3
  simp at q0 q1 q2 g0 g1 g2 g3
  have HW1 := hide hW1
  have HC1 := hide hc1
  clear l0 l1 l2 hW1 hv1 hi1 hc1
  go_wp2
  go_ret
  refine ⟨rfl, ((((Kp.of_below (F := fun k => k = cb) HW1.out).setCell (p := ⟨cb, 0, none⟩) (.inl rfl) _).setCell (p := ⟨cb, 1, none⟩) (.inl rfl) _).setCell (p := ⟨cb, 2, none⟩) (.inl rfl) _).setCell (p := ⟨cb, 3, none⟩) (.inl rfl) _, ?_⟩
  exact Blk.eq_ ((((HC1.out.set_ 0 _).set_ 1 _).set_ 2 _).set_ 3 _) (by simp)

set_option maxHeartbeats 4000000 in
theorem do65_no (X : SpanC) (m : Mem) (best : List Vl) (fin : List Bool) (i : Inst) (sb vb ib cb : Nat) (v : Vl) (A : Option Addr) (c : Nat) (w : World) (B : Bds X) (hi : IOK X i) (hW : SpW w X m best fin) (hS : Blk w sb 83 #[PB m.S])
    (hV : Blk w vb 45 #[I v.c, I v.s]) (hR : Rd w A i.u.length 3 (icells i.u)) (hcmb : X.cmb best i ≠ v) :
    Calls Tryd.prog 65 #[I i.a, I i.p, .slice A i.u.length c, PB sb, PB vb, PB ib, PB cb] w fun e w' => e = .returned (.bool true) ∧ Below w.heap.size w w' := by
  obtain ⟨cv, hcv⟩ : ∃ cv, cv = X.cmb best i := ⟨_, rfl⟩
  have CC := hide (fun W (hb : Below w.heap.size w W) => by
    have := combine_any X m best fin i.p i.u A c W hi.p0 hi.p1 (by have := hi.len; omega) (hW.below hb) (hR.below hb) B hi.own
    rw [show X.cmb best ⟨0, i.p, i.u⟩ = cv from hcv.symm] at this
    exact this)
  rw [← hcv] at hcmb
  have hc : cv.c ≠ v.c ∨ (cv.c = v.c ∧ cv.s ≠ v.s) := by
    by_cases h1 : cv.c = v.c
    · refine .inr ⟨h1, fun h2 => hcmb ?_⟩
      obtain ⟨a, b⟩ := cv
      obtain ⟨a', b'⟩ := v
      simp only at h1 h2
      rw [h1, h2]
    · exact .inl h1
  have l0 := fun y : LW w => y.cell (hS.cell 0)
  have l1 := fun y : LW w => y.cell (hV.cell 0)
  have l2 := fun y : LW w => y.cell (hV.cell 1)
  simp at l0 l1 l2
  clear hW hS hV hR hcmb hi B hcv
  rcases hc with hc | ⟨hc, hc2⟩
  · have hd : (cv.c == v.c) = false := by simpa using hc
    go_enter Tryd.func65, Tryd.ntmps65
    go_wp2_with fail
    refine wp_region_later (by kernel_rfl) (by kernel_rfl) ?_
    repeat (go_big_quiet_step ((go_at_call 49; exact later_call (CC.out _ (LW.property _)))))
    refine wpQuiet_nil ?_
    rintro W1 ⟨⟨_, hW1⟩, rfl⟩
    go_wp2
    go_ret
    exact ⟨rfl, hW1⟩
  · have hd : (cv.s == v.s) = false := by simpa using hc2
    go_enter Tryd.func65, Tryd.ntmps65
    go_wp2_with fail
    refine wp_region_later (by kernel_rfl) (by kernel_rfl) ?_
    repeat (go_big_quiet_step ((go_at_call 49; exact later_call (CC.out _ (LW.property _)))))
    refine wpQuiet_nil ?_
    rintro W1 ⟨⟨_, hW1⟩, rfl⟩
    go_wp2
    go_ret
    exact ⟨rfl, hW1⟩
end Go.Proofs.YtnifpeamgoapmaaDoor
/- choose -/
namespace Go.Proofs.YtnifpeamgoapmaaDoor
open Go Go.RowKit

theorem find_at {α : Type} (p : α → Bool) : ∀ (xs : List α) (k : Nat) (a : α), xs[k]? = some a → p a = true → (∀ (j : Nat) b, j < k → xs[j]? = some b → p b = false) → xs.find? p = some a
  | [], k, a, h, _, _ => by simp at h
  | x :: xs, 0, a, h, hp, _ => by
    simp at h; subst h
    simp [hp]
  | x :: xs, k + 1, a, h, hp, hn => by
    have h0 := hn 0 x (by omega) rfl
    rw [List.find?_cons, h0]
    exact find_at p xs k a (by simpa using h) hp (fun j b hj hb => hn (j + 1) b (by omega) (by simpa using hb))
/-- the first instance of a rule that attains the value -/
def SpanC.pick (X : SpanC) (best : List Vl) (v : Vl) (r : NRule) : Option Inst := (X.insts r).find? fun i => X.cmb best i == v
/-- one rule of choose -/
def SpanC.chooseR (X : SpanC) (best : List Vl) (h : Int) (v : Vl) (cell : Cel) (idx : Nat) (r : NRule) : Cel :=
  if r.h ≠ h ∨ Inf ≤ v.c ∨ 0 ≤ cell.r then cell else match X.pick best v r with
    | some i => ⟨v, (idx : Int), i.a⟩
    | none => cell
/-- .. and the first k rules -/
def SpanC.chooseK (X : SpanC) (best : List Vl) (h : Int) (v : Vl) : Nat → Cel
  | 0 => noneC
  | k + 1 => match X.G.rules[k]? with
    | some r => X.chooseR best h v (X.chooseK best h v k) k r
    | none => X.chooseK best h v k
/-- choose -/
def SpanC.choose (X : SpanC) (best : List Vl) (h : Int) : Cel := X.chooseK best h (vof best h) X.G.rules.length

abbrev celC (c : Cel) : Array Value := #[I c.v.c, I c.v.s, I c.r, I c.a]
/-- between two instances -/
structure PickInv (X : SpanC) (m : Mem) (best : List Vl) (fin : List Bool) (w0 : World) (sb vb ib cb : Nat) (v : Vl) (idx : Int) (cell : Cel) (W : World) : Prop where
  sp : SpW W X m best fin
  s : Blk W sb 83 #[PB m.S]
  v : Blk W vb 45 #[I v.c, I v.s]
  i : Blk W ib 3 #[I idx]
  c : Blk W cb 47 (celC cell)
  kp : Kp (fun k => k = cb) w0 W
theorem PickInv.below {X : SpanC} {m : Mem} {best : List Vl} {fin : List Bool} {w0 : World} {sb vb ib cb : Nat} {v : Vl} {idx : Int} {cell : Cel} {W W' : World} (h : PickInv X m best fin w0 sb vb ib cb v idx cell W) (hb : Below W.heap.size W W') :
    PickInv X m best fin w0 sb vb ib cb v idx cell W' :=
  ⟨h.sp.below hb, h.s.below hb h.s.lt, h.v.below hb h.v.lt, h.i.below hb h.i.lt, h.c.below hb h.c.lt, h.kp.below hb⟩
/-- a span's memory is kept where only the cell of choose has turned -/
theorem SpW.kpc {w w' : World} {X : SpanC} {m : Mem} {best : List Vl} {fin : List Bool} (h : SpW w X m best fin) {cb : Nat} {cs : Array Value} (hc : Blk w cb 47 cs) (hcn : m.w0.heap.size ≤ cb) (hk : Kp (fun k => k = cb) w w') : SpW w' X m best fin := by
  obtain ⟨han, hv, es, nx, ck, h⟩ := h
  obtain ⟨f5, g5, hR5, hP5⟩ := h.q.Q.ex
  have hne : ∀ {g : Nat} {t : TypeId} {cs' : Array Value}, Blk w g t cs' → t ≠ 47 → ¬ (g = cb) := fun hg ht => Blk.ne_ hg hc ht
  refine ⟨han, hv, es, nx, ck, ⟨h.bel.trans (hk.to_below' h.bel.size (fun k hk e => by omega)), h.args, h.rec_.kp hk (hne h.rec_ (by decide)), h.fi.kp hk (hne h.fi (by decide)), h.ha.kp hk (hne h.ha (by decide)), ?_, h.heap, h.inv, h.flen, h.hlen, h.vok, h.new, h.newh⟩⟩
  refine ⟨⟨f5, g5, hR5.kp hk (fun k hk e => hR5.apart hc (by decide) (by decide) (e ▸ hk)), hP5⟩, ?_, h.q.E⟩
  obtain ⟨cs', b4, b5⟩ := h.q.B.rec_
  exact h.q.B.kp hk (hne h.q.B.sv (by decide)) (hne b4 (by decide)) (hne h.q.B.val (by decide))

/-- one rule of choose, in the program -/
theorem rule65 (X : SpanC) (m : Mem) (best : List Vl) (fin : List Bool) (w0 w : World) (sb vb ib cb : Nat) (v : Vl) (idx : Int) (cell : Cel) (r : NRule) (B : Bds X) (hr : ROK X.G.nT X.G.nN r) (hcn : m.w0.heap.size ≤ cb)
    (hI : PickInv X m best fin w0 sb vb ib cb v idx cell w) :
    Calls Tryd.prog 45 #[PB m.S, RuleA r, .func (.func 65) #[] #[PB sb, PB vb, PB ib, PB cb]] w fun e w' => e = .returned (.tuple #[]) ∧ PickInv X m best fin w0 sb vb ib cb v idx (match X.pick best v r with | some i => ⟨v, idx, i.a⟩ | none => cell) w' := by
  have hD : Doer X m 65 #[PB sb, PB vb, PB ib, PB cb] (X.insts r) (fun k W => PickInv X m best fin w0 sb vb ib cb v idx cell W ∧ ∀ (j : Nat) i, j < k → (X.insts r)[j]? = some i → X.cmb best i ≠ v)
      (fun W => ∃ i, X.pick best v r = some i ∧ PickInv X m best fin w0 sb vb ib cb v idx ⟨v, idx, i.a⟩ W) := by
    refine ⟨fun k W W' h hb => ⟨h.1.below hb, h.2⟩, fun k W h => ⟨_, _, h.1.sp⟩, fun W h => by obtain ⟨i, _, h⟩ := h; exact ⟨_, _, h.sp⟩, fun k i hi W A c h hR => ?_⟩
    obtain ⟨h1, h2⟩ := h
    by_cases hc : X.cmb best i = v
    · refine (do65_yes X m best fin i sb vb ib cb v idx _ _ _ _ A c W B (insts_ok B hr i (List.mem_of_getElem? hi)) h1.sp h1.s h1.v h1.i h1.c hR hc).mono ?_
      rintro e w' ⟨rfl, hk, hb⟩
      have hne : ∀ {g : Nat} {t : TypeId} {cs' : Array Value}, Blk W g t cs' → t ≠ 47 → ¬ (g = cb) := fun hg ht => Blk.ne_ hg h1.c ht
      refine ⟨false, rfl, (fun hf => Bool.noConfusion hf), (fun _ => ⟨i, ?_, ?_⟩), fun g cs hg => hg.kp hk (hne hg (by decide))⟩
      · exact find_at _ _ k i hi (by simpa using hc) (fun j b hj hb => by simpa using h2 j b hj hb)
      · exact ⟨h1.sp.kpc h1.c hcn hk, h1.s.kp hk (hne h1.s (by decide)), h1.v.kp hk (hne h1.v (by decide)), h1.i.kp hk (hne h1.i (by decide)), hb, h1.kp.trans hk⟩
    · refine (do65_no X m best fin i sb vb ib cb v A c W B (insts_ok B hr i (List.mem_of_getElem? hi)) h1.sp h1.s h1.v hR hc).mono ?_
      rintro e w' ⟨rfl, hb⟩
      refine ⟨true, rfl, (fun _ => ⟨h1.below hb, ?_⟩), (fun hf => Bool.noConfusion hf), fun g cs hg => hg.below hb hg.lt⟩
      intro j i' hj hi'
      by_cases hjk : j = k
      · subst hjk; rw [hi] at hi'; injection hi' with hi'; subst hi'; exact hc
      · exact h2 j i' (by omega) hi'
  refine (inst_65 X m (PB sb) (PB vb) (PB ib) (PB cb) r _ _ w B hr hD ⟨hI, fun j i hj => absurd hj (Nat.not_lt_zero _)⟩).mono ?_
  rintro e w' ⟨rfl, ⟨h1, h2⟩ | ⟨i, h1, h2⟩⟩
  · have : X.pick best v r = none := by
      unfold SpanC.pick
      rw [List.find?_eq_none]
      intro i hi
      obtain ⟨j, hj⟩ := List.getElem?_of_mem hi
      simpa using h2 j i (List.getElem?_eq_some_iff.1 hj).1 hj
    rw [this]
    exact ⟨rfl, h1⟩
  · rw [h1]
    exact ⟨rfl, h2⟩
end Go.Proofs.YtnifpeamgoapmaaDoor
/- choose, whole -/
namespace Go.Proofs.YtnifpeamgoapmaaDoor
open Go Go.RowKit

theorem chooseK_succ (X : SpanC) (best : List Vl) (h : Int) (v : Vl) {k : Nat} {r : NRule} (hr : X.G.rules[k]? = some r) : X.chooseK best h v (k + 1) = X.chooseR best h v (X.chooseK best h v k) k r := by
  show (match X.G.rules[k]? with | some r => X.chooseR best h v (X.chooseK best h v k) k r | none => X.chooseK best h v k) = _
  rw [hr]
set_option maxHeartbeats 8000000 in
theorem choose_any (X : SpanC) (m : Mem) (best : List Vl) (fin : List Bool) (h : Int) (w : World) (B : Bds X) (hW : SpW w X m best fin) (h0 : 0 ≤ h) (h1 : h < X.G.nN) :
    Calls Tryd.prog 51 #[PB m.S, .int .i64 h] w fun e w' => e = .returned (CelA (X.choose best h)) ∧ Below w.heap.size w w' := by
  have hN := toN B
  have hrl := B.rl
  obtain ⟨b0, b1⟩ := hW.bcell h0 h1
  obtain ⟨n, rfl⟩ := Int.eq_ofNat_of_zero_le h0
  have hnN : n < X.N := by omega
  simp only [Int.toNat_natCast] at b0 b1
  have c12 := hW.rec_.cell 12
  have c3 := hW.rec_.cell 3
  obtain ⟨RA, hRA⟩ : ∃ RA, m.RA = RA := ⟨_, rfl⟩
  simp [recC] at c12 c3
  rw [hRA] at c3
  obtain ⟨g0, g1, g2, g3⟩ := hW.args.none_
  obtain ⟨v, hv⟩ : ∃ v, v = vof best (n : Int) := ⟨_, rfl⟩
  rw [← hv] at b0 b1
  have HCH := hide (show X.choose best (n : Int) = X.chooseK best (n : Int) v X.G.rules.length by rw [hv]; rfl)
  have hbel := hW.bel.size
  have HW := hide hW
  have HB := hide B
  have n1 := hW.rec_.lt
  have n2 := hW.best_.lt
  have hsz : 0 < w.heap.size := by omega
  have hb4 : ∀ o1 o2 o3 o4, Below w.heap.size w ((((w.alloc o1).alloc o2).alloc o3).alloc o4) := fun o1 o2 o3 o4 => ((((Below.refl _ _).alloc (Nat.le_refl _) _).alloc (by simp) _).alloc (by simp; omega) _).alloc (by simp; omega) _
  have a3 := fun o1 o2 o3 o4 => cell_below (hb4 o1 o2 o3 o4) c3
  have HB4 := hide hb4
  have HRA := hide hRA
  clear hW B hv h0 h1 hb4 hRA
  go_enter Tryd.func51, Tryd.ntmps51
  go_wp2_with fail
  go_loopw [23] (fun s23 wr => ∃ k : Nat, s23 = .int .i64 k ∧ k ≤ X.G.rules.length ∧ SpW wr X m best fin ∧ Blk wr w.heap.size 83 #[PB m.S] ∧ Blk wr (w.heap.size + 1) 47 #[I 0, I 0, I 0, I 0] ∧ Blk wr (w.heap.size + 1 + 1) 45 #[I v.c, I v.s] ∧
    Blk wr (w.heap.size + 1 + 1 + 1) 47 (celC (X.chooseK best (n : Int) v k)) ∧ Below w.heap.size w wr) (fun s23 _ => 20 - (intOf s23).toNat)
  case atStart => exact ⟨0, rfl, Nat.zero_le _, HW.out.below (HB4.out _ _ _ _), (((Blk.new w _ _).alloc _).alloc _).alloc _, ((Blk.new2 w _ _ _).alloc _).alloc _, (Blk.new3 w _ _ _ _).alloc _, by
      have := Blk.new3 (w.alloc (Obj.cells #[PB m.S] 83)) (Obj.cells #[I 0, I 0, I 0, I 0] 47) (Obj.cells #[I v.c, I v.s] 45) 47 #[I Inf, I 0, I (-1), I 0]
      rw [World.size_alloc] at this
      exact this, HB4.out _ _ _ _⟩
  case round =>
    clear c12 c3 g0 g1 g2 g3 a3 b0 b1
    obtain ⟨k, rfl, hk, hs, hbs, hbr, hbv, hbc, hbl⟩ := hrel
    have hcs : (k : Int) < X.G.rules.length ∨ (X.G.rules.length : Int) ≤ k := by omega
    obtain ⟨ce, hce⟩ : ∃ ce, ce = X.chooseK best (n : Int) v k := ⟨_, rfl⟩
    rw [← hce] at hbc
    rcases hcs with hcs | hcs
    · obtain ⟨r, hr⟩ : ∃ r, X.G.rules[k]? = some r := ⟨_, List.getElem?_eq_getElem (by omega)⟩
      obtain ⟨bb, off, hA, r0, r1, r2, r3, r4, r5⟩ := hs.args.rules.rule k hr
      rw [HRA.out] at hA
      subst hA
      have hrok := HB.out.rules r (List.mem_of_getElem? hr)
      have hsucc := chooseK_succ X best (n : Int) v hr
      rw [← hce] at hsucc
      have hb2 : ∀ o1 o2, Below wr.heap.size wr ((wr.alloc o1).alloc o2) := fun o1 o2 => ((Below.refl _ _).alloc (Nat.le_refl _) _).alloc (by simp) _
      have v0 := hbv.cell 0
      have q2 := hbc.cell 2
      have z0 := hbs.cell 0
      simp at v0 q2 z0
      have v0' := fun o1 o2 => cell_below (hb2 o1 o2) v0
      have q2' := fun o1 o2 => cell_below (hb2 o1 o2) q2
      have z0' := fun o1 o2 => cell_below (hb2 o1 o2) z0
      have HS := hide hs
      have HBS := hide hbs
      have HBR := hide hbr
      have HBV := hide hbv
      have HBC := hide hbc
      have HBL := hide hbl
      have HB2 := hide hb2
      have hsize := hbl.size
      have hbcl := hbc.lt
      have hskip : ∀ w', Below wr.heap.size wr w' → X.chooseK best (n : Int) v (k + 1) = ce → SpW w' X m best fin ∧ Blk w' w.heap.size 83 #[PB m.S] ∧ Blk w' (w.heap.size + 1) 47 #[I 0, I 0, I 0, I 0] ∧ Blk w' (w.heap.size + 1 + 1) 45 #[I v.c, I v.s] ∧
          Blk w' (w.heap.size + 1 + 1 + 1) 47 (celC (X.chooseK best (n : Int) v (k + 1))) ∧ Below w.heap.size w w' := fun w' hb he => by
        rw [he]
        exact ⟨hs.below hb, hbs.below hb hbs.lt, hbr.below hb hbr.lt, hbv.below hb hbv.lt, hbc.below hb hbc.lt, hbl.trans (hb.mono hbl.size)⟩
      have HSKIP := hide hskip
      have hcc : r.h ≠ (n : Int) ∨ (r.h = (n : Int) ∧ Inf ≤ v.c) ∨ (r.h = (n : Int) ∧ v.c < Inf ∧ 0 ≤ ce.r) ∨ (r.h = (n : Int) ∧ v.c < Inf ∧ ce.r < 0) := by omega
      have HIB := hide (Blk.new wr 3 #[I k])
      have HRB := hide (Blk.new2 wr (Obj.cells #[I k] 3) 65 (ruleC r))
      clear hs hbs hbr hbv hbc hbl hb2 hskip hce v0 q2 z0
      rcases hcc with h1 | ⟨h1, h2⟩ | ⟨h1, h2, h3⟩ | ⟨h1, h2, h3⟩
      · have HE := hide (show X.chooseK best (n : Int) v (k + 1) = ce by rw [hsucc]; unfold SpanC.chooseR; rw [if_pos (.inl h1)])
        have hd : (r.h == (n : Int)) = false := by simpa using h1
        obtain ⟨rk, rh, ra, rb, rp, ro⟩ := r
        simp only at r0 r1 r2 r3 r4 r5 h1 hd
        clear hr hrok hsucc
        go_wp2_with fail
        go_roundw
        case rel => exact ⟨k + 1, rfl, by omega, HSKIP.out _ (HB2.out _ _) HE.out⟩
        case measure => simp [intOf]; omega
      · have HE := hide (show X.chooseK best (n : Int) v (k + 1) = ce by rw [hsucc]; unfold SpanC.chooseR; rw [if_pos (.inr (.inl h2))])
        unfold Inf at h2
        obtain ⟨rk, rh, ra, rb, rp, ro⟩ := r
        simp only at r0 r1 r2 r3 r4 r5 h1
        subst h1
        clear hr hrok hsucc
        go_wp2_with fail
        go_roundw
        case rel => exact ⟨k + 1, rfl, by omega, HSKIP.out _ (HB2.out _ _) HE.out⟩
        case measure => simp [intOf]; omega
      · have HE := hide (show X.chooseK best (n : Int) v (k + 1) = ce by rw [hsucc]; unfold SpanC.chooseR; rw [if_pos (.inr (.inr h3))])
        unfold Inf at h2
        obtain ⟨rk, rh, ra, rb, rp, ro⟩ := r
        simp only at r0 r1 r2 r3 r4 r5 h1
        subst h1
        clear hr hrok hsucc
        go_wp2_with fail
        go_roundw
        case rel => exact ⟨k + 1, rfl, by omega, HSKIP.out _ (HB2.out _ _) HE.out⟩
        case measure => simp [intOf]; omega
      · have CE := hide (rule65 X m best fin ((wr.alloc (Obj.cells #[I k] 3)).alloc (Obj.cells (ruleC r) 65)) ((wr.alloc (Obj.cells #[I k] 3)).alloc (Obj.cells (ruleC r) 65)) w.heap.size (w.heap.size + 1 + 1) wr.heap.size (w.heap.size + 1 + 1 + 1) v (k : Int) ce r HB.out hrok (by omega)
          ⟨HS.out.below (HB2.out _ _), (HBS.out.alloc _).alloc _, (HBV.out.alloc _).alloc _, HIB.out.alloc _, (HBC.out.alloc _).alloc _, Kp.refl _ _⟩)
        have HE := hide (show X.chooseK best (n : Int) v (k + 1) = (match X.pick best v r with | some i => ⟨v, (k : Int), i.a⟩ | none => ce) by
          rw [hsucc]; unfold SpanC.chooseR; exact if_neg (by omega))
        unfold Inf at h2
        obtain ⟨rk, rh, ra, rb, rp, ro⟩ := r
        simp only at r0 r1 r2 r3 r4 r5 h1
        subst h1
        clear hr hrok hsucc
        go_wp2_with (go_at_call 45; refine CE.out.mono ?_; rintro e w6 ⟨rfl, hp⟩; have HP := hide hp; clear hp)
        go_roundw
        case rel =>
          have hp := HP.out
          have hb := hp.kp.to_below' (B := w.heap.size) (by simp; omega) (fun i hi e => by omega)
          refine ⟨k + 1, rfl, by omega, hp.sp, hp.s, ((HBR.out.alloc _).alloc _).kp hp.kp (by omega), hp.v, ?_, (HBL.out.trans ((HB2.out _ _).mono HBL.out.size)).trans hb⟩
          rw [HE.out]
          exact hp.c
        case measure => simp [intOf]; omega
    · obtain rfl : k = X.G.rules.length := by omega
      have HC := hide (HCH.out.trans hce.symm)
      have q0 := hbc.cell 0
      have q1 := hbc.cell 1
      have q2 := hbc.cell 2
      have q3 := hbc.cell 3
      have p0 := hbr.cell 0
      have p1 := hbr.cell 1
      have p2 := hbr.cell 2
      have p3 := hbr.cell 3
      have f0 := hbr.frozen 0
      have f1 := hbr.frozen 1
      have f2 := hbr.frozen 2
      have f3 := hbr.frozen 3
      simp at q0 q1 q2 q3 p0 p1 p2 p3
      have HBL := hide hbl
      clear hs hbs hbr hbv hbc hbl hce
      go_wp2
      refine bodyPost_ret (v := CelA ce) (by simp [results, Tryd.results51, go_sem, p0, p1, p2, p3]) rfl ⟨by rw [HC.out], ?_⟩
      exact (((HBL.out.setCell (by simp) _).setCell (by simp) _).setCell (by simp) _).setCell (by simp) _
end Go.Proofs.YtnifpeamgoapmaaDoor
/- Span: its record -/
namespace Go.Proofs.YtnifpeamgoapmaaDoor
open Go Go.RowKit

theorem info4 : (Tryd.prog.info? 4).map (fun i => (i.zero, i.size, i.bytes)) = some (some (.bool false), 1, 1) := by kernel_rfl
theorem info3 : (Tryd.prog.info? 3).map (fun i => (i.zero, i.size, i.bytes)) = some (some (.int .i64 0), 1, 8) := by kernel_rfl
theorem make40 (n : Int) (h0 : 0 ≤ n) (h1 : n ≤ 1000) (w : World) : (Instr.makeSlice 40 (.int .i64 n) (.int .i64 n)).run Tryd.prog w = .ok (.slice (some ⟨w.heap.size, 0, none⟩) n.toNat n.toNat) (w.alloc (.cells (madeCells #[I 0, I 0] (n.toNat * 2)) 45)) := by
  obtain ⟨i0, hi, hz0, hz1, hz2⟩ := info_parts info45
  have := run_make w 40 45 i0 _ Tryd.underlying40 hi hz0 .i64 .i64 n n h0 (Int.le_refl _) (by rw [hz2]; omega) (by omega)
  rw [hz1] at this
  exact this
theorem make84 (n : Int) (h0 : 0 ≤ n) (h1 : n ≤ 1000) (w : World) : (Instr.makeSlice 84 (.int .i64 n) (.int .i64 n)).run Tryd.prog w = .ok (.slice (some ⟨w.heap.size, 0, none⟩) n.toNat n.toNat) (w.alloc (.cells (madeCells #[.bool false] (n.toNat * 1)) 4)) := by
  obtain ⟨i0, hi, hz0, hz1, hz2⟩ := info_parts info4
  have := run_make w 84 4 i0 _ Tryd.underlying84 hi hz0 .i64 .i64 n n h0 (Int.le_refl _) (by rw [hz2]; omega) (by omega)
  rw [hz1] at this
  exact this
theorem make26 (n : Int) (h0 : 0 ≤ n) (h1 : n ≤ 1000) (w : World) : (Instr.makeSlice 26 (.int .i64 n) (.int .i64 n)).run Tryd.prog w = .ok (.slice (some ⟨w.heap.size, 0, none⟩) n.toNat n.toNat) (w.alloc (.cells (madeCells #[I 0] (n.toNat * 1)) 3)) := by
  obtain ⟨i0, hi, hz0, hz1, hz2⟩ := info_parts info3
  have := run_make w 26 3 i0 _ Tryd.underlying26 hi hz0 .i64 .i64 n n h0 (Int.le_refl _) (by rw [hz2]; omega) (by omega)
  rw [hz1] at this
  exact this
end Go.Proofs.YtnifpeamgoapmaaDoor
