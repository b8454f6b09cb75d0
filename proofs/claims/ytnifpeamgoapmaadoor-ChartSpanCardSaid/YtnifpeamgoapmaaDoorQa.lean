/- knuth.Less, the queue's order, and which of two entries comes first. -/
import Derived.Test.YtnifpeamgoapmaaDoorProg
import Derived.Test.YtnifpeamgoapmaaDoorBase
import Derived.Test.YtnifpeamgoapmaaDoorM2
import Derived.Test.YtnifpeamgoapmaaDoorM1
set_option linter.unusedVariables false
set_option linter.unusedSimpArgs false
namespace Go.Proofs.YtnifpeamgoapmaaDoor
open Go Go.RowKit

abbrev VA (a : Vl) : Value := .agg #[I a.c, I a.s]

theorem Less_any (a b : Vl) (w : World) :
    Calls Tryd.prog 40 #[VA a, VA b] w fun e w' => e = .returned (.bool (vlt a b)) ∧ Below w.heap.size w w' := by
  have fin : Below w.heap.size w ((w.alloc (Obj.cells #[I a.c, I a.s] 45)).alloc (Obj.cells #[I b.c, I b.s] 45)) := ((Below.refl _ _).alloc (Nat.le_refl _) _).alloc (by simp) _
  have FIN := hide fin
  clear fin
  by_cases h1 : a.c < b.c
  · have hv := hide (show vlt a b = true by simp [vlt, h1])
    go_enter Tryd.func40, Tryd.ntmps40
    go_wp2
    go_ret
    exact ⟨by rw [hv.out]; rfl, FIN.out⟩
  · by_cases h2 : a.c = b.c
    · have hv := hide (show vlt a b = decide (a.s < b.s) by simp [vlt, h2])
      have h1' : decide (a.c < b.c) = false := by simpa using h1
      have h2' : (a.c == b.c) = true := by simpa using h2
      have H2 := hide h2
      clear h2 h1
      go_enter Tryd.func40, Tryd.ntmps40
      go_wp2
      go_ret
      exact ⟨by rw [hv.out]; rfl, FIN.out⟩
    · have hv := hide (show vlt a b = false by simp [vlt, h1, h2])
      have h1' : decide (a.c < b.c) = false := by simpa using h1
      have h2' : (a.c == b.c) = false := by simpa using h2
      clear h2 h1
      go_enter Tryd.func40, Tryd.ntmps40
      go_wp2
      go_ret
      exact ⟨by rw [hv.out]; rfl, FIN.out⟩

def vcells (vs : List Vl) : List Value := vs.flatMap fun v => [I v.c, I v.s]
theorem vcells_length (vs : List Vl) : (vcells vs).length = vs.length * 2 := by
  induction vs with
  | nil => rfl
  | cons e es ih => simp [vcells] at ih ⊢; omega
theorem vcells_get (vs : List Vl) (i : Nat) {v : Vl} (h : vs[i]? = some v) : (vcells vs)[i * 2]? = some (I v.c) ∧ (vcells vs)[i * 2 + 1]? = some (I v.s) := by
  induction vs generalizing i with
  | nil => simp at h
  | cons a es ih =>
    cases i with
    | zero => simp at h; subst h; simp [vcells]
    | succ i =>
      have := ih i (by simpa using h)
      simp only [vcells, List.flatMap_cons] at this ⊢
      have e0 : (i + 1) * 2 = i * 2 + 2 := by omega
      rw [e0]
      simpa using this
theorem vcells_set (vs : List Vl) (i : Nat) (v : Vl) : vcells (vs.set i v) = ((vcells vs).set (i * 2) (I v.c)).set (i * 2 + 1) (I v.s) := by
  induction vs generalizing i with
  | nil => simp [vcells]
  | cons a es ih =>
    cases i with
    | zero => simp [vcells]
    | succ i =>
      have := ih i
      simp only [vcells, List.flatMap_cons, List.set_cons_succ] at this ⊢
      have e0 : (i + 1) * 2 = i * 2 + 2 := by omega
      rw [e0, this]
      simp
/-- What the order of the queue looks at: the variable s, the record's slice of the best values, those values. -/
structure BestAt (w : World) (sv S be N : Nat) (best : List Vl) : Prop where
  len : best.length = N
  sv : Blk w sv 83 #[PB S]
  rec_ : ∃ cs, Blk w S 87 cs ∧ cs[12]? = some (.slice (some ⟨be, 0, none⟩) N N)
  val : Blk w be 45 (vcells best).toArray
theorem BestAt.cells {w : World} {sv S be N : Nat} {best : List Vl} (h : BestAt w sv S be N best) : w.cell? ⟨sv, 0, none⟩ = some (PB S) ∧ w.cell? ⟨S, 12, none⟩ = some (.slice (some ⟨be, 0, none⟩) N N) := by
  obtain ⟨cs, h1, h2⟩ := h.rec_
  exact ⟨by rw [h.sv.cell 0]; rfl, by rw [h1.cell 12]; exact h2⟩
theorem BestAt.at_ {w : World} {sv S be N : Nat} {best : List Vl} (h : BestAt w sv S be N best) (i : Nat) {v : Vl} (hi : best[i]? = some v) : w.cell? ⟨be, i * 2, none⟩ = some (I v.c) ∧ w.cell? ⟨be, i * 2 + 1, none⟩ = some (I v.s) := by
  obtain ⟨h1, h2⟩ := vcells_get best i hi
  rw [h.val.cell, h.val.cell]
  simp [h1, h2]
theorem BestAt.kp {F : Nat → Prop} {w w' : World} {sv S be N : Nat} {best : List Vl} (h : BestAt w sv S be N best) (hk : Kp F w w') (h1 : ¬ F sv) (h2 : ¬ F S) (h3 : ¬ F be) : BestAt w' sv S be N best := by
  obtain ⟨cs, h4, h5⟩ := h.rec_
  exact ⟨h.len, h.sv.kp hk h1, ⟨cs, h4.kp hk h2, h5⟩, h.val.kp hk h3⟩
theorem BestAt.below {w w' : World} {sv S be N : Nat} {best : List Vl} (h : BestAt w sv S be N best) (hb : Below w.heap.size w w') : BestAt w' sv S be N best :=
  h.kp (F := fun _ => False) (Kp.of_below hb) id id id
theorem BestAt.drew {w : World} {sv S be N : Nat} {best : List Vl} (h : BestAt w sv S be N best) : BestAt w.drew sv S be N best := ⟨h.len, h.sv, h.rec_, h.val⟩
theorem BestAt.of_queue {w w' : World} {sv S be N : Nat} {best : List Vl} (h : BestAt w sv S be N best) {q pl : Nat} {lf hv : Value} {es : List Ent} {f : Int → Option Int} {gm : Int → Nat} {nx ck : Int}
    (hQ : QRaw w q pl lf hv es f gm nx ck) (hk : Kp (QF q pl hv) w w') : BestAt w' sv S be N best := by
  obtain ⟨cs, h4, h5⟩ := h.rec_
  exact h.kp hk (hQ.apart h.sv (by decide) (by decide)) (hQ.apart h4 (by decide) (by decide)) (hQ.apart h.val (by decide) (by decide))

set_option maxHeartbeats 400000 in
theorem less_any (sv S be N : Nat) (best : List Vl) (i j : Nat) {vi vj : Vl} (hi : best[i]? = some vi) (hj : best[j]? = some vj) (hN : N ≤ 1000) (w : World) (hb : BestAt w sv S be N best) :
    Calls Tryd.prog 44 #[I i, I j, PB sv] w fun e w' => e = .returned (.bool (vlt vi vj)) ∧ Below w.heap.size w w' := by
  have hil : i < N := by have := (List.getElem?_eq_some_iff.1 hi).1; have := hb.len; omega
  have hjl : j < N := by have := (List.getElem?_eq_some_iff.1 hj).1; have := hb.len; omega
  obtain ⟨e0, e1⟩ := hb.cells
  obtain ⟨i0, i1⟩ := hb.at_ i hi
  obtain ⟨j0, j1⟩ := hb.at_ j hj
  have HI := hide hi
  have HJ := hide hj
  clear hi hj
  go_enter Tryd.func44, Tryd.ntmps44
  go_wp2_with fail
  go_region_held3 (fun w' => w'.cell? ⟨sv, 0, none⟩ = some (PB S) ∧ w'.cell? ⟨S, 12, none⟩ = some (.slice (some ⟨be, 0, none⟩) N N) ∧ w'.cell? ⟨be, i * 2, none⟩ = some (I vi.c) ∧ w'.cell? ⟨be, i * 2 + 1, none⟩ = some (I vi.s) ∧ w'.cell? ⟨be, j * 2, none⟩ = some (I vj.c) ∧ w'.cell? ⟨be, j * 2 + 1, none⟩ = some (I vj.s)) (first | (go_split_ands; refine ⟨?_, ?_, ?_, ?_, ?_, ?_⟩ <;> exact cell_below hb' (by assumption)) | go_keep)
    ((go_at_call 40; refine (Less_any vi vj _).mono ?_; rintro e w' ⟨rfl, hb'⟩))
  go_wp2
  go_ret
  exact ⟨rfl, (Below.refl _ _).drew.trans hb'⟩

/-- the queue's order, as a function value -/
abbrev lessF (sv : Nat) : Value := .func (.func 44) #[] #[PB sv]
/-- every element is one of the N -/
def EOK (es : List Ent) (N : Nat) : Prop := ∀ e ∈ es, 0 ≤ e.x ∧ e.x < (N : Int)
theorem vof_get {best : List Vl} {x : Int} {N : Nat} (h0 : 0 ≤ x) (h1 : x < (N : Int)) (hl : best.length = N) : best[x.toNat]? = some (vof best x) := by
  unfold vof
  have : x.toNat < best.length := by omega
  rw [List.getD, List.getElem?_eq_getElem this]; rfl

set_option maxHeartbeats 1000000 in
theorem before_any (q pl sv S be N i j : Nat) (best : List Vl) (hv : Value) (es : List Ent) (f : Int → Option Int) (gm : Int → Nat) (nx ck : Int) {ei ej : Ent} (hei : es[i]? = some ei) (hej : es[j]? = some ej) (hn : es.length ≤ 1000) (hN : N ≤ 1000) (hE : EOK es N) (w : World)
    (hQ : QRaw w q pl (lessF sv) hv es f gm nx ck) (hB : BestAt w sv S be N best) :
    Calls Tryd.prog 71 #[PB q, I i, I j] w fun e w' => e = .returned (.bool (bef (vof best) ei ej)) ∧ Below w.heap.size w w' := by
  have hil : i < es.length := (List.getElem?_eq_some_iff.1 hei).1
  have hjl : j < es.length := (List.getElem?_eq_some_iff.1 hej).1
  obtain ⟨g, cap, rfl, hr⟩ := hQ.form (by omega)
  obtain ⟨i0, i1, i2⟩ := hr.cells i hei
  obtain ⟨j0, j1, j2⟩ := hr.cells j hej
  have h0 := hQ.rec_.cell 0
  have h1 := hQ.rec_.cell 1
  simp at h0 h1
  have hcap := hr.le.1
  obtain ⟨xi, hxi⟩ := Int.eq_ofNat_of_zero_le (hE ei (List.mem_of_getElem? hei)).1
  obtain ⟨xj, hxj⟩ := Int.eq_ofNat_of_zero_le (hE ej (List.mem_of_getElem? hej)).1
  have hvi := vof_get (hE ei (List.mem_of_getElem? hei)).1 (hE ei (List.mem_of_getElem? hei)).2 hB.len
  have hvj := vof_get (hE ej (List.mem_of_getElem? hej)).1 (hE ej (List.mem_of_getElem? hej)).2 hB.len
  rw [hxi, Int.toNat_natCast] at hvi
  rw [hxj, Int.toNat_natCast] at hvj
  have c1 := fun (W : World) (hb : BestAt W sv S be N best) => less_any sv S be N best xi xj hvi hvj hN W hb
  have c2 := fun (W : World) (hb : BestAt W sv S be N best) => less_any sv S be N best xj xi hvj hvi hN W hb
  rw [← hxi, ← hxj] at c1 c2
  have C1 := hide c1
  have C2 := hide c2
  have ne1 := World.new_ne w _ h0
  have ne2 := World.new_ne w _ i0
  have ne3 := World.new_ne w _ j0
  simp only at ne1 ne2 ne3
  have HB := hide hB
  have HQ := hide hQ
  have HE := hide hE
  clear hvi hvj hxi hxj c1 c2 hei hej hr hB hQ hE
  go_enter Tryd.func71, Tryd.ntmps71
  go_wp2_with fail
  go_cut [7, 8] (fun s7 s8 wx => ∃ a b : Nat, s7 = PB a ∧ s8 = PB b ∧ Blk wx a 114 #[I ei.x, I ei.h, I ei.t] ∧ Blk wx b 114 #[I ej.x, I ej.h, I ej.t] ∧ Below w.heap.size w wx)
  case first =>
    go_region_held3 (fun w' => w'.cell? ⟨q, 1, none⟩ = some (.slice (some ⟨g, 0, none⟩) es.length cap) ∧ w'.cell? ⟨g, i * 3, none⟩ = some (I ei.x) ∧ w'.cell? ⟨g, i * 3 + 1, none⟩ = some (I ei.h) ∧ w'.cell? ⟨g, i * 3 + 2, none⟩ = some (I ei.t) ∧ w'.cell? ⟨g, j * 3, none⟩ = some (I ej.x) ∧ w'.cell? ⟨g, j * 3 + 1, none⟩ = some (I ej.h) ∧ w'.cell? ⟨g, j * 3 + 2, none⟩ = some (I ej.t)) (go_keep) (fail)
    · go_wp2_with fail
      go_meet
      exact ⟨_, _, rfl, rfl, ((Blk.new w 114 _).alloc _).drew, (Blk.new2 w _ 114 _).drew, ((((Below.refl _ _).alloc (Nat.le_refl _) _).alloc (by simp) _).drew)⟩
    · go_wp2_with fail
      go_meet
      exact ⟨_, _, rfl, rfl, (Blk.new2 w _ 114 _).drew, ((Blk.new w 114 _).alloc _).drew, ((((Below.refl _ _).alloc (Nat.le_refl _) _).alloc (by simp) _).drew)⟩
  case rest =>
    obtain ⟨a, b, rfl, rfl, ba, bb, hbel⟩ := hcut
    have a0 := ba.cell 0
    have a2 := ba.cell 2
    have b0 := bb.cell 0
    have b2 := bb.cell 2
    simp at a0 a2 b0 b2
    have h0' := cell_below hbel h0
    have HB1 := hide (HB.out.below hbel)
    have HBEL := hide hbel
    clear i0 i1 i2 j0 j1 j2 h0 h1 ba bb hbel ne1 ne2 ne3
    rcases hb1 : vlt (vof best ei.x) (vof best ej.x) with _ | _
    · have c1 := C1.out
      have c2 := C2.out
      rw [hb1] at c1
      rcases hb2 : vlt (vof best ej.x) (vof best ei.x) with _ | _
      · rw [hb2] at c2
        have hbf := hide (show bef (vof best) ei ej = decide (ei.t < ej.t) by simp [bef, hb1, hb2])
        clear hb1 hb2 C1 C2
        have C1 := hide c1
        have C2 := hide c2
        clear c1 c2
        have l0 := fun x : LW wc => x.cell h0'
        have l1 := fun x : LW wc => x.cell a0
        have l2 := fun x : LW wc => x.cell b0
        go_wp2_with fail
        refine wp_region_later (by kernel_rfl) (by kernel_rfl) ?_
        repeat (go_big_quiet_step ((go_at_call 44; exact later_call (C1.out _ (HB1.out.below (LW.property _))))))
        refine wpQuiet_nil ?_
        rintro W1 ⟨⟨_, hW1⟩, rfl⟩
        have m0 := fun x : LW W1 => x.cell (cell_below hW1 h0')
        have m1 := fun x : LW W1 => x.cell (cell_below hW1 a0)
        have m2 := fun x : LW W1 => x.cell (cell_below hW1 b0)
        have m3 := fun x : LW W1 => x.cell (cell_below hW1 a2)
        have m4 := fun x : LW W1 => x.cell (cell_below hW1 b2)
        have HB2 := hide (HB1.out.below hW1)
        have HBE2 := hide (HBEL.out.trans (hW1.mono HBEL.out.size))
        clear l0 l1 l2 h0' a0 a2 b0 b2 hW1
        go_wp2_with fail
        refine wp_region_later (by kernel_rfl) (by kernel_rfl) ?_
        repeat (go_big_quiet_step ((go_at_call 44; exact later_call (C2.out _ (HB2.out.below (LW.property _))))))
        refine wpQuiet_nil ?_
        rintro W2 ⟨⟨_, hW2⟩, rfl⟩
        go_wp2
        go_ret
        exact ⟨by rw [hbf.out]; rfl, HBE2.out.trans (hW2.mono HBE2.out.size)⟩
      · rw [hb2] at c2
        have hbf := hide (show bef (vof best) ei ej = false by simp [bef, hb1, hb2])
        clear hb1 hb2 C1 C2
        have C1 := hide c1
        have C2 := hide c2
        clear c1 c2
        have l0 := fun x : LW wc => x.cell h0'
        have l1 := fun x : LW wc => x.cell a0
        have l2 := fun x : LW wc => x.cell b0
        go_wp2_with fail
        refine wp_region_later (by kernel_rfl) (by kernel_rfl) ?_
        repeat (go_big_quiet_step ((go_at_call 44; exact later_call (C1.out _ (HB1.out.below (LW.property _))))))
        refine wpQuiet_nil ?_
        rintro W1 ⟨⟨_, hW1⟩, rfl⟩
        have m0 := fun x : LW W1 => x.cell (cell_below hW1 h0')
        have m1 := fun x : LW W1 => x.cell (cell_below hW1 a0)
        have m2 := fun x : LW W1 => x.cell (cell_below hW1 b0)
        have m3 := fun x : LW W1 => x.cell (cell_below hW1 a2)
        have m4 := fun x : LW W1 => x.cell (cell_below hW1 b2)
        have HB2 := hide (HB1.out.below hW1)
        have HBE2 := hide (HBEL.out.trans (hW1.mono HBEL.out.size))
        clear l0 l1 l2 h0' a0 a2 b0 b2 hW1
        go_wp2_with fail
        refine wp_region_later (by kernel_rfl) (by kernel_rfl) ?_
        repeat (go_big_quiet_step ((go_at_call 44; exact later_call (C2.out _ (HB2.out.below (LW.property _))))))
        refine wpQuiet_nil ?_
        rintro W2 ⟨⟨_, hW2⟩, rfl⟩
        go_wp2
        go_ret
        exact ⟨by rw [hbf.out]; rfl, HBE2.out.trans (hW2.mono HBE2.out.size)⟩
    · have c1 := C1.out
      rw [hb1] at c1
      have hbf := hide (show bef (vof best) ei ej = true by simp [bef, hb1])
      clear hb1 C1 C2
      have C1 := hide c1
      clear c1
      have l0 := fun x : LW wc => x.cell h0'
      have l1 := fun x : LW wc => x.cell a0
      have l2 := fun x : LW wc => x.cell b0
      go_wp2_with fail
      refine wp_region_later (by kernel_rfl) (by kernel_rfl) ?_
      repeat (go_big_quiet_step ((go_at_call 44; exact later_call (C1.out _ (HB1.out.below (LW.property _))))))
      refine wpQuiet_nil ?_
      rintro W1 ⟨⟨_, hW1⟩, rfl⟩
      go_wp2
      go_ret
      exact ⟨by rw [hbf.out]; rfl, HBEL.out.trans (hW1.mono HBEL.out.size)⟩
end Go.Proofs.YtnifpeamgoapmaaDoor
