/- The reference: none, Less, Index, Count, Combine. -/
import Derived.Test.YtnifpeamgoapmaaDoorM10
set_option linter.unusedVariables false
set_option linter.unusedSimpArgs false
namespace Go.Proofs.YtnifpeamgoapmaaDoor
open Go Go.RowKit

/-- none -/
theorem none_any (w : World) : Calls Tryd.prog 41 #[] w fun e w' => e = .returned (CelA noneC) ∧ Below w.heap.size w w' := by
  have HB := hide (show ∀ o, Below w.heap.size w (w.alloc o) from fun o => (Below.refl _ _).alloc (Nat.le_refl _) _)
  go_enter Tryd.func41, Tryd.ntmps41
  go_wp2
  exact bodyPost_ret (v := CelA noneC) (by simp [results, Tryd.results41, go_sem, noneC, Inf]) rfl ⟨rfl, HB.out _⟩
/-- Less -/
theorem rless_any (a b : Vl) (w : World) : Calls Tryd.prog 27 #[VA a, VA b] w fun e w' => e = .returned (.bool (vlt a b)) ∧ Below w.heap.size w w' := by
  have HB := hide (show Below w.heap.size w ((w.alloc (Obj.cells #[I a.c, I a.s] 45)).alloc (Obj.cells #[I b.c, I b.s] 45)) from ((Below.refl _ _).alloc (Nat.le_refl _) _).alloc (by simp) _)
  have hc : a.c < b.c ∨ (b.c < a.c) ∨ (a.c = b.c ∧ a.s < b.s) ∨ (a.c = b.c ∧ b.s ≤ a.s) := by omega
  have HV := hide (show vlt a b = (decide (a.c < b.c) || (a.c == b.c && decide (a.s < b.s))) from rfl)
  rcases hc with h1 | h1 | ⟨h1, h2⟩ | ⟨h1, h2⟩
  · have HV := hide (show vlt a b = true by rw [HV.out]; simp [h1])
    go_enter Tryd.func27, Tryd.ntmps27
    go_wp2
    go_ret
    exact ⟨by rw [HV.out]; rfl, HB.out⟩
  · have HV := hide (show vlt a b = false by rw [HV.out]; simp; omega)
    have h2 : (a.c == b.c) = false := by simp; omega
    have h3 : decide (a.c < b.c) = false := by simp; omega
    clear h1
    go_enter Tryd.func27, Tryd.ntmps27
    go_wp2
    go_ret
    exact ⟨by rw [HV.out]; rfl, HB.out⟩
  · have HV := hide (show vlt a b = true by rw [HV.out]; simp [h1, h2])
    have h3 : (a.c == b.c) = true := by simp [h1]
    have h4 : decide (a.c < b.c) = false := by simp; omega
    clear h1
    go_enter Tryd.func27, Tryd.ntmps27
    go_wp2
    go_ret
    exact ⟨by rw [HV.out]; rfl, HB.out⟩
  · have HV := hide (show vlt a b = false by rw [HV.out]; simp [h1]; omega)
    have h5 : decide (a.s < b.s) = false := by simp; omega
    have h3 : (a.c == b.c) = true := by simp [h1]
    have h4 : decide (a.c < b.c) = false := by simp; omega
    clear h1
    go_enter Tryd.func27, Tryd.ntmps27
    go_wp2
    go_ret
    exact ⟨by rw [HV.out]; rfl, HB.out⟩
theorem row_bd (S : Nat) : ∀ f : Nat, row S f ≤ f * S
  | 0 => by simp [row]
  | f + 1 => by
    have := row_bd S f
    show row S f + (S - f) ≤ _
    rw [Nat.add_mul]
    omega
/-- Index -/
theorem index_any (N S f t : Nat) (w : World) (h1 : f ≤ t) (h2 : t < S) (h3 : S ≤ 1000) (h4 : N ≤ 1000) : Calls Tryd.prog 20 #[I (N : Int), I (S : Int), I (f : Int), I (t : Int)] w fun e w' => e = .returned (.int .i64 ((qN S f t * N : Nat) : Int)) ∧ w' = w := by
  have hrb : ∀ k, k ≤ f → row S k ≤ 1000000 := fun k hk => by
    have a1 := row_bd S k
    have a2 : k * S ≤ 1000 * 1000 := Nat.mul_le_mul (by omega) h3
    omega
  have HRB := hide hrb
  have HE := hide (show wrap64 (((row S f : Int) + (t : Int) - (f : Int)) * (N : Int)) = ((qN S f t * N : Nat) : Int) by
    have a1 := hrb f (Nat.le_refl _)
    have e : (row S f : Int) + (t : Int) - (f : Int) = ((qN S f t : Nat) : Int) := by unfold qN; omega
    rw [e, ← Int.natCast_mul]
    have a2 : qN S f t ≤ 2000000 := by unfold qN; omega
    have a3 : qN S f t * N ≤ 2000000 * 1000 := Nat.mul_le_mul a2 h4
    exact w64 (by omega))
  clear hrb
  go_enter Tryd.func20, Tryd.ntmps20
  go_wp2_with fail
  go_loopw [9, 10] (fun s9 s10 wr => ∃ k : Nat, s10 = .int .i64 (k : Int) ∧ s9 = .int .i64 (row S k : Int) ∧ k ≤ f ∧ wr = w) (fun s9 s10 _ => 1000 - (intOf s10).toNat)
  case atStart => exact ⟨0, rfl, rfl, Nat.zero_le _, rfl⟩
  case round =>
    obtain ⟨k, rfl, rfl, hk, rfl⟩ := hrel
    have hkl : (k : Int) < f ∨ (f : Int) ≤ k := by omega
    have a1 := HRB.out k hk
    rcases hkl with hkl | hkl
    · have HR := hide (show ((row S (k + 1) : Nat) : Int) = (row S k : Int) + S - k by
        show ((row S k + (S - k) : Nat) : Int) = _
        omega)
      go_wp2_with fail
      go_roundw
      case rel => exact ⟨k + 1, rfl, by rw [HR.out], by omega, by trivial⟩
      case measure => simp [intOf]; omega
    · obtain rfl : k = f := by omega
      go_wp2
      go_ret
      exact ⟨by rw [← HE.out]; rfl, rfl⟩
end Go.Proofs.YtnifpeamgoapmaaDoor
/- The reference: Combine, better. -/
namespace Go.Proofs.YtnifpeamgoapmaaDoor
open Go Go.RowKit

def cfin2 (a : Vl) : Vl := if Inf ≤ a.c then ⟨Inf, 0⟩ else a
theorem comb_ref (p : Int) (vs : List Vl) (h : ∀ v ∈ vs, VOK v) (hp : 0 ≤ p) : comb p vs = cfin2 (vs.foldl cstep ⟨p, 1⟩) := by
  cases vs with
  | nil =>
    show (if min p Inf = Inf then (⟨Inf, 0⟩ : Vl) else ⟨min p Inf, 1⟩) = if Inf ≤ p then ⟨Inf, 0⟩ else ⟨p, 1⟩
    by_cases hc : Inf ≤ p
    · rw [if_pos (by omega), if_pos hc]
    · rw [if_neg (by omega), if_neg hc, show min p Inf = p by omega]
  | cons v vs =>
    obtain ⟨v1, v2, v3, v4⟩ := h v (by simp)
    have e : cstep ⟨p, 1⟩ v = cstep ⟨min p Inf, 1⟩ v := by
      unfold cstep
      simp only [Vl.mk.injEq, and_true]
      omega
    have hok := fold_ok (fun u hu => h u (by simp [hu])) (cstep_ok (start_ok hp) ⟨v1, v2, v3, v4⟩) (vs := vs)
    unfold comb
    rw [List.foldl_cons, List.foldl_cons, e]
    obtain ⟨o1, o2, o3, o4⟩ := hok
    unfold cfin cfin2
    by_cases hc : (vs.foldl cstep (cstep ⟨min p Inf, 1⟩ v)).c = Inf
    · rw [if_pos hc, if_pos (by omega)]
    · rw [if_neg hc, if_neg (by omega)]

set_option maxHeartbeats 2000000 in
theorem rcombine_any (p : Int) (vs : List Vl) (A : Option Addr) (c : Nat) (w : World) (hp : 0 ≤ p) (hp2 : p ≤ 4000000000000) (hv : ∀ v ∈ vs, VOK v) (hn : vs.length ≤ 1000) (hR : Rd w A vs.length 2 (vcells vs)) :
    Calls Tryd.prog 25 #[.int .i64 p, .slice A vs.length c] w fun e w' => e = .returned (VA (comb p vs)) ∧ Below w.heap.size w w' := by
  obtain ⟨acc, hacc⟩ : ∃ acc : Nat → Vl, acc = fun k => (vs.take k).foldl cstep ⟨p, 1⟩ := ⟨_, rfl⟩
  have h00 : acc 0 = ⟨p, 1⟩ := by rw [hacc]; rfl
  have hst : ∀ k v, vs[k]? = some v → acc (k + 1) = cstep (acc k) v := by rw [hacc]; exact fun k v h => take_snoc_fold h
  have hend : comb p vs = cfin2 (acc vs.length) := by rw [comb_ref p vs hv hp, hacc]; simp
  have hok : ∀ k, k ≤ vs.length → 0 ≤ (acc k).c ∧ (acc k).c ≤ 4000000000000 ∧ 0 ≤ (acc k).s ∧ (acc k).s ≤ Inf := by
    intro k
    induction k with
    | zero => intro _; rw [h00]; simp only [Inf]; omega
    | succ k ih =>
      intro hk
      obtain ⟨v, hv'⟩ : ∃ v, vs[k]? = some v := ⟨_, List.getElem?_eq_getElem (by omega)⟩
      obtain ⟨v1, v2, v3, v4⟩ := hv v (List.mem_of_getElem? hv')
      have := ih (by omega)
      rw [hst k v hv']
      unfold cstep Inf at *
      simp only
      omega
  have HOK := hide hok
  have H00 := hide h00
  have HST := hide hst
  have HEND := hide hend
  have HR := hide hR
  have HV := hide hv
  have HB := hide (show ∀ o, Below w.heap.size w (w.alloc o) from fun o => (Below.refl _ _).alloc (Nat.le_refl _) _)
  have HB0 := hide (Blk.new w 45 #[I 0, I 0])
  clear hok h00 hst hend hR hv hacc
  go_enter Tryd.func25, Tryd.ntmps25
  go_wp2_with fail
  go_loopw [5, 6, 7] (fun s5 s6 s7 wr => ∃ k : Nat, s7 = .int .i64 k ∧ s5 = .int .i64 (acc k).c ∧ s6 = .int .i64 (acc k).s ∧ k ≤ vs.length ∧ Blk wr w.heap.size 45 #[I 0, I 0] ∧ Below w.heap.size w wr) (fun _ _ s7 _ => vs.length - (intOf s7).toNat)
  case atStart => exact ⟨0, rfl, by rw [H00.out], by rw [H00.out], Nat.zero_le _, HB0.out, HB.out _⟩
  case round =>
    obtain ⟨k, rfl, rfl, rfl, hk, b0, hb⟩ := hrel
    have hkl : (k : Int) < vs.length ∨ (vs.length : Int) ≤ k := by omega
    have HBW := hide hb
    have HBB := hide b0
    have d0 := b0.frozen 0
    have d1 := b0.frozen 1
    have e0 := b0.cell 0
    have e1 := b0.cell 1
    simp at e0 e1
    obtain ⟨o1, o2, o3, o4⟩ := HOK.out k hk
    unfold Inf at o4
    clear b0 hb
    rcases hkl with hkl | hkl
    · obtain ⟨v, hv⟩ : ∃ v, vs[k]? = some v := ⟨_, List.getElem?_eq_getElem (by omega)⟩
      obtain ⟨b, off, rfl, r0, r1⟩ := (HR.out.below HBW.out).vl k hv
      obtain ⟨p1, p2, p3, p4⟩ := HV.out v (List.mem_of_getElem? hv)
      unfold Inf at p2 p4
      have HST1 := hide (HST.out k v hv)
      have hkn : k < vs.length := by omega
      clear hv
      have h1 : 1099511627776 < (acc k).c + v.c ∨ (acc k).c + v.c ≤ 1099511627776 := by omega
      have h2 : 1099511627776 < (acc k).s + v.s ∨ (acc k).s + v.s ≤ 1099511627776 := by omega
      rcases h1 with h1 | h1 <;> rcases h2 with h2 | h2
      all_goals
        clear HR HV HOK H00 HST HEND
        go_wp2_with fail
        go_region
        go_wp2_with fail
        go_roundw
        case rel =>
          refine ⟨k + 1, by simp, ?_, ?_, by omega, HBB.out.drew, HBW.out.drew⟩
          · rw [HST1.out]
            simp [cstep, Inf]
            omega
          · rw [HST1.out]
            simp [cstep, Inf]
            omega
        case measure => simp [intOf]; omega
    · have HE := hide (show comb p vs = cfin2 (acc k) by rw [HEND.out, show k = vs.length by omega])
      have hfin : 1099511627776 ≤ (acc k).c ∨ ((acc k).c < 1099511627776) := by omega
      clear HR HV HST HOK H00 HEND
      rcases hfin with hfin | hfin
      · go_wp2
        refine bodyPost_ret (v := VA (comb p vs)) ?_ rfl ⟨rfl, ?_⟩
        · rw [HE.out]
          simp [results, Tryd.results25, go_sem, cfin2, hfin, Inf, e0, e1, d0, d1]
        · exact ((HBW.out.setCell (by simp) _).setCell (by simp) _)
      · go_wp2
        refine bodyPost_ret (v := VA (comb p vs)) ?_ rfl ⟨rfl, ?_⟩
        · rw [HE.out]
          rw [show cfin2 (acc k) = acc k from if_neg (by unfold Inf; omega)]
          simp [results, Tryd.results25, go_sem, e0, e1, d0, d1]
        · exact ((HBW.out.setCell (by simp) _).setCell (by simp) _)

set_option maxHeartbeats 2000000 in
/-- better -/
theorem better_any (a : Cel) (v : Vl) (k x : Int) (w : World) : Calls Tryd.prog 54 #[CelA a, VA v, I k, I x] w fun e w' => e = .returned (CelA (better a v k x)) ∧ Below w.heap.size w w' := by
  have hb2 : ∀ o1 o2 o3, Below w.heap.size w (((w.alloc o1).alloc o2).alloc o3) := fun o1 o2 o3 => (((Below.refl _ _).alloc (Nat.le_refl _) _).alloc (by simp) _).alloc (by simp; omega) _
  have CL := hide (fun W => rless_any v a.v W)
  have HB2 := hide hb2
  have HA := hide (fun W (hb : Below (((w.alloc (Obj.cells #[I a.v.c, I a.v.s, I a.r, I a.a] 47)).alloc (Obj.cells #[I v.c, I v.s] 45)).alloc (Obj.cells #[I 0, I 0, I 0, I 0] 47)).heap.size (((w.alloc (Obj.cells #[I a.v.c, I a.v.s, I a.r, I a.a] 47)).alloc (Obj.cells #[I v.c, I v.s] 45)).alloc (Obj.cells #[I 0, I 0, I 0, I 0] 47)) W) =>
    (show Blk W w.heap.size 47 #[I a.v.c, I a.v.s, I a.r, I a.a] ∧ Blk W (w.heap.size + 1) 45 #[I v.c, I v.s] ∧ Blk W (w.heap.size + 1 + 1) 47 #[I 0, I 0, I 0, I 0] from
      ⟨(((Blk.new w _ _).alloc _).alloc _).below hb (by simp; omega), ((Blk.new2 w _ _ _).alloc _).below hb (by simp), (Blk.new3 w _ _ _ _).below hb (by simp)⟩))
  have hc : Inf ≤ v.c ∨ (v.c < Inf ∧ celLt ⟨v, k, x⟩ a) ∨ (v.c < Inf ∧ ¬ celLt ⟨v, k, x⟩ a) := by
    by_cases h1 : Inf ≤ v.c
    · exact .inl h1
    · by_cases h2 : celLt ⟨v, k, x⟩ a
      · exact .inr (.inl ⟨by omega, h2⟩)
      · exact .inr (.inr ⟨by omega, h2⟩)
  clear hb2
  rcases hc with hc | ⟨h1, hc⟩ | ⟨h1, hc⟩
  · have HE := hide (show better a v k x = a from if_pos hc)
    unfold Inf at hc
    go_enter Tryd.func54, Tryd.ntmps54
    go_wp2
    exact bodyPost_ret (v := CelA a) (by simp [results, Tryd.results54, go_sem]) rfl ⟨by rw [HE.out], HB2.out _ _ _⟩
  · have HE := hide (show better a v k x = ⟨v, k, x⟩ by unfold better; rw [if_neg (by omega), if_pos hc])
    have hcs : (v.c < a.v.c ∧ v.s ≠ a.v.s) ∨ (v.c < a.v.c ∧ v.s = a.v.s) ∨ (v.c = a.v.c ∧ v.s < a.v.s) ∨ (v.c = a.v.c ∧ v.s = a.v.s ∧ k < a.r) ∨ (v.c = a.v.c ∧ v.s = a.v.s ∧ k = a.r ∧ x < a.a) := by
      unfold celLt at hc
      rw [vlt_iff] at hc
      obtain ⟨⟨ac, as_⟩, ar, aa⟩ := a
      obtain ⟨vc, vs⟩ := v
      simp only [Vl.mk.injEq] at *
      omega
    clear hc
    rcases hcs with ⟨k1, k2⟩ | ⟨k1, k2⟩ | ⟨k1, k2⟩ | ⟨k1, k2, k3⟩ | ⟨k1, k2, k3, k4⟩
    · have hl : vlt v a.v = true := by rw [vlt_iff]; omega
      have e1 : (v.c == a.v.c) = false := by simp; omega
      have e2 : (v.s == a.v.s) = false := by simp; omega
      have CL' := CL.out
      rw [hl] at CL'
      have CL2 := hide CL'
      clear CL CL' hl
      unfold Inf at h1
      go_enter Tryd.func54, Tryd.ntmps54
      go_wp2_with (go_at_call 27; refine (CL2.out _).mono ?_; rintro e w3 ⟨rfl, hw3⟩; obtain ⟨b1, b2, b3⟩ := HA.out w3 hw3; have p0 := b1.cell 0; have p1 := b1.cell 1; have p2 := b1.cell 2; have p3 := b1.cell 3; have q0 := b2.cell 0; have q1 := b2.cell 1; have r0 := b3.cell 0; have r1 := b3.cell 1; have r2 := b3.cell 2; have r3 := b3.cell 3; have f0 := b3.frozen 0; have f1 := b3.frozen 1; have f2 := b3.frozen 2; have f3 := b3.frozen 3; simp at p0 p1 p2 p3 q0 q1 r0 r1 r2 r3; have HW3 := hide hw3; clear b1 b2 b3 hw3)
      exact bodyPost_ret (v := CelA ⟨v, k, x⟩) (by simp [results, Tryd.results54, go_sem, r0, r1, r2, r3, f0, f1, f2, f3]) rfl ⟨by rw [HE.out], ((((HB2.out _ _ _).trans (HW3.out.mono (HB2.out _ _ _).size)).setCell (by simp; omega) _).setCell (by simp; omega) _).setCell (by simp; omega) _ |>.setCell (by simp; omega) _⟩
    · have hl : vlt v a.v = true := by rw [vlt_iff]; omega
      have e1 : (v.c == a.v.c) = false := by simp; omega
      have e2 : (v.s == a.v.s) = true := by simp; omega
      clear k2
      have CL' := CL.out
      rw [hl] at CL'
      have CL2 := hide CL'
      clear CL CL' hl
      unfold Inf at h1
      go_enter Tryd.func54, Tryd.ntmps54
      go_wp2_with (go_at_call 27; refine (CL2.out _).mono ?_; rintro e w3 ⟨rfl, hw3⟩; obtain ⟨b1, b2, b3⟩ := HA.out w3 hw3; have p0 := b1.cell 0; have p1 := b1.cell 1; have p2 := b1.cell 2; have p3 := b1.cell 3; have q0 := b2.cell 0; have q1 := b2.cell 1; have r0 := b3.cell 0; have r1 := b3.cell 1; have r2 := b3.cell 2; have r3 := b3.cell 3; have f0 := b3.frozen 0; have f1 := b3.frozen 1; have f2 := b3.frozen 2; have f3 := b3.frozen 3; simp at p0 p1 p2 p3 q0 q1 r0 r1 r2 r3; have HW3 := hide hw3; clear b1 b2 b3 hw3)
      exact bodyPost_ret (v := CelA ⟨v, k, x⟩) (by simp [results, Tryd.results54, go_sem, r0, r1, r2, r3, f0, f1, f2, f3]) rfl ⟨by rw [HE.out], ((((HB2.out _ _ _).trans (HW3.out.mono (HB2.out _ _ _).size)).setCell (by simp; omega) _).setCell (by simp; omega) _).setCell (by simp; omega) _ |>.setCell (by simp; omega) _⟩
    · have hl : vlt v a.v = true := by rw [vlt_iff]; omega
      have e1 : (v.c == a.v.c) = true := by simp; omega
      have e2 : (v.s == a.v.s) = false := by simp; omega
      clear k1
      have CL' := CL.out
      rw [hl] at CL'
      have CL2 := hide CL'
      clear CL CL' hl
      unfold Inf at h1
      go_enter Tryd.func54, Tryd.ntmps54
      go_wp2_with (go_at_call 27; refine (CL2.out _).mono ?_; rintro e w3 ⟨rfl, hw3⟩; obtain ⟨b1, b2, b3⟩ := HA.out w3 hw3; have p0 := b1.cell 0; have p1 := b1.cell 1; have p2 := b1.cell 2; have p3 := b1.cell 3; have q0 := b2.cell 0; have q1 := b2.cell 1; have r0 := b3.cell 0; have r1 := b3.cell 1; have r2 := b3.cell 2; have r3 := b3.cell 3; have f0 := b3.frozen 0; have f1 := b3.frozen 1; have f2 := b3.frozen 2; have f3 := b3.frozen 3; simp at p0 p1 p2 p3 q0 q1 r0 r1 r2 r3; have HW3 := hide hw3; clear b1 b2 b3 hw3)
      exact bodyPost_ret (v := CelA ⟨v, k, x⟩) (by simp [results, Tryd.results54, go_sem, r0, r1, r2, r3, f0, f1, f2, f3]) rfl ⟨by rw [HE.out], ((((HB2.out _ _ _).trans (HW3.out.mono (HB2.out _ _ _).size)).setCell (by simp; omega) _).setCell (by simp; omega) _).setCell (by simp; omega) _ |>.setCell (by simp; omega) _⟩
    · have hl : vlt v a.v = false := by unfold vlt; simp; omega
      have e1 : (v.c == a.v.c) = true := by simp; omega
      have e2 : (v.s == a.v.s) = true := by simp; omega
      clear k1 k2
      have CL' := CL.out
      rw [hl] at CL'
      have CL2 := hide CL'
      clear CL CL' hl
      unfold Inf at h1
      go_enter Tryd.func54, Tryd.ntmps54
      go_wp2_with (go_at_call 27; refine (CL2.out _).mono ?_; rintro e w3 ⟨rfl, hw3⟩; obtain ⟨b1, b2, b3⟩ := HA.out w3 hw3; have p0 := b1.cell 0; have p1 := b1.cell 1; have p2 := b1.cell 2; have p3 := b1.cell 3; have q0 := b2.cell 0; have q1 := b2.cell 1; have r0 := b3.cell 0; have r1 := b3.cell 1; have r2 := b3.cell 2; have r3 := b3.cell 3; have f0 := b3.frozen 0; have f1 := b3.frozen 1; have f2 := b3.frozen 2; have f3 := b3.frozen 3; simp at p0 p1 p2 p3 q0 q1 r0 r1 r2 r3; have HW3 := hide hw3; clear b1 b2 b3 hw3)
      exact bodyPost_ret (v := CelA ⟨v, k, x⟩) (by simp [results, Tryd.results54, go_sem, r0, r1, r2, r3, f0, f1, f2, f3]) rfl ⟨by rw [HE.out], ((((HB2.out _ _ _).trans (HW3.out.mono (HB2.out _ _ _).size)).setCell (by simp; omega) _).setCell (by simp; omega) _).setCell (by simp; omega) _ |>.setCell (by simp; omega) _⟩
    · have hl : vlt v a.v = false := by unfold vlt; simp; omega
      have e1 : (v.c == a.v.c) = true := by simp; omega
      have e2 : (v.s == a.v.s) = true := by simp; omega
      have e3 : (k == a.r) = true := by simp; omega
      have e4 : decide (k < a.r) = false := by simp; omega
      clear k1 k2 k3
      have CL' := CL.out
      rw [hl] at CL'
      have CL2 := hide CL'
      clear CL CL' hl
      unfold Inf at h1
      go_enter Tryd.func54, Tryd.ntmps54
      go_wp2_with (go_at_call 27; refine (CL2.out _).mono ?_; rintro e w3 ⟨rfl, hw3⟩; obtain ⟨b1, b2, b3⟩ := HA.out w3 hw3; have p0 := b1.cell 0; have p1 := b1.cell 1; have p2 := b1.cell 2; have p3 := b1.cell 3; have q0 := b2.cell 0; have q1 := b2.cell 1; have r0 := b3.cell 0; have r1 := b3.cell 1; have r2 := b3.cell 2; have r3 := b3.cell 3; have f0 := b3.frozen 0; have f1 := b3.frozen 1; have f2 := b3.frozen 2; have f3 := b3.frozen 3; simp at p0 p1 p2 p3 q0 q1 r0 r1 r2 r3; have HW3 := hide hw3; clear b1 b2 b3 hw3)
      exact bodyPost_ret (v := CelA ⟨v, k, x⟩) (by simp [results, Tryd.results54, go_sem, r0, r1, r2, r3, f0, f1, f2, f3]) rfl ⟨by rw [HE.out], ((((HB2.out _ _ _).trans (HW3.out.mono (HB2.out _ _ _).size)).setCell (by simp; omega) _).setCell (by simp; omega) _).setCell (by simp; omega) _ |>.setCell (by simp; omega) _⟩
  · have HE := hide (show better a v k x = a by unfold better; rw [if_neg (by omega), if_neg hc])
    have hcs : (a.v.c < v.c ∧ v.s ≠ a.v.s) ∨ (a.v.c < v.c ∧ v.s = a.v.s) ∨ (v.c = a.v.c ∧ a.v.s < v.s) ∨ (v.c = a.v.c ∧ v.s = a.v.s ∧ a.r < k) ∨ (v.c = a.v.c ∧ v.s = a.v.s ∧ k = a.r ∧ a.a ≤ x) := by
      unfold celLt at hc
      rw [vlt_iff] at hc
      obtain ⟨⟨ac, as_⟩, ar, aa⟩ := a
      obtain ⟨vc, vs⟩ := v
      simp only [Vl.mk.injEq] at *
      omega
    clear hc
    have hl : vlt v a.v = false := by unfold vlt; simp; omega
    rcases hcs with ⟨k1, k2⟩ | ⟨k1, k2⟩ | ⟨k1, k2⟩ | ⟨k1, k2, k3⟩ | ⟨k1, k2, k3, k4⟩
    · have e1 : (v.c == a.v.c) = false := by simp; omega
      have e2 : (v.s == a.v.s) = false := by simp; omega
      have CL' := CL.out
      rw [hl] at CL'
      have CL2 := hide CL'
      clear CL CL' hl
      unfold Inf at h1
      go_enter Tryd.func54, Tryd.ntmps54
      go_wp2_with (go_at_call 27; refine (CL2.out _).mono ?_; rintro e w3 ⟨rfl, hw3⟩; obtain ⟨b1, b2, b3⟩ := HA.out w3 hw3; have p0 := b1.cell 0; have p1 := b1.cell 1; have p2 := b1.cell 2; have p3 := b1.cell 3; have q0 := b2.cell 0; have q1 := b2.cell 1; have r0 := b3.cell 0; have r1 := b3.cell 1; have r2 := b3.cell 2; have r3 := b3.cell 3; have f0 := b3.frozen 0; have f1 := b3.frozen 1; have f2 := b3.frozen 2; have f3 := b3.frozen 3; simp at p0 p1 p2 p3 q0 q1 r0 r1 r2 r3; have HW3 := hide hw3; clear b1 b2 b3 hw3)
      exact bodyPost_ret (v := CelA a) (by simp [results, Tryd.results54, go_sem, r0, r1, r2, r3, f0, f1, f2, f3]) rfl ⟨by rw [HE.out], ((((HB2.out _ _ _).trans (HW3.out.mono (HB2.out _ _ _).size)).setCell (by simp; omega) _).setCell (by simp; omega) _).setCell (by simp; omega) _ |>.setCell (by simp; omega) _⟩
    · have e1 : (v.c == a.v.c) = false := by simp; omega
      have e2 : (v.s == a.v.s) = true := by simp; omega
      clear k2
      have CL' := CL.out
      rw [hl] at CL'
      have CL2 := hide CL'
      clear CL CL' hl
      unfold Inf at h1
      go_enter Tryd.func54, Tryd.ntmps54
      go_wp2_with (go_at_call 27; refine (CL2.out _).mono ?_; rintro e w3 ⟨rfl, hw3⟩; obtain ⟨b1, b2, b3⟩ := HA.out w3 hw3; have p0 := b1.cell 0; have p1 := b1.cell 1; have p2 := b1.cell 2; have p3 := b1.cell 3; have q0 := b2.cell 0; have q1 := b2.cell 1; have r0 := b3.cell 0; have r1 := b3.cell 1; have r2 := b3.cell 2; have r3 := b3.cell 3; have f0 := b3.frozen 0; have f1 := b3.frozen 1; have f2 := b3.frozen 2; have f3 := b3.frozen 3; simp at p0 p1 p2 p3 q0 q1 r0 r1 r2 r3; have HW3 := hide hw3; clear b1 b2 b3 hw3)
      exact bodyPost_ret (v := CelA a) (by simp [results, Tryd.results54, go_sem, r0, r1, r2, r3, f0, f1, f2, f3]) rfl ⟨by rw [HE.out], ((((HB2.out _ _ _).trans (HW3.out.mono (HB2.out _ _ _).size)).setCell (by simp; omega) _).setCell (by simp; omega) _).setCell (by simp; omega) _ |>.setCell (by simp; omega) _⟩
    · have e1 : (v.c == a.v.c) = true := by simp; omega
      have e2 : (v.s == a.v.s) = false := by simp; omega
      clear k1
      have CL' := CL.out
      rw [hl] at CL'
      have CL2 := hide CL'
      clear CL CL' hl
      unfold Inf at h1
      go_enter Tryd.func54, Tryd.ntmps54
      go_wp2_with (go_at_call 27; refine (CL2.out _).mono ?_; rintro e w3 ⟨rfl, hw3⟩; obtain ⟨b1, b2, b3⟩ := HA.out w3 hw3; have p0 := b1.cell 0; have p1 := b1.cell 1; have p2 := b1.cell 2; have p3 := b1.cell 3; have q0 := b2.cell 0; have q1 := b2.cell 1; have r0 := b3.cell 0; have r1 := b3.cell 1; have r2 := b3.cell 2; have r3 := b3.cell 3; have f0 := b3.frozen 0; have f1 := b3.frozen 1; have f2 := b3.frozen 2; have f3 := b3.frozen 3; simp at p0 p1 p2 p3 q0 q1 r0 r1 r2 r3; have HW3 := hide hw3; clear b1 b2 b3 hw3)
      exact bodyPost_ret (v := CelA a) (by simp [results, Tryd.results54, go_sem, r0, r1, r2, r3, f0, f1, f2, f3]) rfl ⟨by rw [HE.out], ((((HB2.out _ _ _).trans (HW3.out.mono (HB2.out _ _ _).size)).setCell (by simp; omega) _).setCell (by simp; omega) _).setCell (by simp; omega) _ |>.setCell (by simp; omega) _⟩
    · have e1 : (v.c == a.v.c) = true := by simp; omega
      have e2 : (v.s == a.v.s) = true := by simp; omega
      have e3 : (k == a.r) = false := by simp; omega
      have e4 : decide (k < a.r) = false := by simp; omega
      clear k1 k2
      have CL' := CL.out
      rw [hl] at CL'
      have CL2 := hide CL'
      clear CL CL' hl
      unfold Inf at h1
      go_enter Tryd.func54, Tryd.ntmps54
      go_wp2_with (go_at_call 27; refine (CL2.out _).mono ?_; rintro e w3 ⟨rfl, hw3⟩; obtain ⟨b1, b2, b3⟩ := HA.out w3 hw3; have p0 := b1.cell 0; have p1 := b1.cell 1; have p2 := b1.cell 2; have p3 := b1.cell 3; have q0 := b2.cell 0; have q1 := b2.cell 1; have r0 := b3.cell 0; have r1 := b3.cell 1; have r2 := b3.cell 2; have r3 := b3.cell 3; have f0 := b3.frozen 0; have f1 := b3.frozen 1; have f2 := b3.frozen 2; have f3 := b3.frozen 3; simp at p0 p1 p2 p3 q0 q1 r0 r1 r2 r3; have HW3 := hide hw3; clear b1 b2 b3 hw3)
      exact bodyPost_ret (v := CelA a) (by simp [results, Tryd.results54, go_sem, r0, r1, r2, r3, f0, f1, f2, f3]) rfl ⟨by rw [HE.out], ((((HB2.out _ _ _).trans (HW3.out.mono (HB2.out _ _ _).size)).setCell (by simp; omega) _).setCell (by simp; omega) _).setCell (by simp; omega) _ |>.setCell (by simp; omega) _⟩
    · have e1 : (v.c == a.v.c) = true := by simp; omega
      have e2 : (v.s == a.v.s) = true := by simp; omega
      have e3 : (k == a.r) = true := by simp; omega
      have e4 : decide (k < a.r) = false := by simp; omega
      have e5 : decide (x < a.a) = false := by simp; omega
      clear k1 k2 k3
      have CL' := CL.out
      rw [hl] at CL'
      have CL2 := hide CL'
      clear CL CL' hl
      unfold Inf at h1
      go_enter Tryd.func54, Tryd.ntmps54
      go_wp2_with (go_at_call 27; refine (CL2.out _).mono ?_; rintro e w3 ⟨rfl, hw3⟩; obtain ⟨b1, b2, b3⟩ := HA.out w3 hw3; have p0 := b1.cell 0; have p1 := b1.cell 1; have p2 := b1.cell 2; have p3 := b1.cell 3; have q0 := b2.cell 0; have q1 := b2.cell 1; have r0 := b3.cell 0; have r1 := b3.cell 1; have r2 := b3.cell 2; have r3 := b3.cell 3; have f0 := b3.frozen 0; have f1 := b3.frozen 1; have f2 := b3.frozen 2; have f3 := b3.frozen 3; simp at p0 p1 p2 p3 q0 q1 r0 r1 r2 r3; have HW3 := hide hw3; clear b1 b2 b3 hw3)
      exact bodyPost_ret (v := CelA a) (by simp [results, Tryd.results54, go_sem, r0, r1, r2, r3, f0, f1, f2, f3]) rfl ⟨by rw [HE.out], ((((HB2.out _ _ _).trans (HW3.out.mono (HB2.out _ _ _).size)).setCell (by simp; omega) _).setCell (by simp; omega) _).setCell (by simp; omega) _ |>.setCell (by simp; omega) _⟩
end Go.Proofs.YtnifpeamgoapmaaDoor
/- The reference: At, value. -/
namespace Go.Proofs.YtnifpeamgoapmaaDoor
open Go Go.RowKit

theorem row_ge (S : Nat) : ∀ f : Nat, f ≤ S → f ≤ row S f
  | 0, _ => by simp [row]
  | f + 1, h => by
    have := row_ge S f (by omega)
    show f + 1 ≤ row S f + (S - f)
    omega
/-- At, of any list of cells -/
theorem atP_valid {N S h f t : Nat} {cs : List Cel} (hh : h < N) (h1 : f ≤ t) (h2 : t < S) : atP (N : Int) (S : Int) cs (h : Int) (f : Int) (t : Int) = cs.getD (qN S f t * N + h) noneC := by
  unfold atP
  rw [if_neg (by omega)]
  split
  · rename_i hc
    have e1 := row_ge S f (by omega)
    have e2 : t ≤ qN S f t := by unfold qN; omega
    have e3 : qN S f t ≤ qN S f t * N := Nat.le_mul_of_pos_right _ (by omega)
    have e4 : 0 < f → S ≤ qN S f t := fun hf => by
      have := row_succ_le (S := S) (show 0 < f by omega)
      simp [row] at this
      unfold qN
      omega
    have e5 : 0 < t → N ≤ qN S f t * N := fun ht => by
      have : 1 * N ≤ qN S f t * N := Nat.mul_le_mul_right N (by omega)
      omega
    rw [List.getD, List.getElem?_eq_none]
    · rfl
    · rcases hc with hc | ⟨hc1, hc⟩ | ⟨hc1, hc⟩ | hc
      · omega
      · have := e4 (by omega); omega
      · have := e5 (by omega); omega
      · omega
  · rw [off_nat h1 h2]
    congr 1

set_option maxHeartbeats 4000000 in
/-- At -/
theorem rAt_any (cN cS h f t : Int) (A : Option Addr) (cp : Nat) (cs : List Cel) (w : World) (hR : Rd w A cs.length 4 (ccells cs)) (hN : cN ≤ 1000) (hS : cS ≤ 1000) (hL : cs.length ≤ 1000000) :
    Calls Tryd.prog 26 #[ChartA cN cS A cs.length cp, ItemA h f t] w fun e w' => e = .returned (CelA (atP cN cS cs h f t)) ∧ Below w.heap.size w w' := by
  have hb3 : ∀ o1 o2 o3, Below w.heap.size w (((w.alloc o1).alloc o2).alloc o3) := fun o1 o2 o3 => (((Below.refl _ _).alloc (Nat.le_refl _) _).alloc (by simp) _).alloc (by simp; omega) _
  have HB3 := hide hb3
  have HC := hide (fun W (hb : Below (((w.alloc (Obj.cells #[I cN, I cS, .slice A cs.length cp] 34)).alloc (Obj.cells #[I h, I f, I t] 61)).alloc (Obj.cells #[I 0, I 0, I 0, I 0] 47)).heap.size (((w.alloc (Obj.cells #[I cN, I cS, .slice A cs.length cp] 34)).alloc (Obj.cells #[I h, I f, I t] 61)).alloc (Obj.cells #[I 0, I 0, I 0, I 0] 47)) W) =>
    (show Blk W (w.heap.size + 1 + 1) 47 #[I 0, I 0, I 0, I 0] from (Blk.new3 w _ _ _ _).below hb (by simp)))
  by_cases h1 : h < 0 ∨ (0 ≤ h ∧ cN ≤ h) ∨ (0 ≤ h ∧ h < cN ∧ f < 0) ∨ (0 ≤ h ∧ h < cN ∧ 0 ≤ f ∧ t < f) ∨ (0 ≤ h ∧ h < cN ∧ 0 ≤ f ∧ f ≤ t ∧ cS ≤ t)
  · have HE := hide (show atP cN cS cs h f t = noneC by rw [atP, if_pos (by omega)])
    have CN := hide (fun W => none_any W)
    clear hR hb3
    rcases h1 with h1 | ⟨h1, h2⟩ | ⟨h1, h2, h3⟩ | ⟨h1, h2, h3, h4⟩ | ⟨h1, h2, h3, h4, h5⟩
    all_goals
      go_enter Tryd.func26, Tryd.ntmps26
      go_wp2_with (go_at_call 41; refine (CN.out _).mono ?_; rintro e w3 ⟨rfl, hw3⟩; have b3 := HC.out w3 hw3; have r0 := b3.cell 0; have r1 := b3.cell 1; have r2 := b3.cell 2; have r3 := b3.cell 3; have f0 := b3.frozen 0; have f1 := b3.frozen 1; have f2 := b3.frozen 2; have f3 := b3.frozen 3; simp at r0 r1 r2 r3; have HW3 := hide hw3; clear b3 hw3)
      exact bodyPost_ret (v := CelA noneC) (by simp [results, Tryd.results26, go_sem, r0, r1, r2, r3, f0, f1, f2, f3, noneC]) rfl ⟨by rw [HE.out], ((((HB3.out _ _ _).trans (HW3.out.mono (HB3.out _ _ _).size)).setCell (by simp; omega) _).setCell (by simp; omega) _).setCell (by simp; omega) _ |>.setCell (by simp; omega) _⟩
  · have g1 : 0 ≤ h := by omega
    have g2 : h < cN := by omega
    have g3 : 0 ≤ f := by omega
    have g4 : f ≤ t := by omega
    have g5 : t < cS := by omega
    clear h1
    obtain ⟨h, rfl⟩ := Int.eq_ofNat_of_zero_le g1
    obtain ⟨f, rfl⟩ := Int.eq_ofNat_of_zero_le g3
    obtain ⟨t, rfl⟩ := Int.eq_ofNat_of_zero_le (show 0 ≤ t by omega)
    obtain ⟨N, rfl⟩ := Int.eq_ofNat_of_zero_le (show 0 ≤ cN by omega)
    obtain ⟨S, rfl⟩ := Int.eq_ofNat_of_zero_le (show 0 ≤ cS by omega)
    have HE := hide (show atP (N : Int) (S : Int) cs (h : Int) (f : Int) (t : Int) = cs.getD (qN S f t * N + h) noneC from atP_valid (by omega) (by omega) (by omega))
    have CI := hide (fun W => (index_any N S f t W (by omega) (by omega) (by omega) (by omega)).mono (fun e w' (h : _ ∧ w' = W) => (show _ ∧ Below W.heap.size W w' from ⟨h.1, h.2 ▸ Below.refl _ _⟩)))
    have hqb : qN S f t * N + h ≤ 2000000000 := by
      have a1 := row_bd S f
      have a2 : f * S ≤ 1000 * 1000 := Nat.mul_le_mul (by omega) (by omega)
      have a3 : qN S f t ≤ 1001000 := by unfold qN; omega
      have a4 : qN S f t * N ≤ 1001000 * 1000 := Nat.mul_le_mul a3 (by omega)
      omega
    generalize qN S f t * N = q at HE CI hqb
    have hcs : (cs.length : Int) ≤ (q : Int) + h ∨ (q : Int) + h < (cs.length : Int) := by omega
    rcases hcs with hcs | hcs
    · have HE := hide (show atP (N : Int) (S : Int) cs (h : Int) (f : Int) (t : Int) = noneC by rw [HE.out, List.getD, List.getElem?_eq_none (by omega)]; rfl)
      have CN := hide (fun W => none_any W)
      clear hR hb3
      go_enter Tryd.func26, Tryd.ntmps26
      have b1 := ((Blk.new w 34 #[I (N : Int), I (S : Int), .slice A cs.length cp]).alloc (Obj.cells #[I (h : Int), I (f : Int), I (t : Int)] 61)).alloc (Obj.cells #[I 0, I 0, I 0, I 0] 47)
      have b2 := (Blk.new2 w (Obj.cells #[I (N : Int), I (S : Int), .slice A cs.length cp] 34) 61 #[I (h : Int), I (f : Int), I (t : Int)]).alloc (Obj.cells #[I 0, I 0, I 0, I 0] 47)
      have l0 := fun y : LW (((w.alloc (Obj.cells #[I (N : Int), I (S : Int), .slice A cs.length cp] 34)).alloc (Obj.cells #[I (h : Int), I (f : Int), I (t : Int)] 61)).alloc (Obj.cells #[I 0, I 0, I 0, I 0] 47)) => y.cell (b1.cell 0)
      have l1 := fun y : LW (((w.alloc (Obj.cells #[I (N : Int), I (S : Int), .slice A cs.length cp] 34)).alloc (Obj.cells #[I (h : Int), I (f : Int), I (t : Int)] 61)).alloc (Obj.cells #[I 0, I 0, I 0, I 0] 47)) => y.cell (b1.cell 1)
      have m0 := fun y : LW (((w.alloc (Obj.cells #[I (N : Int), I (S : Int), .slice A cs.length cp] 34)).alloc (Obj.cells #[I (h : Int), I (f : Int), I (t : Int)] 61)).alloc (Obj.cells #[I 0, I 0, I 0, I 0] 47)) => y.cell (b2.cell 0)
      have m1 := fun y : LW (((w.alloc (Obj.cells #[I (N : Int), I (S : Int), .slice A cs.length cp] 34)).alloc (Obj.cells #[I (h : Int), I (f : Int), I (t : Int)] 61)).alloc (Obj.cells #[I 0, I 0, I 0, I 0] 47)) => y.cell (b2.cell 1)
      have m2 := fun y : LW (((w.alloc (Obj.cells #[I (N : Int), I (S : Int), .slice A cs.length cp] 34)).alloc (Obj.cells #[I (h : Int), I (f : Int), I (t : Int)] 61)).alloc (Obj.cells #[I 0, I 0, I 0, I 0] 47)) => y.cell (b2.cell 2)
      simp at l0 l1 m0 m1 m2
      have B1 := hide b1
      clear b1 b2
      go_wp2_with fail
      refine wp_region_later (by kernel_rfl) (by kernel_rfl) ?_
      repeat (go_big_quiet_step ((go_at_call 20; exact later_call (CI.out _))))
      refine wpQuiet_nil ?_
      rintro W1 ⟨⟨_, hW1⟩, rfl⟩
      have n2 := (B1.out.below hW1 B1.out.lt).cell 2
      simp at n2
      have HW1 := hide hW1
      clear l0 l1 m0 m1 m2 hW1
      go_wp2_with (go_at_call 41; refine (CN.out _).mono ?_; rintro e w3 ⟨rfl, hw3⟩; have HW3 := hide (HW1.out.trans (hw3.mono HW1.out.size)); have b3 := HC.out w3 HW3.out; have r0 := b3.cell 0; have r1 := b3.cell 1; have r2 := b3.cell 2; have r3 := b3.cell 3; have f0 := b3.frozen 0; have f1 := b3.frozen 1; have f2 := b3.frozen 2; have f3 := b3.frozen 3; simp at r0 r1 r2 r3;  clear b3 hw3)
      exact bodyPost_ret (v := CelA noneC) (by simp [results, Tryd.results26, go_sem, r0, r1, r2, r3, f0, f1, f2, f3, noneC]) rfl ⟨by rw [HE.out], ((((HB3.out _ _ _).trans (HW3.out.mono (HB3.out _ _ _).size)).setCell (by simp; omega) _).setCell (by simp; omega) _).setCell (by simp; omega) _ |>.setCell (by simp; omega) _⟩
    · obtain ⟨ce, hce⟩ : ∃ ce, cs[q + h]? = some ce := ⟨_, List.getElem?_eq_getElem (by omega)⟩
      have HE := hide (show atP (N : Int) (S : Int) cs (h : Int) (f : Int) (t : Int) = ce by rw [HE.out, List.getD, hce]; rfl)
      obtain ⟨b, off, rfl, x0, x1, x2, x3⟩ := hR.cel (q + h) hce
      have X0 := hide x0
      have X1 := hide x1
      have X2 := hide x2
      have X3 := hide x3
      have htn : ((q : Int) + (h : Int)).toNat = q + h := by omega
      have hqh : q + h < cs.length := by omega
      clear hR hb3 x0 x1 x2 x3 hce
      go_enter Tryd.func26, Tryd.ntmps26
      have b1 := ((Blk.new w 34 #[I (N : Int), I (S : Int), .slice (some ⟨b, off, none⟩) cs.length cp]).alloc (Obj.cells #[I (h : Int), I (f : Int), I (t : Int)] 61)).alloc (Obj.cells #[I 0, I 0, I 0, I 0] 47)
      have b2 := (Blk.new2 w (Obj.cells #[I (N : Int), I (S : Int), .slice (some ⟨b, off, none⟩) cs.length cp] 34) 61 #[I (h : Int), I (f : Int), I (t : Int)]).alloc (Obj.cells #[I 0, I 0, I 0, I 0] 47)
      have l0 := fun y : LW (((w.alloc (Obj.cells #[I (N : Int), I (S : Int), .slice (some ⟨b, off, none⟩) cs.length cp] 34)).alloc (Obj.cells #[I (h : Int), I (f : Int), I (t : Int)] 61)).alloc (Obj.cells #[I 0, I 0, I 0, I 0] 47)) => y.cell (b1.cell 0)
      have l1 := fun y : LW (((w.alloc (Obj.cells #[I (N : Int), I (S : Int), .slice (some ⟨b, off, none⟩) cs.length cp] 34)).alloc (Obj.cells #[I (h : Int), I (f : Int), I (t : Int)] 61)).alloc (Obj.cells #[I 0, I 0, I 0, I 0] 47)) => y.cell (b1.cell 1)
      have m0 := fun y : LW (((w.alloc (Obj.cells #[I (N : Int), I (S : Int), .slice (some ⟨b, off, none⟩) cs.length cp] 34)).alloc (Obj.cells #[I (h : Int), I (f : Int), I (t : Int)] 61)).alloc (Obj.cells #[I 0, I 0, I 0, I 0] 47)) => y.cell (b2.cell 0)
      have m1 := fun y : LW (((w.alloc (Obj.cells #[I (N : Int), I (S : Int), .slice (some ⟨b, off, none⟩) cs.length cp] 34)).alloc (Obj.cells #[I (h : Int), I (f : Int), I (t : Int)] 61)).alloc (Obj.cells #[I 0, I 0, I 0, I 0] 47)) => y.cell (b2.cell 1)
      have m2 := fun y : LW (((w.alloc (Obj.cells #[I (N : Int), I (S : Int), .slice (some ⟨b, off, none⟩) cs.length cp] 34)).alloc (Obj.cells #[I (h : Int), I (f : Int), I (t : Int)] 61)).alloc (Obj.cells #[I 0, I 0, I 0, I 0] 47)) => y.cell (b2.cell 2)
      simp at l0 l1 m0 m1 m2
      have B1 := hide b1
      clear b1 b2
      go_wp2_with fail
      refine wp_region_later (by kernel_rfl) (by kernel_rfl) ?_
      repeat (go_big_quiet_step ((go_at_call 20; exact later_call (CI.out _))))
      refine wpQuiet_nil ?_
      rintro W1 ⟨⟨_, hW1⟩, rfl⟩
      have n2 := (B1.out.below hW1 B1.out.lt).cell 2
      simp at n2
      have y0 := cell_below ((HB3.out _ _ _).trans (hW1.mono (HB3.out _ _ _).size)) X0.out
      have y1 := cell_below ((HB3.out _ _ _).trans (hW1.mono (HB3.out _ _ _).size)) X1.out
      have y2 := cell_below ((HB3.out _ _ _).trans (hW1.mono (HB3.out _ _ _).size)) X2.out
      have y3 := cell_below ((HB3.out _ _ _).trans (hW1.mono (HB3.out _ _ _).size)) X3.out
      have b3 := HC.out W1 hW1
      have r0 := b3.cell 0
      have r1 := b3.cell 1
      have r2 := b3.cell 2
      have r3 := b3.cell 3
      have f0 := b3.frozen 0
      have f1 := b3.frozen 1
      have f2 := b3.frozen 2
      have f3 := b3.frozen 3
      simp at r0 r1 r2 r3
      have HW1 := hide hW1
      clear l0 l1 m0 m1 m2 hW1 b3
      go_wp2
      exact bodyPost_ret (v := CelA ce) (by simp [results, Tryd.results26, go_sem, r0, r1, r2, r3, f0, f1, f2, f3]) rfl ⟨by rw [HE.out], ((((HB3.out _ _ _).trans (HW1.out.mono (HB3.out _ _ _).size)).setCell (by simp; omega) _).setCell (by simp; omega) _).setCell (by simp; omega) _ |>.setCell (by simp; omega) _⟩
end Go.Proofs.YtnifpeamgoapmaaDoor
