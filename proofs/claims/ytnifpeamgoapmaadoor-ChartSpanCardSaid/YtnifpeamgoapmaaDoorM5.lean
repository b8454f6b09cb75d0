/- chart.At, where the item has a cell. -/
import Derived.Test.YtnifpeamgoapmaaDoorCa
import Derived.Test.YtnifpeamgoapmaaDoorM1
set_option linter.unusedVariables false
set_option linter.unusedSimpArgs false
namespace Go.Proofs.YtnifpeamgoapmaaDoor
open Go Go.RowKit

theorem Blk.new3 (w : World) (o o' : Obj) (t : TypeId) (cs : Array Value) : Blk (((w.alloc o).alloc o').alloc (.cells cs t)) (w.heap.size + 1 + 1) t cs := by
  have := Blk.new ((w.alloc o).alloc o') t cs
  rwa [World.size_alloc, World.size_alloc] at this

set_option maxHeartbeats 2000000 in
theorem At_in_some (cN cS h f t : Int) (A : Option Addr) (cp : Nat) (cs : List Cel) (w : World) (hG : NoneAt w) (hR : Rd w A cs.length 4 (ccells cs)) (hN : cN ≤ 1000) (hS : cS ≤ 1000) (hL : cs.length ≤ 1000000)
    (h1 : 0 ≤ h) (h2 : h < cN) (h3 : 0 ≤ f) (h4 : f ≤ t) (h5 : t < cS)
    (hc : ¬ ((cs.length : Int) < t ∨ (0 < f ∧ (cs.length : Int) < cS) ∨ (0 < t ∧ (cs.length : Int) < cN) ∨ (cs.length : Int) ≤ h)) :
    Calls Tryd.prog 28 #[ChartA cN cS A cs.length cp, ItemA h f t] w fun e w' => e = .returned (CelA (atP cN cS cs h f t)) ∧ Below w.heap.size w w' := by
  have q1 : t ≤ (cs.length : Int) := by omega
  have qq : (¬ 0 < f ∧ ¬ 0 < t) ∨ (¬ 0 < f ∧ 0 < t ∧ cN ≤ (cs.length : Int)) ∨ (0 < f ∧ cS ≤ (cs.length : Int) ∧ 0 < t ∧ cN ≤ (cs.length : Int)) := by omega
  have q4 : h < (cs.length : Int) := by omega
  have ho := offP_nonneg h3 h4 h5 (show 0 ≤ cN by omega)
  have ho2 := offP_le h3 h4 h5 (show 0 ≤ cN by omega) hN hS
  have HA := hide (show atP cN cS cs h f t = cs.getD (offP cN cS f t + h).toNat noneC by rw [atP, if_neg (by omega), if_neg hc])
  have b1 : Blk (((w.alloc (Obj.cells #[I cN, I cS, .slice A cs.length cp] 34)).alloc (Obj.cells #[I h, I f, I t] 61)).alloc (Obj.cells #[I 0, I 0, I 0, I 0] 47)) w.heap.size 34 #[I cN, I cS, .slice A cs.length cp] := ((Blk.new w _ _).alloc _).alloc _
  have b2 : Blk (((w.alloc (Obj.cells #[I cN, I cS, .slice A cs.length cp] 34)).alloc (Obj.cells #[I h, I f, I t] 61)).alloc (Obj.cells #[I 0, I 0, I 0, I 0] 47)) (w.heap.size + 1) 61 #[I h, I f, I t] := (Blk.new2 w _ _ _).alloc _
  have b3 : Blk (((w.alloc (Obj.cells #[I cN, I cS, .slice A cs.length cp] 34)).alloc (Obj.cells #[I h, I f, I t] 61)).alloc (Obj.cells #[I 0, I 0, I 0, I 0] 47)) (w.heap.size + 1 + 1) 47 #[I 0, I 0, I 0, I 0] := Blk.new3 w _ _ _ _
  have hb0 : Below w.heap.size w (((w.alloc (Obj.cells #[I cN, I cS, .slice A cs.length cp] 34)).alloc (Obj.cells #[I h, I f, I t] 61)).alloc (Obj.cells #[I 0, I 0, I 0, I 0] 47)) :=
    ((((Below.refl _ _).alloc (Nat.le_refl _) _).alloc (by simp) _).alloc (by simp; omega) _)
  have l1 := fun x : LW (((w.alloc (Obj.cells #[I cN, I cS, .slice A cs.length cp] 34)).alloc (Obj.cells #[I h, I f, I t] 61)).alloc (Obj.cells #[I 0, I 0, I 0, I 0] 47)) => x.cell (b1.cell 0)
  have l2 := fun x : LW (((w.alloc (Obj.cells #[I cN, I cS, .slice A cs.length cp] 34)).alloc (Obj.cells #[I h, I f, I t] 61)).alloc (Obj.cells #[I 0, I 0, I 0, I 0] 47)) => x.cell (b1.cell 1)
  have l3 := fun x : LW (((w.alloc (Obj.cells #[I cN, I cS, .slice A cs.length cp] 34)).alloc (Obj.cells #[I h, I f, I t] 61)).alloc (Obj.cells #[I 0, I 0, I 0, I 0] 47)) => x.cell (b1.cell 2)
  have l4 := fun x : LW (((w.alloc (Obj.cells #[I cN, I cS, .slice A cs.length cp] 34)).alloc (Obj.cells #[I h, I f, I t] 61)).alloc (Obj.cells #[I 0, I 0, I 0, I 0] 47)) => x.cell (b2.cell 0)
  have l5 := fun x : LW (((w.alloc (Obj.cells #[I cN, I cS, .slice A cs.length cp] 34)).alloc (Obj.cells #[I h, I f, I t] 61)).alloc (Obj.cells #[I 0, I 0, I 0, I 0] 47)) => x.cell (b2.cell 1)
  have l6 := fun x : LW (((w.alloc (Obj.cells #[I cN, I cS, .slice A cs.length cp] 34)).alloc (Obj.cells #[I h, I f, I t] 61)).alloc (Obj.cells #[I 0, I 0, I 0, I 0] 47)) => x.cell (b2.cell 2)
  have HB1 := hide b1
  have HB2 := hide b2
  have HB3 := hide b3
  have HB0 := hide hb0
  have HG := hide hG
  have HR := hide hR
  have C1 := hide (fun (W : World) => offset_any cN cS f t A cs.length cp W h3 h4 (by omega) (by omega) hN (by omega) hS)
  have n0 := World.new_ne w _ hG.1
  simp only at n0
  clear b1 b2 b3 hb0 hG hR hc
  have hr2 : (cs.length : Int) ≤ offP cN cS f t + h ∨ offP cN cS f t + h < (cs.length : Int) := by omega
  obtain ⟨O, hO⟩ : ∃ O, O = offP cN cS f t := ⟨_, rfl⟩
  rw [← hO] at ho ho2 hr2
  have HO := hide hO
  rw [← hO] at C1
  clear hO
  rcases hr2 with hr2 | hr2
  · have HZ := hide (show cs.getD (O + h).toNat noneC = noneC by rw [List.getD, List.getElem?_eq_none (by omega)]; rfl)
    rcases qq with ⟨k1, k2⟩ | ⟨k1, k2, k3⟩ | ⟨k1, k2, k3, k4⟩
    all_goals
      go_enter Tryd.func28, Tryd.ntmps28
      go_wp2_with fail
      refine wp_region_later (by kernel_rfl) (by kernel_rfl) ?_
      repeat (go_big_quiet_step ((go_at_call 33; exact later_call (C1.out _))))
      refine wpQuiet_nil ?_
      rintro W1 ⟨⟨_, hW1⟩, rfl⟩
      have hG1 := (HG.out.below HB0.out).below hW1
      obtain ⟨g0, g1, g2, g3⟩ := hG1
      have HBB3 := HB3.out.below hW1 HB3.out.lt
      have r0 := HBB3.cell 0
      have r1 := HBB3.cell 1
      have r2 := HBB3.cell 2
      have r3 := HBB3.cell 3
      have s0 := HBB3.frozen 0
      have s1 := HBB3.frozen 1
      have s2 := HBB3.frozen 2
      have s3 := HBB3.frozen 3
      simp at r0 r1 r2 r3
      have HFB := hide (HB0.out.trans (hW1.mono HB0.out.size))
      have HN3 := hide (Nat.lt_of_lt_of_le HB3.out.lt hW1.size)
      clear l1 l2 l3 l4 l5 l6 hW1 HBB3 C1
      go_wp2
      refine bodyPost_ret (v := CelA noneC) (by simp [results, Tryd.results28, go_sem, noneC, r0, r1, r2, r3]) rfl ⟨by rw [HA.out, ← HO.out, HZ.out], ?_⟩
      exact (((HFB.out.setCell (by simp; omega) _).setCell (by simp; omega) _).setCell (by simp; omega) _).setCell (by simp; omega) _
  · obtain ⟨i, hi⟩ := Int.eq_ofNat_of_zero_le (show 0 ≤ O + h by omega)
    have hil : i < cs.length := by omega
    obtain ⟨ce, hce⟩ : ∃ c, cs[i]? = some c := ⟨_, List.getElem?_eq_getElem hil⟩
    have HZ := hide (show cs.getD (O + h).toNat noneC = ce by rw [hi, Int.toNat_natCast, List.getD, hce]; rfl)
    have HCE := hide hce
    have HI := hide hi
    clear hce
    obtain ⟨hq, hiq⟩ : ∃ z : Int, z = O + h := ⟨_, rfl⟩
    rcases qq with ⟨k1, k2⟩ | ⟨k1, k2, k3⟩ | ⟨k1, k2, k3, k4⟩
    all_goals
      clear hi hiq
      go_enter Tryd.func28, Tryd.ntmps28
      go_wp2_with fail
      refine wp_region_later (by kernel_rfl) (by kernel_rfl) ?_
      repeat (go_big_quiet_step ((go_at_call 33; exact later_call (C1.out _))))
      refine wpQuiet_nil ?_
      rintro W1 ⟨⟨_, hW1⟩, rfl⟩
      have hR1 := (HR.out.below HB0.out).below hW1
      obtain ⟨b, off, rfl, x0, x1, x2, x3⟩ := hR1.cel i HCE.out
      have HBB3 := HB3.out.below hW1 HB3.out.lt
      have HBB1 := HB1.out.below hW1 HB1.out.lt
      have y2 := HBB1.cell 2
      have r0 := HBB3.cell 0
      have r1 := HBB3.cell 1
      have r2 := HBB3.cell 2
      have r3 := HBB3.cell 3
      have s0 := HBB3.frozen 0
      have s1 := HBB3.frozen 1
      have s2 := HBB3.frozen 2
      have s3 := HBB3.frozen 3
      simp at r0 r1 r2 r3 y2
      have HFB := hide (HB0.out.trans (hW1.mono HB0.out.size))
      clear l1 l2 l3 l4 l5 l6 hW1 HBB3 HBB1 C1 hR1
      rw [HI.out]
      have hii : (i : Int) < (cs.length : Int) := by omega
      go_wp2
      refine bodyPost_ret (v := CelA ce) (by simp [results, Tryd.results28, go_sem, r0, r1, r2, r3]) rfl ⟨by rw [HA.out, ← HO.out, HZ.out], ?_⟩
      exact (((HFB.out.setCell (by simp; omega) _).setCell (by simp; omega) _).setCell (by simp; omega) _).setCell (by simp; omega) _
end Go.Proofs.YtnifpeamgoapmaaDoor
/- knuth.Combine. -/
namespace Go.Proofs.YtnifpeamgoapmaaDoor
open Go Go.RowKit

theorem Rd.vl {w : World} {A : Option Addr} {n : Nat} {vs : List Vl} (h : Rd w A n 2 (vcells vs)) (i : Nat) {v : Vl} (hi : vs[i]? = some v) :
    ∃ b off, A = some ⟨b, off, none⟩ ∧ w.cell? ⟨b, off + i * 2, none⟩ = some (I v.c) ∧ w.cell? ⟨b, off + i * 2 + 1, none⟩ = some (I v.s) := by
  have hl := (List.getElem?_eq_some_iff.1 hi).1
  have hn : n = vs.length := by have := h.1; rw [vcells_length] at this; omega
  obtain ⟨b, off, e, h2⟩ := h.2 (by omega)
  obtain ⟨g0, g1⟩ := vcells_get vs i hi
  exact ⟨b, off, e, h2 _ _ g0, h2 _ _ g1⟩
theorem take_snoc_fold {vs : List Vl} {k : Nat} {v a : Vl} (h : vs[k]? = some v) : (vs.take (k + 1)).foldl cstep a = cstep ((vs.take k).foldl cstep a) v := by
  obtain ⟨hl, e⟩ := List.getElem?_eq_some_iff.1 h
  rw [List.take_succ_eq_append_getElem hl, List.foldl_append, e]
  rfl

theorem Blk.eq_ {w : World} {g : Nat} {t : TypeId} {cs cs' : Array Value} (h : Blk w g t cs) (e : cs = cs') : Blk w g t cs' := e ▸ h
set_option maxHeartbeats 2000000 in
theorem Combine_any (p : Int) (vs : List Vl) (A : Option Addr) (c : Nat) (w : World) (hp : 0 ≤ p) (hp2 : p ≤ 4000000000000) (hv : ∀ v ∈ vs, VOK v) (hn : vs.length ≤ 1000) (hR : Rd w A vs.length 2 (vcells vs)) :
    Calls Tryd.prog 39 #[.int .i64 p, .slice A vs.length c] w fun e w' => e = .returned (VA (comb p vs)) ∧ Below w.heap.size w w' := by
  have hrow : ∀ k, VOK ((vs.take k).foldl cstep ⟨min p Inf, 1⟩) := fun k => fold_ok (fun v h => hv v (List.mem_of_mem_take h)) (start_ok hp)
  obtain ⟨acc, hacc⟩ : ∃ acc : Nat → Vl, acc = fun k => (vs.take k).foldl cstep ⟨min p Inf, 1⟩ := ⟨_, rfl⟩
  have hok : ∀ k, VOK (acc k) := by rw [hacc]; exact hrow
  have h00 : acc 0 = ⟨min p Inf, 1⟩ := by rw [hacc]; rfl
  have hst : ∀ k v, vs[k]? = some v → acc (k + 1) = cstep (acc k) v := by rw [hacc]; exact fun k v h => take_snoc_fold h
  have hend : comb p vs = cfin (acc vs.length) := by rw [hacc]; simp [comb]
  have HOK := hide hok
  have H00 := hide h00
  have HST := hide hst
  have HEND := hide hend
  have HR := hide hR
  have HV := hide hv
  clear hok h00 hst hend hR hv hrow hacc
  have hpc : 1099511627776 < p ∨ p ≤ 1099511627776 := by omega
  rcases hpc with hpc | hpc
  all_goals
    go_enter Tryd.func39, Tryd.ntmps39
    go_wp2_with fail
    go_loopw [13] (fun s13 wr => ∃ k : Nat, s13 = .int .i64 k ∧ k ≤ vs.length ∧ Blk wr (w.heap.size + 1) 45 #[I (acc k).c, I (acc k).s] ∧ Blk wr w.heap.size 45 #[I 0, I 0] ∧ Below w.heap.size w wr) (fun s13 _ => vs.length - (intOf s13).toNat)
    case atStart =>
      refine ⟨0, rfl, Nat.zero_le _, ?_, (Blk.new w _ _).alloc _, ((Below.refl _ _).alloc (Nat.le_refl _) _).alloc (by simp) _⟩
      refine Blk.eq_ (Blk.new2 w _ _ _) ?_
      rw [H00.out]
      simp [Inf]
      omega
    case round =>
      obtain ⟨k, rfl, hk, b1, b0, hb⟩ := hrel
      have hkl : (k : Int) < vs.length ∨ (k : Int) = vs.length := by omega
      have HB1 := hide b1
      have HB0 := hide b0
      have HB := hide hb
      have c0 := b1.cell 0
      have c1 := b1.cell 1
      have f0 := b1.frozen 0
      have f1 := b1.frozen 1
      have d0 := b0.frozen 0
      have d1 := b0.frozen 1
      have e0 := b0.cell 0
      have e1 := b0.cell 1
      simp at c0 c1 e0 e1
      have hok := HOK.out k
      obtain ⟨o1, o2, o3, o4⟩ := hok
      unfold Inf at o2 o4
      clear b1 b0 hb
      rcases hkl with hkl | hkl
      · obtain ⟨v, hv⟩ : ∃ v, vs[k]? = some v := ⟨_, List.getElem?_eq_getElem (by omega)⟩
        obtain ⟨b, off, rfl, r0, r1⟩ := (HR.out.below HB.out).vl k hv
        obtain ⟨p1, p2, p3, p4⟩ := HV.out v (List.mem_of_getElem? hv)
        unfold Inf at p2 p4
        have HVK := hide hv
        have HST1 := hide (HST.out k v hv)
        have hn1 := HB0.out.lt
        have hn2 := HB1.out.lt
        clear hv
        have h1 : 1099511627776 < (acc k).c + v.c ∨ (acc k).c + v.c ≤ 1099511627776 := by omega
        have h2 : 1099511627776 < (acc k).s + v.s ∨ (acc k).s + v.s ≤ 1099511627776 := by omega
        rcases h1 with h1 | h1 <;> rcases h2 with h2 | h2
        all_goals
          clear HR HV HOK H00 HST HEND
          go_wp2_with fail
          go_roundw
          case rel =>
            refine ⟨k + 1, rfl, by omega, ?_, ((HB0.out.far (by simp) _).far (by simp) _).alloc _, ((HB.out.setCell (by simp) _).setCell (by simp) _).alloc (by simp; omega) _⟩
            refine Blk.eq_ (((HB1.out.set_ 0 _).set_ 1 _).alloc _) ?_
            rw [HST1.out]
            simp [cstep, Inf]
            omega
          case measure => simp [intOf]; omega
      · have HE := hide (show comb p vs = cfin (acc k) by rw [HEND.out, show k = vs.length by omega])
        have hfin : (acc k).c = 1099511627776 ∨ ((acc k).c < 1099511627776) := by omega
        have hfr := HB.out
        clear HR HV HST HOK H00 HEND
        rcases hfin with hfin | hfin
        · rw [hfin] at c0
          go_wp2
          refine bodyPost_ret (v := VA (comb p vs)) ?_ rfl ⟨rfl, ?_⟩
          · rw [HE.out]
            simp [results, Tryd.results39, go_sem, cfin, hfin, Inf, e0, e1, d0, d1]
          · exact ((hfr.setCell (by simp) _).setCell (by simp) _)
        · go_wp2
          refine bodyPost_ret (v := VA (comb p vs)) ?_ rfl ⟨rfl, ?_⟩
          · rw [HE.out]
            rw [show cfin (acc k) = acc k from if_neg (by unfold Inf; omega)]
            simp [results, Tryd.results39, go_sem, e0, e1, d0, d1]
          · exact ((hfr.setCell (by simp) _).setCell (by simp) _)
end Go.Proofs.YtnifpeamgoapmaaDoor
/- The memory of a span's computation. -/
namespace Go.Proofs.YtnifpeamgoapmaaDoor
open Go Go.RowKit

/-- chart.At -/
theorem At_any (cN cS h f t : Int) (A : Option Addr) (cp : Nat) (cs : List Cel) (w : World) (hG : NoneAt w) (hR : Rd w A cs.length 4 (ccells cs)) (hN : cN ≤ 1000) (hS : cS ≤ 1000) (hL : cs.length ≤ 1000000) :
    Calls Tryd.prog 28 #[ChartA cN cS A cs.length cp, ItemA h f t] w fun e w' => e = .returned (CelA (atP cN cS cs h f t)) ∧ Below w.heap.size w w' := by
  by_cases h1 : h < 0 ∨ (0 ≤ h ∧ cN ≤ h) ∨ (0 ≤ h ∧ h < cN ∧ f < 0) ∨ (0 ≤ h ∧ h < cN ∧ 0 ≤ f ∧ t < f) ∨ (0 ≤ h ∧ h < cN ∧ 0 ≤ f ∧ f ≤ t ∧ cS ≤ t)
  · rw [show atP cN cS cs h f t = noneC by rw [atP, if_pos (by omega)]]
    exact At_out cN cS h f t A cs.length cp w hG h1
  · by_cases h2 : (cs.length : Int) < t ∨ (0 < f ∧ (cs.length : Int) < cS) ∨ (0 < t ∧ (cs.length : Int) < cN) ∨ (cs.length : Int) ≤ h
    · exact At_in_none cN cS h f t A cp cs w hG hR hN hS hL (by omega) (by omega) (by omega) (by omega) (by omega) h2
    · exact At_in_some cN cS h f t A cp cs w hG hR hN hS hL (by omega) (by omega) (by omega) (by omega) (by omega) h2

def rcells (rs : List NRule) : List Value := rs.flatMap fun r => [I r.k, I r.h, I r.a, I r.b, I r.p, I r.o]
theorem rcells_length (vs : List NRule) : (rcells vs).length = vs.length * 6 := by
  induction vs with
  | nil => rfl
  | cons e es ih => simp [rcells] at ih ⊢; omega
theorem rcells_get (vs : List NRule) (i : Nat) {r : NRule} (h : vs[i]? = some r) : (rcells vs)[i * 6]? = some (I r.k) ∧ (rcells vs)[i * 6 + 1]? = some (I r.h) ∧ (rcells vs)[i * 6 + 2]? = some (I r.a) ∧ (rcells vs)[i * 6 + 3]? = some (I r.b) ∧ (rcells vs)[i * 6 + 4]? = some (I r.p) ∧ (rcells vs)[i * 6 + 5]? = some (I r.o) := by
  induction vs generalizing i with
  | nil => simp at h
  | cons a es ih =>
    cases i with
    | zero => simp at h; subst h; simp [rcells]
    | succ i =>
      have := ih i (by simpa using h)
      simp only [rcells, List.flatMap_cons] at this ⊢
      have e0 : (i + 1) * 6 = i * 6 + 6 := by omega
      rw [e0]
      simpa using this
theorem Rd.rule {w : World} {A : Option Addr} {rs : List NRule} (h : Rd w A rs.length 6 (rcells rs)) (i : Nat) {r : NRule} (hi : rs[i]? = some r) :
    ∃ b off, A = some ⟨b, off, none⟩ ∧ w.cell? ⟨b, off + i * 6, none⟩ = some (I r.k) ∧ w.cell? ⟨b, off + i * 6 + 1, none⟩ = some (I r.h) ∧ w.cell? ⟨b, off + i * 6 + 2, none⟩ = some (I r.a) ∧ w.cell? ⟨b, off + i * 6 + 3, none⟩ = some (I r.b) ∧
      w.cell? ⟨b, off + i * 6 + 4, none⟩ = some (I r.p) ∧ w.cell? ⟨b, off + i * 6 + 5, none⟩ = some (I r.o) := by
  have hl := (List.getElem?_eq_some_iff.1 hi).1
  obtain ⟨b, off, e, h2⟩ := h.2 (by omega)
  obtain ⟨g0, g1, g2, g3, g4, g5⟩ := rcells_get rs i hi
  exact ⟨b, off, e, h2 _ _ g0, h2 _ _ g1, h2 _ _ g2, h2 _ _ g3, h2 _ _ g4, h2 _ _ g5⟩
def icells (us : List Item) : List Value := us.flatMap fun r => [I r.h, I r.f, I r.t]
theorem icells_length (vs : List Item) : (icells vs).length = vs.length * 3 := by
  induction vs with
  | nil => rfl
  | cons e es ih => simp [icells] at ih ⊢; omega
theorem icells_get (vs : List Item) (i : Nat) {r : Item} (h : vs[i]? = some r) : (icells vs)[i * 3]? = some (I r.h) ∧ (icells vs)[i * 3 + 1]? = some (I r.f) ∧ (icells vs)[i * 3 + 2]? = some (I r.t) := by
  induction vs generalizing i with
  | nil => simp at h
  | cons a es ih =>
    cases i with
    | zero => simp at h; subst h; simp [icells]
    | succ i =>
      have := ih i (by simpa using h)
      simp only [icells, List.flatMap_cons] at this ⊢
      have e0 : (i + 1) * 3 = i * 3 + 3 := by omega
      rw [e0]
      simpa using this
theorem Rd.item {w : World} {A : Option Addr} {us : List Item} (h : Rd w A us.length 3 (icells us)) (i : Nat) {r : Item} (hi : us[i]? = some r) :
    ∃ b off, A = some ⟨b, off, none⟩ ∧ w.cell? ⟨b, off + i * 3, none⟩ = some (I r.h) ∧ w.cell? ⟨b, off + i * 3 + 1, none⟩ = some (I r.f) ∧ w.cell? ⟨b, off + i * 3 + 2, none⟩ = some (I r.t) := by
  have hl := (List.getElem?_eq_some_iff.1 hi).1
  obtain ⟨b, off, e, h2⟩ := h.2 (by omega)
  obtain ⟨g0, g1, g2⟩ := icells_get us i hi
  exact ⟨b, off, e, h2 _ _ g0, h2 _ _ g1, h2 _ _ g2⟩

/-- the arcs, each with its operations, whatever these are -/
def ArcsAt (w : World) (A : Option Addr) (arcs : List ArcP) : Prop := ∀ (i : Nat) a, arcs[i]? = some a → ∃ b off oa on_ oc, A = some ⟨b, off, none⟩ ∧ w.cell? ⟨b, off + i * 5, none⟩ = some (I a.f) ∧ w.cell? ⟨b, off + i * 5 + 1, none⟩ = some (I a.t) ∧
  w.cell? ⟨b, off + i * 5 + 2, none⟩ = some (I a.m) ∧ w.cell? ⟨b, off + i * 5 + 3, none⟩ = some (I a.c) ∧ w.cell? ⟨b, off + i * 5 + 4, none⟩ = some (.slice oa on_ oc)
theorem ArcsAt.below {w w' : World} {A : Option Addr} {arcs : List ArcP} (h : ArcsAt w A arcs) (hb : Below w.heap.size w w') : ArcsAt w' A arcs := fun i a hi => by
  obtain ⟨b, off, oa, on_, oc, e, h0, h1, h2, h3, h4⟩ := h i a hi
  exact ⟨b, off, oa, on_, oc, e, cell_below hb h0, cell_below hb h1, cell_below hb h2, cell_below hb h3, cell_below hb h4⟩

/-- where a span's computation keeps its parts; w0: the world in which it was called. -/
structure Mem where
  w0 : World
  S : Nat
  sv : Nat
  be : Nat
  fi : Nat
  ha : Nat
  q : Nat
  pl : Nat
  RA : Option Addr
  AA : Option Addr
  FA : Option Addr
  CA : Option Addr
  rc : Nat
  ac : Nat
  fc : Nat
  cc : Nat

def SpanC.N (X : SpanC) : Nat := X.G.nN.toNat
/-- the record of a span's computation -/
def recC (X : SpanC) (m : Mem) : Array Value := #[I X.G.nT, I X.G.nN, I X.G.nS, .slice m.RA X.G.rules.length m.rc, I X.L.st, .slice m.AA X.L.arcs.length m.ac, .slice m.FA X.L.fin.length m.fc, I X.C.cN, I X.C.cS, .slice m.CA X.C.cells.length m.cc,
  I X.fr, I X.to, .slice (some ⟨m.be, 0, none⟩) X.N X.N, .slice (some ⟨m.fi, 0, none⟩) X.N X.N, .slice (some ⟨m.ha, 0, none⟩) X.N X.N, PB m.q]
structure ArgsAt (w : World) (X : SpanC) (m : Mem) : Prop where
  rules : Rd w m.RA X.G.rules.length 6 (rcells X.G.rules)
  arcs : ArcsAt w m.AA X.L.arcs
  cells : Rd w m.CA X.C.cells.length 4 (ccells X.C.cells)
  none_ : NoneAt w
theorem ArgsAt.below {w w' : World} {X : SpanC} {m : Mem} (h : ArgsAt w X m) (hb : Below w.heap.size w w') : ArgsAt w' X m := ⟨h.rules.below hb, h.arcs.below hb, h.cells.below hb, h.none_.below hb⟩

/-- a rule in order -/
structure ROK (nT nN : Int) (r : NRule) : Prop where
  h0 : 0 ≤ r.h
  h1 : r.h < nN
  k0 : 1 ≤ r.k
  k1 : r.k ≤ 4
  p0 : 0 ≤ r.p
  p1 : r.p ≤ 1000
  un : r.k = 3 ∨ r.k = 4 → 0 ≤ r.a ∧ r.a < nN
  bi : r.k = 4 → 0 ≤ r.b ∧ r.b < nN
def arcLt (a b : ArcP) : Prop := a.f < b.f ∨ (a.f = b.f ∧ (a.t < b.t ∨ (a.t = b.t ∧ a.m < b.m)))
/-- what is small and in order -/
structure Bds (X : SpanC) : Prop where
  n0 : 0 ≤ X.G.nN
  n1 : X.G.nN ≤ 10
  rules : ∀ r ∈ X.G.rules, ROK X.G.nT X.G.nN r
  rl : X.G.rules.length ≤ 14
  al : X.L.arcs.length ≤ 40
  ac : ∀ a ∈ X.L.arcs, 0 ≤ a.c ∧ a.c < Inf
  as_ : X.L.arcs.Pairwise arcLt
  f0 : 0 ≤ X.fr
  ft : X.fr ≤ X.to
  t1 : X.to ≤ 8
  c1 : X.C.cN ≤ 10
  c2 : X.C.cS ≤ 9
  c3 : X.C.cells.length ≤ 1000
  cv : ∀ c ∈ X.C.cells, VNF c.v
theorem atP_nf {cN cS : Int} {cs : List Cel} (h : ∀ c ∈ cs, VNF c.v) (x f t : Int) : VNF (atP cN cS cs x f t).v := by
  unfold atP
  split
  · exact vnf_inf
  · split
    · exact vnf_inf
    · rw [List.getD]
      cases hc : cs[(offP cN cS f t + x).toNat]? with
      | none => exact vnf_inf
      | some c => exact h c (List.mem_of_getElem? hc)

structure DynAt (w : World) (X : SpanC) (m : Mem) (best : List Vl) (fin : List Bool) (han : List Int) (hv : Value) (es : List Ent) (nx ck : Int) : Prop where
  bel : Below m.w0.heap.size m.w0 w
  args : ArgsAt m.w0 X m
  rec_ : Blk w m.S 87 (recC X m)
  fi : Blk w m.fi 4 (fin.map Value.bool).toArray
  ha : Blk w m.ha 3 (han.map I).toArray
  q : QAll w m.q m.pl m.sv m.S m.be X.N hv best es nx ck
  heap : Heap (vof best) es
  inv : HInv X.N best fin han (es.map ekey) nx
  flen : fin.length = X.N
  hlen : han.length = X.N
  vok : ∀ v ∈ best, VNF v
  new : m.w0.heap.size ≤ m.S ∧ m.w0.heap.size ≤ m.sv ∧ m.w0.heap.size ≤ m.be ∧ m.w0.heap.size ≤ m.fi ∧ m.w0.heap.size ≤ m.ha ∧ m.w0.heap.size ≤ m.q ∧ m.w0.heap.size ≤ m.pl
  newh : ∀ k, hv.ownBlock = some k → m.w0.heap.size ≤ k
/-- A span's computation under way. -/
def SpW (w : World) (X : SpanC) (m : Mem) (best : List Vl) (fin : List Bool) : Prop := ∃ han hv es nx ck, DynAt w X m best fin han hv es nx ck
section
variable {w w' : World} {X : SpanC} {m : Mem} {best : List Vl} {fin : List Bool}
theorem DynAt.below {han : List Int} {hv : Value} {es : List Ent} {nx ck : Int} (h : DynAt w X m best fin han hv es nx ck) (hb : Below w.heap.size w w') : DynAt w' X m best fin han hv es nx ck :=
  ⟨h.bel.trans (hb.mono h.bel.size), h.args, h.rec_.below hb h.rec_.lt, h.fi.below hb h.fi.lt, h.ha.below hb h.ha.lt, h.q.below hb, h.heap, h.inv, h.flen, h.hlen, h.vok, h.new, h.newh⟩
theorem SpW.below (h : SpW w X m best fin) (hb : Below w.heap.size w w') : SpW w' X m best fin := by
  obtain ⟨han, hv, es, nx, ck, h⟩ := h
  exact ⟨han, hv, es, nx, ck, h.below hb⟩
theorem SpW.rec_ (h : SpW w X m best fin) : Blk w m.S 87 (recC X m) := by obtain ⟨han, hv, es, nx, ck, h⟩ := h; exact h.rec_
theorem SpW.sv (h : SpW w X m best fin) : Blk w m.sv 83 #[PB m.S] := by obtain ⟨han, hv, es, nx, ck, h⟩ := h; exact h.q.B.sv
theorem SpW.best_ (h : SpW w X m best fin) : Blk w m.be 45 (vcells best).toArray := by obtain ⟨han, hv, es, nx, ck, h⟩ := h; exact h.q.B.val
theorem SpW.blen (h : SpW w X m best fin) : best.length = X.N := by obtain ⟨han, hv, es, nx, ck, h⟩ := h; exact h.q.B.len
theorem SpW.flen (h : SpW w X m best fin) : fin.length = X.N := by obtain ⟨han, hv, es, nx, ck, h⟩ := h; exact h.flen
theorem SpW.fi (h : SpW w X m best fin) : Blk w m.fi 4 (fin.map Value.bool).toArray := by obtain ⟨han, hv, es, nx, ck, h⟩ := h; exact h.fi
theorem SpW.args (h : SpW w X m best fin) : ArgsAt w X m := by obtain ⟨han, hv, es, nx, ck, h⟩ := h; exact h.args.below h.bel
theorem SpW.bel (h : SpW w X m best fin) : Below m.w0.heap.size m.w0 w := by obtain ⟨han, hv, es, nx, ck, h⟩ := h; exact h.bel
theorem SpW.vok (h : SpW w X m best fin) : ∀ v ∈ best, VNF v := by obtain ⟨han, hv, es, nx, ck, h⟩ := h; exact h.vok
theorem SpW.val_nf (h : SpW w X m best fin) (B : Bds X) (x : Item) (hx : X.own x = true → 0 ≤ x.h ∧ x.h < X.G.nN) : VNF (X.val best x) := by
  unfold SpanC.val
  split
  · rename_i ho
    obtain ⟨h1, h2⟩ := hx ho
    have := vof_get (N := X.N) h1 (by unfold SpanC.N; omega) h.blen
    exact h.vok _ (List.mem_of_getElem? this)
  · exact atP_nf B.cv _ _ _
theorem SpW.bcell (h : SpW w X m best fin) {x : Int} (h0 : 0 ≤ x) (h1 : x < X.G.nN) : w.cell? ⟨m.be, x.toNat * 2, none⟩ = some (I (vof best x).c) ∧ w.cell? ⟨m.be, x.toNat * 2 + 1, none⟩ = some (I (vof best x).s) := by
  obtain ⟨han, hv, es, nx, ck, h⟩ := h
  exact h.q.B.at_ _ (vof_get (N := X.N) h0 (by unfold SpanC.N; omega) h.q.B.len)
theorem SpW.fcell (h : SpW w X m best fin) {x : Int} (h0 : 0 ≤ x) (h1 : x < X.G.nN) : w.cell? ⟨m.fi, x.toNat, none⟩ = some (.bool (fin.getD x.toNat false)) := by
  rw [h.fi.cell]
  have hl : x.toNat < fin.length := by rw [h.flen]; unfold SpanC.N; omega
  simp [List.getElem?_eq_getElem hl]
end
/-- what a step of the span's computation keeps -/
def KT (m : Mem) (w w' : World) : Prop := Kp (fun k => k = m.be ∨ k = m.fi ∨ k = m.ha ∨ k = m.q ∨ k = m.pl ∨ (m.w0.heap.size ≤ k ∧ ∃ cs, Blk w k 114 cs)) w w'
theorem KT.trans {m : Mem} {a b c : World} (h : KT m a b) (k : KT m b c) : KT m a c := by
  refine Kp.trans' h k ?_
  intro i hi hf
  rcases hf with hf | hf | hf | hf | hf | ⟨hf, cs, hc⟩
  · exact .inl hf
  · exact .inr (.inl hf)
  · exact .inr (.inr (.inl hf))
  · exact .inr (.inr (.inr (.inl hf)))
  · exact .inr (.inr (.inr (.inr (.inl hf))))
  · by_cases hF : (i = m.be ∨ i = m.fi ∨ i = m.ha ∨ i = m.q ∨ i = m.pl ∨ (m.w0.heap.size ≤ i ∧ ∃ cs, Blk a i 114 cs))
    · exact hF
    · exact .inr (.inr (.inr (.inr (.inr ⟨hf, cs, (h.block i hi hF).symm.trans hc⟩))))
theorem KT.of_below {m : Mem} {a b : World} (h : Below a.heap.size a b) : KT m a b := Kp.of_below h
theorem KT.below {m : Mem} {a b c : World} (h : KT m a b) (k : Below b.heap.size b c) : KT m a c := Kp.below h k
/-- a block of another type stays -/
theorem KT.blk {m : Mem} {w w' : World} {X : SpanC} {best : List Vl} {fin : List Bool} (h : KT m w w') (hW : SpW w X m best fin) {g : Nat} {t : TypeId} {cs : Array Value} (hg : Blk w g t cs)
    (h1 : t ≠ 45) (h2 : t ≠ 4) (h3 : t ≠ 3) (h4 : t ≠ 104) (h5 : t ≠ 114) : Blk w' g t cs := by
  refine hg.kp h ?_
  obtain ⟨han, hv, es, nx, ck, hW⟩ := hW
  obtain ⟨f, gm, hQ, _⟩ := hW.q.Q.ex
  rintro (e | e | e | e | e | ⟨_, cs', e⟩)
  · exact Blk.ne_ hg hW.q.B.val h1 e
  · exact Blk.ne_ hg hW.fi h2 e
  · exact Blk.ne_ hg hW.ha h3 e
  · exact Blk.ne_ hg hQ.rec_ h4 e
  · exact hQ.map.ne_blk hg e
  · exact Blk.ne_ hg e h5 rfl
end Go.Proofs.YtnifpeamgoapmaaDoor
