/- Valid, of a grammar. -/
import Derived.Test.YtnifpeamgoapmaaDoorM12
import Derived.Test.YtnifpeamgoapmaaDoorRd
set_option linter.unusedVariables false
set_option linter.unusedSimpArgs false
namespace Go.Proofs.YtnifpeamgoapmaaDoor
open Go Go.RowKit

/-- a rule in order, as the reference has it -/
def RV (nT nN : Int) (r : NRule) : Prop := 0 ≤ r.h ∧ r.h < nN ∧ 0 ≤ r.p ∧ r.p ≤ 1000 ∧ -1 ≤ r.o ∧
  ((r.k = 1 ∧ r.a = 0 ∧ r.b = 0) ∨ (r.k = 2 ∧ 0 ≤ r.a ∧ r.a < nT ∧ r.b = 0) ∨ (r.k = 3 ∧ 0 ≤ r.a ∧ r.a < nN ∧ r.b = 0) ∨ (r.k = 4 ∧ 0 ≤ r.a ∧ r.a < nN ∧ 0 ≤ r.b ∧ r.b < nN))
def VG (G : Gram) : Prop := (0 ≤ G.nT ∧ G.nT ≤ 120 ∧ 1 ≤ G.nN ∧ G.nN ≤ 1000 ∧ 0 ≤ G.nS ∧ G.nS < G.nN ∧ (G.rules.length : Int) ≤ 600) ∧ ∀ r ∈ G.rules, RV G.nT G.nN r
set_option maxRecDepth 100000 in
set_option maxHeartbeats 16000000 in
/-- Valid, of a grammar -/
theorem valid24_any (G : Gram) (RA : Option Addr) (rc : Nat) (w : World) (hR : Rd w RA G.rules.length 6 (rcells G.rules)) (b : Bool) (hb : b = true ↔ VG G) :
    Calls Tryd.prog 31 #[GramA G RA rc] w fun e w' => e = .returned (.bool b) ∧ Below w.heap.size w w' := by
  have HB := hide (show ∀ o1, Below w.heap.size w (w.alloc o1) from fun o1 => (Below.refl _ _).alloc (Nat.le_refl _) _)
  have HF := hide (show ¬ VG G → b = false from fun h => by
    cases hbb : b with
    | false => rfl
    | true => exact absurd (hb.1 hbb) h)
  have HT := hide hb.2
  have HR := hide hR
  clear hb hR
  have hc : (G.nT < 0) ∨ (0 ≤ G.nT ∧ 120 < G.nT) ∨ (0 ≤ G.nT ∧ G.nT ≤ 120 ∧ G.nN < 1) ∨ (0 ≤ G.nT ∧ G.nT ≤ 120 ∧ 1 ≤ G.nN ∧ 1000 < G.nN) ∨ (0 ≤ G.nT ∧ G.nT ≤ 120 ∧ 1 ≤ G.nN ∧ G.nN ≤ 1000 ∧ G.nS < 0) ∨ (0 ≤ G.nT ∧ G.nT ≤ 120 ∧ 1 ≤ G.nN ∧ G.nN ≤ 1000 ∧ 0 ≤ G.nS ∧ G.nN ≤ G.nS) ∨ (0 ≤ G.nT ∧ G.nT ≤ 120 ∧ 1 ≤ G.nN ∧ G.nN ≤ 1000 ∧ 0 ≤ G.nS ∧ G.nS < G.nN ∧ 600 < (G.rules.length : Int)) ∨ (0 ≤ G.nT ∧ G.nT ≤ 120 ∧ 1 ≤ G.nN ∧ G.nN ≤ 1000 ∧ 0 ≤ G.nS ∧ G.nS < G.nN ∧ (G.rules.length : Int) ≤ 600) := by omega
  rcases hc with h1 | ⟨h1, h2⟩ | ⟨h1, h2, h3⟩ | ⟨h1, h2, h3, h4⟩ | ⟨h1, h2, h3, h4, h5⟩ | ⟨h1, h2, h3, h4, h5, h6⟩ | ⟨h1, h2, h3, h4, h5, h6, h7⟩ | ⟨h1, h2, h3, h4, h5, h6, h7⟩
  iterate 7
    · have HE := hide (HF.out (fun h => by have := h.1; omega))
      go_enter Tryd.func31, Tryd.ntmps31
      go_wp2
      go_ret
      exact ⟨by rw [HE.out]; rfl, HB.out _⟩
  · have HH := hide (show 0 ≤ G.nT ∧ G.nT ≤ 120 ∧ 1 ≤ G.nN ∧ G.nN ≤ 1000 ∧ 0 ≤ G.nS ∧ G.nS < G.nN ∧ (G.rules.length : Int) ≤ 600 from ⟨h1, h2, h3, h4, h5, h6, h7⟩)
    go_enter Tryd.func31, Tryd.ntmps31
    go_wp2_with fail
    go_loopw [3] (fun s3 wr => ∃ k : Nat, s3 = .int .i64 k ∧ k ≤ G.rules.length ∧ (∀ (j : Nat) r, j < k → G.rules[j]? = some r → RV G.nT G.nN r) ∧ Blk wr w.heap.size 24 #[I G.nT, I G.nN, I G.nS, .slice RA G.rules.length rc] ∧ Below w.heap.size w wr) (fun s3 _ => 1000 - (intOf s3).toNat)
    case atStart => exact ⟨0, rfl, Nat.zero_le _, fun j r h => by omega, Blk.new w _ _, HB.out _⟩
    case round =>
      obtain ⟨k, rfl, hk, hj, hg, hbel⟩ := hrel
      have HJ := hide hj
      have HG := hide hg
      have HBEL := hide hbel
      have g0 := hg.cell 0
      have g1 := hg.cell 1
      have g3 := hg.cell 3
      have hgl := hg.lt
      simp at g0 g1 g3
      clear hj hg hbel
      have hkl : (k : Int) < G.rules.length ∨ (G.rules.length : Int) ≤ k := by omega
      rcases hkl with hkl | hkl
      · obtain ⟨r, hr⟩ : ∃ r, G.rules[k]? = some r := ⟨_, List.getElem?_eq_getElem (by omega)⟩
        obtain ⟨rb, ro_, rfl, r0, r1, r2, r3, r4, r5⟩ := (HR.out.below HBEL.out).rule k hr
        have HBA := hide (show Below w.heap.size w (wr.alloc (Obj.cells (ruleC r) 65)) from HBEL.out.alloc HBEL.out.size _)
        have HGA := hide (HG.out.alloc (Obj.cells (ruleC r) 65))
        have HFR := hide (show ¬ RV G.nT G.nN r → b = false from fun h => HF.out (fun hv => h (hv.2 r (List.mem_of_getElem? hr))))
        have HJR := hide (show RV G.nT G.nN r → ∀ (j : Nat) r, j < k + 1 → G.rules[j]? = some r → RV G.nT G.nN r from fun h j r' hj hr' => by
          by_cases hjk : j = k
          · subst hjk; rw [hr] at hr'; injection hr' with hr'; rw [← hr']; exact h
          · exact HJ.out j r' (by omega) hr')
        obtain ⟨rk, rh, ra, rb', rp, ro⟩ := r
        simp only at r0 r1 r2 r3 r4 r5
        clear hr
        have hc : (rh < 0) ∨ (0 ≤ rh ∧ G.nN ≤ rh) ∨ (0 ≤ rh ∧ rh < G.nN ∧ rp < 0) ∨ (0 ≤ rh ∧ rh < G.nN ∧ 0 ≤ rp ∧ 1000 < rp) ∨ (0 ≤ rh ∧ rh < G.nN ∧ 0 ≤ rp ∧ rp ≤ 1000 ∧ ro < -1) ∨ (0 ≤ rh ∧ rh < G.nN ∧ 0 ≤ rp ∧ rp ≤ 1000 ∧ -1 ≤ ro) := by omega
        rcases hc with k1 | ⟨k1, k2⟩ | ⟨k1, k2, k3⟩ | ⟨k1, k2, k3, k4⟩ | ⟨k1, k2, k3, k4, k5⟩ | ⟨k1, k2, k3, k4, k5⟩
        iterate 5
          · have HE := hide (HFR.out (fun h => by obtain ⟨a1, a2, a3, a4, a5, _⟩ := h; simp only at a1 a2 a3 a4 a5; omega))
            go_wp2
            go_ret
            exact ⟨by rw [HE.out]; rfl, HBA.out⟩
        · have hkk : rk = 1 ∨ rk = 2 ∨ rk = 3 ∨ rk = 4 ∨ (rk ≠ 1 ∧ rk ≠ 2 ∧ rk ≠ 3 ∧ rk ≠ 4) := by omega
          rcases hkk with rfl | rfl | rfl | rfl | ⟨n1, n2, n3, n4⟩
          · have hm : (ra ≠ 0) ∨ (ra = 0 ∧ rb' ≠ 0) ∨ (ra = 0 ∧ rb' = 0) := by omega
            rcases hm with m1 | ⟨m1, m2⟩ | ⟨m1, m2⟩
            · have HE := hide (HFR.out (fun h => by obtain ⟨_, _, _, _, _, h⟩ := h; simp only at h; omega))
              have z1 : (ra == 0) = false := by simp; omega
              clear m1
              go_wp2
              go_ret
              exact ⟨by rw [HE.out]; rfl, HBA.out⟩
            · have HE := hide (HFR.out (fun h => by obtain ⟨_, _, _, _, _, h⟩ := h; simp only at h; omega))
              have z1 : (ra == 0) = true := by simp; omega
              have z2 : (rb' == 0) = false := by simp; omega
              clear m1 m2
              go_wp2
              go_ret
              exact ⟨by rw [HE.out]; rfl, HBA.out⟩
            · have HV := hide (HJR.out ⟨by simp only; omega, by simp only; omega, by simp only; omega, by simp only; omega, by simp only; omega, .inl ⟨rfl, m1, m2⟩⟩)
              have z1 : (ra == 0) = true := by simp; omega
              have z2 : (rb' == 0) = true := by simp; omega
              clear m1 m2
              go_wp2_with fail
              go_roundw
              case rel => exact ⟨k + 1, by simp, by omega, HV.out, HGA.out, HBA.out⟩
              case measure => simp [intOf]; omega
          · have hm : (ra < 0) ∨ (0 ≤ ra ∧ G.nT ≤ ra) ∨ (0 ≤ ra ∧ ra < G.nT ∧ rb' ≠ 0) ∨ (0 ≤ ra ∧ ra < G.nT ∧ rb' = 0) := by omega
            rcases hm with m1 | ⟨m1, m2⟩ | ⟨m1, m2, m3⟩ | ⟨m1, m2, m3⟩
            · have HE := hide (HFR.out (fun h => by obtain ⟨_, _, _, _, _, h⟩ := h; simp only at h; omega))
              go_wp2
              go_ret
              exact ⟨by rw [HE.out]; rfl, HBA.out⟩
            · have HE := hide (HFR.out (fun h => by obtain ⟨_, _, _, _, _, h⟩ := h; simp only at h; omega))
              go_wp2
              go_ret
              exact ⟨by rw [HE.out]; rfl, HBA.out⟩
            · have HE := hide (HFR.out (fun h => by obtain ⟨_, _, _, _, _, h⟩ := h; simp only at h; omega))
              have z2 : (rb' == 0) = false := by simp; omega
              clear m3
              go_wp2
              go_ret
              exact ⟨by rw [HE.out]; rfl, HBA.out⟩
            · have HV := hide (HJR.out ⟨by simp only; omega, by simp only; omega, by simp only; omega, by simp only; omega, by simp only; omega, .inr (.inl ⟨rfl, m1, m2, m3⟩)⟩)
              have z2 : (rb' == 0) = true := by simp; omega
              clear m3
              go_wp2_with fail
              go_roundw
              case rel => exact ⟨k + 1, by simp, by omega, HV.out, HGA.out, HBA.out⟩
              case measure => simp [intOf]; omega
          · have hm : (ra < 0) ∨ (0 ≤ ra ∧ G.nN ≤ ra) ∨ (0 ≤ ra ∧ ra < G.nN ∧ rb' ≠ 0) ∨ (0 ≤ ra ∧ ra < G.nN ∧ rb' = 0) := by omega
            rcases hm with m1 | ⟨m1, m2⟩ | ⟨m1, m2, m3⟩ | ⟨m1, m2, m3⟩
            · have HE := hide (HFR.out (fun h => by obtain ⟨_, _, _, _, _, h⟩ := h; simp only at h; omega))
              go_wp2
              go_ret
              exact ⟨by rw [HE.out]; rfl, HBA.out⟩
            · have HE := hide (HFR.out (fun h => by obtain ⟨_, _, _, _, _, h⟩ := h; simp only at h; omega))
              go_wp2
              go_ret
              exact ⟨by rw [HE.out]; rfl, HBA.out⟩
            · have HE := hide (HFR.out (fun h => by obtain ⟨_, _, _, _, _, h⟩ := h; simp only at h; omega))
              have z2 : (rb' == 0) = false := by simp; omega
              clear m3
              go_wp2
              go_ret
              exact ⟨by rw [HE.out]; rfl, HBA.out⟩
            · have HV := hide (HJR.out ⟨by simp only; omega, by simp only; omega, by simp only; omega, by simp only; omega, by simp only; omega, .inr (.inr (.inl ⟨rfl, m1, m2, m3⟩))⟩)
              have z2 : (rb' == 0) = true := by simp; omega
              clear m3
              go_wp2_with fail
              go_roundw
              case rel => exact ⟨k + 1, by simp, by omega, HV.out, HGA.out, HBA.out⟩
              case measure => simp [intOf]; omega
          · have hm : (ra < 0) ∨ (0 ≤ ra ∧ G.nN ≤ ra) ∨ (0 ≤ ra ∧ ra < G.nN ∧ rb' < 0) ∨ (0 ≤ ra ∧ ra < G.nN ∧ 0 ≤ rb' ∧ G.nN ≤ rb') ∨ (0 ≤ ra ∧ ra < G.nN ∧ 0 ≤ rb' ∧ rb' < G.nN) := by omega
            rcases hm with m1 | ⟨m1, m2⟩ | ⟨m1, m2, m3⟩ | ⟨m1, m2, m3, m4⟩ | ⟨m1, m2, m3, m4⟩
            · have HE := hide (HFR.out (fun h => by obtain ⟨_, _, _, _, _, h⟩ := h; simp only at h; omega))
              go_wp2
              go_ret
              exact ⟨by rw [HE.out]; rfl, HBA.out⟩
            · have HE := hide (HFR.out (fun h => by obtain ⟨_, _, _, _, _, h⟩ := h; simp only at h; omega))
              go_wp2
              go_ret
              exact ⟨by rw [HE.out]; rfl, HBA.out⟩
            · have HE := hide (HFR.out (fun h => by obtain ⟨_, _, _, _, _, h⟩ := h; simp only at h; omega))
              go_wp2
              go_ret
              exact ⟨by rw [HE.out]; rfl, HBA.out⟩
            · have HE := hide (HFR.out (fun h => by obtain ⟨_, _, _, _, _, h⟩ := h; simp only at h; omega))
              have z4 : decide (rb' < G.nN) = false := by simp; omega
              clear m4
              go_wp2
              go_ret
              exact ⟨by rw [HE.out]; rfl, HBA.out⟩
            · have HV := hide (HJR.out ⟨by simp only; omega, by simp only; omega, by simp only; omega, by simp only; omega, by simp only; omega, .inr (.inr (.inr ⟨rfl, m1, m2, m3, m4⟩))⟩)
              have z4 : decide (rb' < G.nN) = true := by simp; omega
              clear m4
              go_wp2_with fail
              go_roundw
              case rel => exact ⟨k + 1, by simp, by omega, HV.out, HGA.out, HBA.out⟩
              case measure => simp [intOf]; omega
          · have HE := hide (HFR.out (fun h => by obtain ⟨_, _, _, _, _, h⟩ := h; simp only at h; omega))
            have w1 : (rk == 1) = false := by simp; omega
            have w2 : (rk == 2) = false := by simp; omega
            have w3 : (rk == 3) = false := by simp; omega
            have w4 : (rk == 4) = false := by simp; omega
            go_wp2
            go_ret
            exact ⟨by rw [HE.out]; rfl, HBA.out⟩
      · have HE := hide (HT.out ⟨HH.out, fun r hr => by
          obtain ⟨j, hj⟩ := List.getElem?_of_mem hr
          exact HJ.out j r (by have := (List.getElem?_eq_some_iff.1 hj).1; omega) hj⟩)
        go_wp2
        go_ret
        exact ⟨by rw [HE.out]; rfl, HBEL.out⟩
end Go.Proofs.YtnifpeamgoapmaaDoor
