/- Goal -/
import Derived.Test.YtnifpeamgoapmaaDoorM11
import Derived.Test.YtnifpeamgoapmaaDoorM13
set_option linter.unusedVariables false
set_option linter.unusedSimpArgs false
namespace Go.Proofs.YtnifpeamgoapmaaDoor
open Go Go.RowKit

/-- one final state more -/
def gstep (val : Nat → Vl) (st : Vl × Int) (ft : Int × Nat) : Vl × Int :=
  if Inf ≤ ft.1 then st else if (comb ft.1 [val ft.2]).c < Inf ∧ (st.2 < 0 ∨ vlt (comb ft.1 [val ft.2]) st.1 = true) then (comb ft.1 [val ft.2], (ft.2 : Int)) else st
def goalK (val : Nat → Vl) (fin : List Int) (k : Nat) : Vl × Int := (fin.zipIdx.take k).foldl (gstep val) (⟨Inf, 0⟩, -1)
/-- the least total and the state that attains it -/
def goalP (val : Nat → Vl) (fin : List Int) : Vl × Int := goalK val fin fin.length
theorem goalK_succ (val : Nat → Vl) {fin : List Int} {k : Nat} {f : Int} (h : fin[k]? = some f) : goalK val fin (k + 1) = gstep val (goalK val fin k) (f, k) := by
  unfold goalK
  have : fin.zipIdx[k]? = some (f, k) := by rw [List.getElem?_zipIdx, h]; simp
  rw [foldl_take_succ _ _ this]
theorem goalP_eq (val : Nat → Vl) (fin : List Int) : goalP val fin = goalK val fin fin.length := rfl
/-- what the value of a final state is -/
def fval (cN cS start : Int) (cs : List Cel) (t : Nat) : Vl := (atP cN cS cs start 0 (t : Int)).v
theorem Rd.int {w : World} {A : Option Addr} {xs : List Int} (h : Rd w A xs.length 1 (xs.map I)) (i : Nat) {x : Int} (hi : xs[i]? = some x) : ∃ b off, A = some ⟨b, off, none⟩ ∧ w.cell? ⟨b, off + i, none⟩ = some (I x) := by
  have hl := (List.getElem?_eq_some_iff.1 hi).1
  obtain ⟨b, off, e, h2⟩ := h.2 (by omega)
  exact ⟨b, off, e, h2 i _ (by rw [List.getElem?_map, hi]; rfl)⟩

structure GoalArgs (w : World) (L : Lat) (cN cS : Int) (cs : List Cel) (FA CA : Option Addr) : Prop where
  fin : Rd w FA L.fin.length 1 (L.fin.map I)
  cells : Rd w CA cs.length 4 (ccells cs)
  none_ : NoneAt w
  fl : L.fin.length ≤ 9
  fr : ∀ f ∈ L.fin, 0 ≤ f ∧ f ≤ Inf
  c1 : cN ≤ 10
  c2 : cS ≤ 9
  c3 : cs.length ≤ 1000
  cv : ∀ c ∈ cs, VNF c.v
theorem fval_nf {cN cS start : Int} {cs : List Cel} (h : ∀ c ∈ cs, VNF c.v) (t : Nat) : VNF (fval cN cS start cs t) := atP_nf h _ _ _
theorem goalK_inf (val : Nat → Vl) (fin : List Int) (k : Nat) (hv : ∀ t, VNF (val t)) (hf : ∀ f ∈ fin, 0 ≤ f) : VNF (goalK val fin k).1 ∧ -1 ≤ (goalK val fin k).2 ∧ (goalK val fin k).2 ≤ fin.length := by
  induction k with
  | zero => exact ⟨vnf_inf, by simp [goalK], by simp [goalK]⟩
  | succ k ih =>
    cases hk : fin[k]? with
    | none =>
      have hl : fin.length ≤ k := List.getElem?_eq_none_iff.1 hk
      have : goalK val fin (k + 1) = goalK val fin k := by unfold goalK; rw [List.take_of_length_le (by simp; omega), List.take_of_length_le (by simp; omega)]
      rw [this]; exact ih
    | some f =>
      have hl := (List.getElem?_eq_some_iff.1 hk).1
      rw [goalK_succ val hk]
      unfold gstep
      split
      · exact ih
      · split
        · refine ⟨comb_nf (hf f (List.mem_of_getElem? hk)) (fun v hv' => ?_), ?_, ?_⟩
          · simp only [List.mem_singleton] at hv'
            rw [hv']
            exact (hv k).1
          · show -1 ≤ (k : Int); omega
          · show (k : Int) ≤ fin.length; omega
        · exact ih

def GoalRet (r : Vl × Int) : Value := .tuple #[VA r.1, I r.2]
set_option maxRecDepth 100000 in
set_option maxHeartbeats 8000000 in
theorem goal_any (G : Gram) (L : Lat) (cN cS : Int) (cs : List Cel) (RA AA FA CA : Option Addr) (rc ac fc cc : Nat) (w : World) (hA : GoalArgs w L cN cS cs FA CA) :
    Calls Tryd.prog 19 #[GramA G RA rc, LatA L AA ac FA fc, ChartA cN cS CA cs.length cc] w fun e w' => e = .returned (GoalRet (goalP (fval cN cS G.nS cs) L.fin)) ∧ Below w.heap.size w w' := by
  have hfl := hA.fl
  obtain ⟨val, hval⟩ : ∃ val, val = fval cN cS G.nS cs := ⟨_, rfl⟩
  have hvn : ∀ t, VNF (val t) := by rw [hval]; exact fun t => fval_nf hA.cv t
  have CA_ := hide (fun (t : Nat) W (hb : Below w.heap.size w W) => At_any cN cS G.nS 0 (t : Int) CA cc cs W (hA.none_.below hb) (hA.cells.below hb) (by have := hA.c1; omega) (by have := hA.c2; omega) (by have := hA.c3; omega))
  have HVAL := hide hval
  have HVN := hide hvn
  have HA := hide hA
  have hgz := World.new_ne w _ hA.none_.1
  simp only at hgz
  obtain ⟨g0, g1, g2, g3⟩ := hA.none_
  have hsz : 0 < w.heap.size := by omega
  have hb4 : ∀ o1 o2 o3 o4, Below w.heap.size w ((((w.alloc o1).alloc o2).alloc o3).alloc o4) := fun o1 o2 o3 o4 => ((((Below.refl _ _).alloc (Nat.le_refl _) _).alloc (by simp) _).alloc (by simp; omega) _).alloc (by simp; omega) _
  have n0 := fun o1 o2 o3 o4 => cell_below (hb4 o1 o2 o3 o4) g0
  have n1 := fun o1 o2 o3 o4 => cell_below (hb4 o1 o2 o3 o4) g1
  clear hA hval hvn g0 g1 g2 g3 hb4
  go_enter Tryd.func19, Tryd.ntmps19
  go_wp2_with fail
  go_loopw [9, 18] (fun s9 s18 wr => ∃ k : Nat, s18 = .int .i64 k ∧ s9 = .int .i64 (goalK val L.fin k).2 ∧ k ≤ L.fin.length ∧ Blk wr (w.heap.size + 1 + 1 + 1 + 1) 45 #[I (goalK val L.fin k).1.c, I (goalK val L.fin k).1.s] ∧ Blk wr (w.heap.size + 1 + 1 + 1) 45 #[I 0, I 0] ∧
    Blk wr w.heap.size 24 #[I G.nT, I G.nN, I G.nS, .slice RA G.rules.length rc] ∧ Blk wr (w.heap.size + 1 + 1) 34 #[I cN, I cS, .slice CA cs.length cc] ∧ Below w.heap.size w wr) (fun _ s18 _ => 20 - (intOf s18).toNat)
  case atStart =>
    refine ⟨0, rfl, rfl, Nat.zero_le _, Blk.ch4 _ _ _ _ _ _ _, Blk.ch3 _ _ _ _ _ _ _, Blk.ch0 _ _ _ _ _ _ _, Blk.ch2 _ _ _ _ _ _ _, below5_ _ _ _ _ _ _⟩
  case round =>
    clear n0 n1
    obtain ⟨k, rfl, rfl, hk, hbb, hbr, hbg, hbc, hbel⟩ := hrel
    obtain ⟨gk, hgk⟩ : ∃ gk, gk = goalK val L.fin k := ⟨_, rfl⟩
    have HGI := hide (goalK_inf val L.fin k HVN.out (fun f hf => (HA.out.fr f hf).1))
    have HGI2 := HGI.out
    rw [← hgk] at hbb HGI2 ⊢
    have HGI := hide HGI2
    clear HGI2
    have hcs : (k : Int) < L.fin.length ∨ (L.fin.length : Int) ≤ k := by omega
    have b0 := hbb.cell 0
    have b1 := hbb.cell 1
    have r0 := hbr.cell 0
    have r1 := hbr.cell 1
    have e0 := hbr.frozen 0
    have e1 := hbr.frozen 1
    have f0 := hbb.frozen 0
    have f1 := hbb.frozen 1
    simp at b0 b1 r0 r1
    have HBB := hide hbb
    have HBR := hide hbr
    have HBG := hide hbg
    have HBC := hide hbc
    have HBEL := hide hbel
    have hs1 := hbel.size
    have hs2 := hbb.lt
    rcases hcs with hcs | hcs
    · obtain ⟨f, hf⟩ : ∃ f, L.fin[k]? = some f := ⟨_, List.getElem?_eq_getElem (by omega)⟩
      obtain ⟨fb, fo, hFA, x0⟩ := (HA.out.fin.below hbel).int k hf
      obtain ⟨hf0, hf1⟩ := HA.out.fr f (List.mem_of_getElem? hf)
      have HST := hide (goalK_succ val hf)
      have HST2 := HST.out
      rw [← hgk] at HST2
      have HST := hide HST2
      have HGK := hide hgk
      have hkn : k < L.fin.length := by omega
      clear HST2 hgk hf hbb hbr
      subst hFA
      have hfc : Inf ≤ f ∨ f < Inf := by omega
      rcases hfc with hfc | hfc
      · have HST := hide (show goalK val L.fin (k + 1) = gk by rw [HST.out]; unfold gstep; rw [if_pos hfc])
        unfold Inf at hfc hf1
        clear hbg hbc hbel
        go_wp2_with fail
        go_roundw
        case rel =>
          refine ⟨k + 1, by simp, ?_, by omega, ?_, HBR.out, HBG.out, HBC.out, HBEL.out⟩
          · rw [HST.out]
          · rw [HST.out]; exact HBB.out
        case measure => simp [intOf]; omega
      · have g2 := hbg.cell 2
        have c0 := hbc.cell 0
        have c1 := hbc.cell 1
        have c2 := hbc.cell 2
        simp at g2 c0 c1 c2
        have CA1 := CA_.out k wr hbel
        obtain ⟨ce, hce⟩ : ∃ ce, ce = atP cN cS cs G.nS 0 (k : Int) := ⟨_, rfl⟩
        rw [← hce] at CA1
        delta CelA at CA1
        have CA1 := hide CA1
        have hv : val k = ce.v := by rw [HVAL.out, hce]; rfl
        have hvn : VNF ce.v := by rw [← hv]; exact HVN.out k
        obtain ⟨cv, hcv⟩ : ∃ cv, cv = comb f [ce.v] := ⟨_, rfl⟩
        have CC := hide (fun W1 => by
          have := Combine_any f [ce.v] (some ⟨W1.heap.size, 0, none⟩) 1 (W1.alloc (.cells #[I ce.v.c, I ce.v.s] 45)) hf0 (by unfold Inf at hfc; omega) (by intro v hv; simp only [List.mem_singleton] at hv; rw [hv]; exact hvn.1) (by simp) (Rd.of_blk (c := 0) (Blk.new W1 45 #[I ce.v.c, I ce.v.s]) rfl)
          rw [← hcv] at this
          exact (show Calls Tryd.prog 39 #[.int .i64 f, .slice (some ⟨W1.heap.size, 0, none⟩) 1 1] (W1.alloc (.cells #[I ce.v.c, I ce.v.s] 45)) (fun e w' => e = .returned (.agg #[I cv.c, I cv.s]) ∧ Below (W1.alloc (.cells #[I ce.v.c, I ce.v.s] 45)).heap.size (W1.alloc (.cells #[I ce.v.c, I ce.v.s] 45)) w') from this))
        have hcn : VNF cv := by rw [hcv]; exact comb_nf hf0 (fun v hv => by simp only [List.mem_singleton] at hv; rw [hv]; exact hvn.1)
        have HST := hide (show goalK val L.fin (k + 1) = if cv.c < Inf ∧ (gk.2 < 0 ∨ vlt cv gk.1 = true) then (cv, (k : Int)) else gk by rw [HST.out]; unfold gstep; rw [if_neg (by simp only; omega)]; simp only [hv, ← hcv])
        have CL := hide (fun W => Less_any cv gk.1 W)
        have F1 := run_field47 (I ce.v.c) (I ce.v.s) (I ce.r) (I ce.a)
        have hcase : Inf ≤ cv.c ∨ (cv.c < Inf ∧ gk.2 < 0) ∨ (cv.c < Inf ∧ 0 ≤ gk.2) := by omega
        have hg1 := HGI.out.2.1
        unfold Inf at hfc hf1
        clear hbg hbc hbel hce hv hvn hcv hcn CA_
        rcases hcase with h1 | ⟨h1, h2⟩ | ⟨h1, h2⟩
        · have HST := hide (show goalK val L.fin (k + 1) = gk by rw [HST.out, if_neg (by omega)])
          unfold Inf at h1
          go_wp2_with (first | (go_at_call 28; refine CA1.out.mono ?_; rintro e w1 ⟨rfl, hw1⟩; have HW1 := hide hw1; clear hw1) | (go_at_call 39; refine (CC.out _).mono ?_; rintro e w2 ⟨rfl, hw2⟩; have HW2 := hide hw2; clear hw2))
          go_roundw
          case rel =>
            have hb := HW1.out.trans ((((Below.refl w1.heap.size w1).alloc (Nat.le_refl _) _).trans (HW2.out.mono (by simp))).mono HW1.out.size)
            refine ⟨k + 1, by simp, ?_, by omega, ?_, (HBR.out.below hb HBR.out.lt).alloc _, (HBG.out.below hb HBG.out.lt).alloc _, (HBC.out.below hb HBC.out.lt).alloc _, (HBEL.out.trans (hb.mono HBEL.out.size)).alloc ?_ _⟩
            · rw [HST.out]
            · rw [HST.out]; exact (HBB.out.below hb HBB.out.lt).alloc _
            · exact Nat.le_trans HBEL.out.size hb.size
          case measure => simp [intOf]; omega
        · have HST := hide (show goalK val L.fin (k + 1) = (cv, (k : Int)) by rw [HST.out, if_pos ⟨h1, .inl h2⟩])
          unfold Inf at h1
          clear b0 b1 f0 f1
          go_wp2_with (first | (go_at_call 28; refine CA1.out.mono ?_; rintro e w1 ⟨rfl, hw1⟩; have HW1 := hide hw1; clear hw1) | (go_at_call 39; refine (CC.out _).mono ?_; rintro e w2 ⟨rfl, hw2⟩; have HW2 := hide (HW1.out.trans ((((Below.refl w1.heap.size w1).alloc (Nat.le_refl _) _).trans (hw2.mono (by simp))).mono HW1.out.size)); have hq := HBB.out.below HW2.out HBB.out.lt; have b0 := hq.cell 0; have b1 := hq.cell 1; have f0 := hq.frozen 0; have f1 := hq.frozen 1; have hlt2 := hq.lt; have hne2 : w2.heap.size ≠ w.heap.size + 1 + 1 + 1 + 1 := (by omega); simp at b0 b1; clear hw2 hq))
          go_roundw
          case rel =>
            have hb := HW2.out
            refine ⟨k + 1, by simp, by rw [HST.out], by omega, ?_, (((HBR.out.below hb HBR.out.lt).far (by simp) _).far (by simp) _).alloc _, (((HBG.out.below hb HBG.out.lt).far (by first | (simp; done) | (simp; omega)) _).far (by first | (simp; done) | (simp; omega)) _).alloc _, (((HBC.out.below hb HBC.out.lt).far (by first | (simp; done) | (simp; omega)) _).far (by first | (simp; done) | (simp; omega)) _).alloc _, (((HBEL.out.trans (hb.mono HBEL.out.size)).setCell (by first | (simp; done) | (simp; omega)) _).setCell (by first | (simp; done) | (simp; omega)) _).alloc ?_ _⟩
            · rw [HST.out]
              exact ((((HBB.out.below hb HBB.out.lt).set_ 0 _).set_ 1 _).alloc _).eq_ (by simp)
            · simp only [World.size_setCell]
              exact Nat.le_trans HBEL.out.size hb.size
          case measure => simp [intOf]; omega
        · rcases hl : vlt cv gk.1 with _ | _
          · have HST := hide (show goalK val L.fin (k + 1) = gk by rw [HST.out, if_neg (by rw [hl]; simp; omega)])
            have CL := CL.out
            rw [hl] at CL
            have CL := hide CL
            unfold Inf at h1
            clear b0 b1 f0 f1 hl
            go_wp2_with (first | (go_at_call 28; refine CA1.out.mono ?_; rintro e w1 ⟨rfl, hw1⟩; have HW1 := hide hw1; clear hw1) | (go_at_call 39; refine (CC.out _).mono ?_; rintro e w2 ⟨rfl, hw2⟩; have HW2 := hide (HW1.out.trans ((((Below.refl w1.heap.size w1).alloc (Nat.le_refl _) _).trans (hw2.mono (by simp))).mono HW1.out.size)); have hq := HBB.out.below HW2.out HBB.out.lt; have b0 := hq.cell 0; have b1 := hq.cell 1; have f0 := hq.frozen 0; have f1 := hq.frozen 1; have hlt2 := hq.lt; have hne2 : w2.heap.size ≠ w.heap.size + 1 + 1 + 1 + 1 := (by omega); simp at b0 b1; clear hw2 hq) | (go_at_call 40; refine (CL.out _).mono ?_; rintro e w3 ⟨rfl, hw3⟩; have HW3 := hide (HW2.out.trans (((Below.refl w2.heap.size w2).alloc (Nat.le_refl _) _).trans (hw3.mono (by simp)) |>.mono HW2.out.size)); have hq := HBB.out.below HW3.out HBB.out.lt; have b0 := hq.cell 0; have b1 := hq.cell 1; have f0 := hq.frozen 0; have f1 := hq.frozen 1; have hq2 := (Blk.new w2 45 #[I cv.c, I cv.s]).below hw3 (by simp); have x20 := hq2.cell 0; have x21 := hq2.cell 1; simp at b0 b1 x20 x21; clear hw3 hq hq2))
            go_roundw
            case rel =>
              have hb := HW3.out
              refine ⟨k + 1, by simp, by rw [HST.out], by omega, by rw [HST.out]; exact HBB.out.below hb HBB.out.lt, HBR.out.below hb HBR.out.lt, HBG.out.below hb HBG.out.lt, HBC.out.below hb HBC.out.lt, HBEL.out.trans (hb.mono HBEL.out.size)⟩
            case measure => simp [intOf]; omega
          · have HST := hide (show goalK val L.fin (k + 1) = (cv, (k : Int)) by rw [HST.out, if_pos ⟨h1, .inr hl⟩])
            have CL := CL.out
            rw [hl] at CL
            have CL := hide CL
            unfold Inf at h1
            clear b0 b1 f0 f1 hl
            go_wp2_with (first | (go_at_call 28; refine CA1.out.mono ?_; rintro e w1 ⟨rfl, hw1⟩; have HW1 := hide hw1; clear hw1) | (go_at_call 39; refine (CC.out _).mono ?_; rintro e w2 ⟨rfl, hw2⟩; have HW2 := hide (HW1.out.trans ((((Below.refl w1.heap.size w1).alloc (Nat.le_refl _) _).trans (hw2.mono (by simp))).mono HW1.out.size)); have hq := HBB.out.below HW2.out HBB.out.lt; have b0 := hq.cell 0; have b1 := hq.cell 1; have f0 := hq.frozen 0; have f1 := hq.frozen 1; have hlt2 := hq.lt; have hne2 : w2.heap.size ≠ w.heap.size + 1 + 1 + 1 + 1 := (by omega); simp at b0 b1; clear hw2 hq) | (go_at_call 40; refine (CL.out _).mono ?_; rintro e w3 ⟨rfl, hw3⟩; have HW3 := hide (HW2.out.trans (((Below.refl w2.heap.size w2).alloc (Nat.le_refl _) _).trans (hw3.mono (by simp)) |>.mono HW2.out.size)); have hq := HBB.out.below HW3.out HBB.out.lt; have b0 := hq.cell 0; have b1 := hq.cell 1; have f0 := hq.frozen 0; have f1 := hq.frozen 1; have hq2 := (Blk.new w2 45 #[I cv.c, I cv.s]).below hw3 (by simp); have x20 := hq2.cell 0; have x21 := hq2.cell 1; simp at b0 b1 x20 x21; clear hw3 hq hq2))
            go_roundw
            case rel =>
              have hb := HW3.out
              refine ⟨k + 1, by simp, by rw [HST.out], by omega, ?_, ((HBR.out.below hb HBR.out.lt).far (by simp) _).far (by simp) _, ((HBG.out.below hb HBG.out.lt).far (by first | (simp; done) | (simp; omega)) _).far (by first | (simp; done) | (simp; omega)) _, ((HBC.out.below hb HBC.out.lt).far (by first | (simp; done) | (simp; omega)) _).far (by first | (simp; done) | (simp; omega)) _, ((HBEL.out.trans (hb.mono HBEL.out.size)).setCell (by first | (simp; done) | (simp; omega)) _).setCell (by first | (simp; done) | (simp; omega)) _⟩
              rw [HST.out]
              exact (((HBB.out.below hb HBB.out.lt).set_ 0 _).set_ 1 _).eq_ (by simp)
            case measure => simp [intOf]; omega
    · have HE := hide (show goalP (fval cN cS G.nS cs) L.fin = gk by rw [hgk, ← HVAL.out, goalP_eq, show L.fin.length = k by omega])
      clear hbb hbr hbg hbc hbel hgk
      go_wp2
      refine bodyPost_ret (v := GoalRet gk) (by simp [results, Tryd.results19, go_sem, GoalRet, r0, r1, e0, e1]) rfl ⟨by rw [HE.out], ?_⟩
      exact (HBEL.out.setCell (by simp; omega) _).setCell (by simp; omega) _
end Go.Proofs.YtnifpeamgoapmaaDoor
/- The chart of the document's example. No Go in sight. -/
namespace Go.Proofs.YtnifpeamgoapmaaDoor

def exG : Gram := ⟨1, 1, 0, [⟨2, 0, 0, 0, 2, 0⟩, ⟨4, 0, 0, 0, 0, 1⟩]⟩
def exL : Lat := ⟨3, [⟨0, 1, 0, 0⟩, ⟨1, 2, 0, 0⟩], [Inf, Inf, 5]⟩
def exC : List Cel := [noneC, ⟨⟨2, 1⟩, 0, 0⟩, ⟨⟨4, 3⟩, 1, 1⟩, noneC, ⟨⟨2, 1⟩, 0, 1⟩, noneC]
theorem exB : GBds exG exL := by
  refine ⟨by decide, by decide, ?_, by decide, by decide, by decide, by decide, ?_, ?_⟩
  · intro r hr
    simp only [exG, List.mem_cons, List.not_mem_nil, or_false] at hr
    rcases hr with rfl | rfl
    · exact ⟨by decide, by decide, by decide, by decide, by decide, by decide, by decide, by decide⟩
    · exact ⟨by decide, by decide, by decide, by decide, by decide, by decide, by decide, by decide⟩
  · intro a ha
    simp only [exL, List.mem_cons, List.not_mem_nil, or_false] at ha
    rcases ha with rfl | rfl <;> decide
  · unfold exL
    simp [arcLt]
/-- closed, by trial -/
def chk (X : SpanC) (best : List Vl) : Bool := X.G.rules.all fun r => (X.insts r).all fun i => !(vlt (X.cmb best i) (vof best r.h))
theorem chk_ok {X : SpanC} {best : List Vl} (h : chk X best = true) : ∀ r ∈ X.G.rules, ∀ i ∈ X.insts r, vle (vof best r.h) (X.cmb best i) := by
  intro r hr i hi
  unfold chk at h
  rw [List.all_eq_true] at h
  have := h r hr
  rw [List.all_eq_true] at this
  have := this i hi
  unfold vle
  simpa using this
theorem ex_span (f t : Nat) (c : Cel) (hl : (seg exC 1 3 f t) = [c]) (h1 : chk (spanOf exG exL exC f t) [c.v] = true) (h2 : c = (spanOf exG exL exC f t).choose [c.v] 0) (hn : VNF c.v)
    (h3 : c.v.c < Inf → Deriv (spanOf exG exL exC f t) 0 c.v) : IsCells (spanOf exG exL exC f t) (seg exC exG.nN.toNat exL.st.toNat f t) := by
  show IsCells _ (seg exC 1 3 f t)
  rw [hl]
  refine ⟨rfl, [c.v], ⟨rfl, ?_, chk_ok h1, ?_⟩, ?_⟩
  · intro v hv
    simp only [List.mem_singleton] at hv
    rw [hv]; exact hn
  · intro h v hv hc
    cases h with
    | zero => simp at hv; subst hv; exact h3 hc
    | succ h => simp at hv
  · intro h c' hc
    cases h with
    | zero => simp at hc; subst hc; exact h2
    | succ h => simp at hc
theorem ex_chart : IsChart exG exL exC := by
  refine ⟨by decide, ?_, ?_⟩
  · intro c hc
    simp only [exC, List.mem_cons, List.not_mem_nil, or_false] at hc
    rcases hc with rfl | rfl | rfl | rfl | rfl | rfl <;> simp [noneC, VNF, VOK, Inf]
  · intro f t hft ht _
    have ht3 : t < 3 := ht
    have hc : (f = 0 ∧ t = 0) ∨ (f = 0 ∧ t = 1) ∨ (f = 0 ∧ t = 2) ∨ (f = 1 ∧ t = 1) ∨ (f = 1 ∧ t = 2) ∨ (f = 2 ∧ t = 2) := by omega
    rcases hc with ⟨rfl, rfl⟩ | ⟨rfl, rfl⟩ | ⟨rfl, rfl⟩ | ⟨rfl, rfl⟩ | ⟨rfl, rfl⟩ | ⟨rfl, rfl⟩
    · exact ex_span 0 0 noneC (by decide) (by decide) (by decide) vnf_inf (fun h => by simp [noneC] at h)
    · refine ex_span 0 1 ⟨⟨2, 1⟩, 0, 0⟩ (by decide) (by decide) (by decide) (by simp [VNF, VOK, Inf]) (fun _ => ?_)
      exact Deriv.mk (X := spanOf exG exL exC 0 1) ⟨2, 0, 0, 0, 2, 0⟩ ⟨0, 2, []⟩ (fun _ => ⟨0, 0⟩) (by simp [spanOf, exG]) (by simp [SpanC.insts, spanOf, exL, SpanC.arcOK]) (by simp) (by simp)
    · refine ex_span 0 2 ⟨⟨4, 3⟩, 1, 1⟩ (by decide) (by decide) (by decide) (by simp [VNF, VOK, Inf]) (fun _ => ?_)
      exact Deriv.mk (X := spanOf exG exL exC 0 2) ⟨4, 0, 0, 0, 0, 1⟩ ⟨1, 0, [⟨0, 0, 1⟩, ⟨0, 1, 2⟩]⟩ (spanOf exG exL exC 0 2).tab (by simp [spanOf, exG]) (List.mem_of_getElem? (i := 1) (by rw [inst4_get _ _ rfl 1 (by decide)]; rfl)) (fun x hx ho => by
        simp only [List.mem_cons, List.not_mem_nil, or_false] at hx
        rcases hx with rfl | rfl <;> cases ho) (fun _ _ _ => rfl)
    · exact ex_span 1 1 noneC (by decide) (by decide) (by decide) vnf_inf (fun h => by simp [noneC] at h)
    · refine ex_span 1 2 ⟨⟨2, 1⟩, 0, 1⟩ (by decide) (by decide) (by decide) (by simp [VNF, VOK, Inf]) (fun _ => ?_)
      exact Deriv.mk (X := spanOf exG exL exC 1 2) ⟨2, 0, 0, 0, 2, 0⟩ ⟨1, 2, []⟩ (fun _ => ⟨0, 0⟩) (by simp [spanOf, exG]) (by simp [SpanC.insts, spanOf, exL, SpanC.arcOK]) (by simp) (by simp)
    · exact ex_span 2 2 noneC (by decide) (by decide) (by decide) vnf_inf (fun h => by simp [noneC] at h)
theorem ex_goal : goalP (fval 1 3 0 exC) [Inf, Inf, 5] = (⟨9, 4⟩, 2) := by decide
theorem ex_at : atP 1 3 exC 1 0 0 = noneC ∧ atP 1 3 exC 0 0 1 = ⟨⟨2, 1⟩, 0, 0⟩ ∧ atP 1 3 exC 0 0 2 = ⟨⟨4, 3⟩, 1, 1⟩ := by decide
end Go.Proofs.YtnifpeamgoapmaaDoor
/- example, awake -/
namespace Go.Proofs.YtnifpeamgoapmaaDoor
open Go Go.RowKit

/-- what example gives -/
def ExPost (w : World) (e : Ending) (w' : World) : Prop :=
  ∃ rb ab fb ac fc, e = .returned (.tuple #[.agg #[I 1, I 1, I 0, .slice (some ⟨rb, 0, none⟩) 2 2], .agg #[I 3, .slice (some ⟨ab, 0, none⟩) 2 ac, .slice (some ⟨fb, 0, none⟩) 3 fc]]) ∧
    Rd w' (some ⟨rb, 0, none⟩) 2 6 (rcells exG.rules) ∧ ArcsAt w' (some ⟨ab, 0, none⟩) exL.arcs ∧ Rd w' (some ⟨fb, 0, none⟩) 3 1 (exL.fin.map I) ∧ Below w.heap.size w w'
theorem ArcsAt.two {w : World} {g : Nat} (h : Blk w g 68 #[I 0, I 1, I 0, I 0, .slice none 0 0, I 1, I 2, I 0, I 0, .slice none 0 0]) : ArcsAt w (some ⟨g, 0, none⟩) exL.arcs := by
  intro i a hi
  match i with
  | 0 =>
    simp only [exL, List.getElem?_cons_zero, Option.some.injEq] at hi
    subst hi
    exact ⟨g, 0, none, 0, 0, rfl, by simpa using h.cell 0, by simpa using h.cell 1, by simpa using h.cell 2, by simpa using h.cell 3, by simpa using h.cell 4⟩
  | 1 =>
    simp only [exL, List.getElem?_cons_succ, List.getElem?_cons_zero, Option.some.injEq] at hi
    subst hi
    exact ⟨g, 0, none, 0, 0, rfl, by simpa using h.cell 5, by simpa using h.cell 6, by simpa using h.cell 7, by simpa using h.cell 8, by simpa using h.cell 9⟩
  | k + 2 => simp [exL] at hi
set_option maxRecDepth 100000 in
set_option maxHeartbeats 4000000 in
theorem example_any (w : World) : Calls Tryd.prog 32 #[] w (ExPost w) := by
  go_enter Tryd.func32, Tryd.ntmps32
  go_wp2_with fail
  refine bodyPost_ret (v := .tuple #[.agg #[I 1, I 1, I 0, .slice (some ⟨w.heap.size + 1 + 1, 0, none⟩) 2 2], .agg #[I 3, .slice (some ⟨w.heap.size + 1 + 1 + 1 + 1, 0, none⟩) 2 2, .slice (some ⟨w.heap.size + 1 + 1 + 1 + 1 + 1, 0, none⟩) 3 3]]) (by simp [results, Tryd.results32, go_sem]) rfl ?_
  refine ⟨_, _, _, _, _, rfl, Rd.of_blk (c := 0) (t := 65) ?_ rfl, ArcsAt.two ?_, Rd.of_blk (c := 0) (t := 3) ?_ rfl, ?_⟩
  · exact (((Blk.new3 _ _ _ _ _).alloc _).alloc _).alloc _
  · exact (Blk.ch4 _ _ _ _ _ _ _).alloc _
  · have := Blk.ch4 (w.alloc (Obj.cells #[Value.int IntKind.i64 1, Value.int IntKind.i64 1, Value.int IntKind.i64 0, Value.slice (some { block := w.heap.size + 1 + 1, off := 0 }) 2 2] 24)) (Obj.cells #[Value.int IntKind.i64 3, Value.slice (some { block := w.heap.size + 1 + 1 + 1 + 1, off := 0 }) 2 2, Value.slice (some { block := w.heap.size + 1 + 1 + 1 + 1 + 1, off := 0 }) 3 3] 28)
    rw [World.size_alloc] at this
    exact this _ _ _ _ _
  · exact (below5_ _ _ _ _ _ _).alloc (by simp; omega) _

theorem exbuild_any (rb ab fb ac fc : Nat) (w : World) (hr : Rd w (some ⟨rb, 0, none⟩) 2 6 (rcells exG.rules)) (ha : ArcsAt w (some ⟨ab, 0, none⟩) exL.arcs) (hn : NoneAt w) :
    Calls Tryd.prog 14 #[.agg #[I 1, I 1, I 0, .slice (some ⟨rb, 0, none⟩) 2 2], .agg #[I 3, .slice (some ⟨ab, 0, none⟩) 2 ac, .slice (some ⟨fb, 0, none⟩) 3 fc]] w
      fun e w' => ∃ cb co cc, e = .returned (.agg #[I 1, I 3, .slice (some ⟨cb, co, none⟩) 6 cc]) ∧ Rd w' (some ⟨cb, co, none⟩) 6 4 (ccells exC) ∧ Below w.heap.size w w' := by
  refine (build_any exG exL (some ⟨rb, 0, none⟩) (some ⟨ab, 0, none⟩) (some ⟨fb, 0, none⟩) 2 ac fc w exB ⟨hr, ha, hn⟩).mono ?_
  rintro e w' ⟨A, c, cs, rfl, hc, hrd, hb, _⟩
  obtain rfl := hc.unique exB ex_chart
  obtain ⟨b, o, rfl, _⟩ := hrd.2 (by decide)
  exact ⟨b, o, c, rfl, hrd, hb⟩
theorem exgoal_any (RA AA : Option Addr) (fb cb co rc ac fc cc : Nat) (w : World) (hf : Rd w (some ⟨fb, 0, none⟩) 3 1 (exL.fin.map I)) (hc : Rd w (some ⟨cb, co, none⟩) 6 4 (ccells exC)) (hn : NoneAt w) :
    Calls Tryd.prog 19 #[.agg #[I 1, I 1, I 0, .slice RA 2 rc], .agg #[I 3, .slice AA 2 ac, .slice (some ⟨fb, 0, none⟩) 3 fc], .agg #[I 1, I 3, .slice (some ⟨cb, co, none⟩) 6 cc]] w
      fun e w' => e = .returned (.tuple #[.agg #[I 9, I 4], I 2]) ∧ Below w.heap.size w w' := by
  have := goal_any exG exL 1 3 exC RA AA (some ⟨fb, 0, none⟩) (some ⟨cb, co, none⟩) rc ac fc cc w ⟨hf, hc, hn, by decide, by decide, by decide, by decide, by decide, ex_chart.nf⟩
  have e : goalP (fval 1 3 exG.nS exC) exL.fin = (⟨9, 4⟩, 2) := ex_goal
  rw [e] at this
  exact this
theorem exat_any (h f t : Int) (c : Cel) (hc : atP 1 3 exC h f t = c) (cb co cc : Nat) (w : World) (hr : Rd w (some ⟨cb, co, none⟩) 6 4 (ccells exC)) (hn : NoneAt w) :
    Calls Tryd.prog 28 #[.agg #[I 1, I 3, .slice (some ⟨cb, co, none⟩) 6 cc], .agg #[I h, I f, I t]] w fun e w' => e = .returned (.agg #[I c.v.c, I c.v.s, I c.r, I c.a]) ∧ Below w.heap.size w w' := by
  have := At_any 1 3 h f t (some ⟨cb, co, none⟩) cc exC w hn hr (by decide) (by decide) (by decide)
  rw [hc] at this
  exact this
set_option maxRecDepth 100000 in
set_option maxHeartbeats 8000000 in
/-- awake -/
theorem awake_any (w : World) (hG : NoneAt w) : Calls Tryd.prog 12 #[] w fun e w' => e = .returned (.bool true) ∧ Below w.heap.size w w' := by
  have HG := hide hG
  have HB2 := hide (show ∀ (w : World) o1 o2, Below w.heap.size w ((w.alloc o1).alloc o2) from fun w o1 o2 => ((Below.refl _ _).alloc (Nat.le_refl _) _).alloc (by simp) _)
  have HB1 := hide (show ∀ (w : World) o1, Below w.heap.size w (w.alloc o1) from fun w o1 => (Below.refl _ _).alloc (Nat.le_refl _) _)
  clear hG
  go_enter Tryd.func12, Tryd.ntmps12
  go_wp2_with (first | (go_at_call 32; refine (example_any _).mono ?_; rintro e w1 ⟨rb, ab, fb, ac, fc, rfl, hr, ha, hf, hb⟩; have HR := hide hr; have HAR := hide ha; have HF := hide hf; have HW1 := hide hb; clear hr ha hf hb) | (go_at_call 14; refine (exbuild_any rb ab fb ac fc _ (HR.out.below (HB2.out _ _ _)) (HAR.out.below (HB2.out _ _ _)) ((HG.out.below HW1.out).below (HB2.out _ _ _))).mono ?_; rintro e w3 ⟨cb, co, cc, rfl, hc, hb⟩; have HC := hide hc; have q1 := ((Blk.new w1 24 #[I 1, I 1, I 0, .slice (some ⟨rb, 0, none⟩) 2 2]).alloc _).below hb (by simp; omega); have q2 := (Blk.new2 w1 _ 28 #[I 3, .slice (some ⟨ab, 0, none⟩) 2 ac, .slice (some ⟨fb, 0, none⟩) 3 fc]).below hb (by simp); have HW3 := hide ((HB2.out _ _ _).trans (hb.mono (HB2.out _ _ _).size)); have x10 := q1.cell 0; have x11 := q1.cell 1; have x12 := q1.cell 2; have x13 := q1.cell 3; have x20 := q2.cell 0; have x21 := q2.cell 1; have x22 := q2.cell 2; simp at x10 x11 x12 x13 x20 x21 x22; have l1 := q1.lt; have l2 := q2.lt; have l3 : w3.heap.size ≠ w1.heap.size := (by omega); have l4 : w3.heap.size ≠ w1.heap.size + 1 := (by omega); clear hc hb q1 q2) | (go_at_call 19; refine (exgoal_any _ _ fb cb co _ _ _ cc _ ((HF.out.below HW3.out).below (HB1.out _ _)) (HC.out.below (HB1.out _ _)) ((((HG.out.below HW1.out).below HW3.out)).below (HB1.out _ _))).mono ?_; rintro e w4 ⟨rfl, hb⟩; have q3 := (Blk.new w3 34 #[I 1, I 3, .slice (some ⟨cb, co, none⟩) 6 cc]).below hb (by simp); have HW4 := hide ((HB1.out _ _).trans (hb.mono (HB1.out _ _).size)); have Q3 := hide q3; have x30 := q3.cell 0; have x31 := q3.cell 1; have x32 := q3.cell 2; simp at x30 x31 x32; have l5 := q3.lt; have l6 : w4.heap.size ≠ w3.heap.size := (by omega); clear hb q3) | (go_at_call 28; refine (exat_any 0 0 2 _ ex_at.2.2 cb co cc _ ((((HC.out.below HW4.out).below HW5.out)).below HW6.out) ((((((HG.out.below HW1.out).below HW3.out)).below HW4.out).below HW5.out).below HW6.out)).mono ?_; rintro e w7 ⟨rfl, hb⟩; have HW7 := hide hb; have q6 := Q6.out.below HW7.out Q6.out.lt; have q4 := ((Q4.out.below HW6.out Q4.out.lt)).below HW7.out (by have := Q4.out.lt; have := HW6.out.size; omega); have u0 := q6.cell 0; have u1 := q6.cell 1; have u2 := q6.cell 2; have u3 := q6.cell 3; have v0 := q4.cell 0; have v1 := q4.cell 1; simp at u0 u1 u2 u3 v0 v1; unfold Inf at u0; clear hb q4 q6) | (go_at_call 28; refine (exat_any 0 0 1 _ ex_at.2.1 cb co cc _ (((HC.out.below HW4.out).below HW5.out).below (HB1.out _ _)) ((((((HG.out.below HW1.out).below HW3.out)).below HW4.out).below HW5.out).below (HB1.out _ _))).mono ?_; rintro e w6 ⟨rfl, hb⟩; have q6 := (Blk.new w5 47 #[I Inf, I 0, I (-1), I 0]).below hb (by simp); have HW6 := hide ((HB1.out _ _).trans (hb.mono (HB1.out _ _).size)); have Q6 := hide q6; have q3 := (Q3.out.below HW5.out Q3.out.lt).below HW6.out (by have := Q3.out.lt; have := HW5.out.size; omega); have z30 := q3.cell 0; have z31 := q3.cell 1; have z32 := q3.cell 2; simp at z30 z31 z32; clear hb q3 q6) | (go_at_call 28; refine (exat_any 1 0 0 _ ex_at.1 cb co cc _ ((HC.out.below HW4.out).below (HB1.out _ _)) (((((HG.out.below HW1.out).below HW3.out)).below HW4.out).below (HB1.out _ _))).mono ?_; rintro e w5 ⟨rfl, hb⟩; have q4 := (Blk.new w4 45 #[I 9, I 4]).below hb (by simp); have HW5 := hide ((HB1.out _ _).trans (hb.mono (HB1.out _ _).size)); have Q4 := hide q4; have q3 := Q3.out.below HW5.out Q3.out.lt; have y30 := q3.cell 0; have y31 := q3.cell 1; have y32 := q3.cell 2; simp at y30 y31 y32; have l7 := q3.lt; have l8 : w5.heap.size ≠ w3.heap.size := (by omega); have l9 := q4.lt; have l10 : w5.heap.size ≠ w4.heap.size := (by omega); clear hb q3 q4))
  go_ret
  refine ⟨rfl, ?_⟩
  have h1 := HW1.out.trans (HW3.out.mono HW1.out.size)
  have h2 := h1.trans (HW4.out.mono h1.size)
  have h3 := h2.trans (HW5.out.mono h2.size)
  have h4 := h3.trans (HW6.out.mono h3.size)
  exact h4.trans (HW7.out.mono h4.size)
end Go.Proofs.YtnifpeamgoapmaaDoor
/- ChartAt's walk. -/
namespace Go.Proofs.YtnifpeamgoapmaaDoor
open Go Go.RowKit

set_option maxRecDepth 100000 in
set_option maxHeartbeats 8000000 in
theorem lawAt_any (cN cS h f t : Int) (A : Option Addr) (cp : Nat) (cs : List Cel) (w : World) (hG : NoneAt w) (hR : Rd w A cs.length 4 (ccells cs)) :
    Calls Tryd.prog 8 #[ChartA cN cS A cs.length cp, ItemA h f t] w fun e w' => e = .returned (.bool true) ∧ Below w.heap.size w w' := by
  have HB2 := hide (show ∀ o1 o2, Below w.heap.size w ((w.alloc o1).alloc o2) from fun o1 o2 => ((Below.refl _ _).alloc (Nat.le_refl _) _).alloc (by simp) _)
  have CW := hide (fun W (hb : Below w.heap.size w W) => awake_any W (hG.below hb))
  by_cases hc : (9 < cS ∨ cS < 0 ∨ 10 < cN ∨ cN < 0 ∨ 600 < (cs.length : Int))
  · have hc2 : 9 < cS ∨ (cS ≤ 9 ∧ cS < 0) ∨ (cS ≤ 9 ∧ 0 ≤ cS ∧ 10 < cN) ∨ (cS ≤ 9 ∧ 0 ≤ cS ∧ cN ≤ 10 ∧ cN < 0) ∨ (cS ≤ 9 ∧ 0 ≤ cS ∧ cN ≤ 10 ∧ 0 ≤ cN ∧ 600 < (cs.length : Int)) := by omega
    clear hc hR hG
    rcases hc2 with h1 | ⟨h1, h2⟩ | ⟨h1, h2, h3⟩ | ⟨h1, h2, h3, h4⟩ | ⟨h1, h2, h3, h4, h5⟩
    all_goals
      go_enter Tryd.func8, Tryd.ntmps8
      go_wp2_with (go_at_call 12; refine (CW.out _ (HB2.out _ _)).mono ?_; rintro e w3 ⟨rfl, hb⟩; have HW3 := hide hb; clear hb)
      go_ret
      exact ⟨rfl, (HB2.out _ _).trans (HW3.out.mono (HB2.out _ _).size)⟩
  · have hl : cs.length ≤ 600 := by omega
    have h1 : cS ≤ 9 := by omega
    have h2 : 0 ≤ cS := by omega
    have h3 : cN ≤ 10 := by omega
    have h4 : 0 ≤ cN := by omega
    have h5 : (cs.length : Int) ≤ 600 := by omega
    obtain ⟨ce, hce⟩ : ∃ ce, ce = atP cN cS cs h f t := ⟨_, rfl⟩
    have C1 := hide (fun W (hb : Below w.heap.size w W) => by
      have := At_any cN cS h f t A cp cs W (hG.below hb) (hR.below hb) (by omega) (by omega) (by omega)
      rw [← hce] at this
      exact (show Calls Tryd.prog 28 #[.agg #[I cN, I cS, .slice A cs.length cp], .agg #[I h, I f, I t]] W (fun e w' => e = .returned (.agg #[I ce.v.c, I ce.v.s, I ce.r, I ce.a]) ∧ Below W.heap.size W w') from this))
    have C2 := hide (fun W (hb : Below w.heap.size w W) => by
      have := rAt_any cN cS h f t A cp cs W (hR.below hb) (by omega) (by omega) (by omega)
      rw [← hce] at this
      exact (show Calls Tryd.prog 26 #[.agg #[I cN, I cS, .slice A cs.length cp], .agg #[I h, I f, I t]] W (fun e w' => e = .returned (.agg #[I ce.v.c, I ce.v.s, I ce.r, I ce.a]) ∧ Below W.heap.size W w') from this))
    have b1 := (Blk.new w 34 #[I cN, I cS, .slice A cs.length cp]).alloc (Obj.cells #[I h, I f, I t] 61)
    have b2 := (Blk.new2 w (Obj.cells #[I cN, I cS, .slice A cs.length cp] 34) 61 #[I h, I f, I t])
    have l0 := fun y : LW ((w.alloc (Obj.cells #[I cN, I cS, .slice A cs.length cp] 34)).alloc (Obj.cells #[I h, I f, I t] 61)) => y.cell (b1.cell 0)
    have l1 := fun y : LW ((w.alloc (Obj.cells #[I cN, I cS, .slice A cs.length cp] 34)).alloc (Obj.cells #[I h, I f, I t] 61)) => y.cell (b1.cell 1)
    have l2 := fun y : LW ((w.alloc (Obj.cells #[I cN, I cS, .slice A cs.length cp] 34)).alloc (Obj.cells #[I h, I f, I t] 61)) => y.cell (b1.cell 2)
    have m0 := fun y : LW ((w.alloc (Obj.cells #[I cN, I cS, .slice A cs.length cp] 34)).alloc (Obj.cells #[I h, I f, I t] 61)) => y.cell (b2.cell 0)
    have m1 := fun y : LW ((w.alloc (Obj.cells #[I cN, I cS, .slice A cs.length cp] 34)).alloc (Obj.cells #[I h, I f, I t] 61)) => y.cell (b2.cell 1)
    have m2 := fun y : LW ((w.alloc (Obj.cells #[I cN, I cS, .slice A cs.length cp] 34)).alloc (Obj.cells #[I h, I f, I t] 61)) => y.cell (b2.cell 2)
    simp at l0 l1 l2 m0 m1 m2
    have HBW := hide (fun y : LW ((w.alloc (Obj.cells #[I cN, I cS, .slice A cs.length cp] 34)).alloc (Obj.cells #[I h, I f, I t] 61)) => (HB2.out _ _).trans (y.property.mono (HB2.out _ _).size))
    clear hc hl hR hG b1 b2 hce
    go_enter Tryd.func8, Tryd.ntmps8
    go_wp2_with fail
    refine wp_region_later (by kernel_rfl) (by kernel_rfl) ?_
    repeat (go_big_quiet_step ((first | (go_at_call 12; exact later_call (CW.out _ (HBW.out _))) | (go_at_call 28; exact later_call (C1.out _ (HBW.out _))) | (go_at_call 26; exact later_call (C2.out _ (HBW.out _))))))
    refine wpQuiet_nil ?_
    rintro W1 ⟨⟨_, hW1⟩, rfl⟩
    have HW1 := hide hW1
    clear l0 l1 l2 m0 m1 m2 hW1
    go_wp2
    go_ret
    exact ⟨rfl, (HB2.out _ _).trans (HW1.out.mono (HB2.out _ _).size)⟩
end Go.Proofs.YtnifpeamgoapmaaDoor
