/- The reference: Goal. -/
import Derived.Test.YtnifpeamgoapmaaDoorRd
import Derived.Test.YtnifpeamgoapmaaDoorM12
import Derived.Test.YtnifpeamgoapmaaDoorWi
import Derived.Deep.DeepCutAuto
set_option linter.unusedVariables false
set_option linter.unusedSimpArgs false
namespace Go.Proofs.YtnifpeamgoapmaaDoor
open Go Go.RowKit

structure RGoalArgs (w : World) (L : Lat) (cN cS : Int) (cs : List Cel) (FA CA : Option Addr) : Prop where
  fin : Rd w FA L.fin.length 1 (L.fin.map I)
  cells : Rd w CA cs.length 4 (ccells cs)
  fl : L.fin.length ≤ 9
  fr : ∀ f ∈ L.fin, 0 ≤ f ∧ f ≤ Inf
  c1 : cN ≤ 10
  c2 : cS ≤ 9
  c3 : cs.length ≤ 1000
  cv : ∀ c ∈ cs, VNF c.v
set_option maxRecDepth 100000 in
set_option maxHeartbeats 8000000 in
theorem rgoal_any (G : Gram) (L : Lat) (cN cS : Int) (cs : List Cel) (RA AA FA CA : Option Addr) (rc ac fc cc : Nat) (w : World) (hA : RGoalArgs w L cN cS cs FA CA) (hst : L.st = (L.fin.length : Int)) :
    Calls Tryd.prog 24 #[GramA G RA rc, LatA L AA ac FA fc, ChartA cN cS CA cs.length cc] w fun e w' => e = .returned (GoalRet (goalP (fval cN cS G.nS cs) L.fin)) ∧ Below w.heap.size w w' := by
  have hfl := hA.fl
  obtain ⟨val, hval⟩ : ∃ val, val = fval cN cS G.nS cs := ⟨_, rfl⟩
  have hvn : ∀ t, VNF (val t) := by rw [hval]; exact fun t => fval_nf hA.cv t
  have CA_ := hide (fun (t : Nat) W (hb : Below w.heap.size w W) => rAt_any cN cS G.nS 0 (t : Int) CA cc cs W (hA.cells.below hb) (by have := hA.c1; omega) (by have := hA.c2; omega) (by have := hA.c3; omega))
  have HVAL := hide hval
  have HVN := hide hvn
  have HA := hide hA
  have HSTE := hide hst
  clear hA hval hvn hst
  go_enter Tryd.func24, Tryd.ntmps24
  go_wp2_with fail
  go_loopw [9, 10] (fun s9 s10 wr => ∃ k : Nat, s10 = .int .i64 k ∧ s9 = .int .i64 (goalK val L.fin k).2 ∧ k ≤ L.fin.length ∧ Blk wr (w.heap.size + 1 + 1 + 1 + 1) 45 #[I (goalK val L.fin k).1.c, I (goalK val L.fin k).1.s] ∧ Blk wr (w.heap.size + 1 + 1 + 1) 45 #[I 0, I 0] ∧
    Blk wr w.heap.size 24 #[I G.nT, I G.nN, I G.nS, .slice RA G.rules.length rc] ∧ Blk wr (w.heap.size + 1) 28 #[I L.st, .slice AA L.arcs.length ac, .slice FA L.fin.length fc] ∧ Blk wr (w.heap.size + 1 + 1) 34 #[I cN, I cS, .slice CA cs.length cc] ∧ Below w.heap.size w wr) (fun _ s10 _ => 20 - (intOf s10).toNat)
  case atStart =>
    refine ⟨0, rfl, rfl, Nat.zero_le _, Blk.ch4 _ _ _ _ _ _ _, Blk.ch3 _ _ _ _ _ _ _, Blk.ch0 _ _ _ _ _ _ _, Blk.ch1 _ _ _ _ _ _ _, Blk.ch2 _ _ _ _ _ _ _, below5_ _ _ _ _ _ _⟩
  case round =>
    obtain ⟨k, rfl, rfl, hk, hbb, hbr, hbg, hbl, hbc, hbel⟩ := hrel
    obtain ⟨gk, hgk⟩ : ∃ gk, gk = goalK val L.fin k := ⟨_, rfl⟩
    have HGI := hide (goalK_inf val L.fin k HVN.out (fun f hf => (HA.out.fr f hf).1))
    have HGI2 := HGI.out
    rw [← hgk] at hbb HGI2 ⊢
    have HGI := hide HGI2
    clear HGI2
    have hcs : (k : Int) < L.fin.length ∨ (L.fin.length : Int) ≤ k := by omega
    have b0 := hbb.cell 0
    have b1 := hbb.cell 1
    have r0 := hbr.cell 0
    have r1 := hbr.cell 1
    have e0 := hbr.frozen 0
    have e1 := hbr.frozen 1
    have f0 := hbb.frozen 0
    have f1 := hbb.frozen 1
    have d0 := hbl.cell 0
    have d2 := hbl.cell 2
    simp at b0 b1 r0 r1 d0 d2
    rw [HSTE.out] at d0
    have HBB := hide hbb
    have HBR := hide hbr
    have HBG := hide hbg
    have HBL := hide hbl
    have HBC := hide hbc
    have HBEL := hide hbel
    rcases hcs with hcs | hcs
    · obtain ⟨f, hf⟩ : ∃ f, L.fin[k]? = some f := ⟨_, List.getElem?_eq_getElem (by omega)⟩
      obtain ⟨fb, fo, hFA, x0⟩ := (HA.out.fin.below hbel).int k hf
      rw [hFA] at d2
      obtain ⟨hf0, hf1⟩ := HA.out.fr f (List.mem_of_getElem? hf)
      have HST := hide (goalK_succ val hf)
      have HST2 := HST.out
      rw [← hgk] at HST2
      have HST := hide HST2
      have hkn : k < L.fin.length := by omega
      have HFA := hide hFA
      clear HST2 hgk hf hbb hbr hFA
      have hfc : Inf ≤ f ∨ f < Inf := by omega
      rcases hfc with hfc | hfc
      · have HST := hide (show goalK val L.fin (k + 1) = gk by rw [HST.out]; unfold gstep; rw [if_pos hfc])
        unfold Inf at hfc hf1
        clear hbg hbl hbc hbel
        go_wp2_with fail
        go_roundw
        case rel =>
          refine ⟨k + 1, by simp, ?_, by omega, ?_, HBR.out, HBG.out, HBL.out, HBC.out, HBEL.out⟩
          · rw [HST.out]
          · rw [HST.out]; exact HBB.out
        case measure => simp [intOf]; omega
      · have CA1 := CA_.out k
        obtain ⟨ce, hce⟩ : ∃ ce, ce = atP cN cS cs G.nS 0 (k : Int) := ⟨_, rfl⟩
        rw [← hce] at CA1
        delta CelA at CA1
        have C26 := hide (fun W (hb : Grew wr W) => CA1 W (hbel.trans (Below.mono hb hbel.size)))
        have hv : val k = ce.v := by rw [HVAL.out, hce]; rfl
        have hvn : VNF ce.v := by rw [← hv]; exact HVN.out k
        obtain ⟨cv, hcv⟩ : ∃ cv, cv = comb f [ce.v] := ⟨_, rfl⟩
        have C25 := hide (fun W (g : Nat) (hR : Blk W g 45 #[I ce.v.c, I ce.v.s]) => by
          have := rcombine_any f [ce.v] (some ⟨g, 0, none⟩) 1 W hf0 (by unfold Inf at hfc; omega) (by intro v hv; simp only [List.mem_singleton] at hv; rw [hv]; exact hvn.1) (by simp) (Rd.of_blk (c := 0) hR rfl)
          rw [← hcv] at this
          exact (show Calls Tryd.prog 25 #[.int .i64 f, .slice (some ⟨g, 0, none⟩) 1 1] W (fun e w' => e = .returned (.agg #[I cv.c, I cv.s]) ∧ Below W.heap.size W w') from this))
        have hcn : VNF cv := by rw [hcv]; exact comb_nf hf0 (fun v hv => by simp only [List.mem_singleton] at hv; rw [hv]; exact hvn.1)
        have HST := hide (show goalK val L.fin (k + 1) = if cv.c < Inf ∧ (gk.2 < 0 ∨ vlt cv gk.1 = true) then (cv, (k : Int)) else gk by rw [HST.out]; unfold gstep; rw [if_neg (by simp only; omega)]; simp only [hv, ← hcv])
        have CL := hide (fun W => rless_any cv gk.1 W)
        have F1 := run_field47 (I ce.v.c) (I ce.v.s) (I ce.r) (I ce.a)
        have hcase : Inf ≤ cv.c ∨ (cv.c < Inf ∧ gk.2 < 0) ∨ (cv.c < Inf ∧ 0 ≤ gk.2) := by omega
        have hg1 := HGI.out.2.1
        unfold Inf at hfc hf1
        clear hce hv hvn hcv hcn CA_ CA1
        go_upto_region 6 with fail
        go_cut [11] (fun s11 wx => ∃ g : Nat, s11 = .pointer (some ⟨g, 0, none⟩) ∧ Blk wx g 45 #[I cv.c, I cv.s] ∧ Below wr.heap.size wr wx ∧ wr.heap.size ≤ g)
        case first =>
          have a0 : ∀ w', Grew wr w' → w'.cell? ⟨w.heap.size + 1, 2, none⟩ = some (.slice (some ⟨fb, fo, none⟩) L.fin.length fc) := fun w' h => cell_below h d2
          have a1 : ∀ w', Grew wr w' → w'.cell? ⟨fb, fo + k, none⟩ = some (I f) := fun w' h => cell_below h x0
          have a2 : ∀ w', Grew wr w' → w'.cell? ⟨w.heap.size + 1 + 1, 0, none⟩ = some (I cN) := fun w' h => cell_below h (by have := hbc.cell 0; simpa using this)
          have a3 : ∀ w', Grew wr w' → w'.cell? ⟨w.heap.size + 1 + 1, 1, none⟩ = some (I cS) := fun w' h => cell_below h (by have := hbc.cell 1; simpa using this)
          have a4 : ∀ w', Grew wr w' → w'.cell? ⟨w.heap.size + 1 + 1, 2, none⟩ = some (.slice CA cs.length cc) := fun w' h => cell_below h (by have := hbc.cell 2; simpa using this)
          have a5 : ∀ w', Grew wr w' → w'.cell? ⟨w.heap.size, 2, none⟩ = some (I G.nS) := fun w' h => cell_below h (by have := hbg.cell 2; simpa using this)
          clear hbg hbl hbc hbel b0 b1 r0 r1 e0 e1 f0 f1 d0 d2 x0
          refine wp_region_E (fun w' => Grew wr w') 15 (by kernel_rfl) ?_
          have G0 : Grew wr wr.drew := Below.drew (Below.refl _ _)
          generalize wr.drew = W0 at G0 ⊢
          refine wpAnyE_take (i := 0) (v := ?vv1) rfl (by kernel_rfl) (fun _ _ _ h => h) (Or.inl ⟨by rfl, ?hy1⟩) G0 ?re1
          case hy1 =>
            intro w' hSw
            go_simp
            try with_reducible rfl
          try simp only [Act.put, List.setIfInBounds_toArray, List.set_cons_zero, List.set_cons_succ]
          refine wpAnyE_take (i := 1) (v := ?vv2) rfl (by kernel_rfl) (fun _ _ _ h => h) (Or.inl ⟨by rfl, ?hy2⟩) G0 ?re2
          case hy2 =>
            intro w' hSw
            go_simp
            try with_reducible rfl
          try simp only [Act.put, List.setIfInBounds_toArray, List.set_cons_zero, List.set_cons_succ]
          refine wpAnyE_take (i := 2) (v := ?vv3) rfl (by kernel_rfl) (fun _ _ _ h => h) (Or.inl ⟨by rfl, ?hy3⟩) G0 ?re3
          case hy3 =>
            intro w' hSw
            go_simp
            try with_reducible rfl
          try simp only [Act.put, List.setIfInBounds_toArray, List.set_cons_zero, List.set_cons_succ]
          refine wpAnyE_take (i := 3) (v := ?vv4) rfl (by kernel_rfl) (fun _ _ _ h => h) (Or.inl ⟨by rfl, ?hy4⟩) G0 ?re4
          case hy4 =>
            intro w' hSw
            go_simp
            try with_reducible rfl
          try simp only [Act.put, List.setIfInBounds_toArray, List.set_cons_zero, List.set_cons_succ]
          refine wpAnyE_take (i := 4) (v := ?vv5) rfl (by kernel_rfl) (fun _ _ _ h => h) (Or.inl ⟨by rfl, ?hy5⟩) G0 ?re5
          case hy5 =>
            intro w' hSw
            go_simp
            try with_reducible rfl
          try simp only [Act.put, List.setIfInBounds_toArray, List.set_cons_zero, List.set_cons_succ]
          refine wpAnyE_take (i := 5) (v := ?vv6) rfl (by kernel_rfl) (fun _ _ _ h => h) (Or.inl ⟨by rfl, ?hy6⟩) G0 ?re6
          case hy6 =>
            intro w' hSw
            go_simp
            try with_reducible rfl
          try simp only [Act.put, List.setIfInBounds_toArray, List.set_cons_zero, List.set_cons_succ]
          refine wpAnyE_take (i := 6) (v := ?vv7) rfl (by kernel_rfl) (fun _ _ _ h => h) (Or.inl ⟨by rfl, ?hy7⟩) G0 ?re7
          case hy7 =>
            intro w' hSw
            go_simp
            try with_reducible rfl
          try simp only [Act.put, List.setIfInBounds_toArray, List.set_cons_zero, List.set_cons_succ]
          refine wpAnyE_take (i := 7) (v := ?vv8) rfl (by kernel_rfl) (fun _ _ _ h => h) (Or.inl ⟨by rfl, ?hy8⟩) G0 ?re8
          case hy8 =>
            intro w' hSw
            go_simp
            try with_reducible rfl
          try simp only [Act.put, List.setIfInBounds_toArray, List.set_cons_zero, List.set_cons_succ]
          refine wpAnyE_take (i := 8) (v := ?vv9) rfl (by kernel_rfl) (fun _ _ _ h => h) (Or.inl ⟨by rfl, ?hy9⟩) G0 ?re9
          case hy9 =>
            intro w' hSw
            go_simp
            try with_reducible rfl
          try simp only [Act.put, List.setIfInBounds_toArray, List.set_cons_zero, List.set_cons_succ]
          refine wpAnyE_take (i := 9) (v := ?vv10) rfl (by kernel_rfl) (fun _ _ _ h => h) (Or.inl ⟨by rfl, ?hy10⟩) G0 ?re10
          case hy10 =>
            intro w' hSw
            go_simp
            try with_reducible rfl
          try simp only [Act.put, List.setIfInBounds_toArray, List.set_cons_zero, List.set_cons_succ]
          refine wpAnyE_two (i := 10) (j := 14) rfl rfl (by kernel_rfl) (fun K hK => ?_) (fun K hK => ?_)
          · go_simp
            (go_at_call 26; refine (C26.out _ G0).mono ?_; rintro e W1 ⟨rfl, hw1⟩)
            have G1 : Grew wr W1 := Below.trans G0 (Below.mono hw1 (Below.size G0))
            refine hK.out _ _ (fun _ => G1) ?_
            clear hK K
            try simp only [Act.put, List.setIfInBounds_toArray, List.set_cons_zero, List.set_cons_succ]
            clear hw1
            refine wpAnyE_take (i := 11) (v := ?vv11) rfl (by kernel_rfl) (fun _ _ _ h => h) (Or.inl ⟨by rfl, ?hy11⟩) G1 ?re11
            case hy11 =>
              intro w' hSw
              go_simp
              try with_reducible rfl
            try simp only [Act.put, List.setIfInBounds_toArray, List.set_cons_zero, List.set_cons_succ]
            refine wpAnyE_two (i := 12) (j := 14) rfl rfl (by kernel_rfl) (fun K hK => ?_) (fun K hK => ?_)
            · go_simp
              refine hK.out _ _ (fun _ => Below.alloc G1 (Below.size G1) _) ?_
              clear hK K
              try simp only [Act.put, List.setIfInBounds_toArray, List.set_cons_zero, List.set_cons_succ]
              have G2 : Grew wr (W1.alloc (Obj.cells #[I ce.v.c, I ce.v.s] 45)) := Below.alloc G1 (Below.size G1) (Obj.cells #[I ce.v.c, I ce.v.s] 45)
              have hr2 := Blk.new W1 45 #[I ce.v.c, I ce.v.s]
              generalize W1.alloc (Obj.cells #[I ce.v.c, I ce.v.s] 45) = W2 at G2 hr2 ⊢
              generalize W1.heap.size = gr at hr2 ⊢
              refine wpAnyE_two (i := 13) (j := 14) rfl rfl (by kernel_rfl) (fun K hK => ?_) (fun K hK => ?_)
              · go_simp
                (go_at_call 25; refine (C25.out _ _ hr2).mono ?_; rintro e W3 ⟨rfl, hw3⟩)
                have G3 : Grew wr W3 := Below.trans G2 (Below.mono hw3 (Below.size G2))
                refine hK.out _ _ (fun _ => G3) ?_
                clear hK K
                try simp only [Act.put, List.setIfInBounds_toArray, List.set_cons_zero, List.set_cons_succ]
                clear hw3
                refine wpAnyE_one (i := 14) rfl (by kernel_rfl) (fun K hK => ?_)
                go_simp
                refine hK.out _ _ (fun _ => Below.alloc G3 (Below.size G3) _) ?_
                clear hK K
                try simp only [Act.put, List.setIfInBounds_toArray, List.set_cons_zero, List.set_cons_succ]
                have gg4 := Below.alloc G3 (Below.size G3) (Obj.cells #[I 0, I 0] 45)
                have hb4 := Blk.new W3 45 #[I 0, I 0]
                have hg4 := Below.size G3
                have hr4 := hr2.alloc (Obj.cells #[I 0, I 0] 45)
                have G4 : Grew wr (W3.alloc (Obj.cells #[I 0, I 0] 45)) := gg4
                clear gg4
                generalize W3.alloc (Obj.cells #[I 0, I 0] 45) = W4 at G4 hb4 hr4 ⊢
                generalize W3.heap.size = ga at hb4 hg4 ⊢
                have q0 := hb4.cell 0
                have q1 := hb4.cell 1
                have f0 := hb4.frozen 0
                have f1 := hb4.frozen 1
                simp at q0 q1
                refine wpAnyE_one (i := 15) rfl (by kernel_rfl) (fun K hK => ?_)
                go_simp
                refine hK.out _ _ (fun h => absurd rfl h) ?_
                clear hK K
                try simp only [Act.put, List.setIfInBounds_toArray, List.set_cons_zero, List.set_cons_succ]
                refine wpAnyE_done (by kernel_rfl) ?_
                go_wp2_with fail
                go_meet
                exact ⟨ga, rfl, ((hb4.set_ 0 _).set_ 1 _).eq_ (by simp), Below.setCell (Below.setCell G4 (p := ⟨ga, 0, none⟩) hg4 _) (p := ⟨ga, 1, none⟩) hg4 _, hg4⟩
              · go_simp
                refine hK.out _ _ (fun _ => Below.alloc G2 (Below.size G2) _) ?_
                clear hK K
                try simp only [Act.put, List.setIfInBounds_toArray, List.set_cons_zero, List.set_cons_succ]
                have gg3 := Below.alloc G2 (Below.size G2) (Obj.cells #[I 0, I 0] 45)
                have hb3 := Blk.new W2 45 #[I 0, I 0]
                have hg3 := Below.size G2
                have hr3 := hr2.alloc (Obj.cells #[I 0, I 0] 45)
                have G3 : Grew wr (W2.alloc (Obj.cells #[I 0, I 0] 45)) := gg3
                clear gg3
                generalize W2.alloc (Obj.cells #[I 0, I 0] 45) = W3 at G3 hb3 hr3 ⊢
                generalize W2.heap.size = ga at hb3 hg3 ⊢
                refine wpAnyE_one (i := 13) rfl (by kernel_rfl) (fun K hK => ?_)
                go_simp
                (go_at_call 25; refine (C25.out _ _ hr3).mono ?_; rintro e W4 ⟨rfl, hw4⟩)
                have G4 : Grew wr W4 := Below.trans G3 (Below.mono hw4 (Below.size G3))
                refine hK.out _ _ (fun _ => G4) ?_
                clear hK K
                try simp only [Act.put, List.setIfInBounds_toArray, List.set_cons_zero, List.set_cons_succ]
                have hb4 := hb3.below hw4 hb3.lt
                clear hw4
                have q0 := hb4.cell 0
                have q1 := hb4.cell 1
                have f0 := hb4.frozen 0
                have f1 := hb4.frozen 1
                simp at q0 q1
                refine wpAnyE_one (i := 15) rfl (by kernel_rfl) (fun K hK => ?_)
                go_simp
                refine hK.out _ _ (fun h => absurd rfl h) ?_
                clear hK K
                try simp only [Act.put, List.setIfInBounds_toArray, List.set_cons_zero, List.set_cons_succ]
                refine wpAnyE_done (by kernel_rfl) ?_
                go_wp2_with fail
                go_meet
                exact ⟨ga, rfl, ((hb4.set_ 0 _).set_ 1 _).eq_ (by simp), Below.setCell (Below.setCell G4 (p := ⟨ga, 0, none⟩) hg3 _) (p := ⟨ga, 1, none⟩) hg3 _, hg3⟩
            · go_simp
              refine hK.out _ _ (fun _ => Below.alloc G1 (Below.size G1) _) ?_
              clear hK K
              try simp only [Act.put, List.setIfInBounds_toArray, List.set_cons_zero, List.set_cons_succ]
              have gg2 := Below.alloc G1 (Below.size G1) (Obj.cells #[I 0, I 0] 45)
              have hb2 := Blk.new W1 45 #[I 0, I 0]
              have hg2 := Below.size G1
              have G2 : Grew wr (W1.alloc (Obj.cells #[I 0, I 0] 45)) := gg2
              clear gg2
              generalize W1.alloc (Obj.cells #[I 0, I 0] 45) = W2 at G2 hb2 ⊢
              generalize W1.heap.size = ga at hb2 hg2 ⊢
              refine wpAnyE_one (i := 12) rfl (by kernel_rfl) (fun K hK => ?_)
              go_simp
              refine hK.out _ _ (fun _ => Below.alloc G2 (Below.size G2) _) ?_
              clear hK K
              try simp only [Act.put, List.setIfInBounds_toArray, List.set_cons_zero, List.set_cons_succ]
              have G3 : Grew wr (W2.alloc (Obj.cells #[I ce.v.c, I ce.v.s] 45)) := Below.alloc G2 (Below.size G2) (Obj.cells #[I ce.v.c, I ce.v.s] 45)
              have hr3 := Blk.new W2 45 #[I ce.v.c, I ce.v.s]
              have hb3 := hb2.alloc (Obj.cells #[I ce.v.c, I ce.v.s] 45)
              generalize W2.alloc (Obj.cells #[I ce.v.c, I ce.v.s] 45) = W3 at G3 hr3 hb3 ⊢
              generalize W2.heap.size = gr at hr3 ⊢
              refine wpAnyE_one (i := 13) rfl (by kernel_rfl) (fun K hK => ?_)
              go_simp
              (go_at_call 25; refine (C25.out _ _ hr3).mono ?_; rintro e W4 ⟨rfl, hw4⟩)
              have G4 : Grew wr W4 := Below.trans G3 (Below.mono hw4 (Below.size G3))
              refine hK.out _ _ (fun _ => G4) ?_
              clear hK K
              try simp only [Act.put, List.setIfInBounds_toArray, List.set_cons_zero, List.set_cons_succ]
              have hb4 := hb3.below hw4 hb3.lt
              clear hw4
              have q0 := hb4.cell 0
              have q1 := hb4.cell 1
              have f0 := hb4.frozen 0
              have f1 := hb4.frozen 1
              simp at q0 q1
              refine wpAnyE_one (i := 15) rfl (by kernel_rfl) (fun K hK => ?_)
              go_simp
              refine hK.out _ _ (fun h => absurd rfl h) ?_
              clear hK K
              try simp only [Act.put, List.setIfInBounds_toArray, List.set_cons_zero, List.set_cons_succ]
              refine wpAnyE_done (by kernel_rfl) ?_
              go_wp2_with fail
              go_meet
              exact ⟨ga, rfl, ((hb4.set_ 0 _).set_ 1 _).eq_ (by simp), Below.setCell (Below.setCell G4 (p := ⟨ga, 0, none⟩) hg2 _) (p := ⟨ga, 1, none⟩) hg2 _, hg2⟩
          · go_simp
            refine hK.out _ _ (fun _ => Below.alloc G0 (Below.size G0) _) ?_
            clear hK K
            try simp only [Act.put, List.setIfInBounds_toArray, List.set_cons_zero, List.set_cons_succ]
            have gg1 := Below.alloc G0 (Below.size G0) (Obj.cells #[I 0, I 0] 45)
            have hb1 := Blk.new W0 45 #[I 0, I 0]
            have hg1 := Below.size G0
            have G1 : Grew wr (W0.alloc (Obj.cells #[I 0, I 0] 45)) := gg1
            clear gg1
            generalize W0.alloc (Obj.cells #[I 0, I 0] 45) = W1 at G1 hb1 ⊢
            generalize W0.heap.size = ga at hb1 hg1 ⊢
            refine wpAnyE_one (i := 10) rfl (by kernel_rfl) (fun K hK => ?_)
            go_simp
            (go_at_call 26; refine (C26.out _ G1).mono ?_; rintro e W2 ⟨rfl, hw2⟩)
            have G2 : Grew wr W2 := Below.trans G1 (Below.mono hw2 (Below.size G1))
            refine hK.out _ _ (fun _ => G2) ?_
            clear hK K
            try simp only [Act.put, List.setIfInBounds_toArray, List.set_cons_zero, List.set_cons_succ]
            have hb2 := hb1.below hw2 hb1.lt
            clear hw2
            refine wpAnyE_take (i := 11) (v := ?vv12) rfl (by kernel_rfl) (fun _ _ _ h => h) (Or.inl ⟨by rfl, ?hy12⟩) G2 ?re12
            case hy12 =>
              intro w' hSw
              go_simp
              try with_reducible rfl
            try simp only [Act.put, List.setIfInBounds_toArray, List.set_cons_zero, List.set_cons_succ]
            refine wpAnyE_one (i := 12) rfl (by kernel_rfl) (fun K hK => ?_)
            go_simp
            refine hK.out _ _ (fun _ => Below.alloc G2 (Below.size G2) _) ?_
            clear hK K
            try simp only [Act.put, List.setIfInBounds_toArray, List.set_cons_zero, List.set_cons_succ]
            have G3 : Grew wr (W2.alloc (Obj.cells #[I ce.v.c, I ce.v.s] 45)) := Below.alloc G2 (Below.size G2) (Obj.cells #[I ce.v.c, I ce.v.s] 45)
            have hr3 := Blk.new W2 45 #[I ce.v.c, I ce.v.s]
            have hb3 := hb2.alloc (Obj.cells #[I ce.v.c, I ce.v.s] 45)
            generalize W2.alloc (Obj.cells #[I ce.v.c, I ce.v.s] 45) = W3 at G3 hr3 hb3 ⊢
            generalize W2.heap.size = gr at hr3 ⊢
            refine wpAnyE_one (i := 13) rfl (by kernel_rfl) (fun K hK => ?_)
            go_simp
            (go_at_call 25; refine (C25.out _ _ hr3).mono ?_; rintro e W4 ⟨rfl, hw4⟩)
            have G4 : Grew wr W4 := Below.trans G3 (Below.mono hw4 (Below.size G3))
            refine hK.out _ _ (fun _ => G4) ?_
            clear hK K
            try simp only [Act.put, List.setIfInBounds_toArray, List.set_cons_zero, List.set_cons_succ]
            have hb4 := hb3.below hw4 hb3.lt
            clear hw4
            have q0 := hb4.cell 0
            have q1 := hb4.cell 1
            have f0 := hb4.frozen 0
            have f1 := hb4.frozen 1
            simp at q0 q1
            refine wpAnyE_one (i := 15) rfl (by kernel_rfl) (fun K hK => ?_)
            go_simp
            refine hK.out _ _ (fun h => absurd rfl h) ?_
            clear hK K
            try simp only [Act.put, List.setIfInBounds_toArray, List.set_cons_zero, List.set_cons_succ]
            refine wpAnyE_done (by kernel_rfl) ?_
            go_wp2_with fail
            go_meet
            exact ⟨ga, rfl, ((hb4.set_ 0 _).set_ 1 _).eq_ (by simp), Below.setCell (Below.setCell G4 (p := ⟨ga, 0, none⟩) hg1 _) (p := ⟨ga, 1, none⟩) hg1 _, hg1⟩
        case rest =>
          obtain ⟨g, rfl, hvb, hb1, hgg⟩ := hcut
          have v0 := hvb.cell 0
          have v1 := hvb.cell 1
          simp at v0 v1
          have HB1 := hide hb1
          have HVB := hide hvb
          have hne : g ≠ w.heap.size + 1 + 1 + 1 + 1 := by have := HBB.out.lt; omega
          clear hbg hbl hbc hbel b0 b1 f0 f1 d0 d2 x0 r0 r1 e0 e1 F1 hvb hb1 hgg
          rcases hcase with h1 | ⟨h1, h2⟩ | ⟨h1, h2⟩
          · have HST := hide (show goalK val L.fin (k + 1) = gk by rw [HST.out, if_neg (by omega)])
            unfold Inf at h1
            go_wp2_with fail
            go_roundw
            case rel =>
              have hb := HB1.out
              refine ⟨k + 1, by simp, by rw [HST.out], by omega, by rw [HST.out]; exact HBB.out.below hb HBB.out.lt, HBR.out.below hb HBR.out.lt, HBG.out.below hb HBG.out.lt, HBL.out.below hb HBL.out.lt, HBC.out.below hb HBC.out.lt, HBEL.out.trans (hb.mono HBEL.out.size)⟩
            case measure => simp [intOf]; omega
          · have HST := hide (show goalK val L.fin (k + 1) = (cv, (k : Int)) by rw [HST.out, if_pos ⟨h1, .inl h2⟩])
            unfold Inf at h1
            have hq := HBB.out.below HB1.out HBB.out.lt
            have b0 := hq.cell 0
            have b1 := hq.cell 1
            have f0 := hq.frozen 0
            have f1 := hq.frozen 1
            simp at b0 b1
            clear hq
            go_wp2_with fail
            go_roundw
            case rel =>
              have hb := HB1.out
              refine ⟨k + 1, by simp, by rw [HST.out], by omega, ?_, ((HBR.out.below hb HBR.out.lt).far (by simp) _).far (by simp) _, ((HBG.out.below hb HBG.out.lt).far (by first | (simp; done) | (simp; omega)) _).far (by first | (simp; done) | (simp; omega)) _, ((HBL.out.below hb HBL.out.lt).far (by first | (simp; done) | (simp; omega)) _).far (by first | (simp; done) | (simp; omega)) _, ((HBC.out.below hb HBC.out.lt).far (by first | (simp; done) | (simp; omega)) _).far (by first | (simp; done) | (simp; omega)) _, ((HBEL.out.trans (hb.mono HBEL.out.size)).setCell (by first | (simp; done) | (simp; omega)) _).setCell (by first | (simp; done) | (simp; omega)) _⟩
              rw [HST.out]
              exact (((HBB.out.below hb HBB.out.lt).set_ 0 _).set_ 1 _).eq_ (by simp)
            case measure => simp [intOf]; omega
          · rcases hl : vlt cv gk.1 with _ | _
            · have HST := hide (show goalK val L.fin (k + 1) = gk by rw [HST.out, if_neg (by rw [hl]; simp; omega)])
              have CL := CL.out
              rw [hl] at CL
              have CL := hide CL
              unfold Inf at h1
              have hq := HBB.out.below HB1.out HBB.out.lt
              have b0 := hq.cell 0
              have b1 := hq.cell 1
              have f0 := hq.frozen 0
              have f1 := hq.frozen 1
              simp at b0 b1
              clear hq
              clear hl
              go_wp2_with (go_at_call 27; refine (CL.out _).mono ?_; rintro e w3 ⟨rfl, hw3⟩; have HW3 := hide (HB1.out.trans (hw3.mono HB1.out.size)); clear hw3)
              go_roundw
              case rel =>
                have hb := HW3.out
                refine ⟨k + 1, by simp, by rw [HST.out], by omega, by rw [HST.out]; exact HBB.out.below hb HBB.out.lt, HBR.out.below hb HBR.out.lt, HBG.out.below hb HBG.out.lt, HBL.out.below hb HBL.out.lt, HBC.out.below hb HBC.out.lt, HBEL.out.trans (hb.mono HBEL.out.size)⟩
              case measure => simp [intOf]; omega
            · have HST := hide (show goalK val L.fin (k + 1) = (cv, (k : Int)) by rw [HST.out, if_pos ⟨h1, .inr hl⟩])
              have CL := CL.out
              rw [hl] at CL
              have CL := hide CL
              unfold Inf at h1
              have hq := HBB.out.below HB1.out HBB.out.lt
              have b0 := hq.cell 0
              have b1 := hq.cell 1
              have f0 := hq.frozen 0
              have f1 := hq.frozen 1
              simp at b0 b1
              clear hq
              clear hl
              go_wp2_with (go_at_call 27; refine (CL.out _).mono ?_; rintro e w3 ⟨rfl, hw3⟩; have hv3 := HVB.out.below hw3 HVB.out.lt; have HW3 := hide (HB1.out.trans (hw3.mono HB1.out.size)); clear v0 v1 b0 b1 f0 f1; have v0 := hv3.cell 0; have v1 := hv3.cell 1; have hq := HBB.out.below HW3.out HBB.out.lt; have b0 := hq.cell 0; have b1 := hq.cell 1; have f0 := hq.frozen 0; have f1 := hq.frozen 1; simp at v0 v1 b0 b1; clear hw3 hv3 hq)
              go_roundw
              case rel =>
                have hb := HW3.out
                refine ⟨k + 1, by simp, by rw [HST.out], by omega, ?_, ((HBR.out.below hb HBR.out.lt).far (by simp) _).far (by simp) _, ((HBG.out.below hb HBG.out.lt).far (by first | (simp; done) | (simp; omega)) _).far (by first | (simp; done) | (simp; omega)) _, ((HBL.out.below hb HBL.out.lt).far (by first | (simp; done) | (simp; omega)) _).far (by first | (simp; done) | (simp; omega)) _, ((HBC.out.below hb HBC.out.lt).far (by first | (simp; done) | (simp; omega)) _).far (by first | (simp; done) | (simp; omega)) _, ((HBEL.out.trans (hb.mono HBEL.out.size)).setCell (by first | (simp; done) | (simp; omega)) _).setCell (by first | (simp; done) | (simp; omega)) _⟩
                rw [HST.out]
                exact (((HBB.out.below hb HBB.out.lt).set_ 0 _).set_ 1 _).eq_ (by simp)
              case measure => simp [intOf]; omega
    · have HE := hide (show goalP (fval cN cS G.nS cs) L.fin = gk by rw [hgk, ← HVAL.out, goalP_eq, show L.fin.length = k by omega])
      clear hbb hbr hbg hbl hbc hbel hgk
      go_wp2
      refine bodyPost_ret (v := GoalRet gk) (by simp [results, Tryd.results24, go_sem, GoalRet, r0, r1, e0, e1]) rfl ⟨by rw [HE.out], ?_⟩
      exact (HBEL.out.setCell (by simp; omega) _).setCell (by simp; omega) _
end Go.Proofs.YtnifpeamgoapmaaDoor
