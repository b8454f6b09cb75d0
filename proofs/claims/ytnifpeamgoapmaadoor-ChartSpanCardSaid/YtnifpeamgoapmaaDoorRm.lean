/- The reference: Build. -/
import Derived.Test.YtnifpeamgoapmaaDoorRl
import Derived.Deep.DeepCutAuto
set_option linter.unusedVariables false
set_option linter.unusedSimpArgs false
namespace Go.Proofs.YtnifpeamgoapmaaDoor
open Go Go.RowKit

theorem putAt_snoc {cs A : List Cel} {off i : Nat} {c : Cel} (h : off + A.length ≤ cs.length) (hA : A[i]? = some c) : putAt cs off (A.take (i + 1)) = (putAt cs off (A.take i)).set (off + i) c := by
  have hi := (List.getElem?_eq_some_iff.1 hA).1
  have l1 : (A.take (i + 1)).length = i + 1 := by simp; omega
  have l0 : (A.take i).length = i := by simp; omega
  apply List.ext_getElem?
  intro j
  rw [putAt_get (by omega), List.getElem?_set, l1]
  by_cases e : off + i = j
  · subst e
    rw [if_pos (by omega), if_pos rfl, if_pos (by rw [putAt_len (by omega)]; omega), List.getElem?_take, if_pos (by omega), ← hA]
    congr 1
    omega
  · rw [if_neg e, putAt_get (by omega), l0]
    by_cases h1 : off ≤ j ∧ j < off + i
    · rw [if_pos (by omega), if_pos h1, List.getElem?_take, List.getElem?_take, if_pos (by omega), if_pos (by omega)]
    · rw [if_neg (by omega), if_neg h1]
theorem putAt_zero (cs A : List Cel) (off : Nat) (h : off ≤ cs.length) : putAt cs off (A.take 0) = cs := by
  unfold putAt
  simp

/-- Build under way -/
structure RBI (G : Gram) (L : Lat) (RA AA FA : Option Addr) (rc ac fc : Nat) (w : World) (gc g : Nat) (cs : List Cel) (wr : World) : Prop where
  b24 : Blk wr w.heap.size 24 #[I G.nT, I G.nN, I G.nS, .slice RA G.rules.length rc]
  b28 : Blk wr (w.heap.size + 1) 28 #[I L.st, .slice AA L.arcs.length ac, .slice FA L.fin.length fc]
  bres : Blk wr (w.heap.size + 1 + 1) 34 #[I 0, I 0, .slice none 0 0]
  bch : Blk wr gc 34 #[I G.nN, I L.st, .slice (some ⟨g, 0, none⟩) cs.length cs.length]
  bg : Blk wr g 47 (ccells cs).toArray
  bel : Below w.heap.size w wr
  gec : w.heap.size + 1 + 1 + 1 ≤ gc
  geg : w.heap.size + 1 + 1 + 1 ≤ g
section
variable {G : Gram} {L : Lat} {RA AA FA : Option Addr} {rc ac fc : Nat} {w : World} {gc g : Nat} {cs : List Cel} {wr w' : World}
theorem RBI.below (h : RBI G L RA AA FA rc ac fc w gc g cs wr) (hb : Below wr.heap.size wr w') : RBI G L RA AA FA rc ac fc w gc g cs w' :=
  ⟨h.b24.below hb h.b24.lt, h.b28.below hb h.b28.lt, h.bres.below hb h.bres.lt, h.bch.below hb h.bch.lt, h.bg.below hb h.bg.lt, h.bel.trans (hb.mono h.bel.size), h.gec, h.geg⟩
theorem RBI.drew (h : RBI G L RA AA FA rc ac fc w gc g cs wr) : RBI G L RA AA FA rc ac fc w gc g cs wr.drew := h.below (Below.drew (Below.refl _ _))
theorem RBI.put (h : RBI G L RA AA FA rc ac fc w gc g cs wr) (i : Nat) (c : Cel) :
    RBI G L RA AA FA rc ac fc w gc g (cs.set i c) ((((wr.setCell ⟨g, i * 4, none⟩ (I c.v.c)).setCell ⟨g, i * 4 + 1, none⟩ (I c.v.s)).setCell ⟨g, i * 4 + 2, none⟩ (I c.r)).setCell ⟨g, i * 4 + 3, none⟩ (I c.a)) := by
  have far : ∀ {q t cs'}, Blk wr q t cs' → t ≠ 47 → Blk ((((wr.setCell ⟨g, i * 4, none⟩ (I c.v.c)).setCell ⟨g, i * 4 + 1, none⟩ (I c.v.s)).setCell ⟨g, i * 4 + 2, none⟩ (I c.r)).setCell ⟨g, i * 4 + 3, none⟩ (I c.a)) q t cs' :=
    fun hq ht => (((hq.far (p := ⟨g, i * 4, none⟩) (Blk.ne_ hq h.bg ht) _).far (p := ⟨g, i * 4 + 1, none⟩) (Blk.ne_ hq h.bg ht) _).far (p := ⟨g, i * 4 + 2, none⟩) (Blk.ne_ hq h.bg ht) _).far (p := ⟨g, i * 4 + 3, none⟩) (Blk.ne_ hq h.bg ht) _
  have hge : w.heap.size ≤ g := by have := h.geg; omega
  refine ⟨far h.b24 (by decide), far h.b28 (by decide), far h.bres (by decide), by rw [List.length_set]; exact far h.bch (by decide), ?_, ?_, h.gec, h.geg⟩
  · refine ((((h.bg.set_ _ _).set_ _ _).set_ _ _).set_ _ _).eq_ ?_
    rw [ccells_set]
    simp
  · exact (((h.bel.setCell (p := ⟨g, i * 4, none⟩) hge _).setCell (p := ⟨g, i * 4 + 1, none⟩) hge _).setCell (p := ⟨g, i * 4 + 2, none⟩) hge _).setCell (p := ⟨g, i * 4 + 3, none⟩) hge _
theorem RBI.rd (h : RBI G L RA AA FA rc ac fc w gc g cs wr) : Rd wr (some ⟨g, 0, none⟩) cs.length 4 (ccells cs) := Rd.of_blk (c := 0) h.bg (ccells_length _)
end
/-- Span's answer, its cells at an address of its own -/
def SpanAt2 (X : SpanC) (N : Nat) (w : World) (e : Ending) (w' : World) : Prop :=
  ∃ ab ao c AL, e = .returned (.slice (some ⟨ab, ao, none⟩) N c) ∧ IsCells X AL ∧ (∀ (j : Nat) u, (ccells AL)[j]? = some u → w'.cell? ⟨ab, ao + j, none⟩ = some u) ∧ Below w.heap.size w w' ∧ w.heap.size ≤ ab
theorem SpanPost.at2 {X : SpanC} {N : Nat} {w w' : World} {e : Ending} (h : SpanPost X w e w') (hN : X.N = N) (h0 : 0 < N) : SpanAt2 X N w e w' := by
  obtain ⟨A, c, rfl, cs, h1, h2, h3, h4⟩ := h
  rw [hN] at h2 ⊢
  obtain ⟨ab, ao, rfl, h5⟩ := h2.2 h0
  exact ⟨ab, ao, c, cs, rfl, h1, h5, h3, h4 ab rfl⟩
set_option maxRecDepth 100000 in
set_option maxHeartbeats 8000000 in
theorem rbuild_any (G : Gram) (L : Lat) (RA AA FA : Option Addr) (rc ac fc : Nat) (w : World) (B : GBds G L) (hA : GArgs w G L RA AA) :
    Calls Tryd.prog 15 #[GramA G RA rc, LatA L AA ac FA fc] w (BuiltC G L w) := by
  obtain ⟨N, hN⟩ := Int.eq_ofNat_of_zero_le (show 0 ≤ G.nN by have := B.n0; omega)
  obtain ⟨S, hS⟩ := Int.eq_ofNat_of_zero_le (show 0 ≤ L.st by have := B.s0; omega)
  have hN1 : N ≤ 10 := by have := B.n1; omega
  have hS1 : S ≤ 9 := by have := B.s1; omega
  have hnb : row S S * N ≤ 45 * 10 := Nat.mul_le_mul (row9 hS1) hN1
  have hqb : ∀ f t, f ≤ t → t < S → qN S f t * N + N ≤ row S S * N := fun f t h1 h2 => by
    have h3 : (qN S f t + 1) * N ≤ row S S * N := Nat.mul_le_mul_right N (by have := qN_lt h1 h2; omega)
    rw [Nat.add_mul] at h3
    omega
  have C34 := hide (fun W => count_any N S W hN1 hS1)
  obtain ⟨n, hn⟩ : ∃ n, n = row S S * N := ⟨_, rfl⟩
  rw [← hn] at hnb hqb
  have C34' := C34.out
  rw [← hn] at C34'
  have C34 := hide C34'
  have hmk := fun W => make32 n (by omega) W
  have HQB := hide hqb
  have HNN := hide hn
  clear hn hqb C34'
  obtain ⟨nT, nN, nS, rules⟩ := G
  obtain ⟨st, arcs, fin⟩ := L
  simp only at hN hS
  subst hN
  subst hS
  have HA := hide hA
  have HB := hide B
  clear hA B
  go_enter Tryd.func15, Tryd.ntmps15
  go_upto_region 1 with fail
  have h24 := ((Blk.new w 24 #[I nT, I (N : Int), I nS, .slice RA rules.length rc]).alloc (Obj.cells #[I (S : Int), .slice AA arcs.length ac, .slice FA fin.length fc] 28)).alloc (Obj.cells #[I 0, I 0, .slice none 0 0] 34)
  have h28 := (Blk.new2 w (Obj.cells #[I nT, I (N : Int), I nS, .slice RA rules.length rc] 24) 28 #[I (S : Int), .slice AA arcs.length ac, .slice FA fin.length fc]).alloc (Obj.cells #[I 0, I 0, .slice none 0 0] 34)
  have hres := Blk.new3 w (Obj.cells #[I nT, I (N : Int), I nS, .slice RA rules.length rc] 24) (Obj.cells #[I (S : Int), .slice AA arcs.length ac, .slice FA fin.length fc] 28) 34 #[I 0, I 0, .slice none 0 0]
  have hbel : Below w.heap.size w (((w.alloc (Obj.cells #[I nT, I (N : Int), I nS, .slice RA rules.length rc] 24)).alloc (Obj.cells #[I (S : Int), .slice AA arcs.length ac, .slice FA fin.length fc] 28)).alloc (Obj.cells #[I 0, I 0, .slice none 0 0] 34)) := (((Below.refl _ _).alloc (Nat.le_refl _) _).alloc (by simp) _).alloc (by simp; omega) _
  have hsz : w.heap.size + 1 + 1 + 1 ≤ (((w.alloc (Obj.cells #[I nT, I (N : Int), I nS, .slice RA rules.length rc] 24)).alloc (Obj.cells #[I (S : Int), .slice AA arcs.length ac, .slice FA fin.length fc] 28)).alloc (Obj.cells #[I 0, I 0, .slice none 0 0] 34)).heap.size := by simp
  generalize (((w.alloc (Obj.cells #[I nT, I (N : Int), I nS, .slice RA rules.length rc] 24)).alloc (Obj.cells #[I (S : Int), .slice AA arcs.length ac, .slice FA fin.length fc] 28)).alloc (Obj.cells #[I 0, I 0, .slice none 0 0] 34)) = W at h24 h28 hres hbel hsz ⊢
  go_cut [5] (fun s5 wx => ∃ gc g : Nat, s5 = .pointer (some ⟨gc, 0, none⟩) ∧ RBI ⟨nT, (N : Int), nS, rules⟩ ⟨(S : Int), arcs, fin⟩ RA AA FA rc ac fc w gc g (List.replicate n zeroC) wx)
  case first =>
    have a0 : ∀ w', Grew W w' → w'.cell? ⟨w.heap.size, 1, none⟩ = some (I (N : Int)) := fun w' h => cell_below h (by have := h24.cell 1; simpa using this)
    have a1 : ∀ w', Grew W w' → w'.cell? ⟨w.heap.size + 1, 0, none⟩ = some (I (S : Int)) := fun w' h => cell_below h (by have := h28.cell 0; simpa using this)
    have H24 := hide h24
    have H28 := hide h28
    have HRES := hide hres
    have HBEL := hide hbel
    clear h24 h28 hres hbel
    go_region_held3 (fun w' => Grew W w') ((first | assumption | exact Below.drew (Below.refl _ _) | exact (Below.alloc (Below.refl _ _) (Nat.le_refl _) _).drew | exact (Below.alloc (Below.alloc (Below.refl _ _) (Nat.le_refl _) _) (by simp) _).drew)) ((go_at_call 34; refine (C34.out _).mono ?_; rintro e w' ⟨rfl, rfl⟩))
    all_goals
      have st : ∀ (wx : World) (gc g : Nat), Blk wx gc 34 #[I (N : Int), I (S : Int), .slice (some ⟨g, 0, none⟩) n n] → Blk wx g 47 (ccells (List.replicate n zeroC)).toArray → Below W.heap.size W wx → W.heap.size ≤ gc → W.heap.size ≤ g → RBI ⟨nT, (N : Int), nS, rules⟩ ⟨(S : Int), arcs, fin⟩ RA AA FA rc ac fc w gc g (List.replicate n zeroC) wx := fun wx gc g h1 h2 h3 h4 h5 =>
        ⟨H24.out.below h3 H24.out.lt, H28.out.below h3 H28.out.lt, HRES.out.below h3 HRES.out.lt, by rw [List.length_replicate]; exact h1, h2, HBEL.out.trans (h3.mono HBEL.out.size), by omega, by omega⟩
      have ST := hide st
      clear st
      go_wp2_with fail
      go_meet
      first
        | exact ⟨W.heap.size + 1, W.heap.size, rfl, ST.out _ _ _ (Blk.new2 W _ _ _) ((Blk.new W _ _).alloc _) ((((Below.refl _ _).alloc (Nat.le_refl _) _).alloc (by simp) _).drew) (by omega) (by omega)⟩
        | exact ⟨W.heap.size, W.heap.size + 1, rfl, ST.out _ _ _ ((Blk.new W _ _).alloc _) (Blk.new2 W _ _ _) ((((Below.refl _ _).alloc (Nat.le_refl _) _).alloc (by simp) _).drew) (by omega) (by omega)⟩
  case rest =>
    clear h24 h28 hres hbel hmk
    obtain ⟨gc, g, rfl, hst⟩ := hcut
    have HST := hide hst
    clear hst
    go_wp2_with fail
    go_loopw [6] (fun s6 wr => ∃ (k : Nat) (cs : List Cel), s6 = .int .i64 k ∧ k ≤ S ∧ cs.length = n ∧ RBI ⟨nT, (N : Int), nS, rules⟩ ⟨(S : Int), arcs, fin⟩ RA AA FA rc ac fc w gc g cs wr ∧ Part ⟨nT, (N : Int), nS, rules⟩ ⟨(S : Int), arcs, fin⟩ cs (fun f t => t - f < k)) (fun s6 _ => 20 - (intOf s6).toNat)
    case atStart =>
      refine ⟨0, List.replicate n zeroC, rfl, Nat.zero_le _, by simp, HST.out, ⟨by rw [List.length_replicate]; exact HNN.out, fun c hc => ?_, fun f t h1 h2 h3 => by omega⟩⟩
      rw [List.mem_replicate] at hc
      rw [hc.2]
      simp [zeroC, VNF, VOK, Inf]
    case round =>
      clear HST
      obtain ⟨k, cs, rfl, hk, hlen, hI, hP⟩ := hrel
      have hcs : (k : Int) < S ∨ (S : Int) ≤ k := by omega
      have HI := hide hI
      have HP := hide hP
      have HLEN := hide hlen
      have c0 := hI.b28.cell 0
      simp at c0
      rcases hcs with hcs | hcs
      · clear hI hP hlen
        obtain ⟨wo, hwo⟩ : ∃ wo, wo = wr := ⟨_, rfl⟩
        subst hwo
        go_wp2_with fail
        go_loopw [7] (fun s7 wr => ∃ (f : Nat) (cs : List Cel), s7 = .int .i64 f ∧ f + k ≤ S ∧ cs.length = n ∧ RBI ⟨nT, (N : Int), nS, rules⟩ ⟨(S : Int), arcs, fin⟩ RA AA FA rc ac fc w gc g cs wr ∧ Part ⟨nT, (N : Int), nS, rules⟩ ⟨(S : Int), arcs, fin⟩ cs (fun f' t => t - f' < k ∨ (t - f' = k ∧ f' < f))) (fun s7 _ => 20 - (intOf s7).toNat)
        case atStart => exact ⟨0, cs, rfl, by omega, HLEN.out, HI.out, HP.out.mono fun f t h1 h2 h3 => by omega⟩
        case round =>
          clear c0 HLEN HI HP
          obtain ⟨f, cs1, rfl, hf, hlen1, hI1, hP1⟩ := hrel
          have c0 := hI1.b28.cell 0
          simp at c0
          have HI1 := hide hI1
          have HP1 := hide hP1
          have HLEN1 := hide hlen1
          have hcs : (f : Int) + (k : Int) < S ∨ (S : Int) ≤ (f : Int) + (k : Int) := by omega
          rcases hcs with hcs | hcs
          · have hbnd : f + k < S := by omega
            obtain ⟨q, hq⟩ : ∃ q, q = qN S f (f + k) * N := ⟨_, rfl⟩
            have hqn := HQB.out f (f + k) (by omega) hbnd
            rw [← hq] at hqn
            have hN0 : 0 < N := by have := HB.out.n0; simp only at this; omega
            have C20 := hide (fun W => by
              have := index_any N S f (f + k) W (by omega) hbnd (by omega) (by omega)
              rw [← hq, show ((f + k : Nat) : Int) = (f : Int) + (k : Int) by simp] at this
              exact this)
            have hB1 := HB.out.span (cs := cs1) hP1.len hP1.nf (f := f) (t := f + k) (by omega) hbnd
            have C22 := hide (by
              have hr := hI1.rd
              rw [hlen1] at hr
              have := rspan_any (spanOf ⟨nT, (N : Int), nS, rules⟩ ⟨(S : Int), arcs, fin⟩ cs1 f (f + k)) RA AA FA (some ⟨g, 0, none⟩) rc ac fc n wr hB1 HB.out.n0 ⟨HA.out.rules.below hI1.bel, HA.out.arcs.below hI1.bel, hI1.rd⟩
              have h2 := this.mono (fun e w' h => SpanPost.at2 h (N := N) rfl hN0)
              rw [show (spanOf ⟨nT, (N : Int), nS, rules⟩ ⟨(S : Int), arcs, fin⟩ cs1 f (f + k)).to = (f : Int) + (k : Int) by simp [spanOf]] at h2
              rw [show (spanOf ⟨nT, (N : Int), nS, rules⟩ ⟨(S : Int), arcs, fin⟩ cs1 f (f + k)).C.cells.length = n from hlen1] at h2
              exact (show Calls Tryd.prog 22 #[.agg #[I nT, I (N : Int), I nS, .slice RA rules.length rc], .agg #[I (S : Int), .slice AA arcs.length ac, .slice FA fin.length fc], .agg #[I (N : Int), I (S : Int), .slice (some ⟨g, 0, none⟩) n n], I (f : Int), I ((f : Int) + (k : Int))] wr (SpanAt2 (spanOf ⟨nT, (N : Int), nS, rules⟩ ⟨(S : Int), arcs, fin⟩ cs1 f (f + k)) N wr) from h2))
            have hch := hI1.bch
            rw [hlen1] at hch
            have h24 := hI1.b24
            have h28 := hI1.b28
            have dc0 := hch.cell 0
            have dc1 := hch.cell 1
            have dc2 := hch.cell 2
            simp at dc0 dc1 dc2
            have dg0 := h24.cell 0
            have dg1 := h24.cell 1
            have dg2 := h24.cell 2
            have dg3 := h24.cell 3
            simp at dg0 dg1 dg2 dg3
            have dl0 := h28.cell 0
            have dl1 := h28.cell 1
            have dl2 := h28.cell 2
            simp at dl0 dl1 dl2
            have HQ := hide hq
            clear hI1 hP1 hq hB1 hch h24 h28 hlen1 c0
            go_wp2_with fail
            refine C22.out.mono ?_
            rintro e w1 ⟨ab, ao, cA, AL, rfl, hAL, hsrc, hw1, hab⟩
            have HI2 := hide (HI1.out.below hw1)
            have dn := HI2.out.b24.cell 1
            have ds := HI2.out.b28.cell 0
            simp at dn ds
            have HAL := hide hAL
            have HSRC := hide hsrc
            have hgab : g < ab := by have := HI1.out.bg.lt; omega
            have HGAB := hide hgab
            have HAN := hide (show AL.length = N from hAL.len)
            clear dc0 dc1 dc2 dg0 dg1 dg2 dg3 dl0 dl1 dl2 hAL hsrc hw1 hab hgab
            go_wp2_with (go_at_call 20; refine (C20.out _).mono ?_; rintro e w2 ⟨rfl, rfl⟩)
            clear dn ds
            obtain ⟨w1, hw1⟩ : ∃ W, W = w2 := ⟨_, rfl⟩
            subst hw1
            go_loopw [10] (fun s10 wr => ∃ i : Nat, s10 = .int .i64 i ∧ i ≤ N ∧ RBI ⟨nT, (N : Int), nS, rules⟩ ⟨(S : Int), arcs, fin⟩ RA AA FA rc ac fc w gc g (putAt cs1 q (AL.take i)) wr ∧ (∀ (j : Nat) u, (ccells AL)[j]? = some u → wr.cell? ⟨ab, ao + j, none⟩ = some u)) (fun s10 _ => 20 - (intOf s10).toNat)
            case atStart => exact ⟨0, rfl, Nat.zero_le _, by rw [putAt_zero _ _ _ (by rw [HLEN1.out]; omega)]; exact HI2.out, HSRC.out⟩
            case round =>
              clear HI2 HSRC
              obtain ⟨i, rfl, hi, hI2, hsrc⟩ := hrel
              have HI2 := hide hI2
              have HSRC := hide hsrc
              have hpl : q + (AL.take i).length ≤ cs1.length := by rw [HLEN1.out, List.length_take, HAN.out]; omega
              have hcl : (putAt cs1 q (AL.take i)).length = n := by rw [putAt_len hpl]; exact HLEN1.out
              have hcs : (i : Int) < N ∨ (N : Int) ≤ i := by omega
              rcases hcs with hcs | hcs
              · have hiN : i < N := by omega
                obtain ⟨c, hc⟩ : ∃ c, AL[i]? = some c := ⟨_, List.getElem?_eq_getElem (by rw [HAN.out]; exact hiN)⟩
                obtain ⟨x0, x1, x2, x3⟩ := ccells_get AL i hc
                have y0 := hsrc _ _ x0
                have y1 := hsrc _ _ x1
                have y2 := hsrc _ _ x2
                have y3 := hsrc _ _ x3
                rw [← Nat.add_assoc] at y1 y2 y3
                obtain ⟨d, hd⟩ : ∃ d, (putAt cs1 q (AL.take i))[q + i]? = some d := ⟨_, List.getElem?_eq_getElem (by rw [hcl]; omega)⟩
                obtain ⟨v0, v1, v2, v3⟩ := ccells_get _ _ hd
                have z0 := hI2.bg.cell ((q + i) * 4)
                have z1 := hI2.bg.cell ((q + i) * 4 + 1)
                have z2 := hI2.bg.cell ((q + i) * 4 + 2)
                have z3 := hI2.bg.cell ((q + i) * 4 + 3)
                rw [List.getElem?_toArray] at z0 z1 z2 z3
                rw [v0] at z0
                rw [v1] at z1
                rw [v2] at z2
                rw [v3] at z3
                have e0 := hI2.bg.frozen ((q + i) * 4)
                have e1 := hI2.bg.frozen ((q + i) * 4 + 1)
                have e2 := hI2.bg.frozen ((q + i) * 4 + 2)
                have e3 := hI2.bg.frozen ((q + i) * 4 + 3)
                have hch := hI2.bch
                rw [hcl] at hch
                have d2 := hch.cell 2
                simp at d2
                have hs1 : IntKind.i64.wrap ((q : Int) + (i : Int)) = (q : Int) + (i : Int) := by rw [IntKind.wrap_i64]; omega
                have hs2 : 0 ≤ (q : Int) + (i : Int) := by omega
                have hs4 : (q : Int) + (i : Int) < (n : Int) := by omega
                have hs3 : ((q : Int) + (i : Int)).toNat = q + i := by omega
                have HC := hide hc
                have HPL := hide (show putAt cs1 q (AL.take (i + 1)) = (putAt cs1 q (AL.take i)).set (q + i) c from putAt_snoc (by rw [HLEN1.out, HAN.out]; omega) hc)
                clear hI2 hsrc hpl hcl hc x0 x1 x2 x3 hd v0 v1 v2 v3 hch
                go_wp2_with fail
                (refine wp_region_prefix 10 (by kernel_rfl) (by kernel_rfl) ?_; simp only [List.take_succ_cons, List.take_zero, List.drop_succ_cons, List.drop_zero]; (repeat (go_big_quiet_step (fail))); refine wpQuiet_nil ?_)
                go_wp2_with fail
                go_roundw
                case rel =>
                  refine ⟨i + 1, by simp, by omega, ?_, fun j u hj => ?_⟩
                  · rw [HPL.out]
                    exact (HI2.out.put (q + i) c).drew
                  · have hk : Kp (fun b => b = g) wr ((((wr.setCell ⟨g, (q + i) * 4, none⟩ (I c.v.c)).setCell ⟨g, (q + i) * 4 + 1, none⟩ (I c.v.s)).setCell ⟨g, (q + i) * 4 + 2, none⟩ (I c.r)).setCell ⟨g, (q + i) * 4 + 3, none⟩ (I c.a)).drew :=
                      (((((Kp.refl (fun b => b = g) wr).setCell (p := ⟨g, (q + i) * 4, none⟩) (.inl rfl) (I c.v.c)).setCell (p := ⟨g, (q + i) * 4 + 1, none⟩) (.inl rfl) (I c.v.s)).setCell (p := ⟨g, (q + i) * 4 + 2, none⟩) (.inl rfl) (I c.r)).setCell (p := ⟨g, (q + i) * 4 + 3, none⟩) (.inl rfl) (I c.a)).drew
                    exact hk.cell (HSRC.out j u hj) (fun e => by have := HGAB.out; simp only at e; omega)
                case measure => simp [intOf]; omega
              · obtain rfl : i = N := by omega
                clear hI2 hsrc hpl hcl
                go_wp2_with fail
                go_roundw
                case rel =>
                  have htk : AL.take i = AL := List.take_of_length_le (by rw [HAN.out]; exact Nat.le_refl _)
                  have hI3 := HI2.out
                  rw [htk] at hI3
                  refine ⟨f + 1, putAt cs1 q AL, by simp, by omega, by rw [putAt_len (by rw [HLEN1.out, HAN.out]; omega)]; exact HLEN1.out, hI3, ?_⟩
                  have hp := HP1.out.put HB.out (f := f) (t := f + k) (by omega) (by show f + k < S; omega) HAL.out (fun f' t' hd hc => by omega)
                  have e : qN ((S : Int)).toNat f (f + k) * ((i : Int)).toNat = q := HQ.out.symm
                  simp only at hp
                  rw [e] at hp
                  exact hp.mono (fun f' t' h1 h2 h3 => by omega)
                case measure => simp [intOf]; omega

          · clear hI1 hP1 hlen1
            go_wp2_with fail
            go_roundw
            case rel => exact ⟨k + 1, cs1, by simp, by omega, HLEN1.out, HI1.out, HP1.out.mono fun f' t h1 h2 h3 => by simp only at h2; omega⟩
            case measure => simp [intOf]; omega
      · obtain rfl : k = S := by omega
        have hch := hI.bch
        have hres := hI.bres
        rw [hlen] at hch
        have x0 := hch.cell 0
        have x1 := hch.cell 1
        have x2 := hch.cell 2
        have y0 := hres.cell 0
        have y1 := hres.cell 1
        have y2 := hres.cell 2
        have f0 := hres.frozen 0
        have f1 := hres.frozen 1
        have f2 := hres.frozen 2
        simp at x0 x1 x2 y0 y1 y2
        have ng : g ≠ w.heap.size + 1 + 1 := by have := hI.geg; omega
        have NG := hide ng
        clear hI hP hch hres hlen ng
        go_wp2
        refine bodyPost_ret (v := ChartA (N : Int) (k : Int) (some ⟨g, 0, none⟩) n n) (by simp [results, Tryd.results15, go_sem, y0, y1, y2, f0, f1, f2]) rfl ?_
        have hbel := ((((HI.out.bel).setCell (p := ⟨w.heap.size + 1 + 1, 0, none⟩) (by show w.heap.size ≤ w.heap.size + 1 + 1; omega) (Value.int IntKind.i64 (N : Int))).setCell (p := ⟨w.heap.size + 1 + 1, 1, none⟩) (by show w.heap.size ≤ w.heap.size + 1 + 1; omega) (Value.int IntKind.i64 (k : Int))).setCell (p := ⟨w.heap.size + 1 + 1, 2, none⟩) (by show w.heap.size ≤ w.heap.size + 1 + 1; omega) (.slice (some ⟨g, 0, none⟩) n n))
        have hg := (((HI.out.bg.far (p := ⟨w.heap.size + 1 + 1, 0, none⟩) NG.out (Value.int IntKind.i64 (N : Int))).far (p := ⟨w.heap.size + 1 + 1, 1, none⟩) NG.out (Value.int IntKind.i64 (k : Int))).far (p := ⟨w.heap.size + 1 + 1, 2, none⟩) NG.out (.slice (some ⟨g, 0, none⟩) n n))
        refine ⟨some ⟨g, 0, none⟩, n, cs, by rw [HLEN.out], HP.out.mono (fun f t h1 h2 h3 => by simp only at h2; omega), Rd.of_blk (c := 0) hg (ccells_length _), hbel, fun b o he => ?_, Nat.le_of_eq HLEN.out⟩
        injection he with he
        injection he with he
        have := HI.out.geg
        omega
end Go.Proofs.YtnifpeamgoapmaaDoor
