/- 'emendatelaw40.ChartSpan' RETURNS true. -/
import Derived.Test.YtnifpeamgoapmaaDoorLb
import Derived.Test.YtnifpeamgoapmaaDoorRn
import Derived.Test.YtnifpeamgoapmaaDoorLf
import Derived.Deep.DeepCutAuto
set_option linter.unusedVariables false
set_option linter.unusedSimpArgs false
namespace Go.Proofs.YtnifpeamgoapmaaDoor
open Go Go.RowKit

/-- the copy of a chart under way: what lies inside the span is as it was -/
structure XInv (G : Gram) (L : Lat) (cs : List Cel) (N S f T : Nat) (w3 : World) (qx g cap : Nat) (wr : World) (xs : List Cel) : Prop where
  bx : Blk wr qx 34 #[I G.nN, I L.st, .slice (some ⟨g, 0, none⟩) cs.length cap]
  row : ∃ cur, Blk wr g 47 cur ∧ Holds cur xs
  bel : Below w3.heap.size w3 wr
  geg : w3.heap.size ≤ g
  len : xs.length = cs.length
  nf : ∀ c ∈ xs, VNF c.v
  inn : ∀ f' t' i, f ≤ f' → f' ≤ t' → t' ≤ T → ¬ (f' = f ∧ t' = T) → i < N → xs[qN S f' t' * N + i]? = cs[qN S f' t' * N + i]?
section
variable {G : Gram} {L : Lat} {cs : List Cel} {N S f T : Nat} {w3 : World} {qx g cap : Nat} {wr w' : World} {xs : List Cel}
theorem XInv.below (h : XInv G L cs N S f T w3 qx g cap wr xs) (hb : Below wr.heap.size wr w') : XInv G L cs N S f T w3 qx g cap w' xs := by
  obtain ⟨cur, h1, h2⟩ := h.row
  exact ⟨h.bx.below hb h.bx.lt, ⟨cur, h1.below hb h1.lt, h2⟩, h.bel.trans (hb.mono h.bel.size), h.geg, h.len, h.nf, h.inn⟩
theorem XInv.put (h : XInv G L cs N S f T w3 qx g cap wr xs) {s t i : Nat} (hst : s ≤ t) (ht : t < S) (hTS : T < S) (hi : i < N) (hout : s < f ∨ T < t ∨ (s = f ∧ t = T)) {p : Nat} (hp : p = qN S s t * N + i) (c : Cel) (hc : VNF c.v) :
    XInv G L cs N S f T w3 qx g cap ((((wr.setCell ⟨g, p * 4, none⟩ (I c.v.c)).setCell ⟨g, p * 4 + 1, none⟩ (I c.v.s)).setCell ⟨g, p * 4 + 2, none⟩ (I c.r)).setCell ⟨g, p * 4 + 3, none⟩ (I c.a)) (xs.set p c) := by
  obtain ⟨cur, h1, h2⟩ := h.row
  have hne : qx ≠ g := Blk.ne_ h.bx h1 (by decide)
  refine ⟨(((h.bx.far (p := ⟨g, p * 4, none⟩) hne _).far (p := ⟨g, p * 4 + 1, none⟩) hne _).far (p := ⟨g, p * 4 + 2, none⟩) hne _).far (p := ⟨g, p * 4 + 3, none⟩) hne _, ⟨_, (((h1.set_ _ _).set_ _ _).set_ _ _).set_ _ _, h2.set p c⟩,
    (((h.bel.setCell (p := ⟨g, p * 4, none⟩) h.geg _).setCell (p := ⟨g, p * 4 + 1, none⟩) h.geg _).setCell (p := ⟨g, p * 4 + 2, none⟩) h.geg _).setCell (p := ⟨g, p * 4 + 3, none⟩) h.geg _, h.geg, by rw [List.length_set]; exact h.len, fun d hd => ?_, fun f' t' j k1 k2 k3 k4 k5 => ?_⟩
  · rcases List.mem_or_eq_of_mem_set hd with hd | hd
    · exact h.nf d hd
    · rw [hd]; exact hc
  · rw [List.getElem?_set_ne]
    · exact h.inn f' t' j k1 k2 k3 k4 k5
    · intro e
      rw [hp] at e
      have hq : qN S s t = qN S f' t' := by
        by_cases h1 : qN S s t < qN S f' t'
        · have := mul_lt h1 hi; omega
        · by_cases h2 : qN S f' t' < qN S s t
          · have := mul_lt h2 k5; omega
          · omega
      obtain ⟨rfl, rfl⟩ := qN_inj hst ht k2 (by omega) hq
      omega
end
theorem own_nil {w3 : World} (o : Obj) : ((w3.alloc o).alloc (.cells #[] 47)).ownsRow w3.heap.size 47 4 (.slice (some ⟨w3.heap.size + 1, 0, none⟩) 0 0) 0 [] :=
  ⟨rfl, .inr ⟨w3.heap.size + 1, 0, #[], rfl, by omega, Blk.new2 w3 o 47 #[], Nat.le_refl _, Nat.zero_le _, rfl, rfl⟩⟩
theorem rspan_seg {G : Gram} {L : Lat} {cs xs : List Cel} {N S f T q : Nat} {w3 wr : World} {qx g cap : Nat} (B : GBds G L) (hch : IsChart G L cs) (hN : G.nN = (N : Int)) (hS : L.st = (S : Int)) (h1 : f ≤ T) (h2 : T < S) (hq : q = qN S f T * N) (h : XInv G L cs N S f T w3 qx g cap wr xs) :
    IsCells (spanOf G L xs f T) ((cs.drop q).take N) ∧ Bds (spanOf G L xs f T) := by
  have e1 : G.nN.toNat = N := by omega
  have e2 : L.st.toNat = S := by omega
  have hl : xs.length = row L.st.toNat L.st.toNat * G.nN.toNat := by rw [h.len]; exact hch.len
  have hB := B.span hl h.nf h1 (by omega : T < L.st.toNat)
  refine ⟨?_, hB⟩
  exact (spanOf_alike B hch.len hl (f := f) (t := T) (by omega) (fun f' t' i k1 k2 k3 k4 k5 => by rw [e1, e2]; rw [e1] at k5; exact (h.inn f' t' i k1 k2 k3 k4 k5).symm)).cells (B.span hch.len hch.nf h1 (by omega)) hB (chart_seg hch hN hS h1 h2 hq)
theorem q_bound {S N s t n q : Nat} (h1 : s ≤ t) (h2 : t < S) (hl : n = row S S * N) (hq : q = qN S s t * N) : q + N ≤ n := by
  have h3 : (qN S s t + 1) * N ≤ row S S * N := Nat.mul_le_mul_right N (by have := qN_lt h1 h2; omega)
  rw [Nat.add_mul] at h3
  omega
theorem index_law {N S s t q : Nat} (hq : q = qN S s t * N) (h1 : s ≤ t) (h2 : t < S) (h3 : S ≤ 9) (h4 : N ≤ 10) (W : World) : Calls Tryd.prog 20 #[I (N : Int), I (S : Int), I (s : Int), I (t : Int)] W fun e w' => e = .returned (.int .i64 ((q : Nat) : Int)) ∧ w' = W := by
  subst hq
  exact index_any N S s t W h1 h2 (by omega) (by omega)
theorem xinv_rd {G : Gram} {L : Lat} {cs xs : List Cel} {N S f T : Nat} {w3 wr : World} {qx g cap : Nat} (h : XInv G L cs N S f T w3 qx g cap wr xs) : Rd wr (some ⟨g, 0, none⟩) xs.length 4 (ccells xs) := by
  obtain ⟨cur, h1, h2⟩ := h.row
  refine ⟨ccells_length _, fun _ => ⟨g, 0, rfl, fun j u hj => ?_⟩⟩
  rw [Nat.zero_add, h1.cell]
  exact h2 j u hj
theorem seg_len' {cs : List Cel} {q N : Nat} (h : q + N ≤ cs.length) : ((cs.drop q).take N).length = N := by simp; omega
theorem spanOf_N (G : Gram) (L : Lat) (cs : List Cel) (s t : Nat) {N : Nat} (h : G.nN = (N : Int)) : (spanOf G L cs s t).N = N := by unfold SpanC.N spanOf; simp only; rw [h]; simp
theorem wrap_small {q N n : Nat} (h : q + N ≤ n) (hn : n ≤ 1000) : IntKind.i64.wrap ((q : Int) + (N : Int)) = (q : Int) + (N : Int) := by rw [IntKind.wrap_i64]; omega
theorem samecells_self (xs : List Cel) (N : Nat) (hl : xs.length = N) (hN : N ≤ 10) (A1 A2 : Option Addr) (c1 c2 : Nat) (W : World) (h1 : Rd W A1 xs.length 4 (ccells xs)) (h2 : Rd W A2 xs.length 4 (ccells xs)) :
    Calls Tryd.prog 21 #[.slice A1 N c1, .slice A2 N c2] W fun e w' => e = .returned (.bool true) ∧ Below W.heap.size W w' := by
  have := samecells_any xs xs A1 A2 c1 c2 W h1 h2 (by omega)
  rw [hl, show decide (xs = xs) = true by simp] at this
  exact this
theorem vnf_one : VNF ⟨0, 1⟩ := by simp [VNF, VOK, Inf]
theorem span_law (G : Gram) (L : Lat) (cs : List Cel) (s t : Nat) (RA AA FA CA : Option Addr) (rc ac fc cc : Nat) (W : World) (n1 : Int) (hn1 : n1 = G.nN) (m : Nat) (hm : m = cs.length) (Bd : Bds (spanOf G L cs s t)) (hA : GArgs W G L RA AA) (hC : Rd W CA cs.length 4 (ccells cs)) :
    Calls Tryd.prog 23 #[.agg #[I G.nT, I n1, I G.nS, .slice RA G.rules.length rc], .agg #[I L.st, .slice AA L.arcs.length ac, .slice FA L.fin.length fc], .agg #[I G.nN, I L.st, .slice CA m cc], I (s : Int), I (t : Int)] W (SpanPost (spanOf G L cs s t) W) := by
  subst hn1 hm
  exact span_any (spanOf G L cs s t) RA AA FA CA rc ac fc cc W Bd ⟨hA.rules, hA.arcs, hC, hA.none_⟩
set_option maxRecDepth 100000 in
set_option maxHeartbeats 16000000 in
theorem lawSpan_any (G : Gram) (L : Lat) (x y : Int) (RA AA FA : Option Addr) (rc ac fc : Nat) (w : World) (hA : LawArgs w G L RA AA FA) (hx : 0 ≤ x ∧ x ≤ 255) (hy : 0 ≤ y ∧ y ≤ 255) :
    Calls Tryd.prog 6 #[GramA G RA rc, LatA L AA ac FA fc, .agg #[.int .u8 x, .int .u8 y]] w fun e w' => e = .returned (.bool true) ∧ Below w.heap.size w w' := by
  have b24 := ((Blk.new w 24 #[I G.nT, I G.nN, I G.nS, .slice RA G.rules.length rc]).alloc (Obj.cells #[I L.st, .slice AA L.arcs.length ac, .slice FA L.fin.length fc] 28)).alloc (Obj.cells #[.int .u8 x, .int .u8 y] 56)
  have b28 := (Blk.new2 w (Obj.cells #[I G.nT, I G.nN, I G.nS, .slice RA G.rules.length rc] 24) 28 #[I L.st, .slice AA L.arcs.length ac, .slice FA L.fin.length fc]).alloc (Obj.cells #[.int .u8 x, .int .u8 y] 56)
  have b56 := Blk.new3 w (Obj.cells #[I G.nT, I G.nN, I G.nS, .slice RA G.rules.length rc] 24) (Obj.cells #[I L.st, .slice AA L.arcs.length ac, .slice FA L.fin.length fc] 28) 56 #[.int .u8 x, .int .u8 y]
  have hbel : Below w.heap.size w (((w.alloc (Obj.cells #[I G.nT, I G.nN, I G.nS, .slice RA G.rules.length rc] 24)).alloc (Obj.cells #[I L.st, .slice AA L.arcs.length ac, .slice FA L.fin.length fc] 28)).alloc (Obj.cells #[.int .u8 x, .int .u8 y] 56)) := (((Below.refl _ _).alloc (Nat.le_refl _) _).alloc (by simp) _).alloc (by simp; omega) _
  have B24 := hide b24
  have B28 := hide b28
  have B56 := hide b56
  have HBEL := hide hbel
  have HA := hide hA
  have CW := hide (fun W (hb : Below w.heap.size w W) => awake_any W (HA.out.none_.below hb))
  obtain ⟨hx0, hx1⟩ := hx
  obtain ⟨hy0, hy1⟩ := hy
  clear b24 b28 b56 hbel hA
  by_cases hM : MayP G L
  case neg =>
    have CM := hide (fun W (hb : Below w.heap.size w W) => may_any G L RA AA FA rc ac fc W (HA.out.below hb) false ⟨fun h => (by cases h), fun h => absurd h hM⟩)
    clear hM
    go_enter Tryd.func6, Tryd.ntmps6
    go_wp2_with fail
    refine (CM.out _ HBEL.out).mono ?_
    rintro e w1 ⟨rfl, hw1⟩
    have HW1 := hide (HBEL.out.trans (hw1.mono HBEL.out.size))
    clear hw1
    go_wp2_with fail
    refine (CW.out _ HW1.out).mono ?_
    rintro e w2 ⟨rfl, hw2⟩
    have HW2 := hide (HW1.out.trans (hw2.mono HW1.out.size))
    clear hw2
    go_wp2
    go_ret
    exact ⟨rfl, HW2.out⟩
  case pos =>
    have CM := hide (fun W (hb : Below w.heap.size w W) => may_any G L RA AA FA rc ac fc W (HA.out.below hb) true ⟨fun _ => hM, fun _ => rfl⟩)
    have HM := hide hM
    clear hM
    go_enter Tryd.func6, Tryd.ntmps6
    go_wp2_with fail
    refine (CM.out _ HBEL.out).mono ?_
    rintro e w1 ⟨rfl, hw1⟩
    have HW1 := hide (HBEL.out.trans (hw1.mono HBEL.out.size))
    have h24 := B24.out.below hw1 B24.out.lt
    have h28 := B28.out.below hw1 B28.out.lt
    have h56 := B56.out.below hw1 B56.out.lt
    have B24 := hide h24
    have B28 := hide h28
    have B56 := hide h56
    clear hw1 h24 h28 h56
    have h_ := B24.out
    have p0 := h_.cell 0
    have p1 := h_.cell 1
    have p2 := h_.cell 2
    have p3 := h_.cell 3
    clear h_
    have h_ := B28.out
    have q0 := h_.cell 0
    have q1 := h_.cell 1
    have q2 := h_.cell 2
    clear h_
    simp at p0 p1 p2 p3 q0 q1 q2
    go_wp2_with fail
    refine (rbuild_any G L RA AA FA rc ac fc _ HM.out.gb (HA.out.g.below HW1.out)).mono ?_
    rintro e w2 ⟨CA, cc, cs, rfl, hch, hrd, hw2, _, hcc⟩
    have hb2 : Below w1.heap.size w1 (w2.alloc (Obj.cells #[I G.nN, I L.st, .slice CA cs.length cc] 34)) := hw2.alloc hw2.size _
    have h34 := Blk.new w2 34 #[I G.nN, I L.st, .slice CA cs.length cc]
    have hrd3 := hrd.below ((Below.refl _ _).alloc (Nat.le_refl _) (Obj.cells #[I G.nN, I L.st, .slice CA cs.length cc] 34))
    clear hrd hw2 p0 p1 p2 p3 q0 q1 q2
    go_upto_region 4 with fail
    generalize w2.alloc (Obj.cells #[I G.nN, I L.st, .slice CA cs.length cc] 34) = w3 at hb2 h34 hrd3 ⊢
    generalize w2.heap.size = qc at h34 ⊢
    have HW3 := hide (HW1.out.trans (hb2.mono HW1.out.size))
    have B34 := hide h34
    have HRD := hide hrd3
    have HCH := hide hch
    have HCC := hide hcc
    have h_ := B24.out.below hb2 B24.out.lt
    clear B24
    have B24 := hide h_
    clear h_
    have h_ := B28.out.below hb2 B28.out.lt
    clear B28
    have B28 := hide h_
    clear h_
    have h_ := B56.out.below hb2 B56.out.lt
    clear B56
    have B56 := hide h_
    clear h_
    clear hb2 h34 hrd3 hch hcc
    obtain ⟨N, hN⟩ := Int.eq_ofNat_of_zero_le (show 0 ≤ G.nN by have := HM.out.gb.n0; omega)
    obtain ⟨S, hS⟩ := Int.eq_ofNat_of_zero_le (show 0 ≤ L.st by have := HM.out.gb.s0; omega)
    have hN1 : N ≤ 10 := by have := HM.out.gb.n1; omega
    have hN0 : 0 < N := by have := HM.out.gb.n0; omega
    have hS1 : S ≤ 9 := by have := HM.out.gb.s1; omega
    have hS0 : 0 < S := by have := HM.out.gb.s0; omega
    have HN := hide hN
    have HS := hide hS
    clear hN hS
    have hlen : cs.length = row S S * N := by have := HCH.out.len; rw [HN.out, HS.out] at this; simpa using this
    have hL10 := chart_len HM.out.gb HCH.out
    have HLEN := hide hlen
    clear hlen
    obtain ⟨f, hf⟩ : ∃ f : Nat, x % (S : Int) = (f : Int) := ⟨(x % (S : Int)).toNat, by have := Int.emod_nonneg x (show (S : Int) ≠ 0 by omega); omega⟩
    have hfS : f < S := by have := Int.emod_lt_of_pos x (show (0 : Int) < S by omega); omega
    obtain ⟨r, hr⟩ : ∃ r : Nat, y % ((S : Int) - (f : Int)) = (r : Int) := ⟨(y % ((S : Int) - (f : Int))).toNat, by have := Int.emod_nonneg y (show (S : Int) - (f : Int) ≠ 0 by omega); omega⟩
    have hrS : f + r < S := by have := Int.emod_lt_of_pos y (show (0 : Int) < (S : Int) - (f : Int) by omega); omega
    have ht1 : x.tmod (S : Int) = (f : Int) := by rw [Int.tmod_eq_emod_of_nonneg hx0]; exact hf
    have ht2 : y.tmod ((S : Int) - (f : Int)) = (r : Int) := by rw [Int.tmod_eq_emod_of_nonneg hy0]; exact hr
    have h_ := B56.out
    have r0 := h_.cell 0
    have r1 := h_.cell 1
    clear h_
    have h_ := B28.out
    have q0 := h_.cell 0
    clear h_
    simp at r0 r1 q0
    rw [HS.out] at q0
    have hS0' : (0 : Int) < (S : Int) := by omega
    have hfS' : (f : Int) < (S : Int) := by omega
    have hfr' : (f : Int) + (r : Int) < (S : Int) := by omega
    have hS9' : (S : Int) ≤ 9 := by omega
    obtain ⟨T, hT⟩ : ∃ T : Nat, (f : Int) + (r : Int) = (T : Int) := ⟨f + r, by simp⟩
    have hfT : f ≤ T := by omega
    have hTS : T < S := by omega
    obtain ⟨cb, co, hCA, hnews⟩ := HRD.out.2 (by rw [HLEN.out]; have h1 := qN_lt hfT hTS; exact Nat.mul_pos (by omega) hN0)
    go_upto_region 6 with fail
    clear ht1 ht2 hf hr r0 r1 q0 hT hfr' hrS
    have HCA := hide hCA
    have HNEWS := hide hnews
    clear hCA hnews
    have h_ := B34.out
    have z0 := h_.cell 0
    have z1 := h_.cell 1
    have z2 := h_.cell 2
    clear h_
    simp at z0 z1 z2
    rw [HCA.out] at z2
    obtain ⟨i0, hi, hz0, hz1, hz2⟩ := info_parts info47
    have z3 := fun o1 o2 => cell_below (((Below.refl w3.heap.size w3).alloc (Nat.le_refl _) o1).alloc (by simp) o2) z2
    have NEWS := hide (fun o1 o2 (j : Nat) u (hj : (ccells cs)[j]? = some u) => show ((w3.alloc o1).alloc o2).cell? ((⟨cb, co, none⟩ : Addr).add j) = some u from by
      have := cell_below (((Below.refl w3.heap.size w3).alloc (Nat.le_refl _) o1).alloc (by simp) o2) (HNEWS.out j u hj)
      rw [show (⟨cb, co, none⟩ : Addr).add j = ⟨cb, co + j, none⟩ by simp [Addr.add]]
      exact this)
    have hcl0 : 0 < cs.length := by have h1 := qN_lt hfT hTS; rw [HLEN.out]; exact Nat.mul_pos (by omega) hN0
    go_wp2_with (at_builtin; refine wpList_append_own _ rfl _ _ 32 rfl w3.heap.size 47 i0 _ 4 32 Tryd.underlying32 hi hz0 hz1 hz2 rfl (by decide) (.slice (some ⟨w3.heap.size + 1, 0, none⟩) 0 0) 0 [] rfl (own_nil _) ⟨cb, co, none⟩ cs.length cc (ccells cs) rfl (ccells_length _) (NEWS.out _ _) (ccells_one cs) (by simp [maxLen]; omega) (by omega) (by simp; omega) ?_; intro v' w5 hown5 hgrow5 hiff; obtain ⟨g, cap, rfl, _⟩ := World.ownsRow.form hown5 (by omega); have hbx := Blk.grown ((Blk.new w3 34 #[I G.nN, I L.st, .slice (some ⟨cb, co, none⟩) cs.length cc]).alloc (.cells #[] 47)) hgrow5 (by simp [Value.ownBlock]); have bx2 := hbx.cell 2; have fx2 := hbx.frozen 2; simp at bx2)
    clear z0 z1 z2 z3 hi hz0 hz1 hz2 hiff
    go_upto_region 8 with fail
    obtain ⟨hcl, hfo⟩ := hown5
    obtain ⟨g', cap', cur, he, hge, hblk, _, _, _, htk⟩ := hfo.resolve_left (fun h => by have := h.2; omega)
    injection he with he1 he2 he3
    injection he1 with he1
    injection he1 with he1
    subst he1 he3
    have hbel5 : Below w3.heap.size w3 w5 := below_grown (((Below.refl w3.heap.size w3).alloc (Nat.le_refl _) _).alloc (by simp) _) (by simp; omega) hgrow5 (fun k hk => by simp [Value.ownBlock] at hk; omega)
    have hX : XInv G L cs N S f T w3 w3.heap.size g cap (w5.setCell ⟨w3.heap.size, 2, none⟩ (.slice (some ⟨g, 0, none⟩) (0 + cs.length) cap)) cs := by
      have hne : g ≠ w3.heap.size := Blk.ne_ (show Blk w5 g 47 cur from hblk) hbx (by decide)
      refine ⟨(hbx.set_ 2 _).eq_ (by simp), ⟨cur, Blk.far (show Blk w5 g 47 cur from hblk) (p := ⟨w3.heap.size, 2, none⟩) hne _, fun j u hj => ?_⟩, hbel5.setCell (p := ⟨w3.heap.size, 2, none⟩) (Nat.le_refl _) _, hge, rfl, HCH.out.nf, fun _ _ _ _ _ _ _ _ => rfl⟩
      have hl := (List.getElem?_eq_some_iff.1 hj).1
      rw [List.nil_append] at hcl htk
      rw [hcl] at hl
      rw [← htk, List.getElem?_take, if_pos hl] at hj
      simpa using hj
    have HX := hide hX
    have HGL := hide hbx.lt
    clear hcl hfo hblk htk hbel5 hX hge hgrow5 hbx bx2 fx2 he2 hcl0
    have hgen : ∃ w6, w6 = w5.setCell ⟨w3.heap.size, 2, none⟩ (.slice (some ⟨g, 0, none⟩) (0 + cs.length) cap) := ⟨_, rfl⟩
    obtain ⟨w6, hw6⟩ := hgen
    rw [← hw6] at HX
    rw [Nat.zero_add] at hw6
    try rw [Nat.zero_add]
    rw [← hw6]
    clear hw6
    clear CM HBEL HW1 HNEWS NEWS B56 hx0 hx1 hy0 hy1 hfS hfS' hL10
    go_wp2_with fail
    go_loopw [11] (fun s11 wr => ∃ (s : Nat) (xs : List Cel), s11 = .int .i64 s ∧ s ≤ S ∧ XInv G L cs N S f T w3 w3.heap.size g cap wr xs) (fun s11 _ => 20 - (intOf s11).toNat)
    case atStart => exact ⟨0, cs, rfl, Nat.zero_le _, HX.out⟩
    case round =>
      clear HX
      obtain ⟨s, xs, rfl, hs, hX⟩ := hrel
      have HX := hide hX
      have y0 := (B28.out.below hX.bel B28.out.lt).cell 0
      have x1 := (B24.out.below hX.bel B24.out.lt).cell 1
      simp at y0 x1
      rw [HS.out] at y0
      rw [HN.out] at x1
      clear hX
      have hcs : (s : Int) < S ∨ (S : Int) ≤ s := by omega
      rcases hcs with hcs | hcs
      · have hsS : s < S := by omega
        obtain ⟨wo, hwo⟩ : ∃ wo, wo = wr := ⟨_, rfl⟩
        subst hwo
        go_wp2_with fail
        clear y0 x1
        go_loopw [12] (fun s12 wr => ∃ (t : Nat) (xs : List Cel), s12 = .int .i64 t ∧ s ≤ t ∧ t ≤ S ∧ XInv G L cs N S f T w3 w3.heap.size g cap wr xs) (fun s12 _ => 20 - (intOf s12).toNat)
        case atStart => exact ⟨s, xs, rfl, Nat.le_refl _, hs, HX.out⟩
        case round =>
          clear HX
          obtain ⟨t, xs, rfl, hst, ht, hX⟩ := hrel
          have HX := hide hX
          have y0 := (B28.out.below hX.bel B28.out.lt).cell 0
          have x1 := (B24.out.below hX.bel B24.out.lt).cell 1
          simp at y0 x1
          rw [HS.out] at y0
          rw [HN.out] at x1
          clear hX
          have hcs2 : (t : Int) < S ∨ (S : Int) ≤ t := by omega
          rcases hcs2 with hcs2 | hcs2
          · have htS : t < S := by omega
            have hca : s < f ∨ (f ≤ s ∧ T < t) ∨ (f ≤ s ∧ t ≤ T ∧ s = f ∧ t = T) ∨ (f ≤ s ∧ t ≤ T ∧ s ≠ f) ∨ (f ≤ s ∧ t ≤ T ∧ s = f ∧ t ≠ T) := by omega
            go_upto_region 14 with fail
            go_cut [76] (fun s76 wx => ∃ b : Bool, s76 = .bool b ∧ (b = true → s < f ∨ T < t ∨ (s = f ∧ t = T)) ∧ wx = wr)
            case first =>
              rcases hca with hca | ⟨hc0, hca⟩ | ⟨hc0, hc1, hc2, hc3⟩ | ⟨hc0, hc1, hc2⟩ | ⟨hc0, hc1, hc2, hc3⟩
              · have HOUT := hide (show s < f ∨ T < t ∨ (s = f ∧ t = T) from .inl hca)
                have w0 : (s : Int) < (f : Int) := by omega
                go_wp2_with fail
                go_meet
                exact ⟨true, rfl, fun _ => HOUT.out, rfl⟩
              · have HOUT := hide (show s < f ∨ T < t ∨ (s = f ∧ t = T) from .inr (.inl hca))
                have w0 : (f : Int) ≤ (s : Int) := by omega
                have w1_ : (T : Int) < (t : Int) := by omega
                go_wp2_with fail
                go_meet
                exact ⟨true, rfl, fun _ => HOUT.out, rfl⟩
              · have HOUT := hide (show s < f ∨ T < t ∨ (s = f ∧ t = T) from .inr (.inr ⟨hc2, hc3⟩))
                have w0 : (f : Int) ≤ (s : Int) := by omega
                have w1_ : (t : Int) ≤ (T : Int) := by omega
                have w2_ : ((s : Int) == (f : Int)) = true := by simp; omega
                have w3_ : ((t : Int) == (T : Int)) = true := by simp; omega
                clear hc2 hc3
                go_wp2_with fail
                go_meet
                exact ⟨true, rfl, fun _ => HOUT.out, rfl⟩
              · have w0 : (f : Int) ≤ (s : Int) := by omega
                have w1_ : (t : Int) ≤ (T : Int) := by omega
                have w2_ : ((s : Int) == (f : Int)) = false := by simp; omega
                have d0 : decide (s < f) = false := by simp; omega
                have d1 : decide (T < t) = false := by simp; omega
                clear hc2
                go_wp2_with fail
                go_meet
                exact ⟨false, rfl, (fun h => by cases h), rfl⟩
              · have w0 : (f : Int) ≤ (s : Int) := by omega
                have w1_ : (t : Int) ≤ (T : Int) := by omega
                have w2_ : ((s : Int) == (f : Int)) = true := by simp; omega
                have w3_ : ((t : Int) == (T : Int)) = false := by simp; omega
                have d0 : decide (s < f) = false := by simp; omega
                have d1 : decide (T < t) = false := by simp; omega
                clear hc2 hc3
                go_wp2_with fail
                go_meet
                exact ⟨false, rfl, (fun h => by cases h), rfl⟩
            case rest =>
              clear hca
              obtain ⟨bo, rfl, hbo, rfl⟩ := hcut
              have HBO := hide hbo
              clear hbo
              rcases bo with _ | _
              · go_wp2_with fail
                go_roundw
                case rel => exact ⟨t + 1, xs, by simp, by omega, by omega, HX.out⟩
                case measure => simp [intOf]; omega
              · have HOUT := hide (HBO.out rfl)
                clear HBO
                obtain ⟨q, hq⟩ : ∃ q, q = qN S s t * N := ⟨_, rfl⟩
                have C20 := hide (index_law hq hst htS hS1 hN1)
                have HQ := hide hq
                have hqn : q + N ≤ cs.length := q_bound hst htS HLEN.out hq
                clear hq
                go_wp2_with (go_at_call 20; refine (C20.out _).mono ?_; rintro e w2 ⟨rfl, rfl⟩)
                obtain ⟨w9, hw9⟩ : ∃ W, W = w2 := ⟨_, rfl⟩
                subst hw9
                clear y0 x1
                go_loopw [14] (fun s14 wr => ∃ (i : Nat) (xs : List Cel), s14 = .int .i64 i ∧ i ≤ N ∧ XInv G L cs N S f T w3 w3.heap.size g cap wr xs) (fun s14 _ => 20 - (intOf s14).toNat)
                case atStart => exact ⟨0, xs, rfl, Nat.zero_le _, HX.out⟩
                case round =>
                  clear HX
                  obtain ⟨i, xs, rfl, hi, hX⟩ := hrel
                  have HX := hide hX
                  have x1 := (B24.out.below hX.bel B24.out.lt).cell 1
                  have b2 := hX.bx.cell 2
                  simp at x1 b2
                  rw [HN.out] at x1
                  have hcs3 : (i : Int) < N ∨ (N : Int) ≤ i := by omega
                  rcases hcs3 with hcs3 | hcs3
                  · have hiN : i < N := by omega
                    obtain ⟨d, hd⟩ : ∃ d, xs[q + i]? = some d := ⟨_, List.getElem?_eq_getElem (by rw [hX.len]; omega)⟩
                    obtain ⟨cur, hcur, hcl⟩ := hX.row
                    obtain ⟨v0, v1, v2, v3⟩ := hcl.cel hd
                    rw [← hcur.cell] at v0 v1 v2 v3
                    have u0 := hcur.frozen ((q + i) * 4)
                    have u1 := hcur.frozen ((q + i) * 4 + 1)
                    have u2 := hcur.frozen ((q + i) * 4 + 2)
                    have u3 := hcur.frozen ((q + i) * 4 + 3)
                    have hs2 : 0 ≤ (q : Int) + (i : Int) := by omega
                    have hs4 : (q : Int) + (i : Int) < (cs.length : Int) := by omega
                    have hs5 : (q : Int) + (i : Int) ≤ 2000 := by have := chart_len HM.out.gb HCH.out; omega
                    have hs3 : ((q : Int) + (i : Int)).toNat = q + i := by omega
                    clear hX hcur hcl hd
                    go_wp2_with fail
                    go_roundw
                    case rel =>
                      have hp := HX.out.put hst htS hTS (i := i) hiN HOUT.out (p := q + i) (by rw [HQ.out]) ⟨⟨0, 1⟩, 0, (s : Int)⟩ vnf_one
                      exact ⟨i + 1, xs.set (q + i) ⟨⟨0, 1⟩, 0, (s : Int)⟩, by simp, hiN, hp⟩
                    case measure => simp [intOf]; omega
                  · have hd : decide ((i : Int) < N) = false := by simp; omega
                    clear hX
                    go_wp2_with fail
                    go_roundw
                    case rel => exact ⟨t + 1, xs, by simp, by omega, by omega, HX.out⟩
                    case measure => simp [intOf]; omega
          · have hd : decide ((t : Int) < S) = false := by simp; omega
            go_wp2_with fail
            go_roundw
            case rel => exact ⟨s + 1, xs, by simp, by omega, HX.out⟩
            case measure => simp [intOf]; omega
      · have hd : decide ((s : Int) < S) = false := by simp; omega
        obtain ⟨q, hq⟩ : ∃ q, q = qN S f T * N := ⟨_, rfl⟩
        have C20 := hide (index_law hq hfT hTS hS1 hN1)
        have HQ := hide hq
        have hqn : q + N ≤ cs.length := q_bound hfT hTS HLEN.out hq
        clear hq
        go_wp2_with (go_at_call 20; refine (C20.out _).mono ?_; rintro e w2 ⟨rfl, rfl⟩)
        obtain ⟨wr, hwr⟩ : ∃ W, W = w2 := ⟨_, rfl⟩
        subst hwr
        obtain ⟨his, hbd⟩ := rspan_seg HM.out.gb HCH.out HN.out HS.out hfT hTS HQ.out HX.out
        have HIS := hide his
        have HBD := hide hbd
        have HWR := hide (HW3.out.trans (HX.out.bel.mono HW3.out.size))
        have HRX := hide (xinv_rd HX.out)
        have HRS := hide (rd_seg (HRD.out.below HX.out.bel) HCA.out hqn hN0)
        have HSEGL := hide (seg_len' hqn)
        have C23 := hide (fun W (hb : Grew wr W) => span_law G L xs f T RA AA FA (some ⟨g, 0, none⟩) rc ac fc cap W (N : Int) HN.out.symm cs.length HX.out.len.symm hbd ((HA.out.g.below HWR.out).below hb) (HRX.out.below hb))
        have HXN := hide (spanOf_N G L xs f T HN.out)
        have C21 := hide (fun W (A1 A2 : Option Addr) (c1 c2 : Nat) (h1 : Rd W A1 ((cs.drop q).take N).length 4 (ccells ((cs.drop q).take N))) (h2 : Rd W A2 ((cs.drop q).take N).length 4 (ccells ((cs.drop q).take N))) => samecells_self _ N HSEGL.out hN1 A1 A2 c1 c2 W h1 h2)
        have hcc := HCC.out
        have hL10 := chart_len HM.out.gb HCH.out
        have b24 := B24.out.below HX.out.bel B24.out.lt
        have b28 := B28.out.below HX.out.bel B28.out.lt
        have b34 := B34.out.below HX.out.bel B34.out.lt
        have bx := HX.out.bx
        have B24 := hide b24
        have B28 := hide b28
        clear y0 x1 his hbd
        have g0 : ∀ w', Grew wr w' → w'.cell? ⟨w.heap.size, 0, none⟩ = some (I G.nT) := fun w' h => cell_below h (by have := B24.out.cell 0; simpa using this)
        have g1 : ∀ w', Grew wr w' → w'.cell? ⟨w.heap.size, 1, none⟩ = some (I G.nN) := fun w' h => cell_below h (by have := B24.out.cell 1; simpa using this)
        have g2 : ∀ w', Grew wr w' → w'.cell? ⟨w.heap.size, 2, none⟩ = some (I G.nS) := fun w' h => cell_below h (by have := B24.out.cell 2; simpa using this)
        have g3 : ∀ w', Grew wr w' → w'.cell? ⟨w.heap.size, 3, none⟩ = some (.slice RA G.rules.length rc) := fun w' h => cell_below h (by have := B24.out.cell 3; simpa using this)
        have k0 : ∀ w', Grew wr w' → w'.cell? ⟨w.heap.size + 1, 0, none⟩ = some (I L.st) := fun w' h => cell_below h (by have := B28.out.cell 0; simpa using this)
        have k1 : ∀ w', Grew wr w' → w'.cell? ⟨w.heap.size + 1, 1, none⟩ = some (.slice AA L.arcs.length ac) := fun w' h => cell_below h (by have := B28.out.cell 1; simpa using this)
        have k2 : ∀ w', Grew wr w' → w'.cell? ⟨w.heap.size + 1, 2, none⟩ = some (.slice FA L.fin.length fc) := fun w' h => cell_below h (by have := B28.out.cell 2; simpa using this)
        have z2 : ∀ w', Grew wr w' → w'.cell? ⟨qc, 2, none⟩ = some (.slice (some ⟨cb, co, none⟩) cs.length cc) := fun w' h => cell_below h (by have := b34.cell 2; rw [HCA.out] at this; simpa using this)
        have v0 : ∀ w', Grew wr w' → w'.cell? ⟨w3.heap.size, 0, none⟩ = some (I G.nN) := fun w' h => cell_below h (by have := bx.cell 0; simpa using this)
        have v1 : ∀ w', Grew wr w' → w'.cell? ⟨w3.heap.size, 1, none⟩ = some (I L.st) := fun w' h => cell_below h (by have := bx.cell 1; simpa using this)
        have v2 : ∀ w', Grew wr w' → w'.cell? ⟨w3.heap.size, 2, none⟩ = some (.slice (some ⟨g, 0, none⟩) cs.length cap) := fun w' h => cell_below h (by have := bx.cell 2; simpa using this)
        rw [HN.out] at g1
        clear b24 b28 b34 bx
        have hs2 : (q : Int) ≤ (q : Int) + (N : Int) := by omega
        have hs3 : (q : Int) + (N : Int) ≤ (cc : Int) := by omega
        have hs4 : (0 : Int) ≤ (q : Int) := by omega
        have hs5 : ¬ (cc = q) := by omega
        have hs6 : ((q : Int) + (N : Int)).toNat = q + N := by omega
        have hs7 : q + N ≤ cc := by omega
        have hs8 : q ≤ q + N := by omega
        have hs9 : q + N - q = N := by omega
        have hs1 : IntKind.i64.wrap ((q : Int) + (N : Int)) = (q : Int) + (N : Int) := wrap_small hqn hL10
        have hS0 : Grew wr wr.drew := Below.drew (Below.refl _ _)
        clear hcc hL10
        go_wp2_with fail
        refine wp_region_E (fun w' => Grew wr w') 18 (by kernel_rfl) ?_
        refine wpAnyE_one (i := 0) rfl (by kernel_rfl) (fun K hK => ?_)
        go_simp
        (go_at_call 12; refine (CW.out _ (HWR.out.trans (Below.mono hS0 HWR.out.size))).mono ?_; rintro e w2 ⟨rfl, hw2⟩; have hS2 : Grew wr w2 := Below.trans hS0 (hw2.mono (Below.size hS0)); clear hw2)
        refine hK.out _ _ (fun _ => hS2) ?_
        clear hK K
        try simp only [Act.put, List.getElem_toArray, List.getElem_cons_zero, List.getElem_cons_succ, List.setIfInBounds_toArray, List.set_cons_zero, List.set_cons_succ]
        refine wpAnyE_take (i := 1) (v := ?vv1) rfl (by kernel_rfl) (fun _ _ _ h => h) (Or.inl ⟨by rfl, ?hy1⟩) hS2 ?re1
        case hy1 =>
          intro w' hSw
          go_simp
          try with_reducible rfl
        try simp only [Act.put, List.getElem_toArray, List.getElem_cons_zero, List.getElem_cons_succ, List.setIfInBounds_toArray, List.set_cons_zero, List.set_cons_succ]
        refine wpAnyE_take (i := 2) (v := ?vv2) rfl (by kernel_rfl) (fun _ _ _ h => h) (Or.inl ⟨by rfl, ?hy2⟩) hS2 ?re2
        case hy2 =>
          intro w' hSw
          go_simp
          try with_reducible rfl
        try simp only [Act.put, List.getElem_toArray, List.getElem_cons_zero, List.getElem_cons_succ, List.setIfInBounds_toArray, List.set_cons_zero, List.set_cons_succ]
        refine wpAnyE_take (i := 3) (v := ?vv3) rfl (by kernel_rfl) (fun _ _ _ h => h) (Or.inl ⟨by rfl, ?hy3⟩) hS2 ?re3
        case hy3 =>
          intro w' hSw
          go_simp
          try with_reducible rfl
        try simp only [Act.put, List.getElem_toArray, List.getElem_cons_zero, List.getElem_cons_succ, List.setIfInBounds_toArray, List.set_cons_zero, List.set_cons_succ]
        refine wpAnyE_take (i := 4) (v := ?vv4) rfl (by kernel_rfl) (fun _ _ _ h => h) (Or.inl ⟨by rfl, ?hy4⟩) hS2 ?re4
        case hy4 =>
          intro w' hSw
          go_simp
          try with_reducible rfl
        try simp only [Act.put, List.getElem_toArray, List.getElem_cons_zero, List.getElem_cons_succ, List.setIfInBounds_toArray, List.set_cons_zero, List.set_cons_succ]
        refine wpAnyE_take (i := 5) (v := ?vv5) rfl (by kernel_rfl) (fun _ _ _ h => h) (Or.inl ⟨by rfl, ?hy5⟩) hS2 ?re5
        case hy5 =>
          intro w' hSw
          go_simp
          try with_reducible rfl
        try simp only [Act.put, List.getElem_toArray, List.getElem_cons_zero, List.getElem_cons_succ, List.setIfInBounds_toArray, List.set_cons_zero, List.set_cons_succ]
        refine wpAnyE_take (i := 6) (v := ?vv6) rfl (by kernel_rfl) (fun _ _ _ h => h) (Or.inl ⟨by rfl, ?hy6⟩) hS2 ?re6
        case hy6 =>
          intro w' hSw
          go_simp
          try with_reducible rfl
        try simp only [Act.put, List.getElem_toArray, List.getElem_cons_zero, List.getElem_cons_succ, List.setIfInBounds_toArray, List.set_cons_zero, List.set_cons_succ]
        refine wpAnyE_take (i := 8) (v := ?vv7) rfl (by kernel_rfl) (fun _ _ _ h => h) (Or.inl ⟨by rfl, ?hy7⟩) hS2 ?re7
        case hy7 =>
          intro w' hSw
          go_simp
          try with_reducible rfl
        try simp only [Act.put, List.getElem_toArray, List.getElem_cons_zero, List.getElem_cons_succ, List.setIfInBounds_toArray, List.set_cons_zero, List.set_cons_succ]
        refine wpAnyE_take (i := 9) (v := ?vv8) rfl (by kernel_rfl) (fun _ _ _ h => h) (Or.inl ⟨by rfl, ?hy8⟩) hS2 ?re8
        case hy8 =>
          intro w' hSw
          go_simp
          try with_reducible rfl
        try simp only [Act.put, List.getElem_toArray, List.getElem_cons_zero, List.getElem_cons_succ, List.setIfInBounds_toArray, List.set_cons_zero, List.set_cons_succ]
        refine wpAnyE_take (i := 10) (v := ?vv9) rfl (by kernel_rfl) (fun _ _ _ h => h) (Or.inl ⟨by rfl, ?hy9⟩) hS2 ?re9
        case hy9 =>
          intro w' hSw
          go_simp
          try with_reducible rfl
        try simp only [Act.put, List.getElem_toArray, List.getElem_cons_zero, List.getElem_cons_succ, List.setIfInBounds_toArray, List.set_cons_zero, List.set_cons_succ]
        refine wpAnyE_take (i := 11) (v := ?vv10) rfl (by kernel_rfl) (fun _ _ _ h => h) (Or.inl ⟨by rfl, ?hy10⟩) hS2 ?re10
        case hy10 =>
          intro w' hSw
          go_simp
          try with_reducible rfl
        try simp only [Act.put, List.getElem_toArray, List.getElem_cons_zero, List.getElem_cons_succ, List.setIfInBounds_toArray, List.set_cons_zero, List.set_cons_succ]
        refine wpAnyE_take (i := 12) (v := ?vv11) rfl (by kernel_rfl) (fun _ _ _ h => h) (Or.inl ⟨by rfl, ?hy11⟩) hS2 ?re11
        case hy11 =>
          intro w' hSw
          go_simp
          try with_reducible rfl
        try simp only [Act.put, List.getElem_toArray, List.getElem_cons_zero, List.getElem_cons_succ, List.setIfInBounds_toArray, List.set_cons_zero, List.set_cons_succ]
        refine wpAnyE_take (i := 13) (v := ?vv12) rfl (by kernel_rfl) (fun _ _ _ h => h) (Or.inl ⟨by rfl, ?hy12⟩) hS2 ?re12
        case hy12 =>
          intro w' hSw
          go_simp
          try with_reducible rfl
        try simp only [Act.put, List.getElem_toArray, List.getElem_cons_zero, List.getElem_cons_succ, List.setIfInBounds_toArray, List.set_cons_zero, List.set_cons_succ]
        refine wpAnyE_take (i := 14) (v := ?vv13) rfl (by kernel_rfl) (fun _ _ _ h => h) (Or.inl ⟨by rfl, ?hy13⟩) hS2 ?re13
        case hy13 =>
          intro w' hSw
          go_simp
          try with_reducible rfl
        try simp only [Act.put, List.getElem_toArray, List.getElem_cons_zero, List.getElem_cons_succ, List.setIfInBounds_toArray, List.set_cons_zero, List.set_cons_succ]
        refine wpAnyE_take (i := 15) (v := ?vv14) rfl (by kernel_rfl) (fun _ _ _ h => h) (Or.inl ⟨by rfl, ?hy14⟩) hS2 ?re14
        case hy14 =>
          intro w' hSw
          go_simp
          try with_reducible rfl
        try simp only [Act.put, List.getElem_toArray, List.getElem_cons_zero, List.getElem_cons_succ, List.setIfInBounds_toArray, List.set_cons_zero, List.set_cons_succ]
        refine wpAnyE_one (i := 7) rfl (by kernel_rfl) (fun K hK => ?_)
        go_simp
        (go_at_call 23; (with_reducible refine (C23.out _ hS2).mono ?_); rintro e w4 hpost; obtain ⟨ab, ao, c2, ys, rfl, hys, hsrc, hw4, _⟩ := hpost.at2 HXN.out hN0; have hS3 : Grew wr w4 := Below.trans hS2 (hw4.mono (Below.size hS2)); have heq := hys.unique HBD.out HIS.out; subst heq; have HSRC := hide hsrc; clear hw4 hys hsrc)
        refine hK.out _ _ (fun _ => hS3) ?_
        clear hK K
        try simp only [Act.put, List.getElem_toArray, List.getElem_cons_zero, List.getElem_cons_succ, List.setIfInBounds_toArray, List.set_cons_zero, List.set_cons_succ]
        refine wpAnyE_one (i := 16) rfl (by kernel_rfl) (fun K hK => ?_)
        go_simp
        (go_at_call 21; have hA1 := HRS.out.below (show Below wr.heap.size wr w4 from hS3); have hB1 : Rd w4 (some ⟨ab, ao, none⟩) ((cs.drop q).take N).length 4 (ccells ((cs.drop q).take N)) := ⟨ccells_length _, fun _ => ⟨ab, ao, rfl, HSRC.out⟩⟩; (with_reducible refine (C21.out _ _ _ _ _ hB1 hA1).mono ?_); rintro e w5 ⟨rfl, hw5⟩; have hS4 : Grew wr w5 := Below.trans hS3 (hw5.mono (Below.size hS3)); clear hw5)
        refine hK.out _ _ (fun _ => hS4) ?_
        clear hK K
        try simp only [Act.put, List.getElem_toArray, List.getElem_cons_zero, List.getElem_cons_succ, List.setIfInBounds_toArray, List.set_cons_zero, List.set_cons_succ]
        refine wpAnyE_take (i := 17) (v := ?vv15) rfl (by kernel_rfl) (fun _ _ _ h => h) (Or.inl ⟨by rfl, ?hy15⟩) hS4 ?re15
        case hy15 =>
          intro w' hSw
          go_simp
          try with_reducible rfl
        try simp only [Act.put, List.getElem_toArray, List.getElem_cons_zero, List.getElem_cons_succ, List.setIfInBounds_toArray, List.set_cons_zero, List.set_cons_succ]
        refine wpAnyE_one (i := 18) rfl (by kernel_rfl) (fun K hK => ?_)
        go_simp
        refine hK.out _ _ (fun h => absurd rfl h) ?_
        clear hK K
        try simp only [Act.put, List.getElem_toArray, List.getElem_cons_zero, List.getElem_cons_succ, List.setIfInBounds_toArray, List.set_cons_zero, List.set_cons_succ]
        refine wpAnyE_done (by kernel_rfl) ?_
        go_wp2
        go_ret
        exact ⟨rfl, HWR.out.trans (Below.mono hS4 HWR.out.size)⟩
end Go.Proofs.YtnifpeamgoapmaaDoor
