/- The reference: Span walked. -/
import Derived.Test.YtnifpeamgoapmaaDoorRj
set_option linter.unusedVariables false
set_option linter.unusedSimpArgs false
namespace Go.Proofs.YtnifpeamgoapmaaDoor
open Go Go.RowKit

theorem run_neq47' (a b : Cel) (w : World) : (binOp .neq 47 (.agg #[I a.v.c, I a.v.s, I a.r, I a.a]) (.agg #[I b.v.c, I b.v.s, I b.r, I b.a])).run Tryd.prog w = .ok (.bool (!decide (a = b))) w := run_neq47 a b w
theorem Blk.ch2' (W : World) (o0 o1 : Obj) (t : TypeId) (cs : Array Value) : Blk (((W.alloc o0).alloc o1).alloc (.cells cs t)) (W.heap.size + 1 + 1) t cs := Blk.new3 W o0 o1 t cs
set_option maxRecDepth 100000 in
set_option maxHeartbeats 8000000 in
theorem rspan_any (X : SpanC) (RA AA FA CA : Option Addr) (rc ac fc cc : Nat) (w : World) (B : Bds X) (hN : 1 ≤ X.G.nN) (hA : SArgs w X RA AA CA) :
    Calls Tryd.prog 22 #[GramA X.G RA rc, LatA X.L AA ac FA fc, ChartA X.C.cN X.C.cS CA X.C.cells.length cc, I X.fr, I X.to] w (SpanPost X w) := by
  obtain ⟨i0, hi, hz0, hz1, hz2⟩ := info_parts info47
  have hNN := toN B
  have hN1 := B.n1
  have HB := hide B
  have HA := hide hA
  have CN := hide (fun W => show Calls Tryd.prog 41 #[] W (fun e w' => e = .returned (.agg #[I noneC.v.c, I noneC.v.s, I noneC.r, I noneC.a]) ∧ Below W.heap.size W w') from none_any W)
  have hn0 : 0 < X.N := by omega
  have hnm : X.N ≤ 10 := by omega
  have hnum : X.N + 1 ≤ maxLen := by simp [maxLen]; omega
  have HNN := hide hNN
  have hrl := B.rl
  clear hA B hN1 hNN
  go_enter Tryd.func22, Tryd.ntmps22
  go_wp2_with fail
  go_loopw [11, 12] (fun s11 s12 wr => ∃ (k : Nat) (A1 : Option Addr) (c1 : Nat), s11 = .slice A1 k c1 ∧ s12 = .int .i64 k ∧ k ≤ X.N ∧ wr.ownsRow (w.heap.size + 1 + 1 + 1) 47 4 (.slice A1 k c1) k (ccells (List.replicate k noneC)) ∧
    Blk wr w.heap.size 24 #[I X.G.nT, I X.G.nN, I X.G.nS, .slice RA X.G.rules.length rc] ∧ Blk wr (w.heap.size + 1) 28 #[I X.L.st, .slice AA X.L.arcs.length ac, .slice FA X.L.fin.length fc] ∧ Blk wr (w.heap.size + 1 + 1) 34 #[I X.C.cN, I X.C.cS, .slice CA X.C.cells.length cc] ∧ Below w.heap.size w wr) (fun _ s12 _ => 20 - (intOf s12).toNat)
  case atStart =>
    refine ⟨0, none, 0, rfl, rfl, Nat.zero_le _, ⟨rfl, .inl ⟨rfl, rfl⟩⟩, ((Blk.new w _ _).alloc _).alloc _, (Blk.new2 w _ _ _).alloc _, Blk.new3 w _ _ _ _, (((Below.refl _ _).alloc (Nat.le_refl _) _).alloc (by simp) _).alloc (by simp; omega) _⟩
  case round =>
    obtain ⟨k, A1, c1, rfl, rfl, hk, hown, h24, h28, h34, hb⟩ := hrel
    have g1 := h24.cell 1
    simp at g1
    have HOWN := hide hown
    have H24 := hide h24
    have H28 := hide h28
    have H34 := hide h34
    have HBEL := hide hb
    have hsz := h34.lt
    clear hown h24 h28 h34 hb
    have hkl : (k : Int) < X.G.nN ∨ X.G.nN ≤ (k : Int) := by omega
    rcases hkl with hkl | hkl
    · have hk1 : k < X.N := by have := HNN.out; omega
      have HSN := hide (show ccells (List.replicate (k + 1) noneC) = ccells (List.replicate k noneC) ++ [I noneC.v.c, I noneC.v.s, I noneC.r, I noneC.a] by rw [List.replicate_succ']; exact ccells_snoc _ _)
      go_wp2_with (first | (go_at_call 41; refine (CN.out _).mono ?_; rintro e w4 ⟨rfl, hw4⟩) | (at_builtin; refine wpList_append_own _ rfl _ _ 32 rfl (w.heap.size + 1 + 1 + 1) 47 i0 _ 4 32 Tryd.underlying32 hi hz0 hz1 hz2 rfl (by decide) _ _ _ rfl ((own_below HOWN.out hw4).alloc _) ⟨w4.heap.size, 0, none⟩ 1 1 [I noneC.v.c, I noneC.v.s, I noneC.r, I noneC.a] rfl rfl (World.news_of_block (heap_alloc_new _ _)) (by simp [Value.oneCell']) (by omega) (by omega) (by simp; have := hw4.size; omega) ?_; intro v' w5 hown5 hgrow5 hiff))
      obtain ⟨g, cap, rfl, _⟩ := World.ownsRow.form hown5 (by omega)
      have HOWN5 := hide hown5
      have HGR := hide hgrow5
      have HW4 := hide hw4
      clear hown5 hgrow5 hw4 hiff
      go_wp2_with fail
      go_roundw
      case rel =>
        have hs1 := HW4.out.size
        have hge : ∀ q, (Value.slice A1 k c1).ownBlock = some q → w.heap.size + 1 + 1 + 1 ≤ q := fun q hq => own_ge HOWN.out q hq
        have keep : ∀ {q t cs}, Blk wr q t cs → q < w.heap.size + 1 + 1 + 1 → Blk w5 q t cs := fun {q t cs} hq hlt => Blk.grown ((hq.below HW4.out hq.lt).alloc _) HGR.out (fun he => by have := hge _ he.symm; omega)
        refine ⟨k + 1, _, _, rfl, rfl, by omega, by rw [HSN.out]; exact HOWN5.out, keep H24.out (by omega), keep H28.out (by omega), keep H34.out (by omega), ?_⟩
        refine below_grown ((HBEL.out.trans (HW4.out.mono HBEL.out.size)).alloc (by have := HBEL.out.size; omega) _) (by simp; have := HBEL.out.size; omega) HGR.out ?_
        intro q hq
        have := hge q hq
        omega
      case measure => simp [intOf]; omega
    · obtain rfl : k = X.N := by have := HNN.out; omega
      obtain ⟨hcl, hfo⟩ := HOWN.out
      obtain ⟨g, cap, cur, he, hge, hblk, _, _, _, htk⟩ := hfo.resolve_left (fun h => by have := h.2; omega)
      injection he with he1 he2 he3
      subst he1 he3
      have hst : SpInv X RA AA FA CA rc ac fc cc w g (List.replicate X.N noneC) wr := by
        refine ⟨H24.out, H28.out, H34.out, ⟨cur, hblk, fun j u hj => ?_⟩, HBEL.out, by omega, RInv.init X⟩
        have hl := (List.getElem?_eq_some_iff.1 hj).1
        rw [hcl] at hl
        rw [← htk, List.getElem?_take, if_pos hl] at hj
        simpa using hj
      have HST := hide hst
      clear hcl hfo hblk htk hst hge hkl hi hz0 hz1 hz2 hk he2
      have hd : decide ((X.N : Int) < X.G.nN) = false := by have := HNN.out; simp; omega
      go_wp2_with fail
      clear hd g1
      go_loopw [13] (fun s13 wr => ∃ (own : List Cel) (mo : Bool), s13 = .bool mo ∧ SpInv X RA AA FA CA rc ac fc cc w g own wr ∧ (mo = false → Stable X own X.G.rules.length)) (fun s13 wr => 2 * codeW wr g X.N + (match s13 with | .bool true => 1 | _ => 0))
      case atStart => exact ⟨_, true, rfl, HST.out, fun h => by cases h⟩
      case round =>
        clear HOWN H24 H28 H34 HBEL HST hsz
        obtain ⟨own, mo, rfl, hI, hS⟩ := hrel
        have HI := hide hI
        have HS := hide hS
        clear hI hS
        rcases mo with _ | _
        · go_wp2
          go_ret
          have hc := HI.out.inv.stable HB.out (fun k r hr => HS.out (by simp) k r (List.getElem?_eq_some_iff.1 hr).1 hr)
          have hrd := HI.out.rd
          rw [HI.out.inv.len] at hrd
          exact ⟨_, _, rfl, own, hc, hrd, HI.out.bel, fun b hb => by
            injection hb with hb
            subst hb
            exact HI.out.ge⟩
        · have HI0 := hide HI.out
          obtain ⟨wo, hwo⟩ : ∃ wo, wo = wr := ⟨_, rfl⟩
          subst hwo
          go_wp2_with fail
          go_loopw [13, 14] (fun s13 s14 wr => ∃ (own' : List Cel) (mo' : Bool) (k : Nat), s13 = .bool mo' ∧ s14 = .int .i64 k ∧ k ≤ X.G.rules.length ∧ SpInv X RA AA FA CA rc ac fc cc w g own' wr ∧ (mo' = false → own' = own ∧ Stable X own k) ∧ (mo' = true → codeL own' < codeL own)) (fun _ s14 _ => 20 - (intOf s14).toNat)
          case atStart => exact ⟨own, false, 0, rfl, rfl, Nat.zero_le _, HI.out, fun _ => ⟨rfl, fun k r h => by omega⟩, fun h => by cases h⟩
          case round =>
            clear HI HS
            obtain ⟨own', mo', k, rfl, rfl, hk, hI, hS0, hS1⟩ := hrel
            have HI := hide hI
            have HS0 := hide hS0
            have HS1 := hide hS1
            have g3 := hI.b24.cell 3
            simp at g3
            have hkl : (k : Int) < X.G.rules.length ∨ (X.G.rules.length : Int) ≤ (k : Int) := by omega
            clear hI hS0 hS1
            rcases hkl with hkl | hkl
            · obtain ⟨r, hr⟩ : ∃ r, X.G.rules[k]? = some r := ⟨_, List.getElem?_eq_getElem (by omega)⟩
              have hrk := HB.out.rules r (List.mem_of_getElem? hr)
              obtain ⟨h, hh⟩ := Int.eq_ofNat_of_zero_le hrk.h0
              have hhl : h < X.N := by have := hrk.h1; have := HNN.out; omega
              have hhl2 : h < own'.length := by rw [HI.out.inv.len]; exact hhl
              obtain ⟨c0, hc0⟩ : ∃ c, own'[h]? = some c := ⟨_, List.getElem?_eq_getElem hhl2⟩
              obtain ⟨c, hc⟩ : ∃ c, c = X.improve own' k r := ⟨_, rfl⟩
              have C42 := hide (by
                have := improve_any X own' k r RA AA FA CA (some ⟨g, 0, none⟩) rc ac fc cc c1 wr HB.out hr (HI.out.args HA.out)
                rw [HI.out.inv.len, ← hc] at this
                exact (show Calls Tryd.prog 42 #[.agg #[I X.G.nT, I X.G.nN, I X.G.nS, .slice RA X.G.rules.length rc], .agg #[I X.L.st, .slice AA X.L.arcs.length ac, .slice FA X.L.fin.length fc], .agg #[I X.C.cN, I X.C.cS, .slice CA X.C.cells.length cc], .slice (some ⟨g, 0, none⟩) X.N c1, I X.fr, I X.to, I (k : Int)] wr (fun e w' => e = .returned (.agg #[I c.v.c, I c.v.s, I c.r, I c.a]) ∧ Below wr.heap.size wr w') from this))
              obtain ⟨rb, ro, hRA, r0, r1, r2, r3, r4, r5⟩ := (HA.out.rules.below HI.out.bel).rule k hr
              obtain ⟨cur, hcur, hcl⟩ := HI.out.row
              obtain ⟨y0, y1, y2, y3⟩ := hcl.cel hc0
              rw [← hcur.cell] at y0 y1 y2 y3
              have HR := hide hr
              have HH := hide hh
              have HC := hide hc
              have HC0 := hide hc0
              have hs0 := HI.out.b24.cell 0
              have hs1 := HI.out.b24.cell 1
              have hs2 := HI.out.b24.cell 2
              have hs4 := HI.out.b28.cell 0
              have hs5 := HI.out.b28.cell 1
              have hs6 := HI.out.b28.cell 2
              have hs7 := HI.out.b34.cell 0
              have hs8 := HI.out.b34.cell 1
              have hs9 := HI.out.b34.cell 2
              simp at hs0 hs1 hs2 hs4 hs5 hs6 hs7 hs8 hs9
              have R1 := hide (show wr.cell? ⟨rb, ro + k * 6 + 1, none⟩ = some (I (h : Int)) by rw [← hh]; exact r1)
              have Y0 := hide y0
              have Y1 := hide y1
              have Y2 := hide y2
              have Y3 := hide y3
              have HRA := hide hRA
              clear hr hrk hh hc hc0 hhl2 r0 r1 r2 r3 r4 r5 hRA hcur hcl y0 y1 y2 y3
              go_wp2_with (go_at_call 42; refine C42.out.mono ?_; rintro e w1 ⟨rfl, hw1⟩)
              have hb1 : Below wr.heap.size wr (w1.alloc (Obj.cells #[I c.v.c, I c.v.s, I c.r, I c.a] 47)) := hw1.alloc hw1.size _
              have hbc := Blk.new w1 47 #[I c.v.c, I c.v.s, I c.r, I c.a]
              clear g3 hs0 hs1 hs2 hs4 hs5 hs6 hs7 hs8 hs9 hw1
              generalize w1.alloc (Obj.cells #[I c.v.c, I c.v.s, I c.r, I c.a] 47) = wq at hb1 hbc ⊢
              generalize w1.heap.size = q at hbc ⊢
              have HIQ := hide (HI.out.below hb1)
              have HBC := hide hbc
              have f0 := HIQ.out.b24.cell 3
              simp at f0
              rw [HRA.out] at f0
              have l0 := fun y : LW wq => y.cell f0
              have l1 := fun y : LW wq => y.cell (cell_below hb1 R1.out)
              have l2 := fun y : LW wq => y.cell (cell_below hb1 Y0.out)
              have l3 := fun y : LW wq => y.cell (cell_below hb1 Y1.out)
              have l4 := fun y : LW wq => y.cell (cell_below hb1 Y2.out)
              have l5 := fun y : LW wq => y.cell (cell_below hb1 Y3.out)
              have l6 := fun y : LW wq => y.cell (hbc.cell 0)
              have l7 := fun y : LW wq => y.cell (hbc.cell 1)
              have l8 := fun y : LW wq => y.cell (hbc.cell 2)
              have l9 := fun y : LW wq => y.cell (hbc.cell 3)
              simp at l6 l7 l8 l9
              have R1 := hide (cell_below hb1 R1.out)
              have F0 := hide f0
              clear hb1 hbc Y0 Y1 Y2 Y3 f0
              have hkr : k < X.G.rules.length := by omega
              have hh0 : (h : Int) < (X.N : Int) := by omega
              have hneq := run_neq47' c c0
              by_cases hcc : c = c0
              · have HCC := hide hcc
                have hdc : decide (c = c0) = true := by simp [hcc]
                rw [hdc] at hneq
                clear hcc hdc
                go_wp2_with fail
                refine wp_region_later (by kernel_rfl) (by kernel_rfl) ?_
                repeat (go_big_quiet_step (fail))
                refine wpQuiet_nil ?_
                rintro W1 ⟨x, hx⟩
                have HW1 := hide (show Below wq.heap.size wq W1 by rw [hx]; exact x.property)
                clear hx x l0 l1 l2 l3 l4 l5 l6 l7 l8 l9 hneq
                go_wp2_with fail
                go_roundw
                case rel =>
                  refine ⟨own', mo', k + 1, rfl, by simp, by omega, HIQ.out.below HW1.out, fun hm => ?_, HS1.out⟩
                  obtain ⟨e1, e2⟩ := HS0.out hm
                  refine ⟨e1, fun j r' hj hr' => ?_⟩
                  by_cases hjk : j = k
                  · subst hjk
                    rw [HR.out] at hr'
                    injection hr' with hr'
                    subst hr'
                    rw [← e1, HH.out, Int.toNat_natCast, List.getD, HC0.out, ← HC.out]
                    exact HCC.out
                  · exact e2 j r' (by omega) hr'
                case measure => simp [intOf]; omega
              · have HCC := hide hcc
                have hdc : decide (c = c0) = false := by simp [hcc]
                rw [hdc] at hneq
                clear hcc hdc
                go_wp2_with fail
                refine wp_region_later (by kernel_rfl) (by kernel_rfl) ?_
                repeat (go_big_quiet_step (fail))
                refine wpQuiet_nil ?_
                rintro W1 ⟨x, hx⟩
                have HW1 := hide (show Below wq.heap.size wq W1 by rw [hx]; exact x.property)
                clear hx x l0 l1 l2 l3 l4 l5 l6 l7 l8 l9 hneq
                have HI1 := hide (HIQ.out.below HW1.out)
                have HBC1 := hide (HBC.out.below HW1.out HBC.out.lt)
                have f0 := cell_below HW1.out F0.out
                have f1 := cell_below HW1.out R1.out
                have c0_ := HBC1.out.cell 0
                have c1_ := HBC1.out.cell 1
                have c2_ := HBC1.out.cell 2
                have c3_ := HBC1.out.cell 3
                simp at c0_ c1_ c2_ c3_
                obtain ⟨cur, hcur, hcl⟩ := HI1.out.row
                obtain ⟨y0, y1, y2, y3⟩ := hcl.cel HC0.out
                rw [← hcur.cell] at y0 y1 y2 y3
                have z0 := hcur.frozen (h * 4)
                have z1 := hcur.frozen (h * 4 + 1)
                have z2 := hcur.frozen (h * 4 + 2)
                have z3 := hcur.frozen (h * 4 + 3)
                clear hcur hcl
                go_wp2_with fail
                (refine wp_region_prefix 9 (by kernel_rfl) (by kernel_rfl) ?_; simp only [List.take_succ_cons, List.take_zero, List.drop_succ_cons, List.drop_zero]; (repeat (go_big_quiet_step (fail))); refine wpQuiet_nil ?_)
                go_wp2_with fail
                go_roundw
                case rel =>
                  have hp := (HI1.out.below ((Below.refl _ _).drew)).put HB.out HR.out HH.out HC.out
                  have hcode := HI.out.inv.code HB.out HR.out (by rw [HH.out, Int.toNat_natCast, List.getD, HC0.out, ← HC.out]; exact HCC.out)
                  rw [HH.out, Int.toNat_natCast, ← HC.out] at hcode
                  refine ⟨own'.set h c, true, k + 1, rfl, by simp, by omega, ?_, (fun h => by cases h), fun _ => ?_⟩
                  · exact hp
                  · cases hm : mo' with
                    | true => have := HS1.out hm; omega
                    | false => rw [(HS0.out hm).1] at hcode ⊢; exact hcode
                case measure => simp [intOf]; omega
            · obtain rfl : k = X.G.rules.length := by omega
              have hd : decide ((X.G.rules.length : Int) < X.G.rules.length) = false := by simp
              have hd2 : decide (X.G.rules.length < X.G.rules.length) = false := by simp
              go_wp2_with fail
              go_roundw
              case rel => exact ⟨own', mo', rfl, HI.out, fun hm => by rw [(HS0.out hm).1]; exact (HS0.out hm).2⟩
              case measure =>
                rw [HI.out.code, HI0.out.code]
                cases hm : mo' with
                | true => have := HS1.out hm; simp; omega
                | false => rw [(HS0.out hm).1]; simp
end Go.Proofs.YtnifpeamgoapmaaDoor
