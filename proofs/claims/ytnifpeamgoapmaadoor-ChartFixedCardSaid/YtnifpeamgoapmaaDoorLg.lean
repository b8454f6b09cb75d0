/- 'emendatelaw40.ChartFixed' RETURNS true FOR EVERY GRAMMAR AND EVERY LATTICE: EVERY SPAN OF Build's CHART IS WHAT THE REFERENCE'S Span MAKES OF IT. No condition. -/
import Derived.Test.YtnifpeamgoapmaaDoorKb
import Derived.Test.YtnifpeamgoapmaaDoorLf
import Derived.Test.YtnifpeamgoapmaaDoorCards
import Derived.Test.YtnifpeamgoapmaaDoorTie
import Derived.Lib.SmallJoins
set_option linter.unusedVariables false
set_option linter.unusedSimpArgs false
namespace Go.Proofs.YtnifpeamgoapmaaDoor
open Go Go.ChangeShapes Go.WideShapes Go.RowKit Go.Joins

set_option maxRecDepth 100000 in
theorem chartFixed_contract (H : Type) (enc : TypeId × Value → H) (W : World) (base : Nat) (args : Array Value) (ds gs : List (DataW H)) (before : List MemPlace)
    (hval : ∀ (j : Nat) t v, Tryd.f5.params[j]? = some t → args[j]? = some v → Value.okWide Tryd.prog W .any base t v)
    (hW : DataW.Whole enc Tryd.prog Tryd.f5.params.toList Rows.chartFixedSpec.vars false W args.toList ds gs before) (hL : laidMetH Tryd.prog Rows.chartFixedRow.laid W) :
    Calls Tryd.prog 5 args W fun e W' => ∃ v, e = .returned v ∧ Rows.chartFixedSpec.post enc Tryd.prog Tryd.f5 false true false false W args v W' := by
  have hW' := hW
  obtain ⟨p, q, hA0, hV, rfl, hfz, hnd⟩ := hW
  have hA : DataW.TrodAll enc Tryd.prog W 0 (fun _ => true) true Tryd.f5.params.toList args.toList ds p := hA0
  have hplt := hA.lt
  rw [Tryd.params5] at hA hval
  obtain ⟨v0, vs0, d0, ds0, p0, q0, hargs, rfl, rfl, h0, r0⟩ := trodAll_cons hA
  obtain ⟨v1, vs1, d1, ds1, p1, q1, rfl, rfl, rfl, h1, r1⟩ := trodAll_cons r0
  obtain ⟨rfl, rfl, rfl⟩ := trodAll_nil r1
  obtain rfl : args = #[v0, v1] := by cases args; simp_all
  obtain ⟨rfl, rfl⟩ := trodVars_none hV
  have hn := none_of_laid (show laidMet Tryd.prog [("emendate/chart.none", Rows.laid_emendate_chart_none)] W from hL)
  obtain ⟨a0, a1, a2, a3, y0, y1, y2, y3, n, rfl, rfl, rfl, t0, t1, t2, t3⟩ := open_agg4 Tryd.underlying24 (by kernel_rfl) (by kernel_rfl) (hval 0 24 v0 rfl rfl) h0
  obtain ⟨b0, b1, b2, z0, z1, z2, n', rfl, rfl, rfl, u0, u1, u2⟩ := open_agg3 Tryd.underlying28 (by kernel_rfl) (by kernel_rfl) (hval 1 28 v1 rfl rfl) h1
  obtain ⟨nT, e0, _⟩ := DataW.trod_int Tryd.underlying3 t0
  obtain ⟨nN, e1, _⟩ := DataW.trod_int Tryd.underlying3 t1
  obtain ⟨nS, e2, _⟩ := DataW.trod_int Tryd.underlying3 t2
  obtain ⟨RA, rn, rc, rules, e3, hrn, hR⟩ := read22 t3
  obtain ⟨st, f0, _⟩ := DataW.trod_int Tryd.underlying3 u0
  obtain ⟨AA, an, ac, arcs, f1, han, hAr⟩ := read25 u1
  obtain ⟨FA, fn, fc, fin, f2, hfn, hF⟩ := read26 u2
  simp only [List.cons.injEq, and_true] at e0 e1 e2 e3 f0 f1 f2
  subst e0 e1 e2 e3 f0 f1 f2 hrn han hfn
  refine (lawFixed_any ⟨nT, nN, nS, rules⟩ ⟨st, arcs, fin⟩ RA AA FA rc ac fc W ⟨hR, hAr, hF, hn⟩).mono fun e W' ⟨he, hb⟩ => ?_
  subst he
  have hargs2 := trodAll_cons_mk (Below.trod (P := Tryd.prog) (t := 24) laidOut (by kernel_rfl) (of_decide_eq_true (by kernel_rfl)) h0 hb (fun x hx => hplt x (by simp only [List.mem_append] at hx ⊢; exact .inl hx))) (trodAll_cons_mk (Below.trod (P := Tryd.prog) (t := 28) laidOut (by kernel_rfl) (of_decide_eq_true (by kernel_rfl)) h1 hb (fun x hx => hplt x (by simp only [List.mem_append] at hx ⊢; exact .inr (.inl hx)))) trodAll_mk0)
  exact ⟨_, rfl, _, _, _, [], _, [], hW', trodAll_cons_mk (shut_bool Tryd.underlying4 true) trodAll_mk0, hargs2, rfl, Below.frame hb _, fun h => by cases h⟩

/-- A WORLD FOR THE WITNESS: the settled one, the variable none laid. -/
noncomputable def chartFixed_laidWorld (os : Os) : World :=
  { World.holding Tryd.prog os ⟨#[], #[], []⟩ with heap := (World.holding Tryd.prog os ⟨#[], #[], []⟩).heap.modify 0 fun
      | .cells _ t frozen => .cells #[.int .i64 1099511627776, .int .i64 0, .int .i64 (-1), .int .i64 0] t frozen
      | o => o }
def chartFixed_args : Array Value := #[.agg #[.int .i64 0, .int .i64 0, .int .i64 0, .slice none 0 0], .agg #[.int .i64 0, .slice none 0 0, .slice none 0 0]]
theorem chartFixed_laid_met (os : Os) : laidMet Tryd.prog Rows.chartFixedRow.laid ((chartFixed_laidWorld os).forCall (fun _ _ => 0) ⟨#[], chartFixed_args, []⟩).memory :=
  laidMet_of_run' 8 (by kernel_rfl) (by kernel_rfl)
theorem chartFixed_reads (os : Os) {H : Type} (enc : TypeId × Value → H) : ∃ places, DataW.whole enc Tryd.prog ((chartFixed_laidWorld os).forCall (fun _ _ => 0) ⟨#[], chartFixed_args, []⟩).memory Tryd.f5.params.toList Rows.chartFixedSpec.vars false chartFixed_args.toList 8 =
    some ([.agg [.lit (.int .i64 0), .lit (.int .i64 0), .lit (.int .i64 0), .nil], .agg [.lit (.int .i64 0), .nil, .nil]], [], places) :=
  ⟨[], by kernel_rfl⟩
set_option maxRecDepth 100000 in
theorem chartFixed_lifted (os : Os) (started : os.Started) (H : Type) (enc : TypeId × Value → H) (F : Stop.Interp) :
    ReturnsInHanded {} Tryd.checked os 5 .any ((OpenSpec.ofChange Rows.chartFixedSpec).preRow enc Tryd.prog Tryd.f5 Rows.chartFixedRow.domain false Rows.chartFixedRow.laid) (((OpenSpec.ofChange Rows.chartFixedSpec).at F).post enc Tryd.prog Tryd.f5 false true false false) := by
  obtain ⟨places, hx⟩ := chartFixed_reads os enc
  refine returnsInHanded_of_row (C := Tryd.checked) (s := OpenSpec.ofChange Rows.chartFixedSpec) own_ started (by kernel_rfl) Tryd.func5
    (witness_row_at (enc := enc) (C := Tryd.checked) false (chartFixed_laidWorld os) chartFixed_args rfl (by kernel_rfl) (by kernel_rfl) (by kernel_rfl)
      (OpenSpec.preRow_of_cond 8 hx (by kernel_rfl) (fun k hk => by cases hk) (by kernel_rfl) (chartFixed_laid_met os))) ?_
  intro W base args ds gs before hval hW _ _ _ hL _ _
  exact chartFixed_contract H enc W base args ds gs before hval hW hL
theorem chartFixed_said : Rows.ChartFixedSaid :=
  OpenClaim.holds_of_cond 5 Tryd.f5 rfl rfl rfl rfl rfl rfl rfl ⟨rfl, rfl, rfl, rfl, rfl⟩ rfl rfl rfl rfl rfl (by kernel_rfl) Tryd.func5 (by kernel_rfl)
    (of_decide_eq_true (by kernel_rfl)) (by unfold Func.isWrapper; first | (rw [if_pos (by decide +kernel)]; kernel_rfl) | (rw [if_neg (by decide +kernel)]; exact ⟨rfl, rfl⟩))
    (fun os started H enc _ F => by rw [OpenClaim.pre_eq_preRow]; exact chartFixed_lifted os started H enc F)
/-- No parameter wants a stand-in; the program's own looks are off. -/
theorem chartFixed_plain (f : FuncId) (fn : Func) (hf : Tryd.pinned.checked.prog.funcNamed "emendate/emendatelaw40.ChartFixed" = some f) (hfn : Tryd.pinned.checked.prog.funcs[f]? = some fn) :
    false = Tryd.pinned.checked.prog.looks [] ∧ ∀ (j : Nat) t, fn.params[j]? = some t → Tryd.pinned.checked.prog.wantsStandIn t = false := by
  obtain rfl : f = 5 := Option.some.inj ((show Tryd.prog.funcNamed "emendate/emendatelaw40.ChartFixed" = some 5 by kernel_rfl).symm.trans hf) |>.symm
  obtain rfl : fn = Tryd.f5 := (Option.some.inj (Tryd.func5.symm.trans hfn)).symm
  refine ⟨by kernel_rfl, fun j t ht => ?_⟩
  rw [Tryd.params5] at ht
  have := Array.mem_of_getElem? ht
  simp at this
  rcases this with rfl | rfl
  · exact (show Tryd.prog.wantsStandIn 24 = false by kernel_rfl)
  · exact (show Tryd.prog.wantsStandIn 28 = false by kernel_rfl)
/-- THE CARD -/
theorem chartFixed_card : Rows.ChartFixedCardSaid :=
  Claim7.holds_tied_plain_at .later [] _ _ _ _ chartFixed_said (fun _ h => by cases h) (by kernel_rfl) (fun _ h => by cases h) chartFixed_row_tie rfl ⟨rfl, rfl⟩ (by kernel_rfl) rfl chartFixed_plain (by kernel_rfl)
#print axioms chartFixed_card
end Go.Proofs.YtnifpeamgoapmaaDoor
