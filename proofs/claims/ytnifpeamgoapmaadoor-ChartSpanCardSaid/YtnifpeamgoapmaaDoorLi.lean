/- 'emendatelaw40.ChartSpan' RETURNS true FOR EVERY GRAMMAR, EVERY LATTICE AND EVERY SPAN: Span's ANSWER HANGS ON THE SPANS INSIDE ALONE. No condition. -/
import Derived.Test.YtnifpeamgoapmaaDoorKb
import Derived.Test.YtnifpeamgoapmaaDoorLh
import Derived.Test.YtnifpeamgoapmaaDoorKc
import Derived.Test.YtnifpeamgoapmaaDoorCards
import Derived.Test.YtnifpeamgoapmaaDoorTie
import Derived.Lib.SmallJoins
set_option linter.unusedVariables false
set_option linter.unusedSimpArgs false
namespace Go.Proofs.YtnifpeamgoapmaaDoor
open Go Go.ChangeShapes Go.WideShapes Go.RowKit Go.Joins

set_option maxRecDepth 100000 in
theorem chartSpan_contract (H : Type) (enc : TypeId × Value → H) (W : World) (base : Nat) (args : Array Value) (ds gs : List (DataW H)) (before : List MemPlace)
    (hval : ∀ (j : Nat) t v, Tryd.f6.params[j]? = some t → args[j]? = some v → Value.okWide Tryd.prog W .any base t v)
    (hW : DataW.Whole enc Tryd.prog Tryd.f6.params.toList Rows.chartSpanSpec.vars false W args.toList ds gs before) (hL : laidMetH Tryd.prog Rows.chartSpanRow.laid W) :
    Calls Tryd.prog 6 args W fun e W' => ∃ v, e = .returned v ∧ Rows.chartSpanSpec.post enc Tryd.prog Tryd.f6 false true false false W args v W' := by
  have hW' := hW
  obtain ⟨p, q, hA0, hV, rfl, hfz, hnd⟩ := hW
  have hA : DataW.TrodAll enc Tryd.prog W 0 (fun _ => true) true Tryd.f6.params.toList args.toList ds p := hA0
  have hplt := hA.lt
  rw [Tryd.params6] at hA hval
  obtain ⟨v0, vs0, d0, ds0, p0, q0, hargs, rfl, rfl, h0, r0⟩ := trodAll_cons hA
  obtain ⟨v1, vs1, d1, ds1, p1, q1, rfl, rfl, rfl, h1, r1⟩ := trodAll_cons r0
  obtain ⟨v2, vs2, d2, ds2, p2, q2, rfl, rfl, rfl, h2, r2⟩ := trodAll_cons r1
  obtain ⟨rfl, rfl, rfl⟩ := trodAll_nil r2
  obtain rfl : args = #[v0, v1, v2] := by cases args; simp_all
  obtain ⟨rfl, rfl⟩ := trodVars_none hV
  have hn := none_of_laid (show laidMet Tryd.prog [("emendate/chart.none", Rows.laid_emendate_chart_none)] W from hL)
  obtain ⟨a0, a1, a2, a3, y0, y1, y2, y3, n, rfl, rfl, rfl, t0, t1, t2, t3⟩ := open_agg4 Tryd.underlying24 (by kernel_rfl) (by kernel_rfl) (hval 0 24 v0 rfl rfl) h0
  obtain ⟨b0, b1, b2, z0, z1, z2, n', rfl, rfl, rfl, u0, u1, u2⟩ := open_agg3 Tryd.underlying28 (by kernel_rfl) (by kernel_rfl) (hval 1 28 v1 rfl rfl) h1
  obtain ⟨bx, by_, rfl, hbx, hby⟩ := open56 (hval 2 56 v2 rfl rfl) h2
  obtain ⟨nT, e0, _⟩ := DataW.trod_int Tryd.underlying3 t0
  obtain ⟨nN, e1, _⟩ := DataW.trod_int Tryd.underlying3 t1
  obtain ⟨nS, e2, _⟩ := DataW.trod_int Tryd.underlying3 t2
  obtain ⟨RA, rn, rc, rules, e3, hrn, hR⟩ := read22 t3
  obtain ⟨st, f0, _⟩ := DataW.trod_int Tryd.underlying3 u0
  obtain ⟨AA, an, ac, arcs, f1, han, hAr⟩ := read25 u1
  obtain ⟨FA, fn, fc, fin, f2, hfn, hF⟩ := read26 u2
  simp only [List.cons.injEq, and_true] at e0 e1 e2 e3 f0 f1 f2
  subst e0 e1 e2 e3 f0 f1 f2 hrn han hfn
  refine (lawSpan_any ⟨nT, nN, nS, rules⟩ ⟨st, arcs, fin⟩ bx by_ RA AA FA rc ac fc W ⟨hR, hAr, hF, hn⟩ hbx hby).mono fun e W' ⟨he, hb⟩ => ?_
  subst he
  have hargs2 := trodAll_cons_mk (Below.trod (P := Tryd.prog) (t := 24) laidOut (by kernel_rfl) (of_decide_eq_true (by kernel_rfl)) h0 hb (fun x hx => hplt x (by simp only [List.mem_append] at hx ⊢; exact .inl hx))) (trodAll_cons_mk (Below.trod (P := Tryd.prog) (t := 28) laidOut (by kernel_rfl) (of_decide_eq_true (by kernel_rfl)) h1 hb (fun x hx => hplt x (by simp only [List.mem_append] at hx ⊢; exact .inr (.inl hx)))) (trodAll_cons_mk (Below.trod (P := Tryd.prog) (t := 56) laidOut (by kernel_rfl) (of_decide_eq_true (by kernel_rfl)) h2 hb (fun x hx => hplt x (by simp only [List.mem_append] at hx ⊢; exact .inr (.inr (.inl hx))))) trodAll_mk0))
  exact ⟨_, rfl, _, _, _, [], _, [], hW', trodAll_cons_mk (shut_bool Tryd.underlying4 true) trodAll_mk0, hargs2, rfl, Below.frame hb _, fun h => by cases h⟩

/-- A WORLD FOR THE WITNESS: the settled one, the variable none laid. -/
noncomputable def chartSpan_laidWorld (os : Os) : World :=
  { World.holding Tryd.prog os ⟨#[], #[], []⟩ with heap := (World.holding Tryd.prog os ⟨#[], #[], []⟩).heap.modify 0 fun
      | .cells _ t frozen => .cells #[.int .i64 1099511627776, .int .i64 0, .int .i64 (-1), .int .i64 0] t frozen
      | o => o }
def chartSpan_args : Array Value := #[.agg #[.int .i64 0, .int .i64 0, .int .i64 0, .slice none 0 0], .agg #[.int .i64 0, .slice none 0 0, .slice none 0 0], .agg #[.int .u8 0, .int .u8 0]]
theorem chartSpan_laid_met (os : Os) : laidMet Tryd.prog Rows.chartSpanRow.laid ((chartSpan_laidWorld os).forCall (fun _ _ => 0) ⟨#[], chartSpan_args, []⟩).memory :=
  laidMet_of_run' 8 (by kernel_rfl) (by kernel_rfl)
theorem chartSpan_reads (os : Os) {H : Type} (enc : TypeId × Value → H) : ∃ places, DataW.whole enc Tryd.prog ((chartSpan_laidWorld os).forCall (fun _ _ => 0) ⟨#[], chartSpan_args, []⟩).memory Tryd.f6.params.toList Rows.chartSpanSpec.vars false chartSpan_args.toList 8 =
    some ([.agg [.lit (.int .i64 0), .lit (.int .i64 0), .lit (.int .i64 0), .nil], .agg [.lit (.int .i64 0), .nil, .nil], .agg [.lit (.int .u8 0), .lit (.int .u8 0)]], [], places) :=
  ⟨[], by kernel_rfl⟩
set_option maxRecDepth 100000 in
theorem chartSpan_lifted (os : Os) (started : os.Started) (H : Type) (enc : TypeId × Value → H) (F : Stop.Interp) :
    ReturnsInHanded {} Tryd.checked os 6 .any ((OpenSpec.ofChange Rows.chartSpanSpec).preRow enc Tryd.prog Tryd.f6 Rows.chartSpanRow.domain false Rows.chartSpanRow.laid) (((OpenSpec.ofChange Rows.chartSpanSpec).at F).post enc Tryd.prog Tryd.f6 false true false false) := by
  obtain ⟨places, hx⟩ := chartSpan_reads os enc
  refine returnsInHanded_of_row (C := Tryd.checked) (s := OpenSpec.ofChange Rows.chartSpanSpec) own_ started (by kernel_rfl) Tryd.func6
    (witness_row_at (enc := enc) (C := Tryd.checked) false (chartSpan_laidWorld os) chartSpan_args rfl (by kernel_rfl) (by kernel_rfl) (by kernel_rfl)
      (OpenSpec.preRow_of_cond 8 hx (by kernel_rfl) (fun k hk => by cases hk) (by kernel_rfl) (chartSpan_laid_met os))) ?_
  intro W base args ds gs before hval hW _ _ _ hL _ _
  exact chartSpan_contract H enc W base args ds gs before hval hW hL
theorem chartSpan_said : Rows.ChartSpanSaid :=
  OpenClaim.holds_of_cond 6 Tryd.f6 rfl rfl rfl rfl rfl rfl rfl ⟨rfl, rfl, rfl, rfl, rfl⟩ rfl rfl rfl rfl rfl (by kernel_rfl) Tryd.func6 (by kernel_rfl)
    (of_decide_eq_true (by kernel_rfl)) (by unfold Func.isWrapper; first | (rw [if_pos (by decide +kernel)]; kernel_rfl) | (rw [if_neg (by decide +kernel)]; exact ⟨rfl, rfl⟩))
    (fun os started H enc _ F => by rw [OpenClaim.pre_eq_preRow]; exact chartSpan_lifted os started H enc F)
/-- No parameter wants a stand-in; the program's own looks are off. -/
theorem chartSpan_plain (f : FuncId) (fn : Func) (hf : Tryd.pinned.checked.prog.funcNamed "emendate/emendatelaw40.ChartSpan" = some f) (hfn : Tryd.pinned.checked.prog.funcs[f]? = some fn) :
    false = Tryd.pinned.checked.prog.looks [] ∧ ∀ (j : Nat) t, fn.params[j]? = some t → Tryd.pinned.checked.prog.wantsStandIn t = false := by
  obtain rfl : f = 6 := Option.some.inj ((show Tryd.prog.funcNamed "emendate/emendatelaw40.ChartSpan" = some 6 by kernel_rfl).symm.trans hf) |>.symm
  obtain rfl : fn = Tryd.f6 := (Option.some.inj (Tryd.func6.symm.trans hfn)).symm
  refine ⟨by kernel_rfl, fun j t ht => ?_⟩
  rw [Tryd.params6] at ht
  have := Array.mem_of_getElem? ht
  simp at this
  rcases this with rfl | rfl | rfl
  · exact (show Tryd.prog.wantsStandIn 24 = false by kernel_rfl)
  · exact (show Tryd.prog.wantsStandIn 28 = false by kernel_rfl)
  · exact (show Tryd.prog.wantsStandIn 56 = false by kernel_rfl)
/-- THE CARD -/
theorem chartSpan_card : Rows.ChartSpanCardSaid :=
  Claim7.holds_tied_plain_at .later [] _ _ _ _ chartSpan_said (fun _ h => by cases h) (by kernel_rfl) (fun _ h => by cases h) chartSpan_row_tie rfl ⟨rfl, rfl⟩ (by kernel_rfl) rfl chartSpan_plain (by kernel_rfl)
#print axioms chartSpan_card
end Go.Proofs.YtnifpeamgoapmaaDoor
