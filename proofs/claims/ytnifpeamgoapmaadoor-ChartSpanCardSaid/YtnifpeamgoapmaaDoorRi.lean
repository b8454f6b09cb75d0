/- The reference: improve, whatever the rule. -/
import Derived.Test.YtnifpeamgoapmaaDoorRf
import Derived.Test.YtnifpeamgoapmaaDoorRh
set_option linter.unusedVariables false
set_option linter.unusedSimpArgs false
namespace Go.Proofs.YtnifpeamgoapmaaDoor
open Go Go.RowKit

theorem improve_any (X : SpanC) (own : List Cel) (k : Nat) (r : NRule) (RA AA FA CA O : Option Addr) (rc ac fc cc oc : Nat) (w : World) (B : Bds X) (hr : X.G.rules[k]? = some r) (hA : ImpArgs w X own RA AA CA O) :
    Calls Tryd.prog 42 #[GramA X.G RA rc, LatA X.L AA ac FA fc, ChartA X.C.cN X.C.cS CA X.C.cells.length cc, .slice O own.length oc, I X.fr, I X.to, I (k : Int)] w fun e w' => e = .returned (CelA (X.improve own k r)) ∧ Below w.heap.size w w' := by
  have hrk := B.rules r (List.mem_of_getElem? hr)
  have h0 := hrk.k0
  have h1 := hrk.k1
  have hc : r.k = 1 ∨ r.k = 2 ∨ r.k = 3 ∨ r.k = 4 := by omega
  rcases hc with h | h | h | h
  · exact imp1 X own k r RA AA FA CA O rc ac fc cc oc w B hr h hA
  · exact imp2 X own k r RA AA FA CA O rc ac fc cc oc w B hr h hA
  · exact imp3 X own k r RA AA FA CA O rc ac fc cc oc w B hr h hA
  · exact imp4 X own k r RA AA FA CA O rc ac fc cc oc w B hr h hA
end Go.Proofs.YtnifpeamgoapmaaDoor
