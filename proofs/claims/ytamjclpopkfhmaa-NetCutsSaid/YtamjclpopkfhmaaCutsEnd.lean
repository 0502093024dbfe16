/-
NetCuts, for the row.
-/
import Derived.Test.YtamjclpopkfhmaaCuts
import Derived.Test.YtamjclpopkfhmaaOpen
set_option linter.unusedVariables false
namespace Go.Proofs.Ytamjclpopkfhmaa
open Go.RowKit Go.NetKit
theorem cuts_row (w : World) (x : OpsArg) (hx : OpsAt w.heap.size w x.A x.ops) (a : Int) (ha : (Lit.int .u8 a).wf = true) (b : Int) (hb : (Lit.int .u8 b).wf = true) (s : ByteArray) (_ : s.size ≤ maxLen) :
    Calls Try.prog 7 #[x.value, .int .u8 a, .int .u8 b, .string s] w fun e w' => e = .returned (.bool true) ∧ Below w.heap.size w w' :=
  cuts_walk w x.A x.cap x.ops hx a b (u8_fits ha) (u8_fits hb) s
end Go.Proofs.Ytamjclpopkfhmaa
