/- The law FnWordElements, as a plain statement. -/
import Derived.Test.YtfdhmmnffahhgaaP83
namespace Go.Proofs.Ytfdhmmnffahhgaa
open Go Go.Proofs.Ytfdhmmnffahhgaa.Am
theorem pure_FnWordElements (x0 x1 : List Int) (f0 : Fits (.sl (.int .u8)) x0) (f1 : Fits (.sl (.int .u8)) x1) : laws_FnWordElements x0 x1 = some true := p_FnWordElements x0 x1 f0 f1
end Go.Proofs.Ytfdhmmnffahhgaa
