/- awake answers true. -/
import Derived.Test.YtfcekcnghomiiaaLexT
import Derived.Test.YtfcekcnghomiiaaX10
namespace Go.Proofs.Ytfcekcnghomiiaa
open Go.RowKit Go.Proofs.YtfcekcnghomiiaaW.PrintWords Go.Proofs.YtfcekcnghomiiaaW.PrintLast Go.Proofs.YtfcekcnghomiiaaW.PrintMore
namespace X
open Lx

theorem awake_f : Ev (fun k => sortilegelaw05_awake.f k) true := ⟨0, fun _ _ => rfl⟩

end X
end Go.Proofs.Ytfcekcnghomiiaa
