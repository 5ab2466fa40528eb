/- The fixed calls that every law makes, evaluated. -/
import Derived.Test.YtkpdofiflhjahaaDoorVb
namespace Go.Proofs.YtkpdofiflhjahaaDoor.Ps
set_option maxRecDepth 1000000
set_option maxHeartbeats 0
open Go Go.RowKit
theorem awake_all (k : Nat) : Ak (k + 60) 13 [] [] = some (R (bV true)) := by kernel_rfl
theorem awake_run : A progV libV shp 1000000 13 [] [] = some (R (bV true)) := awake_all 999940
end Go.Proofs.YtkpdofiflhjahaaDoor.Ps
