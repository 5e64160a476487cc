/- Walk: FindSkew. -/
import Derived.Test.YtdimlpcbbkokiaaW8
namespace Go.Proofs.Ytdimlpcbbkokiaa
open Go.RowKit Go.Shelf
set_option linter.unusedVariables false
attribute [local go_sem] Oper.semAt_some

structure FsR (w : World) (V1 V2 V3 : Value) (f : Int → Int) (B5 : Nat) (pre : List Int) (W : World) : Prop where
  bl : Below w.heap.size w W
  k1 : Blk W w.heap.size 24 #[V1, V2, V3]
  k5 : Blk W B5 3 #[.int .i64 (fsL f pre).1]
  k6 : Blk W (B5 + 1) 3 #[.int .i64 (fsL f pre).2]

end Go.Proofs.Ytdimlpcbbkokiaa
