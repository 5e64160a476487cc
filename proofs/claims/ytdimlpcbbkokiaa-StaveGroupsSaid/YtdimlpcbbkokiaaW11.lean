/- Walks: a line of ink; the examples of the chapter. -/
import Derived.Test.YtdimlpcbbkokiaaW9
import Derived.Test.YtdimlpcbbkokiaaW10
import Derived.Deep.RegionHeld3
namespace Go.Proofs.Ytdimlpcbbkokiaa
open Go.RowKit
set_option linter.unusedVariables false

def gA : Int → Int := movQ 129 1 (fun _ => 1) (-1) 1
theorem awA1 : movE 129 1 129 (fun _ => 1) (-1) 1 = 0 := by decide +kernel
theorem awA2 : (3 : Int) = 1 + grt 129 (-1) := by decide +kernel
theorem awA3 : findS 129 3 387 gA = -1 := by decide +kernel
theorem awA4 : chk 129 3 387 gA = 0 := by decide +kernel
theorem awB1 : movE 64 1 64 (fun _ => 1) 1 1 = 0 := by decide +kernel
theorem awB2 : (1 : Int) = 1 + grt 64 1 := by decide +kernel
theorem awB3 : allN 64 (fun i => decide (movQ 64 1 (fun _ => 1) 1 1 i = 1)) = true := by decide +kernel
theorem awL1 : levelS 4 (lit [10, 20, 200, 210]) = 110 := by decide +kernel
theorem awL2 : levelS 3 (lit [200, 0, 100]) = 50 := by decide +kernel
theorem awS1 : sidesB 4 1 (4 : Nat) = true := by decide
theorem awS2 : sidesB 3 1 (3 : Nat) = true := by decide

theorem cells_a : #[Value.int .u8 10, .int .u8 20, .int .u8 200, .int .u8 210] = u8s 4 (lit [10, 20, 200, 210]) := u8s_lit (l := [10, 20, 200, 210])
theorem cells_b : #[Value.int .u8 200, .int .u8 0, .int .u8 100] = u8s 3 (lit [200, 0, 100]) := u8s_lit (l := [200, 0, 100])
theorem isB_1 : IsB (fun _ => 1) := fun _ => by simp
theorem Blk.to {w : World} {g : Nat} {t : TypeId} {cs cs' : Array Value} (h : Blk w g t cs) (e : cs = cs') : Blk w g t cs' := e ▸ h

end Go.Proofs.Ytdimlpcbbkokiaa
