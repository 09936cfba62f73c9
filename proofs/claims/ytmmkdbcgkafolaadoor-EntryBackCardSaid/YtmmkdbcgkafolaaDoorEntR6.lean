
/-
  staitheref12: within, Check.
-/
import Derived.Test.YtmmkdbcgkafolaaDoorEntR1
import Derived.Test.YtmmkdbcgkafolaaDoorEntR2
import Derived.Test.YtmmkdbcgkafolaaDoorEntR3
import Derived.Test.YtmmkdbcgkafolaaDoorEntR4
import Derived.Test.YtmmkdbcgkafolaaDoorEntR5
import Derived.Test.YtmmkdbcgkafolaaDoorEntP
import Derived.Deep.DeepCutAuto
import Derived.Deep.CutBlock
import Derived.Deep.Light
namespace Go.Proofs.YtmmkdbcgkafolaaDoor
open Go.RowKit
set_option linter.unusedVariables false
set_option linter.unusedSimpArgs false
set_option maxRecDepth 100000

theorem rcheck_any (e : Ev) (w : World) : Calls Tryd.prog 12 #[evV e] w fun r w' => r = .returned (.int .i64 (chk e)) ∧ Below w.heap.size w w' := by
  by_cases h : e.kind < 1 ∨ 13 < e.kind
  · exact rcheck_bad e w h
  · have hk : e.kind = 1 ∨ e.kind = 2 ∨ e.kind = 3 ∨ e.kind = 4 ∨ e.kind = 5 ∨ e.kind = 6 ∨ e.kind = 7 ∨ e.kind = 8 ∨ e.kind = 9 ∨ e.kind = 10 ∨ e.kind = 11 ∨ e.kind = 12 ∨ e.kind = 13 := by omega
    rcases hk with h | h | h | h | h | h | h | h | h | h | h | h | h
    · exact rcheck_1 e w h
    · exact rcheck_2 e w h
    · exact rcheck_3 e w h
    · exact rcheck_4 e w h
    · exact rcheck_5 e w h
    · exact rcheck_6 e w h
    · exact rcheck_7 e w h
    · exact rcheck_8 e w h
    · exact rcheck_9 e w h
    · exact rcheck_10 e w h
    · exact rcheck_11 e w h
    · exact rcheck_12 e w h
    · exact rcheck_13 e w h

end Go.Proofs.YtmmkdbcgkafolaaDoor

