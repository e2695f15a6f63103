/- Ranges: what each function on ranges returns. -/
import Derived.Test.YtkkhbnhddhbgeaaR3
