/- All printed walks. -/
import Derived.Test.YtfihinodhhhllaaGreatIbF0
import Derived.Test.YtfihinodhhhllaaGreatIbF1
import Derived.Test.YtfihinodhhhllaaGreatIbF2
import Derived.Test.YtfihinodhhhllaaGreatIbF3
import Derived.Test.YtfihinodhhhllaaGreatIbF4
import Derived.Test.YtfihinodhhhllaaGreatIbF5
import Derived.Test.YtfihinodhhhllaaGreatIbF6
import Derived.Test.YtfihinodhhhllaaGreatIbF7
import Derived.Test.YtfihinodhhhllaaGreatIbF8
import Derived.Test.YtfihinodhhhllaaGreatIbF9
import Derived.Test.YtfihinodhhhllaaGreatIbF10
import Derived.Test.YtfihinodhhhllaaGreatIbF11
set_option linter.unusedVariables false
set_option linter.unusedSimpArgs false
