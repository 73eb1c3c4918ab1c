/- All printed walks. -/
import Derived.Test.YtfihinodhhhllaaGreatIaF0
import Derived.Test.YtfihinodhhhllaaGreatIaF1
import Derived.Test.YtfihinodhhhllaaGreatIaF2
import Derived.Test.YtfihinodhhhllaaGreatIaF3
import Derived.Test.YtfihinodhhhllaaGreatIaF4
import Derived.Test.YtfihinodhhhllaaGreatIaF5
import Derived.Test.YtfihinodhhhllaaGreatIaF6
import Derived.Test.YtfihinodhhhllaaGreatIaF7
import Derived.Test.YtfihinodhhhllaaGreatIaF8
import Derived.Test.YtfihinodhhhllaaGreatIaF9
import Derived.Test.YtfihinodhhhllaaGreatIaF10
import Derived.Test.YtfihinodhhhllaaGreatIaF11
set_option linter.unusedVariables false
set_option linter.unusedSimpArgs false
