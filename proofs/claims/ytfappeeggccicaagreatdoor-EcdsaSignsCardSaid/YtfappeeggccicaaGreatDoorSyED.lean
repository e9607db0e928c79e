/- Plain law: whatever key, nonce and digest: a signature is its key's, tells the key, and through its bytes it is the same again. -/
import Derived.Test.YtfappeeggccicaaGreatDoorSyEC
import Derived.Test.YtfappeeggccicaaGreatDoorSyVE3
set_option linter.unusedVariables false
set_option linter.unusedSimpArgs false
namespace Go.Sy
open Go
end Go.Sy
