/- SHA-256: the tables are roots of primes, as the document reckons them. -/

import Derived.Test.YtfappeeggccicaaDoorSyMs2

set_option linter.unusedVariables false

set_option linter.unusedSimpArgs false

namespace Go.Sy

open Go

end Go.Sy
