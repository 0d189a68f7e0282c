/- Ord2 and Open together. -/
import Derived.Test.YtlgnidjkilbdfaaOrd2
import Derived.Test.YtlgnidjkilbdfaaOpen
