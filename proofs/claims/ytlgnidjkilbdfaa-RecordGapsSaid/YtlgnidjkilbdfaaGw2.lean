/- Gw and Open together. -/
import Derived.Test.YtlgnidjkilbdfaaGw
import Derived.Test.YtlgnidjkilbdfaaOpen
