/- The walk through all keys: what it comes to. No condition. -/
import Derived.Test.YtjcggcefmpaieaaDoorEach
