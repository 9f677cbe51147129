/- 'eachKey': the visits come one behind the other, in order, until one says no. No condition. -/
import Derived.Test.YtjcggcefmpaieaaDoorEach2
