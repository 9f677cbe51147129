/- The walk through all keys ('eachKey'): it calls a visitor for one key behind the other, until one says no. No condition. -/
import Derived.Test.YtjcggcefmpaieaaDoorVis
