/-
  PROVED HERE: nothing of its own: lines and the mixed regions' rule together.
  CONDITIONS: none.
-/
import Derived.Test.YtjpdcppdoonmdaaGLine
import Derived.Test.YtjpdcppdoonmdaaVz
