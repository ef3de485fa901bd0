/-
What the law FactsDoes comes to, beside what the round's laws share.
-/
import Derived.Test.YtnjfpnoamgipjaaDoorKiXO
import Derived.Test.YtnjfpnoamgipjaaDoorKnG

