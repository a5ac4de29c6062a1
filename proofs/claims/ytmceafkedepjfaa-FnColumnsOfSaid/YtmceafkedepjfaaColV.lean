/- What the law on columns leans on. -/
import Derived.Test.YtmceafkedepjfaaColL
import Derived.Test.YtmceafkedepjfaaColT
import Derived.Test.YtmceafkedepjfaaEvalM
import Derived.Test.YtmceafkedepjfaaInts
