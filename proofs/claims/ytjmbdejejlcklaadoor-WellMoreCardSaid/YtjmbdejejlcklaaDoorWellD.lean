-- own work: an evaluator of the program's code, and what it answers
import Derived.Test.YtjmbdejejlcklaaDoorW11
import Derived.Test.YtjmbdejejlcklaaDoorW12A

