/- Ranges: what each function on ranges returns. -/
import Derived.Test.YtbhenfegklgkoaaR2
import Derived.Test.YtbhenfegklgkoaaR3
