/- All that the statements on growths stand on. Conditions: none. -/
import Derived.Test.YtjekdeikoebmgaaArgs
import Derived.Test.YtjekdeikoebmgaaTrO
import Derived.Test.YtjekdeikoebmgaaRefH

