/- Rules and bodies as texts: the writers beside the plain facts. -/
import Derived.Test.YtmhjabjiojfgnaaDoorRTxtP
import Derived.Test.YtmhjabjiojfgnaaDoorBld
