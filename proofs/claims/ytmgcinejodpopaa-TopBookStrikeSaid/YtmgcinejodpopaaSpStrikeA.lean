/- The specifications of the strike, under another name. -/
import Derived.Test.YtmgcinejodpopaaSpStrike
