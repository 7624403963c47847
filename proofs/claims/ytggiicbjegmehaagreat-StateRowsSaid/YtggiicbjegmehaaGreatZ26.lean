/- A part of the proof. -/
import Derived.Test.YtggiicbjegmehaaGreatZ25
