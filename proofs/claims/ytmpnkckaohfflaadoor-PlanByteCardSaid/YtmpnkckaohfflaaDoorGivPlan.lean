/- The program's Check, Text and Parse, together: for the printed laws. -/
import Derived.Test.YtmpnkckaohfflaaDoorText
import Derived.Test.YtmpnkckaohfflaaDoorParse
