/- tail.Chebyshev and tail.Cantelli. -/
import Derived.Test.YtignljfeihlanaaTailB1
import Derived.Test.YtignljfeihlanaaTailB2
