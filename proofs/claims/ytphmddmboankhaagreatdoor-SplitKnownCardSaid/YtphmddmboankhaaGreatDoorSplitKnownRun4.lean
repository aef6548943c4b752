/- SplitKnown: calls on its road whose answers are kept, each run by the kernel over those ahead of it (part 4). Written by wip/gen/memo2lean.py. -/
import Derived.Test.YtphmddmboankhaaGreatDoorSplitKnownRun3
import Derived.Test.YtphmddmboankhaaGreatDoorAmCfgA
import Derived.Test.YtphmddmboankhaaGreatDoorAmMemo
import Derived.KernelRfl
namespace Go.Am.splitKnown
set_option maxRecDepth 100000
open Go.Am
def r420 : List AV × AV := ([.agg [.bool false, .ro [.int .u32 358] 1], .agg [.ro [.int .u32 5] 1]], .tuple [.agg [.bool false, .ro [.int .u32 358] 1, .ro [.int .u32 5] 1], .bool true])
theorem r420_ok : rowOk cfg0 M1 3000 28 r420 = true := by kernel_rfl
def r421 : List AV × AV := ([.agg [.bool false, .ro [.int .u32 127] 1], .agg [.ro [.int .u32 5000] 1]], .tuple [.agg [.bool false, .ro [.int .u32 127] 1, .ro [.int .u32 5000] 1], .bool true])
theorem r421_ok : rowOk cfg0 M1 3000 28 r421 = true := by kernel_rfl
def r422 : List AV × AV := ([.agg [.bool true, .ro [.int .u32 381] 1], .agg [.ro [.int .u32 1250] 1]], .tuple [.agg [.bool true, .ro [.int .u32 381] 1, .ro [.int .u32 1250] 1], .bool true])
theorem r422_ok : rowOk cfg0 M1 3000 28 r422 = true := by kernel_rfl
def r423 : List AV × AV := ([.agg [.bool true, .ro [.int .u32 1746250] 1], .agg [.ro [.int .u32 6250000] 1]], .tuple [.agg [.bool true, .ro [.int .u32 1397] 1, .ro [.int .u32 5000] 1], .bool true])
theorem r423_ok : rowOk cfg0 M1 3000 28 r423 = true := by kernel_rfl
def r424 : List AV × AV := ([.agg [.bool true, .ro [.int .u32 1397] 1], .agg [.ro [.int .u32 5000] 1]], .tuple [.agg [.bool true, .ro [.int .u32 1397] 1, .ro [.int .u32 5000] 1], .bool true])
theorem r424_ok : rowOk cfg0 M1 3000 28 r424 = true := by kernel_rfl
def r425 : List AV × AV := ([.agg [.bool false, .ro [.int .u32 71] 1], .agg [.ro [.int .u32 1] 1]], .tuple [.agg [.bool false, .ro [.int .u32 71] 1, .ro [.int .u32 1] 1], .bool true])
theorem r425_ok : rowOk cfg0 M1 3000 28 r425 = true := by kernel_rfl
def r426 : List AV × AV := ([.agg [.bool true, .ro [.int .u32 71] 1], .agg [.ro [.int .u32 1] 1]], .tuple [.agg [.bool true, .ro [.int .u32 71] 1, .ro [.int .u32 1] 1], .bool true])
theorem r426_ok : rowOk cfg0 M1 3000 28 r426 = true := by kernel_rfl
def r427 : List AV × AV := ([.agg [.bool false, .ro [.int .u32 3] 1], .agg [.ro [.int .u32 5] 1]], .tuple [.agg [.bool false, .ro [.int .u32 3] 1, .ro [.int .u32 5] 1], .bool true])
theorem r427_ok : rowOk cfg0 M1 3000 28 r427 = true := by kernel_rfl
def r428 : List AV × AV := ([.agg [.bool false, .ro [.int .u32 30] 1], .agg [.ro [.int .u32 25] 1]], .tuple [.agg [.bool false, .ro [.int .u32 6] 1, .ro [.int .u32 5] 1], .bool true])
theorem r428_ok : rowOk cfg0 M1 3000 28 r428 = true := by kernel_rfl
def r429 : List AV × AV := ([.agg [.bool false, .ro [.int .u32 6] 1], .agg [.ro [.int .u32 5] 1]], .tuple [.agg [.bool false, .ro [.int .u32 6] 1, .ro [.int .u32 5] 1], .bool true])
theorem r429_ok : rowOk cfg0 M1 3000 28 r429 = true := by kernel_rfl
def r430 : List AV × AV := ([.agg [.bool true, .ro [.int .u32 1] 1], .agg [.ro [.int .u32 1] 1]], .tuple [.agg [.bool true, .ro [.int .u32 1] 1, .ro [.int .u32 1] 1], .bool true])
theorem r430_ok : rowOk cfg0 M1 3000 28 r430 = true := by kernel_rfl
def r431 : List AV × AV := ([.agg [.bool false, .ro [.int .u32 1] 1], .agg [.ro [.int .u32 5] 1]], .tuple [.agg [.bool false, .ro [.int .u32 1] 1, .ro [.int .u32 5] 1], .bool true])
theorem r431_ok : rowOk cfg0 M1 3000 28 r431 = true := by kernel_rfl
def r432 : List AV × AV := ([.agg [.bool false, .ro [.int .u32 72] 1], .agg [.ro [.int .u32 1] 1]], .tuple [.agg [.bool false, .ro [.int .u32 72] 1, .ro [.int .u32 1] 1], .bool true])
theorem r432_ok : rowOk cfg0 M1 3000 28 r432 = true := by kernel_rfl
def r433 : List AV × AV := ([.agg [.bool false, .ro [.int .u32 5000] 1], .agg [.ro [.int .u32 127] 1]], .tuple [.agg [.bool false, .ro [.int .u32 5000] 1, .ro [.int .u32 127] 1], .bool true])
theorem r433_ok : rowOk cfg0 M1 3000 28 r433 = true := by kernel_rfl
def r434 : List AV × AV := ([.agg [.bool false, .ro [.int .u32 1905000] 1], .agg [.ro [.int .u32 158750] 1]], .tuple [.agg [.bool false, .ro [.int .u32 12] 1, .ro [.int .u32 1] 1], .bool true])
theorem r434_ok : rowOk cfg0 M1 3000 28 r434 = true := by kernel_rfl
def r435 : List AV × AV := ([.agg [.bool false, .ro [.int .u32 12] 1], .agg [.ro [.int .u32 1] 1]], .tuple [.agg [.bool false, .ro [.int .u32 12] 1, .ro [.int .u32 1] 1], .bool true])
theorem r435_ok : rowOk cfg0 M1 3000 28 r435 = true := by kernel_rfl
def r436 : List AV × AV := ([.agg [.bool false, .ro [.int .u32 72] 1], .agg [.ro [.int .u32 12] 1]], .tuple [.agg [.bool false, .ro [.int .u32 6] 1, .ro [.int .u32 1] 1], .bool true])
theorem r436_ok : rowOk cfg0 M1 3000 28 r436 = true := by kernel_rfl
def r437 : List AV × AV := ([.agg [.bool false, .ro [.int .u32 6] 1], .agg [.ro [.int .u32 1] 1]], .tuple [.agg [.bool false, .ro [.int .u32 6] 1, .ro [.int .u32 1] 1], .bool true])
theorem r437_ok : rowOk cfg0 M1 3000 28 r437 = true := by kernel_rfl
def r438 : List AV × AV := ([.agg [.bool true, .ro [.int .u32 72] 1], .agg [.ro [.int .u32 1] 1]], .tuple [.agg [.bool true, .ro [.int .u32 72] 1, .ro [.int .u32 1] 1], .bool true])
theorem r438_ok : rowOk cfg0 M1 3000 28 r438 = true := by kernel_rfl
def r439 : List AV × AV := ([.agg [.bool false, .nilsl, .ro [.int .u32 1] 1], .agg [.bool false, .e0, .ro [.int .u32 1] 1]], .agg [.bool false, .nilsl, .ro [.int .u32 1] 1])
theorem r439_ok : rowOk cfg0 M1 3000 30 r439 = true := by kernel_rfl
def r440 : List AV × AV := ([.str [45, 51, 53, 56]], .tuple [.agg [.bool true, .ro [.int .u32 358] 1], .bool true])
theorem r440_ok : rowOk cfg0 M1 3000 43 r440 = true := by kernel_rfl
def r441 : List AV × AV := ([.agg [.bool true, .ro [.int .u32 358] 1], .agg [.ro [.int .u32 5] 1]], .tuple [.agg [.bool true, .ro [.int .u32 358] 1, .ro [.int .u32 5] 1], .bool true])
theorem r441_ok : rowOk cfg0 M1 3000 28 r441 = true := by kernel_rfl
def r442 : List AV × AV := ([.agg [.bool true, .ro [.int .u32 3580] 1], .agg [.ro [.int .u32 5] 1]], .tuple [.agg [.bool true, .ro [.int .u32 716] 1, .ro [.int .u32 1] 1], .bool true])
theorem r442_ok : rowOk cfg0 M1 3000 28 r442 = true := by kernel_rfl
def r443 : List AV × AV := ([.agg [.bool true, .ro [.int .u32 716] 1], .agg [.ro [.int .u32 1] 1]], .tuple [.agg [.bool true, .ro [.int .u32 716] 1, .ro [.int .u32 1] 1], .bool true])
theorem r443_ok : rowOk cfg0 M1 3000 28 r443 = true := by kernel_rfl
def r444 : List AV × AV := ([.agg [.bool false, .ro [.int .u32 716] 1], .agg [.ro [.int .u32 1] 1]], .tuple [.agg [.bool false, .ro [.int .u32 716] 1, .ro [.int .u32 1] 1], .bool true])
theorem r444_ok : rowOk cfg0 M1 3000 28 r444 = true := by kernel_rfl
def r445 : List AV × AV := ([.agg [.bool false, .ro [.int .u32 716] 1], .agg [.ro [.int .u32 10] 1]], .tuple [.agg [.bool false, .ro [.int .u32 358] 1, .ro [.int .u32 5] 1], .bool true])
theorem r445_ok : rowOk cfg0 M1 3000 28 r445 = true := by kernel_rfl
def r446 : List AV × AV := ([.agg [.bool false, .ro [.int .u32 358] 1], .agg [.ro [.int .u32 60] 1]], .tuple [.agg [.bool false, .ro [.int .u32 179] 1, .ro [.int .u32 30] 1], .bool true])
theorem r446_ok : rowOk cfg0 M1 3000 28 r446 = true := by kernel_rfl
def r447 : List AV × AV := ([.agg [.bool false, .ro [.int .u32 179] 1], .agg [.ro [.int .u32 30] 1]], .tuple [.agg [.bool false, .ro [.int .u32 179] 1, .ro [.int .u32 30] 1], .bool true])
theorem r447_ok : rowOk cfg0 M1 3000 28 r447 = true := by kernel_rfl
def r448 : List AV × AV := ([.agg [.bool false, .ro [.int .u32 5] 1], .agg [.ro [.int .u32 1] 1]], .tuple [.agg [.bool false, .ro [.int .u32 5] 1, .ro [.int .u32 1] 1], .bool true])
theorem r448_ok : rowOk cfg0 M1 3000 28 r448 = true := by kernel_rfl
def r449 : List AV × AV := ([.agg [.bool true, .ro [.int .u32 60] 1], .agg [.ro [.int .u32 1] 1]], .tuple [.agg [.bool true, .ro [.int .u32 60] 1, .ro [.int .u32 1] 1], .bool true])
theorem r449_ok : rowOk cfg0 M1 3000 28 r449 = true := by kernel_rfl
def r450 : List AV × AV := ([.agg [.bool false, .ro [.int .u32 58] 1], .agg [.ro [.int .u32 5] 1]], .tuple [.agg [.bool false, .ro [.int .u32 58] 1, .ro [.int .u32 5] 1], .bool true])
theorem r450_ok : rowOk cfg0 M1 3000 28 r450 = true := by kernel_rfl
def r451 : List AV × AV := ([.agg [.bool true, .ro [.int .u32 1143] 1], .agg [.ro [.int .u32 1250] 1]], .tuple [.agg [.bool true, .ro [.int .u32 1143] 1, .ro [.int .u32 1250] 1], .bool true])
theorem r451_ok : rowOk cfg0 M1 3000 28 r451 = true := by kernel_rfl
def r452 : List AV × AV := ([.agg [.bool true, .ro [.int .u32 952500] 1], .agg [.ro [.int .u32 1562500] 1]], .tuple [.agg [.bool true, .ro [.int .u32 381] 1, .ro [.int .u32 625] 1], .bool true])
theorem r452_ok : rowOk cfg0 M1 3000 28 r452 = true := by kernel_rfl
def r453 : List AV × AV := ([.agg [.bool true, .ro [.int .u32 381] 1], .agg [.ro [.int .u32 625] 1]], .tuple [.agg [.bool true, .ro [.int .u32 381] 1, .ro [.int .u32 625] 1], .bool true])
theorem r453_ok : rowOk cfg0 M1 3000 28 r453 = true := by kernel_rfl
def r454 : List AV × AV := ([.agg [.bool false, .ro [.int .u32 100] 1], .agg [.ro [.int .u32 1] 1]], .tuple [.agg [.bool false, .ro [.int .u32 100] 1, .ro [.int .u32 1] 1], .bool true])
theorem r454_ok : rowOk cfg0 M1 3000 28 r454 = true := by kernel_rfl
def r455 : List AV × AV := ([.agg [.bool false, .ro [.int .u32 7200] 1], .agg [.ro [.int .u32 1] 1]], .tuple [.agg [.bool false, .ro [.int .u32 7200] 1, .ro [.int .u32 1] 1], .bool true])
theorem r455_ok : rowOk cfg0 M1 3000 28 r455 = true := by kernel_rfl
def r456 : List AV × AV := ([.agg [.bool true, .ro [.int .u32 7200] 1], .agg [.ro [.int .u32 1] 1]], .tuple [.agg [.bool true, .ro [.int .u32 7200] 1, .ro [.int .u32 1] 1], .bool true])
theorem r456_ok : rowOk cfg0 M1 3000 28 r456 = true := by kernel_rfl
def r457 : List AV × AV := ([.agg [.bool false, .ro [.int .u32 7200] 1], .agg [.ro [.int .u32 100] 1]], .tuple [.agg [.bool false, .ro [.int .u32 72] 1, .ro [.int .u32 1] 1], .bool true])
theorem r457_ok : rowOk cfg0 M1 3000 28 r457 = true := by kernel_rfl
def r458 : List AV × AV := ([.agg [.bool false, .ro [.int .u32 5715000] 1], .agg [.ro [.int .u32 158750] 1]], .tuple [.agg [.bool false, .ro [.int .u32 36] 1, .ro [.int .u32 1] 1], .bool true])
theorem r458_ok : rowOk cfg0 M1 3000 28 r458 = true := by kernel_rfl
def r459 : List AV × AV := ([.agg [.bool false, .ro [.int .u32 36] 1], .agg [.ro [.int .u32 1] 1]], .tuple [.agg [.bool false, .ro [.int .u32 36] 1, .ro [.int .u32 1] 1], .bool true])
theorem r459_ok : rowOk cfg0 M1 3000 28 r459 = true := by kernel_rfl
def r460 : List AV × AV := ([.agg [.bool false, .ro [.int .u32 1] 1], .agg [.ro [.int .u32 36] 1]], .tuple [.agg [.bool false, .ro [.int .u32 1] 1, .ro [.int .u32 36] 1], .bool true])
theorem r460_ok : rowOk cfg0 M1 3000 28 r460 = true := by kernel_rfl
def r461 : List AV × AV := ([.agg [.bool false, .ro [.int .u32 72] 1], .agg [.ro [.int .u32 36] 1]], .tuple [.agg [.bool false, .ro [.int .u32 2] 1, .ro [.int .u32 1] 1], .bool true])
theorem r461_ok : rowOk cfg0 M1 3000 28 r461 = true := by kernel_rfl
def r462 : List AV × AV := ([.agg [.bool false, .ro [.int .u32 2] 1], .agg [.ro [.int .u32 1] 1]], .tuple [.agg [.bool false, .ro [.int .u32 2] 1, .ro [.int .u32 1] 1], .bool true])
theorem r462_ok : rowOk cfg0 M1 3000 28 r462 = true := by kernel_rfl
def r463 : List AV × AV := ([.agg [.bool false, .ro [.int .u32 1] 1], .agg [.ro [.int .u32 3] 1]], .tuple [.agg [.bool false, .ro [.int .u32 1] 1, .ro [.int .u32 3] 1], .bool true])
theorem r463_ok : rowOk cfg0 M1 3000 28 r463 = true := by kernel_rfl
def r464 : List AV × AV := ([.agg [.bool false, .ro [.int .u32 100] 1], .agg [.ro [.int .u32 3] 1]], .tuple [.agg [.bool false, .ro [.int .u32 100] 1, .ro [.int .u32 3] 1], .bool true])
theorem r464_ok : rowOk cfg0 M1 3000 28 r464 = true := by kernel_rfl
def r465 : List AV × AV := ([.agg [.bool false, .ro [.int .u32 33] 1], .agg [.ro [.int .u32 1] 1]], .tuple [.agg [.bool false, .ro [.int .u32 33] 1, .ro [.int .u32 1] 1], .bool true])
theorem r465_ok : rowOk cfg0 M1 3000 28 r465 = true := by kernel_rfl
def r466 : List AV × AV := ([.agg [.bool true, .ro [.int .u32 33] 1], .agg [.ro [.int .u32 1] 1]], .tuple [.agg [.bool true, .ro [.int .u32 33] 1, .ro [.int .u32 1] 1], .bool true])
theorem r466_ok : rowOk cfg0 M1 3000 28 r466 = true := by kernel_rfl
def r467 : List AV × AV := ([.agg [.bool false, .ro [.int .u32 6] 1], .agg [.ro [.int .u32 9] 1]], .tuple [.agg [.bool false, .ro [.int .u32 2] 1, .ro [.int .u32 3] 1], .bool true])
theorem r467_ok : rowOk cfg0 M1 3000 28 r467 = true := by kernel_rfl
def r468 : List AV × AV := ([.agg [.bool false, .ro [.int .u32 2] 1], .agg [.ro [.int .u32 3] 1]], .tuple [.agg [.bool false, .ro [.int .u32 2] 1, .ro [.int .u32 3] 1], .bool true])
theorem r468_ok : rowOk cfg0 M1 3000 28 r468 = true := by kernel_rfl
def r469 : List AV × AV := ([.agg [.bool true, .ro [.int .u32 1] 1], .agg [.ro [.int .u32 3] 1]], .tuple [.agg [.bool true, .ro [.int .u32 1] 1, .ro [.int .u32 3] 1], .bool true])
theorem r469_ok : rowOk cfg0 M1 3000 28 r469 = true := by kernel_rfl
def r470 : List AV × AV := ([.agg [.bool false, .ro [.int .u32 33] 1], .agg [.ro [.int .u32 100] 1]], .tuple [.agg [.bool false, .ro [.int .u32 33] 1, .ro [.int .u32 100] 1], .bool true])
theorem r470_ok : rowOk cfg0 M1 3000 28 r470 = true := by kernel_rfl
def r471 : List AV × AV := ([.agg [.bool true, .ro [.int .u32 127] 1], .agg [.ro [.int .u32 5000] 1]], .tuple [.agg [.bool true, .ro [.int .u32 127] 1, .ro [.int .u32 5000] 1], .bool true])
theorem r471_ok : rowOk cfg0 M1 3000 28 r471 = true := by kernel_rfl
def r472 : List AV × AV := ([.agg [.bool false, .ro [.int .u32 1746250] 1], .agg [.ro [.int .u32 6250000] 1]], .tuple [.agg [.bool false, .ro [.int .u32 1397] 1, .ro [.int .u32 5000] 1], .bool true])
theorem r472_ok : rowOk cfg0 M1 3000 28 r472 = true := by kernel_rfl
def r473 : List AV × AV := ([.agg [.bool false, .ro [.int .u32 1397] 1], .agg [.ro [.int .u32 5000] 1]], .tuple [.agg [.bool false, .ro [.int .u32 1397] 1, .ro [.int .u32 5000] 1], .bool true])
theorem r473_ok : rowOk cfg0 M1 3000 28 r473 = true := by kernel_rfl
def r474 : List AV × AV := ([.agg [.bool false, .ro [.int .u32 20] 1], .agg [.ro [.int .u32 1] 1]], .tuple [.agg [.bool false, .ro [.int .u32 20] 1, .ro [.int .u32 1] 1], .bool true])
theorem r474_ok : rowOk cfg0 M1 3000 28 r474 = true := by kernel_rfl
def r475 : List AV × AV := ([.agg [.bool true, .ro [.int .u32 20] 1], .agg [.ro [.int .u32 1] 1]], .tuple [.agg [.bool true, .ro [.int .u32 20] 1, .ro [.int .u32 1] 1], .bool true])
theorem r475_ok : rowOk cfg0 M1 3000 28 r475 = true := by kernel_rfl
def r476 : List AV × AV := ([.str [49, 48, 48, 48]], .tuple [.agg [.ro [.int .u32 1000] 1], .bool true])
theorem r476_ok : rowOk cfg0 M1 3000 45 r476 = true := by kernel_rfl
def r477 : List AV × AV := ([.agg [.bool false, .ro [.int .u32 1000] 1], .agg [.ro [.int .u32 1] 1]], .tuple [.agg [.bool false, .ro [.int .u32 1000] 1, .ro [.int .u32 1] 1], .bool true])
theorem r477_ok : rowOk cfg0 M1 3000 28 r477 = true := by kernel_rfl
def r478 : List AV × AV := ([.agg [.bool true, .ro [.int .u32 869] 1], .agg [.ro [.int .u32 1250] 1]], .tuple [.agg [.bool true, .ro [.int .u32 869] 1, .ro [.int .u32 1250] 1], .bool true])
theorem r478_ok : rowOk cfg0 M1 3000 28 r478 = true := by kernel_rfl
def r479 : List AV × AV := ([.agg [.bool true, .ro [.int .u32 1000] 1], .agg [.ro [.int .u32 1] 1]], .tuple [.agg [.bool true, .ro [.int .u32 1000] 1, .ro [.int .u32 1] 1], .bool true])
theorem r479_ok : rowOk cfg0 M1 3000 28 r479 = true := by kernel_rfl
def r480 : List AV × AV := ([.agg [.bool false, .ro [.int .u32 1250] 1], .agg [.ro [.int .u32 381] 1]], .tuple [.agg [.bool false, .ro [.int .u32 1250] 1, .ro [.int .u32 381] 1], .bool true])
theorem r480_ok : rowOk cfg0 M1 3000 28 r480 = true := by kernel_rfl
def r481 : List AV × AV := ([.agg [.bool false, .ro [.int .u32 381000] 1], .agg [.ro [.int .u32 1250] 1]], .tuple [.agg [.bool false, .ro [.int .u32 1524] 1, .ro [.int .u32 5] 1], .bool true])
theorem r481_ok : rowOk cfg0 M1 3000 28 r481 = true := by kernel_rfl
def r482 : List AV × AV := ([.agg [.bool false, .ro [.int .u32 1524] 1], .agg [.ro [.int .u32 5] 1]], .tuple [.agg [.bool false, .ro [.int .u32 1524] 1, .ro [.int .u32 5] 1], .bool true])
theorem r482_ok : rowOk cfg0 M1 3000 28 r482 = true := by kernel_rfl
def r483 : List AV × AV := ([.agg [.bool false, .ro [.int .u32 304] 1], .agg [.ro [.int .u32 1] 1]], .tuple [.agg [.bool false, .ro [.int .u32 304] 1, .ro [.int .u32 1] 1], .bool true])
theorem r483_ok : rowOk cfg0 M1 3000 28 r483 = true := by kernel_rfl
def r484 : List AV × AV := ([.agg [.bool false, .ro [.int .u32 380000] 1], .agg [.ro [.int .u32 381] 1]], .tuple [.agg [.bool false, .ro [.int .u32 380000] 1, .ro [.int .u32 381] 1], .bool true])
theorem r484_ok : rowOk cfg0 M1 3000 28 r484 = true := by kernel_rfl
def r485 : List AV × AV := ([.agg [.bool true, .ro [.int .u32 380000] 1], .agg [.ro [.int .u32 381] 1]], .tuple [.agg [.bool true, .ro [.int .u32 380000] 1, .ro [.int .u32 381] 1], .bool true])
theorem r485_ok : rowOk cfg0 M1 3000 28 r485 = true := by kernel_rfl
def r486 : List AV × AV := ([.agg [.bool false, .ro [.int .u32 1000] 1], .agg [.ro [.int .u32 381] 1]], .tuple [.agg [.bool false, .ro [.int .u32 1000] 1, .ro [.int .u32 381] 1], .bool true])
theorem r486_ok : rowOk cfg0 M1 3000 28 r486 = true := by kernel_rfl
def r487 : List AV × AV := ([.str [45, 49]], .tuple [.agg [.bool true, .ro [.int .u32 1] 1], .bool true])
theorem r487_ok : rowOk cfg0 M1 3000 43 r487 = true := by kernel_rfl
def r488 : List AV × AV := ([.agg [.bool true, .ro [.int .u32 1] 1], .agg [.ro [.int .u32 10] 1]], .tuple [.agg [.bool true, .ro [.int .u32 1] 1, .ro [.int .u32 10] 1], .bool true])
theorem r488_ok : rowOk cfg0 M1 3000 28 r488 = true := by kernel_rfl
def r489 : List AV × AV := ([.agg [.bool false, .ro [.int .u32 9] 1], .agg [.ro [.int .u32 10] 1]], .tuple [.agg [.bool false, .ro [.int .u32 9] 1, .ro [.int .u32 10] 1], .bool true])
theorem r489_ok : rowOk cfg0 M1 3000 28 r489 = true := by kernel_rfl
def r490 : List AV × AV := ([.agg [.bool false, .ro [.int .u32 180] 1], .agg [.ro [.int .u32 100] 1]], .tuple [.agg [.bool false, .ro [.int .u32 9] 1, .ro [.int .u32 5] 1], .bool true])
theorem r490_ok : rowOk cfg0 M1 3000 28 r490 = true := by kernel_rfl
def r491 : List AV × AV := ([.agg [.bool false, .ro [.int .u32 9] 1], .agg [.ro [.int .u32 5] 1]], .tuple [.agg [.bool false, .ro [.int .u32 9] 1, .ro [.int .u32 5] 1], .bool true])
theorem r491_ok : rowOk cfg0 M1 3000 28 r491 = true := by kernel_rfl
def r492 : List AV × AV := ([.agg [.bool false, .ro [.int .u32 4] 1], .agg [.ro [.int .u32 5] 1]], .tuple [.agg [.bool false, .ro [.int .u32 4] 1, .ro [.int .u32 5] 1], .bool true])
theorem r492_ok : rowOk cfg0 M1 3000 28 r492 = true := by kernel_rfl
def t1 : Tr (List (List AV × AV)) := (.nd (.nd (.nd (.nd .lf 18 [r371] .lf) 19 [r372] (.nd .lf 28 [r377, r380, r381, r382, r385, r386, r388, r389, r391, r392, r394, r397, r399, r401, r420, r421, r422, r423, r424, r425, r426, r427, r428, r429, r430, r431, r432, r433, r434, r435, r436, r437, r438, r441, r442, r443, r444, r445, r446, r447, r448, r449, r450, r451, r452, r453, r454, r455, r456, r457, r458, r459, r460, r461, r462, r463, r464, r465, r466, r467, r468, r469, r470, r471, r472, r473, r474, r475, r477, r478, r479, r480, r481, r482, r483, r484, r485, r486, r488, r489, r490, r491, r492] .lf)) 30 [r439] (.nd (.nd .lf 43 [r379, r440, r487] .lf) 45 [r384, r396, r400, r476] .lf)) 168 [r412, r416, r417] (.nd (.nd (.nd .lf 175 [r404, r405, r406, r407, r408, r409, r411, r415, r419] .lf) 203 [r373, r374, r375, r376, r378, r383, r387, r390, r393, r395, r398, r402] .lf) 207 [r403] (.nd (.nd .lf 216 [r418] .lf) 246 [r410, r413, r414] .lf)))
theorem t1_ok : MemoOk cfg0 (tabM t1) := tabM_ok (t := t1) ⟨⟨⟨⟨trivial, (lcons (rowOk_did M1_ok r371_ok) lnil), trivial⟩, (lcons (rowOk_did M1_ok r372_ok) lnil), ⟨trivial, (lcons (rowOk_did M1_ok r377_ok) (lcons (rowOk_did M1_ok r380_ok) (lcons (rowOk_did M1_ok r381_ok) (lcons (rowOk_did M1_ok r382_ok) (lcons (rowOk_did M1_ok r385_ok) (lcons (rowOk_did M1_ok r386_ok) (lcons (rowOk_did M1_ok r388_ok) (lcons (rowOk_did M1_ok r389_ok) (lcons (rowOk_did M1_ok r391_ok) (lcons (rowOk_did M1_ok r392_ok) (lcons (rowOk_did M1_ok r394_ok) (lcons (rowOk_did M1_ok r397_ok) (lcons (rowOk_did M1_ok r399_ok) (lcons (rowOk_did M1_ok r401_ok) (lcons (rowOk_did M1_ok r420_ok) (lcons (rowOk_did M1_ok r421_ok) (lcons (rowOk_did M1_ok r422_ok) (lcons (rowOk_did M1_ok r423_ok) (lcons (rowOk_did M1_ok r424_ok) (lcons (rowOk_did M1_ok r425_ok) (lcons (rowOk_did M1_ok r426_ok) (lcons (rowOk_did M1_ok r427_ok) (lcons (rowOk_did M1_ok r428_ok) (lcons (rowOk_did M1_ok r429_ok) (lcons (rowOk_did M1_ok r430_ok) (lcons (rowOk_did M1_ok r431_ok) (lcons (rowOk_did M1_ok r432_ok) (lcons (rowOk_did M1_ok r433_ok) (lcons (rowOk_did M1_ok r434_ok) (lcons (rowOk_did M1_ok r435_ok) (lcons (rowOk_did M1_ok r436_ok) (lcons (rowOk_did M1_ok r437_ok) (lcons (rowOk_did M1_ok r438_ok) (lcons (rowOk_did M1_ok r441_ok) (lcons (rowOk_did M1_ok r442_ok) (lcons (rowOk_did M1_ok r443_ok) (lcons (rowOk_did M1_ok r444_ok) (lcons (rowOk_did M1_ok r445_ok) (lcons (rowOk_did M1_ok r446_ok) (lcons (rowOk_did M1_ok r447_ok) (lcons (rowOk_did M1_ok r448_ok) (lcons (rowOk_did M1_ok r449_ok) (lcons (rowOk_did M1_ok r450_ok) (lcons (rowOk_did M1_ok r451_ok) (lcons (rowOk_did M1_ok r452_ok) (lcons (rowOk_did M1_ok r453_ok) (lcons (rowOk_did M1_ok r454_ok) (lcons (rowOk_did M1_ok r455_ok) (lcons (rowOk_did M1_ok r456_ok) (lcons (rowOk_did M1_ok r457_ok) (lcons (rowOk_did M1_ok r458_ok) (lcons (rowOk_did M1_ok r459_ok) (lcons (rowOk_did M1_ok r460_ok) (lcons (rowOk_did M1_ok r461_ok) (lcons (rowOk_did M1_ok r462_ok) (lcons (rowOk_did M1_ok r463_ok) (lcons (rowOk_did M1_ok r464_ok) (lcons (rowOk_did M1_ok r465_ok) (lcons (rowOk_did M1_ok r466_ok) (lcons (rowOk_did M1_ok r467_ok) (lcons (rowOk_did M1_ok r468_ok) (lcons (rowOk_did M1_ok r469_ok) (lcons (rowOk_did M1_ok r470_ok) (lcons (rowOk_did M1_ok r471_ok) (lcons (rowOk_did M1_ok r472_ok) (lcons (rowOk_did M1_ok r473_ok) (lcons (rowOk_did M1_ok r474_ok) (lcons (rowOk_did M1_ok r475_ok) (lcons (rowOk_did M1_ok r477_ok) (lcons (rowOk_did M1_ok r478_ok) (lcons (rowOk_did M1_ok r479_ok) (lcons (rowOk_did M1_ok r480_ok) (lcons (rowOk_did M1_ok r481_ok) (lcons (rowOk_did M1_ok r482_ok) (lcons (rowOk_did M1_ok r483_ok) (lcons (rowOk_did M1_ok r484_ok) (lcons (rowOk_did M1_ok r485_ok) (lcons (rowOk_did M1_ok r486_ok) (lcons (rowOk_did M1_ok r488_ok) (lcons (rowOk_did M1_ok r489_ok) (lcons (rowOk_did M1_ok r490_ok) (lcons (rowOk_did M1_ok r491_ok) (lcons (rowOk_did M1_ok r492_ok) lnil))))))))))))))))))))))))))))))))))))))))))))))))))))))))))))))))))))))))))))))))))), trivial⟩⟩, (lcons (rowOk_did M1_ok r439_ok) lnil), ⟨⟨trivial, (lcons (rowOk_did M1_ok r379_ok) (lcons (rowOk_did M1_ok r440_ok) (lcons (rowOk_did M1_ok r487_ok) lnil))), trivial⟩, (lcons (rowOk_did M1_ok r384_ok) (lcons (rowOk_did M1_ok r396_ok) (lcons (rowOk_did M1_ok r400_ok) (lcons (rowOk_did M1_ok r476_ok) lnil)))), trivial⟩⟩, (lcons (rowOk_did M1_ok r412_ok) (lcons (rowOk_did M1_ok r416_ok) (lcons (rowOk_did M1_ok r417_ok) lnil))), ⟨⟨⟨trivial, (lcons (rowOk_did M1_ok r404_ok) (lcons (rowOk_did M1_ok r405_ok) (lcons (rowOk_did M1_ok r406_ok) (lcons (rowOk_did M1_ok r407_ok) (lcons (rowOk_did M1_ok r408_ok) (lcons (rowOk_did M1_ok r409_ok) (lcons (rowOk_did M1_ok r411_ok) (lcons (rowOk_did M1_ok r415_ok) (lcons (rowOk_did M1_ok r419_ok) lnil))))))))), trivial⟩, (lcons (rowOk_did M1_ok r373_ok) (lcons (rowOk_did M1_ok r374_ok) (lcons (rowOk_did M1_ok r375_ok) (lcons (rowOk_did M1_ok r376_ok) (lcons (rowOk_did M1_ok r378_ok) (lcons (rowOk_did M1_ok r383_ok) (lcons (rowOk_did M1_ok r387_ok) (lcons (rowOk_did M1_ok r390_ok) (lcons (rowOk_did M1_ok r393_ok) (lcons (rowOk_did M1_ok r395_ok) (lcons (rowOk_did M1_ok r398_ok) (lcons (rowOk_did M1_ok r402_ok) lnil)))))))))))), trivial⟩, (lcons (rowOk_did M1_ok r403_ok) lnil), ⟨⟨trivial, (lcons (rowOk_did M1_ok r418_ok) lnil), trivial⟩, (lcons (rowOk_did M1_ok r410_ok) (lcons (rowOk_did M1_ok r413_ok) (lcons (rowOk_did M1_ok r414_ok) lnil))), trivial⟩⟩⟩
def M2 : Memo := orM (tabM t1) M1
theorem M2_ok : MemoOk cfg0 M2 := orM_ok t1_ok M1_ok
def r493 : List AV × AV := ([.agg [.bool false, .ro [.int .u32 1] 1, .ro [.int .u32 10] 1], .agg [.bool false, .ro [.int .u32 1] 1, .ro [.int .u32 100] 1]], .agg [.bool false, .ro [.int .u32 1] 1, .ro [.int .u32 1000] 1])
theorem r493_ok : rowOk cfg0 M2 3000 32 r493 = true := by kernel_rfl
def r494 : List AV × AV := ([.str [51, 56, 49, 47, 49, 50, 53, 48]], .tuple [.agg [.bool false, .ro [.int .u32 381] 1, .ro [.int .u32 1250] 1], .bool true])
theorem r494_ok : rowOk cfg0 M2 3000 16 r494 = true := by kernel_rfl
def r495 : List AV × AV := ([.agg [.bool false, .ro [.int .u32 1] 1, .ro [.int .u32 1] 1], .int .i64 1], .tuple [.agg [.bool false, .ro [.int .u32 1] 1, .ro [.int .u32 1] 1], .bool true])
theorem r495_ok : rowOk cfg0 M2 3000 84 r495 = true := by kernel_rfl
def r496 : List AV × AV := ([.agg [.bool false, .ro [.int .u32 1] 1, .ro [.int .u32 1] 1], .agg [.bool false, .ro [.int .u32 1] 1, .ro [.int .u32 1] 1]], .agg [.bool false, .ro [.int .u32 1] 1, .ro [.int .u32 1] 1])
theorem r496_ok : rowOk cfg0 M2 3000 32 r496 = true := by kernel_rfl
def r497 : List AV × AV := ([.agg [.bool false, .ro [.int .u32 381] 1, .ro [.int .u32 1250] 1], .agg [.bool false, .ro [.int .u32 1] 1, .ro [.int .u32 1] 1]], .agg [.bool false, .ro [.int .u32 381] 1, .ro [.int .u32 1250] 1])
theorem r497_ok : rowOk cfg0 M2 3000 32 r497 = true := by kernel_rfl
def r498 : List AV × AV := ([.str [49, 47, 49, 50]], .tuple [.agg [.bool false, .ro [.int .u32 1] 1, .ro [.int .u32 12] 1], .bool true])
theorem r498_ok : rowOk cfg0 M2 3000 16 r498 = true := by kernel_rfl
def r499 : List AV × AV := ([.agg [.bool false, .ro [.int .u32 381] 1, .ro [.int .u32 1250] 1], .int .i64 1], .tuple [.agg [.bool false, .ro [.int .u32 381] 1, .ro [.int .u32 1250] 1], .bool true])
theorem r499_ok : rowOk cfg0 M2 3000 84 r499 = true := by kernel_rfl
def r500 : List AV × AV := ([.agg [.bool false, .ro [.int .u32 1] 1, .ro [.int .u32 1] 1], .agg [.bool false, .ro [.int .u32 381] 1, .ro [.int .u32 1250] 1]], .agg [.bool false, .ro [.int .u32 381] 1, .ro [.int .u32 1250] 1])
theorem r500_ok : rowOk cfg0 M2 3000 32 r500 = true := by kernel_rfl
def r501 : List AV × AV := ([.agg [.bool false, .ro [.int .u32 1] 1, .ro [.int .u32 12] 1], .agg [.bool false, .ro [.int .u32 381] 1, .ro [.int .u32 1250] 1]], .agg [.bool false, .ro [.int .u32 127] 1, .ro [.int .u32 5000] 1])
theorem r501_ok : rowOk cfg0 M2 3000 32 r501 = true := by kernel_rfl
def r502 : List AV × AV := ([.str [51]], .tuple [.agg [.bool false, .ro [.int .u32 3] 1, .ro [.int .u32 1] 1], .bool true])
theorem r502_ok : rowOk cfg0 M2 3000 16 r502 = true := by kernel_rfl
def r503 : List AV × AV := ([.agg [.bool false, .ro [.int .u32 3] 1, .ro [.int .u32 1] 1], .agg [.bool false, .ro [.int .u32 381] 1, .ro [.int .u32 1250] 1]], .agg [.bool false, .ro [.int .u32 1143] 1, .ro [.int .u32 1250] 1])
theorem r503_ok : rowOk cfg0 M2 3000 32 r503 = true := by kernel_rfl
def r504 : List AV × AV := ([.str [54, 48]], .tuple [.agg [.bool false, .ro [.int .u32 60] 1, .ro [.int .u32 1] 1], .bool true])
theorem r504_ok : rowOk cfg0 M2 3000 16 r504 = true := by kernel_rfl
def r505 : List AV × AV := ([.agg [.bool false, .ro [.int .u32 60] 1, .ro [.int .u32 1] 1], .agg [.bool false, .ro [.int .u32 1] 1, .ro [.int .u32 1] 1]], .agg [.bool false, .ro [.int .u32 60] 1, .ro [.int .u32 1] 1])
theorem r505_ok : rowOk cfg0 M2 3000 32 r505 = true := by kernel_rfl
def r506 : List AV × AV := ([.str [49]], .tuple [.agg [.bool false, .ro [.int .u32 1] 1, .ro [.int .u32 1] 1], .bool true])
theorem r506_ok : rowOk cfg0 M2 3000 16 r506 = true := by kernel_rfl
def r507 : List AV × AV := ([.str [50, 55, 51, 49, 53, 47, 49, 48, 48]], .tuple [.agg [.bool false, .ro [.int .u32 5463] 1, .ro [.int .u32 20] 1], .bool true])
theorem r507_ok : rowOk cfg0 M2 3000 16 r507 = true := by kernel_rfl
def r508 : List AV × AV := ([.str [53, 47, 57]], .tuple [.agg [.bool false, .ro [.int .u32 5] 1, .ro [.int .u32 9] 1], .bool true])
theorem r508_ok : rowOk cfg0 M2 3000 16 r508 = true := by kernel_rfl
def r509 : List AV × AV := ([.str [52, 53, 57, 54, 55, 47, 49, 56, 48]], .tuple [.agg [.bool false, .ro [.int .u32 45967] 1, .ro [.int .u32 180] 1], .bool true])
theorem r509_ok : rowOk cfg0 M2 3000 16 r509 = true := by kernel_rfl
def r510 : List AV × AV := ([.agg [.bool false, .ro [.int .u32 5] 1, .ro [.int .u32 9] 1], .agg [.bool false, .ro [.int .u32 1] 1, .ro [.int .u32 1] 1]], .agg [.bool false, .ro [.int .u32 5] 1, .ro [.int .u32 9] 1])
theorem r510_ok : rowOk cfg0 M2 3000 32 r510 = true := by kernel_rfl
def r511 : List AV × AV := ([.str [51, 56, 49, 47, 49, 50, 53, 48]], .tuple [.agg [.bool false, .ro [.int .i64 381] 1, .ro [.int .i64 1250] 1], .bool true])
theorem r511_ok : rowOk cfg0 M2 3000 168 r511 = true := by kernel_rfl
def r512 : List AV × AV := ([.agg [.bool false, .ro [.int .i64 1] 1, .ro [.int .i64 1] 1], .agg [.bool false, .ro [.int .i64 381] 1, .ro [.int .i64 1250] 1]], .agg [.bool false, .ro [.int .i64 381] 1, .ro [.int .i64 1250] 1])
theorem r512_ok : rowOk cfg0 M2 3000 175 r512 = true := by kernel_rfl
def r513 : List AV × AV := ([.agg [.bool false, .ro [.int .i64 381] 1, .ro [.int .i64 1250] 1], .agg [.bool false, .ro [.int .i64 1] 1, .ro [.int .i64 1] 1]], .agg [.bool false, .ro [.int .i64 381] 1, .ro [.int .i64 1250] 1])
theorem r513_ok : rowOk cfg0 M2 3000 175 r513 = true := by kernel_rfl
def r514 : List AV × AV := ([.agg [.bool false, .ro [.int .i64 381] 1, .ro [.int .i64 1250] 1], .agg [.bool false, .ro [.int .i64 1] 1, .ro [.int .i64 12] 1]], .agg [.bool false, .ro [.int .i64 127] 1, .ro [.int .i64 5000] 1])
theorem r514_ok : rowOk cfg0 M2 3000 175 r514 = true := by kernel_rfl
def r515 : List AV × AV := ([.agg [.bool false, .ro [.int .i64 381] 1, .ro [.int .i64 1250] 1], .agg [.bool false, .ro [.int .i64 3] 1, .ro [.int .i64 1] 1]], .agg [.bool false, .ro [.int .i64 1143] 1, .ro [.int .i64 1250] 1])
theorem r515_ok : rowOk cfg0 M2 3000 175 r515 = true := by kernel_rfl
def r516 : List AV × AV := ([.str [52, 53, 57, 54, 55, 47, 49, 56, 48]], .tuple [.agg [.bool false, .ro [.int .i64 5967, .int .i64 4] 2, .ro [.int .i64 180] 1], .bool true])
theorem r516_ok : rowOk cfg0 M2 3000 168 r516 = true := by kernel_rfl
def r517 : List AV × AV := ([.str [51, 53, 56, 47, 53]], .tuple [.agg [.bool false, .ro [.int .u32 358] 1, .ro [.int .u32 5] 1], .bool true])
theorem r517_ok : rowOk cfg0 M2 3000 16 r517 = true := by kernel_rfl
def r518 : List AV × AV := ([.agg [.bool false, .ro [.int .u32 127] 1, .ro [.int .u32 5000] 1], .int .i64 1], .tuple [.agg [.bool false, .ro [.int .u32 127] 1, .ro [.int .u32 5000] 1], .bool true])
theorem r518_ok : rowOk cfg0 M2 3000 84 r518 = true := by kernel_rfl
def r519 : List AV × AV := ([.agg [.bool false, .ro [.int .u32 1] 1, .ro [.int .u32 1] 1], .agg [.bool false, .ro [.int .u32 127] 1, .ro [.int .u32 5000] 1]], .agg [.bool false, .ro [.int .u32 127] 1, .ro [.int .u32 5000] 1])
theorem r519_ok : rowOk cfg0 M2 3000 32 r519 = true := by kernel_rfl
def r520 : List AV × AV := ([.agg [.bool false, .ro [.int .u32 127] 1, .ro [.int .u32 5000] 1], .agg [.bool false, .ro [.int .u32 1] 1, .ro [.int .u32 1] 1]], .agg [.bool false, .ro [.int .u32 127] 1, .ro [.int .u32 5000] 1])
theorem r520_ok : rowOk cfg0 M2 3000 32 r520 = true := by kernel_rfl
def r521 : List AV × AV := ([.agg [.bool false, .ro [.int .u32 127] 1, .ro [.int .u32 5000] 1], .agg [.bool true, .ro [.int .u32 381] 1, .ro [.int .u32 1250] 1]], .agg [.bool true, .ro [.int .u32 1397] 1, .ro [.int .u32 5000] 1])
theorem r521_ok : rowOk cfg0 M2 3000 30 r521 = true := by kernel_rfl
def r522 : List AV × AV := ([.int .i64 0], .agg [.bool false, .ro [.int .u32 1] 1, .ro [.int .u32 1] 1])
theorem r522_ok : rowOk cfg0 M2 3000 37 r522 = true := by kernel_rfl
def r523 : List AV × AV := ([.agg [.bool false, .ro [.int .u32 358] 1, .ro [.int .u32 5] 1], .agg [.bool false, .ro [.int .u32 1] 1, .ro [.int .u32 1] 1]], .agg [.bool false, .ro [.int .u32 358] 1, .ro [.int .u32 5] 1])
theorem r523_ok : rowOk cfg0 M2 3000 32 r523 = true := by kernel_rfl
def r524 : List AV × AV := ([.agg [.bool false, .ro [.int .u32 358] 1, .ro [.int .u32 5] 1], .agg [.bool true, .ro [.int .u32 71] 1, .ro [.int .u32 1] 1]], .agg [.bool false, .ro [.int .u32 3] 1, .ro [.int .u32 5] 1])
theorem r524_ok : rowOk cfg0 M2 3000 30 r524 = true := by kernel_rfl
def r525 : List AV × AV := ([.agg [.bool false, .ro [.int .u32 3] 1, .ro [.int .u32 5] 1], .agg [.bool false, .ro [.int .u32 3] 1, .ro [.int .u32 5] 1]], .agg [.bool false, .ro [.int .u32 6] 1, .ro [.int .u32 5] 1])
theorem r525_ok : rowOk cfg0 M2 3000 30 r525 = true := by kernel_rfl
def r526 : List AV × AV := ([.agg [.bool false, .ro [.int .u32 6] 1, .ro [.int .u32 5] 1], .agg [.bool true, .ro [.int .u32 1] 1, .ro [.int .u32 1] 1]], .agg [.bool false, .ro [.int .u32 1] 1, .ro [.int .u32 5] 1])
theorem r526_ok : rowOk cfg0 M2 3000 30 r526 = true := by kernel_rfl
def r527 : List AV × AV := ([.agg [.bool false, .ro [.int .u32 381] 1, .ro [.int .u32 1250] 1], .agg [.bool false, .ro [.int .u32 5000] 1, .ro [.int .u32 127] 1]], .agg [.bool false, .ro [.int .u32 12] 1, .ro [.int .u32 1] 1])
theorem r527_ok : rowOk cfg0 M2 3000 32 r527 = true := by kernel_rfl
def r528 : List AV × AV := ([.agg [.bool false, .ro [.int .u32 72] 1, .ro [.int .u32 1] 1], .agg [.bool false, .ro [.int .u32 1] 1, .ro [.int .u32 12] 1]], .agg [.bool false, .ro [.int .u32 6] 1, .ro [.int .u32 1] 1])
theorem r528_ok : rowOk cfg0 M2 3000 32 r528 = true := by kernel_rfl
def r529 : List AV × AV := ([.agg [.bool false, .ro [.int .u32 6] 1, .ro [.int .u32 1] 1], .agg [.bool false, .ro [.int .u32 12] 1, .ro [.int .u32 1] 1]], .agg [.bool false, .ro [.int .u32 72] 1, .ro [.int .u32 1] 1])
theorem r529_ok : rowOk cfg0 M2 3000 32 r529 = true := by kernel_rfl
def r530 : List AV × AV := ([.agg [.bool false, .ro [.int .u32 72] 1, .ro [.int .u32 1] 1], .agg [.bool true, .ro [.int .u32 72] 1, .ro [.int .u32 1] 1]], .agg [.bool false, .nilsl, .ro [.int .u32 1] 1])
theorem r530_ok : rowOk cfg0 M2 3000 30 r530 = true := by kernel_rfl
def r531 : List AV × AV := ([.agg [.bool false, .nilsl, .ro [.int .u32 1] 1], .int .i64 60], .tuple [.agg [.bool false, .nilsl, .int .i64 0], .bool true])
theorem r531_ok : rowOk cfg0 M2 3000 33 r531 = true := by kernel_rfl
def r532 : List AV × AV := ([.agg [.bool false, .ro [.int .u32 10] 1, .ro [.int .u32 1] 1], .int .i64 1], .tuple [.agg [.bool false, .ro [.int .u32 10] 1, .ro [.int .u32 1] 1], .bool true])
theorem r532_ok : rowOk cfg0 M2 3000 84 r532 = true := by kernel_rfl
def r533 : List AV × AV := ([.agg [.bool true, .ro [.int .u32 716] 1, .ro [.int .u32 1] 1], .agg [.bool false, .ro [.int .u32 716] 1, .ro [.int .u32 1] 1]], .agg [.bool false, .nilsl, .ro [.int .u32 1] 1])
theorem r533_ok : rowOk cfg0 M2 3000 30 r533 = true := by kernel_rfl
def r534 : List AV × AV := ([.agg [.bool false, .ro [.int .u32 716] 1, .int .i64 1]], .agg [.bool false, .ro [.int .u32 358] 1, .ro [.int .u32 5] 1])
theorem r534_ok : rowOk cfg0 M2 3000 15 r534 = true := by kernel_rfl
def r535 : List AV × AV := ([.agg [.bool false, .ro [.int .u32 358] 1, .ro [.int .u32 5] 1], .agg [.bool false, .ro [.int .u32 1] 1, .ro [.int .u32 12] 1]], .agg [.bool false, .ro [.int .u32 179] 1, .ro [.int .u32 30] 1])
theorem r535_ok : rowOk cfg0 M2 3000 32 r535 = true := by kernel_rfl
def r536 : List AV × AV := ([.agg [.bool false, .ro [.int .u32 5] 1, .ro [.int .u32 1] 1], .agg [.bool false, .ro [.int .u32 12] 1, .ro [.int .u32 1] 1]], .agg [.bool false, .ro [.int .u32 60] 1, .ro [.int .u32 1] 1])
theorem r536_ok : rowOk cfg0 M2 3000 32 r536 = true := by kernel_rfl
def r537 : List AV × AV := ([.agg [.bool false, .ro [.int .u32 358] 1, .ro [.int .u32 5] 1], .agg [.bool true, .ro [.int .u32 60] 1, .ro [.int .u32 1] 1]], .agg [.bool false, .ro [.int .u32 58] 1, .ro [.int .u32 5] 1])
theorem r537_ok : rowOk cfg0 M2 3000 30 r537 = true := by kernel_rfl
def r538 : List AV × AV := ([.agg [.bool false, .ro [.int .u32 58] 1, .ro [.int .u32 5] 1], .agg [.bool false, .e0, .ro [.int .u32 1] 1]], .agg [.bool false, .ro [.int .u32 58] 1, .ro [.int .u32 5] 1])
theorem r538_ok : rowOk cfg0 M2 3000 30 r538 = true := by kernel_rfl
def r539 : List AV × AV := ([.str [55, 50]], .tuple [.agg [.bool false, .ro [.int .u32 72] 1, .ro [.int .u32 1] 1], .bool true])
theorem r539_ok : rowOk cfg0 M2 3000 16 r539 = true := by kernel_rfl
def r540 : List AV × AV := ([.agg [.bool false, .ro [.int .u32 1143] 1, .ro [.int .u32 1250] 1], .int .i64 1], .tuple [.agg [.bool false, .ro [.int .u32 1143] 1, .ro [.int .u32 1250] 1], .bool true])
theorem r540_ok : rowOk cfg0 M2 3000 84 r540 = true := by kernel_rfl
def r541 : List AV × AV := ([.agg [.bool false, .ro [.int .u32 1] 1, .ro [.int .u32 1] 1], .agg [.bool false, .ro [.int .u32 1143] 1, .ro [.int .u32 1250] 1]], .agg [.bool false, .ro [.int .u32 1143] 1, .ro [.int .u32 1250] 1])
theorem r541_ok : rowOk cfg0 M2 3000 32 r541 = true := by kernel_rfl
def r542 : List AV × AV := ([.agg [.bool false, .ro [.int .u32 1143] 1, .ro [.int .u32 1250] 1], .agg [.bool false, .ro [.int .u32 1] 1, .ro [.int .u32 1] 1]], .agg [.bool false, .ro [.int .u32 1143] 1, .ro [.int .u32 1250] 1])
theorem r542_ok : rowOk cfg0 M2 3000 32 r542 = true := by kernel_rfl
def r543 : List AV × AV := ([.agg [.bool false, .ro [.int .u32 381] 1, .ro [.int .u32 1250] 1], .agg [.bool true, .ro [.int .u32 1143] 1, .ro [.int .u32 1250] 1]], .agg [.bool true, .ro [.int .u32 381] 1, .ro [.int .u32 625] 1])
theorem r543_ok : rowOk cfg0 M2 3000 30 r543 = true := by kernel_rfl
def r544 : List AV × AV := ([.int .i64 2], .agg [.bool false, .ro [.int .u32 100] 1, .ro [.int .u32 1] 1])
theorem r544_ok : rowOk cfg0 M2 3000 37 r544 = true := by kernel_rfl
def r545 : List AV × AV := ([.agg [.bool false, .ro [.int .u32 72] 1, .ro [.int .u32 1] 1], .agg [.bool false, .ro [.int .u32 100] 1, .ro [.int .u32 1] 1]], .agg [.bool false, .ro [.int .u32 7200] 1, .ro [.int .u32 1] 1])
theorem r545_ok : rowOk cfg0 M2 3000 32 r545 = true := by kernel_rfl
def r546 : List AV × AV := ([.agg [.bool false, .ro [.int .u32 7200] 1, .ro [.int .u32 1] 1], .agg [.bool true, .ro [.int .u32 7200] 1, .ro [.int .u32 1] 1]], .agg [.bool false, .nilsl, .ro [.int .u32 1] 1])
theorem r546_ok : rowOk cfg0 M2 3000 30 r546 = true := by kernel_rfl
def r547 : List AV × AV := ([.agg [.bool false, .ro [.int .u32 1143] 1, .ro [.int .u32 1250] 1], .agg [.bool false, .ro [.int .u32 5000] 1, .ro [.int .u32 127] 1]], .agg [.bool false, .ro [.int .u32 36] 1, .ro [.int .u32 1] 1])
theorem r547_ok : rowOk cfg0 M2 3000 32 r547 = true := by kernel_rfl
def r548 : List AV × AV := ([.agg [.bool false, .ro [.int .u32 72] 1, .ro [.int .u32 1] 1], .agg [.bool false, .ro [.int .u32 1] 1, .ro [.int .u32 36] 1]], .agg [.bool false, .ro [.int .u32 2] 1, .ro [.int .u32 1] 1])
theorem r548_ok : rowOk cfg0 M2 3000 32 r548 = true := by kernel_rfl
def r549 : List AV × AV := ([.agg [.bool false, .ro [.int .u32 2] 1, .ro [.int .u32 1] 1], .agg [.bool false, .ro [.int .u32 36] 1, .ro [.int .u32 1] 1]], .agg [.bool false, .ro [.int .u32 72] 1, .ro [.int .u32 1] 1])
theorem r549_ok : rowOk cfg0 M2 3000 32 r549 = true := by kernel_rfl
def r550 : List AV × AV := ([.agg [.bool false, .nilsl, .ro [.int .u32 1] 1], .agg [.bool false, .ro [.int .u32 1] 1, .ro [.int .u32 12] 1]], .agg [.bool false, .nilsl, .ro [.int .u32 1] 1])
theorem r550_ok : rowOk cfg0 M2 3000 32 r550 = true := by kernel_rfl
def r551 : List AV × AV := ([.agg [.bool false, .nilsl, .ro [.int .u32 1] 1], .agg [.bool false, .ro [.int .u32 12] 1, .ro [.int .u32 1] 1]], .agg [.bool false, .nilsl, .ro [.int .u32 1] 1])
theorem r551_ok : rowOk cfg0 M2 3000 32 r551 = true := by kernel_rfl
def r552 : List AV × AV := ([.str [49, 47, 51]], .tuple [.agg [.bool false, .ro [.int .u32 1] 1, .ro [.int .u32 3] 1], .bool true])
theorem r552_ok : rowOk cfg0 M2 3000 16 r552 = true := by kernel_rfl
def r553 : List AV × AV := ([.agg [.bool false, .ro [.int .u32 1] 1, .ro [.int .u32 3] 1], .agg [.bool false, .ro [.int .u32 100] 1, .ro [.int .u32 1] 1]], .agg [.bool false, .ro [.int .u32 100] 1, .ro [.int .u32 3] 1])
theorem r553_ok : rowOk cfg0 M2 3000 32 r553 = true := by kernel_rfl
def r554 : List AV × AV := ([.agg [.bool false, .ro [.int .u32 100] 1, .ro [.int .u32 3] 1], .agg [.bool true, .ro [.int .u32 33] 1, .ro [.int .u32 1] 1]], .agg [.bool false, .ro [.int .u32 1] 1, .ro [.int .u32 3] 1])
theorem r554_ok : rowOk cfg0 M2 3000 30 r554 = true := by kernel_rfl
def r555 : List AV × AV := ([.agg [.bool false, .ro [.int .u32 1] 1, .ro [.int .u32 3] 1], .agg [.bool false, .ro [.int .u32 1] 1, .ro [.int .u32 3] 1]], .agg [.bool false, .ro [.int .u32 2] 1, .ro [.int .u32 3] 1])
theorem r555_ok : rowOk cfg0 M2 3000 30 r555 = true := by kernel_rfl
def r556 : List AV × AV := ([.agg [.bool false, .ro [.int .u32 2] 1, .ro [.int .u32 3] 1], .agg [.bool true, .ro [.int .u32 1] 1, .ro [.int .u32 1] 1]], .agg [.bool true, .ro [.int .u32 1] 1, .ro [.int .u32 3] 1])
theorem r556_ok : rowOk cfg0 M2 3000 30 r556 = true := by kernel_rfl
def r557 : List AV × AV := ([.agg [.bool false, .ro [.int .u32 33] 1, .ro [.int .u32 100] 1], .agg [.bool false, .e0, .ro [.int .u32 1] 1]], .agg [.bool false, .ro [.int .u32 33] 1, .ro [.int .u32 100] 1])
theorem r557_ok : rowOk cfg0 M2 3000 30 r557 = true := by kernel_rfl
def r558 : List AV × AV := ([.str [53]], .tuple [.agg [.bool false, .ro [.int .u32 5] 1, .ro [.int .u32 1] 1], .bool true])
theorem r558_ok : rowOk cfg0 M2 3000 16 r558 = true := by kernel_rfl
def r559 : List AV × AV := ([.agg [.bool false, .ro [.int .u32 381] 1, .ro [.int .u32 1250] 1], .agg [.bool true, .ro [.int .u32 127] 1, .ro [.int .u32 5000] 1]], .agg [.bool false, .ro [.int .u32 1397] 1, .ro [.int .u32 5000] 1])
theorem r559_ok : rowOk cfg0 M2 3000 30 r559 = true := by kernel_rfl
def r560 : List AV × AV := ([.agg [.bool false, .ro [.int .u32 381] 1, .ro [.int .u32 1250] 1], .agg [.bool true, .ro [.int .u32 381] 1, .ro [.int .u32 1250] 1]], .agg [.bool false, .nilsl, .ro [.int .u32 1] 1])
theorem r560_ok : rowOk cfg0 M2 3000 30 r560 = true := by kernel_rfl
def r561 : List AV × AV := ([.agg [.bool false, .ro [.int .u32 1] 1, .ro [.int .u32 1] 1], .agg [.bool true, .ro [.int .u32 1] 1, .ro [.int .u32 1] 1]], .agg [.bool false, .nilsl, .ro [.int .u32 1] 1])
theorem r561_ok : rowOk cfg0 M2 3000 30 r561 = true := by kernel_rfl
def r562 : List AV × AV := ([.agg [.bool false, .ro [.int .u32 5] 1, .ro [.int .u32 1] 1], .agg [.bool false, .ro [.int .u32 1] 1, .ro [.int .u32 1] 1]], .agg [.bool false, .ro [.int .u32 5] 1, .ro [.int .u32 1] 1])
theorem r562_ok : rowOk cfg0 M2 3000 32 r562 = true := by kernel_rfl
def r563 : List AV × AV := ([.str [50, 48]], .tuple [.agg [.bool false, .ro [.int .u32 20] 1, .ro [.int .u32 1] 1], .bool true])
theorem r563_ok : rowOk cfg0 M2 3000 16 r563 = true := by kernel_rfl
def r564 : List AV × AV := ([.agg [.bool false, .ro [.int .u32 20] 1, .ro [.int .u32 1] 1], .agg [.bool false, .ro [.int .u32 1] 1, .ro [.int .u32 1] 1]], .agg [.bool false, .ro [.int .u32 20] 1, .ro [.int .u32 1] 1])
theorem r564_ok : rowOk cfg0 M2 3000 32 r564 = true := by kernel_rfl
def r565 : List AV × AV := ([.agg [.bool false, .ro [.int .u32 20] 1, .ro [.int .u32 1] 1], .agg [.bool true, .ro [.int .u32 20] 1, .ro [.int .u32 1] 1]], .agg [.bool false, .nilsl, .ro [.int .u32 1] 1])
theorem r565_ok : rowOk cfg0 M2 3000 30 r565 = true := by kernel_rfl
def r566 : List AV × AV := ([.agg [.bool false, .ro [.int .u32 20] 1, .ro [.int .u32 1] 1], .agg [.bool false, .e0, .ro [.int .u32 1] 1]], .agg [.bool false, .ro [.int .u32 20] 1, .ro [.int .u32 1] 1])
theorem r566_ok : rowOk cfg0 M2 3000 30 r566 = true := by kernel_rfl
def r567 : List AV × AV := ([.str [49, 48, 48, 48]], .tuple [.agg [.bool false, .ro [.int .u32 1000] 1, .ro [.int .u32 1] 1], .bool true])
theorem r567_ok : rowOk cfg0 M2 3000 16 r567 = true := by kernel_rfl
def r568 : List AV × AV := ([.agg [.bool false, .ro [.int .u32 381] 1, .ro [.int .u32 1250] 1], .agg [.bool true, .ro [.int .u32 1] 1, .ro [.int .u32 1] 1]], .agg [.bool true, .ro [.int .u32 869] 1, .ro [.int .u32 1250] 1])
theorem r568_ok : rowOk cfg0 M2 3000 30 r568 = true := by kernel_rfl
def r569 : List AV × AV := ([.agg [.bool false, .ro [.int .u32 1000] 1, .ro [.int .u32 1] 1], .agg [.bool false, .ro [.int .u32 1] 1, .ro [.int .u32 1] 1]], .agg [.bool false, .ro [.int .u32 1000] 1, .ro [.int .u32 1] 1])
theorem r569_ok : rowOk cfg0 M2 3000 32 r569 = true := by kernel_rfl
def r570 : List AV × AV := ([.agg [.bool false, .ro [.int .u32 1000] 1, .ro [.int .u32 1] 1], .agg [.bool true, .ro [.int .u32 1000] 1, .ro [.int .u32 1] 1]], .agg [.bool false, .nilsl, .ro [.int .u32 1] 1])
theorem r570_ok : rowOk cfg0 M2 3000 30 r570 = true := by kernel_rfl
def r571 : List AV × AV := ([.agg [.bool false, .ro [.int .u32 1] 1, .ro [.int .u32 1] 1], .agg [.bool false, .ro [.int .u32 1250] 1, .ro [.int .u32 381] 1]], .agg [.bool false, .ro [.int .u32 1250] 1, .ro [.int .u32 381] 1])
theorem r571_ok : rowOk cfg0 M2 3000 32 r571 = true := by kernel_rfl
def r572 : List AV × AV := ([.agg [.bool false, .ro [.int .u32 1000] 1, .ro [.int .u32 1] 1], .agg [.bool false, .ro [.int .u32 381] 1, .ro [.int .u32 1250] 1]], .agg [.bool false, .ro [.int .u32 1524] 1, .ro [.int .u32 5] 1])
theorem r572_ok : rowOk cfg0 M2 3000 32 r572 = true := by kernel_rfl
def r573 : List AV × AV := ([.agg [.bool false, .ro [.int .u32 304] 1, .ro [.int .u32 1] 1], .agg [.bool false, .ro [.int .u32 1250] 1, .ro [.int .u32 381] 1]], .agg [.bool false, .ro [.int .u32 380000] 1, .ro [.int .u32 381] 1])
theorem r573_ok : rowOk cfg0 M2 3000 32 r573 = true := by kernel_rfl
def r574 : List AV × AV := ([.agg [.bool false, .ro [.int .u32 1000] 1, .ro [.int .u32 1] 1], .agg [.bool true, .ro [.int .u32 380000] 1, .ro [.int .u32 381] 1]], .agg [.bool false, .ro [.int .u32 1000] 1, .ro [.int .u32 381] 1])
theorem r574_ok : rowOk cfg0 M2 3000 30 r574 = true := by kernel_rfl
def r575 : List AV × AV := ([.agg [.bool false, .ro [.int .u32 1000] 1, .ro [.int .u32 381] 1], .agg [.bool false, .e0, .ro [.int .u32 1] 1]], .agg [.bool false, .ro [.int .u32 1000] 1, .ro [.int .u32 381] 1])
theorem r575_ok : rowOk cfg0 M2 3000 30 r575 = true := by kernel_rfl
def r576 : List AV × AV := ([.agg [.bool true, .ro [.int .u32 1] 1, .ro [.int .u32 10] 1], .agg [.bool false, .ro [.int .u32 1] 1, .ro [.int .u32 1] 1]], .agg [.bool false, .ro [.int .u32 9] 1, .ro [.int .u32 10] 1])
theorem r576_ok : rowOk cfg0 M2 3000 30 r576 = true := by kernel_rfl
def r577 : List AV × AV := ([.agg [.bool false, .ro [.int .u32 9] 1, .ro [.int .u32 10] 1], .agg [.bool false, .ro [.int .u32 9] 1, .ro [.int .u32 10] 1]], .agg [.bool false, .ro [.int .u32 9] 1, .ro [.int .u32 5] 1])
theorem r577_ok : rowOk cfg0 M2 3000 30 r577 = true := by kernel_rfl
def r578 : List AV × AV := ([.agg [.bool false, .ro [.int .u32 9] 1, .ro [.int .u32 5] 1], .agg [.bool true, .ro [.int .u32 1] 1, .ro [.int .u32 1] 1]], .agg [.bool false, .ro [.int .u32 4] 1, .ro [.int .u32 5] 1])
theorem r578_ok : rowOk cfg0 M2 3000 30 r578 = true := by kernel_rfl
def t2 : Tr (List (List AV × AV)) := (.nd (.nd (.nd (.nd .lf 15 [r534] .lf) 16 [r494, r498, r502, r504, r506, r507, r508, r509, r517, r539, r552, r558, r563, r567] .lf) 30 [r521, r524, r525, r526, r530, r533, r537, r538, r543, r546, r554, r555, r556, r557, r559, r560, r561, r565, r566, r568, r570, r574, r575, r576, r577, r578] (.nd .lf 32 [r493, r496, r497, r500, r501, r503, r505, r510, r519, r520, r523, r527, r528, r529, r535, r536, r541, r542, r545, r547, r548, r549, r550, r551, r553, r562, r564, r569, r571, r572, r573] .lf)) 33 [r531] (.nd (.nd (.nd .lf 37 [r522, r544] .lf) 84 [r495, r499, r518, r532, r540] .lf) 168 [r511, r516] (.nd .lf 175 [r512, r513, r514, r515] .lf)))
theorem t2_ok : MemoOk cfg0 (tabM t2) := tabM_ok (t := t2) ⟨⟨⟨⟨trivial, (lcons (rowOk_did M2_ok r534_ok) lnil), trivial⟩, (lcons (rowOk_did M2_ok r494_ok) (lcons (rowOk_did M2_ok r498_ok) (lcons (rowOk_did M2_ok r502_ok) (lcons (rowOk_did M2_ok r504_ok) (lcons (rowOk_did M2_ok r506_ok) (lcons (rowOk_did M2_ok r507_ok) (lcons (rowOk_did M2_ok r508_ok) (lcons (rowOk_did M2_ok r509_ok) (lcons (rowOk_did M2_ok r517_ok) (lcons (rowOk_did M2_ok r539_ok) (lcons (rowOk_did M2_ok r552_ok) (lcons (rowOk_did M2_ok r558_ok) (lcons (rowOk_did M2_ok r563_ok) (lcons (rowOk_did M2_ok r567_ok) lnil)))))))))))))), trivial⟩, (lcons (rowOk_did M2_ok r521_ok) (lcons (rowOk_did M2_ok r524_ok) (lcons (rowOk_did M2_ok r525_ok) (lcons (rowOk_did M2_ok r526_ok) (lcons (rowOk_did M2_ok r530_ok) (lcons (rowOk_did M2_ok r533_ok) (lcons (rowOk_did M2_ok r537_ok) (lcons (rowOk_did M2_ok r538_ok) (lcons (rowOk_did M2_ok r543_ok) (lcons (rowOk_did M2_ok r546_ok) (lcons (rowOk_did M2_ok r554_ok) (lcons (rowOk_did M2_ok r555_ok) (lcons (rowOk_did M2_ok r556_ok) (lcons (rowOk_did M2_ok r557_ok) (lcons (rowOk_did M2_ok r559_ok) (lcons (rowOk_did M2_ok r560_ok) (lcons (rowOk_did M2_ok r561_ok) (lcons (rowOk_did M2_ok r565_ok) (lcons (rowOk_did M2_ok r566_ok) (lcons (rowOk_did M2_ok r568_ok) (lcons (rowOk_did M2_ok r570_ok) (lcons (rowOk_did M2_ok r574_ok) (lcons (rowOk_did M2_ok r575_ok) (lcons (rowOk_did M2_ok r576_ok) (lcons (rowOk_did M2_ok r577_ok) (lcons (rowOk_did M2_ok r578_ok) lnil)))))))))))))))))))))))))), ⟨trivial, (lcons (rowOk_did M2_ok r493_ok) (lcons (rowOk_did M2_ok r496_ok) (lcons (rowOk_did M2_ok r497_ok) (lcons (rowOk_did M2_ok r500_ok) (lcons (rowOk_did M2_ok r501_ok) (lcons (rowOk_did M2_ok r503_ok) (lcons (rowOk_did M2_ok r505_ok) (lcons (rowOk_did M2_ok r510_ok) (lcons (rowOk_did M2_ok r519_ok) (lcons (rowOk_did M2_ok r520_ok) (lcons (rowOk_did M2_ok r523_ok) (lcons (rowOk_did M2_ok r527_ok) (lcons (rowOk_did M2_ok r528_ok) (lcons (rowOk_did M2_ok r529_ok) (lcons (rowOk_did M2_ok r535_ok) (lcons (rowOk_did M2_ok r536_ok) (lcons (rowOk_did M2_ok r541_ok) (lcons (rowOk_did M2_ok r542_ok) (lcons (rowOk_did M2_ok r545_ok) (lcons (rowOk_did M2_ok r547_ok) (lcons (rowOk_did M2_ok r548_ok) (lcons (rowOk_did M2_ok r549_ok) (lcons (rowOk_did M2_ok r550_ok) (lcons (rowOk_did M2_ok r551_ok) (lcons (rowOk_did M2_ok r553_ok) (lcons (rowOk_did M2_ok r562_ok) (lcons (rowOk_did M2_ok r564_ok) (lcons (rowOk_did M2_ok r569_ok) (lcons (rowOk_did M2_ok r571_ok) (lcons (rowOk_did M2_ok r572_ok) (lcons (rowOk_did M2_ok r573_ok) lnil))))))))))))))))))))))))))))))), trivial⟩⟩, (lcons (rowOk_did M2_ok r531_ok) lnil), ⟨⟨⟨trivial, (lcons (rowOk_did M2_ok r522_ok) (lcons (rowOk_did M2_ok r544_ok) lnil)), trivial⟩, (lcons (rowOk_did M2_ok r495_ok) (lcons (rowOk_did M2_ok r499_ok) (lcons (rowOk_did M2_ok r518_ok) (lcons (rowOk_did M2_ok r532_ok) (lcons (rowOk_did M2_ok r540_ok) lnil))))), trivial⟩, (lcons (rowOk_did M2_ok r511_ok) (lcons (rowOk_did M2_ok r516_ok) lnil)), ⟨trivial, (lcons (rowOk_did M2_ok r512_ok) (lcons (rowOk_did M2_ok r513_ok) (lcons (rowOk_did M2_ok r514_ok) (lcons (rowOk_did M2_ok r515_ok) lnil)))), trivial⟩⟩⟩
def M3 : Memo := orM (tabM t2) M2
theorem M3_ok : MemoOk cfg0 M3 := orM_ok t2_ok M2_ok
def r579 : List AV × AV := ([.agg [.bool false, .ro [.int .u32 10] 1, .ro [.int .u32 1] 1], .int .i64 (-3)], .tuple [.agg [.bool false, .ro [.int .u32 1] 1, .ro [.int .u32 1000] 1], .bool true])
theorem r579_ok : rowOk cfg0 M3 3000 84 r579 = true := by kernel_rfl
def r580 : List AV × AV := ([.agg [.bool false, .ro [.int .u32 127] 1, .ro [.int .u32 5000] 1], .agg [.bool false, .ro [.int .u32 381] 1, .ro [.int .u32 1250] 1]], .int .i64 (-1))
theorem r580_ok : rowOk cfg0 M3 3000 14 r580 = true := by kernel_rfl
def r581 : List AV × AV := ([.agg [.bool false, .ro [.int .u32 6] 1, .ro [.int .u32 5] 1], .agg [.bool false, .ro [.int .u32 1] 1, .ro [.int .u32 1] 1]], .int .i64 1)
theorem r581_ok : rowOk cfg0 M3 3000 14 r581 = true := by kernel_rfl
def r582 : List AV × AV := ([.agg [.bool true, .ro [.int .u32 716] 1, .ro [.int .u32 1] 1], .int .i64 6], .tuple [.agg [.bool true, .ro [.int .u32 716] 1], .int .i64 0])
theorem r582_ok : rowOk cfg0 M3 3000 36 r582 = true := by kernel_rfl
def r583 : List AV × AV := ([.agg [.bool false, .ro [.int .u32 58] 1, .ro [.int .u32 5] 1], .int .i64 60], .tuple [.agg [.bool false, .ro [.int .u32 116] 1, .int .i64 1], .bool true])
theorem r583_ok : rowOk cfg0 M3 3000 33 r583 = true := by kernel_rfl
def r584 : List AV × AV := ([.agg [.bool false, .ro [.int .u32 381] 1, .ro [.int .u32 1250] 1], .agg [.bool false, .ro [.int .u32 1143] 1, .ro [.int .u32 1250] 1]], .int .i64 (-1))
theorem r584_ok : rowOk cfg0 M3 3000 14 r584 = true := by kernel_rfl
def r585 : List AV × AV := ([.agg [.bool false, .ro [.int .u32 7200] 1, .ro [.int .u32 1] 1], .int .i64 1], .tuple [.agg [.bool false, .ro [.int .u32 7200] 1], .int .i64 0])
theorem r585_ok : rowOk cfg0 M3 3000 36 r585 = true := by kernel_rfl
def r586 : List AV × AV := ([.agg [.bool false, .ro [.int .u32 2] 1, .ro [.int .u32 3] 1], .agg [.bool false, .ro [.int .u32 1] 1, .ro [.int .u32 1] 1]], .int .i64 (-1))
theorem r586_ok : rowOk cfg0 M3 3000 14 r586 = true := by kernel_rfl
def r587 : List AV × AV := ([.agg [.bool false, .ro [.int .u32 33] 1, .ro [.int .u32 100] 1], .int .i64 60], .tuple [.agg [.bool false, .ro [.int .u32 33] 1, .int .i64 2], .bool true])
theorem r587_ok : rowOk cfg0 M3 3000 33 r587 = true := by kernel_rfl
def r588 : List AV × AV := ([.agg [.bool false, .ro [.int .u32 381] 1, .ro [.int .u32 1250] 1], .agg [.bool false, .ro [.int .u32 127] 1, .ro [.int .u32 5000] 1]], .int .i64 1)
theorem r588_ok : rowOk cfg0 M3 3000 14 r588 = true := by kernel_rfl
def r589 : List AV × AV := ([.agg [.bool false, .ro [.int .u32 381] 1, .ro [.int .u32 1250] 1], .agg [.bool false, .ro [.int .u32 381] 1, .ro [.int .u32 1250] 1]], .int .i64 0)
theorem r589_ok : rowOk cfg0 M3 3000 14 r589 = true := by kernel_rfl
def r590 : List AV × AV := ([.agg [.bool false, .ro [.int .u32 1] 1, .ro [.int .u32 1] 1], .agg [.bool false, .ro [.int .u32 1] 1, .ro [.int .u32 1] 1]], .int .i64 0)
theorem r590_ok : rowOk cfg0 M3 3000 14 r590 = true := by kernel_rfl
def r591 : List AV × AV := ([.agg [.bool false, .ro [.int .u32 20] 1, .ro [.int .u32 1] 1], .int .i64 6], .tuple [.agg [.bool false, .ro [.int .u32 20] 1], .int .i64 0])
theorem r591_ok : rowOk cfg0 M3 3000 36 r591 = true := by kernel_rfl
def r592 : List AV × AV := ([.agg [.bool false, .ro [.int .u32 20] 1, .ro [.int .u32 1] 1], .int .i64 60], .tuple [.agg [.bool false, .ro [.int .u32 20] 1, .int .i64 0], .bool true])
theorem r592_ok : rowOk cfg0 M3 3000 33 r592 = true := by kernel_rfl
def r593 : List AV × AV := ([.agg [.bool false, .ro [.int .u32 381] 1, .ro [.int .u32 1250] 1], .agg [.bool false, .ro [.int .u32 1] 1, .ro [.int .u32 1] 1]], .int .i64 (-1))
theorem r593_ok : rowOk cfg0 M3 3000 14 r593 = true := by kernel_rfl
def r594 : List AV × AV := ([.agg [.bool false, .ro [.int .u32 1000] 1, .ro [.int .u32 1] 1], .int .i64 6], .tuple [.agg [.bool false, .ro [.int .u32 1000] 1], .int .i64 0])
theorem r594_ok : rowOk cfg0 M3 3000 36 r594 = true := by kernel_rfl
end Go.Am.splitKnown
