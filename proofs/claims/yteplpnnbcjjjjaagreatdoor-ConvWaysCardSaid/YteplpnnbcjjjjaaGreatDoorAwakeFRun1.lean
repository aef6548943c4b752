/- AwakeF: calls on its road whose answers are kept, each run by the kernel over those ahead of it (part 1). Written by wip/gen/memo2lean.py. -/
import Derived.Test.YteplpnnbcjjjjaaGreatDoorAwakeFRun0
import Derived.Test.YteplpnnbcjjjjaaGreatDoorAmCfgA
import Derived.Test.YteplpnnbcjjjjaaGreatDoorAmMemo
import Derived.KernelRfl
namespace Go.Am.awakeF
set_option maxRecDepth 100000
open Go.Am
def r440 : List AV × AV := ([.ro [.int .i64 1] 1, .ro [.int .i64 1406] 1], .ro [.int .i64 1406] 1)
theorem r440_ok : rowOk cfg0 M0 3000 85 r440 = true := by kernel_rfl
def r441 : List AV × AV := ([.ro [.int .i64 1] 1, .ro [.int .i64 1328] 1], .ro [.int .i64 1328] 1)
theorem r441_ok : rowOk cfg0 M0 3000 85 r441 = true := by kernel_rfl
def r442 : List AV × AV := ([.ro [.int .i64 1] 1, .ro [.int .i64 1289] 1], .ro [.int .i64 1289] 1)
theorem r442_ok : rowOk cfg0 M0 3000 85 r442 = true := by kernel_rfl
def r443 : List AV × AV := ([.ro [.int .i64 1] 1, .ro [.int .i64 1269] 1], .ro [.int .i64 1269] 1)
theorem r443_ok : rowOk cfg0 M0 3000 85 r443 = true := by kernel_rfl
def r444 : List AV × AV := ([.ro [.int .i64 1] 1, .ro [.int .i64 1259] 1], .ro [.int .i64 1259] 1)
theorem r444_ok : rowOk cfg0 M0 3000 85 r444 = true := by kernel_rfl
def r445 : List AV × AV := ([.ro [.int .i64 1] 1, .ro [.int .i64 1254] 1], .ro [.int .i64 1254] 1)
theorem r445_ok : rowOk cfg0 M0 3000 85 r445 = true := by kernel_rfl
def r446 : List AV × AV := ([.ro [.int .i64 1] 1, .ro [.int .i64 1252] 1], .ro [.int .i64 1252] 1)
theorem r446_ok : rowOk cfg0 M0 3000 85 r446 = true := by kernel_rfl
def r447 : List AV × AV := ([.ro [.int .i64 1] 1, .ro [.int .i64 1251] 1], .ro [.int .i64 1251] 1)
theorem r447_ok : rowOk cfg0 M0 3000 85 r447 = true := by kernel_rfl
def r448 : List AV × AV := ([.str [109, 101, 116, 101, 114]], .int .i64 0)
theorem r448_ok : rowOk cfg0 M0 3000 276 r448 = true := by kernel_rfl
def r449 : List AV × AV := ([.agg [.int .i64 1, .int .i64 0, .int .i64 0, .int .i64 0, .int .i64 0, .int .i64 0, .int .i64 0, .int .i64 0]], .bool true)
theorem r449_ok : rowOk cfg0 M0 3000 29 r449 = true := by kernel_rfl
def r450 : List AV × AV := ([.agg [.int .i64 0, .int .i64 0, .int .i64 0, .int .i64 0, .int .i64 0, .int .i64 0, .int .i64 0, .int .i64 0]], .bool true)
theorem r450_ok : rowOk cfg0 M0 3000 29 r450 = true := by kernel_rfl
def r451 : List AV × AV := ([.str [105, 110, 99, 104]], .bool true)
theorem r451_ok : rowOk cfg0 M0 3000 221 r451 = true := by kernel_rfl
def r452 : List AV × AV := ([.str [49]], .tuple [.agg [.bool false, .ro [.int .i64 1] 1], .bool true])
theorem r452_ok : rowOk cfg0 M0 3000 224 r452 = true := by kernel_rfl
def r453 : List AV × AV := ([.str [49, 50]], .tuple [.ro [.int .i64 12] 1, .bool true])
theorem r453_ok : rowOk cfg0 M0 3000 225 r453 = true := by kernel_rfl
def r454 : List AV × AV := ([.ro [.int .i64 12] 1, .ro [.int .i64 5000] 1], .ro [.int .i64 0, .int .i64 6] 2)
theorem r454_ok : rowOk cfg0 M0 3000 85 r454 = true := by kernel_rfl
def r455 : List AV × AV := ([.ro [.int .i64 12] 1, .ro [.int .i64 2500] 1], .ro [.int .i64 0, .int .i64 3] 2)
theorem r455_ok : rowOk cfg0 M0 3000 85 r455 = true := by kernel_rfl
def r456 : List AV × AV := ([.ro [.int .i64 12] 1, .ro [.int .i64 1250] 1], .ro [.int .i64 5000, .int .i64 1] 2)
theorem r456_ok : rowOk cfg0 M0 3000 85 r456 = true := by kernel_rfl
def r457 : List AV × AV := ([.ro [.int .i64 12] 1, .ro [.int .i64 625] 1], .ro [.int .i64 7500] 1)
theorem r457_ok : rowOk cfg0 M0 3000 85 r457 = true := by kernel_rfl
def r458 : List AV × AV := ([.ro [.int .i64 12] 1, .ro [.int .i64 312] 1], .ro [.int .i64 3744] 1)
theorem r458_ok : rowOk cfg0 M0 3000 85 r458 = true := by kernel_rfl
def r459 : List AV × AV := ([.ro [.int .i64 12] 1, .ro [.int .i64 156] 1], .ro [.int .i64 1872] 1)
theorem r459_ok : rowOk cfg0 M0 3000 85 r459 = true := by kernel_rfl
def r460 : List AV × AV := ([.ro [.int .i64 12] 1, .ro [.int .i64 78] 1], .ro [.int .i64 936] 1)
theorem r460_ok : rowOk cfg0 M0 3000 85 r460 = true := by kernel_rfl
def r461 : List AV × AV := ([.ro [.int .i64 12] 1, .ro [.int .i64 39] 1], .ro [.int .i64 468] 1)
theorem r461_ok : rowOk cfg0 M0 3000 85 r461 = true := by kernel_rfl
def r462 : List AV × AV := ([.ro [.int .i64 12] 1, .ro [.int .i64 19] 1], .ro [.int .i64 228] 1)
theorem r462_ok : rowOk cfg0 M0 3000 85 r462 = true := by kernel_rfl
def r463 : List AV × AV := ([.ro [.int .i64 12] 1, .ro [.int .i64 9] 1], .ro [.int .i64 108] 1)
theorem r463_ok : rowOk cfg0 M0 3000 85 r463 = true := by kernel_rfl
def r464 : List AV × AV := ([.ro [.int .i64 12] 1, .ro [.int .i64 4] 1], .ro [.int .i64 48] 1)
theorem r464_ok : rowOk cfg0 M0 3000 85 r464 = true := by kernel_rfl
def r465 : List AV × AV := ([.ro [.int .i64 12] 1, .ro [.int .i64 2] 1], .ro [.int .i64 24] 1)
theorem r465_ok : rowOk cfg0 M0 3000 85 r465 = true := by kernel_rfl
def r466 : List AV × AV := ([.ro [.int .i64 12] 1, .ro [.int .i64 1] 1], .ro [.int .i64 12] 1)
theorem r466_ok : rowOk cfg0 M0 3000 85 r466 = true := by kernel_rfl
def r467 : List AV × AV := ([.ro [.int .i64 1] 1, .ro [.int .i64 12] 1], .ro [.int .i64 12] 1)
theorem r467_ok : rowOk cfg0 M0 3000 85 r467 = true := by kernel_rfl
def r468 : List AV × AV := ([.ro [.int .i64 1] 1, .ro [.int .i64 13] 1], .ro [.int .i64 13] 1)
theorem r468_ok : rowOk cfg0 M0 3000 85 r468 = true := by kernel_rfl
def r469 : List AV × AV := ([.str [102, 111, 111, 116]], .int .i64 0)
theorem r469_ok : rowOk cfg0 M0 3000 276 r469 = true := by kernel_rfl
def r470 : List AV × AV := ([.ro [.int .i64 381] 1, .ro [.int .i64 1] 1], .ro [.int .i64 381] 1)
theorem r470_ok : rowOk cfg0 M0 3000 85 r470 = true := by kernel_rfl
def r471 : List AV × AV := ([.ro [.int .i64 1250] 1, .ro [.int .i64 12] 1], .ro [.int .i64 5000, .int .i64 1] 2)
theorem r471_ok : rowOk cfg0 M0 3000 85 r471 = true := by kernel_rfl
def r472 : List AV × AV := ([.ro [.int .i64 381] 1, .ro [.int .i64 58] 1], .ro [.int .i64 2098, .int .i64 2] 2)
theorem r472_ok : rowOk cfg0 M0 3000 85 r472 = true := by kernel_rfl
def r473 : List AV × AV := ([.ro [.int .i64 381] 1, .ro [.int .i64 48] 1], .ro [.int .i64 8288, .int .i64 1] 2)
theorem r473_ok : rowOk cfg0 M0 3000 85 r473 = true := by kernel_rfl
def r474 : List AV × AV := ([.ro [.int .i64 381] 1, .ro [.int .i64 43] 1], .ro [.int .i64 6383, .int .i64 1] 2)
theorem r474_ok : rowOk cfg0 M0 3000 85 r474 = true := by kernel_rfl
def r475 : List AV × AV := ([.ro [.int .i64 381] 1, .ro [.int .i64 41] 1], .ro [.int .i64 5621, .int .i64 1] 2)
theorem r475_ok : rowOk cfg0 M0 3000 85 r475 = true := by kernel_rfl
def r476 : List AV × AV := ([.ro [.int .i64 381] 1, .ro [.int .i64 40] 1], .ro [.int .i64 5240, .int .i64 1] 2)
theorem r476_ok : rowOk cfg0 M0 3000 85 r476 = true := by kernel_rfl
def r477 : List AV × AV := ([.ro [.int .i64 141] 1, .ro [.int .i64 5000] 1], .ro [.int .i64 5000, .int .i64 70] 2)
theorem r477_ok : rowOk cfg0 M0 3000 85 r477 = true := by kernel_rfl
def r478 : List AV × AV := ([.ro [.int .i64 141] 1, .ro [.int .i64 2500] 1], .ro [.int .i64 2500, .int .i64 35] 2)
theorem r478_ok : rowOk cfg0 M0 3000 85 r478 = true := by kernel_rfl
def r479 : List AV × AV := ([.ro [.int .i64 141] 1, .ro [.int .i64 1250] 1], .ro [.int .i64 6250, .int .i64 17] 2)
theorem r479_ok : rowOk cfg0 M0 3000 85 r479 = true := by kernel_rfl
def r480 : List AV × AV := ([.ro [.int .i64 141] 1, .ro [.int .i64 625] 1], .ro [.int .i64 8125, .int .i64 8] 2)
theorem r480_ok : rowOk cfg0 M0 3000 85 r480 = true := by kernel_rfl
def r481 : List AV × AV := ([.ro [.int .i64 141] 1, .ro [.int .i64 312] 1], .ro [.int .i64 3992, .int .i64 4] 2)
theorem r481_ok : rowOk cfg0 M0 3000 85 r481 = true := by kernel_rfl
def r482 : List AV × AV := ([.ro [.int .i64 141] 1, .ro [.int .i64 156] 1], .ro [.int .i64 1996, .int .i64 2] 2)
theorem r482_ok : rowOk cfg0 M0 3000 85 r482 = true := by kernel_rfl
def r483 : List AV × AV := ([.ro [.int .i64 141] 1, .ro [.int .i64 78] 1], .ro [.int .i64 998, .int .i64 1] 2)
theorem r483_ok : rowOk cfg0 M0 3000 85 r483 = true := by kernel_rfl
def r484 : List AV × AV := ([.ro [.int .i64 141] 1, .ro [.int .i64 39] 1], .ro [.int .i64 5499] 1)
theorem r484_ok : rowOk cfg0 M0 3000 85 r484 = true := by kernel_rfl
def r485 : List AV × AV := ([.ro [.int .i64 141] 1, .ro [.int .i64 19] 1], .ro [.int .i64 2679] 1)
theorem r485_ok : rowOk cfg0 M0 3000 85 r485 = true := by kernel_rfl
def r486 : List AV × AV := ([.ro [.int .i64 141] 1, .ro [.int .i64 9] 1], .ro [.int .i64 1269] 1)
theorem r486_ok : rowOk cfg0 M0 3000 85 r486 = true := by kernel_rfl
def r487 : List AV × AV := ([.ro [.int .i64 141] 1, .ro [.int .i64 4] 1], .ro [.int .i64 564] 1)
theorem r487_ok : rowOk cfg0 M0 3000 85 r487 = true := by kernel_rfl
def r488 : List AV × AV := ([.ro [.int .i64 141] 1, .ro [.int .i64 2] 1], .ro [.int .i64 282] 1)
theorem r488_ok : rowOk cfg0 M0 3000 85 r488 = true := by kernel_rfl
def r489 : List AV × AV := ([.ro [.int .i64 141] 1, .ro [.int .i64 3] 1], .ro [.int .i64 423] 1)
theorem r489_ok : rowOk cfg0 M0 3000 85 r489 = true := by kernel_rfl
def r490 : List AV × AV := ([.ro [.int .i64 99] 1, .ro [.int .i64 5000] 1], .ro [.int .i64 5000, .int .i64 49] 2)
theorem r490_ok : rowOk cfg0 M0 3000 85 r490 = true := by kernel_rfl
def r491 : List AV × AV := ([.ro [.int .i64 99] 1, .ro [.int .i64 2500] 1], .ro [.int .i64 7500, .int .i64 24] 2)
theorem r491_ok : rowOk cfg0 M0 3000 85 r491 = true := by kernel_rfl
def r492 : List AV × AV := ([.ro [.int .i64 99] 1, .ro [.int .i64 1250] 1], .ro [.int .i64 3750, .int .i64 12] 2)
theorem r492_ok : rowOk cfg0 M0 3000 85 r492 = true := by kernel_rfl
def r493 : List AV × AV := ([.ro [.int .i64 99] 1, .ro [.int .i64 625] 1], .ro [.int .i64 1875, .int .i64 6] 2)
theorem r493_ok : rowOk cfg0 M0 3000 85 r493 = true := by kernel_rfl
def r494 : List AV × AV := ([.ro [.int .i64 99] 1, .ro [.int .i64 312] 1], .ro [.int .i64 888, .int .i64 3] 2)
theorem r494_ok : rowOk cfg0 M0 3000 85 r494 = true := by kernel_rfl
def r495 : List AV × AV := ([.ro [.int .i64 99] 1, .ro [.int .i64 156] 1], .ro [.int .i64 5444, .int .i64 1] 2)
theorem r495_ok : rowOk cfg0 M0 3000 85 r495 = true := by kernel_rfl
def r496 : List AV × AV := ([.ro [.int .i64 99] 1, .ro [.int .i64 78] 1], .ro [.int .i64 7722] 1)
theorem r496_ok : rowOk cfg0 M0 3000 85 r496 = true := by kernel_rfl
def r497 : List AV × AV := ([.ro [.int .i64 99] 1, .ro [.int .i64 39] 1], .ro [.int .i64 3861] 1)
theorem r497_ok : rowOk cfg0 M0 3000 85 r497 = true := by kernel_rfl
def r498 : List AV × AV := ([.ro [.int .i64 99] 1, .ro [.int .i64 19] 1], .ro [.int .i64 1881] 1)
theorem r498_ok : rowOk cfg0 M0 3000 85 r498 = true := by kernel_rfl
def r499 : List AV × AV := ([.ro [.int .i64 99] 1, .ro [.int .i64 9] 1], .ro [.int .i64 891] 1)
theorem r499_ok : rowOk cfg0 M0 3000 85 r499 = true := by kernel_rfl
def r500 : List AV × AV := ([.ro [.int .i64 99] 1, .ro [.int .i64 4] 1], .ro [.int .i64 396] 1)
theorem r500_ok : rowOk cfg0 M0 3000 85 r500 = true := by kernel_rfl
def r501 : List AV × AV := ([.ro [.int .i64 99] 1, .ro [.int .i64 2] 1], .ro [.int .i64 198] 1)
theorem r501_ok : rowOk cfg0 M0 3000 85 r501 = true := by kernel_rfl
def r502 : List AV × AV := ([.ro [.int .i64 99] 1, .ro [.int .i64 1] 1], .ro [.int .i64 99] 1)
theorem r502_ok : rowOk cfg0 M0 3000 85 r502 = true := by kernel_rfl
def r503 : List AV × AV := ([.ro [.int .i64 42] 1, .ro [.int .i64 5000] 1], .ro [.int .i64 0, .int .i64 21] 2)
theorem r503_ok : rowOk cfg0 M0 3000 85 r503 = true := by kernel_rfl
def r504 : List AV × AV := ([.ro [.int .i64 42] 1, .ro [.int .i64 2500] 1], .ro [.int .i64 5000, .int .i64 10] 2)
theorem r504_ok : rowOk cfg0 M0 3000 85 r504 = true := by kernel_rfl
def r505 : List AV × AV := ([.ro [.int .i64 42] 1, .ro [.int .i64 1250] 1], .ro [.int .i64 2500, .int .i64 5] 2)
theorem r505_ok : rowOk cfg0 M0 3000 85 r505 = true := by kernel_rfl
def r506 : List AV × AV := ([.ro [.int .i64 42] 1, .ro [.int .i64 625] 1], .ro [.int .i64 6250, .int .i64 2] 2)
theorem r506_ok : rowOk cfg0 M0 3000 85 r506 = true := by kernel_rfl
def r507 : List AV × AV := ([.ro [.int .i64 42] 1, .ro [.int .i64 312] 1], .ro [.int .i64 3104, .int .i64 1] 2)
theorem r507_ok : rowOk cfg0 M0 3000 85 r507 = true := by kernel_rfl
def r508 : List AV × AV := ([.ro [.int .i64 42] 1, .ro [.int .i64 156] 1], .ro [.int .i64 6552] 1)
theorem r508_ok : rowOk cfg0 M0 3000 85 r508 = true := by kernel_rfl
def r509 : List AV × AV := ([.ro [.int .i64 42] 1, .ro [.int .i64 78] 1], .ro [.int .i64 3276] 1)
theorem r509_ok : rowOk cfg0 M0 3000 85 r509 = true := by kernel_rfl
def r510 : List AV × AV := ([.ro [.int .i64 42] 1, .ro [.int .i64 39] 1], .ro [.int .i64 1638] 1)
theorem r510_ok : rowOk cfg0 M0 3000 85 r510 = true := by kernel_rfl
def r511 : List AV × AV := ([.ro [.int .i64 42] 1, .ro [.int .i64 19] 1], .ro [.int .i64 798] 1)
theorem r511_ok : rowOk cfg0 M0 3000 85 r511 = true := by kernel_rfl
def r512 : List AV × AV := ([.ro [.int .i64 42] 1, .ro [.int .i64 9] 1], .ro [.int .i64 378] 1)
theorem r512_ok : rowOk cfg0 M0 3000 85 r512 = true := by kernel_rfl
def r513 : List AV × AV := ([.ro [.int .i64 42] 1, .ro [.int .i64 4] 1], .ro [.int .i64 168] 1)
theorem r513_ok : rowOk cfg0 M0 3000 85 r513 = true := by kernel_rfl
def r514 : List AV × AV := ([.ro [.int .i64 42] 1, .ro [.int .i64 2] 1], .ro [.int .i64 84] 1)
theorem r514_ok : rowOk cfg0 M0 3000 85 r514 = true := by kernel_rfl
def r515 : List AV × AV := ([.ro [.int .i64 42] 1, .ro [.int .i64 3] 1], .ro [.int .i64 126] 1)
theorem r515_ok : rowOk cfg0 M0 3000 85 r515 = true := by kernel_rfl
def r516 : List AV × AV := ([.ro [.int .i64 15] 1, .ro [.int .i64 5000] 1], .ro [.int .i64 5000, .int .i64 7] 2)
theorem r516_ok : rowOk cfg0 M0 3000 85 r516 = true := by kernel_rfl
def r517 : List AV × AV := ([.ro [.int .i64 15] 1, .ro [.int .i64 2500] 1], .ro [.int .i64 7500, .int .i64 3] 2)
theorem r517_ok : rowOk cfg0 M0 3000 85 r517 = true := by kernel_rfl
def r518 : List AV × AV := ([.ro [.int .i64 15] 1, .ro [.int .i64 1250] 1], .ro [.int .i64 8750, .int .i64 1] 2)
theorem r518_ok : rowOk cfg0 M0 3000 85 r518 = true := by kernel_rfl
def r519 : List AV × AV := ([.ro [.int .i64 15] 1, .ro [.int .i64 625] 1], .ro [.int .i64 9375] 1)
theorem r519_ok : rowOk cfg0 M0 3000 85 r519 = true := by kernel_rfl
def r520 : List AV × AV := ([.ro [.int .i64 15] 1, .ro [.int .i64 312] 1], .ro [.int .i64 4680] 1)
theorem r520_ok : rowOk cfg0 M0 3000 85 r520 = true := by kernel_rfl
def r521 : List AV × AV := ([.ro [.int .i64 15] 1, .ro [.int .i64 156] 1], .ro [.int .i64 2340] 1)
theorem r521_ok : rowOk cfg0 M0 3000 85 r521 = true := by kernel_rfl
def r522 : List AV × AV := ([.ro [.int .i64 15] 1, .ro [.int .i64 78] 1], .ro [.int .i64 1170] 1)
theorem r522_ok : rowOk cfg0 M0 3000 85 r522 = true := by kernel_rfl
def r523 : List AV × AV := ([.ro [.int .i64 15] 1, .ro [.int .i64 39] 1], .ro [.int .i64 585] 1)
theorem r523_ok : rowOk cfg0 M0 3000 85 r523 = true := by kernel_rfl
def r524 : List AV × AV := ([.ro [.int .i64 15] 1, .ro [.int .i64 19] 1], .ro [.int .i64 285] 1)
theorem r524_ok : rowOk cfg0 M0 3000 85 r524 = true := by kernel_rfl
def r525 : List AV × AV := ([.ro [.int .i64 15] 1, .ro [.int .i64 9] 1], .ro [.int .i64 135] 1)
theorem r525_ok : rowOk cfg0 M0 3000 85 r525 = true := by kernel_rfl
def r526 : List AV × AV := ([.ro [.int .i64 15] 1, .ro [.int .i64 4] 1], .ro [.int .i64 60] 1)
theorem r526_ok : rowOk cfg0 M0 3000 85 r526 = true := by kernel_rfl
def r527 : List AV × AV := ([.ro [.int .i64 15] 1, .ro [.int .i64 2] 1], .ro [.int .i64 30] 1)
theorem r527_ok : rowOk cfg0 M0 3000 85 r527 = true := by kernel_rfl
def r528 : List AV × AV := ([.ro [.int .i64 15] 1, .ro [.int .i64 3] 1], .ro [.int .i64 45] 1)
theorem r528_ok : rowOk cfg0 M0 3000 85 r528 = true := by kernel_rfl
def r529 : List AV × AV := ([.ro [.int .i64 3] 1, .ro [.int .i64 6] 1], .ro [.int .i64 18] 1)
theorem r529_ok : rowOk cfg0 M0 3000 85 r529 = true := by kernel_rfl
def r530 : List AV × AV := ([.ro [.int .i64 3] 1, .ro [.int .i64 5] 1], .ro [.int .i64 15] 1)
theorem r530_ok : rowOk cfg0 M0 3000 85 r530 = true := by kernel_rfl
def r531 : List AV × AV := ([.ro [.int .i64 3] 1, .ro [.int .i64 117] 1], .ro [.int .i64 351] 1)
theorem r531_ok : rowOk cfg0 M0 3000 85 r531 = true := by kernel_rfl
def r532 : List AV × AV := ([.ro [.int .i64 3] 1, .ro [.int .i64 136] 1], .ro [.int .i64 408] 1)
theorem r532_ok : rowOk cfg0 M0 3000 85 r532 = true := by kernel_rfl
def r533 : List AV × AV := ([.ro [.int .i64 3] 1, .ro [.int .i64 126] 1], .ro [.int .i64 378] 1)
theorem r533_ok : rowOk cfg0 M0 3000 85 r533 = true := by kernel_rfl
def r534 : List AV × AV := ([.ro [.int .i64 3] 1, .ro [.int .i64 131] 1], .ro [.int .i64 393] 1)
theorem r534_ok : rowOk cfg0 M0 3000 85 r534 = true := by kernel_rfl
def r535 : List AV × AV := ([.ro [.int .i64 3] 1, .ro [.int .i64 128] 1], .ro [.int .i64 384] 1)
theorem r535_ok : rowOk cfg0 M0 3000 85 r535 = true := by kernel_rfl
def r536 : List AV × AV := ([.ro [.int .i64 3] 1, .ro [.int .i64 127] 1], .ro [.int .i64 381] 1)
theorem r536_ok : rowOk cfg0 M0 3000 85 r536 = true := by kernel_rfl
def r537 : List AV × AV := ([.ro [.int .i64 3] 1, .ro [.int .i64 7500] 1], .ro [.int .i64 2500, .int .i64 2] 2)
theorem r537_ok : rowOk cfg0 M0 3000 85 r537 = true := by kernel_rfl
def r538 : List AV × AV := ([.ro [.int .i64 3] 1, .ro [.int .i64 6250] 1], .ro [.int .i64 8750, .int .i64 1] 2)
theorem r538_ok : rowOk cfg0 M0 3000 85 r538 = true := by kernel_rfl
def r539 : List AV × AV := ([.ro [.int .i64 3] 1, .ro [.int .i64 5625] 1], .ro [.int .i64 6875, .int .i64 1] 2)
theorem r539_ok : rowOk cfg0 M0 3000 85 r539 = true := by kernel_rfl
def r540 : List AV × AV := ([.ro [.int .i64 3] 1, .ro [.int .i64 5312] 1], .ro [.int .i64 5936, .int .i64 1] 2)
theorem r540_ok : rowOk cfg0 M0 3000 85 r540 = true := by kernel_rfl
def r541 : List AV × AV := ([.ro [.int .i64 3] 1, .ro [.int .i64 5156] 1], .ro [.int .i64 5468, .int .i64 1] 2)
theorem r541_ok : rowOk cfg0 M0 3000 85 r541 = true := by kernel_rfl
def r542 : List AV × AV := ([.ro [.int .i64 3] 1, .ro [.int .i64 5078] 1], .ro [.int .i64 5234, .int .i64 1] 2)
theorem r542_ok : rowOk cfg0 M0 3000 85 r542 = true := by kernel_rfl
def r543 : List AV × AV := ([.ro [.int .i64 3] 1, .ro [.int .i64 5039] 1], .ro [.int .i64 5117, .int .i64 1] 2)
theorem r543_ok : rowOk cfg0 M0 3000 85 r543 = true := by kernel_rfl
def r544 : List AV × AV := ([.ro [.int .i64 3] 1, .ro [.int .i64 5019] 1], .ro [.int .i64 5057, .int .i64 1] 2)
theorem r544_ok : rowOk cfg0 M0 3000 85 r544 = true := by kernel_rfl
def r545 : List AV × AV := ([.ro [.int .i64 3] 1, .ro [.int .i64 5009] 1], .ro [.int .i64 5027, .int .i64 1] 2)
theorem r545_ok : rowOk cfg0 M0 3000 85 r545 = true := by kernel_rfl
def r546 : List AV × AV := ([.ro [.int .i64 3] 1, .ro [.int .i64 5004] 1], .ro [.int .i64 5012, .int .i64 1] 2)
theorem r546_ok : rowOk cfg0 M0 3000 85 r546 = true := by kernel_rfl
def r547 : List AV × AV := ([.ro [.int .i64 3] 1, .ro [.int .i64 5002] 1], .ro [.int .i64 5006, .int .i64 1] 2)
theorem r547_ok : rowOk cfg0 M0 3000 85 r547 = true := by kernel_rfl
def r548 : List AV × AV := ([.ro [.int .i64 3] 1, .ro [.int .i64 5001] 1], .ro [.int .i64 5003, .int .i64 1] 2)
theorem r548_ok : rowOk cfg0 M0 3000 85 r548 = true := by kernel_rfl
def r549 : List AV × AV := ([.str [121, 97, 114, 100]], .bool true)
theorem r549_ok : rowOk cfg0 M0 3000 221 r549 = true := by kernel_rfl
def r550 : List AV × AV := ([.str [51]], .tuple [.agg [.bool false, .ro [.int .i64 3] 1], .bool true])
theorem r550_ok : rowOk cfg0 M0 3000 224 r550 = true := by kernel_rfl
def r551 : List AV × AV := ([.ro [.int .i64 1143] 1, .ro [.int .i64 5000] 1], .ro [.int .i64 5000, .int .i64 571] 2)
theorem r551_ok : rowOk cfg0 M0 3000 85 r551 = true := by kernel_rfl
def r552 : List AV × AV := ([.ro [.int .i64 1143] 1, .ro [.int .i64 2500] 1], .ro [.int .i64 7500, .int .i64 285] 2)
theorem r552_ok : rowOk cfg0 M0 3000 85 r552 = true := by kernel_rfl
def r553 : List AV × AV := ([.ro [.int .i64 1143] 1, .ro [.int .i64 1250] 1], .ro [.int .i64 8750, .int .i64 142] 2)
theorem r553_ok : rowOk cfg0 M0 3000 85 r553 = true := by kernel_rfl
def r554 : List AV × AV := ([.ro [.int .i64 1143] 1, .ro [.int .i64 625] 1], .ro [.int .i64 4375, .int .i64 71] 2)
theorem r554_ok : rowOk cfg0 M0 3000 85 r554 = true := by kernel_rfl
def r555 : List AV × AV := ([.ro [.int .i64 1143] 1, .ro [.int .i64 312] 1], .ro [.int .i64 6616, .int .i64 35] 2)
theorem r555_ok : rowOk cfg0 M0 3000 85 r555 = true := by kernel_rfl
def r556 : List AV × AV := ([.ro [.int .i64 1143] 1, .ro [.int .i64 156] 1], .ro [.int .i64 8308, .int .i64 17] 2)
theorem r556_ok : rowOk cfg0 M0 3000 85 r556 = true := by kernel_rfl
def r557 : List AV × AV := ([.ro [.int .i64 1143] 1, .ro [.int .i64 78] 1], .ro [.int .i64 9154, .int .i64 8] 2)
theorem r557_ok : rowOk cfg0 M0 3000 85 r557 = true := by kernel_rfl
def r558 : List AV × AV := ([.ro [.int .i64 1143] 1, .ro [.int .i64 39] 1], .ro [.int .i64 4577, .int .i64 4] 2)
theorem r558_ok : rowOk cfg0 M0 3000 85 r558 = true := by kernel_rfl
def r559 : List AV × AV := ([.ro [.int .i64 1143] 1, .ro [.int .i64 19] 1], .ro [.int .i64 1717, .int .i64 2] 2)
theorem r559_ok : rowOk cfg0 M0 3000 85 r559 = true := by kernel_rfl
def r560 : List AV × AV := ([.ro [.int .i64 1143] 1, .ro [.int .i64 9] 1], .ro [.int .i64 287, .int .i64 1] 2)
theorem r560_ok : rowOk cfg0 M0 3000 85 r560 = true := by kernel_rfl
def r561 : List AV × AV := ([.ro [.int .i64 1143] 1, .ro [.int .i64 4] 1], .ro [.int .i64 4572] 1)
theorem r561_ok : rowOk cfg0 M0 3000 85 r561 = true := by kernel_rfl
def r562 : List AV × AV := ([.ro [.int .i64 1143] 1, .ro [.int .i64 2] 1], .ro [.int .i64 2286] 1)
theorem r562_ok : rowOk cfg0 M0 3000 85 r562 = true := by kernel_rfl
def r563 : List AV × AV := ([.ro [.int .i64 1143] 1, .ro [.int .i64 1] 1], .ro [.int .i64 1143] 1)
theorem r563_ok : rowOk cfg0 M0 3000 85 r563 = true := by kernel_rfl
def r564 : List AV × AV := ([.ro [.int .i64 107] 1, .ro [.int .i64 14] 1], .ro [.int .i64 1498] 1)
theorem r564_ok : rowOk cfg0 M0 3000 85 r564 = true := by kernel_rfl
def r565 : List AV × AV := ([.ro [.int .i64 107] 1, .ro [.int .i64 11] 1], .ro [.int .i64 1177] 1)
theorem r565_ok : rowOk cfg0 M0 3000 85 r565 = true := by kernel_rfl
def r566 : List AV × AV := ([.ro [.int .i64 107] 1, .ro [.int .i64 10] 1], .ro [.int .i64 1070] 1)
theorem r566_ok : rowOk cfg0 M0 3000 85 r566 = true := by kernel_rfl
def r567 : List AV × AV := ([.ro [.int .i64 73] 1, .ro [.int .i64 5000] 1], .ro [.int .i64 5000, .int .i64 36] 2)
theorem r567_ok : rowOk cfg0 M0 3000 85 r567 = true := by kernel_rfl
def r568 : List AV × AV := ([.ro [.int .i64 73] 1, .ro [.int .i64 2500] 1], .ro [.int .i64 2500, .int .i64 18] 2)
theorem r568_ok : rowOk cfg0 M0 3000 85 r568 = true := by kernel_rfl
def r569 : List AV × AV := ([.ro [.int .i64 73] 1, .ro [.int .i64 1250] 1], .ro [.int .i64 1250, .int .i64 9] 2)
theorem r569_ok : rowOk cfg0 M0 3000 85 r569 = true := by kernel_rfl
def r570 : List AV × AV := ([.ro [.int .i64 73] 1, .ro [.int .i64 625] 1], .ro [.int .i64 5625, .int .i64 4] 2)
theorem r570_ok : rowOk cfg0 M0 3000 85 r570 = true := by kernel_rfl
def r571 : List AV × AV := ([.ro [.int .i64 73] 1, .ro [.int .i64 312] 1], .ro [.int .i64 2776, .int .i64 2] 2)
theorem r571_ok : rowOk cfg0 M0 3000 85 r571 = true := by kernel_rfl
def r572 : List AV × AV := ([.ro [.int .i64 73] 1, .ro [.int .i64 156] 1], .ro [.int .i64 1388, .int .i64 1] 2)
theorem r572_ok : rowOk cfg0 M0 3000 85 r572 = true := by kernel_rfl
def r573 : List AV × AV := ([.ro [.int .i64 73] 1, .ro [.int .i64 78] 1], .ro [.int .i64 5694] 1)
theorem r573_ok : rowOk cfg0 M0 3000 85 r573 = true := by kernel_rfl
def r574 : List AV × AV := ([.ro [.int .i64 73] 1, .ro [.int .i64 39] 1], .ro [.int .i64 2847] 1)
theorem r574_ok : rowOk cfg0 M0 3000 85 r574 = true := by kernel_rfl
def r575 : List AV × AV := ([.ro [.int .i64 73] 1, .ro [.int .i64 19] 1], .ro [.int .i64 1387] 1)
theorem r575_ok : rowOk cfg0 M0 3000 85 r575 = true := by kernel_rfl
def r576 : List AV × AV := ([.ro [.int .i64 73] 1, .ro [.int .i64 9] 1], .ro [.int .i64 657] 1)
theorem r576_ok : rowOk cfg0 M0 3000 85 r576 = true := by kernel_rfl
def r577 : List AV × AV := ([.ro [.int .i64 73] 1, .ro [.int .i64 4] 1], .ro [.int .i64 292] 1)
theorem r577_ok : rowOk cfg0 M0 3000 85 r577 = true := by kernel_rfl
def r578 : List AV × AV := ([.ro [.int .i64 73] 1, .ro [.int .i64 2] 1], .ro [.int .i64 146] 1)
theorem r578_ok : rowOk cfg0 M0 3000 85 r578 = true := by kernel_rfl
def r579 : List AV × AV := ([.ro [.int .i64 73] 1, .ro [.int .i64 1] 1], .ro [.int .i64 73] 1)
theorem r579_ok : rowOk cfg0 M0 3000 85 r579 = true := by kernel_rfl
def r580 : List AV × AV := ([.ro [.int .i64 34] 1, .ro [.int .i64 5000] 1], .ro [.int .i64 0, .int .i64 17] 2)
theorem r580_ok : rowOk cfg0 M0 3000 85 r580 = true := by kernel_rfl
def r581 : List AV × AV := ([.ro [.int .i64 34] 1, .ro [.int .i64 2500] 1], .ro [.int .i64 5000, .int .i64 8] 2)
theorem r581_ok : rowOk cfg0 M0 3000 85 r581 = true := by kernel_rfl
def r582 : List AV × AV := ([.ro [.int .i64 34] 1, .ro [.int .i64 1250] 1], .ro [.int .i64 2500, .int .i64 4] 2)
theorem r582_ok : rowOk cfg0 M0 3000 85 r582 = true := by kernel_rfl
def r583 : List AV × AV := ([.ro [.int .i64 34] 1, .ro [.int .i64 625] 1], .ro [.int .i64 1250, .int .i64 2] 2)
theorem r583_ok : rowOk cfg0 M0 3000 85 r583 = true := by kernel_rfl
def r584 : List AV × AV := ([.ro [.int .i64 34] 1, .ro [.int .i64 312] 1], .ro [.int .i64 608, .int .i64 1] 2)
theorem r584_ok : rowOk cfg0 M0 3000 85 r584 = true := by kernel_rfl
def r585 : List AV × AV := ([.ro [.int .i64 34] 1, .ro [.int .i64 156] 1], .ro [.int .i64 5304] 1)
theorem r585_ok : rowOk cfg0 M0 3000 85 r585 = true := by kernel_rfl
def r586 : List AV × AV := ([.ro [.int .i64 34] 1, .ro [.int .i64 78] 1], .ro [.int .i64 2652] 1)
theorem r586_ok : rowOk cfg0 M0 3000 85 r586 = true := by kernel_rfl
def r587 : List AV × AV := ([.ro [.int .i64 34] 1, .ro [.int .i64 39] 1], .ro [.int .i64 1326] 1)
theorem r587_ok : rowOk cfg0 M0 3000 85 r587 = true := by kernel_rfl
def r588 : List AV × AV := ([.ro [.int .i64 34] 1, .ro [.int .i64 19] 1], .ro [.int .i64 646] 1)
theorem r588_ok : rowOk cfg0 M0 3000 85 r588 = true := by kernel_rfl
def r589 : List AV × AV := ([.ro [.int .i64 34] 1, .ro [.int .i64 9] 1], .ro [.int .i64 306] 1)
theorem r589_ok : rowOk cfg0 M0 3000 85 r589 = true := by kernel_rfl
def r590 : List AV × AV := ([.ro [.int .i64 34] 1, .ro [.int .i64 4] 1], .ro [.int .i64 136] 1)
theorem r590_ok : rowOk cfg0 M0 3000 85 r590 = true := by kernel_rfl
def r591 : List AV × AV := ([.ro [.int .i64 34] 1, .ro [.int .i64 2] 1], .ro [.int .i64 68] 1)
theorem r591_ok : rowOk cfg0 M0 3000 85 r591 = true := by kernel_rfl
def r592 : List AV × AV := ([.ro [.int .i64 34] 1, .ro [.int .i64 3] 1], .ro [.int .i64 102] 1)
theorem r592_ok : rowOk cfg0 M0 3000 85 r592 = true := by kernel_rfl
def r593 : List AV × AV := ([.ro [.int .i64 5] 1, .ro [.int .i64 6] 1], .ro [.int .i64 30] 1)
theorem r593_ok : rowOk cfg0 M0 3000 85 r593 = true := by kernel_rfl
def r594 : List AV × AV := ([.ro [.int .i64 5] 1, .ro [.int .i64 7] 1], .ro [.int .i64 35] 1)
theorem r594_ok : rowOk cfg0 M0 3000 85 r594 = true := by kernel_rfl
def r595 : List AV × AV := ([.ro [.int .i64 4] 1, .ro [.int .i64 5000] 1], .ro [.int .i64 0, .int .i64 2] 2)
theorem r595_ok : rowOk cfg0 M0 3000 85 r595 = true := by kernel_rfl
def r596 : List AV × AV := ([.ro [.int .i64 4] 1, .ro [.int .i64 2500] 1], .ro [.int .i64 0, .int .i64 1] 2)
theorem r596_ok : rowOk cfg0 M0 3000 85 r596 = true := by kernel_rfl
def r597 : List AV × AV := ([.ro [.int .i64 4] 1, .ro [.int .i64 1250] 1], .ro [.int .i64 5000] 1)
theorem r597_ok : rowOk cfg0 M0 3000 85 r597 = true := by kernel_rfl
def r598 : List AV × AV := ([.ro [.int .i64 4] 1, .ro [.int .i64 625] 1], .ro [.int .i64 2500] 1)
theorem r598_ok : rowOk cfg0 M0 3000 85 r598 = true := by kernel_rfl
def r599 : List AV × AV := ([.ro [.int .i64 4] 1, .ro [.int .i64 312] 1], .ro [.int .i64 1248] 1)
theorem r599_ok : rowOk cfg0 M0 3000 85 r599 = true := by kernel_rfl
def r600 : List AV × AV := ([.ro [.int .i64 4] 1, .ro [.int .i64 156] 1], .ro [.int .i64 624] 1)
theorem r600_ok : rowOk cfg0 M0 3000 85 r600 = true := by kernel_rfl
def r601 : List AV × AV := ([.ro [.int .i64 4] 1, .ro [.int .i64 78] 1], .ro [.int .i64 312] 1)
theorem r601_ok : rowOk cfg0 M0 3000 85 r601 = true := by kernel_rfl
def r602 : List AV × AV := ([.ro [.int .i64 4] 1, .ro [.int .i64 39] 1], .ro [.int .i64 156] 1)
theorem r602_ok : rowOk cfg0 M0 3000 85 r602 = true := by kernel_rfl
def r603 : List AV × AV := ([.ro [.int .i64 4] 1, .ro [.int .i64 19] 1], .ro [.int .i64 76] 1)
theorem r603_ok : rowOk cfg0 M0 3000 85 r603 = true := by kernel_rfl
def r604 : List AV × AV := ([.ro [.int .i64 4] 1, .ro [.int .i64 9] 1], .ro [.int .i64 36] 1)
theorem r604_ok : rowOk cfg0 M0 3000 85 r604 = true := by kernel_rfl
def r605 : List AV × AV := ([.ro [.int .i64 4] 1, .ro [.int .i64 4] 1], .ro [.int .i64 16] 1)
theorem r605_ok : rowOk cfg0 M0 3000 85 r605 = true := by kernel_rfl
def r606 : List AV × AV := ([.ro [.int .i64 4] 1, .ro [.int .i64 2] 1], .ro [.int .i64 8] 1)
theorem r606_ok : rowOk cfg0 M0 3000 85 r606 = true := by kernel_rfl
def r607 : List AV × AV := ([.ro [.int .i64 4] 1, .ro [.int .i64 1] 1], .ro [.int .i64 4] 1)
theorem r607_ok : rowOk cfg0 M0 3000 85 r607 = true := by kernel_rfl
def r608 : List AV × AV := ([.ro [.int .i64 1] 1, .ro [.int .i64 6] 1], .ro [.int .i64 6] 1)
theorem r608_ok : rowOk cfg0 M0 3000 85 r608 = true := by kernel_rfl
def r609 : List AV × AV := ([.ro [.int .i64 1] 1, .ro [.int .i64 5] 1], .ro [.int .i64 5] 1)
theorem r609_ok : rowOk cfg0 M0 3000 85 r609 = true := by kernel_rfl
def r610 : List AV × AV := ([.ro [.int .i64 1] 1, .ro [.int .i64 1171] 1], .ro [.int .i64 1171] 1)
theorem r610_ok : rowOk cfg0 M0 3000 85 r610 = true := by kernel_rfl
def r611 : List AV × AV := ([.ro [.int .i64 1] 1, .ro [.int .i64 1132] 1], .ro [.int .i64 1132] 1)
theorem r611_ok : rowOk cfg0 M0 3000 85 r611 = true := by kernel_rfl
def r612 : List AV × AV := ([.ro [.int .i64 1] 1, .ro [.int .i64 1151] 1], .ro [.int .i64 1151] 1)
theorem r612_ok : rowOk cfg0 M0 3000 85 r612 = true := by kernel_rfl
def r613 : List AV × AV := ([.ro [.int .i64 1] 1, .ro [.int .i64 1141] 1], .ro [.int .i64 1141] 1)
theorem r613_ok : rowOk cfg0 M0 3000 85 r613 = true := by kernel_rfl
def r614 : List AV × AV := ([.ro [.int .i64 1] 1, .ro [.int .i64 1146] 1], .ro [.int .i64 1146] 1)
theorem r614_ok : rowOk cfg0 M0 3000 85 r614 = true := by kernel_rfl
def r615 : List AV × AV := ([.ro [.int .i64 1] 1, .ro [.int .i64 1143] 1], .ro [.int .i64 1143] 1)
theorem r615_ok : rowOk cfg0 M0 3000 85 r615 = true := by kernel_rfl
def r616 : List AV × AV := ([.ro [.int .i64 1] 1, .ro [.int .i64 1144] 1], .ro [.int .i64 1144] 1)
theorem r616_ok : rowOk cfg0 M0 3000 85 r616 = true := by kernel_rfl
def r617 : List AV × AV := ([.str [109, 105, 110, 117, 116, 101]], .bool true)
theorem r617_ok : rowOk cfg0 M0 3000 221 r617 = true := by kernel_rfl
def r618 : List AV × AV := ([.str [54, 48]], .tuple [.ro [.int .i64 60] 1, .bool true])
theorem r618_ok : rowOk cfg0 M0 3000 225 r618 = true := by kernel_rfl
def r619 : List AV × AV := ([.str [115, 101, 99, 111, 110, 100]], .int .i64 0)
theorem r619_ok : rowOk cfg0 M0 3000 276 r619 = true := by kernel_rfl
def r620 : List AV × AV := ([.agg [.int .i64 0, .int .i64 1, .int .i64 0, .int .i64 0, .int .i64 0, .int .i64 0, .int .i64 0, .int .i64 0]], .bool true)
theorem r620_ok : rowOk cfg0 M0 3000 29 r620 = true := by kernel_rfl
def r621 : List AV × AV := ([.ro [.int .i64 1] 1, .ro [.int .i64 60] 1], .ro [.int .i64 60] 1)
theorem r621_ok : rowOk cfg0 M0 3000 85 r621 = true := by kernel_rfl
def r622 : List AV × AV := ([.ro [.int .i64 1] 1, .ro [.int .i64 58] 1], .ro [.int .i64 58] 1)
theorem r622_ok : rowOk cfg0 M0 3000 85 r622 = true := by kernel_rfl
def r623 : List AV × AV := ([.ro [.int .i64 1] 1, .ro [.int .i64 68] 1], .ro [.int .i64 68] 1)
theorem r623_ok : rowOk cfg0 M0 3000 85 r623 = true := by kernel_rfl
def r624 : List AV × AV := ([.ro [.int .i64 1] 1, .ro [.int .i64 63] 1], .ro [.int .i64 63] 1)
theorem r624_ok : rowOk cfg0 M0 3000 85 r624 = true := by kernel_rfl
def r625 : List AV × AV := ([.ro [.int .i64 1] 1, .ro [.int .i64 61] 1], .ro [.int .i64 61] 1)
theorem r625_ok : rowOk cfg0 M0 3000 85 r625 = true := by kernel_rfl
def r626 : List AV × AV := ([.str [99, 101, 108, 115, 105, 117, 115]], .bool true)
theorem r626_ok : rowOk cfg0 M0 3000 221 r626 = true := by kernel_rfl
def r627 : List AV × AV := ([.str [107, 101, 108, 118, 105, 110]], .int .i64 0)
theorem r627_ok : rowOk cfg0 M0 3000 276 r627 = true := by kernel_rfl
def r628 : List AV × AV := ([.str [50, 55, 51, 49, 53]], .tuple [.ro [.int .i64 7315, .int .i64 2] 2, .bool true])
theorem r628_ok : rowOk cfg0 M0 3000 225 r628 = true := by kernel_rfl
def r629 : List AV × AV := ([.str [49, 48, 48]], .tuple [.ro [.int .i64 100] 1, .bool true])
theorem r629_ok : rowOk cfg0 M0 3000 225 r629 = true := by kernel_rfl
def r630 : List AV × AV := ([.ro [.int .i64 100] 1, .ro [.int .i64 234] 1], .ro [.int .i64 3400, .int .i64 2] 2)
theorem r630_ok : rowOk cfg0 M0 3000 85 r630 = true := by kernel_rfl
def r631 : List AV × AV := ([.ro [.int .i64 100] 1, .ro [.int .i64 273] 1], .ro [.int .i64 7300, .int .i64 2] 2)
theorem r631_ok : rowOk cfg0 M0 3000 85 r631 = true := by kernel_rfl
def r632 : List AV × AV := ([.ro [.int .i64 100] 1, .ro [.int .i64 292] 1], .ro [.int .i64 9200, .int .i64 2] 2)
theorem r632_ok : rowOk cfg0 M0 3000 85 r632 = true := by kernel_rfl
def r633 : List AV × AV := ([.ro [.int .i64 100] 1, .ro [.int .i64 282] 1], .ro [.int .i64 8200, .int .i64 2] 2)
theorem r633_ok : rowOk cfg0 M0 3000 85 r633 = true := by kernel_rfl
def r634 : List AV × AV := ([.ro [.int .i64 100] 1, .ro [.int .i64 277] 1], .ro [.int .i64 7700, .int .i64 2] 2)
theorem r634_ok : rowOk cfg0 M0 3000 85 r634 = true := by kernel_rfl
def r635 : List AV × AV := ([.ro [.int .i64 100] 1, .ro [.int .i64 275] 1], .ro [.int .i64 7500, .int .i64 2] 2)
theorem r635_ok : rowOk cfg0 M0 3000 85 r635 = true := by kernel_rfl
def r636 : List AV × AV := ([.ro [.int .i64 100] 1, .ro [.int .i64 274] 1], .ro [.int .i64 7400, .int .i64 2] 2)
theorem r636_ok : rowOk cfg0 M0 3000 85 r636 = true := by kernel_rfl
def r637 : List AV × AV := ([.ro [.int .i64 15] 1, .ro [.int .i64 6] 1], .ro [.int .i64 90] 1)
theorem r637_ok : rowOk cfg0 M0 3000 85 r637 = true := by kernel_rfl
def r638 : List AV × AV := ([.ro [.int .i64 15] 1, .ro [.int .i64 7] 1], .ro [.int .i64 105] 1)
theorem r638_ok : rowOk cfg0 M0 3000 85 r638 = true := by kernel_rfl
def r639 : List AV × AV := ([.ro [.int .i64 5] 1, .ro [.int .i64 3] 1], .ro [.int .i64 15] 1)
theorem r639_ok : rowOk cfg0 M0 3000 85 r639 = true := by kernel_rfl
def r640 : List AV × AV := ([.ro [.int .i64 5] 1, .ro [.int .i64 7500] 1], .ro [.int .i64 7500, .int .i64 3] 2)
theorem r640_ok : rowOk cfg0 M0 3000 85 r640 = true := by kernel_rfl
def r641 : List AV × AV := ([.ro [.int .i64 5] 1, .ro [.int .i64 6250] 1], .ro [.int .i64 1250, .int .i64 3] 2)
theorem r641_ok : rowOk cfg0 M0 3000 85 r641 = true := by kernel_rfl
def r642 : List AV × AV := ([.ro [.int .i64 5] 1, .ro [.int .i64 5625] 1], .ro [.int .i64 8125, .int .i64 2] 2)
theorem r642_ok : rowOk cfg0 M0 3000 85 r642 = true := by kernel_rfl
def r643 : List AV × AV := ([.ro [.int .i64 5] 1, .ro [.int .i64 5312] 1], .ro [.int .i64 6560, .int .i64 2] 2)
theorem r643_ok : rowOk cfg0 M0 3000 85 r643 = true := by kernel_rfl
def r644 : List AV × AV := ([.ro [.int .i64 5] 1, .ro [.int .i64 5468] 1], .ro [.int .i64 7340, .int .i64 2] 2)
theorem r644_ok : rowOk cfg0 M0 3000 85 r644 = true := by kernel_rfl
def r645 : List AV × AV := ([.ro [.int .i64 5] 1, .ro [.int .i64 5390] 1], .ro [.int .i64 6950, .int .i64 2] 2)
theorem r645_ok : rowOk cfg0 M0 3000 85 r645 = true := by kernel_rfl
def r646 : List AV × AV := ([.ro [.int .i64 5] 1, .ro [.int .i64 5429] 1], .ro [.int .i64 7145, .int .i64 2] 2)
theorem r646_ok : rowOk cfg0 M0 3000 85 r646 = true := by kernel_rfl
def r647 : List AV × AV := ([.ro [.int .i64 5] 1, .ro [.int .i64 5448] 1], .ro [.int .i64 7240, .int .i64 2] 2)
theorem r647_ok : rowOk cfg0 M0 3000 85 r647 = true := by kernel_rfl
def r648 : List AV × AV := ([.ro [.int .i64 5] 1, .ro [.int .i64 5458] 1], .ro [.int .i64 7290, .int .i64 2] 2)
theorem r648_ok : rowOk cfg0 M0 3000 85 r648 = true := by kernel_rfl
def r649 : List AV × AV := ([.ro [.int .i64 5] 1, .ro [.int .i64 5463] 1], .ro [.int .i64 7315, .int .i64 2] 2)
theorem r649_ok : rowOk cfg0 M0 3000 85 r649 = true := by kernel_rfl
def r650 : List AV × AV := ([.ro [.int .i64 5] 1, .ro [.int .i64 5465] 1], .ro [.int .i64 7325, .int .i64 2] 2)
theorem r650_ok : rowOk cfg0 M0 3000 85 r650 = true := by kernel_rfl
def r651 : List AV × AV := ([.ro [.int .i64 5] 1, .ro [.int .i64 5464] 1], .ro [.int .i64 7320, .int .i64 2] 2)
theorem r651_ok : rowOk cfg0 M0 3000 85 r651 = true := by kernel_rfl
def r652 : List AV × AV := ([.ro [.int .i64 5] 1, .ro [.int .i64 29] 1], .ro [.int .i64 145] 1)
theorem r652_ok : rowOk cfg0 M0 3000 85 r652 = true := by kernel_rfl
def r653 : List AV × AV := ([.ro [.int .i64 5] 1, .ro [.int .i64 24] 1], .ro [.int .i64 120] 1)
theorem r653_ok : rowOk cfg0 M0 3000 85 r653 = true := by kernel_rfl
def r654 : List AV × AV := ([.ro [.int .i64 5] 1, .ro [.int .i64 21] 1], .ro [.int .i64 105] 1)
theorem r654_ok : rowOk cfg0 M0 3000 85 r654 = true := by kernel_rfl
def r655 : List AV × AV := ([.ro [.int .i64 5] 1, .ro [.int .i64 20] 1], .ro [.int .i64 100] 1)
theorem r655_ok : rowOk cfg0 M0 3000 85 r655 = true := by kernel_rfl
def r656 : List AV × AV := ([.agg [.int .i64 0, .int .i64 0, .int .i64 1, .int .i64 0, .int .i64 0, .int .i64 0, .int .i64 0, .int .i64 0]], .bool true)
theorem r656_ok : rowOk cfg0 M0 3000 29 r656 = true := by kernel_rfl
def r657 : List AV × AV := ([.str [102, 97, 104, 114, 101, 110, 104, 101, 105, 116]], .bool true)
theorem r657_ok : rowOk cfg0 M0 3000 221 r657 = true := by kernel_rfl
def r658 : List AV × AV := ([.str [53]], .tuple [.agg [.bool false, .ro [.int .i64 5] 1], .bool true])
theorem r658_ok : rowOk cfg0 M0 3000 224 r658 = true := by kernel_rfl
def r659 : List AV × AV := ([.ro [.int .i64 9] 1, .ro [.int .i64 5000] 1], .ro [.int .i64 5000, .int .i64 4] 2)
theorem r659_ok : rowOk cfg0 M0 3000 85 r659 = true := by kernel_rfl
def r660 : List AV × AV := ([.ro [.int .i64 9] 1, .ro [.int .i64 2500] 1], .ro [.int .i64 2500, .int .i64 2] 2)
theorem r660_ok : rowOk cfg0 M0 3000 85 r660 = true := by kernel_rfl
def r661 : List AV × AV := ([.ro [.int .i64 9] 1, .ro [.int .i64 1250] 1], .ro [.int .i64 1250, .int .i64 1] 2)
theorem r661_ok : rowOk cfg0 M0 3000 85 r661 = true := by kernel_rfl
def r662 : List AV × AV := ([.ro [.int .i64 9] 1, .ro [.int .i64 625] 1], .ro [.int .i64 5625] 1)
theorem r662_ok : rowOk cfg0 M0 3000 85 r662 = true := by kernel_rfl
def r663 : List AV × AV := ([.ro [.int .i64 9] 1, .ro [.int .i64 312] 1], .ro [.int .i64 2808] 1)
theorem r663_ok : rowOk cfg0 M0 3000 85 r663 = true := by kernel_rfl
def r664 : List AV × AV := ([.ro [.int .i64 9] 1, .ro [.int .i64 156] 1], .ro [.int .i64 1404] 1)
theorem r664_ok : rowOk cfg0 M0 3000 85 r664 = true := by kernel_rfl
def r665 : List AV × AV := ([.ro [.int .i64 9] 1, .ro [.int .i64 78] 1], .ro [.int .i64 702] 1)
theorem r665_ok : rowOk cfg0 M0 3000 85 r665 = true := by kernel_rfl
def r666 : List AV × AV := ([.ro [.int .i64 9] 1, .ro [.int .i64 39] 1], .ro [.int .i64 351] 1)
theorem r666_ok : rowOk cfg0 M0 3000 85 r666 = true := by kernel_rfl
def r667 : List AV × AV := ([.ro [.int .i64 9] 1, .ro [.int .i64 19] 1], .ro [.int .i64 171] 1)
theorem r667_ok : rowOk cfg0 M0 3000 85 r667 = true := by kernel_rfl
def r668 : List AV × AV := ([.ro [.int .i64 9] 1, .ro [.int .i64 9] 1], .ro [.int .i64 81] 1)
theorem r668_ok : rowOk cfg0 M0 3000 85 r668 = true := by kernel_rfl
def r669 : List AV × AV := ([.ro [.int .i64 9] 1, .ro [.int .i64 4] 1], .ro [.int .i64 36] 1)
theorem r669_ok : rowOk cfg0 M0 3000 85 r669 = true := by kernel_rfl
def r670 : List AV × AV := ([.ro [.int .i64 9] 1, .ro [.int .i64 2] 1], .ro [.int .i64 18] 1)
theorem r670_ok : rowOk cfg0 M0 3000 85 r670 = true := by kernel_rfl
def r671 : List AV × AV := ([.ro [.int .i64 9] 1, .ro [.int .i64 1] 1], .ro [.int .i64 9] 1)
theorem r671_ok : rowOk cfg0 M0 3000 85 r671 = true := by kernel_rfl
def r672 : List AV × AV := ([.str [52, 53, 57, 54, 55]], .tuple [.ro [.int .i64 5967, .int .i64 4] 2, .bool true])
theorem r672_ok : rowOk cfg0 M0 3000 225 r672 = true := by kernel_rfl
def r673 : List AV × AV := ([.str [49, 56, 48]], .tuple [.ro [.int .i64 180] 1, .bool true])
theorem r673_ok : rowOk cfg0 M0 3000 225 r673 = true := by kernel_rfl
def r674 : List AV × AV := ([.ro [.int .i64 180] 1, .ro [.int .i64 5000] 1], .ro [.int .i64 0, .int .i64 90] 2)
theorem r674_ok : rowOk cfg0 M0 3000 85 r674 = true := by kernel_rfl
def r675 : List AV × AV := ([.ro [.int .i64 180] 1, .ro [.int .i64 2500] 1], .ro [.int .i64 0, .int .i64 45] 2)
theorem r675_ok : rowOk cfg0 M0 3000 85 r675 = true := by kernel_rfl
def r676 : List AV × AV := ([.ro [.int .i64 180] 1, .ro [.int .i64 1250] 1], .ro [.int .i64 5000, .int .i64 22] 2)
theorem r676_ok : rowOk cfg0 M0 3000 85 r676 = true := by kernel_rfl
def r677 : List AV × AV := ([.ro [.int .i64 180] 1, .ro [.int .i64 625] 1], .ro [.int .i64 2500, .int .i64 11] 2)
theorem r677_ok : rowOk cfg0 M0 3000 85 r677 = true := by kernel_rfl
def r678 : List AV × AV := ([.ro [.int .i64 180] 1, .ro [.int .i64 312] 1], .ro [.int .i64 6160, .int .i64 5] 2)
theorem r678_ok : rowOk cfg0 M0 3000 85 r678 = true := by kernel_rfl
def r679 : List AV × AV := ([.ro [.int .i64 180] 1, .ro [.int .i64 156] 1], .ro [.int .i64 8080, .int .i64 2] 2)
theorem r679_ok : rowOk cfg0 M0 3000 85 r679 = true := by kernel_rfl
def r680 : List AV × AV := ([.ro [.int .i64 180] 1, .ro [.int .i64 78] 1], .ro [.int .i64 4040, .int .i64 1] 2)
theorem r680_ok : rowOk cfg0 M0 3000 85 r680 = true := by kernel_rfl
def r681 : List AV × AV := ([.ro [.int .i64 180] 1, .ro [.int .i64 39] 1], .ro [.int .i64 7020] 1)
theorem r681_ok : rowOk cfg0 M0 3000 85 r681 = true := by kernel_rfl
def r682 : List AV × AV := ([.ro [.int .i64 180] 1, .ro [.int .i64 19] 1], .ro [.int .i64 3420] 1)
theorem r682_ok : rowOk cfg0 M0 3000 85 r682 = true := by kernel_rfl
def r683 : List AV × AV := ([.ro [.int .i64 180] 1, .ro [.int .i64 9] 1], .ro [.int .i64 1620] 1)
theorem r683_ok : rowOk cfg0 M0 3000 85 r683 = true := by kernel_rfl
def r684 : List AV × AV := ([.ro [.int .i64 180] 1, .ro [.int .i64 4] 1], .ro [.int .i64 720] 1)
theorem r684_ok : rowOk cfg0 M0 3000 85 r684 = true := by kernel_rfl
def r685 : List AV × AV := ([.ro [.int .i64 180] 1, .ro [.int .i64 2] 1], .ro [.int .i64 360] 1)
theorem r685_ok : rowOk cfg0 M0 3000 85 r685 = true := by kernel_rfl
def r686 : List AV × AV := ([.ro [.int .i64 180] 1, .ro [.int .i64 1] 1], .ro [.int .i64 180] 1)
theorem r686_ok : rowOk cfg0 M0 3000 85 r686 = true := by kernel_rfl
def r687 : List AV × AV := ([.ro [.int .i64 180] 1, .ro [.int .i64 234] 1], .ro [.int .i64 2120, .int .i64 4] 2)
theorem r687_ok : rowOk cfg0 M0 3000 85 r687 = true := by kernel_rfl
def r688 : List AV × AV := ([.ro [.int .i64 180] 1, .ro [.int .i64 273] 1], .ro [.int .i64 9140, .int .i64 4] 2)
theorem r688_ok : rowOk cfg0 M0 3000 85 r688 = true := by kernel_rfl
def r689 : List AV × AV := ([.ro [.int .i64 180] 1, .ro [.int .i64 253] 1], .ro [.int .i64 5540, .int .i64 4] 2)
theorem r689_ok : rowOk cfg0 M0 3000 85 r689 = true := by kernel_rfl
def r690 : List AV × AV := ([.ro [.int .i64 180] 1, .ro [.int .i64 263] 1], .ro [.int .i64 7340, .int .i64 4] 2)
theorem r690_ok : rowOk cfg0 M0 3000 85 r690 = true := by kernel_rfl
def r691 : List AV × AV := ([.ro [.int .i64 180] 1, .ro [.int .i64 258] 1], .ro [.int .i64 6440, .int .i64 4] 2)
theorem r691_ok : rowOk cfg0 M0 3000 85 r691 = true := by kernel_rfl
def r692 : List AV × AV := ([.ro [.int .i64 180] 1, .ro [.int .i64 255] 1], .ro [.int .i64 5900, .int .i64 4] 2)
theorem r692_ok : rowOk cfg0 M0 3000 85 r692 = true := by kernel_rfl
def r693 : List AV × AV := ([.ro [.int .i64 180] 1, .ro [.int .i64 256] 1], .ro [.int .i64 6080, .int .i64 4] 2)
theorem r693_ok : rowOk cfg0 M0 3000 85 r693 = true := by kernel_rfl
def r694 : List AV × AV := ([.ro [.int .i64 67] 1, .ro [.int .i64 5000] 1], .ro [.int .i64 5000, .int .i64 33] 2)
theorem r694_ok : rowOk cfg0 M0 3000 85 r694 = true := by kernel_rfl
def r695 : List AV × AV := ([.ro [.int .i64 67] 1, .ro [.int .i64 2500] 1], .ro [.int .i64 7500, .int .i64 16] 2)
theorem r695_ok : rowOk cfg0 M0 3000 85 r695 = true := by kernel_rfl
def r696 : List AV × AV := ([.ro [.int .i64 67] 1, .ro [.int .i64 1250] 1], .ro [.int .i64 3750, .int .i64 8] 2)
theorem r696_ok : rowOk cfg0 M0 3000 85 r696 = true := by kernel_rfl
def r697 : List AV × AV := ([.ro [.int .i64 67] 1, .ro [.int .i64 625] 1], .ro [.int .i64 1875, .int .i64 4] 2)
theorem r697_ok : rowOk cfg0 M0 3000 85 r697 = true := by kernel_rfl
def r698 : List AV × AV := ([.ro [.int .i64 67] 1, .ro [.int .i64 312] 1], .ro [.int .i64 904, .int .i64 2] 2)
theorem r698_ok : rowOk cfg0 M0 3000 85 r698 = true := by kernel_rfl
def r699 : List AV × AV := ([.ro [.int .i64 67] 1, .ro [.int .i64 156] 1], .ro [.int .i64 452, .int .i64 1] 2)
theorem r699_ok : rowOk cfg0 M0 3000 85 r699 = true := by kernel_rfl
def r700 : List AV × AV := ([.ro [.int .i64 67] 1, .ro [.int .i64 78] 1], .ro [.int .i64 5226] 1)
theorem r700_ok : rowOk cfg0 M0 3000 85 r700 = true := by kernel_rfl
def r701 : List AV × AV := ([.ro [.int .i64 67] 1, .ro [.int .i64 39] 1], .ro [.int .i64 2613] 1)
theorem r701_ok : rowOk cfg0 M0 3000 85 r701 = true := by kernel_rfl
def r702 : List AV × AV := ([.ro [.int .i64 67] 1, .ro [.int .i64 19] 1], .ro [.int .i64 1273] 1)
theorem r702_ok : rowOk cfg0 M0 3000 85 r702 = true := by kernel_rfl
def r703 : List AV × AV := ([.ro [.int .i64 67] 1, .ro [.int .i64 9] 1], .ro [.int .i64 603] 1)
theorem r703_ok : rowOk cfg0 M0 3000 85 r703 = true := by kernel_rfl
def r704 : List AV × AV := ([.ro [.int .i64 67] 1, .ro [.int .i64 4] 1], .ro [.int .i64 268] 1)
theorem r704_ok : rowOk cfg0 M0 3000 85 r704 = true := by kernel_rfl
def r705 : List AV × AV := ([.ro [.int .i64 67] 1, .ro [.int .i64 2] 1], .ro [.int .i64 134] 1)
theorem r705_ok : rowOk cfg0 M0 3000 85 r705 = true := by kernel_rfl
def r706 : List AV × AV := ([.ro [.int .i64 67] 1, .ro [.int .i64 3] 1], .ro [.int .i64 201] 1)
theorem r706_ok : rowOk cfg0 M0 3000 85 r706 = true := by kernel_rfl
def r707 : List AV × AV := ([.ro [.int .i64 46] 1, .ro [.int .i64 5000] 1], .ro [.int .i64 0, .int .i64 23] 2)
theorem r707_ok : rowOk cfg0 M0 3000 85 r707 = true := by kernel_rfl
def r708 : List AV × AV := ([.ro [.int .i64 46] 1, .ro [.int .i64 2500] 1], .ro [.int .i64 5000, .int .i64 11] 2)
theorem r708_ok : rowOk cfg0 M0 3000 85 r708 = true := by kernel_rfl
def r709 : List AV × AV := ([.ro [.int .i64 46] 1, .ro [.int .i64 1250] 1], .ro [.int .i64 7500, .int .i64 5] 2)
theorem r709_ok : rowOk cfg0 M0 3000 85 r709 = true := by kernel_rfl
def r710 : List AV × AV := ([.ro [.int .i64 46] 1, .ro [.int .i64 625] 1], .ro [.int .i64 8750, .int .i64 2] 2)
theorem r710_ok : rowOk cfg0 M0 3000 85 r710 = true := by kernel_rfl
def r711 : List AV × AV := ([.ro [.int .i64 46] 1, .ro [.int .i64 312] 1], .ro [.int .i64 4352, .int .i64 1] 2)
theorem r711_ok : rowOk cfg0 M0 3000 85 r711 = true := by kernel_rfl
def r712 : List AV × AV := ([.ro [.int .i64 46] 1, .ro [.int .i64 156] 1], .ro [.int .i64 7176] 1)
theorem r712_ok : rowOk cfg0 M0 3000 85 r712 = true := by kernel_rfl
def r713 : List AV × AV := ([.ro [.int .i64 46] 1, .ro [.int .i64 78] 1], .ro [.int .i64 3588] 1)
theorem r713_ok : rowOk cfg0 M0 3000 85 r713 = true := by kernel_rfl
def r714 : List AV × AV := ([.ro [.int .i64 46] 1, .ro [.int .i64 39] 1], .ro [.int .i64 1794] 1)
theorem r714_ok : rowOk cfg0 M0 3000 85 r714 = true := by kernel_rfl
def r715 : List AV × AV := ([.ro [.int .i64 46] 1, .ro [.int .i64 19] 1], .ro [.int .i64 874] 1)
theorem r715_ok : rowOk cfg0 M0 3000 85 r715 = true := by kernel_rfl
def r716 : List AV × AV := ([.ro [.int .i64 46] 1, .ro [.int .i64 9] 1], .ro [.int .i64 414] 1)
theorem r716_ok : rowOk cfg0 M0 3000 85 r716 = true := by kernel_rfl
def r717 : List AV × AV := ([.ro [.int .i64 46] 1, .ro [.int .i64 4] 1], .ro [.int .i64 184] 1)
theorem r717_ok : rowOk cfg0 M0 3000 85 r717 = true := by kernel_rfl
def r718 : List AV × AV := ([.ro [.int .i64 46] 1, .ro [.int .i64 2] 1], .ro [.int .i64 92] 1)
theorem r718_ok : rowOk cfg0 M0 3000 85 r718 = true := by kernel_rfl
def r719 : List AV × AV := ([.ro [.int .i64 46] 1, .ro [.int .i64 1] 1], .ro [.int .i64 46] 1)
theorem r719_ok : rowOk cfg0 M0 3000 85 r719 = true := by kernel_rfl
def r720 : List AV × AV := ([.ro [.int .i64 21] 1, .ro [.int .i64 5000] 1], .ro [.int .i64 5000, .int .i64 10] 2)
theorem r720_ok : rowOk cfg0 M0 3000 85 r720 = true := by kernel_rfl
def r721 : List AV × AV := ([.ro [.int .i64 21] 1, .ro [.int .i64 2500] 1], .ro [.int .i64 2500, .int .i64 5] 2)
theorem r721_ok : rowOk cfg0 M0 3000 85 r721 = true := by kernel_rfl
def r722 : List AV × AV := ([.ro [.int .i64 21] 1, .ro [.int .i64 1250] 1], .ro [.int .i64 6250, .int .i64 2] 2)
theorem r722_ok : rowOk cfg0 M0 3000 85 r722 = true := by kernel_rfl
def r723 : List AV × AV := ([.ro [.int .i64 21] 1, .ro [.int .i64 625] 1], .ro [.int .i64 3125, .int .i64 1] 2)
theorem r723_ok : rowOk cfg0 M0 3000 85 r723 = true := by kernel_rfl
def r724 : List AV × AV := ([.ro [.int .i64 21] 1, .ro [.int .i64 312] 1], .ro [.int .i64 6552] 1)
theorem r724_ok : rowOk cfg0 M0 3000 85 r724 = true := by kernel_rfl
def r725 : List AV × AV := ([.ro [.int .i64 21] 1, .ro [.int .i64 156] 1], .ro [.int .i64 3276] 1)
theorem r725_ok : rowOk cfg0 M0 3000 85 r725 = true := by kernel_rfl
def r726 : List AV × AV := ([.ro [.int .i64 21] 1, .ro [.int .i64 78] 1], .ro [.int .i64 1638] 1)
theorem r726_ok : rowOk cfg0 M0 3000 85 r726 = true := by kernel_rfl
def r727 : List AV × AV := ([.ro [.int .i64 21] 1, .ro [.int .i64 39] 1], .ro [.int .i64 819] 1)
theorem r727_ok : rowOk cfg0 M0 3000 85 r727 = true := by kernel_rfl
def r728 : List AV × AV := ([.ro [.int .i64 21] 1, .ro [.int .i64 19] 1], .ro [.int .i64 399] 1)
theorem r728_ok : rowOk cfg0 M0 3000 85 r728 = true := by kernel_rfl
def r729 : List AV × AV := ([.ro [.int .i64 21] 1, .ro [.int .i64 9] 1], .ro [.int .i64 189] 1)
theorem r729_ok : rowOk cfg0 M0 3000 85 r729 = true := by kernel_rfl
def r730 : List AV × AV := ([.ro [.int .i64 21] 1, .ro [.int .i64 4] 1], .ro [.int .i64 84] 1)
theorem r730_ok : rowOk cfg0 M0 3000 85 r730 = true := by kernel_rfl
def r731 : List AV × AV := ([.ro [.int .i64 21] 1, .ro [.int .i64 2] 1], .ro [.int .i64 42] 1)
theorem r731_ok : rowOk cfg0 M0 3000 85 r731 = true := by kernel_rfl
def r732 : List AV × AV := ([.ro [.int .i64 21] 1, .ro [.int .i64 3] 1], .ro [.int .i64 63] 1)
theorem r732_ok : rowOk cfg0 M0 3000 85 r732 = true := by kernel_rfl
def r733 : List AV × AV := ([.ro [.int .i64 4] 1, .ro [.int .i64 6] 1], .ro [.int .i64 24] 1)
theorem r733_ok : rowOk cfg0 M0 3000 85 r733 = true := by kernel_rfl
def r734 : List AV × AV := ([.ro [.int .i64 4] 1, .ro [.int .i64 5] 1], .ro [.int .i64 20] 1)
theorem r734_ok : rowOk cfg0 M0 3000 85 r734 = true := by kernel_rfl
def r735 : List AV × AV := ([.ro [.int .i64 1] 1, .ro [.int .i64 7500] 1], .ro [.int .i64 7500] 1)
theorem r735_ok : rowOk cfg0 M0 3000 85 r735 = true := by kernel_rfl
def r736 : List AV × AV := ([.ro [.int .i64 1] 1, .ro [.int .i64 6250] 1], .ro [.int .i64 6250] 1)
theorem r736_ok : rowOk cfg0 M0 3000 85 r736 = true := by kernel_rfl
def r737 : List AV × AV := ([.ro [.int .i64 1] 1, .ro [.int .i64 5625] 1], .ro [.int .i64 5625] 1)
theorem r737_ok : rowOk cfg0 M0 3000 85 r737 = true := by kernel_rfl
def r738 : List AV × AV := ([.ro [.int .i64 1] 1, .ro [.int .i64 5937] 1], .ro [.int .i64 5937] 1)
theorem r738_ok : rowOk cfg0 M0 3000 85 r738 = true := by kernel_rfl
def r739 : List AV × AV := ([.ro [.int .i64 1] 1, .ro [.int .i64 6093] 1], .ro [.int .i64 6093] 1)
theorem r739_ok : rowOk cfg0 M0 3000 85 r739 = true := by kernel_rfl
def r740 : List AV × AV := ([.ro [.int .i64 1] 1, .ro [.int .i64 6015] 1], .ro [.int .i64 6015] 1)
theorem r740_ok : rowOk cfg0 M0 3000 85 r740 = true := by kernel_rfl
def r741 : List AV × AV := ([.ro [.int .i64 1] 1, .ro [.int .i64 5976] 1], .ro [.int .i64 5976] 1)
theorem r741_ok : rowOk cfg0 M0 3000 85 r741 = true := by kernel_rfl
def r742 : List AV × AV := ([.ro [.int .i64 1] 1, .ro [.int .i64 5956] 1], .ro [.int .i64 5956] 1)
theorem r742_ok : rowOk cfg0 M0 3000 85 r742 = true := by kernel_rfl
def r743 : List AV × AV := ([.ro [.int .i64 1] 1, .ro [.int .i64 5966] 1], .ro [.int .i64 5966] 1)
theorem r743_ok : rowOk cfg0 M0 3000 85 r743 = true := by kernel_rfl
def r744 : List AV × AV := ([.ro [.int .i64 1] 1, .ro [.int .i64 5971] 1], .ro [.int .i64 5971] 1)
theorem r744_ok : rowOk cfg0 M0 3000 85 r744 = true := by kernel_rfl
def r745 : List AV × AV := ([.ro [.int .i64 1] 1, .ro [.int .i64 5968] 1], .ro [.int .i64 5968] 1)
theorem r745_ok : rowOk cfg0 M0 3000 85 r745 = true := by kernel_rfl
def r746 : List AV × AV := ([.ro [.int .i64 1] 1, .ro [.int .i64 5967] 1], .ro [.int .i64 5967] 1)
theorem r746_ok : rowOk cfg0 M0 3000 85 r746 = true := by kernel_rfl
def r747 : List AV × AV := ([.ro [.int .i64 1] 1, .ro [.int .i64 234] 1], .ro [.int .i64 234] 1)
theorem r747_ok : rowOk cfg0 M0 3000 85 r747 = true := by kernel_rfl
def r748 : List AV × AV := ([.ro [.int .i64 1] 1, .ro [.int .i64 195] 1], .ro [.int .i64 195] 1)
theorem r748_ok : rowOk cfg0 M0 3000 85 r748 = true := by kernel_rfl
def r749 : List AV × AV := ([.ro [.int .i64 1] 1, .ro [.int .i64 175] 1], .ro [.int .i64 175] 1)
theorem r749_ok : rowOk cfg0 M0 3000 85 r749 = true := by kernel_rfl
def r750 : List AV × AV := ([.ro [.int .i64 1] 1, .ro [.int .i64 185] 1], .ro [.int .i64 185] 1)
theorem r750_ok : rowOk cfg0 M0 3000 85 r750 = true := by kernel_rfl
def r751 : List AV × AV := ([.ro [.int .i64 1] 1, .ro [.int .i64 180] 1], .ro [.int .i64 180] 1)
theorem r751_ok : rowOk cfg0 M0 3000 85 r751 = true := by kernel_rfl
def r752 : List AV × AV := ([.ro [.int .i64 1] 1, .ro [.int .i64 182] 1], .ro [.int .i64 182] 1)
theorem r752_ok : rowOk cfg0 M0 3000 85 r752 = true := by kernel_rfl
def r753 : List AV × AV := ([.ro [.int .i64 1] 1, .ro [.int .i64 181] 1], .ro [.int .i64 181] 1)
theorem r753_ok : rowOk cfg0 M0 3000 85 r753 = true := by kernel_rfl
def r754 : List AV × AV := ([.str [115, 112, 101, 101, 100]], .bool true)
theorem r754_ok : rowOk cfg0 M0 3000 221 r754 = true := by kernel_rfl
def r755 : List AV × AV := ([.agg [.int .i64 0, .int .i64 (-1), .int .i64 0, .int .i64 0, .int .i64 0, .int .i64 0, .int .i64 0, .int .i64 0]], .bool true)
theorem r755_ok : rowOk cfg0 M0 3000 29 r755 = true := by kernel_rfl
def r756 : List AV × AV := ([.agg [.int .i64 1, .int .i64 (-1), .int .i64 0, .int .i64 0, .int .i64 0, .int .i64 0, .int .i64 0, .int .i64 0]], .bool true)
theorem r756_ok : rowOk cfg0 M0 3000 29 r756 = true := by kernel_rfl
def r757 : List AV × AV := ([.str [97, 114, 101, 97]], .bool true)
theorem r757_ok : rowOk cfg0 M0 3000 221 r757 = true := by kernel_rfl
def r758 : List AV × AV := ([.str [115, 113, 117, 97, 114, 101]], .bool true)
theorem r758_ok : rowOk cfg0 M0 3000 221 r758 = true := by kernel_rfl
def r759 : List AV × AV := ([.agg [.int .i64 2, .int .i64 0, .int .i64 0, .int .i64 0, .int .i64 0, .int .i64 0, .int .i64 0, .int .i64 0]], .bool true)
theorem r759_ok : rowOk cfg0 M0 3000 29 r759 = true := by kernel_rfl
def r760 : List AV × AV := ([.str [107, 112, 104]], .bool true)
theorem r760_ok : rowOk cfg0 M0 3000 184 r760 = true := by kernel_rfl
def r761 : List AV × AV := ([.str [107, 105, 108, 111, 109, 101, 116, 101, 114]], .bool true)
theorem r761_ok : rowOk cfg0 M0 3000 221 r761 = true := by kernel_rfl
def r762 : List AV × AV := ([.str [107, 105, 108, 111, 109, 101, 116, 101, 114]], .int .i64 0)
theorem r762_ok : rowOk cfg0 M0 3000 276 r762 = true := by kernel_rfl
def r763 : List AV × AV := ([.str [105, 110, 99, 104]], .int .i64 1)
theorem r763_ok : rowOk cfg0 M0 3000 233 r763 = true := by kernel_rfl
def r764 : List AV × AV := ([.agg [.ro [.int .u32 12] 1], .agg [.nilsl]], .agg [.ro [.int .u32 12] 1])
theorem r764_ok : rowOk cfg0 M0 3000 123 r764 = true := by kernel_rfl
def r765 : List AV × AV := ([.agg [.ro [.int .u32 127] 1], .agg [.ro [.int .u32 5000] 1]], .tuple [.agg [.nilsl], .agg [.ro [.int .u32 127] 1], .bool true])
theorem r765_ok : rowOk cfg0 M0 3000 74 r765 = true := by kernel_rfl
def r766 : List AV × AV := ([.agg [.ro [.int .u32 5000] 1], .agg [.ro [.int .u32 127] 1]], .tuple [.agg [.ro [.int .u32 39] 1], .agg [.ro [.int .u32 47] 1], .bool true])
theorem r766_ok : rowOk cfg0 M0 3000 74 r766 = true := by kernel_rfl
def r767 : List AV × AV := ([.agg [.ro [.int .u32 127] 1], .agg [.ro [.int .u32 47] 1]], .tuple [.agg [.ro [.int .u32 2] 1], .agg [.ro [.int .u32 33] 1], .bool true])
theorem r767_ok : rowOk cfg0 M0 3000 74 r767 = true := by kernel_rfl
def r768 : List AV × AV := ([.agg [.ro [.int .u32 47] 1], .agg [.ro [.int .u32 33] 1]], .tuple [.agg [.ro [.int .u32 1] 1], .agg [.ro [.int .u32 14] 1], .bool true])
theorem r768_ok : rowOk cfg0 M0 3000 74 r768 = true := by kernel_rfl
def r769 : List AV × AV := ([.agg [.ro [.int .u32 33] 1], .agg [.ro [.int .u32 14] 1]], .tuple [.agg [.ro [.int .u32 2] 1], .agg [.ro [.int .u32 5] 1], .bool true])
theorem r769_ok : rowOk cfg0 M0 3000 74 r769 = true := by kernel_rfl
def r770 : List AV × AV := ([.agg [.ro [.int .u32 14] 1], .agg [.ro [.int .u32 5] 1]], .tuple [.agg [.ro [.int .u32 2] 1], .agg [.ro [.int .u32 4] 1], .bool true])
theorem r770_ok : rowOk cfg0 M0 3000 74 r770 = true := by kernel_rfl
def r771 : List AV × AV := ([.agg [.ro [.int .u32 127] 1], .agg [.ro [.int .u32 1] 1]], .tuple [.agg [.ro [.int .u32 127] 1], .agg [.e0], .bool true])
theorem r771_ok : rowOk cfg0 M0 3000 74 r771 = true := by kernel_rfl
def r772 : List AV × AV := ([.agg [.ro [.int .u32 5000] 1], .agg [.ro [.int .u32 1] 1]], .tuple [.agg [.ro [.int .u32 5000] 1], .agg [.e0], .bool true])
theorem r772_ok : rowOk cfg0 M0 3000 74 r772 = true := by kernel_rfl
def r773 : List AV × AV := ([.agg [.ro [.int .u32 127] 1], .int .i64 1], .agg [.ro [.int .u32 127] 1])
theorem r773_ok : rowOk cfg0 M0 3000 177 r773 = true := by kernel_rfl
def r774 : List AV × AV := ([.agg [.ro [.int .u32 5000] 1], .int .i64 1], .agg [.ro [.int .u32 5000] 1])
theorem r774_ok : rowOk cfg0 M0 3000 177 r774 = true := by kernel_rfl
def r775 : List AV × AV := ([.agg [.ro [.int .u32 127] 1], .agg [.nilsl]], .agg [.ro [.int .u32 127] 1])
theorem r775_ok : rowOk cfg0 M0 3000 123 r775 = true := by kernel_rfl
def r776 : List AV × AV := ([.agg [.ro [.int .u32 1524] 1], .agg [.nilsl]], .agg [.ro [.int .u32 1524] 1])
theorem r776_ok : rowOk cfg0 M0 3000 123 r776 = true := by kernel_rfl
def r777 : List AV × AV := ([.agg [.ro [.int .u32 1524] 1], .agg [.ro [.int .u32 5000] 1]], .tuple [.agg [.nilsl], .agg [.ro [.int .u32 1524] 1], .bool true])
theorem r777_ok : rowOk cfg0 M0 3000 74 r777 = true := by kernel_rfl
def r778 : List AV × AV := ([.agg [.ro [.int .u32 5000] 1], .agg [.ro [.int .u32 1524] 1]], .tuple [.agg [.ro [.int .u32 3] 1], .agg [.ro [.int .u32 428] 1], .bool true])
theorem r778_ok : rowOk cfg0 M0 3000 74 r778 = true := by kernel_rfl
def r779 : List AV × AV := ([.agg [.ro [.int .u32 1524] 1], .agg [.ro [.int .u32 428] 1]], .tuple [.agg [.ro [.int .u32 3] 1], .agg [.ro [.int .u32 240] 1], .bool true])
theorem r779_ok : rowOk cfg0 M0 3000 74 r779 = true := by kernel_rfl
def r780 : List AV × AV := ([.agg [.ro [.int .u32 428] 1], .agg [.ro [.int .u32 240] 1]], .tuple [.agg [.ro [.int .u32 1] 1], .agg [.ro [.int .u32 188] 1], .bool true])
theorem r780_ok : rowOk cfg0 M0 3000 74 r780 = true := by kernel_rfl
def r781 : List AV × AV := ([.agg [.ro [.int .u32 240] 1], .agg [.ro [.int .u32 188] 1]], .tuple [.agg [.ro [.int .u32 1] 1], .agg [.ro [.int .u32 52] 1], .bool true])
theorem r781_ok : rowOk cfg0 M0 3000 74 r781 = true := by kernel_rfl
def r782 : List AV × AV := ([.agg [.ro [.int .u32 188] 1], .agg [.ro [.int .u32 52] 1]], .tuple [.agg [.ro [.int .u32 3] 1], .agg [.ro [.int .u32 32] 1], .bool true])
theorem r782_ok : rowOk cfg0 M0 3000 74 r782 = true := by kernel_rfl
def r783 : List AV × AV := ([.agg [.ro [.int .u32 52] 1], .agg [.ro [.int .u32 32] 1]], .tuple [.agg [.ro [.int .u32 1] 1], .agg [.ro [.int .u32 20] 1], .bool true])
theorem r783_ok : rowOk cfg0 M0 3000 74 r783 = true := by kernel_rfl
def r784 : List AV × AV := ([.agg [.ro [.int .u32 32] 1], .agg [.ro [.int .u32 20] 1]], .tuple [.agg [.ro [.int .u32 1] 1], .agg [.ro [.int .u32 12] 1], .bool true])
theorem r784_ok : rowOk cfg0 M0 3000 74 r784 = true := by kernel_rfl
def r785 : List AV × AV := ([.agg [.ro [.int .u32 20] 1], .agg [.ro [.int .u32 12] 1]], .tuple [.agg [.ro [.int .u32 1] 1], .agg [.ro [.int .u32 8] 1], .bool true])
theorem r785_ok : rowOk cfg0 M0 3000 74 r785 = true := by kernel_rfl
def r786 : List AV × AV := ([.agg [.ro [.int .u32 12] 1], .agg [.ro [.int .u32 8] 1]], .tuple [.agg [.ro [.int .u32 1] 1], .agg [.ro [.int .u32 4] 1], .bool true])
theorem r786_ok : rowOk cfg0 M0 3000 74 r786 = true := by kernel_rfl
def r787 : List AV × AV := ([.agg [.ro [.int .u32 8] 1], .agg [.ro [.int .u32 4] 1]], .tuple [.agg [.ro [.int .u32 2] 1], .agg [.e0], .bool true])
theorem r787_ok : rowOk cfg0 M0 3000 74 r787 = true := by kernel_rfl
def r788 : List AV × AV := ([.agg [.ro [.int .u32 1524] 1], .agg [.ro [.int .u32 4] 1]], .tuple [.agg [.ro [.int .u32 381] 1], .agg [.e0], .bool true])
theorem r788_ok : rowOk cfg0 M0 3000 74 r788 = true := by kernel_rfl
def r789 : List AV × AV := ([.agg [.ro [.int .u32 5000] 1], .agg [.ro [.int .u32 4] 1]], .tuple [.agg [.ro [.int .u32 1250] 1], .agg [.e0], .bool true])
theorem r789_ok : rowOk cfg0 M0 3000 74 r789 = true := by kernel_rfl
def r790 : List AV × AV := ([.agg [.e0], .agg [.ro [.int .u32 1] 1]], .tuple [.agg [.nilsl], .agg [.e0], .bool true])
theorem r790_ok : rowOk cfg0 M0 3000 74 r790 = true := by kernel_rfl
def r791 : List AV × AV := ([.agg [.bool false, .nilsl], .agg [.bool false, .ro [.int .u32 1250] 1]], .agg [.bool false, .e0])
theorem r791_ok : rowOk cfg0 M0 3000 59 r791 = true := by kernel_rfl
def r792 : List AV × AV := ([.agg [.ro [.int .u32 381] 1], .agg [.e0]], .agg [.ro [.int .u32 381] 1])
theorem r792_ok : rowOk cfg0 M0 3000 123 r792 = true := by kernel_rfl
def r793 : List AV × AV := ([.bool true, .agg [.nilsl]], .agg [.bool false, .e0])
theorem r793_ok : rowOk cfg0 M0 3000 75 r793 = true := by kernel_rfl
def r794 : List AV × AV := ([.agg [.ro [.int .u32 476250] 1], .agg [.nilsl]], .agg [.ro [.int .u32 476250] 1])
theorem r794_ok : rowOk cfg0 M0 3000 123 r794 = true := by kernel_rfl
def r795 : List AV × AV := ([.agg [.ro [.int .u32 476250] 1], .agg [.ro [.int .u32 476250] 1]], .tuple [.agg [.ro [.int .u32 1] 1], .agg [.e0], .bool true])
theorem r795_ok : rowOk cfg0 M0 3000 74 r795 = true := by kernel_rfl
def t0 : Tr (List (List AV × AV)) := (.nd (.nd (.nd (.nd (.nd .lf 29 [r449, r450, r620, r656, r755, r756, r759] .lf) 31 [r46] .lf) 34 [r192, r193, r194, r195, r196, r197, r198, r199, r200, r201, r202, r203, r204, r205, r206, r207, r208, r209, r210, r211, r212, r213, r214, r215, r216, r217, r218, r219, r220, r221] (.nd (.nd .lf 59 [r791] .lf) 71 [r57, r115, r138, r139, r172, r173] .lf)) 74 [r59, r60, r65, r68, r69, r70, r71, r77, r78, r79, r80, r81, r82, r83, r84, r85, r86, r87, r88, r89, r100, r101, r105, r106, r107, r108, r109, r110, r111, r112, r113, r114, r119, r121, r122, r123, r124, r125, r126, r127, r128, r129, r135, r146, r147, r148, r149, r150, r151, r158, r159, r160, r161, r165, r166, r167, r168, r169, r170, r171, r765, r766, r767, r768, r769, r770, r771, r772, r777, r778, r779, r780, r781, r782, r783, r784, r785, r786, r787, r788, r789, r790, r795] (.nd (.nd (.nd .lf 75 [r793] .lf) 85 [r222, r223, r224, r225, r226, r227, r228, r229, r230, r231, r232, r233, r234, r235, r236, r237, r238, r239, r240, r241, r242, r243, r244, r245, r246, r247, r248, r249, r250, r251, r252, r253, r254, r255, r257, r258, r259, r260, r261, r262, r263, r264, r265, r266, r267, r268, r269, r270, r271, r272, r273, r274, r275, r276, r277, r278, r279, r280, r281, r282, r283, r284, r285, r286, r287, r288, r289, r290, r291, r292, r293, r294, r295, r299, r300, r301, r302, r303, r304, r305, r306, r307, r308, r309, r310, r311, r312, r313, r314, r315, r316, r317, r318, r319, r320, r321, r322, r323, r324, r325, r326, r327, r328, r329, r330, r331, r332, r333, r334, r335, r336, r337, r338, r339, r340, r341, r342, r343, r344, r345, r346, r347, r348, r349, r350, r351, r352, r353, r354, r355, r356, r357, r358, r359, r360, r361, r362, r363, r364, r365, r366, r367, r368, r369, r370, r371, r372, r373, r374, r375, r376, r377, r378, r379, r380, r381, r382, r383, r384, r385, r386, r387, r388, r389, r390, r391, r392, r393, r394, r395, r396, r397, r398, r399, r400, r401, r402, r403, r404, r405, r406, r407, r408, r409, r410, r411, r412, r413, r414, r415, r416, r417, r418, r419, r420, r421, r422, r423, r424, r425, r426, r427, r428, r429, r430, r431, r432, r433, r434, r435, r436, r437, r438, r439, r440, r441, r442, r443, r444, r445, r446, r447, r454, r455, r456, r457, r458, r459, r460, r461, r462, r463, r464, r465, r466, r467, r468, r470, r471, r472, r473, r474, r475, r476, r477, r478, r479, r480, r481, r482, r483, r484, r485, r486, r487, r488, r489, r490, r491, r492, r493, r494, r495, r496, r497, r498, r499, r500, r501, r502, r503, r504, r505, r506, r507, r508, r509, r510, r511, r512, r513, r514, r515, r516, r517, r518, r519, r520, r521, r522, r523, r524, r525, r526, r527, r528, r529, r530, r531, r532, r533, r534, r535, r536, r537, r538, r539, r540, r541, r542, r543, r544, r545, r546, r547, r548, r551, r552, r553, r554, r555, r556, r557, r558, r559, r560, r561, r562, r563, r564, r565, r566, r567, r568, r569, r570, r571, r572, r573, r574, r575, r576, r577, r578, r579, r580, r581, r582, r583, r584, r585, r586, r587, r588, r589, r590, r591, r592, r593, r594, r595, r596, r597, r598, r599, r600, r601, r602, r603, r604, r605, r606, r607, r608, r609, r610, r611, r612, r613, r614, r615, r616, r621, r622, r623, r624, r625, r630, r631, r632, r633, r634, r635, r636, r637, r638, r639, r640, r641, r642, r643, r644, r645, r646, r647, r648, r649, r650, r651, r652, r653, r654, r655, r659, r660, r661, r662, r663, r664, r665, r666, r667, r668, r669, r670, r671, r674, r675, r676, r677, r678, r679, r680, r681, r682, r683, r684, r685, r686, r687, r688, r689, r690, r691, r692, r693, r694, r695, r696, r697, r698, r699, r700, r701, r702, r703, r704, r705, r706, r707, r708, r709, r710, r711, r712, r713, r714, r715, r716, r717, r718, r719, r720, r721, r722, r723, r724, r725, r726, r727, r728, r729, r730, r731, r732, r733, r734, r735, r736, r737, r738, r739, r740, r741, r742, r743, r744, r745, r746, r747, r748, r749, r750, r751, r752, r753] .lf) 95 [r0, r2, r4, r6, r8, r10, r12, r14, r16, r18, r20, r22, r24, r26] (.nd (.nd .lf 98 [r28, r29, r30, r31, r32, r33, r34, r35, r36, r37, r38, r39, r40, r41] .lf) 117 [r91, r92, r137, r152, r176, r177, r180] .lf))) 123 [r45, r56, r58, r75, r120, r134, r144, r156, r163, r764, r775, r776, r792, r794] (.nd (.nd (.nd (.nd .lf 152 [r42, r43, r44, r47, r48, r49, r50, r51, r52, r53, r54, r55, r63, r64, r72, r73, r74, r76, r96, r97, r98, r99, r117, r118, r131, r132, r133, r140, r141, r143, r145, r153, r154, r155, r157, r162, r164, r174, r175, r178, r179, r181, r182, r183] .lf) 161 [r94, r95, r116, r130] .lf) 173 [r1, r3, r5, r7, r9, r11, r13, r15, r17, r19, r21, r23, r25, r27] (.nd (.nd .lf 177 [r61, r62, r66, r67, r93, r103, r104, r773, r774] .lf) 184 [r760] .lf)) 221 [r185, r186, r187, r188, r189, r190, r191, r256, r296, r451, r549, r617, r626, r657, r754, r757, r758, r761] (.nd (.nd (.nd .lf 224 [r452, r550, r658] .lf) 225 [r297, r298, r453, r618, r628, r629, r672, r673] .lf) 233 [r90, r102, r136, r142, r184, r763] (.nd .lf 276 [r448, r469, r619, r627, r762] .lf))))
theorem t0_ok : MemoOk cfg0 (tabM t0) := tabM_ok (t := t0) ⟨⟨⟨⟨⟨trivial, (lcons (rowOk_did M0_ok r449_ok) (lcons (rowOk_did M0_ok r450_ok) (lcons (rowOk_did M0_ok r620_ok) (lcons (rowOk_did M0_ok r656_ok) (lcons (rowOk_did M0_ok r755_ok) (lcons (rowOk_did M0_ok r756_ok) (lcons (rowOk_did M0_ok r759_ok) lnil))))))), trivial⟩, (lcons (rowOk_did M0_ok r46_ok) lnil), trivial⟩, (lcons (rowOk_did M0_ok r192_ok) (lcons (rowOk_did M0_ok r193_ok) (lcons (rowOk_did M0_ok r194_ok) (lcons (rowOk_did M0_ok r195_ok) (lcons (rowOk_did M0_ok r196_ok) (lcons (rowOk_did M0_ok r197_ok) (lcons (rowOk_did M0_ok r198_ok) (lcons (rowOk_did M0_ok r199_ok) (lcons (rowOk_did M0_ok r200_ok) (lcons (rowOk_did M0_ok r201_ok) (lcons (rowOk_did M0_ok r202_ok) (lcons (rowOk_did M0_ok r203_ok) (lcons (rowOk_did M0_ok r204_ok) (lcons (rowOk_did M0_ok r205_ok) (lcons (rowOk_did M0_ok r206_ok) (lcons (rowOk_did M0_ok r207_ok) (lcons (rowOk_did M0_ok r208_ok) (lcons (rowOk_did M0_ok r209_ok) (lcons (rowOk_did M0_ok r210_ok) (lcons (rowOk_did M0_ok r211_ok) (lcons (rowOk_did M0_ok r212_ok) (lcons (rowOk_did M0_ok r213_ok) (lcons (rowOk_did M0_ok r214_ok) (lcons (rowOk_did M0_ok r215_ok) (lcons (rowOk_did M0_ok r216_ok) (lcons (rowOk_did M0_ok r217_ok) (lcons (rowOk_did M0_ok r218_ok) (lcons (rowOk_did M0_ok r219_ok) (lcons (rowOk_did M0_ok r220_ok) (lcons (rowOk_did M0_ok r221_ok) lnil)))))))))))))))))))))))))))))), ⟨⟨trivial, (lcons (rowOk_did M0_ok r791_ok) lnil), trivial⟩, (lcons (rowOk_did M0_ok r57_ok) (lcons (rowOk_did M0_ok r115_ok) (lcons (rowOk_did M0_ok r138_ok) (lcons (rowOk_did M0_ok r139_ok) (lcons (rowOk_did M0_ok r172_ok) (lcons (rowOk_did M0_ok r173_ok) lnil)))))), trivial⟩⟩, (lcons (rowOk_did M0_ok r59_ok) (lcons (rowOk_did M0_ok r60_ok) (lcons (rowOk_did M0_ok r65_ok) (lcons (rowOk_did M0_ok r68_ok) (lcons (rowOk_did M0_ok r69_ok) (lcons (rowOk_did M0_ok r70_ok) (lcons (rowOk_did M0_ok r71_ok) (lcons (rowOk_did M0_ok r77_ok) (lcons (rowOk_did M0_ok r78_ok) (lcons (rowOk_did M0_ok r79_ok) (lcons (rowOk_did M0_ok r80_ok) (lcons (rowOk_did M0_ok r81_ok) (lcons (rowOk_did M0_ok r82_ok) (lcons (rowOk_did M0_ok r83_ok) (lcons (rowOk_did M0_ok r84_ok) (lcons (rowOk_did M0_ok r85_ok) (lcons (rowOk_did M0_ok r86_ok) (lcons (rowOk_did M0_ok r87_ok) (lcons (rowOk_did M0_ok r88_ok) (lcons (rowOk_did M0_ok r89_ok) (lcons (rowOk_did M0_ok r100_ok) (lcons (rowOk_did M0_ok r101_ok) (lcons (rowOk_did M0_ok r105_ok) (lcons (rowOk_did M0_ok r106_ok) (lcons (rowOk_did M0_ok r107_ok) (lcons (rowOk_did M0_ok r108_ok) (lcons (rowOk_did M0_ok r109_ok) (lcons (rowOk_did M0_ok r110_ok) (lcons (rowOk_did M0_ok r111_ok) (lcons (rowOk_did M0_ok r112_ok) (lcons (rowOk_did M0_ok r113_ok) (lcons (rowOk_did M0_ok r114_ok) (lcons (rowOk_did M0_ok r119_ok) (lcons (rowOk_did M0_ok r121_ok) (lcons (rowOk_did M0_ok r122_ok) (lcons (rowOk_did M0_ok r123_ok) (lcons (rowOk_did M0_ok r124_ok) (lcons (rowOk_did M0_ok r125_ok) (lcons (rowOk_did M0_ok r126_ok) (lcons (rowOk_did M0_ok r127_ok) (lcons (rowOk_did M0_ok r128_ok) (lcons (rowOk_did M0_ok r129_ok) (lcons (rowOk_did M0_ok r135_ok) (lcons (rowOk_did M0_ok r146_ok) (lcons (rowOk_did M0_ok r147_ok) (lcons (rowOk_did M0_ok r148_ok) (lcons (rowOk_did M0_ok r149_ok) (lcons (rowOk_did M0_ok r150_ok) (lcons (rowOk_did M0_ok r151_ok) (lcons (rowOk_did M0_ok r158_ok) (lcons (rowOk_did M0_ok r159_ok) (lcons (rowOk_did M0_ok r160_ok) (lcons (rowOk_did M0_ok r161_ok) (lcons (rowOk_did M0_ok r165_ok) (lcons (rowOk_did M0_ok r166_ok) (lcons (rowOk_did M0_ok r167_ok) (lcons (rowOk_did M0_ok r168_ok) (lcons (rowOk_did M0_ok r169_ok) (lcons (rowOk_did M0_ok r170_ok) (lcons (rowOk_did M0_ok r171_ok) (lcons (rowOk_did M0_ok r765_ok) (lcons (rowOk_did M0_ok r766_ok) (lcons (rowOk_did M0_ok r767_ok) (lcons (rowOk_did M0_ok r768_ok) (lcons (rowOk_did M0_ok r769_ok) (lcons (rowOk_did M0_ok r770_ok) (lcons (rowOk_did M0_ok r771_ok) (lcons (rowOk_did M0_ok r772_ok) (lcons (rowOk_did M0_ok r777_ok) (lcons (rowOk_did M0_ok r778_ok) (lcons (rowOk_did M0_ok r779_ok) (lcons (rowOk_did M0_ok r780_ok) (lcons (rowOk_did M0_ok r781_ok) (lcons (rowOk_did M0_ok r782_ok) (lcons (rowOk_did M0_ok r783_ok) (lcons (rowOk_did M0_ok r784_ok) (lcons (rowOk_did M0_ok r785_ok) (lcons (rowOk_did M0_ok r786_ok) (lcons (rowOk_did M0_ok r787_ok) (lcons (rowOk_did M0_ok r788_ok) (lcons (rowOk_did M0_ok r789_ok) (lcons (rowOk_did M0_ok r790_ok) (lcons (rowOk_did M0_ok r795_ok) lnil))))))))))))))))))))))))))))))))))))))))))))))))))))))))))))))))))))))))))))))))))), ⟨⟨⟨trivial, (lcons (rowOk_did M0_ok r793_ok) lnil), trivial⟩, (lcons (rowOk_did M0_ok r222_ok) (lcons (rowOk_did M0_ok r223_ok) (lcons (rowOk_did M0_ok r224_ok) (lcons (rowOk_did M0_ok r225_ok) (lcons (rowOk_did M0_ok r226_ok) (lcons (rowOk_did M0_ok r227_ok) (lcons (rowOk_did M0_ok r228_ok) (lcons (rowOk_did M0_ok r229_ok) (lcons (rowOk_did M0_ok r230_ok) (lcons (rowOk_did M0_ok r231_ok) (lcons (rowOk_did M0_ok r232_ok) (lcons (rowOk_did M0_ok r233_ok) (lcons (rowOk_did M0_ok r234_ok) (lcons (rowOk_did M0_ok r235_ok) (lcons (rowOk_did M0_ok r236_ok) (lcons (rowOk_did M0_ok r237_ok) (lcons (rowOk_did M0_ok r238_ok) (lcons (rowOk_did M0_ok r239_ok) (lcons (rowOk_did M0_ok r240_ok) (lcons (rowOk_did M0_ok r241_ok) (lcons (rowOk_did M0_ok r242_ok) (lcons (rowOk_did M0_ok r243_ok) (lcons (rowOk_did M0_ok r244_ok) (lcons (rowOk_did M0_ok r245_ok) (lcons (rowOk_did M0_ok r246_ok) (lcons (rowOk_did M0_ok r247_ok) (lcons (rowOk_did M0_ok r248_ok) (lcons (rowOk_did M0_ok r249_ok) (lcons (rowOk_did M0_ok r250_ok) (lcons (rowOk_did M0_ok r251_ok) (lcons (rowOk_did M0_ok r252_ok) (lcons (rowOk_did M0_ok r253_ok) (lcons (rowOk_did M0_ok r254_ok) (lcons (rowOk_did M0_ok r255_ok) (lcons (rowOk_did M0_ok r257_ok) (lcons (rowOk_did M0_ok r258_ok) (lcons (rowOk_did M0_ok r259_ok) (lcons (rowOk_did M0_ok r260_ok) (lcons (rowOk_did M0_ok r261_ok) (lcons (rowOk_did M0_ok r262_ok) (lcons (rowOk_did M0_ok r263_ok) (lcons (rowOk_did M0_ok r264_ok) (lcons (rowOk_did M0_ok r265_ok) (lcons (rowOk_did M0_ok r266_ok) (lcons (rowOk_did M0_ok r267_ok) (lcons (rowOk_did M0_ok r268_ok) (lcons (rowOk_did M0_ok r269_ok) (lcons (rowOk_did M0_ok r270_ok) (lcons (rowOk_did M0_ok r271_ok) (lcons (rowOk_did M0_ok r272_ok) (lcons (rowOk_did M0_ok r273_ok) (lcons (rowOk_did M0_ok r274_ok) (lcons (rowOk_did M0_ok r275_ok) (lcons (rowOk_did M0_ok r276_ok) (lcons (rowOk_did M0_ok r277_ok) (lcons (rowOk_did M0_ok r278_ok) (lcons (rowOk_did M0_ok r279_ok) (lcons (rowOk_did M0_ok r280_ok) (lcons (rowOk_did M0_ok r281_ok) (lcons (rowOk_did M0_ok r282_ok) (lcons (rowOk_did M0_ok r283_ok) (lcons (rowOk_did M0_ok r284_ok) (lcons (rowOk_did M0_ok r285_ok) (lcons (rowOk_did M0_ok r286_ok) (lcons (rowOk_did M0_ok r287_ok) (lcons (rowOk_did M0_ok r288_ok) (lcons (rowOk_did M0_ok r289_ok) (lcons (rowOk_did M0_ok r290_ok) (lcons (rowOk_did M0_ok r291_ok) (lcons (rowOk_did M0_ok r292_ok) (lcons (rowOk_did M0_ok r293_ok) (lcons (rowOk_did M0_ok r294_ok) (lcons (rowOk_did M0_ok r295_ok) (lcons (rowOk_did M0_ok r299_ok) (lcons (rowOk_did M0_ok r300_ok) (lcons (rowOk_did M0_ok r301_ok) (lcons (rowOk_did M0_ok r302_ok) (lcons (rowOk_did M0_ok r303_ok) (lcons (rowOk_did M0_ok r304_ok) (lcons (rowOk_did M0_ok r305_ok) (lcons (rowOk_did M0_ok r306_ok) (lcons (rowOk_did M0_ok r307_ok) (lcons (rowOk_did M0_ok r308_ok) (lcons (rowOk_did M0_ok r309_ok) (lcons (rowOk_did M0_ok r310_ok) (lcons (rowOk_did M0_ok r311_ok) (lcons (rowOk_did M0_ok r312_ok) (lcons (rowOk_did M0_ok r313_ok) (lcons (rowOk_did M0_ok r314_ok) (lcons (rowOk_did M0_ok r315_ok) (lcons (rowOk_did M0_ok r316_ok) (lcons (rowOk_did M0_ok r317_ok) (lcons (rowOk_did M0_ok r318_ok) (lcons (rowOk_did M0_ok r319_ok) (lcons (rowOk_did M0_ok r320_ok) (lcons (rowOk_did M0_ok r321_ok) (lcons (rowOk_did M0_ok r322_ok) (lcons (rowOk_did M0_ok r323_ok) (lcons (rowOk_did M0_ok r324_ok) (lcons (rowOk_did M0_ok r325_ok) (lcons (rowOk_did M0_ok r326_ok) (lcons (rowOk_did M0_ok r327_ok) (lcons (rowOk_did M0_ok r328_ok) (lcons (rowOk_did M0_ok r329_ok) (lcons (rowOk_did M0_ok r330_ok) (lcons (rowOk_did M0_ok r331_ok) (lcons (rowOk_did M0_ok r332_ok) (lcons (rowOk_did M0_ok r333_ok) (lcons (rowOk_did M0_ok r334_ok) (lcons (rowOk_did M0_ok r335_ok) (lcons (rowOk_did M0_ok r336_ok) (lcons (rowOk_did M0_ok r337_ok) (lcons (rowOk_did M0_ok r338_ok) (lcons (rowOk_did M0_ok r339_ok) (lcons (rowOk_did M0_ok r340_ok) (lcons (rowOk_did M0_ok r341_ok) (lcons (rowOk_did M0_ok r342_ok) (lcons (rowOk_did M0_ok r343_ok) (lcons (rowOk_did M0_ok r344_ok) (lcons (rowOk_did M0_ok r345_ok) (lcons (rowOk_did M0_ok r346_ok) (lcons (rowOk_did M0_ok r347_ok) (lcons (rowOk_did M0_ok r348_ok) (lcons (rowOk_did M0_ok r349_ok) (lcons (rowOk_did M0_ok r350_ok) (lcons (rowOk_did M0_ok r351_ok) (lcons (rowOk_did M0_ok r352_ok) (lcons (rowOk_did M0_ok r353_ok) (lcons (rowOk_did M0_ok r354_ok) (lcons (rowOk_did M0_ok r355_ok) (lcons (rowOk_did M0_ok r356_ok) (lcons (rowOk_did M0_ok r357_ok) (lcons (rowOk_did M0_ok r358_ok) (lcons (rowOk_did M0_ok r359_ok) (lcons (rowOk_did M0_ok r360_ok) (lcons (rowOk_did M0_ok r361_ok) (lcons (rowOk_did M0_ok r362_ok) (lcons (rowOk_did M0_ok r363_ok) (lcons (rowOk_did M0_ok r364_ok) (lcons (rowOk_did M0_ok r365_ok) (lcons (rowOk_did M0_ok r366_ok) (lcons (rowOk_did M0_ok r367_ok) (lcons (rowOk_did M0_ok r368_ok) (lcons (rowOk_did M0_ok r369_ok) (lcons (rowOk_did M0_ok r370_ok) (lcons (rowOk_did M0_ok r371_ok) (lcons (rowOk_did M0_ok r372_ok) (lcons (rowOk_did M0_ok r373_ok) (lcons (rowOk_did M0_ok r374_ok) (lcons (rowOk_did M0_ok r375_ok) (lcons (rowOk_did M0_ok r376_ok) (lcons (rowOk_did M0_ok r377_ok) (lcons (rowOk_did M0_ok r378_ok) (lcons (rowOk_did M0_ok r379_ok) (lcons (rowOk_did M0_ok r380_ok) (lcons (rowOk_did M0_ok r381_ok) (lcons (rowOk_did M0_ok r382_ok) (lcons (rowOk_did M0_ok r383_ok) (lcons (rowOk_did M0_ok r384_ok) (lcons (rowOk_did M0_ok r385_ok) (lcons (rowOk_did M0_ok r386_ok) (lcons (rowOk_did M0_ok r387_ok) (lcons (rowOk_did M0_ok r388_ok) (lcons (rowOk_did M0_ok r389_ok) (lcons (rowOk_did M0_ok r390_ok) (lcons (rowOk_did M0_ok r391_ok) (lcons (rowOk_did M0_ok r392_ok) (lcons (rowOk_did M0_ok r393_ok) (lcons (rowOk_did M0_ok r394_ok) (lcons (rowOk_did M0_ok r395_ok) (lcons (rowOk_did M0_ok r396_ok) (lcons (rowOk_did M0_ok r397_ok) (lcons (rowOk_did M0_ok r398_ok) (lcons (rowOk_did M0_ok r399_ok) (lcons (rowOk_did M0_ok r400_ok) (lcons (rowOk_did M0_ok r401_ok) (lcons (rowOk_did M0_ok r402_ok) (lcons (rowOk_did M0_ok r403_ok) (lcons (rowOk_did M0_ok r404_ok) (lcons (rowOk_did M0_ok r405_ok) (lcons (rowOk_did M0_ok r406_ok) (lcons (rowOk_did M0_ok r407_ok) (lcons (rowOk_did M0_ok r408_ok) (lcons (rowOk_did M0_ok r409_ok) (lcons (rowOk_did M0_ok r410_ok) (lcons (rowOk_did M0_ok r411_ok) (lcons (rowOk_did M0_ok r412_ok) (lcons (rowOk_did M0_ok r413_ok) (lcons (rowOk_did M0_ok r414_ok) (lcons (rowOk_did M0_ok r415_ok) (lcons (rowOk_did M0_ok r416_ok) (lcons (rowOk_did M0_ok r417_ok) (lcons (rowOk_did M0_ok r418_ok) (lcons (rowOk_did M0_ok r419_ok) (lcons (rowOk_did M0_ok r420_ok) (lcons (rowOk_did M0_ok r421_ok) (lcons (rowOk_did M0_ok r422_ok) (lcons (rowOk_did M0_ok r423_ok) (lcons (rowOk_did M0_ok r424_ok) (lcons (rowOk_did M0_ok r425_ok) (lcons (rowOk_did M0_ok r426_ok) (lcons (rowOk_did M0_ok r427_ok) (lcons (rowOk_did M0_ok r428_ok) (lcons (rowOk_did M0_ok r429_ok) (lcons (rowOk_did M0_ok r430_ok) (lcons (rowOk_did M0_ok r431_ok) (lcons (rowOk_did M0_ok r432_ok) (lcons (rowOk_did M0_ok r433_ok) (lcons (rowOk_did M0_ok r434_ok) (lcons (rowOk_did M0_ok r435_ok) (lcons (rowOk_did M0_ok r436_ok) (lcons (rowOk_did M0_ok r437_ok) (lcons (rowOk_did M0_ok r438_ok) (lcons (rowOk_did M0_ok r439_ok) (lcons (rowOk_did M0_ok r440_ok) (lcons (rowOk_did M0_ok r441_ok) (lcons (rowOk_did M0_ok r442_ok) (lcons (rowOk_did M0_ok r443_ok) (lcons (rowOk_did M0_ok r444_ok) (lcons (rowOk_did M0_ok r445_ok) (lcons (rowOk_did M0_ok r446_ok) (lcons (rowOk_did M0_ok r447_ok) (lcons (rowOk_did M0_ok r454_ok) (lcons (rowOk_did M0_ok r455_ok) (lcons (rowOk_did M0_ok r456_ok) (lcons (rowOk_did M0_ok r457_ok) (lcons (rowOk_did M0_ok r458_ok) (lcons (rowOk_did M0_ok r459_ok) (lcons (rowOk_did M0_ok r460_ok) (lcons (rowOk_did M0_ok r461_ok) (lcons (rowOk_did M0_ok r462_ok) (lcons (rowOk_did M0_ok r463_ok) (lcons (rowOk_did M0_ok r464_ok) (lcons (rowOk_did M0_ok r465_ok) (lcons (rowOk_did M0_ok r466_ok) (lcons (rowOk_did M0_ok r467_ok) (lcons (rowOk_did M0_ok r468_ok) (lcons (rowOk_did M0_ok r470_ok) (lcons (rowOk_did M0_ok r471_ok) (lcons (rowOk_did M0_ok r472_ok) (lcons (rowOk_did M0_ok r473_ok) (lcons (rowOk_did M0_ok r474_ok) (lcons (rowOk_did M0_ok r475_ok) (lcons (rowOk_did M0_ok r476_ok) (lcons (rowOk_did M0_ok r477_ok) (lcons (rowOk_did M0_ok r478_ok) (lcons (rowOk_did M0_ok r479_ok) (lcons (rowOk_did M0_ok r480_ok) (lcons (rowOk_did M0_ok r481_ok) (lcons (rowOk_did M0_ok r482_ok) (lcons (rowOk_did M0_ok r483_ok) (lcons (rowOk_did M0_ok r484_ok) (lcons (rowOk_did M0_ok r485_ok) (lcons (rowOk_did M0_ok r486_ok) (lcons (rowOk_did M0_ok r487_ok) (lcons (rowOk_did M0_ok r488_ok) (lcons (rowOk_did M0_ok r489_ok) (lcons (rowOk_did M0_ok r490_ok) (lcons (rowOk_did M0_ok r491_ok) (lcons (rowOk_did M0_ok r492_ok) (lcons (rowOk_did M0_ok r493_ok) (lcons (rowOk_did M0_ok r494_ok) (lcons (rowOk_did M0_ok r495_ok) (lcons (rowOk_did M0_ok r496_ok) (lcons (rowOk_did M0_ok r497_ok) (lcons (rowOk_did M0_ok r498_ok) (lcons (rowOk_did M0_ok r499_ok) (lcons (rowOk_did M0_ok r500_ok) (lcons (rowOk_did M0_ok r501_ok) (lcons (rowOk_did M0_ok r502_ok) (lcons (rowOk_did M0_ok r503_ok) (lcons (rowOk_did M0_ok r504_ok) (lcons (rowOk_did M0_ok r505_ok) (lcons (rowOk_did M0_ok r506_ok) (lcons (rowOk_did M0_ok r507_ok) (lcons (rowOk_did M0_ok r508_ok) (lcons (rowOk_did M0_ok r509_ok) (lcons (rowOk_did M0_ok r510_ok) (lcons (rowOk_did M0_ok r511_ok) (lcons (rowOk_did M0_ok r512_ok) (lcons (rowOk_did M0_ok r513_ok) (lcons (rowOk_did M0_ok r514_ok) (lcons (rowOk_did M0_ok r515_ok) (lcons (rowOk_did M0_ok r516_ok) (lcons (rowOk_did M0_ok r517_ok) (lcons (rowOk_did M0_ok r518_ok) (lcons (rowOk_did M0_ok r519_ok) (lcons (rowOk_did M0_ok r520_ok) (lcons (rowOk_did M0_ok r521_ok) (lcons (rowOk_did M0_ok r522_ok) (lcons (rowOk_did M0_ok r523_ok) (lcons (rowOk_did M0_ok r524_ok) (lcons (rowOk_did M0_ok r525_ok) (lcons (rowOk_did M0_ok r526_ok) (lcons (rowOk_did M0_ok r527_ok) (lcons (rowOk_did M0_ok r528_ok) (lcons (rowOk_did M0_ok r529_ok) (lcons (rowOk_did M0_ok r530_ok) (lcons (rowOk_did M0_ok r531_ok) (lcons (rowOk_did M0_ok r532_ok) (lcons (rowOk_did M0_ok r533_ok) (lcons (rowOk_did M0_ok r534_ok) (lcons (rowOk_did M0_ok r535_ok) (lcons (rowOk_did M0_ok r536_ok) (lcons (rowOk_did M0_ok r537_ok) (lcons (rowOk_did M0_ok r538_ok) (lcons (rowOk_did M0_ok r539_ok) (lcons (rowOk_did M0_ok r540_ok) (lcons (rowOk_did M0_ok r541_ok) (lcons (rowOk_did M0_ok r542_ok) (lcons (rowOk_did M0_ok r543_ok) (lcons (rowOk_did M0_ok r544_ok) (lcons (rowOk_did M0_ok r545_ok) (lcons (rowOk_did M0_ok r546_ok) (lcons (rowOk_did M0_ok r547_ok) (lcons (rowOk_did M0_ok r548_ok) (lcons (rowOk_did M0_ok r551_ok) (lcons (rowOk_did M0_ok r552_ok) (lcons (rowOk_did M0_ok r553_ok) (lcons (rowOk_did M0_ok r554_ok) (lcons (rowOk_did M0_ok r555_ok) (lcons (rowOk_did M0_ok r556_ok) (lcons (rowOk_did M0_ok r557_ok) (lcons (rowOk_did M0_ok r558_ok) (lcons (rowOk_did M0_ok r559_ok) (lcons (rowOk_did M0_ok r560_ok) (lcons (rowOk_did M0_ok r561_ok) (lcons (rowOk_did M0_ok r562_ok) (lcons (rowOk_did M0_ok r563_ok) (lcons (rowOk_did M0_ok r564_ok) (lcons (rowOk_did M0_ok r565_ok) (lcons (rowOk_did M0_ok r566_ok) (lcons (rowOk_did M0_ok r567_ok) (lcons (rowOk_did M0_ok r568_ok) (lcons (rowOk_did M0_ok r569_ok) (lcons (rowOk_did M0_ok r570_ok) (lcons (rowOk_did M0_ok r571_ok) (lcons (rowOk_did M0_ok r572_ok) (lcons (rowOk_did M0_ok r573_ok) (lcons (rowOk_did M0_ok r574_ok) (lcons (rowOk_did M0_ok r575_ok) (lcons (rowOk_did M0_ok r576_ok) (lcons (rowOk_did M0_ok r577_ok) (lcons (rowOk_did M0_ok r578_ok) (lcons (rowOk_did M0_ok r579_ok) (lcons (rowOk_did M0_ok r580_ok) (lcons (rowOk_did M0_ok r581_ok) (lcons (rowOk_did M0_ok r582_ok) (lcons (rowOk_did M0_ok r583_ok) (lcons (rowOk_did M0_ok r584_ok) (lcons (rowOk_did M0_ok r585_ok) (lcons (rowOk_did M0_ok r586_ok) (lcons (rowOk_did M0_ok r587_ok) (lcons (rowOk_did M0_ok r588_ok) (lcons (rowOk_did M0_ok r589_ok) (lcons (rowOk_did M0_ok r590_ok) (lcons (rowOk_did M0_ok r591_ok) (lcons (rowOk_did M0_ok r592_ok) (lcons (rowOk_did M0_ok r593_ok) (lcons (rowOk_did M0_ok r594_ok) (lcons (rowOk_did M0_ok r595_ok) (lcons (rowOk_did M0_ok r596_ok) (lcons (rowOk_did M0_ok r597_ok) (lcons (rowOk_did M0_ok r598_ok) (lcons (rowOk_did M0_ok r599_ok) (lcons (rowOk_did M0_ok r600_ok) (lcons (rowOk_did M0_ok r601_ok) (lcons (rowOk_did M0_ok r602_ok) (lcons (rowOk_did M0_ok r603_ok) (lcons (rowOk_did M0_ok r604_ok) (lcons (rowOk_did M0_ok r605_ok) (lcons (rowOk_did M0_ok r606_ok) (lcons (rowOk_did M0_ok r607_ok) (lcons (rowOk_did M0_ok r608_ok) (lcons (rowOk_did M0_ok r609_ok) (lcons (rowOk_did M0_ok r610_ok) (lcons (rowOk_did M0_ok r611_ok) (lcons (rowOk_did M0_ok r612_ok) (lcons (rowOk_did M0_ok r613_ok) (lcons (rowOk_did M0_ok r614_ok) (lcons (rowOk_did M0_ok r615_ok) (lcons (rowOk_did M0_ok r616_ok) (lcons (rowOk_did M0_ok r621_ok) (lcons (rowOk_did M0_ok r622_ok) (lcons (rowOk_did M0_ok r623_ok) (lcons (rowOk_did M0_ok r624_ok) (lcons (rowOk_did M0_ok r625_ok) (lcons (rowOk_did M0_ok r630_ok) (lcons (rowOk_did M0_ok r631_ok) (lcons (rowOk_did M0_ok r632_ok) (lcons (rowOk_did M0_ok r633_ok) (lcons (rowOk_did M0_ok r634_ok) (lcons (rowOk_did M0_ok r635_ok) (lcons (rowOk_did M0_ok r636_ok) (lcons (rowOk_did M0_ok r637_ok) (lcons (rowOk_did M0_ok r638_ok) (lcons (rowOk_did M0_ok r639_ok) (lcons (rowOk_did M0_ok r640_ok) (lcons (rowOk_did M0_ok r641_ok) (lcons (rowOk_did M0_ok r642_ok) (lcons (rowOk_did M0_ok r643_ok) (lcons (rowOk_did M0_ok r644_ok) (lcons (rowOk_did M0_ok r645_ok) (lcons (rowOk_did M0_ok r646_ok) (lcons (rowOk_did M0_ok r647_ok) (lcons (rowOk_did M0_ok r648_ok) (lcons (rowOk_did M0_ok r649_ok) (lcons (rowOk_did M0_ok r650_ok) (lcons (rowOk_did M0_ok r651_ok) (lcons (rowOk_did M0_ok r652_ok) (lcons (rowOk_did M0_ok r653_ok) (lcons (rowOk_did M0_ok r654_ok) (lcons (rowOk_did M0_ok r655_ok) (lcons (rowOk_did M0_ok r659_ok) (lcons (rowOk_did M0_ok r660_ok) (lcons (rowOk_did M0_ok r661_ok) (lcons (rowOk_did M0_ok r662_ok) (lcons (rowOk_did M0_ok r663_ok) (lcons (rowOk_did M0_ok r664_ok) (lcons (rowOk_did M0_ok r665_ok) (lcons (rowOk_did M0_ok r666_ok) (lcons (rowOk_did M0_ok r667_ok) (lcons (rowOk_did M0_ok r668_ok) (lcons (rowOk_did M0_ok r669_ok) (lcons (rowOk_did M0_ok r670_ok) (lcons (rowOk_did M0_ok r671_ok) (lcons (rowOk_did M0_ok r674_ok) (lcons (rowOk_did M0_ok r675_ok) (lcons (rowOk_did M0_ok r676_ok) (lcons (rowOk_did M0_ok r677_ok) (lcons (rowOk_did M0_ok r678_ok) (lcons (rowOk_did M0_ok r679_ok) (lcons (rowOk_did M0_ok r680_ok) (lcons (rowOk_did M0_ok r681_ok) (lcons (rowOk_did M0_ok r682_ok) (lcons (rowOk_did M0_ok r683_ok) (lcons (rowOk_did M0_ok r684_ok) (lcons (rowOk_did M0_ok r685_ok) (lcons (rowOk_did M0_ok r686_ok) (lcons (rowOk_did M0_ok r687_ok) (lcons (rowOk_did M0_ok r688_ok) (lcons (rowOk_did M0_ok r689_ok) (lcons (rowOk_did M0_ok r690_ok) (lcons (rowOk_did M0_ok r691_ok) (lcons (rowOk_did M0_ok r692_ok) (lcons (rowOk_did M0_ok r693_ok) (lcons (rowOk_did M0_ok r694_ok) (lcons (rowOk_did M0_ok r695_ok) (lcons (rowOk_did M0_ok r696_ok) (lcons (rowOk_did M0_ok r697_ok) (lcons (rowOk_did M0_ok r698_ok) (lcons (rowOk_did M0_ok r699_ok) (lcons (rowOk_did M0_ok r700_ok) (lcons (rowOk_did M0_ok r701_ok) (lcons (rowOk_did M0_ok r702_ok) (lcons (rowOk_did M0_ok r703_ok) (lcons (rowOk_did M0_ok r704_ok) (lcons (rowOk_did M0_ok r705_ok) (lcons (rowOk_did M0_ok r706_ok) (lcons (rowOk_did M0_ok r707_ok) (lcons (rowOk_did M0_ok r708_ok) (lcons (rowOk_did M0_ok r709_ok) (lcons (rowOk_did M0_ok r710_ok) (lcons (rowOk_did M0_ok r711_ok) (lcons (rowOk_did M0_ok r712_ok) (lcons (rowOk_did M0_ok r713_ok) (lcons (rowOk_did M0_ok r714_ok) (lcons (rowOk_did M0_ok r715_ok) (lcons (rowOk_did M0_ok r716_ok) (lcons (rowOk_did M0_ok r717_ok) (lcons (rowOk_did M0_ok r718_ok) (lcons (rowOk_did M0_ok r719_ok) (lcons (rowOk_did M0_ok r720_ok) (lcons (rowOk_did M0_ok r721_ok) (lcons (rowOk_did M0_ok r722_ok) (lcons (rowOk_did M0_ok r723_ok) (lcons (rowOk_did M0_ok r724_ok) (lcons (rowOk_did M0_ok r725_ok) (lcons (rowOk_did M0_ok r726_ok) (lcons (rowOk_did M0_ok r727_ok) (lcons (rowOk_did M0_ok r728_ok) (lcons (rowOk_did M0_ok r729_ok) (lcons (rowOk_did M0_ok r730_ok) (lcons (rowOk_did M0_ok r731_ok) (lcons (rowOk_did M0_ok r732_ok) (lcons (rowOk_did M0_ok r733_ok) (lcons (rowOk_did M0_ok r734_ok) (lcons (rowOk_did M0_ok r735_ok) (lcons (rowOk_did M0_ok r736_ok) (lcons (rowOk_did M0_ok r737_ok) (lcons (rowOk_did M0_ok r738_ok) (lcons (rowOk_did M0_ok r739_ok) (lcons (rowOk_did M0_ok r740_ok) (lcons (rowOk_did M0_ok r741_ok) (lcons (rowOk_did M0_ok r742_ok) (lcons (rowOk_did M0_ok r743_ok) (lcons (rowOk_did M0_ok r744_ok) (lcons (rowOk_did M0_ok r745_ok) (lcons (rowOk_did M0_ok r746_ok) (lcons (rowOk_did M0_ok r747_ok) (lcons (rowOk_did M0_ok r748_ok) (lcons (rowOk_did M0_ok r749_ok) (lcons (rowOk_did M0_ok r750_ok) (lcons (rowOk_did M0_ok r751_ok) (lcons (rowOk_did M0_ok r752_ok) (lcons (rowOk_did M0_ok r753_ok) lnil)))))))))))))))))))))))))))))))))))))))))))))))))))))))))))))))))))))))))))))))))))))))))))))))))))))))))))))))))))))))))))))))))))))))))))))))))))))))))))))))))))))))))))))))))))))))))))))))))))))))))))))))))))))))))))))))))))))))))))))))))))))))))))))))))))))))))))))))))))))))))))))))))))))))))))))))))))))))))))))))))))))))))))))))))))))))))))))))))))))))))))))))))))))))))))))))))))))))))))))))))))))))))))))))))))))))))))))))))))))))))))))))))))))))))))))))))))))))))))))))))))))))))))))))))))))))))), trivial⟩, (lcons (rowOk_did M0_ok r0_ok) (lcons (rowOk_did M0_ok r2_ok) (lcons (rowOk_did M0_ok r4_ok) (lcons (rowOk_did M0_ok r6_ok) (lcons (rowOk_did M0_ok r8_ok) (lcons (rowOk_did M0_ok r10_ok) (lcons (rowOk_did M0_ok r12_ok) (lcons (rowOk_did M0_ok r14_ok) (lcons (rowOk_did M0_ok r16_ok) (lcons (rowOk_did M0_ok r18_ok) (lcons (rowOk_did M0_ok r20_ok) (lcons (rowOk_did M0_ok r22_ok) (lcons (rowOk_did M0_ok r24_ok) (lcons (rowOk_did M0_ok r26_ok) lnil)))))))))))))), ⟨⟨trivial, (lcons (rowOk_did M0_ok r28_ok) (lcons (rowOk_did M0_ok r29_ok) (lcons (rowOk_did M0_ok r30_ok) (lcons (rowOk_did M0_ok r31_ok) (lcons (rowOk_did M0_ok r32_ok) (lcons (rowOk_did M0_ok r33_ok) (lcons (rowOk_did M0_ok r34_ok) (lcons (rowOk_did M0_ok r35_ok) (lcons (rowOk_did M0_ok r36_ok) (lcons (rowOk_did M0_ok r37_ok) (lcons (rowOk_did M0_ok r38_ok) (lcons (rowOk_did M0_ok r39_ok) (lcons (rowOk_did M0_ok r40_ok) (lcons (rowOk_did M0_ok r41_ok) lnil)))))))))))))), trivial⟩, (lcons (rowOk_did M0_ok r91_ok) (lcons (rowOk_did M0_ok r92_ok) (lcons (rowOk_did M0_ok r137_ok) (lcons (rowOk_did M0_ok r152_ok) (lcons (rowOk_did M0_ok r176_ok) (lcons (rowOk_did M0_ok r177_ok) (lcons (rowOk_did M0_ok r180_ok) lnil))))))), trivial⟩⟩⟩, (lcons (rowOk_did M0_ok r45_ok) (lcons (rowOk_did M0_ok r56_ok) (lcons (rowOk_did M0_ok r58_ok) (lcons (rowOk_did M0_ok r75_ok) (lcons (rowOk_did M0_ok r120_ok) (lcons (rowOk_did M0_ok r134_ok) (lcons (rowOk_did M0_ok r144_ok) (lcons (rowOk_did M0_ok r156_ok) (lcons (rowOk_did M0_ok r163_ok) (lcons (rowOk_did M0_ok r764_ok) (lcons (rowOk_did M0_ok r775_ok) (lcons (rowOk_did M0_ok r776_ok) (lcons (rowOk_did M0_ok r792_ok) (lcons (rowOk_did M0_ok r794_ok) lnil)))))))))))))), ⟨⟨⟨⟨trivial, (lcons (rowOk_did M0_ok r42_ok) (lcons (rowOk_did M0_ok r43_ok) (lcons (rowOk_did M0_ok r44_ok) (lcons (rowOk_did M0_ok r47_ok) (lcons (rowOk_did M0_ok r48_ok) (lcons (rowOk_did M0_ok r49_ok) (lcons (rowOk_did M0_ok r50_ok) (lcons (rowOk_did M0_ok r51_ok) (lcons (rowOk_did M0_ok r52_ok) (lcons (rowOk_did M0_ok r53_ok) (lcons (rowOk_did M0_ok r54_ok) (lcons (rowOk_did M0_ok r55_ok) (lcons (rowOk_did M0_ok r63_ok) (lcons (rowOk_did M0_ok r64_ok) (lcons (rowOk_did M0_ok r72_ok) (lcons (rowOk_did M0_ok r73_ok) (lcons (rowOk_did M0_ok r74_ok) (lcons (rowOk_did M0_ok r76_ok) (lcons (rowOk_did M0_ok r96_ok) (lcons (rowOk_did M0_ok r97_ok) (lcons (rowOk_did M0_ok r98_ok) (lcons (rowOk_did M0_ok r99_ok) (lcons (rowOk_did M0_ok r117_ok) (lcons (rowOk_did M0_ok r118_ok) (lcons (rowOk_did M0_ok r131_ok) (lcons (rowOk_did M0_ok r132_ok) (lcons (rowOk_did M0_ok r133_ok) (lcons (rowOk_did M0_ok r140_ok) (lcons (rowOk_did M0_ok r141_ok) (lcons (rowOk_did M0_ok r143_ok) (lcons (rowOk_did M0_ok r145_ok) (lcons (rowOk_did M0_ok r153_ok) (lcons (rowOk_did M0_ok r154_ok) (lcons (rowOk_did M0_ok r155_ok) (lcons (rowOk_did M0_ok r157_ok) (lcons (rowOk_did M0_ok r162_ok) (lcons (rowOk_did M0_ok r164_ok) (lcons (rowOk_did M0_ok r174_ok) (lcons (rowOk_did M0_ok r175_ok) (lcons (rowOk_did M0_ok r178_ok) (lcons (rowOk_did M0_ok r179_ok) (lcons (rowOk_did M0_ok r181_ok) (lcons (rowOk_did M0_ok r182_ok) (lcons (rowOk_did M0_ok r183_ok) lnil)))))))))))))))))))))))))))))))))))))))))))), trivial⟩, (lcons (rowOk_did M0_ok r94_ok) (lcons (rowOk_did M0_ok r95_ok) (lcons (rowOk_did M0_ok r116_ok) (lcons (rowOk_did M0_ok r130_ok) lnil)))), trivial⟩, (lcons (rowOk_did M0_ok r1_ok) (lcons (rowOk_did M0_ok r3_ok) (lcons (rowOk_did M0_ok r5_ok) (lcons (rowOk_did M0_ok r7_ok) (lcons (rowOk_did M0_ok r9_ok) (lcons (rowOk_did M0_ok r11_ok) (lcons (rowOk_did M0_ok r13_ok) (lcons (rowOk_did M0_ok r15_ok) (lcons (rowOk_did M0_ok r17_ok) (lcons (rowOk_did M0_ok r19_ok) (lcons (rowOk_did M0_ok r21_ok) (lcons (rowOk_did M0_ok r23_ok) (lcons (rowOk_did M0_ok r25_ok) (lcons (rowOk_did M0_ok r27_ok) lnil)))))))))))))), ⟨⟨trivial, (lcons (rowOk_did M0_ok r61_ok) (lcons (rowOk_did M0_ok r62_ok) (lcons (rowOk_did M0_ok r66_ok) (lcons (rowOk_did M0_ok r67_ok) (lcons (rowOk_did M0_ok r93_ok) (lcons (rowOk_did M0_ok r103_ok) (lcons (rowOk_did M0_ok r104_ok) (lcons (rowOk_did M0_ok r773_ok) (lcons (rowOk_did M0_ok r774_ok) lnil))))))))), trivial⟩, (lcons (rowOk_did M0_ok r760_ok) lnil), trivial⟩⟩, (lcons (rowOk_did M0_ok r185_ok) (lcons (rowOk_did M0_ok r186_ok) (lcons (rowOk_did M0_ok r187_ok) (lcons (rowOk_did M0_ok r188_ok) (lcons (rowOk_did M0_ok r189_ok) (lcons (rowOk_did M0_ok r190_ok) (lcons (rowOk_did M0_ok r191_ok) (lcons (rowOk_did M0_ok r256_ok) (lcons (rowOk_did M0_ok r296_ok) (lcons (rowOk_did M0_ok r451_ok) (lcons (rowOk_did M0_ok r549_ok) (lcons (rowOk_did M0_ok r617_ok) (lcons (rowOk_did M0_ok r626_ok) (lcons (rowOk_did M0_ok r657_ok) (lcons (rowOk_did M0_ok r754_ok) (lcons (rowOk_did M0_ok r757_ok) (lcons (rowOk_did M0_ok r758_ok) (lcons (rowOk_did M0_ok r761_ok) lnil)))))))))))))))))), ⟨⟨⟨trivial, (lcons (rowOk_did M0_ok r452_ok) (lcons (rowOk_did M0_ok r550_ok) (lcons (rowOk_did M0_ok r658_ok) lnil))), trivial⟩, (lcons (rowOk_did M0_ok r297_ok) (lcons (rowOk_did M0_ok r298_ok) (lcons (rowOk_did M0_ok r453_ok) (lcons (rowOk_did M0_ok r618_ok) (lcons (rowOk_did M0_ok r628_ok) (lcons (rowOk_did M0_ok r629_ok) (lcons (rowOk_did M0_ok r672_ok) (lcons (rowOk_did M0_ok r673_ok) lnil)))))))), trivial⟩, (lcons (rowOk_did M0_ok r90_ok) (lcons (rowOk_did M0_ok r102_ok) (lcons (rowOk_did M0_ok r136_ok) (lcons (rowOk_did M0_ok r142_ok) (lcons (rowOk_did M0_ok r184_ok) (lcons (rowOk_did M0_ok r763_ok) lnil)))))), ⟨trivial, (lcons (rowOk_did M0_ok r448_ok) (lcons (rowOk_did M0_ok r469_ok) (lcons (rowOk_did M0_ok r619_ok) (lcons (rowOk_did M0_ok r627_ok) (lcons (rowOk_did M0_ok r762_ok) lnil))))), trivial⟩⟩⟩⟩
def M1 : Memo := orM (tabM t0) M0
theorem M1_ok : MemoOk cfg0 M1 := orM_ok t0_ok M0_ok
def r796 : List AV × AV := ([.str [98, 97, 115, 101, 32, 109, 101, 116, 101, 114, 32, 108, 101, 110, 103, 116, 104, 10, 98, 97, 115, 101, 32, 115, 101, 99, 111, 110, 100, 32, 116, 105, 109, 101, 10, 98, 97, 115, 101, 32, 107, 101, 108, 118, 105, 110, 32, 116, 101, 109, 112, 101, 114, 97, 116, 117, 114, 101, 10, 112, 114, 101, 102, 105, 120, 32, 107, 105, 108, 111, 32, 49, 48, 32, 51, 10, 112, 114, 101, 102, 105, 120, 32, 109, 105, 108, 108, 105, 32, 49, 48, 32, 45, 51, 10, 117, 110, 105, 116, 32, 102, 111, 111, 116, 32, 51, 56, 49, 47, 49, 50, 53, 48, 32, 109, 101, 116, 101, 114, 10, 117, 110, 105, 116, 32, 105, 110, 99, 104, 32, 49, 47, 49, 50, 32, 102, 111, 111, 116, 10, 117, 110, 105, 116, 32, 121, 97, 114, 100, 32, 51, 32, 102, 111, 111, 116, 10, 117, 110, 105, 116, 32, 109, 105, 110, 117, 116, 101, 32, 54, 48, 32, 115, 101, 99, 111, 110, 100, 10, 117, 110, 105, 116, 32, 99, 101, 108, 115, 105, 117, 115, 32, 49, 32, 107, 101, 108, 118, 105, 110, 32, 50, 55, 51, 49, 53, 47, 49, 48, 48, 10, 117, 110, 105, 116, 32, 102, 97, 104, 114, 101, 110, 104, 101, 105, 116, 32, 53, 47, 57, 32, 107, 101, 108, 118, 105, 110, 32, 52, 53, 57, 54, 55, 47, 49, 56, 48, 10, 113, 117, 97, 110, 116, 105, 116, 121, 32, 115, 112, 101, 101, 100, 32, 109, 101, 116, 101, 114, 45, 112, 101, 114, 45, 115, 101, 99, 111, 110, 100, 10, 113, 117, 97, 110, 116, 105, 116, 121, 32, 97, 114, 101, 97, 32, 115, 113, 117, 97, 114, 101, 45, 109, 101, 116, 101, 114, 10, 97, 108, 105, 97, 115, 32, 107, 112, 104, 32, 107, 105, 108, 111, 109, 101, 116, 101, 114, 45, 112, 101, 114, 45, 115, 101, 99, 111, 110, 100, 10]], .tuple [.ro [.int .i64 1, .ro [.str [98, 97, 115, 101], .str [109, 101, 116, 101, 114], .str [108, 101, 110, 103, 116, 104]] 3, .int .i64 2, .ro [.str [98, 97, 115, 101], .str [115, 101, 99, 111, 110, 100], .str [116, 105, 109, 101]] 3, .int .i64 3, .ro [.str [98, 97, 115, 101], .str [107, 101, 108, 118, 105, 110], .str [116, 101, 109, 112, 101, 114, 97, 116, 117, 114, 101]] 3, .int .i64 4, .ro [.str [112, 114, 101, 102, 105, 120], .str [107, 105, 108, 111], .str [49, 48], .str [51]] 4, .int .i64 5, .ro [.str [112, 114, 101, 102, 105, 120], .str [109, 105, 108, 108, 105], .str [49, 48], .str [45, 51]] 4, .int .i64 6, .ro [.str [117, 110, 105, 116], .str [102, 111, 111, 116], .str [51, 56, 49, 47, 49, 50, 53, 48], .str [109, 101, 116, 101, 114]] 4, .int .i64 7, .ro [.str [117, 110, 105, 116], .str [105, 110, 99, 104], .str [49, 47, 49, 50], .str [102, 111, 111, 116]] 4, .int .i64 8, .ro [.str [117, 110, 105, 116], .str [121, 97, 114, 100], .str [51], .str [102, 111, 111, 116]] 4, .int .i64 9, .ro [.str [117, 110, 105, 116], .str [109, 105, 110, 117, 116, 101], .str [54, 48], .str [115, 101, 99, 111, 110, 100]] 4, .int .i64 10, .ro [.str [117, 110, 105, 116], .str [99, 101, 108, 115, 105, 117, 115], .str [49], .str [107, 101, 108, 118, 105, 110], .str [50, 55, 51, 49, 53, 47, 49, 48, 48]] 5, .int .i64 11, .ro [.str [117, 110, 105, 116], .str [102, 97, 104, 114, 101, 110, 104, 101, 105, 116], .str [53, 47, 57], .str [107, 101, 108, 118, 105, 110], .str [52, 53, 57, 54, 55, 47, 49, 56, 48]] 5, .int .i64 12, .ro [.str [113, 117, 97, 110, 116, 105, 116, 121], .str [115, 112, 101, 101, 100], .str [109, 101, 116, 101, 114, 45, 112, 101, 114, 45, 115, 101, 99, 111, 110, 100]] 3, .int .i64 13, .ro [.str [113, 117, 97, 110, 116, 105, 116, 121], .str [97, 114, 101, 97], .str [115, 113, 117, 97, 114, 101, 45, 109, 101, 116, 101, 114]] 3, .int .i64 14, .ro [.str [97, 108, 105, 97, 115], .str [107, 112, 104], .str [107, 105, 108, 111, 109, 101, 116, 101, 114, 45, 112, 101, 114, 45, 115, 101, 99, 111, 110, 100]] 3] 14, .int .i64 0, .int .i64 0])
theorem r796_ok : rowOk cfg0 M1 3000 61 r796 = true := by kernel_rfl
def r797 : List AV × AV := ([.str [98, 97, 115, 101, 32, 109, 101, 116, 101, 114, 32, 108, 101, 110, 103, 116, 104, 10, 98, 97, 115, 101, 32, 115, 101, 99, 111, 110, 100, 32, 116, 105, 109, 101, 10, 98, 97, 115, 101, 32, 107, 101, 108, 118, 105, 110, 32, 116, 101, 109, 112, 101, 114, 97, 116, 117, 114, 101, 10, 112, 114, 101, 102, 105, 120, 32, 107, 105, 108, 111, 32, 49, 48, 32, 51, 10, 112, 114, 101, 102, 105, 120, 32, 109, 105, 108, 108, 105, 32, 49, 48, 32, 45, 51, 10, 117, 110, 105, 116, 32, 102, 111, 111, 116, 32, 51, 56, 49, 47, 49, 50, 53, 48, 32, 109, 101, 116, 101, 114, 10, 117, 110, 105, 116, 32, 105, 110, 99, 104, 32, 49, 47, 49, 50, 32, 102, 111, 111, 116, 10, 117, 110, 105, 116, 32, 121, 97, 114, 100, 32, 51, 32, 102, 111, 111, 116, 10, 117, 110, 105, 116, 32, 109, 105, 110, 117, 116, 101, 32, 54, 48, 32, 115, 101, 99, 111, 110, 100, 10, 117, 110, 105, 116, 32, 99, 101, 108, 115, 105, 117, 115, 32, 49, 32, 107, 101, 108, 118, 105, 110, 32, 50, 55, 51, 49, 53, 47, 49, 48, 48, 10, 117, 110, 105, 116, 32, 102, 97, 104, 114, 101, 110, 104, 101, 105, 116, 32, 53, 47, 57, 32, 107, 101, 108, 118, 105, 110, 32, 52, 53, 57, 54, 55, 47, 49, 56, 48, 10, 113, 117, 97, 110, 116, 105, 116, 121, 32, 115, 112, 101, 101, 100, 32, 109, 101, 116, 101, 114, 45, 112, 101, 114, 45, 115, 101, 99, 111, 110, 100, 10, 113, 117, 97, 110, 116, 105, 116, 121, 32, 97, 114, 101, 97, 32, 115, 113, 117, 97, 114, 101, 45, 109, 101, 116, 101, 114, 10, 97, 108, 105, 97, 115, 32, 107, 112, 104, 32, 107, 105, 108, 111, 109, 101, 116, 101, 114, 45, 112, 101, 114, 45, 115, 101, 99, 111, 110, 100, 10]], .tuple [.ro [.int .i64 1, .ro [.str [98, 97, 115, 101], .str [109, 101, 116, 101, 114], .str [108, 101, 110, 103, 116, 104]] 3, .int .i64 2, .ro [.str [98, 97, 115, 101], .str [115, 101, 99, 111, 110, 100], .str [116, 105, 109, 101]] 3, .int .i64 3, .ro [.str [98, 97, 115, 101], .str [107, 101, 108, 118, 105, 110], .str [116, 101, 109, 112, 101, 114, 97, 116, 117, 114, 101]] 3, .int .i64 4, .ro [.str [112, 114, 101, 102, 105, 120], .str [107, 105, 108, 111], .str [49, 48], .str [51]] 4, .int .i64 5, .ro [.str [112, 114, 101, 102, 105, 120], .str [109, 105, 108, 108, 105], .str [49, 48], .str [45, 51]] 4, .int .i64 6, .ro [.str [117, 110, 105, 116], .str [102, 111, 111, 116], .str [51, 56, 49, 47, 49, 50, 53, 48], .str [109, 101, 116, 101, 114]] 4, .int .i64 7, .ro [.str [117, 110, 105, 116], .str [105, 110, 99, 104], .str [49, 47, 49, 50], .str [102, 111, 111, 116]] 4, .int .i64 8, .ro [.str [117, 110, 105, 116], .str [121, 97, 114, 100], .str [51], .str [102, 111, 111, 116]] 4, .int .i64 9, .ro [.str [117, 110, 105, 116], .str [109, 105, 110, 117, 116, 101], .str [54, 48], .str [115, 101, 99, 111, 110, 100]] 4, .int .i64 10, .ro [.str [117, 110, 105, 116], .str [99, 101, 108, 115, 105, 117, 115], .str [49], .str [107, 101, 108, 118, 105, 110], .str [50, 55, 51, 49, 53, 47, 49, 48, 48]] 5, .int .i64 11, .ro [.str [117, 110, 105, 116], .str [102, 97, 104, 114, 101, 110, 104, 101, 105, 116], .str [53, 47, 57], .str [107, 101, 108, 118, 105, 110], .str [52, 53, 57, 54, 55, 47, 49, 56, 48]] 5, .int .i64 12, .ro [.str [113, 117, 97, 110, 116, 105, 116, 121], .str [115, 112, 101, 101, 100], .str [109, 101, 116, 101, 114, 45, 112, 101, 114, 45, 115, 101, 99, 111, 110, 100]] 3, .int .i64 13, .ro [.str [113, 117, 97, 110, 116, 105, 116, 121], .str [97, 114, 101, 97], .str [115, 113, 117, 97, 114, 101, 45, 109, 101, 116, 101, 114]] 3, .int .i64 14, .ro [.str [97, 108, 105, 97, 115], .str [107, 112, 104], .str [107, 105, 108, 111, 109, 101, 116, 101, 114, 45, 112, 101, 114, 45, 115, 101, 99, 111, 110, 100]] 3] 14, .int .i64 0, .int .i64 0])
theorem r797_ok : rowOk cfg0 M1 3000 62 r797 = true := by kernel_rfl
def r798 : List AV × AV := ([.str [109, 101, 116, 101, 114]], .bool true)
theorem r798_ok : rowOk cfg0 M1 3000 217 r798 = true := by kernel_rfl
def r799 : List AV × AV := ([.str [108, 101, 110, 103, 116, 104]], .bool true)
theorem r799_ok : rowOk cfg0 M1 3000 133 r799 = true := by kernel_rfl
def r800 : List AV × AV := ([.int .i64 1], .agg [.bool false, .ro [.int .u32 1] 1, .ro [.int .u32 1] 1])
theorem r800_ok : rowOk cfg0 M1 3000 20 r800 = true := by kernel_rfl
def r801 : List AV × AV := ([.str [115, 101, 99, 111, 110, 100]], .bool true)
theorem r801_ok : rowOk cfg0 M1 3000 217 r801 = true := by kernel_rfl
def r802 : List AV × AV := ([.str [116, 105, 109, 101]], .bool true)
theorem r802_ok : rowOk cfg0 M1 3000 133 r802 = true := by kernel_rfl
def r803 : List AV × AV := ([.str [107, 101, 108, 118, 105, 110]], .bool true)
theorem r803_ok : rowOk cfg0 M1 3000 217 r803 = true := by kernel_rfl
def r804 : List AV × AV := ([.str [116, 101, 109, 112, 101, 114, 97, 116, 117, 114, 101]], .bool true)
theorem r804_ok : rowOk cfg0 M1 3000 133 r804 = true := by kernel_rfl
def r805 : List AV × AV := ([.str [107, 105, 108, 111]], .bool true)
theorem r805_ok : rowOk cfg0 M1 3000 217 r805 = true := by kernel_rfl
def r806 : List AV × AV := ([.str [51]], .tuple [.agg [.ro [.int .u32 3] 1], .bool true])
theorem r806_ok : rowOk cfg0 M1 3000 156 r806 = true := by kernel_rfl
def r807 : List AV × AV := ([.int .i64 10], .agg [.bool false, .ro [.int .u32 10] 1, .ro [.int .u32 1] 1])
theorem r807_ok : rowOk cfg0 M1 3000 20 r807 = true := by kernel_rfl
def r808 : List AV × AV := ([.agg [.bool false, .ro [.int .u32 10] 1], .agg [.ro [.int .u32 1] 1]], .tuple [.agg [.bool false, .ro [.int .u32 10] 1, .ro [.int .u32 1] 1], .bool true])
theorem r808_ok : rowOk cfg0 M1 3000 30 r808 = true := by kernel_rfl
def r809 : List AV × AV := ([.str [109, 105, 108, 108, 105]], .bool true)
theorem r809_ok : rowOk cfg0 M1 3000 217 r809 = true := by kernel_rfl
def r810 : List AV × AV := ([.agg [.ro [.int .u32 1] 1], .agg [.ro [.int .u32 10] 1]], .agg [.ro [.int .u32 1] 1])
theorem r810_ok : rowOk cfg0 M1 3000 55 r810 = true := by kernel_rfl
def r811 : List AV × AV := ([.agg [.ro [.int .u32 1] 1], .agg [.ro [.int .u32 100] 1]], .agg [.ro [.int .u32 1] 1])
theorem r811_ok : rowOk cfg0 M1 3000 55 r811 = true := by kernel_rfl
def r812 : List AV × AV := ([.agg [.bool false, .ro [.int .u32 1] 1], .agg [.bool false, .ro [.int .u32 1] 1]], .agg [.bool false, .ro [.int .u32 1] 1])
theorem r812_ok : rowOk cfg0 M1 3000 59 r812 = true := by kernel_rfl
def r813 : List AV × AV := ([.agg [.ro [.int .u32 1] 1], .agg [.ro [.int .u32 1000] 1]], .agg [.ro [.int .u32 1] 1])
theorem r813_ok : rowOk cfg0 M1 3000 55 r813 = true := by kernel_rfl
def r814 : List AV × AV := ([.str [102, 111, 111, 116]], .bool true)
theorem r814_ok : rowOk cfg0 M1 3000 217 r814 = true := by kernel_rfl
def r815 : List AV × AV := ([.str [51, 56, 49]], .tuple [.agg [.ro [.int .u32 381] 1], .bool true])
theorem r815_ok : rowOk cfg0 M1 3000 156 r815 = true := by kernel_rfl
def r816 : List AV × AV := ([.str [49, 50, 53, 48]], .tuple [.agg [.ro [.int .u32 1250] 1], .bool true])
theorem r816_ok : rowOk cfg0 M1 3000 156 r816 = true := by kernel_rfl
def r817 : List AV × AV := ([.agg [.ro [.int .u32 381] 1], .agg [.ro [.int .u32 1250] 1]], .agg [.ro [.int .u32 1] 1])
theorem r817_ok : rowOk cfg0 M1 3000 55 r817 = true := by kernel_rfl
def r818 : List AV × AV := ([.agg [.int .i64 1, .int .i64 0, .int .i64 0, .int .i64 0, .int .i64 0, .int .i64 0, .int .i64 0, .int .i64 0], .int .i64 1], .tuple [.agg [.int .i64 1, .int .i64 0, .int .i64 0, .int .i64 0, .int .i64 0, .int .i64 0, .int .i64 0, .int .i64 0], .bool true])
theorem r818_ok : rowOk cfg0 M1 3000 72 r818 = true := by kernel_rfl
def r819 : List AV × AV := ([.agg [.int .i64 0, .int .i64 0, .int .i64 0, .int .i64 0, .int .i64 0, .int .i64 0, .int .i64 0, .int .i64 0], .agg [.int .i64 1, .int .i64 0, .int .i64 0, .int .i64 0, .int .i64 0, .int .i64 0, .int .i64 0, .int .i64 0]], .tuple [.agg [.int .i64 1, .int .i64 0, .int .i64 0, .int .i64 0, .int .i64 0, .int .i64 0, .int .i64 0, .int .i64 0], .bool true])
theorem r819_ok : rowOk cfg0 M1 3000 160 r819 = true := by kernel_rfl
def r820 : List AV × AV := ([.agg [.bool false, .ro [.int .u32 1] 1], .agg [.ro [.int .u32 1] 1]], .tuple [.agg [.bool false, .ro [.int .u32 1] 1, .ro [.int .u32 1] 1], .bool true])
theorem r820_ok : rowOk cfg0 M1 3000 30 r820 = true := by kernel_rfl
def r821 : List AV × AV := ([.agg [.bool false, .ro [.int .u32 381] 1], .agg [.bool false, .ro [.int .u32 1] 1]], .agg [.bool false, .ro [.int .u32 381] 1])
theorem r821_ok : rowOk cfg0 M1 3000 59 r821 = true := by kernel_rfl
def r822 : List AV × AV := ([.agg [.ro [.int .u32 381] 1]], .str [51, 56, 49])
theorem r822_ok : rowOk cfg0 M1 3000 71 r822 = true := by kernel_rfl
def r823 : List AV × AV := ([.agg [.ro [.int .u32 1250] 1]], .str [49, 50, 53, 48])
theorem r823_ok : rowOk cfg0 M1 3000 71 r823 = true := by kernel_rfl
def r824 : List AV × AV := ([.str [105, 110, 99, 104]], .bool true)
theorem r824_ok : rowOk cfg0 M1 3000 217 r824 = true := by kernel_rfl
def r825 : List AV × AV := ([.str [49]], .tuple [.agg [.ro [.int .u32 1] 1], .bool true])
theorem r825_ok : rowOk cfg0 M1 3000 156 r825 = true := by kernel_rfl
def r826 : List AV × AV := ([.str [49, 50]], .tuple [.agg [.ro [.int .u32 12] 1], .bool true])
theorem r826_ok : rowOk cfg0 M1 3000 156 r826 = true := by kernel_rfl
def r827 : List AV × AV := ([.agg [.ro [.int .u32 1] 1], .agg [.ro [.int .u32 12] 1]], .agg [.ro [.int .u32 1] 1])
theorem r827_ok : rowOk cfg0 M1 3000 55 r827 = true := by kernel_rfl
def r828 : List AV × AV := ([.agg [.bool false, .ro [.int .u32 1] 1], .agg [.bool false, .ro [.int .u32 381] 1]], .agg [.bool false, .ro [.int .u32 381] 1])
theorem r828_ok : rowOk cfg0 M1 3000 59 r828 = true := by kernel_rfl
def r829 : List AV × AV := ([.agg [.ro [.int .u32 381] 1], .agg [.ro [.int .u32 15000] 1]], .agg [.ro [.int .u32 3] 1])
theorem r829_ok : rowOk cfg0 M1 3000 55 r829 = true := by kernel_rfl
def r830 : List AV × AV := ([.agg [.ro [.int .u32 5000] 1]], .str [53, 48, 48, 48])
theorem r830_ok : rowOk cfg0 M1 3000 71 r830 = true := by kernel_rfl
def r831 : List AV × AV := ([.str [121, 97, 114, 100]], .bool true)
theorem r831_ok : rowOk cfg0 M1 3000 217 r831 = true := by kernel_rfl
def r832 : List AV × AV := ([.agg [.bool false, .ro [.int .u32 3] 1], .agg [.ro [.int .u32 1] 1]], .tuple [.agg [.bool false, .ro [.int .u32 3] 1, .ro [.int .u32 1] 1], .bool true])
theorem r832_ok : rowOk cfg0 M1 3000 30 r832 = true := by kernel_rfl
def r833 : List AV × AV := ([.agg [.bool false, .ro [.int .u32 3] 1], .agg [.bool false, .ro [.int .u32 381] 1]], .agg [.bool false, .ro [.int .u32 1143] 1])
theorem r833_ok : rowOk cfg0 M1 3000 59 r833 = true := by kernel_rfl
def r834 : List AV × AV := ([.agg [.ro [.int .u32 1143] 1], .agg [.ro [.int .u32 1250] 1]], .agg [.ro [.int .u32 1] 1])
theorem r834_ok : rowOk cfg0 M1 3000 55 r834 = true := by kernel_rfl
def r835 : List AV × AV := ([.agg [.ro [.int .u32 1143] 1]], .str [49, 49, 52, 51])
theorem r835_ok : rowOk cfg0 M1 3000 71 r835 = true := by kernel_rfl
def r836 : List AV × AV := ([.str [109, 105, 110, 117, 116, 101]], .bool true)
theorem r836_ok : rowOk cfg0 M1 3000 217 r836 = true := by kernel_rfl
def r837 : List AV × AV := ([.str [54, 48]], .tuple [.agg [.ro [.int .u32 60] 1], .bool true])
theorem r837_ok : rowOk cfg0 M1 3000 156 r837 = true := by kernel_rfl
def r838 : List AV × AV := ([.agg [.bool false, .ro [.int .u32 60] 1], .agg [.ro [.int .u32 1] 1]], .tuple [.agg [.bool false, .ro [.int .u32 60] 1, .ro [.int .u32 1] 1], .bool true])
theorem r838_ok : rowOk cfg0 M1 3000 30 r838 = true := by kernel_rfl
def r839 : List AV × AV := ([.agg [.int .i64 0, .int .i64 1, .int .i64 0, .int .i64 0, .int .i64 0, .int .i64 0, .int .i64 0, .int .i64 0], .int .i64 1], .tuple [.agg [.int .i64 0, .int .i64 1, .int .i64 0, .int .i64 0, .int .i64 0, .int .i64 0, .int .i64 0, .int .i64 0], .bool true])
theorem r839_ok : rowOk cfg0 M1 3000 72 r839 = true := by kernel_rfl
def r840 : List AV × AV := ([.agg [.int .i64 0, .int .i64 0, .int .i64 0, .int .i64 0, .int .i64 0, .int .i64 0, .int .i64 0, .int .i64 0], .agg [.int .i64 0, .int .i64 1, .int .i64 0, .int .i64 0, .int .i64 0, .int .i64 0, .int .i64 0, .int .i64 0]], .tuple [.agg [.int .i64 0, .int .i64 1, .int .i64 0, .int .i64 0, .int .i64 0, .int .i64 0, .int .i64 0, .int .i64 0], .bool true])
theorem r840_ok : rowOk cfg0 M1 3000 160 r840 = true := by kernel_rfl
def r841 : List AV × AV := ([.agg [.bool false, .ro [.int .u32 60] 1], .agg [.bool false, .ro [.int .u32 1] 1]], .agg [.bool false, .ro [.int .u32 60] 1])
theorem r841_ok : rowOk cfg0 M1 3000 59 r841 = true := by kernel_rfl
def r842 : List AV × AV := ([.str [99, 101, 108, 115, 105, 117, 115]], .bool true)
theorem r842_ok : rowOk cfg0 M1 3000 217 r842 = true := by kernel_rfl
def r843 : List AV × AV := ([.str [50, 55, 51, 49, 53]], .tuple [.agg [.ro [.int .u32 27315] 1], .bool true])
theorem r843_ok : rowOk cfg0 M1 3000 156 r843 = true := by kernel_rfl
def r844 : List AV × AV := ([.str [49, 48, 48]], .tuple [.agg [.ro [.int .u32 100] 1], .bool true])
theorem r844_ok : rowOk cfg0 M1 3000 156 r844 = true := by kernel_rfl
def r845 : List AV × AV := ([.agg [.ro [.int .u32 27315] 1], .agg [.ro [.int .u32 100] 1]], .agg [.ro [.int .u32 5] 1])
theorem r845_ok : rowOk cfg0 M1 3000 55 r845 = true := by kernel_rfl
def r846 : List AV × AV := ([.agg [.int .i64 0, .int .i64 0, .int .i64 1, .int .i64 0, .int .i64 0, .int .i64 0, .int .i64 0, .int .i64 0], .int .i64 1], .tuple [.agg [.int .i64 0, .int .i64 0, .int .i64 1, .int .i64 0, .int .i64 0, .int .i64 0, .int .i64 0, .int .i64 0], .bool true])
theorem r846_ok : rowOk cfg0 M1 3000 72 r846 = true := by kernel_rfl
def r847 : List AV × AV := ([.agg [.int .i64 0, .int .i64 0, .int .i64 0, .int .i64 0, .int .i64 0, .int .i64 0, .int .i64 0, .int .i64 0], .agg [.int .i64 0, .int .i64 0, .int .i64 1, .int .i64 0, .int .i64 0, .int .i64 0, .int .i64 0, .int .i64 0]], .tuple [.agg [.int .i64 0, .int .i64 0, .int .i64 1, .int .i64 0, .int .i64 0, .int .i64 0, .int .i64 0, .int .i64 0], .bool true])
theorem r847_ok : rowOk cfg0 M1 3000 160 r847 = true := by kernel_rfl
def r848 : List AV × AV := ([.str [102, 97, 104, 114, 101, 110, 104, 101, 105, 116]], .bool true)
theorem r848_ok : rowOk cfg0 M1 3000 217 r848 = true := by kernel_rfl
def r849 : List AV × AV := ([.str [53]], .tuple [.agg [.ro [.int .u32 5] 1], .bool true])
theorem r849_ok : rowOk cfg0 M1 3000 156 r849 = true := by kernel_rfl
def r850 : List AV × AV := ([.str [57]], .tuple [.agg [.ro [.int .u32 9] 1], .bool true])
theorem r850_ok : rowOk cfg0 M1 3000 156 r850 = true := by kernel_rfl
def r851 : List AV × AV := ([.agg [.ro [.int .u32 5] 1], .agg [.ro [.int .u32 9] 1]], .agg [.ro [.int .u32 1] 1])
theorem r851_ok : rowOk cfg0 M1 3000 55 r851 = true := by kernel_rfl
def r852 : List AV × AV := ([.str [52, 53, 57, 54, 55]], .tuple [.agg [.ro [.int .u32 45967] 1], .bool true])
theorem r852_ok : rowOk cfg0 M1 3000 156 r852 = true := by kernel_rfl
def r853 : List AV × AV := ([.str [49, 56, 48]], .tuple [.agg [.ro [.int .u32 180] 1], .bool true])
theorem r853_ok : rowOk cfg0 M1 3000 156 r853 = true := by kernel_rfl
def r854 : List AV × AV := ([.agg [.ro [.int .u32 45967] 1], .agg [.ro [.int .u32 180] 1]], .agg [.ro [.int .u32 1] 1])
theorem r854_ok : rowOk cfg0 M1 3000 55 r854 = true := by kernel_rfl
def r855 : List AV × AV := ([.agg [.bool false, .ro [.int .u32 5] 1], .agg [.bool false, .ro [.int .u32 1] 1]], .agg [.bool false, .ro [.int .u32 5] 1])
theorem r855_ok : rowOk cfg0 M1 3000 59 r855 = true := by kernel_rfl
def r856 : List AV × AV := ([.str [115, 112, 101, 101, 100]], .bool true)
theorem r856_ok : rowOk cfg0 M1 3000 133 r856 = true := by kernel_rfl
def r857 : List AV × AV := ([.agg [.int .i64 0, .int .i64 1, .int .i64 0, .int .i64 0, .int .i64 0, .int .i64 0, .int .i64 0, .int .i64 0], .int .i64 (-1)], .tuple [.agg [.int .i64 0, .int .i64 (-1), .int .i64 0, .int .i64 0, .int .i64 0, .int .i64 0, .int .i64 0, .int .i64 0], .bool true])
theorem r857_ok : rowOk cfg0 M1 3000 72 r857 = true := by kernel_rfl
def r858 : List AV × AV := ([.agg [.int .i64 1, .int .i64 0, .int .i64 0, .int .i64 0, .int .i64 0, .int .i64 0, .int .i64 0, .int .i64 0], .agg [.int .i64 0, .int .i64 (-1), .int .i64 0, .int .i64 0, .int .i64 0, .int .i64 0, .int .i64 0, .int .i64 0]], .tuple [.agg [.int .i64 1, .int .i64 (-1), .int .i64 0, .int .i64 0, .int .i64 0, .int .i64 0, .int .i64 0, .int .i64 0], .bool true])
theorem r858_ok : rowOk cfg0 M1 3000 160 r858 = true := by kernel_rfl
def r859 : List AV × AV := ([.str [97, 114, 101, 97]], .bool true)
theorem r859_ok : rowOk cfg0 M1 3000 133 r859 = true := by kernel_rfl
def r860 : List AV × AV := ([.agg [.int .i64 1, .int .i64 0, .int .i64 0, .int .i64 0, .int .i64 0, .int .i64 0, .int .i64 0, .int .i64 0], .int .i64 2], .tuple [.agg [.int .i64 2, .int .i64 0, .int .i64 0, .int .i64 0, .int .i64 0, .int .i64 0, .int .i64 0, .int .i64 0], .bool true])
theorem r860_ok : rowOk cfg0 M1 3000 72 r860 = true := by kernel_rfl
def r861 : List AV × AV := ([.agg [.int .i64 0, .int .i64 0, .int .i64 0, .int .i64 0, .int .i64 0, .int .i64 0, .int .i64 0, .int .i64 0], .agg [.int .i64 2, .int .i64 0, .int .i64 0, .int .i64 0, .int .i64 0, .int .i64 0, .int .i64 0, .int .i64 0]], .tuple [.agg [.int .i64 2, .int .i64 0, .int .i64 0, .int .i64 0, .int .i64 0, .int .i64 0, .int .i64 0, .int .i64 0], .bool true])
theorem r861_ok : rowOk cfg0 M1 3000 160 r861 = true := by kernel_rfl
def r862 : List AV × AV := ([.str [107, 112, 104]], .bool true)
theorem r862_ok : rowOk cfg0 M1 3000 217 r862 = true := by kernel_rfl
def r863 : List AV × AV := ([.str [108, 101, 110, 103, 116, 104]], .tuple [.ro [.str [108, 101, 110, 103, 116, 104]] 1, .int .i64 0])
theorem r863_ok : rowOk cfg0 M1 3000 220 r863 = true := by kernel_rfl
def r864 : List AV × AV := ([.str [116, 105, 109, 101]], .tuple [.ro [.str [116, 105, 109, 101]] 1, .int .i64 0])
theorem r864_ok : rowOk cfg0 M1 3000 220 r864 = true := by kernel_rfl
def r865 : List AV × AV := ([.str [116, 101, 109, 112, 101, 114, 97, 116, 117, 114, 101]], .tuple [.ro [.str [116, 101, 109, 112, 101, 114, 97, 116, 117, 114, 101]] 1, .int .i64 0])
theorem r865_ok : rowOk cfg0 M1 3000 220 r865 = true := by kernel_rfl
def r866 : List AV × AV := ([.str [51]], .tuple [.int .i64 3, .bool true])
theorem r866_ok : rowOk cfg0 M1 3000 186 r866 = true := by kernel_rfl
def r867 : List AV × AV := ([.ro [.int .i64 10] 1, .ro [.int .i64 1] 1], .tuple [.ro [.int .i64 10] 1, .e0])
theorem r867_ok : rowOk cfg0 M1 3000 78 r867 = true := by kernel_rfl
def r868 : List AV × AV := ([.ro [.int .i64 1] 1, .ro [.int .i64 1] 1], .tuple [.ro [.int .i64 1] 1, .e0])
theorem r868_ok : rowOk cfg0 M1 3000 78 r868 = true := by kernel_rfl
def r869 : List AV × AV := ([.ro [.int .i64 100] 1, .ro [.int .i64 1] 1], .tuple [.ro [.int .i64 100] 1, .e0])
theorem r869_ok : rowOk cfg0 M1 3000 78 r869 = true := by kernel_rfl
def r870 : List AV × AV := ([.ro [.int .i64 1000] 1, .ro [.int .i64 1] 1], .tuple [.ro [.int .i64 1000] 1, .e0])
theorem r870_ok : rowOk cfg0 M1 3000 78 r870 = true := by kernel_rfl
def r871 : List AV × AV := ([.str [45, 51]], .tuple [.int .i64 (-3), .bool true])
theorem r871_ok : rowOk cfg0 M1 3000 186 r871 = true := by kernel_rfl
def r872 : List AV × AV := ([.ro [.int .i64 1] 1, .ro [.int .i64 10] 1], .tuple [.e0, .ro [.int .i64 1] 1])
theorem r872_ok : rowOk cfg0 M1 3000 78 r872 = true := by kernel_rfl
def r873 : List AV × AV := ([.ro [.int .i64 1] 1, .ro [.int .i64 100] 1], .tuple [.e0, .ro [.int .i64 1] 1])
theorem r873_ok : rowOk cfg0 M1 3000 78 r873 = true := by kernel_rfl
def r874 : List AV × AV := ([.ro [.int .i64 1] 1, .ro [.int .i64 1000] 1], .tuple [.e0, .ro [.int .i64 1] 1])
theorem r874_ok : rowOk cfg0 M1 3000 78 r874 = true := by kernel_rfl
def r875 : List AV × AV := ([.ro [.int .i64 381] 1, .ro [.int .i64 1250] 1], .tuple [.e0, .ro [.int .i64 381] 1])
theorem r875_ok : rowOk cfg0 M1 3000 78 r875 = true := by kernel_rfl
def r876 : List AV × AV := ([.ro [.int .i64 1250] 1, .ro [.int .i64 381] 1], .tuple [.ro [.int .i64 3] 1, .ro [.int .i64 107] 1])
theorem r876_ok : rowOk cfg0 M1 3000 78 r876 = true := by kernel_rfl
def r877 : List AV × AV := ([.ro [.int .i64 381] 1, .ro [.int .i64 107] 1], .tuple [.ro [.int .i64 3] 1, .ro [.int .i64 60] 1])
theorem r877_ok : rowOk cfg0 M1 3000 78 r877 = true := by kernel_rfl
def r878 : List AV × AV := ([.ro [.int .i64 107] 1, .ro [.int .i64 60] 1], .tuple [.ro [.int .i64 1] 1, .ro [.int .i64 47] 1])
theorem r878_ok : rowOk cfg0 M1 3000 78 r878 = true := by kernel_rfl
end Go.Am.awakeF
