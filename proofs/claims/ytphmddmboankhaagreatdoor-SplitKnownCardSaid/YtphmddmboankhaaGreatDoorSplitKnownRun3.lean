/- SplitKnown: calls on its road whose answers are kept, each run by the kernel over those ahead of it (part 3). Written by wip/gen/memo2lean.py. -/
import Derived.Test.YtphmddmboankhaaGreatDoorSplitKnownRun2
import Derived.Test.YtphmddmboankhaaGreatDoorAmCfgA
import Derived.Test.YtphmddmboankhaaGreatDoorAmMemo
import Derived.KernelRfl
namespace Go.Am.splitKnown
set_option maxRecDepth 100000
open Go.Am
def r233 : List AV × AV := ([.agg [.bool false, .ro [.int .u32 116] 1, .int .i64 1]], .tuple [.str [49, 49], .str [54]])
theorem r233_ok : rowOk cfg0 M0 3000 92 r233 = true := by kernel_rfl
def r234 : List AV × AV := ([.str [55, 50]], .tuple [.agg [.ro [.int .u32 72] 1], .bool true])
theorem r234_ok : rowOk cfg0 M0 3000 45 r234 = true := by kernel_rfl
def r235 : List AV × AV := ([.str [121, 97, 114, 100]], .int .i64 1)
theorem r235_ok : rowOk cfg0 M0 3000 226 r235 = true := by kernel_rfl
def r236 : List AV × AV := ([.agg [.bool true, .ro [.int .u32 1143] 1], .agg [.bool false, .ro [.int .u32 1250] 1]], .agg [.bool true, .ro [.int .u32 1428750] 1])
theorem r236_ok : rowOk cfg0 M0 3000 78 r236 = true := by kernel_rfl
def r237 : List AV × AV := ([.agg [.bool false, .ro [.int .u32 476250] 1], .agg [.bool true, .ro [.int .u32 1428750] 1]], .agg [.bool true, .ro [.int .u32 952500] 1])
theorem r237_ok : rowOk cfg0 M0 3000 75 r237 = true := by kernel_rfl
def r238 : List AV × AV := ([.agg [.ro [.int .u32 952500] 1], .agg [.ro [.int .u32 1562500] 1]], .agg [.ro [.int .u32 2500] 1])
theorem r238_ok : rowOk cfg0 M0 3000 72 r238 = true := by kernel_rfl
def r239 : List AV × AV := ([.agg [.ro [.int .u32 381] 1], .agg [.ro [.int .u32 625] 1]], .agg [.ro [.int .u32 1] 1])
theorem r239_ok : rowOk cfg0 M0 3000 72 r239 = true := by kernel_rfl
def r240 : List AV × AV := ([.agg [.ro [.int .u32 100] 1], .agg [.ro [.int .u32 1] 1]], .agg [.ro [.int .u32 1] 1])
theorem r240_ok : rowOk cfg0 M0 3000 72 r240 = true := by kernel_rfl
def r241 : List AV × AV := ([.agg [.ro [.int .u32 7200] 1], .agg [.ro [.int .u32 1] 1]], .agg [.ro [.int .u32 1] 1])
theorem r241_ok : rowOk cfg0 M0 3000 72 r241 = true := by kernel_rfl
def r242 : List AV × AV := ([.agg [.bool false, .ro [.int .u32 7200] 1], .agg [.bool false, .ro [.int .u32 1] 1]], .tuple [.agg [.bool false, .ro [.int .u32 7200] 1], .agg [.bool false, .e0], .bool true])
theorem r242_ok : rowOk cfg0 M0 3000 70 r242 = true := by kernel_rfl
def r243 : List AV × AV := ([.agg [.bool true, .ro [.int .u32 7200] 1], .agg [.bool false, .ro [.int .u32 1] 1]], .agg [.bool true, .ro [.int .u32 7200] 1])
theorem r243_ok : rowOk cfg0 M0 3000 78 r243 = true := by kernel_rfl
def r244 : List AV × AV := ([.agg [.bool false, .ro [.int .u32 7200] 1], .agg [.bool true, .ro [.int .u32 7200] 1]], .agg [.bool false, .e0])
theorem r244_ok : rowOk cfg0 M0 3000 75 r244 = true := by kernel_rfl
def r245 : List AV × AV := ([.agg [.ro [.int .u32 7200] 1], .agg [.ro [.int .u32 100] 1]], .agg [.ro [.int .u32 100] 1])
theorem r245_ok : rowOk cfg0 M0 3000 72 r245 = true := by kernel_rfl
def r246 : List AV × AV := ([.agg [.ro [.int .u32 5715000] 1], .agg [.ro [.int .u32 158750] 1]], .agg [.ro [.int .u32 158750] 1])
theorem r246_ok : rowOk cfg0 M0 3000 72 r246 = true := by kernel_rfl
def r247 : List AV × AV := ([.agg [.ro [.int .u32 36] 1], .agg [.ro [.int .u32 1] 1]], .agg [.ro [.int .u32 1] 1])
theorem r247_ok : rowOk cfg0 M0 3000 72 r247 = true := by kernel_rfl
def r248 : List AV × AV := ([.agg [.ro [.int .u32 1] 1], .agg [.ro [.int .u32 36] 1]], .agg [.ro [.int .u32 1] 1])
theorem r248_ok : rowOk cfg0 M0 3000 72 r248 = true := by kernel_rfl
def r249 : List AV × AV := ([.agg [.ro [.int .u32 72] 1], .agg [.ro [.int .u32 36] 1]], .agg [.ro [.int .u32 36] 1])
theorem r249_ok : rowOk cfg0 M0 3000 72 r249 = true := by kernel_rfl
def r250 : List AV × AV := ([.agg [.ro [.int .u32 2] 1], .agg [.ro [.int .u32 1] 1]], .agg [.ro [.int .u32 1] 1])
theorem r250_ok : rowOk cfg0 M0 3000 72 r250 = true := by kernel_rfl
def r251 : List AV × AV := ([.agg [.bool false, .ro [.int .u32 2] 1], .agg [.bool false, .ro [.int .u32 1] 1]], .tuple [.agg [.bool false, .ro [.int .u32 2] 1], .agg [.bool false, .e0], .bool true])
theorem r251_ok : rowOk cfg0 M0 3000 70 r251 = true := by kernel_rfl
def r252 : List AV × AV := ([.agg [.bool false, .e0], .agg [.ro [.int .u32 12] 1]], .tuple [.agg [.bool false, .nilsl, .ro [.int .u32 1] 1], .bool true])
theorem r252_ok : rowOk cfg0 M0 3000 28 r252 = true := by kernel_rfl
def r253 : List AV × AV := ([.agg [.bool false, .nilsl], .agg [.bool false, .ro [.int .u32 1] 1]], .tuple [.agg [.bool false, .e0], .agg [.bool false, .e0], .bool true])
theorem r253_ok : rowOk cfg0 M0 3000 70 r253 = true := by kernel_rfl
def r254 : List AV × AV := ([.agg [.ro [.int .u32 1] 1], .agg [.ro [.int .u32 3] 1]], .agg [.ro [.int .u32 1] 1])
theorem r254_ok : rowOk cfg0 M0 3000 72 r254 = true := by kernel_rfl
def r255 : List AV × AV := ([.agg [.ro [.int .u32 100] 1], .agg [.ro [.int .u32 3] 1]], .agg [.ro [.int .u32 1] 1])
theorem r255_ok : rowOk cfg0 M0 3000 72 r255 = true := by kernel_rfl
def r256 : List AV × AV := ([.agg [.bool false, .ro [.int .u32 100] 1], .agg [.bool false, .ro [.int .u32 3] 1]], .tuple [.agg [.bool false, .ro [.int .u32 33] 1], .agg [.bool false, .ro [.int .u32 1] 1], .bool true])
theorem r256_ok : rowOk cfg0 M0 3000 70 r256 = true := by kernel_rfl
def r257 : List AV × AV := ([.agg [.ro [.int .u32 33] 1], .agg [.ro [.int .u32 1] 1]], .agg [.ro [.int .u32 1] 1])
theorem r257_ok : rowOk cfg0 M0 3000 72 r257 = true := by kernel_rfl
def r258 : List AV × AV := ([.agg [.bool true, .ro [.int .u32 33] 1], .agg [.bool false, .ro [.int .u32 3] 1]], .agg [.bool true, .ro [.int .u32 99] 1])
theorem r258_ok : rowOk cfg0 M0 3000 78 r258 = true := by kernel_rfl
def r259 : List AV × AV := ([.agg [.bool false, .ro [.int .u32 100] 1], .agg [.bool true, .ro [.int .u32 99] 1]], .agg [.bool false, .ro [.int .u32 1] 1])
theorem r259_ok : rowOk cfg0 M0 3000 75 r259 = true := by kernel_rfl
def r260 : List AV × AV := ([.agg [.bool false, .ro [.int .u32 3] 1], .agg [.bool false, .ro [.int .u32 3] 1]], .agg [.bool false, .ro [.int .u32 6] 1])
theorem r260_ok : rowOk cfg0 M0 3000 75 r260 = true := by kernel_rfl
def r261 : List AV × AV := ([.agg [.ro [.int .u32 6] 1], .agg [.ro [.int .u32 9] 1]], .agg [.ro [.int .u32 3] 1])
theorem r261_ok : rowOk cfg0 M0 3000 72 r261 = true := by kernel_rfl
def r262 : List AV × AV := ([.agg [.ro [.int .u32 2] 1], .agg [.ro [.int .u32 3] 1]], .agg [.ro [.int .u32 1] 1])
theorem r262_ok : rowOk cfg0 M0 3000 72 r262 = true := by kernel_rfl
def r263 : List AV × AV := ([.agg [.bool true, .ro [.int .u32 1] 1], .agg [.bool false, .ro [.int .u32 3] 1]], .agg [.bool true, .ro [.int .u32 3] 1])
theorem r263_ok : rowOk cfg0 M0 3000 78 r263 = true := by kernel_rfl
def r264 : List AV × AV := ([.agg [.bool false, .ro [.int .u32 2] 1], .agg [.bool true, .ro [.int .u32 3] 1]], .agg [.bool true, .ro [.int .u32 1] 1])
theorem r264_ok : rowOk cfg0 M0 3000 75 r264 = true := by kernel_rfl
def r265 : List AV × AV := ([.agg [.ro [.int .u32 33] 1], .agg [.ro [.int .u32 100] 1]], .agg [.ro [.int .u32 1] 1])
theorem r265_ok : rowOk cfg0 M0 3000 72 r265 = true := by kernel_rfl
def r266 : List AV × AV := ([.agg [.bool false, .ro [.int .u32 33] 1], .agg [.bool false, .e0]], .agg [.bool false, .ro [.int .u32 33] 1])
theorem r266_ok : rowOk cfg0 M0 3000 75 r266 = true := by kernel_rfl
def r267 : List AV × AV := ([.agg [.bool true, .ro [.int .u32 127] 1], .agg [.bool false, .ro [.int .u32 1250] 1]], .agg [.bool true, .ro [.int .u32 158750] 1])
theorem r267_ok : rowOk cfg0 M0 3000 78 r267 = true := by kernel_rfl
def r268 : List AV × AV := ([.agg [.bool false, .ro [.int .u32 1905000] 1], .agg [.bool true, .ro [.int .u32 158750] 1]], .agg [.bool false, .ro [.int .u32 1746250] 1])
theorem r268_ok : rowOk cfg0 M0 3000 75 r268 = true := by kernel_rfl
def r269 : List AV × AV := ([.agg [.bool true, .ro [.int .u32 381] 1], .agg [.bool false, .ro [.int .u32 1250] 1]], .agg [.bool true, .ro [.int .u32 476250] 1])
theorem r269_ok : rowOk cfg0 M0 3000 78 r269 = true := by kernel_rfl
def r270 : List AV × AV := ([.agg [.bool false, .ro [.int .u32 476250] 1], .agg [.bool true, .ro [.int .u32 476250] 1]], .agg [.bool false, .e0])
theorem r270_ok : rowOk cfg0 M0 3000 75 r270 = true := by kernel_rfl
def r271 : List AV × AV := ([.agg [.bool false, .e0], .agg [.ro [.int .u32 1562500] 1]], .tuple [.agg [.bool false, .nilsl, .ro [.int .u32 1] 1], .bool true])
theorem r271_ok : rowOk cfg0 M0 3000 28 r271 = true := by kernel_rfl
def r272 : List AV × AV := ([.str [99, 101, 108, 115, 105, 117, 115]], .int .i64 1)
theorem r272_ok : rowOk cfg0 M0 3000 226 r272 = true := by kernel_rfl
def r273 : List AV × AV := ([.agg [.bool true, .ro [.int .u32 1] 1], .agg [.bool false, .ro [.int .u32 1] 1]], .agg [.bool true, .ro [.int .u32 1] 1])
theorem r273_ok : rowOk cfg0 M0 3000 78 r273 = true := by kernel_rfl
def r274 : List AV × AV := ([.agg [.bool false, .ro [.int .u32 1] 1], .agg [.bool true, .ro [.int .u32 1] 1]], .agg [.bool false, .e0])
theorem r274_ok : rowOk cfg0 M0 3000 75 r274 = true := by kernel_rfl
def r275 : List AV × AV := ([.str [50, 48]], .tuple [.agg [.ro [.int .u32 20] 1], .bool true])
theorem r275_ok : rowOk cfg0 M0 3000 45 r275 = true := by kernel_rfl
def r276 : List AV × AV := ([.agg [.ro [.int .u32 20] 1], .agg [.ro [.int .u32 1] 1]], .agg [.ro [.int .u32 1] 1])
theorem r276_ok : rowOk cfg0 M0 3000 72 r276 = true := by kernel_rfl
def r277 : List AV × AV := ([.agg [.bool false, .ro [.int .u32 20] 1], .agg [.bool false, .ro [.int .u32 1] 1]], .tuple [.agg [.bool false, .ro [.int .u32 20] 1], .agg [.bool false, .e0], .bool true])
theorem r277_ok : rowOk cfg0 M0 3000 70 r277 = true := by kernel_rfl
def r278 : List AV × AV := ([.agg [.bool true, .ro [.int .u32 20] 1], .agg [.bool false, .ro [.int .u32 1] 1]], .agg [.bool true, .ro [.int .u32 20] 1])
theorem r278_ok : rowOk cfg0 M0 3000 78 r278 = true := by kernel_rfl
def r279 : List AV × AV := ([.agg [.bool false, .ro [.int .u32 20] 1], .agg [.bool true, .ro [.int .u32 20] 1]], .agg [.bool false, .e0])
theorem r279_ok : rowOk cfg0 M0 3000 75 r279 = true := by kernel_rfl
def r280 : List AV × AV := ([.agg [.bool false, .ro [.int .u32 20] 1], .agg [.bool false, .e0]], .agg [.bool false, .ro [.int .u32 20] 1])
theorem r280_ok : rowOk cfg0 M0 3000 75 r280 = true := by kernel_rfl
def r281 : List AV × AV := ([.str [49, 48, 48, 48], .str [48, 49, 50, 51, 52, 53, 54, 55, 56, 57]], .str [])
theorem r281_ok : rowOk cfg0 M0 3000 90 r281 = true := by kernel_rfl
def r282 : List AV × AV := ([.agg [.ro [.int .u32 1000] 1], .agg [.ro [.int .u32 1] 1]], .agg [.ro [.int .u32 1] 1])
theorem r282_ok : rowOk cfg0 M0 3000 72 r282 = true := by kernel_rfl
def r283 : List AV × AV := ([.agg [.bool true, .ro [.int .u32 1] 1], .agg [.bool false, .ro [.int .u32 1250] 1]], .agg [.bool true, .ro [.int .u32 1250] 1])
theorem r283_ok : rowOk cfg0 M0 3000 78 r283 = true := by kernel_rfl
def r284 : List AV × AV := ([.agg [.bool false, .ro [.int .u32 381] 1], .agg [.bool true, .ro [.int .u32 1250] 1]], .agg [.bool true, .ro [.int .u32 869] 1])
theorem r284_ok : rowOk cfg0 M0 3000 75 r284 = true := by kernel_rfl
def r285 : List AV × AV := ([.agg [.ro [.int .u32 869] 1], .agg [.ro [.int .u32 1250] 1]], .agg [.ro [.int .u32 1] 1])
theorem r285_ok : rowOk cfg0 M0 3000 72 r285 = true := by kernel_rfl
def r286 : List AV × AV := ([.agg [.bool false, .ro [.int .u32 1000] 1], .agg [.bool false, .ro [.int .u32 1] 1]], .tuple [.agg [.bool false, .ro [.int .u32 1000] 1], .agg [.bool false, .e0], .bool true])
theorem r286_ok : rowOk cfg0 M0 3000 70 r286 = true := by kernel_rfl
def r287 : List AV × AV := ([.agg [.bool true, .ro [.int .u32 1000] 1], .agg [.bool false, .ro [.int .u32 1] 1]], .agg [.bool true, .ro [.int .u32 1000] 1])
theorem r287_ok : rowOk cfg0 M0 3000 78 r287 = true := by kernel_rfl
def r288 : List AV × AV := ([.agg [.bool false, .ro [.int .u32 1000] 1], .agg [.bool true, .ro [.int .u32 1000] 1]], .agg [.bool false, .e0])
theorem r288_ok : rowOk cfg0 M0 3000 75 r288 = true := by kernel_rfl
def r289 : List AV × AV := ([.agg [.ro [.int .u32 1250] 1], .agg [.ro [.int .u32 381] 1]], .agg [.ro [.int .u32 1] 1])
theorem r289_ok : rowOk cfg0 M0 3000 72 r289 = true := by kernel_rfl
def r290 : List AV × AV := ([.agg [.ro [.int .u32 381000] 1], .agg [.ro [.int .u32 1250] 1]], .agg [.ro [.int .u32 250] 1])
theorem r290_ok : rowOk cfg0 M0 3000 72 r290 = true := by kernel_rfl
def r291 : List AV × AV := ([.agg [.ro [.int .u32 1524] 1], .agg [.ro [.int .u32 5] 1]], .agg [.ro [.int .u32 1] 1])
theorem r291_ok : rowOk cfg0 M0 3000 72 r291 = true := by kernel_rfl
def r292 : List AV × AV := ([.agg [.bool false, .ro [.int .u32 1524] 1], .agg [.bool false, .ro [.int .u32 5] 1]], .tuple [.agg [.bool false, .ro [.int .u32 304] 1], .agg [.bool false, .ro [.int .u32 4] 1], .bool true])
theorem r292_ok : rowOk cfg0 M0 3000 70 r292 = true := by kernel_rfl
def r293 : List AV × AV := ([.agg [.ro [.int .u32 304] 1], .agg [.ro [.int .u32 1] 1]], .agg [.ro [.int .u32 1] 1])
theorem r293_ok : rowOk cfg0 M0 3000 72 r293 = true := by kernel_rfl
def r294 : List AV × AV := ([.agg [.ro [.int .u32 380000] 1], .agg [.ro [.int .u32 381] 1]], .agg [.ro [.int .u32 1] 1])
theorem r294_ok : rowOk cfg0 M0 3000 72 r294 = true := by kernel_rfl
def r295 : List AV × AV := ([.agg [.bool true, .ro [.int .u32 380000] 1], .agg [.bool false, .ro [.int .u32 1] 1]], .agg [.bool true, .ro [.int .u32 380000] 1])
theorem r295_ok : rowOk cfg0 M0 3000 78 r295 = true := by kernel_rfl
def r296 : List AV × AV := ([.agg [.bool false, .ro [.int .u32 381000] 1], .agg [.bool true, .ro [.int .u32 380000] 1]], .agg [.bool false, .ro [.int .u32 1000] 1])
theorem r296_ok : rowOk cfg0 M0 3000 75 r296 = true := by kernel_rfl
def r297 : List AV × AV := ([.agg [.ro [.int .u32 1000] 1], .agg [.ro [.int .u32 381] 1]], .agg [.ro [.int .u32 1] 1])
theorem r297_ok : rowOk cfg0 M0 3000 72 r297 = true := by kernel_rfl
def r298 : List AV × AV := ([.agg [.bool false, .ro [.int .u32 1000] 1], .agg [.bool false, .e0]], .agg [.bool false, .ro [.int .u32 1000] 1])
theorem r298_ok : rowOk cfg0 M0 3000 75 r298 = true := by kernel_rfl
def r299 : List AV × AV := ([.agg [.ro [.int .u32 1661992960, .int .u32 1808227885, .int .u32 5] 3], .agg [.ro [.int .u32 381] 1]], .tuple [.agg [.ro [.int .u32 680734988, .int .u32 61110405] 2], .agg [.ro [.int .u32 292] 1], .bool true])
theorem r299_ok : rowOk cfg0 M0 3000 73 r299 = true := by kernel_rfl
def r300 : List AV × AV := ([.agg [.ro [.int .u32 3735027712, .int .u32 902409669, .int .u32 54] 3], .agg [.ro [.int .u32 381] 1]], .tuple [.agg [.ro [.int .u32 2512382591, .int .u32 611104051] 2], .agg [.ro [.int .u32 253] 1], .bool true])
theorem r300_ok : rowOk cfg0 M0 3000 73 r300 = true := by kernel_rfl
def r301 : List AV × AV := ([.agg [.ro [.int .u32 2684354560, .int .u32 1836193738, .int .u32 1126043566, .int .u32 1] 4], .agg [.ro [.int .u32 381] 1]], .tuple [.agg [.ro [.int .u32 2543443559, .int .u32 4153239261, .int .u32 14228374] 3], .agg [.ro [.int .u32 181] 1], .bool true])
theorem r301_ok : rowOk cfg0 M0 3000 73 r301 = true := by kernel_rfl
def r302 : List AV × AV := ([.agg [.ro [.int .u32 1073741824, .int .u32 1182068202, .int .u32 2670501072, .int .u32 12] 4], .agg [.ro [.int .u32 381] 1]], .tuple [.agg [.ro [.int .u32 3959599114, .int .u32 2877686951, .int .u32 142283749] 3], .agg [.ro [.int .u32 286] 1], .bool true])
theorem r302_ok : rowOk cfg0 M0 3000 73 r302 = true := by kernel_rfl
def r303 : List AV × AV := ([.agg [.ro [.int .u32 2147483648, .int .u32 3230747430, .int .u32 935206946, .int .u32 126] 4], .agg [.ro [.int .u32 381] 1]], .tuple [.agg [.ro [.int .u32 941285483, .int .u32 3007065743, .int .u32 1422837496] 3], .agg [.ro [.int .u32 193] 1], .bool true])
theorem r303_ok : rowOk cfg0 M0 3000 73 r303 = true := by kernel_rfl
def r304 : List AV × AV := ([.agg [.ro [.int .u32 0, .int .u32 2242703233, .int .u32 762134875, .int .u32 1262] 4], .agg [.ro [.int .u32 381] 1]], .tuple [.agg [.ro [.int .u32 822920243, .int .u32 5886360, .int .u32 1343473079, .int .u32 3] 4], .agg [.ro [.int .u32 25] 1], .bool true])
theorem r304_ok : rowOk cfg0 M0 3000 73 r304 = true := by kernel_rfl
def r305 : List AV × AV := ([.agg [.ro [.int .u32 0, .int .u32 952195850, .int .u32 3326381459, .int .u32 12621] 4], .agg [.ro [.int .u32 381] 1]], .tuple [.agg [.ro [.int .u32 3934235134, .int .u32 58863601, .int .u32 549828902, .int .u32 33] 4], .agg [.ro [.int .u32 250] 1], .bool true])
theorem r305_ok : rowOk cfg0 M0 3000 73 r305 = true := by kernel_rfl
def r306 : List AV × AV := ([.agg [.ro [.int .u32 0, .int .u32 932023908, .int .u32 3199043520, .int .u32 126217] 4], .agg [.ro [.int .u32 381] 1]], .tuple [.agg [.ro [.int .u32 687645682, .int .u32 588636019, .int .u32 1203321724, .int .u32 331] 4], .agg [.ro [.int .u32 214] 1], .bool true])
theorem r306_ok : rowOk cfg0 M0 3000 73 r306 = true := by kernel_rfl
def r307 : List AV × AV := ([.agg [.ro [.int .u32 0, .int .u32 730304488, .int .u32 1925664130, .int .u32 1262177] 4], .agg [.ro [.int .u32 381] 1]], .tuple [.agg [.ro [.int .u32 2581489529, .int .u32 1591392895, .int .u32 3443282649, .int .u32 3312] 4], .agg [.ro [.int .u32 235] 1], .bool true])
theorem r307_ok : rowOk cfg0 M0 3000 73 r307 = true := by kernel_rfl
def r308 : List AV × AV := ([.agg [.ro [.int .u32 0, .int .u32 3008077584, .int .u32 2076772117, .int .u32 12621774] 4], .agg [.ro [.int .u32 381] 1]], .tuple [.agg [.ro [.int .u32 45091520, .int .u32 3029027068, .int .u32 73088125, .int .u32 33128] 4], .agg [.ro [.int .u32 64] 1], .bool true])
theorem r308_ok : rowOk cfg0 M0 3000 73 r308 = true := by kernel_rfl
def r309 : List AV × AV := ([.agg [.ro [.int .u32 0, .int .u32 16004768, .int .u32 3587851993, .int .u32 126217744] 4], .agg [.ro [.int .u32 381] 1]], .tuple [.agg [.ro [.int .u32 450915201, .int .u32 225499608, .int .u32 730881257, .int .u32 331280] 4], .agg [.ro [.int .u32 259] 1], .bool true])
theorem r309_ok : rowOk cfg0 M0 3000 73 r309 = true := by kernel_rfl
def r310 : List AV × AV := ([.agg [.ro [.int .u32 0, .int .u32 160047680, .int .u32 1518781562, .int .u32 1262177448] 4], .agg [.ro [.int .u32 381] 1]], .tuple [.agg [.ro [.int .u32 214184720, .int .u32 2254996081, .int .u32 3013845274, .int .u32 3312801] 4], .agg [.ro [.int .u32 304] 1], .bool true])
theorem r310_ok : rowOk cfg0 M0 3000 73 r310 = true := by kernel_rfl
def r311 : List AV × AV := ([.agg [.ro [.int .u32 0, .int .u32 1600476800, .int .u32 2302913732, .int .u32 4031839891, .int .u32 2] 5], .agg [.ro [.int .u32 381] 1]], .tuple [.agg [.ro [.int .u32 2141847207, .int .u32 1075124330, .int .u32 73681673, .int .u32 33128017] 4], .agg [.ro [.int .u32 373] 1], .bool true])
theorem r311_ok : rowOk cfg0 M0 3000 73 r311 = true := by kernel_rfl
def r312 : List AV × AV := ([.agg [.ro [.int .u32 0, .int .u32 1600476800, .int .u32 2302913732, .int .u32 4031839891, .int .u32 2] 5], .agg [.ro [.int .u32 10] 1]], .agg [.ro [.int .u32 0, .int .u32 3119866112, .int .u32 1554300843, .int .u32 1663693251, .int .u32 29] 5])
theorem r312_ok : rowOk cfg0 M0 3000 34 r312 = true := by kernel_rfl
def r313 : List AV × AV := ([.agg [.ro [.int .u32 0, .int .u32 3119866112, .int .u32 1554300843, .int .u32 1663693251, .int .u32 29] 5], .agg [.ro [.int .u32 381] 1]], .tuple [.agg [.ro [.int .u32 4238602895, .int .u32 2161308712, .int .u32 736816732, .int .u32 331280170] 4], .agg [.ro [.int .u32 301] 1], .bool true])
theorem r313_ok : rowOk cfg0 M0 3000 73 r313 = true := by kernel_rfl
def r314 : List AV × AV := ([.agg [.ro [.int .u32 0, .int .u32 3119866112, .int .u32 1554300843, .int .u32 1663693251, .int .u32 29] 5], .agg [.ro [.int .u32 10] 1]], .agg [.ro [.int .u32 0, .int .u32 1133890048, .int .u32 2658106549, .int .u32 3752030625, .int .u32 293] 5])
theorem r314_ok : rowOk cfg0 M0 3000 34 r314 = true := by kernel_rfl
def r315 : List AV × AV := ([.agg [.ro [.int .u32 0, .int .u32 1133890048, .int .u32 2658106549, .int .u32 3752030625, .int .u32 293] 5], .agg [.ro [.int .u32 381] 1]], .tuple [.agg [.ro [.int .u32 3731323293, .int .u32 138250649, .int .u32 3073200029, .int .u32 3312801701] 4], .agg [.ro [.int .u32 343] 1], .bool true])
theorem r315_ok : rowOk cfg0 M0 3000 73 r315 = true := by kernel_rfl
def r316 : List AV × AV := ([.agg [.ro [.int .u32 0, .int .u32 1133890048, .int .u32 2658106549, .int .u32 3752030625, .int .u32 293] 5], .agg [.ro [.int .u32 10] 1]], .agg [.ro [.int .u32 0, .int .u32 2748965888, .int .u32 811261716, .int .u32 3160567888, .int .u32 2938] 5])
theorem r316_ok : rowOk cfg0 M0 3000 34 r316 = true := by kernel_rfl
def r317 : List AV × AV := ([.agg [.ro [.int .u32 0, .int .u32 2748965888, .int .u32 811261716, .int .u32 3160567888, .int .u32 2938] 5], .agg [.ro [.int .u32 381] 1]], .tuple [.agg [.ro [.int .u32 2953494571, .int .u32 1382506498, .int .u32 667229218, .int .u32 3063245945, .int .u32 7] 5], .agg [.ro [.int .u32 1] 1], .bool true])
theorem r317_ok : rowOk cfg0 M0 3000 73 r317 = true := by kernel_rfl
def r318 : List AV × AV := ([.agg [.ro [.int .u32 0, .int .u32 2748965888, .int .u32 811261716, .int .u32 3160567888, .int .u32 2938] 5], .agg [.ro [.int .u32 10] 1]], .agg [.ro [.int .u32 0, .int .u32 1719855104, .int .u32 3817649870, .int .u32 1540907809, .int .u32 29387] 5])
theorem r318_ok : rowOk cfg0 M0 3000 34 r318 = true := by kernel_rfl
def r319 : List AV × AV := ([.agg [.ro [.int .u32 0, .int .u32 1719855104, .int .u32 3817649870, .int .u32 1540907809, .int .u32 29387] 5], .agg [.ro [.int .u32 381] 1]], .tuple [.agg [.ro [.int .u32 3765141934, .int .u32 940163098, .int .u32 2377324887, .int .u32 567688379, .int .u32 77] 5], .agg [.ro [.int .u32 10] 1], .bool true])
theorem r319_ok : rowOk cfg0 M0 3000 73 r319 = true := by kernel_rfl
def r320 : List AV × AV := ([.agg [.ro [.int .u32 0, .int .u32 1719855104, .int .u32 3817649870, .int .u32 1540907809, .int .u32 29387] 5], .agg [.ro [.int .u32 10] 1]], .agg [.ro [.int .u32 0, .int .u32 18681856, .int .u32 3816760336, .int .u32 2524176210, .int .u32 293873] 5])
theorem r320_ok : rowOk cfg0 M0 3000 34 r320 = true := by kernel_rfl
def r321 : List AV × AV := ([.agg [.ro [.int .u32 0, .int .u32 18681856, .int .u32 3816760336, .int .u32 2524176210, .int .u32 293873] 5], .agg [.ro [.int .u32 381] 1]], .tuple [.agg [.ro [.int .u32 3291680972, .int .u32 811696396, .int .u32 2298412392, .int .u32 1381916499, .int .u32 771] 5], .agg [.ro [.int .u32 100] 1], .bool true])
theorem r321_ok : rowOk cfg0 M0 3000 73 r321 = true := by kernel_rfl
def r322 : List AV × AV := ([.agg [.ro [.int .u32 0, .int .u32 18681856, .int .u32 3816760336, .int .u32 2524176210, .int .u32 293873] 5], .agg [.ro [.int .u32 10] 1]], .agg [.ro [.int .u32 0, .int .u32 186818560, .int .u32 3807864992, .int .u32 3766925628, .int .u32 2938735] 5])
theorem r322_ok : rowOk cfg0 M0 3000 34 r322 = true := by kernel_rfl
def r323 : List AV × AV := ([.agg [.ro [.int .u32 0, .int .u32 186818560, .int .u32 3807864992, .int .u32 3766925628, .int .u32 2938735] 5], .agg [.ro [.int .u32 381] 1]], .tuple [.agg [.ro [.int .u32 2852038650, .int .u32 3821996671, .int .u32 1509287441, .int .u32 934263107, .int .u32 7713] 5], .agg [.ro [.int .u32 238] 1], .bool true])
theorem r323_ok : rowOk cfg0 M0 3000 73 r323 = true := by kernel_rfl
def r324 : List AV × AV := ([.agg [.ro [.int .u32 0, .int .u32 186818560, .int .u32 3807864992, .int .u32 3766925628, .int .u32 2938735] 5], .agg [.ro [.int .u32 10] 1]], .agg [.ro [.int .u32 0, .int .u32 1868185600, .int .u32 3718911552, .int .u32 3309517920, .int .u32 29387358] 5])
theorem r324_ok : rowOk cfg0 M0 3000 34 r324 = true := by kernel_rfl
def r325 : List AV × AV := ([.agg [.ro [.int .u32 0, .int .u32 1868185600, .int .u32 3718911552, .int .u32 3309517920, .int .u32 29387358] 5], .agg [.ro [.int .u32 381] 1]], .tuple [.agg [.ro [.int .u32 2750582730, .int .u32 3860228348, .int .u32 2207972530, .int .u32 752696481, .int .u32 77132] 5], .agg [.ro [.int .u32 94] 1], .bool true])
theorem r325_ok : rowOk cfg0 M0 3000 73 r325 = true := by kernel_rfl
def r326 : List AV × AV := ([.agg [.ro [.int .u32 0, .int .u32 1868185600, .int .u32 3718911552, .int .u32 3309517920, .int .u32 29387358] 5], .agg [.ro [.int .u32 10] 1]], .agg [.ro [.int .u32 0, .int .u32 1501986816, .int .u32 2829377156, .int .u32 3030408136, .int .u32 293873587] 5])
theorem r326_ok : rowOk cfg0 M0 3000 34 r326 = true := by kernel_rfl
def r327 : List AV × AV := ([.agg [.ro [.int .u32 0, .int .u32 1501986816, .int .u32 2829377156, .int .u32 3030408136, .int .u32 293873587] 5], .agg [.ro [.int .u32 381] 1]], .tuple [.agg [.ro [.int .u32 1736023526, .int .u32 4242545118, .int .u32 604888828, .int .u32 3231997519, .int .u32 771321] 5], .agg [.ro [.int .u32 178] 1], .bool true])
theorem r327_ok : rowOk cfg0 M0 3000 73 r327 = true := by kernel_rfl
def r328 : List AV × AV := ([.agg [.ro [.int .u32 0, .int .u32 1501986816, .int .u32 2829377156, .int .u32 3030408136, .int .u32 293873587] 5], .agg [.ro [.int .u32 10] 1]], .agg [.ro [.int .u32 0, .int .u32 2134966272, .int .u32 2523967787, .int .u32 239310294, .int .u32 2938735877] 5])
theorem r328_ok : rowOk cfg0 M0 3000 34 r328 = true := by kernel_rfl
def r329 : List AV × AV := ([.agg [.ro [.int .u32 0, .int .u32 2134966272, .int .u32 2523967787, .int .u32 239310294, .int .u32 2938735877] 5], .agg [.ro [.int .u32 381] 1]], .tuple [.agg [.ro [.int .u32 180366080, .int .u32 3770745520, .int .u32 1753920993, .int .u32 2255204119, .int .u32 7713217] 5], .agg [.ro [.int .u32 256] 1], .bool true])
theorem r329_ok : rowOk cfg0 M0 3000 73 r329 = true := by kernel_rfl
def r330 : List AV × AV := ([.agg [.ro [.int .u32 0, .int .u32 2134966272, .int .u32 2523967787, .int .u32 239310294, .int .u32 2938735877] 5], .agg [.ro [.int .u32 10] 1]], .agg [.ro [.int .u32 0, .int .u32 4169793536, .int .u32 3764841394, .int .u32 2393102945, .int .u32 3617554994, .int .u32 6] 6])
theorem r330_ok : rowOk cfg0 M0 3000 34 r330 = true := by kernel_rfl
def r331 : List AV × AV := ([.agg [.ro [.int .u32 0, .int .u32 4169793536, .int .u32 3764841394, .int .u32 2393102945, .int .u32 3617554994, .int .u32 6] 6], .agg [.ro [.int .u32 381] 1]], .tuple [.agg [.ro [.int .u32 1803660806, .int .u32 3347716832, .int .u32 359340754, .int .u32 1077204714, .int .u32 77132175] 5], .agg [.ro [.int .u32 274] 1], .bool true])
theorem r331_ok : rowOk cfg0 M0 3000 73 r331 = true := by kernel_rfl
def r332 : List AV × AV := ([.agg [.ro [.int .u32 0, .int .u32 4169793536, .int .u32 3764841394, .int .u32 2393102945, .int .u32 3617554994, .int .u32 6] 6], .agg [.ro [.int .u32 10] 1]], .agg [.ro [.int .u32 0, .int .u32 3043229696, .int .u32 3288675581, .int .u32 2456192978, .int .u32 1815811577, .int .u32 68] 6])
theorem r332_ok : rowOk cfg0 M0 3000 34 r332 = true := by kernel_rfl
def r333 : List AV × AV := ([.agg [.ro [.int .u32 0, .int .u32 3043229696, .int .u32 3288675581, .int .u32 2456192978, .int .u32 1815811577, .int .u32 68] 6], .agg [.ro [.int .u32 381] 1]], .tuple [.agg [.ro [.int .u32 856738883, .int .u32 3412397252, .int .u32 3593407547, .int .u32 2182112548, .int .u32 771321752] 5], .agg [.ro [.int .u32 73] 1], .bool true])
theorem r333_ok : rowOk cfg0 M0 3000 73 r333 = true := by kernel_rfl
def r334 : List AV × AV := ([.agg [.ro [.int .u32 0, .int .u32 3043229696, .int .u32 3288675581, .int .u32 2456192978, .int .u32 1815811577, .int .u32 68] 6], .agg [.ro [.int .u32 10] 1]], .agg [.ro [.int .u32 0, .int .u32 367525888, .int .u32 2821984745, .int .u32 3087093307, .int .u32 978246591, .int .u32 684] 6])
theorem r334_ok : rowOk cfg0 M0 3000 34 r334 = true := by kernel_rfl
def r335 : List AV × AV := ([.agg [.ro [.int .u32 0, .int .u32 367525888, .int .u32 2821984745, .int .u32 3087093307, .int .u32 978246591, .int .u32 684] 6], .agg [.ro [.int .u32 381] 1]], .tuple [.agg [.ro [.int .u32 4272421535, .int .u32 4059201449, .int .u32 1574337109, .int .u32 346289008, .int .u32 3418250229, .int .u32 1] 6], .agg [.ro [.int .u32 349] 1], .bool true])
theorem r335_ok : rowOk cfg0 M0 3000 73 r335 = true := by kernel_rfl
def r336 : List AV × AV := ([.agg [.ro [.int .u32 0, .int .u32 367525888, .int .u32 2821984745, .int .u32 3087093307, .int .u32 978246591, .int .u32 684] 6], .agg [.ro [.int .u32 10] 1]], .agg [.ro [.int .u32 0, .int .u32 3675258880, .int .u32 2450043674, .int .u32 806162004, .int .u32 1192531325, .int .u32 6842] 6])
theorem r336_ok : rowOk cfg0 M0 3000 34 r336 = true := by kernel_rfl
def r337 : List AV × AV := ([.agg [.ro [.int .u32 0, .int .u32 3675258880, .int .u32 2450043674, .int .u32 806162004, .int .u32 1192531325, .int .u32 6842] 6], .agg [.ro [.int .u32 381] 1]], .tuple [.agg [.ro [.int .u32 4069509695, .int .u32 1937308835, .int .u32 2858469211, .int .u32 3462890083, .int .u32 4117731218, .int .u32 17] 6], .agg [.ro [.int .u32 61] 1], .bool true])
theorem r337_ok : rowOk cfg0 M0 3000 73 r337 = true := by kernel_rfl
def r338 : List AV × AV := ([.agg [.ro [.int .u32 0, .int .u32 3675258880, .int .u32 2450043674, .int .u32 806162004, .int .u32 1192531325, .int .u32 6842] 6], .agg [.ro [.int .u32 10] 1]], .agg [.ro [.int .u32 0, .int .u32 2392850432, .int .u32 3025600268, .int .u32 3766652749, .int .u32 3335378659, .int .u32 68422] 6])
theorem r338_ok : rowOk cfg0 M0 3000 34 r338 = true := by kernel_rfl
def r339 : List AV × AV := ([.agg [.ro [.int .u32 0, .int .u32 2392850432, .int .u32 3025600268, .int .u32 3766652749, .int .u32 3335378659, .int .u32 68422] 6], .agg [.ro [.int .u32 381] 1]], .tuple [.agg [.ro [.int .u32 2040391287, .int .u32 2193219175, .int .u32 2814888338, .int .u32 269162468, .int .u32 2522606524, .int .u32 179] 6], .agg [.ro [.int .u32 229] 1], .bool true])
theorem r339_ok : rowOk cfg0 M0 3000 73 r339 = true := by kernel_rfl
def r340 : List AV × AV := ([.agg [.ro [.int .u32 0, .int .u32 2392850432, .int .u32 3025600268, .int .u32 3766652749, .int .u32 3335378659, .int .u32 68422] 6], .agg [.ro [.int .u32 10] 1]], .agg [.ro [.int .u32 0, .int .u32 2453667840, .int .u32 191231613, .int .u32 3306789129, .int .u32 3289015526, .int .u32 684227] 6])
theorem r340_ok : rowOk cfg0 M0 3000 34 r340 = true := by kernel_rfl
def r341 : List AV × AV := ([.agg [.ro [.int .u32 0, .int .u32 2453667840, .int .u32 191231613, .int .u32 3306789129, .int .u32 3289015526, .int .u32 684227] 6], .agg [.ro [.int .u32 381] 1]], .tuple [.agg [.ro [.int .u32 3224043692, .int .u32 457355274, .int .u32 2379079609, .int .u32 2691624686, .int .u32 3751228760, .int .u32 1795] 6], .agg [.ro [.int .u32 4] 1], .bool true])
theorem r341_ok : rowOk cfg0 M0 3000 73 r341 = true := by kernel_rfl
def r342 : List AV × AV := ([.agg [.ro [.int .u32 0, .int .u32 2453667840, .int .u32 191231613, .int .u32 3306789129, .int .u32 3289015526, .int .u32 684227] 6], .agg [.ro [.int .u32 10] 1]], .agg [.ro [.int .u32 0, .int .u32 3061841920, .int .u32 1912316135, .int .u32 3003120218, .int .u32 2825384195, .int .u32 6842277] 6])
theorem r342_ok : rowOk cfg0 M0 3000 34 r342 = true := by kernel_rfl
def r343 : List AV × AV := ([.agg [.ro [.int .u32 0, .int .u32 3061841920, .int .u32 1912316135, .int .u32 3003120218, .int .u32 2825384195, .int .u32 6842277] 6], .agg [.ro [.int .u32 381] 1]], .tuple [.agg [.ro [.int .u32 2175665848, .int .u32 278585451, .int .u32 2315959611, .int .u32 1146443089, .int .u32 3152549238, .int .u32 17958] 6], .agg [.ro [.int .u32 40] 1], .bool true])
theorem r343_ok : rowOk cfg0 M0 3000 73 r343 = true := by kernel_rfl
def r344 : List AV × AV := ([.agg [.ro [.int .u32 0, .int .u32 3061841920, .int .u32 1912316135, .int .u32 3003120218, .int .u32 2825384195, .int .u32 6842277] 6], .agg [.ro [.int .u32 10] 1]], .agg [.ro [.int .u32 0, .int .u32 553648128, .int .u32 1943292173, .int .u32 4261398408, .int .u32 2484038180, .int .u32 68422776] 6])
theorem r344_ok : rowOk cfg0 M0 3000 34 r344 = true := by kernel_rfl
def r345 : List AV × AV := ([.agg [.ro [.int .u32 0, .int .u32 553648128, .int .u32 1943292173, .int .u32 4261398408, .int .u32 2484038180, .int .u32 68422776] 6], .agg [.ro [.int .u32 381] 1]], .tuple [.agg [.ro [.int .u32 281822001, .int .u32 2785854515, .int .u32 1684759630, .int .u32 2874496303, .int .u32 1460721310, .int .u32 179587] 6], .agg [.ro [.int .u32 19] 1], .bool true])
theorem r345_ok : rowOk cfg0 M0 3000 73 r345 = true := by kernel_rfl
def r346 : List AV × AV := ([.agg [.ro [.int .u32 0, .int .u32 553648128, .int .u32 1943292173, .int .u32 4261398408, .int .u32 2484038180, .int .u32 68422776] 6], .agg [.ro [.int .u32 10] 1]], .agg [.ro [.int .u32 0, .int .u32 1241513984, .int .u32 2253052547, .int .u32 3959278420, .int .u32 3365545329, .int .u32 684227765] 6])
theorem r346_ok : rowOk cfg0 M0 3000 34 r346 = true := by kernel_rfl
def r347 : List AV × AV := ([.agg [.ro [.int .u32 0, .int .u32 1241513984, .int .u32 2253052547, .int .u32 3959278420, .int .u32 3365545329, .int .u32 684227765] 6], .agg [.ro [.int .u32 381] 1]], .tuple [.agg [.ro [.int .u32 2818220010, .int .u32 2088741374, .int .u32 3962694418, .int .u32 2975159257, .int .u32 1722311218, .int .u32 1795873] 6], .agg [.ro [.int .u32 190] 1], .bool true])
theorem r347_ok : rowOk cfg0 M0 3000 73 r347 = true := by kernel_rfl
def r348 : List AV × AV := ([.agg [.ro [.int .u32 0, .int .u32 1241513984, .int .u32 2253052547, .int .u32 3959278420, .int .u32 3365545329, .int .u32 684227765] 6], .agg [.ro [.int .u32 10] 1]], .agg [.ro [.int .u32 0, .int .u32 3825205248, .int .u32 1055688992, .int .u32 938078541, .int .u32 3590682227, .int .u32 2547310361, .int .u32 1] 7])
theorem r348_ok : rowOk cfg0 M0 3000 34 r348 = true := by kernel_rfl
def r349 : List AV × AV := ([.agg [.ro [.int .u32 0, .int .u32 3825205248, .int .u32 1055688992, .int .u32 938078541, .int .u32 3590682227, .int .u32 2547310361, .int .u32 1] 7], .agg [.ro [.int .u32 381] 1]], .tuple [.agg [.ro [.int .u32 2412396328, .int .u32 3707544562, .int .u32 972238520, .int .u32 3981788803, .int .u32 43243002, .int .u32 17958734] 6], .agg [.ro [.int .u32 376] 1], .bool true])
theorem r349_ok : rowOk cfg0 M0 3000 73 r349 = true := by kernel_rfl
def r350 : List AV × AV := ([.agg [.ro [.int .u32 0, .int .u32 3825205248, .int .u32 1055688992, .int .u32 938078541, .int .u32 3590682227, .int .u32 2547310361, .int .u32 1] 7], .agg [.ro [.int .u32 10] 1]], .agg [.ro [.int .u32 0, .int .u32 3892314112, .int .u32 1966955336, .int .u32 790850820, .int .u32 1547083904, .int .u32 3998267138, .int .u32 15] 7])
theorem r350_ok : rowOk cfg0 M0 3000 34 r350 = true := by kernel_rfl
def r351 : List AV × AV := ([.agg [.ro [.int .u32 0, .int .u32 3892314112, .int .u32 1966955336, .int .u32 790850820, .int .u32 1547083904, .int .u32 3998267138, .int .u32 15] 7], .agg [.ro [.int .u32 381] 1]], .tuple [.agg [.ro [.int .u32 2649126809, .int .u32 2715707257, .int .u32 1132450616, .int .u32 1163182368, .int .u32 432430029, .int .u32 179587340] 6], .agg [.ro [.int .u32 331] 1], .bool true])
theorem r351_ok : rowOk cfg0 M0 3000 73 r351 = true := by kernel_rfl
def r352 : List AV × AV := ([.agg [.ro [.int .u32 0, .int .u32 3892314112, .int .u32 1966955336, .int .u32 790850820, .int .u32 1547083904, .int .u32 3998267138, .int .u32 15] 7], .agg [.ro [.int .u32 10] 1]], .agg [.ro [.int .u32 0, .int .u32 268435456, .int .u32 2489684185, .int .u32 3613540908, .int .u32 2585937153, .int .u32 1327965719, .int .u32 159] 7])
theorem r352_ok : rowOk cfg0 M0 3000 34 r352 = true := by kernel_rfl
def r353 : List AV × AV := ([.agg [.ro [.int .u32 0, .int .u32 268435456, .int .u32 2489684185, .int .u32 3613540908, .int .u32 2585937153, .int .u32 1327965719, .int .u32 159] 7], .agg [.ro [.int .u32 381] 1]], .tuple [.agg [.ro [.int .u32 721464322, .int .u32 1387268800, .int .u32 2734571574, .int .u32 3041889090, .int .u32 29332996, .int .u32 1795873401] 6], .agg [.ro [.int .u32 262] 1], .bool true])
theorem r353_ok : rowOk cfg0 M0 3000 73 r353 = true := by kernel_rfl
def r354 : List AV × AV := ([.agg [.ro [.int .u32 0, .int .u32 268435456, .int .u32 2489684185, .int .u32 3613540908, .int .u32 2585937153, .int .u32 1327965719, .int .u32 159] 7], .agg [.ro [.int .u32 10] 1]], .agg [.ro [.int .u32 0, .int .u32 2684354560, .int .u32 3422005370, .int .u32 1775670717, .int .u32 89567762, .int .u32 394755308, .int .u32 1593] 7])
theorem r354_ok : rowOk cfg0 M0 3000 34 r354 = true := by kernel_rfl
def r355 : List AV × AV := ([.agg [.ro [.int .u32 0, .int .u32 2684354560, .int .u32 3422005370, .int .u32 1775670717, .int .u32 89567762, .int .u32 394755308, .int .u32 1593] 7], .agg [.ro [.int .u32 381] 1]], .tuple [.agg [.ro [.int .u32 2919675930, .int .u32 987786113, .int .u32 1575911967, .int .u32 354119834, .int .u32 293329967, .int .u32 778864826, .int .u32 4] 7], .agg [.ro [.int .u32 334] 1], .bool true])
theorem r355_ok : rowOk cfg0 M0 3000 73 r355 = true := by kernel_rfl
def r356 : List AV × AV := ([.agg [.ro [.int .u32 0, .int .u32 2684354560, .int .u32 3422005370, .int .u32 1775670717, .int .u32 89567762, .int .u32 394755308, .int .u32 1593] 7], .agg [.ro [.int .u32 10] 1]], .agg [.ro [.int .u32 0, .int .u32 1073741824, .int .u32 4155282634, .int .u32 576837993, .int .u32 895677624, .int .u32 3947553080, .int .u32 15930] 7])
theorem r356_ok : rowOk cfg0 M0 3000 34 r356 = true := by kernel_rfl
def r357 : List AV × AV := ([.agg [.ro [.int .u32 0, .int .u32 1073741824, .int .u32 4155282634, .int .u32 576837993, .int .u32 895677624, .int .u32 3947553080, .int .u32 15930] 7], .agg [.ro [.int .u32 381] 1]], .tuple [.agg [.ro [.int .u32 3426955532, .int .u32 1287926544, .int .u32 2874217784, .int .u32 3541198343, .int .u32 2933299670, .int .u32 3493680964, .int .u32 41] 7], .agg [.ro [.int .u32 292] 1], .bool true])
theorem r357_ok : rowOk cfg0 M0 3000 73 r357 = true := by kernel_rfl
def r358 : List AV × AV := ([.agg [.ro [.int .u32 0, .int .u32 1073741824, .int .u32 4155282634, .int .u32 576837993, .int .u32 895677624, .int .u32 3947553080, .int .u32 15930] 7], .agg [.ro [.int .u32 10] 1]], .agg [.ro [.int .u32 0, .int .u32 2147483648, .int .u32 2898120678, .int .u32 1473412643, .int .u32 366841649, .int .u32 820825138, .int .u32 159309] 7])
theorem r358_ok : rowOk cfg0 M0 3000 34 r358 = true := by kernel_rfl
def r359 : List AV × AV := ([.agg [.ro [.int .u32 0, .int .u32 2147483648, .int .u32 2898120678, .int .u32 1473412643, .int .u32 366841649, .int .u32 820825138, .int .u32 159309] 7], .agg [.ro [.int .u32 381] 1]], .tuple [.agg [.ro [.int .u32 4204784255, .int .u32 4289330855, .int .u32 2972374066, .int .u32 1052245068, .int .u32 3563192932, .int .u32 577071278, .int .u32 418] 7], .agg [.ro [.int .u32 253] 1], .bool true])
theorem r359_ok : rowOk cfg0 M0 3000 73 r359 = true := by kernel_rfl
def r360 : List AV × AV := ([.agg [.ro [.int .u32 0, .int .u32 2147483648, .int .u32 2898120678, .int .u32 1473412643, .int .u32 366841649, .int .u32 820825138, .int .u32 159309] 7], .agg [.ro [.int .u32 10] 1]], .agg [.ro [.int .u32 0, .int .u32 0, .int .u32 3211403009, .int .u32 1849224548, .int .u32 3668416493, .int .u32 3913284084, .int .u32 1593091] 7])
theorem r360_ok : rowOk cfg0 M0 3000 34 r360 = true := by kernel_rfl
def r361 : List AV × AV := ([.str [49, 48]], .tuple [.agg [.ro [.int .u32 10] 1], .bool true])
theorem r361_ok : rowOk cfg0 M0 3000 45 r361 = true := by kernel_rfl
def r362 : List AV × AV := ([.agg [.bool true, .ro [.int .u32 1] 1], .agg [.bool false, .ro [.int .u32 10] 1]], .tuple [.agg [.bool true, .ro [.int .u32 1] 1], .agg [.bool false, .ro [.int .u32 9] 1], .bool true])
theorem r362_ok : rowOk cfg0 M0 3000 70 r362 = true := by kernel_rfl
def r363 : List AV × AV := ([.agg [.bool true, .ro [.int .u32 1] 1], .agg [.bool false, .ro [.int .u32 10] 1]], .agg [.bool false, .ro [.int .u32 9] 1])
theorem r363_ok : rowOk cfg0 M0 3000 75 r363 = true := by kernel_rfl
def r364 : List AV × AV := ([.agg [.ro [.int .u32 9] 1], .agg [.ro [.int .u32 10] 1]], .agg [.ro [.int .u32 1] 1])
theorem r364_ok : rowOk cfg0 M0 3000 72 r364 = true := by kernel_rfl
def r365 : List AV × AV := ([.agg [.bool false, .ro [.int .u32 90] 1], .agg [.bool false, .ro [.int .u32 90] 1]], .agg [.bool false, .ro [.int .u32 180] 1])
theorem r365_ok : rowOk cfg0 M0 3000 75 r365 = true := by kernel_rfl
def r366 : List AV × AV := ([.agg [.ro [.int .u32 180] 1], .agg [.ro [.int .u32 100] 1]], .agg [.ro [.int .u32 20] 1])
theorem r366_ok : rowOk cfg0 M0 3000 72 r366 = true := by kernel_rfl
def r367 : List AV × AV := ([.agg [.ro [.int .u32 9] 1], .agg [.ro [.int .u32 5] 1]], .agg [.ro [.int .u32 1] 1])
theorem r367_ok : rowOk cfg0 M0 3000 72 r367 = true := by kernel_rfl
def r368 : List AV × AV := ([.agg [.bool false, .ro [.int .u32 9] 1], .agg [.bool true, .ro [.int .u32 5] 1]], .agg [.bool false, .ro [.int .u32 4] 1])
theorem r368_ok : rowOk cfg0 M0 3000 75 r368 = true := by kernel_rfl
def r369 : List AV × AV := ([.agg [.ro [.int .u32 4] 1], .agg [.ro [.int .u32 5] 1]], .agg [.ro [.int .u32 1] 1])
theorem r369_ok : rowOk cfg0 M0 3000 72 r369 = true := by kernel_rfl
def r370 : List AV × AV := ([.agg [.bool true, .ro [.int .u32 1] 1], .agg [.bool false, .ro [.int .u32 1] 1]], .agg [.bool false, .e0])
theorem r370_ok : rowOk cfg0 M0 3000 75 r370 = true := by kernel_rfl
def t0 : Tr (List (List AV × AV)) := (.nd (.nd (.nd (.nd (.nd .lf 28 [r216, r217, r252, r271] .lf) 34 [r312, r314, r316, r318, r320, r322, r324, r326, r328, r330, r332, r334, r336, r338, r340, r342, r344, r346, r348, r350, r352, r354, r356, r358, r360] (.nd .lf 35 [r45, r46, r49, r50] .lf)) 45 [r43, r54, r62, r63, r71, r79, r84, r85, r88, r186, r234, r275, r361] (.nd (.nd .lf 49 [r3, r5, r7, r9, r11, r13, r15, r17] .lf) 52 [r22, r23, r24, r25, r26, r27, r28, r29, r30, r31, r32, r33, r34, r35] .lf)) 70 [r195, r213, r221, r227, r242, r251, r253, r256, r277, r286, r292, r362] (.nd (.nd (.nd .lf 72 [r44, r48, r51, r52, r56, r60, r64, r66, r68, r69, r72, r80, r86, r89, r187, r190, r193, r194, r196, r199, r201, r202, r205, r207, r208, r209, r210, r211, r212, r219, r220, r224, r225, r226, r228, r231, r238, r239, r240, r241, r245, r246, r247, r248, r249, r250, r254, r255, r257, r261, r262, r265, r276, r282, r285, r289, r290, r291, r293, r294, r297, r364, r366, r367, r369] .lf) 73 [r299, r300, r301, r302, r303, r304, r305, r306, r307, r308, r309, r310, r311, r313, r315, r317, r319, r321, r323, r325, r327, r329, r331, r333, r335, r337, r339, r341, r343, r345, r347, r349, r351, r353, r355, r357, r359] .lf) 75 [r192, r198, r200, r204, r206, r215, r223, r230, r232, r237, r244, r259, r260, r264, r266, r268, r270, r274, r279, r280, r284, r288, r296, r298, r363, r365, r368, r370] (.nd (.nd .lf 78 [r191, r197, r203, r214, r218, r222, r229, r236, r243, r258, r263, r267, r269, r273, r278, r283, r287, r295] .lf) 90 [r36, r37, r38, r39, r40, r41, r42, r47, r53, r55, r61, r67, r70, r76, r78, r83, r87, r90, r91, r94, r95, r98, r99, r188, r281] .lf))) 92 [r233] (.nd (.nd (.nd (.nd .lf 150 [r0, r1, r2, r4, r6, r8, r10, r12, r14, r16, r18, r19, r20, r21] .lf) 155 [r58, r74, r81, r92, r96] .lf) 157 [r59, r75, r82, r93, r97] (.nd (.nd .lf 166 [r103, r108] .lf) 207 [r101, r125, r150, r155, r177, r178, r181, r184] .lf)) 210 [r102, r165] (.nd (.nd (.nd .lf 219 [r127, r152, r163, r179, r182] .lf) 221 [r128, r153, r164, r180, r183] .lf) 226 [r57, r65, r73, r77, r100, r189, r235, r272] (.nd (.nd .lf 247 [r104, r105, r106, r107, r109, r110, r111, r112, r113, r114, r115, r116, r117, r118, r119, r120, r121, r122, r123, r124, r129, r130, r132, r133, r134, r135, r136, r137, r138, r139, r140, r141, r142, r143, r144, r145, r146, r147, r148, r149, r154, r157, r158, r159, r160, r161, r162, r166, r167, r168, r169, r170, r171, r172, r173, r174, r175, r176] .lf) 274 [r126, r131, r151, r156, r185] .lf))))
theorem t0_ok : MemoOk cfg0 (tabM t0) := tabM_ok (t := t0) ⟨⟨⟨⟨⟨trivial, (lcons (rowOk_did M0_ok r216_ok) (lcons (rowOk_did M0_ok r217_ok) (lcons (rowOk_did M0_ok r252_ok) (lcons (rowOk_did M0_ok r271_ok) lnil)))), trivial⟩, (lcons (rowOk_did M0_ok r312_ok) (lcons (rowOk_did M0_ok r314_ok) (lcons (rowOk_did M0_ok r316_ok) (lcons (rowOk_did M0_ok r318_ok) (lcons (rowOk_did M0_ok r320_ok) (lcons (rowOk_did M0_ok r322_ok) (lcons (rowOk_did M0_ok r324_ok) (lcons (rowOk_did M0_ok r326_ok) (lcons (rowOk_did M0_ok r328_ok) (lcons (rowOk_did M0_ok r330_ok) (lcons (rowOk_did M0_ok r332_ok) (lcons (rowOk_did M0_ok r334_ok) (lcons (rowOk_did M0_ok r336_ok) (lcons (rowOk_did M0_ok r338_ok) (lcons (rowOk_did M0_ok r340_ok) (lcons (rowOk_did M0_ok r342_ok) (lcons (rowOk_did M0_ok r344_ok) (lcons (rowOk_did M0_ok r346_ok) (lcons (rowOk_did M0_ok r348_ok) (lcons (rowOk_did M0_ok r350_ok) (lcons (rowOk_did M0_ok r352_ok) (lcons (rowOk_did M0_ok r354_ok) (lcons (rowOk_did M0_ok r356_ok) (lcons (rowOk_did M0_ok r358_ok) (lcons (rowOk_did M0_ok r360_ok) lnil))))))))))))))))))))))))), ⟨trivial, (lcons (rowOk_did M0_ok r45_ok) (lcons (rowOk_did M0_ok r46_ok) (lcons (rowOk_did M0_ok r49_ok) (lcons (rowOk_did M0_ok r50_ok) lnil)))), trivial⟩⟩, (lcons (rowOk_did M0_ok r43_ok) (lcons (rowOk_did M0_ok r54_ok) (lcons (rowOk_did M0_ok r62_ok) (lcons (rowOk_did M0_ok r63_ok) (lcons (rowOk_did M0_ok r71_ok) (lcons (rowOk_did M0_ok r79_ok) (lcons (rowOk_did M0_ok r84_ok) (lcons (rowOk_did M0_ok r85_ok) (lcons (rowOk_did M0_ok r88_ok) (lcons (rowOk_did M0_ok r186_ok) (lcons (rowOk_did M0_ok r234_ok) (lcons (rowOk_did M0_ok r275_ok) (lcons (rowOk_did M0_ok r361_ok) lnil))))))))))))), ⟨⟨trivial, (lcons (rowOk_did M0_ok r3_ok) (lcons (rowOk_did M0_ok r5_ok) (lcons (rowOk_did M0_ok r7_ok) (lcons (rowOk_did M0_ok r9_ok) (lcons (rowOk_did M0_ok r11_ok) (lcons (rowOk_did M0_ok r13_ok) (lcons (rowOk_did M0_ok r15_ok) (lcons (rowOk_did M0_ok r17_ok) lnil)))))))), trivial⟩, (lcons (rowOk_did M0_ok r22_ok) (lcons (rowOk_did M0_ok r23_ok) (lcons (rowOk_did M0_ok r24_ok) (lcons (rowOk_did M0_ok r25_ok) (lcons (rowOk_did M0_ok r26_ok) (lcons (rowOk_did M0_ok r27_ok) (lcons (rowOk_did M0_ok r28_ok) (lcons (rowOk_did M0_ok r29_ok) (lcons (rowOk_did M0_ok r30_ok) (lcons (rowOk_did M0_ok r31_ok) (lcons (rowOk_did M0_ok r32_ok) (lcons (rowOk_did M0_ok r33_ok) (lcons (rowOk_did M0_ok r34_ok) (lcons (rowOk_did M0_ok r35_ok) lnil)))))))))))))), trivial⟩⟩, (lcons (rowOk_did M0_ok r195_ok) (lcons (rowOk_did M0_ok r213_ok) (lcons (rowOk_did M0_ok r221_ok) (lcons (rowOk_did M0_ok r227_ok) (lcons (rowOk_did M0_ok r242_ok) (lcons (rowOk_did M0_ok r251_ok) (lcons (rowOk_did M0_ok r253_ok) (lcons (rowOk_did M0_ok r256_ok) (lcons (rowOk_did M0_ok r277_ok) (lcons (rowOk_did M0_ok r286_ok) (lcons (rowOk_did M0_ok r292_ok) (lcons (rowOk_did M0_ok r362_ok) lnil)))))))))))), ⟨⟨⟨trivial, (lcons (rowOk_did M0_ok r44_ok) (lcons (rowOk_did M0_ok r48_ok) (lcons (rowOk_did M0_ok r51_ok) (lcons (rowOk_did M0_ok r52_ok) (lcons (rowOk_did M0_ok r56_ok) (lcons (rowOk_did M0_ok r60_ok) (lcons (rowOk_did M0_ok r64_ok) (lcons (rowOk_did M0_ok r66_ok) (lcons (rowOk_did M0_ok r68_ok) (lcons (rowOk_did M0_ok r69_ok) (lcons (rowOk_did M0_ok r72_ok) (lcons (rowOk_did M0_ok r80_ok) (lcons (rowOk_did M0_ok r86_ok) (lcons (rowOk_did M0_ok r89_ok) (lcons (rowOk_did M0_ok r187_ok) (lcons (rowOk_did M0_ok r190_ok) (lcons (rowOk_did M0_ok r193_ok) (lcons (rowOk_did M0_ok r194_ok) (lcons (rowOk_did M0_ok r196_ok) (lcons (rowOk_did M0_ok r199_ok) (lcons (rowOk_did M0_ok r201_ok) (lcons (rowOk_did M0_ok r202_ok) (lcons (rowOk_did M0_ok r205_ok) (lcons (rowOk_did M0_ok r207_ok) (lcons (rowOk_did M0_ok r208_ok) (lcons (rowOk_did M0_ok r209_ok) (lcons (rowOk_did M0_ok r210_ok) (lcons (rowOk_did M0_ok r211_ok) (lcons (rowOk_did M0_ok r212_ok) (lcons (rowOk_did M0_ok r219_ok) (lcons (rowOk_did M0_ok r220_ok) (lcons (rowOk_did M0_ok r224_ok) (lcons (rowOk_did M0_ok r225_ok) (lcons (rowOk_did M0_ok r226_ok) (lcons (rowOk_did M0_ok r228_ok) (lcons (rowOk_did M0_ok r231_ok) (lcons (rowOk_did M0_ok r238_ok) (lcons (rowOk_did M0_ok r239_ok) (lcons (rowOk_did M0_ok r240_ok) (lcons (rowOk_did M0_ok r241_ok) (lcons (rowOk_did M0_ok r245_ok) (lcons (rowOk_did M0_ok r246_ok) (lcons (rowOk_did M0_ok r247_ok) (lcons (rowOk_did M0_ok r248_ok) (lcons (rowOk_did M0_ok r249_ok) (lcons (rowOk_did M0_ok r250_ok) (lcons (rowOk_did M0_ok r254_ok) (lcons (rowOk_did M0_ok r255_ok) (lcons (rowOk_did M0_ok r257_ok) (lcons (rowOk_did M0_ok r261_ok) (lcons (rowOk_did M0_ok r262_ok) (lcons (rowOk_did M0_ok r265_ok) (lcons (rowOk_did M0_ok r276_ok) (lcons (rowOk_did M0_ok r282_ok) (lcons (rowOk_did M0_ok r285_ok) (lcons (rowOk_did M0_ok r289_ok) (lcons (rowOk_did M0_ok r290_ok) (lcons (rowOk_did M0_ok r291_ok) (lcons (rowOk_did M0_ok r293_ok) (lcons (rowOk_did M0_ok r294_ok) (lcons (rowOk_did M0_ok r297_ok) (lcons (rowOk_did M0_ok r364_ok) (lcons (rowOk_did M0_ok r366_ok) (lcons (rowOk_did M0_ok r367_ok) (lcons (rowOk_did M0_ok r369_ok) lnil))))))))))))))))))))))))))))))))))))))))))))))))))))))))))))))))), trivial⟩, (lcons (rowOk_did M0_ok r299_ok) (lcons (rowOk_did M0_ok r300_ok) (lcons (rowOk_did M0_ok r301_ok) (lcons (rowOk_did M0_ok r302_ok) (lcons (rowOk_did M0_ok r303_ok) (lcons (rowOk_did M0_ok r304_ok) (lcons (rowOk_did M0_ok r305_ok) (lcons (rowOk_did M0_ok r306_ok) (lcons (rowOk_did M0_ok r307_ok) (lcons (rowOk_did M0_ok r308_ok) (lcons (rowOk_did M0_ok r309_ok) (lcons (rowOk_did M0_ok r310_ok) (lcons (rowOk_did M0_ok r311_ok) (lcons (rowOk_did M0_ok r313_ok) (lcons (rowOk_did M0_ok r315_ok) (lcons (rowOk_did M0_ok r317_ok) (lcons (rowOk_did M0_ok r319_ok) (lcons (rowOk_did M0_ok r321_ok) (lcons (rowOk_did M0_ok r323_ok) (lcons (rowOk_did M0_ok r325_ok) (lcons (rowOk_did M0_ok r327_ok) (lcons (rowOk_did M0_ok r329_ok) (lcons (rowOk_did M0_ok r331_ok) (lcons (rowOk_did M0_ok r333_ok) (lcons (rowOk_did M0_ok r335_ok) (lcons (rowOk_did M0_ok r337_ok) (lcons (rowOk_did M0_ok r339_ok) (lcons (rowOk_did M0_ok r341_ok) (lcons (rowOk_did M0_ok r343_ok) (lcons (rowOk_did M0_ok r345_ok) (lcons (rowOk_did M0_ok r347_ok) (lcons (rowOk_did M0_ok r349_ok) (lcons (rowOk_did M0_ok r351_ok) (lcons (rowOk_did M0_ok r353_ok) (lcons (rowOk_did M0_ok r355_ok) (lcons (rowOk_did M0_ok r357_ok) (lcons (rowOk_did M0_ok r359_ok) lnil))))))))))))))))))))))))))))))))))))), trivial⟩, (lcons (rowOk_did M0_ok r192_ok) (lcons (rowOk_did M0_ok r198_ok) (lcons (rowOk_did M0_ok r200_ok) (lcons (rowOk_did M0_ok r204_ok) (lcons (rowOk_did M0_ok r206_ok) (lcons (rowOk_did M0_ok r215_ok) (lcons (rowOk_did M0_ok r223_ok) (lcons (rowOk_did M0_ok r230_ok) (lcons (rowOk_did M0_ok r232_ok) (lcons (rowOk_did M0_ok r237_ok) (lcons (rowOk_did M0_ok r244_ok) (lcons (rowOk_did M0_ok r259_ok) (lcons (rowOk_did M0_ok r260_ok) (lcons (rowOk_did M0_ok r264_ok) (lcons (rowOk_did M0_ok r266_ok) (lcons (rowOk_did M0_ok r268_ok) (lcons (rowOk_did M0_ok r270_ok) (lcons (rowOk_did M0_ok r274_ok) (lcons (rowOk_did M0_ok r279_ok) (lcons (rowOk_did M0_ok r280_ok) (lcons (rowOk_did M0_ok r284_ok) (lcons (rowOk_did M0_ok r288_ok) (lcons (rowOk_did M0_ok r296_ok) (lcons (rowOk_did M0_ok r298_ok) (lcons (rowOk_did M0_ok r363_ok) (lcons (rowOk_did M0_ok r365_ok) (lcons (rowOk_did M0_ok r368_ok) (lcons (rowOk_did M0_ok r370_ok) lnil)))))))))))))))))))))))))))), ⟨⟨trivial, (lcons (rowOk_did M0_ok r191_ok) (lcons (rowOk_did M0_ok r197_ok) (lcons (rowOk_did M0_ok r203_ok) (lcons (rowOk_did M0_ok r214_ok) (lcons (rowOk_did M0_ok r218_ok) (lcons (rowOk_did M0_ok r222_ok) (lcons (rowOk_did M0_ok r229_ok) (lcons (rowOk_did M0_ok r236_ok) (lcons (rowOk_did M0_ok r243_ok) (lcons (rowOk_did M0_ok r258_ok) (lcons (rowOk_did M0_ok r263_ok) (lcons (rowOk_did M0_ok r267_ok) (lcons (rowOk_did M0_ok r269_ok) (lcons (rowOk_did M0_ok r273_ok) (lcons (rowOk_did M0_ok r278_ok) (lcons (rowOk_did M0_ok r283_ok) (lcons (rowOk_did M0_ok r287_ok) (lcons (rowOk_did M0_ok r295_ok) lnil)))))))))))))))))), trivial⟩, (lcons (rowOk_did M0_ok r36_ok) (lcons (rowOk_did M0_ok r37_ok) (lcons (rowOk_did M0_ok r38_ok) (lcons (rowOk_did M0_ok r39_ok) (lcons (rowOk_did M0_ok r40_ok) (lcons (rowOk_did M0_ok r41_ok) (lcons (rowOk_did M0_ok r42_ok) (lcons (rowOk_did M0_ok r47_ok) (lcons (rowOk_did M0_ok r53_ok) (lcons (rowOk_did M0_ok r55_ok) (lcons (rowOk_did M0_ok r61_ok) (lcons (rowOk_did M0_ok r67_ok) (lcons (rowOk_did M0_ok r70_ok) (lcons (rowOk_did M0_ok r76_ok) (lcons (rowOk_did M0_ok r78_ok) (lcons (rowOk_did M0_ok r83_ok) (lcons (rowOk_did M0_ok r87_ok) (lcons (rowOk_did M0_ok r90_ok) (lcons (rowOk_did M0_ok r91_ok) (lcons (rowOk_did M0_ok r94_ok) (lcons (rowOk_did M0_ok r95_ok) (lcons (rowOk_did M0_ok r98_ok) (lcons (rowOk_did M0_ok r99_ok) (lcons (rowOk_did M0_ok r188_ok) (lcons (rowOk_did M0_ok r281_ok) lnil))))))))))))))))))))))))), trivial⟩⟩⟩, (lcons (rowOk_did M0_ok r233_ok) lnil), ⟨⟨⟨⟨trivial, (lcons (rowOk_did M0_ok r0_ok) (lcons (rowOk_did M0_ok r1_ok) (lcons (rowOk_did M0_ok r2_ok) (lcons (rowOk_did M0_ok r4_ok) (lcons (rowOk_did M0_ok r6_ok) (lcons (rowOk_did M0_ok r8_ok) (lcons (rowOk_did M0_ok r10_ok) (lcons (rowOk_did M0_ok r12_ok) (lcons (rowOk_did M0_ok r14_ok) (lcons (rowOk_did M0_ok r16_ok) (lcons (rowOk_did M0_ok r18_ok) (lcons (rowOk_did M0_ok r19_ok) (lcons (rowOk_did M0_ok r20_ok) (lcons (rowOk_did M0_ok r21_ok) lnil)))))))))))))), trivial⟩, (lcons (rowOk_did M0_ok r58_ok) (lcons (rowOk_did M0_ok r74_ok) (lcons (rowOk_did M0_ok r81_ok) (lcons (rowOk_did M0_ok r92_ok) (lcons (rowOk_did M0_ok r96_ok) lnil))))), trivial⟩, (lcons (rowOk_did M0_ok r59_ok) (lcons (rowOk_did M0_ok r75_ok) (lcons (rowOk_did M0_ok r82_ok) (lcons (rowOk_did M0_ok r93_ok) (lcons (rowOk_did M0_ok r97_ok) lnil))))), ⟨⟨trivial, (lcons (rowOk_did M0_ok r103_ok) (lcons (rowOk_did M0_ok r108_ok) lnil)), trivial⟩, (lcons (rowOk_did M0_ok r101_ok) (lcons (rowOk_did M0_ok r125_ok) (lcons (rowOk_did M0_ok r150_ok) (lcons (rowOk_did M0_ok r155_ok) (lcons (rowOk_did M0_ok r177_ok) (lcons (rowOk_did M0_ok r178_ok) (lcons (rowOk_did M0_ok r181_ok) (lcons (rowOk_did M0_ok r184_ok) lnil)))))))), trivial⟩⟩, (lcons (rowOk_did M0_ok r102_ok) (lcons (rowOk_did M0_ok r165_ok) lnil)), ⟨⟨⟨trivial, (lcons (rowOk_did M0_ok r127_ok) (lcons (rowOk_did M0_ok r152_ok) (lcons (rowOk_did M0_ok r163_ok) (lcons (rowOk_did M0_ok r179_ok) (lcons (rowOk_did M0_ok r182_ok) lnil))))), trivial⟩, (lcons (rowOk_did M0_ok r128_ok) (lcons (rowOk_did M0_ok r153_ok) (lcons (rowOk_did M0_ok r164_ok) (lcons (rowOk_did M0_ok r180_ok) (lcons (rowOk_did M0_ok r183_ok) lnil))))), trivial⟩, (lcons (rowOk_did M0_ok r57_ok) (lcons (rowOk_did M0_ok r65_ok) (lcons (rowOk_did M0_ok r73_ok) (lcons (rowOk_did M0_ok r77_ok) (lcons (rowOk_did M0_ok r100_ok) (lcons (rowOk_did M0_ok r189_ok) (lcons (rowOk_did M0_ok r235_ok) (lcons (rowOk_did M0_ok r272_ok) lnil)))))))), ⟨⟨trivial, (lcons (rowOk_did M0_ok r104_ok) (lcons (rowOk_did M0_ok r105_ok) (lcons (rowOk_did M0_ok r106_ok) (lcons (rowOk_did M0_ok r107_ok) (lcons (rowOk_did M0_ok r109_ok) (lcons (rowOk_did M0_ok r110_ok) (lcons (rowOk_did M0_ok r111_ok) (lcons (rowOk_did M0_ok r112_ok) (lcons (rowOk_did M0_ok r113_ok) (lcons (rowOk_did M0_ok r114_ok) (lcons (rowOk_did M0_ok r115_ok) (lcons (rowOk_did M0_ok r116_ok) (lcons (rowOk_did M0_ok r117_ok) (lcons (rowOk_did M0_ok r118_ok) (lcons (rowOk_did M0_ok r119_ok) (lcons (rowOk_did M0_ok r120_ok) (lcons (rowOk_did M0_ok r121_ok) (lcons (rowOk_did M0_ok r122_ok) (lcons (rowOk_did M0_ok r123_ok) (lcons (rowOk_did M0_ok r124_ok) (lcons (rowOk_did M0_ok r129_ok) (lcons (rowOk_did M0_ok r130_ok) (lcons (rowOk_did M0_ok r132_ok) (lcons (rowOk_did M0_ok r133_ok) (lcons (rowOk_did M0_ok r134_ok) (lcons (rowOk_did M0_ok r135_ok) (lcons (rowOk_did M0_ok r136_ok) (lcons (rowOk_did M0_ok r137_ok) (lcons (rowOk_did M0_ok r138_ok) (lcons (rowOk_did M0_ok r139_ok) (lcons (rowOk_did M0_ok r140_ok) (lcons (rowOk_did M0_ok r141_ok) (lcons (rowOk_did M0_ok r142_ok) (lcons (rowOk_did M0_ok r143_ok) (lcons (rowOk_did M0_ok r144_ok) (lcons (rowOk_did M0_ok r145_ok) (lcons (rowOk_did M0_ok r146_ok) (lcons (rowOk_did M0_ok r147_ok) (lcons (rowOk_did M0_ok r148_ok) (lcons (rowOk_did M0_ok r149_ok) (lcons (rowOk_did M0_ok r154_ok) (lcons (rowOk_did M0_ok r157_ok) (lcons (rowOk_did M0_ok r158_ok) (lcons (rowOk_did M0_ok r159_ok) (lcons (rowOk_did M0_ok r160_ok) (lcons (rowOk_did M0_ok r161_ok) (lcons (rowOk_did M0_ok r162_ok) (lcons (rowOk_did M0_ok r166_ok) (lcons (rowOk_did M0_ok r167_ok) (lcons (rowOk_did M0_ok r168_ok) (lcons (rowOk_did M0_ok r169_ok) (lcons (rowOk_did M0_ok r170_ok) (lcons (rowOk_did M0_ok r171_ok) (lcons (rowOk_did M0_ok r172_ok) (lcons (rowOk_did M0_ok r173_ok) (lcons (rowOk_did M0_ok r174_ok) (lcons (rowOk_did M0_ok r175_ok) (lcons (rowOk_did M0_ok r176_ok) lnil)))))))))))))))))))))))))))))))))))))))))))))))))))))))))), trivial⟩, (lcons (rowOk_did M0_ok r126_ok) (lcons (rowOk_did M0_ok r131_ok) (lcons (rowOk_did M0_ok r151_ok) (lcons (rowOk_did M0_ok r156_ok) (lcons (rowOk_did M0_ok r185_ok) lnil))))), trivial⟩⟩⟩⟩
def M1 : Memo := orM (tabM t0) M0
theorem M1_ok : MemoOk cfg0 M1 := orM_ok t0_ok M0_ok
def r371 : List AV × AV := ([.str [98, 97, 115, 101, 32, 109, 101, 116, 101, 114, 32, 108, 101, 110, 103, 116, 104, 10, 98, 97, 115, 101, 32, 115, 101, 99, 111, 110, 100, 32, 116, 105, 109, 101, 10, 98, 97, 115, 101, 32, 107, 101, 108, 118, 105, 110, 32, 116, 101, 109, 112, 101, 114, 97, 116, 117, 114, 101, 10, 112, 114, 101, 102, 105, 120, 32, 107, 105, 108, 111, 32, 49, 48, 32, 51, 10, 112, 114, 101, 102, 105, 120, 32, 109, 105, 108, 108, 105, 32, 49, 48, 32, 45, 51, 10, 117, 110, 105, 116, 32, 102, 111, 111, 116, 32, 51, 56, 49, 47, 49, 50, 53, 48, 32, 109, 101, 116, 101, 114, 10, 117, 110, 105, 116, 32, 105, 110, 99, 104, 32, 49, 47, 49, 50, 32, 102, 111, 111, 116, 10, 117, 110, 105, 116, 32, 121, 97, 114, 100, 32, 51, 32, 102, 111, 111, 116, 10, 117, 110, 105, 116, 32, 109, 105, 110, 117, 116, 101, 32, 54, 48, 32, 115, 101, 99, 111, 110, 100, 10, 117, 110, 105, 116, 32, 99, 101, 108, 115, 105, 117, 115, 32, 49, 32, 107, 101, 108, 118, 105, 110, 32, 50, 55, 51, 49, 53, 47, 49, 48, 48, 10, 117, 110, 105, 116, 32, 102, 97, 104, 114, 101, 110, 104, 101, 105, 116, 32, 53, 47, 57, 32, 107, 101, 108, 118, 105, 110, 32, 52, 53, 57, 54, 55, 47, 49, 56, 48, 10, 113, 117, 97, 110, 116, 105, 116, 121, 32, 115, 112, 101, 101, 100, 32, 109, 101, 116, 101, 114, 45, 112, 101, 114, 45, 115, 101, 99, 111, 110, 100, 10, 113, 117, 97, 110, 116, 105, 116, 121, 32, 97, 114, 101, 97, 32, 115, 113, 117, 97, 114, 101, 45, 109, 101, 116, 101, 114, 10, 97, 108, 105, 97, 115, 32, 107, 112, 104, 32, 107, 105, 108, 111, 109, 101, 116, 101, 114, 45, 112, 101, 114, 45, 115, 101, 99, 111, 110, 100, 10]], .tuple [.ro [.int .i64 1, .ro [.str [98, 97, 115, 101], .str [109, 101, 116, 101, 114], .str [108, 101, 110, 103, 116, 104]] 3, .int .i64 2, .ro [.str [98, 97, 115, 101], .str [115, 101, 99, 111, 110, 100], .str [116, 105, 109, 101]] 3, .int .i64 3, .ro [.str [98, 97, 115, 101], .str [107, 101, 108, 118, 105, 110], .str [116, 101, 109, 112, 101, 114, 97, 116, 117, 114, 101]] 3, .int .i64 4, .ro [.str [112, 114, 101, 102, 105, 120], .str [107, 105, 108, 111], .str [49, 48], .str [51]] 4, .int .i64 5, .ro [.str [112, 114, 101, 102, 105, 120], .str [109, 105, 108, 108, 105], .str [49, 48], .str [45, 51]] 4, .int .i64 6, .ro [.str [117, 110, 105, 116], .str [102, 111, 111, 116], .str [51, 56, 49, 47, 49, 50, 53, 48], .str [109, 101, 116, 101, 114]] 4, .int .i64 7, .ro [.str [117, 110, 105, 116], .str [105, 110, 99, 104], .str [49, 47, 49, 50], .str [102, 111, 111, 116]] 4, .int .i64 8, .ro [.str [117, 110, 105, 116], .str [121, 97, 114, 100], .str [51], .str [102, 111, 111, 116]] 4, .int .i64 9, .ro [.str [117, 110, 105, 116], .str [109, 105, 110, 117, 116, 101], .str [54, 48], .str [115, 101, 99, 111, 110, 100]] 4, .int .i64 10, .ro [.str [117, 110, 105, 116], .str [99, 101, 108, 115, 105, 117, 115], .str [49], .str [107, 101, 108, 118, 105, 110], .str [50, 55, 51, 49, 53, 47, 49, 48, 48]] 5, .int .i64 11, .ro [.str [117, 110, 105, 116], .str [102, 97, 104, 114, 101, 110, 104, 101, 105, 116], .str [53, 47, 57], .str [107, 101, 108, 118, 105, 110], .str [52, 53, 57, 54, 55, 47, 49, 56, 48]] 5, .int .i64 12, .ro [.str [113, 117, 97, 110, 116, 105, 116, 121], .str [115, 112, 101, 101, 100], .str [109, 101, 116, 101, 114, 45, 112, 101, 114, 45, 115, 101, 99, 111, 110, 100]] 3, .int .i64 13, .ro [.str [113, 117, 97, 110, 116, 105, 116, 121], .str [97, 114, 101, 97], .str [115, 113, 117, 97, 114, 101, 45, 109, 101, 116, 101, 114]] 3, .int .i64 14, .ro [.str [97, 108, 105, 97, 115], .str [107, 112, 104], .str [107, 105, 108, 111, 109, 101, 116, 101, 114, 45, 112, 101, 114, 45, 115, 101, 99, 111, 110, 100]] 3] 14, .int .i64 0, .int .i64 0])
theorem r371_ok : rowOk cfg0 M1 3000 18 r371 = true := by kernel_rfl
def r372 : List AV × AV := ([.str [98, 97, 115, 101, 32, 109, 101, 116, 101, 114, 32, 108, 101, 110, 103, 116, 104, 10, 98, 97, 115, 101, 32, 115, 101, 99, 111, 110, 100, 32, 116, 105, 109, 101, 10, 98, 97, 115, 101, 32, 107, 101, 108, 118, 105, 110, 32, 116, 101, 109, 112, 101, 114, 97, 116, 117, 114, 101, 10, 112, 114, 101, 102, 105, 120, 32, 107, 105, 108, 111, 32, 49, 48, 32, 51, 10, 112, 114, 101, 102, 105, 120, 32, 109, 105, 108, 108, 105, 32, 49, 48, 32, 45, 51, 10, 117, 110, 105, 116, 32, 102, 111, 111, 116, 32, 51, 56, 49, 47, 49, 50, 53, 48, 32, 109, 101, 116, 101, 114, 10, 117, 110, 105, 116, 32, 105, 110, 99, 104, 32, 49, 47, 49, 50, 32, 102, 111, 111, 116, 10, 117, 110, 105, 116, 32, 121, 97, 114, 100, 32, 51, 32, 102, 111, 111, 116, 10, 117, 110, 105, 116, 32, 109, 105, 110, 117, 116, 101, 32, 54, 48, 32, 115, 101, 99, 111, 110, 100, 10, 117, 110, 105, 116, 32, 99, 101, 108, 115, 105, 117, 115, 32, 49, 32, 107, 101, 108, 118, 105, 110, 32, 50, 55, 51, 49, 53, 47, 49, 48, 48, 10, 117, 110, 105, 116, 32, 102, 97, 104, 114, 101, 110, 104, 101, 105, 116, 32, 53, 47, 57, 32, 107, 101, 108, 118, 105, 110, 32, 52, 53, 57, 54, 55, 47, 49, 56, 48, 10, 113, 117, 97, 110, 116, 105, 116, 121, 32, 115, 112, 101, 101, 100, 32, 109, 101, 116, 101, 114, 45, 112, 101, 114, 45, 115, 101, 99, 111, 110, 100, 10, 113, 117, 97, 110, 116, 105, 116, 121, 32, 97, 114, 101, 97, 32, 115, 113, 117, 97, 114, 101, 45, 109, 101, 116, 101, 114, 10, 97, 108, 105, 97, 115, 32, 107, 112, 104, 32, 107, 105, 108, 111, 109, 101, 116, 101, 114, 45, 112, 101, 114, 45, 115, 101, 99, 111, 110, 100, 10]], .tuple [.ro [.int .i64 1, .ro [.str [98, 97, 115, 101], .str [109, 101, 116, 101, 114], .str [108, 101, 110, 103, 116, 104]] 3, .int .i64 2, .ro [.str [98, 97, 115, 101], .str [115, 101, 99, 111, 110, 100], .str [116, 105, 109, 101]] 3, .int .i64 3, .ro [.str [98, 97, 115, 101], .str [107, 101, 108, 118, 105, 110], .str [116, 101, 109, 112, 101, 114, 97, 116, 117, 114, 101]] 3, .int .i64 4, .ro [.str [112, 114, 101, 102, 105, 120], .str [107, 105, 108, 111], .str [49, 48], .str [51]] 4, .int .i64 5, .ro [.str [112, 114, 101, 102, 105, 120], .str [109, 105, 108, 108, 105], .str [49, 48], .str [45, 51]] 4, .int .i64 6, .ro [.str [117, 110, 105, 116], .str [102, 111, 111, 116], .str [51, 56, 49, 47, 49, 50, 53, 48], .str [109, 101, 116, 101, 114]] 4, .int .i64 7, .ro [.str [117, 110, 105, 116], .str [105, 110, 99, 104], .str [49, 47, 49, 50], .str [102, 111, 111, 116]] 4, .int .i64 8, .ro [.str [117, 110, 105, 116], .str [121, 97, 114, 100], .str [51], .str [102, 111, 111, 116]] 4, .int .i64 9, .ro [.str [117, 110, 105, 116], .str [109, 105, 110, 117, 116, 101], .str [54, 48], .str [115, 101, 99, 111, 110, 100]] 4, .int .i64 10, .ro [.str [117, 110, 105, 116], .str [99, 101, 108, 115, 105, 117, 115], .str [49], .str [107, 101, 108, 118, 105, 110], .str [50, 55, 51, 49, 53, 47, 49, 48, 48]] 5, .int .i64 11, .ro [.str [117, 110, 105, 116], .str [102, 97, 104, 114, 101, 110, 104, 101, 105, 116], .str [53, 47, 57], .str [107, 101, 108, 118, 105, 110], .str [52, 53, 57, 54, 55, 47, 49, 56, 48]] 5, .int .i64 12, .ro [.str [113, 117, 97, 110, 116, 105, 116, 121], .str [115, 112, 101, 101, 100], .str [109, 101, 116, 101, 114, 45, 112, 101, 114, 45, 115, 101, 99, 111, 110, 100]] 3, .int .i64 13, .ro [.str [113, 117, 97, 110, 116, 105, 116, 121], .str [97, 114, 101, 97], .str [115, 113, 117, 97, 114, 101, 45, 109, 101, 116, 101, 114]] 3, .int .i64 14, .ro [.str [97, 108, 105, 97, 115], .str [107, 112, 104], .str [107, 105, 108, 111, 109, 101, 116, 101, 114, 45, 112, 101, 114, 45, 115, 101, 99, 111, 110, 100]] 3] 14, .int .i64 0, .int .i64 0])
theorem r372_ok : rowOk cfg0 M1 3000 19 r372 = true := by kernel_rfl
def r373 : List AV × AV := ([.str [109, 101, 116, 101, 114]], .bool true)
theorem r373_ok : rowOk cfg0 M1 3000 203 r373 = true := by kernel_rfl
def r374 : List AV × AV := ([.str [115, 101, 99, 111, 110, 100]], .bool true)
theorem r374_ok : rowOk cfg0 M1 3000 203 r374 = true := by kernel_rfl
def r375 : List AV × AV := ([.str [107, 101, 108, 118, 105, 110]], .bool true)
theorem r375_ok : rowOk cfg0 M1 3000 203 r375 = true := by kernel_rfl
def r376 : List AV × AV := ([.str [107, 105, 108, 111]], .bool true)
theorem r376_ok : rowOk cfg0 M1 3000 203 r376 = true := by kernel_rfl
def r377 : List AV × AV := ([.agg [.bool false, .ro [.int .u32 10] 1], .agg [.ro [.int .u32 1] 1]], .tuple [.agg [.bool false, .ro [.int .u32 10] 1, .ro [.int .u32 1] 1], .bool true])
theorem r377_ok : rowOk cfg0 M1 3000 28 r377 = true := by kernel_rfl
def r378 : List AV × AV := ([.str [109, 105, 108, 108, 105]], .bool true)
theorem r378_ok : rowOk cfg0 M1 3000 203 r378 = true := by kernel_rfl
def r379 : List AV × AV := ([.str [45, 51]], .tuple [.agg [.bool true, .ro [.int .u32 3] 1], .bool true])
theorem r379_ok : rowOk cfg0 M1 3000 43 r379 = true := by kernel_rfl
def r380 : List AV × AV := ([.agg [.bool false, .ro [.int .u32 1] 1], .agg [.ro [.int .u32 10] 1]], .tuple [.agg [.bool false, .ro [.int .u32 1] 1, .ro [.int .u32 10] 1], .bool true])
theorem r380_ok : rowOk cfg0 M1 3000 28 r380 = true := by kernel_rfl
def r381 : List AV × AV := ([.agg [.bool false, .ro [.int .u32 1] 1], .agg [.ro [.int .u32 100] 1]], .tuple [.agg [.bool false, .ro [.int .u32 1] 1, .ro [.int .u32 100] 1], .bool true])
theorem r381_ok : rowOk cfg0 M1 3000 28 r381 = true := by kernel_rfl
def r382 : List AV × AV := ([.agg [.bool false, .ro [.int .u32 1] 1], .agg [.ro [.int .u32 1000] 1]], .tuple [.agg [.bool false, .ro [.int .u32 1] 1, .ro [.int .u32 1000] 1], .bool true])
theorem r382_ok : rowOk cfg0 M1 3000 28 r382 = true := by kernel_rfl
def r383 : List AV × AV := ([.str [102, 111, 111, 116]], .bool true)
theorem r383_ok : rowOk cfg0 M1 3000 203 r383 = true := by kernel_rfl
def r384 : List AV × AV := ([.str [49, 50, 53, 48]], .tuple [.agg [.ro [.int .u32 1250] 1], .bool true])
theorem r384_ok : rowOk cfg0 M1 3000 45 r384 = true := by kernel_rfl
def r385 : List AV × AV := ([.agg [.bool false, .ro [.int .u32 381] 1], .agg [.ro [.int .u32 1250] 1]], .tuple [.agg [.bool false, .ro [.int .u32 381] 1, .ro [.int .u32 1250] 1], .bool true])
theorem r385_ok : rowOk cfg0 M1 3000 28 r385 = true := by kernel_rfl
def r386 : List AV × AV := ([.agg [.bool false, .ro [.int .u32 1] 1], .agg [.ro [.int .u32 1] 1]], .tuple [.agg [.bool false, .ro [.int .u32 1] 1, .ro [.int .u32 1] 1], .bool true])
theorem r386_ok : rowOk cfg0 M1 3000 28 r386 = true := by kernel_rfl
def r387 : List AV × AV := ([.str [105, 110, 99, 104]], .bool true)
theorem r387_ok : rowOk cfg0 M1 3000 203 r387 = true := by kernel_rfl
def r388 : List AV × AV := ([.agg [.bool false, .ro [.int .u32 1] 1], .agg [.ro [.int .u32 12] 1]], .tuple [.agg [.bool false, .ro [.int .u32 1] 1, .ro [.int .u32 12] 1], .bool true])
theorem r388_ok : rowOk cfg0 M1 3000 28 r388 = true := by kernel_rfl
def r389 : List AV × AV := ([.agg [.bool false, .ro [.int .u32 381] 1], .agg [.ro [.int .u32 15000] 1]], .tuple [.agg [.bool false, .ro [.int .u32 127] 1, .ro [.int .u32 5000] 1], .bool true])
theorem r389_ok : rowOk cfg0 M1 3000 28 r389 = true := by kernel_rfl
def r390 : List AV × AV := ([.str [121, 97, 114, 100]], .bool true)
theorem r390_ok : rowOk cfg0 M1 3000 203 r390 = true := by kernel_rfl
def r391 : List AV × AV := ([.agg [.bool false, .ro [.int .u32 3] 1], .agg [.ro [.int .u32 1] 1]], .tuple [.agg [.bool false, .ro [.int .u32 3] 1, .ro [.int .u32 1] 1], .bool true])
theorem r391_ok : rowOk cfg0 M1 3000 28 r391 = true := by kernel_rfl
def r392 : List AV × AV := ([.agg [.bool false, .ro [.int .u32 1143] 1], .agg [.ro [.int .u32 1250] 1]], .tuple [.agg [.bool false, .ro [.int .u32 1143] 1, .ro [.int .u32 1250] 1], .bool true])
theorem r392_ok : rowOk cfg0 M1 3000 28 r392 = true := by kernel_rfl
def r393 : List AV × AV := ([.str [109, 105, 110, 117, 116, 101]], .bool true)
theorem r393_ok : rowOk cfg0 M1 3000 203 r393 = true := by kernel_rfl
def r394 : List AV × AV := ([.agg [.bool false, .ro [.int .u32 60] 1], .agg [.ro [.int .u32 1] 1]], .tuple [.agg [.bool false, .ro [.int .u32 60] 1, .ro [.int .u32 1] 1], .bool true])
theorem r394_ok : rowOk cfg0 M1 3000 28 r394 = true := by kernel_rfl
def r395 : List AV × AV := ([.str [99, 101, 108, 115, 105, 117, 115]], .bool true)
theorem r395_ok : rowOk cfg0 M1 3000 203 r395 = true := by kernel_rfl
def r396 : List AV × AV := ([.str [50, 55, 51, 49, 53]], .tuple [.agg [.ro [.int .u32 27315] 1], .bool true])
theorem r396_ok : rowOk cfg0 M1 3000 45 r396 = true := by kernel_rfl
def r397 : List AV × AV := ([.agg [.bool false, .ro [.int .u32 27315] 1], .agg [.ro [.int .u32 100] 1]], .tuple [.agg [.bool false, .ro [.int .u32 5463] 1, .ro [.int .u32 20] 1], .bool true])
theorem r397_ok : rowOk cfg0 M1 3000 28 r397 = true := by kernel_rfl
def r398 : List AV × AV := ([.str [102, 97, 104, 114, 101, 110, 104, 101, 105, 116]], .bool true)
theorem r398_ok : rowOk cfg0 M1 3000 203 r398 = true := by kernel_rfl
def r399 : List AV × AV := ([.agg [.bool false, .ro [.int .u32 5] 1], .agg [.ro [.int .u32 9] 1]], .tuple [.agg [.bool false, .ro [.int .u32 5] 1, .ro [.int .u32 9] 1], .bool true])
theorem r399_ok : rowOk cfg0 M1 3000 28 r399 = true := by kernel_rfl
def r400 : List AV × AV := ([.str [52, 53, 57, 54, 55]], .tuple [.agg [.ro [.int .u32 45967] 1], .bool true])
theorem r400_ok : rowOk cfg0 M1 3000 45 r400 = true := by kernel_rfl
def r401 : List AV × AV := ([.agg [.bool false, .ro [.int .u32 45967] 1], .agg [.ro [.int .u32 180] 1]], .tuple [.agg [.bool false, .ro [.int .u32 45967] 1, .ro [.int .u32 180] 1], .bool true])
theorem r401_ok : rowOk cfg0 M1 3000 28 r401 = true := by kernel_rfl
def r402 : List AV × AV := ([.str [107, 112, 104]], .bool true)
theorem r402_ok : rowOk cfg0 M1 3000 203 r402 = true := by kernel_rfl
def r403 : List AV × AV := ([.str [116, 101, 109, 112, 101, 114, 97, 116, 117, 114, 101]], .tuple [.ro [.str [116, 101, 109, 112, 101, 114, 97, 116, 117, 114, 101]] 1, .int .i64 0])
theorem r403_ok : rowOk cfg0 M1 3000 207 r403 = true := by kernel_rfl
def r404 : List AV × AV := ([.agg [.bool false, .ro [.int .i64 1] 1, .ro [.int .i64 1] 1], .agg [.bool false, .ro [.int .i64 10] 1, .ro [.int .i64 1] 1]], .agg [.bool false, .ro [.int .i64 10] 1, .ro [.int .i64 1] 1])
theorem r404_ok : rowOk cfg0 M1 3000 175 r404 = true := by kernel_rfl
def r405 : List AV × AV := ([.agg [.bool false, .ro [.int .i64 10] 1, .ro [.int .i64 1] 1], .agg [.bool false, .ro [.int .i64 10] 1, .ro [.int .i64 1] 1]], .agg [.bool false, .ro [.int .i64 100] 1, .ro [.int .i64 1] 1])
theorem r405_ok : rowOk cfg0 M1 3000 175 r405 = true := by kernel_rfl
def r406 : List AV × AV := ([.agg [.bool false, .ro [.int .i64 100] 1, .ro [.int .i64 1] 1], .agg [.bool false, .ro [.int .i64 10] 1, .ro [.int .i64 1] 1]], .agg [.bool false, .ro [.int .i64 1000] 1, .ro [.int .i64 1] 1])
theorem r406_ok : rowOk cfg0 M1 3000 175 r406 = true := by kernel_rfl
def r407 : List AV × AV := ([.agg [.bool false, .ro [.int .i64 1] 1, .ro [.int .i64 1] 1], .agg [.bool false, .ro [.int .i64 1] 1, .ro [.int .i64 10] 1]], .agg [.bool false, .ro [.int .i64 1] 1, .ro [.int .i64 10] 1])
theorem r407_ok : rowOk cfg0 M1 3000 175 r407 = true := by kernel_rfl
def r408 : List AV × AV := ([.agg [.bool false, .ro [.int .i64 1] 1, .ro [.int .i64 10] 1], .agg [.bool false, .ro [.int .i64 1] 1, .ro [.int .i64 10] 1]], .agg [.bool false, .ro [.int .i64 1] 1, .ro [.int .i64 100] 1])
theorem r408_ok : rowOk cfg0 M1 3000 175 r408 = true := by kernel_rfl
def r409 : List AV × AV := ([.agg [.bool false, .ro [.int .i64 1] 1, .ro [.int .i64 100] 1], .agg [.bool false, .ro [.int .i64 1] 1, .ro [.int .i64 10] 1]], .agg [.bool false, .ro [.int .i64 1] 1, .ro [.int .i64 1000] 1])
theorem r409_ok : rowOk cfg0 M1 3000 175 r409 = true := by kernel_rfl
def r410 : List AV × AV := ([.ro [.int .i64 381] 1, .ro [.int .i64 1250] 1], .ro [.int .i64 1] 1)
theorem r410_ok : rowOk cfg0 M1 3000 246 r410 = true := by kernel_rfl
def r411 : List AV × AV := ([.agg [.bool false, .ro [.int .i64 1] 1, .ro [.int .i64 1] 1], .agg [.bool false, .ro [.int .i64 1] 1, .ro [.int .i64 1] 1]], .agg [.bool false, .ro [.int .i64 1] 1, .ro [.int .i64 1] 1])
theorem r411_ok : rowOk cfg0 M1 3000 175 r411 = true := by kernel_rfl
def r412 : List AV × AV := ([.str [49, 47, 49, 50]], .tuple [.agg [.bool false, .ro [.int .i64 1] 1, .ro [.int .i64 12] 1], .bool true])
theorem r412_ok : rowOk cfg0 M1 3000 168 r412 = true := by kernel_rfl
def r413 : List AV × AV := ([.ro [.int .i64 381] 1, .ro [.int .i64 5000, .int .i64 1] 2], .ro [.int .i64 3] 1)
theorem r413_ok : rowOk cfg0 M1 3000 246 r413 = true := by kernel_rfl
def r414 : List AV × AV := ([.ro [.int .i64 1143] 1, .ro [.int .i64 1250] 1], .ro [.int .i64 1] 1)
theorem r414_ok : rowOk cfg0 M1 3000 246 r414 = true := by kernel_rfl
def r415 : List AV × AV := ([.agg [.bool false, .ro [.int .i64 1] 1, .ro [.int .i64 1] 1], .agg [.bool false, .ro [.int .i64 60] 1, .ro [.int .i64 1] 1]], .agg [.bool false, .ro [.int .i64 60] 1, .ro [.int .i64 1] 1])
theorem r415_ok : rowOk cfg0 M1 3000 175 r415 = true := by kernel_rfl
def r416 : List AV × AV := ([.str [50, 55, 51, 49, 53, 47, 49, 48, 48]], .tuple [.agg [.bool false, .ro [.int .i64 5463] 1, .ro [.int .i64 20] 1], .bool true])
theorem r416_ok : rowOk cfg0 M1 3000 168 r416 = true := by kernel_rfl
def r417 : List AV × AV := ([.str [53, 47, 57]], .tuple [.agg [.bool false, .ro [.int .i64 5] 1, .ro [.int .i64 9] 1], .bool true])
theorem r417_ok : rowOk cfg0 M1 3000 168 r417 = true := by kernel_rfl
def r418 : List AV × AV := ([.agg [.bool false, .ro [.int .i64 5967, .int .i64 4] 2], .ro [.int .i64 180] 1], .agg [.bool false, .ro [.int .i64 5967, .int .i64 4] 2, .ro [.int .i64 180] 1])
theorem r418_ok : rowOk cfg0 M1 3000 216 r418 = true := by kernel_rfl
def r419 : List AV × AV := ([.agg [.bool false, .ro [.int .i64 1] 1, .ro [.int .i64 1] 1], .agg [.bool false, .ro [.int .i64 5] 1, .ro [.int .i64 9] 1]], .agg [.bool false, .ro [.int .i64 5] 1, .ro [.int .i64 9] 1])
theorem r419_ok : rowOk cfg0 M1 3000 175 r419 = true := by kernel_rfl
end Go.Am.splitKnown
