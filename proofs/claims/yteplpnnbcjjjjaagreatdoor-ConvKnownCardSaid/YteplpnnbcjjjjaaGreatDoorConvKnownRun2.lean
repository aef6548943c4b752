/- ConvKnown: calls on its road whose answers are kept, each run by the kernel over those ahead of it (part 2). Written by wip/gen/memo2lean.py. -/
import Derived.Test.YteplpnnbcjjjjaaGreatDoorConvKnownRun1
import Derived.Test.YteplpnnbcjjjjaaGreatDoorAmCfgA
import Derived.Test.YteplpnnbcjjjjaaGreatDoorAmMemo
import Derived.KernelRfl
namespace Go.Am.convKnown
set_option maxRecDepth 100000
open Go.Am
def r969 : List AV × AV := ([.str [51]], .tuple [.int .i64 3, .bool true])
theorem r969_ok : rowOk cfg0 M1 3000 186 r969 = true := by kernel_rfl
def r970 : List AV × AV := ([.ro [.int .i64 10] 1, .ro [.int .i64 1] 1], .tuple [.ro [.int .i64 10] 1, .e0])
theorem r970_ok : rowOk cfg0 M1 3000 78 r970 = true := by kernel_rfl
def r971 : List AV × AV := ([.ro [.int .i64 1] 1, .ro [.int .i64 1] 1], .tuple [.ro [.int .i64 1] 1, .e0])
theorem r971_ok : rowOk cfg0 M1 3000 78 r971 = true := by kernel_rfl
def r972 : List AV × AV := ([.ro [.int .i64 100] 1, .ro [.int .i64 1] 1], .tuple [.ro [.int .i64 100] 1, .e0])
theorem r972_ok : rowOk cfg0 M1 3000 78 r972 = true := by kernel_rfl
def r973 : List AV × AV := ([.ro [.int .i64 1000] 1, .ro [.int .i64 1] 1], .tuple [.ro [.int .i64 1000] 1, .e0])
theorem r973_ok : rowOk cfg0 M1 3000 78 r973 = true := by kernel_rfl
def r974 : List AV × AV := ([.str [45, 51]], .tuple [.int .i64 (-3), .bool true])
theorem r974_ok : rowOk cfg0 M1 3000 186 r974 = true := by kernel_rfl
def r975 : List AV × AV := ([.ro [.int .i64 1] 1, .ro [.int .i64 10] 1], .tuple [.e0, .ro [.int .i64 1] 1])
theorem r975_ok : rowOk cfg0 M1 3000 78 r975 = true := by kernel_rfl
def r976 : List AV × AV := ([.ro [.int .i64 1] 1, .ro [.int .i64 100] 1], .tuple [.e0, .ro [.int .i64 1] 1])
theorem r976_ok : rowOk cfg0 M1 3000 78 r976 = true := by kernel_rfl
def r977 : List AV × AV := ([.ro [.int .i64 1] 1, .ro [.int .i64 1000] 1], .tuple [.e0, .ro [.int .i64 1] 1])
theorem r977_ok : rowOk cfg0 M1 3000 78 r977 = true := by kernel_rfl
def r978 : List AV × AV := ([.ro [.int .i64 381] 1, .ro [.int .i64 1250] 1], .tuple [.e0, .ro [.int .i64 381] 1])
theorem r978_ok : rowOk cfg0 M1 3000 78 r978 = true := by kernel_rfl
def r979 : List AV × AV := ([.ro [.int .i64 1250] 1, .ro [.int .i64 381] 1], .tuple [.ro [.int .i64 3] 1, .ro [.int .i64 107] 1])
theorem r979_ok : rowOk cfg0 M1 3000 78 r979 = true := by kernel_rfl
def r980 : List AV × AV := ([.ro [.int .i64 381] 1, .ro [.int .i64 107] 1], .tuple [.ro [.int .i64 3] 1, .ro [.int .i64 60] 1])
theorem r980_ok : rowOk cfg0 M1 3000 78 r980 = true := by kernel_rfl
def r981 : List AV × AV := ([.ro [.int .i64 107] 1, .ro [.int .i64 60] 1], .tuple [.ro [.int .i64 1] 1, .ro [.int .i64 47] 1])
theorem r981_ok : rowOk cfg0 M1 3000 78 r981 = true := by kernel_rfl
def r982 : List AV × AV := ([.ro [.int .i64 60] 1, .ro [.int .i64 47] 1], .tuple [.ro [.int .i64 1] 1, .ro [.int .i64 13] 1])
theorem r982_ok : rowOk cfg0 M1 3000 78 r982 = true := by kernel_rfl
def r983 : List AV × AV := ([.ro [.int .i64 47] 1, .ro [.int .i64 13] 1], .tuple [.ro [.int .i64 3] 1, .ro [.int .i64 8] 1])
theorem r983_ok : rowOk cfg0 M1 3000 78 r983 = true := by kernel_rfl
def r984 : List AV × AV := ([.ro [.int .i64 13] 1, .ro [.int .i64 8] 1], .tuple [.ro [.int .i64 1] 1, .ro [.int .i64 5] 1])
theorem r984_ok : rowOk cfg0 M1 3000 78 r984 = true := by kernel_rfl
def r985 : List AV × AV := ([.ro [.int .i64 8] 1, .ro [.int .i64 5] 1], .tuple [.ro [.int .i64 1] 1, .ro [.int .i64 3] 1])
theorem r985_ok : rowOk cfg0 M1 3000 78 r985 = true := by kernel_rfl
def r986 : List AV × AV := ([.ro [.int .i64 5] 1, .ro [.int .i64 3] 1], .tuple [.ro [.int .i64 1] 1, .ro [.int .i64 2] 1])
theorem r986_ok : rowOk cfg0 M1 3000 78 r986 = true := by kernel_rfl
def r987 : List AV × AV := ([.ro [.int .i64 3] 1, .ro [.int .i64 2] 1], .tuple [.ro [.int .i64 1] 1, .ro [.int .i64 1] 1])
theorem r987_ok : rowOk cfg0 M1 3000 78 r987 = true := by kernel_rfl
def r988 : List AV × AV := ([.ro [.int .i64 2] 1, .ro [.int .i64 1] 1], .tuple [.ro [.int .i64 2] 1, .e0])
theorem r988_ok : rowOk cfg0 M1 3000 78 r988 = true := by kernel_rfl
def r989 : List AV × AV := ([.ro [.int .i64 381] 1, .ro [.int .i64 1] 1], .tuple [.ro [.int .i64 381] 1, .e0])
theorem r989_ok : rowOk cfg0 M1 3000 78 r989 = true := by kernel_rfl
def r990 : List AV × AV := ([.ro [.int .i64 1250] 1, .ro [.int .i64 1] 1], .tuple [.ro [.int .i64 1250] 1, .e0])
theorem r990_ok : rowOk cfg0 M1 3000 78 r990 = true := by kernel_rfl
def r991 : List AV × AV := ([.str [109, 101, 116, 101, 114]], .tuple [.ro [.str [109, 101, 116, 101, 114]] 1, .int .i64 0])
theorem r991_ok : rowOk cfg0 M1 3000 220 r991 = true := by kernel_rfl
def r992 : List AV × AV := ([.agg [.int .i64 1, .int .i64 0, .int .i64 0, .int .i64 0, .int .i64 0, .int .i64 0, .int .i64 0, .int .i64 0], .int .i64 1], .tuple [.agg [.int .i64 1, .int .i64 0, .int .i64 0, .int .i64 0, .int .i64 0, .int .i64 0, .int .i64 0, .int .i64 0], .bool true])
theorem r992_ok : rowOk cfg0 M1 3000 80 r992 = true := by kernel_rfl
def r993 : List AV × AV := ([.agg [.int .i64 0, .int .i64 0, .int .i64 0, .int .i64 0, .int .i64 0, .int .i64 0, .int .i64 0, .int .i64 0], .agg [.int .i64 1, .int .i64 0, .int .i64 0, .int .i64 0, .int .i64 0, .int .i64 0, .int .i64 0, .int .i64 0]], .tuple [.agg [.int .i64 1, .int .i64 0, .int .i64 0, .int .i64 0, .int .i64 0, .int .i64 0, .int .i64 0, .int .i64 0], .bool true])
theorem r993_ok : rowOk cfg0 M1 3000 227 r993 = true := by kernel_rfl
def r994 : List AV × AV := ([.ro [.int .i64 1] 1, .ro [.int .i64 12] 1], .tuple [.e0, .ro [.int .i64 1] 1])
theorem r994_ok : rowOk cfg0 M1 3000 78 r994 = true := by kernel_rfl
def r995 : List AV × AV := ([.ro [.int .i64 12] 1, .ro [.int .i64 1] 1], .tuple [.ro [.int .i64 12] 1, .e0])
theorem r995_ok : rowOk cfg0 M1 3000 78 r995 = true := by kernel_rfl
def r996 : List AV × AV := ([.str [102, 111, 111, 116]], .tuple [.ro [.str [102, 111, 111, 116]] 1, .int .i64 0])
theorem r996_ok : rowOk cfg0 M1 3000 220 r996 = true := by kernel_rfl
def r997 : List AV × AV := ([.ro [.int .i64 5000, .int .i64 1] 2, .ro [.int .i64 381] 1], .tuple [.ro [.int .i64 39] 1, .ro [.int .i64 141] 1])
theorem r997_ok : rowOk cfg0 M1 3000 78 r997 = true := by kernel_rfl
def r998 : List AV × AV := ([.ro [.int .i64 381] 1, .ro [.int .i64 141] 1], .tuple [.ro [.int .i64 2] 1, .ro [.int .i64 99] 1])
theorem r998_ok : rowOk cfg0 M1 3000 78 r998 = true := by kernel_rfl
def r999 : List AV × AV := ([.ro [.int .i64 141] 1, .ro [.int .i64 99] 1], .tuple [.ro [.int .i64 1] 1, .ro [.int .i64 42] 1])
theorem r999_ok : rowOk cfg0 M1 3000 78 r999 = true := by kernel_rfl
def r1000 : List AV × AV := ([.ro [.int .i64 99] 1, .ro [.int .i64 42] 1], .tuple [.ro [.int .i64 2] 1, .ro [.int .i64 15] 1])
theorem r1000_ok : rowOk cfg0 M1 3000 78 r1000 = true := by kernel_rfl
def r1001 : List AV × AV := ([.ro [.int .i64 42] 1, .ro [.int .i64 15] 1], .tuple [.ro [.int .i64 2] 1, .ro [.int .i64 12] 1])
theorem r1001_ok : rowOk cfg0 M1 3000 78 r1001 = true := by kernel_rfl
def r1002 : List AV × AV := ([.ro [.int .i64 15] 1, .ro [.int .i64 12] 1], .tuple [.ro [.int .i64 1] 1, .ro [.int .i64 3] 1])
theorem r1002_ok : rowOk cfg0 M1 3000 78 r1002 = true := by kernel_rfl
def r1003 : List AV × AV := ([.ro [.int .i64 12] 1, .ro [.int .i64 3] 1], .tuple [.ro [.int .i64 4] 1, .e0])
theorem r1003_ok : rowOk cfg0 M1 3000 78 r1003 = true := by kernel_rfl
def r1004 : List AV × AV := ([.ro [.int .i64 381] 1, .ro [.int .i64 3] 1], .tuple [.ro [.int .i64 127] 1, .e0])
theorem r1004_ok : rowOk cfg0 M1 3000 78 r1004 = true := by kernel_rfl
def r1005 : List AV × AV := ([.ro [.int .i64 5000, .int .i64 1] 2, .ro [.int .i64 3] 1], .tuple [.ro [.int .i64 5000] 1, .e0])
theorem r1005_ok : rowOk cfg0 M1 3000 78 r1005 = true := by kernel_rfl
def r1006 : List AV × AV := ([.ro [.int .i64 1143] 1, .ro [.int .i64 1250] 1], .tuple [.e0, .ro [.int .i64 1143] 1])
theorem r1006_ok : rowOk cfg0 M1 3000 78 r1006 = true := by kernel_rfl
def r1007 : List AV × AV := ([.ro [.int .i64 1250] 1, .ro [.int .i64 1143] 1], .tuple [.ro [.int .i64 1] 1, .ro [.int .i64 107] 1])
theorem r1007_ok : rowOk cfg0 M1 3000 78 r1007 = true := by kernel_rfl
def r1008 : List AV × AV := ([.ro [.int .i64 1143] 1, .ro [.int .i64 107] 1], .tuple [.ro [.int .i64 10] 1, .ro [.int .i64 73] 1])
theorem r1008_ok : rowOk cfg0 M1 3000 78 r1008 = true := by kernel_rfl
def r1009 : List AV × AV := ([.ro [.int .i64 107] 1, .ro [.int .i64 73] 1], .tuple [.ro [.int .i64 1] 1, .ro [.int .i64 34] 1])
theorem r1009_ok : rowOk cfg0 M1 3000 78 r1009 = true := by kernel_rfl
def r1010 : List AV × AV := ([.ro [.int .i64 73] 1, .ro [.int .i64 34] 1], .tuple [.ro [.int .i64 2] 1, .ro [.int .i64 5] 1])
theorem r1010_ok : rowOk cfg0 M1 3000 78 r1010 = true := by kernel_rfl
def r1011 : List AV × AV := ([.ro [.int .i64 34] 1, .ro [.int .i64 5] 1], .tuple [.ro [.int .i64 6] 1, .ro [.int .i64 4] 1])
theorem r1011_ok : rowOk cfg0 M1 3000 78 r1011 = true := by kernel_rfl
def r1012 : List AV × AV := ([.ro [.int .i64 5] 1, .ro [.int .i64 4] 1], .tuple [.ro [.int .i64 1] 1, .ro [.int .i64 1] 1])
theorem r1012_ok : rowOk cfg0 M1 3000 78 r1012 = true := by kernel_rfl
def r1013 : List AV × AV := ([.ro [.int .i64 4] 1, .ro [.int .i64 1] 1], .tuple [.ro [.int .i64 4] 1, .e0])
theorem r1013_ok : rowOk cfg0 M1 3000 78 r1013 = true := by kernel_rfl
def r1014 : List AV × AV := ([.ro [.int .i64 1143] 1, .ro [.int .i64 1] 1], .tuple [.ro [.int .i64 1143] 1, .e0])
theorem r1014_ok : rowOk cfg0 M1 3000 78 r1014 = true := by kernel_rfl
def r1015 : List AV × AV := ([.str [54, 48]], .tuple [.agg [.bool false, .ro [.int .i64 60] 1, .ro [.int .i64 1] 1], .bool true])
theorem r1015_ok : rowOk cfg0 M1 3000 188 r1015 = true := by kernel_rfl
def r1016 : List AV × AV := ([.str [115, 101, 99, 111, 110, 100]], .tuple [.ro [.str [115, 101, 99, 111, 110, 100]] 1, .int .i64 0])
theorem r1016_ok : rowOk cfg0 M1 3000 220 r1016 = true := by kernel_rfl
def r1017 : List AV × AV := ([.agg [.int .i64 0, .int .i64 1, .int .i64 0, .int .i64 0, .int .i64 0, .int .i64 0, .int .i64 0, .int .i64 0], .int .i64 1], .tuple [.agg [.int .i64 0, .int .i64 1, .int .i64 0, .int .i64 0, .int .i64 0, .int .i64 0, .int .i64 0, .int .i64 0], .bool true])
theorem r1017_ok : rowOk cfg0 M1 3000 80 r1017 = true := by kernel_rfl
def r1018 : List AV × AV := ([.agg [.int .i64 0, .int .i64 0, .int .i64 0, .int .i64 0, .int .i64 0, .int .i64 0, .int .i64 0, .int .i64 0], .agg [.int .i64 0, .int .i64 1, .int .i64 0, .int .i64 0, .int .i64 0, .int .i64 0, .int .i64 0, .int .i64 0]], .tuple [.agg [.int .i64 0, .int .i64 1, .int .i64 0, .int .i64 0, .int .i64 0, .int .i64 0, .int .i64 0, .int .i64 0], .bool true])
theorem r1018_ok : rowOk cfg0 M1 3000 227 r1018 = true := by kernel_rfl
def r1019 : List AV × AV := ([.ro [.int .i64 60] 1, .ro [.int .i64 1] 1], .tuple [.ro [.int .i64 60] 1, .e0])
theorem r1019_ok : rowOk cfg0 M1 3000 78 r1019 = true := by kernel_rfl
def r1020 : List AV × AV := ([.str [107, 101, 108, 118, 105, 110]], .tuple [.ro [.str [107, 101, 108, 118, 105, 110]] 1, .int .i64 0])
theorem r1020_ok : rowOk cfg0 M1 3000 220 r1020 = true := by kernel_rfl
def r1021 : List AV × AV := ([.ro [.int .i64 7315, .int .i64 2] 2, .ro [.int .i64 100] 1], .tuple [.ro [.int .i64 273] 1, .ro [.int .i64 15] 1])
theorem r1021_ok : rowOk cfg0 M1 3000 78 r1021 = true := by kernel_rfl
def r1022 : List AV × AV := ([.ro [.int .i64 100] 1, .ro [.int .i64 15] 1], .tuple [.ro [.int .i64 6] 1, .ro [.int .i64 10] 1])
theorem r1022_ok : rowOk cfg0 M1 3000 78 r1022 = true := by kernel_rfl
def r1023 : List AV × AV := ([.ro [.int .i64 15] 1, .ro [.int .i64 10] 1], .tuple [.ro [.int .i64 1] 1, .ro [.int .i64 5] 1])
theorem r1023_ok : rowOk cfg0 M1 3000 78 r1023 = true := by kernel_rfl
def r1024 : List AV × AV := ([.ro [.int .i64 10] 1, .ro [.int .i64 5] 1], .tuple [.ro [.int .i64 2] 1, .e0])
theorem r1024_ok : rowOk cfg0 M1 3000 78 r1024 = true := by kernel_rfl
def r1025 : List AV × AV := ([.ro [.int .i64 7315, .int .i64 2] 2, .ro [.int .i64 5] 1], .tuple [.ro [.int .i64 5463] 1, .e0])
theorem r1025_ok : rowOk cfg0 M1 3000 78 r1025 = true := by kernel_rfl
def r1026 : List AV × AV := ([.ro [.int .i64 100] 1, .ro [.int .i64 5] 1], .tuple [.ro [.int .i64 20] 1, .e0])
theorem r1026_ok : rowOk cfg0 M1 3000 78 r1026 = true := by kernel_rfl
def r1027 : List AV × AV := ([.agg [.int .i64 0, .int .i64 0, .int .i64 1, .int .i64 0, .int .i64 0, .int .i64 0, .int .i64 0, .int .i64 0], .int .i64 1], .tuple [.agg [.int .i64 0, .int .i64 0, .int .i64 1, .int .i64 0, .int .i64 0, .int .i64 0, .int .i64 0, .int .i64 0], .bool true])
theorem r1027_ok : rowOk cfg0 M1 3000 80 r1027 = true := by kernel_rfl
def r1028 : List AV × AV := ([.agg [.int .i64 0, .int .i64 0, .int .i64 0, .int .i64 0, .int .i64 0, .int .i64 0, .int .i64 0, .int .i64 0], .agg [.int .i64 0, .int .i64 0, .int .i64 1, .int .i64 0, .int .i64 0, .int .i64 0, .int .i64 0, .int .i64 0]], .tuple [.agg [.int .i64 0, .int .i64 0, .int .i64 1, .int .i64 0, .int .i64 0, .int .i64 0, .int .i64 0, .int .i64 0], .bool true])
theorem r1028_ok : rowOk cfg0 M1 3000 227 r1028 = true := by kernel_rfl
def r1029 : List AV × AV := ([.ro [.int .i64 5] 1, .ro [.int .i64 9] 1], .tuple [.e0, .ro [.int .i64 5] 1])
theorem r1029_ok : rowOk cfg0 M1 3000 78 r1029 = true := by kernel_rfl
def r1030 : List AV × AV := ([.ro [.int .i64 9] 1, .ro [.int .i64 5] 1], .tuple [.ro [.int .i64 1] 1, .ro [.int .i64 4] 1])
theorem r1030_ok : rowOk cfg0 M1 3000 78 r1030 = true := by kernel_rfl
def r1031 : List AV × AV := ([.ro [.int .i64 5] 1, .ro [.int .i64 1] 1], .tuple [.ro [.int .i64 5] 1, .e0])
theorem r1031_ok : rowOk cfg0 M1 3000 78 r1031 = true := by kernel_rfl
def r1032 : List AV × AV := ([.ro [.int .i64 9] 1, .ro [.int .i64 1] 1], .tuple [.ro [.int .i64 9] 1, .e0])
theorem r1032_ok : rowOk cfg0 M1 3000 78 r1032 = true := by kernel_rfl
def r1033 : List AV × AV := ([.ro [.int .i64 5967, .int .i64 4] 2, .ro [.int .i64 180] 1], .tuple [.ro [.int .i64 255] 1, .ro [.int .i64 67] 1])
theorem r1033_ok : rowOk cfg0 M1 3000 78 r1033 = true := by kernel_rfl
def r1034 : List AV × AV := ([.ro [.int .i64 180] 1, .ro [.int .i64 67] 1], .tuple [.ro [.int .i64 2] 1, .ro [.int .i64 46] 1])
theorem r1034_ok : rowOk cfg0 M1 3000 78 r1034 = true := by kernel_rfl
def r1035 : List AV × AV := ([.ro [.int .i64 67] 1, .ro [.int .i64 46] 1], .tuple [.ro [.int .i64 1] 1, .ro [.int .i64 21] 1])
theorem r1035_ok : rowOk cfg0 M1 3000 78 r1035 = true := by kernel_rfl
def r1036 : List AV × AV := ([.ro [.int .i64 46] 1, .ro [.int .i64 21] 1], .tuple [.ro [.int .i64 2] 1, .ro [.int .i64 4] 1])
theorem r1036_ok : rowOk cfg0 M1 3000 78 r1036 = true := by kernel_rfl
def r1037 : List AV × AV := ([.ro [.int .i64 21] 1, .ro [.int .i64 4] 1], .tuple [.ro [.int .i64 5] 1, .ro [.int .i64 1] 1])
theorem r1037_ok : rowOk cfg0 M1 3000 78 r1037 = true := by kernel_rfl
def r1038 : List AV × AV := ([.ro [.int .i64 5967, .int .i64 4] 2, .ro [.int .i64 1] 1], .tuple [.ro [.int .i64 5967, .int .i64 4] 2, .e0])
theorem r1038_ok : rowOk cfg0 M1 3000 78 r1038 = true := by kernel_rfl
def r1039 : List AV × AV := ([.ro [.int .i64 180] 1, .ro [.int .i64 1] 1], .tuple [.ro [.int .i64 180] 1, .e0])
theorem r1039_ok : rowOk cfg0 M1 3000 78 r1039 = true := by kernel_rfl
def r1040 : List AV × AV := ([.str [115, 112, 101, 101, 100]], .tuple [.ro [.str [115, 112, 101, 101, 100]] 1, .int .i64 0])
theorem r1040_ok : rowOk cfg0 M1 3000 220 r1040 = true := by kernel_rfl
def r1041 : List AV × AV := ([.str [109, 101, 116, 101, 114, 45, 112, 101, 114, 45, 115, 101, 99, 111, 110, 100]], .tuple [.ro [.str [109, 101, 116, 101, 114], .str [112, 101, 114], .str [115, 101, 99, 111, 110, 100]] 3, .int .i64 0])
theorem r1041_ok : rowOk cfg0 M1 3000 220 r1041 = true := by kernel_rfl
def r1042 : List AV × AV := ([.agg [.int .i64 0, .int .i64 1, .int .i64 0, .int .i64 0, .int .i64 0, .int .i64 0, .int .i64 0, .int .i64 0], .int .i64 (-1)], .tuple [.agg [.int .i64 0, .int .i64 (-1), .int .i64 0, .int .i64 0, .int .i64 0, .int .i64 0, .int .i64 0, .int .i64 0], .bool true])
theorem r1042_ok : rowOk cfg0 M1 3000 80 r1042 = true := by kernel_rfl
def r1043 : List AV × AV := ([.agg [.int .i64 1, .int .i64 0, .int .i64 0, .int .i64 0, .int .i64 0, .int .i64 0, .int .i64 0, .int .i64 0], .agg [.int .i64 0, .int .i64 (-1), .int .i64 0, .int .i64 0, .int .i64 0, .int .i64 0, .int .i64 0, .int .i64 0]], .tuple [.agg [.int .i64 1, .int .i64 (-1), .int .i64 0, .int .i64 0, .int .i64 0, .int .i64 0, .int .i64 0, .int .i64 0], .bool true])
theorem r1043_ok : rowOk cfg0 M1 3000 227 r1043 = true := by kernel_rfl
def r1044 : List AV × AV := ([.str [97, 114, 101, 97]], .tuple [.ro [.str [97, 114, 101, 97]] 1, .int .i64 0])
theorem r1044_ok : rowOk cfg0 M1 3000 220 r1044 = true := by kernel_rfl
def r1045 : List AV × AV := ([.str [115, 113, 117, 97, 114, 101, 45, 109, 101, 116, 101, 114]], .tuple [.ro [.str [115, 113, 117, 97, 114, 101], .str [109, 101, 116, 101, 114]] 2, .int .i64 0])
theorem r1045_ok : rowOk cfg0 M1 3000 220 r1045 = true := by kernel_rfl
def r1046 : List AV × AV := ([.agg [.int .i64 1, .int .i64 0, .int .i64 0, .int .i64 0, .int .i64 0, .int .i64 0, .int .i64 0, .int .i64 0], .int .i64 2], .tuple [.agg [.int .i64 2, .int .i64 0, .int .i64 0, .int .i64 0, .int .i64 0, .int .i64 0, .int .i64 0, .int .i64 0], .bool true])
theorem r1046_ok : rowOk cfg0 M1 3000 80 r1046 = true := by kernel_rfl
def r1047 : List AV × AV := ([.agg [.int .i64 0, .int .i64 0, .int .i64 0, .int .i64 0, .int .i64 0, .int .i64 0, .int .i64 0, .int .i64 0], .agg [.int .i64 2, .int .i64 0, .int .i64 0, .int .i64 0, .int .i64 0, .int .i64 0, .int .i64 0, .int .i64 0]], .tuple [.agg [.int .i64 2, .int .i64 0, .int .i64 0, .int .i64 0, .int .i64 0, .int .i64 0, .int .i64 0, .int .i64 0], .bool true])
theorem r1047_ok : rowOk cfg0 M1 3000 227 r1047 = true := by kernel_rfl
def r1048 : List AV × AV := ([.str [107, 105, 108, 111, 109, 101, 116, 101, 114, 45, 112, 101, 114, 45, 115, 101, 99, 111, 110, 100]], .tuple [.ro [.str [107, 105, 108, 111, 109, 101, 116, 101, 114], .str [112, 101, 114], .str [115, 101, 99, 111, 110, 100]] 3, .int .i64 0])
theorem r1048_ok : rowOk cfg0 M1 3000 220 r1048 = true := by kernel_rfl
def r1049 : List AV × AV := ([.int .i64 12], .agg [.bool false, .ro [.int .u32 12] 1, .ro [.int .u32 1] 1])
theorem r1049_ok : rowOk cfg0 M1 3000 20 r1049 = true := by kernel_rfl
def r1050 : List AV × AV := ([.agg [.ro [.int .u32 127] 1], .agg [.ro [.int .u32 5000] 1]], .agg [.ro [.int .u32 1] 1])
theorem r1050_ok : rowOk cfg0 M1 3000 55 r1050 = true := by kernel_rfl
def r1051 : List AV × AV := ([.agg [.bool false, .ro [.int .u32 1] 1], .agg [.bool false, .ro [.int .u32 127] 1]], .agg [.bool false, .ro [.int .u32 127] 1])
theorem r1051_ok : rowOk cfg0 M1 3000 59 r1051 = true := by kernel_rfl
def r1052 : List AV × AV := ([.agg [.bool false, .ro [.int .u32 127] 1], .agg [.bool false, .ro [.int .u32 1] 1]], .agg [.bool false, .ro [.int .u32 127] 1])
theorem r1052_ok : rowOk cfg0 M1 3000 59 r1052 = true := by kernel_rfl
def r1053 : List AV × AV := ([.agg [.bool false, .ro [.int .u32 12] 1], .agg [.ro [.int .u32 1] 1]], .tuple [.agg [.bool false, .ro [.int .u32 12] 1, .ro [.int .u32 1] 1], .bool true])
theorem r1053_ok : rowOk cfg0 M1 3000 30 r1053 = true := by kernel_rfl
def r1054 : List AV × AV := ([.agg [.bool false, .ro [.int .u32 12] 1], .agg [.bool false, .ro [.int .u32 127] 1]], .agg [.bool false, .ro [.int .u32 1524] 1])
theorem r1054_ok : rowOk cfg0 M1 3000 59 r1054 = true := by kernel_rfl
def r1055 : List AV × AV := ([.agg [.ro [.int .u32 1524] 1], .agg [.ro [.int .u32 5000] 1]], .agg [.ro [.int .u32 4] 1])
theorem r1055_ok : rowOk cfg0 M1 3000 55 r1055 = true := by kernel_rfl
def r1056 : List AV × AV := ([.agg [.bool false, .e0], .agg [.ro [.int .u32 1] 1]], .tuple [.agg [.bool false, .nilsl, .ro [.int .u32 1] 1], .bool true])
theorem r1056_ok : rowOk cfg0 M1 3000 30 r1056 = true := by kernel_rfl
def r1057 : List AV × AV := ([.agg [.ro [.int .u32 1250] 1], .agg [.ro [.int .u32 381] 1]], .agg [.ro [.int .u32 1] 1])
theorem r1057_ok : rowOk cfg0 M1 3000 55 r1057 = true := by kernel_rfl
def r1058 : List AV × AV := ([.agg [.bool false, .ro [.int .u32 381] 1], .agg [.bool false, .ro [.int .u32 1250] 1]], .agg [.bool false, .ro [.int .u32 476250] 1])
theorem r1058_ok : rowOk cfg0 M1 3000 59 r1058 = true := by kernel_rfl
def r1059 : List AV × AV := ([.agg [.bool false, .ro [.int .u32 476250] 1], .agg [.ro [.int .u32 476250] 1]], .tuple [.agg [.bool false, .ro [.int .u32 1] 1, .ro [.int .u32 1] 1], .bool true])
theorem r1059_ok : rowOk cfg0 M1 3000 30 r1059 = true := by kernel_rfl
def r1060 : List AV × AV := ([.int .i64 5], .agg [.bool false, .ro [.int .u32 5] 1, .ro [.int .u32 1] 1])
theorem r1060_ok : rowOk cfg0 M1 3000 20 r1060 = true := by kernel_rfl
def r1061 : List AV × AV := ([.agg [.bool false, .ro [.int .u32 5] 1], .agg [.ro [.int .u32 1] 1]], .tuple [.agg [.bool false, .ro [.int .u32 5] 1, .ro [.int .u32 1] 1], .bool true])
theorem r1061_ok : rowOk cfg0 M1 3000 30 r1061 = true := by kernel_rfl
def r1062 : List AV × AV := ([.agg [.bool false, .ro [.int .u32 5] 1], .agg [.bool false, .ro [.int .u32 381] 1]], .agg [.bool false, .ro [.int .u32 1905] 1])
theorem r1062_ok : rowOk cfg0 M1 3000 59 r1062 = true := by kernel_rfl
def r1063 : List AV × AV := ([.agg [.ro [.int .u32 1905] 1], .agg [.ro [.int .u32 1250] 1]], .agg [.ro [.int .u32 5] 1])
theorem r1063_ok : rowOk cfg0 M1 3000 55 r1063 = true := by kernel_rfl
def r1064 : List AV × AV := ([.agg [.ro [.int .u32 381] 1], .agg [.ro [.int .u32 250] 1]], .agg [.ro [.int .u32 1] 1])
theorem r1064_ok : rowOk cfg0 M1 3000 55 r1064 = true := by kernel_rfl
def r1065 : List AV × AV := ([.agg [.ro [.int .u32 5000] 1], .agg [.ro [.int .u32 127] 1]], .agg [.ro [.int .u32 1] 1])
theorem r1065_ok : rowOk cfg0 M1 3000 55 r1065 = true := by kernel_rfl
def r1066 : List AV × AV := ([.agg [.bool false, .ro [.int .u32 381] 1], .agg [.bool false, .ro [.int .u32 5000] 1]], .agg [.bool false, .ro [.int .u32 1905000] 1])
theorem r1066_ok : rowOk cfg0 M1 3000 59 r1066 = true := by kernel_rfl
def r1067 : List AV × AV := ([.agg [.bool false, .ro [.int .u32 1905000] 1], .agg [.ro [.int .u32 31750] 1]], .tuple [.agg [.bool false, .ro [.int .u32 60] 1, .ro [.int .u32 1] 1], .bool true])
theorem r1067_ok : rowOk cfg0 M1 3000 30 r1067 = true := by kernel_rfl
def r1068 : List AV × AV := ([.agg [.bool false, .ro [.int .u32 1905000] 1], .agg [.ro [.int .u32 158750] 1]], .tuple [.agg [.bool false, .ro [.int .u32 12] 1, .ro [.int .u32 1] 1], .bool true])
theorem r1068_ok : rowOk cfg0 M1 3000 30 r1068 = true := by kernel_rfl
def r1069 : List AV × AV := ([.agg [.bool false, .ro [.int .u32 12] 1], .agg [.bool false, .ro [.int .u32 1] 1]], .agg [.bool false, .ro [.int .u32 12] 1])
theorem r1069_ok : rowOk cfg0 M1 3000 59 r1069 = true := by kernel_rfl
def r1070 : List AV × AV := ([.agg [.bool false, .ro [.int .u32 72] 1], .agg [.ro [.int .u32 1] 1]], .tuple [.agg [.bool false, .ro [.int .u32 72] 1, .ro [.int .u32 1] 1], .bool true])
theorem r1070_ok : rowOk cfg0 M1 3000 30 r1070 = true := by kernel_rfl
def r1071 : List AV × AV := ([.int .i64 2], .agg [.bool false, .ro [.int .u32 2] 1, .ro [.int .u32 1] 1])
theorem r1071_ok : rowOk cfg0 M1 3000 20 r1071 = true := by kernel_rfl
def r1072 : List AV × AV := ([.int .i64 7], .agg [.bool false, .ro [.int .u32 7] 1, .ro [.int .u32 1] 1])
theorem r1072_ok : rowOk cfg0 M1 3000 20 r1072 = true := by kernel_rfl
def r1073 : List AV × AV := ([.int .i64 3], .agg [.bool false, .ro [.int .u32 3] 1, .ro [.int .u32 1] 1])
theorem r1073_ok : rowOk cfg0 M1 3000 20 r1073 = true := by kernel_rfl
def r1074 : List AV × AV := ([.agg [.bool false, .ro [.int .u32 2] 1], .agg [.ro [.int .u32 1] 1]], .tuple [.agg [.bool false, .ro [.int .u32 2] 1, .ro [.int .u32 1] 1], .bool true])
theorem r1074_ok : rowOk cfg0 M1 3000 30 r1074 = true := by kernel_rfl
def r1075 : List AV × AV := ([.agg [.bool false, .ro [.int .u32 3] 1], .agg [.bool false, .ro [.int .u32 2] 1]], .agg [.bool false, .ro [.int .u32 6] 1])
theorem r1075_ok : rowOk cfg0 M1 3000 59 r1075 = true := by kernel_rfl
end Go.Am.convKnown
