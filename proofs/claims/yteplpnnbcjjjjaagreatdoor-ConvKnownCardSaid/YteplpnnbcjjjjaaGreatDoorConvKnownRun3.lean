/- ConvKnown: calls on its road whose answers are kept, each run by the kernel over those ahead of it (part 3). Written by wip/gen/memo2lean.py. -/
import Derived.Test.YteplpnnbcjjjjaaGreatDoorConvKnownRun2
import Derived.Test.YteplpnnbcjjjjaaGreatDoorAmCfgA
import Derived.Test.YteplpnnbcjjjjaaGreatDoorAmMemo
import Derived.KernelRfl
namespace Go.Am.convKnown
set_option maxRecDepth 100000
open Go.Am
def r1076 : List AV × AV := ([.agg [.bool false, .ro [.int .u32 6] 1], .agg [.ro [.int .u32 1] 1]], .tuple [.agg [.bool false, .ro [.int .u32 6] 1, .ro [.int .u32 1] 1], .bool true])
theorem r1076_ok : rowOk cfg0 M1 3000 30 r1076 = true := by kernel_rfl
def r1077 : List AV × AV := ([.agg [.bool false, .ro [.int .u32 6] 1], .agg [.bool false, .ro [.int .u32 1] 1]], .agg [.bool false, .ro [.int .u32 6] 1])
theorem r1077_ok : rowOk cfg0 M1 3000 59 r1077 = true := by kernel_rfl
def r1078 : List AV × AV := ([.agg [.int .i64 (-1), .int .i64 0, .int .i64 0, .int .i64 0, .int .i64 0, .int .i64 0, .int .i64 0, .int .i64 0], .int .i64 (-1)], .tuple [.agg [.int .i64 1, .int .i64 0, .int .i64 0, .int .i64 0, .int .i64 0, .int .i64 0, .int .i64 0, .int .i64 0], .bool true])
theorem r1078_ok : rowOk cfg0 M1 3000 72 r1078 = true := by kernel_rfl
def r1079 : List AV × AV := ([.agg [.int .i64 1, .int .i64 0, .int .i64 0, .int .i64 0, .int .i64 0, .int .i64 0, .int .i64 0, .int .i64 0], .int .i64 (-1)], .tuple [.agg [.int .i64 (-1), .int .i64 0, .int .i64 0, .int .i64 0, .int .i64 0, .int .i64 0, .int .i64 0, .int .i64 0], .bool true])
theorem r1079_ok : rowOk cfg0 M1 3000 72 r1079 = true := by kernel_rfl
def r1080 : List AV × AV := ([.agg [.bool false, .ro [.int .u32 2] 1], .agg [.bool false, .ro [.int .u32 1] 1]], .agg [.bool false, .ro [.int .u32 2] 1])
theorem r1080_ok : rowOk cfg0 M1 3000 59 r1080 = true := by kernel_rfl
def r1081 : List AV × AV := ([.agg [.bool false, .nilsl], .agg [.ro [.int .u32 1] 1]], .tuple [.agg [.bool false, .nilsl, .ro [.int .u32 1] 1], .bool true])
theorem r1081_ok : rowOk cfg0 M1 3000 30 r1081 = true := by kernel_rfl
def r1082 : List AV × AV := ([.agg [.int .i64 2, .int .i64 0, .int .i64 0, .int .i64 0, .int .i64 0, .int .i64 0, .int .i64 0, .int .i64 0], .int .i64 (-1)], .tuple [.agg [.int .i64 (-2), .int .i64 0, .int .i64 0, .int .i64 0, .int .i64 0, .int .i64 0, .int .i64 0, .int .i64 0], .bool true])
theorem r1082_ok : rowOk cfg0 M1 3000 72 r1082 = true := by kernel_rfl
def r1083 : List AV × AV := ([.int .i64 100], .agg [.bool false, .ro [.int .u32 100] 1, .ro [.int .u32 1] 1])
theorem r1083_ok : rowOk cfg0 M1 3000 20 r1083 = true := by kernel_rfl
def r1084 : List AV × AV := ([.agg [.bool false, .ro [.int .u32 1] 1], .agg [.bool false, .ro [.int .u32 5] 1]], .agg [.bool false, .ro [.int .u32 5] 1])
theorem r1084_ok : rowOk cfg0 M1 3000 59 r1084 = true := by kernel_rfl
def r1085 : List AV × AV := ([.agg [.bool false, .ro [.int .u32 100] 1], .agg [.ro [.int .u32 1] 1]], .tuple [.agg [.bool false, .ro [.int .u32 100] 1, .ro [.int .u32 1] 1], .bool true])
theorem r1085_ok : rowOk cfg0 M1 3000 30 r1085 = true := by kernel_rfl
def r1086 : List AV × AV := ([.agg [.bool false, .ro [.int .u32 100] 1], .agg [.bool false, .ro [.int .u32 1] 1]], .agg [.bool false, .ro [.int .u32 100] 1])
theorem r1086_ok : rowOk cfg0 M1 3000 59 r1086 = true := by kernel_rfl
def r1087 : List AV × AV := ([.agg [.ro [.int .u32 5463] 1], .agg [.ro [.int .u32 20] 1]], .agg [.ro [.int .u32 1] 1])
theorem r1087_ok : rowOk cfg0 M1 3000 55 r1087 = true := by kernel_rfl
def r1088 : List AV × AV := ([.agg [.bool false, .ro [.int .u32 100] 1], .agg [.bool false, .ro [.int .u32 20] 1]], .agg [.bool false, .ro [.int .u32 2000] 1])
theorem r1088_ok : rowOk cfg0 M1 3000 59 r1088 = true := by kernel_rfl
def r1089 : List AV × AV := ([.agg [.bool false, .ro [.int .u32 5463] 1], .agg [.bool false, .ro [.int .u32 1] 1]], .agg [.bool false, .ro [.int .u32 5463] 1])
theorem r1089_ok : rowOk cfg0 M1 3000 59 r1089 = true := by kernel_rfl
def r1090 : List AV × AV := ([.agg [.ro [.int .u32 7463] 1], .agg [.ro [.int .u32 20] 1]], .agg [.ro [.int .u32 1] 1])
theorem r1090_ok : rowOk cfg0 M1 3000 55 r1090 = true := by kernel_rfl
def r1091 : List AV × AV := ([.agg [.bool false, .ro [.int .u32 7463] 1], .agg [.bool false, .ro [.int .u32 180] 1]], .agg [.bool false, .ro [.int .u32 1343340] 1])
theorem r1091_ok : rowOk cfg0 M1 3000 59 r1091 = true := by kernel_rfl
def r1092 : List AV × AV := ([.agg [.bool true, .ro [.int .u32 45967] 1], .agg [.bool false, .ro [.int .u32 20] 1]], .agg [.bool true, .ro [.int .u32 919340] 1])
theorem r1092_ok : rowOk cfg0 M1 3000 59 r1092 = true := by kernel_rfl
def r1093 : List AV × AV := ([.agg [.ro [.int .u32 424000] 1], .agg [.ro [.int .u32 3600] 1]], .agg [.ro [.int .u32 400] 1])
theorem r1093_ok : rowOk cfg0 M1 3000 55 r1093 = true := by kernel_rfl
def r1094 : List AV × AV := ([.agg [.ro [.int .u32 9] 1], .agg [.ro [.int .u32 5] 1]], .agg [.ro [.int .u32 1] 1])
theorem r1094_ok : rowOk cfg0 M1 3000 55 r1094 = true := by kernel_rfl
def r1095 : List AV × AV := ([.agg [.ro [.int .u32 1060] 1], .agg [.ro [.int .u32 9] 1]], .agg [.ro [.int .u32 1] 1])
theorem r1095_ok : rowOk cfg0 M1 3000 55 r1095 = true := by kernel_rfl
def r1096 : List AV × AV := ([.agg [.bool false, .ro [.int .u32 1060] 1], .agg [.bool false, .ro [.int .u32 9] 1]], .agg [.bool false, .ro [.int .u32 9540] 1])
theorem r1096_ok : rowOk cfg0 M1 3000 59 r1096 = true := by kernel_rfl
def r1097 : List AV × AV := ([.agg [.bool false, .ro [.int .u32 9540] 1], .agg [.ro [.int .u32 45] 1]], .tuple [.agg [.bool false, .ro [.int .u32 212] 1, .ro [.int .u32 1] 1], .bool true])
theorem r1097_ok : rowOk cfg0 M1 3000 30 r1097 = true := by kernel_rfl
def r1098 : List AV × AV := ([.agg [.bool false, .ro [.int .u32 212] 1], .agg [.ro [.int .u32 1] 1]], .tuple [.agg [.bool false, .ro [.int .u32 212] 1, .ro [.int .u32 1] 1], .bool true])
theorem r1098_ok : rowOk cfg0 M1 3000 30 r1098 = true := by kernel_rfl
def r1099 : List AV × AV := ([.int .i64 32], .agg [.bool false, .ro [.int .u32 32] 1, .ro [.int .u32 1] 1])
theorem r1099_ok : rowOk cfg0 M1 3000 20 r1099 = true := by kernel_rfl
def r1100 : List AV × AV := ([.agg [.bool false, .ro [.int .u32 32] 1], .agg [.ro [.int .u32 1] 1]], .tuple [.agg [.bool false, .ro [.int .u32 32] 1, .ro [.int .u32 1] 1], .bool true])
theorem r1100_ok : rowOk cfg0 M1 3000 30 r1100 = true := by kernel_rfl
def r1101 : List AV × AV := ([.agg [.bool false, .ro [.int .u32 32] 1], .agg [.bool false, .ro [.int .u32 5] 1]], .agg [.bool false, .ro [.int .u32 160] 1])
theorem r1101_ok : rowOk cfg0 M1 3000 59 r1101 = true := by kernel_rfl
def r1102 : List AV × AV := ([.agg [.ro [.int .u32 160] 1], .agg [.ro [.int .u32 9] 1]], .agg [.ro [.int .u32 1] 1])
theorem r1102_ok : rowOk cfg0 M1 3000 55 r1102 = true := by kernel_rfl
def r1103 : List AV × AV := ([.agg [.bool false, .ro [.int .u32 160] 1], .agg [.bool false, .ro [.int .u32 180] 1]], .agg [.bool false, .ro [.int .u32 28800] 1])
theorem r1103_ok : rowOk cfg0 M1 3000 59 r1103 = true := by kernel_rfl
def r1104 : List AV × AV := ([.agg [.bool false, .ro [.int .u32 45967] 1], .agg [.bool false, .ro [.int .u32 9] 1]], .agg [.bool false, .ro [.int .u32 413703] 1])
theorem r1104_ok : rowOk cfg0 M1 3000 59 r1104 = true := by kernel_rfl
def r1105 : List AV × AV := ([.agg [.ro [.int .u32 442503] 1], .agg [.ro [.int .u32 1620] 1]], .agg [.ro [.int .u32 81] 1])
theorem r1105_ok : rowOk cfg0 M1 3000 55 r1105 = true := by kernel_rfl
def r1106 : List AV × AV := ([.agg [.bool false, .ro [.int .u32 5463] 1], .agg [.bool false, .ro [.int .u32 20] 1]], .agg [.bool false, .ro [.int .u32 109260] 1])
theorem r1106_ok : rowOk cfg0 M1 3000 59 r1106 = true := by kernel_rfl
def r1107 : List AV × AV := ([.agg [.bool true, .ro [.int .u32 5463] 1], .agg [.bool false, .ro [.int .u32 20] 1]], .agg [.bool true, .ro [.int .u32 109260] 1])
theorem r1107_ok : rowOk cfg0 M1 3000 59 r1107 = true := by kernel_rfl
def r1108 : List AV × AV := ([.agg [.bool false, .ro [.int .u32 109260] 1], .agg [.bool true, .ro [.int .u32 109260] 1]], .agg [.bool false, .e0])
theorem r1108_ok : rowOk cfg0 M1 3000 81 r1108 = true := by kernel_rfl
def r1109 : List AV × AV := ([.agg [.bool false, .e0], .agg [.ro [.int .u32 400] 1]], .tuple [.agg [.bool false, .nilsl, .ro [.int .u32 1] 1], .bool true])
theorem r1109_ok : rowOk cfg0 M1 3000 30 r1109 = true := by kernel_rfl
def r1110 : List AV × AV := ([.agg [.ro [.int .u32 5463] 1]], .str [53, 52, 54, 51])
theorem r1110_ok : rowOk cfg0 M1 3000 71 r1110 = true := by kernel_rfl
def r1111 : List AV × AV := ([.agg [.int .i64 0, .int .i64 1, .int .i64 0, .int .i64 0, .int .i64 0, .int .i64 0, .int .i64 0, .int .i64 0], .agg [.int .i64 (-1), .int .i64 0, .int .i64 0, .int .i64 0, .int .i64 0, .int .i64 0, .int .i64 0, .int .i64 0]], .tuple [.agg [.int .i64 (-1), .int .i64 1, .int .i64 0, .int .i64 0, .int .i64 0, .int .i64 0, .int .i64 0, .int .i64 0], .bool true])
theorem r1111_ok : rowOk cfg0 M1 3000 160 r1111 = true := by kernel_rfl
def r1112 : List AV × AV := ([.agg [.int .i64 (-1), .int .i64 1, .int .i64 0, .int .i64 0, .int .i64 0, .int .i64 0, .int .i64 0, .int .i64 0], .int .i64 (-1)], .tuple [.agg [.int .i64 1, .int .i64 (-1), .int .i64 0, .int .i64 0, .int .i64 0, .int .i64 0, .int .i64 0, .int .i64 0], .bool true])
theorem r1112_ok : rowOk cfg0 M1 3000 72 r1112 = true := by kernel_rfl
def r1113 : List AV × AV := ([.agg [.int .i64 1, .int .i64 (-1), .int .i64 0, .int .i64 0, .int .i64 0, .int .i64 0, .int .i64 0, .int .i64 0], .int .i64 (-1)], .tuple [.agg [.int .i64 (-1), .int .i64 1, .int .i64 0, .int .i64 0, .int .i64 0, .int .i64 0, .int .i64 0, .int .i64 0], .bool true])
theorem r1113_ok : rowOk cfg0 M1 3000 72 r1113 = true := by kernel_rfl
def r1114 : List AV × AV := ([.agg [.ro [.int .u32 1] 1], .agg [.ro [.int .u32 5] 1]], .agg [.ro [.int .u32 1] 1])
theorem r1114_ok : rowOk cfg0 M1 3000 55 r1114 = true := by kernel_rfl
def r1115 : List AV × AV := ([.agg [.bool false, .ro [.int .u32 1000] 1], .agg [.ro [.int .u32 1] 1]], .tuple [.agg [.bool false, .ro [.int .u32 1000] 1, .ro [.int .u32 1] 1], .bool true])
theorem r1115_ok : rowOk cfg0 M1 3000 30 r1115 = true := by kernel_rfl
def r1116 : List AV × AV := ([.agg [.bool false, .ro [.int .u32 1] 1], .agg [.bool false, .ro [.int .u32 1000] 1]], .agg [.bool false, .ro [.int .u32 1000] 1])
theorem r1116_ok : rowOk cfg0 M1 3000 59 r1116 = true := by kernel_rfl
def r1117 : List AV × AV := ([.agg [.bool false, .ro [.int .u32 1000] 1], .agg [.bool false, .ro [.int .u32 1] 1]], .agg [.bool false, .ro [.int .u32 1000] 1])
theorem r1117_ok : rowOk cfg0 M1 3000 59 r1117 = true := by kernel_rfl
def r1118 : List AV × AV := ([.agg [.ro [.int .u32 1000] 1]], .str [49, 48, 48, 48])
theorem r1118_ok : rowOk cfg0 M1 3000 71 r1118 = true := by kernel_rfl
def t1 : Tr (List (List AV × AV)) := (.nd (.nd (.nd (.nd (.nd .lf 20 [r903, r910, r1049, r1060, r1071, r1072, r1073, r1083, r1099] .lf) 30 [r911, r923, r935, r941, r1053, r1056, r1059, r1061, r1067, r1068, r1070, r1074, r1076, r1081, r1085, r1097, r1098, r1100, r1109, r1115] .lf) 55 [r913, r914, r916, r920, r930, r932, r937, r948, r954, r957, r1050, r1055, r1057, r1063, r1064, r1065, r1087, r1090, r1093, r1094, r1095, r1102, r1105, r1114] (.nd .lf 59 [r915, r924, r931, r936, r944, r958, r1051, r1052, r1054, r1058, r1062, r1066, r1069, r1075, r1077, r1080, r1084, r1086, r1088, r1089, r1091, r1092, r1096, r1101, r1103, r1104, r1106, r1107, r1116, r1117] .lf)) 61 [r899] (.nd (.nd (.nd .lf 62 [r900] .lf) 71 [r925, r926, r933, r938, r1110, r1118] .lf) 72 [r921, r942, r949, r960, r963, r1078, r1079, r1082, r1112, r1113] (.nd .lf 78 [r970, r971, r972, r973, r975, r976, r977, r978, r979, r980, r981, r982, r983, r984, r985, r986, r987, r988, r989, r990, r994, r995, r997, r998, r999, r1000, r1001, r1002, r1003, r1004, r1005, r1006, r1007, r1008, r1009, r1010, r1011, r1012, r1013, r1014, r1019, r1021, r1022, r1023, r1024, r1025, r1026, r1029, r1030, r1031, r1032, r1033, r1034, r1035, r1036, r1037, r1038, r1039] .lf))) 80 [r992, r1017, r1027, r1042, r1046] (.nd (.nd (.nd (.nd .lf 81 [r1108] .lf) 133 [r902, r905, r907, r959, r962] .lf) 156 [r909, r918, r919, r928, r929, r940, r946, r947, r952, r953, r955, r956] (.nd .lf 160 [r922, r943, r950, r961, r964, r1111] .lf)) 186 [r969, r974] (.nd (.nd (.nd .lf 188 [r1015] .lf) 217 [r901, r904, r906, r908, r912, r917, r927, r934, r939, r945, r951, r965] .lf) 220 [r966, r967, r968, r991, r996, r1016, r1020, r1040, r1041, r1044, r1045, r1048] (.nd .lf 227 [r993, r1018, r1028, r1043, r1047] .lf))))
theorem t1_ok : MemoOk cfg0 (tabM t1) := tabM_ok (t := t1) ⟨⟨⟨⟨⟨trivial, (lcons (rowOk_did M1_ok r903_ok) (lcons (rowOk_did M1_ok r910_ok) (lcons (rowOk_did M1_ok r1049_ok) (lcons (rowOk_did M1_ok r1060_ok) (lcons (rowOk_did M1_ok r1071_ok) (lcons (rowOk_did M1_ok r1072_ok) (lcons (rowOk_did M1_ok r1073_ok) (lcons (rowOk_did M1_ok r1083_ok) (lcons (rowOk_did M1_ok r1099_ok) lnil))))))))), trivial⟩, (lcons (rowOk_did M1_ok r911_ok) (lcons (rowOk_did M1_ok r923_ok) (lcons (rowOk_did M1_ok r935_ok) (lcons (rowOk_did M1_ok r941_ok) (lcons (rowOk_did M1_ok r1053_ok) (lcons (rowOk_did M1_ok r1056_ok) (lcons (rowOk_did M1_ok r1059_ok) (lcons (rowOk_did M1_ok r1061_ok) (lcons (rowOk_did M1_ok r1067_ok) (lcons (rowOk_did M1_ok r1068_ok) (lcons (rowOk_did M1_ok r1070_ok) (lcons (rowOk_did M1_ok r1074_ok) (lcons (rowOk_did M1_ok r1076_ok) (lcons (rowOk_did M1_ok r1081_ok) (lcons (rowOk_did M1_ok r1085_ok) (lcons (rowOk_did M1_ok r1097_ok) (lcons (rowOk_did M1_ok r1098_ok) (lcons (rowOk_did M1_ok r1100_ok) (lcons (rowOk_did M1_ok r1109_ok) (lcons (rowOk_did M1_ok r1115_ok) lnil)))))))))))))))))))), trivial⟩, (lcons (rowOk_did M1_ok r913_ok) (lcons (rowOk_did M1_ok r914_ok) (lcons (rowOk_did M1_ok r916_ok) (lcons (rowOk_did M1_ok r920_ok) (lcons (rowOk_did M1_ok r930_ok) (lcons (rowOk_did M1_ok r932_ok) (lcons (rowOk_did M1_ok r937_ok) (lcons (rowOk_did M1_ok r948_ok) (lcons (rowOk_did M1_ok r954_ok) (lcons (rowOk_did M1_ok r957_ok) (lcons (rowOk_did M1_ok r1050_ok) (lcons (rowOk_did M1_ok r1055_ok) (lcons (rowOk_did M1_ok r1057_ok) (lcons (rowOk_did M1_ok r1063_ok) (lcons (rowOk_did M1_ok r1064_ok) (lcons (rowOk_did M1_ok r1065_ok) (lcons (rowOk_did M1_ok r1087_ok) (lcons (rowOk_did M1_ok r1090_ok) (lcons (rowOk_did M1_ok r1093_ok) (lcons (rowOk_did M1_ok r1094_ok) (lcons (rowOk_did M1_ok r1095_ok) (lcons (rowOk_did M1_ok r1102_ok) (lcons (rowOk_did M1_ok r1105_ok) (lcons (rowOk_did M1_ok r1114_ok) lnil)))))))))))))))))))))))), ⟨trivial, (lcons (rowOk_did M1_ok r915_ok) (lcons (rowOk_did M1_ok r924_ok) (lcons (rowOk_did M1_ok r931_ok) (lcons (rowOk_did M1_ok r936_ok) (lcons (rowOk_did M1_ok r944_ok) (lcons (rowOk_did M1_ok r958_ok) (lcons (rowOk_did M1_ok r1051_ok) (lcons (rowOk_did M1_ok r1052_ok) (lcons (rowOk_did M1_ok r1054_ok) (lcons (rowOk_did M1_ok r1058_ok) (lcons (rowOk_did M1_ok r1062_ok) (lcons (rowOk_did M1_ok r1066_ok) (lcons (rowOk_did M1_ok r1069_ok) (lcons (rowOk_did M1_ok r1075_ok) (lcons (rowOk_did M1_ok r1077_ok) (lcons (rowOk_did M1_ok r1080_ok) (lcons (rowOk_did M1_ok r1084_ok) (lcons (rowOk_did M1_ok r1086_ok) (lcons (rowOk_did M1_ok r1088_ok) (lcons (rowOk_did M1_ok r1089_ok) (lcons (rowOk_did M1_ok r1091_ok) (lcons (rowOk_did M1_ok r1092_ok) (lcons (rowOk_did M1_ok r1096_ok) (lcons (rowOk_did M1_ok r1101_ok) (lcons (rowOk_did M1_ok r1103_ok) (lcons (rowOk_did M1_ok r1104_ok) (lcons (rowOk_did M1_ok r1106_ok) (lcons (rowOk_did M1_ok r1107_ok) (lcons (rowOk_did M1_ok r1116_ok) (lcons (rowOk_did M1_ok r1117_ok) lnil)))))))))))))))))))))))))))))), trivial⟩⟩, (lcons (rowOk_did M1_ok r899_ok) lnil), ⟨⟨⟨trivial, (lcons (rowOk_did M1_ok r900_ok) lnil), trivial⟩, (lcons (rowOk_did M1_ok r925_ok) (lcons (rowOk_did M1_ok r926_ok) (lcons (rowOk_did M1_ok r933_ok) (lcons (rowOk_did M1_ok r938_ok) (lcons (rowOk_did M1_ok r1110_ok) (lcons (rowOk_did M1_ok r1118_ok) lnil)))))), trivial⟩, (lcons (rowOk_did M1_ok r921_ok) (lcons (rowOk_did M1_ok r942_ok) (lcons (rowOk_did M1_ok r949_ok) (lcons (rowOk_did M1_ok r960_ok) (lcons (rowOk_did M1_ok r963_ok) (lcons (rowOk_did M1_ok r1078_ok) (lcons (rowOk_did M1_ok r1079_ok) (lcons (rowOk_did M1_ok r1082_ok) (lcons (rowOk_did M1_ok r1112_ok) (lcons (rowOk_did M1_ok r1113_ok) lnil)))))))))), ⟨trivial, (lcons (rowOk_did M1_ok r970_ok) (lcons (rowOk_did M1_ok r971_ok) (lcons (rowOk_did M1_ok r972_ok) (lcons (rowOk_did M1_ok r973_ok) (lcons (rowOk_did M1_ok r975_ok) (lcons (rowOk_did M1_ok r976_ok) (lcons (rowOk_did M1_ok r977_ok) (lcons (rowOk_did M1_ok r978_ok) (lcons (rowOk_did M1_ok r979_ok) (lcons (rowOk_did M1_ok r980_ok) (lcons (rowOk_did M1_ok r981_ok) (lcons (rowOk_did M1_ok r982_ok) (lcons (rowOk_did M1_ok r983_ok) (lcons (rowOk_did M1_ok r984_ok) (lcons (rowOk_did M1_ok r985_ok) (lcons (rowOk_did M1_ok r986_ok) (lcons (rowOk_did M1_ok r987_ok) (lcons (rowOk_did M1_ok r988_ok) (lcons (rowOk_did M1_ok r989_ok) (lcons (rowOk_did M1_ok r990_ok) (lcons (rowOk_did M1_ok r994_ok) (lcons (rowOk_did M1_ok r995_ok) (lcons (rowOk_did M1_ok r997_ok) (lcons (rowOk_did M1_ok r998_ok) (lcons (rowOk_did M1_ok r999_ok) (lcons (rowOk_did M1_ok r1000_ok) (lcons (rowOk_did M1_ok r1001_ok) (lcons (rowOk_did M1_ok r1002_ok) (lcons (rowOk_did M1_ok r1003_ok) (lcons (rowOk_did M1_ok r1004_ok) (lcons (rowOk_did M1_ok r1005_ok) (lcons (rowOk_did M1_ok r1006_ok) (lcons (rowOk_did M1_ok r1007_ok) (lcons (rowOk_did M1_ok r1008_ok) (lcons (rowOk_did M1_ok r1009_ok) (lcons (rowOk_did M1_ok r1010_ok) (lcons (rowOk_did M1_ok r1011_ok) (lcons (rowOk_did M1_ok r1012_ok) (lcons (rowOk_did M1_ok r1013_ok) (lcons (rowOk_did M1_ok r1014_ok) (lcons (rowOk_did M1_ok r1019_ok) (lcons (rowOk_did M1_ok r1021_ok) (lcons (rowOk_did M1_ok r1022_ok) (lcons (rowOk_did M1_ok r1023_ok) (lcons (rowOk_did M1_ok r1024_ok) (lcons (rowOk_did M1_ok r1025_ok) (lcons (rowOk_did M1_ok r1026_ok) (lcons (rowOk_did M1_ok r1029_ok) (lcons (rowOk_did M1_ok r1030_ok) (lcons (rowOk_did M1_ok r1031_ok) (lcons (rowOk_did M1_ok r1032_ok) (lcons (rowOk_did M1_ok r1033_ok) (lcons (rowOk_did M1_ok r1034_ok) (lcons (rowOk_did M1_ok r1035_ok) (lcons (rowOk_did M1_ok r1036_ok) (lcons (rowOk_did M1_ok r1037_ok) (lcons (rowOk_did M1_ok r1038_ok) (lcons (rowOk_did M1_ok r1039_ok) lnil)))))))))))))))))))))))))))))))))))))))))))))))))))))))))), trivial⟩⟩⟩, (lcons (rowOk_did M1_ok r992_ok) (lcons (rowOk_did M1_ok r1017_ok) (lcons (rowOk_did M1_ok r1027_ok) (lcons (rowOk_did M1_ok r1042_ok) (lcons (rowOk_did M1_ok r1046_ok) lnil))))), ⟨⟨⟨⟨trivial, (lcons (rowOk_did M1_ok r1108_ok) lnil), trivial⟩, (lcons (rowOk_did M1_ok r902_ok) (lcons (rowOk_did M1_ok r905_ok) (lcons (rowOk_did M1_ok r907_ok) (lcons (rowOk_did M1_ok r959_ok) (lcons (rowOk_did M1_ok r962_ok) lnil))))), trivial⟩, (lcons (rowOk_did M1_ok r909_ok) (lcons (rowOk_did M1_ok r918_ok) (lcons (rowOk_did M1_ok r919_ok) (lcons (rowOk_did M1_ok r928_ok) (lcons (rowOk_did M1_ok r929_ok) (lcons (rowOk_did M1_ok r940_ok) (lcons (rowOk_did M1_ok r946_ok) (lcons (rowOk_did M1_ok r947_ok) (lcons (rowOk_did M1_ok r952_ok) (lcons (rowOk_did M1_ok r953_ok) (lcons (rowOk_did M1_ok r955_ok) (lcons (rowOk_did M1_ok r956_ok) lnil)))))))))))), ⟨trivial, (lcons (rowOk_did M1_ok r922_ok) (lcons (rowOk_did M1_ok r943_ok) (lcons (rowOk_did M1_ok r950_ok) (lcons (rowOk_did M1_ok r961_ok) (lcons (rowOk_did M1_ok r964_ok) (lcons (rowOk_did M1_ok r1111_ok) lnil)))))), trivial⟩⟩, (lcons (rowOk_did M1_ok r969_ok) (lcons (rowOk_did M1_ok r974_ok) lnil)), ⟨⟨⟨trivial, (lcons (rowOk_did M1_ok r1015_ok) lnil), trivial⟩, (lcons (rowOk_did M1_ok r901_ok) (lcons (rowOk_did M1_ok r904_ok) (lcons (rowOk_did M1_ok r906_ok) (lcons (rowOk_did M1_ok r908_ok) (lcons (rowOk_did M1_ok r912_ok) (lcons (rowOk_did M1_ok r917_ok) (lcons (rowOk_did M1_ok r927_ok) (lcons (rowOk_did M1_ok r934_ok) (lcons (rowOk_did M1_ok r939_ok) (lcons (rowOk_did M1_ok r945_ok) (lcons (rowOk_did M1_ok r951_ok) (lcons (rowOk_did M1_ok r965_ok) lnil)))))))))))), trivial⟩, (lcons (rowOk_did M1_ok r966_ok) (lcons (rowOk_did M1_ok r967_ok) (lcons (rowOk_did M1_ok r968_ok) (lcons (rowOk_did M1_ok r991_ok) (lcons (rowOk_did M1_ok r996_ok) (lcons (rowOk_did M1_ok r1016_ok) (lcons (rowOk_did M1_ok r1020_ok) (lcons (rowOk_did M1_ok r1040_ok) (lcons (rowOk_did M1_ok r1041_ok) (lcons (rowOk_did M1_ok r1044_ok) (lcons (rowOk_did M1_ok r1045_ok) (lcons (rowOk_did M1_ok r1048_ok) lnil)))))))))))), ⟨trivial, (lcons (rowOk_did M1_ok r993_ok) (lcons (rowOk_did M1_ok r1018_ok) (lcons (rowOk_did M1_ok r1028_ok) (lcons (rowOk_did M1_ok r1043_ok) (lcons (rowOk_did M1_ok r1047_ok) lnil))))), trivial⟩⟩⟩⟩
def M2 : Memo := orM (tabM t1) M1
theorem M2_ok : MemoOk cfg0 M2 := orM_ok t1_ok M1_ok
def r1119 : List AV × AV := ([.str [51]], .tuple [.agg [.bool false, .ro [.int .u32 3] 1], .bool true])
theorem r1119_ok : rowOk cfg0 M2 3000 137 r1119 = true := by kernel_rfl
def r1120 : List AV × AV := ([.str [45, 51]], .tuple [.agg [.bool true, .ro [.int .u32 3] 1], .bool true])
theorem r1120_ok : rowOk cfg0 M2 3000 137 r1120 = true := by kernel_rfl
def r1121 : List AV × AV := ([.agg [.bool false, .ro [.int .u32 1] 1], .agg [.ro [.int .u32 10] 1]], .tuple [.agg [.bool false, .ro [.int .u32 1] 1, .ro [.int .u32 10] 1], .bool true])
theorem r1121_ok : rowOk cfg0 M2 3000 30 r1121 = true := by kernel_rfl
def r1122 : List AV × AV := ([.agg [.bool false, .ro [.int .u32 1] 1], .agg [.ro [.int .u32 100] 1]], .tuple [.agg [.bool false, .ro [.int .u32 1] 1, .ro [.int .u32 100] 1], .bool true])
theorem r1122_ok : rowOk cfg0 M2 3000 30 r1122 = true := by kernel_rfl
def r1123 : List AV × AV := ([.agg [.bool false, .ro [.int .u32 1] 1], .agg [.ro [.int .u32 1000] 1]], .tuple [.agg [.bool false, .ro [.int .u32 1] 1, .ro [.int .u32 1000] 1], .bool true])
theorem r1123_ok : rowOk cfg0 M2 3000 30 r1123 = true := by kernel_rfl
def r1124 : List AV × AV := ([.str [51, 56, 49]], .tuple [.agg [.bool false, .ro [.int .u32 381] 1], .bool true])
theorem r1124_ok : rowOk cfg0 M2 3000 137 r1124 = true := by kernel_rfl
def r1125 : List AV × AV := ([.agg [.bool false, .ro [.int .u32 381] 1], .agg [.ro [.int .u32 1250] 1]], .tuple [.agg [.bool false, .ro [.int .u32 381] 1, .ro [.int .u32 1250] 1], .bool true])
theorem r1125_ok : rowOk cfg0 M2 3000 30 r1125 = true := by kernel_rfl
def r1126 : List AV × AV := ([.agg [.bool false, .ro [.int .u32 1] 1, .ro [.int .u32 1] 1], .agg [.bool false, .ro [.int .u32 1] 1, .ro [.int .u32 1] 1]], .agg [.bool false, .ro [.int .u32 1] 1, .ro [.int .u32 1] 1])
theorem r1126_ok : rowOk cfg0 M2 3000 19 r1126 = true := by kernel_rfl
def r1127 : List AV × AV := ([.str [49]], .tuple [.agg [.bool false, .ro [.int .u32 1] 1], .bool true])
theorem r1127_ok : rowOk cfg0 M2 3000 137 r1127 = true := by kernel_rfl
def r1128 : List AV × AV := ([.agg [.bool false, .ro [.int .u32 1] 1], .agg [.ro [.int .u32 12] 1]], .tuple [.agg [.bool false, .ro [.int .u32 1] 1, .ro [.int .u32 12] 1], .bool true])
theorem r1128_ok : rowOk cfg0 M2 3000 30 r1128 = true := by kernel_rfl
def r1129 : List AV × AV := ([.agg [.bool false, .ro [.int .u32 381] 1], .agg [.ro [.int .u32 15000] 1]], .tuple [.agg [.bool false, .ro [.int .u32 127] 1, .ro [.int .u32 5000] 1], .bool true])
theorem r1129_ok : rowOk cfg0 M2 3000 30 r1129 = true := by kernel_rfl
def r1130 : List AV × AV := ([.agg [.bool false, .ro [.int .u32 3] 1, .ro [.int .u32 1] 1]], .int .i64 1)
theorem r1130_ok : rowOk cfg0 M2 3000 57 r1130 = true := by kernel_rfl
def r1131 : List AV × AV := ([.agg [.bool false, .ro [.int .u32 1143] 1], .agg [.ro [.int .u32 1250] 1]], .tuple [.agg [.bool false, .ro [.int .u32 1143] 1, .ro [.int .u32 1250] 1], .bool true])
theorem r1131_ok : rowOk cfg0 M2 3000 30 r1131 = true := by kernel_rfl
def r1132 : List AV × AV := ([.str [54, 48]], .tuple [.agg [.bool false, .ro [.int .u32 60] 1], .bool true])
theorem r1132_ok : rowOk cfg0 M2 3000 137 r1132 = true := by kernel_rfl
def r1133 : List AV × AV := ([.agg [.bool false, .ro [.int .u32 60] 1, .ro [.int .u32 1] 1]], .int .i64 1)
theorem r1133_ok : rowOk cfg0 M2 3000 57 r1133 = true := by kernel_rfl
def r1134 : List AV × AV := ([.agg [.bool false, .ro [.int .u32 60] 1, .ro [.int .u32 1] 1], .agg [.bool false, .ro [.int .u32 1] 1, .ro [.int .u32 1] 1]], .agg [.bool false, .ro [.int .u32 60] 1, .ro [.int .u32 1] 1])
theorem r1134_ok : rowOk cfg0 M2 3000 19 r1134 = true := by kernel_rfl
def r1135 : List AV × AV := ([.agg [.bool false, .ro [.int .u32 1] 1, .ro [.int .u32 1] 1]], .int .i64 1)
theorem r1135_ok : rowOk cfg0 M2 3000 57 r1135 = true := by kernel_rfl
def r1136 : List AV × AV := ([.str [50, 55, 51, 49, 53]], .tuple [.agg [.bool false, .ro [.int .u32 27315] 1], .bool true])
theorem r1136_ok : rowOk cfg0 M2 3000 137 r1136 = true := by kernel_rfl
def r1137 : List AV × AV := ([.agg [.bool false, .ro [.int .u32 27315] 1], .agg [.ro [.int .u32 100] 1]], .tuple [.agg [.bool false, .ro [.int .u32 5463] 1, .ro [.int .u32 20] 1], .bool true])
theorem r1137_ok : rowOk cfg0 M2 3000 30 r1137 = true := by kernel_rfl
def r1138 : List AV × AV := ([.str [53]], .tuple [.agg [.bool false, .ro [.int .u32 5] 1], .bool true])
theorem r1138_ok : rowOk cfg0 M2 3000 137 r1138 = true := by kernel_rfl
def r1139 : List AV × AV := ([.agg [.bool false, .ro [.int .u32 5] 1], .agg [.ro [.int .u32 9] 1]], .tuple [.agg [.bool false, .ro [.int .u32 5] 1, .ro [.int .u32 9] 1], .bool true])
theorem r1139_ok : rowOk cfg0 M2 3000 30 r1139 = true := by kernel_rfl
def r1140 : List AV × AV := ([.str [52, 53, 57, 54, 55]], .tuple [.agg [.bool false, .ro [.int .u32 45967] 1], .bool true])
theorem r1140_ok : rowOk cfg0 M2 3000 137 r1140 = true := by kernel_rfl
def r1141 : List AV × AV := ([.agg [.bool false, .ro [.int .u32 45967] 1], .agg [.ro [.int .u32 180] 1]], .tuple [.agg [.bool false, .ro [.int .u32 45967] 1, .ro [.int .u32 180] 1], .bool true])
theorem r1141_ok : rowOk cfg0 M2 3000 30 r1141 = true := by kernel_rfl
def r1142 : List AV × AV := ([.agg [.bool false, .ro [.int .i64 10] 1], .ro [.int .i64 1] 1], .agg [.bool false, .ro [.int .i64 10] 1, .ro [.int .i64 1] 1])
theorem r1142_ok : rowOk cfg0 M2 3000 33 r1142 = true := by kernel_rfl
def r1143 : List AV × AV := ([.agg [.bool false, .ro [.int .i64 100] 1], .ro [.int .i64 1] 1], .agg [.bool false, .ro [.int .i64 100] 1, .ro [.int .i64 1] 1])
theorem r1143_ok : rowOk cfg0 M2 3000 33 r1143 = true := by kernel_rfl
def r1144 : List AV × AV := ([.agg [.bool false, .ro [.int .i64 1000] 1], .ro [.int .i64 1] 1], .agg [.bool false, .ro [.int .i64 1000] 1, .ro [.int .i64 1] 1])
theorem r1144_ok : rowOk cfg0 M2 3000 33 r1144 = true := by kernel_rfl
def r1145 : List AV × AV := ([.agg [.bool false, .ro [.int .i64 1] 1], .ro [.int .i64 10] 1], .agg [.bool false, .ro [.int .i64 1] 1, .ro [.int .i64 10] 1])
theorem r1145_ok : rowOk cfg0 M2 3000 33 r1145 = true := by kernel_rfl
def r1146 : List AV × AV := ([.agg [.bool false, .ro [.int .i64 1] 1], .ro [.int .i64 100] 1], .agg [.bool false, .ro [.int .i64 1] 1, .ro [.int .i64 100] 1])
theorem r1146_ok : rowOk cfg0 M2 3000 33 r1146 = true := by kernel_rfl
def r1147 : List AV × AV := ([.agg [.bool false, .ro [.int .i64 1] 1], .ro [.int .i64 1000] 1], .agg [.bool false, .ro [.int .i64 1] 1, .ro [.int .i64 1000] 1])
theorem r1147_ok : rowOk cfg0 M2 3000 33 r1147 = true := by kernel_rfl
def r1148 : List AV × AV := ([.ro [.int .i64 381] 1, .ro [.int .i64 1250] 1], .ro [.int .i64 1] 1)
theorem r1148_ok : rowOk cfg0 M2 3000 77 r1148 = true := by kernel_rfl
def r1149 : List AV × AV := ([.agg [.bool false, .ro [.int .i64 1] 1], .ro [.int .i64 1] 1], .agg [.bool false, .ro [.int .i64 1] 1, .ro [.int .i64 1] 1])
theorem r1149_ok : rowOk cfg0 M2 3000 33 r1149 = true := by kernel_rfl
def r1150 : List AV × AV := ([.agg [.bool false, .ro [.int .i64 1] 1], .ro [.int .i64 12] 1], .agg [.bool false, .ro [.int .i64 1] 1, .ro [.int .i64 12] 1])
theorem r1150_ok : rowOk cfg0 M2 3000 33 r1150 = true := by kernel_rfl
def r1151 : List AV × AV := ([.ro [.int .i64 381] 1, .ro [.int .i64 5000, .int .i64 1] 2], .ro [.int .i64 3] 1)
theorem r1151_ok : rowOk cfg0 M2 3000 77 r1151 = true := by kernel_rfl
def r1152 : List AV × AV := ([.ro [.int .i64 1143] 1, .ro [.int .i64 1250] 1], .ro [.int .i64 1] 1)
theorem r1152_ok : rowOk cfg0 M2 3000 77 r1152 = true := by kernel_rfl
def r1153 : List AV × AV := ([.agg [.bool false, .ro [.int .i64 60] 1], .ro [.int .i64 1] 1], .agg [.bool false, .ro [.int .i64 60] 1, .ro [.int .i64 1] 1])
theorem r1153_ok : rowOk cfg0 M2 3000 33 r1153 = true := by kernel_rfl
def r1154 : List AV × AV := ([.ro [.int .i64 7315, .int .i64 2] 2, .ro [.int .i64 100] 1], .ro [.int .i64 5] 1)
theorem r1154_ok : rowOk cfg0 M2 3000 77 r1154 = true := by kernel_rfl
def r1155 : List AV × AV := ([.ro [.int .i64 5] 1, .ro [.int .i64 9] 1], .ro [.int .i64 1] 1)
theorem r1155_ok : rowOk cfg0 M2 3000 77 r1155 = true := by kernel_rfl
def r1156 : List AV × AV := ([.ro [.int .i64 5967, .int .i64 4] 2, .ro [.int .i64 180] 1], .ro [.int .i64 1] 1)
theorem r1156_ok : rowOk cfg0 M2 3000 77 r1156 = true := by kernel_rfl
def r1157 : List AV × AV := ([.agg [.bool false, .ro [.int .u32 127] 1], .agg [.ro [.int .u32 5000] 1]], .tuple [.agg [.bool false, .ro [.int .u32 127] 1, .ro [.int .u32 5000] 1], .bool true])
theorem r1157_ok : rowOk cfg0 M2 3000 30 r1157 = true := by kernel_rfl
def r1158 : List AV × AV := ([.agg [.bool false, .ro [.int .u32 1524] 1], .agg [.ro [.int .u32 5000] 1]], .tuple [.agg [.bool false, .ro [.int .u32 381] 1, .ro [.int .u32 1250] 1], .bool true])
theorem r1158_ok : rowOk cfg0 M2 3000 30 r1158 = true := by kernel_rfl
def r1159 : List AV × AV := ([.agg [.bool false, .ro [.int .u32 1250] 1], .agg [.ro [.int .u32 381] 1]], .tuple [.agg [.bool false, .ro [.int .u32 1250] 1, .ro [.int .u32 381] 1], .bool true])
theorem r1159_ok : rowOk cfg0 M2 3000 30 r1159 = true := by kernel_rfl
def r1160 : List AV × AV := ([.agg [.bool false, .ro [.int .u32 1] 1, .ro [.int .u32 1] 1]], .str [49])
theorem r1160_ok : rowOk cfg0 M2 3000 26 r1160 = true := by kernel_rfl
def r1161 : List AV × AV := ([.agg [.bool false, .ro [.int .u32 1905] 1], .agg [.ro [.int .u32 1250] 1]], .tuple [.agg [.bool false, .ro [.int .u32 381] 1, .ro [.int .u32 250] 1], .bool true])
theorem r1161_ok : rowOk cfg0 M2 3000 30 r1161 = true := by kernel_rfl
def r1162 : List AV × AV := ([.agg [.bool false, .ro [.int .u32 381] 1], .agg [.ro [.int .u32 250] 1]], .tuple [.agg [.bool false, .ro [.int .u32 381] 1, .ro [.int .u32 250] 1], .bool true])
theorem r1162_ok : rowOk cfg0 M2 3000 30 r1162 = true := by kernel_rfl
def r1163 : List AV × AV := ([.agg [.bool false, .ro [.int .u32 5000] 1], .agg [.ro [.int .u32 127] 1]], .tuple [.agg [.bool false, .ro [.int .u32 5000] 1, .ro [.int .u32 127] 1], .bool true])
theorem r1163_ok : rowOk cfg0 M2 3000 30 r1163 = true := by kernel_rfl
def r1164 : List AV × AV := ([.agg [.bool false, .e0, .ro [.int .u32 1] 1], .agg [.bool false, .ro [.int .u32 60] 1, .ro [.int .u32 1] 1]], .agg [.bool false, .ro [.int .u32 60] 1, .ro [.int .u32 1] 1])
theorem r1164_ok : rowOk cfg0 M2 3000 38 r1164 = true := by kernel_rfl
def r1165 : List AV × AV := ([.agg [.bool false, .ro [.int .u32 60] 1, .ro [.int .u32 1] 1], .agg [.bool false, .ro [.int .u32 12] 1, .ro [.int .u32 1] 1]], .agg [.bool false, .ro [.int .u32 72] 1, .ro [.int .u32 1] 1])
theorem r1165_ok : rowOk cfg0 M2 3000 38 r1165 = true := by kernel_rfl
def r1166 : List AV × AV := ([.agg [.bool false, .ro [.int .u32 3] 1, .ro [.int .u32 1] 1], .agg [.bool false, .ro [.int .u32 2] 1, .ro [.int .u32 1] 1]], .agg [.bool false, .ro [.int .u32 6] 1, .ro [.int .u32 1] 1])
theorem r1166_ok : rowOk cfg0 M2 3000 19 r1166 = true := by kernel_rfl
def r1167 : List AV × AV := ([.agg [.bool false, .ro [.int .u32 6] 1, .ro [.int .u32 1] 1], .agg [.bool false, .e0, .ro [.int .u32 1] 1]], .agg [.bool false, .ro [.int .u32 6] 1, .ro [.int .u32 1] 1])
theorem r1167_ok : rowOk cfg0 M2 3000 38 r1167 = true := by kernel_rfl
def r1168 : List AV × AV := ([.agg [.bool false, .ro [.int .u32 6] 1, .ro [.int .u32 1] 1], .agg [.bool false, .ro [.int .u32 1] 1, .ro [.int .u32 1] 1]], .agg [.bool false, .ro [.int .u32 6] 1, .ro [.int .u32 1] 1])
theorem r1168_ok : rowOk cfg0 M2 3000 19 r1168 = true := by kernel_rfl
def r1169 : List AV × AV := ([.agg [.int .i64 1, .int .i64 0, .int .i64 0, .int .i64 0, .int .i64 0, .int .i64 0, .int .i64 0, .int .i64 0, .bool false, .ro [.int .u32 2] 1, .ro [.int .u32 1] 1, .bool false, .ro [.int .u32 7] 1, .ro [.int .u32 1] 1, .bool false], .agg [.int .i64 (-1), .int .i64 0, .int .i64 0, .int .i64 0, .int .i64 0, .int .i64 0, .int .i64 0, .int .i64 0, .bool false, .ro [.int .u32 1] 1, .ro [.int .u32 1] 1, .bool false, .nilsl, .nilsl, .bool false]], .tuple [.int .i64 (-1), .bool true])
theorem r1169_ok : rowOk cfg0 M2 3000 9 r1169 = true := by kernel_rfl
def r1170 : List AV × AV := ([.agg [.bool false, .ro [.int .u32 2] 1, .ro [.int .u32 1] 1], .agg [.bool false, .ro [.int .u32 1] 1, .ro [.int .u32 1] 1]], .agg [.bool false, .ro [.int .u32 2] 1, .ro [.int .u32 1] 1])
theorem r1170_ok : rowOk cfg0 M2 3000 19 r1170 = true := by kernel_rfl
def r1171 : List AV × AV := ([.agg [.bool false, .e0, .ro [.int .u32 1] 1], .agg [.bool false, .ro [.int .u32 2] 1, .ro [.int .u32 1] 1]], .agg [.bool false, .nilsl, .ro [.int .u32 1] 1])
theorem r1171_ok : rowOk cfg0 M2 3000 19 r1171 = true := by kernel_rfl
def r1172 : List AV × AV := ([.agg [.int .i64 1, .int .i64 0, .int .i64 0, .int .i64 0, .int .i64 0, .int .i64 0, .int .i64 0, .int .i64 0, .bool false, .ro [.int .u32 2] 1, .ro [.int .u32 1] 1, .bool false, .nilsl, .nilsl, .bool true], .agg [.int .i64 (-1), .int .i64 0, .int .i64 0, .int .i64 0, .int .i64 0, .int .i64 0, .int .i64 0, .int .i64 0, .bool false, .ro [.int .u32 1] 1, .ro [.int .u32 1] 1, .bool false, .nilsl, .nilsl, .bool false]], .tuple [.int .i64 (-1), .bool true])
theorem r1172_ok : rowOk cfg0 M2 3000 9 r1172 = true := by kernel_rfl
def r1173 : List AV × AV := ([.agg [.bool false, .ro [.int .u32 1] 1, .ro [.int .u32 1] 1], .agg [.int .i64 1, .int .i64 0, .int .i64 0, .int .i64 0, .int .i64 0, .int .i64 0, .int .i64 0, .int .i64 0, .bool false, .ro [.int .u32 2] 1, .ro [.int .u32 1] 1, .bool false, .ro [.int .u32 7] 1, .ro [.int .u32 1] 1, .bool false], .agg [.int .i64 2, .int .i64 0, .int .i64 0, .int .i64 0, .int .i64 0, .int .i64 0, .int .i64 0, .int .i64 0, .bool false, .ro [.int .u32 1] 1, .ro [.int .u32 1] 1, .bool false, .nilsl, .nilsl, .bool false]], .tuple [.agg [.bool false, .e0, .ro [.int .u32 1] 1], .int .i64 5])
theorem r1173_ok : rowOk cfg0 M2 3000 13 r1173 = true := by kernel_rfl
def r1174 : List AV × AV := ([.agg [.bool false, .ro [.int .u32 100] 1, .ro [.int .u32 1] 1], .agg [.bool false, .ro [.int .u32 1] 1, .ro [.int .u32 1] 1]], .agg [.bool false, .ro [.int .u32 100] 1, .ro [.int .u32 1] 1])
theorem r1174_ok : rowOk cfg0 M2 3000 19 r1174 = true := by kernel_rfl
def r1175 : List AV × AV := ([.agg [.bool false, .ro [.int .u32 5463] 1], .agg [.ro [.int .u32 20] 1]], .tuple [.agg [.bool false, .ro [.int .u32 5463] 1, .ro [.int .u32 20] 1], .bool true])
theorem r1175_ok : rowOk cfg0 M2 3000 30 r1175 = true := by kernel_rfl
def r1176 : List AV × AV := ([.agg [.bool false, .ro [.int .u32 7463] 1], .agg [.ro [.int .u32 20] 1]], .tuple [.agg [.bool false, .ro [.int .u32 7463] 1, .ro [.int .u32 20] 1], .bool true])
theorem r1176_ok : rowOk cfg0 M2 3000 30 r1176 = true := by kernel_rfl
def r1177 : List AV × AV := ([.agg [.bool true, .ro [.int .u32 45967] 1], .agg [.ro [.int .u32 180] 1]], .tuple [.agg [.bool true, .ro [.int .u32 45967] 1, .ro [.int .u32 180] 1], .bool true])
theorem r1177_ok : rowOk cfg0 M2 3000 30 r1177 = true := by kernel_rfl
def r1178 : List AV × AV := ([.agg [.bool false, .ro [.int .u32 424000] 1], .agg [.ro [.int .u32 3600] 1]], .tuple [.agg [.bool false, .ro [.int .u32 1060] 1, .ro [.int .u32 9] 1], .bool true])
theorem r1178_ok : rowOk cfg0 M2 3000 30 r1178 = true := by kernel_rfl
def r1179 : List AV × AV := ([.agg [.bool false, .ro [.int .u32 9] 1], .agg [.ro [.int .u32 5] 1]], .tuple [.agg [.bool false, .ro [.int .u32 9] 1, .ro [.int .u32 5] 1], .bool true])
theorem r1179_ok : rowOk cfg0 M2 3000 30 r1179 = true := by kernel_rfl
def r1180 : List AV × AV := ([.agg [.bool false, .ro [.int .u32 1060] 1], .agg [.ro [.int .u32 9] 1]], .tuple [.agg [.bool false, .ro [.int .u32 1060] 1, .ro [.int .u32 9] 1], .bool true])
theorem r1180_ok : rowOk cfg0 M2 3000 30 r1180 = true := by kernel_rfl
def r1181 : List AV × AV := ([.agg [.bool false, .ro [.int .u32 212] 1, .ro [.int .u32 1] 1]], .str [50, 49, 50])
theorem r1181_ok : rowOk cfg0 M2 3000 26 r1181 = true := by kernel_rfl
def r1182 : List AV × AV := ([.agg [.bool false, .ro [.int .u32 160] 1], .agg [.ro [.int .u32 9] 1]], .tuple [.agg [.bool false, .ro [.int .u32 160] 1, .ro [.int .u32 9] 1], .bool true])
theorem r1182_ok : rowOk cfg0 M2 3000 30 r1182 = true := by kernel_rfl
def r1183 : List AV × AV := ([.agg [.bool false, .ro [.int .u32 442503] 1], .agg [.ro [.int .u32 1620] 1]], .tuple [.agg [.bool false, .ro [.int .u32 5463] 1, .ro [.int .u32 20] 1], .bool true])
theorem r1183_ok : rowOk cfg0 M2 3000 30 r1183 = true := by kernel_rfl
def r1184 : List AV × AV := ([.agg [.bool true, .ro [.int .u32 5463] 1], .agg [.ro [.int .u32 20] 1]], .tuple [.agg [.bool true, .ro [.int .u32 5463] 1, .ro [.int .u32 20] 1], .bool true])
theorem r1184_ok : rowOk cfg0 M2 3000 30 r1184 = true := by kernel_rfl
def r1185 : List AV × AV := ([.agg [.bool false, .nilsl, .ro [.int .u32 1] 1], .agg [.bool false, .ro [.int .u32 1] 1, .ro [.int .u32 1] 1]], .agg [.bool false, .nilsl, .ro [.int .u32 1] 1])
theorem r1185_ok : rowOk cfg0 M2 3000 19 r1185 = true := by kernel_rfl
def r1186 : List AV × AV := ([.agg [.bool false, .nilsl, .ro [.int .u32 1] 1]], .str [48])
theorem r1186_ok : rowOk cfg0 M2 3000 26 r1186 = true := by kernel_rfl
def r1187 : List AV × AV := ([.agg [.bool false, .e0, .ro [.int .u32 1] 1], .agg [.bool false, .ro [.int .u32 1] 1, .ro [.int .u32 1] 1]], .agg [.bool false, .nilsl, .ro [.int .u32 1] 1])
theorem r1187_ok : rowOk cfg0 M2 3000 19 r1187 = true := by kernel_rfl
def r1188 : List AV × AV := ([.agg [.int .i64 1, .int .i64 (-1), .int .i64 0, .int .i64 0, .int .i64 0, .int .i64 0, .int .i64 0, .int .i64 0, .bool false, .ro [.int .u32 1] 1, .ro [.int .u32 1] 1, .bool false, .e0, .ro [.int .u32 1] 1, .bool false], .agg [.int .i64 (-1), .int .i64 1, .int .i64 0, .int .i64 0, .int .i64 0, .int .i64 0, .int .i64 0, .int .i64 0, .bool false, .ro [.int .u32 1] 1, .ro [.int .u32 1] 1, .bool false, .e0, .ro [.int .u32 1] 1, .bool false]], .tuple [.int .i64 (-1), .bool true])
theorem r1188_ok : rowOk cfg0 M2 3000 9 r1188 = true := by kernel_rfl
def r1189 : List AV × AV := ([.agg [.bool false, .ro [.int .u32 5] 1, .ro [.int .u32 1] 1], .agg [.bool false, .ro [.int .u32 1] 1, .ro [.int .u32 1] 1]], .agg [.bool false, .ro [.int .u32 5] 1, .ro [.int .u32 1] 1])
theorem r1189_ok : rowOk cfg0 M2 3000 19 r1189 = true := by kernel_rfl
def r1190 : List AV × AV := ([.agg [.bool false, .ro [.int .u32 1] 1], .agg [.ro [.int .u32 5] 1]], .tuple [.agg [.bool false, .ro [.int .u32 1] 1, .ro [.int .u32 5] 1], .bool true])
theorem r1190_ok : rowOk cfg0 M2 3000 30 r1190 = true := by kernel_rfl
def r1191 : List AV × AV := ([.agg [.bool false, .ro [.int .u32 1] 1, .ro [.int .u32 1] 1], .agg [.int .i64 1, .int .i64 0, .int .i64 0, .int .i64 0, .int .i64 0, .int .i64 0, .int .i64 0, .int .i64 0, .bool false, .ro [.int .u32 1] 1, .ro [.int .u32 1] 1, .bool false, .e0, .ro [.int .u32 1] 1, .bool false], .agg [.int .i64 0, .int .i64 1, .int .i64 0, .int .i64 0, .int .i64 0, .int .i64 0, .int .i64 0, .int .i64 0, .bool false, .ro [.int .u32 1] 1, .ro [.int .u32 1] 1, .bool false, .e0, .ro [.int .u32 1] 1, .bool false]], .tuple [.agg [.bool false, .e0, .ro [.int .u32 1] 1], .int .i64 5])
theorem r1191_ok : rowOk cfg0 M2 3000 13 r1191 = true := by kernel_rfl
def r1192 : List AV × AV := ([.agg [.bool false, .ro [.int .u32 1] 1, .ro [.int .u32 1] 1], .agg [.bool false, .ro [.int .u32 1000] 1, .ro [.int .u32 1] 1]], .agg [.bool false, .ro [.int .u32 1000] 1, .ro [.int .u32 1] 1])
theorem r1192_ok : rowOk cfg0 M2 3000 19 r1192 = true := by kernel_rfl
def r1193 : List AV × AV := ([.agg [.bool false, .ro [.int .u32 1000] 1, .ro [.int .u32 1] 1], .agg [.bool false, .ro [.int .u32 1] 1, .ro [.int .u32 1] 1]], .agg [.bool false, .ro [.int .u32 1000] 1, .ro [.int .u32 1] 1])
theorem r1193_ok : rowOk cfg0 M2 3000 19 r1193 = true := by kernel_rfl
def r1194 : List AV × AV := ([.agg [.bool false, .ro [.int .u32 1000] 1, .ro [.int .u32 1] 1], .agg [.bool false, .e0, .ro [.int .u32 1] 1]], .agg [.bool false, .ro [.int .u32 1000] 1, .ro [.int .u32 1] 1])
theorem r1194_ok : rowOk cfg0 M2 3000 38 r1194 = true := by kernel_rfl
def r1195 : List AV × AV := ([.agg [.bool false, .ro [.int .u32 1000] 1, .ro [.int .u32 1] 1]], .str [49, 48, 48, 48])
theorem r1195_ok : rowOk cfg0 M2 3000 26 r1195 = true := by kernel_rfl
def r1196 : List AV × AV := ([.agg [.bool false, .ro [.int .u32 72] 1, .ro [.int .u32 1] 1]], .str [55, 50])
theorem r1196_ok : rowOk cfg0 M2 3000 26 r1196 = true := by kernel_rfl
def r1197 : List AV × AV := ([.agg [.bool false, .ro [.int .u32 6] 1, .ro [.int .u32 1] 1]], .str [54])
theorem r1197_ok : rowOk cfg0 M2 3000 26 r1197 = true := by kernel_rfl
def t2 : Tr (List (List AV × AV)) := (.nd (.nd (.nd (.nd .lf 9 [r1169, r1172, r1188] .lf) 13 [r1173, r1191] .lf) 19 [r1126, r1134, r1166, r1168, r1170, r1171, r1174, r1185, r1187, r1189, r1192, r1193] (.nd (.nd .lf 26 [r1160, r1181, r1186, r1195, r1196, r1197] .lf) 30 [r1121, r1122, r1123, r1125, r1128, r1129, r1131, r1137, r1139, r1141, r1157, r1158, r1159, r1161, r1162, r1163, r1175, r1176, r1177, r1178, r1179, r1180, r1182, r1183, r1184, r1190] .lf)) 33 [r1142, r1143, r1144, r1145, r1146, r1147, r1149, r1150, r1153] (.nd (.nd (.nd .lf 38 [r1164, r1165, r1167, r1194] .lf) 57 [r1130, r1133, r1135] .lf) 77 [r1148, r1151, r1152, r1154, r1155, r1156] (.nd .lf 137 [r1119, r1120, r1124, r1127, r1132, r1136, r1138, r1140] .lf)))
theorem t2_ok : MemoOk cfg0 (tabM t2) := tabM_ok (t := t2) ⟨⟨⟨⟨trivial, (lcons (rowOk_did M2_ok r1169_ok) (lcons (rowOk_did M2_ok r1172_ok) (lcons (rowOk_did M2_ok r1188_ok) lnil))), trivial⟩, (lcons (rowOk_did M2_ok r1173_ok) (lcons (rowOk_did M2_ok r1191_ok) lnil)), trivial⟩, (lcons (rowOk_did M2_ok r1126_ok) (lcons (rowOk_did M2_ok r1134_ok) (lcons (rowOk_did M2_ok r1166_ok) (lcons (rowOk_did M2_ok r1168_ok) (lcons (rowOk_did M2_ok r1170_ok) (lcons (rowOk_did M2_ok r1171_ok) (lcons (rowOk_did M2_ok r1174_ok) (lcons (rowOk_did M2_ok r1185_ok) (lcons (rowOk_did M2_ok r1187_ok) (lcons (rowOk_did M2_ok r1189_ok) (lcons (rowOk_did M2_ok r1192_ok) (lcons (rowOk_did M2_ok r1193_ok) lnil)))))))))))), ⟨⟨trivial, (lcons (rowOk_did M2_ok r1160_ok) (lcons (rowOk_did M2_ok r1181_ok) (lcons (rowOk_did M2_ok r1186_ok) (lcons (rowOk_did M2_ok r1195_ok) (lcons (rowOk_did M2_ok r1196_ok) (lcons (rowOk_did M2_ok r1197_ok) lnil)))))), trivial⟩, (lcons (rowOk_did M2_ok r1121_ok) (lcons (rowOk_did M2_ok r1122_ok) (lcons (rowOk_did M2_ok r1123_ok) (lcons (rowOk_did M2_ok r1125_ok) (lcons (rowOk_did M2_ok r1128_ok) (lcons (rowOk_did M2_ok r1129_ok) (lcons (rowOk_did M2_ok r1131_ok) (lcons (rowOk_did M2_ok r1137_ok) (lcons (rowOk_did M2_ok r1139_ok) (lcons (rowOk_did M2_ok r1141_ok) (lcons (rowOk_did M2_ok r1157_ok) (lcons (rowOk_did M2_ok r1158_ok) (lcons (rowOk_did M2_ok r1159_ok) (lcons (rowOk_did M2_ok r1161_ok) (lcons (rowOk_did M2_ok r1162_ok) (lcons (rowOk_did M2_ok r1163_ok) (lcons (rowOk_did M2_ok r1175_ok) (lcons (rowOk_did M2_ok r1176_ok) (lcons (rowOk_did M2_ok r1177_ok) (lcons (rowOk_did M2_ok r1178_ok) (lcons (rowOk_did M2_ok r1179_ok) (lcons (rowOk_did M2_ok r1180_ok) (lcons (rowOk_did M2_ok r1182_ok) (lcons (rowOk_did M2_ok r1183_ok) (lcons (rowOk_did M2_ok r1184_ok) (lcons (rowOk_did M2_ok r1190_ok) lnil)))))))))))))))))))))))))), trivial⟩⟩, (lcons (rowOk_did M2_ok r1142_ok) (lcons (rowOk_did M2_ok r1143_ok) (lcons (rowOk_did M2_ok r1144_ok) (lcons (rowOk_did M2_ok r1145_ok) (lcons (rowOk_did M2_ok r1146_ok) (lcons (rowOk_did M2_ok r1147_ok) (lcons (rowOk_did M2_ok r1149_ok) (lcons (rowOk_did M2_ok r1150_ok) (lcons (rowOk_did M2_ok r1153_ok) lnil))))))))), ⟨⟨⟨trivial, (lcons (rowOk_did M2_ok r1164_ok) (lcons (rowOk_did M2_ok r1165_ok) (lcons (rowOk_did M2_ok r1167_ok) (lcons (rowOk_did M2_ok r1194_ok) lnil)))), trivial⟩, (lcons (rowOk_did M2_ok r1130_ok) (lcons (rowOk_did M2_ok r1133_ok) (lcons (rowOk_did M2_ok r1135_ok) lnil))), trivial⟩, (lcons (rowOk_did M2_ok r1148_ok) (lcons (rowOk_did M2_ok r1151_ok) (lcons (rowOk_did M2_ok r1152_ok) (lcons (rowOk_did M2_ok r1154_ok) (lcons (rowOk_did M2_ok r1155_ok) (lcons (rowOk_did M2_ok r1156_ok) lnil)))))), ⟨trivial, (lcons (rowOk_did M2_ok r1119_ok) (lcons (rowOk_did M2_ok r1120_ok) (lcons (rowOk_did M2_ok r1124_ok) (lcons (rowOk_did M2_ok r1127_ok) (lcons (rowOk_did M2_ok r1132_ok) (lcons (rowOk_did M2_ok r1136_ok) (lcons (rowOk_did M2_ok r1138_ok) (lcons (rowOk_did M2_ok r1140_ok) lnil)))))))), trivial⟩⟩⟩
def M3 : Memo := orM (tabM t2) M2
theorem M3_ok : MemoOk cfg0 M3 := orM_ok t2_ok M2_ok
def r1198 : List AV × AV := ([.agg [.bool false, .ro [.int .u32 1] 1, .ro [.int .u32 10] 1], .agg [.bool false, .ro [.int .u32 1] 1, .ro [.int .u32 100] 1]], .agg [.bool false, .ro [.int .u32 1] 1, .ro [.int .u32 1000] 1])
theorem r1198_ok : rowOk cfg0 M3 3000 19 r1198 = true := by kernel_rfl
def r1199 : List AV × AV := ([.str [51, 56, 49, 47, 49, 50, 53, 48]], .tuple [.agg [.bool false, .ro [.int .u32 381] 1, .ro [.int .u32 1250] 1], .bool true])
theorem r1199_ok : rowOk cfg0 M3 3000 178 r1199 = true := by kernel_rfl
def r1200 : List AV × AV := ([.agg [.bool false, .ro [.int .u32 381] 1, .ro [.int .u32 1250] 1]], .int .i64 1)
theorem r1200_ok : rowOk cfg0 M3 3000 57 r1200 = true := by kernel_rfl
def r1201 : List AV × AV := ([.agg [.bool false, .ro [.int .u32 381] 1, .ro [.int .u32 1250] 1], .agg [.bool false, .ro [.int .u32 1] 1, .ro [.int .u32 1] 1]], .agg [.bool false, .ro [.int .u32 381] 1, .ro [.int .u32 1250] 1])
theorem r1201_ok : rowOk cfg0 M3 3000 19 r1201 = true := by kernel_rfl
def r1202 : List AV × AV := ([.str [49, 47, 49, 50]], .tuple [.agg [.bool false, .ro [.int .u32 1] 1, .ro [.int .u32 12] 1], .bool true])
theorem r1202_ok : rowOk cfg0 M3 3000 178 r1202 = true := by kernel_rfl
def r1203 : List AV × AV := ([.agg [.bool false, .ro [.int .u32 1] 1, .ro [.int .u32 12] 1]], .int .i64 1)
theorem r1203_ok : rowOk cfg0 M3 3000 57 r1203 = true := by kernel_rfl
def r1204 : List AV × AV := ([.agg [.bool false, .ro [.int .u32 1] 1, .ro [.int .u32 1] 1], .agg [.bool false, .ro [.int .u32 381] 1, .ro [.int .u32 1250] 1]], .agg [.bool false, .ro [.int .u32 381] 1, .ro [.int .u32 1250] 1])
theorem r1204_ok : rowOk cfg0 M3 3000 19 r1204 = true := by kernel_rfl
def r1205 : List AV × AV := ([.agg [.bool false, .ro [.int .u32 1] 1, .ro [.int .u32 12] 1], .agg [.bool false, .ro [.int .u32 381] 1, .ro [.int .u32 1250] 1]], .agg [.bool false, .ro [.int .u32 127] 1, .ro [.int .u32 5000] 1])
theorem r1205_ok : rowOk cfg0 M3 3000 19 r1205 = true := by kernel_rfl
def r1206 : List AV × AV := ([.str [51]], .tuple [.agg [.bool false, .ro [.int .u32 3] 1, .ro [.int .u32 1] 1], .bool true])
theorem r1206_ok : rowOk cfg0 M3 3000 178 r1206 = true := by kernel_rfl
def r1207 : List AV × AV := ([.agg [.bool false, .ro [.int .u32 3] 1, .ro [.int .u32 1] 1], .agg [.bool false, .ro [.int .u32 381] 1, .ro [.int .u32 1250] 1]], .agg [.bool false, .ro [.int .u32 1143] 1, .ro [.int .u32 1250] 1])
theorem r1207_ok : rowOk cfg0 M3 3000 19 r1207 = true := by kernel_rfl
def r1208 : List AV × AV := ([.str [54, 48]], .tuple [.agg [.bool false, .ro [.int .u32 60] 1, .ro [.int .u32 1] 1], .bool true])
theorem r1208_ok : rowOk cfg0 M3 3000 178 r1208 = true := by kernel_rfl
def r1209 : List AV × AV := ([.str [49]], .tuple [.agg [.bool false, .ro [.int .u32 1] 1, .ro [.int .u32 1] 1], .bool true])
theorem r1209_ok : rowOk cfg0 M3 3000 178 r1209 = true := by kernel_rfl
def r1210 : List AV × AV := ([.str [50, 55, 51, 49, 53, 47, 49, 48, 48]], .tuple [.agg [.bool false, .ro [.int .u32 5463] 1, .ro [.int .u32 20] 1], .bool true])
theorem r1210_ok : rowOk cfg0 M3 3000 178 r1210 = true := by kernel_rfl
def r1211 : List AV × AV := ([.str [53, 47, 57]], .tuple [.agg [.bool false, .ro [.int .u32 5] 1, .ro [.int .u32 9] 1], .bool true])
theorem r1211_ok : rowOk cfg0 M3 3000 178 r1211 = true := by kernel_rfl
def r1212 : List AV × AV := ([.agg [.bool false, .ro [.int .u32 5] 1, .ro [.int .u32 9] 1]], .int .i64 1)
theorem r1212_ok : rowOk cfg0 M3 3000 57 r1212 = true := by kernel_rfl
def r1213 : List AV × AV := ([.str [52, 53, 57, 54, 55, 47, 49, 56, 48]], .tuple [.agg [.bool false, .ro [.int .u32 45967] 1, .ro [.int .u32 180] 1], .bool true])
theorem r1213_ok : rowOk cfg0 M3 3000 178 r1213 = true := by kernel_rfl
def r1214 : List AV × AV := ([.agg [.bool false, .ro [.int .u32 5] 1, .ro [.int .u32 9] 1], .agg [.bool false, .ro [.int .u32 1] 1, .ro [.int .u32 1] 1]], .agg [.bool false, .ro [.int .u32 5] 1, .ro [.int .u32 9] 1])
theorem r1214_ok : rowOk cfg0 M3 3000 19 r1214 = true := by kernel_rfl
def r1215 : List AV × AV := ([.agg [.bool false, .ro [.int .i64 10] 1, .ro [.int .i64 1] 1], .int .i64 3], .tuple [.agg [.bool false, .ro [.int .i64 1000] 1, .ro [.int .i64 1] 1], .bool true])
theorem r1215_ok : rowOk cfg0 M3 3000 187 r1215 = true := by kernel_rfl
def r1216 : List AV × AV := ([.agg [.bool false, .ro [.int .i64 10] 1, .ro [.int .i64 1] 1], .int .i64 (-3)], .tuple [.agg [.bool false, .ro [.int .i64 1] 1, .ro [.int .i64 1000] 1], .bool true])
theorem r1216_ok : rowOk cfg0 M3 3000 187 r1216 = true := by kernel_rfl
def r1217 : List AV × AV := ([.str [51, 56, 49, 47, 49, 50, 53, 48]], .tuple [.agg [.bool false, .ro [.int .i64 381] 1, .ro [.int .i64 1250] 1], .bool true])
theorem r1217_ok : rowOk cfg0 M3 3000 188 r1217 = true := by kernel_rfl
def r1218 : List AV × AV := ([.agg [.bool false, .ro [.int .i64 1] 1, .ro [.int .i64 1] 1], .int .i64 1], .tuple [.agg [.bool false, .ro [.int .i64 1] 1, .ro [.int .i64 1] 1], .bool true])
theorem r1218_ok : rowOk cfg0 M3 3000 187 r1218 = true := by kernel_rfl
def r1219 : List AV × AV := ([.agg [.bool false, .ro [.int .i64 1] 1, .ro [.int .i64 1] 1], .agg [.bool false, .ro [.int .i64 381] 1, .ro [.int .i64 1250] 1]], .agg [.bool false, .ro [.int .i64 381] 1, .ro [.int .i64 1250] 1])
theorem r1219_ok : rowOk cfg0 M3 3000 41 r1219 = true := by kernel_rfl
def r1220 : List AV × AV := ([.str [49, 47, 49, 50]], .tuple [.agg [.bool false, .ro [.int .i64 1] 1, .ro [.int .i64 12] 1], .bool true])
theorem r1220_ok : rowOk cfg0 M3 3000 188 r1220 = true := by kernel_rfl
def r1221 : List AV × AV := ([.agg [.bool false, .ro [.int .i64 381] 1, .ro [.int .i64 1250] 1], .agg [.bool false, .ro [.int .i64 1] 1, .ro [.int .i64 1] 1]], .agg [.bool false, .ro [.int .i64 381] 1, .ro [.int .i64 1250] 1])
theorem r1221_ok : rowOk cfg0 M3 3000 41 r1221 = true := by kernel_rfl
def r1222 : List AV × AV := ([.agg [.bool false, .ro [.int .i64 381] 1, .ro [.int .i64 1250] 1], .agg [.bool false, .ro [.int .i64 1] 1, .ro [.int .i64 12] 1]], .agg [.bool false, .ro [.int .i64 127] 1, .ro [.int .i64 5000] 1])
theorem r1222_ok : rowOk cfg0 M3 3000 41 r1222 = true := by kernel_rfl
def r1223 : List AV × AV := ([.agg [.bool false, .ro [.int .i64 381] 1, .ro [.int .i64 1250] 1], .agg [.bool false, .ro [.int .i64 3] 1, .ro [.int .i64 1] 1]], .agg [.bool false, .ro [.int .i64 1143] 1, .ro [.int .i64 1250] 1])
theorem r1223_ok : rowOk cfg0 M3 3000 41 r1223 = true := by kernel_rfl
def r1224 : List AV × AV := ([.str [50, 55, 51, 49, 53, 47, 49, 48, 48]], .tuple [.agg [.bool false, .ro [.int .i64 5463] 1, .ro [.int .i64 20] 1], .bool true])
theorem r1224_ok : rowOk cfg0 M3 3000 188 r1224 = true := by kernel_rfl
def r1225 : List AV × AV := ([.str [53, 47, 57]], .tuple [.agg [.bool false, .ro [.int .i64 5] 1, .ro [.int .i64 9] 1], .bool true])
theorem r1225_ok : rowOk cfg0 M3 3000 188 r1225 = true := by kernel_rfl
def r1226 : List AV × AV := ([.str [52, 53, 57, 54, 55, 47, 49, 56, 48]], .tuple [.agg [.bool false, .ro [.int .i64 5967, .int .i64 4] 2, .ro [.int .i64 180] 1], .bool true])
theorem r1226_ok : rowOk cfg0 M3 3000 188 r1226 = true := by kernel_rfl
def r1227 : List AV × AV := ([.agg [.bool false, .ro [.int .i64 1] 1, .ro [.int .i64 1] 1], .agg [.bool false, .ro [.int .i64 5] 1, .ro [.int .i64 9] 1]], .agg [.bool false, .ro [.int .i64 5] 1, .ro [.int .i64 9] 1])
theorem r1227_ok : rowOk cfg0 M3 3000 41 r1227 = true := by kernel_rfl
def r1228 : List AV × AV := ([.agg [.bool false, .ro [.int .u32 1] 1, .ro [.int .u32 1] 1], .agg [.bool false, .ro [.int .u32 127] 1, .ro [.int .u32 5000] 1]], .agg [.bool false, .ro [.int .u32 127] 1, .ro [.int .u32 5000] 1])
theorem r1228_ok : rowOk cfg0 M3 3000 19 r1228 = true := by kernel_rfl
def r1229 : List AV × AV := ([.agg [.bool false, .ro [.int .u32 127] 1, .ro [.int .u32 5000] 1], .agg [.bool false, .ro [.int .u32 1] 1, .ro [.int .u32 1] 1]], .agg [.bool false, .ro [.int .u32 127] 1, .ro [.int .u32 5000] 1])
theorem r1229_ok : rowOk cfg0 M3 3000 19 r1229 = true := by kernel_rfl
def r1230 : List AV × AV := ([.agg [.bool false, .ro [.int .u32 12] 1, .ro [.int .u32 1] 1], .agg [.bool false, .ro [.int .u32 127] 1, .ro [.int .u32 5000] 1]], .agg [.bool false, .ro [.int .u32 381] 1, .ro [.int .u32 1250] 1])
theorem r1230_ok : rowOk cfg0 M3 3000 19 r1230 = true := by kernel_rfl
def r1231 : List AV × AV := ([.agg [.bool false, .ro [.int .u32 381] 1, .ro [.int .u32 1250] 1], .agg [.bool false, .e0, .ro [.int .u32 1] 1]], .agg [.bool false, .ro [.int .u32 381] 1, .ro [.int .u32 1250] 1])
theorem r1231_ok : rowOk cfg0 M3 3000 38 r1231 = true := by kernel_rfl
def r1232 : List AV × AV := ([.agg [.bool false, .ro [.int .u32 381] 1, .ro [.int .u32 1250] 1], .agg [.bool false, .ro [.int .u32 1250] 1, .ro [.int .u32 381] 1]], .agg [.bool false, .ro [.int .u32 1] 1, .ro [.int .u32 1] 1])
theorem r1232_ok : rowOk cfg0 M3 3000 19 r1232 = true := by kernel_rfl
def r1233 : List AV × AV := ([.agg [.bool false, .ro [.int .u32 5] 1, .ro [.int .u32 1] 1], .agg [.bool false, .ro [.int .u32 381] 1, .ro [.int .u32 1250] 1]], .agg [.bool false, .ro [.int .u32 381] 1, .ro [.int .u32 250] 1])
theorem r1233_ok : rowOk cfg0 M3 3000 19 r1233 = true := by kernel_rfl
def r1234 : List AV × AV := ([.agg [.bool false, .ro [.int .u32 381] 1, .ro [.int .u32 250] 1], .agg [.bool false, .e0, .ro [.int .u32 1] 1]], .agg [.bool false, .ro [.int .u32 381] 1, .ro [.int .u32 250] 1])
theorem r1234_ok : rowOk cfg0 M3 3000 38 r1234 = true := by kernel_rfl
def r1235 : List AV × AV := ([.agg [.bool false, .ro [.int .u32 381] 1, .ro [.int .u32 250] 1], .agg [.bool false, .ro [.int .u32 5000] 1, .ro [.int .u32 127] 1]], .agg [.bool false, .ro [.int .u32 60] 1, .ro [.int .u32 1] 1])
theorem r1235_ok : rowOk cfg0 M3 3000 19 r1235 = true := by kernel_rfl
def r1236 : List AV × AV := ([.agg [.bool false, .ro [.int .u32 381] 1, .ro [.int .u32 1250] 1], .agg [.bool false, .ro [.int .u32 5000] 1, .ro [.int .u32 127] 1]], .agg [.bool false, .ro [.int .u32 12] 1, .ro [.int .u32 1] 1])
theorem r1236_ok : rowOk cfg0 M3 3000 19 r1236 = true := by kernel_rfl
def r1237 : List AV × AV := ([.agg [.bool false, .ro [.int .u32 3] 1, .ro [.int .u32 1] 1], .agg [.int .i64 1, .int .i64 0, .int .i64 0, .int .i64 0, .int .i64 0, .int .i64 0, .int .i64 0, .int .i64 0, .bool false, .ro [.int .u32 2] 1, .ro [.int .u32 1] 1, .bool false, .ro [.int .u32 7] 1, .ro [.int .u32 1] 1, .bool false], .agg [.int .i64 1, .int .i64 0, .int .i64 0, .int .i64 0, .int .i64 0, .int .i64 0, .int .i64 0, .int .i64 0, .bool false, .ro [.int .u32 1] 1, .ro [.int .u32 1] 1, .bool false, .nilsl, .nilsl, .bool false]], .tuple [.agg [.bool false, .ro [.int .u32 6] 1, .ro [.int .u32 1] 1], .int .i64 0])
theorem r1237_ok : rowOk cfg0 M3 3000 13 r1237 = true := by kernel_rfl
def r1238 : List AV × AV := ([.agg [.bool false, .e0, .ro [.int .u32 1] 1], .agg [.int .i64 1, .int .i64 0, .int .i64 0, .int .i64 0, .int .i64 0, .int .i64 0, .int .i64 0, .int .i64 0, .bool false, .ro [.int .u32 2] 1, .ro [.int .u32 1] 1, .bool false, .ro [.int .u32 7] 1, .ro [.int .u32 1] 1, .bool false], .agg [.int .i64 (-1), .int .i64 0, .int .i64 0, .int .i64 0, .int .i64 0, .int .i64 0, .int .i64 0, .int .i64 0, .bool false, .ro [.int .u32 1] 1, .ro [.int .u32 1] 1, .bool false, .nilsl, .nilsl, .bool false]], .tuple [.agg [.bool false, .e0, .ro [.int .u32 1] 1], .int .i64 4])
theorem r1238_ok : rowOk cfg0 M3 3000 13 r1238 = true := by kernel_rfl
def r1239 : List AV × AV := ([.agg [.bool false, .ro [.int .u32 1] 1, .ro [.int .u32 1] 1], .agg [.int .i64 1, .int .i64 0, .int .i64 0, .int .i64 0, .int .i64 0, .int .i64 0, .int .i64 0, .int .i64 0, .bool false, .ro [.int .u32 2] 1, .ro [.int .u32 1] 1, .bool false, .nilsl, .nilsl, .bool true], .agg [.int .i64 (-1), .int .i64 0, .int .i64 0, .int .i64 0, .int .i64 0, .int .i64 0, .int .i64 0, .int .i64 0, .bool false, .ro [.int .u32 1] 1, .ro [.int .u32 1] 1, .bool false, .nilsl, .nilsl, .bool false]], .tuple [.agg [.bool false, .e0, .ro [.int .u32 1] 1], .int .i64 6])
theorem r1239_ok : rowOk cfg0 M3 3000 13 r1239 = true := by kernel_rfl
def r1240 : List AV × AV := ([.agg [.bool false, .ro [.int .u32 1] 1, .ro [.int .u32 1] 1], .agg [.bool false, .ro [.int .u32 5] 1, .ro [.int .u32 9] 1]], .agg [.bool false, .ro [.int .u32 5] 1, .ro [.int .u32 9] 1])
theorem r1240_ok : rowOk cfg0 M3 3000 19 r1240 = true := by kernel_rfl
def r1241 : List AV × AV := ([.agg [.bool false, .ro [.int .u32 100] 1, .ro [.int .u32 1] 1], .agg [.bool false, .ro [.int .u32 5463] 1, .ro [.int .u32 20] 1]], .agg [.bool false, .ro [.int .u32 7463] 1, .ro [.int .u32 20] 1])
theorem r1241_ok : rowOk cfg0 M3 3000 38 r1241 = true := by kernel_rfl
def r1242 : List AV × AV := ([.agg [.bool false, .ro [.int .u32 45967] 1, .ro [.int .u32 180] 1]], .agg [.bool true, .ro [.int .u32 45967] 1, .ro [.int .u32 180] 1])
theorem r1242_ok : rowOk cfg0 M3 3000 40 r1242 = true := by kernel_rfl
def r1243 : List AV × AV := ([.agg [.bool false, .ro [.int .u32 7463] 1, .ro [.int .u32 20] 1], .agg [.bool true, .ro [.int .u32 45967] 1, .ro [.int .u32 180] 1]], .agg [.bool false, .ro [.int .u32 1060] 1, .ro [.int .u32 9] 1])
theorem r1243_ok : rowOk cfg0 M3 3000 38 r1243 = true := by kernel_rfl
def r1244 : List AV × AV := ([.agg [.bool false, .ro [.int .u32 1060] 1, .ro [.int .u32 9] 1], .agg [.bool false, .ro [.int .u32 9] 1, .ro [.int .u32 5] 1]], .agg [.bool false, .ro [.int .u32 212] 1, .ro [.int .u32 1] 1])
theorem r1244_ok : rowOk cfg0 M3 3000 19 r1244 = true := by kernel_rfl
def r1245 : List AV × AV := ([.agg [.bool false, .ro [.int .u32 32] 1, .ro [.int .u32 1] 1], .agg [.bool false, .ro [.int .u32 5] 1, .ro [.int .u32 9] 1]], .agg [.bool false, .ro [.int .u32 160] 1, .ro [.int .u32 9] 1])
theorem r1245_ok : rowOk cfg0 M3 3000 19 r1245 = true := by kernel_rfl
def r1246 : List AV × AV := ([.agg [.bool false, .ro [.int .u32 160] 1, .ro [.int .u32 9] 1], .agg [.bool false, .ro [.int .u32 45967] 1, .ro [.int .u32 180] 1]], .agg [.bool false, .ro [.int .u32 5463] 1, .ro [.int .u32 20] 1])
theorem r1246_ok : rowOk cfg0 M3 3000 38 r1246 = true := by kernel_rfl
def r1247 : List AV × AV := ([.agg [.bool false, .ro [.int .u32 5463] 1, .ro [.int .u32 20] 1]], .agg [.bool true, .ro [.int .u32 5463] 1, .ro [.int .u32 20] 1])
theorem r1247_ok : rowOk cfg0 M3 3000 40 r1247 = true := by kernel_rfl
def r1248 : List AV × AV := ([.agg [.bool false, .ro [.int .u32 5463] 1, .ro [.int .u32 20] 1], .agg [.bool true, .ro [.int .u32 5463] 1, .ro [.int .u32 20] 1]], .agg [.bool false, .nilsl, .ro [.int .u32 1] 1])
theorem r1248_ok : rowOk cfg0 M3 3000 38 r1248 = true := by kernel_rfl
def r1249 : List AV × AV := ([.agg [.bool false, .nilsl, .ro [.int .u32 1] 1], .agg [.bool false, .ro [.int .u32 5463] 1, .ro [.int .u32 20] 1]], .agg [.bool false, .ro [.int .u32 5463] 1, .ro [.int .u32 20] 1])
theorem r1249_ok : rowOk cfg0 M3 3000 38 r1249 = true := by kernel_rfl
def r1250 : List AV × AV := ([.agg [.bool false, .ro [.int .u32 5463] 1, .ro [.int .u32 20] 1], .agg [.bool false, .e0, .ro [.int .u32 1] 1]], .agg [.bool false, .ro [.int .u32 5463] 1, .ro [.int .u32 20] 1])
theorem r1250_ok : rowOk cfg0 M3 3000 38 r1250 = true := by kernel_rfl
def r1251 : List AV × AV := ([.agg [.bool false, .ro [.int .u32 5463] 1, .ro [.int .u32 20] 1], .agg [.bool false, .ro [.int .u32 1] 1, .ro [.int .u32 1] 1]], .agg [.bool false, .ro [.int .u32 5463] 1, .ro [.int .u32 20] 1])
theorem r1251_ok : rowOk cfg0 M3 3000 19 r1251 = true := by kernel_rfl
def r1252 : List AV × AV := ([.agg [.bool false, .ro [.int .u32 5463] 1, .ro [.int .u32 20] 1]], .str [53, 52, 54, 51, 47, 50, 48])
theorem r1252_ok : rowOk cfg0 M3 3000 26 r1252 = true := by kernel_rfl
def r1253 : List AV × AV := ([.agg [.bool false, .ro [.int .u32 5] 1, .ro [.int .u32 1] 1], .agg [.int .i64 1, .int .i64 (-1), .int .i64 0, .int .i64 0, .int .i64 0, .int .i64 0, .int .i64 0, .int .i64 0, .bool false, .ro [.int .u32 1] 1, .ro [.int .u32 1] 1, .bool false, .e0, .ro [.int .u32 1] 1, .bool false], .agg [.int .i64 (-1), .int .i64 1, .int .i64 0, .int .i64 0, .int .i64 0, .int .i64 0, .int .i64 0, .int .i64 0, .bool false, .ro [.int .u32 1] 1, .ro [.int .u32 1] 1, .bool false, .e0, .ro [.int .u32 1] 1, .bool false]], .tuple [.agg [.bool false, .ro [.int .u32 1] 1, .ro [.int .u32 5] 1], .int .i64 0])
theorem r1253_ok : rowOk cfg0 M3 3000 13 r1253 = true := by kernel_rfl
def r1254 : List AV × AV := ([.agg [.bool false, .ro [.int .u32 1] 1, .ro [.int .u32 5] 1]], .str [49, 47, 53])
theorem r1254_ok : rowOk cfg0 M3 3000 26 r1254 = true := by kernel_rfl
def r1255 : List AV × AV := ([.agg [.bool false, .ro [.int .u32 1] 1, .ro [.int .u32 1] 1], .agg [.int .i64 1, .int .i64 (-1), .int .i64 0, .int .i64 0, .int .i64 0, .int .i64 0, .int .i64 0, .int .i64 0, .bool false, .ro [.int .u32 1000] 1, .ro [.int .u32 1] 1, .bool false, .e0, .ro [.int .u32 1] 1, .bool false], .agg [.int .i64 1, .int .i64 (-1), .int .i64 0, .int .i64 0, .int .i64 0, .int .i64 0, .int .i64 0, .int .i64 0, .bool false, .ro [.int .u32 1] 1, .ro [.int .u32 1] 1, .bool false, .e0, .ro [.int .u32 1] 1, .bool false]], .tuple [.agg [.bool false, .ro [.int .u32 1000] 1, .ro [.int .u32 1] 1], .int .i64 0])
theorem r1255_ok : rowOk cfg0 M3 3000 13 r1255 = true := by kernel_rfl
def t3 : Tr (List (List AV × AV)) := (.nd (.nd (.nd (.nd .lf 13 [r1237, r1238, r1239, r1253, r1255] .lf) 19 [r1198, r1201, r1204, r1205, r1207, r1214, r1228, r1229, r1230, r1232, r1233, r1235, r1236, r1240, r1244, r1245, r1251] .lf) 26 [r1252, r1254] (.nd (.nd .lf 38 [r1231, r1234, r1241, r1243, r1246, r1248, r1249, r1250] .lf) 40 [r1242, r1247] .lf)) 41 [r1219, r1221, r1222, r1223, r1227] (.nd (.nd (.nd .lf 57 [r1200, r1203, r1212] .lf) 178 [r1199, r1202, r1206, r1208, r1209, r1210, r1211, r1213] .lf) 187 [r1215, r1216, r1218] (.nd .lf 188 [r1217, r1220, r1224, r1225, r1226] .lf)))
theorem t3_ok : MemoOk cfg0 (tabM t3) := tabM_ok (t := t3) ⟨⟨⟨⟨trivial, (lcons (rowOk_did M3_ok r1237_ok) (lcons (rowOk_did M3_ok r1238_ok) (lcons (rowOk_did M3_ok r1239_ok) (lcons (rowOk_did M3_ok r1253_ok) (lcons (rowOk_did M3_ok r1255_ok) lnil))))), trivial⟩, (lcons (rowOk_did M3_ok r1198_ok) (lcons (rowOk_did M3_ok r1201_ok) (lcons (rowOk_did M3_ok r1204_ok) (lcons (rowOk_did M3_ok r1205_ok) (lcons (rowOk_did M3_ok r1207_ok) (lcons (rowOk_did M3_ok r1214_ok) (lcons (rowOk_did M3_ok r1228_ok) (lcons (rowOk_did M3_ok r1229_ok) (lcons (rowOk_did M3_ok r1230_ok) (lcons (rowOk_did M3_ok r1232_ok) (lcons (rowOk_did M3_ok r1233_ok) (lcons (rowOk_did M3_ok r1235_ok) (lcons (rowOk_did M3_ok r1236_ok) (lcons (rowOk_did M3_ok r1240_ok) (lcons (rowOk_did M3_ok r1244_ok) (lcons (rowOk_did M3_ok r1245_ok) (lcons (rowOk_did M3_ok r1251_ok) lnil))))))))))))))))), trivial⟩, (lcons (rowOk_did M3_ok r1252_ok) (lcons (rowOk_did M3_ok r1254_ok) lnil)), ⟨⟨trivial, (lcons (rowOk_did M3_ok r1231_ok) (lcons (rowOk_did M3_ok r1234_ok) (lcons (rowOk_did M3_ok r1241_ok) (lcons (rowOk_did M3_ok r1243_ok) (lcons (rowOk_did M3_ok r1246_ok) (lcons (rowOk_did M3_ok r1248_ok) (lcons (rowOk_did M3_ok r1249_ok) (lcons (rowOk_did M3_ok r1250_ok) lnil)))))))), trivial⟩, (lcons (rowOk_did M3_ok r1242_ok) (lcons (rowOk_did M3_ok r1247_ok) lnil)), trivial⟩⟩, (lcons (rowOk_did M3_ok r1219_ok) (lcons (rowOk_did M3_ok r1221_ok) (lcons (rowOk_did M3_ok r1222_ok) (lcons (rowOk_did M3_ok r1223_ok) (lcons (rowOk_did M3_ok r1227_ok) lnil))))), ⟨⟨⟨trivial, (lcons (rowOk_did M3_ok r1200_ok) (lcons (rowOk_did M3_ok r1203_ok) (lcons (rowOk_did M3_ok r1212_ok) lnil))), trivial⟩, (lcons (rowOk_did M3_ok r1199_ok) (lcons (rowOk_did M3_ok r1202_ok) (lcons (rowOk_did M3_ok r1206_ok) (lcons (rowOk_did M3_ok r1208_ok) (lcons (rowOk_did M3_ok r1209_ok) (lcons (rowOk_did M3_ok r1210_ok) (lcons (rowOk_did M3_ok r1211_ok) (lcons (rowOk_did M3_ok r1213_ok) lnil)))))))), trivial⟩, (lcons (rowOk_did M3_ok r1215_ok) (lcons (rowOk_did M3_ok r1216_ok) (lcons (rowOk_did M3_ok r1218_ok) lnil))), ⟨trivial, (lcons (rowOk_did M3_ok r1217_ok) (lcons (rowOk_did M3_ok r1220_ok) (lcons (rowOk_did M3_ok r1224_ok) (lcons (rowOk_did M3_ok r1225_ok) (lcons (rowOk_did M3_ok r1226_ok) lnil))))), trivial⟩⟩⟩
def M4 : Memo := orM (tabM t3) M3
theorem M4_ok : MemoOk cfg0 M4 := orM_ok t3_ok M3_ok
def r1256 : List AV × AV := ([.agg [.bool false, .ro [.int .u32 10] 1, .ro [.int .u32 1] 1], .int .i64 (-3)], .tuple [.agg [.bool false, .ro [.int .u32 1] 1, .ro [.int .u32 1000] 1], .bool true])
theorem r1256_ok : rowOk cfg0 M4 3000 139 r1256 = true := by kernel_rfl
def r1257 : List AV × AV := ([.agg [.bool false, .ro [.int .u32 12] 1, .ro [.int .u32 1] 1], .agg [.int .i64 1, .int .i64 0, .int .i64 0, .int .i64 0, .int .i64 0, .int .i64 0, .int .i64 0, .int .i64 0, .bool false, .ro [.int .u32 127] 1, .ro [.int .u32 5000] 1, .bool false, .e0, .ro [.int .u32 1] 1, .bool false], .agg [.int .i64 1, .int .i64 0, .int .i64 0, .int .i64 0, .int .i64 0, .int .i64 0, .int .i64 0, .int .i64 0, .bool false, .ro [.int .u32 381] 1, .ro [.int .u32 1250] 1, .bool false, .e0, .ro [.int .u32 1] 1, .bool false]], .tuple [.agg [.bool false, .ro [.int .u32 1] 1, .ro [.int .u32 1] 1], .int .i64 0])
theorem r1257_ok : rowOk cfg0 M4 3000 13 r1257 = true := by kernel_rfl
def r1258 : List AV × AV := ([.agg [.bool false, .ro [.int .u32 5] 1, .ro [.int .u32 1] 1], .agg [.int .i64 1, .int .i64 0, .int .i64 0, .int .i64 0, .int .i64 0, .int .i64 0, .int .i64 0, .int .i64 0, .bool false, .ro [.int .u32 381] 1, .ro [.int .u32 1250] 1, .bool false, .e0, .ro [.int .u32 1] 1, .bool false], .agg [.int .i64 1, .int .i64 0, .int .i64 0, .int .i64 0, .int .i64 0, .int .i64 0, .int .i64 0, .int .i64 0, .bool false, .ro [.int .u32 127] 1, .ro [.int .u32 5000] 1, .bool false, .e0, .ro [.int .u32 1] 1, .bool false]], .tuple [.agg [.bool false, .ro [.int .u32 60] 1, .ro [.int .u32 1] 1], .int .i64 0])
theorem r1258_ok : rowOk cfg0 M4 3000 13 r1258 = true := by kernel_rfl
def r1259 : List AV × AV := ([.agg [.bool false, .ro [.int .u32 12] 1, .ro [.int .u32 1] 1], .agg [.int .i64 1, .int .i64 0, .int .i64 0, .int .i64 0, .int .i64 0, .int .i64 0, .int .i64 0, .int .i64 0, .bool false, .ro [.int .u32 127] 1, .ro [.int .u32 5000] 1, .bool false, .e0, .ro [.int .u32 1] 1, .bool false], .agg [.int .i64 1, .int .i64 0, .int .i64 0, .int .i64 0, .int .i64 0, .int .i64 0, .int .i64 0, .int .i64 0, .bool false, .ro [.int .u32 127] 1, .ro [.int .u32 5000] 1, .bool false, .e0, .ro [.int .u32 1] 1, .bool false]], .tuple [.agg [.bool false, .ro [.int .u32 12] 1, .ro [.int .u32 1] 1], .int .i64 0])
theorem r1259_ok : rowOk cfg0 M4 3000 13 r1259 = true := by kernel_rfl
def r1260 : List AV × AV := ([.agg [.bool false, .ro [.int .u32 100] 1, .ro [.int .u32 1] 1], .agg [.int .i64 0, .int .i64 0, .int .i64 1, .int .i64 0, .int .i64 0, .int .i64 0, .int .i64 0, .int .i64 0, .bool false, .ro [.int .u32 1] 1, .ro [.int .u32 1] 1, .bool false, .ro [.int .u32 5463] 1, .ro [.int .u32 20] 1, .bool true], .agg [.int .i64 0, .int .i64 0, .int .i64 1, .int .i64 0, .int .i64 0, .int .i64 0, .int .i64 0, .int .i64 0, .bool false, .ro [.int .u32 5] 1, .ro [.int .u32 9] 1, .bool false, .ro [.int .u32 45967] 1, .ro [.int .u32 180] 1, .bool true]], .tuple [.agg [.bool false, .ro [.int .u32 212] 1, .ro [.int .u32 1] 1], .int .i64 0])
theorem r1260_ok : rowOk cfg0 M4 3000 13 r1260 = true := by kernel_rfl
def r1261 : List AV × AV := ([.agg [.bool false, .ro [.int .u32 32] 1, .ro [.int .u32 1] 1], .agg [.int .i64 0, .int .i64 0, .int .i64 1, .int .i64 0, .int .i64 0, .int .i64 0, .int .i64 0, .int .i64 0, .bool false, .ro [.int .u32 5] 1, .ro [.int .u32 9] 1, .bool false, .ro [.int .u32 45967] 1, .ro [.int .u32 180] 1, .bool true], .agg [.int .i64 0, .int .i64 0, .int .i64 1, .int .i64 0, .int .i64 0, .int .i64 0, .int .i64 0, .int .i64 0, .bool false, .ro [.int .u32 1] 1, .ro [.int .u32 1] 1, .bool false, .ro [.int .u32 5463] 1, .ro [.int .u32 20] 1, .bool true]], .tuple [.agg [.bool false, .nilsl, .ro [.int .u32 1] 1], .int .i64 0])
theorem r1261_ok : rowOk cfg0 M4 3000 13 r1261 = true := by kernel_rfl
def r1262 : List AV × AV := ([.agg [.bool false, .e0, .ro [.int .u32 1] 1], .agg [.int .i64 0, .int .i64 0, .int .i64 1, .int .i64 0, .int .i64 0, .int .i64 0, .int .i64 0, .int .i64 0, .bool false, .ro [.int .u32 1] 1, .ro [.int .u32 1] 1, .bool false, .ro [.int .u32 5463] 1, .ro [.int .u32 20] 1, .bool true], .agg [.int .i64 0, .int .i64 0, .int .i64 1, .int .i64 0, .int .i64 0, .int .i64 0, .int .i64 0, .int .i64 0, .bool false, .ro [.int .u32 1] 1, .ro [.int .u32 1] 1, .bool false, .e0, .ro [.int .u32 1] 1, .bool false]], .tuple [.agg [.bool false, .ro [.int .u32 5463] 1, .ro [.int .u32 20] 1], .int .i64 0])
theorem r1262_ok : rowOk cfg0 M4 3000 13 r1262 = true := by kernel_rfl
end Go.Am.convKnown
