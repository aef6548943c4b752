/- AwakeF: calls on its road whose answers are kept, each run by the kernel over those ahead of it (part 2). Written by wip/gen/memo2lean.py. -/
import Derived.Test.YteplpnnbcjjjjaaGreatDoorAwakeFRun1
import Derived.Test.YteplpnnbcjjjjaaGreatDoorAmCfgA
import Derived.Test.YteplpnnbcjjjjaaGreatDoorAmMemo
import Derived.KernelRfl
namespace Go.Am.awakeF
set_option maxRecDepth 100000
open Go.Am
def r879 : List AV × AV := ([.ro [.int .i64 60] 1, .ro [.int .i64 47] 1], .tuple [.ro [.int .i64 1] 1, .ro [.int .i64 13] 1])
theorem r879_ok : rowOk cfg0 M1 3000 78 r879 = true := by kernel_rfl
def r880 : List AV × AV := ([.ro [.int .i64 47] 1, .ro [.int .i64 13] 1], .tuple [.ro [.int .i64 3] 1, .ro [.int .i64 8] 1])
theorem r880_ok : rowOk cfg0 M1 3000 78 r880 = true := by kernel_rfl
def r881 : List AV × AV := ([.ro [.int .i64 13] 1, .ro [.int .i64 8] 1], .tuple [.ro [.int .i64 1] 1, .ro [.int .i64 5] 1])
theorem r881_ok : rowOk cfg0 M1 3000 78 r881 = true := by kernel_rfl
def r882 : List AV × AV := ([.ro [.int .i64 8] 1, .ro [.int .i64 5] 1], .tuple [.ro [.int .i64 1] 1, .ro [.int .i64 3] 1])
theorem r882_ok : rowOk cfg0 M1 3000 78 r882 = true := by kernel_rfl
def r883 : List AV × AV := ([.ro [.int .i64 5] 1, .ro [.int .i64 3] 1], .tuple [.ro [.int .i64 1] 1, .ro [.int .i64 2] 1])
theorem r883_ok : rowOk cfg0 M1 3000 78 r883 = true := by kernel_rfl
def r884 : List AV × AV := ([.ro [.int .i64 3] 1, .ro [.int .i64 2] 1], .tuple [.ro [.int .i64 1] 1, .ro [.int .i64 1] 1])
theorem r884_ok : rowOk cfg0 M1 3000 78 r884 = true := by kernel_rfl
def r885 : List AV × AV := ([.ro [.int .i64 2] 1, .ro [.int .i64 1] 1], .tuple [.ro [.int .i64 2] 1, .e0])
theorem r885_ok : rowOk cfg0 M1 3000 78 r885 = true := by kernel_rfl
def r886 : List AV × AV := ([.ro [.int .i64 381] 1, .ro [.int .i64 1] 1], .tuple [.ro [.int .i64 381] 1, .e0])
theorem r886_ok : rowOk cfg0 M1 3000 78 r886 = true := by kernel_rfl
def r887 : List AV × AV := ([.ro [.int .i64 1250] 1, .ro [.int .i64 1] 1], .tuple [.ro [.int .i64 1250] 1, .e0])
theorem r887_ok : rowOk cfg0 M1 3000 78 r887 = true := by kernel_rfl
def r888 : List AV × AV := ([.str [109, 101, 116, 101, 114]], .tuple [.ro [.str [109, 101, 116, 101, 114]] 1, .int .i64 0])
theorem r888_ok : rowOk cfg0 M1 3000 220 r888 = true := by kernel_rfl
def r889 : List AV × AV := ([.agg [.int .i64 1, .int .i64 0, .int .i64 0, .int .i64 0, .int .i64 0, .int .i64 0, .int .i64 0, .int .i64 0], .int .i64 1], .tuple [.agg [.int .i64 1, .int .i64 0, .int .i64 0, .int .i64 0, .int .i64 0, .int .i64 0, .int .i64 0, .int .i64 0], .bool true])
theorem r889_ok : rowOk cfg0 M1 3000 80 r889 = true := by kernel_rfl
def r890 : List AV × AV := ([.agg [.int .i64 0, .int .i64 0, .int .i64 0, .int .i64 0, .int .i64 0, .int .i64 0, .int .i64 0, .int .i64 0], .agg [.int .i64 1, .int .i64 0, .int .i64 0, .int .i64 0, .int .i64 0, .int .i64 0, .int .i64 0, .int .i64 0]], .tuple [.agg [.int .i64 1, .int .i64 0, .int .i64 0, .int .i64 0, .int .i64 0, .int .i64 0, .int .i64 0, .int .i64 0], .bool true])
theorem r890_ok : rowOk cfg0 M1 3000 227 r890 = true := by kernel_rfl
def r891 : List AV × AV := ([.ro [.int .i64 1] 1, .ro [.int .i64 12] 1], .tuple [.e0, .ro [.int .i64 1] 1])
theorem r891_ok : rowOk cfg0 M1 3000 78 r891 = true := by kernel_rfl
def r892 : List AV × AV := ([.ro [.int .i64 12] 1, .ro [.int .i64 1] 1], .tuple [.ro [.int .i64 12] 1, .e0])
theorem r892_ok : rowOk cfg0 M1 3000 78 r892 = true := by kernel_rfl
def r893 : List AV × AV := ([.str [102, 111, 111, 116]], .tuple [.ro [.str [102, 111, 111, 116]] 1, .int .i64 0])
theorem r893_ok : rowOk cfg0 M1 3000 220 r893 = true := by kernel_rfl
def r894 : List AV × AV := ([.ro [.int .i64 5000, .int .i64 1] 2, .ro [.int .i64 381] 1], .tuple [.ro [.int .i64 39] 1, .ro [.int .i64 141] 1])
theorem r894_ok : rowOk cfg0 M1 3000 78 r894 = true := by kernel_rfl
def r895 : List AV × AV := ([.ro [.int .i64 381] 1, .ro [.int .i64 141] 1], .tuple [.ro [.int .i64 2] 1, .ro [.int .i64 99] 1])
theorem r895_ok : rowOk cfg0 M1 3000 78 r895 = true := by kernel_rfl
def r896 : List AV × AV := ([.ro [.int .i64 141] 1, .ro [.int .i64 99] 1], .tuple [.ro [.int .i64 1] 1, .ro [.int .i64 42] 1])
theorem r896_ok : rowOk cfg0 M1 3000 78 r896 = true := by kernel_rfl
def r897 : List AV × AV := ([.ro [.int .i64 99] 1, .ro [.int .i64 42] 1], .tuple [.ro [.int .i64 2] 1, .ro [.int .i64 15] 1])
theorem r897_ok : rowOk cfg0 M1 3000 78 r897 = true := by kernel_rfl
def r898 : List AV × AV := ([.ro [.int .i64 42] 1, .ro [.int .i64 15] 1], .tuple [.ro [.int .i64 2] 1, .ro [.int .i64 12] 1])
theorem r898_ok : rowOk cfg0 M1 3000 78 r898 = true := by kernel_rfl
def r899 : List AV × AV := ([.ro [.int .i64 15] 1, .ro [.int .i64 12] 1], .tuple [.ro [.int .i64 1] 1, .ro [.int .i64 3] 1])
theorem r899_ok : rowOk cfg0 M1 3000 78 r899 = true := by kernel_rfl
def r900 : List AV × AV := ([.ro [.int .i64 12] 1, .ro [.int .i64 3] 1], .tuple [.ro [.int .i64 4] 1, .e0])
theorem r900_ok : rowOk cfg0 M1 3000 78 r900 = true := by kernel_rfl
def r901 : List AV × AV := ([.ro [.int .i64 381] 1, .ro [.int .i64 3] 1], .tuple [.ro [.int .i64 127] 1, .e0])
theorem r901_ok : rowOk cfg0 M1 3000 78 r901 = true := by kernel_rfl
def r902 : List AV × AV := ([.ro [.int .i64 5000, .int .i64 1] 2, .ro [.int .i64 3] 1], .tuple [.ro [.int .i64 5000] 1, .e0])
theorem r902_ok : rowOk cfg0 M1 3000 78 r902 = true := by kernel_rfl
def r903 : List AV × AV := ([.ro [.int .i64 1143] 1, .ro [.int .i64 1250] 1], .tuple [.e0, .ro [.int .i64 1143] 1])
theorem r903_ok : rowOk cfg0 M1 3000 78 r903 = true := by kernel_rfl
def r904 : List AV × AV := ([.ro [.int .i64 1250] 1, .ro [.int .i64 1143] 1], .tuple [.ro [.int .i64 1] 1, .ro [.int .i64 107] 1])
theorem r904_ok : rowOk cfg0 M1 3000 78 r904 = true := by kernel_rfl
def r905 : List AV × AV := ([.ro [.int .i64 1143] 1, .ro [.int .i64 107] 1], .tuple [.ro [.int .i64 10] 1, .ro [.int .i64 73] 1])
theorem r905_ok : rowOk cfg0 M1 3000 78 r905 = true := by kernel_rfl
def r906 : List AV × AV := ([.ro [.int .i64 107] 1, .ro [.int .i64 73] 1], .tuple [.ro [.int .i64 1] 1, .ro [.int .i64 34] 1])
theorem r906_ok : rowOk cfg0 M1 3000 78 r906 = true := by kernel_rfl
def r907 : List AV × AV := ([.ro [.int .i64 73] 1, .ro [.int .i64 34] 1], .tuple [.ro [.int .i64 2] 1, .ro [.int .i64 5] 1])
theorem r907_ok : rowOk cfg0 M1 3000 78 r907 = true := by kernel_rfl
def r908 : List AV × AV := ([.ro [.int .i64 34] 1, .ro [.int .i64 5] 1], .tuple [.ro [.int .i64 6] 1, .ro [.int .i64 4] 1])
theorem r908_ok : rowOk cfg0 M1 3000 78 r908 = true := by kernel_rfl
def r909 : List AV × AV := ([.ro [.int .i64 5] 1, .ro [.int .i64 4] 1], .tuple [.ro [.int .i64 1] 1, .ro [.int .i64 1] 1])
theorem r909_ok : rowOk cfg0 M1 3000 78 r909 = true := by kernel_rfl
def r910 : List AV × AV := ([.ro [.int .i64 4] 1, .ro [.int .i64 1] 1], .tuple [.ro [.int .i64 4] 1, .e0])
theorem r910_ok : rowOk cfg0 M1 3000 78 r910 = true := by kernel_rfl
def r911 : List AV × AV := ([.ro [.int .i64 1143] 1, .ro [.int .i64 1] 1], .tuple [.ro [.int .i64 1143] 1, .e0])
theorem r911_ok : rowOk cfg0 M1 3000 78 r911 = true := by kernel_rfl
def r912 : List AV × AV := ([.str [54, 48]], .tuple [.agg [.bool false, .ro [.int .i64 60] 1, .ro [.int .i64 1] 1], .bool true])
theorem r912_ok : rowOk cfg0 M1 3000 188 r912 = true := by kernel_rfl
def r913 : List AV × AV := ([.str [115, 101, 99, 111, 110, 100]], .tuple [.ro [.str [115, 101, 99, 111, 110, 100]] 1, .int .i64 0])
theorem r913_ok : rowOk cfg0 M1 3000 220 r913 = true := by kernel_rfl
def r914 : List AV × AV := ([.agg [.int .i64 0, .int .i64 1, .int .i64 0, .int .i64 0, .int .i64 0, .int .i64 0, .int .i64 0, .int .i64 0], .int .i64 1], .tuple [.agg [.int .i64 0, .int .i64 1, .int .i64 0, .int .i64 0, .int .i64 0, .int .i64 0, .int .i64 0, .int .i64 0], .bool true])
theorem r914_ok : rowOk cfg0 M1 3000 80 r914 = true := by kernel_rfl
def r915 : List AV × AV := ([.agg [.int .i64 0, .int .i64 0, .int .i64 0, .int .i64 0, .int .i64 0, .int .i64 0, .int .i64 0, .int .i64 0], .agg [.int .i64 0, .int .i64 1, .int .i64 0, .int .i64 0, .int .i64 0, .int .i64 0, .int .i64 0, .int .i64 0]], .tuple [.agg [.int .i64 0, .int .i64 1, .int .i64 0, .int .i64 0, .int .i64 0, .int .i64 0, .int .i64 0, .int .i64 0], .bool true])
theorem r915_ok : rowOk cfg0 M1 3000 227 r915 = true := by kernel_rfl
def r916 : List AV × AV := ([.ro [.int .i64 60] 1, .ro [.int .i64 1] 1], .tuple [.ro [.int .i64 60] 1, .e0])
theorem r916_ok : rowOk cfg0 M1 3000 78 r916 = true := by kernel_rfl
def r917 : List AV × AV := ([.str [107, 101, 108, 118, 105, 110]], .tuple [.ro [.str [107, 101, 108, 118, 105, 110]] 1, .int .i64 0])
theorem r917_ok : rowOk cfg0 M1 3000 220 r917 = true := by kernel_rfl
def r918 : List AV × AV := ([.ro [.int .i64 7315, .int .i64 2] 2, .ro [.int .i64 100] 1], .tuple [.ro [.int .i64 273] 1, .ro [.int .i64 15] 1])
theorem r918_ok : rowOk cfg0 M1 3000 78 r918 = true := by kernel_rfl
def r919 : List AV × AV := ([.ro [.int .i64 100] 1, .ro [.int .i64 15] 1], .tuple [.ro [.int .i64 6] 1, .ro [.int .i64 10] 1])
theorem r919_ok : rowOk cfg0 M1 3000 78 r919 = true := by kernel_rfl
def r920 : List AV × AV := ([.ro [.int .i64 15] 1, .ro [.int .i64 10] 1], .tuple [.ro [.int .i64 1] 1, .ro [.int .i64 5] 1])
theorem r920_ok : rowOk cfg0 M1 3000 78 r920 = true := by kernel_rfl
def r921 : List AV × AV := ([.ro [.int .i64 10] 1, .ro [.int .i64 5] 1], .tuple [.ro [.int .i64 2] 1, .e0])
theorem r921_ok : rowOk cfg0 M1 3000 78 r921 = true := by kernel_rfl
def r922 : List AV × AV := ([.ro [.int .i64 7315, .int .i64 2] 2, .ro [.int .i64 5] 1], .tuple [.ro [.int .i64 5463] 1, .e0])
theorem r922_ok : rowOk cfg0 M1 3000 78 r922 = true := by kernel_rfl
def r923 : List AV × AV := ([.ro [.int .i64 100] 1, .ro [.int .i64 5] 1], .tuple [.ro [.int .i64 20] 1, .e0])
theorem r923_ok : rowOk cfg0 M1 3000 78 r923 = true := by kernel_rfl
def r924 : List AV × AV := ([.agg [.int .i64 0, .int .i64 0, .int .i64 1, .int .i64 0, .int .i64 0, .int .i64 0, .int .i64 0, .int .i64 0], .int .i64 1], .tuple [.agg [.int .i64 0, .int .i64 0, .int .i64 1, .int .i64 0, .int .i64 0, .int .i64 0, .int .i64 0, .int .i64 0], .bool true])
theorem r924_ok : rowOk cfg0 M1 3000 80 r924 = true := by kernel_rfl
def r925 : List AV × AV := ([.agg [.int .i64 0, .int .i64 0, .int .i64 0, .int .i64 0, .int .i64 0, .int .i64 0, .int .i64 0, .int .i64 0], .agg [.int .i64 0, .int .i64 0, .int .i64 1, .int .i64 0, .int .i64 0, .int .i64 0, .int .i64 0, .int .i64 0]], .tuple [.agg [.int .i64 0, .int .i64 0, .int .i64 1, .int .i64 0, .int .i64 0, .int .i64 0, .int .i64 0, .int .i64 0], .bool true])
theorem r925_ok : rowOk cfg0 M1 3000 227 r925 = true := by kernel_rfl
def r926 : List AV × AV := ([.ro [.int .i64 5] 1, .ro [.int .i64 9] 1], .tuple [.e0, .ro [.int .i64 5] 1])
theorem r926_ok : rowOk cfg0 M1 3000 78 r926 = true := by kernel_rfl
def r927 : List AV × AV := ([.ro [.int .i64 9] 1, .ro [.int .i64 5] 1], .tuple [.ro [.int .i64 1] 1, .ro [.int .i64 4] 1])
theorem r927_ok : rowOk cfg0 M1 3000 78 r927 = true := by kernel_rfl
def r928 : List AV × AV := ([.ro [.int .i64 5] 1, .ro [.int .i64 1] 1], .tuple [.ro [.int .i64 5] 1, .e0])
theorem r928_ok : rowOk cfg0 M1 3000 78 r928 = true := by kernel_rfl
def r929 : List AV × AV := ([.ro [.int .i64 9] 1, .ro [.int .i64 1] 1], .tuple [.ro [.int .i64 9] 1, .e0])
theorem r929_ok : rowOk cfg0 M1 3000 78 r929 = true := by kernel_rfl
def r930 : List AV × AV := ([.ro [.int .i64 5967, .int .i64 4] 2, .ro [.int .i64 180] 1], .tuple [.ro [.int .i64 255] 1, .ro [.int .i64 67] 1])
theorem r930_ok : rowOk cfg0 M1 3000 78 r930 = true := by kernel_rfl
def r931 : List AV × AV := ([.ro [.int .i64 180] 1, .ro [.int .i64 67] 1], .tuple [.ro [.int .i64 2] 1, .ro [.int .i64 46] 1])
theorem r931_ok : rowOk cfg0 M1 3000 78 r931 = true := by kernel_rfl
def r932 : List AV × AV := ([.ro [.int .i64 67] 1, .ro [.int .i64 46] 1], .tuple [.ro [.int .i64 1] 1, .ro [.int .i64 21] 1])
theorem r932_ok : rowOk cfg0 M1 3000 78 r932 = true := by kernel_rfl
def r933 : List AV × AV := ([.ro [.int .i64 46] 1, .ro [.int .i64 21] 1], .tuple [.ro [.int .i64 2] 1, .ro [.int .i64 4] 1])
theorem r933_ok : rowOk cfg0 M1 3000 78 r933 = true := by kernel_rfl
def r934 : List AV × AV := ([.ro [.int .i64 21] 1, .ro [.int .i64 4] 1], .tuple [.ro [.int .i64 5] 1, .ro [.int .i64 1] 1])
theorem r934_ok : rowOk cfg0 M1 3000 78 r934 = true := by kernel_rfl
def r935 : List AV × AV := ([.ro [.int .i64 5967, .int .i64 4] 2, .ro [.int .i64 1] 1], .tuple [.ro [.int .i64 5967, .int .i64 4] 2, .e0])
theorem r935_ok : rowOk cfg0 M1 3000 78 r935 = true := by kernel_rfl
def r936 : List AV × AV := ([.ro [.int .i64 180] 1, .ro [.int .i64 1] 1], .tuple [.ro [.int .i64 180] 1, .e0])
theorem r936_ok : rowOk cfg0 M1 3000 78 r936 = true := by kernel_rfl
def r937 : List AV × AV := ([.str [115, 112, 101, 101, 100]], .tuple [.ro [.str [115, 112, 101, 101, 100]] 1, .int .i64 0])
theorem r937_ok : rowOk cfg0 M1 3000 220 r937 = true := by kernel_rfl
def r938 : List AV × AV := ([.str [109, 101, 116, 101, 114, 45, 112, 101, 114, 45, 115, 101, 99, 111, 110, 100]], .tuple [.ro [.str [109, 101, 116, 101, 114], .str [112, 101, 114], .str [115, 101, 99, 111, 110, 100]] 3, .int .i64 0])
theorem r938_ok : rowOk cfg0 M1 3000 220 r938 = true := by kernel_rfl
def r939 : List AV × AV := ([.agg [.int .i64 0, .int .i64 1, .int .i64 0, .int .i64 0, .int .i64 0, .int .i64 0, .int .i64 0, .int .i64 0], .int .i64 (-1)], .tuple [.agg [.int .i64 0, .int .i64 (-1), .int .i64 0, .int .i64 0, .int .i64 0, .int .i64 0, .int .i64 0, .int .i64 0], .bool true])
theorem r939_ok : rowOk cfg0 M1 3000 80 r939 = true := by kernel_rfl
def r940 : List AV × AV := ([.agg [.int .i64 1, .int .i64 0, .int .i64 0, .int .i64 0, .int .i64 0, .int .i64 0, .int .i64 0, .int .i64 0], .agg [.int .i64 0, .int .i64 (-1), .int .i64 0, .int .i64 0, .int .i64 0, .int .i64 0, .int .i64 0, .int .i64 0]], .tuple [.agg [.int .i64 1, .int .i64 (-1), .int .i64 0, .int .i64 0, .int .i64 0, .int .i64 0, .int .i64 0, .int .i64 0], .bool true])
theorem r940_ok : rowOk cfg0 M1 3000 227 r940 = true := by kernel_rfl
def r941 : List AV × AV := ([.str [97, 114, 101, 97]], .tuple [.ro [.str [97, 114, 101, 97]] 1, .int .i64 0])
theorem r941_ok : rowOk cfg0 M1 3000 220 r941 = true := by kernel_rfl
def r942 : List AV × AV := ([.str [115, 113, 117, 97, 114, 101, 45, 109, 101, 116, 101, 114]], .tuple [.ro [.str [115, 113, 117, 97, 114, 101], .str [109, 101, 116, 101, 114]] 2, .int .i64 0])
theorem r942_ok : rowOk cfg0 M1 3000 220 r942 = true := by kernel_rfl
def r943 : List AV × AV := ([.agg [.int .i64 1, .int .i64 0, .int .i64 0, .int .i64 0, .int .i64 0, .int .i64 0, .int .i64 0, .int .i64 0], .int .i64 2], .tuple [.agg [.int .i64 2, .int .i64 0, .int .i64 0, .int .i64 0, .int .i64 0, .int .i64 0, .int .i64 0, .int .i64 0], .bool true])
theorem r943_ok : rowOk cfg0 M1 3000 80 r943 = true := by kernel_rfl
def r944 : List AV × AV := ([.agg [.int .i64 0, .int .i64 0, .int .i64 0, .int .i64 0, .int .i64 0, .int .i64 0, .int .i64 0, .int .i64 0], .agg [.int .i64 2, .int .i64 0, .int .i64 0, .int .i64 0, .int .i64 0, .int .i64 0, .int .i64 0, .int .i64 0]], .tuple [.agg [.int .i64 2, .int .i64 0, .int .i64 0, .int .i64 0, .int .i64 0, .int .i64 0, .int .i64 0, .int .i64 0], .bool true])
theorem r944_ok : rowOk cfg0 M1 3000 227 r944 = true := by kernel_rfl
def r945 : List AV × AV := ([.str [107, 105, 108, 111, 109, 101, 116, 101, 114, 45, 112, 101, 114, 45, 115, 101, 99, 111, 110, 100]], .tuple [.ro [.str [107, 105, 108, 111, 109, 101, 116, 101, 114], .str [112, 101, 114], .str [115, 101, 99, 111, 110, 100]] 3, .int .i64 0])
theorem r945_ok : rowOk cfg0 M1 3000 220 r945 = true := by kernel_rfl
def r946 : List AV × AV := ([.int .i64 12], .agg [.bool false, .ro [.int .u32 12] 1, .ro [.int .u32 1] 1])
theorem r946_ok : rowOk cfg0 M1 3000 20 r946 = true := by kernel_rfl
def r947 : List AV × AV := ([.agg [.ro [.int .u32 127] 1], .agg [.ro [.int .u32 5000] 1]], .agg [.ro [.int .u32 1] 1])
theorem r947_ok : rowOk cfg0 M1 3000 55 r947 = true := by kernel_rfl
def r948 : List AV × AV := ([.agg [.bool false, .ro [.int .u32 1] 1], .agg [.bool false, .ro [.int .u32 127] 1]], .agg [.bool false, .ro [.int .u32 127] 1])
theorem r948_ok : rowOk cfg0 M1 3000 59 r948 = true := by kernel_rfl
def r949 : List AV × AV := ([.agg [.bool false, .ro [.int .u32 127] 1], .agg [.bool false, .ro [.int .u32 1] 1]], .agg [.bool false, .ro [.int .u32 127] 1])
theorem r949_ok : rowOk cfg0 M1 3000 59 r949 = true := by kernel_rfl
def r950 : List AV × AV := ([.agg [.bool false, .ro [.int .u32 12] 1], .agg [.ro [.int .u32 1] 1]], .tuple [.agg [.bool false, .ro [.int .u32 12] 1, .ro [.int .u32 1] 1], .bool true])
theorem r950_ok : rowOk cfg0 M1 3000 30 r950 = true := by kernel_rfl
def r951 : List AV × AV := ([.agg [.bool false, .ro [.int .u32 12] 1], .agg [.bool false, .ro [.int .u32 127] 1]], .agg [.bool false, .ro [.int .u32 1524] 1])
theorem r951_ok : rowOk cfg0 M1 3000 59 r951 = true := by kernel_rfl
def r952 : List AV × AV := ([.agg [.ro [.int .u32 1524] 1], .agg [.ro [.int .u32 5000] 1]], .agg [.ro [.int .u32 4] 1])
theorem r952_ok : rowOk cfg0 M1 3000 55 r952 = true := by kernel_rfl
def r953 : List AV × AV := ([.agg [.bool false, .e0], .agg [.ro [.int .u32 1] 1]], .tuple [.agg [.bool false, .nilsl, .ro [.int .u32 1] 1], .bool true])
theorem r953_ok : rowOk cfg0 M1 3000 30 r953 = true := by kernel_rfl
def r954 : List AV × AV := ([.agg [.ro [.int .u32 1250] 1], .agg [.ro [.int .u32 381] 1]], .agg [.ro [.int .u32 1] 1])
theorem r954_ok : rowOk cfg0 M1 3000 55 r954 = true := by kernel_rfl
def r955 : List AV × AV := ([.agg [.bool false, .ro [.int .u32 381] 1], .agg [.bool false, .ro [.int .u32 1250] 1]], .agg [.bool false, .ro [.int .u32 476250] 1])
theorem r955_ok : rowOk cfg0 M1 3000 59 r955 = true := by kernel_rfl
def r956 : List AV × AV := ([.agg [.bool false, .ro [.int .u32 476250] 1], .agg [.ro [.int .u32 476250] 1]], .tuple [.agg [.bool false, .ro [.int .u32 1] 1, .ro [.int .u32 1] 1], .bool true])
theorem r956_ok : rowOk cfg0 M1 3000 30 r956 = true := by kernel_rfl
def t1 : Tr (List (List AV × AV)) := (.nd (.nd (.nd (.nd (.nd .lf 20 [r800, r807, r946] .lf) 30 [r808, r820, r832, r838, r950, r953, r956] .lf) 55 [r810, r811, r813, r817, r827, r829, r834, r845, r851, r854, r947, r952, r954] (.nd .lf 59 [r812, r821, r828, r833, r841, r855, r948, r949, r951, r955] .lf)) 61 [r796] (.nd (.nd (.nd .lf 62 [r797] .lf) 71 [r822, r823, r830, r835] .lf) 72 [r818, r839, r846, r857, r860] (.nd .lf 78 [r867, r868, r869, r870, r872, r873, r874, r875, r876, r877, r878, r879, r880, r881, r882, r883, r884, r885, r886, r887, r891, r892, r894, r895, r896, r897, r898, r899, r900, r901, r902, r903, r904, r905, r906, r907, r908, r909, r910, r911, r916, r918, r919, r920, r921, r922, r923, r926, r927, r928, r929, r930, r931, r932, r933, r934, r935, r936] .lf))) 80 [r889, r914, r924, r939, r943] (.nd (.nd (.nd (.nd .lf 133 [r799, r802, r804, r856, r859] .lf) 156 [r806, r815, r816, r825, r826, r837, r843, r844, r849, r850, r852, r853] .lf) 160 [r819, r840, r847, r858, r861] (.nd .lf 186 [r866, r871] .lf)) 188 [r912] (.nd (.nd .lf 217 [r798, r801, r803, r805, r809, r814, r824, r831, r836, r842, r848, r862] .lf) 220 [r863, r864, r865, r888, r893, r913, r917, r937, r938, r941, r942, r945] (.nd .lf 227 [r890, r915, r925, r940, r944] .lf))))
theorem t1_ok : MemoOk cfg0 (tabM t1) := tabM_ok (t := t1) ⟨⟨⟨⟨⟨trivial, (lcons (rowOk_did M1_ok r800_ok) (lcons (rowOk_did M1_ok r807_ok) (lcons (rowOk_did M1_ok r946_ok) lnil))), trivial⟩, (lcons (rowOk_did M1_ok r808_ok) (lcons (rowOk_did M1_ok r820_ok) (lcons (rowOk_did M1_ok r832_ok) (lcons (rowOk_did M1_ok r838_ok) (lcons (rowOk_did M1_ok r950_ok) (lcons (rowOk_did M1_ok r953_ok) (lcons (rowOk_did M1_ok r956_ok) lnil))))))), trivial⟩, (lcons (rowOk_did M1_ok r810_ok) (lcons (rowOk_did M1_ok r811_ok) (lcons (rowOk_did M1_ok r813_ok) (lcons (rowOk_did M1_ok r817_ok) (lcons (rowOk_did M1_ok r827_ok) (lcons (rowOk_did M1_ok r829_ok) (lcons (rowOk_did M1_ok r834_ok) (lcons (rowOk_did M1_ok r845_ok) (lcons (rowOk_did M1_ok r851_ok) (lcons (rowOk_did M1_ok r854_ok) (lcons (rowOk_did M1_ok r947_ok) (lcons (rowOk_did M1_ok r952_ok) (lcons (rowOk_did M1_ok r954_ok) lnil))))))))))))), ⟨trivial, (lcons (rowOk_did M1_ok r812_ok) (lcons (rowOk_did M1_ok r821_ok) (lcons (rowOk_did M1_ok r828_ok) (lcons (rowOk_did M1_ok r833_ok) (lcons (rowOk_did M1_ok r841_ok) (lcons (rowOk_did M1_ok r855_ok) (lcons (rowOk_did M1_ok r948_ok) (lcons (rowOk_did M1_ok r949_ok) (lcons (rowOk_did M1_ok r951_ok) (lcons (rowOk_did M1_ok r955_ok) lnil)))))))))), trivial⟩⟩, (lcons (rowOk_did M1_ok r796_ok) lnil), ⟨⟨⟨trivial, (lcons (rowOk_did M1_ok r797_ok) lnil), trivial⟩, (lcons (rowOk_did M1_ok r822_ok) (lcons (rowOk_did M1_ok r823_ok) (lcons (rowOk_did M1_ok r830_ok) (lcons (rowOk_did M1_ok r835_ok) lnil)))), trivial⟩, (lcons (rowOk_did M1_ok r818_ok) (lcons (rowOk_did M1_ok r839_ok) (lcons (rowOk_did M1_ok r846_ok) (lcons (rowOk_did M1_ok r857_ok) (lcons (rowOk_did M1_ok r860_ok) lnil))))), ⟨trivial, (lcons (rowOk_did M1_ok r867_ok) (lcons (rowOk_did M1_ok r868_ok) (lcons (rowOk_did M1_ok r869_ok) (lcons (rowOk_did M1_ok r870_ok) (lcons (rowOk_did M1_ok r872_ok) (lcons (rowOk_did M1_ok r873_ok) (lcons (rowOk_did M1_ok r874_ok) (lcons (rowOk_did M1_ok r875_ok) (lcons (rowOk_did M1_ok r876_ok) (lcons (rowOk_did M1_ok r877_ok) (lcons (rowOk_did M1_ok r878_ok) (lcons (rowOk_did M1_ok r879_ok) (lcons (rowOk_did M1_ok r880_ok) (lcons (rowOk_did M1_ok r881_ok) (lcons (rowOk_did M1_ok r882_ok) (lcons (rowOk_did M1_ok r883_ok) (lcons (rowOk_did M1_ok r884_ok) (lcons (rowOk_did M1_ok r885_ok) (lcons (rowOk_did M1_ok r886_ok) (lcons (rowOk_did M1_ok r887_ok) (lcons (rowOk_did M1_ok r891_ok) (lcons (rowOk_did M1_ok r892_ok) (lcons (rowOk_did M1_ok r894_ok) (lcons (rowOk_did M1_ok r895_ok) (lcons (rowOk_did M1_ok r896_ok) (lcons (rowOk_did M1_ok r897_ok) (lcons (rowOk_did M1_ok r898_ok) (lcons (rowOk_did M1_ok r899_ok) (lcons (rowOk_did M1_ok r900_ok) (lcons (rowOk_did M1_ok r901_ok) (lcons (rowOk_did M1_ok r902_ok) (lcons (rowOk_did M1_ok r903_ok) (lcons (rowOk_did M1_ok r904_ok) (lcons (rowOk_did M1_ok r905_ok) (lcons (rowOk_did M1_ok r906_ok) (lcons (rowOk_did M1_ok r907_ok) (lcons (rowOk_did M1_ok r908_ok) (lcons (rowOk_did M1_ok r909_ok) (lcons (rowOk_did M1_ok r910_ok) (lcons (rowOk_did M1_ok r911_ok) (lcons (rowOk_did M1_ok r916_ok) (lcons (rowOk_did M1_ok r918_ok) (lcons (rowOk_did M1_ok r919_ok) (lcons (rowOk_did M1_ok r920_ok) (lcons (rowOk_did M1_ok r921_ok) (lcons (rowOk_did M1_ok r922_ok) (lcons (rowOk_did M1_ok r923_ok) (lcons (rowOk_did M1_ok r926_ok) (lcons (rowOk_did M1_ok r927_ok) (lcons (rowOk_did M1_ok r928_ok) (lcons (rowOk_did M1_ok r929_ok) (lcons (rowOk_did M1_ok r930_ok) (lcons (rowOk_did M1_ok r931_ok) (lcons (rowOk_did M1_ok r932_ok) (lcons (rowOk_did M1_ok r933_ok) (lcons (rowOk_did M1_ok r934_ok) (lcons (rowOk_did M1_ok r935_ok) (lcons (rowOk_did M1_ok r936_ok) lnil)))))))))))))))))))))))))))))))))))))))))))))))))))))))))), trivial⟩⟩⟩, (lcons (rowOk_did M1_ok r889_ok) (lcons (rowOk_did M1_ok r914_ok) (lcons (rowOk_did M1_ok r924_ok) (lcons (rowOk_did M1_ok r939_ok) (lcons (rowOk_did M1_ok r943_ok) lnil))))), ⟨⟨⟨⟨trivial, (lcons (rowOk_did M1_ok r799_ok) (lcons (rowOk_did M1_ok r802_ok) (lcons (rowOk_did M1_ok r804_ok) (lcons (rowOk_did M1_ok r856_ok) (lcons (rowOk_did M1_ok r859_ok) lnil))))), trivial⟩, (lcons (rowOk_did M1_ok r806_ok) (lcons (rowOk_did M1_ok r815_ok) (lcons (rowOk_did M1_ok r816_ok) (lcons (rowOk_did M1_ok r825_ok) (lcons (rowOk_did M1_ok r826_ok) (lcons (rowOk_did M1_ok r837_ok) (lcons (rowOk_did M1_ok r843_ok) (lcons (rowOk_did M1_ok r844_ok) (lcons (rowOk_did M1_ok r849_ok) (lcons (rowOk_did M1_ok r850_ok) (lcons (rowOk_did M1_ok r852_ok) (lcons (rowOk_did M1_ok r853_ok) lnil)))))))))))), trivial⟩, (lcons (rowOk_did M1_ok r819_ok) (lcons (rowOk_did M1_ok r840_ok) (lcons (rowOk_did M1_ok r847_ok) (lcons (rowOk_did M1_ok r858_ok) (lcons (rowOk_did M1_ok r861_ok) lnil))))), ⟨trivial, (lcons (rowOk_did M1_ok r866_ok) (lcons (rowOk_did M1_ok r871_ok) lnil)), trivial⟩⟩, (lcons (rowOk_did M1_ok r912_ok) lnil), ⟨⟨trivial, (lcons (rowOk_did M1_ok r798_ok) (lcons (rowOk_did M1_ok r801_ok) (lcons (rowOk_did M1_ok r803_ok) (lcons (rowOk_did M1_ok r805_ok) (lcons (rowOk_did M1_ok r809_ok) (lcons (rowOk_did M1_ok r814_ok) (lcons (rowOk_did M1_ok r824_ok) (lcons (rowOk_did M1_ok r831_ok) (lcons (rowOk_did M1_ok r836_ok) (lcons (rowOk_did M1_ok r842_ok) (lcons (rowOk_did M1_ok r848_ok) (lcons (rowOk_did M1_ok r862_ok) lnil)))))))))))), trivial⟩, (lcons (rowOk_did M1_ok r863_ok) (lcons (rowOk_did M1_ok r864_ok) (lcons (rowOk_did M1_ok r865_ok) (lcons (rowOk_did M1_ok r888_ok) (lcons (rowOk_did M1_ok r893_ok) (lcons (rowOk_did M1_ok r913_ok) (lcons (rowOk_did M1_ok r917_ok) (lcons (rowOk_did M1_ok r937_ok) (lcons (rowOk_did M1_ok r938_ok) (lcons (rowOk_did M1_ok r941_ok) (lcons (rowOk_did M1_ok r942_ok) (lcons (rowOk_did M1_ok r945_ok) lnil)))))))))))), ⟨trivial, (lcons (rowOk_did M1_ok r890_ok) (lcons (rowOk_did M1_ok r915_ok) (lcons (rowOk_did M1_ok r925_ok) (lcons (rowOk_did M1_ok r940_ok) (lcons (rowOk_did M1_ok r944_ok) lnil))))), trivial⟩⟩⟩⟩
def M2 : Memo := orM (tabM t1) M1
theorem M2_ok : MemoOk cfg0 M2 := orM_ok t1_ok M1_ok
def r957 : List AV × AV := ([.str [51]], .tuple [.agg [.bool false, .ro [.int .u32 3] 1], .bool true])
theorem r957_ok : rowOk cfg0 M2 3000 137 r957 = true := by kernel_rfl
def r958 : List AV × AV := ([.str [45, 51]], .tuple [.agg [.bool true, .ro [.int .u32 3] 1], .bool true])
theorem r958_ok : rowOk cfg0 M2 3000 137 r958 = true := by kernel_rfl
def r959 : List AV × AV := ([.agg [.bool false, .ro [.int .u32 1] 1], .agg [.ro [.int .u32 10] 1]], .tuple [.agg [.bool false, .ro [.int .u32 1] 1, .ro [.int .u32 10] 1], .bool true])
theorem r959_ok : rowOk cfg0 M2 3000 30 r959 = true := by kernel_rfl
def r960 : List AV × AV := ([.agg [.bool false, .ro [.int .u32 1] 1], .agg [.ro [.int .u32 100] 1]], .tuple [.agg [.bool false, .ro [.int .u32 1] 1, .ro [.int .u32 100] 1], .bool true])
theorem r960_ok : rowOk cfg0 M2 3000 30 r960 = true := by kernel_rfl
def r961 : List AV × AV := ([.agg [.bool false, .ro [.int .u32 1] 1], .agg [.ro [.int .u32 1000] 1]], .tuple [.agg [.bool false, .ro [.int .u32 1] 1, .ro [.int .u32 1000] 1], .bool true])
theorem r961_ok : rowOk cfg0 M2 3000 30 r961 = true := by kernel_rfl
def r962 : List AV × AV := ([.str [51, 56, 49]], .tuple [.agg [.bool false, .ro [.int .u32 381] 1], .bool true])
theorem r962_ok : rowOk cfg0 M2 3000 137 r962 = true := by kernel_rfl
def r963 : List AV × AV := ([.agg [.bool false, .ro [.int .u32 381] 1], .agg [.ro [.int .u32 1250] 1]], .tuple [.agg [.bool false, .ro [.int .u32 381] 1, .ro [.int .u32 1250] 1], .bool true])
theorem r963_ok : rowOk cfg0 M2 3000 30 r963 = true := by kernel_rfl
def r964 : List AV × AV := ([.agg [.bool false, .ro [.int .u32 1] 1, .ro [.int .u32 1] 1], .agg [.bool false, .ro [.int .u32 1] 1, .ro [.int .u32 1] 1]], .agg [.bool false, .ro [.int .u32 1] 1, .ro [.int .u32 1] 1])
theorem r964_ok : rowOk cfg0 M2 3000 19 r964 = true := by kernel_rfl
def r965 : List AV × AV := ([.str [49]], .tuple [.agg [.bool false, .ro [.int .u32 1] 1], .bool true])
theorem r965_ok : rowOk cfg0 M2 3000 137 r965 = true := by kernel_rfl
def r966 : List AV × AV := ([.agg [.bool false, .ro [.int .u32 1] 1], .agg [.ro [.int .u32 12] 1]], .tuple [.agg [.bool false, .ro [.int .u32 1] 1, .ro [.int .u32 12] 1], .bool true])
theorem r966_ok : rowOk cfg0 M2 3000 30 r966 = true := by kernel_rfl
def r967 : List AV × AV := ([.agg [.bool false, .ro [.int .u32 381] 1], .agg [.ro [.int .u32 15000] 1]], .tuple [.agg [.bool false, .ro [.int .u32 127] 1, .ro [.int .u32 5000] 1], .bool true])
theorem r967_ok : rowOk cfg0 M2 3000 30 r967 = true := by kernel_rfl
def r968 : List AV × AV := ([.agg [.bool false, .ro [.int .u32 3] 1, .ro [.int .u32 1] 1]], .int .i64 1)
theorem r968_ok : rowOk cfg0 M2 3000 57 r968 = true := by kernel_rfl
def r969 : List AV × AV := ([.agg [.bool false, .ro [.int .u32 1143] 1], .agg [.ro [.int .u32 1250] 1]], .tuple [.agg [.bool false, .ro [.int .u32 1143] 1, .ro [.int .u32 1250] 1], .bool true])
theorem r969_ok : rowOk cfg0 M2 3000 30 r969 = true := by kernel_rfl
def r970 : List AV × AV := ([.str [54, 48]], .tuple [.agg [.bool false, .ro [.int .u32 60] 1], .bool true])
theorem r970_ok : rowOk cfg0 M2 3000 137 r970 = true := by kernel_rfl
def r971 : List AV × AV := ([.agg [.bool false, .ro [.int .u32 60] 1, .ro [.int .u32 1] 1]], .int .i64 1)
theorem r971_ok : rowOk cfg0 M2 3000 57 r971 = true := by kernel_rfl
def r972 : List AV × AV := ([.agg [.bool false, .ro [.int .u32 60] 1, .ro [.int .u32 1] 1], .agg [.bool false, .ro [.int .u32 1] 1, .ro [.int .u32 1] 1]], .agg [.bool false, .ro [.int .u32 60] 1, .ro [.int .u32 1] 1])
theorem r972_ok : rowOk cfg0 M2 3000 19 r972 = true := by kernel_rfl
def r973 : List AV × AV := ([.agg [.bool false, .ro [.int .u32 1] 1, .ro [.int .u32 1] 1]], .int .i64 1)
theorem r973_ok : rowOk cfg0 M2 3000 57 r973 = true := by kernel_rfl
def r974 : List AV × AV := ([.str [50, 55, 51, 49, 53]], .tuple [.agg [.bool false, .ro [.int .u32 27315] 1], .bool true])
theorem r974_ok : rowOk cfg0 M2 3000 137 r974 = true := by kernel_rfl
def r975 : List AV × AV := ([.agg [.bool false, .ro [.int .u32 27315] 1], .agg [.ro [.int .u32 100] 1]], .tuple [.agg [.bool false, .ro [.int .u32 5463] 1, .ro [.int .u32 20] 1], .bool true])
theorem r975_ok : rowOk cfg0 M2 3000 30 r975 = true := by kernel_rfl
def r976 : List AV × AV := ([.str [53]], .tuple [.agg [.bool false, .ro [.int .u32 5] 1], .bool true])
theorem r976_ok : rowOk cfg0 M2 3000 137 r976 = true := by kernel_rfl
def r977 : List AV × AV := ([.agg [.bool false, .ro [.int .u32 5] 1], .agg [.ro [.int .u32 9] 1]], .tuple [.agg [.bool false, .ro [.int .u32 5] 1, .ro [.int .u32 9] 1], .bool true])
theorem r977_ok : rowOk cfg0 M2 3000 30 r977 = true := by kernel_rfl
def r978 : List AV × AV := ([.str [52, 53, 57, 54, 55]], .tuple [.agg [.bool false, .ro [.int .u32 45967] 1], .bool true])
theorem r978_ok : rowOk cfg0 M2 3000 137 r978 = true := by kernel_rfl
def r979 : List AV × AV := ([.agg [.bool false, .ro [.int .u32 45967] 1], .agg [.ro [.int .u32 180] 1]], .tuple [.agg [.bool false, .ro [.int .u32 45967] 1, .ro [.int .u32 180] 1], .bool true])
theorem r979_ok : rowOk cfg0 M2 3000 30 r979 = true := by kernel_rfl
def r980 : List AV × AV := ([.agg [.bool false, .ro [.int .i64 10] 1], .ro [.int .i64 1] 1], .agg [.bool false, .ro [.int .i64 10] 1, .ro [.int .i64 1] 1])
theorem r980_ok : rowOk cfg0 M2 3000 33 r980 = true := by kernel_rfl
def r981 : List AV × AV := ([.agg [.bool false, .ro [.int .i64 100] 1], .ro [.int .i64 1] 1], .agg [.bool false, .ro [.int .i64 100] 1, .ro [.int .i64 1] 1])
theorem r981_ok : rowOk cfg0 M2 3000 33 r981 = true := by kernel_rfl
def r982 : List AV × AV := ([.agg [.bool false, .ro [.int .i64 1000] 1], .ro [.int .i64 1] 1], .agg [.bool false, .ro [.int .i64 1000] 1, .ro [.int .i64 1] 1])
theorem r982_ok : rowOk cfg0 M2 3000 33 r982 = true := by kernel_rfl
def r983 : List AV × AV := ([.agg [.bool false, .ro [.int .i64 1] 1], .ro [.int .i64 10] 1], .agg [.bool false, .ro [.int .i64 1] 1, .ro [.int .i64 10] 1])
theorem r983_ok : rowOk cfg0 M2 3000 33 r983 = true := by kernel_rfl
def r984 : List AV × AV := ([.agg [.bool false, .ro [.int .i64 1] 1], .ro [.int .i64 100] 1], .agg [.bool false, .ro [.int .i64 1] 1, .ro [.int .i64 100] 1])
theorem r984_ok : rowOk cfg0 M2 3000 33 r984 = true := by kernel_rfl
def r985 : List AV × AV := ([.agg [.bool false, .ro [.int .i64 1] 1], .ro [.int .i64 1000] 1], .agg [.bool false, .ro [.int .i64 1] 1, .ro [.int .i64 1000] 1])
theorem r985_ok : rowOk cfg0 M2 3000 33 r985 = true := by kernel_rfl
def r986 : List AV × AV := ([.ro [.int .i64 381] 1, .ro [.int .i64 1250] 1], .ro [.int .i64 1] 1)
theorem r986_ok : rowOk cfg0 M2 3000 77 r986 = true := by kernel_rfl
def r987 : List AV × AV := ([.agg [.bool false, .ro [.int .i64 1] 1], .ro [.int .i64 1] 1], .agg [.bool false, .ro [.int .i64 1] 1, .ro [.int .i64 1] 1])
theorem r987_ok : rowOk cfg0 M2 3000 33 r987 = true := by kernel_rfl
def r988 : List AV × AV := ([.agg [.bool false, .ro [.int .i64 1] 1], .ro [.int .i64 12] 1], .agg [.bool false, .ro [.int .i64 1] 1, .ro [.int .i64 12] 1])
theorem r988_ok : rowOk cfg0 M2 3000 33 r988 = true := by kernel_rfl
def r989 : List AV × AV := ([.ro [.int .i64 381] 1, .ro [.int .i64 5000, .int .i64 1] 2], .ro [.int .i64 3] 1)
theorem r989_ok : rowOk cfg0 M2 3000 77 r989 = true := by kernel_rfl
def r990 : List AV × AV := ([.ro [.int .i64 1143] 1, .ro [.int .i64 1250] 1], .ro [.int .i64 1] 1)
theorem r990_ok : rowOk cfg0 M2 3000 77 r990 = true := by kernel_rfl
def r991 : List AV × AV := ([.agg [.bool false, .ro [.int .i64 60] 1], .ro [.int .i64 1] 1], .agg [.bool false, .ro [.int .i64 60] 1, .ro [.int .i64 1] 1])
theorem r991_ok : rowOk cfg0 M2 3000 33 r991 = true := by kernel_rfl
def r992 : List AV × AV := ([.ro [.int .i64 7315, .int .i64 2] 2, .ro [.int .i64 100] 1], .ro [.int .i64 5] 1)
theorem r992_ok : rowOk cfg0 M2 3000 77 r992 = true := by kernel_rfl
def r993 : List AV × AV := ([.ro [.int .i64 5] 1, .ro [.int .i64 9] 1], .ro [.int .i64 1] 1)
theorem r993_ok : rowOk cfg0 M2 3000 77 r993 = true := by kernel_rfl
def r994 : List AV × AV := ([.ro [.int .i64 5967, .int .i64 4] 2, .ro [.int .i64 180] 1], .ro [.int .i64 1] 1)
theorem r994_ok : rowOk cfg0 M2 3000 77 r994 = true := by kernel_rfl
def r995 : List AV × AV := ([.agg [.bool false, .ro [.int .u32 127] 1], .agg [.ro [.int .u32 5000] 1]], .tuple [.agg [.bool false, .ro [.int .u32 127] 1, .ro [.int .u32 5000] 1], .bool true])
theorem r995_ok : rowOk cfg0 M2 3000 30 r995 = true := by kernel_rfl
def r996 : List AV × AV := ([.agg [.bool false, .ro [.int .u32 1524] 1], .agg [.ro [.int .u32 5000] 1]], .tuple [.agg [.bool false, .ro [.int .u32 381] 1, .ro [.int .u32 1250] 1], .bool true])
theorem r996_ok : rowOk cfg0 M2 3000 30 r996 = true := by kernel_rfl
def r997 : List AV × AV := ([.agg [.bool false, .ro [.int .u32 1250] 1], .agg [.ro [.int .u32 381] 1]], .tuple [.agg [.bool false, .ro [.int .u32 1250] 1, .ro [.int .u32 381] 1], .bool true])
theorem r997_ok : rowOk cfg0 M2 3000 30 r997 = true := by kernel_rfl
def r998 : List AV × AV := ([.agg [.bool false, .ro [.int .u32 1] 1, .ro [.int .u32 1] 1]], .str [49])
theorem r998_ok : rowOk cfg0 M2 3000 26 r998 = true := by kernel_rfl
def t2 : Tr (List (List AV × AV)) := (.nd (.nd (.nd .lf 19 [r964, r972] .lf) 26 [r998] (.nd .lf 30 [r959, r960, r961, r963, r966, r967, r969, r975, r977, r979, r995, r996, r997] .lf)) 33 [r980, r981, r982, r983, r984, r985, r987, r988, r991] (.nd (.nd .lf 57 [r968, r971, r973] .lf) 77 [r986, r989, r990, r992, r993, r994] (.nd .lf 137 [r957, r958, r962, r965, r970, r974, r976, r978] .lf)))
theorem t2_ok : MemoOk cfg0 (tabM t2) := tabM_ok (t := t2) ⟨⟨⟨trivial, (lcons (rowOk_did M2_ok r964_ok) (lcons (rowOk_did M2_ok r972_ok) lnil)), trivial⟩, (lcons (rowOk_did M2_ok r998_ok) lnil), ⟨trivial, (lcons (rowOk_did M2_ok r959_ok) (lcons (rowOk_did M2_ok r960_ok) (lcons (rowOk_did M2_ok r961_ok) (lcons (rowOk_did M2_ok r963_ok) (lcons (rowOk_did M2_ok r966_ok) (lcons (rowOk_did M2_ok r967_ok) (lcons (rowOk_did M2_ok r969_ok) (lcons (rowOk_did M2_ok r975_ok) (lcons (rowOk_did M2_ok r977_ok) (lcons (rowOk_did M2_ok r979_ok) (lcons (rowOk_did M2_ok r995_ok) (lcons (rowOk_did M2_ok r996_ok) (lcons (rowOk_did M2_ok r997_ok) lnil))))))))))))), trivial⟩⟩, (lcons (rowOk_did M2_ok r980_ok) (lcons (rowOk_did M2_ok r981_ok) (lcons (rowOk_did M2_ok r982_ok) (lcons (rowOk_did M2_ok r983_ok) (lcons (rowOk_did M2_ok r984_ok) (lcons (rowOk_did M2_ok r985_ok) (lcons (rowOk_did M2_ok r987_ok) (lcons (rowOk_did M2_ok r988_ok) (lcons (rowOk_did M2_ok r991_ok) lnil))))))))), ⟨⟨trivial, (lcons (rowOk_did M2_ok r968_ok) (lcons (rowOk_did M2_ok r971_ok) (lcons (rowOk_did M2_ok r973_ok) lnil))), trivial⟩, (lcons (rowOk_did M2_ok r986_ok) (lcons (rowOk_did M2_ok r989_ok) (lcons (rowOk_did M2_ok r990_ok) (lcons (rowOk_did M2_ok r992_ok) (lcons (rowOk_did M2_ok r993_ok) (lcons (rowOk_did M2_ok r994_ok) lnil)))))), ⟨trivial, (lcons (rowOk_did M2_ok r957_ok) (lcons (rowOk_did M2_ok r958_ok) (lcons (rowOk_did M2_ok r962_ok) (lcons (rowOk_did M2_ok r965_ok) (lcons (rowOk_did M2_ok r970_ok) (lcons (rowOk_did M2_ok r974_ok) (lcons (rowOk_did M2_ok r976_ok) (lcons (rowOk_did M2_ok r978_ok) lnil)))))))), trivial⟩⟩⟩
def M3 : Memo := orM (tabM t2) M2
theorem M3_ok : MemoOk cfg0 M3 := orM_ok t2_ok M2_ok
def r999 : List AV × AV := ([.agg [.bool false, .ro [.int .u32 1] 1, .ro [.int .u32 10] 1], .agg [.bool false, .ro [.int .u32 1] 1, .ro [.int .u32 100] 1]], .agg [.bool false, .ro [.int .u32 1] 1, .ro [.int .u32 1000] 1])
theorem r999_ok : rowOk cfg0 M3 3000 19 r999 = true := by kernel_rfl
def r1000 : List AV × AV := ([.str [51, 56, 49, 47, 49, 50, 53, 48]], .tuple [.agg [.bool false, .ro [.int .u32 381] 1, .ro [.int .u32 1250] 1], .bool true])
theorem r1000_ok : rowOk cfg0 M3 3000 178 r1000 = true := by kernel_rfl
def r1001 : List AV × AV := ([.agg [.bool false, .ro [.int .u32 381] 1, .ro [.int .u32 1250] 1]], .int .i64 1)
theorem r1001_ok : rowOk cfg0 M3 3000 57 r1001 = true := by kernel_rfl
def r1002 : List AV × AV := ([.agg [.bool false, .ro [.int .u32 381] 1, .ro [.int .u32 1250] 1], .agg [.bool false, .ro [.int .u32 1] 1, .ro [.int .u32 1] 1]], .agg [.bool false, .ro [.int .u32 381] 1, .ro [.int .u32 1250] 1])
theorem r1002_ok : rowOk cfg0 M3 3000 19 r1002 = true := by kernel_rfl
def r1003 : List AV × AV := ([.str [49, 47, 49, 50]], .tuple [.agg [.bool false, .ro [.int .u32 1] 1, .ro [.int .u32 12] 1], .bool true])
theorem r1003_ok : rowOk cfg0 M3 3000 178 r1003 = true := by kernel_rfl
def r1004 : List AV × AV := ([.agg [.bool false, .ro [.int .u32 1] 1, .ro [.int .u32 12] 1]], .int .i64 1)
theorem r1004_ok : rowOk cfg0 M3 3000 57 r1004 = true := by kernel_rfl
def r1005 : List AV × AV := ([.agg [.bool false, .ro [.int .u32 1] 1, .ro [.int .u32 1] 1], .agg [.bool false, .ro [.int .u32 381] 1, .ro [.int .u32 1250] 1]], .agg [.bool false, .ro [.int .u32 381] 1, .ro [.int .u32 1250] 1])
theorem r1005_ok : rowOk cfg0 M3 3000 19 r1005 = true := by kernel_rfl
def r1006 : List AV × AV := ([.agg [.bool false, .ro [.int .u32 1] 1, .ro [.int .u32 12] 1], .agg [.bool false, .ro [.int .u32 381] 1, .ro [.int .u32 1250] 1]], .agg [.bool false, .ro [.int .u32 127] 1, .ro [.int .u32 5000] 1])
theorem r1006_ok : rowOk cfg0 M3 3000 19 r1006 = true := by kernel_rfl
def r1007 : List AV × AV := ([.str [51]], .tuple [.agg [.bool false, .ro [.int .u32 3] 1, .ro [.int .u32 1] 1], .bool true])
theorem r1007_ok : rowOk cfg0 M3 3000 178 r1007 = true := by kernel_rfl
def r1008 : List AV × AV := ([.agg [.bool false, .ro [.int .u32 3] 1, .ro [.int .u32 1] 1], .agg [.bool false, .ro [.int .u32 381] 1, .ro [.int .u32 1250] 1]], .agg [.bool false, .ro [.int .u32 1143] 1, .ro [.int .u32 1250] 1])
theorem r1008_ok : rowOk cfg0 M3 3000 19 r1008 = true := by kernel_rfl
def r1009 : List AV × AV := ([.str [54, 48]], .tuple [.agg [.bool false, .ro [.int .u32 60] 1, .ro [.int .u32 1] 1], .bool true])
theorem r1009_ok : rowOk cfg0 M3 3000 178 r1009 = true := by kernel_rfl
def r1010 : List AV × AV := ([.str [49]], .tuple [.agg [.bool false, .ro [.int .u32 1] 1, .ro [.int .u32 1] 1], .bool true])
theorem r1010_ok : rowOk cfg0 M3 3000 178 r1010 = true := by kernel_rfl
def r1011 : List AV × AV := ([.str [50, 55, 51, 49, 53, 47, 49, 48, 48]], .tuple [.agg [.bool false, .ro [.int .u32 5463] 1, .ro [.int .u32 20] 1], .bool true])
theorem r1011_ok : rowOk cfg0 M3 3000 178 r1011 = true := by kernel_rfl
def r1012 : List AV × AV := ([.str [53, 47, 57]], .tuple [.agg [.bool false, .ro [.int .u32 5] 1, .ro [.int .u32 9] 1], .bool true])
theorem r1012_ok : rowOk cfg0 M3 3000 178 r1012 = true := by kernel_rfl
def r1013 : List AV × AV := ([.agg [.bool false, .ro [.int .u32 5] 1, .ro [.int .u32 9] 1]], .int .i64 1)
theorem r1013_ok : rowOk cfg0 M3 3000 57 r1013 = true := by kernel_rfl
def r1014 : List AV × AV := ([.str [52, 53, 57, 54, 55, 47, 49, 56, 48]], .tuple [.agg [.bool false, .ro [.int .u32 45967] 1, .ro [.int .u32 180] 1], .bool true])
theorem r1014_ok : rowOk cfg0 M3 3000 178 r1014 = true := by kernel_rfl
def r1015 : List AV × AV := ([.agg [.bool false, .ro [.int .u32 5] 1, .ro [.int .u32 9] 1], .agg [.bool false, .ro [.int .u32 1] 1, .ro [.int .u32 1] 1]], .agg [.bool false, .ro [.int .u32 5] 1, .ro [.int .u32 9] 1])
theorem r1015_ok : rowOk cfg0 M3 3000 19 r1015 = true := by kernel_rfl
def r1016 : List AV × AV := ([.agg [.bool false, .ro [.int .i64 10] 1, .ro [.int .i64 1] 1], .int .i64 3], .tuple [.agg [.bool false, .ro [.int .i64 1000] 1, .ro [.int .i64 1] 1], .bool true])
theorem r1016_ok : rowOk cfg0 M3 3000 187 r1016 = true := by kernel_rfl
def r1017 : List AV × AV := ([.agg [.bool false, .ro [.int .i64 10] 1, .ro [.int .i64 1] 1], .int .i64 (-3)], .tuple [.agg [.bool false, .ro [.int .i64 1] 1, .ro [.int .i64 1000] 1], .bool true])
theorem r1017_ok : rowOk cfg0 M3 3000 187 r1017 = true := by kernel_rfl
def r1018 : List AV × AV := ([.str [51, 56, 49, 47, 49, 50, 53, 48]], .tuple [.agg [.bool false, .ro [.int .i64 381] 1, .ro [.int .i64 1250] 1], .bool true])
theorem r1018_ok : rowOk cfg0 M3 3000 188 r1018 = true := by kernel_rfl
def r1019 : List AV × AV := ([.agg [.bool false, .ro [.int .i64 1] 1, .ro [.int .i64 1] 1], .int .i64 1], .tuple [.agg [.bool false, .ro [.int .i64 1] 1, .ro [.int .i64 1] 1], .bool true])
theorem r1019_ok : rowOk cfg0 M3 3000 187 r1019 = true := by kernel_rfl
def r1020 : List AV × AV := ([.agg [.bool false, .ro [.int .i64 1] 1, .ro [.int .i64 1] 1], .agg [.bool false, .ro [.int .i64 381] 1, .ro [.int .i64 1250] 1]], .agg [.bool false, .ro [.int .i64 381] 1, .ro [.int .i64 1250] 1])
theorem r1020_ok : rowOk cfg0 M3 3000 41 r1020 = true := by kernel_rfl
def r1021 : List AV × AV := ([.str [49, 47, 49, 50]], .tuple [.agg [.bool false, .ro [.int .i64 1] 1, .ro [.int .i64 12] 1], .bool true])
theorem r1021_ok : rowOk cfg0 M3 3000 188 r1021 = true := by kernel_rfl
def r1022 : List AV × AV := ([.agg [.bool false, .ro [.int .i64 381] 1, .ro [.int .i64 1250] 1], .agg [.bool false, .ro [.int .i64 1] 1, .ro [.int .i64 1] 1]], .agg [.bool false, .ro [.int .i64 381] 1, .ro [.int .i64 1250] 1])
theorem r1022_ok : rowOk cfg0 M3 3000 41 r1022 = true := by kernel_rfl
def r1023 : List AV × AV := ([.agg [.bool false, .ro [.int .i64 381] 1, .ro [.int .i64 1250] 1], .agg [.bool false, .ro [.int .i64 1] 1, .ro [.int .i64 12] 1]], .agg [.bool false, .ro [.int .i64 127] 1, .ro [.int .i64 5000] 1])
theorem r1023_ok : rowOk cfg0 M3 3000 41 r1023 = true := by kernel_rfl
def r1024 : List AV × AV := ([.agg [.bool false, .ro [.int .i64 381] 1, .ro [.int .i64 1250] 1], .agg [.bool false, .ro [.int .i64 3] 1, .ro [.int .i64 1] 1]], .agg [.bool false, .ro [.int .i64 1143] 1, .ro [.int .i64 1250] 1])
theorem r1024_ok : rowOk cfg0 M3 3000 41 r1024 = true := by kernel_rfl
def r1025 : List AV × AV := ([.str [50, 55, 51, 49, 53, 47, 49, 48, 48]], .tuple [.agg [.bool false, .ro [.int .i64 5463] 1, .ro [.int .i64 20] 1], .bool true])
theorem r1025_ok : rowOk cfg0 M3 3000 188 r1025 = true := by kernel_rfl
def r1026 : List AV × AV := ([.str [53, 47, 57]], .tuple [.agg [.bool false, .ro [.int .i64 5] 1, .ro [.int .i64 9] 1], .bool true])
theorem r1026_ok : rowOk cfg0 M3 3000 188 r1026 = true := by kernel_rfl
def r1027 : List AV × AV := ([.str [52, 53, 57, 54, 55, 47, 49, 56, 48]], .tuple [.agg [.bool false, .ro [.int .i64 5967, .int .i64 4] 2, .ro [.int .i64 180] 1], .bool true])
theorem r1027_ok : rowOk cfg0 M3 3000 188 r1027 = true := by kernel_rfl
def r1028 : List AV × AV := ([.agg [.bool false, .ro [.int .i64 1] 1, .ro [.int .i64 1] 1], .agg [.bool false, .ro [.int .i64 5] 1, .ro [.int .i64 9] 1]], .agg [.bool false, .ro [.int .i64 5] 1, .ro [.int .i64 9] 1])
theorem r1028_ok : rowOk cfg0 M3 3000 41 r1028 = true := by kernel_rfl
def r1029 : List AV × AV := ([.agg [.bool false, .ro [.int .u32 1] 1, .ro [.int .u32 1] 1], .agg [.bool false, .ro [.int .u32 127] 1, .ro [.int .u32 5000] 1]], .agg [.bool false, .ro [.int .u32 127] 1, .ro [.int .u32 5000] 1])
theorem r1029_ok : rowOk cfg0 M3 3000 19 r1029 = true := by kernel_rfl
def r1030 : List AV × AV := ([.agg [.bool false, .ro [.int .u32 127] 1, .ro [.int .u32 5000] 1], .agg [.bool false, .ro [.int .u32 1] 1, .ro [.int .u32 1] 1]], .agg [.bool false, .ro [.int .u32 127] 1, .ro [.int .u32 5000] 1])
theorem r1030_ok : rowOk cfg0 M3 3000 19 r1030 = true := by kernel_rfl
def r1031 : List AV × AV := ([.agg [.bool false, .ro [.int .u32 12] 1, .ro [.int .u32 1] 1], .agg [.bool false, .ro [.int .u32 127] 1, .ro [.int .u32 5000] 1]], .agg [.bool false, .ro [.int .u32 381] 1, .ro [.int .u32 1250] 1])
theorem r1031_ok : rowOk cfg0 M3 3000 19 r1031 = true := by kernel_rfl
def r1032 : List AV × AV := ([.agg [.bool false, .ro [.int .u32 381] 1, .ro [.int .u32 1250] 1], .agg [.bool false, .e0, .ro [.int .u32 1] 1]], .agg [.bool false, .ro [.int .u32 381] 1, .ro [.int .u32 1250] 1])
theorem r1032_ok : rowOk cfg0 M3 3000 38 r1032 = true := by kernel_rfl
def r1033 : List AV × AV := ([.agg [.bool false, .ro [.int .u32 381] 1, .ro [.int .u32 1250] 1], .agg [.bool false, .ro [.int .u32 1250] 1, .ro [.int .u32 381] 1]], .agg [.bool false, .ro [.int .u32 1] 1, .ro [.int .u32 1] 1])
theorem r1033_ok : rowOk cfg0 M3 3000 19 r1033 = true := by kernel_rfl
def t3 : Tr (List (List AV × AV)) := (.nd (.nd (.nd .lf 19 [r999, r1002, r1005, r1006, r1008, r1015, r1029, r1030, r1031, r1033] .lf) 38 [r1032] (.nd .lf 41 [r1020, r1022, r1023, r1024, r1028] .lf)) 57 [r1001, r1004, r1013] (.nd (.nd .lf 178 [r1000, r1003, r1007, r1009, r1010, r1011, r1012, r1014] .lf) 187 [r1016, r1017, r1019] (.nd .lf 188 [r1018, r1021, r1025, r1026, r1027] .lf)))
theorem t3_ok : MemoOk cfg0 (tabM t3) := tabM_ok (t := t3) ⟨⟨⟨trivial, (lcons (rowOk_did M3_ok r999_ok) (lcons (rowOk_did M3_ok r1002_ok) (lcons (rowOk_did M3_ok r1005_ok) (lcons (rowOk_did M3_ok r1006_ok) (lcons (rowOk_did M3_ok r1008_ok) (lcons (rowOk_did M3_ok r1015_ok) (lcons (rowOk_did M3_ok r1029_ok) (lcons (rowOk_did M3_ok r1030_ok) (lcons (rowOk_did M3_ok r1031_ok) (lcons (rowOk_did M3_ok r1033_ok) lnil)))))))))), trivial⟩, (lcons (rowOk_did M3_ok r1032_ok) lnil), ⟨trivial, (lcons (rowOk_did M3_ok r1020_ok) (lcons (rowOk_did M3_ok r1022_ok) (lcons (rowOk_did M3_ok r1023_ok) (lcons (rowOk_did M3_ok r1024_ok) (lcons (rowOk_did M3_ok r1028_ok) lnil))))), trivial⟩⟩, (lcons (rowOk_did M3_ok r1001_ok) (lcons (rowOk_did M3_ok r1004_ok) (lcons (rowOk_did M3_ok r1013_ok) lnil))), ⟨⟨trivial, (lcons (rowOk_did M3_ok r1000_ok) (lcons (rowOk_did M3_ok r1003_ok) (lcons (rowOk_did M3_ok r1007_ok) (lcons (rowOk_did M3_ok r1009_ok) (lcons (rowOk_did M3_ok r1010_ok) (lcons (rowOk_did M3_ok r1011_ok) (lcons (rowOk_did M3_ok r1012_ok) (lcons (rowOk_did M3_ok r1014_ok) lnil)))))))), trivial⟩, (lcons (rowOk_did M3_ok r1016_ok) (lcons (rowOk_did M3_ok r1017_ok) (lcons (rowOk_did M3_ok r1019_ok) lnil))), ⟨trivial, (lcons (rowOk_did M3_ok r1018_ok) (lcons (rowOk_did M3_ok r1021_ok) (lcons (rowOk_did M3_ok r1025_ok) (lcons (rowOk_did M3_ok r1026_ok) (lcons (rowOk_did M3_ok r1027_ok) lnil))))), trivial⟩⟩⟩
def M4 : Memo := orM (tabM t3) M3
theorem M4_ok : MemoOk cfg0 M4 := orM_ok t3_ok M3_ok
def r1034 : List AV × AV := ([.agg [.bool false, .ro [.int .u32 10] 1, .ro [.int .u32 1] 1], .int .i64 (-3)], .tuple [.agg [.bool false, .ro [.int .u32 1] 1, .ro [.int .u32 1000] 1], .bool true])
theorem r1034_ok : rowOk cfg0 M4 3000 139 r1034 = true := by kernel_rfl
def r1035 : List AV × AV := ([.agg [.bool false, .ro [.int .u32 12] 1, .ro [.int .u32 1] 1], .agg [.int .i64 1, .int .i64 0, .int .i64 0, .int .i64 0, .int .i64 0, .int .i64 0, .int .i64 0, .int .i64 0, .bool false, .ro [.int .u32 127] 1, .ro [.int .u32 5000] 1, .bool false, .e0, .ro [.int .u32 1] 1, .bool false], .agg [.int .i64 1, .int .i64 0, .int .i64 0, .int .i64 0, .int .i64 0, .int .i64 0, .int .i64 0, .int .i64 0, .bool false, .ro [.int .u32 381] 1, .ro [.int .u32 1250] 1, .bool false, .e0, .ro [.int .u32 1] 1, .bool false]], .tuple [.agg [.bool false, .ro [.int .u32 1] 1, .ro [.int .u32 1] 1], .int .i64 0])
theorem r1035_ok : rowOk cfg0 M4 3000 13 r1035 = true := by kernel_rfl
end Go.Am.awakeF
