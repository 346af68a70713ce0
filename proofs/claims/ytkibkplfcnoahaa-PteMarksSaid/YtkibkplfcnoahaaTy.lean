/- The types of this translation, as the abstract machine reads them: closed facts. -/
import Derived.Test.YtkibkplfcnoahaaProg
import Derived.Test.YtkibkplfcnoahaaAm
namespace Go.Proofs.Ytkibkplfcnoahaa
open Go.Am
set_option maxRecDepth 100000
theorem hmix : Try.prog.follows .mixedOrders = true := by kernel_rfl
theorem dT1 : dT Try.prog 1 = .other := by kernel_rfl
theorem sT1 : szT Try.prog 1 = 1 := by kernel_rfl
theorem bT1 : byT Try.prog 1 = 8 := by kernel_rfl
theorem zT1 : zT Try.prog 1 = some [.nilf] := by kernel_rfl
theorem dT2 : dT Try.prog 2 = .int .i64 := by kernel_rfl
theorem sT2 : szT Try.prog 2 = 1 := by kernel_rfl
theorem bT2 : byT Try.prog 2 = 8 := by kernel_rfl
theorem zT2 : zT Try.prog 2 = some [.i 0] := by kernel_rfl
theorem dT3 : dT Try.prog 3 = .int .i64 := by kernel_rfl
theorem sT3 : szT Try.prog 3 = 1 := by kernel_rfl
theorem bT3 : byT Try.prog 3 = 8 := by kernel_rfl
theorem zT3 : zT Try.prog 3 = some [.i 0] := by kernel_rfl
theorem dT4 : dT Try.prog 4 = .bool := by kernel_rfl
theorem sT4 : szT Try.prog 4 = 1 := by kernel_rfl
theorem bT4 : byT Try.prog 4 = 1 := by kernel_rfl
theorem zT4 : zT Try.prog 4 = some [.b false] := by kernel_rfl
theorem dT5 : dT Try.prog 5 = .int .u8 := by kernel_rfl
theorem sT5 : szT Try.prog 5 = 1 := by kernel_rfl
theorem bT5 : byT Try.prog 5 = 1 := by kernel_rfl
theorem zT5 : zT Try.prog 5 = some [.k .u8 (0)] := by kernel_rfl
theorem dT7 : dT Try.prog 7 = .st [(0, 2), (1, 3), (2, 4), (3, 6)] := by kernel_rfl
theorem sT7 : szT Try.prog 7 = 4 := by kernel_rfl
theorem bT7 : byT Try.prog 7 = 24 := by kernel_rfl
theorem zT7 : zT Try.prog 7 = some [.i 0, .i 0, .b false, .k .u8 (0)] := by kernel_rfl
theorem dT9 : dT Try.prog 9 = .str := by kernel_rfl
theorem sT9 : szT Try.prog 9 = 1 := by kernel_rfl
theorem bT9 : byT Try.prog 9 = 16 := by kernel_rfl
theorem zT9 : zT Try.prog 9 = some [.s ByteArray.empty] := by kernel_rfl
theorem dT12 : dT Try.prog 12 = .int .u64 := by kernel_rfl
theorem sT12 : szT Try.prog 12 = 1 := by kernel_rfl
theorem bT12 : byT Try.prog 12 = 8 := by kernel_rfl
theorem zT12 : zT Try.prog 12 = some [.u 0#64] := by kernel_rfl
theorem dT13 : dT Try.prog 13 = .st [(0, 9), (1, 12)] := by kernel_rfl
theorem sT13 : szT Try.prog 13 = 2 := by kernel_rfl
theorem bT13 : byT Try.prog 13 = 24 := by kernel_rfl
theorem zT13 : zT Try.prog 13 = some [.s ByteArray.empty, .u 0#64] := by kernel_rfl
theorem dT21 : dT Try.prog 21 = .int .i32 := by kernel_rfl
theorem sT21 : szT Try.prog 21 = 1 := by kernel_rfl
theorem bT21 : byT Try.prog 21 = 4 := by kernel_rfl
theorem zT21 : zT Try.prog 21 = some [.k .i32 (0)] := by kernel_rfl
theorem dT22 : dT Try.prog 22 = .int .u64 := by kernel_rfl
theorem sT22 : szT Try.prog 22 = 1 := by kernel_rfl
theorem bT22 : byT Try.prog 22 = 8 := by kernel_rfl
theorem zT22 : zT Try.prog 22 = some [.u 0#64] := by kernel_rfl
theorem dT23 : dT Try.prog 23 = .arr 2 22 := by kernel_rfl
theorem sT23 : szT Try.prog 23 = 2 := by kernel_rfl
theorem bT23 : byT Try.prog 23 = 16 := by kernel_rfl
theorem zT23 : zT Try.prog 23 = some [.u 0#64, .u 0#64] := by kernel_rfl
theorem gT23 : tagsT Try.prog 12 23 = some [.n, .n] := by kernel_rfl
theorem eqT23 {a b : List Sc} : abin Try.prog .eql 23 (.g a) (.g b) = (csEq [.n, .n] a b).bind (eqU .eql) := ab_g_eql _ (by simp only [dT23, D.agg]) gT23
theorem neT23 {a b : List Sc} : abin Try.prog .neq 23 (.g a) (.g b) = (csEq [.n, .n] a b).bind (eqU .neq) := ab_g_neq _ (by simp only [dT23, D.agg]) gT23
theorem dT24 : dT Try.prog 24 = .other := by kernel_rfl
theorem sT24 : szT Try.prog 24 = 1 := by kernel_rfl
theorem bT24 : byT Try.prog 24 = 8 := by kernel_rfl
theorem zT24 : zT Try.prog 24 = some [.nilf] := by kernel_rfl
theorem dT25 : dT Try.prog 25 = .other := by kernel_rfl
theorem sT25 : szT Try.prog 25 = 1 := by kernel_rfl
theorem bT25 : byT Try.prog 25 = 8 := by kernel_rfl
theorem zT25 : zT Try.prog 25 = some [.nilf] := by kernel_rfl
theorem dT26 : dT Try.prog 26 = .other := by kernel_rfl
theorem sT26 : szT Try.prog 26 = 1 := by kernel_rfl
theorem bT26 : byT Try.prog 26 = 8 := by kernel_rfl
theorem zT26 : zT Try.prog 26 = some [.nilf] := by kernel_rfl
theorem dT27 : dT Try.prog 27 = .other := by kernel_rfl
theorem sT27 : szT Try.prog 27 = 1 := by kernel_rfl
theorem bT27 : byT Try.prog 27 = 8 := by kernel_rfl
theorem zT27 : zT Try.prog 27 = some [.nilf] := by kernel_rfl
theorem dT28 : dT Try.prog 28 = .other := by kernel_rfl
theorem sT28 : szT Try.prog 28 = 1 := by kernel_rfl
theorem bT28 : byT Try.prog 28 = 8 := by kernel_rfl
theorem zT28 : zT Try.prog 28 = some [.nilf] := by kernel_rfl
theorem dT29 : dT Try.prog 29 = .other := by kernel_rfl
theorem sT29 : szT Try.prog 29 = 1 := by kernel_rfl
theorem bT29 : byT Try.prog 29 = 8 := by kernel_rfl
theorem zT29 : zT Try.prog 29 = some [.nilf] := by kernel_rfl
theorem dT30 : dT Try.prog 30 = .other := by kernel_rfl
theorem sT30 : szT Try.prog 30 = 1 := by kernel_rfl
theorem bT30 : byT Try.prog 30 = 8 := by kernel_rfl
theorem zT30 : zT Try.prog 30 = some [.nilf] := by kernel_rfl
theorem dT31 : dT Try.prog 31 = .other := by kernel_rfl
theorem sT31 : szT Try.prog 31 = 1 := by kernel_rfl
theorem bT31 : byT Try.prog 31 = 8 := by kernel_rfl
theorem zT31 : zT Try.prog 31 = some [.nilf] := by kernel_rfl
theorem dT32 : dT Try.prog 32 = .st [(0, 3), (1, 3), (2, 4), (3, 4)] := by kernel_rfl
theorem sT32 : szT Try.prog 32 = 4 := by kernel_rfl
theorem bT32 : byT Try.prog 32 = 24 := by kernel_rfl
theorem zT32 : zT Try.prog 32 = some [.i 0, .i 0, .b false, .b false] := by kernel_rfl
theorem dT33 : dT Try.prog 33 = .st [(0, 3), (1, 3), (2, 4), (3, 4)] := by kernel_rfl
theorem sT33 : szT Try.prog 33 = 4 := by kernel_rfl
theorem bT33 : byT Try.prog 33 = 24 := by kernel_rfl
theorem zT33 : zT Try.prog 33 = some [.i 0, .i 0, .b false, .b false] := by kernel_rfl
theorem gT33 : tagsT Try.prog 12 33 = some [.n, .n, .q, .q] := by kernel_rfl
theorem eqT33 {a b : List Sc} : abin Try.prog .eql 33 (.g a) (.g b) = (csEq [.n, .n, .q, .q] a b).bind (eqU .eql) := ab_g_eql _ (by simp only [dT33, D.agg]) gT33
theorem neT33 {a b : List Sc} : abin Try.prog .neq 33 (.g a) (.g b) = (csEq [.n, .n, .q, .q] a b).bind (eqU .neq) := ab_g_neq _ (by simp only [dT33, D.agg]) gT33
theorem dT35 : dT Try.prog 35 = .other := by kernel_rfl
theorem sT35 : szT Try.prog 35 = 1 := by kernel_rfl
theorem bT35 : byT Try.prog 35 = 8 := by kernel_rfl
theorem zT35 : zT Try.prog 35 = some [.nilf] := by kernel_rfl
theorem dT36 : dT Try.prog 36 = .other := by kernel_rfl
theorem sT36 : szT Try.prog 36 = 1 := by kernel_rfl
theorem bT36 : byT Try.prog 36 = 8 := by kernel_rfl
theorem zT36 : zT Try.prog 36 = some [.nilf] := by kernel_rfl
theorem dT37 : dT Try.prog 37 = .other := by kernel_rfl
theorem sT37 : szT Try.prog 37 = 1 := by kernel_rfl
theorem bT37 : byT Try.prog 37 = 8 := by kernel_rfl
theorem zT37 : zT Try.prog 37 = some [.nilf] := by kernel_rfl
theorem dT38 : dT Try.prog 38 = .int .i64 := by kernel_rfl
theorem sT38 : szT Try.prog 38 = 1 := by kernel_rfl
theorem bT38 : byT Try.prog 38 = 8 := by kernel_rfl
theorem zT38 : zT Try.prog 38 = some [.i 0] := by kernel_rfl
theorem dT39 : dT Try.prog 39 = .other := by kernel_rfl
theorem sT39 : szT Try.prog 39 = 1 := by kernel_rfl
theorem bT39 : byT Try.prog 39 = 8 := by kernel_rfl
theorem zT39 : zT Try.prog 39 = some [.nilf] := by kernel_rfl
theorem dT40 : dT Try.prog 40 = .other := by kernel_rfl
theorem sT40 : szT Try.prog 40 = 1 := by kernel_rfl
theorem bT40 : byT Try.prog 40 = 8 := by kernel_rfl
theorem zT40 : zT Try.prog 40 = some [.nilf] := by kernel_rfl
theorem dT41 : dT Try.prog 41 = .other := by kernel_rfl
theorem sT41 : szT Try.prog 41 = 1 := by kernel_rfl
theorem bT41 : byT Try.prog 41 = 8 := by kernel_rfl
theorem zT41 : zT Try.prog 41 = some [.nilf] := by kernel_rfl
theorem dT42 : dT Try.prog 42 = .arr 3 22 := by kernel_rfl
theorem sT42 : szT Try.prog 42 = 3 := by kernel_rfl
theorem bT42 : byT Try.prog 42 = 24 := by kernel_rfl
theorem zT42 : zT Try.prog 42 = some [.u 0#64, .u 0#64, .u 0#64] := by kernel_rfl
theorem gT42 : tagsT Try.prog 12 42 = some [.n, .n, .n] := by kernel_rfl
theorem eqT42 {a b : List Sc} : abin Try.prog .eql 42 (.g a) (.g b) = (csEq [.n, .n, .n] a b).bind (eqU .eql) := ab_g_eql _ (by simp only [dT42, D.agg]) gT42
theorem neT42 {a b : List Sc} : abin Try.prog .neq 42 (.g a) (.g b) = (csEq [.n, .n, .n] a b).bind (eqU .neq) := ab_g_neq _ (by simp only [dT42, D.agg]) gT42
theorem dT43 : dT Try.prog 43 = .int .u64 := by kernel_rfl
theorem sT43 : szT Try.prog 43 = 1 := by kernel_rfl
theorem bT43 : byT Try.prog 43 = 8 := by kernel_rfl
theorem zT43 : zT Try.prog 43 = some [.u 0#64] := by kernel_rfl
theorem dT44 : dT Try.prog 44 = .other := by kernel_rfl
theorem sT44 : szT Try.prog 44 = 1 := by kernel_rfl
theorem bT44 : byT Try.prog 44 = 8 := by kernel_rfl
theorem zT44 : zT Try.prog 44 = some [.nilf] := by kernel_rfl
theorem dT45 : dT Try.prog 45 = .sl 22 := by kernel_rfl
theorem sT45 : szT Try.prog 45 = 1 := by kernel_rfl
theorem bT45 : byT Try.prog 45 = 24 := by kernel_rfl
theorem zT45 : zT Try.prog 45 = some [.nils] := by kernel_rfl
theorem dT47 : dT Try.prog 47 = .other := by kernel_rfl
theorem sT47 : szT Try.prog 47 = 1 := by kernel_rfl
theorem bT47 : byT Try.prog 47 = 8 := by kernel_rfl
theorem zT47 : zT Try.prog 47 = some [.nilf] := by kernel_rfl
theorem dT48 : dT Try.prog 48 = .other := by kernel_rfl
theorem sT48 : szT Try.prog 48 = 1 := by kernel_rfl
theorem bT48 : byT Try.prog 48 = 8 := by kernel_rfl
theorem zT48 : zT Try.prog 48 = some [.nilf] := by kernel_rfl
theorem dT49 : dT Try.prog 49 = .other := by kernel_rfl
theorem sT49 : szT Try.prog 49 = 1 := by kernel_rfl
theorem bT49 : byT Try.prog 49 = 8 := by kernel_rfl
theorem zT49 : zT Try.prog 49 = some [.nilf] := by kernel_rfl
theorem dT50 : dT Try.prog 50 = .other := by kernel_rfl
theorem sT50 : szT Try.prog 50 = 1 := by kernel_rfl
theorem bT50 : byT Try.prog 50 = 8 := by kernel_rfl
theorem zT50 : zT Try.prog 50 = some [.nilf] := by kernel_rfl
theorem dT51 : dT Try.prog 51 = .other := by kernel_rfl
theorem sT51 : szT Try.prog 51 = 1 := by kernel_rfl
theorem bT51 : byT Try.prog 51 = 8 := by kernel_rfl
theorem zT51 : zT Try.prog 51 = some [.nilf] := by kernel_rfl
theorem dT52 : dT Try.prog 52 = .arr 3 3 := by kernel_rfl
theorem sT52 : szT Try.prog 52 = 3 := by kernel_rfl
theorem bT52 : byT Try.prog 52 = 24 := by kernel_rfl
theorem zT52 : zT Try.prog 52 = some [.i 0, .i 0, .i 0] := by kernel_rfl
theorem gT52 : tagsT Try.prog 12 52 = some [.n, .n, .n] := by kernel_rfl
theorem eqT52 {a b : List Sc} : abin Try.prog .eql 52 (.g a) (.g b) = (csEq [.n, .n, .n] a b).bind (eqU .eql) := ab_g_eql _ (by simp only [dT52, D.agg]) gT52
theorem neT52 {a b : List Sc} : abin Try.prog .neq 52 (.g a) (.g b) = (csEq [.n, .n, .n] a b).bind (eqU .neq) := ab_g_neq _ (by simp only [dT52, D.agg]) gT52
theorem dT53 : dT Try.prog 53 = .sl 3 := by kernel_rfl
theorem sT53 : szT Try.prog 53 = 1 := by kernel_rfl
theorem bT53 : byT Try.prog 53 = 24 := by kernel_rfl
theorem zT53 : zT Try.prog 53 = some [.nils] := by kernel_rfl
theorem dT54 : dT Try.prog 54 = .other := by kernel_rfl
theorem sT54 : szT Try.prog 54 = 1 := by kernel_rfl
theorem bT54 : byT Try.prog 54 = 8 := by kernel_rfl
theorem zT54 : zT Try.prog 54 = some [.nilf] := by kernel_rfl
theorem dT56 : dT Try.prog 56 = .other := by kernel_rfl
theorem sT56 : szT Try.prog 56 = 1 := by kernel_rfl
theorem bT56 : byT Try.prog 56 = 8 := by kernel_rfl
theorem zT56 : zT Try.prog 56 = some [.nilf] := by kernel_rfl
theorem dT57 : dT Try.prog 57 = .other := by kernel_rfl
theorem sT57 : szT Try.prog 57 = 1 := by kernel_rfl
theorem bT57 : byT Try.prog 57 = 8 := by kernel_rfl
theorem zT57 : zT Try.prog 57 = some [.nilf] := by kernel_rfl
theorem dT63 : dT Try.prog 63 = .other := by kernel_rfl
theorem sT63 : szT Try.prog 63 = 1 := by kernel_rfl
theorem bT63 : byT Try.prog 63 = 8 := by kernel_rfl
theorem zT63 : zT Try.prog 63 = some [.nilf] := by kernel_rfl
theorem dT64 : dT Try.prog 64 = .int .u32 := by kernel_rfl
theorem sT64 : szT Try.prog 64 = 1 := by kernel_rfl
theorem bT64 : byT Try.prog 64 = 4 := by kernel_rfl
theorem zT64 : zT Try.prog 64 = some [.k .u32 (0)] := by kernel_rfl
theorem dT67 : dT Try.prog 67 = .other := by kernel_rfl
theorem sT67 : szT Try.prog 67 = 1 := by kernel_rfl
theorem bT67 : byT Try.prog 67 = 8 := by kernel_rfl
theorem zT67 : zT Try.prog 67 = some [.nilf] := by kernel_rfl
theorem dT68 : dT Try.prog 68 = .ptr 5 := by kernel_rfl
theorem sT68 : szT Try.prog 68 = 1 := by kernel_rfl
theorem bT68 : byT Try.prog 68 = 8 := by kernel_rfl
theorem zT68 : zT Try.prog 68 = some [.nilp] := by kernel_rfl
theorem dT71 : dT Try.prog 71 = .st [(0, 12), (1, 12), (2, 64), (3, 65), (4, 5), (5, 5), (6, 66), (7, 67), (8, 68), (9, 69), (10, 70)] := by kernel_rfl
theorem sT71 : szT Try.prog 71 = 11 := by kernel_rfl
theorem bT71 : byT Try.prog 71 = 48 := by kernel_rfl
theorem zT71 : zT Try.prog 71 = some [.u 0#64, .u 0#64, .k .u32 (0), .k .u8 (0), .k .u8 (0), .k .u8 (0), .k .u8 (0), .nilf, .nilp, .k .i32 (0), .k .i32 (0)] := by kernel_rfl
end Go.Proofs.Ytkibkplfcnoahaa
