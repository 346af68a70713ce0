/- The types of this translation, as the abstract machine reads them: closed facts. -/
import Derived.Test.YtelhpddidicllaaProg
import Derived.Test.YtelhpddidicllaaAm
namespace Go.Proofs.Ytelhpddidicllaa
open Go.Am
set_option maxRecDepth 100000
theorem hmix : Try.prog.follows .mixedOrders = true := by kernel_rfl
theorem dT1 : dT Try.prog 1 = .other := by kernel_rfl
theorem sT1 : szT Try.prog 1 = 1 := by kernel_rfl
theorem bT1 : byT Try.prog 1 = 8 := by kernel_rfl
theorem zT1 : zT Try.prog 1 = some [.nilf] := by kernel_rfl
theorem dT2 : dT Try.prog 2 = .int .i64 := by kernel_rfl
theorem sT2 : szT Try.prog 2 = 1 := by kernel_rfl
theorem bT2 : byT Try.prog 2 = 8 := by kernel_rfl
theorem zT2 : zT Try.prog 2 = some [.i 0] := by kernel_rfl
theorem dT3 : dT Try.prog 3 = .int .i64 := by kernel_rfl
theorem sT3 : szT Try.prog 3 = 1 := by kernel_rfl
theorem bT3 : byT Try.prog 3 = 8 := by kernel_rfl
theorem zT3 : zT Try.prog 3 = some [.i 0] := by kernel_rfl
theorem dT4 : dT Try.prog 4 = .bool := by kernel_rfl
theorem sT4 : szT Try.prog 4 = 1 := by kernel_rfl
theorem bT4 : byT Try.prog 4 = 1 := by kernel_rfl
theorem zT4 : zT Try.prog 4 = some [.b false] := by kernel_rfl
theorem dT5 : dT Try.prog 5 = .int .u8 := by kernel_rfl
theorem sT5 : szT Try.prog 5 = 1 := by kernel_rfl
theorem bT5 : byT Try.prog 5 = 1 := by kernel_rfl
theorem zT5 : zT Try.prog 5 = some [.k .u8 (0)] := by kernel_rfl
theorem dT7 : dT Try.prog 7 = .st [(0, 2), (1, 3), (2, 4), (3, 6)] := by kernel_rfl
theorem sT7 : szT Try.prog 7 = 4 := by kernel_rfl
theorem bT7 : byT Try.prog 7 = 24 := by kernel_rfl
theorem zT7 : zT Try.prog 7 = some [.i 0, .i 0, .b false, .k .u8 (0)] := by kernel_rfl
theorem dT9 : dT Try.prog 9 = .str := by kernel_rfl
theorem sT9 : szT Try.prog 9 = 1 := by kernel_rfl
theorem bT9 : byT Try.prog 9 = 16 := by kernel_rfl
theorem zT9 : zT Try.prog 9 = some [.s ByteArray.empty] := by kernel_rfl
theorem dT12 : dT Try.prog 12 = .int .u64 := by kernel_rfl
theorem sT12 : szT Try.prog 12 = 1 := by kernel_rfl
theorem bT12 : byT Try.prog 12 = 8 := by kernel_rfl
theorem zT12 : zT Try.prog 12 = some [.u 0#64] := by kernel_rfl
theorem dT13 : dT Try.prog 13 = .st [(0, 9), (1, 12)] := by kernel_rfl
theorem sT13 : szT Try.prog 13 = 2 := by kernel_rfl
theorem bT13 : byT Try.prog 13 = 24 := by kernel_rfl
theorem zT13 : zT Try.prog 13 = some [.s ByteArray.empty, .u 0#64] := by kernel_rfl
theorem dT21 : dT Try.prog 21 = .int .i32 := by kernel_rfl
theorem sT21 : szT Try.prog 21 = 1 := by kernel_rfl
theorem bT21 : byT Try.prog 21 = 4 := by kernel_rfl
theorem zT21 : zT Try.prog 21 = some [.k .i32 (0)] := by kernel_rfl
theorem dT22 : dT Try.prog 22 = .int .u64 := by kernel_rfl
theorem sT22 : szT Try.prog 22 = 1 := by kernel_rfl
theorem bT22 : byT Try.prog 22 = 8 := by kernel_rfl
theorem zT22 : zT Try.prog 22 = some [.u 0#64] := by kernel_rfl
theorem dT23 : dT Try.prog 23 = .sl 28 := by kernel_rfl
theorem sT23 : szT Try.prog 23 = 1 := by kernel_rfl
theorem bT23 : byT Try.prog 23 = 24 := by kernel_rfl
theorem zT23 : zT Try.prog 23 = some [.nils] := by kernel_rfl
theorem dT24 : dT Try.prog 24 = .other := by kernel_rfl
theorem sT24 : szT Try.prog 24 = 1 := by kernel_rfl
theorem bT24 : byT Try.prog 24 = 8 := by kernel_rfl
theorem zT24 : zT Try.prog 24 = some [.nilf] := by kernel_rfl
theorem dT25 : dT Try.prog 25 = .other := by kernel_rfl
theorem sT25 : szT Try.prog 25 = 1 := by kernel_rfl
theorem bT25 : byT Try.prog 25 = 8 := by kernel_rfl
theorem zT25 : zT Try.prog 25 = some [.nilf] := by kernel_rfl
theorem dT26 : dT Try.prog 26 = .other := by kernel_rfl
theorem sT26 : szT Try.prog 26 = 1 := by kernel_rfl
theorem bT26 : byT Try.prog 26 = 8 := by kernel_rfl
theorem zT26 : zT Try.prog 26 = some [.nilf] := by kernel_rfl
theorem dT27 : dT Try.prog 27 = .other := by kernel_rfl
theorem sT27 : szT Try.prog 27 = 1 := by kernel_rfl
theorem bT27 : byT Try.prog 27 = 8 := by kernel_rfl
theorem zT27 : zT Try.prog 27 = some [.nilf] := by kernel_rfl
theorem dT28 : dT Try.prog 28 = .arr 2 3 := by kernel_rfl
theorem sT28 : szT Try.prog 28 = 2 := by kernel_rfl
theorem bT28 : byT Try.prog 28 = 16 := by kernel_rfl
theorem zT28 : zT Try.prog 28 = some [.i 0, .i 0] := by kernel_rfl
theorem gT28 : tagsT Try.prog 12 28 = some [.n, .n] := by kernel_rfl
theorem eqT28 {a b : List Sc} : abin Try.prog .eql 28 (.g a) (.g b) = (csEq [.n, .n] a b).bind (eqU .eql) := ab_g_eql _ (by simp only [dT28, D.agg]) gT28
theorem neT28 {a b : List Sc} : abin Try.prog .neq 28 (.g a) (.g b) = (csEq [.n, .n] a b).bind (eqU .neq) := ab_g_neq _ (by simp only [dT28, D.agg]) gT28
theorem dT29 : dT Try.prog 29 = .other := by kernel_rfl
theorem sT29 : szT Try.prog 29 = 1 := by kernel_rfl
theorem bT29 : byT Try.prog 29 = 8 := by kernel_rfl
theorem zT29 : zT Try.prog 29 = some [.nilf] := by kernel_rfl
theorem dT30 : dT Try.prog 30 = .other := by kernel_rfl
theorem sT30 : szT Try.prog 30 = 1 := by kernel_rfl
theorem bT30 : byT Try.prog 30 = 8 := by kernel_rfl
theorem zT30 : zT Try.prog 30 = some [.nilf] := by kernel_rfl
theorem dT31 : dT Try.prog 31 = .other := by kernel_rfl
theorem sT31 : szT Try.prog 31 = 1 := by kernel_rfl
theorem bT31 : byT Try.prog 31 = 8 := by kernel_rfl
theorem zT31 : zT Try.prog 31 = some [.nilf] := by kernel_rfl
theorem dT32 : dT Try.prog 32 = .other := by kernel_rfl
theorem sT32 : szT Try.prog 32 = 1 := by kernel_rfl
theorem bT32 : byT Try.prog 32 = 8 := by kernel_rfl
theorem zT32 : zT Try.prog 32 = some [.nilf] := by kernel_rfl
theorem dT33 : dT Try.prog 33 = .other := by kernel_rfl
theorem sT33 : szT Try.prog 33 = 1 := by kernel_rfl
theorem bT33 : byT Try.prog 33 = 8 := by kernel_rfl
theorem zT33 : zT Try.prog 33 = some [.nilf] := by kernel_rfl
theorem dT34 : dT Try.prog 34 = .other := by kernel_rfl
theorem sT34 : szT Try.prog 34 = 1 := by kernel_rfl
theorem bT34 : byT Try.prog 34 = 8 := by kernel_rfl
theorem zT34 : zT Try.prog 34 = some [.nilf] := by kernel_rfl
theorem dT35 : dT Try.prog 35 = .other := by kernel_rfl
theorem sT35 : szT Try.prog 35 = 1 := by kernel_rfl
theorem bT35 : byT Try.prog 35 = 8 := by kernel_rfl
theorem zT35 : zT Try.prog 35 = some [.nilf] := by kernel_rfl
theorem dT36 : dT Try.prog 36 = .other := by kernel_rfl
theorem sT36 : szT Try.prog 36 = 1 := by kernel_rfl
theorem bT36 : byT Try.prog 36 = 8 := by kernel_rfl
theorem zT36 : zT Try.prog 36 = some [.nilf] := by kernel_rfl
theorem dT37 : dT Try.prog 37 = .other := by kernel_rfl
theorem sT37 : szT Try.prog 37 = 1 := by kernel_rfl
theorem bT37 : byT Try.prog 37 = 8 := by kernel_rfl
theorem zT37 : zT Try.prog 37 = some [.nilf] := by kernel_rfl
theorem dT38 : dT Try.prog 38 = .other := by kernel_rfl
theorem sT38 : szT Try.prog 38 = 1 := by kernel_rfl
theorem bT38 : byT Try.prog 38 = 8 := by kernel_rfl
theorem zT38 : zT Try.prog 38 = some [.nilf] := by kernel_rfl
theorem dT40 : dT Try.prog 40 = .other := by kernel_rfl
theorem sT40 : szT Try.prog 40 = 1 := by kernel_rfl
theorem bT40 : byT Try.prog 40 = 8 := by kernel_rfl
theorem zT40 : zT Try.prog 40 = some [.nilf] := by kernel_rfl
theorem dT41 : dT Try.prog 41 = .int .u64 := by kernel_rfl
theorem sT41 : szT Try.prog 41 = 1 := by kernel_rfl
theorem bT41 : byT Try.prog 41 = 8 := by kernel_rfl
theorem zT41 : zT Try.prog 41 = some [.u 0#64] := by kernel_rfl
theorem dT42 : dT Try.prog 42 = .sl 22 := by kernel_rfl
theorem sT42 : szT Try.prog 42 = 1 := by kernel_rfl
theorem bT42 : byT Try.prog 42 = 24 := by kernel_rfl
theorem zT42 : zT Try.prog 42 = some [.nils] := by kernel_rfl
theorem dT44 : dT Try.prog 44 = .other := by kernel_rfl
theorem sT44 : szT Try.prog 44 = 1 := by kernel_rfl
theorem bT44 : byT Try.prog 44 = 8 := by kernel_rfl
theorem zT44 : zT Try.prog 44 = some [.nilf] := by kernel_rfl
theorem dT45 : dT Try.prog 45 = .other := by kernel_rfl
theorem sT45 : szT Try.prog 45 = 1 := by kernel_rfl
theorem bT45 : byT Try.prog 45 = 8 := by kernel_rfl
theorem zT45 : zT Try.prog 45 = some [.nilf] := by kernel_rfl
theorem dT46 : dT Try.prog 46 = .int .u32 := by kernel_rfl
theorem sT46 : szT Try.prog 46 = 1 := by kernel_rfl
theorem bT46 : byT Try.prog 46 = 4 := by kernel_rfl
theorem zT46 : zT Try.prog 46 = some [.k .u32 (0)] := by kernel_rfl
theorem dT47 : dT Try.prog 47 = .other := by kernel_rfl
theorem sT47 : szT Try.prog 47 = 1 := by kernel_rfl
theorem bT47 : byT Try.prog 47 = 8 := by kernel_rfl
theorem zT47 : zT Try.prog 47 = some [.nilf] := by kernel_rfl
theorem dT53 : dT Try.prog 53 = .other := by kernel_rfl
theorem sT53 : szT Try.prog 53 = 1 := by kernel_rfl
theorem bT53 : byT Try.prog 53 = 8 := by kernel_rfl
theorem zT53 : zT Try.prog 53 = some [.nilf] := by kernel_rfl
theorem dT56 : dT Try.prog 56 = .other := by kernel_rfl
theorem sT56 : szT Try.prog 56 = 1 := by kernel_rfl
theorem bT56 : byT Try.prog 56 = 8 := by kernel_rfl
theorem zT56 : zT Try.prog 56 = some [.nilf] := by kernel_rfl
theorem dT57 : dT Try.prog 57 = .ptr 5 := by kernel_rfl
theorem sT57 : szT Try.prog 57 = 1 := by kernel_rfl
theorem bT57 : byT Try.prog 57 = 8 := by kernel_rfl
theorem zT57 : zT Try.prog 57 = some [.nilp] := by kernel_rfl
theorem dT60 : dT Try.prog 60 = .st [(0, 12), (1, 12), (2, 46), (3, 54), (4, 5), (5, 5), (6, 55), (7, 56), (8, 57), (9, 58), (10, 59)] := by kernel_rfl
theorem sT60 : szT Try.prog 60 = 11 := by kernel_rfl
theorem bT60 : byT Try.prog 60 = 48 := by kernel_rfl
theorem zT60 : zT Try.prog 60 = some [.u 0#64, .u 0#64, .k .u32 (0), .k .u8 (0), .k .u8 (0), .k .u8 (0), .k .u8 (0), .nilf, .nilp, .k .i32 (0), .k .i32 (0)] := by kernel_rfl
end Go.Proofs.Ytelhpddidicllaa
