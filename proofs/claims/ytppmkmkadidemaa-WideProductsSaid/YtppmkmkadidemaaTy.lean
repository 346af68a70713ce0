/- The types of this translation, as the abstract machine reads them: closed facts. -/
import Derived.Test.YtppmkmkadidemaaProg
import Derived.Test.YtppmkmkadidemaaAm
namespace Go.Proofs.Ytppmkmkadidemaa
open Go.Am
set_option maxRecDepth 100000
theorem hmix : Try.prog.follows .mixedOrders = true := by kernel_rfl
theorem dT1 : dT Try.prog 1 = .other := by kernel_rfl
theorem sT1 : szT Try.prog 1 = 1 := by kernel_rfl
theorem bT1 : byT Try.prog 1 = 8 := by kernel_rfl
theorem zT1 : zT Try.prog 1 = some [.nilf] := by kernel_rfl
theorem dT2 : dT Try.prog 2 = .int .i64 := by kernel_rfl
theorem sT2 : szT Try.prog 2 = 1 := by kernel_rfl
theorem bT2 : byT Try.prog 2 = 8 := by kernel_rfl
theorem zT2 : zT Try.prog 2 = some [.i 0] := by kernel_rfl
theorem dT3 : dT Try.prog 3 = .int .i64 := by kernel_rfl
theorem sT3 : szT Try.prog 3 = 1 := by kernel_rfl
theorem bT3 : byT Try.prog 3 = 8 := by kernel_rfl
theorem zT3 : zT Try.prog 3 = some [.i 0] := by kernel_rfl
theorem dT4 : dT Try.prog 4 = .bool := by kernel_rfl
theorem sT4 : szT Try.prog 4 = 1 := by kernel_rfl
theorem bT4 : byT Try.prog 4 = 1 := by kernel_rfl
theorem zT4 : zT Try.prog 4 = some [.b false] := by kernel_rfl
theorem dT5 : dT Try.prog 5 = .int .u8 := by kernel_rfl
theorem sT5 : szT Try.prog 5 = 1 := by kernel_rfl
theorem bT5 : byT Try.prog 5 = 1 := by kernel_rfl
theorem zT5 : zT Try.prog 5 = some [.k .u8 (0)] := by kernel_rfl
theorem dT7 : dT Try.prog 7 = .st [(0, 2), (1, 3), (2, 4), (3, 6)] := by kernel_rfl
theorem sT7 : szT Try.prog 7 = 4 := by kernel_rfl
theorem bT7 : byT Try.prog 7 = 24 := by kernel_rfl
theorem zT7 : zT Try.prog 7 = some [.i 0, .i 0, .b false, .k .u8 (0)] := by kernel_rfl
theorem dT9 : dT Try.prog 9 = .str := by kernel_rfl
theorem sT9 : szT Try.prog 9 = 1 := by kernel_rfl
theorem bT9 : byT Try.prog 9 = 16 := by kernel_rfl
theorem zT9 : zT Try.prog 9 = some [.s ByteArray.empty] := by kernel_rfl
theorem dT12 : dT Try.prog 12 = .int .u64 := by kernel_rfl
theorem sT12 : szT Try.prog 12 = 1 := by kernel_rfl
theorem bT12 : byT Try.prog 12 = 8 := by kernel_rfl
theorem zT12 : zT Try.prog 12 = some [.u 0#64] := by kernel_rfl
theorem dT13 : dT Try.prog 13 = .st [(0, 9), (1, 12)] := by kernel_rfl
theorem sT13 : szT Try.prog 13 = 2 := by kernel_rfl
theorem bT13 : byT Try.prog 13 = 24 := by kernel_rfl
theorem zT13 : zT Try.prog 13 = some [.s ByteArray.empty, .u 0#64] := by kernel_rfl
theorem dT21 : dT Try.prog 21 = .int .i32 := by kernel_rfl
theorem sT21 : szT Try.prog 21 = 1 := by kernel_rfl
theorem bT21 : byT Try.prog 21 = 4 := by kernel_rfl
theorem zT21 : zT Try.prog 21 = some [.k .i32 (0)] := by kernel_rfl
theorem dT22 : dT Try.prog 22 = .int .u64 := by kernel_rfl
theorem sT22 : szT Try.prog 22 = 1 := by kernel_rfl
theorem bT22 : byT Try.prog 22 = 8 := by kernel_rfl
theorem zT22 : zT Try.prog 22 = some [.u 0#64] := by kernel_rfl
theorem dT23 : dT Try.prog 23 = .other := by kernel_rfl
theorem sT23 : szT Try.prog 23 = 1 := by kernel_rfl
theorem bT23 : byT Try.prog 23 = 8 := by kernel_rfl
theorem zT23 : zT Try.prog 23 = some [.nilf] := by kernel_rfl
theorem dT24 : dT Try.prog 24 = .other := by kernel_rfl
theorem sT24 : szT Try.prog 24 = 1 := by kernel_rfl
theorem bT24 : byT Try.prog 24 = 8 := by kernel_rfl
theorem zT24 : zT Try.prog 24 = some [.nilf] := by kernel_rfl
theorem dT25 : dT Try.prog 25 = .other := by kernel_rfl
theorem sT25 : szT Try.prog 25 = 1 := by kernel_rfl
theorem bT25 : byT Try.prog 25 = 8 := by kernel_rfl
theorem zT25 : zT Try.prog 25 = some [.nilf] := by kernel_rfl
theorem dT26 : dT Try.prog 26 = .other := by kernel_rfl
theorem sT26 : szT Try.prog 26 = 1 := by kernel_rfl
theorem bT26 : byT Try.prog 26 = 8 := by kernel_rfl
theorem zT26 : zT Try.prog 26 = some [.nilf] := by kernel_rfl
theorem dT27 : dT Try.prog 27 = .arr 2 22 := by kernel_rfl
theorem sT27 : szT Try.prog 27 = 2 := by kernel_rfl
theorem bT27 : byT Try.prog 27 = 16 := by kernel_rfl
theorem zT27 : zT Try.prog 27 = some [.u 0#64, .u 0#64] := by kernel_rfl
theorem gT27 : tagsT Try.prog 12 27 = some [.n, .n] := by kernel_rfl
theorem eqT27 {a b : List Sc} : abin Try.prog .eql 27 (.g a) (.g b) = (csEq [.n, .n] a b).bind (eqU .eql) := ab_g_eql _ (by simp only [dT27, D.agg]) gT27
theorem neT27 {a b : List Sc} : abin Try.prog .neq 27 (.g a) (.g b) = (csEq [.n, .n] a b).bind (eqU .neq) := ab_g_neq _ (by simp only [dT27, D.agg]) gT27
theorem dT28 : dT Try.prog 28 = .st [(0, 22), (1, 22)] := by kernel_rfl
theorem sT28 : szT Try.prog 28 = 2 := by kernel_rfl
theorem bT28 : byT Try.prog 28 = 16 := by kernel_rfl
theorem zT28 : zT Try.prog 28 = some [.u 0#64, .u 0#64] := by kernel_rfl
theorem dT29 : dT Try.prog 29 = .st [(0, 22), (1, 22)] := by kernel_rfl
theorem sT29 : szT Try.prog 29 = 2 := by kernel_rfl
theorem bT29 : byT Try.prog 29 = 16 := by kernel_rfl
theorem zT29 : zT Try.prog 29 = some [.u 0#64, .u 0#64] := by kernel_rfl
theorem gT29 : tagsT Try.prog 12 29 = some [.n, .n] := by kernel_rfl
theorem eqT29 {a b : List Sc} : abin Try.prog .eql 29 (.g a) (.g b) = (csEq [.n, .n] a b).bind (eqU .eql) := ab_g_eql _ (by simp only [dT29, D.agg]) gT29
theorem neT29 {a b : List Sc} : abin Try.prog .neq 29 (.g a) (.g b) = (csEq [.n, .n] a b).bind (eqU .neq) := ab_g_neq _ (by simp only [dT29, D.agg]) gT29
theorem dT30 : dT Try.prog 30 = .other := by kernel_rfl
theorem sT30 : szT Try.prog 30 = 1 := by kernel_rfl
theorem bT30 : byT Try.prog 30 = 8 := by kernel_rfl
theorem zT30 : zT Try.prog 30 = some [.nilf] := by kernel_rfl
theorem dT31 : dT Try.prog 31 = .other := by kernel_rfl
theorem sT31 : szT Try.prog 31 = 1 := by kernel_rfl
theorem bT31 : byT Try.prog 31 = 8 := by kernel_rfl
theorem zT31 : zT Try.prog 31 = some [.nilf] := by kernel_rfl
theorem dT33 : dT Try.prog 33 = .other := by kernel_rfl
theorem sT33 : szT Try.prog 33 = 1 := by kernel_rfl
theorem bT33 : byT Try.prog 33 = 8 := by kernel_rfl
theorem zT33 : zT Try.prog 33 = some [.nilf] := by kernel_rfl
theorem dT35 : dT Try.prog 35 = .other := by kernel_rfl
theorem sT35 : szT Try.prog 35 = 1 := by kernel_rfl
theorem bT35 : byT Try.prog 35 = 8 := by kernel_rfl
theorem zT35 : zT Try.prog 35 = some [.nilf] := by kernel_rfl
theorem dT36 : dT Try.prog 36 = .other := by kernel_rfl
theorem sT36 : szT Try.prog 36 = 1 := by kernel_rfl
theorem bT36 : byT Try.prog 36 = 8 := by kernel_rfl
theorem zT36 : zT Try.prog 36 = some [.nilf] := by kernel_rfl
theorem dT38 : dT Try.prog 38 = .other := by kernel_rfl
theorem sT38 : szT Try.prog 38 = 1 := by kernel_rfl
theorem bT38 : byT Try.prog 38 = 8 := by kernel_rfl
theorem zT38 : zT Try.prog 38 = some [.nilf] := by kernel_rfl
theorem dT39 : dT Try.prog 39 = .other := by kernel_rfl
theorem sT39 : szT Try.prog 39 = 1 := by kernel_rfl
theorem bT39 : byT Try.prog 39 = 8 := by kernel_rfl
theorem zT39 : zT Try.prog 39 = some [.nilf] := by kernel_rfl
theorem dT40 : dT Try.prog 40 = .other := by kernel_rfl
theorem sT40 : szT Try.prog 40 = 1 := by kernel_rfl
theorem bT40 : byT Try.prog 40 = 8 := by kernel_rfl
theorem zT40 : zT Try.prog 40 = some [.nilf] := by kernel_rfl
theorem dT41 : dT Try.prog 41 = .other := by kernel_rfl
theorem sT41 : szT Try.prog 41 = 1 := by kernel_rfl
theorem bT41 : byT Try.prog 41 = 8 := by kernel_rfl
theorem zT41 : zT Try.prog 41 = some [.nilf] := by kernel_rfl
theorem dT42 : dT Try.prog 42 = .other := by kernel_rfl
theorem sT42 : szT Try.prog 42 = 1 := by kernel_rfl
theorem bT42 : byT Try.prog 42 = 8 := by kernel_rfl
theorem zT42 : zT Try.prog 42 = some [.nilf] := by kernel_rfl
theorem dT43 : dT Try.prog 43 = .other := by kernel_rfl
theorem sT43 : szT Try.prog 43 = 1 := by kernel_rfl
theorem bT43 : byT Try.prog 43 = 8 := by kernel_rfl
theorem zT43 : zT Try.prog 43 = some [.nilf] := by kernel_rfl
theorem dT44 : dT Try.prog 44 = .other := by kernel_rfl
theorem sT44 : szT Try.prog 44 = 1 := by kernel_rfl
theorem bT44 : byT Try.prog 44 = 8 := by kernel_rfl
theorem zT44 : zT Try.prog 44 = some [.nilf] := by kernel_rfl
theorem dT45 : dT Try.prog 45 = .other := by kernel_rfl
theorem sT45 : szT Try.prog 45 = 1 := by kernel_rfl
theorem bT45 : byT Try.prog 45 = 8 := by kernel_rfl
theorem zT45 : zT Try.prog 45 = some [.nilf] := by kernel_rfl
theorem dT46 : dT Try.prog 46 = .other := by kernel_rfl
theorem sT46 : szT Try.prog 46 = 1 := by kernel_rfl
theorem bT46 : byT Try.prog 46 = 8 := by kernel_rfl
theorem zT46 : zT Try.prog 46 = some [.nilf] := by kernel_rfl
theorem dT47 : dT Try.prog 47 = .int .u64 := by kernel_rfl
theorem sT47 : szT Try.prog 47 = 1 := by kernel_rfl
theorem bT47 : byT Try.prog 47 = 8 := by kernel_rfl
theorem zT47 : zT Try.prog 47 = some [.u 0#64] := by kernel_rfl
theorem dT48 : dT Try.prog 48 = .sl 22 := by kernel_rfl
theorem sT48 : szT Try.prog 48 = 1 := by kernel_rfl
theorem bT48 : byT Try.prog 48 = 24 := by kernel_rfl
theorem zT48 : zT Try.prog 48 = some [.nils] := by kernel_rfl
theorem dT49 : dT Try.prog 49 = .other := by kernel_rfl
theorem sT49 : szT Try.prog 49 = 1 := by kernel_rfl
theorem bT49 : byT Try.prog 49 = 8 := by kernel_rfl
theorem zT49 : zT Try.prog 49 = some [.nilf] := by kernel_rfl
theorem dT50 : dT Try.prog 50 = .other := by kernel_rfl
theorem sT50 : szT Try.prog 50 = 1 := by kernel_rfl
theorem bT50 : byT Try.prog 50 = 8 := by kernel_rfl
theorem zT50 : zT Try.prog 50 = some [.nilf] := by kernel_rfl
theorem dT51 : dT Try.prog 51 = .other := by kernel_rfl
theorem sT51 : szT Try.prog 51 = 1 := by kernel_rfl
theorem bT51 : byT Try.prog 51 = 8 := by kernel_rfl
theorem zT51 : zT Try.prog 51 = some [.nilf] := by kernel_rfl
theorem dT53 : dT Try.prog 53 = .other := by kernel_rfl
theorem sT53 : szT Try.prog 53 = 1 := by kernel_rfl
theorem bT53 : byT Try.prog 53 = 8 := by kernel_rfl
theorem zT53 : zT Try.prog 53 = some [.nilf] := by kernel_rfl
theorem dT54 : dT Try.prog 54 = .other := by kernel_rfl
theorem sT54 : szT Try.prog 54 = 1 := by kernel_rfl
theorem bT54 : byT Try.prog 54 = 8 := by kernel_rfl
theorem zT54 : zT Try.prog 54 = some [.nilf] := by kernel_rfl
theorem dT55 : dT Try.prog 55 = .int .u32 := by kernel_rfl
theorem sT55 : szT Try.prog 55 = 1 := by kernel_rfl
theorem bT55 : byT Try.prog 55 = 4 := by kernel_rfl
theorem zT55 : zT Try.prog 55 = some [.k .u32 (0)] := by kernel_rfl
theorem dT56 : dT Try.prog 56 = .other := by kernel_rfl
theorem sT56 : szT Try.prog 56 = 1 := by kernel_rfl
theorem bT56 : byT Try.prog 56 = 8 := by kernel_rfl
theorem zT56 : zT Try.prog 56 = some [.nilf] := by kernel_rfl
theorem dT58 : dT Try.prog 58 = .other := by kernel_rfl
theorem sT58 : szT Try.prog 58 = 1 := by kernel_rfl
theorem bT58 : byT Try.prog 58 = 8 := by kernel_rfl
theorem zT58 : zT Try.prog 58 = some [.nilf] := by kernel_rfl
theorem dT59 : dT Try.prog 59 = .other := by kernel_rfl
theorem sT59 : szT Try.prog 59 = 1 := by kernel_rfl
theorem bT59 : byT Try.prog 59 = 8 := by kernel_rfl
theorem zT59 : zT Try.prog 59 = some [.nilf] := by kernel_rfl
theorem dT65 : dT Try.prog 65 = .other := by kernel_rfl
theorem sT65 : szT Try.prog 65 = 1 := by kernel_rfl
theorem bT65 : byT Try.prog 65 = 8 := by kernel_rfl
theorem zT65 : zT Try.prog 65 = some [.nilf] := by kernel_rfl
theorem dT68 : dT Try.prog 68 = .other := by kernel_rfl
theorem sT68 : szT Try.prog 68 = 1 := by kernel_rfl
theorem bT68 : byT Try.prog 68 = 8 := by kernel_rfl
theorem zT68 : zT Try.prog 68 = some [.nilf] := by kernel_rfl
theorem dT69 : dT Try.prog 69 = .ptr 5 := by kernel_rfl
theorem sT69 : szT Try.prog 69 = 1 := by kernel_rfl
theorem bT69 : byT Try.prog 69 = 8 := by kernel_rfl
theorem zT69 : zT Try.prog 69 = some [.nilp] := by kernel_rfl
theorem dT72 : dT Try.prog 72 = .st [(0, 12), (1, 12), (2, 55), (3, 66), (4, 5), (5, 5), (6, 67), (7, 68), (8, 69), (9, 70), (10, 71)] := by kernel_rfl
theorem sT72 : szT Try.prog 72 = 11 := by kernel_rfl
theorem bT72 : byT Try.prog 72 = 48 := by kernel_rfl
theorem zT72 : zT Try.prog 72 = some [.u 0#64, .u 0#64, .k .u32 (0), .k .u8 (0), .k .u8 (0), .k .u8 (0), .k .u8 (0), .nilf, .nilp, .k .i32 (0), .k .i32 (0)] := by kernel_rfl
end Go.Proofs.Ytppmkmkadidemaa
