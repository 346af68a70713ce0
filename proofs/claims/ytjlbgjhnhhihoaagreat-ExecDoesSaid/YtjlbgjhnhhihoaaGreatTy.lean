/- The types of this translation, as the abstract machine reads them: closed facts. -/
import Derived.Test.YtjlbgjhnhhihoaaGreatProg
import Derived.Test.YtjlbgjhnhhihoaaGreatAw
namespace Go.Proofs.YtjlbgjhnhhihoaaGreat
open Go.Am
set_option maxRecDepth 100000
theorem hmix : Tryz.prog.follows .mixedOrders = true := by kernel_rfl
theorem dT1 : dT Tryz.prog 1 = .other := by kernel_rfl
theorem sT1 : szT Tryz.prog 1 = 1 := by kernel_rfl
theorem bT1 : byT Tryz.prog 1 = 8 := by kernel_rfl
theorem zT1 : zT Tryz.prog 1 = some [.nilf] := by kernel_rfl
theorem eql1T1 {f : Nat} {c : List (Nat × Nat × Nat)}  : abin Tryz.prog .eql 1 (.c (.f f c)) (.c .nilf) = some (.c (.b false)) := by kernel_rfl
theorem eql2T1 : abin Tryz.prog .eql 1 (.c .nilf) (.c .nilf) = some (.c (.b true)) := by kernel_rfl
theorem neq1T1 {f : Nat} {c : List (Nat × Nat × Nat)}  : abin Tryz.prog .neq 1 (.c (.f f c)) (.c .nilf) = some (.c (.b true)) := by kernel_rfl
theorem neq2T1 : abin Tryz.prog .neq 1 (.c .nilf) (.c .nilf) = some (.c (.b false)) := by kernel_rfl
theorem dT2 : dT Tryz.prog 2 = .int .i64 := by kernel_rfl
theorem sT2 : szT Tryz.prog 2 = 1 := by kernel_rfl
theorem bT2 : byT Tryz.prog 2 = 8 := by kernel_rfl
theorem zT2 : zT Tryz.prog 2 = some [.i 0] := by kernel_rfl
theorem dT3 : dT Tryz.prog 3 = .int .i64 := by kernel_rfl
theorem sT3 : szT Tryz.prog 3 = 1 := by kernel_rfl
theorem bT3 : byT Tryz.prog 3 = 8 := by kernel_rfl
theorem zT3 : zT Tryz.prog 3 = some [.i 0] := by kernel_rfl
theorem dT4 : dT Tryz.prog 4 = .bool := by kernel_rfl
theorem sT4 : szT Tryz.prog 4 = 1 := by kernel_rfl
theorem bT4 : byT Tryz.prog 4 = 1 := by kernel_rfl
theorem zT4 : zT Tryz.prog 4 = some [.b false] := by kernel_rfl
theorem dT5 : dT Tryz.prog 5 = .int .u8 := by kernel_rfl
theorem sT5 : szT Tryz.prog 5 = 1 := by kernel_rfl
theorem bT5 : byT Tryz.prog 5 = 1 := by kernel_rfl
theorem zT5 : zT Tryz.prog 5 = some [.k .u8 (0)] := by kernel_rfl
theorem dT7 : dT Tryz.prog 7 = .st [(0, 2), (1, 3), (2, 4), (3, 6)] := by kernel_rfl
theorem sT7 : szT Tryz.prog 7 = 4 := by kernel_rfl
theorem bT7 : byT Tryz.prog 7 = 24 := by kernel_rfl
theorem zT7 : zT Tryz.prog 7 = some [.i 0, .i 0, .b false, .k .u8 (0)] := by kernel_rfl
theorem dT9 : dT Tryz.prog 9 = .str := by kernel_rfl
theorem sT9 : szT Tryz.prog 9 = 1 := by kernel_rfl
theorem bT9 : byT Tryz.prog 9 = 16 := by kernel_rfl
theorem zT9 : zT Tryz.prog 9 = some [.s ByteArray.empty] := by kernel_rfl
theorem dT12 : dT Tryz.prog 12 = .int .u64 := by kernel_rfl
theorem sT12 : szT Tryz.prog 12 = 1 := by kernel_rfl
theorem bT12 : byT Tryz.prog 12 = 8 := by kernel_rfl
theorem zT12 : zT Tryz.prog 12 = some [.u 0#64] := by kernel_rfl
theorem dT13 : dT Tryz.prog 13 = .st [(0, 9), (1, 12)] := by kernel_rfl
theorem sT13 : szT Tryz.prog 13 = 2 := by kernel_rfl
theorem bT13 : byT Tryz.prog 13 = 24 := by kernel_rfl
theorem zT13 : zT Tryz.prog 13 = some [.s ByteArray.empty, .u 0#64] := by kernel_rfl
theorem dT21 : dT Tryz.prog 21 = .int .i32 := by kernel_rfl
theorem sT21 : szT Tryz.prog 21 = 1 := by kernel_rfl
theorem bT21 : byT Tryz.prog 21 = 4 := by kernel_rfl
theorem zT21 : zT Tryz.prog 21 = some [.k .i32 (0)] := by kernel_rfl
theorem dT22 : dT Tryz.prog 22 = .int .i64 := by kernel_rfl
theorem sT22 : szT Tryz.prog 22 = 1 := by kernel_rfl
theorem bT22 : byT Tryz.prog 22 = 8 := by kernel_rfl
theorem zT22 : zT Tryz.prog 22 = some [.i 0] := by kernel_rfl
theorem dT23 : dT Tryz.prog 23 = .st [(0, 22), (1, 3), (2, 3), (3, 3), (4, 2), (5, 3), (6, 4), (7, 4)] := by kernel_rfl
theorem sT23 : szT Tryz.prog 23 = 8 := by kernel_rfl
theorem bT23 : byT Tryz.prog 23 = 56 := by kernel_rfl
theorem zT23 : zT Tryz.prog 23 = some [.i 0, .i 0, .i 0, .i 0, .i 0, .i 0, .b false, .b false] := by kernel_rfl
theorem dT24 : dT Tryz.prog 24 = .st [(0, 22), (1, 3), (2, 3), (3, 3), (4, 2), (5, 3), (6, 4), (7, 4)] := by kernel_rfl
theorem sT24 : szT Tryz.prog 24 = 8 := by kernel_rfl
theorem bT24 : byT Tryz.prog 24 = 56 := by kernel_rfl
theorem zT24 : zT Tryz.prog 24 = some [.i 0, .i 0, .i 0, .i 0, .i 0, .i 0, .b false, .b false] := by kernel_rfl
theorem gT24 : tagsT Tryz.prog 12 24 = some [.n, .n, .n, .n, .n, .n, .q, .q] := by kernel_rfl
theorem eqT24 {a b : List Sc} : abin Tryz.prog .eql 24 (.g a) (.g b) = (csEq [.n, .n, .n, .n, .n, .n, .q, .q] a b).bind (eqU .eql) := ab_g_eql _ (by simp only [dT24, D.agg]) gT24
theorem neT24 {a b : List Sc} : abin Tryz.prog .neq 24 (.g a) (.g b) = (csEq [.n, .n, .n, .n, .n, .n, .q, .q] a b).bind (eqU .neq) := ab_g_neq _ (by simp only [dT24, D.agg]) gT24
theorem dT25 : dT Tryz.prog 25 = .int .u64 := by kernel_rfl
theorem sT25 : szT Tryz.prog 25 = 1 := by kernel_rfl
theorem bT25 : byT Tryz.prog 25 = 8 := by kernel_rfl
theorem zT25 : zT Tryz.prog 25 = some [.u 0#64] := by kernel_rfl
theorem dT26 : dT Tryz.prog 26 = .arr 32 25 := by kernel_rfl
theorem sT26 : szT Tryz.prog 26 = 32 := by kernel_rfl
theorem bT26 : byT Tryz.prog 26 = 256 := by kernel_rfl
theorem zT26 : zT Tryz.prog 26 = some [.u 0#64, .u 0#64, .u 0#64, .u 0#64, .u 0#64, .u 0#64, .u 0#64, .u 0#64, .u 0#64, .u 0#64, .u 0#64, .u 0#64, .u 0#64, .u 0#64, .u 0#64, .u 0#64, .u 0#64, .u 0#64, .u 0#64, .u 0#64, .u 0#64, .u 0#64, .u 0#64, .u 0#64, .u 0#64, .u 0#64, .u 0#64, .u 0#64, .u 0#64, .u 0#64, .u 0#64, .u 0#64] := by kernel_rfl
theorem gT26 : tagsT Tryz.prog 12 26 = some [.n, .n, .n, .n, .n, .n, .n, .n, .n, .n, .n, .n, .n, .n, .n, .n, .n, .n, .n, .n, .n, .n, .n, .n, .n, .n, .n, .n, .n, .n, .n, .n] := by kernel_rfl
theorem eqT26 {a b : List Sc} : abin Tryz.prog .eql 26 (.g a) (.g b) = (csEq [.n, .n, .n, .n, .n, .n, .n, .n, .n, .n, .n, .n, .n, .n, .n, .n, .n, .n, .n, .n, .n, .n, .n, .n, .n, .n, .n, .n, .n, .n, .n, .n] a b).bind (eqU .eql) := ab_g_eql _ (by simp only [dT26, D.agg]) gT26
theorem neT26 {a b : List Sc} : abin Tryz.prog .neq 26 (.g a) (.g b) = (csEq [.n, .n, .n, .n, .n, .n, .n, .n, .n, .n, .n, .n, .n, .n, .n, .n, .n, .n, .n, .n, .n, .n, .n, .n, .n, .n, .n, .n, .n, .n, .n, .n] a b).bind (eqU .neq) := ab_g_neq _ (by simp only [dT26, D.agg]) gT26
theorem dT27 : dT Tryz.prog 27 = .st [(0, 26)] := by kernel_rfl
theorem sT27 : szT Tryz.prog 27 = 32 := by kernel_rfl
theorem bT27 : byT Tryz.prog 27 = 256 := by kernel_rfl
theorem zT27 : zT Tryz.prog 27 = some [.u 0#64, .u 0#64, .u 0#64, .u 0#64, .u 0#64, .u 0#64, .u 0#64, .u 0#64, .u 0#64, .u 0#64, .u 0#64, .u 0#64, .u 0#64, .u 0#64, .u 0#64, .u 0#64, .u 0#64, .u 0#64, .u 0#64, .u 0#64, .u 0#64, .u 0#64, .u 0#64, .u 0#64, .u 0#64, .u 0#64, .u 0#64, .u 0#64, .u 0#64, .u 0#64, .u 0#64, .u 0#64] := by kernel_rfl
theorem dT28 : dT Tryz.prog 28 = .st [(0, 26)] := by kernel_rfl
theorem sT28 : szT Tryz.prog 28 = 32 := by kernel_rfl
theorem bT28 : byT Tryz.prog 28 = 256 := by kernel_rfl
theorem zT28 : zT Tryz.prog 28 = some [.u 0#64, .u 0#64, .u 0#64, .u 0#64, .u 0#64, .u 0#64, .u 0#64, .u 0#64, .u 0#64, .u 0#64, .u 0#64, .u 0#64, .u 0#64, .u 0#64, .u 0#64, .u 0#64, .u 0#64, .u 0#64, .u 0#64, .u 0#64, .u 0#64, .u 0#64, .u 0#64, .u 0#64, .u 0#64, .u 0#64, .u 0#64, .u 0#64, .u 0#64, .u 0#64, .u 0#64, .u 0#64] := by kernel_rfl
theorem gT28 : tagsT Tryz.prog 12 28 = some [.n, .n, .n, .n, .n, .n, .n, .n, .n, .n, .n, .n, .n, .n, .n, .n, .n, .n, .n, .n, .n, .n, .n, .n, .n, .n, .n, .n, .n, .n, .n, .n] := by kernel_rfl
theorem eqT28 {a b : List Sc} : abin Tryz.prog .eql 28 (.g a) (.g b) = (csEq [.n, .n, .n, .n, .n, .n, .n, .n, .n, .n, .n, .n, .n, .n, .n, .n, .n, .n, .n, .n, .n, .n, .n, .n, .n, .n, .n, .n, .n, .n, .n, .n] a b).bind (eqU .eql) := ab_g_eql _ (by simp only [dT28, D.agg]) gT28
theorem neT28 {a b : List Sc} : abin Tryz.prog .neq 28 (.g a) (.g b) = (csEq [.n, .n, .n, .n, .n, .n, .n, .n, .n, .n, .n, .n, .n, .n, .n, .n, .n, .n, .n, .n, .n, .n, .n, .n, .n, .n, .n, .n, .n, .n, .n, .n] a b).bind (eqU .neq) := ab_g_neq _ (by simp only [dT28, D.agg]) gT28
theorem dT29 : dT Tryz.prog 29 = .other := by kernel_rfl
theorem sT29 : szT Tryz.prog 29 = 1 := by kernel_rfl
theorem bT29 : byT Tryz.prog 29 = 8 := by kernel_rfl
theorem zT29 : zT Tryz.prog 29 = some [.nilf] := by kernel_rfl
theorem eql1T29 {f : Nat} {c : List (Nat × Nat × Nat)}  : abin Tryz.prog .eql 29 (.c (.f f c)) (.c .nilf) = some (.c (.b false)) := by kernel_rfl
theorem eql2T29 : abin Tryz.prog .eql 29 (.c .nilf) (.c .nilf) = some (.c (.b true)) := by kernel_rfl
theorem neq1T29 {f : Nat} {c : List (Nat × Nat × Nat)}  : abin Tryz.prog .neq 29 (.c (.f f c)) (.c .nilf) = some (.c (.b true)) := by kernel_rfl
theorem neq2T29 : abin Tryz.prog .neq 29 (.c .nilf) (.c .nilf) = some (.c (.b false)) := by kernel_rfl
theorem dT30 : dT Tryz.prog 30 = .st [(0, 4), (1, 3)] := by kernel_rfl
theorem sT30 : szT Tryz.prog 30 = 2 := by kernel_rfl
theorem bT30 : byT Tryz.prog 30 = 16 := by kernel_rfl
theorem zT30 : zT Tryz.prog 30 = some [.b false, .i 0] := by kernel_rfl
theorem dT31 : dT Tryz.prog 31 = .st [(0, 4), (1, 3)] := by kernel_rfl
theorem sT31 : szT Tryz.prog 31 = 2 := by kernel_rfl
theorem bT31 : byT Tryz.prog 31 = 16 := by kernel_rfl
theorem zT31 : zT Tryz.prog 31 = some [.b false, .i 0] := by kernel_rfl
theorem gT31 : tagsT Tryz.prog 12 31 = some [.q, .n] := by kernel_rfl
theorem eqT31 {a b : List Sc} : abin Tryz.prog .eql 31 (.g a) (.g b) = (csEq [.q, .n] a b).bind (eqU .eql) := ab_g_eql _ (by simp only [dT31, D.agg]) gT31
theorem neT31 {a b : List Sc} : abin Tryz.prog .neq 31 (.g a) (.g b) = (csEq [.q, .n] a b).bind (eqU .neq) := ab_g_neq _ (by simp only [dT31, D.agg]) gT31
theorem dT32 : dT Tryz.prog 32 = .int .i64 := by kernel_rfl
theorem sT32 : szT Tryz.prog 32 = 1 := by kernel_rfl
theorem bT32 : byT Tryz.prog 32 = 8 := by kernel_rfl
theorem zT32 : zT Tryz.prog 32 = some [.i 0] := by kernel_rfl
theorem dT33 : dT Tryz.prog 33 = .st [(0, 3), (1, 3), (2, 25), (3, 25), (4, 31), (6, 25), (7, 3), (8, 32), (9, 25), (10, 3), (11, 25)] := by kernel_rfl
theorem sT33 : szT Tryz.prog 33 = 12 := by kernel_rfl
theorem bT33 : byT Tryz.prog 33 = 96 := by kernel_rfl
theorem zT33 : zT Tryz.prog 33 = some [.i 0, .i 0, .u 0#64, .u 0#64, .b false, .i 0, .u 0#64, .i 0, .i 0, .u 0#64, .i 0, .u 0#64] := by kernel_rfl
theorem dT34 : dT Tryz.prog 34 = .st [(0, 3), (1, 3), (2, 25), (3, 25), (4, 31), (6, 25), (7, 3), (8, 32), (9, 25), (10, 3), (11, 25)] := by kernel_rfl
theorem sT34 : szT Tryz.prog 34 = 12 := by kernel_rfl
theorem bT34 : byT Tryz.prog 34 = 96 := by kernel_rfl
theorem zT34 : zT Tryz.prog 34 = some [.i 0, .i 0, .u 0#64, .u 0#64, .b false, .i 0, .u 0#64, .i 0, .i 0, .u 0#64, .i 0, .u 0#64] := by kernel_rfl
theorem gT34 : tagsT Tryz.prog 12 34 = some [.n, .n, .n, .n, .q, .n, .n, .n, .n, .n, .n, .n] := by kernel_rfl
theorem eqT34 {a b : List Sc} : abin Tryz.prog .eql 34 (.g a) (.g b) = (csEq [.n, .n, .n, .n, .q, .n, .n, .n, .n, .n, .n, .n] a b).bind (eqU .eql) := ab_g_eql _ (by simp only [dT34, D.agg]) gT34
theorem neT34 {a b : List Sc} : abin Tryz.prog .neq 34 (.g a) (.g b) = (csEq [.n, .n, .n, .n, .q, .n, .n, .n, .n, .n, .n, .n] a b).bind (eqU .neq) := ab_g_neq _ (by simp only [dT34, D.agg]) gT34
theorem dT35 : dT Tryz.prog 35 = .other := by kernel_rfl
theorem sT35 : szT Tryz.prog 35 = 1 := by kernel_rfl
theorem bT35 : byT Tryz.prog 35 = 8 := by kernel_rfl
theorem zT35 : zT Tryz.prog 35 = some [.nilf] := by kernel_rfl
theorem eql1T35 {f : Nat} {c : List (Nat × Nat × Nat)}  : abin Tryz.prog .eql 35 (.c (.f f c)) (.c .nilf) = some (.c (.b false)) := by kernel_rfl
theorem eql2T35 : abin Tryz.prog .eql 35 (.c .nilf) (.c .nilf) = some (.c (.b true)) := by kernel_rfl
theorem neq1T35 {f : Nat} {c : List (Nat × Nat × Nat)}  : abin Tryz.prog .neq 35 (.c (.f f c)) (.c .nilf) = some (.c (.b true)) := by kernel_rfl
theorem neq2T35 : abin Tryz.prog .neq 35 (.c .nilf) (.c .nilf) = some (.c (.b false)) := by kernel_rfl
theorem dT36 : dT Tryz.prog 36 = .ptr 28 := by kernel_rfl
theorem sT36 : szT Tryz.prog 36 = 1 := by kernel_rfl
theorem bT36 : byT Tryz.prog 36 = 8 := by kernel_rfl
theorem zT36 : zT Tryz.prog 36 = some [.nilp] := by kernel_rfl
theorem eql1T36 {a b c : Nat}  : abin Tryz.prog .eql 36 (.c (.p a b c)) (.c .nilp) = some (.c (.b false)) := by kernel_rfl
theorem eql2T36 : abin Tryz.prog .eql 36 (.c .nilp) (.c .nilp) = some (.c (.b true)) := by kernel_rfl
theorem neq1T36 {a b c : Nat}  : abin Tryz.prog .neq 36 (.c (.p a b c)) (.c .nilp) = some (.c (.b true)) := by kernel_rfl
theorem neq2T36 : abin Tryz.prog .neq 36 (.c .nilp) (.c .nilp) = some (.c (.b false)) := by kernel_rfl
theorem dT37 : dT Tryz.prog 37 = .int .i64 := by kernel_rfl
theorem sT37 : szT Tryz.prog 37 = 1 := by kernel_rfl
theorem bT37 : byT Tryz.prog 37 = 8 := by kernel_rfl
theorem zT37 : zT Tryz.prog 37 = some [.i 0] := by kernel_rfl
theorem dT38 : dT Tryz.prog 38 = .st [(0, 4), (1, 3)] := by kernel_rfl
theorem sT38 : szT Tryz.prog 38 = 2 := by kernel_rfl
theorem bT38 : byT Tryz.prog 38 = 16 := by kernel_rfl
theorem zT38 : zT Tryz.prog 38 = some [.b false, .i 0] := by kernel_rfl
theorem gT38 : tagsT Tryz.prog 12 38 = some [.q, .n] := by kernel_rfl
theorem eqT38 {a b : List Sc} : abin Tryz.prog .eql 38 (.g a) (.g b) = (csEq [.q, .n] a b).bind (eqU .eql) := ab_g_eql _ (by simp only [dT38, D.agg]) gT38
theorem neT38 {a b : List Sc} : abin Tryz.prog .neq 38 (.g a) (.g b) = (csEq [.q, .n] a b).bind (eqU .neq) := ab_g_neq _ (by simp only [dT38, D.agg]) gT38
theorem dT39 : dT Tryz.prog 39 = .st [(0, 3), (1, 3), (2, 25), (3, 25), (4, 38), (6, 25), (7, 3), (8, 32), (9, 25), (10, 3), (11, 25)] := by kernel_rfl
theorem sT39 : szT Tryz.prog 39 = 12 := by kernel_rfl
theorem bT39 : byT Tryz.prog 39 = 96 := by kernel_rfl
theorem zT39 : zT Tryz.prog 39 = some [.i 0, .i 0, .u 0#64, .u 0#64, .b false, .i 0, .u 0#64, .i 0, .i 0, .u 0#64, .i 0, .u 0#64] := by kernel_rfl
theorem dT40 : dT Tryz.prog 40 = .st [(0, 3), (1, 3), (2, 25), (3, 25), (4, 38), (6, 25), (7, 3), (8, 32), (9, 25), (10, 3), (11, 25)] := by kernel_rfl
theorem sT40 : szT Tryz.prog 40 = 12 := by kernel_rfl
theorem bT40 : byT Tryz.prog 40 = 96 := by kernel_rfl
theorem zT40 : zT Tryz.prog 40 = some [.i 0, .i 0, .u 0#64, .u 0#64, .b false, .i 0, .u 0#64, .i 0, .i 0, .u 0#64, .i 0, .u 0#64] := by kernel_rfl
theorem gT40 : tagsT Tryz.prog 12 40 = some [.n, .n, .n, .n, .q, .n, .n, .n, .n, .n, .n, .n] := by kernel_rfl
theorem eqT40 {a b : List Sc} : abin Tryz.prog .eql 40 (.g a) (.g b) = (csEq [.n, .n, .n, .n, .q, .n, .n, .n, .n, .n, .n, .n] a b).bind (eqU .eql) := ab_g_eql _ (by simp only [dT40, D.agg]) gT40
theorem neT40 {a b : List Sc} : abin Tryz.prog .neq 40 (.g a) (.g b) = (csEq [.n, .n, .n, .n, .q, .n, .n, .n, .n, .n, .n, .n] a b).bind (eqU .neq) := ab_g_neq _ (by simp only [dT40, D.agg]) gT40
theorem dT41 : dT Tryz.prog 41 = .other := by kernel_rfl
theorem sT41 : szT Tryz.prog 41 = 1 := by kernel_rfl
theorem bT41 : byT Tryz.prog 41 = 8 := by kernel_rfl
theorem zT41 : zT Tryz.prog 41 = some [.nilf] := by kernel_rfl
theorem eql1T41 {f : Nat} {c : List (Nat × Nat × Nat)}  : abin Tryz.prog .eql 41 (.c (.f f c)) (.c .nilf) = some (.c (.b false)) := by kernel_rfl
theorem eql2T41 : abin Tryz.prog .eql 41 (.c .nilf) (.c .nilf) = some (.c (.b true)) := by kernel_rfl
theorem neq1T41 {f : Nat} {c : List (Nat × Nat × Nat)}  : abin Tryz.prog .neq 41 (.c (.f f c)) (.c .nilf) = some (.c (.b true)) := by kernel_rfl
theorem neq2T41 : abin Tryz.prog .neq 41 (.c .nilf) (.c .nilf) = some (.c (.b false)) := by kernel_rfl
theorem dT42 : dT Tryz.prog 42 = .other := by kernel_rfl
theorem sT42 : szT Tryz.prog 42 = 1 := by kernel_rfl
theorem bT42 : byT Tryz.prog 42 = 8 := by kernel_rfl
theorem zT42 : zT Tryz.prog 42 = some [.nilf] := by kernel_rfl
theorem eql1T42 {f : Nat} {c : List (Nat × Nat × Nat)}  : abin Tryz.prog .eql 42 (.c (.f f c)) (.c .nilf) = some (.c (.b false)) := by kernel_rfl
theorem eql2T42 : abin Tryz.prog .eql 42 (.c .nilf) (.c .nilf) = some (.c (.b true)) := by kernel_rfl
theorem neq1T42 {f : Nat} {c : List (Nat × Nat × Nat)}  : abin Tryz.prog .neq 42 (.c (.f f c)) (.c .nilf) = some (.c (.b true)) := by kernel_rfl
theorem neq2T42 : abin Tryz.prog .neq 42 (.c .nilf) (.c .nilf) = some (.c (.b false)) := by kernel_rfl
theorem dT43 : dT Tryz.prog 43 = .other := by kernel_rfl
theorem sT43 : szT Tryz.prog 43 = 1 := by kernel_rfl
theorem bT43 : byT Tryz.prog 43 = 8 := by kernel_rfl
theorem zT43 : zT Tryz.prog 43 = some [.nilf] := by kernel_rfl
theorem eql1T43 {f : Nat} {c : List (Nat × Nat × Nat)}  : abin Tryz.prog .eql 43 (.c (.f f c)) (.c .nilf) = some (.c (.b false)) := by kernel_rfl
theorem eql2T43 : abin Tryz.prog .eql 43 (.c .nilf) (.c .nilf) = some (.c (.b true)) := by kernel_rfl
theorem neq1T43 {f : Nat} {c : List (Nat × Nat × Nat)}  : abin Tryz.prog .neq 43 (.c (.f f c)) (.c .nilf) = some (.c (.b true)) := by kernel_rfl
theorem neq2T43 : abin Tryz.prog .neq 43 (.c .nilf) (.c .nilf) = some (.c (.b false)) := by kernel_rfl
theorem dT44 : dT Tryz.prog 44 = .other := by kernel_rfl
theorem sT44 : szT Tryz.prog 44 = 1 := by kernel_rfl
theorem bT44 : byT Tryz.prog 44 = 8 := by kernel_rfl
theorem zT44 : zT Tryz.prog 44 = some [.nilf] := by kernel_rfl
theorem eql1T44 {f : Nat} {c : List (Nat × Nat × Nat)}  : abin Tryz.prog .eql 44 (.c (.f f c)) (.c .nilf) = some (.c (.b false)) := by kernel_rfl
theorem eql2T44 : abin Tryz.prog .eql 44 (.c .nilf) (.c .nilf) = some (.c (.b true)) := by kernel_rfl
theorem neq1T44 {f : Nat} {c : List (Nat × Nat × Nat)}  : abin Tryz.prog .neq 44 (.c (.f f c)) (.c .nilf) = some (.c (.b true)) := by kernel_rfl
theorem neq2T44 : abin Tryz.prog .neq 44 (.c .nilf) (.c .nilf) = some (.c (.b false)) := by kernel_rfl
theorem dT45 : dT Tryz.prog 45 = .other := by kernel_rfl
theorem sT45 : szT Tryz.prog 45 = 1 := by kernel_rfl
theorem bT45 : byT Tryz.prog 45 = 8 := by kernel_rfl
theorem zT45 : zT Tryz.prog 45 = some [.nilf] := by kernel_rfl
theorem eql1T45 {f : Nat} {c : List (Nat × Nat × Nat)}  : abin Tryz.prog .eql 45 (.c (.f f c)) (.c .nilf) = some (.c (.b false)) := by kernel_rfl
theorem eql2T45 : abin Tryz.prog .eql 45 (.c .nilf) (.c .nilf) = some (.c (.b true)) := by kernel_rfl
theorem neq1T45 {f : Nat} {c : List (Nat × Nat × Nat)}  : abin Tryz.prog .neq 45 (.c (.f f c)) (.c .nilf) = some (.c (.b true)) := by kernel_rfl
theorem neq2T45 : abin Tryz.prog .neq 45 (.c .nilf) (.c .nilf) = some (.c (.b false)) := by kernel_rfl
theorem dT46 : dT Tryz.prog 46 = .other := by kernel_rfl
theorem sT46 : szT Tryz.prog 46 = 1 := by kernel_rfl
theorem bT46 : byT Tryz.prog 46 = 8 := by kernel_rfl
theorem zT46 : zT Tryz.prog 46 = some [.nilf] := by kernel_rfl
theorem eql1T46 {f : Nat} {c : List (Nat × Nat × Nat)}  : abin Tryz.prog .eql 46 (.c (.f f c)) (.c .nilf) = some (.c (.b false)) := by kernel_rfl
theorem eql2T46 : abin Tryz.prog .eql 46 (.c .nilf) (.c .nilf) = some (.c (.b true)) := by kernel_rfl
theorem neq1T46 {f : Nat} {c : List (Nat × Nat × Nat)}  : abin Tryz.prog .neq 46 (.c (.f f c)) (.c .nilf) = some (.c (.b true)) := by kernel_rfl
theorem neq2T46 : abin Tryz.prog .neq 46 (.c .nilf) (.c .nilf) = some (.c (.b false)) := by kernel_rfl
theorem dT47 : dT Tryz.prog 47 = .other := by kernel_rfl
theorem sT47 : szT Tryz.prog 47 = 1 := by kernel_rfl
theorem bT47 : byT Tryz.prog 47 = 8 := by kernel_rfl
theorem zT47 : zT Tryz.prog 47 = some [.nilf] := by kernel_rfl
theorem eql1T47 {f : Nat} {c : List (Nat × Nat × Nat)}  : abin Tryz.prog .eql 47 (.c (.f f c)) (.c .nilf) = some (.c (.b false)) := by kernel_rfl
theorem eql2T47 : abin Tryz.prog .eql 47 (.c .nilf) (.c .nilf) = some (.c (.b true)) := by kernel_rfl
theorem neq1T47 {f : Nat} {c : List (Nat × Nat × Nat)}  : abin Tryz.prog .neq 47 (.c (.f f c)) (.c .nilf) = some (.c (.b true)) := by kernel_rfl
theorem neq2T47 : abin Tryz.prog .neq 47 (.c .nilf) (.c .nilf) = some (.c (.b false)) := by kernel_rfl
theorem dT49 : dT Tryz.prog 49 = .other := by kernel_rfl
theorem sT49 : szT Tryz.prog 49 = 1 := by kernel_rfl
theorem bT49 : byT Tryz.prog 49 = 8 := by kernel_rfl
theorem zT49 : zT Tryz.prog 49 = some [.nilf] := by kernel_rfl
theorem eql1T49 {f : Nat} {c : List (Nat × Nat × Nat)}  : abin Tryz.prog .eql 49 (.c (.f f c)) (.c .nilf) = some (.c (.b false)) := by kernel_rfl
theorem eql2T49 : abin Tryz.prog .eql 49 (.c .nilf) (.c .nilf) = some (.c (.b true)) := by kernel_rfl
theorem neq1T49 {f : Nat} {c : List (Nat × Nat × Nat)}  : abin Tryz.prog .neq 49 (.c (.f f c)) (.c .nilf) = some (.c (.b true)) := by kernel_rfl
theorem neq2T49 : abin Tryz.prog .neq 49 (.c .nilf) (.c .nilf) = some (.c (.b false)) := by kernel_rfl
theorem dT50 : dT Tryz.prog 50 = .other := by kernel_rfl
theorem sT50 : szT Tryz.prog 50 = 1 := by kernel_rfl
theorem bT50 : byT Tryz.prog 50 = 8 := by kernel_rfl
theorem zT50 : zT Tryz.prog 50 = some [.nilf] := by kernel_rfl
theorem eql1T50 {f : Nat} {c : List (Nat × Nat × Nat)}  : abin Tryz.prog .eql 50 (.c (.f f c)) (.c .nilf) = some (.c (.b false)) := by kernel_rfl
theorem eql2T50 : abin Tryz.prog .eql 50 (.c .nilf) (.c .nilf) = some (.c (.b true)) := by kernel_rfl
theorem neq1T50 {f : Nat} {c : List (Nat × Nat × Nat)}  : abin Tryz.prog .neq 50 (.c (.f f c)) (.c .nilf) = some (.c (.b true)) := by kernel_rfl
theorem neq2T50 : abin Tryz.prog .neq 50 (.c .nilf) (.c .nilf) = some (.c (.b false)) := by kernel_rfl
theorem dT51 : dT Tryz.prog 51 = .other := by kernel_rfl
theorem sT51 : szT Tryz.prog 51 = 1 := by kernel_rfl
theorem bT51 : byT Tryz.prog 51 = 8 := by kernel_rfl
theorem zT51 : zT Tryz.prog 51 = some [.nilf] := by kernel_rfl
theorem eql1T51 {f : Nat} {c : List (Nat × Nat × Nat)}  : abin Tryz.prog .eql 51 (.c (.f f c)) (.c .nilf) = some (.c (.b false)) := by kernel_rfl
theorem eql2T51 : abin Tryz.prog .eql 51 (.c .nilf) (.c .nilf) = some (.c (.b true)) := by kernel_rfl
theorem neq1T51 {f : Nat} {c : List (Nat × Nat × Nat)}  : abin Tryz.prog .neq 51 (.c (.f f c)) (.c .nilf) = some (.c (.b true)) := by kernel_rfl
theorem neq2T51 : abin Tryz.prog .neq 51 (.c .nilf) (.c .nilf) = some (.c (.b false)) := by kernel_rfl
theorem dT52 : dT Tryz.prog 52 = .other := by kernel_rfl
theorem sT52 : szT Tryz.prog 52 = 1 := by kernel_rfl
theorem bT52 : byT Tryz.prog 52 = 8 := by kernel_rfl
theorem zT52 : zT Tryz.prog 52 = some [.nilf] := by kernel_rfl
theorem eql1T52 {f : Nat} {c : List (Nat × Nat × Nat)}  : abin Tryz.prog .eql 52 (.c (.f f c)) (.c .nilf) = some (.c (.b false)) := by kernel_rfl
theorem eql2T52 : abin Tryz.prog .eql 52 (.c .nilf) (.c .nilf) = some (.c (.b true)) := by kernel_rfl
theorem neq1T52 {f : Nat} {c : List (Nat × Nat × Nat)}  : abin Tryz.prog .neq 52 (.c (.f f c)) (.c .nilf) = some (.c (.b true)) := by kernel_rfl
theorem neq2T52 : abin Tryz.prog .neq 52 (.c .nilf) (.c .nilf) = some (.c (.b false)) := by kernel_rfl
theorem dT53 : dT Tryz.prog 53 = .other := by kernel_rfl
theorem sT53 : szT Tryz.prog 53 = 1 := by kernel_rfl
theorem bT53 : byT Tryz.prog 53 = 8 := by kernel_rfl
theorem zT53 : zT Tryz.prog 53 = some [.nilf] := by kernel_rfl
theorem eql1T53 {f : Nat} {c : List (Nat × Nat × Nat)}  : abin Tryz.prog .eql 53 (.c (.f f c)) (.c .nilf) = some (.c (.b false)) := by kernel_rfl
theorem eql2T53 : abin Tryz.prog .eql 53 (.c .nilf) (.c .nilf) = some (.c (.b true)) := by kernel_rfl
theorem neq1T53 {f : Nat} {c : List (Nat × Nat × Nat)}  : abin Tryz.prog .neq 53 (.c (.f f c)) (.c .nilf) = some (.c (.b true)) := by kernel_rfl
theorem neq2T53 : abin Tryz.prog .neq 53 (.c .nilf) (.c .nilf) = some (.c (.b false)) := by kernel_rfl
theorem dT54 : dT Tryz.prog 54 = .other := by kernel_rfl
theorem sT54 : szT Tryz.prog 54 = 1 := by kernel_rfl
theorem bT54 : byT Tryz.prog 54 = 8 := by kernel_rfl
theorem zT54 : zT Tryz.prog 54 = some [.nilf] := by kernel_rfl
theorem eql1T54 {f : Nat} {c : List (Nat × Nat × Nat)}  : abin Tryz.prog .eql 54 (.c (.f f c)) (.c .nilf) = some (.c (.b false)) := by kernel_rfl
theorem eql2T54 : abin Tryz.prog .eql 54 (.c .nilf) (.c .nilf) = some (.c (.b true)) := by kernel_rfl
theorem neq1T54 {f : Nat} {c : List (Nat × Nat × Nat)}  : abin Tryz.prog .neq 54 (.c (.f f c)) (.c .nilf) = some (.c (.b true)) := by kernel_rfl
theorem neq2T54 : abin Tryz.prog .neq 54 (.c .nilf) (.c .nilf) = some (.c (.b false)) := by kernel_rfl
theorem dT55 : dT Tryz.prog 55 = .other := by kernel_rfl
theorem sT55 : szT Tryz.prog 55 = 1 := by kernel_rfl
theorem bT55 : byT Tryz.prog 55 = 8 := by kernel_rfl
theorem zT55 : zT Tryz.prog 55 = some [.nilf] := by kernel_rfl
theorem eql1T55 {f : Nat} {c : List (Nat × Nat × Nat)}  : abin Tryz.prog .eql 55 (.c (.f f c)) (.c .nilf) = some (.c (.b false)) := by kernel_rfl
theorem eql2T55 : abin Tryz.prog .eql 55 (.c .nilf) (.c .nilf) = some (.c (.b true)) := by kernel_rfl
theorem neq1T55 {f : Nat} {c : List (Nat × Nat × Nat)}  : abin Tryz.prog .neq 55 (.c (.f f c)) (.c .nilf) = some (.c (.b true)) := by kernel_rfl
theorem neq2T55 : abin Tryz.prog .neq 55 (.c .nilf) (.c .nilf) = some (.c (.b false)) := by kernel_rfl
theorem dT56 : dT Tryz.prog 56 = .other := by kernel_rfl
theorem sT56 : szT Tryz.prog 56 = 1 := by kernel_rfl
theorem bT56 : byT Tryz.prog 56 = 8 := by kernel_rfl
theorem zT56 : zT Tryz.prog 56 = some [.nilf] := by kernel_rfl
theorem eql1T56 {f : Nat} {c : List (Nat × Nat × Nat)}  : abin Tryz.prog .eql 56 (.c (.f f c)) (.c .nilf) = some (.c (.b false)) := by kernel_rfl
theorem eql2T56 : abin Tryz.prog .eql 56 (.c .nilf) (.c .nilf) = some (.c (.b true)) := by kernel_rfl
theorem neq1T56 {f : Nat} {c : List (Nat × Nat × Nat)}  : abin Tryz.prog .neq 56 (.c (.f f c)) (.c .nilf) = some (.c (.b true)) := by kernel_rfl
theorem neq2T56 : abin Tryz.prog .neq 56 (.c .nilf) (.c .nilf) = some (.c (.b false)) := by kernel_rfl
theorem dT57 : dT Tryz.prog 57 = .other := by kernel_rfl
theorem sT57 : szT Tryz.prog 57 = 1 := by kernel_rfl
theorem bT57 : byT Tryz.prog 57 = 8 := by kernel_rfl
theorem zT57 : zT Tryz.prog 57 = some [.nilf] := by kernel_rfl
theorem eql1T57 {f : Nat} {c : List (Nat × Nat × Nat)}  : abin Tryz.prog .eql 57 (.c (.f f c)) (.c .nilf) = some (.c (.b false)) := by kernel_rfl
theorem eql2T57 : abin Tryz.prog .eql 57 (.c .nilf) (.c .nilf) = some (.c (.b true)) := by kernel_rfl
theorem neq1T57 {f : Nat} {c : List (Nat × Nat × Nat)}  : abin Tryz.prog .neq 57 (.c (.f f c)) (.c .nilf) = some (.c (.b true)) := by kernel_rfl
theorem neq2T57 : abin Tryz.prog .neq 57 (.c .nilf) (.c .nilf) = some (.c (.b false)) := by kernel_rfl
theorem dT58 : dT Tryz.prog 58 = .st [(0, 22), (1, 9), (2, 25), (3, 25)] := by kernel_rfl
theorem sT58 : szT Tryz.prog 58 = 4 := by kernel_rfl
theorem bT58 : byT Tryz.prog 58 = 40 := by kernel_rfl
theorem zT58 : zT Tryz.prog 58 = some [.i 0, .s ByteArray.empty, .u 0#64, .u 0#64] := by kernel_rfl
theorem dT59 : dT Tryz.prog 59 = .st [(0, 22), (1, 9), (2, 25), (3, 25)] := by kernel_rfl
theorem sT59 : szT Tryz.prog 59 = 4 := by kernel_rfl
theorem bT59 : byT Tryz.prog 59 = 40 := by kernel_rfl
theorem zT59 : zT Tryz.prog 59 = some [.i 0, .s ByteArray.empty, .u 0#64, .u 0#64] := by kernel_rfl
theorem gT59 : tagsT Tryz.prog 12 59 = some [.n, .s, .n, .n] := by kernel_rfl
theorem eqT59 {a b : List Sc} : abin Tryz.prog .eql 59 (.g a) (.g b) = (csEq [.n, .s, .n, .n] a b).bind (eqU .eql) := ab_g_eql _ (by simp only [dT59, D.agg]) gT59
theorem neT59 {a b : List Sc} : abin Tryz.prog .neq 59 (.g a) (.g b) = (csEq [.n, .s, .n, .n] a b).bind (eqU .neq) := ab_g_neq _ (by simp only [dT59, D.agg]) gT59
theorem dT60 : dT Tryz.prog 60 = .other := by kernel_rfl
theorem sT60 : szT Tryz.prog 60 = 1 := by kernel_rfl
theorem bT60 : byT Tryz.prog 60 = 8 := by kernel_rfl
theorem zT60 : zT Tryz.prog 60 = some [.nilf] := by kernel_rfl
theorem eql1T60 {f : Nat} {c : List (Nat × Nat × Nat)}  : abin Tryz.prog .eql 60 (.c (.f f c)) (.c .nilf) = some (.c (.b false)) := by kernel_rfl
theorem eql2T60 : abin Tryz.prog .eql 60 (.c .nilf) (.c .nilf) = some (.c (.b true)) := by kernel_rfl
theorem neq1T60 {f : Nat} {c : List (Nat × Nat × Nat)}  : abin Tryz.prog .neq 60 (.c (.f f c)) (.c .nilf) = some (.c (.b true)) := by kernel_rfl
theorem neq2T60 : abin Tryz.prog .neq 60 (.c .nilf) (.c .nilf) = some (.c (.b false)) := by kernel_rfl
theorem dT61 : dT Tryz.prog 61 = .other := by kernel_rfl
theorem sT61 : szT Tryz.prog 61 = 1 := by kernel_rfl
theorem bT61 : byT Tryz.prog 61 = 8 := by kernel_rfl
theorem zT61 : zT Tryz.prog 61 = some [.nilf] := by kernel_rfl
theorem eql1T61 {f : Nat} {c : List (Nat × Nat × Nat)}  : abin Tryz.prog .eql 61 (.c (.f f c)) (.c .nilf) = some (.c (.b false)) := by kernel_rfl
theorem eql2T61 : abin Tryz.prog .eql 61 (.c .nilf) (.c .nilf) = some (.c (.b true)) := by kernel_rfl
theorem neq1T61 {f : Nat} {c : List (Nat × Nat × Nat)}  : abin Tryz.prog .neq 61 (.c (.f f c)) (.c .nilf) = some (.c (.b true)) := by kernel_rfl
theorem neq2T61 : abin Tryz.prog .neq 61 (.c .nilf) (.c .nilf) = some (.c (.b false)) := by kernel_rfl
theorem dT62 : dT Tryz.prog 62 = .other := by kernel_rfl
theorem sT62 : szT Tryz.prog 62 = 1 := by kernel_rfl
theorem bT62 : byT Tryz.prog 62 = 8 := by kernel_rfl
theorem zT62 : zT Tryz.prog 62 = some [.nilf] := by kernel_rfl
theorem eql1T62 {f : Nat} {c : List (Nat × Nat × Nat)}  : abin Tryz.prog .eql 62 (.c (.f f c)) (.c .nilf) = some (.c (.b false)) := by kernel_rfl
theorem eql2T62 : abin Tryz.prog .eql 62 (.c .nilf) (.c .nilf) = some (.c (.b true)) := by kernel_rfl
theorem neq1T62 {f : Nat} {c : List (Nat × Nat × Nat)}  : abin Tryz.prog .neq 62 (.c (.f f c)) (.c .nilf) = some (.c (.b true)) := by kernel_rfl
theorem neq2T62 : abin Tryz.prog .neq 62 (.c .nilf) (.c .nilf) = some (.c (.b false)) := by kernel_rfl
theorem dT63 : dT Tryz.prog 63 = .other := by kernel_rfl
theorem sT63 : szT Tryz.prog 63 = 1 := by kernel_rfl
theorem bT63 : byT Tryz.prog 63 = 8 := by kernel_rfl
theorem zT63 : zT Tryz.prog 63 = some [.nilf] := by kernel_rfl
theorem eql1T63 {f : Nat} {c : List (Nat × Nat × Nat)}  : abin Tryz.prog .eql 63 (.c (.f f c)) (.c .nilf) = some (.c (.b false)) := by kernel_rfl
theorem eql2T63 : abin Tryz.prog .eql 63 (.c .nilf) (.c .nilf) = some (.c (.b true)) := by kernel_rfl
theorem neq1T63 {f : Nat} {c : List (Nat × Nat × Nat)}  : abin Tryz.prog .neq 63 (.c (.f f c)) (.c .nilf) = some (.c (.b true)) := by kernel_rfl
theorem neq2T63 : abin Tryz.prog .neq 63 (.c .nilf) (.c .nilf) = some (.c (.b false)) := by kernel_rfl
theorem dT64 : dT Tryz.prog 64 = .other := by kernel_rfl
theorem sT64 : szT Tryz.prog 64 = 1 := by kernel_rfl
theorem bT64 : byT Tryz.prog 64 = 8 := by kernel_rfl
theorem zT64 : zT Tryz.prog 64 = some [.nilf] := by kernel_rfl
theorem eql1T64 {f : Nat} {c : List (Nat × Nat × Nat)}  : abin Tryz.prog .eql 64 (.c (.f f c)) (.c .nilf) = some (.c (.b false)) := by kernel_rfl
theorem eql2T64 : abin Tryz.prog .eql 64 (.c .nilf) (.c .nilf) = some (.c (.b true)) := by kernel_rfl
theorem neq1T64 {f : Nat} {c : List (Nat × Nat × Nat)}  : abin Tryz.prog .neq 64 (.c (.f f c)) (.c .nilf) = some (.c (.b true)) := by kernel_rfl
theorem neq2T64 : abin Tryz.prog .neq 64 (.c .nilf) (.c .nilf) = some (.c (.b false)) := by kernel_rfl
theorem dT66 : dT Tryz.prog 66 = .other := by kernel_rfl
theorem sT66 : szT Tryz.prog 66 = 1 := by kernel_rfl
theorem bT66 : byT Tryz.prog 66 = 8 := by kernel_rfl
theorem zT66 : zT Tryz.prog 66 = some [.nilf] := by kernel_rfl
theorem eql1T66 {f : Nat} {c : List (Nat × Nat × Nat)}  : abin Tryz.prog .eql 66 (.c (.f f c)) (.c .nilf) = some (.c (.b false)) := by kernel_rfl
theorem eql2T66 : abin Tryz.prog .eql 66 (.c .nilf) (.c .nilf) = some (.c (.b true)) := by kernel_rfl
theorem neq1T66 {f : Nat} {c : List (Nat × Nat × Nat)}  : abin Tryz.prog .neq 66 (.c (.f f c)) (.c .nilf) = some (.c (.b true)) := by kernel_rfl
theorem neq2T66 : abin Tryz.prog .neq 66 (.c .nilf) (.c .nilf) = some (.c (.b false)) := by kernel_rfl
theorem dT67 : dT Tryz.prog 67 = .other := by kernel_rfl
theorem sT67 : szT Tryz.prog 67 = 1 := by kernel_rfl
theorem bT67 : byT Tryz.prog 67 = 8 := by kernel_rfl
theorem zT67 : zT Tryz.prog 67 = some [.nilf] := by kernel_rfl
theorem eql1T67 {f : Nat} {c : List (Nat × Nat × Nat)}  : abin Tryz.prog .eql 67 (.c (.f f c)) (.c .nilf) = some (.c (.b false)) := by kernel_rfl
theorem eql2T67 : abin Tryz.prog .eql 67 (.c .nilf) (.c .nilf) = some (.c (.b true)) := by kernel_rfl
theorem neq1T67 {f : Nat} {c : List (Nat × Nat × Nat)}  : abin Tryz.prog .neq 67 (.c (.f f c)) (.c .nilf) = some (.c (.b true)) := by kernel_rfl
theorem neq2T67 : abin Tryz.prog .neq 67 (.c .nilf) (.c .nilf) = some (.c (.b false)) := by kernel_rfl
theorem dT68 : dT Tryz.prog 68 = .other := by kernel_rfl
theorem sT68 : szT Tryz.prog 68 = 1 := by kernel_rfl
theorem bT68 : byT Tryz.prog 68 = 8 := by kernel_rfl
theorem zT68 : zT Tryz.prog 68 = some [.nilf] := by kernel_rfl
theorem eql1T68 {f : Nat} {c : List (Nat × Nat × Nat)}  : abin Tryz.prog .eql 68 (.c (.f f c)) (.c .nilf) = some (.c (.b false)) := by kernel_rfl
theorem eql2T68 : abin Tryz.prog .eql 68 (.c .nilf) (.c .nilf) = some (.c (.b true)) := by kernel_rfl
theorem neq1T68 {f : Nat} {c : List (Nat × Nat × Nat)}  : abin Tryz.prog .neq 68 (.c (.f f c)) (.c .nilf) = some (.c (.b true)) := by kernel_rfl
theorem neq2T68 : abin Tryz.prog .neq 68 (.c .nilf) (.c .nilf) = some (.c (.b false)) := by kernel_rfl
theorem dT69 : dT Tryz.prog 69 = .sl 9 := by kernel_rfl
theorem sT69 : szT Tryz.prog 69 = 1 := by kernel_rfl
theorem bT69 : byT Tryz.prog 69 = 24 := by kernel_rfl
theorem zT69 : zT Tryz.prog 69 = some [.nils] := by kernel_rfl
theorem eql1T69 {a b c n : Nat}  : abin Tryz.prog .eql 69 (.c (.sl a b c n)) (.c .nils) = if n = 0 then some (.c .qq) else some (.c (.b false)) := by kernel_rfl
theorem eql2T69 : abin Tryz.prog .eql 69 (.c .nils) (.c .nils) = some (.c (.b true)) := by kernel_rfl
theorem neq1T69 {a b c n : Nat}  : abin Tryz.prog .neq 69 (.c (.sl a b c n)) (.c .nils) = if n = 0 then some (.c .qq) else some (.c (.b true)) := by kernel_rfl
theorem neq2T69 : abin Tryz.prog .neq 69 (.c .nils) (.c .nils) = some (.c (.b false)) := by kernel_rfl
theorem dT70 : dT Tryz.prog 70 = .other := by kernel_rfl
theorem sT70 : szT Tryz.prog 70 = 1 := by kernel_rfl
theorem bT70 : byT Tryz.prog 70 = 8 := by kernel_rfl
theorem zT70 : zT Tryz.prog 70 = some [.nilf] := by kernel_rfl
theorem eql1T70 {f : Nat} {c : List (Nat × Nat × Nat)}  : abin Tryz.prog .eql 70 (.c (.f f c)) (.c .nilf) = some (.c (.b false)) := by kernel_rfl
theorem eql2T70 : abin Tryz.prog .eql 70 (.c .nilf) (.c .nilf) = some (.c (.b true)) := by kernel_rfl
theorem neq1T70 {f : Nat} {c : List (Nat × Nat × Nat)}  : abin Tryz.prog .neq 70 (.c (.f f c)) (.c .nilf) = some (.c (.b true)) := by kernel_rfl
theorem neq2T70 : abin Tryz.prog .neq 70 (.c .nilf) (.c .nilf) = some (.c (.b false)) := by kernel_rfl
theorem dT71 : dT Tryz.prog 71 = .other := by kernel_rfl
theorem sT71 : szT Tryz.prog 71 = 1 := by kernel_rfl
theorem bT71 : byT Tryz.prog 71 = 8 := by kernel_rfl
theorem zT71 : zT Tryz.prog 71 = some [.nilf] := by kernel_rfl
theorem eql1T71 {f : Nat} {c : List (Nat × Nat × Nat)}  : abin Tryz.prog .eql 71 (.c (.f f c)) (.c .nilf) = some (.c (.b false)) := by kernel_rfl
theorem eql2T71 : abin Tryz.prog .eql 71 (.c .nilf) (.c .nilf) = some (.c (.b true)) := by kernel_rfl
theorem neq1T71 {f : Nat} {c : List (Nat × Nat × Nat)}  : abin Tryz.prog .neq 71 (.c (.f f c)) (.c .nilf) = some (.c (.b true)) := by kernel_rfl
theorem neq2T71 : abin Tryz.prog .neq 71 (.c .nilf) (.c .nilf) = some (.c (.b false)) := by kernel_rfl
theorem dT72 : dT Tryz.prog 72 = .other := by kernel_rfl
theorem sT72 : szT Tryz.prog 72 = 1 := by kernel_rfl
theorem bT72 : byT Tryz.prog 72 = 8 := by kernel_rfl
theorem zT72 : zT Tryz.prog 72 = some [.nilf] := by kernel_rfl
theorem eql1T72 {f : Nat} {c : List (Nat × Nat × Nat)}  : abin Tryz.prog .eql 72 (.c (.f f c)) (.c .nilf) = some (.c (.b false)) := by kernel_rfl
theorem eql2T72 : abin Tryz.prog .eql 72 (.c .nilf) (.c .nilf) = some (.c (.b true)) := by kernel_rfl
theorem neq1T72 {f : Nat} {c : List (Nat × Nat × Nat)}  : abin Tryz.prog .neq 72 (.c (.f f c)) (.c .nilf) = some (.c (.b true)) := by kernel_rfl
theorem neq2T72 : abin Tryz.prog .neq 72 (.c .nilf) (.c .nilf) = some (.c (.b false)) := by kernel_rfl
theorem dT73 : dT Tryz.prog 73 = .st [(0, 4), (1, 4), (2, 4), (3, 25), (4, 3)] := by kernel_rfl
theorem sT73 : szT Tryz.prog 73 = 5 := by kernel_rfl
theorem bT73 : byT Tryz.prog 73 = 24 := by kernel_rfl
theorem zT73 : zT Tryz.prog 73 = some [.b false, .b false, .b false, .u 0#64, .i 0] := by kernel_rfl
theorem dT74 : dT Tryz.prog 74 = .st [(0, 4), (1, 4), (2, 4), (3, 25), (4, 3)] := by kernel_rfl
theorem sT74 : szT Tryz.prog 74 = 5 := by kernel_rfl
theorem bT74 : byT Tryz.prog 74 = 24 := by kernel_rfl
theorem zT74 : zT Tryz.prog 74 = some [.b false, .b false, .b false, .u 0#64, .i 0] := by kernel_rfl
theorem gT74 : tagsT Tryz.prog 12 74 = some [.q, .q, .q, .n, .n] := by kernel_rfl
theorem eqT74 {a b : List Sc} : abin Tryz.prog .eql 74 (.g a) (.g b) = (csEq [.q, .q, .q, .n, .n] a b).bind (eqU .eql) := ab_g_eql _ (by simp only [dT74, D.agg]) gT74
theorem neT74 {a b : List Sc} : abin Tryz.prog .neq 74 (.g a) (.g b) = (csEq [.q, .q, .q, .n, .n] a b).bind (eqU .neq) := ab_g_neq _ (by simp only [dT74, D.agg]) gT74
theorem dT75 : dT Tryz.prog 75 = .arr 8 74 := by kernel_rfl
theorem sT75 : szT Tryz.prog 75 = 40 := by kernel_rfl
theorem bT75 : byT Tryz.prog 75 = 192 := by kernel_rfl
theorem zT75 : zT Tryz.prog 75 = some [.b false, .b false, .b false, .u 0#64, .i 0, .b false, .b false, .b false, .u 0#64, .i 0, .b false, .b false, .b false, .u 0#64, .i 0, .b false, .b false, .b false, .u 0#64, .i 0, .b false, .b false, .b false, .u 0#64, .i 0, .b false, .b false, .b false, .u 0#64, .i 0, .b false, .b false, .b false, .u 0#64, .i 0, .b false, .b false, .b false, .u 0#64, .i 0] := by kernel_rfl
theorem gT75 : tagsT Tryz.prog 12 75 = some [.q, .q, .q, .n, .n, .q, .q, .q, .n, .n, .q, .q, .q, .n, .n, .q, .q, .q, .n, .n, .q, .q, .q, .n, .n, .q, .q, .q, .n, .n, .q, .q, .q, .n, .n, .q, .q, .q, .n, .n] := by kernel_rfl
theorem eqT75 {a b : List Sc} : abin Tryz.prog .eql 75 (.g a) (.g b) = (csEq [.q, .q, .q, .n, .n, .q, .q, .q, .n, .n, .q, .q, .q, .n, .n, .q, .q, .q, .n, .n, .q, .q, .q, .n, .n, .q, .q, .q, .n, .n, .q, .q, .q, .n, .n, .q, .q, .q, .n, .n] a b).bind (eqU .eql) := ab_g_eql _ (by simp only [dT75, D.agg]) gT75
theorem neT75 {a b : List Sc} : abin Tryz.prog .neq 75 (.g a) (.g b) = (csEq [.q, .q, .q, .n, .n, .q, .q, .q, .n, .n, .q, .q, .q, .n, .n, .q, .q, .q, .n, .n, .q, .q, .q, .n, .n, .q, .q, .q, .n, .n, .q, .q, .q, .n, .n, .q, .q, .q, .n, .n] a b).bind (eqU .neq) := ab_g_neq _ (by simp only [dT75, D.agg]) gT75
theorem dT76 : dT Tryz.prog 76 = .st [(0, 25), (1, 4), (2, 75)] := by kernel_rfl
theorem sT76 : szT Tryz.prog 76 = 42 := by kernel_rfl
theorem bT76 : byT Tryz.prog 76 = 208 := by kernel_rfl
theorem zT76 : zT Tryz.prog 76 = some [.u 0#64, .b false, .b false, .b false, .b false, .u 0#64, .i 0, .b false, .b false, .b false, .u 0#64, .i 0, .b false, .b false, .b false, .u 0#64, .i 0, .b false, .b false, .b false, .u 0#64, .i 0, .b false, .b false, .b false, .u 0#64, .i 0, .b false, .b false, .b false, .u 0#64, .i 0, .b false, .b false, .b false, .u 0#64, .i 0, .b false, .b false, .b false, .u 0#64, .i 0] := by kernel_rfl
theorem dT77 : dT Tryz.prog 77 = .st [(0, 25), (1, 4), (2, 75)] := by kernel_rfl
theorem sT77 : szT Tryz.prog 77 = 42 := by kernel_rfl
theorem bT77 : byT Tryz.prog 77 = 208 := by kernel_rfl
theorem zT77 : zT Tryz.prog 77 = some [.u 0#64, .b false, .b false, .b false, .b false, .u 0#64, .i 0, .b false, .b false, .b false, .u 0#64, .i 0, .b false, .b false, .b false, .u 0#64, .i 0, .b false, .b false, .b false, .u 0#64, .i 0, .b false, .b false, .b false, .u 0#64, .i 0, .b false, .b false, .b false, .u 0#64, .i 0, .b false, .b false, .b false, .u 0#64, .i 0, .b false, .b false, .b false, .u 0#64, .i 0] := by kernel_rfl
theorem dT78 : dT Tryz.prog 78 = .other := by kernel_rfl
theorem sT78 : szT Tryz.prog 78 = 1 := by kernel_rfl
theorem bT78 : byT Tryz.prog 78 = 8 := by kernel_rfl
theorem zT78 : zT Tryz.prog 78 = some [.nilf] := by kernel_rfl
theorem eql1T78 {f : Nat} {c : List (Nat × Nat × Nat)}  : abin Tryz.prog .eql 78 (.c (.f f c)) (.c .nilf) = some (.c (.b false)) := by kernel_rfl
theorem eql2T78 : abin Tryz.prog .eql 78 (.c .nilf) (.c .nilf) = some (.c (.b true)) := by kernel_rfl
theorem neq1T78 {f : Nat} {c : List (Nat × Nat × Nat)}  : abin Tryz.prog .neq 78 (.c (.f f c)) (.c .nilf) = some (.c (.b true)) := by kernel_rfl
theorem neq2T78 : abin Tryz.prog .neq 78 (.c .nilf) (.c .nilf) = some (.c (.b false)) := by kernel_rfl
theorem dT79 : dT Tryz.prog 79 = .other := by kernel_rfl
theorem sT79 : szT Tryz.prog 79 = 1 := by kernel_rfl
theorem bT79 : byT Tryz.prog 79 = 8 := by kernel_rfl
theorem zT79 : zT Tryz.prog 79 = some [.nilf] := by kernel_rfl
theorem eql1T79 {f : Nat} {c : List (Nat × Nat × Nat)}  : abin Tryz.prog .eql 79 (.c (.f f c)) (.c .nilf) = some (.c (.b false)) := by kernel_rfl
theorem eql2T79 : abin Tryz.prog .eql 79 (.c .nilf) (.c .nilf) = some (.c (.b true)) := by kernel_rfl
theorem neq1T79 {f : Nat} {c : List (Nat × Nat × Nat)}  : abin Tryz.prog .neq 79 (.c (.f f c)) (.c .nilf) = some (.c (.b true)) := by kernel_rfl
theorem neq2T79 : abin Tryz.prog .neq 79 (.c .nilf) (.c .nilf) = some (.c (.b false)) := by kernel_rfl
theorem dT80 : dT Tryz.prog 80 = .int .i64 := by kernel_rfl
theorem sT80 : szT Tryz.prog 80 = 1 := by kernel_rfl
theorem bT80 : byT Tryz.prog 80 = 8 := by kernel_rfl
theorem zT80 : zT Tryz.prog 80 = some [.i 0] := by kernel_rfl
theorem dT81 : dT Tryz.prog 81 = .other := by kernel_rfl
theorem sT81 : szT Tryz.prog 81 = 1 := by kernel_rfl
theorem bT81 : byT Tryz.prog 81 = 8 := by kernel_rfl
theorem zT81 : zT Tryz.prog 81 = some [.nilf] := by kernel_rfl
theorem eql1T81 {f : Nat} {c : List (Nat × Nat × Nat)}  : abin Tryz.prog .eql 81 (.c (.f f c)) (.c .nilf) = some (.c (.b false)) := by kernel_rfl
theorem eql2T81 : abin Tryz.prog .eql 81 (.c .nilf) (.c .nilf) = some (.c (.b true)) := by kernel_rfl
theorem neq1T81 {f : Nat} {c : List (Nat × Nat × Nat)}  : abin Tryz.prog .neq 81 (.c (.f f c)) (.c .nilf) = some (.c (.b true)) := by kernel_rfl
theorem neq2T81 : abin Tryz.prog .neq 81 (.c .nilf) (.c .nilf) = some (.c (.b false)) := by kernel_rfl
theorem dT82 : dT Tryz.prog 82 = .other := by kernel_rfl
theorem sT82 : szT Tryz.prog 82 = 1 := by kernel_rfl
theorem bT82 : byT Tryz.prog 82 = 8 := by kernel_rfl
theorem zT82 : zT Tryz.prog 82 = some [.nilf] := by kernel_rfl
theorem eql1T82 {f : Nat} {c : List (Nat × Nat × Nat)}  : abin Tryz.prog .eql 82 (.c (.f f c)) (.c .nilf) = some (.c (.b false)) := by kernel_rfl
theorem eql2T82 : abin Tryz.prog .eql 82 (.c .nilf) (.c .nilf) = some (.c (.b true)) := by kernel_rfl
theorem neq1T82 {f : Nat} {c : List (Nat × Nat × Nat)}  : abin Tryz.prog .neq 82 (.c (.f f c)) (.c .nilf) = some (.c (.b true)) := by kernel_rfl
theorem neq2T82 : abin Tryz.prog .neq 82 (.c .nilf) (.c .nilf) = some (.c (.b false)) := by kernel_rfl
theorem dT83 : dT Tryz.prog 83 = .other := by kernel_rfl
theorem sT83 : szT Tryz.prog 83 = 1 := by kernel_rfl
theorem bT83 : byT Tryz.prog 83 = 8 := by kernel_rfl
theorem zT83 : zT Tryz.prog 83 = some [.nilf] := by kernel_rfl
theorem eql1T83 {f : Nat} {c : List (Nat × Nat × Nat)}  : abin Tryz.prog .eql 83 (.c (.f f c)) (.c .nilf) = some (.c (.b false)) := by kernel_rfl
theorem eql2T83 : abin Tryz.prog .eql 83 (.c .nilf) (.c .nilf) = some (.c (.b true)) := by kernel_rfl
theorem neq1T83 {f : Nat} {c : List (Nat × Nat × Nat)}  : abin Tryz.prog .neq 83 (.c (.f f c)) (.c .nilf) = some (.c (.b true)) := by kernel_rfl
theorem neq2T83 : abin Tryz.prog .neq 83 (.c .nilf) (.c .nilf) = some (.c (.b false)) := by kernel_rfl
theorem dT84 : dT Tryz.prog 84 = .other := by kernel_rfl
theorem sT84 : szT Tryz.prog 84 = 1 := by kernel_rfl
theorem bT84 : byT Tryz.prog 84 = 8 := by kernel_rfl
theorem zT84 : zT Tryz.prog 84 = some [.nilf] := by kernel_rfl
theorem eql1T84 {f : Nat} {c : List (Nat × Nat × Nat)}  : abin Tryz.prog .eql 84 (.c (.f f c)) (.c .nilf) = some (.c (.b false)) := by kernel_rfl
theorem eql2T84 : abin Tryz.prog .eql 84 (.c .nilf) (.c .nilf) = some (.c (.b true)) := by kernel_rfl
theorem neq1T84 {f : Nat} {c : List (Nat × Nat × Nat)}  : abin Tryz.prog .neq 84 (.c (.f f c)) (.c .nilf) = some (.c (.b true)) := by kernel_rfl
theorem neq2T84 : abin Tryz.prog .neq 84 (.c .nilf) (.c .nilf) = some (.c (.b false)) := by kernel_rfl
theorem dT85 : dT Tryz.prog 85 = .other := by kernel_rfl
theorem sT85 : szT Tryz.prog 85 = 1 := by kernel_rfl
theorem bT85 : byT Tryz.prog 85 = 8 := by kernel_rfl
theorem zT85 : zT Tryz.prog 85 = some [.nilf] := by kernel_rfl
theorem eql1T85 {f : Nat} {c : List (Nat × Nat × Nat)}  : abin Tryz.prog .eql 85 (.c (.f f c)) (.c .nilf) = some (.c (.b false)) := by kernel_rfl
theorem eql2T85 : abin Tryz.prog .eql 85 (.c .nilf) (.c .nilf) = some (.c (.b true)) := by kernel_rfl
theorem neq1T85 {f : Nat} {c : List (Nat × Nat × Nat)}  : abin Tryz.prog .neq 85 (.c (.f f c)) (.c .nilf) = some (.c (.b true)) := by kernel_rfl
theorem neq2T85 : abin Tryz.prog .neq 85 (.c .nilf) (.c .nilf) = some (.c (.b false)) := by kernel_rfl
theorem dT86 : dT Tryz.prog 86 = .other := by kernel_rfl
theorem sT86 : szT Tryz.prog 86 = 1 := by kernel_rfl
theorem bT86 : byT Tryz.prog 86 = 8 := by kernel_rfl
theorem zT86 : zT Tryz.prog 86 = some [.nilf] := by kernel_rfl
theorem eql1T86 {f : Nat} {c : List (Nat × Nat × Nat)}  : abin Tryz.prog .eql 86 (.c (.f f c)) (.c .nilf) = some (.c (.b false)) := by kernel_rfl
theorem eql2T86 : abin Tryz.prog .eql 86 (.c .nilf) (.c .nilf) = some (.c (.b true)) := by kernel_rfl
theorem neq1T86 {f : Nat} {c : List (Nat × Nat × Nat)}  : abin Tryz.prog .neq 86 (.c (.f f c)) (.c .nilf) = some (.c (.b true)) := by kernel_rfl
theorem neq2T86 : abin Tryz.prog .neq 86 (.c .nilf) (.c .nilf) = some (.c (.b false)) := by kernel_rfl
theorem dT87 : dT Tryz.prog 87 = .other := by kernel_rfl
theorem sT87 : szT Tryz.prog 87 = 1 := by kernel_rfl
theorem bT87 : byT Tryz.prog 87 = 8 := by kernel_rfl
theorem zT87 : zT Tryz.prog 87 = some [.nilf] := by kernel_rfl
theorem eql1T87 {f : Nat} {c : List (Nat × Nat × Nat)}  : abin Tryz.prog .eql 87 (.c (.f f c)) (.c .nilf) = some (.c (.b false)) := by kernel_rfl
theorem eql2T87 : abin Tryz.prog .eql 87 (.c .nilf) (.c .nilf) = some (.c (.b true)) := by kernel_rfl
theorem neq1T87 {f : Nat} {c : List (Nat × Nat × Nat)}  : abin Tryz.prog .neq 87 (.c (.f f c)) (.c .nilf) = some (.c (.b true)) := by kernel_rfl
theorem neq2T87 : abin Tryz.prog .neq 87 (.c .nilf) (.c .nilf) = some (.c (.b false)) := by kernel_rfl
theorem dT88 : dT Tryz.prog 88 = .int .u64 := by kernel_rfl
theorem sT88 : szT Tryz.prog 88 = 1 := by kernel_rfl
theorem bT88 : byT Tryz.prog 88 = 8 := by kernel_rfl
theorem zT88 : zT Tryz.prog 88 = some [.u 0#64] := by kernel_rfl
theorem dT89 : dT Tryz.prog 89 = .other := by kernel_rfl
theorem sT89 : szT Tryz.prog 89 = 1 := by kernel_rfl
theorem bT89 : byT Tryz.prog 89 = 8 := by kernel_rfl
theorem zT89 : zT Tryz.prog 89 = some [.nilf] := by kernel_rfl
theorem eql1T89 {f : Nat} {c : List (Nat × Nat × Nat)}  : abin Tryz.prog .eql 89 (.c (.f f c)) (.c .nilf) = some (.c (.b false)) := by kernel_rfl
theorem eql2T89 : abin Tryz.prog .eql 89 (.c .nilf) (.c .nilf) = some (.c (.b true)) := by kernel_rfl
theorem neq1T89 {f : Nat} {c : List (Nat × Nat × Nat)}  : abin Tryz.prog .neq 89 (.c (.f f c)) (.c .nilf) = some (.c (.b true)) := by kernel_rfl
theorem neq2T89 : abin Tryz.prog .neq 89 (.c .nilf) (.c .nilf) = some (.c (.b false)) := by kernel_rfl
theorem dT90 : dT Tryz.prog 90 = .other := by kernel_rfl
theorem sT90 : szT Tryz.prog 90 = 1 := by kernel_rfl
theorem bT90 : byT Tryz.prog 90 = 8 := by kernel_rfl
theorem zT90 : zT Tryz.prog 90 = some [.nilf] := by kernel_rfl
theorem eql1T90 {f : Nat} {c : List (Nat × Nat × Nat)}  : abin Tryz.prog .eql 90 (.c (.f f c)) (.c .nilf) = some (.c (.b false)) := by kernel_rfl
theorem eql2T90 : abin Tryz.prog .eql 90 (.c .nilf) (.c .nilf) = some (.c (.b true)) := by kernel_rfl
theorem neq1T90 {f : Nat} {c : List (Nat × Nat × Nat)}  : abin Tryz.prog .neq 90 (.c (.f f c)) (.c .nilf) = some (.c (.b true)) := by kernel_rfl
theorem neq2T90 : abin Tryz.prog .neq 90 (.c .nilf) (.c .nilf) = some (.c (.b false)) := by kernel_rfl
theorem dT91 : dT Tryz.prog 91 = .other := by kernel_rfl
theorem sT91 : szT Tryz.prog 91 = 1 := by kernel_rfl
theorem bT91 : byT Tryz.prog 91 = 8 := by kernel_rfl
theorem zT91 : zT Tryz.prog 91 = some [.nilf] := by kernel_rfl
theorem eql1T91 {f : Nat} {c : List (Nat × Nat × Nat)}  : abin Tryz.prog .eql 91 (.c (.f f c)) (.c .nilf) = some (.c (.b false)) := by kernel_rfl
theorem eql2T91 : abin Tryz.prog .eql 91 (.c .nilf) (.c .nilf) = some (.c (.b true)) := by kernel_rfl
theorem neq1T91 {f : Nat} {c : List (Nat × Nat × Nat)}  : abin Tryz.prog .neq 91 (.c (.f f c)) (.c .nilf) = some (.c (.b true)) := by kernel_rfl
theorem neq2T91 : abin Tryz.prog .neq 91 (.c .nilf) (.c .nilf) = some (.c (.b false)) := by kernel_rfl
theorem dT92 : dT Tryz.prog 92 = .other := by kernel_rfl
theorem sT92 : szT Tryz.prog 92 = 1 := by kernel_rfl
theorem bT92 : byT Tryz.prog 92 = 8 := by kernel_rfl
theorem zT92 : zT Tryz.prog 92 = some [.nilf] := by kernel_rfl
theorem eql1T92 {f : Nat} {c : List (Nat × Nat × Nat)}  : abin Tryz.prog .eql 92 (.c (.f f c)) (.c .nilf) = some (.c (.b false)) := by kernel_rfl
theorem eql2T92 : abin Tryz.prog .eql 92 (.c .nilf) (.c .nilf) = some (.c (.b true)) := by kernel_rfl
theorem neq1T92 {f : Nat} {c : List (Nat × Nat × Nat)}  : abin Tryz.prog .neq 92 (.c (.f f c)) (.c .nilf) = some (.c (.b true)) := by kernel_rfl
theorem neq2T92 : abin Tryz.prog .neq 92 (.c .nilf) (.c .nilf) = some (.c (.b false)) := by kernel_rfl
theorem dT93 : dT Tryz.prog 93 = .sl 59 := by kernel_rfl
theorem sT93 : szT Tryz.prog 93 = 1 := by kernel_rfl
theorem bT93 : byT Tryz.prog 93 = 24 := by kernel_rfl
theorem zT93 : zT Tryz.prog 93 = some [.nils] := by kernel_rfl
theorem eql1T93 {a b c n : Nat}  : abin Tryz.prog .eql 93 (.c (.sl a b c n)) (.c .nils) = if n = 0 then some (.c .qq) else some (.c (.b false)) := by kernel_rfl
theorem eql2T93 : abin Tryz.prog .eql 93 (.c .nils) (.c .nils) = some (.c (.b true)) := by kernel_rfl
theorem neq1T93 {a b c n : Nat}  : abin Tryz.prog .neq 93 (.c (.sl a b c n)) (.c .nils) = if n = 0 then some (.c .qq) else some (.c (.b true)) := by kernel_rfl
theorem neq2T93 : abin Tryz.prog .neq 93 (.c .nils) (.c .nils) = some (.c (.b false)) := by kernel_rfl
theorem dT94 : dT Tryz.prog 94 = .other := by kernel_rfl
theorem sT94 : szT Tryz.prog 94 = 1 := by kernel_rfl
theorem bT94 : byT Tryz.prog 94 = 8 := by kernel_rfl
theorem zT94 : zT Tryz.prog 94 = some [.nilf] := by kernel_rfl
theorem eql1T94 {f : Nat} {c : List (Nat × Nat × Nat)}  : abin Tryz.prog .eql 94 (.c (.f f c)) (.c .nilf) = some (.c (.b false)) := by kernel_rfl
theorem eql2T94 : abin Tryz.prog .eql 94 (.c .nilf) (.c .nilf) = some (.c (.b true)) := by kernel_rfl
theorem neq1T94 {f : Nat} {c : List (Nat × Nat × Nat)}  : abin Tryz.prog .neq 94 (.c (.f f c)) (.c .nilf) = some (.c (.b true)) := by kernel_rfl
theorem neq2T94 : abin Tryz.prog .neq 94 (.c .nilf) (.c .nilf) = some (.c (.b false)) := by kernel_rfl
theorem dT95 : dT Tryz.prog 95 = .other := by kernel_rfl
theorem sT95 : szT Tryz.prog 95 = 1 := by kernel_rfl
theorem bT95 : byT Tryz.prog 95 = 8 := by kernel_rfl
theorem zT95 : zT Tryz.prog 95 = some [.nilf] := by kernel_rfl
theorem eql1T95 {f : Nat} {c : List (Nat × Nat × Nat)}  : abin Tryz.prog .eql 95 (.c (.f f c)) (.c .nilf) = some (.c (.b false)) := by kernel_rfl
theorem eql2T95 : abin Tryz.prog .eql 95 (.c .nilf) (.c .nilf) = some (.c (.b true)) := by kernel_rfl
theorem neq1T95 {f : Nat} {c : List (Nat × Nat × Nat)}  : abin Tryz.prog .neq 95 (.c (.f f c)) (.c .nilf) = some (.c (.b true)) := by kernel_rfl
theorem neq2T95 : abin Tryz.prog .neq 95 (.c .nilf) (.c .nilf) = some (.c (.b false)) := by kernel_rfl
theorem dT96 : dT Tryz.prog 96 = .other := by kernel_rfl
theorem sT96 : szT Tryz.prog 96 = 1 := by kernel_rfl
theorem bT96 : byT Tryz.prog 96 = 8 := by kernel_rfl
theorem zT96 : zT Tryz.prog 96 = some [.nilf] := by kernel_rfl
theorem eql1T96 {f : Nat} {c : List (Nat × Nat × Nat)}  : abin Tryz.prog .eql 96 (.c (.f f c)) (.c .nilf) = some (.c (.b false)) := by kernel_rfl
theorem eql2T96 : abin Tryz.prog .eql 96 (.c .nilf) (.c .nilf) = some (.c (.b true)) := by kernel_rfl
theorem neq1T96 {f : Nat} {c : List (Nat × Nat × Nat)}  : abin Tryz.prog .neq 96 (.c (.f f c)) (.c .nilf) = some (.c (.b true)) := by kernel_rfl
theorem neq2T96 : abin Tryz.prog .neq 96 (.c .nilf) (.c .nilf) = some (.c (.b false)) := by kernel_rfl
theorem dT97 : dT Tryz.prog 97 = .other := by kernel_rfl
theorem sT97 : szT Tryz.prog 97 = 1 := by kernel_rfl
theorem bT97 : byT Tryz.prog 97 = 8 := by kernel_rfl
theorem zT97 : zT Tryz.prog 97 = some [.nilf] := by kernel_rfl
theorem eql1T97 {f : Nat} {c : List (Nat × Nat × Nat)}  : abin Tryz.prog .eql 97 (.c (.f f c)) (.c .nilf) = some (.c (.b false)) := by kernel_rfl
theorem eql2T97 : abin Tryz.prog .eql 97 (.c .nilf) (.c .nilf) = some (.c (.b true)) := by kernel_rfl
theorem neq1T97 {f : Nat} {c : List (Nat × Nat × Nat)}  : abin Tryz.prog .neq 97 (.c (.f f c)) (.c .nilf) = some (.c (.b true)) := by kernel_rfl
theorem neq2T97 : abin Tryz.prog .neq 97 (.c .nilf) (.c .nilf) = some (.c (.b false)) := by kernel_rfl
theorem dT98 : dT Tryz.prog 98 = .other := by kernel_rfl
theorem sT98 : szT Tryz.prog 98 = 1 := by kernel_rfl
theorem bT98 : byT Tryz.prog 98 = 8 := by kernel_rfl
theorem zT98 : zT Tryz.prog 98 = some [.nilf] := by kernel_rfl
theorem eql1T98 {f : Nat} {c : List (Nat × Nat × Nat)}  : abin Tryz.prog .eql 98 (.c (.f f c)) (.c .nilf) = some (.c (.b false)) := by kernel_rfl
theorem eql2T98 : abin Tryz.prog .eql 98 (.c .nilf) (.c .nilf) = some (.c (.b true)) := by kernel_rfl
theorem neq1T98 {f : Nat} {c : List (Nat × Nat × Nat)}  : abin Tryz.prog .neq 98 (.c (.f f c)) (.c .nilf) = some (.c (.b true)) := by kernel_rfl
theorem neq2T98 : abin Tryz.prog .neq 98 (.c .nilf) (.c .nilf) = some (.c (.b false)) := by kernel_rfl
theorem dT99 : dT Tryz.prog 99 = .other := by kernel_rfl
theorem sT99 : szT Tryz.prog 99 = 1 := by kernel_rfl
theorem bT99 : byT Tryz.prog 99 = 8 := by kernel_rfl
theorem zT99 : zT Tryz.prog 99 = some [.nilf] := by kernel_rfl
theorem eql1T99 {f : Nat} {c : List (Nat × Nat × Nat)}  : abin Tryz.prog .eql 99 (.c (.f f c)) (.c .nilf) = some (.c (.b false)) := by kernel_rfl
theorem eql2T99 : abin Tryz.prog .eql 99 (.c .nilf) (.c .nilf) = some (.c (.b true)) := by kernel_rfl
theorem neq1T99 {f : Nat} {c : List (Nat × Nat × Nat)}  : abin Tryz.prog .neq 99 (.c (.f f c)) (.c .nilf) = some (.c (.b true)) := by kernel_rfl
theorem neq2T99 : abin Tryz.prog .neq 99 (.c .nilf) (.c .nilf) = some (.c (.b false)) := by kernel_rfl
theorem dT100 : dT Tryz.prog 100 = .other := by kernel_rfl
theorem sT100 : szT Tryz.prog 100 = 1 := by kernel_rfl
theorem bT100 : byT Tryz.prog 100 = 8 := by kernel_rfl
theorem zT100 : zT Tryz.prog 100 = some [.nilf] := by kernel_rfl
theorem eql1T100 {f : Nat} {c : List (Nat × Nat × Nat)}  : abin Tryz.prog .eql 100 (.c (.f f c)) (.c .nilf) = some (.c (.b false)) := by kernel_rfl
theorem eql2T100 : abin Tryz.prog .eql 100 (.c .nilf) (.c .nilf) = some (.c (.b true)) := by kernel_rfl
theorem neq1T100 {f : Nat} {c : List (Nat × Nat × Nat)}  : abin Tryz.prog .neq 100 (.c (.f f c)) (.c .nilf) = some (.c (.b true)) := by kernel_rfl
theorem neq2T100 : abin Tryz.prog .neq 100 (.c .nilf) (.c .nilf) = some (.c (.b false)) := by kernel_rfl
theorem dT101 : dT Tryz.prog 101 = .other := by kernel_rfl
theorem sT101 : szT Tryz.prog 101 = 1 := by kernel_rfl
theorem bT101 : byT Tryz.prog 101 = 8 := by kernel_rfl
theorem zT101 : zT Tryz.prog 101 = some [.nilf] := by kernel_rfl
theorem eql1T101 {f : Nat} {c : List (Nat × Nat × Nat)}  : abin Tryz.prog .eql 101 (.c (.f f c)) (.c .nilf) = some (.c (.b false)) := by kernel_rfl
theorem eql2T101 : abin Tryz.prog .eql 101 (.c .nilf) (.c .nilf) = some (.c (.b true)) := by kernel_rfl
theorem neq1T101 {f : Nat} {c : List (Nat × Nat × Nat)}  : abin Tryz.prog .neq 101 (.c (.f f c)) (.c .nilf) = some (.c (.b true)) := by kernel_rfl
theorem neq2T101 : abin Tryz.prog .neq 101 (.c .nilf) (.c .nilf) = some (.c (.b false)) := by kernel_rfl
theorem dT102 : dT Tryz.prog 102 = .sl 25 := by kernel_rfl
theorem sT102 : szT Tryz.prog 102 = 1 := by kernel_rfl
theorem bT102 : byT Tryz.prog 102 = 24 := by kernel_rfl
theorem zT102 : zT Tryz.prog 102 = some [.nils] := by kernel_rfl
theorem eql1T102 {a b c n : Nat}  : abin Tryz.prog .eql 102 (.c (.sl a b c n)) (.c .nils) = if n = 0 then some (.c .qq) else some (.c (.b false)) := by kernel_rfl
theorem eql2T102 : abin Tryz.prog .eql 102 (.c .nils) (.c .nils) = some (.c (.b true)) := by kernel_rfl
theorem neq1T102 {a b c n : Nat}  : abin Tryz.prog .neq 102 (.c (.sl a b c n)) (.c .nils) = if n = 0 then some (.c .qq) else some (.c (.b true)) := by kernel_rfl
theorem neq2T102 : abin Tryz.prog .neq 102 (.c .nils) (.c .nils) = some (.c (.b false)) := by kernel_rfl
theorem dT104 : dT Tryz.prog 104 = .other := by kernel_rfl
theorem sT104 : szT Tryz.prog 104 = 1 := by kernel_rfl
theorem bT104 : byT Tryz.prog 104 = 8 := by kernel_rfl
theorem zT104 : zT Tryz.prog 104 = some [.nilf] := by kernel_rfl
theorem eql1T104 {f : Nat} {c : List (Nat × Nat × Nat)}  : abin Tryz.prog .eql 104 (.c (.f f c)) (.c .nilf) = some (.c (.b false)) := by kernel_rfl
theorem eql2T104 : abin Tryz.prog .eql 104 (.c .nilf) (.c .nilf) = some (.c (.b true)) := by kernel_rfl
theorem neq1T104 {f : Nat} {c : List (Nat × Nat × Nat)}  : abin Tryz.prog .neq 104 (.c (.f f c)) (.c .nilf) = some (.c (.b true)) := by kernel_rfl
theorem neq2T104 : abin Tryz.prog .neq 104 (.c .nilf) (.c .nilf) = some (.c (.b false)) := by kernel_rfl
theorem dT105 : dT Tryz.prog 105 = .other := by kernel_rfl
theorem sT105 : szT Tryz.prog 105 = 1 := by kernel_rfl
theorem bT105 : byT Tryz.prog 105 = 8 := by kernel_rfl
theorem zT105 : zT Tryz.prog 105 = some [.nilf] := by kernel_rfl
theorem eql1T105 {f : Nat} {c : List (Nat × Nat × Nat)}  : abin Tryz.prog .eql 105 (.c (.f f c)) (.c .nilf) = some (.c (.b false)) := by kernel_rfl
theorem eql2T105 : abin Tryz.prog .eql 105 (.c .nilf) (.c .nilf) = some (.c (.b true)) := by kernel_rfl
theorem neq1T105 {f : Nat} {c : List (Nat × Nat × Nat)}  : abin Tryz.prog .neq 105 (.c (.f f c)) (.c .nilf) = some (.c (.b true)) := by kernel_rfl
theorem neq2T105 : abin Tryz.prog .neq 105 (.c .nilf) (.c .nilf) = some (.c (.b false)) := by kernel_rfl
theorem dT106 : dT Tryz.prog 106 = .other := by kernel_rfl
theorem sT106 : szT Tryz.prog 106 = 1 := by kernel_rfl
theorem bT106 : byT Tryz.prog 106 = 8 := by kernel_rfl
theorem zT106 : zT Tryz.prog 106 = some [.nilf] := by kernel_rfl
theorem eql1T106 {f : Nat} {c : List (Nat × Nat × Nat)}  : abin Tryz.prog .eql 106 (.c (.f f c)) (.c .nilf) = some (.c (.b false)) := by kernel_rfl
theorem eql2T106 : abin Tryz.prog .eql 106 (.c .nilf) (.c .nilf) = some (.c (.b true)) := by kernel_rfl
theorem neq1T106 {f : Nat} {c : List (Nat × Nat × Nat)}  : abin Tryz.prog .neq 106 (.c (.f f c)) (.c .nilf) = some (.c (.b true)) := by kernel_rfl
theorem neq2T106 : abin Tryz.prog .neq 106 (.c .nilf) (.c .nilf) = some (.c (.b false)) := by kernel_rfl
theorem dT107 : dT Tryz.prog 107 = .other := by kernel_rfl
theorem sT107 : szT Tryz.prog 107 = 1 := by kernel_rfl
theorem bT107 : byT Tryz.prog 107 = 8 := by kernel_rfl
theorem zT107 : zT Tryz.prog 107 = some [.nilf] := by kernel_rfl
theorem eql1T107 {f : Nat} {c : List (Nat × Nat × Nat)}  : abin Tryz.prog .eql 107 (.c (.f f c)) (.c .nilf) = some (.c (.b false)) := by kernel_rfl
theorem eql2T107 : abin Tryz.prog .eql 107 (.c .nilf) (.c .nilf) = some (.c (.b true)) := by kernel_rfl
theorem neq1T107 {f : Nat} {c : List (Nat × Nat × Nat)}  : abin Tryz.prog .neq 107 (.c (.f f c)) (.c .nilf) = some (.c (.b true)) := by kernel_rfl
theorem neq2T107 : abin Tryz.prog .neq 107 (.c .nilf) (.c .nilf) = some (.c (.b false)) := by kernel_rfl
theorem dT108 : dT Tryz.prog 108 = .other := by kernel_rfl
theorem sT108 : szT Tryz.prog 108 = 1 := by kernel_rfl
theorem bT108 : byT Tryz.prog 108 = 8 := by kernel_rfl
theorem zT108 : zT Tryz.prog 108 = some [.nilf] := by kernel_rfl
theorem eql1T108 {f : Nat} {c : List (Nat × Nat × Nat)}  : abin Tryz.prog .eql 108 (.c (.f f c)) (.c .nilf) = some (.c (.b false)) := by kernel_rfl
theorem eql2T108 : abin Tryz.prog .eql 108 (.c .nilf) (.c .nilf) = some (.c (.b true)) := by kernel_rfl
theorem neq1T108 {f : Nat} {c : List (Nat × Nat × Nat)}  : abin Tryz.prog .neq 108 (.c (.f f c)) (.c .nilf) = some (.c (.b true)) := by kernel_rfl
theorem neq2T108 : abin Tryz.prog .neq 108 (.c .nilf) (.c .nilf) = some (.c (.b false)) := by kernel_rfl
theorem dT109 : dT Tryz.prog 109 = .other := by kernel_rfl
theorem sT109 : szT Tryz.prog 109 = 1 := by kernel_rfl
theorem bT109 : byT Tryz.prog 109 = 8 := by kernel_rfl
theorem zT109 : zT Tryz.prog 109 = some [.nilf] := by kernel_rfl
theorem eql1T109 {f : Nat} {c : List (Nat × Nat × Nat)}  : abin Tryz.prog .eql 109 (.c (.f f c)) (.c .nilf) = some (.c (.b false)) := by kernel_rfl
theorem eql2T109 : abin Tryz.prog .eql 109 (.c .nilf) (.c .nilf) = some (.c (.b true)) := by kernel_rfl
theorem neq1T109 {f : Nat} {c : List (Nat × Nat × Nat)}  : abin Tryz.prog .neq 109 (.c (.f f c)) (.c .nilf) = some (.c (.b true)) := by kernel_rfl
theorem neq2T109 : abin Tryz.prog .neq 109 (.c .nilf) (.c .nilf) = some (.c (.b false)) := by kernel_rfl
theorem dT110 : dT Tryz.prog 110 = .other := by kernel_rfl
theorem sT110 : szT Tryz.prog 110 = 1 := by kernel_rfl
theorem bT110 : byT Tryz.prog 110 = 8 := by kernel_rfl
theorem zT110 : zT Tryz.prog 110 = some [.nilf] := by kernel_rfl
theorem eql1T110 {f : Nat} {c : List (Nat × Nat × Nat)}  : abin Tryz.prog .eql 110 (.c (.f f c)) (.c .nilf) = some (.c (.b false)) := by kernel_rfl
theorem eql2T110 : abin Tryz.prog .eql 110 (.c .nilf) (.c .nilf) = some (.c (.b true)) := by kernel_rfl
theorem neq1T110 {f : Nat} {c : List (Nat × Nat × Nat)}  : abin Tryz.prog .neq 110 (.c (.f f c)) (.c .nilf) = some (.c (.b true)) := by kernel_rfl
theorem neq2T110 : abin Tryz.prog .neq 110 (.c .nilf) (.c .nilf) = some (.c (.b false)) := by kernel_rfl
theorem dT111 : dT Tryz.prog 111 = .other := by kernel_rfl
theorem sT111 : szT Tryz.prog 111 = 1 := by kernel_rfl
theorem bT111 : byT Tryz.prog 111 = 8 := by kernel_rfl
theorem zT111 : zT Tryz.prog 111 = some [.nilf] := by kernel_rfl
theorem eql1T111 {f : Nat} {c : List (Nat × Nat × Nat)}  : abin Tryz.prog .eql 111 (.c (.f f c)) (.c .nilf) = some (.c (.b false)) := by kernel_rfl
theorem eql2T111 : abin Tryz.prog .eql 111 (.c .nilf) (.c .nilf) = some (.c (.b true)) := by kernel_rfl
theorem neq1T111 {f : Nat} {c : List (Nat × Nat × Nat)}  : abin Tryz.prog .neq 111 (.c (.f f c)) (.c .nilf) = some (.c (.b true)) := by kernel_rfl
theorem neq2T111 : abin Tryz.prog .neq 111 (.c .nilf) (.c .nilf) = some (.c (.b false)) := by kernel_rfl
theorem dT113 : dT Tryz.prog 113 = .other := by kernel_rfl
theorem sT113 : szT Tryz.prog 113 = 1 := by kernel_rfl
theorem bT113 : byT Tryz.prog 113 = 8 := by kernel_rfl
theorem zT113 : zT Tryz.prog 113 = some [.nilf] := by kernel_rfl
theorem eql1T113 {f : Nat} {c : List (Nat × Nat × Nat)}  : abin Tryz.prog .eql 113 (.c (.f f c)) (.c .nilf) = some (.c (.b false)) := by kernel_rfl
theorem eql2T113 : abin Tryz.prog .eql 113 (.c .nilf) (.c .nilf) = some (.c (.b true)) := by kernel_rfl
theorem neq1T113 {f : Nat} {c : List (Nat × Nat × Nat)}  : abin Tryz.prog .neq 113 (.c (.f f c)) (.c .nilf) = some (.c (.b true)) := by kernel_rfl
theorem neq2T113 : abin Tryz.prog .neq 113 (.c .nilf) (.c .nilf) = some (.c (.b false)) := by kernel_rfl
theorem dT114 : dT Tryz.prog 114 = .other := by kernel_rfl
theorem sT114 : szT Tryz.prog 114 = 1 := by kernel_rfl
theorem bT114 : byT Tryz.prog 114 = 8 := by kernel_rfl
theorem zT114 : zT Tryz.prog 114 = some [.nilf] := by kernel_rfl
theorem eql1T114 {f : Nat} {c : List (Nat × Nat × Nat)}  : abin Tryz.prog .eql 114 (.c (.f f c)) (.c .nilf) = some (.c (.b false)) := by kernel_rfl
theorem eql2T114 : abin Tryz.prog .eql 114 (.c .nilf) (.c .nilf) = some (.c (.b true)) := by kernel_rfl
theorem neq1T114 {f : Nat} {c : List (Nat × Nat × Nat)}  : abin Tryz.prog .neq 114 (.c (.f f c)) (.c .nilf) = some (.c (.b true)) := by kernel_rfl
theorem neq2T114 : abin Tryz.prog .neq 114 (.c .nilf) (.c .nilf) = some (.c (.b false)) := by kernel_rfl
theorem dT115 : dT Tryz.prog 115 = .arr 3 3 := by kernel_rfl
theorem sT115 : szT Tryz.prog 115 = 3 := by kernel_rfl
theorem bT115 : byT Tryz.prog 115 = 24 := by kernel_rfl
theorem zT115 : zT Tryz.prog 115 = some [.i 0, .i 0, .i 0] := by kernel_rfl
theorem gT115 : tagsT Tryz.prog 12 115 = some [.n, .n, .n] := by kernel_rfl
theorem eqT115 {a b : List Sc} : abin Tryz.prog .eql 115 (.g a) (.g b) = (csEq [.n, .n, .n] a b).bind (eqU .eql) := ab_g_eql _ (by simp only [dT115, D.agg]) gT115
theorem neT115 {a b : List Sc} : abin Tryz.prog .neq 115 (.g a) (.g b) = (csEq [.n, .n, .n] a b).bind (eqU .neq) := ab_g_neq _ (by simp only [dT115, D.agg]) gT115
theorem dT116 : dT Tryz.prog 116 = .other := by kernel_rfl
theorem sT116 : szT Tryz.prog 116 = 1 := by kernel_rfl
theorem bT116 : byT Tryz.prog 116 = 8 := by kernel_rfl
theorem zT116 : zT Tryz.prog 116 = some [.nilf] := by kernel_rfl
theorem eql1T116 {f : Nat} {c : List (Nat × Nat × Nat)}  : abin Tryz.prog .eql 116 (.c (.f f c)) (.c .nilf) = some (.c (.b false)) := by kernel_rfl
theorem eql2T116 : abin Tryz.prog .eql 116 (.c .nilf) (.c .nilf) = some (.c (.b true)) := by kernel_rfl
theorem neq1T116 {f : Nat} {c : List (Nat × Nat × Nat)}  : abin Tryz.prog .neq 116 (.c (.f f c)) (.c .nilf) = some (.c (.b true)) := by kernel_rfl
theorem neq2T116 : abin Tryz.prog .neq 116 (.c .nilf) (.c .nilf) = some (.c (.b false)) := by kernel_rfl
theorem dT118 : dT Tryz.prog 118 = .other := by kernel_rfl
theorem sT118 : szT Tryz.prog 118 = 1 := by kernel_rfl
theorem bT118 : byT Tryz.prog 118 = 8 := by kernel_rfl
theorem zT118 : zT Tryz.prog 118 = some [.nilf] := by kernel_rfl
theorem eql1T118 {f : Nat} {c : List (Nat × Nat × Nat)}  : abin Tryz.prog .eql 118 (.c (.f f c)) (.c .nilf) = some (.c (.b false)) := by kernel_rfl
theorem eql2T118 : abin Tryz.prog .eql 118 (.c .nilf) (.c .nilf) = some (.c (.b true)) := by kernel_rfl
theorem neq1T118 {f : Nat} {c : List (Nat × Nat × Nat)}  : abin Tryz.prog .neq 118 (.c (.f f c)) (.c .nilf) = some (.c (.b true)) := by kernel_rfl
theorem neq2T118 : abin Tryz.prog .neq 118 (.c .nilf) (.c .nilf) = some (.c (.b false)) := by kernel_rfl
theorem dT119 : dT Tryz.prog 119 = .other := by kernel_rfl
theorem sT119 : szT Tryz.prog 119 = 1 := by kernel_rfl
theorem bT119 : byT Tryz.prog 119 = 8 := by kernel_rfl
theorem zT119 : zT Tryz.prog 119 = some [.nilf] := by kernel_rfl
theorem eql1T119 {f : Nat} {c : List (Nat × Nat × Nat)}  : abin Tryz.prog .eql 119 (.c (.f f c)) (.c .nilf) = some (.c (.b false)) := by kernel_rfl
theorem eql2T119 : abin Tryz.prog .eql 119 (.c .nilf) (.c .nilf) = some (.c (.b true)) := by kernel_rfl
theorem neq1T119 {f : Nat} {c : List (Nat × Nat × Nat)}  : abin Tryz.prog .neq 119 (.c (.f f c)) (.c .nilf) = some (.c (.b true)) := by kernel_rfl
theorem neq2T119 : abin Tryz.prog .neq 119 (.c .nilf) (.c .nilf) = some (.c (.b false)) := by kernel_rfl
theorem dT120 : dT Tryz.prog 120 = .other := by kernel_rfl
theorem sT120 : szT Tryz.prog 120 = 1 := by kernel_rfl
theorem bT120 : byT Tryz.prog 120 = 8 := by kernel_rfl
theorem zT120 : zT Tryz.prog 120 = some [.nilf] := by kernel_rfl
theorem eql1T120 {f : Nat} {c : List (Nat × Nat × Nat)}  : abin Tryz.prog .eql 120 (.c (.f f c)) (.c .nilf) = some (.c (.b false)) := by kernel_rfl
theorem eql2T120 : abin Tryz.prog .eql 120 (.c .nilf) (.c .nilf) = some (.c (.b true)) := by kernel_rfl
theorem neq1T120 {f : Nat} {c : List (Nat × Nat × Nat)}  : abin Tryz.prog .neq 120 (.c (.f f c)) (.c .nilf) = some (.c (.b true)) := by kernel_rfl
theorem neq2T120 : abin Tryz.prog .neq 120 (.c .nilf) (.c .nilf) = some (.c (.b false)) := by kernel_rfl
theorem dT122 : dT Tryz.prog 122 = .other := by kernel_rfl
theorem sT122 : szT Tryz.prog 122 = 1 := by kernel_rfl
theorem bT122 : byT Tryz.prog 122 = 8 := by kernel_rfl
theorem zT122 : zT Tryz.prog 122 = some [.nilf] := by kernel_rfl
theorem eql1T122 {f : Nat} {c : List (Nat × Nat × Nat)}  : abin Tryz.prog .eql 122 (.c (.f f c)) (.c .nilf) = some (.c (.b false)) := by kernel_rfl
theorem eql2T122 : abin Tryz.prog .eql 122 (.c .nilf) (.c .nilf) = some (.c (.b true)) := by kernel_rfl
theorem neq1T122 {f : Nat} {c : List (Nat × Nat × Nat)}  : abin Tryz.prog .neq 122 (.c (.f f c)) (.c .nilf) = some (.c (.b true)) := by kernel_rfl
theorem neq2T122 : abin Tryz.prog .neq 122 (.c .nilf) (.c .nilf) = some (.c (.b false)) := by kernel_rfl
theorem dT124 : dT Tryz.prog 124 = .other := by kernel_rfl
theorem sT124 : szT Tryz.prog 124 = 1 := by kernel_rfl
theorem bT124 : byT Tryz.prog 124 = 8 := by kernel_rfl
theorem zT124 : zT Tryz.prog 124 = some [.nilf] := by kernel_rfl
theorem eql1T124 {f : Nat} {c : List (Nat × Nat × Nat)}  : abin Tryz.prog .eql 124 (.c (.f f c)) (.c .nilf) = some (.c (.b false)) := by kernel_rfl
theorem eql2T124 : abin Tryz.prog .eql 124 (.c .nilf) (.c .nilf) = some (.c (.b true)) := by kernel_rfl
theorem neq1T124 {f : Nat} {c : List (Nat × Nat × Nat)}  : abin Tryz.prog .neq 124 (.c (.f f c)) (.c .nilf) = some (.c (.b true)) := by kernel_rfl
theorem neq2T124 : abin Tryz.prog .neq 124 (.c .nilf) (.c .nilf) = some (.c (.b false)) := by kernel_rfl
theorem dT125 : dT Tryz.prog 125 = .other := by kernel_rfl
theorem sT125 : szT Tryz.prog 125 = 1 := by kernel_rfl
theorem bT125 : byT Tryz.prog 125 = 8 := by kernel_rfl
theorem zT125 : zT Tryz.prog 125 = some [.nilf] := by kernel_rfl
theorem eql1T125 {f : Nat} {c : List (Nat × Nat × Nat)}  : abin Tryz.prog .eql 125 (.c (.f f c)) (.c .nilf) = some (.c (.b false)) := by kernel_rfl
theorem eql2T125 : abin Tryz.prog .eql 125 (.c .nilf) (.c .nilf) = some (.c (.b true)) := by kernel_rfl
theorem neq1T125 {f : Nat} {c : List (Nat × Nat × Nat)}  : abin Tryz.prog .neq 125 (.c (.f f c)) (.c .nilf) = some (.c (.b true)) := by kernel_rfl
theorem neq2T125 : abin Tryz.prog .neq 125 (.c .nilf) (.c .nilf) = some (.c (.b false)) := by kernel_rfl
theorem dT126 : dT Tryz.prog 126 = .st [(0, 25), (1, 25)] := by kernel_rfl
theorem sT126 : szT Tryz.prog 126 = 2 := by kernel_rfl
theorem bT126 : byT Tryz.prog 126 = 16 := by kernel_rfl
theorem zT126 : zT Tryz.prog 126 = some [.u 0#64, .u 0#64] := by kernel_rfl
theorem dT127 : dT Tryz.prog 127 = .st [(0, 25), (1, 25)] := by kernel_rfl
theorem sT127 : szT Tryz.prog 127 = 2 := by kernel_rfl
theorem bT127 : byT Tryz.prog 127 = 16 := by kernel_rfl
theorem zT127 : zT Tryz.prog 127 = some [.u 0#64, .u 0#64] := by kernel_rfl
theorem gT127 : tagsT Tryz.prog 12 127 = some [.n, .n] := by kernel_rfl
theorem eqT127 {a b : List Sc} : abin Tryz.prog .eql 127 (.g a) (.g b) = (csEq [.n, .n] a b).bind (eqU .eql) := ab_g_eql _ (by simp only [dT127, D.agg]) gT127
theorem neT127 {a b : List Sc} : abin Tryz.prog .neq 127 (.g a) (.g b) = (csEq [.n, .n] a b).bind (eqU .neq) := ab_g_neq _ (by simp only [dT127, D.agg]) gT127
theorem dT128 : dT Tryz.prog 128 = .other := by kernel_rfl
theorem sT128 : szT Tryz.prog 128 = 1 := by kernel_rfl
theorem bT128 : byT Tryz.prog 128 = 8 := by kernel_rfl
theorem zT128 : zT Tryz.prog 128 = some [.nilf] := by kernel_rfl
theorem eql1T128 {f : Nat} {c : List (Nat × Nat × Nat)}  : abin Tryz.prog .eql 128 (.c (.f f c)) (.c .nilf) = some (.c (.b false)) := by kernel_rfl
theorem eql2T128 : abin Tryz.prog .eql 128 (.c .nilf) (.c .nilf) = some (.c (.b true)) := by kernel_rfl
theorem neq1T128 {f : Nat} {c : List (Nat × Nat × Nat)}  : abin Tryz.prog .neq 128 (.c (.f f c)) (.c .nilf) = some (.c (.b true)) := by kernel_rfl
theorem neq2T128 : abin Tryz.prog .neq 128 (.c .nilf) (.c .nilf) = some (.c (.b false)) := by kernel_rfl
theorem dT129 : dT Tryz.prog 129 = .other := by kernel_rfl
theorem sT129 : szT Tryz.prog 129 = 1 := by kernel_rfl
theorem bT129 : byT Tryz.prog 129 = 8 := by kernel_rfl
theorem zT129 : zT Tryz.prog 129 = some [.nilf] := by kernel_rfl
theorem eql1T129 {f : Nat} {c : List (Nat × Nat × Nat)}  : abin Tryz.prog .eql 129 (.c (.f f c)) (.c .nilf) = some (.c (.b false)) := by kernel_rfl
theorem eql2T129 : abin Tryz.prog .eql 129 (.c .nilf) (.c .nilf) = some (.c (.b true)) := by kernel_rfl
theorem neq1T129 {f : Nat} {c : List (Nat × Nat × Nat)}  : abin Tryz.prog .neq 129 (.c (.f f c)) (.c .nilf) = some (.c (.b true)) := by kernel_rfl
theorem neq2T129 : abin Tryz.prog .neq 129 (.c .nilf) (.c .nilf) = some (.c (.b false)) := by kernel_rfl
theorem dT130 : dT Tryz.prog 130 = .int .u32 := by kernel_rfl
theorem sT130 : szT Tryz.prog 130 = 1 := by kernel_rfl
theorem bT130 : byT Tryz.prog 130 = 4 := by kernel_rfl
theorem zT130 : zT Tryz.prog 130 = some [.k .u32 (0)] := by kernel_rfl
theorem dT131 : dT Tryz.prog 131 = .other := by kernel_rfl
theorem sT131 : szT Tryz.prog 131 = 1 := by kernel_rfl
theorem bT131 : byT Tryz.prog 131 = 8 := by kernel_rfl
theorem zT131 : zT Tryz.prog 131 = some [.nilf] := by kernel_rfl
theorem eql1T131 {f : Nat} {c : List (Nat × Nat × Nat)}  : abin Tryz.prog .eql 131 (.c (.f f c)) (.c .nilf) = some (.c (.b false)) := by kernel_rfl
theorem eql2T131 : abin Tryz.prog .eql 131 (.c .nilf) (.c .nilf) = some (.c (.b true)) := by kernel_rfl
theorem neq1T131 {f : Nat} {c : List (Nat × Nat × Nat)}  : abin Tryz.prog .neq 131 (.c (.f f c)) (.c .nilf) = some (.c (.b true)) := by kernel_rfl
theorem neq2T131 : abin Tryz.prog .neq 131 (.c .nilf) (.c .nilf) = some (.c (.b false)) := by kernel_rfl
theorem dT132 : dT Tryz.prog 132 = .other := by kernel_rfl
theorem sT132 : szT Tryz.prog 132 = 1 := by kernel_rfl
theorem bT132 : byT Tryz.prog 132 = 8 := by kernel_rfl
theorem zT132 : zT Tryz.prog 132 = some [.nilf] := by kernel_rfl
theorem eql1T132 {f : Nat} {c : List (Nat × Nat × Nat)}  : abin Tryz.prog .eql 132 (.c (.f f c)) (.c .nilf) = some (.c (.b false)) := by kernel_rfl
theorem eql2T132 : abin Tryz.prog .eql 132 (.c .nilf) (.c .nilf) = some (.c (.b true)) := by kernel_rfl
theorem neq1T132 {f : Nat} {c : List (Nat × Nat × Nat)}  : abin Tryz.prog .neq 132 (.c (.f f c)) (.c .nilf) = some (.c (.b true)) := by kernel_rfl
theorem neq2T132 : abin Tryz.prog .neq 132 (.c .nilf) (.c .nilf) = some (.c (.b false)) := by kernel_rfl
theorem dT133 : dT Tryz.prog 133 = .other := by kernel_rfl
theorem sT133 : szT Tryz.prog 133 = 1 := by kernel_rfl
theorem bT133 : byT Tryz.prog 133 = 8 := by kernel_rfl
theorem zT133 : zT Tryz.prog 133 = some [.nilf] := by kernel_rfl
theorem eql1T133 {f : Nat} {c : List (Nat × Nat × Nat)}  : abin Tryz.prog .eql 133 (.c (.f f c)) (.c .nilf) = some (.c (.b false)) := by kernel_rfl
theorem eql2T133 : abin Tryz.prog .eql 133 (.c .nilf) (.c .nilf) = some (.c (.b true)) := by kernel_rfl
theorem neq1T133 {f : Nat} {c : List (Nat × Nat × Nat)}  : abin Tryz.prog .neq 133 (.c (.f f c)) (.c .nilf) = some (.c (.b true)) := by kernel_rfl
theorem neq2T133 : abin Tryz.prog .neq 133 (.c .nilf) (.c .nilf) = some (.c (.b false)) := by kernel_rfl
theorem dT134 : dT Tryz.prog 134 = .other := by kernel_rfl
theorem sT134 : szT Tryz.prog 134 = 1 := by kernel_rfl
theorem bT134 : byT Tryz.prog 134 = 8 := by kernel_rfl
theorem zT134 : zT Tryz.prog 134 = some [.nilf] := by kernel_rfl
theorem eql1T134 {f : Nat} {c : List (Nat × Nat × Nat)}  : abin Tryz.prog .eql 134 (.c (.f f c)) (.c .nilf) = some (.c (.b false)) := by kernel_rfl
theorem eql2T134 : abin Tryz.prog .eql 134 (.c .nilf) (.c .nilf) = some (.c (.b true)) := by kernel_rfl
theorem neq1T134 {f : Nat} {c : List (Nat × Nat × Nat)}  : abin Tryz.prog .neq 134 (.c (.f f c)) (.c .nilf) = some (.c (.b true)) := by kernel_rfl
theorem neq2T134 : abin Tryz.prog .neq 134 (.c .nilf) (.c .nilf) = some (.c (.b false)) := by kernel_rfl
theorem dT136 : dT Tryz.prog 136 = .other := by kernel_rfl
theorem sT136 : szT Tryz.prog 136 = 1 := by kernel_rfl
theorem bT136 : byT Tryz.prog 136 = 8 := by kernel_rfl
theorem zT136 : zT Tryz.prog 136 = some [.nilf] := by kernel_rfl
theorem eql1T136 {f : Nat} {c : List (Nat × Nat × Nat)}  : abin Tryz.prog .eql 136 (.c (.f f c)) (.c .nilf) = some (.c (.b false)) := by kernel_rfl
theorem eql2T136 : abin Tryz.prog .eql 136 (.c .nilf) (.c .nilf) = some (.c (.b true)) := by kernel_rfl
theorem neq1T136 {f : Nat} {c : List (Nat × Nat × Nat)}  : abin Tryz.prog .neq 136 (.c (.f f c)) (.c .nilf) = some (.c (.b true)) := by kernel_rfl
theorem neq2T136 : abin Tryz.prog .neq 136 (.c .nilf) (.c .nilf) = some (.c (.b false)) := by kernel_rfl
theorem dT137 : dT Tryz.prog 137 = .sl 140 := by kernel_rfl
theorem sT137 : szT Tryz.prog 137 = 1 := by kernel_rfl
theorem bT137 : byT Tryz.prog 137 = 24 := by kernel_rfl
theorem zT137 : zT Tryz.prog 137 = some [.nils] := by kernel_rfl
theorem eql1T137 {a b c n : Nat}  : abin Tryz.prog .eql 137 (.c (.sl a b c n)) (.c .nils) = if n = 0 then some (.c .qq) else some (.c (.b false)) := by kernel_rfl
theorem eql2T137 : abin Tryz.prog .eql 137 (.c .nils) (.c .nils) = some (.c (.b true)) := by kernel_rfl
theorem neq1T137 {a b c n : Nat}  : abin Tryz.prog .neq 137 (.c (.sl a b c n)) (.c .nils) = if n = 0 then some (.c .qq) else some (.c (.b true)) := by kernel_rfl
theorem neq2T137 : abin Tryz.prog .neq 137 (.c .nils) (.c .nils) = some (.c (.b false)) := by kernel_rfl
theorem dT138 : dT Tryz.prog 138 = .other := by kernel_rfl
theorem sT138 : szT Tryz.prog 138 = 1 := by kernel_rfl
theorem bT138 : byT Tryz.prog 138 = 8 := by kernel_rfl
theorem zT138 : zT Tryz.prog 138 = some [.nilf] := by kernel_rfl
theorem eql1T138 {f : Nat} {c : List (Nat × Nat × Nat)}  : abin Tryz.prog .eql 138 (.c (.f f c)) (.c .nilf) = some (.c (.b false)) := by kernel_rfl
theorem eql2T138 : abin Tryz.prog .eql 138 (.c .nilf) (.c .nilf) = some (.c (.b true)) := by kernel_rfl
theorem neq1T138 {f : Nat} {c : List (Nat × Nat × Nat)}  : abin Tryz.prog .neq 138 (.c (.f f c)) (.c .nilf) = some (.c (.b true)) := by kernel_rfl
theorem neq2T138 : abin Tryz.prog .neq 138 (.c .nilf) (.c .nilf) = some (.c (.b false)) := by kernel_rfl
theorem dT139 : dT Tryz.prog 139 = .st [(0, 38), (2, 9)] := by kernel_rfl
theorem sT139 : szT Tryz.prog 139 = 3 := by kernel_rfl
theorem bT139 : byT Tryz.prog 139 = 32 := by kernel_rfl
theorem zT139 : zT Tryz.prog 139 = some [.b false, .i 0, .s ByteArray.empty] := by kernel_rfl
theorem dT140 : dT Tryz.prog 140 = .st [(0, 38), (2, 9)] := by kernel_rfl
theorem sT140 : szT Tryz.prog 140 = 3 := by kernel_rfl
theorem bT140 : byT Tryz.prog 140 = 32 := by kernel_rfl
theorem zT140 : zT Tryz.prog 140 = some [.b false, .i 0, .s ByteArray.empty] := by kernel_rfl
theorem gT140 : tagsT Tryz.prog 12 140 = some [.q, .n, .s] := by kernel_rfl
theorem eqT140 {a b : List Sc} : abin Tryz.prog .eql 140 (.g a) (.g b) = (csEq [.q, .n, .s] a b).bind (eqU .eql) := ab_g_eql _ (by simp only [dT140, D.agg]) gT140
theorem neT140 {a b : List Sc} : abin Tryz.prog .neq 140 (.g a) (.g b) = (csEq [.q, .n, .s] a b).bind (eqU .neq) := ab_g_neq _ (by simp only [dT140, D.agg]) gT140
theorem dT141 : dT Tryz.prog 141 = .other := by kernel_rfl
theorem sT141 : szT Tryz.prog 141 = 1 := by kernel_rfl
theorem bT141 : byT Tryz.prog 141 = 8 := by kernel_rfl
theorem zT141 : zT Tryz.prog 141 = some [.nilf] := by kernel_rfl
theorem eql1T141 {f : Nat} {c : List (Nat × Nat × Nat)}  : abin Tryz.prog .eql 141 (.c (.f f c)) (.c .nilf) = some (.c (.b false)) := by kernel_rfl
theorem eql2T141 : abin Tryz.prog .eql 141 (.c .nilf) (.c .nilf) = some (.c (.b true)) := by kernel_rfl
theorem neq1T141 {f : Nat} {c : List (Nat × Nat × Nat)}  : abin Tryz.prog .neq 141 (.c (.f f c)) (.c .nilf) = some (.c (.b true)) := by kernel_rfl
theorem neq2T141 : abin Tryz.prog .neq 141 (.c .nilf) (.c .nilf) = some (.c (.b false)) := by kernel_rfl
theorem dT142 : dT Tryz.prog 142 = .other := by kernel_rfl
theorem sT142 : szT Tryz.prog 142 = 1 := by kernel_rfl
theorem bT142 : byT Tryz.prog 142 = 8 := by kernel_rfl
theorem zT142 : zT Tryz.prog 142 = some [.nilf] := by kernel_rfl
theorem eql1T142 {f : Nat} {c : List (Nat × Nat × Nat)}  : abin Tryz.prog .eql 142 (.c (.f f c)) (.c .nilf) = some (.c (.b false)) := by kernel_rfl
theorem eql2T142 : abin Tryz.prog .eql 142 (.c .nilf) (.c .nilf) = some (.c (.b true)) := by kernel_rfl
theorem neq1T142 {f : Nat} {c : List (Nat × Nat × Nat)}  : abin Tryz.prog .neq 142 (.c (.f f c)) (.c .nilf) = some (.c (.b true)) := by kernel_rfl
theorem neq2T142 : abin Tryz.prog .neq 142 (.c .nilf) (.c .nilf) = some (.c (.b false)) := by kernel_rfl
theorem dT143 : dT Tryz.prog 143 = .other := by kernel_rfl
theorem sT143 : szT Tryz.prog 143 = 1 := by kernel_rfl
theorem bT143 : byT Tryz.prog 143 = 8 := by kernel_rfl
theorem zT143 : zT Tryz.prog 143 = some [.nilf] := by kernel_rfl
theorem eql1T143 {f : Nat} {c : List (Nat × Nat × Nat)}  : abin Tryz.prog .eql 143 (.c (.f f c)) (.c .nilf) = some (.c (.b false)) := by kernel_rfl
theorem eql2T143 : abin Tryz.prog .eql 143 (.c .nilf) (.c .nilf) = some (.c (.b true)) := by kernel_rfl
theorem neq1T143 {f : Nat} {c : List (Nat × Nat × Nat)}  : abin Tryz.prog .neq 143 (.c (.f f c)) (.c .nilf) = some (.c (.b true)) := by kernel_rfl
theorem neq2T143 : abin Tryz.prog .neq 143 (.c .nilf) (.c .nilf) = some (.c (.b false)) := by kernel_rfl
theorem dT149 : dT Tryz.prog 149 = .other := by kernel_rfl
theorem sT149 : szT Tryz.prog 149 = 1 := by kernel_rfl
theorem bT149 : byT Tryz.prog 149 = 8 := by kernel_rfl
theorem zT149 : zT Tryz.prog 149 = some [.nilf] := by kernel_rfl
theorem eql1T149 {f : Nat} {c : List (Nat × Nat × Nat)}  : abin Tryz.prog .eql 149 (.c (.f f c)) (.c .nilf) = some (.c (.b false)) := by kernel_rfl
theorem eql2T149 : abin Tryz.prog .eql 149 (.c .nilf) (.c .nilf) = some (.c (.b true)) := by kernel_rfl
theorem neq1T149 {f : Nat} {c : List (Nat × Nat × Nat)}  : abin Tryz.prog .neq 149 (.c (.f f c)) (.c .nilf) = some (.c (.b true)) := by kernel_rfl
theorem neq2T149 : abin Tryz.prog .neq 149 (.c .nilf) (.c .nilf) = some (.c (.b false)) := by kernel_rfl
theorem dT152 : dT Tryz.prog 152 = .other := by kernel_rfl
theorem sT152 : szT Tryz.prog 152 = 1 := by kernel_rfl
theorem bT152 : byT Tryz.prog 152 = 8 := by kernel_rfl
theorem zT152 : zT Tryz.prog 152 = some [.nilf] := by kernel_rfl
theorem eql1T152 {f : Nat} {c : List (Nat × Nat × Nat)}  : abin Tryz.prog .eql 152 (.c (.f f c)) (.c .nilf) = some (.c (.b false)) := by kernel_rfl
theorem eql2T152 : abin Tryz.prog .eql 152 (.c .nilf) (.c .nilf) = some (.c (.b true)) := by kernel_rfl
theorem neq1T152 {f : Nat} {c : List (Nat × Nat × Nat)}  : abin Tryz.prog .neq 152 (.c (.f f c)) (.c .nilf) = some (.c (.b true)) := by kernel_rfl
theorem neq2T152 : abin Tryz.prog .neq 152 (.c .nilf) (.c .nilf) = some (.c (.b false)) := by kernel_rfl
theorem dT153 : dT Tryz.prog 153 = .ptr 5 := by kernel_rfl
theorem sT153 : szT Tryz.prog 153 = 1 := by kernel_rfl
theorem bT153 : byT Tryz.prog 153 = 8 := by kernel_rfl
theorem zT153 : zT Tryz.prog 153 = some [.nilp] := by kernel_rfl
theorem eql1T153 {a b c : Nat}  : abin Tryz.prog .eql 153 (.c (.p a b c)) (.c .nilp) = some (.c (.b false)) := by kernel_rfl
theorem eql2T153 : abin Tryz.prog .eql 153 (.c .nilp) (.c .nilp) = some (.c (.b true)) := by kernel_rfl
theorem neq1T153 {a b c : Nat}  : abin Tryz.prog .neq 153 (.c (.p a b c)) (.c .nilp) = some (.c (.b true)) := by kernel_rfl
theorem neq2T153 : abin Tryz.prog .neq 153 (.c .nilp) (.c .nilp) = some (.c (.b false)) := by kernel_rfl
theorem dT156 : dT Tryz.prog 156 = .st [(0, 12), (1, 12), (2, 130), (3, 150), (4, 5), (5, 5), (6, 151), (7, 152), (8, 153), (9, 154), (10, 155)] := by kernel_rfl
theorem sT156 : szT Tryz.prog 156 = 11 := by kernel_rfl
theorem bT156 : byT Tryz.prog 156 = 48 := by kernel_rfl
theorem zT156 : zT Tryz.prog 156 = some [.u 0#64, .u 0#64, .k .u32 (0), .k .u8 (0), .k .u8 (0), .k .u8 (0), .k .u8 (0), .nilf, .nilp, .k .i32 (0), .k .i32 (0)] := by kernel_rfl
attribute [go_sem] dT1 sT1 bT1 zT1 eql1T1 eql2T1 neq1T1 neq2T1 dT2 sT2 bT2 zT2 dT3 sT3 bT3 zT3 dT4 sT4 bT4 zT4 dT5 sT5 bT5 zT5 dT7 sT7 bT7 zT7 dT9 sT9 bT9 zT9 dT12 sT12 bT12 zT12 dT13 sT13 bT13 zT13 dT21 sT21 bT21 zT21 dT22 sT22 bT22 zT22 dT23 sT23 bT23 zT23 dT24 sT24 bT24 zT24 eqT24 neT24 dT25 sT25 bT25 zT25 dT26 sT26 bT26 zT26 eqT26 neT26 dT27 sT27 bT27 zT27 dT28 sT28 bT28 zT28 eqT28 neT28 dT29 sT29 bT29 zT29 eql1T29 eql2T29 neq1T29 neq2T29 dT30 sT30 bT30 zT30 dT31 sT31 bT31 zT31 eqT31 neT31 dT32 sT32 bT32 zT32 dT33 sT33 bT33 zT33 dT34 sT34 bT34 zT34 eqT34 neT34 dT35 sT35 bT35 zT35 eql1T35 eql2T35 neq1T35 neq2T35 dT36 sT36 bT36 zT36 eql1T36 eql2T36 neq1T36 neq2T36 dT37 sT37 bT37 zT37 dT38 sT38 bT38 zT38 eqT38 neT38 dT39 sT39 bT39 zT39 dT40 sT40 bT40 zT40 eqT40 neT40 dT41 sT41 bT41 zT41 eql1T41 eql2T41 neq1T41 neq2T41 dT42 sT42 bT42 zT42 eql1T42 eql2T42 neq1T42 neq2T42 dT43 sT43 bT43 zT43 eql1T43 eql2T43 neq1T43 neq2T43 dT44 sT44 bT44 zT44 eql1T44 eql2T44 neq1T44 neq2T44 dT45 sT45 bT45 zT45 eql1T45 eql2T45 neq1T45 neq2T45 dT46 sT46 bT46 zT46 eql1T46 eql2T46 neq1T46 neq2T46 dT47 sT47 bT47 zT47 eql1T47 eql2T47 neq1T47 neq2T47 dT49 sT49 bT49 zT49 eql1T49 eql2T49 neq1T49 neq2T49 dT50 sT50 bT50 zT50 eql1T50 eql2T50 neq1T50 neq2T50 dT51 sT51 bT51 zT51 eql1T51 eql2T51 neq1T51 neq2T51 dT52 sT52 bT52 zT52 eql1T52 eql2T52 neq1T52 neq2T52 dT53 sT53 bT53 zT53 eql1T53 eql2T53 neq1T53 neq2T53 dT54 sT54 bT54 zT54 eql1T54 eql2T54 neq1T54 neq2T54 dT55 sT55 bT55 zT55 eql1T55 eql2T55 neq1T55 neq2T55 dT56 sT56 bT56 zT56 eql1T56 eql2T56 neq1T56 neq2T56 dT57 sT57 bT57 zT57 eql1T57 eql2T57 neq1T57 neq2T57 dT58 sT58 bT58 zT58 dT59 sT59 bT59 zT59 eqT59 neT59 dT60 sT60 bT60 zT60 eql1T60 eql2T60 neq1T60 neq2T60 dT61 sT61 bT61 zT61 eql1T61 eql2T61 neq1T61 neq2T61 dT62 sT62 bT62 zT62 eql1T62 eql2T62 neq1T62 neq2T62 dT63 sT63 bT63 zT63 eql1T63 eql2T63 neq1T63 neq2T63 dT64 sT64 bT64 zT64 eql1T64 eql2T64 neq1T64 neq2T64 dT66 sT66 bT66 zT66 eql1T66 eql2T66 neq1T66 neq2T66 dT67 sT67 bT67 zT67 eql1T67 eql2T67 neq1T67 neq2T67 dT68 sT68 bT68 zT68 eql1T68 eql2T68 neq1T68 neq2T68 dT69 sT69 bT69 zT69 eql1T69 eql2T69 neq1T69 neq2T69 dT70 sT70 bT70 zT70 eql1T70 eql2T70 neq1T70 neq2T70 dT71 sT71 bT71 zT71 eql1T71 eql2T71 neq1T71 neq2T71 dT72 sT72 bT72 zT72 eql1T72 eql2T72 neq1T72 neq2T72 dT73 sT73 bT73 zT73 dT74 sT74 bT74 zT74 eqT74 neT74 dT75 sT75 bT75 zT75 eqT75 neT75 dT76 sT76 bT76 zT76 dT77 sT77 bT77 zT77 dT78 sT78 bT78 zT78 eql1T78 eql2T78 neq1T78 neq2T78 dT79 sT79 bT79 zT79 eql1T79 eql2T79 neq1T79 neq2T79 dT80 sT80 bT80 zT80 dT81 sT81 bT81 zT81 eql1T81 eql2T81 neq1T81 neq2T81 dT82 sT82 bT82 zT82 eql1T82 eql2T82 neq1T82 neq2T82 dT83 sT83 bT83 zT83 eql1T83 eql2T83 neq1T83 neq2T83 dT84 sT84 bT84 zT84 eql1T84 eql2T84 neq1T84 neq2T84 dT85 sT85 bT85 zT85 eql1T85 eql2T85 neq1T85 neq2T85 dT86 sT86 bT86 zT86 eql1T86 eql2T86 neq1T86 neq2T86 dT87 sT87 bT87 zT87 eql1T87 eql2T87 neq1T87 neq2T87 dT88 sT88 bT88 zT88 dT89 sT89 bT89 zT89 eql1T89 eql2T89 neq1T89 neq2T89 dT90 sT90 bT90 zT90 eql1T90 eql2T90 neq1T90 neq2T90 dT91 sT91 bT91 zT91 eql1T91 eql2T91 neq1T91 neq2T91 dT92 sT92 bT92 zT92 eql1T92 eql2T92 neq1T92 neq2T92 dT93 sT93 bT93 zT93 eql1T93 eql2T93 neq1T93 neq2T93 dT94 sT94 bT94 zT94 eql1T94 eql2T94 neq1T94 neq2T94 dT95 sT95 bT95 zT95 eql1T95 eql2T95 neq1T95 neq2T95 dT96 sT96 bT96 zT96 eql1T96 eql2T96 neq1T96 neq2T96 dT97 sT97 bT97 zT97 eql1T97 eql2T97 neq1T97 neq2T97 dT98 sT98 bT98 zT98 eql1T98 eql2T98 neq1T98 neq2T98 dT99 sT99 bT99 zT99 eql1T99 eql2T99 neq1T99 neq2T99 dT100 sT100 bT100 zT100 eql1T100 eql2T100 neq1T100 neq2T100 dT101 sT101 bT101 zT101 eql1T101 eql2T101 neq1T101 neq2T101 dT102 sT102 bT102 zT102 eql1T102 eql2T102 neq1T102 neq2T102 dT104 sT104 bT104 zT104 eql1T104 eql2T104 neq1T104 neq2T104 dT105 sT105 bT105 zT105 eql1T105 eql2T105 neq1T105 neq2T105 dT106 sT106 bT106 zT106 eql1T106 eql2T106 neq1T106 neq2T106 dT107 sT107 bT107 zT107 eql1T107 eql2T107 neq1T107 neq2T107 dT108 sT108 bT108 zT108 eql1T108 eql2T108 neq1T108 neq2T108 dT109 sT109 bT109 zT109 eql1T109 eql2T109 neq1T109 neq2T109 dT110 sT110 bT110 zT110 eql1T110 eql2T110 neq1T110 neq2T110 dT111 sT111 bT111 zT111 eql1T111 eql2T111 neq1T111 neq2T111 dT113 sT113 bT113 zT113 eql1T113 eql2T113 neq1T113 neq2T113 dT114 sT114 bT114 zT114 eql1T114 eql2T114 neq1T114 neq2T114 dT115 sT115 bT115 zT115 eqT115 neT115 dT116 sT116 bT116 zT116 eql1T116 eql2T116 neq1T116 neq2T116 dT118 sT118 bT118 zT118 eql1T118 eql2T118 neq1T118 neq2T118 dT119 sT119 bT119 zT119 eql1T119 eql2T119 neq1T119 neq2T119 dT120 sT120 bT120 zT120 eql1T120 eql2T120 neq1T120 neq2T120 dT122 sT122 bT122 zT122 eql1T122 eql2T122 neq1T122 neq2T122 dT124 sT124 bT124 zT124 eql1T124 eql2T124 neq1T124 neq2T124 dT125 sT125 bT125 zT125 eql1T125 eql2T125 neq1T125 neq2T125 dT126 sT126 bT126 zT126 dT127 sT127 bT127 zT127 eqT127 neT127 dT128 sT128 bT128 zT128 eql1T128 eql2T128 neq1T128 neq2T128 dT129 sT129 bT129 zT129 eql1T129 eql2T129 neq1T129 neq2T129 dT130 sT130 bT130 zT130 dT131 sT131 bT131 zT131 eql1T131 eql2T131 neq1T131 neq2T131 dT132 sT132 bT132 zT132 eql1T132 eql2T132 neq1T132 neq2T132 dT133 sT133 bT133 zT133 eql1T133 eql2T133 neq1T133 neq2T133 dT134 sT134 bT134 zT134 eql1T134 eql2T134 neq1T134 neq2T134 dT136 sT136 bT136 zT136 eql1T136 eql2T136 neq1T136 neq2T136 dT137 sT137 bT137 zT137 eql1T137 eql2T137 neq1T137 neq2T137 dT138 sT138 bT138 zT138 eql1T138 eql2T138 neq1T138 neq2T138 dT139 sT139 bT139 zT139 dT140 sT140 bT140 zT140 eqT140 neT140 dT141 sT141 bT141 zT141 eql1T141 eql2T141 neq1T141 neq2T141 dT142 sT142 bT142 zT142 eql1T142 eql2T142 neq1T142 neq2T142 dT143 sT143 bT143 zT143 eql1T143 eql2T143 neq1T143 neq2T143 dT149 sT149 bT149 zT149 eql1T149 eql2T149 neq1T149 neq2T149 dT152 sT152 bT152 zT152 eql1T152 eql2T152 neq1T152 neq2T152 dT153 sT153 bT153 zT153 eql1T153 eql2T153 neq1T153 neq2T153 dT156 sT156 bT156 zT156
end Go.Proofs.YtjlbgjhnhhihoaaGreat
