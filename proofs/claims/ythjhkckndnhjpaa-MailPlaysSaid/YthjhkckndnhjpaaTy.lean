/- The types of this translation, as the abstract machine reads them: closed facts. -/
import Derived.Test.YthjhkckndnhjpaaProg
import Derived.Test.YthjhkckndnhjpaaAw
namespace Go.Proofs.Ythjhkckndnhjpaa
open Go.Am
set_option maxRecDepth 100000
theorem hmix : Try.prog.follows .mixedOrders = true := by kernel_rfl
theorem dT1 : dT Try.prog 1 = .other := by kernel_rfl
theorem sT1 : szT Try.prog 1 = 1 := by kernel_rfl
theorem bT1 : byT Try.prog 1 = 8 := by kernel_rfl
theorem zT1 : zT Try.prog 1 = some [.nilf] := by kernel_rfl
theorem eql1T1 {f : Nat} {c : List (Nat × Nat × Nat)}  : abin Try.prog .eql 1 (.c (.f f c)) (.c .nilf) = some (.c (.b false)) := by kernel_rfl
theorem eql2T1 : abin Try.prog .eql 1 (.c .nilf) (.c .nilf) = some (.c (.b true)) := by kernel_rfl
theorem neq1T1 {f : Nat} {c : List (Nat × Nat × Nat)}  : abin Try.prog .neq 1 (.c (.f f c)) (.c .nilf) = some (.c (.b true)) := by kernel_rfl
theorem neq2T1 : abin Try.prog .neq 1 (.c .nilf) (.c .nilf) = some (.c (.b false)) := by kernel_rfl
theorem dT2 : dT Try.prog 2 = .int .i64 := by kernel_rfl
theorem sT2 : szT Try.prog 2 = 1 := by kernel_rfl
theorem bT2 : byT Try.prog 2 = 8 := by kernel_rfl
theorem zT2 : zT Try.prog 2 = some [.i 0] := by kernel_rfl
theorem dT3 : dT Try.prog 3 = .int .i64 := by kernel_rfl
theorem sT3 : szT Try.prog 3 = 1 := by kernel_rfl
theorem bT3 : byT Try.prog 3 = 8 := by kernel_rfl
theorem zT3 : zT Try.prog 3 = some [.i 0] := by kernel_rfl
theorem dT4 : dT Try.prog 4 = .bool := by kernel_rfl
theorem sT4 : szT Try.prog 4 = 1 := by kernel_rfl
theorem bT4 : byT Try.prog 4 = 1 := by kernel_rfl
theorem zT4 : zT Try.prog 4 = some [.b false] := by kernel_rfl
theorem dT5 : dT Try.prog 5 = .int .u8 := by kernel_rfl
theorem sT5 : szT Try.prog 5 = 1 := by kernel_rfl
theorem bT5 : byT Try.prog 5 = 1 := by kernel_rfl
theorem zT5 : zT Try.prog 5 = some [.k .u8 (0)] := by kernel_rfl
theorem dT7 : dT Try.prog 7 = .st [(0, 2), (1, 3), (2, 4), (3, 6)] := by kernel_rfl
theorem sT7 : szT Try.prog 7 = 4 := by kernel_rfl
theorem bT7 : byT Try.prog 7 = 24 := by kernel_rfl
theorem zT7 : zT Try.prog 7 = some [.i 0, .i 0, .b false, .k .u8 (0)] := by kernel_rfl
theorem dT9 : dT Try.prog 9 = .str := by kernel_rfl
theorem sT9 : szT Try.prog 9 = 1 := by kernel_rfl
theorem bT9 : byT Try.prog 9 = 16 := by kernel_rfl
theorem zT9 : zT Try.prog 9 = some [.s ByteArray.empty] := by kernel_rfl
theorem dT12 : dT Try.prog 12 = .int .u64 := by kernel_rfl
theorem sT12 : szT Try.prog 12 = 1 := by kernel_rfl
theorem bT12 : byT Try.prog 12 = 8 := by kernel_rfl
theorem zT12 : zT Try.prog 12 = some [.u 0#64] := by kernel_rfl
theorem dT13 : dT Try.prog 13 = .st [(0, 9), (1, 12)] := by kernel_rfl
theorem sT13 : szT Try.prog 13 = 2 := by kernel_rfl
theorem bT13 : byT Try.prog 13 = 24 := by kernel_rfl
theorem zT13 : zT Try.prog 13 = some [.s ByteArray.empty, .u 0#64] := by kernel_rfl
theorem dT21 : dT Try.prog 21 = .int .i32 := by kernel_rfl
theorem sT21 : szT Try.prog 21 = 1 := by kernel_rfl
theorem bT21 : byT Try.prog 21 = 4 := by kernel_rfl
theorem zT21 : zT Try.prog 21 = some [.k .i32 (0)] := by kernel_rfl
theorem dT22 : dT Try.prog 22 = .sl 28 := by kernel_rfl
theorem sT22 : szT Try.prog 22 = 1 := by kernel_rfl
theorem bT22 : byT Try.prog 22 = 24 := by kernel_rfl
theorem zT22 : zT Try.prog 22 = some [.nils] := by kernel_rfl
theorem eql1T22 {a b c n : Nat}  : abin Try.prog .eql 22 (.c (.sl a b c n)) (.c .nils) = if n = 0 then some (.c .qq) else some (.c (.b false)) := by kernel_rfl
theorem eql2T22 : abin Try.prog .eql 22 (.c .nils) (.c .nils) = some (.c (.b true)) := by kernel_rfl
theorem neq1T22 {a b c n : Nat}  : abin Try.prog .neq 22 (.c (.sl a b c n)) (.c .nils) = if n = 0 then some (.c .qq) else some (.c (.b true)) := by kernel_rfl
theorem neq2T22 : abin Try.prog .neq 22 (.c .nils) (.c .nils) = some (.c (.b false)) := by kernel_rfl
theorem dT23 : dT Try.prog 23 = .int .u64 := by kernel_rfl
theorem sT23 : szT Try.prog 23 = 1 := by kernel_rfl
theorem bT23 : byT Try.prog 23 = 8 := by kernel_rfl
theorem zT23 : zT Try.prog 23 = some [.u 0#64] := by kernel_rfl
theorem dT24 : dT Try.prog 24 = .st [(0, 3), (1, 23), (2, 3), (3, 23)] := by kernel_rfl
theorem sT24 : szT Try.prog 24 = 4 := by kernel_rfl
theorem bT24 : byT Try.prog 24 = 32 := by kernel_rfl
theorem zT24 : zT Try.prog 24 = some [.i 0, .u 0#64, .i 0, .u 0#64] := by kernel_rfl
theorem dT25 : dT Try.prog 25 = .st [(0, 3), (1, 23), (2, 3), (3, 23)] := by kernel_rfl
theorem sT25 : szT Try.prog 25 = 4 := by kernel_rfl
theorem bT25 : byT Try.prog 25 = 32 := by kernel_rfl
theorem zT25 : zT Try.prog 25 = some [.i 0, .u 0#64, .i 0, .u 0#64] := by kernel_rfl
theorem gT25 : tagsT Try.prog 12 25 = some [.n, .n, .n, .n] := by kernel_rfl
theorem eqT25 {a b : List Sc} : abin Try.prog .eql 25 (.g a) (.g b) = (csEq [.n, .n, .n, .n] a b).bind (eqU .eql) := ab_g_eql _ (by simp only [dT25, D.agg]) gT25
theorem neT25 {a b : List Sc} : abin Try.prog .neq 25 (.g a) (.g b) = (csEq [.n, .n, .n, .n] a b).bind (eqU .neq) := ab_g_neq _ (by simp only [dT25, D.agg]) gT25
theorem dT26 : dT Try.prog 26 = .other := by kernel_rfl
theorem sT26 : szT Try.prog 26 = 1 := by kernel_rfl
theorem bT26 : byT Try.prog 26 = 8 := by kernel_rfl
theorem zT26 : zT Try.prog 26 = some [.nilf] := by kernel_rfl
theorem eql1T26 {f : Nat} {c : List (Nat × Nat × Nat)}  : abin Try.prog .eql 26 (.c (.f f c)) (.c .nilf) = some (.c (.b false)) := by kernel_rfl
theorem eql2T26 : abin Try.prog .eql 26 (.c .nilf) (.c .nilf) = some (.c (.b true)) := by kernel_rfl
theorem neq1T26 {f : Nat} {c : List (Nat × Nat × Nat)}  : abin Try.prog .neq 26 (.c (.f f c)) (.c .nilf) = some (.c (.b true)) := by kernel_rfl
theorem neq2T26 : abin Try.prog .neq 26 (.c .nilf) (.c .nilf) = some (.c (.b false)) := by kernel_rfl
theorem dT27 : dT Try.prog 27 = .st [(0, 4), (1, 4), (2, 4), (3, 23), (4, 3)] := by kernel_rfl
theorem sT27 : szT Try.prog 27 = 5 := by kernel_rfl
theorem bT27 : byT Try.prog 27 = 24 := by kernel_rfl
theorem zT27 : zT Try.prog 27 = some [.b false, .b false, .b false, .u 0#64, .i 0] := by kernel_rfl
theorem dT28 : dT Try.prog 28 = .st [(0, 4), (1, 4), (2, 4), (3, 23), (4, 3)] := by kernel_rfl
theorem sT28 : szT Try.prog 28 = 5 := by kernel_rfl
theorem bT28 : byT Try.prog 28 = 24 := by kernel_rfl
theorem zT28 : zT Try.prog 28 = some [.b false, .b false, .b false, .u 0#64, .i 0] := by kernel_rfl
theorem gT28 : tagsT Try.prog 12 28 = some [.q, .q, .q, .n, .n] := by kernel_rfl
theorem eqT28 {a b : List Sc} : abin Try.prog .eql 28 (.g a) (.g b) = (csEq [.q, .q, .q, .n, .n] a b).bind (eqU .eql) := ab_g_eql _ (by simp only [dT28, D.agg]) gT28
theorem neT28 {a b : List Sc} : abin Try.prog .neq 28 (.g a) (.g b) = (csEq [.q, .q, .q, .n, .n] a b).bind (eqU .neq) := ab_g_neq _ (by simp only [dT28, D.agg]) gT28
theorem dT29 : dT Try.prog 29 = .arr 8 28 := by kernel_rfl
theorem sT29 : szT Try.prog 29 = 40 := by kernel_rfl
theorem bT29 : byT Try.prog 29 = 192 := by kernel_rfl
theorem zT29 : zT Try.prog 29 = some [.b false, .b false, .b false, .u 0#64, .i 0, .b false, .b false, .b false, .u 0#64, .i 0, .b false, .b false, .b false, .u 0#64, .i 0, .b false, .b false, .b false, .u 0#64, .i 0, .b false, .b false, .b false, .u 0#64, .i 0, .b false, .b false, .b false, .u 0#64, .i 0, .b false, .b false, .b false, .u 0#64, .i 0, .b false, .b false, .b false, .u 0#64, .i 0] := by kernel_rfl
theorem gT29 : tagsT Try.prog 12 29 = some [.q, .q, .q, .n, .n, .q, .q, .q, .n, .n, .q, .q, .q, .n, .n, .q, .q, .q, .n, .n, .q, .q, .q, .n, .n, .q, .q, .q, .n, .n, .q, .q, .q, .n, .n, .q, .q, .q, .n, .n] := by kernel_rfl
theorem eqT29 {a b : List Sc} : abin Try.prog .eql 29 (.g a) (.g b) = (csEq [.q, .q, .q, .n, .n, .q, .q, .q, .n, .n, .q, .q, .q, .n, .n, .q, .q, .q, .n, .n, .q, .q, .q, .n, .n, .q, .q, .q, .n, .n, .q, .q, .q, .n, .n, .q, .q, .q, .n, .n] a b).bind (eqU .eql) := ab_g_eql _ (by simp only [dT29, D.agg]) gT29
theorem neT29 {a b : List Sc} : abin Try.prog .neq 29 (.g a) (.g b) = (csEq [.q, .q, .q, .n, .n, .q, .q, .q, .n, .n, .q, .q, .q, .n, .n, .q, .q, .q, .n, .n, .q, .q, .q, .n, .n, .q, .q, .q, .n, .n, .q, .q, .q, .n, .n, .q, .q, .q, .n, .n] a b).bind (eqU .neq) := ab_g_neq _ (by simp only [dT29, D.agg]) gT29
theorem dT30 : dT Try.prog 30 = .arr 8 29 := by kernel_rfl
theorem sT30 : szT Try.prog 30 = 320 := by kernel_rfl
theorem bT30 : byT Try.prog 30 = 1536 := by kernel_rfl
theorem dT31 : dT Try.prog 31 = .st [(0, 3), (1, 30)] := by kernel_rfl
theorem sT31 : szT Try.prog 31 = 321 := by kernel_rfl
theorem bT31 : byT Try.prog 31 = 1544 := by kernel_rfl
theorem dT32 : dT Try.prog 32 = .st [(0, 3), (1, 30)] := by kernel_rfl
theorem sT32 : szT Try.prog 32 = 321 := by kernel_rfl
theorem bT32 : byT Try.prog 32 = 1544 := by kernel_rfl
theorem dT33 : dT Try.prog 33 = .other := by kernel_rfl
theorem sT33 : szT Try.prog 33 = 1 := by kernel_rfl
theorem bT33 : byT Try.prog 33 = 8 := by kernel_rfl
theorem zT33 : zT Try.prog 33 = some [.nilf] := by kernel_rfl
theorem eql1T33 {f : Nat} {c : List (Nat × Nat × Nat)}  : abin Try.prog .eql 33 (.c (.f f c)) (.c .nilf) = some (.c (.b false)) := by kernel_rfl
theorem eql2T33 : abin Try.prog .eql 33 (.c .nilf) (.c .nilf) = some (.c (.b true)) := by kernel_rfl
theorem neq1T33 {f : Nat} {c : List (Nat × Nat × Nat)}  : abin Try.prog .neq 33 (.c (.f f c)) (.c .nilf) = some (.c (.b true)) := by kernel_rfl
theorem neq2T33 : abin Try.prog .neq 33 (.c .nilf) (.c .nilf) = some (.c (.b false)) := by kernel_rfl
theorem dT34 : dT Try.prog 34 = .st [(0, 23), (1, 4), (2, 29)] := by kernel_rfl
theorem sT34 : szT Try.prog 34 = 42 := by kernel_rfl
theorem bT34 : byT Try.prog 34 = 208 := by kernel_rfl
theorem zT34 : zT Try.prog 34 = some [.u 0#64, .b false, .b false, .b false, .b false, .u 0#64, .i 0, .b false, .b false, .b false, .u 0#64, .i 0, .b false, .b false, .b false, .u 0#64, .i 0, .b false, .b false, .b false, .u 0#64, .i 0, .b false, .b false, .b false, .u 0#64, .i 0, .b false, .b false, .b false, .u 0#64, .i 0, .b false, .b false, .b false, .u 0#64, .i 0, .b false, .b false, .b false, .u 0#64, .i 0] := by kernel_rfl
theorem dT35 : dT Try.prog 35 = .st [(0, 23), (1, 4), (2, 29)] := by kernel_rfl
theorem sT35 : szT Try.prog 35 = 42 := by kernel_rfl
theorem bT35 : byT Try.prog 35 = 208 := by kernel_rfl
theorem zT35 : zT Try.prog 35 = some [.u 0#64, .b false, .b false, .b false, .b false, .u 0#64, .i 0, .b false, .b false, .b false, .u 0#64, .i 0, .b false, .b false, .b false, .u 0#64, .i 0, .b false, .b false, .b false, .u 0#64, .i 0, .b false, .b false, .b false, .u 0#64, .i 0, .b false, .b false, .b false, .u 0#64, .i 0, .b false, .b false, .b false, .u 0#64, .i 0, .b false, .b false, .b false, .u 0#64, .i 0] := by kernel_rfl
theorem dT37 : dT Try.prog 37 = .other := by kernel_rfl
theorem sT37 : szT Try.prog 37 = 1 := by kernel_rfl
theorem bT37 : byT Try.prog 37 = 8 := by kernel_rfl
theorem zT37 : zT Try.prog 37 = some [.nilf] := by kernel_rfl
theorem eql1T37 {f : Nat} {c : List (Nat × Nat × Nat)}  : abin Try.prog .eql 37 (.c (.f f c)) (.c .nilf) = some (.c (.b false)) := by kernel_rfl
theorem eql2T37 : abin Try.prog .eql 37 (.c .nilf) (.c .nilf) = some (.c (.b true)) := by kernel_rfl
theorem neq1T37 {f : Nat} {c : List (Nat × Nat × Nat)}  : abin Try.prog .neq 37 (.c (.f f c)) (.c .nilf) = some (.c (.b true)) := by kernel_rfl
theorem neq2T37 : abin Try.prog .neq 37 (.c .nilf) (.c .nilf) = some (.c (.b false)) := by kernel_rfl
theorem dT38 : dT Try.prog 38 = .int .i64 := by kernel_rfl
theorem sT38 : szT Try.prog 38 = 1 := by kernel_rfl
theorem bT38 : byT Try.prog 38 = 8 := by kernel_rfl
theorem zT38 : zT Try.prog 38 = some [.i 0] := by kernel_rfl
theorem dT39 : dT Try.prog 39 = .int .i64 := by kernel_rfl
theorem sT39 : szT Try.prog 39 = 1 := by kernel_rfl
theorem bT39 : byT Try.prog 39 = 8 := by kernel_rfl
theorem zT39 : zT Try.prog 39 = some [.i 0] := by kernel_rfl
theorem dT40 : dT Try.prog 40 = .st [(0, 38), (1, 23), (2, 23), (3, 3), (4, 3), (5, 39), (6, 23), (7, 23), (8, 4), (9, 3), (10, 28), (15, 25)] := by kernel_rfl
theorem sT40 : szT Try.prog 40 = 19 := by kernel_rfl
theorem bT40 : byT Try.prog 40 = 136 := by kernel_rfl
theorem zT40 : zT Try.prog 40 = some [.i 0, .u 0#64, .u 0#64, .i 0, .i 0, .i 0, .u 0#64, .u 0#64, .b false, .i 0, .b false, .b false, .b false, .u 0#64, .i 0, .i 0, .u 0#64, .i 0, .u 0#64] := by kernel_rfl
theorem dT41 : dT Try.prog 41 = .st [(0, 38), (1, 23), (2, 23), (3, 3), (4, 3), (5, 39), (6, 23), (7, 23), (8, 4), (9, 3), (10, 28), (15, 25)] := by kernel_rfl
theorem sT41 : szT Try.prog 41 = 19 := by kernel_rfl
theorem bT41 : byT Try.prog 41 = 136 := by kernel_rfl
theorem zT41 : zT Try.prog 41 = some [.i 0, .u 0#64, .u 0#64, .i 0, .i 0, .i 0, .u 0#64, .u 0#64, .b false, .i 0, .b false, .b false, .b false, .u 0#64, .i 0, .i 0, .u 0#64, .i 0, .u 0#64] := by kernel_rfl
theorem gT41 : tagsT Try.prog 12 41 = some [.n, .n, .n, .n, .n, .n, .n, .n, .q, .n, .q, .q, .q, .n, .n, .n, .n, .n, .n] := by kernel_rfl
theorem eqT41 {a b : List Sc} : abin Try.prog .eql 41 (.g a) (.g b) = (csEq [.n, .n, .n, .n, .n, .n, .n, .n, .q, .n, .q, .q, .q, .n, .n, .n, .n, .n, .n] a b).bind (eqU .eql) := ab_g_eql _ (by simp only [dT41, D.agg]) gT41
theorem neT41 {a b : List Sc} : abin Try.prog .neq 41 (.g a) (.g b) = (csEq [.n, .n, .n, .n, .n, .n, .n, .n, .q, .n, .q, .q, .q, .n, .n, .n, .n, .n, .n] a b).bind (eqU .neq) := ab_g_neq _ (by simp only [dT41, D.agg]) gT41
theorem dT42 : dT Try.prog 42 = .other := by kernel_rfl
theorem sT42 : szT Try.prog 42 = 1 := by kernel_rfl
theorem bT42 : byT Try.prog 42 = 8 := by kernel_rfl
theorem zT42 : zT Try.prog 42 = some [.nilf] := by kernel_rfl
theorem eql1T42 {f : Nat} {c : List (Nat × Nat × Nat)}  : abin Try.prog .eql 42 (.c (.f f c)) (.c .nilf) = some (.c (.b false)) := by kernel_rfl
theorem eql2T42 : abin Try.prog .eql 42 (.c .nilf) (.c .nilf) = some (.c (.b true)) := by kernel_rfl
theorem neq1T42 {f : Nat} {c : List (Nat × Nat × Nat)}  : abin Try.prog .neq 42 (.c (.f f c)) (.c .nilf) = some (.c (.b true)) := by kernel_rfl
theorem neq2T42 : abin Try.prog .neq 42 (.c .nilf) (.c .nilf) = some (.c (.b false)) := by kernel_rfl
theorem dT43 : dT Try.prog 43 = .other := by kernel_rfl
theorem sT43 : szT Try.prog 43 = 1 := by kernel_rfl
theorem bT43 : byT Try.prog 43 = 8 := by kernel_rfl
theorem zT43 : zT Try.prog 43 = some [.nilf] := by kernel_rfl
theorem eql1T43 {f : Nat} {c : List (Nat × Nat × Nat)}  : abin Try.prog .eql 43 (.c (.f f c)) (.c .nilf) = some (.c (.b false)) := by kernel_rfl
theorem eql2T43 : abin Try.prog .eql 43 (.c .nilf) (.c .nilf) = some (.c (.b true)) := by kernel_rfl
theorem neq1T43 {f : Nat} {c : List (Nat × Nat × Nat)}  : abin Try.prog .neq 43 (.c (.f f c)) (.c .nilf) = some (.c (.b true)) := by kernel_rfl
theorem neq2T43 : abin Try.prog .neq 43 (.c .nilf) (.c .nilf) = some (.c (.b false)) := by kernel_rfl
theorem dT44 : dT Try.prog 44 = .sl 49 := by kernel_rfl
theorem sT44 : szT Try.prog 44 = 1 := by kernel_rfl
theorem bT44 : byT Try.prog 44 = 24 := by kernel_rfl
theorem zT44 : zT Try.prog 44 = some [.nils] := by kernel_rfl
theorem eql1T44 {a b c n : Nat}  : abin Try.prog .eql 44 (.c (.sl a b c n)) (.c .nils) = if n = 0 then some (.c .qq) else some (.c (.b false)) := by kernel_rfl
theorem eql2T44 : abin Try.prog .eql 44 (.c .nils) (.c .nils) = some (.c (.b true)) := by kernel_rfl
theorem neq1T44 {a b c n : Nat}  : abin Try.prog .neq 44 (.c (.sl a b c n)) (.c .nils) = if n = 0 then some (.c .qq) else some (.c (.b true)) := by kernel_rfl
theorem neq2T44 : abin Try.prog .neq 44 (.c .nils) (.c .nils) = some (.c (.b false)) := by kernel_rfl
theorem dT45 : dT Try.prog 45 = .st [(0, 3), (1, 30)] := by kernel_rfl
theorem sT45 : szT Try.prog 45 = 321 := by kernel_rfl
theorem bT45 : byT Try.prog 45 = 1544 := by kernel_rfl
theorem dT46 : dT Try.prog 46 = .st [(0, 3), (1, 30)] := by kernel_rfl
theorem sT46 : szT Try.prog 46 = 321 := by kernel_rfl
theorem bT46 : byT Try.prog 46 = 1544 := by kernel_rfl
theorem dT47 : dT Try.prog 47 = .other := by kernel_rfl
theorem sT47 : szT Try.prog 47 = 1 := by kernel_rfl
theorem bT47 : byT Try.prog 47 = 8 := by kernel_rfl
theorem zT47 : zT Try.prog 47 = some [.nilf] := by kernel_rfl
theorem eql1T47 {f : Nat} {c : List (Nat × Nat × Nat)}  : abin Try.prog .eql 47 (.c (.f f c)) (.c .nilf) = some (.c (.b false)) := by kernel_rfl
theorem eql2T47 : abin Try.prog .eql 47 (.c .nilf) (.c .nilf) = some (.c (.b true)) := by kernel_rfl
theorem neq1T47 {f : Nat} {c : List (Nat × Nat × Nat)}  : abin Try.prog .neq 47 (.c (.f f c)) (.c .nilf) = some (.c (.b true)) := by kernel_rfl
theorem neq2T47 : abin Try.prog .neq 47 (.c .nilf) (.c .nilf) = some (.c (.b false)) := by kernel_rfl
theorem dT48 : dT Try.prog 48 = .st [(0, 3), (1, 41)] := by kernel_rfl
theorem sT48 : szT Try.prog 48 = 20 := by kernel_rfl
theorem bT48 : byT Try.prog 48 = 144 := by kernel_rfl
theorem zT48 : zT Try.prog 48 = some [.i 0, .i 0, .u 0#64, .u 0#64, .i 0, .i 0, .i 0, .u 0#64, .u 0#64, .b false, .i 0, .b false, .b false, .b false, .u 0#64, .i 0, .i 0, .u 0#64, .i 0, .u 0#64] := by kernel_rfl
theorem dT49 : dT Try.prog 49 = .st [(0, 3), (1, 41)] := by kernel_rfl
theorem sT49 : szT Try.prog 49 = 20 := by kernel_rfl
theorem bT49 : byT Try.prog 49 = 144 := by kernel_rfl
theorem zT49 : zT Try.prog 49 = some [.i 0, .i 0, .u 0#64, .u 0#64, .i 0, .i 0, .i 0, .u 0#64, .u 0#64, .b false, .i 0, .b false, .b false, .b false, .u 0#64, .i 0, .i 0, .u 0#64, .i 0, .u 0#64] := by kernel_rfl
theorem gT49 : tagsT Try.prog 12 49 = some [.n, .n, .n, .n, .n, .n, .n, .n, .n, .q, .n, .q, .q, .q, .n, .n, .n, .n, .n, .n] := by kernel_rfl
theorem eqT49 {a b : List Sc} : abin Try.prog .eql 49 (.g a) (.g b) = (csEq [.n, .n, .n, .n, .n, .n, .n, .n, .n, .q, .n, .q, .q, .q, .n, .n, .n, .n, .n, .n] a b).bind (eqU .eql) := ab_g_eql _ (by simp only [dT49, D.agg]) gT49
theorem neT49 {a b : List Sc} : abin Try.prog .neq 49 (.g a) (.g b) = (csEq [.n, .n, .n, .n, .n, .n, .n, .n, .n, .q, .n, .q, .q, .q, .n, .n, .n, .n, .n, .n] a b).bind (eqU .neq) := ab_g_neq _ (by simp only [dT49, D.agg]) gT49
theorem dT50 : dT Try.prog 50 = .other := by kernel_rfl
theorem sT50 : szT Try.prog 50 = 1 := by kernel_rfl
theorem bT50 : byT Try.prog 50 = 8 := by kernel_rfl
theorem zT50 : zT Try.prog 50 = some [.nilf] := by kernel_rfl
theorem eql1T50 {f : Nat} {c : List (Nat × Nat × Nat)}  : abin Try.prog .eql 50 (.c (.f f c)) (.c .nilf) = some (.c (.b false)) := by kernel_rfl
theorem eql2T50 : abin Try.prog .eql 50 (.c .nilf) (.c .nilf) = some (.c (.b true)) := by kernel_rfl
theorem neq1T50 {f : Nat} {c : List (Nat × Nat × Nat)}  : abin Try.prog .neq 50 (.c (.f f c)) (.c .nilf) = some (.c (.b true)) := by kernel_rfl
theorem neq2T50 : abin Try.prog .neq 50 (.c .nilf) (.c .nilf) = some (.c (.b false)) := by kernel_rfl
theorem dT52 : dT Try.prog 52 = .other := by kernel_rfl
theorem sT52 : szT Try.prog 52 = 1 := by kernel_rfl
theorem bT52 : byT Try.prog 52 = 8 := by kernel_rfl
theorem zT52 : zT Try.prog 52 = some [.nilf] := by kernel_rfl
theorem eql1T52 {f : Nat} {c : List (Nat × Nat × Nat)}  : abin Try.prog .eql 52 (.c (.f f c)) (.c .nilf) = some (.c (.b false)) := by kernel_rfl
theorem eql2T52 : abin Try.prog .eql 52 (.c .nilf) (.c .nilf) = some (.c (.b true)) := by kernel_rfl
theorem neq1T52 {f : Nat} {c : List (Nat × Nat × Nat)}  : abin Try.prog .neq 52 (.c (.f f c)) (.c .nilf) = some (.c (.b true)) := by kernel_rfl
theorem neq2T52 : abin Try.prog .neq 52 (.c .nilf) (.c .nilf) = some (.c (.b false)) := by kernel_rfl
theorem dT53 : dT Try.prog 53 = .other := by kernel_rfl
theorem sT53 : szT Try.prog 53 = 1 := by kernel_rfl
theorem bT53 : byT Try.prog 53 = 8 := by kernel_rfl
theorem zT53 : zT Try.prog 53 = some [.nilf] := by kernel_rfl
theorem eql1T53 {f : Nat} {c : List (Nat × Nat × Nat)}  : abin Try.prog .eql 53 (.c (.f f c)) (.c .nilf) = some (.c (.b false)) := by kernel_rfl
theorem eql2T53 : abin Try.prog .eql 53 (.c .nilf) (.c .nilf) = some (.c (.b true)) := by kernel_rfl
theorem neq1T53 {f : Nat} {c : List (Nat × Nat × Nat)}  : abin Try.prog .neq 53 (.c (.f f c)) (.c .nilf) = some (.c (.b true)) := by kernel_rfl
theorem neq2T53 : abin Try.prog .neq 53 (.c .nilf) (.c .nilf) = some (.c (.b false)) := by kernel_rfl
theorem dT55 : dT Try.prog 55 = .other := by kernel_rfl
theorem sT55 : szT Try.prog 55 = 1 := by kernel_rfl
theorem bT55 : byT Try.prog 55 = 8 := by kernel_rfl
theorem zT55 : zT Try.prog 55 = some [.nilf] := by kernel_rfl
theorem eql1T55 {f : Nat} {c : List (Nat × Nat × Nat)}  : abin Try.prog .eql 55 (.c (.f f c)) (.c .nilf) = some (.c (.b false)) := by kernel_rfl
theorem eql2T55 : abin Try.prog .eql 55 (.c .nilf) (.c .nilf) = some (.c (.b true)) := by kernel_rfl
theorem neq1T55 {f : Nat} {c : List (Nat × Nat × Nat)}  : abin Try.prog .neq 55 (.c (.f f c)) (.c .nilf) = some (.c (.b true)) := by kernel_rfl
theorem neq2T55 : abin Try.prog .neq 55 (.c .nilf) (.c .nilf) = some (.c (.b false)) := by kernel_rfl
theorem dT56 : dT Try.prog 56 = .other := by kernel_rfl
theorem sT56 : szT Try.prog 56 = 1 := by kernel_rfl
theorem bT56 : byT Try.prog 56 = 8 := by kernel_rfl
theorem zT56 : zT Try.prog 56 = some [.nilf] := by kernel_rfl
theorem eql1T56 {f : Nat} {c : List (Nat × Nat × Nat)}  : abin Try.prog .eql 56 (.c (.f f c)) (.c .nilf) = some (.c (.b false)) := by kernel_rfl
theorem eql2T56 : abin Try.prog .eql 56 (.c .nilf) (.c .nilf) = some (.c (.b true)) := by kernel_rfl
theorem neq1T56 {f : Nat} {c : List (Nat × Nat × Nat)}  : abin Try.prog .neq 56 (.c (.f f c)) (.c .nilf) = some (.c (.b true)) := by kernel_rfl
theorem neq2T56 : abin Try.prog .neq 56 (.c .nilf) (.c .nilf) = some (.c (.b false)) := by kernel_rfl
theorem dT57 : dT Try.prog 57 = .ptr 32 := by kernel_rfl
theorem sT57 : szT Try.prog 57 = 1 := by kernel_rfl
theorem bT57 : byT Try.prog 57 = 8 := by kernel_rfl
theorem zT57 : zT Try.prog 57 = some [.nilp] := by kernel_rfl
theorem eql1T57 {a b c : Nat}  : abin Try.prog .eql 57 (.c (.p a b c)) (.c .nilp) = some (.c (.b false)) := by kernel_rfl
theorem eql2T57 : abin Try.prog .eql 57 (.c .nilp) (.c .nilp) = some (.c (.b true)) := by kernel_rfl
theorem neq1T57 {a b c : Nat}  : abin Try.prog .neq 57 (.c (.p a b c)) (.c .nilp) = some (.c (.b true)) := by kernel_rfl
theorem neq2T57 : abin Try.prog .neq 57 (.c .nilp) (.c .nilp) = some (.c (.b false)) := by kernel_rfl
theorem dT58 : dT Try.prog 58 = .other := by kernel_rfl
theorem sT58 : szT Try.prog 58 = 1 := by kernel_rfl
theorem bT58 : byT Try.prog 58 = 8 := by kernel_rfl
theorem zT58 : zT Try.prog 58 = some [.nilf] := by kernel_rfl
theorem eql1T58 {f : Nat} {c : List (Nat × Nat × Nat)}  : abin Try.prog .eql 58 (.c (.f f c)) (.c .nilf) = some (.c (.b false)) := by kernel_rfl
theorem eql2T58 : abin Try.prog .eql 58 (.c .nilf) (.c .nilf) = some (.c (.b true)) := by kernel_rfl
theorem neq1T58 {f : Nat} {c : List (Nat × Nat × Nat)}  : abin Try.prog .neq 58 (.c (.f f c)) (.c .nilf) = some (.c (.b true)) := by kernel_rfl
theorem neq2T58 : abin Try.prog .neq 58 (.c .nilf) (.c .nilf) = some (.c (.b false)) := by kernel_rfl
theorem dT59 : dT Try.prog 59 = .ptr 28 := by kernel_rfl
theorem sT59 : szT Try.prog 59 = 1 := by kernel_rfl
theorem bT59 : byT Try.prog 59 = 8 := by kernel_rfl
theorem zT59 : zT Try.prog 59 = some [.nilp] := by kernel_rfl
theorem eql1T59 {a b c : Nat}  : abin Try.prog .eql 59 (.c (.p a b c)) (.c .nilp) = some (.c (.b false)) := by kernel_rfl
theorem eql2T59 : abin Try.prog .eql 59 (.c .nilp) (.c .nilp) = some (.c (.b true)) := by kernel_rfl
theorem neq1T59 {a b c : Nat}  : abin Try.prog .neq 59 (.c (.p a b c)) (.c .nilp) = some (.c (.b true)) := by kernel_rfl
theorem neq2T59 : abin Try.prog .neq 59 (.c .nilp) (.c .nilp) = some (.c (.b false)) := by kernel_rfl
theorem dT60 : dT Try.prog 60 = .other := by kernel_rfl
theorem sT60 : szT Try.prog 60 = 1 := by kernel_rfl
theorem bT60 : byT Try.prog 60 = 8 := by kernel_rfl
theorem zT60 : zT Try.prog 60 = some [.nilf] := by kernel_rfl
theorem eql1T60 {f : Nat} {c : List (Nat × Nat × Nat)}  : abin Try.prog .eql 60 (.c (.f f c)) (.c .nilf) = some (.c (.b false)) := by kernel_rfl
theorem eql2T60 : abin Try.prog .eql 60 (.c .nilf) (.c .nilf) = some (.c (.b true)) := by kernel_rfl
theorem neq1T60 {f : Nat} {c : List (Nat × Nat × Nat)}  : abin Try.prog .neq 60 (.c (.f f c)) (.c .nilf) = some (.c (.b true)) := by kernel_rfl
theorem neq2T60 : abin Try.prog .neq 60 (.c .nilf) (.c .nilf) = some (.c (.b false)) := by kernel_rfl
theorem dT61 : dT Try.prog 61 = .other := by kernel_rfl
theorem sT61 : szT Try.prog 61 = 1 := by kernel_rfl
theorem bT61 : byT Try.prog 61 = 8 := by kernel_rfl
theorem zT61 : zT Try.prog 61 = some [.nilf] := by kernel_rfl
theorem eql1T61 {f : Nat} {c : List (Nat × Nat × Nat)}  : abin Try.prog .eql 61 (.c (.f f c)) (.c .nilf) = some (.c (.b false)) := by kernel_rfl
theorem eql2T61 : abin Try.prog .eql 61 (.c .nilf) (.c .nilf) = some (.c (.b true)) := by kernel_rfl
theorem neq1T61 {f : Nat} {c : List (Nat × Nat × Nat)}  : abin Try.prog .neq 61 (.c (.f f c)) (.c .nilf) = some (.c (.b true)) := by kernel_rfl
theorem neq2T61 : abin Try.prog .neq 61 (.c .nilf) (.c .nilf) = some (.c (.b false)) := by kernel_rfl
theorem dT62 : dT Try.prog 62 = .other := by kernel_rfl
theorem sT62 : szT Try.prog 62 = 1 := by kernel_rfl
theorem bT62 : byT Try.prog 62 = 8 := by kernel_rfl
theorem zT62 : zT Try.prog 62 = some [.nilf] := by kernel_rfl
theorem eql1T62 {f : Nat} {c : List (Nat × Nat × Nat)}  : abin Try.prog .eql 62 (.c (.f f c)) (.c .nilf) = some (.c (.b false)) := by kernel_rfl
theorem eql2T62 : abin Try.prog .eql 62 (.c .nilf) (.c .nilf) = some (.c (.b true)) := by kernel_rfl
theorem neq1T62 {f : Nat} {c : List (Nat × Nat × Nat)}  : abin Try.prog .neq 62 (.c (.f f c)) (.c .nilf) = some (.c (.b true)) := by kernel_rfl
theorem neq2T62 : abin Try.prog .neq 62 (.c .nilf) (.c .nilf) = some (.c (.b false)) := by kernel_rfl
theorem dT63 : dT Try.prog 63 = .other := by kernel_rfl
theorem sT63 : szT Try.prog 63 = 1 := by kernel_rfl
theorem bT63 : byT Try.prog 63 = 8 := by kernel_rfl
theorem zT63 : zT Try.prog 63 = some [.nilf] := by kernel_rfl
theorem eql1T63 {f : Nat} {c : List (Nat × Nat × Nat)}  : abin Try.prog .eql 63 (.c (.f f c)) (.c .nilf) = some (.c (.b false)) := by kernel_rfl
theorem eql2T63 : abin Try.prog .eql 63 (.c .nilf) (.c .nilf) = some (.c (.b true)) := by kernel_rfl
theorem neq1T63 {f : Nat} {c : List (Nat × Nat × Nat)}  : abin Try.prog .neq 63 (.c (.f f c)) (.c .nilf) = some (.c (.b true)) := by kernel_rfl
theorem neq2T63 : abin Try.prog .neq 63 (.c .nilf) (.c .nilf) = some (.c (.b false)) := by kernel_rfl
theorem dT64 : dT Try.prog 64 = .other := by kernel_rfl
theorem sT64 : szT Try.prog 64 = 1 := by kernel_rfl
theorem bT64 : byT Try.prog 64 = 8 := by kernel_rfl
theorem zT64 : zT Try.prog 64 = some [.nilf] := by kernel_rfl
theorem eql1T64 {f : Nat} {c : List (Nat × Nat × Nat)}  : abin Try.prog .eql 64 (.c (.f f c)) (.c .nilf) = some (.c (.b false)) := by kernel_rfl
theorem eql2T64 : abin Try.prog .eql 64 (.c .nilf) (.c .nilf) = some (.c (.b true)) := by kernel_rfl
theorem neq1T64 {f : Nat} {c : List (Nat × Nat × Nat)}  : abin Try.prog .neq 64 (.c (.f f c)) (.c .nilf) = some (.c (.b true)) := by kernel_rfl
theorem neq2T64 : abin Try.prog .neq 64 (.c .nilf) (.c .nilf) = some (.c (.b false)) := by kernel_rfl
theorem dT65 : dT Try.prog 65 = .other := by kernel_rfl
theorem sT65 : szT Try.prog 65 = 1 := by kernel_rfl
theorem bT65 : byT Try.prog 65 = 8 := by kernel_rfl
theorem zT65 : zT Try.prog 65 = some [.nilf] := by kernel_rfl
theorem eql1T65 {f : Nat} {c : List (Nat × Nat × Nat)}  : abin Try.prog .eql 65 (.c (.f f c)) (.c .nilf) = some (.c (.b false)) := by kernel_rfl
theorem eql2T65 : abin Try.prog .eql 65 (.c .nilf) (.c .nilf) = some (.c (.b true)) := by kernel_rfl
theorem neq1T65 {f : Nat} {c : List (Nat × Nat × Nat)}  : abin Try.prog .neq 65 (.c (.f f c)) (.c .nilf) = some (.c (.b true)) := by kernel_rfl
theorem neq2T65 : abin Try.prog .neq 65 (.c .nilf) (.c .nilf) = some (.c (.b false)) := by kernel_rfl
theorem dT66 : dT Try.prog 66 = .sl 3 := by kernel_rfl
theorem sT66 : szT Try.prog 66 = 1 := by kernel_rfl
theorem bT66 : byT Try.prog 66 = 24 := by kernel_rfl
theorem zT66 : zT Try.prog 66 = some [.nils] := by kernel_rfl
theorem eql1T66 {a b c n : Nat}  : abin Try.prog .eql 66 (.c (.sl a b c n)) (.c .nils) = if n = 0 then some (.c .qq) else some (.c (.b false)) := by kernel_rfl
theorem eql2T66 : abin Try.prog .eql 66 (.c .nils) (.c .nils) = some (.c (.b true)) := by kernel_rfl
theorem neq1T66 {a b c n : Nat}  : abin Try.prog .neq 66 (.c (.sl a b c n)) (.c .nils) = if n = 0 then some (.c .qq) else some (.c (.b true)) := by kernel_rfl
theorem neq2T66 : abin Try.prog .neq 66 (.c .nils) (.c .nils) = some (.c (.b false)) := by kernel_rfl
theorem dT67 : dT Try.prog 67 = .other := by kernel_rfl
theorem sT67 : szT Try.prog 67 = 1 := by kernel_rfl
theorem bT67 : byT Try.prog 67 = 8 := by kernel_rfl
theorem zT67 : zT Try.prog 67 = some [.nilf] := by kernel_rfl
theorem eql1T67 {f : Nat} {c : List (Nat × Nat × Nat)}  : abin Try.prog .eql 67 (.c (.f f c)) (.c .nilf) = some (.c (.b false)) := by kernel_rfl
theorem eql2T67 : abin Try.prog .eql 67 (.c .nilf) (.c .nilf) = some (.c (.b true)) := by kernel_rfl
theorem neq1T67 {f : Nat} {c : List (Nat × Nat × Nat)}  : abin Try.prog .neq 67 (.c (.f f c)) (.c .nilf) = some (.c (.b true)) := by kernel_rfl
theorem neq2T67 : abin Try.prog .neq 67 (.c .nilf) (.c .nilf) = some (.c (.b false)) := by kernel_rfl
theorem dT68 : dT Try.prog 68 = .other := by kernel_rfl
theorem sT68 : szT Try.prog 68 = 1 := by kernel_rfl
theorem bT68 : byT Try.prog 68 = 8 := by kernel_rfl
theorem zT68 : zT Try.prog 68 = some [.nilf] := by kernel_rfl
theorem eql1T68 {f : Nat} {c : List (Nat × Nat × Nat)}  : abin Try.prog .eql 68 (.c (.f f c)) (.c .nilf) = some (.c (.b false)) := by kernel_rfl
theorem eql2T68 : abin Try.prog .eql 68 (.c .nilf) (.c .nilf) = some (.c (.b true)) := by kernel_rfl
theorem neq1T68 {f : Nat} {c : List (Nat × Nat × Nat)}  : abin Try.prog .neq 68 (.c (.f f c)) (.c .nilf) = some (.c (.b true)) := by kernel_rfl
theorem neq2T68 : abin Try.prog .neq 68 (.c .nilf) (.c .nilf) = some (.c (.b false)) := by kernel_rfl
theorem dT69 : dT Try.prog 69 = .other := by kernel_rfl
theorem sT69 : szT Try.prog 69 = 1 := by kernel_rfl
theorem bT69 : byT Try.prog 69 = 8 := by kernel_rfl
theorem zT69 : zT Try.prog 69 = some [.nilf] := by kernel_rfl
theorem eql1T69 {f : Nat} {c : List (Nat × Nat × Nat)}  : abin Try.prog .eql 69 (.c (.f f c)) (.c .nilf) = some (.c (.b false)) := by kernel_rfl
theorem eql2T69 : abin Try.prog .eql 69 (.c .nilf) (.c .nilf) = some (.c (.b true)) := by kernel_rfl
theorem neq1T69 {f : Nat} {c : List (Nat × Nat × Nat)}  : abin Try.prog .neq 69 (.c (.f f c)) (.c .nilf) = some (.c (.b true)) := by kernel_rfl
theorem neq2T69 : abin Try.prog .neq 69 (.c .nilf) (.c .nilf) = some (.c (.b false)) := by kernel_rfl
theorem dT70 : dT Try.prog 70 = .other := by kernel_rfl
theorem sT70 : szT Try.prog 70 = 1 := by kernel_rfl
theorem bT70 : byT Try.prog 70 = 8 := by kernel_rfl
theorem zT70 : zT Try.prog 70 = some [.nilf] := by kernel_rfl
theorem eql1T70 {f : Nat} {c : List (Nat × Nat × Nat)}  : abin Try.prog .eql 70 (.c (.f f c)) (.c .nilf) = some (.c (.b false)) := by kernel_rfl
theorem eql2T70 : abin Try.prog .eql 70 (.c .nilf) (.c .nilf) = some (.c (.b true)) := by kernel_rfl
theorem neq1T70 {f : Nat} {c : List (Nat × Nat × Nat)}  : abin Try.prog .neq 70 (.c (.f f c)) (.c .nilf) = some (.c (.b true)) := by kernel_rfl
theorem neq2T70 : abin Try.prog .neq 70 (.c .nilf) (.c .nilf) = some (.c (.b false)) := by kernel_rfl
theorem dT71 : dT Try.prog 71 = .other := by kernel_rfl
theorem sT71 : szT Try.prog 71 = 1 := by kernel_rfl
theorem bT71 : byT Try.prog 71 = 8 := by kernel_rfl
theorem zT71 : zT Try.prog 71 = some [.nilf] := by kernel_rfl
theorem eql1T71 {f : Nat} {c : List (Nat × Nat × Nat)}  : abin Try.prog .eql 71 (.c (.f f c)) (.c .nilf) = some (.c (.b false)) := by kernel_rfl
theorem eql2T71 : abin Try.prog .eql 71 (.c .nilf) (.c .nilf) = some (.c (.b true)) := by kernel_rfl
theorem neq1T71 {f : Nat} {c : List (Nat × Nat × Nat)}  : abin Try.prog .neq 71 (.c (.f f c)) (.c .nilf) = some (.c (.b true)) := by kernel_rfl
theorem neq2T71 : abin Try.prog .neq 71 (.c .nilf) (.c .nilf) = some (.c (.b false)) := by kernel_rfl
theorem dT77 : dT Try.prog 77 = .other := by kernel_rfl
theorem sT77 : szT Try.prog 77 = 1 := by kernel_rfl
theorem bT77 : byT Try.prog 77 = 8 := by kernel_rfl
theorem zT77 : zT Try.prog 77 = some [.nilf] := by kernel_rfl
theorem eql1T77 {f : Nat} {c : List (Nat × Nat × Nat)}  : abin Try.prog .eql 77 (.c (.f f c)) (.c .nilf) = some (.c (.b false)) := by kernel_rfl
theorem eql2T77 : abin Try.prog .eql 77 (.c .nilf) (.c .nilf) = some (.c (.b true)) := by kernel_rfl
theorem neq1T77 {f : Nat} {c : List (Nat × Nat × Nat)}  : abin Try.prog .neq 77 (.c (.f f c)) (.c .nilf) = some (.c (.b true)) := by kernel_rfl
theorem neq2T77 : abin Try.prog .neq 77 (.c .nilf) (.c .nilf) = some (.c (.b false)) := by kernel_rfl
theorem dT78 : dT Try.prog 78 = .int .u32 := by kernel_rfl
theorem sT78 : szT Try.prog 78 = 1 := by kernel_rfl
theorem bT78 : byT Try.prog 78 = 4 := by kernel_rfl
theorem zT78 : zT Try.prog 78 = some [.k .u32 (0)] := by kernel_rfl
theorem dT81 : dT Try.prog 81 = .other := by kernel_rfl
theorem sT81 : szT Try.prog 81 = 1 := by kernel_rfl
theorem bT81 : byT Try.prog 81 = 8 := by kernel_rfl
theorem zT81 : zT Try.prog 81 = some [.nilf] := by kernel_rfl
theorem eql1T81 {f : Nat} {c : List (Nat × Nat × Nat)}  : abin Try.prog .eql 81 (.c (.f f c)) (.c .nilf) = some (.c (.b false)) := by kernel_rfl
theorem eql2T81 : abin Try.prog .eql 81 (.c .nilf) (.c .nilf) = some (.c (.b true)) := by kernel_rfl
theorem neq1T81 {f : Nat} {c : List (Nat × Nat × Nat)}  : abin Try.prog .neq 81 (.c (.f f c)) (.c .nilf) = some (.c (.b true)) := by kernel_rfl
theorem neq2T81 : abin Try.prog .neq 81 (.c .nilf) (.c .nilf) = some (.c (.b false)) := by kernel_rfl
theorem dT82 : dT Try.prog 82 = .ptr 5 := by kernel_rfl
theorem sT82 : szT Try.prog 82 = 1 := by kernel_rfl
theorem bT82 : byT Try.prog 82 = 8 := by kernel_rfl
theorem zT82 : zT Try.prog 82 = some [.nilp] := by kernel_rfl
theorem eql1T82 {a b c : Nat}  : abin Try.prog .eql 82 (.c (.p a b c)) (.c .nilp) = some (.c (.b false)) := by kernel_rfl
theorem eql2T82 : abin Try.prog .eql 82 (.c .nilp) (.c .nilp) = some (.c (.b true)) := by kernel_rfl
theorem neq1T82 {a b c : Nat}  : abin Try.prog .neq 82 (.c (.p a b c)) (.c .nilp) = some (.c (.b true)) := by kernel_rfl
theorem neq2T82 : abin Try.prog .neq 82 (.c .nilp) (.c .nilp) = some (.c (.b false)) := by kernel_rfl
theorem dT85 : dT Try.prog 85 = .st [(0, 12), (1, 12), (2, 78), (3, 79), (4, 5), (5, 5), (6, 80), (7, 81), (8, 82), (9, 83), (10, 84)] := by kernel_rfl
theorem sT85 : szT Try.prog 85 = 11 := by kernel_rfl
theorem bT85 : byT Try.prog 85 = 48 := by kernel_rfl
theorem zT85 : zT Try.prog 85 = some [.u 0#64, .u 0#64, .k .u32 (0), .k .u8 (0), .k .u8 (0), .k .u8 (0), .k .u8 (0), .nilf, .nilp, .k .i32 (0), .k .i32 (0)] := by kernel_rfl
attribute [go_sem] dT1 sT1 bT1 zT1 eql1T1 eql2T1 neq1T1 neq2T1 dT2 sT2 bT2 zT2 dT3 sT3 bT3 zT3 dT4 sT4 bT4 zT4 dT5 sT5 bT5 zT5 dT7 sT7 bT7 zT7 dT9 sT9 bT9 zT9 dT12 sT12 bT12 zT12 dT13 sT13 bT13 zT13 dT21 sT21 bT21 zT21 dT22 sT22 bT22 zT22 eql1T22 eql2T22 neq1T22 neq2T22 dT23 sT23 bT23 zT23 dT24 sT24 bT24 zT24 dT25 sT25 bT25 zT25 eqT25 neT25 dT26 sT26 bT26 zT26 eql1T26 eql2T26 neq1T26 neq2T26 dT27 sT27 bT27 zT27 dT28 sT28 bT28 zT28 eqT28 neT28 dT29 sT29 bT29 zT29 eqT29 neT29 dT30 sT30 bT30 dT31 sT31 bT31 dT32 sT32 bT32 dT33 sT33 bT33 zT33 eql1T33 eql2T33 neq1T33 neq2T33 dT34 sT34 bT34 zT34 dT35 sT35 bT35 zT35 dT37 sT37 bT37 zT37 eql1T37 eql2T37 neq1T37 neq2T37 dT38 sT38 bT38 zT38 dT39 sT39 bT39 zT39 dT40 sT40 bT40 zT40 dT41 sT41 bT41 zT41 eqT41 neT41 dT42 sT42 bT42 zT42 eql1T42 eql2T42 neq1T42 neq2T42 dT43 sT43 bT43 zT43 eql1T43 eql2T43 neq1T43 neq2T43 dT44 sT44 bT44 zT44 eql1T44 eql2T44 neq1T44 neq2T44 dT45 sT45 bT45 dT46 sT46 bT46 dT47 sT47 bT47 zT47 eql1T47 eql2T47 neq1T47 neq2T47 dT48 sT48 bT48 zT48 dT49 sT49 bT49 zT49 eqT49 neT49 dT50 sT50 bT50 zT50 eql1T50 eql2T50 neq1T50 neq2T50 dT52 sT52 bT52 zT52 eql1T52 eql2T52 neq1T52 neq2T52 dT53 sT53 bT53 zT53 eql1T53 eql2T53 neq1T53 neq2T53 dT55 sT55 bT55 zT55 eql1T55 eql2T55 neq1T55 neq2T55 dT56 sT56 bT56 zT56 eql1T56 eql2T56 neq1T56 neq2T56 dT57 sT57 bT57 zT57 eql1T57 eql2T57 neq1T57 neq2T57 dT58 sT58 bT58 zT58 eql1T58 eql2T58 neq1T58 neq2T58 dT59 sT59 bT59 zT59 eql1T59 eql2T59 neq1T59 neq2T59 dT60 sT60 bT60 zT60 eql1T60 eql2T60 neq1T60 neq2T60 dT61 sT61 bT61 zT61 eql1T61 eql2T61 neq1T61 neq2T61 dT62 sT62 bT62 zT62 eql1T62 eql2T62 neq1T62 neq2T62 dT63 sT63 bT63 zT63 eql1T63 eql2T63 neq1T63 neq2T63 dT64 sT64 bT64 zT64 eql1T64 eql2T64 neq1T64 neq2T64 dT65 sT65 bT65 zT65 eql1T65 eql2T65 neq1T65 neq2T65 dT66 sT66 bT66 zT66 eql1T66 eql2T66 neq1T66 neq2T66 dT67 sT67 bT67 zT67 eql1T67 eql2T67 neq1T67 neq2T67 dT68 sT68 bT68 zT68 eql1T68 eql2T68 neq1T68 neq2T68 dT69 sT69 bT69 zT69 eql1T69 eql2T69 neq1T69 neq2T69 dT70 sT70 bT70 zT70 eql1T70 eql2T70 neq1T70 neq2T70 dT71 sT71 bT71 zT71 eql1T71 eql2T71 neq1T71 neq2T71 dT77 sT77 bT77 zT77 eql1T77 eql2T77 neq1T77 neq2T77 dT78 sT78 bT78 zT78 dT81 sT81 bT81 zT81 eql1T81 eql2T81 neq1T81 neq2T81 dT82 sT82 bT82 zT82 eql1T82 eql2T82 neq1T82 neq2T82 dT85 sT85 bT85 zT85
end Go.Proofs.Ythjhkckndnhjpaa
