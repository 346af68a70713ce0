/- The types of this translation, as the abstract machine reads them: closed facts. -/
import Derived.Test.YtbjkcjpcnbephaaProg
import Derived.Test.YtbjkcjpcnbephaaAw
namespace Go.Proofs.Ytbjkcjpcnbephaa
open Go.Am
set_option maxRecDepth 100000
theorem hmix : Try.prog.follows .mixedOrders = true := by kernel_rfl
theorem dT1 : dT Try.prog 1 = .other := by kernel_rfl
theorem sT1 : szT Try.prog 1 = 1 := by kernel_rfl
theorem bT1 : byT Try.prog 1 = 8 := by kernel_rfl
theorem zT1 : zT Try.prog 1 = some [.nilf] := by kernel_rfl
theorem eql1T1 {f : Nat} {c : List (Nat × Nat × Nat)}  : abin Try.prog .eql 1 (.c (.f f c)) (.c .nilf) = some (.c (.b false)) := by kernel_rfl
theorem eql2T1 : abin Try.prog .eql 1 (.c .nilf) (.c .nilf) = some (.c (.b true)) := by kernel_rfl
theorem neq1T1 {f : Nat} {c : List (Nat × Nat × Nat)}  : abin Try.prog .neq 1 (.c (.f f c)) (.c .nilf) = some (.c (.b true)) := by kernel_rfl
theorem neq2T1 : abin Try.prog .neq 1 (.c .nilf) (.c .nilf) = some (.c (.b false)) := by kernel_rfl
theorem dT2 : dT Try.prog 2 = .int .i64 := by kernel_rfl
theorem sT2 : szT Try.prog 2 = 1 := by kernel_rfl
theorem bT2 : byT Try.prog 2 = 8 := by kernel_rfl
theorem zT2 : zT Try.prog 2 = some [.i 0] := by kernel_rfl
theorem dT3 : dT Try.prog 3 = .int .i64 := by kernel_rfl
theorem sT3 : szT Try.prog 3 = 1 := by kernel_rfl
theorem bT3 : byT Try.prog 3 = 8 := by kernel_rfl
theorem zT3 : zT Try.prog 3 = some [.i 0] := by kernel_rfl
theorem dT4 : dT Try.prog 4 = .bool := by kernel_rfl
theorem sT4 : szT Try.prog 4 = 1 := by kernel_rfl
theorem bT4 : byT Try.prog 4 = 1 := by kernel_rfl
theorem zT4 : zT Try.prog 4 = some [.b false] := by kernel_rfl
theorem dT5 : dT Try.prog 5 = .int .u8 := by kernel_rfl
theorem sT5 : szT Try.prog 5 = 1 := by kernel_rfl
theorem bT5 : byT Try.prog 5 = 1 := by kernel_rfl
theorem zT5 : zT Try.prog 5 = some [.k .u8 (0)] := by kernel_rfl
theorem dT7 : dT Try.prog 7 = .st [(0, 2), (1, 3), (2, 4), (3, 6)] := by kernel_rfl
theorem sT7 : szT Try.prog 7 = 4 := by kernel_rfl
theorem bT7 : byT Try.prog 7 = 24 := by kernel_rfl
theorem zT7 : zT Try.prog 7 = some [.i 0, .i 0, .b false, .k .u8 (0)] := by kernel_rfl
theorem dT9 : dT Try.prog 9 = .str := by kernel_rfl
theorem sT9 : szT Try.prog 9 = 1 := by kernel_rfl
theorem bT9 : byT Try.prog 9 = 16 := by kernel_rfl
theorem zT9 : zT Try.prog 9 = some [.s ByteArray.empty] := by kernel_rfl
theorem dT12 : dT Try.prog 12 = .int .u64 := by kernel_rfl
theorem sT12 : szT Try.prog 12 = 1 := by kernel_rfl
theorem bT12 : byT Try.prog 12 = 8 := by kernel_rfl
theorem zT12 : zT Try.prog 12 = some [.u 0#64] := by kernel_rfl
theorem dT13 : dT Try.prog 13 = .st [(0, 9), (1, 12)] := by kernel_rfl
theorem sT13 : szT Try.prog 13 = 2 := by kernel_rfl
theorem bT13 : byT Try.prog 13 = 24 := by kernel_rfl
theorem zT13 : zT Try.prog 13 = some [.s ByteArray.empty, .u 0#64] := by kernel_rfl
theorem dT21 : dT Try.prog 21 = .int .i32 := by kernel_rfl
theorem sT21 : szT Try.prog 21 = 1 := by kernel_rfl
theorem bT21 : byT Try.prog 21 = 4 := by kernel_rfl
theorem zT21 : zT Try.prog 21 = some [.k .i32 (0)] := by kernel_rfl
theorem dT22 : dT Try.prog 22 = .sl 5 := by kernel_rfl
theorem sT22 : szT Try.prog 22 = 1 := by kernel_rfl
theorem bT22 : byT Try.prog 22 = 24 := by kernel_rfl
theorem zT22 : zT Try.prog 22 = some [.nils] := by kernel_rfl
theorem eql1T22 {a b c n : Nat}  : abin Try.prog .eql 22 (.c (.sl a b c n)) (.c .nils) = if n = 0 then some (.c .qq) else some (.c (.b false)) := by kernel_rfl
theorem eql2T22 : abin Try.prog .eql 22 (.c .nils) (.c .nils) = some (.c (.b true)) := by kernel_rfl
theorem neq1T22 {a b c n : Nat}  : abin Try.prog .neq 22 (.c (.sl a b c n)) (.c .nils) = if n = 0 then some (.c .qq) else some (.c (.b true)) := by kernel_rfl
theorem neq2T22 : abin Try.prog .neq 22 (.c .nils) (.c .nils) = some (.c (.b false)) := by kernel_rfl
theorem dT23 : dT Try.prog 23 = .other := by kernel_rfl
theorem sT23 : szT Try.prog 23 = 1 := by kernel_rfl
theorem bT23 : byT Try.prog 23 = 8 := by kernel_rfl
theorem zT23 : zT Try.prog 23 = some [.nilf] := by kernel_rfl
theorem eql1T23 {f : Nat} {c : List (Nat × Nat × Nat)}  : abin Try.prog .eql 23 (.c (.f f c)) (.c .nilf) = some (.c (.b false)) := by kernel_rfl
theorem eql2T23 : abin Try.prog .eql 23 (.c .nilf) (.c .nilf) = some (.c (.b true)) := by kernel_rfl
theorem neq1T23 {f : Nat} {c : List (Nat × Nat × Nat)}  : abin Try.prog .neq 23 (.c (.f f c)) (.c .nilf) = some (.c (.b true)) := by kernel_rfl
theorem neq2T23 : abin Try.prog .neq 23 (.c .nilf) (.c .nilf) = some (.c (.b false)) := by kernel_rfl
theorem dT24 : dT Try.prog 24 = .ptr 47 := by kernel_rfl
theorem sT24 : szT Try.prog 24 = 1 := by kernel_rfl
theorem bT24 : byT Try.prog 24 = 8 := by kernel_rfl
theorem zT24 : zT Try.prog 24 = some [.nilp] := by kernel_rfl
theorem eql1T24 {a b c : Nat}  : abin Try.prog .eql 24 (.c (.p a b c)) (.c .nilp) = some (.c (.b false)) := by kernel_rfl
theorem eql2T24 : abin Try.prog .eql 24 (.c .nilp) (.c .nilp) = some (.c (.b true)) := by kernel_rfl
theorem neq1T24 {a b c : Nat}  : abin Try.prog .neq 24 (.c (.p a b c)) (.c .nilp) = some (.c (.b true)) := by kernel_rfl
theorem neq2T24 : abin Try.prog .neq 24 (.c .nilp) (.c .nilp) = some (.c (.b false)) := by kernel_rfl
theorem dT25 : dT Try.prog 25 = .other := by kernel_rfl
theorem sT25 : szT Try.prog 25 = 1 := by kernel_rfl
theorem bT25 : byT Try.prog 25 = 8 := by kernel_rfl
theorem zT25 : zT Try.prog 25 = some [.nilf] := by kernel_rfl
theorem eql1T25 {f : Nat} {c : List (Nat × Nat × Nat)}  : abin Try.prog .eql 25 (.c (.f f c)) (.c .nilf) = some (.c (.b false)) := by kernel_rfl
theorem eql2T25 : abin Try.prog .eql 25 (.c .nilf) (.c .nilf) = some (.c (.b true)) := by kernel_rfl
theorem neq1T25 {f : Nat} {c : List (Nat × Nat × Nat)}  : abin Try.prog .neq 25 (.c (.f f c)) (.c .nilf) = some (.c (.b true)) := by kernel_rfl
theorem neq2T25 : abin Try.prog .neq 25 (.c .nilf) (.c .nilf) = some (.c (.b false)) := by kernel_rfl
theorem dT26 : dT Try.prog 26 = .other := by kernel_rfl
theorem sT26 : szT Try.prog 26 = 1 := by kernel_rfl
theorem bT26 : byT Try.prog 26 = 8 := by kernel_rfl
theorem zT26 : zT Try.prog 26 = some [.nilf] := by kernel_rfl
theorem eql1T26 {f : Nat} {c : List (Nat × Nat × Nat)}  : abin Try.prog .eql 26 (.c (.f f c)) (.c .nilf) = some (.c (.b false)) := by kernel_rfl
theorem eql2T26 : abin Try.prog .eql 26 (.c .nilf) (.c .nilf) = some (.c (.b true)) := by kernel_rfl
theorem neq1T26 {f : Nat} {c : List (Nat × Nat × Nat)}  : abin Try.prog .neq 26 (.c (.f f c)) (.c .nilf) = some (.c (.b true)) := by kernel_rfl
theorem neq2T26 : abin Try.prog .neq 26 (.c .nilf) (.c .nilf) = some (.c (.b false)) := by kernel_rfl
theorem dT27 : dT Try.prog 27 = .int .u64 := by kernel_rfl
theorem sT27 : szT Try.prog 27 = 1 := by kernel_rfl
theorem bT27 : byT Try.prog 27 = 8 := by kernel_rfl
theorem zT27 : zT Try.prog 27 = some [.u 0#64] := by kernel_rfl
theorem dT28 : dT Try.prog 28 = .other := by kernel_rfl
theorem sT28 : szT Try.prog 28 = 1 := by kernel_rfl
theorem bT28 : byT Try.prog 28 = 8 := by kernel_rfl
theorem zT28 : zT Try.prog 28 = some [.nilf] := by kernel_rfl
theorem eql1T28 {f : Nat} {c : List (Nat × Nat × Nat)}  : abin Try.prog .eql 28 (.c (.f f c)) (.c .nilf) = some (.c (.b false)) := by kernel_rfl
theorem eql2T28 : abin Try.prog .eql 28 (.c .nilf) (.c .nilf) = some (.c (.b true)) := by kernel_rfl
theorem neq1T28 {f : Nat} {c : List (Nat × Nat × Nat)}  : abin Try.prog .neq 28 (.c (.f f c)) (.c .nilf) = some (.c (.b true)) := by kernel_rfl
theorem neq2T28 : abin Try.prog .neq 28 (.c .nilf) (.c .nilf) = some (.c (.b false)) := by kernel_rfl
theorem dT30 : dT Try.prog 30 = .other := by kernel_rfl
theorem sT30 : szT Try.prog 30 = 1 := by kernel_rfl
theorem bT30 : byT Try.prog 30 = 8 := by kernel_rfl
theorem zT30 : zT Try.prog 30 = some [.nilf] := by kernel_rfl
theorem eql1T30 {f : Nat} {c : List (Nat × Nat × Nat)}  : abin Try.prog .eql 30 (.c (.f f c)) (.c .nilf) = some (.c (.b false)) := by kernel_rfl
theorem eql2T30 : abin Try.prog .eql 30 (.c .nilf) (.c .nilf) = some (.c (.b true)) := by kernel_rfl
theorem neq1T30 {f : Nat} {c : List (Nat × Nat × Nat)}  : abin Try.prog .neq 30 (.c (.f f c)) (.c .nilf) = some (.c (.b true)) := by kernel_rfl
theorem neq2T30 : abin Try.prog .neq 30 (.c .nilf) (.c .nilf) = some (.c (.b false)) := by kernel_rfl
theorem dT31 : dT Try.prog 31 = .other := by kernel_rfl
theorem sT31 : szT Try.prog 31 = 1 := by kernel_rfl
theorem bT31 : byT Try.prog 31 = 8 := by kernel_rfl
theorem zT31 : zT Try.prog 31 = some [.nilf] := by kernel_rfl
theorem eql1T31 {f : Nat} {c : List (Nat × Nat × Nat)}  : abin Try.prog .eql 31 (.c (.f f c)) (.c .nilf) = some (.c (.b false)) := by kernel_rfl
theorem eql2T31 : abin Try.prog .eql 31 (.c .nilf) (.c .nilf) = some (.c (.b true)) := by kernel_rfl
theorem neq1T31 {f : Nat} {c : List (Nat × Nat × Nat)}  : abin Try.prog .neq 31 (.c (.f f c)) (.c .nilf) = some (.c (.b true)) := by kernel_rfl
theorem neq2T31 : abin Try.prog .neq 31 (.c .nilf) (.c .nilf) = some (.c (.b false)) := by kernel_rfl
theorem dT32 : dT Try.prog 32 = .other := by kernel_rfl
theorem sT32 : szT Try.prog 32 = 1 := by kernel_rfl
theorem bT32 : byT Try.prog 32 = 8 := by kernel_rfl
theorem zT32 : zT Try.prog 32 = some [.nilf] := by kernel_rfl
theorem eql1T32 {f : Nat} {c : List (Nat × Nat × Nat)}  : abin Try.prog .eql 32 (.c (.f f c)) (.c .nilf) = some (.c (.b false)) := by kernel_rfl
theorem eql2T32 : abin Try.prog .eql 32 (.c .nilf) (.c .nilf) = some (.c (.b true)) := by kernel_rfl
theorem neq1T32 {f : Nat} {c : List (Nat × Nat × Nat)}  : abin Try.prog .neq 32 (.c (.f f c)) (.c .nilf) = some (.c (.b true)) := by kernel_rfl
theorem neq2T32 : abin Try.prog .neq 32 (.c .nilf) (.c .nilf) = some (.c (.b false)) := by kernel_rfl
theorem dT33 : dT Try.prog 33 = .other := by kernel_rfl
theorem sT33 : szT Try.prog 33 = 1 := by kernel_rfl
theorem bT33 : byT Try.prog 33 = 8 := by kernel_rfl
theorem zT33 : zT Try.prog 33 = some [.nilf] := by kernel_rfl
theorem eql1T33 {f : Nat} {c : List (Nat × Nat × Nat)}  : abin Try.prog .eql 33 (.c (.f f c)) (.c .nilf) = some (.c (.b false)) := by kernel_rfl
theorem eql2T33 : abin Try.prog .eql 33 (.c .nilf) (.c .nilf) = some (.c (.b true)) := by kernel_rfl
theorem neq1T33 {f : Nat} {c : List (Nat × Nat × Nat)}  : abin Try.prog .neq 33 (.c (.f f c)) (.c .nilf) = some (.c (.b true)) := by kernel_rfl
theorem neq2T33 : abin Try.prog .neq 33 (.c .nilf) (.c .nilf) = some (.c (.b false)) := by kernel_rfl
theorem dT34 : dT Try.prog 34 = .sl 36 := by kernel_rfl
theorem sT34 : szT Try.prog 34 = 1 := by kernel_rfl
theorem bT34 : byT Try.prog 34 = 24 := by kernel_rfl
theorem zT34 : zT Try.prog 34 = some [.nils] := by kernel_rfl
theorem eql1T34 {a b c n : Nat}  : abin Try.prog .eql 34 (.c (.sl a b c n)) (.c .nils) = if n = 0 then some (.c .qq) else some (.c (.b false)) := by kernel_rfl
theorem eql2T34 : abin Try.prog .eql 34 (.c .nils) (.c .nils) = some (.c (.b true)) := by kernel_rfl
theorem neq1T34 {a b c n : Nat}  : abin Try.prog .neq 34 (.c (.sl a b c n)) (.c .nils) = if n = 0 then some (.c .qq) else some (.c (.b true)) := by kernel_rfl
theorem neq2T34 : abin Try.prog .neq 34 (.c .nils) (.c .nils) = some (.c (.b false)) := by kernel_rfl
theorem dT35 : dT Try.prog 35 = .st [(0, 3), (1, 27), (2, 5)] := by kernel_rfl
theorem sT35 : szT Try.prog 35 = 3 := by kernel_rfl
theorem bT35 : byT Try.prog 35 = 24 := by kernel_rfl
theorem zT35 : zT Try.prog 35 = some [.i 0, .u 0#64, .k .u8 (0)] := by kernel_rfl
theorem dT36 : dT Try.prog 36 = .st [(0, 3), (1, 27), (2, 5)] := by kernel_rfl
theorem sT36 : szT Try.prog 36 = 3 := by kernel_rfl
theorem bT36 : byT Try.prog 36 = 24 := by kernel_rfl
theorem zT36 : zT Try.prog 36 = some [.i 0, .u 0#64, .k .u8 (0)] := by kernel_rfl
theorem gT36 : tagsT Try.prog 12 36 = some [.n, .n, .n] := by kernel_rfl
theorem eqT36 {a b : List Sc} : abin Try.prog .eql 36 (.g a) (.g b) = (csEq [.n, .n, .n] a b).bind (eqU .eql) := ab_g_eql _ (by simp only [dT36, D.agg]) gT36
theorem neT36 {a b : List Sc} : abin Try.prog .neq 36 (.g a) (.g b) = (csEq [.n, .n, .n] a b).bind (eqU .neq) := ab_g_neq _ (by simp only [dT36, D.agg]) gT36
theorem dT37 : dT Try.prog 37 = .arr 2 36 := by kernel_rfl
theorem sT37 : szT Try.prog 37 = 6 := by kernel_rfl
theorem bT37 : byT Try.prog 37 = 48 := by kernel_rfl
theorem zT37 : zT Try.prog 37 = some [.i 0, .u 0#64, .k .u8 (0), .i 0, .u 0#64, .k .u8 (0)] := by kernel_rfl
theorem gT37 : tagsT Try.prog 12 37 = some [.n, .n, .n, .n, .n, .n] := by kernel_rfl
theorem eqT37 {a b : List Sc} : abin Try.prog .eql 37 (.g a) (.g b) = (csEq [.n, .n, .n, .n, .n, .n] a b).bind (eqU .eql) := ab_g_eql _ (by simp only [dT37, D.agg]) gT37
theorem neT37 {a b : List Sc} : abin Try.prog .neq 37 (.g a) (.g b) = (csEq [.n, .n, .n, .n, .n, .n] a b).bind (eqU .neq) := ab_g_neq _ (by simp only [dT37, D.agg]) gT37
theorem dT38 : dT Try.prog 38 = .st [(0, 3), (1, 3), (2, 3), (3, 3), (4, 3), (5, 3), (6, 4), (7, 4), (8, 4), (9, 22), (10, 22)] := by kernel_rfl
theorem sT38 : szT Try.prog 38 = 11 := by kernel_rfl
theorem bT38 : byT Try.prog 38 = 104 := by kernel_rfl
theorem zT38 : zT Try.prog 38 = some [.i 0, .i 0, .i 0, .i 0, .i 0, .i 0, .b false, .b false, .b false, .nils, .nils] := by kernel_rfl
theorem dT39 : dT Try.prog 39 = .st [(0, 3), (1, 3), (2, 3), (3, 3), (4, 3), (5, 3), (6, 4), (7, 4), (8, 4), (9, 22), (10, 22)] := by kernel_rfl
theorem sT39 : szT Try.prog 39 = 11 := by kernel_rfl
theorem bT39 : byT Try.prog 39 = 104 := by kernel_rfl
theorem zT39 : zT Try.prog 39 = some [.i 0, .i 0, .i 0, .i 0, .i 0, .i 0, .b false, .b false, .b false, .nils, .nils] := by kernel_rfl
theorem dT40 : dT Try.prog 40 = .other := by kernel_rfl
theorem sT40 : szT Try.prog 40 = 1 := by kernel_rfl
theorem bT40 : byT Try.prog 40 = 8 := by kernel_rfl
theorem zT40 : zT Try.prog 40 = some [.nilf] := by kernel_rfl
theorem eql1T40 {f : Nat} {c : List (Nat × Nat × Nat)}  : abin Try.prog .eql 40 (.c (.f f c)) (.c .nilf) = some (.c (.b false)) := by kernel_rfl
theorem eql2T40 : abin Try.prog .eql 40 (.c .nilf) (.c .nilf) = some (.c (.b true)) := by kernel_rfl
theorem neq1T40 {f : Nat} {c : List (Nat × Nat × Nat)}  : abin Try.prog .neq 40 (.c (.f f c)) (.c .nilf) = some (.c (.b true)) := by kernel_rfl
theorem neq2T40 : abin Try.prog .neq 40 (.c .nilf) (.c .nilf) = some (.c (.b false)) := by kernel_rfl
theorem dT42 : dT Try.prog 42 = .other := by kernel_rfl
theorem sT42 : szT Try.prog 42 = 1 := by kernel_rfl
theorem bT42 : byT Try.prog 42 = 8 := by kernel_rfl
theorem zT42 : zT Try.prog 42 = some [.nilf] := by kernel_rfl
theorem eql1T42 {f : Nat} {c : List (Nat × Nat × Nat)}  : abin Try.prog .eql 42 (.c (.f f c)) (.c .nilf) = some (.c (.b false)) := by kernel_rfl
theorem eql2T42 : abin Try.prog .eql 42 (.c .nilf) (.c .nilf) = some (.c (.b true)) := by kernel_rfl
theorem neq1T42 {f : Nat} {c : List (Nat × Nat × Nat)}  : abin Try.prog .neq 42 (.c (.f f c)) (.c .nilf) = some (.c (.b true)) := by kernel_rfl
theorem neq2T42 : abin Try.prog .neq 42 (.c .nilf) (.c .nilf) = some (.c (.b false)) := by kernel_rfl
theorem dT43 : dT Try.prog 43 = .other := by kernel_rfl
theorem sT43 : szT Try.prog 43 = 1 := by kernel_rfl
theorem bT43 : byT Try.prog 43 = 8 := by kernel_rfl
theorem zT43 : zT Try.prog 43 = some [.nilf] := by kernel_rfl
theorem eql1T43 {f : Nat} {c : List (Nat × Nat × Nat)}  : abin Try.prog .eql 43 (.c (.f f c)) (.c .nilf) = some (.c (.b false)) := by kernel_rfl
theorem eql2T43 : abin Try.prog .eql 43 (.c .nilf) (.c .nilf) = some (.c (.b true)) := by kernel_rfl
theorem neq1T43 {f : Nat} {c : List (Nat × Nat × Nat)}  : abin Try.prog .neq 43 (.c (.f f c)) (.c .nilf) = some (.c (.b true)) := by kernel_rfl
theorem neq2T43 : abin Try.prog .neq 43 (.c .nilf) (.c .nilf) = some (.c (.b false)) := by kernel_rfl
theorem dT44 : dT Try.prog 44 = .other := by kernel_rfl
theorem sT44 : szT Try.prog 44 = 1 := by kernel_rfl
theorem bT44 : byT Try.prog 44 = 8 := by kernel_rfl
theorem zT44 : zT Try.prog 44 = some [.nilf] := by kernel_rfl
theorem eql1T44 {f : Nat} {c : List (Nat × Nat × Nat)}  : abin Try.prog .eql 44 (.c (.f f c)) (.c .nilf) = some (.c (.b false)) := by kernel_rfl
theorem eql2T44 : abin Try.prog .eql 44 (.c .nilf) (.c .nilf) = some (.c (.b true)) := by kernel_rfl
theorem neq1T44 {f : Nat} {c : List (Nat × Nat × Nat)}  : abin Try.prog .neq 44 (.c (.f f c)) (.c .nilf) = some (.c (.b true)) := by kernel_rfl
theorem neq2T44 : abin Try.prog .neq 44 (.c .nilf) (.c .nilf) = some (.c (.b false)) := by kernel_rfl
theorem dT45 : dT Try.prog 45 = .other := by kernel_rfl
theorem sT45 : szT Try.prog 45 = 1 := by kernel_rfl
theorem bT45 : byT Try.prog 45 = 8 := by kernel_rfl
theorem zT45 : zT Try.prog 45 = some [.nilf] := by kernel_rfl
theorem eql1T45 {f : Nat} {c : List (Nat × Nat × Nat)}  : abin Try.prog .eql 45 (.c (.f f c)) (.c .nilf) = some (.c (.b false)) := by kernel_rfl
theorem eql2T45 : abin Try.prog .eql 45 (.c .nilf) (.c .nilf) = some (.c (.b true)) := by kernel_rfl
theorem neq1T45 {f : Nat} {c : List (Nat × Nat × Nat)}  : abin Try.prog .neq 45 (.c (.f f c)) (.c .nilf) = some (.c (.b true)) := by kernel_rfl
theorem neq2T45 : abin Try.prog .neq 45 (.c .nilf) (.c .nilf) = some (.c (.b false)) := by kernel_rfl
theorem dT46 : dT Try.prog 46 = .st [(0, 5), (1, 5), (2, 5), (3, 5), (4, 5), (5, 5), (6, 4), (7, 4), (8, 4), (9, 22), (10, 22)] := by kernel_rfl
theorem sT46 : szT Try.prog 46 = 11 := by kernel_rfl
theorem bT46 : byT Try.prog 46 = 64 := by kernel_rfl
theorem zT46 : zT Try.prog 46 = some [.k .u8 (0), .k .u8 (0), .k .u8 (0), .k .u8 (0), .k .u8 (0), .k .u8 (0), .b false, .b false, .b false, .nils, .nils] := by kernel_rfl
theorem dT47 : dT Try.prog 47 = .st [(0, 5), (1, 5), (2, 5), (3, 5), (4, 5), (5, 5), (6, 4), (7, 4), (8, 4), (9, 22), (10, 22)] := by kernel_rfl
theorem sT47 : szT Try.prog 47 = 11 := by kernel_rfl
theorem bT47 : byT Try.prog 47 = 64 := by kernel_rfl
theorem zT47 : zT Try.prog 47 = some [.k .u8 (0), .k .u8 (0), .k .u8 (0), .k .u8 (0), .k .u8 (0), .k .u8 (0), .b false, .b false, .b false, .nils, .nils] := by kernel_rfl
theorem dT48 : dT Try.prog 48 = .other := by kernel_rfl
theorem sT48 : szT Try.prog 48 = 1 := by kernel_rfl
theorem bT48 : byT Try.prog 48 = 8 := by kernel_rfl
theorem zT48 : zT Try.prog 48 = some [.nilf] := by kernel_rfl
theorem eql1T48 {f : Nat} {c : List (Nat × Nat × Nat)}  : abin Try.prog .eql 48 (.c (.f f c)) (.c .nilf) = some (.c (.b false)) := by kernel_rfl
theorem eql2T48 : abin Try.prog .eql 48 (.c .nilf) (.c .nilf) = some (.c (.b true)) := by kernel_rfl
theorem neq1T48 {f : Nat} {c : List (Nat × Nat × Nat)}  : abin Try.prog .neq 48 (.c (.f f c)) (.c .nilf) = some (.c (.b true)) := by kernel_rfl
theorem neq2T48 : abin Try.prog .neq 48 (.c .nilf) (.c .nilf) = some (.c (.b false)) := by kernel_rfl
theorem dT49 : dT Try.prog 49 = .other := by kernel_rfl
theorem sT49 : szT Try.prog 49 = 1 := by kernel_rfl
theorem bT49 : byT Try.prog 49 = 8 := by kernel_rfl
theorem zT49 : zT Try.prog 49 = some [.nilf] := by kernel_rfl
theorem eql1T49 {f : Nat} {c : List (Nat × Nat × Nat)}  : abin Try.prog .eql 49 (.c (.f f c)) (.c .nilf) = some (.c (.b false)) := by kernel_rfl
theorem eql2T49 : abin Try.prog .eql 49 (.c .nilf) (.c .nilf) = some (.c (.b true)) := by kernel_rfl
theorem neq1T49 {f : Nat} {c : List (Nat × Nat × Nat)}  : abin Try.prog .neq 49 (.c (.f f c)) (.c .nilf) = some (.c (.b true)) := by kernel_rfl
theorem neq2T49 : abin Try.prog .neq 49 (.c .nilf) (.c .nilf) = some (.c (.b false)) := by kernel_rfl
theorem dT50 : dT Try.prog 50 = .other := by kernel_rfl
theorem sT50 : szT Try.prog 50 = 1 := by kernel_rfl
theorem bT50 : byT Try.prog 50 = 8 := by kernel_rfl
theorem zT50 : zT Try.prog 50 = some [.nilf] := by kernel_rfl
theorem eql1T50 {f : Nat} {c : List (Nat × Nat × Nat)}  : abin Try.prog .eql 50 (.c (.f f c)) (.c .nilf) = some (.c (.b false)) := by kernel_rfl
theorem eql2T50 : abin Try.prog .eql 50 (.c .nilf) (.c .nilf) = some (.c (.b true)) := by kernel_rfl
theorem neq1T50 {f : Nat} {c : List (Nat × Nat × Nat)}  : abin Try.prog .neq 50 (.c (.f f c)) (.c .nilf) = some (.c (.b true)) := by kernel_rfl
theorem neq2T50 : abin Try.prog .neq 50 (.c .nilf) (.c .nilf) = some (.c (.b false)) := by kernel_rfl
theorem dT51 : dT Try.prog 51 = .arr 9 5 := by kernel_rfl
theorem sT51 : szT Try.prog 51 = 9 := by kernel_rfl
theorem bT51 : byT Try.prog 51 = 9 := by kernel_rfl
theorem zT51 : zT Try.prog 51 = some [.k .u8 (0), .k .u8 (0), .k .u8 (0), .k .u8 (0), .k .u8 (0), .k .u8 (0), .k .u8 (0), .k .u8 (0), .k .u8 (0)] := by kernel_rfl
theorem gT51 : tagsT Try.prog 12 51 = some [.n, .n, .n, .n, .n, .n, .n, .n, .n] := by kernel_rfl
theorem eqT51 {a b : List Sc} : abin Try.prog .eql 51 (.g a) (.g b) = (csEq [.n, .n, .n, .n, .n, .n, .n, .n, .n] a b).bind (eqU .eql) := ab_g_eql _ (by simp only [dT51, D.agg]) gT51
theorem neT51 {a b : List Sc} : abin Try.prog .neq 51 (.g a) (.g b) = (csEq [.n, .n, .n, .n, .n, .n, .n, .n, .n] a b).bind (eqU .neq) := ab_g_neq _ (by simp only [dT51, D.agg]) gT51
theorem dT52 : dT Try.prog 52 = .other := by kernel_rfl
theorem sT52 : szT Try.prog 52 = 1 := by kernel_rfl
theorem bT52 : byT Try.prog 52 = 8 := by kernel_rfl
theorem zT52 : zT Try.prog 52 = some [.nilf] := by kernel_rfl
theorem eql1T52 {f : Nat} {c : List (Nat × Nat × Nat)}  : abin Try.prog .eql 52 (.c (.f f c)) (.c .nilf) = some (.c (.b false)) := by kernel_rfl
theorem eql2T52 : abin Try.prog .eql 52 (.c .nilf) (.c .nilf) = some (.c (.b true)) := by kernel_rfl
theorem neq1T52 {f : Nat} {c : List (Nat × Nat × Nat)}  : abin Try.prog .neq 52 (.c (.f f c)) (.c .nilf) = some (.c (.b true)) := by kernel_rfl
theorem neq2T52 : abin Try.prog .neq 52 (.c .nilf) (.c .nilf) = some (.c (.b false)) := by kernel_rfl
theorem dT54 : dT Try.prog 54 = .other := by kernel_rfl
theorem sT54 : szT Try.prog 54 = 1 := by kernel_rfl
theorem bT54 : byT Try.prog 54 = 8 := by kernel_rfl
theorem zT54 : zT Try.prog 54 = some [.nilf] := by kernel_rfl
theorem eql1T54 {f : Nat} {c : List (Nat × Nat × Nat)}  : abin Try.prog .eql 54 (.c (.f f c)) (.c .nilf) = some (.c (.b false)) := by kernel_rfl
theorem eql2T54 : abin Try.prog .eql 54 (.c .nilf) (.c .nilf) = some (.c (.b true)) := by kernel_rfl
theorem neq1T54 {f : Nat} {c : List (Nat × Nat × Nat)}  : abin Try.prog .neq 54 (.c (.f f c)) (.c .nilf) = some (.c (.b true)) := by kernel_rfl
theorem neq2T54 : abin Try.prog .neq 54 (.c .nilf) (.c .nilf) = some (.c (.b false)) := by kernel_rfl
theorem dT55 : dT Try.prog 55 = .other := by kernel_rfl
theorem sT55 : szT Try.prog 55 = 1 := by kernel_rfl
theorem bT55 : byT Try.prog 55 = 8 := by kernel_rfl
theorem zT55 : zT Try.prog 55 = some [.nilf] := by kernel_rfl
theorem eql1T55 {f : Nat} {c : List (Nat × Nat × Nat)}  : abin Try.prog .eql 55 (.c (.f f c)) (.c .nilf) = some (.c (.b false)) := by kernel_rfl
theorem eql2T55 : abin Try.prog .eql 55 (.c .nilf) (.c .nilf) = some (.c (.b true)) := by kernel_rfl
theorem neq1T55 {f : Nat} {c : List (Nat × Nat × Nat)}  : abin Try.prog .neq 55 (.c (.f f c)) (.c .nilf) = some (.c (.b true)) := by kernel_rfl
theorem neq2T55 : abin Try.prog .neq 55 (.c .nilf) (.c .nilf) = some (.c (.b false)) := by kernel_rfl
theorem dT56 : dT Try.prog 56 = .other := by kernel_rfl
theorem sT56 : szT Try.prog 56 = 1 := by kernel_rfl
theorem bT56 : byT Try.prog 56 = 8 := by kernel_rfl
theorem zT56 : zT Try.prog 56 = some [.nilf] := by kernel_rfl
theorem eql1T56 {f : Nat} {c : List (Nat × Nat × Nat)}  : abin Try.prog .eql 56 (.c (.f f c)) (.c .nilf) = some (.c (.b false)) := by kernel_rfl
theorem eql2T56 : abin Try.prog .eql 56 (.c .nilf) (.c .nilf) = some (.c (.b true)) := by kernel_rfl
theorem neq1T56 {f : Nat} {c : List (Nat × Nat × Nat)}  : abin Try.prog .neq 56 (.c (.f f c)) (.c .nilf) = some (.c (.b true)) := by kernel_rfl
theorem neq2T56 : abin Try.prog .neq 56 (.c .nilf) (.c .nilf) = some (.c (.b false)) := by kernel_rfl
theorem dT57 : dT Try.prog 57 = .other := by kernel_rfl
theorem sT57 : szT Try.prog 57 = 1 := by kernel_rfl
theorem bT57 : byT Try.prog 57 = 8 := by kernel_rfl
theorem zT57 : zT Try.prog 57 = some [.nilf] := by kernel_rfl
theorem eql1T57 {f : Nat} {c : List (Nat × Nat × Nat)}  : abin Try.prog .eql 57 (.c (.f f c)) (.c .nilf) = some (.c (.b false)) := by kernel_rfl
theorem eql2T57 : abin Try.prog .eql 57 (.c .nilf) (.c .nilf) = some (.c (.b true)) := by kernel_rfl
theorem neq1T57 {f : Nat} {c : List (Nat × Nat × Nat)}  : abin Try.prog .neq 57 (.c (.f f c)) (.c .nilf) = some (.c (.b true)) := by kernel_rfl
theorem neq2T57 : abin Try.prog .neq 57 (.c .nilf) (.c .nilf) = some (.c (.b false)) := by kernel_rfl
theorem dT58 : dT Try.prog 58 = .other := by kernel_rfl
theorem sT58 : szT Try.prog 58 = 1 := by kernel_rfl
theorem bT58 : byT Try.prog 58 = 8 := by kernel_rfl
theorem zT58 : zT Try.prog 58 = some [.nilf] := by kernel_rfl
theorem eql1T58 {f : Nat} {c : List (Nat × Nat × Nat)}  : abin Try.prog .eql 58 (.c (.f f c)) (.c .nilf) = some (.c (.b false)) := by kernel_rfl
theorem eql2T58 : abin Try.prog .eql 58 (.c .nilf) (.c .nilf) = some (.c (.b true)) := by kernel_rfl
theorem neq1T58 {f : Nat} {c : List (Nat × Nat × Nat)}  : abin Try.prog .neq 58 (.c (.f f c)) (.c .nilf) = some (.c (.b true)) := by kernel_rfl
theorem neq2T58 : abin Try.prog .neq 58 (.c .nilf) (.c .nilf) = some (.c (.b false)) := by kernel_rfl
theorem dT59 : dT Try.prog 59 = .int .u64 := by kernel_rfl
theorem sT59 : szT Try.prog 59 = 1 := by kernel_rfl
theorem bT59 : byT Try.prog 59 = 8 := by kernel_rfl
theorem zT59 : zT Try.prog 59 = some [.u 0#64] := by kernel_rfl
theorem dT60 : dT Try.prog 60 = .arr 3 4 := by kernel_rfl
theorem sT60 : szT Try.prog 60 = 3 := by kernel_rfl
theorem bT60 : byT Try.prog 60 = 3 := by kernel_rfl
theorem zT60 : zT Try.prog 60 = some [.b false, .b false, .b false] := by kernel_rfl
theorem gT60 : tagsT Try.prog 12 60 = some [.q, .q, .q] := by kernel_rfl
theorem eqT60 {a b : List Sc} : abin Try.prog .eql 60 (.g a) (.g b) = (csEq [.q, .q, .q] a b).bind (eqU .eql) := ab_g_eql _ (by simp only [dT60, D.agg]) gT60
theorem neT60 {a b : List Sc} : abin Try.prog .neq 60 (.g a) (.g b) = (csEq [.q, .q, .q] a b).bind (eqU .neq) := ab_g_neq _ (by simp only [dT60, D.agg]) gT60
theorem dT61 : dT Try.prog 61 = .other := by kernel_rfl
theorem sT61 : szT Try.prog 61 = 1 := by kernel_rfl
theorem bT61 : byT Try.prog 61 = 8 := by kernel_rfl
theorem zT61 : zT Try.prog 61 = some [.nilf] := by kernel_rfl
theorem eql1T61 {f : Nat} {c : List (Nat × Nat × Nat)}  : abin Try.prog .eql 61 (.c (.f f c)) (.c .nilf) = some (.c (.b false)) := by kernel_rfl
theorem eql2T61 : abin Try.prog .eql 61 (.c .nilf) (.c .nilf) = some (.c (.b true)) := by kernel_rfl
theorem neq1T61 {f : Nat} {c : List (Nat × Nat × Nat)}  : abin Try.prog .neq 61 (.c (.f f c)) (.c .nilf) = some (.c (.b true)) := by kernel_rfl
theorem neq2T61 : abin Try.prog .neq 61 (.c .nilf) (.c .nilf) = some (.c (.b false)) := by kernel_rfl
theorem dT62 : dT Try.prog 62 = .other := by kernel_rfl
theorem sT62 : szT Try.prog 62 = 1 := by kernel_rfl
theorem bT62 : byT Try.prog 62 = 8 := by kernel_rfl
theorem zT62 : zT Try.prog 62 = some [.nilf] := by kernel_rfl
theorem eql1T62 {f : Nat} {c : List (Nat × Nat × Nat)}  : abin Try.prog .eql 62 (.c (.f f c)) (.c .nilf) = some (.c (.b false)) := by kernel_rfl
theorem eql2T62 : abin Try.prog .eql 62 (.c .nilf) (.c .nilf) = some (.c (.b true)) := by kernel_rfl
theorem neq1T62 {f : Nat} {c : List (Nat × Nat × Nat)}  : abin Try.prog .neq 62 (.c (.f f c)) (.c .nilf) = some (.c (.b true)) := by kernel_rfl
theorem neq2T62 : abin Try.prog .neq 62 (.c .nilf) (.c .nilf) = some (.c (.b false)) := by kernel_rfl
theorem dT68 : dT Try.prog 68 = .int .u32 := by kernel_rfl
theorem sT68 : szT Try.prog 68 = 1 := by kernel_rfl
theorem bT68 : byT Try.prog 68 = 4 := by kernel_rfl
theorem zT68 : zT Try.prog 68 = some [.k .u32 (0)] := by kernel_rfl
theorem dT71 : dT Try.prog 71 = .other := by kernel_rfl
theorem sT71 : szT Try.prog 71 = 1 := by kernel_rfl
theorem bT71 : byT Try.prog 71 = 8 := by kernel_rfl
theorem zT71 : zT Try.prog 71 = some [.nilf] := by kernel_rfl
theorem eql1T71 {f : Nat} {c : List (Nat × Nat × Nat)}  : abin Try.prog .eql 71 (.c (.f f c)) (.c .nilf) = some (.c (.b false)) := by kernel_rfl
theorem eql2T71 : abin Try.prog .eql 71 (.c .nilf) (.c .nilf) = some (.c (.b true)) := by kernel_rfl
theorem neq1T71 {f : Nat} {c : List (Nat × Nat × Nat)}  : abin Try.prog .neq 71 (.c (.f f c)) (.c .nilf) = some (.c (.b true)) := by kernel_rfl
theorem neq2T71 : abin Try.prog .neq 71 (.c .nilf) (.c .nilf) = some (.c (.b false)) := by kernel_rfl
theorem dT72 : dT Try.prog 72 = .ptr 5 := by kernel_rfl
theorem sT72 : szT Try.prog 72 = 1 := by kernel_rfl
theorem bT72 : byT Try.prog 72 = 8 := by kernel_rfl
theorem zT72 : zT Try.prog 72 = some [.nilp] := by kernel_rfl
theorem eql1T72 {a b c : Nat}  : abin Try.prog .eql 72 (.c (.p a b c)) (.c .nilp) = some (.c (.b false)) := by kernel_rfl
theorem eql2T72 : abin Try.prog .eql 72 (.c .nilp) (.c .nilp) = some (.c (.b true)) := by kernel_rfl
theorem neq1T72 {a b c : Nat}  : abin Try.prog .neq 72 (.c (.p a b c)) (.c .nilp) = some (.c (.b true)) := by kernel_rfl
theorem neq2T72 : abin Try.prog .neq 72 (.c .nilp) (.c .nilp) = some (.c (.b false)) := by kernel_rfl
theorem dT75 : dT Try.prog 75 = .st [(0, 12), (1, 12), (2, 68), (3, 69), (4, 5), (5, 5), (6, 70), (7, 71), (8, 72), (9, 73), (10, 74)] := by kernel_rfl
theorem sT75 : szT Try.prog 75 = 11 := by kernel_rfl
theorem bT75 : byT Try.prog 75 = 48 := by kernel_rfl
theorem zT75 : zT Try.prog 75 = some [.u 0#64, .u 0#64, .k .u32 (0), .k .u8 (0), .k .u8 (0), .k .u8 (0), .k .u8 (0), .nilf, .nilp, .k .i32 (0), .k .i32 (0)] := by kernel_rfl
attribute [go_sem] dT1 sT1 bT1 zT1 eql1T1 eql2T1 neq1T1 neq2T1 dT2 sT2 bT2 zT2 dT3 sT3 bT3 zT3 dT4 sT4 bT4 zT4 dT5 sT5 bT5 zT5 dT7 sT7 bT7 zT7 dT9 sT9 bT9 zT9 dT12 sT12 bT12 zT12 dT13 sT13 bT13 zT13 dT21 sT21 bT21 zT21 dT22 sT22 bT22 zT22 eql1T22 eql2T22 neq1T22 neq2T22 dT23 sT23 bT23 zT23 eql1T23 eql2T23 neq1T23 neq2T23 dT24 sT24 bT24 zT24 eql1T24 eql2T24 neq1T24 neq2T24 dT25 sT25 bT25 zT25 eql1T25 eql2T25 neq1T25 neq2T25 dT26 sT26 bT26 zT26 eql1T26 eql2T26 neq1T26 neq2T26 dT27 sT27 bT27 zT27 dT28 sT28 bT28 zT28 eql1T28 eql2T28 neq1T28 neq2T28 dT30 sT30 bT30 zT30 eql1T30 eql2T30 neq1T30 neq2T30 dT31 sT31 bT31 zT31 eql1T31 eql2T31 neq1T31 neq2T31 dT32 sT32 bT32 zT32 eql1T32 eql2T32 neq1T32 neq2T32 dT33 sT33 bT33 zT33 eql1T33 eql2T33 neq1T33 neq2T33 dT34 sT34 bT34 zT34 eql1T34 eql2T34 neq1T34 neq2T34 dT35 sT35 bT35 zT35 dT36 sT36 bT36 zT36 eqT36 neT36 dT37 sT37 bT37 zT37 eqT37 neT37 dT38 sT38 bT38 zT38 dT39 sT39 bT39 zT39 dT40 sT40 bT40 zT40 eql1T40 eql2T40 neq1T40 neq2T40 dT42 sT42 bT42 zT42 eql1T42 eql2T42 neq1T42 neq2T42 dT43 sT43 bT43 zT43 eql1T43 eql2T43 neq1T43 neq2T43 dT44 sT44 bT44 zT44 eql1T44 eql2T44 neq1T44 neq2T44 dT45 sT45 bT45 zT45 eql1T45 eql2T45 neq1T45 neq2T45 dT46 sT46 bT46 zT46 dT47 sT47 bT47 zT47 dT48 sT48 bT48 zT48 eql1T48 eql2T48 neq1T48 neq2T48 dT49 sT49 bT49 zT49 eql1T49 eql2T49 neq1T49 neq2T49 dT50 sT50 bT50 zT50 eql1T50 eql2T50 neq1T50 neq2T50 dT51 sT51 bT51 zT51 eqT51 neT51 dT52 sT52 bT52 zT52 eql1T52 eql2T52 neq1T52 neq2T52 dT54 sT54 bT54 zT54 eql1T54 eql2T54 neq1T54 neq2T54 dT55 sT55 bT55 zT55 eql1T55 eql2T55 neq1T55 neq2T55 dT56 sT56 bT56 zT56 eql1T56 eql2T56 neq1T56 neq2T56 dT57 sT57 bT57 zT57 eql1T57 eql2T57 neq1T57 neq2T57 dT58 sT58 bT58 zT58 eql1T58 eql2T58 neq1T58 neq2T58 dT59 sT59 bT59 zT59 dT60 sT60 bT60 zT60 eqT60 neT60 dT61 sT61 bT61 zT61 eql1T61 eql2T61 neq1T61 neq2T61 dT62 sT62 bT62 zT62 eql1T62 eql2T62 neq1T62 neq2T62 dT68 sT68 bT68 zT68 dT71 sT71 bT71 zT71 eql1T71 eql2T71 neq1T71 neq2T71 dT72 sT72 bT72 zT72 eql1T72 eql2T72 neq1T72 neq2T72 dT75 sT75 bT75 zT75
end Go.Proofs.Ytbjkcjpcnbephaa
