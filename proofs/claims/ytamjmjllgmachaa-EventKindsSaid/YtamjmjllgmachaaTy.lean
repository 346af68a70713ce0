/- The types of this translation, as the abstract machine reads them: closed facts. -/
import Derived.Test.YtamjmjllgmachaaProg
import Derived.Test.YtamjmjllgmachaaAw
namespace Go.Proofs.Ytamjmjllgmachaa
open Go.Am
set_option maxRecDepth 100000
theorem hmix : Try.prog.follows .mixedOrders = true := by kernel_rfl
theorem dT1 : dT Try.prog 1 = .other := by kernel_rfl
theorem sT1 : szT Try.prog 1 = 1 := by kernel_rfl
theorem bT1 : byT Try.prog 1 = 8 := by kernel_rfl
theorem zT1 : zT Try.prog 1 = some [.nilf] := by kernel_rfl
theorem eql1T1 {f : Nat} {c : List (Nat × Nat × Nat)}  : abin Try.prog .eql 1 (.c (.f f c)) (.c .nilf) = some (.c (.b false)) := by kernel_rfl
theorem eql2T1 : abin Try.prog .eql 1 (.c .nilf) (.c .nilf) = some (.c (.b true)) := by kernel_rfl
theorem neq1T1 {f : Nat} {c : List (Nat × Nat × Nat)}  : abin Try.prog .neq 1 (.c (.f f c)) (.c .nilf) = some (.c (.b true)) := by kernel_rfl
theorem neq2T1 : abin Try.prog .neq 1 (.c .nilf) (.c .nilf) = some (.c (.b false)) := by kernel_rfl
theorem dT2 : dT Try.prog 2 = .int .i64 := by kernel_rfl
theorem sT2 : szT Try.prog 2 = 1 := by kernel_rfl
theorem bT2 : byT Try.prog 2 = 8 := by kernel_rfl
theorem zT2 : zT Try.prog 2 = some [.i 0] := by kernel_rfl
theorem dT3 : dT Try.prog 3 = .int .i64 := by kernel_rfl
theorem sT3 : szT Try.prog 3 = 1 := by kernel_rfl
theorem bT3 : byT Try.prog 3 = 8 := by kernel_rfl
theorem zT3 : zT Try.prog 3 = some [.i 0] := by kernel_rfl
theorem dT4 : dT Try.prog 4 = .bool := by kernel_rfl
theorem sT4 : szT Try.prog 4 = 1 := by kernel_rfl
theorem bT4 : byT Try.prog 4 = 1 := by kernel_rfl
theorem zT4 : zT Try.prog 4 = some [.b false] := by kernel_rfl
theorem dT5 : dT Try.prog 5 = .int .u8 := by kernel_rfl
theorem sT5 : szT Try.prog 5 = 1 := by kernel_rfl
theorem bT5 : byT Try.prog 5 = 1 := by kernel_rfl
theorem zT5 : zT Try.prog 5 = some [.k .u8 (0)] := by kernel_rfl
theorem dT7 : dT Try.prog 7 = .st [(0, 2), (1, 3), (2, 4), (3, 6)] := by kernel_rfl
theorem sT7 : szT Try.prog 7 = 4 := by kernel_rfl
theorem bT7 : byT Try.prog 7 = 24 := by kernel_rfl
theorem zT7 : zT Try.prog 7 = some [.i 0, .i 0, .b false, .k .u8 (0)] := by kernel_rfl
theorem dT9 : dT Try.prog 9 = .str := by kernel_rfl
theorem sT9 : szT Try.prog 9 = 1 := by kernel_rfl
theorem bT9 : byT Try.prog 9 = 16 := by kernel_rfl
theorem zT9 : zT Try.prog 9 = some [.s ByteArray.empty] := by kernel_rfl
theorem dT12 : dT Try.prog 12 = .int .u64 := by kernel_rfl
theorem sT12 : szT Try.prog 12 = 1 := by kernel_rfl
theorem bT12 : byT Try.prog 12 = 8 := by kernel_rfl
theorem zT12 : zT Try.prog 12 = some [.u 0#64] := by kernel_rfl
theorem dT13 : dT Try.prog 13 = .st [(0, 9), (1, 12)] := by kernel_rfl
theorem sT13 : szT Try.prog 13 = 2 := by kernel_rfl
theorem bT13 : byT Try.prog 13 = 24 := by kernel_rfl
theorem zT13 : zT Try.prog 13 = some [.s ByteArray.empty, .u 0#64] := by kernel_rfl
theorem dT21 : dT Try.prog 21 = .int .i32 := by kernel_rfl
theorem sT21 : szT Try.prog 21 = 1 := by kernel_rfl
theorem bT21 : byT Try.prog 21 = 4 := by kernel_rfl
theorem zT21 : zT Try.prog 21 = some [.k .i32 (0)] := by kernel_rfl
theorem dT22 : dT Try.prog 22 = .sl 40 := by kernel_rfl
theorem sT22 : szT Try.prog 22 = 1 := by kernel_rfl
theorem bT22 : byT Try.prog 22 = 24 := by kernel_rfl
theorem zT22 : zT Try.prog 22 = some [.nils] := by kernel_rfl
theorem eql1T22 {a b c n : Nat}  : abin Try.prog .eql 22 (.c (.sl a b c n)) (.c .nils) = if n = 0 then some (.c .qq) else some (.c (.b false)) := by kernel_rfl
theorem eql2T22 : abin Try.prog .eql 22 (.c .nils) (.c .nils) = some (.c (.b true)) := by kernel_rfl
theorem neq1T22 {a b c n : Nat}  : abin Try.prog .neq 22 (.c (.sl a b c n)) (.c .nils) = if n = 0 then some (.c .qq) else some (.c (.b true)) := by kernel_rfl
theorem neq2T22 : abin Try.prog .neq 22 (.c .nils) (.c .nils) = some (.c (.b false)) := by kernel_rfl
theorem dT23 : dT Try.prog 23 = .sl 4 := by kernel_rfl
theorem sT23 : szT Try.prog 23 = 1 := by kernel_rfl
theorem bT23 : byT Try.prog 23 = 24 := by kernel_rfl
theorem zT23 : zT Try.prog 23 = some [.nils] := by kernel_rfl
theorem eql1T23 {a b c n : Nat}  : abin Try.prog .eql 23 (.c (.sl a b c n)) (.c .nils) = if n = 0 then some (.c .qq) else some (.c (.b false)) := by kernel_rfl
theorem eql2T23 : abin Try.prog .eql 23 (.c .nils) (.c .nils) = some (.c (.b true)) := by kernel_rfl
theorem neq1T23 {a b c n : Nat}  : abin Try.prog .neq 23 (.c (.sl a b c n)) (.c .nils) = if n = 0 then some (.c .qq) else some (.c (.b true)) := by kernel_rfl
theorem neq2T23 : abin Try.prog .neq 23 (.c .nils) (.c .nils) = some (.c (.b false)) := by kernel_rfl
theorem dT24 : dT Try.prog 24 = .other := by kernel_rfl
theorem sT24 : szT Try.prog 24 = 1 := by kernel_rfl
theorem bT24 : byT Try.prog 24 = 8 := by kernel_rfl
theorem zT24 : zT Try.prog 24 = some [.nilf] := by kernel_rfl
theorem eql1T24 {f : Nat} {c : List (Nat × Nat × Nat)}  : abin Try.prog .eql 24 (.c (.f f c)) (.c .nilf) = some (.c (.b false)) := by kernel_rfl
theorem eql2T24 : abin Try.prog .eql 24 (.c .nilf) (.c .nilf) = some (.c (.b true)) := by kernel_rfl
theorem neq1T24 {f : Nat} {c : List (Nat × Nat × Nat)}  : abin Try.prog .neq 24 (.c (.f f c)) (.c .nilf) = some (.c (.b true)) := by kernel_rfl
theorem neq2T24 : abin Try.prog .neq 24 (.c .nilf) (.c .nilf) = some (.c (.b false)) := by kernel_rfl
theorem dT26 : dT Try.prog 26 = .other := by kernel_rfl
theorem sT26 : szT Try.prog 26 = 1 := by kernel_rfl
theorem bT26 : byT Try.prog 26 = 8 := by kernel_rfl
theorem zT26 : zT Try.prog 26 = some [.nilf] := by kernel_rfl
theorem eql1T26 {f : Nat} {c : List (Nat × Nat × Nat)}  : abin Try.prog .eql 26 (.c (.f f c)) (.c .nilf) = some (.c (.b false)) := by kernel_rfl
theorem eql2T26 : abin Try.prog .eql 26 (.c .nilf) (.c .nilf) = some (.c (.b true)) := by kernel_rfl
theorem neq1T26 {f : Nat} {c : List (Nat × Nat × Nat)}  : abin Try.prog .neq 26 (.c (.f f c)) (.c .nilf) = some (.c (.b true)) := by kernel_rfl
theorem neq2T26 : abin Try.prog .neq 26 (.c .nilf) (.c .nilf) = some (.c (.b false)) := by kernel_rfl
theorem dT27 : dT Try.prog 27 = .int .i64 := by kernel_rfl
theorem sT27 : szT Try.prog 27 = 1 := by kernel_rfl
theorem bT27 : byT Try.prog 27 = 8 := by kernel_rfl
theorem zT27 : zT Try.prog 27 = some [.i 0] := by kernel_rfl
theorem dT28 : dT Try.prog 28 = .int .u64 := by kernel_rfl
theorem sT28 : szT Try.prog 28 = 1 := by kernel_rfl
theorem bT28 : byT Try.prog 28 = 8 := by kernel_rfl
theorem zT28 : zT Try.prog 28 = some [.u 0#64] := by kernel_rfl
theorem dT29 : dT Try.prog 29 = .int .i64 := by kernel_rfl
theorem sT29 : szT Try.prog 29 = 1 := by kernel_rfl
theorem bT29 : byT Try.prog 29 = 8 := by kernel_rfl
theorem zT29 : zT Try.prog 29 = some [.i 0] := by kernel_rfl
theorem dT30 : dT Try.prog 30 = .st [(0, 4), (1, 4), (2, 4), (3, 28), (4, 3)] := by kernel_rfl
theorem sT30 : szT Try.prog 30 = 5 := by kernel_rfl
theorem bT30 : byT Try.prog 30 = 24 := by kernel_rfl
theorem zT30 : zT Try.prog 30 = some [.b false, .b false, .b false, .u 0#64, .i 0] := by kernel_rfl
theorem dT31 : dT Try.prog 31 = .st [(0, 4), (1, 4), (2, 4), (3, 28), (4, 3)] := by kernel_rfl
theorem sT31 : szT Try.prog 31 = 5 := by kernel_rfl
theorem bT31 : byT Try.prog 31 = 24 := by kernel_rfl
theorem zT31 : zT Try.prog 31 = some [.b false, .b false, .b false, .u 0#64, .i 0] := by kernel_rfl
theorem gT31 : tagsT Try.prog 12 31 = some [.q, .q, .q, .n, .n] := by kernel_rfl
theorem eqT31 {a b : List Sc} : abin Try.prog .eql 31 (.g a) (.g b) = (csEq [.q, .q, .q, .n, .n] a b).bind (eqU .eql) := ab_g_eql _ (by simp only [dT31, D.agg]) gT31
theorem neT31 {a b : List Sc} : abin Try.prog .neq 31 (.g a) (.g b) = (csEq [.q, .q, .q, .n, .n] a b).bind (eqU .neq) := ab_g_neq _ (by simp only [dT31, D.agg]) gT31
theorem dT32 : dT Try.prog 32 = .st [(0, 3), (1, 28), (2, 3), (3, 28)] := by kernel_rfl
theorem sT32 : szT Try.prog 32 = 4 := by kernel_rfl
theorem bT32 : byT Try.prog 32 = 32 := by kernel_rfl
theorem zT32 : zT Try.prog 32 = some [.i 0, .u 0#64, .i 0, .u 0#64] := by kernel_rfl
theorem dT33 : dT Try.prog 33 = .st [(0, 3), (1, 28), (2, 3), (3, 28)] := by kernel_rfl
theorem sT33 : szT Try.prog 33 = 4 := by kernel_rfl
theorem bT33 : byT Try.prog 33 = 32 := by kernel_rfl
theorem zT33 : zT Try.prog 33 = some [.i 0, .u 0#64, .i 0, .u 0#64] := by kernel_rfl
theorem gT33 : tagsT Try.prog 12 33 = some [.n, .n, .n, .n] := by kernel_rfl
theorem eqT33 {a b : List Sc} : abin Try.prog .eql 33 (.g a) (.g b) = (csEq [.n, .n, .n, .n] a b).bind (eqU .eql) := ab_g_eql _ (by simp only [dT33, D.agg]) gT33
theorem neT33 {a b : List Sc} : abin Try.prog .neq 33 (.g a) (.g b) = (csEq [.n, .n, .n, .n] a b).bind (eqU .neq) := ab_g_neq _ (by simp only [dT33, D.agg]) gT33
theorem dT34 : dT Try.prog 34 = .st [(0, 27), (1, 28), (2, 28), (3, 3), (4, 3), (5, 29), (6, 28), (7, 28), (8, 4), (9, 3), (10, 31), (15, 33)] := by kernel_rfl
theorem sT34 : szT Try.prog 34 = 19 := by kernel_rfl
theorem bT34 : byT Try.prog 34 = 136 := by kernel_rfl
theorem zT34 : zT Try.prog 34 = some [.i 0, .u 0#64, .u 0#64, .i 0, .i 0, .i 0, .u 0#64, .u 0#64, .b false, .i 0, .b false, .b false, .b false, .u 0#64, .i 0, .i 0, .u 0#64, .i 0, .u 0#64] := by kernel_rfl
theorem dT35 : dT Try.prog 35 = .st [(0, 27), (1, 28), (2, 28), (3, 3), (4, 3), (5, 29), (6, 28), (7, 28), (8, 4), (9, 3), (10, 31), (15, 33)] := by kernel_rfl
theorem sT35 : szT Try.prog 35 = 19 := by kernel_rfl
theorem bT35 : byT Try.prog 35 = 136 := by kernel_rfl
theorem zT35 : zT Try.prog 35 = some [.i 0, .u 0#64, .u 0#64, .i 0, .i 0, .i 0, .u 0#64, .u 0#64, .b false, .i 0, .b false, .b false, .b false, .u 0#64, .i 0, .i 0, .u 0#64, .i 0, .u 0#64] := by kernel_rfl
theorem gT35 : tagsT Try.prog 12 35 = some [.n, .n, .n, .n, .n, .n, .n, .n, .q, .n, .q, .q, .q, .n, .n, .n, .n, .n, .n] := by kernel_rfl
theorem eqT35 {a b : List Sc} : abin Try.prog .eql 35 (.g a) (.g b) = (csEq [.n, .n, .n, .n, .n, .n, .n, .n, .q, .n, .q, .q, .q, .n, .n, .n, .n, .n, .n] a b).bind (eqU .eql) := ab_g_eql _ (by simp only [dT35, D.agg]) gT35
theorem neT35 {a b : List Sc} : abin Try.prog .neq 35 (.g a) (.g b) = (csEq [.n, .n, .n, .n, .n, .n, .n, .n, .q, .n, .q, .q, .q, .n, .n, .n, .n, .n, .n] a b).bind (eqU .neq) := ab_g_neq _ (by simp only [dT35, D.agg]) gT35
theorem dT36 : dT Try.prog 36 = .arr 8 31 := by kernel_rfl
theorem sT36 : szT Try.prog 36 = 40 := by kernel_rfl
theorem bT36 : byT Try.prog 36 = 192 := by kernel_rfl
theorem zT36 : zT Try.prog 36 = some [.b false, .b false, .b false, .u 0#64, .i 0, .b false, .b false, .b false, .u 0#64, .i 0, .b false, .b false, .b false, .u 0#64, .i 0, .b false, .b false, .b false, .u 0#64, .i 0, .b false, .b false, .b false, .u 0#64, .i 0, .b false, .b false, .b false, .u 0#64, .i 0, .b false, .b false, .b false, .u 0#64, .i 0, .b false, .b false, .b false, .u 0#64, .i 0] := by kernel_rfl
theorem gT36 : tagsT Try.prog 12 36 = some [.q, .q, .q, .n, .n, .q, .q, .q, .n, .n, .q, .q, .q, .n, .n, .q, .q, .q, .n, .n, .q, .q, .q, .n, .n, .q, .q, .q, .n, .n, .q, .q, .q, .n, .n, .q, .q, .q, .n, .n] := by kernel_rfl
theorem eqT36 {a b : List Sc} : abin Try.prog .eql 36 (.g a) (.g b) = (csEq [.q, .q, .q, .n, .n, .q, .q, .q, .n, .n, .q, .q, .q, .n, .n, .q, .q, .q, .n, .n, .q, .q, .q, .n, .n, .q, .q, .q, .n, .n, .q, .q, .q, .n, .n, .q, .q, .q, .n, .n] a b).bind (eqU .eql) := ab_g_eql _ (by simp only [dT36, D.agg]) gT36
theorem neT36 {a b : List Sc} : abin Try.prog .neq 36 (.g a) (.g b) = (csEq [.q, .q, .q, .n, .n, .q, .q, .q, .n, .n, .q, .q, .q, .n, .n, .q, .q, .q, .n, .n, .q, .q, .q, .n, .n, .q, .q, .q, .n, .n, .q, .q, .q, .n, .n, .q, .q, .q, .n, .n] a b).bind (eqU .neq) := ab_g_neq _ (by simp only [dT36, D.agg]) gT36
theorem dT37 : dT Try.prog 37 = .st [(0, 28), (1, 4), (2, 36)] := by kernel_rfl
theorem sT37 : szT Try.prog 37 = 42 := by kernel_rfl
theorem bT37 : byT Try.prog 37 = 208 := by kernel_rfl
theorem zT37 : zT Try.prog 37 = some [.u 0#64, .b false, .b false, .b false, .b false, .u 0#64, .i 0, .b false, .b false, .b false, .u 0#64, .i 0, .b false, .b false, .b false, .u 0#64, .i 0, .b false, .b false, .b false, .u 0#64, .i 0, .b false, .b false, .b false, .u 0#64, .i 0, .b false, .b false, .b false, .u 0#64, .i 0, .b false, .b false, .b false, .u 0#64, .i 0, .b false, .b false, .b false, .u 0#64, .i 0] := by kernel_rfl
theorem dT38 : dT Try.prog 38 = .st [(0, 28), (1, 4), (2, 36)] := by kernel_rfl
theorem sT38 : szT Try.prog 38 = 42 := by kernel_rfl
theorem bT38 : byT Try.prog 38 = 208 := by kernel_rfl
theorem zT38 : zT Try.prog 38 = some [.u 0#64, .b false, .b false, .b false, .b false, .u 0#64, .i 0, .b false, .b false, .b false, .u 0#64, .i 0, .b false, .b false, .b false, .u 0#64, .i 0, .b false, .b false, .b false, .u 0#64, .i 0, .b false, .b false, .b false, .u 0#64, .i 0, .b false, .b false, .b false, .u 0#64, .i 0, .b false, .b false, .b false, .u 0#64, .i 0, .b false, .b false, .b false, .u 0#64, .i 0] := by kernel_rfl
theorem dT39 : dT Try.prog 39 = .st [(0, 3), (1, 35), (20, 38), (62, 3), (63, 3), (64, 3)] := by kernel_rfl
theorem sT39 : szT Try.prog 39 = 65 := by kernel_rfl
theorem bT39 : byT Try.prog 39 = 376 := by kernel_rfl
theorem zT39 : zT Try.prog 39 = some [.i 0, .i 0, .u 0#64, .u 0#64, .i 0, .i 0, .i 0, .u 0#64, .u 0#64, .b false, .i 0, .b false, .b false, .b false, .u 0#64, .i 0, .i 0, .u 0#64, .i 0, .u 0#64, .u 0#64, .b false, .b false, .b false, .b false, .u 0#64, .i 0, .b false, .b false, .b false, .u 0#64, .i 0, .b false, .b false, .b false, .u 0#64, .i 0, .b false, .b false, .b false, .u 0#64, .i 0, .b false, .b false, .b false, .u 0#64, .i 0, .b false, .b false, .b false, .u 0#64, .i 0, .b false, .b false, .b false, .u 0#64, .i 0, .b false, .b false, .b false, .u 0#64, .i 0, .i 0, .i 0, .i 0] := by kernel_rfl
theorem dT40 : dT Try.prog 40 = .st [(0, 3), (1, 35), (20, 38), (62, 3), (63, 3), (64, 3)] := by kernel_rfl
theorem sT40 : szT Try.prog 40 = 65 := by kernel_rfl
theorem bT40 : byT Try.prog 40 = 376 := by kernel_rfl
theorem zT40 : zT Try.prog 40 = some [.i 0, .i 0, .u 0#64, .u 0#64, .i 0, .i 0, .i 0, .u 0#64, .u 0#64, .b false, .i 0, .b false, .b false, .b false, .u 0#64, .i 0, .i 0, .u 0#64, .i 0, .u 0#64, .u 0#64, .b false, .b false, .b false, .b false, .u 0#64, .i 0, .b false, .b false, .b false, .u 0#64, .i 0, .b false, .b false, .b false, .u 0#64, .i 0, .b false, .b false, .b false, .u 0#64, .i 0, .b false, .b false, .b false, .u 0#64, .i 0, .b false, .b false, .b false, .u 0#64, .i 0, .b false, .b false, .b false, .u 0#64, .i 0, .b false, .b false, .b false, .u 0#64, .i 0, .i 0, .i 0, .i 0] := by kernel_rfl
theorem dT41 : dT Try.prog 41 = .other := by kernel_rfl
theorem sT41 : szT Try.prog 41 = 1 := by kernel_rfl
theorem bT41 : byT Try.prog 41 = 8 := by kernel_rfl
theorem zT41 : zT Try.prog 41 = some [.nilf] := by kernel_rfl
theorem eql1T41 {f : Nat} {c : List (Nat × Nat × Nat)}  : abin Try.prog .eql 41 (.c (.f f c)) (.c .nilf) = some (.c (.b false)) := by kernel_rfl
theorem eql2T41 : abin Try.prog .eql 41 (.c .nilf) (.c .nilf) = some (.c (.b true)) := by kernel_rfl
theorem neq1T41 {f : Nat} {c : List (Nat × Nat × Nat)}  : abin Try.prog .neq 41 (.c (.f f c)) (.c .nilf) = some (.c (.b true)) := by kernel_rfl
theorem neq2T41 : abin Try.prog .neq 41 (.c .nilf) (.c .nilf) = some (.c (.b false)) := by kernel_rfl
theorem dT42 : dT Try.prog 42 = .sl 27 := by kernel_rfl
theorem sT42 : szT Try.prog 42 = 1 := by kernel_rfl
theorem bT42 : byT Try.prog 42 = 24 := by kernel_rfl
theorem zT42 : zT Try.prog 42 = some [.nils] := by kernel_rfl
theorem eql1T42 {a b c n : Nat}  : abin Try.prog .eql 42 (.c (.sl a b c n)) (.c .nils) = if n = 0 then some (.c .qq) else some (.c (.b false)) := by kernel_rfl
theorem eql2T42 : abin Try.prog .eql 42 (.c .nils) (.c .nils) = some (.c (.b true)) := by kernel_rfl
theorem neq1T42 {a b c n : Nat}  : abin Try.prog .neq 42 (.c (.sl a b c n)) (.c .nils) = if n = 0 then some (.c .qq) else some (.c (.b true)) := by kernel_rfl
theorem neq2T42 : abin Try.prog .neq 42 (.c .nils) (.c .nils) = some (.c (.b false)) := by kernel_rfl
theorem dT43 : dT Try.prog 43 = .other := by kernel_rfl
theorem sT43 : szT Try.prog 43 = 1 := by kernel_rfl
theorem bT43 : byT Try.prog 43 = 8 := by kernel_rfl
theorem zT43 : zT Try.prog 43 = some [.nilf] := by kernel_rfl
theorem eql1T43 {f : Nat} {c : List (Nat × Nat × Nat)}  : abin Try.prog .eql 43 (.c (.f f c)) (.c .nilf) = some (.c (.b false)) := by kernel_rfl
theorem eql2T43 : abin Try.prog .eql 43 (.c .nilf) (.c .nilf) = some (.c (.b true)) := by kernel_rfl
theorem neq1T43 {f : Nat} {c : List (Nat × Nat × Nat)}  : abin Try.prog .neq 43 (.c (.f f c)) (.c .nilf) = some (.c (.b true)) := by kernel_rfl
theorem neq2T43 : abin Try.prog .neq 43 (.c .nilf) (.c .nilf) = some (.c (.b false)) := by kernel_rfl
theorem dT44 : dT Try.prog 44 = .other := by kernel_rfl
theorem sT44 : szT Try.prog 44 = 1 := by kernel_rfl
theorem bT44 : byT Try.prog 44 = 8 := by kernel_rfl
theorem zT44 : zT Try.prog 44 = some [.nilf] := by kernel_rfl
theorem eql1T44 {f : Nat} {c : List (Nat × Nat × Nat)}  : abin Try.prog .eql 44 (.c (.f f c)) (.c .nilf) = some (.c (.b false)) := by kernel_rfl
theorem eql2T44 : abin Try.prog .eql 44 (.c .nilf) (.c .nilf) = some (.c (.b true)) := by kernel_rfl
theorem neq1T44 {f : Nat} {c : List (Nat × Nat × Nat)}  : abin Try.prog .neq 44 (.c (.f f c)) (.c .nilf) = some (.c (.b true)) := by kernel_rfl
theorem neq2T44 : abin Try.prog .neq 44 (.c .nilf) (.c .nilf) = some (.c (.b false)) := by kernel_rfl
theorem dT45 : dT Try.prog 45 = .arr 22 3 := by kernel_rfl
theorem sT45 : szT Try.prog 45 = 22 := by kernel_rfl
theorem bT45 : byT Try.prog 45 = 176 := by kernel_rfl
theorem zT45 : zT Try.prog 45 = some [.i 0, .i 0, .i 0, .i 0, .i 0, .i 0, .i 0, .i 0, .i 0, .i 0, .i 0, .i 0, .i 0, .i 0, .i 0, .i 0, .i 0, .i 0, .i 0, .i 0, .i 0, .i 0] := by kernel_rfl
theorem gT45 : tagsT Try.prog 12 45 = some [.n, .n, .n, .n, .n, .n, .n, .n, .n, .n, .n, .n, .n, .n, .n, .n, .n, .n, .n, .n, .n, .n] := by kernel_rfl
theorem eqT45 {a b : List Sc} : abin Try.prog .eql 45 (.g a) (.g b) = (csEq [.n, .n, .n, .n, .n, .n, .n, .n, .n, .n, .n, .n, .n, .n, .n, .n, .n, .n, .n, .n, .n, .n] a b).bind (eqU .eql) := ab_g_eql _ (by simp only [dT45, D.agg]) gT45
theorem neT45 {a b : List Sc} : abin Try.prog .neq 45 (.g a) (.g b) = (csEq [.n, .n, .n, .n, .n, .n, .n, .n, .n, .n, .n, .n, .n, .n, .n, .n, .n, .n, .n, .n, .n, .n] a b).bind (eqU .neq) := ab_g_neq _ (by simp only [dT45, D.agg]) gT45
theorem dT46 : dT Try.prog 46 = .other := by kernel_rfl
theorem sT46 : szT Try.prog 46 = 1 := by kernel_rfl
theorem bT46 : byT Try.prog 46 = 8 := by kernel_rfl
theorem zT46 : zT Try.prog 46 = some [.nilf] := by kernel_rfl
theorem eql1T46 {f : Nat} {c : List (Nat × Nat × Nat)}  : abin Try.prog .eql 46 (.c (.f f c)) (.c .nilf) = some (.c (.b false)) := by kernel_rfl
theorem eql2T46 : abin Try.prog .eql 46 (.c .nilf) (.c .nilf) = some (.c (.b true)) := by kernel_rfl
theorem neq1T46 {f : Nat} {c : List (Nat × Nat × Nat)}  : abin Try.prog .neq 46 (.c (.f f c)) (.c .nilf) = some (.c (.b true)) := by kernel_rfl
theorem neq2T46 : abin Try.prog .neq 46 (.c .nilf) (.c .nilf) = some (.c (.b false)) := by kernel_rfl
theorem dT47 : dT Try.prog 47 = .other := by kernel_rfl
theorem sT47 : szT Try.prog 47 = 1 := by kernel_rfl
theorem bT47 : byT Try.prog 47 = 8 := by kernel_rfl
theorem zT47 : zT Try.prog 47 = some [.nilf] := by kernel_rfl
theorem eql1T47 {f : Nat} {c : List (Nat × Nat × Nat)}  : abin Try.prog .eql 47 (.c (.f f c)) (.c .nilf) = some (.c (.b false)) := by kernel_rfl
theorem eql2T47 : abin Try.prog .eql 47 (.c .nilf) (.c .nilf) = some (.c (.b true)) := by kernel_rfl
theorem neq1T47 {f : Nat} {c : List (Nat × Nat × Nat)}  : abin Try.prog .neq 47 (.c (.f f c)) (.c .nilf) = some (.c (.b true)) := by kernel_rfl
theorem neq2T47 : abin Try.prog .neq 47 (.c .nilf) (.c .nilf) = some (.c (.b false)) := by kernel_rfl
theorem dT48 : dT Try.prog 48 = .other := by kernel_rfl
theorem sT48 : szT Try.prog 48 = 1 := by kernel_rfl
theorem bT48 : byT Try.prog 48 = 8 := by kernel_rfl
theorem zT48 : zT Try.prog 48 = some [.nilf] := by kernel_rfl
theorem eql1T48 {f : Nat} {c : List (Nat × Nat × Nat)}  : abin Try.prog .eql 48 (.c (.f f c)) (.c .nilf) = some (.c (.b false)) := by kernel_rfl
theorem eql2T48 : abin Try.prog .eql 48 (.c .nilf) (.c .nilf) = some (.c (.b true)) := by kernel_rfl
theorem neq1T48 {f : Nat} {c : List (Nat × Nat × Nat)}  : abin Try.prog .neq 48 (.c (.f f c)) (.c .nilf) = some (.c (.b true)) := by kernel_rfl
theorem neq2T48 : abin Try.prog .neq 48 (.c .nilf) (.c .nilf) = some (.c (.b false)) := by kernel_rfl
theorem dT49 : dT Try.prog 49 = .other := by kernel_rfl
theorem sT49 : szT Try.prog 49 = 1 := by kernel_rfl
theorem bT49 : byT Try.prog 49 = 8 := by kernel_rfl
theorem zT49 : zT Try.prog 49 = some [.nilf] := by kernel_rfl
theorem eql1T49 {f : Nat} {c : List (Nat × Nat × Nat)}  : abin Try.prog .eql 49 (.c (.f f c)) (.c .nilf) = some (.c (.b false)) := by kernel_rfl
theorem eql2T49 : abin Try.prog .eql 49 (.c .nilf) (.c .nilf) = some (.c (.b true)) := by kernel_rfl
theorem neq1T49 {f : Nat} {c : List (Nat × Nat × Nat)}  : abin Try.prog .neq 49 (.c (.f f c)) (.c .nilf) = some (.c (.b true)) := by kernel_rfl
theorem neq2T49 : abin Try.prog .neq 49 (.c .nilf) (.c .nilf) = some (.c (.b false)) := by kernel_rfl
theorem dT50 : dT Try.prog 50 = .other := by kernel_rfl
theorem sT50 : szT Try.prog 50 = 1 := by kernel_rfl
theorem bT50 : byT Try.prog 50 = 8 := by kernel_rfl
theorem zT50 : zT Try.prog 50 = some [.nilf] := by kernel_rfl
theorem eql1T50 {f : Nat} {c : List (Nat × Nat × Nat)}  : abin Try.prog .eql 50 (.c (.f f c)) (.c .nilf) = some (.c (.b false)) := by kernel_rfl
theorem eql2T50 : abin Try.prog .eql 50 (.c .nilf) (.c .nilf) = some (.c (.b true)) := by kernel_rfl
theorem neq1T50 {f : Nat} {c : List (Nat × Nat × Nat)}  : abin Try.prog .neq 50 (.c (.f f c)) (.c .nilf) = some (.c (.b true)) := by kernel_rfl
theorem neq2T50 : abin Try.prog .neq 50 (.c .nilf) (.c .nilf) = some (.c (.b false)) := by kernel_rfl
theorem dT51 : dT Try.prog 51 = .sl 9 := by kernel_rfl
theorem sT51 : szT Try.prog 51 = 1 := by kernel_rfl
theorem bT51 : byT Try.prog 51 = 24 := by kernel_rfl
theorem zT51 : zT Try.prog 51 = some [.nils] := by kernel_rfl
theorem eql1T51 {a b c n : Nat}  : abin Try.prog .eql 51 (.c (.sl a b c n)) (.c .nils) = if n = 0 then some (.c .qq) else some (.c (.b false)) := by kernel_rfl
theorem eql2T51 : abin Try.prog .eql 51 (.c .nils) (.c .nils) = some (.c (.b true)) := by kernel_rfl
theorem neq1T51 {a b c n : Nat}  : abin Try.prog .neq 51 (.c (.sl a b c n)) (.c .nils) = if n = 0 then some (.c .qq) else some (.c (.b true)) := by kernel_rfl
theorem neq2T51 : abin Try.prog .neq 51 (.c .nils) (.c .nils) = some (.c (.b false)) := by kernel_rfl
theorem dT52 : dT Try.prog 52 = .other := by kernel_rfl
theorem sT52 : szT Try.prog 52 = 1 := by kernel_rfl
theorem bT52 : byT Try.prog 52 = 8 := by kernel_rfl
theorem zT52 : zT Try.prog 52 = some [.nilf] := by kernel_rfl
theorem eql1T52 {f : Nat} {c : List (Nat × Nat × Nat)}  : abin Try.prog .eql 52 (.c (.f f c)) (.c .nilf) = some (.c (.b false)) := by kernel_rfl
theorem eql2T52 : abin Try.prog .eql 52 (.c .nilf) (.c .nilf) = some (.c (.b true)) := by kernel_rfl
theorem neq1T52 {f : Nat} {c : List (Nat × Nat × Nat)}  : abin Try.prog .neq 52 (.c (.f f c)) (.c .nilf) = some (.c (.b true)) := by kernel_rfl
theorem neq2T52 : abin Try.prog .neq 52 (.c .nilf) (.c .nilf) = some (.c (.b false)) := by kernel_rfl
theorem dT54 : dT Try.prog 54 = .other := by kernel_rfl
theorem sT54 : szT Try.prog 54 = 1 := by kernel_rfl
theorem bT54 : byT Try.prog 54 = 8 := by kernel_rfl
theorem zT54 : zT Try.prog 54 = some [.nilf] := by kernel_rfl
theorem eql1T54 {f : Nat} {c : List (Nat × Nat × Nat)}  : abin Try.prog .eql 54 (.c (.f f c)) (.c .nilf) = some (.c (.b false)) := by kernel_rfl
theorem eql2T54 : abin Try.prog .eql 54 (.c .nilf) (.c .nilf) = some (.c (.b true)) := by kernel_rfl
theorem neq1T54 {f : Nat} {c : List (Nat × Nat × Nat)}  : abin Try.prog .neq 54 (.c (.f f c)) (.c .nilf) = some (.c (.b true)) := by kernel_rfl
theorem neq2T54 : abin Try.prog .neq 54 (.c .nilf) (.c .nilf) = some (.c (.b false)) := by kernel_rfl
theorem dT55 : dT Try.prog 55 = .other := by kernel_rfl
theorem sT55 : szT Try.prog 55 = 1 := by kernel_rfl
theorem bT55 : byT Try.prog 55 = 8 := by kernel_rfl
theorem zT55 : zT Try.prog 55 = some [.nilf] := by kernel_rfl
theorem eql1T55 {f : Nat} {c : List (Nat × Nat × Nat)}  : abin Try.prog .eql 55 (.c (.f f c)) (.c .nilf) = some (.c (.b false)) := by kernel_rfl
theorem eql2T55 : abin Try.prog .eql 55 (.c .nilf) (.c .nilf) = some (.c (.b true)) := by kernel_rfl
theorem neq1T55 {f : Nat} {c : List (Nat × Nat × Nat)}  : abin Try.prog .neq 55 (.c (.f f c)) (.c .nilf) = some (.c (.b true)) := by kernel_rfl
theorem neq2T55 : abin Try.prog .neq 55 (.c .nilf) (.c .nilf) = some (.c (.b false)) := by kernel_rfl
theorem dT56 : dT Try.prog 56 = .other := by kernel_rfl
theorem sT56 : szT Try.prog 56 = 1 := by kernel_rfl
theorem bT56 : byT Try.prog 56 = 8 := by kernel_rfl
theorem zT56 : zT Try.prog 56 = some [.nilf] := by kernel_rfl
theorem eql1T56 {f : Nat} {c : List (Nat × Nat × Nat)}  : abin Try.prog .eql 56 (.c (.f f c)) (.c .nilf) = some (.c (.b false)) := by kernel_rfl
theorem eql2T56 : abin Try.prog .eql 56 (.c .nilf) (.c .nilf) = some (.c (.b true)) := by kernel_rfl
theorem neq1T56 {f : Nat} {c : List (Nat × Nat × Nat)}  : abin Try.prog .neq 56 (.c (.f f c)) (.c .nilf) = some (.c (.b true)) := by kernel_rfl
theorem neq2T56 : abin Try.prog .neq 56 (.c .nilf) (.c .nilf) = some (.c (.b false)) := by kernel_rfl
theorem dT57 : dT Try.prog 57 = .other := by kernel_rfl
theorem sT57 : szT Try.prog 57 = 1 := by kernel_rfl
theorem bT57 : byT Try.prog 57 = 8 := by kernel_rfl
theorem zT57 : zT Try.prog 57 = some [.nilf] := by kernel_rfl
theorem eql1T57 {f : Nat} {c : List (Nat × Nat × Nat)}  : abin Try.prog .eql 57 (.c (.f f c)) (.c .nilf) = some (.c (.b false)) := by kernel_rfl
theorem eql2T57 : abin Try.prog .eql 57 (.c .nilf) (.c .nilf) = some (.c (.b true)) := by kernel_rfl
theorem neq1T57 {f : Nat} {c : List (Nat × Nat × Nat)}  : abin Try.prog .neq 57 (.c (.f f c)) (.c .nilf) = some (.c (.b true)) := by kernel_rfl
theorem neq2T57 : abin Try.prog .neq 57 (.c .nilf) (.c .nilf) = some (.c (.b false)) := by kernel_rfl
theorem dT58 : dT Try.prog 58 = .sl 28 := by kernel_rfl
theorem sT58 : szT Try.prog 58 = 1 := by kernel_rfl
theorem bT58 : byT Try.prog 58 = 24 := by kernel_rfl
theorem zT58 : zT Try.prog 58 = some [.nils] := by kernel_rfl
theorem eql1T58 {a b c n : Nat}  : abin Try.prog .eql 58 (.c (.sl a b c n)) (.c .nils) = if n = 0 then some (.c .qq) else some (.c (.b false)) := by kernel_rfl
theorem eql2T58 : abin Try.prog .eql 58 (.c .nils) (.c .nils) = some (.c (.b true)) := by kernel_rfl
theorem neq1T58 {a b c n : Nat}  : abin Try.prog .neq 58 (.c (.sl a b c n)) (.c .nils) = if n = 0 then some (.c .qq) else some (.c (.b true)) := by kernel_rfl
theorem neq2T58 : abin Try.prog .neq 58 (.c .nils) (.c .nils) = some (.c (.b false)) := by kernel_rfl
theorem dT59 : dT Try.prog 59 = .other := by kernel_rfl
theorem sT59 : szT Try.prog 59 = 1 := by kernel_rfl
theorem bT59 : byT Try.prog 59 = 8 := by kernel_rfl
theorem zT59 : zT Try.prog 59 = some [.nilf] := by kernel_rfl
theorem eql1T59 {f : Nat} {c : List (Nat × Nat × Nat)}  : abin Try.prog .eql 59 (.c (.f f c)) (.c .nilf) = some (.c (.b false)) := by kernel_rfl
theorem eql2T59 : abin Try.prog .eql 59 (.c .nilf) (.c .nilf) = some (.c (.b true)) := by kernel_rfl
theorem neq1T59 {f : Nat} {c : List (Nat × Nat × Nat)}  : abin Try.prog .neq 59 (.c (.f f c)) (.c .nilf) = some (.c (.b true)) := by kernel_rfl
theorem neq2T59 : abin Try.prog .neq 59 (.c .nilf) (.c .nilf) = some (.c (.b false)) := by kernel_rfl
theorem dT60 : dT Try.prog 60 = .other := by kernel_rfl
theorem sT60 : szT Try.prog 60 = 1 := by kernel_rfl
theorem bT60 : byT Try.prog 60 = 8 := by kernel_rfl
theorem zT60 : zT Try.prog 60 = some [.nilf] := by kernel_rfl
theorem eql1T60 {f : Nat} {c : List (Nat × Nat × Nat)}  : abin Try.prog .eql 60 (.c (.f f c)) (.c .nilf) = some (.c (.b false)) := by kernel_rfl
theorem eql2T60 : abin Try.prog .eql 60 (.c .nilf) (.c .nilf) = some (.c (.b true)) := by kernel_rfl
theorem neq1T60 {f : Nat} {c : List (Nat × Nat × Nat)}  : abin Try.prog .neq 60 (.c (.f f c)) (.c .nilf) = some (.c (.b true)) := by kernel_rfl
theorem neq2T60 : abin Try.prog .neq 60 (.c .nilf) (.c .nilf) = some (.c (.b false)) := by kernel_rfl
theorem dT61 : dT Try.prog 61 = .other := by kernel_rfl
theorem sT61 : szT Try.prog 61 = 1 := by kernel_rfl
theorem bT61 : byT Try.prog 61 = 8 := by kernel_rfl
theorem zT61 : zT Try.prog 61 = some [.nilf] := by kernel_rfl
theorem eql1T61 {f : Nat} {c : List (Nat × Nat × Nat)}  : abin Try.prog .eql 61 (.c (.f f c)) (.c .nilf) = some (.c (.b false)) := by kernel_rfl
theorem eql2T61 : abin Try.prog .eql 61 (.c .nilf) (.c .nilf) = some (.c (.b true)) := by kernel_rfl
theorem neq1T61 {f : Nat} {c : List (Nat × Nat × Nat)}  : abin Try.prog .neq 61 (.c (.f f c)) (.c .nilf) = some (.c (.b true)) := by kernel_rfl
theorem neq2T61 : abin Try.prog .neq 61 (.c .nilf) (.c .nilf) = some (.c (.b false)) := by kernel_rfl
theorem dT62 : dT Try.prog 62 = .other := by kernel_rfl
theorem sT62 : szT Try.prog 62 = 1 := by kernel_rfl
theorem bT62 : byT Try.prog 62 = 8 := by kernel_rfl
theorem zT62 : zT Try.prog 62 = some [.nilf] := by kernel_rfl
theorem eql1T62 {f : Nat} {c : List (Nat × Nat × Nat)}  : abin Try.prog .eql 62 (.c (.f f c)) (.c .nilf) = some (.c (.b false)) := by kernel_rfl
theorem eql2T62 : abin Try.prog .eql 62 (.c .nilf) (.c .nilf) = some (.c (.b true)) := by kernel_rfl
theorem neq1T62 {f : Nat} {c : List (Nat × Nat × Nat)}  : abin Try.prog .neq 62 (.c (.f f c)) (.c .nilf) = some (.c (.b true)) := by kernel_rfl
theorem neq2T62 : abin Try.prog .neq 62 (.c .nilf) (.c .nilf) = some (.c (.b false)) := by kernel_rfl
theorem dT63 : dT Try.prog 63 = .other := by kernel_rfl
theorem sT63 : szT Try.prog 63 = 1 := by kernel_rfl
theorem bT63 : byT Try.prog 63 = 8 := by kernel_rfl
theorem zT63 : zT Try.prog 63 = some [.nilf] := by kernel_rfl
theorem eql1T63 {f : Nat} {c : List (Nat × Nat × Nat)}  : abin Try.prog .eql 63 (.c (.f f c)) (.c .nilf) = some (.c (.b false)) := by kernel_rfl
theorem eql2T63 : abin Try.prog .eql 63 (.c .nilf) (.c .nilf) = some (.c (.b true)) := by kernel_rfl
theorem neq1T63 {f : Nat} {c : List (Nat × Nat × Nat)}  : abin Try.prog .neq 63 (.c (.f f c)) (.c .nilf) = some (.c (.b true)) := by kernel_rfl
theorem neq2T63 : abin Try.prog .neq 63 (.c .nilf) (.c .nilf) = some (.c (.b false)) := by kernel_rfl
theorem dT64 : dT Try.prog 64 = .arr 22 9 := by kernel_rfl
theorem sT64 : szT Try.prog 64 = 22 := by kernel_rfl
theorem bT64 : byT Try.prog 64 = 352 := by kernel_rfl
theorem zT64 : zT Try.prog 64 = some [.s ByteArray.empty, .s ByteArray.empty, .s ByteArray.empty, .s ByteArray.empty, .s ByteArray.empty, .s ByteArray.empty, .s ByteArray.empty, .s ByteArray.empty, .s ByteArray.empty, .s ByteArray.empty, .s ByteArray.empty, .s ByteArray.empty, .s ByteArray.empty, .s ByteArray.empty, .s ByteArray.empty, .s ByteArray.empty, .s ByteArray.empty, .s ByteArray.empty, .s ByteArray.empty, .s ByteArray.empty, .s ByteArray.empty, .s ByteArray.empty] := by kernel_rfl
theorem gT64 : tagsT Try.prog 12 64 = some [.s, .s, .s, .s, .s, .s, .s, .s, .s, .s, .s, .s, .s, .s, .s, .s, .s, .s, .s, .s, .s, .s] := by kernel_rfl
theorem eqT64 {a b : List Sc} : abin Try.prog .eql 64 (.g a) (.g b) = (csEq [.s, .s, .s, .s, .s, .s, .s, .s, .s, .s, .s, .s, .s, .s, .s, .s, .s, .s, .s, .s, .s, .s] a b).bind (eqU .eql) := ab_g_eql _ (by simp only [dT64, D.agg]) gT64
theorem neT64 {a b : List Sc} : abin Try.prog .neq 64 (.g a) (.g b) = (csEq [.s, .s, .s, .s, .s, .s, .s, .s, .s, .s, .s, .s, .s, .s, .s, .s, .s, .s, .s, .s, .s, .s] a b).bind (eqU .neq) := ab_g_neq _ (by simp only [dT64, D.agg]) gT64
theorem dT65 : dT Try.prog 65 = .other := by kernel_rfl
theorem sT65 : szT Try.prog 65 = 1 := by kernel_rfl
theorem bT65 : byT Try.prog 65 = 8 := by kernel_rfl
theorem zT65 : zT Try.prog 65 = some [.nilf] := by kernel_rfl
theorem eql1T65 {f : Nat} {c : List (Nat × Nat × Nat)}  : abin Try.prog .eql 65 (.c (.f f c)) (.c .nilf) = some (.c (.b false)) := by kernel_rfl
theorem eql2T65 : abin Try.prog .eql 65 (.c .nilf) (.c .nilf) = some (.c (.b true)) := by kernel_rfl
theorem neq1T65 {f : Nat} {c : List (Nat × Nat × Nat)}  : abin Try.prog .neq 65 (.c (.f f c)) (.c .nilf) = some (.c (.b true)) := by kernel_rfl
theorem neq2T65 : abin Try.prog .neq 65 (.c .nilf) (.c .nilf) = some (.c (.b false)) := by kernel_rfl
theorem dT66 : dT Try.prog 66 = .sl 3 := by kernel_rfl
theorem sT66 : szT Try.prog 66 = 1 := by kernel_rfl
theorem bT66 : byT Try.prog 66 = 24 := by kernel_rfl
theorem zT66 : zT Try.prog 66 = some [.nils] := by kernel_rfl
theorem eql1T66 {a b c n : Nat}  : abin Try.prog .eql 66 (.c (.sl a b c n)) (.c .nils) = if n = 0 then some (.c .qq) else some (.c (.b false)) := by kernel_rfl
theorem eql2T66 : abin Try.prog .eql 66 (.c .nils) (.c .nils) = some (.c (.b true)) := by kernel_rfl
theorem neq1T66 {a b c n : Nat}  : abin Try.prog .neq 66 (.c (.sl a b c n)) (.c .nils) = if n = 0 then some (.c .qq) else some (.c (.b true)) := by kernel_rfl
theorem neq2T66 : abin Try.prog .neq 66 (.c .nils) (.c .nils) = some (.c (.b false)) := by kernel_rfl
theorem dT67 : dT Try.prog 67 = .sl 73 := by kernel_rfl
theorem sT67 : szT Try.prog 67 = 1 := by kernel_rfl
theorem bT67 : byT Try.prog 67 = 24 := by kernel_rfl
theorem zT67 : zT Try.prog 67 = some [.nils] := by kernel_rfl
theorem eql1T67 {a b c n : Nat}  : abin Try.prog .eql 67 (.c (.sl a b c n)) (.c .nils) = if n = 0 then some (.c .qq) else some (.c (.b false)) := by kernel_rfl
theorem eql2T67 : abin Try.prog .eql 67 (.c .nils) (.c .nils) = some (.c (.b true)) := by kernel_rfl
theorem neq1T67 {a b c n : Nat}  : abin Try.prog .neq 67 (.c (.sl a b c n)) (.c .nils) = if n = 0 then some (.c .qq) else some (.c (.b true)) := by kernel_rfl
theorem neq2T67 : abin Try.prog .neq 67 (.c .nils) (.c .nils) = some (.c (.b false)) := by kernel_rfl
theorem dT68 : dT Try.prog 68 = .other := by kernel_rfl
theorem sT68 : szT Try.prog 68 = 1 := by kernel_rfl
theorem bT68 : byT Try.prog 68 = 8 := by kernel_rfl
theorem zT68 : zT Try.prog 68 = some [.nilf] := by kernel_rfl
theorem eql1T68 {f : Nat} {c : List (Nat × Nat × Nat)}  : abin Try.prog .eql 68 (.c (.f f c)) (.c .nilf) = some (.c (.b false)) := by kernel_rfl
theorem eql2T68 : abin Try.prog .eql 68 (.c .nilf) (.c .nilf) = some (.c (.b true)) := by kernel_rfl
theorem neq1T68 {f : Nat} {c : List (Nat × Nat × Nat)}  : abin Try.prog .neq 68 (.c (.f f c)) (.c .nilf) = some (.c (.b true)) := by kernel_rfl
theorem neq2T68 : abin Try.prog .neq 68 (.c .nilf) (.c .nilf) = some (.c (.b false)) := by kernel_rfl
theorem dT69 : dT Try.prog 69 = .st [(0, 28), (1, 28), (2, 3), (3, 3)] := by kernel_rfl
theorem sT69 : szT Try.prog 69 = 4 := by kernel_rfl
theorem bT69 : byT Try.prog 69 = 32 := by kernel_rfl
theorem zT69 : zT Try.prog 69 = some [.u 0#64, .u 0#64, .i 0, .i 0] := by kernel_rfl
theorem dT70 : dT Try.prog 70 = .st [(0, 28), (1, 28), (2, 3), (3, 3)] := by kernel_rfl
theorem sT70 : szT Try.prog 70 = 4 := by kernel_rfl
theorem bT70 : byT Try.prog 70 = 32 := by kernel_rfl
theorem zT70 : zT Try.prog 70 = some [.u 0#64, .u 0#64, .i 0, .i 0] := by kernel_rfl
theorem gT70 : tagsT Try.prog 12 70 = some [.n, .n, .n, .n] := by kernel_rfl
theorem eqT70 {a b : List Sc} : abin Try.prog .eql 70 (.g a) (.g b) = (csEq [.n, .n, .n, .n] a b).bind (eqU .eql) := ab_g_eql _ (by simp only [dT70, D.agg]) gT70
theorem neT70 {a b : List Sc} : abin Try.prog .neq 70 (.g a) (.g b) = (csEq [.n, .n, .n, .n] a b).bind (eqU .neq) := ab_g_neq _ (by simp only [dT70, D.agg]) gT70
theorem dT71 : dT Try.prog 71 = .other := by kernel_rfl
theorem sT71 : szT Try.prog 71 = 1 := by kernel_rfl
theorem bT71 : byT Try.prog 71 = 8 := by kernel_rfl
theorem zT71 : zT Try.prog 71 = some [.nilf] := by kernel_rfl
theorem eql1T71 {f : Nat} {c : List (Nat × Nat × Nat)}  : abin Try.prog .eql 71 (.c (.f f c)) (.c .nilf) = some (.c (.b false)) := by kernel_rfl
theorem eql2T71 : abin Try.prog .eql 71 (.c .nilf) (.c .nilf) = some (.c (.b true)) := by kernel_rfl
theorem neq1T71 {f : Nat} {c : List (Nat × Nat × Nat)}  : abin Try.prog .neq 71 (.c (.f f c)) (.c .nilf) = some (.c (.b true)) := by kernel_rfl
theorem neq2T71 : abin Try.prog .neq 71 (.c .nilf) (.c .nilf) = some (.c (.b false)) := by kernel_rfl
theorem dT72 : dT Try.prog 72 = .st [(0, 28), (1, 3), (2, 3)] := by kernel_rfl
theorem sT72 : szT Try.prog 72 = 3 := by kernel_rfl
theorem bT72 : byT Try.prog 72 = 24 := by kernel_rfl
theorem zT72 : zT Try.prog 72 = some [.u 0#64, .i 0, .i 0] := by kernel_rfl
theorem dT73 : dT Try.prog 73 = .st [(0, 28), (1, 3), (2, 3)] := by kernel_rfl
theorem sT73 : szT Try.prog 73 = 3 := by kernel_rfl
theorem bT73 : byT Try.prog 73 = 24 := by kernel_rfl
theorem zT73 : zT Try.prog 73 = some [.u 0#64, .i 0, .i 0] := by kernel_rfl
theorem gT73 : tagsT Try.prog 12 73 = some [.n, .n, .n] := by kernel_rfl
theorem eqT73 {a b : List Sc} : abin Try.prog .eql 73 (.g a) (.g b) = (csEq [.n, .n, .n] a b).bind (eqU .eql) := ab_g_eql _ (by simp only [dT73, D.agg]) gT73
theorem neT73 {a b : List Sc} : abin Try.prog .neq 73 (.g a) (.g b) = (csEq [.n, .n, .n] a b).bind (eqU .neq) := ab_g_neq _ (by simp only [dT73, D.agg]) gT73
theorem dT74 : dT Try.prog 74 = .other := by kernel_rfl
theorem sT74 : szT Try.prog 74 = 1 := by kernel_rfl
theorem bT74 : byT Try.prog 74 = 8 := by kernel_rfl
theorem zT74 : zT Try.prog 74 = some [.nilf] := by kernel_rfl
theorem eql1T74 {f : Nat} {c : List (Nat × Nat × Nat)}  : abin Try.prog .eql 74 (.c (.f f c)) (.c .nilf) = some (.c (.b false)) := by kernel_rfl
theorem eql2T74 : abin Try.prog .eql 74 (.c .nilf) (.c .nilf) = some (.c (.b true)) := by kernel_rfl
theorem neq1T74 {f : Nat} {c : List (Nat × Nat × Nat)}  : abin Try.prog .neq 74 (.c (.f f c)) (.c .nilf) = some (.c (.b true)) := by kernel_rfl
theorem neq2T74 : abin Try.prog .neq 74 (.c .nilf) (.c .nilf) = some (.c (.b false)) := by kernel_rfl
theorem dT75 : dT Try.prog 75 = .other := by kernel_rfl
theorem sT75 : szT Try.prog 75 = 1 := by kernel_rfl
theorem bT75 : byT Try.prog 75 = 8 := by kernel_rfl
theorem zT75 : zT Try.prog 75 = some [.nilf] := by kernel_rfl
theorem eql1T75 {f : Nat} {c : List (Nat × Nat × Nat)}  : abin Try.prog .eql 75 (.c (.f f c)) (.c .nilf) = some (.c (.b false)) := by kernel_rfl
theorem eql2T75 : abin Try.prog .eql 75 (.c .nilf) (.c .nilf) = some (.c (.b true)) := by kernel_rfl
theorem neq1T75 {f : Nat} {c : List (Nat × Nat × Nat)}  : abin Try.prog .neq 75 (.c (.f f c)) (.c .nilf) = some (.c (.b true)) := by kernel_rfl
theorem neq2T75 : abin Try.prog .neq 75 (.c .nilf) (.c .nilf) = some (.c (.b false)) := by kernel_rfl
theorem dT76 : dT Try.prog 76 = .other := by kernel_rfl
theorem sT76 : szT Try.prog 76 = 1 := by kernel_rfl
theorem bT76 : byT Try.prog 76 = 8 := by kernel_rfl
theorem zT76 : zT Try.prog 76 = some [.nilf] := by kernel_rfl
theorem eql1T76 {f : Nat} {c : List (Nat × Nat × Nat)}  : abin Try.prog .eql 76 (.c (.f f c)) (.c .nilf) = some (.c (.b false)) := by kernel_rfl
theorem eql2T76 : abin Try.prog .eql 76 (.c .nilf) (.c .nilf) = some (.c (.b true)) := by kernel_rfl
theorem neq1T76 {f : Nat} {c : List (Nat × Nat × Nat)}  : abin Try.prog .neq 76 (.c (.f f c)) (.c .nilf) = some (.c (.b true)) := by kernel_rfl
theorem neq2T76 : abin Try.prog .neq 76 (.c .nilf) (.c .nilf) = some (.c (.b false)) := by kernel_rfl
theorem dT77 : dT Try.prog 77 = .st [(0, 28), (1, 28), (2, 3), (3, 3)] := by kernel_rfl
theorem sT77 : szT Try.prog 77 = 4 := by kernel_rfl
theorem bT77 : byT Try.prog 77 = 32 := by kernel_rfl
theorem zT77 : zT Try.prog 77 = some [.u 0#64, .u 0#64, .i 0, .i 0] := by kernel_rfl
theorem gT77 : tagsT Try.prog 12 77 = some [.n, .n, .n, .n] := by kernel_rfl
theorem eqT77 {a b : List Sc} : abin Try.prog .eql 77 (.g a) (.g b) = (csEq [.n, .n, .n, .n] a b).bind (eqU .eql) := ab_g_eql _ (by simp only [dT77, D.agg]) gT77
theorem neT77 {a b : List Sc} : abin Try.prog .neq 77 (.g a) (.g b) = (csEq [.n, .n, .n, .n] a b).bind (eqU .neq) := ab_g_neq _ (by simp only [dT77, D.agg]) gT77
theorem dT78 : dT Try.prog 78 = .other := by kernel_rfl
theorem sT78 : szT Try.prog 78 = 1 := by kernel_rfl
theorem bT78 : byT Try.prog 78 = 8 := by kernel_rfl
theorem zT78 : zT Try.prog 78 = some [.nilf] := by kernel_rfl
theorem eql1T78 {f : Nat} {c : List (Nat × Nat × Nat)}  : abin Try.prog .eql 78 (.c (.f f c)) (.c .nilf) = some (.c (.b false)) := by kernel_rfl
theorem eql2T78 : abin Try.prog .eql 78 (.c .nilf) (.c .nilf) = some (.c (.b true)) := by kernel_rfl
theorem neq1T78 {f : Nat} {c : List (Nat × Nat × Nat)}  : abin Try.prog .neq 78 (.c (.f f c)) (.c .nilf) = some (.c (.b true)) := by kernel_rfl
theorem neq2T78 : abin Try.prog .neq 78 (.c .nilf) (.c .nilf) = some (.c (.b false)) := by kernel_rfl
theorem dT79 : dT Try.prog 79 = .other := by kernel_rfl
theorem sT79 : szT Try.prog 79 = 1 := by kernel_rfl
theorem bT79 : byT Try.prog 79 = 8 := by kernel_rfl
theorem zT79 : zT Try.prog 79 = some [.nilf] := by kernel_rfl
theorem eql1T79 {f : Nat} {c : List (Nat × Nat × Nat)}  : abin Try.prog .eql 79 (.c (.f f c)) (.c .nilf) = some (.c (.b false)) := by kernel_rfl
theorem eql2T79 : abin Try.prog .eql 79 (.c .nilf) (.c .nilf) = some (.c (.b true)) := by kernel_rfl
theorem neq1T79 {f : Nat} {c : List (Nat × Nat × Nat)}  : abin Try.prog .neq 79 (.c (.f f c)) (.c .nilf) = some (.c (.b true)) := by kernel_rfl
theorem neq2T79 : abin Try.prog .neq 79 (.c .nilf) (.c .nilf) = some (.c (.b false)) := by kernel_rfl
theorem dT80 : dT Try.prog 80 = .other := by kernel_rfl
theorem sT80 : szT Try.prog 80 = 1 := by kernel_rfl
theorem bT80 : byT Try.prog 80 = 8 := by kernel_rfl
theorem zT80 : zT Try.prog 80 = some [.nilf] := by kernel_rfl
theorem eql1T80 {f : Nat} {c : List (Nat × Nat × Nat)}  : abin Try.prog .eql 80 (.c (.f f c)) (.c .nilf) = some (.c (.b false)) := by kernel_rfl
theorem eql2T80 : abin Try.prog .eql 80 (.c .nilf) (.c .nilf) = some (.c (.b true)) := by kernel_rfl
theorem neq1T80 {f : Nat} {c : List (Nat × Nat × Nat)}  : abin Try.prog .neq 80 (.c (.f f c)) (.c .nilf) = some (.c (.b true)) := by kernel_rfl
theorem neq2T80 : abin Try.prog .neq 80 (.c .nilf) (.c .nilf) = some (.c (.b false)) := by kernel_rfl
theorem dT81 : dT Try.prog 81 = .other := by kernel_rfl
theorem sT81 : szT Try.prog 81 = 1 := by kernel_rfl
theorem bT81 : byT Try.prog 81 = 8 := by kernel_rfl
theorem zT81 : zT Try.prog 81 = some [.nilf] := by kernel_rfl
theorem eql1T81 {f : Nat} {c : List (Nat × Nat × Nat)}  : abin Try.prog .eql 81 (.c (.f f c)) (.c .nilf) = some (.c (.b false)) := by kernel_rfl
theorem eql2T81 : abin Try.prog .eql 81 (.c .nilf) (.c .nilf) = some (.c (.b true)) := by kernel_rfl
theorem neq1T81 {f : Nat} {c : List (Nat × Nat × Nat)}  : abin Try.prog .neq 81 (.c (.f f c)) (.c .nilf) = some (.c (.b true)) := by kernel_rfl
theorem neq2T81 : abin Try.prog .neq 81 (.c .nilf) (.c .nilf) = some (.c (.b false)) := by kernel_rfl
theorem dT82 : dT Try.prog 82 = .other := by kernel_rfl
theorem sT82 : szT Try.prog 82 = 1 := by kernel_rfl
theorem bT82 : byT Try.prog 82 = 8 := by kernel_rfl
theorem zT82 : zT Try.prog 82 = some [.nilf] := by kernel_rfl
theorem eql1T82 {f : Nat} {c : List (Nat × Nat × Nat)}  : abin Try.prog .eql 82 (.c (.f f c)) (.c .nilf) = some (.c (.b false)) := by kernel_rfl
theorem eql2T82 : abin Try.prog .eql 82 (.c .nilf) (.c .nilf) = some (.c (.b true)) := by kernel_rfl
theorem neq1T82 {f : Nat} {c : List (Nat × Nat × Nat)}  : abin Try.prog .neq 82 (.c (.f f c)) (.c .nilf) = some (.c (.b true)) := by kernel_rfl
theorem neq2T82 : abin Try.prog .neq 82 (.c .nilf) (.c .nilf) = some (.c (.b false)) := by kernel_rfl
theorem dT83 : dT Try.prog 83 = .other := by kernel_rfl
theorem sT83 : szT Try.prog 83 = 1 := by kernel_rfl
theorem bT83 : byT Try.prog 83 = 8 := by kernel_rfl
theorem zT83 : zT Try.prog 83 = some [.nilf] := by kernel_rfl
theorem eql1T83 {f : Nat} {c : List (Nat × Nat × Nat)}  : abin Try.prog .eql 83 (.c (.f f c)) (.c .nilf) = some (.c (.b false)) := by kernel_rfl
theorem eql2T83 : abin Try.prog .eql 83 (.c .nilf) (.c .nilf) = some (.c (.b true)) := by kernel_rfl
theorem neq1T83 {f : Nat} {c : List (Nat × Nat × Nat)}  : abin Try.prog .neq 83 (.c (.f f c)) (.c .nilf) = some (.c (.b true)) := by kernel_rfl
theorem neq2T83 : abin Try.prog .neq 83 (.c .nilf) (.c .nilf) = some (.c (.b false)) := by kernel_rfl
theorem dT84 : dT Try.prog 84 = .other := by kernel_rfl
theorem sT84 : szT Try.prog 84 = 1 := by kernel_rfl
theorem bT84 : byT Try.prog 84 = 8 := by kernel_rfl
theorem zT84 : zT Try.prog 84 = some [.nilf] := by kernel_rfl
theorem eql1T84 {f : Nat} {c : List (Nat × Nat × Nat)}  : abin Try.prog .eql 84 (.c (.f f c)) (.c .nilf) = some (.c (.b false)) := by kernel_rfl
theorem eql2T84 : abin Try.prog .eql 84 (.c .nilf) (.c .nilf) = some (.c (.b true)) := by kernel_rfl
theorem neq1T84 {f : Nat} {c : List (Nat × Nat × Nat)}  : abin Try.prog .neq 84 (.c (.f f c)) (.c .nilf) = some (.c (.b true)) := by kernel_rfl
theorem neq2T84 : abin Try.prog .neq 84 (.c .nilf) (.c .nilf) = some (.c (.b false)) := by kernel_rfl
theorem dT85 : dT Try.prog 85 = .other := by kernel_rfl
theorem sT85 : szT Try.prog 85 = 1 := by kernel_rfl
theorem bT85 : byT Try.prog 85 = 8 := by kernel_rfl
theorem zT85 : zT Try.prog 85 = some [.nilf] := by kernel_rfl
theorem eql1T85 {f : Nat} {c : List (Nat × Nat × Nat)}  : abin Try.prog .eql 85 (.c (.f f c)) (.c .nilf) = some (.c (.b false)) := by kernel_rfl
theorem eql2T85 : abin Try.prog .eql 85 (.c .nilf) (.c .nilf) = some (.c (.b true)) := by kernel_rfl
theorem neq1T85 {f : Nat} {c : List (Nat × Nat × Nat)}  : abin Try.prog .neq 85 (.c (.f f c)) (.c .nilf) = some (.c (.b true)) := by kernel_rfl
theorem neq2T85 : abin Try.prog .neq 85 (.c .nilf) (.c .nilf) = some (.c (.b false)) := by kernel_rfl
theorem dT86 : dT Try.prog 86 = .int .u64 := by kernel_rfl
theorem sT86 : szT Try.prog 86 = 1 := by kernel_rfl
theorem bT86 : byT Try.prog 86 = 8 := by kernel_rfl
theorem zT86 : zT Try.prog 86 = some [.u 0#64] := by kernel_rfl
theorem dT87 : dT Try.prog 87 = .other := by kernel_rfl
theorem sT87 : szT Try.prog 87 = 1 := by kernel_rfl
theorem bT87 : byT Try.prog 87 = 8 := by kernel_rfl
theorem zT87 : zT Try.prog 87 = some [.nilf] := by kernel_rfl
theorem eql1T87 {f : Nat} {c : List (Nat × Nat × Nat)}  : abin Try.prog .eql 87 (.c (.f f c)) (.c .nilf) = some (.c (.b false)) := by kernel_rfl
theorem eql2T87 : abin Try.prog .eql 87 (.c .nilf) (.c .nilf) = some (.c (.b true)) := by kernel_rfl
theorem neq1T87 {f : Nat} {c : List (Nat × Nat × Nat)}  : abin Try.prog .neq 87 (.c (.f f c)) (.c .nilf) = some (.c (.b true)) := by kernel_rfl
theorem neq2T87 : abin Try.prog .neq 87 (.c .nilf) (.c .nilf) = some (.c (.b false)) := by kernel_rfl
theorem dT88 : dT Try.prog 88 = .int .i64 := by kernel_rfl
theorem sT88 : szT Try.prog 88 = 1 := by kernel_rfl
theorem bT88 : byT Try.prog 88 = 8 := by kernel_rfl
theorem zT88 : zT Try.prog 88 = some [.i 0] := by kernel_rfl
theorem dT90 : dT Try.prog 90 = .other := by kernel_rfl
theorem sT90 : szT Try.prog 90 = 1 := by kernel_rfl
theorem bT90 : byT Try.prog 90 = 8 := by kernel_rfl
theorem zT90 : zT Try.prog 90 = some [.nilf] := by kernel_rfl
theorem eql1T90 {f : Nat} {c : List (Nat × Nat × Nat)}  : abin Try.prog .eql 90 (.c (.f f c)) (.c .nilf) = some (.c (.b false)) := by kernel_rfl
theorem eql2T90 : abin Try.prog .eql 90 (.c .nilf) (.c .nilf) = some (.c (.b true)) := by kernel_rfl
theorem neq1T90 {f : Nat} {c : List (Nat × Nat × Nat)}  : abin Try.prog .neq 90 (.c (.f f c)) (.c .nilf) = some (.c (.b true)) := by kernel_rfl
theorem neq2T90 : abin Try.prog .neq 90 (.c .nilf) (.c .nilf) = some (.c (.b false)) := by kernel_rfl
theorem dT91 : dT Try.prog 91 = .other := by kernel_rfl
theorem sT91 : szT Try.prog 91 = 1 := by kernel_rfl
theorem bT91 : byT Try.prog 91 = 8 := by kernel_rfl
theorem zT91 : zT Try.prog 91 = some [.nilf] := by kernel_rfl
theorem eql1T91 {f : Nat} {c : List (Nat × Nat × Nat)}  : abin Try.prog .eql 91 (.c (.f f c)) (.c .nilf) = some (.c (.b false)) := by kernel_rfl
theorem eql2T91 : abin Try.prog .eql 91 (.c .nilf) (.c .nilf) = some (.c (.b true)) := by kernel_rfl
theorem neq1T91 {f : Nat} {c : List (Nat × Nat × Nat)}  : abin Try.prog .neq 91 (.c (.f f c)) (.c .nilf) = some (.c (.b true)) := by kernel_rfl
theorem neq2T91 : abin Try.prog .neq 91 (.c .nilf) (.c .nilf) = some (.c (.b false)) := by kernel_rfl
theorem dT92 : dT Try.prog 92 = .other := by kernel_rfl
theorem sT92 : szT Try.prog 92 = 1 := by kernel_rfl
theorem bT92 : byT Try.prog 92 = 8 := by kernel_rfl
theorem zT92 : zT Try.prog 92 = some [.nilf] := by kernel_rfl
theorem eql1T92 {f : Nat} {c : List (Nat × Nat × Nat)}  : abin Try.prog .eql 92 (.c (.f f c)) (.c .nilf) = some (.c (.b false)) := by kernel_rfl
theorem eql2T92 : abin Try.prog .eql 92 (.c .nilf) (.c .nilf) = some (.c (.b true)) := by kernel_rfl
theorem neq1T92 {f : Nat} {c : List (Nat × Nat × Nat)}  : abin Try.prog .neq 92 (.c (.f f c)) (.c .nilf) = some (.c (.b true)) := by kernel_rfl
theorem neq2T92 : abin Try.prog .neq 92 (.c .nilf) (.c .nilf) = some (.c (.b false)) := by kernel_rfl
theorem dT93 : dT Try.prog 93 = .other := by kernel_rfl
theorem sT93 : szT Try.prog 93 = 1 := by kernel_rfl
theorem bT93 : byT Try.prog 93 = 8 := by kernel_rfl
theorem zT93 : zT Try.prog 93 = some [.nilf] := by kernel_rfl
theorem eql1T93 {f : Nat} {c : List (Nat × Nat × Nat)}  : abin Try.prog .eql 93 (.c (.f f c)) (.c .nilf) = some (.c (.b false)) := by kernel_rfl
theorem eql2T93 : abin Try.prog .eql 93 (.c .nilf) (.c .nilf) = some (.c (.b true)) := by kernel_rfl
theorem neq1T93 {f : Nat} {c : List (Nat × Nat × Nat)}  : abin Try.prog .neq 93 (.c (.f f c)) (.c .nilf) = some (.c (.b true)) := by kernel_rfl
theorem neq2T93 : abin Try.prog .neq 93 (.c .nilf) (.c .nilf) = some (.c (.b false)) := by kernel_rfl
theorem dT94 : dT Try.prog 94 = .other := by kernel_rfl
theorem sT94 : szT Try.prog 94 = 1 := by kernel_rfl
theorem bT94 : byT Try.prog 94 = 8 := by kernel_rfl
theorem zT94 : zT Try.prog 94 = some [.nilf] := by kernel_rfl
theorem eql1T94 {f : Nat} {c : List (Nat × Nat × Nat)}  : abin Try.prog .eql 94 (.c (.f f c)) (.c .nilf) = some (.c (.b false)) := by kernel_rfl
theorem eql2T94 : abin Try.prog .eql 94 (.c .nilf) (.c .nilf) = some (.c (.b true)) := by kernel_rfl
theorem neq1T94 {f : Nat} {c : List (Nat × Nat × Nat)}  : abin Try.prog .neq 94 (.c (.f f c)) (.c .nilf) = some (.c (.b true)) := by kernel_rfl
theorem neq2T94 : abin Try.prog .neq 94 (.c .nilf) (.c .nilf) = some (.c (.b false)) := by kernel_rfl
theorem dT95 : dT Try.prog 95 = .other := by kernel_rfl
theorem sT95 : szT Try.prog 95 = 1 := by kernel_rfl
theorem bT95 : byT Try.prog 95 = 8 := by kernel_rfl
theorem zT95 : zT Try.prog 95 = some [.nilf] := by kernel_rfl
theorem eql1T95 {f : Nat} {c : List (Nat × Nat × Nat)}  : abin Try.prog .eql 95 (.c (.f f c)) (.c .nilf) = some (.c (.b false)) := by kernel_rfl
theorem eql2T95 : abin Try.prog .eql 95 (.c .nilf) (.c .nilf) = some (.c (.b true)) := by kernel_rfl
theorem neq1T95 {f : Nat} {c : List (Nat × Nat × Nat)}  : abin Try.prog .neq 95 (.c (.f f c)) (.c .nilf) = some (.c (.b true)) := by kernel_rfl
theorem neq2T95 : abin Try.prog .neq 95 (.c .nilf) (.c .nilf) = some (.c (.b false)) := by kernel_rfl
theorem dT96 : dT Try.prog 96 = .int .u32 := by kernel_rfl
theorem sT96 : szT Try.prog 96 = 1 := by kernel_rfl
theorem bT96 : byT Try.prog 96 = 4 := by kernel_rfl
theorem zT96 : zT Try.prog 96 = some [.k .u32 (0)] := by kernel_rfl
theorem dT97 : dT Try.prog 97 = .other := by kernel_rfl
theorem sT97 : szT Try.prog 97 = 1 := by kernel_rfl
theorem bT97 : byT Try.prog 97 = 8 := by kernel_rfl
theorem zT97 : zT Try.prog 97 = some [.nilf] := by kernel_rfl
theorem eql1T97 {f : Nat} {c : List (Nat × Nat × Nat)}  : abin Try.prog .eql 97 (.c (.f f c)) (.c .nilf) = some (.c (.b false)) := by kernel_rfl
theorem eql2T97 : abin Try.prog .eql 97 (.c .nilf) (.c .nilf) = some (.c (.b true)) := by kernel_rfl
theorem neq1T97 {f : Nat} {c : List (Nat × Nat × Nat)}  : abin Try.prog .neq 97 (.c (.f f c)) (.c .nilf) = some (.c (.b true)) := by kernel_rfl
theorem neq2T97 : abin Try.prog .neq 97 (.c .nilf) (.c .nilf) = some (.c (.b false)) := by kernel_rfl
theorem dT98 : dT Try.prog 98 = .int .u64 := by kernel_rfl
theorem sT98 : szT Try.prog 98 = 1 := by kernel_rfl
theorem bT98 : byT Try.prog 98 = 8 := by kernel_rfl
theorem zT98 : zT Try.prog 98 = some [.u 0#64] := by kernel_rfl
theorem dT99 : dT Try.prog 99 = .other := by kernel_rfl
theorem sT99 : szT Try.prog 99 = 1 := by kernel_rfl
theorem bT99 : byT Try.prog 99 = 8 := by kernel_rfl
theorem zT99 : zT Try.prog 99 = some [.nilf] := by kernel_rfl
theorem eql1T99 {f : Nat} {c : List (Nat × Nat × Nat)}  : abin Try.prog .eql 99 (.c (.f f c)) (.c .nilf) = some (.c (.b false)) := by kernel_rfl
theorem eql2T99 : abin Try.prog .eql 99 (.c .nilf) (.c .nilf) = some (.c (.b true)) := by kernel_rfl
theorem neq1T99 {f : Nat} {c : List (Nat × Nat × Nat)}  : abin Try.prog .neq 99 (.c (.f f c)) (.c .nilf) = some (.c (.b true)) := by kernel_rfl
theorem neq2T99 : abin Try.prog .neq 99 (.c .nilf) (.c .nilf) = some (.c (.b false)) := by kernel_rfl
theorem dT100 : dT Try.prog 100 = .other := by kernel_rfl
theorem sT100 : szT Try.prog 100 = 1 := by kernel_rfl
theorem bT100 : byT Try.prog 100 = 8 := by kernel_rfl
theorem zT100 : zT Try.prog 100 = some [.nilf] := by kernel_rfl
theorem eql1T100 {f : Nat} {c : List (Nat × Nat × Nat)}  : abin Try.prog .eql 100 (.c (.f f c)) (.c .nilf) = some (.c (.b false)) := by kernel_rfl
theorem eql2T100 : abin Try.prog .eql 100 (.c .nilf) (.c .nilf) = some (.c (.b true)) := by kernel_rfl
theorem neq1T100 {f : Nat} {c : List (Nat × Nat × Nat)}  : abin Try.prog .neq 100 (.c (.f f c)) (.c .nilf) = some (.c (.b true)) := by kernel_rfl
theorem neq2T100 : abin Try.prog .neq 100 (.c .nilf) (.c .nilf) = some (.c (.b false)) := by kernel_rfl
theorem dT101 : dT Try.prog 101 = .other := by kernel_rfl
theorem sT101 : szT Try.prog 101 = 1 := by kernel_rfl
theorem bT101 : byT Try.prog 101 = 8 := by kernel_rfl
theorem zT101 : zT Try.prog 101 = some [.nilf] := by kernel_rfl
theorem eql1T101 {f : Nat} {c : List (Nat × Nat × Nat)}  : abin Try.prog .eql 101 (.c (.f f c)) (.c .nilf) = some (.c (.b false)) := by kernel_rfl
theorem eql2T101 : abin Try.prog .eql 101 (.c .nilf) (.c .nilf) = some (.c (.b true)) := by kernel_rfl
theorem neq1T101 {f : Nat} {c : List (Nat × Nat × Nat)}  : abin Try.prog .neq 101 (.c (.f f c)) (.c .nilf) = some (.c (.b true)) := by kernel_rfl
theorem neq2T101 : abin Try.prog .neq 101 (.c .nilf) (.c .nilf) = some (.c (.b false)) := by kernel_rfl
theorem dT102 : dT Try.prog 102 = .ptr 3 := by kernel_rfl
theorem sT102 : szT Try.prog 102 = 1 := by kernel_rfl
theorem bT102 : byT Try.prog 102 = 8 := by kernel_rfl
theorem zT102 : zT Try.prog 102 = some [.nilp] := by kernel_rfl
theorem eql1T102 {a b c : Nat}  : abin Try.prog .eql 102 (.c (.p a b c)) (.c .nilp) = some (.c (.b false)) := by kernel_rfl
theorem eql2T102 : abin Try.prog .eql 102 (.c .nilp) (.c .nilp) = some (.c (.b true)) := by kernel_rfl
theorem neq1T102 {a b c : Nat}  : abin Try.prog .neq 102 (.c (.p a b c)) (.c .nilp) = some (.c (.b true)) := by kernel_rfl
theorem neq2T102 : abin Try.prog .neq 102 (.c .nilp) (.c .nilp) = some (.c (.b false)) := by kernel_rfl
theorem dT103 : dT Try.prog 103 = .other := by kernel_rfl
theorem sT103 : szT Try.prog 103 = 1 := by kernel_rfl
theorem bT103 : byT Try.prog 103 = 8 := by kernel_rfl
theorem zT103 : zT Try.prog 103 = some [.nilf] := by kernel_rfl
theorem eql1T103 {f : Nat} {c : List (Nat × Nat × Nat)}  : abin Try.prog .eql 103 (.c (.f f c)) (.c .nilf) = some (.c (.b false)) := by kernel_rfl
theorem eql2T103 : abin Try.prog .eql 103 (.c .nilf) (.c .nilf) = some (.c (.b true)) := by kernel_rfl
theorem neq1T103 {f : Nat} {c : List (Nat × Nat × Nat)}  : abin Try.prog .neq 103 (.c (.f f c)) (.c .nilf) = some (.c (.b true)) := by kernel_rfl
theorem neq2T103 : abin Try.prog .neq 103 (.c .nilf) (.c .nilf) = some (.c (.b false)) := by kernel_rfl
theorem dT104 : dT Try.prog 104 = .other := by kernel_rfl
theorem sT104 : szT Try.prog 104 = 1 := by kernel_rfl
theorem bT104 : byT Try.prog 104 = 8 := by kernel_rfl
theorem zT104 : zT Try.prog 104 = some [.nilf] := by kernel_rfl
theorem eql1T104 {f : Nat} {c : List (Nat × Nat × Nat)}  : abin Try.prog .eql 104 (.c (.f f c)) (.c .nilf) = some (.c (.b false)) := by kernel_rfl
theorem eql2T104 : abin Try.prog .eql 104 (.c .nilf) (.c .nilf) = some (.c (.b true)) := by kernel_rfl
theorem neq1T104 {f : Nat} {c : List (Nat × Nat × Nat)}  : abin Try.prog .neq 104 (.c (.f f c)) (.c .nilf) = some (.c (.b true)) := by kernel_rfl
theorem neq2T104 : abin Try.prog .neq 104 (.c .nilf) (.c .nilf) = some (.c (.b false)) := by kernel_rfl
theorem dT105 : dT Try.prog 105 = .ptr 98 := by kernel_rfl
theorem sT105 : szT Try.prog 105 = 1 := by kernel_rfl
theorem bT105 : byT Try.prog 105 = 8 := by kernel_rfl
theorem zT105 : zT Try.prog 105 = some [.nilp] := by kernel_rfl
theorem eql1T105 {a b c : Nat}  : abin Try.prog .eql 105 (.c (.p a b c)) (.c .nilp) = some (.c (.b false)) := by kernel_rfl
theorem eql2T105 : abin Try.prog .eql 105 (.c .nilp) (.c .nilp) = some (.c (.b true)) := by kernel_rfl
theorem neq1T105 {a b c : Nat}  : abin Try.prog .neq 105 (.c (.p a b c)) (.c .nilp) = some (.c (.b true)) := by kernel_rfl
theorem neq2T105 : abin Try.prog .neq 105 (.c .nilp) (.c .nilp) = some (.c (.b false)) := by kernel_rfl
theorem dT107 : dT Try.prog 107 = .other := by kernel_rfl
theorem sT107 : szT Try.prog 107 = 1 := by kernel_rfl
theorem bT107 : byT Try.prog 107 = 8 := by kernel_rfl
theorem zT107 : zT Try.prog 107 = some [.nilf] := by kernel_rfl
theorem eql1T107 {f : Nat} {c : List (Nat × Nat × Nat)}  : abin Try.prog .eql 107 (.c (.f f c)) (.c .nilf) = some (.c (.b false)) := by kernel_rfl
theorem eql2T107 : abin Try.prog .eql 107 (.c .nilf) (.c .nilf) = some (.c (.b true)) := by kernel_rfl
theorem neq1T107 {f : Nat} {c : List (Nat × Nat × Nat)}  : abin Try.prog .neq 107 (.c (.f f c)) (.c .nilf) = some (.c (.b true)) := by kernel_rfl
theorem neq2T107 : abin Try.prog .neq 107 (.c .nilf) (.c .nilf) = some (.c (.b false)) := by kernel_rfl
theorem dT108 : dT Try.prog 108 = .other := by kernel_rfl
theorem sT108 : szT Try.prog 108 = 1 := by kernel_rfl
theorem bT108 : byT Try.prog 108 = 8 := by kernel_rfl
theorem zT108 : zT Try.prog 108 = some [.nilf] := by kernel_rfl
theorem eql1T108 {f : Nat} {c : List (Nat × Nat × Nat)}  : abin Try.prog .eql 108 (.c (.f f c)) (.c .nilf) = some (.c (.b false)) := by kernel_rfl
theorem eql2T108 : abin Try.prog .eql 108 (.c .nilf) (.c .nilf) = some (.c (.b true)) := by kernel_rfl
theorem neq1T108 {f : Nat} {c : List (Nat × Nat × Nat)}  : abin Try.prog .neq 108 (.c (.f f c)) (.c .nilf) = some (.c (.b true)) := by kernel_rfl
theorem neq2T108 : abin Try.prog .neq 108 (.c .nilf) (.c .nilf) = some (.c (.b false)) := by kernel_rfl
theorem dT114 : dT Try.prog 114 = .other := by kernel_rfl
theorem sT114 : szT Try.prog 114 = 1 := by kernel_rfl
theorem bT114 : byT Try.prog 114 = 8 := by kernel_rfl
theorem zT114 : zT Try.prog 114 = some [.nilf] := by kernel_rfl
theorem eql1T114 {f : Nat} {c : List (Nat × Nat × Nat)}  : abin Try.prog .eql 114 (.c (.f f c)) (.c .nilf) = some (.c (.b false)) := by kernel_rfl
theorem eql2T114 : abin Try.prog .eql 114 (.c .nilf) (.c .nilf) = some (.c (.b true)) := by kernel_rfl
theorem neq1T114 {f : Nat} {c : List (Nat × Nat × Nat)}  : abin Try.prog .neq 114 (.c (.f f c)) (.c .nilf) = some (.c (.b true)) := by kernel_rfl
theorem neq2T114 : abin Try.prog .neq 114 (.c .nilf) (.c .nilf) = some (.c (.b false)) := by kernel_rfl
theorem dT117 : dT Try.prog 117 = .other := by kernel_rfl
theorem sT117 : szT Try.prog 117 = 1 := by kernel_rfl
theorem bT117 : byT Try.prog 117 = 8 := by kernel_rfl
theorem zT117 : zT Try.prog 117 = some [.nilf] := by kernel_rfl
theorem eql1T117 {f : Nat} {c : List (Nat × Nat × Nat)}  : abin Try.prog .eql 117 (.c (.f f c)) (.c .nilf) = some (.c (.b false)) := by kernel_rfl
theorem eql2T117 : abin Try.prog .eql 117 (.c .nilf) (.c .nilf) = some (.c (.b true)) := by kernel_rfl
theorem neq1T117 {f : Nat} {c : List (Nat × Nat × Nat)}  : abin Try.prog .neq 117 (.c (.f f c)) (.c .nilf) = some (.c (.b true)) := by kernel_rfl
theorem neq2T117 : abin Try.prog .neq 117 (.c .nilf) (.c .nilf) = some (.c (.b false)) := by kernel_rfl
theorem dT118 : dT Try.prog 118 = .ptr 5 := by kernel_rfl
theorem sT118 : szT Try.prog 118 = 1 := by kernel_rfl
theorem bT118 : byT Try.prog 118 = 8 := by kernel_rfl
theorem zT118 : zT Try.prog 118 = some [.nilp] := by kernel_rfl
theorem eql1T118 {a b c : Nat}  : abin Try.prog .eql 118 (.c (.p a b c)) (.c .nilp) = some (.c (.b false)) := by kernel_rfl
theorem eql2T118 : abin Try.prog .eql 118 (.c .nilp) (.c .nilp) = some (.c (.b true)) := by kernel_rfl
theorem neq1T118 {a b c : Nat}  : abin Try.prog .neq 118 (.c (.p a b c)) (.c .nilp) = some (.c (.b true)) := by kernel_rfl
theorem neq2T118 : abin Try.prog .neq 118 (.c .nilp) (.c .nilp) = some (.c (.b false)) := by kernel_rfl
theorem dT121 : dT Try.prog 121 = .st [(0, 12), (1, 12), (2, 96), (3, 115), (4, 5), (5, 5), (6, 116), (7, 117), (8, 118), (9, 119), (10, 120)] := by kernel_rfl
theorem sT121 : szT Try.prog 121 = 11 := by kernel_rfl
theorem bT121 : byT Try.prog 121 = 48 := by kernel_rfl
theorem zT121 : zT Try.prog 121 = some [.u 0#64, .u 0#64, .k .u32 (0), .k .u8 (0), .k .u8 (0), .k .u8 (0), .k .u8 (0), .nilf, .nilp, .k .i32 (0), .k .i32 (0)] := by kernel_rfl
attribute [go_sem] dT1 sT1 bT1 zT1 eql1T1 eql2T1 neq1T1 neq2T1 dT2 sT2 bT2 zT2 dT3 sT3 bT3 zT3 dT4 sT4 bT4 zT4 dT5 sT5 bT5 zT5 dT7 sT7 bT7 zT7 dT9 sT9 bT9 zT9 dT12 sT12 bT12 zT12 dT13 sT13 bT13 zT13 dT21 sT21 bT21 zT21 dT22 sT22 bT22 zT22 eql1T22 eql2T22 neq1T22 neq2T22 dT23 sT23 bT23 zT23 eql1T23 eql2T23 neq1T23 neq2T23 dT24 sT24 bT24 zT24 eql1T24 eql2T24 neq1T24 neq2T24 dT26 sT26 bT26 zT26 eql1T26 eql2T26 neq1T26 neq2T26 dT27 sT27 bT27 zT27 dT28 sT28 bT28 zT28 dT29 sT29 bT29 zT29 dT30 sT30 bT30 zT30 dT31 sT31 bT31 zT31 eqT31 neT31 dT32 sT32 bT32 zT32 dT33 sT33 bT33 zT33 eqT33 neT33 dT34 sT34 bT34 zT34 dT35 sT35 bT35 zT35 eqT35 neT35 dT36 sT36 bT36 zT36 eqT36 neT36 dT37 sT37 bT37 zT37 dT38 sT38 bT38 zT38 dT39 sT39 bT39 zT39 dT40 sT40 bT40 zT40 dT41 sT41 bT41 zT41 eql1T41 eql2T41 neq1T41 neq2T41 dT42 sT42 bT42 zT42 eql1T42 eql2T42 neq1T42 neq2T42 dT43 sT43 bT43 zT43 eql1T43 eql2T43 neq1T43 neq2T43 dT44 sT44 bT44 zT44 eql1T44 eql2T44 neq1T44 neq2T44 dT45 sT45 bT45 zT45 eqT45 neT45 dT46 sT46 bT46 zT46 eql1T46 eql2T46 neq1T46 neq2T46 dT47 sT47 bT47 zT47 eql1T47 eql2T47 neq1T47 neq2T47 dT48 sT48 bT48 zT48 eql1T48 eql2T48 neq1T48 neq2T48 dT49 sT49 bT49 zT49 eql1T49 eql2T49 neq1T49 neq2T49 dT50 sT50 bT50 zT50 eql1T50 eql2T50 neq1T50 neq2T50 dT51 sT51 bT51 zT51 eql1T51 eql2T51 neq1T51 neq2T51 dT52 sT52 bT52 zT52 eql1T52 eql2T52 neq1T52 neq2T52 dT54 sT54 bT54 zT54 eql1T54 eql2T54 neq1T54 neq2T54 dT55 sT55 bT55 zT55 eql1T55 eql2T55 neq1T55 neq2T55 dT56 sT56 bT56 zT56 eql1T56 eql2T56 neq1T56 neq2T56 dT57 sT57 bT57 zT57 eql1T57 eql2T57 neq1T57 neq2T57 dT58 sT58 bT58 zT58 eql1T58 eql2T58 neq1T58 neq2T58 dT59 sT59 bT59 zT59 eql1T59 eql2T59 neq1T59 neq2T59 dT60 sT60 bT60 zT60 eql1T60 eql2T60 neq1T60 neq2T60 dT61 sT61 bT61 zT61 eql1T61 eql2T61 neq1T61 neq2T61 dT62 sT62 bT62 zT62 eql1T62 eql2T62 neq1T62 neq2T62 dT63 sT63 bT63 zT63 eql1T63 eql2T63 neq1T63 neq2T63 dT64 sT64 bT64 zT64 eqT64 neT64 dT65 sT65 bT65 zT65 eql1T65 eql2T65 neq1T65 neq2T65 dT66 sT66 bT66 zT66 eql1T66 eql2T66 neq1T66 neq2T66 dT67 sT67 bT67 zT67 eql1T67 eql2T67 neq1T67 neq2T67 dT68 sT68 bT68 zT68 eql1T68 eql2T68 neq1T68 neq2T68 dT69 sT69 bT69 zT69 dT70 sT70 bT70 zT70 eqT70 neT70 dT71 sT71 bT71 zT71 eql1T71 eql2T71 neq1T71 neq2T71 dT72 sT72 bT72 zT72 dT73 sT73 bT73 zT73 eqT73 neT73 dT74 sT74 bT74 zT74 eql1T74 eql2T74 neq1T74 neq2T74 dT75 sT75 bT75 zT75 eql1T75 eql2T75 neq1T75 neq2T75 dT76 sT76 bT76 zT76 eql1T76 eql2T76 neq1T76 neq2T76 dT77 sT77 bT77 zT77 eqT77 neT77 dT78 sT78 bT78 zT78 eql1T78 eql2T78 neq1T78 neq2T78 dT79 sT79 bT79 zT79 eql1T79 eql2T79 neq1T79 neq2T79 dT80 sT80 bT80 zT80 eql1T80 eql2T80 neq1T80 neq2T80 dT81 sT81 bT81 zT81 eql1T81 eql2T81 neq1T81 neq2T81 dT82 sT82 bT82 zT82 eql1T82 eql2T82 neq1T82 neq2T82 dT83 sT83 bT83 zT83 eql1T83 eql2T83 neq1T83 neq2T83 dT84 sT84 bT84 zT84 eql1T84 eql2T84 neq1T84 neq2T84 dT85 sT85 bT85 zT85 eql1T85 eql2T85 neq1T85 neq2T85 dT86 sT86 bT86 zT86 dT87 sT87 bT87 zT87 eql1T87 eql2T87 neq1T87 neq2T87 dT88 sT88 bT88 zT88 dT90 sT90 bT90 zT90 eql1T90 eql2T90 neq1T90 neq2T90 dT91 sT91 bT91 zT91 eql1T91 eql2T91 neq1T91 neq2T91 dT92 sT92 bT92 zT92 eql1T92 eql2T92 neq1T92 neq2T92 dT93 sT93 bT93 zT93 eql1T93 eql2T93 neq1T93 neq2T93 dT94 sT94 bT94 zT94 eql1T94 eql2T94 neq1T94 neq2T94 dT95 sT95 bT95 zT95 eql1T95 eql2T95 neq1T95 neq2T95 dT96 sT96 bT96 zT96 dT97 sT97 bT97 zT97 eql1T97 eql2T97 neq1T97 neq2T97 dT98 sT98 bT98 zT98 dT99 sT99 bT99 zT99 eql1T99 eql2T99 neq1T99 neq2T99 dT100 sT100 bT100 zT100 eql1T100 eql2T100 neq1T100 neq2T100 dT101 sT101 bT101 zT101 eql1T101 eql2T101 neq1T101 neq2T101 dT102 sT102 bT102 zT102 eql1T102 eql2T102 neq1T102 neq2T102 dT103 sT103 bT103 zT103 eql1T103 eql2T103 neq1T103 neq2T103 dT104 sT104 bT104 zT104 eql1T104 eql2T104 neq1T104 neq2T104 dT105 sT105 bT105 zT105 eql1T105 eql2T105 neq1T105 neq2T105 dT107 sT107 bT107 zT107 eql1T107 eql2T107 neq1T107 neq2T107 dT108 sT108 bT108 zT108 eql1T108 eql2T108 neq1T108 neq2T108 dT114 sT114 bT114 zT114 eql1T114 eql2T114 neq1T114 neq2T114 dT117 sT117 bT117 zT117 eql1T117 eql2T117 neq1T117 neq2T117 dT118 sT118 bT118 zT118 eql1T118 eql2T118 neq1T118 neq2T118 dT121 sT121 bT121 zT121
end Go.Proofs.Ytamjmjllgmachaa
