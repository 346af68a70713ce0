/- The types of this translation, as the abstract machine reads them: closed facts. -/
import Derived.Test.YtfddaaplnnlfoaaProg
import Derived.Test.YtfddaaplnnlfoaaAw
namespace Go.Proofs.Ytfddaaplnnlfoaa
open Go.Am
set_option maxRecDepth 100000
def zRow (n : Nat) (s : Sc) : List Sc := List.replicate n s
theorem zRow_len {n : Nat} {s : Sc} : (zRow n s).length = n := List.length_replicate
attribute [go_sem] zRow_len
theorem hmix : Try.prog.follows .mixedOrders = true := by kernel_rfl
theorem dT1 : dT Try.prog 1 = .other := by kernel_rfl
theorem sT1 : szT Try.prog 1 = 1 := by kernel_rfl
theorem bT1 : byT Try.prog 1 = 8 := by kernel_rfl
theorem zT1 : zT Try.prog 1 = some [.nilf] := by kernel_rfl
theorem eql1T1 {f : Nat} {c : List (Nat × Nat × Nat)}  : abin Try.prog .eql 1 (.c (.f f c)) (.c .nilf) = some (.c (.b false)) := by kernel_rfl
theorem eql2T1 : abin Try.prog .eql 1 (.c .nilf) (.c .nilf) = some (.c (.b true)) := by kernel_rfl
theorem neq1T1 {f : Nat} {c : List (Nat × Nat × Nat)}  : abin Try.prog .neq 1 (.c (.f f c)) (.c .nilf) = some (.c (.b true)) := by kernel_rfl
theorem neq2T1 : abin Try.prog .neq 1 (.c .nilf) (.c .nilf) = some (.c (.b false)) := by kernel_rfl
theorem dT2 : dT Try.prog 2 = .int .i64 := by kernel_rfl
theorem sT2 : szT Try.prog 2 = 1 := by kernel_rfl
theorem bT2 : byT Try.prog 2 = 8 := by kernel_rfl
theorem zT2 : zT Try.prog 2 = some [.i 0] := by kernel_rfl
theorem dT3 : dT Try.prog 3 = .int .i64 := by kernel_rfl
theorem sT3 : szT Try.prog 3 = 1 := by kernel_rfl
theorem bT3 : byT Try.prog 3 = 8 := by kernel_rfl
theorem zT3 : zT Try.prog 3 = some [.i 0] := by kernel_rfl
theorem dT4 : dT Try.prog 4 = .bool := by kernel_rfl
theorem sT4 : szT Try.prog 4 = 1 := by kernel_rfl
theorem bT4 : byT Try.prog 4 = 1 := by kernel_rfl
theorem zT4 : zT Try.prog 4 = some [.b false] := by kernel_rfl
theorem dT5 : dT Try.prog 5 = .int .u8 := by kernel_rfl
theorem sT5 : szT Try.prog 5 = 1 := by kernel_rfl
theorem bT5 : byT Try.prog 5 = 1 := by kernel_rfl
theorem zT5 : zT Try.prog 5 = some [.k .u8 (0)] := by kernel_rfl
theorem dT7 : dT Try.prog 7 = .st [(0, 2), (1, 3), (2, 4), (3, 6)] := by kernel_rfl
theorem sT7 : szT Try.prog 7 = 4 := by kernel_rfl
theorem bT7 : byT Try.prog 7 = 24 := by kernel_rfl
theorem zT7 : zT Try.prog 7 = some [.i 0, .i 0, .b false, .k .u8 (0)] := by kernel_rfl
theorem dT9 : dT Try.prog 9 = .str := by kernel_rfl
theorem sT9 : szT Try.prog 9 = 1 := by kernel_rfl
theorem bT9 : byT Try.prog 9 = 16 := by kernel_rfl
theorem zT9 : zT Try.prog 9 = some [.s ByteArray.empty] := by kernel_rfl
theorem dT12 : dT Try.prog 12 = .int .u64 := by kernel_rfl
theorem sT12 : szT Try.prog 12 = 1 := by kernel_rfl
theorem bT12 : byT Try.prog 12 = 8 := by kernel_rfl
theorem zT12 : zT Try.prog 12 = some [.u 0#64] := by kernel_rfl
theorem dT13 : dT Try.prog 13 = .st [(0, 9), (1, 12)] := by kernel_rfl
theorem sT13 : szT Try.prog 13 = 2 := by kernel_rfl
theorem bT13 : byT Try.prog 13 = 24 := by kernel_rfl
theorem zT13 : zT Try.prog 13 = some [.s ByteArray.empty, .u 0#64] := by kernel_rfl
theorem dT21 : dT Try.prog 21 = .int .i32 := by kernel_rfl
theorem sT21 : szT Try.prog 21 = 1 := by kernel_rfl
theorem bT21 : byT Try.prog 21 = 4 := by kernel_rfl
theorem zT21 : zT Try.prog 21 = some [.k .i32 (0)] := by kernel_rfl
theorem dT22 : dT Try.prog 22 = .arr 2 5 := by kernel_rfl
theorem sT22 : szT Try.prog 22 = 2 := by kernel_rfl
theorem bT22 : byT Try.prog 22 = 2 := by kernel_rfl
theorem zT22 : zT Try.prog 22 = some [.k .u8 (0), .k .u8 (0)] := by kernel_rfl
theorem gT22 : tagsT Try.prog 12 22 = some [.n, .n] := by kernel_rfl
theorem eqT22 {a b : List Sc} : abin Try.prog .eql 22 (.g a) (.g b) = (csEq [.n, .n] a b).bind (eqU .eql) := ab_g_eql _ (by simp only [dT22, D.agg]) gT22
theorem neT22 {a b : List Sc} : abin Try.prog .neq 22 (.g a) (.g b) = (csEq [.n, .n] a b).bind (eqU .neq) := ab_g_neq _ (by simp only [dT22, D.agg]) gT22
theorem dT23 : dT Try.prog 23 = .ptr 91 := by kernel_rfl
theorem sT23 : szT Try.prog 23 = 1 := by kernel_rfl
theorem bT23 : byT Try.prog 23 = 8 := by kernel_rfl
theorem zT23 : zT Try.prog 23 = some [.nilp] := by kernel_rfl
theorem eql1T23 {a b c : Nat}  : abin Try.prog .eql 23 (.c (.p a b c)) (.c .nilp) = some (.c (.b false)) := by kernel_rfl
theorem eql2T23 : abin Try.prog .eql 23 (.c .nilp) (.c .nilp) = some (.c (.b true)) := by kernel_rfl
theorem neq1T23 {a b c : Nat}  : abin Try.prog .neq 23 (.c (.p a b c)) (.c .nilp) = some (.c (.b true)) := by kernel_rfl
theorem neq2T23 : abin Try.prog .neq 23 (.c .nilp) (.c .nilp) = some (.c (.b false)) := by kernel_rfl
theorem dT24 : dT Try.prog 24 = .int .i64 := by kernel_rfl
theorem sT24 : szT Try.prog 24 = 1 := by kernel_rfl
theorem bT24 : byT Try.prog 24 = 8 := by kernel_rfl
theorem zT24 : zT Try.prog 24 = some [.i 0] := by kernel_rfl
theorem dT26 : dT Try.prog 26 = .other := by kernel_rfl
theorem sT26 : szT Try.prog 26 = 1 := by kernel_rfl
theorem bT26 : byT Try.prog 26 = 8 := by kernel_rfl
theorem zT26 : zT Try.prog 26 = some [.nilf] := by kernel_rfl
theorem eql1T26 {f : Nat} {c : List (Nat × Nat × Nat)}  : abin Try.prog .eql 26 (.c (.f f c)) (.c .nilf) = some (.c (.b false)) := by kernel_rfl
theorem eql2T26 : abin Try.prog .eql 26 (.c .nilf) (.c .nilf) = some (.c (.b true)) := by kernel_rfl
theorem neq1T26 {f : Nat} {c : List (Nat × Nat × Nat)}  : abin Try.prog .neq 26 (.c (.f f c)) (.c .nilf) = some (.c (.b true)) := by kernel_rfl
theorem neq2T26 : abin Try.prog .neq 26 (.c .nilf) (.c .nilf) = some (.c (.b false)) := by kernel_rfl
theorem dT27 : dT Try.prog 27 = .int .u64 := by kernel_rfl
theorem sT27 : szT Try.prog 27 = 1 := by kernel_rfl
theorem bT27 : byT Try.prog 27 = 8 := by kernel_rfl
theorem zT27 : zT Try.prog 27 = some [.u 0#64] := by kernel_rfl
theorem dT28 : dT Try.prog 28 = .other := by kernel_rfl
theorem sT28 : szT Try.prog 28 = 1 := by kernel_rfl
theorem bT28 : byT Try.prog 28 = 8 := by kernel_rfl
theorem zT28 : zT Try.prog 28 = some [.nilf] := by kernel_rfl
theorem eql1T28 {f : Nat} {c : List (Nat × Nat × Nat)}  : abin Try.prog .eql 28 (.c (.f f c)) (.c .nilf) = some (.c (.b false)) := by kernel_rfl
theorem eql2T28 : abin Try.prog .eql 28 (.c .nilf) (.c .nilf) = some (.c (.b true)) := by kernel_rfl
theorem neq1T28 {f : Nat} {c : List (Nat × Nat × Nat)}  : abin Try.prog .neq 28 (.c (.f f c)) (.c .nilf) = some (.c (.b true)) := by kernel_rfl
theorem neq2T28 : abin Try.prog .neq 28 (.c .nilf) (.c .nilf) = some (.c (.b false)) := by kernel_rfl
theorem dT29 : dT Try.prog 29 = .st [(0, 4), (1, 4), (2, 4), (3, 27), (4, 3)] := by kernel_rfl
theorem sT29 : szT Try.prog 29 = 5 := by kernel_rfl
theorem bT29 : byT Try.prog 29 = 24 := by kernel_rfl
theorem zT29 : zT Try.prog 29 = some [.b false, .b false, .b false, .u 0#64, .i 0] := by kernel_rfl
theorem dT30 : dT Try.prog 30 = .st [(0, 4), (1, 4), (2, 4), (3, 27), (4, 3)] := by kernel_rfl
theorem sT30 : szT Try.prog 30 = 5 := by kernel_rfl
theorem bT30 : byT Try.prog 30 = 24 := by kernel_rfl
theorem zT30 : zT Try.prog 30 = some [.b false, .b false, .b false, .u 0#64, .i 0] := by kernel_rfl
theorem gT30 : tagsT Try.prog 12 30 = some [.q, .q, .q, .n, .n] := by kernel_rfl
theorem eqT30 {a b : List Sc} : abin Try.prog .eql 30 (.g a) (.g b) = (csEq [.q, .q, .q, .n, .n] a b).bind (eqU .eql) := ab_g_eql _ (by simp only [dT30, D.agg]) gT30
theorem neT30 {a b : List Sc} : abin Try.prog .neq 30 (.g a) (.g b) = (csEq [.q, .q, .q, .n, .n] a b).bind (eqU .neq) := ab_g_neq _ (by simp only [dT30, D.agg]) gT30
theorem dT31 : dT Try.prog 31 = .arr 8 30 := by kernel_rfl
theorem sT31 : szT Try.prog 31 = 40 := by kernel_rfl
theorem bT31 : byT Try.prog 31 = 192 := by kernel_rfl
theorem zT31 : zT Try.prog 31 = some [.b false, .b false, .b false, .u 0#64, .i 0, .b false, .b false, .b false, .u 0#64, .i 0, .b false, .b false, .b false, .u 0#64, .i 0, .b false, .b false, .b false, .u 0#64, .i 0, .b false, .b false, .b false, .u 0#64, .i 0, .b false, .b false, .b false, .u 0#64, .i 0, .b false, .b false, .b false, .u 0#64, .i 0, .b false, .b false, .b false, .u 0#64, .i 0] := by kernel_rfl
theorem gT31 : tagsT Try.prog 12 31 = some [.q, .q, .q, .n, .n, .q, .q, .q, .n, .n, .q, .q, .q, .n, .n, .q, .q, .q, .n, .n, .q, .q, .q, .n, .n, .q, .q, .q, .n, .n, .q, .q, .q, .n, .n, .q, .q, .q, .n, .n] := by kernel_rfl
theorem eqT31 {a b : List Sc} : abin Try.prog .eql 31 (.g a) (.g b) = (csEq [.q, .q, .q, .n, .n, .q, .q, .q, .n, .n, .q, .q, .q, .n, .n, .q, .q, .q, .n, .n, .q, .q, .q, .n, .n, .q, .q, .q, .n, .n, .q, .q, .q, .n, .n, .q, .q, .q, .n, .n] a b).bind (eqU .eql) := ab_g_eql _ (by simp only [dT31, D.agg]) gT31
theorem neT31 {a b : List Sc} : abin Try.prog .neq 31 (.g a) (.g b) = (csEq [.q, .q, .q, .n, .n, .q, .q, .q, .n, .n, .q, .q, .q, .n, .n, .q, .q, .q, .n, .n, .q, .q, .q, .n, .n, .q, .q, .q, .n, .n, .q, .q, .q, .n, .n, .q, .q, .q, .n, .n] a b).bind (eqU .neq) := ab_g_neq _ (by simp only [dT31, D.agg]) gT31
theorem dT32 : dT Try.prog 32 = .st [(0, 27), (1, 4), (2, 31)] := by kernel_rfl
theorem sT32 : szT Try.prog 32 = 42 := by kernel_rfl
theorem bT32 : byT Try.prog 32 = 208 := by kernel_rfl
theorem zT32 : zT Try.prog 32 = some [.u 0#64, .b false, .b false, .b false, .b false, .u 0#64, .i 0, .b false, .b false, .b false, .u 0#64, .i 0, .b false, .b false, .b false, .u 0#64, .i 0, .b false, .b false, .b false, .u 0#64, .i 0, .b false, .b false, .b false, .u 0#64, .i 0, .b false, .b false, .b false, .u 0#64, .i 0, .b false, .b false, .b false, .u 0#64, .i 0, .b false, .b false, .b false, .u 0#64, .i 0] := by kernel_rfl
theorem dT33 : dT Try.prog 33 = .st [(0, 27), (1, 4), (2, 31)] := by kernel_rfl
theorem sT33 : szT Try.prog 33 = 42 := by kernel_rfl
theorem bT33 : byT Try.prog 33 = 208 := by kernel_rfl
theorem zT33 : zT Try.prog 33 = some [.u 0#64, .b false, .b false, .b false, .b false, .u 0#64, .i 0, .b false, .b false, .b false, .u 0#64, .i 0, .b false, .b false, .b false, .u 0#64, .i 0, .b false, .b false, .b false, .u 0#64, .i 0, .b false, .b false, .b false, .u 0#64, .i 0, .b false, .b false, .b false, .u 0#64, .i 0, .b false, .b false, .b false, .u 0#64, .i 0, .b false, .b false, .b false, .u 0#64, .i 0] := by kernel_rfl
theorem dT35 : dT Try.prog 35 = .other := by kernel_rfl
theorem sT35 : szT Try.prog 35 = 1 := by kernel_rfl
theorem bT35 : byT Try.prog 35 = 8 := by kernel_rfl
theorem zT35 : zT Try.prog 35 = some [.nilf] := by kernel_rfl
theorem eql1T35 {f : Nat} {c : List (Nat × Nat × Nat)}  : abin Try.prog .eql 35 (.c (.f f c)) (.c .nilf) = some (.c (.b false)) := by kernel_rfl
theorem eql2T35 : abin Try.prog .eql 35 (.c .nilf) (.c .nilf) = some (.c (.b true)) := by kernel_rfl
theorem neq1T35 {f : Nat} {c : List (Nat × Nat × Nat)}  : abin Try.prog .neq 35 (.c (.f f c)) (.c .nilf) = some (.c (.b true)) := by kernel_rfl
theorem neq2T35 : abin Try.prog .neq 35 (.c .nilf) (.c .nilf) = some (.c (.b false)) := by kernel_rfl
theorem dT36 : dT Try.prog 36 = .int .i64 := by kernel_rfl
theorem sT36 : szT Try.prog 36 = 1 := by kernel_rfl
theorem bT36 : byT Try.prog 36 = 8 := by kernel_rfl
theorem zT36 : zT Try.prog 36 = some [.i 0] := by kernel_rfl
theorem dT37 : dT Try.prog 37 = .int .i64 := by kernel_rfl
theorem sT37 : szT Try.prog 37 = 1 := by kernel_rfl
theorem bT37 : byT Try.prog 37 = 8 := by kernel_rfl
theorem zT37 : zT Try.prog 37 = some [.i 0] := by kernel_rfl
theorem dT38 : dT Try.prog 38 = .st [(0, 3), (1, 27), (2, 3), (3, 27)] := by kernel_rfl
theorem sT38 : szT Try.prog 38 = 4 := by kernel_rfl
theorem bT38 : byT Try.prog 38 = 32 := by kernel_rfl
theorem zT38 : zT Try.prog 38 = some [.i 0, .u 0#64, .i 0, .u 0#64] := by kernel_rfl
theorem dT39 : dT Try.prog 39 = .st [(0, 3), (1, 27), (2, 3), (3, 27)] := by kernel_rfl
theorem sT39 : szT Try.prog 39 = 4 := by kernel_rfl
theorem bT39 : byT Try.prog 39 = 32 := by kernel_rfl
theorem zT39 : zT Try.prog 39 = some [.i 0, .u 0#64, .i 0, .u 0#64] := by kernel_rfl
theorem gT39 : tagsT Try.prog 12 39 = some [.n, .n, .n, .n] := by kernel_rfl
theorem eqT39 {a b : List Sc} : abin Try.prog .eql 39 (.g a) (.g b) = (csEq [.n, .n, .n, .n] a b).bind (eqU .eql) := ab_g_eql _ (by simp only [dT39, D.agg]) gT39
theorem neT39 {a b : List Sc} : abin Try.prog .neq 39 (.g a) (.g b) = (csEq [.n, .n, .n, .n] a b).bind (eqU .neq) := ab_g_neq _ (by simp only [dT39, D.agg]) gT39
theorem dT40 : dT Try.prog 40 = .st [(0, 36), (1, 27), (2, 27), (3, 3), (4, 3), (5, 37), (6, 27), (7, 27), (8, 4), (9, 3), (10, 30), (15, 39)] := by kernel_rfl
theorem sT40 : szT Try.prog 40 = 19 := by kernel_rfl
theorem bT40 : byT Try.prog 40 = 136 := by kernel_rfl
theorem zT40 : zT Try.prog 40 = some [.i 0, .u 0#64, .u 0#64, .i 0, .i 0, .i 0, .u 0#64, .u 0#64, .b false, .i 0, .b false, .b false, .b false, .u 0#64, .i 0, .i 0, .u 0#64, .i 0, .u 0#64] := by kernel_rfl
theorem dT41 : dT Try.prog 41 = .st [(0, 36), (1, 27), (2, 27), (3, 3), (4, 3), (5, 37), (6, 27), (7, 27), (8, 4), (9, 3), (10, 30), (15, 39)] := by kernel_rfl
theorem sT41 : szT Try.prog 41 = 19 := by kernel_rfl
theorem bT41 : byT Try.prog 41 = 136 := by kernel_rfl
theorem zT41 : zT Try.prog 41 = some [.i 0, .u 0#64, .u 0#64, .i 0, .i 0, .i 0, .u 0#64, .u 0#64, .b false, .i 0, .b false, .b false, .b false, .u 0#64, .i 0, .i 0, .u 0#64, .i 0, .u 0#64] := by kernel_rfl
theorem gT41 : tagsT Try.prog 12 41 = some [.n, .n, .n, .n, .n, .n, .n, .n, .q, .n, .q, .q, .q, .n, .n, .n, .n, .n, .n] := by kernel_rfl
theorem eqT41 {a b : List Sc} : abin Try.prog .eql 41 (.g a) (.g b) = (csEq [.n, .n, .n, .n, .n, .n, .n, .n, .q, .n, .q, .q, .q, .n, .n, .n, .n, .n, .n] a b).bind (eqU .eql) := ab_g_eql _ (by simp only [dT41, D.agg]) gT41
theorem neT41 {a b : List Sc} : abin Try.prog .neq 41 (.g a) (.g b) = (csEq [.n, .n, .n, .n, .n, .n, .n, .n, .q, .n, .q, .q, .q, .n, .n, .n, .n, .n, .n] a b).bind (eqU .neq) := ab_g_neq _ (by simp only [dT41, D.agg]) gT41
theorem dT42 : dT Try.prog 42 = .other := by kernel_rfl
theorem sT42 : szT Try.prog 42 = 1 := by kernel_rfl
theorem bT42 : byT Try.prog 42 = 8 := by kernel_rfl
theorem zT42 : zT Try.prog 42 = some [.nilf] := by kernel_rfl
theorem eql1T42 {f : Nat} {c : List (Nat × Nat × Nat)}  : abin Try.prog .eql 42 (.c (.f f c)) (.c .nilf) = some (.c (.b false)) := by kernel_rfl
theorem eql2T42 : abin Try.prog .eql 42 (.c .nilf) (.c .nilf) = some (.c (.b true)) := by kernel_rfl
theorem neq1T42 {f : Nat} {c : List (Nat × Nat × Nat)}  : abin Try.prog .neq 42 (.c (.f f c)) (.c .nilf) = some (.c (.b true)) := by kernel_rfl
theorem neq2T42 : abin Try.prog .neq 42 (.c .nilf) (.c .nilf) = some (.c (.b false)) := by kernel_rfl
theorem dT43 : dT Try.prog 43 = .other := by kernel_rfl
theorem sT43 : szT Try.prog 43 = 1 := by kernel_rfl
theorem bT43 : byT Try.prog 43 = 8 := by kernel_rfl
theorem zT43 : zT Try.prog 43 = some [.nilf] := by kernel_rfl
theorem eql1T43 {f : Nat} {c : List (Nat × Nat × Nat)}  : abin Try.prog .eql 43 (.c (.f f c)) (.c .nilf) = some (.c (.b false)) := by kernel_rfl
theorem eql2T43 : abin Try.prog .eql 43 (.c .nilf) (.c .nilf) = some (.c (.b true)) := by kernel_rfl
theorem neq1T43 {f : Nat} {c : List (Nat × Nat × Nat)}  : abin Try.prog .neq 43 (.c (.f f c)) (.c .nilf) = some (.c (.b true)) := by kernel_rfl
theorem neq2T43 : abin Try.prog .neq 43 (.c .nilf) (.c .nilf) = some (.c (.b false)) := by kernel_rfl
theorem dT44 : dT Try.prog 44 = .other := by kernel_rfl
theorem sT44 : szT Try.prog 44 = 1 := by kernel_rfl
theorem bT44 : byT Try.prog 44 = 8 := by kernel_rfl
theorem zT44 : zT Try.prog 44 = some [.nilf] := by kernel_rfl
theorem eql1T44 {f : Nat} {c : List (Nat × Nat × Nat)}  : abin Try.prog .eql 44 (.c (.f f c)) (.c .nilf) = some (.c (.b false)) := by kernel_rfl
theorem eql2T44 : abin Try.prog .eql 44 (.c .nilf) (.c .nilf) = some (.c (.b true)) := by kernel_rfl
theorem neq1T44 {f : Nat} {c : List (Nat × Nat × Nat)}  : abin Try.prog .neq 44 (.c (.f f c)) (.c .nilf) = some (.c (.b true)) := by kernel_rfl
theorem neq2T44 : abin Try.prog .neq 44 (.c .nilf) (.c .nilf) = some (.c (.b false)) := by kernel_rfl
theorem dT45 : dT Try.prog 45 = .other := by kernel_rfl
theorem sT45 : szT Try.prog 45 = 1 := by kernel_rfl
theorem bT45 : byT Try.prog 45 = 8 := by kernel_rfl
theorem zT45 : zT Try.prog 45 = some [.nilf] := by kernel_rfl
theorem eql1T45 {f : Nat} {c : List (Nat × Nat × Nat)}  : abin Try.prog .eql 45 (.c (.f f c)) (.c .nilf) = some (.c (.b false)) := by kernel_rfl
theorem eql2T45 : abin Try.prog .eql 45 (.c .nilf) (.c .nilf) = some (.c (.b true)) := by kernel_rfl
theorem neq1T45 {f : Nat} {c : List (Nat × Nat × Nat)}  : abin Try.prog .neq 45 (.c (.f f c)) (.c .nilf) = some (.c (.b true)) := by kernel_rfl
theorem neq2T45 : abin Try.prog .neq 45 (.c .nilf) (.c .nilf) = some (.c (.b false)) := by kernel_rfl
theorem dT46 : dT Try.prog 46 = .other := by kernel_rfl
theorem sT46 : szT Try.prog 46 = 1 := by kernel_rfl
theorem bT46 : byT Try.prog 46 = 8 := by kernel_rfl
theorem zT46 : zT Try.prog 46 = some [.nilf] := by kernel_rfl
theorem eql1T46 {f : Nat} {c : List (Nat × Nat × Nat)}  : abin Try.prog .eql 46 (.c (.f f c)) (.c .nilf) = some (.c (.b false)) := by kernel_rfl
theorem eql2T46 : abin Try.prog .eql 46 (.c .nilf) (.c .nilf) = some (.c (.b true)) := by kernel_rfl
theorem neq1T46 {f : Nat} {c : List (Nat × Nat × Nat)}  : abin Try.prog .neq 46 (.c (.f f c)) (.c .nilf) = some (.c (.b true)) := by kernel_rfl
theorem neq2T46 : abin Try.prog .neq 46 (.c .nilf) (.c .nilf) = some (.c (.b false)) := by kernel_rfl
theorem dT47 : dT Try.prog 47 = .sl 5 := by kernel_rfl
theorem sT47 : szT Try.prog 47 = 1 := by kernel_rfl
theorem bT47 : byT Try.prog 47 = 24 := by kernel_rfl
theorem zT47 : zT Try.prog 47 = some [.nils] := by kernel_rfl
theorem eql1T47 {a b c n : Nat}  : abin Try.prog .eql 47 (.c (.sl a b c n)) (.c .nils) = if n = 0 then some (.c .qq) else some (.c (.b false)) := by kernel_rfl
theorem eql2T47 : abin Try.prog .eql 47 (.c .nils) (.c .nils) = some (.c (.b true)) := by kernel_rfl
theorem neq1T47 {a b c n : Nat}  : abin Try.prog .neq 47 (.c (.sl a b c n)) (.c .nils) = if n = 0 then some (.c .qq) else some (.c (.b true)) := by kernel_rfl
theorem neq2T47 : abin Try.prog .neq 47 (.c .nils) (.c .nils) = some (.c (.b false)) := by kernel_rfl
theorem dT48 : dT Try.prog 48 = .other := by kernel_rfl
theorem sT48 : szT Try.prog 48 = 1 := by kernel_rfl
theorem bT48 : byT Try.prog 48 = 8 := by kernel_rfl
theorem zT48 : zT Try.prog 48 = some [.nilf] := by kernel_rfl
theorem eql1T48 {f : Nat} {c : List (Nat × Nat × Nat)}  : abin Try.prog .eql 48 (.c (.f f c)) (.c .nilf) = some (.c (.b false)) := by kernel_rfl
theorem eql2T48 : abin Try.prog .eql 48 (.c .nilf) (.c .nilf) = some (.c (.b true)) := by kernel_rfl
theorem neq1T48 {f : Nat} {c : List (Nat × Nat × Nat)}  : abin Try.prog .neq 48 (.c (.f f c)) (.c .nilf) = some (.c (.b true)) := by kernel_rfl
theorem neq2T48 : abin Try.prog .neq 48 (.c .nilf) (.c .nilf) = some (.c (.b false)) := by kernel_rfl
theorem dT49 : dT Try.prog 49 = .other := by kernel_rfl
theorem sT49 : szT Try.prog 49 = 1 := by kernel_rfl
theorem bT49 : byT Try.prog 49 = 8 := by kernel_rfl
theorem zT49 : zT Try.prog 49 = some [.nilf] := by kernel_rfl
theorem eql1T49 {f : Nat} {c : List (Nat × Nat × Nat)}  : abin Try.prog .eql 49 (.c (.f f c)) (.c .nilf) = some (.c (.b false)) := by kernel_rfl
theorem eql2T49 : abin Try.prog .eql 49 (.c .nilf) (.c .nilf) = some (.c (.b true)) := by kernel_rfl
theorem neq1T49 {f : Nat} {c : List (Nat × Nat × Nat)}  : abin Try.prog .neq 49 (.c (.f f c)) (.c .nilf) = some (.c (.b true)) := by kernel_rfl
theorem neq2T49 : abin Try.prog .neq 49 (.c .nilf) (.c .nilf) = some (.c (.b false)) := by kernel_rfl
theorem dT50 : dT Try.prog 50 = .other := by kernel_rfl
theorem sT50 : szT Try.prog 50 = 1 := by kernel_rfl
theorem bT50 : byT Try.prog 50 = 8 := by kernel_rfl
theorem zT50 : zT Try.prog 50 = some [.nilf] := by kernel_rfl
theorem eql1T50 {f : Nat} {c : List (Nat × Nat × Nat)}  : abin Try.prog .eql 50 (.c (.f f c)) (.c .nilf) = some (.c (.b false)) := by kernel_rfl
theorem eql2T50 : abin Try.prog .eql 50 (.c .nilf) (.c .nilf) = some (.c (.b true)) := by kernel_rfl
theorem neq1T50 {f : Nat} {c : List (Nat × Nat × Nat)}  : abin Try.prog .neq 50 (.c (.f f c)) (.c .nilf) = some (.c (.b true)) := by kernel_rfl
theorem neq2T50 : abin Try.prog .neq 50 (.c .nilf) (.c .nilf) = some (.c (.b false)) := by kernel_rfl
theorem dT51 : dT Try.prog 51 = .other := by kernel_rfl
theorem sT51 : szT Try.prog 51 = 1 := by kernel_rfl
theorem bT51 : byT Try.prog 51 = 8 := by kernel_rfl
theorem zT51 : zT Try.prog 51 = some [.nilf] := by kernel_rfl
theorem eql1T51 {f : Nat} {c : List (Nat × Nat × Nat)}  : abin Try.prog .eql 51 (.c (.f f c)) (.c .nilf) = some (.c (.b false)) := by kernel_rfl
theorem eql2T51 : abin Try.prog .eql 51 (.c .nilf) (.c .nilf) = some (.c (.b true)) := by kernel_rfl
theorem neq1T51 {f : Nat} {c : List (Nat × Nat × Nat)}  : abin Try.prog .neq 51 (.c (.f f c)) (.c .nilf) = some (.c (.b true)) := by kernel_rfl
theorem neq2T51 : abin Try.prog .neq 51 (.c .nilf) (.c .nilf) = some (.c (.b false)) := by kernel_rfl
theorem dT52 : dT Try.prog 52 = .other := by kernel_rfl
theorem sT52 : szT Try.prog 52 = 1 := by kernel_rfl
theorem bT52 : byT Try.prog 52 = 8 := by kernel_rfl
theorem zT52 : zT Try.prog 52 = some [.nilf] := by kernel_rfl
theorem eql1T52 {f : Nat} {c : List (Nat × Nat × Nat)}  : abin Try.prog .eql 52 (.c (.f f c)) (.c .nilf) = some (.c (.b false)) := by kernel_rfl
theorem eql2T52 : abin Try.prog .eql 52 (.c .nilf) (.c .nilf) = some (.c (.b true)) := by kernel_rfl
theorem neq1T52 {f : Nat} {c : List (Nat × Nat × Nat)}  : abin Try.prog .neq 52 (.c (.f f c)) (.c .nilf) = some (.c (.b true)) := by kernel_rfl
theorem neq2T52 : abin Try.prog .neq 52 (.c .nilf) (.c .nilf) = some (.c (.b false)) := by kernel_rfl
theorem dT53 : dT Try.prog 53 = .other := by kernel_rfl
theorem sT53 : szT Try.prog 53 = 1 := by kernel_rfl
theorem bT53 : byT Try.prog 53 = 8 := by kernel_rfl
theorem zT53 : zT Try.prog 53 = some [.nilf] := by kernel_rfl
theorem eql1T53 {f : Nat} {c : List (Nat × Nat × Nat)}  : abin Try.prog .eql 53 (.c (.f f c)) (.c .nilf) = some (.c (.b false)) := by kernel_rfl
theorem eql2T53 : abin Try.prog .eql 53 (.c .nilf) (.c .nilf) = some (.c (.b true)) := by kernel_rfl
theorem neq1T53 {f : Nat} {c : List (Nat × Nat × Nat)}  : abin Try.prog .neq 53 (.c (.f f c)) (.c .nilf) = some (.c (.b true)) := by kernel_rfl
theorem neq2T53 : abin Try.prog .neq 53 (.c .nilf) (.c .nilf) = some (.c (.b false)) := by kernel_rfl
theorem dT54 : dT Try.prog 54 = .arr 8 27 := by kernel_rfl
theorem sT54 : szT Try.prog 54 = 8 := by kernel_rfl
theorem bT54 : byT Try.prog 54 = 64 := by kernel_rfl
theorem zT54 : zT Try.prog 54 = some [.u 0#64, .u 0#64, .u 0#64, .u 0#64, .u 0#64, .u 0#64, .u 0#64, .u 0#64] := by kernel_rfl
theorem gT54 : tagsT Try.prog 12 54 = some [.n, .n, .n, .n, .n, .n, .n, .n] := by kernel_rfl
theorem eqT54 {a b : List Sc} : abin Try.prog .eql 54 (.g a) (.g b) = (csEq [.n, .n, .n, .n, .n, .n, .n, .n] a b).bind (eqU .eql) := ab_g_eql _ (by simp only [dT54, D.agg]) gT54
theorem neT54 {a b : List Sc} : abin Try.prog .neq 54 (.g a) (.g b) = (csEq [.n, .n, .n, .n, .n, .n, .n, .n] a b).bind (eqU .neq) := ab_g_neq _ (by simp only [dT54, D.agg]) gT54
theorem dT55 : dT Try.prog 55 = .arr 8 4 := by kernel_rfl
theorem sT55 : szT Try.prog 55 = 8 := by kernel_rfl
theorem bT55 : byT Try.prog 55 = 8 := by kernel_rfl
theorem zT55 : zT Try.prog 55 = some [.b false, .b false, .b false, .b false, .b false, .b false, .b false, .b false] := by kernel_rfl
theorem gT55 : tagsT Try.prog 12 55 = some [.q, .q, .q, .q, .q, .q, .q, .q] := by kernel_rfl
theorem eqT55 {a b : List Sc} : abin Try.prog .eql 55 (.g a) (.g b) = (csEq [.q, .q, .q, .q, .q, .q, .q, .q] a b).bind (eqU .eql) := ab_g_eql _ (by simp only [dT55, D.agg]) gT55
theorem neT55 {a b : List Sc} : abin Try.prog .neq 55 (.g a) (.g b) = (csEq [.q, .q, .q, .q, .q, .q, .q, .q] a b).bind (eqU .neq) := ab_g_neq _ (by simp only [dT55, D.agg]) gT55
theorem dT56 : dT Try.prog 56 = .st [(0, 3), (1, 27), (2, 54), (10, 55)] := by kernel_rfl
theorem sT56 : szT Try.prog 56 = 18 := by kernel_rfl
theorem bT56 : byT Try.prog 56 = 88 := by kernel_rfl
theorem zT56 : zT Try.prog 56 = some [.i 0, .u 0#64, .u 0#64, .u 0#64, .u 0#64, .u 0#64, .u 0#64, .u 0#64, .u 0#64, .u 0#64, .b false, .b false, .b false, .b false, .b false, .b false, .b false, .b false] := by kernel_rfl
theorem dT57 : dT Try.prog 57 = .st [(0, 3), (1, 27), (2, 54), (10, 55)] := by kernel_rfl
theorem sT57 : szT Try.prog 57 = 18 := by kernel_rfl
theorem bT57 : byT Try.prog 57 = 88 := by kernel_rfl
theorem zT57 : zT Try.prog 57 = some [.i 0, .u 0#64, .u 0#64, .u 0#64, .u 0#64, .u 0#64, .u 0#64, .u 0#64, .u 0#64, .u 0#64, .b false, .b false, .b false, .b false, .b false, .b false, .b false, .b false] := by kernel_rfl
theorem gT57 : tagsT Try.prog 12 57 = some [.n, .n, .n, .n, .n, .n, .n, .n, .n, .n, .q, .q, .q, .q, .q, .q, .q, .q] := by kernel_rfl
theorem eqT57 {a b : List Sc} : abin Try.prog .eql 57 (.g a) (.g b) = (csEq [.n, .n, .n, .n, .n, .n, .n, .n, .n, .n, .q, .q, .q, .q, .q, .q, .q, .q] a b).bind (eqU .eql) := ab_g_eql _ (by simp only [dT57, D.agg]) gT57
theorem neT57 {a b : List Sc} : abin Try.prog .neq 57 (.g a) (.g b) = (csEq [.n, .n, .n, .n, .n, .n, .n, .n, .n, .n, .q, .q, .q, .q, .q, .q, .q, .q] a b).bind (eqU .neq) := ab_g_neq _ (by simp only [dT57, D.agg]) gT57
theorem dT58 : dT Try.prog 58 = .arr 32 3 := by kernel_rfl
theorem sT58 : szT Try.prog 58 = 32 := by kernel_rfl
theorem bT58 : byT Try.prog 58 = 256 := by kernel_rfl
theorem zT58 : zT Try.prog 58 = some [.i 0, .i 0, .i 0, .i 0, .i 0, .i 0, .i 0, .i 0, .i 0, .i 0, .i 0, .i 0, .i 0, .i 0, .i 0, .i 0, .i 0, .i 0, .i 0, .i 0, .i 0, .i 0, .i 0, .i 0, .i 0, .i 0, .i 0, .i 0, .i 0, .i 0, .i 0, .i 0] := by kernel_rfl
theorem gT58 : tagsT Try.prog 12 58 = some [.n, .n, .n, .n, .n, .n, .n, .n, .n, .n, .n, .n, .n, .n, .n, .n, .n, .n, .n, .n, .n, .n, .n, .n, .n, .n, .n, .n, .n, .n, .n, .n] := by kernel_rfl
theorem eqT58 {a b : List Sc} : abin Try.prog .eql 58 (.g a) (.g b) = (csEq [.n, .n, .n, .n, .n, .n, .n, .n, .n, .n, .n, .n, .n, .n, .n, .n, .n, .n, .n, .n, .n, .n, .n, .n, .n, .n, .n, .n, .n, .n, .n, .n] a b).bind (eqU .eql) := ab_g_eql _ (by simp only [dT58, D.agg]) gT58
theorem neT58 {a b : List Sc} : abin Try.prog .neq 58 (.g a) (.g b) = (csEq [.n, .n, .n, .n, .n, .n, .n, .n, .n, .n, .n, .n, .n, .n, .n, .n, .n, .n, .n, .n, .n, .n, .n, .n, .n, .n, .n, .n, .n, .n, .n, .n] a b).bind (eqU .neq) := ab_g_neq _ (by simp only [dT58, D.agg]) gT58
theorem dT59 : dT Try.prog 59 = .arr 32 4 := by kernel_rfl
theorem sT59 : szT Try.prog 59 = 32 := by kernel_rfl
theorem bT59 : byT Try.prog 59 = 32 := by kernel_rfl
theorem zT59 : zT Try.prog 59 = some [.b false, .b false, .b false, .b false, .b false, .b false, .b false, .b false, .b false, .b false, .b false, .b false, .b false, .b false, .b false, .b false, .b false, .b false, .b false, .b false, .b false, .b false, .b false, .b false, .b false, .b false, .b false, .b false, .b false, .b false, .b false, .b false] := by kernel_rfl
theorem gT59 : tagsT Try.prog 12 59 = some [.q, .q, .q, .q, .q, .q, .q, .q, .q, .q, .q, .q, .q, .q, .q, .q, .q, .q, .q, .q, .q, .q, .q, .q, .q, .q, .q, .q, .q, .q, .q, .q] := by kernel_rfl
theorem eqT59 {a b : List Sc} : abin Try.prog .eql 59 (.g a) (.g b) = (csEq [.q, .q, .q, .q, .q, .q, .q, .q, .q, .q, .q, .q, .q, .q, .q, .q, .q, .q, .q, .q, .q, .q, .q, .q, .q, .q, .q, .q, .q, .q, .q, .q] a b).bind (eqU .eql) := ab_g_eql _ (by simp only [dT59, D.agg]) gT59
theorem neT59 {a b : List Sc} : abin Try.prog .neq 59 (.g a) (.g b) = (csEq [.q, .q, .q, .q, .q, .q, .q, .q, .q, .q, .q, .q, .q, .q, .q, .q, .q, .q, .q, .q, .q, .q, .q, .q, .q, .q, .q, .q, .q, .q, .q, .q] a b).bind (eqU .neq) := ab_g_neq _ (by simp only [dT59, D.agg]) gT59
theorem dT60 : dT Try.prog 60 = .arr 16 59 := by kernel_rfl
theorem sT60 : szT Try.prog 60 = 512 := by kernel_rfl
theorem bT60 : byT Try.prog 60 = 512 := by kernel_rfl
theorem zT60 : zT Try.prog 60 = some (zRow 512 (.b false)) := by kernel_rfl
theorem dT61 : dT Try.prog 61 = .arr 16 3 := by kernel_rfl
theorem sT61 : szT Try.prog 61 = 16 := by kernel_rfl
theorem bT61 : byT Try.prog 61 = 128 := by kernel_rfl
theorem zT61 : zT Try.prog 61 = some [.i 0, .i 0, .i 0, .i 0, .i 0, .i 0, .i 0, .i 0, .i 0, .i 0, .i 0, .i 0, .i 0, .i 0, .i 0, .i 0] := by kernel_rfl
theorem gT61 : tagsT Try.prog 12 61 = some [.n, .n, .n, .n, .n, .n, .n, .n, .n, .n, .n, .n, .n, .n, .n, .n] := by kernel_rfl
theorem eqT61 {a b : List Sc} : abin Try.prog .eql 61 (.g a) (.g b) = (csEq [.n, .n, .n, .n, .n, .n, .n, .n, .n, .n, .n, .n, .n, .n, .n, .n] a b).bind (eqU .eql) := ab_g_eql _ (by simp only [dT61, D.agg]) gT61
theorem neT61 {a b : List Sc} : abin Try.prog .neq 61 (.g a) (.g b) = (csEq [.n, .n, .n, .n, .n, .n, .n, .n, .n, .n, .n, .n, .n, .n, .n, .n] a b).bind (eqU .neq) := ab_g_neq _ (by simp only [dT61, D.agg]) gT61
theorem dT62 : dT Try.prog 62 = .st [(0, 3), (1, 58), (33, 59), (65, 59), (97, 59), (129, 60), (641, 61)] := by kernel_rfl
theorem sT62 : szT Try.prog 62 = 657 := by kernel_rfl
theorem bT62 : byT Try.prog 62 = 1000 := by kernel_rfl
theorem dT63 : dT Try.prog 63 = .st [(0, 3), (1, 58), (33, 59), (65, 59), (97, 59), (129, 60), (641, 61)] := by kernel_rfl
theorem sT63 : szT Try.prog 63 = 657 := by kernel_rfl
theorem bT63 : byT Try.prog 63 = 1000 := by kernel_rfl
theorem dT64 : dT Try.prog 64 = .st [(0, 3), (1, 3), (2, 3), (3, 3), (4, 3), (5, 3), (6, 4), (7, 4), (8, 4), (9, 47), (10, 47)] := by kernel_rfl
theorem sT64 : szT Try.prog 64 = 11 := by kernel_rfl
theorem bT64 : byT Try.prog 64 = 104 := by kernel_rfl
theorem zT64 : zT Try.prog 64 = some [.i 0, .i 0, .i 0, .i 0, .i 0, .i 0, .b false, .b false, .b false, .nils, .nils] := by kernel_rfl
theorem dT65 : dT Try.prog 65 = .st [(0, 3), (1, 3), (2, 3), (3, 3), (4, 3), (5, 3), (6, 4), (7, 4), (8, 4), (9, 47), (10, 47)] := by kernel_rfl
theorem sT65 : szT Try.prog 65 = 11 := by kernel_rfl
theorem bT65 : byT Try.prog 65 = 104 := by kernel_rfl
theorem zT65 : zT Try.prog 65 = some [.i 0, .i 0, .i 0, .i 0, .i 0, .i 0, .b false, .b false, .b false, .nils, .nils] := by kernel_rfl
theorem dT66 : dT Try.prog 66 = .st [(0, 3), (1, 57), (19, 63), (676, 65)] := by kernel_rfl
theorem sT66 : szT Try.prog 66 = 687 := by kernel_rfl
theorem bT66 : byT Try.prog 66 = 1200 := by kernel_rfl
theorem dT67 : dT Try.prog 67 = .st [(0, 3), (1, 57), (19, 63), (676, 65)] := by kernel_rfl
theorem sT67 : szT Try.prog 67 = 687 := by kernel_rfl
theorem bT67 : byT Try.prog 67 = 1200 := by kernel_rfl
theorem dT68 : dT Try.prog 68 = .other := by kernel_rfl
theorem sT68 : szT Try.prog 68 = 1 := by kernel_rfl
theorem bT68 : byT Try.prog 68 = 8 := by kernel_rfl
theorem zT68 : zT Try.prog 68 = some [.nilf] := by kernel_rfl
theorem eql1T68 {f : Nat} {c : List (Nat × Nat × Nat)}  : abin Try.prog .eql 68 (.c (.f f c)) (.c .nilf) = some (.c (.b false)) := by kernel_rfl
theorem eql2T68 : abin Try.prog .eql 68 (.c .nilf) (.c .nilf) = some (.c (.b true)) := by kernel_rfl
theorem neq1T68 {f : Nat} {c : List (Nat × Nat × Nat)}  : abin Try.prog .neq 68 (.c (.f f c)) (.c .nilf) = some (.c (.b true)) := by kernel_rfl
theorem neq2T68 : abin Try.prog .neq 68 (.c .nilf) (.c .nilf) = some (.c (.b false)) := by kernel_rfl
theorem dT69 : dT Try.prog 69 = .other := by kernel_rfl
theorem sT69 : szT Try.prog 69 = 1 := by kernel_rfl
theorem bT69 : byT Try.prog 69 = 8 := by kernel_rfl
theorem zT69 : zT Try.prog 69 = some [.nilf] := by kernel_rfl
theorem eql1T69 {f : Nat} {c : List (Nat × Nat × Nat)}  : abin Try.prog .eql 69 (.c (.f f c)) (.c .nilf) = some (.c (.b false)) := by kernel_rfl
theorem eql2T69 : abin Try.prog .eql 69 (.c .nilf) (.c .nilf) = some (.c (.b true)) := by kernel_rfl
theorem neq1T69 {f : Nat} {c : List (Nat × Nat × Nat)}  : abin Try.prog .neq 69 (.c (.f f c)) (.c .nilf) = some (.c (.b true)) := by kernel_rfl
theorem neq2T69 : abin Try.prog .neq 69 (.c .nilf) (.c .nilf) = some (.c (.b false)) := by kernel_rfl
theorem dT70 : dT Try.prog 70 = .sl 72 := by kernel_rfl
theorem sT70 : szT Try.prog 70 = 1 := by kernel_rfl
theorem bT70 : byT Try.prog 70 = 24 := by kernel_rfl
theorem zT70 : zT Try.prog 70 = some [.nils] := by kernel_rfl
theorem eql1T70 {a b c n : Nat}  : abin Try.prog .eql 70 (.c (.sl a b c n)) (.c .nils) = if n = 0 then some (.c .qq) else some (.c (.b false)) := by kernel_rfl
theorem eql2T70 : abin Try.prog .eql 70 (.c .nils) (.c .nils) = some (.c (.b true)) := by kernel_rfl
theorem neq1T70 {a b c n : Nat}  : abin Try.prog .neq 70 (.c (.sl a b c n)) (.c .nils) = if n = 0 then some (.c .qq) else some (.c (.b true)) := by kernel_rfl
theorem neq2T70 : abin Try.prog .neq 70 (.c .nils) (.c .nils) = some (.c (.b false)) := by kernel_rfl
theorem dT71 : dT Try.prog 71 = .st [(0, 3), (1, 41)] := by kernel_rfl
theorem sT71 : szT Try.prog 71 = 20 := by kernel_rfl
theorem bT71 : byT Try.prog 71 = 144 := by kernel_rfl
theorem zT71 : zT Try.prog 71 = some [.i 0, .i 0, .u 0#64, .u 0#64, .i 0, .i 0, .i 0, .u 0#64, .u 0#64, .b false, .i 0, .b false, .b false, .b false, .u 0#64, .i 0, .i 0, .u 0#64, .i 0, .u 0#64] := by kernel_rfl
theorem dT72 : dT Try.prog 72 = .st [(0, 3), (1, 41)] := by kernel_rfl
theorem sT72 : szT Try.prog 72 = 20 := by kernel_rfl
theorem bT72 : byT Try.prog 72 = 144 := by kernel_rfl
theorem zT72 : zT Try.prog 72 = some [.i 0, .i 0, .u 0#64, .u 0#64, .i 0, .i 0, .i 0, .u 0#64, .u 0#64, .b false, .i 0, .b false, .b false, .b false, .u 0#64, .i 0, .i 0, .u 0#64, .i 0, .u 0#64] := by kernel_rfl
theorem gT72 : tagsT Try.prog 12 72 = some [.n, .n, .n, .n, .n, .n, .n, .n, .n, .q, .n, .q, .q, .q, .n, .n, .n, .n, .n, .n] := by kernel_rfl
theorem eqT72 {a b : List Sc} : abin Try.prog .eql 72 (.g a) (.g b) = (csEq [.n, .n, .n, .n, .n, .n, .n, .n, .n, .q, .n, .q, .q, .q, .n, .n, .n, .n, .n, .n] a b).bind (eqU .eql) := ab_g_eql _ (by simp only [dT72, D.agg]) gT72
theorem neT72 {a b : List Sc} : abin Try.prog .neq 72 (.g a) (.g b) = (csEq [.n, .n, .n, .n, .n, .n, .n, .n, .n, .q, .n, .q, .q, .q, .n, .n, .n, .n, .n, .n] a b).bind (eqU .neq) := ab_g_neq _ (by simp only [dT72, D.agg]) gT72
theorem dT74 : dT Try.prog 74 = .other := by kernel_rfl
theorem sT74 : szT Try.prog 74 = 1 := by kernel_rfl
theorem bT74 : byT Try.prog 74 = 8 := by kernel_rfl
theorem zT74 : zT Try.prog 74 = some [.nilf] := by kernel_rfl
theorem eql1T74 {f : Nat} {c : List (Nat × Nat × Nat)}  : abin Try.prog .eql 74 (.c (.f f c)) (.c .nilf) = some (.c (.b false)) := by kernel_rfl
theorem eql2T74 : abin Try.prog .eql 74 (.c .nilf) (.c .nilf) = some (.c (.b true)) := by kernel_rfl
theorem neq1T74 {f : Nat} {c : List (Nat × Nat × Nat)}  : abin Try.prog .neq 74 (.c (.f f c)) (.c .nilf) = some (.c (.b true)) := by kernel_rfl
theorem neq2T74 : abin Try.prog .neq 74 (.c .nilf) (.c .nilf) = some (.c (.b false)) := by kernel_rfl
theorem dT75 : dT Try.prog 75 = .other := by kernel_rfl
theorem sT75 : szT Try.prog 75 = 1 := by kernel_rfl
theorem bT75 : byT Try.prog 75 = 8 := by kernel_rfl
theorem zT75 : zT Try.prog 75 = some [.nilf] := by kernel_rfl
theorem eql1T75 {f : Nat} {c : List (Nat × Nat × Nat)}  : abin Try.prog .eql 75 (.c (.f f c)) (.c .nilf) = some (.c (.b false)) := by kernel_rfl
theorem eql2T75 : abin Try.prog .eql 75 (.c .nilf) (.c .nilf) = some (.c (.b true)) := by kernel_rfl
theorem neq1T75 {f : Nat} {c : List (Nat × Nat × Nat)}  : abin Try.prog .neq 75 (.c (.f f c)) (.c .nilf) = some (.c (.b true)) := by kernel_rfl
theorem neq2T75 : abin Try.prog .neq 75 (.c .nilf) (.c .nilf) = some (.c (.b false)) := by kernel_rfl
theorem dT76 : dT Try.prog 76 = .other := by kernel_rfl
theorem sT76 : szT Try.prog 76 = 1 := by kernel_rfl
theorem bT76 : byT Try.prog 76 = 8 := by kernel_rfl
theorem zT76 : zT Try.prog 76 = some [.nilf] := by kernel_rfl
theorem eql1T76 {f : Nat} {c : List (Nat × Nat × Nat)}  : abin Try.prog .eql 76 (.c (.f f c)) (.c .nilf) = some (.c (.b false)) := by kernel_rfl
theorem eql2T76 : abin Try.prog .eql 76 (.c .nilf) (.c .nilf) = some (.c (.b true)) := by kernel_rfl
theorem neq1T76 {f : Nat} {c : List (Nat × Nat × Nat)}  : abin Try.prog .neq 76 (.c (.f f c)) (.c .nilf) = some (.c (.b true)) := by kernel_rfl
theorem neq2T76 : abin Try.prog .neq 76 (.c .nilf) (.c .nilf) = some (.c (.b false)) := by kernel_rfl
theorem dT77 : dT Try.prog 77 = .other := by kernel_rfl
theorem sT77 : szT Try.prog 77 = 1 := by kernel_rfl
theorem bT77 : byT Try.prog 77 = 8 := by kernel_rfl
theorem zT77 : zT Try.prog 77 = some [.nilf] := by kernel_rfl
theorem eql1T77 {f : Nat} {c : List (Nat × Nat × Nat)}  : abin Try.prog .eql 77 (.c (.f f c)) (.c .nilf) = some (.c (.b false)) := by kernel_rfl
theorem eql2T77 : abin Try.prog .eql 77 (.c .nilf) (.c .nilf) = some (.c (.b true)) := by kernel_rfl
theorem neq1T77 {f : Nat} {c : List (Nat × Nat × Nat)}  : abin Try.prog .neq 77 (.c (.f f c)) (.c .nilf) = some (.c (.b true)) := by kernel_rfl
theorem neq2T77 : abin Try.prog .neq 77 (.c .nilf) (.c .nilf) = some (.c (.b false)) := by kernel_rfl
theorem dT78 : dT Try.prog 78 = .ptr 128 := by kernel_rfl
theorem sT78 : szT Try.prog 78 = 1 := by kernel_rfl
theorem bT78 : byT Try.prog 78 = 8 := by kernel_rfl
theorem zT78 : zT Try.prog 78 = some [.nilp] := by kernel_rfl
theorem eql1T78 {a b c : Nat}  : abin Try.prog .eql 78 (.c (.p a b c)) (.c .nilp) = some (.c (.b false)) := by kernel_rfl
theorem eql2T78 : abin Try.prog .eql 78 (.c .nilp) (.c .nilp) = some (.c (.b true)) := by kernel_rfl
theorem neq1T78 {a b c : Nat}  : abin Try.prog .neq 78 (.c (.p a b c)) (.c .nilp) = some (.c (.b true)) := by kernel_rfl
theorem neq2T78 : abin Try.prog .neq 78 (.c .nilp) (.c .nilp) = some (.c (.b false)) := by kernel_rfl
theorem dT79 : dT Try.prog 79 = .other := by kernel_rfl
theorem sT79 : szT Try.prog 79 = 1 := by kernel_rfl
theorem bT79 : byT Try.prog 79 = 8 := by kernel_rfl
theorem zT79 : zT Try.prog 79 = some [.nilf] := by kernel_rfl
theorem eql1T79 {f : Nat} {c : List (Nat × Nat × Nat)}  : abin Try.prog .eql 79 (.c (.f f c)) (.c .nilf) = some (.c (.b false)) := by kernel_rfl
theorem eql2T79 : abin Try.prog .eql 79 (.c .nilf) (.c .nilf) = some (.c (.b true)) := by kernel_rfl
theorem neq1T79 {f : Nat} {c : List (Nat × Nat × Nat)}  : abin Try.prog .neq 79 (.c (.f f c)) (.c .nilf) = some (.c (.b true)) := by kernel_rfl
theorem neq2T79 : abin Try.prog .neq 79 (.c .nilf) (.c .nilf) = some (.c (.b false)) := by kernel_rfl
theorem dT80 : dT Try.prog 80 = .st [(0, 3), (1, 27), (2, 54), (10, 55)] := by kernel_rfl
theorem sT80 : szT Try.prog 80 = 18 := by kernel_rfl
theorem bT80 : byT Try.prog 80 = 88 := by kernel_rfl
theorem zT80 : zT Try.prog 80 = some [.i 0, .u 0#64, .u 0#64, .u 0#64, .u 0#64, .u 0#64, .u 0#64, .u 0#64, .u 0#64, .u 0#64, .b false, .b false, .b false, .b false, .b false, .b false, .b false, .b false] := by kernel_rfl
theorem dT81 : dT Try.prog 81 = .st [(0, 3), (1, 27), (2, 54), (10, 55)] := by kernel_rfl
theorem sT81 : szT Try.prog 81 = 18 := by kernel_rfl
theorem bT81 : byT Try.prog 81 = 88 := by kernel_rfl
theorem zT81 : zT Try.prog 81 = some [.i 0, .u 0#64, .u 0#64, .u 0#64, .u 0#64, .u 0#64, .u 0#64, .u 0#64, .u 0#64, .u 0#64, .b false, .b false, .b false, .b false, .b false, .b false, .b false, .b false] := by kernel_rfl
theorem gT81 : tagsT Try.prog 12 81 = some [.n, .n, .n, .n, .n, .n, .n, .n, .n, .n, .q, .q, .q, .q, .q, .q, .q, .q] := by kernel_rfl
theorem eqT81 {a b : List Sc} : abin Try.prog .eql 81 (.g a) (.g b) = (csEq [.n, .n, .n, .n, .n, .n, .n, .n, .n, .n, .q, .q, .q, .q, .q, .q, .q, .q] a b).bind (eqU .eql) := ab_g_eql _ (by simp only [dT81, D.agg]) gT81
theorem neT81 {a b : List Sc} : abin Try.prog .neq 81 (.g a) (.g b) = (csEq [.n, .n, .n, .n, .n, .n, .n, .n, .n, .n, .q, .q, .q, .q, .q, .q, .q, .q] a b).bind (eqU .neq) := ab_g_neq _ (by simp only [dT81, D.agg]) gT81
theorem dT82 : dT Try.prog 82 = .other := by kernel_rfl
theorem sT82 : szT Try.prog 82 = 1 := by kernel_rfl
theorem bT82 : byT Try.prog 82 = 8 := by kernel_rfl
theorem zT82 : zT Try.prog 82 = some [.nilf] := by kernel_rfl
theorem eql1T82 {f : Nat} {c : List (Nat × Nat × Nat)}  : abin Try.prog .eql 82 (.c (.f f c)) (.c .nilf) = some (.c (.b false)) := by kernel_rfl
theorem eql2T82 : abin Try.prog .eql 82 (.c .nilf) (.c .nilf) = some (.c (.b true)) := by kernel_rfl
theorem neq1T82 {f : Nat} {c : List (Nat × Nat × Nat)}  : abin Try.prog .neq 82 (.c (.f f c)) (.c .nilf) = some (.c (.b true)) := by kernel_rfl
theorem neq2T82 : abin Try.prog .neq 82 (.c .nilf) (.c .nilf) = some (.c (.b false)) := by kernel_rfl
theorem dT83 : dT Try.prog 83 = .arr 32 5 := by kernel_rfl
theorem sT83 : szT Try.prog 83 = 32 := by kernel_rfl
theorem bT83 : byT Try.prog 83 = 32 := by kernel_rfl
theorem zT83 : zT Try.prog 83 = some [.k .u8 (0), .k .u8 (0), .k .u8 (0), .k .u8 (0), .k .u8 (0), .k .u8 (0), .k .u8 (0), .k .u8 (0), .k .u8 (0), .k .u8 (0), .k .u8 (0), .k .u8 (0), .k .u8 (0), .k .u8 (0), .k .u8 (0), .k .u8 (0), .k .u8 (0), .k .u8 (0), .k .u8 (0), .k .u8 (0), .k .u8 (0), .k .u8 (0), .k .u8 (0), .k .u8 (0), .k .u8 (0), .k .u8 (0), .k .u8 (0), .k .u8 (0), .k .u8 (0), .k .u8 (0), .k .u8 (0), .k .u8 (0)] := by kernel_rfl
theorem gT83 : tagsT Try.prog 12 83 = some [.n, .n, .n, .n, .n, .n, .n, .n, .n, .n, .n, .n, .n, .n, .n, .n, .n, .n, .n, .n, .n, .n, .n, .n, .n, .n, .n, .n, .n, .n, .n, .n] := by kernel_rfl
theorem eqT83 {a b : List Sc} : abin Try.prog .eql 83 (.g a) (.g b) = (csEq [.n, .n, .n, .n, .n, .n, .n, .n, .n, .n, .n, .n, .n, .n, .n, .n, .n, .n, .n, .n, .n, .n, .n, .n, .n, .n, .n, .n, .n, .n, .n, .n] a b).bind (eqU .eql) := ab_g_eql _ (by simp only [dT83, D.agg]) gT83
theorem neT83 {a b : List Sc} : abin Try.prog .neq 83 (.g a) (.g b) = (csEq [.n, .n, .n, .n, .n, .n, .n, .n, .n, .n, .n, .n, .n, .n, .n, .n, .n, .n, .n, .n, .n, .n, .n, .n, .n, .n, .n, .n, .n, .n, .n, .n] a b).bind (eqU .neq) := ab_g_neq _ (by simp only [dT83, D.agg]) gT83
theorem dT84 : dT Try.prog 84 = .int .u32 := by kernel_rfl
theorem sT84 : szT Try.prog 84 = 1 := by kernel_rfl
theorem bT84 : byT Try.prog 84 = 4 := by kernel_rfl
theorem zT84 : zT Try.prog 84 = some [.k .u32 (0)] := by kernel_rfl
theorem dT85 : dT Try.prog 85 = .arr 16 84 := by kernel_rfl
theorem sT85 : szT Try.prog 85 = 16 := by kernel_rfl
theorem bT85 : byT Try.prog 85 = 64 := by kernel_rfl
theorem zT85 : zT Try.prog 85 = some [.k .u32 (0), .k .u32 (0), .k .u32 (0), .k .u32 (0), .k .u32 (0), .k .u32 (0), .k .u32 (0), .k .u32 (0), .k .u32 (0), .k .u32 (0), .k .u32 (0), .k .u32 (0), .k .u32 (0), .k .u32 (0), .k .u32 (0), .k .u32 (0)] := by kernel_rfl
theorem gT85 : tagsT Try.prog 12 85 = some [.n, .n, .n, .n, .n, .n, .n, .n, .n, .n, .n, .n, .n, .n, .n, .n] := by kernel_rfl
theorem eqT85 {a b : List Sc} : abin Try.prog .eql 85 (.g a) (.g b) = (csEq [.n, .n, .n, .n, .n, .n, .n, .n, .n, .n, .n, .n, .n, .n, .n, .n] a b).bind (eqU .eql) := ab_g_eql _ (by simp only [dT85, D.agg]) gT85
theorem neT85 {a b : List Sc} : abin Try.prog .neq 85 (.g a) (.g b) = (csEq [.n, .n, .n, .n, .n, .n, .n, .n, .n, .n, .n, .n, .n, .n, .n, .n] a b).bind (eqU .neq) := ab_g_neq _ (by simp only [dT85, D.agg]) gT85
theorem dT86 : dT Try.prog 86 = .arr 16 5 := by kernel_rfl
theorem sT86 : szT Try.prog 86 = 16 := by kernel_rfl
theorem bT86 : byT Try.prog 86 = 16 := by kernel_rfl
theorem zT86 : zT Try.prog 86 = some [.k .u8 (0), .k .u8 (0), .k .u8 (0), .k .u8 (0), .k .u8 (0), .k .u8 (0), .k .u8 (0), .k .u8 (0), .k .u8 (0), .k .u8 (0), .k .u8 (0), .k .u8 (0), .k .u8 (0), .k .u8 (0), .k .u8 (0), .k .u8 (0)] := by kernel_rfl
theorem gT86 : tagsT Try.prog 12 86 = some [.n, .n, .n, .n, .n, .n, .n, .n, .n, .n, .n, .n, .n, .n, .n, .n] := by kernel_rfl
theorem eqT86 {a b : List Sc} : abin Try.prog .eql 86 (.g a) (.g b) = (csEq [.n, .n, .n, .n, .n, .n, .n, .n, .n, .n, .n, .n, .n, .n, .n, .n] a b).bind (eqU .eql) := ab_g_eql _ (by simp only [dT86, D.agg]) gT86
theorem neT86 {a b : List Sc} : abin Try.prog .neq 86 (.g a) (.g b) = (csEq [.n, .n, .n, .n, .n, .n, .n, .n, .n, .n, .n, .n, .n, .n, .n, .n] a b).bind (eqU .neq) := ab_g_neq _ (by simp only [dT86, D.agg]) gT86
theorem dT87 : dT Try.prog 87 = .st [(0, 3), (1, 83), (33, 84), (34, 84), (35, 84), (36, 85), (52, 86)] := by kernel_rfl
theorem sT87 : szT Try.prog 87 = 68 := by kernel_rfl
theorem bT87 : byT Try.prog 87 = 136 := by kernel_rfl
theorem zT87 : zT Try.prog 87 = some [.i 0, .k .u8 (0), .k .u8 (0), .k .u8 (0), .k .u8 (0), .k .u8 (0), .k .u8 (0), .k .u8 (0), .k .u8 (0), .k .u8 (0), .k .u8 (0), .k .u8 (0), .k .u8 (0), .k .u8 (0), .k .u8 (0), .k .u8 (0), .k .u8 (0), .k .u8 (0), .k .u8 (0), .k .u8 (0), .k .u8 (0), .k .u8 (0), .k .u8 (0), .k .u8 (0), .k .u8 (0), .k .u8 (0), .k .u8 (0), .k .u8 (0), .k .u8 (0), .k .u8 (0), .k .u8 (0), .k .u8 (0), .k .u8 (0), .k .u32 (0), .k .u32 (0), .k .u32 (0), .k .u32 (0), .k .u32 (0), .k .u32 (0), .k .u32 (0), .k .u32 (0), .k .u32 (0), .k .u32 (0), .k .u32 (0), .k .u32 (0), .k .u32 (0), .k .u32 (0), .k .u32 (0), .k .u32 (0), .k .u32 (0), .k .u32 (0), .k .u32 (0), .k .u8 (0), .k .u8 (0), .k .u8 (0), .k .u8 (0), .k .u8 (0), .k .u8 (0), .k .u8 (0), .k .u8 (0), .k .u8 (0), .k .u8 (0), .k .u8 (0), .k .u8 (0), .k .u8 (0), .k .u8 (0), .k .u8 (0), .k .u8 (0)] := by kernel_rfl
theorem dT88 : dT Try.prog 88 = .st [(0, 3), (1, 83), (33, 84), (34, 84), (35, 84), (36, 85), (52, 86)] := by kernel_rfl
theorem sT88 : szT Try.prog 88 = 68 := by kernel_rfl
theorem bT88 : byT Try.prog 88 = 136 := by kernel_rfl
theorem zT88 : zT Try.prog 88 = some [.i 0, .k .u8 (0), .k .u8 (0), .k .u8 (0), .k .u8 (0), .k .u8 (0), .k .u8 (0), .k .u8 (0), .k .u8 (0), .k .u8 (0), .k .u8 (0), .k .u8 (0), .k .u8 (0), .k .u8 (0), .k .u8 (0), .k .u8 (0), .k .u8 (0), .k .u8 (0), .k .u8 (0), .k .u8 (0), .k .u8 (0), .k .u8 (0), .k .u8 (0), .k .u8 (0), .k .u8 (0), .k .u8 (0), .k .u8 (0), .k .u8 (0), .k .u8 (0), .k .u8 (0), .k .u8 (0), .k .u8 (0), .k .u8 (0), .k .u32 (0), .k .u32 (0), .k .u32 (0), .k .u32 (0), .k .u32 (0), .k .u32 (0), .k .u32 (0), .k .u32 (0), .k .u32 (0), .k .u32 (0), .k .u32 (0), .k .u32 (0), .k .u32 (0), .k .u32 (0), .k .u32 (0), .k .u32 (0), .k .u32 (0), .k .u32 (0), .k .u32 (0), .k .u8 (0), .k .u8 (0), .k .u8 (0), .k .u8 (0), .k .u8 (0), .k .u8 (0), .k .u8 (0), .k .u8 (0), .k .u8 (0), .k .u8 (0), .k .u8 (0), .k .u8 (0), .k .u8 (0), .k .u8 (0), .k .u8 (0), .k .u8 (0)] := by kernel_rfl
theorem dT89 : dT Try.prog 89 = .other := by kernel_rfl
theorem sT89 : szT Try.prog 89 = 1 := by kernel_rfl
theorem bT89 : byT Try.prog 89 = 8 := by kernel_rfl
theorem zT89 : zT Try.prog 89 = some [.nilf] := by kernel_rfl
theorem eql1T89 {f : Nat} {c : List (Nat × Nat × Nat)}  : abin Try.prog .eql 89 (.c (.f f c)) (.c .nilf) = some (.c (.b false)) := by kernel_rfl
theorem eql2T89 : abin Try.prog .eql 89 (.c .nilf) (.c .nilf) = some (.c (.b true)) := by kernel_rfl
theorem neq1T89 {f : Nat} {c : List (Nat × Nat × Nat)}  : abin Try.prog .neq 89 (.c (.f f c)) (.c .nilf) = some (.c (.b true)) := by kernel_rfl
theorem neq2T89 : abin Try.prog .neq 89 (.c .nilf) (.c .nilf) = some (.c (.b false)) := by kernel_rfl
theorem dT90 : dT Try.prog 90 = .st [(0, 78), (1, 3), (2, 81), (20, 88)] := by kernel_rfl
theorem sT90 : szT Try.prog 90 = 88 := by kernel_rfl
theorem bT90 : byT Try.prog 90 = 240 := by kernel_rfl
theorem zT90 : zT Try.prog 90 = some [.nilp, .i 0, .i 0, .u 0#64, .u 0#64, .u 0#64, .u 0#64, .u 0#64, .u 0#64, .u 0#64, .u 0#64, .u 0#64, .b false, .b false, .b false, .b false, .b false, .b false, .b false, .b false, .i 0, .k .u8 (0), .k .u8 (0), .k .u8 (0), .k .u8 (0), .k .u8 (0), .k .u8 (0), .k .u8 (0), .k .u8 (0), .k .u8 (0), .k .u8 (0), .k .u8 (0), .k .u8 (0), .k .u8 (0), .k .u8 (0), .k .u8 (0), .k .u8 (0), .k .u8 (0), .k .u8 (0), .k .u8 (0), .k .u8 (0), .k .u8 (0), .k .u8 (0), .k .u8 (0), .k .u8 (0), .k .u8 (0), .k .u8 (0), .k .u8 (0), .k .u8 (0), .k .u8 (0), .k .u8 (0), .k .u8 (0), .k .u8 (0), .k .u32 (0), .k .u32 (0), .k .u32 (0), .k .u32 (0), .k .u32 (0), .k .u32 (0), .k .u32 (0), .k .u32 (0), .k .u32 (0), .k .u32 (0), .k .u32 (0), .k .u32 (0), .k .u32 (0), .k .u32 (0), .k .u32 (0), .k .u32 (0), .k .u32 (0), .k .u32 (0), .k .u32 (0), .k .u8 (0), .k .u8 (0), .k .u8 (0), .k .u8 (0), .k .u8 (0), .k .u8 (0), .k .u8 (0), .k .u8 (0), .k .u8 (0), .k .u8 (0), .k .u8 (0), .k .u8 (0), .k .u8 (0), .k .u8 (0), .k .u8 (0), .k .u8 (0)] := by kernel_rfl
theorem dT91 : dT Try.prog 91 = .st [(0, 78), (1, 3), (2, 81), (20, 88)] := by kernel_rfl
theorem sT91 : szT Try.prog 91 = 88 := by kernel_rfl
theorem bT91 : byT Try.prog 91 = 240 := by kernel_rfl
theorem zT91 : zT Try.prog 91 = some [.nilp, .i 0, .i 0, .u 0#64, .u 0#64, .u 0#64, .u 0#64, .u 0#64, .u 0#64, .u 0#64, .u 0#64, .u 0#64, .b false, .b false, .b false, .b false, .b false, .b false, .b false, .b false, .i 0, .k .u8 (0), .k .u8 (0), .k .u8 (0), .k .u8 (0), .k .u8 (0), .k .u8 (0), .k .u8 (0), .k .u8 (0), .k .u8 (0), .k .u8 (0), .k .u8 (0), .k .u8 (0), .k .u8 (0), .k .u8 (0), .k .u8 (0), .k .u8 (0), .k .u8 (0), .k .u8 (0), .k .u8 (0), .k .u8 (0), .k .u8 (0), .k .u8 (0), .k .u8 (0), .k .u8 (0), .k .u8 (0), .k .u8 (0), .k .u8 (0), .k .u8 (0), .k .u8 (0), .k .u8 (0), .k .u8 (0), .k .u8 (0), .k .u32 (0), .k .u32 (0), .k .u32 (0), .k .u32 (0), .k .u32 (0), .k .u32 (0), .k .u32 (0), .k .u32 (0), .k .u32 (0), .k .u32 (0), .k .u32 (0), .k .u32 (0), .k .u32 (0), .k .u32 (0), .k .u32 (0), .k .u32 (0), .k .u32 (0), .k .u32 (0), .k .u32 (0), .k .u8 (0), .k .u8 (0), .k .u8 (0), .k .u8 (0), .k .u8 (0), .k .u8 (0), .k .u8 (0), .k .u8 (0), .k .u8 (0), .k .u8 (0), .k .u8 (0), .k .u8 (0), .k .u8 (0), .k .u8 (0), .k .u8 (0), .k .u8 (0)] := by kernel_rfl
theorem dT92 : dT Try.prog 92 = .other := by kernel_rfl
theorem sT92 : szT Try.prog 92 = 1 := by kernel_rfl
theorem bT92 : byT Try.prog 92 = 8 := by kernel_rfl
theorem zT92 : zT Try.prog 92 = some [.nilf] := by kernel_rfl
theorem eql1T92 {f : Nat} {c : List (Nat × Nat × Nat)}  : abin Try.prog .eql 92 (.c (.f f c)) (.c .nilf) = some (.c (.b false)) := by kernel_rfl
theorem eql2T92 : abin Try.prog .eql 92 (.c .nilf) (.c .nilf) = some (.c (.b true)) := by kernel_rfl
theorem neq1T92 {f : Nat} {c : List (Nat × Nat × Nat)}  : abin Try.prog .neq 92 (.c (.f f c)) (.c .nilf) = some (.c (.b true)) := by kernel_rfl
theorem neq2T92 : abin Try.prog .neq 92 (.c .nilf) (.c .nilf) = some (.c (.b false)) := by kernel_rfl
theorem dT93 : dT Try.prog 93 = .st [(0, 3), (1, 27), (2, 3)] := by kernel_rfl
theorem sT93 : szT Try.prog 93 = 3 := by kernel_rfl
theorem bT93 : byT Try.prog 93 = 24 := by kernel_rfl
theorem zT93 : zT Try.prog 93 = some [.i 0, .u 0#64, .i 0] := by kernel_rfl
theorem dT94 : dT Try.prog 94 = .st [(0, 3), (1, 27), (2, 3)] := by kernel_rfl
theorem sT94 : szT Try.prog 94 = 3 := by kernel_rfl
theorem bT94 : byT Try.prog 94 = 24 := by kernel_rfl
theorem zT94 : zT Try.prog 94 = some [.i 0, .u 0#64, .i 0] := by kernel_rfl
theorem gT94 : tagsT Try.prog 12 94 = some [.n, .n, .n] := by kernel_rfl
theorem eqT94 {a b : List Sc} : abin Try.prog .eql 94 (.g a) (.g b) = (csEq [.n, .n, .n] a b).bind (eqU .eql) := ab_g_eql _ (by simp only [dT94, D.agg]) gT94
theorem neT94 {a b : List Sc} : abin Try.prog .neq 94 (.g a) (.g b) = (csEq [.n, .n, .n] a b).bind (eqU .neq) := ab_g_neq _ (by simp only [dT94, D.agg]) gT94
theorem dT95 : dT Try.prog 95 = .other := by kernel_rfl
theorem sT95 : szT Try.prog 95 = 1 := by kernel_rfl
theorem bT95 : byT Try.prog 95 = 8 := by kernel_rfl
theorem zT95 : zT Try.prog 95 = some [.nilf] := by kernel_rfl
theorem eql1T95 {f : Nat} {c : List (Nat × Nat × Nat)}  : abin Try.prog .eql 95 (.c (.f f c)) (.c .nilf) = some (.c (.b false)) := by kernel_rfl
theorem eql2T95 : abin Try.prog .eql 95 (.c .nilf) (.c .nilf) = some (.c (.b true)) := by kernel_rfl
theorem neq1T95 {f : Nat} {c : List (Nat × Nat × Nat)}  : abin Try.prog .neq 95 (.c (.f f c)) (.c .nilf) = some (.c (.b true)) := by kernel_rfl
theorem neq2T95 : abin Try.prog .neq 95 (.c .nilf) (.c .nilf) = some (.c (.b false)) := by kernel_rfl
theorem dT96 : dT Try.prog 96 = .other := by kernel_rfl
theorem sT96 : szT Try.prog 96 = 1 := by kernel_rfl
theorem bT96 : byT Try.prog 96 = 8 := by kernel_rfl
theorem zT96 : zT Try.prog 96 = some [.nilf] := by kernel_rfl
theorem eql1T96 {f : Nat} {c : List (Nat × Nat × Nat)}  : abin Try.prog .eql 96 (.c (.f f c)) (.c .nilf) = some (.c (.b false)) := by kernel_rfl
theorem eql2T96 : abin Try.prog .eql 96 (.c .nilf) (.c .nilf) = some (.c (.b true)) := by kernel_rfl
theorem neq1T96 {f : Nat} {c : List (Nat × Nat × Nat)}  : abin Try.prog .neq 96 (.c (.f f c)) (.c .nilf) = some (.c (.b true)) := by kernel_rfl
theorem neq2T96 : abin Try.prog .neq 96 (.c .nilf) (.c .nilf) = some (.c (.b false)) := by kernel_rfl
theorem dT97 : dT Try.prog 97 = .other := by kernel_rfl
theorem sT97 : szT Try.prog 97 = 1 := by kernel_rfl
theorem bT97 : byT Try.prog 97 = 8 := by kernel_rfl
theorem zT97 : zT Try.prog 97 = some [.nilf] := by kernel_rfl
theorem eql1T97 {f : Nat} {c : List (Nat × Nat × Nat)}  : abin Try.prog .eql 97 (.c (.f f c)) (.c .nilf) = some (.c (.b false)) := by kernel_rfl
theorem eql2T97 : abin Try.prog .eql 97 (.c .nilf) (.c .nilf) = some (.c (.b true)) := by kernel_rfl
theorem neq1T97 {f : Nat} {c : List (Nat × Nat × Nat)}  : abin Try.prog .neq 97 (.c (.f f c)) (.c .nilf) = some (.c (.b true)) := by kernel_rfl
theorem neq2T97 : abin Try.prog .neq 97 (.c .nilf) (.c .nilf) = some (.c (.b false)) := by kernel_rfl
theorem dT98 : dT Try.prog 98 = .other := by kernel_rfl
theorem sT98 : szT Try.prog 98 = 1 := by kernel_rfl
theorem bT98 : byT Try.prog 98 = 8 := by kernel_rfl
theorem zT98 : zT Try.prog 98 = some [.nilf] := by kernel_rfl
theorem eql1T98 {f : Nat} {c : List (Nat × Nat × Nat)}  : abin Try.prog .eql 98 (.c (.f f c)) (.c .nilf) = some (.c (.b false)) := by kernel_rfl
theorem eql2T98 : abin Try.prog .eql 98 (.c .nilf) (.c .nilf) = some (.c (.b true)) := by kernel_rfl
theorem neq1T98 {f : Nat} {c : List (Nat × Nat × Nat)}  : abin Try.prog .neq 98 (.c (.f f c)) (.c .nilf) = some (.c (.b true)) := by kernel_rfl
theorem neq2T98 : abin Try.prog .neq 98 (.c .nilf) (.c .nilf) = some (.c (.b false)) := by kernel_rfl
theorem dT99 : dT Try.prog 99 = .other := by kernel_rfl
theorem sT99 : szT Try.prog 99 = 1 := by kernel_rfl
theorem bT99 : byT Try.prog 99 = 8 := by kernel_rfl
theorem zT99 : zT Try.prog 99 = some [.nilf] := by kernel_rfl
theorem eql1T99 {f : Nat} {c : List (Nat × Nat × Nat)}  : abin Try.prog .eql 99 (.c (.f f c)) (.c .nilf) = some (.c (.b false)) := by kernel_rfl
theorem eql2T99 : abin Try.prog .eql 99 (.c .nilf) (.c .nilf) = some (.c (.b true)) := by kernel_rfl
theorem neq1T99 {f : Nat} {c : List (Nat × Nat × Nat)}  : abin Try.prog .neq 99 (.c (.f f c)) (.c .nilf) = some (.c (.b true)) := by kernel_rfl
theorem neq2T99 : abin Try.prog .neq 99 (.c .nilf) (.c .nilf) = some (.c (.b false)) := by kernel_rfl
theorem dT100 : dT Try.prog 100 = .other := by kernel_rfl
theorem sT100 : szT Try.prog 100 = 1 := by kernel_rfl
theorem bT100 : byT Try.prog 100 = 8 := by kernel_rfl
theorem zT100 : zT Try.prog 100 = some [.nilf] := by kernel_rfl
theorem eql1T100 {f : Nat} {c : List (Nat × Nat × Nat)}  : abin Try.prog .eql 100 (.c (.f f c)) (.c .nilf) = some (.c (.b false)) := by kernel_rfl
theorem eql2T100 : abin Try.prog .eql 100 (.c .nilf) (.c .nilf) = some (.c (.b true)) := by kernel_rfl
theorem neq1T100 {f : Nat} {c : List (Nat × Nat × Nat)}  : abin Try.prog .neq 100 (.c (.f f c)) (.c .nilf) = some (.c (.b true)) := by kernel_rfl
theorem neq2T100 : abin Try.prog .neq 100 (.c .nilf) (.c .nilf) = some (.c (.b false)) := by kernel_rfl
theorem dT101 : dT Try.prog 101 = .other := by kernel_rfl
theorem sT101 : szT Try.prog 101 = 1 := by kernel_rfl
theorem bT101 : byT Try.prog 101 = 8 := by kernel_rfl
theorem zT101 : zT Try.prog 101 = some [.nilf] := by kernel_rfl
theorem eql1T101 {f : Nat} {c : List (Nat × Nat × Nat)}  : abin Try.prog .eql 101 (.c (.f f c)) (.c .nilf) = some (.c (.b false)) := by kernel_rfl
theorem eql2T101 : abin Try.prog .eql 101 (.c .nilf) (.c .nilf) = some (.c (.b true)) := by kernel_rfl
theorem neq1T101 {f : Nat} {c : List (Nat × Nat × Nat)}  : abin Try.prog .neq 101 (.c (.f f c)) (.c .nilf) = some (.c (.b true)) := by kernel_rfl
theorem neq2T101 : abin Try.prog .neq 101 (.c .nilf) (.c .nilf) = some (.c (.b false)) := by kernel_rfl
theorem dT103 : dT Try.prog 103 = .other := by kernel_rfl
theorem sT103 : szT Try.prog 103 = 1 := by kernel_rfl
theorem bT103 : byT Try.prog 103 = 8 := by kernel_rfl
theorem zT103 : zT Try.prog 103 = some [.nilf] := by kernel_rfl
theorem eql1T103 {f : Nat} {c : List (Nat × Nat × Nat)}  : abin Try.prog .eql 103 (.c (.f f c)) (.c .nilf) = some (.c (.b false)) := by kernel_rfl
theorem eql2T103 : abin Try.prog .eql 103 (.c .nilf) (.c .nilf) = some (.c (.b true)) := by kernel_rfl
theorem neq1T103 {f : Nat} {c : List (Nat × Nat × Nat)}  : abin Try.prog .neq 103 (.c (.f f c)) (.c .nilf) = some (.c (.b true)) := by kernel_rfl
theorem neq2T103 : abin Try.prog .neq 103 (.c .nilf) (.c .nilf) = some (.c (.b false)) := by kernel_rfl
theorem dT105 : dT Try.prog 105 = .other := by kernel_rfl
theorem sT105 : szT Try.prog 105 = 1 := by kernel_rfl
theorem bT105 : byT Try.prog 105 = 8 := by kernel_rfl
theorem zT105 : zT Try.prog 105 = some [.nilf] := by kernel_rfl
theorem eql1T105 {f : Nat} {c : List (Nat × Nat × Nat)}  : abin Try.prog .eql 105 (.c (.f f c)) (.c .nilf) = some (.c (.b false)) := by kernel_rfl
theorem eql2T105 : abin Try.prog .eql 105 (.c .nilf) (.c .nilf) = some (.c (.b true)) := by kernel_rfl
theorem neq1T105 {f : Nat} {c : List (Nat × Nat × Nat)}  : abin Try.prog .neq 105 (.c (.f f c)) (.c .nilf) = some (.c (.b true)) := by kernel_rfl
theorem neq2T105 : abin Try.prog .neq 105 (.c .nilf) (.c .nilf) = some (.c (.b false)) := by kernel_rfl
theorem dT106 : dT Try.prog 106 = .other := by kernel_rfl
theorem sT106 : szT Try.prog 106 = 1 := by kernel_rfl
theorem bT106 : byT Try.prog 106 = 8 := by kernel_rfl
theorem zT106 : zT Try.prog 106 = some [.nilf] := by kernel_rfl
theorem eql1T106 {f : Nat} {c : List (Nat × Nat × Nat)}  : abin Try.prog .eql 106 (.c (.f f c)) (.c .nilf) = some (.c (.b false)) := by kernel_rfl
theorem eql2T106 : abin Try.prog .eql 106 (.c .nilf) (.c .nilf) = some (.c (.b true)) := by kernel_rfl
theorem neq1T106 {f : Nat} {c : List (Nat × Nat × Nat)}  : abin Try.prog .neq 106 (.c (.f f c)) (.c .nilf) = some (.c (.b true)) := by kernel_rfl
theorem neq2T106 : abin Try.prog .neq 106 (.c .nilf) (.c .nilf) = some (.c (.b false)) := by kernel_rfl
theorem dT107 : dT Try.prog 107 = .other := by kernel_rfl
theorem sT107 : szT Try.prog 107 = 1 := by kernel_rfl
theorem bT107 : byT Try.prog 107 = 8 := by kernel_rfl
theorem zT107 : zT Try.prog 107 = some [.nilf] := by kernel_rfl
theorem eql1T107 {f : Nat} {c : List (Nat × Nat × Nat)}  : abin Try.prog .eql 107 (.c (.f f c)) (.c .nilf) = some (.c (.b false)) := by kernel_rfl
theorem eql2T107 : abin Try.prog .eql 107 (.c .nilf) (.c .nilf) = some (.c (.b true)) := by kernel_rfl
theorem neq1T107 {f : Nat} {c : List (Nat × Nat × Nat)}  : abin Try.prog .neq 107 (.c (.f f c)) (.c .nilf) = some (.c (.b true)) := by kernel_rfl
theorem neq2T107 : abin Try.prog .neq 107 (.c .nilf) (.c .nilf) = some (.c (.b false)) := by kernel_rfl
theorem dT109 : dT Try.prog 109 = .other := by kernel_rfl
theorem sT109 : szT Try.prog 109 = 1 := by kernel_rfl
theorem bT109 : byT Try.prog 109 = 8 := by kernel_rfl
theorem zT109 : zT Try.prog 109 = some [.nilf] := by kernel_rfl
theorem eql1T109 {f : Nat} {c : List (Nat × Nat × Nat)}  : abin Try.prog .eql 109 (.c (.f f c)) (.c .nilf) = some (.c (.b false)) := by kernel_rfl
theorem eql2T109 : abin Try.prog .eql 109 (.c .nilf) (.c .nilf) = some (.c (.b true)) := by kernel_rfl
theorem neq1T109 {f : Nat} {c : List (Nat × Nat × Nat)}  : abin Try.prog .neq 109 (.c (.f f c)) (.c .nilf) = some (.c (.b true)) := by kernel_rfl
theorem neq2T109 : abin Try.prog .neq 109 (.c .nilf) (.c .nilf) = some (.c (.b false)) := by kernel_rfl
theorem dT111 : dT Try.prog 111 = .other := by kernel_rfl
theorem sT111 : szT Try.prog 111 = 1 := by kernel_rfl
theorem bT111 : byT Try.prog 111 = 8 := by kernel_rfl
theorem zT111 : zT Try.prog 111 = some [.nilf] := by kernel_rfl
theorem eql1T111 {f : Nat} {c : List (Nat × Nat × Nat)}  : abin Try.prog .eql 111 (.c (.f f c)) (.c .nilf) = some (.c (.b false)) := by kernel_rfl
theorem eql2T111 : abin Try.prog .eql 111 (.c .nilf) (.c .nilf) = some (.c (.b true)) := by kernel_rfl
theorem neq1T111 {f : Nat} {c : List (Nat × Nat × Nat)}  : abin Try.prog .neq 111 (.c (.f f c)) (.c .nilf) = some (.c (.b true)) := by kernel_rfl
theorem neq2T111 : abin Try.prog .neq 111 (.c .nilf) (.c .nilf) = some (.c (.b false)) := by kernel_rfl
theorem dT113 : dT Try.prog 113 = .other := by kernel_rfl
theorem sT113 : szT Try.prog 113 = 1 := by kernel_rfl
theorem bT113 : byT Try.prog 113 = 8 := by kernel_rfl
theorem zT113 : zT Try.prog 113 = some [.nilf] := by kernel_rfl
theorem eql1T113 {f : Nat} {c : List (Nat × Nat × Nat)}  : abin Try.prog .eql 113 (.c (.f f c)) (.c .nilf) = some (.c (.b false)) := by kernel_rfl
theorem eql2T113 : abin Try.prog .eql 113 (.c .nilf) (.c .nilf) = some (.c (.b true)) := by kernel_rfl
theorem neq1T113 {f : Nat} {c : List (Nat × Nat × Nat)}  : abin Try.prog .neq 113 (.c (.f f c)) (.c .nilf) = some (.c (.b true)) := by kernel_rfl
theorem neq2T113 : abin Try.prog .neq 113 (.c .nilf) (.c .nilf) = some (.c (.b false)) := by kernel_rfl
theorem dT115 : dT Try.prog 115 = .other := by kernel_rfl
theorem sT115 : szT Try.prog 115 = 1 := by kernel_rfl
theorem bT115 : byT Try.prog 115 = 8 := by kernel_rfl
theorem zT115 : zT Try.prog 115 = some [.nilf] := by kernel_rfl
theorem eql1T115 {f : Nat} {c : List (Nat × Nat × Nat)}  : abin Try.prog .eql 115 (.c (.f f c)) (.c .nilf) = some (.c (.b false)) := by kernel_rfl
theorem eql2T115 : abin Try.prog .eql 115 (.c .nilf) (.c .nilf) = some (.c (.b true)) := by kernel_rfl
theorem neq1T115 {f : Nat} {c : List (Nat × Nat × Nat)}  : abin Try.prog .neq 115 (.c (.f f c)) (.c .nilf) = some (.c (.b true)) := by kernel_rfl
theorem neq2T115 : abin Try.prog .neq 115 (.c .nilf) (.c .nilf) = some (.c (.b false)) := by kernel_rfl
theorem dT117 : dT Try.prog 117 = .other := by kernel_rfl
theorem sT117 : szT Try.prog 117 = 1 := by kernel_rfl
theorem bT117 : byT Try.prog 117 = 8 := by kernel_rfl
theorem zT117 : zT Try.prog 117 = some [.nilf] := by kernel_rfl
theorem eql1T117 {f : Nat} {c : List (Nat × Nat × Nat)}  : abin Try.prog .eql 117 (.c (.f f c)) (.c .nilf) = some (.c (.b false)) := by kernel_rfl
theorem eql2T117 : abin Try.prog .eql 117 (.c .nilf) (.c .nilf) = some (.c (.b true)) := by kernel_rfl
theorem neq1T117 {f : Nat} {c : List (Nat × Nat × Nat)}  : abin Try.prog .neq 117 (.c (.f f c)) (.c .nilf) = some (.c (.b true)) := by kernel_rfl
theorem neq2T117 : abin Try.prog .neq 117 (.c .nilf) (.c .nilf) = some (.c (.b false)) := by kernel_rfl
theorem dT119 : dT Try.prog 119 = .other := by kernel_rfl
theorem sT119 : szT Try.prog 119 = 1 := by kernel_rfl
theorem bT119 : byT Try.prog 119 = 8 := by kernel_rfl
theorem zT119 : zT Try.prog 119 = some [.nilf] := by kernel_rfl
theorem eql1T119 {f : Nat} {c : List (Nat × Nat × Nat)}  : abin Try.prog .eql 119 (.c (.f f c)) (.c .nilf) = some (.c (.b false)) := by kernel_rfl
theorem eql2T119 : abin Try.prog .eql 119 (.c .nilf) (.c .nilf) = some (.c (.b true)) := by kernel_rfl
theorem neq1T119 {f : Nat} {c : List (Nat × Nat × Nat)}  : abin Try.prog .neq 119 (.c (.f f c)) (.c .nilf) = some (.c (.b true)) := by kernel_rfl
theorem neq2T119 : abin Try.prog .neq 119 (.c .nilf) (.c .nilf) = some (.c (.b false)) := by kernel_rfl
theorem dT120 : dT Try.prog 120 = .other := by kernel_rfl
theorem sT120 : szT Try.prog 120 = 1 := by kernel_rfl
theorem bT120 : byT Try.prog 120 = 8 := by kernel_rfl
theorem zT120 : zT Try.prog 120 = some [.nilf] := by kernel_rfl
theorem eql1T120 {f : Nat} {c : List (Nat × Nat × Nat)}  : abin Try.prog .eql 120 (.c (.f f c)) (.c .nilf) = some (.c (.b false)) := by kernel_rfl
theorem eql2T120 : abin Try.prog .eql 120 (.c .nilf) (.c .nilf) = some (.c (.b true)) := by kernel_rfl
theorem neq1T120 {f : Nat} {c : List (Nat × Nat × Nat)}  : abin Try.prog .neq 120 (.c (.f f c)) (.c .nilf) = some (.c (.b true)) := by kernel_rfl
theorem neq2T120 : abin Try.prog .neq 120 (.c .nilf) (.c .nilf) = some (.c (.b false)) := by kernel_rfl
theorem dT121 : dT Try.prog 121 = .other := by kernel_rfl
theorem sT121 : szT Try.prog 121 = 1 := by kernel_rfl
theorem bT121 : byT Try.prog 121 = 8 := by kernel_rfl
theorem zT121 : zT Try.prog 121 = some [.nilf] := by kernel_rfl
theorem eql1T121 {f : Nat} {c : List (Nat × Nat × Nat)}  : abin Try.prog .eql 121 (.c (.f f c)) (.c .nilf) = some (.c (.b false)) := by kernel_rfl
theorem eql2T121 : abin Try.prog .eql 121 (.c .nilf) (.c .nilf) = some (.c (.b true)) := by kernel_rfl
theorem neq1T121 {f : Nat} {c : List (Nat × Nat × Nat)}  : abin Try.prog .neq 121 (.c (.f f c)) (.c .nilf) = some (.c (.b true)) := by kernel_rfl
theorem neq2T121 : abin Try.prog .neq 121 (.c .nilf) (.c .nilf) = some (.c (.b false)) := by kernel_rfl
theorem dT122 : dT Try.prog 122 = .other := by kernel_rfl
theorem sT122 : szT Try.prog 122 = 1 := by kernel_rfl
theorem bT122 : byT Try.prog 122 = 8 := by kernel_rfl
theorem zT122 : zT Try.prog 122 = some [.nilf] := by kernel_rfl
theorem eql1T122 {f : Nat} {c : List (Nat × Nat × Nat)}  : abin Try.prog .eql 122 (.c (.f f c)) (.c .nilf) = some (.c (.b false)) := by kernel_rfl
theorem eql2T122 : abin Try.prog .eql 122 (.c .nilf) (.c .nilf) = some (.c (.b true)) := by kernel_rfl
theorem neq1T122 {f : Nat} {c : List (Nat × Nat × Nat)}  : abin Try.prog .neq 122 (.c (.f f c)) (.c .nilf) = some (.c (.b true)) := by kernel_rfl
theorem neq2T122 : abin Try.prog .neq 122 (.c .nilf) (.c .nilf) = some (.c (.b false)) := by kernel_rfl
theorem dT123 : dT Try.prog 123 = .other := by kernel_rfl
theorem sT123 : szT Try.prog 123 = 1 := by kernel_rfl
theorem bT123 : byT Try.prog 123 = 8 := by kernel_rfl
theorem zT123 : zT Try.prog 123 = some [.nilf] := by kernel_rfl
theorem eql1T123 {f : Nat} {c : List (Nat × Nat × Nat)}  : abin Try.prog .eql 123 (.c (.f f c)) (.c .nilf) = some (.c (.b false)) := by kernel_rfl
theorem eql2T123 : abin Try.prog .eql 123 (.c .nilf) (.c .nilf) = some (.c (.b true)) := by kernel_rfl
theorem neq1T123 {f : Nat} {c : List (Nat × Nat × Nat)}  : abin Try.prog .neq 123 (.c (.f f c)) (.c .nilf) = some (.c (.b true)) := by kernel_rfl
theorem neq2T123 : abin Try.prog .neq 123 (.c .nilf) (.c .nilf) = some (.c (.b false)) := by kernel_rfl
theorem dT124 : dT Try.prog 124 = .other := by kernel_rfl
theorem sT124 : szT Try.prog 124 = 1 := by kernel_rfl
theorem bT124 : byT Try.prog 124 = 8 := by kernel_rfl
theorem zT124 : zT Try.prog 124 = some [.nilf] := by kernel_rfl
theorem eql1T124 {f : Nat} {c : List (Nat × Nat × Nat)}  : abin Try.prog .eql 124 (.c (.f f c)) (.c .nilf) = some (.c (.b false)) := by kernel_rfl
theorem eql2T124 : abin Try.prog .eql 124 (.c .nilf) (.c .nilf) = some (.c (.b true)) := by kernel_rfl
theorem neq1T124 {f : Nat} {c : List (Nat × Nat × Nat)}  : abin Try.prog .neq 124 (.c (.f f c)) (.c .nilf) = some (.c (.b true)) := by kernel_rfl
theorem neq2T124 : abin Try.prog .neq 124 (.c .nilf) (.c .nilf) = some (.c (.b false)) := by kernel_rfl
theorem dT125 : dT Try.prog 125 = .other := by kernel_rfl
theorem sT125 : szT Try.prog 125 = 1 := by kernel_rfl
theorem bT125 : byT Try.prog 125 = 8 := by kernel_rfl
theorem zT125 : zT Try.prog 125 = some [.nilf] := by kernel_rfl
theorem eql1T125 {f : Nat} {c : List (Nat × Nat × Nat)}  : abin Try.prog .eql 125 (.c (.f f c)) (.c .nilf) = some (.c (.b false)) := by kernel_rfl
theorem eql2T125 : abin Try.prog .eql 125 (.c .nilf) (.c .nilf) = some (.c (.b true)) := by kernel_rfl
theorem neq1T125 {f : Nat} {c : List (Nat × Nat × Nat)}  : abin Try.prog .neq 125 (.c (.f f c)) (.c .nilf) = some (.c (.b true)) := by kernel_rfl
theorem neq2T125 : abin Try.prog .neq 125 (.c .nilf) (.c .nilf) = some (.c (.b false)) := by kernel_rfl
theorem dT126 : dT Try.prog 126 = .other := by kernel_rfl
theorem sT126 : szT Try.prog 126 = 1 := by kernel_rfl
theorem bT126 : byT Try.prog 126 = 8 := by kernel_rfl
theorem zT126 : zT Try.prog 126 = some [.nilf] := by kernel_rfl
theorem eql1T126 {f : Nat} {c : List (Nat × Nat × Nat)}  : abin Try.prog .eql 126 (.c (.f f c)) (.c .nilf) = some (.c (.b false)) := by kernel_rfl
theorem eql2T126 : abin Try.prog .eql 126 (.c .nilf) (.c .nilf) = some (.c (.b true)) := by kernel_rfl
theorem neq1T126 {f : Nat} {c : List (Nat × Nat × Nat)}  : abin Try.prog .neq 126 (.c (.f f c)) (.c .nilf) = some (.c (.b true)) := by kernel_rfl
theorem neq2T126 : abin Try.prog .neq 126 (.c .nilf) (.c .nilf) = some (.c (.b false)) := by kernel_rfl
theorem dT127 : dT Try.prog 127 = .st [(0, 5), (1, 5), (2, 5), (3, 5), (4, 5), (5, 5), (6, 4), (7, 4), (8, 4), (9, 47), (10, 47)] := by kernel_rfl
theorem sT127 : szT Try.prog 127 = 11 := by kernel_rfl
theorem bT127 : byT Try.prog 127 = 64 := by kernel_rfl
theorem zT127 : zT Try.prog 127 = some [.k .u8 (0), .k .u8 (0), .k .u8 (0), .k .u8 (0), .k .u8 (0), .k .u8 (0), .b false, .b false, .b false, .nils, .nils] := by kernel_rfl
theorem dT128 : dT Try.prog 128 = .st [(0, 5), (1, 5), (2, 5), (3, 5), (4, 5), (5, 5), (6, 4), (7, 4), (8, 4), (9, 47), (10, 47)] := by kernel_rfl
theorem sT128 : szT Try.prog 128 = 11 := by kernel_rfl
theorem bT128 : byT Try.prog 128 = 64 := by kernel_rfl
theorem zT128 : zT Try.prog 128 = some [.k .u8 (0), .k .u8 (0), .k .u8 (0), .k .u8 (0), .k .u8 (0), .k .u8 (0), .b false, .b false, .b false, .nils, .nils] := by kernel_rfl
theorem dT129 : dT Try.prog 129 = .other := by kernel_rfl
theorem sT129 : szT Try.prog 129 = 1 := by kernel_rfl
theorem bT129 : byT Try.prog 129 = 8 := by kernel_rfl
theorem zT129 : zT Try.prog 129 = some [.nilf] := by kernel_rfl
theorem eql1T129 {f : Nat} {c : List (Nat × Nat × Nat)}  : abin Try.prog .eql 129 (.c (.f f c)) (.c .nilf) = some (.c (.b false)) := by kernel_rfl
theorem eql2T129 : abin Try.prog .eql 129 (.c .nilf) (.c .nilf) = some (.c (.b true)) := by kernel_rfl
theorem neq1T129 {f : Nat} {c : List (Nat × Nat × Nat)}  : abin Try.prog .neq 129 (.c (.f f c)) (.c .nilf) = some (.c (.b true)) := by kernel_rfl
theorem neq2T129 : abin Try.prog .neq 129 (.c .nilf) (.c .nilf) = some (.c (.b false)) := by kernel_rfl
theorem dT131 : dT Try.prog 131 = .other := by kernel_rfl
theorem sT131 : szT Try.prog 131 = 1 := by kernel_rfl
theorem bT131 : byT Try.prog 131 = 8 := by kernel_rfl
theorem zT131 : zT Try.prog 131 = some [.nilf] := by kernel_rfl
theorem eql1T131 {f : Nat} {c : List (Nat × Nat × Nat)}  : abin Try.prog .eql 131 (.c (.f f c)) (.c .nilf) = some (.c (.b false)) := by kernel_rfl
theorem eql2T131 : abin Try.prog .eql 131 (.c .nilf) (.c .nilf) = some (.c (.b true)) := by kernel_rfl
theorem neq1T131 {f : Nat} {c : List (Nat × Nat × Nat)}  : abin Try.prog .neq 131 (.c (.f f c)) (.c .nilf) = some (.c (.b true)) := by kernel_rfl
theorem neq2T131 : abin Try.prog .neq 131 (.c .nilf) (.c .nilf) = some (.c (.b false)) := by kernel_rfl
theorem dT132 : dT Try.prog 132 = .other := by kernel_rfl
theorem sT132 : szT Try.prog 132 = 1 := by kernel_rfl
theorem bT132 : byT Try.prog 132 = 8 := by kernel_rfl
theorem zT132 : zT Try.prog 132 = some [.nilf] := by kernel_rfl
theorem eql1T132 {f : Nat} {c : List (Nat × Nat × Nat)}  : abin Try.prog .eql 132 (.c (.f f c)) (.c .nilf) = some (.c (.b false)) := by kernel_rfl
theorem eql2T132 : abin Try.prog .eql 132 (.c .nilf) (.c .nilf) = some (.c (.b true)) := by kernel_rfl
theorem neq1T132 {f : Nat} {c : List (Nat × Nat × Nat)}  : abin Try.prog .neq 132 (.c (.f f c)) (.c .nilf) = some (.c (.b true)) := by kernel_rfl
theorem neq2T132 : abin Try.prog .neq 132 (.c .nilf) (.c .nilf) = some (.c (.b false)) := by kernel_rfl
theorem dT133 : dT Try.prog 133 = .other := by kernel_rfl
theorem sT133 : szT Try.prog 133 = 1 := by kernel_rfl
theorem bT133 : byT Try.prog 133 = 8 := by kernel_rfl
theorem zT133 : zT Try.prog 133 = some [.nilf] := by kernel_rfl
theorem eql1T133 {f : Nat} {c : List (Nat × Nat × Nat)}  : abin Try.prog .eql 133 (.c (.f f c)) (.c .nilf) = some (.c (.b false)) := by kernel_rfl
theorem eql2T133 : abin Try.prog .eql 133 (.c .nilf) (.c .nilf) = some (.c (.b true)) := by kernel_rfl
theorem neq1T133 {f : Nat} {c : List (Nat × Nat × Nat)}  : abin Try.prog .neq 133 (.c (.f f c)) (.c .nilf) = some (.c (.b true)) := by kernel_rfl
theorem neq2T133 : abin Try.prog .neq 133 (.c .nilf) (.c .nilf) = some (.c (.b false)) := by kernel_rfl
theorem dT134 : dT Try.prog 134 = .other := by kernel_rfl
theorem sT134 : szT Try.prog 134 = 1 := by kernel_rfl
theorem bT134 : byT Try.prog 134 = 8 := by kernel_rfl
theorem zT134 : zT Try.prog 134 = some [.nilf] := by kernel_rfl
theorem eql1T134 {f : Nat} {c : List (Nat × Nat × Nat)}  : abin Try.prog .eql 134 (.c (.f f c)) (.c .nilf) = some (.c (.b false)) := by kernel_rfl
theorem eql2T134 : abin Try.prog .eql 134 (.c .nilf) (.c .nilf) = some (.c (.b true)) := by kernel_rfl
theorem neq1T134 {f : Nat} {c : List (Nat × Nat × Nat)}  : abin Try.prog .neq 134 (.c (.f f c)) (.c .nilf) = some (.c (.b true)) := by kernel_rfl
theorem neq2T134 : abin Try.prog .neq 134 (.c .nilf) (.c .nilf) = some (.c (.b false)) := by kernel_rfl
theorem dT135 : dT Try.prog 135 = .ptr 81 := by kernel_rfl
theorem sT135 : szT Try.prog 135 = 1 := by kernel_rfl
theorem bT135 : byT Try.prog 135 = 8 := by kernel_rfl
theorem zT135 : zT Try.prog 135 = some [.nilp] := by kernel_rfl
theorem eql1T135 {a b c : Nat}  : abin Try.prog .eql 135 (.c (.p a b c)) (.c .nilp) = some (.c (.b false)) := by kernel_rfl
theorem eql2T135 : abin Try.prog .eql 135 (.c .nilp) (.c .nilp) = some (.c (.b true)) := by kernel_rfl
theorem neq1T135 {a b c : Nat}  : abin Try.prog .neq 135 (.c (.p a b c)) (.c .nilp) = some (.c (.b true)) := by kernel_rfl
theorem neq2T135 : abin Try.prog .neq 135 (.c .nilp) (.c .nilp) = some (.c (.b false)) := by kernel_rfl
theorem dT136 : dT Try.prog 136 = .ptr 88 := by kernel_rfl
theorem sT136 : szT Try.prog 136 = 1 := by kernel_rfl
theorem bT136 : byT Try.prog 136 = 8 := by kernel_rfl
theorem zT136 : zT Try.prog 136 = some [.nilp] := by kernel_rfl
theorem eql1T136 {a b c : Nat}  : abin Try.prog .eql 136 (.c (.p a b c)) (.c .nilp) = some (.c (.b false)) := by kernel_rfl
theorem eql2T136 : abin Try.prog .eql 136 (.c .nilp) (.c .nilp) = some (.c (.b true)) := by kernel_rfl
theorem neq1T136 {a b c : Nat}  : abin Try.prog .neq 136 (.c (.p a b c)) (.c .nilp) = some (.c (.b true)) := by kernel_rfl
theorem neq2T136 : abin Try.prog .neq 136 (.c .nilp) (.c .nilp) = some (.c (.b false)) := by kernel_rfl
theorem dT137 : dT Try.prog 137 = .other := by kernel_rfl
theorem sT137 : szT Try.prog 137 = 1 := by kernel_rfl
theorem bT137 : byT Try.prog 137 = 8 := by kernel_rfl
theorem zT137 : zT Try.prog 137 = some [.nilf] := by kernel_rfl
theorem eql1T137 {f : Nat} {c : List (Nat × Nat × Nat)}  : abin Try.prog .eql 137 (.c (.f f c)) (.c .nilf) = some (.c (.b false)) := by kernel_rfl
theorem eql2T137 : abin Try.prog .eql 137 (.c .nilf) (.c .nilf) = some (.c (.b true)) := by kernel_rfl
theorem neq1T137 {f : Nat} {c : List (Nat × Nat × Nat)}  : abin Try.prog .neq 137 (.c (.f f c)) (.c .nilf) = some (.c (.b true)) := by kernel_rfl
theorem neq2T137 : abin Try.prog .neq 137 (.c .nilf) (.c .nilf) = some (.c (.b false)) := by kernel_rfl
theorem dT138 : dT Try.prog 138 = .other := by kernel_rfl
theorem sT138 : szT Try.prog 138 = 1 := by kernel_rfl
theorem bT138 : byT Try.prog 138 = 8 := by kernel_rfl
theorem zT138 : zT Try.prog 138 = some [.nilf] := by kernel_rfl
theorem eql1T138 {f : Nat} {c : List (Nat × Nat × Nat)}  : abin Try.prog .eql 138 (.c (.f f c)) (.c .nilf) = some (.c (.b false)) := by kernel_rfl
theorem eql2T138 : abin Try.prog .eql 138 (.c .nilf) (.c .nilf) = some (.c (.b true)) := by kernel_rfl
theorem neq1T138 {f : Nat} {c : List (Nat × Nat × Nat)}  : abin Try.prog .neq 138 (.c (.f f c)) (.c .nilf) = some (.c (.b true)) := by kernel_rfl
theorem neq2T138 : abin Try.prog .neq 138 (.c .nilf) (.c .nilf) = some (.c (.b false)) := by kernel_rfl
theorem dT139 : dT Try.prog 139 = .other := by kernel_rfl
theorem sT139 : szT Try.prog 139 = 1 := by kernel_rfl
theorem bT139 : byT Try.prog 139 = 8 := by kernel_rfl
theorem zT139 : zT Try.prog 139 = some [.nilf] := by kernel_rfl
theorem eql1T139 {f : Nat} {c : List (Nat × Nat × Nat)}  : abin Try.prog .eql 139 (.c (.f f c)) (.c .nilf) = some (.c (.b false)) := by kernel_rfl
theorem eql2T139 : abin Try.prog .eql 139 (.c .nilf) (.c .nilf) = some (.c (.b true)) := by kernel_rfl
theorem neq1T139 {f : Nat} {c : List (Nat × Nat × Nat)}  : abin Try.prog .neq 139 (.c (.f f c)) (.c .nilf) = some (.c (.b true)) := by kernel_rfl
theorem neq2T139 : abin Try.prog .neq 139 (.c .nilf) (.c .nilf) = some (.c (.b false)) := by kernel_rfl
theorem dT140 : dT Try.prog 140 = .other := by kernel_rfl
theorem sT140 : szT Try.prog 140 = 1 := by kernel_rfl
theorem bT140 : byT Try.prog 140 = 8 := by kernel_rfl
theorem zT140 : zT Try.prog 140 = some [.nilf] := by kernel_rfl
theorem eql1T140 {f : Nat} {c : List (Nat × Nat × Nat)}  : abin Try.prog .eql 140 (.c (.f f c)) (.c .nilf) = some (.c (.b false)) := by kernel_rfl
theorem eql2T140 : abin Try.prog .eql 140 (.c .nilf) (.c .nilf) = some (.c (.b true)) := by kernel_rfl
theorem neq1T140 {f : Nat} {c : List (Nat × Nat × Nat)}  : abin Try.prog .neq 140 (.c (.f f c)) (.c .nilf) = some (.c (.b true)) := by kernel_rfl
theorem neq2T140 : abin Try.prog .neq 140 (.c .nilf) (.c .nilf) = some (.c (.b false)) := by kernel_rfl
theorem dT141 : dT Try.prog 141 = .arr 9 5 := by kernel_rfl
theorem sT141 : szT Try.prog 141 = 9 := by kernel_rfl
theorem bT141 : byT Try.prog 141 = 9 := by kernel_rfl
theorem zT141 : zT Try.prog 141 = some [.k .u8 (0), .k .u8 (0), .k .u8 (0), .k .u8 (0), .k .u8 (0), .k .u8 (0), .k .u8 (0), .k .u8 (0), .k .u8 (0)] := by kernel_rfl
theorem gT141 : tagsT Try.prog 12 141 = some [.n, .n, .n, .n, .n, .n, .n, .n, .n] := by kernel_rfl
theorem eqT141 {a b : List Sc} : abin Try.prog .eql 141 (.g a) (.g b) = (csEq [.n, .n, .n, .n, .n, .n, .n, .n, .n] a b).bind (eqU .eql) := ab_g_eql _ (by simp only [dT141, D.agg]) gT141
theorem neT141 {a b : List Sc} : abin Try.prog .neq 141 (.g a) (.g b) = (csEq [.n, .n, .n, .n, .n, .n, .n, .n, .n] a b).bind (eqU .neq) := ab_g_neq _ (by simp only [dT141, D.agg]) gT141
theorem dT142 : dT Try.prog 142 = .other := by kernel_rfl
theorem sT142 : szT Try.prog 142 = 1 := by kernel_rfl
theorem bT142 : byT Try.prog 142 = 8 := by kernel_rfl
theorem zT142 : zT Try.prog 142 = some [.nilf] := by kernel_rfl
theorem eql1T142 {f : Nat} {c : List (Nat × Nat × Nat)}  : abin Try.prog .eql 142 (.c (.f f c)) (.c .nilf) = some (.c (.b false)) := by kernel_rfl
theorem eql2T142 : abin Try.prog .eql 142 (.c .nilf) (.c .nilf) = some (.c (.b true)) := by kernel_rfl
theorem neq1T142 {f : Nat} {c : List (Nat × Nat × Nat)}  : abin Try.prog .neq 142 (.c (.f f c)) (.c .nilf) = some (.c (.b true)) := by kernel_rfl
theorem neq2T142 : abin Try.prog .neq 142 (.c .nilf) (.c .nilf) = some (.c (.b false)) := by kernel_rfl
theorem dT143 : dT Try.prog 143 = .other := by kernel_rfl
theorem sT143 : szT Try.prog 143 = 1 := by kernel_rfl
theorem bT143 : byT Try.prog 143 = 8 := by kernel_rfl
theorem zT143 : zT Try.prog 143 = some [.nilf] := by kernel_rfl
theorem eql1T143 {f : Nat} {c : List (Nat × Nat × Nat)}  : abin Try.prog .eql 143 (.c (.f f c)) (.c .nilf) = some (.c (.b false)) := by kernel_rfl
theorem eql2T143 : abin Try.prog .eql 143 (.c .nilf) (.c .nilf) = some (.c (.b true)) := by kernel_rfl
theorem neq1T143 {f : Nat} {c : List (Nat × Nat × Nat)}  : abin Try.prog .neq 143 (.c (.f f c)) (.c .nilf) = some (.c (.b true)) := by kernel_rfl
theorem neq2T143 : abin Try.prog .neq 143 (.c .nilf) (.c .nilf) = some (.c (.b false)) := by kernel_rfl
theorem dT144 : dT Try.prog 144 = .other := by kernel_rfl
theorem sT144 : szT Try.prog 144 = 1 := by kernel_rfl
theorem bT144 : byT Try.prog 144 = 8 := by kernel_rfl
theorem zT144 : zT Try.prog 144 = some [.nilf] := by kernel_rfl
theorem eql1T144 {f : Nat} {c : List (Nat × Nat × Nat)}  : abin Try.prog .eql 144 (.c (.f f c)) (.c .nilf) = some (.c (.b false)) := by kernel_rfl
theorem eql2T144 : abin Try.prog .eql 144 (.c .nilf) (.c .nilf) = some (.c (.b true)) := by kernel_rfl
theorem neq1T144 {f : Nat} {c : List (Nat × Nat × Nat)}  : abin Try.prog .neq 144 (.c (.f f c)) (.c .nilf) = some (.c (.b true)) := by kernel_rfl
theorem neq2T144 : abin Try.prog .neq 144 (.c .nilf) (.c .nilf) = some (.c (.b false)) := by kernel_rfl
theorem dT145 : dT Try.prog 145 = .other := by kernel_rfl
theorem sT145 : szT Try.prog 145 = 1 := by kernel_rfl
theorem bT145 : byT Try.prog 145 = 8 := by kernel_rfl
theorem zT145 : zT Try.prog 145 = some [.nilf] := by kernel_rfl
theorem eql1T145 {f : Nat} {c : List (Nat × Nat × Nat)}  : abin Try.prog .eql 145 (.c (.f f c)) (.c .nilf) = some (.c (.b false)) := by kernel_rfl
theorem eql2T145 : abin Try.prog .eql 145 (.c .nilf) (.c .nilf) = some (.c (.b true)) := by kernel_rfl
theorem neq1T145 {f : Nat} {c : List (Nat × Nat × Nat)}  : abin Try.prog .neq 145 (.c (.f f c)) (.c .nilf) = some (.c (.b true)) := by kernel_rfl
theorem neq2T145 : abin Try.prog .neq 145 (.c .nilf) (.c .nilf) = some (.c (.b false)) := by kernel_rfl
theorem dT146 : dT Try.prog 146 = .other := by kernel_rfl
theorem sT146 : szT Try.prog 146 = 1 := by kernel_rfl
theorem bT146 : byT Try.prog 146 = 8 := by kernel_rfl
theorem zT146 : zT Try.prog 146 = some [.nilf] := by kernel_rfl
theorem eql1T146 {f : Nat} {c : List (Nat × Nat × Nat)}  : abin Try.prog .eql 146 (.c (.f f c)) (.c .nilf) = some (.c (.b false)) := by kernel_rfl
theorem eql2T146 : abin Try.prog .eql 146 (.c .nilf) (.c .nilf) = some (.c (.b true)) := by kernel_rfl
theorem neq1T146 {f : Nat} {c : List (Nat × Nat × Nat)}  : abin Try.prog .neq 146 (.c (.f f c)) (.c .nilf) = some (.c (.b true)) := by kernel_rfl
theorem neq2T146 : abin Try.prog .neq 146 (.c .nilf) (.c .nilf) = some (.c (.b false)) := by kernel_rfl
theorem dT147 : dT Try.prog 147 = .other := by kernel_rfl
theorem sT147 : szT Try.prog 147 = 1 := by kernel_rfl
theorem bT147 : byT Try.prog 147 = 8 := by kernel_rfl
theorem zT147 : zT Try.prog 147 = some [.nilf] := by kernel_rfl
theorem eql1T147 {f : Nat} {c : List (Nat × Nat × Nat)}  : abin Try.prog .eql 147 (.c (.f f c)) (.c .nilf) = some (.c (.b false)) := by kernel_rfl
theorem eql2T147 : abin Try.prog .eql 147 (.c .nilf) (.c .nilf) = some (.c (.b true)) := by kernel_rfl
theorem neq1T147 {f : Nat} {c : List (Nat × Nat × Nat)}  : abin Try.prog .neq 147 (.c (.f f c)) (.c .nilf) = some (.c (.b true)) := by kernel_rfl
theorem neq2T147 : abin Try.prog .neq 147 (.c .nilf) (.c .nilf) = some (.c (.b false)) := by kernel_rfl
theorem dT148 : dT Try.prog 148 = .other := by kernel_rfl
theorem sT148 : szT Try.prog 148 = 1 := by kernel_rfl
theorem bT148 : byT Try.prog 148 = 8 := by kernel_rfl
theorem zT148 : zT Try.prog 148 = some [.nilf] := by kernel_rfl
theorem eql1T148 {f : Nat} {c : List (Nat × Nat × Nat)}  : abin Try.prog .eql 148 (.c (.f f c)) (.c .nilf) = some (.c (.b false)) := by kernel_rfl
theorem eql2T148 : abin Try.prog .eql 148 (.c .nilf) (.c .nilf) = some (.c (.b true)) := by kernel_rfl
theorem neq1T148 {f : Nat} {c : List (Nat × Nat × Nat)}  : abin Try.prog .neq 148 (.c (.f f c)) (.c .nilf) = some (.c (.b true)) := by kernel_rfl
theorem neq2T148 : abin Try.prog .neq 148 (.c .nilf) (.c .nilf) = some (.c (.b false)) := by kernel_rfl
theorem dT149 : dT Try.prog 149 = .other := by kernel_rfl
theorem sT149 : szT Try.prog 149 = 1 := by kernel_rfl
theorem bT149 : byT Try.prog 149 = 8 := by kernel_rfl
theorem zT149 : zT Try.prog 149 = some [.nilf] := by kernel_rfl
theorem eql1T149 {f : Nat} {c : List (Nat × Nat × Nat)}  : abin Try.prog .eql 149 (.c (.f f c)) (.c .nilf) = some (.c (.b false)) := by kernel_rfl
theorem eql2T149 : abin Try.prog .eql 149 (.c .nilf) (.c .nilf) = some (.c (.b true)) := by kernel_rfl
theorem neq1T149 {f : Nat} {c : List (Nat × Nat × Nat)}  : abin Try.prog .neq 149 (.c (.f f c)) (.c .nilf) = some (.c (.b true)) := by kernel_rfl
theorem neq2T149 : abin Try.prog .neq 149 (.c .nilf) (.c .nilf) = some (.c (.b false)) := by kernel_rfl
theorem dT150 : dT Try.prog 150 = .ptr 27 := by kernel_rfl
theorem sT150 : szT Try.prog 150 = 1 := by kernel_rfl
theorem bT150 : byT Try.prog 150 = 8 := by kernel_rfl
theorem zT150 : zT Try.prog 150 = some [.nilp] := by kernel_rfl
theorem eql1T150 {a b c : Nat}  : abin Try.prog .eql 150 (.c (.p a b c)) (.c .nilp) = some (.c (.b false)) := by kernel_rfl
theorem eql2T150 : abin Try.prog .eql 150 (.c .nilp) (.c .nilp) = some (.c (.b true)) := by kernel_rfl
theorem neq1T150 {a b c : Nat}  : abin Try.prog .neq 150 (.c (.p a b c)) (.c .nilp) = some (.c (.b true)) := by kernel_rfl
theorem neq2T150 : abin Try.prog .neq 150 (.c .nilp) (.c .nilp) = some (.c (.b false)) := by kernel_rfl
theorem dT151 : dT Try.prog 151 = .int .u64 := by kernel_rfl
theorem sT151 : szT Try.prog 151 = 1 := by kernel_rfl
theorem bT151 : byT Try.prog 151 = 8 := by kernel_rfl
theorem zT151 : zT Try.prog 151 = some [.u 0#64] := by kernel_rfl
theorem dT152 : dT Try.prog 152 = .st [(0, 3), (1, 150), (2, 151)] := by kernel_rfl
theorem sT152 : szT Try.prog 152 = 3 := by kernel_rfl
theorem bT152 : byT Try.prog 152 = 24 := by kernel_rfl
theorem zT152 : zT Try.prog 152 = some [.i 0, .nilp, .u 0#64] := by kernel_rfl
theorem dT153 : dT Try.prog 153 = .st [(0, 3), (1, 150), (2, 151)] := by kernel_rfl
theorem sT153 : szT Try.prog 153 = 3 := by kernel_rfl
theorem bT153 : byT Try.prog 153 = 24 := by kernel_rfl
theorem zT153 : zT Try.prog 153 = some [.i 0, .nilp, .u 0#64] := by kernel_rfl
theorem dT155 : dT Try.prog 155 = .other := by kernel_rfl
theorem sT155 : szT Try.prog 155 = 1 := by kernel_rfl
theorem bT155 : byT Try.prog 155 = 8 := by kernel_rfl
theorem zT155 : zT Try.prog 155 = some [.nilf] := by kernel_rfl
theorem eql1T155 {f : Nat} {c : List (Nat × Nat × Nat)}  : abin Try.prog .eql 155 (.c (.f f c)) (.c .nilf) = some (.c (.b false)) := by kernel_rfl
theorem eql2T155 : abin Try.prog .eql 155 (.c .nilf) (.c .nilf) = some (.c (.b true)) := by kernel_rfl
theorem neq1T155 {f : Nat} {c : List (Nat × Nat × Nat)}  : abin Try.prog .neq 155 (.c (.f f c)) (.c .nilf) = some (.c (.b true)) := by kernel_rfl
theorem neq2T155 : abin Try.prog .neq 155 (.c .nilf) (.c .nilf) = some (.c (.b false)) := by kernel_rfl
theorem dT156 : dT Try.prog 156 = .int .i64 := by kernel_rfl
theorem sT156 : szT Try.prog 156 = 1 := by kernel_rfl
theorem bT156 : byT Try.prog 156 = 8 := by kernel_rfl
theorem zT156 : zT Try.prog 156 = some [.i 0] := by kernel_rfl
theorem dT158 : dT Try.prog 158 = .other := by kernel_rfl
theorem sT158 : szT Try.prog 158 = 1 := by kernel_rfl
theorem bT158 : byT Try.prog 158 = 8 := by kernel_rfl
theorem zT158 : zT Try.prog 158 = some [.nilf] := by kernel_rfl
theorem eql1T158 {f : Nat} {c : List (Nat × Nat × Nat)}  : abin Try.prog .eql 158 (.c (.f f c)) (.c .nilf) = some (.c (.b false)) := by kernel_rfl
theorem eql2T158 : abin Try.prog .eql 158 (.c .nilf) (.c .nilf) = some (.c (.b true)) := by kernel_rfl
theorem neq1T158 {f : Nat} {c : List (Nat × Nat × Nat)}  : abin Try.prog .neq 158 (.c (.f f c)) (.c .nilf) = some (.c (.b true)) := by kernel_rfl
theorem neq2T158 : abin Try.prog .neq 158 (.c .nilf) (.c .nilf) = some (.c (.b false)) := by kernel_rfl
theorem dT159 : dT Try.prog 159 = .other := by kernel_rfl
theorem sT159 : szT Try.prog 159 = 1 := by kernel_rfl
theorem bT159 : byT Try.prog 159 = 8 := by kernel_rfl
theorem zT159 : zT Try.prog 159 = some [.nilf] := by kernel_rfl
theorem eql1T159 {f : Nat} {c : List (Nat × Nat × Nat)}  : abin Try.prog .eql 159 (.c (.f f c)) (.c .nilf) = some (.c (.b false)) := by kernel_rfl
theorem eql2T159 : abin Try.prog .eql 159 (.c .nilf) (.c .nilf) = some (.c (.b true)) := by kernel_rfl
theorem neq1T159 {f : Nat} {c : List (Nat × Nat × Nat)}  : abin Try.prog .neq 159 (.c (.f f c)) (.c .nilf) = some (.c (.b true)) := by kernel_rfl
theorem neq2T159 : abin Try.prog .neq 159 (.c .nilf) (.c .nilf) = some (.c (.b false)) := by kernel_rfl
theorem dT160 : dT Try.prog 160 = .other := by kernel_rfl
theorem sT160 : szT Try.prog 160 = 1 := by kernel_rfl
theorem bT160 : byT Try.prog 160 = 8 := by kernel_rfl
theorem zT160 : zT Try.prog 160 = some [.nilf] := by kernel_rfl
theorem eql1T160 {f : Nat} {c : List (Nat × Nat × Nat)}  : abin Try.prog .eql 160 (.c (.f f c)) (.c .nilf) = some (.c (.b false)) := by kernel_rfl
theorem eql2T160 : abin Try.prog .eql 160 (.c .nilf) (.c .nilf) = some (.c (.b true)) := by kernel_rfl
theorem neq1T160 {f : Nat} {c : List (Nat × Nat × Nat)}  : abin Try.prog .neq 160 (.c (.f f c)) (.c .nilf) = some (.c (.b true)) := by kernel_rfl
theorem neq2T160 : abin Try.prog .neq 160 (.c .nilf) (.c .nilf) = some (.c (.b false)) := by kernel_rfl
theorem dT161 : dT Try.prog 161 = .arr 3 4 := by kernel_rfl
theorem sT161 : szT Try.prog 161 = 3 := by kernel_rfl
theorem bT161 : byT Try.prog 161 = 3 := by kernel_rfl
theorem zT161 : zT Try.prog 161 = some [.b false, .b false, .b false] := by kernel_rfl
theorem gT161 : tagsT Try.prog 12 161 = some [.q, .q, .q] := by kernel_rfl
theorem eqT161 {a b : List Sc} : abin Try.prog .eql 161 (.g a) (.g b) = (csEq [.q, .q, .q] a b).bind (eqU .eql) := ab_g_eql _ (by simp only [dT161, D.agg]) gT161
theorem neT161 {a b : List Sc} : abin Try.prog .neq 161 (.g a) (.g b) = (csEq [.q, .q, .q] a b).bind (eqU .neq) := ab_g_neq _ (by simp only [dT161, D.agg]) gT161
theorem dT162 : dT Try.prog 162 = .other := by kernel_rfl
theorem sT162 : szT Try.prog 162 = 1 := by kernel_rfl
theorem bT162 : byT Try.prog 162 = 8 := by kernel_rfl
theorem zT162 : zT Try.prog 162 = some [.nilf] := by kernel_rfl
theorem eql1T162 {f : Nat} {c : List (Nat × Nat × Nat)}  : abin Try.prog .eql 162 (.c (.f f c)) (.c .nilf) = some (.c (.b false)) := by kernel_rfl
theorem eql2T162 : abin Try.prog .eql 162 (.c .nilf) (.c .nilf) = some (.c (.b true)) := by kernel_rfl
theorem neq1T162 {f : Nat} {c : List (Nat × Nat × Nat)}  : abin Try.prog .neq 162 (.c (.f f c)) (.c .nilf) = some (.c (.b true)) := by kernel_rfl
theorem neq2T162 : abin Try.prog .neq 162 (.c .nilf) (.c .nilf) = some (.c (.b false)) := by kernel_rfl
theorem dT170 : dT Try.prog 170 = .other := by kernel_rfl
theorem sT170 : szT Try.prog 170 = 1 := by kernel_rfl
theorem bT170 : byT Try.prog 170 = 8 := by kernel_rfl
theorem zT170 : zT Try.prog 170 = some [.nilf] := by kernel_rfl
theorem eql1T170 {f : Nat} {c : List (Nat × Nat × Nat)}  : abin Try.prog .eql 170 (.c (.f f c)) (.c .nilf) = some (.c (.b false)) := by kernel_rfl
theorem eql2T170 : abin Try.prog .eql 170 (.c .nilf) (.c .nilf) = some (.c (.b true)) := by kernel_rfl
theorem neq1T170 {f : Nat} {c : List (Nat × Nat × Nat)}  : abin Try.prog .neq 170 (.c (.f f c)) (.c .nilf) = some (.c (.b true)) := by kernel_rfl
theorem neq2T170 : abin Try.prog .neq 170 (.c .nilf) (.c .nilf) = some (.c (.b false)) := by kernel_rfl
theorem dT171 : dT Try.prog 171 = .ptr 5 := by kernel_rfl
theorem sT171 : szT Try.prog 171 = 1 := by kernel_rfl
theorem bT171 : byT Try.prog 171 = 8 := by kernel_rfl
theorem zT171 : zT Try.prog 171 = some [.nilp] := by kernel_rfl
theorem eql1T171 {a b c : Nat}  : abin Try.prog .eql 171 (.c (.p a b c)) (.c .nilp) = some (.c (.b false)) := by kernel_rfl
theorem eql2T171 : abin Try.prog .eql 171 (.c .nilp) (.c .nilp) = some (.c (.b true)) := by kernel_rfl
theorem neq1T171 {a b c : Nat}  : abin Try.prog .neq 171 (.c (.p a b c)) (.c .nilp) = some (.c (.b true)) := by kernel_rfl
theorem neq2T171 : abin Try.prog .neq 171 (.c .nilp) (.c .nilp) = some (.c (.b false)) := by kernel_rfl
theorem dT174 : dT Try.prog 174 = .st [(0, 12), (1, 12), (2, 84), (3, 168), (4, 5), (5, 5), (6, 169), (7, 170), (8, 171), (9, 172), (10, 173)] := by kernel_rfl
theorem sT174 : szT Try.prog 174 = 11 := by kernel_rfl
theorem bT174 : byT Try.prog 174 = 48 := by kernel_rfl
theorem zT174 : zT Try.prog 174 = some [.u 0#64, .u 0#64, .k .u32 (0), .k .u8 (0), .k .u8 (0), .k .u8 (0), .k .u8 (0), .nilf, .nilp, .k .i32 (0), .k .i32 (0)] := by kernel_rfl
attribute [go_sem] dT1 sT1 bT1 zT1 eql1T1 eql2T1 neq1T1 neq2T1 dT2 sT2 bT2 zT2 dT3 sT3 bT3 zT3 dT4 sT4 bT4 zT4 dT5 sT5 bT5 zT5 dT7 sT7 bT7 zT7 dT9 sT9 bT9 zT9 dT12 sT12 bT12 zT12 dT13 sT13 bT13 zT13 dT21 sT21 bT21 zT21 dT22 sT22 bT22 zT22 eqT22 neT22 dT23 sT23 bT23 zT23 eql1T23 eql2T23 neq1T23 neq2T23 dT24 sT24 bT24 zT24 dT26 sT26 bT26 zT26 eql1T26 eql2T26 neq1T26 neq2T26 dT27 sT27 bT27 zT27 dT28 sT28 bT28 zT28 eql1T28 eql2T28 neq1T28 neq2T28 dT29 sT29 bT29 zT29 dT30 sT30 bT30 zT30 eqT30 neT30 dT31 sT31 bT31 zT31 eqT31 neT31 dT32 sT32 bT32 zT32 dT33 sT33 bT33 zT33 dT35 sT35 bT35 zT35 eql1T35 eql2T35 neq1T35 neq2T35 dT36 sT36 bT36 zT36 dT37 sT37 bT37 zT37 dT38 sT38 bT38 zT38 dT39 sT39 bT39 zT39 eqT39 neT39 dT40 sT40 bT40 zT40 dT41 sT41 bT41 zT41 eqT41 neT41 dT42 sT42 bT42 zT42 eql1T42 eql2T42 neq1T42 neq2T42 dT43 sT43 bT43 zT43 eql1T43 eql2T43 neq1T43 neq2T43 dT44 sT44 bT44 zT44 eql1T44 eql2T44 neq1T44 neq2T44 dT45 sT45 bT45 zT45 eql1T45 eql2T45 neq1T45 neq2T45 dT46 sT46 bT46 zT46 eql1T46 eql2T46 neq1T46 neq2T46 dT47 sT47 bT47 zT47 eql1T47 eql2T47 neq1T47 neq2T47 dT48 sT48 bT48 zT48 eql1T48 eql2T48 neq1T48 neq2T48 dT49 sT49 bT49 zT49 eql1T49 eql2T49 neq1T49 neq2T49 dT50 sT50 bT50 zT50 eql1T50 eql2T50 neq1T50 neq2T50 dT51 sT51 bT51 zT51 eql1T51 eql2T51 neq1T51 neq2T51 dT52 sT52 bT52 zT52 eql1T52 eql2T52 neq1T52 neq2T52 dT53 sT53 bT53 zT53 eql1T53 eql2T53 neq1T53 neq2T53 dT54 sT54 bT54 zT54 eqT54 neT54 dT55 sT55 bT55 zT55 eqT55 neT55 dT56 sT56 bT56 zT56 dT57 sT57 bT57 zT57 eqT57 neT57 dT58 sT58 bT58 zT58 eqT58 neT58 dT59 sT59 bT59 zT59 eqT59 neT59 dT60 sT60 bT60 zT60 dT61 sT61 bT61 zT61 eqT61 neT61 dT62 sT62 bT62 dT63 sT63 bT63 dT64 sT64 bT64 zT64 dT65 sT65 bT65 zT65 dT66 sT66 bT66 dT67 sT67 bT67 dT68 sT68 bT68 zT68 eql1T68 eql2T68 neq1T68 neq2T68 dT69 sT69 bT69 zT69 eql1T69 eql2T69 neq1T69 neq2T69 dT70 sT70 bT70 zT70 eql1T70 eql2T70 neq1T70 neq2T70 dT71 sT71 bT71 zT71 dT72 sT72 bT72 zT72 eqT72 neT72 dT74 sT74 bT74 zT74 eql1T74 eql2T74 neq1T74 neq2T74 dT75 sT75 bT75 zT75 eql1T75 eql2T75 neq1T75 neq2T75 dT76 sT76 bT76 zT76 eql1T76 eql2T76 neq1T76 neq2T76 dT77 sT77 bT77 zT77 eql1T77 eql2T77 neq1T77 neq2T77 dT78 sT78 bT78 zT78 eql1T78 eql2T78 neq1T78 neq2T78 dT79 sT79 bT79 zT79 eql1T79 eql2T79 neq1T79 neq2T79 dT80 sT80 bT80 zT80 dT81 sT81 bT81 zT81 eqT81 neT81 dT82 sT82 bT82 zT82 eql1T82 eql2T82 neq1T82 neq2T82 dT83 sT83 bT83 zT83 eqT83 neT83 dT84 sT84 bT84 zT84 dT85 sT85 bT85 zT85 eqT85 neT85 dT86 sT86 bT86 zT86 eqT86 neT86 dT87 sT87 bT87 zT87 dT88 sT88 bT88 zT88 dT89 sT89 bT89 zT89 eql1T89 eql2T89 neq1T89 neq2T89 dT90 sT90 bT90 zT90 dT91 sT91 bT91 zT91 dT92 sT92 bT92 zT92 eql1T92 eql2T92 neq1T92 neq2T92 dT93 sT93 bT93 zT93 dT94 sT94 bT94 zT94 eqT94 neT94 dT95 sT95 bT95 zT95 eql1T95 eql2T95 neq1T95 neq2T95 dT96 sT96 bT96 zT96 eql1T96 eql2T96 neq1T96 neq2T96 dT97 sT97 bT97 zT97 eql1T97 eql2T97 neq1T97 neq2T97 dT98 sT98 bT98 zT98 eql1T98 eql2T98 neq1T98 neq2T98 dT99 sT99 bT99 zT99 eql1T99 eql2T99 neq1T99 neq2T99 dT100 sT100 bT100 zT100 eql1T100 eql2T100 neq1T100 neq2T100 dT101 sT101 bT101 zT101 eql1T101 eql2T101 neq1T101 neq2T101 dT103 sT103 bT103 zT103 eql1T103 eql2T103 neq1T103 neq2T103 dT105 sT105 bT105 zT105 eql1T105 eql2T105 neq1T105 neq2T105 dT106 sT106 bT106 zT106 eql1T106 eql2T106 neq1T106 neq2T106 dT107 sT107 bT107 zT107 eql1T107 eql2T107 neq1T107 neq2T107 dT109 sT109 bT109 zT109 eql1T109 eql2T109 neq1T109 neq2T109 dT111 sT111 bT111 zT111 eql1T111 eql2T111 neq1T111 neq2T111 dT113 sT113 bT113 zT113 eql1T113 eql2T113 neq1T113 neq2T113 dT115 sT115 bT115 zT115 eql1T115 eql2T115 neq1T115 neq2T115 dT117 sT117 bT117 zT117 eql1T117 eql2T117 neq1T117 neq2T117 dT119 sT119 bT119 zT119 eql1T119 eql2T119 neq1T119 neq2T119 dT120 sT120 bT120 zT120 eql1T120 eql2T120 neq1T120 neq2T120 dT121 sT121 bT121 zT121 eql1T121 eql2T121 neq1T121 neq2T121 dT122 sT122 bT122 zT122 eql1T122 eql2T122 neq1T122 neq2T122 dT123 sT123 bT123 zT123 eql1T123 eql2T123 neq1T123 neq2T123 dT124 sT124 bT124 zT124 eql1T124 eql2T124 neq1T124 neq2T124 dT125 sT125 bT125 zT125 eql1T125 eql2T125 neq1T125 neq2T125 dT126 sT126 bT126 zT126 eql1T126 eql2T126 neq1T126 neq2T126 dT127 sT127 bT127 zT127 dT128 sT128 bT128 zT128 dT129 sT129 bT129 zT129 eql1T129 eql2T129 neq1T129 neq2T129 dT131 sT131 bT131 zT131 eql1T131 eql2T131 neq1T131 neq2T131 dT132 sT132 bT132 zT132 eql1T132 eql2T132 neq1T132 neq2T132 dT133 sT133 bT133 zT133 eql1T133 eql2T133 neq1T133 neq2T133 dT134 sT134 bT134 zT134 eql1T134 eql2T134 neq1T134 neq2T134 dT135 sT135 bT135 zT135 eql1T135 eql2T135 neq1T135 neq2T135 dT136 sT136 bT136 zT136 eql1T136 eql2T136 neq1T136 neq2T136 dT137 sT137 bT137 zT137 eql1T137 eql2T137 neq1T137 neq2T137 dT138 sT138 bT138 zT138 eql1T138 eql2T138 neq1T138 neq2T138 dT139 sT139 bT139 zT139 eql1T139 eql2T139 neq1T139 neq2T139 dT140 sT140 bT140 zT140 eql1T140 eql2T140 neq1T140 neq2T140 dT141 sT141 bT141 zT141 eqT141 neT141 dT142 sT142 bT142 zT142 eql1T142 eql2T142 neq1T142 neq2T142 dT143 sT143 bT143 zT143 eql1T143 eql2T143 neq1T143 neq2T143 dT144 sT144 bT144 zT144 eql1T144 eql2T144 neq1T144 neq2T144 dT145 sT145 bT145 zT145 eql1T145 eql2T145 neq1T145 neq2T145 dT146 sT146 bT146 zT146 eql1T146 eql2T146 neq1T146 neq2T146 dT147 sT147 bT147 zT147 eql1T147 eql2T147 neq1T147 neq2T147 dT148 sT148 bT148 zT148 eql1T148 eql2T148 neq1T148 neq2T148 dT149 sT149 bT149 zT149 eql1T149 eql2T149 neq1T149 neq2T149 dT150 sT150 bT150 zT150 eql1T150 eql2T150 neq1T150 neq2T150 dT151 sT151 bT151 zT151 dT152 sT152 bT152 zT152 dT153 sT153 bT153 zT153 dT155 sT155 bT155 zT155 eql1T155 eql2T155 neq1T155 neq2T155 dT156 sT156 bT156 zT156 dT158 sT158 bT158 zT158 eql1T158 eql2T158 neq1T158 neq2T158 dT159 sT159 bT159 zT159 eql1T159 eql2T159 neq1T159 neq2T159 dT160 sT160 bT160 zT160 eql1T160 eql2T160 neq1T160 neq2T160 dT161 sT161 bT161 zT161 eqT161 neT161 dT162 sT162 bT162 zT162 eql1T162 eql2T162 neq1T162 neq2T162 dT170 sT170 bT170 zT170 eql1T170 eql2T170 neq1T170 neq2T170 dT171 sT171 bT171 zT171 eql1T171 eql2T171 neq1T171 neq2T171 dT174 sT174 bT174 zT174
end Go.Proofs.Ytfddaaplnnlfoaa
