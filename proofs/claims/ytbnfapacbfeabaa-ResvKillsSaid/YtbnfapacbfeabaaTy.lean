/- The types of this translation, as the abstract machine reads them: closed facts. -/
import Derived.Test.YtbnfapacbfeabaaProg
import Derived.Test.YtbnfapacbfeabaaAw
namespace Go.Proofs.Ytbnfapacbfeabaa
open Go.Am
set_option maxRecDepth 100000
theorem hmix : Try.prog.follows .mixedOrders = true := by kernel_rfl
theorem dT1 : dT Try.prog 1 = .other := by kernel_rfl
theorem sT1 : szT Try.prog 1 = 1 := by kernel_rfl
theorem bT1 : byT Try.prog 1 = 8 := by kernel_rfl
theorem zT1 : zT Try.prog 1 = some [.nilf] := by kernel_rfl
theorem eql1T1 {f : Nat} {c : List (Nat × Nat × Nat)}  : abin Try.prog .eql 1 (.c (.f f c)) (.c .nilf) = some (.c (.b false)) := by kernel_rfl
theorem eql2T1 : abin Try.prog .eql 1 (.c .nilf) (.c .nilf) = some (.c (.b true)) := by kernel_rfl
theorem neq1T1 {f : Nat} {c : List (Nat × Nat × Nat)}  : abin Try.prog .neq 1 (.c (.f f c)) (.c .nilf) = some (.c (.b true)) := by kernel_rfl
theorem neq2T1 : abin Try.prog .neq 1 (.c .nilf) (.c .nilf) = some (.c (.b false)) := by kernel_rfl
theorem dT2 : dT Try.prog 2 = .int .i64 := by kernel_rfl
theorem sT2 : szT Try.prog 2 = 1 := by kernel_rfl
theorem bT2 : byT Try.prog 2 = 8 := by kernel_rfl
theorem zT2 : zT Try.prog 2 = some [.i 0] := by kernel_rfl
theorem dT3 : dT Try.prog 3 = .int .i64 := by kernel_rfl
theorem sT3 : szT Try.prog 3 = 1 := by kernel_rfl
theorem bT3 : byT Try.prog 3 = 8 := by kernel_rfl
theorem zT3 : zT Try.prog 3 = some [.i 0] := by kernel_rfl
theorem dT4 : dT Try.prog 4 = .bool := by kernel_rfl
theorem sT4 : szT Try.prog 4 = 1 := by kernel_rfl
theorem bT4 : byT Try.prog 4 = 1 := by kernel_rfl
theorem zT4 : zT Try.prog 4 = some [.b false] := by kernel_rfl
theorem dT5 : dT Try.prog 5 = .int .u8 := by kernel_rfl
theorem sT5 : szT Try.prog 5 = 1 := by kernel_rfl
theorem bT5 : byT Try.prog 5 = 1 := by kernel_rfl
theorem zT5 : zT Try.prog 5 = some [.k .u8 (0)] := by kernel_rfl
theorem dT7 : dT Try.prog 7 = .st [(0, 2), (1, 3), (2, 4), (3, 6)] := by kernel_rfl
theorem sT7 : szT Try.prog 7 = 4 := by kernel_rfl
theorem bT7 : byT Try.prog 7 = 24 := by kernel_rfl
theorem zT7 : zT Try.prog 7 = some [.i 0, .i 0, .b false, .k .u8 (0)] := by kernel_rfl
theorem dT9 : dT Try.prog 9 = .str := by kernel_rfl
theorem sT9 : szT Try.prog 9 = 1 := by kernel_rfl
theorem bT9 : byT Try.prog 9 = 16 := by kernel_rfl
theorem zT9 : zT Try.prog 9 = some [.s ByteArray.empty] := by kernel_rfl
theorem dT12 : dT Try.prog 12 = .int .u64 := by kernel_rfl
theorem sT12 : szT Try.prog 12 = 1 := by kernel_rfl
theorem bT12 : byT Try.prog 12 = 8 := by kernel_rfl
theorem zT12 : zT Try.prog 12 = some [.u 0#64] := by kernel_rfl
theorem dT13 : dT Try.prog 13 = .st [(0, 9), (1, 12)] := by kernel_rfl
theorem sT13 : szT Try.prog 13 = 2 := by kernel_rfl
theorem bT13 : byT Try.prog 13 = 24 := by kernel_rfl
theorem zT13 : zT Try.prog 13 = some [.s ByteArray.empty, .u 0#64] := by kernel_rfl
theorem dT21 : dT Try.prog 21 = .int .i32 := by kernel_rfl
theorem sT21 : szT Try.prog 21 = 1 := by kernel_rfl
theorem bT21 : byT Try.prog 21 = 4 := by kernel_rfl
theorem zT21 : zT Try.prog 21 = some [.k .i32 (0)] := by kernel_rfl
theorem dT22 : dT Try.prog 22 = .sl 38 := by kernel_rfl
theorem sT22 : szT Try.prog 22 = 1 := by kernel_rfl
theorem bT22 : byT Try.prog 22 = 24 := by kernel_rfl
theorem zT22 : zT Try.prog 22 = some [.nils] := by kernel_rfl
theorem eql1T22 {a b c n : Nat}  : abin Try.prog .eql 22 (.c (.sl a b c n)) (.c .nils) = if n = 0 then some (.c .qq) else some (.c (.b false)) := by kernel_rfl
theorem eql2T22 : abin Try.prog .eql 22 (.c .nils) (.c .nils) = some (.c (.b true)) := by kernel_rfl
theorem neq1T22 {a b c n : Nat}  : abin Try.prog .neq 22 (.c (.sl a b c n)) (.c .nils) = if n = 0 then some (.c .qq) else some (.c (.b true)) := by kernel_rfl
theorem neq2T22 : abin Try.prog .neq 22 (.c .nils) (.c .nils) = some (.c (.b false)) := by kernel_rfl
theorem dT23 : dT Try.prog 23 = .int .u64 := by kernel_rfl
theorem sT23 : szT Try.prog 23 = 1 := by kernel_rfl
theorem bT23 : byT Try.prog 23 = 8 := by kernel_rfl
theorem zT23 : zT Try.prog 23 = some [.u 0#64] := by kernel_rfl
theorem dT24 : dT Try.prog 24 = .other := by kernel_rfl
theorem sT24 : szT Try.prog 24 = 1 := by kernel_rfl
theorem bT24 : byT Try.prog 24 = 8 := by kernel_rfl
theorem zT24 : zT Try.prog 24 = some [.nilf] := by kernel_rfl
theorem eql1T24 {f : Nat} {c : List (Nat × Nat × Nat)}  : abin Try.prog .eql 24 (.c (.f f c)) (.c .nilf) = some (.c (.b false)) := by kernel_rfl
theorem eql2T24 : abin Try.prog .eql 24 (.c .nilf) (.c .nilf) = some (.c (.b true)) := by kernel_rfl
theorem neq1T24 {f : Nat} {c : List (Nat × Nat × Nat)}  : abin Try.prog .neq 24 (.c (.f f c)) (.c .nilf) = some (.c (.b true)) := by kernel_rfl
theorem neq2T24 : abin Try.prog .neq 24 (.c .nilf) (.c .nilf) = some (.c (.b false)) := by kernel_rfl
theorem dT25 : dT Try.prog 25 = .st [(0, 4), (1, 23)] := by kernel_rfl
theorem sT25 : szT Try.prog 25 = 2 := by kernel_rfl
theorem bT25 : byT Try.prog 25 = 16 := by kernel_rfl
theorem zT25 : zT Try.prog 25 = some [.b false, .u 0#64] := by kernel_rfl
theorem dT26 : dT Try.prog 26 = .st [(0, 4), (1, 23)] := by kernel_rfl
theorem sT26 : szT Try.prog 26 = 2 := by kernel_rfl
theorem bT26 : byT Try.prog 26 = 16 := by kernel_rfl
theorem zT26 : zT Try.prog 26 = some [.b false, .u 0#64] := by kernel_rfl
theorem gT26 : tagsT Try.prog 12 26 = some [.q, .n] := by kernel_rfl
theorem eqT26 {a b : List Sc} : abin Try.prog .eql 26 (.g a) (.g b) = (csEq [.q, .n] a b).bind (eqU .eql) := ab_g_eql _ (by simp only [dT26, D.agg]) gT26
theorem neT26 {a b : List Sc} : abin Try.prog .neq 26 (.g a) (.g b) = (csEq [.q, .n] a b).bind (eqU .neq) := ab_g_neq _ (by simp only [dT26, D.agg]) gT26
theorem dT27 : dT Try.prog 27 = .arr 8 26 := by kernel_rfl
theorem sT27 : szT Try.prog 27 = 16 := by kernel_rfl
theorem bT27 : byT Try.prog 27 = 128 := by kernel_rfl
theorem zT27 : zT Try.prog 27 = some [.b false, .u 0#64, .b false, .u 0#64, .b false, .u 0#64, .b false, .u 0#64, .b false, .u 0#64, .b false, .u 0#64, .b false, .u 0#64, .b false, .u 0#64] := by kernel_rfl
theorem gT27 : tagsT Try.prog 12 27 = some [.q, .n, .q, .n, .q, .n, .q, .n, .q, .n, .q, .n, .q, .n, .q, .n] := by kernel_rfl
theorem eqT27 {a b : List Sc} : abin Try.prog .eql 27 (.g a) (.g b) = (csEq [.q, .n, .q, .n, .q, .n, .q, .n, .q, .n, .q, .n, .q, .n, .q, .n] a b).bind (eqU .eql) := ab_g_eql _ (by simp only [dT27, D.agg]) gT27
theorem neT27 {a b : List Sc} : abin Try.prog .neq 27 (.g a) (.g b) = (csEq [.q, .n, .q, .n, .q, .n, .q, .n, .q, .n, .q, .n, .q, .n, .q, .n] a b).bind (eqU .neq) := ab_g_neq _ (by simp only [dT27, D.agg]) gT27
theorem dT28 : dT Try.prog 28 = .st [(0, 27)] := by kernel_rfl
theorem sT28 : szT Try.prog 28 = 16 := by kernel_rfl
theorem bT28 : byT Try.prog 28 = 128 := by kernel_rfl
theorem zT28 : zT Try.prog 28 = some [.b false, .u 0#64, .b false, .u 0#64, .b false, .u 0#64, .b false, .u 0#64, .b false, .u 0#64, .b false, .u 0#64, .b false, .u 0#64, .b false, .u 0#64] := by kernel_rfl
theorem dT29 : dT Try.prog 29 = .st [(0, 27)] := by kernel_rfl
theorem sT29 : szT Try.prog 29 = 16 := by kernel_rfl
theorem bT29 : byT Try.prog 29 = 128 := by kernel_rfl
theorem zT29 : zT Try.prog 29 = some [.b false, .u 0#64, .b false, .u 0#64, .b false, .u 0#64, .b false, .u 0#64, .b false, .u 0#64, .b false, .u 0#64, .b false, .u 0#64, .b false, .u 0#64] := by kernel_rfl
theorem gT29 : tagsT Try.prog 12 29 = some [.q, .n, .q, .n, .q, .n, .q, .n, .q, .n, .q, .n, .q, .n, .q, .n] := by kernel_rfl
theorem eqT29 {a b : List Sc} : abin Try.prog .eql 29 (.g a) (.g b) = (csEq [.q, .n, .q, .n, .q, .n, .q, .n, .q, .n, .q, .n, .q, .n, .q, .n] a b).bind (eqU .eql) := ab_g_eql _ (by simp only [dT29, D.agg]) gT29
theorem neT29 {a b : List Sc} : abin Try.prog .neq 29 (.g a) (.g b) = (csEq [.q, .n, .q, .n, .q, .n, .q, .n, .q, .n, .q, .n, .q, .n, .q, .n] a b).bind (eqU .neq) := ab_g_neq _ (by simp only [dT29, D.agg]) gT29
theorem dT30 : dT Try.prog 30 = .arr 8 4 := by kernel_rfl
theorem sT30 : szT Try.prog 30 = 8 := by kernel_rfl
theorem bT30 : byT Try.prog 30 = 8 := by kernel_rfl
theorem zT30 : zT Try.prog 30 = some [.b false, .b false, .b false, .b false, .b false, .b false, .b false, .b false] := by kernel_rfl
theorem gT30 : tagsT Try.prog 12 30 = some [.q, .q, .q, .q, .q, .q, .q, .q] := by kernel_rfl
theorem eqT30 {a b : List Sc} : abin Try.prog .eql 30 (.g a) (.g b) = (csEq [.q, .q, .q, .q, .q, .q, .q, .q] a b).bind (eqU .eql) := ab_g_eql _ (by simp only [dT30, D.agg]) gT30
theorem neT30 {a b : List Sc} : abin Try.prog .neq 30 (.g a) (.g b) = (csEq [.q, .q, .q, .q, .q, .q, .q, .q] a b).bind (eqU .neq) := ab_g_neq _ (by simp only [dT30, D.agg]) gT30
theorem dT31 : dT Try.prog 31 = .arr 8 23 := by kernel_rfl
theorem sT31 : szT Try.prog 31 = 8 := by kernel_rfl
theorem bT31 : byT Try.prog 31 = 64 := by kernel_rfl
theorem zT31 : zT Try.prog 31 = some [.u 0#64, .u 0#64, .u 0#64, .u 0#64, .u 0#64, .u 0#64, .u 0#64, .u 0#64] := by kernel_rfl
theorem gT31 : tagsT Try.prog 12 31 = some [.n, .n, .n, .n, .n, .n, .n, .n] := by kernel_rfl
theorem eqT31 {a b : List Sc} : abin Try.prog .eql 31 (.g a) (.g b) = (csEq [.n, .n, .n, .n, .n, .n, .n, .n] a b).bind (eqU .eql) := ab_g_eql _ (by simp only [dT31, D.agg]) gT31
theorem neT31 {a b : List Sc} : abin Try.prog .neq 31 (.g a) (.g b) = (csEq [.n, .n, .n, .n, .n, .n, .n, .n] a b).bind (eqU .neq) := ab_g_neq _ (by simp only [dT31, D.agg]) gT31
theorem dT32 : dT Try.prog 32 = .st [(0, 30), (8, 31)] := by kernel_rfl
theorem sT32 : szT Try.prog 32 = 16 := by kernel_rfl
theorem bT32 : byT Try.prog 32 = 72 := by kernel_rfl
theorem zT32 : zT Try.prog 32 = some [.b false, .b false, .b false, .b false, .b false, .b false, .b false, .b false, .u 0#64, .u 0#64, .u 0#64, .u 0#64, .u 0#64, .u 0#64, .u 0#64, .u 0#64] := by kernel_rfl
theorem dT33 : dT Try.prog 33 = .st [(0, 30), (8, 31)] := by kernel_rfl
theorem sT33 : szT Try.prog 33 = 16 := by kernel_rfl
theorem bT33 : byT Try.prog 33 = 72 := by kernel_rfl
theorem zT33 : zT Try.prog 33 = some [.b false, .b false, .b false, .b false, .b false, .b false, .b false, .b false, .u 0#64, .u 0#64, .u 0#64, .u 0#64, .u 0#64, .u 0#64, .u 0#64, .u 0#64] := by kernel_rfl
theorem gT33 : tagsT Try.prog 12 33 = some [.q, .q, .q, .q, .q, .q, .q, .q, .n, .n, .n, .n, .n, .n, .n, .n] := by kernel_rfl
theorem eqT33 {a b : List Sc} : abin Try.prog .eql 33 (.g a) (.g b) = (csEq [.q, .q, .q, .q, .q, .q, .q, .q, .n, .n, .n, .n, .n, .n, .n, .n] a b).bind (eqU .eql) := ab_g_eql _ (by simp only [dT33, D.agg]) gT33
theorem neT33 {a b : List Sc} : abin Try.prog .neq 33 (.g a) (.g b) = (csEq [.q, .q, .q, .q, .q, .q, .q, .q, .n, .n, .n, .n, .n, .n, .n, .n] a b).bind (eqU .neq) := ab_g_neq _ (by simp only [dT33, D.agg]) gT33
theorem dT35 : dT Try.prog 35 = .other := by kernel_rfl
theorem sT35 : szT Try.prog 35 = 1 := by kernel_rfl
theorem bT35 : byT Try.prog 35 = 8 := by kernel_rfl
theorem zT35 : zT Try.prog 35 = some [.nilf] := by kernel_rfl
theorem eql1T35 {f : Nat} {c : List (Nat × Nat × Nat)}  : abin Try.prog .eql 35 (.c (.f f c)) (.c .nilf) = some (.c (.b false)) := by kernel_rfl
theorem eql2T35 : abin Try.prog .eql 35 (.c .nilf) (.c .nilf) = some (.c (.b true)) := by kernel_rfl
theorem neq1T35 {f : Nat} {c : List (Nat × Nat × Nat)}  : abin Try.prog .neq 35 (.c (.f f c)) (.c .nilf) = some (.c (.b true)) := by kernel_rfl
theorem neq2T35 : abin Try.prog .neq 35 (.c .nilf) (.c .nilf) = some (.c (.b false)) := by kernel_rfl
theorem dT36 : dT Try.prog 36 = .ptr 29 := by kernel_rfl
theorem sT36 : szT Try.prog 36 = 1 := by kernel_rfl
theorem bT36 : byT Try.prog 36 = 8 := by kernel_rfl
theorem zT36 : zT Try.prog 36 = some [.nilp] := by kernel_rfl
theorem eql1T36 {a b c : Nat}  : abin Try.prog .eql 36 (.c (.p a b c)) (.c .nilp) = some (.c (.b false)) := by kernel_rfl
theorem eql2T36 : abin Try.prog .eql 36 (.c .nilp) (.c .nilp) = some (.c (.b true)) := by kernel_rfl
theorem neq1T36 {a b c : Nat}  : abin Try.prog .neq 36 (.c (.p a b c)) (.c .nilp) = some (.c (.b true)) := by kernel_rfl
theorem neq2T36 : abin Try.prog .neq 36 (.c .nilp) (.c .nilp) = some (.c (.b false)) := by kernel_rfl
theorem dT37 : dT Try.prog 37 = .st [(0, 3), (1, 3), (2, 23)] := by kernel_rfl
theorem sT37 : szT Try.prog 37 = 3 := by kernel_rfl
theorem bT37 : byT Try.prog 37 = 24 := by kernel_rfl
theorem zT37 : zT Try.prog 37 = some [.i 0, .i 0, .u 0#64] := by kernel_rfl
theorem dT38 : dT Try.prog 38 = .st [(0, 3), (1, 3), (2, 23)] := by kernel_rfl
theorem sT38 : szT Try.prog 38 = 3 := by kernel_rfl
theorem bT38 : byT Try.prog 38 = 24 := by kernel_rfl
theorem zT38 : zT Try.prog 38 = some [.i 0, .i 0, .u 0#64] := by kernel_rfl
theorem gT38 : tagsT Try.prog 12 38 = some [.n, .n, .n] := by kernel_rfl
theorem eqT38 {a b : List Sc} : abin Try.prog .eql 38 (.g a) (.g b) = (csEq [.n, .n, .n] a b).bind (eqU .eql) := ab_g_eql _ (by simp only [dT38, D.agg]) gT38
theorem neT38 {a b : List Sc} : abin Try.prog .neq 38 (.g a) (.g b) = (csEq [.n, .n, .n] a b).bind (eqU .neq) := ab_g_neq _ (by simp only [dT38, D.agg]) gT38
theorem dT39 : dT Try.prog 39 = .other := by kernel_rfl
theorem sT39 : szT Try.prog 39 = 1 := by kernel_rfl
theorem bT39 : byT Try.prog 39 = 8 := by kernel_rfl
theorem zT39 : zT Try.prog 39 = some [.nilf] := by kernel_rfl
theorem eql1T39 {f : Nat} {c : List (Nat × Nat × Nat)}  : abin Try.prog .eql 39 (.c (.f f c)) (.c .nilf) = some (.c (.b false)) := by kernel_rfl
theorem eql2T39 : abin Try.prog .eql 39 (.c .nilf) (.c .nilf) = some (.c (.b true)) := by kernel_rfl
theorem neq1T39 {f : Nat} {c : List (Nat × Nat × Nat)}  : abin Try.prog .neq 39 (.c (.f f c)) (.c .nilf) = some (.c (.b true)) := by kernel_rfl
theorem neq2T39 : abin Try.prog .neq 39 (.c .nilf) (.c .nilf) = some (.c (.b false)) := by kernel_rfl
theorem dT41 : dT Try.prog 41 = .other := by kernel_rfl
theorem sT41 : szT Try.prog 41 = 1 := by kernel_rfl
theorem bT41 : byT Try.prog 41 = 8 := by kernel_rfl
theorem zT41 : zT Try.prog 41 = some [.nilf] := by kernel_rfl
theorem eql1T41 {f : Nat} {c : List (Nat × Nat × Nat)}  : abin Try.prog .eql 41 (.c (.f f c)) (.c .nilf) = some (.c (.b false)) := by kernel_rfl
theorem eql2T41 : abin Try.prog .eql 41 (.c .nilf) (.c .nilf) = some (.c (.b true)) := by kernel_rfl
theorem neq1T41 {f : Nat} {c : List (Nat × Nat × Nat)}  : abin Try.prog .neq 41 (.c (.f f c)) (.c .nilf) = some (.c (.b true)) := by kernel_rfl
theorem neq2T41 : abin Try.prog .neq 41 (.c .nilf) (.c .nilf) = some (.c (.b false)) := by kernel_rfl
theorem dT42 : dT Try.prog 42 = .other := by kernel_rfl
theorem sT42 : szT Try.prog 42 = 1 := by kernel_rfl
theorem bT42 : byT Try.prog 42 = 8 := by kernel_rfl
theorem zT42 : zT Try.prog 42 = some [.nilf] := by kernel_rfl
theorem eql1T42 {f : Nat} {c : List (Nat × Nat × Nat)}  : abin Try.prog .eql 42 (.c (.f f c)) (.c .nilf) = some (.c (.b false)) := by kernel_rfl
theorem eql2T42 : abin Try.prog .eql 42 (.c .nilf) (.c .nilf) = some (.c (.b true)) := by kernel_rfl
theorem neq1T42 {f : Nat} {c : List (Nat × Nat × Nat)}  : abin Try.prog .neq 42 (.c (.f f c)) (.c .nilf) = some (.c (.b true)) := by kernel_rfl
theorem neq2T42 : abin Try.prog .neq 42 (.c .nilf) (.c .nilf) = some (.c (.b false)) := by kernel_rfl
theorem dT43 : dT Try.prog 43 = .other := by kernel_rfl
theorem sT43 : szT Try.prog 43 = 1 := by kernel_rfl
theorem bT43 : byT Try.prog 43 = 8 := by kernel_rfl
theorem zT43 : zT Try.prog 43 = some [.nilf] := by kernel_rfl
theorem eql1T43 {f : Nat} {c : List (Nat × Nat × Nat)}  : abin Try.prog .eql 43 (.c (.f f c)) (.c .nilf) = some (.c (.b false)) := by kernel_rfl
theorem eql2T43 : abin Try.prog .eql 43 (.c .nilf) (.c .nilf) = some (.c (.b true)) := by kernel_rfl
theorem neq1T43 {f : Nat} {c : List (Nat × Nat × Nat)}  : abin Try.prog .neq 43 (.c (.f f c)) (.c .nilf) = some (.c (.b true)) := by kernel_rfl
theorem neq2T43 : abin Try.prog .neq 43 (.c .nilf) (.c .nilf) = some (.c (.b false)) := by kernel_rfl
theorem dT44 : dT Try.prog 44 = .other := by kernel_rfl
theorem sT44 : szT Try.prog 44 = 1 := by kernel_rfl
theorem bT44 : byT Try.prog 44 = 8 := by kernel_rfl
theorem zT44 : zT Try.prog 44 = some [.nilf] := by kernel_rfl
theorem eql1T44 {f : Nat} {c : List (Nat × Nat × Nat)}  : abin Try.prog .eql 44 (.c (.f f c)) (.c .nilf) = some (.c (.b false)) := by kernel_rfl
theorem eql2T44 : abin Try.prog .eql 44 (.c .nilf) (.c .nilf) = some (.c (.b true)) := by kernel_rfl
theorem neq1T44 {f : Nat} {c : List (Nat × Nat × Nat)}  : abin Try.prog .neq 44 (.c (.f f c)) (.c .nilf) = some (.c (.b true)) := by kernel_rfl
theorem neq2T44 : abin Try.prog .neq 44 (.c .nilf) (.c .nilf) = some (.c (.b false)) := by kernel_rfl
theorem dT45 : dT Try.prog 45 = .sl 3 := by kernel_rfl
theorem sT45 : szT Try.prog 45 = 1 := by kernel_rfl
theorem bT45 : byT Try.prog 45 = 24 := by kernel_rfl
theorem zT45 : zT Try.prog 45 = some [.nils] := by kernel_rfl
theorem eql1T45 {a b c n : Nat}  : abin Try.prog .eql 45 (.c (.sl a b c n)) (.c .nils) = if n = 0 then some (.c .qq) else some (.c (.b false)) := by kernel_rfl
theorem eql2T45 : abin Try.prog .eql 45 (.c .nils) (.c .nils) = some (.c (.b true)) := by kernel_rfl
theorem neq1T45 {a b c n : Nat}  : abin Try.prog .neq 45 (.c (.sl a b c n)) (.c .nils) = if n = 0 then some (.c .qq) else some (.c (.b true)) := by kernel_rfl
theorem neq2T45 : abin Try.prog .neq 45 (.c .nils) (.c .nils) = some (.c (.b false)) := by kernel_rfl
theorem dT46 : dT Try.prog 46 = .other := by kernel_rfl
theorem sT46 : szT Try.prog 46 = 1 := by kernel_rfl
theorem bT46 : byT Try.prog 46 = 8 := by kernel_rfl
theorem zT46 : zT Try.prog 46 = some [.nilf] := by kernel_rfl
theorem eql1T46 {f : Nat} {c : List (Nat × Nat × Nat)}  : abin Try.prog .eql 46 (.c (.f f c)) (.c .nilf) = some (.c (.b false)) := by kernel_rfl
theorem eql2T46 : abin Try.prog .eql 46 (.c .nilf) (.c .nilf) = some (.c (.b true)) := by kernel_rfl
theorem neq1T46 {f : Nat} {c : List (Nat × Nat × Nat)}  : abin Try.prog .neq 46 (.c (.f f c)) (.c .nilf) = some (.c (.b true)) := by kernel_rfl
theorem neq2T46 : abin Try.prog .neq 46 (.c .nilf) (.c .nilf) = some (.c (.b false)) := by kernel_rfl
theorem dT47 : dT Try.prog 47 = .sl 23 := by kernel_rfl
theorem sT47 : szT Try.prog 47 = 1 := by kernel_rfl
theorem bT47 : byT Try.prog 47 = 24 := by kernel_rfl
theorem zT47 : zT Try.prog 47 = some [.nils] := by kernel_rfl
theorem eql1T47 {a b c n : Nat}  : abin Try.prog .eql 47 (.c (.sl a b c n)) (.c .nils) = if n = 0 then some (.c .qq) else some (.c (.b false)) := by kernel_rfl
theorem eql2T47 : abin Try.prog .eql 47 (.c .nils) (.c .nils) = some (.c (.b true)) := by kernel_rfl
theorem neq1T47 {a b c n : Nat}  : abin Try.prog .neq 47 (.c (.sl a b c n)) (.c .nils) = if n = 0 then some (.c .qq) else some (.c (.b true)) := by kernel_rfl
theorem neq2T47 : abin Try.prog .neq 47 (.c .nils) (.c .nils) = some (.c (.b false)) := by kernel_rfl
theorem dT48 : dT Try.prog 48 = .other := by kernel_rfl
theorem sT48 : szT Try.prog 48 = 1 := by kernel_rfl
theorem bT48 : byT Try.prog 48 = 8 := by kernel_rfl
theorem zT48 : zT Try.prog 48 = some [.nilf] := by kernel_rfl
theorem eql1T48 {f : Nat} {c : List (Nat × Nat × Nat)}  : abin Try.prog .eql 48 (.c (.f f c)) (.c .nilf) = some (.c (.b false)) := by kernel_rfl
theorem eql2T48 : abin Try.prog .eql 48 (.c .nilf) (.c .nilf) = some (.c (.b true)) := by kernel_rfl
theorem neq1T48 {f : Nat} {c : List (Nat × Nat × Nat)}  : abin Try.prog .neq 48 (.c (.f f c)) (.c .nilf) = some (.c (.b true)) := by kernel_rfl
theorem neq2T48 : abin Try.prog .neq 48 (.c .nilf) (.c .nilf) = some (.c (.b false)) := by kernel_rfl
theorem dT49 : dT Try.prog 49 = .other := by kernel_rfl
theorem sT49 : szT Try.prog 49 = 1 := by kernel_rfl
theorem bT49 : byT Try.prog 49 = 8 := by kernel_rfl
theorem zT49 : zT Try.prog 49 = some [.nilf] := by kernel_rfl
theorem eql1T49 {f : Nat} {c : List (Nat × Nat × Nat)}  : abin Try.prog .eql 49 (.c (.f f c)) (.c .nilf) = some (.c (.b false)) := by kernel_rfl
theorem eql2T49 : abin Try.prog .eql 49 (.c .nilf) (.c .nilf) = some (.c (.b true)) := by kernel_rfl
theorem neq1T49 {f : Nat} {c : List (Nat × Nat × Nat)}  : abin Try.prog .neq 49 (.c (.f f c)) (.c .nilf) = some (.c (.b true)) := by kernel_rfl
theorem neq2T49 : abin Try.prog .neq 49 (.c .nilf) (.c .nilf) = some (.c (.b false)) := by kernel_rfl
theorem dT50 : dT Try.prog 50 = .other := by kernel_rfl
theorem sT50 : szT Try.prog 50 = 1 := by kernel_rfl
theorem bT50 : byT Try.prog 50 = 8 := by kernel_rfl
theorem zT50 : zT Try.prog 50 = some [.nilf] := by kernel_rfl
theorem eql1T50 {f : Nat} {c : List (Nat × Nat × Nat)}  : abin Try.prog .eql 50 (.c (.f f c)) (.c .nilf) = some (.c (.b false)) := by kernel_rfl
theorem eql2T50 : abin Try.prog .eql 50 (.c .nilf) (.c .nilf) = some (.c (.b true)) := by kernel_rfl
theorem neq1T50 {f : Nat} {c : List (Nat × Nat × Nat)}  : abin Try.prog .neq 50 (.c (.f f c)) (.c .nilf) = some (.c (.b true)) := by kernel_rfl
theorem neq2T50 : abin Try.prog .neq 50 (.c .nilf) (.c .nilf) = some (.c (.b false)) := by kernel_rfl
theorem dT51 : dT Try.prog 51 = .other := by kernel_rfl
theorem sT51 : szT Try.prog 51 = 1 := by kernel_rfl
theorem bT51 : byT Try.prog 51 = 8 := by kernel_rfl
theorem zT51 : zT Try.prog 51 = some [.nilf] := by kernel_rfl
theorem eql1T51 {f : Nat} {c : List (Nat × Nat × Nat)}  : abin Try.prog .eql 51 (.c (.f f c)) (.c .nilf) = some (.c (.b false)) := by kernel_rfl
theorem eql2T51 : abin Try.prog .eql 51 (.c .nilf) (.c .nilf) = some (.c (.b true)) := by kernel_rfl
theorem neq1T51 {f : Nat} {c : List (Nat × Nat × Nat)}  : abin Try.prog .neq 51 (.c (.f f c)) (.c .nilf) = some (.c (.b true)) := by kernel_rfl
theorem neq2T51 : abin Try.prog .neq 51 (.c .nilf) (.c .nilf) = some (.c (.b false)) := by kernel_rfl
theorem dT52 : dT Try.prog 52 = .other := by kernel_rfl
theorem sT52 : szT Try.prog 52 = 1 := by kernel_rfl
theorem bT52 : byT Try.prog 52 = 8 := by kernel_rfl
theorem zT52 : zT Try.prog 52 = some [.nilf] := by kernel_rfl
theorem eql1T52 {f : Nat} {c : List (Nat × Nat × Nat)}  : abin Try.prog .eql 52 (.c (.f f c)) (.c .nilf) = some (.c (.b false)) := by kernel_rfl
theorem eql2T52 : abin Try.prog .eql 52 (.c .nilf) (.c .nilf) = some (.c (.b true)) := by kernel_rfl
theorem neq1T52 {f : Nat} {c : List (Nat × Nat × Nat)}  : abin Try.prog .neq 52 (.c (.f f c)) (.c .nilf) = some (.c (.b true)) := by kernel_rfl
theorem neq2T52 : abin Try.prog .neq 52 (.c .nilf) (.c .nilf) = some (.c (.b false)) := by kernel_rfl
theorem dT54 : dT Try.prog 54 = .other := by kernel_rfl
theorem sT54 : szT Try.prog 54 = 1 := by kernel_rfl
theorem bT54 : byT Try.prog 54 = 8 := by kernel_rfl
theorem zT54 : zT Try.prog 54 = some [.nilf] := by kernel_rfl
theorem eql1T54 {f : Nat} {c : List (Nat × Nat × Nat)}  : abin Try.prog .eql 54 (.c (.f f c)) (.c .nilf) = some (.c (.b false)) := by kernel_rfl
theorem eql2T54 : abin Try.prog .eql 54 (.c .nilf) (.c .nilf) = some (.c (.b true)) := by kernel_rfl
theorem neq1T54 {f : Nat} {c : List (Nat × Nat × Nat)}  : abin Try.prog .neq 54 (.c (.f f c)) (.c .nilf) = some (.c (.b true)) := by kernel_rfl
theorem neq2T54 : abin Try.prog .neq 54 (.c .nilf) (.c .nilf) = some (.c (.b false)) := by kernel_rfl
theorem mT55 : mT Try.prog 55 = some (26, 3) := by kernel_rfl
theorem kA26 : kA Try.prog 26 = some true := by kernel_rfl
theorem kOkG26 {l : List Sc} : kOk Try.prog 26 (.g l) = decide (l.length = 2) := by unfold kOk; rw [kA26]; rfl
theorem zA3 : zA Try.prog 3 = some (.c (.i 0)) := by kernel_rfl
theorem dT56 : dT Try.prog 56 = .other := by kernel_rfl
theorem sT56 : szT Try.prog 56 = 1 := by kernel_rfl
theorem bT56 : byT Try.prog 56 = 8 := by kernel_rfl
theorem zT56 : zT Try.prog 56 = some [.nilf] := by kernel_rfl
theorem eql1T56 {f : Nat} {c : List (Nat × Nat × Nat)}  : abin Try.prog .eql 56 (.c (.f f c)) (.c .nilf) = some (.c (.b false)) := by kernel_rfl
theorem eql2T56 : abin Try.prog .eql 56 (.c .nilf) (.c .nilf) = some (.c (.b true)) := by kernel_rfl
theorem neq1T56 {f : Nat} {c : List (Nat × Nat × Nat)}  : abin Try.prog .neq 56 (.c (.f f c)) (.c .nilf) = some (.c (.b true)) := by kernel_rfl
theorem neq2T56 : abin Try.prog .neq 56 (.c .nilf) (.c .nilf) = some (.c (.b false)) := by kernel_rfl
theorem dT57 : dT Try.prog 57 = .other := by kernel_rfl
theorem sT57 : szT Try.prog 57 = 1 := by kernel_rfl
theorem bT57 : byT Try.prog 57 = 8 := by kernel_rfl
theorem zT57 : zT Try.prog 57 = some [.nilf] := by kernel_rfl
theorem eql1T57 {f : Nat} {c : List (Nat × Nat × Nat)}  : abin Try.prog .eql 57 (.c (.f f c)) (.c .nilf) = some (.c (.b false)) := by kernel_rfl
theorem eql2T57 : abin Try.prog .eql 57 (.c .nilf) (.c .nilf) = some (.c (.b true)) := by kernel_rfl
theorem neq1T57 {f : Nat} {c : List (Nat × Nat × Nat)}  : abin Try.prog .neq 57 (.c (.f f c)) (.c .nilf) = some (.c (.b true)) := by kernel_rfl
theorem neq2T57 : abin Try.prog .neq 57 (.c .nilf) (.c .nilf) = some (.c (.b false)) := by kernel_rfl
theorem dT58 : dT Try.prog 58 = .other := by kernel_rfl
theorem sT58 : szT Try.prog 58 = 1 := by kernel_rfl
theorem bT58 : byT Try.prog 58 = 8 := by kernel_rfl
theorem zT58 : zT Try.prog 58 = some [.nilf] := by kernel_rfl
theorem eql1T58 {f : Nat} {c : List (Nat × Nat × Nat)}  : abin Try.prog .eql 58 (.c (.f f c)) (.c .nilf) = some (.c (.b false)) := by kernel_rfl
theorem eql2T58 : abin Try.prog .eql 58 (.c .nilf) (.c .nilf) = some (.c (.b true)) := by kernel_rfl
theorem neq1T58 {f : Nat} {c : List (Nat × Nat × Nat)}  : abin Try.prog .neq 58 (.c (.f f c)) (.c .nilf) = some (.c (.b true)) := by kernel_rfl
theorem neq2T58 : abin Try.prog .neq 58 (.c .nilf) (.c .nilf) = some (.c (.b false)) := by kernel_rfl
theorem dT59 : dT Try.prog 59 = .other := by kernel_rfl
theorem sT59 : szT Try.prog 59 = 1 := by kernel_rfl
theorem bT59 : byT Try.prog 59 = 8 := by kernel_rfl
theorem zT59 : zT Try.prog 59 = some [.nilf] := by kernel_rfl
theorem eql1T59 {f : Nat} {c : List (Nat × Nat × Nat)}  : abin Try.prog .eql 59 (.c (.f f c)) (.c .nilf) = some (.c (.b false)) := by kernel_rfl
theorem eql2T59 : abin Try.prog .eql 59 (.c .nilf) (.c .nilf) = some (.c (.b true)) := by kernel_rfl
theorem neq1T59 {f : Nat} {c : List (Nat × Nat × Nat)}  : abin Try.prog .neq 59 (.c (.f f c)) (.c .nilf) = some (.c (.b true)) := by kernel_rfl
theorem neq2T59 : abin Try.prog .neq 59 (.c .nilf) (.c .nilf) = some (.c (.b false)) := by kernel_rfl
theorem dT60 : dT Try.prog 60 = .other := by kernel_rfl
theorem sT60 : szT Try.prog 60 = 1 := by kernel_rfl
theorem bT60 : byT Try.prog 60 = 8 := by kernel_rfl
theorem zT60 : zT Try.prog 60 = some [.nilf] := by kernel_rfl
theorem eql1T60 {f : Nat} {c : List (Nat × Nat × Nat)}  : abin Try.prog .eql 60 (.c (.f f c)) (.c .nilf) = some (.c (.b false)) := by kernel_rfl
theorem eql2T60 : abin Try.prog .eql 60 (.c .nilf) (.c .nilf) = some (.c (.b true)) := by kernel_rfl
theorem neq1T60 {f : Nat} {c : List (Nat × Nat × Nat)}  : abin Try.prog .neq 60 (.c (.f f c)) (.c .nilf) = some (.c (.b true)) := by kernel_rfl
theorem neq2T60 : abin Try.prog .neq 60 (.c .nilf) (.c .nilf) = some (.c (.b false)) := by kernel_rfl
theorem dT61 : dT Try.prog 61 = .other := by kernel_rfl
theorem sT61 : szT Try.prog 61 = 1 := by kernel_rfl
theorem bT61 : byT Try.prog 61 = 8 := by kernel_rfl
theorem zT61 : zT Try.prog 61 = some [.nilf] := by kernel_rfl
theorem eql1T61 {f : Nat} {c : List (Nat × Nat × Nat)}  : abin Try.prog .eql 61 (.c (.f f c)) (.c .nilf) = some (.c (.b false)) := by kernel_rfl
theorem eql2T61 : abin Try.prog .eql 61 (.c .nilf) (.c .nilf) = some (.c (.b true)) := by kernel_rfl
theorem neq1T61 {f : Nat} {c : List (Nat × Nat × Nat)}  : abin Try.prog .neq 61 (.c (.f f c)) (.c .nilf) = some (.c (.b true)) := by kernel_rfl
theorem neq2T61 : abin Try.prog .neq 61 (.c .nilf) (.c .nilf) = some (.c (.b false)) := by kernel_rfl
theorem dT62 : dT Try.prog 62 = .int .u64 := by kernel_rfl
theorem sT62 : szT Try.prog 62 = 1 := by kernel_rfl
theorem bT62 : byT Try.prog 62 = 8 := by kernel_rfl
theorem zT62 : zT Try.prog 62 = some [.u 0#64] := by kernel_rfl
theorem dT63 : dT Try.prog 63 = .other := by kernel_rfl
theorem sT63 : szT Try.prog 63 = 1 := by kernel_rfl
theorem bT63 : byT Try.prog 63 = 8 := by kernel_rfl
theorem zT63 : zT Try.prog 63 = some [.nilf] := by kernel_rfl
theorem eql1T63 {f : Nat} {c : List (Nat × Nat × Nat)}  : abin Try.prog .eql 63 (.c (.f f c)) (.c .nilf) = some (.c (.b false)) := by kernel_rfl
theorem eql2T63 : abin Try.prog .eql 63 (.c .nilf) (.c .nilf) = some (.c (.b true)) := by kernel_rfl
theorem neq1T63 {f : Nat} {c : List (Nat × Nat × Nat)}  : abin Try.prog .neq 63 (.c (.f f c)) (.c .nilf) = some (.c (.b true)) := by kernel_rfl
theorem neq2T63 : abin Try.prog .neq 63 (.c .nilf) (.c .nilf) = some (.c (.b false)) := by kernel_rfl
theorem dT64 : dT Try.prog 64 = .int .i64 := by kernel_rfl
theorem sT64 : szT Try.prog 64 = 1 := by kernel_rfl
theorem bT64 : byT Try.prog 64 = 8 := by kernel_rfl
theorem zT64 : zT Try.prog 64 = some [.i 0] := by kernel_rfl
theorem dT66 : dT Try.prog 66 = .other := by kernel_rfl
theorem sT66 : szT Try.prog 66 = 1 := by kernel_rfl
theorem bT66 : byT Try.prog 66 = 8 := by kernel_rfl
theorem zT66 : zT Try.prog 66 = some [.nilf] := by kernel_rfl
theorem eql1T66 {f : Nat} {c : List (Nat × Nat × Nat)}  : abin Try.prog .eql 66 (.c (.f f c)) (.c .nilf) = some (.c (.b false)) := by kernel_rfl
theorem eql2T66 : abin Try.prog .eql 66 (.c .nilf) (.c .nilf) = some (.c (.b true)) := by kernel_rfl
theorem neq1T66 {f : Nat} {c : List (Nat × Nat × Nat)}  : abin Try.prog .neq 66 (.c (.f f c)) (.c .nilf) = some (.c (.b true)) := by kernel_rfl
theorem neq2T66 : abin Try.prog .neq 66 (.c .nilf) (.c .nilf) = some (.c (.b false)) := by kernel_rfl
theorem dT67 : dT Try.prog 67 = .other := by kernel_rfl
theorem sT67 : szT Try.prog 67 = 1 := by kernel_rfl
theorem bT67 : byT Try.prog 67 = 8 := by kernel_rfl
theorem zT67 : zT Try.prog 67 = some [.nilf] := by kernel_rfl
theorem eql1T67 {f : Nat} {c : List (Nat × Nat × Nat)}  : abin Try.prog .eql 67 (.c (.f f c)) (.c .nilf) = some (.c (.b false)) := by kernel_rfl
theorem eql2T67 : abin Try.prog .eql 67 (.c .nilf) (.c .nilf) = some (.c (.b true)) := by kernel_rfl
theorem neq1T67 {f : Nat} {c : List (Nat × Nat × Nat)}  : abin Try.prog .neq 67 (.c (.f f c)) (.c .nilf) = some (.c (.b true)) := by kernel_rfl
theorem neq2T67 : abin Try.prog .neq 67 (.c .nilf) (.c .nilf) = some (.c (.b false)) := by kernel_rfl
theorem dT68 : dT Try.prog 68 = .other := by kernel_rfl
theorem sT68 : szT Try.prog 68 = 1 := by kernel_rfl
theorem bT68 : byT Try.prog 68 = 8 := by kernel_rfl
theorem zT68 : zT Try.prog 68 = some [.nilf] := by kernel_rfl
theorem eql1T68 {f : Nat} {c : List (Nat × Nat × Nat)}  : abin Try.prog .eql 68 (.c (.f f c)) (.c .nilf) = some (.c (.b false)) := by kernel_rfl
theorem eql2T68 : abin Try.prog .eql 68 (.c .nilf) (.c .nilf) = some (.c (.b true)) := by kernel_rfl
theorem neq1T68 {f : Nat} {c : List (Nat × Nat × Nat)}  : abin Try.prog .neq 68 (.c (.f f c)) (.c .nilf) = some (.c (.b true)) := by kernel_rfl
theorem neq2T68 : abin Try.prog .neq 68 (.c .nilf) (.c .nilf) = some (.c (.b false)) := by kernel_rfl
theorem dT69 : dT Try.prog 69 = .other := by kernel_rfl
theorem sT69 : szT Try.prog 69 = 1 := by kernel_rfl
theorem bT69 : byT Try.prog 69 = 8 := by kernel_rfl
theorem zT69 : zT Try.prog 69 = some [.nilf] := by kernel_rfl
theorem eql1T69 {f : Nat} {c : List (Nat × Nat × Nat)}  : abin Try.prog .eql 69 (.c (.f f c)) (.c .nilf) = some (.c (.b false)) := by kernel_rfl
theorem eql2T69 : abin Try.prog .eql 69 (.c .nilf) (.c .nilf) = some (.c (.b true)) := by kernel_rfl
theorem neq1T69 {f : Nat} {c : List (Nat × Nat × Nat)}  : abin Try.prog .neq 69 (.c (.f f c)) (.c .nilf) = some (.c (.b true)) := by kernel_rfl
theorem neq2T69 : abin Try.prog .neq 69 (.c .nilf) (.c .nilf) = some (.c (.b false)) := by kernel_rfl
theorem dT71 : dT Try.prog 71 = .other := by kernel_rfl
theorem sT71 : szT Try.prog 71 = 1 := by kernel_rfl
theorem bT71 : byT Try.prog 71 = 8 := by kernel_rfl
theorem zT71 : zT Try.prog 71 = some [.nilf] := by kernel_rfl
theorem eql1T71 {f : Nat} {c : List (Nat × Nat × Nat)}  : abin Try.prog .eql 71 (.c (.f f c)) (.c .nilf) = some (.c (.b false)) := by kernel_rfl
theorem eql2T71 : abin Try.prog .eql 71 (.c .nilf) (.c .nilf) = some (.c (.b true)) := by kernel_rfl
theorem neq1T71 {f : Nat} {c : List (Nat × Nat × Nat)}  : abin Try.prog .neq 71 (.c (.f f c)) (.c .nilf) = some (.c (.b true)) := by kernel_rfl
theorem neq2T71 : abin Try.prog .neq 71 (.c .nilf) (.c .nilf) = some (.c (.b false)) := by kernel_rfl
theorem dT72 : dT Try.prog 72 = .other := by kernel_rfl
theorem sT72 : szT Try.prog 72 = 1 := by kernel_rfl
theorem bT72 : byT Try.prog 72 = 8 := by kernel_rfl
theorem zT72 : zT Try.prog 72 = some [.nilf] := by kernel_rfl
theorem eql1T72 {f : Nat} {c : List (Nat × Nat × Nat)}  : abin Try.prog .eql 72 (.c (.f f c)) (.c .nilf) = some (.c (.b false)) := by kernel_rfl
theorem eql2T72 : abin Try.prog .eql 72 (.c .nilf) (.c .nilf) = some (.c (.b true)) := by kernel_rfl
theorem neq1T72 {f : Nat} {c : List (Nat × Nat × Nat)}  : abin Try.prog .neq 72 (.c (.f f c)) (.c .nilf) = some (.c (.b true)) := by kernel_rfl
theorem neq2T72 : abin Try.prog .neq 72 (.c .nilf) (.c .nilf) = some (.c (.b false)) := by kernel_rfl
theorem dT73 : dT Try.prog 73 = .int .u32 := by kernel_rfl
theorem sT73 : szT Try.prog 73 = 1 := by kernel_rfl
theorem bT73 : byT Try.prog 73 = 4 := by kernel_rfl
theorem zT73 : zT Try.prog 73 = some [.k .u32 (0)] := by kernel_rfl
theorem dT74 : dT Try.prog 74 = .other := by kernel_rfl
theorem sT74 : szT Try.prog 74 = 1 := by kernel_rfl
theorem bT74 : byT Try.prog 74 = 8 := by kernel_rfl
theorem zT74 : zT Try.prog 74 = some [.nilf] := by kernel_rfl
theorem eql1T74 {f : Nat} {c : List (Nat × Nat × Nat)}  : abin Try.prog .eql 74 (.c (.f f c)) (.c .nilf) = some (.c (.b false)) := by kernel_rfl
theorem eql2T74 : abin Try.prog .eql 74 (.c .nilf) (.c .nilf) = some (.c (.b true)) := by kernel_rfl
theorem neq1T74 {f : Nat} {c : List (Nat × Nat × Nat)}  : abin Try.prog .neq 74 (.c (.f f c)) (.c .nilf) = some (.c (.b true)) := by kernel_rfl
theorem neq2T74 : abin Try.prog .neq 74 (.c .nilf) (.c .nilf) = some (.c (.b false)) := by kernel_rfl
theorem dT75 : dT Try.prog 75 = .int .u64 := by kernel_rfl
theorem sT75 : szT Try.prog 75 = 1 := by kernel_rfl
theorem bT75 : byT Try.prog 75 = 8 := by kernel_rfl
theorem zT75 : zT Try.prog 75 = some [.u 0#64] := by kernel_rfl
theorem dT76 : dT Try.prog 76 = .other := by kernel_rfl
theorem sT76 : szT Try.prog 76 = 1 := by kernel_rfl
theorem bT76 : byT Try.prog 76 = 8 := by kernel_rfl
theorem zT76 : zT Try.prog 76 = some [.nilf] := by kernel_rfl
theorem eql1T76 {f : Nat} {c : List (Nat × Nat × Nat)}  : abin Try.prog .eql 76 (.c (.f f c)) (.c .nilf) = some (.c (.b false)) := by kernel_rfl
theorem eql2T76 : abin Try.prog .eql 76 (.c .nilf) (.c .nilf) = some (.c (.b true)) := by kernel_rfl
theorem neq1T76 {f : Nat} {c : List (Nat × Nat × Nat)}  : abin Try.prog .neq 76 (.c (.f f c)) (.c .nilf) = some (.c (.b true)) := by kernel_rfl
theorem neq2T76 : abin Try.prog .neq 76 (.c .nilf) (.c .nilf) = some (.c (.b false)) := by kernel_rfl
theorem dT77 : dT Try.prog 77 = .other := by kernel_rfl
theorem sT77 : szT Try.prog 77 = 1 := by kernel_rfl
theorem bT77 : byT Try.prog 77 = 8 := by kernel_rfl
theorem zT77 : zT Try.prog 77 = some [.nilf] := by kernel_rfl
theorem eql1T77 {f : Nat} {c : List (Nat × Nat × Nat)}  : abin Try.prog .eql 77 (.c (.f f c)) (.c .nilf) = some (.c (.b false)) := by kernel_rfl
theorem eql2T77 : abin Try.prog .eql 77 (.c .nilf) (.c .nilf) = some (.c (.b true)) := by kernel_rfl
theorem neq1T77 {f : Nat} {c : List (Nat × Nat × Nat)}  : abin Try.prog .neq 77 (.c (.f f c)) (.c .nilf) = some (.c (.b true)) := by kernel_rfl
theorem neq2T77 : abin Try.prog .neq 77 (.c .nilf) (.c .nilf) = some (.c (.b false)) := by kernel_rfl
theorem dT78 : dT Try.prog 78 = .other := by kernel_rfl
theorem sT78 : szT Try.prog 78 = 1 := by kernel_rfl
theorem bT78 : byT Try.prog 78 = 8 := by kernel_rfl
theorem zT78 : zT Try.prog 78 = some [.nilf] := by kernel_rfl
theorem eql1T78 {f : Nat} {c : List (Nat × Nat × Nat)}  : abin Try.prog .eql 78 (.c (.f f c)) (.c .nilf) = some (.c (.b false)) := by kernel_rfl
theorem eql2T78 : abin Try.prog .eql 78 (.c .nilf) (.c .nilf) = some (.c (.b true)) := by kernel_rfl
theorem neq1T78 {f : Nat} {c : List (Nat × Nat × Nat)}  : abin Try.prog .neq 78 (.c (.f f c)) (.c .nilf) = some (.c (.b true)) := by kernel_rfl
theorem neq2T78 : abin Try.prog .neq 78 (.c .nilf) (.c .nilf) = some (.c (.b false)) := by kernel_rfl
theorem dT79 : dT Try.prog 79 = .ptr 3 := by kernel_rfl
theorem sT79 : szT Try.prog 79 = 1 := by kernel_rfl
theorem bT79 : byT Try.prog 79 = 8 := by kernel_rfl
theorem zT79 : zT Try.prog 79 = some [.nilp] := by kernel_rfl
theorem eql1T79 {a b c : Nat}  : abin Try.prog .eql 79 (.c (.p a b c)) (.c .nilp) = some (.c (.b false)) := by kernel_rfl
theorem eql2T79 : abin Try.prog .eql 79 (.c .nilp) (.c .nilp) = some (.c (.b true)) := by kernel_rfl
theorem neq1T79 {a b c : Nat}  : abin Try.prog .neq 79 (.c (.p a b c)) (.c .nilp) = some (.c (.b true)) := by kernel_rfl
theorem neq2T79 : abin Try.prog .neq 79 (.c .nilp) (.c .nilp) = some (.c (.b false)) := by kernel_rfl
theorem dT80 : dT Try.prog 80 = .other := by kernel_rfl
theorem sT80 : szT Try.prog 80 = 1 := by kernel_rfl
theorem bT80 : byT Try.prog 80 = 8 := by kernel_rfl
theorem zT80 : zT Try.prog 80 = some [.nilf] := by kernel_rfl
theorem eql1T80 {f : Nat} {c : List (Nat × Nat × Nat)}  : abin Try.prog .eql 80 (.c (.f f c)) (.c .nilf) = some (.c (.b false)) := by kernel_rfl
theorem eql2T80 : abin Try.prog .eql 80 (.c .nilf) (.c .nilf) = some (.c (.b true)) := by kernel_rfl
theorem neq1T80 {f : Nat} {c : List (Nat × Nat × Nat)}  : abin Try.prog .neq 80 (.c (.f f c)) (.c .nilf) = some (.c (.b true)) := by kernel_rfl
theorem neq2T80 : abin Try.prog .neq 80 (.c .nilf) (.c .nilf) = some (.c (.b false)) := by kernel_rfl
theorem dT81 : dT Try.prog 81 = .other := by kernel_rfl
theorem sT81 : szT Try.prog 81 = 1 := by kernel_rfl
theorem bT81 : byT Try.prog 81 = 8 := by kernel_rfl
theorem zT81 : zT Try.prog 81 = some [.nilf] := by kernel_rfl
theorem eql1T81 {f : Nat} {c : List (Nat × Nat × Nat)}  : abin Try.prog .eql 81 (.c (.f f c)) (.c .nilf) = some (.c (.b false)) := by kernel_rfl
theorem eql2T81 : abin Try.prog .eql 81 (.c .nilf) (.c .nilf) = some (.c (.b true)) := by kernel_rfl
theorem neq1T81 {f : Nat} {c : List (Nat × Nat × Nat)}  : abin Try.prog .neq 81 (.c (.f f c)) (.c .nilf) = some (.c (.b true)) := by kernel_rfl
theorem neq2T81 : abin Try.prog .neq 81 (.c .nilf) (.c .nilf) = some (.c (.b false)) := by kernel_rfl
theorem dT82 : dT Try.prog 82 = .ptr 75 := by kernel_rfl
theorem sT82 : szT Try.prog 82 = 1 := by kernel_rfl
theorem bT82 : byT Try.prog 82 = 8 := by kernel_rfl
theorem zT82 : zT Try.prog 82 = some [.nilp] := by kernel_rfl
theorem eql1T82 {a b c : Nat}  : abin Try.prog .eql 82 (.c (.p a b c)) (.c .nilp) = some (.c (.b false)) := by kernel_rfl
theorem eql2T82 : abin Try.prog .eql 82 (.c .nilp) (.c .nilp) = some (.c (.b true)) := by kernel_rfl
theorem neq1T82 {a b c : Nat}  : abin Try.prog .neq 82 (.c (.p a b c)) (.c .nilp) = some (.c (.b true)) := by kernel_rfl
theorem neq2T82 : abin Try.prog .neq 82 (.c .nilp) (.c .nilp) = some (.c (.b false)) := by kernel_rfl
theorem dT84 : dT Try.prog 84 = .other := by kernel_rfl
theorem sT84 : szT Try.prog 84 = 1 := by kernel_rfl
theorem bT84 : byT Try.prog 84 = 8 := by kernel_rfl
theorem zT84 : zT Try.prog 84 = some [.nilf] := by kernel_rfl
theorem eql1T84 {f : Nat} {c : List (Nat × Nat × Nat)}  : abin Try.prog .eql 84 (.c (.f f c)) (.c .nilf) = some (.c (.b false)) := by kernel_rfl
theorem eql2T84 : abin Try.prog .eql 84 (.c .nilf) (.c .nilf) = some (.c (.b true)) := by kernel_rfl
theorem neq1T84 {f : Nat} {c : List (Nat × Nat × Nat)}  : abin Try.prog .neq 84 (.c (.f f c)) (.c .nilf) = some (.c (.b true)) := by kernel_rfl
theorem neq2T84 : abin Try.prog .neq 84 (.c .nilf) (.c .nilf) = some (.c (.b false)) := by kernel_rfl
theorem dT85 : dT Try.prog 85 = .other := by kernel_rfl
theorem sT85 : szT Try.prog 85 = 1 := by kernel_rfl
theorem bT85 : byT Try.prog 85 = 8 := by kernel_rfl
theorem zT85 : zT Try.prog 85 = some [.nilf] := by kernel_rfl
theorem eql1T85 {f : Nat} {c : List (Nat × Nat × Nat)}  : abin Try.prog .eql 85 (.c (.f f c)) (.c .nilf) = some (.c (.b false)) := by kernel_rfl
theorem eql2T85 : abin Try.prog .eql 85 (.c .nilf) (.c .nilf) = some (.c (.b true)) := by kernel_rfl
theorem neq1T85 {f : Nat} {c : List (Nat × Nat × Nat)}  : abin Try.prog .neq 85 (.c (.f f c)) (.c .nilf) = some (.c (.b true)) := by kernel_rfl
theorem neq2T85 : abin Try.prog .neq 85 (.c .nilf) (.c .nilf) = some (.c (.b false)) := by kernel_rfl
theorem dT91 : dT Try.prog 91 = .other := by kernel_rfl
theorem sT91 : szT Try.prog 91 = 1 := by kernel_rfl
theorem bT91 : byT Try.prog 91 = 8 := by kernel_rfl
theorem zT91 : zT Try.prog 91 = some [.nilf] := by kernel_rfl
theorem eql1T91 {f : Nat} {c : List (Nat × Nat × Nat)}  : abin Try.prog .eql 91 (.c (.f f c)) (.c .nilf) = some (.c (.b false)) := by kernel_rfl
theorem eql2T91 : abin Try.prog .eql 91 (.c .nilf) (.c .nilf) = some (.c (.b true)) := by kernel_rfl
theorem neq1T91 {f : Nat} {c : List (Nat × Nat × Nat)}  : abin Try.prog .neq 91 (.c (.f f c)) (.c .nilf) = some (.c (.b true)) := by kernel_rfl
theorem neq2T91 : abin Try.prog .neq 91 (.c .nilf) (.c .nilf) = some (.c (.b false)) := by kernel_rfl
theorem dT94 : dT Try.prog 94 = .other := by kernel_rfl
theorem sT94 : szT Try.prog 94 = 1 := by kernel_rfl
theorem bT94 : byT Try.prog 94 = 8 := by kernel_rfl
theorem zT94 : zT Try.prog 94 = some [.nilf] := by kernel_rfl
theorem eql1T94 {f : Nat} {c : List (Nat × Nat × Nat)}  : abin Try.prog .eql 94 (.c (.f f c)) (.c .nilf) = some (.c (.b false)) := by kernel_rfl
theorem eql2T94 : abin Try.prog .eql 94 (.c .nilf) (.c .nilf) = some (.c (.b true)) := by kernel_rfl
theorem neq1T94 {f : Nat} {c : List (Nat × Nat × Nat)}  : abin Try.prog .neq 94 (.c (.f f c)) (.c .nilf) = some (.c (.b true)) := by kernel_rfl
theorem neq2T94 : abin Try.prog .neq 94 (.c .nilf) (.c .nilf) = some (.c (.b false)) := by kernel_rfl
theorem dT95 : dT Try.prog 95 = .ptr 5 := by kernel_rfl
theorem sT95 : szT Try.prog 95 = 1 := by kernel_rfl
theorem bT95 : byT Try.prog 95 = 8 := by kernel_rfl
theorem zT95 : zT Try.prog 95 = some [.nilp] := by kernel_rfl
theorem eql1T95 {a b c : Nat}  : abin Try.prog .eql 95 (.c (.p a b c)) (.c .nilp) = some (.c (.b false)) := by kernel_rfl
theorem eql2T95 : abin Try.prog .eql 95 (.c .nilp) (.c .nilp) = some (.c (.b true)) := by kernel_rfl
theorem neq1T95 {a b c : Nat}  : abin Try.prog .neq 95 (.c (.p a b c)) (.c .nilp) = some (.c (.b true)) := by kernel_rfl
theorem neq2T95 : abin Try.prog .neq 95 (.c .nilp) (.c .nilp) = some (.c (.b false)) := by kernel_rfl
theorem dT98 : dT Try.prog 98 = .st [(0, 12), (1, 12), (2, 73), (3, 92), (4, 5), (5, 5), (6, 93), (7, 94), (8, 95), (9, 96), (10, 97)] := by kernel_rfl
theorem sT98 : szT Try.prog 98 = 11 := by kernel_rfl
theorem bT98 : byT Try.prog 98 = 48 := by kernel_rfl
theorem zT98 : zT Try.prog 98 = some [.u 0#64, .u 0#64, .k .u32 (0), .k .u8 (0), .k .u8 (0), .k .u8 (0), .k .u8 (0), .nilf, .nilp, .k .i32 (0), .k .i32 (0)] := by kernel_rfl
attribute [go_sem] dT1 sT1 bT1 zT1 eql1T1 eql2T1 neq1T1 neq2T1 dT2 sT2 bT2 zT2 dT3 sT3 bT3 zT3 dT4 sT4 bT4 zT4 dT5 sT5 bT5 zT5 dT7 sT7 bT7 zT7 dT9 sT9 bT9 zT9 dT12 sT12 bT12 zT12 dT13 sT13 bT13 zT13 dT21 sT21 bT21 zT21 dT22 sT22 bT22 zT22 eql1T22 eql2T22 neq1T22 neq2T22 dT23 sT23 bT23 zT23 dT24 sT24 bT24 zT24 eql1T24 eql2T24 neq1T24 neq2T24 dT25 sT25 bT25 zT25 dT26 sT26 bT26 zT26 eqT26 neT26 dT27 sT27 bT27 zT27 eqT27 neT27 dT28 sT28 bT28 zT28 dT29 sT29 bT29 zT29 eqT29 neT29 dT30 sT30 bT30 zT30 eqT30 neT30 dT31 sT31 bT31 zT31 eqT31 neT31 dT32 sT32 bT32 zT32 dT33 sT33 bT33 zT33 eqT33 neT33 dT35 sT35 bT35 zT35 eql1T35 eql2T35 neq1T35 neq2T35 dT36 sT36 bT36 zT36 eql1T36 eql2T36 neq1T36 neq2T36 dT37 sT37 bT37 zT37 dT38 sT38 bT38 zT38 eqT38 neT38 dT39 sT39 bT39 zT39 eql1T39 eql2T39 neq1T39 neq2T39 dT41 sT41 bT41 zT41 eql1T41 eql2T41 neq1T41 neq2T41 dT42 sT42 bT42 zT42 eql1T42 eql2T42 neq1T42 neq2T42 dT43 sT43 bT43 zT43 eql1T43 eql2T43 neq1T43 neq2T43 dT44 sT44 bT44 zT44 eql1T44 eql2T44 neq1T44 neq2T44 dT45 sT45 bT45 zT45 eql1T45 eql2T45 neq1T45 neq2T45 dT46 sT46 bT46 zT46 eql1T46 eql2T46 neq1T46 neq2T46 dT47 sT47 bT47 zT47 eql1T47 eql2T47 neq1T47 neq2T47 dT48 sT48 bT48 zT48 eql1T48 eql2T48 neq1T48 neq2T48 dT49 sT49 bT49 zT49 eql1T49 eql2T49 neq1T49 neq2T49 dT50 sT50 bT50 zT50 eql1T50 eql2T50 neq1T50 neq2T50 dT51 sT51 bT51 zT51 eql1T51 eql2T51 neq1T51 neq2T51 dT52 sT52 bT52 zT52 eql1T52 eql2T52 neq1T52 neq2T52 dT54 sT54 bT54 zT54 eql1T54 eql2T54 neq1T54 neq2T54 mT55 kA26 kOkG26 zA3 dT56 sT56 bT56 zT56 eql1T56 eql2T56 neq1T56 neq2T56 dT57 sT57 bT57 zT57 eql1T57 eql2T57 neq1T57 neq2T57 dT58 sT58 bT58 zT58 eql1T58 eql2T58 neq1T58 neq2T58 dT59 sT59 bT59 zT59 eql1T59 eql2T59 neq1T59 neq2T59 dT60 sT60 bT60 zT60 eql1T60 eql2T60 neq1T60 neq2T60 dT61 sT61 bT61 zT61 eql1T61 eql2T61 neq1T61 neq2T61 dT62 sT62 bT62 zT62 dT63 sT63 bT63 zT63 eql1T63 eql2T63 neq1T63 neq2T63 dT64 sT64 bT64 zT64 dT66 sT66 bT66 zT66 eql1T66 eql2T66 neq1T66 neq2T66 dT67 sT67 bT67 zT67 eql1T67 eql2T67 neq1T67 neq2T67 dT68 sT68 bT68 zT68 eql1T68 eql2T68 neq1T68 neq2T68 dT69 sT69 bT69 zT69 eql1T69 eql2T69 neq1T69 neq2T69 dT71 sT71 bT71 zT71 eql1T71 eql2T71 neq1T71 neq2T71 dT72 sT72 bT72 zT72 eql1T72 eql2T72 neq1T72 neq2T72 dT73 sT73 bT73 zT73 dT74 sT74 bT74 zT74 eql1T74 eql2T74 neq1T74 neq2T74 dT75 sT75 bT75 zT75 dT76 sT76 bT76 zT76 eql1T76 eql2T76 neq1T76 neq2T76 dT77 sT77 bT77 zT77 eql1T77 eql2T77 neq1T77 neq2T77 dT78 sT78 bT78 zT78 eql1T78 eql2T78 neq1T78 neq2T78 dT79 sT79 bT79 zT79 eql1T79 eql2T79 neq1T79 neq2T79 dT80 sT80 bT80 zT80 eql1T80 eql2T80 neq1T80 neq2T80 dT81 sT81 bT81 zT81 eql1T81 eql2T81 neq1T81 neq2T81 dT82 sT82 bT82 zT82 eql1T82 eql2T82 neq1T82 neq2T82 dT84 sT84 bT84 zT84 eql1T84 eql2T84 neq1T84 neq2T84 dT85 sT85 bT85 zT85 eql1T85 eql2T85 neq1T85 neq2T85 dT91 sT91 bT91 zT91 eql1T91 eql2T91 neq1T91 neq2T91 dT94 sT94 bT94 zT94 eql1T94 eql2T94 neq1T94 neq2T94 dT95 sT95 bT95 zT95 eql1T95 eql2T95 neq1T95 neq2T95 dT98 sT98 bT98 zT98
end Go.Proofs.Ytbnfapacbfeabaa
